/- Go functions of this seat as plain functions, each with the proof that its call comes to what that function says: written by this session's program (wip/drive.py) out of the translation, by the kit's printer and by texts of our own; no conditions. -/
import Derived.Test.YtkikaakfdggklaaQx0
import Derived.Test.YtkikaakfdggklaaQx25
import Derived.Test.YtkikaakfdggklaaQx30
import Derived.Test.YtkikaakfdggklaaQx50
import Derived.Test.YtkikaakfdggklaaQx51
import Derived.Shelf.Abstract
namespace Go.Proofs.Ytkikaakfdggklaa.Q
open Go.RowKit Go.Proofs.YtkikaakfdggklaaW.PrintWords Go.Proofs.YtkikaakfdggklaaW.PrintLast Go.Proofs.YtkikaakfdggklaaW.PrintMore
attribute [local go_sem] max2_int min2_int max_two min_two max_three min_three max_four min_four   -- for this text's walks alone
set_option linter.unusedVariables false
set_option linter.unusedSimpArgs false

/-! ### impl_FirstRound: function 62 -/
mutual
/-- The program's search for a round: the first order of all bridges that goes on from one. -/
def round1.f : Nat → List S37 → Int → List Int → Int → Option (List Int × Bool)
  | 0, _, _, _, _ => none
  | k + 1, l, from_, list, now => if (list.length : Int) = (l.length : Int) then some (list, now == from_) else round1.l0 k l from_ list now 0
def round1.l0 : Nat → List S37 → Int → List Int → Int → Int → Option (List Int × Bool)
  | 0, _, _, _, _, _ => none
  | k + 1, l, from_, list, now, i => if i < (l.length : Int) then (if 0 ≤ i then ((slices_Contains_int_int.f k list i).bind fun b => if b = true then round1.l0 k l from_ list now (wrap64 (i + 1)) else if (rd_T37 l i).f0 ≠ now ∧ (rd_T37 l i).f1 ≠ now then round1.l0 k l from_ list now (wrap64 (i + 1)) else if list.length < 17592186044415 then ((round1.f k l from_ (list ++ [i]) (wrap64 (wrap64 ((rd_T37 l i).f0 + (rd_T37 l i).f1) - now))).bind fun q => if q.2 = true then some (q.1, true) else round1.l0 k l from_ list now (wrap64 (i + 1))) else none) else none) else some ([], false)
end
theorem round1.mono_l : ∀ k, (∀ y0 y1 y2 y3, LeO (round1.f k y0 y1 y2 y3) (round1.f (k + 1) y0 y1 y2 y3)) ∧ (∀ y0 y1 y2 y3 y4, LeO (round1.l0 k y0 y1 y2 y3 y4) (round1.l0 (k + 1) y0 y1 y2 y3 y4))
  | 0 => ⟨fun _ _ _ _ r h => by simp [round1.f] at h, fun _ _ _ _ _ r h => by simp [round1.l0] at h⟩
  | k + 1 => by
    obtain ⟨ih0, ih1⟩ := round1.mono_l k
    refine ⟨?_, ?_⟩
    · intro y0 y1 y2 y3
      unfold round1.f
      repeat' first
      | (with_reducible exact ih1 _ _ _ _ _)
      | (with_reducible exact LeO.refl _)
      | (with_reducible refine LeO.ite ?_ ?_)
    · intro y0 y1 y2 y3 y4
      unfold round1.l0
      repeat' first
      | (with_reducible exact ih0 _ _ _ _)
      | (with_reducible exact ih1 _ _ _ _ _)
      | (with_reducible exact slices_Contains_int_int.mono _ _ _)
      | (with_reducible exact LeO.refl _)
      | (with_reducible exact LeO.none _)
      | (with_reducible refine LeO.ite ?_ ?_)
      | (with_reducible refine LeO.bind ?_ (fun _ => ?_))
theorem row_C4 {e : Nat} {w : World} {base : Nat} {ok : Nat → Prop} {A : Option Addr} {n c : Nat} {xs : List Int} (h : Kd.R (Kd.int .i64) e w base ok (.slice A n c) xs) : Kd.C (Kd.int .i64) w A xs.length xs := by
  obtain ⟨A', c', e, _, hC⟩ := Kd.R_reads h
  cases e
  exact hC
/-- The search's own value. -/
def roundFn (bs bh bf : Nat) : Value := .func (.func 99) #[] #[.pointer (some ⟨bs, 0, none⟩), .pointer (some ⟨bh, 0, none⟩), .pointer (some ⟨bf, 0, none⟩)]
/-- The blocks of the search's variables: the isles, the home, the search itself. -/
def RoundBox (bs bh bf : Nat) (n : Int) (A : Option Addr) (len c : Nat) (from_ : Int) (W : World) : Prop :=
  W.heap[bs]? = some (.cells #[.int .i64 n, .slice A len c] 29 (0, 0)) ∧ W.heap[bh]? = some (.cells #[.int .i64 from_] 3 (0, 0)) ∧ W.heap[bf]? = some (.cells #[roundFn bs bh bf] 89 (0, 0))
theorem Round_below {bs bh bf : Nat} {n : Int} {A : Option Addr} {len c : Nat} {from_ : Int} {W W' : World} (h : RoundBox bs bh bf n A len c from_ W) (hb : Below W.heap.size W W') : RoundBox bs bh bf n A len c from_ W' :=
  ⟨blk_below h.1 hb, blk_below h.2.1 hb, blk_below h.2.2 hb⟩
set_option maxHeartbeats 8000000 in
set_option maxRecDepth 100000 in
theorem round1_calls (w0 : World) (n : Int) (A : Option Addr) (c : Nat) (l : List S37) (hC : Kd.C k37 w0 A l.length l) (hc : l.length ≤ c) (from_ : Int) (bs bh bf : Nat) :
    ∀ (k : Nat) (list : List Int) (now : Int) (r1 : List Int) (r2 : Bool) (v : Value) (W : World), Below w0.heap.size w0 W → RoundBox bs bh bf n A l.length c from_ W → Kd.R (Kd.int .i64) 3 W w0.heap.size (fun _ => True) v list →
      round1.f k l from_ list now = some (r1, r2) →
      Calls Try.prog 99 #[v, .int .i64 now, .pointer (some ⟨bs, 0, none⟩), .pointer (some ⟨bh, 0, none⟩), .pointer (some ⟨bf, 0, none⟩)] W fun e w' => ∃ v0_ : Value, e = .returned (.tuple #[v0_, .bool r2]) ∧ Kd.R (Kd.int .i64) 3 w' w0.heap.size (fun _ => True) v0_ r1 ∧ Below W.heap.size W w' := by
  intro k
  induction k using Nat.strongRecOn with
  | ind k IH =>
  intro list now r1 r2 v W hB hX hv h
  cases k with
  | zero => simp [round1.f] at h
  | succ k =>
  rw [round1.f] at h
  obtain ⟨Av, cv, rfl, hvl, hvC⟩ := Kd.R_reads hv
  have hmx := Kd.C_max hvC
  have hcs1 : W.cell? ⟨bs, 1, none⟩ = some (.slice A l.length c) := (blk_cell hX.1 1).trans rfl
  have hch : W.cell? ⟨bh, 0, none⟩ = some (.int .i64 from_) := (blk_cell hX.2.1 0).trans rfl
  have hLL := Kd.C_max hC
  have HV := Aside0.mk hv
  have HVC := Aside0.mk hvC
  have HX := Aside0.mk hX
  have HB := Aside0.mk hB
  have HC := Aside0.mk hC
  have mixed : Try.prog.follows .mixedOrders = true := by kernel_rfl
  clear hv hB hvC hC hX
  by_cases ht : (list.length : Int) = (l.length : Int)
  · rw [if_pos ht] at h
    obtain ⟨rfl, rfl⟩ := Prod.mk.injEq .. ▸ Option.some.inj h
    clear h
    have hbt : ((list.length : Int) == (l.length : Int)) = true := beq_iff_eq.2 ht
    have ht2 := Aside0.mk ht
    go_enter Try.func99, Try.ntmps99
    go_wp2
    refine start_ (n := 6) (S := fun u => u.cell? ⟨bh, 0, none⟩ = some (.int .i64 from_)) (ds := []) #[false, false, false, false, false, false] mixed rfl rfl hch (fun hHeld => ?_)
    have HBd := Aside0.mk (below_drew (Below.refl W.heap.size W))
    clear hch
    generalize W.drew = wd at HBd hHeld ⊢
    refine pure_ (i := 0) (N := some 19) (v := ?_) (a' := ?_) #[true, false, false, false, false, false] rfl rfl (by kernel_rfl) (fun _ _ _ h => h) (Or.inl ⟨by rfl, ?_⟩) ?_ ?_
    rotate_left
    · intro w'
      go_simp
      with_reducible rfl
    rotate_left
    · simp only [Act.put, List.setIfInBounds_toArray, List.set_cons_zero, List.set_cons_succ, i64_w, i32_w]
      rfl
    refine pure_ (i := 1) (N := some 20) (v := ?_) (a' := ?_) #[true, true, false, false, false, false] rfl rfl (by kernel_rfl) (fun _ _ _ h => h) (Or.inl ⟨by rfl, ?_⟩) ?_ ?_
    rotate_left
    · intro w'
      go_simp
      with_reducible rfl
    rotate_left
    · simp only [Act.put, List.setIfInBounds_toArray, List.set_cons_zero, List.set_cons_succ, i64_w, i32_w]
      rfl
    refine take_ (i := 2) (N := some 21) (v := ?_) (a' := ?_) #[true, true, true, false, false, false] rfl rfl (by kernel_rfl) (fun _ _ _ h => h) (Or.inl ⟨by rfl, ?_⟩) hHeld ?_ ?_
    rotate_left
    · rintro w' s0
      go_simp
      with_reducible rfl
    rotate_left
    · simp only [Act.put, List.setIfInBounds_toArray, List.set_cons_zero, List.set_cons_succ, i64_w, i32_w]
      rfl
    refine pure_ (i := 3) (N := some 22) (v := ?_) (a' := ?_) #[true, true, true, true, false, false] rfl rfl (by kernel_rfl) (fun _ _ _ h => h) (Or.inl ⟨by rfl, ?_⟩) ?_ ?_
    rotate_left
    · intro w'
      go_simp
      with_reducible rfl
    rotate_left
    · simp only [Act.put, List.setIfInBounds_toArray, List.set_cons_zero, List.set_cons_succ, i64_w, i32_w]
      rfl
    refine pure_ (i := 4) (N := some 7) (v := ?_) (a' := ?_) #[true, true, true, true, true, false] rfl rfl (by kernel_rfl) (fun _ _ _ h => h) (Or.inl ⟨by rfl, ?_⟩) ?_ ?_
    rotate_left
    · intro w'
      go_simp
      with_reducible rfl
    rotate_left
    · simp only [Act.put, List.setIfInBounds_toArray, List.set_cons_zero, List.set_cons_succ, i64_w, i32_w]
      rfl
    refine pure_ (i := 5) (N := some 8) (v := ?_) (a' := ?_) #[true, true, true, true, true, true] rfl rfl (by kernel_rfl) (fun _ _ _ h => h) (Or.inl ⟨by rfl, ?_⟩) ?_ ?_
    rotate_left
    · intro w'
      go_simp
      with_reducible rfl
    rotate_left
    · simp only [Act.put, List.setIfInBounds_toArray, List.set_cons_zero, List.set_cons_succ, i64_w, i32_w]
      rfl
    refine done_ (by kernel_rfl) ?_
    go_wp2
    go_ret2
    exact ⟨_, rfl, Kd.R_below HV.out HBd.out, HBd.out⟩
  · rw [if_neg ht] at h
    have H' := Aside0.mk h
    have hbt : ((list.length : Int) == (l.length : Int)) = false := beq_eq_false_iff_ne.2 ht
    have ht2 := Aside0.mk ht
    clear h ht
    go_enter Try.func99, Try.ntmps99
    go_wp2
    go_loopg [9, 10, 11, 12, 26] k (fun kq _ _ _ _ v26 w' => ∃ (i : Int), v26 = .int .i64 i ∧ Aside0 (round1.l0 kq l from_ list now i = some (r1, r2)) ∧ Aside0 (kq ≤ k) ∧ Aside0 (Below W.heap.size W w'))
    case atStart => exact ⟨0, rfl, H', ⟨Nat.le_refl _⟩, ⟨Below.refl _ _⟩⟩
    case round =>
      obtain ⟨i, rfl, HH, HK, HWr⟩ := hrel
      clear H' hcs1 hch
      cases gk with
      | zero => exact absurd HH.out (by simp [round1.l0])
      | succ gk =>
      have h := HH.out
      clear HH
      rw [round1.l0] at h
      have HBr := Aside0.mk (below_step HB.out HWr.out)
      have HXr := Aside0.mk (Round_below HX.out HWr.out)
      by_cases c1 : i < (l.length : Int)
      · rw [if_pos c1] at h
        by_cases c2 : 0 ≤ i
        · rw [if_pos c2] at h
          obtain ⟨b, h1, h⟩ := Option.bind_eq_some_iff.mp h
          obtain ⟨j, rfl⟩ : ∃ j : Nat, i = (j : Int) := ⟨i.toNat, by omega⟩
          have hwj : wrap64 ((j : Int) + 1) = (j : Int) + 1 := by unfold wrap64; omega
          rw [hwj] at h
          obtain ⟨ad, hA, g0, g1, g2⟩ := at_T37 (Kd.C_below HC.out HBr.out) (j : Int) (by omega) (by omega)
          rw [Int.toNat_natCast] at g0 g1 g2
          subst hA
          obtain ⟨x, hx⟩ : ∃ x, x = rd_T37 l (j : Int) := ⟨_, rfl⟩
          rw [← hx] at g0 g1 g2 h
          have HVr := Aside0.mk (Kd.R_below HV.out HWr.out)
          have HVCr := Aside0.mk (row_C4 HVr.out)
          have hCT : ∀ (w : World) (hw : Below wr.heap.size wr w), Calls Try.prog 100 #[.slice Av list.length cv, .int .i64 (j : Int)] w fun e w' => e = .returned (.bool b) ∧ Drawn0 w w' := fun w hw => slices_Contains_int_int.calls gk Av cv list (j : Int) b w (Kd.C_below HVCr.out hw) hvl h1
          obtain ⟨wA, hwA⟩ : ∃ wA, wA = wr.alloc (.cells #[.int .i64 x.f0, .int .i64 x.f1, .int .i64 x.f2] 37 (0, 0)) := ⟨_, rfl⟩
          have hblk : wA.heap[wr.heap.size]? = some (.cells #[.int .i64 x.f0, .int .i64 x.f1, .int .i64 x.f2] 37 (0, 0)) := by rw [hwA]; exact blk_new wr _
          have HBA := Aside0.mk (show Below wr.heap.size wr wA from by rw [hwA]; exact below_alloc (Below.refl _ _) _)
          have HAb := Aside0.mk hblk
          have HWA := Aside0.mk hwA
          clear hblk hwA h1 hx
          cases b with
          | true =>
            rw [if_pos rfl] at h
            have H' := Aside0.mk h
            clear h
            go_wp2_with (go_at_call 100; rw [← HWA.out]; refine (hCT wA HBA.out).mono ?_; rintro e w2 ⟨rfl, hb2⟩; have HB2 := Aside0.mk (below_step HBA.out hb2.below); clear hb2)
            go_roundg gk
            case measure => omega
            case rel => exact ⟨_, by first | rfl | (simp; done) | (simp [*]; done), H', ⟨by have := HK.out; omega⟩, ⟨below_step HWr.out HB2.out⟩⟩
          | false =>
            rw [if_neg (by simp)] at h
            by_cases d0 : x.f0 = now
            · rw [if_neg (fun hh => hh.1 d0)] at h
              have z0 : (x.f0 == now) = true := by simp [d0]
              have y0 : (x.f0 != now) = false := by simp [d0]
              have D0 := Aside0.mk d0
              clear d0
              by_cases c3 : list.length < 17592186044415
              · rw [if_pos c3] at h
                obtain ⟨⟨q1, q2⟩, h3, h⟩ := Option.bind_eq_some_iff.mp h
                have HQ := Aside0.mk h3
                have H' := Aside0.mk h
                have c3' := Aside0.mk c3
                have hCL : ∀ (w : World) (hw : Below wr.heap.size wr w), Calls Try.prog 101 #[.slice Av list.length cv] w fun e w' => ∃ v0_ : Value, e = .returned (v0_) ∧ Kd.R (Kd.int .i64) 3 w' w.heap.size (fun _ => True) v0_ list ∧ Below w.heap.size w w' := fun w hw => slices_Clone_int_int.calls Av cv list list w (Kd.C_below HVCr.out hw) hvl (if_pos (by have := c3'.out; omega))
                have egw : ∀ args w, (callFunc 99 args).run Try.prog w = .ok (.enter 99 args) w := enters_ Try.func99 (by kernel_rfl) rfl
                clear h h3 c3
                go_wp2_with (go_at_call 100; rw [← HWA.out]; refine (hCT wA HBA.out).mono ?_; rintro e w2 ⟨rfl, hb2⟩; have HB2 := Aside0.mk (below_step HBA.out hb2.below); have HA2 := Aside0.mk (blk_below HAb.out hb2.below); have hx0 : w2.cell? ⟨wr.heap.size, 0, none⟩ = some (.int .i64 x.f0) := (blk_cell HA2.out 0).trans rfl; have hx1 : w2.cell? ⟨wr.heap.size, 1, none⟩ = some (.int .i64 x.f1) := (blk_cell HA2.out 1).trans rfl; clear hb2)
                have HS_ : ∀ (u : World), Below w2.heap.size w2 u → u.cell? ⟨bf, 0, none⟩ = some (roundFn bs bh bf) ∧ u.cell? ⟨wr.heap.size, 0, none⟩ = some (.int .i64 x.f0) ∧ u.cell? ⟨wr.heap.size, 1, none⟩ = some (.int .i64 x.f1) := fun u hu => ⟨(blk_cell (blk_below (blk_below HXr.out.2.2 HB2.out) hu) 0).trans rfl, (blk_cell (blk_below HA2.out hu) 0).trans rfl, (blk_cell (blk_below HA2.out hu) 1).trans rfl⟩
                have HB0 := Aside0.mk (below_drew (Below.refl w2.heap.size w2))
                refine start_ (n := 19) (S := fun u => u.cell? ⟨bf, 0, none⟩ = some (roundFn bs bh bf) ∧ u.cell? ⟨wr.heap.size, 0, none⟩ = some (.int .i64 x.f0) ∧ u.cell? ⟨wr.heap.size, 1, none⟩ = some (.int .i64 x.f1)) (ds := []) #[false, false, false, false, false, false, false, false, false, false, false, false, false, false, false, false, false, false, false] mixed rfl rfl (HS_ _ HB0.out) (fun hHeld => ?_)
                have HBd := HB0
                clear HB0
                generalize w2.drew = wd at HBd hHeld ⊢
                refine pure_ (i := 1) (N := some 48) (v := ?_) (a' := ?_) #[false, true, false, false, false, false, false, false, false, false, false, false, false, false, false, false, false, false, false] rfl rfl (by kernel_rfl) (fun _ _ _ h => h) (Or.inl ⟨by rfl, ?_⟩) ?_ ?_
                rotate_left
                · intro w'
                  go_simp
                  with_reducible rfl
                rotate_left
                · simp only [Act.put, List.setIfInBounds_toArray, List.set_cons_zero, List.set_cons_succ, i64_w, i32_w]
                  rfl
                refine pure_ (i := 3) (N := some 50) (v := ?_) (a' := ?_) #[false, true, false, true, false, false, false, false, false, false, false, false, false, false, false, false, false, false, false] rfl rfl (by kernel_rfl) (fun _ _ _ h => h) (Or.inl ⟨by rfl, ?_⟩) ?_ ?_
                rotate_left
                · intro w'
                  go_simp
                  with_reducible rfl
                rotate_left
                · simp only [Act.put, List.setIfInBounds_toArray, List.set_cons_zero, List.set_cons_succ, i64_w, i32_w]
                  rfl
                refine pure_ (i := 6) (N := some 53) (v := ?_) (a' := ?_) #[false, true, false, true, false, false, true, false, false, false, false, false, false, false, false, false, false, false, false] rfl rfl (by kernel_rfl) (fun _ _ _ h => h) (Or.inl ⟨by rfl, ?_⟩) ?_ ?_
                rotate_left
                · intro w'
                  go_simp
                  with_reducible rfl
                rotate_left
                · simp only [Act.put, List.setIfInBounds_toArray, List.set_cons_zero, List.set_cons_succ, i64_w, i32_w]
                  rfl
                refine pure_ (i := 8) (N := some 55) (v := ?_) (a' := ?_) #[false, true, false, true, false, false, true, false, true, false, false, false, false, false, false, false, false, false, false] rfl rfl (by kernel_rfl) (fun _ _ _ h => h) (Or.inl ⟨by rfl, ?_⟩) ?_ ?_
                rotate_left
                · intro w'
                  go_simp
                  with_reducible rfl
                rotate_left
                · simp only [Act.put, List.setIfInBounds_toArray, List.set_cons_zero, List.set_cons_succ, i64_w, i32_w]
                  rfl
                refine pure_ (i := 11) (N := some 58) (v := ?_) (a' := ?_) #[false, true, false, true, false, false, true, false, true, false, false, true, false, false, false, false, false, false, false] rfl rfl (by kernel_rfl) (fun _ _ _ h => h) (Or.inl ⟨by rfl, ?_⟩) ?_ ?_
                rotate_left
                · intro w'
                  go_simp
                  with_reducible rfl
                rotate_left
                · simp only [Act.put, List.setIfInBounds_toArray, List.set_cons_zero, List.set_cons_succ, i64_w, i32_w]
                  rfl
                refine take_ (i := 0) (N := some 47) (v := ?_) (a' := ?_) #[true, true, false, true, false, false, true, false, true, false, false, true, false, false, false, false, false, false, false] rfl rfl (by kernel_rfl) (fun _ _ _ h => h) (Or.inl ⟨by rfl, ?_⟩) hHeld ?_ ?_
                rotate_left
                · rintro w' ⟨s0, s1, s2⟩
                  go_simp
                  with_reducible rfl
                rotate_left
                · simp only [Act.put, List.setIfInBounds_toArray, List.set_cons_zero, List.set_cons_succ, i64_w, i32_w]
                  rfl
                refine take_ (i := 7) (N := some 54) (v := ?_) (a' := ?_) #[true, true, false, true, false, false, true, true, true, false, false, true, false, false, false, false, false, false, false] rfl rfl (by kernel_rfl) (fun _ _ _ h => h) (Or.inl ⟨by rfl, ?_⟩) hHeld ?_ ?_
                rotate_left
                · rintro w' ⟨s0, s1, s2⟩
                  go_simp
                  with_reducible rfl
                rotate_left
                · simp only [Act.put, List.setIfInBounds_toArray, List.set_cons_zero, List.set_cons_succ, i64_w, i32_w]
                  rfl
                refine take_ (i := 9) (N := some 56) (v := ?_) (a' := ?_) #[true, true, false, true, false, false, true, true, true, true, false, true, false, false, false, false, false, false, false] rfl rfl (by kernel_rfl) (fun _ _ _ h => h) (Or.inl ⟨by rfl, ?_⟩) hHeld ?_ ?_
                rotate_left
                · rintro w' ⟨s0, s1, s2⟩
                  go_simp
                  with_reducible rfl
                rotate_left
                · simp only [Act.put, List.setIfInBounds_toArray, List.set_cons_zero, List.set_cons_succ, i64_w, i32_w]
                  rfl
                refine pure_ (i := 10) (N := some 57) (v := ?_) (a' := ?_) #[true, true, false, true, false, false, true, true, true, true, true, true, false, false, false, false, false, false, false] rfl rfl (by kernel_rfl) (fun _ _ _ h => h) (Or.inl ⟨by rfl, ?_⟩) ?_ ?_
                rotate_left
                · intro w'
                  go_simp
                  with_reducible rfl
                rotate_left
                · simp only [Act.put, List.setIfInBounds_toArray, List.set_cons_zero, List.set_cons_succ, i64_w, i32_w]
                  rfl
                refine pure_ (i := 12) (N := some 59) (v := ?_) (a' := ?_) #[true, true, false, true, false, false, true, true, true, true, true, true, true, false, false, false, false, false, false] rfl rfl (by kernel_rfl) (fun _ _ _ h => h) (Or.inl ⟨by rfl, ?_⟩) ?_ ?_
                rotate_left
                · intro w'
                  go_simp
                  with_reducible rfl
                rotate_left
                · simp only [Act.put, List.setIfInBounds_toArray, List.set_cons_zero, List.set_cons_succ, i64_w, i32_w]
                  rfl
                refine join_ (σ := Value × Option Addr × Nat) 7 #[true, true, true, true, true, false, true, true, true, true, true, true, true, false, false, false, false, false, false] (fun s_ => [(49, s_.1), (51, .slice s_.2.1 1 s_.2.2)]) (fun s_ u => (u.cell? ⟨bf, 0, none⟩ = some (roundFn bs bh bf) ∧ u.cell? ⟨wr.heap.size, 0, none⟩ = some (.int .i64 x.f0) ∧ u.cell? ⟨wr.heap.size, 1, none⟩ = some (.int .i64 x.f1)) ∧ Kd.R (Kd.int .i64) 3 u w2.heap.size (fun _ => True) s_.1 list ∧ Kd.C (Kd.int .i64) u s_.2.1 1 [(j : Int)] ∧ Below w2.heap.size w2 u) ?_ ?_
                rotate_left
                · intro hCont
                  refine two_ (i := 2) (j := 4) (Ni := some 49) (Nj := some 51) #[true, true, true, true, false, false, true, true, true, true, true, true, true, false, false, false, false, false, false] #[true, true, false, true, true, false, true, true, true, true, true, true, true, false, false, false, false, false, false] rfl rfl rfl rfl (by kernel_rfl) (by decide) (by decide) (fun K hK => ?_) (fun K hK => ?_)
                  · skip
                    refine goes_ Try.func101 (by kernel_rfl) rfl #[.slice Av list.length cv] (by rfl) rfl rfl (by (try simp only [List.map_toArray, List.map_cons, List.map_nil]); first | done | rfl) ?_
                    refine (hCL wd (below_step HB2.out HBd.out)).mono ?_
                    rintro e w3 ⟨v1, rfl, ho, hb⟩
                    refine ⟨_, rfl, ?_⟩
                    have HB3 := Aside0.mk (below_step HBd.out hb)
                    have HR1 := Aside0.mk (Kd.R_lower ho (below_size HBd.out))
                    clear hb ho
                    refine hK.out _ _ (HS_ _ HB3.out) (fun hHeld => ?_)
                    clear hK K
                    refine norm_ (a' := ?_) ?_ ?_
                    rotate_left
                    · show Act.put _ (some 49) _ = _
                      simp only [Act.put, List.setIfInBounds_toArray, List.set_cons_zero, List.set_cons_succ, i64_w, i32_w]
                      rfl
                    refine one_ (i := 4) (N := some 51) #[true, true, true, true, true, false, true, true, true, true, true, true, true, false, false, false, false, false, false] rfl rfl (by kernel_rfl) (by decide) (fun K hK => ?_)
                    refine Kd.R_lit_step (Kd.int .i64) _ 3 ?hg (N := 51) ?hd (xs := ([(j : Int)] : List Int)) (inner := [.int .i64 (j : Int)]) (ok := fun _ => True) (okp := fun _ => True) ?hr ?hp (fun _ hk => hk) trivial (Below.refl _ _) (Nat.le_refl _) (by simp) ?_; (case hd => rfl); (case hg => rfl); (case hr => first | (go_simp; done) | (go_simp; rfl)); (case hp => exact (Reps.one (show Kd.M (Kd.int .i64) _ _ _ (j : Int) [.int .i64 (j : Int)] from rfl) (Reps.none _ _)))
                    intro v2 w4 ho hb hg_ hnew_
                    clear hg_ hnew_
                    have HB4 := Aside0.mk (below_step HB3.out hb)
                    have HR2 := Aside0.mk (Kd.R_below HR1.out hb)
                    obtain ⟨A2, c2, rfl, hc2, hC2⟩ := Kd.R_reads ho
                    clear hb ho
                    refine hK.out _ _ (HS_ _ HB4.out) (fun hHeld => ?_)
                    clear hK K
                    refine norm_ (a' := ?_) ?_ ?_
                    rotate_left
                    · show Act.put _ (some 51) _ = _
                      simp only [Act.put, List.setIfInBounds_toArray, List.set_cons_zero, List.set_cons_succ, i64_w, i32_w]
                      rfl
                    exact norm_ (by simp only [putAll, Act.put, List.setIfInBounds_toArray, List.set_cons_zero, List.set_cons_succ]; rfl) (hCont (v1, A2, c2) _ ⟨hHeld, HR2.out, hC2, HB4.out⟩)
                  · skip
                    refine Kd.R_lit_step (Kd.int .i64) _ 3 ?hg (N := 51) ?hd (xs := ([(j : Int)] : List Int)) (inner := [.int .i64 (j : Int)]) (ok := fun _ => True) (okp := fun _ => True) ?hr ?hp (fun _ hk => hk) trivial (Below.refl _ _) (Nat.le_refl _) (by simp) ?_; (case hd => rfl); (case hg => rfl); (case hr => first | (go_simp; done) | (go_simp; rfl)); (case hp => exact (Reps.one (show Kd.M (Kd.int .i64) _ _ _ (j : Int) [.int .i64 (j : Int)] from rfl) (Reps.none _ _)))
                    intro v2 w3 ho hb hg_ hnew_
                    clear hg_ hnew_
                    have HB3 := Aside0.mk (below_step HBd.out hb)
                    obtain ⟨A2, c2, rfl, hc2, hC2⟩ := Kd.R_reads ho
                    have HC2 := Aside0.mk hC2
                    clear hb ho hC2
                    refine hK.out _ _ (HS_ _ HB3.out) (fun hHeld => ?_)
                    clear hK K
                    refine norm_ (a' := ?_) ?_ ?_
                    rotate_left
                    · show Act.put _ (some 51) _ = _
                      simp only [Act.put, List.setIfInBounds_toArray, List.set_cons_zero, List.set_cons_succ, i64_w, i32_w]
                      rfl
                    refine one_ (i := 2) (N := some 49) #[true, true, true, true, true, false, true, true, true, true, true, true, true, false, false, false, false, false, false] rfl rfl (by kernel_rfl) (by decide) (fun K hK => ?_)
                    refine goes_ Try.func101 (by kernel_rfl) rfl #[.slice Av list.length cv] (by rfl) rfl rfl (by (try simp only [List.map_toArray, List.map_cons, List.map_nil]); first | done | rfl) ?_
                    refine (hCL w3 (below_step HB2.out HB3.out)).mono ?_
                    rintro e w4 ⟨v1, rfl, ho, hb⟩
                    refine ⟨_, rfl, ?_⟩
                    have HB4 := Aside0.mk (below_step HB3.out hb)
                    have HR1 := Aside0.mk (Kd.R_lower ho (below_size HB3.out))
                    have HC3 := Aside0.mk (Kd.C_below HC2.out hb)
                    clear hb ho
                    refine hK.out _ _ (HS_ _ HB4.out) (fun hHeld => ?_)
                    clear hK K
                    refine norm_ (a' := ?_) ?_ ?_
                    rotate_left
                    · show Act.put _ (some 49) _ = _
                      simp only [Act.put, List.setIfInBounds_toArray, List.set_cons_zero, List.set_cons_succ, i64_w, i32_w]
                      rfl
                    exact norm_ (by simp only [putAll, Act.put, List.setIfInBounds_toArray, List.set_cons_zero, List.set_cons_succ]; rfl) (hCont (v1, A2, c2) _ ⟨hHeld, HR1.out, HC3.out, HB4.out⟩)
                rintro ⟨v1, A2, c2⟩ w4 ⟨hHeld, hR1, hC2, hB4⟩
                have HR1 := Aside0.mk hR1
                have HC2 := Aside0.mk hC2
                have HB4 := Aside0.mk hB4
                clear hR1 hC2 hB4
                refine norm_ (a' := ?_) ?_ ?_
                rotate_left
                · simp only [putAll, Act.put, List.setIfInBounds_toArray, List.set_cons_zero, List.set_cons_succ]
                  rfl
                refine one_ (i := 5) (N := some 52) #[true, true, true, true, true, true, true, true, true, true, true, true, true, false, false, false, false, false, false] rfl rfl (by kernel_rfl) (by decide) (fun K hK => ?_)
                refine Kd.R_append_rows_step (Kd.int .i64) (w0 := w2) w2.heap.size (by rfl) (.tmp 49) (.tmp 51) 51 3 (.int .i64 0) 8 rfl Try.underlying51 info3 rfl (by decide) (by omega) v1 list [(j : Int)] A2 1 c2 (fun _ => True) (fun _ => False) rfl rfl HR1.out HC2.out (fun _ _ h => h) (fun _ h => h.elim) (fun k hk => trivial) HB4.out (below_size HB4.out) (by have := c3'.out; omega) ?_
                intro v3 w5 hr3 hb5 hg5 hat5
                clear hg5 hat5
                have HR3 := Aside0.mk hr3
                have HB5 := Aside0.mk hb5
                clear hr3 hb5
                refine hK.out _ _ (HS_ _ HB5.out) (fun hHeld => ?_)
                clear hK K
                refine norm_ (a' := ?_) ?_ ?_
                rotate_left
                · show Act.put _ (some 52) _ = _
                  simp only [Act.put, List.setIfInBounds_toArray, List.set_cons_zero, List.set_cons_succ, i64_w, i32_w]
                  rfl
                refine one_ (i := 13) (N := some 60) #[true, true, true, true, true, true, true, true, true, true, true, true, true, true, false, false, false, false, false] rfl rfl (by kernel_rfl) (by decide) (fun K hK => ?_)
                refine call_ 99 #[v3, .int .i64 (wrap64 (wrap64 (x.f0 + x.f1) - now)), .pointer (some ⟨bs, 0, none⟩), .pointer (some ⟨bh, 0, none⟩), .pointer (some ⟨bf, 0, none⟩)] (by rfl) rfl (by unfold execOp; simp [roundFn, resolve, Deferred.ofValue, invoke, Act.eval, egw]) ?_
                refine (IH gk (by have := HK.out; omega) (list ++ [(j : Int)]) (wrap64 (wrap64 (x.f0 + x.f1) - now)) q1 q2 v3 w5 (below_step (below_step HBr.out HB2.out) HB5.out) (Round_below (Round_below HXr.out HB2.out) HB5.out) (Kd.R_lower HR3.out (below_size (below_step HBr.out HB2.out))) HQ.out).mono ?_
                rintro e w6 ⟨v6, rfl, hR6, hB6⟩
                have HR6 := Aside0.mk hR6
                have HB6 := Aside0.mk (below_step HB5.out hB6)
                clear hR6 hB6
                refine ⟨_, rfl, ?_⟩
                refine hK.out _ _ (HS_ _ HB6.out) (fun hHeld => ?_)
                clear hK K
                refine norm_ (a' := ?_) ?_ ?_
                rotate_left
                · show Act.put _ (some 60) _ = _
                  simp only [Act.put, List.setIfInBounds_toArray, List.set_cons_zero, List.set_cons_succ, i64_w, i32_w]
                  rfl
                refine pure_ (i := 14) (N := some 46) (v := ?_) (a' := ?_) #[true, true, true, true, true, true, true, true, true, true, true, true, true, true, true, false, false, false, false] rfl rfl (by kernel_rfl) (fun _ _ _ h => h) (Or.inl ⟨by rfl, ?_⟩) ?_ ?_
                rotate_left
                · intro w'
                  go_simp
                  with_reducible rfl
                rotate_left
                · simp only [Act.put, List.setIfInBounds_toArray, List.set_cons_zero, List.set_cons_succ, i64_w, i32_w]
                  rfl
                refine pure_ (i := 15) (N := some 61) (v := ?_) (a' := ?_) #[true, true, true, true, true, true, true, true, true, true, true, true, true, true, true, true, false, false, false] rfl rfl (by kernel_rfl) (fun _ _ _ h => h) (Or.inl ⟨by rfl, ?_⟩) ?_ ?_
                rotate_left
                · intro w'
                  go_simp
                  with_reducible rfl
                rotate_left
                · simp only [Act.put, List.setIfInBounds_toArray, List.set_cons_zero, List.set_cons_succ, i64_w, i32_w]
                  rfl
                refine pure_ (i := 16) (N := some 62) (v := ?_) (a' := ?_) #[true, true, true, true, true, true, true, true, true, true, true, true, true, true, true, true, true, false, false] rfl rfl (by kernel_rfl) (fun _ _ _ h => h) (Or.inl ⟨by rfl, ?_⟩) ?_ ?_
                rotate_left
                · intro w'
                  go_simp
                  with_reducible rfl
                rotate_left
                · simp only [Act.put, List.setIfInBounds_toArray, List.set_cons_zero, List.set_cons_succ, i64_w, i32_w]
                  rfl
                refine pure_ (i := 17) (N := some 11) (v := ?_) (a' := ?_) #[true, true, true, true, true, true, true, true, true, true, true, true, true, true, true, true, true, true, false] rfl rfl (by kernel_rfl) (fun _ _ _ h => h) (Or.inl ⟨by rfl, ?_⟩) ?_ ?_
                rotate_left
                · intro w'
                  go_simp
                  with_reducible rfl
                rotate_left
                · simp only [Act.put, List.setIfInBounds_toArray, List.set_cons_zero, List.set_cons_succ, i64_w, i32_w]
                  rfl
                refine pure_ (i := 18) (N := some 12) (v := ?_) (a' := ?_) #[true, true, true, true, true, true, true, true, true, true, true, true, true, true, true, true, true, true, true] rfl rfl (by kernel_rfl) (fun _ _ _ h => h) (Or.inl ⟨by rfl, ?_⟩) ?_ ?_
                rotate_left
                · intro w'
                  go_simp
                  with_reducible rfl
                rotate_left
                · simp only [Act.put, List.setIfInBounds_toArray, List.set_cons_zero, List.set_cons_succ, i64_w, i32_w]
                  rfl
                refine done_ (by kernel_rfl) ?_
                have h := H'.out
                clear H'
                cases q2 with
                | true =>
                  rw [if_pos rfl] at h
                  obtain ⟨rfl, rfl⟩ := Prod.mk.injEq .. ▸ Option.some.inj h
                  clear h
                  go_wp2
                  go_ret2
                  exact ⟨_, rfl, HR6.out, below_step (below_step HWr.out HB2.out) HB6.out⟩
                | false =>
                  rw [if_neg (by simp)] at h
                  have H' := Aside0.mk h
                  clear h
                  go_wp2
                  go_roundg gk
                  case measure => omega
                  case rel => exact ⟨_, by first | rfl | (simp; done) | (simp [*]; done), H', ⟨by have := HK.out; omega⟩, ⟨below_step (below_step HWr.out HB2.out) HB6.out⟩⟩
              · rw [if_neg c3] at h
                cases h
            · by_cases d1 : x.f1 = now
              · rw [if_neg (fun hh => hh.2 d1)] at h
                have z0 : (x.f0 == now) = false := by simp [d0]
                have y0 : (x.f0 != now) = true := by simp [d0]
                have z1 : (x.f1 == now) = true := by simp [d1]
                have y1 : (x.f1 != now) = false := by simp [d1]
                have D1 := Aside0.mk d1
                clear d1
                by_cases c3 : list.length < 17592186044415
                · rw [if_pos c3] at h
                  obtain ⟨⟨q1, q2⟩, h3, h⟩ := Option.bind_eq_some_iff.mp h
                  have HQ := Aside0.mk h3
                  have H' := Aside0.mk h
                  have c3' := Aside0.mk c3
                  have hCL : ∀ (w : World) (hw : Below wr.heap.size wr w), Calls Try.prog 101 #[.slice Av list.length cv] w fun e w' => ∃ v0_ : Value, e = .returned (v0_) ∧ Kd.R (Kd.int .i64) 3 w' w.heap.size (fun _ => True) v0_ list ∧ Below w.heap.size w w' := fun w hw => slices_Clone_int_int.calls Av cv list list w (Kd.C_below HVCr.out hw) hvl (if_pos (by have := c3'.out; omega))
                  have egw : ∀ args w, (callFunc 99 args).run Try.prog w = .ok (.enter 99 args) w := enters_ Try.func99 (by kernel_rfl) rfl
                  clear h h3 c3
                  go_wp2_with (go_at_call 100; rw [← HWA.out]; refine (hCT wA HBA.out).mono ?_; rintro e w2 ⟨rfl, hb2⟩; have HB2 := Aside0.mk (below_step HBA.out hb2.below); have HA2 := Aside0.mk (blk_below HAb.out hb2.below); have hx0 : w2.cell? ⟨wr.heap.size, 0, none⟩ = some (.int .i64 x.f0) := (blk_cell HA2.out 0).trans rfl; have hx1 : w2.cell? ⟨wr.heap.size, 1, none⟩ = some (.int .i64 x.f1) := (blk_cell HA2.out 1).trans rfl; clear hb2)
                  have HS_ : ∀ (u : World), Below w2.heap.size w2 u → u.cell? ⟨bf, 0, none⟩ = some (roundFn bs bh bf) ∧ u.cell? ⟨wr.heap.size, 0, none⟩ = some (.int .i64 x.f0) ∧ u.cell? ⟨wr.heap.size, 1, none⟩ = some (.int .i64 x.f1) := fun u hu => ⟨(blk_cell (blk_below (blk_below HXr.out.2.2 HB2.out) hu) 0).trans rfl, (blk_cell (blk_below HA2.out hu) 0).trans rfl, (blk_cell (blk_below HA2.out hu) 1).trans rfl⟩
                  have HB0 := Aside0.mk (below_drew (Below.refl w2.heap.size w2))
                  refine start_ (n := 19) (S := fun u => u.cell? ⟨bf, 0, none⟩ = some (roundFn bs bh bf) ∧ u.cell? ⟨wr.heap.size, 0, none⟩ = some (.int .i64 x.f0) ∧ u.cell? ⟨wr.heap.size, 1, none⟩ = some (.int .i64 x.f1)) (ds := []) #[false, false, false, false, false, false, false, false, false, false, false, false, false, false, false, false, false, false, false] mixed rfl rfl (HS_ _ HB0.out) (fun hHeld => ?_)
                  have HBd := HB0
                  clear HB0
                  generalize w2.drew = wd at HBd hHeld ⊢
                  refine pure_ (i := 1) (N := some 48) (v := ?_) (a' := ?_) #[false, true, false, false, false, false, false, false, false, false, false, false, false, false, false, false, false, false, false] rfl rfl (by kernel_rfl) (fun _ _ _ h => h) (Or.inl ⟨by rfl, ?_⟩) ?_ ?_
                  rotate_left
                  · intro w'
                    go_simp
                    with_reducible rfl
                  rotate_left
                  · simp only [Act.put, List.setIfInBounds_toArray, List.set_cons_zero, List.set_cons_succ, i64_w, i32_w]
                    rfl
                  refine pure_ (i := 3) (N := some 50) (v := ?_) (a' := ?_) #[false, true, false, true, false, false, false, false, false, false, false, false, false, false, false, false, false, false, false] rfl rfl (by kernel_rfl) (fun _ _ _ h => h) (Or.inl ⟨by rfl, ?_⟩) ?_ ?_
                  rotate_left
                  · intro w'
                    go_simp
                    with_reducible rfl
                  rotate_left
                  · simp only [Act.put, List.setIfInBounds_toArray, List.set_cons_zero, List.set_cons_succ, i64_w, i32_w]
                    rfl
                  refine pure_ (i := 6) (N := some 53) (v := ?_) (a' := ?_) #[false, true, false, true, false, false, true, false, false, false, false, false, false, false, false, false, false, false, false] rfl rfl (by kernel_rfl) (fun _ _ _ h => h) (Or.inl ⟨by rfl, ?_⟩) ?_ ?_
                  rotate_left
                  · intro w'
                    go_simp
                    with_reducible rfl
                  rotate_left
                  · simp only [Act.put, List.setIfInBounds_toArray, List.set_cons_zero, List.set_cons_succ, i64_w, i32_w]
                    rfl
                  refine pure_ (i := 8) (N := some 55) (v := ?_) (a' := ?_) #[false, true, false, true, false, false, true, false, true, false, false, false, false, false, false, false, false, false, false] rfl rfl (by kernel_rfl) (fun _ _ _ h => h) (Or.inl ⟨by rfl, ?_⟩) ?_ ?_
                  rotate_left
                  · intro w'
                    go_simp
                    with_reducible rfl
                  rotate_left
                  · simp only [Act.put, List.setIfInBounds_toArray, List.set_cons_zero, List.set_cons_succ, i64_w, i32_w]
                    rfl
                  refine pure_ (i := 11) (N := some 58) (v := ?_) (a' := ?_) #[false, true, false, true, false, false, true, false, true, false, false, true, false, false, false, false, false, false, false] rfl rfl (by kernel_rfl) (fun _ _ _ h => h) (Or.inl ⟨by rfl, ?_⟩) ?_ ?_
                  rotate_left
                  · intro w'
                    go_simp
                    with_reducible rfl
                  rotate_left
                  · simp only [Act.put, List.setIfInBounds_toArray, List.set_cons_zero, List.set_cons_succ, i64_w, i32_w]
                    rfl
                  refine take_ (i := 0) (N := some 47) (v := ?_) (a' := ?_) #[true, true, false, true, false, false, true, false, true, false, false, true, false, false, false, false, false, false, false] rfl rfl (by kernel_rfl) (fun _ _ _ h => h) (Or.inl ⟨by rfl, ?_⟩) hHeld ?_ ?_
                  rotate_left
                  · rintro w' ⟨s0, s1, s2⟩
                    go_simp
                    with_reducible rfl
                  rotate_left
                  · simp only [Act.put, List.setIfInBounds_toArray, List.set_cons_zero, List.set_cons_succ, i64_w, i32_w]
                    rfl
                  refine take_ (i := 7) (N := some 54) (v := ?_) (a' := ?_) #[true, true, false, true, false, false, true, true, true, false, false, true, false, false, false, false, false, false, false] rfl rfl (by kernel_rfl) (fun _ _ _ h => h) (Or.inl ⟨by rfl, ?_⟩) hHeld ?_ ?_
                  rotate_left
                  · rintro w' ⟨s0, s1, s2⟩
                    go_simp
                    with_reducible rfl
                  rotate_left
                  · simp only [Act.put, List.setIfInBounds_toArray, List.set_cons_zero, List.set_cons_succ, i64_w, i32_w]
                    rfl
                  refine take_ (i := 9) (N := some 56) (v := ?_) (a' := ?_) #[true, true, false, true, false, false, true, true, true, true, false, true, false, false, false, false, false, false, false] rfl rfl (by kernel_rfl) (fun _ _ _ h => h) (Or.inl ⟨by rfl, ?_⟩) hHeld ?_ ?_
                  rotate_left
                  · rintro w' ⟨s0, s1, s2⟩
                    go_simp
                    with_reducible rfl
                  rotate_left
                  · simp only [Act.put, List.setIfInBounds_toArray, List.set_cons_zero, List.set_cons_succ, i64_w, i32_w]
                    rfl
                  refine pure_ (i := 10) (N := some 57) (v := ?_) (a' := ?_) #[true, true, false, true, false, false, true, true, true, true, true, true, false, false, false, false, false, false, false] rfl rfl (by kernel_rfl) (fun _ _ _ h => h) (Or.inl ⟨by rfl, ?_⟩) ?_ ?_
                  rotate_left
                  · intro w'
                    go_simp
                    with_reducible rfl
                  rotate_left
                  · simp only [Act.put, List.setIfInBounds_toArray, List.set_cons_zero, List.set_cons_succ, i64_w, i32_w]
                    rfl
                  refine pure_ (i := 12) (N := some 59) (v := ?_) (a' := ?_) #[true, true, false, true, false, false, true, true, true, true, true, true, true, false, false, false, false, false, false] rfl rfl (by kernel_rfl) (fun _ _ _ h => h) (Or.inl ⟨by rfl, ?_⟩) ?_ ?_
                  rotate_left
                  · intro w'
                    go_simp
                    with_reducible rfl
                  rotate_left
                  · simp only [Act.put, List.setIfInBounds_toArray, List.set_cons_zero, List.set_cons_succ, i64_w, i32_w]
                    rfl
                  refine join_ (σ := Value × Option Addr × Nat) 7 #[true, true, true, true, true, false, true, true, true, true, true, true, true, false, false, false, false, false, false] (fun s_ => [(49, s_.1), (51, .slice s_.2.1 1 s_.2.2)]) (fun s_ u => (u.cell? ⟨bf, 0, none⟩ = some (roundFn bs bh bf) ∧ u.cell? ⟨wr.heap.size, 0, none⟩ = some (.int .i64 x.f0) ∧ u.cell? ⟨wr.heap.size, 1, none⟩ = some (.int .i64 x.f1)) ∧ Kd.R (Kd.int .i64) 3 u w2.heap.size (fun _ => True) s_.1 list ∧ Kd.C (Kd.int .i64) u s_.2.1 1 [(j : Int)] ∧ Below w2.heap.size w2 u) ?_ ?_
                  rotate_left
                  · intro hCont
                    refine two_ (i := 2) (j := 4) (Ni := some 49) (Nj := some 51) #[true, true, true, true, false, false, true, true, true, true, true, true, true, false, false, false, false, false, false] #[true, true, false, true, true, false, true, true, true, true, true, true, true, false, false, false, false, false, false] rfl rfl rfl rfl (by kernel_rfl) (by decide) (by decide) (fun K hK => ?_) (fun K hK => ?_)
                    · skip
                      refine goes_ Try.func101 (by kernel_rfl) rfl #[.slice Av list.length cv] (by rfl) rfl rfl (by (try simp only [List.map_toArray, List.map_cons, List.map_nil]); first | done | rfl) ?_
                      refine (hCL wd (below_step HB2.out HBd.out)).mono ?_
                      rintro e w3 ⟨v1, rfl, ho, hb⟩
                      refine ⟨_, rfl, ?_⟩
                      have HB3 := Aside0.mk (below_step HBd.out hb)
                      have HR1 := Aside0.mk (Kd.R_lower ho (below_size HBd.out))
                      clear hb ho
                      refine hK.out _ _ (HS_ _ HB3.out) (fun hHeld => ?_)
                      clear hK K
                      refine norm_ (a' := ?_) ?_ ?_
                      rotate_left
                      · show Act.put _ (some 49) _ = _
                        simp only [Act.put, List.setIfInBounds_toArray, List.set_cons_zero, List.set_cons_succ, i64_w, i32_w]
                        rfl
                      refine one_ (i := 4) (N := some 51) #[true, true, true, true, true, false, true, true, true, true, true, true, true, false, false, false, false, false, false] rfl rfl (by kernel_rfl) (by decide) (fun K hK => ?_)
                      refine Kd.R_lit_step (Kd.int .i64) _ 3 ?hg (N := 51) ?hd (xs := ([(j : Int)] : List Int)) (inner := [.int .i64 (j : Int)]) (ok := fun _ => True) (okp := fun _ => True) ?hr ?hp (fun _ hk => hk) trivial (Below.refl _ _) (Nat.le_refl _) (by simp) ?_; (case hd => rfl); (case hg => rfl); (case hr => first | (go_simp; done) | (go_simp; rfl)); (case hp => exact (Reps.one (show Kd.M (Kd.int .i64) _ _ _ (j : Int) [.int .i64 (j : Int)] from rfl) (Reps.none _ _)))
                      intro v2 w4 ho hb hg_ hnew_
                      clear hg_ hnew_
                      have HB4 := Aside0.mk (below_step HB3.out hb)
                      have HR2 := Aside0.mk (Kd.R_below HR1.out hb)
                      obtain ⟨A2, c2, rfl, hc2, hC2⟩ := Kd.R_reads ho
                      clear hb ho
                      refine hK.out _ _ (HS_ _ HB4.out) (fun hHeld => ?_)
                      clear hK K
                      refine norm_ (a' := ?_) ?_ ?_
                      rotate_left
                      · show Act.put _ (some 51) _ = _
                        simp only [Act.put, List.setIfInBounds_toArray, List.set_cons_zero, List.set_cons_succ, i64_w, i32_w]
                        rfl
                      exact norm_ (by simp only [putAll, Act.put, List.setIfInBounds_toArray, List.set_cons_zero, List.set_cons_succ]; rfl) (hCont (v1, A2, c2) _ ⟨hHeld, HR2.out, hC2, HB4.out⟩)
                    · skip
                      refine Kd.R_lit_step (Kd.int .i64) _ 3 ?hg (N := 51) ?hd (xs := ([(j : Int)] : List Int)) (inner := [.int .i64 (j : Int)]) (ok := fun _ => True) (okp := fun _ => True) ?hr ?hp (fun _ hk => hk) trivial (Below.refl _ _) (Nat.le_refl _) (by simp) ?_; (case hd => rfl); (case hg => rfl); (case hr => first | (go_simp; done) | (go_simp; rfl)); (case hp => exact (Reps.one (show Kd.M (Kd.int .i64) _ _ _ (j : Int) [.int .i64 (j : Int)] from rfl) (Reps.none _ _)))
                      intro v2 w3 ho hb hg_ hnew_
                      clear hg_ hnew_
                      have HB3 := Aside0.mk (below_step HBd.out hb)
                      obtain ⟨A2, c2, rfl, hc2, hC2⟩ := Kd.R_reads ho
                      have HC2 := Aside0.mk hC2
                      clear hb ho hC2
                      refine hK.out _ _ (HS_ _ HB3.out) (fun hHeld => ?_)
                      clear hK K
                      refine norm_ (a' := ?_) ?_ ?_
                      rotate_left
                      · show Act.put _ (some 51) _ = _
                        simp only [Act.put, List.setIfInBounds_toArray, List.set_cons_zero, List.set_cons_succ, i64_w, i32_w]
                        rfl
                      refine one_ (i := 2) (N := some 49) #[true, true, true, true, true, false, true, true, true, true, true, true, true, false, false, false, false, false, false] rfl rfl (by kernel_rfl) (by decide) (fun K hK => ?_)
                      refine goes_ Try.func101 (by kernel_rfl) rfl #[.slice Av list.length cv] (by rfl) rfl rfl (by (try simp only [List.map_toArray, List.map_cons, List.map_nil]); first | done | rfl) ?_
                      refine (hCL w3 (below_step HB2.out HB3.out)).mono ?_
                      rintro e w4 ⟨v1, rfl, ho, hb⟩
                      refine ⟨_, rfl, ?_⟩
                      have HB4 := Aside0.mk (below_step HB3.out hb)
                      have HR1 := Aside0.mk (Kd.R_lower ho (below_size HB3.out))
                      have HC3 := Aside0.mk (Kd.C_below HC2.out hb)
                      clear hb ho
                      refine hK.out _ _ (HS_ _ HB4.out) (fun hHeld => ?_)
                      clear hK K
                      refine norm_ (a' := ?_) ?_ ?_
                      rotate_left
                      · show Act.put _ (some 49) _ = _
                        simp only [Act.put, List.setIfInBounds_toArray, List.set_cons_zero, List.set_cons_succ, i64_w, i32_w]
                        rfl
                      exact norm_ (by simp only [putAll, Act.put, List.setIfInBounds_toArray, List.set_cons_zero, List.set_cons_succ]; rfl) (hCont (v1, A2, c2) _ ⟨hHeld, HR1.out, HC3.out, HB4.out⟩)
                  rintro ⟨v1, A2, c2⟩ w4 ⟨hHeld, hR1, hC2, hB4⟩
                  have HR1 := Aside0.mk hR1
                  have HC2 := Aside0.mk hC2
                  have HB4 := Aside0.mk hB4
                  clear hR1 hC2 hB4
                  refine norm_ (a' := ?_) ?_ ?_
                  rotate_left
                  · simp only [putAll, Act.put, List.setIfInBounds_toArray, List.set_cons_zero, List.set_cons_succ]
                    rfl
                  refine one_ (i := 5) (N := some 52) #[true, true, true, true, true, true, true, true, true, true, true, true, true, false, false, false, false, false, false] rfl rfl (by kernel_rfl) (by decide) (fun K hK => ?_)
                  refine Kd.R_append_rows_step (Kd.int .i64) (w0 := w2) w2.heap.size (by rfl) (.tmp 49) (.tmp 51) 51 3 (.int .i64 0) 8 rfl Try.underlying51 info3 rfl (by decide) (by omega) v1 list [(j : Int)] A2 1 c2 (fun _ => True) (fun _ => False) rfl rfl HR1.out HC2.out (fun _ _ h => h) (fun _ h => h.elim) (fun k hk => trivial) HB4.out (below_size HB4.out) (by have := c3'.out; omega) ?_
                  intro v3 w5 hr3 hb5 hg5 hat5
                  clear hg5 hat5
                  have HR3 := Aside0.mk hr3
                  have HB5 := Aside0.mk hb5
                  clear hr3 hb5
                  refine hK.out _ _ (HS_ _ HB5.out) (fun hHeld => ?_)
                  clear hK K
                  refine norm_ (a' := ?_) ?_ ?_
                  rotate_left
                  · show Act.put _ (some 52) _ = _
                    simp only [Act.put, List.setIfInBounds_toArray, List.set_cons_zero, List.set_cons_succ, i64_w, i32_w]
                    rfl
                  refine one_ (i := 13) (N := some 60) #[true, true, true, true, true, true, true, true, true, true, true, true, true, true, false, false, false, false, false] rfl rfl (by kernel_rfl) (by decide) (fun K hK => ?_)
                  refine call_ 99 #[v3, .int .i64 (wrap64 (wrap64 (x.f0 + x.f1) - now)), .pointer (some ⟨bs, 0, none⟩), .pointer (some ⟨bh, 0, none⟩), .pointer (some ⟨bf, 0, none⟩)] (by rfl) rfl (by unfold execOp; simp [roundFn, resolve, Deferred.ofValue, invoke, Act.eval, egw]) ?_
                  refine (IH gk (by have := HK.out; omega) (list ++ [(j : Int)]) (wrap64 (wrap64 (x.f0 + x.f1) - now)) q1 q2 v3 w5 (below_step (below_step HBr.out HB2.out) HB5.out) (Round_below (Round_below HXr.out HB2.out) HB5.out) (Kd.R_lower HR3.out (below_size (below_step HBr.out HB2.out))) HQ.out).mono ?_
                  rintro e w6 ⟨v6, rfl, hR6, hB6⟩
                  have HR6 := Aside0.mk hR6
                  have HB6 := Aside0.mk (below_step HB5.out hB6)
                  clear hR6 hB6
                  refine ⟨_, rfl, ?_⟩
                  refine hK.out _ _ (HS_ _ HB6.out) (fun hHeld => ?_)
                  clear hK K
                  refine norm_ (a' := ?_) ?_ ?_
                  rotate_left
                  · show Act.put _ (some 60) _ = _
                    simp only [Act.put, List.setIfInBounds_toArray, List.set_cons_zero, List.set_cons_succ, i64_w, i32_w]
                    rfl
                  refine pure_ (i := 14) (N := some 46) (v := ?_) (a' := ?_) #[true, true, true, true, true, true, true, true, true, true, true, true, true, true, true, false, false, false, false] rfl rfl (by kernel_rfl) (fun _ _ _ h => h) (Or.inl ⟨by rfl, ?_⟩) ?_ ?_
                  rotate_left
                  · intro w'
                    go_simp
                    with_reducible rfl
                  rotate_left
                  · simp only [Act.put, List.setIfInBounds_toArray, List.set_cons_zero, List.set_cons_succ, i64_w, i32_w]
                    rfl
                  refine pure_ (i := 15) (N := some 61) (v := ?_) (a' := ?_) #[true, true, true, true, true, true, true, true, true, true, true, true, true, true, true, true, false, false, false] rfl rfl (by kernel_rfl) (fun _ _ _ h => h) (Or.inl ⟨by rfl, ?_⟩) ?_ ?_
                  rotate_left
                  · intro w'
                    go_simp
                    with_reducible rfl
                  rotate_left
                  · simp only [Act.put, List.setIfInBounds_toArray, List.set_cons_zero, List.set_cons_succ, i64_w, i32_w]
                    rfl
                  refine pure_ (i := 16) (N := some 62) (v := ?_) (a' := ?_) #[true, true, true, true, true, true, true, true, true, true, true, true, true, true, true, true, true, false, false] rfl rfl (by kernel_rfl) (fun _ _ _ h => h) (Or.inl ⟨by rfl, ?_⟩) ?_ ?_
                  rotate_left
                  · intro w'
                    go_simp
                    with_reducible rfl
                  rotate_left
                  · simp only [Act.put, List.setIfInBounds_toArray, List.set_cons_zero, List.set_cons_succ, i64_w, i32_w]
                    rfl
                  refine pure_ (i := 17) (N := some 11) (v := ?_) (a' := ?_) #[true, true, true, true, true, true, true, true, true, true, true, true, true, true, true, true, true, true, false] rfl rfl (by kernel_rfl) (fun _ _ _ h => h) (Or.inl ⟨by rfl, ?_⟩) ?_ ?_
                  rotate_left
                  · intro w'
                    go_simp
                    with_reducible rfl
                  rotate_left
                  · simp only [Act.put, List.setIfInBounds_toArray, List.set_cons_zero, List.set_cons_succ, i64_w, i32_w]
                    rfl
                  refine pure_ (i := 18) (N := some 12) (v := ?_) (a' := ?_) #[true, true, true, true, true, true, true, true, true, true, true, true, true, true, true, true, true, true, true] rfl rfl (by kernel_rfl) (fun _ _ _ h => h) (Or.inl ⟨by rfl, ?_⟩) ?_ ?_
                  rotate_left
                  · intro w'
                    go_simp
                    with_reducible rfl
                  rotate_left
                  · simp only [Act.put, List.setIfInBounds_toArray, List.set_cons_zero, List.set_cons_succ, i64_w, i32_w]
                    rfl
                  refine done_ (by kernel_rfl) ?_
                  have h := H'.out
                  clear H'
                  cases q2 with
                  | true =>
                    rw [if_pos rfl] at h
                    obtain ⟨rfl, rfl⟩ := Prod.mk.injEq .. ▸ Option.some.inj h
                    clear h
                    go_wp2
                    go_ret2
                    exact ⟨_, rfl, HR6.out, below_step (below_step HWr.out HB2.out) HB6.out⟩
                  | false =>
                    rw [if_neg (by simp)] at h
                    have H' := Aside0.mk h
                    clear h
                    go_wp2
                    go_roundg gk
                    case measure => omega
                    case rel => exact ⟨_, by first | rfl | (simp; done) | (simp [*]; done), H', ⟨by have := HK.out; omega⟩, ⟨below_step (below_step HWr.out HB2.out) HB6.out⟩⟩
                · rw [if_neg c3] at h
                  cases h
              · rw [if_pos ⟨d0, d1⟩] at h
                have z0 : (x.f0 == now) = false := by simp [d0]
                have y0 : (x.f0 != now) = true := by simp [d0]
                have z1 : (x.f1 == now) = false := by simp [d1]
                have y1 : (x.f1 != now) = true := by simp [d1]
                have H' := Aside0.mk h
                clear h
                go_wp2_with (go_at_call 100; rw [← HWA.out]; refine (hCT wA HBA.out).mono ?_; rintro e w2 ⟨rfl, hb2⟩; have HB2 := Aside0.mk (below_step HBA.out hb2.below); have HA2 := Aside0.mk (blk_below HAb.out hb2.below); have hx0 : w2.cell? ⟨wr.heap.size, 0, none⟩ = some (.int .i64 x.f0) := (blk_cell HA2.out 0).trans rfl; have hx1 : w2.cell? ⟨wr.heap.size, 1, none⟩ = some (.int .i64 x.f1) := (blk_cell HA2.out 1).trans rfl; clear hb2)
                go_roundg gk
                case measure => omega
                case rel => exact ⟨_, by first | rfl | (simp; done) | (simp [*]; done), H', ⟨by have := HK.out; omega⟩, ⟨below_step HWr.out HB2.out⟩⟩
        · rw [if_neg c2] at h
          cases h
      · rw [if_neg c1] at h
        obtain ⟨rfl, rfl⟩ := Prod.mk.injEq .. ▸ Option.some.inj h
        clear h
        go_wp2
        go_ret2
        exact ⟨_, rfl, Kd.R_nil _ _ _ _ _, HWr.out⟩
def impl_FirstRound.f (k : Nat) (a0_0 : Int) (l0_1 : List S37) (a1 : Int) : Option (List Int × Bool) := (impl_areIslands.f a0_0 l0_1 [a1]).bind fun t => if t = true then ((impl_Isles_hasRound.f k a0_0 l0_1).bind fun h => if h = true then round1.f k l0_1 a1 [] a1 else some ([], false)) else some ([], false)
theorem impl_FirstRound.mono : ∀ a0 a1 a2 k, LeO (impl_FirstRound.f k a0 a1 a2) (impl_FirstRound.f (k + 1) a0 a1 a2) := by
  intro a0 a1 a2 k
  unfold impl_FirstRound.f
  repeat' first
      | (with_reducible exact (round1.mono_l _).1 _ _ _ _)
      | (with_reducible exact impl_Isles_hasRound.mono _ _ _)
      | (with_reducible exact LeO.refl _)
      | (with_reducible exact LeO.none _)
      | (with_reducible refine LeO.ite ?_ ?_)
      | (with_reducible refine LeO.bind ?_ (fun _ => ?_))
theorem first_start (w : World) (n : Int) (A : Option Addr) (len c : Nat) (a : Int) : let W := (w.alloc (.cells #[.int .i64 n, .slice A len c] 29 (0, 0))).alloc (.cells #[.int .i64 a] 3 (0, 0));
    W.heap[w.heap.size]? = some (.cells #[.int .i64 n, .slice A len c] 29 (0, 0)) ∧ W.heap[w.heap.size + 1]? = some (.cells #[.int .i64 a] 3 (0, 0)) ∧ Below w.heap.size w W := by
  intro W
  have hs : ∀ (u : World) (o : Obj), (u.alloc o).heap.size = u.heap.size + 1 := fun u o => by simp
  refine ⟨blk_alloc (blk_new w _) _, ?_, ((Below.refl w.heap.size w).alloc (Nat.le_refl _) _).alloc (by simp only [hs]; omega) _⟩
  have := blk_new (w.alloc (.cells #[.int .i64 n, .slice A len c] 29 (0, 0))) (.cells #[.int .i64 a] 3 (0, 0))
  rwa [hs] at this
set_option maxHeartbeats 8000000 in
set_option maxRecDepth 100000 in
theorem impl_FirstRound.calls (k : Nat) (a0_0 : Int) (A0_1 : Option Addr) (c0_1 : Nat) (l0_1 : List S37) (a1 : Int) (r1 : List Int) (r2 : Bool) (w : World) (hr0_1 : Kd.C k37 w A0_1 l0_1.length l0_1) (hc0_1 : l0_1.length ≤ c0_1) (h : impl_FirstRound.f k a0_0 l0_1 a1 = some (r1, r2)) :
    Calls Try.prog 62 #[.agg #[.int .i64 a0_0, .slice A0_1 l0_1.length c0_1], .int .i64 a1] w fun e w' => ∃ v0_ : Value, e = .returned (.tuple #[v0_, .bool r2]) ∧ Kd.R (Kd.int .i64) 3 w' w.heap.size (fun _ => True) v0_ r1 ∧ Below w.heap.size w w' := by
  have HR := Aside0.mk hr0_1
  have HC := Aside0.mk hc0_1
  have HS := Aside0.mk (first_start w a0_0 A0_1 l0_1.length c0_1 a1)
  clear hr0_1 hc0_1
  unfold impl_FirstRound.f at h
  obtain ⟨t, h1, h⟩ := Option.bind_eq_some_iff.mp h
  have A1 := Aside0.mk h1
  clear h1
  cases t with
  | false =>
    rw [if_neg (by simp)] at h
    obtain ⟨rfl, rfl⟩ := Prod.mk.injEq .. ▸ Option.some.inj h
    clear h
    go_enter Try.func62, Try.ntmps62
    go_wp2_with (first | ((with_reducible refine gate_dst (N := 9) rfl ?_); refine Kd.R_lit (Kd.int .i64) _ 3 ?hg (N := 9) ?hd (xs := ([a1] : List Int)) (inner := [.int .i64 a1]) (ok := fun _ => True) (okp := fun _ => True) ?hr ?hp (fun _ hk => hk) trivial (Below.refl _ _) (Nat.le_refl _) (by simp) ?_; (case hd => rfl); (case hg => rfl); (case hr => first | (go_simp; done) | (go_simp; rfl)); (case hp => exact (Reps.one (show Kd.M (Kd.int .i64) _ _ _ a1 [.int .i64 a1] from rfl) (Reps.none _ _))); intro v9 w9 ho hb hg_ hnew_; have HO9 := Aside0.mk ho; have HB9 := Aside0.mk (below_step HS.out.2.2 hb); have HS9 := Aside0.mk (blk_below HS.out.1 hb); have HH9 := Aside0.mk (blk_below HS.out.2.1 hb); clear hb ho hg_ hnew_; obtain ⟨A9, c9, e9⟩ := Kd.R_slice HO9.out; subst e9) | (go_at_call 82; refine (impl_areIslands.calls a0_0 A0_1 c0_1 l0_1 A9 c9 [a1] false w9 (Kd.C_below HR.out HB9.out) HC.out (Kd.R_reads' HO9.out).2.2 (Kd.R_reads' HO9.out).2.1 A1.out).mono ?_; rintro e w10 ⟨rfl, hb⟩; have HB10 := Aside0.mk (below_step HB9.out hb); have HS10 := Aside0.mk (blk_below HS9.out hb); have HH10 := Aside0.mk (blk_below HH9.out hb); have hc10a : w10.cell? ⟨w.heap.size, 0, none⟩ = some (.int .i64 a0_0) := (blk_cell HS10.out 0).trans rfl; have hc10b : w10.cell? ⟨w.heap.size, 1, none⟩ = some (.slice A0_1 l0_1.length c0_1) := (blk_cell HS10.out 1).trans rfl; clear hb))
    go_ret2
    exact ⟨_, rfl, Kd.R_nil _ _ _ _ _, HB10.out⟩
  | true =>
    rw [if_pos rfl] at h
    obtain ⟨t, h2, h⟩ := Option.bind_eq_some_iff.mp h
    have A2 := Aside0.mk h2
    clear h2
    cases t with
    | false =>
      rw [if_neg (by simp)] at h
      obtain ⟨rfl, rfl⟩ := Prod.mk.injEq .. ▸ Option.some.inj h
      clear h
      go_enter Try.func62, Try.ntmps62
      go_wp2_with (first | ((with_reducible refine gate_dst (N := 9) rfl ?_); refine Kd.R_lit (Kd.int .i64) _ 3 ?hg (N := 9) ?hd (xs := ([a1] : List Int)) (inner := [.int .i64 a1]) (ok := fun _ => True) (okp := fun _ => True) ?hr ?hp (fun _ hk => hk) trivial (Below.refl _ _) (Nat.le_refl _) (by simp) ?_; (case hd => rfl); (case hg => rfl); (case hr => first | (go_simp; done) | (go_simp; rfl)); (case hp => exact (Reps.one (show Kd.M (Kd.int .i64) _ _ _ a1 [.int .i64 a1] from rfl) (Reps.none _ _))); intro v9 w9 ho hb hg_ hnew_; have HO9 := Aside0.mk ho; have HB9 := Aside0.mk (below_step HS.out.2.2 hb); have HS9 := Aside0.mk (blk_below HS.out.1 hb); have HH9 := Aside0.mk (blk_below HS.out.2.1 hb); clear hb ho hg_ hnew_; obtain ⟨A9, c9, e9⟩ := Kd.R_slice HO9.out; subst e9) | (go_at_call 82; refine (impl_areIslands.calls a0_0 A0_1 c0_1 l0_1 A9 c9 [a1] true w9 (Kd.C_below HR.out HB9.out) HC.out (Kd.R_reads' HO9.out).2.2 (Kd.R_reads' HO9.out).2.1 A1.out).mono ?_; rintro e w10 ⟨rfl, hb⟩; have HB10 := Aside0.mk (below_step HB9.out hb); have HS10 := Aside0.mk (blk_below HS9.out hb); have HH10 := Aside0.mk (blk_below HH9.out hb); have hc10a : w10.cell? ⟨w.heap.size, 0, none⟩ = some (.int .i64 a0_0) := (blk_cell HS10.out 0).trans rfl; have hc10b : w10.cell? ⟨w.heap.size, 1, none⟩ = some (.slice A0_1 l0_1.length c0_1) := (blk_cell HS10.out 1).trans rfl; clear hb) | (go_at_call 87; refine (impl_Isles_hasRound.calls k a0_0 A0_1 c0_1 l0_1 false w10 (Kd.C_below HR.out HB10.out) HC.out A2.out).mono ?_; rintro e w11 ⟨rfl, hb⟩; have HB11 := Aside0.mk (below_step HB10.out hb); have HS11 := Aside0.mk (blk_below HS10.out hb); have HH11 := Aside0.mk (blk_below HH10.out hb); have hh11 : ∀ o, (w11.alloc o).cell? ⟨w.heap.size + 1, 0, none⟩ = some (.int .i64 a1) := fun o => (blk_cell (blk_alloc HH11.out o) 0).trans rfl; clear hb))
      go_ret2
      exact ⟨_, rfl, Kd.R_nil _ _ _ _ _, HB11.out⟩
    | true =>
      rw [if_pos rfl] at h
      have H := Aside0.mk h
      clear h
      go_enter Try.func62, Try.ntmps62
      go_wp2_with (first | ((with_reducible refine gate_dst (N := 9) rfl ?_); refine Kd.R_lit (Kd.int .i64) _ 3 ?hg (N := 9) ?hd (xs := ([a1] : List Int)) (inner := [.int .i64 a1]) (ok := fun _ => True) (okp := fun _ => True) ?hr ?hp (fun _ hk => hk) trivial (Below.refl _ _) (Nat.le_refl _) (by simp) ?_; (case hd => rfl); (case hg => rfl); (case hr => first | (go_simp; done) | (go_simp; rfl)); (case hp => exact (Reps.one (show Kd.M (Kd.int .i64) _ _ _ a1 [.int .i64 a1] from rfl) (Reps.none _ _))); intro v9 w9 ho hb hg_ hnew_; have HO9 := Aside0.mk ho; have HB9 := Aside0.mk (below_step HS.out.2.2 hb); have HS9 := Aside0.mk (blk_below HS.out.1 hb); have HH9 := Aside0.mk (blk_below HS.out.2.1 hb); clear hb ho hg_ hnew_; obtain ⟨A9, c9, e9⟩ := Kd.R_slice HO9.out; subst e9) | (go_at_call 82; refine (impl_areIslands.calls a0_0 A0_1 c0_1 l0_1 A9 c9 [a1] true w9 (Kd.C_below HR.out HB9.out) HC.out (Kd.R_reads' HO9.out).2.2 (Kd.R_reads' HO9.out).2.1 A1.out).mono ?_; rintro e w10 ⟨rfl, hb⟩; have HB10 := Aside0.mk (below_step HB9.out hb); have HS10 := Aside0.mk (blk_below HS9.out hb); have HH10 := Aside0.mk (blk_below HH9.out hb); have hc10a : w10.cell? ⟨w.heap.size, 0, none⟩ = some (.int .i64 a0_0) := (blk_cell HS10.out 0).trans rfl; have hc10b : w10.cell? ⟨w.heap.size, 1, none⟩ = some (.slice A0_1 l0_1.length c0_1) := (blk_cell HS10.out 1).trans rfl; clear hb) | (go_at_call 87; refine (impl_Isles_hasRound.calls k a0_0 A0_1 c0_1 l0_1 true w10 (Kd.C_below HR.out HB10.out) HC.out A2.out).mono ?_; rintro e w11 ⟨rfl, hb⟩; have HB11 := Aside0.mk (below_step HB10.out hb); have HS11 := Aside0.mk (blk_below HS10.out hb); have HH11 := Aside0.mk (blk_below HH10.out hb); have hh11 : ∀ o, (w11.alloc o).cell? ⟨w.heap.size + 1, 0, none⟩ = some (.int .i64 a1) := fun o => (blk_cell (blk_alloc HH11.out o) 0).trans rfl; clear hb))
      rw [run_store (hv := by rfl)]
      go_simp
      go_wp2_with fail
      refine (round1_calls w a0_0 A0_1 c0_1 l0_1 HR.out HC.out a1 w.heap.size (w.heap.size + 1) w11.heap.size k [] a1 r1 r2 (.slice none 0 0) _ (below_alloc HB11.out _) ⟨blk_alloc HS11.out _, blk_alloc HH11.out _, blk_new w11 _⟩ (Kd.R_nil _ _ _ _ _) H.out).mono ?_
      rintro e w12 ⟨v12, rfl, hR, hB⟩
      have HR12 := Aside0.mk hR
      have HB12 := Aside0.mk (below_step (below_alloc HB11.out _) hB)
      clear hR hB
      go_wp2
      go_ret2
      exact ⟨_, rfl, HR12.out, HB12.out⟩

end Go.Proofs.Ytkikaakfdggklaa.Q
