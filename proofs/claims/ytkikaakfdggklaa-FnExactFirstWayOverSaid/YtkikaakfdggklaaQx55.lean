/- Go functions of this seat as plain functions, each with the proof that its call comes to what that function says: written by this session's program (wip/drive.py) out of the translation, by the kit's printer and by texts of our own; no conditions. -/
import Derived.Test.YtkikaakfdggklaaQx0
import Derived.Test.YtkikaakfdggklaaQx50
import Derived.Test.YtkikaakfdggklaaQx51
import Derived.Shelf.Abstract
namespace Go.Proofs.Ytkikaakfdggklaa.Q
open Go.RowKit Go.Proofs.YtkikaakfdggklaaW.PrintWords Go.Proofs.YtkikaakfdggklaaW.PrintLast Go.Proofs.YtkikaakfdggklaaW.PrintMore
attribute [local go_sem] max2_int min2_int max_two min_two max_three min_three max_four min_four   -- for this text's walks alone
set_option linter.unusedVariables false
set_option linter.unusedSimpArgs false

/-! ### impl_Isles_way: function 83 -/
mutual
/-- The program's search for the best way: the ways that go on from one, best and least as they stand behind them. -/
def way1.f : Nat → (Int → Int) → Int → List S37 → Int → List Int → Int → List Int → Int → Option (List Int × Int)
  | 0, _, _, _, _, _, _, _, _ => none
  | k + 1, cost, n, l, tg, way, all, best, least => if way.length = 0 then none else if rd way ((way.length : Int) - 1) = tg then (if least < 0 then some (way, all) else if all < least then some (way, all) else some (best, least)) else way1.l0 k cost n l tg way all (rd way ((way.length : Int) - 1)) best least 0
def way1.l0 : Nat → (Int → Int) → Int → List S37 → Int → List Int → Int → Int → List Int → Int → Int → Option (List Int × Int)
  | 0, _, _, _, _, _, _, _, _, _, _ => none
  | k + 1, cost, n, l, tg, way, all, now, best, least, next => if next < n then ((impl_Isles_leastBridge.f k n l now next).bind fun toll => if toll ≥ 0 then ((slices_Contains_int_int.f k way next).bind fun b => if b = true then way1.l0 k cost n l tg way all now best least (wrap64 (next + 1)) else if way.length < 17592186044415 then ((way1.f k cost n l tg (way ++ [next]) (wrap64 (all + cost toll)) best least).bind fun q => way1.l0 k cost n l tg way all now q.1 q.2 (wrap64 (next + 1))) else none) else way1.l0 k cost n l tg way all now best least (wrap64 (next + 1))) else some (best, least)
end
theorem way1.mono_l : ∀ k, (∀ y0 y1 y2 y3 y4 y5 y6 y7, LeO (way1.f k y0 y1 y2 y3 y4 y5 y6 y7) (way1.f (k + 1) y0 y1 y2 y3 y4 y5 y6 y7)) ∧ (∀ y0 y1 y2 y3 y4 y5 y6 y7 y8 y9, LeO (way1.l0 k y0 y1 y2 y3 y4 y5 y6 y7 y8 y9) (way1.l0 (k + 1) y0 y1 y2 y3 y4 y5 y6 y7 y8 y9))
  | 0 => ⟨fun _ _ _ _ _ _ _ _ r h => by simp [way1.f] at h, fun _ _ _ _ _ _ _ _ _ _ r h => by simp [way1.l0] at h⟩
  | k + 1 => by
    obtain ⟨ih0, ih1⟩ := way1.mono_l k
    refine ⟨?_, ?_⟩
    · intro y0 y1 y2 y3 y4 y5 y6 y7
      unfold way1.f
      repeat' first
      | (with_reducible exact ih1 _ _ _ _ _ _ _ _ _ _)
      | (with_reducible exact LeO.refl _)
      | (with_reducible exact LeO.none _)
      | (with_reducible refine LeO.ite ?_ ?_)
    · intro y0 y1 y2 y3 y4 y5 y6 y7 y8 y9
      unfold way1.l0
      repeat' first
      | (with_reducible exact ih0 _ _ _ _ _ _ _ _)
      | (with_reducible exact ih1 _ _ _ _ _ _ _ _ _ _)
      | (with_reducible exact impl_Isles_leastBridge.mono _ _ _ _ _)
      | (with_reducible exact slices_Contains_int_int.mono _ _ _)
      | (with_reducible exact LeO.refl _)
      | (with_reducible exact LeO.none _)
      | (with_reducible refine LeO.ite ?_ ?_)
      | (with_reducible refine LeO.bind ?_ (fun _ => ?_))
/-- All blocks but two stay as they are. -/
structure Kept2 (p q : Nat) (W w' : World) : Prop where
  os : w'.os = W.os
  tape : w'.tape = W.tape
  output : w'.output = W.output
  size : W.heap.size ≤ w'.heap.size
  block : ∀ i, i < W.heap.size → i ≠ p → i ≠ q → w'.heap[i]? = W.heap[i]?
theorem Kept2.refl (p q : Nat) (W : World) : Kept2 p q W W := ⟨rfl, rfl, rfl, Nat.le_refl _, fun _ _ _ _ => rfl⟩
theorem Kept2.of_below {p q : Nat} {W w' : World} (h : Below W.heap.size W w') : Kept2 p q W w' := ⟨h.os, h.tape, h.output, h.size, fun i hi _ _ => h.block i hi⟩
theorem Kept2.trans {p q : Nat} {W w' w'' : World} (h : Kept2 p q W w') (k : Kept2 p q w' w'') : Kept2 p q W w'' :=
  ⟨k.os.trans h.os, k.tape.trans h.tape, k.output.trans h.output, Nat.le_trans h.size k.size, fun i hi h1 h2 => (k.block i (Nat.lt_of_lt_of_le hi h.size) h1 h2).trans (h.block i hi h1 h2)⟩
theorem Kept2.set_ {p q : Nat} {W : World} (g j : Nat) (u : Value) (h : g = p ∨ g = q) : Kept2 p q W (W.setCell ⟨g, j, none⟩ u) := by
  have hb := (Below.refl 0 W).setCell (Nat.zero_le g) (u) (p := ⟨g, j, none⟩)
  refine ⟨hb.os, hb.tape, hb.output, hb.size, fun i hi h1 h2 => Below.heap_setCell W ⟨g, j, none⟩ u i ?_⟩
  rcases h with rfl | rfl <;> assumption
theorem Kept2.below {p q B : Nat} {w0 W w' : World} (h : Kept2 p q W w') (hb : Below B w0 W) (hp : B ≤ p) (hq : B ≤ q) (hB : B ≤ W.heap.size) : Below B w0 w' :=
  ⟨h.os.trans hb.os, h.tape.trans hb.tape, h.output.trans hb.output, Nat.le_trans hb.size h.size, fun i hi => (h.block i (by omega) (by omega) (by omega)).trans (hb.block i hi)⟩
theorem Kept2.blk {p q g : Nat} {W w' : World} {o : Obj} (h : Kept2 p q W w') (hb : W.heap[g]? = some o) (h1 : g ≠ p) (h2 : g ≠ q) : w'.heap[g]? = some o := (h.block g (blk_lt hb) h1 h2).trans hb
theorem Kept2.row {p q : Nat} {W w' : World} {base : Nat} {v : Value} {xs : List Int} (h : Kept2 p q W w') (hr : Kd.R (Kd.int .i64) 3 W base (fun k => k ≠ p ∧ k ≠ q) v xs) : Kd.R (Kd.int .i64) 3 w' base (fun k => k ≠ p ∧ k ≠ q) v xs :=
  Kd.R_step hr (fun k ho hk => h.block k hk ho.1 ho.2)
theorem row_C {e : Nat} {w : World} {base : Nat} {ok : Nat → Prop} {A : Option Addr} {n c : Nat} {xs : List Int} (h : Kd.R (Kd.int .i64) e w base ok (.slice A n c) xs) : Kd.C (Kd.int .i64) w A xs.length xs := by
  obtain ⟨A', c', e, _, hC⟩ := Kd.R_reads h
  cases e
  exact hC
/-- The search's own value. -/
def wayFn (bt bl bb bs bf bc : Nat) : Value := .func (.func 109) #[] #[.pointer (some ⟨bt, 0, none⟩), .pointer (some ⟨bl, 0, none⟩), .pointer (some ⟨bb, 0, none⟩), .pointer (some ⟨bs, 0, none⟩), .pointer (some ⟨bf, 0, none⟩), .pointer (some ⟨bc, 0, none⟩)]
/-- The blocks of the search's variables: to, least, best, the isles, the search itself, the cost. -/
def Boxed (bt bl bb bs bf bc cg : Nat) (tg n : Int) (A : Option Addr) (len c : Nat) (W : World) (vb : Value) (least : Int) : Prop :=
  W.heap[bt]? = some (.cells #[.int .i64 tg] 3 (0, 0)) ∧ W.heap[bl]? = some (.cells #[.int .i64 least] 3 (0, 0)) ∧ W.heap[bb]? = some (.cells #[vb] 51 (0, 0)) ∧ W.heap[bs]? = some (.cells #[.int .i64 n, .slice A len c] 29 (0, 0)) ∧ W.heap[bf]? = some (.cells #[wayFn bt bl bb bs bf bc] 98 (0, 0)) ∧ W.heap[bc]? = some (.cells #[.func (.func cg) #[] #[]] 76 (0, 0))
/-- Six blocks, all different. -/
def Six (bt bl bb bs bf bc B : Nat) : Prop := (bt ≠ bl ∧ bt ≠ bb ∧ bs ≠ bl ∧ bs ≠ bb ∧ bf ≠ bl ∧ bf ≠ bb ∧ bc ≠ bl ∧ bc ≠ bb ∧ bl ≠ bb) ∧ B ≤ bl ∧ B ≤ bb
theorem Boxed_below {bt bl bb bs bf bc cg : Nat} {tg n : Int} {A : Option Addr} {len c : Nat} {W W' : World} {vb : Value} {least : Int} (h : Boxed bt bl bb bs bf bc cg tg n A len c W vb least) (hb : Below W.heap.size W W') : Boxed bt bl bb bs bf bc cg tg n A len c W' vb least :=
  ⟨blk_below h.1 hb, blk_below h.2.1 hb, blk_below h.2.2.1 hb, blk_below h.2.2.2.1 hb, blk_below h.2.2.2.2.1 hb, blk_below h.2.2.2.2.2 hb⟩
theorem Fns_below {bt bl bb bs bf bc cg : Nat} {tg n : Int} {A : Option Addr} {len c : Nat} {W W' : World} {vb : Value} {least : Int} (h : Boxed bt bl bb bs bf bc cg tg n A len c W vb least) (hb : Below W.heap.size W W') : W'.cell? ⟨bf, 0, none⟩ = some (wayFn bt bl bb bs bf bc) ∧ W'.cell? ⟨bc, 0, none⟩ = some (.func (.func cg) #[] #[]) :=
  ⟨(blk_cell (blk_below h.2.2.2.2.1 hb) 0).trans rfl, (blk_cell (blk_below h.2.2.2.2.2 hb) 0).trans rfl⟩
theorem row_fresh {bl bb e b b' : Nat} {W : World} {v : Value} {xs : List Int} (h : Kd.R (Kd.int .i64) e W b (fun _ => True) v xs) (hle : b' ≤ b) (h1 : bl < b') (h2 : bb < b') : Kd.R (Kd.int .i64) e W b' (fun k => k ≠ bl ∧ k ≠ bb) v xs :=
  Kd.R_lower (Kd.R_mono (Kd.R_bound h) (fun k hk => ⟨by omega, by omega⟩)) hle
theorem Boxed_put {bt bl bb bs bf bc cg : Nat} {tg n : Int} {A : Option Addr} {len c B : Nat} {W : World} {vb : Value} {least : Int} (h : Boxed bt bl bb bs bf bc cg tg n A len c W vb least) (h6 : Six bt bl bb bs bf bc B) (u : Value) (x : Int) :
    Boxed bt bl bb bs bf bc cg tg n A len c ((W.setCell ⟨bb, 0, none⟩ u).setCell ⟨bl, 0, none⟩ (.int .i64 x)) u x ∧ Kept2 bl bb W ((W.setCell ⟨bb, 0, none⟩ u).setCell ⟨bl, 0, none⟩ (.int .i64 x)) := by
  obtain ⟨⟨a1, a2, a3, a4, a5, a6, a7, a8, a9⟩, _, _⟩ := h6
  obtain ⟨h1, h2, h3, h4, h5, h6⟩ := h
  exact ⟨⟨blk_far (blk_far h1 a2 _) a1 _, blk_set (blk_far h2 a9 _) 0 _, blk_far (blk_set h3 0 _) (Ne.symm a9) _, blk_far (blk_far h4 a4 _) a3 _, blk_far (blk_far h5 a6 _) a5 _, blk_far (blk_far h6 a8 _) a7 _⟩, (Kept2.set_ bb 0 _ (.inr rfl)).trans (Kept2.set_ bl 0 _ (.inl rfl))⟩
set_option maxHeartbeats 8000000 in
set_option maxRecDepth 100000 in
theorem way1_calls (cg : Nat) (cost : Int → Int) (eg : ∀ args w, (callFunc cg args).run Try.prog w = .ok (.enter cg args) w) (hcost : ∀ (x : Int) (W : World), Calls Try.prog cg #[.int .i64 x] W fun e w' => e = .returned (.int .i64 (cost x)) ∧ W = w') (w0 : World) (tg n : Int) (A : Option Addr) (c : Nat) (l : List S37) (hC : Kd.C k37 w0 A l.length l) (hc : l.length ≤ c) (bt bl bb bs bf bc : Nat) (h6 : Six bt bl bb bs bf bc w0.heap.size) :
    ∀ (k : Nat) (way : List Int) (all : Int) (best : List Int) (least : Int) (r1 : List Int) (r2 : Int) (v vb : Value) (W : World), Below w0.heap.size w0 W → Boxed bt bl bb bs bf bc cg tg n A l.length c W vb least → Kd.R (Kd.int .i64) 3 W w0.heap.size (fun k => k ≠ bl ∧ k ≠ bb) v way → Kd.R (Kd.int .i64) 3 W w0.heap.size (fun k => k ≠ bl ∧ k ≠ bb) vb best →
      way1.f k cost n l tg way all best least = some (r1, r2) →
      Calls Try.prog 109 #[v, .int .i64 all, .pointer (some ⟨bt, 0, none⟩), .pointer (some ⟨bl, 0, none⟩), .pointer (some ⟨bb, 0, none⟩), .pointer (some ⟨bs, 0, none⟩), .pointer (some ⟨bf, 0, none⟩), .pointer (some ⟨bc, 0, none⟩)] W fun e w' => e = .returned (.tuple #[]) ∧ ∃ vb', Boxed bt bl bb bs bf bc cg tg n A l.length c w' vb' r2 ∧ Kd.R (Kd.int .i64) 3 w' w0.heap.size (fun k => k ≠ bl ∧ k ≠ bb) vb' r1 ∧ Kept2 bl bb W w' := by
  intro k
  induction k using Nat.strongRecOn with
  | ind k IH =>
  intro way all best least r1 r2 v vb W hB hX hv hvb h
  cases k with
  | zero => simp [way1.f] at h
  | succ k =>
  rw [way1.f] at h
  by_cases hl : way.length = 0
  · rw [if_pos hl] at h
    cases h
  rw [if_neg hl] at h
  obtain ⟨Av, cv, rfl, hvl, hvC⟩ := Kd.R_reads hv
  obtain ⟨m, hm⟩ : ∃ m, way.length = m + 1 := ⟨way.length - 1, by omega⟩
  have hmx := Kd.C_max hvC
  obtain ⟨ad, rfl, hrd⟩ := Kd.at_int hvC ((way.length : Int) - 1) (by omega) (by omega)
  obtain ⟨now, hnow⟩ : ∃ now, now = rd way ((way.length : Int) - 1) := ⟨_, rfl⟩
  rw [← hnow] at h hrd
  rw [show ((way.length : Int) - 1).toNat = m from by omega] at hrd
  obtain ⟨hXt, hXl, hXb, hXs, hXf, hXc⟩ := hX
  by_cases ht : now = tg
  · rw [if_pos ht] at h
    have hct : W.cell? ⟨bt, 0, none⟩ = some (.int .i64 tg) := (blk_cell hXt 0).trans rfl
    have hcl : W.cell? ⟨bl, 0, none⟩ = some (.int .i64 least) := (blk_cell hXl 0).trans rfl
    have hcb : W.cell? ⟨bb, 0, none⟩ = some vb := (blk_cell hXb 0).trans rfl
    have hfb : W.frozen? ⟨bb, 0, none⟩ = false := blk_frozen hXb 0
    have hfl : W.frozen? ⟨bl, 0, none⟩ = false := blk_frozen hXl 0
    have hcl2 : ∀ u, (W.setCell ⟨bb, 0, none⟩ u).cell? ⟨bl, 0, none⟩ = some (.int .i64 least) := fun u => (World.cell?_setCell_other W _ _ _ (by intro e; cases e; exact h6.1.2.2.2.2.2.2.2.2 rfl)).trans hcl
    have hcb2 : ∀ u, (W.setCell ⟨bl, 0, none⟩ u).cell? ⟨bb, 0, none⟩ = some vb := fun u => (World.cell?_setCell_other W _ _ _ (by intro e; cases e; exact h6.1.2.2.2.2.2.2.2.2 rfl)).trans hcb
    have hfl2 : ∀ u, (W.setCell ⟨bb, 0, none⟩ u).frozen? ⟨bl, 0, none⟩ = false := fun u => by rw [World.frozen?_setCell]; exact hfl
    have hfb2 : ∀ u, (W.setCell ⟨bl, 0, none⟩ u).frozen? ⟨bb, 0, none⟩ = false := fun u => by rw [World.frozen?_setCell]; exact hfb
    have HV := Aside0.mk hv
    have HVB := Aside0.mk hvb
    have HX := Aside0.mk (show Boxed bt bl bb bs bf bc cg tg n (A) l.length c W vb least from ⟨hXt, hXl, hXb, hXs, hXf, hXc⟩)
    have HB := Aside0.mk hB
    have HL := Aside0.mk h6
    have HN := Aside0.mk hnow
    clear hv hvb hXt hXl hXb hXs hXf hXc hB hvC h6 hnow hC hc
    by_cases c1 : least < 0
    · rw [if_pos c1] at h
      obtain ⟨rfl, rfl⟩ := Prod.mk.injEq .. ▸ Option.some.inj h
      clear h
      go_enter Try.func109, Try.ntmps109
      go_wp2
      (try simp only [Exit.inBlock, Exit.then])
      refine bodyPost_ret (results_none rfl _ _ _) rfl ?_
      rw [← hm]
      have hp := Boxed_put HX.out HL.out (.slice (some ad) way.length cv) all
      exact ⟨rfl, _, hp.1, hp.2.row HV.out, hp.2⟩
    · rw [if_neg c1] at h
      by_cases c2 : all < least
      · rw [if_pos c2] at h
        obtain ⟨rfl, rfl⟩ := Prod.mk.injEq .. ▸ Option.some.inj h
        clear h
        go_enter Try.func109, Try.ntmps109
        go_wp2
        (try simp only [Exit.inBlock, Exit.then])
        refine bodyPost_ret (results_none rfl _ _ _) rfl ?_
        rw [← hm]
        have hp := Boxed_put HX.out HL.out (.slice (some ad) way.length cv) all
        exact ⟨rfl, _, hp.1, hp.2.row HV.out, hp.2⟩
      · rw [if_neg c2] at h
        obtain ⟨rfl, rfl⟩ := Prod.mk.injEq .. ▸ Option.some.inj h
        clear h
        go_enter Try.func109, Try.ntmps109
        go_wp2
        (try simp only [Exit.inBlock, Exit.then])
        refine bodyPost_ret (results_none rfl _ _ _) rfl ?_
        exact ⟨rfl, _, HX.out, HVB.out, Kept2.refl _ _ _⟩
  · rw [if_neg ht] at h
    have hct : W.cell? ⟨bt, 0, none⟩ = some (.int .i64 tg) := (blk_cell hXt 0).trans rfl
    have hcs : W.cell? ⟨bs, 0, none⟩ = some (.int .i64 n) := (blk_cell hXs 0).trans rfl
    have HV := Aside0.mk hv
    have HVB := Aside0.mk hvb
    have HX := Aside0.mk (show Boxed bt bl bb bs bf bc cg tg n (A) l.length c W vb least from ⟨hXt, hXl, hXb, hXs, hXf, hXc⟩)
    have HB := Aside0.mk hB
    have HL := Aside0.mk h6
    have HN := Aside0.mk hnow
    have HC := Aside0.mk hC
    have HVC := Aside0.mk hvC
    have H' := Aside0.mk h
    clear h hv hvb hXt hXl hXb hXs hXf hXc hB hvC h6 hnow hC
    have htb : (now == tg) = false := by simp [ht]
    rw [hm]
    go_enter Try.func109, Try.ntmps109
    go_wp2
    go_loopg [33] k (fun kq v33 w' => ∃ (next : Int) (best : List Int) (least : Int) (vb : Value), v33 = .int .i64 next ∧ Aside0 (way1.l0 kq cost n l tg way all now best least next = some (r1, r2)) ∧ Aside0 (kq ≤ k) ∧ Aside0 (Boxed bt bl bb bs bf bc cg tg n A l.length c w' vb least) ∧ Aside0 (Kd.R (Kd.int .i64) 3 w' w0.heap.size (fun k => k ≠ bl ∧ k ≠ bb) vb best) ∧ Aside0 (Kept2 bl bb W w'))
    case atStart => exact ⟨0, best, least, vb, rfl, H', ⟨Nat.le_refl _⟩, HX, HVB, ⟨Kept2.refl _ _ _⟩⟩
    case round =>
      obtain ⟨next, bestr, leastr, vbr, rfl, HH, HK, HXr, HVBr, HKr⟩ := hrel
      clear H' HX HVB hct hrd hcs
      cases gk with
      | zero => exact absurd HH.out (by simp [way1.l0])
      | succ gk =>
      have h := HH.out
      clear HH
      rw [way1.l0] at h
      have HBr := Aside0.mk (HKr.out.below HB.out HL.out.2.1 HL.out.2.2 (below_size HB.out))
      by_cases c1 : next < n
      · rw [if_pos c1] at h
        obtain ⟨toll, h1, h⟩ := Option.bind_eq_some_iff.mp h
        have hLB := fun (w : World) (hw : Below w0.heap.size w0 w) => impl_Isles_leastBridge.calls gk n A c l now next toll w (Kd.C_below HC.out hw) hc h1
        have hs0 : wr.cell? ⟨bs, 0, none⟩ = some (.int .i64 n) := (blk_cell HXr.out.2.2.2.1 0).trans rfl
        have hs1 : wr.cell? ⟨bs, 1, none⟩ = some (.slice A l.length c) := (blk_cell HXr.out.2.2.2.1 1).trans rfl
        have HVr := Aside0.mk (HKr.out.row HV.out)
        have HVCr := Aside0.mk (row_C HVr.out)
        clear HVC
        by_cases c2 : toll ≥ 0
        · rw [if_pos c2] at h
          obtain ⟨b, h2, h⟩ := Option.bind_eq_some_iff.mp h
          have hCT : ∀ (w : World) (hw : Below wr.heap.size wr w), Calls Try.prog 100 #[.slice (some ad) (m + 1) cv, .int .i64 next] w fun e w' => e = .returned (.bool b) ∧ Drawn0 w w' := fun w hw => by rw [← hm]; exact slices_Contains_int_int.calls gk (some ad) cv way next b w (Kd.C_below HVCr.out hw) hvl h2
          cases b with
          | true =>
            rw [if_pos rfl] at h
            have H' := Aside0.mk h
            clear h
            go_wp2_with (first | (go_at_call 110; refine (hLB wr HBr.out).mono ?_; rintro e w1 ⟨rfl, hb1⟩; have HB1 := Aside0.mk hb1; clear hb1) | (go_at_call 100; refine (hCT w1 HB1.out).mono ?_; rintro e w2 ⟨rfl, hb2⟩; have HB2 := Aside0.mk (below_step HB1.out hb2.below); clear hb2))
            go_roundg gk
            case measure => omega
            case rel => exact ⟨_, _, _, _, by first | rfl | (simp; done) | (simp [*]; done), H', ⟨by have := HK.out; omega⟩, ⟨Boxed_below HXr.out HB2.out⟩, ⟨Kd.R_below HVBr.out HB2.out⟩, ⟨HKr.out.trans (Kept2.of_below HB2.out)⟩⟩
          | false =>
            rw [if_neg (by simp)] at h
            by_cases c3 : way.length < 17592186044415
            · rw [if_pos c3] at h
              obtain ⟨⟨q1, q2⟩, h3, h⟩ := Option.bind_eq_some_iff.mp h
              have HQ := Aside0.mk h3
              have H' := Aside0.mk h
              have hCL : ∀ (w : World) (hw : Below wr.heap.size wr w), Calls Try.prog 101 #[.slice (some ad) (m + 1) cv] w fun e w' => ∃ v0_ : Value, e = .returned (v0_) ∧ Kd.R (Kd.int .i64) 3 w' w.heap.size (fun _ => True) v0_ way ∧ Below w.heap.size w w' := fun w hw => by rw [← hm]; exact slices_Clone_int_int.calls (some ad) cv way way w (Kd.C_below HVCr.out hw) hvl (if_pos (by omega))
              have egw : ∀ args w, (callFunc 109 args).run Try.prog w = .ok (.enter 109 args) w := enters_ Try.func109 (by kernel_rfl) rfl
              have mixed : Try.prog.follows .mixedOrders = true := by kernel_rfl
              have HLT := Aside0.mk (show bl < wr.heap.size ∧ bb < wr.heap.size from ⟨blk_lt HXr.out.2.1, blk_lt HXr.out.2.2.1⟩)
              clear h h3
              go_wp2_with (first | (go_at_call 110; refine (hLB wr HBr.out).mono ?_; rintro e w1 ⟨rfl, hb1⟩; have HB1 := Aside0.mk hb1; clear hb1) | (go_at_call 100; refine (hCT w1 HB1.out).mono ?_; rintro e w2 ⟨rfl, hb2⟩; have HB2 := Aside0.mk (below_step HB1.out hb2.below); clear hb2))
              refine start_ (n := 12) (S := fun w' => w'.cell? ⟨bf, 0, none⟩ = some (wayFn bt bl bb bs bf bc) ∧ w'.cell? ⟨bc, 0, none⟩ = some (.func (.func cg) #[] #[])) (ds := []) #[false, false, false, false, false, false, false, false, false, false, false, false] mixed rfl rfl (Fns_below HXr.out (below_drew HB2.out)) (fun hHeld => ?_)
              have HBd := Aside0.mk (below_drew HB2.out)
              generalize w2.drew = wd at HBd hHeld ⊢
              refine pure_ (i := 1) (N := some 49) (v := ?_) (a' := ?_) #[false, true, false, false, false, false, false, false, false, false, false, false] rfl rfl (by kernel_rfl) (fun _ _ _ h => h) (Or.inl ⟨by rfl, ?_⟩) ?_ ?_
              rotate_left
              · intro w'
                go_simp
                with_reducible rfl
              rotate_left
              · simp only [Act.put, List.setIfInBounds_toArray, List.set_cons_zero, List.set_cons_succ, i64_w, i32_w]
                rfl
              refine pure_ (i := 3) (N := some 51) (v := ?_) (a' := ?_) #[false, true, false, true, false, false, false, false, false, false, false, false] rfl rfl (by kernel_rfl) (fun _ _ _ h => h) (Or.inl ⟨by rfl, ?_⟩) ?_ ?_
              rotate_left
              · intro w'
                go_simp
                with_reducible rfl
              rotate_left
              · simp only [Act.put, List.setIfInBounds_toArray, List.set_cons_zero, List.set_cons_succ, i64_w, i32_w]
                rfl
              refine pure_ (i := 6) (N := some 54) (v := ?_) (a' := ?_) #[false, true, false, true, false, false, true, false, false, false, false, false] rfl rfl (by kernel_rfl) (fun _ _ _ h => h) (Or.inl ⟨by rfl, ?_⟩) ?_ ?_
              rotate_left
              · intro w'
                go_simp
                with_reducible rfl
              rotate_left
              · simp only [Act.put, List.setIfInBounds_toArray, List.set_cons_zero, List.set_cons_succ, i64_w, i32_w]
                rfl
              refine pure_ (i := 8) (N := some 56) (v := ?_) (a' := ?_) #[false, true, false, true, false, false, true, false, true, false, false, false] rfl rfl (by kernel_rfl) (fun _ _ _ h => h) (Or.inl ⟨by rfl, ?_⟩) ?_ ?_
              rotate_left
              · intro w'
                go_simp
                with_reducible rfl
              rotate_left
              · simp only [Act.put, List.setIfInBounds_toArray, List.set_cons_zero, List.set_cons_succ, i64_w, i32_w]
                rfl
              refine take_ (i := 0) (N := some 48) (v := ?_) (a' := ?_) #[true, true, false, true, false, false, true, false, true, false, false, false] rfl rfl (by kernel_rfl) (fun _ _ _ h => h) (Or.inl ⟨by rfl, ?_⟩) hHeld ?_ ?_
              rotate_left
              · rintro w' ⟨s0, s1⟩
                go_simp
                with_reducible rfl
              rotate_left
              · simp only [Act.put, List.setIfInBounds_toArray, List.set_cons_zero, List.set_cons_succ, i64_w, i32_w]
                rfl
              refine take_ (i := 7) (N := some 55) (v := ?_) (a' := ?_) #[true, true, false, true, false, false, true, true, true, false, false, false] rfl rfl (by kernel_rfl) (fun _ _ _ h => h) (Or.inl ⟨by rfl, ?_⟩) hHeld ?_ ?_
              rotate_left
              · rintro w' ⟨s0, s1⟩
                go_simp
                with_reducible rfl
              rotate_left
              · simp only [Act.put, List.setIfInBounds_toArray, List.set_cons_zero, List.set_cons_succ, i64_w, i32_w]
                rfl
              refine join_ (σ := Value × Option Addr × Nat) 4 #[true, true, true, true, true, false, true, true, true, false, false, false] (fun s_ => [(50, s_.1), (52, .slice s_.2.1 1 s_.2.2)]) (fun s_ w' => (w'.cell? ⟨bf, 0, none⟩ = some (wayFn bt bl bb bs bf bc) ∧ w'.cell? ⟨bc, 0, none⟩ = some (.func (.func cg) #[] #[])) ∧ Kd.R (Kd.int .i64) 3 w' wr.heap.size (fun k => k ≠ bl ∧ k ≠ bb) s_.1 way ∧ Kd.C (Kd.int .i64) w' s_.2.1 1 [next] ∧ Below wr.heap.size wr w') ?_ ?_
              rotate_left
              · intro hCont
                refine two_ (i := 2) (j := 4) (Ni := some 50) (Nj := some 52) #[true, true, true, true, false, false, true, true, true, false, false, false] #[true, true, false, true, true, false, true, true, true, false, false, false] rfl rfl rfl rfl (by kernel_rfl) (by decide) (by decide) (fun K hK => ?_) (fun K hK => ?_)
                · skip
                  refine goes_ Try.func101 (by kernel_rfl) rfl #[.slice (some ad) (m + 1) cv] (by rfl) rfl rfl (by (try simp only [List.map_toArray, List.map_cons, List.map_nil]); first | done | rfl) ?_
                  refine (hCL wd HBd.out).mono ?_
                  rintro e w3 ⟨v1, rfl, ho, hb⟩
                  refine ⟨_, rfl, ?_⟩
                  have HB3 := Aside0.mk (below_step HBd.out hb)
                  have HR1 := Aside0.mk (row_fresh ho (below_size HBd.out) HLT.out.1 HLT.out.2)
                  clear hb ho
                  refine hK.out _ _ (Fns_below HXr.out HB3.out) (fun hHeld => ?_)
                  clear hK K
                  refine norm_ (a' := ?_) ?_ ?_
                  rotate_left
                  · show Act.put _ (some 50) _ = _
                    simp only [Act.put, List.setIfInBounds_toArray, List.set_cons_zero, List.set_cons_succ, i64_w, i32_w]
                    rfl
                  refine one_ (i := 4) (N := some 52) #[true, true, true, true, true, false, true, true, true, false, false, false] rfl rfl (by kernel_rfl) (by decide) (fun K hK => ?_)
                  refine Kd.R_lit_step (Kd.int .i64) _ 3 ?hg (N := 52) ?hd (xs := ([next] : List Int)) (inner := [.int .i64 next]) (ok := fun _ => True) (okp := fun _ => True) ?hr ?hp (fun _ hk => hk) trivial (Below.refl _ _) (Nat.le_refl _) (by simp) ?_; (case hd => rfl); (case hg => rfl); (case hr => first | (go_simp; done) | (go_simp; rfl)); (case hp => exact (Reps.one (show Kd.M (Kd.int .i64) _ _ _ next [.int .i64 next] from rfl) (Reps.none _ _)))
                  intro v2 w4 ho hb hg_ hnew_
                  clear hg_ hnew_
                  have HB4 := Aside0.mk (below_step HB3.out hb)
                  have HR2 := Aside0.mk (Kd.R_below HR1.out hb)
                  obtain ⟨A2, c2, rfl, hc2, hC2⟩ := Kd.R_reads ho
                  clear hb ho
                  refine hK.out _ _ (Fns_below HXr.out HB4.out) (fun hHeld => ?_)
                  clear hK K
                  refine norm_ (a' := ?_) ?_ ?_
                  rotate_left
                  · show Act.put _ (some 52) _ = _
                    simp only [Act.put, List.setIfInBounds_toArray, List.set_cons_zero, List.set_cons_succ, i64_w, i32_w]
                    rfl
                  exact norm_ (by simp only [putAll, Act.put, List.setIfInBounds_toArray, List.set_cons_zero, List.set_cons_succ]; rfl) (hCont (v1, A2, c2) _ ⟨hHeld, HR2.out, hC2, HB4.out⟩)
                · skip
                  refine Kd.R_lit_step (Kd.int .i64) _ 3 ?hg (N := 52) ?hd (xs := ([next] : List Int)) (inner := [.int .i64 next]) (ok := fun _ => True) (okp := fun _ => True) ?hr ?hp (fun _ hk => hk) trivial (Below.refl _ _) (Nat.le_refl _) (by simp) ?_; (case hd => rfl); (case hg => rfl); (case hr => first | (go_simp; done) | (go_simp; rfl)); (case hp => exact (Reps.one (show Kd.M (Kd.int .i64) _ _ _ next [.int .i64 next] from rfl) (Reps.none _ _)))
                  intro v2 w3 ho hb hg_ hnew_
                  clear hg_ hnew_
                  have HB3 := Aside0.mk (below_step HBd.out hb)
                  obtain ⟨A2, c2, rfl, hc2, hC2⟩ := Kd.R_reads ho
                  have HC2 := Aside0.mk hC2
                  clear hb ho hC2
                  refine hK.out _ _ (Fns_below HXr.out HB3.out) (fun hHeld => ?_)
                  clear hK K
                  refine norm_ (a' := ?_) ?_ ?_
                  rotate_left
                  · show Act.put _ (some 52) _ = _
                    simp only [Act.put, List.setIfInBounds_toArray, List.set_cons_zero, List.set_cons_succ, i64_w, i32_w]
                    rfl
                  refine one_ (i := 2) (N := some 50) #[true, true, true, true, true, false, true, true, true, false, false, false] rfl rfl (by kernel_rfl) (by decide) (fun K hK => ?_)
                  refine goes_ Try.func101 (by kernel_rfl) rfl #[.slice (some ad) (m + 1) cv] (by rfl) rfl rfl (by (try simp only [List.map_toArray, List.map_cons, List.map_nil]); first | done | rfl) ?_
                  refine (hCL w3 HB3.out).mono ?_
                  rintro e w4 ⟨v1, rfl, ho, hb⟩
                  refine ⟨_, rfl, ?_⟩
                  have HB4 := Aside0.mk (below_step HB3.out hb)
                  have HR1 := Aside0.mk (row_fresh ho (below_size HB3.out) HLT.out.1 HLT.out.2)
                  have HC3 := Aside0.mk (Kd.C_below HC2.out hb)
                  clear hb ho
                  refine hK.out _ _ (Fns_below HXr.out HB4.out) (fun hHeld => ?_)
                  clear hK K
                  refine norm_ (a' := ?_) ?_ ?_
                  rotate_left
                  · show Act.put _ (some 50) _ = _
                    simp only [Act.put, List.setIfInBounds_toArray, List.set_cons_zero, List.set_cons_succ, i64_w, i32_w]
                    rfl
                  exact norm_ (by simp only [putAll, Act.put, List.setIfInBounds_toArray, List.set_cons_zero, List.set_cons_succ]; rfl) (hCont (v1, A2, c2) _ ⟨hHeld, HR1.out, HC3.out, HB4.out⟩)
              rintro ⟨v1, A2, c2⟩ w4 ⟨hHeld, hR1, hC2, hB4⟩
              have HR1 := Aside0.mk hR1
              have HC2 := Aside0.mk hC2
              have HB4 := Aside0.mk hB4
              clear hR1 hC2 hB4
              refine norm_ (a' := ?_) ?_ ?_
              rotate_left
              · simp only [putAll, Act.put, List.setIfInBounds_toArray, List.set_cons_zero, List.set_cons_succ]
                rfl
              refine one_ (i := 5) (N := some 53) #[true, true, true, true, true, true, true, true, true, false, false, false] rfl rfl (by kernel_rfl) (by decide) (fun K hK => ?_)
              refine Kd.R_append_rows_step (Kd.int .i64) (w0 := wr) wr.heap.size (by rfl) (.tmp 50) (.tmp 52) 51 3 (.int .i64 0) 8 rfl Try.underlying51 info3 rfl (by decide) (by omega) v1 way [next] A2 1 c2 (fun k => k ≠ bl ∧ k ≠ bb) (fun _ => False) rfl rfl HR1.out HC2.out (fun _ _ h => h) (fun _ h => h.elim) (fun k hk => ?_) HB4.out (below_size HB4.out) (by omega) ?_
              · have h1 := HLT.out
                have h2 := below_size HB4.out
                exact ⟨by omega, by omega⟩
              intro v3 w5 hr3 hb5 hg5 hat5
              clear hg5 hat5
              have HR3 := Aside0.mk hr3
              have HB5 := Aside0.mk hb5
              clear hr3 hb5
              refine hK.out _ _ (Fns_below HXr.out HB5.out) (fun hHeld => ?_)
              clear hK K
              refine norm_ (a' := ?_) ?_ ?_
              rotate_left
              · show Act.put _ (some 53) _ = _
                simp only [Act.put, List.setIfInBounds_toArray, List.set_cons_zero, List.set_cons_succ, i64_w, i32_w]
                rfl
              refine one_ (i := 9) (N := some 57) #[true, true, true, true, true, true, true, true, true, true, false, false] rfl rfl (by kernel_rfl) (by decide) (fun K hK => ?_)
              refine call_ cg #[.int .i64 toll] (by rfl) rfl (by unfold execOp; simp [resolve, Deferred.ofValue, invoke, Act.eval, eg]) ?_
              refine (hcost toll w5).mono ?_
              rintro e w6 ⟨rfl, rfl⟩
              refine ⟨_, rfl, ?_⟩
              refine hK.out _ _ (Fns_below HXr.out HB5.out) (fun hHeld => ?_)
              clear hK K
              refine norm_ (a' := ?_) ?_ ?_
              rotate_left
              · show Act.put _ (some 57) _ = _
                simp only [Act.put, List.setIfInBounds_toArray, List.set_cons_zero, List.set_cons_succ, i64_w, i32_w]
                rfl
              refine pure_ (i := 10) (N := some 58) (v := ?_) (a' := ?_) #[true, true, true, true, true, true, true, true, true, true, true, false] rfl rfl (by kernel_rfl) (fun _ _ _ h => h) (Or.inl ⟨by rfl, ?_⟩) ?_ ?_
              rotate_left
              · intro w'
                go_simp
                with_reducible rfl
              rotate_left
              · simp only [Act.put, List.setIfInBounds_toArray, List.set_cons_zero, List.set_cons_succ, i64_w, i32_w]
                rfl
              refine one_ (i := 11) (N := some 59) #[true, true, true, true, true, true, true, true, true, true, true, true] rfl rfl (by kernel_rfl) (by decide) (fun K hK => ?_)
              refine call_ 109 #[v3, .int .i64 (wrap64 (all + cost toll)), .pointer (some ⟨bt, 0, none⟩), .pointer (some ⟨bl, 0, none⟩), .pointer (some ⟨bb, 0, none⟩), .pointer (some ⟨bs, 0, none⟩), .pointer (some ⟨bf, 0, none⟩), .pointer (some ⟨bc, 0, none⟩)] (by rfl) rfl (by unfold execOp; simp [wayFn, resolve, Deferred.ofValue, invoke, Act.eval, egw]) ?_
              refine (IH gk (by have := HK.out; omega) (way ++ [next]) (wrap64 (all + cost toll)) bestr leastr q1 q2 v3 vbr w5 (below_step HBr.out HB5.out) (Boxed_below HXr.out HB5.out) (Kd.R_lower HR3.out (below_size HBr.out)) (Kd.R_below HVBr.out HB5.out) HQ.out).mono ?_
              rintro e w6 ⟨rfl, vb6, hX6, hR6, hK6⟩
              have HX6 := Aside0.mk hX6
              have HR6 := Aside0.mk hR6
              have HK6 := Aside0.mk (HKr.out.trans ((Kept2.of_below HB5.out).trans hK6))
              clear hX6 hR6 hK6
              refine ⟨_, rfl, ?_⟩
              refine hK.out _ _ (Fns_below HX6.out (Below.refl _ _)) (fun hHeld => ?_)
              clear hK K
              refine norm_ (a' := ?_) ?_ ?_
              rotate_left
              · show Act.put _ (some 59) _ = _
                simp only [Act.put, List.setIfInBounds_toArray, List.set_cons_zero, List.set_cons_succ, i64_w, i32_w]
                rfl
              refine done_ (by kernel_rfl) ?_
              go_wp2
              go_roundg gk
              case measure => omega
              case rel => exact ⟨_, _, _, _, by first | rfl | (simp; done) | (simp [*]; done), H', ⟨by have := HK.out; omega⟩, HX6, HR6, HK6⟩
            · rw [if_neg c3] at h
              cases h
        · rw [if_neg c2] at h
          have H' := Aside0.mk h
          clear h
          go_wp2_with (go_at_call 110; refine (hLB wr HBr.out).mono ?_; rintro e w1 ⟨rfl, hb1⟩; have HB1 := Aside0.mk hb1; clear hb1)
          go_roundg gk
          case measure => omega
          case rel => exact ⟨_, _, _, _, by first | rfl | (simp; done) | (simp [*]; done), H', ⟨by have := HK.out; omega⟩, ⟨Boxed_below HXr.out HB1.out⟩, ⟨Kd.R_below HVBr.out HB1.out⟩, ⟨HKr.out.trans (Kept2.of_below HB1.out)⟩⟩
      · rw [if_neg c1] at h
        obtain ⟨rfl, rfl⟩ := Prod.mk.injEq .. ▸ Option.some.inj h
        clear h
        go_wp2
        refine bodyPost_end (results_none rfl _ _ _) rfl ?_
        exact ⟨rfl, _, HXr.out, HVBr.out, HKr.out⟩
theorem way_start (w : World) (n : Int) (A : Option Addr) (len c : Nat) (tg : Int) (cg : Nat) : let s := w.heap.size; let W := (((((w.alloc (.cells #[.int .i64 n, .slice A len c] 29 (0, 0))).alloc (.cells #[.int .i64 tg] 3 (0, 0))).alloc (.cells #[.func (.func cg) #[] #[]] 76 (0, 0))).alloc (.cells #[.slice none 0 0] 51 (0, 0))).alloc (.cells #[.int .i64 (-1)] 3 (0, 0))).alloc (.cells #[wayFn (s + 1) (s + 1 + 1 + 1 + 1) (s + 1 + 1 + 1) s (s + 1 + 1 + 1 + 1 + 1) (s + 1 + 1)] 98 (0, 0));
    Boxed (s + 1) (s + 1 + 1 + 1 + 1) (s + 1 + 1 + 1) s (s + 1 + 1 + 1 + 1 + 1) (s + 1 + 1) cg tg n A len c W (.slice none 0 0) (-1) ∧ Below s w W ∧ W.heap.size = s + 6 := by
  intro s W
  have hs : ∀ (u : World) (o : Obj), (u.alloc o).heap.size = u.heap.size + 1 := fun u o => by simp
  have b0 : Below s w w := Below.refl _ _
  refine ⟨⟨?_, ?_, ?_, ?_, ?_, ?_⟩, ?_, ?_⟩
  · refine blk_alloc (blk_alloc (blk_alloc (blk_alloc ?_ _) _) _) _
    have := blk_new (w.alloc (.cells #[.int .i64 n, .slice A len c] 29 (0, 0))) (.cells #[.int .i64 tg] 3 (0, 0))
    rwa [hs] at this
  · refine blk_alloc ?_ _
    have := blk_new ((((w.alloc (.cells #[.int .i64 n, .slice A len c] 29 (0, 0))).alloc (.cells #[.int .i64 tg] 3 (0, 0))).alloc (.cells #[.func (.func cg) #[] #[]] 76 (0, 0))).alloc (.cells #[.slice none 0 0] 51 (0, 0))) (.cells #[.int .i64 (-1)] 3 (0, 0))
    rwa [hs, hs, hs, hs] at this
  · refine blk_alloc (blk_alloc ?_ _) _
    have := blk_new (((w.alloc (.cells #[.int .i64 n, .slice A len c] 29 (0, 0))).alloc (.cells #[.int .i64 tg] 3 (0, 0))).alloc (.cells #[.func (.func cg) #[] #[]] 76 (0, 0))) (.cells #[.slice none 0 0] 51 (0, 0))
    rwa [hs, hs, hs] at this
  · exact blk_alloc (blk_alloc (blk_alloc (blk_alloc (blk_alloc (blk_new w _) _) _) _) _) _
  · have := blk_new (((((w.alloc (.cells #[.int .i64 n, .slice A len c] 29 (0, 0))).alloc (.cells #[.int .i64 tg] 3 (0, 0))).alloc (.cells #[.func (.func cg) #[] #[]] 76 (0, 0))).alloc (.cells #[.slice none 0 0] 51 (0, 0))).alloc (.cells #[.int .i64 (-1)] 3 (0, 0))) (.cells #[wayFn (s + 1) (s + 1 + 1 + 1 + 1) (s + 1 + 1 + 1) s (s + 1 + 1 + 1 + 1 + 1) (s + 1 + 1)] 98 (0, 0))
    rwa [hs, hs, hs, hs, hs] at this
  · refine blk_alloc (blk_alloc (blk_alloc ?_ _) _) _
    have := blk_new ((w.alloc (.cells #[.int .i64 n, .slice A len c] 29 (0, 0))).alloc (.cells #[.int .i64 tg] 3 (0, 0))) (.cells #[.func (.func cg) #[] #[]] 76 (0, 0))
    rwa [hs, hs] at this
  · exact (((((b0.alloc (Nat.le_refl _) _).alloc (by simp only [hs]; omega) _).alloc (by simp only [hs]; omega) _).alloc (by simp only [hs]; omega) _).alloc (by simp only [hs]; omega) _).alloc (by simp only [hs]; omega) _
  · simp only [W, hs]
    rfl
def impl_Isles_way.f (k : Nat) (cost : Int → Int) (a0_0 : Int) (l0_1 : List S37) (a1 : Int) (a2 : Int) : Option (List Int × Int) := way1.f k cost a0_0 l0_1 a2 [a1] 0 [] (-1)
set_option maxHeartbeats 8000000 in
set_option maxRecDepth 100000 in
theorem impl_Isles_way.calls (cg : Nat) (cost : Int → Int) (eg : ∀ args w, (callFunc cg args).run Try.prog w = .ok (.enter cg args) w) (hcost : ∀ (x : Int) (W : World), Calls Try.prog cg #[.int .i64 x] W fun e w' => e = .returned (.int .i64 (cost x)) ∧ W = w') (k : Nat) (a0_0 : Int) (A0_1 : Option Addr) (c0_1 : Nat) (l0_1 : List S37) (a1 : Int) (a2 : Int) (r1 : List Int) (r2 : Int) (w : World) (hr0_1 : Kd.C k37 w A0_1 l0_1.length l0_1) (hc0_1 : l0_1.length ≤ c0_1) (h : impl_Isles_way.f k cost a0_0 l0_1 a1 a2 = some (r1, r2)) :
    Calls Try.prog 83 #[.agg #[.int .i64 a0_0, .slice A0_1 l0_1.length c0_1], .int .i64 a1, .int .i64 a2, .func (.func cg) #[] #[]] w fun e w' => ∃ v1_ : Value, e = .returned (.tuple #[v1_, .int .i64 r2]) ∧ Kd.R (Kd.int .i64) 3 w' w.heap.size (fun _ => True) v1_ r1 ∧ Below w.heap.size w w' := by
  have HR := Aside0.mk hr0_1
  have HC := Aside0.mk hc0_1
  have H := Aside0.mk h
  have HS := Aside0.mk (way_start w a0_0 A0_1 l0_1.length c0_1 a2 cg)
  clear hr0_1 hc0_1 h
  go_enter Try.func83, Try.ntmps83
  go_wp2
  rw [run_store (hv := by rfl)]
  go_simp
  go_wp2_with ((with_reducible refine gate_dst (N := 16) rfl ?_); refine Kd.R_lit (Kd.int .i64) _ 3 ?hg (N := 16) ?hd (xs := ([a1] : List Int)) (inner := [.int .i64 a1]) (ok := fun _ => True) (okp := fun _ => True) ?hr ?hp (fun _ hk => hk) trivial (Below.refl _ _) (Nat.le_refl _) (by simp) ?_; (case hd => rfl); (case hg => rfl); (case hr => first | (go_simp; done) | (go_simp; rfl)); (case hp => exact (Reps.one (show Kd.M (Kd.int .i64) _ _ _ a1 [.int .i64 a1] from rfl) (Reps.none _ _))); intro v2 w3 ho hb hg_ hnew_; have HO := Aside0.mk ho; have HB := Aside0.mk hb; clear hb ho hg_ hnew_)
  have HS1 := Aside0.mk HS.out.1
  have HS2 := Aside0.mk HS.out.2.1
  have HS3 := Aside0.mk HS.out.2.2
  clear HS
  have hsz := HS3.out
  refine (way1_calls cg cost eg hcost w a2 a0_0 A0_1 c0_1 l0_1 HR.out HC.out (w.heap.size + 1) (w.heap.size + 1 + 1 + 1 + 1) (w.heap.size + 1 + 1 + 1) w.heap.size (w.heap.size + 1 + 1 + 1 + 1 + 1) (w.heap.size + 1 + 1) ⟨⟨by omega, by omega, by omega, by omega, by omega, by omega, by omega, by omega, by omega⟩, by omega, by omega⟩ k [a1] 0 [] (-1) r1 r2 v2 (.slice none 0 0) w3 (below_step HS2.out HB.out) (Boxed_below HS1.out HB.out) (Kd.R_lower (row_fresh HO.out (Nat.le_refl _) (by first | (simp; done) | (simp; omega)) (by first | (simp; done) | (simp; omega))) (by first | (simp; done) | (simp; omega))) (Kd.R_nil _ _ _ _ _) H.out).mono ?_
  rintro e w' ⟨rfl, vb', hX, hR, hK⟩
  have hcb : w'.cell? ⟨w.heap.size + 1 + 1 + 1, 0, none⟩ = some vb' := (blk_cell hX.2.2.1 0).trans rfl
  have hcl : w'.cell? ⟨w.heap.size + 1 + 1 + 1 + 1, 0, none⟩ = some (.int .i64 r2) := (blk_cell hX.2.1 0).trans rfl
  have HRR := Aside0.mk (Kd.R_mono hR (fun _ _ => trivial) : Kd.R (Kd.int .i64) 3 w' w.heap.size (fun _ => True) vb' r1)
  have HBB := Aside0.mk (hK.below (below_step HS2.out HB.out) (by omega) (by omega) (below_size (below_step HS2.out HB.out)))
  clear hX hR hK HS1 HS2 HS3 HB HO hsz HR HC H
  go_wp2
  have mixed : Try.prog.follows .mixedOrders = true := by kernel_rfl
  refine start_ (n := 4) (S := fun u => u.cell? ⟨w.heap.size + 1 + 1 + 1, 0, none⟩ = some vb' ∧ u.cell? ⟨w.heap.size + 1 + 1 + 1 + 1, 0, none⟩ = some (.int .i64 r2)) (ds := []) #[false, false, false, false] mixed rfl rfl ⟨hcb, hcl⟩ (fun hHeld => ?_)
  have HBd := Aside0.mk (below_drew HBB.out)
  have HRd := Aside0.mk (Kd.R_drew HRR.out)
  clear HRR HBB hcb hcl
  generalize w'.drew = wd at HBd HRd hHeld ⊢
  refine take_ (i := 0) (N := some 18) (v := ?_) (a' := ?_) #[true, false, false, false] rfl rfl (by kernel_rfl) (fun _ _ _ h => h) (Or.inl ⟨by rfl, ?_⟩) hHeld ?_ ?_
  rotate_left
  · rintro w' ⟨s0, s1⟩
    go_simp
    with_reducible rfl
  rotate_left
  · simp only [Act.put, List.setIfInBounds_toArray, List.set_cons_zero, List.set_cons_succ, i64_w, i32_w]
    rfl
  refine take_ (i := 1) (N := some 19) (v := ?_) (a' := ?_) #[true, true, false, false] rfl rfl (by kernel_rfl) (fun _ _ _ h => h) (Or.inl ⟨by rfl, ?_⟩) hHeld ?_ ?_
  rotate_left
  · rintro w' ⟨s0, s1⟩
    go_simp
    with_reducible rfl
  rotate_left
  · simp only [Act.put, List.setIfInBounds_toArray, List.set_cons_zero, List.set_cons_succ, i64_w, i32_w]
    rfl
  refine pure_ (i := 2) (N := some 8) (v := ?_) (a' := ?_) #[true, true, true, false] rfl rfl (by kernel_rfl) (fun _ _ _ h => h) (Or.inl ⟨by rfl, ?_⟩) ?_ ?_
  rotate_left
  · intro w'
    go_simp
    with_reducible rfl
  rotate_left
  · simp only [Act.put, List.setIfInBounds_toArray, List.set_cons_zero, List.set_cons_succ, i64_w, i32_w]
    rfl
  refine pure_ (i := 3) (N := some 9) (v := ?_) (a' := ?_) #[true, true, true, true] rfl rfl (by kernel_rfl) (fun _ _ _ h => h) (Or.inl ⟨by rfl, ?_⟩) ?_ ?_
  rotate_left
  · intro w'
    go_simp
    with_reducible rfl
  rotate_left
  · simp only [Act.put, List.setIfInBounds_toArray, List.set_cons_zero, List.set_cons_succ, i64_w, i32_w]
    rfl
  refine done_ (by kernel_rfl) ?_
  go_wp2
  go_ret2
  exact ⟨_, rfl, HRd.out, HBd.out⟩

end Go.Proofs.Ytkikaakfdggklaa.Q
