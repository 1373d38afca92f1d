/- Go functions of this seat as plain functions, each with the proof that its call comes to what that function says: written by this session's program (wip/drive.py) out of the translation, by the kit's printer and by texts of our own; no conditions. -/
import Derived.Test.YtkikaakfdggklaaQx0
import Derived.Test.YtkikaakfdggklaaQx20
import Derived.Test.YtkikaakfdggklaaQx51
import Derived.Shelf.Abstract
namespace Go.Proofs.Ytkikaakfdggklaa.Q
open Go.RowKit Go.Proofs.YtkikaakfdggklaaW.PrintWords Go.Proofs.YtkikaakfdggklaaW.PrintLast Go.Proofs.YtkikaakfdggklaaW.PrintMore
attribute [local go_sem] max2_int min2_int max_two min_two max_three min_three max_four min_four   -- for this text's walks alone
set_option linter.unusedVariables false
set_option linter.unusedSimpArgs false

/-! ### impl_joinings: function 94 -/
mutual
/-- The program's search for the lists of bridges that join all islands: the lists that go on from one; least, best and many as they stand behind them. -/
def join1.f : Nat → Int → List S37 → List Int → Int → Int → Int → List Int → Int → Option (Int × List Int × Int)
  | 0, _, _, _, _, _, _, _, _ => none
  | k + 1, n, l, list, from_, toll, least, best, many => if (list.length : Int) = wrap64 (n - 1) then ((join1.l1 k l list [] 0).bind fun own => ((impl_countGroups.f k n own).bind fun q => if q > 1 then some (least, best, many) else if many = 0 then some (toll, list, 1) else if toll < least then some (toll, list, 1) else if toll = least then some (least, best, wrap64 (many + 1)) else some (least, best, many))) else join1.l0 k n l list toll least best many from_
def join1.l1 : Nat → List S37 → List Int → List S37 → Int → Option (List S37)
  | 0, _, _, _, _ => none
  | k + 1, l, list, own, i => if i < (list.length : Int) then (if 0 ≤ i then (if 0 ≤ rd list i then (if rd list i < (l.length : Int) then (if own.length < 5864062014804 then join1.l1 k l list (own ++ [rd_T37 l (rd list i)]) (wrap64 (i + 1)) else none) else none) else none) else none) else some own
def join1.l0 : Nat → Int → List S37 → List Int → Int → Int → List Int → Int → Int → Option (Int × List Int × Int)
  | 0, _, _, _, _, _, _, _, _ => none
  | k + 1, n, l, list, toll, least, best, many, i => if i < (l.length : Int) then (if 0 ≤ i then (if list.length < 17592186044415 then ((join1.f k n l (list ++ [i]) (wrap64 (i + 1)) (wrap64 (toll + (rd_T37 l i).f2)) least best many).bind fun q => join1.l0 k n l list toll q.1 q.2.1 q.2.2 (wrap64 (i + 1))) else none) else none) else some (least, best, many)
end
theorem join1.mono_l : ∀ k, (∀ y0 y1 y2 y3 y4 y5 y6 y7, LeO (join1.f k y0 y1 y2 y3 y4 y5 y6 y7) (join1.f (k + 1) y0 y1 y2 y3 y4 y5 y6 y7)) ∧ (∀ y0 y1 y2 y3, LeO (join1.l1 k y0 y1 y2 y3) (join1.l1 (k + 1) y0 y1 y2 y3)) ∧ (∀ y0 y1 y2 y3 y4 y5 y6 y7, LeO (join1.l0 k y0 y1 y2 y3 y4 y5 y6 y7) (join1.l0 (k + 1) y0 y1 y2 y3 y4 y5 y6 y7))
  | 0 => ⟨fun _ _ _ _ _ _ _ _ r h => by simp [join1.f] at h, fun _ _ _ _ r h => by simp [join1.l1] at h, fun _ _ _ _ _ _ _ _ r h => by simp [join1.l0] at h⟩
  | k + 1 => by
    obtain ⟨ih0, ih1, ih2⟩ := join1.mono_l k
    refine ⟨?_, ?_, ?_⟩
    · intro y0 y1 y2 y3 y4 y5 y6 y7
      unfold join1.f
      repeat' first
      | (with_reducible exact ih1 _ _ _ _)
      | (with_reducible exact ih2 _ _ _ _ _ _ _ _)
      | (with_reducible exact impl_countGroups.mono _ _ _)
      | (with_reducible exact LeO.refl _)
      | (with_reducible exact LeO.none _)
      | (with_reducible refine LeO.ite ?_ ?_)
      | (with_reducible refine LeO.bind ?_ (fun _ => ?_))
    · intro y0 y1 y2 y3
      unfold join1.l1
      repeat' first
      | (with_reducible exact ih1 _ _ _ _)
      | (with_reducible exact LeO.refl _)
      | (with_reducible exact LeO.none _)
      | (with_reducible refine LeO.ite ?_ ?_)
    · intro y0 y1 y2 y3 y4 y5 y6 y7
      unfold join1.l0
      repeat' first
      | (with_reducible exact ih0 _ _ _ _ _ _ _ _)
      | (with_reducible exact ih2 _ _ _ _ _ _ _ _)
      | (with_reducible exact LeO.refl _)
      | (with_reducible exact LeO.none _)
      | (with_reducible refine LeO.ite ?_ ?_)
      | (with_reducible refine LeO.bind ?_ (fun _ => ?_))
/-- All blocks but three stay as they are. -/
structure Kept3 (p q s : Nat) (W w' : World) : Prop where
  os : w'.os = W.os
  tape : w'.tape = W.tape
  output : w'.output = W.output
  size : W.heap.size ≤ w'.heap.size
  block : ∀ i, i < W.heap.size → i ≠ p → i ≠ q → i ≠ s → w'.heap[i]? = W.heap[i]?
theorem Kept3.refl (p q s : Nat) (W : World) : Kept3 p q s W W := ⟨rfl, rfl, rfl, Nat.le_refl _, fun _ _ _ _ _ => rfl⟩
theorem Kept3.of_below {p q s : Nat} {W w' : World} (h : Below W.heap.size W w') : Kept3 p q s W w' := ⟨h.os, h.tape, h.output, h.size, fun i hi _ _ _ => h.block i hi⟩
theorem Kept3.trans {p q s : Nat} {W w' w'' : World} (h : Kept3 p q s W w') (k : Kept3 p q s w' w'') : Kept3 p q s W w'' :=
  ⟨k.os.trans h.os, k.tape.trans h.tape, k.output.trans h.output, Nat.le_trans h.size k.size, fun i hi h1 h2 h3 => (k.block i (Nat.lt_of_lt_of_le hi h.size) h1 h2 h3).trans (h.block i hi h1 h2 h3)⟩
theorem Kept3.set_ {p q s : Nat} {W : World} (g j : Nat) (u : Value) (h : g = p ∨ g = q ∨ g = s) : Kept3 p q s W (W.setCell ⟨g, j, none⟩ u) := by
  have hb := (Below.refl 0 W).setCell (Nat.zero_le g) (u) (p := ⟨g, j, none⟩)
  refine ⟨hb.os, hb.tape, hb.output, hb.size, fun i hi h1 h2 h3 => Below.heap_setCell W ⟨g, j, none⟩ u i ?_⟩
  rcases h with rfl | rfl | rfl <;> assumption
theorem Kept3.below {p q s B : Nat} {w0 W w' : World} (h : Kept3 p q s W w') (hb : Below B w0 W) (hp : B ≤ p) (hq : B ≤ q) (hs : B ≤ s) (hB : B ≤ W.heap.size) : Below B w0 w' :=
  ⟨h.os.trans hb.os, h.tape.trans hb.tape, h.output.trans hb.output, Nat.le_trans hb.size h.size, fun i hi => (h.block i (by omega) (by omega) (by omega) (by omega)).trans (hb.block i hi)⟩
theorem Kept3.row {p q s : Nat} {W w' : World} {base : Nat} {v : Value} {xs : List Int} (h : Kept3 p q s W w') (hr : Kd.R (Kd.int .i64) 3 W base (fun k => k ≠ p ∧ k ≠ q ∧ k ≠ s) v xs) : Kd.R (Kd.int .i64) 3 w' base (fun k => k ≠ p ∧ k ≠ q ∧ k ≠ s) v xs :=
  Kd.R_step hr (fun k ho hk => h.block k hk ho.1 ho.2.1 ho.2.2)
theorem row_C3 {e : Nat} {w : World} {base : Nat} {ok : Nat → Prop} {A : Option Addr} {n c : Nat} {xs : List Int} (h : Kd.R (Kd.int .i64) e w base ok (.slice A n c) xs) : Kd.C (Kd.int .i64) w A xs.length xs := by
  obtain ⟨A', c', e, _, hC⟩ := Kd.R_reads h
  cases e
  exact hC
/-- The search's own value. -/
def joinFn (bs bm bl bb bf : Nat) : Value := .func (.func 113) #[] #[.pointer (some ⟨bs, 0, none⟩), .pointer (some ⟨bm, 0, none⟩), .pointer (some ⟨bl, 0, none⟩), .pointer (some ⟨bb, 0, none⟩), .pointer (some ⟨bf, 0, none⟩)]
/-- The blocks of the search's variables: the isles, many, least, best, the search itself. -/
def Boxed5 (bs bm bl bb bf : Nat) (n : Int) (A : Option Addr) (len c : Nat) (W : World) (least : Int) (vb : Value) (many : Int) : Prop :=
  W.heap[bs]? = some (.cells #[.int .i64 n, .slice A len c] 29 (0, 0)) ∧ W.heap[bm]? = some (.cells #[.int .i64 many] 3 (0, 0)) ∧ W.heap[bl]? = some (.cells #[.int .i64 least] 3 (0, 0)) ∧ W.heap[bb]? = some (.cells #[vb] 51 (0, 0)) ∧ W.heap[bf]? = some (.cells #[joinFn bs bm bl bb bf] 99 (0, 0))
def Five (bs bm bl bb bf B : Nat) : Prop := (bs ≠ bm ∧ bs ≠ bl ∧ bs ≠ bb ∧ bf ≠ bm ∧ bf ≠ bl ∧ bf ≠ bb ∧ bm ≠ bl ∧ bm ≠ bb ∧ bl ≠ bb) ∧ B ≤ bm ∧ B ≤ bl ∧ B ≤ bb
theorem Boxed5_below {bs bm bl bb bf : Nat} {n : Int} {A : Option Addr} {len c : Nat} {W W' : World} {vb : Value} {least many : Int} (h : Boxed5 bs bm bl bb bf n A len c W least vb many) (hb : Below W.heap.size W W') : Boxed5 bs bm bl bb bf n A len c W' least vb many :=
  ⟨blk_below h.1 hb, blk_below h.2.1 hb, blk_below h.2.2.1 hb, blk_below h.2.2.2.1 hb, blk_below h.2.2.2.2 hb⟩
theorem Boxed5_put {bs bm bl bb bf : Nat} {n : Int} {A : Option Addr} {len c B : Nat} {W : World} {vb : Value} {least many : Int} (h : Boxed5 bs bm bl bb bf n A len c W least vb many) (h5 : Five bs bm bl bb bf B) (x : Int) (u : Value) (y : Int) :
    Boxed5 bs bm bl bb bf n A len c (((W.setCell ⟨bl, 0, none⟩ (.int .i64 x)).setCell ⟨bb, 0, none⟩ u).setCell ⟨bm, 0, none⟩ (.int .i64 y)) x u y ∧ Kept3 bm bl bb W (((W.setCell ⟨bl, 0, none⟩ (.int .i64 x)).setCell ⟨bb, 0, none⟩ u).setCell ⟨bm, 0, none⟩ (.int .i64 y)) := by
  obtain ⟨⟨a1, a2, a3, a4, a5, a6, a7, a8, a9⟩, _⟩ := h5
  obtain ⟨h1, h2, h3, h4, h5⟩ := h
  exact ⟨⟨blk_far (blk_far (blk_far h1 a2 _) a3 _) a1 _, blk_set (blk_far (blk_far h2 a7 _) a8 _) 0 _, blk_far (blk_far (blk_set h3 0 _) a9 _) (Ne.symm a7) _, blk_far (blk_set (blk_far h4 (Ne.symm a9) _) 0 _) (Ne.symm a8) _, blk_far (blk_far (blk_far h5 a5 _) a6 _) a4 _⟩, ((Kept3.set_ bl 0 _ (.inr (.inl rfl))).trans (Kept3.set_ bb 0 _ (.inr (.inr rfl)))).trans (Kept3.set_ bm 0 _ (.inl rfl))⟩
theorem Boxed5_many {bs bm bl bb bf : Nat} {n : Int} {A : Option Addr} {len c B : Nat} {W : World} {vb : Value} {least many : Int} (h : Boxed5 bs bm bl bb bf n A len c W least vb many) (h5 : Five bs bm bl bb bf B) (y : Int) :
    Boxed5 bs bm bl bb bf n A len c (W.setCell ⟨bm, 0, none⟩ (.int .i64 y)) least vb y ∧ Kept3 bm bl bb W (W.setCell ⟨bm, 0, none⟩ (.int .i64 y)) := by
  obtain ⟨⟨a1, a2, a3, a4, a5, a6, a7, a8, a9⟩, _⟩ := h5
  obtain ⟨h1, h2, h3, h4, h5⟩ := h
  exact ⟨⟨blk_far h1 a1 _, blk_set h2 0 _, blk_far h3 (Ne.symm a7) _, blk_far h4 (Ne.symm a8) _, blk_far h5 a4 _⟩, Kept3.set_ bm 0 _ (.inl rfl)⟩
theorem Boxed5_facts {bs bm bl bb bf : Nat} {n : Int} {A : Option Addr} {len c B : Nat} {W : World} {vb : Value} {least many : Int} (h : Boxed5 bs bm bl bb bf n A len c W least vb many) (h5 : Five bs bm bl bb bf B) :
    W.cell? ⟨bl, 0, none⟩ = some (.int .i64 least) ∧ W.cell? ⟨bm, 0, none⟩ = some (.int .i64 many) ∧ W.cell? ⟨bb, 0, none⟩ = some vb ∧ W.frozen? ⟨bl, 0, none⟩ = false ∧ W.frozen? ⟨bm, 0, none⟩ = false ∧ W.frozen? ⟨bb, 0, none⟩ = false ∧
    (∀ u, (W.setCell ⟨bl, 0, none⟩ u).cell? ⟨bb, 0, none⟩ = some vb) ∧ (∀ u, (W.setCell ⟨bl, 0, none⟩ u).frozen? ⟨bb, 0, none⟩ = false) ∧ (∀ u x, ((W.setCell ⟨bl, 0, none⟩ u).setCell ⟨bb, 0, none⟩ x).cell? ⟨bm, 0, none⟩ = some (.int .i64 many)) ∧ (∀ u x, ((W.setCell ⟨bl, 0, none⟩ u).setCell ⟨bb, 0, none⟩ x).frozen? ⟨bm, 0, none⟩ = false) := by
  obtain ⟨⟨a1, a2, a3, a4, a5, a6, a7, a8, a9⟩, _⟩ := h5
  obtain ⟨h1, h2, h3, h4, h5⟩ := h
  exact ⟨(blk_cell h3 0).trans rfl, (blk_cell h2 0).trans rfl, (blk_cell h4 0).trans rfl, blk_frozen h3 0, blk_frozen h2 0, blk_frozen h4 0, fun u => (blk_cell (blk_far h4 (Ne.symm a9) u) 0).trans rfl, fun u => blk_frozen (blk_far h4 (Ne.symm a9) u) 0, fun u x => (blk_cell (blk_far (blk_far h2 a7 u) a8 x) 0).trans rfl, fun u x => blk_frozen (blk_far (blk_far h2 a7 u) a8 x) 0⟩
theorem row_fresh3 {bm bl bb e b b' : Nat} {W : World} {v : Value} {xs : List Int} (h : Kd.R (Kd.int .i64) e W b (fun _ => True) v xs) (hle : b' ≤ b) (h0 : bm < b') (h1 : bl < b') (h2 : bb < b') : Kd.R (Kd.int .i64) e W b' (fun k => k ≠ bm ∧ k ≠ bl ∧ k ≠ bb) v xs :=
  Kd.R_lower (Kd.R_mono (Kd.R_bound h) (fun k hk => ⟨by omega, by omega, by omega⟩)) hle
set_option maxHeartbeats 8000000 in
set_option maxRecDepth 100000 in
theorem join1_calls (w0 : World) (n : Int) (A : Option Addr) (c : Nat) (l : List S37) (hC : Kd.C k37 w0 A l.length l) (hc : l.length ≤ c) (bs bm bl bb bf : Nat) (h5 : Five bs bm bl bb bf w0.heap.size) :
    ∀ (k : Nat) (list : List Int) (from_ toll : Int) (least : Int) (best : List Int) (many : Int) (r1 : Int) (r2 : List Int) (r3 : Int) (v vb : Value) (W : World), Below w0.heap.size w0 W → Boxed5 bs bm bl bb bf n A l.length c W least vb many → Kd.R (Kd.int .i64) 3 W w0.heap.size (fun k => k ≠ bm ∧ k ≠ bl ∧ k ≠ bb) v list → Kd.R (Kd.int .i64) 3 W w0.heap.size (fun k => k ≠ bm ∧ k ≠ bl ∧ k ≠ bb) vb best →
      join1.f k n l list from_ toll least best many = some (r1, r2, r3) →
      Calls Try.prog 113 #[v, .int .i64 from_, .int .i64 toll, .pointer (some ⟨bs, 0, none⟩), .pointer (some ⟨bm, 0, none⟩), .pointer (some ⟨bl, 0, none⟩), .pointer (some ⟨bb, 0, none⟩), .pointer (some ⟨bf, 0, none⟩)] W fun e w' => e = .returned (.tuple #[]) ∧ ∃ vb', Boxed5 bs bm bl bb bf n A l.length c w' r1 vb' r3 ∧ Kd.R (Kd.int .i64) 3 w' w0.heap.size (fun k => k ≠ bm ∧ k ≠ bl ∧ k ≠ bb) vb' r2 ∧ Kept3 bm bl bb W w' := by
  intro k
  induction k using Nat.strongRecOn with
  | ind k IH =>
  intro list from_ toll least best many r1 r2 r3 v vb W hB hX hv hvb h
  cases k with
  | zero => simp [join1.f] at h
  | succ k =>
  rw [join1.f] at h
  obtain ⟨Av, cv, rfl, hvl, hvC⟩ := Kd.R_reads hv
  have hmx := Kd.C_max hvC
  obtain ⟨hXs, hXm, hXl, hXb, hXf⟩ := hX
  have hcs0 : W.cell? ⟨bs, 0, none⟩ = some (.int .i64 n) := (blk_cell hXs 0).trans rfl
  have hcs1 : W.cell? ⟨bs, 1, none⟩ = some (.slice A l.length c) := (blk_cell hXs 1).trans rfl
  have HV := Aside0.mk hv
  have HVC := Aside0.mk hvC
  have HVB := Aside0.mk hvb
  have HX := Aside0.mk (show Boxed5 bs bm bl bb bf n A l.length c W least vb many from ⟨hXs, hXm, hXl, hXb, hXf⟩)
  have HB := Aside0.mk hB
  have HL := Aside0.mk h5
  have HC := Aside0.mk hC
  have HCC := Aside0.mk hc
  clear hv hvb hB hvC h5 hC hc hXs hXm hXl hXb hXf
  by_cases ht : (list.length : Int) = wrap64 (n - 1)
  · rw [if_pos ht] at h
    obtain ⟨own, hown, h⟩ := Option.bind_eq_some_iff.mp h
    obtain ⟨q, hq, h⟩ := Option.bind_eq_some_iff.mp h
    have HO := Aside0.mk hown
    have HQ := Aside0.mk hq
    have H' := Aside0.mk h
    have hht : decide ((list.length : Int) = wrap64 (n - 1)) = true := decide_eq_true ht
    have hbt : ((list.length : Int) == wrap64 (n - 1)) = true := beq_iff_eq.2 ht
    clear hown hq h ht
    go_enter Try.func113, Try.ntmps113
    go_wp2_with ((with_reducible refine gate_dst (N := 21) rfl ?_); refine Kd.R_lit k37 _ 37 ?hg (N := 21) ?hd (xs := ([] : List S37)) (inner := []) (ok := fun _ => True) (okp := fun _ => True) ?hr ?hp (fun _ hk => hk) trivial (Below.refl _ _) (Nat.le_refl _) (by simp) ?_; (case hd => rfl); (case hg => rfl); (case hr => first | (go_simp; done) | (go_simp; rfl)); (case hp => exact (Reps.none _ _)); intro v21 w21 ho21 hb21 hg_ hnew_; clear hg_ hnew_; have HO21 := Aside0.mk ho21; have HB21 := Aside0.mk hb21; clear ho21 hb21)
    go_loopg [11, 13, 24] k (fun kq v11 _ v24 w' => ∃ (vo : Value) (ow : List S37) (i : Int), vo = v11 ∧ v24 = .int .i64 i ∧ Aside0 (join1.l1 kq l list ow i = some own) ∧ Aside0 (kq ≤ k) ∧ Aside0 (Kd.R k37 37 w' W.heap.size (fun _ => True) v11 ow) ∧ Aside0 (Below W.heap.size W w'))
    case atStart => exact ⟨_, [], 0, rfl, rfl, HO, ⟨Nat.le_refl _⟩, HO21, HB21⟩
    case round =>
      obtain ⟨v11, ow, i, rfl, rfl, HH, HK, HOr, HBr⟩ := hrel
      clear HO HO21 HB21 hcs0 hcs1
      cases gk with
      | zero => exact absurd HH.out (by simp [join1.l1])
      | succ gk =>
      have h := HH.out
      clear HH
      rw [join1.l1] at h
      have HXr := Aside0.mk (Boxed5_below HX.out HBr.out)
      have hs0 : wr.cell? ⟨bs, 0, none⟩ = some (.int .i64 n) := (blk_cell HXr.out.1 0).trans rfl
      have hs1 : wr.cell? ⟨bs, 1, none⟩ = some (.slice A l.length c) := (blk_cell HXr.out.1 1).trans rfl
      by_cases c1 : i < (list.length : Int)
      · rw [if_pos c1] at h
        by_cases c2 : 0 ≤ i
        · rw [if_pos c2] at h
          by_cases c3 : 0 ≤ rd list i
          · rw [if_pos c3] at h
            by_cases c4 : rd list i < (l.length : Int)
            · rw [if_pos c4] at h
              by_cases c5 : ow.length < 5864062014804
              · rw [if_pos c5] at h
                have H2 := Aside0.mk h
                have c5' := Aside0.mk c5
                obtain ⟨j, rfl⟩ : ∃ j : Nat, i = (j : Int) := ⟨i.toNat, by omega⟩
                obtain ⟨m, hm⟩ : ∃ m : Nat, rd list (j : Int) = (m : Int) := ⟨(rd list (j : Int)).toNat, by omega⟩
                obtain ⟨adv, eav, hrd⟩ := Kd.at_int (Kd.C_below HVC.out HBr.out) (j : Int) (by omega) (by omega)
                rw [hm, Int.toNat_natCast] at hrd
                obtain ⟨ad, hA, h0, h1, h2⟩ := at_T37 (Kd.C_below HC.out (below_step HB.out HBr.out)) (m : Int) (by omega) (by omega)
                rw [Int.toNat_natCast] at h0 h1 h2
                rw [hm] at H2 c4
                subst eav
                subst hA
                obtain ⟨x, hx⟩ : ∃ x, x = rd_T37 l (m : Int) := ⟨_, rfl⟩
                rw [← hx] at h0 h1 h2 H2
                rw [show wrap64 ((j : Int) + 1) = (j : Int) + 1 from by unfold wrap64; omega] at H2
                have HLB := Aside0.mk (show Kd.R k37 37 wr W.heap.size (fun _ => True) v11 ow from HOr.out)
                clear h c3 c5 hx HOr
                go_wp2_with (first | ((with_reducible refine gate_dst (N := 34) rfl ?_); refine Kd.R_lit k37 _ 37 ?hg (N := 34) ?hd (xs := ([x] : List S37)) (inner := [.int .i64 x.f0, .int .i64 x.f1, .int .i64 x.f2]) (ok := fun _ => True) (okp := fun _ => True) ?hr ?hp (fun _ hk => hk) trivial (Below.refl _ _) (Nat.le_refl _) (by simp) ?_; (case hd => rfl); (case hg => rfl); (case hr => first | (go_simp; done) | (go_simp; rfl)); (case hp => exact (Reps.c3 (show Kd.M k37 _ _ _ x [.int .i64 x.f0, .int .i64 x.f1, .int .i64 x.f2] from (k37_mkM _ _ _ x)) (Reps.none _ _))); intro v34 w34 ho34 hb34 hg_ hnew_; clear hg_ hnew_; have HB34 := Aside0.mk (below_step HBr.out hb34); have HLB34 := Aside0.mk (Kd.R_below HLB.out hb34); obtain ⟨A34, c34, e34, _, hC34⟩ := Kd.R_reads ho34; subst e34; have HC34 := Aside0.mk hC34; clear ho34 hb34 hC34 HLB) | ((with_reducible refine gate_builtin (b := .append) (xs := #[.tmp 28, .tmp 34]) rfl ?_); at_builtin; refine Kd.R_append_rows k37 (w0 := W) W.heap.size rfl (.tmp 28) (.tmp 34) 27 37 (.agg #[(.int .i64 0), (.int .i64 0), (.int .i64 0)]) 24 rfl Try.underlying27 info37 rfl (by decide) (by omega) v11 ow [x] _ _ _ (fun _ => True) (fun _ => False) rfl rfl ?aO ?aR (fun _ _ h => h) (fun _ h => h.elim) ?aF ?aB ?aS ?aL ?_; (case aR => exact HC34.out); (case aB => exact HB34.out); (case aF => exact (fun _ _ => trivial)); (case aO => exact HLB34.out); (case aS => exact (below_size HB34.out)); (case aL => have := c5'.out; simp only [List.length_singleton]; omega); intro v35 w35 ho35 hb35 hg_ hat_; have HO35 := Aside0.mk ho35; have HB35 := Aside0.mk hb35; clear ho35 hb35 hg_ hat_ HLB34 HC34))
                go_roundg gk
                case measure => omega
                case rel => exact ⟨_, _, _, rfl, by first | rfl | (simp; done) | (simp [*]; done), H2, ⟨by have := HK.out; omega⟩, HO35, HB35⟩
              · rw [if_neg c5] at h
                cases h
            · rw [if_neg c4] at h
              cases h
          · rw [if_neg c3] at h
            cases h
        · rw [if_neg c2] at h
          cases h
      · rw [if_neg c1] at h
        obtain rfl := Option.some.inj h
        clear h
        obtain ⟨Ao, co, eo⟩ := Kd.R_slice HOr.out
        subst eo
        have hOC := Kd.R_reads' HOr.out
        have HCG := Aside0.mk (impl_countGroups.calls k n Ao co ow q wr hOC.2.2 hOC.2.1 HQ.out)
        have hcm : wr.cell? ⟨bm, 0, none⟩ = some (.int .i64 many) := (blk_cell HXr.out.2.1 0).trans rfl
        clear hOC HOr HQ
        have h := H'.out
        clear H'
        by_cases q1 : q > 1
        · rw [if_pos q1] at h
          obtain ⟨rfl, rfl, rfl⟩ : least = r1 ∧ best = r2 ∧ many = r3 := by simpa using h
          clear h
          go_wp2_with (go_at_call 76; refine HCG.out.mono ?_; rintro e w7 ⟨rfl, hb7⟩; have HB7 := Aside0.mk (below_step HBr.out hb7); have HX7 := Aside0.mk (Boxed5_below HX.out HB7.out); obtain ⟨hl7, hm7, hb7', fl7, fm7, fb7, hb8, fb8, hm9, fm9⟩ := Boxed5_facts HX7.out HL.out; clear hb7)
          (try simp only [Exit.inBlock, Exit.then])
          refine bodyPost_ret (results_none rfl _ _ _) rfl ?_
          exact ⟨rfl, _, HX7.out, Kd.R_below HVB.out HB7.out, Kept3.of_below HB7.out⟩
        rw [if_neg q1] at h
        by_cases q2 : many = 0
        · rw [if_pos q2] at h
          obtain ⟨rfl, rfl, rfl⟩ : toll = r1 ∧ list = r2 ∧ 1 = r3 := by simpa using h
          subst q2
          clear h
          go_wp2_with (go_at_call 76; refine HCG.out.mono ?_; rintro e w7 ⟨rfl, hb7⟩; have HB7 := Aside0.mk (below_step HBr.out hb7); have HX7 := Aside0.mk (Boxed5_below HX.out HB7.out); obtain ⟨hl7, hm7, hb7', fl7, fm7, fb7, hb8, fb8, hm9, fm9⟩ := Boxed5_facts HX7.out HL.out; clear hb7)
          (try simp only [Exit.inBlock, Exit.then])
          refine bodyPost_ret (results_none rfl _ _ _) rfl ?_
          have hp := Boxed5_put HX7.out HL.out toll (.slice Av list.length cv) 1
          exact ⟨rfl, _, hp.1, ((Kept3.of_below HB7.out).trans hp.2).row HV.out, (Kept3.of_below HB7.out).trans hp.2⟩
        rw [if_neg q2] at h
        have qz : (many == 0) = false := by simp [q2]
        by_cases q3 : toll < least
        · rw [if_pos q3] at h
          have qx : decide (toll < least) = true := decide_eq_true q3
          obtain ⟨rfl, rfl, rfl⟩ : toll = r1 ∧ list = r2 ∧ 1 = r3 := by simpa using h
          clear h
          go_wp2_with (go_at_call 76; refine HCG.out.mono ?_; rintro e w7 ⟨rfl, hb7⟩; have HB7 := Aside0.mk (below_step HBr.out hb7); have HX7 := Aside0.mk (Boxed5_below HX.out HB7.out); obtain ⟨hl7, hm7, hb7', fl7, fm7, fb7, hb8, fb8, hm9, fm9⟩ := Boxed5_facts HX7.out HL.out; clear hb7)
          (try simp only [Exit.inBlock, Exit.then])
          refine bodyPost_ret (results_none rfl _ _ _) rfl ?_
          have hp := Boxed5_put HX7.out HL.out toll (.slice Av list.length cv) 1
          exact ⟨rfl, _, hp.1, ((Kept3.of_below HB7.out).trans hp.2).row HV.out, (Kept3.of_below HB7.out).trans hp.2⟩
        rw [if_neg q3] at h
        have qx : decide (toll < least) = false := decide_eq_false q3
        by_cases q4 : toll = least
        · rw [if_pos q4] at h
          subst q4
          obtain ⟨rfl, rfl, rfl⟩ : toll = r1 ∧ best = r2 ∧ wrap64 (many + 1) = r3 := by simpa using h
          clear h
          go_wp2_with (go_at_call 76; refine HCG.out.mono ?_; rintro e w7 ⟨rfl, hb7⟩; have HB7 := Aside0.mk (below_step HBr.out hb7); have HX7 := Aside0.mk (Boxed5_below HX.out HB7.out); obtain ⟨hl7, hm7, hb7', fl7, fm7, fb7, hb8, fb8, hm9, fm9⟩ := Boxed5_facts HX7.out HL.out; clear hb7)
          (try simp only [Exit.inBlock, Exit.then])
          refine bodyPost_ret (results_none rfl _ _ _) rfl ?_
          have hp := Boxed5_many HX7.out HL.out (wrap64 (many + 1))
          exact ⟨rfl, _, hp.1, ((Kept3.of_below HB7.out).trans hp.2).row HVB.out, (Kept3.of_below HB7.out).trans hp.2⟩
        rw [if_neg q4] at h
        have qy : (toll == least) = false := by simp [q4]
        obtain ⟨rfl, rfl, rfl⟩ : least = r1 ∧ best = r2 ∧ many = r3 := by simpa using h
        clear h
        go_wp2_with (go_at_call 76; refine HCG.out.mono ?_; rintro e w7 ⟨rfl, hb7⟩; have HB7 := Aside0.mk (below_step HBr.out hb7); have HX7 := Aside0.mk (Boxed5_below HX.out HB7.out); obtain ⟨hl7, hm7, hb7', fl7, fm7, fb7, hb8, fb8, hm9, fm9⟩ := Boxed5_facts HX7.out HL.out; clear hb7)
        (try simp only [Exit.inBlock, Exit.then])
        refine bodyPost_ret (results_none rfl _ _ _) rfl ?_
        exact ⟨rfl, _, HX7.out, Kd.R_below HVB.out HB7.out, Kept3.of_below HB7.out⟩
  · rw [if_neg ht] at h
    have H' := Aside0.mk h
    have hht : decide ((list.length : Int) = wrap64 (n - 1)) = false := decide_eq_false ht
    have hbt : ((list.length : Int) == wrap64 (n - 1)) = false := beq_eq_false_iff_ne.2 ht
    clear h ht
    go_enter Try.func113, Try.ntmps113
    go_wp2
    go_loopg [14] k (fun kq v14 w' => ∃ (i : Int) (least : Int) (best : List Int) (many : Int) (vb : Value), v14 = .int .i64 i ∧ Aside0 (join1.l0 kq n l list toll least best many i = some (r1, r2, r3)) ∧ Aside0 (kq ≤ k) ∧ Aside0 (Boxed5 bs bm bl bb bf n A l.length c w' least vb many) ∧ Aside0 (Kd.R (Kd.int .i64) 3 w' w0.heap.size (fun k => k ≠ bm ∧ k ≠ bl ∧ k ≠ bb) vb best) ∧ Aside0 (Kept3 bm bl bb W w'))
    case atStart => exact ⟨from_, least, best, many, vb, rfl, H', ⟨Nat.le_refl _⟩, HX, HVB, ⟨Kept3.refl _ _ _ _⟩⟩
    case round =>
      obtain ⟨i, leastr, bestr, manyr, vbr, rfl, HH, HK, HXr, HVBr, HKr⟩ := hrel
      clear H' HX HVB hcs0 hcs1
      cases gk with
      | zero => exact absurd HH.out (by simp [join1.l0])
      | succ gk =>
      have h := HH.out
      clear HH
      rw [join1.l0] at h
      have HBr := Aside0.mk (HKr.out.below HB.out HL.out.2.1 HL.out.2.2.1 HL.out.2.2.2 (below_size HB.out))
      have hs0 : wr.cell? ⟨bs, 0, none⟩ = some (.int .i64 n) := (blk_cell HXr.out.1 0).trans rfl
      have hs1 : wr.cell? ⟨bs, 1, none⟩ = some (.slice A l.length c) := (blk_cell HXr.out.1 1).trans rfl
      by_cases c1 : i < (l.length : Int)
      · rw [if_pos c1] at h
        by_cases c2 : 0 ≤ i
        · rw [if_pos c2] at h
          by_cases c3 : list.length < 17592186044415
          · rw [if_pos c3] at h
            obtain ⟨⟨q1, q2, q3⟩, h3, h⟩ := Option.bind_eq_some_iff.mp h
            have hLL := Kd.C_max HC.out
            obtain ⟨j, rfl⟩ : ∃ j : Nat, i = (j : Int) := ⟨i.toNat, by omega⟩
            have hwj : wrap64 ((j : Int) + 1) = (j : Int) + 1 := by unfold wrap64; omega
            rw [hwj] at h h3
            obtain ⟨ad, hA, g0, g1, g2⟩ := at_T37 HC.out (j : Int) (by omega) (by omega)
            rw [Int.toNat_natCast] at g0 g1 g2
            subst hA
            obtain ⟨x, hx⟩ : ∃ x, x = rd_T37 l (j : Int) := ⟨_, rfl⟩
            rw [← hx] at g0 g1 g2 h3
            have HQ := Aside0.mk h3
            have H' := Aside0.mk h
            have HVr := Aside0.mk (HKr.out.row HV.out)
            have HVCr := Aside0.mk (row_C3 HVr.out)
            have c3' := Aside0.mk c3
            have hCL : ∀ (w : World) (hw : Below wr.heap.size wr w), Calls Try.prog 101 #[.slice Av list.length cv] w fun e w' => ∃ v0_ : Value, e = .returned (v0_) ∧ Kd.R (Kd.int .i64) 3 w' w.heap.size (fun _ => True) v0_ list ∧ Below w.heap.size w w' := fun w hw => slices_Clone_int_int.calls Av cv list list w (Kd.C_below HVCr.out hw) hvl (if_pos (by have := c3'.out; omega))
            have egw : ∀ args w, (callFunc 113 args).run Try.prog w = .ok (.enter 113 args) w := enters_ Try.func113 (by kernel_rfl) rfl
            have mixed : Try.prog.follows .mixedOrders = true := by kernel_rfl
            have HLT := Aside0.mk (show bm < wr.heap.size ∧ bl < wr.heap.size ∧ bb < wr.heap.size from ⟨blk_lt HXr.out.2.1, blk_lt HXr.out.2.2.1, blk_lt HXr.out.2.2.2.1⟩)
            have HS_ : ∀ {least' : Int} {vb' : Value} {many' : Int} (w' : World), Boxed5 bs bm bl bb bf n (some ad) l.length c w' least' vb' many' → Below w0.heap.size w0 w' → w'.cell? ⟨bf, 0, none⟩ = some (joinFn bs bm bl bb bf) ∧ w'.cell? ⟨bs, 1, none⟩ = some (.slice (some ad) l.length c) ∧ w'.cell? ⟨(ad.add (j * 3)).block, (ad.add (j * 3)).off + 2, none⟩ = some (.int .i64 x.f2) := fun w' hx hb => ⟨(blk_cell hx.2.2.2.2 0).trans rfl, (blk_cell hx.1 1).trans rfl, (hb.cell (World.block_lt_of_cell? w0 _ g2)).trans g2⟩
            have HB0 := Aside0.mk (below_drew (Below.refl wr.heap.size wr))
            clear h h3 hx c3 g0 g1
            go_wp2_with fail
            refine start_ (n := 17) (S := fun w' => w'.cell? ⟨bf, 0, none⟩ = some (joinFn bs bm bl bb bf) ∧ w'.cell? ⟨bs, 1, none⟩ = some (.slice (some ad) l.length c) ∧ w'.cell? ⟨(ad.add (j * 3)).block, (ad.add (j * 3)).off + 2, none⟩ = some (.int .i64 x.f2)) (ds := []) #[false, false, false, false, false, false, false, false, false, false, false, false, false, false, false, false, false] mixed rfl rfl (HS_ _ (Boxed5_below HXr.out HB0.out) (below_step HBr.out HB0.out)) (fun hHeld => ?_)
            have HBd := HB0
            clear HB0
            generalize wr.drew = wd at HBd hHeld ⊢
            refine pure_ (i := 1) (N := some 67) (v := ?_) (a' := ?_) #[false, true, false, false, false, false, false, false, false, false, false, false, false, false, false, false, false] rfl rfl (by kernel_rfl) (fun _ _ _ h => h) (Or.inl ⟨by rfl, ?_⟩) ?_ ?_
            rotate_left
            · intro w'
              go_simp
              with_reducible rfl
            rotate_left
            · simp only [Act.put, List.setIfInBounds_toArray, List.set_cons_zero, List.set_cons_succ, i64_w, i32_w]
              rfl
            refine pure_ (i := 3) (N := some 69) (v := ?_) (a' := ?_) #[false, true, false, true, false, false, false, false, false, false, false, false, false, false, false, false, false] rfl rfl (by kernel_rfl) (fun _ _ _ h => h) (Or.inl ⟨by rfl, ?_⟩) ?_ ?_
            rotate_left
            · intro w'
              go_simp
              with_reducible rfl
            rotate_left
            · simp only [Act.put, List.setIfInBounds_toArray, List.set_cons_zero, List.set_cons_succ, i64_w, i32_w]
              rfl
            refine pure_ (i := 6) (N := some 72) (v := ?_) (a' := ?_) #[false, true, false, true, false, false, true, false, false, false, false, false, false, false, false, false, false] rfl rfl (by kernel_rfl) (fun _ _ _ h => h) (Or.inl ⟨by rfl, ?_⟩) ?_ ?_
            rotate_left
            · intro w'
              go_simp
              with_reducible rfl
            rotate_left
            · simp only [Act.put, List.setIfInBounds_toArray, List.set_cons_zero, List.set_cons_succ, i64_w, i32_w]
              rfl
            refine pure_ (i := 7) (N := some 73) (v := ?_) (a' := ?_) #[false, true, false, true, false, false, true, true, false, false, false, false, false, false, false, false, false] rfl rfl (by kernel_rfl) (fun _ _ _ h => h) (Or.inl ⟨by rfl, ?_⟩) ?_ ?_
            rotate_left
            · intro w'
              go_simp
              with_reducible rfl
            rotate_left
            · simp only [Act.put, List.setIfInBounds_toArray, List.set_cons_zero, List.set_cons_succ, i64_w, i32_w]
              rfl
            refine pure_ (i := 8) (N := some 74) (v := ?_) (a' := ?_) #[false, true, false, true, false, false, true, true, true, false, false, false, false, false, false, false, false] rfl rfl (by kernel_rfl) (fun _ _ _ h => h) (Or.inl ⟨by rfl, ?_⟩) ?_ ?_
            rotate_left
            · intro w'
              go_simp
              with_reducible rfl
            rotate_left
            · simp only [Act.put, List.setIfInBounds_toArray, List.set_cons_zero, List.set_cons_succ, i64_w, i32_w]
              rfl
            refine pure_ (i := 9) (N := some 75) (v := ?_) (a' := ?_) #[false, true, false, true, false, false, true, true, true, true, false, false, false, false, false, false, false] rfl rfl (by kernel_rfl) (fun _ _ _ h => h) (Or.inl ⟨by rfl, ?_⟩) ?_ ?_
            rotate_left
            · intro w'
              go_simp
              with_reducible rfl
            rotate_left
            · simp only [Act.put, List.setIfInBounds_toArray, List.set_cons_zero, List.set_cons_succ, i64_w, i32_w]
              rfl
            refine pure_ (i := 11) (N := some 77) (v := ?_) (a' := ?_) #[false, true, false, true, false, false, true, true, true, true, false, true, false, false, false, false, false] rfl rfl (by kernel_rfl) (fun _ _ _ h => h) (Or.inl ⟨by rfl, ?_⟩) ?_ ?_
            rotate_left
            · intro w'
              go_simp
              with_reducible rfl
            rotate_left
            · simp only [Act.put, List.setIfInBounds_toArray, List.set_cons_zero, List.set_cons_succ, i64_w, i32_w]
              rfl
            refine take_ (i := 0) (N := some 66) (v := ?_) (a' := ?_) #[true, true, false, true, false, false, true, true, true, true, false, true, false, false, false, false, false] rfl rfl (by kernel_rfl) (fun _ _ _ h => h) (Or.inl ⟨by rfl, ?_⟩) hHeld ?_ ?_
            rotate_left
            · rintro w' ⟨s0, s1, s2⟩
              go_simp
              with_reducible rfl
            rotate_left
            · simp only [Act.put, List.setIfInBounds_toArray, List.set_cons_zero, List.set_cons_succ, i64_w, i32_w]
              rfl
            refine take_ (i := 10) (N := some 76) (v := ?_) (a' := ?_) #[true, true, false, true, false, false, true, true, true, true, true, true, false, false, false, false, false] rfl rfl (by kernel_rfl) (fun _ _ _ h => h) (Or.inl ⟨by rfl, ?_⟩) hHeld ?_ ?_
            rotate_left
            · rintro w' ⟨s0, s1, s2⟩
              go_simp
              with_reducible rfl
            rotate_left
            · simp only [Act.put, List.setIfInBounds_toArray, List.set_cons_zero, List.set_cons_succ, i64_w, i32_w]
              rfl
            refine pure_ (i := 12) (N := some 78) (v := ?_) (a' := ?_) #[true, true, false, true, false, false, true, true, true, true, true, true, true, false, false, false, false] rfl rfl (by kernel_rfl) (fun _ _ _ h => h) (Or.inl ⟨by rfl, ?_⟩) ?_ ?_
            rotate_left
            · intro w'
              go_simp
              with_reducible rfl
            rotate_left
            · simp only [Act.put, List.setIfInBounds_toArray, List.set_cons_zero, List.set_cons_succ, i64_w, i32_w]
              rfl
            refine pure_ (i := 13) (N := some 79) (v := ?_) (a' := ?_) #[true, true, false, true, false, false, true, true, true, true, true, true, true, true, false, false, false] rfl rfl (by kernel_rfl) (fun _ _ _ h => h) (Or.inl ⟨by rfl, ?_⟩) ?_ ?_
            rotate_left
            · intro w'
              go_simp
              with_reducible rfl
            rotate_left
            · simp only [Act.put, List.setIfInBounds_toArray, List.set_cons_zero, List.set_cons_succ, i64_w, i32_w]
              rfl
            refine take_ (i := 14) (N := some 80) (v := ?_) (a' := ?_) #[true, true, false, true, false, false, true, true, true, true, true, true, true, true, true, false, false] rfl rfl (by kernel_rfl) (fun _ _ _ h => h) (Or.inl ⟨by rfl, ?_⟩) hHeld ?_ ?_
            rotate_left
            · rintro w' ⟨s0, s1, s2⟩
              go_simp
              with_reducible rfl
            rotate_left
            · simp only [Act.put, List.setIfInBounds_toArray, List.set_cons_zero, List.set_cons_succ, i64_w, i32_w]
              rfl
            refine pure_ (i := 15) (N := some 81) (v := ?_) (a' := ?_) #[true, true, false, true, false, false, true, true, true, true, true, true, true, true, true, true, false] rfl rfl (by kernel_rfl) (fun _ _ _ h => h) (Or.inl ⟨by rfl, ?_⟩) ?_ ?_
            rotate_left
            · intro w'
              go_simp
              with_reducible rfl
            rotate_left
            · simp only [Act.put, List.setIfInBounds_toArray, List.set_cons_zero, List.set_cons_succ, i64_w, i32_w]
              rfl
            refine join_ (σ := Value × Option Addr × Nat) 2 #[true, true, true, true, true, false, true, true, true, true, true, true, true, true, true, true, false] (fun s_ => [(68, s_.1), (70, .slice s_.2.1 1 s_.2.2)]) (fun s_ w' => (w'.cell? ⟨bf, 0, none⟩ = some (joinFn bs bm bl bb bf) ∧ w'.cell? ⟨bs, 1, none⟩ = some (.slice (some ad) l.length c) ∧ w'.cell? ⟨(ad.add (j * 3)).block, (ad.add (j * 3)).off + 2, none⟩ = some (.int .i64 x.f2)) ∧ Kd.R (Kd.int .i64) 3 w' wr.heap.size (fun k => k ≠ bm ∧ k ≠ bl ∧ k ≠ bb) s_.1 list ∧ Kd.C (Kd.int .i64) w' s_.2.1 1 [(j : Int)] ∧ Below wr.heap.size wr w') ?_ ?_
            rotate_left
            · intro hCont
              refine two_ (i := 2) (j := 4) (Ni := some 68) (Nj := some 70) #[true, true, true, true, false, false, true, true, true, true, true, true, true, true, true, true, false] #[true, true, false, true, true, false, true, true, true, true, true, true, true, true, true, true, false] rfl rfl rfl rfl (by kernel_rfl) (by decide) (by decide) (fun K hK => ?_) (fun K hK => ?_)
              · skip
                refine goes_ Try.func101 (by kernel_rfl) rfl #[.slice Av list.length cv] (by rfl) rfl rfl (by (try simp only [List.map_toArray, List.map_cons, List.map_nil]); first | done | rfl) ?_
                refine (hCL wd HBd.out).mono ?_
                rintro e w3 ⟨v1, rfl, ho, hb⟩
                refine ⟨_, rfl, ?_⟩
                have HB3 := Aside0.mk (below_step HBd.out hb)
                have HR1 := Aside0.mk (row_fresh3 ho (below_size HBd.out) HLT.out.1 HLT.out.2.1 HLT.out.2.2)
                clear hb ho
                refine hK.out _ _ (HS_ _ (Boxed5_below HXr.out HB3.out) (below_step HBr.out HB3.out)) (fun hHeld => ?_)
                clear hK K
                refine norm_ (a' := ?_) ?_ ?_
                rotate_left
                · show Act.put _ (some 68) _ = _
                  simp only [Act.put, List.setIfInBounds_toArray, List.set_cons_zero, List.set_cons_succ, i64_w, i32_w]
                  rfl
                refine one_ (i := 4) (N := some 70) #[true, true, true, true, true, false, true, true, true, true, true, true, true, true, true, true, false] rfl rfl (by kernel_rfl) (by decide) (fun K hK => ?_)
                refine Kd.R_lit_step (Kd.int .i64) _ 3 ?hg (N := 70) ?hd (xs := ([(j : Int)] : List Int)) (inner := [.int .i64 (j : Int)]) (ok := fun _ => True) (okp := fun _ => True) ?hr ?hp (fun _ hk => hk) trivial (Below.refl _ _) (Nat.le_refl _) (by simp) ?_; (case hd => rfl); (case hg => rfl); (case hr => first | (go_simp; done) | (go_simp; rfl)); (case hp => exact (Reps.one (show Kd.M (Kd.int .i64) _ _ _ (j : Int) [.int .i64 (j : Int)] from rfl) (Reps.none _ _)))
                intro v2 w4 ho hb hg_ hnew_
                clear hg_ hnew_
                have HB4 := Aside0.mk (below_step HB3.out hb)
                have HR2 := Aside0.mk (Kd.R_below HR1.out hb)
                obtain ⟨A2, c2, rfl, hc2, hC2⟩ := Kd.R_reads ho
                clear hb ho
                refine hK.out _ _ (HS_ _ (Boxed5_below HXr.out HB4.out) (below_step HBr.out HB4.out)) (fun hHeld => ?_)
                clear hK K
                refine norm_ (a' := ?_) ?_ ?_
                rotate_left
                · show Act.put _ (some 70) _ = _
                  simp only [Act.put, List.setIfInBounds_toArray, List.set_cons_zero, List.set_cons_succ, i64_w, i32_w]
                  rfl
                exact norm_ (by simp only [putAll, Act.put, List.setIfInBounds_toArray, List.set_cons_zero, List.set_cons_succ]; rfl) (hCont (v1, A2, c2) _ ⟨hHeld, HR2.out, hC2, HB4.out⟩)
              · skip
                refine Kd.R_lit_step (Kd.int .i64) _ 3 ?hg (N := 70) ?hd (xs := ([(j : Int)] : List Int)) (inner := [.int .i64 (j : Int)]) (ok := fun _ => True) (okp := fun _ => True) ?hr ?hp (fun _ hk => hk) trivial (Below.refl _ _) (Nat.le_refl _) (by simp) ?_; (case hd => rfl); (case hg => rfl); (case hr => first | (go_simp; done) | (go_simp; rfl)); (case hp => exact (Reps.one (show Kd.M (Kd.int .i64) _ _ _ (j : Int) [.int .i64 (j : Int)] from rfl) (Reps.none _ _)))
                intro v2 w3 ho hb hg_ hnew_
                clear hg_ hnew_
                have HB3 := Aside0.mk (below_step HBd.out hb)
                obtain ⟨A2, c2, rfl, hc2, hC2⟩ := Kd.R_reads ho
                have HC2 := Aside0.mk hC2
                clear hb ho hC2
                refine hK.out _ _ (HS_ _ (Boxed5_below HXr.out HB3.out) (below_step HBr.out HB3.out)) (fun hHeld => ?_)
                clear hK K
                refine norm_ (a' := ?_) ?_ ?_
                rotate_left
                · show Act.put _ (some 70) _ = _
                  simp only [Act.put, List.setIfInBounds_toArray, List.set_cons_zero, List.set_cons_succ, i64_w, i32_w]
                  rfl
                refine one_ (i := 2) (N := some 68) #[true, true, true, true, true, false, true, true, true, true, true, true, true, true, true, true, false] rfl rfl (by kernel_rfl) (by decide) (fun K hK => ?_)
                refine goes_ Try.func101 (by kernel_rfl) rfl #[.slice Av list.length cv] (by rfl) rfl rfl (by (try simp only [List.map_toArray, List.map_cons, List.map_nil]); first | done | rfl) ?_
                refine (hCL w3 HB3.out).mono ?_
                rintro e w4 ⟨v1, rfl, ho, hb⟩
                refine ⟨_, rfl, ?_⟩
                have HB4 := Aside0.mk (below_step HB3.out hb)
                have HR1 := Aside0.mk (row_fresh3 ho (below_size HB3.out) HLT.out.1 HLT.out.2.1 HLT.out.2.2)
                have HC3 := Aside0.mk (Kd.C_below HC2.out hb)
                clear hb ho
                refine hK.out _ _ (HS_ _ (Boxed5_below HXr.out HB4.out) (below_step HBr.out HB4.out)) (fun hHeld => ?_)
                clear hK K
                refine norm_ (a' := ?_) ?_ ?_
                rotate_left
                · show Act.put _ (some 68) _ = _
                  simp only [Act.put, List.setIfInBounds_toArray, List.set_cons_zero, List.set_cons_succ, i64_w, i32_w]
                  rfl
                exact norm_ (by simp only [putAll, Act.put, List.setIfInBounds_toArray, List.set_cons_zero, List.set_cons_succ]; rfl) (hCont (v1, A2, c2) _ ⟨hHeld, HR1.out, HC3.out, HB4.out⟩)
            rintro ⟨v1, A2, c2⟩ w4 ⟨hHeld, hR1, hC2, hB4⟩
            have HR1 := Aside0.mk hR1
            have HC2 := Aside0.mk hC2
            have HB4 := Aside0.mk hB4
            clear hR1 hC2 hB4
            refine norm_ (a' := ?_) ?_ ?_
            rotate_left
            · simp only [putAll, Act.put, List.setIfInBounds_toArray, List.set_cons_zero, List.set_cons_succ]
              rfl
            refine one_ (i := 5) (N := some 71) #[true, true, true, true, true, true, true, true, true, true, true, true, true, true, true, true, false] rfl rfl (by kernel_rfl) (by decide) (fun K hK => ?_)
            refine Kd.R_append_rows_step (Kd.int .i64) (w0 := wr) wr.heap.size (by rfl) (.tmp 68) (.tmp 70) 51 3 (.int .i64 0) 8 rfl Try.underlying51 info3 rfl (by decide) (by omega) v1 list [(j : Int)] A2 1 c2 (fun k => k ≠ bm ∧ k ≠ bl ∧ k ≠ bb) (fun _ => False) rfl rfl HR1.out HC2.out (fun _ _ h => h) (fun _ h => h.elim) (fun k hk => ?_) HB4.out (below_size HB4.out) (by have := c3'.out; omega) ?_
            · have h1 := HLT.out
              have h2 := below_size HB4.out
              exact ⟨by omega, by omega, by omega⟩
            intro v3 w5 hr3 hb5 hg5 hat5
            clear hg5 hat5
            have HR3 := Aside0.mk hr3
            have HB5 := Aside0.mk hb5
            clear hr3 hb5
            refine hK.out _ _ (HS_ _ (Boxed5_below HXr.out HB5.out) (below_step HBr.out HB5.out)) (fun hHeld => ?_)
            clear hK K
            refine norm_ (a' := ?_) ?_ ?_
            rotate_left
            · show Act.put _ (some 71) _ = _
              simp only [Act.put, List.setIfInBounds_toArray, List.set_cons_zero, List.set_cons_succ, i64_w, i32_w]
              rfl
            refine one_ (i := 16) (N := some 82) #[true, true, true, true, true, true, true, true, true, true, true, true, true, true, true, true, true] rfl rfl (by kernel_rfl) (by decide) (fun K hK => ?_)
            refine call_ 113 #[v3, .int .i64 ((j : Int) + 1), .int .i64 (wrap64 (toll + x.f2)), .pointer (some ⟨bs, 0, none⟩), .pointer (some ⟨bm, 0, none⟩), .pointer (some ⟨bl, 0, none⟩), .pointer (some ⟨bb, 0, none⟩), .pointer (some ⟨bf, 0, none⟩)] (by rfl) rfl (by unfold execOp; simp [hwj, joinFn, resolve, Deferred.ofValue, invoke, Act.eval, egw]) ?_
            refine (IH gk (by have := HK.out; omega) (list ++ [(j : Int)]) ((j : Int) + 1) (wrap64 (toll + x.f2)) leastr bestr manyr q1 q2 q3 v3 vbr w5 (below_step HBr.out HB5.out) (Boxed5_below HXr.out HB5.out) (Kd.R_lower HR3.out (below_size HBr.out)) (Kd.R_below HVBr.out HB5.out) HQ.out).mono ?_
            rintro e w6 ⟨rfl, vb6, hX6, hR6, hK6⟩
            have HX6 := Aside0.mk hX6
            have HR6 := Aside0.mk hR6
            have HK6 := Aside0.mk (HKr.out.trans ((Kept3.of_below HB5.out).trans hK6))
            have HB6 := Aside0.mk (HK6.out.below HB.out HL.out.2.1 HL.out.2.2.1 HL.out.2.2.2 (below_size HB.out))
            clear hX6 hR6 hK6
            refine ⟨_, rfl, ?_⟩
            refine hK.out _ _ (HS_ _ HX6.out HB6.out) (fun hHeld => ?_)
            clear hK K
            refine norm_ (a' := ?_) ?_ ?_
            rotate_left
            · show Act.put _ (some 82) _ = _
              simp only [Act.put, List.setIfInBounds_toArray, List.set_cons_zero, List.set_cons_succ, i64_w, i32_w]
              rfl
            refine done_ (by kernel_rfl) ?_
            go_wp2
            go_roundg gk
            case measure => omega
            case rel => exact ⟨_, _, _, _, _, by first | rfl | (simp; done) | (simp [*]; done), H', ⟨by have := HK.out; omega⟩, HX6, HR6, HK6⟩
          · rw [if_neg c3] at h
            cases h
        · rw [if_neg c2] at h
          cases h
      · rw [if_neg c1] at h
        obtain ⟨rfl, rfl, rfl⟩ : leastr = r1 ∧ bestr = r2 ∧ manyr = r3 := by simpa using h
        clear h
        go_wp2
        refine bodyPost_end (results_none rfl _ _ _) rfl ?_
        exact ⟨rfl, _, HXr.out, HVBr.out, HKr.out⟩
theorem join_start (w : World) (n : Int) (A : Option Addr) (len c : Nat) : let s := w.heap.size; let W := ((((w.alloc (.cells #[.int .i64 n, .slice A len c] 29 (0, 0))).alloc (.cells #[.int .i64 0] 3 (0, 0))).alloc (.cells #[.slice none 0 0] 51 (0, 0))).alloc (.cells #[.int .i64 0] 3 (0, 0))).alloc (.cells #[joinFn s (s + 1 + 1 + 1) (s + 1) (s + 1 + 1) (s + 1 + 1 + 1 + 1)] 99 (0, 0));
    Boxed5 s (s + 1 + 1 + 1) (s + 1) (s + 1 + 1) (s + 1 + 1 + 1 + 1) n A len c W 0 (.slice none 0 0) 0 ∧ Below s w W ∧ W.heap.size = s + 5 := by
  intro s W
  have hs : ∀ (u : World) (o : Obj), (u.alloc o).heap.size = u.heap.size + 1 := fun u o => by simp
  have b0 : Below s w w := Below.refl _ _
  refine ⟨⟨?_, ?_, ?_, ?_, ?_⟩, ?_, ?_⟩
  · exact (blk_alloc (blk_alloc (blk_alloc (blk_alloc (blk_new w _) _) _) _) _)
  · refine (blk_alloc ?_ _)
    have := blk_new (((w.alloc (.cells #[.int .i64 n, .slice A len c] 29 (0, 0))).alloc (.cells #[.int .i64 0] 3 (0, 0))).alloc (.cells #[.slice none 0 0] 51 (0, 0))) (.cells #[.int .i64 0] 3 (0, 0))
    rwa [hs, hs, hs] at this
  · refine (blk_alloc (blk_alloc (blk_alloc ?_ _) _) _)
    have := blk_new (w.alloc (.cells #[.int .i64 n, .slice A len c] 29 (0, 0))) (.cells #[.int .i64 0] 3 (0, 0))
    rwa [hs] at this
  · refine (blk_alloc (blk_alloc ?_ _) _)
    have := blk_new ((w.alloc (.cells #[.int .i64 n, .slice A len c] 29 (0, 0))).alloc (.cells #[.int .i64 0] 3 (0, 0))) (.cells #[.slice none 0 0] 51 (0, 0))
    rwa [hs, hs] at this
  · skip
    have := blk_new ((((w.alloc (.cells #[.int .i64 n, .slice A len c] 29 (0, 0))).alloc (.cells #[.int .i64 0] 3 (0, 0))).alloc (.cells #[.slice none 0 0] 51 (0, 0))).alloc (.cells #[.int .i64 0] 3 (0, 0))) (.cells #[joinFn s (s + 1 + 1 + 1) (s + 1) (s + 1 + 1) (s + 1 + 1 + 1 + 1)] 99 (0, 0))
    rwa [hs, hs, hs, hs] at this
  · exact (((((b0.alloc (Nat.le_refl _) _).alloc (by simp only [hs]; omega) _).alloc (by simp only [hs]; omega) _).alloc (by simp only [hs]; omega) _).alloc (by simp only [hs]; omega) _)
  · simp only [W, hs]
    rfl
def impl_joinings.f (k : Nat) (a0_0 : Int) (l0_1 : List S37) : Option (Int × List Int × Int) := join1.f k a0_0 l0_1 [] 0 0 0 [] 0
theorem impl_joinings.mono : ∀ a0 a1 k, LeO (impl_joinings.f k a0 a1) (impl_joinings.f (k + 1) a0 a1) := fun _ _ k => (join1.mono_l k).1 _ _ _ _ _ _ _ _
set_option maxHeartbeats 8000000 in
set_option maxRecDepth 100000 in
theorem impl_joinings.calls (k : Nat) (a0_0 : Int) (A0_1 : Option Addr) (c0_1 : Nat) (l0_1 : List S37) (r1 : Int) (r2 : List Int) (r3 : Int) (w : World) (hr0_1 : Kd.C k37 w A0_1 l0_1.length l0_1) (hc0_1 : l0_1.length ≤ c0_1) (h : impl_joinings.f k a0_0 l0_1 = some (r1, r2, r3)) :
    Calls Try.prog 94 #[.agg #[.int .i64 a0_0, .slice A0_1 l0_1.length c0_1]] w fun e w' => ∃ v1_ : Value, e = .returned (.tuple #[.int .i64 r1, v1_, .int .i64 r3]) ∧ Kd.R (Kd.int .i64) 3 w' w.heap.size (fun _ => True) v1_ r2 ∧ Below w.heap.size w w' := by
  have HR := Aside0.mk hr0_1
  have HC := Aside0.mk hc0_1
  have H := Aside0.mk h
  have HS := Aside0.mk (join_start w a0_0 A0_1 l0_1.length c0_1)
  clear hr0_1 hc0_1 h
  go_enter Try.func94, Try.ntmps94
  go_wp2
  rw [run_store (hv := by rfl)]
  go_simp
  go_wp2_with ((with_reducible refine gate_dst (N := 11) rfl ?_); refine Kd.R_lit (Kd.int .i64) _ 3 ?hg (N := 11) ?hd (xs := ([] : List Int)) (inner := []) (ok := fun _ => True) (okp := fun _ => True) ?hr ?hp (fun _ hk => hk) trivial (Below.refl _ _) (Nat.le_refl _) (by simp) ?_; (case hd => rfl); (case hg => rfl); (case hr => first | (go_simp; done) | (go_simp; rfl)); (case hp => exact (Reps.none _ _)); intro v2 w3 ho hb hg_ hnew_; have HO := Aside0.mk ho; have HB := Aside0.mk hb; clear hb ho hg_ hnew_)
  have HS1 := Aside0.mk HS.out.1
  have HS2 := Aside0.mk HS.out.2.1
  have HS3 := Aside0.mk HS.out.2.2
  clear HS
  have hsz := HS3.out
  refine (join1_calls w a0_0 A0_1 c0_1 l0_1 HR.out HC.out w.heap.size (w.heap.size + 1 + 1 + 1) (w.heap.size + 1) (w.heap.size + 1 + 1) (w.heap.size + 1 + 1 + 1 + 1) ⟨⟨by omega, by omega, by omega, by omega, by omega, by omega, by omega, by omega, by omega⟩, by omega, by omega, by omega⟩ k [] 0 0 0 [] 0 r1 r2 r3 v2 (.slice none 0 0) w3 (below_step HS2.out HB.out) (Boxed5_below HS1.out HB.out) (Kd.R_lower (row_fresh3 HO.out (Nat.le_refl _) (by first | (simp; done) | (simp; omega)) (by first | (simp; done) | (simp; omega)) (by first | (simp; done) | (simp; omega))) (by first | (simp; done) | (simp; omega))) (Kd.R_nil _ _ _ _ _) H.out).mono ?_
  rintro e w' ⟨rfl, vb', hX, hR, hK⟩
  have hcb : w'.cell? ⟨w.heap.size + 1 + 1, 0, none⟩ = some vb' := (blk_cell hX.2.2.2.1 0).trans rfl
  have hcl : w'.cell? ⟨w.heap.size + 1, 0, none⟩ = some (.int .i64 r1) := (blk_cell hX.2.2.1 0).trans rfl
  have hcm : w'.cell? ⟨w.heap.size + 1 + 1 + 1, 0, none⟩ = some (.int .i64 r3) := (blk_cell hX.2.1 0).trans rfl
  have HRR := Aside0.mk (Kd.R_mono hR (fun _ _ => trivial) : Kd.R (Kd.int .i64) 3 w' w.heap.size (fun _ => True) vb' r2)
  have HBB := Aside0.mk (hK.below (below_step HS2.out HB.out) (by omega) (by omega) (by omega) (below_size (below_step HS2.out HB.out)))
  clear hX hR hK HS1 HS2 HS3 HB HO hsz HR HC H
  go_wp2
  have mixed : Try.prog.follows .mixedOrders = true := by kernel_rfl
  refine start_ (n := 6) (S := fun u => u.cell? ⟨w.heap.size + 1, 0, none⟩ = some (.int .i64 r1) ∧ u.cell? ⟨w.heap.size + 1 + 1, 0, none⟩ = some vb' ∧ u.cell? ⟨w.heap.size + 1 + 1 + 1, 0, none⟩ = some (.int .i64 r3)) (ds := []) #[false, false, false, false, false, false] mixed rfl rfl ⟨hcl, hcb, hcm⟩ (fun hHeld => ?_)
  have HBd := Aside0.mk (below_drew HBB.out)
  have HRd := Aside0.mk (Kd.R_drew HRR.out)
  clear HRR HBB hcb hcl hcm
  generalize w'.drew = wd at HBd HRd hHeld ⊢
  refine take_ (i := 0) (N := some 13) (v := ?_) (a' := ?_) #[true, false, false, false, false, false] rfl rfl (by kernel_rfl) (fun _ _ _ h => h) (Or.inl ⟨by rfl, ?_⟩) hHeld ?_ ?_
  rotate_left
  · rintro w' ⟨s0, s1, s2⟩
    go_simp
    with_reducible rfl
  rotate_left
  · simp only [Act.put, List.setIfInBounds_toArray, List.set_cons_zero, List.set_cons_succ, i64_w, i32_w]
    rfl
  refine take_ (i := 1) (N := some 14) (v := ?_) (a' := ?_) #[true, true, false, false, false, false] rfl rfl (by kernel_rfl) (fun _ _ _ h => h) (Or.inl ⟨by rfl, ?_⟩) hHeld ?_ ?_
  rotate_left
  · rintro w' ⟨s0, s1, s2⟩
    go_simp
    with_reducible rfl
  rotate_left
  · simp only [Act.put, List.setIfInBounds_toArray, List.set_cons_zero, List.set_cons_succ, i64_w, i32_w]
    rfl
  refine take_ (i := 2) (N := some 15) (v := ?_) (a' := ?_) #[true, true, true, false, false, false] rfl rfl (by kernel_rfl) (fun _ _ _ h => h) (Or.inl ⟨by rfl, ?_⟩) hHeld ?_ ?_
  rotate_left
  · rintro w' ⟨s0, s1, s2⟩
    go_simp
    with_reducible rfl
  rotate_left
  · simp only [Act.put, List.setIfInBounds_toArray, List.set_cons_zero, List.set_cons_succ, i64_w, i32_w]
    rfl
  refine pure_ (i := 3) (N := some 2) (v := ?_) (a' := ?_) #[true, true, true, true, false, false] rfl rfl (by kernel_rfl) (fun _ _ _ h => h) (Or.inl ⟨by rfl, ?_⟩) ?_ ?_
  rotate_left
  · intro w'
    go_simp
    with_reducible rfl
  rotate_left
  · simp only [Act.put, List.setIfInBounds_toArray, List.set_cons_zero, List.set_cons_succ, i64_w, i32_w]
    rfl
  refine pure_ (i := 4) (N := some 3) (v := ?_) (a' := ?_) #[true, true, true, true, true, false] rfl rfl (by kernel_rfl) (fun _ _ _ h => h) (Or.inl ⟨by rfl, ?_⟩) ?_ ?_
  rotate_left
  · intro w'
    go_simp
    with_reducible rfl
  rotate_left
  · simp only [Act.put, List.setIfInBounds_toArray, List.set_cons_zero, List.set_cons_succ, i64_w, i32_w]
    rfl
  refine pure_ (i := 5) (N := some 4) (v := ?_) (a' := ?_) #[true, true, true, true, true, true] rfl rfl (by kernel_rfl) (fun _ _ _ h => h) (Or.inl ⟨by rfl, ?_⟩) ?_ ?_
  rotate_left
  · intro w'
    go_simp
    with_reducible rfl
  rotate_left
  · simp only [Act.put, List.setIfInBounds_toArray, List.set_cons_zero, List.set_cons_succ, i64_w, i32_w]
    rfl
  refine done_ (by kernel_rfl) ?_
  go_wp2
  go_ret3
  exact ⟨_, rfl, HRd.out, HBd.out⟩

end Go.Proofs.Ytkikaakfdggklaa.Q
