/- A slice of bridges and a set of isles that came in: their readings opened into lists, for the rows of this seat. -/
import Derived.Test.YtgfpdbebeibdkaaQx0
import Derived.Deep.Slices
import Derived.Deep.Strs
import Derived.Lib.SmallJoins
import Derived.ChangeArms
namespace Go.Proofs.Ytgfpdbebeibdkaa.Q
open Go.RowKit Go.Proofs.YtgfpdbebeibdkaaW.PrintWords Go.Proofs.YtgfpdbebeibdkaaW.PrintLast Go.Proofs.YtgfpdbebeibdkaaW.PrintMore
open Go.Deep Go.ChangeShapes Go.WideShapes
theorem cellsB : Try.prog.cellsOf 26 = 3 := by kernel_rfl
theorem cellsI : Try.prog.cellsOf 3 = 1 := by kernel_rfl
def WfB (b : S26) : Prop := (Lit.int .i64 b.f0).wf = true ∧ (Lit.int .i64 b.f1).wf = true ∧ (Lit.int .i64 b.f2).wf = true
theorem list3 {α : Type} {l : List α} (h : l.length = 3) : ∃ a b c, l = [a, b, c] := by
  match l, h with
  | [a, b, c], _ => exact ⟨a, b, c, rfl⟩
theorem bridge_of {H : Type} {enc : TypeId × Value → H} {W : World} {fuel : Nat} {cs : List Value} {x : DataW H × List MemPlace}
    (h : DataW.trod enc Try.prog W 0 (fun _ => true) true fuel 26 cs = some x) : ∃ b : S26, cs = [.int .i64 b.f0, .int .i64 b.f1, .int .i64 b.f2] ∧ WfB b := by
  obtain ⟨y0, y1, y2, n, _, hl, h0, h1, h2⟩ := trod_struct3 Try.underlying26 h
  rw [cellsB] at hl
  obtain ⟨u0, u1, u2, rfl⟩ := list3 hl
  simp only [cellsI] at h0 h1 h2
  obtain ⟨n0, e0, _, w0⟩ := DataW.trod_int Try.underlying3 h0
  obtain ⟨n1, e1, _, w1⟩ := DataW.trod_int Try.underlying3 h1
  obtain ⟨n2, e2, _, w2⟩ := DataW.trod_int Try.underlying3 h2
  simp at e0 e1 e2
  subst e0 e1 e2
  exact ⟨⟨n0, n1, n2⟩, rfl, w0, w1, w2⟩
instance : Inhabited S26 := ⟨z26⟩
theorem open_bridges {H : Type} {enc : TypeId × Value → H} {W : World} {fuel : Nat} {v : Value} {x : DataW H × List MemPlace}
    (h : DataW.trod enc Try.prog W 0 (fun _ => true) true fuel 22 [v] = some x) :
    ∃ (A : Option Addr) (c : Nat) (l : List S26), v = .slice A l.length c ∧ l.length ≤ c ∧ Kd.C k26 W A l.length l ∧ ∀ b ∈ l, WfB b := by
  rcases open_slice Try.underlying22 h with ⟨hcs, _⟩ | ⟨a, len, cap, m, n, D, Pl, hcs, _, hl, hm, hmm, _, hx⟩
  · simp only [List.cons.injEq, and_true] at hcs
    exact ⟨none, 0, [], hcs, Nat.le_refl _, Kd.C_nil _ _, by simp⟩
  · simp only [List.cons.injEq, and_true] at hcs
    simp only [if_true] at hmm
    have hx' : ∀ i, i < len → ∃ b : S26, (∀ j u, [Value.int .i64 b.f0, Value.int .i64 b.f1, Value.int .i64 b.f2][j]? = some u → W.cell? (a.add (i * 3 + j)) = some u) ∧ WfB b := by
      intro i hi
      obtain ⟨cs', h1, h2⟩ := hx i (by omega)
      obtain ⟨b, hb, hw⟩ := bridge_of h2
      obtain ⟨_, hlen, hcell⟩ := World.cells?_some h1
      rw [cellsB] at hcell
      refine ⟨b, fun j u hu => ?_, hw⟩
      have hj : j < 3 := by
        have := (List.getElem?_eq_some_iff.1 hu).1
        simpa using this
      have hc := hcell j hj
      rw [hb, hu, Deep.add_add] at hc
      exact hc
    obtain ⟨f, hf⟩ := choose_lt hx'
    have hlen : ((List.range len).map f).length = len := by simp
    refine ⟨some a, cap, (List.range len).map f, by rw [hlen]; exact hcs, by omega, ?_, ?_⟩
    · rw [hlen]
      refine ⟨hlen, by unfold maxLen at hm; omega, fun _ => ⟨a, rfl, fun j p hj => ?_⟩⟩
      obtain ⟨hjl, hjp⟩ := List.getElem?_eq_some_iff.1 hj
      rw [hlen] at hjl
      simp only [List.getElem_map, List.getElem_range] at hjp
      subst hjp
      exact ⟨_, rfl, k26_mk W (f j), fun i u hu => (hf j hjl).1 i u hu⟩
    · intro b hb
      obtain ⟨i, hi, rfl⟩ := List.mem_map.1 hb
      exact (hf i (List.mem_range.1 hi)).2
theorem cellsIs : Try.prog.cellsOf 24 = 2 := by kernel_rfl
set_option maxRecDepth 100000 in
/-- Isles by value, opened. -/
theorem open_isles {H : Type} {enc : TypeId × Value → H} {W : World} {r : Reach} {b0 : Nat} {v : Value} {d : DataW H} {p : List MemPlace}
    (hv : Value.okWide Try.prog W r b0 24 v) (h : DataW.Trod enc Try.prog W 0 (fun _ => true) true 24 v d p) :
    ∃ (n : Int) (A : Option Addr) (c : Nat) (l : List S26), v = .agg #[.int .i64 n, .slice A l.length c] ∧ (Lit.int .i64 n).wf = true ∧ l.length ≤ c ∧ Kd.C k26 W A l.length l ∧ ∀ b ∈ l, WfB b := by
  obtain ⟨c0, c1, y0, y1, m, rfl, _, _, hy0, hy1⟩ := Joins.open_agg2 Try.underlying24 (by kernel_rfl) cellsIs hv h
  obtain ⟨n, e0, _, w0⟩ := DataW.trod_int Try.underlying3 hy0
  obtain ⟨A, c, l, rfl, hc, hC, hw⟩ := open_bridges hy1
  simp at e0
  subst e0
  exact ⟨n, A, c, l, rfl, w0, hc, hC, hw⟩
set_option maxRecDepth 100000 in
/-- A bridge by value, opened. -/
theorem open_bridge {H : Type} {enc : TypeId × Value → H} {W : World} {r : Reach} {b0 : Nat} {v : Value} {d : DataW H} {p : List MemPlace}
    (hv : Value.okWide Try.prog W r b0 26 v) (h : DataW.Trod enc Try.prog W 0 (fun _ => true) true 26 v d p) :
    ∃ b : S26, v = .agg #[.int .i64 b.f0, .int .i64 b.f1, .int .i64 b.f2] ∧ WfB b := by
  obtain ⟨c0, c1, c2, y0, y1, y2, m, rfl, _, _, hy0, hy1, hy2⟩ := Joins.open_agg3 Try.underlying26 (by kernel_rfl) cellsB hv h
  obtain ⟨n0, e0, _, w0⟩ := DataW.trod_int Try.underlying3 hy0
  obtain ⟨n1, e1, _, w1⟩ := DataW.trod_int Try.underlying3 hy1
  obtain ⟨n2, e2, _, w2⟩ := DataW.trod_int Try.underlying3 hy2
  simp at e0 e1 e2
  subst e0 e1 e2
  exact ⟨⟨n0, n1, n2⟩, rfl, w0, w1, w2⟩
end Go.Proofs.Ytgfpdbebeibdkaa.Q
