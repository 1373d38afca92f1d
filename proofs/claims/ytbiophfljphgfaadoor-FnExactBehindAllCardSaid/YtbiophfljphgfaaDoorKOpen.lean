/- A slice of slices of whole numbers that came in: its reading opened into lists, for the rows of this seat; no conditions. -/
import Derived.Test.YtbiophfljphgfaaDoorKx0
import Derived.Deep.Matrix
import Derived.OpenShut
namespace Go.Proofs.YtbiophfljphgfaaDoor.K
open Go.RowKit Go.Proofs.YtbiophfljphgfaaDoorW.PrintWords Go.Proofs.YtbiophfljphgfaaDoorW.PrintLast Go.Proofs.YtbiophfljphgfaaDoorW.PrintMore
open Go.Deep Go.ChangeShapes Go.WideShapes
set_option maxRecDepth 100000 in
theorem open_rows {H : Type} {enc : TypeId × Value → H} {W : World} {r : Reach} {b0 : Nat} {v : Value} {d : DataW H} {p : List MemPlace}
    (hv : Value.okWide Tryd.prog W r b0 22 v) (h : DataW.Trod enc Tryd.prog W 0 (fun _ => true) true 22 v d p) :
    ∃ (A : Option Addr) (c : Nat) (l : List (List Int)), v = .slice A l.length c ∧ l.length ≤ c ∧ Kd.C (Kd.slice 3 (Kd.int .i64)) W A l.length l ∧ ∀ xs ∈ l, xs.length ≤ 9223372036854775807 ∧ ∀ n ∈ xs, (Lit.int .i64 n).wf = true := by
  obtain ⟨a, len, cap, rfl⟩ := okWide_slice Tryd.underlying22 hv
  obtain ⟨fuel, hf⟩ := h
  rcases open_int_rows Tryd.underlying22 Tryd.underlying32 Tryd.underlying3 (by kernel_rfl) (by kernel_rfl) hf with ⟨hcs, _⟩ | ⟨x, ln, cp, A, L, C, Z, hcs, _, hl, hm, _, hx⟩
  · simp [Value.cells] at hcs
    obtain ⟨rfl, rfl, rfl⟩ := hcs
    exact ⟨none, 0, [], rfl, Nat.le_refl _, Kd.C_nil _ _, by simp⟩
  · simp [Value.cells] at hcs
    obtain ⟨rfl, rfl, rfl⟩ := hcs
    have hlen : ((List.range len).map fun r => (Z r).take (L r)).length = len := by simp
    have hrow : ∀ j, j < len → ((Z j).take (L j)).length = L j ∧ L j ≤ C j ∧ C j ≤ maxLen := fun j hj => by
      obtain ⟨_, h1, h2, h3, _⟩ := hx j (by omega)
      exact ⟨by rw [List.length_take]; omega, h1, h2⟩
    refine ⟨some x, cap, (List.range len).map fun r => (Z r).take (L r), by rw [hlen], by omega, ?_, ?_⟩
    · rw [hlen]
      refine ⟨hlen, by unfold maxLen at hm; omega, fun _ => ⟨x, rfl, fun j p hj => ?_⟩⟩
      obtain ⟨hjl, hjp⟩ := List.getElem?_eq_some_iff.1 hj
      rw [hlen] at hjl
      simp only [List.getElem_map, List.getElem_range] at hjp
      obtain ⟨hr1, hr2, hr3⟩ := hrow j hjl
      obtain ⟨h0, _, _, h3, h4, h5, h6⟩ := hx j (by omega)
      subst hjp
      refine ⟨[.slice (A j) (L j) (C j)], rfl, ⟨A j, C j, by rw [hr1], by omega, ?_⟩, fun i u hu => ?_⟩
      · rw [hr1]
        refine Kd.C_of_reads (d := (0 : Int)) (h1 := fun _ => rfl) ⟨hr1, by unfold maxLen at hr3; omega, fun hn => ?_⟩
        cases hA : A j with
        | none =>
          have := h5 hA
          omega
        | some a' =>
          refine ⟨a', rfl, fun c hc => ?_⟩
          rw [(h6 a' hA).2 c (by omega)]
          simp only [List.getD_eq_getElem?_getD, List.getElem?_take_of_lt hc]
      · cases i with
        | zero =>
          simp only [List.getElem?_cons_zero, Option.some.injEq] at hu
          subst hu
          simpa [Kd.slice] using h0
        | succ i => simp at hu
    · intro xs hxs
      obtain ⟨j, hj, rfl⟩ := List.mem_map.1 hxs
      have hj' := List.mem_range.1 hj
      obtain ⟨hr1, hr2, hr3⟩ := hrow j hj'
      obtain ⟨_, _, _, _, h4, _⟩ := hx j (by omega)
      exact ⟨by rw [hr1]; unfold maxLen at hr3; omega, fun n hn => h4 n (List.mem_of_mem_take hn)⟩
end Go.Proofs.YtbiophfljphgfaaDoor.K
