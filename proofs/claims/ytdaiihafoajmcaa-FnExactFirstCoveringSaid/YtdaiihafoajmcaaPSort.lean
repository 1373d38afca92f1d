/- Plain facts: the reference's sort and the library's come to the same; no conditions. -/
import Derived.Test.YtdaiihafoajmcaaPx12
import Derived.Test.YtdaiihafoajmcaaPMarks
set_option linter.unusedVariables false
set_option linter.unusedSimpArgs false
namespace Go.Proofs.Ytdaiihafoajmcaa.P
open Go.RowKit Go.Proofs.YtdaiihafoajmcaaW.PrintWords Go.Proofs.YtdaiihafoajmcaaW.PrintLast Go.Proofs.YtdaiihafoajmcaaW.PrintMore
theorem sorted_unique : ∀ (a b : List Int), a.Perm b → a.Pairwise (· ≤ ·) → b.Pairwise (· ≤ ·) → a = b
  | [], b, h, _, _ => by
    have := h.length_eq
    exact (List.eq_nil_of_length_eq_zero (by simpa using this.symm)).symm
  | x :: a, [], h, _, _ => by
    have := h.length_eq
    simp at this
  | x :: a, y :: b, h, ha, hb => by
    rw [List.pairwise_cons] at ha hb
    have h1 : x ∈ y :: b := h.mem_iff.1 (by simp)
    have h2 : y ∈ x :: a := h.mem_iff.2 (by simp)
    have e : x = y := by
      rcases List.mem_cons.1 h1 with h1 | h1
      · exact h1
      · rcases List.mem_cons.1 h2 with h2 | h2
        · exact h2.symm
        · have := hb.1 x h1
          have := ha.1 y h2
          omega
    subst e
    rw [sorted_unique a b (List.Perm.cons_inv h) ha.2 hb.2]
theorem sorted_at {x : List Int} (h : x.Pairwise (· ≤ ·)) {i j : Nat} (hi : i ≤ j) (hj : j < x.length) : rd x (i : Int) ≤ rd x (j : Int) := by
  rw [rd_get x i (by omega), rd_get x j hj]
  by_cases e : i = j
  · subst e; exact Int.le_refl _
  · exact List.pairwise_iff_getElem.1 h i j (by omega) hj (by omega)
theorem mem_take_at {x : List Int} {m : Nat} {a : Int} (h : a ∈ x.take m) : ∃ i, i < m ∧ i < x.length ∧ a = rd x (i : Int) := by
  obtain ⟨i, hi, rfl⟩ := List.getElem_of_mem h
  rw [List.length_take] at hi
  exact ⟨i, by omega, by omega, by rw [rd_get x i (by omega), List.getElem_take]⟩
theorem mem_drop_at {x : List Int} {m : Nat} {a : Int} (h : a ∈ x.drop m) : ∃ i, m ≤ i ∧ i < x.length ∧ a = rd x (i : Int) := by
  obtain ⟨i, hi, rfl⟩ := List.getElem_of_mem h
  rw [List.length_drop] at hi
  exact ⟨m + i, by omega, by omega, by rw [rd_get x (m + i) (by omega), List.getElem_drop]⟩
def sortU (l : List Int) : List Int := l.mergeSort fun x y => decide (x ≤ y)
theorem sortU_sorted (l : List Int) : (sortU l).Pairwise (· ≤ ·) := by
  have := List.pairwise_mergeSort (le := fun x y : Int => decide (x ≤ y)) (fun a b c h1 h2 => by simp at *; omega) (fun a b => by simp; omega) l
  exact this.imp (fun h => by simpa using h)
theorem sortU_length (l : List Int) : (sortU l).length = l.length := by simp [sortU]
theorem sortedI_eq (l : List Int) (h1 : 1 ≤ l.length) (h2 : l.length ≤ 7) : slices_Sorted_int.f l = some (sortU l) := by
  unfold slices_Sorted_int.f
  rw [if_pos ⟨h1, by omega⟩]
  rfl
theorem goodP_use {l : List Int} (h : goodP l = true) : 1 ≤ l.length ∧ l.length ≤ 7 ∧ ∀ n ∈ l, good1 n = true := by
  unfold goodP at h
  simp only [Bool.and_eq_true, decide_eq_true_eq, List.all_eq_true] at h
  exact ⟨h.1.1, h.1.2, h.2⟩
end Go.Proofs.Ytdaiihafoajmcaa.P
