/- Lists of labels of the islands; what good isles say; the lesser and the greater of two; no conditions. -/
import Derived.Test.YtkikaakfdggklaaQBase
import Derived.Test.YtkikaakfdggklaaQx15
import Derived.Test.YtkikaakfdggklaaQx16
set_option linter.unusedVariables false
set_option linter.unusedSimpArgs false
namespace Go.Proofs.Ytkikaakfdggklaa.Q
open Go.RowKit Go.Proofs.YtkikaakfdggklaaW.PrintWords Go.Proofs.YtkikaakfdggklaaW.PrintLast Go.Proofs.YtkikaakfdggklaaW.PrintMore
def labels (N : Nat) (f : Nat → Nat) : List Int := (List.range N).map fun i => (f i : Int)
theorem labels_length (N : Nat) (f : Nat → Nat) : (labels N f).length = N := by simp [labels]
theorem labels_get (N : Nat) (f : Nat → Nat) (i : Nat) (h : i < N) : (labels N f)[i]'(by rw [labels_length]; exact h) = (f i : Int) := by simp [labels]
theorem labels_rd (N : Nat) (f : Nat → Nat) (i : Nat) (h : i < N) : rd (labels N f) (i : Int) = (f i : Int) := by rw [rdI _ i (by rw [labels_length]; exact h), labels_get N f i h]
theorem labels_rd' (N : Nat) (f : Nat → Nat) (x : Int) (h0 : 0 ≤ x) (h : x < (N : Int)) : rd (labels N f) x = (f x.toNat : Int) := by
  have := labels_rd N f x.toNat (by omega)
  rwa [Int.toNat_of_nonneg h0] at this
theorem labels_succ (N : Nat) (f : Nat → Nat) : labels (N + 1) f = labels N f ++ [(f N : Int)] := by simp [labels, List.range_succ]
theorem labels_congr {N : Nat} {f g : Nat → Nat} (h : ∀ i, i < N → f i = g i) : labels N f = labels N g := by
  apply List.map_congr_left
  intro i hi
  rw [h i (List.mem_range.1 hi)]
/-- Bridges between islands of 0 .. N - 1. -/
def inN (N : Nat) (b : BR) : Prop := 0 ≤ b.f0 ∧ b.f0 < (N : Int) ∧ 0 ≤ b.f1 ∧ b.f1 < (N : Int)

theorem least_eq (a b : Nat) : spec_l1Least.f (a : Int) (b : Int) = some ((min a b : Nat) : Int) := by
  unfold spec_l1Least.f
  split <;> (congr 1; omega)
theorem most_eq (a b : Nat) : spec_l1Most.f (a : Int) (b : Int) = some ((max a b : Nat) : Int) := by
  unfold spec_l1Most.f
  split <;> (congr 1; omega)
/-- What a good set of isles says. -/
theorem good_says {n : Int} {l : List BR} (h : good n l = true) : 1 ≤ n ∧ n ≤ 7 ∧ l.length ≤ 14 ∧ ∀ b ∈ l, okB n b = true := by
  unfold good at h
  simp only [Bool.and_eq_true, decide_eq_true_eq, List.all_eq_true] at h
  exact ⟨h.1.1, h.1.2, h.2.1, h.2.2⟩
theorem okB_says {n : Int} {b : BR} (h : okB n b = true) : 0 ≤ b.f0 ∧ b.f0 ≤ n - 1 ∧ 0 ≤ b.f1 ∧ b.f1 ≤ n - 1 ∧ b.f0 < b.f1 ∧ 0 ≤ b.f2 ∧ b.f2 ≤ 1000 := by
  unfold okB at h
  simpa using h
theorem good_nat {n : Int} {l : List BR} (h : good n l = true) : ∃ N : Nat, n = (N : Int) ∧ 1 ≤ N ∧ N ≤ 7 ∧ l.length ≤ 14 ∧ (∀ b ∈ l, inN N b) := by
  obtain ⟨h1, h2, h3, h4⟩ := good_says h
  refine ⟨n.toNat, by omega, by omega, by omega, h3, fun b hb => ?_⟩
  have := okB_says (h4 b hb)
  unfold inN
  omega
/-- numbers as whole numbers -/
def cw (way : List Nat) : List Int := way.map fun j : Nat => (j : Int)
theorem cw_length (way : List Nat) : (cw way).length = way.length := by simp [cw]
theorem cw_mem (way : List Nat) (x : Nat) : (x : Int) ∈ cw way ↔ x ∈ way := by
  unfold cw
  rw [List.mem_map]
  constructor
  · rintro ⟨y, hy, e⟩
    obtain rfl : y = x := by omega
    exact hy
  · intro h; exact ⟨x, h, rfl⟩
end Go.Proofs.Ytkikaakfdggklaa.Q
