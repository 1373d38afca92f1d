/- Is an island asked for one of the isles; no conditions. -/
import Derived.Test.YtkikaakfdggklaaQBase
import Derived.Test.YtkikaakfdggklaaQLabels
import Derived.Test.YtkikaakfdggklaaQx28
import Derived.Test.YtkikaakfdggklaaQx25
import Derived.Test.YtkikaakfdggklaaQx25
set_option linter.unusedVariables false
set_option linter.unusedSimpArgs false
namespace Go.Proofs.Ytkikaakfdggklaa.Q
open Go.RowKit Go.Proofs.YtkikaakfdggklaaW.PrintWords Go.Proofs.YtkikaakfdggklaaW.PrintLast Go.Proofs.YtkikaakfdggklaaW.PrintMore
def asked (n : Int) (l : List BR) (a : Int) : Bool := good n l && decide (0 ≤ a ∧ a ≤ n - 1)
theorem isAsked_ev (n : Int) (l : List BR) (a : Int) : ∃ K, ∀ k, K ≤ k → spec_isAsked.f k n l a = some (asked n l a) := by
  obtain ⟨K, h⟩ := isGood_ev n l
  refine ⟨K, fun k hk => ?_⟩
  unfold spec_isAsked.f asked
  rw [h k hk]
  simp only [Option.bind_some]
  by_cases hg : good n l = true
  · obtain ⟨h1, h2, _, _⟩ := good_says hg
    rw [if_pos hg, hg, l1In_eq, w64 (by omega) (by omega)]
    rfl
  · rw [if_neg hg, Bool.eq_false_iff.2 hg]
    rfl
theorem asked_nat {n : Int} {l : List BR} {a : Int} (h : asked n l a = true) : ∃ N A : Nat, n = (N : Int) ∧ a = (A : Int) ∧ N ≤ 7 ∧ l.length ≤ 14 ∧ (∀ b ∈ l, inN N b) ∧ A < N := by
  unfold asked at h
  simp only [Bool.and_eq_true, decide_eq_true_eq] at h
  obtain ⟨N, rfl, hN1, hN7, hL, hb⟩ := good_nat h.1
  exact ⟨N, a.toNat, rfl, by omega, hN7, hL, hb, by omega⟩
theorem areIslands_one (n : Int) (l : List BR) (hw : ∀ b ∈ l, wfBR b) (a : Int) : impl_areIslands.f n l [a] = some (asked n l a) := by
  unfold impl_areIslands.f impl_areWithin.f asked
  rw [areIsles_eq n l hw]
  simp only [Option.bind_some]
  by_cases hg : good n l = true
  · obtain ⟨h1, h2, _, _⟩ := good_says hg
    rw [if_pos hg, hg, w64 (by omega) (by omega)]
    simp
  · rw [if_neg hg, Bool.eq_false_iff.2 hg]
    rfl
theorem areIslands_two (n : Int) (l : List BR) (hw : ∀ b ∈ l, wfBR b) (a b : Int) : impl_areIslands.f n l [a, b] = some (asked n l a && decide (0 ≤ b ∧ b ≤ n - 1)) := by
  unfold impl_areIslands.f impl_areWithin.f asked
  rw [areIsles_eq n l hw]
  simp only [Option.bind_some]
  by_cases hg : good n l = true
  · obtain ⟨h1, h2, _, _⟩ := good_says hg
    rw [if_pos hg, hg, w64 (by omega) (by omega)]
    simp
  · rw [if_neg hg, Bool.eq_false_iff.2 hg]
    rfl
end Go.Proofs.Ytkikaakfdggklaa.Q
