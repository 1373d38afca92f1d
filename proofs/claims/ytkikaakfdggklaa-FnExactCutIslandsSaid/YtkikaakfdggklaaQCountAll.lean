/- How many groups program and reference count; no conditions. -/
import Derived.Test.YtkikaakfdggklaaQGroups
import Derived.Test.YtkikaakfdggklaaQx21
set_option linter.unusedVariables false
set_option linter.unusedSimpArgs false
namespace Go.Proofs.Ytkikaakfdggklaa.Q
theorem impl_CountGroups_ev (n : Int) (l : List BR) (hw : ∀ b ∈ l, wfBR b) : ∃ K, ∀ k, K ≤ k → impl_CountGroups.f k n l = some (if good n l = true then ((groupsN n.toNat l : Nat) : Int) else 0, good n l) := by
  by_cases hg : good n l = true
  · obtain ⟨N, rfl, hN1, hN7, hL, hb⟩ := good_nat hg
    obtain ⟨K2, h2⟩ := countGroups_ev N (by omega) l hb (by omega)
    refine ⟨K2, fun k hk => ?_⟩
    unfold impl_CountGroups.f
    rw [areIsles_eq _ _ hw]
    simp only [Option.bind_some]
    rw [if_pos hg, h2 _ (by omega), if_pos hg, hg]
    rfl
  · refine ⟨0, fun k hk => ?_⟩
    unfold impl_CountGroups.f
    rw [areIsles_eq _ _ hw]
    simp only [Option.bind_some]
    rw [if_neg hg, if_neg hg, Bool.eq_false_iff.2 hg]
end Go.Proofs.Ytkikaakfdggklaa.Q
