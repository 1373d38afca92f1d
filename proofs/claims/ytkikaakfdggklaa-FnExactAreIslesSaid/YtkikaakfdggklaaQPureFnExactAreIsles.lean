/- The plain law of FnExactAreIsles: program and reference agree whether a set of isles is one; no conditions. -/
import Derived.Test.YtkikaakfdggklaaQBase
import Derived.Test.YtkikaakfdggklaaQx2
set_option linter.unusedVariables false
set_option linter.unusedSimpArgs false
namespace Go.Proofs.Ytkikaakfdggklaa.Q
theorem FnExactAreIsles_pure (n : Int) (l : List LB) (w : (Lit.int .i64 n).wf = true) (hm : l.length ≤ 9223372036854775807) (hw : ∀ b ∈ l, WfB b) : ∃ k, laws_FnExactAreIsles.f k n l = some true := by
  by_cases hl : l.length ≤ 1048576
  · obtain ⟨K1, h1⟩ := toIsles_ev n l hl
    obtain ⟨K2, h2⟩ := isGood_ev n (l.map cv)
    obtain ⟨K3, h3⟩ := eqIsles_ev n (l.map cv) (by rw [List.length_map]; omega)
    refine ⟨K1 + K2 + K3, ?_⟩
    unfold laws_FnExactAreIsles.f spec_AreIsles.f
    rw [szIsles_eq n l hm, if_pos hl, h1 _ (by omega)]
    simp only [Option.bind_some]
    rw [if_neg (by omega), h2 _ (by omega)]
    simp only [Option.bind_some]
    rw [areIsles_eq n _ (wf_cv l hw), h3 _ (by omega)]
    simp
  · refine ⟨0, ?_⟩
    unfold laws_FnExactAreIsles.f
    rw [szIsles_eq n l hm, if_neg hl]
    simp
end Go.Proofs.Ytkikaakfdggklaa.Q
