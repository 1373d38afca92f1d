/- The plain law of FnExactIsCorner; no conditions. -/
import Derived.Test.YtcjimfcjfaagoaaPx3
import Derived.Test.YtcjimfcjfaagoaaPBase
import Derived.Test.YtcjimfcjfaagoaaPx2
set_option linter.unusedVariables false
set_option linter.unusedSimpArgs false
namespace Go.Proofs.Ytcjimfcjfaagoaa.P
theorem FnExactIsCorner_pure (x y : Int) (w : (Lit.int .i64 x).wf = true) (u : (Lit.int .i64 y).wf = true) : laws_FnExactIsCorner.f x y = some true := by
  unfold laws_FnExactIsCorner.f laws_toCorner.f spec_IsCorner.f spec_cnGood.f impl_IsCorner.f impl_isDitch.f
  simp only [Option.bind_some, l1In_eq, within_eq]
  by_cases h1 : 1 ≤ x ∧ x ≤ 100 <;> by_cases h2 : 1 ≤ y ∧ y ≤ 100 <;> simp [h1, h2]
end Go.Proofs.Ytcjimfcjfaagoaa.P
