/- The plain law of FnExactCanSquare; no conditions. -/
import Derived.Test.YtcjimfcjfaagoaaPx3
import Derived.Test.YtcjimfcjfaagoaaPBase
import Derived.Test.YtcjimfcjfaagoaaPx4
set_option linter.unusedVariables false
set_option linter.unusedSimpArgs false
namespace Go.Proofs.Ytcjimfcjfaagoaa.P
theorem FnExactCanSquare_pure (x y : Int) (w : (Lit.int .i64 x).wf = true) (u : (Lit.int .i64 y).wf = true) : laws_FnExactCanSquare.f x y = some true := by
  unfold laws_FnExactCanSquare.f spec_CanSquare.f spec_cnDitch.f spec_cnPlank.f impl_CanSquare.f impl_isDitch.f impl_isPlankLong.f impl_reachesSquare.f
  simp only [Option.bind_some, l1In_eq, within_eq]
  by_cases h1 : 1 ≤ x ∧ x ≤ 100 <;> by_cases h2 : 1 ≤ y ∧ y ≤ 200 <;> simp [h1, h2]
end Go.Proofs.Ytcjimfcjfaagoaa.P
