/- The plain law of FnExactIsStrong; no conditions. -/
import Derived.Test.YtlgbafblbgaoiaaDoorKBase
import Derived.Test.YtlgbafblbgaoiaaDoorKx3
set_option linter.unusedVariables false
set_option linter.unusedSimpArgs false
namespace Go.Proofs.YtlgbafblbgaoiaaDoor.K
open Go.RowKit Go.Proofs.YtlgbafblbgaoiaaDoorW.PrintWords Go.Proofs.YtlgbafblbgaoiaaDoorW.PrintLast Go.Proofs.YtlgbafblbgaoiaaDoorW.PrintMore
theorem FnExactIsStrong_pure (a0 : ByteArray) (w0 : a0.size ≤ 140737488351232) : ∃ k, laws_FnExactIsStrong.f k a0 = some true := by
  refine ⟨22, ?_⟩
  unfold laws_FnExactIsStrong.f spec_IsStrong.f
  rw [siGood_eq a0 22 (Nat.le_refl _), IsStrong_eq]
  by_cases h : (a0.size : Int) > 1048576
  · rw [if_pos h]
  · rw [if_neg h]
    simp
end Go.Proofs.YtlgbafblbgaoiaaDoor.K
