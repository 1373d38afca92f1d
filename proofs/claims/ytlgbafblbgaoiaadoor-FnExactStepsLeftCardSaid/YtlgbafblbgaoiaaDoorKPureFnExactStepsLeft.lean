/- The plain law of FnExactStepsLeft; no conditions. -/
import Derived.Test.YtlgbafblbgaoiaaDoorKSum
import Derived.Test.YtlgbafblbgaoiaaDoorKx5
set_option linter.unusedVariables false
set_option linter.unusedSimpArgs false
namespace Go.Proofs.YtlgbafblbgaoiaaDoor.K
open Go.RowKit Go.Proofs.YtlgbafblbgaoiaaDoorW.PrintWords Go.Proofs.YtlgbafblbgaoiaaDoorW.PrintLast Go.Proofs.YtlgbafblbgaoiaaDoorW.PrintMore
theorem FnExactStepsLeft_pure (a0 : ByteArray) (w0 : a0.size ≤ 140737488351232) : ∃ k, laws_FnExactStepsLeft.f k a0 = some true := by
  refine ⟨30, ?_⟩
  unfold laws_FnExactStepsLeft.f
  by_cases h : (a0.size : Int) > 1048576
  · rw [if_pos h]
  · rw [if_neg h]
    have h1 : spec_StepsLeft.f 30 a0 = some (if good a0 = true then (digs (intsOf a0), true) else (0, false)) := by
      unfold spec_StepsLeft.f
      rw [siGood_eq a0 30 (by decide), Option.bind_some]
      by_cases hg : good a0 = true
      · have hz := good_size hg
        rw [if_pos hg, if_pos hg, siSum_eq a0 (by omega) 30 (by omega), Option.bind_some]
      · rw [if_neg hg, if_neg hg]
    have h2 : impl_StepsLeft.f 30 a0 = some (if good a0 = true then (digs (intsOf a0), true) else (0, false)) := by
      unfold impl_StepsLeft.f
      rw [IsStrong_eq, Option.bind_some]
      by_cases hg : good a0 = true
      · have hz := good_size hg
        rw [if_pos hg, if_pos hg, total_eq a0 (by omega) 30 (by omega), Option.bind_some]
      · rw [if_neg hg, if_neg hg]
    rw [h1, h2, Option.bind_some, Option.bind_some, if_pos rfl]
    simp
end Go.Proofs.YtlgbafblbgaoiaaDoor.K
