/- The plain law of FnExactRiverOf; no conditions. -/
import Derived.Test.YtlgbafblbgaoiaaDoorKRiver
import Derived.Test.YtlgbafblbgaoiaaDoorKx7
set_option linter.unusedVariables false
set_option linter.unusedSimpArgs false
namespace Go.Proofs.YtlgbafblbgaoiaaDoor.K
open Go.RowKit Go.Proofs.YtlgbafblbgaoiaaDoorW.PrintWords Go.Proofs.YtlgbafblbgaoiaaDoorW.PrintLast Go.Proofs.YtlgbafblbgaoiaaDoorW.PrintMore
theorem FnExactRiverOf_pure (a0 : ByteArray) (w0 : a0.size ≤ 140737488351232) : ∃ k, laws_FnExactRiverOf.f k a0 = some true := by
  refine ⟨30, ?_⟩
  unfold laws_FnExactRiverOf.f
  by_cases h : (a0.size : Int) > 1048576
  · rw [if_pos h]
  · rw [if_neg h]
    have h1 : spec_RiverOf.f 30 a0 = some (if good a0 = true then (strOfNums ((intsOf a0).map plainB), true) else ((⟨#[]⟩ : ByteArray), false)) := by
      unfold spec_RiverOf.f
      rw [siGood_eq a0 30 (by decide), Option.bind_some]
      by_cases hg : good a0 = true
      · have hz := good_size hg
        rw [if_pos hg, if_pos hg, siRiver_eq a0 (by omega) 30 (by omega), Option.bind_some]
      · rw [if_neg hg, if_neg hg]
    have h2 : impl_RiverOf.f a0 = some (if good a0 = true then (strOfNums ((intsOf a0).map plainB), true) else ((⟨#[]⟩ : ByteArray), false)) := by
      unfold impl_RiverOf.f
      rw [IsStrong_eq, Option.bind_some]
      by_cases hg : good a0 = true
      · have hz := good_size hg
        rw [if_pos hg, if_pos hg, plain_eq a0 (by omega), Option.bind_some]
      · rw [if_neg hg, if_neg hg]
    rw [h1, h2, Option.bind_some, Option.bind_some, if_pos rfl]
    simp
end Go.Proofs.YtlgbafblbgaoiaaDoor.K
