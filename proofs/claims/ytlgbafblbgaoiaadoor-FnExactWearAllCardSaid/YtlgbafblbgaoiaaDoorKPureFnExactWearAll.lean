/- The plain law of FnExactWearAll; no conditions. -/
import Derived.Test.YtlgbafblbgaoiaaDoorKWear
import Derived.Test.YtlgbafblbgaoiaaDoorKx10
set_option linter.unusedVariables false
set_option linter.unusedSimpArgs false
namespace Go.Proofs.YtlgbafblbgaoiaaDoor.K
open Go.RowKit Go.Proofs.YtlgbafblbgaoiaaDoorW.PrintWords Go.Proofs.YtlgbafblbgaoiaaDoorW.PrintLast Go.Proofs.YtlgbafblbgaoiaaDoorW.PrintMore
theorem FnExactWearAll_pure (a0 : ByteArray) (w0 : a0.size ≤ 140737488351232) : ∃ k, laws_FnExactWearAll.f k a0 = some true := by
  refine ⟨30, ?_⟩
  unfold laws_FnExactWearAll.f
  by_cases h : (a0.size : Int) > 1048576
  · rw [if_pos h]
  · rw [if_neg h]
    have h1 : spec_WearAll.f 30 a0 = some (if good a0 = true then (strOfNums ((intsOf a0).map wornB), true) else ((⟨#[]⟩ : ByteArray), false)) := by
      unfold spec_WearAll.f
      rw [siGood_eq a0 30 (by decide), Option.bind_some]
      by_cases hg : good a0 = true
      · have hz := good_size hg
        rw [if_pos hg, if_pos hg, siWear_eq a0 hg 30 (by decide), Option.bind_some]
      · rw [if_neg hg, if_neg hg]
    have h2 : impl_WearAll.f a0 = some (if good a0 = true then (strOfNums ((intsOf a0).map wornB), true) else ((⟨#[]⟩ : ByteArray), false)) := by
      unfold impl_WearAll.f
      rw [IsStrong_eq, Option.bind_some]
      by_cases hg : good a0 = true
      · have hz := good_size hg
        rw [if_pos hg, if_pos hg, worn_eq a0 (by omega), Option.bind_some]
      · rw [if_neg hg, if_neg hg]
    rw [h1, h2, Option.bind_some, Option.bind_some, if_pos rfl]
    simp
end Go.Proofs.YtlgbafblbgaoiaaDoor.K
