/- The plain law of FnExactMostWhoCross; no conditions. -/
import Derived.Test.YtpinlhakpnjmgaaDoorKx7
import Derived.Test.YtpinlhakpnjmgaaDoorKNarrow
import Derived.Test.YtpinlhakpnjmgaaDoorKx8
set_option linter.unusedVariables false
set_option linter.unusedSimpArgs false
namespace Go.Proofs.YtpinlhakpnjmgaaDoor.K
open Go.RowKit Go.Proofs.YtpinlhakpnjmgaaDoorW.PrintWords Go.Proofs.YtpinlhakpnjmgaaDoorW.PrintLast Go.Proofs.YtpinlhakpnjmgaaDoorW.PrintMore
theorem FnExactMostWhoCross_pure (a0 : ByteArray) (a1 : Int) (w0 : a0.size ≤ 140737488351232) (w1 : (Lit.int .i64 a1).wf = true) : ∃ k, laws_FnExactMostWhoCross.f k a0 a1 = some true := by
  refine ⟨50, ?_⟩
  unfold laws_FnExactMostWhoCross.f
  by_cases h : (a0.size : Int) > 1048576
  · rw [if_pos h]
  · rw [if_neg h]
    have h1 : spec_MostWhoCross.f 50 a0 a1 = some (if short a0 a1 = true then ((narrow a0 a1).1, true) else (0, false)) := by
      unfold spec_MostWhoCross.f
      rw [siShort_eq a0 a1 50 (by omega), Option.bind_some]
      by_cases h : short a0 a1 = true
      · obtain ⟨_, h1, h2, h3⟩ := short_use h
        rw [if_pos h, if_pos h, siNarrow_eq a0 h3 a1 (by omega) 50 (by decide), Option.bind_some]
      · rw [if_neg h, if_neg h]
    have h2 : impl_MostWhoCross.f 50 a0 a1 = some (if short a0 a1 = true then ((narrow a0 a1).1, true) else (0, false)) := by
      unfold impl_MostWhoCross.f impl_NarrowestPart.f
      rw [isShort_eq a0 a1, Option.bind_some]
      by_cases h : short a0 a1 = true
      · obtain ⟨_, h1, h2, h3⟩ := short_use h
        rw [if_pos h, if_pos h, narrowest_eq a0 h3 a1 (by omega) 50 (by decide), Option.bind_some, Option.bind_some]
      · rw [if_neg h, if_neg h, Option.bind_some]
    rw [h1, Option.bind_some, h2, Option.bind_some]
    simp
end Go.Proofs.YtpinlhakpnjmgaaDoor.K
