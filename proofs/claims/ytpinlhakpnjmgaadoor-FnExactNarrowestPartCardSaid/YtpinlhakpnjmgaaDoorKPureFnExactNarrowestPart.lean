/- The plain law of FnExactNarrowestPart; no conditions. -/
import Derived.Test.YtpinlhakpnjmgaaDoorKx7
import Derived.Test.YtpinlhakpnjmgaaDoorKNarrow
import Derived.Test.YtpinlhakpnjmgaaDoorKx5
set_option linter.unusedVariables false
set_option linter.unusedSimpArgs false
namespace Go.Proofs.YtpinlhakpnjmgaaDoor.K
open Go.RowKit Go.Proofs.YtpinlhakpnjmgaaDoorW.PrintWords Go.Proofs.YtpinlhakpnjmgaaDoorW.PrintLast Go.Proofs.YtpinlhakpnjmgaaDoorW.PrintMore
theorem Narrowest_spec (s : ByteArray) (leap : Int) (k : Nat) (hk : 50 ≤ k) : spec_NarrowestPart.f k s leap = some (if short s leap = true then ((narrow s leap).1, (narrow s leap).2, true) else (0, 0, false)) := by
  unfold spec_NarrowestPart.f
  rw [siShort_eq s leap k (by omega), Option.bind_some]
  by_cases h : short s leap = true
  · obtain ⟨_, h1, h2, h3⟩ := short_use h
    rw [if_pos h, if_pos h, siNarrow_eq s h3 leap (by omega) k hk, Option.bind_some]
  · rw [if_neg h, if_neg h]
theorem Narrowest_impl (s : ByteArray) (leap : Int) (k : Nat) (hk : 50 ≤ k) : impl_NarrowestPart.f k s leap = some (if short s leap = true then ((narrow s leap).1, (narrow s leap).2, true) else (0, 0, false)) := by
  unfold impl_NarrowestPart.f
  rw [isShort_eq s leap, Option.bind_some]
  by_cases h : short s leap = true
  · obtain ⟨_, h1, h2, h3⟩ := short_use h
    rw [if_pos h, if_pos h, narrowest_eq s h3 leap (by omega) k hk, Option.bind_some]
  · rw [if_neg h, if_neg h]
theorem FnExactNarrowestPart_pure (a0 : ByteArray) (a1 : Int) (w0 : a0.size ≤ 140737488351232) (w1 : (Lit.int .i64 a1).wf = true) : ∃ k, laws_FnExactNarrowestPart.f k a0 a1 = some true := by
  refine ⟨50, ?_⟩
  unfold laws_FnExactNarrowestPart.f
  by_cases h : (a0.size : Int) > 1048576
  · rw [if_pos h]
  · rw [if_neg h, Narrowest_spec a0 a1 50 (by decide), Option.bind_some, Narrowest_impl a0 a1 50 (by decide), Option.bind_some]
    simp
end Go.Proofs.YtpinlhakpnjmgaaDoor.K
