/- Plain facts on the printed functions that the laws on strong rivers use (digits as texts); no conditions. -/
import Derived.Test.YtpinlhakpnjmgaaDoorKx12
import Derived.Test.YtpinlhakpnjmgaaDoorKBase
set_option linter.unusedVariables false
set_option linter.unusedSimpArgs false
namespace Go.Proofs.YtpinlhakpnjmgaaDoor.K
open Go.RowKit Go.Proofs.YtpinlhakpnjmgaaDoorW.PrintWords Go.Proofs.YtpinlhakpnjmgaaDoorW.PrintLast Go.Proofs.YtpinlhakpnjmgaaDoorW.PrintMore
theorem l1Num_dig (k : Nat) (d : Int) (h0 : 0 ≤ d) (h1 : d < 10) : spec_l1Num.f (k + 1) d = some (strOfNums [48 + d]) := by
  unfold spec_l1Num.f
  rw [if_pos h1, w64 (by omega) (by omega), Int.emod_eq_of_lt (by omega) (by omega)]
end Go.Proofs.YtpinlhakpnjmgaaDoor.K
