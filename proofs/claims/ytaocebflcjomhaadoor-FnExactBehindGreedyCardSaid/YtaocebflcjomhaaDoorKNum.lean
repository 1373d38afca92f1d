/- Plain facts on the printed functions that the laws on strong rivers use (digits as texts); no conditions. -/
import Derived.Test.YtaocebflcjomhaaDoorKx2
import Derived.Test.YtaocebflcjomhaaDoorKBase
set_option linter.unusedVariables false
set_option linter.unusedSimpArgs false
namespace Go.Proofs.YtaocebflcjomhaaDoor.K
open Go.RowKit Go.Proofs.YtaocebflcjomhaaDoorW.PrintWords Go.Proofs.YtaocebflcjomhaaDoorW.PrintLast Go.Proofs.YtaocebflcjomhaaDoorW.PrintMore
theorem l1Num_dig (k : Nat) (d : Int) (h0 : 0 ≤ d) (h1 : d < 10) : spec_l1Num.f (k + 1) d = some (strOfNums [48 + d]) := by
  unfold spec_l1Num.f
  rw [if_pos h1, w64 (by omega) (by omega), Int.emod_eq_of_lt (by omega) (by omega)]
end Go.Proofs.YtaocebflcjomhaaDoor.K
