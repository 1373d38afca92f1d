/- Plain facts on the printed functions that the laws on strong rivers use (whether a group can cross); no conditions. -/
import Derived.Test.YtaocebflcjomhaaDoorKx3
import Derived.Test.YtaocebflcjomhaaDoorKNarrow
set_option linter.unusedVariables false
set_option linter.unusedSimpArgs false
namespace Go.Proofs.YtaocebflcjomhaaDoor.K
open Go.RowKit Go.Proofs.YtaocebflcjomhaaDoorW.PrintWords Go.Proofs.YtaocebflcjomhaaDoorW.PrintLast Go.Proofs.YtaocebflcjomhaaDoorW.PrintMore
def can (s : ByteArray) (leap group : Int) : Bool := if leap > (s.size : Int) then true else decide ((narrow s leap).1 ≥ group)
theorem siCan_eq (s : ByteArray) (hs : s.size ≤ 20) (leap group : Int) (h : 0 ≤ leap) (k : Nat) (hk : 50 ≤ k) : spec_siCan.f k s leap group = some (can s leap group) := by
  unfold spec_siCan.f can
  by_cases c : leap > (s.size : Int)
  · rw [if_pos c, if_pos c]
  · rw [if_neg c, if_neg c, siNarrow_eq s hs leap (by omega) k hk, Option.bind_some]
end Go.Proofs.YtaocebflcjomhaaDoor.K
