/- Plain facts on the printed functions that the laws on strong rivers use (whether a group can cross); no conditions. -/
import Derived.Test.YtpenadhifdpfhaaDoorKx1
import Derived.Test.YtpenadhifdpfhaaDoorKNarrow
set_option linter.unusedVariables false
set_option linter.unusedSimpArgs false
namespace Go.Proofs.YtpenadhifdpfhaaDoor.K
open Go.RowKit Go.Proofs.YtpenadhifdpfhaaDoorW.PrintWords Go.Proofs.YtpenadhifdpfhaaDoorW.PrintLast Go.Proofs.YtpenadhifdpfhaaDoorW.PrintMore
def can (s : ByteArray) (leap group : Int) : Bool := if leap > (s.size : Int) then true else decide ((narrow s leap).1 ≥ group)
theorem siCan_eq (s : ByteArray) (hs : s.size ≤ 20) (leap group : Int) (h : 0 ≤ leap) (k : Nat) (hk : 50 ≤ k) : spec_siCan.f k s leap group = some (can s leap group) := by
  unfold spec_siCan.f can
  by_cases c : leap > (s.size : Int)
  · rw [if_pos c, if_pos c]
  · rw [if_neg c, if_neg c, siNarrow_eq s hs leap (by omega) k hk, Option.bind_some]
theorem crosses_eq (s : ByteArray) (hs : s.size ≤ 20) (leap group : Int) (h : 0 ≤ leap) (k : Nat) (hk : 50 ≤ k) : impl_groupCrosses.f k s leap group = some (can s leap group) := by
  unfold impl_groupCrosses.f can
  by_cases c : leap > (s.size : Int)
  · rw [if_pos c, if_pos c]
  · rw [if_neg c, if_neg c, narrowest_eq s hs leap (by omega) k hk, Option.bind_some]
theorem siGroup_eq (g : Int) : spec_siGroup.f g = some (decide (1 ≤ g ∧ g ≤ 100)) := by
  unfold spec_siGroup.f
  rw [l1In_eq, Option.bind_some]
end Go.Proofs.YtpenadhifdpfhaaDoor.K
