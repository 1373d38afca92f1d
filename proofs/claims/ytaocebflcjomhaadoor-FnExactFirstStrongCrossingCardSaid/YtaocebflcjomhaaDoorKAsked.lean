/- Plain facts on the printed functions that the laws on strong rivers use (what is asked); no conditions. -/
import Derived.Test.YtaocebflcjomhaaDoorKx1
import Derived.Test.YtaocebflcjomhaaDoorKBase
set_option linter.unusedVariables false
set_option linter.unusedSimpArgs false
namespace Go.Proofs.YtaocebflcjomhaaDoor.K
open Go.RowKit Go.Proofs.YtaocebflcjomhaaDoorW.PrintWords Go.Proofs.YtaocebflcjomhaaDoorW.PrintLast Go.Proofs.YtaocebflcjomhaaDoorW.PrintMore
theorem asked_eq (s : ByteArray) (leap : Int) (k : Nat) (hk : 22 ≤ k) : spec_siAsked.f k s leap = some (good s && decide (1 ≤ leap ∧ leap ≤ 21)) := by
  unfold spec_siAsked.f
  rw [siGood_eq s k hk, Option.bind_some]
  by_cases hg : good s = true
  · rw [if_pos hg, hg, l1In_eq, Option.bind_some, Bool.true_and]
  · rw [if_neg hg, Bool.eq_false_iff.2 hg, Bool.false_and]
theorem isSunk_eq (s : ByteArray) (leap : Int) : impl_isSunk.f s leap = some (good s && decide (1 ≤ leap ∧ leap ≤ 21)) := by
  unfold impl_isSunk.f
  rw [IsStrong_eq s, Option.bind_some]
  by_cases hg : good s = true
  · rw [if_pos hg, hg, within_eq, Option.bind_some, Bool.true_and]
  · rw [if_neg hg, Bool.eq_false_iff.2 hg, Bool.false_and]
end Go.Proofs.YtaocebflcjomhaaDoor.K
