/- The plain law of FnExactIsCrossing; no conditions. -/
import Derived.Test.YtpinlhakpnjmgaaDoorKCross
import Derived.Test.YtpinlhakpnjmgaaDoorKNarrow
import Derived.Test.YtpinlhakpnjmgaaDoorKLists
import Derived.Test.YtpinlhakpnjmgaaDoorKx15
set_option linter.unusedVariables false
set_option linter.unusedSimpArgs false
namespace Go.Proofs.YtpinlhakpnjmgaaDoor.K
open Go.RowKit Go.Proofs.YtpinlhakpnjmgaaDoorW.PrintWords Go.Proofs.YtpinlhakpnjmgaaDoorW.PrintLast Go.Proofs.YtpinlhakpnjmgaaDoorW.PrintMore
theorem FnExactIsCrossing_pure (a0 : ByteArray) (a1 : Int) (l2 : List Int) (w0 : a0.size ≤ 140737488351232) (w1 : (Lit.int .i64 a1).wf = true) (hm : l2.length ≤ 9223372036854775807) (y : l2.length * 8 ≤ 140737488351232) (hw : ∀ n ∈ l2, (Lit.int .i64 n).wf = true) : ∃ k, laws_FnExactIsCrossing.f k a0 a1 l2 = some true := by
  obtain ⟨m, hm⟩ : ∃ m, m = l2.length + 100 := ⟨_, rfl⟩
  refine ⟨m + 1, ?_⟩
  unfold laws_FnExactIsCrossing.f
  by_cases h : (a0.size : Int) > 1048576
  · rw [if_pos h]
  · rw [if_neg h]
    by_cases h' : (l2.length : Int) > 1048576
    · rw [if_pos h']
    · rw [if_neg h']
      have hv : ∃ v, spec_IsCrossing.f (m + 1) a0 a1 l2 = some v ∧ impl_IsCrossing.f (m + 1) a0 a1 l2 = some v := by
        unfold spec_IsCrossing.f impl_IsCrossing.f
        rw [asked_eq a0 a1 (m + 1) (by omega), isSunk_eq a0 a1, Option.bind_some, Option.bind_some]
        by_cases g : (good a0 && decide (1 ≤ a1 ∧ a1 ≤ 21)) = true
        · have g' := g
          simp only [Bool.and_eq_true] at g'
          have hz := good_size g'.1
          rw [if_pos g, if_pos g]
          obtain ⟨b, h1, h2, _⟩ := same_cross a0 (by omega) a1 l2 (by omega) (m + 1) (by omega)
          rw [h1, h2]
          exact ⟨_, rfl, rfl⟩
        · rw [if_neg g, if_neg g]
          exact ⟨_, rfl, rfl⟩
      obtain ⟨v, h1, h2⟩ := hv
      rw [toIntS_eq l2 (by omega) (m + 1) (by omega), Option.bind_some, h1, Option.bind_some, Option.bind_some, h2, Option.bind_some, if_neg (by simp), show (v.2 != v.2) = false from by simp]
      simp only [laws_FnExactIsCrossing.j0]
      rw [if_neg (by decide), toIntS_eq l2 (by omega) m (by omega), Option.bind_some, eqIntS_eq l2 (by omega) m (by omega), Option.bind_some, if_pos rfl]
end Go.Proofs.YtpinlhakpnjmgaaDoor.K
