/- The plain law of FnExactBehindCrossing; no conditions. -/
import Derived.Test.YtpinlhakpnjmgaaDoorKBehind
import Derived.Test.YtpinlhakpnjmgaaDoorKNarrow
import Derived.Test.YtpinlhakpnjmgaaDoorKLists
import Derived.Test.YtpinlhakpnjmgaaDoorKx17
set_option linter.unusedVariables false
set_option linter.unusedSimpArgs false
namespace Go.Proofs.YtpinlhakpnjmgaaDoor.K
open Go.RowKit Go.Proofs.YtpinlhakpnjmgaaDoorW.PrintWords Go.Proofs.YtpinlhakpnjmgaaDoorW.PrintLast Go.Proofs.YtpinlhakpnjmgaaDoorW.PrintMore
theorem FnExactBehindCrossing_pure (a0 : ByteArray) (a1 : Int) (l2 : List Int) (w0 : a0.size ≤ 140737488351232) (w1 : (Lit.int .i64 a1).wf = true) (hm : l2.length ≤ 9223372036854775807) (y : l2.length * 8 ≤ 140737488351232) (hw : ∀ n ∈ l2, (Lit.int .i64 n).wf = true) : ∃ k, laws_FnExactBehindCrossing.f k a0 a1 l2 = some true := by
  obtain ⟨m, hm⟩ : ∃ m, m = l2.length + 100 := ⟨_, rfl⟩
  refine ⟨m + 1 + 1 + 1, ?_⟩
  unfold laws_FnExactBehindCrossing.f
  by_cases h : (a0.size : Int) > 1048576
  · rw [if_pos h]
  · rw [if_neg h]
    by_cases h' : (l2.length : Int) > 1048576
    · rw [if_pos h']
    · rw [if_neg h']
      have hv : ∃ v, spec_BehindCrossing.f (m + 1 + 1 + 1) a0 a1 l2 = some v ∧ impl_BehindCrossing.f (m + 1 + 1 + 1) a0 a1 l2 = some v := by
        unfold spec_BehindCrossing.f impl_BehindCrossing.f impl_BehindAll.f
        rw [asked_eq a0 a1 (m + 1 + 1 + 1) (by omega), isSunk_eq a0 a1, Option.bind_some, Option.bind_some]
        by_cases g : (good a0 && decide (1 ≤ a1 ∧ a1 ≤ 21)) = true
        · have g' := g
          simp only [Bool.and_eq_true] at g'
          have hz := good_size g'.1
          rw [if_pos g, if_pos g]
          rw [show decide ((([l2] : List (List Int)).length : Int) > 100) = false from rfl]
          simp only [impl_BehindAll.j0, impl_BehindAll.l0]
          rw [if_neg (by decide), if_pos (by simp), if_pos (by decide), if_pos (by simp)]
          rw [show rd_L2 [l2] 0 = l2 from rfl]
          obtain ⟨b, h1, _, h3⟩ := same_cross a0 (by omega) a1 l2 (by omega) (m + 1 + 1 + 1) (by omega)
          obtain ⟨b', h1', h2, h3'⟩ := same_cross a0 (by omega) a1 l2 (by omega) (m + 1) (by omega)
          have eb : b' = b := by rw [Bool.eq_iff_iff, h3, h3']
          subst eb
          rw [h1, h2, Option.bind_some, Option.bind_some]
          cases b' with
          | true =>
            obtain ⟨s', e1, e2, _⟩ := behind_both a0 g'.1 a1 l2 (by omega) (h3.1 rfl) (m + 1 + 1 + 1) (by omega)
            rw [if_pos rfl, if_pos rfl, e1, e2, Option.bind_some, Option.bind_some, show wrap64 (0 + 1) = 1 from w64 (x := 0 + 1) (by omega) (by omega)]
            rw [if_neg (by simp)]
            exact ⟨_, rfl, rfl⟩
          | false =>
            rw [if_neg (by decide), if_neg (by decide)]
            exact ⟨_, rfl, rfl⟩
        · rw [if_neg g, if_neg g]
          simp only [impl_BehindAll.j0]
          rw [if_pos trivial]
          exact ⟨_, rfl, rfl⟩
      obtain ⟨v, h1, h2⟩ := hv
      rw [toIntS_eq l2 (by omega) (m + 1 + 1 + 1) (by omega), Option.bind_some, h1, Option.bind_some, Option.bind_some, h2, Option.bind_some, if_pos rfl, show (v.2 != v.2) = false from by simp]
      simp only [laws_FnExactBehindCrossing.j0]
      rw [if_neg (by decide), toIntS_eq l2 (by omega) (m + 1 + 1) (by omega), Option.bind_some, eqIntS_eq l2 (by omega) (m + 1 + 1) (by omega), Option.bind_some, if_pos rfl]
end Go.Proofs.YtpinlhakpnjmgaaDoor.K
