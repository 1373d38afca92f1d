/- The plain law of FnExactFirstStrongCrossing; no conditions. -/
import Derived.Test.YtaocebflcjomhaaDoorKWalked
import Derived.Test.YtaocebflcjomhaaDoorKAsked
import Derived.Test.YtaocebflcjomhaaDoorKRMarks
import Derived.Test.YtaocebflcjomhaaDoorKx9
set_option linter.unusedVariables false
set_option linter.unusedSimpArgs false
namespace Go.Proofs.YtaocebflcjomhaaDoor.K
open Go.RowKit Go.Proofs.YtaocebflcjomhaaDoorW.PrintWords Go.Proofs.YtaocebflcjomhaaDoorW.PrintLast Go.Proofs.YtaocebflcjomhaaDoorW.PrintMore
theorem FnExactFirstStrongCrossing_pure (a0 : ByteArray) (a1 : Int) (w0 : a0.size ≤ 140737488351232) (w1 : (Lit.int .i64 a1).wf = true) : ∃ k, laws_FnExactFirstStrongCrossing.f k a0 a1 = some true := by
  have hv : ∃ v : List Int × Bool, v.1.length ≤ 100 ∧ ∀ k, 3000 ≤ k → spec_FirstStrongCrossing.f k a0 a1 = some v ∧ impl_FirstStrongCrossing.f k a0 a1 = some v := by
    by_cases g : (good a0 && decide (1 ≤ a1 ∧ a1 ≤ 21)) = true
    · have g' := g
      simp only [Bool.and_eq_true, decide_eq_true_eq] at g'
      obtain ⟨hg, ha⟩ := g'
      obtain ⟨L, rfl⟩ : ∃ L : Nat, a1 = (L : Int) := ⟨a1.toNat, by omega⟩
      obtain ⟨v, hl, hk, _⟩ := first_eq a0 hg L (by omega) (by omega)
      refine ⟨v, by omega, fun k hk' => ?_⟩
      obtain ⟨e1, e2⟩ := hk k hk'
      constructor
      · unfold spec_FirstStrongCrossing.f
        rw [asked_eq a0 _ k (by omega), Option.bind_some, if_pos g, e1, Option.bind_some]
      · unfold impl_FirstStrongCrossing.f
        rw [isSunk_eq a0, Option.bind_some, if_pos g, plain_river a0 (by have := good_size hg; omega), Option.bind_some, e2, Option.bind_some]
    · refine ⟨([], false), by simp, fun k hk => ⟨?_, ?_⟩⟩
      · unfold spec_FirstStrongCrossing.f
        rw [asked_eq a0 a1 k (by omega), Option.bind_some, if_neg g]
      · unfold impl_FirstStrongCrossing.f
        rw [isSunk_eq a0, Option.bind_some, if_neg g]
  obtain ⟨v, hl, hk⟩ := hv
  obtain ⟨K, hK⟩ := markIntS_ev v.1 (by omega)
  obtain ⟨m, hm⟩ : ∃ m, m = K + 4000 := ⟨_, rfl⟩
  refine ⟨m + 1 + 1 + 1, ?_⟩
  unfold laws_FnExactFirstStrongCrossing.f
  by_cases h : (a0.size : Int) > 1048576
  · rw [if_pos h]
  · rw [if_neg h]
    have e := hk (m + 1 + 1 + 1) (by omega)
    have e2 := hk (m + 1 + 1) (by omega)
    have f := hK (m + 1 + 1) (by omega)
    have f2 := hK (m + 1) (by omega)
    rw [e.1, Option.bind_some, e.2, Option.bind_some, eqIntS_eq v.1 (by omega) (m + 1 + 1 + 1) (by omega), Option.bind_some, if_pos rfl, show (v.2 != v.2) = false from by simp]
    simp only [laws_FnExactFirstStrongCrossing.j0, laws_FnExactFirstStrongCrossing.j1]
    rw [if_neg (by decide), f.1, Option.bind_some, f.2, Option.bind_some, if_neg (by omega), if_pos rfl, e2.2, Option.bind_some, eqIntS_eq v.1 (by omega) (m + 1 + 1) (by omega), Option.bind_some, if_pos rfl, show (v.2 != v.2) = false from by simp, if_neg (by decide), f2.2, Option.bind_some, if_neg (by omega), if_pos rfl]
end Go.Proofs.YtaocebflcjomhaaDoor.K
