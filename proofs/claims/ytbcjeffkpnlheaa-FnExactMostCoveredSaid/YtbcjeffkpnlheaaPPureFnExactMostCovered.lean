/- The plain law of FnExactMostCovered; no conditions. -/
import Derived.Test.YtbcjeffkpnlheaaPx10
import Derived.Test.YtbcjeffkpnlheaaPCover
import Derived.Test.YtbcjeffkpnlheaaPx2
set_option linter.unusedVariables false
set_option linter.unusedSimpArgs false
namespace Go.Proofs.Ytbcjeffkpnlheaa.P
open Go.RowKit Go.Proofs.YtbcjeffkpnlheaaW.PrintWords Go.Proofs.YtbcjeffkpnlheaaW.PrintLast Go.Proofs.YtbcjeffkpnlheaaW.PrintMore
theorem FnExactMostCovered_both (l0 l1 : List Int) (a2 : Int) (h0 : l0.length ≤ 1048576) (h1 : l1.length ≤ 1048576) : ∃ (v : Int × Bool) (B : Nat), (∀ k, B ≤ k → spec_MostCovered.f k l0 l1 a2 = some v) ∧ ∀ k, B ≤ k → impl_MostCovered.f k l0 l1 a2 = some v := by
  by_cases g : asked l0 l1 a2 = true
  · obtain ⟨u1, u2, _⟩ := asked_use g
    obtain ⟨B, hB⟩ := plMost_ev l0 l1 a2 (goodP_use u1).2.1 (goodP_use u2).2.1
    refine ⟨(((most l0 l1 a2 : Nat) : Int), true), B + 100, fun k hk => ?_, fun k hk => ?_⟩
    · unfold spec_MostCovered.f
      rw [plAsked_eq l0 l1 a2 (by omega) (by omega) k (by omega), Option.bind_some, if_pos g, hB k (by omega), Option.bind_some]
    · exact impl_most l0 l1 a2 g k (by omega)
  · refine ⟨(0, false), 100, fun k hk => ?_, fun k hk => ?_⟩
    · unfold spec_MostCovered.f
      rw [plAsked_eq l0 l1 a2 (by omega) (by omega) k (by omega), Option.bind_some, if_neg g]
    · exact impl_most_no l0 l1 a2 (Bool.eq_false_iff.2 g) k
theorem FnExactMostCovered_pure (l0 l1 : List Int) (a2 : Int) (hm0 : l0.length ≤ 9223372036854775807) (y0 : l0.length * 8 ≤ 140737488351232) (hw0 : ∀ n ∈ l0, (Lit.int .i64 n).wf = true) (hm1 : l1.length ≤ 9223372036854775807) (y1 : l1.length * 8 ≤ 140737488351232) (hw1 : ∀ n ∈ l1, (Lit.int .i64 n).wf = true) (w2 : (Lit.int .i64 a2).wf = true) : ∃ k, laws_FnExactMostCovered.f k l0 l1 a2 = some true := by
  by_cases h' : (l0.length : Int) > 1048576
  · refine ⟨1, ?_⟩
    unfold laws_FnExactMostCovered.f
    rw [if_pos h']
  · by_cases h'' : (l1.length : Int) > 1048576
    · refine ⟨1, ?_⟩
      unfold laws_FnExactMostCovered.f
      rw [if_neg h', if_pos h'']
    · obtain ⟨v, B, hs, hi⟩ := FnExactMostCovered_both l0 l1 a2 (by omega) (by omega)
      obtain ⟨m, hmm⟩ : ∃ m, m = l0.length + l1.length + B + 200 := ⟨_, rfl⟩
      refine ⟨m + 1, ?_⟩
      unfold laws_FnExactMostCovered.f
      rw [if_neg h', if_neg h'', toIntS_eq l0 (by omega) _ (by omega), Option.bind_some, toIntS_eq l1 (by omega) _ (by omega), Option.bind_some, hs _ (by omega), Option.bind_some, Option.bind_some, Option.bind_some, hi _ (by omega), Option.bind_some, if_pos rfl, show (v.2 != v.2) = false from by simp]
      simp only [laws_FnExactMostCovered.j0]
      rw [if_neg (by decide), toIntS_eq l0 (by omega) m (by omega), Option.bind_some, eqIntS_eq l0 (by omega) m (by omega), Option.bind_some, if_pos rfl, toIntS_eq l1 (by omega) m (by omega), Option.bind_some, eqIntS_eq l1 (by omega) m (by omega), Option.bind_some, if_pos rfl]
end Go.Proofs.Ytbcjeffkpnlheaa.P
