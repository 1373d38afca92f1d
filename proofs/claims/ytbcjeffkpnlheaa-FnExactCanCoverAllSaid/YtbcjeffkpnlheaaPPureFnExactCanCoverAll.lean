/- The plain law of FnExactCanCoverAll; no conditions. -/
import Derived.Test.YtbcjeffkpnlheaaPCover
import Derived.Test.YtbcjeffkpnlheaaPx11
set_option linter.unusedVariables false
set_option linter.unusedSimpArgs false
namespace Go.Proofs.Ytbcjeffkpnlheaa.P
open Go.RowKit Go.Proofs.YtbcjeffkpnlheaaW.PrintWords Go.Proofs.YtbcjeffkpnlheaaW.PrintLast Go.Proofs.YtbcjeffkpnlheaaW.PrintMore
theorem FnExactCanCoverAll_both (l0 l1 : List Int) (a2 : Int) (h0 : l0.length ≤ 1048576) (h1 : l1.length ≤ 1048576) : ∃ (v : Bool × Bool) (B : Nat), (∀ k, B ≤ k → spec_CanCoverAll.f k l0 l1 a2 = some v) ∧ ∀ k, B ≤ k → impl_CanCoverAll.f k l0 l1 a2 = some v := by
  by_cases g : asked l0 l1 a2 = true
  · obtain ⟨u1, u2, _⟩ := asked_use g
    obtain ⟨B, hB⟩ := plMost_ev l0 l1 a2 (goodP_use u1).2.1 (goodP_use u2).2.1
    refine ⟨((((most l0 l1 a2 : Nat) : Int) == (l0.length : Int)), true), B + 100, fun k hk => ?_, fun k hk => ?_⟩
    · unfold spec_CanCoverAll.f
      rw [plAsked_eq l0 l1 a2 (by omega) (by omega) k (by omega), Option.bind_some, if_pos g, hB k (by omega), Option.bind_some]
    · unfold impl_CanCoverAll.f
      rw [impl_most l0 l1 a2 g k (by omega), Option.bind_some, if_pos rfl]
  · refine ⟨(false, false), 100, fun k hk => ?_, fun k hk => ?_⟩
    · unfold spec_CanCoverAll.f
      rw [plAsked_eq l0 l1 a2 (by omega) (by omega) k (by omega), Option.bind_some, if_neg g]
    · unfold impl_CanCoverAll.f
      rw [impl_most_no l0 l1 a2 (Bool.eq_false_iff.2 g) k, Option.bind_some, if_neg (by decide)]
theorem FnExactCanCoverAll_pure (l0 l1 : List Int) (a2 : Int) (hm0 : l0.length ≤ 9223372036854775807) (y0 : l0.length * 8 ≤ 140737488351232) (hw0 : ∀ n ∈ l0, (Lit.int .i64 n).wf = true) (hm1 : l1.length ≤ 9223372036854775807) (y1 : l1.length * 8 ≤ 140737488351232) (hw1 : ∀ n ∈ l1, (Lit.int .i64 n).wf = true) (w2 : (Lit.int .i64 a2).wf = true) : ∃ k, laws_FnExactCanCoverAll.f k l0 l1 a2 = some true := by
  by_cases h' : (l0.length : Int) > 1048576
  · refine ⟨1, ?_⟩
    unfold laws_FnExactCanCoverAll.f
    rw [if_pos h']
  · by_cases h'' : (l1.length : Int) > 1048576
    · refine ⟨1, ?_⟩
      unfold laws_FnExactCanCoverAll.f
      rw [if_neg h', if_pos h'']
    · obtain ⟨v, B, hs, hi⟩ := FnExactCanCoverAll_both l0 l1 a2 (by omega) (by omega)
      obtain ⟨m, hmm⟩ : ∃ m, m = l0.length + l1.length + B + 200 := ⟨_, rfl⟩
      refine ⟨m + 1, ?_⟩
      unfold laws_FnExactCanCoverAll.f
      rw [if_neg h', if_neg h'', toIntS_eq l0 (by omega) _ (by omega), Option.bind_some, toIntS_eq l1 (by omega) _ (by omega), Option.bind_some, hs _ (by omega), Option.bind_some, Option.bind_some, Option.bind_some, hi _ (by omega), Option.bind_some, show (v.1 != v.1) = false from by simp, if_neg (by decide), show (v.2 != v.2) = false from by simp]
      simp only [laws_FnExactCanCoverAll.j0]
      rw [if_neg (by decide), toIntS_eq l0 (by omega) m (by omega), Option.bind_some, eqIntS_eq l0 (by omega) m (by omega), Option.bind_some, if_pos rfl, toIntS_eq l1 (by omega) m (by omega), Option.bind_some, eqIntS_eq l1 (by omega) m (by omega), Option.bind_some, if_pos rfl]
end Go.Proofs.Ytbcjeffkpnlheaa.P
