/- The plain law of FnExactWidestGap; no conditions. -/
import Derived.Test.YtchchfgfjfeanaaPSort
import Derived.Test.YtchchfgfjfeanaaPx11
set_option linter.unusedVariables false
set_option linter.unusedSimpArgs false
namespace Go.Proofs.Ytchchfgfjfeanaa.P
open Go.RowKit Go.Proofs.YtchchfgfjfeanaaW.PrintWords Go.Proofs.YtchchfgfjfeanaaW.PrintLast Go.Proofs.YtchchfgfjfeanaaW.PrintMore
theorem gap_both (l : List Int) (g : goodP l = true) (a b : Int) (ha : 1 ≤ a ∧ a ≤ 7) (hb : 0 ≤ b ∧ b ≤ 10) : ∃ (v : Int × Bool) (B : Nat), (∀ k, B ≤ k → spec_WidestGap.j0 k l a b false = some v) ∧ ∀ k, B ≤ k → impl_WidestGap.j0 k l a b false = some v := by
  obtain ⟨g1, g2, g3⟩ := goodP_use g
  obtain ⟨B, hB⟩ := plSorted_ev l (by omega)
  have hl := sortU_length l
  by_cases c : a > (l.length : Int)
  · refine ⟨(0, true), B + 1, fun k hk => ?_, fun k hk => ?_⟩
    · obtain ⟨k, rfl⟩ : ∃ k', k = k' + 1 := ⟨k - 1, by omega⟩
      simp only [spec_WidestGap.j0]
      rw [if_neg (by decide), hB k (by omega), Option.bind_some, if_pos (by omega)]
    · obtain ⟨k, rfl⟩ : ∃ k', k = k' + 1 := ⟨k - 1, by omega⟩
      simp only [impl_WidestGap.j0]
      rw [if_neg (by decide), if_pos c]
  · obtain ⟨m, rfl⟩ : ∃ m : Nat, a = (m : Int) + 1 := ⟨(a - 1).toNat, by omega⟩
    have e1 : rd (sortU l).reverse (m : Int) = rd (sortU l) ((l.length - 1 - m : Nat) : Int) := by
      rw [rd_get _ m (by simp; omega), rd_get _ _ (by omega), List.getElem_reverse]
      congr 1
      omega
    obtain ⟨x, hx⟩ : ∃ x, x = wrap64 (rd (sortU l) ((l.length - 1 - m : Nat) : Int) - wrap64 (2 * b)) := ⟨_, rfl⟩
    refine ⟨(if 0 > x then 0 else x, true), B + 1, fun k hk => ?_, fun k hk => ?_⟩
    · obtain ⟨k, rfl⟩ : ∃ k', k = k' + 1 := ⟨k - 1, by omega⟩
      simp only [spec_WidestGap.j0]
      rw [if_neg (by decide), hB k (by omega), Option.bind_some, if_neg (by omega), show wrap64 (((sortU l).length : Int) - ((m : Int) + 1)) = ((l.length - 1 - m : Nat) : Int) from by unfold wrap64; omega, if_pos (by omega), if_pos (by omega), ← hx]
      unfold spec_l1Most.f
      by_cases d : 0 > x
      · rw [if_pos d, if_pos d, Option.bind_some]
      · rw [if_neg d, if_neg d, Option.bind_some]
    · obtain ⟨k, rfl⟩ : ∃ k', k = k' + 1 := ⟨k - 1, by omega⟩
      simp only [impl_WidestGap.j0]
      rw [if_neg (by decide), if_neg c, sorted_eq l g1 g2, Option.bind_some, show wrap64 ((m : Int) + 1 - 1) = (m : Int) from by unfold wrap64; omega, if_pos (by omega), if_pos (by simp; omega), e1, ← hx]
      congr 2
      unfold mx
      split <;> split <;> omega
theorem FnExactWidestGap_pure (l0 : List Int) (a1 a2 : Int) (hm : l0.length ≤ 9223372036854775807) (y : l0.length * 8 ≤ 140737488351232) (hw : ∀ n ∈ l0, (Lit.int .i64 n).wf = true) (w1 : (Lit.int .i64 a1).wf = true) (w2 : (Lit.int .i64 a2).wf = true) : ∃ k, laws_FnExactWidestGap.f k l0 a1 a2 = some true := by
  by_cases h' : (l0.length : Int) > 1048576
  · refine ⟨1, ?_⟩
    unfold laws_FnExactWidestGap.f
    rw [if_pos h']
  · have hv : ∃ (v : Int × Bool) (B : Nat), (∀ k, B ≤ k → spec_WidestGap.f k l0 a1 a2 = some v) ∧ ∀ k, B ≤ k → impl_WidestGap.f k l0 a1 a2 = some v := by
      have hno : ∃ B : Nat, (∀ k, B ≤ k → spec_WidestGap.j0 k l0 a1 a2 true = some (0, false)) ∧ ∀ k, B ≤ k → impl_WidestGap.j0 k l0 a1 a2 true = some (0, false) := by
        refine ⟨1, fun k hk => ?_, fun k hk => ?_⟩
        · obtain ⟨k, rfl⟩ : ∃ k', k = k' + 1 := ⟨k - 1, by omega⟩
          simp only [spec_WidestGap.j0]
          rw [if_pos trivial]
        · obtain ⟨k, rfl⟩ : ∃ k', k = k' + 1 := ⟨k - 1, by omega⟩
          simp only [impl_WidestGap.j0]
          rw [if_pos trivial]
      obtain ⟨B0, n1, n2⟩ := hno
      by_cases g : goodP l0 = true
      · by_cases ga : 1 ≤ a1 ∧ a1 ≤ 7
        · by_cases gb : 0 ≤ a2 ∧ a2 ≤ 10
          · obtain ⟨v, B, h1, h2⟩ := gap_both l0 g a1 a2 ga gb
            refine ⟨v, B + 100, fun k hk => ?_, fun k hk => ?_⟩
            · unfold spec_WidestGap.f spec_plRest.f
              rw [plGood_eq l0 (by omega) k (by omega), Option.bind_some, if_pos g, l1In_eq, Option.bind_some, if_pos (decide_eq_true ga), l1In_eq, Option.bind_some, Option.bind_some, decide_eq_true gb]
              exact h1 k (by omega)
            · unfold impl_WidestGap.f impl_isRest.f
              rw [ArePlanks_eq l0, Option.bind_some, if_pos g, within_eq, Option.bind_some, if_pos (decide_eq_true ga), within_eq, Option.bind_some, Option.bind_some, decide_eq_true gb]
              exact h2 k (by omega)
          · refine ⟨(0, false), B0 + 100, fun k hk => ?_, fun k hk => ?_⟩
            · unfold spec_WidestGap.f spec_plRest.f
              rw [plGood_eq l0 (by omega) k (by omega), Option.bind_some, if_pos g, l1In_eq, Option.bind_some, if_pos (decide_eq_true ga), l1In_eq, Option.bind_some, Option.bind_some, decide_eq_false gb]
              exact n1 k (by omega)
            · unfold impl_WidestGap.f impl_isRest.f
              rw [ArePlanks_eq l0, Option.bind_some, if_pos g, within_eq, Option.bind_some, if_pos (decide_eq_true ga), within_eq, Option.bind_some, Option.bind_some, decide_eq_false gb]
              exact n2 k (by omega)
        · refine ⟨(0, false), B0 + 100, fun k hk => ?_, fun k hk => ?_⟩
          · unfold spec_WidestGap.f
            rw [plGood_eq l0 (by omega) k (by omega), Option.bind_some, if_pos g, l1In_eq, Option.bind_some, if_neg (by simp only [decide_eq_true_eq]; exact ga)]
            exact n1 k (by omega)
          · unfold impl_WidestGap.f
            rw [ArePlanks_eq l0, Option.bind_some, if_pos g, within_eq, Option.bind_some, if_neg (by simp only [decide_eq_true_eq]; exact ga)]
            exact n2 k (by omega)
      · refine ⟨(0, false), B0 + 100, fun k hk => ?_, fun k hk => ?_⟩
        · unfold spec_WidestGap.f
          rw [plGood_eq l0 (by omega) k (by omega), Option.bind_some, if_neg g]
          exact n1 k (by omega)
        · unfold impl_WidestGap.f
          rw [ArePlanks_eq l0, Option.bind_some, if_neg g]
          exact n2 k (by omega)
    obtain ⟨v, B, hs, hi⟩ := hv
    obtain ⟨m, hmm⟩ : ∃ m, m = l0.length + B + 200 := ⟨_, rfl⟩
    refine ⟨m + 1, ?_⟩
    unfold laws_FnExactWidestGap.f
    rw [if_neg h', toIntS_eq l0 (by omega) _ (by omega), Option.bind_some, hs _ (by omega), Option.bind_some, Option.bind_some, hi _ (by omega), Option.bind_some, if_pos rfl, show (v.2 != v.2) = false from by simp]
    simp only [laws_FnExactWidestGap.j0]
    rw [if_neg (by decide), toIntS_eq l0 (by omega) m (by omega), Option.bind_some, eqIntS_eq l0 (by omega) m (by omega), Option.bind_some, if_pos rfl]
end Go.Proofs.Ytchchfgfjfeanaa.P
