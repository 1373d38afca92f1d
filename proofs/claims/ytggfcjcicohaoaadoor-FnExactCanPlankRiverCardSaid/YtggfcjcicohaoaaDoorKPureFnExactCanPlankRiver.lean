/- The plain law of FnExactCanPlankRiver; no conditions. -/
import Derived.Test.YtggfcjcicohaoaaDoorKx2
import Derived.Test.YtggfcjcicohaoaaDoorKx1
import Derived.Test.YtggfcjcicohaoaaDoorKRGaps
import Derived.Test.YtggfcjcicohaoaaDoorKCover
import Derived.Test.YtggfcjcicohaoaaDoorKx12
set_option linter.unusedVariables false
set_option linter.unusedSimpArgs false
namespace Go.Proofs.YtggfcjcicohaoaaDoor.K
open Go.RowKit Go.Proofs.YtggfcjcicohaoaaDoorW.PrintWords Go.Proofs.YtggfcjcicohaoaaDoorW.PrintLast Go.Proofs.YtggfcjcicohaoaaDoorW.PrintMore
theorem gapsL_mem (leap hi : Int) : ∀ (l : List Int) (p x : Int), x ∈ gapsL leap p l → 0 ≤ p → (∀ q ∈ l, 0 ≤ q ∧ q ≤ hi) → leap < x ∧ x ≤ hi
  | [], _, _, h, _, _ => by simp [gapsL] at h
  | q :: r, p, x, h, hp, hb => by
    have hq := hb q (by simp)
    have hr := gapsL_mem leap hi r q x
    simp only [gapsL] at h
    split at h
    · rcases List.mem_cons.1 h with rfl | h
      · omega
      · exact hr h hq.1 (fun z hz => hb z (by simp [hz]))
    · exact hr h hq.1 (fun z hz => hb z (by simp [hz]))
/-- The river's gaps. -/
def rgaps (t : ByteArray) (leap : Int) : List Int := gapsL leap 0 (stones t t.size 0 ++ [(t.size : Int) + 1])
theorem rgaps_good (t : ByteArray) (leap : Int) (ht : t.size ≤ 40) (hl : 1 ≤ leap) (h0 : (rgaps t leap).length ≠ 0) (h7 : (rgaps t leap).length ≤ 7) : goodP (rgaps t leap) = true := by
  unfold goodP
  rw [decide_eq_true (by omega), Bool.true_and, List.all_eq_true]
  intro x hx
  have := gapsL_mem leap 41 _ 0 x hx (Int.le_refl _) (fun q hq => by
    have := (stands_mem t q).1 (by unfold stands; exact List.mem_cons_of_mem _ hq)
    omega)
  unfold good1
  exact decide_eq_true (by omega)
theorem FnExactCanPlankRiver_both (a0 : ByteArray) (a1 : Int) (l2 : List Int) (a3 : Int) (h2 : l2.length ≤ 1048576) : ∃ (v : Bool × Bool) (B : Nat), (∀ k, B ≤ k → spec_CanPlankRiver.f k a0 a1 l2 a3 = some v) ∧ ∀ k, B ≤ k → impl_CanPlankRiver.f k a0 a1 l2 a3 = some v := by
  by_cases g : (riv a0 && decide (1 ≤ a1 ∧ a1 ≤ 50)) = true
  · have g' := g
    simp only [Bool.and_eq_true, decide_eq_true_eq] at g'
    have hz := riv_size g'.1
    have himpl : ∀ k, 100 ≤ k → impl_GapsOfRiver.f k a0 a1 = some (rgaps a0 a1, true) := fun k hk => by
      unfold impl_GapsOfRiver.f
      rw [isCrossed_eq a0 a1, Option.bind_some, if_pos g, gapsOf_eq a0 (by omega) a1 k (by omega), Option.bind_some]
      rfl
    have hspec : ∀ k, 100 ≤ k → spec_plGaps.f k a0 a1 = some (rgaps a0 a1) := fun k hk => plGaps_eq a0 (by omega) a1 k (by omega)
    by_cases gp : goodP l2 = true
    · by_cases gr : 0 ≤ a3 ∧ a3 ≤ 10
      · by_cases c : ((rgaps a0 a1).length : Int) > 7
        · refine ⟨(false, false), 200, fun k hk => ?_, fun k hk => ?_⟩
          · unfold spec_CanPlankRiver.f
            rw [rvAsked_eq a0 a1 k (by omega), Option.bind_some, if_pos g, plGood_eq l2 (by omega) k (by omega), Option.bind_some, if_pos gp, (good_rest a3).2, Option.bind_some, decide_eq_true gr]
            obtain ⟨k, rfl⟩ : ∃ k', k = k' + 1 := ⟨k - 1, by omega⟩
            simp only [spec_CanPlankRiver.j0]
            rw [if_neg (by decide), hspec k (by omega), Option.bind_some, if_pos c]
          · unfold impl_CanPlankRiver.f
            obtain ⟨k, rfl⟩ : ∃ k', k = k' + 1 := ⟨k - 1, by omega⟩
            rw [himpl (k + 1) (by omega), Option.bind_some, if_pos rfl, if_pos c]
            simp only [impl_CanPlankRiver.j0]
            rw [if_pos trivial]
        · obtain ⟨B, hB⟩ := plMost_ev (rgaps a0 a1) l2 a3 (by omega) (goodP_use gp).2.1
          refine ⟨(((most (rgaps a0 a1) l2 a3 : Nat) : Int) == ((rgaps a0 a1).length : Int), true), B + 200, fun k hk => ?_, fun k hk => ?_⟩
          · unfold spec_CanPlankRiver.f
            rw [rvAsked_eq a0 a1 k (by omega), Option.bind_some, if_pos g, plGood_eq l2 (by omega) k (by omega), Option.bind_some, if_pos gp, (good_rest a3).2, Option.bind_some, decide_eq_true gr]
            obtain ⟨k, rfl⟩ : ∃ k', k = k' + 1 := ⟨k - 1, by omega⟩
            simp only [spec_CanPlankRiver.j0]
            rw [if_neg (by decide), hspec k (by omega), Option.bind_some, if_neg c, hB k (by omega), Option.bind_some]
          · unfold impl_CanPlankRiver.f
            obtain ⟨k, rfl⟩ : ∃ k', k = k' + 1 := ⟨k - 1, by omega⟩
            rw [himpl (k + 1) (by omega), Option.bind_some, if_pos rfl, if_neg c, ArePlanks_eq, Option.bind_some, if_pos gp, (good_rest a3).1, Option.bind_some, decide_eq_true gr]
            simp only [impl_CanPlankRiver.j0]
            rw [if_neg (by decide)]
            by_cases e : ((rgaps a0 a1).length : Int) = 0
            · rw [if_pos e]
              have hl := greedy_le a3 (sortU l2) (sortU (rgaps a0 a1))
              rw [sortU_length] at hl
              have : most (rgaps a0 a1) l2 a3 = 0 := by unfold most; omega
              rw [this, e]
              rfl
            · rw [if_neg e]
              have ga : asked (rgaps a0 a1) l2 a3 = true := by
                unfold asked
                rw [rgaps_good a0 a1 (by omega) g'.2.1 (by omega) (by omega), gp, decide_eq_true gr]
                rfl
              unfold impl_CanCoverAll.f
              rw [impl_most _ l2 a3 ga k (by omega), Option.bind_some, if_pos rfl, Option.bind_some]
      · refine ⟨(false, false), 200, fun k hk => ?_, fun k hk => ?_⟩
        · unfold spec_CanPlankRiver.f
          rw [rvAsked_eq a0 a1 k (by omega), Option.bind_some, if_pos g, plGood_eq l2 (by omega) k (by omega), Option.bind_some, if_pos gp, (good_rest a3).2, Option.bind_some, decide_eq_false gr]
          obtain ⟨k, rfl⟩ : ∃ k', k = k' + 1 := ⟨k - 1, by omega⟩
          simp only [spec_CanPlankRiver.j0]
          rw [if_pos (by decide)]
        · unfold impl_CanPlankRiver.f
          obtain ⟨k, rfl⟩ : ∃ k', k = k' + 1 := ⟨k - 1, by omega⟩
          rw [himpl (k + 1) (by omega), Option.bind_some, if_pos rfl, ArePlanks_eq, Option.bind_some, if_pos gp, (good_rest a3).1, Option.bind_some, decide_eq_false gr]
          simp only [impl_CanPlankRiver.j0]
          split <;> rfl
    · refine ⟨(false, false), 200, fun k hk => ?_, fun k hk => ?_⟩
      · unfold spec_CanPlankRiver.f
        rw [rvAsked_eq a0 a1 k (by omega), Option.bind_some, if_pos g, plGood_eq l2 (by omega) k (by omega), Option.bind_some, if_neg gp]
        obtain ⟨k, rfl⟩ : ∃ k', k = k' + 1 := ⟨k - 1, by omega⟩
        simp only [spec_CanPlankRiver.j0]
        rw [if_pos trivial]
      · unfold impl_CanPlankRiver.f
        obtain ⟨k, rfl⟩ : ∃ k', k = k' + 1 := ⟨k - 1, by omega⟩
        rw [himpl (k + 1) (by omega), Option.bind_some, if_pos rfl, ArePlanks_eq, Option.bind_some, if_neg gp]
        simp only [impl_CanPlankRiver.j0]
        split <;> rfl
  · refine ⟨(false, false), 200, fun k hk => ?_, fun k hk => ?_⟩
    · unfold spec_CanPlankRiver.f
      rw [rvAsked_eq a0 a1 k (by omega), Option.bind_some, if_neg g]
      obtain ⟨k, rfl⟩ : ∃ k', k = k' + 1 := ⟨k - 1, by omega⟩
      simp only [spec_CanPlankRiver.j0]
      rw [if_pos trivial]
    · unfold impl_CanPlankRiver.f impl_GapsOfRiver.f
      rw [isCrossed_eq a0 a1, Option.bind_some, if_neg g, Option.bind_some, if_neg (by decide)]
      obtain ⟨k, rfl⟩ : ∃ k', k = k' + 1 := ⟨k - 1, by omega⟩
      simp only [impl_CanPlankRiver.j0]
      rw [if_pos trivial]
theorem FnExactCanPlankRiver_pure (a0 : ByteArray) (a1 : Int) (l2 : List Int) (a3 : Int) (w0 : a0.size ≤ 140737488351232) (w1 : (Lit.int .i64 a1).wf = true) (hm2 : l2.length ≤ 9223372036854775807) (y2 : l2.length * 8 ≤ 140737488351232) (hw2 : ∀ n ∈ l2, (Lit.int .i64 n).wf = true) (w3 : (Lit.int .i64 a3).wf = true) : ∃ k, laws_FnExactCanPlankRiver.f k a0 a1 l2 a3 = some true := by
  by_cases h' : (a0.size : Int) > 1048576
  · refine ⟨1, ?_⟩
    unfold laws_FnExactCanPlankRiver.f
    rw [if_pos h']
  · by_cases h'' : (l2.length : Int) > 1048576
    · refine ⟨1, ?_⟩
      unfold laws_FnExactCanPlankRiver.f
      rw [if_neg h', if_pos h'']
    · obtain ⟨v, B, hs, hi⟩ := FnExactCanPlankRiver_both a0 a1 l2 a3 (by omega)
      obtain ⟨m, hmm⟩ : ∃ m, m = l2.length + B + 200 := ⟨_, rfl⟩
      refine ⟨m + 1, ?_⟩
      unfold laws_FnExactCanPlankRiver.f
      rw [if_neg h', if_neg h'', toIntS_eq l2 (by omega) _ (by omega), Option.bind_some, hs _ (by omega), Option.bind_some, Option.bind_some, hi _ (by omega), Option.bind_some, show (v.1 != v.1) = false from by simp, if_neg (by decide), show (v.2 != v.2) = false from by simp]
      simp only [laws_FnExactCanPlankRiver.j0]
      rw [if_neg (by decide), toIntS_eq l2 (by omega) m (by omega), Option.bind_some, eqIntS_eq l2 (by omega) m (by omega), Option.bind_some, if_pos rfl]
end Go.Proofs.YtggfcjcicohaoaaDoor.K
