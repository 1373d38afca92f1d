/- The plain law of FnExactSortPlanks; no conditions. -/
import Derived.Test.YtchchfgfjfeanaaPSort
import Derived.Test.YtchchfgfjfeanaaPx2
set_option linter.unusedVariables false
set_option linter.unusedSimpArgs false
namespace Go.Proofs.Ytchchfgfjfeanaa.P
open Go.RowKit Go.Proofs.YtchchfgfjfeanaaW.PrintWords Go.Proofs.YtchchfgfjfeanaaW.PrintLast Go.Proofs.YtchchfgfjfeanaaW.PrintMore
theorem back_loop (s : List Int) (hs : s.length ≤ 50) : ∀ (i k : Nat) (out : List Int), i ≤ s.length → i < k → out.length + i ≤ 50 → spec_SortPlanks.l0 k out s ((i : Int) - 1) = some (out ++ (s.take i).reverse, true) := by
  intro i
  induction i with
  | zero =>
    intro k out hi hk ho
    obtain ⟨k, rfl⟩ : ∃ k', k = k' + 1 := ⟨k - 1, by omega⟩
    simp only [spec_SortPlanks.l0]
    rw [if_neg (by omega)]
    simp
  | succ i ih =>
    intro k out hi hk ho
    obtain ⟨k, rfl⟩ : ∃ k', k = k' + 1 := ⟨k - 1, by omega⟩
    simp only [spec_SortPlanks.l0]
    rw [show ((i + 1 : Nat) : Int) - 1 = (i : Int) from by omega, if_pos (by omega), if_pos (by omega), if_pos (by omega), if_pos (by omega), w64 (x := (i : Int) - 1) (by omega) (by omega), ih k _ (by omega) (by omega) (by simp; omega), List.take_succ_eq_append_getElem (by omega : i < s.length), rd_get s i (by omega), List.reverse_append, List.append_assoc]
    rfl
theorem FnExactSortPlanks_pure (l0 : List Int) (hm : l0.length ≤ 9223372036854775807) (y : l0.length * 8 ≤ 140737488351232) (hw : ∀ n ∈ l0, (Lit.int .i64 n).wf = true) : ∃ k, laws_FnExactSortPlanks.f k l0 = some true := by
  by_cases h' : (l0.length : Int) > 1048576
  · refine ⟨1, ?_⟩
    unfold laws_FnExactSortPlanks.f
    rw [if_pos h']
  · have hv : ∃ (v : List Int × Bool) (B : Nat), v.1.length ≤ 1000 ∧ (∀ k, B ≤ k → spec_SortPlanks.f k l0 = some v) ∧ impl_SortPlanks.f l0 = some v := by
      by_cases g : goodP l0 = true
      · obtain ⟨g1, g2, g3⟩ := goodP_use g
        obtain ⟨B, hB⟩ := plSorted_ev l0 (by omega)
        have hl := sortU_length l0
        refine ⟨((sortU l0).reverse, true), B + 100, by simp; omega, fun k hk => ?_, ?_⟩
        · unfold spec_SortPlanks.f
          rw [plGood_eq l0 (by omega) k (by omega), Option.bind_some, if_pos g, hB k (by omega), Option.bind_some, w64 (by omega) (by omega), back_loop (sortU l0) (by omega) (sortU l0).length k [] (Nat.le_refl _) (by omega) (by simp; omega), List.take_of_length_le (Nat.le_refl _), List.nil_append]
        · unfold impl_SortPlanks.f
          rw [ArePlanks_eq l0, Option.bind_some, if_pos g, sorted_eq l0 g1 g2, Option.bind_some]
      · refine ⟨([], false), 100, by simp, fun k hk => ?_, ?_⟩
        · unfold spec_SortPlanks.f
          rw [plGood_eq l0 (by omega) k (by omega), Option.bind_some, if_neg g]
        · unfold impl_SortPlanks.f
          rw [ArePlanks_eq l0, Option.bind_some, if_neg g]
    obtain ⟨v, B, hlen, hs, hi⟩ := hv
    obtain ⟨K1, hK1⟩ := markIntS_ev v.1 (by omega)
    obtain ⟨K2, hK2⟩ := markIntS_ev l0 (by omega)
    obtain ⟨m, hmm⟩ : ∃ m, m = l0.length + B + K1 + K2 + 2000 := ⟨_, rfl⟩
    refine ⟨m + 1 + 1 + 1, ?_⟩
    have hb : (v.2 != v.2) = false := by simp
    unfold laws_FnExactSortPlanks.f
    rw [if_neg h', toIntS_eq l0 (by omega) _ (by omega), Option.bind_some, hs _ (by omega), Option.bind_some, Option.bind_some, hi, Option.bind_some, eqIntS_eq v.1 (by omega) _ (by omega), Option.bind_some, if_pos rfl, hb]
    simp only [laws_FnExactSortPlanks.j0, laws_FnExactSortPlanks.j1, laws_FnExactSortPlanks.j2]
    rw [if_neg (by decide), toIntS_eq l0 (by omega) _ (by omega), Option.bind_some, eqIntS_eq l0 (by omega) _ (by omega), Option.bind_some, if_pos rfl, (hK2 _ (by omega)).1, Option.bind_some, if_neg (by omega), eqIntS_eq v.1 (by omega) _ (by omega), Option.bind_some, if_pos rfl, hb]
    rw [if_neg (by decide), (hK1 _ (by omega)).1, Option.bind_some, (hK1 _ (by omega)).2, Option.bind_some, if_neg (by omega), if_pos rfl, toIntS_eq l0 (by omega) _ (by omega), Option.bind_some, hi, Option.bind_some, eqIntS_eq v.1 (by omega) _ (by omega), Option.bind_some, if_pos rfl, hb]
    rw [if_neg (by decide), (hK1 _ (by omega)).2, Option.bind_some, if_neg (by omega), if_pos rfl]
end Go.Proofs.Ytchchfgfjfeanaa.P
