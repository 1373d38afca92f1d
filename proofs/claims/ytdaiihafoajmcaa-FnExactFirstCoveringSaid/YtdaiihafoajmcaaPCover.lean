/- Plain facts: the reference's count of gaps that planks cover and the program's come to the same; no conditions. -/
import Derived.Test.YtdaiihafoajmcaaPx3
import Derived.Test.YtdaiihafoajmcaaPSort
import Derived.Test.YtdaiihafoajmcaaPx13
set_option linter.unusedVariables false
set_option linter.unusedSimpArgs false
namespace Go.Proofs.Ytdaiihafoajmcaa.P
open Go.RowKit Go.Proofs.YtdaiihafoajmcaaW.PrintWords Go.Proofs.YtdaiihafoajmcaaW.PrintLast Go.Proofs.YtdaiihafoajmcaaW.PrintMore
/-- How many gaps planks cover, taken one by one. -/
def greedy (r : Int) : List Int → List Int → Nat
  | [], _ => 0
  | p :: ps, gs => match gs with
    | [] => 0
    | g :: gs' => if p ≥ wrap64 (g + wrap64 (2 * r)) then greedy r ps gs' + 1 else greedy r ps (g :: gs')
theorem greedy_nil (r : Int) (ps : List Int) : greedy r ps [] = 0 := by cases ps <;> rfl
theorem greedy_le (r : Int) : ∀ (ps gs : List Int), greedy r ps gs ≤ gs.length
  | [], _ => by simp [greedy]
  | p :: ps, gs => by
    cases gs with
    | nil => simp [greedy]
    | cons g gs' =>
      have h1 := greedy_le r ps gs'
      have h2 := greedy_le r ps (g :: gs')
      simp only [greedy]
      split
      · simp only [List.length_cons]
        omega
      · exact h2
theorem impl_cov (G L : List Int) (r : Int) (hG : G.length ≤ 7) (hL : L.length ≤ 7) : ∀ (d j m : Nat), d = L.length - j → j ≤ L.length → m ≤ G.length → ∀ k, d < k → impl_MostCovered.l0 k r G (m : Int) L (L.length : Int) (j : Int) = some (((m + greedy r (L.drop j) (G.drop m) : Nat) : Int), true) := by
  intro d
  induction d with
  | zero =>
    intro j m hd hj hm k hk
    obtain ⟨k, rfl⟩ : ∃ k', k = k' + 1 := ⟨k - 1, by omega⟩
    simp only [impl_MostCovered.l0]
    rw [if_neg (by omega), List.drop_of_length_le (show L.length ≤ j by omega)]
    rfl
  | succ d ih =>
    intro j m hd hj hm k hk
    obtain ⟨k, rfl⟩ : ∃ k', k = k' + 1 := ⟨k - 1, by omega⟩
    have wj : wrap64 ((j : Int) + 1) = ((j + 1 : Nat) : Int) := by unfold wrap64; omega
    have wm : wrap64 ((m : Int) + 1) = ((m + 1 : Nat) : Int) := by unfold wrap64; omega
    simp only [impl_MostCovered.l0]
    rw [if_pos (by omega), if_pos (by omega), if_pos (by omega), rd_cons_drop L j (by omega), wj, wm]
    by_cases c : m < G.length
    · rw [if_pos (by omega), if_pos (by omega), rd_cons_drop G m c]
      simp only [greedy]
      by_cases e : rd L (j : Int) ≥ wrap64 (rd G (m : Int) + wrap64 (2 * r))
      · rw [if_pos e, if_pos e, ih (j + 1) (m + 1) (by omega) (by omega) (by omega) k (by omega)]
        congr 2
        omega
      · rw [if_neg e, if_neg e, ih (j + 1) m (by omega) (by omega) (by omega) k (by omega), ← rd_cons_drop G m c]
    · rw [if_neg (by omega), ih (j + 1) m (by omega) (by omega) (by omega) k (by omega), List.drop_of_length_le (show G.length ≤ m by omega), greedy_nil, greedy_nil]
/-- How many of the gaps. -/
def most (g p : List Int) (r : Int) : Nat := greedy r (sortU p) (sortU g)
theorem good_rest (a : Int) : impl_isRest.f a = some (decide (0 ≤ a ∧ a ≤ 10)) ∧ spec_plRest.f a = some (decide (0 ≤ a ∧ a ≤ 10)) := by
  refine ⟨?_, ?_⟩
  · unfold impl_isRest.f
    rw [within_eq, Option.bind_some]
  · unfold spec_plRest.f
    rw [l1In_eq, Option.bind_some]
def asked (g p : List Int) (r : Int) : Bool := goodP g && goodP p && decide (0 ≤ r ∧ r ≤ 10)
theorem areSpanned_eq (g p : List Int) (r : Int) : impl_areSpanned.f g p r = some (asked g p r) := by
  unfold impl_areSpanned.f asked
  rw [ArePlanks_eq, Option.bind_some]
  by_cases c : goodP g = true
  · rw [if_pos c, ArePlanks_eq, Option.bind_some]
    by_cases c2 : goodP p = true
    · rw [if_pos c2, (good_rest r).1, Option.bind_some, c, c2]
      rfl
    · rw [if_neg c2, Bool.eq_false_iff.2 c2, c]
      rfl
  · rw [if_neg c, Bool.eq_false_iff.2 c]
    rfl
theorem plAsked_eq (g p : List Int) (r : Int) (hg : g.length ≤ 9223372036854775806) (hp : p.length ≤ 9223372036854775806) (k : Nat) (hk : 9 ≤ k) : spec_plAsked.f k g p r = some (asked g p r) := by
  unfold spec_plAsked.f asked
  rw [plGood_eq g hg k hk, Option.bind_some]
  by_cases c : goodP g = true
  · rw [if_pos c, plGood_eq p hp k hk, Option.bind_some]
    by_cases c2 : goodP p = true
    · rw [if_pos c2, (good_rest r).2, Option.bind_some, c, c2]
      rfl
    · rw [if_neg c2, Bool.eq_false_iff.2 c2, c]
      rfl
  · rw [if_neg c, Bool.eq_false_iff.2 c]
    rfl
theorem asked_use {g p : List Int} {r : Int} (h : asked g p r = true) : goodP g = true ∧ goodP p = true ∧ 0 ≤ r ∧ r ≤ 10 := by
  unfold asked at h
  simp only [Bool.and_eq_true, decide_eq_true_eq] at h
  exact ⟨h.1.1, h.1.2, h.2⟩
theorem impl_most (g p : List Int) (r : Int) (h : asked g p r = true) (k : Nat) (hk : 20 ≤ k) : impl_MostCovered.f k g p r = some (((most g p r : Nat) : Int), true) := by
  obtain ⟨h1, h2, h3⟩ := asked_use h
  obtain ⟨g1, g2, _⟩ := goodP_use h1
  obtain ⟨p1, p2, _⟩ := goodP_use h2
  unfold impl_MostCovered.f
  rw [areSpanned_eq, Option.bind_some, if_pos h, sortedI_eq g g1 g2, Option.bind_some, sortedI_eq p p1 p2, Option.bind_some]
  have := impl_cov (sortU g) (sortU p) r (by rw [sortU_length]; exact g2) (by rw [sortU_length]; exact p2) (sortU p).length 0 0 (by omega) (by omega) (by omega) k (by rw [sortU_length]; omega)
  rw [List.drop_zero, List.drop_zero, Nat.zero_add] at this
  exact this
theorem impl_most_no (g p : List Int) (r : Int) (h : asked g p r = false) (k : Nat) : impl_MostCovered.f k g p r = some (0, false) := by
  unfold impl_MostCovered.f
  rw [areSpanned_eq, Option.bind_some, h, if_neg (by decide)]
end Go.Proofs.Ytdaiihafoajmcaa.P
