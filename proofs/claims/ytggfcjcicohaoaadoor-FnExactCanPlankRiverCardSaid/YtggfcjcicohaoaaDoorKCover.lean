/- Plain facts: the reference's count of gaps that planks cover and the program's come to the same; no conditions. -/
import Derived.Test.YtggfcjcicohaoaaDoorKx2
import Derived.Test.YtggfcjcicohaoaaDoorKx1
import Derived.Test.YtggfcjcicohaoaaDoorKSort
import Derived.Test.YtggfcjcicohaoaaDoorKx12
set_option linter.unusedVariables false
set_option linter.unusedSimpArgs false
namespace Go.Proofs.YtggfcjcicohaoaaDoor.K
open Go.RowKit Go.Proofs.YtggfcjcicohaoaaDoorW.PrintWords Go.Proofs.YtggfcjcicohaoaaDoorW.PrintLast Go.Proofs.YtggfcjcicohaoaaDoorW.PrintMore
/-- How many gaps planks cover, taken one by one. -/
def greedy (r : Int) : List Int → List Int → Nat
  | [], _ => 0
  | p :: ps, gs => match gs with
    | [] => 0
    | g :: gs' => if p ≥ wrap64 (g + wrap64 (2 * r)) then greedy r ps gs' + 1 else greedy r ps (g :: gs')
theorem greedy_nil (r : Int) (ps : List Int) : greedy r ps [] = 0 := by cases ps <;> rfl
theorem greedy_le (r : Int) : ∀ (ps gs : List Int), greedy r ps gs ≤ gs.length
  | [], _ => by simp [greedy]
  | p :: ps, gs => by
    cases gs with
    | nil => simp [greedy]
    | cons g gs' =>
      have h1 := greedy_le r ps gs'
      have h2 := greedy_le r ps (g :: gs')
      simp only [greedy]
      split
      · simp only [List.length_cons]
        omega
      · exact h2
theorem impl_cov (G L : List Int) (r : Int) (hG : G.length ≤ 7) (hL : L.length ≤ 7) : ∀ (d j m : Nat), d = L.length - j → j ≤ L.length → m ≤ G.length → ∀ k, d < k → impl_MostCovered.l0 k r G (m : Int) L (L.length : Int) (j : Int) = some (((m + greedy r (L.drop j) (G.drop m) : Nat) : Int), true) := by
  intro d
  induction d with
  | zero =>
    intro j m hd hj hm k hk
    obtain ⟨k, rfl⟩ : ∃ k', k = k' + 1 := ⟨k - 1, by omega⟩
    simp only [impl_MostCovered.l0]
    rw [if_neg (by omega), List.drop_of_length_le (show L.length ≤ j by omega)]
    rfl
  | succ d ih =>
    intro j m hd hj hm k hk
    obtain ⟨k, rfl⟩ : ∃ k', k = k' + 1 := ⟨k - 1, by omega⟩
    have wj : wrap64 ((j : Int) + 1) = ((j + 1 : Nat) : Int) := by unfold wrap64; omega
    have wm : wrap64 ((m : Int) + 1) = ((m + 1 : Nat) : Int) := by unfold wrap64; omega
    simp only [impl_MostCovered.l0]
    rw [if_pos (by omega), if_pos (by omega), if_pos (by omega), rd_cons_drop L j (by omega), wj, wm]
    by_cases c : m < G.length
    · rw [if_pos (by omega), if_pos (by omega), rd_cons_drop G m c]
      simp only [greedy]
      by_cases e : rd L (j : Int) ≥ wrap64 (rd G (m : Int) + wrap64 (2 * r))
      · rw [if_pos e, if_pos e, ih (j + 1) (m + 1) (by omega) (by omega) (by omega) k (by omega)]
        congr 2
        omega
      · rw [if_neg e, if_neg e, ih (j + 1) m (by omega) (by omega) (by omega) k (by omega), ← rd_cons_drop G m c]
    · rw [if_neg (by omega), ih (j + 1) m (by omega) (by omega) (by omega) k (by omega), List.drop_of_length_le (show G.length ≤ m by omega), greedy_nil, greedy_nil]
theorem spec_look (G left : List Int) (r : Int) (i : Nat) (hi : i < G.length) (hG : G.length ≤ 7) (hl : left.length ≤ 7)
    (ih : ∀ (left' : List Int) (k : Nat), left'.length ≤ 7 → 100 * (G.length - (i + 1)) + 50 ≤ k → spec_plMost.l0 k r ((i + 1 : Nat) : Int) left' G (G.length : Int) ((i + 1 : Nat) : Int) = some (((i + 1 + greedy r left' (G.drop (i + 1)) : Nat) : Int))) :
    ∀ (e t : Nat), e = left.length - t → t ≤ left.length → ∀ k, 100 * (G.length - (i + 1)) + 60 + e ≤ k → spec_plMost.l1 k r (i : Int) left (rd G (i : Int)) (t : Int) G (G.length : Int) (i : Int) = some (((i + greedy r (left.drop t) (G.drop i) : Nat) : Int)) := by
  intro e
  have wi : wrap64 ((i : Int) + 1) = ((i + 1 : Nat) : Int) := by unfold wrap64; omega
  induction e with
  | zero =>
    intro t he ht k hk
    obtain ⟨k, rfl⟩ : ∃ k', k = k' + 1 := ⟨k - 1, by omega⟩
    simp only [spec_plMost.l1]
    rw [if_neg (by omega), if_pos (by omega), List.drop_of_length_le (show left.length ≤ t by omega)]
    rfl
  | succ e ihe =>
    intro t he ht k hk
    obtain ⟨k, rfl⟩ : ∃ k', k = k' + 1 := ⟨k - 1, by omega⟩
    have wt : wrap64 ((t : Int) + 1) = ((t + 1 : Nat) : Int) := by unfold wrap64; omega
    simp only [spec_plMost.l1, spec_plSpans.f]
    rw [if_pos (by omega), if_pos (by omega), Option.bind_some, rd_cons_drop left t (by omega), rd_cons_drop G i hi, wt, wi]
    simp only [greedy, decide_eq_true_eq]
    by_cases c : rd left (t : Int) ≥ wrap64 (rd G (i : Int) + wrap64 (2 * r))
    · rw [if_pos c, if_pos c, if_neg (by omega), if_pos (by omega), if_pos (by omega), Int.toNat_natCast, ih _ k (by rw [List.length_drop]; omega) (by omega)]
      congr 2
      omega
    · rw [if_neg c, if_neg c, ihe (t + 1) (by omega) (by omega) k (by omega), ← rd_cons_drop G i hi]
theorem spec_cov (G : List Int) (r : Int) (hG : G.length ≤ 7) : ∀ (d i : Nat), d = G.length - i → i ≤ G.length → ∀ (left : List Int) (k : Nat), left.length ≤ 7 → 100 * d + 50 ≤ k → spec_plMost.l0 k r (i : Int) left G (G.length : Int) (i : Int) = some (((i + greedy r left (G.drop i) : Nat) : Int)) := by
  intro d
  induction d with
  | zero =>
    intro i hd hi left k hl hk
    obtain ⟨k, rfl⟩ : ∃ k', k = k' + 1 := ⟨k - 1, by omega⟩
    simp only [spec_plMost.l0]
    rw [if_neg (by omega), List.drop_of_length_le (show G.length ≤ i by omega), greedy_nil]
    rfl
  | succ d ih =>
    intro i hd hi left k hl hk
    obtain ⟨k, rfl⟩ : ∃ k', k = k' + 1 := ⟨k - 1, by omega⟩
    simp only [spec_plMost.l0]
    rw [if_pos (by omega), if_pos (by omega), if_pos (by omega)]
    have := spec_look G left r i (by omega) hG hl (fun left' k' h1 h2 => ih (i + 1) (by omega) (by omega) left' k' h1 (by omega)) left.length 0 (by omega) (by omega) k (by omega)
    rw [List.drop_zero] at this
    exact this
/-- How many of the gaps. -/
def most (g p : List Int) (r : Int) : Nat := greedy r (sortU p) (sortU g)
theorem plMost_ev (g p : List Int) (r : Int) (hg : g.length ≤ 7) (hp : p.length ≤ 7) : ∃ B, ∀ k, B ≤ k → spec_plMost.f k g p r = some ((most g p r : Nat) : Int) := by
  obtain ⟨B1, h1⟩ := plSorted_ev p (by omega)
  obtain ⟨B2, h2⟩ := plSorted_ev g (by omega)
  refine ⟨B1 + B2 + 1000, fun k hk => ?_⟩
  unfold spec_plMost.f
  rw [h1 k (by omega), Option.bind_some, h2 k (by omega), Option.bind_some]
  have := spec_cov (sortU g) r (by rw [sortU_length]; exact hg) (sortU g).length 0 (by omega) (by omega) (sortU p) k (by rw [sortU_length]; exact hp) (by rw [sortU_length]; omega)
  rw [List.drop_zero, Nat.zero_add] at this
  exact this
theorem good_rest (a : Int) : impl_isRest.f a = some (decide (0 ≤ a ∧ a ≤ 10)) ∧ spec_plRest.f a = some (decide (0 ≤ a ∧ a ≤ 10)) := by
  refine ⟨?_, ?_⟩
  · unfold impl_isRest.f
    rw [within_eq, Option.bind_some]
  · unfold spec_plRest.f
    rw [l1In_eq, Option.bind_some]
def asked (g p : List Int) (r : Int) : Bool := goodP g && goodP p && decide (0 ≤ r ∧ r ≤ 10)
theorem areSpanned_eq (g p : List Int) (r : Int) : impl_areSpanned.f g p r = some (asked g p r) := by
  unfold impl_areSpanned.f asked
  rw [ArePlanks_eq, Option.bind_some]
  by_cases c : goodP g = true
  · rw [if_pos c, ArePlanks_eq, Option.bind_some]
    by_cases c2 : goodP p = true
    · rw [if_pos c2, (good_rest r).1, Option.bind_some, c, c2]
      rfl
    · rw [if_neg c2, Bool.eq_false_iff.2 c2, c]
      rfl
  · rw [if_neg c, Bool.eq_false_iff.2 c]
    rfl
theorem asked_use {g p : List Int} {r : Int} (h : asked g p r = true) : goodP g = true ∧ goodP p = true ∧ 0 ≤ r ∧ r ≤ 10 := by
  unfold asked at h
  simp only [Bool.and_eq_true, decide_eq_true_eq] at h
  exact ⟨h.1.1, h.1.2, h.2⟩
theorem impl_most (g p : List Int) (r : Int) (h : asked g p r = true) (k : Nat) (hk : 20 ≤ k) : impl_MostCovered.f k g p r = some (((most g p r : Nat) : Int), true) := by
  obtain ⟨h1, h2, h3⟩ := asked_use h
  obtain ⟨g1, g2, _⟩ := goodP_use h1
  obtain ⟨p1, p2, _⟩ := goodP_use h2
  unfold impl_MostCovered.f
  rw [areSpanned_eq, Option.bind_some, if_pos h, sortedI_eq g g1 g2, Option.bind_some, sortedI_eq p p1 p2, Option.bind_some]
  have := impl_cov (sortU g) (sortU p) r (by rw [sortU_length]; exact g2) (by rw [sortU_length]; exact p2) (sortU p).length 0 0 (by omega) (by omega) (by omega) k (by rw [sortU_length]; omega)
  rw [List.drop_zero, List.drop_zero, Nat.zero_add] at this
  exact this
theorem impl_most_no (g p : List Int) (r : Int) (h : asked g p r = false) (k : Nat) : impl_MostCovered.f k g p r = some (0, false) := by
  unfold impl_MostCovered.f
  rw [areSpanned_eq, Option.bind_some, h, if_neg (by decide)]
end Go.Proofs.YtggfcjcicohaoaaDoor.K
