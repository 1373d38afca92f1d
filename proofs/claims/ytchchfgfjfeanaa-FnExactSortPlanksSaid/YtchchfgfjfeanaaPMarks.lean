/- Marks that a law writes into what a function returned, and reads back; equal lists; no conditions. -/
import Derived.Test.YtchchfgfjfeanaaPx1
import Derived.Test.YtchchfgfjfeanaaPx3
import Derived.Test.YtchchfgfjfeanaaPx2
import Derived.Test.YtchchfgfjfeanaaPBase
set_option linter.unusedVariables false
set_option linter.unusedSimpArgs false
namespace Go.Proofs.Ytchchfgfjfeanaa.P
open Go.RowKit Go.Proofs.YtchchfgfjfeanaaW.PrintWords Go.Proofs.YtchchfgfjfeanaaW.PrintLast Go.Proofs.YtchchfgfjfeanaaW.PrintMore
theorem eqIntS_l0 (l : List Int) (hl : l.length ≤ 9223372036854775806) : ∀ (d k : Nat) (i : Nat), i + d = l.length → d < k → laws_eqIntS.l0 k l l (i : Int) = some true := by
  intro d
  induction d with
  | zero =>
    intro k i hi hk
    obtain ⟨m, rfl⟩ : ∃ m, k = m + 1 := ⟨k - 1, by omega⟩
    rw [laws_eqIntS.l0, if_neg (by omega)]
  | succ d ih =>
    intro k i hi hk
    obtain ⟨m, rfl⟩ : ∃ m, k = m + 1 := ⟨k - 1, by omega⟩
    rw [laws_eqIntS.l0, if_pos (by omega), if_pos (by omega), if_pos (by omega), if_pos rfl, show wrap64 ((i : Int) + 1) = ((i + 1 : Nat) : Int) from by unfold wrap64; omega]
    exact ih m (i + 1) (by omega) (by omega)
theorem eqIntS_eq (l : List Int) (hl : l.length ≤ 9223372036854775806) (k : Nat) (hk : l.length < k) : laws_eqIntS.f k l l = some true := by
  unfold laws_eqIntS.f
  rw [if_pos rfl]
  exact eqIntS_l0 l hl l.length k 0 (by omega) (by omega)
theorem rd_get (l : List Int) (i : Nat) (h : i < l.length) : rd l (i : Int) = l[i] := by
  simp [rd, List.getD_eq_getElem?_getD, List.getElem?_eq_getElem h]
theorem take_set_succ {α : Type} (l : List α) (i : Nat) (v : α) (h : i < l.length) : (l.set i v).take (i + 1) = l.take i ++ [v] := by
  rw [List.take_succ_eq_append_getElem (by rw [List.length_set]; exact h), List.take_set_of_le (Nat.le_refl _), List.getElem_set_self]
def markI : Nat → Int → List Int
  | 0, _ => []
  | n + 1, s => s :: markI n (s + 1)
theorem markIntS_l0 : ∀ (d k i : Nat) (xs : List Int) (s : Int), i + d = xs.length → d < k → xs.length ≤ 1048576 → 0 ≤ s → s + d ≤ 1048577 → laws_markIntS.l0 k xs s (i : Int) = some (s + d, xs.take i ++ markI d s) := by
  intro d
  induction d with
  | zero =>
    intro k i xs s hi hk hx h0 h1
    obtain ⟨m, rfl⟩ : ∃ m, k = m + 1 := ⟨k - 1, by omega⟩
    rw [laws_markIntS.l0, if_neg (by omega), List.take_of_length_le (by omega)]
    simp [markI]
  | succ d ih =>
    intro k i xs s hi hk hx h0 h1
    obtain ⟨m, rfl⟩ : ∃ m, k = m + 1 := ⟨k - 1, by omega⟩
    have hlt : i < xs.length := by omega
    rw [laws_markIntS.l0, if_pos (by omega), if_pos (by omega), show wrap64 ((i : Int) + 1) = ((i + 1 : Nat) : Int) from by unfold wrap64; omega, w64 (by omega) (by omega), Int.toNat_natCast, ih m (i + 1) _ (s + 1) (by rw [List.length_set]; omega) (by omega) (by rw [List.length_set]; omega) (by omega) (by omega), take_set_succ _ _ _ hlt]
    simp only [markI, List.append_assoc, List.cons_append, List.nil_append]
    congr 2
    omega
theorem markI_length : ∀ (d : Nat) (s : Int), (markI d s).length = d := by
  intro d
  induction d with
  | zero => intro s; rfl
  | succ d ih => intro s; simp [markI, ih]
theorem heldIntS_l0 : ∀ (d k i : Nat) (ys : List Int) (s : Int), i + d = ys.length → d < k → ys.length ≤ 1048576 → 0 ≤ s → s + d ≤ 1048577 → ys.drop i = markI d s → laws_heldIntS.l0 k ys s (i : Int) = some (s + d) := by
  intro d
  induction d with
  | zero =>
    intro k i ys s hi hk hx h0 h1 he
    obtain ⟨m, rfl⟩ : ∃ m, k = m + 1 := ⟨k - 1, by omega⟩
    rw [laws_heldIntS.l0, if_neg (by omega)]
    simp
  | succ d ih =>
    intro k i ys s hi hk hx h0 h1 he
    obtain ⟨m, rfl⟩ : ∃ m, k = m + 1 := ⟨k - 1, by omega⟩
    have hlt : i < ys.length := by omega
    rw [List.drop_eq_getElem_cons hlt] at he
    simp only [markI, List.cons.injEq] at he
    rw [laws_heldIntS.l0, if_pos (by omega), if_pos (by omega), rd_get _ i hlt, if_pos he.1, show wrap64 ((i : Int) + 1) = ((i + 1 : Nat) : Int) from by unfold wrap64; omega, w64 (by omega) (by omega), ih m (i + 1) _ (s + 1) (by omega) (by omega) hx (by omega) (by omega) he.2]
    congr 1
    omega
/-- Marks into a list of whole numbers, and read back. -/
theorem markIntS_ev (xs : List Int) (hx : xs.length ≤ 1048576) : ∃ K, ∀ k, K ≤ k → laws_markIntS.f k xs 1 = some (1 + (xs.length : Int), markI xs.length 1) ∧ laws_heldIntS.f k (markI xs.length 1) 1 = some (1 + (xs.length : Int)) := by
  refine ⟨xs.length + 1, fun k hk => ⟨?_, ?_⟩⟩
  · unfold laws_markIntS.f
    have h := markIntS_l0 xs.length k 0 xs 1 (by omega) (by omega) hx (by omega) (by omega)
    rw [show ((0 : Nat) : Int) = 0 from rfl, List.take_zero, List.nil_append] at h
    exact h
  · unfold laws_heldIntS.f
    have h := heldIntS_l0 xs.length k 0 (markI xs.length 1) 1 (by rw [markI_length]; omega) (by omega) (by rw [markI_length]; omega) (by omega) (by omega) (by simp)
    rw [show ((0 : Nat) : Int) = 0 from rfl] at h
    exact h
theorem toIntS_l0 (l : List Int) (hl : l.length ≤ 9223372036854775806) : ∀ (d k i : Nat) (x : List Int), i + d = l.length → d < k → x.length = l.length → x.take i = l.take i → laws_toIntS.l0 k l x (i : Int) = some l := by
  intro d
  induction d with
  | zero =>
    intro k i x hi hk hx ht
    obtain ⟨m, rfl⟩ : ∃ m, k = m + 1 := ⟨k - 1, by omega⟩
    rw [laws_toIntS.l0, if_neg (by omega)]
    rw [List.take_of_length_le (by omega), List.take_of_length_le (by omega)] at ht
    rw [ht]
  | succ d ih =>
    intro k i x hi hk hx ht
    obtain ⟨m, rfl⟩ : ∃ m, k = m + 1 := ⟨k - 1, by omega⟩
    have h1 : i < l.length := by omega
    rw [laws_toIntS.l0, if_pos (by omega), if_pos (by omega), if_pos (by omega), show wrap64 ((i : Int) + 1) = ((i + 1 : Nat) : Int) from by unfold wrap64; omega, Int.toNat_natCast]
    refine ih m (i + 1) _ (by omega) (by omega) (by rw [List.length_set]; exact hx) ?_
    rw [List.take_succ_eq_append_getElem (by rw [List.length_set]; omega), List.take_succ_eq_append_getElem h1, List.take_set_of_le (by omega), ht, List.getElem_set_self, rd_get l i h1]
theorem toIntS_eq (l : List Int) (hl : l.length ≤ 1048576) (k : Nat) (hk : l.length < k) : laws_toIntS.f k l = some l := by
  unfold laws_toIntS.f
  rw [if_pos (by omega), if_pos (by omega)]
  exact toIntS_l0 l (by omega) l.length k 0 _ (by omega) (by omega) (by simp) (by simp)
def good1 (n : Int) : Bool := decide (1 ≤ n ∧ n ≤ 100)
def goodP (l : List Int) : Bool := decide (1 ≤ l.length ∧ l.length ≤ 7) && l.all good1
theorem rd_cons_drop (l : List Int) (i : Nat) (h : i < l.length) : l.drop i = rd l (i : Int) :: l.drop (i + 1) := by
  rw [List.drop_eq_getElem_cons h]
  congr 1
  simp [rd, List.getD_eq_getElem?_getD, List.getElem?_eq_getElem h]
theorem all_loop (l : List Int) (hl : l.length ≤ 9223372036854775806) : ∀ (n k i : Nat), n = l.length - i → i ≤ l.length → n < k → spec_l1All.l0 k 1 100 l (l.length : Int) (i : Int) = some ((l.drop i).all good1) := by
  intro n
  induction n with
  | zero =>
    intro k i hn hi hk
    obtain ⟨k, rfl⟩ : ∃ k', k = k' + 1 := ⟨k - 1, by omega⟩
    simp only [spec_l1All.l0]
    rw [if_neg (by omega), List.drop_of_length_le (by omega)]
    rfl
  | succ n ih =>
    intro k i hn hi hk
    obtain ⟨k, rfl⟩ : ∃ k', k = k' + 1 := ⟨k - 1, by omega⟩
    simp only [spec_l1All.l0]
    rw [if_pos (by omega), if_pos (by omega), if_pos (by omega), l1In_eq, Option.bind_some, rd_cons_drop l i (by omega), List.all_cons, show wrap64 ((i : Int) + 1) = ((i + 1 : Nat) : Int) from by unfold wrap64; omega]
    by_cases c : 1 ≤ rd l (i : Int) ∧ rd l (i : Int) ≤ 100
    · rw [if_pos (decide_eq_true c), good1, decide_eq_true c, Bool.true_and]
      exact ih k (i + 1) (by omega) (by omega) (by omega)
    · rw [if_neg (by simp only [decide_eq_true_eq]; exact c), good1, decide_eq_false c, Bool.false_and]
theorem plGood_eq (l : List Int) (hl : l.length ≤ 9223372036854775806) (k : Nat) (hk : 9 ≤ k) : spec_plGood.f k l = some (goodP l) := by
  unfold spec_plGood.f goodP
  rw [l1In_eq, Option.bind_some]
  by_cases h : 1 ≤ l.length ∧ l.length ≤ 7
  · rw [if_pos (by simp; omega), decide_eq_true h, Bool.true_and]
    unfold spec_l1All.f
    have := all_loop l hl l.length k 0 (by omega) (by omega) (by omega)
    rw [show ((0 : Nat) : Int) = 0 from rfl, List.drop_zero] at this
    rw [this, Option.bind_some]
  · rw [if_neg (by simp; omega), decide_eq_false h, Bool.false_and]
theorem ArePlanks_eq (l : List Int) : impl_ArePlanks.f l = some (goodP l) := by
  unfold impl_ArePlanks.f goodP
  rw [within_eq, Option.bind_some]
  by_cases h : 1 ≤ l.length ∧ l.length ≤ 7
  · rw [if_pos (by simp; omega), decide_eq_true h, Bool.true_and]
    unfold impl_areWithin.f
    rw [Option.bind_some]
    rfl
  · rw [if_neg (by simp; omega), decide_eq_false h, Bool.false_and]
end Go.Proofs.Ytchchfgfjfeanaa.P
