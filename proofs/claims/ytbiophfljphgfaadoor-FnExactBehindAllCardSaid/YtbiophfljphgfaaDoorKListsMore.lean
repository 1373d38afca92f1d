/- Plain facts on the printed functions that the laws on strong rivers use (lists of lists); no conditions. -/
import Derived.Test.YtbiophfljphgfaaDoorKx11
import Derived.Test.YtbiophfljphgfaaDoorKx1
import Derived.Test.YtbiophfljphgfaaDoorKLists
set_option linter.unusedVariables false
set_option linter.unusedSimpArgs false
namespace Go.Proofs.YtbiophfljphgfaaDoor.K
open Go.RowKit Go.Proofs.YtbiophfljphgfaaDoorW.PrintWords Go.Proofs.YtbiophfljphgfaaDoorW.PrintLast Go.Proofs.YtbiophfljphgfaaDoorW.PrintMore
theorem rdL_get (l : List (List Int)) (i : Nat) (h : i < l.length) : rd_L1 l (i : Int) = l[i] := by
  simp [rd_L1, List.getD_eq_getElem?_getD, List.getElem?_eq_getElem h]
/-- How many numbers lie in the lists from i on. -/
def many (l : List (List Int)) : Nat := (l.map List.length).sum
theorem sz_loop (l : List (List Int)) (hl : l.length ≤ 1048576) (hw : ∀ xs ∈ l, xs.length ≤ 9223372036854775807) : ∀ (d k i : Nat) (left : Int), i + d = l.length → d < k → 0 ≤ left → left ≤ 1048576 → ∃ v, laws_szIntSS.l0 k l left (i : Int) = some v ∧ (0 ≤ v → ∀ j, i ≤ j → (h : j < l.length) → l[j].length ≤ 1048576) := by
  intro d
  induction d with
  | zero =>
    intro k i left hi hk h0 h1
    obtain ⟨m, rfl⟩ : ∃ m, k = m + 1 := ⟨k - 1, by omega⟩
    rw [laws_szIntSS.l0, if_neg (by omega)]
    exact ⟨left, rfl, fun _ j hj h => by omega⟩
  | succ d ih =>
    intro k i left hi hk h0 h1
    obtain ⟨m, rfl⟩ : ∃ m, k = m + 1 := ⟨k - 1, by omega⟩
    have hlt : i < l.length := by omega
    rw [laws_szIntSS.l0, if_pos (by omega), if_pos (by omega), rdL_get l i hlt]
    have hb := hw l[i] (List.getElem_mem hlt)
    unfold laws_szIntS.f
    rw [w64 (x := left - (l[i].length : Int)) (by omega) (by omega)]
    by_cases c : left - (l[i].length : Int) < 0
    · rw [if_pos c, Option.bind_some, if_pos (by decide)]
      exact ⟨-1, rfl, fun h => by omega⟩
    · rw [if_neg c, Option.bind_some, if_neg (by omega), show wrap64 ((i : Int) + 1) = ((i + 1 : Nat) : Int) from by unfold wrap64; omega]
      obtain ⟨v, h2, h3⟩ := ih m (i + 1) (left - (l[i].length : Int)) (by omega) (by omega) (by omega) (by omega)
      refine ⟨v, h2, fun hv j hj h => ?_⟩
      by_cases e : j = i
      · subst e; omega
      · exact h3 hv j (by omega) h
theorem szIntSS_eq (l : List (List Int)) (hm : l.length ≤ 9223372036854775807) (hw : ∀ xs ∈ l, xs.length ≤ 9223372036854775807) (k : Nat) (hk : 1048577 < k) : ∃ v, laws_szIntSS.f k l 1048576 = some v ∧ (0 ≤ v → l.length ≤ 1048576 ∧ ∀ xs ∈ l, xs.length ≤ 1048576) := by
  unfold laws_szIntSS.f
  rw [w64 (x := 1048576 - (l.length : Int)) (by omega) (by omega)]
  by_cases c : 1048576 - (l.length : Int) < 0
  · rw [if_pos c]
    exact ⟨-1, rfl, fun h => by omega⟩
  · rw [if_neg c]
    obtain ⟨v, h1, h2⟩ := sz_loop l (by omega) hw l.length k 0 (1048576 - (l.length : Int)) (by omega) (by omega) (by omega) (by omega)
    refine ⟨v, h1, fun hv => ⟨by omega, fun xs hxs => ?_⟩⟩
    obtain ⟨j, hj, rfl⟩ := List.getElem_of_mem hxs
    exact h2 hv j (by omega) hj
theorem toIntSS_l0 (l : List (List Int)) (hl : l.length ≤ 1048576) (hw : ∀ xs ∈ l, xs.length ≤ 1048576) : ∀ (d k i : Nat) (x : List (List Int)), i + d = l.length → d + 1048577 < k → x.length = l.length → x.take i = l.take i → laws_toIntSS.l0 k l x (i : Int) = some l := by
  intro d
  induction d with
  | zero =>
    intro k i x hi hk hx ht
    obtain ⟨m, rfl⟩ : ∃ m, k = m + 1 := ⟨k - 1, by omega⟩
    rw [laws_toIntSS.l0, if_neg (by omega)]
    rw [List.take_of_length_le (by omega), List.take_of_length_le (by omega)] at ht
    rw [ht]
  | succ d ih =>
    intro k i x hi hk hx ht
    obtain ⟨m, rfl⟩ : ∃ m, k = m + 1 := ⟨k - 1, by omega⟩
    have h1 : i < l.length := by omega
    have hb := hw l[i] (List.getElem_mem h1)
    rw [laws_toIntSS.l0, if_pos (by omega), if_pos (by omega), rdL_get l i h1, toIntS_eq l[i] hb m (by omega), Option.bind_some, if_pos (by omega), show wrap64 ((i : Int) + 1) = ((i + 1 : Nat) : Int) from by unfold wrap64; omega, Int.toNat_natCast]
    refine ih m (i + 1) _ (by omega) (by omega) (by rw [List.length_set]; exact hx) ?_
    rw [List.take_succ_eq_append_getElem (by rw [List.length_set]; omega), List.take_succ_eq_append_getElem h1, List.take_set_of_le (by omega), ht, List.getElem_set_self]
theorem toIntSS_eq (l : List (List Int)) (hl : l.length ≤ 1048576) (hw : ∀ xs ∈ l, xs.length ≤ 1048576) (k : Nat) (hk : 2097154 < k) : laws_toIntSS.f k l = some l := by
  unfold laws_toIntSS.f
  rw [if_pos (by omega), if_pos (by omega)]
  exact toIntSS_l0 l hl hw l.length k 0 _ (by omega) (by omega) (by simp) (by simp)
theorem eqIntSS_l0 (l : List (List Int)) (hl : l.length ≤ 1048576) (hw : ∀ xs ∈ l, xs.length ≤ 1048576) : ∀ (d k i : Nat), i + d = l.length → d + 1048577 < k → laws_eqIntSS.l0 k l l (i : Int) = some true := by
  intro d
  induction d with
  | zero =>
    intro k i hi hk
    obtain ⟨m, rfl⟩ : ∃ m, k = m + 1 := ⟨k - 1, by omega⟩
    rw [laws_eqIntSS.l0, if_neg (by omega)]
  | succ d ih =>
    intro k i hi hk
    obtain ⟨m, rfl⟩ : ∃ m, k = m + 1 := ⟨k - 1, by omega⟩
    have h1 : i < l.length := by omega
    have hb := hw l[i] (List.getElem_mem h1)
    rw [laws_eqIntSS.l0, if_pos (by omega), if_pos (by omega), if_pos (by omega), rdL_get l i h1, eqIntS_eq l[i] (by omega) m (by omega), Option.bind_some, if_pos rfl, show wrap64 ((i : Int) + 1) = ((i + 1 : Nat) : Int) from by unfold wrap64; omega]
    exact ih m (i + 1) (by omega) (by omega)
theorem eqIntSS_eq (l : List (List Int)) (hl : l.length ≤ 1048576) (hw : ∀ xs ∈ l, xs.length ≤ 1048576) (k : Nat) (hk : 2097154 < k) : laws_eqIntSS.f k l l = some true := by
  unfold laws_eqIntSS.f
  rw [if_pos rfl]
  exact eqIntSS_l0 l hl hw l.length k 0 (by omega) (by omega)
end Go.Proofs.YtbiophfljphgfaaDoor.K
