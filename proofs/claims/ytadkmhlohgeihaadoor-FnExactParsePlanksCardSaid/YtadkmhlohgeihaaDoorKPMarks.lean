/- Marks that a law writes into what a function returned, and reads back; equal lists; no conditions. -/
import Derived.Test.YtadkmhlohgeihaaDoorKx2
import Derived.Test.YtadkmhlohgeihaaDoorKPBase
set_option linter.unusedVariables false
set_option linter.unusedSimpArgs false
namespace Go.Proofs.YtadkmhlohgeihaaDoor.K
open Go.RowKit Go.Proofs.YtadkmhlohgeihaaDoorW.PrintWords Go.Proofs.YtadkmhlohgeihaaDoorW.PrintLast Go.Proofs.YtadkmhlohgeihaaDoorW.PrintMore
theorem eqIntS_l0 (l : List Int) (hl : l.length ≤ 9223372036854775806) : ∀ (d k : Nat) (i : Nat), i + d = l.length → d < k → laws_eqIntS.l0 k l l (i : Int) = some true := by
  intro d
  induction d with
  | zero =>
    intro k i hi hk
    obtain ⟨m, rfl⟩ : ∃ m, k = m + 1 := ⟨k - 1, by omega⟩
    rw [laws_eqIntS.l0, if_neg (by omega)]
  | succ d ih =>
    intro k i hi hk
    obtain ⟨m, rfl⟩ : ∃ m, k = m + 1 := ⟨k - 1, by omega⟩
    rw [laws_eqIntS.l0, if_pos (by omega), if_pos (by omega), if_pos (by omega), if_pos rfl, show wrap64 ((i : Int) + 1) = ((i + 1 : Nat) : Int) from by unfold wrap64; omega]
    exact ih m (i + 1) (by omega) (by omega)
theorem eqIntS_eq (l : List Int) (hl : l.length ≤ 9223372036854775806) (k : Nat) (hk : l.length < k) : laws_eqIntS.f k l l = some true := by
  unfold laws_eqIntS.f
  rw [if_pos rfl]
  exact eqIntS_l0 l hl l.length k 0 (by omega) (by omega)
theorem rd_get (l : List Int) (i : Nat) (h : i < l.length) : rd l (i : Int) = l[i] := by
  simp [rd, List.getD_eq_getElem?_getD, List.getElem?_eq_getElem h]
theorem take_set_succ {α : Type} (l : List α) (i : Nat) (v : α) (h : i < l.length) : (l.set i v).take (i + 1) = l.take i ++ [v] := by
  rw [List.take_succ_eq_append_getElem (by rw [List.length_set]; exact h), List.take_set_of_le (Nat.le_refl _), List.getElem_set_self]
def markI : Nat → Int → List Int
  | 0, _ => []
  | n + 1, s => s :: markI n (s + 1)
theorem markIntS_l0 : ∀ (d k i : Nat) (xs : List Int) (s : Int), i + d = xs.length → d < k → xs.length ≤ 1048576 → 0 ≤ s → s + d ≤ 1048577 → laws_markIntS.l0 k xs s (i : Int) = some (s + d, xs.take i ++ markI d s) := by
  intro d
  induction d with
  | zero =>
    intro k i xs s hi hk hx h0 h1
    obtain ⟨m, rfl⟩ : ∃ m, k = m + 1 := ⟨k - 1, by omega⟩
    rw [laws_markIntS.l0, if_neg (by omega), List.take_of_length_le (by omega)]
    simp [markI]
  | succ d ih =>
    intro k i xs s hi hk hx h0 h1
    obtain ⟨m, rfl⟩ : ∃ m, k = m + 1 := ⟨k - 1, by omega⟩
    have hlt : i < xs.length := by omega
    rw [laws_markIntS.l0, if_pos (by omega), if_pos (by omega), show wrap64 ((i : Int) + 1) = ((i + 1 : Nat) : Int) from by unfold wrap64; omega, w64 (by omega) (by omega), Int.toNat_natCast, ih m (i + 1) _ (s + 1) (by rw [List.length_set]; omega) (by omega) (by rw [List.length_set]; omega) (by omega) (by omega), take_set_succ _ _ _ hlt]
    simp only [markI, List.append_assoc, List.cons_append, List.nil_append]
    congr 2
    omega
theorem markI_length : ∀ (d : Nat) (s : Int), (markI d s).length = d := by
  intro d
  induction d with
  | zero => intro s; rfl
  | succ d ih => intro s; simp [markI, ih]
theorem heldIntS_l0 : ∀ (d k i : Nat) (ys : List Int) (s : Int), i + d = ys.length → d < k → ys.length ≤ 1048576 → 0 ≤ s → s + d ≤ 1048577 → ys.drop i = markI d s → laws_heldIntS.l0 k ys s (i : Int) = some (s + d) := by
  intro d
  induction d with
  | zero =>
    intro k i ys s hi hk hx h0 h1 he
    obtain ⟨m, rfl⟩ : ∃ m, k = m + 1 := ⟨k - 1, by omega⟩
    rw [laws_heldIntS.l0, if_neg (by omega)]
    simp
  | succ d ih =>
    intro k i ys s hi hk hx h0 h1 he
    obtain ⟨m, rfl⟩ : ∃ m, k = m + 1 := ⟨k - 1, by omega⟩
    have hlt : i < ys.length := by omega
    rw [List.drop_eq_getElem_cons hlt] at he
    simp only [markI, List.cons.injEq] at he
    rw [laws_heldIntS.l0, if_pos (by omega), if_pos (by omega), rd_get _ i hlt, if_pos he.1, show wrap64 ((i : Int) + 1) = ((i + 1 : Nat) : Int) from by unfold wrap64; omega, w64 (by omega) (by omega), ih m (i + 1) _ (s + 1) (by omega) (by omega) hx (by omega) (by omega) he.2]
    congr 1
    omega
/-- Marks into a list of whole numbers, and read back. -/
theorem markIntS_ev (xs : List Int) (hx : xs.length ≤ 1048576) : ∃ K, ∀ k, K ≤ k → laws_markIntS.f k xs 1 = some (1 + (xs.length : Int), markI xs.length 1) ∧ laws_heldIntS.f k (markI xs.length 1) 1 = some (1 + (xs.length : Int)) := by
  refine ⟨xs.length + 1, fun k hk => ⟨?_, ?_⟩⟩
  · unfold laws_markIntS.f
    have h := markIntS_l0 xs.length k 0 xs 1 (by omega) (by omega) hx (by omega) (by omega)
    rw [show ((0 : Nat) : Int) = 0 from rfl, List.take_zero, List.nil_append] at h
    exact h
  · unfold laws_heldIntS.f
    have h := heldIntS_l0 xs.length k 0 (markI xs.length 1) 1 (by rw [markI_length]; omega) (by omega) (by rw [markI_length]; omega) (by omega) (by omega) (by simp)
    rw [show ((0 : Nat) : Int) = 0 from rfl] at h
    exact h
end Go.Proofs.YtadkmhlohgeihaaDoor.K
