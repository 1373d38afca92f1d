/- Marks that a law writes into isles that a function returned, and reads back; no conditions. -/
import Derived.Test.YtgfpdbebeibdkaaQBase
import Derived.Test.YtgfpdbebeibdkaaQx9
import Derived.Test.YtgfpdbebeibdkaaQx9
import Derived.Test.YtgfpdbebeibdkaaQx9
set_option linter.unusedVariables false
set_option linter.unusedSimpArgs false
namespace Go.Proofs.Ytgfpdbebeibdkaa.Q
open Go.RowKit Go.Proofs.YtgfpdbebeibdkaaW.PrintWords Go.Proofs.YtgfpdbebeibdkaaW.PrintLast Go.Proofs.YtgfpdbebeibdkaaW.PrintMore
def markB : Nat → Int → List BR
  | 0, _ => []
  | n + 1, s => ⟨s, s + 1, s + 1 + 1⟩ :: markB n (s + 1 + 1 + 1)
theorem markB_length : ∀ (d : Nat) (s : Int), (markB d s).length = d := by
  intro d
  induction d with
  | zero => intro s; rfl
  | succ d ih => intro s; simp [markB, ih]
theorem rdB_set (zs : List BR) (i : Nat) (x : BR) (h : i < zs.length) : rd_T34 (zs.set i x) (i : Int) = x := by
  rw [rdB _ i (by simpa using h), List.getElem_set_self]
theorem markBridgeS_l0 : ∀ (d k i : Nat) (xs : List BR) (s : Int), i + d = xs.length → d < k → xs.length ≤ 1048576 → 0 ≤ s → s + 3 * d ≤ 4000000 → laws_markBridgeS.l0 k xs s (i : Int) = some (s + 3 * d, xs.take i ++ markB d s) := by
  intro d
  induction d with
  | zero =>
    intro k i xs s hi hk hx h0 h1
    obtain ⟨m, rfl⟩ : ∃ m, k = m + 1 := ⟨k - 1, by omega⟩
    rw [laws_markBridgeS.l0, if_neg (by omega), List.take_of_length_le (by omega)]
    simp [markB]
  | succ d ih =>
    intro k i xs s hi hk hx h0 h1
    obtain ⟨m, rfl⟩ : ∃ m, k = m + 1 := ⟨k - 1, by omega⟩
    have hlt : i < xs.length := by omega
    rw [laws_markBridgeS.l0, if_pos (by omega), if_pos (by omega), w64s hlt (by omega)]
    simp only [Option.bind_some, Int.toNat_natCast]
    rw [w64 (x := s + 1) (by omega) (by omega), w64 (x := s + 1 + 1) (by omega) (by omega), w64 (x := s + 1 + 1 + 1) (by omega) (by omega), rdB_set _ i _ hlt, rdB_set _ i _ (by simpa using hlt), ih m (i + 1) _ (s + 1 + 1 + 1) (by simp only [List.length_set]; omega) (by omega) (by simp only [List.length_set]; omega) (by omega) (by omega), take_set_succ _ _ _ (by simpa using hlt)]
    simp only [markB, List.append_assoc, List.cons_append, List.nil_append]
    rw [List.take_set_of_le (Nat.le_refl _), List.take_set_of_le (Nat.le_refl _)]
    congr 2
    omega
theorem heldBridgeS_l0 : ∀ (d k i : Nat) (ys : List BR) (s : Int), i + d = ys.length → d < k → ys.length ≤ 1048576 → 0 ≤ s → s + 3 * d ≤ 4000000 → ys.drop i = markB d s → laws_heldBridgeS.l0 k ys s (i : Int) = some (s + 3 * d) := by
  intro d
  induction d with
  | zero =>
    intro k i ys s hi hk hx h0 h1 he
    obtain ⟨m, rfl⟩ : ∃ m, k = m + 1 := ⟨k - 1, by omega⟩
    rw [laws_heldBridgeS.l0, if_neg (by omega)]
    simp
  | succ d ih =>
    intro k i ys s hi hk hx h0 h1 he
    obtain ⟨m, rfl⟩ : ∃ m, k = m + 1 := ⟨k - 1, by omega⟩
    have hlt : i < ys.length := by omega
    rw [List.drop_eq_getElem_cons hlt] at he
    simp only [markB, List.cons.injEq] at he
    rw [laws_heldBridgeS.l0, if_pos (by omega), if_pos (by omega), rdB _ i hlt, he.1, if_pos rfl, w64s hlt (by omega), w64 (x := s + 1) (by omega) (by omega), if_pos rfl, w64 (x := s + 1 + 1) (by omega) (by omega), if_pos rfl, w64 (x := s + 1 + 1 + 1) (by omega) (by omega), ih m (i + 1) _ (s + 1 + 1 + 1) (by omega) (by omega) hx (by omega) (by omega) he.2]
    congr 1
    omega
/-- Marks into isles, and read back. -/
theorem markIsles_ev (n : Int) (xs : List BR) (hx : xs.length ≤ 1048576) : ∃ K, ∀ k, K ≤ k → laws_markIsles.f k n xs 1 = some (1 + 3 * (xs.length : Int), markB xs.length 1) ∧ laws_heldIsles.f k n (markB xs.length 1) 1 = some (1 + 3 * (xs.length : Int)) := by
  refine ⟨xs.length + 1, fun k hk => ⟨?_, ?_⟩⟩
  · unfold laws_markIsles.f laws_markBridgeS.f
    have h := markBridgeS_l0 xs.length k 0 xs 1 (by omega) (by omega) hx (by omega) (by omega)
    rw [show ((0 : Nat) : Int) = 0 from rfl, List.take_zero, List.nil_append] at h
    rw [h]
    rfl
  · unfold laws_heldIsles.f laws_heldBridgeS.f
    have h := heldBridgeS_l0 xs.length k 0 (markB xs.length 1) 1 (by rw [markB_length]; omega) (by omega) (by rw [markB_length]; omega) (by omega) (by omega) (by simp)
    rw [show ((0 : Nat) : Int) = 0 from rfl] at h
    rw [h]
    simp only [Option.bind_some]
    rw [if_neg (by omega)]
end Go.Proofs.Ytgfpdbebeibdkaa.Q
