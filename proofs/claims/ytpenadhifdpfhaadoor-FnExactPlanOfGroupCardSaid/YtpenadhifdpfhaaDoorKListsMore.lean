/- Plain facts on the printed functions that the laws on strong rivers use (lists of lists); no conditions. -/
import Derived.Test.YtpenadhifdpfhaaDoorKx4
import Derived.Test.YtpenadhifdpfhaaDoorKLists
set_option linter.unusedVariables false
set_option linter.unusedSimpArgs false
namespace Go.Proofs.YtpenadhifdpfhaaDoor.K
open Go.RowKit Go.Proofs.YtpenadhifdpfhaaDoorW.PrintWords Go.Proofs.YtpenadhifdpfhaaDoorW.PrintLast Go.Proofs.YtpenadhifdpfhaaDoorW.PrintMore
theorem rdL_get (l : List (List Int)) (i : Nat) (h : i < l.length) : rd_L1 l (i : Int) = l[i] := by
  simp [rd_L1, List.getD_eq_getElem?_getD, List.getElem?_eq_getElem h]
/-- How many numbers lie in the lists from i on. -/
def many (l : List (List Int)) : Nat := (l.map List.length).sum
theorem eqIntSS_l0 (l : List (List Int)) (hl : l.length ≤ 1048576) (hw : ∀ xs ∈ l, xs.length ≤ 1048576) : ∀ (d k i : Nat), i + d = l.length → d + 1048577 < k → laws_eqIntSS.l0 k l l (i : Int) = some true := by
  intro d
  induction d with
  | zero =>
    intro k i hi hk
    obtain ⟨m, rfl⟩ : ∃ m, k = m + 1 := ⟨k - 1, by omega⟩
    rw [laws_eqIntSS.l0, if_neg (by omega)]
  | succ d ih =>
    intro k i hi hk
    obtain ⟨m, rfl⟩ : ∃ m, k = m + 1 := ⟨k - 1, by omega⟩
    have h1 : i < l.length := by omega
    have hb := hw l[i] (List.getElem_mem h1)
    rw [laws_eqIntSS.l0, if_pos (by omega), if_pos (by omega), if_pos (by omega), rdL_get l i h1, eqIntS_eq l[i] (by omega) m (by omega), Option.bind_some, if_pos rfl, show wrap64 ((i : Int) + 1) = ((i + 1 : Nat) : Int) from by unfold wrap64; omega]
    exact ih m (i + 1) (by omega) (by omega)
theorem eqIntSS_eq (l : List (List Int)) (hl : l.length ≤ 1048576) (hw : ∀ xs ∈ l, xs.length ≤ 1048576) (k : Nat) (hk : 2097154 < k) : laws_eqIntSS.f k l l = some true := by
  unfold laws_eqIntSS.f
  rw [if_pos rfl]
  exact eqIntSS_l0 l hl hw l.length k 0 (by omega) (by omega)
end Go.Proofs.YtpenadhifdpfhaaDoor.K
