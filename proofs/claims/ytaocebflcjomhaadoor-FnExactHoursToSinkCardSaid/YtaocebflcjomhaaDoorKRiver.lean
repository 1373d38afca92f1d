/- Plain facts on the printed functions that the laws on strong rivers use (the river of a strong one); no conditions. -/
import Derived.Test.YtaocebflcjomhaaDoorKx6
import Derived.Test.YtaocebflcjomhaaDoorKx8
import Derived.Test.YtaocebflcjomhaaDoorKBase
set_option linter.unusedVariables false
set_option linter.unusedSimpArgs false
namespace Go.Proofs.YtaocebflcjomhaaDoor.K
open Go.RowKit Go.Proofs.YtaocebflcjomhaaDoorW.PrintWords Go.Proofs.YtaocebflcjomhaaDoorW.PrintLast Go.Proofs.YtaocebflcjomhaaDoorW.PrintMore
theorem siRiver_loop (s : ByteArray) (hs : s.size ≤ 1099511627776) : ∀ (n k i : Nat) (xs : List Int), s.size - i ≤ n → i ≤ s.size → n < k → xs.length = i → spec_siRiver.l0 k s (strOfNums xs) (i : Int) = some (strOfNums (xs ++ ((intsOf s).drop i).map plainB)) := by
  intro n
  induction n with
  | zero =>
    intro k i xs hn hi hk hx
    obtain ⟨k, rfl⟩ : ∃ k', k = k' + 1 := ⟨k - 1, by omega⟩
    simp only [spec_siRiver.l0]
    rw [if_neg (by omega), ints_end s i (by omega), List.map_nil, List.append_nil]
  | succ n ih =>
    intro k i xs hn hi hk hx
    obtain ⟨k, rfl⟩ : ∃ k', k = k' + 1 := ⟨k - 1, by omega⟩
    simp only [spec_siRiver.l0]
    by_cases h : i < s.size
    · rw [if_pos (by omega), if_pos (by omega), ints_drop s i h, List.map_cons, num_size]
      rw [w64 (x := (i : Int) + 1) (by omega) (by omega), show (i : Int) + 1 = ((i + 1 : Nat) : Int) from by omega]
      by_cases h1 : bt s (i : Int) = 48
      · rw [if_pos h1, if_pos (by omega), show (⟨#[46]⟩ : ByteArray) = strOfNums [46] from rfl, ← num_append, ih k (i + 1) _ (by omega) (by omega) (by omega) (by simp [hx])]
        rw [plainB, if_pos h1, List.append_assoc]
        rfl
      · rw [if_neg h1, if_pos (by omega), show (⟨#[111]⟩ : ByteArray) = strOfNums [111] from rfl, ← num_append, ih k (i + 1) _ (by omega) (by omega) (by omega) (by simp [hx])]
        rw [plainB, if_neg h1, List.append_assoc]
        rfl
    · rw [if_neg (by omega), ints_end s i (by omega), List.map_nil, List.append_nil]
theorem siRiver_eq (s : ByteArray) (hs : s.size ≤ 1099511627776) (k : Nat) (hk : s.size < k) : spec_siRiver.f k s = some (strOfNums ((intsOf s).map plainB)) := by
  unfold spec_siRiver.f
  have := siRiver_loop s hs s.size k 0 [] (by omega) (by omega) hk rfl
  simpa [num_nil] using this
theorem plain_eq (s : ByteArray) (hs : s.size ≤ 1099511627776) : impl_plain.f s = some (strOfNums ((intsOf s).map plainB)) := by
  unfold impl_plain.f
  rw [if_pos (by omega)]
end Go.Proofs.YtaocebflcjomhaaDoor.K
