/- Plain facts on the printed functions that the laws on strong rivers use (sums of digits); no conditions. -/
import Derived.Test.YtpenadhifdpfhaaDoorKx1
import Derived.Test.YtpenadhifdpfhaaDoorKBase
set_option linter.unusedVariables false
set_option linter.unusedSimpArgs false
namespace Go.Proofs.YtpenadhifdpfhaaDoor.K
open Go.RowKit Go.Proofs.YtpenadhifdpfhaaDoorW.PrintWords Go.Proofs.YtpenadhifdpfhaaDoorW.PrintLast Go.Proofs.YtpenadhifdpfhaaDoorW.PrintMore
def digs (l : List Int) : Int := (l.map fun c => (c - 48) % 256).sum
theorem digs_cons (c : Int) (l : List Int) : digs (c :: l) = (c - 48) % 256 + digs l := by simp [digs]
theorem digs_nil : digs [] = 0 := rfl
theorem siSum_loop (s : ByteArray) (hs : s.size ≤ 1099511627776) : ∀ (n k i : Nat) (acc : Int), s.size - i ≤ n → i ≤ s.size → n < k → 0 ≤ acc → acc ≤ 256 * i → spec_siSum.l0 k s acc (i : Int) = some (acc + digs ((intsOf s).drop i)) := by
  intro n
  induction n with
  | zero =>
    intro k i acc hn hi hk ha hb
    obtain ⟨k, rfl⟩ : ∃ k', k = k' + 1 := ⟨k - 1, by omega⟩
    simp only [spec_siSum.l0]
    rw [if_neg (by omega), ints_end s i (by omega), digs_nil, Int.add_zero]
  | succ n ih =>
    intro k i acc hn hi hk ha hb
    obtain ⟨k, rfl⟩ : ∃ k', k = k' + 1 := ⟨k - 1, by omega⟩
    simp only [spec_siSum.l0]
    by_cases h : i < s.size
    · have hm := Int.emod_nonneg (bt s (i : Int) - 48) (show (256 : Int) ≠ 0 by decide)
      have hl := Int.emod_lt_of_pos (bt s (i : Int) - 48) (show (0 : Int) < 256 by decide)
      rw [if_pos (by omega), if_pos (by omega), ints_drop s i h, digs_cons, w64 (by omega) (by omega), w64 (x := (i : Int) + 1) (by omega) (by omega), show (i : Int) + 1 = ((i + 1 : Nat) : Int) from by omega, ih k (i + 1) _ (by omega) (by omega) (by omega) (by omega) (by omega)]
      congr 1
      omega
    · rw [if_neg (by omega), ints_end s i (by omega), digs_nil, Int.add_zero]
theorem siSum_eq (s : ByteArray) (hs : s.size ≤ 1099511627776) (k : Nat) (hk : s.size < k) : spec_siSum.f k s = some (digs (intsOf s)) := by
  unfold spec_siSum.f
  have := siSum_loop s hs s.size k 0 0 (by omega) (by omega) hk (by omega) (by omega)
  simpa using this
theorem bears_eq (s : ByteArray) (i : Nat) (h : i < s.size) (hs : s.size ≤ 1099511627776) : impl_bears.f s ((i : Int) + 1) = some ((bt s (i : Int) - 48) % 256) := by
  unfold impl_bears.f
  rw [show (i : Int) + 1 - 1 = (i : Int) from by omega, w64 (by omega) (by omega), if_pos (by omega), if_pos (by omega)]
theorem total_loop (s : ByteArray) (hs : s.size ≤ 1099511627776) : ∀ (n k i : Nat) (acc : Int), s.size - i ≤ n → i ≤ s.size → n < k → 0 ≤ acc → acc ≤ 256 * i → impl_total.l0 k s acc ((i : Int) + 1) = some (acc + digs ((intsOf s).drop i)) := by
  intro n
  induction n with
  | zero =>
    intro k i acc hn hi hk ha hb
    obtain ⟨k, rfl⟩ : ∃ k', k = k' + 1 := ⟨k - 1, by omega⟩
    simp only [impl_total.l0]
    rw [if_neg (by omega), ints_end s i (by omega), digs_nil, Int.add_zero]
  | succ n ih =>
    intro k i acc hn hi hk ha hb
    obtain ⟨k, rfl⟩ : ∃ k', k = k' + 1 := ⟨k - 1, by omega⟩
    simp only [impl_total.l0]
    by_cases h : i < s.size
    · have hm := Int.emod_nonneg (bt s (i : Int) - 48) (show (256 : Int) ≠ 0 by decide)
      have hl := Int.emod_lt_of_pos (bt s (i : Int) - 48) (show (0 : Int) < 256 by decide)
      rw [if_pos (by omega), bears_eq s i h hs, Option.bind_some, ints_drop s i h, digs_cons, w64 (by omega) (by omega), w64 (x := (i : Int) + 1 + 1) (by omega) (by omega), show (i : Int) + 1 + 1 = ((i + 1 : Nat) : Int) + 1 from by omega, ih k (i + 1) _ (by omega) (by omega) (by omega) (by omega) (by omega)]
      congr 1
      omega
    · rw [if_neg (by omega), ints_end s i (by omega), digs_nil, Int.add_zero]
theorem total_eq (s : ByteArray) (hs : s.size ≤ 1099511627776) (k : Nat) (hk : s.size < k) : impl_total.f k s = some (digs (intsOf s)) := by
  unfold impl_total.f
  have := total_loop s hs s.size k 0 0 (by omega) (by omega) hk (by omega) (by omega)
  simpa using this
end Go.Proofs.YtpenadhifdpfhaaDoor.K
