/- Plain facts on the printed functions that the laws on strong rivers use (the narrowest part); no conditions. -/
import Derived.Test.YtpenadhifdpfhaaDoorKx1
import Derived.Test.YtpenadhifdpfhaaDoorKSum
set_option linter.unusedVariables false
set_option linter.unusedSimpArgs false
namespace Go.Proofs.YtpenadhifdpfhaaDoor.K
open Go.RowKit Go.Proofs.YtpenadhifdpfhaaDoorW.PrintWords Go.Proofs.YtpenadhifdpfhaaDoorW.PrintLast Go.Proofs.YtpenadhifdpfhaaDoorW.PrintMore
theorem asked_eq (s : ByteArray) (leap : Int) (k : Nat) (hk : 22 ≤ k) : spec_siAsked.f k s leap = some (good s && decide (1 ≤ leap ∧ leap ≤ 21)) := by
  unfold spec_siAsked.f
  rw [siGood_eq s k hk, Option.bind_some]
  by_cases hg : good s = true
  · rw [if_pos hg, hg, l1In_eq, Option.bind_some, Bool.true_and]
  · rw [if_neg hg, Bool.eq_false_iff.2 hg, Bool.false_and]
theorem isSunk_eq (s : ByteArray) (leap : Int) : impl_isSunk.f s leap = some (good s && decide (1 ≤ leap ∧ leap ≤ 21)) := by
  unfold impl_isSunk.f
  rw [IsStrong_eq s, Option.bind_some]
  by_cases hg : good s = true
  · rw [if_pos hg, hg, within_eq, Option.bind_some, Bool.true_and]
  · rw [if_neg hg, Bool.eq_false_iff.2 hg, Bool.false_and]
def short (s : ByteArray) (leap : Int) : Bool := (good s && decide (1 ≤ leap ∧ leap ≤ 21)) && decide (leap ≤ (s.size : Int))
/-- The least sum of L digits one behind the other, n parts on, from i. -/
def nar (l : List Int) (L : Nat) : Nat → Nat → Int → Int → Int × Int
  | 0, _, b, a => (b, a)
  | n + 1, i, b, a => if b < 0 ∨ digs ((l.drop i).take L) < b then nar l L n (i + 1) (digs ((l.drop i).take L)) ((i : Int) + 1) else nar l L n (i + 1) b a
theorem siNarrow_loop (s : ByteArray) (hs : s.size ≤ 1073741824) (L : Nat) (hL : L ≤ 1073741824) : ∀ (n k i : Nat) (b a : Int), n = s.size + 1 - L - i → i ≤ s.size + 1 → s.size + n < k → spec_siNarrow.l0 k s (L : Int) b a (i : Int) = some (nar (intsOf s) L n i b a) := by
  intro n
  induction n with
  | zero =>
    intro k i b a hn hi hk
    obtain ⟨k, rfl⟩ : ∃ k', k = k' + 1 := ⟨k - 1, by omega⟩
    simp only [spec_siNarrow.l0, nar]
    rw [w64 (by omega) (by omega), if_neg (by omega)]
  | succ n ih =>
    intro k i b a hn hi hk
    obtain ⟨k, rfl⟩ : ∃ k', k = k' + 1 := ⟨k - 1, by omega⟩
    simp only [spec_siNarrow.l0, nar]
    rw [show wrap64 ((i : Int) + (L : Int)) = ((i + L : Nat) : Int) from by unfold wrap64; omega, if_pos (by omega), if_pos (by omega), if_pos (by omega), Int.toNat_natCast, Int.toNat_natCast]
    rw [siSum_eq (s.extract i (i + L)) (by rw [ByteArray.size_extract]; omega) k (by rw [ByteArray.size_extract]; omega), Option.bind_some, ints_extract, show i + L - i = L from by omega]
    rw [show wrap64 ((i : Int) + 1) = ((i + 1 : Nat) : Int) from by unfold wrap64; omega, show ((i : Int) + 1) = ((i + 1 : Nat) : Int) from by omega]
    rw [ih k (i + 1) _ _ (by omega) (by omega) (by omega), ih k (i + 1) _ _ (by omega) (by omega) (by omega)]
    by_cases c : b < 0
    · rw [if_pos c, if_pos (Or.inl c)]
    · rw [if_neg c]
      by_cases d : digs (((intsOf s).drop i).take L) < b
      · rw [if_pos d, if_pos (Or.inr d)]
      · rw [if_neg d, if_neg (by omega)]
theorem narrowest_loop (s : ByteArray) (hs : s.size ≤ 1073741824) (L : Nat) (hL : L ≤ 1073741824) : ∀ (n k i : Nat) (b a : Int), n = s.size + 1 - L - i → i ≤ s.size + 1 → s.size + n < k → impl_narrowest.l0 k s (L : Int) b a (i : Int) = some (nar (intsOf s) L n i b a) := by
  intro n
  induction n with
  | zero =>
    intro k i b a hn hi hk
    obtain ⟨k, rfl⟩ : ∃ k', k = k' + 1 := ⟨k - 1, by omega⟩
    simp only [impl_narrowest.l0, nar]
    rw [w64 (by omega) (by omega), if_neg (by omega)]
  | succ n ih =>
    intro k i b a hn hi hk
    obtain ⟨k, rfl⟩ : ∃ k', k = k' + 1 := ⟨k - 1, by omega⟩
    simp only [impl_narrowest.l0, nar]
    rw [show wrap64 ((i : Int) + (L : Int)) = ((i + L : Nat) : Int) from by unfold wrap64; omega, if_pos (by omega), if_pos (by omega), if_pos (by omega), Int.toNat_natCast, Int.toNat_natCast]
    rw [total_eq (s.extract i (i + L)) (by rw [ByteArray.size_extract]; omega) k (by rw [ByteArray.size_extract]; omega), Option.bind_some, ints_extract, show i + L - i = L from by omega]
    rw [show wrap64 ((i : Int) + 1) = ((i + 1 : Nat) : Int) from by unfold wrap64; omega, show ((i : Int) + 1) = ((i + 1 : Nat) : Int) from by omega]
    rw [ih k (i + 1) _ _ (by omega) (by omega) (by omega), ih k (i + 1) _ _ (by omega) (by omega) (by omega)]
    by_cases c : b < 0
    · rw [if_pos c, if_pos (Or.inl c)]
    · rw [if_neg c]
      by_cases d : digs (((intsOf s).drop i).take L) < b
      · rw [if_pos d, if_pos (Or.inr d)]
      · rw [if_neg d, if_neg (by omega)]
def narrow (s : ByteArray) (leap : Int) : Int × Int := nar (intsOf s) leap.toNat (s.size + 1 - leap.toNat) 0 (-1) 0
theorem siNarrow_eq (s : ByteArray) (hs : s.size ≤ 20) (leap : Int) (h : 0 ≤ leap ∧ leap ≤ 21) (k : Nat) (hk : 50 ≤ k) : spec_siNarrow.f k s leap = some (narrow s leap) := by
  unfold spec_siNarrow.f narrow
  obtain ⟨L, rfl⟩ : ∃ L : Nat, leap = (L : Int) := ⟨leap.toNat, by omega⟩
  rw [Int.toNat_natCast]
  exact siNarrow_loop s (by omega) L (by omega) (s.size + 1 - L) k 0 (-1) 0 (by omega) (by omega) (by omega)
theorem narrowest_eq (s : ByteArray) (hs : s.size ≤ 20) (leap : Int) (h : 0 ≤ leap ∧ leap ≤ 21) (k : Nat) (hk : 50 ≤ k) : impl_narrowest.f k s leap = some (narrow s leap) := by
  unfold impl_narrowest.f narrow
  obtain ⟨L, rfl⟩ : ∃ L : Nat, leap = (L : Int) := ⟨leap.toNat, by omega⟩
  rw [Int.toNat_natCast]
  exact narrowest_loop s (by omega) L (by omega) (s.size + 1 - L) k 0 (-1) 0 (by omega) (by omega) (by omega)
end Go.Proofs.YtpenadhifdpfhaaDoor.K
