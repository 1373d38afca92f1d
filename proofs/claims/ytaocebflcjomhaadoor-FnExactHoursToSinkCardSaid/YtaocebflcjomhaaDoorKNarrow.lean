/- Plain facts on the printed functions that the laws on strong rivers use (the narrowest part); no conditions. -/
import Derived.Test.YtaocebflcjomhaaDoorKx2
import Derived.Test.YtaocebflcjomhaaDoorKx1
import Derived.Test.YtaocebflcjomhaaDoorKx3
import Derived.Test.YtaocebflcjomhaaDoorKSum
set_option linter.unusedVariables false
set_option linter.unusedSimpArgs false
namespace Go.Proofs.YtaocebflcjomhaaDoor.K
open Go.RowKit Go.Proofs.YtaocebflcjomhaaDoorW.PrintWords Go.Proofs.YtaocebflcjomhaaDoorW.PrintLast Go.Proofs.YtaocebflcjomhaaDoorW.PrintMore
theorem asked_eq (s : ByteArray) (leap : Int) (k : Nat) (hk : 22 ≤ k) : spec_siAsked.f k s leap = some (good s && decide (1 ≤ leap ∧ leap ≤ 21)) := by
  unfold spec_siAsked.f
  rw [siGood_eq s k hk, Option.bind_some]
  by_cases hg : good s = true
  · rw [if_pos hg, hg, l1In_eq, Option.bind_some, Bool.true_and]
  · rw [if_neg hg, Bool.eq_false_iff.2 hg, Bool.false_and]
theorem isSunk_eq (s : ByteArray) (leap : Int) : impl_isSunk.f s leap = some (good s && decide (1 ≤ leap ∧ leap ≤ 21)) := by
  unfold impl_isSunk.f
  rw [IsStrong_eq s, Option.bind_some]
  by_cases hg : good s = true
  · rw [if_pos hg, hg, within_eq, Option.bind_some, Bool.true_and]
  · rw [if_neg hg, Bool.eq_false_iff.2 hg, Bool.false_and]
def short (s : ByteArray) (leap : Int) : Bool := (good s && decide (1 ≤ leap ∧ leap ≤ 21)) && decide (leap ≤ (s.size : Int))
theorem siShort_eq (s : ByteArray) (leap : Int) (k : Nat) (hk : 22 ≤ k) : spec_siShort.f k s leap = some (short s leap) := by
  unfold spec_siShort.f short
  rw [asked_eq s leap k hk, Option.bind_some]
  by_cases hg : (good s && decide (1 ≤ leap ∧ leap ≤ 21)) = true
  · rw [if_pos hg, hg, Bool.true_and]
  · rw [if_neg hg, Bool.eq_false_iff.2 hg, Bool.false_and]
theorem isShort_eq (s : ByteArray) (leap : Int) : impl_isShort.f s leap = some (short s leap) := by
  unfold impl_isShort.f short
  rw [isSunk_eq s leap, Option.bind_some]
  by_cases hg : (good s && decide (1 ≤ leap ∧ leap ≤ 21)) = true
  · rw [if_pos hg, hg, Bool.true_and]
  · rw [if_neg hg, Bool.eq_false_iff.2 hg, Bool.false_and]
/-- The least sum of L digits one behind the other, n parts on, from i. -/
def nar (l : List Int) (L : Nat) : Nat → Nat → Int → Int → Int × Int
  | 0, _, b, a => (b, a)
  | n + 1, i, b, a => if b < 0 ∨ digs ((l.drop i).take L) < b then nar l L n (i + 1) (digs ((l.drop i).take L)) ((i : Int) + 1) else nar l L n (i + 1) b a
theorem siNarrow_loop (s : ByteArray) (hs : s.size ≤ 1073741824) (L : Nat) (hL : L ≤ 1073741824) : ∀ (n k i : Nat) (b a : Int), n = s.size + 1 - L - i → i ≤ s.size + 1 → s.size + n < k → spec_siNarrow.l0 k s (L : Int) b a (i : Int) = some (nar (intsOf s) L n i b a) := by
  intro n
  induction n with
  | zero =>
    intro k i b a hn hi hk
    obtain ⟨k, rfl⟩ : ∃ k', k = k' + 1 := ⟨k - 1, by omega⟩
    simp only [spec_siNarrow.l0, nar]
    rw [w64 (by omega) (by omega), if_neg (by omega)]
  | succ n ih =>
    intro k i b a hn hi hk
    obtain ⟨k, rfl⟩ : ∃ k', k = k' + 1 := ⟨k - 1, by omega⟩
    simp only [spec_siNarrow.l0, nar]
    rw [show wrap64 ((i : Int) + (L : Int)) = ((i + L : Nat) : Int) from by unfold wrap64; omega, if_pos (by omega), if_pos (by omega), if_pos (by omega), Int.toNat_natCast, Int.toNat_natCast]
    rw [siSum_eq (s.extract i (i + L)) (by rw [ByteArray.size_extract]; omega) k (by rw [ByteArray.size_extract]; omega), Option.bind_some, ints_extract, show i + L - i = L from by omega]
    rw [show wrap64 ((i : Int) + 1) = ((i + 1 : Nat) : Int) from by unfold wrap64; omega, show ((i : Int) + 1) = ((i + 1 : Nat) : Int) from by omega]
    rw [ih k (i + 1) _ _ (by omega) (by omega) (by omega), ih k (i + 1) _ _ (by omega) (by omega) (by omega)]
    by_cases c : b < 0
    · rw [if_pos c, if_pos (Or.inl c)]
    · rw [if_neg c]
      by_cases d : digs (((intsOf s).drop i).take L) < b
      · rw [if_pos d, if_pos (Or.inr d)]
      · rw [if_neg d, if_neg (by omega)]
def narrow (s : ByteArray) (leap : Int) : Int × Int := nar (intsOf s) leap.toNat (s.size + 1 - leap.toNat) 0 (-1) 0
theorem siNarrow_eq (s : ByteArray) (hs : s.size ≤ 20) (leap : Int) (h : 0 ≤ leap ∧ leap ≤ 21) (k : Nat) (hk : 50 ≤ k) : spec_siNarrow.f k s leap = some (narrow s leap) := by
  unfold spec_siNarrow.f narrow
  obtain ⟨L, rfl⟩ : ∃ L : Nat, leap = (L : Int) := ⟨leap.toNat, by omega⟩
  rw [Int.toNat_natCast]
  exact siNarrow_loop s (by omega) L (by omega) (s.size + 1 - L) k 0 (-1) 0 (by omega) (by omega) (by omega)
theorem short_use {s : ByteArray} {leap : Int} (h : short s leap = true) : good s = true ∧ (1 ≤ leap ∧ leap ≤ 21) ∧ leap ≤ (s.size : Int) ∧ s.size ≤ 20 := by
  unfold short at h
  simp only [Bool.and_eq_true, decide_eq_true_eq] at h
  exact ⟨h.1.1, h.1.2, h.2, (good_size h.1.1).2⟩
end Go.Proofs.YtaocebflcjomhaaDoor.K
