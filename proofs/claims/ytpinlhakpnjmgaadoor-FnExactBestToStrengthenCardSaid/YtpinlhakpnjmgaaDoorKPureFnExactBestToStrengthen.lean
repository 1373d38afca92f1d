/- The plain law of FnExactBestToStrengthen; no conditions. -/
import Derived.Test.YtpinlhakpnjmgaaDoorKNarrow
import Derived.Test.YtpinlhakpnjmgaaDoorKMore
import Derived.Test.YtpinlhakpnjmgaaDoorKx13
set_option linter.unusedVariables false
set_option linter.unusedSimpArgs false
namespace Go.Proofs.YtpinlhakpnjmgaaDoor.K
open Go.RowKit Go.Proofs.YtpinlhakpnjmgaaDoorW.PrintWords Go.Proofs.YtpinlhakpnjmgaaDoorW.PrintLast Go.Proofs.YtpinlhakpnjmgaaDoorW.PrintMore
theorem digs_nonneg : ∀ l : List Int, 0 ≤ digs l
  | [] => Int.le_refl _
  | c :: l => by
    rw [digs_cons]
    have h1 := digs_nonneg l
    have h2 := Int.emod_nonneg (c - 48) (show (256 : Int) ≠ 0 by decide)
    omega
theorem nar_nonneg (l : List Int) (L : Nat) : ∀ (n i : Nat) (b a : Int), (0 ≤ b ∨ 0 < n) → 0 ≤ (nar l L n i b a).1 := by
  intro n
  induction n with
  | zero =>
    intro i b a h
    simp only [nar]
    omega
  | succ n ih =>
    intro i b a h
    simp only [nar]
    by_cases c : b < 0 ∨ digs ((l.drop i).take L) < b
    · rw [if_pos c]
      exact ih _ _ _ (Or.inl (digs_nonneg _))
    · rw [if_neg c]
      exact ih _ _ _ (Or.inl (by omega))
theorem narrow_nonneg (s : ByteArray) (leap : Int) (h : leap ≤ (s.size : Int)) (h0 : 0 ≤ leap) : 0 ≤ (narrow s leap).1 := nar_nonneg _ _ _ _ _ _ (Or.inr (by omega))
/-- The first place at which one step more lets the most people cross, n places on, from i. -/
def bst (s : ByteArray) (leap : Int) : Nat → Nat → Int → Int → Int × Int
  | 0, _, p, m => (p, m)
  | n + 1, i, p, m => if bt s (i : Int) + 1 > 57 then bst s leap n (i + 1) p m else if (narrow (strOfNums ((intsOf s).set i (bt s (i : Int) + 1))) leap).1 > m then bst s leap n (i + 1) ((i : Int) + 1) (narrow (strOfNums ((intsOf s).set i (bt s (i : Int) + 1))) leap).1 else bst s leap n (i + 1) p m
def bfin (q : Int × Int) : Int × Int × Bool := if q.2 < 0 then (0, 0, false) else (q.1, q.2, true)
theorem Best_spec (s : ByteArray) (hg : good s = true) (leap : Int) (hl : 1 ≤ leap ∧ leap ≤ 21) (hle : leap ≤ (s.size : Int)) : ∀ (n k i : Nat) (p m : Int), n = s.size - i → i ≤ s.size → n + 60 < k → (p = 0 ∧ m = -1 ∨ 1 ≤ p ∧ 0 ≤ m) → spec_BestToStrengthen.l0 k s leap p m ((i : Int) + 1) = some (bfin (bst s leap n i p m)) := by
  have hz := good_size hg
  intro n
  induction n with
  | zero =>
    intro k i p m hn hi hk hv
    obtain ⟨k, rfl⟩ : ∃ k', k = k' + 1 := ⟨k - 1, by omega⟩
    simp only [spec_BestToStrengthen.l0, bst]
    rw [if_neg (by omega)]
    rcases hv with ⟨h1, h2⟩ | ⟨h1, h2⟩
    · rw [if_pos h1, bfin, if_pos (by show m < 0; omega)]
    · rw [if_neg (by omega), bfin, if_neg (by show ¬ m < 0; omega)]
  | succ n ih =>
    intro k i p m hn hi hk hv
    obtain ⟨k, rfl⟩ : ∃ k', k = k' + 1 := ⟨k - 1, by omega⟩
    simp only [spec_BestToStrengthen.l0, bst]
    have hi' : i < s.size := by omega
    have hw : wrap64 ((i : Int) + 1 + 1) = ((i + 1 : Nat) : Int) + 1 := by unfold wrap64; omega
    have hzs : (strOfNums ((intsOf s).set i (bt s (i : Int) + 1))).size ≤ 20 := by rw [num_size, List.length_set, intsOf_length]; omega
    rw [if_pos (by omega)]
    obtain ⟨k, rfl⟩ : ∃ k', k = k' + 1 := ⟨k - 1, by omega⟩
    rw [siMore_eq s hg i hi' 1 (by decide) k, Option.bind_some, hw]
    by_cases c : bt s (i : Int) + 1 > 57
    · rw [if_pos c, if_neg (by decide), if_pos c]
      exact ih (k + 1) (i + 1) p m (by omega) (by omega) (by omega) hv
    · rw [if_neg c, if_pos rfl, if_neg c]
      rw [siNarrow_eq _ hzs leap (by omega) (k + 1) (by omega), Option.bind_some]
      have hp : 0 ≤ (narrow (strOfNums ((intsOf s).set i (bt s (i : Int) + 1))) leap).1 := narrow_nonneg _ leap (by rw [num_size, List.length_set, intsOf_length]; omega) (by omega)
      by_cases d : (narrow (strOfNums ((intsOf s).set i (bt s (i : Int) + 1))) leap).1 > m
      · rw [if_pos d, if_pos d]
        exact ih (k + 1) (i + 1) _ _ (by omega) (by omega) (by omega) (Or.inr ⟨by omega, hp⟩)
      · rw [if_neg d, if_neg d]
        exact ih (k + 1) (i + 1) p m (by omega) (by omega) (by omega) hv
theorem Best_impl (s : ByteArray) (hg : good s = true) (leap : Int) (hl : 1 ≤ leap ∧ leap ≤ 21) (hle : leap ≤ (s.size : Int)) : ∀ (n k i : Nat) (p m : Int), n = s.size - i → i ≤ s.size → n + 60 < k → (p = 0 ∧ m = -1 ∨ 1 ≤ p ∧ 0 ≤ m) → impl_BestToStrengthen.l0 k s leap p m ((i : Int) + 1) = some (bfin (bst s leap n i p m)) := by
  have hz := good_size hg
  intro n
  induction n with
  | zero =>
    intro k i p m hn hi hk hv
    obtain ⟨k, rfl⟩ : ∃ k', k = k' + 1 := ⟨k - 1, by omega⟩
    simp only [impl_BestToStrengthen.l0, bst]
    rw [if_neg (by omega)]
    by_cases c : m < 0
    · rw [if_pos c, bfin, if_pos (by show m < 0; exact c)]
    · rw [if_neg c, bfin, if_neg (by show ¬ m < 0; exact c)]
  | succ n ih =>
    intro k i p m hn hi hk hv
    obtain ⟨k, rfl⟩ : ∃ k', k = k' + 1 := ⟨k - 1, by omega⟩
    simp only [impl_BestToStrengthen.l0, bst]
    have hi' : i < s.size := by omega
    have hw : wrap64 ((i : Int) + 1 + 1) = ((i + 1 : Nat) : Int) + 1 := by unfold wrap64; omega
    have hzs : (strOfNums ((intsOf s).set i (bt s (i : Int) + 1))).size ≤ 20 := by rw [num_size, List.length_set, intsOf_length]; omega
    rw [if_pos (by omega)]
    rw [More_eq s hg i hi' 1 (by decide), Option.bind_some, hw]
    by_cases c : bt s (i : Int) + 1 > 57
    · rw [if_pos c, if_neg (by decide), if_pos c]
      exact ih k (i + 1) p m (by omega) (by omega) (by omega) hv
    · rw [if_neg c, if_pos rfl, if_neg c]
      rw [narrowest_eq _ hzs leap (by omega) k (by omega), Option.bind_some]
      have hp : 0 ≤ (narrow (strOfNums ((intsOf s).set i (bt s (i : Int) + 1))) leap).1 := narrow_nonneg _ leap (by rw [num_size, List.length_set, intsOf_length]; omega) (by omega)
      by_cases d : (narrow (strOfNums ((intsOf s).set i (bt s (i : Int) + 1))) leap).1 > m
      · rw [if_pos d, if_pos d]
        exact ih k (i + 1) _ _ (by omega) (by omega) (by omega) (Or.inr ⟨by omega, hp⟩)
      · rw [if_neg d, if_neg d]
        exact ih k (i + 1) p m (by omega) (by omega) (by omega) hv
theorem FnExactBestToStrengthen_pure (a0 : ByteArray) (a1 : Int) (w0 : a0.size ≤ 140737488351232) (w1 : (Lit.int .i64 a1).wf = true) : ∃ k, laws_FnExactBestToStrengthen.f k a0 a1 = some true := by
  refine ⟨100, ?_⟩
  unfold laws_FnExactBestToStrengthen.f
  by_cases h : (a0.size : Int) > 1048576
  · rw [if_pos h]
  · rw [if_neg h]
    suffices hs : ∃ v, spec_BestToStrengthen.f 100 a0 a1 = some v ∧ impl_BestToStrengthen.f 100 a0 a1 = some v from by
      obtain ⟨v, h1, h2⟩ := hs
      rw [h1, Option.bind_some, h2, Option.bind_some]
      simp
    unfold spec_BestToStrengthen.f impl_BestToStrengthen.f
    rw [siShort_eq a0 a1 100 (by decide), isShort_eq a0 a1, Option.bind_some, Option.bind_some]
    by_cases h : short a0 a1 = true
    · obtain ⟨hg, h1, h2, h3⟩ := short_use h
      rw [if_pos h, if_pos h]
      exact ⟨_, Best_spec a0 hg a1 h1 h2 a0.size 100 0 0 (-1) (by omega) (by omega) (by omega) (Or.inl ⟨rfl, rfl⟩), Best_impl a0 hg a1 h1 h2 a0.size 100 0 0 (-1) (by omega) (by omega) (by omega) (Or.inl ⟨rfl, rfl⟩)⟩
    · rw [if_neg h, if_neg h]
      exact ⟨_, rfl, rfl⟩
end Go.Proofs.YtpinlhakpnjmgaaDoor.K
