/- The plain law of FnExactMirrorStrong; no conditions. -/
import Derived.Test.YtlgbafblbgaoiaaDoorKBase
import Derived.Test.YtlgbafblbgaoiaaDoorKx11
set_option linter.unusedVariables false
set_option linter.unusedSimpArgs false
namespace Go.Proofs.YtlgbafblbgaoiaaDoor.K
open Go.RowKit Go.Proofs.YtlgbafblbgaoiaaDoorW.PrintWords Go.Proofs.YtlgbafblbgaoiaaDoorW.PrintLast Go.Proofs.YtlgbafblbgaoiaaDoorW.PrintMore
theorem ints_take (s : ByteArray) (i : Nat) (h : i < s.size) : (intsOf s).take (i + 1) = (intsOf s).take i ++ [bt s (i : Int)] := by
  have h1 : i < (intsOf s).length := by rw [intsOf_length]; exact h
  have h2 := bt_ints s i h
  rw [List.getElem?_eq_getElem h1] at h2
  rw [List.take_succ_eq_append_getElem h1, Option.some.inj h2]
theorem extract_one (s : ByteArray) (i : Nat) (h : i < s.size) : s.extract i (i + 1) = strOfNums [bt s (i : Int)] := by
  rw [← num_ints (s.extract i (i + 1)), ints_extract, ints_drop s i h, show i + 1 - i = 1 from by omega]
  rfl
theorem Mirror_loop (s : ByteArray) (hz : s.size ≤ 1099511627776) : ∀ (i k : Nat) (xs : List Int), i + xs.length = s.size → i < k → spec_MirrorStrong.l0 k s (strOfNums xs) ((i : Int) - 1) = some (strOfNums (xs ++ ((intsOf s).take i).reverse), true) := by
  intro i
  induction i with
  | zero =>
    intro k xs hx hk
    obtain ⟨k, rfl⟩ : ∃ k', k = k' + 1 := ⟨k - 1, by omega⟩
    simp only [spec_MirrorStrong.l0]
    rw [if_neg (by omega)]
    simp
  | succ i ih =>
    intro k xs hx hk
    obtain ⟨k, rfl⟩ : ∃ k', k = k' + 1 := ⟨k - 1, by omega⟩
    have hi : i < s.size := by omega
    have e : ((i + 1 : Nat) : Int) - 1 = (i : Int) := by omega
    have e1 : wrap64 ((i : Int) + 1) = ((i + 1 : Nat) : Int) := by unfold wrap64; omega
    simp only [spec_MirrorStrong.l0]
    rw [e, e1, if_pos (by omega), if_pos (by omega), if_pos (by omega), if_pos (by omega), Int.toNat_natCast, Int.toNat_natCast, extract_one s i hi, num_size, num_size, if_pos (by simp; omega), ← num_append, w64 (by omega) (by omega), ih k _ (by simp; omega) (by omega), ints_take s i hi, List.reverse_append, List.append_assoc]
    rfl
theorem mirrored_eq (s : ByteArray) (hs : s.size ≤ 1099511627776) : impl_mirrored.f s = some (strOfNums (intsOf s).reverse) := by
  unfold impl_mirrored.f
  rw [if_pos (by omega)]
theorem FnExactMirrorStrong_pure (a0 : ByteArray) (w0 : a0.size ≤ 140737488351232) : ∃ k, laws_FnExactMirrorStrong.f k a0 = some true := by
  refine ⟨30, ?_⟩
  unfold laws_FnExactMirrorStrong.f
  by_cases h : (a0.size : Int) > 1048576
  · rw [if_pos h]
  · rw [if_neg h]
    have h1 : spec_MirrorStrong.f 30 a0 = some (if good a0 = true then (strOfNums (intsOf a0).reverse, true) else ((⟨#[]⟩ : ByteArray), false)) := by
      unfold spec_MirrorStrong.f
      rw [siGood_eq a0 30 (by decide), Option.bind_some]
      by_cases hg : good a0 = true
      · have hz := good_size hg
        rw [if_pos hg, if_pos hg, show (⟨#[]⟩ : ByteArray) = strOfNums [] from rfl, w64 (by omega) (by omega), Mirror_loop a0 (by omega) a0.size 30 [] (by simp) (by omega), List.nil_append, List.take_of_length_le (by rw [intsOf_length]; exact Nat.le_refl _)]
      · rw [if_neg hg, if_neg hg]
    have h2 : impl_MirrorStrong.f a0 = some (if good a0 = true then (strOfNums (intsOf a0).reverse, true) else ((⟨#[]⟩ : ByteArray), false)) := by
      unfold impl_MirrorStrong.f
      rw [IsStrong_eq, Option.bind_some]
      by_cases hg : good a0 = true
      · have hz := good_size hg
        rw [if_pos hg, if_pos hg, mirrored_eq a0 (by omega), Option.bind_some]
      · rw [if_neg hg, if_neg hg]
    rw [h1, h2, Option.bind_some, Option.bind_some, if_pos rfl]
    simp
end Go.Proofs.YtlgbafblbgaoiaaDoor.K
