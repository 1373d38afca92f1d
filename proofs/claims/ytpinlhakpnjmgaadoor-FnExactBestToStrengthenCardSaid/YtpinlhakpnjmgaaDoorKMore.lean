/- Plain facts on the printed functions that the laws on strong rivers use (a place that bears more); no conditions. -/
import Derived.Test.YtpinlhakpnjmgaaDoorKx13
import Derived.Test.YtpinlhakpnjmgaaDoorKNum
import Derived.Test.YtpinlhakpnjmgaaDoorKSum
set_option linter.unusedVariables false
set_option linter.unusedSimpArgs false
namespace Go.Proofs.YtpinlhakpnjmgaaDoor.K
open Go.RowKit Go.Proofs.YtpinlhakpnjmgaaDoorW.PrintWords Go.Proofs.YtpinlhakpnjmgaaDoorW.PrintLast Go.Proofs.YtpinlhakpnjmgaaDoorW.PrintMore
theorem set_split (s : ByteArray) (i : Nat) (h : i < s.size) (c : Int) : (s.extract 0 i ++ strOfNums [c]) ++ s.extract (i + 1) s.size = strOfNums ((intsOf s).set i c) := by
  have h1 : i < (intsOf s).length := by rw [intsOf_length]; exact h
  rw [← num_ints (s.extract 0 i), ← num_ints (s.extract (i + 1) s.size), ints_extract, ints_extract, ← num_append, ← num_append, List.set_eq_take_append_cons_drop, if_pos h1]
  congr 1
  rw [List.drop_zero, Nat.sub_zero, List.take_of_length_le (l := (intsOf s).drop (i + 1)) (by rw [List.length_drop, intsOf_length]; omega), List.append_assoc]
  rfl
theorem siMore_eq (s : ByteArray) (hg : good s = true) (i : Nat) (h : i < s.size) (b : Int) (hb : 1 ≤ b ∧ b ≤ 9) (k : Nat) : spec_siMore.f (k + 1) s ((i : Int) + 1) b = some (if bt s (i : Int) + b > 57 then ((⟨#[]⟩ : ByteArray), false) else (strOfNums ((intsOf s).set i (bt s (i : Int) + b)), true)) := by
  have hz := good_size hg
  have hd := good_dig hg i h
  unfold spec_siMore.f
  rw [show (i : Int) + 1 - 1 = (i : Int) from by omega, w64 (x := (i : Int)) (by omega) (by omega), if_pos (by omega), if_pos (by omega), Int.emod_eq_of_lt (by omega) (by omega), w64 (by omega) (by omega)]
  by_cases c : bt s (i : Int) + b > 57
  · rw [if_pos (by omega), if_pos c]
  · rw [if_neg (by omega), if_neg c, if_pos (by omega), l1Num_dig k _ (by omega) (by omega), Option.bind_some, Int.toNat_natCast, show ((i : Int) + 1).toNat = i + 1 from by omega]
    rw [if_pos (by rw [num_size, ByteArray.size_extract]; simp; omega), if_pos (by omega), if_pos (by omega), if_pos (by rw [ByteArray.size_append, num_size, ByteArray.size_extract, ByteArray.size_extract]; simp; omega), set_split s i h]
    rw [show 48 + (bt s (i : Int) - 48 + b) = bt s (i : Int) + b from by omega]
theorem put_eq (s : ByteArray) (hz : s.size ≤ 1099511627776) (i : Nat) (h : i < s.size) (c : Int) : impl_put.f s ((i : Int) + 1) c = some (strOfNums ((intsOf s).set i c)) := by
  unfold impl_put.f
  rw [show (i : Int) + 1 - 1 = (i : Int) from by omega, w64 (x := (i : Int)) (by omega) (by omega), if_pos (by omega), if_pos (by omega), Option.bind_some, Int.toNat_natCast, show ((i : Int) + 1).toNat = i + 1 from by omega]
  rw [if_pos (by rw [num_size, ByteArray.size_extract]; simp; omega), if_pos (by omega), if_pos (by omega), if_pos (by rw [ByteArray.size_append, num_size, ByteArray.size_extract, ByteArray.size_extract]; simp; omega), set_split s i h]
theorem More_eq (s : ByteArray) (hg : good s = true) (i : Nat) (h : i < s.size) (b : Int) (hb : 1 ≤ b ∧ b ≤ 9) : impl_MakeStronger.f s ((i : Int) + 1) b = some (if bt s (i : Int) + b > 57 then ((⟨#[]⟩ : ByteArray), false) else (strOfNums ((intsOf s).set i (bt s (i : Int) + b)), true)) := by
  have hz := good_size hg
  have hd := good_dig hg i h
  unfold impl_MakeStronger.f
  rw [IsStrong_eq, hg, Option.bind_some, if_pos rfl, within_eq, Option.bind_some, if_pos (by simp; omega), within_eq, Option.bind_some, if_pos (by simp; omega), bears_eq s i h (by omega), Option.bind_some, Int.emod_eq_of_lt (by omega) (by omega), w64 (by omega) (by omega)]
  by_cases c : bt s (i : Int) + b > 57
  · rw [if_pos (by omega), if_pos c]
  · rw [if_neg (by omega), if_neg c, show (i : Int) + 1 - 1 = (i : Int) from by omega, w64 (x := (i : Int)) (by omega) (by omega), if_pos (by omega), if_pos (by omega), Int.emod_eq_of_lt (a := b) (by omega) (by omega), Int.emod_eq_of_lt (by omega) (by omega), put_eq s (by omega) i h, Option.bind_some]
end Go.Proofs.YtpinlhakpnjmgaaDoor.K
