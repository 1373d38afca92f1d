/- Plain facts on the printed functions that the laws on strong rivers use (a step less); no conditions. -/
import Derived.Test.YtaocebflcjomhaaDoorKx7
import Derived.Test.YtaocebflcjomhaaDoorKx3
import Derived.Test.YtaocebflcjomhaaDoorKx2
import Derived.Test.YtaocebflcjomhaaDoorKNum
set_option linter.unusedVariables false
set_option linter.unusedSimpArgs false
namespace Go.Proofs.YtaocebflcjomhaaDoor.K
open Go.RowKit Go.Proofs.YtaocebflcjomhaaDoorW.PrintWords Go.Proofs.YtaocebflcjomhaaDoorW.PrintLast Go.Proofs.YtaocebflcjomhaaDoorW.PrintMore
theorem l1Most_eq (a b : Int) : spec_l1Most.f a b = some (if a > b then a else b) := by
  unfold spec_l1Most.f
  by_cases h : a > b
  · rw [if_pos h, if_pos h]
  · rw [if_neg h, if_neg h]
theorem wear_dig {c : Int} (h : 48 ≤ c ∧ c ≤ 57) (k : Nat) : ((spec_l1Most.f 0 ((c - 48) % 256 - 1)).bind fun t => spec_l1Num.f (k + 1) t) = some (strOfNums [wornB c]) := by
  rw [l1Most_eq, Option.bind_some, Int.emod_eq_of_lt (by omega) (by omega), wornB, Int.emod_eq_of_lt (by omega) (by omega)]
  by_cases h1 : 48 < c - 1
  · rw [if_pos h1, if_neg (by omega), l1Num_dig k _ (by omega) (by omega)]
    congr 3
    omega
  · rw [if_neg h1]
    by_cases h2 : (0 : Int) > c - 48 - 1
    · rw [if_pos h2, l1Num_dig k _ (by omega) (by omega)]
      rfl
    · rw [if_neg h2, l1Num_dig k _ (by omega) (by omega)]
      congr 3
      omega
theorem siWear_loop (s : ByteArray) (hg : good s = true) : ∀ (n k i : Nat) (xs : List Int), s.size - i ≤ n → i ≤ s.size → n + 1 < k → xs.length = i → spec_siWear.l0 k s (strOfNums xs) (i : Int) = some (strOfNums (xs ++ ((intsOf s).drop i).map wornB)) := by
  have hz := good_size hg
  intro n
  induction n with
  | zero =>
    intro k i xs hn hi hk hx
    obtain ⟨k, rfl⟩ : ∃ k', k = k' + 1 := ⟨k - 1, by omega⟩
    simp only [spec_siWear.l0]
    rw [if_neg (by omega), ints_end s i (by omega), List.map_nil, List.append_nil]
  | succ n ih =>
    intro k i xs hn hi hk hx
    obtain ⟨k, rfl⟩ : ∃ k', k = k' + 1 := ⟨k - 1, by omega⟩
    simp only [spec_siWear.l0]
    by_cases h : i < s.size
    · have hw := wear_dig (good_dig hg i h) (k - 1)
      rw [show k - 1 + 1 = k from by omega] at hw
      rw [l1Most_eq, Option.bind_some] at hw
      rw [if_pos (by omega), if_pos (by omega), l1Most_eq, Option.bind_some, hw, Option.bind_some, num_size, num_size, if_pos (by simp; omega)]
      rw [w64 (x := (i : Int) + 1) (by omega) (by omega), show (i : Int) + 1 = ((i + 1 : Nat) : Int) from by omega, ← num_append, ih k (i + 1) _ (by omega) (by omega) (by omega) (by simp [hx])]
      rw [ints_drop s i h, List.map_cons, List.append_assoc]
      rfl
    · rw [if_neg (by omega), ints_end s i (by omega), List.map_nil, List.append_nil]
theorem siWear_eq (s : ByteArray) (hg : good s = true) (k : Nat) (hk : 22 ≤ k) : spec_siWear.f k s = some (strOfNums ((intsOf s).map wornB)) := by
  have hz := good_size hg
  unfold spec_siWear.f
  have := siWear_loop s hg s.size k 0 [] (by omega) (by omega) (by omega) rfl
  simpa [num_nil] using this
theorem worn_eq (s : ByteArray) (hs : s.size ≤ 1099511627776) : impl_worn.f s = some (strOfNums ((intsOf s).map wornB)) := by
  unfold impl_worn.f
  rw [if_pos (by omega)]
end Go.Proofs.YtaocebflcjomhaaDoor.K
