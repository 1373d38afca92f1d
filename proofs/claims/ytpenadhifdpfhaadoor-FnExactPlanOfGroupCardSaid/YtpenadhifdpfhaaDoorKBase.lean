/- Plain facts on the printed functions that the laws on strong rivers use; no conditions. -/
import Derived.Test.YtpenadhifdpfhaaDoorKx0
import Derived.OpenShut
import Derived.Test.YtpenadhifdpfhaaDoorKx1
set_option linter.unusedVariables false
set_option linter.unusedSimpArgs false
namespace Go.Proofs.YtpenadhifdpfhaaDoor.K
open Go.RowKit Go.Proofs.YtpenadhifdpfhaaDoorW.PrintWords Go.Proofs.YtpenadhifdpfhaaDoorW.PrintLast Go.Proofs.YtpenadhifdpfhaaDoorW.PrintMore
def intsOf (s : ByteArray) : List Int := s.data.toList.map fun b => (b.toNat : Int)
theorem intsOf_length (s : ByteArray) : (intsOf s).length = s.size := by simp [intsOf]
theorem w64 {x : Int} (h : -9223372036854775808 ≤ x) (h' : x ≤ 9223372036854775807) : wrap64 x = x := by unfold wrap64; omega
theorem l1In_eq (a lo hi : Int) : spec_l1In.f a lo hi = some (decide (lo ≤ a ∧ a ≤ hi)) := by
  unfold spec_l1In.f
  by_cases h : a ≥ lo
  · rw [if_pos h]
    have : lo ≤ a := h
    simp [this]
  · rw [if_neg h]
    have : ¬ lo ≤ a := h
    simp [this]
theorem within_eq (a lo hi : Int) : impl_within.f a lo hi = some (decide (lo ≤ a ∧ a ≤ hi)) := by
  unfold impl_within.f
  by_cases h : lo ≤ a
  · rw [if_pos h]
    simp [h]
  · rw [if_neg h]
    simp [h]
theorem bt_ints (s : ByteArray) (i : Nat) (h : i < s.size) : (intsOf s)[i]? = some (bt s (i : Int)) := by
  have e : bt s (i : Int) = ((s.data[i]'h).toNat : Int) := by
    unfold bt
    rw [dif_pos (by simpa using h)]
    rfl
  rw [e]
  unfold intsOf
  rw [List.getElem?_map, Array.getElem?_toList, Array.getElem?_eq_getElem h]
  rfl
theorem ints_drop (s : ByteArray) (i : Nat) (h : i < s.size) : (intsOf s).drop i = bt s (i : Int) :: (intsOf s).drop (i + 1) := by
  have h1 : i < (intsOf s).length := by rw [intsOf_length]; exact h
  have h2 := bt_ints s i h
  rw [List.getElem?_eq_getElem h1] at h2
  rw [List.drop_eq_getElem_cons h1, Option.some.inj h2]
theorem ints_end (s : ByteArray) (i : Nat) (h : s.size ≤ i) : (intsOf s).drop i = [] := List.drop_of_length_le (by rw [intsOf_length]; exact h)
theorem ints_append (s t : ByteArray) : intsOf (s ++ t) = intsOf s ++ intsOf t := by
  unfold intsOf
  rw [ByteArray.data_append, Array.toList_append, List.map_append]
theorem ints_extract (s : ByteArray) (a b : Nat) : intsOf (s.extract a b) = ((intsOf s).drop a).take (b - a) := by
  unfold intsOf
  rw [Lib.extract_data, ← List.map_drop, ← List.map_take]
theorem ints_of (xs : List Int) (h : ∀ x ∈ xs, 0 ≤ x ∧ x < 256) : intsOf (strOfNums xs) = xs := by
  unfold intsOf
  rw [strOfNums_data, List.map_map]
  refine (List.map_congr_left (g := id) (fun x hx => ?_)).trans (List.map_id xs)
  have := h x hx
  simp only [Function.comp, id]
  rw [UInt8.toNat_ofNat']
  omega
theorem num_ints (s : ByteArray) : strOfNums (intsOf s) = s := by
  refine ByteArray.ext (Array.toList_inj.1 ?_)
  rw [strOfNums_data, intsOf, List.map_map]
  refine (List.map_congr_left (g := id) (fun x hx => ?_)).trans (List.map_id _)
  simp only [Function.comp, id, Int.toNat_natCast]
  exact UInt8.ofNat_toNat
theorem num_append (xs ys : List Int) : strOfNums (xs ++ ys) = strOfNums xs ++ strOfNums ys := by
  refine ByteArray.ext (Array.toList_inj.1 ?_)
  rw [ByteArray.data_append, Array.toList_append, strOfNums_data, strOfNums_data, strOfNums_data, List.map_append]
theorem num_nil : strOfNums [] = (⟨#[]⟩ : ByteArray) := rfl
theorem num_size (xs : List Int) : (strOfNums xs).size = xs.length := strOfNums_size xs
def isDig (c : Int) : Bool := decide (48 ≤ c) && decide (c ≤ 57)
def good (s : ByteArray) : Bool := decide (1 ≤ s.size ∧ s.size ≤ 20) && (intsOf s).all isDig
theorem siGood_loop (s : ByteArray) (hs : s.size ≤ 9223372036854775806) : ∀ (n k i : Nat), s.size - i ≤ n → i ≤ s.size → n < k → spec_siGood.l0 k s (i : Int) = some (((intsOf s).drop i).all isDig) := by
  intro n
  induction n with
  | zero =>
    intro k i hn hi hk
    obtain ⟨k, rfl⟩ : ∃ k', k = k' + 1 := ⟨k - 1, by omega⟩
    simp only [spec_siGood.l0]
    rw [if_neg (by omega), ints_end s i (by omega)]
    rfl
  | succ n ih =>
    intro k i hn hi hk
    obtain ⟨k, rfl⟩ : ∃ k', k = k' + 1 := ⟨k - 1, by omega⟩
    simp only [spec_siGood.l0]
    by_cases h : i < s.size
    · rw [if_pos (by omega), if_pos (by omega), ints_drop s i h, List.all_cons]
      by_cases h1 : bt s (i : Int) < 48
      · rw [if_pos h1]
        have : isDig (bt s (i : Int)) = false := by simp [isDig]; omega
        rw [this]; rfl
      · rw [if_neg h1]
        by_cases h2 : bt s (i : Int) > 57
        · rw [if_pos h2]
          have : isDig (bt s (i : Int)) = false := by simp [isDig]; omega
          rw [this]; rfl
        · rw [if_neg h2]
          have : isDig (bt s (i : Int)) = true := by simp [isDig]; omega
          rw [this, Bool.true_and, show wrap64 ((i : Int) + 1) = ((i + 1 : Nat) : Int) from by unfold wrap64; omega]
          exact ih k (i + 1) (by omega) (by omega) (by omega)
    · rw [if_neg (by omega), ints_end s i (by omega)]
      rfl
theorem siGood_eq (s : ByteArray) (k : Nat) (hk : 22 ≤ k) : spec_siGood.f k s = some (good s) := by
  unfold spec_siGood.f good
  rw [l1In_eq, Option.bind_some]
  by_cases h : 1 ≤ s.size ∧ s.size ≤ 20
  · rw [if_pos (by simp; omega), decide_eq_true h, Bool.true_and]
    exact siGood_loop s (by omega) s.size k 0 (by omega) (by omega) (by omega)
  · rw [if_neg (by simp; omega), decide_eq_false h, Bool.false_and]
theorem dropWhile_nil {α : Type} (p : α → Bool) : ∀ l : List α, l.dropWhile p = [] ↔ l.all p = true
  | [] => by simp
  | x :: l => by
    rw [List.dropWhile_cons]
    by_cases h : p x = true
    · rw [if_pos h, dropWhile_nil p l]
      simp [h]
    · rw [if_neg h]
      simp [h]
theorem dropWhile_head {α : Type} (p : α → Bool) : ∀ (l : List α) (x : α) (t : List α), l.dropWhile p = x :: t → p x = false
  | [], x, t, h => by simp at h
  | y :: l, x, t, h => by
    rw [List.dropWhile_cons] at h
    by_cases hy : p y = true
    · rw [if_pos hy] at h
      exact dropWhile_head p l x t h
    · rw [if_neg hy] at h
      injection h with h1 _
      rw [← h1]
      simpa using hy
theorem trim_nil (l cs : List UInt8) : Lib.trimS l cs = [] ↔ l.all (cs.contains ·) = true := by
  unfold Lib.trimS Lib.trimLeftS Lib.trimRightS
  rw [dropWhile_nil]
  constructor
  · intro h
    cases hm : l.reverse.dropWhile (cs.contains ·) with
    | nil =>
      rw [dropWhile_nil] at hm
      simpa using hm
    | cons x t =>
      have := dropWhile_head _ _ _ _ hm
      rw [hm] at h
      rw [List.all_eq_true] at h
      have h2 := h x (by simp)
      rw [this] at h2
      cases h2
  · intro h
    have : l.reverse.dropWhile (cs.contains ·) = [] := by
      rw [dropWhile_nil]
      simpa using h
    rw [this]
    rfl
theorem dig_contains (b : UInt8) : ([48, 49, 50, 51, 52, 53, 54, 55, 56, 57] : List UInt8).contains b = isDig (b.toNat : Int) := by
  rw [Bool.eq_iff_iff]
  simp only [List.contains_iff_mem, List.mem_cons, List.not_mem_nil, or_false, isDig, Bool.and_eq_true, decide_eq_true_eq, ← UInt8.toNat_inj]
  simp only [show UInt8.toNat 48 = 48 from rfl, show UInt8.toNat 49 = 49 from rfl, show UInt8.toNat 50 = 50 from rfl, show UInt8.toNat 51 = 51 from rfl, show UInt8.toNat 52 = 52 from rfl, show UInt8.toNat 53 = 53 from rfl, show UInt8.toNat 54 = 54 from rfl, show UInt8.toNat 55 = 55 from rfl, show UInt8.toNat 56 = 56 from rfl, show UInt8.toNat 57 = 57 from rfl]
  omega
theorem IsStrong_eq (s : ByteArray) : impl_IsStrong.f s = some (good s) := by
  unfold impl_IsStrong.f good
  rw [within_eq, Option.bind_some]
  by_cases h : 1 ≤ s.size ∧ s.size ≤ 20
  · rw [if_pos (by simp; omega), decide_eq_true h, Bool.true_and]
    unfold strings_Trim.f
    rw [if_pos ⟨by omega, by decide, by decide⟩, Option.bind_some]
    congr 1
    rw [Bool.eq_iff_iff, ByteArray.toList_eq, beq_iff_eq]
    show Lib.trimS s.data.toList [48, 49, 50, 51, 52, 53, 54, 55, 56, 57] = [] ↔ _
    rw [trim_nil]
    unfold intsOf
    rw [List.all_map]
    have : ((fun b : UInt8 => ([48, 49, 50, 51, 52, 53, 54, 55, 56, 57] : List UInt8).contains b)) = (isDig ∘ fun b : UInt8 => (b.toNat : Int)) := funext fun b => dig_contains b
    rw [this]
  · rw [if_neg (by simp; omega), decide_eq_false h, Bool.false_and]
theorem good_size {s : ByteArray} (h : good s = true) : 1 ≤ s.size ∧ s.size ≤ 20 := by
  unfold good at h
  simp only [Bool.and_eq_true, decide_eq_true_eq] at h
  exact h.1
theorem good_dig {s : ByteArray} (h : good s = true) (i : Nat) (hi : i < s.size) : 48 ≤ bt s (i : Int) ∧ bt s (i : Int) ≤ 57 := by
  unfold good at h
  simp only [Bool.and_eq_true, List.all_eq_true] at h
  have := h.2 _ (List.mem_of_getElem? (bt_ints s i hi))
  simpa [isDig] using this
theorem said_eq {x y : Option (ByteArray × Bool)} {v : ByteArray × Bool} (hx : x = some v) (hy : y = some v) :
    (x.bind fun p => y.bind fun q => if q.1.toList = p.1.toList then (if (q.2 != p.2) = true then some false else some true) else some false) = some true := by
  rw [hx, hy, Option.bind_some, Option.bind_some, if_pos rfl]
  simp
end Go.Proofs.YtpenadhifdpfhaaDoor.K
