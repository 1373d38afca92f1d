/- Plain facts on the printed functions that the laws on rivers use; no conditions. -/
import Derived.Test.YtggfcjcicohaoaaDoorKx2
import Derived.Test.YtggfcjcicohaoaaDoorKx1
import Derived.Test.YtggfcjcicohaoaaDoorKx0
import Derived.OpenShut
set_option linter.unusedVariables false
set_option linter.unusedSimpArgs false
namespace Go.Proofs.YtggfcjcicohaoaaDoor.K
open Go.RowKit Go.Proofs.YtggfcjcicohaoaaDoorW.PrintWords Go.Proofs.YtggfcjcicohaoaaDoorW.PrintLast Go.Proofs.YtggfcjcicohaoaaDoorW.PrintMore
theorem w64 {x : Int} (h : -9223372036854775808 ≤ x) (h' : x ≤ 9223372036854775807) : wrap64 x = x := by unfold wrap64; omega
theorem l1In_eq (a lo hi : Int) : spec_l1In.f a lo hi = some (decide (lo ≤ a ∧ a ≤ hi)) := by
  unfold spec_l1In.f
  by_cases h : a ≥ lo
  · rw [if_pos h]
    have : lo ≤ a := h
    simp [this]
  · rw [if_neg h]
    have : ¬ lo ≤ a := h
    simp [this]
theorem within_eq (a lo hi : Int) : impl_within.f a lo hi = some (decide (lo ≤ a ∧ a ≤ hi)) := by
  unfold impl_within.f
  by_cases h : lo ≤ a
  · rw [if_pos h]
    simp [h]
  · rw [if_neg h]
    simp [h]
/-- The bytes of a text. -/
def intsOf (s : ByteArray) : List Int := s.data.toList.map fun b => (b.toNat : Int)
theorem intsOf_length (s : ByteArray) : (intsOf s).length = s.size := by simp [intsOf]
theorem bt_ints (s : ByteArray) (i : Nat) (h : i < s.size) : (intsOf s)[i]? = some (bt s (i : Int)) := by
  have e : bt s (i : Int) = ((s.data[i]'h).toNat : Int) := by
    unfold bt
    rw [dif_pos (by simpa using h)]
    rfl
  rw [e]
  unfold intsOf
  rw [List.getElem?_map, Array.getElem?_toList, Array.getElem?_eq_getElem h]
  rfl
theorem ints_drop (s : ByteArray) (i : Nat) (h : i < s.size) : (intsOf s).drop i = bt s (i : Int) :: (intsOf s).drop (i + 1) := by
  have h1 : i < (intsOf s).length := by rw [intsOf_length]; exact h
  have h2 := bt_ints s i h
  rw [List.getElem?_eq_getElem h1] at h2
  rw [List.drop_eq_getElem_cons h1, Option.some.inj h2]
theorem ints_end (s : ByteArray) (i : Nat) (h : s.size ≤ i) : (intsOf s).drop i = [] := List.drop_of_length_le (by rw [intsOf_length]; exact h)
theorem ints_append (s t : ByteArray) : intsOf (s ++ t) = intsOf s ++ intsOf t := by
  unfold intsOf
  rw [ByteArray.data_append, Array.toList_append, List.map_append]
theorem ints_extract (s : ByteArray) (a b : Nat) : intsOf (s.extract a b) = ((intsOf s).drop a).take (b - a) := by
  unfold intsOf
  rw [Lib.extract_data, ← List.map_drop, ← List.map_take]
theorem ints_of (xs : List Int) (h : ∀ x ∈ xs, 0 ≤ x ∧ x < 256) : intsOf (strOfNums xs) = xs := by
  unfold intsOf
  rw [strOfNums_data, List.map_map]
  refine (List.map_congr_left (g := id) (fun x hx => ?_)).trans (List.map_id xs)
  have := h x hx
  simp only [Function.comp, id]
  rw [UInt8.toNat_ofNat']
  omega
theorem num_ints (s : ByteArray) : strOfNums (intsOf s) = s := by
  refine ByteArray.ext (Array.toList_inj.1 ?_)
  rw [strOfNums_data, intsOf, List.map_map]
  refine (List.map_congr_left (g := id) (fun x hx => ?_)).trans (List.map_id _)
  simp only [Function.comp, id, Int.toNat_natCast]
  exact UInt8.ofNat_toNat
theorem num_append (xs ys : List Int) : strOfNums (xs ++ ys) = strOfNums xs ++ strOfNums ys := by
  refine ByteArray.ext (Array.toList_inj.1 ?_)
  rw [ByteArray.data_append, Array.toList_append, strOfNums_data, strOfNums_data, strOfNums_data, List.map_append]
theorem num_nil : strOfNums [] = (⟨#[]⟩ : ByteArray) := rfl
theorem num_size (xs : List Int) : (strOfNums xs).size = xs.length := strOfNums_size xs
theorem dropWhile_nil {α : Type} (p : α → Bool) : ∀ l : List α, l.dropWhile p = [] ↔ l.all p = true
  | [] => by simp
  | x :: l => by
    rw [List.dropWhile_cons]
    by_cases h : p x = true
    · rw [if_pos h, dropWhile_nil p l]
      simp [h]
    · rw [if_neg h]
      simp [h]
theorem dropWhile_head {α : Type} (p : α → Bool) : ∀ (l : List α) (x : α) (t : List α), l.dropWhile p = x :: t → p x = false
  | [], x, t, h => by simp at h
  | y :: l, x, t, h => by
    rw [List.dropWhile_cons] at h
    by_cases hy : p y = true
    · rw [if_pos hy] at h
      exact dropWhile_head p l x t h
    · rw [if_neg hy] at h
      injection h with h1 _
      rw [← h1]
      simpa using hy
theorem trim_nil (l cs : List UInt8) : Lib.trimS l cs = [] ↔ l.all (cs.contains ·) = true := by
  unfold Lib.trimS Lib.trimLeftS Lib.trimRightS
  rw [dropWhile_nil]
  constructor
  · intro h
    cases hm : l.reverse.dropWhile (cs.contains ·) with
    | nil =>
      rw [dropWhile_nil] at hm
      simpa using hm
    | cons x t =>
      have := dropWhile_head _ _ _ _ hm
      rw [hm] at h
      rw [List.all_eq_true] at h
      have h2 := h x (by simp)
      rw [this] at h2
      cases h2
  · intro h
    have : l.reverse.dropWhile (cs.contains ·) = [] := by
      rw [dropWhile_nil]
      simpa using h
    rw [this]
    rfl
def isOD (c : Int) : Bool := c == 111 || c == 46
def riv (s : ByteArray) : Bool := decide (1 ≤ s.size ∧ s.size ≤ 40) && (intsOf s).all isOD
theorem rvGood_loop (s : ByteArray) (hs : s.size ≤ 9223372036854775806) : ∀ (n k i : Nat), s.size - i ≤ n → i ≤ s.size → n < k → spec_rvGood.l0 k s (i : Int) = some (((intsOf s).drop i).all isOD) := by
  intro n
  induction n with
  | zero =>
    intro k i hn hi hk
    obtain ⟨k, rfl⟩ : ∃ k', k = k' + 1 := ⟨k - 1, by omega⟩
    simp only [spec_rvGood.l0]
    rw [if_neg (by omega), ints_end s i (by omega)]
    rfl
  | succ n ih =>
    intro k i hn hi hk
    obtain ⟨k, rfl⟩ : ∃ k', k = k' + 1 := ⟨k - 1, by omega⟩
    simp only [spec_rvGood.l0]
    by_cases h : i < s.size
    · rw [if_pos (by omega), if_pos (by omega), ints_drop s i h, List.all_cons, show wrap64 ((i : Int) + 1) = ((i + 1 : Nat) : Int) from by unfold wrap64; omega, ih k (i + 1) (by omega) (by omega) (by omega)]
      by_cases h1 : bt s (i : Int) = 111
      · rw [if_pos h1]
        simp [isOD, h1]
      · rw [if_neg h1]
        by_cases h2 : bt s (i : Int) = 46
        · rw [if_pos h2]
          simp [isOD, h2]
        · rw [if_neg h2]
          simp [isOD, h1, h2]
    · rw [if_neg (by omega), ints_end s i (by omega)]
      rfl
theorem rvGood_eq (s : ByteArray) (k : Nat) (hk : 42 ≤ k) : spec_rvGood.f k s = some (riv s) := by
  unfold spec_rvGood.f riv
  rw [l1In_eq, Option.bind_some]
  by_cases h : 1 ≤ s.size ∧ s.size ≤ 40
  · rw [if_pos (by simp; omega), decide_eq_true h, Bool.true_and]
    exact rvGood_loop s (by omega) s.size k 0 (by omega) (by omega) (by omega)
  · rw [if_neg (by simp; omega), decide_eq_false h, Bool.false_and]
theorem od_contains (b : UInt8) : ([111, 46] : List UInt8).contains b = isOD (b.toNat : Int) := by
  rw [Bool.eq_iff_iff]
  simp only [List.contains_iff_mem, List.mem_cons, List.not_mem_nil, or_false, isOD, Bool.or_eq_true, beq_iff_eq, ← UInt8.toNat_inj]
  simp only [show UInt8.toNat 111 = 111 from rfl, show UInt8.toNat 46 = 46 from rfl]
  omega
theorem IsRiver_eq (s : ByteArray) : impl_IsRiver.f s = some (riv s) := by
  unfold impl_IsRiver.f riv
  rw [within_eq, Option.bind_some]
  by_cases h : 1 ≤ s.size ∧ s.size ≤ 40
  · rw [if_pos (by simp; omega), decide_eq_true h, Bool.true_and]
    unfold strings_Trim.f
    rw [if_pos ⟨by omega, by decide, by decide⟩, Option.bind_some]
    congr 1
    rw [Bool.eq_iff_iff, ByteArray.toList_eq, beq_iff_eq]
    show Lib.trimS s.data.toList [111, 46] = [] ↔ _
    rw [trim_nil]
    unfold intsOf
    rw [List.all_map]
    have : ((fun b : UInt8 => ([111, 46] : List UInt8).contains b)) = (isOD ∘ fun b : UInt8 => (b.toNat : Int)) := funext fun b => od_contains b
    rw [this]
  · rw [if_neg (by simp; omega), decide_eq_false h, Bool.false_and]
theorem riv_size {s : ByteArray} (h : riv s = true) : 1 ≤ s.size ∧ s.size ≤ 40 := by
  unfold riv at h
  simp only [Bool.and_eq_true, decide_eq_true_eq] at h
  exact h.1
theorem rvAsked_eq (s : ByteArray) (leap : Int) (k : Nat) (hk : 42 ≤ k) : spec_rvAsked.f k s leap = some (riv s && decide (1 ≤ leap ∧ leap ≤ 50)) := by
  unfold spec_rvAsked.f
  rw [rvGood_eq s k hk, Option.bind_some]
  by_cases hg : riv s = true
  · rw [if_pos hg, hg, l1In_eq, Option.bind_some, Bool.true_and]
  · rw [if_neg hg, Bool.eq_false_iff.2 hg, Bool.false_and]
theorem isCrossed_eq (s : ByteArray) (leap : Int) : impl_isCrossed.f s leap = some (riv s && decide (1 ≤ leap ∧ leap ≤ 50)) := by
  unfold impl_isCrossed.f
  rw [IsRiver_eq s, Option.bind_some]
  by_cases hg : riv s = true
  · rw [if_pos hg, hg, within_eq, Option.bind_some, Bool.true_and]
  · rw [if_neg hg, Bool.eq_false_iff.2 hg, Bool.false_and]
end Go.Proofs.YtggfcjcicohaoaaDoor.K
