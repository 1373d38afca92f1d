/- Plain facts on the printed functions that the laws on strong rivers use (where one stands; crossings); no conditions. -/
import Derived.Test.YtaocebflcjomhaaDoorKx6
import Derived.Test.YtaocebflcjomhaaDoorKx1
import Derived.Test.YtaocebflcjomhaaDoorKBase
set_option linter.unusedVariables false
set_option linter.unusedSimpArgs false
namespace Go.Proofs.YtaocebflcjomhaaDoor.K
open Go.RowKit Go.Proofs.YtaocebflcjomhaaDoorW.PrintWords Go.Proofs.YtaocebflcjomhaaDoorW.PrintLast Go.Proofs.YtaocebflcjomhaaDoorW.PrintMore
/-- The places of the stones, n places on, behind i of them. -/
def stones (t : ByteArray) : Nat → Nat → List Int
  | 0, _ => []
  | n + 1, i => if bt t (i : Int) = 111 then ((i : Int) + 1) :: stones t n (i + 1) else stones t n (i + 1)
theorem stones_length (t : ByteArray) : ∀ (n i : Nat), (stones t n i).length ≤ n := by
  intro n
  induction n with
  | zero => intro i; exact Nat.le_refl _
  | succ n ih =>
    intro i
    have h := ih (i + 1)
    simp only [stones]
    by_cases c : bt t (i : Int) = 111
    · rw [if_pos c, List.length_cons]; omega
    · rw [if_neg c]; omega
theorem stones_mem (t : ByteArray) : ∀ (n i : Nat) (p : Int), p ∈ stones t n i ↔ ((i : Int) < p ∧ p ≤ (i : Int) + n ∧ bt t (p - 1) = 111) := by
  intro n
  induction n with
  | zero =>
    intro i p
    simp only [stones, List.not_mem_nil, false_iff]
    omega
  | succ n ih =>
    intro i p
    have h := ih (i + 1) p
    simp only [stones]
    by_cases c : bt t (i : Int) = 111
    · rw [if_pos c, List.mem_cons, h]
      constructor
      · rintro (rfl | ⟨h1, h2, h3⟩)
        · exact ⟨by omega, by omega, by rw [show (i : Int) + 1 - 1 = (i : Int) from by omega]; exact c⟩
        · exact ⟨by omega, by omega, h3⟩
      · rintro ⟨h1, h2, h3⟩
        by_cases e : p = (i : Int) + 1
        · exact Or.inl e
        · exact Or.inr ⟨by omega, by omega, h3⟩
    · rw [if_neg c, h]
      constructor
      · rintro ⟨h1, h2, h3⟩
        exact ⟨by omega, by omega, h3⟩
      · rintro ⟨h1, h2, h3⟩
        refine ⟨?_, by omega, h3⟩
        by_cases e : p = (i : Int) + 1
        · subst e
          rw [show (i : Int) + 1 - 1 = (i : Int) from by omega] at h3
          exact absurd h3 c
        · omega
theorem stand_loop (t : ByteArray) (ht : t.size ≤ 1048576) : ∀ (n k i : Nat) (x : List Int), n = t.size - i → i ≤ t.size → n < k → x.length ≤ i + 1 → impl_stand.l0 k t x (t.size : Int) (i : Int) = some (x ++ stones t n i ++ [(t.size : Int) + 1]) := by
  intro n
  induction n with
  | zero =>
    intro k i x hn hi hk hx
    obtain ⟨k, rfl⟩ : ∃ k', k = k' + 1 := ⟨k - 1, by omega⟩
    simp only [impl_stand.l0, stones]
    rw [if_neg (by omega), if_pos (by omega), w64 (by omega) (by omega), List.append_nil]
  | succ n ih =>
    intro k i x hn hi hk hx
    obtain ⟨k, rfl⟩ : ∃ k', k = k' + 1 := ⟨k - 1, by omega⟩
    simp only [impl_stand.l0, stones]
    rw [if_pos (by omega), if_pos (by omega), if_pos (by omega), show wrap64 ((i : Int) + 1) = ((i + 1 : Nat) : Int) from by unfold wrap64; omega]
    by_cases c : bt t (i : Int) = 111
    · rw [if_pos c, if_pos (by omega), if_pos c, ih k (i + 1) _ (by omega) (by omega) (by omega) (by simp; omega)]
      simp
    · rw [if_neg c, if_neg c, ih k (i + 1) _ (by omega) (by omega) (by omega) (by omega)]
/-- All places on which one stands. -/
def stands (t : ByteArray) : List Int := (0 : Int) :: stones t t.size 0 ++ [(t.size : Int) + 1]
theorem stand_eq (t : ByteArray) (ht : t.size ≤ 1048576) (k : Nat) (hk : t.size < k) : impl_stand.f k t = some (stands t) := by
  unfold impl_stand.f stands
  exact stand_loop t ht t.size k 0 [0] (by omega) (by omega) hk (by simp)
theorem stands_mem (t : ByteArray) (p : Int) : p ∈ stands t ↔ p = 0 ∨ p = (t.size : Int) + 1 ∨ (1 ≤ p ∧ p ≤ (t.size : Int) ∧ bt t (p - 1) = 111) := by
  unfold stands
  rw [List.cons_append, List.mem_cons, List.mem_append, stones_mem]
  simp only [List.mem_singleton]
  constructor
  · rintro (h | ⟨h1, h2, h3⟩ | h)
    · exact Or.inl h
    · exact Or.inr (Or.inr ⟨by omega, by omega, h3⟩)
    · exact Or.inr (Or.inl h)
  · rintro (h | h | ⟨h1, h2, h3⟩)
    · exact Or.inl h
    · exact Or.inr (Or.inr h)
    · exact Or.inr (Or.inl ⟨by omega, by omega, h3⟩)
/-- The river of a strong one. -/
def riverOf (s : ByteArray) : ByteArray := strOfNums ((intsOf s).map plainB)
theorem river_size (s : ByteArray) : (riverOf s).size = s.size := by rw [riverOf, num_size, List.length_map, intsOf_length]
theorem river_bt (s : ByteArray) (i : Nat) (h : i < s.size) : bt (riverOf s) (i : Int) = plainB (bt s (i : Int)) := by
  have h1 := bt_ints (riverOf s) i (by rw [river_size]; exact h)
  have h2 : intsOf (riverOf s) = (intsOf s).map plainB := ints_of _ (fun x hx => by
    obtain ⟨c, _, rfl⟩ := List.mem_map.1 hx
    unfold plainB
    split <;> omega)
  rw [h2, List.getElem?_map, bt_ints s i h] at h1
  exact (Option.some.inj h1).symm
theorem river_stone (s : ByteArray) (i : Nat) (h : i < s.size) : bt (riverOf s) (i : Int) = 111 ↔ bt s (i : Int) ≠ 48 := by
  rw [river_bt s i h, plainB]
  by_cases c : bt s (i : Int) = 48
  · rw [if_pos c]
    simp [c]
  · rw [if_neg c]
    simp [c]
theorem plain_river (s : ByteArray) (hs : s.size ≤ 1099511627776) : impl_plain.f s = some (riverOf s) := by
  unfold impl_plain.f
  rw [if_pos (by omega)]
  rfl
end Go.Proofs.YtaocebflcjomhaaDoor.K
