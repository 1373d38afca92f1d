/- The plain law of FnExactLeapForGroup; no conditions. -/
import Derived.Test.YtpinlhakpnjmgaaDoorKCan
import Derived.Test.YtpinlhakpnjmgaaDoorKx11
set_option linter.unusedVariables false
set_option linter.unusedSimpArgs false
namespace Go.Proofs.YtpinlhakpnjmgaaDoor.K
open Go.RowKit Go.Proofs.YtpinlhakpnjmgaaDoorW.PrintWords Go.Proofs.YtpinlhakpnjmgaaDoorW.PrintLast Go.Proofs.YtpinlhakpnjmgaaDoorW.PrintMore
/-- The least length of leaps, from L on. -/
def leapOf (s : ByteArray) (g : Int) : Nat → Nat → Int
  | 0, L => (L : Int)
  | n + 1, L => if can s (L : Int) g = true then (L : Int) else leapOf s g n (L + 1)
theorem can_past (s : ByteArray) (g : Int) (L : Nat) (h : s.size < L) : can s (L : Int) g = true := by
  unfold can
  rw [if_pos (by omega)]
theorem Leap_spec (s : ByteArray) (hs : s.size ≤ 20) (g : Int) : ∀ (n k L : Nat), n = s.size + 1 - L → L ≤ 21 → n + 50 < k → spec_LeapForGroup.l0 k s g (L : Int) = some (leapOf s g n L, true) := by
  intro n
  induction n with
  | zero =>
    intro k L hn hL hk
    obtain ⟨k, rfl⟩ : ∃ k', k = k' + 1 := ⟨k - 1, by omega⟩
    simp only [spec_LeapForGroup.l0, leapOf]
    rw [siCan_eq s hs _ _ (by omega) k (by omega), Option.bind_some, can_past s g L (by omega), if_pos rfl]
  | succ n ih =>
    intro k L hn hL hk
    obtain ⟨k, rfl⟩ : ∃ k', k = k' + 1 := ⟨k - 1, by omega⟩
    simp only [spec_LeapForGroup.l0, leapOf]
    rw [siCan_eq s hs _ _ (by omega) k (by omega), Option.bind_some]
    by_cases c : can s (L : Int) g = true
    · rw [if_pos c, if_pos c]
    · rw [if_neg c, if_neg c, show wrap64 ((L : Int) + 1) = ((L + 1 : Nat) : Int) from by unfold wrap64; omega]
      exact ih k (L + 1) (by omega) (by omega) (by omega)
theorem Leap_impl (s : ByteArray) (hs : s.size ≤ 20) (g : Int) : ∀ (n k L : Nat), n = s.size + 1 - L → L ≤ 21 → n + 50 < k → impl_LeapForGroup.l0 k s g (L : Int) = some (leapOf s g n L, true) := by
  intro n
  induction n with
  | zero =>
    intro k L hn hL hk
    obtain ⟨k, rfl⟩ : ∃ k', k = k' + 1 := ⟨k - 1, by omega⟩
    simp only [impl_LeapForGroup.l0, leapOf]
    rw [crosses_eq s hs _ _ (by omega) k (by omega), Option.bind_some, can_past s g L (by omega), if_pos rfl]
  | succ n ih =>
    intro k L hn hL hk
    obtain ⟨k, rfl⟩ : ∃ k', k = k' + 1 := ⟨k - 1, by omega⟩
    simp only [impl_LeapForGroup.l0, leapOf]
    rw [crosses_eq s hs _ _ (by omega) k (by omega), Option.bind_some]
    by_cases c : can s (L : Int) g = true
    · rw [if_pos c, if_pos c]
    · rw [if_neg c, if_neg c, show wrap64 ((L : Int) + 1) = ((L + 1 : Nat) : Int) from by unfold wrap64; omega]
      exact ih k (L + 1) (by omega) (by omega) (by omega)
theorem FnExactLeapForGroup_pure (a0 : ByteArray) (a1 : Int) (w0 : a0.size ≤ 140737488351232) (w1 : (Lit.int .i64 a1).wf = true) : ∃ k, laws_FnExactLeapForGroup.f k a0 a1 = some true := by
  refine ⟨100, ?_⟩
  unfold laws_FnExactLeapForGroup.f
  by_cases h : (a0.size : Int) > 1048576
  · rw [if_pos h]
  · rw [if_neg h]
    have h1 : spec_LeapForGroup.f 100 a0 a1 = some (if good a0 = true ∧ (1 ≤ a1 ∧ a1 ≤ 100) then (leapOf a0 a1 (a0.size + 1 - 1) 1, true) else (0, false)) := by
      unfold spec_LeapForGroup.f
      rw [siGood_eq a0 100 (by decide), Option.bind_some]
      by_cases hg : good a0 = true
      · rw [if_pos hg, siGroup_eq, Option.bind_some]
        by_cases h2 : 1 ≤ a1 ∧ a1 ≤ 100
        · rw [if_pos ⟨hg, h2⟩, decide_eq_true h2]
          simp only [spec_LeapForGroup.j0, Bool.not_true]
          rw [if_neg (by decide)]
          exact Leap_spec a0 (good_size hg).2 a1 _ 99 1 rfl (by omega) (by have := (good_size hg).2; omega)
        · rw [if_neg (fun x => h2 x.2), decide_eq_false h2]
          simp only [spec_LeapForGroup.j0, Bool.not_false]
          rw [if_pos trivial]
      · rw [if_neg hg, if_neg (fun x => hg x.1)]
        simp only [spec_LeapForGroup.j0]
        rw [if_pos trivial]
    have h2 : impl_LeapForGroup.f 100 a0 a1 = some (if good a0 = true ∧ (1 ≤ a1 ∧ a1 ≤ 100) then (leapOf a0 a1 (a0.size + 1 - 1) 1, true) else (0, false)) := by
      unfold impl_LeapForGroup.f
      rw [IsStrong_eq, Option.bind_some]
      by_cases hg : good a0 = true
      · rw [if_pos hg, within_eq, Option.bind_some]
        by_cases h2 : 1 ≤ a1 ∧ a1 ≤ 100
        · rw [if_pos ⟨hg, h2⟩, decide_eq_true h2]
          simp only [impl_LeapForGroup.j0, Bool.not_true]
          rw [if_neg (by decide)]
          exact Leap_impl a0 (good_size hg).2 a1 _ 99 1 rfl (by omega) (by have := (good_size hg).2; omega)
        · rw [if_neg (fun x => h2 x.2), decide_eq_false h2]
          simp only [impl_LeapForGroup.j0, Bool.not_false]
          rw [if_pos trivial]
      · rw [if_neg hg, if_neg (fun x => hg x.1)]
        simp only [impl_LeapForGroup.j0]
        rw [if_pos trivial]
    rw [h1, Option.bind_some, h2, Option.bind_some]
    simp
end Go.Proofs.YtpinlhakpnjmgaaDoor.K
