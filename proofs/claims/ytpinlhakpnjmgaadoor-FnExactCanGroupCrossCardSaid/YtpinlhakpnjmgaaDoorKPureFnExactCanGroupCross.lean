/- The plain law of FnExactCanGroupCross; no conditions. -/
import Derived.Test.YtpinlhakpnjmgaaDoorKCan
import Derived.Test.YtpinlhakpnjmgaaDoorKx10
set_option linter.unusedVariables false
set_option linter.unusedSimpArgs false
namespace Go.Proofs.YtpinlhakpnjmgaaDoor.K
open Go.RowKit Go.Proofs.YtpinlhakpnjmgaaDoorW.PrintWords Go.Proofs.YtpinlhakpnjmgaaDoorW.PrintLast Go.Proofs.YtpinlhakpnjmgaaDoorW.PrintMore
theorem CanGroup_spec (s : ByteArray) (leap group : Int) (k : Nat) (hk : 50 ≤ k) : spec_CanGroupCross.f k s leap group = some (if (good s && decide (1 ≤ leap ∧ leap ≤ 21)) = true ∧ (1 ≤ group ∧ group ≤ 100) then (can s leap group, true) else (false, false)) := by
  unfold spec_CanGroupCross.f
  rw [asked_eq s leap k (by omega), Option.bind_some]
  by_cases h : (good s && decide (1 ≤ leap ∧ leap ≤ 21)) = true
  · have h' := h
    simp only [Bool.and_eq_true, decide_eq_true_eq] at h'
    rw [if_pos h, siGroup_eq, Option.bind_some]
    by_cases h2 : 1 ≤ group ∧ group ≤ 100
    · rw [if_pos (decide_eq_true h2), if_pos ⟨h, h2⟩, siCan_eq s (good_size h'.1).2 leap group (by omega) k hk, Option.bind_some]
    · rw [if_neg (by simp only [decide_eq_true_eq]; exact h2), if_neg (fun x => h2 x.2)]
  · rw [if_neg h, if_neg (fun x => h x.1)]
theorem CanGroup_impl (s : ByteArray) (leap group : Int) (k : Nat) (hk : 50 ≤ k) : impl_CanGroupCross.f k s leap group = some (if (good s && decide (1 ≤ leap ∧ leap ≤ 21)) = true ∧ (1 ≤ group ∧ group ≤ 100) then (can s leap group, true) else (false, false)) := by
  unfold impl_CanGroupCross.f
  rw [isSunk_eq s leap, Option.bind_some]
  by_cases h : (good s && decide (1 ≤ leap ∧ leap ≤ 21)) = true
  · have h' := h
    simp only [Bool.and_eq_true, decide_eq_true_eq] at h'
    rw [if_pos h, within_eq, Option.bind_some]
    by_cases h2 : 1 ≤ group ∧ group ≤ 100
    · rw [if_pos (decide_eq_true h2), if_pos ⟨h, h2⟩, crosses_eq s (good_size h'.1).2 leap group (by omega) k hk, Option.bind_some]
    · rw [if_neg (by simp only [decide_eq_true_eq]; exact h2), if_neg (fun x => h2 x.2)]
  · rw [if_neg h, if_neg (fun x => h x.1)]
theorem FnExactCanGroupCross_pure (a0 : ByteArray) (a1 a2 : Int) (w0 : a0.size ≤ 140737488351232) (w1 : (Lit.int .i64 a1).wf = true) (w2 : (Lit.int .i64 a2).wf = true) : ∃ k, laws_FnExactCanGroupCross.f k a0 a1 a2 = some true := by
  refine ⟨50, ?_⟩
  unfold laws_FnExactCanGroupCross.f
  by_cases h : (a0.size : Int) > 1048576
  · rw [if_pos h]
  · rw [if_neg h, CanGroup_spec a0 a1 a2 50 (by decide), Option.bind_some, CanGroup_impl a0 a1 a2 50 (by decide), Option.bind_some]
    simp
end Go.Proofs.YtpinlhakpnjmgaaDoor.K
