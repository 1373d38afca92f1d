/- The plain law of FnExactMakeStronger; no conditions. -/
import Derived.Test.YtlgbafblbgaoiaaDoorKMore
import Derived.Test.YtlgbafblbgaoiaaDoorKx9
set_option linter.unusedVariables false
set_option linter.unusedSimpArgs false
namespace Go.Proofs.YtlgbafblbgaoiaaDoor.K
open Go.RowKit Go.Proofs.YtlgbafblbgaoiaaDoorW.PrintWords Go.Proofs.YtlgbafblbgaoiaaDoorW.PrintLast Go.Proofs.YtlgbafblbgaoiaaDoorW.PrintMore
theorem FnExactMakeStronger_pure (a0 : ByteArray) (a1 a2 : Int) (w0 : a0.size ≤ 140737488351232) (w1 : (Lit.int .i64 a1).wf = true) (w2 : (Lit.int .i64 a2).wf = true) : ∃ k, laws_FnExactMakeStronger.f k a0 a1 a2 = some true := by
  refine ⟨30, ?_⟩
  unfold laws_FnExactMakeStronger.f
  by_cases h : (a0.size : Int) > 1048576
  · rw [if_pos h]
  · rw [if_neg h]
    suffices hs : ∃ v, spec_MakeStronger.f 30 a0 a1 a2 = some v ∧ impl_MakeStronger.f a0 a1 a2 = some v from by
      obtain ⟨v, h1, h2⟩ := hs
      exact said_eq h1 h2
    by_cases hq : good a0 = true ∧ (1 ≤ a1 ∧ a1 ≤ (a0.size : Int)) ∧ 1 ≤ a2 ∧ a2 ≤ 9
    · obtain ⟨hg, hp, hb⟩ := hq
      obtain ⟨i, rfl⟩ : ∃ i : Nat, a1 = (i : Int) + 1 := ⟨(a1 - 1).toNat, by omega⟩
      refine ⟨_, ?_, More_eq a0 hg i (by omega) a2 hb⟩
      unfold spec_MakeStronger.f
      rw [siGood_eq a0 30 (by decide), hg, Option.bind_some, if_pos rfl, l1In_eq, Option.bind_some, if_pos (decide_eq_true hp), l1In_eq, Option.bind_some, if_pos (decide_eq_true hb), siMore_eq a0 hg i (by omega) a2 hb 29, Option.bind_some]
    · refine ⟨((⟨#[]⟩ : ByteArray), false), ?_, ?_⟩
      · unfold spec_MakeStronger.f
        rw [siGood_eq a0 30 (by decide), Option.bind_some]
        by_cases hg : good a0 = true
        · rw [if_pos hg, l1In_eq, Option.bind_some]
          by_cases hp : 1 ≤ a1 ∧ a1 ≤ (a0.size : Int)
          · rw [if_pos (decide_eq_true hp), l1In_eq, Option.bind_some, if_neg (by simp only [decide_eq_true_eq]; exact fun x => hq ⟨hg, hp, x⟩)]
          · rw [if_neg (by simp only [decide_eq_true_eq]; exact hp)]
        · rw [if_neg hg]
      · unfold impl_MakeStronger.f
        rw [IsStrong_eq, Option.bind_some]
        by_cases hg : good a0 = true
        · rw [if_pos hg, within_eq, Option.bind_some]
          by_cases hp : 1 ≤ a1 ∧ a1 ≤ (a0.size : Int)
          · rw [if_pos (decide_eq_true hp), within_eq, Option.bind_some, if_neg (by simp only [decide_eq_true_eq]; exact fun x => hq ⟨hg, hp, x⟩)]
          · rw [if_neg (by simp only [decide_eq_true_eq]; exact hp)]
        · rw [if_neg hg]
end Go.Proofs.YtlgbafblbgaoiaaDoor.K
