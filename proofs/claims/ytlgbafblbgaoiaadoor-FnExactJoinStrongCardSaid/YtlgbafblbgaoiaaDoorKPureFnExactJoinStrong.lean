/- The plain law of FnExactJoinStrong; no conditions. -/
import Derived.Test.YtlgbafblbgaoiaaDoorKBase
import Derived.Test.YtlgbafblbgaoiaaDoorKx12
set_option linter.unusedVariables false
set_option linter.unusedSimpArgs false
namespace Go.Proofs.YtlgbafblbgaoiaaDoor.K
open Go.RowKit Go.Proofs.YtlgbafblbgaoiaaDoorW.PrintWords Go.Proofs.YtlgbafblbgaoiaaDoorW.PrintLast Go.Proofs.YtlgbafblbgaoiaaDoorW.PrintMore
theorem good_append (a b : ByteArray) (ha : good a = true) (hb : good b = true) : good (a ++ b) = decide (a.size + b.size ≤ 20) := by
  have za := good_size ha
  have zb := good_size hb
  unfold good at ha hb ⊢
  simp only [Bool.and_eq_true, decide_eq_true_eq] at ha hb
  rw [ByteArray.size_append, ints_append, List.all_append, ha.2, hb.2, Bool.and_true, Bool.and_true]
  by_cases h : a.size + b.size ≤ 20
  · rw [decide_eq_true h, decide_eq_true (by omega)]
  · rw [decide_eq_false h, decide_eq_false (by omega)]
theorem FnExactJoinStrong_pure (a0 a1 : ByteArray) (w0 : a0.size ≤ 140737488351232) (w1 : a1.size ≤ 140737488351232) : ∃ k, laws_FnExactJoinStrong.f k a0 a1 = some true := by
  refine ⟨30, ?_⟩
  unfold laws_FnExactJoinStrong.f
  by_cases h : (a0.size : Int) > 1048576
  · rw [if_pos h]
  · rw [if_neg h]
    by_cases h' : (a1.size : Int) > 1048576
    · rw [if_pos h']
    · rw [if_neg h']
      have h1 : spec_JoinStrong.f 30 a0 a1 = some (if good a0 = true ∧ good a1 = true ∧ a0.size + a1.size ≤ 20 then (a0 ++ a1, true) else ((⟨#[]⟩ : ByteArray), false)) := by
        unfold spec_JoinStrong.f
        rw [siGood_eq a0 30 (by decide), Option.bind_some]
        by_cases hg : good a0 = true
        · rw [if_pos hg, siGood_eq a1 30 (by decide), Option.bind_some]
          by_cases hh : good a1 = true
          · rw [if_pos hh, w64 (by omega) (by omega)]
            by_cases hc : a0.size + a1.size ≤ 20
            · rw [if_neg (by omega), if_pos (by omega), if_pos ⟨hg, hh, hc⟩]
            · rw [if_pos (by omega), if_neg (fun x => hc x.2.2)]
          · rw [if_neg hh, if_neg (fun x => hh x.2.1)]
        · rw [if_neg hg, if_neg (fun x => hg x.1)]
      have h2 : impl_JoinStrong.f a0 a1 = some (if good a0 = true ∧ good a1 = true ∧ a0.size + a1.size ≤ 20 then (a0 ++ a1, true) else ((⟨#[]⟩ : ByteArray), false)) := by
        unfold impl_JoinStrong.f
        rw [IsStrong_eq, Option.bind_some]
        by_cases hg : good a0 = true
        · rw [if_pos hg, IsStrong_eq, Option.bind_some]
          by_cases hh : good a1 = true
          · rw [if_pos hh, if_pos (by omega), IsStrong_eq, Option.bind_some, good_append a0 a1 hg hh]
            by_cases hc : a0.size + a1.size ≤ 20
            · rw [if_pos (decide_eq_true hc), if_pos ⟨hg, hh, hc⟩]
            · rw [if_neg (by simp; omega), if_neg (fun x => hc x.2.2)]
          · rw [if_neg hh, if_neg (fun x => hh x.2.1)]
        · rw [if_neg hg, if_neg (fun x => hg x.1)]
      exact said_eq h1 h2
end Go.Proofs.YtlgbafblbgaoiaaDoor.K
