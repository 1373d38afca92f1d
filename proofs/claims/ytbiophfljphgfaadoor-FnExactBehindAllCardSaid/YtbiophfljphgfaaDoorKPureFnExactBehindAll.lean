/- The plain law of FnExactBehindAll; no conditions. -/
import Derived.Test.YtbiophfljphgfaaDoorKx1
import Derived.Test.YtbiophfljphgfaaDoorKBehind
import Derived.Test.YtbiophfljphgfaaDoorKAsked
import Derived.Test.YtbiophfljphgfaaDoorKListsMore
import Derived.Test.YtbiophfljphgfaaDoorKx9
set_option linter.unusedVariables false
set_option linter.unusedSimpArgs false
namespace Go.Proofs.YtbiophfljphgfaaDoor.K
open Go.RowKit Go.Proofs.YtbiophfljphgfaaDoorW.PrintWords Go.Proofs.YtbiophfljphgfaaDoorW.PrintLast Go.Proofs.YtbiophfljphgfaaDoorW.PrintMore
theorem all_loop (leap : Int) (l : List (List Int)) (hl : l.length ≤ 1048576) (hw : ∀ xs ∈ l, xs.length ≤ 1048576) : ∀ (n k i : Nat) (s : ByteArray), n = l.length - i → i ≤ l.length → n + 1048700 < k → good s = true → ∃ v, spec_BehindAll.l0 k s leap l (l.length : Int) (i : Int) = some v ∧ impl_BehindAll.l0 k s leap l (l.length : Int) (i : Int) = some v := by
  intro n
  induction n with
  | zero =>
    intro k i s hn hi hk hg
    obtain ⟨k, rfl⟩ : ∃ k', k = k' + 1 := ⟨k - 1, by omega⟩
    simp only [spec_BehindAll.l0, impl_BehindAll.l0]
    rw [if_neg (by omega), if_neg (by omega)]
    exact ⟨_, rfl, rfl⟩
  | succ n ih =>
    intro k i s hn hi hk hg
    obtain ⟨k, rfl⟩ : ∃ k', k = k' + 1 := ⟨k - 1, by omega⟩
    have hz := good_size hg
    have h1 : i < l.length := by omega
    have hb := hw l[i] (List.getElem_mem h1)
    simp only [spec_BehindAll.l0, impl_BehindAll.l0]
    rw [if_pos (by omega), if_pos (by omega), if_pos (by omega), if_pos (by omega), if_pos (by omega), if_pos (by omega), rdL_get l i h1]
    obtain ⟨b, h2, h3, h4⟩ := same_cross s (by omega) leap l[i] hb k (by omega)
    rw [h2, h3, Option.bind_some, Option.bind_some]
    cases b with
    | true =>
      obtain ⟨s', e1, e2, e3⟩ := behind_both s hg leap l[i] hb (h4.1 rfl) k (by omega)
      rw [if_pos rfl, if_pos rfl, e1, e2, Option.bind_some, Option.bind_some, show wrap64 ((i : Int) + 1) = ((i + 1 : Nat) : Int) from by unfold wrap64; omega]
      exact ih k (i + 1) s' (by omega) (by omega) (by omega) e3
    | false =>
      rw [if_neg (by decide), if_neg (by decide)]
      exact ⟨_, rfl, rfl⟩
theorem FnExactBehindAll_pure (a0 : ByteArray) (a1 : Int) (l2 : List (List Int)) (w0 : a0.size ≤ 140737488351232) (w1 : (Lit.int .i64 a1).wf = true) (hm : l2.length ≤ 9223372036854775807) (hw : ∀ xs ∈ l2, xs.length ≤ 9223372036854775807 ∧ ∀ n ∈ xs, (Lit.int .i64 n).wf = true) : ∃ k, laws_FnExactBehindAll.f k a0 a1 l2 = some true := by
  obtain ⟨m, hmm⟩ : ∃ m, m = 3000000 := ⟨_, rfl⟩
  refine ⟨m + 1 + 1, ?_⟩
  unfold laws_FnExactBehindAll.f
  by_cases h : (a0.size : Int) > 1048576
  · rw [if_pos h]
  · rw [if_neg h]
    obtain ⟨v, hv1, hv2⟩ := szIntSS_eq l2 hm (fun xs hx => (hw xs hx).1) (m + 1 + 1) (by omega)
    rw [hv1, Option.bind_some]
    by_cases c : v < 0
    · rw [if_pos c]
    · rw [if_neg c]
      obtain ⟨hl, hx⟩ := hv2 (by omega)
      have hv : ∃ v, spec_BehindAll.f (m + 1 + 1) a0 a1 l2 = some v ∧ impl_BehindAll.f (m + 1 + 1) a0 a1 l2 = some v := by
        unfold spec_BehindAll.f impl_BehindAll.f
        rw [asked_eq a0 a1 (m + 1 + 1) (by omega), isSunk_eq a0 a1, Option.bind_some, Option.bind_some]
        by_cases g : (good a0 && decide (1 ≤ a1 ∧ a1 ≤ 21)) = true
        · have g' := g
          simp only [Bool.and_eq_true] at g'
          rw [if_pos g, if_pos g]
          cases hd : decide ((l2.length : Int) > 100) with
          | true =>
            simp only [spec_BehindAll.j0, impl_BehindAll.j0]
            rw [if_pos trivial, if_pos trivial]
            exact ⟨_, rfl, rfl⟩
          | false =>
            have hd' := of_decide_eq_false hd
            simp only [spec_BehindAll.j0, impl_BehindAll.j0]
            rw [if_neg (by decide), if_neg (by decide)]
            exact all_loop a1 l2 hl hx l2.length (m + 1) 0 a0 (by omega) (by omega) (by omega) g'.1
        · rw [if_neg g, if_neg g]
          simp only [spec_BehindAll.j0, impl_BehindAll.j0]
          rw [if_pos trivial, if_pos trivial]
          exact ⟨_, rfl, rfl⟩
      obtain ⟨v, h1, h2⟩ := hv
      rw [toIntSS_eq l2 hl hx (m + 1 + 1) (by omega), Option.bind_some, h1, Option.bind_some, Option.bind_some, h2, Option.bind_some, if_pos rfl, show (v.2 != v.2) = false from by simp]
      simp only [laws_FnExactBehindAll.j0]
      rw [if_neg (by decide), toIntSS_eq l2 hl hx (m + 1) (by omega), Option.bind_some, eqIntSS_eq l2 hl hx (m + 1) (by omega), Option.bind_some, if_pos rfl]
end Go.Proofs.YtbiophfljphgfaaDoor.K
