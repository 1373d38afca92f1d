/- The plain law of FnExactFirstCovering; no conditions. -/
import Derived.Test.YtdaiihafoajmcaaPx14
import Derived.Test.YtdaiihafoajmcaaPWood
import Derived.Test.YtdaiihafoajmcaaPMarkW
import Derived.Test.YtdaiihafoajmcaaPx15
set_option linter.unusedVariables false
set_option linter.unusedSimpArgs false
namespace Go.Proofs.Ytdaiihafoajmcaa.P
open Go.RowKit Go.Proofs.YtdaiihafoajmcaaW.PrintWords Go.Proofs.YtdaiihafoajmcaaW.PrintLast Go.Proofs.YtdaiihafoajmcaaW.PrintMore
theorem first_fold : ∀ (L : List (List Int)) (s : List Int), s ≠ [] → L.foldl (fun s p => if s = [] then p else s) s = s
  | [], _, _ => rfl
  | p :: L, s, h => by
    rw [List.foldl_cons, if_neg h]
    exact first_fold L s h
theorem FnExactFirstCovering_both (l0 l1 : List Int) (a2 : Int) (h0 : l0.length ≤ 1048576) (h1 : l1.length ≤ 1048576) : ∃ (v : List Int × Bool) (B : Nat), v.1.length ≤ 1000 ∧ (∀ k, B ≤ k → spec_FirstCovering.f k l0 l1 a2 = some v) ∧ ∀ k, B ≤ k → impl_FirstCovering.f k l0 l1 a2 = some v := by
  by_cases g : asked l0 l1 a2 = true
  · obtain ⟨u1, u2, _⟩ := asked_use g
    obtain ⟨g1, g2, g3⟩ := goodP_use u1
    obtain ⟨p1, p2, p3⟩ := goodP_use u2
    by_cases e : ∃ c, c ∈ covs l0 l1 a2 l0.length []
    · obtain ⟨c, L, hL⟩ : ∃ c L, covs l0 l1 a2 l0.length [] = c :: L := by
        cases hL : covs l0 l1 a2 l0.length [] with
        | nil =>
          obtain ⟨c, hc⟩ := e
          rw [hL] at hc
          simp at hc
        | cons c L => exact ⟨c, L, rfl⟩
      have hc := (covs_shape l0 l1 a2 l0.length [] c (by rw [hL]; exact List.mem_cons_self)).1
      rw [List.length_nil, Nat.zero_add] at hc
      have hne : c ≠ [] := fun e' => by
        rw [e'] at hc
        simp at hc
        omega
      refine ⟨(c, true), 100, by show c.length ≤ 1000; omega, fun k hk => ?_, fun k hk => ?_⟩
      · unfold spec_FirstCovering.f
        rw [plAsked_eq l0 l1 a2 (by omega) (by omega) k (by omega), Option.bind_some, if_pos g, plAll_eq l0 l1 a2 g2 p2, Option.bind_some, hL, if_neg (by rw [List.length_cons]; omega), if_pos (by rw [List.length_cons]; omega)]
        rfl
      · unfold impl_FirstCovering.f
        rw [can_yes l0 l1 a2 g e k (by omega), Option.bind_some, if_pos rfl, if_pos ⟨by omega, by omega, by omega⟩, hL, List.foldl_cons, if_pos rfl, first_fold L c hne]
    · have hn : covs l0 l1 a2 l0.length [] = [] := by
        cases hL : covs l0 l1 a2 l0.length [] with
        | nil => rfl
        | cons c L => exact absurd ⟨c, by rw [hL]; exact List.mem_cons_self⟩ e
      refine ⟨([], false), 100, by simp, fun k hk => ?_, fun k hk => ?_⟩
      · unfold spec_FirstCovering.f
        rw [plAsked_eq l0 l1 a2 (by omega) (by omega) k (by omega), Option.bind_some, if_pos g, plAll_eq l0 l1 a2 g2 p2, Option.bind_some, hn, if_pos (by simp)]
      · unfold impl_FirstCovering.f
        rw [can_not l0 l1 a2 g e k (by omega), Option.bind_some, if_neg (by decide)]
  · refine ⟨([], false), 100, by simp, fun k hk => ?_, fun k hk => ?_⟩
    · unfold spec_FirstCovering.f
      rw [plAsked_eq l0 l1 a2 (by omega) (by omega) k (by omega), Option.bind_some, if_neg g]
    · unfold impl_FirstCovering.f
      rw [can_no l0 l1 a2 (Bool.eq_false_iff.2 g) k, Option.bind_some, if_neg (by decide)]
theorem mark_from (xs : List Int) (s : Int) (hx : xs.length ≤ 1048576) (h0 : 0 ≤ s) (h1 : s ≤ 2000000) (k : Nat) (hk : xs.length < k) : laws_markIntS.f k xs s = some (s + (xs.length : Int), markI xs.length s) := by
  unfold laws_markIntS.f
  have h := markIntS_l0 xs.length k 0 xs s (by omega) hk hx h0 (by omega)
  rw [show ((0 : Nat) : Int) = 0 from rfl, List.take_zero, List.nil_append] at h
  exact h
theorem FnExactFirstCovering_pure (l0 l1 : List Int) (a2 : Int) (hm0 : l0.length ≤ 9223372036854775807) (y0 : l0.length * 8 ≤ 140737488351232) (hw0 : ∀ n ∈ l0, (Lit.int .i64 n).wf = true) (hm1 : l1.length ≤ 9223372036854775807) (y1 : l1.length * 8 ≤ 140737488351232) (hw1 : ∀ n ∈ l1, (Lit.int .i64 n).wf = true) (w2 : (Lit.int .i64 a2).wf = true) : ∃ k, laws_FnExactFirstCovering.f k l0 l1 a2 = some true := by
  by_cases h' : (l0.length : Int) > 1048576
  · refine ⟨1, ?_⟩
    unfold laws_FnExactFirstCovering.f
    rw [if_pos h']
  · by_cases h'' : (l1.length : Int) > 1048576
    · refine ⟨1, ?_⟩
      unfold laws_FnExactFirstCovering.f
      rw [if_neg h', if_pos h'']
    · obtain ⟨v, B, hlen, hs, hi⟩ := FnExactFirstCovering_both l0 l1 a2 (by omega) (by omega)
      obtain ⟨K1, hK1⟩ := markIntS_ev v.1 (by omega)
      obtain ⟨K2, hK2⟩ := markIntS_ev l0 (by omega)
      obtain ⟨m, hmm⟩ : ∃ m, m = l0.length + l1.length + B + K1 + K2 + 2000 := ⟨_, rfl⟩
      refine ⟨m + 1 + 1 + 1, ?_⟩
      have hb : (v.2 != v.2) = false := by simp
      unfold laws_FnExactFirstCovering.f
      rw [if_neg h', if_neg h'', toIntS_eq l0 (by omega) _ (by omega), Option.bind_some, toIntS_eq l1 (by omega) _ (by omega), Option.bind_some, hs _ (by omega), Option.bind_some, Option.bind_some, Option.bind_some, hi _ (by omega), Option.bind_some, eqIntS_eq v.1 (by omega) _ (by omega), Option.bind_some, if_pos rfl, hb]
      simp only [laws_FnExactFirstCovering.j0, laws_FnExactFirstCovering.j1, laws_FnExactFirstCovering.j2]
      rw [if_neg (by decide), toIntS_eq l0 (by omega) _ (by omega), Option.bind_some, eqIntS_eq l0 (by omega) _ (by omega), Option.bind_some, if_pos rfl, toIntS_eq l1 (by omega) _ (by omega), Option.bind_some, eqIntS_eq l1 (by omega) _ (by omega), Option.bind_some, if_pos rfl, (hK2 _ (by omega)).1, Option.bind_some, mark_from l1 (1 + (l0.length : Int)) (by omega) (by omega) (by omega) _ (by omega), Option.bind_some, if_neg (by omega), eqIntS_eq v.1 (by omega) _ (by omega), Option.bind_some, if_pos rfl, hb]
      rw [if_neg (by decide), (hK1 _ (by omega)).1, Option.bind_some, (hK1 _ (by omega)).2, Option.bind_some, if_neg (by omega), if_pos rfl, toIntS_eq l0 (by omega) _ (by omega), Option.bind_some, toIntS_eq l1 (by omega) _ (by omega), Option.bind_some, hi _ (by omega), Option.bind_some, eqIntS_eq v.1 (by omega) _ (by omega), Option.bind_some, if_pos rfl, hb]
      rw [if_neg (by decide), (hK1 _ (by omega)).2, Option.bind_some, if_neg (by omega), if_pos rfl]
end Go.Proofs.Ytdaiihafoajmcaa.P
