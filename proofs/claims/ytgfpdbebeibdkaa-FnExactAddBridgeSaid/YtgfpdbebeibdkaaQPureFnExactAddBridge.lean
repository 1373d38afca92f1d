/- The plain law of FnExactAddBridge: program and reference add the same bridge; no conditions. -/
import Derived.Test.YtgfpdbebeibdkaaQx5
import Derived.Test.YtgfpdbebeibdkaaQx3
import Derived.Test.YtgfpdbebeibdkaaQx2
import Derived.Test.YtgfpdbebeibdkaaQMarks
import Derived.Test.YtgfpdbebeibdkaaQx10
set_option linter.unusedVariables false
set_option linter.unusedSimpArgs false
namespace Go.Proofs.Ytgfpdbebeibdkaa.Q
open Go.RowKit Go.Proofs.YtgfpdbebeibdkaaW.PrintWords Go.Proofs.YtgfpdbebeibdkaaW.PrintLast Go.Proofs.YtgfpdbebeibdkaaW.PrintMore
theorem good_snoc (n : Int) (l : List BR) (b : BR) : good n (l ++ [b]) = true ↔ good n l = true ∧ okB n b = true ∧ l.length < 14 := by
  unfold good
  simp only [Bool.and_eq_true, decide_eq_true_eq, List.all_append, List.length_append, List.length_cons, List.length_nil, List.all_cons, List.all_nil, Bool.and_true]
  constructor
  · rintro ⟨h1, h2, h3, h4⟩
    exact ⟨⟨h1, by omega, h3⟩, h4, by omega⟩
  · rintro ⟨⟨h1, h2, h3⟩, h4, h5⟩
    exact ⟨h1, by omega, h3, h4⟩
theorem good_use {n : Int} {l : List BR} (h : good n l = true) : 1 ≤ n ∧ n ≤ 7 ∧ l.length ≤ 14 := by
  unfold good at h
  simp only [Bool.and_eq_true, decide_eq_true_eq] at h
  exact ⟨h.1.1, h.1.2, h.2.1⟩
theorem Add_both (n : Int) (l : List BR) (hl : l.length ≤ 1048576) (hw : ∀ b ∈ l, wfBR b) (b : BR) (hb : wfBR b) : ∃ (N : Int) (L : List BR) (B : Bool) (K : Nat), L.length ≤ 1048576 ∧ (∀ k, K ≤ k → spec_AddBridge.f k n l b.f0 b.f1 b.f2 = some (N, L, B)) ∧ impl_AddBridge.f n l b.f0 b.f1 b.f2 = some (N, L, B) := by
  obtain ⟨K, hK⟩ := isGood_ev n l
  have hw2 : ∀ c ∈ l ++ [b], wfBR c := fun c hc => by
    rcases List.mem_append.1 hc with h | h
    · exact hw c h
    · rw [List.mem_singleton.1 h]; exact hb
  have hs := good_snoc n l b
  by_cases g : good n l = true
  · obtain ⟨g1, g2, g3⟩ := good_use g
    by_cases c : okB n b = true
    · by_cases d : l.length = 14
      · refine ⟨0, [], false, K, by simp, fun k hk => ?_, ?_⟩
        · unfold spec_AddBridge.f
          rw [hK k hk, Option.bind_some, if_pos g, isBridge_eq n b g1 g2, Option.bind_some, if_pos c, if_pos (by omega)]
        · unfold impl_AddBridge.f impl_Bridge_16.f
          have e : ¬ good n (l ++ [b]) = true := fun h => by have := (hs.1 h).2.2; omega
          rw [if_pos (by omega), Option.bind_some, Option.bind_some, if_pos (by simp; omega), Option.bind_some, areIsles_eq n l hw, Option.bind_some, if_pos g, areIsles_eq n _ hw2, Option.bind_some, if_neg e]
      · refine ⟨n, l ++ [b], true, K, by simp; omega, fun k hk => ?_, ?_⟩
        · unfold spec_AddBridge.f
          rw [hK k hk, Option.bind_some, if_pos g, isBridge_eq n b g1 g2, Option.bind_some, if_pos c, if_neg (by omega), Option.bind_some, if_pos (by simp; omega), Option.bind_some, Option.bind_some, if_pos (by simp; omega), List.nil_append]
        · unfold impl_AddBridge.f impl_Bridge_16.f
          have e : good n (l ++ [b]) = true := hs.2 ⟨g, c, by omega⟩
          rw [if_pos (by omega), Option.bind_some, Option.bind_some, if_pos (by simp; omega), Option.bind_some, areIsles_eq n l hw, Option.bind_some, if_pos g, areIsles_eq n _ hw2, Option.bind_some, if_pos e]
    · refine ⟨0, [], false, K, by simp, fun k hk => ?_, ?_⟩
      · unfold spec_AddBridge.f
        rw [hK k hk, Option.bind_some, if_pos g, isBridge_eq n b g1 g2, Option.bind_some, if_neg c]
      · unfold impl_AddBridge.f impl_Bridge_16.f
        have e : ¬ good n (l ++ [b]) = true := fun h => c (hs.1 h).2.1
        rw [if_pos (by omega), Option.bind_some, Option.bind_some, if_pos (by simp; omega), Option.bind_some, areIsles_eq n l hw, Option.bind_some, if_pos g, areIsles_eq n _ hw2, Option.bind_some, if_neg e]
  · refine ⟨0, [], false, K, by simp, fun k hk => ?_, ?_⟩
    · unfold spec_AddBridge.f
      rw [hK k hk, Option.bind_some, if_neg g]
    · unfold impl_AddBridge.f impl_Bridge_16.f
      rw [if_pos (by omega), Option.bind_some, Option.bind_some, if_pos (by simp; omega), Option.bind_some, areIsles_eq n l hw, Option.bind_some, if_neg g]
theorem FnExactAddBridge_pure (n : Int) (l : List LB) (x y z : Int) (w : (Lit.int .i64 n).wf = true) (hm : l.length ≤ 9223372036854775807) (hw : ∀ b ∈ l, WfB b) (wb : (Lit.int .i64 x).wf = true ∧ (Lit.int .i64 y).wf = true ∧ (Lit.int .i64 z).wf = true) : ∃ k, laws_FnExactAddBridge.f k n l x y z = some true := by
  by_cases hl : l.length ≤ 1048576
  · have hlm : (l.map cv).length ≤ 1048576 := by rw [List.length_map]; exact hl
    obtain ⟨N, L, B, K0, hL, hs, hi⟩ := Add_both n (l.map cv) hlm (wf_cv l hw) ⟨x, y, z⟩ ⟨wf64_of wb.1, wf64_of wb.2.1, wf64_of wb.2.2⟩
    obtain ⟨K1, h1⟩ := toIsles_ev n l hl
    obtain ⟨K3, h3⟩ := eqIsles_ev n (l.map cv) (by omega)
    obtain ⟨K4, h4⟩ := eqIsles_ev N L (by omega)
    obtain ⟨K5, h5⟩ := markIsles_ev n (l.map cv) hlm
    obtain ⟨K6, h6⟩ := markIsles_ev N L hL
    obtain ⟨m, hmm⟩ : ∃ m, m = K0 + K1 + K3 + K4 + K5 + K6 + 10 := ⟨_, rfl⟩
    refine ⟨m + 1 + 1 + 1, ?_⟩
    have hB : (B != B) = false := by simp
    unfold laws_FnExactAddBridge.f laws_toBridge.f
    rw [szIsles_eq n l hm, if_pos hl, Option.bind_some, if_neg (by omega), h1 _ (by omega), Option.bind_some, Option.bind_some, hs _ (by omega), Option.bind_some, Option.bind_some, Option.bind_some, hi, Option.bind_some, h4 _ (by omega), Option.bind_some, if_pos rfl, hB]
    simp only [laws_FnExactAddBridge.j0, laws_FnExactAddBridge.j1, laws_FnExactAddBridge.j2, laws_toBridge.f]
    rw [if_neg (by decide), h1 _ (by omega), Option.bind_some, h3 _ (by omega), Option.bind_some, if_pos rfl, (h5 _ (by omega)).1, Option.bind_some, if_neg (by omega), h4 _ (by omega), Option.bind_some, if_pos rfl, hB]
    rw [if_neg (by decide), (h6 _ (by omega)).1, Option.bind_some, (h6 _ (by omega)).2, Option.bind_some, if_neg (by omega), if_pos rfl, h1 _ (by omega), Option.bind_some, Option.bind_some, hi, Option.bind_some, h4 _ (by omega), Option.bind_some, if_pos rfl, hB]
    rw [if_neg (by decide), (h6 _ (by omega)).2, Option.bind_some, if_neg (by omega), if_pos rfl]
  · refine ⟨1, ?_⟩
    unfold laws_FnExactAddBridge.f
    rw [szIsles_eq n l hm, if_neg hl, Option.bind_some, if_pos (by decide)]
end Go.Proofs.Ytgfpdbebeibdkaa.Q
