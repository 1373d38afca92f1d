/- The plain law of FnExactBridgesBetween: the best of all ways costs what the rounds of relaxing say; no conditions. -/
import Derived.Test.YtkikaakfdggklaaQBoth
import Derived.Test.YtkikaakfdggklaaQx27
set_option linter.unusedVariables false
set_option linter.unusedSimpArgs false
namespace Go.Proofs.Ytkikaakfdggklaa.Q
open Go.RowKit Go.Proofs.YtkikaakfdggklaaW.PrintWords Go.Proofs.YtkikaakfdggklaaW.PrintLast Go.Proofs.YtkikaakfdggklaaW.PrintMore
open Go.Proofs.Ytkikaakfdggklaa.MathWays
theorem spec_BridgesBetween_ev (n : Int) (l : List BR) (a b : Int) : ∃ K, ∀ k, K ≤ k → spec_BridgesBetween.f k n l a b = some (told true n l a b, both n l a b) := by
  obtain ⟨K1, h1⟩ := isBoth_ev n l a b
  by_cases hg : both n l a b = true
  · have hp : pair n l a b = true := by unfold both at hg; simp only [Bool.and_eq_true] at hg; exact hg.1
    obtain ⟨N, A, B, rfl, rfl, rfl, hN7, hL, hbs, hA, hB⟩ := pair_fine hp
    obtain ⟨K2, h2⟩ := isTolls_ev N (by omega) B hB true l hbs (by omega)
    refine ⟨K1 + K2, fun k hk => ?_⟩
    unfold spec_BridgesBetween.f told
    rw [h1 _ (by omega)]
    simp only [Option.bind_some]
    rw [if_pos hg, h2 _ (by omega)]
    simp only [Option.bind_some]
    rw [if_pos (by omega), labels_length, if_pos (by omega), labels_rd N _ A hA, if_pos hg, hg, Int.toNat_natCast, Int.toNat_natCast, Int.toNat_natCast]
  · refine ⟨K1, fun k hk => ?_⟩
    unfold spec_BridgesBetween.f told
    rw [h1 _ (by omega)]
    simp only [Option.bind_some]
    rw [if_neg hg, if_neg hg, Bool.eq_false_iff.2 hg]
theorem impl_BridgesBetween_ev (n : Int) (l : List BR) (hw : ∀ b ∈ l, wfBR b) (a b : Int) : ∃ K, ∀ k, K ≤ k → impl_BridgesBetween.f k n l a b = some (told true n l a b, both n l a b) := by
  by_cases hp : pair n l a b = true
  · obtain ⟨t1, t2⟩ := toll_told true hp
    obtain ⟨N, A, B, rfl, rfl, rfl, hN7, hL, hbs, hA, hB⟩ := pair_fine hp
    obtain ⟨K2, h2⟩ := plain_ev N hN7 l hbs hL A B hA hB
    rw [Int.toNat_natCast, Int.toNat_natCast, Int.toNat_natCast] at t1 t2
    refine ⟨K2, fun k hk => ?_⟩
    unfold impl_BridgesBetween.f
    rw [areIslands_pair _ _ hw]
    simp only [Option.bind_some]
    rw [if_pos hp, h2 _ (by omega)]
    simp only [Option.bind_some]
    rw [t1, t2]
  · refine ⟨0, fun k hk => ?_⟩
    have hb : both n l a b = false := by unfold both; rw [Bool.eq_false_iff.2 hp]; rfl
    unfold impl_BridgesBetween.f told
    rw [areIslands_pair _ _ hw]
    simp only [Option.bind_some]
    rw [if_neg hp, hb]
    rfl
theorem FnExactBridgesBetween_pure (n : Int) (l : List LB) (a : Int) (b : Int) (w : (Lit.int .i64 n).wf = true) (hm : l.length ≤ 9223372036854775807) (hw : ∀ b ∈ l, WfB b) (wa : (Lit.int .i64 a).wf = true) (wb : (Lit.int .i64 b).wf = true) : ∃ k, laws_FnExactBridgesBetween.f k n l a b = some true := by
  by_cases hl : l.length ≤ 1048576
  · obtain ⟨K1, h1⟩ := toIsles_ev n l hl
    obtain ⟨K2, h2⟩ := spec_BridgesBetween_ev n (l.map cv) a b
    obtain ⟨K3, h3⟩ := impl_BridgesBetween_ev n (l.map cv) (wf_cv l hw) a b
    obtain ⟨K4, h4⟩ := eqIsles_ev n (l.map cv) (by rw [List.length_map]; omega)
    refine ⟨K1 + K2 + K3 + K4 + 1, ?_⟩
    unfold laws_FnExactBridgesBetween.f
    rw [szIsles_eq n l hm, if_pos hl, h1 _ (by omega)]
    simp only [Option.bind_some]
    rw [if_neg (by omega), h2 _ (by omega)]
    simp only [Option.bind_some]
    rw [h3 _ (by omega)]
    simp only [Option.bind_some]
    rw [if_pos trivial, laws_FnExactBridgesBetween.j0, if_neg (by simp), h1 _ (by omega)]
    simp only [Option.bind_some]
    rw [h4 _ (by omega)]
    rfl
  · refine ⟨0, ?_⟩
    unfold laws_FnExactBridgesBetween.f
    rw [szIsles_eq n l hm, if_neg hl]
    simp
end Go.Proofs.Ytkikaakfdggklaa.Q
