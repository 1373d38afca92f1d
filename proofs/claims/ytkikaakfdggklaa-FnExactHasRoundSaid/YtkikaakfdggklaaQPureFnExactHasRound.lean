/- The plain law of FnExactHasRound: program and reference agree whether a round is there; no conditions. -/
import Derived.Test.YtkikaakfdggklaaQRound
import Derived.Test.YtkikaakfdggklaaQx31
set_option linter.unusedVariables false
set_option linter.unusedSimpArgs false
namespace Go.Proofs.Ytkikaakfdggklaa.Q
theorem spec_HasRound_ev (n : Int) (l : List BR) : ∃ K, ∀ k, K ≤ k → spec_HasRound.f k n l = some (good n l && (allEven (degs (l.map ed)) n.toNat 0 && decide (groupsN n.toNat l ≤ lonelyN n.toNat l + 1)), good n l) := by
  obtain ⟨K1, h1⟩ := isGood_ev n l
  by_cases hg : good n l = true
  · obtain ⟨N, rfl, hN1, hN7, hL, hb⟩ := good_nat hg
    obtain ⟨K2, h2⟩ := isEven_ev N (by omega) l hb (by omega)
    refine ⟨K1 + K2, fun k hk => ?_⟩
    unfold spec_HasRound.f
    rw [h1 _ (by omega)]
    simp only [Option.bind_some]
    rw [if_pos hg, h2 _ (by omega), hg]
    simp
  · refine ⟨K1, fun k hk => ?_⟩
    unfold spec_HasRound.f
    rw [h1 _ (by omega)]
    simp only [Option.bind_some]
    rw [if_neg hg, Bool.eq_false_iff.2 hg]
    rfl
theorem impl_HasRound_ev (n : Int) (l : List BR) (hw : ∀ b ∈ l, wfBR b) : ∃ K, ∀ k, K ≤ k → impl_HasRound.f k n l = some (good n l && (allEven (degs (l.map ed)) n.toNat 0 && decide (groupsN n.toNat l ≤ lonelyN n.toNat l + 1)), good n l) := by
  by_cases hg : good n l = true
  · obtain ⟨N, rfl, hN1, hN7, hL, hb⟩ := good_nat hg
    obtain ⟨K2, h2⟩ := hasRound_ev N (by omega) l hb (by omega)
    refine ⟨K2, fun k hk => ?_⟩
    unfold impl_HasRound.f
    rw [areIsles_eq _ _ hw]
    simp only [Option.bind_some]
    rw [if_pos hg, h2 _ (by omega), hg]
    simp
  · refine ⟨0, fun k hk => ?_⟩
    unfold impl_HasRound.f
    rw [areIsles_eq _ _ hw]
    simp only [Option.bind_some]
    rw [if_neg hg, Bool.eq_false_iff.2 hg]
    rfl
theorem FnExactHasRound_pure (n : Int) (l : List LB) (w : (Lit.int .i64 n).wf = true) (hm : l.length ≤ 9223372036854775807) (hw : ∀ b ∈ l, WfB b) : ∃ k, laws_FnExactHasRound.f k n l = some true := by
  by_cases hl : l.length ≤ 1048576
  · obtain ⟨K1, h1⟩ := toIsles_ev n l hl
    obtain ⟨K2, h2⟩ := spec_HasRound_ev n (l.map cv)
    obtain ⟨K3, h3⟩ := impl_HasRound_ev n (l.map cv) (wf_cv l hw)
    obtain ⟨K4, h4⟩ := eqIsles_ev n (l.map cv) (by rw [List.length_map]; omega)
    refine ⟨K1 + K2 + K3 + K4 + 1, ?_⟩
    unfold laws_FnExactHasRound.f
    rw [szIsles_eq n l hm, if_pos hl, h1 _ (by omega)]
    simp only [Option.bind_some]
    rw [if_neg (by omega), h2 _ (by omega)]
    simp only [Option.bind_some]
    rw [h3 _ (by omega)]
    simp only [Option.bind_some]
    rw [if_neg (by simp), laws_FnExactHasRound.j0, if_neg (by simp), h1 _ (by omega)]
    simp only [Option.bind_some]
    rw [h4 _ (by omega)]
    rfl
  · refine ⟨0, ?_⟩
    unfold laws_FnExactHasRound.f
    rw [szIsles_eq n l hm, if_neg hl]
    simp
end Go.Proofs.Ytkikaakfdggklaa.Q
