/- The plain law of FnExactCountGroups: program and reference count the same groups; no conditions. -/
import Derived.Test.YtkikaakfdggklaaQx21
import Derived.Test.YtkikaakfdggklaaQGroups
import Derived.Test.YtkikaakfdggklaaQx18
set_option linter.unusedVariables false
set_option linter.unusedSimpArgs false
namespace Go.Proofs.Ytkikaakfdggklaa.Q
theorem spec_CountGroups_ev (n : Int) (l : List BR) : ∃ K, ∀ k, K ≤ k → spec_CountGroups.f k n l = some (if good n l = true then ((groupsN n.toNat l : Nat) : Int) else 0, good n l) := by
  obtain ⟨K1, h1⟩ := isGood_ev n l
  by_cases hg : good n l = true
  · obtain ⟨N, rfl, hN1, hN7, hL, hb⟩ := good_nat hg
    obtain ⟨K2, h2⟩ := isGroups_all N (by omega) l hb (by omega)
    obtain ⟨K3, h3⟩ := isCount_ev N (by omega) (MathGroups.merged (l.map ed)) (-1)
    refine ⟨K1 + K2 + K3, fun k hk => ?_⟩
    unfold spec_CountGroups.f
    rw [h1 _ (by omega), h2 _ (by omega)]
    simp only [Option.bind_some]
    rw [if_pos hg, h3 _ (by omega), if_pos hg, hg]
    rfl
  · refine ⟨K1, fun k hk => ?_⟩
    unfold spec_CountGroups.f
    rw [h1 _ (by omega)]
    simp only [Option.bind_some]
    rw [if_neg hg, if_neg hg, Bool.eq_false_iff.2 hg]
theorem impl_CountGroups_ev (n : Int) (l : List BR) (hw : ∀ b ∈ l, wfBR b) : ∃ K, ∀ k, K ≤ k → impl_CountGroups.f k n l = some (if good n l = true then ((groupsN n.toNat l : Nat) : Int) else 0, good n l) := by
  by_cases hg : good n l = true
  · obtain ⟨N, rfl, hN1, hN7, hL, hb⟩ := good_nat hg
    obtain ⟨K2, h2⟩ := countGroups_ev N (by omega) l hb (by omega)
    refine ⟨K2, fun k hk => ?_⟩
    unfold impl_CountGroups.f
    rw [areIsles_eq _ _ hw]
    simp only [Option.bind_some]
    rw [if_pos hg, h2 _ (by omega), if_pos hg, hg]
    rfl
  · refine ⟨0, fun k hk => ?_⟩
    unfold impl_CountGroups.f
    rw [areIsles_eq _ _ hw]
    simp only [Option.bind_some]
    rw [if_neg hg, if_neg hg, Bool.eq_false_iff.2 hg]
theorem FnExactCountGroups_pure (n : Int) (l : List LB) (w : (Lit.int .i64 n).wf = true) (hm : l.length ≤ 9223372036854775807) (hw : ∀ b ∈ l, WfB b) : ∃ k, laws_FnExactCountGroups.f k n l = some true := by
  by_cases hl : l.length ≤ 1048576
  · obtain ⟨K1, h1⟩ := toIsles_ev n l hl
    obtain ⟨K2, h2⟩ := spec_CountGroups_ev n (l.map cv)
    obtain ⟨K3, h3⟩ := impl_CountGroups_ev n (l.map cv) (wf_cv l hw)
    obtain ⟨K4, h4⟩ := eqIsles_ev n (l.map cv) (by rw [List.length_map]; omega)
    refine ⟨K1 + K2 + K3 + K4 + 1, ?_⟩
    unfold laws_FnExactCountGroups.f
    rw [szIsles_eq n l hm, if_pos hl, h1 _ (by omega)]
    simp only [Option.bind_some]
    rw [if_neg (by omega), h2 _ (by omega)]
    simp only [Option.bind_some]
    rw [h3 _ (by omega)]
    simp only [Option.bind_some]
    rw [if_pos trivial, laws_FnExactCountGroups.j0, if_neg (by simp), h1 _ (by omega)]
    simp only [Option.bind_some]
    rw [h4 _ (by omega)]
    rfl
  · refine ⟨0, ?_⟩
    unfold laws_FnExactCountGroups.f
    rw [szIsles_eq n l hm, if_neg hl]
    simp
end Go.Proofs.Ytkikaakfdggklaa.Q
