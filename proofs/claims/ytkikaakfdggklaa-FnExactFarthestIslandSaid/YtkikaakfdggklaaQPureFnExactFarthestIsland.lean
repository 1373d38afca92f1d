/- The plain law of FnExactFarthestIsland; no conditions. -/
import Derived.Test.YtkikaakfdggklaaQFar
import Derived.Test.YtkikaakfdggklaaQx33
set_option linter.unusedVariables false
set_option linter.unusedSimpArgs false
namespace Go.Proofs.Ytkikaakfdggklaa.Q
open Go.RowKit Go.Proofs.YtkikaakfdggklaaW.PrintWords Go.Proofs.YtkikaakfdggklaaW.PrintLast Go.Proofs.YtkikaakfdggklaaW.PrintMore
def farTold (n : Int) (l : List BR) (a : Int) : Int × Int := if asked n l a = true then farR n.toNat l a.toNat else (0, 0)
theorem spec_FarthestIsland_ev (n : Int) (l : List BR) (a : Int) : ∃ K, ∀ k, K ≤ k → spec_FarthestIsland.f k n l a = some ((farTold n l a).1, (farTold n l a).2, asked n l a) := by
  obtain ⟨K1, h1⟩ := isAsked_ev n l a
  by_cases hg : asked n l a = true
  · obtain ⟨N, A, rfl, rfl, hN1, hN7, hL, hb, hA⟩ := asked_fine hg
    obtain ⟨K2, h2⟩ := isFarthest_ev N hN7 l hb hL A hA
    refine ⟨K1 + K2, fun k hk => ?_⟩
    unfold spec_FarthestIsland.f farTold
    rw [h1 _ (by omega)]
    simp only [Option.bind_some]
    rw [if_pos hg, h2 _ (by omega), if_pos hg, hg]
    rfl
  · refine ⟨K1, fun k hk => ?_⟩
    unfold spec_FarthestIsland.f farTold
    rw [h1 _ (by omega)]
    simp only [Option.bind_some]
    rw [if_neg hg, if_neg hg, Bool.eq_false_iff.2 hg]
theorem impl_FarthestIsland_ev (n : Int) (l : List BR) (hw : ∀ b ∈ l, wfBR b) (a : Int) : ∃ K, ∀ k, K ≤ k → impl_FarthestIsland.f k n l a = some ((farTold n l a).1, (farTold n l a).2, asked n l a) := by
  by_cases hg : asked n l a = true
  · obtain ⟨N, A, rfl, rfl, hN1, hN7, hL, hb, hA⟩ := asked_fine hg
    obtain ⟨K2, h2⟩ := farthest_ev N hN7 l hb hL A hA
    refine ⟨K2, fun k hk => ?_⟩
    unfold impl_FarthestIsland.f farTold
    rw [areIslands_one _ _ hw]
    simp only [Option.bind_some]
    rw [if_pos hg, h2 _ (by omega), if_pos hg, hg]
    rfl
  · refine ⟨0, fun k hk => ?_⟩
    unfold impl_FarthestIsland.f farTold
    rw [areIslands_one _ _ hw]
    simp only [Option.bind_some]
    rw [if_neg hg, if_neg hg, Bool.eq_false_iff.2 hg]
theorem FnExactFarthestIsland_pure (n : Int) (l : List LB) (a : Int) (w : (Lit.int .i64 n).wf = true) (hm : l.length ≤ 9223372036854775807) (hw : ∀ b ∈ l, WfB b) (wa : (Lit.int .i64 a).wf = true) : ∃ k, laws_FnExactFarthestIsland.f k n l a = some true := by
  by_cases hl : l.length ≤ 1048576
  · obtain ⟨K1, h1⟩ := toIsles_ev n l hl
    obtain ⟨K2, h2⟩ := spec_FarthestIsland_ev n (l.map cv) a
    obtain ⟨K3, h3⟩ := impl_FarthestIsland_ev n (l.map cv) (wf_cv l hw) a
    obtain ⟨K4, h4⟩ := eqIsles_ev n (l.map cv) (by rw [List.length_map]; omega)
    refine ⟨K1 + K2 + K3 + K4 + 1, ?_⟩
    unfold laws_FnExactFarthestIsland.f
    rw [szIsles_eq n l hm, if_pos hl, h1 _ (by omega)]
    simp only [Option.bind_some]
    rw [if_neg (by omega), h2 _ (by omega)]
    simp only [Option.bind_some]
    rw [h3 _ (by omega)]
    simp only [Option.bind_some]
    rw [if_pos trivial, if_pos trivial, laws_FnExactFarthestIsland.j0, if_neg (by simp), h1 _ (by omega)]
    simp only [Option.bind_some]
    rw [h4 _ (by omega)]
    rfl
  · refine ⟨0, ?_⟩
    unfold laws_FnExactFarthestIsland.f
    rw [szIsles_eq n l hm, if_neg hl]
    simp
end Go.Proofs.Ytkikaakfdggklaa.Q
