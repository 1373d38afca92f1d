/- The plain law of FnExactCountToJoin: both searches find the same lists; no conditions. -/
import Derived.Test.YtkikaakfdggklaaQJoins
import Derived.Test.YtkikaakfdggklaaQx40
set_option linter.unusedVariables false
set_option linter.unusedSimpArgs false
namespace Go.Proofs.Ytkikaakfdggklaa.Q
open Go.RowKit Go.Proofs.YtkikaakfdggklaaW.PrintWords Go.Proofs.YtkikaakfdggklaaW.PrintLast Go.Proofs.YtkikaakfdggklaaW.PrintMore
open Go.Proofs.Ytkikaakfdggklaa.MathJoins
def joinTold (n : Int) (l : List BR) : Int := if one n l = true then (cntS (joins n.toNat l) : Int) else 0
theorem spec_CountToJoin_ev (n : Int) (l : List BR) : ∃ K, ∀ k, K ≤ k → spec_CountToJoin.f k n l = some (joinTold n l, one n l) := by
  obtain ⟨K1, h1⟩ := isOne_ev n l
  by_cases hg : one n l = true
  · obtain ⟨N, rfl, hN1, hN7, hL, hb, hone⟩ := one_fine hg
    obtain ⟨K2, h2⟩ := isJoins_all N hN1 hN7 l hb hL
    have hne := (joins_one N hN1 l hb).2 hone
    refine ⟨K1 + K2, fun k hk => ?_⟩
    unfold spec_CountToJoin.f joinTold
    rw [h1 _ (by omega)]
    simp only [Option.bind_some]
    rw [if_pos hg, h2 _ (by omega), if_pos hg, hg]
    simp only [Option.bind_some, Int.toNat_natCast]
  · refine ⟨K1, fun k hk => ?_⟩
    unfold spec_CountToJoin.f joinTold
    rw [h1 _ (by omega)]
    simp only [Option.bind_some]
    rw [if_neg hg, if_neg hg, Bool.eq_false_iff.2 hg]
theorem impl_CountToJoin_ev (n : Int) (l : List BR) (hw : ∀ b ∈ l, wfBR b) : ∃ K, ∀ k, K ≤ k → impl_CountToJoin.f k n l = some (joinTold n l, one n l) := by
  by_cases hg : good n l = true
  · obtain ⟨N, rfl, hN1, hN7, hL, hb⟩ := good_fine hg
    obtain ⟨K2, h2⟩ := joinings_ev N hN1 hN7 l hb hL
    have hone := joins_one N hN1 l hb
    refine ⟨K2, fun k hk => ?_⟩
    unfold impl_CountToJoin.f joinTold
    rw [areIsles_eq _ _ hw]
    simp only [Option.bind_some]
    rw [if_pos hg, h2 _ (by omega)]
    simp only [Option.bind_some, Int.toNat_natCast]
    by_cases h1 : one (N : Int) l = true
    · obtain ⟨M, hM, _, _, _, _, h1g⟩ := one_fine h1
      obtain rfl : N = M := by omega
      have hne := hone.2 h1g
      have hre := joins_real N l
      rw [if_pos h1, h1]
      cases hj : joins N l with
      | none => exact absurd hj hne
      | some s =>
        obtain ⟨a, b, c⟩ := s
        have hc := hre a b c hj
        rw [show decide (((cntS (some (a, b, c)) : Nat) : Int) > 0) = true from decide_eq_true (by simp only [cntS]; omega)]
    · have hs := several hg (Bool.eq_false_iff.2 h1)
      rw [Int.toNat_natCast] at hs
      have hj : joins N l = none := by
        refine Classical.byContradiction fun hne => ?_
        have := hone.1 hne
        omega
      rw [if_neg h1, hj, Bool.eq_false_iff.2 h1]
      rfl
  · have h1 : one n l = false := by unfold one; rw [Bool.eq_false_iff.2 hg]; rfl
    refine ⟨0, fun k hk => ?_⟩
    unfold impl_CountToJoin.f joinTold
    rw [areIsles_eq _ _ hw]
    simp only [Option.bind_some]
    rw [if_neg hg, h1]
    rfl
theorem FnExactCountToJoin_pure (n : Int) (l : List LB) (w : (Lit.int .i64 n).wf = true) (hm : l.length ≤ 9223372036854775807) (hw : ∀ b ∈ l, WfB b) : ∃ k, laws_FnExactCountToJoin.f k n l = some true := by
  by_cases hl : l.length ≤ 1048576
  · obtain ⟨K1, h1⟩ := toIsles_ev n l hl
    obtain ⟨K2, h2⟩ := spec_CountToJoin_ev n (l.map cv)
    obtain ⟨K3, h3⟩ := impl_CountToJoin_ev n (l.map cv) (wf_cv l hw)
    obtain ⟨K4, h4⟩ := eqIsles_ev n (l.map cv) (by rw [List.length_map]; omega)
    refine ⟨K1 + K2 + K3 + K4 + 1, ?_⟩
    unfold laws_FnExactCountToJoin.f
    rw [szIsles_eq n l hm, if_pos hl, h1 _ (by omega)]
    simp only [Option.bind_some]
    rw [if_neg (by omega), h2 _ (by omega)]
    simp only [Option.bind_some]
    rw [h3 _ (by omega)]
    simp only [Option.bind_some]
    rw [if_pos trivial, laws_FnExactCountToJoin.j0, if_neg (by simp), h1 _ (by omega)]
    simp only [Option.bind_some]
    rw [h4 _ (by omega)]
    rfl
  · refine ⟨0, ?_⟩
    unfold laws_FnExactCountToJoin.f
    rw [szIsles_eq n l hm, if_neg hl]
    simp
end Go.Proofs.Ytkikaakfdggklaa.Q
