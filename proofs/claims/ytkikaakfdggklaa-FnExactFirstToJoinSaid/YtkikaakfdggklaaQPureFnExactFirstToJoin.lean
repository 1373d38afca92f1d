/- The plain law of FnExactFirstToJoin: both searches find the same lists; no conditions. -/
import Derived.Test.YtkikaakfdggklaaQJoins
import Derived.Test.YtkikaakfdggklaaQMarks
import Derived.Test.YtkikaakfdggklaaQx48
set_option linter.unusedVariables false
set_option linter.unusedSimpArgs false
namespace Go.Proofs.Ytkikaakfdggklaa.Q
open Go.RowKit Go.Proofs.YtkikaakfdggklaaW.PrintWords Go.Proofs.YtkikaakfdggklaaW.PrintLast Go.Proofs.YtkikaakfdggklaaW.PrintMore
open Go.Proofs.Ytkikaakfdggklaa.MathJoins
def joinTold (n : Int) (l : List BR) : List Int := if one n l = true then pB (joins n.toNat l) else []
theorem FnExactFirstToJoin_len (n : Int) (l : List BR) : (joinTold n l).length ≤ 1000 := by
  unfold joinTold
  by_cases hg : one n l = true
  · rw [if_pos hg]
    obtain ⟨N, rfl, hN1, hN7, hL, hb, hone⟩ := one_fine hg
    rw [Int.toNat_natCast]
    cases hj : joins N l with
    | none => simp [pB]
    | some s =>
      obtain ⟨a, b, c⟩ := s
      have h := (sums_says (show sums _ = some (a, b, c) from hj)).2.2
      have h2 := (leaves_have _ _ _ _ _ _ _ _ (List.mem_filter.1 h).1).2
      unfold pB
      rw [cw_length]
      dsimp only at h2 ⊢
      omega
  · rw [if_neg hg]
    simp
theorem spec_FirstToJoin_ev (n : Int) (l : List BR) : ∃ K, ∀ k, K ≤ k → spec_FirstToJoin.f k n l = some (joinTold n l, one n l) := by
  obtain ⟨K1, h1⟩ := isOne_ev n l
  by_cases hg : one n l = true
  · obtain ⟨N, rfl, hN1, hN7, hL, hb, hone⟩ := one_fine hg
    obtain ⟨K2, h2⟩ := isJoins_all N hN1 hN7 l hb hL
    have hne := (joins_one N hN1 l hb).2 hone
    refine ⟨K1 + K2, fun k hk => ?_⟩
    unfold spec_FirstToJoin.f joinTold
    rw [h1 _ (by omega)]
    simp only [Option.bind_some]
    rw [if_pos hg, h2 _ (by omega), if_pos hg, hg]
    simp only [Option.bind_some, Int.toNat_natCast]
  · refine ⟨K1, fun k hk => ?_⟩
    unfold spec_FirstToJoin.f joinTold
    rw [h1 _ (by omega)]
    simp only [Option.bind_some]
    rw [if_neg hg, if_neg hg, Bool.eq_false_iff.2 hg]
theorem impl_FirstToJoin_ev (n : Int) (l : List BR) (hw : ∀ b ∈ l, wfBR b) : ∃ K, ∀ k, K ≤ k → impl_FirstToJoin.f k n l = some (joinTold n l, one n l) := by
  by_cases hg : good n l = true
  · obtain ⟨N, rfl, hN1, hN7, hL, hb⟩ := good_fine hg
    obtain ⟨K2, h2⟩ := joinings_ev N hN1 hN7 l hb hL
    have hone := joins_one N hN1 l hb
    refine ⟨K2, fun k hk => ?_⟩
    unfold impl_FirstToJoin.f joinTold
    rw [areIsles_eq _ _ hw]
    simp only [Option.bind_some]
    rw [if_pos hg, h2 _ (by omega)]
    simp only [Option.bind_some, Int.toNat_natCast]
    by_cases h1 : one (N : Int) l = true
    · obtain ⟨M, hM, _, _, _, _, h1g⟩ := one_fine h1
      obtain rfl : N = M := by omega
      have hne := hone.2 h1g
      have hre := joins_real N l
      rw [if_pos h1, h1]
      cases hj : joins N l with
      | none => exact absurd hj hne
      | some s =>
        obtain ⟨a, b, c⟩ := s
        have hc := hre a b c hj
        rw [show decide (((cntS (some (a, b, c)) : Nat) : Int) > 0) = true from decide_eq_true (by simp only [cntS]; omega)]
    · have hs := several hg (Bool.eq_false_iff.2 h1)
      rw [Int.toNat_natCast] at hs
      have hj : joins N l = none := by
        refine Classical.byContradiction fun hne => ?_
        have := hone.1 hne
        omega
      rw [if_neg h1, hj, Bool.eq_false_iff.2 h1]
      rfl
  · have h1 : one n l = false := by unfold one; rw [Bool.eq_false_iff.2 hg]; rfl
    refine ⟨0, fun k hk => ?_⟩
    unfold impl_FirstToJoin.f joinTold
    rw [areIsles_eq _ _ hw]
    simp only [Option.bind_some]
    rw [if_neg hg, h1]
    rfl
theorem FnExactFirstToJoin_pure (n : Int) (l : List LB) (w : (Lit.int .i64 n).wf = true) (hm : l.length ≤ 9223372036854775807) (hw : ∀ b ∈ l, WfB b) : ∃ k, laws_FnExactFirstToJoin.f k n l = some true := by
  by_cases hl : l.length ≤ 1048576
  · obtain ⟨K1, h1⟩ := toIsles_ev n l hl
    obtain ⟨K2, h2⟩ := spec_FirstToJoin_ev n (l.map cv)
    obtain ⟨K3, h3⟩ := impl_FirstToJoin_ev n (l.map cv) (wf_cv l hw)
    obtain ⟨K4, h4⟩ := eqIsles_ev n (l.map cv) (by rw [List.length_map]; omega)
    have hlen := FnExactFirstToJoin_len n (l.map cv)
    obtain ⟨K5, h5⟩ := eqIntS_ev (joinTold n (l.map cv)) (by omega)
    obtain ⟨K7, h7⟩ := markIntS_ev (joinTold n (l.map cv)) (by omega)
    obtain ⟨K6, h6⟩ := markIsles_ev n (l.map cv) (by rw [List.length_map]; omega)
    refine ⟨K1 + K2 + K3 + K4 + K5 + K6 + K7 + 1 + 1 + 1, ?_⟩
    unfold laws_FnExactFirstToJoin.f
    rw [szIsles_eq n l hm, if_pos hl, h1 _ (by omega)]
    simp only [Option.bind_some]
    rw [if_neg (by omega), h2 _ (by omega)]
    simp only [Option.bind_some]
    rw [h3 _ (by omega)]
    simp only [Option.bind_some]
    rw [h5 _ (by omega)]
    simp only [Option.bind_some]
    rw [if_pos trivial, laws_FnExactFirstToJoin.j0, if_neg (by simp), h1 _ (by omega)]
    simp only [Option.bind_some]
    rw [h4 _ (by omega)]
    simp only [Option.bind_some]
    rw [if_pos trivial, (h6 _ (by omega)).1]
    simp only [Option.bind_some]
    rw [if_neg (by omega), h5 _ (by omega)]
    simp only [Option.bind_some]
    rw [if_pos trivial, laws_FnExactFirstToJoin.j1, if_neg (by simp), (h7 _ (by omega)).1]
    simp only [Option.bind_some]
    rw [(h7 _ (by omega)).2]
    simp only [Option.bind_some]
    rw [if_neg (by omega), if_pos trivial, h1 _ (by omega)]
    simp only [Option.bind_some]
    rw [h3 _ (by omega)]
    simp only [Option.bind_some]
    rw [h5 _ (by omega)]
    simp only [Option.bind_some]
    rw [if_pos trivial, laws_FnExactFirstToJoin.j2, if_neg (by simp), (h7 _ (by omega)).2]
    simp only [Option.bind_some]
    rw [if_neg (by omega), if_pos trivial]
  · refine ⟨0, ?_⟩
    unfold laws_FnExactFirstToJoin.f
    rw [szIsles_eq n l hm, if_neg hl]
    simp
end Go.Proofs.Ytkikaakfdggklaa.Q
