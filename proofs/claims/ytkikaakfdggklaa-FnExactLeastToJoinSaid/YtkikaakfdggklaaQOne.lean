/- One group: as the reference and the program tell it; no conditions. -/
import Derived.Test.YtkikaakfdggklaaQCountAll
import Derived.Test.YtkikaakfdggklaaQCutIsles
import Derived.Test.YtkikaakfdggklaaQTolls
import Derived.Test.YtkikaakfdggklaaQMathJoins
import Derived.Test.YtkikaakfdggklaaQx37
set_option linter.unusedVariables false
set_option linter.unusedSimpArgs false
namespace Go.Proofs.Ytkikaakfdggklaa.Q
open Go.RowKit Go.Proofs.YtkikaakfdggklaaW.PrintWords Go.Proofs.YtkikaakfdggklaaW.PrintLast Go.Proofs.YtkikaakfdggklaaW.PrintMore
theorem groupsN_G (N : Nat) (bs : List BR) : groupsN N bs = MathJoins.G N (bs.map ed) := by
  unfold groupsN MathJoins.G cnt
  rw [List.range_eq_range']
  apply List.countP_congr
  intro i _
  unfold lead
  have : ¬ ((i : Int) = -1) := by omega
  simp [this]
def one (n : Int) (l : List BR) : Bool := good n l && decide (groupsN n.toNat l = 1)
theorem isOne_ev (n : Int) (l : List BR) : ∃ K, ∀ k, K ≤ k → spec_isOne.f k n l = some (one n l) := by
  obtain ⟨K1, h1⟩ := isGood_ev n l
  by_cases hg : good n l = true
  · obtain ⟨N, rfl, hN1, hN7, hL, hb⟩ := good_nat hg
    obtain ⟨K2, h2⟩ := isCountAll_ev N (by omega) l hb (by omega)
    refine ⟨K1 + K2, fun k hk => ?_⟩
    obtain ⟨L, ha, hb⟩ := h2 k (by omega)
    unfold spec_isOne.f one
    rw [h1 _ (by omega)]
    simp only [Option.bind_some]
    rw [if_pos hg, ha]
    simp only [Option.bind_some]
    rw [hb]
    simp only [Option.bind_some]
    rw [hg, Int.toNat_natCast, Bool.true_and]
    congr 1
    rw [Bool.eq_iff_iff, beq_iff_eq, decide_eq_true_eq]
    omega
  · refine ⟨K1, fun k hk => ?_⟩
    unfold spec_isOne.f one
    rw [h1 _ (by omega)]
    simp only [Option.bind_some]
    rw [if_neg hg, Bool.eq_false_iff.2 hg]
    rfl
theorem one_fine {n : Int} {l : List BR} (h : one n l = true) : ∃ N : Nat, n = (N : Int) ∧ 1 ≤ N ∧ N ≤ 7 ∧ l.length ≤ 14 ∧ (∀ b ∈ l, fine N b) ∧ groupsN N l = 1 := by
  unfold one at h
  simp only [Bool.and_eq_true, decide_eq_true_eq] at h
  obtain ⟨N, rfl, h1, h2, h3, h4⟩ := good_fine h.1
  exact ⟨N, rfl, h1, h2, h3, h4, by simpa using h.2⟩
/-- Not one group, though they are isles: several. -/
theorem several {n : Int} {l : List BR} (hg : good n l = true) (h : one n l = false) : 1 < groupsN n.toNat l := by
  obtain ⟨N, rfl, h1, h2, h3, h4⟩ := good_fine hg
  unfold one at h
  rw [hg, Bool.true_and, decide_eq_false_iff_not, Int.toNat_natCast] at h
  have := MathJoins.G_pos N h1 (l.map ed)
  rw [← groupsN_G] at this
  rw [Int.toNat_natCast]
  omega
end Go.Proofs.Ytkikaakfdggklaa.Q
