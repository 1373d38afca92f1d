/- The plain law of FnExactDropBridge: program and reference leave out the same bridge; no conditions. -/
import Derived.Test.YtkikaakfdggklaaQx23
import Derived.Test.YtkikaakfdggklaaQx1
import Derived.Test.YtkikaakfdggklaaQCutIsles
import Derived.Test.YtkikaakfdggklaaQMarks
import Derived.Test.YtkikaakfdggklaaQAsked
import Derived.Test.YtkikaakfdggklaaQx53
set_option linter.unusedVariables false
set_option linter.unusedSimpArgs false
namespace Go.Proofs.Ytkikaakfdggklaa.Q
open Go.RowKit Go.Proofs.YtkikaakfdggklaaW.PrintWords Go.Proofs.YtkikaakfdggklaaW.PrintLast Go.Proofs.YtkikaakfdggklaaW.PrintMore
def dropOk (n : Int) (l : List BR) (a : Int) : Bool := good n l && decide (0 ≤ a ∧ a ≤ (l.length : Int) - 1)
def dropL (n : Int) (l : List BR) (a : Int) : List BR := if dropOk n l a = true then dropAt l a.toNat else []
def dropN (n : Int) (l : List BR) (a : Int) : Int := if dropOk n l a = true then n else 0
theorem FnExactDropBridge_len (n : Int) (l : List BR) (a : Int) : (dropL n l a).length ≤ 1000 := by
  unfold dropL
  by_cases hd : dropOk n l a = true
  · rw [if_pos hd]
    unfold dropOk at hd
    simp only [Bool.and_eq_true, decide_eq_true_eq] at hd
    obtain ⟨_, _, h3, _⟩ := good_says hd.1
    have := dropAt_length l a.toNat
    omega
  · rw [if_neg hd]
    simp
theorem spec_DropBridge_ev (n : Int) (l : List BR) (a : Int) : ∃ K, ∀ k, K ≤ k → spec_DropBridge.f k n l a = some (dropN n l a, dropL n l a, dropOk n l a) := by
  obtain ⟨K1, h1⟩ := isGood_ev n l
  refine ⟨K1, fun k hk => ?_⟩
  unfold spec_DropBridge.f dropN dropL
  rw [h1 _ hk]
  simp only [Option.bind_some]
  by_cases hg : good n l = true
  · obtain ⟨_, _, h3, _⟩ := good_says hg
    rw [if_pos hg, w64 (by omega) (by omega), l1In_eq]
    simp only [Option.bind_some, decide_eq_true_eq]
    by_cases ha : 0 ≤ a ∧ a ≤ (l.length : Int) - 1
    · have hd : dropOk n l a = true := by simp [dropOk, hg, ha]
      obtain ⟨j, rfl⟩ : ∃ j : Nat, a = (j : Int) := ⟨a.toNat, by omega⟩
      rw [if_pos ha, if_pos hd, if_pos hd, isWithout_eq l (by omega) j (by omega), hd]
      rfl
    · have hd : dropOk n l a = false := by simp only [dropOk, Bool.and_eq_false_iff, decide_eq_false_iff_not]; exact .inr ha
      rw [if_neg ha, hd]
      rfl
  · have hd : dropOk n l a = false := by simp [dropOk, hg]
    rw [if_neg hg, hd]
    rfl
theorem impl_DropBridge_ev (n : Int) (l : List BR) (hw : ∀ b ∈ l, wfBR b) (a : Int) : ∃ K : Nat, ∀ k : Nat, K ≤ k → impl_DropBridge.f n l a = some (dropN n l a, dropL n l a, dropOk n l a) := by
  refine ⟨0, fun k hk => ?_⟩
  unfold impl_DropBridge.f dropN dropL
  rw [areIsles_eq n l hw]
  simp only [Option.bind_some]
  by_cases hg : good n l = true
  · obtain ⟨_, _, h3, _⟩ := good_says hg
    rw [if_pos hg, w64 (by omega) (by omega)]
    unfold impl_within.f
    by_cases ha : 0 ≤ a ∧ a ≤ (l.length : Int) - 1
    · have hd : dropOk n l a = true := by simp [dropOk, hg, ha]
      obtain ⟨j, rfl⟩ : ∃ j : Nat, a = (j : Int) := ⟨a.toNat, by omega⟩
      rw [if_pos ha.1]
      simp only [Option.bind_some]
      rw [if_pos (by simpa using ha.2), if_pos hd, if_pos hd, without_eq l (by omega) j (by omega), hd]
      rfl
    · have hd : dropOk n l a = false := by simp only [dropOk, Bool.and_eq_false_iff, decide_eq_false_iff_not]; exact .inr ha
      rw [hd]
      by_cases h0 : 0 ≤ a
      · rw [if_pos h0]
        simp only [Option.bind_some]
        rw [if_neg (by simp; omega)]
        rfl
      · rw [if_neg h0]
        simp only [Option.bind_some]
        rw [if_neg (by simp)]
        rfl
  · have hd : dropOk n l a = false := by simp [dropOk, hg]
    rw [if_neg hg, hd]
    rfl
theorem FnExactDropBridge_pure (n : Int) (l : List LB) (a : Int) (w : (Lit.int .i64 n).wf = true) (hm : l.length ≤ 9223372036854775807) (hw : ∀ b ∈ l, WfB b) (wa : (Lit.int .i64 a).wf = true) : ∃ k, laws_FnExactDropBridge.f k n l a = some true := by
  by_cases hl : l.length ≤ 1048576
  · obtain ⟨K1, h1⟩ := toIsles_ev n l hl
    obtain ⟨K2, h2⟩ := spec_DropBridge_ev n (l.map cv) a
    obtain ⟨K3, h3⟩ := impl_DropBridge_ev n (l.map cv) (wf_cv l hw) a
    obtain ⟨K4, h4⟩ := eqIsles_ev n (l.map cv) (by rw [List.length_map]; omega)
    have hlen := FnExactDropBridge_len n (l.map cv) a
    obtain ⟨K5, h5⟩ := eqIsles_ev (dropN n (l.map cv) a) (dropL n (l.map cv) a) (by omega)
    obtain ⟨K7, h7⟩ := markIsles_ev (dropN n (l.map cv) a) (dropL n (l.map cv) a) (by omega)
    obtain ⟨K6, h6⟩ := markIsles_ev n (l.map cv) (by rw [List.length_map]; omega)
    refine ⟨K1 + K2 + K3 + K4 + K5 + K6 + K7 + 1 + 1 + 1, ?_⟩
    unfold laws_FnExactDropBridge.f
    rw [szIsles_eq n l hm, if_pos hl, h1 _ (by omega)]
    simp only [Option.bind_some]
    rw [if_neg (by omega), h2 _ (by omega)]
    simp only [Option.bind_some]
    rw [h3 K3 (Nat.le_refl _)]
    simp only [Option.bind_some]
    rw [h5 _ (by omega)]
    simp only [Option.bind_some]
    rw [if_pos trivial, laws_FnExactDropBridge.j0, if_neg (by simp), h1 _ (by omega)]
    simp only [Option.bind_some]
    rw [h4 _ (by omega)]
    simp only [Option.bind_some]
    rw [if_pos trivial, (h6 _ (by omega)).1]
    simp only [Option.bind_some]
    rw [if_neg (by omega), h5 _ (by omega)]
    simp only [Option.bind_some]
    rw [if_pos trivial, laws_FnExactDropBridge.j1, if_neg (by simp), (h7 _ (by omega)).1]
    simp only [Option.bind_some]
    rw [(h7 _ (by omega)).2]
    simp only [Option.bind_some]
    rw [if_neg (by omega), if_pos trivial, h1 _ (by omega)]
    simp only [Option.bind_some]
    rw [h3 K3 (Nat.le_refl _)]
    simp only [Option.bind_some]
    rw [h5 _ (by omega)]
    simp only [Option.bind_some]
    rw [if_pos trivial, laws_FnExactDropBridge.j2, if_neg (by simp), (h7 _ (by omega)).2]
    simp only [Option.bind_some]
    rw [if_neg (by omega), if_pos trivial]
  · refine ⟨0, ?_⟩
    unfold laws_FnExactDropBridge.f
    rw [szIsles_eq n l hm, if_neg hl]
    simp
end Go.Proofs.Ytkikaakfdggklaa.Q
