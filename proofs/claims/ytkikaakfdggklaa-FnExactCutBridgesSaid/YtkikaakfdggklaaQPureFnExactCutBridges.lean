/- The plain law of FnExactCutBridges: program and reference list the same bridges; no conditions. -/
import Derived.Test.YtkikaakfdggklaaQx43
import Derived.Test.YtkikaakfdggklaaQCutIsles
import Derived.Test.YtkikaakfdggklaaQCountAll
import Derived.Test.YtkikaakfdggklaaQMarks
import Derived.Test.YtkikaakfdggklaaQx54
set_option linter.unusedVariables false
set_option linter.unusedSimpArgs false
namespace Go.Proofs.Ytkikaakfdggklaa.Q
open Go.RowKit Go.Proofs.YtkikaakfdggklaaW.PrintWords Go.Proofs.YtkikaakfdggklaaW.PrintLast Go.Proofs.YtkikaakfdggklaaW.PrintMore
def isCut (N : Nat) (l : List BR) (j : Nat) : Bool := decide (groupsN N l < groupsN N (dropAt l j))
def cuts (N : Nat) (l : List BR) (d i : Nat) : List Int := ((List.range' i d).filter (isCut N l)).map (fun j : Nat => (j : Int))
theorem cuts_succ (N : Nat) (l : List BR) (d i : Nat) : cuts N l (d + 1) i = (if isCut N l i = true then [(i : Int)] else []) ++ cuts N l d (i + 1) := by
  unfold cuts
  rw [List.range'_succ, List.filter_cons]
  by_cases h : isCut N l i = true
  · rw [if_pos h, if_pos h]; rfl
  · rw [if_neg h, if_neg h]; rfl
theorem cuts_length (N : Nat) (l : List BR) (d i : Nat) : (cuts N l d i).length ≤ d := by
  unfold cuts
  rw [List.length_map]
  have := List.length_filter_le (isCut N l) (List.range' i d)
  rwa [List.length_range'] at this
theorem spec_CutBridges_l0 (N : Nat) (hN : N ≤ 1048576) (l : List BR) (hb : ∀ b ∈ l, inN N b) (hL : l.length ≤ 1048576) : ∀ (d i : Nat) (acc : List Int), i + d = l.length → acc.length ≤ i →
    ∃ K, ∀ k, K ≤ k → spec_CutBridges.l0 k ((groupsN N l : Nat) : Int) acc (l.length : Int) (i : Int) (N : Int) l = some (acc ++ cuts N l d i, true) := by
  intro d
  induction d with
  | zero =>
    intro i acc hi hc
    refine ⟨1, fun k hk => ?_⟩
    obtain ⟨m, rfl⟩ : ∃ m, k = m + 1 := ⟨k - 1, by omega⟩
    rw [spec_CutBridges.l0, if_neg (by omega)]
    simp [cuts]
  | succ d ih =>
    intro i acc hi hc
    obtain ⟨K1, h1⟩ := isCountAll_ev N hN (dropAt l i) (fun b hm => hb b (dropAt_mem hm)) (by have := dropAt_length l i; omega)
    obtain ⟨K2, h2⟩ := ih (i + 1) (acc ++ if isCut N l i = true then [(i : Int)] else []) (by omega) (by split <;> simp <;> omega)
    refine ⟨K1 + K2 + 1, fun k hk => ?_⟩
    obtain ⟨m, rfl⟩ : ∃ m, k = m + 1 := ⟨k - 1, by omega⟩
    obtain ⟨L, ha, hb⟩ := h1 m (by omega)
    rw [spec_CutBridges.l0, if_pos (by omega), isWithout_eq l hL i (by omega)]
    simp only [Option.bind_some]
    rw [ha]
    simp only [Option.bind_some]
    rw [hb]
    simp only [Option.bind_some]
    have h3 := h2 m (by omega)
    rw [w64 (by omega) (by omega), show (i : Int) + 1 = ((i + 1 : Nat) : Int) from by omega, cuts_succ, ← List.append_assoc]
    by_cases h : isCut N l i = true
    · rw [if_pos h] at h3 ⊢
      unfold isCut at h
      simp only [decide_eq_true_eq] at h
      rw [if_pos (by omega), if_pos (by omega), h3]
    · rw [if_neg h] at h3 ⊢
      unfold isCut at h
      simp only [decide_eq_true_eq] at h
      rw [if_neg (by omega)]
      rw [List.append_nil] at h3 ⊢
      exact h3
theorem impl_CutBridges_l0 (N : Nat) (hN : N ≤ 1048576) (l : List BR) (hb : ∀ b ∈ l, inN N b) (hL : l.length ≤ 1048576) : ∀ (d i : Nat) (acc : List Int), i + d = l.length → acc.length ≤ i →
    ∃ K, ∀ k, K ≤ k → impl_CutBridges.l0 k ((groupsN N l : Nat) : Int) acc (l.length : Int) (i : Int) (N : Int) l = some (acc ++ cuts N l d i, true) := by
  intro d
  induction d with
  | zero =>
    intro i acc hi hc
    refine ⟨1, fun k hk => ?_⟩
    obtain ⟨m, rfl⟩ : ∃ m, k = m + 1 := ⟨k - 1, by omega⟩
    rw [impl_CutBridges.l0, if_neg (by omega)]
    simp [cuts]
  | succ d ih =>
    intro i acc hi hc
    obtain ⟨K1, h1⟩ := countGroups_ev N hN (dropAt l i) (fun b hm => hb b (dropAt_mem hm)) (by have := dropAt_length l i; omega)
    obtain ⟨K2, h2⟩ := ih (i + 1) (acc ++ if isCut N l i = true then [(i : Int)] else []) (by omega) (by split <;> simp <;> omega)
    refine ⟨K1 + K2 + 1, fun k hk => ?_⟩
    obtain ⟨m, rfl⟩ : ∃ m, k = m + 1 := ⟨k - 1, by omega⟩
    rw [impl_CutBridges.l0, if_pos (by omega), without_eq l hL i (by omega)]
    simp only [Option.bind_some]
    rw [h1 m (by omega)]
    simp only [Option.bind_some]
    have h3 := h2 m (by omega)
    rw [w64 (by omega) (by omega), show (i : Int) + 1 = ((i + 1 : Nat) : Int) from by omega, cuts_succ, ← List.append_assoc]
    by_cases h : isCut N l i = true
    · rw [if_pos h] at h3 ⊢
      unfold isCut at h
      simp only [decide_eq_true_eq] at h
      rw [if_pos (by omega), if_pos (by omega), h3]
    · rw [if_neg h] at h3 ⊢
      unfold isCut at h
      simp only [decide_eq_true_eq] at h
      rw [if_neg (by omega)]
      rw [List.append_nil] at h3 ⊢
      exact h3
def cutList (n : Int) (l : List BR) : List Int := if good n l = true then cuts n.toNat l l.length 0 else []
theorem FnExactCutBridges_len (n : Int) (l : List BR) : (cutList n l).length ≤ 1000 := by
  unfold cutList
  by_cases hg : good n l = true
  · rw [if_pos hg]
    obtain ⟨_, _, h3, _⟩ := good_says hg
    have := cuts_length n.toNat l l.length 0
    omega
  · rw [if_neg hg]
    simp
theorem spec_CutBridges_ev (n : Int) (l : List BR) : ∃ K, ∀ k, K ≤ k → spec_CutBridges.f k n l = some (cutList n l, good n l) := by
  obtain ⟨K1, h1⟩ := isGood_ev n l
  by_cases hg : good n l = true
  · obtain ⟨N, rfl, hN1, hN7, hL, hb⟩ := good_nat hg
    obtain ⟨K2, h2⟩ := isCountAll_ev N (by omega) l hb (by omega)
    obtain ⟨K3, h3⟩ := spec_CutBridges_l0 N (by omega) l hb (by omega) l.length 0 [] (by omega) (Nat.le_refl _)
    refine ⟨K1 + K2 + K3, fun k hk => ?_⟩
    obtain ⟨L, ha, hb⟩ := h2 k (by omega)
    unfold spec_CutBridges.f cutList
    rw [h1 _ (by omega)]
    simp only [Option.bind_some]
    rw [if_pos hg, ha]
    simp only [Option.bind_some]
    rw [hb]
    simp only [Option.bind_some]
    have h := h3 k (by omega)
    rw [show ((0 : Nat) : Int) = 0 from rfl, List.nil_append] at h
    rw [h, if_pos hg, hg, Int.toNat_natCast]
  · refine ⟨K1, fun k hk => ?_⟩
    unfold spec_CutBridges.f cutList
    rw [h1 _ (by omega)]
    simp only [Option.bind_some]
    rw [if_neg hg, if_neg hg, Bool.eq_false_iff.2 hg]
theorem impl_CutBridges_ev (n : Int) (l : List BR) (hw : ∀ b ∈ l, wfBR b) : ∃ K, ∀ k, K ≤ k → impl_CutBridges.f k n l = some (cutList n l, good n l) := by
  obtain ⟨K1, h1⟩ := impl_CountGroups_ev n l hw
  by_cases hg : good n l = true
  · obtain ⟨N, rfl, hN1, hN7, hL, hb⟩ := good_nat hg
    obtain ⟨K3, h3⟩ := impl_CutBridges_l0 N (by omega) l hb (by omega) l.length 0 [] (by omega) (Nat.le_refl _)
    refine ⟨K1 + K3, fun k hk => ?_⟩
    unfold impl_CutBridges.f cutList
    rw [h1 _ (by omega)]
    simp only [Option.bind_some]
    have h := h3 k (by omega)
    rw [show ((0 : Nat) : Int) = 0 from rfl, List.nil_append] at h
    rw [if_pos hg, if_pos hg, if_pos hg, hg, Int.toNat_natCast, h]
  · refine ⟨K1, fun k hk => ?_⟩
    unfold impl_CutBridges.f cutList
    rw [h1 _ (by omega)]
    simp only [Option.bind_some]
    rw [if_neg hg, if_neg hg, Bool.eq_false_iff.2 hg]
theorem FnExactCutBridges_pure (n : Int) (l : List LB) (w : (Lit.int .i64 n).wf = true) (hm : l.length ≤ 9223372036854775807) (hw : ∀ b ∈ l, WfB b) : ∃ k, laws_FnExactCutBridges.f k n l = some true := by
  by_cases hl : l.length ≤ 1048576
  · obtain ⟨K1, h1⟩ := toIsles_ev n l hl
    obtain ⟨K2, h2⟩ := spec_CutBridges_ev n (l.map cv)
    obtain ⟨K3, h3⟩ := impl_CutBridges_ev n (l.map cv) (wf_cv l hw)
    obtain ⟨K4, h4⟩ := eqIsles_ev n (l.map cv) (by rw [List.length_map]; omega)
    have hlen := FnExactCutBridges_len n (l.map cv)
    obtain ⟨K5, h5⟩ := eqIntS_ev (cutList n (l.map cv)) (by omega)
    obtain ⟨K7, h7⟩ := markIntS_ev (cutList n (l.map cv)) (by omega)
    obtain ⟨K6, h6⟩ := markIsles_ev n (l.map cv) (by rw [List.length_map]; omega)
    refine ⟨K1 + K2 + K3 + K4 + K5 + K6 + K7 + 1 + 1 + 1, ?_⟩
    unfold laws_FnExactCutBridges.f
    rw [szIsles_eq n l hm, if_pos hl, h1 _ (by omega)]
    simp only [Option.bind_some]
    rw [if_neg (by omega), h2 _ (by omega)]
    simp only [Option.bind_some]
    rw [h3 _ (by omega)]
    simp only [Option.bind_some]
    rw [h5 _ (by omega)]
    simp only [Option.bind_some]
    rw [if_pos trivial, laws_FnExactCutBridges.j0, if_neg (by simp), h1 _ (by omega)]
    simp only [Option.bind_some]
    rw [h4 _ (by omega)]
    simp only [Option.bind_some]
    rw [if_pos trivial, (h6 _ (by omega)).1]
    simp only [Option.bind_some]
    rw [if_neg (by omega), h5 _ (by omega)]
    simp only [Option.bind_some]
    rw [if_pos trivial, laws_FnExactCutBridges.j1, if_neg (by simp), (h7 _ (by omega)).1]
    simp only [Option.bind_some]
    rw [(h7 _ (by omega)).2]
    simp only [Option.bind_some]
    rw [if_neg (by omega), if_pos trivial, h1 _ (by omega)]
    simp only [Option.bind_some]
    rw [h3 _ (by omega)]
    simp only [Option.bind_some]
    rw [h5 _ (by omega)]
    simp only [Option.bind_some]
    rw [if_pos trivial, laws_FnExactCutBridges.j2, if_neg (by simp), (h7 _ (by omega)).2]
    simp only [Option.bind_some]
    rw [if_neg (by omega), if_pos trivial]
  · refine ⟨0, ?_⟩
    unfold laws_FnExactCutBridges.f
    rw [szIsles_eq n l hm, if_neg hl]
    simp
end Go.Proofs.Ytkikaakfdggklaa.Q
