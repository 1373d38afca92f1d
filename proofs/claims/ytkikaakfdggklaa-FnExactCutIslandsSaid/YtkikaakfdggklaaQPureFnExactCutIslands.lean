/- The plain law of FnExactCutIslands: program and reference list the same islands; no conditions. -/
import Derived.Test.YtkikaakfdggklaaQx61
import Derived.Test.YtkikaakfdggklaaQCutIsles
import Derived.Test.YtkikaakfdggklaaQCountAll
import Derived.Test.YtkikaakfdggklaaQMarks
import Derived.Test.YtkikaakfdggklaaQx42
set_option linter.unusedVariables false
set_option linter.unusedSimpArgs false
namespace Go.Proofs.Ytkikaakfdggklaa.Q
open Go.RowKit Go.Proofs.YtkikaakfdggklaaW.PrintWords Go.Proofs.YtkikaakfdggklaaW.PrintLast Go.Proofs.YtkikaakfdggklaaW.PrintMore
open Go.Proofs.Ytkikaakfdggklaa.MathGroups
def rest (l : List BR) (i : Nat) : List BR := l.filter (apart (i : Int))
theorem rest_eq (l : List BR) (i : Nat) : l.filter (fun b => !touch (i : Int) b) = rest l i := by
  unfold rest
  apply List.filter_congr
  intro b _
  unfold touch apart
  rw [Bool.not_or]
theorem rest_in {N : Nat} {l : List BR} (hb : ∀ b ∈ l, inN N b) (i : Nat) : ∀ b ∈ rest l i, inN N b := fun b hm => hb b (List.mem_filter.1 hm).1
theorem rest_length (l : List BR) (i : Nat) : (rest l i).length ≤ l.length := List.length_filter_le _ _
theorem rest_alone {N : Nat} {l : List BR} (hb : ∀ b ∈ l, inN N b) (i : Nat) : merged ((rest l i).map ed) i = i := by
  have hR := roots_merged ((rest l i).map ed)
  have hc : Conn ((rest l i).map ed) i (merged ((rest l i).map ed) i) := Conn.symm ((hR.iff _ _).1 (hR.root i))
  refine hc.alone (fun e he => ?_)
  obtain ⟨b, hm, rfl⟩ := List.mem_map.1 he
  obtain ⟨h0, h1⟩ := List.mem_filter.1 hm
  obtain ⟨g0, _, g2, _⟩ := hb b h0
  unfold apart at h1
  simp only [Bool.and_eq_true, Bool.not_eq_true', beq_eq_false_iff_ne] at h1
  unfold ed
  dsimp only
  omega
theorem cnt_out (f : Nat → Nat) (v : Nat) (hv : f v = v) : ∀ d i, cnt (lead f (-1)) d i = cnt (lead f (v : Int)) d i + (if i ≤ v ∧ v < i + d then 1 else 0) := by
  intro d
  induction d with
  | zero =>
    intro i
    rw [cnt_zero, cnt_zero, if_neg (by omega)]
  | succ d ih =>
    intro i
    rw [cnt_succ, cnt_succ, ih (i + 1)]
    have hn : ¬ ((i : Int) = -1) := by omega
    by_cases e : i = v
    · subst e
      have h1 : lead f (-1) i = true := by simp [lead, hv, hn]
      have h2 : ¬ lead f (i : Int) i = true := by simp [lead]
      rw [if_pos h1, if_neg h2, if_neg (by omega), if_pos (by omega)]
      omega
    · have h1 : lead f (-1) i = lead f (v : Int) i := by
        have : ¬ ((i : Int) = (v : Int)) := by omega
        simp [lead, hn, this]
      rw [h1]
      generalize (if lead f (v : Int) i = true then 1 else 0) = z
      split <;> split <;> omega
def isCutI (N : Nat) (l : List BR) (j : Nat) : Bool := decide (groupsN N l + 1 < groupsN N (rest l j))
def cutsI (N : Nat) (l : List BR) (d i : Nat) : List Int := ((List.range' i d).filter (isCutI N l)).map (fun j : Nat => (j : Int))
theorem cutsI_succ (N : Nat) (l : List BR) (d i : Nat) : cutsI N l (d + 1) i = (if isCutI N l i = true then [(i : Int)] else []) ++ cutsI N l d (i + 1) := by
  unfold cutsI
  rw [List.range'_succ, List.filter_cons]
  by_cases h : isCutI N l i = true
  · rw [if_pos h, if_pos h]; rfl
  · rw [if_neg h, if_neg h]; rfl
theorem cutsI_length (N : Nat) (l : List BR) (d i : Nat) : (cutsI N l d i).length ≤ d := by
  unfold cutsI
  rw [List.length_map]
  have := List.length_filter_le (isCutI N l) (List.range' i d)
  rwa [List.length_range'] at this
theorem spec_CutIslands_l0 (N : Nat) (hN : N ≤ 1048576) (l : List BR) (hb : ∀ b ∈ l, inN N b) (hL : l.length ≤ 1048576) : ∀ (d i : Nat) (acc : List Int), i + d = N → acc.length ≤ i →
    ∃ K, ∀ k, K ≤ k → spec_CutIslands.l0 k ((groupsN N l : Nat) : Int) acc (i : Int) (N : Int) l = some (acc ++ cutsI N l d i, true) := by
  intro d
  induction d with
  | zero =>
    intro i acc hi hc
    refine ⟨1, fun k hk => ?_⟩
    obtain ⟨m, rfl⟩ : ∃ m, k = m + 1 := ⟨k - 1, by omega⟩
    rw [spec_CutIslands.l0, if_neg (by omega)]
    simp [cutsI]
  | succ d ih =>
    intro i acc hi hc
    obtain ⟨K1, h1⟩ := isGroups_ev N hN (i : Int) l hb hL
    obtain ⟨K3, h3⟩ := isCount_ev N hN (merged ((rest l i).map ed)) (i : Int)
    obtain ⟨K2, h2⟩ := ih (i + 1) (acc ++ if isCutI N l i = true then [(i : Int)] else []) (by omega) (by split <;> simp <;> omega)
    have hcnt := cnt_out (merged ((rest l i).map ed)) i (rest_alone hb i) N 0
    rw [if_pos (by omega)] at hcnt
    have hgr : groupsN N (rest l i) = cnt (lead (merged ((rest l i).map ed)) (i : Int)) N 0 + 1 := hcnt
    refine ⟨K1 + K2 + K3 + 1, fun k hk => ?_⟩
    obtain ⟨m, rfl⟩ : ∃ m, k = m + 1 := ⟨k - 1, by omega⟩
    rw [spec_CutIslands.l0, if_pos (by omega), h1 m (by omega)]
    simp only [Option.bind_some]
    rw [show (l.filter (apart (i : Int))) = rest l i from rfl, h3 m (by omega)]
    simp only [Option.bind_some]
    have h4 := h2 m (by omega)
    rw [w64 (by omega) (by omega), show (i : Int) + 1 = ((i + 1 : Nat) : Int) from by omega, cutsI_succ, ← List.append_assoc]
    by_cases h : isCutI N l i = true
    · rw [if_pos h] at h4 ⊢
      unfold isCutI at h
      simp only [decide_eq_true_eq] at h
      rw [if_pos (by omega), if_pos (by omega), h4]
    · rw [if_neg h] at h4 ⊢
      unfold isCutI at h
      simp only [decide_eq_true_eq] at h
      rw [if_neg (by omega)]
      rw [List.append_nil] at h4 ⊢
      exact h4
theorem impl_CutIslands_l0 (N : Nat) (hN : N ≤ 1048576) (l : List BR) (hb : ∀ b ∈ l, inN N b) (hL : l.length ≤ 1048576) : ∀ (d i : Nat) (acc : List Int), i + d = N → acc.length ≤ i →
    ∃ K, ∀ k, K ≤ k → impl_CutIslands.l0 k (N : Int) l ((groupsN N l : Nat) : Int) acc (i : Int) = some (acc ++ cutsI N l d i, true) := by
  intro d
  induction d with
  | zero =>
    intro i acc hi hc
    refine ⟨1, fun k hk => ?_⟩
    obtain ⟨m, rfl⟩ : ∃ m, k = m + 1 := ⟨k - 1, by omega⟩
    rw [impl_CutIslands.l0, if_neg (by omega)]
    simp [cutsI]
  | succ d ih =>
    intro i acc hi hc
    obtain ⟨K1, h1⟩ := countGroups_ev N hN (rest l i) (rest_in hb i) (by have := rest_length l i; omega)
    obtain ⟨K2, h2⟩ := ih (i + 1) (acc ++ if isCutI N l i = true then [(i : Int)] else []) (by omega) (by split <;> simp <;> omega)
    have hle : groupsN N (rest l i) ≤ N := cnt_le _ _ _
    refine ⟨K1 + K2 + 1, fun k hk => ?_⟩
    obtain ⟨m, rfl⟩ : ∃ m, k = m + 1 := ⟨k - 1, by omega⟩
    rw [impl_CutIslands.l0, if_pos (by omega), if_pos (by omega), rest_eq, h1 m (by omega)]
    simp only [Option.bind_some]
    have h4 := h2 m (by omega)
    rw [w64 (x := ((groupsN N (rest l i) : Nat) : Int) - 1) (by omega) (by omega), w64 (by omega) (by omega), show (i : Int) + 1 = ((i + 1 : Nat) : Int) from by omega, cutsI_succ, ← List.append_assoc]
    by_cases h : isCutI N l i = true
    · rw [if_pos h] at h4 ⊢
      unfold isCutI at h
      simp only [decide_eq_true_eq] at h
      rw [if_pos (by omega), if_pos (by omega), h4]
    · rw [if_neg h] at h4 ⊢
      unfold isCutI at h
      simp only [decide_eq_true_eq] at h
      rw [if_neg (by omega)]
      rw [List.append_nil] at h4 ⊢
      exact h4
def cutListI (n : Int) (l : List BR) : List Int := if good n l = true then cutsI n.toNat l n.toNat 0 else []
theorem FnExactCutIslands_len (n : Int) (l : List BR) : (cutListI n l).length ≤ 1000 := by
  unfold cutListI
  by_cases hg : good n l = true
  · rw [if_pos hg]
    obtain ⟨_, _, h3, _⟩ := good_says hg
    have := cutsI_length n.toNat l n.toNat 0
    omega
  · rw [if_neg hg]
    simp
theorem spec_CutIslands_ev (n : Int) (l : List BR) : ∃ K, ∀ k, K ≤ k → spec_CutIslands.f k n l = some (cutListI n l, good n l) := by
  obtain ⟨K1, h1⟩ := isGood_ev n l
  by_cases hg : good n l = true
  · obtain ⟨N, rfl, hN1, hN7, hL, hb⟩ := good_nat hg
    obtain ⟨K2, h2⟩ := isCountAll_ev N (by omega) l hb (by omega)
    obtain ⟨K3, h3⟩ := spec_CutIslands_l0 N (by omega) l hb (by omega) N 0 [] (by omega) (Nat.le_refl _)
    refine ⟨K1 + K2 + K3, fun k hk => ?_⟩
    obtain ⟨L, ha, hb⟩ := h2 k (by omega)
    unfold spec_CutIslands.f cutListI
    rw [h1 _ (by omega)]
    simp only [Option.bind_some]
    rw [if_pos hg, ha]
    simp only [Option.bind_some]
    rw [hb]
    simp only [Option.bind_some]
    have h := h3 k (by omega)
    rw [show ((0 : Nat) : Int) = 0 from rfl, List.nil_append] at h
    rw [h, if_pos hg, hg, Int.toNat_natCast]
  · refine ⟨K1, fun k hk => ?_⟩
    unfold spec_CutIslands.f cutListI
    rw [h1 _ (by omega)]
    simp only [Option.bind_some]
    rw [if_neg hg, if_neg hg, Bool.eq_false_iff.2 hg]
theorem impl_CutIslands_ev (n : Int) (l : List BR) (hw : ∀ b ∈ l, wfBR b) : ∃ K, ∀ k, K ≤ k → impl_CutIslands.f k n l = some (cutListI n l, good n l) := by
  obtain ⟨K1, h1⟩ := impl_CountGroups_ev n l hw
  by_cases hg : good n l = true
  · obtain ⟨N, rfl, hN1, hN7, hL, hb⟩ := good_nat hg
    obtain ⟨K3, h3⟩ := impl_CutIslands_l0 N (by omega) l hb (by omega) N 0 [] (by omega) (Nat.le_refl _)
    refine ⟨K1 + K3, fun k hk => ?_⟩
    unfold impl_CutIslands.f cutListI
    rw [h1 _ (by omega)]
    simp only [Option.bind_some]
    have h := h3 k (by omega)
    rw [show ((0 : Nat) : Int) = 0 from rfl, List.nil_append] at h
    rw [if_pos hg, if_pos hg, if_pos hg, hg, Int.toNat_natCast, h]
  · refine ⟨K1, fun k hk => ?_⟩
    unfold impl_CutIslands.f cutListI
    rw [h1 _ (by omega)]
    simp only [Option.bind_some]
    rw [if_neg hg, if_neg hg, Bool.eq_false_iff.2 hg]
theorem FnExactCutIslands_pure (n : Int) (l : List LB) (w : (Lit.int .i64 n).wf = true) (hm : l.length ≤ 9223372036854775807) (hw : ∀ b ∈ l, WfB b) : ∃ k, laws_FnExactCutIslands.f k n l = some true := by
  by_cases hl : l.length ≤ 1048576
  · obtain ⟨K1, h1⟩ := toIsles_ev n l hl
    obtain ⟨K2, h2⟩ := spec_CutIslands_ev n (l.map cv)
    obtain ⟨K3, h3⟩ := impl_CutIslands_ev n (l.map cv) (wf_cv l hw)
    obtain ⟨K4, h4⟩ := eqIsles_ev n (l.map cv) (by rw [List.length_map]; omega)
    have hlen := FnExactCutIslands_len n (l.map cv)
    obtain ⟨K5, h5⟩ := eqIntS_ev (cutListI n (l.map cv)) (by omega)
    obtain ⟨K7, h7⟩ := markIntS_ev (cutListI n (l.map cv)) (by omega)
    obtain ⟨K6, h6⟩ := markIsles_ev n (l.map cv) (by rw [List.length_map]; omega)
    refine ⟨K1 + K2 + K3 + K4 + K5 + K6 + K7 + 1 + 1 + 1, ?_⟩
    unfold laws_FnExactCutIslands.f
    rw [szIsles_eq n l hm, if_pos hl, h1 _ (by omega)]
    simp only [Option.bind_some]
    rw [if_neg (by omega), h2 _ (by omega)]
    simp only [Option.bind_some]
    rw [h3 _ (by omega)]
    simp only [Option.bind_some]
    rw [h5 _ (by omega)]
    simp only [Option.bind_some]
    rw [if_pos trivial, laws_FnExactCutIslands.j0, if_neg (by simp), h1 _ (by omega)]
    simp only [Option.bind_some]
    rw [h4 _ (by omega)]
    simp only [Option.bind_some]
    rw [if_pos trivial, (h6 _ (by omega)).1]
    simp only [Option.bind_some]
    rw [if_neg (by omega), h5 _ (by omega)]
    simp only [Option.bind_some]
    rw [if_pos trivial, laws_FnExactCutIslands.j1, if_neg (by simp), (h7 _ (by omega)).1]
    simp only [Option.bind_some]
    rw [(h7 _ (by omega)).2]
    simp only [Option.bind_some]
    rw [if_neg (by omega), if_pos trivial, h1 _ (by omega)]
    simp only [Option.bind_some]
    rw [h3 _ (by omega)]
    simp only [Option.bind_some]
    rw [h5 _ (by omega)]
    simp only [Option.bind_some]
    rw [if_pos trivial, laws_FnExactCutIslands.j2, if_neg (by simp), (h7 _ (by omega)).2]
    simp only [Option.bind_some]
    rw [if_neg (by omega), if_pos trivial]
  · refine ⟨0, ?_⟩
    unfold laws_FnExactCutIslands.f
    rw [szIsles_eq n l hm, if_neg hl]
    simp
end Go.Proofs.Ytkikaakfdggklaa.Q
