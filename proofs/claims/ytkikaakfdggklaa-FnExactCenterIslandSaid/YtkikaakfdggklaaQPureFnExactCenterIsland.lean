/- The plain law of FnExactCenterIsland; no conditions. -/
import Derived.Test.YtkikaakfdggklaaQFar
import Derived.Test.YtkikaakfdggklaaQOne
import Derived.Test.YtkikaakfdggklaaQx47
set_option linter.unusedVariables false
set_option linter.unusedSimpArgs false
namespace Go.Proofs.Ytkikaakfdggklaa.Q
open Go.RowKit Go.Proofs.YtkikaakfdggklaaW.PrintWords Go.Proofs.YtkikaakfdggklaaW.PrintLast Go.Proofs.YtkikaakfdggklaaW.PrintMore
def cenStep (F : Nat → Int) (st : Int × Int) (i : Nat) : Int × Int := if F i < st.2 then ((i : Int), F i) else st
def cen (F : Nat → Int) (d i : Nat) (st : Int × Int) : Int × Int := (List.range' i d).foldl (cenStep F) st
theorem cen_succ (F : Nat → Int) (d i : Nat) (st : Int × Int) : cen F (d + 1) i st = cen F d (i + 1) (cenStep F st i) := by
  unfold cen
  rw [List.range'_succ, List.foldl_cons]
theorem cenStep_range (F : Nat → Int) (hF : ∀ i, 0 ≤ F i ∧ F i < 1000000) (st : Int × Int) (i : Nat) (h : 0 ≤ st.2 ∧ st.2 ≤ 1000000) : 0 ≤ (cenStep F st i).2 ∧ (cenStep F st i).2 < 1000000 := by
  have := hF i
  unfold cenStep
  split
  · exact this
  · omega
def enc (x : Int) : Int := if x = 1000000 then -1 else x
theorem spec_CenterIsland_l0 (N : Nat) (hN : N ≤ 7) (bs : List BR) (hb : ∀ b ∈ bs, fine N b) (hL : bs.length ≤ 14) : ∀ (d i : Nat) (st : Int × Int), i + d = N →
    ∃ K, ∀ k, K ≤ k → spec_CenterIsland.l0 k st.1 st.2 (i : Int) (N : Int) bs = some ((cen (fun j => (farR N bs j).2) d i st).1, (cen (fun j => (farR N bs j).2) d i st).2, true) := by
  intro d
  induction d with
  | zero =>
    intro i st hi
    refine ⟨1, fun k hk => ?_⟩
    obtain ⟨m, rfl⟩ : ∃ m, k = m + 1 := ⟨k - 1, by omega⟩
    rw [spec_CenterIsland.l0, if_neg (by omega)]
    rfl
  | succ d ih =>
    intro i st hi
    obtain ⟨K1, h1⟩ := isFarthest_ev N hN bs hb hL i (by omega)
    obtain ⟨K2, h2⟩ := ih (i + 1) (cenStep (fun j => (farR N bs j).2) st i) (by omega)
    refine ⟨K1 + K2 + 1, fun k hk => ?_⟩
    obtain ⟨m, rfl⟩ : ∃ m, k = m + 1 := ⟨k - 1, by omega⟩
    have h3 := h2 m (by omega)
    rw [spec_CenterIsland.l0, if_pos (by omega), h1 m (by omega), cen_succ]
    simp only [Option.bind_some]
    rw [w64 (by omega) (by omega), show (i : Int) + 1 = ((i + 1 : Nat) : Int) from by omega, ← h3]
    unfold cenStep
    by_cases c : (farR N bs i).2 < st.2
    · rw [if_pos c, if_pos c]
    · rw [if_neg c, if_neg c]
theorem impl_CenterIsland_l0 (N : Nat) (hN : N ≤ 7) (bs : List BR) (hb : ∀ b ∈ bs, fine N b) (hL : bs.length ≤ 14) : ∀ (d i : Nat) (st : Int × Int), i + d = N → 0 ≤ st.2 ∧ st.2 ≤ 1000000 →
    ∃ K, ∀ k, K ≤ k → impl_CenterIsland.l0 k st.1 (enc st.2) (N : Int) (i : Int) (N : Int) bs = some ((cen (fun j => (farR N bs j).2) d i st).1, enc (cen (fun j => (farR N bs j).2) d i st).2, true) := by
  intro d
  induction d with
  | zero =>
    intro i st hi hr
    refine ⟨1, fun k hk => ?_⟩
    obtain ⟨m, rfl⟩ : ∃ m, k = m + 1 := ⟨k - 1, by omega⟩
    rw [impl_CenterIsland.l0, if_neg (by omega)]
    rfl
  | succ d ih =>
    intro i st hi hr
    obtain ⟨K1, h1⟩ := farthest_ev N hN bs hb hL i (by omega)
    have hF := farR_range N bs i
    have hc := cenStep_range (fun j => (farR N bs j).2) (fun j => farR_range N bs j) st i hr
    obtain ⟨K2, h2⟩ := ih (i + 1) (cenStep (fun j => (farR N bs j).2) st i) (by omega) ⟨hc.1, by omega⟩
    refine ⟨K1 + K2 + 1, fun k hk => ?_⟩
    obtain ⟨m, rfl⟩ : ∃ m, k = m + 1 := ⟨k - 1, by omega⟩
    have h3 := h2 m (by omega)
    rw [impl_CenterIsland.l0, if_pos (by omega), h1 m (by omega), cen_succ]
    simp only [Option.bind_some]
    rw [w64 (by omega) (by omega), show (i : Int) + 1 = ((i + 1 : Nat) : Int) from by omega, ← h3]
    unfold cenStep enc
    by_cases c : (farR N bs i).2 < st.2
    · rw [if_pos c]
      dsimp only
      rw [if_neg (show ¬ (farR N bs i).2 = 1000000 by omega)]
      by_cases c2 : st.2 = 1000000
      · rw [if_pos c2, if_pos (by omega)]
      · rw [if_neg c2, if_neg (by omega), if_pos c]
    · rw [if_neg c, if_neg (by omega), if_neg (by omega)]
def cenR (N : Nat) (bs : List BR) : Int × Int := cen (fun j => (farR N bs j).2) N 0 (0, 1000000)
theorem cen_less (F : Nat → Int) (hF : ∀ i, 0 ≤ F i ∧ F i < 1000000) : ∀ (d i : Nat) (st : Int × Int), 0 ≤ st.2 ∧ st.2 < 1000000 → (cen F d i st).2 < 1000000 := by
  intro d
  induction d with
  | zero => intro i st h; exact h.2
  | succ d ih => intro i st h; rw [cen_succ]; exact ih _ _ (cenStep_range F hF st i ⟨h.1, by omega⟩)
theorem cenR_less (N : Nat) (h : 1 ≤ N) (bs : List BR) : (cenR N bs).2 < 1000000 := by
  obtain ⟨d, rfl⟩ : ∃ d, N = d + 1 := ⟨N - 1, by omega⟩
  unfold cenR
  rw [cen_succ]
  exact cen_less _ (fun j => farR_range _ _ j) _ _ _ (cenStep_range _ (fun j => farR_range _ _ j) _ _ (by dsimp only; omega))
def cenTold (n : Int) (l : List BR) : Int × Int := if one n l = true then cenR n.toNat l else (0, 0)
theorem spec_CenterIsland_ev (n : Int) (l : List BR) : ∃ K, ∀ k, K ≤ k → spec_CenterIsland.f k n l = some ((cenTold n l).1, (cenTold n l).2, one n l) := by
  obtain ⟨K1, h1⟩ := isOne_ev n l
  by_cases hg : one n l = true
  · obtain ⟨N, rfl, hN1, hN7, hL, hb, _⟩ := one_fine hg
    obtain ⟨K2, h2⟩ := spec_CenterIsland_l0 N hN7 l hb hL N 0 (0, 1000000) (by omega)
    refine ⟨K1 + K2, fun k hk => ?_⟩
    unfold spec_CenterIsland.f cenTold
    rw [h1 _ (by omega)]
    simp only [Option.bind_some]
    rw [if_pos hg, if_pos hg, hg]
    exact h2 _ (by omega)
  · refine ⟨K1, fun k hk => ?_⟩
    unfold spec_CenterIsland.f cenTold
    rw [h1 _ (by omega)]
    simp only [Option.bind_some]
    rw [if_neg hg, if_neg hg, Bool.eq_false_iff.2 hg]
theorem impl_CenterIsland_ev (n : Int) (l : List BR) (hw : ∀ b ∈ l, wfBR b) : ∃ K, ∀ k, K ≤ k → impl_CenterIsland.f k n l = some ((cenTold n l).1, (cenTold n l).2, one n l) := by
  obtain ⟨K1, h1⟩ := impl_CountGroups_ev n l hw
  by_cases hg : one n l = true
  · obtain ⟨N, rfl, hN1, hN7, hL, hb, h1g⟩ := one_fine hg
    obtain ⟨K2, h2⟩ := impl_CenterIsland_l0 N hN7 l hb hL N 0 (0, 1000000) (by omega) (by dsimp only; omega)
    have hgood : good (N : Int) l = true := by unfold one at hg; simp only [Bool.and_eq_true] at hg; exact hg.1
    have hlt := cenR_less N hN1 l
    refine ⟨K1 + K2 + 1, fun k hk => ?_⟩
    unfold impl_CenterIsland.f cenTold
    rw [h1 _ (by omega)]
    obtain ⟨m, rfl⟩ : ∃ m, k = m + 1 := ⟨k - 1, by omega⟩
    simp only [Option.bind_some]
    rw [hgood, if_pos rfl, if_pos rfl, impl_CenterIsland.j0, Int.toNat_natCast, h1g, if_neg (by simp), if_pos hg, hg]
    have h3 := h2 m (by omega)
    rw [show enc ((0 : Int), (1000000 : Int)).2 = -1 from rfl] at h3
    refine h3.trans ?_
    rw [show cen (fun j => (farR N l j).2) N 0 (0, 1000000) = cenR N l from rfl]
    unfold enc
    rw [if_neg (by omega)]
  · refine ⟨K1 + 1, fun k hk => ?_⟩
    unfold impl_CenterIsland.f cenTold
    rw [h1 _ (by omega)]
    obtain ⟨m, rfl⟩ : ∃ m, k = m + 1 := ⟨k - 1, by omega⟩
    simp only [Option.bind_some]
    rw [if_neg hg, Bool.eq_false_iff.2 hg]
    by_cases hgood : good n l = true
    · have := several hgood (Bool.eq_false_iff.2 hg)
      rw [hgood, if_pos rfl, if_pos rfl, impl_CenterIsland.j0, if_pos (by simp only [decide_eq_true_eq]; omega)]
    · rw [Bool.eq_false_iff.2 hgood, if_neg (by simp), impl_CenterIsland.j0, if_pos rfl]
theorem FnExactCenterIsland_pure (n : Int) (l : List LB) (w : (Lit.int .i64 n).wf = true) (hm : l.length ≤ 9223372036854775807) (hw : ∀ b ∈ l, WfB b) : ∃ k, laws_FnExactCenterIsland.f k n l = some true := by
  by_cases hl : l.length ≤ 1048576
  · obtain ⟨K1, h1⟩ := toIsles_ev n l hl
    obtain ⟨K2, h2⟩ := spec_CenterIsland_ev n (l.map cv)
    obtain ⟨K3, h3⟩ := impl_CenterIsland_ev n (l.map cv) (wf_cv l hw)
    obtain ⟨K4, h4⟩ := eqIsles_ev n (l.map cv) (by rw [List.length_map]; omega)
    refine ⟨K1 + K2 + K3 + K4 + 1, ?_⟩
    unfold laws_FnExactCenterIsland.f
    rw [szIsles_eq n l hm, if_pos hl, h1 _ (by omega)]
    simp only [Option.bind_some]
    rw [if_neg (by omega), h2 _ (by omega)]
    simp only [Option.bind_some]
    rw [h3 _ (by omega)]
    simp only [Option.bind_some]
    rw [if_pos trivial, if_pos trivial, laws_FnExactCenterIsland.j0, if_neg (by simp), h1 _ (by omega)]
    simp only [Option.bind_some]
    rw [h4 _ (by omega)]
    rfl
  · refine ⟨0, ?_⟩
    unfold laws_FnExactCenterIsland.f
    rw [szIsles_eq n l hm, if_neg hl]
    simp
end Go.Proofs.Ytkikaakfdggklaa.Q
