/- The plain law of FnExactGroupOf: program and reference list the same group; no conditions. -/
import Derived.Test.YtkikaakfdggklaaQx34
import Derived.Test.YtkikaakfdggklaaQGroups
import Derived.Test.YtkikaakfdggklaaQMarks
import Derived.Test.YtkikaakfdggklaaQAsked
import Derived.Test.YtkikaakfdggklaaQx36
set_option linter.unusedVariables false
set_option linter.unusedSimpArgs false
namespace Go.Proofs.Ytkikaakfdggklaa.Q
open Go.RowKit Go.Proofs.YtkikaakfdggklaaW.PrintWords Go.Proofs.YtkikaakfdggklaaW.PrintLast Go.Proofs.YtkikaakfdggklaaW.PrintMore
open Go.Proofs.Ytkikaakfdggklaa.MathGroups
def members (f : Nat → Nat) (a d i : Nat) : List Int := ((List.range' i d).filter (fun j => f j == f a)).map (fun j : Nat => (j : Int))
theorem members_succ (f : Nat → Nat) (a d i : Nat) : members f a (d + 1) i = (if f i = f a then [(i : Int)] else []) ++ members f a d (i + 1) := by
  unfold members
  rw [List.range'_succ, List.filter_cons]
  by_cases h : f i = f a
  · simp [h]
  · simp [h]
theorem members_length (f : Nat → Nat) (a d i : Nat) : (members f a d i).length ≤ d := by
  unfold members
  rw [List.length_map]
  have := List.length_filter_le (fun j => f j == f a) (List.range' i d)
  rwa [List.length_range'] at this
theorem spec_GroupOf_l0 (N : Nat) (hN : N ≤ 1048576) (f : Nat → Nat) (a : Nat) (ha : a < N) : ∀ (d k i : Nat) (acc : List Int), i + d = N → acc.length ≤ i →
    spec_GroupOf.l0 (k + (d + 1)) (a : Int) (labels N f) acc (labels N f) (N : Int) (i : Int) = some (acc ++ members f a d i, true) := by
  intro d
  induction d with
  | zero =>
    intro k i acc hi hc
    rw [spec_GroupOf.l0, if_neg (by omega)]
    simp [members]
  | succ d ih =>
    intro k i acc hi hc
    rw [show k + (d + 1 + 1) = (k + (d + 1)) + 1 from by omega, spec_GroupOf.l0, if_pos (by omega), if_pos (by omega), labels_length, if_pos (by omega), if_pos (by omega), if_pos (by omega), labels_rd N f i (by omega), labels_rd N f a ha, w64 (by omega) (by omega), show (i : Int) + 1 = ((i + 1 : Nat) : Int) from by omega, members_succ]
    by_cases h : f i = f a
    · rw [if_pos (by omega), if_pos (by omega), ih k (i + 1) _ (by omega) (by simp; omega), if_pos h, List.append_assoc]
    · rw [if_neg (by omega), ih k (i + 1) _ (by omega) (by omega), if_neg h, List.nil_append]
theorem impl_GroupOf_l0 (N : Nat) (hN : N ≤ 1048576) (f : Nat → Nat) (a : Nat) (ha : a < N) : ∀ (d k i : Nat) (acc : List Int), i + d = N → acc.length ≤ i →
    impl_GroupOf.l0 (k + (d + 1)) (a : Int) acc (labels N f) (labels N f) (N : Int) (i : Int) = some (acc ++ members f a d i, true) := by
  intro d
  induction d with
  | zero =>
    intro k i acc hi hc
    rw [impl_GroupOf.l0, if_neg (by omega)]
    simp [members]
  | succ d ih =>
    intro k i acc hi hc
    rw [show k + (d + 1 + 1) = (k + (d + 1)) + 1 from by omega, impl_GroupOf.l0, if_pos (by omega), if_pos (by omega), labels_length, if_pos (by omega), if_pos (by omega), if_pos (by omega), labels_rd N f i (by omega), labels_rd N f a ha, w64 (by omega) (by omega), show (i : Int) + 1 = ((i + 1 : Nat) : Int) from by omega, members_succ]
    by_cases h : f i = f a
    · rw [if_pos (by omega), if_pos (by omega), ih k (i + 1) _ (by omega) (by simp; omega), if_pos h, List.append_assoc]
    · rw [if_neg (by omega), ih k (i + 1) _ (by omega) (by omega), if_neg h, List.nil_append]
def groupList (n : Int) (l : List BR) (a : Int) : List Int := if asked n l a = true then members (merged (l.map ed)) a.toNat n.toNat 0 else []
theorem spec_GroupOf_ev (n : Int) (l : List BR) (a : Int) : ∃ K, ∀ k, K ≤ k → spec_GroupOf.f k n l a = some (groupList n l a, asked n l a) := by
  obtain ⟨K1, h1⟩ := isAsked_ev n l a
  by_cases hg : asked n l a = true
  · obtain ⟨N, A, rfl, rfl, hN7, hL, hb, hA⟩ := asked_nat hg
    obtain ⟨K2, h2⟩ := isGroups_all N (by omega) l hb (by omega)
    refine ⟨K1 + K2 + (N + 1), fun k hk => ?_⟩
    unfold spec_GroupOf.f groupList
    rw [h1 _ (by omega), h2 _ (by omega)]
    simp only [Option.bind_some]
    obtain ⟨m, rfl⟩ : ∃ m, k = m + (N + 1) := ⟨k - (N + 1), by omega⟩
    have h := spec_GroupOf_l0 N (by omega) (merged (l.map ed)) A hA N m 0 [] (by omega) (Nat.le_refl _)
    rw [show ((0 : Nat) : Int) = 0 from rfl, List.nil_append] at h
    rw [if_pos hg, if_pos hg, labels_length, h, hg, Int.toNat_natCast, Int.toNat_natCast]
  · refine ⟨K1, fun k hk => ?_⟩
    unfold spec_GroupOf.f groupList
    rw [h1 _ (by omega)]
    simp only [Option.bind_some]
    rw [if_neg hg, if_neg hg, Bool.eq_false_iff.2 hg]
theorem impl_GroupOf_ev (n : Int) (l : List BR) (hw : ∀ b ∈ l, wfBR b) (a : Int) : ∃ K, ∀ k, K ≤ k → impl_GroupOf.f k n l a = some (groupList n l a, asked n l a) := by
  by_cases hg : asked n l a = true
  · obtain ⟨N, A, rfl, rfl, hN7, hL, hb, hA⟩ := asked_nat hg
    obtain ⟨K2, h2⟩ := groups_ev N (by omega) l hb (by omega)
    refine ⟨K2 + (N + 1), fun k hk => ?_⟩
    unfold impl_GroupOf.f groupList
    rw [areIslands_one _ _ hw, h2 _ (by omega)]
    simp only [Option.bind_some]
    obtain ⟨m, rfl⟩ : ∃ m, k = m + (N + 1) := ⟨k - (N + 1), by omega⟩
    have h := impl_GroupOf_l0 N (by omega) (merged (l.map ed)) A hA N m 0 [] (by omega) (Nat.le_refl _)
    rw [show ((0 : Nat) : Int) = 0 from rfl, List.nil_append] at h
    rw [if_pos hg, if_pos hg, labels_length, h, hg, Int.toNat_natCast, Int.toNat_natCast]
  · refine ⟨0, fun k hk => ?_⟩
    unfold impl_GroupOf.f groupList
    rw [areIslands_one _ _ hw]
    simp only [Option.bind_some]
    rw [if_neg hg, if_neg hg, Bool.eq_false_iff.2 hg]
theorem groupList_length (n : Int) (l : List BR) (a : Int) : (groupList n l a).length ≤ 7 := by
  unfold groupList
  by_cases hg : asked n l a = true
  · obtain ⟨N, A, rfl, rfl, hN7, hL, hb, hA⟩ := asked_nat hg
    rw [if_pos hg]
    have := members_length (merged (l.map ed)) (A : Int).toNat (N : Int).toNat 0
    omega
  · rw [if_neg hg]
    simp
theorem FnExactGroupOf_pure (n : Int) (l : List LB) (a : Int) (w : (Lit.int .i64 n).wf = true) (hm : l.length ≤ 9223372036854775807) (hw : ∀ b ∈ l, WfB b) (wa : (Lit.int .i64 a).wf = true) : ∃ k, laws_FnExactGroupOf.f k n l a = some true := by
  by_cases hl : l.length ≤ 1048576
  · obtain ⟨K1, h1⟩ := toIsles_ev n l hl
    obtain ⟨K2, h2⟩ := spec_GroupOf_ev n (l.map cv) a
    obtain ⟨K3, h3⟩ := impl_GroupOf_ev n (l.map cv) (wf_cv l hw) a
    obtain ⟨K4, h4⟩ := eqIsles_ev n (l.map cv) (by rw [List.length_map]; omega)
    obtain ⟨K5, h5⟩ := eqIntS_ev (groupList n (l.map cv) a) (by have := groupList_length n (l.map cv) a; omega)
    obtain ⟨K6, h6⟩ := markIsles_ev n (l.map cv) (by rw [List.length_map]; omega)
    obtain ⟨K7, h7⟩ := markIntS_ev (groupList n (l.map cv) a) (by have := groupList_length n (l.map cv) a; omega)
    refine ⟨K1 + K2 + K3 + K4 + K5 + K6 + K7 + 1 + 1 + 1, ?_⟩
    unfold laws_FnExactGroupOf.f
    rw [szIsles_eq n l hm, if_pos hl, h1 _ (by omega)]
    simp only [Option.bind_some]
    rw [if_neg (by omega), h2 _ (by omega)]
    simp only [Option.bind_some]
    rw [h3 _ (by omega)]
    simp only [Option.bind_some]
    rw [h5 _ (by omega)]
    simp only [Option.bind_some]
    rw [if_pos trivial, laws_FnExactGroupOf.j0, if_neg (by simp), h1 _ (by omega)]
    simp only [Option.bind_some]
    rw [h4 _ (by omega)]
    simp only [Option.bind_some]
    rw [if_pos trivial, (h6 _ (by omega)).1]
    simp only [Option.bind_some]
    rw [if_neg (by omega), h5 _ (by omega)]
    simp only [Option.bind_some]
    rw [if_pos trivial, laws_FnExactGroupOf.j1, if_neg (by simp), (h7 _ (by omega)).1]
    simp only [Option.bind_some]
    rw [(h7 _ (by omega)).2]
    simp only [Option.bind_some]
    rw [if_neg (by omega), if_pos trivial, h1 _ (by omega)]
    simp only [Option.bind_some]
    rw [h3 _ (by omega)]
    simp only [Option.bind_some]
    rw [h5 _ (by omega)]
    simp only [Option.bind_some]
    rw [if_pos trivial, laws_FnExactGroupOf.j2, if_neg (by simp), (h7 _ (by omega)).2]
    simp only [Option.bind_some]
    rw [if_neg (by omega), if_pos trivial]
  · refine ⟨0, ?_⟩
    unfold laws_FnExactGroupOf.f
    rw [szIsles_eq n l hm, if_neg hl]
    simp
end Go.Proofs.Ytkikaakfdggklaa.Q
