/- The farthest island: program and reference; no conditions. -/
import Derived.Test.YtkikaakfdggklaaQx32
import Derived.Test.YtkikaakfdggklaaQBoth
set_option linter.unusedVariables false
set_option linter.unusedSimpArgs false
namespace Go.Proofs.Ytkikaakfdggklaa.Q
open Go.RowKit Go.Proofs.YtkikaakfdggklaaW.PrintWords Go.Proofs.YtkikaakfdggklaaW.PrintLast Go.Proofs.YtkikaakfdggklaaW.PrintMore
open Go.Proofs.Ytkikaakfdggklaa.MathWays
def farStep (D : Nat → Nat) (st : Int × Int) (i : Nat) : Int × Int := if D i < 1000000 then (if (D i : Int) > st.2 then ((i : Int), (D i : Int)) else if (D i : Int) = st.2 then (if (i : Int) < st.1 then ((i : Int), (D i : Int)) else st) else st) else st
def far (D : Nat → Nat) (d i : Nat) (st : Int × Int) : Int × Int := (List.range' i d).foldl (farStep D) st
theorem far_succ (D : Nat → Nat) (d i : Nat) (st : Int × Int) : far D (d + 1) i st = far D d (i + 1) (farStep D st i) := by
  unfold far
  rw [List.range'_succ, List.foldl_cons]
theorem farStep_range (D : Nat → Nat) (st : Int × Int) (i : Nat) (h : 0 ≤ st.2 ∧ st.2 < 1000000) : 0 ≤ (farStep D st i).2 ∧ (farStep D st i).2 < 1000000 := by
  unfold farStep
  split
  · split
    · dsimp only; omega
    · split
      · split
        · dsimp only; omega
        · exact h
      · exact h
  · exact h
theorem far_range (D : Nat → Nat) : ∀ (d i : Nat) (st : Int × Int), 0 ≤ st.2 ∧ st.2 < 1000000 → 0 ≤ (far D d i st).2 ∧ (far D d i st).2 < 1000000 := by
  intro d
  induction d with
  | zero => intro i st h; exact h
  | succ d ih => intro i st h; rw [far_succ]; exact ih _ _ (farStep_range D st i h)
theorem isFarthest_l0 (N : Nat) (hN : N ≤ 1048576) (D : Nat → Nat) : ∀ (d k i : Nat) (st : Int × Int), i + d = N →
    spec_isFarthest.l0 (k + (d + 1)) st.1 st.2 (labels N D) (N : Int) (i : Int) = some (far D d i st) := by
  intro d
  induction d with
  | zero =>
    intro k i st hi
    rw [spec_isFarthest.l0, if_neg (by omega)]
    rfl
  | succ d ih =>
    intro k i st hi
    have hh := fun st => ih k (i + 1) st (by omega)
    rw [show k + (d + 1 + 1) = (k + (d + 1)) + 1 from by omega, spec_isFarthest.l0, if_pos (by omega), if_pos (by omega), labels_length, if_pos (by omega), labels_rd N D i (by omega), w64 (by omega) (by omega), show (i : Int) + 1 = ((i + 1 : Nat) : Int) from by omega, far_succ]
    unfold farStep
    by_cases c1 : D i < 1000000
    · rw [if_pos c1, if_pos (by omega)]
      by_cases c2 : (D i : Int) > st.2
      · rw [if_pos c2, if_pos c2]
        exact hh ((i : Int), (D i : Int))
      · rw [if_neg c2, if_neg c2]
        by_cases c3 : (D i : Int) = st.2
        · rw [if_pos c3, if_pos c3]
          by_cases c4 : (i : Int) < st.1
          · rw [if_pos c4, if_pos c4]
            exact hh ((i : Int), (D i : Int))
          · rw [if_neg c4, if_neg c4]
            exact hh st
        · rw [if_neg c3, if_neg c3]
          exact hh st
    · rw [if_neg c1, if_neg (by omega)]
      exact hh st
theorem farthest_l0 (N : Nat) (hN : N ≤ 7) (bs : List BR) (hb : ∀ b ∈ bs, fine N b) (hL : bs.length ≤ 14) (a : Nat) (ha : a < N) : ∀ (d i : Nat) (st : Int × Int), i + d = N → 0 ≤ st.2 ∧ st.2 < 1000000 →
    ∃ K, ∀ k, K ≤ k → impl_Isles_farthest.l0 k (a : Int) st.1 st.2 (N : Int) (i : Int) (N : Int) bs = some (far (dist (edges false bs) N 1000000 a) d i st) := by
  intro d
  induction d with
  | zero =>
    intro i st hi hr
    refine ⟨1, fun k hk => ?_⟩
    obtain ⟨m, rfl⟩ : ∃ m, k = m + 1 := ⟨k - 1, by omega⟩
    rw [impl_Isles_farthest.l0, if_neg (by omega)]
    rfl
  | succ d ih =>
    intro i st hi hr
    obtain ⟨K1, h1⟩ := byToll_ev N hN bs hb hL a i ha (by omega)
    obtain ⟨K2, h2⟩ := ih (i + 1) _ (by omega) (farStep_range (dist (edges false bs) N 1000000 a) st i hr)
    refine ⟨K1 + K2 + 1, fun k hk => ?_⟩
    obtain ⟨m, rfl⟩ : ∃ m, k = m + 1 := ⟨k - 1, by omega⟩
    have h3 := h2 m (by omega)
    rw [impl_Isles_farthest.l0, if_pos (by omega), h1 m (by omega), far_succ]
    simp only [Option.bind_some]
    rw [w64 (by omega) (by omega), show (i : Int) + 1 = ((i + 1 : Nat) : Int) from by omega, ← h3]
    unfold toll
    rw [dist_symm (edges_in hb) (by omega : i < N) ha]
    unfold farStep
    generalize dist (edges false bs) N 1000000 a i = q
    by_cases c1 : q < 1000000
    · rw [if_pos c1, if_pos c1]
      by_cases c2 : (q : Int) > st.2
      · rw [if_pos c2, if_pos c2]
      · rw [if_neg c2, if_neg c2]
        by_cases c3 : (q : Int) = st.2
        · rw [if_pos c3, if_pos c3]
          by_cases c4 : (i : Int) < st.1
          · rw [if_pos c4, if_pos c4]
          · rw [if_neg c4, if_neg c4]
        · rw [if_neg c3, if_neg c3]
    · rw [if_neg c1, if_neg c1, if_neg (by omega), if_neg (by omega)]
/-- the farthest island, and its toll -/
def farR (N : Nat) (bs : List BR) (a : Nat) : Int × Int := far (dist (edges false bs) N 1000000 a) N 0 ((a : Int), 0)
theorem farR_range (N : Nat) (bs : List BR) (a : Nat) : 0 ≤ (farR N bs a).2 ∧ (farR N bs a).2 < 1000000 := far_range _ _ _ _ (by dsimp only; omega)
theorem isFarthest_ev (N : Nat) (hN : N ≤ 7) (bs : List BR) (hb : ∀ b ∈ bs, fine N b) (hL : bs.length ≤ 14) (a : Nat) (ha : a < N) : ∃ K, ∀ k, K ≤ k → spec_isFarthest.f k (N : Int) bs (a : Int) = some (farR N bs a) := by
  obtain ⟨K1, h1⟩ := isTolls_ev N (by omega) a ha false bs hb (by omega)
  refine ⟨K1 + (N + 1), fun k hk => ?_⟩
  unfold spec_isFarthest.f
  rw [h1 k (by omega)]
  simp only [Option.bind_some]
  obtain ⟨m, rfl⟩ : ∃ m, k = m + (N + 1) := ⟨k - (N + 1), by omega⟩
  rw [labels_length]
  exact isFarthest_l0 N (by omega) _ N m 0 ((a : Int), 0) (by omega)
theorem farthest_ev (N : Nat) (hN : N ≤ 7) (bs : List BR) (hb : ∀ b ∈ bs, fine N b) (hL : bs.length ≤ 14) (a : Nat) (ha : a < N) : ∃ K, ∀ k, K ≤ k → impl_Isles_farthest.f k (N : Int) bs (a : Int) = some (farR N bs a) := by
  obtain ⟨K1, h1⟩ := farthest_l0 N hN bs hb hL a ha N 0 ((a : Int), 0) (by omega) (by dsimp only; omega)
  refine ⟨K1, fun k hk => ?_⟩
  unfold impl_Isles_farthest.f
  exact h1 k hk
end Go.Proofs.Ytkikaakfdggklaa.Q
