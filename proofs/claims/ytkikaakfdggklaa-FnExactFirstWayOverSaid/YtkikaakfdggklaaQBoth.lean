/- Two islands with a way: as the reference and the program have them; no conditions. -/
import Derived.Test.YtkikaakfdggklaaQx25
import Derived.Test.YtkikaakfdggklaaQWay
import Derived.Test.YtkikaakfdggklaaQAsked
import Derived.Test.YtkikaakfdggklaaQx26
set_option linter.unusedVariables false
set_option linter.unusedSimpArgs false
namespace Go.Proofs.Ytkikaakfdggklaa.Q
open Go.RowKit Go.Proofs.YtkikaakfdggklaaW.PrintWords Go.Proofs.YtkikaakfdggklaaW.PrintLast Go.Proofs.YtkikaakfdggklaaW.PrintMore
open Go.Proofs.Ytkikaakfdggklaa.MathWays
theorem asked_fine {n : Int} {l : List BR} {a : Int} (h : asked n l a = true) : ∃ N A : Nat, n = (N : Int) ∧ a = (A : Int) ∧ 1 ≤ N ∧ N ≤ 7 ∧ l.length ≤ 14 ∧ (∀ b ∈ l, fine N b) ∧ A < N := by
  unfold asked at h
  simp only [Bool.and_eq_true, decide_eq_true_eq] at h
  obtain ⟨N, rfl, hN1, hN7, hL, hb⟩ := good_fine h.1
  exact ⟨N, a.toNat, rfl, by omega, hN1, hN7, hL, hb, by omega⟩
/-- islands asked for, without the way -/
def pair (n : Int) (l : List BR) (a b : Int) : Bool := asked n l a && decide (0 ≤ b ∧ b ≤ n - 1)
def both (n : Int) (l : List BR) (a b : Int) : Bool := pair n l a b && decide (dist (edges true l) n.toNat 1000000 b.toNat a.toNat < 1000000)
theorem pair_fine {n : Int} {l : List BR} {a b : Int} (h : pair n l a b = true) : ∃ N A B : Nat, n = (N : Int) ∧ a = (A : Int) ∧ b = (B : Int) ∧ N ≤ 7 ∧ l.length ≤ 14 ∧ (∀ b ∈ l, fine N b) ∧ A < N ∧ B < N := by
  unfold pair at h
  simp only [Bool.and_eq_true, decide_eq_true_eq] at h
  obtain ⟨N, A, rfl, rfl, h1, hN7, hL, hb, hA⟩ := asked_fine h.1
  exact ⟨N, A, b.toNat, rfl, rfl, by omega, hN7, hL, hb, hA, by omega⟩
theorem isBoth_ev (n : Int) (l : List BR) (a b : Int) : ∃ K, ∀ k, K ≤ k → spec_isBoth.f k n l a b = some (both n l a b) := by
  obtain ⟨K1, h1⟩ := isAsked_ev n l a
  by_cases hg : asked n l a = true
  · by_cases hb : 0 ≤ b ∧ b ≤ n - 1
    · have hp : pair n l a b = true := by unfold pair; rw [hg]; simp [hb]
      obtain ⟨N, A, B, rfl, rfl, rfl, hN7, hL, hbs, hA, hB⟩ := pair_fine hp
      obtain ⟨K2, h2⟩ := isTolls_ev N (by omega) B hB true l hbs (by omega)
      refine ⟨K1 + K2, fun k hk => ?_⟩
      unfold spec_isBoth.f both
      rw [h1 _ (by omega)]
      simp only [Option.bind_some]
      rw [if_pos hg, w64 (by omega) (by omega), l1In_eq]
      simp only [Option.bind_some]
      rw [if_pos (by simpa using hb), h2 _ (by omega)]
      simp only [Option.bind_some]
      rw [if_pos (by omega), labels_length, if_pos (by omega), labels_rd N _ A hA, hp, Int.toNat_natCast, Int.toNat_natCast, Int.toNat_natCast]
      generalize dist (edges true l) N 1000000 B A = q
      rw [Bool.true_and, show decide ((q : Int) < 1000000) = decide (q < 1000000) from by rw [decide_eq_decide]; omega]
    · refine ⟨K1, fun k hk => ?_⟩
      have hp : pair n l a b = false := by unfold pair; rw [hg]; simpa using hb
      obtain ⟨N, A, rfl, rfl, hN1, hN7, _⟩ := asked_fine hg
      unfold spec_isBoth.f both
      rw [h1 _ (by omega)]
      simp only [Option.bind_some]
      rw [if_pos hg, w64 (by omega) (by omega), l1In_eq]
      simp only [Option.bind_some]
      rw [if_neg (by simpa using hb), hp]
      rfl
  · refine ⟨K1, fun k hk => ?_⟩
    have hp : pair n l a b = false := by unfold pair; rw [Bool.eq_false_iff.2 hg]; rfl
    unfold spec_isBoth.f both
    rw [h1 _ (by omega)]
    simp only [Option.bind_some]
    rw [if_neg hg, hp]
    rfl
theorem areIslands_pair (n : Int) (l : List BR) (hw : ∀ b ∈ l, wfBR b) (a b : Int) : impl_areIslands.f n l [a, b] = some (pair n l a b) := areIslands_two n l hw a b
/-- What both tell. -/
def told (plain : Bool) (n : Int) (l : List BR) (a b : Int) : Int := if both n l a b = true then ((dist (edges plain l) n.toNat 1000000 b.toNat a.toNat : Nat) : Int) else 0
theorem toll_told (plain : Bool) {n : Int} {l : List BR} {a b : Int} (hp : pair n l a b = true) : mx (toll plain n.toNat l a.toNat b.toNat) 0 = told plain n l a b ∧ decide (toll plain n.toNat l a.toNat b.toNat ≥ 0) = both n l a b := by
  obtain ⟨N, A, B, rfl, rfl, rfl, hN7, hL, hbs, hA, hB⟩ := pair_fine hp
  unfold told toll both
  rw [hp]
  simp only [Int.toNat_natCast, Bool.true_and, decide_eq_true_eq]
  by_cases h : dist (edges plain l) N 1000000 B A < 1000000
  · have h2 := reach_same hN7 hbs hB plain true h
    rw [if_pos h, if_pos h2]
    unfold mx
    refine ⟨by rw [if_neg (by omega)], ?_⟩
    rw [decide_eq_decide]
    exact ⟨fun _ => h2, fun _ => by omega⟩
  · have h2 : ¬ dist (edges true l) N 1000000 B A < 1000000 := fun h2 => h (reach_same hN7 hbs hB true plain h2)
    rw [if_neg h, if_neg h2]
    refine ⟨rfl, ?_⟩
    rw [decide_eq_decide]
    exact ⟨fun h => absurd h (by omega), fun h => absurd h h2⟩
end Go.Proofs.Ytkikaakfdggklaa.Q
