/- Plain facts on the printed functions that the laws on strong rivers use (the first crossing of a strong river); no conditions. -/
import Derived.Test.YtaocebflcjomhaaDoorKx10
import Derived.Test.YtaocebflcjomhaaDoorKx8
import Derived.Test.YtaocebflcjomhaaDoorKFirst
import Derived.Test.YtaocebflcjomhaaDoorKIsRiv
set_option linter.unusedVariables false
set_option linter.unusedSimpArgs false
namespace Go.Proofs.YtaocebflcjomhaaDoor.K
open Go.RowKit Go.Proofs.YtaocebflcjomhaaDoorW.PrintWords Go.Proofs.YtaocebflcjomhaaDoorW.PrintLast Go.Proofs.YtaocebflcjomhaaDoorW.PrintMore
theorem riv_river {s : ByteArray} (hg : good s = true) : riv (riverOf s) = true := by
  have hz := good_size hg
  unfold riv
  rw [river_size, decide_eq_true (by omega), Bool.true_and, riverOf, ints_of _ (fun x hx => by
    obtain ⟨c, _, rfl⟩ := List.mem_map.1 hx
    unfold plainB
    split <;> omega), List.all_eq_true]
  intro x hx
  obtain ⟨c, _, rfl⟩ := List.mem_map.1 hx
  unfold plainB isOD
  split <;> decide
theorem siRiver_river (s : ByteArray) (hs : s.size ≤ 1099511627776) (k : Nat) (hk : s.size < k) : spec_siRiver.f k s = some (riverOf s) := siRiver_eq s hs k hk
/-- The first crossing of a strong river, as both texts tell it. -/
theorem first_eq (s : ByteArray) (hg : good s = true) (L : Nat) (h1 : 1 ≤ L) (h2 : L ≤ 21) : ∃ v : List Int × Bool, v.1.length ≤ 22 ∧ (∀ k, 3000 ≤ k → spec_siFirst.f k s (L : Int) = some v ∧ impl_FirstCrossing.f k (riverOf s) (L : Int) = some v) ∧ (v.2 = true → ∃ r : List Nat, Rest (riverOf s) L 0 r ∧ v.1 = 0 :: r.map (fun x : Nat => (x : Int))) := by
  have hz := good_size hg
  have ht : (riverOf s).size = s.size := river_size s
  have hb : ((riverOf s).size + 1) * (2 * L + 3) ≤ 21 * 45 := Nat.mul_le_mul (by omega) (by omega)
  have hb2 : ((riverOf s).size + 2) * ((riverOf s).size + 5) ≤ 22 * 25 := Nat.mul_le_mul (by omega) (by omega)
  have hcr : impl_isCrossed.f (riverOf s) (L : Int) = some true := by
    rw [isCrossed_eq, riv_river hg, Bool.true_and, decide_eq_true (by omega)]
  by_cases c : 0 ≤ rd (tabL (riverOf s) L) 0
  · obtain ⟨r, r1, r2, r3⟩ := first_both (riverOf s) (by omega) L c
    refine ⟨(0 :: r.map (fun x : Nat => (x : Int)), true), by simp; omega, fun k hk => ⟨?_, ?_⟩, fun _ => ⟨r, r1, rfl⟩⟩
    · unfold spec_siFirst.f
      rw [siRiver_river s (by omega) k (by omega), Option.bind_some, rvLeft_eq (riverOf s) (by omega) L h1 (by omega) k (by omega), Option.bind_some, ← tabL, tabL_length, if_pos (by omega), if_neg (by omega)]
      exact (r3 k (by omega)).1
    · obtain ⟨k, rfl⟩ : ∃ k', k = k' + 1 := ⟨k - 1, by omega⟩
      unfold impl_FirstCrossing.f
      rw [hcr, Option.bind_some, if_pos rfl, canCross_eq (riverOf s) (by omega) L h1 (by omega) _ (by omega), Option.bind_some, decide_eq_true c]
      simp only [impl_FirstCrossing.j0]
      rw [if_neg (by decide), leapsLeft_eq (riverOf s) (by omega) L h1 (by omega) k (by omega), Option.bind_some, ← tabL]
      exact (r3 k (by omega)).2
  · refine ⟨([], false), by simp, fun k hk => ⟨?_, ?_⟩, fun h => by cases h⟩
    · unfold spec_siFirst.f
      rw [siRiver_river s (by omega) k (by omega), Option.bind_some, rvLeft_eq (riverOf s) (by omega) L h1 (by omega) k (by omega), Option.bind_some, ← tabL, tabL_length, if_pos (by omega), if_pos (by omega)]
    · obtain ⟨k, rfl⟩ : ∃ k', k = k' + 1 := ⟨k - 1, by omega⟩
      unfold impl_FirstCrossing.f
      rw [hcr, Option.bind_some, if_pos rfl, canCross_eq (riverOf s) (by omega) L h1 (by omega) _ (by omega), Option.bind_some, decide_eq_false c]
      simp only [impl_FirstCrossing.j0]
      rw [if_pos (by decide)]
end Go.Proofs.YtaocebflcjomhaaDoor.K
