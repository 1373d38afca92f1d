/- Plain facts: the reference's plan and the program's come to the same dealing; no conditions. -/
import Derived.Test.YtpenadhifdpfhaaDoorKDeal
import Derived.Test.YtpenadhifdpfhaaDoorKx1
set_option linter.unusedVariables false
set_option linter.unusedSimpArgs false
namespace Go.Proofs.YtpenadhifdpfhaaDoor.K
open Go.RowKit Go.Proofs.YtpenadhifdpfhaaDoorW.PrintWords Go.Proofs.YtpenadhifdpfhaaDoorW.PrintLast Go.Proofs.YtpenadhifdpfhaaDoorW.PrintMore
/-- How often a place is dealt. -/
def takes (a0 : ByteArray) (g p : Nat) : Nat := (if (bt a0 ((p : Int) - 1) - 48) % 256 ≤ (g : Int) then (bt a0 ((p : Int) - 1) - 48) % 256 else (g : Int)).toNat
/-- The steps on the first places. -/
def stepsTo (a0 : ByteArray) (g : Nat) : Nat → List Int
  | 0 => []
  | p + 1 => stepsTo a0 g p ++ List.replicate (takes a0 g (p + 1)) ((p + 1 : Nat) : Int)
theorem stepsTo_len (a0 : ByteArray) (g : Nat) (hg : g ≤ 100) : ∀ p, (stepsTo a0 g p).length ≤ 100 * p
  | 0 => by simp [stepsTo]
  | p + 1 => by
    have ih := stepsTo_len a0 g hg p
    have ht : takes a0 g (p + 1) ≤ 100 := by
      unfold takes
      split <;> omega
    rw [stepsTo, List.length_append, List.length_replicate]
    omega
theorem dealO_eq (a0 : ByteArray) (g : Nat) (hg : 0 < g) (hs : a0.size ≤ 1000) : ∀ (d p : Nat), p + d = a0.size → dealO a0 g d (p + 1) (dealt g (stepsTo a0 g p)) = some (dealt g (stepsTo a0 g a0.size))
  | 0, p, h => by
    rw [Nat.add_zero] at h
    rw [dealO, h]
  | d + 1, p, h => by
    have hb : impl_bears.f a0 ((p + 1 : Nat) : Int) = some ((bt a0 (((p + 1 : Nat) : Int) - 1) - 48) % 256) := by
      unfold impl_bears.f
      rw [show wrap64 (((p + 1 : Nat) : Int) - 1) = ((p + 1 : Nat) : Int) - 1 from by unfold wrap64; omega, if_pos (by omega), if_pos (by omega)]
    rw [dealO, hb, Option.bind_some]
    have := dealO_eq a0 g hg hs d (p + 1) (by omega)
    rw [stepsTo, ← dealN_eq g hg] at this
    exact this
theorem spec_l1 (a0 : ByteArray) (g : Int) (x : Int) : ∀ (m : Nat) (acc : List Int) (k : Nat), acc.length + m ≤ 1000000 → m ≤ 1000 → spec_PlanOfGroup.l1 (k + m + 1) a0 g acc x (m : Int) = spec_PlanOfGroup.l0 k a0 g (acc ++ List.replicate m x) (wrap64 (x + 1))
  | 0, acc, k, _, _ => by
    rw [Nat.add_zero, spec_PlanOfGroup.l1, if_neg (by omega), List.replicate_zero, List.append_nil]
  | m + 1, acc, k, h, h' => by
    rw [show k + (m + 1) + 1 = (k + m + 1) + 1 from by omega, spec_PlanOfGroup.l1, if_pos (by omega), if_pos (by omega), show wrap64 (((m + 1 : Nat) : Int) - 1) = (m : Int) from by unfold wrap64; omega, spec_l1 a0 g x m (acc ++ [x]) k (by rw [List.length_append, List.length_singleton]; omega) (by omega), List.append_assoc, List.replicate_succ]
    rfl
theorem spec_l0 (a0 : ByteArray) (g : Nat) (hg : g ≤ 100) (hs : a0.size ≤ 1000) (r : Option (List (List Int) × Bool)) (K2 : Nat) (h2 : ∀ k, K2 ≤ k → spec_PlanOfGroup.l2 k a0 (g : Int) (stepsTo a0 g a0.size) [] 0 = r) : ∀ (d p k : Nat), p + d = a0.size → K2 + 200 * d + 1 ≤ k → spec_PlanOfGroup.l0 k a0 (g : Int) (stepsTo a0 g p) ((p : Int) + 1) = r
  | 0, p, k, h, hk => by
    obtain ⟨k, rfl⟩ : ∃ k', k = k' + 1 := ⟨k - 1, by omega⟩
    rw [Nat.add_zero] at h
    rw [spec_PlanOfGroup.l0, if_neg (by omega), h, h2 k (by omega)]
  | d + 1, p, k, h, hk => by
    obtain ⟨k, rfl⟩ : ∃ k', k = k' + 1 := ⟨k - 1, by omega⟩
    have hl := stepsTo_len a0 g hg p
    have hle : spec_l1Least.f (g : Int) ((bt a0 ((p : Int) + 1 - 1) - 48) % 256) = some ((takes a0 g (p + 1) : Nat) : Int) := by
      unfold spec_l1Least.f takes
      rw [show (((p + 1 : Nat) : Int) - 1) = (p : Int) + 1 - 1 from by omega]
      have hb0 : 0 ≤ (bt a0 ((p : Int) + 1 - 1) - 48) % 256 := Int.emod_nonneg _ (by decide)
      generalize (bt a0 ((p : Int) + 1 - 1) - 48) % 256 = b at *
      by_cases c : (g : Int) < b
      · rw [if_pos c, if_neg (by omega), Int.toNat_natCast]
      · rw [if_neg c, if_pos (by omega), Int.toNat_of_nonneg hb0]
    have ht : takes a0 g (p + 1) ≤ 100 := by
      unfold takes
      split <;> omega
    obtain ⟨k2, rfl⟩ : ∃ k2, k = k2 + takes a0 g (p + 1) + 1 := ⟨k - takes a0 g (p + 1) - 1, by omega⟩
    rw [spec_PlanOfGroup.l0, show wrap64 ((p : Int) + 1 - 1) = (p : Int) + 1 - 1 from by unfold wrap64; omega, if_pos (by omega), if_pos (by omega), if_pos (by omega), hle, Option.bind_some, spec_l1 a0 (g : Int) ((p : Int) + 1) _ _ k2 (by omega) (by omega), show wrap64 ((p : Int) + 1 + 1) = ((p + 1 : Nat) : Int) + 1 from by unfold wrap64; omega]
    exact spec_l0 a0 g hg hs r K2 h2 d (p + 1) k2 (by omega) (by omega)
theorem spec_l3 (a0 : ByteArray) (g : Nat) (hg : 0 < g) (hg100 : g ≤ 100) (hs : a0.size ≤ 1000) (steps : List Int) (hl : steps.length ≤ 1000000) (x11 : List (List Int)) (hx : x11.length ≤ 1000) (m : Nat) (r : Option (List (List Int) × Bool)) (K2 : Nat) : ∀ (n i : Nat) (x13 : List Int) (k : Nat), steps.length - i ≤ n → i % g = m → i ≤ 2000000 → x13.length + n ≤ 2000001 → K2 + n + 1 ≤ k → (∀ k, K2 ≤ k → spec_PlanOfGroup.l2 k a0 (g : Int) steps (x11 ++ [x13 ++ rowC g m i (steps.drop i) ++ [(a0.size : Int) + 1]]) (wrap64 ((m : Int) + 1)) = r) → spec_PlanOfGroup.l3 k a0 (g : Int) steps x11 (m : Int) x13 (i : Int) = r
  | n, i, x13, k, hn, him, hi, hx13, hk, h2 => by
    obtain ⟨k, rfl⟩ : ∃ k', k = k' + 1 := ⟨k - 1, by omega⟩
    rw [spec_PlanOfGroup.l3]
    by_cases c : i < steps.length
    · obtain ⟨n, rfl⟩ : ∃ n', n = n' + 1 := ⟨n - 1, by omega⟩
      rw [if_pos (by omega), if_pos (by omega), if_pos (by omega), show wrap64 ((i : Int) + (g : Int)) = ((i + g : Nat) : Int) from by unfold wrap64; omega]
      have hrd : rd steps (i : Int) = steps[i] := by simp [rd, List.getD_eq_getElem?_getD, List.getElem?_eq_getElem c]
      rw [hrd]
      refine spec_l3 a0 g hg hg100 hs steps hl x11 hx m r K2 n (i + g) (x13 ++ [steps[i]]) k (by omega) (by rw [Nat.add_mod_right]; exact him) (by omega) (by rw [List.length_append, List.length_singleton]; omega) (by omega) ?_
      intro k' hk'
      have := h2 k' hk'
      rw [rowC_step g m i hg him steps c] at this
      rw [List.append_assoc x13 [steps[i]]]
      exact this
    · rw [if_neg (by omega), if_pos (by omega), if_pos (by omega), show wrap64 ((a0.size : Int) + 1) = (a0.size : Int) + 1 from by unfold wrap64; omega]
      have := h2 k (by omega)
      rw [List.drop_of_length_le (by omega), rowC, List.append_nil] at this
      exact this
theorem spec_l2 (a0 : ByteArray) (g : Nat) (hg : 0 < g) (hg100 : g ≤ 100) (hs : a0.size ≤ 1000) (steps : List Int) (hl : steps.length ≤ 1000000) : ∀ (d m k : Nat), m + d = g → 1000003 * d + 1 ≤ k → spec_PlanOfGroup.l2 k a0 (g : Int) steps ((List.range m).map (fun j => 0 :: rowC g j 0 steps ++ [(a0.size : Int) + 1])) (m : Int) = some ((List.range g).map (fun j => 0 :: rowC g j 0 steps ++ [(a0.size : Int) + 1]), true)
  | 0, m, k, h, hk => by
    obtain ⟨k, rfl⟩ : ∃ k', k = k' + 1 := ⟨k - 1, by omega⟩
    rw [Nat.add_zero] at h
    subst h
    rw [spec_PlanOfGroup.l2, if_neg (by omega)]
  | d + 1, m, k, h, hk => by
    obtain ⟨k, rfl⟩ : ∃ k', k = k' + 1 := ⟨k - 1, by omega⟩
    rw [spec_PlanOfGroup.l2, if_pos (by omega)]
    refine spec_l3 a0 g hg hg100 hs steps hl _ (by rw [List.length_map, List.length_range]; omega) m _ (1000003 * d + 1) 1000000 m [0] k (by omega) (Nat.mod_eq_of_lt (by omega)) (by omega) (by simp) (by omega) ?_
    intro k' hk'
    have := spec_l2 a0 g hg hg100 hs steps hl d (m + 1) k' (by omega) hk'
    rw [List.range_succ, List.map_append, List.map_singleton, rowC_start g m (by omega)] at this
    rw [show wrap64 ((m : Int) + 1) = ((m + 1 : Nat) : Int) from by unfold wrap64; omega]
    exact this
end Go.Proofs.YtpenadhifdpfhaaDoor.K
