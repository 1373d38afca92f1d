/- Plain facts on the printed functions that the laws on strong rivers use (the first crossing, both texts); no conditions. -/
import Derived.Test.YtaocebflcjomhaaDoorKWay
import Derived.Test.YtaocebflcjomhaaDoorKx10
import Derived.Test.YtaocebflcjomhaaDoorKx8
set_option linter.unusedVariables false
set_option linter.unusedSimpArgs false
namespace Go.Proofs.YtaocebflcjomhaaDoor.K
open Go.RowKit Go.Proofs.YtaocebflcjomhaaDoorW.PrintWords Go.Proofs.YtaocebflcjomhaaDoorW.PrintLast Go.Proofs.YtaocebflcjomhaaDoorW.PrintMore
theorem first_same : ∀ (k : Nat), (∀ (T out : List Int) (now : Int), impl_FirstCrossing.l0 k T out now = spec_siFirst.l0 k T out now) ∧ ∀ (T out : List Int) (now next : Int), impl_FirstCrossing.l1 k T out now next = spec_siFirst.l1 k T out now next
  | 0 => ⟨fun _ _ _ => by simp only [impl_FirstCrossing.l0, spec_siFirst.l0], fun _ _ _ _ => by simp only [impl_FirstCrossing.l1, spec_siFirst.l1]⟩
  | k + 1 => by
    obtain ⟨h1, h2⟩ := first_same k
    constructor
    · intro T out now
      simp only [impl_FirstCrossing.l0, spec_siFirst.l0, h2]
    · intro T out now next
      simp only [impl_FirstCrossing.l1, spec_siFirst.l1, h1, h2]
theorem first_l1 (T : List Int) (hT : T.length ≤ 2000) (hb : ∀ x ∈ T, -1 ≤ x ∧ x ≤ 1000000) (now q : Nat) (hn : now < T.length) (hq : q < T.length) (hv : rd T (q : Int) = rd T (now : Int) - 1) (out : List Int) (ho : out.length ≤ 100000) : ∀ (m next : Nat), m = q - next → next ≤ q → ∃ q' : Nat, next ≤ q' ∧ q' ≤ q ∧ rd T (q' : Int) = rd T (now : Int) - 1 ∧ ∀ k, spec_siFirst.l1 (k + (q' - next) + 1) T out (now : Int) (next : Int) = spec_siFirst.l0 k T (out ++ [(q' : Int)]) (q' : Int) := by
  have hx := hb _ (rd_memL T now hn)
  intro m
  induction m with
  | zero =>
    intro next hm hle
    obtain rfl : next = q := by omega
    refine ⟨next, Nat.le_refl _, Nat.le_refl _, hv, fun k => ?_⟩
    rw [Nat.sub_self, Nat.add_zero]
    simp only [spec_siFirst.l1]
    rw [if_pos (by omega), if_pos (by omega), if_pos (by omega), if_pos (by omega), w64 (x := rd T (now : Int) - 1) (by omega) (by omega), if_pos hv, if_pos (by omega)]
  | succ m ih =>
    intro next hm hle
    by_cases c : rd T (next : Int) = rd T (now : Int) - 1
    · refine ⟨next, Nat.le_refl _, hle, c, fun k => ?_⟩
      rw [Nat.sub_self, Nat.add_zero]
      simp only [spec_siFirst.l1]
      rw [if_pos (by omega), if_pos (by omega), if_pos (by omega), if_pos (by omega), w64 (x := rd T (now : Int) - 1) (by omega) (by omega), if_pos c, if_pos (by omega)]
    · obtain ⟨q', h1, h2, h3, h4⟩ := ih (next + 1) (by omega) (by omega)
      refine ⟨q', by omega, h2, h3, fun k => ?_⟩
      rw [show k + (q' - next) + 1 = (k + (q' - (next + 1)) + 1) + 1 from by omega]
      have h5 := h4 k
      generalize k + (q' - (next + 1)) + 1 = K at h5 ⊢
      simp only [spec_siFirst.l1]
      rw [if_pos (by omega), if_pos (by omega), if_pos (by omega), if_pos (by omega), w64 (x := rd T (now : Int) - 1) (by omega) (by omega), if_neg c, show wrap64 ((next : Int) + 1) = ((next + 1 : Nat) : Int) from by unfold wrap64; omega]
      exact h5
theorem first_l0 (t : ByteArray) (ht : t.size ≤ 1000) (L : Nat) : ∀ (v now : Nat) (out : List Int), now ≤ t.size + 1 → rd (tabL t L) (now : Int) = (v : Int) → out.length + v ≤ 100000 → ∃ r : List Nat, Rest t L now r ∧ r.length = v ∧ ∀ k, (v + 1) * (t.size + 5) < k → spec_siFirst.l0 k (tabL t L) out (now : Int) = some (out ++ r.map (fun x : Nat => (x : Int)), true) := by
  have hT := tabL_length t L
  have hb : ∀ x ∈ tabL t L, -1 ≤ x ∧ x ≤ 1000000 := leftL_small t ht L _ (Nat.le_refl _)
  intro v
  induction v with
  | zero =>
    intro now out hn hv ho
    have he : now = t.size + 1 := by
      by_cases c : now ≤ t.size
      · have := (tab_next t L now c (by omega)).2.1
        omega
      · omega
    refine ⟨[], he, rfl, fun k hk => ?_⟩
    obtain ⟨k, rfl⟩ : ∃ k', k = k' + 1 := ⟨k - 1, by omega⟩
    simp only [spec_siFirst.l0]
    rw [if_pos (by omega), hT, if_pos (by omega), if_neg (by omega), List.map_nil, List.append_nil]
  | succ v ih =>
    intro now out hn hv ho
    have hc : now ≤ t.size := by
      by_cases c : now ≤ t.size
      · exact c
      · rw [show now = t.size + 1 from by omega, tab_end] at hv
        omega
    obtain ⟨h1, h2, q, h3, h4, h5, h6⟩ := tab_next t L now hc (by omega)
    obtain ⟨q', g1, g2, g3, g4⟩ := first_l1 (tabL t L) (by omega) hb now q (by omega) (by omega) h6 out (by omega) (q - (now + 1)) (now + 1) rfl (by omega)
    obtain ⟨r, r1, r2, r3⟩ := ih q' (out ++ [(q' : Int)]) (by omega) (by omega) (by simp; omega)
    refine ⟨q' :: r, ⟨⟨by omega, by omega, by omega, tab_stone t L q' (by omega) (by omega)⟩, r1⟩, by simp [r2], fun k hk => ?_⟩
    rw [Nat.succ_mul] at hk
    obtain ⟨k, rfl⟩ : ∃ k', k = k' + (q' - (now + 1)) + 1 + 1 := ⟨k - (q' - (now + 1)) - 2, by omega⟩
    have g5 := g4 k
    have r4 := r3 k (by omega)
    generalize k + (q' - (now + 1)) + 1 = K at g5 ⊢
    simp only [spec_siFirst.l0]
    rw [if_pos (by omega), hT, if_pos (by omega), if_pos (by omega), show wrap64 ((now : Int) + 1) = ((now + 1 : Nat) : Int) from by unfold wrap64; omega, g5, r4]
    simp
/-- The first crossing, as both texts tell it. -/
theorem first_both (t : ByteArray) (ht : t.size ≤ 1000) (L : Nat) (h0 : 0 ≤ rd (tabL t L) 0) : ∃ r : List Nat, Rest t L 0 r ∧ r.length ≤ t.size + 1 ∧ ∀ k, (t.size + 2) * (t.size + 5) < k → spec_siFirst.l0 k (tabL t L) [0] 0 = some (0 :: r.map (fun x : Nat => (x : Int)), true) ∧ impl_FirstCrossing.l0 k (tabL t L) [0] 0 = some (0 :: r.map (fun x : Nat => (x : Int)), true) := by
  obtain ⟨v, hv⟩ : ∃ v : Nat, rd (tabL t L) 0 = (v : Int) := ⟨(rd (tabL t L) 0).toNat, by omega⟩
  have hr := tab_range t L 0 (by omega)
  rw [show ((0 : Nat) : Int) = 0 from rfl, hv] at hr
  obtain ⟨r, r1, r2, r3⟩ := first_l0 t ht L v 0 [0] (by omega) hv (by simp; omega)
  refine ⟨r, r1, by omega, fun k hk => ?_⟩
  have hm : (v + 1) * (t.size + 5) ≤ (t.size + 2) * (t.size + 5) := Nat.mul_le_mul_right _ (by omega)
  have h1 := r3 k (by omega)
  exact ⟨h1, by rw [(first_same k).1]; exact h1⟩
end Go.Proofs.YtaocebflcjomhaaDoor.K
