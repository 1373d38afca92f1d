/- Plain facts on the printed functions that the laws on strong rivers use (the first crossing); no conditions. -/
import Derived.Test.YtaocebflcjomhaaDoorKLeft
import Derived.Test.YtaocebflcjomhaaDoorKRiver
import Derived.Test.YtaocebflcjomhaaDoorKx13
set_option linter.unusedVariables false
set_option linter.unusedSimpArgs false
namespace Go.Proofs.YtaocebflcjomhaaDoor.K
open Go.RowKit Go.Proofs.YtaocebflcjomhaaDoorW.PrintWords Go.Proofs.YtaocebflcjomhaaDoorW.PrintLast Go.Proofs.YtaocebflcjomhaaDoorW.PrintMore
theorem leftL_drop (t : ByteArray) (L : Nat) : ∀ (p j : Nat), (leftL t L (j + p)).drop p = leftL t L j
  | 0, j => rfl
  | p + 1, j => by
    rw [show j + (p + 1) = (j + p) + 1 from by omega, leftL, List.drop_succ_cons]
    exact leftL_drop t L p j
/-- The numbers of all places. -/
def tabL (t : ByteArray) (L : Nat) : List Int := leftL t L (t.size + 1)
theorem tabL_length (t : ByteArray) (L : Nat) : (tabL t L).length = t.size + 2 := leftL_length t L _
theorem tab_drop (t : ByteArray) (L p : Nat) (h : p ≤ t.size + 1) : (tabL t L).drop p = leftL t L (t.size + 1 - p) := by
  unfold tabL
  have := leftL_drop t L p (t.size + 1 - p)
  rw [show t.size + 1 - p + p = t.size + 1 from by omega] at this
  exact this
theorem tab_rd (t : ByteArray) (L p i : Nat) (h : p ≤ t.size + 1) : rd (leftL t L (t.size + 1 - p)) (i : Int) = rd (tabL t L) ((p + i : Nat) : Int) := by
  rw [← tab_drop t L p h]
  simp only [rd, List.getD_eq_getElem?_getD, Int.toNat_natCast, List.getElem?_drop]
theorem tab_at (t : ByteArray) (L p : Nat) (h : p ≤ t.size) : rd (tabL t L) (p : Int) = if isSt t p = true then best L (-1) (leftL t L (t.size - p)) else -1 := by
  have h1 : rd (leftL t L (t.size + 1 - p)) ((0 : Nat) : Int) = rd (tabL t L) (p : Int) := tab_rd t L p 0 (by omega)
  rw [← h1, show t.size + 1 - p = (t.size - p) + 1 from by omega, leftL, show t.size - (t.size - p) = p from by omega]
  rfl
theorem tab_end (t : ByteArray) (L : Nat) : rd (tabL t L) ((t.size + 1 : Nat) : Int) = 0 := by
  have h1 : rd (leftL t L (t.size + 1 - (t.size + 1))) ((0 : Nat) : Int) = rd (tabL t L) ((t.size + 1 : Nat) : Int) := tab_rd t L (t.size + 1) 0 (Nat.le_refl _)
  rw [Nat.sub_self] at h1
  rw [← h1]
  rfl
theorem isSt_end (t : ByteArray) : isSt t (t.size + 1) = true := by simp [isSt]
theorem tab_range (t : ByteArray) (L p : Nat) (h : p ≤ t.size + 1) : -1 ≤ rd (tabL t L) (p : Int) ∧ rd (tabL t L) (p : Int) ≤ (t.size : Int) + 1 := by
  have := leftL_range t L (t.size + 1) _ (rd_memL (tabL t L) p (by rw [tabL_length]; omega))
  omega
theorem tab_next (t : ByteArray) (L p : Nat) (h : p ≤ t.size) (hv : 0 ≤ rd (tabL t L) (p : Int)) : isSt t p = true ∧ 1 ≤ rd (tabL t L) (p : Int) ∧ ∃ q : Nat, p < q ∧ q ≤ p + L ∧ q ≤ t.size + 1 ∧ rd (tabL t L) (q : Int) = rd (tabL t L) (p : Int) - 1 := by
  have ha := tab_at t L p h
  by_cases c : isSt t p = true
  · rw [if_pos c] at ha
    rcases best_from (leftL t L (t.size - p)) L (-1) with hb | ⟨i, h1, h2, h3, h4⟩
    · omega
    · rw [leftL_length] at h2
      have hr := tab_rd t L (p + 1) i (by omega)
      rw [show t.size + 1 - (p + 1) = t.size - p from by omega] at hr
      refine ⟨c, by omega, p + 1 + i, by omega, by omega, by omega, ?_⟩
      rw [← hr, ha, h4]
      omega
  · rw [if_neg c] at ha
    omega
theorem tab_stone (t : ByteArray) (L p : Nat) (h : p ≤ t.size + 1) (hv : 0 ≤ rd (tabL t L) (p : Int)) : isSt t p = true := by
  by_cases c : p ≤ t.size
  · exact (tab_next t L p c hv).1
  · rw [show p = t.size + 1 from by omega]
    exact isSt_end t
/-- A way on from a place. -/
def Rest (t : ByteArray) (L : Nat) : Nat → List Nat → Prop
  | now, [] => now = t.size + 1
  | now, q :: r => (now < q ∧ q ≤ now + L ∧ q ≤ t.size + 1 ∧ isSt t q = true) ∧ Rest t L q r
theorem tab_rest (t : ByteArray) (L : Nat) : ∀ (v p : Nat), p ≤ t.size + 1 → rd (tabL t L) (p : Int) = (v : Int) → ∃ r, Rest t L p r := by
  intro v
  induction v with
  | zero =>
    intro p hp hv
    by_cases c : p ≤ t.size
    · have := (tab_next t L p c (by omega)).2.1
      omega
    · exact ⟨[], show p = t.size + 1 by omega⟩
  | succ v ih =>
    intro p hp hv
    by_cases c : p ≤ t.size
    · obtain ⟨h1, h2, q, h3, h4, h5, h6⟩ := tab_next t L p c (by omega)
      obtain ⟨r, hr⟩ := ih q h5 (by omega)
      exact ⟨q :: r, ⟨h3, h4, h5, tab_stone t L q h5 (by omega)⟩, hr⟩
    · rw [show p = t.size + 1 from by omega, tab_end] at hv
      omega
/-- Where there is a stone within each leap, there is a way on from each stone. -/
theorem tab_some (t : ByteArray) (L : Nat) (h1 : 1 ≤ L) (hw : ∀ i, i + L ≤ t.size → ∃ q, i < q ∧ q ≤ i + L ∧ isSt t q = true) : ∀ (d p : Nat), t.size + 1 - p = d → p ≤ t.size + 1 → isSt t p = true → 0 ≤ rd (tabL t L) (p : Int) := by
  intro d
  induction d using Nat.strongRecOn with
  | ind d ih =>
    intro p hd hp hs
    by_cases c : p ≤ t.size
    · rw [tab_at t L p c, if_pos hs]
      obtain ⟨q, h2, h3, h4, h5⟩ : ∃ q, p < q ∧ q ≤ p + L ∧ q ≤ t.size + 1 ∧ isSt t q = true := by
        by_cases e : p + L ≤ t.size
        · obtain ⟨q, h2, h3, h4⟩ := hw p e
          exact ⟨q, h2, h3, by omega, h4⟩
        · exact ⟨t.size + 1, by omega, by omega, Nat.le_refl _, isSt_end t⟩
      have hq := ih (t.size + 1 - q) (by omega) q rfl h4 h5
      refine best_some _ L (-1) (q - (p + 1)) (by omega) (by rw [leftL_length]; omega) ?_
      have hr := tab_rd t L (p + 1) (q - (p + 1)) (by omega)
      rw [show t.size + 1 - (p + 1) = t.size - p from by omega, show p + 1 + (q - (p + 1)) = q from by omega] at hr
      rw [hr]
      exact hq
    · rw [show p = t.size + 1 from by omega, tab_end]
      exact Int.le_refl _
theorem rest_stone (t : ByteArray) (L i : Nat) (hi : i + L ≤ t.size) : ∀ (r : List Nat) (now : Nat), now ≤ i → Rest t L now r → ∃ q, i < q ∧ q ≤ i + L ∧ isSt t q = true
  | [], now, h, hr => by
    have hr' : now = t.size + 1 := hr
    omega
  | q :: r, now, h, hr => by
    obtain ⟨⟨h1, h2, h3, h4⟩, h5⟩ := hr
    by_cases c : q ≤ i
    · exact rest_stone t L i hi r q c h5
    · exact ⟨q, by omega, by omega, h4⟩
theorem tab_iff (t : ByteArray) (L : Nat) (h1 : 1 ≤ L) : 0 ≤ rd (tabL t L) 0 ↔ ∀ i, i + L ≤ t.size → ∃ q, i < q ∧ q ≤ i + L ∧ isSt t q = true := by
  constructor
  · intro h i hi
    obtain ⟨v, hv⟩ : ∃ v : Nat, rd (tabL t L) 0 = (v : Int) := ⟨(rd (tabL t L) 0).toNat, by omega⟩
    obtain ⟨r, hr⟩ := tab_rest t L v 0 (by omega) hv
    exact rest_stone t L i hi r 0 (by omega) hr
  · intro h
    exact tab_some t L h1 h (t.size + 1) 0 rfl (by omega) (by simp [isSt])
theorem canCross_eq (t : ByteArray) (ht : t.size ≤ 1000) (L : Nat) (h1 : 1 ≤ L) (h2 : L ≤ 1000) (k : Nat) (hk : t.size < k) : impl_canCross.f k t (L : Int) = some (decide (0 ≤ rd (tabL t L) 0)) := by
  unfold impl_canCross.f
  rw [leapsLeft_eq t ht L h1 h2 k hk, Option.bind_some, ← tabL, tabL_length, if_pos (by omega)]
end Go.Proofs.YtaocebflcjomhaaDoor.K
