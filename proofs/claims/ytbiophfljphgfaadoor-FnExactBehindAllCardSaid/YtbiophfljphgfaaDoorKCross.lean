/- Plain facts on the printed functions that the laws on strong rivers use (what a crossing is); no conditions. -/
import Derived.Test.YtbiophfljphgfaaDoorKx1
import Derived.Test.YtbiophfljphgfaaDoorKStand
set_option linter.unusedVariables false
set_option linter.unusedSimpArgs false
namespace Go.Proofs.YtbiophfljphgfaaDoor.K
open Go.RowKit Go.Proofs.YtbiophfljphgfaaDoorW.PrintWords Go.Proofs.YtbiophfljphgfaaDoorW.PrintLast Go.Proofs.YtbiophfljphgfaaDoorW.PrintMore
theorem rd_cons_drop (l : List Int) (i : Nat) (h : i < l.length) : l.drop i = rd l (i : Int) :: l.drop (i + 1) := by
  rw [List.drop_eq_getElem_cons h]
  congr 1
  simp [rd, List.getD_eq_getElem?_getD, List.getElem?_eq_getElem h]
theorem index_loop (l : List Int) (a : Int) (hl : l.length ≤ 9223372036854775806) : ∀ (n k i : Nat), n = l.length - i → i ≤ l.length → n < k → ∃ t, slices_Index_int_int.l0 k l a (l.length : Int) (i : Int) = some t ∧ (0 ≤ t ↔ a ∈ l.drop i) := by
  intro n
  induction n with
  | zero =>
    intro k i hn hi hk
    obtain ⟨k, rfl⟩ : ∃ k', k = k' + 1 := ⟨k - 1, by omega⟩
    simp only [slices_Index_int_int.l0]
    rw [if_neg (by omega), List.drop_of_length_le (by omega)]
    exact ⟨-1, rfl, by simp⟩
  | succ n ih =>
    intro k i hn hi hk
    obtain ⟨k, rfl⟩ : ∃ k', k = k' + 1 := ⟨k - 1, by omega⟩
    simp only [slices_Index_int_int.l0]
    rw [if_pos (by omega), if_pos (by omega), if_pos (by omega), rd_cons_drop l i (by omega)]
    by_cases c : a = rd l (i : Int)
    · rw [if_pos c]
      exact ⟨_, rfl, by simp [← c]⟩
    · rw [if_neg c, show wrap64 ((i : Int) + 1) = ((i + 1 : Nat) : Int) from by unfold wrap64; omega]
      obtain ⟨t, h1, h2⟩ := ih k (i + 1) (by omega) (by omega) (by omega)
      refine ⟨t, h1, ?_⟩
      rw [h2, List.mem_cons]
      constructor
      · exact Or.inr
      · rintro (h | h)
        · exact absurd h c
        · exact h
theorem contains_eq (l : List Int) (a : Int) (hl : l.length ≤ 9223372036854775806) (k : Nat) (hk : l.length < k) : slices_Contains_int_int.f k l a = some (decide (a ∈ l)) := by
  unfold slices_Contains_int_int.f slices_Index_int_int.f
  obtain ⟨t, h1, h2⟩ := index_loop l a hl l.length k 0 (by omega) (by omega) hk
  rw [show ((0 : Nat) : Int) = 0 from rfl, List.drop_zero] at *
  rw [h1, Option.bind_some]
  congr 1
  exact decide_eq_decide.2 h2
/-- What each place of a crossing is: one stands there, and one comes there by one leap. -/
def step (s : ByteArray) (leap : Int) (l : List Int) (j : Nat) : Prop := rd l (j : Int) ∈ stands (riverOf s) ∧ (0 < j → 1 ≤ wrap64 (rd l (j : Int) - rd l ((j - 1 : Nat) : Int)) ∧ wrap64 (rd l (j : Int) - rd l ((j - 1 : Nat) : Int)) ≤ leap)
def ends (s : ByteArray) (l : List Int) : Prop := 2 ≤ l.length ∧ rd l 0 = 0 ∧ rd l ((l.length - 1 : Nat) : Int) = (s.size : Int) + 1
theorem isC_loop (s : ByteArray) (hs : s.size ≤ 1048000) (leap : Int) (l : List Int) (hl : l.length ≤ 1048576) : ∀ (n k i : Nat), n = l.length - i → i ≤ l.length → n + s.size + 10 < k → ∃ b, impl_isCrossing.l0 k s leap l (stands (riverOf s)) l (l.length : Int) (i : Int) = some b ∧ (b = true ↔ (∀ j, i ≤ j → j < l.length → step s leap l j) ∧ ends s l) := by
  intro n
  induction n with
  | zero =>
    intro k i hn hi hk
    obtain ⟨k, rfl⟩ : ∃ k', k = k' + 1 := ⟨k - 1, by omega⟩
    simp only [impl_isCrossing.l0]
    rw [if_neg (by omega)]
    have hA : ∀ j, i ≤ j → j < l.length → step s leap l j := fun j h1 h2 => by omega
    by_cases c : (l.length : Int) > 1
    · rw [if_pos c, if_pos (by omega)]
      have e1 : wrap64 ((l.length : Int) - 1) = ((l.length - 1 : Nat) : Int) := by unfold wrap64; omega
      have e2 : wrap64 ((s.size : Int) + 1) = (s.size : Int) + 1 := w64 (by omega) (by omega)
      by_cases d : rd l 0 = 0
      · rw [if_pos d, e1, if_pos (by omega), if_pos (by omega), e2]
        refine ⟨_, rfl, ?_⟩
        rw [beq_iff_eq]
        exact ⟨fun h => ⟨hA, by omega, d, h⟩, fun h => h.2.2.2⟩
      · rw [if_neg d]
        exact ⟨false, rfl, by simp; exact fun _ h => d h.2.1⟩
    · rw [if_neg c]
      exact ⟨false, rfl, by simp; exact fun _ h => by have := h.1; omega⟩
  | succ n ih =>
    intro k i hn hi hk
    obtain ⟨k, rfl⟩ : ∃ k', k = k' + 1 := ⟨k - 1, by omega⟩
    simp only [impl_isCrossing.l0]
    have hst : (stands (riverOf s)).length ≤ s.size + 2 := by
      unfold stands
      have := stones_length (riverOf s) (riverOf s).size 0
      rw [river_size] at *
      simp
      omega
    rw [if_pos (by omega), if_pos (by omega), if_pos (by omega), contains_eq _ _ (by omega) k (by omega), Option.bind_some, show wrap64 ((i : Int) + 1) = ((i + 1 : Nat) : Int) from by unfold wrap64; omega]
    obtain ⟨b, h1, h2⟩ := ih k (i + 1) (by omega) (by omega) (by omega)
    have hall : ∀ Q : Prop, step s leap l i → (((∀ j, i ≤ j → j < l.length → step s leap l j) ∧ Q) ↔ ((∀ j, i + 1 ≤ j → j < l.length → step s leap l j) ∧ Q)) := fun Q hi0 => ⟨fun h => ⟨fun j a b => h.1 j (by omega) b, h.2⟩, fun h => ⟨fun j a b => by
      by_cases e : j = i
      · rw [e]; exact hi0
      · exact h.1 j (by omega) b, h.2⟩⟩
    by_cases c : rd l (i : Int) ∈ stands (riverOf s)
    · rw [if_pos (decide_eq_true c)]
      by_cases d : 0 < i
      · have e1 : wrap64 ((i : Int) - 1) = ((i - 1 : Nat) : Int) := by unfold wrap64; omega
        rw [if_pos (by omega), e1, if_pos (by omega), if_pos (by omega), within_eq, Option.bind_some]
        by_cases e : 1 ≤ wrap64 (rd l (i : Int) - rd l ((i - 1 : Nat) : Int)) ∧ wrap64 (rd l (i : Int) - rd l ((i - 1 : Nat) : Int)) ≤ leap
        · rw [if_pos (decide_eq_true e)]
          exact ⟨b, h1, by rw [h2, hall _ ⟨c, fun _ => e⟩]⟩
        · rw [if_neg (by simp only [decide_eq_true_eq]; exact e)]
          refine ⟨false, rfl, ?_⟩
          constructor
          · intro h; cases h
          · intro h
            exact absurd ((h.1 i (Nat.le_refl _) (by omega)).2 d) e
      · rw [if_neg (by omega)]
        exact ⟨b, h1, by rw [h2, hall _ ⟨c, fun h => absurd h d⟩]⟩
    · rw [if_neg (by simp only [decide_eq_true_eq]; exact c)]
      refine ⟨false, rfl, ?_⟩
      constructor
      · intro h; cases h
      · intro h
        exact absurd (h.1 i (Nat.le_refl _) (by omega)).1 c
/-- Whether a list is a crossing. -/
def Crossing (s : ByteArray) (leap : Int) (l : List Int) : Prop := (∀ j, j < l.length → step s leap l j) ∧ ends s l
theorem isCrossing_eq (s : ByteArray) (hs : s.size ≤ 1048000) (leap : Int) (l : List Int) (hl : l.length ≤ 1048576) (k : Nat) (hk : l.length + s.size + 10 < k) : ∃ b, impl_isCrossing.f k s leap l = some b ∧ (b = true ↔ Crossing s leap l) := by
  unfold impl_isCrossing.f Crossing
  rw [plain_river s (by omega), Option.bind_some, stand_eq (riverOf s) (by rw [river_size]; omega) k (by rw [river_size]; omega), Option.bind_some]
  obtain ⟨b, h1, h2⟩ := isC_loop s hs leap l hl l.length k 0 (by omega) (by omega) (by omega)
  refine ⟨b, h1, ?_⟩
  rw [h2]
  exact ⟨fun h => ⟨fun j hj => h.1 j (by omega) hj, h.2⟩, fun h => ⟨fun j _ hj => h.1 j hj, h.2⟩⟩
def rise (l : List Int) (lo hi : Int) (j : Nat) : Prop := (lo ≤ rd l (j : Int) ∧ rd l (j : Int) ≤ hi) ∧ (0 < j → rd l ((j - 1 : Nat) : Int) < rd l (j : Int))
theorem rising_loop (l : List Int) (hl : l.length ≤ 1048576) (lo hi : Int) : ∀ (n k i : Nat), n = l.length - i → i ≤ l.length → n < k → ∃ b, spec_l1Rising.l0 k l lo hi l (l.length : Int) (i : Int) = some b ∧ (b = true ↔ ∀ j, i ≤ j → j < l.length → rise l lo hi j) := by
  intro n
  induction n with
  | zero =>
    intro k i hn hi hk
    obtain ⟨k, rfl⟩ : ∃ k', k = k' + 1 := ⟨k - 1, by omega⟩
    simp only [spec_l1Rising.l0]
    rw [if_neg (by omega)]
    exact ⟨true, rfl, by simp; exact fun j h1 h2 => by omega⟩
  | succ n ih =>
    intro k i hn hi' hk
    obtain ⟨k, rfl⟩ : ∃ k', k = k' + 1 := ⟨k - 1, by omega⟩
    simp only [spec_l1Rising.l0]
    rw [if_pos (by omega), if_pos (by omega), if_pos (by omega), l1In_eq, Option.bind_some, show wrap64 ((i : Int) + 1) = ((i + 1 : Nat) : Int) from by unfold wrap64; omega]
    obtain ⟨b, h1, h2⟩ := ih k (i + 1) (by omega) (by omega) (by omega)
    have hall : rise l lo hi i → ((∀ j, i ≤ j → j < l.length → rise l lo hi j) ↔ (∀ j, i + 1 ≤ j → j < l.length → rise l lo hi j)) := fun hi0 => ⟨fun h j a b => h j (by omega) b, fun h j a b => by
      by_cases e : j = i
      · rw [e]; exact hi0
      · exact h j (by omega) b⟩
    have hno : ¬ rise l lo hi i → (false = true ↔ (∀ j, i ≤ j → j < l.length → rise l lo hi j)) := fun hi0 => ⟨fun h => (by cases h), fun h => absurd (h i (Nat.le_refl _) (by omega)) hi0⟩
    by_cases c : lo ≤ rd l (i : Int) ∧ rd l (i : Int) ≤ hi
    · rw [if_pos (decide_eq_true c)]
      by_cases d : 0 < i
      · have e1 : wrap64 ((i : Int) - 1) = ((i - 1 : Nat) : Int) := by unfold wrap64; omega
        rw [if_pos (by omega), e1, if_pos (by omega), if_pos (by omega)]
        by_cases e : rd l ((i - 1 : Nat) : Int) ≥ rd l (i : Int)
        · rw [if_pos e]
          exact ⟨false, rfl, hno (fun h => by have := h.2 d; omega)⟩
        · rw [if_neg e]
          exact ⟨b, h1, by rw [h2, hall ⟨c, fun _ => by omega⟩]⟩
      · rw [if_neg (by omega)]
        exact ⟨b, h1, by rw [h2, hall ⟨c, fun h => absurd h d⟩]⟩
    · rw [if_neg (by simp only [decide_eq_true_eq]; exact c)]
      exact ⟨false, rfl, hno (fun h => c h.1)⟩
/-- The second half of what siIs asks, at the places j and j + 1. -/
def near (s : ByteArray) (leap : Int) (l : List Int) (j : Nat) : Prop := rd l ((j + 1 : Nat) : Int) - rd l (j : Int) ≤ leap ∧ (rd l ((j + 1 : Nat) : Int) < (s.size : Int) + 1 → bt s (rd l ((j + 1 : Nat) : Int) - 1) ≠ 48)
theorem rd_drop (l : List Int) (i : Nat) : rd (l.drop 1) (i : Int) = rd l ((i + 1 : Nat) : Int) := by
  simp only [rd, List.getD_eq_getElem?_getD, Int.toNat_natCast, List.getElem?_drop]
  rw [Nat.add_comm]
theorem siIs_loop (s : ByteArray) (hs : s.size ≤ 1048000) (leap : Int) (l : List Int) (hl : l.length ≤ 1048576) (h2 : 2 ≤ l.length) (hr : ∀ j, j < l.length → rise l 0 ((s.size : Int) + 1) j) : ∀ (n k i : Nat), n = l.length - 1 - i → i ≤ l.length - 1 → n < k → ∃ b, spec_siIs.l0 k s leap l ((s.size : Int) + 1) (l.drop 1) ((l.drop 1).length : Int) (i : Int) = some b ∧ (b = true ↔ ∀ j, i ≤ j → j < l.length - 1 → near s leap l j) := by
  have hd : (l.drop 1).length = l.length - 1 := by rw [List.length_drop]
  intro n
  induction n with
  | zero =>
    intro k i hn hi hk
    obtain ⟨k, rfl⟩ : ∃ k', k = k' + 1 := ⟨k - 1, by omega⟩
    simp only [spec_siIs.l0]
    rw [if_neg (by omega)]
    exact ⟨true, rfl, by simp; exact fun j h1 h2 => by omega⟩
  | succ n ih =>
    intro k i hn hi hk
    obtain ⟨k, rfl⟩ : ∃ k', k = k' + 1 := ⟨k - 1, by omega⟩
    simp only [spec_siIs.l0]
    have ra := hr i (by omega)
    have rb := hr (i + 1) (by omega)
    have rc := rb.2 (by omega)
    rw [show i + 1 - 1 = i from rfl] at rc
    have ra1 := ra.1
    have rb1 := rb.1
    have ed : wrap64 (rd l ((i + 1 : Nat) : Int) - rd l (i : Int)) = rd l ((i + 1 : Nat) : Int) - rd l (i : Int) := w64 (by omega) (by omega)
    have ep : wrap64 (rd l ((i + 1 : Nat) : Int) - 1) = rd l ((i + 1 : Nat) : Int) - 1 := w64 (by omega) (by omega)
    rw [if_pos (by omega), if_pos (by omega), if_pos (by omega), if_pos (by omega), rd_drop, ed, ep, show wrap64 ((i : Int) + 1) = ((i + 1 : Nat) : Int) from by unfold wrap64; omega]
    obtain ⟨b, h1, h2⟩ := ih k (i + 1) (by omega) (by omega) (by omega)
    have hall : near s leap l i → ((∀ j, i ≤ j → j < l.length - 1 → near s leap l j) ↔ (∀ j, i + 1 ≤ j → j < l.length - 1 → near s leap l j)) := fun hi0 => ⟨fun h j a b => h j (by omega) b, fun h j a b => by
      by_cases e : j = i
      · rw [e]; exact hi0
      · exact h j (by omega) b⟩
    have hno : ¬ near s leap l i → (false = true ↔ (∀ j, i ≤ j → j < l.length - 1 → near s leap l j)) := fun hi0 => ⟨fun h => (by cases h), fun h => absurd (h i (Nat.le_refl _) (by omega)) hi0⟩
    by_cases c : rd l ((i + 1 : Nat) : Int) - rd l (i : Int) > leap
    · rw [if_pos c]
      exact ⟨false, rfl, hno (fun h => by have := h.1; omega)⟩
    · rw [if_neg c]
      by_cases d : rd l ((i + 1 : Nat) : Int) < (s.size : Int) + 1
      · rw [if_pos d, if_pos (by omega), if_pos (by omega)]
        by_cases e : bt s (rd l ((i + 1 : Nat) : Int) - 1) = 48
        · rw [if_pos e]
          exact ⟨false, rfl, hno (fun h => h.2 d e)⟩
        · rw [if_neg e]
          exact ⟨b, h1, by rw [h2, hall ⟨by omega, fun _ => e⟩]⟩
      · rw [if_neg d]
        exact ⟨b, h1, by rw [h2, hall ⟨by omega, fun h => absurd h d⟩]⟩
theorem cross_iff (s : ByteArray) (hs : s.size ≤ 1048000) (leap : Int) (l : List Int) : Crossing s leap l ↔ (ends s l ∧ (∀ j, j < l.length → rise l 0 ((s.size : Int) + 1) j) ∧ ∀ j, j < l.length - 1 → near s leap l j) := by
  have hz := river_size s
  constructor
  · rintro ⟨h1, h2⟩
    have hin : ∀ j, j < l.length → 0 ≤ rd l (j : Int) ∧ rd l (j : Int) ≤ (s.size : Int) + 1 := fun j hj => by
      have := (stands_mem _ _).1 (h1 j hj).1
      rw [hz] at this
      omega
    have hri : ∀ j, j < l.length → rise l 0 ((s.size : Int) + 1) j := fun j hj => ⟨hin j hj, fun h0 => by
      have a := hin j hj
      have b := hin (j - 1) (by omega)
      have c := (h1 j hj).2 h0
      rw [w64 (by omega) (by omega)] at c
      omega⟩
    refine ⟨h2, hri, fun j hj => ?_⟩
    have a := hin (j + 1) (by omega)
    have b := hin j (by omega)
    have c := (h1 (j + 1) (by omega)).2 (by omega)
    rw [show j + 1 - 1 = j from rfl, w64 (by omega) (by omega)] at c
    refine ⟨by omega, fun h0 => ?_⟩
    have d := (stands_mem _ _).1 (h1 (j + 1) (by omega)).1
    rw [hz] at d
    rcases d with d | d | ⟨d1, d2, d3⟩
    · omega
    · omega
    · obtain ⟨m, hm⟩ : ∃ m : Nat, rd l ((j + 1 : Nat) : Int) - 1 = (m : Int) := ⟨(rd l ((j + 1 : Nat) : Int) - 1).toNat, by omega⟩
      rw [hm] at d3 ⊢
      exact (river_stone s m (by omega)).1 d3
  · rintro ⟨h2, hri, hne⟩
    refine ⟨fun j hj => ?_, h2⟩
    have a := (hri j hj).1
    by_cases h0 : 0 < j
    · have b := (hri (j - 1) (by omega)).1
      have c := (hri j hj).2 h0
      have d := hne (j - 1) (by omega)
      unfold near at d
      rw [show j - 1 + 1 = j from by omega] at d
      refine ⟨(stands_mem _ _).2 ?_, fun _ => by rw [w64 (by omega) (by omega)]; omega⟩
      rw [hz]
      by_cases e : rd l (j : Int) < (s.size : Int) + 1
      · refine Or.inr (Or.inr ⟨by omega, by omega, ?_⟩)
        have d2 := d.2 e
        obtain ⟨m, hm⟩ : ∃ m : Nat, rd l (j : Int) - 1 = (m : Int) := ⟨(rd l (j : Int) - 1).toNat, by omega⟩
        rw [hm] at d2 ⊢
        exact (river_stone s m (by omega)).2 d2
      · exact Or.inr (Or.inl (by omega))
    · have e : j = 0 := by omega
      subst e
      exact ⟨(stands_mem _ _).2 (Or.inl h2.2.1), fun h => absurd h h0⟩
theorem siIs_eq (s : ByteArray) (hs : s.size ≤ 1048000) (leap : Int) (l : List Int) (hl : l.length ≤ 1048576) (k : Nat) (hk : l.length + 10 < k) : ∃ b, spec_siIs.f k s leap l = some b ∧ (b = true ↔ Crossing s leap l) := by
  obtain ⟨k, rfl⟩ : ∃ k', k = k' + 1 := ⟨k - 1, by omega⟩
  have eE : wrap64 ((s.size : Int) + 1) = (s.size : Int) + 1 := w64 (by omega) (by omega)
  unfold spec_siIs.f
  rw [eE]
  have hf : ∀ E, ¬ Crossing s leap l → ∃ b, spec_siIs.j0 (k + 1) s leap l E true = some b ∧ (b = true ↔ Crossing s leap l) := fun E h => ⟨false, by simp only [spec_siIs.j0]; rw [if_pos trivial], by simp [h]⟩
  by_cases c : (l.length : Int) < 2
  · rw [if_pos c]
    exact hf _ (fun h => by have := h.2.1; omega)
  · rw [if_neg c, if_pos (by omega)]
    by_cases d : rd l 0 = 0
    · have e1 : wrap64 ((l.length : Int) - 1) = ((l.length - 1 : Nat) : Int) := by unfold wrap64; omega
      rw [if_pos d, e1, if_pos (by omega), if_pos (by omega)]
      by_cases e : rd l ((l.length - 1 : Nat) : Int) = (s.size : Int) + 1
      · rw [if_pos e]
        unfold spec_l1Rising.f
        obtain ⟨b, h1, h2⟩ := rising_loop l hl 0 ((s.size : Int) + 1) l.length (k + 1) 0 (by omega) (by omega) (by omega)
        rw [show ((0 : Nat) : Int) = 0 from rfl] at h1
        rw [h1, Option.bind_some]
        cases b with
        | true =>
          have hri : ∀ j, j < l.length → rise l 0 ((s.size : Int) + 1) j := fun j hj => h2.1 rfl j (by omega) hj
          simp only [spec_siIs.j0, Bool.not_true]
          rw [if_neg (by decide), if_pos (by omega)]
          obtain ⟨b, g1, g2⟩ := siIs_loop s hs leap l hl (by omega) hri (l.length - 1) k 0 (by omega) (by omega) (by omega)
          refine ⟨b, g1, ?_⟩
          rw [g2, cross_iff s hs]
          exact ⟨fun h => ⟨⟨by omega, d, e⟩, hri, fun j hj => h j (by omega) hj⟩, fun h j _ hj => h.2.2 j hj⟩
        | false =>
          exact hf _ (fun h => by
            have := (cross_iff s hs leap l).1 h
            have := h2.2 (fun j _ hj => this.2.1 j hj)
            cases this)
      · rw [if_neg e]
        exact hf _ (fun h => e h.2.2.2)
    · rw [if_neg d]
      exact hf _ (fun h => d h.2.2.1)
/-- Both tell the same. -/
theorem same_cross (s : ByteArray) (hs : s.size ≤ 1048000) (leap : Int) (l : List Int) (hl : l.length ≤ 1048576) (k : Nat) (hk : l.length + s.size + 10 < k) : ∃ b, spec_siIs.f k s leap l = some b ∧ impl_isCrossing.f k s leap l = some b ∧ (b = true ↔ Crossing s leap l) := by
  obtain ⟨b, h1, h2⟩ := siIs_eq s hs leap l hl k (by omega)
  obtain ⟨c, g1, g2⟩ := isCrossing_eq s hs leap l hl k hk
  have : c = b := by rw [Bool.eq_iff_iff, g2, h2]
  subst this
  exact ⟨c, h1, g1, g2⟩
end Go.Proofs.YtbiophfljphgfaaDoor.K
