/- The plain law of FnExactHoursToSink; no conditions. -/
import Derived.Test.YtaocebflcjomhaaDoorKWay
import Derived.Test.YtaocebflcjomhaaDoorKCan
import Derived.Test.YtaocebflcjomhaaDoorKWear
import Derived.Test.YtaocebflcjomhaaDoorKDigs
import Derived.Test.YtaocebflcjomhaaDoorKx3
set_option linter.unusedVariables false
set_option linter.unusedSimpArgs false
namespace Go.Proofs.YtaocebflcjomhaaDoor.K
open Go.RowKit Go.Proofs.YtaocebflcjomhaaDoorW.PrintWords Go.Proofs.YtaocebflcjomhaaDoorW.PrintLast Go.Proofs.YtaocebflcjomhaaDoorW.PrintMore
theorem nar_iff (l : List Int) (L : Nat) : ∀ (m i : Nat) (b a : Int), (b < 0 → 1 ≤ m) → (1 ≤ (nar l L m i b a).1 ↔ (b < 0 ∨ 1 ≤ b) ∧ ∀ j, i ≤ j → j < i + m → 1 ≤ digs ((l.drop j).take L)) := by
  intro m
  induction m with
  | zero =>
    intro i b a h
    simp only [nar]
    constructor
    · intro h1
      exact ⟨Or.inr h1, fun j h2 h3 => by omega⟩
    · rintro ⟨h1, _⟩
      omega
  | succ m ih =>
    intro i b a h
    have h0 := digs_nonneg ((l.drop i).take L)
    simp only [nar]
    have hall : (∀ j, i ≤ j → j < i + (m + 1) → 1 ≤ digs ((l.drop j).take L)) ↔ 1 ≤ digs ((l.drop i).take L) ∧ ∀ j, i + 1 ≤ j → j < i + 1 + m → 1 ≤ digs ((l.drop j).take L) := by
      constructor
      · intro hj
        exact ⟨hj i (by omega) (by omega), fun j h1 h2 => hj j (by omega) (by omega)⟩
      · rintro ⟨h1, h2⟩ j h3 h4
        by_cases e : j = i
        · rw [e]; exact h1
        · exact h2 j (by omega) (by omega)
    rw [hall]
    by_cases c : b < 0 ∨ digs ((l.drop i).take L) < b
    · rw [if_pos c, ih (i + 1) _ _ (by omega)]
      constructor
      · rintro ⟨h1, h2⟩
        exact ⟨by omega, by omega, h2⟩
      · rintro ⟨h1, h2, h3⟩
        exact ⟨by omega, h3⟩
    · rw [if_neg c, ih (i + 1) _ _ (by omega)]
      constructor
      · rintro ⟨h1, h2⟩
        exact ⟨h1, by omega, h2⟩
      · rintro ⟨h1, h2, h3⟩
        exact ⟨h1, h3⟩
theorem part_stone (s : ByteArray) (hg : good s = true) (L i : Nat) (hi : i + L ≤ s.size) : 1 ≤ digs (((intsOf s).drop i).take L) ↔ ∃ q, i < q ∧ q ≤ i + L ∧ isSt (riverOf s) q = true := by
  rw [digs_pos _ (fun c hc => good_all hg c (List.mem_of_mem_drop (List.mem_of_mem_take hc)))]
  have hs : ∀ q : Nat, 1 ≤ q → q ≤ s.size → (isSt (riverOf s) q = true ↔ bt s ((q - 1 : Nat) : Int) ≠ 48) := by
    intro q h1 h2
    unfold isSt
    rw [river_size, show (q == 0) = false from by simp; omega, show (q == s.size + 1) = false from by simp; omega, Bool.false_or, Bool.false_or, beq_iff_eq, show (q : Int) - 1 = ((q - 1 : Nat) : Int) from by omega]
    exact river_stone s (q - 1) (by omega)
  constructor
  · rintro ⟨c, hc, hn⟩
    obtain ⟨j, hj⟩ := List.mem_iff_getElem?.1 hc
    have hjL : j < L := by
      by_cases e : j < L
      · exact e
      · rw [List.getElem?_eq_none (by rw [List.length_take]; omega)] at hj
        cases hj
    rw [List.getElem?_take_of_lt hjL, List.getElem?_drop, bt_ints s (i + j) (by omega)] at hj
    refine ⟨i + j + 1, by omega, by omega, (hs (i + j + 1) (by omega) (by omega)).2 ?_⟩
    rw [show i + j + 1 - 1 = i + j from by omega, Option.some.inj hj]
    exact hn
  · rintro ⟨q, h1, h2, h3⟩
    refine ⟨bt s ((q - 1 : Nat) : Int), List.mem_iff_getElem?.2 ⟨q - 1 - i, ?_⟩, (hs q (by omega) (by omega)).1 h3⟩
    rw [List.getElem?_take_of_lt (by omega), List.getElem?_drop, show i + (q - 1 - i) = q - 1 from by omega]
    exact bt_ints s (q - 1) (by omega)
theorem can_tab (s : ByteArray) (hg : good s = true) (L : Nat) (h1 : 1 ≤ L) (h2 : L ≤ s.size) : can s (L : Int) 1 = decide (0 ≤ rd (tabL (riverOf s) L) 0) := by
  unfold can
  rw [if_neg (by omega), Bool.eq_iff_iff, decide_eq_true_eq, decide_eq_true_eq, tab_iff (riverOf s) L h1, river_size]
  unfold narrow
  rw [Int.toNat_natCast]
  show 1 ≤ _ ↔ _
  rw [nar_iff _ L _ 0 (-1) 0 (by omega)]
  constructor
  · rintro ⟨_, h⟩ i hi
    exact (part_stone s hg L i hi).1 (h i (by omega) (by omega))
  · intro h
    exact ⟨Or.inl (by decide), fun j _ hj => (part_stone s hg L j (by omega)).2 (h j (by omega))⟩
theorem worn_digs : ∀ (l : List Int), (∀ c ∈ l, isDig c = true) → (∀ c ∈ l.map wornB, isDig c = true) ∧ digs (l.map wornB) ≤ digs l ∧ (1 ≤ digs l → digs (l.map wornB) < digs l)
  | [], _ => ⟨fun c hc => by simp at hc, Int.le_refl _, fun h => by simp [digs] at h⟩
  | c :: l, h => by
    have hc := dig_use (h c (List.mem_cons_self ..))
    obtain ⟨i1, i2, i3⟩ := worn_digs l (fun x hx => h x (List.mem_cons_of_mem _ hx))
    have h0 := digs_nonneg l
    have hw : wornB c = if 48 < c - 1 then c - 1 else 48 := by
      unfold wornB
      rw [Int.emod_eq_of_lt (by omega) (by omega)]
    have hd : isDig (wornB c) = true := by
      rw [hw]
      unfold isDig
      split <;> simp <;> omega
    have hu := dig_use hd
    refine ⟨fun x hx => ?_, ?_, ?_⟩
    · rw [List.map_cons] at hx
      rcases List.mem_cons.1 hx with rfl | hx
      · exact hd
      · exact i1 x hx
    · rw [List.map_cons, digs_cons, digs_cons, Int.emod_eq_of_lt (a := c - 48) (by omega) (by omega), Int.emod_eq_of_lt (a := wornB c - 48) (by omega) (by omega)]
      have : wornB c ≤ c := by rw [hw]; split <;> omega
      omega
    · rw [List.map_cons, digs_cons, digs_cons, Int.emod_eq_of_lt (a := c - 48) (by omega) (by omega), Int.emod_eq_of_lt (a := wornB c - 48) (by omega) (by omega)]
      intro h1
      by_cases e : c = 48
      · subst e
        have : wornB 48 = 48 := by decide
        rw [this]
        have := i3 (by omega)
        omega
      · have : wornB c < c := by rw [hw]; split <;> omega
        omega
theorem hours_loop (L : Nat) (h1 : 1 ≤ L) (h2 : L ≤ 21) : ∀ (m k : Nat) (s : ByteArray) (h : Int), good s = true → L ≤ s.size → digs (intsOf s) ≤ (m : Int) → m + 100 < k → 0 ≤ h → h ≤ 1000000 - (m : Int) → ∃ v, spec_HoursToSink.l0 k s (L : Int) h = some v ∧ impl_HoursToSink.l0 k s (L : Int) h = some v := by
  intro m
  induction m with
  | zero =>
    intro k s h hg hL hd hk h3 h4
    have hz := good_size hg
    obtain ⟨k, rfl⟩ : ∃ k', k = k' + 1 := ⟨k - 1, by omega⟩
    have hc : can s (L : Int) 1 = false := by
      rw [can_tab s hg L h1 hL, decide_eq_false_iff_not, tab_iff (riverOf s) L h1, river_size]
      intro hw
      obtain ⟨c, hc, hn⟩ := (digs_pos _ (fun c hc => good_all hg c (List.mem_of_mem_drop (List.mem_of_mem_take hc)))).1 ((part_stone s hg L 0 (by omega)).2 (hw 0 (by omega)))
      have := (digs_pos _ (good_all hg)).2 ⟨c, List.mem_of_mem_drop (List.mem_of_mem_take hc), hn⟩
      omega
    simp only [spec_HoursToSink.l0, impl_HoursToSink.l0]
    rw [siCan_eq s hz.2 _ _ (by omega) k (by omega), Option.bind_some, hc, if_neg (by decide), plain_river s (by omega), Option.bind_some, canCross_eq (riverOf s) (by rw [river_size]; omega) L h1 (by omega) k (by rw [river_size]; omega), Option.bind_some, ← can_tab s hg L h1 hL, hc, if_neg (by decide)]
    exact ⟨_, rfl, rfl⟩
  | succ m ih =>
    intro k s h hg hL hd hk h3 h4
    have hz := good_size hg
    obtain ⟨k, rfl⟩ : ∃ k', k = k' + 1 := ⟨k - 1, by omega⟩
    simp only [spec_HoursToSink.l0, impl_HoursToSink.l0]
    rw [siCan_eq s hz.2 _ _ (by omega) k (by omega), Option.bind_some, plain_river s (by omega), Option.bind_some, canCross_eq (riverOf s) (by rw [river_size]; omega) L h1 (by omega) k (by rw [river_size]; omega), Option.bind_some, ← can_tab s hg L h1 hL]
    cases hc : can s (L : Int) 1 with
    | false =>
      rw [if_neg (by decide), if_neg (by decide)]
      exact ⟨_, rfl, rfl⟩
    | true =>
      have hp : 1 ≤ digs (intsOf s) := by
        rw [can_tab s hg L h1 hL, decide_eq_true_eq, tab_iff (riverOf s) L h1, river_size] at hc
        obtain ⟨c, hc, hn⟩ := (digs_pos _ (fun c hc => good_all hg c (List.mem_of_mem_drop (List.mem_of_mem_take hc)))).1 ((part_stone s hg L 0 (by omega)).2 (hc 0 (by omega)))
        exact (digs_pos _ (good_all hg)).2 ⟨c, List.mem_of_mem_drop (List.mem_of_mem_take hc), hn⟩
      obtain ⟨w1, w2, w3⟩ := worn_digs (intsOf s) (good_all hg)
      have w4 := w3 hp
      rw [if_pos rfl, if_pos rfl, siWear_eq s hg k (by omega), Option.bind_some, worn_eq s (by omega), Option.bind_some, w64 (x := h + 1) (by omega) (by omega)]
      have hl : ((intsOf s).map wornB).length = s.size := by rw [List.length_map, intsOf_length]
      exact ih k (strOfNums ((intsOf s).map wornB)) (h + 1) (good_num _ w1 (by omega) (by omega)) (by rw [num_size]; omega) (by rw [ints_num _ w1]; omega) (by omega) (by omega) (by omega)
theorem FnExactHoursToSink_pure (a0 : ByteArray) (a1 : Int) (w0 : a0.size ≤ 140737488351232) (w1 : (Lit.int .i64 a1).wf = true) : ∃ k, laws_FnExactHoursToSink.f k a0 a1 = some true := by
  refine ⟨1000, ?_⟩
  unfold laws_FnExactHoursToSink.f
  by_cases h : (a0.size : Int) > 1048576
  · rw [if_pos h]
  · rw [if_neg h]
    have hv : ∃ v, spec_HoursToSink.f 1000 a0 a1 = some v ∧ impl_HoursToSink.f 1000 a0 a1 = some v := by
      unfold spec_HoursToSink.f impl_HoursToSink.f
      rw [siShort_eq a0 a1 1000 (by decide), isShort_eq a0 a1, Option.bind_some, Option.bind_some]
      cases hs : short a0 a1 with
      | false =>
        rw [if_neg (by decide), if_neg (by decide)]
        exact ⟨_, rfl, rfl⟩
      | true =>
        rw [if_pos rfl, if_pos rfl]
        obtain ⟨hg, ha, hL, hz⟩ := short_use hs
        obtain ⟨L, rfl⟩ : ∃ L : Nat, a1 = (L : Int) := ⟨a1.toNat, by omega⟩
        have hd := digs_le _ (good_all hg)
        rw [intsOf_length] at hd
        exact hours_loop L (by omega) (by omega) 180 1000 a0 0 hg (by omega) (by omega) (by omega) (by omega) (by omega)
    obtain ⟨v, h1, h2⟩ := hv
    rw [h1, h2, Option.bind_some, Option.bind_some, if_pos rfl]
    simp
end Go.Proofs.YtaocebflcjomhaaDoor.K
