/- Plain facts on the printed functions that the laws on strong rivers use (what lies behind a crossing); no conditions. -/
import Derived.Test.YtbiophfljphgfaaDoorKx8
import Derived.Test.YtbiophfljphgfaaDoorKx4
import Derived.Test.YtbiophfljphgfaaDoorKCross
import Derived.Test.YtbiophfljphgfaaDoorKNum
set_option linter.unusedVariables false
set_option linter.unusedSimpArgs false
namespace Go.Proofs.YtbiophfljphgfaaDoor.K
open Go.RowKit Go.Proofs.YtbiophfljphgfaaDoorW.PrintWords Go.Proofs.YtbiophfljphgfaaDoorW.PrintLast Go.Proofs.YtbiophfljphgfaaDoorW.PrintMore
theorem set_cut (s : ByteArray) (i : Nat) (h : i < s.size) (c : Int) : (s.extract 0 i ++ strOfNums [c]) ++ s.extract (i + 1) s.size = strOfNums ((intsOf s).set i c) := by
  have h1 : i < (intsOf s).length := by rw [intsOf_length]; exact h
  rw [← num_ints (s.extract 0 i), ← num_ints (s.extract (i + 1) s.size), ints_extract, ints_extract, ← num_append, ← num_append, List.set_eq_take_append_cons_drop, if_pos h1]
  congr 1
  rw [List.drop_zero, Nat.sub_zero, List.take_of_length_le (l := (intsOf s).drop (i + 1)) (by rw [List.length_drop, intsOf_length]; omega), List.append_assoc]
  rfl
theorem dig_use {c : Int} (h : isDig c = true) : 48 ≤ c ∧ c ≤ 57 := by simpa [isDig] using h
theorem ints_num (b : List Int) (h : ∀ c ∈ b, isDig c = true) : intsOf (strOfNums b) = b := ints_of b (fun c hc => by
  have := dig_use (h c hc)
  omega)
theorem rd_mem (b : List Int) (j : Nat) (h : j < b.length) : rd b (j : Int) ∈ b := by
  have e : rd b (j : Int) = b[j] := by simp [rd, List.getD_eq_getElem?_getD, List.getElem?_eq_getElem h]
  rw [e]
  exact List.getElem_mem h
theorem bt_num (b : List Int) (h : ∀ c ∈ b, isDig c = true) (j : Nat) (hj : j < b.length) : bt (strOfNums b) (j : Int) = rd b (j : Int) := by
  have h1 := bt_ints (strOfNums b) j (by rw [num_size]; exact hj)
  rw [ints_num b h, List.getElem?_eq_getElem hj] at h1
  have e : rd b (j : Int) = b[j] := by simp [rd, List.getD_eq_getElem?_getD, List.getElem?_eq_getElem hj]
  rw [e]
  exact (Option.some.inj h1).symm
theorem good_num (b : List Int) (h : ∀ c ∈ b, isDig c = true) (h1 : 1 ≤ b.length) (h2 : b.length ≤ 20) : good (strOfNums b) = true := by
  unfold good
  rw [ints_num b h, num_size, decide_eq_true ⟨h1, h2⟩, Bool.true_and, List.all_eq_true]
  exact h
theorem rd_set (b : List Int) (i j : Nat) (v : Int) (h : i ≠ j) : rd (b.set i v) (j : Int) = rd b (j : Int) := by
  simp only [rd, List.getD_eq_getElem?_getD, Int.toNat_natCast]
  rw [List.getElem?_set_ne h]
theorem beh_loop (m : List Int) (hm : m.length ≤ 1048576) : ∀ (n k i : Nat) (b : List Int), n = m.length - i → i ≤ m.length → n + 5 < k → b.length ≤ 20 → (∀ c ∈ b, isDig c = true) →
    (∀ j : Nat, i ≤ j → j < m.length → 1 ≤ rd m (j : Int) ∧ rd m (j : Int) ≤ (b.length : Int) ∧ 49 ≤ rd b (rd m (j : Int) - 1)) → (∀ j j' : Nat, i ≤ j → j < j' → j' < m.length → rd m (j : Int) < rd m (j' : Int)) →
    ∃ b', behindL (m.drop i) b = some b' ∧ b'.length = b.length ∧ (∀ c ∈ b', isDig c = true) ∧ spec_siBehind.l0 k (strOfNums b) m (m.length : Int) (i : Int) = some (strOfNums b') := by
  intro n
  induction n with
  | zero =>
    intro k i b hn hi hk hb hd hp hr
    obtain ⟨k, rfl⟩ : ∃ k', k = k' + 1 := ⟨k - 1, by omega⟩
    simp only [spec_siBehind.l0]
    rw [List.drop_of_length_le (by omega), if_neg (by omega)]
    exact ⟨b, rfl, rfl, hd, rfl⟩
  | succ n ih =>
    intro k i b hn hi hk hb hd hp hr
    obtain ⟨k, rfl⟩ : ∃ k', k = k' + 1 := ⟨k - 1, by omega⟩
    simp only [spec_siBehind.l0]
    obtain ⟨p1, p2, p3⟩ := hp i (Nat.le_refl _) (by omega)
    rw [rd_cons_drop m i (by omega)]
    simp only [behindL]
    have hlt : ∀ j : Nat, i + 1 ≤ j → j < m.length → rd m (i : Int) < rd m (j : Int) := fun j h1 h2 => hr i j (Nat.le_refl _) (by omega) h2
    generalize rd m (i : Int) = p at p1 p2 p3 hlt ⊢
    obtain ⟨q, rfl⟩ : ∃ q : Nat, p = (q : Int) + 1 := ⟨(p - 1).toNat, by omega⟩
    have hq : q < b.length := by omega
    have e1 : (q : Int) + 1 - 1 = (q : Int) := by omega
    have hbt := bt_num b hd q hq
    have hdd := dig_use (hd _ (rd_mem b q hq))
    rw [e1] at p3 ⊢
    rw [if_pos ⟨p1, p2⟩, Int.toNat_natCast, Int.emod_eq_of_lt (a := rd b (q : Int) - 1) (by omega) (by omega)]
    rw [if_pos (by omega), if_pos (by omega), if_pos (by omega), w64 (x := (q : Int)) (by omega) (by omega), num_size, if_pos (by omega), if_pos (by omega), if_pos (by omega), hbt, Int.emod_eq_of_lt (a := rd b (q : Int) - 48) (by omega) (by omega)]
    obtain ⟨k, rfl⟩ : ∃ k', k = k' + 1 := ⟨k - 1, by omega⟩
    rw [l1Num_dig k _ (by omega) (by omega), Option.bind_some, Int.toNat_natCast, show ((q : Int) + 1).toNat = q + 1 from by omega]
    have hs := set_cut (strOfNums b) q (by rw [num_size]; exact hq) (rd b (q : Int) - 1)
    rw [num_size, ints_num b hd] at hs
    rw [show 48 + (rd b (q : Int) - 48 - 1) = rd b (q : Int) - 1 from by omega]
    rw [if_pos (by rw [num_size, ByteArray.size_extract, num_size]; simp; omega), if_pos (by omega), if_pos (by omega), if_pos (by rw [ByteArray.size_append, num_size, ByteArray.size_extract, ByteArray.size_extract, num_size]; simp; omega), hs]
    rw [show wrap64 ((i : Int) + 1) = ((i + 1 : Nat) : Int) from by unfold wrap64; omega]
    have hd2 : ∀ c ∈ b.set q (rd b (q : Int) - 1), isDig c = true := fun c hc => by
      rcases List.mem_or_eq_of_mem_set hc with h | h
      · exact hd c h
      · rw [h]; simp [isDig]; omega
    obtain ⟨b', g1, g2, g3, g4⟩ := ih (k + 1) (i + 1) (b.set q (rd b (q : Int) - 1)) (by omega) (by omega) (by omega) (by rw [List.length_set]; exact hb) hd2 (fun j h1 h2 => by
      obtain ⟨r1, r2, r3⟩ := hp j (by omega) h2
      have h4 := hlt j h1 h2
      refine ⟨r1, by rw [List.length_set]; exact r2, ?_⟩
      obtain ⟨z, hz⟩ : ∃ z : Nat, rd m (j : Int) - 1 = (z : Int) := ⟨(rd m (j : Int) - 1).toNat, by omega⟩
      rw [hz] at r3 ⊢
      rw [rd_set b q z _ (by omega)]
      exact r3) (fun j j' h1 h2 h3 => hr j j' (by omega) h2 h3)
    exact ⟨b', g1, by rw [g2, List.length_set], g3, g4⟩
theorem rising_lt {l : List Int} {lo hi : Int} (h : ∀ j, j < l.length → rise l lo hi j) : ∀ d i : Nat, i + d + 1 < l.length → rd l (i : Int) < rd l ((i + d + 1 : Nat) : Int) := by
  intro d
  induction d with
  | zero =>
    intro i hi
    exact (h (i + 1) (by omega)).2 (by omega)
  | succ d ih =>
    intro i hi
    have h1 := ih i (by omega)
    have h2 := (h (i + (d + 1) + 1) hi).2 (by omega)
    rw [show i + (d + 1) + 1 - 1 = i + d + 1 from by omega] at h2
    omega
theorem mid_length (l : List Int) (h : 2 ≤ l.length) : (midOf l).length = l.length - 2 := by
  unfold midOf
  rw [List.length_drop, List.length_take]
  omega
theorem mid_rd (l : List Int) (j : Nat) (h : j + 2 < l.length) : rd (midOf l) (j : Int) = rd l ((j + 1 : Nat) : Int) := by
  unfold midOf
  simp only [rd, List.getD_eq_getElem?_getD, Int.toNat_natCast, List.getElem?_drop]
  rw [List.getElem?_take_of_lt (by omega), Nat.add_comm]
theorem behind_both (s : ByteArray) (hg : good s = true) (leap : Int) (l : List Int) (hl : l.length ≤ 1048576) (hc : Crossing s leap l) (k : Nat) (hk : l.length + 20 < k) : ∃ s', spec_siBehind.f k s l = some s' ∧ impl_behind.f s l = some s' ∧ good s' = true := by
  have hz := good_size hg
  obtain ⟨⟨h2, h0, he⟩, hri, hne⟩ := (cross_iff s (by omega) leap l).1 hc
  have ml := mid_length l h2
  have hdig : ∀ c ∈ intsOf s, isDig c = true := by
    unfold good at hg
    simp only [Bool.and_eq_true, List.all_eq_true] at hg
    exact hg.2
  obtain ⟨b', g1, g2, g3, g4⟩ := beh_loop (midOf l) (by omega) (midOf l).length k 0 (intsOf s) (by omega) (by omega) (by omega) (by rw [intsOf_length]; omega) hdig (fun j _ hj => by
    rw [mid_rd l j (by omega), intsOf_length]
    have a := rising_lt hri j 0 (by omega)
    rw [show 0 + j + 1 = j + 1 from by omega, show ((0 : Nat) : Int) = 0 from rfl, h0] at a
    have b := rising_lt hri (l.length - 1 - (j + 1) - 1) (j + 1) (by omega)
    rw [show j + 1 + (l.length - 1 - (j + 1) - 1) + 1 = l.length - 1 from by omega, he] at b
    refine ⟨by omega, by omega, ?_⟩
    have c := (hne j (by omega)).2 b
    obtain ⟨z, hz2⟩ : ∃ z : Nat, rd l ((j + 1 : Nat) : Int) - 1 = (z : Int) := ⟨(rd l ((j + 1 : Nat) : Int) - 1).toNat, by omega⟩
    rw [hz2] at c ⊢
    have d := good_dig hg z (by omega)
    have e : bt s (z : Int) = rd (intsOf s) (z : Int) := by
      have h1 := bt_ints s z (by omega)
      simp only [rd, List.getD_eq_getElem?_getD, Int.toNat_natCast, h1]
      rfl
    rw [← e]
    omega) (fun j j' _ h1 h2' => by
    rw [mid_rd l j (by omega), mid_rd l j' (by omega)]
    have a := rising_lt hri (j' - j - 1) (j + 1) (by omega)
    rw [show j + 1 + (j' - j - 1) + 1 = j' + 1 from by omega] at a
    exact a)
  rw [List.drop_zero] at g1
  rw [num_ints] at g4
  refine ⟨strOfNums b', ?_, ?_, good_num b' g3 (by rw [g2, intsOf_length]; omega) (by rw [g2, intsOf_length]; omega)⟩
  · unfold spec_siBehind.f
    have e1 : wrap64 ((l.length : Int) - 1) = (l.length : Int) - 1 := w64 (by omega) (by omega)
    rw [e1, if_pos (by omega), if_pos (by omega)]
    exact g4
  · unfold impl_behind.f
    rw [if_pos ⟨by omega, h2⟩, g1]
    rfl
end Go.Proofs.YtbiophfljphgfaaDoor.K
