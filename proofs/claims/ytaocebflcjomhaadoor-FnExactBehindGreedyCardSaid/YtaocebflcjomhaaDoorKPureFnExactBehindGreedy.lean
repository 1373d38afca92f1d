/- The plain law of FnExactBehindGreedy; no conditions. -/
import Derived.Test.YtaocebflcjomhaaDoorKx12
import Derived.Test.YtaocebflcjomhaaDoorKWalked
import Derived.Test.YtaocebflcjomhaaDoorKNarrow
import Derived.Test.YtaocebflcjomhaaDoorKNum
import Derived.Test.YtaocebflcjomhaaDoorKDigs
import Derived.Test.YtaocebflcjomhaaDoorKx11
set_option linter.unusedVariables false
set_option linter.unusedSimpArgs false
namespace Go.Proofs.YtaocebflcjomhaaDoor.K
open Go.RowKit Go.Proofs.YtaocebflcjomhaaDoorW.PrintWords Go.Proofs.YtaocebflcjomhaaDoorW.PrintLast Go.Proofs.YtaocebflcjomhaaDoorW.PrintMore
theorem set_cut (s : ByteArray) (i : Nat) (h : i < s.size) (c : Int) : (s.extract 0 i ++ strOfNums [c]) ++ s.extract (i + 1) s.size = strOfNums ((intsOf s).set i c) := by
  have h1 : i < (intsOf s).length := by rw [intsOf_length]; exact h
  rw [← num_ints (s.extract 0 i), ← num_ints (s.extract (i + 1) s.size), ints_extract, ints_extract, ← num_append, ← num_append, List.set_eq_take_append_cons_drop, if_pos h1]
  congr 1
  rw [List.drop_zero, Nat.sub_zero, List.take_of_length_le (l := (intsOf s).drop (i + 1)) (by rw [List.length_drop, intsOf_length]; omega), List.append_assoc]
  rfl
theorem rd_mem (b : List Int) (j : Nat) (h : j < b.length) : rd b (j : Int) ∈ b := by
  have e : rd b (j : Int) = b[j] := by simp [rd, List.getD_eq_getElem?_getD, List.getElem?_eq_getElem h]
  rw [e]
  exact List.getElem_mem h
theorem bt_num (b : List Int) (h : ∀ c ∈ b, isDig c = true) (j : Nat) (hj : j < b.length) : bt (strOfNums b) (j : Int) = rd b (j : Int) := by
  have h1 := bt_ints (strOfNums b) j (by rw [num_size]; exact hj)
  rw [ints_num b h, List.getElem?_eq_getElem hj] at h1
  have e : rd b (j : Int) = b[j] := by simp [rd, List.getD_eq_getElem?_getD, List.getElem?_eq_getElem hj]
  rw [e]
  exact (Option.some.inj h1).symm
theorem rd_set (b : List Int) (i j : Nat) (v : Int) (h : i ≠ j) : rd (b.set i v) (j : Int) = rd b (j : Int) := by
  simp only [rd, List.getD_eq_getElem?_getD, Int.toNat_natCast]
  rw [List.getElem?_set_ne h]
theorem beh_loop (m : List Int) (hm : m.length ≤ 1048576) : ∀ (n k i : Nat) (b : List Int), n = m.length - i → i ≤ m.length → n + 5 < k → b.length ≤ 20 → (∀ c ∈ b, isDig c = true) →
    (∀ j : Nat, i ≤ j → j < m.length → 1 ≤ rd m (j : Int) ∧ rd m (j : Int) ≤ (b.length : Int) ∧ 49 ≤ rd b (rd m (j : Int) - 1)) → (∀ j j' : Nat, i ≤ j → j < j' → j' < m.length → rd m (j : Int) < rd m (j' : Int)) →
    ∃ b', behindL (m.drop i) b = some b' ∧ b'.length = b.length ∧ (∀ c ∈ b', isDig c = true) ∧ digs b' = digs b - (n : Int) ∧ spec_siBehind.l0 k (strOfNums b) m (m.length : Int) (i : Int) = some (strOfNums b') := by
  intro n
  induction n with
  | zero =>
    intro k i b hn hi hk hb hd hp hr
    obtain ⟨k, rfl⟩ : ∃ k', k = k' + 1 := ⟨k - 1, by omega⟩
    simp only [spec_siBehind.l0]
    rw [List.drop_of_length_le (by omega), if_neg (by omega)]
    exact ⟨b, rfl, rfl, hd, by simp, rfl⟩
  | succ n ih =>
    intro k i b hn hi hk hb hd hp hr
    obtain ⟨k, rfl⟩ : ∃ k', k = k' + 1 := ⟨k - 1, by omega⟩
    simp only [spec_siBehind.l0]
    obtain ⟨p1, p2, p3⟩ := hp i (Nat.le_refl _) (by omega)
    rw [rd_cons_dropL m i (by omega)]
    simp only [behindL]
    have hlt : ∀ j : Nat, i + 1 ≤ j → j < m.length → rd m (i : Int) < rd m (j : Int) := fun j h1 h2 => hr i j (Nat.le_refl _) (by omega) h2
    generalize rd m (i : Int) = p at p1 p2 p3 hlt ⊢
    obtain ⟨q, rfl⟩ : ∃ q : Nat, p = (q : Int) + 1 := ⟨(p - 1).toNat, by omega⟩
    have hq : q < b.length := by omega
    have e1 : (q : Int) + 1 - 1 = (q : Int) := by omega
    have hbt := bt_num b hd q hq
    have hdd := dig_use (hd _ (rd_mem b q hq))
    rw [e1] at p3 ⊢
    rw [if_pos ⟨p1, p2⟩, Int.toNat_natCast, Int.emod_eq_of_lt (a := rd b (q : Int) - 1) (by omega) (by omega)]
    rw [if_pos (by omega), if_pos (by omega), if_pos (by omega), w64 (x := (q : Int)) (by omega) (by omega), num_size, if_pos (by omega), if_pos (by omega), if_pos (by omega), hbt, Int.emod_eq_of_lt (a := rd b (q : Int) - 48) (by omega) (by omega)]
    obtain ⟨k, rfl⟩ : ∃ k', k = k' + 1 := ⟨k - 1, by omega⟩
    rw [l1Num_dig k _ (by omega) (by omega), Option.bind_some, Int.toNat_natCast, show ((q : Int) + 1).toNat = q + 1 from by omega]
    have hs := set_cut (strOfNums b) q (by rw [num_size]; exact hq) (rd b (q : Int) - 1)
    rw [num_size, ints_num b hd] at hs
    rw [show 48 + (rd b (q : Int) - 48 - 1) = rd b (q : Int) - 1 from by omega]
    rw [if_pos (by rw [num_size, ByteArray.size_extract, num_size]; simp; omega), if_pos (by omega), if_pos (by omega), if_pos (by rw [ByteArray.size_append, num_size, ByteArray.size_extract, ByteArray.size_extract, num_size]; simp; omega), hs]
    rw [show wrap64 ((i : Int) + 1) = ((i + 1 : Nat) : Int) from by unfold wrap64; omega]
    have hd2 : ∀ c ∈ b.set q (rd b (q : Int) - 1), isDig c = true := fun c hc => by
      rcases List.mem_or_eq_of_mem_set hc with h | h
      · exact hd c h
      · rw [h]; simp [isDig]; omega
    obtain ⟨b', g1, g2, g3, gd, g4⟩ := ih (k + 1) (i + 1) (b.set q (rd b (q : Int) - 1)) (by omega) (by omega) (by omega) (by rw [List.length_set]; exact hb) hd2 (fun j h1 h2 => by
      obtain ⟨r1, r2, r3⟩ := hp j (by omega) h2
      have h4 := hlt j h1 h2
      refine ⟨r1, by rw [List.length_set]; exact r2, ?_⟩
      obtain ⟨z, hz⟩ : ∃ z : Nat, rd m (j : Int) - 1 = (z : Int) := ⟨(rd m (j : Int) - 1).toNat, by omega⟩
      rw [hz] at r3 ⊢
      rw [rd_set b q z _ (by omega)]
      exact r3) (fun j j' h1 h2 h3 => hr j j' (by omega) h2 h3)
    have hds := digs_set b q (rd b (q : Int) - 1) hq
    rw [Int.emod_eq_of_lt (a := rd b (q : Int) - 48) (by omega) (by omega), Int.emod_eq_of_lt (a := rd b (q : Int) - 1 - 48) (by omega) (by omega)] at hds
    exact ⟨b', g1, by rw [g2, List.length_set], g3, by rw [gd, hds]; omega, g4⟩
theorem rest_end (t : ByteArray) (L : Nat) : ∀ r, Rest t L (t.size + 1) r → r = []
  | [], _ => rfl
  | q :: r, h => by
    have := h.1
    omega
theorem rest_split (t : ByteArray) (L : Nat) : ∀ (r : List Nat) (now : Nat), Rest t L now r → now ≠ t.size + 1 → ∃ mid, r = mid ++ [t.size + 1] ∧ (∀ q ∈ mid, now < q ∧ q ≤ t.size ∧ isSt t q = true) ∧ mid.Pairwise (· < ·)
  | [], now, h, hn => absurd h hn
  | q :: r, now, h, hn => by
    obtain ⟨⟨h1, h2, h3, h4⟩, h5⟩ := h
    by_cases c : q = t.size + 1
    · subst c
      have := rest_end t L r h5
      subst this
      exact ⟨[], rfl, fun q hq => by simp at hq, List.Pairwise.nil⟩
    · obtain ⟨mid, m1, m2, m3⟩ := rest_split t L r q h5 c
      refine ⟨q :: mid, by rw [m1]; rfl, fun x hx => ?_, List.pairwise_cons.2 ⟨fun x hx => (m2 x hx).1, m3⟩⟩
      rcases List.mem_cons.1 hx with rfl | hx
      · exact ⟨h1, by omega, h4⟩
      · have := m2 x hx
        exact ⟨by omega, this.2.1, this.2.2⟩
theorem rd_cast (l : List Nat) (j : Nat) (h : j < l.length) : rd (l.map (fun x : Nat => (x : Int))) (j : Int) = (l[j] : Int) := by
  simp [rd, List.getD_eq_getElem?_getD, List.getElem?_eq_getElem h]
theorem behind_way (s : ByteArray) (hg : good s = true) (L : Nat) (hL : L ≤ s.size) (r : List Nat) (hr : Rest (riverOf s) L 0 r) : ∃ s', (∀ k, 100 ≤ k → spec_siBehind.f k s (0 :: r.map (fun x : Nat => (x : Int))) = some s') ∧ impl_behind.f s (0 :: r.map (fun x : Nat => (x : Int))) = some s' ∧ good s' = true ∧ s'.size = s.size ∧ digs (intsOf s') < digs (intsOf s) := by
  have hz := good_size hg
  have ht := river_size s
  obtain ⟨mid, m1, m2, m3⟩ := rest_split _ L r 0 hr (by omega)
  have hmn : mid ≠ [] := by
    intro e
    subst e
    subst m1
    have := hr.1
    omega
  have hml : mid.length ≤ s.size := by
    have hnd : ∀ (l : List Nat) (a b : Nat), (∀ q ∈ l, a < q ∧ q ≤ b) → l.Pairwise (· < ·) → l.length + a ≤ b ∨ l = [] := by
      intro l
      induction l with
      | nil => intro a b _ _; exact Or.inr rfl
      | cons x l ih =>
        intro a b h hp
        obtain ⟨p1, p2⟩ := List.pairwise_cons.1 hp
        have hx := h x (List.mem_cons_self ..)
        rcases ih x b (fun q hq => ⟨p1 q hq, (h q (List.mem_cons_of_mem _ hq)).2⟩) p2 with e | e
        · left; rw [List.length_cons]; omega
        · subst e; left; simp; omega
    rcases hnd mid 0 s.size (fun q hq => ⟨(m2 q hq).1, by have := (m2 q hq).2.1; omega⟩) m3 with e | e
    · omega
    · exact absurd e hmn
  have hpos : 1 ≤ mid.length := by
    cases mid with
    | nil => exact absurd rfl hmn
    | cons _ _ => simp
  have hmid : midOf (0 :: r.map (fun x : Nat => (x : Int))) = mid.map (fun x : Nat => (x : Int)) := by
    rw [m1]
    unfold midOf
    simp
  have hlen : (0 :: r.map (fun x : Nat => (x : Int))).length = mid.length + 2 := by rw [m1]; simp
  obtain ⟨b', g1, g2, g3, gd, g4⟩ : ∃ b', behindL ((mid.map (fun x : Nat => (x : Int))).drop 0) (intsOf s) = some b' ∧ b'.length = (intsOf s).length ∧ (∀ c ∈ b', isDig c = true) ∧ digs b' = digs (intsOf s) - (mid.length : Int) ∧ ∀ k, 100 ≤ k → spec_siBehind.l0 k (strOfNums (intsOf s)) (mid.map (fun x : Nat => (x : Int))) ((mid.map (fun x : Nat => (x : Int))).length : Int) ((0 : Nat) : Int) = some (strOfNums b') := by
    have hk : ∀ k, 100 ≤ k → _ := fun k (hk : 100 ≤ k) => beh_loop (mid.map (fun x : Nat => (x : Int))) (by rw [List.length_map]; omega) mid.length k 0 (intsOf s) (by rw [List.length_map]; omega) (by omega) (by omega) (by rw [intsOf_length]; omega) (good_all hg) (fun j _ hj => by
      rw [List.length_map] at hj
      rw [rd_cast mid j hj, intsOf_length]
      obtain ⟨q1, q2, q3⟩ := m2 _ (List.getElem_mem hj)
      generalize mid[j] = q at q1 q2 q3
      refine ⟨by omega, by omega, ?_⟩
      unfold isSt at q3
      rw [show (q == 0) = false from by simp; omega, show (q == (riverOf s).size + 1) = false from by simp; omega, Bool.false_or, Bool.false_or, beq_iff_eq, show (q : Int) - 1 = ((q - 1 : Nat) : Int) from by omega] at q3
      have c := (river_stone s (q - 1) (by omega)).1 q3
      have d := good_dig hg (q - 1) (by omega)
      have e : bt s ((q - 1 : Nat) : Int) = rd (intsOf s) ((q - 1 : Nat) : Int) := by
        have h1 := bt_ints s (q - 1) (by omega)
        simp only [rd, List.getD_eq_getElem?_getD, Int.toNat_natCast, h1]
        rfl
      rw [show (q : Int) - 1 = ((q - 1 : Nat) : Int) from by omega, ← e]
      omega) (fun j j' _ h1 h2 => by
      rw [List.length_map] at h2
      rw [rd_cast mid j (by omega), rd_cast mid j' h2]
      have := List.pairwise_iff_getElem.1 m3 j j' (by omega) h2 h1
      omega)
    obtain ⟨b', g1, g2, g3, gd, _⟩ := hk 100 (by omega)
    refine ⟨b', g1, g2, g3, gd, fun k h => ?_⟩
    obtain ⟨b2, f1, _, _, _, f5⟩ := hk k h
    rw [g1] at f1
    rw [Option.some.inj f1]
    exact f5
  rw [List.drop_zero] at g1
  rw [num_ints] at g4
  refine ⟨strOfNums b', fun k hk => ?_, ?_, good_num b' g3 (by rw [g2, intsOf_length]; omega) (by rw [g2, intsOf_length]; omega), by rw [num_size, g2, intsOf_length], by rw [ints_num b' g3, gd]; omega⟩
  · unfold spec_siBehind.f
    have e1 : wrap64 (((0 :: r.map (fun x : Nat => (x : Int))).length : Int) - 1) = ((0 :: r.map (fun x : Nat => (x : Int))).length : Int) - 1 := w64 (by omega) (by omega)
    rw [e1, if_pos (by omega), if_pos (by omega)]
    have h4 := g4 k hk
    rw [← hmid] at h4
    exact h4
  · unfold impl_behind.f
    rw [if_pos ⟨by omega, by omega⟩, hmid, g1]
    rfl
theorem greedy_loop (L : Nat) (h1 : 1 ≤ L) (h2 : L ≤ 21) : ∀ (m k : Nat) (s : ByteArray) (h : Int), good s = true → L ≤ s.size → digs (intsOf s) ≤ (m : Int) → m + 4000 < k → 0 ≤ h → h ≤ 1000000 - (m : Int) → ∃ v, spec_BehindGreedy.l0 k s (L : Int) h = some v ∧ impl_BehindGreedy.l0 k s (L : Int) h = some v := by
  intro m
  induction m with
  | zero =>
    intro k s h hg hL hd hk h3 h4
    have hz := good_size hg
    obtain ⟨k, rfl⟩ : ∃ k', k = k' + 1 := ⟨k - 1, by omega⟩
    obtain ⟨v, v1, v2, v3⟩ := first_eq s hg L h1 h2
    obtain ⟨e1, e2⟩ := v2 k (by omega)
    simp only [spec_BehindGreedy.l0, impl_BehindGreedy.l0]
    rw [e1, Option.bind_some, plain_river s (by omega), Option.bind_some, e2, Option.bind_some]
    cases hv : v.2 with
    | false =>
      rw [if_neg (by decide), if_neg (by decide)]
      exact ⟨_, rfl, rfl⟩
    | true =>
      obtain ⟨r, r1, r2⟩ := v3 hv
      obtain ⟨s', b1, b2, b3, b4, b5⟩ := behind_way s hg L hL r r1
      have := digs_nonneg (intsOf s')
      omega
  | succ m ih =>
    intro k s h hg hL hd hk h3 h4
    have hz := good_size hg
    obtain ⟨k, rfl⟩ : ∃ k', k = k' + 1 := ⟨k - 1, by omega⟩
    obtain ⟨v, v1, v2, v3⟩ := first_eq s hg L h1 h2
    obtain ⟨e1, e2⟩ := v2 k (by omega)
    simp only [spec_BehindGreedy.l0, impl_BehindGreedy.l0]
    rw [e1, Option.bind_some, plain_river s (by omega), Option.bind_some, e2, Option.bind_some]
    cases hv : v.2 with
    | false =>
      rw [if_neg (by decide), if_neg (by decide)]
      exact ⟨_, rfl, rfl⟩
    | true =>
      obtain ⟨r, r1, r2⟩ := v3 hv
      obtain ⟨s', b1, b2, b3, b4, b5⟩ := behind_way s hg L hL r r1
      rw [if_pos rfl, if_pos rfl, r2, b1 k (by omega), b2, Option.bind_some, Option.bind_some, w64 (x := h + 1) (by omega) (by omega)]
      exact ih k s' (h + 1) b3 (by omega) (by omega) (by omega) (by omega) (by omega)
theorem FnExactBehindGreedy_pure (a0 : ByteArray) (a1 : Int) (w0 : a0.size ≤ 140737488351232) (w1 : (Lit.int .i64 a1).wf = true) : ∃ k, laws_FnExactBehindGreedy.f k a0 a1 = some true := by
  refine ⟨5000, ?_⟩
  unfold laws_FnExactBehindGreedy.f
  by_cases h : (a0.size : Int) > 1048576
  · rw [if_pos h]
  · rw [if_neg h]
    have hv : ∃ v, spec_BehindGreedy.f 5000 a0 a1 = some v ∧ impl_BehindGreedy.f 5000 a0 a1 = some v := by
      unfold spec_BehindGreedy.f impl_BehindGreedy.f
      rw [siShort_eq a0 a1 5000 (by decide), isShort_eq a0 a1, Option.bind_some, Option.bind_some]
      cases hs : short a0 a1 with
      | false =>
        rw [if_neg (by decide), if_neg (by decide)]
        exact ⟨_, rfl, rfl⟩
      | true =>
        rw [if_pos rfl, if_pos rfl]
        obtain ⟨hg, ha, hL, hz⟩ := short_use hs
        obtain ⟨L, rfl⟩ : ∃ L : Nat, a1 = (L : Int) := ⟨a1.toNat, by omega⟩
        have hd := digs_le _ (good_all hg)
        rw [intsOf_length] at hd
        exact greedy_loop L (by omega) (by omega) 180 5000 a0 0 hg (by omega) (by omega) (by omega) (by omega) (by omega)
    obtain ⟨v, h1, h2⟩ := hv
    rw [h1, h2, Option.bind_some, Option.bind_some, if_pos rfl, if_pos rfl]
    simp
end Go.Proofs.YtaocebflcjomhaaDoor.K
