/- What the program's and the reference's grouping of islands come to: one and the same list of labels, and their count; for isles that are good. -/
import Derived.Test.YtkikaakfdggklaaQx20
import Derived.Test.YtkikaakfdggklaaQLabels
import Derived.Test.YtkikaakfdggklaaQMathGroups
import Derived.Test.YtkikaakfdggklaaQx19
import Derived.Test.YtkikaakfdggklaaQx17
import Derived.Test.YtkikaakfdggklaaQx14
set_option linter.unusedVariables false
set_option linter.unusedSimpArgs false
namespace Go.Proofs.Ytkikaakfdggklaa.Q
open Go.RowKit Go.Proofs.YtkikaakfdggklaaW.PrintWords Go.Proofs.YtkikaakfdggklaaW.PrintLast Go.Proofs.YtkikaakfdggklaaW.PrintMore
open Go.Proofs.Ytkikaakfdggklaa.MathGroups
def ed (b : BR) : Duo := (b.f0.toNat, b.f1.toNat)
/-! #### the program's -/
theorem relax_labels (N : Nat) (f : Nat → Nat) (b : BR) (h : inN N b) : ((labels N f).set b.f0.toNat (mn (rd (labels N f) b.f0) (rd (labels N f) b.f1))).set b.f1.toNat (mn (rd (labels N f) b.f0) (rd (labels N f) b.f1)) = labels N (relax f (ed b)) := by
  obtain ⟨h0, h1, h2, h3⟩ := h
  rw [labels_rd' N f _ h0 h1, labels_rd' N f _ h2 h3]
  have hm : mn (f b.f0.toNat : Int) (f b.f1.toNat : Int) = ((min (f b.f0.toNat) (f b.f1.toNat) : Nat) : Int) := by
    unfold mn
    split <;> omega
  rw [hm]
  apply List.ext_getElem
  · simp [labels]
  · intro i hi1 hi2
    simp only [List.length_set, labels_length] at hi1
    rw [labels_get N _ i hi1, List.getElem_set, List.getElem_set, labels_get N f i hi1]
    unfold relax ed
    dsimp only
    by_cases e1 : b.f1.toNat = i
    · rw [if_pos e1, if_pos (.inr e1.symm)]
    · rw [if_neg e1]
      by_cases e0 : b.f0.toNat = i
      · rw [if_pos e0, if_pos (.inl e0.symm)]
      · rw [if_neg e0, if_neg (by omega)]
theorem groups_l2 (N : Nat) (bs : List BR) (hb : ∀ b ∈ bs, inN N b) (hL : bs.length ≤ 1048576) (r : Nat) (hr : r < 1048576) : ∀ (d k j : Nat) (f : Nat → Nat), j + d = bs.length →
    impl_groups.l2 (k + (d + 1)) bs (labels N f) (bs.length : Int) (r : Int) bs (bs.length : Int) (j : Int) = impl_groups.l1 k bs (labels N (((bs.drop j).map ed).foldl relax f)) (bs.length : Int) ((r + 1 : Nat) : Int) := by
  intro d
  induction d with
  | zero =>
    intro k j f hj
    rw [impl_groups.l2]
    rw [if_neg (by omega), List.drop_eq_nil_of_le (by omega), w64 (by omega) (by omega)]
    rfl
  | succ d ih =>
    intro k j f hj
    have hlt : j < bs.length := by omega
    rw [show k + (d + 1 + 1) = (k + (d + 1)) + 1 from by omega]
    rw [impl_groups.l2]
    have hin := hb bs[j] (List.getElem_mem hlt)
    obtain ⟨h0, h1, h2, h3⟩ := hin
    rw [if_pos (by omega), if_pos (by omega), if_pos (by omega), rdB bs j hlt, labels_length, if_pos h0, if_pos h1, if_pos h2, if_pos h3, relax_labels N f _ ⟨h0, h1, h2, h3⟩, w64s hlt (by omega), ih k (j + 1) _ (by omega), List.drop_eq_getElem_cons hlt]
    rfl
theorem groups_l1 (N : Nat) (bs : List BR) (hb : ∀ b ∈ bs, inN N b) (hL : bs.length ≤ 1048576) : ∀ (d k r : Nat) (f : Nat → Nat), r + d = bs.length →
    impl_groups.l1 (k + (d * (bs.length + 2) + 1)) bs (labels N f) (bs.length : Int) (r : Int) = some (labels N (rounds (bs.map ed) d f)) := by
  intro d
  induction d with
  | zero =>
    intro k r f hr
    rw [show k + (0 * (bs.length + 2) + 1) = k + 1 from by omega]
    rw [impl_groups.l1]
    rw [if_neg (by omega)]
    rfl
  | succ d ih =>
    intro k r f hr
    have e : k + ((d + 1) * (bs.length + 2) + 1) = ((k + (d * (bs.length + 2) + 1)) + (bs.length + 1)) + 1 := by
      rw [Nat.succ_mul]; omega
    rw [e]
    rw [impl_groups.l1]
    have h2 := groups_l2 N bs hb hL r (by omega) bs.length (k + (d * (bs.length + 2) + 1)) 0 f (by omega)
    rw [show ((0 : Nat) : Int) = 0 from rfl] at h2
    rw [if_pos (by omega), h2, ih k (r + 1) _ (by omega)]
    rfl
theorem groups_l0 (N : Nat) (hN : N ≤ 1048576) (bs : List BR) : ∀ (d k i : Nat), i + d = N →
    impl_groups.l0 (k + (d + 1)) bs (labels i id) (N : Int) (i : Int) = impl_groups.l1 k bs (labels N id) (bs.length : Int) 0 := by
  intro d
  induction d with
  | zero =>
    intro k i hi
    obtain rfl : i = N := by omega
    rw [impl_groups.l0]
    rw [if_neg (by omega)]
  | succ d ih =>
    intro k i hi
    rw [show k + (d + 1 + 1) = (k + (d + 1)) + 1 from by omega]
    rw [impl_groups.l0]
    rw [if_pos (by omega), labels_length, if_pos (by omega), w64 (by omega) (by omega)]
    have e : labels i id ++ [(i : Int)] = labels (i + 1) id := (labels_succ i id).symm
    rw [e, show (i : Int) + 1 = ((i + 1 : Nat) : Int) from by omega, ih k (i + 1) (by omega)]
/-- The program's groups. -/
theorem groups_ev (N : Nat) (hN : N ≤ 1048576) (bs : List BR) (hb : ∀ b ∈ bs, inN N b) (hL : bs.length ≤ 1048576) : ∃ K, ∀ k, K ≤ k → impl_groups.f k (N : Int) bs = some (labels N (merged (bs.map ed))) := by
  refine ⟨(bs.length * (bs.length + 2) + 1) + (N + 1), fun k hk => ?_⟩
  obtain ⟨m, rfl⟩ : ∃ m, k = (m + (bs.length * (bs.length + 2) + 1)) + (N + 1) := ⟨k - ((bs.length * (bs.length + 2) + 1) + (N + 1)), by omega⟩
  unfold impl_groups.f
  have h0 := groups_l0 N hN bs N (m + (bs.length * (bs.length + 2) + 1)) 0 (by omega)
  have h1 := groups_l1 N bs hb hL bs.length m 0 id (by omega)
  rw [show ((0 : Nat) : Int) = 0 from rfl] at h0 h1
  have e : labels 0 id = [] := rfl
  rw [e] at h0
  rw [h0, h1]
  congr 1
  apply labels_congr
  intro i _
  have := rounds_eq (bs.map ed) i
  rw [List.length_map] at this
  exact this

/-! #### the reference's -/
def rep (lo hi : Int) (x : Int) : Int := if x = hi then lo else x
theorem isGroups_l2 (wo : Int) (bs : List BR) (lo hi : Int) (i : Nat) (hi' : i < 1048576) (o : List Int) (ho : o.length ≤ 1048576) : ∀ (d k j : Nat), j + d = o.length →
    spec_isGroups.l2 (k + (d + 1)) wo ((o.take j).map (rep lo hi) ++ o.drop j) lo hi bs (bs.length : Int) (i : Int) (o.length : Int) (j : Int) = spec_isGroups.l1 k wo (o.map (rep lo hi)) bs (bs.length : Int) ((i + 1 : Nat) : Int) := by
  intro d
  induction d with
  | zero =>
    intro k j hj
    rw [spec_isGroups.l2]
    rw [if_neg (by omega), List.take_of_length_le (by omega), List.drop_eq_nil_of_le (by omega), List.append_nil, w64 (by omega) (by omega)]
    rfl
  | succ d ih =>
    intro k j hj
    have hlt : j < o.length := by omega
    have hlen : ((o.take j).map (rep lo hi) ++ o.drop j).length = o.length := by simp; omega
    have hget : ((o.take j).map (rep lo hi) ++ o.drop j)[j]'(by rw [hlen]; exact hlt) = o[j] := by
      rw [List.getElem_append_right (by simp; omega)]
      simp [Nat.min_eq_left (Nat.le_of_lt hlt)]
    have hnext : (o.take (j + 1)).map (rep lo hi) ++ o.drop (j + 1) = ((o.take j).map (rep lo hi) ++ o.drop j).set j (rep lo hi o[j]) := by
      rw [List.take_succ_eq_append_getElem hlt, List.map_append, List.drop_eq_getElem_cons hlt, List.set_append_right _ _ (by simp; omega)]
      simp only [List.length_map, List.length_take, Nat.min_eq_left (Nat.le_of_lt hlt), Nat.sub_self, List.set_cons_zero, List.map_cons, List.map_nil, List.append_assoc, List.cons_append, List.nil_append]
    rw [show k + (d + 1 + 1) = (k + (d + 1)) + 1 from by omega]
    rw [spec_isGroups.l2]
    rw [if_pos (by omega), if_pos (by omega), if_pos (by rw [hlen]; omega), rdI _ j (by rw [hlen]; exact hlt), hget, w64s hlt (by omega)]
    have h := ih k (j + 1) (by omega)
    rw [hnext] at h
    by_cases e : o[j] = hi
    · rw [if_pos e, Int.toNat_natCast]
      rw [show rep lo hi o[j] = lo from if_pos e] at h
      exact h
    · rw [if_neg e]
      rw [show rep lo hi o[j] = o[j] from if_neg e] at h
      have hs : ((o.take j).map (rep lo hi) ++ o.drop j).set j o[j] = (o.take j).map (rep lo hi) ++ o.drop j := by
        apply List.ext_getElem
        · simp
        · intro q h1 h2
          rw [List.getElem_set]
          split
          · rename_i eq
            subst eq
            exact hget.symm
          · rfl
      rw [hs] at h
      exact h
theorem merge_labels (N : Nat) (f : Nat → Nat) (b : BR) : (labels N f).map (rep ((min (f b.f0.toNat) (f b.f1.toNat) : Nat) : Int) ((max (f b.f0.toNat) (f b.f1.toNat) : Nat) : Int)) = labels N (merge f (ed b)) := by
  unfold labels
  rw [List.map_map]
  apply List.map_congr_left
  intro i _
  unfold rep merge ed
  dsimp only [Function.comp]
  by_cases e : f i = max (f b.f0.toNat) (f b.f1.toNat)
  · rw [if_pos e, if_pos (by omega)]
  · rw [if_neg e, if_neg (by omega)]
/-- the bridges that do not touch an island -/
def apart (wo : Int) (b : BR) : Bool := !(b.f0 == wo) && !(b.f1 == wo)
theorem isGroups_l1 (N : Nat) (hN : N ≤ 1048576) (wo : Int) (bs : List BR) (hb : ∀ b ∈ bs, inN N b) (hL : bs.length ≤ 1048576) : ∀ (d k i : Nat) (f : Nat → Nat), i + d = bs.length →
    spec_isGroups.l1 (k + (d * (N + 3) + 1)) wo (labels N f) bs (bs.length : Int) (i : Int) = some (labels N ((((bs.drop i).filter (apart wo)).map ed).foldl merge f)) := by
  intro d
  induction d with
  | zero =>
    intro k i f hi
    rw [show k + (0 * (N + 3) + 1) = k + 1 from by omega]
    rw [spec_isGroups.l1]
    rw [if_neg (by omega), List.drop_eq_nil_of_le (by omega)]
    rfl
  | succ d ih =>
    intro k i f hi
    have hlt : i < bs.length := by omega
    obtain ⟨h0, h1, h2, h3⟩ := hb bs[i] (List.getElem_mem hlt)
    have e : k + ((d + 1) * (N + 3) + 1) = (((k + (d * (N + 3) + 1)) + (N + 1)) + 1) + 1 := by
      rw [Nat.succ_mul]; omega
    rw [e]
    rw [spec_isGroups.l1]
    rw [if_pos (by omega), if_pos (by omega), if_pos (by omega), rdB bs i hlt, List.drop_eq_getElem_cons hlt]
    have skip : spec_isGroups.l1 (((k + (d * (N + 3) + 1)) + (N + 1))) wo (labels N f) bs (bs.length : Int) ((i + 1 : Nat) : Int) = some (labels N ((((bs.drop (i + 1)).filter (apart wo)).map ed).foldl merge f)) := by
      have := ih (k + (N + 1)) (i + 1) f (by omega)
      rw [show k + (d * (N + 3) + 1) + (N + 1) = k + (N + 1) + (d * (N + 3) + 1) from by omega]
      exact this
    by_cases ha : bs[i].f0 = wo
    · rw [if_pos ha]
      rw [spec_isGroups.j2]
      rw [if_pos rfl, w64s hlt (by omega), skip]
      have : apart wo bs[i] = false := by simp [apart, ha]
      rw [List.filter_cons_of_neg (by simp [this])]
    · rw [if_neg ha]
      by_cases hc : bs[i].f1 = wo
      · have : apart wo bs[i] = false := by simp [apart, hc]
        rw [beq_iff_eq.2 hc]
        rw [spec_isGroups.j2]
        rw [if_pos rfl, w64s hlt (by omega), skip]
        rw [List.filter_cons_of_neg (by simp [this])]
      · have : apart wo bs[i] = true := by simp [apart, ha, hc]
        rw [beq_eq_false_iff_ne.2 hc]
        rw [spec_isGroups.j2]
        rw [if_neg (by simp), labels_length, if_pos h0, if_pos h1, if_pos h2, if_pos h3, labels_rd' N f _ h0 h1, labels_rd' N f _ h2 h3, least_eq, most_eq]
        simp only [Option.bind_some]
        have hh := isGroups_l2 wo bs ((min (f bs[i].f0.toNat) (f bs[i].f1.toNat) : Nat) : Int) ((max (f bs[i].f0.toNat) (f bs[i].f1.toNat) : Nat) : Int) i (by omega) (labels N f) (by rw [labels_length]; exact hN) N (k + (d * (N + 3) + 1)) 0 (by rw [labels_length]; omega)
        rw [labels_length, show ((0 : Nat) : Int) = 0 from rfl, List.take_zero, List.drop_zero, List.map_nil, List.nil_append, merge_labels] at hh
        rw [hh, ih k (i + 1) _ (by omega), List.filter_cons_of_pos this]
        rfl
theorem isGroups_l0 (N : Nat) (hN : N ≤ 1048576) (wo : Int) (bs : List BR) : ∀ (d k i : Nat), i + d = N →
    spec_isGroups.l0 (k + (d + 1)) (N : Int) bs wo (labels i id) (i : Int) = spec_isGroups.l1 k wo (labels N id) bs (bs.length : Int) 0 := by
  intro d
  induction d with
  | zero =>
    intro k i hi
    obtain rfl : i = N := by omega
    rw [spec_isGroups.l0]
    rw [if_neg (by omega)]
  | succ d ih =>
    intro k i hi
    rw [show k + (d + 1 + 1) = (k + (d + 1)) + 1 from by omega]
    rw [spec_isGroups.l0]
    rw [if_pos (by omega), labels_length, if_pos (by omega), w64 (by omega) (by omega)]
    have e : labels i id ++ [(i : Int)] = labels (i + 1) id := (labels_succ i id).symm
    rw [e, show (i : Int) + 1 = ((i + 1 : Nat) : Int) from by omega, ih k (i + 1) (by omega)]
/-- The reference's groups, without the bridges that touch an island. -/
theorem isGroups_ev (N : Nat) (hN : N ≤ 1048576) (wo : Int) (bs : List BR) (hb : ∀ b ∈ bs, inN N b) (hL : bs.length ≤ 1048576) : ∃ K, ∀ k, K ≤ k → spec_isGroups.f k (N : Int) bs wo = some (labels N (merged ((bs.filter (apart wo)).map ed))) := by
  refine ⟨(bs.length * (N + 3) + 1) + (N + 1), fun k hk => ?_⟩
  obtain ⟨m, rfl⟩ : ∃ m, k = (m + (bs.length * (N + 3) + 1)) + (N + 1) := ⟨k - ((bs.length * (N + 3) + 1) + (N + 1)), by omega⟩
  unfold spec_isGroups.f
  have h0 := isGroups_l0 N hN wo bs N (m + (bs.length * (N + 3) + 1)) 0 (by omega)
  have h1 := isGroups_l1 N hN wo bs hb hL bs.length m 0 id (by omega)
  rw [show ((0 : Nat) : Int) = 0 from rfl] at h0 h1
  have e : labels 0 id = [] := rfl
  rw [e] at h0
  rw [h0, h1, List.drop_zero]
  rfl
theorem filter_all (bs : List BR) (N : Nat) (hb : ∀ b ∈ bs, inN N b) : bs.filter (apart (-1)) = bs := by
  apply List.filter_eq_self.2
  intro b hm
  obtain ⟨h0, _, h2, _⟩ := hb b hm
  have e0 : ¬ b.f0 = -1 := by omega
  have e1 : ¬ b.f1 = -1 := by omega
  simp [apart, e0, e1]
theorem isGroups_all (N : Nat) (hN : N ≤ 1048576) (bs : List BR) (hb : ∀ b ∈ bs, inN N b) (hL : bs.length ≤ 1048576) : ∃ K, ∀ k, K ≤ k → spec_isGroups.f k (N : Int) bs (-1) = some (labels N (merged (bs.map ed))) := by
  have := isGroups_ev N hN (-1) bs hb hL
  rw [filter_all bs N hb] at this
  exact this

/-! #### how many groups -/
def cnt (p : Nat → Bool) (d i : Nat) : Nat := (List.range' i d).countP p
theorem cnt_zero (p : Nat → Bool) (i : Nat) : cnt p 0 i = 0 := rfl
theorem cnt_succ (p : Nat → Bool) (d i : Nat) : cnt p (d + 1) i = (if p i = true then 1 else 0) + cnt p d (i + 1) := by
  unfold cnt
  rw [List.range'_succ, List.countP_cons]
  omega
theorem cnt_le (p : Nat → Bool) (d i : Nat) : cnt p d i ≤ d := by
  have := List.countP_le_length (p := p) (l := List.range' i d)
  rw [List.length_range'] at this
  exact this
/-- the islands that lead their group, but one -/
def lead (f : Nat → Nat) (wo : Int) (i : Nat) : Bool := decide (f i = i) && !decide ((i : Int) = wo)
theorem isCount_l0 (N : Nat) (hN : N ≤ 1048576) (f : Nat → Nat) (wo : Int) : ∀ (d k i : Nat) (acc : Nat), i + d = N → acc ≤ i →
    spec_isCount.l0 (k + (d + 1)) wo (acc : Int) (labels N f) (N : Int) (i : Int) = some ((acc + cnt (lead f wo) d i : Nat) : Int) := by
  intro d
  induction d with
  | zero =>
    intro k i acc hi ha
    rw [spec_isCount.l0]
    rw [if_neg (by omega), cnt_zero]
    rfl
  | succ d ih =>
    intro k i acc hi ha
    rw [show k + (d + 1 + 1) = (k + (d + 1)) + 1 from by omega]
    rw [spec_isCount.l0]
    rw [if_pos (by omega), if_pos (by omega), labels_length, if_pos (by omega), labels_rd N f i (by omega), w64 (x := (i : Int) + 1) (by omega) (by omega), w64 (x := (acc : Int) + 1) (by omega) (by omega), show (i : Int) + 1 = ((i + 1 : Nat) : Int) from by omega, cnt_succ]
    by_cases h1 : f i = i
    · rw [if_pos (by omega)]
      by_cases h2 : (i : Int) = wo
      · have e : ¬ lead f wo i = true := by simp [lead, h2]
        rw [if_pos h2, if_neg e, ih k (i + 1) acc (by omega) (by omega), Nat.zero_add]
      · have e : lead f wo i = true := by simp [lead, h1, h2]
        rw [if_neg h2, if_pos e, show (acc : Int) + 1 = ((acc + 1 : Nat) : Int) from by omega, ih k (i + 1) (acc + 1) (by omega) (by omega)]
        congr 2
        omega
    · have e : ¬ lead f wo i = true := by simp [lead, h1]
      rw [if_neg (by omega), if_neg e, ih k (i + 1) acc (by omega) (by omega), Nat.zero_add]
theorem isCount_ev (N : Nat) (hN : N ≤ 1048576) (f : Nat → Nat) (wo : Int) : ∃ K, ∀ k, K ≤ k → spec_isCount.f k (labels N f) wo = some ((cnt (lead f wo) N 0 : Nat) : Int) := by
  refine ⟨N + 1, fun k hk => ?_⟩
  obtain ⟨m, rfl⟩ : ∃ m, k = m + (N + 1) := ⟨k - (N + 1), by omega⟩
  unfold spec_isCount.f
  have h := isCount_l0 N hN f wo N m 0 0 (by omega) (by omega)
  rw [show ((0 : Nat) : Int) = 0 from rfl, Nat.zero_add] at h
  rw [labels_length]
  exact h
theorem bit_eq (b : Bool) : impl_bit.f b = some (if b = true then 1 else 0) := by
  unfold impl_bit.f
  cases b <;> rfl
theorem countGroups_l0 (N : Nat) (hN : N ≤ 1048576) (f : Nat → Nat) : ∀ (d k i : Nat) (acc : Nat), i + d = N → acc ≤ i →
    impl_countGroups.l0 (k + (d + 1)) (acc : Int) (labels N f) (N : Int) (i : Int) = some ((acc + cnt (lead f (-1)) d i : Nat) : Int) := by
  intro d
  induction d with
  | zero =>
    intro k i acc hi ha
    rw [impl_countGroups.l0]
    rw [if_neg (by omega), cnt_zero]
    rfl
  | succ d ih =>
    intro k i acc hi ha
    rw [show k + (d + 1 + 1) = (k + (d + 1)) + 1 from by omega]
    rw [impl_countGroups.l0]
    rw [if_pos (by omega), if_pos (by omega), labels_length, if_pos (by omega), labels_rd N f i (by omega), w64 (x := (i : Int) + 1) (by omega) (by omega), show (i : Int) + 1 = ((i + 1 : Nat) : Int) from by omega, cnt_succ, bit_eq]
    simp only [Option.bind_some]
    have e : lead f (-1) i = ((i : Int) == (f i : Int)) := by
      rw [Bool.eq_iff_iff]
      simp only [lead, Bool.and_eq_true, decide_eq_true_eq, Bool.not_eq_true', decide_eq_false_iff_not, beq_iff_eq]
      omega
    rw [e]
    by_cases h1 : ((i : Int) == (f i : Int)) = true
    · rw [if_pos h1, if_pos h1, w64 (by omega) (by omega), show (acc : Int) + 1 = ((acc + 1 : Nat) : Int) from by omega, ih k (i + 1) (acc + 1) (by omega) (by omega)]
      congr 2
      omega
    · rw [if_neg h1, if_neg h1, w64 (by omega) (by omega), show (acc : Int) + 0 = ((acc : Nat) : Int) from by omega, ih k (i + 1) acc (by omega) (by omega), Nat.zero_add]
/-- The number of groups of an island set. -/
def groupsN (N : Nat) (bs : List BR) : Nat := cnt (lead (merged (bs.map ed)) (-1)) N 0
theorem countGroups_ev (N : Nat) (hN : N ≤ 1048576) (bs : List BR) (hb : ∀ b ∈ bs, inN N b) (hL : bs.length ≤ 1048576) : ∃ K, ∀ k, K ≤ k → impl_countGroups.f k (N : Int) bs = some ((groupsN N bs : Nat) : Int) := by
  obtain ⟨K, h⟩ := groups_ev N hN bs hb hL
  refine ⟨K + (N + 1), fun k hk => ?_⟩
  unfold impl_countGroups.f
  rw [h k (by omega)]
  obtain ⟨m, rfl⟩ : ∃ m, k = m + (N + 1) := ⟨k - (N + 1), by omega⟩
  have h := countGroups_l0 N hN (merged (bs.map ed)) N m 0 0 (by omega) (by omega)
  rw [show ((0 : Nat) : Int) = 0 from rfl, Nat.zero_add] at h
  simp only [Option.bind_some]
  rw [labels_length]
  exact h
end Go.Proofs.Ytkikaakfdggklaa.Q
