/- Plain facts: the reference's sort and the library's come to the same; no conditions. -/
import Derived.Test.YtggfcjcicohaoaaDoorKx11
import Derived.Test.YtggfcjcicohaoaaDoorKx1
import Derived.Test.YtggfcjcicohaoaaDoorKMarks
set_option linter.unusedVariables false
set_option linter.unusedSimpArgs false
namespace Go.Proofs.YtggfcjcicohaoaaDoor.K
open Go.RowKit Go.Proofs.YtggfcjcicohaoaaDoorW.PrintWords Go.Proofs.YtggfcjcicohaoaaDoorW.PrintLast Go.Proofs.YtggfcjcicohaoaaDoorW.PrintMore
theorem sorted_unique : ∀ (a b : List Int), a.Perm b → a.Pairwise (· ≤ ·) → b.Pairwise (· ≤ ·) → a = b
  | [], b, h, _, _ => by
    have := h.length_eq
    exact (List.eq_nil_of_length_eq_zero (by simpa using this.symm)).symm
  | x :: a, [], h, _, _ => by
    have := h.length_eq
    simp at this
  | x :: a, y :: b, h, ha, hb => by
    rw [List.pairwise_cons] at ha hb
    have h1 : x ∈ y :: b := h.mem_iff.1 (by simp)
    have h2 : y ∈ x :: a := h.mem_iff.2 (by simp)
    have e : x = y := by
      rcases List.mem_cons.1 h1 with h1 | h1
      · exact h1
      · rcases List.mem_cons.1 h2 with h2 | h2
        · exact h2.symm
        · have := hb.1 x h1
          have := ha.1 y h2
          omega
    subst e
    rw [sorted_unique a b (List.Perm.cons_inv h) ha.2 hb.2]
theorem own_eq (l : List Int) (h : l.length ≤ 1000) : spec_l1Own.f l = some l := by
  unfold spec_l1Own.f
  rw [Option.bind_some, if_pos (by simp; omega), List.nil_append]
theorem sorted_at {x : List Int} (h : x.Pairwise (· ≤ ·)) {i j : Nat} (hi : i ≤ j) (hj : j < x.length) : rd x (i : Int) ≤ rd x (j : Int) := by
  rw [rd_get x i (by omega), rd_get x j hj]
  by_cases e : i = j
  · subst e; exact Int.le_refl _
  · exact List.pairwise_iff_getElem.1 h i j (by omega) hj (by omega)
theorem mem_take_at {x : List Int} {m : Nat} {a : Int} (h : a ∈ x.take m) : ∃ i, i < m ∧ i < x.length ∧ a = rd x (i : Int) := by
  obtain ⟨i, hi, rfl⟩ := List.getElem_of_mem h
  rw [List.length_take] at hi
  exact ⟨i, by omega, by omega, by rw [rd_get x i (by omega), List.getElem_take]⟩
theorem mem_drop_at {x : List Int} {m : Nat} {a : Int} (h : a ∈ x.drop m) : ∃ i, m ≤ i ∧ i < x.length ∧ a = rd x (i : Int) := by
  obtain ⟨i, hi, rfl⟩ := List.getElem_of_mem h
  rw [List.length_drop] at hi
  exact ⟨m + i, by omega, by omega, by rw [rd_get x (m + i) (by omega), List.getElem_drop]⟩
/-- A number put into a sorted list. -/
theorem put_in (x : List Int) (n : Int) (m : Nat) (hm : m ≤ x.length) (hx : x.Pairwise (· ≤ ·)) (h1 : ∀ i, i < m → i < x.length → rd x (i : Int) ≤ n) (h2 : ∀ i, m ≤ i → i < x.length → n < rd x (i : Int)) :
    ((x.take m ++ [n]) ++ x.drop m).Pairwise (· ≤ ·) ∧ ((x.take m ++ [n]) ++ x.drop m).Perm (n :: x) ∧ ((x.take m ++ [n]) ++ x.drop m).length = x.length + 1 := by
  have hs : (x.take m ++ x.drop m).Pairwise (· ≤ ·) := by rw [List.take_append_drop]; exact hx
  rw [List.pairwise_append] at hs
  refine ⟨?_, ?_, by simp; omega⟩
  · rw [List.pairwise_append, List.pairwise_append]
    refine ⟨⟨hs.1, by simp, fun a ha b hb => ?_⟩, hs.2.1, fun a ha b hb => ?_⟩
    · rw [List.mem_singleton.1 hb]
      obtain ⟨i, hi, hl, rfl⟩ := mem_take_at ha
      exact h1 i hi hl
    · obtain ⟨i, hi, hl, rfl⟩ := mem_drop_at hb
      rcases List.mem_append.1 ha with ha | ha
      · exact hs.2.2 a ha _ hb
      · rw [List.mem_singleton.1 ha]
        have := h2 i hi hl
        omega
  · rw [List.append_assoc]
    have := List.perm_middle (a := n) (l₁ := x.take m) (l₂ := x.drop m)
    rw [List.take_append_drop] at this
    exact this
theorem ins_loop (l x : List Int) (n : Int) (hx : x.Pairwise (· ≤ ·)) (hl : x.length ≤ 100) (ln i : Int) : ∀ j : Nat, j ≤ x.length → (∀ t, j ≤ t → t < x.length → n < rd x (t : Int)) →
    ∃ y : List Int, y.Pairwise (· ≤ ·) ∧ y.Perm (n :: x) ∧ y.length = x.length + 1 ∧ ∀ (B : Nat) (r : List Int), (∀ k, B ≤ k → spec_plSorted.l0 k y l ln (wrap64 (i + 1)) = some r) → ∀ k, B + j + 1 ≤ k → spec_plSorted.l1 k x n (j : Int) l ln i = some r := by
  intro j
  induction j with
  | zero =>
    intro hj hd
    obtain ⟨p1, p2, p3⟩ := put_in x n 0 (by omega) hx (fun i hi => by omega) (fun i _ hi => hd i (by omega) hi)
    refine ⟨_, p1, p2, p3, fun B r hB k hk => ?_⟩
    obtain ⟨k, rfl⟩ : ∃ k', k = k' + 1 := ⟨k - 1, by omega⟩
    simp only [spec_plSorted.l1]
    rw [if_neg (by omega), if_pos (by omega), if_pos (by omega), Int.toNat_natCast, own_eq _ (by simp), Option.bind_some, if_pos (by simp), Option.bind_some, Option.bind_some, if_pos (by simp; omega)]
    exact hB k (by omega)
  | succ j ih =>
    intro hj hd
    by_cases c : rd x (j : Int) > n
    · obtain ⟨y, p1, p2, p3, p4⟩ := ih (by omega) (fun t ht htl => by
        by_cases e : t = j
        · subst e; exact c
        · exact hd t (by omega) htl)
      refine ⟨y, p1, p2, p3, fun B r hB k hk => ?_⟩
      obtain ⟨k, rfl⟩ : ∃ k', k = k' + 1 := ⟨k - 1, by omega⟩
      simp only [spec_plSorted.l1]
      rw [show wrap64 (((j + 1 : Nat) : Int) - 1) = (j : Int) from by unfold wrap64; omega, if_pos (by omega), if_pos (by omega), if_pos (by omega), if_pos c]
      exact p4 B r hB k (by omega)
    · obtain ⟨p1, p2, p3⟩ := put_in x n (j + 1) hj hx (fun i hi hil => by
        have := sorted_at hx (show i ≤ j by omega) (by omega)
        omega) (fun i hi hil => hd i hi hil)
      refine ⟨_, p1, p2, p3, fun B r hB k hk => ?_⟩
      obtain ⟨k, rfl⟩ : ∃ k', k = k' + 1 := ⟨k - 1, by omega⟩
      simp only [spec_plSorted.l1]
      rw [show wrap64 (((j + 1 : Nat) : Int) - 1) = (j : Int) from by unfold wrap64; omega, if_pos (by omega), if_pos (by omega), if_pos (by omega), if_neg c, if_pos (by omega), if_pos (by omega), Int.toNat_natCast, own_eq _ (by simp; omega), Option.bind_some, if_pos (by simp; omega), Option.bind_some, Option.bind_some, if_pos (by simp; omega)]
      exact hB k (by omega)
theorem sort_loop (l : List Int) (hl : l.length ≤ 50) : ∀ (d i : Nat) (x : List Int), d = l.length - i → i ≤ l.length → x.Pairwise (· ≤ ·) → x.Perm (l.take i) → ∃ (r : List Int) (B : Nat), r.Pairwise (· ≤ ·) ∧ r.Perm l ∧ ∀ k, B ≤ k → spec_plSorted.l0 k x l (l.length : Int) (i : Int) = some r := by
  intro d
  induction d with
  | zero =>
    intro i x hd hi hx hp
    refine ⟨x, 1, hx, by rwa [List.take_of_length_le (by omega)] at hp, fun k hk => ?_⟩
    obtain ⟨k, rfl⟩ : ∃ k', k = k' + 1 := ⟨k - 1, by omega⟩
    simp only [spec_plSorted.l0]
    rw [if_neg (by omega)]
  | succ d ih =>
    intro i x hd hi hx hp
    have hi' : i < l.length := by omega
    have hxl : x.length = i := by rw [hp.length_eq, List.length_take]; omega
    obtain ⟨y, p1, p2, p3, p4⟩ := ins_loop l x (rd l (i : Int)) hx (by omega) (l.length : Int) (i : Int) x.length (Nat.le_refl _) (fun t h1 h2 => by omega)
    have hp2 : y.Perm (l.take (i + 1)) := by
      rw [List.take_succ_eq_append_getElem hi', ← rd_get l i hi']
      exact p2.trans ((List.Perm.cons _ hp).trans (List.perm_append_singleton _ _).symm)
    obtain ⟨r, B, r1, r2, r3⟩ := ih (i + 1) y (by omega) (by omega) p1 hp2
    refine ⟨r, B + x.length + 2, r1, r2, fun k hk => ?_⟩
    obtain ⟨k, rfl⟩ : ∃ k', k = k' + 1 := ⟨k - 1, by omega⟩
    simp only [spec_plSorted.l0]
    rw [if_pos (by omega), if_pos (by omega), if_pos (by omega)]
    exact p4 B r (fun k' hk' => by rw [show wrap64 ((i : Int) + 1) = ((i + 1 : Nat) : Int) from by unfold wrap64; omega]; exact r3 k' hk') k (by omega)
def sortU (l : List Int) : List Int := l.mergeSort fun x y => decide (x ≤ y)
theorem sortU_sorted (l : List Int) : (sortU l).Pairwise (· ≤ ·) := by
  have := List.pairwise_mergeSort (le := fun x y : Int => decide (x ≤ y)) (fun a b c h1 h2 => by simp at *; omega) (fun a b => by simp; omega) l
  exact this.imp (fun h => by simpa using h)
theorem sortU_length (l : List Int) : (sortU l).length = l.length := by simp [sortU]
theorem plSorted_ev (l : List Int) (hl : l.length ≤ 50) : ∃ B, ∀ k, B ≤ k → spec_plSorted.f k l = some (sortU l) := by
  obtain ⟨r, B, r1, r2, r3⟩ := sort_loop l hl l.length 0 [] (by omega) (by omega) List.Pairwise.nil (by simp)
  refine ⟨B, fun k hk => ?_⟩
  unfold spec_plSorted.f
  have e : r = sortU l := sorted_unique r (sortU l) (r2.trans (List.mergeSort_perm l _).symm) r1 (sortU_sorted l)
  rw [← e]
  exact r3 k hk
theorem sortedI_eq (l : List Int) (h1 : 1 ≤ l.length) (h2 : l.length ≤ 7) : slices_Sorted_int.f l = some (sortU l) := by
  unfold slices_Sorted_int.f
  rw [if_pos ⟨h1, by omega⟩]
  rfl
theorem goodP_use {l : List Int} (h : goodP l = true) : 1 ≤ l.length ∧ l.length ≤ 7 ∧ ∀ n ∈ l, good1 n = true := by
  unfold goodP at h
  simp only [Bool.and_eq_true, decide_eq_true_eq, List.all_eq_true] at h
  exact ⟨h.1.1, h.1.2, h.2⟩
end Go.Proofs.YtggfcjcicohaoaaDoor.K
