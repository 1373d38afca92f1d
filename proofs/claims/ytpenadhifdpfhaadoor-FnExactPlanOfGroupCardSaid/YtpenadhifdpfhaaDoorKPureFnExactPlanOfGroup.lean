/- The plain law of FnExactPlanOfGroup; no conditions. -/
import Derived.Test.YtpenadhifdpfhaaDoorKx1
import Derived.Test.YtpenadhifdpfhaaDoorKx5
import Derived.Test.YtpenadhifdpfhaaDoorKx4
import Derived.Test.YtpenadhifdpfhaaDoorKCan
import Derived.Test.YtpenadhifdpfhaaDoorKPlan
import Derived.Test.YtpenadhifdpfhaaDoorKListsMore
import Derived.Test.YtpenadhifdpfhaaDoorKMarkP
import Derived.Test.YtpenadhifdpfhaaDoorKx6
set_option linter.unusedVariables false
set_option linter.unusedSimpArgs false
namespace Go.Proofs.YtpenadhifdpfhaaDoor.K
open Go.RowKit Go.Proofs.YtpenadhifdpfhaaDoorW.PrintWords Go.Proofs.YtpenadhifdpfhaaDoorW.PrintLast Go.Proofs.YtpenadhifdpfhaaDoorW.PrintMore
theorem CanGroup_impl (s : ByteArray) (leap group : Int) (k : Nat) (hk : 50 ≤ k) : impl_CanGroupCross.f k s leap group = some (if (good s && decide (1 ≤ leap ∧ leap ≤ 21)) = true ∧ (1 ≤ group ∧ group ≤ 100) then (can s leap group, true) else (false, false)) := by
  unfold impl_CanGroupCross.f
  rw [isSunk_eq s leap, Option.bind_some]
  by_cases h : (good s && decide (1 ≤ leap ∧ leap ≤ 21)) = true
  · have h' := h
    simp only [Bool.and_eq_true, decide_eq_true_eq] at h'
    rw [if_pos h, within_eq, Option.bind_some]
    by_cases h2 : 1 ≤ group ∧ group ≤ 100
    · rw [if_pos (decide_eq_true h2), if_pos ⟨h, h2⟩, crosses_eq s (good_size h'.1).2 leap group (by omega) k hk, Option.bind_some]
    · rw [if_neg (by simp only [decide_eq_true_eq]; exact h2), if_neg (fun x => h2 x.2)]
  · rw [if_neg h, if_neg (fun x => h x.1)]
def planRows (s : ByteArray) (g : Nat) : List (List Int) := (List.range g).map (fun j => 0 :: rowC g j 0 (stepsTo s g s.size) ++ [(s.size : Int) + 1])
theorem Plan_both (s : ByteArray) (leap group : Int) : ∃ (v : List (List Int) × Bool) (B : Nat), v.1.length ≤ 1000 ∧ (∀ xs ∈ v.1, xs.length ≤ 1048576) ∧ (∀ k, B ≤ k → spec_PlanOfGroup.f k s leap group = some v) ∧ ∀ k, B ≤ k → impl_PlanOfGroup.f k s leap group = some v := by
  have no : ∀ (B : Nat), (∀ k, B ≤ k → spec_PlanOfGroup.f k s leap group = some ([], false)) → (∀ k, B ≤ k → impl_PlanOfGroup.f k s leap group = some ([], false)) → ∃ (v : List (List Int) × Bool) (B : Nat), v.1.length ≤ 1000 ∧ (∀ xs ∈ v.1, xs.length ≤ 1048576) ∧ (∀ k, B ≤ k → spec_PlanOfGroup.f k s leap group = some v) ∧ ∀ k, B ≤ k → impl_PlanOfGroup.f k s leap group = some v := fun B h1 h2 => ⟨([], false), B, by simp, by simp, h1, h2⟩
  by_cases h : (good s && decide (1 ≤ leap ∧ leap ≤ 21)) = true
  · have h' := h
    simp only [Bool.and_eq_true, decide_eq_true_eq] at h'
    have hs := (good_size h'.1).2
    by_cases h2 : 1 ≤ group ∧ group ≤ 100
    · obtain ⟨g, rfl⟩ : ∃ g : Nat, group = (g : Int) := ⟨group.toNat, by omega⟩
      by_cases h3 : can s leap (g : Int) = true
      · have hl := stepsTo_len s g (by omega) s.size
        refine ⟨(planRows s g, true), 200000000, ?_, ?_, fun k hk => ?_, fun k hk => ?_⟩
        · simp only [planRows, List.length_map, List.length_range]
          omega
        · intro xs hxs
          simp only [planRows, List.mem_map] at hxs
          obtain ⟨j, _, rfl⟩ := hxs
          have hr : ∀ (l : List Int) (i : Nat), (rowC g j i l).length ≤ l.length := by
            intro l
            induction l with
            | nil => intro i; simp [rowC]
            | cons x l ih =>
              intro i
              have := ih (i + 1)
              simp only [rowC]
              split <;> simp <;> omega
          have := hr (stepsTo s g s.size) 0
          rw [List.length_append, List.length_cons, List.length_singleton]
          omega
        · unfold spec_PlanOfGroup.f
          rw [asked_eq s leap k (by omega), Option.bind_some, if_pos h, siGroup_eq, Option.bind_some, if_pos (decide_eq_true h2), siCan_eq s hs leap _ (by omega) k (by omega), Option.bind_some, h3]
          obtain ⟨k, rfl⟩ : ∃ k', k = k' + 1 := ⟨k - 1, by omega⟩
          rw [spec_PlanOfGroup.j0, if_neg (by decide)]
          exact spec_l0 s g (by omega) (by omega) _ (1000003 * g + 1) (fun k' hk' => spec_l2 s g (by omega) (by omega) (by omega) (stepsTo s g s.size) (by omega) g 0 k' (by omega) hk') s.size 0 k (by omega) (by omega)
        · unfold impl_PlanOfGroup.f
          rw [show impl_CanGroupCross.f k s leap (g : Int) = some (true, true) from by rw [CanGroup_impl s leap _ k (by omega), if_pos ⟨h, h2⟩, h3], Option.bind_some, if_pos rfl, if_pos ⟨by omega, by omega, by omega⟩, Int.toNat_natCast]
          have h0 : dealt g (stepsTo s g 0) = (List.replicate g [0], 0) := by
            simp [dealt, stepsTo, rowC, List.map_const']
          have := dealO_eq s g (by omega) (by omega) s.size 0 (by omega)
          rw [h0] at this
          rw [this, Option.bind_some]
          simp [dealt, planRows, List.map_map, Function.comp]
      · refine no 1000 (fun k hk => ?_) (fun k hk => ?_)
        · unfold spec_PlanOfGroup.f
          rw [asked_eq s leap k (by omega), Option.bind_some, if_pos h, siGroup_eq, Option.bind_some, if_pos (decide_eq_true h2), siCan_eq s hs leap _ (by omega) k (by omega), Option.bind_some, Bool.eq_false_iff.2 h3]
          obtain ⟨k, rfl⟩ : ∃ k', k = k' + 1 := ⟨k - 1, by omega⟩
          rw [spec_PlanOfGroup.j0, if_pos (by decide)]
        · unfold impl_PlanOfGroup.f
          rw [show impl_CanGroupCross.f k s leap (g : Int) = some (false, true) from by rw [CanGroup_impl s leap _ k (by omega), if_pos ⟨h, h2⟩, Bool.eq_false_iff.2 h3], Option.bind_some, if_neg (by decide)]
    · refine no 1000 (fun k hk => ?_) (fun k hk => ?_)
      · unfold spec_PlanOfGroup.f
        rw [asked_eq s leap k (by omega), Option.bind_some, if_pos h, siGroup_eq, Option.bind_some, if_neg (by simp only [decide_eq_true_eq]; exact h2)]
        obtain ⟨k, rfl⟩ : ∃ k', k = k' + 1 := ⟨k - 1, by omega⟩
        rw [spec_PlanOfGroup.j0, if_pos rfl]
      · unfold impl_PlanOfGroup.f
        rw [show impl_CanGroupCross.f k s leap group = some (false, false) from by rw [CanGroup_impl s leap _ k (by omega), if_neg (fun x => h2 x.2)], Option.bind_some, if_neg (by decide)]
  · refine no 1000 (fun k hk => ?_) (fun k hk => ?_)
    · unfold spec_PlanOfGroup.f
      rw [asked_eq s leap k (by omega), Option.bind_some, if_neg h]
      obtain ⟨k, rfl⟩ : ∃ k', k = k' + 1 := ⟨k - 1, by omega⟩
      rw [spec_PlanOfGroup.j0, if_pos rfl]
    · unfold impl_PlanOfGroup.f
      rw [show impl_CanGroupCross.f k s leap group = some (false, false) from by rw [CanGroup_impl s leap _ k (by omega), if_neg (fun x => h x.1)], Option.bind_some, if_neg (by decide)]
def tot : List (List Int) → Nat
  | [] => 0
  | l :: ls => l.length + tot ls
def marksOf : List (List Int) → Int → List (List Int)
  | [], _ => []
  | l :: ls, s => markI l.length s :: marksOf ls (s + (l.length : Int))
theorem marksOf_len : ∀ (rows : List (List Int)) (s : Int), (marksOf rows s).length = rows.length
  | [], _ => rfl
  | l :: ls, s => by simp [marksOf, marksOf_len ls]
theorem tot_le : ∀ (rows : List (List Int)), (∀ xs ∈ rows, xs.length ≤ 1048576) → tot rows ≤ 1048576 * rows.length
  | [], _ => by simp [tot]
  | l :: ls, h => by
    have h1 := h l List.mem_cons_self
    have h2 := tot_le ls (fun xs hx => h xs (List.mem_cons_of_mem _ hx))
    simp only [tot, List.length_cons]
    omega
theorem markSS_eq (k : Nat) (hk : 1048576 < k) : ∀ (rows : List (List Int)) (s : Int), (∀ xs ∈ rows, xs.length ≤ 1048576) → 0 ≤ s → s + (tot rows : Int) ≤ 8000000000000 → markSS k rows s = some (marksOf rows s, s + (tot rows : Int))
  | [], s, _, _, _ => by simp [markSS, marksOf, tot]
  | l :: ls, s, h, h0, h1 => by
    have hl := h l List.mem_cons_self
    simp only [tot] at h1
    have hm : laws_markIntS.f k l s = some (s + (l.length : Int), markI l.length s) := by
      unfold laws_markIntS.f
      have h := markIntS_l0 l.length k 0 l s (by omega) (by omega) hl h0 (by omega)
      rw [show ((0 : Nat) : Int) = 0 from rfl, List.take_zero, List.nil_append] at h
      exact h
    rw [markSS, hm, Option.bind_some, markSS_eq k hk ls (s + (l.length : Int)) (fun xs hx => h xs (List.mem_cons_of_mem _ hx)) (by omega) (by omega), Option.bind_some]
    simp only [marksOf, tot, Option.some.injEq, Prod.mk.injEq, true_and]
    omega
theorem heldSS_eq (ys : List (List Int)) (hy : ys.length ≤ 1000) : ∀ (rows : List (List Int)) (i k : Nat) (s : Int), (∀ xs ∈ rows, xs.length ≤ 1048576) → 0 ≤ s → s + (tot rows : Int) ≤ 8000000000000 → i + rows.length = ys.length → ys.drop i = marksOf rows s → 1048576 + rows.length + 1 < k → laws_heldIntSS.l0 k ys s (i : Int) = some (s + (tot rows : Int))
  | [], i, k, s, _, _, _, hi, _, hk => by
    obtain ⟨k, rfl⟩ : ∃ k', k = k' + 1 := ⟨k - 1, by omega⟩
    rw [List.length_nil, Nat.add_zero] at hi
    rw [laws_heldIntSS.l0, if_neg (by omega)]
    simp [tot]
  | l :: ls, i, k, s, h, h0, h1, hi, hd, hk => by
    obtain ⟨k, rfl⟩ : ∃ k', k = k' + 1 := ⟨k - 1, by omega⟩
    have hl := h l List.mem_cons_self
    simp only [tot] at h1
    rw [List.length_cons] at hi hk
    rw [List.drop_eq_getElem_cons (by omega)] at hd
    simp only [marksOf, List.cons.injEq] at hd
    have hh : laws_heldIntS.f k (markI l.length s) s = some (s + (l.length : Int)) := by
      unfold laws_heldIntS.f
      have h := heldIntS_l0 l.length k 0 (markI l.length s) s (by rw [markI_length]; omega) (by omega) (by rw [markI_length]; omega) h0 (by omega) (by simp)
      rw [show ((0 : Nat) : Int) = 0 from rfl] at h
      exact h
    rw [laws_heldIntSS.l0, if_pos (by omega), if_pos (by omega), rdL_get ys i (by omega), hd.1, hh, Option.bind_some, if_neg (by omega), show wrap64 ((i : Int) + 1) = ((i + 1 : Nat) : Int) from by unfold wrap64; omega, heldSS_eq ys hy ls (i + 1) k (s + (l.length : Int)) (fun xs hx => h xs (List.mem_cons_of_mem _ hx)) (by omega) (by omega) (by omega) hd.2 (by omega)]
    simp only [tot, Option.some.injEq]
    omega
theorem FnExactPlanOfGroup_pure (a0 : ByteArray) (a1 a2 : Int) (w0 : a0.size ≤ 140737488351232) (w1 : (Lit.int .i64 a1).wf = true) (w2 : (Lit.int .i64 a2).wf = true) : ∃ k, laws_FnExactPlanOfGroup.f k a0 a1 a2 = some true := by
  by_cases h : (a0.size : Int) > 1048576
  · exact ⟨0, by unfold laws_FnExactPlanOfGroup.f; rw [if_pos h]⟩
  · obtain ⟨v, B, hl, hw, hs, hi⟩ := Plan_both a0 a1 a2
    have ht := tot_le v.1 hw
    refine ⟨B + 3000000, ?_⟩
    unfold laws_FnExactPlanOfGroup.f
    have hh : laws_heldIntSS.f (B + 3000000) (marksOf v.1 1) 1 = some (1 + (tot v.1 : Int)) := by
      unfold laws_heldIntSS.f
      exact heldSS_eq (marksOf v.1 1) (by rw [marksOf_len]; exact hl) v.1 0 (B + 3000000) 1 hw (by omega) (by omega) (by rw [marksOf_len]; omega) rfl (by omega)
    rw [if_neg h, hs _ (by omega), Option.bind_some, hi _ (by omega), Option.bind_some, eqIntSS_eq v.1 (by omega) hw _ (by omega), Option.bind_some, if_pos ⟨rfl, rfl, by omega⟩, markSS_eq (B + 3000000) (by omega) v.1 1 hw (by omega) (by omega), Option.bind_some, hh, Option.bind_some, if_pos ⟨by omega, rfl⟩]
end Go.Proofs.YtpenadhifdpfhaaDoor.K
