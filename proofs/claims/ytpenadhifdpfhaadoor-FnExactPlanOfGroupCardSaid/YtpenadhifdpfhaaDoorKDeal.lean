/- Plain facts: places dealt round robin, and by strides; no conditions. -/
import Derived.Test.YtpenadhifdpfhaaDoorKx5
set_option linter.unusedVariables false
set_option linter.unusedSimpArgs false
namespace Go.Proofs.YtpenadhifdpfhaaDoor.K
open Go.RowKit Go.Proofs.YtpenadhifdpfhaaDoorW.PrintWords Go.Proofs.YtpenadhifdpfhaaDoorW.PrintLast Go.Proofs.YtpenadhifdpfhaaDoorW.PrintMore
/-- Every g-th of a list, counted from i. -/
def rowC (g m : Nat) : Nat → List Int → List Int
  | _, [] => []
  | i, x :: xs => if i % g = m then x :: rowC g m (i + 1) xs else rowC g m (i + 1) xs
theorem rowC_snoc (g m : Nat) (x : Int) : ∀ (l : List Int) (i : Nat), rowC g m i (l ++ [x]) = rowC g m i l ++ (if (i + l.length) % g = m then [x] else [])
  | [], i => by
    simp only [List.nil_append, rowC, List.length_nil, Nat.add_zero]
  | y :: l, i => by
    have ih := rowC_snoc g m x l (i + 1)
    rw [show i + 1 + l.length = i + (y :: l).length from by simp; omega] at ih
    simp only [List.cons_append, rowC]
    by_cases c : i % g = m
    · rw [if_pos c, if_pos c, ih, List.cons_append]
    · rw [if_neg c, if_neg c, ih]
theorem rowC_skip (g m : Nat) : ∀ (e i : Nat) (l : List Int), (∀ t, t < e → ¬ (i + t) % g = m) → rowC g m i l = rowC g m (i + e) (l.drop e)
  | 0, i, l, _ => by simp
  | e + 1, i, [], _ => by simp [rowC]
  | e + 1, i, x :: l, h => by
    have h0 := h 0 (by omega)
    rw [Nat.add_zero] at h0
    simp only [rowC, List.drop_succ_cons]
    rw [if_neg h0, rowC_skip g m e (i + 1) l (fun t ht => by have := h (t + 1) (by omega); rwa [show i + 1 + t = i + (t + 1) from by omega])]
    rw [show i + 1 + e = i + (e + 1) from by omega]
theorem rowC_start (g m : Nat) (hm : m < g) (l : List Int) : rowC g m 0 l = rowC g m m (l.drop m) := by
  have := rowC_skip g m m 0 l (fun t ht => by rw [Nat.zero_add, Nat.mod_eq_of_lt (by omega)]; omega)
  rwa [Nat.zero_add] at this
theorem rowC_step (g m i : Nat) (hg : 0 < g) (hi : i % g = m) (l : List Int) (h : i < l.length) : rowC g m i (l.drop i) = l[i] :: rowC g m (i + g) (l.drop (i + g)) := by
  rw [List.drop_eq_getElem_cons h, rowC, if_pos hi]
  congr 1
  have := rowC_skip g m (g - 1) (i + 1) (l.drop (i + 1)) (fun t ht e => by
    have h1 : (i + (1 + t)) % g = m := by rw [← e]; congr 1; omega
    rw [Nat.add_mod, hi, Nat.mod_eq_of_lt (show 1 + t < g by omega)] at h1
    by_cases c : m + (1 + t) < g
    · rw [Nat.mod_eq_of_lt c] at h1
      omega
    · have hm : m < g := by rw [← hi]; exact Nat.mod_lt _ hg
      rw [Nat.mod_eq_sub_mod (by omega), Nat.mod_eq_of_lt (by omega)] at h1
      omega)
  rw [this, List.drop_drop]
  congr 1
  · omega
  · congr 1
    omega
/-- What is dealt when the steps are over. -/
def dealt (g : Nat) (steps : List Int) : List (List Int) × Nat := ((List.range g).map (fun m => 0 :: rowC g m 0 steps), steps.length % g)
theorem deal_one (g : Nat) (hg : 0 < g) (steps : List Int) (x : Int) : ((dealt g steps).1.set (dealt g steps).2 ((dealt g steps).1.getD (dealt g steps).2 [] ++ [x]), ((dealt g steps).2 + 1) % g) = dealt g (steps ++ [x]) := by
  have hn : steps.length % g < g := Nat.mod_lt _ hg
  unfold dealt
  dsimp only
  congr 1
  · apply List.ext_getElem
    · simp
    · intro j h1 h2
      rw [List.length_map, List.length_range] at h2
      rw [List.getElem_map, List.getElem_range, rowC_snoc, Nat.zero_add]
      by_cases e : steps.length % g = j
      · subst e
        rw [List.getElem_set_self, if_pos rfl, List.getD_eq_getElem?_getD, List.getElem?_map, List.getElem?_range hn]
        rfl
      · rw [List.getElem_set_ne e, if_neg e, List.append_nil, List.getElem_map, List.getElem_range]
  · rw [List.length_append, List.length_singleton, Nat.mod_add_mod]
theorem dealN_eq (g : Nat) (hg : 0 < g) (x : Int) : ∀ (m : Nat) (steps : List Int), dealN g x m (dealt g steps) = dealt g (steps ++ List.replicate m x)
  | 0, steps => by simp [dealN]
  | m + 1, steps => by
    rw [dealN, deal_one g hg steps x, dealN_eq g hg x m (steps ++ [x]), List.append_assoc, List.replicate_succ]
    rfl
end Go.Proofs.YtpenadhifdpfhaaDoor.K
