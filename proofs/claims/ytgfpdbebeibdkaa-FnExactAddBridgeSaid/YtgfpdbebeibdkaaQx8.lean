/- Go functions of this seat as plain functions, each with the proof that its call comes to what that function says: written by this session's program (wip/drive.py) out of the translation, by the kit's printer and by texts of our own; no conditions. -/
import Derived.Test.YtgfpdbebeibdkaaQx0
import Derived.Test.YtgfpdbebeibdkaaQx3
import Derived.Test.YtgfpdbebeibdkaaQx4
import Derived.Test.YtgfpdbebeibdkaaQx5
import Derived.Test.YtgfpdbebeibdkaaQx6
import Derived.Test.YtgfpdbebeibdkaaQx7
namespace Go.Proofs.Ytgfpdbebeibdkaa.Q
open Go.RowKit Go.Proofs.YtgfpdbebeibdkaaW.PrintWords Go.Proofs.YtgfpdbebeibdkaaW.PrintLast Go.Proofs.YtgfpdbebeibdkaaW.PrintMore
attribute [local go_sem] max2_int min2_int max_two min_two max_three min_three max_four min_four   -- for this text's walks alone
set_option linter.unusedVariables false
set_option linter.unusedSimpArgs false

set_option maxHeartbeats 8000000 in
set_option maxRecDepth 100000 in
theorem impl_AddBridge.calls (a0_0 : Int) (A0_1 : Option Addr) (c0_1 : Nat) (l0_1 : List (S34)) (a1_0 : Int) (a1_1 : Int) (a1_2 : Int) (r1 : Int) (r2 : List (S34)) (r3 : Bool) (w : World) (hr0_1 : Kd.C k34 w A0_1 l0_1.length l0_1) (hc0_1 : l0_1.length ≤ c0_1) (h : impl_AddBridge.f a0_0 l0_1 a1_0 a1_1 a1_2 = some (r1, r2, r3)) :
    Calls Try.prog 8 #[.agg #[.int .i64 a0_0, .slice A0_1 l0_1.length c0_1], .agg #[.int .i64 a1_0, .int .i64 a1_1, .int .i64 a1_2]] w fun e w' => ∃ v1_ : Value, e = .returned (.tuple #[.agg #[.int .i64 r1, v1_], .bool r3]) ∧ Kd.R k34 34 w' w.heap.size (fun _ => True) v1_ r2 ∧ Below w.heap.size w w' := by
  have hu30 := Try.underlying30
  have hu34 := Try.underlying34
  have HR0_1 := Aside0.mk hr0_1
  have HC0_1 := Aside0.mk hc0_1
  clear hr0_1 hc0_1
  have HB := Aside0.mk (Below.refl w.heap.size w)
  have H : ((impl_Bridge_16.f l0_1).bind fun t149 => ((some (([(⟨a1_0, a1_1, a1_2⟩ : S34)] : List (S34)) : List (S34))).bind fun y152 => (if t149.length + y152.length < 5864062014805 then ((some (t149 ++ y152 : List (S34))).bind fun y155 => ((impl_AreIsles.f a0_0 l0_1).bind fun t159 => (if t159 = true then ((impl_AreIsles.f a0_0 y155).bind fun t160 => (if t160 = true then (some (a0_0, y155, true)) else (some (0, ([] : List (S34)), false)))) else (some (0, ([] : List (S34)), false))))) else (none)))) = some (r1, r2, r3) := h
  clear h
  replace H := Option.bind_eq_some_iff.mp H
  obtain ⟨t149, A30, H⟩ := H
  replace H : ((some (([(⟨a1_0, a1_1, a1_2⟩ : S34)] : List (S34)) : List (S34))).bind fun y152 => (if t149.length + y152.length < 5864062014805 then ((some (t149 ++ y152 : List (S34))).bind fun y155 => ((impl_AreIsles.f a0_0 l0_1).bind fun t159 => (if t159 = true then ((impl_AreIsles.f a0_0 y155).bind fun t160 => (if t160 = true then (some (a0_0, y155, true)) else (some (0, ([] : List (S34)), false)))) else (some (0, ([] : List (S34)), false))))) else (none))) = some (r1, r2, r3) := H
  have A3 := Aside0.mk A30
  clear A30
  obtain ⟨y152, hy152⟩ : ∃ y_ : List (S34), y_ = (([(⟨a1_0, a1_1, a1_2⟩ : S34)] : List (S34))) := ⟨_, rfl⟩
  replace H : (if t149.length + y152.length < 5864062014805 then ((some (t149 ++ y152 : List (S34))).bind fun y155 => ((impl_AreIsles.f a0_0 l0_1).bind fun t159 => (if t159 = true then ((impl_AreIsles.f a0_0 y155).bind fun t160 => (if t160 = true then (some (a0_0, y155, true)) else (some (0, ([] : List (S34)), false)))) else (some (0, ([] : List (S34)), false))))) else (none)) = some (r1, r2, r3) := by first | (rw [hy152]; with_reducible exact H) | (have H2_ := (Option.bind_some _ _).symm.trans H; rw [hy152]; with_reducible exact H2_) | (have H2_ := (Option.bind_some _ _).symm.trans H; with_reducible exact H2_) | with_reducible exact H | (rw [hy152]; exact H) | exact H
  have Ny152 := Aside0.mk hy152
  clear hy152
  by_cases c4 : t149.length + y152.length < 5864062014805
  · rw [if_pos c4] at H
    have LMc4 := Aside0.mk c4
    clear c4
    obtain ⟨y155, hy155⟩ : ∃ y_ : List (S34), y_ = (t149 ++ y152) := ⟨_, rfl⟩
    replace H : ((impl_AreIsles.f a0_0 l0_1).bind fun t159 => (if t159 = true then ((impl_AreIsles.f a0_0 y155).bind fun t160 => (if t160 = true then (some (a0_0, y155, true)) else (some (0, ([] : List (S34)), false)))) else (some (0, ([] : List (S34)), false)))) = some (r1, r2, r3) := by first | (rw [hy155]; with_reducible exact H) | (have H2_ := (Option.bind_some _ _).symm.trans H; rw [hy155]; with_reducible exact H2_) | (have H2_ := (Option.bind_some _ _).symm.trans H; with_reducible exact H2_) | with_reducible exact H | (rw [hy155]; exact H) | exact H
    have Ny155 := Aside0.mk hy155
    clear hy155
    replace H := Option.bind_eq_some_iff.mp H
    obtain ⟨t159, A50, H⟩ := H
    replace H : (if t159 = true then ((impl_AreIsles.f a0_0 y155).bind fun t160 => (if t160 = true then (some (a0_0, y155, true)) else (some (0, ([] : List (S34)), false)))) else (some (0, ([] : List (S34)), false))) = some (r1, r2, r3) := H
    have A5 := Aside0.mk A50
    clear A50
    by_cases c6 : t159 = true
    · subst c6
      have H1 : ((impl_AreIsles.f a0_0 y155).bind fun t160 => (if t160 = true then (some (a0_0, y155, true)) else (some (0, ([] : List (S34)), false)))) = some (r1, r2, r3) := by rw [if_pos rfl] at H; exact H
      clear H
      have H := H1
      clear H1
      replace H := Option.bind_eq_some_iff.mp H
      obtain ⟨t160, A70, H⟩ := H
      replace H : (if t160 = true then (some (a0_0, y155, true)) else (some (0, ([] : List (S34)), false))) = some (r1, r2, r3) := H
      have A7 := Aside0.mk A70
      clear A70
      by_cases c8 : t160 = true
      · subst c8
        have H1 : (some (a0_0, y155, true)) = some (r1, r2, r3) := by rw [if_pos rfl] at H; exact H
        clear H
        have H := H1
        clear H1
        simp only [Option.some.injEq, Prod.mk.injEq] at H
        obtain ⟨rfl, rfl, rfl⟩ := H
        exact impl_AddBridge.leaf1 a0_0 A0_1 c0_1 l0_1 a1_0 a1_1 a1_2 t149 y152 y155 w HR0_1 HC0_1 HB A3 Ny152 LMc4 Ny155 A5 A7
      · replace c8 := Bool.eq_false_iff.mpr c8
        subst c8
        have H1 : (some (0, ([] : List (S34)), false)) = some (r1, r2, r3) := by rw [if_neg (show ¬ (false = true) by decide)] at H; exact H
        clear H
        have H := H1
        clear H1
        simp only [Option.some.injEq, Prod.mk.injEq] at H
        obtain ⟨rfl, rfl, rfl⟩ := H
        exact impl_AddBridge.leaf2 a0_0 A0_1 c0_1 l0_1 a1_0 a1_1 a1_2 t149 y152 y155 w HR0_1 HC0_1 HB A3 Ny152 LMc4 Ny155 A5 A7
    · replace c6 := Bool.eq_false_iff.mpr c6
      subst c6
      have H1 : (some (0, ([] : List (S34)), false)) = some (r1, r2, r3) := by rw [if_neg (show ¬ (false = true) by decide)] at H; exact H
      clear H
      have H := H1
      clear H1
      simp only [Option.some.injEq, Prod.mk.injEq] at H
      obtain ⟨rfl, rfl, rfl⟩ := H
      exact impl_AddBridge.leaf3 a0_0 A0_1 c0_1 l0_1 a1_0 a1_1 a1_2 t149 y152 y155 w HR0_1 HC0_1 HB A3 Ny152 LMc4 Ny155 A5
  · rw [if_neg c4] at H
    exact absurd H (by simp)

end Go.Proofs.Ytgfpdbebeibdkaa.Q
