/- Go functions of this seat as plain functions, each with the proof that its call comes to what that function says: written by this session's program (wip/drive.py) out of the translation, by the kit's printer and by texts of our own; no conditions. -/
import Derived.Test.YtgfpdbebeibdkaaQx0
import Derived.Test.YtgfpdbebeibdkaaQx1
import Derived.Test.YtgfpdbebeibdkaaQx2
import Derived.Test.YtgfpdbebeibdkaaQx5
import Derived.Test.YtgfpdbebeibdkaaQx9
namespace Go.Proofs.Ytgfpdbebeibdkaa.Q
open Go.RowKit Go.Proofs.YtgfpdbebeibdkaaW.PrintWords Go.Proofs.YtgfpdbebeibdkaaW.PrintLast Go.Proofs.YtgfpdbebeibdkaaW.PrintMore
attribute [local go_sem] max2_int min2_int max_two min_two max_three min_three max_four min_four   -- for this text's walks alone
set_option linter.unusedVariables false
set_option linter.unusedSimpArgs false

/-! ### laws_FnExactAddBridge: function 3 -/
mutual
def laws_FnExactAddBridge.j0 : Nat → Bool → Bool → Bool → Int → List (S26) → Int → Int → Int → Int → List (S34) → Int → List (S34) → Int → List (S34) → Option (Bool)
  | 0, _, _, _, _, _, _, _, _, _, _, _, _, _, _ => none
  | k + 1, x7, x10, x46, x181000, x181001, x182000, x182001, x182002, x196000, x196001, x201000, x201001, x210000, x210001 => if x46 = true then (some false) else ((laws_toIsles.f k x181000 x181001).bind fun bt211 => ((laws_eqIsles.f k x201000 x201001 bt211.1 bt211.2).bind fun t215 => (if t215 = true then ((laws_markIsles.f k x201000 x201001 1).bind fun bt216 => (if bt216.1 < 0 then (laws_FnExactAddBridge.j1 k x7 true x181000 x181001 x182000 x182001 x182002 x196000 x196001 x210000 x210001) else ((laws_eqIsles.f k x210000 x210001 x196000 x196001).bind fun t218 => (if t218 = true then (laws_FnExactAddBridge.j1 k x7 (x10 != x7) x181000 x181001 x182000 x182001 x182002 x196000 x196001 x210000 x210001) else (laws_FnExactAddBridge.j1 k x7 true x181000 x181001 x182000 x182001 x182002 x196000 x196001 x210000 x210001))))) else (some false))))
def laws_FnExactAddBridge.j1 : Nat → Bool → Bool → Int → List (S26) → Int → Int → Int → Int → List (S34) → Int → List (S34) → Option (Bool)
  | 0, _, _, _, _, _, _, _, _, _, _, _ => none
  | k + 1, x7, x67, x181000, x181001, x182000, x182001, x182002, x196000, x196001, x210000, x210001 => if x67 = true then (some false) else ((laws_markIsles.f k x210000 x210001 1).bind fun bt219 => ((laws_heldIsles.f k x210000 bt219.2 1).bind fun t221 => (if t221 < 0 then (some false) else (if t221 = bt219.1 then ((laws_toIsles.f k x181000 x181001).bind fun bt222 => ((laws_toBridge.f x182000 x182001 x182002).bind fun bt226 => ((impl_AddBridge.f bt222.1 bt222.2 bt226.1 bt226.2.1 bt226.2.2).bind fun bt229 => ((laws_eqIsles.f k bt229.1 bt229.2.1 x196000 x196001).bind fun t235 => (if t235 = true then (laws_FnExactAddBridge.j2 k bt219.1 (bt229.2.2 != x7) x210000 bt219.2) else (laws_FnExactAddBridge.j2 k bt219.1 true x210000 bt219.2)))))) else (some false)))))
def laws_FnExactAddBridge.j2 : Nat → Int → Bool → Int → List (S34) → Option (Bool)
  | 0, _, _, _, _ => none
  | k + 1, x12, x95, x210000, x210001 => if x95 = true then (some false) else ((laws_heldIsles.f k x210000 x210001 1).bind fun t236 => (if t236 < 0 then (some false) else (if t236 = x12 then (some true) else (some false))))
end
def laws_FnExactAddBridge.f (k : Nat) (a0_0 : Int) (l0_1 : List (S26)) (a1_0 : Int) (a1_1 : Int) (a1_2 : Int) : Option (Bool) := (laws_szIsles.f a0_0 l0_1 1048576).bind fun t182 => (if t182 < 0 then (some true) else ((laws_toIsles.f k a0_0 l0_1).bind fun bt183 => ((laws_toBridge.f a1_0 a1_1 a1_2).bind fun bt187 => ((spec_AddBridge.f k bt183.1 bt183.2 bt187.1 bt187.2.1 bt187.2.2).bind fun bt190 => ((laws_toIsles.f k a0_0 l0_1).bind fun bt196 => ((laws_toBridge.f a1_0 a1_1 a1_2).bind fun bt201 => ((impl_AddBridge.f bt196.1 bt196.2 bt201.1 bt201.2.1 bt201.2.2).bind fun bt204 => ((laws_eqIsles.f k bt204.1 bt204.2.1 bt190.1 bt190.2.1).bind fun t210 => (if t210 = true then (laws_FnExactAddBridge.j0 k bt190.2.2 bt204.2.2 (bt204.2.2 != bt190.2.2) a0_0 l0_1 a1_0 a1_1 a1_2 bt190.1 bt190.2.1 bt196.1 bt196.2 bt204.1 bt204.2.1) else (laws_FnExactAddBridge.j0 k bt190.2.2 bt204.2.2 true a0_0 l0_1 a1_0 a1_1 a1_2 bt190.1 bt190.2.1 bt196.1 bt196.2 bt204.1 bt204.2.1))))))))))
theorem laws_FnExactAddBridge.mono_l : ∀ k, (∀ y0 y1 y2 y3 y4 y5 y6 y7 y8 y9 y10 y11 y12 y13, LeO (laws_FnExactAddBridge.j0 k y0 y1 y2 y3 y4 y5 y6 y7 y8 y9 y10 y11 y12 y13) (laws_FnExactAddBridge.j0 (k + 1) y0 y1 y2 y3 y4 y5 y6 y7 y8 y9 y10 y11 y12 y13)) ∧ (∀ y0 y1 y2 y3 y4 y5 y6 y7 y8 y9 y10, LeO (laws_FnExactAddBridge.j1 k y0 y1 y2 y3 y4 y5 y6 y7 y8 y9 y10) (laws_FnExactAddBridge.j1 (k + 1) y0 y1 y2 y3 y4 y5 y6 y7 y8 y9 y10)) ∧ (∀ y0 y1 y2 y3, LeO (laws_FnExactAddBridge.j2 k y0 y1 y2 y3) (laws_FnExactAddBridge.j2 (k + 1) y0 y1 y2 y3))
  | 0 => ⟨fun _ _ _ _ _ _ _ _ _ _ _ _ _ _ r h => by simp [laws_FnExactAddBridge.j0] at h, fun _ _ _ _ _ _ _ _ _ _ _ r h => by simp [laws_FnExactAddBridge.j1] at h, fun _ _ _ _ r h => by simp [laws_FnExactAddBridge.j2] at h⟩
  | k + 1 => by
    obtain ⟨ih0, ih1, ih2⟩ := laws_FnExactAddBridge.mono_l k
    refine ⟨?_, ?_, ?_⟩
    · intro y0 y1 y2 y3 y4 y5 y6 y7 y8 y9 y10 y11 y12 y13
      unfold laws_FnExactAddBridge.j0
      repeat' first
      | (with_reducible exact ih0 _ _ _ _ _ _ _ _ _ _ _ _ _ _)
      | (with_reducible exact ih1 _ _ _ _ _ _ _ _ _ _ _)
      | (with_reducible exact ih2 _ _ _ _)
      | (with_reducible exact laws_eqIsles.mono _ _ _ _ _)
      | (with_reducible exact laws_heldIsles.mono _ _ _ _)
      | (with_reducible exact laws_markIsles.mono _ _ _ _)
      | (with_reducible exact laws_toIsles.mono _ _ _)
      | (with_reducible exact spec_AddBridge.mono _ _ _ _ _ _)
      | (with_reducible exact LeO.refl _)
      | (with_reducible exact LeO.none _)
      | (with_reducible refine LeO.ite ?_ ?_)
      | (with_reducible refine LeO.bind ?_ (fun _ => ?_))
      | exact ih0 _ _ _ _ _ _ _ _ _ _ _ _ _ _
      | exact ih1 _ _ _ _ _ _ _ _ _ _ _
      | exact ih2 _ _ _ _
      | exact laws_eqIsles.mono _ _ _ _ _
      | exact laws_heldIsles.mono _ _ _ _
      | exact laws_markIsles.mono _ _ _ _
      | exact laws_toIsles.mono _ _ _
      | exact spec_AddBridge.mono _ _ _ _ _ _
      | exact LeO.none _
      | refine LeO.ite ?_ ?_
      | refine LeO.bind ?_ (fun _ => ?_)
    · intro y0 y1 y2 y3 y4 y5 y6 y7 y8 y9 y10
      unfold laws_FnExactAddBridge.j1
      repeat' first
      | (with_reducible exact ih0 _ _ _ _ _ _ _ _ _ _ _ _ _ _)
      | (with_reducible exact ih1 _ _ _ _ _ _ _ _ _ _ _)
      | (with_reducible exact ih2 _ _ _ _)
      | (with_reducible exact laws_eqIsles.mono _ _ _ _ _)
      | (with_reducible exact laws_heldIsles.mono _ _ _ _)
      | (with_reducible exact laws_markIsles.mono _ _ _ _)
      | (with_reducible exact laws_toIsles.mono _ _ _)
      | (with_reducible exact spec_AddBridge.mono _ _ _ _ _ _)
      | (with_reducible exact LeO.refl _)
      | (with_reducible exact LeO.none _)
      | (with_reducible refine LeO.ite ?_ ?_)
      | (with_reducible refine LeO.bind ?_ (fun _ => ?_))
      | exact ih0 _ _ _ _ _ _ _ _ _ _ _ _ _ _
      | exact ih1 _ _ _ _ _ _ _ _ _ _ _
      | exact ih2 _ _ _ _
      | exact laws_eqIsles.mono _ _ _ _ _
      | exact laws_heldIsles.mono _ _ _ _
      | exact laws_markIsles.mono _ _ _ _
      | exact laws_toIsles.mono _ _ _
      | exact spec_AddBridge.mono _ _ _ _ _ _
      | exact LeO.none _
      | refine LeO.ite ?_ ?_
      | refine LeO.bind ?_ (fun _ => ?_)
    · intro y0 y1 y2 y3
      unfold laws_FnExactAddBridge.j2
      repeat' first
      | (with_reducible exact ih0 _ _ _ _ _ _ _ _ _ _ _ _ _ _)
      | (with_reducible exact ih1 _ _ _ _ _ _ _ _ _ _ _)
      | (with_reducible exact ih2 _ _ _ _)
      | (with_reducible exact laws_eqIsles.mono _ _ _ _ _)
      | (with_reducible exact laws_heldIsles.mono _ _ _ _)
      | (with_reducible exact laws_markIsles.mono _ _ _ _)
      | (with_reducible exact laws_toIsles.mono _ _ _)
      | (with_reducible exact spec_AddBridge.mono _ _ _ _ _ _)
      | (with_reducible exact LeO.refl _)
      | (with_reducible exact LeO.none _)
      | (with_reducible refine LeO.ite ?_ ?_)
      | (with_reducible refine LeO.bind ?_ (fun _ => ?_))
      | exact ih0 _ _ _ _ _ _ _ _ _ _ _ _ _ _
      | exact ih1 _ _ _ _ _ _ _ _ _ _ _
      | exact ih2 _ _ _ _
      | exact laws_eqIsles.mono _ _ _ _ _
      | exact laws_heldIsles.mono _ _ _ _
      | exact laws_markIsles.mono _ _ _ _
      | exact laws_toIsles.mono _ _ _
      | exact spec_AddBridge.mono _ _ _ _ _ _
      | exact LeO.none _
      | refine LeO.ite ?_ ?_
      | refine LeO.bind ?_ (fun _ => ?_)
theorem laws_FnExactAddBridge.mono : ∀ a0 a1 a2 a3 a4 k, LeO (laws_FnExactAddBridge.f k a0 a1 a2 a3 a4) (laws_FnExactAddBridge.f (k + 1) a0 a1 a2 a3 a4) := by
  intro a0 a1 a2 a3 a4 k
  obtain ⟨ih0, ih1, ih2⟩ := laws_FnExactAddBridge.mono_l k
  unfold laws_FnExactAddBridge.f
  repeat' first
      | (with_reducible exact ih0 _ _ _ _ _ _ _ _ _ _ _ _ _ _)
      | (with_reducible exact ih1 _ _ _ _ _ _ _ _ _ _ _)
      | (with_reducible exact ih2 _ _ _ _)
      | (with_reducible exact laws_eqIsles.mono _ _ _ _ _)
      | (with_reducible exact laws_heldIsles.mono _ _ _ _)
      | (with_reducible exact laws_markIsles.mono _ _ _ _)
      | (with_reducible exact laws_toIsles.mono _ _ _)
      | (with_reducible exact spec_AddBridge.mono _ _ _ _ _ _)
      | (with_reducible exact LeO.refl _)
      | (with_reducible exact LeO.none _)
      | (with_reducible refine LeO.ite ?_ ?_)
      | (with_reducible refine LeO.bind ?_ (fun _ => ?_))
      | exact ih0 _ _ _ _ _ _ _ _ _ _ _ _ _ _
      | exact ih1 _ _ _ _ _ _ _ _ _ _ _
      | exact ih2 _ _ _ _
      | exact laws_eqIsles.mono _ _ _ _ _
      | exact laws_heldIsles.mono _ _ _ _
      | exact laws_markIsles.mono _ _ _ _
      | exact laws_toIsles.mono _ _ _
      | exact spec_AddBridge.mono _ _ _ _ _ _
      | exact LeO.none _
      | refine LeO.ite ?_ ?_
      | refine LeO.bind ?_ (fun _ => ?_)
def laws_FnExactAddBridge.T5 : Bool × List (List Nat × List Nat) := (true, [([], []), ([0], [0]), ([], []), ([2, 1], [2]), ([1, 3, 3], [1, 3]), ([4], [4]), ([5], [5]), ([5], [5]), ([], []), ([8, 6, 4, 0, 1, 2, 3, 4, 5, 6, 8], [6, 8]), ([7, 9, 0, 1, 2, 3, 4, 5, 6, 7, 8, 9], [7])])
def laws_FnExactAddBridge.B5 : List Nat := [0, 1, 0, 7, 15, 31, 63, 63, 0, 383, 1023]
theorem laws_FnExactAddBridge.tab5 : rtab .any (opsOf Try.f3 5) = laws_FnExactAddBridge.T5 := by kernel_rfl
theorem laws_FnExactAddBridge.bits5 : waitsOk laws_FnExactAddBridge.T5.2 laws_FnExactAddBridge.B5 = true := by kernel_rfl
def laws_FnExactAddBridge.T7 : Bool × List (List Nat × List Nat) := (true, [([], []), ([], []), ([1], [1]), ([0, 2, 2], [0, 2]), ([3], [3]), ([4], [4]), ([4], [4]), ([], []), ([7, 5, 3, 0, 1, 2, 3, 4, 5, 7], [5, 7]), ([6, 8, 0, 1, 2, 3, 4, 5, 6, 7, 8], [6])])
def laws_FnExactAddBridge.B7 : List Nat := [0, 0, 2, 7, 15, 31, 31, 0, 191, 511]
theorem laws_FnExactAddBridge.tab7 : rtab .any (opsOf Try.f3 7) = laws_FnExactAddBridge.T7 := by kernel_rfl
theorem laws_FnExactAddBridge.bits7 : waitsOk laws_FnExactAddBridge.T7.2 laws_FnExactAddBridge.B7 = true := by kernel_rfl
def laws_FnExactAddBridge.T24 : Bool × List (List Nat × List Nat) := (true, [([], []), ([0], [0]), ([], []), ([2, 1], [2]), ([1, 3, 3], [1, 3]), ([4], [4]), ([5], [5]), ([5], [5]), ([], []), ([8, 6, 4, 0, 1, 2, 3, 4, 5, 6, 8], [6, 8]), ([7, 9, 0, 1, 2, 3, 4, 5, 6, 7, 8, 9], [7])])
def laws_FnExactAddBridge.B24 : List Nat := [0, 1, 0, 7, 15, 31, 63, 63, 0, 383, 1023]
theorem laws_FnExactAddBridge.tab24 : rtab .any (opsOf Try.f3 24) = laws_FnExactAddBridge.T24 := by kernel_rfl
theorem laws_FnExactAddBridge.bits24 : waitsOk laws_FnExactAddBridge.T24.2 laws_FnExactAddBridge.B24 = true := by kernel_rfl

end Go.Proofs.Ytgfpdbebeibdkaa.Q
