/- Go functions of this seat as plain functions, each with the proof that its call comes to what that function says: written by this session's program (wip/drive.py) out of the translation, by the kit's printer and by texts of our own; no conditions. -/
import Derived.Test.YtgfpdbebeibdkaaQx0
import Derived.Test.YtgfpdbebeibdkaaQx1
import Derived.Test.YtgfpdbebeibdkaaQx2
import Derived.Test.YtgfpdbebeibdkaaQx5
import Derived.Test.YtgfpdbebeibdkaaQx8
import Derived.Test.YtgfpdbebeibdkaaQx9
import Derived.Test.YtgfpdbebeibdkaaQx11
namespace Go.Proofs.Ytgfpdbebeibdkaa.Q
open Go.RowKit Go.Proofs.YtgfpdbebeibdkaaW.PrintWords Go.Proofs.YtgfpdbebeibdkaaW.PrintLast Go.Proofs.YtgfpdbebeibdkaaW.PrintMore
attribute [local go_sem] max2_int min2_int max_two min_two max_three min_three max_four min_four   -- for this text's walks alone
set_option linter.unusedVariables false
set_option linter.unusedSimpArgs false

theorem bl_ {B : Nat} {w w' : World} (h : Below B w w' := by repeat (first | (with_reducible first | exact (Aside0.out (by assumption)) | apply below_alloc | apply pw_below_drewN | apply below_drew1 | refine below_set ?_ (Aside0.out (by assumption))) | exact (Aside0.out (by assumption)))) : Below B w w' := h
theorem rr_ {P Q : Prop} (h : Aside0 P) (hpq : P → Q := by intro h_; (with_reducible repeat (first | apply Kd.R_alloc | apply Kd.R_drewN | apply Kd.R_drew)); exact h_) : Q := hpq h.out
theorem bk_ {P Q : Prop} (h : Aside0 P) (hpq : P → Q := by intro h_; (with_reducible repeat (first | refine blk_drewN ?_ _ | refine blk_drew ?_ | refine blk_alloc ?_ _)); exact h_) : Q := hpq h.out
theorem ar_ {P : Prop} (h : P := by (try simp only [List.map_toArray, List.map_cons, List.map_nil]); first | done | rfl | (simp only [List.length_drop, List.length_take]; rfl)) : P := h
set_option maxHeartbeats 8000000 in
set_option maxRecDepth 100000 in
theorem laws_FnExactAddBridge.calls (k : Nat) (a0_0 : Int) (A0_1 : Option Addr) (c0_1 : Nat) (l0_1 : List (S26)) (a1_0 : Int) (a1_1 : Int) (a1_2 : Int) (r : Bool) (hr_ : Aside0 (r = true)) (w : World) (hr0_1 : Kd.C k26 w A0_1 l0_1.length l0_1) (hc0_1 : l0_1.length ≤ c0_1) (h : laws_FnExactAddBridge.f k a0_0 l0_1 a1_0 a1_1 a1_2 = some r) :
  Calls Try.prog 3 #[.agg #[.int .i64 a0_0, .slice A0_1 l0_1.length c0_1], .agg #[.int .i64 a1_0, .int .i64 a1_1, .int .i64 a1_2]] w fun e w' => e = .returned (.bool r) ∧ Below w.heap.size w w' := by
 have hu24 := Try.underlying24
 have hu26 := Try.underlying26
 have hu30 := Try.underlying30
 have HR0_1 := Aside0.mk hr0_1
 have HC0_1 := Aside0.mk hc0_1
 clear hr0_1 hc0_1
 have HB := Aside0.mk (Below.refl w.heap.size w)
 have H : ((laws_szIsles.f a0_0 l0_1 1048576).bind fun t182 => (if t182 < 0 then (some true) else ((laws_toIsles.f k a0_0 l0_1).bind fun bt183 => ((laws_toBridge.f a1_0 a1_1 a1_2).bind fun bt187 => ((spec_AddBridge.f k bt183.1 bt183.2 bt187.1 bt187.2.1 bt187.2.2).bind fun bt190 => ((laws_toIsles.f k a0_0 l0_1).bind fun bt196 => ((laws_toBridge.f a1_0 a1_1 a1_2).bind fun bt201 => ((impl_AddBridge.f bt196.1 bt196.2 bt201.1 bt201.2.1 bt201.2.2).bind fun bt204 => ((laws_eqIsles.f k bt204.1 bt204.2.1 bt190.1 bt190.2.1).bind fun t210 => (if t210 = true then (laws_FnExactAddBridge.j0 k bt190.2.2 bt204.2.2 (bt204.2.2 != bt190.2.2) a0_0 l0_1 a1_0 a1_1 a1_2 bt190.1 bt190.2.1 bt196.1 bt196.2 bt204.1 bt204.2.1) else (laws_FnExactAddBridge.j0 k bt190.2.2 bt204.2.2 true a0_0 l0_1 a1_0 a1_1 a1_2 bt190.1 bt190.2.1 bt196.1 bt196.2 bt204.1 bt204.2.1))))))))))) = some r := h
 clear h
 replace H := Option.bind_eq_some_iff.mp H
 obtain ⟨t182, A30, H⟩ := H
 replace H : (if t182 < 0 then (some true) else ((laws_toIsles.f k a0_0 l0_1).bind fun bt183 => ((laws_toBridge.f a1_0 a1_1 a1_2).bind fun bt187 => ((spec_AddBridge.f k bt183.1 bt183.2 bt187.1 bt187.2.1 bt187.2.2).bind fun bt190 => ((laws_toIsles.f k a0_0 l0_1).bind fun bt196 => ((laws_toBridge.f a1_0 a1_1 a1_2).bind fun bt201 => ((impl_AddBridge.f bt196.1 bt196.2 bt201.1 bt201.2.1 bt201.2.2).bind fun bt204 => ((laws_eqIsles.f k bt204.1 bt204.2.1 bt190.1 bt190.2.1).bind fun t210 => (if t210 = true then (laws_FnExactAddBridge.j0 k bt190.2.2 bt204.2.2 (bt204.2.2 != bt190.2.2) a0_0 l0_1 a1_0 a1_1 a1_2 bt190.1 bt190.2.1 bt196.1 bt196.2 bt204.1 bt204.2.1) else (laws_FnExactAddBridge.j0 k bt190.2.2 bt204.2.2 true a0_0 l0_1 a1_0 a1_1 a1_2 bt190.1 bt190.2.1 bt196.1 bt196.2 bt204.1 bt204.2.1)))))))))) = some r := H
 have A3 := Aside0.mk A30
 clear A30
 by_cases c4 : t182 < 0
 ·rw [if_pos c4] at H
  have c4b0 : decide (t182 < 0) = true := decide_eq_true c4
  clear c4
  obtain rfl := Option.some.inj H
  go_enter Try.func3, Try.ntmps3
  go_wp2_with (first | ((with_reducible refine gate_dst (N := 2) rfl ?_); refine box_event ?hg (N := 2) ?hd (cs := #[.int .i64 a0_0, .slice A0_1 l0_1.length c0_1]) (t := 24) ?hr ?_; (case hd => rfl); (case hg => rfl); (case hr => first | (go_simp; done) | (go_simp; rfl)); intro gb180 hg w5 hbox hb; have n0_ := Aside0.mk (below_step (bl_) hb); have n1_ := Aside0.mk (hbox); have n2_ := Aside0.mk ((by rw [hg]; exact (below_size (bl_)) : w.heap.size ≤ gb180)); have n3_ := Aside0.mk ((by rw [hg]; exact (below_size (bl_)) : w.heap.size ≤ gb180)); clear HB; have HB := n0_; have BK180 := n1_; have GW180 := n2_; have GE180 := n3_; clear n0_ n1_ n2_ n3_; clear hb hbox hg) | ((with_reducible refine gate_dst (N := 3) rfl ?_); refine box_event ?hg (N := 3) ?hd (cs := #[.int .i64 a1_0, .int .i64 a1_1, .int .i64 a1_2]) (t := 26) ?hr ?_; (case hd => rfl); (case hg => rfl); (case hr => first | (go_simp; done) | (go_simp; rfl)); intro gb181 hg w6 hbox hb; have n0_ := Aside0.mk (blk_below (g := gb180) (o := .cells #[.int .i64 a0_0, .slice A0_1 l0_1.length c0_1] 24 (0, 0)) (bk_ BK180) hb); have n1_ := Aside0.mk (below_step (bl_) hb); have n2_ := Aside0.mk (hbox); have n3_ := Aside0.mk ((by rw [hg]; exact (below_size (bl_)) : w.heap.size ≤ gb181)); have n4_ := Aside0.mk ((by rw [hg]; exact (below_size (bl_)) : w.heap.size ≤ gb181)); have n5_ := Aside0.mk ((by rw [hg]; exact Nat.ne_of_lt (blk_lt (g := gb180) (o := .cells #[.int .i64 a0_0, .slice A0_1 l0_1.length c0_1] 24 (0, 0)) (bk_ BK180)) : gb180 ≠ gb181)); have n6_ := Aside0.mk ((by rw [hg]; exact Nat.ne_of_gt (blk_lt (g := gb180) (o := .cells #[.int .i64 a0_0, .slice A0_1 l0_1.length c0_1] 24 (0, 0)) (bk_ BK180)) : gb181 ≠ gb180)); clear BK180; clear HB; have BK180 := n0_; have HB := n1_; have BK181 := n2_; have GW181 := n3_; have GE181 := n4_; have NB180_181 := n5_; have NB181_180 := n6_; clear n0_ n1_ n2_ n3_ n4_ n5_ n6_; clear hb hbox hg; have hnb7 := NB180_181.out; have hnc7 := NB181_180.out; have hcz8_0 : w6.cell? ⟨gb180, 0, none⟩ = some (.int .i64 a0_0) := (blk_cell BK180.out 0).trans rfl; have hcz8_1 : w6.cell? ⟨gb180, 1, none⟩ = some (.slice A0_1 l0_1.length c0_1) := (blk_cell BK180.out 1).trans rfl; have hfz8_0 := blk_frozen BK180.out 0; have hfz8_1 := blk_frozen BK180.out 1) | ((with_reducible refine gate_callee (f := 4) rfl ?_); refine goesL_ (some 18) rfl rfl Try.func4 (by kernel_rfl) rfl #[.agg #[.int .i64 a0_0, .slice A0_1 l0_1.length c0_1], .int .i64 1048576] rfl ar_ ?_; (with_reducible refine (laws_szIsles.calls a0_0 _ _ l0_1 1048576 t182 _ ?side1 ?side2 A3.out).mono ?_); (case side1 => repeat (first | exact (Kd.C_below HR0_1.out HB.out) | (with_reducible refine Kd.C_alloc ?_ _) | (with_reducible refine Kd.C_drewN ?_ _) | (with_reducible refine Kd.C_drew ?_))); (case side2 => exact HC0_1.out); rintro e w9 ⟨rfl, hb⟩; refine ⟨_, rfl, ?_⟩; have n0_ := Aside0.mk (blk_below (g := gb180) (o := .cells #[.int .i64 a0_0, .slice A0_1 l0_1.length c0_1] 24 (0, 0)) (bk_ BK180) hb); have n1_ := Aside0.mk (blk_below (g := gb181) (o := .cells #[.int .i64 a1_0, .int .i64 a1_1, .int .i64 a1_2] 26 (0, 0)) (bk_ BK181) hb); have n2_ := Aside0.mk (below_step (bl_) hb); clear BK180; clear BK181; clear HB; have BK180 := n0_; have BK181 := n1_; have HB := n2_; clear n0_ n1_ n2_; (try clear hb); (try clear hb2); (try clear hk); (try clear hi)))
  go_ret
  exact ⟨by first | rfl | (simp [errW_none, errW_some] <;> rfl) | (simp [*, errW_none, errW_some] <;> rfl), bl_⟩
 ·rw [if_neg c4] at H
  have c4b0 : decide (t182 < 0) = false := decide_eq_false c4
  clear c4
  replace H := Option.bind_eq_some_iff.mp H
  obtain ⟨⟨t183, t184⟩, A100, H⟩ := H
  replace H : ((laws_toBridge.f a1_0 a1_1 a1_2).bind fun bt187 => ((spec_AddBridge.f k t183 t184 bt187.1 bt187.2.1 bt187.2.2).bind fun bt190 => ((laws_toIsles.f k a0_0 l0_1).bind fun bt196 => ((laws_toBridge.f a1_0 a1_1 a1_2).bind fun bt201 => ((impl_AddBridge.f bt196.1 bt196.2 bt201.1 bt201.2.1 bt201.2.2).bind fun bt204 => ((laws_eqIsles.f k bt204.1 bt204.2.1 bt190.1 bt190.2.1).bind fun t210 => (if t210 = true then (laws_FnExactAddBridge.j0 k bt190.2.2 bt204.2.2 (bt204.2.2 != bt190.2.2) a0_0 l0_1 a1_0 a1_1 a1_2 bt190.1 bt190.2.1 bt196.1 bt196.2 bt204.1 bt204.2.1) else (laws_FnExactAddBridge.j0 k bt190.2.2 bt204.2.2 true a0_0 l0_1 a1_0 a1_1 a1_2 bt190.1 bt190.2.1 bt196.1 bt196.2 bt204.1 bt204.2.1)))))))) = some r := H
  have A10 := Aside0.mk A100
  clear A100
  replace H := Option.bind_eq_some_iff.mp H
  obtain ⟨⟨t187, t188, t189⟩, A110, H⟩ := H
  replace H : ((spec_AddBridge.f k t183 t184 t187 t188 t189).bind fun bt190 => ((laws_toIsles.f k a0_0 l0_1).bind fun bt196 => ((laws_toBridge.f a1_0 a1_1 a1_2).bind fun bt201 => ((impl_AddBridge.f bt196.1 bt196.2 bt201.1 bt201.2.1 bt201.2.2).bind fun bt204 => ((laws_eqIsles.f k bt204.1 bt204.2.1 bt190.1 bt190.2.1).bind fun t210 => (if t210 = true then (laws_FnExactAddBridge.j0 k bt190.2.2 bt204.2.2 (bt204.2.2 != bt190.2.2) a0_0 l0_1 a1_0 a1_1 a1_2 bt190.1 bt190.2.1 bt196.1 bt196.2 bt204.1 bt204.2.1) else (laws_FnExactAddBridge.j0 k bt190.2.2 bt204.2.2 true a0_0 l0_1 a1_0 a1_1 a1_2 bt190.1 bt190.2.1 bt196.1 bt196.2 bt204.1 bt204.2.1))))))) = some r := H
  have A11 := Aside0.mk A110
  clear A110
  replace H := Option.bind_eq_some_iff.mp H
  obtain ⟨⟨t190, t191, t194⟩, A120, H⟩ := H
  replace H : ((laws_toIsles.f k a0_0 l0_1).bind fun bt196 => ((laws_toBridge.f a1_0 a1_1 a1_2).bind fun bt201 => ((impl_AddBridge.f bt196.1 bt196.2 bt201.1 bt201.2.1 bt201.2.2).bind fun bt204 => ((laws_eqIsles.f k bt204.1 bt204.2.1 t190 t191).bind fun t210 => (if t210 = true then (laws_FnExactAddBridge.j0 k t194 bt204.2.2 (bt204.2.2 != t194) a0_0 l0_1 a1_0 a1_1 a1_2 t190 t191 bt196.1 bt196.2 bt204.1 bt204.2.1) else (laws_FnExactAddBridge.j0 k t194 bt204.2.2 true a0_0 l0_1 a1_0 a1_1 a1_2 t190 t191 bt196.1 bt196.2 bt204.1 bt204.2.1)))))) = some r := H
  have A12 := Aside0.mk A120
  clear A120
  replace H := Option.bind_eq_some_iff.mp H
  obtain ⟨⟨t196, t197⟩, A130, H⟩ := H
  replace H : ((laws_toBridge.f a1_0 a1_1 a1_2).bind fun bt201 => ((impl_AddBridge.f t196 t197 bt201.1 bt201.2.1 bt201.2.2).bind fun bt204 => ((laws_eqIsles.f k bt204.1 bt204.2.1 t190 t191).bind fun t210 => (if t210 = true then (laws_FnExactAddBridge.j0 k t194 bt204.2.2 (bt204.2.2 != t194) a0_0 l0_1 a1_0 a1_1 a1_2 t190 t191 t196 t197 bt204.1 bt204.2.1) else (laws_FnExactAddBridge.j0 k t194 bt204.2.2 true a0_0 l0_1 a1_0 a1_1 a1_2 t190 t191 t196 t197 bt204.1 bt204.2.1))))) = some r := H
  have A13 := Aside0.mk A130
  clear A130
  replace H := Option.bind_eq_some_iff.mp H
  obtain ⟨⟨t201, t202, t203⟩, A140, H⟩ := H
  replace H : ((impl_AddBridge.f t196 t197 t201 t202 t203).bind fun bt204 => ((laws_eqIsles.f k bt204.1 bt204.2.1 t190 t191).bind fun t210 => (if t210 = true then (laws_FnExactAddBridge.j0 k t194 bt204.2.2 (bt204.2.2 != t194) a0_0 l0_1 a1_0 a1_1 a1_2 t190 t191 t196 t197 bt204.1 bt204.2.1) else (laws_FnExactAddBridge.j0 k t194 bt204.2.2 true a0_0 l0_1 a1_0 a1_1 a1_2 t190 t191 t196 t197 bt204.1 bt204.2.1)))) = some r := H
  have A14 := Aside0.mk A140
  clear A140
  replace H := Option.bind_eq_some_iff.mp H
  obtain ⟨⟨t204, t205, t208⟩, A150, H⟩ := H
  replace H : ((laws_eqIsles.f k t204 t205 t190 t191).bind fun t210 => (if t210 = true then (laws_FnExactAddBridge.j0 k t194 t208 (t208 != t194) a0_0 l0_1 a1_0 a1_1 a1_2 t190 t191 t196 t197 t204 t205) else (laws_FnExactAddBridge.j0 k t194 t208 true a0_0 l0_1 a1_0 a1_1 a1_2 t190 t191 t196 t197 t204 t205))) = some r := H
  have A15 := Aside0.mk A150
  clear A150
  have HC16 := Aside0.mk H
  clear H
  go_enter Try.func3, Try.ntmps3
  try go_wp2_with (first | ((with_reducible refine gate_dst (N := 2) rfl ?_); refine box_event ?hg (N := 2) ?hd (cs := #[.int .i64 a0_0, .slice A0_1 l0_1.length c0_1]) (t := 24) ?hr ?_; (case hd => rfl); (case hg => rfl); (case hr => first | (go_simp; done) | (go_simp; rfl)); intro gb180 hg w17 hbox hb; have n0_ := Aside0.mk (below_step (bl_) hb); have n1_ := Aside0.mk (hbox); have n2_ := Aside0.mk ((by rw [hg]; exact (below_size (bl_)) : w.heap.size ≤ gb180)); have n3_ := Aside0.mk ((by rw [hg]; exact (below_size (bl_)) : w.heap.size ≤ gb180)); clear HB; have HB := n0_; have BK180 := n1_; have GW180 := n2_; have GE180 := n3_; clear n0_ n1_ n2_ n3_; clear hb hbox hg) | ((with_reducible refine gate_dst (N := 3) rfl ?_); refine box_event ?hg (N := 3) ?hd (cs := #[.int .i64 a1_0, .int .i64 a1_1, .int .i64 a1_2]) (t := 26) ?hr ?_; (case hd => rfl); (case hg => rfl); (case hr => first | (go_simp; done) | (go_simp; rfl)); intro gb181 hg w18 hbox hb; have n0_ := Aside0.mk (blk_below (g := gb180) (o := .cells #[.int .i64 a0_0, .slice A0_1 l0_1.length c0_1] 24 (0, 0)) (bk_ BK180) hb); have n1_ := Aside0.mk (below_step (bl_) hb); have n2_ := Aside0.mk (hbox); have n3_ := Aside0.mk ((by rw [hg]; exact (below_size (bl_)) : w.heap.size ≤ gb181)); have n4_ := Aside0.mk ((by rw [hg]; exact (below_size (bl_)) : w.heap.size ≤ gb181)); have n5_ := Aside0.mk ((by rw [hg]; exact Nat.ne_of_lt (blk_lt (g := gb180) (o := .cells #[.int .i64 a0_0, .slice A0_1 l0_1.length c0_1] 24 (0, 0)) (bk_ BK180)) : gb180 ≠ gb181)); have n6_ := Aside0.mk ((by rw [hg]; exact Nat.ne_of_gt (blk_lt (g := gb180) (o := .cells #[.int .i64 a0_0, .slice A0_1 l0_1.length c0_1] 24 (0, 0)) (bk_ BK180)) : gb181 ≠ gb180)); clear BK180; clear HB; have BK180 := n0_; have HB := n1_; have BK181 := n2_; have GW181 := n3_; have GE181 := n4_; have NB180_181 := n5_; have NB181_180 := n6_; clear n0_ n1_ n2_ n3_ n4_ n5_ n6_; clear hb hbox hg; have hnb19 := NB180_181.out; have hnc19 := NB181_180.out; have hcz20_0 : w18.cell? ⟨gb180, 0, none⟩ = some (.int .i64 a0_0) := (blk_cell BK180.out 0).trans rfl; have hcz20_1 : w18.cell? ⟨gb180, 1, none⟩ = some (.slice A0_1 l0_1.length c0_1) := (blk_cell BK180.out 1).trans rfl; have hfz20_0 := blk_frozen BK180.out 0; have hfz20_1 := blk_frozen BK180.out 1) | ((with_reducible refine gate_callee (f := 4) rfl ?_); refine goesL_ (some 18) rfl rfl Try.func4 (by kernel_rfl) rfl #[.agg #[.int .i64 a0_0, .slice A0_1 l0_1.length c0_1], .int .i64 1048576] rfl ar_ ?_; (with_reducible refine (laws_szIsles.calls a0_0 _ _ l0_1 1048576 t182 _ ?side1 ?side2 A3.out).mono ?_); (case side1 => repeat (first | exact (Kd.C_below HR0_1.out HB.out) | (with_reducible refine Kd.C_alloc ?_ _) | (with_reducible refine Kd.C_drewN ?_ _) | (with_reducible refine Kd.C_drew ?_))); (case side2 => exact HC0_1.out); rintro e w21 ⟨rfl, hb⟩; refine ⟨_, rfl, ?_⟩; have n0_ := Aside0.mk (blk_below (g := gb180) (o := .cells #[.int .i64 a0_0, .slice A0_1 l0_1.length c0_1] 24 (0, 0)) (bk_ BK180) hb); have n1_ := Aside0.mk (blk_below (g := gb181) (o := .cells #[.int .i64 a1_0, .int .i64 a1_1, .int .i64 a1_2] 26 (0, 0)) (bk_ BK181) hb); have n2_ := Aside0.mk (below_step (bl_) hb); clear BK180; clear BK181; clear HB; have BK180 := n0_; have BK181 := n1_; have HB := n2_; clear n0_ n1_ n2_; (try clear hb); (try clear hb2); (try clear hk); (try clear hi)))
  have n0_ := Aside0.mk (blk_drew BK180.out)
  have n1_ := Aside0.mk (blk_drew BK181.out)
  have n2_ := Aside0.mk (below_drew1 HB.out)
  clear BK180
  clear BK181
  clear HB
  have BK180 := n0_
  have BK181 := n1_
  have HB := n2_
  clear n0_ n1_ n2_
  refine start_ (n := 11) (S := fun w' => w'.cell? ⟨gb180, 0, none⟩ = some (.int .i64 a0_0) ∧ w'.cell? ⟨gb180, 1, none⟩ = some (.slice A0_1 l0_1.length c0_1) ∧ w'.cell? ⟨gb181, 0, none⟩ = some (.int .i64 a1_0) ∧ w'.cell? ⟨gb181, 1, none⟩ = some (.int .i64 a1_1) ∧ w'.cell? ⟨gb181, 2, none⟩ = some (.int .i64 a1_2)) (ds := []) #[false, false, false, false, false, false, false, false, false, false, false] (by kernel_rfl) rfl rfl ⟨(blk_cell BK180.out 0).trans rfl, (blk_cell BK180.out 1).trans rfl, (blk_cell BK181.out 0).trans rfl, (blk_cell BK181.out 1).trans rfl, (blk_cell BK181.out 2).trans rfl⟩ (fun hHeld => ?_); refine with_tabW laws_FnExactAddBridge.tab5 laws_FnExactAddBridge.bits5 (fun HT_ HW_ => ?_)
  generalize w21.drew = w22 at BK180 BK181 HB hHeld ⊢
  refine take_ (i := 0) (N := some 22) (v := ?_) (a' := ?_) #[true, false, false, false, false, false, false, false, false, false, false] rfl rfl (take_ofW HT_.out HW_.out (by kernel_rfl)) (fun _ _ _ h => h) (Or.inl ⟨by rfl, ?_⟩) hHeld ?_ ?_
  rotate_left
  ·rintro w' ⟨s0, s1, s2, s3, s4⟩
   go_simp
   with_reducible rfl
  rotate_left
  ·simp only [Act.put, List.setIfInBounds_toArray, List.set_cons_zero, List.set_cons_succ, i64_w, i32_w]
   rfl
  refine take_ (i := 2) (N := some 24) (v := ?_) (a' := ?_) #[true, false, true, false, false, false, false, false, false, false, false] rfl rfl (take_ofW HT_.out HW_.out (by kernel_rfl)) (fun _ _ _ h => h) (Or.inl ⟨by rfl, ?_⟩) hHeld ?_ ?_
  rotate_left
  ·rintro w' ⟨s0, s1, s2, s3, s4⟩
   go_simp
   with_reducible rfl
  rotate_left
  ·simp only [Act.put, List.setIfInBounds_toArray, List.set_cons_zero, List.set_cons_succ, i64_w, i32_w]
   rfl
  refine join_ (σ := Value × Value × Nat) 2 #[true, true, true, true, true, true, true, true, true, false, false] (fun s_ => [(23, .agg #[.int .i64 t183, s_.1]), (25, .agg #[.int .i64 t187, .int .i64 t188, .int .i64 t189]), (26, .tuple #[.agg #[.int .i64 t190, s_.2.1], .bool t194]), (6, .pointer (some ⟨s_.2.2, 0, none⟩)), (21, .tuple #[.agg #[.int .i64 t190, s_.2.1], .bool t194]), (27, .agg #[.int .i64 t190, s_.2.1]), (28, .bool t194)]) (fun s_ w' => (w'.cell? ⟨gb180, 0, none⟩ = some (.int .i64 a0_0) ∧ w'.cell? ⟨gb180, 1, none⟩ = some (.slice A0_1 l0_1.length c0_1) ∧ w'.cell? ⟨gb181, 0, none⟩ = some (.int .i64 a1_0) ∧ w'.cell? ⟨gb181, 1, none⟩ = some (.int .i64 a1_1) ∧ w'.cell? ⟨gb181, 2, none⟩ = some (.int .i64 a1_2)) ∧ (Kd.R k34 34 w' w.heap.size (fun k_ => some k_ ≠ (s_.2.1 : Value).ownBlock) s_.1 t184) ∧ (Kd.R k34 34 w' w.heap.size (fun k_ => some k_ ≠ (s_.1 : Value).ownBlock) s_.2.1 t191) ∧ (w'.heap[gb180]? = some (.cells #[.int .i64 a0_0, .slice A0_1 l0_1.length c0_1] 24 (0, 0))) ∧ (w'.heap[gb181]? = some (.cells #[.int .i64 a1_0, .int .i64 a1_1, .int .i64 a1_2] 26 (0, 0))) ∧ (w'.heap[s_.2.2]? = some (.cells #[.int .i64 0, .slice none 0 0] 30 (0, 0))) ∧ (w.heap.size ≤ s_.2.2) ∧ (w.heap.size ≤ s_.2.2) ∧ (gb180 ≠ s_.2.2) ∧ (s_.2.2 ≠ gb180) ∧ (gb181 ≠ s_.2.2) ∧ (s_.2.2 ≠ gb181) ∧ (Below w.heap.size w w')) ?_ ?_
  rotate_left
  ·intro hCont
   refine two_ (i := 1) (j := 8) (Ni := some 23) (Nj := some 6) #[true, true, true, false, false, false, false, false, false, false, false] #[true, false, true, false, false, false, false, false, true, false, false] rfl rfl rfl rfl (two_of HT_.out (by kernel_rfl)) (by decide) (by decide) (fun K hK => ?_) (fun K hK => ?_)
   ·skip
    refine goes_ Try.func6 (by kernel_rfl) rfl #[.agg #[.int .i64 a0_0, .slice A0_1 l0_1.length c0_1]] (by rfl) rfl rfl ar_ ?_
    with_reducible refine (laws_toIsles.calls k a0_0 _ _ l0_1 t183 t184 _ ?side1 ?side2 A10.out).mono ?_
    (case side1 => repeat (first | exact (Kd.C_below HR0_1.out HB.out) | (with_reducible refine Kd.C_alloc ?_ _) | (with_reducible refine Kd.C_drewN ?_ _) | (with_reducible refine Kd.C_drew ?_)))
    (case side2 => exact HC0_1.out)
    rintro e w23 ⟨v185, rfl, ho0, hb⟩
    refine ⟨_, rfl, ?_⟩
    have n0_ := Aside0.mk (Kd.R_lower ho0 (below_size (bl_)))
    have n1_ := Aside0.mk (blk_below (g := gb180) (o := .cells #[.int .i64 a0_0, .slice A0_1 l0_1.length c0_1] 24 (0, 0)) (bk_ BK180) hb)
    have n2_ := Aside0.mk (blk_below (g := gb181) (o := .cells #[.int .i64 a1_0, .int .i64 a1_1, .int .i64 a1_2] 26 (0, 0)) (bk_ BK181) hb)
    have n3_ := Aside0.mk (below_step (bl_) hb)
    clear BK180
    clear BK181
    clear HB
    have HO186 := n0_
    have BK180 := n1_
    have BK181 := n2_
    have HB := n3_
    clear n0_ n1_ n2_ n3_
    (try clear hb)
    (try clear hb2)
    (try clear hk)
    (try clear hi)
    (try clear ho0)
    refine hK.out _ _ ⟨(blk_cell BK180.out 0).trans rfl, (blk_cell BK180.out 1).trans rfl, (blk_cell BK181.out 0).trans rfl, (blk_cell BK181.out 1).trans rfl, (blk_cell BK181.out 2).trans rfl⟩ (fun hHeld => ?_)
    clear hK K
    refine norm_ (a' := ?_) ?_ ?_
    rotate_left
    ·show Act.put _ (some 23) _ = _
     simp only [Act.put, List.setIfInBounds_toArray, List.set_cons_zero, List.set_cons_succ, i64_w, i32_w]
     rfl
    refine two_ (i := 3) (j := 8) (Ni := some 25) (Nj := some 6) #[true, true, true, true, false, false, false, false, false, false, false] #[true, true, true, false, false, false, false, false, true, false, false] rfl rfl rfl rfl (two_of HT_.out (by kernel_rfl)) (by decide) (by decide) (fun K hK => ?_) (fun K hK => ?_)
    ·skip
     refine goes_ Try.func7 (by kernel_rfl) rfl #[.agg #[.int .i64 a1_0, .int .i64 a1_1, .int .i64 a1_2]] (by rfl) rfl rfl ar_ ?_
     with_reducible refine (laws_toBridge.calls a1_0 a1_1 a1_2 t187 t188 t189 _ A11.out).mono ?_
     rintro e w24 ⟨rfl, hb⟩
     refine ⟨_, rfl, ?_⟩
     have n0_ := Aside0.mk (Kd.R_below (rr_ HO186) hb)
     have n1_ := Aside0.mk (blk_below (g := gb180) (o := .cells #[.int .i64 a0_0, .slice A0_1 l0_1.length c0_1] 24 (0, 0)) (bk_ BK180) hb)
     have n2_ := Aside0.mk (blk_below (g := gb181) (o := .cells #[.int .i64 a1_0, .int .i64 a1_1, .int .i64 a1_2] 26 (0, 0)) (bk_ BK181) hb)
     have n3_ := Aside0.mk (below_step (bl_) hb)
     clear HO186
     clear BK180
     clear BK181
     clear HB
     have HO186 := n0_
     have BK180 := n1_
     have BK181 := n2_
     have HB := n3_
     clear n0_ n1_ n2_ n3_
     (try clear hb)
     (try clear hb2)
     (try clear hk)
     (try clear hi)
     obtain ⟨Ao25, co25, eo25⟩ := Kd.R_slice HO186.out
     (first | subst eo25 | (injection eo25 with f1_ f2_ f3_; have f4_ := f1_.symm; have f5_ := f3_.symm; clear f1_ f2_ f3_; subst f4_; subst f5_))
     refine hK.out _ _ ⟨(blk_cell BK180.out 0).trans rfl, (blk_cell BK180.out 1).trans rfl, (blk_cell BK181.out 0).trans rfl, (blk_cell BK181.out 1).trans rfl, (blk_cell BK181.out 2).trans rfl⟩ (fun hHeld => ?_)
     clear hK K
     refine norm_ (a' := ?_) ?_ ?_
     rotate_left
     ·show Act.put _ (some 25) _ = _
      simp only [Act.put, List.setIfInBounds_toArray, List.set_cons_zero, List.set_cons_succ, i64_w, i32_w]
      rfl
     refine two_ (i := 4) (j := 8) (Ni := some 26) (Nj := some 6) #[true, true, true, true, true, false, false, false, false, false, false] #[true, true, true, true, false, false, false, false, true, false, false] rfl rfl rfl rfl (two_of HT_.out (by kernel_rfl)) (by decide) (by decide) (fun K hK => ?_) (fun K hK => ?_)
     ·skip
      refine goes_ Try.func5 (by kernel_rfl) rfl #[.agg #[.int .i64 t183, .slice Ao25 t184.length co25], .agg #[.int .i64 t187, .int .i64 t188, .int .i64 t189]] (by rfl) rfl rfl ar_ ?_
      with_reducible refine (spec_AddBridge.calls k t183 _ _ t184 t187 t188 t189 t190 t191 t194 _ ?side1 ?side2 A12.out).mono ?_
      (case side1 => repeat (first | exact (Kd.R_reads' HO186.out).2.2 | (with_reducible refine Kd.C_alloc ?_ _) | (with_reducible refine Kd.C_drewN ?_ _) | (with_reducible refine Kd.C_drew ?_)))
      (case side2 => exact (Kd.R_reads' HO186.out).2.1)
      rintro e w26 ⟨v192, rfl, ho0, hb⟩
      refine ⟨_, rfl, ?_⟩
      have n0_ := Aside0.mk (Kd.R_elder' (rr_ HO186) (Kd.R_base ho0) hb)
      have n1_ := Aside0.mk (Kd.R_lower (Kd.R_new' ho0 (Kd.R_lt (rr_ HO186))) (below_size (bl_)))
      have n2_ := Aside0.mk (blk_below (g := gb180) (o := .cells #[.int .i64 a0_0, .slice A0_1 l0_1.length c0_1] 24 (0, 0)) (bk_ BK180) hb)
      have n3_ := Aside0.mk (blk_below (g := gb181) (o := .cells #[.int .i64 a1_0, .int .i64 a1_1, .int .i64 a1_2] 26 (0, 0)) (bk_ BK181) hb)
      have n4_ := Aside0.mk (below_step (bl_) hb)
      clear HO186
      clear BK180
      clear BK181
      clear HB
      have HO186 := n0_
      have HO193 := n1_
      have BK180 := n2_
      have BK181 := n3_
      have HB := n4_
      clear n0_ n1_ n2_ n3_ n4_
      (try clear hb)
      (try clear hb2)
      (try clear hk)
      (try clear hi)
      (try clear ho0)
      refine hK.out _ _ ⟨(blk_cell BK180.out 0).trans rfl, (blk_cell BK180.out 1).trans rfl, (blk_cell BK181.out 0).trans rfl, (blk_cell BK181.out 1).trans rfl, (blk_cell BK181.out 2).trans rfl⟩ (fun hHeld => ?_)
      clear hK K
      refine norm_ (a' := ?_) ?_ ?_
      rotate_left
      ·show Act.put _ (some 26) _ = _
       simp only [Act.put, List.setIfInBounds_toArray, List.set_cons_zero, List.set_cons_succ, i64_w, i32_w]
       rfl
      refine pure_ (i := 5) (N := some 21) (v := ?_) (a' := ?_) #[true, true, true, true, true, true, false, false, false, false, false] rfl rfl (any_of HT_.out (by kernel_rfl)) (fun _ _ _ h => h) (Or.inl ⟨by rfl, ?_⟩) ?_ ?_
      rotate_left
      ·intro w'
       go_simp
       with_reducible rfl
      rotate_left
      ·simp only [Act.put, List.setIfInBounds_toArray, List.set_cons_zero, List.set_cons_succ, i64_w, i32_w]
       rfl
      refine pure_ (i := 6) (N := some 27) (v := ?_) (a' := ?_) #[true, true, true, true, true, true, true, false, false, false, false] rfl rfl (any_of HT_.out (by kernel_rfl)) (fun _ _ _ h => h) (Or.inl ⟨by rfl, ?_⟩) ?_ ?_
      rotate_left
      ·intro w'
       go_simp
       with_reducible rfl
      rotate_left
      ·simp only [Act.put, List.setIfInBounds_toArray, List.set_cons_zero, List.set_cons_succ, i64_w, i32_w]
       rfl
      refine pure_ (i := 7) (N := some 28) (v := ?_) (a' := ?_) #[true, true, true, true, true, true, true, true, false, false, false] rfl rfl (any_of HT_.out (by kernel_rfl)) (fun _ _ _ h => h) (Or.inl ⟨by rfl, ?_⟩) ?_ ?_
      rotate_left
      ·intro w'
       go_simp
       with_reducible rfl
      rotate_left
      ·simp only [Act.put, List.setIfInBounds_toArray, List.set_cons_zero, List.set_cons_succ, i64_w, i32_w]
       rfl
      refine one_ (i := 8) (N := some 6) #[true, true, true, true, true, true, true, true, true, false, false] rfl rfl (one_of HT_.out (by kernel_rfl)) (by decide) (fun K hK => ?_)
      refine box_step ?hg (N := 6) ?hd (cs := #[.int .i64 0, .slice none 0 0]) (t := 30) ?hr ?_; (case hd => rfl); (case hg => rfl); (case hr => first | (go_simp; done) | (go_simp; rfl))
      intro gb195 hg w27 hbox hb
      have n0_ := Aside0.mk (Kd.R_below (rr_ HO186) hb)
      have n1_ := Aside0.mk (Kd.R_below (rr_ HO193) hb)
      have n2_ := Aside0.mk (blk_below (g := gb180) (o := .cells #[.int .i64 a0_0, .slice A0_1 l0_1.length c0_1] 24 (0, 0)) (bk_ BK180) hb)
      have n3_ := Aside0.mk (blk_below (g := gb181) (o := .cells #[.int .i64 a1_0, .int .i64 a1_1, .int .i64 a1_2] 26 (0, 0)) (bk_ BK181) hb)
      have n4_ := Aside0.mk (below_step (bl_) hb)
      have n5_ := Aside0.mk (hbox)
      have n6_ := Aside0.mk ((by rw [hg]; exact (below_size (bl_)) : w.heap.size ≤ gb195))
      have n7_ := Aside0.mk ((by rw [hg]; exact (below_size (bl_)) : w.heap.size ≤ gb195))
      have n8_ := Aside0.mk ((by rw [hg]; exact Nat.ne_of_lt (blk_lt (g := gb180) (o := .cells #[.int .i64 a0_0, .slice A0_1 l0_1.length c0_1] 24 (0, 0)) (bk_ BK180)) : gb180 ≠ gb195))
      have n9_ := Aside0.mk ((by rw [hg]; exact Nat.ne_of_gt (blk_lt (g := gb180) (o := .cells #[.int .i64 a0_0, .slice A0_1 l0_1.length c0_1] 24 (0, 0)) (bk_ BK180)) : gb195 ≠ gb180))
      have n10_ := Aside0.mk ((by rw [hg]; exact Nat.ne_of_lt (blk_lt (g := gb181) (o := .cells #[.int .i64 a1_0, .int .i64 a1_1, .int .i64 a1_2] 26 (0, 0)) (bk_ BK181)) : gb181 ≠ gb195))
      have n11_ := Aside0.mk ((by rw [hg]; exact Nat.ne_of_gt (blk_lt (g := gb181) (o := .cells #[.int .i64 a1_0, .int .i64 a1_1, .int .i64 a1_2] 26 (0, 0)) (bk_ BK181)) : gb195 ≠ gb181))
      clear HO186
      clear HO193
      clear BK180
      clear BK181
      clear HB
      have HO186 := n0_
      have HO193 := n1_
      have BK180 := n2_
      have BK181 := n3_
      have HB := n4_
      have BK195 := n5_
      have GW195 := n6_
      have GE195 := n7_
      have NB180_195 := n8_
      have NB195_180 := n9_
      have NB181_195 := n10_
      have NB195_181 := n11_
      clear n0_ n1_ n2_ n3_ n4_ n5_ n6_ n7_ n8_ n9_ n10_ n11_
      clear hb hbox hg
      refine hK.out _ _ ⟨(blk_cell BK180.out 0).trans rfl, (blk_cell BK180.out 1).trans rfl, (blk_cell BK181.out 0).trans rfl, (blk_cell BK181.out 1).trans rfl, (blk_cell BK181.out 2).trans rfl⟩ (fun hHeld => ?_)
      clear hK K
      refine norm_ (a' := ?_) ?_ ?_
      rotate_left
      ·show Act.put _ (some 6) _ = _
       simp only [Act.put, List.setIfInBounds_toArray, List.set_cons_zero, List.set_cons_succ, i64_w, i32_w]
       rfl
      exact norm_ (by simp only [putAll, Act.put, List.setIfInBounds_toArray, List.set_cons_zero, List.set_cons_succ]) (hCont (.slice Ao25 t184.length co25, v192, gb195) _ ⟨hHeld, (by (with_reducible repeat (first | apply Kd.R_alloc | apply Kd.R_drewN | apply Kd.R_drew)); exact Kd.R_mono HO186.out (fun _ hk => hk.2)), (by (with_reducible repeat (first | apply Kd.R_alloc | apply Kd.R_drewN | apply Kd.R_drew)); exact Kd.R_mono HO193.out (fun _ hk => hk.2)), (bk_ BK180), (bk_ BK181), (bk_ BK195), GW195.out, GE195.out, NB180_195.out, NB195_180.out, NB181_195.out, NB195_181.out, (bl_)⟩)
     ·skip
      refine box_step ?hg (N := 6) ?hd (cs := #[.int .i64 0, .slice none 0 0]) (t := 30) ?hr ?_; (case hd => rfl); (case hg => rfl); (case hr => first | (go_simp; done) | (go_simp; rfl))
      intro gb195 hg w25 hbox hb
      have n0_ := Aside0.mk (Kd.R_below (rr_ HO186) hb)
      have n1_ := Aside0.mk (blk_below (g := gb180) (o := .cells #[.int .i64 a0_0, .slice A0_1 l0_1.length c0_1] 24 (0, 0)) (bk_ BK180) hb)
      have n2_ := Aside0.mk (blk_below (g := gb181) (o := .cells #[.int .i64 a1_0, .int .i64 a1_1, .int .i64 a1_2] 26 (0, 0)) (bk_ BK181) hb)
      have n3_ := Aside0.mk (below_step (bl_) hb)
      have n4_ := Aside0.mk (hbox)
      have n5_ := Aside0.mk ((by rw [hg]; exact (below_size (bl_)) : w.heap.size ≤ gb195))
      have n6_ := Aside0.mk ((by rw [hg]; exact (below_size (bl_)) : w.heap.size ≤ gb195))
      have n7_ := Aside0.mk ((by rw [hg]; exact Nat.ne_of_lt (blk_lt (g := gb180) (o := .cells #[.int .i64 a0_0, .slice A0_1 l0_1.length c0_1] 24 (0, 0)) (bk_ BK180)) : gb180 ≠ gb195))
      have n8_ := Aside0.mk ((by rw [hg]; exact Nat.ne_of_gt (blk_lt (g := gb180) (o := .cells #[.int .i64 a0_0, .slice A0_1 l0_1.length c0_1] 24 (0, 0)) (bk_ BK180)) : gb195 ≠ gb180))
      have n9_ := Aside0.mk ((by rw [hg]; exact Nat.ne_of_lt (blk_lt (g := gb181) (o := .cells #[.int .i64 a1_0, .int .i64 a1_1, .int .i64 a1_2] 26 (0, 0)) (bk_ BK181)) : gb181 ≠ gb195))
      have n10_ := Aside0.mk ((by rw [hg]; exact Nat.ne_of_gt (blk_lt (g := gb181) (o := .cells #[.int .i64 a1_0, .int .i64 a1_1, .int .i64 a1_2] 26 (0, 0)) (bk_ BK181)) : gb195 ≠ gb181))
      clear HO186
      clear BK180
      clear BK181
      clear HB
      have HO186 := n0_
      have BK180 := n1_
      have BK181 := n2_
      have HB := n3_
      have BK195 := n4_
      have GW195 := n5_
      have GE195 := n6_
      have NB180_195 := n7_
      have NB195_180 := n8_
      have NB181_195 := n9_
      have NB195_181 := n10_
      clear n0_ n1_ n2_ n3_ n4_ n5_ n6_ n7_ n8_ n9_ n10_
      clear hb hbox hg
      obtain ⟨Ao26, co26, eo26⟩ := Kd.R_slice HO186.out
      (first | subst eo26 | (injection eo26 with f1_ f2_ f3_; have f4_ := f1_.symm; have f5_ := f3_.symm; clear f1_ f2_ f3_; subst f4_; subst f5_))
      refine hK.out _ _ ⟨(blk_cell BK180.out 0).trans rfl, (blk_cell BK180.out 1).trans rfl, (blk_cell BK181.out 0).trans rfl, (blk_cell BK181.out 1).trans rfl, (blk_cell BK181.out 2).trans rfl⟩ (fun hHeld => ?_)
      clear hK K
      refine norm_ (a' := ?_) ?_ ?_
      rotate_left
      ·show Act.put _ (some 6) _ = _
       simp only [Act.put, List.setIfInBounds_toArray, List.set_cons_zero, List.set_cons_succ, i64_w, i32_w]
       rfl
      refine one_ (i := 4) (N := some 26) #[true, true, true, true, true, false, false, false, true, false, false] rfl rfl (one_of HT_.out (by kernel_rfl)) (by decide) (fun K hK => ?_)
      refine goes_ Try.func5 (by kernel_rfl) rfl #[.agg #[.int .i64 t183, .slice Ao26 t184.length co26], .agg #[.int .i64 t187, .int .i64 t188, .int .i64 t189]] (by rfl) rfl rfl ar_ ?_
      with_reducible refine (spec_AddBridge.calls k t183 _ _ t184 t187 t188 t189 t190 t191 t194 _ ?side1 ?side2 A12.out).mono ?_
      (case side1 => repeat (first | exact (Kd.R_reads' HO186.out).2.2 | (with_reducible refine Kd.C_alloc ?_ _) | (with_reducible refine Kd.C_drewN ?_ _) | (with_reducible refine Kd.C_drew ?_)))
      (case side2 => exact (Kd.R_reads' HO186.out).2.1)
      rintro e w27 ⟨v192, rfl, ho0, hb⟩
      refine ⟨_, rfl, ?_⟩
      have n0_ := Aside0.mk (Kd.R_elder' (rr_ HO186) (Kd.R_base ho0) hb)
      have n1_ := Aside0.mk (Kd.R_lower (Kd.R_new' ho0 (Kd.R_lt (rr_ HO186))) (below_size (bl_)))
      have n2_ := Aside0.mk (blk_below (g := gb180) (o := .cells #[.int .i64 a0_0, .slice A0_1 l0_1.length c0_1] 24 (0, 0)) (bk_ BK180) hb)
      have n3_ := Aside0.mk (blk_below (g := gb181) (o := .cells #[.int .i64 a1_0, .int .i64 a1_1, .int .i64 a1_2] 26 (0, 0)) (bk_ BK181) hb)
      have n4_ := Aside0.mk (blk_below (g := gb195) (o := .cells #[.int .i64 0, .slice none 0 0] 30 (0, 0)) (bk_ BK195) hb)
      have n5_ := Aside0.mk (below_step (bl_) hb)
      clear HO186
      clear BK180
      clear BK181
      clear BK195
      clear HB
      have HO186 := n0_
      have HO193 := n1_
      have BK180 := n2_
      have BK181 := n3_
      have BK195 := n4_
      have HB := n5_
      clear n0_ n1_ n2_ n3_ n4_ n5_
      (try clear hb)
      (try clear hb2)
      (try clear hk)
      (try clear hi)
      (try clear ho0)
      refine hK.out _ _ ⟨(blk_cell BK180.out 0).trans rfl, (blk_cell BK180.out 1).trans rfl, (blk_cell BK181.out 0).trans rfl, (blk_cell BK181.out 1).trans rfl, (blk_cell BK181.out 2).trans rfl⟩ (fun hHeld => ?_)
      clear hK K
      refine norm_ (a' := ?_) ?_ ?_
      rotate_left
      ·show Act.put _ (some 26) _ = _
       simp only [Act.put, List.setIfInBounds_toArray, List.set_cons_zero, List.set_cons_succ, i64_w, i32_w]
       rfl
      refine pure_ (i := 5) (N := some 21) (v := ?_) (a' := ?_) #[true, true, true, true, true, true, false, false, true, false, false] rfl rfl (any_of HT_.out (by kernel_rfl)) (fun _ _ _ h => h) (Or.inl ⟨by rfl, ?_⟩) ?_ ?_
      rotate_left
      ·intro w'
       go_simp
       with_reducible rfl
      rotate_left
      ·simp only [Act.put, List.setIfInBounds_toArray, List.set_cons_zero, List.set_cons_succ, i64_w, i32_w]
       rfl
      refine pure_ (i := 6) (N := some 27) (v := ?_) (a' := ?_) #[true, true, true, true, true, true, true, false, true, false, false] rfl rfl (any_of HT_.out (by kernel_rfl)) (fun _ _ _ h => h) (Or.inl ⟨by rfl, ?_⟩) ?_ ?_
      rotate_left
      ·intro w'
       go_simp
       with_reducible rfl
      rotate_left
      ·simp only [Act.put, List.setIfInBounds_toArray, List.set_cons_zero, List.set_cons_succ, i64_w, i32_w]
       rfl
      refine pure_ (i := 7) (N := some 28) (v := ?_) (a' := ?_) #[true, true, true, true, true, true, true, true, true, false, false] rfl rfl (any_of HT_.out (by kernel_rfl)) (fun _ _ _ h => h) (Or.inl ⟨by rfl, ?_⟩) ?_ ?_
      rotate_left
      ·intro w'
       go_simp
       with_reducible rfl
      rotate_left
      ·simp only [Act.put, List.setIfInBounds_toArray, List.set_cons_zero, List.set_cons_succ, i64_w, i32_w]
       rfl
      exact norm_ (by simp only [putAll, Act.put, List.setIfInBounds_toArray, List.set_cons_zero, List.set_cons_succ]) (hCont (.slice Ao26 t184.length co26, v192, gb195) _ ⟨hHeld, (by (with_reducible repeat (first | apply Kd.R_alloc | apply Kd.R_drewN | apply Kd.R_drew)); exact Kd.R_mono HO186.out (fun _ hk => hk.2)), (by (with_reducible repeat (first | apply Kd.R_alloc | apply Kd.R_drewN | apply Kd.R_drew)); exact Kd.R_mono HO193.out (fun _ hk => hk.2)), (bk_ BK180), (bk_ BK181), (bk_ BK195), GW195.out, GE195.out, NB180_195.out, NB195_180.out, NB181_195.out, NB195_181.out, (bl_)⟩)
    ·skip
     refine box_step ?hg (N := 6) ?hd (cs := #[.int .i64 0, .slice none 0 0]) (t := 30) ?hr ?_; (case hd => rfl); (case hg => rfl); (case hr => first | (go_simp; done) | (go_simp; rfl))
     intro gb195 hg w24 hbox hb
     have n0_ := Aside0.mk (Kd.R_below (rr_ HO186) hb)
     have n1_ := Aside0.mk (blk_below (g := gb180) (o := .cells #[.int .i64 a0_0, .slice A0_1 l0_1.length c0_1] 24 (0, 0)) (bk_ BK180) hb)
     have n2_ := Aside0.mk (blk_below (g := gb181) (o := .cells #[.int .i64 a1_0, .int .i64 a1_1, .int .i64 a1_2] 26 (0, 0)) (bk_ BK181) hb)
     have n3_ := Aside0.mk (below_step (bl_) hb)
     have n4_ := Aside0.mk (hbox)
     have n5_ := Aside0.mk ((by rw [hg]; exact (below_size (bl_)) : w.heap.size ≤ gb195))
     have n6_ := Aside0.mk ((by rw [hg]; exact (below_size (bl_)) : w.heap.size ≤ gb195))
     have n7_ := Aside0.mk ((by rw [hg]; exact Nat.ne_of_lt (blk_lt (g := gb180) (o := .cells #[.int .i64 a0_0, .slice A0_1 l0_1.length c0_1] 24 (0, 0)) (bk_ BK180)) : gb180 ≠ gb195))
     have n8_ := Aside0.mk ((by rw [hg]; exact Nat.ne_of_gt (blk_lt (g := gb180) (o := .cells #[.int .i64 a0_0, .slice A0_1 l0_1.length c0_1] 24 (0, 0)) (bk_ BK180)) : gb195 ≠ gb180))
     have n9_ := Aside0.mk ((by rw [hg]; exact Nat.ne_of_lt (blk_lt (g := gb181) (o := .cells #[.int .i64 a1_0, .int .i64 a1_1, .int .i64 a1_2] 26 (0, 0)) (bk_ BK181)) : gb181 ≠ gb195))
     have n10_ := Aside0.mk ((by rw [hg]; exact Nat.ne_of_gt (blk_lt (g := gb181) (o := .cells #[.int .i64 a1_0, .int .i64 a1_1, .int .i64 a1_2] 26 (0, 0)) (bk_ BK181)) : gb195 ≠ gb181))
     clear HO186
     clear BK180
     clear BK181
     clear HB
     have HO186 := n0_
     have BK180 := n1_
     have BK181 := n2_
     have HB := n3_
     have BK195 := n4_
     have GW195 := n5_
     have GE195 := n6_
     have NB180_195 := n7_
     have NB195_180 := n8_
     have NB181_195 := n9_
     have NB195_181 := n10_
     clear n0_ n1_ n2_ n3_ n4_ n5_ n6_ n7_ n8_ n9_ n10_
     clear hb hbox hg
     refine hK.out _ _ ⟨(blk_cell BK180.out 0).trans rfl, (blk_cell BK180.out 1).trans rfl, (blk_cell BK181.out 0).trans rfl, (blk_cell BK181.out 1).trans rfl, (blk_cell BK181.out 2).trans rfl⟩ (fun hHeld => ?_)
     clear hK K
     refine norm_ (a' := ?_) ?_ ?_
     rotate_left
     ·show Act.put _ (some 6) _ = _
      simp only [Act.put, List.setIfInBounds_toArray, List.set_cons_zero, List.set_cons_succ, i64_w, i32_w]
      rfl
     refine one_ (i := 3) (N := some 25) #[true, true, true, true, false, false, false, false, true, false, false] rfl rfl (one_of HT_.out (by kernel_rfl)) (by decide) (fun K hK => ?_)
     refine goes_ Try.func7 (by kernel_rfl) rfl #[.agg #[.int .i64 a1_0, .int .i64 a1_1, .int .i64 a1_2]] (by rfl) rfl rfl ar_ ?_
     with_reducible refine (laws_toBridge.calls a1_0 a1_1 a1_2 t187 t188 t189 _ A11.out).mono ?_
     rintro e w25 ⟨rfl, hb⟩
     refine ⟨_, rfl, ?_⟩
     have n0_ := Aside0.mk (Kd.R_below (rr_ HO186) hb)
     have n1_ := Aside0.mk (blk_below (g := gb180) (o := .cells #[.int .i64 a0_0, .slice A0_1 l0_1.length c0_1] 24 (0, 0)) (bk_ BK180) hb)
     have n2_ := Aside0.mk (blk_below (g := gb181) (o := .cells #[.int .i64 a1_0, .int .i64 a1_1, .int .i64 a1_2] 26 (0, 0)) (bk_ BK181) hb)
     have n3_ := Aside0.mk (blk_below (g := gb195) (o := .cells #[.int .i64 0, .slice none 0 0] 30 (0, 0)) (bk_ BK195) hb)
     have n4_ := Aside0.mk (below_step (bl_) hb)
     clear HO186
     clear BK180
     clear BK181
     clear BK195
     clear HB
     have HO186 := n0_
     have BK180 := n1_
     have BK181 := n2_
     have BK195 := n3_
     have HB := n4_
     clear n0_ n1_ n2_ n3_ n4_
     (try clear hb)
     (try clear hb2)
     (try clear hk)
     (try clear hi)
     obtain ⟨Ao26, co26, eo26⟩ := Kd.R_slice HO186.out
     (first | subst eo26 | (injection eo26 with f1_ f2_ f3_; have f4_ := f1_.symm; have f5_ := f3_.symm; clear f1_ f2_ f3_; subst f4_; subst f5_))
     refine hK.out _ _ ⟨(blk_cell BK180.out 0).trans rfl, (blk_cell BK180.out 1).trans rfl, (blk_cell BK181.out 0).trans rfl, (blk_cell BK181.out 1).trans rfl, (blk_cell BK181.out 2).trans rfl⟩ (fun hHeld => ?_)
     clear hK K
     refine norm_ (a' := ?_) ?_ ?_
     rotate_left
     ·show Act.put _ (some 25) _ = _
      simp only [Act.put, List.setIfInBounds_toArray, List.set_cons_zero, List.set_cons_succ, i64_w, i32_w]
      rfl
     refine one_ (i := 4) (N := some 26) #[true, true, true, true, true, false, false, false, true, false, false] rfl rfl (one_of HT_.out (by kernel_rfl)) (by decide) (fun K hK => ?_)
     refine goes_ Try.func5 (by kernel_rfl) rfl #[.agg #[.int .i64 t183, .slice Ao26 t184.length co26], .agg #[.int .i64 t187, .int .i64 t188, .int .i64 t189]] (by rfl) rfl rfl ar_ ?_
     with_reducible refine (spec_AddBridge.calls k t183 _ _ t184 t187 t188 t189 t190 t191 t194 _ ?side1 ?side2 A12.out).mono ?_
     (case side1 => repeat (first | exact (Kd.R_reads' HO186.out).2.2 | (with_reducible refine Kd.C_alloc ?_ _) | (with_reducible refine Kd.C_drewN ?_ _) | (with_reducible refine Kd.C_drew ?_)))
     (case side2 => exact (Kd.R_reads' HO186.out).2.1)
     rintro e w27 ⟨v192, rfl, ho0, hb⟩
     refine ⟨_, rfl, ?_⟩
     have n0_ := Aside0.mk (Kd.R_elder' (rr_ HO186) (Kd.R_base ho0) hb)
     have n1_ := Aside0.mk (Kd.R_lower (Kd.R_new' ho0 (Kd.R_lt (rr_ HO186))) (below_size (bl_)))
     have n2_ := Aside0.mk (blk_below (g := gb180) (o := .cells #[.int .i64 a0_0, .slice A0_1 l0_1.length c0_1] 24 (0, 0)) (bk_ BK180) hb)
     have n3_ := Aside0.mk (blk_below (g := gb181) (o := .cells #[.int .i64 a1_0, .int .i64 a1_1, .int .i64 a1_2] 26 (0, 0)) (bk_ BK181) hb)
     have n4_ := Aside0.mk (blk_below (g := gb195) (o := .cells #[.int .i64 0, .slice none 0 0] 30 (0, 0)) (bk_ BK195) hb)
     have n5_ := Aside0.mk (below_step (bl_) hb)
     clear HO186
     clear BK180
     clear BK181
     clear BK195
     clear HB
     have HO186 := n0_
     have HO193 := n1_
     have BK180 := n2_
     have BK181 := n3_
     have BK195 := n4_
     have HB := n5_
     clear n0_ n1_ n2_ n3_ n4_ n5_
     (try clear hb)
     (try clear hb2)
     (try clear hk)
     (try clear hi)
     (try clear ho0)
     refine hK.out _ _ ⟨(blk_cell BK180.out 0).trans rfl, (blk_cell BK180.out 1).trans rfl, (blk_cell BK181.out 0).trans rfl, (blk_cell BK181.out 1).trans rfl, (blk_cell BK181.out 2).trans rfl⟩ (fun hHeld => ?_)
     clear hK K
     refine norm_ (a' := ?_) ?_ ?_
     rotate_left
     ·show Act.put _ (some 26) _ = _
      simp only [Act.put, List.setIfInBounds_toArray, List.set_cons_zero, List.set_cons_succ, i64_w, i32_w]
      rfl
     refine pure_ (i := 5) (N := some 21) (v := ?_) (a' := ?_) #[true, true, true, true, true, true, false, false, true, false, false] rfl rfl (any_of HT_.out (by kernel_rfl)) (fun _ _ _ h => h) (Or.inl ⟨by rfl, ?_⟩) ?_ ?_
     rotate_left
     ·intro w'
      go_simp
      with_reducible rfl
     rotate_left
     ·simp only [Act.put, List.setIfInBounds_toArray, List.set_cons_zero, List.set_cons_succ, i64_w, i32_w]
      rfl
     refine pure_ (i := 6) (N := some 27) (v := ?_) (a' := ?_) #[true, true, true, true, true, true, true, false, true, false, false] rfl rfl (any_of HT_.out (by kernel_rfl)) (fun _ _ _ h => h) (Or.inl ⟨by rfl, ?_⟩) ?_ ?_
     rotate_left
     ·intro w'
      go_simp
      with_reducible rfl
     rotate_left
     ·simp only [Act.put, List.setIfInBounds_toArray, List.set_cons_zero, List.set_cons_succ, i64_w, i32_w]
      rfl
     refine pure_ (i := 7) (N := some 28) (v := ?_) (a' := ?_) #[true, true, true, true, true, true, true, true, true, false, false] rfl rfl (any_of HT_.out (by kernel_rfl)) (fun _ _ _ h => h) (Or.inl ⟨by rfl, ?_⟩) ?_ ?_
     rotate_left
     ·intro w'
      go_simp
      with_reducible rfl
     rotate_left
     ·simp only [Act.put, List.setIfInBounds_toArray, List.set_cons_zero, List.set_cons_succ, i64_w, i32_w]
      rfl
     exact norm_ (by simp only [putAll, Act.put, List.setIfInBounds_toArray, List.set_cons_zero, List.set_cons_succ]) (hCont (.slice Ao26 t184.length co26, v192, gb195) _ ⟨hHeld, (by (with_reducible repeat (first | apply Kd.R_alloc | apply Kd.R_drewN | apply Kd.R_drew)); exact Kd.R_mono HO186.out (fun _ hk => hk.2)), (by (with_reducible repeat (first | apply Kd.R_alloc | apply Kd.R_drewN | apply Kd.R_drew)); exact Kd.R_mono HO193.out (fun _ hk => hk.2)), (bk_ BK180), (bk_ BK181), (bk_ BK195), GW195.out, GE195.out, NB180_195.out, NB195_180.out, NB181_195.out, NB195_181.out, (bl_)⟩)
   ·skip
    refine box_step ?hg (N := 6) ?hd (cs := #[.int .i64 0, .slice none 0 0]) (t := 30) ?hr ?_; (case hd => rfl); (case hg => rfl); (case hr => first | (go_simp; done) | (go_simp; rfl))
    intro gb195 hg w23 hbox hb
    have n0_ := Aside0.mk (blk_below (g := gb180) (o := .cells #[.int .i64 a0_0, .slice A0_1 l0_1.length c0_1] 24 (0, 0)) (bk_ BK180) hb)
    have n1_ := Aside0.mk (blk_below (g := gb181) (o := .cells #[.int .i64 a1_0, .int .i64 a1_1, .int .i64 a1_2] 26 (0, 0)) (bk_ BK181) hb)
    have n2_ := Aside0.mk (below_step (bl_) hb)
    have n3_ := Aside0.mk (hbox)
    have n4_ := Aside0.mk ((by rw [hg]; exact (below_size (bl_)) : w.heap.size ≤ gb195))
    have n5_ := Aside0.mk ((by rw [hg]; exact (below_size (bl_)) : w.heap.size ≤ gb195))
    have n6_ := Aside0.mk ((by rw [hg]; exact Nat.ne_of_lt (blk_lt (g := gb180) (o := .cells #[.int .i64 a0_0, .slice A0_1 l0_1.length c0_1] 24 (0, 0)) (bk_ BK180)) : gb180 ≠ gb195))
    have n7_ := Aside0.mk ((by rw [hg]; exact Nat.ne_of_gt (blk_lt (g := gb180) (o := .cells #[.int .i64 a0_0, .slice A0_1 l0_1.length c0_1] 24 (0, 0)) (bk_ BK180)) : gb195 ≠ gb180))
    have n8_ := Aside0.mk ((by rw [hg]; exact Nat.ne_of_lt (blk_lt (g := gb181) (o := .cells #[.int .i64 a1_0, .int .i64 a1_1, .int .i64 a1_2] 26 (0, 0)) (bk_ BK181)) : gb181 ≠ gb195))
    have n9_ := Aside0.mk ((by rw [hg]; exact Nat.ne_of_gt (blk_lt (g := gb181) (o := .cells #[.int .i64 a1_0, .int .i64 a1_1, .int .i64 a1_2] 26 (0, 0)) (bk_ BK181)) : gb195 ≠ gb181))
    clear BK180
    clear BK181
    clear HB
    have BK180 := n0_
    have BK181 := n1_
    have HB := n2_
    have BK195 := n3_
    have GW195 := n4_
    have GE195 := n5_
    have NB180_195 := n6_
    have NB195_180 := n7_
    have NB181_195 := n8_
    have NB195_181 := n9_
    clear n0_ n1_ n2_ n3_ n4_ n5_ n6_ n7_ n8_ n9_
    clear hb hbox hg
    refine hK.out _ _ ⟨(blk_cell BK180.out 0).trans rfl, (blk_cell BK180.out 1).trans rfl, (blk_cell BK181.out 0).trans rfl, (blk_cell BK181.out 1).trans rfl, (blk_cell BK181.out 2).trans rfl⟩ (fun hHeld => ?_)
    clear hK K
    refine norm_ (a' := ?_) ?_ ?_
    rotate_left
    ·show Act.put _ (some 6) _ = _
     simp only [Act.put, List.setIfInBounds_toArray, List.set_cons_zero, List.set_cons_succ, i64_w, i32_w]
     rfl
    refine one_ (i := 1) (N := some 23) #[true, true, true, false, false, false, false, false, true, false, false] rfl rfl (one_of HT_.out (by kernel_rfl)) (by decide) (fun K hK => ?_)
    refine goes_ Try.func6 (by kernel_rfl) rfl #[.agg #[.int .i64 a0_0, .slice A0_1 l0_1.length c0_1]] (by rfl) rfl rfl ar_ ?_
    with_reducible refine (laws_toIsles.calls k a0_0 _ _ l0_1 t183 t184 _ ?side1 ?side2 A10.out).mono ?_
    (case side1 => repeat (first | exact (Kd.C_below HR0_1.out HB.out) | (with_reducible refine Kd.C_alloc ?_ _) | (with_reducible refine Kd.C_drewN ?_ _) | (with_reducible refine Kd.C_drew ?_)))
    (case side2 => exact HC0_1.out)
    rintro e w24 ⟨v185, rfl, ho0, hb⟩
    refine ⟨_, rfl, ?_⟩
    have n0_ := Aside0.mk (Kd.R_lower ho0 (below_size (bl_)))
    have n1_ := Aside0.mk (blk_below (g := gb180) (o := .cells #[.int .i64 a0_0, .slice A0_1 l0_1.length c0_1] 24 (0, 0)) (bk_ BK180) hb)
    have n2_ := Aside0.mk (blk_below (g := gb181) (o := .cells #[.int .i64 a1_0, .int .i64 a1_1, .int .i64 a1_2] 26 (0, 0)) (bk_ BK181) hb)
    have n3_ := Aside0.mk (blk_below (g := gb195) (o := .cells #[.int .i64 0, .slice none 0 0] 30 (0, 0)) (bk_ BK195) hb)
    have n4_ := Aside0.mk (below_step (bl_) hb)
    clear BK180
    clear BK181
    clear BK195
    clear HB
    have HO186 := n0_
    have BK180 := n1_
    have BK181 := n2_
    have BK195 := n3_
    have HB := n4_
    clear n0_ n1_ n2_ n3_ n4_
    (try clear hb)
    (try clear hb2)
    (try clear hk)
    (try clear hi)
    (try clear ho0)
    refine hK.out _ _ ⟨(blk_cell BK180.out 0).trans rfl, (blk_cell BK180.out 1).trans rfl, (blk_cell BK181.out 0).trans rfl, (blk_cell BK181.out 1).trans rfl, (blk_cell BK181.out 2).trans rfl⟩ (fun hHeld => ?_)
    clear hK K
    refine norm_ (a' := ?_) ?_ ?_
    rotate_left
    ·show Act.put _ (some 23) _ = _
     simp only [Act.put, List.setIfInBounds_toArray, List.set_cons_zero, List.set_cons_succ, i64_w, i32_w]
     rfl
    refine one_ (i := 3) (N := some 25) #[true, true, true, true, false, false, false, false, true, false, false] rfl rfl (one_of HT_.out (by kernel_rfl)) (by decide) (fun K hK => ?_)
    refine goes_ Try.func7 (by kernel_rfl) rfl #[.agg #[.int .i64 a1_0, .int .i64 a1_1, .int .i64 a1_2]] (by rfl) rfl rfl ar_ ?_
    with_reducible refine (laws_toBridge.calls a1_0 a1_1 a1_2 t187 t188 t189 _ A11.out).mono ?_
    rintro e w25 ⟨rfl, hb⟩
    refine ⟨_, rfl, ?_⟩
    have n0_ := Aside0.mk (Kd.R_below (rr_ HO186) hb)
    have n1_ := Aside0.mk (blk_below (g := gb180) (o := .cells #[.int .i64 a0_0, .slice A0_1 l0_1.length c0_1] 24 (0, 0)) (bk_ BK180) hb)
    have n2_ := Aside0.mk (blk_below (g := gb181) (o := .cells #[.int .i64 a1_0, .int .i64 a1_1, .int .i64 a1_2] 26 (0, 0)) (bk_ BK181) hb)
    have n3_ := Aside0.mk (blk_below (g := gb195) (o := .cells #[.int .i64 0, .slice none 0 0] 30 (0, 0)) (bk_ BK195) hb)
    have n4_ := Aside0.mk (below_step (bl_) hb)
    clear HO186
    clear BK180
    clear BK181
    clear BK195
    clear HB
    have HO186 := n0_
    have BK180 := n1_
    have BK181 := n2_
    have BK195 := n3_
    have HB := n4_
    clear n0_ n1_ n2_ n3_ n4_
    (try clear hb)
    (try clear hb2)
    (try clear hk)
    (try clear hi)
    obtain ⟨Ao26, co26, eo26⟩ := Kd.R_slice HO186.out
    (first | subst eo26 | (injection eo26 with f1_ f2_ f3_; have f4_ := f1_.symm; have f5_ := f3_.symm; clear f1_ f2_ f3_; subst f4_; subst f5_))
    refine hK.out _ _ ⟨(blk_cell BK180.out 0).trans rfl, (blk_cell BK180.out 1).trans rfl, (blk_cell BK181.out 0).trans rfl, (blk_cell BK181.out 1).trans rfl, (blk_cell BK181.out 2).trans rfl⟩ (fun hHeld => ?_)
    clear hK K
    refine norm_ (a' := ?_) ?_ ?_
    rotate_left
    ·show Act.put _ (some 25) _ = _
     simp only [Act.put, List.setIfInBounds_toArray, List.set_cons_zero, List.set_cons_succ, i64_w, i32_w]
     rfl
    refine one_ (i := 4) (N := some 26) #[true, true, true, true, true, false, false, false, true, false, false] rfl rfl (one_of HT_.out (by kernel_rfl)) (by decide) (fun K hK => ?_)
    refine goes_ Try.func5 (by kernel_rfl) rfl #[.agg #[.int .i64 t183, .slice Ao26 t184.length co26], .agg #[.int .i64 t187, .int .i64 t188, .int .i64 t189]] (by rfl) rfl rfl ar_ ?_
    with_reducible refine (spec_AddBridge.calls k t183 _ _ t184 t187 t188 t189 t190 t191 t194 _ ?side1 ?side2 A12.out).mono ?_
    (case side1 => repeat (first | exact (Kd.R_reads' HO186.out).2.2 | (with_reducible refine Kd.C_alloc ?_ _) | (with_reducible refine Kd.C_drewN ?_ _) | (with_reducible refine Kd.C_drew ?_)))
    (case side2 => exact (Kd.R_reads' HO186.out).2.1)
    rintro e w27 ⟨v192, rfl, ho0, hb⟩
    refine ⟨_, rfl, ?_⟩
    have n0_ := Aside0.mk (Kd.R_elder' (rr_ HO186) (Kd.R_base ho0) hb)
    have n1_ := Aside0.mk (Kd.R_lower (Kd.R_new' ho0 (Kd.R_lt (rr_ HO186))) (below_size (bl_)))
    have n2_ := Aside0.mk (blk_below (g := gb180) (o := .cells #[.int .i64 a0_0, .slice A0_1 l0_1.length c0_1] 24 (0, 0)) (bk_ BK180) hb)
    have n3_ := Aside0.mk (blk_below (g := gb181) (o := .cells #[.int .i64 a1_0, .int .i64 a1_1, .int .i64 a1_2] 26 (0, 0)) (bk_ BK181) hb)
    have n4_ := Aside0.mk (blk_below (g := gb195) (o := .cells #[.int .i64 0, .slice none 0 0] 30 (0, 0)) (bk_ BK195) hb)
    have n5_ := Aside0.mk (below_step (bl_) hb)
    clear HO186
    clear BK180
    clear BK181
    clear BK195
    clear HB
    have HO186 := n0_
    have HO193 := n1_
    have BK180 := n2_
    have BK181 := n3_
    have BK195 := n4_
    have HB := n5_
    clear n0_ n1_ n2_ n3_ n4_ n5_
    (try clear hb)
    (try clear hb2)
    (try clear hk)
    (try clear hi)
    (try clear ho0)
    refine hK.out _ _ ⟨(blk_cell BK180.out 0).trans rfl, (blk_cell BK180.out 1).trans rfl, (blk_cell BK181.out 0).trans rfl, (blk_cell BK181.out 1).trans rfl, (blk_cell BK181.out 2).trans rfl⟩ (fun hHeld => ?_)
    clear hK K
    refine norm_ (a' := ?_) ?_ ?_
    rotate_left
    ·show Act.put _ (some 26) _ = _
     simp only [Act.put, List.setIfInBounds_toArray, List.set_cons_zero, List.set_cons_succ, i64_w, i32_w]
     rfl
    refine pure_ (i := 5) (N := some 21) (v := ?_) (a' := ?_) #[true, true, true, true, true, true, false, false, true, false, false] rfl rfl (any_of HT_.out (by kernel_rfl)) (fun _ _ _ h => h) (Or.inl ⟨by rfl, ?_⟩) ?_ ?_
    rotate_left
    ·intro w'
     go_simp
     with_reducible rfl
    rotate_left
    ·simp only [Act.put, List.setIfInBounds_toArray, List.set_cons_zero, List.set_cons_succ, i64_w, i32_w]
     rfl
    refine pure_ (i := 6) (N := some 27) (v := ?_) (a' := ?_) #[true, true, true, true, true, true, true, false, true, false, false] rfl rfl (any_of HT_.out (by kernel_rfl)) (fun _ _ _ h => h) (Or.inl ⟨by rfl, ?_⟩) ?_ ?_
    rotate_left
    ·intro w'
     go_simp
     with_reducible rfl
    rotate_left
    ·simp only [Act.put, List.setIfInBounds_toArray, List.set_cons_zero, List.set_cons_succ, i64_w, i32_w]
     rfl
    refine pure_ (i := 7) (N := some 28) (v := ?_) (a' := ?_) #[true, true, true, true, true, true, true, true, true, false, false] rfl rfl (any_of HT_.out (by kernel_rfl)) (fun _ _ _ h => h) (Or.inl ⟨by rfl, ?_⟩) ?_ ?_
    rotate_left
    ·intro w'
     go_simp
     with_reducible rfl
    rotate_left
    ·simp only [Act.put, List.setIfInBounds_toArray, List.set_cons_zero, List.set_cons_succ, i64_w, i32_w]
     rfl
    exact norm_ (by simp only [putAll, Act.put, List.setIfInBounds_toArray, List.set_cons_zero, List.set_cons_succ]) (hCont (.slice Ao26 t184.length co26, v192, gb195) _ ⟨hHeld, (by (with_reducible repeat (first | apply Kd.R_alloc | apply Kd.R_drewN | apply Kd.R_drew)); exact Kd.R_mono HO186.out (fun _ hk => hk.2)), (by (with_reducible repeat (first | apply Kd.R_alloc | apply Kd.R_drewN | apply Kd.R_drew)); exact Kd.R_mono HO193.out (fun _ hk => hk.2)), (bk_ BK180), (bk_ BK181), (bk_ BK195), GW195.out, GE195.out, NB180_195.out, NB195_180.out, NB181_195.out, NB195_181.out, (bl_)⟩)
  rintro ⟨v185, v192, gb195⟩ w28 ⟨hS_, h0_, h1_, h2_, h3_, h4_, h5_, h6_, h7_, h8_, h9_, h10_, h11_⟩
  have n0_ : Aside0 (Kd.R k34 34 w28 w.heap.size (fun k_ => some k_ ≠ (v192 : Value).ownBlock) v185 t184) := ⟨h0_⟩
  have n1_ : Aside0 (Kd.R k34 34 w28 w.heap.size (fun k_ => some k_ ≠ (v185 : Value).ownBlock) v192 t191) := ⟨h1_⟩
  have n2_ : Aside0 (w28.heap[gb180]? = some (.cells #[.int .i64 a0_0, .slice A0_1 l0_1.length c0_1] 24 (0, 0))) := ⟨h2_⟩
  have n3_ : Aside0 (w28.heap[gb181]? = some (.cells #[.int .i64 a1_0, .int .i64 a1_1, .int .i64 a1_2] 26 (0, 0))) := ⟨h3_⟩
  have n4_ : Aside0 (w28.heap[gb195]? = some (.cells #[.int .i64 0, .slice none 0 0] 30 (0, 0))) := ⟨h4_⟩
  have n5_ : Aside0 (w.heap.size ≤ gb195) := ⟨h5_⟩
  have n6_ : Aside0 (w.heap.size ≤ gb195) := ⟨h6_⟩
  have n7_ : Aside0 (gb180 ≠ gb195) := ⟨h7_⟩
  have n8_ : Aside0 (gb195 ≠ gb180) := ⟨h8_⟩
  have n9_ : Aside0 (gb181 ≠ gb195) := ⟨h9_⟩
  have n10_ : Aside0 (gb195 ≠ gb181) := ⟨h10_⟩
  have n11_ : Aside0 (Below w.heap.size w w28) := ⟨h11_⟩
  clear BK180
  clear BK181
  clear HB
  clear h0_ h1_ h2_ h3_ h4_ h5_ h6_ h7_ h8_ h9_ h10_ h11_
  have HO186 := n0_
  have HO193 := n1_
  have BK180 := n2_
  have BK181 := n3_
  have BK195 := n4_
  have GW195 := n5_
  have GE195 := n6_
  have NB180_195 := n7_
  have NB195_180 := n8_
  have NB181_195 := n9_
  have NB195_181 := n10_
  have HB := n11_
  clear n0_ n1_ n2_ n3_ n4_ n5_ n6_ n7_ n8_ n9_ n10_ n11_
  have hHeld : w28.cell? ⟨gb180, 0, none⟩ = some (.int .i64 a0_0) ∧ w28.cell? ⟨gb180, 1, none⟩ = some (.slice A0_1 l0_1.length c0_1) ∧ w28.cell? ⟨gb181, 0, none⟩ = some (.int .i64 a1_0) ∧ w28.cell? ⟨gb181, 1, none⟩ = some (.int .i64 a1_1) ∧ w28.cell? ⟨gb181, 2, none⟩ = some (.int .i64 a1_2) := hS_
  obtain ⟨Ao30, co30, eo30⟩ := Kd.R_slice HO193.out
  (first | subst eo30 | (injection eo30 with f1_ f2_ f3_; have f4_ := f1_.symm; have f5_ := f3_.symm; clear f1_ f2_ f3_; subst f4_; subst f5_))
  refine norm_ (a' := ?_) ?_ ?_
  rotate_left
  ·simp only [putAll, Act.put, List.setIfInBounds_toArray, List.set_cons_zero, List.set_cons_succ]
   rfl
  refine one_ (i := 9) (N := none) #[true, true, true, true, true, true, true, true, true, true, false] rfl rfl (one_of HT_.out (by kernel_rfl)) (by decide) (fun K hK => ?_)
  have hs29 : w28.cell? ⟨gb195, 0, none⟩ = some (.int .i64 0) := (blk_cell BK195.out 0).trans rfl
  have hfs29 := blk_frozen BK195.out 0
  have hns29_0 := NB180_195.out
  have hns29_1 := NB181_195.out
  have hms29_0 := NB195_180.out
  have hms29_1 := NB195_181.out
  have hs31 : w28.cell? ⟨gb195, 1, none⟩ = some (.slice none 0 0) := (blk_cell BK195.out 1).trans rfl
  have hfs31 := blk_frozen BK195.out 1
  have hns31_0 := NB180_195.out
  have hns31_1 := NB181_195.out
  have hms31_0 := NB195_180.out
  have hms31_1 := NB195_181.out
  refine skip_ (w1 := ?_) (by rfl) rfl ?_ ?_
  rotate_left
  ·go_simp
   rfl
  refine hK.out _ _ ⟨((cell_far (p := ⟨gb195, _, none⟩) NB180_195.out _).trans (((cell_far (p := ⟨gb195, _, none⟩) NB180_195.out _).trans (hHeld.1)))), ((cell_far (p := ⟨gb195, _, none⟩) NB180_195.out _).trans (((cell_far (p := ⟨gb195, _, none⟩) NB180_195.out _).trans (hHeld.2.1)))), ((cell_far (p := ⟨gb195, _, none⟩) NB181_195.out _).trans (((cell_far (p := ⟨gb195, _, none⟩) NB181_195.out _).trans (hHeld.2.2.1)))), ((cell_far (p := ⟨gb195, _, none⟩) NB181_195.out _).trans (((cell_far (p := ⟨gb195, _, none⟩) NB181_195.out _).trans (hHeld.2.2.2.1)))), ((cell_far (p := ⟨gb195, _, none⟩) NB181_195.out _).trans (((cell_far (p := ⟨gb195, _, none⟩) NB181_195.out _).trans (hHeld.2.2.2.2))))⟩ (fun hHeld => ?_)
  clear hK K
  refine pure_ (i := 10) (N := some 7) (v := ?_) (a' := ?_) #[true, true, true, true, true, true, true, true, true, true, true] rfl rfl (any_of HT_.out (by kernel_rfl)) (fun _ _ _ h => h) (Or.inl ⟨by rfl, ?_⟩) ?_ ?_
  rotate_left
  ·intro w'
   go_simp
   with_reducible rfl
  rotate_left
  ·simp only [Act.put, List.setIfInBounds_toArray, List.set_cons_zero, List.set_cons_succ, i64_w, i32_w]
   rfl
  refine done_ (done_of HT_.out (by kernel_rfl)) ?_
  have hnb32 := NB180_195.out
  have hnc32 := NB195_180.out
  have hcz33_0 : w28.cell? ⟨gb180, 0, none⟩ = some (.int .i64 a0_0) := (blk_cell BK180.out 0).trans rfl
  have hcz33_1 : w28.cell? ⟨gb180, 1, none⟩ = some (.slice A0_1 l0_1.length c0_1) := (blk_cell BK180.out 1).trans rfl
  have hfz33_0 := blk_frozen BK180.out 0
  have hfz33_1 := blk_frozen BK180.out 1
  try go_wp2_with (first | ((with_reducible refine gate_callee (f := 6) rfl ?_); refine goesL_ (some 30) rfl rfl Try.func6 (by kernel_rfl) rfl #[.agg #[.int .i64 a0_0, .slice A0_1 l0_1.length c0_1]] rfl ar_ ?_; (with_reducible refine (laws_toIsles.calls k a0_0 _ _ l0_1 t196 t197 _ ?side1 ?side2 A13.out).mono ?_); (case side1 => exact Kd.C_below HR0_1.out (bl_)); (case side2 => exact HC0_1.out); rintro e w34 ⟨v198, rfl, ho0, hb⟩; refine ⟨_, rfl, ?_⟩; have n0_ := Aside0.mk (Kd.R_elder' (by (with_reducible repeat (first | apply Kd.R_alloc | apply Kd.R_drewN | apply Kd.R_drew)); exact (Kd.R_mono (Kd.R_far (p := ⟨gb195, 1, none⟩) (Kd.R_far (p := ⟨gb195, 0, none⟩) (Kd.R_types HO186.out BK195.out (by decide)) (fun _ hk => hk.2) (.int .i64 t190)) (fun _ hk => hk.2) (.slice Ao30 t191.length co30)) (fun _ h_ => h_.1))) (Kd.R_base ho0) hb); have n1_ := Aside0.mk (Kd.R_elder' (by (with_reducible repeat (first | apply Kd.R_alloc | apply Kd.R_drewN | apply Kd.R_drew)); exact (Kd.R_mono (Kd.R_far (p := ⟨gb195, 1, none⟩) (Kd.R_far (p := ⟨gb195, 0, none⟩) (Kd.R_types HO193.out BK195.out (by decide)) (fun _ hk => hk.2) (.int .i64 t190)) (fun _ hk => hk.2) (.slice Ao30 t191.length co30)) (fun _ h_ => h_.1))) (Kd.R_base ho0) hb); have n2_ := Aside0.mk (Kd.R_lower (Kd.R_new' (Kd.R_new' ho0 (Kd.R_lt (by (with_reducible repeat (first | apply Kd.R_alloc | apply Kd.R_drewN | apply Kd.R_drew)); exact (Kd.R_mono (Kd.R_far (p := ⟨gb195, 1, none⟩) (Kd.R_far (p := ⟨gb195, 0, none⟩) (Kd.R_types HO186.out BK195.out (by decide)) (fun _ hk => hk.2) (.int .i64 t190)) (fun _ hk => hk.2) (.slice Ao30 t191.length co30)) (fun _ h_ => h_.1))))) (Kd.R_lt (by (with_reducible repeat (first | apply Kd.R_alloc | apply Kd.R_drewN | apply Kd.R_drew)); exact (Kd.R_mono (Kd.R_far (p := ⟨gb195, 1, none⟩) (Kd.R_far (p := ⟨gb195, 0, none⟩) (Kd.R_types HO193.out BK195.out (by decide)) (fun _ hk => hk.2) (.int .i64 t190)) (fun _ hk => hk.2) (.slice Ao30 t191.length co30)) (fun _ h_ => h_.1))))) (below_size (bl_))); have n3_ := Aside0.mk (blk_below (g := gb180) (o := .cells #[.int .i64 a0_0, .slice A0_1 l0_1.length c0_1] 24 (0, 0)) (by (with_reducible repeat (first | refine blk_drewN ?_ _ | refine blk_drew ?_ | refine blk_alloc ?_ _)); refine blk_far ?_ NB180_195.out _; (with_reducible repeat (first | refine blk_drewN ?_ _ | refine blk_drew ?_ | refine blk_alloc ?_ _)); refine blk_far ?_ NB180_195.out _; (with_reducible repeat (first | refine blk_drewN ?_ _ | refine blk_drew ?_ | refine blk_alloc ?_ _)); exact BK180.out) hb); have n4_ := Aside0.mk (blk_below (g := gb181) (o := .cells #[.int .i64 a1_0, .int .i64 a1_1, .int .i64 a1_2] 26 (0, 0)) (by (with_reducible repeat (first | refine blk_drewN ?_ _ | refine blk_drew ?_ | refine blk_alloc ?_ _)); refine blk_far ?_ NB181_195.out _; (with_reducible repeat (first | refine blk_drewN ?_ _ | refine blk_drew ?_ | refine blk_alloc ?_ _)); refine blk_far ?_ NB181_195.out _; (with_reducible repeat (first | refine blk_drewN ?_ _ | refine blk_drew ?_ | refine blk_alloc ?_ _)); exact BK181.out) hb); have n5_ := Aside0.mk (blk_below (g := gb195) (o := .cells #[.int .i64 t190, .slice Ao30 t191.length co30] 30 (0, 0)) (by (with_reducible repeat (first | refine blk_drewN ?_ _ | refine blk_drew ?_ | refine blk_alloc ?_ _)); refine blk_put (cs := #[.int .i64 t190, .slice none 0 0]) ?_ 1 _ rfl; (with_reducible repeat (first | refine blk_drewN ?_ _ | refine blk_drew ?_ | refine blk_alloc ?_ _)); refine blk_put (cs := #[.int .i64 0, .slice none 0 0]) ?_ 0 _ rfl; (with_reducible repeat (first | refine blk_drewN ?_ _ | refine blk_drew ?_ | refine blk_alloc ?_ _)); exact BK195.out) hb); have n6_ := Aside0.mk (below_step (bl_) hb); clear HO186; clear HO193; clear BK180; clear BK181; clear BK195; clear HB; have HO186 := n0_; have HO193 := n1_; have HO199 := n2_; have BK180 := n3_; have BK181 := n4_; have BK195 := n5_; have HB := n6_; clear n0_ n1_ n2_ n3_ n4_ n5_ n6_; (try clear hb); (try clear hb2); (try clear hk); (try clear hi); (try clear ho0)) | ((with_reducible refine gate_dst (N := 8) rfl ?_); refine box_event ?hg (N := 8) ?hd (cs := #[.int .i64 0, .slice none 0 0]) (t := 30) ?hr ?_; (case hd => rfl); (case hg => rfl); (case hr => first | (go_simp; done) | (go_simp; rfl)); intro gb200 hg w35 hbox hb; have n0_ := Aside0.mk (Kd.R_below (rr_ HO186) hb); have n1_ := Aside0.mk (Kd.R_below (rr_ HO193) hb); have n2_ := Aside0.mk (Kd.R_below (rr_ HO199) hb); have n3_ := Aside0.mk (blk_below (g := gb180) (o := .cells #[.int .i64 a0_0, .slice A0_1 l0_1.length c0_1] 24 (0, 0)) (bk_ BK180) hb); have n4_ := Aside0.mk (blk_below (g := gb181) (o := .cells #[.int .i64 a1_0, .int .i64 a1_1, .int .i64 a1_2] 26 (0, 0)) (bk_ BK181) hb); have n5_ := Aside0.mk (blk_below (g := gb195) (o := .cells #[.int .i64 t190, .slice Ao30 t191.length co30] 30 (0, 0)) (bk_ BK195) hb); have n6_ := Aside0.mk (below_step (bl_) hb); have n7_ := Aside0.mk (hbox); have n8_ := Aside0.mk ((by rw [hg]; exact (below_size (bl_)) : w.heap.size ≤ gb200)); have n9_ := Aside0.mk ((by rw [hg]; exact (below_size (bl_)) : w.heap.size ≤ gb200)); have n10_ := Aside0.mk ((by rw [hg]; exact Nat.ne_of_lt (blk_lt (g := gb180) (o := .cells #[.int .i64 a0_0, .slice A0_1 l0_1.length c0_1] 24 (0, 0)) (bk_ BK180)) : gb180 ≠ gb200)); have n11_ := Aside0.mk ((by rw [hg]; exact Nat.ne_of_gt (blk_lt (g := gb180) (o := .cells #[.int .i64 a0_0, .slice A0_1 l0_1.length c0_1] 24 (0, 0)) (bk_ BK180)) : gb200 ≠ gb180)); have n12_ := Aside0.mk ((by rw [hg]; exact Nat.ne_of_lt (blk_lt (g := gb181) (o := .cells #[.int .i64 a1_0, .int .i64 a1_1, .int .i64 a1_2] 26 (0, 0)) (bk_ BK181)) : gb181 ≠ gb200)); have n13_ := Aside0.mk ((by rw [hg]; exact Nat.ne_of_gt (blk_lt (g := gb181) (o := .cells #[.int .i64 a1_0, .int .i64 a1_1, .int .i64 a1_2] 26 (0, 0)) (bk_ BK181)) : gb200 ≠ gb181)); have n14_ := Aside0.mk ((by rw [hg]; exact Nat.ne_of_lt (blk_lt (g := gb195) (o := .cells #[.int .i64 t190, .slice Ao30 t191.length co30] 30 (0, 0)) (bk_ BK195)) : gb195 ≠ gb200)); have n15_ := Aside0.mk ((by rw [hg]; exact Nat.ne_of_gt (blk_lt (g := gb195) (o := .cells #[.int .i64 t190, .slice Ao30 t191.length co30] 30 (0, 0)) (bk_ BK195)) : gb200 ≠ gb195)); clear HO186; clear HO193; clear HO199; clear BK180; clear BK181; clear BK195; clear HB; have HO186 := n0_; have HO193 := n1_; have HO199 := n2_; have BK180 := n3_; have BK181 := n4_; have BK195 := n5_; have HB := n6_; have BK200 := n7_; have GW200 := n8_; have GE200 := n9_; have NB180_200 := n10_; have NB200_180 := n11_; have NB181_200 := n12_; have NB200_181 := n13_; have NB195_200 := n14_; have NB200_195 := n15_; clear n0_ n1_ n2_ n3_ n4_ n5_ n6_ n7_ n8_ n9_ n10_ n11_ n12_ n13_ n14_ n15_; clear hb hbox hg; have hnb36 := NB200_180.out; have hnc36 := NB180_200.out; have hnb37 := NB200_181.out; have hnc37 := NB181_200.out; have hnb38 := NB200_195.out; have hnc38 := NB195_200.out; have hcz39_0 : w35.cell? ⟨gb200, 0, none⟩ = some (.int .i64 0) := (blk_cell BK200.out 0).trans rfl; have hcz39_1 : w35.cell? ⟨gb200, 1, none⟩ = some (.slice none 0 0) := (blk_cell BK200.out 1).trans rfl; have hfz39_0 := blk_frozen BK200.out 0; have hfz39_1 := blk_frozen BK200.out 1; obtain ⟨Ao40, co40, eo40⟩ := Kd.R_slice HO199.out; subst eo40))
  have n0_ : Aside0 (Kd.R k34 34 ((w35.setCell ⟨gb200, 0, none⟩ (.int .i64 t196)).setCell ⟨gb200, 1, none⟩ (.slice Ao40 t197.length co40)) w.heap.size (fun k_ => some k_ ≠ (.slice Ao30 t191.length co30 : Value).ownBlock ∧ some k_ ≠ (.slice Ao40 t197.length co40 : Value).ownBlock) v185 t184) := ⟨by (with_reducible repeat (first | apply Kd.R_alloc | apply Kd.R_drewN | apply Kd.R_drew)); exact Kd.R_mono (Kd.R_far (p := ⟨gb200, 1, none⟩) (Kd.R_far (p := ⟨gb200, 0, none⟩) (Kd.R_types HO186.out BK200.out (by decide)) (fun _ hk => hk.2) (.int .i64 t196)) (fun _ hk => hk.2) (.slice Ao40 t197.length co40)) (fun _ hk => ⟨hk.1.1, hk.1.2⟩)⟩
  have n1_ : Aside0 (Kd.R k34 34 ((w35.setCell ⟨gb200, 0, none⟩ (.int .i64 t196)).setCell ⟨gb200, 1, none⟩ (.slice Ao40 t197.length co40)) w.heap.size (fun k_ => some k_ ≠ (v185 : Value).ownBlock ∧ some k_ ≠ (.slice Ao40 t197.length co40 : Value).ownBlock) (.slice Ao30 t191.length co30) t191) := ⟨by (with_reducible repeat (first | apply Kd.R_alloc | apply Kd.R_drewN | apply Kd.R_drew)); exact Kd.R_mono (Kd.R_far (p := ⟨gb200, 1, none⟩) (Kd.R_far (p := ⟨gb200, 0, none⟩) (Kd.R_types HO193.out BK200.out (by decide)) (fun _ hk => hk.2) (.int .i64 t196)) (fun _ hk => hk.2) (.slice Ao40 t197.length co40)) (fun _ hk => ⟨hk.1.1, hk.1.2⟩)⟩
  have n2_ : Aside0 (Kd.R k34 34 ((w35.setCell ⟨gb200, 0, none⟩ (.int .i64 t196)).setCell ⟨gb200, 1, none⟩ (.slice Ao40 t197.length co40)) w.heap.size (fun k_ => some k_ ≠ (v185 : Value).ownBlock ∧ some k_ ≠ (.slice Ao30 t191.length co30 : Value).ownBlock) (.slice Ao40 t197.length co40) t197) := ⟨by (with_reducible repeat (first | apply Kd.R_alloc | apply Kd.R_drewN | apply Kd.R_drew)); exact Kd.R_mono (Kd.R_far (p := ⟨gb200, 1, none⟩) (Kd.R_far (p := ⟨gb200, 0, none⟩) (Kd.R_types HO199.out BK200.out (by decide)) (fun _ hk => hk.2) (.int .i64 t196)) (fun _ hk => hk.2) (.slice Ao40 t197.length co40)) (fun _ hk => ⟨hk.1.1.2, hk.1.2⟩)⟩
  have n3_ : Aside0 (((w35.setCell ⟨gb200, 0, none⟩ (.int .i64 t196)).setCell ⟨gb200, 1, none⟩ (.slice Ao40 t197.length co40)).heap[gb180]? = some (.cells #[.int .i64 a0_0, .slice A0_1 l0_1.length c0_1] 24 (0, 0))) := ⟨by (with_reducible repeat (first | refine blk_drewN ?_ _ | refine blk_drew ?_ | refine blk_alloc ?_ _)); refine blk_far ?_ NB180_200.out _; (with_reducible repeat (first | refine blk_drewN ?_ _ | refine blk_drew ?_ | refine blk_alloc ?_ _)); refine blk_far ?_ NB180_200.out _; (with_reducible repeat (first | refine blk_drewN ?_ _ | refine blk_drew ?_ | refine blk_alloc ?_ _)); exact BK180.out⟩
  have n4_ : Aside0 (((w35.setCell ⟨gb200, 0, none⟩ (.int .i64 t196)).setCell ⟨gb200, 1, none⟩ (.slice Ao40 t197.length co40)).heap[gb181]? = some (.cells #[.int .i64 a1_0, .int .i64 a1_1, .int .i64 a1_2] 26 (0, 0))) := ⟨by (with_reducible repeat (first | refine blk_drewN ?_ _ | refine blk_drew ?_ | refine blk_alloc ?_ _)); refine blk_far ?_ NB181_200.out _; (with_reducible repeat (first | refine blk_drewN ?_ _ | refine blk_drew ?_ | refine blk_alloc ?_ _)); refine blk_far ?_ NB181_200.out _; (with_reducible repeat (first | refine blk_drewN ?_ _ | refine blk_drew ?_ | refine blk_alloc ?_ _)); exact BK181.out⟩
  have n5_ : Aside0 (((w35.setCell ⟨gb200, 0, none⟩ (.int .i64 t196)).setCell ⟨gb200, 1, none⟩ (.slice Ao40 t197.length co40)).heap[gb195]? = some (.cells #[.int .i64 t190, .slice Ao30 t191.length co30] 30 (0, 0))) := ⟨by (with_reducible repeat (first | refine blk_drewN ?_ _ | refine blk_drew ?_ | refine blk_alloc ?_ _)); refine blk_far ?_ NB195_200.out _; (with_reducible repeat (first | refine blk_drewN ?_ _ | refine blk_drew ?_ | refine blk_alloc ?_ _)); refine blk_far ?_ NB195_200.out _; (with_reducible repeat (first | refine blk_drewN ?_ _ | refine blk_drew ?_ | refine blk_alloc ?_ _)); exact BK195.out⟩
  have n6_ : Aside0 (((w35.setCell ⟨gb200, 0, none⟩ (.int .i64 t196)).setCell ⟨gb200, 1, none⟩ (.slice Ao40 t197.length co40)).heap[gb200]? = some (.cells #[.int .i64 t196, .slice Ao40 t197.length co40] 30 (0, 0))) := ⟨by (with_reducible repeat (first | refine blk_drewN ?_ _ | refine blk_drew ?_ | refine blk_alloc ?_ _)); refine blk_put (cs := #[.int .i64 t196, .slice none 0 0]) ?_ 1 _ rfl; (with_reducible repeat (first | refine blk_drewN ?_ _ | refine blk_drew ?_ | refine blk_alloc ?_ _)); refine blk_put (cs := #[.int .i64 0, .slice none 0 0]) ?_ 0 _ rfl; (with_reducible repeat (first | refine blk_drewN ?_ _ | refine blk_drew ?_ | refine blk_alloc ?_ _)); exact BK200.out⟩
  have n7_ : Aside0 (Below w.heap.size w ((w35.setCell ⟨gb200, 0, none⟩ (.int .i64 t196)).setCell ⟨gb200, 1, none⟩ (.slice Ao40 t197.length co40))) := ⟨bl_⟩
  (try clear HO186)
  (try clear HO193)
  (try clear HO199)
  (try clear BK180)
  (try clear BK181)
  (try clear BK195)
  (try clear BK200)
  (try clear HB)
  generalize ((w35.setCell ⟨gb200, 0, none⟩ (.int .i64 t196)).setCell ⟨gb200, 1, none⟩ (.slice Ao40 t197.length co40)) = w41 at n0_ n1_ n2_ n3_ n4_ n5_ n6_ n7_ ⊢
  have HO186 := n0_
  have HO193 := n1_
  have HO199 := n2_
  have BK180 := n3_
  have BK181 := n4_
  have BK195 := n5_
  have BK200 := n6_
  have HB := n7_
  clear n0_ n1_ n2_ n3_ n4_ n5_ n6_ n7_
  have n0_ := Aside0.mk (Kd.R_drew HO186.out)
  have n1_ := Aside0.mk (Kd.R_drew HO193.out)
  have n2_ := Aside0.mk (Kd.R_drew HO199.out)
  have n3_ := Aside0.mk (blk_drew BK180.out)
  have n4_ := Aside0.mk (blk_drew BK181.out)
  have n5_ := Aside0.mk (blk_drew BK195.out)
  have n6_ := Aside0.mk (blk_drew BK200.out)
  have n7_ := Aside0.mk (below_drew1 HB.out)
  clear HO186
  clear HO193
  clear HO199
  clear BK180
  clear BK181
  clear BK195
  clear BK200
  clear HB
  have HO186 := n0_
  have HO193 := n1_
  have HO199 := n2_
  have BK180 := n3_
  have BK181 := n4_
  have BK195 := n5_
  have BK200 := n6_
  have HB := n7_
  clear n0_ n1_ n2_ n3_ n4_ n5_ n6_ n7_
  refine start_ (n := 10) (S := fun w' => w'.cell? ⟨gb200, 0, none⟩ = some (.int .i64 t196) ∧ w'.cell? ⟨gb200, 1, none⟩ = some (.slice Ao40 t197.length co40) ∧ w'.cell? ⟨gb181, 0, none⟩ = some (.int .i64 a1_0) ∧ w'.cell? ⟨gb181, 1, none⟩ = some (.int .i64 a1_1) ∧ w'.cell? ⟨gb181, 2, none⟩ = some (.int .i64 a1_2)) (ds := []) #[false, false, false, false, false, false, false, false, false, false] (by kernel_rfl) rfl rfl ⟨(blk_cell BK200.out 0).trans rfl, (blk_cell BK200.out 1).trans rfl, (blk_cell BK181.out 0).trans rfl, (blk_cell BK181.out 1).trans rfl, (blk_cell BK181.out 2).trans rfl⟩ (fun hHeld => ?_); refine with_tabW laws_FnExactAddBridge.tab7 laws_FnExactAddBridge.bits7 (fun HT_ HW_ => ?_)
  generalize w41.drew = w42 at HO186 HO193 HO199 BK180 BK181 BK195 BK200 HB hHeld ⊢
  refine take_ (i := 0) (N := some 32) (v := ?_) (a' := ?_) #[true, false, false, false, false, false, false, false, false, false] rfl rfl (take_ofW HT_.out HW_.out (by kernel_rfl)) (fun _ _ _ h => h) (Or.inl ⟨by rfl, ?_⟩) hHeld ?_ ?_
  rotate_left
  ·rintro w' ⟨s0, s1, s2, s3, s4⟩
   go_simp
   with_reducible rfl
  rotate_left
  ·simp only [Act.put, List.setIfInBounds_toArray, List.set_cons_zero, List.set_cons_succ, i64_w, i32_w]
   rfl
  refine take_ (i := 1) (N := some 33) (v := ?_) (a' := ?_) #[true, true, false, false, false, false, false, false, false, false] rfl rfl (take_ofW HT_.out HW_.out (by kernel_rfl)) (fun _ _ _ h => h) (Or.inl ⟨by rfl, ?_⟩) hHeld ?_ ?_
  rotate_left
  ·rintro w' ⟨s0, s1, s2, s3, s4⟩
   go_simp
   with_reducible rfl
  rotate_left
  ·simp only [Act.put, List.setIfInBounds_toArray, List.set_cons_zero, List.set_cons_succ, i64_w, i32_w]
   rfl
  refine join_ (σ := Value × Nat) 2 #[true, true, true, true, true, true, true, true, false, false] (fun s_ => [(34, .agg #[.int .i64 t201, .int .i64 t202, .int .i64 t203]), (35, .tuple #[.agg #[.int .i64 t204, s_.1], .bool t208]), (9, .pointer (some ⟨s_.2, 0, none⟩)), (31, .tuple #[.agg #[.int .i64 t204, s_.1], .bool t208]), (36, .agg #[.int .i64 t204, s_.1]), (37, .bool t208)]) (fun s_ w' => (w'.cell? ⟨gb200, 0, none⟩ = some (.int .i64 t196) ∧ w'.cell? ⟨gb200, 1, none⟩ = some (.slice Ao40 t197.length co40) ∧ w'.cell? ⟨gb181, 0, none⟩ = some (.int .i64 a1_0) ∧ w'.cell? ⟨gb181, 1, none⟩ = some (.int .i64 a1_1) ∧ w'.cell? ⟨gb181, 2, none⟩ = some (.int .i64 a1_2)) ∧ (Kd.R k34 34 w' w.heap.size (fun k_ => some k_ ≠ (.slice Ao30 t191.length co30 : Value).ownBlock ∧ some k_ ≠ (.slice Ao40 t197.length co40 : Value).ownBlock ∧ some k_ ≠ (s_.1 : Value).ownBlock) v185 t184) ∧ (Kd.R k34 34 w' w.heap.size (fun k_ => some k_ ≠ (v185 : Value).ownBlock ∧ some k_ ≠ (.slice Ao40 t197.length co40 : Value).ownBlock ∧ some k_ ≠ (s_.1 : Value).ownBlock) (.slice Ao30 t191.length co30) t191) ∧ (Kd.R k34 34 w' w.heap.size (fun k_ => some k_ ≠ (v185 : Value).ownBlock ∧ some k_ ≠ (.slice Ao30 t191.length co30 : Value).ownBlock ∧ some k_ ≠ (s_.1 : Value).ownBlock) (.slice Ao40 t197.length co40) t197) ∧ (Kd.R k34 34 w' w.heap.size (fun k_ => some k_ ≠ (v185 : Value).ownBlock ∧ some k_ ≠ (.slice Ao30 t191.length co30 : Value).ownBlock ∧ some k_ ≠ (.slice Ao40 t197.length co40 : Value).ownBlock) s_.1 t205) ∧ (w'.heap[gb180]? = some (.cells #[.int .i64 a0_0, .slice A0_1 l0_1.length c0_1] 24 (0, 0))) ∧ (w'.heap[gb181]? = some (.cells #[.int .i64 a1_0, .int .i64 a1_1, .int .i64 a1_2] 26 (0, 0))) ∧ (w'.heap[gb195]? = some (.cells #[.int .i64 t190, .slice Ao30 t191.length co30] 30 (0, 0))) ∧ (w'.heap[gb200]? = some (.cells #[.int .i64 t196, .slice Ao40 t197.length co40] 30 (0, 0))) ∧ (w'.heap[s_.2]? = some (.cells #[.int .i64 0, .slice none 0 0] 30 (0, 0))) ∧ (w.heap.size ≤ s_.2) ∧ (w.heap.size ≤ s_.2) ∧ (gb180 ≠ s_.2) ∧ (s_.2 ≠ gb180) ∧ (gb181 ≠ s_.2) ∧ (s_.2 ≠ gb181) ∧ (gb195 ≠ s_.2) ∧ (s_.2 ≠ gb195) ∧ (gb200 ≠ s_.2) ∧ (s_.2 ≠ gb200) ∧ (Below w.heap.size w w')) ?_ ?_
  rotate_left
  ·intro hCont
   refine two_ (i := 2) (j := 7) (Ni := some 34) (Nj := some 9) #[true, true, true, false, false, false, false, false, false, false] #[true, true, false, false, false, false, false, true, false, false] rfl rfl rfl rfl (two_of HT_.out (by kernel_rfl)) (by decide) (by decide) (fun K hK => ?_) (fun K hK => ?_)
   ·skip
    refine goes_ Try.func7 (by kernel_rfl) rfl #[.agg #[.int .i64 a1_0, .int .i64 a1_1, .int .i64 a1_2]] (by rfl) rfl rfl ar_ ?_
    with_reducible refine (laws_toBridge.calls a1_0 a1_1 a1_2 t201 t202 t203 _ A14.out).mono ?_
    rintro e w43 ⟨rfl, hb⟩
    refine ⟨_, rfl, ?_⟩
    have n0_ := Aside0.mk (Kd.R_below (rr_ HO186) hb)
    have n1_ := Aside0.mk (Kd.R_below (rr_ HO193) hb)
    have n2_ := Aside0.mk (Kd.R_below (rr_ HO199) hb)
    have n3_ := Aside0.mk (blk_below (g := gb180) (o := .cells #[.int .i64 a0_0, .slice A0_1 l0_1.length c0_1] 24 (0, 0)) (bk_ BK180) hb)
    have n4_ := Aside0.mk (blk_below (g := gb181) (o := .cells #[.int .i64 a1_0, .int .i64 a1_1, .int .i64 a1_2] 26 (0, 0)) (bk_ BK181) hb)
    have n5_ := Aside0.mk (blk_below (g := gb195) (o := .cells #[.int .i64 t190, .slice Ao30 t191.length co30] 30 (0, 0)) (bk_ BK195) hb)
    have n6_ := Aside0.mk (blk_below (g := gb200) (o := .cells #[.int .i64 t196, .slice Ao40 t197.length co40] 30 (0, 0)) (bk_ BK200) hb)
    have n7_ := Aside0.mk (below_step (bl_) hb)
    clear HO186
    clear HO193
    clear HO199
    clear BK180
    clear BK181
    clear BK195
    clear BK200
    clear HB
    have HO186 := n0_
    have HO193 := n1_
    have HO199 := n2_
    have BK180 := n3_
    have BK181 := n4_
    have BK195 := n5_
    have BK200 := n6_
    have HB := n7_
    clear n0_ n1_ n2_ n3_ n4_ n5_ n6_ n7_
    (try clear hb)
    (try clear hb2)
    (try clear hk)
    (try clear hi)
    refine hK.out _ _ ⟨(blk_cell BK200.out 0).trans rfl, (blk_cell BK200.out 1).trans rfl, (blk_cell BK181.out 0).trans rfl, (blk_cell BK181.out 1).trans rfl, (blk_cell BK181.out 2).trans rfl⟩ (fun hHeld => ?_)
    clear hK K
    refine norm_ (a' := ?_) ?_ ?_
    rotate_left
    ·show Act.put _ (some 34) _ = _
     simp only [Act.put, List.setIfInBounds_toArray, List.set_cons_zero, List.set_cons_succ, i64_w, i32_w]
     rfl
    refine two_ (i := 3) (j := 7) (Ni := some 35) (Nj := some 9) #[true, true, true, true, false, false, false, false, false, false] #[true, true, true, false, false, false, false, true, false, false] rfl rfl rfl rfl (two_of HT_.out (by kernel_rfl)) (by decide) (by decide) (fun K hK => ?_) (fun K hK => ?_)
    ·skip
     refine goes_ Try.func8 (by kernel_rfl) rfl #[.agg #[.int .i64 t196, .slice Ao40 t197.length co40], .agg #[.int .i64 t201, .int .i64 t202, .int .i64 t203]] (by rfl) rfl rfl ar_ ?_
     with_reducible refine (impl_AddBridge.calls t196 _ _ t197 t201 t202 t203 t204 t205 t208 _ ?side1 ?side2 A15.out).mono ?_
     (case side1 => repeat (first | exact (Kd.R_reads' HO199.out).2.2 | (with_reducible refine Kd.C_alloc ?_ _) | (with_reducible refine Kd.C_drewN ?_ _) | (with_reducible refine Kd.C_drew ?_)))
     (case side2 => exact (Kd.R_reads' HO199.out).2.1)
     rintro e w44 ⟨v206, rfl, ho0, hb⟩
     refine ⟨_, rfl, ?_⟩
     have n0_ := Aside0.mk (Kd.R_elder' (rr_ HO186) (Kd.R_base ho0) hb)
     have n1_ := Aside0.mk (Kd.R_elder' (rr_ HO193) (Kd.R_base ho0) hb)
     have n2_ := Aside0.mk (Kd.R_elder' (rr_ HO199) (Kd.R_base ho0) hb)
     have n3_ := Aside0.mk (Kd.R_lower (Kd.R_new' (Kd.R_new' (Kd.R_new' ho0 (Kd.R_lt (rr_ HO186))) (Kd.R_lt (rr_ HO193))) (Kd.R_lt (rr_ HO199))) (below_size (bl_)))
     have n4_ := Aside0.mk (blk_below (g := gb180) (o := .cells #[.int .i64 a0_0, .slice A0_1 l0_1.length c0_1] 24 (0, 0)) (bk_ BK180) hb)
     have n5_ := Aside0.mk (blk_below (g := gb181) (o := .cells #[.int .i64 a1_0, .int .i64 a1_1, .int .i64 a1_2] 26 (0, 0)) (bk_ BK181) hb)
     have n6_ := Aside0.mk (blk_below (g := gb195) (o := .cells #[.int .i64 t190, .slice Ao30 t191.length co30] 30 (0, 0)) (bk_ BK195) hb)
     have n7_ := Aside0.mk (blk_below (g := gb200) (o := .cells #[.int .i64 t196, .slice Ao40 t197.length co40] 30 (0, 0)) (bk_ BK200) hb)
     have n8_ := Aside0.mk (below_step (bl_) hb)
     clear HO186
     clear HO193
     clear HO199
     clear BK180
     clear BK181
     clear BK195
     clear BK200
     clear HB
     have HO186 := n0_
     have HO193 := n1_
     have HO199 := n2_
     have HO207 := n3_
     have BK180 := n4_
     have BK181 := n5_
     have BK195 := n6_
     have BK200 := n7_
     have HB := n8_
     clear n0_ n1_ n2_ n3_ n4_ n5_ n6_ n7_ n8_
     (try clear hb)
     (try clear hb2)
     (try clear hk)
     (try clear hi)
     (try clear ho0)
     refine hK.out _ _ ⟨(blk_cell BK200.out 0).trans rfl, (blk_cell BK200.out 1).trans rfl, (blk_cell BK181.out 0).trans rfl, (blk_cell BK181.out 1).trans rfl, (blk_cell BK181.out 2).trans rfl⟩ (fun hHeld => ?_)
     clear hK K
     refine norm_ (a' := ?_) ?_ ?_
     rotate_left
     ·show Act.put _ (some 35) _ = _
      simp only [Act.put, List.setIfInBounds_toArray, List.set_cons_zero, List.set_cons_succ, i64_w, i32_w]
      rfl
     refine pure_ (i := 4) (N := some 31) (v := ?_) (a' := ?_) #[true, true, true, true, true, false, false, false, false, false] rfl rfl (any_of HT_.out (by kernel_rfl)) (fun _ _ _ h => h) (Or.inl ⟨by rfl, ?_⟩) ?_ ?_
     rotate_left
     ·intro w'
      go_simp
      with_reducible rfl
     rotate_left
     ·simp only [Act.put, List.setIfInBounds_toArray, List.set_cons_zero, List.set_cons_succ, i64_w, i32_w]
      rfl
     refine pure_ (i := 5) (N := some 36) (v := ?_) (a' := ?_) #[true, true, true, true, true, true, false, false, false, false] rfl rfl (any_of HT_.out (by kernel_rfl)) (fun _ _ _ h => h) (Or.inl ⟨by rfl, ?_⟩) ?_ ?_
     rotate_left
     ·intro w'
      go_simp
      with_reducible rfl
     rotate_left
     ·simp only [Act.put, List.setIfInBounds_toArray, List.set_cons_zero, List.set_cons_succ, i64_w, i32_w]
      rfl
     refine pure_ (i := 6) (N := some 37) (v := ?_) (a' := ?_) #[true, true, true, true, true, true, true, false, false, false] rfl rfl (any_of HT_.out (by kernel_rfl)) (fun _ _ _ h => h) (Or.inl ⟨by rfl, ?_⟩) ?_ ?_
     rotate_left
     ·intro w'
      go_simp
      with_reducible rfl
     rotate_left
     ·simp only [Act.put, List.setIfInBounds_toArray, List.set_cons_zero, List.set_cons_succ, i64_w, i32_w]
      rfl
     refine one_ (i := 7) (N := some 9) #[true, true, true, true, true, true, true, true, false, false] rfl rfl (one_of HT_.out (by kernel_rfl)) (by decide) (fun K hK => ?_)
     refine box_step ?hg (N := 9) ?hd (cs := #[.int .i64 0, .slice none 0 0]) (t := 30) ?hr ?_; (case hd => rfl); (case hg => rfl); (case hr => first | (go_simp; done) | (go_simp; rfl))
     intro gb209 hg w45 hbox hb
     have n0_ := Aside0.mk (Kd.R_below (rr_ HO186) hb)
     have n1_ := Aside0.mk (Kd.R_below (rr_ HO193) hb)
     have n2_ := Aside0.mk (Kd.R_below (rr_ HO199) hb)
     have n3_ := Aside0.mk (Kd.R_below (rr_ HO207) hb)
     have n4_ := Aside0.mk (blk_below (g := gb180) (o := .cells #[.int .i64 a0_0, .slice A0_1 l0_1.length c0_1] 24 (0, 0)) (bk_ BK180) hb)
     have n5_ := Aside0.mk (blk_below (g := gb181) (o := .cells #[.int .i64 a1_0, .int .i64 a1_1, .int .i64 a1_2] 26 (0, 0)) (bk_ BK181) hb)
     have n6_ := Aside0.mk (blk_below (g := gb195) (o := .cells #[.int .i64 t190, .slice Ao30 t191.length co30] 30 (0, 0)) (bk_ BK195) hb)
     have n7_ := Aside0.mk (blk_below (g := gb200) (o := .cells #[.int .i64 t196, .slice Ao40 t197.length co40] 30 (0, 0)) (bk_ BK200) hb)
     have n8_ := Aside0.mk (below_step (bl_) hb)
     have n9_ := Aside0.mk (hbox)
     have n10_ := Aside0.mk ((by rw [hg]; exact (below_size (bl_)) : w.heap.size ≤ gb209))
     have n11_ := Aside0.mk ((by rw [hg]; exact (below_size (bl_)) : w.heap.size ≤ gb209))
     have n12_ := Aside0.mk ((by rw [hg]; exact Nat.ne_of_lt (blk_lt (g := gb180) (o := .cells #[.int .i64 a0_0, .slice A0_1 l0_1.length c0_1] 24 (0, 0)) (bk_ BK180)) : gb180 ≠ gb209))
     have n13_ := Aside0.mk ((by rw [hg]; exact Nat.ne_of_gt (blk_lt (g := gb180) (o := .cells #[.int .i64 a0_0, .slice A0_1 l0_1.length c0_1] 24 (0, 0)) (bk_ BK180)) : gb209 ≠ gb180))
     have n14_ := Aside0.mk ((by rw [hg]; exact Nat.ne_of_lt (blk_lt (g := gb181) (o := .cells #[.int .i64 a1_0, .int .i64 a1_1, .int .i64 a1_2] 26 (0, 0)) (bk_ BK181)) : gb181 ≠ gb209))
     have n15_ := Aside0.mk ((by rw [hg]; exact Nat.ne_of_gt (blk_lt (g := gb181) (o := .cells #[.int .i64 a1_0, .int .i64 a1_1, .int .i64 a1_2] 26 (0, 0)) (bk_ BK181)) : gb209 ≠ gb181))
     have n16_ := Aside0.mk ((by rw [hg]; exact Nat.ne_of_lt (blk_lt (g := gb195) (o := .cells #[.int .i64 t190, .slice Ao30 t191.length co30] 30 (0, 0)) (bk_ BK195)) : gb195 ≠ gb209))
     have n17_ := Aside0.mk ((by rw [hg]; exact Nat.ne_of_gt (blk_lt (g := gb195) (o := .cells #[.int .i64 t190, .slice Ao30 t191.length co30] 30 (0, 0)) (bk_ BK195)) : gb209 ≠ gb195))
     have n18_ := Aside0.mk ((by rw [hg]; exact Nat.ne_of_lt (blk_lt (g := gb200) (o := .cells #[.int .i64 t196, .slice Ao40 t197.length co40] 30 (0, 0)) (bk_ BK200)) : gb200 ≠ gb209))
     have n19_ := Aside0.mk ((by rw [hg]; exact Nat.ne_of_gt (blk_lt (g := gb200) (o := .cells #[.int .i64 t196, .slice Ao40 t197.length co40] 30 (0, 0)) (bk_ BK200)) : gb209 ≠ gb200))
     clear HO186
     clear HO193
     clear HO199
     clear HO207
     clear BK180
     clear BK181
     clear BK195
     clear BK200
     clear HB
     have HO186 := n0_
     have HO193 := n1_
     have HO199 := n2_
     have HO207 := n3_
     have BK180 := n4_
     have BK181 := n5_
     have BK195 := n6_
     have BK200 := n7_
     have HB := n8_
     have BK209 := n9_
     have GW209 := n10_
     have GE209 := n11_
     have NB180_209 := n12_
     have NB209_180 := n13_
     have NB181_209 := n14_
     have NB209_181 := n15_
     have NB195_209 := n16_
     have NB209_195 := n17_
     have NB200_209 := n18_
     have NB209_200 := n19_
     clear n0_ n1_ n2_ n3_ n4_ n5_ n6_ n7_ n8_ n9_ n10_ n11_ n12_ n13_ n14_ n15_ n16_ n17_ n18_ n19_
     clear hb hbox hg
     refine hK.out _ _ ⟨(blk_cell BK200.out 0).trans rfl, (blk_cell BK200.out 1).trans rfl, (blk_cell BK181.out 0).trans rfl, (blk_cell BK181.out 1).trans rfl, (blk_cell BK181.out 2).trans rfl⟩ (fun hHeld => ?_)
     clear hK K
     refine norm_ (a' := ?_) ?_ ?_
     rotate_left
     ·show Act.put _ (some 9) _ = _
      simp only [Act.put, List.setIfInBounds_toArray, List.set_cons_zero, List.set_cons_succ, i64_w, i32_w]
      rfl
     exact norm_ (by simp only [putAll, Act.put, List.setIfInBounds_toArray, List.set_cons_zero, List.set_cons_succ]) (hCont (v206, gb209) _ ⟨hHeld, (by (with_reducible repeat (first | apply Kd.R_alloc | apply Kd.R_drewN | apply Kd.R_drew)); exact Kd.R_mono HO186.out (fun _ hk => ⟨hk.1.1, ⟨hk.1.2, hk.2⟩⟩)), (by (with_reducible repeat (first | apply Kd.R_alloc | apply Kd.R_drewN | apply Kd.R_drew)); exact Kd.R_mono HO193.out (fun _ hk => ⟨hk.1.1, ⟨hk.1.2, hk.2⟩⟩)), (by (with_reducible repeat (first | apply Kd.R_alloc | apply Kd.R_drewN | apply Kd.R_drew)); exact Kd.R_mono HO199.out (fun _ hk => ⟨hk.1.1, ⟨hk.1.2, hk.2⟩⟩)), (by (with_reducible repeat (first | apply Kd.R_alloc | apply Kd.R_drewN | apply Kd.R_drew)); exact Kd.R_mono HO207.out (fun _ hk => ⟨hk.1.1.2, ⟨hk.1.2, hk.2⟩⟩)), (bk_ BK180), (bk_ BK181), (bk_ BK195), (bk_ BK200), (bk_ BK209), GW209.out, GE209.out, NB180_209.out, NB209_180.out, NB181_209.out, NB209_181.out, NB195_209.out, NB209_195.out, NB200_209.out, NB209_200.out, (bl_)⟩)
    ·skip
     refine box_step ?hg (N := 9) ?hd (cs := #[.int .i64 0, .slice none 0 0]) (t := 30) ?hr ?_; (case hd => rfl); (case hg => rfl); (case hr => first | (go_simp; done) | (go_simp; rfl))
     intro gb209 hg w44 hbox hb
     have n0_ := Aside0.mk (Kd.R_below (rr_ HO186) hb)
     have n1_ := Aside0.mk (Kd.R_below (rr_ HO193) hb)
     have n2_ := Aside0.mk (Kd.R_below (rr_ HO199) hb)
     have n3_ := Aside0.mk (blk_below (g := gb180) (o := .cells #[.int .i64 a0_0, .slice A0_1 l0_1.length c0_1] 24 (0, 0)) (bk_ BK180) hb)
     have n4_ := Aside0.mk (blk_below (g := gb181) (o := .cells #[.int .i64 a1_0, .int .i64 a1_1, .int .i64 a1_2] 26 (0, 0)) (bk_ BK181) hb)
     have n5_ := Aside0.mk (blk_below (g := gb195) (o := .cells #[.int .i64 t190, .slice Ao30 t191.length co30] 30 (0, 0)) (bk_ BK195) hb)
     have n6_ := Aside0.mk (blk_below (g := gb200) (o := .cells #[.int .i64 t196, .slice Ao40 t197.length co40] 30 (0, 0)) (bk_ BK200) hb)
     have n7_ := Aside0.mk (below_step (bl_) hb)
     have n8_ := Aside0.mk (hbox)
     have n9_ := Aside0.mk ((by rw [hg]; exact (below_size (bl_)) : w.heap.size ≤ gb209))
     have n10_ := Aside0.mk ((by rw [hg]; exact (below_size (bl_)) : w.heap.size ≤ gb209))
     have n11_ := Aside0.mk ((by rw [hg]; exact Nat.ne_of_lt (blk_lt (g := gb180) (o := .cells #[.int .i64 a0_0, .slice A0_1 l0_1.length c0_1] 24 (0, 0)) (bk_ BK180)) : gb180 ≠ gb209))
     have n12_ := Aside0.mk ((by rw [hg]; exact Nat.ne_of_gt (blk_lt (g := gb180) (o := .cells #[.int .i64 a0_0, .slice A0_1 l0_1.length c0_1] 24 (0, 0)) (bk_ BK180)) : gb209 ≠ gb180))
     have n13_ := Aside0.mk ((by rw [hg]; exact Nat.ne_of_lt (blk_lt (g := gb181) (o := .cells #[.int .i64 a1_0, .int .i64 a1_1, .int .i64 a1_2] 26 (0, 0)) (bk_ BK181)) : gb181 ≠ gb209))
     have n14_ := Aside0.mk ((by rw [hg]; exact Nat.ne_of_gt (blk_lt (g := gb181) (o := .cells #[.int .i64 a1_0, .int .i64 a1_1, .int .i64 a1_2] 26 (0, 0)) (bk_ BK181)) : gb209 ≠ gb181))
     have n15_ := Aside0.mk ((by rw [hg]; exact Nat.ne_of_lt (blk_lt (g := gb195) (o := .cells #[.int .i64 t190, .slice Ao30 t191.length co30] 30 (0, 0)) (bk_ BK195)) : gb195 ≠ gb209))
     have n16_ := Aside0.mk ((by rw [hg]; exact Nat.ne_of_gt (blk_lt (g := gb195) (o := .cells #[.int .i64 t190, .slice Ao30 t191.length co30] 30 (0, 0)) (bk_ BK195)) : gb209 ≠ gb195))
     have n17_ := Aside0.mk ((by rw [hg]; exact Nat.ne_of_lt (blk_lt (g := gb200) (o := .cells #[.int .i64 t196, .slice Ao40 t197.length co40] 30 (0, 0)) (bk_ BK200)) : gb200 ≠ gb209))
     have n18_ := Aside0.mk ((by rw [hg]; exact Nat.ne_of_gt (blk_lt (g := gb200) (o := .cells #[.int .i64 t196, .slice Ao40 t197.length co40] 30 (0, 0)) (bk_ BK200)) : gb209 ≠ gb200))
     clear HO186
     clear HO193
     clear HO199
     clear BK180
     clear BK181
     clear BK195
     clear BK200
     clear HB
     have HO186 := n0_
     have HO193 := n1_
     have HO199 := n2_
     have BK180 := n3_
     have BK181 := n4_
     have BK195 := n5_
     have BK200 := n6_
     have HB := n7_
     have BK209 := n8_
     have GW209 := n9_
     have GE209 := n10_
     have NB180_209 := n11_
     have NB209_180 := n12_
     have NB181_209 := n13_
     have NB209_181 := n14_
     have NB195_209 := n15_
     have NB209_195 := n16_
     have NB200_209 := n17_
     have NB209_200 := n18_
     clear n0_ n1_ n2_ n3_ n4_ n5_ n6_ n7_ n8_ n9_ n10_ n11_ n12_ n13_ n14_ n15_ n16_ n17_ n18_
     clear hb hbox hg
     refine hK.out _ _ ⟨(blk_cell BK200.out 0).trans rfl, (blk_cell BK200.out 1).trans rfl, (blk_cell BK181.out 0).trans rfl, (blk_cell BK181.out 1).trans rfl, (blk_cell BK181.out 2).trans rfl⟩ (fun hHeld => ?_)
     clear hK K
     refine norm_ (a' := ?_) ?_ ?_
     rotate_left
     ·show Act.put _ (some 9) _ = _
      simp only [Act.put, List.setIfInBounds_toArray, List.set_cons_zero, List.set_cons_succ, i64_w, i32_w]
      rfl
     refine one_ (i := 3) (N := some 35) #[true, true, true, true, false, false, false, true, false, false] rfl rfl (one_of HT_.out (by kernel_rfl)) (by decide) (fun K hK => ?_)
     refine goes_ Try.func8 (by kernel_rfl) rfl #[.agg #[.int .i64 t196, .slice Ao40 t197.length co40], .agg #[.int .i64 t201, .int .i64 t202, .int .i64 t203]] (by rfl) rfl rfl ar_ ?_
     with_reducible refine (impl_AddBridge.calls t196 _ _ t197 t201 t202 t203 t204 t205 t208 _ ?side1 ?side2 A15.out).mono ?_
     (case side1 => repeat (first | exact (Kd.R_reads' HO199.out).2.2 | (with_reducible refine Kd.C_alloc ?_ _) | (with_reducible refine Kd.C_drewN ?_ _) | (with_reducible refine Kd.C_drew ?_)))
     (case side2 => exact (Kd.R_reads' HO199.out).2.1)
     rintro e w45 ⟨v206, rfl, ho0, hb⟩
     refine ⟨_, rfl, ?_⟩
     have n0_ := Aside0.mk (Kd.R_elder' (rr_ HO186) (Kd.R_base ho0) hb)
     have n1_ := Aside0.mk (Kd.R_elder' (rr_ HO193) (Kd.R_base ho0) hb)
     have n2_ := Aside0.mk (Kd.R_elder' (rr_ HO199) (Kd.R_base ho0) hb)
     have n3_ := Aside0.mk (Kd.R_lower (Kd.R_new' (Kd.R_new' (Kd.R_new' ho0 (Kd.R_lt (rr_ HO186))) (Kd.R_lt (rr_ HO193))) (Kd.R_lt (rr_ HO199))) (below_size (bl_)))
     have n4_ := Aside0.mk (blk_below (g := gb180) (o := .cells #[.int .i64 a0_0, .slice A0_1 l0_1.length c0_1] 24 (0, 0)) (bk_ BK180) hb)
     have n5_ := Aside0.mk (blk_below (g := gb181) (o := .cells #[.int .i64 a1_0, .int .i64 a1_1, .int .i64 a1_2] 26 (0, 0)) (bk_ BK181) hb)
     have n6_ := Aside0.mk (blk_below (g := gb195) (o := .cells #[.int .i64 t190, .slice Ao30 t191.length co30] 30 (0, 0)) (bk_ BK195) hb)
     have n7_ := Aside0.mk (blk_below (g := gb200) (o := .cells #[.int .i64 t196, .slice Ao40 t197.length co40] 30 (0, 0)) (bk_ BK200) hb)
     have n8_ := Aside0.mk (blk_below (g := gb209) (o := .cells #[.int .i64 0, .slice none 0 0] 30 (0, 0)) (bk_ BK209) hb)
     have n9_ := Aside0.mk (below_step (bl_) hb)
     clear HO186
     clear HO193
     clear HO199
     clear BK180
     clear BK181
     clear BK195
     clear BK200
     clear BK209
     clear HB
     have HO186 := n0_
     have HO193 := n1_
     have HO199 := n2_
     have HO207 := n3_
     have BK180 := n4_
     have BK181 := n5_
     have BK195 := n6_
     have BK200 := n7_
     have BK209 := n8_
     have HB := n9_
     clear n0_ n1_ n2_ n3_ n4_ n5_ n6_ n7_ n8_ n9_
     (try clear hb)
     (try clear hb2)
     (try clear hk)
     (try clear hi)
     (try clear ho0)
     refine hK.out _ _ ⟨(blk_cell BK200.out 0).trans rfl, (blk_cell BK200.out 1).trans rfl, (blk_cell BK181.out 0).trans rfl, (blk_cell BK181.out 1).trans rfl, (blk_cell BK181.out 2).trans rfl⟩ (fun hHeld => ?_)
     clear hK K
     refine norm_ (a' := ?_) ?_ ?_
     rotate_left
     ·show Act.put _ (some 35) _ = _
      simp only [Act.put, List.setIfInBounds_toArray, List.set_cons_zero, List.set_cons_succ, i64_w, i32_w]
      rfl
     refine pure_ (i := 4) (N := some 31) (v := ?_) (a' := ?_) #[true, true, true, true, true, false, false, true, false, false] rfl rfl (any_of HT_.out (by kernel_rfl)) (fun _ _ _ h => h) (Or.inl ⟨by rfl, ?_⟩) ?_ ?_
     rotate_left
     ·intro w'
      go_simp
      with_reducible rfl
     rotate_left
     ·simp only [Act.put, List.setIfInBounds_toArray, List.set_cons_zero, List.set_cons_succ, i64_w, i32_w]
      rfl
     refine pure_ (i := 5) (N := some 36) (v := ?_) (a' := ?_) #[true, true, true, true, true, true, false, true, false, false] rfl rfl (any_of HT_.out (by kernel_rfl)) (fun _ _ _ h => h) (Or.inl ⟨by rfl, ?_⟩) ?_ ?_
     rotate_left
     ·intro w'
      go_simp
      with_reducible rfl
     rotate_left
     ·simp only [Act.put, List.setIfInBounds_toArray, List.set_cons_zero, List.set_cons_succ, i64_w, i32_w]
      rfl
     refine pure_ (i := 6) (N := some 37) (v := ?_) (a' := ?_) #[true, true, true, true, true, true, true, true, false, false] rfl rfl (any_of HT_.out (by kernel_rfl)) (fun _ _ _ h => h) (Or.inl ⟨by rfl, ?_⟩) ?_ ?_
     rotate_left
     ·intro w'
      go_simp
      with_reducible rfl
     rotate_left
     ·simp only [Act.put, List.setIfInBounds_toArray, List.set_cons_zero, List.set_cons_succ, i64_w, i32_w]
      rfl
     exact norm_ (by simp only [putAll, Act.put, List.setIfInBounds_toArray, List.set_cons_zero, List.set_cons_succ]) (hCont (v206, gb209) _ ⟨hHeld, (by (with_reducible repeat (first | apply Kd.R_alloc | apply Kd.R_drewN | apply Kd.R_drew)); exact Kd.R_mono HO186.out (fun _ hk => ⟨hk.1.1, ⟨hk.1.2, hk.2⟩⟩)), (by (with_reducible repeat (first | apply Kd.R_alloc | apply Kd.R_drewN | apply Kd.R_drew)); exact Kd.R_mono HO193.out (fun _ hk => ⟨hk.1.1, ⟨hk.1.2, hk.2⟩⟩)), (by (with_reducible repeat (first | apply Kd.R_alloc | apply Kd.R_drewN | apply Kd.R_drew)); exact Kd.R_mono HO199.out (fun _ hk => ⟨hk.1.1, ⟨hk.1.2, hk.2⟩⟩)), (by (with_reducible repeat (first | apply Kd.R_alloc | apply Kd.R_drewN | apply Kd.R_drew)); exact Kd.R_mono HO207.out (fun _ hk => ⟨hk.1.1.2, ⟨hk.1.2, hk.2⟩⟩)), (bk_ BK180), (bk_ BK181), (bk_ BK195), (bk_ BK200), (bk_ BK209), GW209.out, GE209.out, NB180_209.out, NB209_180.out, NB181_209.out, NB209_181.out, NB195_209.out, NB209_195.out, NB200_209.out, NB209_200.out, (bl_)⟩)
   ·skip
    refine box_step ?hg (N := 9) ?hd (cs := #[.int .i64 0, .slice none 0 0]) (t := 30) ?hr ?_; (case hd => rfl); (case hg => rfl); (case hr => first | (go_simp; done) | (go_simp; rfl))
    intro gb209 hg w43 hbox hb
    have n0_ := Aside0.mk (Kd.R_below (rr_ HO186) hb)
    have n1_ := Aside0.mk (Kd.R_below (rr_ HO193) hb)
    have n2_ := Aside0.mk (Kd.R_below (rr_ HO199) hb)
    have n3_ := Aside0.mk (blk_below (g := gb180) (o := .cells #[.int .i64 a0_0, .slice A0_1 l0_1.length c0_1] 24 (0, 0)) (bk_ BK180) hb)
    have n4_ := Aside0.mk (blk_below (g := gb181) (o := .cells #[.int .i64 a1_0, .int .i64 a1_1, .int .i64 a1_2] 26 (0, 0)) (bk_ BK181) hb)
    have n5_ := Aside0.mk (blk_below (g := gb195) (o := .cells #[.int .i64 t190, .slice Ao30 t191.length co30] 30 (0, 0)) (bk_ BK195) hb)
    have n6_ := Aside0.mk (blk_below (g := gb200) (o := .cells #[.int .i64 t196, .slice Ao40 t197.length co40] 30 (0, 0)) (bk_ BK200) hb)
    have n7_ := Aside0.mk (below_step (bl_) hb)
    have n8_ := Aside0.mk (hbox)
    have n9_ := Aside0.mk ((by rw [hg]; exact (below_size (bl_)) : w.heap.size ≤ gb209))
    have n10_ := Aside0.mk ((by rw [hg]; exact (below_size (bl_)) : w.heap.size ≤ gb209))
    have n11_ := Aside0.mk ((by rw [hg]; exact Nat.ne_of_lt (blk_lt (g := gb180) (o := .cells #[.int .i64 a0_0, .slice A0_1 l0_1.length c0_1] 24 (0, 0)) (bk_ BK180)) : gb180 ≠ gb209))
    have n12_ := Aside0.mk ((by rw [hg]; exact Nat.ne_of_gt (blk_lt (g := gb180) (o := .cells #[.int .i64 a0_0, .slice A0_1 l0_1.length c0_1] 24 (0, 0)) (bk_ BK180)) : gb209 ≠ gb180))
    have n13_ := Aside0.mk ((by rw [hg]; exact Nat.ne_of_lt (blk_lt (g := gb181) (o := .cells #[.int .i64 a1_0, .int .i64 a1_1, .int .i64 a1_2] 26 (0, 0)) (bk_ BK181)) : gb181 ≠ gb209))
    have n14_ := Aside0.mk ((by rw [hg]; exact Nat.ne_of_gt (blk_lt (g := gb181) (o := .cells #[.int .i64 a1_0, .int .i64 a1_1, .int .i64 a1_2] 26 (0, 0)) (bk_ BK181)) : gb209 ≠ gb181))
    have n15_ := Aside0.mk ((by rw [hg]; exact Nat.ne_of_lt (blk_lt (g := gb195) (o := .cells #[.int .i64 t190, .slice Ao30 t191.length co30] 30 (0, 0)) (bk_ BK195)) : gb195 ≠ gb209))
    have n16_ := Aside0.mk ((by rw [hg]; exact Nat.ne_of_gt (blk_lt (g := gb195) (o := .cells #[.int .i64 t190, .slice Ao30 t191.length co30] 30 (0, 0)) (bk_ BK195)) : gb209 ≠ gb195))
    have n17_ := Aside0.mk ((by rw [hg]; exact Nat.ne_of_lt (blk_lt (g := gb200) (o := .cells #[.int .i64 t196, .slice Ao40 t197.length co40] 30 (0, 0)) (bk_ BK200)) : gb200 ≠ gb209))
    have n18_ := Aside0.mk ((by rw [hg]; exact Nat.ne_of_gt (blk_lt (g := gb200) (o := .cells #[.int .i64 t196, .slice Ao40 t197.length co40] 30 (0, 0)) (bk_ BK200)) : gb209 ≠ gb200))
    clear HO186
    clear HO193
    clear HO199
    clear BK180
    clear BK181
    clear BK195
    clear BK200
    clear HB
    have HO186 := n0_
    have HO193 := n1_
    have HO199 := n2_
    have BK180 := n3_
    have BK181 := n4_
    have BK195 := n5_
    have BK200 := n6_
    have HB := n7_
    have BK209 := n8_
    have GW209 := n9_
    have GE209 := n10_
    have NB180_209 := n11_
    have NB209_180 := n12_
    have NB181_209 := n13_
    have NB209_181 := n14_
    have NB195_209 := n15_
    have NB209_195 := n16_
    have NB200_209 := n17_
    have NB209_200 := n18_
    clear n0_ n1_ n2_ n3_ n4_ n5_ n6_ n7_ n8_ n9_ n10_ n11_ n12_ n13_ n14_ n15_ n16_ n17_ n18_
    clear hb hbox hg
    refine hK.out _ _ ⟨(blk_cell BK200.out 0).trans rfl, (blk_cell BK200.out 1).trans rfl, (blk_cell BK181.out 0).trans rfl, (blk_cell BK181.out 1).trans rfl, (blk_cell BK181.out 2).trans rfl⟩ (fun hHeld => ?_)
    clear hK K
    refine norm_ (a' := ?_) ?_ ?_
    rotate_left
    ·show Act.put _ (some 9) _ = _
     simp only [Act.put, List.setIfInBounds_toArray, List.set_cons_zero, List.set_cons_succ, i64_w, i32_w]
     rfl
    refine one_ (i := 2) (N := some 34) #[true, true, true, false, false, false, false, true, false, false] rfl rfl (one_of HT_.out (by kernel_rfl)) (by decide) (fun K hK => ?_)
    refine goes_ Try.func7 (by kernel_rfl) rfl #[.agg #[.int .i64 a1_0, .int .i64 a1_1, .int .i64 a1_2]] (by rfl) rfl rfl ar_ ?_
    with_reducible refine (laws_toBridge.calls a1_0 a1_1 a1_2 t201 t202 t203 _ A14.out).mono ?_
    rintro e w44 ⟨rfl, hb⟩
    refine ⟨_, rfl, ?_⟩
    have n0_ := Aside0.mk (Kd.R_below (rr_ HO186) hb)
    have n1_ := Aside0.mk (Kd.R_below (rr_ HO193) hb)
    have n2_ := Aside0.mk (Kd.R_below (rr_ HO199) hb)
    have n3_ := Aside0.mk (blk_below (g := gb180) (o := .cells #[.int .i64 a0_0, .slice A0_1 l0_1.length c0_1] 24 (0, 0)) (bk_ BK180) hb)
    have n4_ := Aside0.mk (blk_below (g := gb181) (o := .cells #[.int .i64 a1_0, .int .i64 a1_1, .int .i64 a1_2] 26 (0, 0)) (bk_ BK181) hb)
    have n5_ := Aside0.mk (blk_below (g := gb195) (o := .cells #[.int .i64 t190, .slice Ao30 t191.length co30] 30 (0, 0)) (bk_ BK195) hb)
    have n6_ := Aside0.mk (blk_below (g := gb200) (o := .cells #[.int .i64 t196, .slice Ao40 t197.length co40] 30 (0, 0)) (bk_ BK200) hb)
    have n7_ := Aside0.mk (blk_below (g := gb209) (o := .cells #[.int .i64 0, .slice none 0 0] 30 (0, 0)) (bk_ BK209) hb)
    have n8_ := Aside0.mk (below_step (bl_) hb)
    clear HO186
    clear HO193
    clear HO199
    clear BK180
    clear BK181
    clear BK195
    clear BK200
    clear BK209
    clear HB
    have HO186 := n0_
    have HO193 := n1_
    have HO199 := n2_
    have BK180 := n3_
    have BK181 := n4_
    have BK195 := n5_
    have BK200 := n6_
    have BK209 := n7_
    have HB := n8_
    clear n0_ n1_ n2_ n3_ n4_ n5_ n6_ n7_ n8_
    (try clear hb)
    (try clear hb2)
    (try clear hk)
    (try clear hi)
    refine hK.out _ _ ⟨(blk_cell BK200.out 0).trans rfl, (blk_cell BK200.out 1).trans rfl, (blk_cell BK181.out 0).trans rfl, (blk_cell BK181.out 1).trans rfl, (blk_cell BK181.out 2).trans rfl⟩ (fun hHeld => ?_)
    clear hK K
    refine norm_ (a' := ?_) ?_ ?_
    rotate_left
    ·show Act.put _ (some 34) _ = _
     simp only [Act.put, List.setIfInBounds_toArray, List.set_cons_zero, List.set_cons_succ, i64_w, i32_w]
     rfl
    refine one_ (i := 3) (N := some 35) #[true, true, true, true, false, false, false, true, false, false] rfl rfl (one_of HT_.out (by kernel_rfl)) (by decide) (fun K hK => ?_)
    refine goes_ Try.func8 (by kernel_rfl) rfl #[.agg #[.int .i64 t196, .slice Ao40 t197.length co40], .agg #[.int .i64 t201, .int .i64 t202, .int .i64 t203]] (by rfl) rfl rfl ar_ ?_
    with_reducible refine (impl_AddBridge.calls t196 _ _ t197 t201 t202 t203 t204 t205 t208 _ ?side1 ?side2 A15.out).mono ?_
    (case side1 => repeat (first | exact (Kd.R_reads' HO199.out).2.2 | (with_reducible refine Kd.C_alloc ?_ _) | (with_reducible refine Kd.C_drewN ?_ _) | (with_reducible refine Kd.C_drew ?_)))
    (case side2 => exact (Kd.R_reads' HO199.out).2.1)
    rintro e w45 ⟨v206, rfl, ho0, hb⟩
    refine ⟨_, rfl, ?_⟩
    have n0_ := Aside0.mk (Kd.R_elder' (rr_ HO186) (Kd.R_base ho0) hb)
    have n1_ := Aside0.mk (Kd.R_elder' (rr_ HO193) (Kd.R_base ho0) hb)
    have n2_ := Aside0.mk (Kd.R_elder' (rr_ HO199) (Kd.R_base ho0) hb)
    have n3_ := Aside0.mk (Kd.R_lower (Kd.R_new' (Kd.R_new' (Kd.R_new' ho0 (Kd.R_lt (rr_ HO186))) (Kd.R_lt (rr_ HO193))) (Kd.R_lt (rr_ HO199))) (below_size (bl_)))
    have n4_ := Aside0.mk (blk_below (g := gb180) (o := .cells #[.int .i64 a0_0, .slice A0_1 l0_1.length c0_1] 24 (0, 0)) (bk_ BK180) hb)
    have n5_ := Aside0.mk (blk_below (g := gb181) (o := .cells #[.int .i64 a1_0, .int .i64 a1_1, .int .i64 a1_2] 26 (0, 0)) (bk_ BK181) hb)
    have n6_ := Aside0.mk (blk_below (g := gb195) (o := .cells #[.int .i64 t190, .slice Ao30 t191.length co30] 30 (0, 0)) (bk_ BK195) hb)
    have n7_ := Aside0.mk (blk_below (g := gb200) (o := .cells #[.int .i64 t196, .slice Ao40 t197.length co40] 30 (0, 0)) (bk_ BK200) hb)
    have n8_ := Aside0.mk (blk_below (g := gb209) (o := .cells #[.int .i64 0, .slice none 0 0] 30 (0, 0)) (bk_ BK209) hb)
    have n9_ := Aside0.mk (below_step (bl_) hb)
    clear HO186
    clear HO193
    clear HO199
    clear BK180
    clear BK181
    clear BK195
    clear BK200
    clear BK209
    clear HB
    have HO186 := n0_
    have HO193 := n1_
    have HO199 := n2_
    have HO207 := n3_
    have BK180 := n4_
    have BK181 := n5_
    have BK195 := n6_
    have BK200 := n7_
    have BK209 := n8_
    have HB := n9_
    clear n0_ n1_ n2_ n3_ n4_ n5_ n6_ n7_ n8_ n9_
    (try clear hb)
    (try clear hb2)
    (try clear hk)
    (try clear hi)
    (try clear ho0)
    refine hK.out _ _ ⟨(blk_cell BK200.out 0).trans rfl, (blk_cell BK200.out 1).trans rfl, (blk_cell BK181.out 0).trans rfl, (blk_cell BK181.out 1).trans rfl, (blk_cell BK181.out 2).trans rfl⟩ (fun hHeld => ?_)
    clear hK K
    refine norm_ (a' := ?_) ?_ ?_
    rotate_left
    ·show Act.put _ (some 35) _ = _
     simp only [Act.put, List.setIfInBounds_toArray, List.set_cons_zero, List.set_cons_succ, i64_w, i32_w]
     rfl
    refine pure_ (i := 4) (N := some 31) (v := ?_) (a' := ?_) #[true, true, true, true, true, false, false, true, false, false] rfl rfl (any_of HT_.out (by kernel_rfl)) (fun _ _ _ h => h) (Or.inl ⟨by rfl, ?_⟩) ?_ ?_
    rotate_left
    ·intro w'
     go_simp
     with_reducible rfl
    rotate_left
    ·simp only [Act.put, List.setIfInBounds_toArray, List.set_cons_zero, List.set_cons_succ, i64_w, i32_w]
     rfl
    refine pure_ (i := 5) (N := some 36) (v := ?_) (a' := ?_) #[true, true, true, true, true, true, false, true, false, false] rfl rfl (any_of HT_.out (by kernel_rfl)) (fun _ _ _ h => h) (Or.inl ⟨by rfl, ?_⟩) ?_ ?_
    rotate_left
    ·intro w'
     go_simp
     with_reducible rfl
    rotate_left
    ·simp only [Act.put, List.setIfInBounds_toArray, List.set_cons_zero, List.set_cons_succ, i64_w, i32_w]
     rfl
    refine pure_ (i := 6) (N := some 37) (v := ?_) (a' := ?_) #[true, true, true, true, true, true, true, true, false, false] rfl rfl (any_of HT_.out (by kernel_rfl)) (fun _ _ _ h => h) (Or.inl ⟨by rfl, ?_⟩) ?_ ?_
    rotate_left
    ·intro w'
     go_simp
     with_reducible rfl
    rotate_left
    ·simp only [Act.put, List.setIfInBounds_toArray, List.set_cons_zero, List.set_cons_succ, i64_w, i32_w]
     rfl
    exact norm_ (by simp only [putAll, Act.put, List.setIfInBounds_toArray, List.set_cons_zero, List.set_cons_succ]) (hCont (v206, gb209) _ ⟨hHeld, (by (with_reducible repeat (first | apply Kd.R_alloc | apply Kd.R_drewN | apply Kd.R_drew)); exact Kd.R_mono HO186.out (fun _ hk => ⟨hk.1.1, ⟨hk.1.2, hk.2⟩⟩)), (by (with_reducible repeat (first | apply Kd.R_alloc | apply Kd.R_drewN | apply Kd.R_drew)); exact Kd.R_mono HO193.out (fun _ hk => ⟨hk.1.1, ⟨hk.1.2, hk.2⟩⟩)), (by (with_reducible repeat (first | apply Kd.R_alloc | apply Kd.R_drewN | apply Kd.R_drew)); exact Kd.R_mono HO199.out (fun _ hk => ⟨hk.1.1, ⟨hk.1.2, hk.2⟩⟩)), (by (with_reducible repeat (first | apply Kd.R_alloc | apply Kd.R_drewN | apply Kd.R_drew)); exact Kd.R_mono HO207.out (fun _ hk => ⟨hk.1.1.2, ⟨hk.1.2, hk.2⟩⟩)), (bk_ BK180), (bk_ BK181), (bk_ BK195), (bk_ BK200), (bk_ BK209), GW209.out, GE209.out, NB180_209.out, NB209_180.out, NB181_209.out, NB209_181.out, NB195_209.out, NB209_195.out, NB200_209.out, NB209_200.out, (bl_)⟩)
  rintro ⟨v206, gb209⟩ w46 ⟨hS_, h0_, h1_, h2_, h3_, h4_, h5_, h6_, h7_, h8_, h9_, h10_, h11_, h12_, h13_, h14_, h15_, h16_, h17_, h18_, h19_⟩
  have n0_ : Aside0 (Kd.R k34 34 w46 w.heap.size (fun k_ => some k_ ≠ (.slice Ao30 t191.length co30 : Value).ownBlock ∧ some k_ ≠ (.slice Ao40 t197.length co40 : Value).ownBlock ∧ some k_ ≠ (v206 : Value).ownBlock) v185 t184) := ⟨h0_⟩
  have n1_ : Aside0 (Kd.R k34 34 w46 w.heap.size (fun k_ => some k_ ≠ (v185 : Value).ownBlock ∧ some k_ ≠ (.slice Ao40 t197.length co40 : Value).ownBlock ∧ some k_ ≠ (v206 : Value).ownBlock) (.slice Ao30 t191.length co30) t191) := ⟨h1_⟩
  have n2_ : Aside0 (Kd.R k34 34 w46 w.heap.size (fun k_ => some k_ ≠ (v185 : Value).ownBlock ∧ some k_ ≠ (.slice Ao30 t191.length co30 : Value).ownBlock ∧ some k_ ≠ (v206 : Value).ownBlock) (.slice Ao40 t197.length co40) t197) := ⟨h2_⟩
  have n3_ : Aside0 (Kd.R k34 34 w46 w.heap.size (fun k_ => some k_ ≠ (v185 : Value).ownBlock ∧ some k_ ≠ (.slice Ao30 t191.length co30 : Value).ownBlock ∧ some k_ ≠ (.slice Ao40 t197.length co40 : Value).ownBlock) v206 t205) := ⟨h3_⟩
  have n4_ : Aside0 (w46.heap[gb180]? = some (.cells #[.int .i64 a0_0, .slice A0_1 l0_1.length c0_1] 24 (0, 0))) := ⟨h4_⟩
  have n5_ : Aside0 (w46.heap[gb181]? = some (.cells #[.int .i64 a1_0, .int .i64 a1_1, .int .i64 a1_2] 26 (0, 0))) := ⟨h5_⟩
  have n6_ : Aside0 (w46.heap[gb195]? = some (.cells #[.int .i64 t190, .slice Ao30 t191.length co30] 30 (0, 0))) := ⟨h6_⟩
  have n7_ : Aside0 (w46.heap[gb200]? = some (.cells #[.int .i64 t196, .slice Ao40 t197.length co40] 30 (0, 0))) := ⟨h7_⟩
  have n8_ : Aside0 (w46.heap[gb209]? = some (.cells #[.int .i64 0, .slice none 0 0] 30 (0, 0))) := ⟨h8_⟩
  have n9_ : Aside0 (w.heap.size ≤ gb209) := ⟨h9_⟩
  have n10_ : Aside0 (w.heap.size ≤ gb209) := ⟨h10_⟩
  have n11_ : Aside0 (gb180 ≠ gb209) := ⟨h11_⟩
  have n12_ : Aside0 (gb209 ≠ gb180) := ⟨h12_⟩
  have n13_ : Aside0 (gb181 ≠ gb209) := ⟨h13_⟩
  have n14_ : Aside0 (gb209 ≠ gb181) := ⟨h14_⟩
  have n15_ : Aside0 (gb195 ≠ gb209) := ⟨h15_⟩
  have n16_ : Aside0 (gb209 ≠ gb195) := ⟨h16_⟩
  have n17_ : Aside0 (gb200 ≠ gb209) := ⟨h17_⟩
  have n18_ : Aside0 (gb209 ≠ gb200) := ⟨h18_⟩
  have n19_ : Aside0 (Below w.heap.size w w46) := ⟨h19_⟩
  clear HO186
  clear HO193
  clear HO199
  clear BK180
  clear BK181
  clear BK195
  clear BK200
  clear HB
  clear h0_ h1_ h2_ h3_ h4_ h5_ h6_ h7_ h8_ h9_ h10_ h11_ h12_ h13_ h14_ h15_ h16_ h17_ h18_ h19_
  have HO186 := n0_
  have HO193 := n1_
  have HO199 := n2_
  have HO207 := n3_
  have BK180 := n4_
  have BK181 := n5_
  have BK195 := n6_
  have BK200 := n7_
  have BK209 := n8_
  have GW209 := n9_
  have GE209 := n10_
  have NB180_209 := n11_
  have NB209_180 := n12_
  have NB181_209 := n13_
  have NB209_181 := n14_
  have NB195_209 := n15_
  have NB209_195 := n16_
  have NB200_209 := n17_
  have NB209_200 := n18_
  have HB := n19_
  clear n0_ n1_ n2_ n3_ n4_ n5_ n6_ n7_ n8_ n9_ n10_ n11_ n12_ n13_ n14_ n15_ n16_ n17_ n18_ n19_
  have hHeld : w46.cell? ⟨gb200, 0, none⟩ = some (.int .i64 t196) ∧ w46.cell? ⟨gb200, 1, none⟩ = some (.slice Ao40 t197.length co40) ∧ w46.cell? ⟨gb181, 0, none⟩ = some (.int .i64 a1_0) ∧ w46.cell? ⟨gb181, 1, none⟩ = some (.int .i64 a1_1) ∧ w46.cell? ⟨gb181, 2, none⟩ = some (.int .i64 a1_2) := hS_
  obtain ⟨Ao48, co48, eo48⟩ := Kd.R_slice HO207.out
  (first | subst eo48 | (injection eo48 with f1_ f2_ f3_; have f4_ := f1_.symm; have f5_ := f3_.symm; clear f1_ f2_ f3_; subst f4_; subst f5_))
  refine norm_ (a' := ?_) ?_ ?_
  rotate_left
  ·simp only [putAll, Act.put, List.setIfInBounds_toArray, List.set_cons_zero, List.set_cons_succ]
   rfl
  refine one_ (i := 8) (N := none) #[true, true, true, true, true, true, true, true, true, false] rfl rfl (one_of HT_.out (by kernel_rfl)) (by decide) (fun K hK => ?_)
  have hs47 : w46.cell? ⟨gb209, 0, none⟩ = some (.int .i64 0) := (blk_cell BK209.out 0).trans rfl
  have hfs47 := blk_frozen BK209.out 0
  have hns47_0 := NB180_209.out
  have hns47_1 := NB181_209.out
  have hns47_2 := NB195_209.out
  have hns47_3 := NB200_209.out
  have hms47_0 := NB209_180.out
  have hms47_1 := NB209_181.out
  have hms47_2 := NB209_195.out
  have hms47_3 := NB209_200.out
  have hs49 : w46.cell? ⟨gb209, 1, none⟩ = some (.slice none 0 0) := (blk_cell BK209.out 1).trans rfl
  have hfs49 := blk_frozen BK209.out 1
  have hns49_0 := NB180_209.out
  have hns49_1 := NB181_209.out
  have hns49_2 := NB195_209.out
  have hns49_3 := NB200_209.out
  have hms49_0 := NB209_180.out
  have hms49_1 := NB209_181.out
  have hms49_2 := NB209_195.out
  have hms49_3 := NB209_200.out
  refine skip_ (w1 := ?_) (by rfl) rfl ?_ ?_
  rotate_left
  ·go_simp
   rfl
  refine hK.out _ _ ⟨((cell_far (p := ⟨gb209, _, none⟩) NB200_209.out _).trans (((cell_far (p := ⟨gb209, _, none⟩) NB200_209.out _).trans (hHeld.1)))), ((cell_far (p := ⟨gb209, _, none⟩) NB200_209.out _).trans (((cell_far (p := ⟨gb209, _, none⟩) NB200_209.out _).trans (hHeld.2.1)))), ((cell_far (p := ⟨gb209, _, none⟩) NB181_209.out _).trans (((cell_far (p := ⟨gb209, _, none⟩) NB181_209.out _).trans (hHeld.2.2.1)))), ((cell_far (p := ⟨gb209, _, none⟩) NB181_209.out _).trans (((cell_far (p := ⟨gb209, _, none⟩) NB181_209.out _).trans (hHeld.2.2.2.1)))), ((cell_far (p := ⟨gb209, _, none⟩) NB181_209.out _).trans (((cell_far (p := ⟨gb209, _, none⟩) NB181_209.out _).trans (hHeld.2.2.2.2))))⟩ (fun hHeld => ?_)
  clear hK K
  refine pure_ (i := 9) (N := some 10) (v := ?_) (a' := ?_) #[true, true, true, true, true, true, true, true, true, true] rfl rfl (any_of HT_.out (by kernel_rfl)) (fun _ _ _ h => h) (Or.inl ⟨by rfl, ?_⟩) ?_ ?_
  rotate_left
  ·intro w'
   go_simp
   with_reducible rfl
  rotate_left
  ·simp only [Act.put, List.setIfInBounds_toArray, List.set_cons_zero, List.set_cons_succ, i64_w, i32_w]
   rfl
  refine done_ (done_of HT_.out (by kernel_rfl)) ?_
  go_upto_region 8 with (fail)
  go_cut [46] (fun v46 wc => ∃ (kq : Nat) (x46_15 : Bool), v46 = .bool x46_15 ∧ Aside0 (laws_FnExactAddBridge.j0 kq t194 t208 x46_15 a0_0 l0_1 a1_0 a1_1 a1_2 t190 t191 t196 t197 t204 t205 = some r) ∧ Aside0 (kq ≤ k) ∧ Aside0 (Kd.R k34 34 wc w.heap.size (fun k_ => some k_ ≠ ((.slice Ao40 t197.length co40) : Value).ownBlock ∧ some k_ ≠ ((.slice Ao48 t205.length co48) : Value).ownBlock) (.slice Ao30 t191.length co30) t191) ∧ Aside0 (Kd.R k34 34 wc w.heap.size (fun k_ => some k_ ≠ ((.slice Ao30 t191.length co30) : Value).ownBlock ∧ some k_ ≠ ((.slice Ao48 t205.length co48) : Value).ownBlock) (.slice Ao40 t197.length co40) t197) ∧ Aside0 (Kd.R k34 34 wc w.heap.size (fun k_ => some k_ ≠ ((.slice Ao30 t191.length co30) : Value).ownBlock ∧ some k_ ≠ ((.slice Ao40 t197.length co40) : Value).ownBlock) (.slice Ao48 t205.length co48) t205) ∧ Aside0 (wc.heap[gb180]? = some (.cells #[.int .i64 a0_0, (.slice A0_1 l0_1.length c0_1)] 24 (0, 0))) ∧ Aside0 (wc.heap[gb181]? = some (.cells #[.int .i64 a1_0, .int .i64 a1_1, .int .i64 a1_2] 26 (0, 0))) ∧ Aside0 (wc.heap[gb195]? = some (.cells #[.int .i64 t190, (.slice Ao30 t191.length co30)] 30 (0, 0))) ∧ Aside0 (wc.heap[gb200]? = some (.cells #[.int .i64 t196, (.slice Ao40 t197.length co40)] 30 (0, 0))) ∧ Aside0 (wc.heap[gb209]? = some (.cells #[.int .i64 t204, (.slice Ao48 t205.length co48)] 30 (0, 0))) ∧ Aside0 (Below w.heap.size w wc))
  case first =>
   have H := HC16.out
   clear HC16
   replace H := Option.bind_eq_some_iff.mp H
   obtain ⟨t210, A500, H⟩ := H
   replace H : (if t210 = true then (laws_FnExactAddBridge.j0 k t194 t208 (t208 != t194) a0_0 l0_1 a1_0 a1_1 a1_2 t190 t191 t196 t197 t204 t205) else (laws_FnExactAddBridge.j0 k t194 t208 true a0_0 l0_1 a1_0 a1_1 a1_2 t190 t191 t196 t197 t204 t205)) = some r := H
   have A50 := Aside0.mk A500
   clear A500
   by_cases c51 : t210 = true
   ·subst c51
    have H1 : (laws_FnExactAddBridge.j0 k t194 t208 (t208 != t194) a0_0 l0_1 a1_0 a1_1 a1_2 t190 t191 t196 t197 t204 t205) = some r := by rw [if_pos rfl] at H; exact H
    clear H
    have H := H1
    clear H1
    have H' := Aside0.mk H
    clear H
    have hnb52 := NB209_180.out
    have hnc52 := NB180_209.out
    have hnb53 := NB209_181.out
    have hnc53 := NB181_209.out
    have hnb54 := NB209_195.out
    have hnc54 := NB195_209.out
    have hnb55 := NB209_200.out
    have hnc55 := NB200_209.out
    have hcz56_0 : w46.cell? ⟨gb209, 0, none⟩ = some (.int .i64 0) := (blk_cell BK209.out 0).trans rfl
    have hcz56_1 : w46.cell? ⟨gb209, 1, none⟩ = some (.slice none 0 0) := (blk_cell BK209.out 1).trans rfl
    have hfz56_0 := blk_frozen BK209.out 0
    have hfz56_1 := blk_frozen BK209.out 1
    have hnb57 := NB195_180.out
    have hnc57 := NB180_195.out
    have hnb58 := NB195_181.out
    have hnc58 := NB181_195.out
    have hnb59 := NB195_200.out
    have hnc59 := NB200_195.out
    have hcz60_0 : w46.cell? ⟨gb195, 0, none⟩ = some (.int .i64 t190) := (blk_cell BK195.out 0).trans rfl
    have hcz60_1 : w46.cell? ⟨gb195, 1, none⟩ = some (.slice Ao30 t191.length co30) := (blk_cell BK195.out 1).trans rfl
    have hfz60_0 := blk_frozen BK195.out 0
    have hfz60_1 := blk_frozen BK195.out 1
    go_wp2_with (first | ((with_reducible refine gate_callee (f := 9) rfl ?_); refine goesL_ (some 40) rfl rfl Try.func9 (by kernel_rfl) rfl #[.agg #[.int .i64 t204, .slice Ao48 t205.length co48], .agg #[.int .i64 t190, .slice Ao30 t191.length co30]] rfl ar_ ?_; (with_reducible refine (laws_eqIsles.calls k t204 _ _ t205 t190 _ _ t191 true _ ?side1 ?side2 ?side3 ?side4 A50.out).mono ?_); (case side1 => refine (Kd.R_reads' (e := 34) (base := w.heap.size) (ok := fun k_ => (some k_ ≠ (v185 : Value).ownBlock ∧ (some k_ ≠ (.slice Ao30 t191.length co30 : Value).ownBlock ∧ some k_ ≠ (.slice Ao40 t197.length co40 : Value).ownBlock))) (n := t205.length) (c := co48) ?_).2.2; exact (by (with_reducible repeat (first | apply Kd.R_alloc | apply Kd.R_drewN | apply Kd.R_drew)); exact (Kd.R_mono (Kd.R_far (p := ⟨gb209, 1, none⟩) (Kd.R_far (p := ⟨gb209, 0, none⟩) (Kd.R_types HO207.out BK209.out (by decide)) (fun _ hk => hk.2) (.int .i64 t204)) (fun _ hk => hk.2) (.slice Ao48 t205.length co48)) (fun _ h_ => h_.1)))); (case side2 => exact (Kd.R_reads' HO207.out).2.1); (case side3 => refine (Kd.R_reads' (e := 34) (base := w.heap.size) (ok := fun k_ => (some k_ ≠ (v185 : Value).ownBlock ∧ (some k_ ≠ (.slice Ao40 t197.length co40 : Value).ownBlock ∧ some k_ ≠ (.slice Ao48 t205.length co48 : Value).ownBlock))) (n := t191.length) (c := co30) ?_).2.2; exact (by (with_reducible repeat (first | apply Kd.R_alloc | apply Kd.R_drewN | apply Kd.R_drew)); exact (Kd.R_mono (Kd.R_far (p := ⟨gb209, 1, none⟩) (Kd.R_far (p := ⟨gb209, 0, none⟩) (Kd.R_types HO193.out BK209.out (by decide)) (fun _ hk => hk.2) (.int .i64 t204)) (fun _ hk => hk.2) (.slice Ao48 t205.length co48)) (fun _ h_ => h_.1)))); (case side4 => exact (Kd.R_reads' HO193.out).2.1); rintro e w61 ⟨rfl, hb⟩; refine ⟨_, rfl, ?_⟩; have n0_ := Aside0.mk (Kd.R_below (by (with_reducible repeat (first | apply Kd.R_alloc | apply Kd.R_drewN | apply Kd.R_drew)); exact (Kd.R_mono (Kd.R_far (p := ⟨gb209, 1, none⟩) (Kd.R_far (p := ⟨gb209, 0, none⟩) (Kd.R_types HO186.out BK209.out (by decide)) (fun _ hk => hk.2) (.int .i64 t204)) (fun _ hk => hk.2) (.slice Ao48 t205.length co48)) (fun _ h_ => h_.1))) hb); have n1_ := Aside0.mk (Kd.R_below (by (with_reducible repeat (first | apply Kd.R_alloc | apply Kd.R_drewN | apply Kd.R_drew)); exact (Kd.R_mono (Kd.R_far (p := ⟨gb209, 1, none⟩) (Kd.R_far (p := ⟨gb209, 0, none⟩) (Kd.R_types HO193.out BK209.out (by decide)) (fun _ hk => hk.2) (.int .i64 t204)) (fun _ hk => hk.2) (.slice Ao48 t205.length co48)) (fun _ h_ => h_.1))) hb); have n2_ := Aside0.mk (Kd.R_below (by (with_reducible repeat (first | apply Kd.R_alloc | apply Kd.R_drewN | apply Kd.R_drew)); exact (Kd.R_mono (Kd.R_far (p := ⟨gb209, 1, none⟩) (Kd.R_far (p := ⟨gb209, 0, none⟩) (Kd.R_types HO199.out BK209.out (by decide)) (fun _ hk => hk.2) (.int .i64 t204)) (fun _ hk => hk.2) (.slice Ao48 t205.length co48)) (fun _ h_ => h_.1))) hb); have n3_ := Aside0.mk (Kd.R_below (by (with_reducible repeat (first | apply Kd.R_alloc | apply Kd.R_drewN | apply Kd.R_drew)); exact (Kd.R_mono (Kd.R_far (p := ⟨gb209, 1, none⟩) (Kd.R_far (p := ⟨gb209, 0, none⟩) (Kd.R_types HO207.out BK209.out (by decide)) (fun _ hk => hk.2) (.int .i64 t204)) (fun _ hk => hk.2) (.slice Ao48 t205.length co48)) (fun _ h_ => h_.1))) hb); have n4_ := Aside0.mk (blk_below (g := gb180) (o := .cells #[.int .i64 a0_0, .slice A0_1 l0_1.length c0_1] 24 (0, 0)) (by (with_reducible repeat (first | refine blk_drewN ?_ _ | refine blk_drew ?_ | refine blk_alloc ?_ _)); refine blk_far ?_ NB180_209.out _; (with_reducible repeat (first | refine blk_drewN ?_ _ | refine blk_drew ?_ | refine blk_alloc ?_ _)); refine blk_far ?_ NB180_209.out _; (with_reducible repeat (first | refine blk_drewN ?_ _ | refine blk_drew ?_ | refine blk_alloc ?_ _)); exact BK180.out) hb); have n5_ := Aside0.mk (blk_below (g := gb181) (o := .cells #[.int .i64 a1_0, .int .i64 a1_1, .int .i64 a1_2] 26 (0, 0)) (by (with_reducible repeat (first | refine blk_drewN ?_ _ | refine blk_drew ?_ | refine blk_alloc ?_ _)); refine blk_far ?_ NB181_209.out _; (with_reducible repeat (first | refine blk_drewN ?_ _ | refine blk_drew ?_ | refine blk_alloc ?_ _)); refine blk_far ?_ NB181_209.out _; (with_reducible repeat (first | refine blk_drewN ?_ _ | refine blk_drew ?_ | refine blk_alloc ?_ _)); exact BK181.out) hb); have n6_ := Aside0.mk (blk_below (g := gb195) (o := .cells #[.int .i64 t190, .slice Ao30 t191.length co30] 30 (0, 0)) (by (with_reducible repeat (first | refine blk_drewN ?_ _ | refine blk_drew ?_ | refine blk_alloc ?_ _)); refine blk_far ?_ NB195_209.out _; (with_reducible repeat (first | refine blk_drewN ?_ _ | refine blk_drew ?_ | refine blk_alloc ?_ _)); refine blk_far ?_ NB195_209.out _; (with_reducible repeat (first | refine blk_drewN ?_ _ | refine blk_drew ?_ | refine blk_alloc ?_ _)); exact BK195.out) hb); have n7_ := Aside0.mk (blk_below (g := gb200) (o := .cells #[.int .i64 t196, .slice Ao40 t197.length co40] 30 (0, 0)) (by (with_reducible repeat (first | refine blk_drewN ?_ _ | refine blk_drew ?_ | refine blk_alloc ?_ _)); refine blk_far ?_ NB200_209.out _; (with_reducible repeat (first | refine blk_drewN ?_ _ | refine blk_drew ?_ | refine blk_alloc ?_ _)); refine blk_far ?_ NB200_209.out _; (with_reducible repeat (first | refine blk_drewN ?_ _ | refine blk_drew ?_ | refine blk_alloc ?_ _)); exact BK200.out) hb); have n8_ := Aside0.mk (blk_below (g := gb209) (o := .cells #[.int .i64 t204, .slice Ao48 t205.length co48] 30 (0, 0)) (by (with_reducible repeat (first | refine blk_drewN ?_ _ | refine blk_drew ?_ | refine blk_alloc ?_ _)); refine blk_put (cs := #[.int .i64 t204, .slice none 0 0]) ?_ 1 _ rfl; (with_reducible repeat (first | refine blk_drewN ?_ _ | refine blk_drew ?_ | refine blk_alloc ?_ _)); refine blk_put (cs := #[.int .i64 0, .slice none 0 0]) ?_ 0 _ rfl; (with_reducible repeat (first | refine blk_drewN ?_ _ | refine blk_drew ?_ | refine blk_alloc ?_ _)); exact BK209.out) hb); have n9_ := Aside0.mk (below_step (bl_) hb); clear HO186; clear HO193; clear HO199; clear HO207; clear BK180; clear BK181; clear BK195; clear BK200; clear BK209; clear HB; have HO186 := n0_; have HO193 := n1_; have HO199 := n2_; have HO207 := n3_; have BK180 := n4_; have BK181 := n5_; have BK195 := n6_; have BK200 := n7_; have BK209 := n8_; have HB := n9_; clear n0_ n1_ n2_ n3_ n4_ n5_ n6_ n7_ n8_ n9_; (try clear hb); (try clear hb2); (try clear hk); (try clear hi)))
    go_meet
    case rel => exact ⟨_, ((t208 != t194)), (by first | rfl | (simp; done) | (simp [*]; done)), H', ⟨by first | omega | exact Nat.le_refl _⟩, ⟨by (with_reducible repeat (first | apply Kd.R_alloc | apply Kd.R_drewN | apply Kd.R_drew)); exact Kd.R_mono HO193.out (fun _ hk => ⟨hk.2.1, hk.2.2⟩)⟩, ⟨by (with_reducible repeat (first | apply Kd.R_alloc | apply Kd.R_drewN | apply Kd.R_drew)); exact Kd.R_mono HO199.out (fun _ hk => ⟨hk.2.1, hk.2.2⟩)⟩, ⟨by (with_reducible repeat (first | apply Kd.R_alloc | apply Kd.R_drewN | apply Kd.R_drew)); exact Kd.R_mono HO207.out (fun _ hk => ⟨hk.2.1, hk.2.2⟩)⟩, ⟨by (with_reducible repeat (first | refine blk_drewN ?_ _ | refine blk_drew ?_ | refine blk_alloc ?_ _)); exact BK180.out⟩, ⟨by (with_reducible repeat (first | refine blk_drewN ?_ _ | refine blk_drew ?_ | refine blk_alloc ?_ _)); exact BK181.out⟩, ⟨by (with_reducible repeat (first | refine blk_drewN ?_ _ | refine blk_drew ?_ | refine blk_alloc ?_ _)); exact BK195.out⟩, ⟨by (with_reducible repeat (first | refine blk_drewN ?_ _ | refine blk_drew ?_ | refine blk_alloc ?_ _)); exact BK200.out⟩, ⟨by (with_reducible repeat (first | refine blk_drewN ?_ _ | refine blk_drew ?_ | refine blk_alloc ?_ _)); exact BK209.out⟩, ⟨bl_⟩⟩
   ·replace c51 := Bool.eq_false_iff.mpr c51
    subst c51
    have H1 : (laws_FnExactAddBridge.j0 k t194 t208 true a0_0 l0_1 a1_0 a1_1 a1_2 t190 t191 t196 t197 t204 t205) = some r := by rw [if_neg (show ¬ (false = true) by decide)] at H; exact H
    clear H
    have H := H1
    clear H1
    have H' := Aside0.mk H
    clear H
    have hnb62 := NB209_180.out
    have hnc62 := NB180_209.out
    have hnb63 := NB209_181.out
    have hnc63 := NB181_209.out
    have hnb64 := NB209_195.out
    have hnc64 := NB195_209.out
    have hnb65 := NB209_200.out
    have hnc65 := NB200_209.out
    have hcz66_0 : w46.cell? ⟨gb209, 0, none⟩ = some (.int .i64 0) := (blk_cell BK209.out 0).trans rfl
    have hcz66_1 : w46.cell? ⟨gb209, 1, none⟩ = some (.slice none 0 0) := (blk_cell BK209.out 1).trans rfl
    have hfz66_0 := blk_frozen BK209.out 0
    have hfz66_1 := blk_frozen BK209.out 1
    have hnb67 := NB195_180.out
    have hnc67 := NB180_195.out
    have hnb68 := NB195_181.out
    have hnc68 := NB181_195.out
    have hnb69 := NB195_200.out
    have hnc69 := NB200_195.out
    have hcz70_0 : w46.cell? ⟨gb195, 0, none⟩ = some (.int .i64 t190) := (blk_cell BK195.out 0).trans rfl
    have hcz70_1 : w46.cell? ⟨gb195, 1, none⟩ = some (.slice Ao30 t191.length co30) := (blk_cell BK195.out 1).trans rfl
    have hfz70_0 := blk_frozen BK195.out 0
    have hfz70_1 := blk_frozen BK195.out 1
    go_wp2_with (first | ((with_reducible refine gate_callee (f := 9) rfl ?_); refine goesL_ (some 40) rfl rfl Try.func9 (by kernel_rfl) rfl #[.agg #[.int .i64 t204, .slice Ao48 t205.length co48], .agg #[.int .i64 t190, .slice Ao30 t191.length co30]] rfl ar_ ?_; (with_reducible refine (laws_eqIsles.calls k t204 _ _ t205 t190 _ _ t191 false _ ?side1 ?side2 ?side3 ?side4 A50.out).mono ?_); (case side1 => refine (Kd.R_reads' (e := 34) (base := w.heap.size) (ok := fun k_ => (some k_ ≠ (v185 : Value).ownBlock ∧ (some k_ ≠ (.slice Ao30 t191.length co30 : Value).ownBlock ∧ some k_ ≠ (.slice Ao40 t197.length co40 : Value).ownBlock))) (n := t205.length) (c := co48) ?_).2.2; exact (by (with_reducible repeat (first | apply Kd.R_alloc | apply Kd.R_drewN | apply Kd.R_drew)); exact (Kd.R_mono (Kd.R_far (p := ⟨gb209, 1, none⟩) (Kd.R_far (p := ⟨gb209, 0, none⟩) (Kd.R_types HO207.out BK209.out (by decide)) (fun _ hk => hk.2) (.int .i64 t204)) (fun _ hk => hk.2) (.slice Ao48 t205.length co48)) (fun _ h_ => h_.1)))); (case side2 => exact (Kd.R_reads' HO207.out).2.1); (case side3 => refine (Kd.R_reads' (e := 34) (base := w.heap.size) (ok := fun k_ => (some k_ ≠ (v185 : Value).ownBlock ∧ (some k_ ≠ (.slice Ao40 t197.length co40 : Value).ownBlock ∧ some k_ ≠ (.slice Ao48 t205.length co48 : Value).ownBlock))) (n := t191.length) (c := co30) ?_).2.2; exact (by (with_reducible repeat (first | apply Kd.R_alloc | apply Kd.R_drewN | apply Kd.R_drew)); exact (Kd.R_mono (Kd.R_far (p := ⟨gb209, 1, none⟩) (Kd.R_far (p := ⟨gb209, 0, none⟩) (Kd.R_types HO193.out BK209.out (by decide)) (fun _ hk => hk.2) (.int .i64 t204)) (fun _ hk => hk.2) (.slice Ao48 t205.length co48)) (fun _ h_ => h_.1)))); (case side4 => exact (Kd.R_reads' HO193.out).2.1); rintro e w71 ⟨rfl, hb⟩; refine ⟨_, rfl, ?_⟩; have n0_ := Aside0.mk (Kd.R_below (by (with_reducible repeat (first | apply Kd.R_alloc | apply Kd.R_drewN | apply Kd.R_drew)); exact (Kd.R_mono (Kd.R_far (p := ⟨gb209, 1, none⟩) (Kd.R_far (p := ⟨gb209, 0, none⟩) (Kd.R_types HO186.out BK209.out (by decide)) (fun _ hk => hk.2) (.int .i64 t204)) (fun _ hk => hk.2) (.slice Ao48 t205.length co48)) (fun _ h_ => h_.1))) hb); have n1_ := Aside0.mk (Kd.R_below (by (with_reducible repeat (first | apply Kd.R_alloc | apply Kd.R_drewN | apply Kd.R_drew)); exact (Kd.R_mono (Kd.R_far (p := ⟨gb209, 1, none⟩) (Kd.R_far (p := ⟨gb209, 0, none⟩) (Kd.R_types HO193.out BK209.out (by decide)) (fun _ hk => hk.2) (.int .i64 t204)) (fun _ hk => hk.2) (.slice Ao48 t205.length co48)) (fun _ h_ => h_.1))) hb); have n2_ := Aside0.mk (Kd.R_below (by (with_reducible repeat (first | apply Kd.R_alloc | apply Kd.R_drewN | apply Kd.R_drew)); exact (Kd.R_mono (Kd.R_far (p := ⟨gb209, 1, none⟩) (Kd.R_far (p := ⟨gb209, 0, none⟩) (Kd.R_types HO199.out BK209.out (by decide)) (fun _ hk => hk.2) (.int .i64 t204)) (fun _ hk => hk.2) (.slice Ao48 t205.length co48)) (fun _ h_ => h_.1))) hb); have n3_ := Aside0.mk (Kd.R_below (by (with_reducible repeat (first | apply Kd.R_alloc | apply Kd.R_drewN | apply Kd.R_drew)); exact (Kd.R_mono (Kd.R_far (p := ⟨gb209, 1, none⟩) (Kd.R_far (p := ⟨gb209, 0, none⟩) (Kd.R_types HO207.out BK209.out (by decide)) (fun _ hk => hk.2) (.int .i64 t204)) (fun _ hk => hk.2) (.slice Ao48 t205.length co48)) (fun _ h_ => h_.1))) hb); have n4_ := Aside0.mk (blk_below (g := gb180) (o := .cells #[.int .i64 a0_0, .slice A0_1 l0_1.length c0_1] 24 (0, 0)) (by (with_reducible repeat (first | refine blk_drewN ?_ _ | refine blk_drew ?_ | refine blk_alloc ?_ _)); refine blk_far ?_ NB180_209.out _; (with_reducible repeat (first | refine blk_drewN ?_ _ | refine blk_drew ?_ | refine blk_alloc ?_ _)); refine blk_far ?_ NB180_209.out _; (with_reducible repeat (first | refine blk_drewN ?_ _ | refine blk_drew ?_ | refine blk_alloc ?_ _)); exact BK180.out) hb); have n5_ := Aside0.mk (blk_below (g := gb181) (o := .cells #[.int .i64 a1_0, .int .i64 a1_1, .int .i64 a1_2] 26 (0, 0)) (by (with_reducible repeat (first | refine blk_drewN ?_ _ | refine blk_drew ?_ | refine blk_alloc ?_ _)); refine blk_far ?_ NB181_209.out _; (with_reducible repeat (first | refine blk_drewN ?_ _ | refine blk_drew ?_ | refine blk_alloc ?_ _)); refine blk_far ?_ NB181_209.out _; (with_reducible repeat (first | refine blk_drewN ?_ _ | refine blk_drew ?_ | refine blk_alloc ?_ _)); exact BK181.out) hb); have n6_ := Aside0.mk (blk_below (g := gb195) (o := .cells #[.int .i64 t190, .slice Ao30 t191.length co30] 30 (0, 0)) (by (with_reducible repeat (first | refine blk_drewN ?_ _ | refine blk_drew ?_ | refine blk_alloc ?_ _)); refine blk_far ?_ NB195_209.out _; (with_reducible repeat (first | refine blk_drewN ?_ _ | refine blk_drew ?_ | refine blk_alloc ?_ _)); refine blk_far ?_ NB195_209.out _; (with_reducible repeat (first | refine blk_drewN ?_ _ | refine blk_drew ?_ | refine blk_alloc ?_ _)); exact BK195.out) hb); have n7_ := Aside0.mk (blk_below (g := gb200) (o := .cells #[.int .i64 t196, .slice Ao40 t197.length co40] 30 (0, 0)) (by (with_reducible repeat (first | refine blk_drewN ?_ _ | refine blk_drew ?_ | refine blk_alloc ?_ _)); refine blk_far ?_ NB200_209.out _; (with_reducible repeat (first | refine blk_drewN ?_ _ | refine blk_drew ?_ | refine blk_alloc ?_ _)); refine blk_far ?_ NB200_209.out _; (with_reducible repeat (first | refine blk_drewN ?_ _ | refine blk_drew ?_ | refine blk_alloc ?_ _)); exact BK200.out) hb); have n8_ := Aside0.mk (blk_below (g := gb209) (o := .cells #[.int .i64 t204, .slice Ao48 t205.length co48] 30 (0, 0)) (by (with_reducible repeat (first | refine blk_drewN ?_ _ | refine blk_drew ?_ | refine blk_alloc ?_ _)); refine blk_put (cs := #[.int .i64 t204, .slice none 0 0]) ?_ 1 _ rfl; (with_reducible repeat (first | refine blk_drewN ?_ _ | refine blk_drew ?_ | refine blk_alloc ?_ _)); refine blk_put (cs := #[.int .i64 0, .slice none 0 0]) ?_ 0 _ rfl; (with_reducible repeat (first | refine blk_drewN ?_ _ | refine blk_drew ?_ | refine blk_alloc ?_ _)); exact BK209.out) hb); have n9_ := Aside0.mk (below_step (bl_) hb); clear HO186; clear HO193; clear HO199; clear HO207; clear BK180; clear BK181; clear BK195; clear BK200; clear BK209; clear HB; have HO186 := n0_; have HO193 := n1_; have HO199 := n2_; have HO207 := n3_; have BK180 := n4_; have BK181 := n5_; have BK195 := n6_; have BK200 := n7_; have BK209 := n8_; have HB := n9_; clear n0_ n1_ n2_ n3_ n4_ n5_ n6_ n7_ n8_ n9_; (try clear hb); (try clear hb2); (try clear hk); (try clear hi)))
    go_meet
    case rel => exact ⟨_, (true), (by first | rfl | (simp; done) | (simp [*]; done)), H', ⟨by first | omega | exact Nat.le_refl _⟩, ⟨by (with_reducible repeat (first | apply Kd.R_alloc | apply Kd.R_drewN | apply Kd.R_drew)); exact Kd.R_mono HO193.out (fun _ hk => ⟨hk.2.1, hk.2.2⟩)⟩, ⟨by (with_reducible repeat (first | apply Kd.R_alloc | apply Kd.R_drewN | apply Kd.R_drew)); exact Kd.R_mono HO199.out (fun _ hk => ⟨hk.2.1, hk.2.2⟩)⟩, ⟨by (with_reducible repeat (first | apply Kd.R_alloc | apply Kd.R_drewN | apply Kd.R_drew)); exact Kd.R_mono HO207.out (fun _ hk => ⟨hk.2.1, hk.2.2⟩)⟩, ⟨by (with_reducible repeat (first | refine blk_drewN ?_ _ | refine blk_drew ?_ | refine blk_alloc ?_ _)); exact BK180.out⟩, ⟨by (with_reducible repeat (first | refine blk_drewN ?_ _ | refine blk_drew ?_ | refine blk_alloc ?_ _)); exact BK181.out⟩, ⟨by (with_reducible repeat (first | refine blk_drewN ?_ _ | refine blk_drew ?_ | refine blk_alloc ?_ _)); exact BK195.out⟩, ⟨by (with_reducible repeat (first | refine blk_drewN ?_ _ | refine blk_drew ?_ | refine blk_alloc ?_ _)); exact BK200.out⟩, ⟨by (with_reducible repeat (first | refine blk_drewN ?_ _ | refine blk_drew ?_ | refine blk_alloc ?_ _)); exact BK209.out⟩, ⟨bl_⟩⟩
  case rest =>
   clear HC16
   try clear p2
   try clear c5
   try clear c6
   try clear c7
   try clear c8
   try clear c9
   try clear c51
   try clear c52
   try clear c53
   try clear c54
   try clear c55
   try clear c57
   try clear c58
   try clear c59
   try clear c62
   try clear c63
   try clear c64
   try clear c65
   try clear c67
   try clear c68
   try clear c69
   try clear hcz56_0
   try clear hcz56_1
   try clear hcz60_0
   try clear hcz60_1
   try clear hcz66_0
   try clear hcz66_1
   try clear hcz70_0
   try clear hcz70_1
   try clear hfz56_0
   try clear hfz56_1
   try clear hfz60_0
   try clear hfz60_1
   try clear hfz66_0
   try clear hfz66_1
   try clear hfz70_0
   try clear hfz70_1
   obtain ⟨kq, x46_15, rfl, HA, HJ15, HO_196001, HO_201001, HO_210001, BK180, BK181, BK195, BK200, BK209, HB⟩ := hcut
   cases kq with
   | zero => exact absurd HA.out (by simp [laws_FnExactAddBridge.j0])
   | succ kj15 =>
    have H := HA.out
    clear HA
    simp only [laws_FnExactAddBridge.j0] at H
    by_cases c72 : x46_15 = true
    ·subst c72
     have H1 : (some false) = some r := by rw [if_pos rfl] at H; exact H
     clear H
     have H := H1
     clear H1
     obtain rfl := Option.some.inj H
     cases hr_.out
    ·replace c72 := Bool.eq_false_iff.mpr c72
     subst c72
     have H1 : ((laws_toIsles.f kj15 a0_0 l0_1).bind fun bt211 => ((laws_eqIsles.f kj15 t196 t197 bt211.1 bt211.2).bind fun t215 => (if t215 = true then ((laws_markIsles.f kj15 t196 t197 1).bind fun bt216 => (if bt216.1 < 0 then (laws_FnExactAddBridge.j1 kj15 t194 true a0_0 l0_1 a1_0 a1_1 a1_2 t190 t191 t204 t205) else ((laws_eqIsles.f kj15 t204 t205 t190 t191).bind fun t218 => (if t218 = true then (laws_FnExactAddBridge.j1 kj15 t194 (t208 != t194) a0_0 l0_1 a1_0 a1_1 a1_2 t190 t191 t204 t205) else (laws_FnExactAddBridge.j1 kj15 t194 true a0_0 l0_1 a1_0 a1_1 a1_2 t190 t191 t204 t205))))) else (some false)))) = some r := by rw [if_neg (show ¬ (false = true) by decide)] at H; exact H
     clear H
     have H := H1
     clear H1
     replace H := Option.bind_eq_some_iff.mp H
     obtain ⟨⟨t211, t212⟩, A730, H⟩ := H
     replace H : ((laws_eqIsles.f kj15 t196 t197 t211 t212).bind fun t215 => (if t215 = true then ((laws_markIsles.f kj15 t196 t197 1).bind fun bt216 => (if bt216.1 < 0 then (laws_FnExactAddBridge.j1 kj15 t194 true a0_0 l0_1 a1_0 a1_1 a1_2 t190 t191 t204 t205) else ((laws_eqIsles.f kj15 t204 t205 t190 t191).bind fun t218 => (if t218 = true then (laws_FnExactAddBridge.j1 kj15 t194 (t208 != t194) a0_0 l0_1 a1_0 a1_1 a1_2 t190 t191 t204 t205) else (laws_FnExactAddBridge.j1 kj15 t194 true a0_0 l0_1 a1_0 a1_1 a1_2 t190 t191 t204 t205))))) else (some false))) = some r := H
     have A73 := Aside0.mk A730
     clear A730
     replace H := Option.bind_eq_some_iff.mp H
     obtain ⟨t215, A740, H⟩ := H
     replace H : (if t215 = true then ((laws_markIsles.f kj15 t196 t197 1).bind fun bt216 => (if bt216.1 < 0 then (laws_FnExactAddBridge.j1 kj15 t194 true a0_0 l0_1 a1_0 a1_1 a1_2 t190 t191 t204 t205) else ((laws_eqIsles.f kj15 t204 t205 t190 t191).bind fun t218 => (if t218 = true then (laws_FnExactAddBridge.j1 kj15 t194 (t208 != t194) a0_0 l0_1 a1_0 a1_1 a1_2 t190 t191 t204 t205) else (laws_FnExactAddBridge.j1 kj15 t194 true a0_0 l0_1 a1_0 a1_1 a1_2 t190 t191 t204 t205))))) else (some false)) = some r := H
     have A74 := Aside0.mk A740
     clear A740
     by_cases c75 : t215 = true
     ·subst c75
      have H1 : ((laws_markIsles.f kj15 t196 t197 1).bind fun bt216 => (if bt216.1 < 0 then (laws_FnExactAddBridge.j1 kj15 t194 true a0_0 l0_1 a1_0 a1_1 a1_2 t190 t191 t204 t205) else ((laws_eqIsles.f kj15 t204 t205 t190 t191).bind fun t218 => (if t218 = true then (laws_FnExactAddBridge.j1 kj15 t194 (t208 != t194) a0_0 l0_1 a1_0 a1_1 a1_2 t190 t191 t204 t205) else (laws_FnExactAddBridge.j1 kj15 t194 true a0_0 l0_1 a1_0 a1_1 a1_2 t190 t191 t204 t205))))) = some r := by rw [if_pos rfl] at H; exact H
      clear H
      have H := H1
      clear H1
      replace H := Option.bind_eq_some_iff.mp H
      obtain ⟨⟨t216, t217⟩, A760, H⟩ := H
      replace H : (if t216 < 0 then (laws_FnExactAddBridge.j1 kj15 t194 true a0_0 l0_1 a1_0 a1_1 a1_2 t190 t191 t204 t205) else ((laws_eqIsles.f kj15 t204 t205 t190 t191).bind fun t218 => (if t218 = true then (laws_FnExactAddBridge.j1 kj15 t194 (t208 != t194) a0_0 l0_1 a1_0 a1_1 a1_2 t190 t191 t204 t205) else (laws_FnExactAddBridge.j1 kj15 t194 true a0_0 l0_1 a1_0 a1_1 a1_2 t190 t191 t204 t205)))) = some r := H
      have A76 := Aside0.mk A760
      clear A760
      have HC77 := Aside0.mk H
      clear H
      try go_wp2
      have n0_ := Aside0.mk (Kd.R_drew HO_196001.out)
      have n1_ := Aside0.mk (Kd.R_drew HO_201001.out)
      have n2_ := Aside0.mk (Kd.R_drew HO_210001.out)
      have n3_ := Aside0.mk (blk_drew BK180.out)
      have n4_ := Aside0.mk (blk_drew BK181.out)
      have n5_ := Aside0.mk (blk_drew BK195.out)
      have n6_ := Aside0.mk (blk_drew BK200.out)
      have n7_ := Aside0.mk (blk_drew BK209.out)
      have n8_ := Aside0.mk (below_drew1 HB.out)
      clear HO_196001
      clear HO_201001
      clear HO_210001
      clear BK180
      clear BK181
      clear BK195
      clear BK200
      clear BK209
      clear HB
      have HO_196001 := n0_
      have HO_201001 := n1_
      have HO_210001 := n2_
      have BK180 := n3_
      have BK181 := n4_
      have BK195 := n5_
      have BK200 := n6_
      have BK209 := n7_
      have HB := n8_
      clear n0_ n1_ n2_ n3_ n4_ n5_ n6_ n7_ n8_
      refine start_ (n := 5) (S := fun w' => w'.cell? ⟨gb200, 0, none⟩ = some (.int .i64 t196) ∧ w'.cell? ⟨gb200, 1, none⟩ = some (.slice Ao40 t197.length co40) ∧ w'.cell? ⟨gb180, 0, none⟩ = some (.int .i64 a0_0) ∧ w'.cell? ⟨gb180, 1, none⟩ = some (.slice A0_1 l0_1.length c0_1)) (ds := []) #[false, false, false, false, false] (by kernel_rfl) rfl rfl ⟨(blk_cell BK200.out 0).trans rfl, (blk_cell BK200.out 1).trans rfl, (blk_cell BK180.out 0).trans rfl, (blk_cell BK180.out 1).trans rfl⟩ (fun hHeld => ?_)
      generalize wc.drew = w78 at HO_196001 HO_201001 HO_210001 BK180 BK181 BK195 BK200 BK209 HB hHeld ⊢
      refine take_ (i := 0) (N := some 47) (v := ?_) (a' := ?_) #[true, false, false, false, false] rfl rfl (by kernel_rfl) (fun _ _ _ h => h) (Or.inl ⟨by rfl, ?_⟩) hHeld ?_ ?_
      rotate_left
      ·rintro w' ⟨s0, s1, s2, s3⟩
       go_simp
       with_reducible rfl
      rotate_left
      ·simp only [Act.put, List.setIfInBounds_toArray, List.set_cons_zero, List.set_cons_succ, i64_w, i32_w]
       rfl
      refine take_ (i := 1) (N := some 48) (v := ?_) (a' := ?_) #[true, true, false, false, false] rfl rfl (by kernel_rfl) (fun _ _ _ h => h) (Or.inl ⟨by rfl, ?_⟩) hHeld ?_ ?_
      rotate_left
      ·rintro w' ⟨s0, s1, s2, s3⟩
       go_simp
       with_reducible rfl
      rotate_left
      ·simp only [Act.put, List.setIfInBounds_toArray, List.set_cons_zero, List.set_cons_succ, i64_w, i32_w]
       rfl
      refine one_ (i := 2) (N := some 49) #[true, true, true, false, false] rfl rfl (by kernel_rfl) (by decide) (fun K hK => ?_)
      refine goes_ Try.func6 (by kernel_rfl) rfl #[.agg #[.int .i64 a0_0, .slice A0_1 l0_1.length c0_1]] (by rfl) rfl rfl ar_ ?_
      with_reducible refine (laws_toIsles.calls kj15 a0_0 _ _ l0_1 t211 t212 _ ?side1 ?side2 A73.out).mono ?_
      (case side1 => repeat (first | exact (Kd.C_below HR0_1.out HB.out) | (with_reducible refine Kd.C_alloc ?_ _) | (with_reducible refine Kd.C_drewN ?_ _) | (with_reducible refine Kd.C_drew ?_)))
      (case side2 => exact HC0_1.out)
      rintro e w79 ⟨v213, rfl, ho0, hb⟩
      refine ⟨_, rfl, ?_⟩
      have n0_ := Aside0.mk (Kd.R_elder' (rr_ HO_196001) (Kd.R_base ho0) hb)
      have n1_ := Aside0.mk (Kd.R_elder' (rr_ HO_201001) (Kd.R_base ho0) hb)
      have n2_ := Aside0.mk (Kd.R_elder' (rr_ HO_210001) (Kd.R_base ho0) hb)
      have n3_ := Aside0.mk (Kd.R_lower (Kd.R_new' (Kd.R_new' (Kd.R_new' ho0 (Kd.R_lt (rr_ HO_196001))) (Kd.R_lt (rr_ HO_201001))) (Kd.R_lt (rr_ HO_210001))) (below_size (bl_)))
      have n4_ := Aside0.mk (blk_below (g := gb180) (o := .cells #[.int .i64 a0_0, .slice A0_1 l0_1.length c0_1] 24 (0, 0)) (bk_ BK180) hb)
      have n5_ := Aside0.mk (blk_below (g := gb181) (o := .cells #[.int .i64 a1_0, .int .i64 a1_1, .int .i64 a1_2] 26 (0, 0)) (bk_ BK181) hb)
      have n6_ := Aside0.mk (blk_below (g := gb195) (o := .cells #[.int .i64 t190, .slice Ao30 t191.length co30] 30 (0, 0)) (bk_ BK195) hb)
      have n7_ := Aside0.mk (blk_below (g := gb200) (o := .cells #[.int .i64 t196, .slice Ao40 t197.length co40] 30 (0, 0)) (bk_ BK200) hb)
      have n8_ := Aside0.mk (blk_below (g := gb209) (o := .cells #[.int .i64 t204, .slice Ao48 t205.length co48] 30 (0, 0)) (bk_ BK209) hb)
      have n9_ := Aside0.mk (below_step (bl_) hb)
      clear HO_196001
      clear HO_201001
      clear HO_210001
      clear BK180
      clear BK181
      clear BK195
      clear BK200
      clear BK209
      clear HB
      have HO_196001 := n0_
      have HO_201001 := n1_
      have HO_210001 := n2_
      have HO214 := n3_
      have BK180 := n4_
      have BK181 := n5_
      have BK195 := n6_
      have BK200 := n7_
      have BK209 := n8_
      have HB := n9_
      clear n0_ n1_ n2_ n3_ n4_ n5_ n6_ n7_ n8_ n9_
      (try clear hb)
      (try clear hb2)
      (try clear hk)
      (try clear hi)
      (try clear ho0)
      obtain ⟨Ao80, co80, eo80⟩ := Kd.R_slice HO214.out
      (first | subst eo80 | (injection eo80 with f1_ f2_ f3_; have f4_ := f1_.symm; have f5_ := f3_.symm; clear f1_ f2_ f3_; subst f4_; subst f5_))
      refine hK.out _ _ ⟨(blk_cell BK200.out 0).trans rfl, (blk_cell BK200.out 1).trans rfl, (blk_cell BK180.out 0).trans rfl, (blk_cell BK180.out 1).trans rfl⟩ (fun hHeld => ?_)
      clear hK K
      refine norm_ (a' := ?_) ?_ ?_
      rotate_left
      ·show Act.put _ (some 49) _ = _
       simp only [Act.put, List.setIfInBounds_toArray, List.set_cons_zero, List.set_cons_succ, i64_w, i32_w]
       rfl
      refine one_ (i := 3) (N := some 50) #[true, true, true, true, false] rfl rfl (by kernel_rfl) (by decide) (fun K hK => ?_)
      refine goes_ Try.func9 (by kernel_rfl) rfl #[.agg #[.int .i64 t196, .slice Ao40 t197.length co40], .agg #[.int .i64 t211, .slice Ao80 t212.length co80]] (by rfl) rfl rfl ar_ ?_
      with_reducible refine (laws_eqIsles.calls kj15 t196 _ _ t197 t211 _ _ t212 true _ ?side1 ?side2 ?side3 ?side4 A74.out).mono ?_
      (case side1 => repeat (first | exact (Kd.R_reads' HO_201001.out).2.2 | (with_reducible refine Kd.C_alloc ?_ _) | (with_reducible refine Kd.C_drewN ?_ _) | (with_reducible refine Kd.C_drew ?_)))
      (case side2 => exact (Kd.R_reads' HO_201001.out).2.1)
      (case side3 => repeat (first | exact (Kd.R_reads' HO214.out).2.2 | (with_reducible refine Kd.C_alloc ?_ _) | (with_reducible refine Kd.C_drewN ?_ _) | (with_reducible refine Kd.C_drew ?_)))
      (case side4 => exact (Kd.R_reads' HO214.out).2.1)
      rintro e w81 ⟨rfl, hb⟩
      refine ⟨_, rfl, ?_⟩
      have n0_ := Aside0.mk (Kd.R_below (rr_ HO_196001) hb)
      have n1_ := Aside0.mk (Kd.R_below (rr_ HO_201001) hb)
      have n2_ := Aside0.mk (Kd.R_below (rr_ HO_210001) hb)
      have n3_ := Aside0.mk (Kd.R_below (rr_ HO214) hb)
      have n4_ := Aside0.mk (blk_below (g := gb180) (o := .cells #[.int .i64 a0_0, .slice A0_1 l0_1.length c0_1] 24 (0, 0)) (bk_ BK180) hb)
      have n5_ := Aside0.mk (blk_below (g := gb181) (o := .cells #[.int .i64 a1_0, .int .i64 a1_1, .int .i64 a1_2] 26 (0, 0)) (bk_ BK181) hb)
      have n6_ := Aside0.mk (blk_below (g := gb195) (o := .cells #[.int .i64 t190, .slice Ao30 t191.length co30] 30 (0, 0)) (bk_ BK195) hb)
      have n7_ := Aside0.mk (blk_below (g := gb200) (o := .cells #[.int .i64 t196, .slice Ao40 t197.length co40] 30 (0, 0)) (bk_ BK200) hb)
      have n8_ := Aside0.mk (blk_below (g := gb209) (o := .cells #[.int .i64 t204, .slice Ao48 t205.length co48] 30 (0, 0)) (bk_ BK209) hb)
      have n9_ := Aside0.mk (below_step (bl_) hb)
      clear HO_196001
      clear HO_201001
      clear HO_210001
      clear HO214
      clear BK180
      clear BK181
      clear BK195
      clear BK200
      clear BK209
      clear HB
      have HO_196001 := n0_
      have HO_201001 := n1_
      have HO_210001 := n2_
      have HO214 := n3_
      have BK180 := n4_
      have BK181 := n5_
      have BK195 := n6_
      have BK200 := n7_
      have BK209 := n8_
      have HB := n9_
      clear n0_ n1_ n2_ n3_ n4_ n5_ n6_ n7_ n8_ n9_
      (try clear hb)
      (try clear hb2)
      (try clear hk)
      (try clear hi)
      refine hK.out _ _ ⟨(blk_cell BK200.out 0).trans rfl, (blk_cell BK200.out 1).trans rfl, (blk_cell BK180.out 0).trans rfl, (blk_cell BK180.out 1).trans rfl⟩ (fun hHeld => ?_)
      clear hK K
      refine norm_ (a' := ?_) ?_ ?_
      rotate_left
      ·show Act.put _ (some 50) _ = _
       simp only [Act.put, List.setIfInBounds_toArray, List.set_cons_zero, List.set_cons_succ, i64_w, i32_w]
       rfl
      refine pure_ (i := 4) (N := some 51) (v := ?_) (a' := ?_) #[true, true, true, true, true] rfl rfl (by kernel_rfl) (fun _ _ _ h => h) (Or.inl ⟨by rfl, ?_⟩) ?_ ?_
      rotate_left
      ·intro w'
       go_simp
       with_reducible rfl
      rotate_left
      ·simp only [Act.put, List.setIfInBounds_toArray, List.set_cons_zero, List.set_cons_succ, i64_w, i32_w]
       rfl
      refine done_ (by kernel_rfl) ?_
      have hnb82 := NB200_180.out
      have hnc82 := NB180_200.out
      have hnb83 := NB200_181.out
      have hnc83 := NB181_200.out
      have hnb84 := NB200_195.out
      have hnc84 := NB195_200.out
      have hnb85 := NB200_209.out
      have hnc85 := NB209_200.out
      have hcz86_0 : w81.cell? ⟨gb200, 0, none⟩ = some (.int .i64 t196) := (blk_cell BK200.out 0).trans rfl
      have hcz86_1 : w81.cell? ⟨gb200, 1, none⟩ = some (.slice Ao40 t197.length co40) := (blk_cell BK200.out 1).trans rfl
      have hfz86_0 := blk_frozen BK200.out 0
      have hfz86_1 := blk_frozen BK200.out 1
      go_upto_region 14 with (first | ((with_reducible refine gate_callee (f := 10) rfl ?_); refine goesL_ (some 54) rfl rfl Try.func10 (by kernel_rfl) rfl #[.agg #[.int .i64 t196, .slice Ao40 t197.length co40], .int .i64 1] rfl ar_ ?_; (with_reducible refine (laws_markIsles.calls kj15 t196 (fun k_ => some k_ = (.slice Ao40 t197.length co40 : Value).ownBlock) (.slice Ao40 t197.length co40) t197 1 t216 t217 w _ ?side1 ?side2 A76.out).mono ?_); (case side1 => repeat (first | (with_reducible first | exact HB.out | apply below_alloc | apply pw_below_drewN | apply below_drew1 | refine below_set ?_ GE180.out | refine below_set ?_ GE181.out | refine below_set ?_ GE195.out | refine below_set ?_ GE200.out | refine below_set ?_ GE209.out) | exact HB.out)); (case side2 => exact Kd.R_tight rfl HO_201001.out); rintro e w87 ⟨rfl, hy0, hb, hkp⟩; refine ⟨_, rfl, ?_⟩; have n0_ := Aside0.mk (Kd.R_mono (ok' := fun k_ => some k_ ≠ (.slice Ao40 t197.length co40 : Value).ownBlock ∧ some k_ ≠ (.slice Ao48 t205.length co48 : Value).ownBlock ∧ some k_ ≠ (.slice Ao80 t212.length co80 : Value).ownBlock) (Kd.R_keptB (HO_196001.out) hkp (fun k_ hk_ hs_ => (hk_.1.1) hs_)) (fun k_ hk_ => ⟨hk_.1.1.1, hk_.1.1.2, hk_.1.2⟩)); have n1_ := Aside0.mk (Kd.R_reok rfl hy0 (fun k_ e_ => HO_201001.out.1 k_ e_)); have n2_ := Aside0.mk (Kd.R_mono (ok' := fun k_ => some k_ ≠ (.slice Ao30 t191.length co30 : Value).ownBlock ∧ some k_ ≠ (.slice Ao40 t197.length co40 : Value).ownBlock ∧ some k_ ≠ (.slice Ao80 t212.length co80 : Value).ownBlock) (Kd.R_keptB (HO_210001.out) hkp (fun k_ hk_ hs_ => (hk_.1.2) hs_)) (fun k_ hk_ => ⟨hk_.1.1.1, hk_.1.1.2, hk_.1.2⟩)); have n3_ := Aside0.mk (blk_kept (bk_ BK180) hkp (fun hs_ => (fun e_ => (Kd.R_ne HO_201001.out BK180.out (by decide)) e_) hs_)); have n4_ := Aside0.mk (blk_kept (bk_ BK181) hkp (fun hs_ => (fun e_ => (Kd.R_ne HO_201001.out BK181.out (by decide)) e_) hs_)); have n5_ := Aside0.mk (blk_kept (bk_ BK195) hkp (fun hs_ => (fun e_ => (Kd.R_ne HO_201001.out BK195.out (by decide)) e_) hs_)); have n6_ := Aside0.mk (blk_kept (bk_ BK200) hkp (fun hs_ => (fun e_ => (Kd.R_ne HO_201001.out BK200.out (by decide)) e_) hs_)); have n7_ := Aside0.mk (blk_kept (bk_ BK209) hkp (fun hs_ => (fun e_ => (Kd.R_ne HO_201001.out BK209.out (by decide)) e_) hs_)); have n8_ := Aside0.mk (Kd.R_mono (ok' := fun k_ => some k_ ≠ (.slice Ao30 t191.length co30 : Value).ownBlock ∧ some k_ ≠ (.slice Ao40 t197.length co40 : Value).ownBlock ∧ some k_ ≠ (.slice Ao48 t205.length co48 : Value).ownBlock) (Kd.R_keptB (HO214.out) hkp (fun k_ hk_ hs_ => (hk_.1.2) hs_)) (fun k_ hk_ => ⟨hk_.1.1.1.2, hk_.1.1.2, hk_.1.2⟩)); have n9_ := Aside0.mk (hb); clear HO_196001; clear HO_201001; clear HO_210001; clear BK180; clear BK181; clear BK195; clear BK200; clear BK209; clear HO214; clear HB; have HO_196001 := n0_; have HO_201001 := n1_; have HO_210001 := n2_; have BK180 := n3_; have BK181 := n4_; have BK195 := n5_; have BK200 := n6_; have BK209 := n7_; have HO214 := n8_; have HB := n9_; clear n0_ n1_ n2_ n3_ n4_ n5_ n6_ n7_ n8_ n9_; (try clear hb); (try clear hkp); (try clear hy0)))
      (try simp only [Act.put, List.setIfInBounds_toArray, List.set_cons_zero, List.set_cons_succ])
      go_cut [67] (fun v67 wc => ∃ (kq : Nat) (x67_76 : Bool), v67 = .bool x67_76 ∧ Aside0 (laws_FnExactAddBridge.j1 kq t194 x67_76 a0_0 l0_1 a1_0 a1_1 a1_2 t190 t191 t204 t205 = some r) ∧ Aside0 (kq ≤ kj15) ∧ Aside0 (Kd.R k34 34 wc w.heap.size (fun k_ => some k_ ≠ ((.slice Ao40 t197.length co40) : Value).ownBlock ∧ some k_ ≠ ((.slice Ao48 t205.length co48) : Value).ownBlock) (.slice Ao30 t191.length co30) t191) ∧ Aside0 (Kd.R k34 34 wc w.heap.size (fun k_ => some k_ ≠ ((.slice Ao30 t191.length co30) : Value).ownBlock ∧ some k_ ≠ ((.slice Ao48 t205.length co48) : Value).ownBlock) (.slice Ao40 t197.length co40) t217) ∧ Aside0 (Kd.R k34 34 wc w.heap.size (fun k_ => some k_ ≠ ((.slice Ao30 t191.length co30) : Value).ownBlock ∧ some k_ ≠ ((.slice Ao40 t197.length co40) : Value).ownBlock) (.slice Ao48 t205.length co48) t205) ∧ Aside0 (wc.heap[gb180]? = some (.cells #[.int .i64 a0_0, (.slice A0_1 l0_1.length c0_1)] 24 (0, 0))) ∧ Aside0 (wc.heap[gb181]? = some (.cells #[.int .i64 a1_0, .int .i64 a1_1, .int .i64 a1_2] 26 (0, 0))) ∧ Aside0 (wc.heap[gb195]? = some (.cells #[.int .i64 t190, (.slice Ao30 t191.length co30)] 30 (0, 0))) ∧ Aside0 (wc.heap[gb200]? = some (.cells #[.int .i64 t196, (.slice Ao40 t197.length co40)] 30 (0, 0))) ∧ Aside0 (wc.heap[gb209]? = some (.cells #[.int .i64 t204, (.slice Ao48 t205.length co48)] 30 (0, 0))) ∧ Aside0 (Below w.heap.size w wc))
      case first =>
       have H := HC77.out
       clear HC77
       by_cases c88 : t216 < 0
       ·rw [if_pos c88] at H
        have c88b0 : decide (t216 < 0) = true := decide_eq_true c88
        clear c88
        (first | rw [c88b0] | (simp only [i64_w, i32_w]; rw [c88b0]) | skip)
        have H' := Aside0.mk H
        clear H
        go_wp2
        go_meet
        case rel => exact ⟨_, (true), (by first | rfl | (simp; done) | (simp [*]; done)), H', ⟨by have := HJ15.out; first | omega | exact Nat.le_refl _⟩, ⟨by (with_reducible repeat (first | apply Kd.R_alloc | apply Kd.R_drewN | apply Kd.R_drew)); exact Kd.R_mono HO_196001.out (fun _ hk => ⟨hk.1, hk.2.1⟩)⟩, ⟨by (with_reducible repeat (first | apply Kd.R_alloc | apply Kd.R_drewN | apply Kd.R_drew)); exact Kd.R_mono HO_201001.out (fun _ hk => ⟨hk.1.1, hk.1.2⟩)⟩, ⟨by (with_reducible repeat (first | apply Kd.R_alloc | apply Kd.R_drewN | apply Kd.R_drew)); exact Kd.R_mono HO_210001.out (fun _ hk => ⟨hk.1, hk.2.1⟩)⟩, ⟨by (with_reducible repeat (first | refine blk_drewN ?_ _ | refine blk_drew ?_ | refine blk_alloc ?_ _)); exact BK180.out⟩, ⟨by (with_reducible repeat (first | refine blk_drewN ?_ _ | refine blk_drew ?_ | refine blk_alloc ?_ _)); exact BK181.out⟩, ⟨by (with_reducible repeat (first | refine blk_drewN ?_ _ | refine blk_drew ?_ | refine blk_alloc ?_ _)); exact BK195.out⟩, ⟨by (with_reducible repeat (first | refine blk_drewN ?_ _ | refine blk_drew ?_ | refine blk_alloc ?_ _)); exact BK200.out⟩, ⟨by (with_reducible repeat (first | refine blk_drewN ?_ _ | refine blk_drew ?_ | refine blk_alloc ?_ _)); exact BK209.out⟩, ⟨bl_⟩⟩
       ·rw [if_neg c88] at H
        have c88b0 : decide (t216 < 0) = false := decide_eq_false c88
        clear c88
        (first | rw [c88b0] | (simp only [i64_w, i32_w]; rw [c88b0]) | skip)
        replace H := Option.bind_eq_some_iff.mp H
        obtain ⟨t218, A890, H⟩ := H
        replace H : (if t218 = true then (laws_FnExactAddBridge.j1 kj15 t194 (t208 != t194) a0_0 l0_1 a1_0 a1_1 a1_2 t190 t191 t204 t205) else (laws_FnExactAddBridge.j1 kj15 t194 true a0_0 l0_1 a1_0 a1_1 a1_2 t190 t191 t204 t205)) = some r := H
        have A89 := Aside0.mk A890
        clear A890
        by_cases c90 : t218 = true
        ·subst c90
         have H1 : (laws_FnExactAddBridge.j1 kj15 t194 (t208 != t194) a0_0 l0_1 a1_0 a1_1 a1_2 t190 t191 t204 t205) = some r := by rw [if_pos rfl] at H; exact H
         clear H
         have H := H1
         clear H1
         have H' := Aside0.mk H
         clear H
         have hnb91 := NB209_180.out
         have hnc91 := NB180_209.out
         have hnb92 := NB209_181.out
         have hnc92 := NB181_209.out
         have hnb93 := NB209_195.out
         have hnc93 := NB195_209.out
         have hnb94 := NB209_200.out
         have hnc94 := NB200_209.out
         have hcz95_0 : w87.cell? ⟨gb209, 0, none⟩ = some (.int .i64 t204) := (blk_cell BK209.out 0).trans rfl
         have hcz95_1 : w87.cell? ⟨gb209, 1, none⟩ = some (.slice Ao48 t205.length co48) := (blk_cell BK209.out 1).trans rfl
         have hfz95_0 := blk_frozen BK209.out 0
         have hfz95_1 := blk_frozen BK209.out 1
         have hnb96 := NB195_180.out
         have hnc96 := NB180_195.out
         have hnb97 := NB195_181.out
         have hnc97 := NB181_195.out
         have hnb98 := NB195_200.out
         have hnc98 := NB200_195.out
         have hcz99_0 : w87.cell? ⟨gb195, 0, none⟩ = some (.int .i64 t190) := (blk_cell BK195.out 0).trans rfl
         have hcz99_1 : w87.cell? ⟨gb195, 1, none⟩ = some (.slice Ao30 t191.length co30) := (blk_cell BK195.out 1).trans rfl
         have hfz99_0 := blk_frozen BK195.out 0
         have hfz99_1 := blk_frozen BK195.out 1
         go_wp2_with (first | (go_at_call 9; (with_reducible refine (laws_eqIsles.calls kj15 t204 _ _ t205 t190 _ _ t191 true _ ?side1 ?side2 ?side3 ?side4 A89.out).mono ?_); (case side1 => repeat (first | exact (Kd.R_reads' HO_210001.out).2.2 | (with_reducible refine Kd.C_alloc ?_ _) | (with_reducible refine Kd.C_drewN ?_ _) | (with_reducible refine Kd.C_drew ?_))); (case side2 => exact (Kd.R_reads' HO_210001.out).2.1); (case side3 => repeat (first | exact (Kd.R_reads' HO_196001.out).2.2 | (with_reducible refine Kd.C_alloc ?_ _) | (with_reducible refine Kd.C_drewN ?_ _) | (with_reducible refine Kd.C_drew ?_))); (case side4 => exact (Kd.R_reads' HO_196001.out).2.1); rintro e w100 ⟨rfl, hb⟩; have n0_ := Aside0.mk (Kd.R_below (rr_ HO_196001) hb); have n1_ := Aside0.mk (Kd.R_below (rr_ HO_201001) hb); have n2_ := Aside0.mk (Kd.R_below (rr_ HO_210001) hb); have n3_ := Aside0.mk (Kd.R_below (rr_ HO214) hb); have n4_ := Aside0.mk (blk_below (g := gb180) (o := .cells #[.int .i64 a0_0, .slice A0_1 l0_1.length c0_1] 24 (0, 0)) (bk_ BK180) hb); have n5_ := Aside0.mk (blk_below (g := gb181) (o := .cells #[.int .i64 a1_0, .int .i64 a1_1, .int .i64 a1_2] 26 (0, 0)) (bk_ BK181) hb); have n6_ := Aside0.mk (blk_below (g := gb195) (o := .cells #[.int .i64 t190, .slice Ao30 t191.length co30] 30 (0, 0)) (bk_ BK195) hb); have n7_ := Aside0.mk (blk_below (g := gb200) (o := .cells #[.int .i64 t196, .slice Ao40 t197.length co40] 30 (0, 0)) (bk_ BK200) hb); have n8_ := Aside0.mk (blk_below (g := gb209) (o := .cells #[.int .i64 t204, .slice Ao48 t205.length co48] 30 (0, 0)) (bk_ BK209) hb); have n9_ := Aside0.mk (below_step (bl_) hb); clear HO_196001; clear HO_201001; clear HO_210001; clear HO214; clear BK180; clear BK181; clear BK195; clear BK200; clear BK209; clear HB; have HO_196001 := n0_; have HO_201001 := n1_; have HO_210001 := n2_; have HO214 := n3_; have BK180 := n4_; have BK181 := n5_; have BK195 := n6_; have BK200 := n7_; have BK209 := n8_; have HB := n9_; clear n0_ n1_ n2_ n3_ n4_ n5_ n6_ n7_ n8_ n9_; (try clear hb); (try clear hb2); (try clear hk); (try clear hi)))
         go_meet
         case rel => exact ⟨_, ((t208 != t194)), (by first | rfl | (simp; done) | (simp [*]; done)), H', ⟨by have := HJ15.out; first | omega | exact Nat.le_refl _⟩, ⟨by (with_reducible repeat (first | apply Kd.R_alloc | apply Kd.R_drewN | apply Kd.R_drew)); exact Kd.R_mono HO_196001.out (fun _ hk => ⟨hk.1, hk.2.1⟩)⟩, ⟨by (with_reducible repeat (first | apply Kd.R_alloc | apply Kd.R_drewN | apply Kd.R_drew)); exact Kd.R_mono HO_201001.out (fun _ hk => ⟨hk.1.1, hk.1.2⟩)⟩, ⟨by (with_reducible repeat (first | apply Kd.R_alloc | apply Kd.R_drewN | apply Kd.R_drew)); exact Kd.R_mono HO_210001.out (fun _ hk => ⟨hk.1, hk.2.1⟩)⟩, ⟨by (with_reducible repeat (first | refine blk_drewN ?_ _ | refine blk_drew ?_ | refine blk_alloc ?_ _)); exact BK180.out⟩, ⟨by (with_reducible repeat (first | refine blk_drewN ?_ _ | refine blk_drew ?_ | refine blk_alloc ?_ _)); exact BK181.out⟩, ⟨by (with_reducible repeat (first | refine blk_drewN ?_ _ | refine blk_drew ?_ | refine blk_alloc ?_ _)); exact BK195.out⟩, ⟨by (with_reducible repeat (first | refine blk_drewN ?_ _ | refine blk_drew ?_ | refine blk_alloc ?_ _)); exact BK200.out⟩, ⟨by (with_reducible repeat (first | refine blk_drewN ?_ _ | refine blk_drew ?_ | refine blk_alloc ?_ _)); exact BK209.out⟩, ⟨bl_⟩⟩
        ·replace c90 := Bool.eq_false_iff.mpr c90
         subst c90
         have H1 : (laws_FnExactAddBridge.j1 kj15 t194 true a0_0 l0_1 a1_0 a1_1 a1_2 t190 t191 t204 t205) = some r := by rw [if_neg (show ¬ (false = true) by decide)] at H; exact H
         clear H
         have H := H1
         clear H1
         have H' := Aside0.mk H
         clear H
         have hnb101 := NB209_180.out
         have hnc101 := NB180_209.out
         have hnb102 := NB209_181.out
         have hnc102 := NB181_209.out
         have hnb103 := NB209_195.out
         have hnc103 := NB195_209.out
         have hnb104 := NB209_200.out
         have hnc104 := NB200_209.out
         have hcz105_0 : w87.cell? ⟨gb209, 0, none⟩ = some (.int .i64 t204) := (blk_cell BK209.out 0).trans rfl
         have hcz105_1 : w87.cell? ⟨gb209, 1, none⟩ = some (.slice Ao48 t205.length co48) := (blk_cell BK209.out 1).trans rfl
         have hfz105_0 := blk_frozen BK209.out 0
         have hfz105_1 := blk_frozen BK209.out 1
         have hnb106 := NB195_180.out
         have hnc106 := NB180_195.out
         have hnb107 := NB195_181.out
         have hnc107 := NB181_195.out
         have hnb108 := NB195_200.out
         have hnc108 := NB200_195.out
         have hcz109_0 : w87.cell? ⟨gb195, 0, none⟩ = some (.int .i64 t190) := (blk_cell BK195.out 0).trans rfl
         have hcz109_1 : w87.cell? ⟨gb195, 1, none⟩ = some (.slice Ao30 t191.length co30) := (blk_cell BK195.out 1).trans rfl
         have hfz109_0 := blk_frozen BK195.out 0
         have hfz109_1 := blk_frozen BK195.out 1
         go_wp2_with (first | (go_at_call 9; (with_reducible refine (laws_eqIsles.calls kj15 t204 _ _ t205 t190 _ _ t191 false _ ?side1 ?side2 ?side3 ?side4 A89.out).mono ?_); (case side1 => repeat (first | exact (Kd.R_reads' HO_210001.out).2.2 | (with_reducible refine Kd.C_alloc ?_ _) | (with_reducible refine Kd.C_drewN ?_ _) | (with_reducible refine Kd.C_drew ?_))); (case side2 => exact (Kd.R_reads' HO_210001.out).2.1); (case side3 => repeat (first | exact (Kd.R_reads' HO_196001.out).2.2 | (with_reducible refine Kd.C_alloc ?_ _) | (with_reducible refine Kd.C_drewN ?_ _) | (with_reducible refine Kd.C_drew ?_))); (case side4 => exact (Kd.R_reads' HO_196001.out).2.1); rintro e w110 ⟨rfl, hb⟩; have n0_ := Aside0.mk (Kd.R_below (rr_ HO_196001) hb); have n1_ := Aside0.mk (Kd.R_below (rr_ HO_201001) hb); have n2_ := Aside0.mk (Kd.R_below (rr_ HO_210001) hb); have n3_ := Aside0.mk (Kd.R_below (rr_ HO214) hb); have n4_ := Aside0.mk (blk_below (g := gb180) (o := .cells #[.int .i64 a0_0, .slice A0_1 l0_1.length c0_1] 24 (0, 0)) (bk_ BK180) hb); have n5_ := Aside0.mk (blk_below (g := gb181) (o := .cells #[.int .i64 a1_0, .int .i64 a1_1, .int .i64 a1_2] 26 (0, 0)) (bk_ BK181) hb); have n6_ := Aside0.mk (blk_below (g := gb195) (o := .cells #[.int .i64 t190, .slice Ao30 t191.length co30] 30 (0, 0)) (bk_ BK195) hb); have n7_ := Aside0.mk (blk_below (g := gb200) (o := .cells #[.int .i64 t196, .slice Ao40 t197.length co40] 30 (0, 0)) (bk_ BK200) hb); have n8_ := Aside0.mk (blk_below (g := gb209) (o := .cells #[.int .i64 t204, .slice Ao48 t205.length co48] 30 (0, 0)) (bk_ BK209) hb); have n9_ := Aside0.mk (below_step (bl_) hb); clear HO_196001; clear HO_201001; clear HO_210001; clear HO214; clear BK180; clear BK181; clear BK195; clear BK200; clear BK209; clear HB; have HO_196001 := n0_; have HO_201001 := n1_; have HO_210001 := n2_; have HO214 := n3_; have BK180 := n4_; have BK181 := n5_; have BK195 := n6_; have BK200 := n7_; have BK209 := n8_; have HB := n9_; clear n0_ n1_ n2_ n3_ n4_ n5_ n6_ n7_ n8_ n9_; (try clear hb); (try clear hb2); (try clear hk); (try clear hi)))
         go_meet
         case rel => exact ⟨_, (true), (by first | rfl | (simp; done) | (simp [*]; done)), H', ⟨by have := HJ15.out; first | omega | exact Nat.le_refl _⟩, ⟨by (with_reducible repeat (first | apply Kd.R_alloc | apply Kd.R_drewN | apply Kd.R_drew)); exact Kd.R_mono HO_196001.out (fun _ hk => ⟨hk.1, hk.2.1⟩)⟩, ⟨by (with_reducible repeat (first | apply Kd.R_alloc | apply Kd.R_drewN | apply Kd.R_drew)); exact Kd.R_mono HO_201001.out (fun _ hk => ⟨hk.1.1, hk.1.2⟩)⟩, ⟨by (with_reducible repeat (first | apply Kd.R_alloc | apply Kd.R_drewN | apply Kd.R_drew)); exact Kd.R_mono HO_210001.out (fun _ hk => ⟨hk.1, hk.2.1⟩)⟩, ⟨by (with_reducible repeat (first | refine blk_drewN ?_ _ | refine blk_drew ?_ | refine blk_alloc ?_ _)); exact BK180.out⟩, ⟨by (with_reducible repeat (first | refine blk_drewN ?_ _ | refine blk_drew ?_ | refine blk_alloc ?_ _)); exact BK181.out⟩, ⟨by (with_reducible repeat (first | refine blk_drewN ?_ _ | refine blk_drew ?_ | refine blk_alloc ?_ _)); exact BK195.out⟩, ⟨by (with_reducible repeat (first | refine blk_drewN ?_ _ | refine blk_drew ?_ | refine blk_alloc ?_ _)); exact BK200.out⟩, ⟨by (with_reducible repeat (first | refine blk_drewN ?_ _ | refine blk_drew ?_ | refine blk_alloc ?_ _)); exact BK209.out⟩, ⟨bl_⟩⟩
      case rest =>
       clear HC77
       try clear c1
       try clear p2
       try clear c5
       try clear c6
       try clear c7
       try clear c8
       try clear c9
       try clear c10
       try clear c51
       try clear c52
       try clear c53
       try clear c54
       try clear c55
       try clear c57
       try clear c58
       try clear c59
       try clear c62
       try clear c63
       try clear c64
       try clear c65
       try clear c67
       try clear c68
       try clear c69
       try clear c72
       try clear c75
       try clear c82
       try clear c83
       try clear c84
       try clear c85
       try clear c88
       try clear c88b0
       try clear c90
       try clear c91
       try clear c92
       try clear c93
       try clear c94
       try clear c96
       try clear c97
       try clear c98
       try clear c101
       try clear c102
       try clear c103
       try clear c104
       try clear c106
       try clear c107
       try clear c108
       try clear hcz105_0
       try clear hcz105_1
       try clear hcz109_0
       try clear hcz109_1
       try clear hcz56_0
       try clear hcz56_1
       try clear hcz60_0
       try clear hcz60_1
       try clear hcz66_0
       try clear hcz66_1
       try clear hcz70_0
       try clear hcz70_1
       try clear hcz86_0
       try clear hcz86_1
       try clear hcz95_0
       try clear hcz95_1
       try clear hcz99_0
       try clear hcz99_1
       try clear hfz105_0
       try clear hfz105_1
       try clear hfz109_0
       try clear hfz109_1
       try clear hfz56_0
       try clear hfz56_1
       try clear hfz60_0
       try clear hfz60_1
       try clear hfz66_0
       try clear hfz66_1
       try clear hfz70_0
       try clear hfz70_1
       try clear hfz86_0
       try clear hfz86_1
       try clear hfz95_0
       try clear hfz95_1
       try clear hfz99_0
       try clear hfz99_1
       try clear p2
       obtain ⟨kq, x67_76, rfl, HA, HJ76, HO_196001, HO_201001, HO_210001, BK180, BK181, BK195, BK200, BK209, HB⟩ := hcut
       have hl201001_76 := (Kd.R_reads' HO_201001.out).1
       rw [hl201001_76] at HO_201001
       (try simp only [hl201001_76])
       (try simp only [hl201001_76] at BK180)
       (try simp only [hl201001_76] at BK181)
       (try simp only [hl201001_76] at BK195)
       (try simp only [hl201001_76] at BK200)
       (try simp only [hl201001_76] at BK209)
       (try simp only [hl201001_76] at HO_196001)
       (try simp only [hl201001_76] at HO_210001)
       cases kq with
       | zero => exact absurd HA.out (by simp [laws_FnExactAddBridge.j1])
       | succ kj76 =>
        have H := HA.out
        clear HA
        simp only [laws_FnExactAddBridge.j1] at H
        by_cases c111 : x67_76 = true
        ·subst c111
         have H1 : (some false) = some r := by rw [if_pos rfl] at H; exact H
         clear H
         have H := H1
         clear H1
         obtain rfl := Option.some.inj H
         cases hr_.out
        ·replace c111 := Bool.eq_false_iff.mpr c111
         subst c111
         have H1 : ((laws_markIsles.f kj76 t204 t205 1).bind fun bt219 => ((laws_heldIsles.f kj76 t204 bt219.2 1).bind fun t221 => (if t221 < 0 then (some false) else (if t221 = bt219.1 then ((laws_toIsles.f kj76 a0_0 l0_1).bind fun bt222 => ((laws_toBridge.f a1_0 a1_1 a1_2).bind fun bt226 => ((impl_AddBridge.f bt222.1 bt222.2 bt226.1 bt226.2.1 bt226.2.2).bind fun bt229 => ((laws_eqIsles.f kj76 bt229.1 bt229.2.1 t190 t191).bind fun t235 => (if t235 = true then (laws_FnExactAddBridge.j2 kj76 bt219.1 (bt229.2.2 != t194) t204 bt219.2) else (laws_FnExactAddBridge.j2 kj76 bt219.1 true t204 bt219.2)))))) else (some false))))) = some r := by rw [if_neg (show ¬ (false = true) by decide)] at H; exact H
         clear H
         have H := H1
         clear H1
         replace H := Option.bind_eq_some_iff.mp H
         obtain ⟨⟨t219, t220⟩, A1120, H⟩ := H
         replace H : ((laws_heldIsles.f kj76 t204 t220 1).bind fun t221 => (if t221 < 0 then (some false) else (if t221 = t219 then ((laws_toIsles.f kj76 a0_0 l0_1).bind fun bt222 => ((laws_toBridge.f a1_0 a1_1 a1_2).bind fun bt226 => ((impl_AddBridge.f bt222.1 bt222.2 bt226.1 bt226.2.1 bt226.2.2).bind fun bt229 => ((laws_eqIsles.f kj76 bt229.1 bt229.2.1 t190 t191).bind fun t235 => (if t235 = true then (laws_FnExactAddBridge.j2 kj76 t219 (bt229.2.2 != t194) t204 t220) else (laws_FnExactAddBridge.j2 kj76 t219 true t204 t220)))))) else (some false)))) = some r := H
         have A112 := Aside0.mk A1120
         clear A1120
         replace H := Option.bind_eq_some_iff.mp H
         obtain ⟨t221, A1130, H⟩ := H
         replace H : (if t221 < 0 then (some false) else (if t221 = t219 then ((laws_toIsles.f kj76 a0_0 l0_1).bind fun bt222 => ((laws_toBridge.f a1_0 a1_1 a1_2).bind fun bt226 => ((impl_AddBridge.f bt222.1 bt222.2 bt226.1 bt226.2.1 bt226.2.2).bind fun bt229 => ((laws_eqIsles.f kj76 bt229.1 bt229.2.1 t190 t191).bind fun t235 => (if t235 = true then (laws_FnExactAddBridge.j2 kj76 t219 (bt229.2.2 != t194) t204 t220) else (laws_FnExactAddBridge.j2 kj76 t219 true t204 t220)))))) else (some false))) = some r := H
         have A113 := Aside0.mk A1130
         clear A1130
         by_cases c114 : t221 < 0
         ·rw [if_pos c114] at H
          have c114b0 : decide (t221 < 0) = true := decide_eq_true c114
          clear c114
          obtain rfl := Option.some.inj H
          cases hr_.out
         ·rw [if_neg c114] at H
          have c114b0 : decide (t221 < 0) = false := decide_eq_false c114
          clear c114
          by_cases c123 : t221 = t219
          ·rw [if_pos c123] at H
           have c123b0 : (t221 == t219) = true := beq_iff_eq.mpr c123
           have c123b1 : (t221 != t219) = false := bne_eq_false_iff_eq.mpr c123
           clear c123
           replace H := Option.bind_eq_some_iff.mp H
           obtain ⟨⟨t222, t223⟩, A1240, H⟩ := H
           replace H : ((laws_toBridge.f a1_0 a1_1 a1_2).bind fun bt226 => ((impl_AddBridge.f t222 t223 bt226.1 bt226.2.1 bt226.2.2).bind fun bt229 => ((laws_eqIsles.f kj76 bt229.1 bt229.2.1 t190 t191).bind fun t235 => (if t235 = true then (laws_FnExactAddBridge.j2 kj76 t219 (bt229.2.2 != t194) t204 t220) else (laws_FnExactAddBridge.j2 kj76 t219 true t204 t220))))) = some r := H
           have A124 := Aside0.mk A1240
           clear A1240
           replace H := Option.bind_eq_some_iff.mp H
           obtain ⟨⟨t226, t227, t228⟩, A1250, H⟩ := H
           replace H : ((impl_AddBridge.f t222 t223 t226 t227 t228).bind fun bt229 => ((laws_eqIsles.f kj76 bt229.1 bt229.2.1 t190 t191).bind fun t235 => (if t235 = true then (laws_FnExactAddBridge.j2 kj76 t219 (bt229.2.2 != t194) t204 t220) else (laws_FnExactAddBridge.j2 kj76 t219 true t204 t220)))) = some r := H
           have A125 := Aside0.mk A1250
           clear A1250
           replace H := Option.bind_eq_some_iff.mp H
           obtain ⟨⟨t229, t230, t233⟩, A1260, H⟩ := H
           replace H : ((laws_eqIsles.f kj76 t229 t230 t190 t191).bind fun t235 => (if t235 = true then (laws_FnExactAddBridge.j2 kj76 t219 (t233 != t194) t204 t220) else (laws_FnExactAddBridge.j2 kj76 t219 true t204 t220))) = some r := H
           have A126 := Aside0.mk A1260
           clear A1260
           have HC127 := Aside0.mk H
           clear H
           have hnb128 := NB209_180.out
           have hnc128 := NB180_209.out
           have hnb129 := NB209_181.out
           have hnc129 := NB181_209.out
           have hnb130 := NB209_195.out
           have hnc130 := NB195_209.out
           have hnb131 := NB209_200.out
           have hnc131 := NB200_209.out
           have hcz132_0 : wc.cell? ⟨gb209, 0, none⟩ = some (.int .i64 t204) := (blk_cell BK209.out 0).trans rfl
           have hcz132_1 : wc.cell? ⟨gb209, 1, none⟩ = some (.slice Ao48 t205.length co48) := (blk_cell BK209.out 1).trans rfl
           have hfz132_0 := blk_frozen BK209.out 0
           have hfz132_1 := blk_frozen BK209.out 1
           try go_wp2_with (first | ((with_reducible refine gate_callee (f := 10) rfl ?_); refine goesL_ (some 70) rfl rfl Try.func10 (by kernel_rfl) rfl #[.agg #[.int .i64 t204, .slice Ao48 t205.length co48], .int .i64 1] rfl ar_ ?_; (with_reducible refine (laws_markIsles.calls kj76 t204 (fun k_ => some k_ = (.slice Ao48 t205.length co48 : Value).ownBlock) (.slice Ao48 t205.length co48) t205 1 t219 t220 w _ ?side1 ?side2 A112.out).mono ?_); (case side1 => repeat (first | (with_reducible first | exact HB.out | apply below_alloc | apply pw_below_drewN | apply below_drew1 | refine below_set ?_ GE180.out | refine below_set ?_ GE181.out | refine below_set ?_ GE195.out | refine below_set ?_ GE200.out | refine below_set ?_ GE209.out) | exact HB.out)); (case side2 => exact Kd.R_tight rfl HO_210001.out); rintro e w133 ⟨rfl, hy0, hb, hkp⟩; refine ⟨_, rfl, ?_⟩; have n0_ := Aside0.mk (Kd.R_mono (ok' := fun k_ => some k_ ≠ (.slice Ao40 t217.length co40 : Value).ownBlock ∧ some k_ ≠ (.slice Ao48 t205.length co48 : Value).ownBlock) (Kd.R_keptB (HO_196001.out) hkp (fun k_ hk_ hs_ => (hk_.2) hs_)) (fun k_ hk_ => ⟨hk_.1.1, hk_.1.2⟩)); have n1_ := Aside0.mk (Kd.R_mono (ok' := fun k_ => some k_ ≠ (.slice Ao30 t191.length co30 : Value).ownBlock ∧ some k_ ≠ (.slice Ao48 t205.length co48 : Value).ownBlock) (Kd.R_keptB (HO_201001.out) hkp (fun k_ hk_ hs_ => (hk_.2) hs_)) (fun k_ hk_ => ⟨hk_.1.1, hk_.1.2⟩)); have n2_ := Aside0.mk (Kd.R_reok rfl hy0 (fun k_ e_ => HO_210001.out.1 k_ e_)); have n3_ := Aside0.mk (blk_kept (bk_ BK180) hkp (fun hs_ => (fun e_ => (Kd.R_ne HO_210001.out BK180.out (by decide)) e_) hs_)); have n4_ := Aside0.mk (blk_kept (bk_ BK181) hkp (fun hs_ => (fun e_ => (Kd.R_ne HO_210001.out BK181.out (by decide)) e_) hs_)); have n5_ := Aside0.mk (blk_kept (bk_ BK195) hkp (fun hs_ => (fun e_ => (Kd.R_ne HO_210001.out BK195.out (by decide)) e_) hs_)); have n6_ := Aside0.mk (blk_kept (bk_ BK200) hkp (fun hs_ => (fun e_ => (Kd.R_ne HO_210001.out BK200.out (by decide)) e_) hs_)); have n7_ := Aside0.mk (blk_kept (bk_ BK209) hkp (fun hs_ => (fun e_ => (Kd.R_ne HO_210001.out BK209.out (by decide)) e_) hs_)); have n8_ := Aside0.mk (hb); clear HO_196001; clear HO_201001; clear HO_210001; clear BK180; clear BK181; clear BK195; clear BK200; clear BK209; clear HB; have HO_196001 := n0_; have HO_201001 := n1_; have HO_210001 := n2_; have BK180 := n3_; have BK181 := n4_; have BK195 := n5_; have BK200 := n6_; have BK209 := n7_; have HB := n8_; clear n0_ n1_ n2_ n3_ n4_ n5_ n6_ n7_ n8_; (try clear hb); (try clear hkp); (try clear hy0); have hcz134_0 : w133.cell? ⟨gb209, 0, none⟩ = some (.int .i64 t204) := (blk_cell BK209.out 0).trans rfl; have hcz134_1 : w133.cell? ⟨gb209, 1, none⟩ = some (.slice Ao48 t205.length co48) := (blk_cell BK209.out 1).trans rfl; have hfz134_0 := blk_frozen BK209.out 0; have hfz134_1 := blk_frozen BK209.out 1) | ((with_reducible refine gate_callee (f := 11) rfl ?_); refine goesL_ (some 73) rfl rfl Try.func11 (by kernel_rfl) rfl #[.agg #[.int .i64 t204, .slice Ao48 t220.length co48], .int .i64 1] rfl (by (try simp only [List.map_toArray, List.map_cons, List.map_nil]); first | done | (rw [show t220.length = t205.length from (Kd.R_reads' HO_210001.out).1.symm] <;> rfl) | rfl | (simp only [List.length_drop, List.length_take]; rfl)) ?_; (with_reducible refine (laws_heldIsles.calls kj76 t204 _ _ t220 1 t221 _ ?side1 ?side2 A113.out).mono ?_); (case side1 => repeat (first | exact (Kd.R_reads' HO_210001.out).2.2 | (with_reducible refine Kd.C_alloc ?_ _) | (with_reducible refine Kd.C_drewN ?_ _) | (with_reducible refine Kd.C_drew ?_))); (case side2 => rw [show t220.length = t205.length from (Kd.R_reads' HO_210001.out).1.symm]; exact (Kd.R_reads' HO_210001.out).2.1); rintro e w135 ⟨rfl, hb⟩; refine ⟨_, rfl, ?_⟩; have n0_ := Aside0.mk (Kd.R_below (rr_ HO_196001) hb); have n1_ := Aside0.mk (Kd.R_below (rr_ HO_201001) hb); have n2_ := Aside0.mk (Kd.R_below (rr_ HO_210001) hb); have n3_ := Aside0.mk (blk_below (g := gb180) (o := .cells #[.int .i64 a0_0, .slice A0_1 l0_1.length c0_1] 24 (0, 0)) (bk_ BK180) hb); have n4_ := Aside0.mk (blk_below (g := gb181) (o := .cells #[.int .i64 a1_0, .int .i64 a1_1, .int .i64 a1_2] 26 (0, 0)) (bk_ BK181) hb); have n5_ := Aside0.mk (blk_below (g := gb195) (o := .cells #[.int .i64 t190, .slice Ao30 t191.length co30] 30 (0, 0)) (bk_ BK195) hb); have n6_ := Aside0.mk (blk_below (g := gb200) (o := .cells #[.int .i64 t196, .slice Ao40 t217.length co40] 30 (0, 0)) (bk_ BK200) hb); have n7_ := Aside0.mk (blk_below (g := gb209) (o := .cells #[.int .i64 t204, .slice Ao48 t205.length co48] 30 (0, 0)) (bk_ BK209) hb); have n8_ := Aside0.mk (below_step (bl_) hb); clear HO_196001; clear HO_201001; clear HO_210001; clear BK180; clear BK181; clear BK195; clear BK200; clear BK209; clear HB; have HO_196001 := n0_; have HO_201001 := n1_; have HO_210001 := n2_; have BK180 := n3_; have BK181 := n4_; have BK195 := n5_; have BK200 := n6_; have BK209 := n7_; have HB := n8_; clear n0_ n1_ n2_ n3_ n4_ n5_ n6_ n7_ n8_; (try clear hb); (try clear hb2); (try clear hk); (try clear hi)))
           have n0_ := Aside0.mk (Kd.R_drew HO_196001.out)
           have n1_ := Aside0.mk (Kd.R_drew HO_201001.out)
           have n2_ := Aside0.mk (Kd.R_drew HO_210001.out)
           have n3_ := Aside0.mk (blk_drew BK180.out)
           have n4_ := Aside0.mk (blk_drew BK181.out)
           have n5_ := Aside0.mk (blk_drew BK195.out)
           have n6_ := Aside0.mk (blk_drew BK200.out)
           have n7_ := Aside0.mk (blk_drew BK209.out)
           have n8_ := Aside0.mk (below_drew1 HB.out)
           clear HO_196001
           clear HO_201001
           clear HO_210001
           clear BK180
           clear BK181
           clear BK195
           clear BK200
           clear BK209
           clear HB
           have HO_196001 := n0_
           have HO_201001 := n1_
           have HO_210001 := n2_
           have BK180 := n3_
           have BK181 := n4_
           have BK195 := n5_
           have BK200 := n6_
           have BK209 := n7_
           have HB := n8_
           clear n0_ n1_ n2_ n3_ n4_ n5_ n6_ n7_ n8_
           refine start_ (n := 11) (S := fun w' => w'.cell? ⟨gb180, 0, none⟩ = some (.int .i64 a0_0) ∧ w'.cell? ⟨gb180, 1, none⟩ = some (.slice A0_1 l0_1.length c0_1) ∧ w'.cell? ⟨gb181, 0, none⟩ = some (.int .i64 a1_0) ∧ w'.cell? ⟨gb181, 1, none⟩ = some (.int .i64 a1_1) ∧ w'.cell? ⟨gb181, 2, none⟩ = some (.int .i64 a1_2)) (ds := []) #[false, false, false, false, false, false, false, false, false, false, false] (by kernel_rfl) rfl rfl ⟨(blk_cell BK180.out 0).trans rfl, (blk_cell BK180.out 1).trans rfl, (blk_cell BK181.out 0).trans rfl, (blk_cell BK181.out 1).trans rfl, (blk_cell BK181.out 2).trans rfl⟩ (fun hHeld => ?_); refine with_tabW laws_FnExactAddBridge.tab24 laws_FnExactAddBridge.bits24 (fun HT_ HW_ => ?_)
           generalize w135.drew = w136 at HO_196001 HO_201001 HO_210001 BK180 BK181 BK195 BK200 BK209 HB hHeld ⊢
           refine take_ (i := 0) (N := some 80) (v := ?_) (a' := ?_) #[true, false, false, false, false, false, false, false, false, false, false] rfl rfl (take_ofW HT_.out HW_.out (by kernel_rfl)) (fun _ _ _ h => h) (Or.inl ⟨by rfl, ?_⟩) hHeld ?_ ?_
           rotate_left
           ·rintro w' ⟨s0, s1, s2, s3, s4⟩
            go_simp
            with_reducible rfl
           rotate_left
           ·simp only [Act.put, List.setIfInBounds_toArray, List.set_cons_zero, List.set_cons_succ, i64_w, i32_w]
            rfl
           refine take_ (i := 2) (N := some 82) (v := ?_) (a' := ?_) #[true, false, true, false, false, false, false, false, false, false, false] rfl rfl (take_ofW HT_.out HW_.out (by kernel_rfl)) (fun _ _ _ h => h) (Or.inl ⟨by rfl, ?_⟩) hHeld ?_ ?_
           rotate_left
           ·rintro w' ⟨s0, s1, s2, s3, s4⟩
            go_simp
            with_reducible rfl
           rotate_left
           ·simp only [Act.put, List.setIfInBounds_toArray, List.set_cons_zero, List.set_cons_succ, i64_w, i32_w]
            rfl
           refine join_ (σ := Value × Value × Nat) 2 #[true, true, true, true, true, true, true, true, true, false, false] (fun s_ => [(81, .agg #[.int .i64 t222, s_.1]), (83, .agg #[.int .i64 t226, .int .i64 t227, .int .i64 t228]), (84, .tuple #[.agg #[.int .i64 t229, s_.2.1], .bool t233]), (14, .pointer (some ⟨s_.2.2, 0, none⟩)), (79, .tuple #[.agg #[.int .i64 t229, s_.2.1], .bool t233]), (85, .agg #[.int .i64 t229, s_.2.1]), (86, .bool t233)]) (fun s_ w' => (w'.cell? ⟨gb180, 0, none⟩ = some (.int .i64 a0_0) ∧ w'.cell? ⟨gb180, 1, none⟩ = some (.slice A0_1 l0_1.length c0_1) ∧ w'.cell? ⟨gb181, 0, none⟩ = some (.int .i64 a1_0) ∧ w'.cell? ⟨gb181, 1, none⟩ = some (.int .i64 a1_1) ∧ w'.cell? ⟨gb181, 2, none⟩ = some (.int .i64 a1_2)) ∧ (Kd.R k34 34 w' w.heap.size (fun k_ => some k_ ≠ (s_.2.1 : Value).ownBlock ∧ some k_ ≠ (.slice Ao30 t191.length co30 : Value).ownBlock ∧ some k_ ≠ (.slice Ao40 t217.length co40 : Value).ownBlock ∧ some k_ ≠ (.slice Ao48 t205.length co48 : Value).ownBlock) s_.1 t223) ∧ (Kd.R k34 34 w' w.heap.size (fun k_ => some k_ ≠ (s_.1 : Value).ownBlock ∧ some k_ ≠ (.slice Ao30 t191.length co30 : Value).ownBlock ∧ some k_ ≠ (.slice Ao40 t217.length co40 : Value).ownBlock ∧ some k_ ≠ (.slice Ao48 t205.length co48 : Value).ownBlock) s_.2.1 t230) ∧ (Kd.R k34 34 w' w.heap.size (fun k_ => some k_ ≠ (s_.1 : Value).ownBlock ∧ some k_ ≠ (s_.2.1 : Value).ownBlock ∧ some k_ ≠ (.slice Ao40 t217.length co40 : Value).ownBlock ∧ some k_ ≠ (.slice Ao48 t205.length co48 : Value).ownBlock) (.slice Ao30 t191.length co30) t191) ∧ (Kd.R k34 34 w' w.heap.size (fun k_ => some k_ ≠ (s_.1 : Value).ownBlock ∧ some k_ ≠ (s_.2.1 : Value).ownBlock ∧ some k_ ≠ (.slice Ao30 t191.length co30 : Value).ownBlock ∧ some k_ ≠ (.slice Ao48 t205.length co48 : Value).ownBlock) (.slice Ao40 t217.length co40) t217) ∧ (Kd.R k34 34 w' w.heap.size (fun k_ => some k_ ≠ (s_.1 : Value).ownBlock ∧ some k_ ≠ (s_.2.1 : Value).ownBlock ∧ some k_ ≠ (.slice Ao30 t191.length co30 : Value).ownBlock ∧ some k_ ≠ (.slice Ao40 t217.length co40 : Value).ownBlock) (.slice Ao48 t205.length co48) t220) ∧ (w'.heap[gb180]? = some (.cells #[.int .i64 a0_0, .slice A0_1 l0_1.length c0_1] 24 (0, 0))) ∧ (w'.heap[gb181]? = some (.cells #[.int .i64 a1_0, .int .i64 a1_1, .int .i64 a1_2] 26 (0, 0))) ∧ (w'.heap[gb195]? = some (.cells #[.int .i64 t190, .slice Ao30 t191.length co30] 30 (0, 0))) ∧ (w'.heap[gb200]? = some (.cells #[.int .i64 t196, .slice Ao40 t217.length co40] 30 (0, 0))) ∧ (w'.heap[gb209]? = some (.cells #[.int .i64 t204, .slice Ao48 t205.length co48] 30 (0, 0))) ∧ (w'.heap[s_.2.2]? = some (.cells #[.int .i64 0, .slice none 0 0] 30 (0, 0))) ∧ (w.heap.size ≤ s_.2.2) ∧ (w.heap.size ≤ s_.2.2) ∧ (gb180 ≠ s_.2.2) ∧ (s_.2.2 ≠ gb180) ∧ (gb181 ≠ s_.2.2) ∧ (s_.2.2 ≠ gb181) ∧ (gb195 ≠ s_.2.2) ∧ (s_.2.2 ≠ gb195) ∧ (gb200 ≠ s_.2.2) ∧ (s_.2.2 ≠ gb200) ∧ (gb209 ≠ s_.2.2) ∧ (s_.2.2 ≠ gb209) ∧ (Below w.heap.size w w')) ?_ ?_
           rotate_left
           ·intro hCont
            refine two_ (i := 1) (j := 8) (Ni := some 81) (Nj := some 14) #[true, true, true, false, false, false, false, false, false, false, false] #[true, false, true, false, false, false, false, false, true, false, false] rfl rfl rfl rfl (two_of HT_.out (by kernel_rfl)) (by decide) (by decide) (fun K hK => ?_) (fun K hK => ?_)
            ·skip
             refine goes_ Try.func6 (by kernel_rfl) rfl #[.agg #[.int .i64 a0_0, .slice A0_1 l0_1.length c0_1]] (by rfl) rfl rfl ar_ ?_
             with_reducible refine (laws_toIsles.calls kj76 a0_0 _ _ l0_1 t222 t223 _ ?side1 ?side2 A124.out).mono ?_
             (case side1 => repeat (first | exact (Kd.C_below HR0_1.out HB.out) | (with_reducible refine Kd.C_alloc ?_ _) | (with_reducible refine Kd.C_drewN ?_ _) | (with_reducible refine Kd.C_drew ?_)))
             (case side2 => exact HC0_1.out)
             rintro e w137 ⟨v224, rfl, ho0, hb⟩
             refine ⟨_, rfl, ?_⟩
             have n0_ := Aside0.mk (Kd.R_elder' (rr_ HO_196001) (Kd.R_base ho0) hb)
             have n1_ := Aside0.mk (Kd.R_elder' (rr_ HO_201001) (Kd.R_base ho0) hb)
             have n2_ := Aside0.mk (Kd.R_elder' (rr_ HO_210001) (Kd.R_base ho0) hb)
             have n3_ := Aside0.mk (Kd.R_lower (Kd.R_new' (Kd.R_new' (Kd.R_new' ho0 (Kd.R_lt (rr_ HO_196001))) (Kd.R_lt (rr_ HO_201001))) (Kd.R_lt (rr_ HO_210001))) (below_size (bl_)))
             have n4_ := Aside0.mk (blk_below (g := gb180) (o := .cells #[.int .i64 a0_0, .slice A0_1 l0_1.length c0_1] 24 (0, 0)) (bk_ BK180) hb)
             have n5_ := Aside0.mk (blk_below (g := gb181) (o := .cells #[.int .i64 a1_0, .int .i64 a1_1, .int .i64 a1_2] 26 (0, 0)) (bk_ BK181) hb)
             have n6_ := Aside0.mk (blk_below (g := gb195) (o := .cells #[.int .i64 t190, .slice Ao30 t191.length co30] 30 (0, 0)) (bk_ BK195) hb)
             have n7_ := Aside0.mk (blk_below (g := gb200) (o := .cells #[.int .i64 t196, .slice Ao40 t217.length co40] 30 (0, 0)) (bk_ BK200) hb)
             have n8_ := Aside0.mk (blk_below (g := gb209) (o := .cells #[.int .i64 t204, .slice Ao48 t205.length co48] 30 (0, 0)) (bk_ BK209) hb)
             have n9_ := Aside0.mk (below_step (bl_) hb)
             clear HO_196001
             clear HO_201001
             clear HO_210001
             clear BK180
             clear BK181
             clear BK195
             clear BK200
             clear BK209
             clear HB
             have HO_196001 := n0_
             have HO_201001 := n1_
             have HO_210001 := n2_
             have HO225 := n3_
             have BK180 := n4_
             have BK181 := n5_
             have BK195 := n6_
             have BK200 := n7_
             have BK209 := n8_
             have HB := n9_
             clear n0_ n1_ n2_ n3_ n4_ n5_ n6_ n7_ n8_ n9_
             (try clear hb)
             (try clear hb2)
             (try clear hk)
             (try clear hi)
             (try clear ho0)
             refine hK.out _ _ ⟨(blk_cell BK180.out 0).trans rfl, (blk_cell BK180.out 1).trans rfl, (blk_cell BK181.out 0).trans rfl, (blk_cell BK181.out 1).trans rfl, (blk_cell BK181.out 2).trans rfl⟩ (fun hHeld => ?_)
             clear hK K
             refine norm_ (a' := ?_) ?_ ?_
             rotate_left
             ·show Act.put _ (some 81) _ = _
              simp only [Act.put, List.setIfInBounds_toArray, List.set_cons_zero, List.set_cons_succ, i64_w, i32_w]
              rfl
             refine two_ (i := 3) (j := 8) (Ni := some 83) (Nj := some 14) #[true, true, true, true, false, false, false, false, false, false, false] #[true, true, true, false, false, false, false, false, true, false, false] rfl rfl rfl rfl (two_of HT_.out (by kernel_rfl)) (by decide) (by decide) (fun K hK => ?_) (fun K hK => ?_)
             ·skip
              refine goes_ Try.func7 (by kernel_rfl) rfl #[.agg #[.int .i64 a1_0, .int .i64 a1_1, .int .i64 a1_2]] (by rfl) rfl rfl ar_ ?_
              with_reducible refine (laws_toBridge.calls a1_0 a1_1 a1_2 t226 t227 t228 _ A125.out).mono ?_
              rintro e w138 ⟨rfl, hb⟩
              refine ⟨_, rfl, ?_⟩
              have n0_ := Aside0.mk (Kd.R_below (rr_ HO_196001) hb)
              have n1_ := Aside0.mk (Kd.R_below (rr_ HO_201001) hb)
              have n2_ := Aside0.mk (Kd.R_below (rr_ HO_210001) hb)
              have n3_ := Aside0.mk (Kd.R_below (rr_ HO225) hb)
              have n4_ := Aside0.mk (blk_below (g := gb180) (o := .cells #[.int .i64 a0_0, .slice A0_1 l0_1.length c0_1] 24 (0, 0)) (bk_ BK180) hb)
              have n5_ := Aside0.mk (blk_below (g := gb181) (o := .cells #[.int .i64 a1_0, .int .i64 a1_1, .int .i64 a1_2] 26 (0, 0)) (bk_ BK181) hb)
              have n6_ := Aside0.mk (blk_below (g := gb195) (o := .cells #[.int .i64 t190, .slice Ao30 t191.length co30] 30 (0, 0)) (bk_ BK195) hb)
              have n7_ := Aside0.mk (blk_below (g := gb200) (o := .cells #[.int .i64 t196, .slice Ao40 t217.length co40] 30 (0, 0)) (bk_ BK200) hb)
              have n8_ := Aside0.mk (blk_below (g := gb209) (o := .cells #[.int .i64 t204, .slice Ao48 t205.length co48] 30 (0, 0)) (bk_ BK209) hb)
              have n9_ := Aside0.mk (below_step (bl_) hb)
              clear HO_196001
              clear HO_201001
              clear HO_210001
              clear HO225
              clear BK180
              clear BK181
              clear BK195
              clear BK200
              clear BK209
              clear HB
              have HO_196001 := n0_
              have HO_201001 := n1_
              have HO_210001 := n2_
              have HO225 := n3_
              have BK180 := n4_
              have BK181 := n5_
              have BK195 := n6_
              have BK200 := n7_
              have BK209 := n8_
              have HB := n9_
              clear n0_ n1_ n2_ n3_ n4_ n5_ n6_ n7_ n8_ n9_
              (try clear hb)
              (try clear hb2)
              (try clear hk)
              (try clear hi)
              obtain ⟨Ao139, co139, eo139⟩ := Kd.R_slice HO225.out
              (first | subst eo139 | (injection eo139 with f1_ f2_ f3_; have f4_ := f1_.symm; have f5_ := f3_.symm; clear f1_ f2_ f3_; subst f4_; subst f5_))
              refine hK.out _ _ ⟨(blk_cell BK180.out 0).trans rfl, (blk_cell BK180.out 1).trans rfl, (blk_cell BK181.out 0).trans rfl, (blk_cell BK181.out 1).trans rfl, (blk_cell BK181.out 2).trans rfl⟩ (fun hHeld => ?_)
              clear hK K
              refine norm_ (a' := ?_) ?_ ?_
              rotate_left
              ·show Act.put _ (some 83) _ = _
               simp only [Act.put, List.setIfInBounds_toArray, List.set_cons_zero, List.set_cons_succ, i64_w, i32_w]
               rfl
              refine two_ (i := 4) (j := 8) (Ni := some 84) (Nj := some 14) #[true, true, true, true, true, false, false, false, false, false, false] #[true, true, true, true, false, false, false, false, true, false, false] rfl rfl rfl rfl (two_of HT_.out (by kernel_rfl)) (by decide) (by decide) (fun K hK => ?_) (fun K hK => ?_)
              ·skip
               refine goes_ Try.func8 (by kernel_rfl) rfl #[.agg #[.int .i64 t222, .slice Ao139 t223.length co139], .agg #[.int .i64 t226, .int .i64 t227, .int .i64 t228]] (by rfl) rfl rfl ar_ ?_
               with_reducible refine (impl_AddBridge.calls t222 _ _ t223 t226 t227 t228 t229 t230 t233 _ ?side1 ?side2 A126.out).mono ?_
               (case side1 => repeat (first | exact (Kd.R_reads' HO225.out).2.2 | (with_reducible refine Kd.C_alloc ?_ _) | (with_reducible refine Kd.C_drewN ?_ _) | (with_reducible refine Kd.C_drew ?_)))
               (case side2 => exact (Kd.R_reads' HO225.out).2.1)
               rintro e w140 ⟨v231, rfl, ho0, hb⟩
               refine ⟨_, rfl, ?_⟩
               have n0_ := Aside0.mk (Kd.R_elder' (rr_ HO_196001) (Kd.R_base ho0) hb)
               have n1_ := Aside0.mk (Kd.R_elder' (rr_ HO_201001) (Kd.R_base ho0) hb)
               have n2_ := Aside0.mk (Kd.R_elder' (rr_ HO_210001) (Kd.R_base ho0) hb)
               have n3_ := Aside0.mk (Kd.R_elder' (rr_ HO225) (Kd.R_base ho0) hb)
               have n4_ := Aside0.mk (Kd.R_lower (Kd.R_new' (Kd.R_new' (Kd.R_new' (Kd.R_new' ho0 (Kd.R_lt (rr_ HO_196001))) (Kd.R_lt (rr_ HO_201001))) (Kd.R_lt (rr_ HO_210001))) (Kd.R_lt (rr_ HO225))) (below_size (bl_)))
               have n5_ := Aside0.mk (blk_below (g := gb180) (o := .cells #[.int .i64 a0_0, .slice A0_1 l0_1.length c0_1] 24 (0, 0)) (bk_ BK180) hb)
               have n6_ := Aside0.mk (blk_below (g := gb181) (o := .cells #[.int .i64 a1_0, .int .i64 a1_1, .int .i64 a1_2] 26 (0, 0)) (bk_ BK181) hb)
               have n7_ := Aside0.mk (blk_below (g := gb195) (o := .cells #[.int .i64 t190, .slice Ao30 t191.length co30] 30 (0, 0)) (bk_ BK195) hb)
               have n8_ := Aside0.mk (blk_below (g := gb200) (o := .cells #[.int .i64 t196, .slice Ao40 t217.length co40] 30 (0, 0)) (bk_ BK200) hb)
               have n9_ := Aside0.mk (blk_below (g := gb209) (o := .cells #[.int .i64 t204, .slice Ao48 t205.length co48] 30 (0, 0)) (bk_ BK209) hb)
               have n10_ := Aside0.mk (below_step (bl_) hb)
               clear HO_196001
               clear HO_201001
               clear HO_210001
               clear HO225
               clear BK180
               clear BK181
               clear BK195
               clear BK200
               clear BK209
               clear HB
               have HO_196001 := n0_
               have HO_201001 := n1_
               have HO_210001 := n2_
               have HO225 := n3_
               have HO232 := n4_
               have BK180 := n5_
               have BK181 := n6_
               have BK195 := n7_
               have BK200 := n8_
               have BK209 := n9_
               have HB := n10_
               clear n0_ n1_ n2_ n3_ n4_ n5_ n6_ n7_ n8_ n9_ n10_
               (try clear hb)
               (try clear hb2)
               (try clear hk)
               (try clear hi)
               (try clear ho0)
               refine hK.out _ _ ⟨(blk_cell BK180.out 0).trans rfl, (blk_cell BK180.out 1).trans rfl, (blk_cell BK181.out 0).trans rfl, (blk_cell BK181.out 1).trans rfl, (blk_cell BK181.out 2).trans rfl⟩ (fun hHeld => ?_)
               clear hK K
               refine norm_ (a' := ?_) ?_ ?_
               rotate_left
               ·show Act.put _ (some 84) _ = _
                simp only [Act.put, List.setIfInBounds_toArray, List.set_cons_zero, List.set_cons_succ, i64_w, i32_w]
                rfl
               refine pure_ (i := 5) (N := some 79) (v := ?_) (a' := ?_) #[true, true, true, true, true, true, false, false, false, false, false] rfl rfl (any_of HT_.out (by kernel_rfl)) (fun _ _ _ h => h) (Or.inl ⟨by rfl, ?_⟩) ?_ ?_
               rotate_left
               ·intro w'
                go_simp
                with_reducible rfl
               rotate_left
               ·simp only [Act.put, List.setIfInBounds_toArray, List.set_cons_zero, List.set_cons_succ, i64_w, i32_w]
                rfl
               refine pure_ (i := 6) (N := some 85) (v := ?_) (a' := ?_) #[true, true, true, true, true, true, true, false, false, false, false] rfl rfl (any_of HT_.out (by kernel_rfl)) (fun _ _ _ h => h) (Or.inl ⟨by rfl, ?_⟩) ?_ ?_
               rotate_left
               ·intro w'
                go_simp
                with_reducible rfl
               rotate_left
               ·simp only [Act.put, List.setIfInBounds_toArray, List.set_cons_zero, List.set_cons_succ, i64_w, i32_w]
                rfl
               refine pure_ (i := 7) (N := some 86) (v := ?_) (a' := ?_) #[true, true, true, true, true, true, true, true, false, false, false] rfl rfl (any_of HT_.out (by kernel_rfl)) (fun _ _ _ h => h) (Or.inl ⟨by rfl, ?_⟩) ?_ ?_
               rotate_left
               ·intro w'
                go_simp
                with_reducible rfl
               rotate_left
               ·simp only [Act.put, List.setIfInBounds_toArray, List.set_cons_zero, List.set_cons_succ, i64_w, i32_w]
                rfl
               refine one_ (i := 8) (N := some 14) #[true, true, true, true, true, true, true, true, true, false, false] rfl rfl (one_of HT_.out (by kernel_rfl)) (by decide) (fun K hK => ?_)
               refine box_step ?hg (N := 14) ?hd (cs := #[.int .i64 0, .slice none 0 0]) (t := 30) ?hr ?_; (case hd => rfl); (case hg => rfl); (case hr => first | (go_simp; done) | (go_simp; rfl))
               intro gb234 hg w141 hbox hb
               have n0_ := Aside0.mk (Kd.R_below (rr_ HO_196001) hb)
               have n1_ := Aside0.mk (Kd.R_below (rr_ HO_201001) hb)
               have n2_ := Aside0.mk (Kd.R_below (rr_ HO_210001) hb)
               have n3_ := Aside0.mk (Kd.R_below (rr_ HO225) hb)
               have n4_ := Aside0.mk (Kd.R_below (rr_ HO232) hb)
               have n5_ := Aside0.mk (blk_below (g := gb180) (o := .cells #[.int .i64 a0_0, .slice A0_1 l0_1.length c0_1] 24 (0, 0)) (bk_ BK180) hb)
               have n6_ := Aside0.mk (blk_below (g := gb181) (o := .cells #[.int .i64 a1_0, .int .i64 a1_1, .int .i64 a1_2] 26 (0, 0)) (bk_ BK181) hb)
               have n7_ := Aside0.mk (blk_below (g := gb195) (o := .cells #[.int .i64 t190, .slice Ao30 t191.length co30] 30 (0, 0)) (bk_ BK195) hb)
               have n8_ := Aside0.mk (blk_below (g := gb200) (o := .cells #[.int .i64 t196, .slice Ao40 t217.length co40] 30 (0, 0)) (bk_ BK200) hb)
               have n9_ := Aside0.mk (blk_below (g := gb209) (o := .cells #[.int .i64 t204, .slice Ao48 t205.length co48] 30 (0, 0)) (bk_ BK209) hb)
               have n10_ := Aside0.mk (below_step (bl_) hb)
               have n11_ := Aside0.mk (hbox)
               have n12_ := Aside0.mk ((by rw [hg]; exact (below_size (bl_)) : w.heap.size ≤ gb234))
               have n13_ := Aside0.mk ((by rw [hg]; exact (below_size (bl_)) : w.heap.size ≤ gb234))
               have n14_ := Aside0.mk ((by rw [hg]; exact Nat.ne_of_lt (blk_lt (g := gb180) (o := .cells #[.int .i64 a0_0, .slice A0_1 l0_1.length c0_1] 24 (0, 0)) (bk_ BK180)) : gb180 ≠ gb234))
               have n15_ := Aside0.mk ((by rw [hg]; exact Nat.ne_of_gt (blk_lt (g := gb180) (o := .cells #[.int .i64 a0_0, .slice A0_1 l0_1.length c0_1] 24 (0, 0)) (bk_ BK180)) : gb234 ≠ gb180))
               have n16_ := Aside0.mk ((by rw [hg]; exact Nat.ne_of_lt (blk_lt (g := gb181) (o := .cells #[.int .i64 a1_0, .int .i64 a1_1, .int .i64 a1_2] 26 (0, 0)) (bk_ BK181)) : gb181 ≠ gb234))
               have n17_ := Aside0.mk ((by rw [hg]; exact Nat.ne_of_gt (blk_lt (g := gb181) (o := .cells #[.int .i64 a1_0, .int .i64 a1_1, .int .i64 a1_2] 26 (0, 0)) (bk_ BK181)) : gb234 ≠ gb181))
               have n18_ := Aside0.mk ((by rw [hg]; exact Nat.ne_of_lt (blk_lt (g := gb195) (o := .cells #[.int .i64 t190, .slice Ao30 t191.length co30] 30 (0, 0)) (bk_ BK195)) : gb195 ≠ gb234))
               have n19_ := Aside0.mk ((by rw [hg]; exact Nat.ne_of_gt (blk_lt (g := gb195) (o := .cells #[.int .i64 t190, .slice Ao30 t191.length co30] 30 (0, 0)) (bk_ BK195)) : gb234 ≠ gb195))
               have n20_ := Aside0.mk ((by rw [hg]; exact Nat.ne_of_lt (blk_lt (g := gb200) (o := .cells #[.int .i64 t196, .slice Ao40 t217.length co40] 30 (0, 0)) (bk_ BK200)) : gb200 ≠ gb234))
               have n21_ := Aside0.mk ((by rw [hg]; exact Nat.ne_of_gt (blk_lt (g := gb200) (o := .cells #[.int .i64 t196, .slice Ao40 t217.length co40] 30 (0, 0)) (bk_ BK200)) : gb234 ≠ gb200))
               have n22_ := Aside0.mk ((by rw [hg]; exact Nat.ne_of_lt (blk_lt (g := gb209) (o := .cells #[.int .i64 t204, .slice Ao48 t205.length co48] 30 (0, 0)) (bk_ BK209)) : gb209 ≠ gb234))
               have n23_ := Aside0.mk ((by rw [hg]; exact Nat.ne_of_gt (blk_lt (g := gb209) (o := .cells #[.int .i64 t204, .slice Ao48 t205.length co48] 30 (0, 0)) (bk_ BK209)) : gb234 ≠ gb209))
               clear HO_196001
               clear HO_201001
               clear HO_210001
               clear HO225
               clear HO232
               clear BK180
               clear BK181
               clear BK195
               clear BK200
               clear BK209
               clear HB
               have HO_196001 := n0_
               have HO_201001 := n1_
               have HO_210001 := n2_
               have HO225 := n3_
               have HO232 := n4_
               have BK180 := n5_
               have BK181 := n6_
               have BK195 := n7_
               have BK200 := n8_
               have BK209 := n9_
               have HB := n10_
               have BK234 := n11_
               have GW234 := n12_
               have GE234 := n13_
               have NB180_234 := n14_
               have NB234_180 := n15_
               have NB181_234 := n16_
               have NB234_181 := n17_
               have NB195_234 := n18_
               have NB234_195 := n19_
               have NB200_234 := n20_
               have NB234_200 := n21_
               have NB209_234 := n22_
               have NB234_209 := n23_
               clear n0_ n1_ n2_ n3_ n4_ n5_ n6_ n7_ n8_ n9_ n10_ n11_ n12_ n13_ n14_ n15_ n16_ n17_ n18_ n19_ n20_ n21_ n22_ n23_
               clear hb hbox hg
               refine hK.out _ _ ⟨(blk_cell BK180.out 0).trans rfl, (blk_cell BK180.out 1).trans rfl, (blk_cell BK181.out 0).trans rfl, (blk_cell BK181.out 1).trans rfl, (blk_cell BK181.out 2).trans rfl⟩ (fun hHeld => ?_)
               clear hK K
               refine norm_ (a' := ?_) ?_ ?_
               rotate_left
               ·show Act.put _ (some 14) _ = _
                simp only [Act.put, List.setIfInBounds_toArray, List.set_cons_zero, List.set_cons_succ, i64_w, i32_w]
                rfl
               exact norm_ (by simp only [putAll, Act.put, List.setIfInBounds_toArray, List.set_cons_zero, List.set_cons_succ]) (hCont (.slice Ao139 t223.length co139, v231, gb234) _ ⟨hHeld, (by (with_reducible repeat (first | apply Kd.R_alloc | apply Kd.R_drewN | apply Kd.R_drew)); exact Kd.R_mono HO225.out (fun _ hk => ⟨hk.2, ⟨hk.1.1.1.2, ⟨hk.1.1.2, hk.1.2⟩⟩⟩)), (by (with_reducible repeat (first | apply Kd.R_alloc | apply Kd.R_drewN | apply Kd.R_drew)); exact Kd.R_mono HO232.out (fun _ hk => ⟨hk.2, ⟨hk.1.1.1.2, ⟨hk.1.1.2, hk.1.2⟩⟩⟩)), (by (with_reducible repeat (first | apply Kd.R_alloc | apply Kd.R_drewN | apply Kd.R_drew)); exact Kd.R_mono HO_196001.out (fun _ hk => ⟨hk.1.2, ⟨hk.2, ⟨hk.1.1.1, hk.1.1.2⟩⟩⟩)), (by (with_reducible repeat (first | apply Kd.R_alloc | apply Kd.R_drewN | apply Kd.R_drew)); exact Kd.R_mono HO_201001.out (fun _ hk => ⟨hk.1.2, ⟨hk.2, ⟨hk.1.1.1, hk.1.1.2⟩⟩⟩)), (by (with_reducible repeat (first | apply Kd.R_alloc | apply Kd.R_drewN | apply Kd.R_drew)); exact Kd.R_mono HO_210001.out (fun _ hk => ⟨hk.1.2, ⟨hk.2, ⟨hk.1.1.1, hk.1.1.2⟩⟩⟩)), (bk_ BK180), (bk_ BK181), (bk_ BK195), (bk_ BK200), (bk_ BK209), (bk_ BK234), GW234.out, GE234.out, NB180_234.out, NB234_180.out, NB181_234.out, NB234_181.out, NB195_234.out, NB234_195.out, NB200_234.out, NB234_200.out, NB209_234.out, NB234_209.out, (bl_)⟩)
              ·skip
               refine box_step ?hg (N := 14) ?hd (cs := #[.int .i64 0, .slice none 0 0]) (t := 30) ?hr ?_; (case hd => rfl); (case hg => rfl); (case hr => first | (go_simp; done) | (go_simp; rfl))
               intro gb234 hg w139 hbox hb
               have n0_ := Aside0.mk (Kd.R_below (rr_ HO_196001) hb)
               have n1_ := Aside0.mk (Kd.R_below (rr_ HO_201001) hb)
               have n2_ := Aside0.mk (Kd.R_below (rr_ HO_210001) hb)
               have n3_ := Aside0.mk (Kd.R_below (rr_ HO225) hb)
               have n4_ := Aside0.mk (blk_below (g := gb180) (o := .cells #[.int .i64 a0_0, .slice A0_1 l0_1.length c0_1] 24 (0, 0)) (bk_ BK180) hb)
               have n5_ := Aside0.mk (blk_below (g := gb181) (o := .cells #[.int .i64 a1_0, .int .i64 a1_1, .int .i64 a1_2] 26 (0, 0)) (bk_ BK181) hb)
               have n6_ := Aside0.mk (blk_below (g := gb195) (o := .cells #[.int .i64 t190, .slice Ao30 t191.length co30] 30 (0, 0)) (bk_ BK195) hb)
               have n7_ := Aside0.mk (blk_below (g := gb200) (o := .cells #[.int .i64 t196, .slice Ao40 t217.length co40] 30 (0, 0)) (bk_ BK200) hb)
               have n8_ := Aside0.mk (blk_below (g := gb209) (o := .cells #[.int .i64 t204, .slice Ao48 t205.length co48] 30 (0, 0)) (bk_ BK209) hb)
               have n9_ := Aside0.mk (below_step (bl_) hb)
               have n10_ := Aside0.mk (hbox)
               have n11_ := Aside0.mk ((by rw [hg]; exact (below_size (bl_)) : w.heap.size ≤ gb234))
               have n12_ := Aside0.mk ((by rw [hg]; exact (below_size (bl_)) : w.heap.size ≤ gb234))
               have n13_ := Aside0.mk ((by rw [hg]; exact Nat.ne_of_lt (blk_lt (g := gb180) (o := .cells #[.int .i64 a0_0, .slice A0_1 l0_1.length c0_1] 24 (0, 0)) (bk_ BK180)) : gb180 ≠ gb234))
               have n14_ := Aside0.mk ((by rw [hg]; exact Nat.ne_of_gt (blk_lt (g := gb180) (o := .cells #[.int .i64 a0_0, .slice A0_1 l0_1.length c0_1] 24 (0, 0)) (bk_ BK180)) : gb234 ≠ gb180))
               have n15_ := Aside0.mk ((by rw [hg]; exact Nat.ne_of_lt (blk_lt (g := gb181) (o := .cells #[.int .i64 a1_0, .int .i64 a1_1, .int .i64 a1_2] 26 (0, 0)) (bk_ BK181)) : gb181 ≠ gb234))
               have n16_ := Aside0.mk ((by rw [hg]; exact Nat.ne_of_gt (blk_lt (g := gb181) (o := .cells #[.int .i64 a1_0, .int .i64 a1_1, .int .i64 a1_2] 26 (0, 0)) (bk_ BK181)) : gb234 ≠ gb181))
               have n17_ := Aside0.mk ((by rw [hg]; exact Nat.ne_of_lt (blk_lt (g := gb195) (o := .cells #[.int .i64 t190, .slice Ao30 t191.length co30] 30 (0, 0)) (bk_ BK195)) : gb195 ≠ gb234))
               have n18_ := Aside0.mk ((by rw [hg]; exact Nat.ne_of_gt (blk_lt (g := gb195) (o := .cells #[.int .i64 t190, .slice Ao30 t191.length co30] 30 (0, 0)) (bk_ BK195)) : gb234 ≠ gb195))
               have n19_ := Aside0.mk ((by rw [hg]; exact Nat.ne_of_lt (blk_lt (g := gb200) (o := .cells #[.int .i64 t196, .slice Ao40 t217.length co40] 30 (0, 0)) (bk_ BK200)) : gb200 ≠ gb234))
               have n20_ := Aside0.mk ((by rw [hg]; exact Nat.ne_of_gt (blk_lt (g := gb200) (o := .cells #[.int .i64 t196, .slice Ao40 t217.length co40] 30 (0, 0)) (bk_ BK200)) : gb234 ≠ gb200))
               have n21_ := Aside0.mk ((by rw [hg]; exact Nat.ne_of_lt (blk_lt (g := gb209) (o := .cells #[.int .i64 t204, .slice Ao48 t205.length co48] 30 (0, 0)) (bk_ BK209)) : gb209 ≠ gb234))
               have n22_ := Aside0.mk ((by rw [hg]; exact Nat.ne_of_gt (blk_lt (g := gb209) (o := .cells #[.int .i64 t204, .slice Ao48 t205.length co48] 30 (0, 0)) (bk_ BK209)) : gb234 ≠ gb209))
               clear HO_196001
               clear HO_201001
               clear HO_210001
               clear HO225
               clear BK180
               clear BK181
               clear BK195
               clear BK200
               clear BK209
               clear HB
               have HO_196001 := n0_
               have HO_201001 := n1_
               have HO_210001 := n2_
               have HO225 := n3_
               have BK180 := n4_
               have BK181 := n5_
               have BK195 := n6_
               have BK200 := n7_
               have BK209 := n8_
               have HB := n9_
               have BK234 := n10_
               have GW234 := n11_
               have GE234 := n12_
               have NB180_234 := n13_
               have NB234_180 := n14_
               have NB181_234 := n15_
               have NB234_181 := n16_
               have NB195_234 := n17_
               have NB234_195 := n18_
               have NB200_234 := n19_
               have NB234_200 := n20_
               have NB209_234 := n21_
               have NB234_209 := n22_
               clear n0_ n1_ n2_ n3_ n4_ n5_ n6_ n7_ n8_ n9_ n10_ n11_ n12_ n13_ n14_ n15_ n16_ n17_ n18_ n19_ n20_ n21_ n22_
               clear hb hbox hg
               obtain ⟨Ao140, co140, eo140⟩ := Kd.R_slice HO225.out
               (first | subst eo140 | (injection eo140 with f1_ f2_ f3_; have f4_ := f1_.symm; have f5_ := f3_.symm; clear f1_ f2_ f3_; subst f4_; subst f5_))
               refine hK.out _ _ ⟨(blk_cell BK180.out 0).trans rfl, (blk_cell BK180.out 1).trans rfl, (blk_cell BK181.out 0).trans rfl, (blk_cell BK181.out 1).trans rfl, (blk_cell BK181.out 2).trans rfl⟩ (fun hHeld => ?_)
               clear hK K
               refine norm_ (a' := ?_) ?_ ?_
               rotate_left
               ·show Act.put _ (some 14) _ = _
                simp only [Act.put, List.setIfInBounds_toArray, List.set_cons_zero, List.set_cons_succ, i64_w, i32_w]
                rfl
               refine one_ (i := 4) (N := some 84) #[true, true, true, true, true, false, false, false, true, false, false] rfl rfl (one_of HT_.out (by kernel_rfl)) (by decide) (fun K hK => ?_)
               refine goes_ Try.func8 (by kernel_rfl) rfl #[.agg #[.int .i64 t222, .slice Ao140 t223.length co140], .agg #[.int .i64 t226, .int .i64 t227, .int .i64 t228]] (by rfl) rfl rfl ar_ ?_
               with_reducible refine (impl_AddBridge.calls t222 _ _ t223 t226 t227 t228 t229 t230 t233 _ ?side1 ?side2 A126.out).mono ?_
               (case side1 => repeat (first | exact (Kd.R_reads' HO225.out).2.2 | (with_reducible refine Kd.C_alloc ?_ _) | (with_reducible refine Kd.C_drewN ?_ _) | (with_reducible refine Kd.C_drew ?_)))
               (case side2 => exact (Kd.R_reads' HO225.out).2.1)
               rintro e w141 ⟨v231, rfl, ho0, hb⟩
               refine ⟨_, rfl, ?_⟩
               have n0_ := Aside0.mk (Kd.R_elder' (rr_ HO_196001) (Kd.R_base ho0) hb)
               have n1_ := Aside0.mk (Kd.R_elder' (rr_ HO_201001) (Kd.R_base ho0) hb)
               have n2_ := Aside0.mk (Kd.R_elder' (rr_ HO_210001) (Kd.R_base ho0) hb)
               have n3_ := Aside0.mk (Kd.R_elder' (rr_ HO225) (Kd.R_base ho0) hb)
               have n4_ := Aside0.mk (Kd.R_lower (Kd.R_new' (Kd.R_new' (Kd.R_new' (Kd.R_new' ho0 (Kd.R_lt (rr_ HO_196001))) (Kd.R_lt (rr_ HO_201001))) (Kd.R_lt (rr_ HO_210001))) (Kd.R_lt (rr_ HO225))) (below_size (bl_)))
               have n5_ := Aside0.mk (blk_below (g := gb180) (o := .cells #[.int .i64 a0_0, .slice A0_1 l0_1.length c0_1] 24 (0, 0)) (bk_ BK180) hb)
               have n6_ := Aside0.mk (blk_below (g := gb181) (o := .cells #[.int .i64 a1_0, .int .i64 a1_1, .int .i64 a1_2] 26 (0, 0)) (bk_ BK181) hb)
               have n7_ := Aside0.mk (blk_below (g := gb195) (o := .cells #[.int .i64 t190, .slice Ao30 t191.length co30] 30 (0, 0)) (bk_ BK195) hb)
               have n8_ := Aside0.mk (blk_below (g := gb200) (o := .cells #[.int .i64 t196, .slice Ao40 t217.length co40] 30 (0, 0)) (bk_ BK200) hb)
               have n9_ := Aside0.mk (blk_below (g := gb209) (o := .cells #[.int .i64 t204, .slice Ao48 t205.length co48] 30 (0, 0)) (bk_ BK209) hb)
               have n10_ := Aside0.mk (blk_below (g := gb234) (o := .cells #[.int .i64 0, .slice none 0 0] 30 (0, 0)) (bk_ BK234) hb)
               have n11_ := Aside0.mk (below_step (bl_) hb)
               clear HO_196001
               clear HO_201001
               clear HO_210001
               clear HO225
               clear BK180
               clear BK181
               clear BK195
               clear BK200
               clear BK209
               clear BK234
               clear HB
               have HO_196001 := n0_
               have HO_201001 := n1_
               have HO_210001 := n2_
               have HO225 := n3_
               have HO232 := n4_
               have BK180 := n5_
               have BK181 := n6_
               have BK195 := n7_
               have BK200 := n8_
               have BK209 := n9_
               have BK234 := n10_
               have HB := n11_
               clear n0_ n1_ n2_ n3_ n4_ n5_ n6_ n7_ n8_ n9_ n10_ n11_
               (try clear hb)
               (try clear hb2)
               (try clear hk)
               (try clear hi)
               (try clear ho0)
               refine hK.out _ _ ⟨(blk_cell BK180.out 0).trans rfl, (blk_cell BK180.out 1).trans rfl, (blk_cell BK181.out 0).trans rfl, (blk_cell BK181.out 1).trans rfl, (blk_cell BK181.out 2).trans rfl⟩ (fun hHeld => ?_)
               clear hK K
               refine norm_ (a' := ?_) ?_ ?_
               rotate_left
               ·show Act.put _ (some 84) _ = _
                simp only [Act.put, List.setIfInBounds_toArray, List.set_cons_zero, List.set_cons_succ, i64_w, i32_w]
                rfl
               refine pure_ (i := 5) (N := some 79) (v := ?_) (a' := ?_) #[true, true, true, true, true, true, false, false, true, false, false] rfl rfl (any_of HT_.out (by kernel_rfl)) (fun _ _ _ h => h) (Or.inl ⟨by rfl, ?_⟩) ?_ ?_
               rotate_left
               ·intro w'
                go_simp
                with_reducible rfl
               rotate_left
               ·simp only [Act.put, List.setIfInBounds_toArray, List.set_cons_zero, List.set_cons_succ, i64_w, i32_w]
                rfl
               refine pure_ (i := 6) (N := some 85) (v := ?_) (a' := ?_) #[true, true, true, true, true, true, true, false, true, false, false] rfl rfl (any_of HT_.out (by kernel_rfl)) (fun _ _ _ h => h) (Or.inl ⟨by rfl, ?_⟩) ?_ ?_
               rotate_left
               ·intro w'
                go_simp
                with_reducible rfl
               rotate_left
               ·simp only [Act.put, List.setIfInBounds_toArray, List.set_cons_zero, List.set_cons_succ, i64_w, i32_w]
                rfl
               refine pure_ (i := 7) (N := some 86) (v := ?_) (a' := ?_) #[true, true, true, true, true, true, true, true, true, false, false] rfl rfl (any_of HT_.out (by kernel_rfl)) (fun _ _ _ h => h) (Or.inl ⟨by rfl, ?_⟩) ?_ ?_
               rotate_left
               ·intro w'
                go_simp
                with_reducible rfl
               rotate_left
               ·simp only [Act.put, List.setIfInBounds_toArray, List.set_cons_zero, List.set_cons_succ, i64_w, i32_w]
                rfl
               exact norm_ (by simp only [putAll, Act.put, List.setIfInBounds_toArray, List.set_cons_zero, List.set_cons_succ]) (hCont (.slice Ao140 t223.length co140, v231, gb234) _ ⟨hHeld, (by (with_reducible repeat (first | apply Kd.R_alloc | apply Kd.R_drewN | apply Kd.R_drew)); exact Kd.R_mono HO225.out (fun _ hk => ⟨hk.2, ⟨hk.1.1.1.2, ⟨hk.1.1.2, hk.1.2⟩⟩⟩)), (by (with_reducible repeat (first | apply Kd.R_alloc | apply Kd.R_drewN | apply Kd.R_drew)); exact Kd.R_mono HO232.out (fun _ hk => ⟨hk.2, ⟨hk.1.1.1.2, ⟨hk.1.1.2, hk.1.2⟩⟩⟩)), (by (with_reducible repeat (first | apply Kd.R_alloc | apply Kd.R_drewN | apply Kd.R_drew)); exact Kd.R_mono HO_196001.out (fun _ hk => ⟨hk.1.2, ⟨hk.2, ⟨hk.1.1.1, hk.1.1.2⟩⟩⟩)), (by (with_reducible repeat (first | apply Kd.R_alloc | apply Kd.R_drewN | apply Kd.R_drew)); exact Kd.R_mono HO_201001.out (fun _ hk => ⟨hk.1.2, ⟨hk.2, ⟨hk.1.1.1, hk.1.1.2⟩⟩⟩)), (by (with_reducible repeat (first | apply Kd.R_alloc | apply Kd.R_drewN | apply Kd.R_drew)); exact Kd.R_mono HO_210001.out (fun _ hk => ⟨hk.1.2, ⟨hk.2, ⟨hk.1.1.1, hk.1.1.2⟩⟩⟩)), (bk_ BK180), (bk_ BK181), (bk_ BK195), (bk_ BK200), (bk_ BK209), (bk_ BK234), GW234.out, GE234.out, NB180_234.out, NB234_180.out, NB181_234.out, NB234_181.out, NB195_234.out, NB234_195.out, NB200_234.out, NB234_200.out, NB209_234.out, NB234_209.out, (bl_)⟩)
             ·skip
              refine box_step ?hg (N := 14) ?hd (cs := #[.int .i64 0, .slice none 0 0]) (t := 30) ?hr ?_; (case hd => rfl); (case hg => rfl); (case hr => first | (go_simp; done) | (go_simp; rfl))
              intro gb234 hg w138 hbox hb
              have n0_ := Aside0.mk (Kd.R_below (rr_ HO_196001) hb)
              have n1_ := Aside0.mk (Kd.R_below (rr_ HO_201001) hb)
              have n2_ := Aside0.mk (Kd.R_below (rr_ HO_210001) hb)
              have n3_ := Aside0.mk (Kd.R_below (rr_ HO225) hb)
              have n4_ := Aside0.mk (blk_below (g := gb180) (o := .cells #[.int .i64 a0_0, .slice A0_1 l0_1.length c0_1] 24 (0, 0)) (bk_ BK180) hb)
              have n5_ := Aside0.mk (blk_below (g := gb181) (o := .cells #[.int .i64 a1_0, .int .i64 a1_1, .int .i64 a1_2] 26 (0, 0)) (bk_ BK181) hb)
              have n6_ := Aside0.mk (blk_below (g := gb195) (o := .cells #[.int .i64 t190, .slice Ao30 t191.length co30] 30 (0, 0)) (bk_ BK195) hb)
              have n7_ := Aside0.mk (blk_below (g := gb200) (o := .cells #[.int .i64 t196, .slice Ao40 t217.length co40] 30 (0, 0)) (bk_ BK200) hb)
              have n8_ := Aside0.mk (blk_below (g := gb209) (o := .cells #[.int .i64 t204, .slice Ao48 t205.length co48] 30 (0, 0)) (bk_ BK209) hb)
              have n9_ := Aside0.mk (below_step (bl_) hb)
              have n10_ := Aside0.mk (hbox)
              have n11_ := Aside0.mk ((by rw [hg]; exact (below_size (bl_)) : w.heap.size ≤ gb234))
              have n12_ := Aside0.mk ((by rw [hg]; exact (below_size (bl_)) : w.heap.size ≤ gb234))
              have n13_ := Aside0.mk ((by rw [hg]; exact Nat.ne_of_lt (blk_lt (g := gb180) (o := .cells #[.int .i64 a0_0, .slice A0_1 l0_1.length c0_1] 24 (0, 0)) (bk_ BK180)) : gb180 ≠ gb234))
              have n14_ := Aside0.mk ((by rw [hg]; exact Nat.ne_of_gt (blk_lt (g := gb180) (o := .cells #[.int .i64 a0_0, .slice A0_1 l0_1.length c0_1] 24 (0, 0)) (bk_ BK180)) : gb234 ≠ gb180))
              have n15_ := Aside0.mk ((by rw [hg]; exact Nat.ne_of_lt (blk_lt (g := gb181) (o := .cells #[.int .i64 a1_0, .int .i64 a1_1, .int .i64 a1_2] 26 (0, 0)) (bk_ BK181)) : gb181 ≠ gb234))
              have n16_ := Aside0.mk ((by rw [hg]; exact Nat.ne_of_gt (blk_lt (g := gb181) (o := .cells #[.int .i64 a1_0, .int .i64 a1_1, .int .i64 a1_2] 26 (0, 0)) (bk_ BK181)) : gb234 ≠ gb181))
              have n17_ := Aside0.mk ((by rw [hg]; exact Nat.ne_of_lt (blk_lt (g := gb195) (o := .cells #[.int .i64 t190, .slice Ao30 t191.length co30] 30 (0, 0)) (bk_ BK195)) : gb195 ≠ gb234))
              have n18_ := Aside0.mk ((by rw [hg]; exact Nat.ne_of_gt (blk_lt (g := gb195) (o := .cells #[.int .i64 t190, .slice Ao30 t191.length co30] 30 (0, 0)) (bk_ BK195)) : gb234 ≠ gb195))
              have n19_ := Aside0.mk ((by rw [hg]; exact Nat.ne_of_lt (blk_lt (g := gb200) (o := .cells #[.int .i64 t196, .slice Ao40 t217.length co40] 30 (0, 0)) (bk_ BK200)) : gb200 ≠ gb234))
              have n20_ := Aside0.mk ((by rw [hg]; exact Nat.ne_of_gt (blk_lt (g := gb200) (o := .cells #[.int .i64 t196, .slice Ao40 t217.length co40] 30 (0, 0)) (bk_ BK200)) : gb234 ≠ gb200))
              have n21_ := Aside0.mk ((by rw [hg]; exact Nat.ne_of_lt (blk_lt (g := gb209) (o := .cells #[.int .i64 t204, .slice Ao48 t205.length co48] 30 (0, 0)) (bk_ BK209)) : gb209 ≠ gb234))
              have n22_ := Aside0.mk ((by rw [hg]; exact Nat.ne_of_gt (blk_lt (g := gb209) (o := .cells #[.int .i64 t204, .slice Ao48 t205.length co48] 30 (0, 0)) (bk_ BK209)) : gb234 ≠ gb209))
              clear HO_196001
              clear HO_201001
              clear HO_210001
              clear HO225
              clear BK180
              clear BK181
              clear BK195
              clear BK200
              clear BK209
              clear HB
              have HO_196001 := n0_
              have HO_201001 := n1_
              have HO_210001 := n2_
              have HO225 := n3_
              have BK180 := n4_
              have BK181 := n5_
              have BK195 := n6_
              have BK200 := n7_
              have BK209 := n8_
              have HB := n9_
              have BK234 := n10_
              have GW234 := n11_
              have GE234 := n12_
              have NB180_234 := n13_
              have NB234_180 := n14_
              have NB181_234 := n15_
              have NB234_181 := n16_
              have NB195_234 := n17_
              have NB234_195 := n18_
              have NB200_234 := n19_
              have NB234_200 := n20_
              have NB209_234 := n21_
              have NB234_209 := n22_
              clear n0_ n1_ n2_ n3_ n4_ n5_ n6_ n7_ n8_ n9_ n10_ n11_ n12_ n13_ n14_ n15_ n16_ n17_ n18_ n19_ n20_ n21_ n22_
              clear hb hbox hg
              refine hK.out _ _ ⟨(blk_cell BK180.out 0).trans rfl, (blk_cell BK180.out 1).trans rfl, (blk_cell BK181.out 0).trans rfl, (blk_cell BK181.out 1).trans rfl, (blk_cell BK181.out 2).trans rfl⟩ (fun hHeld => ?_)
              clear hK K
              refine norm_ (a' := ?_) ?_ ?_
              rotate_left
              ·show Act.put _ (some 14) _ = _
               simp only [Act.put, List.setIfInBounds_toArray, List.set_cons_zero, List.set_cons_succ, i64_w, i32_w]
               rfl
              refine one_ (i := 3) (N := some 83) #[true, true, true, true, false, false, false, false, true, false, false] rfl rfl (one_of HT_.out (by kernel_rfl)) (by decide) (fun K hK => ?_)
              refine goes_ Try.func7 (by kernel_rfl) rfl #[.agg #[.int .i64 a1_0, .int .i64 a1_1, .int .i64 a1_2]] (by rfl) rfl rfl ar_ ?_
              with_reducible refine (laws_toBridge.calls a1_0 a1_1 a1_2 t226 t227 t228 _ A125.out).mono ?_
              rintro e w139 ⟨rfl, hb⟩
              refine ⟨_, rfl, ?_⟩
              have n0_ := Aside0.mk (Kd.R_below (rr_ HO_196001) hb)
              have n1_ := Aside0.mk (Kd.R_below (rr_ HO_201001) hb)
              have n2_ := Aside0.mk (Kd.R_below (rr_ HO_210001) hb)
              have n3_ := Aside0.mk (Kd.R_below (rr_ HO225) hb)
              have n4_ := Aside0.mk (blk_below (g := gb180) (o := .cells #[.int .i64 a0_0, .slice A0_1 l0_1.length c0_1] 24 (0, 0)) (bk_ BK180) hb)
              have n5_ := Aside0.mk (blk_below (g := gb181) (o := .cells #[.int .i64 a1_0, .int .i64 a1_1, .int .i64 a1_2] 26 (0, 0)) (bk_ BK181) hb)
              have n6_ := Aside0.mk (blk_below (g := gb195) (o := .cells #[.int .i64 t190, .slice Ao30 t191.length co30] 30 (0, 0)) (bk_ BK195) hb)
              have n7_ := Aside0.mk (blk_below (g := gb200) (o := .cells #[.int .i64 t196, .slice Ao40 t217.length co40] 30 (0, 0)) (bk_ BK200) hb)
              have n8_ := Aside0.mk (blk_below (g := gb209) (o := .cells #[.int .i64 t204, .slice Ao48 t205.length co48] 30 (0, 0)) (bk_ BK209) hb)
              have n9_ := Aside0.mk (blk_below (g := gb234) (o := .cells #[.int .i64 0, .slice none 0 0] 30 (0, 0)) (bk_ BK234) hb)
              have n10_ := Aside0.mk (below_step (bl_) hb)
              clear HO_196001
              clear HO_201001
              clear HO_210001
              clear HO225
              clear BK180
              clear BK181
              clear BK195
              clear BK200
              clear BK209
              clear BK234
              clear HB
              have HO_196001 := n0_
              have HO_201001 := n1_
              have HO_210001 := n2_
              have HO225 := n3_
              have BK180 := n4_
              have BK181 := n5_
              have BK195 := n6_
              have BK200 := n7_
              have BK209 := n8_
              have BK234 := n9_
              have HB := n10_
              clear n0_ n1_ n2_ n3_ n4_ n5_ n6_ n7_ n8_ n9_ n10_
              (try clear hb)
              (try clear hb2)
              (try clear hk)
              (try clear hi)
              obtain ⟨Ao140, co140, eo140⟩ := Kd.R_slice HO225.out
              (first | subst eo140 | (injection eo140 with f1_ f2_ f3_; have f4_ := f1_.symm; have f5_ := f3_.symm; clear f1_ f2_ f3_; subst f4_; subst f5_))
              refine hK.out _ _ ⟨(blk_cell BK180.out 0).trans rfl, (blk_cell BK180.out 1).trans rfl, (blk_cell BK181.out 0).trans rfl, (blk_cell BK181.out 1).trans rfl, (blk_cell BK181.out 2).trans rfl⟩ (fun hHeld => ?_)
              clear hK K
              refine norm_ (a' := ?_) ?_ ?_
              rotate_left
              ·show Act.put _ (some 83) _ = _
               simp only [Act.put, List.setIfInBounds_toArray, List.set_cons_zero, List.set_cons_succ, i64_w, i32_w]
               rfl
              refine one_ (i := 4) (N := some 84) #[true, true, true, true, true, false, false, false, true, false, false] rfl rfl (one_of HT_.out (by kernel_rfl)) (by decide) (fun K hK => ?_)
              refine goes_ Try.func8 (by kernel_rfl) rfl #[.agg #[.int .i64 t222, .slice Ao140 t223.length co140], .agg #[.int .i64 t226, .int .i64 t227, .int .i64 t228]] (by rfl) rfl rfl ar_ ?_
              with_reducible refine (impl_AddBridge.calls t222 _ _ t223 t226 t227 t228 t229 t230 t233 _ ?side1 ?side2 A126.out).mono ?_
              (case side1 => repeat (first | exact (Kd.R_reads' HO225.out).2.2 | (with_reducible refine Kd.C_alloc ?_ _) | (with_reducible refine Kd.C_drewN ?_ _) | (with_reducible refine Kd.C_drew ?_)))
              (case side2 => exact (Kd.R_reads' HO225.out).2.1)
              rintro e w141 ⟨v231, rfl, ho0, hb⟩
              refine ⟨_, rfl, ?_⟩
              have n0_ := Aside0.mk (Kd.R_elder' (rr_ HO_196001) (Kd.R_base ho0) hb)
              have n1_ := Aside0.mk (Kd.R_elder' (rr_ HO_201001) (Kd.R_base ho0) hb)
              have n2_ := Aside0.mk (Kd.R_elder' (rr_ HO_210001) (Kd.R_base ho0) hb)
              have n3_ := Aside0.mk (Kd.R_elder' (rr_ HO225) (Kd.R_base ho0) hb)
              have n4_ := Aside0.mk (Kd.R_lower (Kd.R_new' (Kd.R_new' (Kd.R_new' (Kd.R_new' ho0 (Kd.R_lt (rr_ HO_196001))) (Kd.R_lt (rr_ HO_201001))) (Kd.R_lt (rr_ HO_210001))) (Kd.R_lt (rr_ HO225))) (below_size (bl_)))
              have n5_ := Aside0.mk (blk_below (g := gb180) (o := .cells #[.int .i64 a0_0, .slice A0_1 l0_1.length c0_1] 24 (0, 0)) (bk_ BK180) hb)
              have n6_ := Aside0.mk (blk_below (g := gb181) (o := .cells #[.int .i64 a1_0, .int .i64 a1_1, .int .i64 a1_2] 26 (0, 0)) (bk_ BK181) hb)
              have n7_ := Aside0.mk (blk_below (g := gb195) (o := .cells #[.int .i64 t190, .slice Ao30 t191.length co30] 30 (0, 0)) (bk_ BK195) hb)
              have n8_ := Aside0.mk (blk_below (g := gb200) (o := .cells #[.int .i64 t196, .slice Ao40 t217.length co40] 30 (0, 0)) (bk_ BK200) hb)
              have n9_ := Aside0.mk (blk_below (g := gb209) (o := .cells #[.int .i64 t204, .slice Ao48 t205.length co48] 30 (0, 0)) (bk_ BK209) hb)
              have n10_ := Aside0.mk (blk_below (g := gb234) (o := .cells #[.int .i64 0, .slice none 0 0] 30 (0, 0)) (bk_ BK234) hb)
              have n11_ := Aside0.mk (below_step (bl_) hb)
              clear HO_196001
              clear HO_201001
              clear HO_210001
              clear HO225
              clear BK180
              clear BK181
              clear BK195
              clear BK200
              clear BK209
              clear BK234
              clear HB
              have HO_196001 := n0_
              have HO_201001 := n1_
              have HO_210001 := n2_
              have HO225 := n3_
              have HO232 := n4_
              have BK180 := n5_
              have BK181 := n6_
              have BK195 := n7_
              have BK200 := n8_
              have BK209 := n9_
              have BK234 := n10_
              have HB := n11_
              clear n0_ n1_ n2_ n3_ n4_ n5_ n6_ n7_ n8_ n9_ n10_ n11_
              (try clear hb)
              (try clear hb2)
              (try clear hk)
              (try clear hi)
              (try clear ho0)
              refine hK.out _ _ ⟨(blk_cell BK180.out 0).trans rfl, (blk_cell BK180.out 1).trans rfl, (blk_cell BK181.out 0).trans rfl, (blk_cell BK181.out 1).trans rfl, (blk_cell BK181.out 2).trans rfl⟩ (fun hHeld => ?_)
              clear hK K
              refine norm_ (a' := ?_) ?_ ?_
              rotate_left
              ·show Act.put _ (some 84) _ = _
               simp only [Act.put, List.setIfInBounds_toArray, List.set_cons_zero, List.set_cons_succ, i64_w, i32_w]
               rfl
              refine pure_ (i := 5) (N := some 79) (v := ?_) (a' := ?_) #[true, true, true, true, true, true, false, false, true, false, false] rfl rfl (any_of HT_.out (by kernel_rfl)) (fun _ _ _ h => h) (Or.inl ⟨by rfl, ?_⟩) ?_ ?_
              rotate_left
              ·intro w'
               go_simp
               with_reducible rfl
              rotate_left
              ·simp only [Act.put, List.setIfInBounds_toArray, List.set_cons_zero, List.set_cons_succ, i64_w, i32_w]
               rfl
              refine pure_ (i := 6) (N := some 85) (v := ?_) (a' := ?_) #[true, true, true, true, true, true, true, false, true, false, false] rfl rfl (any_of HT_.out (by kernel_rfl)) (fun _ _ _ h => h) (Or.inl ⟨by rfl, ?_⟩) ?_ ?_
              rotate_left
              ·intro w'
               go_simp
               with_reducible rfl
              rotate_left
              ·simp only [Act.put, List.setIfInBounds_toArray, List.set_cons_zero, List.set_cons_succ, i64_w, i32_w]
               rfl
              refine pure_ (i := 7) (N := some 86) (v := ?_) (a' := ?_) #[true, true, true, true, true, true, true, true, true, false, false] rfl rfl (any_of HT_.out (by kernel_rfl)) (fun _ _ _ h => h) (Or.inl ⟨by rfl, ?_⟩) ?_ ?_
              rotate_left
              ·intro w'
               go_simp
               with_reducible rfl
              rotate_left
              ·simp only [Act.put, List.setIfInBounds_toArray, List.set_cons_zero, List.set_cons_succ, i64_w, i32_w]
               rfl
              exact norm_ (by simp only [putAll, Act.put, List.setIfInBounds_toArray, List.set_cons_zero, List.set_cons_succ]) (hCont (.slice Ao140 t223.length co140, v231, gb234) _ ⟨hHeld, (by (with_reducible repeat (first | apply Kd.R_alloc | apply Kd.R_drewN | apply Kd.R_drew)); exact Kd.R_mono HO225.out (fun _ hk => ⟨hk.2, ⟨hk.1.1.1.2, ⟨hk.1.1.2, hk.1.2⟩⟩⟩)), (by (with_reducible repeat (first | apply Kd.R_alloc | apply Kd.R_drewN | apply Kd.R_drew)); exact Kd.R_mono HO232.out (fun _ hk => ⟨hk.2, ⟨hk.1.1.1.2, ⟨hk.1.1.2, hk.1.2⟩⟩⟩)), (by (with_reducible repeat (first | apply Kd.R_alloc | apply Kd.R_drewN | apply Kd.R_drew)); exact Kd.R_mono HO_196001.out (fun _ hk => ⟨hk.1.2, ⟨hk.2, ⟨hk.1.1.1, hk.1.1.2⟩⟩⟩)), (by (with_reducible repeat (first | apply Kd.R_alloc | apply Kd.R_drewN | apply Kd.R_drew)); exact Kd.R_mono HO_201001.out (fun _ hk => ⟨hk.1.2, ⟨hk.2, ⟨hk.1.1.1, hk.1.1.2⟩⟩⟩)), (by (with_reducible repeat (first | apply Kd.R_alloc | apply Kd.R_drewN | apply Kd.R_drew)); exact Kd.R_mono HO_210001.out (fun _ hk => ⟨hk.1.2, ⟨hk.2, ⟨hk.1.1.1, hk.1.1.2⟩⟩⟩)), (bk_ BK180), (bk_ BK181), (bk_ BK195), (bk_ BK200), (bk_ BK209), (bk_ BK234), GW234.out, GE234.out, NB180_234.out, NB234_180.out, NB181_234.out, NB234_181.out, NB195_234.out, NB234_195.out, NB200_234.out, NB234_200.out, NB209_234.out, NB234_209.out, (bl_)⟩)
            ·skip
             refine box_step ?hg (N := 14) ?hd (cs := #[.int .i64 0, .slice none 0 0]) (t := 30) ?hr ?_; (case hd => rfl); (case hg => rfl); (case hr => first | (go_simp; done) | (go_simp; rfl))
             intro gb234 hg w137 hbox hb
             have n0_ := Aside0.mk (Kd.R_below (rr_ HO_196001) hb)
             have n1_ := Aside0.mk (Kd.R_below (rr_ HO_201001) hb)
             have n2_ := Aside0.mk (Kd.R_below (rr_ HO_210001) hb)
             have n3_ := Aside0.mk (blk_below (g := gb180) (o := .cells #[.int .i64 a0_0, .slice A0_1 l0_1.length c0_1] 24 (0, 0)) (bk_ BK180) hb)
             have n4_ := Aside0.mk (blk_below (g := gb181) (o := .cells #[.int .i64 a1_0, .int .i64 a1_1, .int .i64 a1_2] 26 (0, 0)) (bk_ BK181) hb)
             have n5_ := Aside0.mk (blk_below (g := gb195) (o := .cells #[.int .i64 t190, .slice Ao30 t191.length co30] 30 (0, 0)) (bk_ BK195) hb)
             have n6_ := Aside0.mk (blk_below (g := gb200) (o := .cells #[.int .i64 t196, .slice Ao40 t217.length co40] 30 (0, 0)) (bk_ BK200) hb)
             have n7_ := Aside0.mk (blk_below (g := gb209) (o := .cells #[.int .i64 t204, .slice Ao48 t205.length co48] 30 (0, 0)) (bk_ BK209) hb)
             have n8_ := Aside0.mk (below_step (bl_) hb)
             have n9_ := Aside0.mk (hbox)
             have n10_ := Aside0.mk ((by rw [hg]; exact (below_size (bl_)) : w.heap.size ≤ gb234))
             have n11_ := Aside0.mk ((by rw [hg]; exact (below_size (bl_)) : w.heap.size ≤ gb234))
             have n12_ := Aside0.mk ((by rw [hg]; exact Nat.ne_of_lt (blk_lt (g := gb180) (o := .cells #[.int .i64 a0_0, .slice A0_1 l0_1.length c0_1] 24 (0, 0)) (bk_ BK180)) : gb180 ≠ gb234))
             have n13_ := Aside0.mk ((by rw [hg]; exact Nat.ne_of_gt (blk_lt (g := gb180) (o := .cells #[.int .i64 a0_0, .slice A0_1 l0_1.length c0_1] 24 (0, 0)) (bk_ BK180)) : gb234 ≠ gb180))
             have n14_ := Aside0.mk ((by rw [hg]; exact Nat.ne_of_lt (blk_lt (g := gb181) (o := .cells #[.int .i64 a1_0, .int .i64 a1_1, .int .i64 a1_2] 26 (0, 0)) (bk_ BK181)) : gb181 ≠ gb234))
             have n15_ := Aside0.mk ((by rw [hg]; exact Nat.ne_of_gt (blk_lt (g := gb181) (o := .cells #[.int .i64 a1_0, .int .i64 a1_1, .int .i64 a1_2] 26 (0, 0)) (bk_ BK181)) : gb234 ≠ gb181))
             have n16_ := Aside0.mk ((by rw [hg]; exact Nat.ne_of_lt (blk_lt (g := gb195) (o := .cells #[.int .i64 t190, .slice Ao30 t191.length co30] 30 (0, 0)) (bk_ BK195)) : gb195 ≠ gb234))
             have n17_ := Aside0.mk ((by rw [hg]; exact Nat.ne_of_gt (blk_lt (g := gb195) (o := .cells #[.int .i64 t190, .slice Ao30 t191.length co30] 30 (0, 0)) (bk_ BK195)) : gb234 ≠ gb195))
             have n18_ := Aside0.mk ((by rw [hg]; exact Nat.ne_of_lt (blk_lt (g := gb200) (o := .cells #[.int .i64 t196, .slice Ao40 t217.length co40] 30 (0, 0)) (bk_ BK200)) : gb200 ≠ gb234))
             have n19_ := Aside0.mk ((by rw [hg]; exact Nat.ne_of_gt (blk_lt (g := gb200) (o := .cells #[.int .i64 t196, .slice Ao40 t217.length co40] 30 (0, 0)) (bk_ BK200)) : gb234 ≠ gb200))
             have n20_ := Aside0.mk ((by rw [hg]; exact Nat.ne_of_lt (blk_lt (g := gb209) (o := .cells #[.int .i64 t204, .slice Ao48 t205.length co48] 30 (0, 0)) (bk_ BK209)) : gb209 ≠ gb234))
             have n21_ := Aside0.mk ((by rw [hg]; exact Nat.ne_of_gt (blk_lt (g := gb209) (o := .cells #[.int .i64 t204, .slice Ao48 t205.length co48] 30 (0, 0)) (bk_ BK209)) : gb234 ≠ gb209))
             clear HO_196001
             clear HO_201001
             clear HO_210001
             clear BK180
             clear BK181
             clear BK195
             clear BK200
             clear BK209
             clear HB
             have HO_196001 := n0_
             have HO_201001 := n1_
             have HO_210001 := n2_
             have BK180 := n3_
             have BK181 := n4_
             have BK195 := n5_
             have BK200 := n6_
             have BK209 := n7_
             have HB := n8_
             have BK234 := n9_
             have GW234 := n10_
             have GE234 := n11_
             have NB180_234 := n12_
             have NB234_180 := n13_
             have NB181_234 := n14_
             have NB234_181 := n15_
             have NB195_234 := n16_
             have NB234_195 := n17_
             have NB200_234 := n18_
             have NB234_200 := n19_
             have NB209_234 := n20_
             have NB234_209 := n21_
             clear n0_ n1_ n2_ n3_ n4_ n5_ n6_ n7_ n8_ n9_ n10_ n11_ n12_ n13_ n14_ n15_ n16_ n17_ n18_ n19_ n20_ n21_
             clear hb hbox hg
             refine hK.out _ _ ⟨(blk_cell BK180.out 0).trans rfl, (blk_cell BK180.out 1).trans rfl, (blk_cell BK181.out 0).trans rfl, (blk_cell BK181.out 1).trans rfl, (blk_cell BK181.out 2).trans rfl⟩ (fun hHeld => ?_)
             clear hK K
             refine norm_ (a' := ?_) ?_ ?_
             rotate_left
             ·show Act.put _ (some 14) _ = _
              simp only [Act.put, List.setIfInBounds_toArray, List.set_cons_zero, List.set_cons_succ, i64_w, i32_w]
              rfl
             refine one_ (i := 1) (N := some 81) #[true, true, true, false, false, false, false, false, true, false, false] rfl rfl (one_of HT_.out (by kernel_rfl)) (by decide) (fun K hK => ?_)
             refine goes_ Try.func6 (by kernel_rfl) rfl #[.agg #[.int .i64 a0_0, .slice A0_1 l0_1.length c0_1]] (by rfl) rfl rfl ar_ ?_
             with_reducible refine (laws_toIsles.calls kj76 a0_0 _ _ l0_1 t222 t223 _ ?side1 ?side2 A124.out).mono ?_
             (case side1 => repeat (first | exact (Kd.C_below HR0_1.out HB.out) | (with_reducible refine Kd.C_alloc ?_ _) | (with_reducible refine Kd.C_drewN ?_ _) | (with_reducible refine Kd.C_drew ?_)))
             (case side2 => exact HC0_1.out)
             rintro e w138 ⟨v224, rfl, ho0, hb⟩
             refine ⟨_, rfl, ?_⟩
             have n0_ := Aside0.mk (Kd.R_elder' (rr_ HO_196001) (Kd.R_base ho0) hb)
             have n1_ := Aside0.mk (Kd.R_elder' (rr_ HO_201001) (Kd.R_base ho0) hb)
             have n2_ := Aside0.mk (Kd.R_elder' (rr_ HO_210001) (Kd.R_base ho0) hb)
             have n3_ := Aside0.mk (Kd.R_lower (Kd.R_new' (Kd.R_new' (Kd.R_new' ho0 (Kd.R_lt (rr_ HO_196001))) (Kd.R_lt (rr_ HO_201001))) (Kd.R_lt (rr_ HO_210001))) (below_size (bl_)))
             have n4_ := Aside0.mk (blk_below (g := gb180) (o := .cells #[.int .i64 a0_0, .slice A0_1 l0_1.length c0_1] 24 (0, 0)) (bk_ BK180) hb)
             have n5_ := Aside0.mk (blk_below (g := gb181) (o := .cells #[.int .i64 a1_0, .int .i64 a1_1, .int .i64 a1_2] 26 (0, 0)) (bk_ BK181) hb)
             have n6_ := Aside0.mk (blk_below (g := gb195) (o := .cells #[.int .i64 t190, .slice Ao30 t191.length co30] 30 (0, 0)) (bk_ BK195) hb)
             have n7_ := Aside0.mk (blk_below (g := gb200) (o := .cells #[.int .i64 t196, .slice Ao40 t217.length co40] 30 (0, 0)) (bk_ BK200) hb)
             have n8_ := Aside0.mk (blk_below (g := gb209) (o := .cells #[.int .i64 t204, .slice Ao48 t205.length co48] 30 (0, 0)) (bk_ BK209) hb)
             have n9_ := Aside0.mk (blk_below (g := gb234) (o := .cells #[.int .i64 0, .slice none 0 0] 30 (0, 0)) (bk_ BK234) hb)
             have n10_ := Aside0.mk (below_step (bl_) hb)
             clear HO_196001
             clear HO_201001
             clear HO_210001
             clear BK180
             clear BK181
             clear BK195
             clear BK200
             clear BK209
             clear BK234
             clear HB
             have HO_196001 := n0_
             have HO_201001 := n1_
             have HO_210001 := n2_
             have HO225 := n3_
             have BK180 := n4_
             have BK181 := n5_
             have BK195 := n6_
             have BK200 := n7_
             have BK209 := n8_
             have BK234 := n9_
             have HB := n10_
             clear n0_ n1_ n2_ n3_ n4_ n5_ n6_ n7_ n8_ n9_ n10_
             (try clear hb)
             (try clear hb2)
             (try clear hk)
             (try clear hi)
             (try clear ho0)
             refine hK.out _ _ ⟨(blk_cell BK180.out 0).trans rfl, (blk_cell BK180.out 1).trans rfl, (blk_cell BK181.out 0).trans rfl, (blk_cell BK181.out 1).trans rfl, (blk_cell BK181.out 2).trans rfl⟩ (fun hHeld => ?_)
             clear hK K
             refine norm_ (a' := ?_) ?_ ?_
             rotate_left
             ·show Act.put _ (some 81) _ = _
              simp only [Act.put, List.setIfInBounds_toArray, List.set_cons_zero, List.set_cons_succ, i64_w, i32_w]
              rfl
             refine one_ (i := 3) (N := some 83) #[true, true, true, true, false, false, false, false, true, false, false] rfl rfl (one_of HT_.out (by kernel_rfl)) (by decide) (fun K hK => ?_)
             refine goes_ Try.func7 (by kernel_rfl) rfl #[.agg #[.int .i64 a1_0, .int .i64 a1_1, .int .i64 a1_2]] (by rfl) rfl rfl ar_ ?_
             with_reducible refine (laws_toBridge.calls a1_0 a1_1 a1_2 t226 t227 t228 _ A125.out).mono ?_
             rintro e w139 ⟨rfl, hb⟩
             refine ⟨_, rfl, ?_⟩
             have n0_ := Aside0.mk (Kd.R_below (rr_ HO_196001) hb)
             have n1_ := Aside0.mk (Kd.R_below (rr_ HO_201001) hb)
             have n2_ := Aside0.mk (Kd.R_below (rr_ HO_210001) hb)
             have n3_ := Aside0.mk (Kd.R_below (rr_ HO225) hb)
             have n4_ := Aside0.mk (blk_below (g := gb180) (o := .cells #[.int .i64 a0_0, .slice A0_1 l0_1.length c0_1] 24 (0, 0)) (bk_ BK180) hb)
             have n5_ := Aside0.mk (blk_below (g := gb181) (o := .cells #[.int .i64 a1_0, .int .i64 a1_1, .int .i64 a1_2] 26 (0, 0)) (bk_ BK181) hb)
             have n6_ := Aside0.mk (blk_below (g := gb195) (o := .cells #[.int .i64 t190, .slice Ao30 t191.length co30] 30 (0, 0)) (bk_ BK195) hb)
             have n7_ := Aside0.mk (blk_below (g := gb200) (o := .cells #[.int .i64 t196, .slice Ao40 t217.length co40] 30 (0, 0)) (bk_ BK200) hb)
             have n8_ := Aside0.mk (blk_below (g := gb209) (o := .cells #[.int .i64 t204, .slice Ao48 t205.length co48] 30 (0, 0)) (bk_ BK209) hb)
             have n9_ := Aside0.mk (blk_below (g := gb234) (o := .cells #[.int .i64 0, .slice none 0 0] 30 (0, 0)) (bk_ BK234) hb)
             have n10_ := Aside0.mk (below_step (bl_) hb)
             clear HO_196001
             clear HO_201001
             clear HO_210001
             clear HO225
             clear BK180
             clear BK181
             clear BK195
             clear BK200
             clear BK209
             clear BK234
             clear HB
             have HO_196001 := n0_
             have HO_201001 := n1_
             have HO_210001 := n2_
             have HO225 := n3_
             have BK180 := n4_
             have BK181 := n5_
             have BK195 := n6_
             have BK200 := n7_
             have BK209 := n8_
             have BK234 := n9_
             have HB := n10_
             clear n0_ n1_ n2_ n3_ n4_ n5_ n6_ n7_ n8_ n9_ n10_
             (try clear hb)
             (try clear hb2)
             (try clear hk)
             (try clear hi)
             obtain ⟨Ao140, co140, eo140⟩ := Kd.R_slice HO225.out
             (first | subst eo140 | (injection eo140 with f1_ f2_ f3_; have f4_ := f1_.symm; have f5_ := f3_.symm; clear f1_ f2_ f3_; subst f4_; subst f5_))
             refine hK.out _ _ ⟨(blk_cell BK180.out 0).trans rfl, (blk_cell BK180.out 1).trans rfl, (blk_cell BK181.out 0).trans rfl, (blk_cell BK181.out 1).trans rfl, (blk_cell BK181.out 2).trans rfl⟩ (fun hHeld => ?_)
             clear hK K
             refine norm_ (a' := ?_) ?_ ?_
             rotate_left
             ·show Act.put _ (some 83) _ = _
              simp only [Act.put, List.setIfInBounds_toArray, List.set_cons_zero, List.set_cons_succ, i64_w, i32_w]
              rfl
             refine one_ (i := 4) (N := some 84) #[true, true, true, true, true, false, false, false, true, false, false] rfl rfl (one_of HT_.out (by kernel_rfl)) (by decide) (fun K hK => ?_)
             refine goes_ Try.func8 (by kernel_rfl) rfl #[.agg #[.int .i64 t222, .slice Ao140 t223.length co140], .agg #[.int .i64 t226, .int .i64 t227, .int .i64 t228]] (by rfl) rfl rfl ar_ ?_
             with_reducible refine (impl_AddBridge.calls t222 _ _ t223 t226 t227 t228 t229 t230 t233 _ ?side1 ?side2 A126.out).mono ?_
             (case side1 => repeat (first | exact (Kd.R_reads' HO225.out).2.2 | (with_reducible refine Kd.C_alloc ?_ _) | (with_reducible refine Kd.C_drewN ?_ _) | (with_reducible refine Kd.C_drew ?_)))
             (case side2 => exact (Kd.R_reads' HO225.out).2.1)
             rintro e w141 ⟨v231, rfl, ho0, hb⟩
             refine ⟨_, rfl, ?_⟩
             have n0_ := Aside0.mk (Kd.R_elder' (rr_ HO_196001) (Kd.R_base ho0) hb)
             have n1_ := Aside0.mk (Kd.R_elder' (rr_ HO_201001) (Kd.R_base ho0) hb)
             have n2_ := Aside0.mk (Kd.R_elder' (rr_ HO_210001) (Kd.R_base ho0) hb)
             have n3_ := Aside0.mk (Kd.R_elder' (rr_ HO225) (Kd.R_base ho0) hb)
             have n4_ := Aside0.mk (Kd.R_lower (Kd.R_new' (Kd.R_new' (Kd.R_new' (Kd.R_new' ho0 (Kd.R_lt (rr_ HO_196001))) (Kd.R_lt (rr_ HO_201001))) (Kd.R_lt (rr_ HO_210001))) (Kd.R_lt (rr_ HO225))) (below_size (bl_)))
             have n5_ := Aside0.mk (blk_below (g := gb180) (o := .cells #[.int .i64 a0_0, .slice A0_1 l0_1.length c0_1] 24 (0, 0)) (bk_ BK180) hb)
             have n6_ := Aside0.mk (blk_below (g := gb181) (o := .cells #[.int .i64 a1_0, .int .i64 a1_1, .int .i64 a1_2] 26 (0, 0)) (bk_ BK181) hb)
             have n7_ := Aside0.mk (blk_below (g := gb195) (o := .cells #[.int .i64 t190, .slice Ao30 t191.length co30] 30 (0, 0)) (bk_ BK195) hb)
             have n8_ := Aside0.mk (blk_below (g := gb200) (o := .cells #[.int .i64 t196, .slice Ao40 t217.length co40] 30 (0, 0)) (bk_ BK200) hb)
             have n9_ := Aside0.mk (blk_below (g := gb209) (o := .cells #[.int .i64 t204, .slice Ao48 t205.length co48] 30 (0, 0)) (bk_ BK209) hb)
             have n10_ := Aside0.mk (blk_below (g := gb234) (o := .cells #[.int .i64 0, .slice none 0 0] 30 (0, 0)) (bk_ BK234) hb)
             have n11_ := Aside0.mk (below_step (bl_) hb)
             clear HO_196001
             clear HO_201001
             clear HO_210001
             clear HO225
             clear BK180
             clear BK181
             clear BK195
             clear BK200
             clear BK209
             clear BK234
             clear HB
             have HO_196001 := n0_
             have HO_201001 := n1_
             have HO_210001 := n2_
             have HO225 := n3_
             have HO232 := n4_
             have BK180 := n5_
             have BK181 := n6_
             have BK195 := n7_
             have BK200 := n8_
             have BK209 := n9_
             have BK234 := n10_
             have HB := n11_
             clear n0_ n1_ n2_ n3_ n4_ n5_ n6_ n7_ n8_ n9_ n10_ n11_
             (try clear hb)
             (try clear hb2)
             (try clear hk)
             (try clear hi)
             (try clear ho0)
             refine hK.out _ _ ⟨(blk_cell BK180.out 0).trans rfl, (blk_cell BK180.out 1).trans rfl, (blk_cell BK181.out 0).trans rfl, (blk_cell BK181.out 1).trans rfl, (blk_cell BK181.out 2).trans rfl⟩ (fun hHeld => ?_)
             clear hK K
             refine norm_ (a' := ?_) ?_ ?_
             rotate_left
             ·show Act.put _ (some 84) _ = _
              simp only [Act.put, List.setIfInBounds_toArray, List.set_cons_zero, List.set_cons_succ, i64_w, i32_w]
              rfl
             refine pure_ (i := 5) (N := some 79) (v := ?_) (a' := ?_) #[true, true, true, true, true, true, false, false, true, false, false] rfl rfl (any_of HT_.out (by kernel_rfl)) (fun _ _ _ h => h) (Or.inl ⟨by rfl, ?_⟩) ?_ ?_
             rotate_left
             ·intro w'
              go_simp
              with_reducible rfl
             rotate_left
             ·simp only [Act.put, List.setIfInBounds_toArray, List.set_cons_zero, List.set_cons_succ, i64_w, i32_w]
              rfl
             refine pure_ (i := 6) (N := some 85) (v := ?_) (a' := ?_) #[true, true, true, true, true, true, true, false, true, false, false] rfl rfl (any_of HT_.out (by kernel_rfl)) (fun _ _ _ h => h) (Or.inl ⟨by rfl, ?_⟩) ?_ ?_
             rotate_left
             ·intro w'
              go_simp
              with_reducible rfl
             rotate_left
             ·simp only [Act.put, List.setIfInBounds_toArray, List.set_cons_zero, List.set_cons_succ, i64_w, i32_w]
              rfl
             refine pure_ (i := 7) (N := some 86) (v := ?_) (a' := ?_) #[true, true, true, true, true, true, true, true, true, false, false] rfl rfl (any_of HT_.out (by kernel_rfl)) (fun _ _ _ h => h) (Or.inl ⟨by rfl, ?_⟩) ?_ ?_
             rotate_left
             ·intro w'
              go_simp
              with_reducible rfl
             rotate_left
             ·simp only [Act.put, List.setIfInBounds_toArray, List.set_cons_zero, List.set_cons_succ, i64_w, i32_w]
              rfl
             exact norm_ (by simp only [putAll, Act.put, List.setIfInBounds_toArray, List.set_cons_zero, List.set_cons_succ]) (hCont (.slice Ao140 t223.length co140, v231, gb234) _ ⟨hHeld, (by (with_reducible repeat (first | apply Kd.R_alloc | apply Kd.R_drewN | apply Kd.R_drew)); exact Kd.R_mono HO225.out (fun _ hk => ⟨hk.2, ⟨hk.1.1.1.2, ⟨hk.1.1.2, hk.1.2⟩⟩⟩)), (by (with_reducible repeat (first | apply Kd.R_alloc | apply Kd.R_drewN | apply Kd.R_drew)); exact Kd.R_mono HO232.out (fun _ hk => ⟨hk.2, ⟨hk.1.1.1.2, ⟨hk.1.1.2, hk.1.2⟩⟩⟩)), (by (with_reducible repeat (first | apply Kd.R_alloc | apply Kd.R_drewN | apply Kd.R_drew)); exact Kd.R_mono HO_196001.out (fun _ hk => ⟨hk.1.2, ⟨hk.2, ⟨hk.1.1.1, hk.1.1.2⟩⟩⟩)), (by (with_reducible repeat (first | apply Kd.R_alloc | apply Kd.R_drewN | apply Kd.R_drew)); exact Kd.R_mono HO_201001.out (fun _ hk => ⟨hk.1.2, ⟨hk.2, ⟨hk.1.1.1, hk.1.1.2⟩⟩⟩)), (by (with_reducible repeat (first | apply Kd.R_alloc | apply Kd.R_drewN | apply Kd.R_drew)); exact Kd.R_mono HO_210001.out (fun _ hk => ⟨hk.1.2, ⟨hk.2, ⟨hk.1.1.1, hk.1.1.2⟩⟩⟩)), (bk_ BK180), (bk_ BK181), (bk_ BK195), (bk_ BK200), (bk_ BK209), (bk_ BK234), GW234.out, GE234.out, NB180_234.out, NB234_180.out, NB181_234.out, NB234_181.out, NB195_234.out, NB234_195.out, NB200_234.out, NB234_200.out, NB209_234.out, NB234_209.out, (bl_)⟩)
           rintro ⟨v224, v231, gb234⟩ w142 ⟨hS_, h0_, h1_, h2_, h3_, h4_, h5_, h6_, h7_, h8_, h9_, h10_, h11_, h12_, h13_, h14_, h15_, h16_, h17_, h18_, h19_, h20_, h21_, h22_, h23_⟩
           have n0_ : Aside0 (Kd.R k34 34 w142 w.heap.size (fun k_ => some k_ ≠ (v231 : Value).ownBlock ∧ some k_ ≠ (.slice Ao30 t191.length co30 : Value).ownBlock ∧ some k_ ≠ (.slice Ao40 t217.length co40 : Value).ownBlock ∧ some k_ ≠ (.slice Ao48 t205.length co48 : Value).ownBlock) v224 t223) := ⟨h0_⟩
           have n1_ : Aside0 (Kd.R k34 34 w142 w.heap.size (fun k_ => some k_ ≠ (v224 : Value).ownBlock ∧ some k_ ≠ (.slice Ao30 t191.length co30 : Value).ownBlock ∧ some k_ ≠ (.slice Ao40 t217.length co40 : Value).ownBlock ∧ some k_ ≠ (.slice Ao48 t205.length co48 : Value).ownBlock) v231 t230) := ⟨h1_⟩
           have n2_ : Aside0 (Kd.R k34 34 w142 w.heap.size (fun k_ => some k_ ≠ (v224 : Value).ownBlock ∧ some k_ ≠ (v231 : Value).ownBlock ∧ some k_ ≠ (.slice Ao40 t217.length co40 : Value).ownBlock ∧ some k_ ≠ (.slice Ao48 t205.length co48 : Value).ownBlock) (.slice Ao30 t191.length co30) t191) := ⟨h2_⟩
           have n3_ : Aside0 (Kd.R k34 34 w142 w.heap.size (fun k_ => some k_ ≠ (v224 : Value).ownBlock ∧ some k_ ≠ (v231 : Value).ownBlock ∧ some k_ ≠ (.slice Ao30 t191.length co30 : Value).ownBlock ∧ some k_ ≠ (.slice Ao48 t205.length co48 : Value).ownBlock) (.slice Ao40 t217.length co40) t217) := ⟨h3_⟩
           have n4_ : Aside0 (Kd.R k34 34 w142 w.heap.size (fun k_ => some k_ ≠ (v224 : Value).ownBlock ∧ some k_ ≠ (v231 : Value).ownBlock ∧ some k_ ≠ (.slice Ao30 t191.length co30 : Value).ownBlock ∧ some k_ ≠ (.slice Ao40 t217.length co40 : Value).ownBlock) (.slice Ao48 t205.length co48) t220) := ⟨h4_⟩
           have n5_ : Aside0 (w142.heap[gb180]? = some (.cells #[.int .i64 a0_0, .slice A0_1 l0_1.length c0_1] 24 (0, 0))) := ⟨h5_⟩
           have n6_ : Aside0 (w142.heap[gb181]? = some (.cells #[.int .i64 a1_0, .int .i64 a1_1, .int .i64 a1_2] 26 (0, 0))) := ⟨h6_⟩
           have n7_ : Aside0 (w142.heap[gb195]? = some (.cells #[.int .i64 t190, .slice Ao30 t191.length co30] 30 (0, 0))) := ⟨h7_⟩
           have n8_ : Aside0 (w142.heap[gb200]? = some (.cells #[.int .i64 t196, .slice Ao40 t217.length co40] 30 (0, 0))) := ⟨h8_⟩
           have n9_ : Aside0 (w142.heap[gb209]? = some (.cells #[.int .i64 t204, .slice Ao48 t205.length co48] 30 (0, 0))) := ⟨h9_⟩
           have n10_ : Aside0 (w142.heap[gb234]? = some (.cells #[.int .i64 0, .slice none 0 0] 30 (0, 0))) := ⟨h10_⟩
           have n11_ : Aside0 (w.heap.size ≤ gb234) := ⟨h11_⟩
           have n12_ : Aside0 (w.heap.size ≤ gb234) := ⟨h12_⟩
           have n13_ : Aside0 (gb180 ≠ gb234) := ⟨h13_⟩
           have n14_ : Aside0 (gb234 ≠ gb180) := ⟨h14_⟩
           have n15_ : Aside0 (gb181 ≠ gb234) := ⟨h15_⟩
           have n16_ : Aside0 (gb234 ≠ gb181) := ⟨h16_⟩
           have n17_ : Aside0 (gb195 ≠ gb234) := ⟨h17_⟩
           have n18_ : Aside0 (gb234 ≠ gb195) := ⟨h18_⟩
           have n19_ : Aside0 (gb200 ≠ gb234) := ⟨h19_⟩
           have n20_ : Aside0 (gb234 ≠ gb200) := ⟨h20_⟩
           have n21_ : Aside0 (gb209 ≠ gb234) := ⟨h21_⟩
           have n22_ : Aside0 (gb234 ≠ gb209) := ⟨h22_⟩
           have n23_ : Aside0 (Below w.heap.size w w142) := ⟨h23_⟩
           clear HO_196001
           clear HO_201001
           clear HO_210001
           clear BK180
           clear BK181
           clear BK195
           clear BK200
           clear BK209
           clear HB
           clear h0_ h1_ h2_ h3_ h4_ h5_ h6_ h7_ h8_ h9_ h10_ h11_ h12_ h13_ h14_ h15_ h16_ h17_ h18_ h19_ h20_ h21_ h22_ h23_
           have HO225 := n0_
           have HO232 := n1_
           have HO_196001 := n2_
           have HO_201001 := n3_
           have HO_210001 := n4_
           have BK180 := n5_
           have BK181 := n6_
           have BK195 := n7_
           have BK200 := n8_
           have BK209 := n9_
           have BK234 := n10_
           have GW234 := n11_
           have GE234 := n12_
           have NB180_234 := n13_
           have NB234_180 := n14_
           have NB181_234 := n15_
           have NB234_181 := n16_
           have NB195_234 := n17_
           have NB234_195 := n18_
           have NB200_234 := n19_
           have NB234_200 := n20_
           have NB209_234 := n21_
           have NB234_209 := n22_
           have HB := n23_
           clear n0_ n1_ n2_ n3_ n4_ n5_ n6_ n7_ n8_ n9_ n10_ n11_ n12_ n13_ n14_ n15_ n16_ n17_ n18_ n19_ n20_ n21_ n22_ n23_
           have hHeld : w142.cell? ⟨gb180, 0, none⟩ = some (.int .i64 a0_0) ∧ w142.cell? ⟨gb180, 1, none⟩ = some (.slice A0_1 l0_1.length c0_1) ∧ w142.cell? ⟨gb181, 0, none⟩ = some (.int .i64 a1_0) ∧ w142.cell? ⟨gb181, 1, none⟩ = some (.int .i64 a1_1) ∧ w142.cell? ⟨gb181, 2, none⟩ = some (.int .i64 a1_2) := hS_
           obtain ⟨Ao144, co144, eo144⟩ := Kd.R_slice HO232.out
           (first | subst eo144 | (injection eo144 with f1_ f2_ f3_; have f4_ := f1_.symm; have f5_ := f3_.symm; clear f1_ f2_ f3_; subst f4_; subst f5_))
           refine norm_ (a' := ?_) ?_ ?_
           rotate_left
           ·simp only [putAll, Act.put, List.setIfInBounds_toArray, List.set_cons_zero, List.set_cons_succ]
            rfl
           refine one_ (i := 9) (N := none) #[true, true, true, true, true, true, true, true, true, true, false] rfl rfl (one_of HT_.out (by kernel_rfl)) (by decide) (fun K hK => ?_)
           have hs143 : w142.cell? ⟨gb234, 0, none⟩ = some (.int .i64 0) := (blk_cell BK234.out 0).trans rfl
           have hfs143 := blk_frozen BK234.out 0
           have hns143_0 := NB180_234.out
           have hns143_1 := NB181_234.out
           have hns143_2 := NB195_234.out
           have hns143_3 := NB200_234.out
           have hns143_4 := NB209_234.out
           have hms143_0 := NB234_180.out
           have hms143_1 := NB234_181.out
           have hms143_2 := NB234_195.out
           have hms143_3 := NB234_200.out
           have hms143_4 := NB234_209.out
           have hs145 : w142.cell? ⟨gb234, 1, none⟩ = some (.slice none 0 0) := (blk_cell BK234.out 1).trans rfl
           have hfs145 := blk_frozen BK234.out 1
           have hns145_0 := NB180_234.out
           have hns145_1 := NB181_234.out
           have hns145_2 := NB195_234.out
           have hns145_3 := NB200_234.out
           have hns145_4 := NB209_234.out
           have hms145_0 := NB234_180.out
           have hms145_1 := NB234_181.out
           have hms145_2 := NB234_195.out
           have hms145_3 := NB234_200.out
           have hms145_4 := NB234_209.out
           refine skip_ (w1 := ?_) (by rfl) rfl ?_ ?_
           rotate_left
           ·go_simp
            rfl
           refine hK.out _ _ ⟨((cell_far (p := ⟨gb234, _, none⟩) NB180_234.out _).trans (((cell_far (p := ⟨gb234, _, none⟩) NB180_234.out _).trans (hHeld.1)))), ((cell_far (p := ⟨gb234, _, none⟩) NB180_234.out _).trans (((cell_far (p := ⟨gb234, _, none⟩) NB180_234.out _).trans (hHeld.2.1)))), ((cell_far (p := ⟨gb234, _, none⟩) NB181_234.out _).trans (((cell_far (p := ⟨gb234, _, none⟩) NB181_234.out _).trans (hHeld.2.2.1)))), ((cell_far (p := ⟨gb234, _, none⟩) NB181_234.out _).trans (((cell_far (p := ⟨gb234, _, none⟩) NB181_234.out _).trans (hHeld.2.2.2.1)))), ((cell_far (p := ⟨gb234, _, none⟩) NB181_234.out _).trans (((cell_far (p := ⟨gb234, _, none⟩) NB181_234.out _).trans (hHeld.2.2.2.2))))⟩ (fun hHeld => ?_)
           clear hK K
           refine pure_ (i := 10) (N := some 15) (v := ?_) (a' := ?_) #[true, true, true, true, true, true, true, true, true, true, true] rfl rfl (any_of HT_.out (by kernel_rfl)) (fun _ _ _ h => h) (Or.inl ⟨by rfl, ?_⟩) ?_ ?_
           rotate_left
           ·intro w'
            go_simp
            with_reducible rfl
           rotate_left
           ·simp only [Act.put, List.setIfInBounds_toArray, List.set_cons_zero, List.set_cons_succ, i64_w, i32_w]
            rfl
           refine done_ (done_of HT_.out (by kernel_rfl)) ?_
           go_upto_region 25 with (fail)
           go_cut [95] (fun v95 wc => ∃ (kq : Nat) (x95_126 : Bool), v95 = .bool x95_126 ∧ Aside0 (laws_FnExactAddBridge.j2 kq t219 x95_126 t204 t220 = some r) ∧ Aside0 (kq ≤ kj76) ∧ Aside0 (Kd.R k34 34 wc w.heap.size (fun k_ => some k_ ≠ ((.slice Ao40 t217.length co40) : Value).ownBlock ∧ some k_ ≠ ((.slice Ao48 t205.length co48) : Value).ownBlock ∧ some k_ ≠ ((.slice Ao144 t230.length co144) : Value).ownBlock) (.slice Ao30 t191.length co30) t191) ∧ Aside0 (Kd.R k34 34 wc w.heap.size (fun k_ => some k_ ≠ ((.slice Ao30 t191.length co30) : Value).ownBlock ∧ some k_ ≠ ((.slice Ao48 t205.length co48) : Value).ownBlock ∧ some k_ ≠ ((.slice Ao144 t230.length co144) : Value).ownBlock) (.slice Ao40 t217.length co40) t217) ∧ Aside0 (Kd.R k34 34 wc w.heap.size (fun k_ => some k_ ≠ ((.slice Ao30 t191.length co30) : Value).ownBlock ∧ some k_ ≠ ((.slice Ao40 t217.length co40) : Value).ownBlock ∧ some k_ ≠ ((.slice Ao144 t230.length co144) : Value).ownBlock) (.slice Ao48 t205.length co48) t220) ∧ Aside0 (Kd.R k34 34 wc w.heap.size (fun k_ => some k_ ≠ ((.slice Ao30 t191.length co30) : Value).ownBlock ∧ some k_ ≠ ((.slice Ao40 t217.length co40) : Value).ownBlock ∧ some k_ ≠ ((.slice Ao48 t205.length co48) : Value).ownBlock) (.slice Ao144 t230.length co144) t230) ∧ Aside0 (wc.heap[gb180]? = some (.cells #[.int .i64 a0_0, (.slice A0_1 l0_1.length c0_1)] 24 (0, 0))) ∧ Aside0 (wc.heap[gb181]? = some (.cells #[.int .i64 a1_0, .int .i64 a1_1, .int .i64 a1_2] 26 (0, 0))) ∧ Aside0 (wc.heap[gb195]? = some (.cells #[.int .i64 t190, (.slice Ao30 t191.length co30)] 30 (0, 0))) ∧ Aside0 (wc.heap[gb200]? = some (.cells #[.int .i64 t196, (.slice Ao40 t217.length co40)] 30 (0, 0))) ∧ Aside0 (wc.heap[gb209]? = some (.cells #[.int .i64 t204, (.slice Ao48 t205.length co48)] 30 (0, 0))) ∧ Aside0 (wc.heap[gb234]? = some (.cells #[.int .i64 t229, (.slice Ao144 t230.length co144)] 30 (0, 0))) ∧ Aside0 (Below w.heap.size w wc))
           case first =>
            have H := HC127.out
            clear HC127
            replace H := Option.bind_eq_some_iff.mp H
            obtain ⟨t235, A1460, H⟩ := H
            replace H : (if t235 = true then (laws_FnExactAddBridge.j2 kj76 t219 (t233 != t194) t204 t220) else (laws_FnExactAddBridge.j2 kj76 t219 true t204 t220)) = some r := H
            have A146 := Aside0.mk A1460
            clear A1460
            by_cases c147 : t235 = true
            ·subst c147
             have H1 : (laws_FnExactAddBridge.j2 kj76 t219 (t233 != t194) t204 t220) = some r := by rw [if_pos rfl] at H; exact H
             clear H
             have H := H1
             clear H1
             have H' := Aside0.mk H
             clear H
             have hnb148 := NB234_180.out
             have hnc148 := NB180_234.out
             have hnb149 := NB234_181.out
             have hnc149 := NB181_234.out
             have hnb150 := NB234_195.out
             have hnc150 := NB195_234.out
             have hnb151 := NB234_200.out
             have hnc151 := NB200_234.out
             have hnb152 := NB234_209.out
             have hnc152 := NB209_234.out
             have hcz153_0 : w142.cell? ⟨gb234, 0, none⟩ = some (.int .i64 0) := (blk_cell BK234.out 0).trans rfl
             have hcz153_1 : w142.cell? ⟨gb234, 1, none⟩ = some (.slice none 0 0) := (blk_cell BK234.out 1).trans rfl
             have hfz153_0 := blk_frozen BK234.out 0
             have hfz153_1 := blk_frozen BK234.out 1
             have hnb154 := NB195_180.out
             have hnc154 := NB180_195.out
             have hnb155 := NB195_181.out
             have hnc155 := NB181_195.out
             have hnb156 := NB195_200.out
             have hnc156 := NB200_195.out
             have hnb157 := NB195_209.out
             have hnc157 := NB209_195.out
             have hcz158_0 : w142.cell? ⟨gb195, 0, none⟩ = some (.int .i64 t190) := (blk_cell BK195.out 0).trans rfl
             have hcz158_1 : w142.cell? ⟨gb195, 1, none⟩ = some (.slice Ao30 t191.length co30) := (blk_cell BK195.out 1).trans rfl
             have hfz158_0 := blk_frozen BK195.out 0
             have hfz158_1 := blk_frozen BK195.out 1
             go_wp2_with (first | ((with_reducible refine gate_callee (f := 9) rfl ?_); refine goesL_ (some 89) rfl rfl Try.func9 (by kernel_rfl) rfl #[.agg #[.int .i64 t229, .slice Ao144 t230.length co144], .agg #[.int .i64 t190, .slice Ao30 t191.length co30]] rfl ar_ ?_; (with_reducible refine (laws_eqIsles.calls kj76 t229 _ _ t230 t190 _ _ t191 true _ ?side1 ?side2 ?side3 ?side4 A146.out).mono ?_); (case side1 => refine (Kd.R_reads' (e := 34) (base := w.heap.size) (ok := fun k_ => (some k_ ≠ (v224 : Value).ownBlock ∧ (some k_ ≠ (.slice Ao30 t191.length co30 : Value).ownBlock ∧ (some k_ ≠ (.slice Ao40 t217.length co40 : Value).ownBlock ∧ some k_ ≠ (.slice Ao48 t205.length co48 : Value).ownBlock)))) (n := t230.length) (c := co144) ?_).2.2; exact (by (with_reducible repeat (first | apply Kd.R_alloc | apply Kd.R_drewN | apply Kd.R_drew)); exact (Kd.R_mono (Kd.R_far (p := ⟨gb234, 1, none⟩) (Kd.R_far (p := ⟨gb234, 0, none⟩) (Kd.R_types HO232.out BK234.out (by decide)) (fun _ hk => hk.2) (.int .i64 t229)) (fun _ hk => hk.2) (.slice Ao144 t230.length co144)) (fun _ h_ => h_.1)))); (case side2 => exact (Kd.R_reads' HO232.out).2.1); (case side3 => refine (Kd.R_reads' (e := 34) (base := w.heap.size) (ok := fun k_ => (some k_ ≠ (v224 : Value).ownBlock ∧ (some k_ ≠ (.slice Ao144 t230.length co144 : Value).ownBlock ∧ (some k_ ≠ (.slice Ao40 t217.length co40 : Value).ownBlock ∧ some k_ ≠ (.slice Ao48 t205.length co48 : Value).ownBlock)))) (n := t191.length) (c := co30) ?_).2.2; exact (by (with_reducible repeat (first | apply Kd.R_alloc | apply Kd.R_drewN | apply Kd.R_drew)); exact (Kd.R_mono (Kd.R_far (p := ⟨gb234, 1, none⟩) (Kd.R_far (p := ⟨gb234, 0, none⟩) (Kd.R_types HO_196001.out BK234.out (by decide)) (fun _ hk => hk.2) (.int .i64 t229)) (fun _ hk => hk.2) (.slice Ao144 t230.length co144)) (fun _ h_ => h_.1)))); (case side4 => exact (Kd.R_reads' HO_196001.out).2.1); rintro e w159 ⟨rfl, hb⟩; refine ⟨_, rfl, ?_⟩; have n0_ := Aside0.mk (Kd.R_below (by (with_reducible repeat (first | apply Kd.R_alloc | apply Kd.R_drewN | apply Kd.R_drew)); exact (Kd.R_mono (Kd.R_far (p := ⟨gb234, 1, none⟩) (Kd.R_far (p := ⟨gb234, 0, none⟩) (Kd.R_types HO_196001.out BK234.out (by decide)) (fun _ hk => hk.2) (.int .i64 t229)) (fun _ hk => hk.2) (.slice Ao144 t230.length co144)) (fun _ h_ => h_.1))) hb); have n1_ := Aside0.mk (Kd.R_below (by (with_reducible repeat (first | apply Kd.R_alloc | apply Kd.R_drewN | apply Kd.R_drew)); exact (Kd.R_mono (Kd.R_far (p := ⟨gb234, 1, none⟩) (Kd.R_far (p := ⟨gb234, 0, none⟩) (Kd.R_types HO_201001.out BK234.out (by decide)) (fun _ hk => hk.2) (.int .i64 t229)) (fun _ hk => hk.2) (.slice Ao144 t230.length co144)) (fun _ h_ => h_.1))) hb); have n2_ := Aside0.mk (Kd.R_below (by (with_reducible repeat (first | apply Kd.R_alloc | apply Kd.R_drewN | apply Kd.R_drew)); exact (Kd.R_mono (Kd.R_far (p := ⟨gb234, 1, none⟩) (Kd.R_far (p := ⟨gb234, 0, none⟩) (Kd.R_types HO_210001.out BK234.out (by decide)) (fun _ hk => hk.2) (.int .i64 t229)) (fun _ hk => hk.2) (.slice Ao144 t230.length co144)) (fun _ h_ => h_.1))) hb); have n3_ := Aside0.mk (Kd.R_below (by (with_reducible repeat (first | apply Kd.R_alloc | apply Kd.R_drewN | apply Kd.R_drew)); exact (Kd.R_mono (Kd.R_far (p := ⟨gb234, 1, none⟩) (Kd.R_far (p := ⟨gb234, 0, none⟩) (Kd.R_types HO225.out BK234.out (by decide)) (fun _ hk => hk.2) (.int .i64 t229)) (fun _ hk => hk.2) (.slice Ao144 t230.length co144)) (fun _ h_ => h_.1))) hb); have n4_ := Aside0.mk (Kd.R_below (by (with_reducible repeat (first | apply Kd.R_alloc | apply Kd.R_drewN | apply Kd.R_drew)); exact (Kd.R_mono (Kd.R_far (p := ⟨gb234, 1, none⟩) (Kd.R_far (p := ⟨gb234, 0, none⟩) (Kd.R_types HO232.out BK234.out (by decide)) (fun _ hk => hk.2) (.int .i64 t229)) (fun _ hk => hk.2) (.slice Ao144 t230.length co144)) (fun _ h_ => h_.1))) hb); have n5_ := Aside0.mk (blk_below (g := gb180) (o := .cells #[.int .i64 a0_0, .slice A0_1 l0_1.length c0_1] 24 (0, 0)) (by (with_reducible repeat (first | refine blk_drewN ?_ _ | refine blk_drew ?_ | refine blk_alloc ?_ _)); refine blk_far ?_ NB180_234.out _; (with_reducible repeat (first | refine blk_drewN ?_ _ | refine blk_drew ?_ | refine blk_alloc ?_ _)); refine blk_far ?_ NB180_234.out _; (with_reducible repeat (first | refine blk_drewN ?_ _ | refine blk_drew ?_ | refine blk_alloc ?_ _)); exact BK180.out) hb); have n6_ := Aside0.mk (blk_below (g := gb181) (o := .cells #[.int .i64 a1_0, .int .i64 a1_1, .int .i64 a1_2] 26 (0, 0)) (by (with_reducible repeat (first | refine blk_drewN ?_ _ | refine blk_drew ?_ | refine blk_alloc ?_ _)); refine blk_far ?_ NB181_234.out _; (with_reducible repeat (first | refine blk_drewN ?_ _ | refine blk_drew ?_ | refine blk_alloc ?_ _)); refine blk_far ?_ NB181_234.out _; (with_reducible repeat (first | refine blk_drewN ?_ _ | refine blk_drew ?_ | refine blk_alloc ?_ _)); exact BK181.out) hb); have n7_ := Aside0.mk (blk_below (g := gb195) (o := .cells #[.int .i64 t190, .slice Ao30 t191.length co30] 30 (0, 0)) (by (with_reducible repeat (first | refine blk_drewN ?_ _ | refine blk_drew ?_ | refine blk_alloc ?_ _)); refine blk_far ?_ NB195_234.out _; (with_reducible repeat (first | refine blk_drewN ?_ _ | refine blk_drew ?_ | refine blk_alloc ?_ _)); refine blk_far ?_ NB195_234.out _; (with_reducible repeat (first | refine blk_drewN ?_ _ | refine blk_drew ?_ | refine blk_alloc ?_ _)); exact BK195.out) hb); have n8_ := Aside0.mk (blk_below (g := gb200) (o := .cells #[.int .i64 t196, .slice Ao40 t217.length co40] 30 (0, 0)) (by (with_reducible repeat (first | refine blk_drewN ?_ _ | refine blk_drew ?_ | refine blk_alloc ?_ _)); refine blk_far ?_ NB200_234.out _; (with_reducible repeat (first | refine blk_drewN ?_ _ | refine blk_drew ?_ | refine blk_alloc ?_ _)); refine blk_far ?_ NB200_234.out _; (with_reducible repeat (first | refine blk_drewN ?_ _ | refine blk_drew ?_ | refine blk_alloc ?_ _)); exact BK200.out) hb); have n9_ := Aside0.mk (blk_below (g := gb209) (o := .cells #[.int .i64 t204, .slice Ao48 t205.length co48] 30 (0, 0)) (by (with_reducible repeat (first | refine blk_drewN ?_ _ | refine blk_drew ?_ | refine blk_alloc ?_ _)); refine blk_far ?_ NB209_234.out _; (with_reducible repeat (first | refine blk_drewN ?_ _ | refine blk_drew ?_ | refine blk_alloc ?_ _)); refine blk_far ?_ NB209_234.out _; (with_reducible repeat (first | refine blk_drewN ?_ _ | refine blk_drew ?_ | refine blk_alloc ?_ _)); exact BK209.out) hb); have n10_ := Aside0.mk (blk_below (g := gb234) (o := .cells #[.int .i64 t229, .slice Ao144 t230.length co144] 30 (0, 0)) (by (with_reducible repeat (first | refine blk_drewN ?_ _ | refine blk_drew ?_ | refine blk_alloc ?_ _)); refine blk_put (cs := #[.int .i64 t229, .slice none 0 0]) ?_ 1 _ rfl; (with_reducible repeat (first | refine blk_drewN ?_ _ | refine blk_drew ?_ | refine blk_alloc ?_ _)); refine blk_put (cs := #[.int .i64 0, .slice none 0 0]) ?_ 0 _ rfl; (with_reducible repeat (first | refine blk_drewN ?_ _ | refine blk_drew ?_ | refine blk_alloc ?_ _)); exact BK234.out) hb); have n11_ := Aside0.mk (below_step (bl_) hb); clear HO_196001; clear HO_201001; clear HO_210001; clear HO225; clear HO232; clear BK180; clear BK181; clear BK195; clear BK200; clear BK209; clear BK234; clear HB; have HO_196001 := n0_; have HO_201001 := n1_; have HO_210001 := n2_; have HO225 := n3_; have HO232 := n4_; have BK180 := n5_; have BK181 := n6_; have BK195 := n7_; have BK200 := n8_; have BK209 := n9_; have BK234 := n10_; have HB := n11_; clear n0_ n1_ n2_ n3_ n4_ n5_ n6_ n7_ n8_ n9_ n10_ n11_; (try clear hb); (try clear hb2); (try clear hk); (try clear hi)))
             go_meet
             case rel => exact ⟨_, ((t233 != t194)), (by first | rfl | (simp; done) | (simp [*]; done)), H', ⟨by have := HJ15.out; have := HJ76.out; first | omega | exact Nat.le_refl _⟩, ⟨by (try simp only [hl201001_76]); (with_reducible repeat (first | apply Kd.R_alloc | apply Kd.R_drewN | apply Kd.R_drew)); exact Kd.R_mono HO_196001.out (fun _ hk => ⟨hk.2.2.1, ⟨hk.2.2.2, hk.2.1⟩⟩)⟩, ⟨by (try simp only [hl201001_76]); (with_reducible repeat (first | apply Kd.R_alloc | apply Kd.R_drewN | apply Kd.R_drew)); exact Kd.R_mono HO_201001.out (fun _ hk => ⟨hk.2.2.1, ⟨hk.2.2.2, hk.2.1⟩⟩)⟩, ⟨by (try simp only [hl201001_76]); (with_reducible repeat (first | apply Kd.R_alloc | apply Kd.R_drewN | apply Kd.R_drew)); exact Kd.R_mono HO_210001.out (fun _ hk => ⟨hk.2.2.1, ⟨hk.2.2.2, hk.2.1⟩⟩)⟩, ⟨by (try simp only [hl201001_76]); (with_reducible repeat (first | apply Kd.R_alloc | apply Kd.R_drewN | apply Kd.R_drew)); exact Kd.R_mono HO232.out (fun _ hk => ⟨hk.2.1, ⟨hk.2.2.1, hk.2.2.2⟩⟩)⟩, ⟨by (try simp only [hl201001_76]); (with_reducible repeat (first | refine blk_drewN ?_ _ | refine blk_drew ?_ | refine blk_alloc ?_ _)); exact BK180.out⟩, ⟨by (try simp only [hl201001_76]); (with_reducible repeat (first | refine blk_drewN ?_ _ | refine blk_drew ?_ | refine blk_alloc ?_ _)); exact BK181.out⟩, ⟨by (try simp only [hl201001_76]); (with_reducible repeat (first | refine blk_drewN ?_ _ | refine blk_drew ?_ | refine blk_alloc ?_ _)); exact BK195.out⟩, ⟨by (try simp only [hl201001_76]); (with_reducible repeat (first | refine blk_drewN ?_ _ | refine blk_drew ?_ | refine blk_alloc ?_ _)); exact BK200.out⟩, ⟨by (try simp only [hl201001_76]); (with_reducible repeat (first | refine blk_drewN ?_ _ | refine blk_drew ?_ | refine blk_alloc ?_ _)); exact BK209.out⟩, ⟨by (try simp only [hl201001_76]); (with_reducible repeat (first | refine blk_drewN ?_ _ | refine blk_drew ?_ | refine blk_alloc ?_ _)); exact BK234.out⟩, ⟨bl_⟩⟩
            ·replace c147 := Bool.eq_false_iff.mpr c147
             subst c147
             have H1 : (laws_FnExactAddBridge.j2 kj76 t219 true t204 t220) = some r := by rw [if_neg (show ¬ (false = true) by decide)] at H; exact H
             clear H
             have H := H1
             clear H1
             have H' := Aside0.mk H
             clear H
             have hnb160 := NB234_180.out
             have hnc160 := NB180_234.out
             have hnb161 := NB234_181.out
             have hnc161 := NB181_234.out
             have hnb162 := NB234_195.out
             have hnc162 := NB195_234.out
             have hnb163 := NB234_200.out
             have hnc163 := NB200_234.out
             have hnb164 := NB234_209.out
             have hnc164 := NB209_234.out
             have hcz165_0 : w142.cell? ⟨gb234, 0, none⟩ = some (.int .i64 0) := (blk_cell BK234.out 0).trans rfl
             have hcz165_1 : w142.cell? ⟨gb234, 1, none⟩ = some (.slice none 0 0) := (blk_cell BK234.out 1).trans rfl
             have hfz165_0 := blk_frozen BK234.out 0
             have hfz165_1 := blk_frozen BK234.out 1
             have hnb166 := NB195_180.out
             have hnc166 := NB180_195.out
             have hnb167 := NB195_181.out
             have hnc167 := NB181_195.out
             have hnb168 := NB195_200.out
             have hnc168 := NB200_195.out
             have hnb169 := NB195_209.out
             have hnc169 := NB209_195.out
             have hcz170_0 : w142.cell? ⟨gb195, 0, none⟩ = some (.int .i64 t190) := (blk_cell BK195.out 0).trans rfl
             have hcz170_1 : w142.cell? ⟨gb195, 1, none⟩ = some (.slice Ao30 t191.length co30) := (blk_cell BK195.out 1).trans rfl
             have hfz170_0 := blk_frozen BK195.out 0
             have hfz170_1 := blk_frozen BK195.out 1
             go_wp2_with (first | ((with_reducible refine gate_callee (f := 9) rfl ?_); refine goesL_ (some 89) rfl rfl Try.func9 (by kernel_rfl) rfl #[.agg #[.int .i64 t229, .slice Ao144 t230.length co144], .agg #[.int .i64 t190, .slice Ao30 t191.length co30]] rfl ar_ ?_; (with_reducible refine (laws_eqIsles.calls kj76 t229 _ _ t230 t190 _ _ t191 false _ ?side1 ?side2 ?side3 ?side4 A146.out).mono ?_); (case side1 => refine (Kd.R_reads' (e := 34) (base := w.heap.size) (ok := fun k_ => (some k_ ≠ (v224 : Value).ownBlock ∧ (some k_ ≠ (.slice Ao30 t191.length co30 : Value).ownBlock ∧ (some k_ ≠ (.slice Ao40 t217.length co40 : Value).ownBlock ∧ some k_ ≠ (.slice Ao48 t205.length co48 : Value).ownBlock)))) (n := t230.length) (c := co144) ?_).2.2; exact (by (with_reducible repeat (first | apply Kd.R_alloc | apply Kd.R_drewN | apply Kd.R_drew)); exact (Kd.R_mono (Kd.R_far (p := ⟨gb234, 1, none⟩) (Kd.R_far (p := ⟨gb234, 0, none⟩) (Kd.R_types HO232.out BK234.out (by decide)) (fun _ hk => hk.2) (.int .i64 t229)) (fun _ hk => hk.2) (.slice Ao144 t230.length co144)) (fun _ h_ => h_.1)))); (case side2 => exact (Kd.R_reads' HO232.out).2.1); (case side3 => refine (Kd.R_reads' (e := 34) (base := w.heap.size) (ok := fun k_ => (some k_ ≠ (v224 : Value).ownBlock ∧ (some k_ ≠ (.slice Ao144 t230.length co144 : Value).ownBlock ∧ (some k_ ≠ (.slice Ao40 t217.length co40 : Value).ownBlock ∧ some k_ ≠ (.slice Ao48 t205.length co48 : Value).ownBlock)))) (n := t191.length) (c := co30) ?_).2.2; exact (by (with_reducible repeat (first | apply Kd.R_alloc | apply Kd.R_drewN | apply Kd.R_drew)); exact (Kd.R_mono (Kd.R_far (p := ⟨gb234, 1, none⟩) (Kd.R_far (p := ⟨gb234, 0, none⟩) (Kd.R_types HO_196001.out BK234.out (by decide)) (fun _ hk => hk.2) (.int .i64 t229)) (fun _ hk => hk.2) (.slice Ao144 t230.length co144)) (fun _ h_ => h_.1)))); (case side4 => exact (Kd.R_reads' HO_196001.out).2.1); rintro e w171 ⟨rfl, hb⟩; refine ⟨_, rfl, ?_⟩; have n0_ := Aside0.mk (Kd.R_below (by (with_reducible repeat (first | apply Kd.R_alloc | apply Kd.R_drewN | apply Kd.R_drew)); exact (Kd.R_mono (Kd.R_far (p := ⟨gb234, 1, none⟩) (Kd.R_far (p := ⟨gb234, 0, none⟩) (Kd.R_types HO_196001.out BK234.out (by decide)) (fun _ hk => hk.2) (.int .i64 t229)) (fun _ hk => hk.2) (.slice Ao144 t230.length co144)) (fun _ h_ => h_.1))) hb); have n1_ := Aside0.mk (Kd.R_below (by (with_reducible repeat (first | apply Kd.R_alloc | apply Kd.R_drewN | apply Kd.R_drew)); exact (Kd.R_mono (Kd.R_far (p := ⟨gb234, 1, none⟩) (Kd.R_far (p := ⟨gb234, 0, none⟩) (Kd.R_types HO_201001.out BK234.out (by decide)) (fun _ hk => hk.2) (.int .i64 t229)) (fun _ hk => hk.2) (.slice Ao144 t230.length co144)) (fun _ h_ => h_.1))) hb); have n2_ := Aside0.mk (Kd.R_below (by (with_reducible repeat (first | apply Kd.R_alloc | apply Kd.R_drewN | apply Kd.R_drew)); exact (Kd.R_mono (Kd.R_far (p := ⟨gb234, 1, none⟩) (Kd.R_far (p := ⟨gb234, 0, none⟩) (Kd.R_types HO_210001.out BK234.out (by decide)) (fun _ hk => hk.2) (.int .i64 t229)) (fun _ hk => hk.2) (.slice Ao144 t230.length co144)) (fun _ h_ => h_.1))) hb); have n3_ := Aside0.mk (Kd.R_below (by (with_reducible repeat (first | apply Kd.R_alloc | apply Kd.R_drewN | apply Kd.R_drew)); exact (Kd.R_mono (Kd.R_far (p := ⟨gb234, 1, none⟩) (Kd.R_far (p := ⟨gb234, 0, none⟩) (Kd.R_types HO225.out BK234.out (by decide)) (fun _ hk => hk.2) (.int .i64 t229)) (fun _ hk => hk.2) (.slice Ao144 t230.length co144)) (fun _ h_ => h_.1))) hb); have n4_ := Aside0.mk (Kd.R_below (by (with_reducible repeat (first | apply Kd.R_alloc | apply Kd.R_drewN | apply Kd.R_drew)); exact (Kd.R_mono (Kd.R_far (p := ⟨gb234, 1, none⟩) (Kd.R_far (p := ⟨gb234, 0, none⟩) (Kd.R_types HO232.out BK234.out (by decide)) (fun _ hk => hk.2) (.int .i64 t229)) (fun _ hk => hk.2) (.slice Ao144 t230.length co144)) (fun _ h_ => h_.1))) hb); have n5_ := Aside0.mk (blk_below (g := gb180) (o := .cells #[.int .i64 a0_0, .slice A0_1 l0_1.length c0_1] 24 (0, 0)) (by (with_reducible repeat (first | refine blk_drewN ?_ _ | refine blk_drew ?_ | refine blk_alloc ?_ _)); refine blk_far ?_ NB180_234.out _; (with_reducible repeat (first | refine blk_drewN ?_ _ | refine blk_drew ?_ | refine blk_alloc ?_ _)); refine blk_far ?_ NB180_234.out _; (with_reducible repeat (first | refine blk_drewN ?_ _ | refine blk_drew ?_ | refine blk_alloc ?_ _)); exact BK180.out) hb); have n6_ := Aside0.mk (blk_below (g := gb181) (o := .cells #[.int .i64 a1_0, .int .i64 a1_1, .int .i64 a1_2] 26 (0, 0)) (by (with_reducible repeat (first | refine blk_drewN ?_ _ | refine blk_drew ?_ | refine blk_alloc ?_ _)); refine blk_far ?_ NB181_234.out _; (with_reducible repeat (first | refine blk_drewN ?_ _ | refine blk_drew ?_ | refine blk_alloc ?_ _)); refine blk_far ?_ NB181_234.out _; (with_reducible repeat (first | refine blk_drewN ?_ _ | refine blk_drew ?_ | refine blk_alloc ?_ _)); exact BK181.out) hb); have n7_ := Aside0.mk (blk_below (g := gb195) (o := .cells #[.int .i64 t190, .slice Ao30 t191.length co30] 30 (0, 0)) (by (with_reducible repeat (first | refine blk_drewN ?_ _ | refine blk_drew ?_ | refine blk_alloc ?_ _)); refine blk_far ?_ NB195_234.out _; (with_reducible repeat (first | refine blk_drewN ?_ _ | refine blk_drew ?_ | refine blk_alloc ?_ _)); refine blk_far ?_ NB195_234.out _; (with_reducible repeat (first | refine blk_drewN ?_ _ | refine blk_drew ?_ | refine blk_alloc ?_ _)); exact BK195.out) hb); have n8_ := Aside0.mk (blk_below (g := gb200) (o := .cells #[.int .i64 t196, .slice Ao40 t217.length co40] 30 (0, 0)) (by (with_reducible repeat (first | refine blk_drewN ?_ _ | refine blk_drew ?_ | refine blk_alloc ?_ _)); refine blk_far ?_ NB200_234.out _; (with_reducible repeat (first | refine blk_drewN ?_ _ | refine blk_drew ?_ | refine blk_alloc ?_ _)); refine blk_far ?_ NB200_234.out _; (with_reducible repeat (first | refine blk_drewN ?_ _ | refine blk_drew ?_ | refine blk_alloc ?_ _)); exact BK200.out) hb); have n9_ := Aside0.mk (blk_below (g := gb209) (o := .cells #[.int .i64 t204, .slice Ao48 t205.length co48] 30 (0, 0)) (by (with_reducible repeat (first | refine blk_drewN ?_ _ | refine blk_drew ?_ | refine blk_alloc ?_ _)); refine blk_far ?_ NB209_234.out _; (with_reducible repeat (first | refine blk_drewN ?_ _ | refine blk_drew ?_ | refine blk_alloc ?_ _)); refine blk_far ?_ NB209_234.out _; (with_reducible repeat (first | refine blk_drewN ?_ _ | refine blk_drew ?_ | refine blk_alloc ?_ _)); exact BK209.out) hb); have n10_ := Aside0.mk (blk_below (g := gb234) (o := .cells #[.int .i64 t229, .slice Ao144 t230.length co144] 30 (0, 0)) (by (with_reducible repeat (first | refine blk_drewN ?_ _ | refine blk_drew ?_ | refine blk_alloc ?_ _)); refine blk_put (cs := #[.int .i64 t229, .slice none 0 0]) ?_ 1 _ rfl; (with_reducible repeat (first | refine blk_drewN ?_ _ | refine blk_drew ?_ | refine blk_alloc ?_ _)); refine blk_put (cs := #[.int .i64 0, .slice none 0 0]) ?_ 0 _ rfl; (with_reducible repeat (first | refine blk_drewN ?_ _ | refine blk_drew ?_ | refine blk_alloc ?_ _)); exact BK234.out) hb); have n11_ := Aside0.mk (below_step (bl_) hb); clear HO_196001; clear HO_201001; clear HO_210001; clear HO225; clear HO232; clear BK180; clear BK181; clear BK195; clear BK200; clear BK209; clear BK234; clear HB; have HO_196001 := n0_; have HO_201001 := n1_; have HO_210001 := n2_; have HO225 := n3_; have HO232 := n4_; have BK180 := n5_; have BK181 := n6_; have BK195 := n7_; have BK200 := n8_; have BK209 := n9_; have BK234 := n10_; have HB := n11_; clear n0_ n1_ n2_ n3_ n4_ n5_ n6_ n7_ n8_ n9_ n10_ n11_; (try clear hb); (try clear hb2); (try clear hk); (try clear hi)))
             go_meet
             case rel => exact ⟨_, (true), (by first | rfl | (simp; done) | (simp [*]; done)), H', ⟨by have := HJ15.out; have := HJ76.out; first | omega | exact Nat.le_refl _⟩, ⟨by (try simp only [hl201001_76]); (with_reducible repeat (first | apply Kd.R_alloc | apply Kd.R_drewN | apply Kd.R_drew)); exact Kd.R_mono HO_196001.out (fun _ hk => ⟨hk.2.2.1, ⟨hk.2.2.2, hk.2.1⟩⟩)⟩, ⟨by (try simp only [hl201001_76]); (with_reducible repeat (first | apply Kd.R_alloc | apply Kd.R_drewN | apply Kd.R_drew)); exact Kd.R_mono HO_201001.out (fun _ hk => ⟨hk.2.2.1, ⟨hk.2.2.2, hk.2.1⟩⟩)⟩, ⟨by (try simp only [hl201001_76]); (with_reducible repeat (first | apply Kd.R_alloc | apply Kd.R_drewN | apply Kd.R_drew)); exact Kd.R_mono HO_210001.out (fun _ hk => ⟨hk.2.2.1, ⟨hk.2.2.2, hk.2.1⟩⟩)⟩, ⟨by (try simp only [hl201001_76]); (with_reducible repeat (first | apply Kd.R_alloc | apply Kd.R_drewN | apply Kd.R_drew)); exact Kd.R_mono HO232.out (fun _ hk => ⟨hk.2.1, ⟨hk.2.2.1, hk.2.2.2⟩⟩)⟩, ⟨by (try simp only [hl201001_76]); (with_reducible repeat (first | refine blk_drewN ?_ _ | refine blk_drew ?_ | refine blk_alloc ?_ _)); exact BK180.out⟩, ⟨by (try simp only [hl201001_76]); (with_reducible repeat (first | refine blk_drewN ?_ _ | refine blk_drew ?_ | refine blk_alloc ?_ _)); exact BK181.out⟩, ⟨by (try simp only [hl201001_76]); (with_reducible repeat (first | refine blk_drewN ?_ _ | refine blk_drew ?_ | refine blk_alloc ?_ _)); exact BK195.out⟩, ⟨by (try simp only [hl201001_76]); (with_reducible repeat (first | refine blk_drewN ?_ _ | refine blk_drew ?_ | refine blk_alloc ?_ _)); exact BK200.out⟩, ⟨by (try simp only [hl201001_76]); (with_reducible repeat (first | refine blk_drewN ?_ _ | refine blk_drew ?_ | refine blk_alloc ?_ _)); exact BK209.out⟩, ⟨by (try simp only [hl201001_76]); (with_reducible repeat (first | refine blk_drewN ?_ _ | refine blk_drew ?_ | refine blk_alloc ?_ _)); exact BK234.out⟩, ⟨bl_⟩⟩
           case rest =>
            clear HC127
            try clear c1
            try clear p2
            try clear c6
            try clear c7
            try clear c8
            try clear c9
            try clear c14
            try clear c15
            try clear c16
            try clear c147
            try clear c148
            try clear c149
            try clear c150
            try clear c151
            try clear c152
            try clear c154
            try clear c155
            try clear c156
            try clear c157
            try clear c160
            try clear c161
            try clear c162
            try clear c163
            try clear c164
            try clear c166
            try clear c167
            try clear c168
            try clear c169
            try clear hcz153_0
            try clear hcz153_1
            try clear hcz158_0
            try clear hcz158_1
            try clear hcz165_0
            try clear hcz165_1
            try clear hcz170_0
            try clear hcz170_1
            try clear hfz153_0
            try clear hfz153_1
            try clear hfz158_0
            try clear hfz158_1
            try clear hfz165_0
            try clear hfz165_1
            try clear hfz170_0
            try clear hfz170_1
            obtain ⟨kq, x95_126, rfl, HA, HJ126, HO_196001, HO_201001, HO_210001, HO_235001, BK180, BK181, BK195, BK200, BK209, BK234, HB⟩ := hcut
            have hl210001_126 := (Kd.R_reads' HO_210001.out).1
            rw [hl210001_126] at HO_210001
            (try simp only [hl210001_126])
            (try simp only [hl210001_126] at BK180)
            (try simp only [hl210001_126] at BK181)
            (try simp only [hl210001_126] at BK195)
            (try simp only [hl210001_126] at BK200)
            (try simp only [hl210001_126] at BK209)
            (try simp only [hl210001_126] at BK234)
            (try simp only [hl210001_126] at HO_196001)
            (try simp only [hl210001_126] at HO_201001)
            (try simp only [hl210001_126] at HO_235001)
            cases kq with
            | zero => exact absurd HA.out (by simp [laws_FnExactAddBridge.j2])
            | succ kj126 =>
             have H := HA.out
             clear HA
             simp only [laws_FnExactAddBridge.j2] at H
             by_cases c172 : x95_126 = true
             ·subst c172
              have H1 : (some false) = some r := by rw [if_pos rfl] at H; exact H
              clear H
              have H := H1
              clear H1
              obtain rfl := Option.some.inj H
              cases hr_.out
             ·replace c172 := Bool.eq_false_iff.mpr c172
              subst c172
              have H1 : ((laws_heldIsles.f kj126 t204 t220 1).bind fun t236 => (if t236 < 0 then (some false) else (if t236 = t219 then (some true) else (some false)))) = some r := by rw [if_neg (show ¬ (false = true) by decide)] at H; exact H
              clear H
              have H := H1
              clear H1
              replace H := Option.bind_eq_some_iff.mp H
              obtain ⟨t236, A1730, H⟩ := H
              replace H : (if t236 < 0 then (some false) else (if t236 = t219 then (some true) else (some false))) = some r := H
              have A173 := Aside0.mk A1730
              clear A1730
              by_cases c174 : t236 < 0
              ·rw [if_pos c174] at H
               have c174b0 : decide (t236 < 0) = true := decide_eq_true c174
               clear c174
               obtain rfl := Option.some.inj H
               cases hr_.out
              ·rw [if_neg c174] at H
               have c174b0 : decide (t236 < 0) = false := decide_eq_false c174
               clear c174
               by_cases c182 : t236 = t219
               ·rw [if_pos c182] at H
                have c182b0 : (t236 == t219) = true := beq_iff_eq.mpr c182
                have c182b1 : (t236 != t219) = false := bne_eq_false_iff_eq.mpr c182
                clear c182
                obtain rfl := Option.some.inj H
                have hnb183 := NB209_180.out
                have hnc183 := NB180_209.out
                have hnb184 := NB209_181.out
                have hnc184 := NB181_209.out
                have hnb185 := NB209_195.out
                have hnc185 := NB195_209.out
                have hnb186 := NB209_200.out
                have hnc186 := NB200_209.out
                have hnb187 := NB209_234.out
                have hnc187 := NB234_209.out
                have hcz188_0 : wc.cell? ⟨gb209, 0, none⟩ = some (.int .i64 t204) := (blk_cell BK209.out 0).trans rfl
                have hcz188_1 : wc.cell? ⟨gb209, 1, none⟩ = some (.slice Ao48 t220.length co48) := (blk_cell BK209.out 1).trans rfl
                have hfz188_0 := blk_frozen BK209.out 0
                have hfz188_1 := blk_frozen BK209.out 1
                go_wp2_with (first | ((with_reducible refine gate_callee (f := 11) rfl ?_); refine goesL_ (some 98) rfl rfl Try.func11 (by kernel_rfl) rfl #[.agg #[.int .i64 t204, .slice Ao48 t220.length co48], .int .i64 1] rfl ar_ ?_; (with_reducible refine (laws_heldIsles.calls kj126 t204 _ _ t220 1 t236 _ ?side1 ?side2 A173.out).mono ?_); (case side1 => repeat (first | exact (Kd.R_reads' HO_210001.out).2.2 | (with_reducible refine Kd.C_alloc ?_ _) | (with_reducible refine Kd.C_drewN ?_ _) | (with_reducible refine Kd.C_drew ?_))); (case side2 => exact (Kd.R_reads' HO_210001.out).2.1); rintro e w189 ⟨rfl, hb⟩; refine ⟨_, rfl, ?_⟩; have n0_ := Aside0.mk (Kd.R_below (rr_ HO_196001) hb); have n1_ := Aside0.mk (Kd.R_below (rr_ HO_201001) hb); have n2_ := Aside0.mk (Kd.R_below (rr_ HO_210001) hb); have n3_ := Aside0.mk (Kd.R_below (rr_ HO_235001) hb); have n4_ := Aside0.mk (blk_below (g := gb180) (o := .cells #[.int .i64 a0_0, .slice A0_1 l0_1.length c0_1] 24 (0, 0)) (bk_ BK180) hb); have n5_ := Aside0.mk (blk_below (g := gb181) (o := .cells #[.int .i64 a1_0, .int .i64 a1_1, .int .i64 a1_2] 26 (0, 0)) (bk_ BK181) hb); have n6_ := Aside0.mk (blk_below (g := gb195) (o := .cells #[.int .i64 t190, .slice Ao30 t191.length co30] 30 (0, 0)) (bk_ BK195) hb); have n7_ := Aside0.mk (blk_below (g := gb200) (o := .cells #[.int .i64 t196, .slice Ao40 t217.length co40] 30 (0, 0)) (bk_ BK200) hb); have n8_ := Aside0.mk (blk_below (g := gb209) (o := .cells #[.int .i64 t204, .slice Ao48 t220.length co48] 30 (0, 0)) (bk_ BK209) hb); have n9_ := Aside0.mk (blk_below (g := gb234) (o := .cells #[.int .i64 t229, .slice Ao144 t230.length co144] 30 (0, 0)) (bk_ BK234) hb); have n10_ := Aside0.mk (below_step (bl_) hb); clear HO_196001; clear HO_201001; clear HO_210001; clear HO_235001; clear BK180; clear BK181; clear BK195; clear BK200; clear BK209; clear BK234; clear HB; have HO_196001 := n0_; have HO_201001 := n1_; have HO_210001 := n2_; have HO_235001 := n3_; have BK180 := n4_; have BK181 := n5_; have BK195 := n6_; have BK200 := n7_; have BK209 := n8_; have BK234 := n9_; have HB := n10_; clear n0_ n1_ n2_ n3_ n4_ n5_ n6_ n7_ n8_ n9_ n10_; (try clear hb); (try clear hb2); (try clear hk); (try clear hi)))
                go_ret
                exact ⟨by first | rfl | (simp [errW_none, errW_some] <;> rfl) | (simp [*, errW_none, errW_some] <;> rfl), bl_⟩
               ·rw [if_neg c182] at H
                have c182b0 : (t236 == t219) = false := beq_eq_false_iff_ne.mpr c182
                have c182b1 : (t236 != t219) = true := bne_iff_ne.mpr c182
                obtain rfl := Option.some.inj H
                cases hr_.out
          ·rw [if_neg c123] at H
           have c123b0 : (t221 == t219) = false := beq_eq_false_iff_ne.mpr c123
           have c123b1 : (t221 != t219) = true := bne_iff_ne.mpr c123
           obtain rfl := Option.some.inj H
           cases hr_.out
     ·replace c75 := Bool.eq_false_iff.mpr c75
      subst c75
      have H1 : (some false) = some r := by rw [if_neg (show ¬ (false = true) by decide)] at H; exact H
      clear H
      have H := H1
      clear H1
      obtain rfl := Option.some.inj H
      cases hr_.out

end Go.Proofs.Ytgfpdbebeibdkaa.Q
