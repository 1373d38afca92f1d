/- Go functions of this seat as plain functions, each with the proof that its call comes to what that function says: written by this session's program (wip/drive.py) out of the translation, by the kit's printer and by texts of our own; no conditions. -/
import Derived.Test.YtkikaakfdggklaaQx0
import Derived.Test.YtkikaakfdggklaaQx24
import Derived.Test.YtkikaakfdggklaaQx25
import Derived.Test.YtkikaakfdggklaaQx26
import Derived.Test.YtkikaakfdggklaaQx45
import Derived.Test.YtkikaakfdggklaaQx56
namespace Go.Proofs.Ytkikaakfdggklaa.Q
open Go.RowKit Go.Proofs.YtkikaakfdggklaaW.PrintWords Go.Proofs.YtkikaakfdggklaaW.PrintLast Go.Proofs.YtkikaakfdggklaaW.PrintMore
attribute [local go_sem] max2_int min2_int max_two min_two max_three min_three max_four min_four   -- for this text's walks alone
set_option linter.unusedVariables false
set_option linter.unusedSimpArgs false

/-! ### spec_FirstWayOver: function 55 -/
def spec_FirstWayOver.f (k : Nat) (a0_0 : Int) (l0_1 : List (S37)) (a1 : Int) (a2 : Int) : Option (List Int × Bool) := (spec_isBoth.f k a0_0 l0_1 a1 a2).bind fun t900 => (if t900 = true then ((spec_isTolls.f k a0_0 l0_1 a2 false).bind fun t904 => (if 0 ≤ a1 then (if a1 < (t904.length : Int) then ((spec_isWay.f k a0_0 l0_1 (([a1] : List Int)) a2 (rd t904 a1)).bind fun bt908 => (some (bt908.1, bt908.2))) else (none)) else (none))) else (some (([] : List Int), false)))
theorem spec_FirstWayOver.mono : ∀ a0 a1 a2 a3 k, LeO (spec_FirstWayOver.f k a0 a1 a2 a3) (spec_FirstWayOver.f (k + 1) a0 a1 a2 a3) := by
  intro a0 a1 a2 a3 k
  unfold spec_FirstWayOver.f
  repeat' first
      | (with_reducible exact spec_isBoth.mono _ _ _ _ _)
      | (with_reducible exact spec_isTolls.mono _ _ _ _ _)
      | (with_reducible exact spec_isWay.mono _ _ _ _ _ _)
      | (with_reducible exact LeO.refl _)
      | (with_reducible exact LeO.none _)
      | (with_reducible refine LeO.ite ?_ ?_)
      | (with_reducible refine LeO.bind ?_ (fun _ => ?_))
      | exact spec_isBoth.mono _ _ _ _ _
      | exact spec_isTolls.mono _ _ _ _ _
      | exact spec_isWay.mono _ _ _ _ _ _
      | exact LeO.none _
      | refine LeO.ite ?_ ?_
      | refine LeO.bind ?_ (fun _ => ?_)
def spec_FirstWayOver.T3 : Bool × List (List Nat × List Nat) := (true, [([], []), ([], []), ([1], [1]), ([], []), ([], []), ([], []), ([4, 5], [4, 5]), ([], []), ([6, 7], [6, 7]), ([8], [8]), ([0, 2, 3, 9, 6], [0, 2, 3, 9]), ([10], [10]), ([10], [10]), ([11, 10, 0, 1, 2, 3, 4, 5, 6, 7, 8, 9, 10, 11, 12], [11]), ([12, 13, 0, 1, 2, 3, 4, 5, 6, 7, 8, 9, 10, 11, 12, 13], [12])])
def spec_FirstWayOver.B3 : List Nat := [0, 0, 2, 0, 0, 0, 48, 0, 240, 496, 1023, 2047, 2047, 8191, 16383]
theorem spec_FirstWayOver.tab3 : rtab .any (opsOf Try.f55 3) = spec_FirstWayOver.T3 := by kernel_rfl
theorem spec_FirstWayOver.bits3 : waitsOk spec_FirstWayOver.T3.2 spec_FirstWayOver.B3 = true := by kernel_rfl
set_option maxHeartbeats 8000000 in
set_option maxRecDepth 100000 in
theorem spec_FirstWayOver.calls (k : Nat) (a0_0 : Int) (A0_1 : Option Addr) (c0_1 : Nat) (l0_1 : List (S37)) (a1 : Int) (a2 : Int) (r1 : List Int) (r2 : Bool) (w : World) (hr0_1 : Kd.C k37 w A0_1 l0_1.length l0_1) (hc0_1 : l0_1.length ≤ c0_1) (h : spec_FirstWayOver.f k a0_0 l0_1 a1 a2 = some (r1, r2)) :
    Calls Try.prog 55 #[.agg #[.int .i64 a0_0, .slice A0_1 l0_1.length c0_1], .int .i64 a1, .int .i64 a2] w fun e w' => ∃ v0_ : Value, e = .returned (.tuple #[v0_, .bool r2]) ∧ Kd.R (Kd.int .i64) 3 w' w.heap.size (fun _ => True) v0_ r1 ∧ Below w.heap.size w w' := by
  have hu29 := Try.underlying29
  have HR0_1 := Aside0.mk hr0_1
  have HC0_1 := Aside0.mk hc0_1
  clear hr0_1 hc0_1
  have HB := Aside0.mk (Below.refl w.heap.size w)
  have H : ((spec_isBoth.f k a0_0 l0_1 a1 a2).bind fun t900 => (if t900 = true then ((spec_isTolls.f k a0_0 l0_1 a2 false).bind fun t904 => (if 0 ≤ a1 then (if a1 < (t904.length : Int) then ((spec_isWay.f k a0_0 l0_1 (([a1] : List Int)) a2 (rd t904 a1)).bind fun bt908 => (some (bt908.1, bt908.2))) else (none)) else (none))) else (some (([] : List Int), false)))) = some (r1, r2) := h
  clear h
  replace H := Option.bind_eq_some_iff.mp H
  obtain ⟨t900, A40, H⟩ := H
  replace H : (if t900 = true then ((spec_isTolls.f k a0_0 l0_1 a2 false).bind fun t904 => (if 0 ≤ a1 then (if a1 < (t904.length : Int) then ((spec_isWay.f k a0_0 l0_1 (([a1] : List Int)) a2 (rd t904 a1)).bind fun bt908 => (some (bt908.1, bt908.2))) else (none)) else (none))) else (some (([] : List Int), false))) = some (r1, r2) := H
  have A4 := Aside0.mk A40
  clear A40
  by_cases c5 : t900 = true
  · subst c5
    have H1 : ((spec_isTolls.f k a0_0 l0_1 a2 false).bind fun t904 => (if 0 ≤ a1 then (if a1 < (t904.length : Int) then ((spec_isWay.f k a0_0 l0_1 (([a1] : List Int)) a2 (rd t904 a1)).bind fun bt908 => (some (bt908.1, bt908.2))) else (none)) else (none))) = some (r1, r2) := by rw [if_pos rfl] at H; exact H
    clear H
    have H := H1
    clear H1
    obtain ⟨y901, hy901⟩ : ∃ y_ : List Int, y_ = (([a1] : List Int)) := ⟨_, rfl⟩
    replace H : ((spec_isTolls.f k a0_0 l0_1 a2 false).bind fun t904 => (if 0 ≤ a1 then (if a1 < (t904.length : Int) then ((spec_isWay.f k a0_0 l0_1 y901 a2 (rd t904 a1)).bind fun bt908 => (some (bt908.1, bt908.2))) else (none)) else (none))) = some (r1, r2) := by first | (rw [hy901]; with_reducible exact H) | (have H2_ := (Option.bind_some _ _).symm.trans H; rw [hy901]; with_reducible exact H2_) | (have H2_ := (Option.bind_some _ _).symm.trans H; with_reducible exact H2_) | with_reducible exact H | (rw [hy901]; exact H) | exact H
    have Ny901 := Aside0.mk hy901
    clear hy901
    replace H := Option.bind_eq_some_iff.mp H
    obtain ⟨t904, A60, H⟩ := H
    replace H : (if 0 ≤ a1 then (if a1 < (t904.length : Int) then ((spec_isWay.f k a0_0 l0_1 y901 a2 (rd t904 a1)).bind fun bt908 => (some (bt908.1, bt908.2))) else (none)) else (none)) = some (r1, r2) := H
    have A6 := Aside0.mk A60
    clear A60
    by_cases c7 : 0 ≤ a1
    · rw [if_pos c7] at H
      have c7b0 : decide (0 ≤ a1) = true := decide_eq_true c7
      clear c7
      by_cases c8 : a1 < (t904.length : Int)
      · rw [if_pos c8] at H
        have c8b0 : decide (a1 < (t904.length : Int)) = true := decide_eq_true c8
        clear c8
        replace H := Option.bind_eq_some_iff.mp H
        obtain ⟨⟨t908, t911⟩, A90, H⟩ := H
        replace H : (some (t908, t911)) = some (r1, r2) := H
        have A9 := Aside0.mk A90
        clear A90
        simp only [Option.some.injEq, Prod.mk.injEq] at H
        obtain ⟨rfl, rfl⟩ := H
        go_enter Try.func55, Try.ntmps55
        try go_wp2_with (first | ((with_reducible refine gate_dst (N := 3) rfl ?_); refine box_event ?hg (N := 3) ?hd (cs := #[.int .i64 a0_0, .slice A0_1 l0_1.length c0_1]) (t := 29) ?hr ?_; (case hd => rfl); (case hg => rfl); (case hr => first | (go_simp; done) | (go_simp; rfl)); intro gb899 hg w10 hbox hb; have n0_ := Aside0.mk (below_step (by repeat (first | (with_reducible first | exact HB.out | apply below_alloc | apply pw_below_drewN | apply below_drew1) | exact HB.out)) hb); have n1_ := Aside0.mk (hbox); have n2_ := Aside0.mk ((by rw [hg]; exact (below_size (by repeat (first | (with_reducible first | exact HB.out | apply below_alloc | apply pw_below_drewN | apply below_drew1) | exact HB.out))) : w.heap.size ≤ gb899)); have n3_ := Aside0.mk ((by rw [hg]; exact (below_size (by repeat (first | (with_reducible first | exact HB.out | apply below_alloc | apply pw_below_drewN | apply below_drew1) | exact HB.out))) : w.heap.size ≤ gb899)); clear HB; have HB := n0_; have BK899 := n1_; have GW899 := n2_; have GE899 := n3_; clear n0_ n1_ n2_ n3_; clear hb hbox hg; have hcz11_0 : w10.cell? ⟨gb899, 0, none⟩ = some (.int .i64 a0_0) := (blk_cell BK899.out 0).trans rfl; have hcz11_1 : w10.cell? ⟨gb899, 1, none⟩ = some (.slice A0_1 l0_1.length c0_1) := (blk_cell BK899.out 1).trans rfl; have hfz11_0 := blk_frozen BK899.out 0; have hfz11_1 := blk_frozen BK899.out 1) | ((with_reducible refine gate_callee (f := 80) rfl ?_); refine goesL_ (some 11) rfl rfl Try.func80 (by kernel_rfl) rfl #[.agg #[.int .i64 a0_0, .slice A0_1 l0_1.length c0_1], .int .i64 a1, .int .i64 a2] rfl (by (try simp only [List.map_toArray, List.map_cons, List.map_nil]); first | done | rfl | (simp only [List.length_drop, List.length_take]; rfl)) ?_; (with_reducible refine (spec_isBoth.calls k a0_0 _ _ l0_1 a1 a2 true _ ?side1 ?side2 A4.out).mono ?_); (case side1 => repeat (first | exact (Kd.C_below HR0_1.out HB.out) | (with_reducible refine Kd.C_alloc ?_ _) | (with_reducible refine Kd.C_drewN ?_ _) | (with_reducible refine Kd.C_drew ?_))); (case side2 => exact HC0_1.out); rintro e w12 ⟨rfl, hb⟩; refine ⟨_, rfl, ?_⟩; have n0_ := Aside0.mk (blk_below (g := gb899) (o := .cells #[.int .i64 a0_0, .slice A0_1 l0_1.length c0_1] 29 (0, 0)) (by (with_reducible repeat (first | refine blk_drewN ?_ _ | refine blk_drew ?_ | refine blk_alloc ?_ _)); exact BK899.out) hb); have n1_ := Aside0.mk (below_step (by repeat (first | (with_reducible first | exact HB.out | apply below_alloc | apply pw_below_drewN | apply below_drew1 | refine below_set ?_ GE899.out) | exact HB.out)) hb); clear BK899; clear HB; have BK899 := n0_; have HB := n1_; clear n0_ n1_; (try clear hb); (try clear hb2); (try clear hk); (try clear hi)))
        have n0_ := Aside0.mk (blk_drew BK899.out)
        have n1_ := Aside0.mk (below_drew1 HB.out)
        clear BK899
        clear HB
        have BK899 := n0_
        have HB := n1_
        clear n0_ n1_
        have pz_ : 0 ≤ (a1 : Int) := of_decide_eq_true (by first | (with_reducible assumption) | assumption)
        have qz_ : a1 < (t904.length : Int) := of_decide_eq_true (by first | (with_reducible assumption) | assumption)
        refine start_ (n := 15) (S := fun w' => True) (ds := []) #[false, false, false, false, false, false, false, false, false, false, false, false, false, false, false] (by kernel_rfl) rfl rfl trivial (fun hHeld => ?_); refine with_tabW spec_FirstWayOver.tab3 spec_FirstWayOver.bits3 (fun HT_ HW_ => ?_)
        generalize w12.drew = w13 at BK899 HB hHeld ⊢
        refine pure_ (i := 1) (N := some 14) (v := ?_) (a' := ?_) #[false, true, false, false, false, false, false, false, false, false, false, false, false, false, false] rfl rfl (any_of HT_.out (by kernel_rfl)) (fun _ _ _ h => h) (Or.inl ⟨by rfl, ?_⟩) ?_ ?_
        rotate_left
        · intro w'
          go_simp
          with_reducible rfl
        rotate_left
        · simp only [Act.put, List.setIfInBounds_toArray, List.set_cons_zero, List.set_cons_succ, i64_w, i32_w]
          rfl
        refine pure_ (i := 3) (N := some 16) (v := ?_) (a' := ?_) #[false, true, false, true, false, false, false, false, false, false, false, false, false, false, false] rfl rfl (any_of HT_.out (by kernel_rfl)) (fun _ _ _ h => h) (Or.inl ⟨by rfl, ?_⟩) ?_ ?_
        rotate_left
        · intro w'
          go_simp
          with_reducible rfl
        rotate_left
        · simp only [Act.put, List.setIfInBounds_toArray, List.set_cons_zero, List.set_cons_succ, i64_w, i32_w]
          rfl
        refine pure_ (i := 5) (N := some 18) (v := ?_) (a' := ?_) #[false, true, false, true, false, true, false, false, false, false, false, false, false, false, false] rfl rfl (any_of HT_.out (by kernel_rfl)) (fun _ _ _ h => h) (Or.inl ⟨by rfl, ?_⟩) ?_ ?_
        rotate_left
        · intro w'
          go_simp
          with_reducible rfl
        rotate_left
        · simp only [Act.put, List.setIfInBounds_toArray, List.set_cons_zero, List.set_cons_succ, i64_w, i32_w]
          rfl
        refine pure_ (i := 7) (N := some 20) (v := ?_) (a' := ?_) #[false, true, false, true, false, true, false, true, false, false, false, false, false, false, false] rfl rfl (any_of HT_.out (by kernel_rfl)) (fun _ _ _ h => h) (Or.inl ⟨by rfl, ?_⟩) ?_ ?_
        rotate_left
        · intro w'
          go_simp
          with_reducible rfl
        rotate_left
        · simp only [Act.put, List.setIfInBounds_toArray, List.set_cons_zero, List.set_cons_succ, i64_w, i32_w]
          rfl
        refine inv_at [0, 2, 4, 6, 8, 9, 10, 11, 12, 13, 14] (fun a0_ b a w' => ∃ (mz_ : Value) (v902 : Value) (v905 : Value) (v909 : Value) (m10_ : Value) (m11_ : Value) (m13_ : Value), a = putSel a0_ b [(0, 13, .agg #[.int .i64 a0_0, .slice A0_1 l0_1.length c0_1]), (2, 15, v902), (4, 17, .agg #[.int .i64 a0_0, .slice A0_1 l0_1.length c0_1]), (6, 19, v905), (8, 21, mz_), (9, 22, .int .i64 (rd t904 a1)), (10, 23, m10_), (11, 24, m11_), (12, 25, .bool t911), (13, 6, m13_), (14, 7, .bool t911)] ∧ (w'.heap[gb899]? = some (.cells #[.int .i64 a0_0, .slice A0_1 l0_1.length c0_1] 29 (0, 0))) ∧ (Below w.heap.size w w') ∧ (b 2 = true → Kd.R (Kd.int .i64) 3 w' w.heap.size (fun _ => True) v902 y901) ∧ (b 6 = true → Kd.R (Kd.int .i64) 3 w' w.heap.size (fun _ => True) v905 t904) ∧ (b 10 = true → Kd.R (Kd.int .i64) 3 w' w.heap.size (fun _ => True) v909 t908) ∧ (b 10 = true → (m10_ : Value) = .tuple #[v909, .bool t911]) ∧ (b 11 = true → (m11_ : Value) = v909) ∧ (b 13 = true → (m13_ : Value) = v909) ∧ (b 8 = true → ∃ (z_ : Addr) (c_ : Nat), v905 = .slice (some z_) t904.length c_ ∧ mz_ = .pointer (some (z_.add (a1).toNat)))) HT_.out HW_.out (by kernel_rfl) (by kernel_rfl) ?_ ?_ ?_
        · exact ⟨.bool false, .bool false, .bool false, .bool false, .bool false, .bool false, .bool false, by simp only [putSel, Bool.false_eq_true, if_false], BK899.out, HB.out, fun h_ => absurd h_ (by decide), fun h_ => absurd h_ (by decide), fun h_ => absurd h_ (by decide), fun h_ => absurd h_ (by decide), fun h_ => absurd h_ (by decide), fun h_ => absurd h_ (by decide), fun h_ => absurd h_ (by decide)⟩
        · skip
          clear BK899 HB
          refine steps_cons ?_ ?_
          · rintro b a w' ⟨mz_, v902, v905, v909, m10_, m11_, m13_, ha, Q_BK899, Q_HB, Q_HO903, Q_HO906, Q_HO910, Q_X10_, Q_X11_, Q_X13_, Q_Z_⟩ hb_ hon hoff
            refine ⟨_, rfl, fun K hK => ?_⟩
            have e3 : a.tmps[3]? = some (.pointer (some ⟨gb899, 0, none⟩)) := by rw [ha]; exact (putSel_off rfl).trans rfl
            replace ha := Aside0.mk ha
            have BK899 := Aside0.mk Q_BK899
            have HB := Aside0.mk Q_HB
            have hc0_ : w'.cell? ⟨gb899, 0, none⟩ = some (.int .i64 a0_0) := (blk_cell BK899.out 0).trans rfl
            have hc1_ : w'.cell? ⟨gb899, 1, none⟩ = some (.slice A0_1 l0_1.length c0_1) := (blk_cell BK899.out 1).trans rfl
            refine value_ (w1 := w') (v := .agg #[.int .i64 a0_0, .slice A0_1 l0_1.length c0_1]) (by rfl) rfl ?_ ?_
            · go_simp
              (try simp only [i64_w])
              try rfl
            refine hK.out _ _ ⟨mz_, v902, v905, v909, m10_, m11_, m13_, (by rw [ha.out]; exact putSel_upk 0 hb_ rfl rfl rfl), Q_BK899, Q_HB, Q_HO903, Q_HO906, fun h0_ => absurd ((hoff 10 (by kernel_rfl)).symm.trans h0_) (by decide), fun h0_ => absurd ((hoff 10 (by kernel_rfl)).symm.trans h0_) (by decide), fun h0_ => absurd ((hoff 11 (by kernel_rfl)).symm.trans h0_) (by decide), fun h0_ => absurd ((hoff 13 (by kernel_rfl)).symm.trans h0_) (by decide), Q_Z_⟩
          refine steps_cons ?_ ?_
          · rintro b a w' ⟨mz_, v902, v905, v909, m10_, m11_, m13_, ha, Q_BK899, Q_HB, Q_HO903, Q_HO906, Q_HO910, Q_X10_, Q_X11_, Q_X13_, Q_Z_⟩ hb_ hon hoff
            refine ⟨_, rfl, fun K hK => ?_⟩
            have e14 : a.tmps[14]? = some (.int .i64 a1) := by rw [ha]; exact (putSel_off rfl).trans rfl
            replace ha := Aside0.mk ha
            have BK899 := Aside0.mk Q_BK899
            have HB := Aside0.mk Q_HB
            refine Kd.R_lit_step (Kd.int .i64) _ 3 ?hg (N := 15) ?hd (xs := ([a1] : List Int)) (inner := [.int .i64 a1]) (ok := fun _ => True) (okp := fun _ => True) ?hr ?hp (fun _ hk => hk) trivial (Below.refl _ _) (Nat.le_refl _) (by simp) ?_; (case hd => rfl); (case hg => rfl); (case hr => first | (go_simp; done) | (go_simp; rfl)); (case hp => exact (Reps.one (show Kd.M (Kd.int .i64) _ _ _ a1 [.int .i64 a1] from rfl) (Reps.none _ _)))
            intro v902 w14 ho15 hb hg_ hnew_
            clear hg_ hnew_
            (first | rw [← Ny901.out] at ho15 | (simp only [Int.reduceToNat] at ho15; rw [← Ny901.out] at ho15))
            have n0_ := Aside0.mk (Kd.R_lower ho15 (below_size (by repeat (first | (with_reducible first | exact HB.out | apply below_alloc | apply pw_below_drewN | apply below_drew1 | refine below_set ?_ GE899.out) | exact HB.out))))
            have n1_ := Aside0.mk (blk_below (g := gb899) (o := .cells #[.int .i64 a0_0, .slice A0_1 l0_1.length c0_1] 29 (0, 0)) (by (with_reducible repeat (first | refine blk_drewN ?_ _ | refine blk_drew ?_ | refine blk_alloc ?_ _)); exact BK899.out) hb)
            have n2_ := Aside0.mk (below_step (by repeat (first | (with_reducible first | exact HB.out | apply below_alloc | apply pw_below_drewN | apply below_drew1 | refine below_set ?_ GE899.out) | exact HB.out)) hb)
            have z_HO906 := fun (h0_ : b 6 = true) => (show Kd.R (Kd.int .i64) 3 w14 w.heap.size (fun _ => True) v905 t904 from by first | exact (Kd.R_elder' (by (with_reducible repeat (first | apply Kd.R_alloc | apply Kd.R_drewN | apply Kd.R_drew)); exact (Q_HO906 h0_)) (Kd.R_base ho15) hb) | exact Kd.R_mono (Kd.R_elder' (by (with_reducible repeat (first | apply Kd.R_alloc | apply Kd.R_drewN | apply Kd.R_drew)); exact (Q_HO906 h0_)) (Kd.R_base ho15) hb) (fun _ h_ => by first | trivial | exact h_ | exact h_.1))
            clear BK899
            clear HB
            have HO903 := n0_
            have BK899 := n1_
            have HB := n2_
            clear n0_ n1_ n2_
            clear hb ho15
            refine hK.out _ _ ⟨mz_, v902, v905, v909, m10_, m11_, m13_, (by rw [ha.out]; exact putSel_upk 1 hb_ rfl rfl rfl), (by (with_reducible repeat (first | refine blk_drewN ?_ _ | refine blk_drew ?_ | refine blk_alloc ?_ _)); exact BK899.out), (by repeat (first | (with_reducible first | exact HB.out | apply below_alloc | apply pw_below_drewN | apply below_drew1 | refine below_set ?_ GE899.out) | exact HB.out)), fun _ => (by (with_reducible repeat (first | apply Kd.R_alloc | apply Kd.R_drewN | apply Kd.R_drew)); exact Kd.R_mono HO903.out (fun _ _ => trivial)), z_HO906, fun h0_ => absurd ((hoff 10 (by kernel_rfl)).symm.trans h0_) (by decide), fun h0_ => absurd ((hoff 10 (by kernel_rfl)).symm.trans h0_) (by decide), fun h0_ => absurd ((hoff 11 (by kernel_rfl)).symm.trans h0_) (by decide), fun h0_ => absurd ((hoff 13 (by kernel_rfl)).symm.trans h0_) (by decide), Q_Z_⟩
          refine steps_cons ?_ ?_
          · rintro b a w' ⟨mz_, v902, v905, v909, m10_, m11_, m13_, ha, Q_BK899, Q_HB, Q_HO903, Q_HO906, Q_HO910, Q_X10_, Q_X11_, Q_X13_, Q_Z_⟩ hb_ hon hoff
            refine ⟨_, rfl, fun K hK => ?_⟩
            have e3 : a.tmps[3]? = some (.pointer (some ⟨gb899, 0, none⟩)) := by rw [ha]; exact (putSel_off rfl).trans rfl
            replace ha := Aside0.mk ha
            have BK899 := Aside0.mk Q_BK899
            have HB := Aside0.mk Q_HB
            have hc0_ : w'.cell? ⟨gb899, 0, none⟩ = some (.int .i64 a0_0) := (blk_cell BK899.out 0).trans rfl
            have hc1_ : w'.cell? ⟨gb899, 1, none⟩ = some (.slice A0_1 l0_1.length c0_1) := (blk_cell BK899.out 1).trans rfl
            refine value_ (w1 := w') (v := .agg #[.int .i64 a0_0, .slice A0_1 l0_1.length c0_1]) (by rfl) rfl ?_ ?_
            · go_simp
              (try simp only [i64_w])
              try rfl
            refine hK.out _ _ ⟨mz_, v902, v905, v909, m10_, m11_, m13_, (by rw [ha.out]; exact putSel_upk 2 hb_ rfl rfl rfl), Q_BK899, Q_HB, Q_HO903, fun h0_ => absurd ((hoff 6 (by kernel_rfl)).symm.trans h0_) (by decide), fun h0_ => absurd ((hoff 10 (by kernel_rfl)).symm.trans h0_) (by decide), fun h0_ => absurd ((hoff 10 (by kernel_rfl)).symm.trans h0_) (by decide), fun h0_ => absurd ((hoff 11 (by kernel_rfl)).symm.trans h0_) (by decide), fun h0_ => absurd ((hoff 13 (by kernel_rfl)).symm.trans h0_) (by decide), Q_Z_⟩
          refine steps_cons ?_ ?_
          · rintro b a w' ⟨mz_, v902, v905, v909, m10_, m11_, m13_, ha, Q_BK899, Q_HB, Q_HO903, Q_HO906, Q_HO910, Q_X10_, Q_X11_, Q_X13_, Q_Z_⟩ hb_ hon hoff
            refine ⟨_, rfl, fun K hK => ?_⟩
            have e17 : a.tmps[17]? = some (.agg #[.int .i64 a0_0, .slice A0_1 l0_1.length c0_1]) := by rw [ha]; exact putSel_on (e := (4, 17, .agg #[.int .i64 a0_0, .slice A0_1 l0_1.length c0_1])) 2 rfl rfl (hon 4 (by kernel_rfl)) rfl
            have e18 : a.tmps[18]? = some (.int .i64 a2) := by rw [ha]; exact (putSel_off rfl).trans rfl
            replace ha := Aside0.mk ha
            have BK899 := Aside0.mk Q_BK899
            have HB := Aside0.mk Q_HB
            refine goes_ Try.func81 (by kernel_rfl) rfl #[.agg #[.int .i64 a0_0, .slice A0_1 l0_1.length c0_1], .int .i64 a2, .bool false] (by rfl) rfl rfl (by first | (simp only [List.map_toArray, List.map_cons, List.map_nil, Act.eval, Array.getD_eq_getD_getElem?, Option.getD_some, e17, e18]; done) | (simp only [List.map_toArray, List.map_cons, List.map_nil, Act.eval, Array.getD_eq_getD_getElem?, Option.getD_some, e17, e18]; rfl)) ?_
            with_reducible refine (spec_isTolls.calls k a0_0 _ _ l0_1 a2 false t904 _ ?side1 ?side2 A6.out).mono ?_
            (case side1 => repeat (first | exact (Kd.C_below HR0_1.out HB.out) | (with_reducible refine Kd.C_alloc ?_ _) | (with_reducible refine Kd.C_drewN ?_ _) | (with_reducible refine Kd.C_drew ?_)))
            (case side2 => exact HC0_1.out)
            rintro e w14 ⟨v905, rfl, ho0, hb⟩
            refine ⟨_, rfl, ?_⟩
            have n0_ := Aside0.mk (Kd.R_lower ho0 (below_size (by repeat (first | (with_reducible first | exact HB.out | apply below_alloc | apply pw_below_drewN | apply below_drew1 | refine below_set ?_ GE899.out) | exact HB.out))))
            have n1_ := Aside0.mk (blk_below (g := gb899) (o := .cells #[.int .i64 a0_0, .slice A0_1 l0_1.length c0_1] 29 (0, 0)) (by (with_reducible repeat (first | refine blk_drewN ?_ _ | refine blk_drew ?_ | refine blk_alloc ?_ _)); exact BK899.out) hb)
            have n2_ := Aside0.mk (below_step (by repeat (first | (with_reducible first | exact HB.out | apply below_alloc | apply pw_below_drewN | apply below_drew1 | refine below_set ?_ GE899.out) | exact HB.out)) hb)
            have z_HO903 := fun (h0_ : b 2 = true) => (show Kd.R (Kd.int .i64) 3 w14 w.heap.size (fun _ => True) v902 y901 from by first | exact (Kd.R_elder' (by (with_reducible repeat (first | apply Kd.R_alloc | apply Kd.R_drewN | apply Kd.R_drew)); exact (Q_HO903 h0_)) (Kd.R_base ho0) hb) | exact Kd.R_mono (Kd.R_elder' (by (with_reducible repeat (first | apply Kd.R_alloc | apply Kd.R_drewN | apply Kd.R_drew)); exact (Q_HO903 h0_)) (Kd.R_base ho0) hb) (fun _ h_ => by first | trivial | exact h_ | exact h_.1))
            clear BK899
            clear HB
            have HO906 := n0_
            have BK899 := n1_
            have HB := n2_
            clear n0_ n1_ n2_
            (try clear hb)
            (try clear hb2)
            (try clear hk)
            (try clear hi)
            (try clear ho0)
            refine hK.out _ _ ⟨mz_, v902, v905, v909, m10_, m11_, m13_, (by rw [ha.out]; exact putSel_upk 3 hb_ rfl rfl rfl), (by (with_reducible repeat (first | refine blk_drewN ?_ _ | refine blk_drew ?_ | refine blk_alloc ?_ _)); exact BK899.out), (by repeat (first | (with_reducible first | exact HB.out | apply below_alloc | apply pw_below_drewN | apply below_drew1 | refine below_set ?_ GE899.out) | exact HB.out)), z_HO903, fun _ => (by (with_reducible repeat (first | apply Kd.R_alloc | apply Kd.R_drewN | apply Kd.R_drew)); exact Kd.R_mono HO906.out (fun _ _ => trivial)), fun h0_ => absurd ((hoff 10 (by kernel_rfl)).symm.trans h0_) (by decide), fun h0_ => absurd ((hoff 10 (by kernel_rfl)).symm.trans h0_) (by decide), fun h0_ => absurd ((hoff 11 (by kernel_rfl)).symm.trans h0_) (by decide), fun h0_ => absurd ((hoff 13 (by kernel_rfl)).symm.trans h0_) (by decide), fun h0_ => absurd ((hoff 8 (by kernel_rfl)).symm.trans h0_) (by decide)⟩
          refine steps_cons ?_ ?_
          · rintro b a w' ⟨mz_, v902, v905, v909, m10_, m11_, m13_, ha, Q_BK899, Q_HB, Q_HO903, Q_HO906, Q_HO910, Q_X10_, Q_X11_, Q_X13_, Q_Z_⟩ hb_ hon hoff
            refine ⟨_, rfl, fun K hK => ?_⟩
            have e19 : a.tmps[19]? = some (v905) := by rw [ha]; exact putSel_on (e := (6, 19, v905)) 3 rfl rfl (hon 6 (by kernel_rfl)) rfl
            have e20 : a.tmps[20]? = some (.int .i64 a1) := by rw [ha]; exact (putSel_off rfl).trans rfl
            replace ha := Aside0.mk ha
            have BK899 := Aside0.mk Q_BK899
            have HB := Aside0.mk Q_HB
            have HO906 := Aside0.mk (Q_HO906 (hon 6 (by kernel_rfl)))
            obtain ⟨Az_, c_, hv_⟩ := Kd.R_slice HO906.out
            have hr_ := HO906.out
            rw [hv_] at hr_
            obtain ⟨z_, ez_, _⟩ := Kd.at_int (Kd.R_reads' hr_).2.2 a1 pz_ qz_
            subst ez_
            rw [hv_] at e19
            refine value_ (w1 := w') (v := .pointer (some (z_.add (a1).toNat))) (by rfl) rfl ?_ ?_
            · go_simp
              (try simp only [i64_w])
              try rfl
            refine hK.out _ _ ⟨(.pointer (some (z_.add (a1).toNat))), v902, v905, v909, m10_, m11_, m13_, (by rw [ha.out]; exact putSel_upk 4 hb_ rfl rfl rfl), Q_BK899, Q_HB, Q_HO903, Q_HO906, fun h0_ => absurd ((hoff 10 (by kernel_rfl)).symm.trans h0_) (by decide), fun h0_ => absurd ((hoff 10 (by kernel_rfl)).symm.trans h0_) (by decide), fun h0_ => absurd ((hoff 11 (by kernel_rfl)).symm.trans h0_) (by decide), fun h0_ => absurd ((hoff 13 (by kernel_rfl)).symm.trans h0_) (by decide), fun _ => ⟨z_, c_, hv_, rfl⟩⟩
          refine steps_cons ?_ ?_
          · rintro b a w' ⟨mz_, v902, v905, v909, m10_, m11_, m13_, ha, Q_BK899, Q_HB, Q_HO903, Q_HO906, Q_HO910, Q_X10_, Q_X11_, Q_X13_, Q_Z_⟩ hb_ hon hoff
            refine ⟨_, rfl, fun K hK => ?_⟩
            have e21 : a.tmps[21]? = some (mz_) := by rw [ha]; exact putSel_on (e := (8, 21, mz_)) 4 rfl rfl (hon 8 (by kernel_rfl)) rfl
            obtain ⟨z_, c_, hv_, hm_⟩ := Q_Z_ (hon 8 (by kernel_rfl))
            rw [hm_] at e21
            replace ha := Aside0.mk ha
            have BK899 := Aside0.mk Q_BK899
            have HB := Aside0.mk Q_HB
            have HO906 := Aside0.mk (Q_HO906 (hon 6 (by kernel_rfl)))
            have hr_ := HO906.out
            rw [hv_] at hr_
            obtain ⟨adz_, ez_, hx907_0_z⟩ := Kd.at_int (Kd.R_reads' hr_).2.2 a1 pz_ qz_
            rw [show z_ = adz_ from Option.some.inj ez_] at e21
            have hs0_ : w'.cell? (adz_.add (a1).toNat) = some (.int .i64 (rd t904 a1)) := (by first | exact hx907_0_z | (have h_ := hx907_0_z; (try simp only [Int.reduceToNat, Nat.zero_mul, Nat.reduceMul, Nat.reduceEqDiff, Go.Addr.add, ↓reduceIte, Addr.add_zero'] at h_); exact h_))
            refine value_ (w1 := w') (v := .int .i64 (rd t904 a1)) (by rfl) rfl ?_ ?_
            · go_simp
              (try simp only [i64_w])
              try rfl
            refine hK.out _ _ ⟨mz_, v902, v905, v909, m10_, m11_, m13_, (by rw [ha.out]; exact putSel_upk 5 hb_ rfl rfl rfl), Q_BK899, Q_HB, Q_HO903, Q_HO906, fun h0_ => absurd ((hoff 10 (by kernel_rfl)).symm.trans h0_) (by decide), fun h0_ => absurd ((hoff 10 (by kernel_rfl)).symm.trans h0_) (by decide), fun h0_ => absurd ((hoff 11 (by kernel_rfl)).symm.trans h0_) (by decide), fun h0_ => absurd ((hoff 13 (by kernel_rfl)).symm.trans h0_) (by decide), Q_Z_⟩
          refine steps_cons ?_ ?_
          · rintro b a w' ⟨mz_, v902, v905, v909, m10_, m11_, m13_, ha, Q_BK899, Q_HB, Q_HO903, Q_HO906, Q_HO910, Q_X10_, Q_X11_, Q_X13_, Q_Z_⟩ hb_ hon hoff
            refine ⟨_, rfl, fun K hK => ?_⟩
            have e13 : a.tmps[13]? = some (.agg #[.int .i64 a0_0, .slice A0_1 l0_1.length c0_1]) := by rw [ha]; exact putSel_on (e := (0, 13, .agg #[.int .i64 a0_0, .slice A0_1 l0_1.length c0_1])) 0 rfl rfl (hon 0 (by kernel_rfl)) rfl
            have e15 : a.tmps[15]? = some (v902) := by rw [ha]; exact putSel_on (e := (2, 15, v902)) 1 rfl rfl (hon 2 (by kernel_rfl)) rfl
            have e16 : a.tmps[16]? = some (.int .i64 a2) := by rw [ha]; exact (putSel_off rfl).trans rfl
            have e22 : a.tmps[22]? = some (.int .i64 (rd t904 a1)) := by rw [ha]; exact putSel_on (e := (9, 22, .int .i64 (rd t904 a1))) 5 rfl rfl (hon 9 (by kernel_rfl)) rfl
            replace ha := Aside0.mk ha
            have BK899 := Aside0.mk Q_BK899
            have HB := Aside0.mk Q_HB
            have HO903 := Aside0.mk (Q_HO903 (hon 2 (by kernel_rfl)))
            have HO906 := Aside0.mk (Q_HO906 (hon 6 (by kernel_rfl)))
            obtain ⟨Ao18, co18, eo18⟩ := Kd.R_slice HO903.out
            (first | subst eo18 | (injection eo18 with f1_ f2_ f3_; have f4_ := f1_.symm; have f5_ := f3_.symm; clear f1_ f2_ f3_; subst f4_; subst f5_))
            refine goes_ Try.func97 (by kernel_rfl) rfl #[.agg #[.int .i64 a0_0, .slice A0_1 l0_1.length c0_1], .slice Ao18 y901.length co18, .int .i64 a2, .int .i64 (rd t904 a1)] (by rfl) rfl rfl (by first | (simp only [List.map_toArray, List.map_cons, List.map_nil, Act.eval, Array.getD_eq_getD_getElem?, Option.getD_some, e13, e15, e16, e22]; done) | (simp only [List.map_toArray, List.map_cons, List.map_nil, Act.eval, Array.getD_eq_getD_getElem?, Option.getD_some, e13, e15, e16, e22]; rfl)) ?_
            with_reducible refine (spec_isWay.calls k a0_0 _ _ l0_1 _ _ y901 a2 (rd t904 a1) t908 t911 _ ?side1 ?side2 ?side3 ?side4 A9.out).mono ?_
            (case side1 => repeat (first | exact (Kd.C_below HR0_1.out HB.out) | (with_reducible refine Kd.C_alloc ?_ _) | (with_reducible refine Kd.C_drewN ?_ _) | (with_reducible refine Kd.C_drew ?_)))
            (case side2 => exact HC0_1.out)
            (case side3 => repeat (first | exact (Kd.R_reads' HO903.out).2.2 | (with_reducible refine Kd.C_alloc ?_ _) | (with_reducible refine Kd.C_drewN ?_ _) | (with_reducible refine Kd.C_drew ?_)))
            (case side4 => exact (Kd.R_reads' HO903.out).2.1)
            rintro e w19 ⟨v909, rfl, ho0, hb⟩
            refine ⟨_, rfl, ?_⟩
            have n0_ := Aside0.mk (Kd.R_elder' (by (with_reducible repeat (first | apply Kd.R_alloc | apply Kd.R_drewN | apply Kd.R_drew)); exact HO903.out) (Kd.R_base ho0) hb)
            have n1_ := Aside0.mk (Kd.R_elder' (by (with_reducible repeat (first | apply Kd.R_alloc | apply Kd.R_drewN | apply Kd.R_drew)); exact HO906.out) (Kd.R_base ho0) hb)
            have n2_ := Aside0.mk (Kd.R_lower (Kd.R_new' (Kd.R_new' ho0 (Kd.R_lt (by (with_reducible repeat (first | apply Kd.R_alloc | apply Kd.R_drewN | apply Kd.R_drew)); exact HO903.out))) (Kd.R_lt (by (with_reducible repeat (first | apply Kd.R_alloc | apply Kd.R_drewN | apply Kd.R_drew)); exact HO906.out))) (below_size (by repeat (first | (with_reducible first | exact HB.out | apply below_alloc | apply pw_below_drewN | apply below_drew1 | refine below_set ?_ GE899.out) | exact HB.out))))
            have n3_ := Aside0.mk (blk_below (g := gb899) (o := .cells #[.int .i64 a0_0, .slice A0_1 l0_1.length c0_1] 29 (0, 0)) (by (with_reducible repeat (first | refine blk_drewN ?_ _ | refine blk_drew ?_ | refine blk_alloc ?_ _)); exact BK899.out) hb)
            have n4_ := Aside0.mk (below_step (by repeat (first | (with_reducible first | exact HB.out | apply below_alloc | apply pw_below_drewN | apply below_drew1 | refine below_set ?_ GE899.out) | exact HB.out)) hb)
            clear HO903
            clear HO906
            clear BK899
            clear HB
            have HO903 := n0_
            have HO906 := n1_
            have HO910 := n2_
            have BK899 := n3_
            have HB := n4_
            clear n0_ n1_ n2_ n3_ n4_
            (try clear hb)
            (try clear hb2)
            (try clear hk)
            (try clear hi)
            (try clear ho0)
            refine hK.out _ _ ⟨mz_, .slice Ao18 y901.length co18, v905, v909, (.tuple #[v909, .bool t911]), m11_, m13_, (by rw [ha.out]; exact putSel_upk 6 hb_ rfl rfl rfl), (by (with_reducible repeat (first | refine blk_drewN ?_ _ | refine blk_drew ?_ | refine blk_alloc ?_ _)); exact BK899.out), (by repeat (first | (with_reducible first | exact HB.out | apply below_alloc | apply pw_below_drewN | apply below_drew1 | refine below_set ?_ GE899.out) | exact HB.out)), fun _ => (by (with_reducible repeat (first | apply Kd.R_alloc | apply Kd.R_drewN | apply Kd.R_drew)); exact Kd.R_mono HO903.out (fun _ _ => trivial)), fun _ => (by (with_reducible repeat (first | apply Kd.R_alloc | apply Kd.R_drewN | apply Kd.R_drew)); exact Kd.R_mono HO906.out (fun _ _ => trivial)), fun _ => (by (with_reducible repeat (first | apply Kd.R_alloc | apply Kd.R_drewN | apply Kd.R_drew)); exact Kd.R_mono HO910.out (fun _ _ => trivial)), fun _ => rfl, fun h0_ => absurd ((hoff 11 (by kernel_rfl)).symm.trans h0_) (by decide), fun h0_ => absurd ((hoff 13 (by kernel_rfl)).symm.trans h0_) (by decide), Q_Z_⟩
          refine steps_cons ?_ ?_
          · rintro b a w' ⟨mz_, v902, v905, v909, m10_, m11_, m13_, ha, Q_BK899, Q_HB, Q_HO903, Q_HO906, Q_HO910, Q_X10_, Q_X11_, Q_X13_, Q_Z_⟩ hb_ hon hoff
            refine ⟨_, rfl, fun K hK => ?_⟩
            have e23 : a.tmps[23]? = some (m10_) := by rw [ha]; exact putSel_on (e := (10, 23, m10_)) 6 rfl rfl (hon 10 (by kernel_rfl)) rfl
            rw [Q_X10_ (hon 10 (by kernel_rfl))] at e23
            replace ha := Aside0.mk ha
            have BK899 := Aside0.mk Q_BK899
            have HB := Aside0.mk Q_HB
            have HO903 := Aside0.mk (Q_HO903 (hon 2 (by kernel_rfl)))
            have HO906 := Aside0.mk (Q_HO906 (hon 6 (by kernel_rfl)))
            have HO910 := Aside0.mk (Q_HO910 (hon 10 (by kernel_rfl)))
            obtain ⟨Ao11_0, co11_0, eo_⟩ := Kd.R_slice HO910.out
            subst eo_
            refine value_ (w1 := w') (v := .slice Ao11_0 t908.length co11_0) (by rfl) rfl ?_ ?_
            · go_simp
              (try simp only [i64_w])
              try rfl
            refine hK.out _ _ ⟨mz_, v902, v905, .slice Ao11_0 t908.length co11_0, m10_, (.slice Ao11_0 t908.length co11_0), m13_, (by rw [ha.out]; exact putSel_upk 7 hb_ rfl rfl rfl), Q_BK899, Q_HB, Q_HO903, Q_HO906, Q_HO910, Q_X10_, fun _ => rfl, fun h0_ => absurd ((hoff 13 (by kernel_rfl)).symm.trans h0_) (by decide), Q_Z_⟩
          refine steps_cons ?_ ?_
          · rintro b a w' ⟨mz_, v902, v905, v909, m10_, m11_, m13_, ha, Q_BK899, Q_HB, Q_HO903, Q_HO906, Q_HO910, Q_X10_, Q_X11_, Q_X13_, Q_Z_⟩ hb_ hon hoff
            refine ⟨_, rfl, fun K hK => ?_⟩
            have e23 : a.tmps[23]? = some (m10_) := by rw [ha]; exact putSel_on (e := (10, 23, m10_)) 6 rfl rfl (hon 10 (by kernel_rfl)) rfl
            rw [Q_X10_ (hon 10 (by kernel_rfl))] at e23
            replace ha := Aside0.mk ha
            have BK899 := Aside0.mk Q_BK899
            have HB := Aside0.mk Q_HB
            have HO903 := Aside0.mk (Q_HO903 (hon 2 (by kernel_rfl)))
            have HO906 := Aside0.mk (Q_HO906 (hon 6 (by kernel_rfl)))
            have HO910 := Aside0.mk (Q_HO910 (hon 10 (by kernel_rfl)))
            obtain ⟨Ao12_0, co12_0, eo_⟩ := Kd.R_slice HO910.out
            subst eo_
            refine value_ (w1 := w') (v := .bool t911) (by rfl) rfl ?_ ?_
            · go_simp
              (try simp only [i64_w])
              try rfl
            refine hK.out _ _ ⟨mz_, v902, v905, .slice Ao12_0 t908.length co12_0, m10_, m11_, m13_, (by rw [ha.out]; exact putSel_upk 8 hb_ rfl rfl rfl), Q_BK899, Q_HB, Q_HO903, Q_HO906, Q_HO910, Q_X10_, Q_X11_, fun h0_ => absurd ((hoff 13 (by kernel_rfl)).symm.trans h0_) (by decide), Q_Z_⟩
          refine steps_cons ?_ ?_
          · rintro b a w' ⟨mz_, v902, v905, v909, m10_, m11_, m13_, ha, Q_BK899, Q_HB, Q_HO903, Q_HO906, Q_HO910, Q_X10_, Q_X11_, Q_X13_, Q_Z_⟩ hb_ hon hoff
            refine ⟨_, rfl, fun K hK => ?_⟩
            have e24 : a.tmps[24]? = some (m11_) := by rw [ha]; exact putSel_on (e := (11, 24, m11_)) 7 rfl rfl (hon 11 (by kernel_rfl)) rfl
            rw [Q_X11_ (hon 11 (by kernel_rfl))] at e24
            replace ha := Aside0.mk ha
            have BK899 := Aside0.mk Q_BK899
            have HB := Aside0.mk Q_HB
            have HO903 := Aside0.mk (Q_HO903 (hon 2 (by kernel_rfl)))
            have HO906 := Aside0.mk (Q_HO906 (hon 6 (by kernel_rfl)))
            have HO910 := Aside0.mk (Q_HO910 (hon 10 (by kernel_rfl)))
            refine value_ (w1 := w') (v := v909) (by rfl) rfl ?_ ?_
            · go_simp
              (try simp only [i64_w])
              try rfl
            refine hK.out _ _ ⟨mz_, v902, v905, v909, m10_, m11_, (v909), (by rw [ha.out]; exact putSel_upk 9 hb_ rfl rfl rfl), Q_BK899, Q_HB, Q_HO903, Q_HO906, Q_HO910, Q_X10_, Q_X11_, fun _ => rfl, Q_Z_⟩
          refine steps_cons ?_ ?_
          · rintro b a w' ⟨mz_, v902, v905, v909, m10_, m11_, m13_, ha, Q_BK899, Q_HB, Q_HO903, Q_HO906, Q_HO910, Q_X10_, Q_X11_, Q_X13_, Q_Z_⟩ hb_ hon hoff
            refine ⟨_, rfl, fun K hK => ?_⟩
            have e25 : a.tmps[25]? = some (.bool t911) := by rw [ha]; exact putSel_on (e := (12, 25, .bool t911)) 8 rfl rfl (hon 12 (by kernel_rfl)) rfl
            replace ha := Aside0.mk ha
            have BK899 := Aside0.mk Q_BK899
            have HB := Aside0.mk Q_HB
            have HO903 := Aside0.mk (Q_HO903 (hon 2 (by kernel_rfl)))
            have HO906 := Aside0.mk (Q_HO906 (hon 6 (by kernel_rfl)))
            have HO910 := Aside0.mk (Q_HO910 (hon 10 (by kernel_rfl)))
            refine value_ (w1 := w') (v := .bool t911) (by rfl) rfl ?_ ?_
            · go_simp
              (try simp only [i64_w])
              try rfl
            refine hK.out _ _ ⟨mz_, v902, v905, v909, m10_, m11_, m13_, (by rw [ha.out]; exact putSel_upk 10 hb_ rfl rfl rfl), Q_BK899, Q_HB, Q_HO903, Q_HO906, Q_HO910, Q_X10_, Q_X11_, Q_X13_, Q_Z_⟩
          exact steps_nil
        rintro b a w19 hall ⟨mz_, v902, v905, v909, m10_, m11_, m13_, ha, Q_BK899, Q_HB, Q_HO903, Q_HO906, Q_HO910, Q_X10_, Q_X11_, Q_X13_, Q_Z_⟩
        clear BK899 HB
        have hb0_ := hall 0 (by kernel_rfl)
        have hb2_ := hall 2 (by kernel_rfl)
        have hb4_ := hall 4 (by kernel_rfl)
        have hb6_ := hall 6 (by kernel_rfl)
        have hb8_ := hall 8 (by kernel_rfl)
        have hb9_ := hall 9 (by kernel_rfl)
        have hb10_ := hall 10 (by kernel_rfl)
        have hb11_ := hall 11 (by kernel_rfl)
        have hb12_ := hall 12 (by kernel_rfl)
        have hb13_ := hall 13 (by kernel_rfl)
        have hb14_ := hall 14 (by kernel_rfl)
        subst ha
        obtain rfl := Q_X10_ hb10_
        obtain rfl := Q_X11_ hb11_
        obtain rfl := Q_X13_ hb13_
        simp only [putSel, hb0_, hb2_, hb4_, hb6_, hb8_, hb9_, hb10_, hb11_, hb12_, hb13_, hb14_, if_true, Act.put, List.setIfInBounds_toArray, List.set_cons_zero, List.set_cons_succ]
        have BK899 := Aside0.mk Q_BK899
        clear Q_BK899
        have HB := Aside0.mk Q_HB
        clear Q_HB
        have HO903 := Aside0.mk (Q_HO903 hb2_)
        clear Q_HO903
        have HO906 := Aside0.mk (Q_HO906 hb6_)
        clear Q_HO906
        have HO910 := Aside0.mk (Q_HO910 hb10_)
        clear Q_HO910
        clear hall hb0_ hb2_ hb4_ hb6_ hb8_ hb9_ hb10_ hb11_ hb12_ hb13_ hb14_
        obtain ⟨Ao20, co20, eo20⟩ := Kd.R_slice HO906.out
        (first | subst eo20 | (injection eo20 with f1_ f2_ f3_; have f4_ := f1_.symm; have f5_ := f3_.symm; clear f1_ f2_ f3_; subst f4_; subst f5_))
        have p907 : 0 ≤ (a1 : Int) := of_decide_eq_true (by first | (with_reducible assumption) | assumption)
        have q907 : a1 < (t904.length : Int) := of_decide_eq_true (by first | (with_reducible assumption) | assumption)
        obtain ⟨ad907, e907, hx907_0⟩ := Kd.at_int (Kd.R_reads' HO906.out).2.2 a1 p907 q907
        cases e907
        replace p907 := eq_true p907
        replace q907 := eq_true q907
        try go_wp2
        go_ret2
        exact ⟨_, by first | rfl | (simp [errW_none, errW_some] <;> rfl) | (simp [*, errW_none, errW_some] <;> rfl), by (with_reducible repeat (first | apply Kd.R_alloc | apply Kd.R_drewN | apply Kd.R_drew)); exact Kd.R_mono HO910.out (fun _ hk => trivial), by repeat (first | (with_reducible first | exact HB.out | apply below_alloc | apply pw_below_drewN | apply below_drew1 | refine below_set ?_ GE899.out) | exact HB.out)⟩
      · rw [if_neg c8] at H
        exact absurd H (by simp)
    · rw [if_neg c7] at H
      exact absurd H (by simp)
  · replace c5 := Bool.eq_false_iff.mpr c5
    subst c5
    have H1 : (some (([] : List Int), false)) = some (r1, r2) := by rw [if_neg (show ¬ (false = true) by decide)] at H; exact H
    clear H
    have H := H1
    clear H1
    simp only [Option.some.injEq, Prod.mk.injEq] at H
    obtain ⟨rfl, rfl⟩ := H
    go_enter Try.func55, Try.ntmps55
    go_wp2_with (first | ((with_reducible refine gate_dst (N := 3) rfl ?_); refine box_event ?hg (N := 3) ?hd (cs := #[.int .i64 a0_0, .slice A0_1 l0_1.length c0_1]) (t := 29) ?hr ?_; (case hd => rfl); (case hg => rfl); (case hr => first | (go_simp; done) | (go_simp; rfl)); intro gb899 hg w21 hbox hb; have n0_ := Aside0.mk (below_step (by repeat (first | (with_reducible first | exact HB.out | apply below_alloc | apply pw_below_drewN | apply below_drew1) | exact HB.out)) hb); have n1_ := Aside0.mk (hbox); have n2_ := Aside0.mk ((by rw [hg]; exact (below_size (by repeat (first | (with_reducible first | exact HB.out | apply below_alloc | apply pw_below_drewN | apply below_drew1) | exact HB.out))) : w.heap.size ≤ gb899)); have n3_ := Aside0.mk ((by rw [hg]; exact (below_size (by repeat (first | (with_reducible first | exact HB.out | apply below_alloc | apply pw_below_drewN | apply below_drew1) | exact HB.out))) : w.heap.size ≤ gb899)); clear HB; have HB := n0_; have BK899 := n1_; have GW899 := n2_; have GE899 := n3_; clear n0_ n1_ n2_ n3_; clear hb hbox hg; have hcz22_0 : w21.cell? ⟨gb899, 0, none⟩ = some (.int .i64 a0_0) := (blk_cell BK899.out 0).trans rfl; have hcz22_1 : w21.cell? ⟨gb899, 1, none⟩ = some (.slice A0_1 l0_1.length c0_1) := (blk_cell BK899.out 1).trans rfl; have hfz22_0 := blk_frozen BK899.out 0; have hfz22_1 := blk_frozen BK899.out 1) | ((with_reducible refine gate_callee (f := 80) rfl ?_); refine goesL_ (some 11) rfl rfl Try.func80 (by kernel_rfl) rfl #[.agg #[.int .i64 a0_0, .slice A0_1 l0_1.length c0_1], .int .i64 a1, .int .i64 a2] rfl (by (try simp only [List.map_toArray, List.map_cons, List.map_nil]); first | done | rfl | (simp only [List.length_drop, List.length_take]; rfl)) ?_; (with_reducible refine (spec_isBoth.calls k a0_0 _ _ l0_1 a1 a2 false _ ?side1 ?side2 A4.out).mono ?_); (case side1 => repeat (first | exact (Kd.C_below HR0_1.out HB.out) | (with_reducible refine Kd.C_alloc ?_ _) | (with_reducible refine Kd.C_drewN ?_ _) | (with_reducible refine Kd.C_drew ?_))); (case side2 => exact HC0_1.out); rintro e w23 ⟨rfl, hb⟩; refine ⟨_, rfl, ?_⟩; have n0_ := Aside0.mk (blk_below (g := gb899) (o := .cells #[.int .i64 a0_0, .slice A0_1 l0_1.length c0_1] 29 (0, 0)) (by (with_reducible repeat (first | refine blk_drewN ?_ _ | refine blk_drew ?_ | refine blk_alloc ?_ _)); exact BK899.out) hb); have n1_ := Aside0.mk (below_step (by repeat (first | (with_reducible first | exact HB.out | apply below_alloc | apply pw_below_drewN | apply below_drew1 | refine below_set ?_ GE899.out) | exact HB.out)) hb); clear BK899; clear HB; have BK899 := n0_; have HB := n1_; clear n0_ n1_; (try clear hb); (try clear hb2); (try clear hk); (try clear hi)))
    go_ret2
    exact ⟨_, by first | rfl | (simp [errW_none, errW_some] <;> rfl) | (simp [*, errW_none, errW_some] <;> rfl), by first | exact Kd.R_nil _ _ _ _ _ | exact Kd.N_nil _ _ _ _ _ | exact Kd.V_nil _ _ _ _ _ | exact Kd.Q_nil _ _ _ _ _ | exact Kd.S_nil _ _ _ _ _, by repeat (first | (with_reducible first | exact HB.out | apply below_alloc | apply pw_below_drewN | apply below_drew1 | refine below_set ?_ GE899.out) | exact HB.out)⟩

/-! ### impl_FirstWayOver: function 56 -/
def impl_FirstWayOver.f (k : Nat) (a0_0 : Int) (l0_1 : List (S37)) (a1 : Int) (a2 : Int) : Option (List Int × Bool) := (impl_areIslands.f a0_0 l0_1 (([a1, a2] : List Int))).bind fun t916 => (if t916 = true then ((impl_Isles_byToll.f k a0_0 l0_1 a1 a2).bind fun bt917 => (some (bt917.1, decide (bt917.2 ≥ 0)))) else (some (([] : List Int), false)))
theorem impl_FirstWayOver.mono : ∀ a0 a1 a2 a3 k, LeO (impl_FirstWayOver.f k a0 a1 a2 a3) (impl_FirstWayOver.f (k + 1) a0 a1 a2 a3) := by
  intro a0 a1 a2 a3 k
  unfold impl_FirstWayOver.f
  repeat' first
      | (with_reducible exact impl_Isles_byToll.mono _ _ _ _ _)
      | (with_reducible exact LeO.refl _)
      | (with_reducible exact LeO.none _)
      | (with_reducible refine LeO.ite ?_ ?_)
      | (with_reducible refine LeO.bind ?_ (fun _ => ?_))
      | exact impl_Isles_byToll.mono _ _ _ _ _
      | exact LeO.none _
      | refine LeO.ite ?_ ?_
      | refine LeO.bind ?_ (fun _ => ?_)
set_option maxHeartbeats 8000000 in
set_option maxRecDepth 100000 in
theorem impl_FirstWayOver.calls (k : Nat) (a0_0 : Int) (A0_1 : Option Addr) (c0_1 : Nat) (l0_1 : List (S37)) (a1 : Int) (a2 : Int) (r1 : List Int) (r2 : Bool) (w : World) (hr0_1 : Kd.C k37 w A0_1 l0_1.length l0_1) (hc0_1 : l0_1.length ≤ c0_1) (h : impl_FirstWayOver.f k a0_0 l0_1 a1 a2 = some (r1, r2)) :
    Calls Try.prog 56 #[.agg #[.int .i64 a0_0, .slice A0_1 l0_1.length c0_1], .int .i64 a1, .int .i64 a2] w fun e w' => ∃ v0_ : Value, e = .returned (.tuple #[v0_, .bool r2]) ∧ Kd.R (Kd.int .i64) 3 w' w.heap.size (fun _ => True) v0_ r1 ∧ Below w.heap.size w w' := by
  have hu29 := Try.underlying29
  have HR0_1 := Aside0.mk hr0_1
  have HC0_1 := Aside0.mk hc0_1
  clear hr0_1 hc0_1
  have HB := Aside0.mk (Below.refl w.heap.size w)
  have H : ((impl_areIslands.f a0_0 l0_1 (([a1, a2] : List Int))).bind fun t916 => (if t916 = true then ((impl_Isles_byToll.f k a0_0 l0_1 a1 a2).bind fun bt917 => (some (bt917.1, decide (bt917.2 ≥ 0)))) else (some (([] : List Int), false)))) = some (r1, r2) := h
  clear h
  obtain ⟨y913, hy913⟩ : ∃ y_ : List Int, y_ = (([a1, a2] : List Int)) := ⟨_, rfl⟩
  replace H : ((impl_areIslands.f a0_0 l0_1 y913).bind fun t916 => (if t916 = true then ((impl_Isles_byToll.f k a0_0 l0_1 a1 a2).bind fun bt917 => (some (bt917.1, decide (bt917.2 ≥ 0)))) else (some (([] : List Int), false)))) = some (r1, r2) := by first | (rw [hy913]; with_reducible exact H) | (have H2_ := (Option.bind_some _ _).symm.trans H; rw [hy913]; with_reducible exact H2_) | (have H2_ := (Option.bind_some _ _).symm.trans H; with_reducible exact H2_) | with_reducible exact H | (rw [hy913]; exact H) | exact H
  have Ny913 := Aside0.mk hy913
  clear hy913
  replace H := Option.bind_eq_some_iff.mp H
  obtain ⟨t916, A40, H⟩ := H
  replace H : (if t916 = true then ((impl_Isles_byToll.f k a0_0 l0_1 a1 a2).bind fun bt917 => (some (bt917.1, decide (bt917.2 ≥ 0)))) else (some (([] : List Int), false))) = some (r1, r2) := H
  have A4 := Aside0.mk A40
  clear A40
  by_cases c5 : t916 = true
  · subst c5
    have H1 : ((impl_Isles_byToll.f k a0_0 l0_1 a1 a2).bind fun bt917 => (some (bt917.1, decide (bt917.2 ≥ 0)))) = some (r1, r2) := by rw [if_pos rfl] at H; exact H
    clear H
    have H := H1
    clear H1
    replace H := Option.bind_eq_some_iff.mp H
    obtain ⟨⟨t917, t920⟩, A60, H⟩ := H
    replace H : (some (t917, decide (t920 ≥ 0))) = some (r1, r2) := H
    have A6 := Aside0.mk A60
    clear A60
    simp only [Option.some.injEq, Prod.mk.injEq] at H
    obtain ⟨rfl, rfl⟩ := H
    go_enter Try.func56, Try.ntmps56
    go_wp2_with (first | ((with_reducible refine gate_dst (N := 3) rfl ?_); refine box_event ?hg (N := 3) ?hd (cs := #[.int .i64 a0_0, .slice A0_1 l0_1.length c0_1]) (t := 29) ?hr ?_; (case hd => rfl); (case hg => rfl); (case hr => first | (go_simp; done) | (go_simp; rfl)); intro gb912 hg w7 hbox hb; have n0_ := Aside0.mk (below_step (by repeat (first | (with_reducible first | exact HB.out | apply below_alloc | apply pw_below_drewN | apply below_drew1) | exact HB.out)) hb); have n1_ := Aside0.mk (hbox); have n2_ := Aside0.mk ((by rw [hg]; exact (below_size (by repeat (first | (with_reducible first | exact HB.out | apply below_alloc | apply pw_below_drewN | apply below_drew1) | exact HB.out))) : w.heap.size ≤ gb912)); have n3_ := Aside0.mk ((by rw [hg]; exact (below_size (by repeat (first | (with_reducible first | exact HB.out | apply below_alloc | apply pw_below_drewN | apply below_drew1) | exact HB.out))) : w.heap.size ≤ gb912)); clear HB; have HB := n0_; have BK912 := n1_; have GW912 := n2_; have GE912 := n3_; clear n0_ n1_ n2_ n3_; clear hb hbox hg; have hcz8_0 : w7.cell? ⟨gb912, 0, none⟩ = some (.int .i64 a0_0) := (blk_cell BK912.out 0).trans rfl; have hcz8_1 : w7.cell? ⟨gb912, 1, none⟩ = some (.slice A0_1 l0_1.length c0_1) := (blk_cell BK912.out 1).trans rfl; have hfz8_0 := blk_frozen BK912.out 0; have hfz8_1 := blk_frozen BK912.out 1) | ((with_reducible refine gate_dst (N := 13) rfl ?_); refine Kd.R_lit (Kd.int .i64) _ 3 ?hg (N := 13) ?hd (xs := ([a1, a2] : List Int)) (inner := [.int .i64 a1, .int .i64 a2]) (ok := fun _ => True) (okp := fun _ => True) ?hr ?hp (fun _ hk => hk) trivial (Below.refl _ _) (Nat.le_refl _) (by simp) ?_; (case hd => rfl); (case hg => rfl); (case hr => first | (go_simp; done) | (go_simp; rfl)); (case hp => exact (Reps.one (show Kd.M (Kd.int .i64) _ _ _ a1 [.int .i64 a1] from rfl) (Reps.one (show Kd.M (Kd.int .i64) _ _ _ a2 [.int .i64 a2] from rfl) (Reps.none _ _)))); intro v914 w9 ho10 hb hg_ hnew_; clear hg_ hnew_; (first | rw [← Ny913.out] at ho10 | (simp only [Int.reduceToNat] at ho10; rw [← Ny913.out] at ho10)); have n0_ := Aside0.mk (Kd.R_lower ho10 (below_size (by repeat (first | (with_reducible first | exact HB.out | apply below_alloc | apply pw_below_drewN | apply below_drew1 | refine below_set ?_ GE912.out) | exact HB.out)))); have n1_ := Aside0.mk (blk_below (g := gb912) (o := .cells #[.int .i64 a0_0, .slice A0_1 l0_1.length c0_1] 29 (0, 0)) (by (with_reducible repeat (first | refine blk_drewN ?_ _ | refine blk_drew ?_ | refine blk_alloc ?_ _)); exact BK912.out) hb); have n2_ := Aside0.mk (below_step (by repeat (first | (with_reducible first | exact HB.out | apply below_alloc | apply pw_below_drewN | apply below_drew1 | refine below_set ?_ GE912.out) | exact HB.out)) hb); clear BK912; clear HB; have HO915 := n0_; have BK912 := n1_; have HB := n2_; clear n0_ n1_ n2_; clear hb ho10; obtain ⟨Ao11, co11, eo11⟩ := Kd.R_slice HO915.out; subst eo11) | ((with_reducible refine gate_callee (f := 82) rfl ?_); refine goesL_ (some 14) rfl rfl Try.func82 (by kernel_rfl) rfl #[.agg #[.int .i64 a0_0, .slice A0_1 l0_1.length c0_1], .slice Ao11 y913.length co11] rfl (by (try simp only [List.map_toArray, List.map_cons, List.map_nil]); first | done | rfl | (simp only [List.length_drop, List.length_take]; rfl)) ?_; (with_reducible refine (impl_areIslands.calls a0_0 _ _ l0_1 _ _ y913 true _ ?side1 ?side2 ?side3 ?side4 A4.out).mono ?_); (case side1 => repeat (first | exact (Kd.C_below HR0_1.out HB.out) | (with_reducible refine Kd.C_alloc ?_ _) | (with_reducible refine Kd.C_drewN ?_ _) | (with_reducible refine Kd.C_drew ?_))); (case side2 => exact HC0_1.out); (case side3 => repeat (first | exact (Kd.R_reads' HO915.out).2.2 | (with_reducible refine Kd.C_alloc ?_ _) | (with_reducible refine Kd.C_drewN ?_ _) | (with_reducible refine Kd.C_drew ?_))); (case side4 => exact (Kd.R_reads' HO915.out).2.1); rintro e w12 ⟨rfl, hb⟩; refine ⟨_, rfl, ?_⟩; have n0_ := Aside0.mk (Kd.R_below (by (with_reducible repeat (first | apply Kd.R_alloc | apply Kd.R_drewN | apply Kd.R_drew)); exact HO915.out) hb); have n1_ := Aside0.mk (blk_below (g := gb912) (o := .cells #[.int .i64 a0_0, .slice A0_1 l0_1.length c0_1] 29 (0, 0)) (by (with_reducible repeat (first | refine blk_drewN ?_ _ | refine blk_drew ?_ | refine blk_alloc ?_ _)); exact BK912.out) hb); have n2_ := Aside0.mk (below_step (by repeat (first | (with_reducible first | exact HB.out | apply below_alloc | apply pw_below_drewN | apply below_drew1 | refine below_set ?_ GE912.out) | exact HB.out)) hb); clear HO915; clear BK912; clear HB; have HO915 := n0_; have BK912 := n1_; have HB := n2_; clear n0_ n1_ n2_; (try clear hb); (try clear hb2); (try clear hk); (try clear hi); have hcz13_0 : w12.cell? ⟨gb912, 0, none⟩ = some (.int .i64 a0_0) := (blk_cell BK912.out 0).trans rfl; have hcz13_1 : w12.cell? ⟨gb912, 1, none⟩ = some (.slice A0_1 l0_1.length c0_1) := (blk_cell BK912.out 1).trans rfl; have hfz13_0 := blk_frozen BK912.out 0; have hfz13_1 := blk_frozen BK912.out 1) | ((with_reducible refine gate_callee (f := 85) rfl ?_); refine goesL_ (some 20) rfl rfl Try.func85 (by kernel_rfl) rfl #[.agg #[.int .i64 a0_0, .slice A0_1 l0_1.length c0_1], .int .i64 a1, .int .i64 a2] rfl (by (try simp only [List.map_toArray, List.map_cons, List.map_nil]); first | done | rfl | (simp only [List.length_drop, List.length_take]; rfl)) ?_; (with_reducible refine (impl_Isles_byToll.calls k a0_0 _ _ l0_1 a1 a2 t917 t920 _ ?side1 ?side2 A6.out).mono ?_); (case side1 => repeat (first | exact (Kd.C_below HR0_1.out HB.out) | (with_reducible refine Kd.C_alloc ?_ _) | (with_reducible refine Kd.C_drewN ?_ _) | (with_reducible refine Kd.C_drew ?_))); (case side2 => exact HC0_1.out); rintro e w14 ⟨v918, rfl, ho0, hb⟩; refine ⟨_, rfl, ?_⟩; have n0_ := Aside0.mk (Kd.R_elder' (by (with_reducible repeat (first | apply Kd.R_alloc | apply Kd.R_drewN | apply Kd.R_drew)); exact HO915.out) (Kd.R_base ho0) hb); have n1_ := Aside0.mk (Kd.R_lower (Kd.R_new' ho0 (Kd.R_lt (by (with_reducible repeat (first | apply Kd.R_alloc | apply Kd.R_drewN | apply Kd.R_drew)); exact HO915.out))) (below_size (by repeat (first | (with_reducible first | exact HB.out | apply below_alloc | apply pw_below_drewN | apply below_drew1 | refine below_set ?_ GE912.out) | exact HB.out)))); have n2_ := Aside0.mk (blk_below (g := gb912) (o := .cells #[.int .i64 a0_0, .slice A0_1 l0_1.length c0_1] 29 (0, 0)) (by (with_reducible repeat (first | refine blk_drewN ?_ _ | refine blk_drew ?_ | refine blk_alloc ?_ _)); exact BK912.out) hb); have n3_ := Aside0.mk (below_step (by repeat (first | (with_reducible first | exact HB.out | apply below_alloc | apply pw_below_drewN | apply below_drew1 | refine below_set ?_ GE912.out) | exact HB.out)) hb); clear HO915; clear BK912; clear HB; have HO915 := n0_; have HO919 := n1_; have BK912 := n2_; have HB := n3_; clear n0_ n1_ n2_ n3_; (try clear hb); (try clear hb2); (try clear hk); (try clear hi); (try clear ho0)))
    go_ret2
    exact ⟨_, by first | rfl | (simp [errW_none, errW_some] <;> rfl) | (simp [*, errW_none, errW_some] <;> rfl), by (with_reducible repeat (first | apply Kd.R_alloc | apply Kd.R_drewN | apply Kd.R_drew)); exact Kd.R_mono HO919.out (fun _ hk => trivial), by repeat (first | (with_reducible first | exact HB.out | apply below_alloc | apply pw_below_drewN | apply below_drew1 | refine below_set ?_ GE912.out) | exact HB.out)⟩
  · replace c5 := Bool.eq_false_iff.mpr c5
    subst c5
    have H1 : (some (([] : List Int), false)) = some (r1, r2) := by rw [if_neg (show ¬ (false = true) by decide)] at H; exact H
    clear H
    have H := H1
    clear H1
    simp only [Option.some.injEq, Prod.mk.injEq] at H
    obtain ⟨rfl, rfl⟩ := H
    go_enter Try.func56, Try.ntmps56
    go_wp2_with (first | ((with_reducible refine gate_dst (N := 3) rfl ?_); refine box_event ?hg (N := 3) ?hd (cs := #[.int .i64 a0_0, .slice A0_1 l0_1.length c0_1]) (t := 29) ?hr ?_; (case hd => rfl); (case hg => rfl); (case hr => first | (go_simp; done) | (go_simp; rfl)); intro gb912 hg w15 hbox hb; have n0_ := Aside0.mk (below_step (by repeat (first | (with_reducible first | exact HB.out | apply below_alloc | apply pw_below_drewN | apply below_drew1) | exact HB.out)) hb); have n1_ := Aside0.mk (hbox); have n2_ := Aside0.mk ((by rw [hg]; exact (below_size (by repeat (first | (with_reducible first | exact HB.out | apply below_alloc | apply pw_below_drewN | apply below_drew1) | exact HB.out))) : w.heap.size ≤ gb912)); have n3_ := Aside0.mk ((by rw [hg]; exact (below_size (by repeat (first | (with_reducible first | exact HB.out | apply below_alloc | apply pw_below_drewN | apply below_drew1) | exact HB.out))) : w.heap.size ≤ gb912)); clear HB; have HB := n0_; have BK912 := n1_; have GW912 := n2_; have GE912 := n3_; clear n0_ n1_ n2_ n3_; clear hb hbox hg; have hcz16_0 : w15.cell? ⟨gb912, 0, none⟩ = some (.int .i64 a0_0) := (blk_cell BK912.out 0).trans rfl; have hcz16_1 : w15.cell? ⟨gb912, 1, none⟩ = some (.slice A0_1 l0_1.length c0_1) := (blk_cell BK912.out 1).trans rfl; have hfz16_0 := blk_frozen BK912.out 0; have hfz16_1 := blk_frozen BK912.out 1) | ((with_reducible refine gate_dst (N := 13) rfl ?_); refine Kd.R_lit (Kd.int .i64) _ 3 ?hg (N := 13) ?hd (xs := ([a1, a2] : List Int)) (inner := [.int .i64 a1, .int .i64 a2]) (ok := fun _ => True) (okp := fun _ => True) ?hr ?hp (fun _ hk => hk) trivial (Below.refl _ _) (Nat.le_refl _) (by simp) ?_; (case hd => rfl); (case hg => rfl); (case hr => first | (go_simp; done) | (go_simp; rfl)); (case hp => exact (Reps.one (show Kd.M (Kd.int .i64) _ _ _ a1 [.int .i64 a1] from rfl) (Reps.one (show Kd.M (Kd.int .i64) _ _ _ a2 [.int .i64 a2] from rfl) (Reps.none _ _)))); intro v914 w17 ho18 hb hg_ hnew_; clear hg_ hnew_; (first | rw [← Ny913.out] at ho18 | (simp only [Int.reduceToNat] at ho18; rw [← Ny913.out] at ho18)); have n0_ := Aside0.mk (Kd.R_lower ho18 (below_size (by repeat (first | (with_reducible first | exact HB.out | apply below_alloc | apply pw_below_drewN | apply below_drew1 | refine below_set ?_ GE912.out) | exact HB.out)))); have n1_ := Aside0.mk (blk_below (g := gb912) (o := .cells #[.int .i64 a0_0, .slice A0_1 l0_1.length c0_1] 29 (0, 0)) (by (with_reducible repeat (first | refine blk_drewN ?_ _ | refine blk_drew ?_ | refine blk_alloc ?_ _)); exact BK912.out) hb); have n2_ := Aside0.mk (below_step (by repeat (first | (with_reducible first | exact HB.out | apply below_alloc | apply pw_below_drewN | apply below_drew1 | refine below_set ?_ GE912.out) | exact HB.out)) hb); clear BK912; clear HB; have HO915 := n0_; have BK912 := n1_; have HB := n2_; clear n0_ n1_ n2_; clear hb ho18; obtain ⟨Ao19, co19, eo19⟩ := Kd.R_slice HO915.out; subst eo19) | ((with_reducible refine gate_callee (f := 82) rfl ?_); refine goesL_ (some 14) rfl rfl Try.func82 (by kernel_rfl) rfl #[.agg #[.int .i64 a0_0, .slice A0_1 l0_1.length c0_1], .slice Ao19 y913.length co19] rfl (by (try simp only [List.map_toArray, List.map_cons, List.map_nil]); first | done | rfl | (simp only [List.length_drop, List.length_take]; rfl)) ?_; (with_reducible refine (impl_areIslands.calls a0_0 _ _ l0_1 _ _ y913 false _ ?side1 ?side2 ?side3 ?side4 A4.out).mono ?_); (case side1 => repeat (first | exact (Kd.C_below HR0_1.out HB.out) | (with_reducible refine Kd.C_alloc ?_ _) | (with_reducible refine Kd.C_drewN ?_ _) | (with_reducible refine Kd.C_drew ?_))); (case side2 => exact HC0_1.out); (case side3 => repeat (first | exact (Kd.R_reads' HO915.out).2.2 | (with_reducible refine Kd.C_alloc ?_ _) | (with_reducible refine Kd.C_drewN ?_ _) | (with_reducible refine Kd.C_drew ?_))); (case side4 => exact (Kd.R_reads' HO915.out).2.1); rintro e w20 ⟨rfl, hb⟩; refine ⟨_, rfl, ?_⟩; have n0_ := Aside0.mk (Kd.R_below (by (with_reducible repeat (first | apply Kd.R_alloc | apply Kd.R_drewN | apply Kd.R_drew)); exact HO915.out) hb); have n1_ := Aside0.mk (blk_below (g := gb912) (o := .cells #[.int .i64 a0_0, .slice A0_1 l0_1.length c0_1] 29 (0, 0)) (by (with_reducible repeat (first | refine blk_drewN ?_ _ | refine blk_drew ?_ | refine blk_alloc ?_ _)); exact BK912.out) hb); have n2_ := Aside0.mk (below_step (by repeat (first | (with_reducible first | exact HB.out | apply below_alloc | apply pw_below_drewN | apply below_drew1 | refine below_set ?_ GE912.out) | exact HB.out)) hb); clear HO915; clear BK912; clear HB; have HO915 := n0_; have BK912 := n1_; have HB := n2_; clear n0_ n1_ n2_; (try clear hb); (try clear hb2); (try clear hk); (try clear hi)))
    go_ret2
    exact ⟨_, by first | rfl | (simp [errW_none, errW_some] <;> rfl) | (simp [*, errW_none, errW_some] <;> rfl), by first | exact Kd.R_nil _ _ _ _ _ | exact Kd.N_nil _ _ _ _ _ | exact Kd.V_nil _ _ _ _ _ | exact Kd.Q_nil _ _ _ _ _ | exact Kd.S_nil _ _ _ _ _, by repeat (first | (with_reducible first | exact HB.out | apply below_alloc | apply pw_below_drewN | apply below_drew1 | refine below_set ?_ GE912.out) | exact HB.out)⟩

end Go.Proofs.Ytkikaakfdggklaa.Q
