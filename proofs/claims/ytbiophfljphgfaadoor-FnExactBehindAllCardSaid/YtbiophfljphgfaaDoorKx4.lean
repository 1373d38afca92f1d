/- Go functions of this seat as plain functions, each with the proof that its call comes to what that function says: written by this session's program (wip/drive.py) out of the translation, by the kit's printer and by texts of our own; no conditions. -/
import Derived.Test.YtbiophfljphgfaaDoorKx0
import Derived.Test.YtbiophfljphgfaaDoorKx3
namespace Go.Proofs.YtbiophfljphgfaaDoor.K
open Go.RowKit Go.Proofs.YtbiophfljphgfaaDoorW.PrintWords Go.Proofs.YtbiophfljphgfaaDoorW.PrintLast Go.Proofs.YtbiophfljphgfaaDoorW.PrintMore
attribute [local go_sem] max2_int min2_int max_two min_two max_three min_three max_four min_four   -- for this text's walks alone
set_option linter.unusedVariables false
set_option linter.unusedSimpArgs false

/-! ### spec_siBehind: function 29 -/
def spec_siBehind.l0 : Nat → ByteArray → List Int → Int → Int → Option (ByteArray)
  | 0, _, _, _, _ => none
  | k + 1, x0, x11, x12, x13 => if x13 < x12 then (if 0 ≤ x13 then (if x13 < (x11.length : Int) then (if 0 ≤ (wrap64 ((rd x11 x13) - 1)) then (if (wrap64 ((rd x11 x13) - 1)) ≤ (x0.size : Int) then (if (wrap64 ((rd x11 x13) - 1)) < (x0.size : Int) then ((spec_l1Num.f k ((((bt x0 (wrap64 ((rd x11 x13) - 1))) - 48) % 256) - 1)).bind fun t124 => (if (x0.extract 0 ((wrap64 ((rd x11 x13) - 1)) : Int).toNat).size + t124.size ≤ 9223372036854775807 then (if 0 ≤ (rd x11 x13) then (if (rd x11 x13) ≤ (x0.size : Int) then (if ((x0.extract 0 ((wrap64 ((rd x11 x13) - 1)) : Int).toNat) ++ t124).size + (x0.extract ((rd x11 x13) : Int).toNat x0.size).size ≤ 9223372036854775807 then (spec_siBehind.l0 k (((x0.extract 0 ((wrap64 ((rd x11 x13) - 1)) : Int).toNat) ++ t124) ++ (x0.extract ((rd x11 x13) : Int).toNat x0.size)) x11 x12 (wrap64 (x13 + 1))) else (none)) else (none)) else (none)) else (none))) else (none)) else (none)) else (none)) else (none)) else (none)) else (some x0)
def spec_siBehind.f (k : Nat) (a0 : ByteArray) (l1 : List Int) : Option (ByteArray) := if 1 ≤ (wrap64 ((l1.length : Int) - 1)) then (if (wrap64 ((l1.length : Int) - 1)) ≤ (l1.length : Int) then (spec_siBehind.l0 k a0 ((l1.take ((wrap64 ((l1.length : Int) - 1)) : Int).toNat).drop 1) (((l1.take ((wrap64 ((l1.length : Int) - 1)) : Int).toNat).drop 1).length : Int) 0) else (none)) else (none)
theorem spec_siBehind.mono_l : ∀ k, (∀ y0 y1 y2 y3, LeO (spec_siBehind.l0 k y0 y1 y2 y3) (spec_siBehind.l0 (k + 1) y0 y1 y2 y3))
  | 0 => fun _ _ _ _ r h => by simp [spec_siBehind.l0] at h
  | k + 1 => by
    have ih0 := spec_siBehind.mono_l k
    · intro y0 y1 y2 y3
      unfold spec_siBehind.l0
      repeat' first
      | (with_reducible exact ih0 _ _ _ _)
      | (with_reducible exact spec_l1Num.mono _ _)
      | (with_reducible exact LeO.refl _)
      | (with_reducible exact LeO.none _)
      | (with_reducible refine LeO.ite ?_ ?_)
      | (with_reducible refine LeO.bind ?_ (fun _ => ?_))
      | exact ih0 _ _ _ _
      | exact spec_l1Num.mono _ _
      | exact LeO.none _
      | refine LeO.ite ?_ ?_
      | refine LeO.bind ?_ (fun _ => ?_)
theorem spec_siBehind.mono : ∀ a0 a1 k, LeO (spec_siBehind.f k a0 a1) (spec_siBehind.f (k + 1) a0 a1) := by
  intro a0 a1 k
  have ih0 := spec_siBehind.mono_l k
  unfold spec_siBehind.f
  repeat' first
      | (with_reducible exact ih0 _ _ _ _)
      | (with_reducible exact spec_l1Num.mono _ _)
      | (with_reducible exact LeO.refl _)
      | (with_reducible exact LeO.none _)
      | (with_reducible refine LeO.ite ?_ ?_)
      | (with_reducible refine LeO.bind ?_ (fun _ => ?_))
      | exact ih0 _ _ _ _
      | exact spec_l1Num.mono _ _
      | exact LeO.none _
      | refine LeO.ite ?_ ?_
      | refine LeO.bind ?_ (fun _ => ?_)
def spec_siBehind.T4 : Bool × List (List Nat × List Nat) := (true, [([], []), ([], []), ([1], [1]), ([0, 2], [0, 2]), ([], []), ([], []), ([5], [5]), ([4, 6], [4, 6]), ([7], [7]), ([8], [8]), ([9], [9]), ([10], [10]), ([3, 11], [3, 11]), ([], []), ([], []), ([13, 14], [13, 14]), ([12, 15], [12, 15]), ([16, 11, 0, 1, 2, 3, 4, 5, 6, 7, 8, 9, 10, 11, 12, 13, 14, 15, 16], [0, 4, 13, 16])])
def spec_siBehind.B4 : List Nat := [0, 0, 2, 7, 0, 0, 32, 112, 240, 496, 1008, 2032, 4095, 0, 0, 24576, 65535, 131071]
theorem spec_siBehind.tab4 : rtab .any (opsOf Tryd.f29 4) = spec_siBehind.T4 := by kernel_rfl
theorem spec_siBehind.bits4 : waitsOk spec_siBehind.T4.2 spec_siBehind.B4 = true := by kernel_rfl
set_option maxHeartbeats 8000000 in
set_option maxRecDepth 100000 in
theorem spec_siBehind.calls (k : Nat) (a0 : ByteArray) (A1 : Option Addr) (c1 : Nat) (l1 : List Int) (r : ByteArray) (w : World) (hr1 : Kd.C (Kd.int .i64) w A1 l1.length l1) (hc1 : l1.length ≤ c1) (h : spec_siBehind.f k a0 l1 = some r) :
    Calls Tryd.prog 29 #[.string a0, .slice A1 l1.length c1] w fun e w' => e = .returned (.string r) ∧ Below w.heap.size w w' := by
  have HR1 := Aside0.mk hr1
  have HC1 := Aside0.mk hc1
  clear hr1 hc1
  have HB := Aside0.mk (Below.refl w.heap.size w)
  have H : (if 1 ≤ (wrap64 ((l1.length : Int) - 1)) then (if (wrap64 ((l1.length : Int) - 1)) ≤ (l1.length : Int) then (spec_siBehind.l0 k a0 ((l1.take ((wrap64 ((l1.length : Int) - 1)) : Int).toNat).drop 1) (((l1.take ((wrap64 ((l1.length : Int) - 1)) : Int).toNat).drop 1).length : Int) 0) else (none)) else (none)) = some r := h
  clear h
  by_cases c3 : 1 ≤ (wrap64 ((l1.length : Int) - 1))
  · rw [if_pos c3] at H
    have c3b0 := eq_true c3
    have c3b1 : decide (1 ≤ (wrap64 ((l1.length : Int) - 1))) = true := decide_eq_true c3
    clear c3
    by_cases c4 : (wrap64 ((l1.length : Int) - 1)) ≤ (l1.length : Int)
    · rw [if_pos c4] at H
      have c4b0 := eq_true c4
      have c4b1 : decide ((wrap64 ((l1.length : Int) - 1)) ≤ (l1.length : Int)) = true := decide_eq_true c4
      clear c4
      have H' := Aside0.mk H
      clear H
      obtain ⟨i05, hi05, _, hsz5, _⟩ := info_parts info3
      obtain ⟨A5, hcut5, hA5, hC5⟩ := print_mid_of (P := Tryd.prog) (Value.int .i64) 0 32 3 .i64 .i64 Tryd.underlying32 hi05 hsz5 A1 c1 l1 1 (wrap64 ((l1.length : Int) - 1)) (by omega) (by first | omega | exact of_decide_eq_true (by first | (with_reducible assumption) | assumption)) (of_decide_eq_true (by first | (with_reducible assumption) | assumption)) HC1.out
      have HR122 := Aside0.mk (Kd.C_of_reads (h1 := fun _ => rfl) (hA5 _ (Kd.reads_of_C HR1.out)))
      have HC122 := Aside0.mk hC5
      clear hA5 hC5 hi05 hsz5
      obtain ⟨dd, hdd⟩ : ∃ dd_, dd_ = ((l1.take ((wrap64 ((l1.length : Int) - 1)) : Int).toNat).drop 1) := ⟨_, rfl⟩
      have e1_ : Int.toNat (1 : Int) = 1 := rfl
      rw [e1_, ← hdd] at HR122 HC122
      simp only [e1_, ← hdd] at hcut5
      rw [← hdd] at H'
      have HDD := Aside0.mk hdd
      clear hdd e1_
      go_enter Tryd.func29, Tryd.ntmps29
      go_wp2
      go_loopg [0, 13] k (fun kq v0 v13 w' => ∃ (x0_1 : ByteArray) (x13_1 : Int), v0 = .string x0_1 ∧ v13 = .int .i64 x13_1 ∧ Aside0 (spec_siBehind.l0 kq x0_1 dd (dd.length : Int) x13_1 = some r) ∧ Aside0 (kq ≤ k) ∧ Aside0 (Below w.heap.size w w'))
      case atStart => exact ⟨(a0), (0), (by first | rfl | (simp; done) | (simp [*]; done)), (by first | rfl | (simp; done) | (simp [*]; done)), H', ⟨Nat.le_refl _⟩, ⟨by repeat (first | (with_reducible first | exact HB.out | apply below_alloc | apply pw_below_drewN | apply below_drew1) | exact HB.out)⟩⟩
      case round =>
        clear H'
        try clear c1
        try clear c2
        try clear p2
        try clear c3
        try clear c3b0
        try clear c3b1
        try clear c4
        try clear c4b0
        try clear c4b1
        obtain ⟨x0_1, x13_1, rfl, rfl, HA, HK1, HB⟩ := hrel
        cases gk with
        | zero => exact absurd HA.out (by simp [spec_siBehind.l0])
        | succ k1 =>
          have H := HA.out
          clear HA
          simp only [spec_siBehind.l0] at H
          by_cases c6 : x13_1 < (dd.length : Int)
          · rw [if_pos c6] at H
            have c6b0 : decide (x13_1 < (dd.length : Int)) = true := decide_eq_true c6
            clear c6
            by_cases c7 : 0 ≤ x13_1
            · rw [if_pos c7] at H
              have c7b0 : decide (0 ≤ x13_1) = true := decide_eq_true c7
              clear c7
              by_cases c8 : x13_1 < (dd.length : Int)
              · rw [if_pos c8] at H
                have c8b0 : decide (x13_1 < (dd.length : Int)) = true := decide_eq_true c8
                clear c8
                obtain ⟨ji9, hji9⟩ : ∃ j_ : Int, (wrap64 ((rd dd x13_1) - 1)) = j_ := ⟨_, rfl⟩
                replace H : (if 0 ≤ (ji9) then (if (ji9) ≤ (x0_1.size : Int) then (if (ji9) < (x0_1.size : Int) then ((spec_l1Num.f k1 ((((bt x0_1 (ji9)) - 48) % 256) - 1)).bind fun t124 => (if (x0_1.extract 0 ((ji9) : Int).toNat).size + t124.size ≤ 9223372036854775807 then (if 0 ≤ (rd dd x13_1) then (if (rd dd x13_1) ≤ (x0_1.size : Int) then (if ((x0_1.extract 0 ((ji9) : Int).toNat) ++ t124).size + (x0_1.extract ((rd dd x13_1) : Int).toNat x0_1.size).size ≤ 9223372036854775807 then (spec_siBehind.l0 k1 (((x0_1.extract 0 ((ji9) : Int).toNat) ++ t124) ++ (x0_1.extract ((rd dd x13_1) : Int).toNat x0_1.size)) dd (dd.length : Int) (wrap64 (x13_1 + 1))) else (none)) else (none)) else (none)) else (none))) else (none)) else (none)) else (none)) = some r := by first | (rw [hji9] at H; exact H) | (simp only [hji9] at H ⊢; exact H)
                have hji9w : (IntKind.i64.wrap ((rd dd x13_1) - 1)) = ji9 := (i64_w _).trans hji9
                by_cases c10 : 0 ≤ (ji9)
                · rw [if_pos c10] at H
                  have c10b0 := eq_true c10
                  have c10b1 : decide (0 ≤ (ji9)) = true := decide_eq_true c10
                  clear c10
                  by_cases c11 : (ji9) ≤ (x0_1.size : Int)
                  · rw [if_pos c11] at H
                    have c11b0 := eq_true c11
                    have c11b1 : decide ((ji9) ≤ (x0_1.size : Int)) = true := decide_eq_true c11
                    clear c11
                    by_cases c12 : (ji9) < (x0_1.size : Int)
                    · rw [if_pos c12] at H
                      have c12b0 : decide ((ji9) < (x0_1.size : Int)) = true := decide_eq_true c12
                      clear c12
                      replace H := Option.bind_eq_some_iff.mp H
                      obtain ⟨t124, A140, H⟩ := H
                      replace H : (if (x0_1.extract 0 ((ji9) : Int).toNat).size + t124.size ≤ 9223372036854775807 then (if 0 ≤ (rd dd x13_1) then (if (rd dd x13_1) ≤ (x0_1.size : Int) then (if ((x0_1.extract 0 ((ji9) : Int).toNat) ++ t124).size + (x0_1.extract ((rd dd x13_1) : Int).toNat x0_1.size).size ≤ 9223372036854775807 then (spec_siBehind.l0 k1 (((x0_1.extract 0 ((ji9) : Int).toNat) ++ t124) ++ (x0_1.extract ((rd dd x13_1) : Int).toNat x0_1.size)) dd (dd.length : Int) (wrap64 (x13_1 + 1))) else (none)) else (none)) else (none)) else (none)) = some r := H
                      have A14 := Aside0.mk A140
                      clear A140
                      by_cases c15 : (x0_1.extract 0 ((ji9) : Int).toNat).size + t124.size ≤ 9223372036854775807
                      · rw [if_pos c15] at H
                        have c15b0 := eq_true c15
                        have c15b1 : decide ((x0_1.extract 0 ((ji9) : Int).toNat).size + t124.size ≤ 9223372036854775807) = true := decide_eq_true c15
                        try have c15b2 : (9223372036854775807 < (x0_1.extract 0 ((ji9) : Int).toNat).size + t124.size) = False := eq_false (Nat.not_lt.2 c15)
                        try have c15b3 : (9223372036854775807 < (ji9 : Int).toNat + t124.size) = False := eq_false (by have g_ : (ji9 : Int) ≤ (x0_1.size : Int) := of_decide_eq_true (by first | (with_reducible assumption) | assumption); have h_ := c15; have l_ : (x0_1.extract 0 (ji9 : Int).toNat).size = (ji9 : Int).toNat := (by rw [ByteArray.size_extract]; omega); omega)
                        obtain ⟨ji16, hji16⟩ : ∃ j_ : Int, (rd dd x13_1) = j_ := ⟨_, rfl⟩
                        replace H : (if 0 ≤ (ji16) then (if (ji16) ≤ (x0_1.size : Int) then (if ((x0_1.extract 0 ((ji9) : Int).toNat) ++ t124).size + (x0_1.extract ((ji16) : Int).toNat x0_1.size).size ≤ 9223372036854775807 then (spec_siBehind.l0 k1 (((x0_1.extract 0 ((ji9) : Int).toNat) ++ t124) ++ (x0_1.extract ((ji16) : Int).toNat x0_1.size)) dd (dd.length : Int) (wrap64 (x13_1 + 1))) else (none)) else (none)) else (none)) = some r := by first | (rw [hji16] at H; exact H) | (simp only [hji16] at H ⊢; exact H)
                        (try rw [hji16] at A14)
                        have hji9x : wrap64 (ji16 - 1) = ji9 := by rw [← hji16]; exact hji9
                        have hji9y : (IntKind.i64.wrap (ji16 - 1)) = ji9 := (i64_w _).trans hji9x
                        by_cases c17 : 0 ≤ (ji16)
                        · rw [if_pos c17] at H
                          have c17b0 := eq_true c17
                          have c17b1 : decide (0 ≤ (ji16)) = true := decide_eq_true c17
                          clear c17
                          by_cases c18 : (ji16) ≤ (x0_1.size : Int)
                          · rw [if_pos c18] at H
                            have c18b0 := eq_true c18
                            have c18b1 : decide ((ji16) ≤ (x0_1.size : Int)) = true := decide_eq_true c18
                            clear c18
                            by_cases c19 : ((x0_1.extract 0 ((ji9) : Int).toNat) ++ t124).size + (x0_1.extract ((ji16) : Int).toNat x0_1.size).size ≤ 9223372036854775807
                            · rw [if_pos c19] at H
                              have c19b0 := eq_true c19
                              have c19b1 : decide (((x0_1.extract 0 ((ji9) : Int).toNat) ++ t124).size + (x0_1.extract ((ji16) : Int).toNat x0_1.size).size ≤ 9223372036854775807) = true := decide_eq_true c19
                              try have c19b2 : (9223372036854775807 < ((x0_1.extract 0 ((ji9) : Int).toNat) ++ t124).size + (x0_1.extract ((ji16) : Int).toNat x0_1.size).size) = False := eq_false (Nat.not_lt.2 c19)
                              try have c19b3 : (9223372036854775807 < (ji9 : Int).toNat + t124.size + (x0_1.size - (ji16 : Int).toNat)) = False := eq_false (by have g_ : (ji9 : Int) ≤ (x0_1.size : Int) := of_decide_eq_true (by first | (with_reducible assumption) | assumption); have h_ := c19; have l_ : (x0_1.extract 0 (ji9 : Int).toNat).size = (ji9 : Int).toNat := (by rw [ByteArray.size_extract]; omega); have m_ : (x0_1.extract (ji16 : Int).toNat x0_1.size).size = x0_1.size - (ji16 : Int).toNat := (by rw [ByteArray.size_extract]; omega); rw [ByteArray.size_append, l_, m_] at h_; omega)
                              have H' := Aside0.mk H
                              clear H
                              have p123 : 0 ≤ (x13_1 : Int) := of_decide_eq_true (by first | (with_reducible assumption) | assumption)
                              have q123 : x13_1 < (dd.length : Int) := of_decide_eq_true (by first | (with_reducible assumption) | assumption)
                              obtain ⟨ad123, e123, hx123_0⟩ := Kd.at_int HR122.out x13_1 p123 q123
                              cases e123
                              replace hx123_0 := (HB.out.cell (World.block_lt_of_cell? w _ hx123_0)).trans hx123_0
                              replace p123 := eq_true p123
                              replace q123 := eq_true q123
                              try go_wp2
                              have n0_ := Aside0.mk (below_drew1 HB.out)
                              clear HB
                              have HB := n0_
                              clear n0_
                              have p13 : 0 ≤ ((ji9) : Int) := of_decide_eq_true (by first | (with_reducible assumption) | assumption)
                              have q13 : (ji9) < (x0_1.size : Int) := of_decide_eq_true (by first | (with_reducible assumption) | assumption)
                              have hx13 := bt_at x0_1 (ji9)
                              replace p13 := eq_true p13
                              replace q13 := eq_true q13
                              refine start_ (n := 18) (S := fun w' => True) (ds := []) #[false, false, false, false, false, false, false, false, false, false, false, false, false, false, false, false, false, false] (by kernel_rfl) rfl rfl trivial (fun hHeld => ?_); refine with_tabW spec_siBehind.tab4 spec_siBehind.bits4 (fun HT_ HW_ => ?_)
                              generalize wr.drew = w20 at HB hHeld ⊢
                              refine pure_ (i := 0) (N := some 17) (v := ?_) (a' := ?_) #[true, false, false, false, false, false, false, false, false, false, false, false, false, false, false, false, false, false] rfl rfl (any_of HT_.out (by kernel_rfl)) (fun _ _ _ h => h) (Or.inl ⟨by rfl, ?_⟩) ?_ ?_
                              rotate_left
                              · intro w'
                                go_simp
                                with_reducible rfl
                              rotate_left
                              · simp only [Act.put, List.setIfInBounds_toArray, List.set_cons_zero, List.set_cons_succ, i64_w, i32_w]
                                rfl
                              refine pure_ (i := 1) (N := some 18) (v := ?_) (a' := ?_) #[true, true, false, false, false, false, false, false, false, false, false, false, false, false, false, false, false, false] rfl rfl (any_of HT_.out (by kernel_rfl)) (fun _ _ _ h => h) (Or.inl ⟨by rfl, ?_⟩) ?_ ?_
                              rotate_left
                              · intro w'
                                go_simp
                                with_reducible rfl
                              rotate_left
                              · simp only [Act.put, List.setIfInBounds_toArray, List.set_cons_zero, List.set_cons_succ, i64_w, i32_w]
                                rfl
                              refine pure_ (i := 2) (N := some 19) (v := ?_) (a' := ?_) #[true, true, true, false, false, false, false, false, false, false, false, false, false, false, false, false, false, false] rfl rfl (any_of HT_.out (by kernel_rfl)) (fun _ _ _ h => h) (Or.inl ⟨by rfl, ?_⟩) ?_ ?_
                              rotate_left
                              · intro w'
                                go_simp
                                with_reducible rfl
                              rotate_left
                              · simp only [Act.put, List.setIfInBounds_toArray, List.set_cons_zero, List.set_cons_succ, i64_w, i32_w]
                                rfl
                              refine pure_ (i := 3) (N := some 20) (v := ?_) (a' := ?_) #[true, true, true, true, false, false, false, false, false, false, false, false, false, false, false, false, false, false] rfl rfl (any_of HT_.out (by kernel_rfl)) (fun _ _ _ h => h) (Or.inl ⟨by rfl, ?_⟩) ?_ ?_
                              rotate_left
                              · intro w'
                                go_simp
                                with_reducible rfl
                              rotate_left
                              · simp only [Act.put, List.setIfInBounds_toArray, List.set_cons_zero, List.set_cons_succ, i64_w, i32_w]
                                rfl
                              refine pure_ (i := 4) (N := some 21) (v := ?_) (a' := ?_) #[true, true, true, true, true, false, false, false, false, false, false, false, false, false, false, false, false, false] rfl rfl (any_of HT_.out (by kernel_rfl)) (fun _ _ _ h => h) (Or.inl ⟨by rfl, ?_⟩) ?_ ?_
                              rotate_left
                              · intro w'
                                go_simp
                                with_reducible rfl
                              rotate_left
                              · simp only [Act.put, List.setIfInBounds_toArray, List.set_cons_zero, List.set_cons_succ, i64_w, i32_w]
                                rfl
                              refine pure_ (i := 5) (N := some 22) (v := ?_) (a' := ?_) #[true, true, true, true, true, true, false, false, false, false, false, false, false, false, false, false, false, false] rfl rfl (any_of HT_.out (by kernel_rfl)) (fun _ _ _ h => h) (Or.inl ⟨by rfl, ?_⟩) ?_ ?_
                              rotate_left
                              · intro w'
                                go_simp
                                with_reducible rfl
                              rotate_left
                              · simp only [Act.put, List.setIfInBounds_toArray, List.set_cons_zero, List.set_cons_succ, i64_w, i32_w]
                                rfl
                              refine pure_ (i := 6) (N := some 23) (v := ?_) (a' := ?_) #[true, true, true, true, true, true, true, false, false, false, false, false, false, false, false, false, false, false] rfl rfl (any_of HT_.out (by kernel_rfl)) (fun _ _ _ h => h) (Or.inl ⟨by rfl, ?_⟩) ?_ ?_
                              rotate_left
                              · intro w'
                                go_simp
                                with_reducible rfl
                              rotate_left
                              · simp only [Act.put, List.setIfInBounds_toArray, List.set_cons_zero, List.set_cons_succ, i64_w, i32_w]
                                rfl
                              refine pure_ (i := 13) (N := some 30) (v := ?_) (a' := ?_) #[true, true, true, true, true, true, true, false, false, false, false, false, false, true, false, false, false, false] rfl rfl (any_of HT_.out (by kernel_rfl)) (fun _ _ _ h => h) (Or.inl ⟨by rfl, ?_⟩) ?_ ?_
                              rotate_left
                              · intro w'
                                go_simp
                                with_reducible rfl
                              rotate_left
                              · simp only [Act.put, List.setIfInBounds_toArray, List.set_cons_zero, List.set_cons_succ, i64_w, i32_w]
                                rfl
                              refine pure_ (i := 14) (N := some 31) (v := ?_) (a' := ?_) #[true, true, true, true, true, true, true, false, false, false, false, false, false, true, true, false, false, false] rfl rfl (any_of HT_.out (by kernel_rfl)) (fun _ _ _ h => h) (Or.inl ⟨by rfl, ?_⟩) ?_ ?_
                              rotate_left
                              · intro w'
                                go_simp
                                with_reducible rfl
                              rotate_left
                              · simp only [Act.put, List.setIfInBounds_toArray, List.set_cons_zero, List.set_cons_succ, i64_w, i32_w]
                                rfl
                              refine pure_ (i := 15) (N := some 32) (v := ?_) (a' := ?_) #[true, true, true, true, true, true, true, false, false, false, false, false, false, true, true, true, false, false] rfl rfl (any_of HT_.out (by kernel_rfl)) (fun _ _ _ h => h) (Or.inl ⟨by rfl, ?_⟩) ?_ ?_
                              rotate_left
                              · intro w'
                                go_simp
                                with_reducible rfl
                              rotate_left
                              · simp only [Act.put, List.setIfInBounds_toArray, List.set_cons_zero, List.set_cons_succ, i64_w, i32_w]
                                rfl
                              refine take_ (i := 7) (N := some 24) (v := ?_) (a' := ?_) #[true, true, true, true, true, true, true, true, false, false, false, false, false, true, true, true, false, false] rfl rfl (take_ofW HT_.out HW_.out (by kernel_rfl)) (fun _ _ _ h => h) (Or.inl ⟨by rfl, ?_⟩) hHeld ?_ ?_
                              rotate_left
                              · intro w' _
                                go_simp
                                with_reducible rfl
                              rotate_left
                              · simp only [Act.put, List.setIfInBounds_toArray, List.set_cons_zero, List.set_cons_succ, i64_w, i32_w]
                                rfl
                              refine pure_ (i := 8) (N := some 25) (v := ?_) (a' := ?_) #[true, true, true, true, true, true, true, true, true, false, false, false, false, true, true, true, false, false] rfl rfl (any_of HT_.out (by kernel_rfl)) (fun _ _ _ h => h) (Or.inl ⟨by rfl, ?_⟩) ?_ ?_
                              rotate_left
                              · intro w'
                                go_simp
                                with_reducible rfl
                              rotate_left
                              · simp only [Act.put, List.setIfInBounds_toArray, List.set_cons_zero, List.set_cons_succ, i64_w, i32_w]
                                rfl
                              refine pure_ (i := 9) (N := some 26) (v := ?_) (a' := ?_) #[true, true, true, true, true, true, true, true, true, true, false, false, false, true, true, true, false, false] rfl rfl (any_of HT_.out (by kernel_rfl)) (fun _ _ _ h => h) (Or.inl ⟨by rfl, ?_⟩) ?_ ?_
                              rotate_left
                              · intro w'
                                go_simp
                                with_reducible rfl
                              rotate_left
                              · simp only [Act.put, List.setIfInBounds_toArray, List.set_cons_zero, List.set_cons_succ, i64_w, i32_w]
                                rfl
                              refine pure_ (i := 10) (N := some 27) (v := ?_) (a' := ?_) #[true, true, true, true, true, true, true, true, true, true, true, false, false, true, true, true, false, false] rfl rfl (any_of HT_.out (by kernel_rfl)) (fun _ _ _ h => h) (Or.inl ⟨by rfl, ?_⟩) ?_ ?_
                              rotate_left
                              · intro w'
                                go_simp
                                with_reducible rfl
                              rotate_left
                              · simp only [Act.put, List.setIfInBounds_toArray, List.set_cons_zero, List.set_cons_succ, i64_w, i32_w]
                                rfl
                              refine one_ (i := 11) (N := some 28) #[true, true, true, true, true, true, true, true, true, true, true, true, false, true, true, true, false, false] rfl rfl (one_of HT_.out (by kernel_rfl)) (by decide) (fun K hK => ?_)
                              have hu_ : wrap64 (wrap64 (IntKind.u8.wrap (bt x0_1 ji9 - 48)) - 1) = (bt x0_1 ji9 - 48) % 256 - 1 := by rw [IntKind.wrap_u8]; unfold wrap64; omega
                              refine goes_ Tryd.func52 (by kernel_rfl) rfl #[.int .i64 ((((bt x0_1 (ji9)) - 48) % 256) - 1)] (by rfl) rfl rfl (by (try simp only [List.map_toArray, List.map_cons, List.map_nil]); first | done | (exact congrArg (fun z => #[Value.int .i64 z]) hu_) | (simp only [hji9]; rfl) | rfl | (simp only [List.length_drop, List.length_take]; rfl)) ?_
                              with_reducible refine (spec_l1Num.calls k1 ((((bt x0_1 (ji9)) - 48) % 256) - 1) t124 _ A14.out).mono ?_
                              rintro e w21 ⟨rfl, hb⟩
                              refine ⟨_, rfl, ?_⟩
                              have n0_ := Aside0.mk (below_step (by repeat (first | (with_reducible first | exact HB.out | apply below_alloc | apply pw_below_drewN | apply below_drew1) | exact HB.out)) hb)
                              clear HB
                              have HB := n0_
                              clear n0_
                              (try clear hb)
                              (try clear hb2)
                              (try clear hk)
                              (try clear hi)
                              refine hK.out _ _ trivial (fun hHeld => ?_)
                              clear hK K
                              refine norm_ (a' := ?_) ?_ ?_
                              rotate_left
                              · show Act.put _ (some 28) _ = _
                                simp only [Act.put, List.setIfInBounds_toArray, List.set_cons_zero, List.set_cons_succ, i64_w, i32_w]
                                rfl
                              refine pure_ (i := 12) (N := some 29) (v := ?_) (a' := ?_) #[true, true, true, true, true, true, true, true, true, true, true, true, true, true, true, true, false, false] rfl rfl (any_of HT_.out (by kernel_rfl)) (fun _ _ _ h => h) (Or.inl ⟨by rfl, ?_⟩) ?_ ?_
                              rotate_left
                              · intro w'
                                go_simp
                                with_reducible rfl
                              rotate_left
                              · simp only [Act.put, List.setIfInBounds_toArray, List.set_cons_zero, List.set_cons_succ, i64_w, i32_w]
                                rfl
                              refine pure_ (i := 16) (N := some 33) (v := ?_) (a' := ?_) #[true, true, true, true, true, true, true, true, true, true, true, true, true, true, true, true, true, false] rfl rfl (any_of HT_.out (by kernel_rfl)) (fun _ _ _ h => h) (Or.inl ⟨by rfl, ?_⟩) ?_ ?_
                              rotate_left
                              · intro w'
                                go_simp
                                with_reducible rfl
                              rotate_left
                              · simp only [Act.put, List.setIfInBounds_toArray, List.set_cons_zero, List.set_cons_succ, i64_w, i32_w]
                                rfl
                              refine pure_ (i := 17) (N := some 0) (v := ?_) (a' := ?_) #[true, true, true, true, true, true, true, true, true, true, true, true, true, true, true, true, true, true] rfl rfl (any_of HT_.out (by kernel_rfl)) (fun _ _ _ h => h) (Or.inl ⟨by rfl, ?_⟩) ?_ ?_
                              rotate_left
                              · intro w'
                                go_simp
                                with_reducible rfl
                              rotate_left
                              · simp only [Act.put, List.setIfInBounds_toArray, List.set_cons_zero, List.set_cons_succ, i64_w, i32_w]
                                rfl
                              refine done_ (done_of HT_.out (by kernel_rfl)) ?_
                              try go_wp2
                              go_roundg k1
                              case measure => have := HK1.out; omega
                              case rel => exact ⟨(((x0_1.extract 0 ((ji9) : Int).toNat) ++ t124) ++ (x0_1.extract ((ji16) : Int).toNat x0_1.size)), (wrap64 (x13_1 + 1)), (by first | rfl | (simp; done) | (simp only [← hji9, ← hji16] <;> (first | rfl | simp)) | (simp [*]; done)), (by first | rfl | (simp; done) | (simp [*]; done)), H', ⟨by have := HK1.out; omega⟩, ⟨by repeat (first | (with_reducible first | exact HB.out | apply below_alloc | apply pw_below_drewN | apply below_drew1) | exact HB.out)⟩⟩
                            · rw [if_neg c19] at H
                              exact absurd H (by simp)
                          · rw [if_neg c18] at H
                            exact absurd H (by simp)
                        · rw [if_neg c17] at H
                          exact absurd H (by simp)
                      · rw [if_neg c15] at H
                        exact absurd H (by simp)
                    · rw [if_neg c12] at H
                      exact absurd H (by simp)
                  · rw [if_neg c11] at H
                    exact absurd H (by simp)
                · rw [if_neg c10] at H
                  exact absurd H (by simp)
              · rw [if_neg c8] at H
                exact absurd H (by simp)
            · rw [if_neg c7] at H
              exact absurd H (by simp)
          · rw [if_neg c6] at H
            have c6b0 : decide (x13_1 < (dd.length : Int)) = false := decide_eq_false c6
            clear c6
            obtain rfl := Option.some.inj H
            go_wp2
            go_ret
            exact ⟨by first | rfl | (simp [errW_none, errW_some] <;> rfl) | (simp [*, errW_none, errW_some] <;> rfl), by repeat (first | (with_reducible first | exact HB.out | apply below_alloc | apply pw_below_drewN | apply below_drew1) | exact HB.out)⟩
    · rw [if_neg c4] at H
      exact absurd H (by simp)
  · rw [if_neg c3] at H
    exact absurd H (by simp)

end Go.Proofs.YtbiophfljphgfaaDoor.K
