/- Go functions of this seat as plain functions, each with the proof that its call comes to what that function says: written by this session's program (wip/drive.py) out of the translation, by the kit's printer and by texts of our own; no conditions. -/
import Derived.Test.YtkikaakfdggklaaQx0
import Derived.Test.YtkikaakfdggklaaQx17
import Derived.Test.YtkikaakfdggklaaQx20
namespace Go.Proofs.Ytkikaakfdggklaa.Q
open Go.RowKit Go.Proofs.YtkikaakfdggklaaW.PrintWords Go.Proofs.YtkikaakfdggklaaW.PrintLast Go.Proofs.YtkikaakfdggklaaW.PrintMore
attribute [local go_sem] max2_int min2_int max_two min_two max_three min_three max_four min_four   -- for this text's walks alone
set_option linter.unusedVariables false
set_option linter.unusedSimpArgs false

/-! ### spec_isEven: function 86 -/
mutual
def spec_isEven.l0 : Nat → List Int → List Int → List (S37) → Int → Int → Int → List (S37) → Option (Bool)
  | 0, _, _, _, _, _, _, _ => none
  | k + 1, x3, x4, x18, x19, x20, x452000, x452001 => if x20 < x19 then (if 0 ≤ x20 then (if x20 < (x18.length : Int) then (if 0 ≤ ((rd_T37 x18 x20).f0) then (if ((rd_T37 x18 x20).f0) < (x4.length : Int) then ((some (x4.set (((rd_T37 x18 x20).f0) : Int).toNat (wrap64 ((rd x4 ((rd_T37 x18 x20).f0)) + 1)) : List Int)).bind fun y461 => (if 0 ≤ ((rd_T37 x18 x20).f1) then (if ((rd_T37 x18 x20).f1) < (x4.length : Int) then (if ((rd_T37 x18 x20).f0) < (x3.length : Int) then (if 0 < (x452001.length : Int) then (if 0 ≤ ((rd_T37 x452001 0).f0) then (if ((rd_T37 x452001 0).f0) < (x3.length : Int) then (if (rd x3 ((rd_T37 x18 x20).f0)) = (rd x3 ((rd_T37 x452001 0).f0)) then (spec_isEven.l0 k x3 (y461.set (((rd_T37 x18 x20).f1) : Int).toNat (wrap64 ((rd y461 ((rd_T37 x18 x20).f1)) + 1))) x18 x19 (wrap64 (x20 + 1)) x452000 x452001) else (some false)) else (none)) else (none)) else (none)) else (none)) else (none)) else (none))) else (none)) else (none)) else (none)) else (none)) else (spec_isEven.l1 k x4 (x4.length : Int) 0)
def spec_isEven.l1 : Nat → List Int → Int → Int → Option (Bool)
  | 0, _, _, _ => none
  | k + 1, x53, x54, x55 => if x55 < x54 then (if 0 ≤ x55 then (if x55 < (x53.length : Int) then (if (Int.tmod (rd x53 x55) 2) = 1 then (some false) else (spec_isEven.l1 k x53 x54 (wrap64 (x55 + 1)))) else (none)) else (none)) else (some true)
end
def spec_isEven.f (k : Nat) (a0_0 : Int) (l0_1 : List (S37)) : Option (Bool) := (spec_isGroups.f k a0_0 l0_1 (-1)).bind fun t452 => (if 0 ≤ a0_0 then (if (a0_0 : Int).toNat ≤ 35184372088832 then (spec_isEven.l0 k t452 (List.replicate (a0_0 : Int).toNat 0) l0_1 (l0_1.length : Int) 0 a0_0 l0_1) else (none)) else (none))
theorem spec_isEven.mono_l : ∀ k, (∀ y0 y1 y2 y3 y4 y5 y6, LeO (spec_isEven.l0 k y0 y1 y2 y3 y4 y5 y6) (spec_isEven.l0 (k + 1) y0 y1 y2 y3 y4 y5 y6)) ∧ (∀ y0 y1 y2, LeO (spec_isEven.l1 k y0 y1 y2) (spec_isEven.l1 (k + 1) y0 y1 y2))
  | 0 => ⟨fun _ _ _ _ _ _ _ r h => by simp [spec_isEven.l0] at h, fun _ _ _ r h => by simp [spec_isEven.l1] at h⟩
  | k + 1 => by
    obtain ⟨ih0, ih1⟩ := spec_isEven.mono_l k
    refine ⟨?_, ?_⟩
    · intro y0 y1 y2 y3 y4 y5 y6
      unfold spec_isEven.l0
      repeat' first
      | (with_reducible exact ih0 _ _ _ _ _ _ _)
      | (with_reducible exact ih1 _ _ _)
      | (with_reducible exact spec_isGroups.mono _ _ _ _)
      | (with_reducible exact LeO.refl _)
      | (with_reducible exact LeO.none _)
      | (with_reducible refine LeO.ite ?_ ?_)
      | (with_reducible refine LeO.bind ?_ (fun _ => ?_))
      | exact ih0 _ _ _ _ _ _ _
      | exact ih1 _ _ _
      | exact spec_isGroups.mono _ _ _ _
      | exact LeO.none _
      | refine LeO.ite ?_ ?_
      | refine LeO.bind ?_ (fun _ => ?_)
    · intro y0 y1 y2
      unfold spec_isEven.l1
      repeat' first
      | (with_reducible exact ih0 _ _ _ _ _ _ _)
      | (with_reducible exact ih1 _ _ _)
      | (with_reducible exact spec_isGroups.mono _ _ _ _)
      | (with_reducible exact LeO.refl _)
      | (with_reducible exact LeO.none _)
      | (with_reducible refine LeO.ite ?_ ?_)
      | (with_reducible refine LeO.bind ?_ (fun _ => ?_))
      | exact ih0 _ _ _ _ _ _ _
      | exact ih1 _ _ _
      | exact spec_isGroups.mono _ _ _ _
      | exact LeO.none _
      | refine LeO.ite ?_ ?_
      | refine LeO.bind ?_ (fun _ => ?_)
theorem spec_isEven.mono : ∀ a0 a1 k, LeO (spec_isEven.f k a0 a1) (spec_isEven.f (k + 1) a0 a1) := by
  intro a0 a1 k
  obtain ⟨ih0, ih1⟩ := spec_isEven.mono_l k
  unfold spec_isEven.f
  repeat' first
      | (with_reducible exact ih0 _ _ _ _ _ _ _)
      | (with_reducible exact ih1 _ _ _)
      | (with_reducible exact spec_isGroups.mono _ _ _ _)
      | (with_reducible exact LeO.refl _)
      | (with_reducible exact LeO.none _)
      | (with_reducible refine LeO.ite ?_ ?_)
      | (with_reducible refine LeO.bind ?_ (fun _ => ?_))
      | exact ih0 _ _ _ _ _ _ _
      | exact ih1 _ _ _
      | exact spec_isGroups.mono _ _ _ _
      | exact LeO.none _
      | refine LeO.ite ?_ ?_
      | refine LeO.bind ?_ (fun _ => ?_)
set_option hygiene false in
local macro "sq86_0_0" : tactic => `(tactic| (first | ((with_reducible refine gate_dst (N := 6) rfl ?_); refine box_event ?hg (N := 6) ?hd (cs := #[.int .i64 0, .int .i64 0, .int .i64 0]) (t := 37) ?hr ?_; (case hd => rfl); (case hg => rfl); (case hr => first | (go_simp; done) | (go_simp; rfl)); intro gb459 hg w26 hbox hb; have n0_ := Aside0.mk (Kd.R_below (by (with_reducible repeat (first | apply Kd.R_alloc | apply Kd.R_drewN | apply Kd.R_drew)); exact HO_3.out) hb); have n1_ := Aside0.mk (Kd.R_below (by (with_reducible repeat (first | apply Kd.R_alloc | apply Kd.R_drewN | apply Kd.R_drew)); exact HO_4.out) hb); have n2_ := Aside0.mk (blk_below (g := gb451) (o := .cells #[.int .i64 a0_0, .slice (some ad458) l0_1.length c0_1] 29 (0, 0)) (by (with_reducible repeat (first | refine blk_drewN ?_ _ | refine blk_drew ?_ | refine blk_alloc ?_ _)); exact BK451.out) hb); have n3_ := Aside0.mk (below_step (by repeat (first | (with_reducible first | exact HB.out | apply below_alloc | apply pw_below_drewN | apply below_drew1 | refine below_set ?_ GE451.out) | exact HB.out)) hb); have n4_ := Aside0.mk (hbox); have n5_ := Aside0.mk ((by rw [hg]; exact (below_size (by repeat (first | (with_reducible first | exact HB.out | apply below_alloc | apply pw_below_drewN | apply below_drew1 | refine below_set ?_ GE451.out) | exact HB.out))) : w.heap.size ≤ gb459)); have n6_ := Aside0.mk ((by rw [hg]; exact (below_size (by repeat (first | (with_reducible first | exact HB.out | apply below_alloc | apply pw_below_drewN | apply below_drew1 | refine below_set ?_ GE451.out) | exact HB.out))) : w.heap.size ≤ gb459)); have n7_ := Aside0.mk ((by rw [hg]; exact Nat.ne_of_lt (blk_lt (g := gb451) (o := .cells #[.int .i64 a0_0, .slice (some ad458) l0_1.length c0_1] 29 (0, 0)) (by (with_reducible repeat (first | refine blk_drewN ?_ _ | refine blk_drew ?_ | refine blk_alloc ?_ _)); exact BK451.out)) : gb451 ≠ gb459)); have n8_ := Aside0.mk ((by rw [hg]; exact Nat.ne_of_gt (blk_lt (g := gb451) (o := .cells #[.int .i64 a0_0, .slice (some ad458) l0_1.length c0_1] 29 (0, 0)) (by (with_reducible repeat (first | refine blk_drewN ?_ _ | refine blk_drew ?_ | refine blk_alloc ?_ _)); exact BK451.out)) : gb459 ≠ gb451)); clear HO_3; clear HO_4; clear BK451; clear HB; have HO_3 := n0_; have HO_4 := n1_; have BK451 := n2_; have HB := n3_; have BK459 := n4_; have GW459 := n5_; have GE459 := n6_; have NB451_459 := n7_; have NB459_451 := n8_; clear n0_ n1_ n2_ n3_ n4_ n5_ n6_ n7_ n8_; clear hb hbox hg; have hnb27 := NB459_451.out; have hnc27 := NB451_459.out; have hcz28_0 : w26.cell? ⟨gb459, 0, none⟩ = some (.int .i64 0) := (blk_cell BK459.out 0).trans rfl; have hcz28_1 : w26.cell? ⟨gb459, 1, none⟩ = some (.int .i64 0) := (blk_cell BK459.out 1).trans rfl; have hcz28_2 : w26.cell? ⟨gb459, 2, none⟩ = some (.int .i64 0) := (blk_cell BK459.out 2).trans rfl; have hfz28_0 := blk_frozen BK459.out 0; have hfz28_1 := blk_frozen BK459.out 1; have hfz28_2 := blk_frozen BK459.out 2) | ((with_reducible refine gate_store (t := 37) (p := 6) rfl ?_); (try (rw [drewN_self w26]; generalize hq_ : World.drewN w26 _ = w26; have n0_ := Aside0.mk (Kd.R_at hq_ HO_3.out); have n1_ := Aside0.mk (Kd.R_at hq_ HO_4.out); have n2_ := Aside0.mk (blk_at hq_ BK451.out); have n3_ := Aside0.mk (blk_at hq_ BK459.out); have n4_ := Aside0.mk (below_at hq_ HB.out); clear hq_ HO_3 HO_4 BK451 BK459 HB; have HO_3 := n0_; have HO_4 := n1_; have BK451 := n2_; have BK459 := n3_; have HB := n4_; clear n0_ n1_ n2_ n3_ n4_)); refine store_event (t := 37) (p := 6) (v := ?vo_w29) (w1 := (((w26.setCell ⟨gb459, 0, none⟩ (.int .i64 ((rd_T37 l0_1 x20_1).f0))).setCell ⟨gb459, 1, none⟩ (.int .i64 ((rd_T37 l0_1 x20_1).f1))).setCell ⟨gb459, 2, none⟩ (.int .i64 ((rd_T37 l0_1 x20_1).f2)))) ?hg ?ho ?hn ?hr ?_; (case ho => rfl); (case hg => rfl); (case hn => rfl); (case hr => first | (go_simp; done) | (go_simp; rfl)); intro w29 hw; have n0_ : Aside0 (Kd.R (Kd.int .i64) 3 w29 w.heap.size (fun k_ => some k_ ≠ (v456 : Value).ownBlock) v453 t452) := ⟨(by rw [hw]; exact (by (with_reducible repeat (first | apply Kd.R_alloc | apply Kd.R_drewN | apply Kd.R_drew)); exact Kd.R_mono (Kd.R_far (p := ⟨gb459, 2, none⟩) (Kd.R_far (p := ⟨gb459, 1, none⟩) (Kd.R_far (p := ⟨gb459, 0, none⟩) (Kd.R_types HO_3.out BK459.out (by decide)) (fun _ hk => hk.2) (.int .i64 ((rd_T37 l0_1 x20_1).f0))) (fun _ hk => hk.2) (.int .i64 ((rd_T37 l0_1 x20_1).f1))) (fun _ hk => hk.2) (.int .i64 ((rd_T37 l0_1 x20_1).f2))) (fun _ hk => hk.1)))⟩; have n1_ : Aside0 (Kd.R (Kd.int .i64) 3 w29 w.heap.size (fun k_ => some k_ ≠ (v453 : Value).ownBlock) v456 x4_1) := ⟨(by rw [hw]; exact (by (with_reducible repeat (first | apply Kd.R_alloc | apply Kd.R_drewN | apply Kd.R_drew)); exact Kd.R_mono (Kd.R_far (p := ⟨gb459, 2, none⟩) (Kd.R_far (p := ⟨gb459, 1, none⟩) (Kd.R_far (p := ⟨gb459, 0, none⟩) (Kd.R_types HO_4.out BK459.out (by decide)) (fun _ hk => hk.2) (.int .i64 ((rd_T37 l0_1 x20_1).f0))) (fun _ hk => hk.2) (.int .i64 ((rd_T37 l0_1 x20_1).f1))) (fun _ hk => hk.2) (.int .i64 ((rd_T37 l0_1 x20_1).f2))) (fun _ hk => hk.1)))⟩; have n2_ : Aside0 (w29.heap[gb451]? = some (.cells #[.int .i64 a0_0, .slice (some ad458) l0_1.length c0_1] 29 (0, 0))) := ⟨(by rw [hw]; exact (by (with_reducible repeat (first | refine blk_drewN ?_ _ | refine blk_drew ?_ | refine blk_alloc ?_ _)); refine blk_far ?_ NB451_459.out _; (with_reducible repeat (first | refine blk_drewN ?_ _ | refine blk_drew ?_ | refine blk_alloc ?_ _)); refine blk_far ?_ NB451_459.out _; (with_reducible repeat (first | refine blk_drewN ?_ _ | refine blk_drew ?_ | refine blk_alloc ?_ _)); refine blk_far ?_ NB451_459.out _; (with_reducible repeat (first | refine blk_drewN ?_ _ | refine blk_drew ?_ | refine blk_alloc ?_ _)); exact BK451.out))⟩; have n3_ : Aside0 (w29.heap[gb459]? = some (.cells #[.int .i64 ((rd_T37 l0_1 x20_1).f0), .int .i64 ((rd_T37 l0_1 x20_1).f1), .int .i64 ((rd_T37 l0_1 x20_1).f2)] 37 (0, 0))) := ⟨(by rw [hw]; exact (by (with_reducible repeat (first | refine blk_drewN ?_ _ | refine blk_drew ?_ | refine blk_alloc ?_ _)); refine blk_put (cs := #[.int .i64 ((rd_T37 l0_1 x20_1).f0), .int .i64 ((rd_T37 l0_1 x20_1).f1), .int .i64 0]) ?_ 2 _ rfl; (with_reducible repeat (first | refine blk_drewN ?_ _ | refine blk_drew ?_ | refine blk_alloc ?_ _)); refine blk_put (cs := #[.int .i64 ((rd_T37 l0_1 x20_1).f0), .int .i64 0, .int .i64 0]) ?_ 1 _ rfl; (with_reducible repeat (first | refine blk_drewN ?_ _ | refine blk_drew ?_ | refine blk_alloc ?_ _)); refine blk_put (cs := #[.int .i64 0, .int .i64 0, .int .i64 0]) ?_ 0 _ rfl; (with_reducible repeat (first | refine blk_drewN ?_ _ | refine blk_drew ?_ | refine blk_alloc ?_ _)); exact BK459.out))⟩; have n4_ : Aside0 (Below w.heap.size w w29) := ⟨(by rw [hw]; exact (by repeat (first | (with_reducible first | exact HB.out | apply below_alloc | apply pw_below_drewN | apply below_drew1 | refine below_set ?_ GE451.out | refine below_set ?_ GE459.out) | exact HB.out)))⟩; clear hw; clear HO_3; clear HO_4; clear BK451; clear BK459; clear HB; have HO_3 := n0_; have HO_4 := n1_; have BK451 := n2_; have BK459 := n3_; have HB := n4_; clear n0_ n1_ n2_ n3_ n4_; have hcz30_0 : w29.cell? ⟨gb459, 0, none⟩ = some (.int .i64 ((rd_T37 l0_1 x20_1).f0)) := (blk_cell BK459.out 0).trans rfl; have hcz30_1 : w29.cell? ⟨gb459, 1, none⟩ = some (.int .i64 ((rd_T37 l0_1 x20_1).f1)) := (blk_cell BK459.out 1).trans rfl; have hcz30_2 : w29.cell? ⟨gb459, 2, none⟩ = some (.int .i64 ((rd_T37 l0_1 x20_1).f2)) := (blk_cell BK459.out 2).trans rfl; have hfz30_0 := blk_frozen BK459.out 0; have hfz30_1 := blk_frozen BK459.out 1; have hfz30_2 := blk_frozen BK459.out 2; obtain ⟨Ao31, co31, eo31⟩ := Kd.R_slice HO_4.out; subst eo31; have p460 : 0 ≤ (((rd_T37 l0_1 x20_1).f0) : Int) := of_decide_eq_true (by first | (with_reducible assumption) | assumption); have q460 : ((rd_T37 l0_1 x20_1).f0) < (x4_1.length : Int) := of_decide_eq_true (by first | (with_reducible assumption) | assumption); obtain ⟨ad460, e460, hx460_0⟩ := Kd.at_int (Kd.R_reads' HO_4.out).2.2 ((rd_T37 l0_1 x20_1).f0) p460 q460; cases e460; replace p460 := eq_true p460; replace q460 := eq_true q460; have p17 : 0 ≤ (((rd_T37 l0_1 x20_1).f0) : Int) := of_decide_eq_true (by first | (with_reducible assumption) | assumption); have q17 : (((rd_T37 l0_1 x20_1).f0) : Int) < ((x4_1.length : Int) : Int) := of_decide_eq_true (by first | (with_reducible assumption) | assumption); obtain ⟨go17, co17, eo17, gb17, gl17, cl17, HG17⟩ := Kd.R_form HO_4.out (by omega); (first | cases eo17 | (injection eo17 with ea_ en_ ec_; (first | subst ea_ | (injection ea_ with ea_; subst ea_)); subst ec_; clear en_)); have GB17 := Aside0.mk gb17; have GG17 := Aside0.mk HG17; clear gb17 gl17 HG17; (first | simp only [add_plain] at hx460_0 | skip); obtain ⟨hx17_0, hf17_0⟩ := Kd.R_celln 0 HO_4.out (((rd_T37 l0_1 x20_1).f0) : Int) p17 q17; replace p17 := eq_true p17; replace q17 := eq_true q17; obtain ⟨hy32_, hz32_⟩ := Kd.R_celln 0 HO_4.out (((rd_T37 l0_1 x20_1).f0) : Int) (of_decide_eq_true (by first | (with_reducible assumption) | assumption)) (of_decide_eq_true (by first | (with_reducible assumption) | assumption)); have HP32 := Kd.R_putg HO_4.out (((rd_T37 l0_1 x20_1).f0) : Int) (wrap64 ((rd x4_1 ((rd_T37 l0_1 x20_1).f0)) + 1))) | ((with_reducible refine gate_store (t := 3) (p := 30) rfl ?_); (try (rw [drewN_self w29]; generalize hq_ : World.drewN w29 _ = w29; have n0_ := Aside0.mk (Kd.R_at hq_ HO_3.out); have n1_ := Aside0.mk (Kd.R_at hq_ HO_4.out); have n2_ := Aside0.mk (blk_at hq_ BK451.out); have n3_ := Aside0.mk (blk_at hq_ BK459.out); have n4_ := Aside0.mk (below_at hq_ HB.out); clear hq_ HO_3 HO_4 BK451 BK459 HB; have HO_3 := n0_; have HO_4 := n1_; have BK451 := n2_; have BK459 := n3_; have HB := n4_; clear n0_ n1_ n2_ n3_ n4_; (try (obtain ⟨hy32_, hz32_⟩ := Kd.R_celln 0 HO_4.out (((rd_T37 l0_1 x20_1).f0) : Int) (of_decide_eq_true (by first | (with_reducible assumption) | assumption)) (of_decide_eq_true (by first | (with_reducible assumption) | assumption)))); (try (have HP32 := Kd.R_putg HO_4.out (((rd_T37 l0_1 x20_1).f0) : Int) (wrap64 ((rd x4_1 ((rd_T37 l0_1 x20_1).f0)) + 1)))))); refine store_event (t := 3) (p := 30) (v := ?vo_w33) (w1 := (w29.setCell ⟨go17, (((rd_T37 l0_1 x20_1).f0) : Int).toNat, none⟩ (.int .i64 (wrap64 ((rd x4_1 ((rd_T37 l0_1 x20_1).f0)) + 1))))) ?hg ?ho ?hn ?hr ?_; (case ho => rfl); (case hg => rfl); (case hn => rfl); (case hr => first | (go_simp; done) | (go_simp; rfl)); intro w33 hw; have hg : w29.grownBy w33 (some go17) := (by rw [hw]; exact HP32.2); have hp_ : Kd.R (Kd.int .i64) 3 w33 w.heap.size (fun k_ => some k_ ≠ (v453 : Value).ownBlock) (.slice (some ⟨go17, 0, none⟩) x4_1.length co31) y461 := (by rw [hw, Ny461.out]; exact HP32.1); clear HP32; have n0_ := Aside0.mk (Kd.R_after (v := (.slice (some ⟨go17, 0, none⟩) x4_1.length co31)) (v1 := (.slice (some ⟨go17, 0, none⟩) x4_1.length co31)) (ok := (fun _ => True)) (by (with_reducible repeat (first | apply Kd.R_alloc | apply Kd.R_drewN | apply Kd.R_drew)); exact Kd.R_mono HO_3.out (fun _ hk => ⟨trivial, hk⟩)) hg (.inl rfl)); have n1_ := Aside0.mk (hp_); have n2_ := Aside0.mk (blk_grown (g := gb451) (o := .cells #[.int .i64 a0_0, .slice (some ad458) l0_1.length c0_1] 29 (0, 0)) (by (with_reducible repeat (first | refine blk_drewN ?_ _ | refine blk_drew ?_ | refine blk_alloc ?_ _)); exact BK451.out) hg (Kd.R_ne HO_4.out BK451.out (by decide))); have n3_ := Aside0.mk (blk_grown (g := gb459) (o := .cells #[.int .i64 ((rd_T37 l0_1 x20_1).f0), .int .i64 ((rd_T37 l0_1 x20_1).f1), .int .i64 ((rd_T37 l0_1 x20_1).f2)] 37 (0, 0)) (by (with_reducible repeat (first | refine blk_drewN ?_ _ | refine blk_drew ?_ | refine blk_alloc ?_ _)); exact BK459.out) hg (Kd.R_ne HO_4.out BK459.out (by decide))); have n4_ := Aside0.mk ((by rw [hw]; exact below_set (HB.out) GB17.out : Below w.heap.size w w33)); clear HO_3; clear HO_4; clear BK451; clear BK459; clear HB; have HO_3 := n0_; have HO_4 := n1_; have BK451 := n2_; have BK459 := n3_; have HB := n4_; clear n0_ n1_ n2_ n3_ n4_; clear hg hw hp_; have hcz34_0 : w33.cell? ⟨gb459, 0, none⟩ = some (.int .i64 ((rd_T37 l0_1 x20_1).f0)) := (blk_cell BK459.out 0).trans rfl; have hcz34_1 : w33.cell? ⟨gb459, 1, none⟩ = some (.int .i64 ((rd_T37 l0_1 x20_1).f1)) := (blk_cell BK459.out 1).trans rfl; have hcz34_2 : w33.cell? ⟨gb459, 2, none⟩ = some (.int .i64 ((rd_T37 l0_1 x20_1).f2)) := (blk_cell BK459.out 2).trans rfl; have hfz34_0 := blk_frozen BK459.out 0; have hfz34_1 := blk_frozen BK459.out 1; have hfz34_2 := blk_frozen BK459.out 2; have p462 : 0 ≤ (((rd_T37 l0_1 x20_1).f1) : Int) := of_decide_eq_true (by first | (with_reducible assumption) | assumption); have q462 : ((rd_T37 l0_1 x20_1).f1) < (y461.length : Int) := (by have h_ : (((rd_T37 l0_1 x20_1).f1) : Int) < ((x4_1.length : Int) : Int) := of_decide_eq_true (by first | (with_reducible assumption) | assumption); first | (have e_ := (Kd.R_reads' HO_4.out).1; omega) | simpa only [Ny461.out, List.length_set] using h_); have ql462 : ((((rd_T37 l0_1 x20_1).f1) : Int) < ((x4_1.length : Int) : Int)) = True := eq_true (of_decide_eq_true (by first | (with_reducible assumption) | assumption)); obtain ⟨ad462, e462, hx462_0⟩ := Kd.at_int (Kd.R_reads' HO_4.out).2.2 ((rd_T37 l0_1 x20_1).f1) p462 q462; obtain rfl : (⟨go17, 0, none⟩ : Addr) = ad462 := (by injection e462); (first | simp only [add_plain] at hx462_0 | simp only [add_at] at hx462_0 | simp only [Addr.add, Nat.zero_add] at hx462_0 | skip); replace p462 := eq_true p462; replace q462 := eq_true q462; have p20 : 0 ≤ (((rd_T37 l0_1 x20_1).f1) : Int) := of_decide_eq_true (by first | (with_reducible assumption) | assumption); have q20 : (((rd_T37 l0_1 x20_1).f1) : Int) < ((x4_1.length : Int) : Int) := of_decide_eq_true (by first | (with_reducible assumption) | assumption); obtain ⟨hx20_0, hf20_0⟩ := Kd.R_celln 0 HO_4.out (((rd_T37 l0_1 x20_1).f1) : Int) p20 q20; replace p20 := eq_true p20; replace q20 := eq_true q20; obtain ⟨hy35_, hz35_⟩ := Kd.R_celln 0 HO_4.out (((rd_T37 l0_1 x20_1).f1) : Int) (of_decide_eq_true (by first | (with_reducible assumption) | assumption)) (of_decide_eq_true (by first | (with_reducible assumption) | assumption)); have HP35 := Kd.R_putg HO_4.out (((rd_T37 l0_1 x20_1).f1) : Int) (wrap64 ((rd y461 ((rd_T37 l0_1 x20_1).f1)) + 1))) | ((with_reducible refine gate_store (t := 3) (p := 37) rfl ?_); (try (rw [drewN_self w33]; generalize hq_ : World.drewN w33 _ = w33; have n0_ := Aside0.mk (Kd.R_at hq_ HO_3.out); have n1_ := Aside0.mk (Kd.R_at hq_ HO_4.out); have n2_ := Aside0.mk (blk_at hq_ BK451.out); have n3_ := Aside0.mk (blk_at hq_ BK459.out); have n4_ := Aside0.mk (below_at hq_ HB.out); clear hq_ HO_3 HO_4 BK451 BK459 HB; have HO_3 := n0_; have HO_4 := n1_; have BK451 := n2_; have BK459 := n3_; have HB := n4_; clear n0_ n1_ n2_ n3_ n4_; (try (obtain ⟨hy35_, hz35_⟩ := Kd.R_celln 0 HO_4.out (((rd_T37 l0_1 x20_1).f1) : Int) (of_decide_eq_true (by first | (with_reducible assumption) | assumption)) (of_decide_eq_true (by first | (with_reducible assumption) | assumption)))); (try (have HP35 := Kd.R_putg HO_4.out (((rd_T37 l0_1 x20_1).f1) : Int) (wrap64 ((rd y461 ((rd_T37 l0_1 x20_1).f1)) + 1)))))); refine store_event (t := 3) (p := 37) (v := ?vo_w36) (w1 := (w33.setCell ⟨go17, (((rd_T37 l0_1 x20_1).f1) : Int).toNat, none⟩ (.int .i64 (wrap64 ((rd y461 ((rd_T37 l0_1 x20_1).f1)) + 1))))) ?hg ?ho ?hn ?hr ?_; (case ho => rfl); (case hg => rfl); (case hn => rfl); (case hr => first | (go_simp; done) | (go_simp; rfl)); intro w36 hw; have hg : w33.grownBy w36 (some go17) := (by rw [hw]; exact HP35.2); have hp_ : Kd.R (Kd.int .i64) 3 w36 w.heap.size (fun k_ => some k_ ≠ (v453 : Value).ownBlock) (.slice (some ⟨go17, 0, none⟩) x4_1.length co31) y463 := (by rw [hw, Ny463.out]; exact HP35.1); clear HP35; have n0_ := Aside0.mk (Kd.R_after (v := (.slice (some ⟨go17, 0, none⟩) x4_1.length co31)) (v1 := (.slice (some ⟨go17, 0, none⟩) x4_1.length co31)) (ok := (fun _ => True)) (by (with_reducible repeat (first | apply Kd.R_alloc | apply Kd.R_drewN | apply Kd.R_drew)); exact HO_3.out) hg (.inl rfl)); have n1_ := Aside0.mk (hp_); have n2_ := Aside0.mk (blk_grown (g := gb451) (o := .cells #[.int .i64 a0_0, .slice (some ad458) l0_1.length c0_1] 29 (0, 0)) (by (with_reducible repeat (first | refine blk_drewN ?_ _ | refine blk_drew ?_ | refine blk_alloc ?_ _)); exact BK451.out) hg (Kd.R_ne HO_4.out BK451.out (by decide))); have n3_ := Aside0.mk (blk_grown (g := gb459) (o := .cells #[.int .i64 ((rd_T37 l0_1 x20_1).f0), .int .i64 ((rd_T37 l0_1 x20_1).f1), .int .i64 ((rd_T37 l0_1 x20_1).f2)] 37 (0, 0)) (by (with_reducible repeat (first | refine blk_drewN ?_ _ | refine blk_drew ?_ | refine blk_alloc ?_ _)); exact BK459.out) hg (Kd.R_ne HO_4.out BK459.out (by decide))); have n4_ := Aside0.mk ((by rw [hw]; exact below_set (HB.out) GB17.out : Below w.heap.size w w36)); clear HO_3; clear HO_4; clear BK451; clear BK459; clear HB; have HO_3 := n0_; have HO_4 := n1_; have BK451 := n2_; have BK459 := n3_; have HB := n4_; clear n0_ n1_ n2_ n3_ n4_; clear hg hw hp_; have hcz37_0 : w36.cell? ⟨gb459, 0, none⟩ = some (.int .i64 ((rd_T37 l0_1 x20_1).f0)) := (blk_cell BK459.out 0).trans rfl; have hcz37_1 : w36.cell? ⟨gb459, 1, none⟩ = some (.int .i64 ((rd_T37 l0_1 x20_1).f1)) := (blk_cell BK459.out 1).trans rfl; have hcz37_2 : w36.cell? ⟨gb459, 2, none⟩ = some (.int .i64 ((rd_T37 l0_1 x20_1).f2)) := (blk_cell BK459.out 2).trans rfl; have hfz37_0 := blk_frozen BK459.out 0; have hfz37_1 := blk_frozen BK459.out 1; have hfz37_2 := blk_frozen BK459.out 2; obtain ⟨Ao38, co38, eo38⟩ := Kd.R_slice HO_3.out; subst eo38; have p464 : 0 ≤ (((rd_T37 l0_1 x20_1).f0) : Int) := of_decide_eq_true (by first | (with_reducible assumption) | assumption); have q464 : ((rd_T37 l0_1 x20_1).f0) < (t452.length : Int) := of_decide_eq_true (by first | (with_reducible assumption) | assumption); obtain ⟨ad464, e464, hx464_0⟩ := Kd.at_int (Kd.R_reads' HO_3.out).2.2 ((rd_T37 l0_1 x20_1).f0) p464 q464; cases e464; replace p464 := eq_true p464; replace q464 := eq_true q464; have hcz39_0 : w36.cell? ⟨gb451, 0, none⟩ = some (.int .i64 a0_0) := (blk_cell BK451.out 0).trans rfl; have hcz39_1 : w36.cell? ⟨gb451, 1, none⟩ = some (.slice (some ad458) l0_1.length c0_1) := (blk_cell BK451.out 1).trans rfl; have hfz39_0 := blk_frozen BK451.out 0; have hfz39_1 := blk_frozen BK451.out 1; have p465 : 0 ≤ (0 : Int) := (by omega); have q465 : 0 < (l0_1.length : Int) := of_decide_eq_true (by first | (with_reducible assumption) | assumption); obtain ⟨ad465, e465, hx465_0, hx465_1, hx465_2⟩ := at_T37 HR0_1.out 0 p465 q465; obtain rfl : ad458 = ad465 := (by injection e465); have qi465 : (0 < l0_1.length) = True := eq_true (by omega); (try rw [show ((0 : Int)).toNat = 0 from rfl] at hx465_0); (try rw [show 0 * 3 = 0 from rfl] at hx465_0); (try rw [Addr.add_zero'] at hx465_0); (try rw [show ((0 : Int)).toNat = 0 from rfl] at hx465_1); (try rw [show 0 * 3 = 0 from rfl] at hx465_1); (try rw [Addr.add_zero'] at hx465_1); (try rw [show ((0 : Int)).toNat = 0 from rfl] at hx465_2); (try rw [show 0 * 3 = 0 from rfl] at hx465_2); (try rw [Addr.add_zero'] at hx465_2); replace hx465_0 := (HB.out.cell (World.block_lt_of_cell? w _ hx465_0)).trans hx465_0; replace hx465_1 := (HB.out.cell (World.block_lt_of_cell? w _ hx465_1)).trans hx465_1; replace hx465_2 := (HB.out.cell (World.block_lt_of_cell? w _ hx465_2)).trans hx465_2; replace p465 := eq_true p465; replace q465 := eq_true q465; have p466 : 0 ≤ (((rd_T37 l0_1 0).f0) : Int) := of_decide_eq_true (by first | (with_reducible assumption) | assumption); have q466 : ((rd_T37 l0_1 0).f0) < (t452.length : Int) := of_decide_eq_true (by first | (with_reducible assumption) | assumption); obtain ⟨ad466, e466, hx466_0⟩ := Kd.at_int (Kd.R_reads' HO_3.out).2.2 ((rd_T37 l0_1 0).f0) p466 q466; obtain rfl : ad464 = ad466 := (by injection e466); replace p466 := eq_true p466; replace q466 := eq_true q466)))
set_option hygiene false in
local macro "sq86_0_1" : tactic => `(tactic| (first | ((with_reducible refine gate_dst (N := 6) rfl ?_); refine box_event ?hg (N := 6) ?hd (cs := #[.int .i64 0, .int .i64 0, .int .i64 0]) (t := 37) ?hr ?_; (case hd => rfl); (case hg => rfl); (case hr => first | (go_simp; done) | (go_simp; rfl)); intro gb459 hg w40 hbox hb; have n0_ := Aside0.mk (Kd.R_below (by (with_reducible repeat (first | apply Kd.R_alloc | apply Kd.R_drewN | apply Kd.R_drew)); exact HO_3.out) hb); have n1_ := Aside0.mk (Kd.R_below (by (with_reducible repeat (first | apply Kd.R_alloc | apply Kd.R_drewN | apply Kd.R_drew)); exact HO_4.out) hb); have n2_ := Aside0.mk (blk_below (g := gb451) (o := .cells #[.int .i64 a0_0, .slice (some ad458) l0_1.length c0_1] 29 (0, 0)) (by (with_reducible repeat (first | refine blk_drewN ?_ _ | refine blk_drew ?_ | refine blk_alloc ?_ _)); exact BK451.out) hb); have n3_ := Aside0.mk (below_step (by repeat (first | (with_reducible first | exact HB.out | apply below_alloc | apply pw_below_drewN | apply below_drew1 | refine below_set ?_ GE451.out) | exact HB.out)) hb); have n4_ := Aside0.mk (hbox); have n5_ := Aside0.mk ((by rw [hg]; exact (below_size (by repeat (first | (with_reducible first | exact HB.out | apply below_alloc | apply pw_below_drewN | apply below_drew1 | refine below_set ?_ GE451.out) | exact HB.out))) : w.heap.size ≤ gb459)); have n6_ := Aside0.mk ((by rw [hg]; exact (below_size (by repeat (first | (with_reducible first | exact HB.out | apply below_alloc | apply pw_below_drewN | apply below_drew1 | refine below_set ?_ GE451.out) | exact HB.out))) : w.heap.size ≤ gb459)); have n7_ := Aside0.mk ((by rw [hg]; exact Nat.ne_of_lt (blk_lt (g := gb451) (o := .cells #[.int .i64 a0_0, .slice (some ad458) l0_1.length c0_1] 29 (0, 0)) (by (with_reducible repeat (first | refine blk_drewN ?_ _ | refine blk_drew ?_ | refine blk_alloc ?_ _)); exact BK451.out)) : gb451 ≠ gb459)); have n8_ := Aside0.mk ((by rw [hg]; exact Nat.ne_of_gt (blk_lt (g := gb451) (o := .cells #[.int .i64 a0_0, .slice (some ad458) l0_1.length c0_1] 29 (0, 0)) (by (with_reducible repeat (first | refine blk_drewN ?_ _ | refine blk_drew ?_ | refine blk_alloc ?_ _)); exact BK451.out)) : gb459 ≠ gb451)); clear HO_3; clear HO_4; clear BK451; clear HB; have HO_3 := n0_; have HO_4 := n1_; have BK451 := n2_; have HB := n3_; have BK459 := n4_; have GW459 := n5_; have GE459 := n6_; have NB451_459 := n7_; have NB459_451 := n8_; clear n0_ n1_ n2_ n3_ n4_ n5_ n6_ n7_ n8_; clear hb hbox hg; have hnb41 := NB459_451.out; have hnc41 := NB451_459.out; have hcz42_0 : w40.cell? ⟨gb459, 0, none⟩ = some (.int .i64 0) := (blk_cell BK459.out 0).trans rfl; have hcz42_1 : w40.cell? ⟨gb459, 1, none⟩ = some (.int .i64 0) := (blk_cell BK459.out 1).trans rfl; have hcz42_2 : w40.cell? ⟨gb459, 2, none⟩ = some (.int .i64 0) := (blk_cell BK459.out 2).trans rfl; have hfz42_0 := blk_frozen BK459.out 0; have hfz42_1 := blk_frozen BK459.out 1; have hfz42_2 := blk_frozen BK459.out 2) | ((with_reducible refine gate_store (t := 37) (p := 6) rfl ?_); (try (rw [drewN_self w40]; generalize hq_ : World.drewN w40 _ = w40; have n0_ := Aside0.mk (Kd.R_at hq_ HO_3.out); have n1_ := Aside0.mk (Kd.R_at hq_ HO_4.out); have n2_ := Aside0.mk (blk_at hq_ BK451.out); have n3_ := Aside0.mk (blk_at hq_ BK459.out); have n4_ := Aside0.mk (below_at hq_ HB.out); clear hq_ HO_3 HO_4 BK451 BK459 HB; have HO_3 := n0_; have HO_4 := n1_; have BK451 := n2_; have BK459 := n3_; have HB := n4_; clear n0_ n1_ n2_ n3_ n4_)); refine store_event (t := 37) (p := 6) (v := ?vo_w43) (w1 := (((w40.setCell ⟨gb459, 0, none⟩ (.int .i64 ((rd_T37 l0_1 x20_1).f0))).setCell ⟨gb459, 1, none⟩ (.int .i64 ((rd_T37 l0_1 x20_1).f1))).setCell ⟨gb459, 2, none⟩ (.int .i64 ((rd_T37 l0_1 x20_1).f2)))) ?hg ?ho ?hn ?hr ?_; (case ho => rfl); (case hg => rfl); (case hn => rfl); (case hr => first | (go_simp; done) | (go_simp; rfl)); intro w43 hw; have n0_ : Aside0 (Kd.R (Kd.int .i64) 3 w43 w.heap.size (fun k_ => some k_ ≠ (v456 : Value).ownBlock) v453 t452) := ⟨(by rw [hw]; exact (by (with_reducible repeat (first | apply Kd.R_alloc | apply Kd.R_drewN | apply Kd.R_drew)); exact Kd.R_mono (Kd.R_far (p := ⟨gb459, 2, none⟩) (Kd.R_far (p := ⟨gb459, 1, none⟩) (Kd.R_far (p := ⟨gb459, 0, none⟩) (Kd.R_types HO_3.out BK459.out (by decide)) (fun _ hk => hk.2) (.int .i64 ((rd_T37 l0_1 x20_1).f0))) (fun _ hk => hk.2) (.int .i64 ((rd_T37 l0_1 x20_1).f1))) (fun _ hk => hk.2) (.int .i64 ((rd_T37 l0_1 x20_1).f2))) (fun _ hk => hk.1)))⟩; have n1_ : Aside0 (Kd.R (Kd.int .i64) 3 w43 w.heap.size (fun k_ => some k_ ≠ (v453 : Value).ownBlock) v456 x4_1) := ⟨(by rw [hw]; exact (by (with_reducible repeat (first | apply Kd.R_alloc | apply Kd.R_drewN | apply Kd.R_drew)); exact Kd.R_mono (Kd.R_far (p := ⟨gb459, 2, none⟩) (Kd.R_far (p := ⟨gb459, 1, none⟩) (Kd.R_far (p := ⟨gb459, 0, none⟩) (Kd.R_types HO_4.out BK459.out (by decide)) (fun _ hk => hk.2) (.int .i64 ((rd_T37 l0_1 x20_1).f0))) (fun _ hk => hk.2) (.int .i64 ((rd_T37 l0_1 x20_1).f1))) (fun _ hk => hk.2) (.int .i64 ((rd_T37 l0_1 x20_1).f2))) (fun _ hk => hk.1)))⟩; have n2_ : Aside0 (w43.heap[gb451]? = some (.cells #[.int .i64 a0_0, .slice (some ad458) l0_1.length c0_1] 29 (0, 0))) := ⟨(by rw [hw]; exact (by (with_reducible repeat (first | refine blk_drewN ?_ _ | refine blk_drew ?_ | refine blk_alloc ?_ _)); refine blk_far ?_ NB451_459.out _; (with_reducible repeat (first | refine blk_drewN ?_ _ | refine blk_drew ?_ | refine blk_alloc ?_ _)); refine blk_far ?_ NB451_459.out _; (with_reducible repeat (first | refine blk_drewN ?_ _ | refine blk_drew ?_ | refine blk_alloc ?_ _)); refine blk_far ?_ NB451_459.out _; (with_reducible repeat (first | refine blk_drewN ?_ _ | refine blk_drew ?_ | refine blk_alloc ?_ _)); exact BK451.out))⟩; have n3_ : Aside0 (w43.heap[gb459]? = some (.cells #[.int .i64 ((rd_T37 l0_1 x20_1).f0), .int .i64 ((rd_T37 l0_1 x20_1).f1), .int .i64 ((rd_T37 l0_1 x20_1).f2)] 37 (0, 0))) := ⟨(by rw [hw]; exact (by (with_reducible repeat (first | refine blk_drewN ?_ _ | refine blk_drew ?_ | refine blk_alloc ?_ _)); refine blk_put (cs := #[.int .i64 ((rd_T37 l0_1 x20_1).f0), .int .i64 ((rd_T37 l0_1 x20_1).f1), .int .i64 0]) ?_ 2 _ rfl; (with_reducible repeat (first | refine blk_drewN ?_ _ | refine blk_drew ?_ | refine blk_alloc ?_ _)); refine blk_put (cs := #[.int .i64 ((rd_T37 l0_1 x20_1).f0), .int .i64 0, .int .i64 0]) ?_ 1 _ rfl; (with_reducible repeat (first | refine blk_drewN ?_ _ | refine blk_drew ?_ | refine blk_alloc ?_ _)); refine blk_put (cs := #[.int .i64 0, .int .i64 0, .int .i64 0]) ?_ 0 _ rfl; (with_reducible repeat (first | refine blk_drewN ?_ _ | refine blk_drew ?_ | refine blk_alloc ?_ _)); exact BK459.out))⟩; have n4_ : Aside0 (Below w.heap.size w w43) := ⟨(by rw [hw]; exact (by repeat (first | (with_reducible first | exact HB.out | apply below_alloc | apply pw_below_drewN | apply below_drew1 | refine below_set ?_ GE451.out | refine below_set ?_ GE459.out) | exact HB.out)))⟩; clear hw; clear HO_3; clear HO_4; clear BK451; clear BK459; clear HB; have HO_3 := n0_; have HO_4 := n1_; have BK451 := n2_; have BK459 := n3_; have HB := n4_; clear n0_ n1_ n2_ n3_ n4_; have hcz44_0 : w43.cell? ⟨gb459, 0, none⟩ = some (.int .i64 ((rd_T37 l0_1 x20_1).f0)) := (blk_cell BK459.out 0).trans rfl; have hcz44_1 : w43.cell? ⟨gb459, 1, none⟩ = some (.int .i64 ((rd_T37 l0_1 x20_1).f1)) := (blk_cell BK459.out 1).trans rfl; have hcz44_2 : w43.cell? ⟨gb459, 2, none⟩ = some (.int .i64 ((rd_T37 l0_1 x20_1).f2)) := (blk_cell BK459.out 2).trans rfl; have hfz44_0 := blk_frozen BK459.out 0; have hfz44_1 := blk_frozen BK459.out 1; have hfz44_2 := blk_frozen BK459.out 2; obtain ⟨Ao45, co45, eo45⟩ := Kd.R_slice HO_4.out; subst eo45; have p460 : 0 ≤ (((rd_T37 l0_1 x20_1).f0) : Int) := of_decide_eq_true (by first | (with_reducible assumption) | assumption); have q460 : ((rd_T37 l0_1 x20_1).f0) < (x4_1.length : Int) := of_decide_eq_true (by first | (with_reducible assumption) | assumption); obtain ⟨ad460, e460, hx460_0⟩ := Kd.at_int (Kd.R_reads' HO_4.out).2.2 ((rd_T37 l0_1 x20_1).f0) p460 q460; cases e460; replace p460 := eq_true p460; replace q460 := eq_true q460; have p17 : 0 ≤ (((rd_T37 l0_1 x20_1).f0) : Int) := of_decide_eq_true (by first | (with_reducible assumption) | assumption); have q17 : (((rd_T37 l0_1 x20_1).f0) : Int) < ((x4_1.length : Int) : Int) := of_decide_eq_true (by first | (with_reducible assumption) | assumption); obtain ⟨go17, co17, eo17, gb17, gl17, cl17, HG17⟩ := Kd.R_form HO_4.out (by omega); (first | cases eo17 | (injection eo17 with ea_ en_ ec_; (first | subst ea_ | (injection ea_ with ea_; subst ea_)); subst ec_; clear en_)); have GB17 := Aside0.mk gb17; have GG17 := Aside0.mk HG17; clear gb17 gl17 HG17; (first | simp only [add_plain] at hx460_0 | skip); obtain ⟨hx17_0, hf17_0⟩ := Kd.R_celln 0 HO_4.out (((rd_T37 l0_1 x20_1).f0) : Int) p17 q17; replace p17 := eq_true p17; replace q17 := eq_true q17; obtain ⟨hy46_, hz46_⟩ := Kd.R_celln 0 HO_4.out (((rd_T37 l0_1 x20_1).f0) : Int) (of_decide_eq_true (by first | (with_reducible assumption) | assumption)) (of_decide_eq_true (by first | (with_reducible assumption) | assumption)); have HP46 := Kd.R_putg HO_4.out (((rd_T37 l0_1 x20_1).f0) : Int) (wrap64 ((rd x4_1 ((rd_T37 l0_1 x20_1).f0)) + 1))) | ((with_reducible refine gate_store (t := 3) (p := 30) rfl ?_); (try (rw [drewN_self w43]; generalize hq_ : World.drewN w43 _ = w43; have n0_ := Aside0.mk (Kd.R_at hq_ HO_3.out); have n1_ := Aside0.mk (Kd.R_at hq_ HO_4.out); have n2_ := Aside0.mk (blk_at hq_ BK451.out); have n3_ := Aside0.mk (blk_at hq_ BK459.out); have n4_ := Aside0.mk (below_at hq_ HB.out); clear hq_ HO_3 HO_4 BK451 BK459 HB; have HO_3 := n0_; have HO_4 := n1_; have BK451 := n2_; have BK459 := n3_; have HB := n4_; clear n0_ n1_ n2_ n3_ n4_; (try (obtain ⟨hy46_, hz46_⟩ := Kd.R_celln 0 HO_4.out (((rd_T37 l0_1 x20_1).f0) : Int) (of_decide_eq_true (by first | (with_reducible assumption) | assumption)) (of_decide_eq_true (by first | (with_reducible assumption) | assumption)))); (try (have HP46 := Kd.R_putg HO_4.out (((rd_T37 l0_1 x20_1).f0) : Int) (wrap64 ((rd x4_1 ((rd_T37 l0_1 x20_1).f0)) + 1)))))); refine store_event (t := 3) (p := 30) (v := ?vo_w47) (w1 := (w43.setCell ⟨go17, (((rd_T37 l0_1 x20_1).f0) : Int).toNat, none⟩ (.int .i64 (wrap64 ((rd x4_1 ((rd_T37 l0_1 x20_1).f0)) + 1))))) ?hg ?ho ?hn ?hr ?_; (case ho => rfl); (case hg => rfl); (case hn => rfl); (case hr => first | (go_simp; done) | (go_simp; rfl)); intro w47 hw; have hg : w43.grownBy w47 (some go17) := (by rw [hw]; exact HP46.2); have hp_ : Kd.R (Kd.int .i64) 3 w47 w.heap.size (fun k_ => some k_ ≠ (v453 : Value).ownBlock) (.slice (some ⟨go17, 0, none⟩) x4_1.length co45) y461 := (by rw [hw, Ny461.out]; exact HP46.1); clear HP46; have n0_ := Aside0.mk (Kd.R_after (v := (.slice (some ⟨go17, 0, none⟩) x4_1.length co45)) (v1 := (.slice (some ⟨go17, 0, none⟩) x4_1.length co45)) (ok := (fun _ => True)) (by (with_reducible repeat (first | apply Kd.R_alloc | apply Kd.R_drewN | apply Kd.R_drew)); exact Kd.R_mono HO_3.out (fun _ hk => ⟨trivial, hk⟩)) hg (.inl rfl)); have n1_ := Aside0.mk (hp_); have n2_ := Aside0.mk (blk_grown (g := gb451) (o := .cells #[.int .i64 a0_0, .slice (some ad458) l0_1.length c0_1] 29 (0, 0)) (by (with_reducible repeat (first | refine blk_drewN ?_ _ | refine blk_drew ?_ | refine blk_alloc ?_ _)); exact BK451.out) hg (Kd.R_ne HO_4.out BK451.out (by decide))); have n3_ := Aside0.mk (blk_grown (g := gb459) (o := .cells #[.int .i64 ((rd_T37 l0_1 x20_1).f0), .int .i64 ((rd_T37 l0_1 x20_1).f1), .int .i64 ((rd_T37 l0_1 x20_1).f2)] 37 (0, 0)) (by (with_reducible repeat (first | refine blk_drewN ?_ _ | refine blk_drew ?_ | refine blk_alloc ?_ _)); exact BK459.out) hg (Kd.R_ne HO_4.out BK459.out (by decide))); have n4_ := Aside0.mk ((by rw [hw]; exact below_set (HB.out) GB17.out : Below w.heap.size w w47)); clear HO_3; clear HO_4; clear BK451; clear BK459; clear HB; have HO_3 := n0_; have HO_4 := n1_; have BK451 := n2_; have BK459 := n3_; have HB := n4_; clear n0_ n1_ n2_ n3_ n4_; clear hg hw hp_; have hcz48_0 : w47.cell? ⟨gb459, 0, none⟩ = some (.int .i64 ((rd_T37 l0_1 x20_1).f0)) := (blk_cell BK459.out 0).trans rfl; have hcz48_1 : w47.cell? ⟨gb459, 1, none⟩ = some (.int .i64 ((rd_T37 l0_1 x20_1).f1)) := (blk_cell BK459.out 1).trans rfl; have hcz48_2 : w47.cell? ⟨gb459, 2, none⟩ = some (.int .i64 ((rd_T37 l0_1 x20_1).f2)) := (blk_cell BK459.out 2).trans rfl; have hfz48_0 := blk_frozen BK459.out 0; have hfz48_1 := blk_frozen BK459.out 1; have hfz48_2 := blk_frozen BK459.out 2; have p462 : 0 ≤ (((rd_T37 l0_1 x20_1).f1) : Int) := of_decide_eq_true (by first | (with_reducible assumption) | assumption); have q462 : ((rd_T37 l0_1 x20_1).f1) < (y461.length : Int) := (by have h_ : (((rd_T37 l0_1 x20_1).f1) : Int) < ((x4_1.length : Int) : Int) := of_decide_eq_true (by first | (with_reducible assumption) | assumption); first | (have e_ := (Kd.R_reads' HO_4.out).1; omega) | simpa only [Ny461.out, List.length_set] using h_); have ql462 : ((((rd_T37 l0_1 x20_1).f1) : Int) < ((x4_1.length : Int) : Int)) = True := eq_true (of_decide_eq_true (by first | (with_reducible assumption) | assumption)); obtain ⟨ad462, e462, hx462_0⟩ := Kd.at_int (Kd.R_reads' HO_4.out).2.2 ((rd_T37 l0_1 x20_1).f1) p462 q462; obtain rfl : (⟨go17, 0, none⟩ : Addr) = ad462 := (by injection e462); (first | simp only [add_plain] at hx462_0 | simp only [add_at] at hx462_0 | simp only [Addr.add, Nat.zero_add] at hx462_0 | skip); replace p462 := eq_true p462; replace q462 := eq_true q462; have p20 : 0 ≤ (((rd_T37 l0_1 x20_1).f1) : Int) := of_decide_eq_true (by first | (with_reducible assumption) | assumption); have q20 : (((rd_T37 l0_1 x20_1).f1) : Int) < ((x4_1.length : Int) : Int) := of_decide_eq_true (by first | (with_reducible assumption) | assumption); obtain ⟨hx20_0, hf20_0⟩ := Kd.R_celln 0 HO_4.out (((rd_T37 l0_1 x20_1).f1) : Int) p20 q20; replace p20 := eq_true p20; replace q20 := eq_true q20; obtain ⟨hy49_, hz49_⟩ := Kd.R_celln 0 HO_4.out (((rd_T37 l0_1 x20_1).f1) : Int) (of_decide_eq_true (by first | (with_reducible assumption) | assumption)) (of_decide_eq_true (by first | (with_reducible assumption) | assumption)); have HP49 := Kd.R_putg HO_4.out (((rd_T37 l0_1 x20_1).f1) : Int) (wrap64 ((rd y461 ((rd_T37 l0_1 x20_1).f1)) + 1))) | ((with_reducible refine gate_store (t := 3) (p := 37) rfl ?_); (try (rw [drewN_self w47]; generalize hq_ : World.drewN w47 _ = w47; have n0_ := Aside0.mk (Kd.R_at hq_ HO_3.out); have n1_ := Aside0.mk (Kd.R_at hq_ HO_4.out); have n2_ := Aside0.mk (blk_at hq_ BK451.out); have n3_ := Aside0.mk (blk_at hq_ BK459.out); have n4_ := Aside0.mk (below_at hq_ HB.out); clear hq_ HO_3 HO_4 BK451 BK459 HB; have HO_3 := n0_; have HO_4 := n1_; have BK451 := n2_; have BK459 := n3_; have HB := n4_; clear n0_ n1_ n2_ n3_ n4_; (try (obtain ⟨hy49_, hz49_⟩ := Kd.R_celln 0 HO_4.out (((rd_T37 l0_1 x20_1).f1) : Int) (of_decide_eq_true (by first | (with_reducible assumption) | assumption)) (of_decide_eq_true (by first | (with_reducible assumption) | assumption)))); (try (have HP49 := Kd.R_putg HO_4.out (((rd_T37 l0_1 x20_1).f1) : Int) (wrap64 ((rd y461 ((rd_T37 l0_1 x20_1).f1)) + 1)))))); refine store_event (t := 3) (p := 37) (v := ?vo_w50) (w1 := (w47.setCell ⟨go17, (((rd_T37 l0_1 x20_1).f1) : Int).toNat, none⟩ (.int .i64 (wrap64 ((rd y461 ((rd_T37 l0_1 x20_1).f1)) + 1))))) ?hg ?ho ?hn ?hr ?_; (case ho => rfl); (case hg => rfl); (case hn => rfl); (case hr => first | (go_simp; done) | (go_simp; rfl)); intro w50 hw; have hg : w47.grownBy w50 (some go17) := (by rw [hw]; exact HP49.2); have hp_ : Kd.R (Kd.int .i64) 3 w50 w.heap.size (fun k_ => some k_ ≠ (v453 : Value).ownBlock) (.slice (some ⟨go17, 0, none⟩) x4_1.length co45) y463 := (by rw [hw, Ny463.out]; exact HP49.1); clear HP49; have n0_ := Aside0.mk (Kd.R_after (v := (.slice (some ⟨go17, 0, none⟩) x4_1.length co45)) (v1 := (.slice (some ⟨go17, 0, none⟩) x4_1.length co45)) (ok := (fun _ => True)) (by (with_reducible repeat (first | apply Kd.R_alloc | apply Kd.R_drewN | apply Kd.R_drew)); exact HO_3.out) hg (.inl rfl)); have n1_ := Aside0.mk (hp_); have n2_ := Aside0.mk (blk_grown (g := gb451) (o := .cells #[.int .i64 a0_0, .slice (some ad458) l0_1.length c0_1] 29 (0, 0)) (by (with_reducible repeat (first | refine blk_drewN ?_ _ | refine blk_drew ?_ | refine blk_alloc ?_ _)); exact BK451.out) hg (Kd.R_ne HO_4.out BK451.out (by decide))); have n3_ := Aside0.mk (blk_grown (g := gb459) (o := .cells #[.int .i64 ((rd_T37 l0_1 x20_1).f0), .int .i64 ((rd_T37 l0_1 x20_1).f1), .int .i64 ((rd_T37 l0_1 x20_1).f2)] 37 (0, 0)) (by (with_reducible repeat (first | refine blk_drewN ?_ _ | refine blk_drew ?_ | refine blk_alloc ?_ _)); exact BK459.out) hg (Kd.R_ne HO_4.out BK459.out (by decide))); have n4_ := Aside0.mk ((by rw [hw]; exact below_set (HB.out) GB17.out : Below w.heap.size w w50)); clear HO_3; clear HO_4; clear BK451; clear BK459; clear HB; have HO_3 := n0_; have HO_4 := n1_; have BK451 := n2_; have BK459 := n3_; have HB := n4_; clear n0_ n1_ n2_ n3_ n4_; clear hg hw hp_; have hcz51_0 : w50.cell? ⟨gb459, 0, none⟩ = some (.int .i64 ((rd_T37 l0_1 x20_1).f0)) := (blk_cell BK459.out 0).trans rfl; have hcz51_1 : w50.cell? ⟨gb459, 1, none⟩ = some (.int .i64 ((rd_T37 l0_1 x20_1).f1)) := (blk_cell BK459.out 1).trans rfl; have hcz51_2 : w50.cell? ⟨gb459, 2, none⟩ = some (.int .i64 ((rd_T37 l0_1 x20_1).f2)) := (blk_cell BK459.out 2).trans rfl; have hfz51_0 := blk_frozen BK459.out 0; have hfz51_1 := blk_frozen BK459.out 1; have hfz51_2 := blk_frozen BK459.out 2; obtain ⟨Ao52, co52, eo52⟩ := Kd.R_slice HO_3.out; subst eo52; have p464 : 0 ≤ (((rd_T37 l0_1 x20_1).f0) : Int) := of_decide_eq_true (by first | (with_reducible assumption) | assumption); have q464 : ((rd_T37 l0_1 x20_1).f0) < (t452.length : Int) := of_decide_eq_true (by first | (with_reducible assumption) | assumption); obtain ⟨ad464, e464, hx464_0⟩ := Kd.at_int (Kd.R_reads' HO_3.out).2.2 ((rd_T37 l0_1 x20_1).f0) p464 q464; cases e464; replace p464 := eq_true p464; replace q464 := eq_true q464; have hcz53_0 : w50.cell? ⟨gb451, 0, none⟩ = some (.int .i64 a0_0) := (blk_cell BK451.out 0).trans rfl; have hcz53_1 : w50.cell? ⟨gb451, 1, none⟩ = some (.slice (some ad458) l0_1.length c0_1) := (blk_cell BK451.out 1).trans rfl; have hfz53_0 := blk_frozen BK451.out 0; have hfz53_1 := blk_frozen BK451.out 1; have p465 : 0 ≤ (0 : Int) := (by omega); have q465 : 0 < (l0_1.length : Int) := of_decide_eq_true (by first | (with_reducible assumption) | assumption); obtain ⟨ad465, e465, hx465_0, hx465_1, hx465_2⟩ := at_T37 HR0_1.out 0 p465 q465; obtain rfl : ad458 = ad465 := (by injection e465); have qi465 : (0 < l0_1.length) = True := eq_true (by omega); (try rw [show ((0 : Int)).toNat = 0 from rfl] at hx465_0); (try rw [show 0 * 3 = 0 from rfl] at hx465_0); (try rw [Addr.add_zero'] at hx465_0); (try rw [show ((0 : Int)).toNat = 0 from rfl] at hx465_1); (try rw [show 0 * 3 = 0 from rfl] at hx465_1); (try rw [Addr.add_zero'] at hx465_1); (try rw [show ((0 : Int)).toNat = 0 from rfl] at hx465_2); (try rw [show 0 * 3 = 0 from rfl] at hx465_2); (try rw [Addr.add_zero'] at hx465_2); replace hx465_0 := (HB.out.cell (World.block_lt_of_cell? w _ hx465_0)).trans hx465_0; replace hx465_1 := (HB.out.cell (World.block_lt_of_cell? w _ hx465_1)).trans hx465_1; replace hx465_2 := (HB.out.cell (World.block_lt_of_cell? w _ hx465_2)).trans hx465_2; replace p465 := eq_true p465; replace q465 := eq_true q465; have p466 : 0 ≤ (((rd_T37 l0_1 0).f0) : Int) := of_decide_eq_true (by first | (with_reducible assumption) | assumption); have q466 : ((rd_T37 l0_1 0).f0) < (t452.length : Int) := of_decide_eq_true (by first | (with_reducible assumption) | assumption); obtain ⟨ad466, e466, hx466_0⟩ := Kd.at_int (Kd.R_reads' HO_3.out).2.2 ((rd_T37 l0_1 0).f0) p466 q466; obtain rfl : ad464 = ad466 := (by injection e466); replace p466 := eq_true p466; replace q466 := eq_true q466)))
set_option hygiene false in
local macro "sq86_0_2" : tactic => `(tactic| (first | ((with_reducible refine gate_dst (N := 1) rfl ?_); refine box_event ?hg (N := 1) ?hd (cs := #[.int .i64 a0_0, .slice A0_1 l0_1.length c0_1]) (t := 29) ?hr ?_; (case hd => rfl); (case hg => rfl); (case hr => first | (go_simp; done) | (go_simp; rfl)); intro gb451 hg w5 hbox hb; have n0_ := Aside0.mk (below_step (by repeat (first | (with_reducible first | exact HB.out | apply below_alloc | apply pw_below_drewN | apply below_drew1) | exact HB.out)) hb); have n1_ := Aside0.mk (hbox); have n2_ := Aside0.mk ((by rw [hg]; exact (below_size (by repeat (first | (with_reducible first | exact HB.out | apply below_alloc | apply pw_below_drewN | apply below_drew1) | exact HB.out))) : w.heap.size ≤ gb451)); have n3_ := Aside0.mk ((by rw [hg]; exact (below_size (by repeat (first | (with_reducible first | exact HB.out | apply below_alloc | apply pw_below_drewN | apply below_drew1) | exact HB.out))) : w.heap.size ≤ gb451)); clear HB; have HB := n0_; have BK451 := n1_; have GW451 := n2_; have GE451 := n3_; clear n0_ n1_ n2_ n3_; clear hb hbox hg; have hcz6_0 : w5.cell? ⟨gb451, 0, none⟩ = some (.int .i64 a0_0) := (blk_cell BK451.out 0).trans rfl; have hcz6_1 : w5.cell? ⟨gb451, 1, none⟩ = some (.slice A0_1 l0_1.length c0_1) := (blk_cell BK451.out 1).trans rfl; have hfz6_0 := blk_frozen BK451.out 0; have hfz6_1 := blk_frozen BK451.out 1) | (go_at_call 75; (with_reducible refine (spec_isGroups.calls k a0_0 _ _ l0_1 (-1) t452 _ ?side1 ?side2 A2.out).mono ?_); (case side1 => repeat (first | exact (Kd.C_below HR0_1.out HB.out) | (with_reducible refine Kd.C_alloc ?_ _) | (with_reducible refine Kd.C_drewN ?_ _) | (with_reducible refine Kd.C_drew ?_))); (case side2 => exact HC0_1.out); rintro e w7 ⟨v453, rfl, ho0, hb⟩; have n0_ := Aside0.mk (Kd.R_lower ho0 (below_size (by repeat (first | (with_reducible first | exact HB.out | apply below_alloc | apply pw_below_drewN | apply below_drew1 | refine below_set ?_ GE451.out) | exact HB.out)))); have n1_ := Aside0.mk (blk_below (g := gb451) (o := .cells #[.int .i64 a0_0, .slice A0_1 l0_1.length c0_1] 29 (0, 0)) (by (with_reducible repeat (first | refine blk_drewN ?_ _ | refine blk_drew ?_ | refine blk_alloc ?_ _)); exact BK451.out) hb); have n2_ := Aside0.mk (below_step (by repeat (first | (with_reducible first | exact HB.out | apply below_alloc | apply pw_below_drewN | apply below_drew1 | refine below_set ?_ GE451.out) | exact HB.out)) hb); clear BK451; clear HB; have HO454 := n0_; have BK451 := n1_; have HB := n2_; clear n0_ n1_ n2_; (try clear hb); (try clear hb2); (try clear hk); (try clear hi); (try clear ho0); have hcz8_0 : w7.cell? ⟨gb451, 0, none⟩ = some (.int .i64 a0_0) := (blk_cell BK451.out 0).trans rfl; have hcz8_1 : w7.cell? ⟨gb451, 1, none⟩ = some (.slice A0_1 l0_1.length c0_1) := (blk_cell BK451.out 1).trans rfl; have hfz8_0 := blk_frozen BK451.out 0; have hfz8_1 := blk_frozen BK451.out 1) | ((with_reducible refine gate_dst (N := 16) rfl ?_); refine Kd.R_make (Kd.int .i64) _ 3 rfl (N := 16) rfl 51 _ _ rfl a0_0 rfl rfl Try.underlying51 (.int .i64 0) 8 info3 rfl (by decide) (by omega) 0 (ok := fun _ => True) (okp := fun _ => True) rfl (fun _ hk => hk) trivial (of_decide_eq_true (by first | (with_reducible assumption) | assumption)) (Nat.le_trans (Nat.mul_le_mul_right _ (of_decide_eq_true (by first | (with_reducible assumption) | assumption) : a0_0.toNat ≤ 35184372088832)) (by omega)) (Below.refl _ _) (Nat.le_refl _) ?_; intro v456 w9 ho10 hb hg_ hnew_; clear hg_ hnew_; (first | rw [← Ny455.out] at ho10 | (simp only [Int.reduceToNat] at ho10; rw [← Ny455.out] at ho10)); have n0_ := Aside0.mk (Kd.R_elder' (by (with_reducible repeat (first | apply Kd.R_alloc | apply Kd.R_drewN | apply Kd.R_drew)); exact HO454.out) (Kd.R_base ho10) hb); have n1_ := Aside0.mk (Kd.R_lower (Kd.R_new' ho10 (Kd.R_lt (by (with_reducible repeat (first | apply Kd.R_alloc | apply Kd.R_drewN | apply Kd.R_drew)); exact HO454.out))) (below_size (by repeat (first | (with_reducible first | exact HB.out | apply below_alloc | apply pw_below_drewN | apply below_drew1 | refine below_set ?_ GE451.out) | exact HB.out)))); have n2_ := Aside0.mk (blk_below (g := gb451) (o := .cells #[.int .i64 a0_0, .slice A0_1 l0_1.length c0_1] 29 (0, 0)) (by (with_reducible repeat (first | refine blk_drewN ?_ _ | refine blk_drew ?_ | refine blk_alloc ?_ _)); exact BK451.out) hb); have n3_ := Aside0.mk (below_step (by repeat (first | (with_reducible first | exact HB.out | apply below_alloc | apply pw_below_drewN | apply below_drew1 | refine below_set ?_ GE451.out) | exact HB.out)) hb); clear HO454; clear BK451; clear HB; have HO454 := n0_; have HO457 := n1_; have BK451 := n2_; have HB := n3_; clear n0_ n1_ n2_ n3_; clear hb ho10; have hcz11_0 : w9.cell? ⟨gb451, 0, none⟩ = some (.int .i64 a0_0) := (blk_cell BK451.out 0).trans rfl; have hcz11_1 : w9.cell? ⟨gb451, 1, none⟩ = some (.slice A0_1 l0_1.length c0_1) := (blk_cell BK451.out 1).trans rfl; have hfz11_0 := blk_frozen BK451.out 0; have hfz11_1 := blk_frozen BK451.out 1)))
set_option maxHeartbeats 8000000 in
set_option maxRecDepth 100000 in
theorem spec_isEven.calls (k : Nat) (a0_0 : Int) (A0_1 : Option Addr) (c0_1 : Nat) (l0_1 : List (S37)) (r : Bool) (w : World) (hr0_1 : Kd.C k37 w A0_1 l0_1.length l0_1) (hc0_1 : l0_1.length ≤ c0_1) (h : spec_isEven.f k a0_0 l0_1 = some r) :
    Calls Try.prog 86 #[.agg #[.int .i64 a0_0, .slice A0_1 l0_1.length c0_1]] w fun e w' => e = .returned (.bool r) ∧ Below w.heap.size w w' := by
  have hu29 := Try.underlying29
  have hu37 := Try.underlying37
  have HR0_1 := Aside0.mk hr0_1
  have HC0_1 := Aside0.mk hc0_1
  clear hr0_1 hc0_1
  have HB := Aside0.mk (Below.refl w.heap.size w)
  have H : ((spec_isGroups.f k a0_0 l0_1 (-1)).bind fun t452 => (if 0 ≤ a0_0 then (if (a0_0 : Int).toNat ≤ 35184372088832 then (spec_isEven.l0 k t452 (List.replicate (a0_0 : Int).toNat 0) l0_1 (l0_1.length : Int) 0 a0_0 l0_1) else (none)) else (none))) = some r := h
  clear h
  replace H := Option.bind_eq_some_iff.mp H
  obtain ⟨t452, A20, H⟩ := H
  replace H : (if 0 ≤ a0_0 then (if (a0_0 : Int).toNat ≤ 35184372088832 then (spec_isEven.l0 k t452 (List.replicate (a0_0 : Int).toNat 0) l0_1 (l0_1.length : Int) 0 a0_0 l0_1) else (none)) else (none)) = some r := H
  have A2 := Aside0.mk A20
  clear A20
  by_cases c3 : 0 ≤ a0_0
  · rw [if_pos c3] at H
    have c3b0 := eq_true c3
    have c3b1 : decide (0 ≤ a0_0) = true := decide_eq_true c3
    clear c3
    by_cases c4 : (a0_0 : Int).toNat ≤ 35184372088832
    · rw [if_pos c4] at H
      have c4b0 := eq_true c4
      have c4b1 : decide ((a0_0 : Int).toNat ≤ 35184372088832) = true := decide_eq_true c4
      clear c4
      obtain ⟨y455, hy455⟩ : ∃ y_ : List Int, y_ = (List.replicate (a0_0 : Int).toNat 0) := ⟨_, rfl⟩
      replace H : (spec_isEven.l0 k t452 y455 l0_1 (l0_1.length : Int) 0 a0_0 l0_1) = some r := by first | (rw [hy455]; with_reducible exact H) | (have H2_ := (Option.bind_some _ _).symm.trans H; rw [hy455]; with_reducible exact H2_) | (have H2_ := (Option.bind_some _ _).symm.trans H; with_reducible exact H2_) | with_reducible exact H | (rw [hy455]; exact H) | exact H
      have Ny455 := Aside0.mk hy455
      clear hy455
      have H' := Aside0.mk H
      clear H
      go_enter Try.func86, Try.ntmps86
      go_wp2_with (sq86_0_2)
      repeat (go_quiet (sq86_0_2); try go_wp2_with (sq86_0_2))
      go_loopg [20] k (fun kq v20 w' => ∃ (x4_1 : List Int) (x20_1 : Int), v20 = .int .i64 x20_1 ∧ Aside0 (spec_isEven.l0 kq t452 x4_1 l0_1 (l0_1.length : Int) x20_1 a0_0 l0_1 = some r) ∧ Aside0 (kq ≤ k) ∧ Aside0 (Kd.R (Kd.int .i64) 3 w' w.heap.size (fun k_ => some k_ ≠ (v456 : Value).ownBlock) v453 t452) ∧ Aside0 (Kd.R (Kd.int .i64) 3 w' w.heap.size (fun k_ => some k_ ≠ (v453 : Value).ownBlock) v456 x4_1) ∧ Aside0 (w'.heap[gb451]? = some (.cells #[.int .i64 a0_0, (.slice A0_1 l0_1.length c0_1)] 29 (0, 0))) ∧ Aside0 (Below w.heap.size w w'))
      case atStart => exact ⟨(y455), (0), (by first | rfl | (simp; done) | (simp [*]; done)), H', ⟨Nat.le_refl _⟩, ⟨by (with_reducible repeat (first | apply Kd.R_alloc | apply Kd.R_drewN | apply Kd.R_drew)); exact Kd.R_mono HO454.out (fun _ hk => hk.2)⟩, ⟨by (with_reducible repeat (first | apply Kd.R_alloc | apply Kd.R_drewN | apply Kd.R_drew)); exact Kd.R_mono HO457.out (fun _ hk => hk.2)⟩, ⟨by (with_reducible repeat (first | refine blk_drewN ?_ _ | refine blk_drew ?_ | refine blk_alloc ?_ _)); exact BK451.out⟩, ⟨by repeat (first | (with_reducible first | exact HB.out | apply below_alloc | apply pw_below_drewN | apply below_drew1 | refine below_set ?_ GE451.out) | exact HB.out)⟩⟩
      case round =>
        clear H'
        try clear p2
        try clear c3
        try clear c3b0
        try clear c3b1
        try clear c4
        try clear c4b0
        try clear c4b1
        try clear c8
        try clear hcz11_0
        try clear hcz11_1
        try clear hcz6_0
        try clear hcz6_1
        try clear hcz8_0
        try clear hcz8_1
        try clear hfz11_0
        try clear hfz11_1
        try clear hfz6_0
        try clear hfz6_1
        try clear hfz8_0
        try clear hfz8_1
        obtain ⟨x4_1, x20_1, rfl, HA, HK1, HO_3, HO_4, BK451, HB⟩ := hrel
        cases gk with
        | zero => exact absurd HA.out (by simp [spec_isEven.l0])
        | succ k1 =>
          have H := HA.out
          clear HA
          simp only [spec_isEven.l0] at H
          by_cases c12 : x20_1 < (l0_1.length : Int)
          · rw [if_pos c12] at H
            have c12b0 : decide (x20_1 < (l0_1.length : Int)) = true := decide_eq_true c12
            clear c12
            by_cases c13 : 0 ≤ x20_1
            · rw [if_pos c13] at H
              have c13b0 : decide (0 ≤ x20_1) = true := decide_eq_true c13
              clear c13
              by_cases c14 : x20_1 < (l0_1.length : Int)
              · rw [if_pos c14] at H
                have c14b0 : decide (x20_1 < (l0_1.length : Int)) = true := decide_eq_true c14
                clear c14
                by_cases c15 : 0 ≤ ((rd_T37 l0_1 x20_1).f0)
                · rw [if_pos c15] at H
                  have c15b0 : decide (0 ≤ ((rd_T37 l0_1 x20_1).f0)) = true := decide_eq_true c15
                  clear c15
                  by_cases c16 : ((rd_T37 l0_1 x20_1).f0) < (x4_1.length : Int)
                  · rw [if_pos c16] at H
                    have c16b0 : decide (((rd_T37 l0_1 x20_1).f0) < (x4_1.length : Int)) = true := decide_eq_true c16
                    clear c16
                    obtain ⟨y461, hy461⟩ : ∃ y_ : List Int, y_ = (x4_1.set (((rd_T37 l0_1 x20_1).f0) : Int).toNat (wrap64 ((rd x4_1 ((rd_T37 l0_1 x20_1).f0)) + 1))) := ⟨_, rfl⟩
                    replace H : (if 0 ≤ ((rd_T37 l0_1 x20_1).f1) then (if ((rd_T37 l0_1 x20_1).f1) < (x4_1.length : Int) then (if ((rd_T37 l0_1 x20_1).f0) < (t452.length : Int) then (if 0 < (l0_1.length : Int) then (if 0 ≤ ((rd_T37 l0_1 0).f0) then (if ((rd_T37 l0_1 0).f0) < (t452.length : Int) then (if (rd t452 ((rd_T37 l0_1 x20_1).f0)) = (rd t452 ((rd_T37 l0_1 0).f0)) then (spec_isEven.l0 k1 t452 (y461.set (((rd_T37 l0_1 x20_1).f1) : Int).toNat (wrap64 ((rd y461 ((rd_T37 l0_1 x20_1).f1)) + 1))) l0_1 (l0_1.length : Int) (wrap64 (x20_1 + 1)) a0_0 l0_1) else (some false)) else (none)) else (none)) else (none)) else (none)) else (none)) else (none)) = some r := by first | (rw [hy461]; with_reducible exact H) | (have H2_ := (Option.bind_some _ _).symm.trans H; rw [hy461]; with_reducible exact H2_) | (have H2_ := (Option.bind_some _ _).symm.trans H; with_reducible exact H2_) | with_reducible exact H | (rw [hy461]; exact H) | exact H
                    have Ny461 := Aside0.mk hy461
                    clear hy461
                    by_cases c18 : 0 ≤ ((rd_T37 l0_1 x20_1).f1)
                    · rw [if_pos c18] at H
                      have c18b0 : decide (0 ≤ ((rd_T37 l0_1 x20_1).f1)) = true := decide_eq_true c18
                      clear c18
                      by_cases c19 : ((rd_T37 l0_1 x20_1).f1) < (x4_1.length : Int)
                      · rw [if_pos c19] at H
                        have c19b0 : decide (((rd_T37 l0_1 x20_1).f1) < (x4_1.length : Int)) = true := decide_eq_true c19
                        clear c19
                        obtain ⟨y463, hy463⟩ : ∃ y_ : List Int, y_ = (y461.set (((rd_T37 l0_1 x20_1).f1) : Int).toNat (wrap64 ((rd y461 ((rd_T37 l0_1 x20_1).f1)) + 1))) := ⟨_, rfl⟩
                        replace H : (if ((rd_T37 l0_1 x20_1).f0) < (t452.length : Int) then (if 0 < (l0_1.length : Int) then (if 0 ≤ ((rd_T37 l0_1 0).f0) then (if ((rd_T37 l0_1 0).f0) < (t452.length : Int) then (if (rd t452 ((rd_T37 l0_1 x20_1).f0)) = (rd t452 ((rd_T37 l0_1 0).f0)) then (spec_isEven.l0 k1 t452 y463 l0_1 (l0_1.length : Int) (wrap64 (x20_1 + 1)) a0_0 l0_1) else (some false)) else (none)) else (none)) else (none)) else (none)) = some r := by first | (rw [hy463]; with_reducible exact H) | (have H2_ := (Option.bind_some _ _).symm.trans H; rw [hy463]; with_reducible exact H2_) | (have H2_ := (Option.bind_some _ _).symm.trans H; with_reducible exact H2_) | with_reducible exact H | (rw [hy463]; exact H) | exact H
                        have Ny463 := Aside0.mk hy463
                        clear hy463
                        by_cases c21 : ((rd_T37 l0_1 x20_1).f0) < (t452.length : Int)
                        · rw [if_pos c21] at H
                          have c21b0 : decide (((rd_T37 l0_1 x20_1).f0) < (t452.length : Int)) = true := decide_eq_true c21
                          clear c21
                          by_cases c22 : 0 < (l0_1.length : Int)
                          · rw [if_pos c22] at H
                            have c22b0 : decide (0 < (l0_1.length : Int)) = true := decide_eq_true c22
                            have c22b1 : decide (0 < l0_1.length) = true := decide_eq_true (by omega)
                            clear c22
                            by_cases c23 : 0 ≤ ((rd_T37 l0_1 0).f0)
                            · rw [if_pos c23] at H
                              have c23b0 : decide (0 ≤ ((rd_T37 l0_1 0).f0)) = true := decide_eq_true c23
                              clear c23
                              by_cases c24 : ((rd_T37 l0_1 0).f0) < (t452.length : Int)
                              · rw [if_pos c24] at H
                                have c24b0 : decide (((rd_T37 l0_1 0).f0) < (t452.length : Int)) = true := decide_eq_true c24
                                clear c24
                                by_cases c25 : (rd t452 ((rd_T37 l0_1 x20_1).f0)) = (rd t452 ((rd_T37 l0_1 0).f0))
                                · rw [if_pos c25] at H
                                  have c25b0 : ((rd t452 ((rd_T37 l0_1 x20_1).f0)) == (rd t452 ((rd_T37 l0_1 0).f0))) = true := beq_iff_eq.mpr c25
                                  have c25b1 : ((rd t452 ((rd_T37 l0_1 x20_1).f0)) != (rd t452 ((rd_T37 l0_1 0).f0))) = false := bne_eq_false_iff_eq.mpr c25
                                  clear c25
                                  have H' := Aside0.mk H
                                  clear H
                                  have p458 : 0 ≤ (x20_1 : Int) := of_decide_eq_true (by first | (with_reducible assumption) | assumption)
                                  have q458 : x20_1 < (l0_1.length : Int) := of_decide_eq_true (by first | (with_reducible assumption) | assumption)
                                  obtain ⟨ad458, e458, hx458_0, hx458_1, hx458_2⟩ := at_T37 HR0_1.out x20_1 p458 q458
                                  cases e458
                                  replace hx458_0 := (HB.out.cell (World.block_lt_of_cell? w _ hx458_0)).trans hx458_0
                                  replace hx458_1 := (HB.out.cell (World.block_lt_of_cell? w _ hx458_1)).trans hx458_1
                                  replace hx458_2 := (HB.out.cell (World.block_lt_of_cell? w _ hx458_2)).trans hx458_2
                                  replace p458 := eq_true p458
                                  replace q458 := eq_true q458
                                  go_wp2_with (sq86_0_0)
                                  repeat (go_quiet (sq86_0_0); try go_wp2_with (sq86_0_0))
                                  go_roundg k1
                                  case measure => have := HK1.out; omega
                                  case rel => exact ⟨(y463), (wrap64 (x20_1 + 1)), (by first | rfl | (simp; done) | (simp [*]; done)), H', ⟨by have := HK1.out; omega⟩, ⟨by (with_reducible repeat (first | apply Kd.R_alloc | apply Kd.R_drewN | apply Kd.R_drew)); exact Kd.R_mono HO_3.out (fun _ hk => hk.2)⟩, ⟨by (with_reducible repeat (first | apply Kd.R_alloc | apply Kd.R_drewN | apply Kd.R_drew)); exact HO_4.out⟩, ⟨by (with_reducible repeat (first | refine blk_drewN ?_ _ | refine blk_drew ?_ | refine blk_alloc ?_ _)); exact BK451.out⟩, ⟨by repeat (first | (with_reducible first | exact HB.out | apply below_alloc | apply pw_below_drewN | apply below_drew1 | refine below_set ?_ GE451.out | refine below_set ?_ GE459.out) | exact HB.out)⟩⟩
                                · rw [if_neg c25] at H
                                  have c25b0 : ((rd t452 ((rd_T37 l0_1 x20_1).f0)) == (rd t452 ((rd_T37 l0_1 0).f0))) = false := beq_eq_false_iff_ne.mpr c25
                                  have c25b1 : ((rd t452 ((rd_T37 l0_1 x20_1).f0)) != (rd t452 ((rd_T37 l0_1 0).f0))) = true := bne_iff_ne.mpr c25
                                  obtain rfl := Option.some.inj H
                                  have p458 : 0 ≤ (x20_1 : Int) := of_decide_eq_true (by first | (with_reducible assumption) | assumption)
                                  have q458 : x20_1 < (l0_1.length : Int) := of_decide_eq_true (by first | (with_reducible assumption) | assumption)
                                  obtain ⟨ad458, e458, hx458_0, hx458_1, hx458_2⟩ := at_T37 HR0_1.out x20_1 p458 q458
                                  cases e458
                                  replace hx458_0 := (HB.out.cell (World.block_lt_of_cell? w _ hx458_0)).trans hx458_0
                                  replace hx458_1 := (HB.out.cell (World.block_lt_of_cell? w _ hx458_1)).trans hx458_1
                                  replace hx458_2 := (HB.out.cell (World.block_lt_of_cell? w _ hx458_2)).trans hx458_2
                                  replace p458 := eq_true p458
                                  replace q458 := eq_true q458
                                  go_wp2_with (sq86_0_1)
                                  repeat (go_quiet (sq86_0_1); try go_wp2_with (sq86_0_1))
                                  go_ret
                                  exact ⟨by first | rfl | (simp [errW_none, errW_some] <;> rfl) | (simp [*, errW_none, errW_some] <;> rfl), by repeat (first | (with_reducible first | exact HB.out | apply below_alloc | apply pw_below_drewN | apply below_drew1 | refine below_set ?_ GE451.out | refine below_set ?_ GE459.out) | exact HB.out)⟩
                              · rw [if_neg c24] at H
                                exact absurd H (by simp)
                            · rw [if_neg c23] at H
                              exact absurd H (by simp)
                          · rw [if_neg c22] at H
                            exact absurd H (by simp)
                        · rw [if_neg c21] at H
                          exact absurd H (by simp)
                      · rw [if_neg c19] at H
                        exact absurd H (by simp)
                    · rw [if_neg c18] at H
                      exact absurd H (by simp)
                  · rw [if_neg c16] at H
                    exact absurd H (by simp)
                · rw [if_neg c15] at H
                  exact absurd H (by simp)
              · rw [if_neg c14] at H
                exact absurd H (by simp)
            · rw [if_neg c13] at H
              exact absurd H (by simp)
          · rw [if_neg c12] at H
            have c12b0 : decide (x20_1 < (l0_1.length : Int)) = false := decide_eq_false c12
            clear c12
            have H' := Aside0.mk H
            clear H
            obtain ⟨Ao54, co54, eo54⟩ := Kd.R_slice HO_4.out
            subst eo54
            go_wp2
            repeat (go_quiet (fail); try go_wp2)
            go_loopg [55] k1 (fun kq v55 w' => ∃ (x55_2 : Int), v55 = .int .i64 x55_2 ∧ Aside0 (spec_isEven.l1 kq x4_1 (x4_1.length : Int) x55_2 = some r) ∧ Aside0 (kq ≤ k1) ∧ Aside0 (Kd.R (Kd.int .i64) 3 w' w.heap.size (fun _ => True) (.slice Ao54 x4_1.length co54) x4_1) ∧ Aside0 (w'.heap[gb451]? = some (.cells #[.int .i64 a0_0, (.slice A0_1 l0_1.length c0_1)] 29 (0, 0))) ∧ Aside0 (Below w.heap.size w w'))
            case atStart => exact ⟨(0), (by first | rfl | (simp; done) | (simp [*]; done)), H', ⟨Nat.le_refl _⟩, ⟨by (with_reducible repeat (first | apply Kd.R_alloc | apply Kd.R_drewN | apply Kd.R_drew)); exact Kd.R_mono HO_4.out (fun _ hk => trivial)⟩, ⟨by (with_reducible repeat (first | refine blk_drewN ?_ _ | refine blk_drew ?_ | refine blk_alloc ?_ _)); exact BK451.out⟩, ⟨by repeat (first | (with_reducible first | exact HB.out | apply below_alloc | apply pw_below_drewN | apply below_drew1 | refine below_set ?_ GE451.out) | exact HB.out)⟩⟩
            case round =>
              clear H'
              try clear c1
              try clear p1
              try clear q1
              try clear hx1
              try clear hf1
              try clear c2
              try clear p2
              try clear q2
              try clear hx2
              try clear hf2
              try clear c3
              try clear c3b0
              try clear c3b1
              try clear c4
              try clear c4b0
              try clear c4b1
              try clear p4
              try clear q4
              try clear hx4
              try clear qi4
              try clear p6
              try clear c8
              try clear c12
              try clear c12b0
              try clear c13
              try clear c13b0
              try clear c14
              try clear c14b0
              try clear c15
              try clear c15b0
              try clear c16
              try clear c16b0
              try clear p17
              try clear q17
              try clear hx17
              try clear hf17
              try clear c18
              try clear c18b0
              try clear c19
              try clear c19b0
              try clear p20
              try clear q20
              try clear hx20
              try clear hf20
              try clear c21
              try clear c21b0
              try clear c22
              try clear c22b0
              try clear c22b1
              try clear c23
              try clear c23b0
              try clear c24
              try clear c24b0
              try clear c25
              try clear c25b0
              try clear c25b1
              try clear c27
              try clear c41
              try clear p45
              try clear q45
              try clear hx45
              try clear p46
              try clear q46
              try clear hx46
              try clear qi46
              try clear hcz11_0
              try clear hcz11_1
              try clear hcz28_0
              try clear hcz28_1
              try clear hcz28_2
              try clear hcz30_0
              try clear hcz30_1
              try clear hcz30_2
              try clear hcz34_0
              try clear hcz34_1
              try clear hcz34_2
              try clear hcz37_0
              try clear hcz37_1
              try clear hcz37_2
              try clear hcz39_0
              try clear hcz39_1
              try clear hcz42_0
              try clear hcz42_1
              try clear hcz42_2
              try clear hcz44_0
              try clear hcz44_1
              try clear hcz44_2
              try clear hcz48_0
              try clear hcz48_1
              try clear hcz48_2
              try clear hcz51_0
              try clear hcz51_1
              try clear hcz51_2
              try clear hcz53_0
              try clear hcz53_1
              try clear hcz6_0
              try clear hcz6_1
              try clear hcz8_0
              try clear hcz8_1
              try clear hfz11_0
              try clear hfz11_1
              try clear hfz28_0
              try clear hfz28_1
              try clear hfz28_2
              try clear hfz30_0
              try clear hfz30_1
              try clear hfz30_2
              try clear hfz34_0
              try clear hfz34_1
              try clear hfz34_2
              try clear hfz37_0
              try clear hfz37_1
              try clear hfz37_2
              try clear hfz39_0
              try clear hfz39_1
              try clear hfz42_0
              try clear hfz42_1
              try clear hfz42_2
              try clear hfz44_0
              try clear hfz44_1
              try clear hfz44_2
              try clear hfz48_0
              try clear hfz48_1
              try clear hfz48_2
              try clear hfz51_0
              try clear hfz51_1
              try clear hfz51_2
              try clear hfz53_0
              try clear hfz53_1
              try clear hfz6_0
              try clear hfz6_1
              try clear hfz8_0
              try clear hfz8_1
              try clear hx17_0
              try clear hx20_0
              try clear hx458_0
              try clear hx458_1
              try clear hx458_2
              try clear hx460_0
              try clear hx462_0
              try clear hx464_0
              try clear hx465_0
              try clear hx465_1
              try clear hx465_2
              try clear hx466_0
              try clear p17
              try clear p2
              try clear p20
              try clear p458
              try clear p460
              try clear p462
              try clear p464
              try clear p465
              try clear p466
              try clear q17
              try clear q20
              try clear q458
              try clear q460
              try clear q462
              try clear q464
              try clear q465
              try clear q466
              obtain ⟨x55_2, rfl, HA, HK2, HO_53, BK451, HB⟩ := hrel
              cases gk with
              | zero => exact absurd HA.out (by simp [spec_isEven.l1])
              | succ k2 =>
                have H := HA.out
                clear HA
                simp only [spec_isEven.l1] at H
                by_cases c55 : x55_2 < (x4_1.length : Int)
                · rw [if_pos c55] at H
                  have c55b0 : decide (x55_2 < (x4_1.length : Int)) = true := decide_eq_true c55
                  clear c55
                  by_cases c56 : 0 ≤ x55_2
                  · rw [if_pos c56] at H
                    have c56b0 : decide (0 ≤ x55_2) = true := decide_eq_true c56
                    clear c56
                    by_cases c57 : x55_2 < (x4_1.length : Int)
                    · rw [if_pos c57] at H
                      have c57b0 : decide (x55_2 < (x4_1.length : Int)) = true := decide_eq_true c57
                      clear c57
                      by_cases c58 : (Int.tmod (rd x4_1 x55_2) 2) = 1
                      · rw [if_pos c58] at H
                        have c58b0 : ((Int.tmod (rd x4_1 x55_2) 2) == 1) = true := beq_iff_eq.mpr c58
                        have c58b1 : ((Int.tmod (rd x4_1 x55_2) 2) != 1) = false := bne_eq_false_iff_eq.mpr c58
                        clear c58
                        obtain rfl := Option.some.inj H
                        have p467 : 0 ≤ (x55_2 : Int) := of_decide_eq_true (by first | (with_reducible assumption) | assumption)
                        have q467 : x55_2 < (x4_1.length : Int) := of_decide_eq_true (by first | (with_reducible assumption) | assumption)
                        obtain ⟨ad467, e467, hx467_0⟩ := Kd.at_int (Kd.R_reads' HO_53.out).2.2 x55_2 p467 q467
                        cases e467
                        replace p467 := eq_true p467
                        replace q467 := eq_true q467
                        go_wp2
                        repeat (go_quiet (fail); try go_wp2)
                        go_ret
                        exact ⟨by first | rfl | (simp [errW_none, errW_some] <;> rfl) | (simp [*, errW_none, errW_some] <;> rfl), by repeat (first | (with_reducible first | exact HB.out | apply below_alloc | apply pw_below_drewN | apply below_drew1 | refine below_set ?_ GE451.out) | exact HB.out)⟩
                      · rw [if_neg c58] at H
                        have c58b0 : ((Int.tmod (rd x4_1 x55_2) 2) == 1) = false := beq_eq_false_iff_ne.mpr c58
                        have c58b1 : ((Int.tmod (rd x4_1 x55_2) 2) != 1) = true := bne_iff_ne.mpr c58
                        have H' := Aside0.mk H
                        clear H
                        have p467 : 0 ≤ (x55_2 : Int) := of_decide_eq_true (by first | (with_reducible assumption) | assumption)
                        have q467 : x55_2 < (x4_1.length : Int) := of_decide_eq_true (by first | (with_reducible assumption) | assumption)
                        obtain ⟨ad467, e467, hx467_0⟩ := Kd.at_int (Kd.R_reads' HO_53.out).2.2 x55_2 p467 q467
                        cases e467
                        replace p467 := eq_true p467
                        replace q467 := eq_true q467
                        go_wp2
                        repeat (go_quiet (fail); try go_wp2)
                        go_roundg k2
                        case measure => have := HK1.out; have := HK2.out; omega
                        case rel => exact ⟨(wrap64 (x55_2 + 1)), (by first | rfl | (simp; done) | (simp [*]; done)), H', ⟨by have := HK1.out; have := HK2.out; omega⟩, ⟨by (with_reducible repeat (first | apply Kd.R_alloc | apply Kd.R_drewN | apply Kd.R_drew)); exact HO_53.out⟩, ⟨by (with_reducible repeat (first | refine blk_drewN ?_ _ | refine blk_drew ?_ | refine blk_alloc ?_ _)); exact BK451.out⟩, ⟨by repeat (first | (with_reducible first | exact HB.out | apply below_alloc | apply pw_below_drewN | apply below_drew1 | refine below_set ?_ GE451.out) | exact HB.out)⟩⟩
                    · rw [if_neg c57] at H
                      exact absurd H (by simp)
                  · rw [if_neg c56] at H
                    exact absurd H (by simp)
                · rw [if_neg c55] at H
                  have c55b0 : decide (x55_2 < (x4_1.length : Int)) = false := decide_eq_false c55
                  clear c55
                  obtain rfl := Option.some.inj H
                  go_wp2
                  repeat (go_quiet (fail); try go_wp2)
                  go_ret
                  exact ⟨by first | rfl | (simp [errW_none, errW_some] <;> rfl) | (simp [*, errW_none, errW_some] <;> rfl), by repeat (first | (with_reducible first | exact HB.out | apply below_alloc | apply pw_below_drewN | apply below_drew1 | refine below_set ?_ GE451.out) | exact HB.out)⟩
    · rw [if_neg c4] at H
      exact absurd H (by simp)
  · rw [if_neg c3] at H
    exact absurd H (by simp)

/-! ### impl_Isles_hasRound: function 87 -/
mutual
def impl_Isles_hasRound.l0 : Nat → List Int → List (S37) → Int → Int → Int → List (S37) → Option (Bool)
  | 0, _, _, _, _, _, _ => none
  | k + 1, x3, x13, x14, x15, x472000, x472001 => if x15 < x14 then (if 0 ≤ x15 then (if x15 < (x13.length : Int) then (if 0 ≤ ((rd_T37 x13 x15).f0) then (if ((rd_T37 x13 x15).f0) < (x3.length : Int) then ((some (x3.set (((rd_T37 x13 x15).f0) : Int).toNat (wrap64 ((rd x3 ((rd_T37 x13 x15).f0)) + 1)) : List Int)).bind fun y478 => (if 0 ≤ ((rd_T37 x13 x15).f1) then (if ((rd_T37 x13 x15).f1) < (x3.length : Int) then (impl_Isles_hasRound.l0 k (y478.set (((rd_T37 x13 x15).f1) : Int).toNat (wrap64 ((rd y478 ((rd_T37 x13 x15).f1)) + 1))) x13 x14 (wrap64 (x15 + 1)) x472000 x472001) else (none)) else (none))) else (none)) else (none)) else (none)) else (none)) else (impl_Isles_hasRound.l1 k 0 x3 (x3.length : Int) 0 x472000 x472001)
def impl_Isles_hasRound.l1 : Nat → Int → List Int → Int → Int → Int → List (S37) → Option (Bool)
  | 0, _, _, _, _, _, _ => none
  | k + 1, x6, x34, x35, x36, x472000, x472001 => if x36 < x35 then (if 0 ≤ x36 then (if x36 < (x34.length : Int) then (if (Int.tmod (rd x34 x36) 2) = 1 then (some false) else ((impl_bit.f ((rd x34 x36) == 0)).bind fun t482 => (impl_Isles_hasRound.l1 k (wrap64 (x6 + t482)) x34 x35 (wrap64 (x36 + 1)) x472000 x472001))) else (none)) else (none)) else ((impl_countGroups.f k x472000 x472001).bind fun t483 => (some (decide ((wrap64 (t483 - x6)) ≤ 1))))
end
def impl_Isles_hasRound.f (k : Nat) (a0_0 : Int) (l0_1 : List (S37)) : Option (Bool) := if 0 ≤ a0_0 then (if (a0_0 : Int).toNat ≤ 35184372088832 then (impl_Isles_hasRound.l0 k (List.replicate (a0_0 : Int).toNat 0) l0_1 (l0_1.length : Int) 0 a0_0 l0_1) else (none)) else (none)
theorem impl_Isles_hasRound.mono_l : ∀ k, (∀ y0 y1 y2 y3 y4 y5, LeO (impl_Isles_hasRound.l0 k y0 y1 y2 y3 y4 y5) (impl_Isles_hasRound.l0 (k + 1) y0 y1 y2 y3 y4 y5)) ∧ (∀ y0 y1 y2 y3 y4 y5, LeO (impl_Isles_hasRound.l1 k y0 y1 y2 y3 y4 y5) (impl_Isles_hasRound.l1 (k + 1) y0 y1 y2 y3 y4 y5))
  | 0 => ⟨fun _ _ _ _ _ _ r h => by simp [impl_Isles_hasRound.l0] at h, fun _ _ _ _ _ _ r h => by simp [impl_Isles_hasRound.l1] at h⟩
  | k + 1 => by
    obtain ⟨ih0, ih1⟩ := impl_Isles_hasRound.mono_l k
    refine ⟨?_, ?_⟩
    · intro y0 y1 y2 y3 y4 y5
      unfold impl_Isles_hasRound.l0
      repeat' first
      | (with_reducible exact ih0 _ _ _ _ _ _)
      | (with_reducible exact ih1 _ _ _ _ _ _)
      | (with_reducible exact impl_countGroups.mono _ _ _)
      | (with_reducible exact LeO.refl _)
      | (with_reducible exact LeO.none _)
      | (with_reducible refine LeO.ite ?_ ?_)
      | (with_reducible refine LeO.bind ?_ (fun _ => ?_))
      | exact ih0 _ _ _ _ _ _
      | exact ih1 _ _ _ _ _ _
      | exact impl_countGroups.mono _ _ _
      | exact LeO.none _
      | refine LeO.ite ?_ ?_
      | refine LeO.bind ?_ (fun _ => ?_)
    · intro y0 y1 y2 y3 y4 y5
      unfold impl_Isles_hasRound.l1
      repeat' first
      | (with_reducible exact ih0 _ _ _ _ _ _)
      | (with_reducible exact ih1 _ _ _ _ _ _)
      | (with_reducible exact impl_countGroups.mono _ _ _)
      | (with_reducible exact LeO.refl _)
      | (with_reducible exact LeO.none _)
      | (with_reducible refine LeO.ite ?_ ?_)
      | (with_reducible refine LeO.bind ?_ (fun _ => ?_))
      | exact ih0 _ _ _ _ _ _
      | exact ih1 _ _ _ _ _ _
      | exact impl_countGroups.mono _ _ _
      | exact LeO.none _
      | refine LeO.ite ?_ ?_
      | refine LeO.bind ?_ (fun _ => ?_)
theorem impl_Isles_hasRound.mono : ∀ a0 a1 k, LeO (impl_Isles_hasRound.f k a0 a1) (impl_Isles_hasRound.f (k + 1) a0 a1) := by
  intro a0 a1 k
  obtain ⟨ih0, ih1⟩ := impl_Isles_hasRound.mono_l k
  unfold impl_Isles_hasRound.f
  repeat' first
      | (with_reducible exact ih0 _ _ _ _ _ _)
      | (with_reducible exact ih1 _ _ _ _ _ _)
      | (with_reducible exact impl_countGroups.mono _ _ _)
      | (with_reducible exact LeO.refl _)
      | (with_reducible exact LeO.none _)
      | (with_reducible refine LeO.ite ?_ ?_)
      | (with_reducible refine LeO.bind ?_ (fun _ => ?_))
      | exact ih0 _ _ _ _ _ _
      | exact ih1 _ _ _ _ _ _
      | exact impl_countGroups.mono _ _ _
      | exact LeO.none _
      | refine LeO.ite ?_ ?_
      | refine LeO.bind ?_ (fun _ => ?_)
set_option maxHeartbeats 8000000 in
set_option maxRecDepth 100000 in
theorem impl_Isles_hasRound.calls (k : Nat) (a0_0 : Int) (A0_1 : Option Addr) (c0_1 : Nat) (l0_1 : List (S37)) (r : Bool) (w : World) (hr0_1 : Kd.C k37 w A0_1 l0_1.length l0_1) (hc0_1 : l0_1.length ≤ c0_1) (h : impl_Isles_hasRound.f k a0_0 l0_1 = some r) :
    Calls Try.prog 87 #[.agg #[.int .i64 a0_0, .slice A0_1 l0_1.length c0_1]] w fun e w' => e = .returned (.bool r) ∧ Below w.heap.size w w' := by
  have hu29 := Try.underlying29
  have hu37 := Try.underlying37
  have HR0_1 := Aside0.mk hr0_1
  have HC0_1 := Aside0.mk hc0_1
  clear hr0_1 hc0_1
  have HB := Aside0.mk (Below.refl w.heap.size w)
  have H : (if 0 ≤ a0_0 then (if (a0_0 : Int).toNat ≤ 35184372088832 then (impl_Isles_hasRound.l0 k (List.replicate (a0_0 : Int).toNat 0) l0_1 (l0_1.length : Int) 0 a0_0 l0_1) else (none)) else (none)) = some r := h
  clear h
  by_cases c2 : 0 ≤ a0_0
  · rw [if_pos c2] at H
    have c2b0 := eq_true c2
    have c2b1 : decide (0 ≤ a0_0) = true := decide_eq_true c2
    clear c2
    by_cases c3 : (a0_0 : Int).toNat ≤ 35184372088832
    · rw [if_pos c3] at H
      have c3b0 := eq_true c3
      have c3b1 : decide ((a0_0 : Int).toNat ≤ 35184372088832) = true := decide_eq_true c3
      clear c3
      obtain ⟨y472, hy472⟩ : ∃ y_ : List Int, y_ = (List.replicate (a0_0 : Int).toNat 0) := ⟨_, rfl⟩
      replace H : (impl_Isles_hasRound.l0 k y472 l0_1 (l0_1.length : Int) 0 a0_0 l0_1) = some r := by first | (rw [hy472]; with_reducible exact H) | (have H2_ := (Option.bind_some _ _).symm.trans H; rw [hy472]; with_reducible exact H2_) | (have H2_ := (Option.bind_some _ _).symm.trans H; with_reducible exact H2_) | with_reducible exact H | (rw [hy472]; exact H) | exact H
      have Ny472 := Aside0.mk hy472
      clear hy472
      have H' := Aside0.mk H
      clear H
      go_enter Try.func87, Try.ntmps87
      go_wp2_with (first | ((with_reducible refine gate_dst (N := 1) rfl ?_); refine box_event ?hg (N := 1) ?hd (cs := #[.int .i64 a0_0, .slice A0_1 l0_1.length c0_1]) (t := 29) ?hr ?_; (case hd => rfl); (case hg => rfl); (case hr => first | (go_simp; done) | (go_simp; rfl)); intro gb471 hg w4 hbox hb; have n0_ := Aside0.mk (below_step (by repeat (first | (with_reducible first | exact HB.out | apply below_alloc | apply pw_below_drewN | apply below_drew1) | exact HB.out)) hb); have n1_ := Aside0.mk (hbox); have n2_ := Aside0.mk ((by rw [hg]; exact (below_size (by repeat (first | (with_reducible first | exact HB.out | apply below_alloc | apply pw_below_drewN | apply below_drew1) | exact HB.out))) : w.heap.size ≤ gb471)); have n3_ := Aside0.mk ((by rw [hg]; exact (below_size (by repeat (first | (with_reducible first | exact HB.out | apply below_alloc | apply pw_below_drewN | apply below_drew1) | exact HB.out))) : w.heap.size ≤ gb471)); clear HB; have HB := n0_; have BK471 := n1_; have GW471 := n2_; have GE471 := n3_; clear n0_ n1_ n2_ n3_; clear hb hbox hg; have hcz5_0 : w4.cell? ⟨gb471, 0, none⟩ = some (.int .i64 a0_0) := (blk_cell BK471.out 0).trans rfl; have hcz5_1 : w4.cell? ⟨gb471, 1, none⟩ = some (.slice A0_1 l0_1.length c0_1) := (blk_cell BK471.out 1).trans rfl; have hfz5_0 := blk_frozen BK471.out 0; have hfz5_1 := blk_frozen BK471.out 1) | ((with_reducible refine gate_dst (N := 11) rfl ?_); refine Kd.R_make (Kd.int .i64) _ 3 rfl (N := 11) rfl 51 _ _ rfl a0_0 rfl rfl Try.underlying51 (.int .i64 0) 8 info3 rfl (by decide) (by omega) 0 (ok := fun _ => True) (okp := fun _ => True) rfl (fun _ hk => hk) trivial (of_decide_eq_true (by first | (with_reducible assumption) | assumption)) (Nat.le_trans (Nat.mul_le_mul_right _ (of_decide_eq_true (by first | (with_reducible assumption) | assumption) : a0_0.toNat ≤ 35184372088832)) (by omega)) (Below.refl _ _) (Nat.le_refl _) ?_; intro v473 w6 ho7 hb hg_ hnew_; clear hg_ hnew_; (first | rw [← Ny472.out] at ho7 | (simp only [Int.reduceToNat] at ho7; rw [← Ny472.out] at ho7)); have n0_ := Aside0.mk (Kd.R_lower ho7 (below_size (by repeat (first | (with_reducible first | exact HB.out | apply below_alloc | apply pw_below_drewN | apply below_drew1 | refine below_set ?_ GE471.out) | exact HB.out)))); have n1_ := Aside0.mk (blk_below (g := gb471) (o := .cells #[.int .i64 a0_0, .slice A0_1 l0_1.length c0_1] 29 (0, 0)) (by (with_reducible repeat (first | refine blk_drewN ?_ _ | refine blk_drew ?_ | refine blk_alloc ?_ _)); exact BK471.out) hb); have n2_ := Aside0.mk (below_step (by repeat (first | (with_reducible first | exact HB.out | apply below_alloc | apply pw_below_drewN | apply below_drew1 | refine below_set ?_ GE471.out) | exact HB.out)) hb); clear BK471; clear HB; have HO474 := n0_; have BK471 := n1_; have HB := n2_; clear n0_ n1_ n2_; clear hb ho7; have hcz8_0 : w6.cell? ⟨gb471, 0, none⟩ = some (.int .i64 a0_0) := (blk_cell BK471.out 0).trans rfl; have hcz8_1 : w6.cell? ⟨gb471, 1, none⟩ = some (.slice A0_1 l0_1.length c0_1) := (blk_cell BK471.out 1).trans rfl; have hfz8_0 := blk_frozen BK471.out 0; have hfz8_1 := blk_frozen BK471.out 1))
      go_loopg [15] k (fun kq v15 w' => ∃ (x3_1 : List Int) (x15_1 : Int), v15 = .int .i64 x15_1 ∧ Aside0 (impl_Isles_hasRound.l0 kq x3_1 l0_1 (l0_1.length : Int) x15_1 a0_0 l0_1 = some r) ∧ Aside0 (kq ≤ k) ∧ Aside0 (Kd.R (Kd.int .i64) 3 w' w.heap.size (fun _ => True) v473 x3_1) ∧ Aside0 (w'.heap[gb471]? = some (.cells #[.int .i64 a0_0, (.slice A0_1 l0_1.length c0_1)] 29 (0, 0))) ∧ Aside0 (Below w.heap.size w w'))
      case atStart => exact ⟨(y472), (0), (by first | rfl | (simp; done) | (simp [*]; done)), H', ⟨Nat.le_refl _⟩, ⟨by (with_reducible repeat (first | apply Kd.R_alloc | apply Kd.R_drewN | apply Kd.R_drew)); exact HO474.out⟩, ⟨by (with_reducible repeat (first | refine blk_drewN ?_ _ | refine blk_drew ?_ | refine blk_alloc ?_ _)); exact BK471.out⟩, ⟨by repeat (first | (with_reducible first | exact HB.out | apply below_alloc | apply pw_below_drewN | apply below_drew1 | refine below_set ?_ GE471.out) | exact HB.out)⟩⟩
      case round =>
        clear H'
        try clear c2
        try clear c2b0
        try clear c2b1
        try clear p2
        try clear c3
        try clear c3b0
        try clear c3b1
        try clear c8
        try clear hcz5_0
        try clear hcz5_1
        try clear hcz8_0
        try clear hcz8_1
        try clear hfz5_0
        try clear hfz5_1
        try clear hfz8_0
        try clear hfz8_1
        obtain ⟨x3_1, x15_1, rfl, HA, HK1, HO_3, BK471, HB⟩ := hrel
        cases gk with
        | zero => exact absurd HA.out (by simp [impl_Isles_hasRound.l0])
        | succ k1 =>
          have H := HA.out
          clear HA
          simp only [impl_Isles_hasRound.l0] at H
          by_cases c9 : x15_1 < (l0_1.length : Int)
          · rw [if_pos c9] at H
            have c9b0 : decide (x15_1 < (l0_1.length : Int)) = true := decide_eq_true c9
            clear c9
            by_cases c10 : 0 ≤ x15_1
            · rw [if_pos c10] at H
              have c10b0 : decide (0 ≤ x15_1) = true := decide_eq_true c10
              clear c10
              by_cases c11 : x15_1 < (l0_1.length : Int)
              · rw [if_pos c11] at H
                have c11b0 : decide (x15_1 < (l0_1.length : Int)) = true := decide_eq_true c11
                clear c11
                by_cases c12 : 0 ≤ ((rd_T37 l0_1 x15_1).f0)
                · rw [if_pos c12] at H
                  have c12b0 : decide (0 ≤ ((rd_T37 l0_1 x15_1).f0)) = true := decide_eq_true c12
                  clear c12
                  by_cases c13 : ((rd_T37 l0_1 x15_1).f0) < (x3_1.length : Int)
                  · rw [if_pos c13] at H
                    have c13b0 : decide (((rd_T37 l0_1 x15_1).f0) < (x3_1.length : Int)) = true := decide_eq_true c13
                    clear c13
                    obtain ⟨y478, hy478⟩ : ∃ y_ : List Int, y_ = (x3_1.set (((rd_T37 l0_1 x15_1).f0) : Int).toNat (wrap64 ((rd x3_1 ((rd_T37 l0_1 x15_1).f0)) + 1))) := ⟨_, rfl⟩
                    replace H : (if 0 ≤ ((rd_T37 l0_1 x15_1).f1) then (if ((rd_T37 l0_1 x15_1).f1) < (x3_1.length : Int) then (impl_Isles_hasRound.l0 k1 (y478.set (((rd_T37 l0_1 x15_1).f1) : Int).toNat (wrap64 ((rd y478 ((rd_T37 l0_1 x15_1).f1)) + 1))) l0_1 (l0_1.length : Int) (wrap64 (x15_1 + 1)) a0_0 l0_1) else (none)) else (none)) = some r := by first | (rw [hy478]; with_reducible exact H) | (have H2_ := (Option.bind_some _ _).symm.trans H; rw [hy478]; with_reducible exact H2_) | (have H2_ := (Option.bind_some _ _).symm.trans H; with_reducible exact H2_) | with_reducible exact H | (rw [hy478]; exact H) | exact H
                    have Ny478 := Aside0.mk hy478
                    clear hy478
                    by_cases c15 : 0 ≤ ((rd_T37 l0_1 x15_1).f1)
                    · rw [if_pos c15] at H
                      have c15b0 : decide (0 ≤ ((rd_T37 l0_1 x15_1).f1)) = true := decide_eq_true c15
                      clear c15
                      by_cases c16 : ((rd_T37 l0_1 x15_1).f1) < (x3_1.length : Int)
                      · rw [if_pos c16] at H
                        have c16b0 : decide (((rd_T37 l0_1 x15_1).f1) < (x3_1.length : Int)) = true := decide_eq_true c16
                        clear c16
                        obtain ⟨y480, hy480⟩ : ∃ y_ : List Int, y_ = (y478.set (((rd_T37 l0_1 x15_1).f1) : Int).toNat (wrap64 ((rd y478 ((rd_T37 l0_1 x15_1).f1)) + 1))) := ⟨_, rfl⟩
                        replace H : (impl_Isles_hasRound.l0 k1 y480 l0_1 (l0_1.length : Int) (wrap64 (x15_1 + 1)) a0_0 l0_1) = some r := by first | (rw [hy480]; with_reducible exact H) | (have H2_ := (Option.bind_some _ _).symm.trans H; rw [hy480]; with_reducible exact H2_) | (have H2_ := (Option.bind_some _ _).symm.trans H; with_reducible exact H2_) | with_reducible exact H | (rw [hy480]; exact H) | exact H
                        have Ny480 := Aside0.mk hy480
                        clear hy480
                        have H' := Aside0.mk H
                        clear H
                        have p475 : 0 ≤ (x15_1 : Int) := of_decide_eq_true (by first | (with_reducible assumption) | assumption)
                        have q475 : x15_1 < (l0_1.length : Int) := of_decide_eq_true (by first | (with_reducible assumption) | assumption)
                        obtain ⟨ad475, e475, hx475_0, hx475_1, hx475_2⟩ := at_T37 HR0_1.out x15_1 p475 q475
                        cases e475
                        replace hx475_0 := (HB.out.cell (World.block_lt_of_cell? w _ hx475_0)).trans hx475_0
                        replace hx475_1 := (HB.out.cell (World.block_lt_of_cell? w _ hx475_1)).trans hx475_1
                        replace hx475_2 := (HB.out.cell (World.block_lt_of_cell? w _ hx475_2)).trans hx475_2
                        replace p475 := eq_true p475
                        replace q475 := eq_true q475
                        go_wp2_with (first | ((with_reducible refine gate_dst (N := 5) rfl ?_); refine box_event ?hg (N := 5) ?hd (cs := #[.int .i64 0, .int .i64 0, .int .i64 0]) (t := 37) ?hr ?_; (case hd => rfl); (case hg => rfl); (case hr => first | (go_simp; done) | (go_simp; rfl)); intro gb476 hg w18 hbox hb; have n0_ := Aside0.mk (Kd.R_below (by (with_reducible repeat (first | apply Kd.R_alloc | apply Kd.R_drewN | apply Kd.R_drew)); exact HO_3.out) hb); have n1_ := Aside0.mk (blk_below (g := gb471) (o := .cells #[.int .i64 a0_0, .slice (some ad475) l0_1.length c0_1] 29 (0, 0)) (by (with_reducible repeat (first | refine blk_drewN ?_ _ | refine blk_drew ?_ | refine blk_alloc ?_ _)); exact BK471.out) hb); have n2_ := Aside0.mk (below_step (by repeat (first | (with_reducible first | exact HB.out | apply below_alloc | apply pw_below_drewN | apply below_drew1 | refine below_set ?_ GE471.out) | exact HB.out)) hb); have n3_ := Aside0.mk (hbox); have n4_ := Aside0.mk ((by rw [hg]; exact (below_size (by repeat (first | (with_reducible first | exact HB.out | apply below_alloc | apply pw_below_drewN | apply below_drew1 | refine below_set ?_ GE471.out) | exact HB.out))) : w.heap.size ≤ gb476)); have n5_ := Aside0.mk ((by rw [hg]; exact (below_size (by repeat (first | (with_reducible first | exact HB.out | apply below_alloc | apply pw_below_drewN | apply below_drew1 | refine below_set ?_ GE471.out) | exact HB.out))) : w.heap.size ≤ gb476)); have n6_ := Aside0.mk ((by rw [hg]; exact Nat.ne_of_lt (blk_lt (g := gb471) (o := .cells #[.int .i64 a0_0, .slice (some ad475) l0_1.length c0_1] 29 (0, 0)) (by (with_reducible repeat (first | refine blk_drewN ?_ _ | refine blk_drew ?_ | refine blk_alloc ?_ _)); exact BK471.out)) : gb471 ≠ gb476)); have n7_ := Aside0.mk ((by rw [hg]; exact Nat.ne_of_gt (blk_lt (g := gb471) (o := .cells #[.int .i64 a0_0, .slice (some ad475) l0_1.length c0_1] 29 (0, 0)) (by (with_reducible repeat (first | refine blk_drewN ?_ _ | refine blk_drew ?_ | refine blk_alloc ?_ _)); exact BK471.out)) : gb476 ≠ gb471)); clear HO_3; clear BK471; clear HB; have HO_3 := n0_; have BK471 := n1_; have HB := n2_; have BK476 := n3_; have GW476 := n4_; have GE476 := n5_; have NB471_476 := n6_; have NB476_471 := n7_; clear n0_ n1_ n2_ n3_ n4_ n5_ n6_ n7_; clear hb hbox hg; have hnb19 := NB476_471.out; have hnc19 := NB471_476.out; have hcz20_0 : w18.cell? ⟨gb476, 0, none⟩ = some (.int .i64 0) := (blk_cell BK476.out 0).trans rfl; have hcz20_1 : w18.cell? ⟨gb476, 1, none⟩ = some (.int .i64 0) := (blk_cell BK476.out 1).trans rfl; have hcz20_2 : w18.cell? ⟨gb476, 2, none⟩ = some (.int .i64 0) := (blk_cell BK476.out 2).trans rfl; have hfz20_0 := blk_frozen BK476.out 0; have hfz20_1 := blk_frozen BK476.out 1; have hfz20_2 := blk_frozen BK476.out 2) | ((with_reducible refine gate_store (t := 37) (p := 5) rfl ?_); refine store_event (t := 37) (p := 5) (v := ?vo_w21) (w1 := (((w18.setCell ⟨gb476, 0, none⟩ (.int .i64 ((rd_T37 l0_1 x15_1).f0))).setCell ⟨gb476, 1, none⟩ (.int .i64 ((rd_T37 l0_1 x15_1).f1))).setCell ⟨gb476, 2, none⟩ (.int .i64 ((rd_T37 l0_1 x15_1).f2)))) ?hg ?ho ?hn ?hr ?_; (case ho => rfl); (case hg => rfl); (case hn => rfl); (case hr => first | (go_simp; done) | (go_simp; rfl)); intro w21 hw; have n0_ : Aside0 (Kd.R (Kd.int .i64) 3 w21 w.heap.size (fun _ => True) v473 x3_1) := ⟨(by rw [hw]; exact (by (with_reducible repeat (first | apply Kd.R_alloc | apply Kd.R_drewN | apply Kd.R_drew)); exact Kd.R_mono (Kd.R_far (p := ⟨gb476, 2, none⟩) (Kd.R_far (p := ⟨gb476, 1, none⟩) (Kd.R_far (p := ⟨gb476, 0, none⟩) (Kd.R_types HO_3.out BK476.out (by decide)) (fun _ hk => hk.2) (.int .i64 ((rd_T37 l0_1 x15_1).f0))) (fun _ hk => hk.2) (.int .i64 ((rd_T37 l0_1 x15_1).f1))) (fun _ hk => hk.2) (.int .i64 ((rd_T37 l0_1 x15_1).f2))) (fun _ hk => trivial)))⟩; have n1_ : Aside0 (w21.heap[gb471]? = some (.cells #[.int .i64 a0_0, .slice (some ad475) l0_1.length c0_1] 29 (0, 0))) := ⟨(by rw [hw]; exact (by (with_reducible repeat (first | refine blk_drewN ?_ _ | refine blk_drew ?_ | refine blk_alloc ?_ _)); refine blk_far ?_ NB471_476.out _; (with_reducible repeat (first | refine blk_drewN ?_ _ | refine blk_drew ?_ | refine blk_alloc ?_ _)); refine blk_far ?_ NB471_476.out _; (with_reducible repeat (first | refine blk_drewN ?_ _ | refine blk_drew ?_ | refine blk_alloc ?_ _)); refine blk_far ?_ NB471_476.out _; (with_reducible repeat (first | refine blk_drewN ?_ _ | refine blk_drew ?_ | refine blk_alloc ?_ _)); exact BK471.out))⟩; have n2_ : Aside0 (w21.heap[gb476]? = some (.cells #[.int .i64 ((rd_T37 l0_1 x15_1).f0), .int .i64 ((rd_T37 l0_1 x15_1).f1), .int .i64 ((rd_T37 l0_1 x15_1).f2)] 37 (0, 0))) := ⟨(by rw [hw]; exact (by (with_reducible repeat (first | refine blk_drewN ?_ _ | refine blk_drew ?_ | refine blk_alloc ?_ _)); refine blk_put (cs := #[.int .i64 ((rd_T37 l0_1 x15_1).f0), .int .i64 ((rd_T37 l0_1 x15_1).f1), .int .i64 0]) ?_ 2 _ rfl; (with_reducible repeat (first | refine blk_drewN ?_ _ | refine blk_drew ?_ | refine blk_alloc ?_ _)); refine blk_put (cs := #[.int .i64 ((rd_T37 l0_1 x15_1).f0), .int .i64 0, .int .i64 0]) ?_ 1 _ rfl; (with_reducible repeat (first | refine blk_drewN ?_ _ | refine blk_drew ?_ | refine blk_alloc ?_ _)); refine blk_put (cs := #[.int .i64 0, .int .i64 0, .int .i64 0]) ?_ 0 _ rfl; (with_reducible repeat (first | refine blk_drewN ?_ _ | refine blk_drew ?_ | refine blk_alloc ?_ _)); exact BK476.out))⟩; have n3_ : Aside0 (Below w.heap.size w w21) := ⟨(by rw [hw]; exact (by repeat (first | (with_reducible first | exact HB.out | apply below_alloc | apply pw_below_drewN | apply below_drew1 | refine below_set ?_ GE471.out | refine below_set ?_ GE476.out) | exact HB.out)))⟩; clear hw; clear HO_3; clear BK471; clear BK476; clear HB; have HO_3 := n0_; have BK471 := n1_; have BK476 := n2_; have HB := n3_; clear n0_ n1_ n2_ n3_; have hcz22_0 : w21.cell? ⟨gb476, 0, none⟩ = some (.int .i64 ((rd_T37 l0_1 x15_1).f0)) := (blk_cell BK476.out 0).trans rfl; have hcz22_1 : w21.cell? ⟨gb476, 1, none⟩ = some (.int .i64 ((rd_T37 l0_1 x15_1).f1)) := (blk_cell BK476.out 1).trans rfl; have hcz22_2 : w21.cell? ⟨gb476, 2, none⟩ = some (.int .i64 ((rd_T37 l0_1 x15_1).f2)) := (blk_cell BK476.out 2).trans rfl; have hfz22_0 := blk_frozen BK476.out 0; have hfz22_1 := blk_frozen BK476.out 1; have hfz22_2 := blk_frozen BK476.out 2; obtain ⟨Ao23, co23, eo23⟩ := Kd.R_slice HO_3.out; subst eo23; have p477 : 0 ≤ (((rd_T37 l0_1 x15_1).f0) : Int) := of_decide_eq_true (by first | (with_reducible assumption) | assumption); have q477 : ((rd_T37 l0_1 x15_1).f0) < (x3_1.length : Int) := of_decide_eq_true (by first | (with_reducible assumption) | assumption); obtain ⟨ad477, e477, hx477_0⟩ := Kd.at_int (Kd.R_reads' HO_3.out).2.2 ((rd_T37 l0_1 x15_1).f0) p477 q477; cases e477; replace p477 := eq_true p477; replace q477 := eq_true q477; have p14 : 0 ≤ (((rd_T37 l0_1 x15_1).f0) : Int) := of_decide_eq_true (by first | (with_reducible assumption) | assumption); have q14 : (((rd_T37 l0_1 x15_1).f0) : Int) < ((x3_1.length : Int) : Int) := of_decide_eq_true (by first | (with_reducible assumption) | assumption); obtain ⟨go14, co14, eo14, gb14, gl14, cl14, HG14⟩ := Kd.R_form HO_3.out (by omega); (first | cases eo14 | (injection eo14 with ea_ en_ ec_; (first | subst ea_ | (injection ea_ with ea_; subst ea_)); subst ec_; clear en_)); have GB14 := Aside0.mk gb14; have GG14 := Aside0.mk HG14; clear gb14 gl14 HG14; (first | simp only [add_plain] at hx477_0 | skip); obtain ⟨hx14_0, hf14_0⟩ := Kd.R_celln 0 HO_3.out (((rd_T37 l0_1 x15_1).f0) : Int) p14 q14; replace p14 := eq_true p14; replace q14 := eq_true q14; obtain ⟨hy24_, hz24_⟩ := Kd.R_celln 0 HO_3.out (((rd_T37 l0_1 x15_1).f0) : Int) (of_decide_eq_true (by first | (with_reducible assumption) | assumption)) (of_decide_eq_true (by first | (with_reducible assumption) | assumption)); have HP24 := Kd.R_putg HO_3.out (((rd_T37 l0_1 x15_1).f0) : Int) (wrap64 ((rd x3_1 ((rd_T37 l0_1 x15_1).f0)) + 1))) | ((with_reducible refine gate_store (t := 3) (p := 25) rfl ?_); refine store_event (t := 3) (p := 25) (v := ?vo_w25) (w1 := (w21.setCell ⟨go14, (((rd_T37 l0_1 x15_1).f0) : Int).toNat, none⟩ (.int .i64 (wrap64 ((rd x3_1 ((rd_T37 l0_1 x15_1).f0)) + 1))))) ?hg ?ho ?hn ?hr ?_; (case ho => rfl); (case hg => rfl); (case hn => rfl); (case hr => first | (go_simp; done) | (go_simp; rfl)); intro w25 hw; have hg : w21.grownBy w25 (some go14) := (by rw [hw]; exact HP24.2); have hp_ : Kd.R (Kd.int .i64) 3 w25 w.heap.size (fun _ => True) (.slice (some ⟨go14, 0, none⟩) x3_1.length co23) y478 := (by rw [hw, Ny478.out]; exact HP24.1); clear HP24; have n0_ := Aside0.mk (hp_); have n1_ := Aside0.mk (blk_grown (g := gb471) (o := .cells #[.int .i64 a0_0, .slice (some ad475) l0_1.length c0_1] 29 (0, 0)) (by (with_reducible repeat (first | refine blk_drewN ?_ _ | refine blk_drew ?_ | refine blk_alloc ?_ _)); exact BK471.out) hg (Kd.R_ne HO_3.out BK471.out (by decide))); have n2_ := Aside0.mk (blk_grown (g := gb476) (o := .cells #[.int .i64 ((rd_T37 l0_1 x15_1).f0), .int .i64 ((rd_T37 l0_1 x15_1).f1), .int .i64 ((rd_T37 l0_1 x15_1).f2)] 37 (0, 0)) (by (with_reducible repeat (first | refine blk_drewN ?_ _ | refine blk_drew ?_ | refine blk_alloc ?_ _)); exact BK476.out) hg (Kd.R_ne HO_3.out BK476.out (by decide))); have n3_ := Aside0.mk ((by rw [hw]; exact below_set (HB.out) GB14.out : Below w.heap.size w w25)); clear HO_3; clear BK471; clear BK476; clear HB; have HO_3 := n0_; have BK471 := n1_; have BK476 := n2_; have HB := n3_; clear n0_ n1_ n2_ n3_; clear hg hw hp_; have hcz26_0 : w25.cell? ⟨gb476, 0, none⟩ = some (.int .i64 ((rd_T37 l0_1 x15_1).f0)) := (blk_cell BK476.out 0).trans rfl; have hcz26_1 : w25.cell? ⟨gb476, 1, none⟩ = some (.int .i64 ((rd_T37 l0_1 x15_1).f1)) := (blk_cell BK476.out 1).trans rfl; have hcz26_2 : w25.cell? ⟨gb476, 2, none⟩ = some (.int .i64 ((rd_T37 l0_1 x15_1).f2)) := (blk_cell BK476.out 2).trans rfl; have hfz26_0 := blk_frozen BK476.out 0; have hfz26_1 := blk_frozen BK476.out 1; have hfz26_2 := blk_frozen BK476.out 2; have p479 : 0 ≤ (((rd_T37 l0_1 x15_1).f1) : Int) := of_decide_eq_true (by first | (with_reducible assumption) | assumption); have q479 : ((rd_T37 l0_1 x15_1).f1) < (y478.length : Int) := (by have h_ : (((rd_T37 l0_1 x15_1).f1) : Int) < ((x3_1.length : Int) : Int) := of_decide_eq_true (by first | (with_reducible assumption) | assumption); first | (have e_ := (Kd.R_reads' HO_3.out).1; omega) | simpa only [Ny478.out, List.length_set] using h_); have ql479 : ((((rd_T37 l0_1 x15_1).f1) : Int) < ((x3_1.length : Int) : Int)) = True := eq_true (of_decide_eq_true (by first | (with_reducible assumption) | assumption)); obtain ⟨ad479, e479, hx479_0⟩ := Kd.at_int (Kd.R_reads' HO_3.out).2.2 ((rd_T37 l0_1 x15_1).f1) p479 q479; obtain rfl : (⟨go14, 0, none⟩ : Addr) = ad479 := (by injection e479); (first | simp only [add_plain] at hx479_0 | simp only [add_at] at hx479_0 | simp only [Addr.add, Nat.zero_add] at hx479_0 | skip); replace p479 := eq_true p479; replace q479 := eq_true q479; have p17 : 0 ≤ (((rd_T37 l0_1 x15_1).f1) : Int) := of_decide_eq_true (by first | (with_reducible assumption) | assumption); have q17 : (((rd_T37 l0_1 x15_1).f1) : Int) < ((x3_1.length : Int) : Int) := of_decide_eq_true (by first | (with_reducible assumption) | assumption); obtain ⟨hx17_0, hf17_0⟩ := Kd.R_celln 0 HO_3.out (((rd_T37 l0_1 x15_1).f1) : Int) p17 q17; replace p17 := eq_true p17; replace q17 := eq_true q17; obtain ⟨hy27_, hz27_⟩ := Kd.R_celln 0 HO_3.out (((rd_T37 l0_1 x15_1).f1) : Int) (of_decide_eq_true (by first | (with_reducible assumption) | assumption)) (of_decide_eq_true (by first | (with_reducible assumption) | assumption)); have HP27 := Kd.R_putg HO_3.out (((rd_T37 l0_1 x15_1).f1) : Int) (wrap64 ((rd y478 ((rd_T37 l0_1 x15_1).f1)) + 1))) | ((with_reducible refine gate_store (t := 3) (p := 32) rfl ?_); refine store_event (t := 3) (p := 32) (v := ?vo_w28) (w1 := (w25.setCell ⟨go14, (((rd_T37 l0_1 x15_1).f1) : Int).toNat, none⟩ (.int .i64 (wrap64 ((rd y478 ((rd_T37 l0_1 x15_1).f1)) + 1))))) ?hg ?ho ?hn ?hr ?_; (case ho => rfl); (case hg => rfl); (case hn => rfl); (case hr => first | (go_simp; done) | (go_simp; rfl)); intro w28 hw; have hg : w25.grownBy w28 (some go14) := (by rw [hw]; exact HP27.2); have hp_ : Kd.R (Kd.int .i64) 3 w28 w.heap.size (fun _ => True) (.slice (some ⟨go14, 0, none⟩) x3_1.length co23) y480 := (by rw [hw, Ny480.out]; exact HP27.1); clear HP27; have n0_ := Aside0.mk (hp_); have n1_ := Aside0.mk (blk_grown (g := gb471) (o := .cells #[.int .i64 a0_0, .slice (some ad475) l0_1.length c0_1] 29 (0, 0)) (by (with_reducible repeat (first | refine blk_drewN ?_ _ | refine blk_drew ?_ | refine blk_alloc ?_ _)); exact BK471.out) hg (Kd.R_ne HO_3.out BK471.out (by decide))); have n2_ := Aside0.mk (blk_grown (g := gb476) (o := .cells #[.int .i64 ((rd_T37 l0_1 x15_1).f0), .int .i64 ((rd_T37 l0_1 x15_1).f1), .int .i64 ((rd_T37 l0_1 x15_1).f2)] 37 (0, 0)) (by (with_reducible repeat (first | refine blk_drewN ?_ _ | refine blk_drew ?_ | refine blk_alloc ?_ _)); exact BK476.out) hg (Kd.R_ne HO_3.out BK476.out (by decide))); have n3_ := Aside0.mk ((by rw [hw]; exact below_set (HB.out) GB14.out : Below w.heap.size w w28)); clear HO_3; clear BK471; clear BK476; clear HB; have HO_3 := n0_; have BK471 := n1_; have BK476 := n2_; have HB := n3_; clear n0_ n1_ n2_ n3_; clear hg hw hp_))
                        go_roundg k1
                        case measure => have := HK1.out; omega
                        case rel => exact ⟨(y480), (wrap64 (x15_1 + 1)), (by first | rfl | (simp; done) | (simp [*]; done)), H', ⟨by have := HK1.out; omega⟩, ⟨by (with_reducible repeat (first | apply Kd.R_alloc | apply Kd.R_drewN | apply Kd.R_drew)); exact HO_3.out⟩, ⟨by (with_reducible repeat (first | refine blk_drewN ?_ _ | refine blk_drew ?_ | refine blk_alloc ?_ _)); exact BK471.out⟩, ⟨by repeat (first | (with_reducible first | exact HB.out | apply below_alloc | apply pw_below_drewN | apply below_drew1 | refine below_set ?_ GE471.out | refine below_set ?_ GE476.out) | exact HB.out)⟩⟩
                      · rw [if_neg c16] at H
                        exact absurd H (by simp)
                    · rw [if_neg c15] at H
                      exact absurd H (by simp)
                  · rw [if_neg c13] at H
                    exact absurd H (by simp)
                · rw [if_neg c12] at H
                  exact absurd H (by simp)
              · rw [if_neg c11] at H
                exact absurd H (by simp)
            · rw [if_neg c10] at H
              exact absurd H (by simp)
          · rw [if_neg c9] at H
            have c9b0 : decide (x15_1 < (l0_1.length : Int)) = false := decide_eq_false c9
            clear c9
            have H' := Aside0.mk H
            clear H
            obtain ⟨Ao29, co29, eo29⟩ := Kd.R_slice HO_3.out
            subst eo29
            go_wp2
            go_loopg [6, 36] k1 (fun kq v6 v36 w' => ∃ (x6_2 : Int) (x36_2 : Int), v6 = .int .i64 x6_2 ∧ v36 = .int .i64 x36_2 ∧ Aside0 (impl_Isles_hasRound.l1 kq x6_2 x3_1 (x3_1.length : Int) x36_2 a0_0 l0_1 = some r) ∧ Aside0 (kq ≤ k1) ∧ Aside0 (Kd.R (Kd.int .i64) 3 w' w.heap.size (fun _ => True) (.slice Ao29 x3_1.length co29) x3_1) ∧ Aside0 (w'.heap[gb471]? = some (.cells #[.int .i64 a0_0, (.slice A0_1 l0_1.length c0_1)] 29 (0, 0))) ∧ Aside0 (Below w.heap.size w w'))
            case atStart => exact ⟨(0), (0), (by first | rfl | (simp; done) | (simp [*]; done)), (by first | rfl | (simp; done) | (simp [*]; done)), H', ⟨Nat.le_refl _⟩, ⟨by (with_reducible repeat (first | apply Kd.R_alloc | apply Kd.R_drewN | apply Kd.R_drew)); exact HO_3.out⟩, ⟨by (with_reducible repeat (first | refine blk_drewN ?_ _ | refine blk_drew ?_ | refine blk_alloc ?_ _)); exact BK471.out⟩, ⟨by repeat (first | (with_reducible first | exact HB.out | apply below_alloc | apply pw_below_drewN | apply below_drew1 | refine below_set ?_ GE471.out) | exact HB.out)⟩⟩
            case round =>
              clear H'
              try clear c1
              try clear p1
              try clear q1
              try clear hx1
              try clear hf1
              try clear c2
              try clear c2b0
              try clear c2b1
              try clear p2
              try clear c3
              try clear c3b0
              try clear c3b1
              try clear p4
              try clear q4
              try clear hx4
              try clear p6
              try clear c8
              try clear c9
              try clear c9b0
              try clear c10
              try clear c10b0
              try clear c11
              try clear c11b0
              try clear c12
              try clear c12b0
              try clear c13
              try clear c13b0
              try clear p14
              try clear q14
              try clear hx14
              try clear hf14
              try clear c15
              try clear c15b0
              try clear c16
              try clear c16b0
              try clear p17
              try clear q17
              try clear hx17
              try clear hf17
              try clear c19
              try clear hcz20_0
              try clear hcz20_1
              try clear hcz20_2
              try clear hcz22_0
              try clear hcz22_1
              try clear hcz22_2
              try clear hcz26_0
              try clear hcz26_1
              try clear hcz26_2
              try clear hcz5_0
              try clear hcz5_1
              try clear hcz8_0
              try clear hcz8_1
              try clear hfz20_0
              try clear hfz20_1
              try clear hfz20_2
              try clear hfz22_0
              try clear hfz22_1
              try clear hfz22_2
              try clear hfz26_0
              try clear hfz26_1
              try clear hfz26_2
              try clear hfz5_0
              try clear hfz5_1
              try clear hfz8_0
              try clear hfz8_1
              try clear hx14_0
              try clear hx17_0
              try clear hx475_0
              try clear hx475_1
              try clear hx475_2
              try clear hx477_0
              try clear hx479_0
              try clear p14
              try clear p17
              try clear p2
              try clear p475
              try clear p477
              try clear p479
              try clear q14
              try clear q17
              try clear q475
              try clear q477
              try clear q479
              obtain ⟨x6_2, x36_2, rfl, rfl, HA, HK2, HO_34, BK471, HB⟩ := hrel
              cases gk with
              | zero => exact absurd HA.out (by simp [impl_Isles_hasRound.l1])
              | succ k2 =>
                have H := HA.out
                clear HA
                simp only [impl_Isles_hasRound.l1] at H
                by_cases c30 : x36_2 < (x3_1.length : Int)
                · rw [if_pos c30] at H
                  have c30b0 : decide (x36_2 < (x3_1.length : Int)) = true := decide_eq_true c30
                  clear c30
                  by_cases c31 : 0 ≤ x36_2
                  · rw [if_pos c31] at H
                    have c31b0 : decide (0 ≤ x36_2) = true := decide_eq_true c31
                    clear c31
                    by_cases c32 : x36_2 < (x3_1.length : Int)
                    · rw [if_pos c32] at H
                      have c32b0 : decide (x36_2 < (x3_1.length : Int)) = true := decide_eq_true c32
                      clear c32
                      by_cases c33 : (Int.tmod (rd x3_1 x36_2) 2) = 1
                      · rw [if_pos c33] at H
                        have c33b0 : ((Int.tmod (rd x3_1 x36_2) 2) == 1) = true := beq_iff_eq.mpr c33
                        have c33b1 : ((Int.tmod (rd x3_1 x36_2) 2) != 1) = false := bne_eq_false_iff_eq.mpr c33
                        clear c33
                        obtain rfl := Option.some.inj H
                        have p481 : 0 ≤ (x36_2 : Int) := of_decide_eq_true (by first | (with_reducible assumption) | assumption)
                        have q481 : x36_2 < (x3_1.length : Int) := of_decide_eq_true (by first | (with_reducible assumption) | assumption)
                        obtain ⟨ad481, e481, hx481_0⟩ := Kd.at_int (Kd.R_reads' HO_34.out).2.2 x36_2 p481 q481
                        cases e481
                        replace p481 := eq_true p481
                        replace q481 := eq_true q481
                        go_wp2
                        go_ret
                        exact ⟨by first | rfl | (simp [errW_none, errW_some] <;> rfl) | (simp [*, errW_none, errW_some] <;> rfl), by repeat (first | (with_reducible first | exact HB.out | apply below_alloc | apply pw_below_drewN | apply below_drew1 | refine below_set ?_ GE471.out) | exact HB.out)⟩
                      · rw [if_neg c33] at H
                        have c33b0 : ((Int.tmod (rd x3_1 x36_2) 2) == 1) = false := beq_eq_false_iff_ne.mpr c33
                        have c33b1 : ((Int.tmod (rd x3_1 x36_2) 2) != 1) = true := bne_iff_ne.mpr c33
                        replace H := Option.bind_eq_some_iff.mp H
                        obtain ⟨t482, A340, H⟩ := H
                        replace H : (impl_Isles_hasRound.l1 k2 (wrap64 (x6_2 + t482)) x3_1 (x3_1.length : Int) (wrap64 (x36_2 + 1)) a0_0 l0_1) = some r := H
                        have A34 := Aside0.mk A340
                        clear A340
                        have H' := Aside0.mk H
                        clear H
                        have p481 : 0 ≤ (x36_2 : Int) := of_decide_eq_true (by first | (with_reducible assumption) | assumption)
                        have q481 : x36_2 < (x3_1.length : Int) := of_decide_eq_true (by first | (with_reducible assumption) | assumption)
                        obtain ⟨ad481, e481, hx481_0⟩ := Kd.at_int (Kd.R_reads' HO_34.out).2.2 x36_2 p481 q481
                        cases e481
                        replace p481 := eq_true p481
                        replace q481 := eq_true q481
                        go_wp2_with (first | ((with_reducible refine gate_callee (f := 106) rfl ?_); refine goesL_ (some 46) rfl rfl Try.func106 (by kernel_rfl) rfl #[.bool ((rd x3_1 x36_2) == 0)] rfl (by (try simp only [List.map_toArray, List.map_cons, List.map_nil]); first | done | rfl | (simp only [List.length_drop, List.length_take]; rfl)) ?_; (with_reducible refine (impl_bit.calls ((rd x3_1 x36_2) == 0) t482 _ A34.out).mono ?_); rintro e w' ⟨rfl, ⟨nd, rfl⟩⟩; refine ⟨_, rfl, ?_⟩))
                        go_roundg k2
                        case measure => have := HK1.out; have := HK2.out; omega
                        case rel => exact ⟨(wrap64 (x6_2 + t482)), (wrap64 (x36_2 + 1)), (by first | rfl | (simp; done) | (simp [*]; done)), (by first | rfl | (simp; done) | (simp [*]; done)), H', ⟨by have := HK1.out; have := HK2.out; omega⟩, ⟨by (with_reducible repeat (first | apply Kd.R_alloc | apply Kd.R_drewN | apply Kd.R_drew)); exact HO_34.out⟩, ⟨by (with_reducible repeat (first | refine blk_drewN ?_ _ | refine blk_drew ?_ | refine blk_alloc ?_ _)); exact BK471.out⟩, ⟨by repeat (first | (with_reducible first | exact HB.out | apply below_alloc | apply pw_below_drewN | apply below_drew1 | refine below_set ?_ GE471.out) | exact HB.out)⟩⟩
                    · rw [if_neg c32] at H
                      exact absurd H (by simp)
                  · rw [if_neg c31] at H
                    exact absurd H (by simp)
                · rw [if_neg c30] at H
                  have c30b0 : decide (x36_2 < (x3_1.length : Int)) = false := decide_eq_false c30
                  clear c30
                  replace H := Option.bind_eq_some_iff.mp H
                  obtain ⟨t483, A350, H⟩ := H
                  replace H : (some (decide ((wrap64 (t483 - x6_2)) ≤ 1))) = some r := H
                  have A35 := Aside0.mk A350
                  clear A350
                  obtain rfl := Option.some.inj H
                  have hcz36_0 : wr.cell? ⟨gb471, 0, none⟩ = some (.int .i64 a0_0) := (blk_cell BK471.out 0).trans rfl
                  have hcz36_1 : wr.cell? ⟨gb471, 1, none⟩ = some (.slice A0_1 l0_1.length c0_1) := (blk_cell BK471.out 1).trans rfl
                  have hfz36_0 := blk_frozen BK471.out 0
                  have hfz36_1 := blk_frozen BK471.out 1
                  go_wp2_with (first | ((with_reducible refine gate_callee (f := 76) rfl ?_); refine goesL_ (some 53) rfl rfl Try.func76 (by kernel_rfl) rfl #[.int .i64 a0_0, .slice A0_1 l0_1.length c0_1] rfl (by (try simp only [List.map_toArray, List.map_cons, List.map_nil]); first | done | rfl | (simp only [List.length_drop, List.length_take]; rfl)) ?_; (with_reducible refine (impl_countGroups.calls k2 a0_0 _ _ l0_1 t483 _ ?side1 ?side2 A35.out).mono ?_); (case side1 => repeat (first | exact (Kd.C_below HR0_1.out HB.out) | (with_reducible refine Kd.C_alloc ?_ _) | (with_reducible refine Kd.C_drewN ?_ _) | (with_reducible refine Kd.C_drew ?_))); (case side2 => exact HC0_1.out); rintro e w37 ⟨rfl, hb⟩; refine ⟨_, rfl, ?_⟩; have n0_ := Aside0.mk (Kd.R_below (by (with_reducible repeat (first | apply Kd.R_alloc | apply Kd.R_drewN | apply Kd.R_drew)); exact HO_34.out) hb); have n1_ := Aside0.mk (blk_below (g := gb471) (o := .cells #[.int .i64 a0_0, .slice A0_1 l0_1.length c0_1] 29 (0, 0)) (by (with_reducible repeat (first | refine blk_drewN ?_ _ | refine blk_drew ?_ | refine blk_alloc ?_ _)); exact BK471.out) hb); have n2_ := Aside0.mk (below_step (by repeat (first | (with_reducible first | exact HB.out | apply below_alloc | apply pw_below_drewN | apply below_drew1 | refine below_set ?_ GE471.out) | exact HB.out)) hb); clear HO_34; clear BK471; clear HB; have HO_34 := n0_; have BK471 := n1_; have HB := n2_; clear n0_ n1_ n2_; (try clear hb); (try clear hb2); (try clear hk); (try clear hi)))
                  go_ret
                  exact ⟨by first | rfl | (simp [errW_none, errW_some] <;> rfl) | (simp [*, errW_none, errW_some] <;> rfl), by repeat (first | (with_reducible first | exact HB.out | apply below_alloc | apply pw_below_drewN | apply below_drew1 | refine below_set ?_ GE471.out) | exact HB.out)⟩
    · rw [if_neg c3] at H
      exact absurd H (by simp)
  · rw [if_neg c2] at H
    exact absurd H (by simp)

end Go.Proofs.Ytkikaakfdggklaa.Q
