/- Go functions of this seat as plain functions, each with the proof that its call comes to what that function says: written by this session's program (wip/drive.py) out of the translation, by the kit's printer and by texts of our own; no conditions. -/
import Derived.Test.YtkikaakfdggklaaQx0
import Derived.Test.YtkikaakfdggklaaQx55
namespace Go.Proofs.Ytkikaakfdggklaa.Q
open Go.RowKit Go.Proofs.YtkikaakfdggklaaW.PrintWords Go.Proofs.YtkikaakfdggklaaW.PrintLast Go.Proofs.YtkikaakfdggklaaW.PrintMore
attribute [local go_sem] max2_int min2_int max_two min_two max_three min_three max_four min_four   -- for this text's walks alone
set_option linter.unusedVariables false
set_option linter.unusedSimpArgs false

/-! ### impl_Isles_byToll: function 85 -/
theorem byToll1 (x : Int) (W : World) : Calls Try.prog 111 #[.int .i64 x] W fun e w' => e = .returned (.int .i64 x) ∧ W = w' := by
  go_enter Try.func111, Try.ntmps111
  go_wp2
  go_ret
  exact ⟨rfl, rfl⟩
def impl_Isles_byToll.f (k : Nat) (a0_0 : Int) (l0_1 : List S37) (a1 : Int) (a2 : Int) : Option (List Int × Int) := impl_Isles_way.f k (fun x => x) a0_0 l0_1 a1 a2
theorem impl_Isles_byToll.mono : ∀ a0 a1 a2 a3 k, LeO (impl_Isles_byToll.f k a0 a1 a2 a3) (impl_Isles_byToll.f (k + 1) a0 a1 a2 a3) := fun _ _ _ _ k => (way1.mono_l k).1 _ _ _ _ _ _ _ _
set_option maxHeartbeats 2000000 in
theorem impl_Isles_byToll.calls (k : Nat) (a0_0 : Int) (A0_1 : Option Addr) (c0_1 : Nat) (l0_1 : List S37) (a1 : Int) (a2 : Int) (r1 : List Int) (r2 : Int) (w : World) (hr0_1 : Kd.C k37 w A0_1 l0_1.length l0_1) (hc0_1 : l0_1.length ≤ c0_1) (h : impl_Isles_byToll.f k a0_0 l0_1 a1 a2 = some (r1, r2)) :
    Calls Try.prog 85 #[.agg #[.int .i64 a0_0, .slice A0_1 l0_1.length c0_1], .int .i64 a1, .int .i64 a2] w fun e w' => ∃ v0_ : Value, e = .returned (.tuple #[v0_, .int .i64 r2]) ∧ Kd.R (Kd.int .i64) 3 w' w.heap.size (fun _ => True) v0_ r1 ∧ Below w.heap.size w w' := by
  have HR := Aside0.mk hr0_1
  have HC := Aside0.mk hc0_1
  have H := Aside0.mk h
  have HB := Aside0.mk (below_alloc (Below.refl w.heap.size w) (.cells #[.int .i64 a0_0, .slice A0_1 l0_1.length c0_1] 29 (0, 0)))
  clear hr0_1 hc0_1 h
  go_enter Try.func85, Try.ntmps85
  go_wp2_with (go_at_call 83; refine (impl_Isles_way.calls 111 (fun x => x) (enters_ Try.func111 (by kernel_rfl) rfl) byToll1 k a0_0 A0_1 c0_1 l0_1 a1 a2 r1 r2 _ (Kd.C_below HR.out HB.out) HC.out H.out).mono ?_; rintro e w1 ⟨v1, rfl, hr, hb⟩; have HRR := Aside0.mk hr; have HBB := Aside0.mk hb; clear hr hb)
  go_ret2
  exact ⟨_, rfl, Kd.R_lower HRR.out (below_size HB.out), below_step HB.out HBB.out⟩
theorem plain1 (x : Int) (W : World) : Calls Try.prog 84 #[.int .i64 x] W fun e w' => e = .returned (.int .i64 ((fun _ => 1 : Int → Int) x)) ∧ W = w' := by
  go_enter Try.func84, Try.ntmps84
  go_wp2
  go_ret
  exact ⟨rfl, rfl⟩
def impl_Isles_plain.f (k : Nat) (a0_0 : Int) (l0_1 : List S37) (a1 : Int) (a2 : Int) : Option (List Int × Int) := impl_Isles_way.f k (fun _ => 1) a0_0 l0_1 a1 a2
theorem impl_Isles_plain.mono : ∀ a0 a1 a2 a3 k, LeO (impl_Isles_plain.f k a0 a1 a2 a3) (impl_Isles_plain.f (k + 1) a0 a1 a2 a3) := fun _ _ _ _ k => (way1.mono_l k).1 _ _ _ _ _ _ _ _
theorem impl_Isles_plain.calls (k : Nat) (a0_0 : Int) (A0_1 : Option Addr) (c0_1 : Nat) (l0_1 : List S37) (a1 : Int) (a2 : Int) (r1 : List Int) (r2 : Int) (w : World) (hr0_1 : Kd.C k37 w A0_1 l0_1.length l0_1) (hc0_1 : l0_1.length ≤ c0_1) (h : impl_Isles_plain.f k a0_0 l0_1 a1 a2 = some (r1, r2)) :
    Calls Try.prog 83 #[.agg #[.int .i64 a0_0, .slice A0_1 l0_1.length c0_1], .int .i64 a1, .int .i64 a2, .func (.func 84) #[] #[]] w fun e w' => ∃ v0_ : Value, e = .returned (.tuple #[v0_, .int .i64 r2]) ∧ Kd.R (Kd.int .i64) 3 w' w.heap.size (fun _ => True) v0_ r1 ∧ Below w.heap.size w w' :=
  impl_Isles_way.calls 84 (fun _ => 1) (enters_ Try.func84 (by kernel_rfl) rfl) plain1 k a0_0 A0_1 c0_1 l0_1 a1 a2 r1 r2 w hr0_1 hc0_1 h

end Go.Proofs.Ytkikaakfdggklaa.Q
