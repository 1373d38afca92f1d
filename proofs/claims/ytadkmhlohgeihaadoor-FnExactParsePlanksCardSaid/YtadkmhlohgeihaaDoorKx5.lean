/- Go functions of this seat as plain functions, each with the proof that its call comes to what that function says: written by this session's program (wip/drive.py) out of the translation, by the kit's printer and by texts of our own; no conditions. -/
import Derived.Test.YtadkmhlohgeihaaDoorKx0
import Derived.Shelf.Abstract
namespace Go.Proofs.YtadkmhlohgeihaaDoor.K
open Go.RowKit Go.Proofs.YtadkmhlohgeihaaDoorW.PrintWords Go.Proofs.YtadkmhlohgeihaaDoorW.PrintLast Go.Proofs.YtadkmhlohgeihaaDoorW.PrintMore
attribute [local go_sem] max2_int min2_int max_two min_two max_three min_three max_four min_four   -- for this text's walks alone
set_option linter.unusedVariables false
set_option linter.unusedSimpArgs false

/-! ### impl_areWithin: function 37 -/
/-- What a closure over one bridge answers, in every later world. -/
def PredI (g : Nat) (lb : Array Value) (p : Int → Bool) (w : World) : Prop :=
  ∀ (W : World) (x : Int), Below w.heap.size w W → Calls Tryd.prog g (#[.int .i64 x] ++ lb) W fun e w' => e = .returned (.bool (p x)) ∧ Below w.heap.size w w'
def IdxPostI (b : Bool) (w : World) (e : Ending) (w' : World) : Prop := ∃ r : Int, decide (0 ≤ r) = b ∧ -1 ≤ r ∧ r ≤ 9223372036854775807 ∧ e = .returned (.int .i64 r) ∧ Below w.heap.size w w'
set_option maxHeartbeats 2000000 in
theorem IndexFuncI (g : Nat) (lb : Array Value) (eg : ∀ args w, (callFunc g args).run Tryd.prog w = .ok (.enter g args) w) (p : Int → Bool) (A : Option Addr) (c : Nat) (l : List Int) (w : World)
    (hp : PredI g lb p w) (hr : Kd.C (Kd.int .i64) w A l.length l) (hm : l.length ≤ 9223372036854775807) :
    Calls Tryd.prog 61 #[.slice A l.length c, .func (.func g) #[] lb] w (IdxPostI (l.any p) w) := by
  have HP := Aside0.mk hp
  have HR := Aside0.mk hr
  clear hp hr
  go_enter Tryd.func61, Tryd.ntmps61
  go_wp2
  go_loopg [5, 8] l.length (fun gg _ s8 wr => ∃ kk : Nat, kk ≤ l.length ∧ l.length - kk ≤ gg ∧ s8 = .int .i64 kk ∧ Aside0 (Below w.heap.size w wr) ∧ Aside0 ((l.take kk).any p = false))
  case atStart => exact ⟨0, Nat.zero_le _, by omega, rfl, ⟨Below.refl _ w⟩, ⟨by simp⟩⟩
  case round =>
    obtain ⟨kk, hkk, hg, rfl, BW, NA⟩ := hrel
    by_cases hlt : kk < l.length
    · have hltz : (kk : Int) < (l.length : Int) := by omega
      obtain ⟨ad, hA, h0⟩ := Kd.at_int (Kd.C_below HR.out BW.out) (kk : Int) (by omega) (by omega)
      have hcall := HP.out wr (rd l kk) BW.out
      have hx : (l.take (kk + 1)).any p = ((l.take kk).any p || p (rd l kk)) := by
        rw [List.take_succ_eq_append_getElem hlt, List.any_append]
        simp [rd, List.getD_eq_getElem?_getD, List.getElem?_eq_getElem hlt]
      subst hA
      rw [Int.toNat_natCast] at h0
      generalize rd l kk = y at h0 hcall hx
      have HX := Aside0.mk hx
      clear hx
      cases hq : p y with
      | true =>
        rw [hq] at hcall
        go_wp2_with (go_at_fn g; refine hcall.mono ?_; rintro e w' ⟨rfl, hb'⟩)
        go_ret
        exact ⟨(kk : Int), by
          have h1 : (l.take (kk + 1)).any p = true := by rw [HX.out, hq]; simp
          obtain ⟨z, hz, hpz⟩ := List.any_eq_true.mp h1
          have h2 : l.any p = true := List.any_eq_true.mpr ⟨z, List.mem_of_mem_take hz, hpz⟩
          rw [h2]; simp, by omega, by omega, rfl, hb'⟩
      | false =>
        rw [hq] at hcall
        go_wp2_with (go_at_fn g; refine hcall.mono ?_; rintro e w' ⟨rfl, hb'⟩)
        go_roundg (l.length - (kk + 1))
        case measure => omega
        case rel => exact ⟨kk + 1, by omega, by omega, by go_num, ⟨hb'⟩, ⟨by rw [HX.out, hq, NA.out]; rfl⟩⟩
    · go_wp2
      go_ret
      exact ⟨-1, by
        have h1 := NA.out
        rw [List.take_of_length_le (by omega)] at h1
        rw [h1]; rfl, by omega, by omega, rfl, BW.out⟩
set_option maxHeartbeats 2000000 in
theorem ContainsFuncI (g : Nat) (lb : Array Value) (eg : ∀ args w, (callFunc g args).run Tryd.prog w = .ok (.enter g args) w) (p : Int → Bool) (A : Option Addr) (c : Nat) (l : List Int) (w : World)
    (hp : PredI g lb p w) (hr : Kd.C (Kd.int .i64) w A l.length l) (hm : l.length ≤ 9223372036854775807) :
    Calls Tryd.prog 47 #[.slice A l.length c, .func (.func g) #[] lb] w fun e w' => e = .returned (.bool (l.any p)) ∧ Below w.heap.size w w' := by
  have HP := Aside0.mk hp
  have HR := Aside0.mk hr
  clear hp hr
  go_enter Tryd.func47, Tryd.ntmps47
  go_wp2_with fail
  refine (IndexFuncI g lb eg p A c l w HP.out HR.out hm).mono ?_
  rintro e w' ⟨r, hd, h1, h2, rfl, hb⟩
  go_wp2
  go_ret
  exact ⟨by rw [← hd]; rfl, hb⟩
def inI (lo hi a : Int) : Bool := decide (lo ≤ a ∧ a ≤ hi)
theorem within_i (a lo hi : Int) (w : World) : Calls Tryd.prog 36 #[.int .i64 a, .int .i64 lo, .int .i64 hi] w fun e w' => e = .returned (.bool (inI lo hi a)) ∧ w = w' := by
  by_cases h1 : lo ≤ a
  · by_cases h2 : a ≤ hi
    · go_enter Tryd.func36, Tryd.ntmps36
      go_wp2
      go_ret
      exact ⟨by simp [inI, h1, h2], rfl⟩
    · go_enter Tryd.func36, Tryd.ntmps36
      go_wp2
      go_ret
      exact ⟨by simp [inI, h2], rfl⟩
  · go_enter Tryd.func36, Tryd.ntmps36
    go_wp2
    go_ret
    exact ⟨by simp [inI]; omega, rfl⟩
def outI (lo hi n : Int) : Bool := !inI lo hi n
set_option maxHeartbeats 2000000 in
theorem outI_any (lo hi : Int) (B B2 : Nat) (w : World) (hB : B < w.heap.size) (hB2 : B2 < w.heap.size) (hc : w.cell? ⟨B, 0, none⟩ = some (.int .i64 lo)) (hc2 : w.cell? ⟨B2, 0, none⟩ = some (.int .i64 hi)) : PredI 48 #[.pointer (some ⟨B, 0, none⟩), .pointer (some ⟨B2, 0, none⟩)] (outI lo hi) w := by
  intro W x hb
  have hc' := (hb.cell (p := ⟨B, 0, none⟩) hB).trans hc
  have hc2' := (hb.cell (p := ⟨B2, 0, none⟩) hB2).trans hc2
  clear hc hc2
  have HH := Aside0.mk hb
  clear hb
  go_enter Tryd.func48, Tryd.ntmps48
  go_wp2_with (go_at_call 36; refine (within_i _ _ _ _).mono ?_; rintro e w' ⟨rfl, rfl⟩)
  go_ret
  exact ⟨rfl, HH.out⟩
theorem ret_bool {a b : Bool} (h : a = b) : Ending.returned (.bool a) = .returned (.bool b) := by rw [h]
def impl_areWithin.f (l0 : List Int) (a1 : Int) (a2 : Int) : Option Bool := some (l0.all fun n => decide (a1 ≤ n ∧ n ≤ a2))
set_option maxHeartbeats 2000000 in
theorem impl_areWithin.calls (A0 : Option Addr) (c0 : Nat) (l0 : List Int) (a1 : Int) (a2 : Int) (r : Bool) (w : World) (hr0 : Kd.C (Kd.int .i64) w A0 l0.length l0) (hc0 : l0.length ≤ c0) (h : impl_areWithin.f l0 a1 a2 = some r) :
    Calls Tryd.prog 37 #[.slice A0 l0.length c0, .int .i64 a1, .int .i64 a2] w fun e w' => e = .returned (.bool r) ∧ Below w.heap.size w w' := by
  have hm := Kd.C_max hr0
  have HR := Aside0.mk hr0
  clear hr0 hc0
  obtain rfl := Option.some.inj h
  clear h
  go_enter Tryd.func37, Tryd.ntmps37
  go_wp2_with fail
  refine (ContainsFuncI 48 _ (enters_of Tryd.func48 (by kernel_rfl) rfl) (outI a1 a2) _ _ _ _ (outI_any a1 a2 w.heap.size (w.heap.size + 1) _ (by simp; omega) (by simp) ((blk_cell (blk_alloc (blk_new w _) _) 0).trans rfl) (by simp)) (Kd.C_alloc (Kd.C_alloc HR.out _) _) hm).mono ?_
  rintro e w' ⟨rfl, hb⟩
  go_wp2
  go_ret
  exact ⟨ret_bool (by rw [Bool.eq_iff_iff]; simp [outI, inI]), (((Below.refl _ _).alloc (Nat.le_refl _) _).alloc (by simp) _).trans (hb.mono (by simp; omega))⟩

end Go.Proofs.YtadkmhlohgeihaaDoor.K
