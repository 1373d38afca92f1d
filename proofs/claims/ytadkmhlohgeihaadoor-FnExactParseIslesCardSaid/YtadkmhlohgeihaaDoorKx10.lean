/- Go functions of this seat as plain functions, each with the proof that its call comes to what that function says: written by this session's program (wip/drive.py) out of the translation, by the kit's printer and by texts of our own; no conditions. -/
import Derived.Test.YtadkmhlohgeihaaDoorKx0
import Derived.Outline
import Derived.Shelf.Abstract
namespace Go.Proofs.YtadkmhlohgeihaaDoor.K
open Go.RowKit Go.Proofs.YtadkmhlohgeihaaDoorW.PrintWords Go.Proofs.YtadkmhlohgeihaaDoorW.PrintLast Go.Proofs.YtadkmhlohgeihaaDoorW.PrintMore
attribute [local go_sem] max2_int min2_int max_two min_two max_three min_three max_four min_four   -- for this text's walks alone
set_option linter.unusedVariables false
set_option linter.unusedSimpArgs false

/-! ### impl_AreIsles: function 24 -/
/-- What a closure over one bridge answers, in every later world. -/
def PredB (g : Nat) (lb : Array Value) (p : S46 → Bool) (w : World) : Prop :=
  ∀ (W : World) (x : S46), Below w.heap.size w W → Calls Tryd.prog g (#[.agg #[.int .i64 x.f0, .int .i64 x.f1, .int .i64 x.f2]] ++ lb) W fun e w' => e = .returned (.bool (p x)) ∧ Below w.heap.size w w'
def IdxPost (b : Bool) (w : World) (e : Ending) (w' : World) : Prop := ∃ r : Int, decide (0 ≤ r) = b ∧ -1 ≤ r ∧ r ≤ 9223372036854775807 ∧ e = .returned (.int .i64 r) ∧ Below w.heap.size w w'
set_option maxHeartbeats 2000000 in
theorem IndexFuncB (g : Nat) (lb : Array Value) (eg : ∀ args w, (callFunc g args).run Tryd.prog w = .ok (.enter g args) w) (p : S46 → Bool) (A : Option Addr) (c : Nat) (l : List S46) (w : World)
    (hp : PredB g lb p w) (hr : Kd.C k46 w A l.length l) (hm : l.length ≤ 9223372036854775807) :
    Calls Tryd.prog 54 #[.slice A l.length c, .func (.func g) #[] lb] w (IdxPost (l.any p) w) := by
  have HP := Aside0.mk hp
  have HR := Aside0.mk hr
  clear hp hr
  go_enter Tryd.func54, Tryd.ntmps54
  go_wp2
  go_loopg [5, 8] l.length (fun gg _ s8 wr => ∃ kk : Nat, kk ≤ l.length ∧ l.length - kk ≤ gg ∧ s8 = .int .i64 kk ∧ Aside0 (Below w.heap.size w wr) ∧ Aside0 ((l.take kk).any p = false))
  case atStart => exact ⟨0, Nat.zero_le _, by omega, rfl, ⟨Below.refl _ w⟩, ⟨by simp⟩⟩
  case round =>
    obtain ⟨kk, hkk, hg, rfl, BW, NA⟩ := hrel
    by_cases hlt : kk < l.length
    · have hltz : (kk : Int) < (l.length : Int) := by omega
      obtain ⟨ad, hA, h0, h1, h2⟩ := at_T46 (Kd.C_below HR.out BW.out) (kk : Int) (by omega) (by omega)
      have hcall := HP.out wr (rd_T46 l kk) BW.out
      have hx : (l.take (kk + 1)).any p = ((l.take kk).any p || p (rd_T46 l kk)) := by
        rw [List.take_succ_eq_append_getElem hlt, List.any_append]
        simp [rd_T46, List.getD_eq_getElem?_getD, List.getElem?_eq_getElem hlt]
      subst hA
      rw [Int.toNat_natCast] at h0 h1 h2
      generalize rd_T46 l kk = y at h0 h1 h2 hcall hx
      have HX := Aside0.mk hx
      clear hx
      cases hq : p y with
      | true =>
        rw [hq] at hcall
        go_wp2_with (go_at_fn g; refine hcall.mono ?_; rintro e w' ⟨rfl, hb'⟩)
        go_ret
        exact ⟨(kk : Int), by
          have h1 : (l.take (kk + 1)).any p = true := by rw [HX.out, hq]; simp
          obtain ⟨z, hz, hpz⟩ := List.any_eq_true.mp h1
          have h2 : l.any p = true := List.any_eq_true.mpr ⟨z, List.mem_of_mem_take hz, hpz⟩
          rw [h2]; simp, by omega, by omega, rfl, hb'⟩
      | false =>
        rw [hq] at hcall
        go_wp2_with (go_at_fn g; refine hcall.mono ?_; rintro e w' ⟨rfl, hb'⟩)
        go_roundg (l.length - (kk + 1))
        case measure => omega
        case rel => exact ⟨kk + 1, by omega, by omega, by go_num, ⟨hb'⟩, ⟨by rw [HX.out, hq, NA.out]; rfl⟩⟩
    · go_wp2
      go_ret
      exact ⟨-1, by
        have h1 := NA.out
        rw [List.take_of_length_le (by omega)] at h1
        rw [h1]; rfl, by omega, by omega, rfl, BW.out⟩
set_option maxHeartbeats 2000000 in
theorem ContainsFuncB (g : Nat) (lb : Array Value) (eg : ∀ args w, (callFunc g args).run Tryd.prog w = .ok (.enter g args) w) (p : S46 → Bool) (A : Option Addr) (c : Nat) (l : List S46) (w : World)
    (hp : PredB g lb p w) (hr : Kd.C k46 w A l.length l) (hm : l.length ≤ 9223372036854775807) :
    Calls Tryd.prog 42 #[.slice A l.length c, .func (.func g) #[] lb] w fun e w' => e = .returned (.bool (l.any p)) ∧ Below w.heap.size w w' := by
  have HP := Aside0.mk hp
  have HR := Aside0.mk hr
  clear hp hr
  go_enter Tryd.func42, Tryd.ntmps42
  go_wp2_with fail
  refine (IndexFuncB g lb eg p A c l w HP.out HR.out hm).mono ?_
  rintro e w' ⟨r, hd, h1, h2, rfl, hb⟩
  go_wp2
  go_ret
  exact ⟨by rw [← hd]; rfl, hb⟩
def inB (a lo hi : Int) : Bool := decide (lo ≤ a ∧ a ≤ hi)
theorem within_b (a lo hi : Int) (w : World) : Calls Tryd.prog 36 #[.int .i64 a, .int .i64 lo, .int .i64 hi] w fun e w' => e = .returned (.bool (inB a lo hi)) ∧ w = w' := by
  by_cases h1 : lo ≤ a
  · by_cases h2 : a ≤ hi
    · go_enter Tryd.func36, Tryd.ntmps36
      go_wp2
      go_ret
      exact ⟨by simp [inB, h1, h2], rfl⟩
    · go_enter Tryd.func36, Tryd.ntmps36
      go_wp2
      go_ret
      exact ⟨by simp [inB, h2], rfl⟩
  · go_enter Tryd.func36, Tryd.ntmps36
    go_wp2
    go_ret
    exact ⟨by simp [inB]; omega, rfl⟩
def badB (n : Int) (b : S46) : Bool := !inB b.f0 0 (wrap64 (b.f1 - 1)) || (!inB b.f1 1 (wrap64 (n - 1)) || !inB b.f2 0 1000)
set_option maxHeartbeats 2000000 in
theorem badB_any (n : Int) (B : Nat) (t : TypeId) (w : World) (hB : B < w.heap.size) (hc : w.cell? ⟨B, 0, none⟩ = some (.int .i64 n)) : PredB 43 #[.pointer (some ⟨B, 0, none⟩)] (badB n) w := by
  intro W x hb
  have hc' := (hb.cell (p := ⟨B, 0, none⟩) hB).trans hc
  clear hc
  have hsz := hb.size
  have hBW : B < W.heap.size := by omega
  have HH := Aside0.mk hb
  clear hb hsz
  obtain ⟨f0, f1, f2⟩ := x
  dsimp only [badB]
  cases h1 : inB f0 0 (wrap64 (f1 - 1)) with
  | false =>
    go_enter Tryd.func43, Tryd.ntmps43
    go_wp2_with (go_at_call 36; refine (within_b _ _ _ _).mono ?_; rintro e w' ⟨rfl, rfl⟩)
    go_ret
    exact ⟨rfl, HH.out.trans ((Below.refl _ _).alloc HH.out.size _)⟩
  | true =>
  cases h2 : inB f1 1 (wrap64 (n - 1)) with
  | false =>
    go_enter Tryd.func43, Tryd.ntmps43
    go_wp2_with (go_at_call 36; refine (within_b _ _ _ _).mono ?_; rintro e w' ⟨rfl, rfl⟩)
    go_ret
    exact ⟨rfl, HH.out.trans ((Below.refl _ _).alloc HH.out.size _)⟩
  | true =>
    cases h3 : inB f2 0 1000 with
    | false =>
      go_enter Tryd.func43, Tryd.ntmps43
      go_wp2_with (go_at_call 36; refine (within_b _ _ _ _).mono ?_; rintro e w' ⟨rfl, rfl⟩)
      go_ret
      exact ⟨rfl, HH.out.trans ((Below.refl _ _).alloc HH.out.size _)⟩
    | true =>
      go_enter Tryd.func43, Tryd.ntmps43
      go_wp2_with (go_at_call 36; refine (within_b _ _ _ _).mono ?_; rintro e w' ⟨rfl, rfl⟩)
      go_ret
      exact ⟨rfl, HH.out.trans ((Below.refl _ _).alloc HH.out.size _)⟩
def impl_AreIsles.f (a0_0 : Int) (l0_1 : List S46) : Option Bool := some (inB a0_0 1 7 && (decide (l0_1.length ≤ 14) && !l0_1.any (badB a0_0)))
set_option maxHeartbeats 2000000 in
theorem impl_AreIsles.calls (a0_0 : Int) (A0_1 : Option Addr) (c0_1 : Nat) (l0_1 : List S46) (r : Bool) (w : World) (hr0_1 : Kd.C k46 w A0_1 l0_1.length l0_1) (hc0_1 : l0_1.length ≤ c0_1) (h : impl_AreIsles.f a0_0 l0_1 = some r) :
    Calls Tryd.prog 24 #[.agg #[.int .i64 a0_0, .slice A0_1 l0_1.length c0_1]] w fun e w' => e = .returned (.bool r) ∧ Below w.heap.size w w' := by
  have hm := Kd.C_max hr0_1
  have HR := Aside0.mk hr0_1
  have HC := Aside0.mk hc0_1
  clear hr0_1 hc0_1
  obtain rfl := Option.some.inj h
  clear h
  cases h1 : inB a0_0 1 7 with
  | false =>
    go_enter Tryd.func24, Tryd.ntmps24
    go_wp2_with (go_at_call 36; refine (within_b _ _ _ _).mono ?_; rintro e w' ⟨rfl, rfl⟩)
    go_ret
    exact ⟨rfl, (Below.refl _ _).alloc (Nat.le_refl _) _⟩
  | true =>
  by_cases h2 : l0_1.length ≤ 14
  · have hb2 : decide (l0_1.length ≤ 14) = true := decide_eq_true h2
    go_enter Tryd.func24, Tryd.ntmps24
    go_wp2_with (first | (go_at_call 36; refine (within_b _ _ _ _).mono ?_; rintro e w' ⟨rfl, rfl⟩) | fail)
    refine (ContainsFuncB 43 _ (enters_of Tryd.func43 (by kernel_rfl) rfl) (badB a0_0) _ _ _ _ (badB_any a0_0 w.heap.size 0 _ (by simp) (by go_simp)) (Kd.C_alloc HR.out _) hm).mono ?_
    rintro e w' ⟨rfl, hb⟩
    go_wp2
    go_ret
    exact ⟨by simp [hb2], ((Below.refl _ _).alloc (Nat.le_refl _) _).trans (hb.mono (by simp))⟩
  · have hb2 : decide (l0_1.length ≤ 14) = false := decide_eq_false h2
    go_enter Tryd.func24, Tryd.ntmps24
    go_wp2_with (go_at_call 36; refine (within_b _ _ _ _).mono ?_; rintro e w' ⟨rfl, rfl⟩)
    go_ret
    exact ⟨by simp [hb2], (Below.refl _ _).alloc (Nat.le_refl _) _⟩

end Go.Proofs.YtadkmhlohgeihaaDoor.K
