/- Go functions of this seat as plain functions, each with the proof that its call comes to what that function says: written by this session's program (wip/drive.py) out of the translation, by the kit's printer and by texts of our own; no conditions. -/
import Derived.Test.YtlgbafblbgaoiaaDoorKx0
import Derived.Test.YtlgbafblbgaoiaaDoorKx2
import Derived.Laws.IdiomStrings
namespace Go.Proofs.YtlgbafblbgaoiaaDoor.K
open Go.RowKit Go.Proofs.YtlgbafblbgaoiaaDoorW.PrintWords Go.Proofs.YtlgbafblbgaoiaaDoorW.PrintLast Go.Proofs.YtlgbafblbgaoiaaDoorW.PrintMore
attribute [local go_sem] max2_int min2_int max_two min_two max_three min_three max_four min_four   -- for this text's walks alone
set_option linter.unusedVariables false
set_option linter.unusedSimpArgs false

/-! ### spec_siRiver: function 34 -/
def spec_siRiver.l0 : Nat → ByteArray → ByteArray → Int → Option (ByteArray)
  | 0, _, _, _ => none
  | k + 1, x0, x3, x4 => if x4 < (x0.size : Int) then (if 0 ≤ x4 then (if (bt x0 x4) = 48 then (if x3.size + 1 ≤ 9223372036854775807 then (spec_siRiver.l0 k x0 (x3 ++ (⟨#[46]⟩ : ByteArray)) (wrap64 (x4 + 1))) else (none)) else (if x3.size + 1 ≤ 9223372036854775807 then (spec_siRiver.l0 k x0 (x3 ++ (⟨#[111]⟩ : ByteArray)) (wrap64 (x4 + 1))) else (none))) else (none)) else (some x3)
def spec_siRiver.f (k : Nat) (a0 : ByteArray) : Option (ByteArray) := spec_siRiver.l0 k a0 (⟨#[]⟩ : ByteArray) 0
theorem spec_siRiver.mono_l : ∀ k, (∀ y0 y1 y2, LeO (spec_siRiver.l0 k y0 y1 y2) (spec_siRiver.l0 (k + 1) y0 y1 y2))
  | 0 => fun _ _ _ r h => by simp [spec_siRiver.l0] at h
  | k + 1 => by
    have ih0 := spec_siRiver.mono_l k
    · intro y0 y1 y2
      unfold spec_siRiver.l0
      repeat' first
      | (with_reducible exact ih0 _ _ _)
      | (with_reducible exact LeO.refl _)
      | (with_reducible exact LeO.none _)
      | (with_reducible refine LeO.ite ?_ ?_)
      | (with_reducible refine LeO.bind ?_ (fun _ => ?_))
      | exact ih0 _ _ _
      | exact LeO.none _
      | refine LeO.ite ?_ ?_
      | refine LeO.bind ?_ (fun _ => ?_)
theorem spec_siRiver.mono : ∀ a0 k, LeO (spec_siRiver.f k a0) (spec_siRiver.f (k + 1) a0) := by
  intro a0 k
  have ih0 := spec_siRiver.mono_l k
  unfold spec_siRiver.f
  repeat' first
      | (with_reducible exact ih0 _ _ _)
      | (with_reducible exact LeO.refl _)
      | (with_reducible exact LeO.none _)
      | (with_reducible refine LeO.ite ?_ ?_)
      | (with_reducible refine LeO.bind ?_ (fun _ => ?_))
      | exact ih0 _ _ _
      | exact LeO.none _
      | refine LeO.ite ?_ ?_
      | refine LeO.bind ?_ (fun _ => ?_)
set_option maxHeartbeats 8000000 in
set_option maxRecDepth 100000 in
theorem spec_siRiver.calls (k : Nat) (a0 : ByteArray) (r : ByteArray) (w : World) (h : spec_siRiver.f k a0 = some r) :
    Calls Tryd.prog 34 #[.string a0] w fun e w' => e = .returned (.string r) ∧ Drawn0 w w' := by
  have H : (spec_siRiver.l0 k a0 (⟨#[]⟩ : ByteArray) 0) = some r := h
  clear h
  have H' := Aside0.mk H
  clear H
  go_enter Tryd.func34, Tryd.ntmps34
  go_wp2
  go_loopg [3, 4] k (fun kq v3 v4 w' => ∃ (x3_1 : ByteArray) (x4_1 : Int), v3 = .string x3_1 ∧ v4 = .int .i64 x4_1 ∧ Aside0 (spec_siRiver.l0 kq a0 x3_1 x4_1 = some r) ∧ Aside0 (kq ≤ k) ∧ Drawn0 w w')
  case atStart => exact ⟨((⟨#[]⟩ : ByteArray)), (0), (by first | rfl | (simp; done) | (simp [*]; done)), (by first | rfl | (simp; done) | (simp [*]; done)), H', ⟨Nat.le_refl _⟩, by repeat (first | exact Drawn0.refl _ | apply Drawn0.step)⟩
  case round =>
    clear H'
    obtain ⟨x3_1, x4_1, rfl, rfl, HA, HK1, ⟨m1, rfl⟩⟩ := hrel
    cases gk with
    | zero => exact absurd HA.out (by simp [spec_siRiver.l0])
    | succ k1 =>
      have H := HA.out
      clear HA
      simp only [spec_siRiver.l0] at H
      by_cases c2 : x4_1 < (a0.size : Int)
      · rw [if_pos c2] at H
        have c2b0 : decide (x4_1 < (a0.size : Int)) = true := decide_eq_true c2
        clear c2
        by_cases c3 : 0 ≤ x4_1
        · rw [if_pos c3] at H
          have c3b0 : decide (0 ≤ x4_1) = true := decide_eq_true c3
          clear c3
          by_cases c5 : (bt a0 x4_1) = 48
          · rw [if_pos c5] at H
            have c5b0 : ((bt a0 x4_1) == 48) = true := beq_iff_eq.mpr c5
            have c5b1 : ((bt a0 x4_1) != 48) = false := bne_eq_false_iff_eq.mpr c5
            clear c5
            by_cases c6 : x3_1.size + 1 ≤ 9223372036854775807
            · rw [if_pos c6] at H
              have c6b0 := eq_true c6
              have c6b1 : decide (x3_1.size + 1 ≤ 9223372036854775807) = true := decide_eq_true c6
              try have c6b2 : (9223372036854775807 < x3_1.size + 1) = False := eq_false (Nat.not_lt.2 c6)
              have H' := Aside0.mk H
              clear H
              have p4 : 0 ≤ (x4_1 : Int) := of_decide_eq_true (by first | (with_reducible assumption) | assumption)
              have q4 : x4_1 < (a0.size : Int) := of_decide_eq_true (by first | (with_reducible assumption) | assumption)
              have hx4 := bt_at a0 x4_1
              replace p4 := eq_true p4
              replace q4 := eq_true q4
              go_wp2
              go_roundg k1
              case measure => have := HK1.out; omega
              case rel => exact ⟨(x3_1 ++ (⟨#[46]⟩ : ByteArray)), (wrap64 (x4_1 + 1)), (by first | rfl | (simp; done) | (simp [*]; done)), (by first | rfl | (simp; done) | (simp [*]; done)), H', ⟨by have := HK1.out; omega⟩, by repeat (first | exact Drawn0.refl _ | apply Drawn0.step)⟩
            · rw [if_neg c6] at H
              exact absurd H (by simp)
          · rw [if_neg c5] at H
            have c5b0 : ((bt a0 x4_1) == 48) = false := beq_eq_false_iff_ne.mpr c5
            have c5b1 : ((bt a0 x4_1) != 48) = true := bne_iff_ne.mpr c5
            by_cases c7 : x3_1.size + 1 ≤ 9223372036854775807
            · rw [if_pos c7] at H
              have c7b0 := eq_true c7
              have c7b1 : decide (x3_1.size + 1 ≤ 9223372036854775807) = true := decide_eq_true c7
              try have c7b2 : (9223372036854775807 < x3_1.size + 1) = False := eq_false (Nat.not_lt.2 c7)
              have H' := Aside0.mk H
              clear H
              have p4 : 0 ≤ (x4_1 : Int) := of_decide_eq_true (by first | (with_reducible assumption) | assumption)
              have q4 : x4_1 < (a0.size : Int) := of_decide_eq_true (by first | (with_reducible assumption) | assumption)
              have hx4 := bt_at a0 x4_1
              replace p4 := eq_true p4
              replace q4 := eq_true q4
              go_wp2
              go_roundg k1
              case measure => have := HK1.out; omega
              case rel => exact ⟨(x3_1 ++ (⟨#[111]⟩ : ByteArray)), (wrap64 (x4_1 + 1)), (by first | rfl | (simp; done) | (simp [*]; done)), (by first | rfl | (simp; done) | (simp [*]; done)), H', ⟨by have := HK1.out; omega⟩, by repeat (first | exact Drawn0.refl _ | apply Drawn0.step)⟩
            · rw [if_neg c7] at H
              exact absurd H (by simp)
        · rw [if_neg c3] at H
          exact absurd H (by simp)
      · rw [if_neg c2] at H
        have c2b0 : decide (x4_1 < (a0.size : Int)) = false := decide_eq_false c2
        clear c2
        obtain rfl := Option.some.inj H
        go_wp2
        go_ret
        exact ⟨by first | rfl | (simp; done) | (simp [*]; done), by repeat (first | exact Drawn0.refl _ | apply Drawn0.step)⟩

/-! ### spec_RiverOf: function 20 -/
def spec_RiverOf.f (k : Nat) (a0 : ByteArray) : Option (ByteArray × Bool) := (spec_siGood.f k a0).bind fun t117 => (if t117 = true then ((spec_siRiver.f k a0).bind fun t118 => (some (t118, true))) else (some ((⟨#[]⟩ : ByteArray), false)))
theorem spec_RiverOf.mono : ∀ a0 k, LeO (spec_RiverOf.f k a0) (spec_RiverOf.f (k + 1) a0) := by
  intro a0 k
  unfold spec_RiverOf.f
  repeat' first
      | (with_reducible exact spec_siGood.mono _ _)
      | (with_reducible exact spec_siRiver.mono _ _)
      | (with_reducible exact LeO.refl _)
      | (with_reducible exact LeO.none _)
      | (with_reducible refine LeO.ite ?_ ?_)
      | (with_reducible refine LeO.bind ?_ (fun _ => ?_))
      | exact spec_siGood.mono _ _
      | exact spec_siRiver.mono _ _
      | exact LeO.none _
      | refine LeO.ite ?_ ?_
      | refine LeO.bind ?_ (fun _ => ?_)
set_option maxHeartbeats 8000000 in
set_option maxRecDepth 100000 in
theorem spec_RiverOf.calls (k : Nat) (a0 : ByteArray) (r1 : ByteArray) (r2 : Bool) (w : World) (h : spec_RiverOf.f k a0 = some (r1, r2)) :
    Calls Tryd.prog 20 #[.string a0] w fun e w' => e = .returned (.tuple #[.string r1, .bool r2]) ∧ Drawn0 w w' := by
  have H : ((spec_siGood.f k a0).bind fun t117 => (if t117 = true then ((spec_siRiver.f k a0).bind fun t118 => (some (t118, true))) else (some ((⟨#[]⟩ : ByteArray), false)))) = some (r1, r2) := h
  clear h
  replace H := Option.bind_eq_some_iff.mp H
  obtain ⟨t117, A20, H⟩ := H
  replace H : (if t117 = true then ((spec_siRiver.f k a0).bind fun t118 => (some (t118, true))) else (some ((⟨#[]⟩ : ByteArray), false))) = some (r1, r2) := H
  have A2 := Aside0.mk A20
  clear A20
  by_cases c3 : t117 = true
  · subst c3
    have H1 : ((spec_siRiver.f k a0).bind fun t118 => (some (t118, true))) = some (r1, r2) := by rw [if_pos rfl] at H; exact H
    clear H
    have H := H1
    clear H1
    replace H := Option.bind_eq_some_iff.mp H
    obtain ⟨t118, A40, H⟩ := H
    replace H : (some (t118, true)) = some (r1, r2) := H
    have A4 := Aside0.mk A40
    clear A40
    simp only [Option.some.injEq, Prod.mk.injEq] at H
    obtain ⟨rfl, rfl⟩ := H
    go_enter Tryd.func20, Tryd.ntmps20
    go_wp2_with (first | ((with_reducible refine gate_callee (f := 24) rfl ?_); refine goesL_ (some 5) rfl rfl Tryd.func24 (by kernel_rfl) rfl #[.string a0] rfl (by (try simp only [List.map_toArray, List.map_cons, List.map_nil]); first | done | rfl | (simp only [List.length_drop, List.length_take]; rfl)) ?_; (with_reducible refine (spec_siGood.calls k a0 true _ A2.out).mono ?_); rintro e w' ⟨rfl, ⟨nd, rfl⟩⟩; refine ⟨_, rfl, ?_⟩) | ((with_reducible refine gate_callee (f := 34) rfl ?_); refine goesL_ (some 8) rfl rfl Tryd.func34 (by kernel_rfl) rfl #[.string a0] rfl (by (try simp only [List.map_toArray, List.map_cons, List.map_nil]); first | done | rfl | (simp only [List.length_drop, List.length_take]; rfl)) ?_; (with_reducible refine (spec_siRiver.calls k a0 t118 _ A4.out).mono ?_); rintro e w' ⟨rfl, ⟨nd, rfl⟩⟩; refine ⟨_, rfl, ?_⟩))
    go_ret2
    exact ⟨by first | rfl | (simp; done) | (simp [*]; done), by repeat (first | exact Drawn0.refl _ | apply Drawn0.step)⟩
  · replace c3 := Bool.eq_false_iff.mpr c3
    subst c3
    have H1 : (some ((⟨#[]⟩ : ByteArray), false)) = some (r1, r2) := by rw [if_neg (show ¬ (false = true) by decide)] at H; exact H
    clear H
    have H := H1
    clear H1
    simp only [Option.some.injEq, Prod.mk.injEq] at H
    obtain ⟨rfl, rfl⟩ := H
    go_enter Tryd.func20, Tryd.ntmps20
    go_wp2_with (first | ((with_reducible refine gate_callee (f := 24) rfl ?_); refine goesL_ (some 5) rfl rfl Tryd.func24 (by kernel_rfl) rfl #[.string a0] rfl (by (try simp only [List.map_toArray, List.map_cons, List.map_nil]); first | done | rfl | (simp only [List.length_drop, List.length_take]; rfl)) ?_; (with_reducible refine (spec_siGood.calls k a0 false _ A2.out).mono ?_); rintro e w' ⟨rfl, ⟨nd, rfl⟩⟩; refine ⟨_, rfl, ?_⟩))
    go_ret2
    exact ⟨by first | rfl | (simp; done) | (simp [*]; done), by repeat (first | exact Drawn0.refl _ | apply Drawn0.step)⟩

/-! ### impl_plain: function 35 -/
/-- A row of bytes that a call has made; what of it is marked lies behind its first n cells. -/
def BRow (W : World) (B n : Nat) (xs : List Int) : Prop := xs.length = n ∧ ∃ (cur : Array Value) (t : TypeId) (fz : Nat × Nat), W.heap[B]? = some (.cells cur t fz) ∧ n ≤ fz.1 ∧ ∀ i, i < n → cur[i]? = some (.int .u8 (xs.getD i 0))
def intsOf (s : ByteArray) : List Int := s.data.toList.map fun b => (b.toNat : Int)
theorem intsOf_length (s : ByteArray) : (intsOf s).length = s.size := by simp [intsOf]
theorem BRow.cell {W : World} {B n i : Nat} {xs : List Int} (h : BRow W B n xs) (hi : i < n) : W.cell? ⟨B, i, none⟩ = some (.int .u8 (xs.getD i 0)) := by
  obtain ⟨_, cur, t, fz, hb, _, hc⟩ := h
  rw [cell_of_row W B i cur t fz hb]
  exact hc i hi
theorem BRow.frozen {W : World} {B n i : Nat} {xs : List Int} (h : BRow W B n xs) (hi : i < n) : W.frozen? ⟨B, i, none⟩ = false := by
  obtain ⟨_, cur, t, fz, hb, hf, _⟩ := h
  simp only [World.frozen?, hb]
  simp
  omega
theorem BRow.set {W : World} {B n i : Nat} {xs : List Int} (h : BRow W B n xs) (hi : i < n) (v : Int) : BRow (W.setCell ⟨B, i, none⟩ (.int .u8 v)) B n (xs.set i v) := by
  obtain ⟨hl, cur, t, fz, hb, hf, hc⟩ := h
  refine ⟨by rw [List.length_set]; exact hl, cur.setIfInBounds i (.int .u8 v), t, fz, by simp [World.setCell, Array.getElem?_modify, hb], hf, fun j hj => ?_⟩
  rw [Array.getElem?_setIfInBounds, List.getD_eq_getElem?_getD]
  by_cases e : i = j
  · subst e
    have : i < cur.size := (Array.getElem?_eq_some_iff.1 (hc i hi)).1
    rw [if_pos rfl, if_pos this, List.getElem?_set_self (by omega)]
    rfl
  · rw [if_neg e, List.getElem?_set_ne e, ← List.getD_eq_getElem?_getD]
    exact hc j hj
theorem BRow.step {W W' : World} {B n : Nat} {xs : List Int} (h : BRow W B n xs) (e : W'.heap[B]? = W.heap[B]?) : BRow W' B n xs := by
  obtain ⟨hl, cur, t, fz, hb, hf, hc⟩ := h
  exact ⟨hl, cur, t, fz, e.trans hb, hf, hc⟩
theorem BRow.back {W : World} {B n : Nat} {xs : List Int} (h : BRow W B n xs) (cap : Nat) : (convert 44 9 (.slice (some ⟨B, 0, none⟩) n cap)).run Tryd.prog W = .ok (.string (strOfNums xs)) W := by
  refine run_convert_bytes_arg W 44 5 Tryd.underlying44 Tryd.underlying5 B 0 n cap xs h.1 (fun i hi => ?_) 9 Tryd.underlying9
  have ha : (⟨B, 0, none⟩ : Addr).add i = ⟨B, 0 + i, none⟩ := by unfold Addr.add; split <;> simp_all
  first
  | (rw [ha, Nat.zero_add]; exact h.cell (by omega))
  | (rw [Nat.zero_add]; exact h.cell (by omega))
theorem BRow.make (s : ByteArray) (w : World) : ∃ (cap : Nat) (w3 : World), (convert 9 44 (.string s)).run Tryd.prog w = .ok (.slice (some ⟨w.heap.size, 0, none⟩) s.size cap) w3 ∧ BRow w3 w.heap.size s.size (intsOf s) ∧ Below w.heap.size w w3 := by
  have hg := grownCap_ge w s.size 0 5
  refine ⟨_, _, run_bytes_of_string w 9 44 5 s Tryd.underlying9 Tryd.underlying44 Tryd.underlying5, ⟨intsOf_length s, _, _, _, heap_alloc_new _ _, ?_, fun i hi => ?_⟩, below_alloc (below_drew1 (Below.refl _ _)) _⟩
  · simp only [bytesRow]
    first
    | (simp; done)
    | (simp; omega)
  · rw [bytesRow_at s _ i hi]
    simp only [intsOf, List.getD_eq_getElem?_getD]
    have hi' : i < s.data.size := hi
    simp [Array.getElem?_eq_getElem hi']
theorem BRow.at_ {W : World} {B n i : Nat} {l : List Int} {f : Int → Int} (h : BRow W B n ((l.take i).map f ++ l.drop i)) (hl : l.length = n) (hi : i < n) : W.cell? ⟨B, i, none⟩ = some (.int .u8 (rd l i)) := by
  rw [h.cell hi]
  have : (((l.take i).map f ++ l.drop i).getD i 0) = rd l i := by
    simp only [rd, List.getD_eq_getElem?_getD, Int.toNat_natCast]
    rw [List.getElem?_append_right (by simp; omega)]
    have e : min i l.length = i := by omega
    simp [e]
  rw [this]
theorem mapped_step {l : List Int} {f : Int → Int} {i : Nat} (hi : i < l.length) : ((l.take i).map f ++ l.drop i).set i (f (rd l i)) = (l.take (i + 1)).map f ++ l.drop (i + 1) := by
  have e : rd l i = l[i] := by simp [rd, List.getD_eq_getElem?_getD, List.getElem?_eq_getElem hi]
  rw [e, List.drop_eq_getElem_cons hi, List.set_append_right _ _ (by simp; omega), List.take_succ_eq_append_getElem hi]
  have e2 : i - ((l.take i).map f).length = 0 := by simp; omega
  rw [e2, List.set_cons_zero, List.map_append, List.append_assoc]
  rfl
theorem mapped_end {l : List Int} {f : Int → Int} {i : Nat} (hi : l.length ≤ i) : (l.take i).map f ++ l.drop i = l.map f := by
  rw [List.take_of_length_le hi, List.drop_of_length_le hi, List.append_nil]
def plainB (c : Int) : Int := if c = 48 then 46 else 111
def impl_plain.f (s : ByteArray) : Option ByteArray := if s.size ≤ 9223372036854775807 then some (strOfNums ((intsOf s).map plainB)) else none
set_option maxHeartbeats 4000000 in
theorem impl_plain.calls (a0 : ByteArray) (r : ByteArray) (w : World) (h : impl_plain.f a0 = some r) :
    Calls Tryd.prog 35 #[.string a0] w fun e w' => e = .returned (.string r) ∧ Below w.heap.size w w' := by
  unfold impl_plain.f at h
  have hm : a0.size ≤ 9223372036854775807 := by
    by_cases hm : a0.size ≤ 9223372036854775807
    · exact hm
    · rw [if_neg hm] at h
      cases h
  rw [if_pos hm] at h
  obtain rfl := Option.some.inj h
  clear h
  obtain ⟨cap, w3, hmk, hrow, hbel⟩ := BRow.make a0 w
  obtain ⟨l, hl⟩ : ∃ l, l = intsOf a0 := ⟨_, rfl⟩
  have hn : l.length = a0.size := by rw [hl]; exact intsOf_length a0
  rw [← hl] at hrow ⊢
  have HN := Aside0.mk hn
  have HR := Aside0.mk hrow
  have HB := Aside0.mk hbel
  obtain ⟨n, en⟩ : ∃ n, n = a0.size := ⟨_, rfl⟩
  obtain ⟨B, eB⟩ : ∃ B, B = w.heap.size := ⟨_, rfl⟩
  rw [← en] at hmk HR HN hm
  rw [← eB] at hmk HR HB ⊢
  have EN := Aside0.mk en
  have EB := Aside0.mk eB
  clear hn hrow hbel hl en eB
  go_enter Tryd.func35, Tryd.ntmps35
  go_wp2
  go_loopg [10] n (fun gg v10 wr => ∃ i : Nat, i ≤ n ∧ n - i ≤ gg ∧ v10 = .int .i64 i ∧ Aside0 (BRow wr B n ((l.take i).map plainB ++ l.drop i)) ∧ Aside0 (Below B w wr))
  case atStart => exact ⟨0, Nat.zero_le _, by omega, rfl, ⟨by simpa using HR.out⟩, HB⟩
  case round =>
    obtain ⟨i, hi, hg, rfl, HR, HB⟩ := hrel
    by_cases hlt : i < n
    · have hltz : (i : Int) < (n : Int) := by omega
      have h0 := HR.out.at_ HN.out hlt
      have hf := HR.out.frozen hlt
      obtain ⟨y, hy⟩ : ∃ y, y = rd l i := ⟨_, rfl⟩
      have HM := Aside0.mk (mapped_step (f := plainB) (i := i) (l := l) (by have := HN.out; omega))
      rw [← hy] at h0 HM
      clear hy
      by_cases c : y = 48
      · have c0 : (y == 48) = true := by simp [c]
        go_wp2
        go_roundg (n - (i + 1))
        case measure => omega
        case rel => exact ⟨i + 1, by omega, by omega, by go_num, ⟨by
          have h := (HR.out.set hlt 111).set hlt 46
          rw [List.set_set] at h
          rw [← HM.out, c]
          exact h⟩, ⟨(HB.out.setCell (Nat.le_refl B) _).setCell (Nat.le_refl B) _⟩⟩
      · have c0 : (y == 48) = false := by simp [c]
        go_wp2
        go_roundg (n - (i + 1))
        case measure => omega
        case rel => exact ⟨i + 1, by omega, by omega, by go_num, ⟨by
          have h := HR.out.set hlt 111
          rw [← HM.out, plainB, if_neg c]
          exact h⟩, ⟨HB.out.setCell (Nat.le_refl B) _⟩⟩
    · have hcv := HR.out.back cap
      rw [mapped_end (by have := HN.out; omega)] at hcv
      go_wp2
      go_ret
      exact ⟨rfl, HB.out⟩

/-! ### impl_RiverOf: function 21 -/
def impl_RiverOf.f (a0 : ByteArray) : Option (ByteArray × Bool) := (impl_IsStrong.f a0).bind fun t119 => (if t119 = true then ((impl_plain.f a0).bind fun t120 => (some (t120, true))) else (some ((⟨#[]⟩ : ByteArray), false)))
set_option maxHeartbeats 8000000 in
set_option maxRecDepth 100000 in
theorem impl_RiverOf.calls (a0 : ByteArray) (r1 : ByteArray) (r2 : Bool) (w : World) (h : impl_RiverOf.f a0 = some (r1, r2)) :
    Calls Tryd.prog 21 #[.string a0] w fun e w' => e = .returned (.tuple #[.string r1, .bool r2]) ∧ Below w.heap.size w w' := by
  have HB := Aside0.mk (Below.refl w.heap.size w)
  have H : ((impl_IsStrong.f a0).bind fun t119 => (if t119 = true then ((impl_plain.f a0).bind fun t120 => (some (t120, true))) else (some ((⟨#[]⟩ : ByteArray), false)))) = some (r1, r2) := h
  clear h
  replace H := Option.bind_eq_some_iff.mp H
  obtain ⟨t119, A20, H⟩ := H
  replace H : (if t119 = true then ((impl_plain.f a0).bind fun t120 => (some (t120, true))) else (some ((⟨#[]⟩ : ByteArray), false))) = some (r1, r2) := H
  have A2 := Aside0.mk A20
  clear A20
  by_cases c3 : t119 = true
  · subst c3
    have H1 : ((impl_plain.f a0).bind fun t120 => (some (t120, true))) = some (r1, r2) := by rw [if_pos rfl] at H; exact H
    clear H
    have H := H1
    clear H1
    replace H := Option.bind_eq_some_iff.mp H
    obtain ⟨t120, A40, H⟩ := H
    replace H : (some (t120, true)) = some (r1, r2) := H
    have A4 := Aside0.mk A40
    clear A40
    simp only [Option.some.injEq, Prod.mk.injEq] at H
    obtain ⟨rfl, rfl⟩ := H
    go_enter Tryd.func21, Tryd.ntmps21
    go_wp2_with (first | ((with_reducible refine gate_callee (f := 11) rfl ?_); refine goesL_ (some 5) rfl rfl Tryd.func11 (by kernel_rfl) rfl #[.string a0] rfl (by (try simp only [List.map_toArray, List.map_cons, List.map_nil]); first | done | rfl | (simp only [List.length_drop, List.length_take]; rfl)) ?_; (with_reducible refine (impl_IsStrong.calls a0 true _ A2.out).mono ?_); rintro e w5 ⟨rfl, hb⟩; refine ⟨_, rfl, ?_⟩; have n0_ := Aside0.mk (below_step (by repeat (first | (with_reducible first | exact HB.out | apply below_alloc | apply pw_below_drewN | apply below_drew1) | exact HB.out)) hb); clear HB; have HB := n0_; clear n0_; (try clear hb); (try clear hb2); (try clear hk); (try clear hi)) | ((with_reducible refine gate_callee (f := 35) rfl ?_); refine goesL_ (some 8) rfl rfl Tryd.func35 (by kernel_rfl) rfl #[.string a0] rfl (by (try simp only [List.map_toArray, List.map_cons, List.map_nil]); first | done | rfl | (simp only [List.length_drop, List.length_take]; rfl)) ?_; (with_reducible refine (impl_plain.calls a0 t120 _ A4.out).mono ?_); rintro e w6 ⟨rfl, hb⟩; refine ⟨_, rfl, ?_⟩; have n0_ := Aside0.mk (below_step (by repeat (first | (with_reducible first | exact HB.out | apply below_alloc | apply pw_below_drewN | apply below_drew1) | exact HB.out)) hb); clear HB; have HB := n0_; clear n0_; (try clear hb); (try clear hb2); (try clear hk); (try clear hi)))
    go_ret2
    exact ⟨by first | rfl | (simp [errW_none, errW_some] <;> rfl) | (simp [*, errW_none, errW_some] <;> rfl), by repeat (first | (with_reducible first | exact HB.out | apply below_alloc | apply pw_below_drewN | apply below_drew1) | exact HB.out)⟩
  · replace c3 := Bool.eq_false_iff.mpr c3
    subst c3
    have H1 : (some ((⟨#[]⟩ : ByteArray), false)) = some (r1, r2) := by rw [if_neg (show ¬ (false = true) by decide)] at H; exact H
    clear H
    have H := H1
    clear H1
    simp only [Option.some.injEq, Prod.mk.injEq] at H
    obtain ⟨rfl, rfl⟩ := H
    go_enter Tryd.func21, Tryd.ntmps21
    go_wp2_with (first | ((with_reducible refine gate_callee (f := 11) rfl ?_); refine goesL_ (some 5) rfl rfl Tryd.func11 (by kernel_rfl) rfl #[.string a0] rfl (by (try simp only [List.map_toArray, List.map_cons, List.map_nil]); first | done | rfl | (simp only [List.length_drop, List.length_take]; rfl)) ?_; (with_reducible refine (impl_IsStrong.calls a0 false _ A2.out).mono ?_); rintro e w7 ⟨rfl, hb⟩; refine ⟨_, rfl, ?_⟩; have n0_ := Aside0.mk (below_step (by repeat (first | (with_reducible first | exact HB.out | apply below_alloc | apply pw_below_drewN | apply below_drew1) | exact HB.out)) hb); clear HB; have HB := n0_; clear n0_; (try clear hb); (try clear hb2); (try clear hk); (try clear hi)))
    go_ret2
    exact ⟨by first | rfl | (simp [errW_none, errW_some] <;> rfl) | (simp [*, errW_none, errW_some] <;> rfl), by repeat (first | (with_reducible first | exact HB.out | apply below_alloc | apply pw_below_drewN | apply below_drew1) | exact HB.out)⟩

/-! ### laws_FnExactRiverOf: function 8 -/
def laws_FnExactRiverOf.f (k : Nat) (a0 : ByteArray) : Option (Bool) := if (a0.size : Int) > 1048576 then (some true) else ((spec_RiverOf.f k a0).bind fun bt121 => ((impl_RiverOf.f a0).bind fun bt123 => (if bt123.1.toList = bt121.1.toList then (if (bt123.2 != bt121.2) = true then (some false) else (some true)) else (some false))))
theorem laws_FnExactRiverOf.mono : ∀ a0 k, LeO (laws_FnExactRiverOf.f k a0) (laws_FnExactRiverOf.f (k + 1) a0) := by
  intro a0 k
  unfold laws_FnExactRiverOf.f
  repeat' first
      | (with_reducible exact spec_RiverOf.mono _ _)
      | (with_reducible exact LeO.refl _)
      | (with_reducible exact LeO.none _)
      | (with_reducible refine LeO.ite ?_ ?_)
      | (with_reducible refine LeO.bind ?_ (fun _ => ?_))
      | exact spec_RiverOf.mono _ _
      | exact LeO.none _
      | refine LeO.ite ?_ ?_
      | refine LeO.bind ?_ (fun _ => ?_)
set_option maxHeartbeats 8000000 in
set_option maxRecDepth 100000 in
theorem laws_FnExactRiverOf.calls (k : Nat) (a0 : ByteArray) (r : Bool) (hr_ : Aside0 (r = true)) (w : World) (h : laws_FnExactRiverOf.f k a0 = some r) :
    Calls Tryd.prog 8 #[.string a0] w fun e w' => e = .returned (.bool r) ∧ Below w.heap.size w w' := by
  have HB := Aside0.mk (Below.refl w.heap.size w)
  have H : (if (a0.size : Int) > 1048576 then (some true) else ((spec_RiverOf.f k a0).bind fun bt121 => ((impl_RiverOf.f a0).bind fun bt123 => (if bt123.1.toList = bt121.1.toList then (if (bt123.2 != bt121.2) = true then (some false) else (some true)) else (some false))))) = some r := h
  clear h
  by_cases c2 : (a0.size : Int) > 1048576
  · rw [if_pos c2] at H
    have c2b0 : decide (1048576 < (a0.size : Int)) = true := decide_eq_true c2
    have c2b1 : decide (1048576 < a0.size) = true := decide_eq_true (by omega)
    clear c2
    obtain rfl := Option.some.inj H
    go_enter Tryd.func8, Tryd.ntmps8
    go_wp2
    go_ret
    exact ⟨by first | rfl | (simp [errW_none, errW_some] <;> rfl) | (simp [*, errW_none, errW_some] <;> rfl), by repeat (first | (with_reducible first | exact HB.out | apply below_alloc | apply pw_below_drewN | apply below_drew1) | exact HB.out)⟩
  · rw [if_neg c2] at H
    have c2b0 : decide (1048576 < (a0.size : Int)) = false := decide_eq_false c2
    have c2b1 : decide (1048576 < a0.size) = false := decide_eq_false (by omega)
    clear c2
    replace H := Option.bind_eq_some_iff.mp H
    obtain ⟨⟨t121, t122⟩, A30, H⟩ := H
    replace H : ((impl_RiverOf.f a0).bind fun bt123 => (if bt123.1.toList = t121.toList then (if (bt123.2 != t122) = true then (some false) else (some true)) else (some false))) = some r := H
    have A3 := Aside0.mk A30
    clear A30
    replace H := Option.bind_eq_some_iff.mp H
    obtain ⟨⟨t123, t124⟩, A40, H⟩ := H
    replace H : (if t123.toList = t121.toList then (if (t124 != t122) = true then (some false) else (some true)) else (some false)) = some r := H
    have A4 := Aside0.mk A40
    clear A40
    by_cases c5 : t123.toList = t121.toList
    · rw [if_pos c5] at H
      have c5b0 : (t123.toList == t121.toList) = true := beq_iff_eq.mpr c5
      have c5b1 : (t123.toList != t121.toList) = false := bne_eq_false_iff_eq.mpr c5
      clear c5
      by_cases c6 : (t124 != t122) = true
      · rw [if_pos c6] at H
        have c6b0 : (t124 != t122) = true := c6
        (try (have c6b1 : decide (t124 = t122) = false := by simpa using c6))
        (try (have c6b2 : (t124 == t122) = false := by simpa using c6))
        (try (have c6b3 : ¬ (t124 = t122) := by simpa using c6))
        clear c6
        obtain rfl := Option.some.inj H
        cases hr_.out
      · rw [if_neg c6] at H
        have c6b0 : (t124 != t122) = false := by simpa using c6
        (try (have c6b1 : decide (t124 = t122) = true := by simpa using c6))
        (try (have c6b2 : (t124 == t122) = true := by simpa using c6))
        clear c6
        obtain rfl := Option.some.inj H
        go_enter Tryd.func8, Tryd.ntmps8
        go_wp2_with (first | ((with_reducible refine gate_callee (f := 20) rfl ?_); refine goesL_ (some 12) rfl rfl Tryd.func20 (by kernel_rfl) rfl #[.string a0] rfl (by (try simp only [List.map_toArray, List.map_cons, List.map_nil]); first | done | rfl | (simp only [List.length_drop, List.length_take]; rfl)) ?_; (with_reducible refine (spec_RiverOf.calls k a0 t121 t122 _ A3.out).mono ?_); rintro e w' ⟨rfl, ⟨nd, rfl⟩⟩; refine ⟨_, rfl, ?_⟩) | ((with_reducible refine gate_callee (f := 21) rfl ?_); refine goesL_ (some 17) rfl rfl Tryd.func21 (by kernel_rfl) rfl #[.string a0] rfl (by (try simp only [List.map_toArray, List.map_cons, List.map_nil]); first | done | rfl | (simp only [List.length_drop, List.length_take]; rfl)) ?_; (with_reducible refine (impl_RiverOf.calls a0 t123 t124 _ A4.out).mono ?_); rintro e w8 ⟨rfl, hb⟩; refine ⟨_, rfl, ?_⟩; have n0_ := Aside0.mk (below_step (by repeat (first | (with_reducible first | exact HB.out | apply below_alloc | apply pw_below_drewN | apply below_drew1) | exact HB.out)) hb); clear HB; have HB := n0_; clear n0_; (try clear hb); (try clear hb2); (try clear hk); (try clear hi)))
        go_ret
        exact ⟨by first | rfl | (simp [errW_none, errW_some] <;> rfl) | (simp [*, errW_none, errW_some] <;> rfl), by repeat (first | (with_reducible first | exact HB.out | apply below_alloc | apply pw_below_drewN | apply below_drew1) | exact HB.out)⟩
    · rw [if_neg c5] at H
      have c5b0 : (t123.toList == t121.toList) = false := beq_eq_false_iff_ne.mpr c5
      have c5b1 : (t123.toList != t121.toList) = true := bne_iff_ne.mpr c5
      obtain rfl := Option.some.inj H
      cases hr_.out

theorem laws_FnExactRiverOf.walk : True := trivial

end Go.Proofs.YtlgbafblbgaoiaaDoor.K
