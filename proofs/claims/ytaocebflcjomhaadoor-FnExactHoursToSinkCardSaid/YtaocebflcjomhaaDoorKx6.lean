/- Go functions of this seat as plain functions, each with the proof that its call comes to what that function says: written by this session's program (wip/drive.py) out of the translation, by the kit's printer and by texts of our own; no conditions. -/
import Derived.Test.YtaocebflcjomhaaDoorKx0
import Derived.Laws.IdiomStrings
namespace Go.Proofs.YtaocebflcjomhaaDoor.K
open Go.RowKit Go.Proofs.YtaocebflcjomhaaDoorW.PrintWords Go.Proofs.YtaocebflcjomhaaDoorW.PrintLast Go.Proofs.YtaocebflcjomhaaDoorW.PrintMore
attribute [local go_sem] max2_int min2_int max_two min_two max_three min_three max_four min_four   -- for this text's walks alone
set_option linter.unusedVariables false
set_option linter.unusedSimpArgs false

/-! ### impl_plain: function 20 -/
/-- A row of bytes that a call has made; what of it is marked lies behind its first n cells. -/
def BRow (W : World) (B n : Nat) (xs : List Int) : Prop := xs.length = n ∧ ∃ (cur : Array Value) (t : TypeId) (fz : Nat × Nat), W.heap[B]? = some (.cells cur t fz) ∧ n ≤ fz.1 ∧ ∀ i, i < n → cur[i]? = some (.int .u8 (xs.getD i 0))
def intsOf (s : ByteArray) : List Int := s.data.toList.map fun b => (b.toNat : Int)
theorem intsOf_length (s : ByteArray) : (intsOf s).length = s.size := by simp [intsOf]
theorem BRow.cell {W : World} {B n i : Nat} {xs : List Int} (h : BRow W B n xs) (hi : i < n) : W.cell? ⟨B, i, none⟩ = some (.int .u8 (xs.getD i 0)) := by
  obtain ⟨_, cur, t, fz, hb, _, hc⟩ := h
  rw [cell_of_row W B i cur t fz hb]
  exact hc i hi
theorem BRow.frozen {W : World} {B n i : Nat} {xs : List Int} (h : BRow W B n xs) (hi : i < n) : W.frozen? ⟨B, i, none⟩ = false := by
  obtain ⟨_, cur, t, fz, hb, hf, _⟩ := h
  simp only [World.frozen?, hb]
  simp
  omega
theorem BRow.set {W : World} {B n i : Nat} {xs : List Int} (h : BRow W B n xs) (hi : i < n) (v : Int) : BRow (W.setCell ⟨B, i, none⟩ (.int .u8 v)) B n (xs.set i v) := by
  obtain ⟨hl, cur, t, fz, hb, hf, hc⟩ := h
  refine ⟨by rw [List.length_set]; exact hl, cur.setIfInBounds i (.int .u8 v), t, fz, by simp [World.setCell, Array.getElem?_modify, hb], hf, fun j hj => ?_⟩
  rw [Array.getElem?_setIfInBounds, List.getD_eq_getElem?_getD]
  by_cases e : i = j
  · subst e
    have : i < cur.size := (Array.getElem?_eq_some_iff.1 (hc i hi)).1
    rw [if_pos rfl, if_pos this, List.getElem?_set_self (by omega)]
    rfl
  · rw [if_neg e, List.getElem?_set_ne e, ← List.getD_eq_getElem?_getD]
    exact hc j hj
theorem BRow.step {W W' : World} {B n : Nat} {xs : List Int} (h : BRow W B n xs) (e : W'.heap[B]? = W.heap[B]?) : BRow W' B n xs := by
  obtain ⟨hl, cur, t, fz, hb, hf, hc⟩ := h
  exact ⟨hl, cur, t, fz, e.trans hb, hf, hc⟩
theorem BRow.back {W : World} {B n : Nat} {xs : List Int} (h : BRow W B n xs) (cap : Nat) : (convert 40 9 (.slice (some ⟨B, 0, none⟩) n cap)).run Tryd.prog W = .ok (.string (strOfNums xs)) W := by
  refine run_convert_bytes_arg W 40 5 Tryd.underlying40 Tryd.underlying5 B 0 n cap xs h.1 (fun i hi => ?_) 9 Tryd.underlying9
  have ha : (⟨B, 0, none⟩ : Addr).add i = ⟨B, 0 + i, none⟩ := by unfold Addr.add; split <;> simp_all
  first
  | (rw [ha, Nat.zero_add]; exact h.cell (by omega))
  | (rw [Nat.zero_add]; exact h.cell (by omega))
theorem BRow.make (s : ByteArray) (w : World) : ∃ (cap : Nat) (w3 : World), (convert 9 40 (.string s)).run Tryd.prog w = .ok (.slice (some ⟨w.heap.size, 0, none⟩) s.size cap) w3 ∧ BRow w3 w.heap.size s.size (intsOf s) ∧ Below w.heap.size w w3 := by
  have hg := grownCap_ge w s.size 0 5
  refine ⟨_, _, run_bytes_of_string w 9 40 5 s Tryd.underlying9 Tryd.underlying40 Tryd.underlying5, ⟨intsOf_length s, _, _, _, heap_alloc_new _ _, ?_, fun i hi => ?_⟩, below_alloc (below_drew1 (Below.refl _ _)) _⟩
  · simp only [bytesRow]
    first
    | (simp; done)
    | (simp; omega)
  · rw [bytesRow_at s _ i hi]
    simp only [intsOf, List.getD_eq_getElem?_getD]
    have hi' : i < s.data.size := hi
    simp [Array.getElem?_eq_getElem hi']
theorem BRow.at_ {W : World} {B n i : Nat} {l : List Int} {f : Int → Int} (h : BRow W B n ((l.take i).map f ++ l.drop i)) (hl : l.length = n) (hi : i < n) : W.cell? ⟨B, i, none⟩ = some (.int .u8 (rd l i)) := by
  rw [h.cell hi]
  have : (((l.take i).map f ++ l.drop i).getD i 0) = rd l i := by
    simp only [rd, List.getD_eq_getElem?_getD, Int.toNat_natCast]
    rw [List.getElem?_append_right (by simp; omega)]
    have e : min i l.length = i := by omega
    simp [e]
  rw [this]
theorem mapped_step {l : List Int} {f : Int → Int} {i : Nat} (hi : i < l.length) : ((l.take i).map f ++ l.drop i).set i (f (rd l i)) = (l.take (i + 1)).map f ++ l.drop (i + 1) := by
  have e : rd l i = l[i] := by simp [rd, List.getD_eq_getElem?_getD, List.getElem?_eq_getElem hi]
  rw [e, List.drop_eq_getElem_cons hi, List.set_append_right _ _ (by simp; omega), List.take_succ_eq_append_getElem hi]
  have e2 : i - ((l.take i).map f).length = 0 := by simp; omega
  rw [e2, List.set_cons_zero, List.map_append, List.append_assoc]
  rfl
theorem mapped_end {l : List Int} {f : Int → Int} {i : Nat} (hi : l.length ≤ i) : (l.take i).map f ++ l.drop i = l.map f := by
  rw [List.take_of_length_le hi, List.drop_of_length_le hi, List.append_nil]
def plainB (c : Int) : Int := if c = 48 then 46 else 111
def impl_plain.f (s : ByteArray) : Option ByteArray := if s.size ≤ 9223372036854775807 then some (strOfNums ((intsOf s).map plainB)) else none
set_option maxHeartbeats 4000000 in
theorem impl_plain.calls (a0 : ByteArray) (r : ByteArray) (w : World) (h : impl_plain.f a0 = some r) :
    Calls Tryd.prog 20 #[.string a0] w fun e w' => e = .returned (.string r) ∧ Below w.heap.size w w' := by
  unfold impl_plain.f at h
  have hm : a0.size ≤ 9223372036854775807 := by
    by_cases hm : a0.size ≤ 9223372036854775807
    · exact hm
    · rw [if_neg hm] at h
      cases h
  rw [if_pos hm] at h
  obtain rfl := Option.some.inj h
  clear h
  obtain ⟨cap, w3, hmk, hrow, hbel⟩ := BRow.make a0 w
  obtain ⟨l, hl⟩ : ∃ l, l = intsOf a0 := ⟨_, rfl⟩
  have hn : l.length = a0.size := by rw [hl]; exact intsOf_length a0
  rw [← hl] at hrow ⊢
  have HN := Aside0.mk hn
  have HR := Aside0.mk hrow
  have HB := Aside0.mk hbel
  obtain ⟨n, en⟩ : ∃ n, n = a0.size := ⟨_, rfl⟩
  obtain ⟨B, eB⟩ : ∃ B, B = w.heap.size := ⟨_, rfl⟩
  rw [← en] at hmk HR HN hm
  rw [← eB] at hmk HR HB ⊢
  have EN := Aside0.mk en
  have EB := Aside0.mk eB
  clear hn hrow hbel hl en eB
  go_enter Tryd.func20, Tryd.ntmps20
  go_wp2
  go_loopg [10] n (fun gg v10 wr => ∃ i : Nat, i ≤ n ∧ n - i ≤ gg ∧ v10 = .int .i64 i ∧ Aside0 (BRow wr B n ((l.take i).map plainB ++ l.drop i)) ∧ Aside0 (Below B w wr))
  case atStart => exact ⟨0, Nat.zero_le _, by omega, rfl, ⟨by simpa using HR.out⟩, HB⟩
  case round =>
    obtain ⟨i, hi, hg, rfl, HR, HB⟩ := hrel
    by_cases hlt : i < n
    · have hltz : (i : Int) < (n : Int) := by omega
      have h0 := HR.out.at_ HN.out hlt
      have hf := HR.out.frozen hlt
      obtain ⟨y, hy⟩ : ∃ y, y = rd l i := ⟨_, rfl⟩
      have HM := Aside0.mk (mapped_step (f := plainB) (i := i) (l := l) (by have := HN.out; omega))
      rw [← hy] at h0 HM
      clear hy
      by_cases c : y = 48
      · have c0 : (y == 48) = true := by simp [c]
        go_wp2
        go_roundg (n - (i + 1))
        case measure => omega
        case rel => exact ⟨i + 1, by omega, by omega, by go_num, ⟨by
          have h := (HR.out.set hlt 111).set hlt 46
          rw [List.set_set] at h
          rw [← HM.out, c]
          exact h⟩, ⟨(HB.out.setCell (Nat.le_refl B) _).setCell (Nat.le_refl B) _⟩⟩
      · have c0 : (y == 48) = false := by simp [c]
        go_wp2
        go_roundg (n - (i + 1))
        case measure => omega
        case rel => exact ⟨i + 1, by omega, by omega, by go_num, ⟨by
          have h := HR.out.set hlt 111
          rw [← HM.out, plainB, if_neg c]
          exact h⟩, ⟨HB.out.setCell (Nat.le_refl B) _⟩⟩
    · have hcv := HR.out.back cap
      rw [mapped_end (by have := HN.out; omega)] at hcv
      go_wp2
      go_ret
      exact ⟨rfl, HB.out⟩

end Go.Proofs.YtaocebflcjomhaaDoor.K
