/- Go functions of this seat as plain functions, each with the proof that its call comes to what that function says: written by this session's program (wip/drive.py) out of the translation, by the kit's printer and by texts of our own; no conditions. -/
import Derived.Test.YtaocebflcjomhaaDoorKx0
import Derived.Test.YtaocebflcjomhaaDoorKx6
namespace Go.Proofs.YtaocebflcjomhaaDoor.K
open Go.RowKit Go.Proofs.YtaocebflcjomhaaDoorW.PrintWords Go.Proofs.YtaocebflcjomhaaDoorW.PrintLast Go.Proofs.YtaocebflcjomhaaDoorW.PrintMore
attribute [local go_sem] max2_int min2_int max_two min_two max_three min_three max_four min_four   -- for this text's walks alone
set_option linter.unusedVariables false
set_option linter.unusedSimpArgs false

/-! ### impl_worn: function 21 -/
def wornB (c : Int) : Int := if 48 < (c - 1) % 256 then (c - 1) % 256 else 48
def impl_worn.f (s : ByteArray) : Option ByteArray := if s.size ≤ 9223372036854775807 then some (strOfNums ((intsOf s).map wornB)) else none
set_option maxHeartbeats 4000000 in
theorem impl_worn.calls (a0 : ByteArray) (r : ByteArray) (w : World) (h : impl_worn.f a0 = some r) :
    Calls Tryd.prog 21 #[.string a0] w fun e w' => e = .returned (.string r) ∧ Below w.heap.size w w' := by
  unfold impl_worn.f at h
  have hm : a0.size ≤ 9223372036854775807 := by
    by_cases hm : a0.size ≤ 9223372036854775807
    · exact hm
    · rw [if_neg hm] at h
      cases h
  rw [if_pos hm] at h
  obtain rfl := Option.some.inj h
  clear h
  obtain ⟨cap, w3, hmk, hrow, hbel⟩ := BRow.make a0 w
  obtain ⟨l, hl⟩ : ∃ l, l = intsOf a0 := ⟨_, rfl⟩
  have hn : l.length = a0.size := by rw [hl]; exact intsOf_length a0
  rw [← hl] at hrow ⊢
  have HN := Aside0.mk hn
  have HR := Aside0.mk hrow
  have HB := Aside0.mk hbel
  obtain ⟨n, en⟩ : ∃ n, n = a0.size := ⟨_, rfl⟩
  obtain ⟨B, eB⟩ : ∃ B, B = w.heap.size := ⟨_, rfl⟩
  rw [← en] at hmk HR HN hm
  rw [← eB] at hmk HR HB ⊢
  have EN := Aside0.mk en
  have EB := Aside0.mk eB
  clear hn hrow hbel hl en eB
  go_enter Tryd.func21, Tryd.ntmps21
  go_wp2
  go_loopg [10] n (fun gg v10 wr => ∃ i : Nat, i ≤ n ∧ n - i ≤ gg ∧ v10 = .int .i64 i ∧ Aside0 (BRow wr B n ((l.take i).map wornB ++ l.drop i)) ∧ Aside0 (Below B w wr))
  case atStart => exact ⟨0, Nat.zero_le _, by omega, rfl, ⟨by simpa using HR.out⟩, HB⟩
  case round =>
    obtain ⟨i, hi, hg, rfl, HR, HB⟩ := hrel
    by_cases hlt : i < n
    · have hltz : (i : Int) < (n : Int) := by omega
      have h0 := HR.out.at_ HN.out hlt
      have hf := HR.out.frozen hlt
      obtain ⟨y, hy⟩ : ∃ y, y = rd l i := ⟨_, rfl⟩
      have HM := Aside0.mk (mapped_step (f := wornB) (i := i) (l := l) (by have := HN.out; omega))
      rw [← hy] at h0 HM
      clear hy
      by_cases c : 48 < (y - 1) % 256
      · have c0 : decide (48 < (y - 1) % 256) = true := decide_eq_true c
        go_wp2
        go_roundg (n - (i + 1))
        case measure => omega
        case rel => exact ⟨i + 1, by omega, by omega, by go_num, ⟨by
          have h := HR.out.set hlt ((y - 1) % 256)
          rw [← HM.out, wornB, if_pos c]
          exact h⟩, ⟨HB.out.setCell (Nat.le_refl B) _⟩⟩
      · have c0 : decide (48 < (y - 1) % 256) = false := decide_eq_false c
        go_wp2
        go_roundg (n - (i + 1))
        case measure => omega
        case rel => exact ⟨i + 1, by omega, by omega, by go_num, ⟨by
          have h := HR.out.set hlt 48
          rw [← HM.out, wornB, if_neg (by omega)]
          exact h⟩, ⟨HB.out.setCell (Nat.le_refl B) _⟩⟩
    · have hcv := HR.out.back cap
      rw [mapped_end (by have := HN.out; omega)] at hcv
      go_wp2
      go_ret
      exact ⟨rfl, HB.out⟩

end Go.Proofs.YtaocebflcjomhaaDoor.K
