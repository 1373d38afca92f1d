/- Go functions of this seat as plain functions, each with the proof that its call comes to what that function says: written by this session's program (wip/drive.py) out of the translation, by the kit's printer and by texts of our own; no conditions. -/
import Derived.Test.YtaocebflcjomhaaDoorKx0
import Derived.Test.YtaocebflcjomhaaDoorKx6
namespace Go.Proofs.YtaocebflcjomhaaDoor.K
open Go.RowKit Go.Proofs.YtaocebflcjomhaaDoorW.PrintWords Go.Proofs.YtaocebflcjomhaaDoorW.PrintLast Go.Proofs.YtaocebflcjomhaaDoorW.PrintMore
attribute [local go_sem] max2_int min2_int max_two min_two max_three min_three max_four min_four   -- for this text's walks alone
set_option linter.unusedVariables false
set_option linter.unusedSimpArgs false

/-! ### impl_behind: function 27 -/
def behindL : List Int → List Int → Option (List Int)
  | [], b => some b
  | p :: ps, b => if 1 ≤ p ∧ p ≤ (b.length : Int) then behindL ps (b.set (p - 1).toNat ((rd b (p - 1) - 1) % 256)) else none
theorem BRow.atl {W : World} {B n : Nat} {b : List Int} (h : BRow W B n b) {i : Nat} (hi : i < n) : W.cell? ⟨B, i, none⟩ = some (.int .u8 (rd b (i : Int))) := h.cell hi
def midOf (l : List Int) : List Int := (l.take ((l.length : Int) - 1).toNat).drop 1
def impl_behind.f (s : ByteArray) (l : List Int) : Option ByteArray := if s.size ≤ 9223372036854775807 ∧ 2 ≤ l.length then (behindL (midOf l) (intsOf s)).map strOfNums else none
set_option maxHeartbeats 4000000 in
theorem impl_behind.calls (a0 : ByteArray) (A1 : Option Addr) (c1 : Nat) (l1 : List Int) (r : ByteArray) (w : World) (hr1 : Kd.C (Kd.int .i64) w A1 l1.length l1) (hc1 : l1.length ≤ c1) (h : impl_behind.f a0 l1 = some r) :
    Calls Tryd.prog 27 #[.string a0, .slice A1 l1.length c1] w fun e w' => e = .returned (.string r) ∧ Below w.heap.size w w' := by
  unfold impl_behind.f at h
  have hm : a0.size ≤ 9223372036854775807 ∧ 2 ≤ l1.length := by
    by_cases hm : a0.size ≤ 9223372036854775807 ∧ 2 ≤ l1.length
    · exact hm
    · rw [if_neg hm] at h
      cases h
  rw [if_pos hm] at h
  obtain ⟨bb, hbb, rfl⟩ := Option.map_eq_some_iff.1 h
  clear h
  have hlm := Kd.C_max hr1
  have e1 : wrap64 ((l1.length : Int) - 1) = (l1.length : Int) - 1 := by unfold wrap64; omega
  obtain ⟨cap, w3, hmk, hrow, hbel⟩ := BRow.make a0 w
  obtain ⟨l, hl⟩ : ∃ l, l = intsOf a0 := ⟨_, rfl⟩
  have hn : l.length = a0.size := by rw [hl]; exact intsOf_length a0
  rw [← hl] at hrow hbb
  obtain ⟨i05, hi05, _, hsz5, _⟩ := info_parts info3
  obtain ⟨A5, hcut5, hA5, hC5⟩ := print_mid_of (P := Tryd.prog) (Value.int .i64) 0 25 3 .i64 .i64 Tryd.underlying25 hi05 hsz5 A1 c1 l1 1 (wrap64 ((l1.length : Int) - 1)) (by omega) (by omega) (by omega) hc1
  have HRD := Aside0.mk (Kd.C_of_reads (h1 := fun _ => rfl) (hA5 _ (Kd.reads_of_C hr1)))
  have e2 : (l1.take (wrap64 ((l1.length : Int) - 1)).toNat).drop (Int.toNat 1) = midOf l1 := by rw [e1]; rfl
  obtain ⟨dd, hdd⟩ : ∃ dd, dd = midOf l1 := ⟨_, rfl⟩
  rw [e2, ← hdd] at HRD
  simp only [e2, ← hdd] at hcut5
  rw [← hdd] at hbb
  have hdm := Kd.C_max HRD.out
  have HBB := Aside0.mk hbb
  have HN := Aside0.mk hn
  have HR := Aside0.mk hrow
  have HB := Aside0.mk hbel
  have HM := Aside0.mk hm
  have HDM := Aside0.mk hdm
  obtain ⟨n, en⟩ : ∃ n, n = a0.size := ⟨_, rfl⟩
  obtain ⟨B, eB⟩ : ∃ B, B = w.heap.size := ⟨_, rfl⟩
  rw [← en] at hmk HR HN HM
  rw [← eB] at hmk HR HB ⊢
  have EB := Aside0.mk eB
  clear hn hrow hbel hl en eB hm hbb hA5 hC5 hi05 hsz5 e1 e2 hdd hr1 hc1 hlm hdm
  go_enter Tryd.func27, Tryd.ntmps27
  go_wp2
  go_loopg [16] dd.length (fun gg v16 wr => ∃ (i : Nat) (b : List Int), i ≤ dd.length ∧ dd.length - i ≤ gg ∧ v16 = .int .i64 i ∧ Aside0 (behindL (dd.drop i) b = some bb) ∧ Aside0 (BRow wr B n b) ∧ Aside0 (Below B w wr))
  case atStart => exact ⟨0, l, Nat.zero_le _, by omega, rfl, ⟨by simpa using HBB.out⟩, HR, HB⟩
  case round =>
    obtain ⟨i, b, hi, hg, rfl, HBB, HR, HB⟩ := hrel
    by_cases hlt : i < dd.length
    · have hltz : (i : Int) < (dd.length : Int) := by omega
      have hbb := HBB.out
      have ed : dd.drop i = rd dd i :: dd.drop (i + 1) := by
        rw [List.drop_eq_getElem_cons hlt]
        congr 1
        simp [rd, List.getD_eq_getElem?_getD, List.getElem?_eq_getElem hlt]
      rw [ed] at hbb
      simp only [behindL] at hbb
      obtain ⟨ad, hA, h0⟩ := Kd.at_int (Kd.C_below HRD.out (by have := HB.out; rw [EB.out] at this; exact this)) (i : Int) (by omega) (by omega)
      subst hA
      rw [Int.toNat_natCast] at h0
      generalize rd dd i = p at h0 hbb
      have hp : 1 ≤ p ∧ p ≤ (b.length : Int) := by
        by_cases hp : 1 ≤ p ∧ p ≤ (b.length : Int)
        · exact hp
        · rw [if_neg hp] at hbb
          cases hbb
      rw [if_pos hp] at hbb
      have hbn : b.length = n := HR.out.1
      have hnm := HM.out
      have HDM2 := HDM.out
      obtain ⟨j, hj⟩ : ∃ j : Nat, p - 1 = (j : Int) := ⟨(p - 1).toNat, by omega⟩
      have hjn : j < n := by omega
      have hjw : wrap64 (p - 1) = (j : Int) := by unfold wrap64; omega
      have hjw2 : IntKind.i64.wrap (p - 1) = (j : Int) := (i64_w _).trans hjw
      have hjz : (j : Int) < (n : Int) := by omega
      have hiw : wrap64 ((i : Int) + 1) = ((i + 1 : Nat) : Int) := by unfold wrap64; omega
      rw [hj] at hbb
      rw [Int.toNat_natCast] at hbb
      have hx := HR.out.atl hjn
      have hf := HR.out.frozen hjn
      generalize rd b (j : Int) = y at hx hbb
      have HBB2 := Aside0.mk hbb
      have HS := Aside0.mk (HR.out.set hjn ((y - 1) % 256))
      have HIW := Aside0.mk hiw
      clear hbb hp hbn hnm HDM2 hj ed hiw
      go_wp2
      go_roundg (dd.length - (i + 1))
      case measure => omega
      case rel => exact ⟨i + 1, _, by omega, by omega, by first | go_num | (rw [HIW.out]), HBB2, HS, ⟨HB.out.setCell (Nat.le_refl B) _⟩⟩
    · have hbb := HBB.out
      rw [List.drop_of_length_le (by omega)] at hbb
      simp only [behindL] at hbb
      obtain rfl := Option.some.inj hbb
      have hcv := HR.out.back cap
      go_wp2
      go_ret
      exact ⟨rfl, HB.out⟩

end Go.Proofs.YtaocebflcjomhaaDoor.K
