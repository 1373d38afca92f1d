/- Plain facts on the printed functions that the laws on rivers use; no conditions. -/
import Derived.Test.YtaocebflcjomhaaDoorKBase
import Derived.Test.YtaocebflcjomhaaDoorKx8
set_option linter.unusedVariables false
set_option linter.unusedSimpArgs false
namespace Go.Proofs.YtaocebflcjomhaaDoor.K
open Go.RowKit Go.Proofs.YtaocebflcjomhaaDoorW.PrintWords Go.Proofs.YtaocebflcjomhaaDoorW.PrintLast Go.Proofs.YtaocebflcjomhaaDoorW.PrintMore
def isOD (c : Int) : Bool := c == 111 || c == 46
def riv (s : ByteArray) : Bool := decide (1 ≤ s.size ∧ s.size ≤ 40) && (intsOf s).all isOD
theorem od_contains (b : UInt8) : ([111, 46] : List UInt8).contains b = isOD (b.toNat : Int) := by
  rw [Bool.eq_iff_iff]
  simp only [List.contains_iff_mem, List.mem_cons, List.not_mem_nil, or_false, isOD, Bool.or_eq_true, beq_iff_eq, ← UInt8.toNat_inj]
  simp only [show UInt8.toNat 111 = 111 from rfl, show UInt8.toNat 46 = 46 from rfl]
  omega
theorem IsRiver_eq (s : ByteArray) : impl_IsRiver.f s = some (riv s) := by
  unfold impl_IsRiver.f riv
  rw [within_eq, Option.bind_some]
  by_cases h : 1 ≤ s.size ∧ s.size ≤ 40
  · rw [if_pos (by simp; omega), decide_eq_true h, Bool.true_and]
    unfold strings_Trim.f
    rw [if_pos ⟨by omega, by decide, by decide⟩, Option.bind_some]
    congr 1
    rw [Bool.eq_iff_iff, ByteArray.toList_eq, beq_iff_eq]
    show Lib.trimS s.data.toList [111, 46] = [] ↔ _
    rw [trim_nil]
    unfold intsOf
    rw [List.all_map]
    have : ((fun b : UInt8 => ([111, 46] : List UInt8).contains b)) = (isOD ∘ fun b : UInt8 => (b.toNat : Int)) := funext fun b => od_contains b
    rw [this]
  · rw [if_neg (by simp; omega), decide_eq_false h, Bool.false_and]
theorem riv_size {s : ByteArray} (h : riv s = true) : 1 ≤ s.size ∧ s.size ≤ 40 := by
  unfold riv at h
  simp only [Bool.and_eq_true, decide_eq_true_eq] at h
  exact h.1
theorem isCrossed_eq (s : ByteArray) (leap : Int) : impl_isCrossed.f s leap = some (riv s && decide (1 ≤ leap ∧ leap ≤ 50)) := by
  unfold impl_isCrossed.f
  rw [IsRiver_eq s, Option.bind_some]
  by_cases hg : riv s = true
  · rw [if_pos hg, hg, within_eq, Option.bind_some, Bool.true_and]
  · rw [if_neg hg, Bool.eq_false_iff.2 hg, Bool.false_and]
end Go.Proofs.YtaocebflcjomhaaDoor.K
