/- Plain facts on the digits of strong rivers; no conditions. -/
import Derived.Test.YtaocebflcjomhaaDoorKSum
set_option linter.unusedVariables false
set_option linter.unusedSimpArgs false
namespace Go.Proofs.YtaocebflcjomhaaDoor.K
open Go.RowKit Go.Proofs.YtaocebflcjomhaaDoorW.PrintWords Go.Proofs.YtaocebflcjomhaaDoorW.PrintLast Go.Proofs.YtaocebflcjomhaaDoorW.PrintMore
theorem dig_use {c : Int} (h : isDig c = true) : 48 ≤ c ∧ c ≤ 57 := by simpa [isDig] using h
theorem ints_num (b : List Int) (h : ∀ c ∈ b, isDig c = true) : intsOf (strOfNums b) = b := ints_of b (fun c hc => by
  have := dig_use (h c hc)
  omega)
theorem good_num (b : List Int) (h : ∀ c ∈ b, isDig c = true) (h1 : 1 ≤ b.length) (h2 : b.length ≤ 20) : good (strOfNums b) = true := by
  unfold good
  rw [ints_num b h, num_size, decide_eq_true ⟨h1, h2⟩, Bool.true_and, List.all_eq_true]
  exact h
theorem good_all {s : ByteArray} (hg : good s = true) : ∀ c ∈ intsOf s, isDig c = true := by
  unfold good at hg
  simp only [Bool.and_eq_true, List.all_eq_true] at hg
  exact hg.2
theorem digs_nonneg : ∀ (l : List Int), 0 ≤ digs l
  | [] => Int.le_refl _
  | c :: l => by
    have := digs_nonneg l
    rw [digs_cons]
    omega
theorem digs_pos : ∀ (l : List Int), (∀ c ∈ l, isDig c = true) → (1 ≤ digs l ↔ ∃ c ∈ l, c ≠ 48)
  | [], _ => by simp [digs]
  | c :: l, h => by
    have hc := dig_use (h c (List.mem_cons_self ..))
    have ih := digs_pos l (fun x hx => h x (List.mem_cons_of_mem _ hx))
    have h0 := digs_nonneg l
    rw [digs_cons, Int.emod_eq_of_lt (by omega) (by omega)]
    constructor
    · intro h1
      by_cases e : c = 48
      · obtain ⟨x, hx, hn⟩ := ih.1 (by omega)
        exact ⟨x, List.mem_cons_of_mem _ hx, hn⟩
      · exact ⟨c, List.mem_cons_self .., e⟩
    · rintro ⟨x, hx, hn⟩
      rcases List.mem_cons.1 hx with rfl | hx
      · omega
      · have := ih.2 ⟨x, hx, hn⟩
        omega
theorem digs_set : ∀ (l : List Int) (i : Nat) (v : Int), i < l.length → digs (l.set i v) = digs l - (rd l (i : Int) - 48) % 256 + (v - 48) % 256
  | [], i, v, h => absurd h (by simp)
  | c :: l, 0, v, h => by
    rw [List.set_cons_zero, digs_cons, digs_cons]
    simp only [rd, Int.toNat_natCast, List.getD_cons_zero]
    omega
  | c :: l, i + 1, v, h => by
    have ih := digs_set l i v (by simpa using h)
    have hr : rd (c :: l) ((i + 1 : Nat) : Int) = rd l (i : Int) := by simp [rd, List.getD_eq_getElem?_getD]
    rw [List.set_cons_succ, digs_cons, digs_cons, ih, hr]
    omega
theorem digs_le : ∀ (l : List Int), (∀ c ∈ l, isDig c = true) → digs l ≤ 9 * (l.length : Int)
  | [], _ => by simp [digs]
  | c :: l, h => by
    have hc := dig_use (h c (List.mem_cons_self ..))
    have ih := digs_le l (fun x hx => h x (List.mem_cons_of_mem _ hx))
    rw [digs_cons, Int.emod_eq_of_lt (by omega) (by omega), List.length_cons]
    omega
end Go.Proofs.YtaocebflcjomhaaDoor.K
