/- Plain facts on reading: a text that is read as a number in 0..1000 is that number's text; a text that is split comes back when it is joined; no conditions. -/
import Derived.Test.YtadkmhlohgeihaaDoorKPIsles
import Derived.Lib.ItoaNum
set_option linter.unusedVariables false
set_option linter.unusedSimpArgs false
namespace Go.Proofs.YtadkmhlohgeihaaDoor.K
open Go.RowKit Go.Proofs.YtadkmhlohgeihaaDoorW.PrintWords Go.Proofs.YtadkmhlohgeihaaDoorW.PrintLast Go.Proofs.YtadkmhlohgeihaaDoorW.PrintMore
/-- The value of digits, behind a value. -/
def valD : List UInt8 → Nat → Nat
  | [], n => n
  | b :: l, n => valD l (10 * n + (b.toNat - 48))
def digs (l : List UInt8) : Prop := ∀ b ∈ l, 48 ≤ b.toNat ∧ b.toNat ≤ 57
theorem valD_snoc (b : UInt8) : ∀ (l : List UInt8) (n : Nat), valD (l ++ [b]) n = 10 * valD l n + (b.toNat - 48)
  | [], n => rfl
  | c :: l, n => by
    rw [List.cons_append, valD, valD, valD_snoc b l]
theorem valD_ge : ∀ (l : List UInt8) (n : Nat), n ≤ valD l n
  | [], n => Nat.le_refl _
  | c :: l, n => by
    rw [valD]
    exact Nat.le_trans (by omega) (valD_ge l _)
theorem readD_neg : ∀ (l : List UInt8) (n : Int), (∃ b ∈ l, ¬ (48 ≤ b.toNat ∧ b.toNat ≤ 57)) → readD l n = -1
  | [], n, h => by
    obtain ⟨b, hb, _⟩ := h
    cases hb
  | c :: l, n, h => by
    rw [readD]
    by_cases h1 : (c.toNat : Int) < 48
    · rw [if_pos h1]
    · rw [if_neg h1]
      by_cases h2 : (c.toNat : Int) > 57
      · rw [if_pos h2]
      · rw [if_neg h2]
        obtain ⟨b, hb, hn⟩ := h
        rcases List.mem_cons.1 hb with rfl | hb
        · exact absurd (by omega) hn
        · exact readD_neg l _ ⟨b, hb, hn⟩
theorem readD_val (l : List UInt8) : ∀ (n : Nat), (n + 1) * 10 ^ l.length ≤ 10000000 → digs l → readD l (n : Int) = ((valD l n : Nat) : Int) := by
  induction l with
  | nil => intro n _ _; rfl
  | cons c l ih =>
    intro n hb hd
    have hc := hd c (by simp)
    have hp : 0 < 10 ^ l.length := Nat.pow_pos (by omega)
    rw [List.length_cons, Nat.pow_succ] at hb
    obtain ⟨q, hq⟩ : ∃ q, 10 ^ l.length = q := ⟨_, rfl⟩
    rw [hq] at hb hp ih
    have h1 : (n + 1) * (q * 10) = (10 * n + 10) * q := by rw [Nat.mul_comm q 10, ← Nat.mul_assoc]; congr 1; omega
    have h2 : (10 * n + (c.toNat - 48) + 1) * q ≤ (10 * n + 10) * q := Nat.mul_le_mul_right q (by omega)
    have h3 : 10 * n + 10 ≤ (10 * n + 10) * q := Nat.le_mul_of_pos_right _ hp
    have hih : (10 * n + (c.toNat - 48) + 1) * q ≤ 10000000 := Nat.le_trans h2 (by rw [← h1]; exact hb)
    have hn : 10 * n + 10 ≤ 10000000 := Nat.le_trans h3 (by rw [← h1]; exact hb)
    clear h1 h2 h3 hb hp
    have e0 : wrap64 (10 * (n : Int)) = 10 * (n : Int) := w64 (by omega) (by omega)
    have e1 : ((c.toNat : Int) - 48) % 256 = ((c.toNat - 48 : Nat) : Int) := by omega
    have e2 : wrap64 (10 * (n : Int) + ((c.toNat - 48 : Nat) : Int)) = ((10 * n + (c.toNat - 48) : Nat) : Int) := by
      rw [w64 (by omega) (by omega)]
      omega
    clear hn
    rw [readD, if_neg (by omega), if_neg (by omega), valD, e0, e1, e2]
    exact ih _ hih (fun b hb => hd b (by simp [hb]))
theorem dec_digits : ∀ (m : Nat) (l : List UInt8), l.length = m → 1 ≤ m → digs l → (l.head? = some 48 → m = 1) → Lib.decDigits (valD l 0) = l
  | 0, l, _, h, _, _ => by omega
  | m + 1, l, hl, _, hd, h48 => by
    have hne : l ≠ [] := fun e => by rw [e] at hl; simp at hl
    obtain ⟨i, b, rfl⟩ : ∃ i b, l = i ++ [b] := ⟨l.dropLast, l.getLast hne, (List.dropLast_concat_getLast hne).symm⟩
    have hb := hd b (by simp)
    have hob : UInt8.ofNat (48 + (b.toNat - 48)) = b := by
      rw [show 48 + (b.toNat - 48) = b.toNat from by omega]
      exact UInt8.ofNat_toNat
    rw [valD_snoc]
    cases i with
    | nil =>
      rw [show valD [] 0 = 0 from rfl, Nat.mul_zero, Nat.zero_add, Lib.decDigits, dif_pos (by omega), hob]
      rfl
    | cons a i =>
      have hm : 1 ≤ m := by simp at hl; omega
      have ha := hd a (by simp)
      have ha48 : a ≠ 48 := fun e => by
        have h_ := h48 (by rw [e]; rfl)
        omega
      have ha49 : 49 ≤ a.toNat := by
        rcases Nat.lt_or_ge 48 a.toNat with h | h
        · exact h
        · exact absurd (UInt8.toNat_inj.1 (by show a.toNat = 48; omega)) ha48
      have hv : 1 ≤ valD (a :: i) 0 := by
        rw [valD]
        exact Nat.le_trans (by omega) (valD_ge i _)
      have ih := dec_digits m (a :: i) (by simp at hl ⊢; omega) hm (fun c hc => hd c (by simp at hc ⊢; rcases hc with hc | hc <;> simp [hc])) (fun e => absurd (Option.some.inj e) ha48)
      rw [Lib.decDigits, dif_neg (by omega), show (10 * valD (a :: i) 0 + (b.toNat - 48)) / 10 = valD (a :: i) 0 from by omega, show (10 * valD (a :: i) 0 + (b.toNat - 48)) % 10 = b.toNat - 48 from by omega, ih, hob]
theorem readL_inv (l : List UInt8) (h : 0 ≤ readL l) : l = Lib.itoa (readL l) := by
  unfold readL at h ⊢
  by_cases hc : 1 ≤ l.length ∧ l.length ≤ 6 ∧ ¬ (l.head? = some 48 ∧ 1 < l.length)
  · rw [if_pos hc] at h ⊢
    obtain ⟨h1, h6, h48⟩ := hc
    have hd : digs l := fun b hb => by
      by_cases hn : 48 ≤ b.toNat ∧ b.toNat ≤ 57
      · exact hn
      · rw [readD_neg l 0 ⟨b, hb, hn⟩] at h
        omega
    have hp : 10 ^ l.length ≤ 10 ^ 6 := Nat.pow_le_pow_right (by omega) h6
    have h10 : (10 : Nat) ^ 6 = 1000000 := by decide
    have hle : (0 + 1) * 10 ^ l.length ≤ 10000000 := by rw [Nat.zero_add, Nat.one_mul]; exact Nat.le_trans hp (by rw [h10]; decide)
    have hv := readD_val l 0 hle hd
    rw [show ((0 : Nat) : Int) = 0 from rfl] at hv
    rw [hv]
    unfold Lib.itoa
    rw [if_neg (by omega), Int.toNat_natCast]
    exact (dec_digits l.length l rfl h1 hd (fun e => by
      rcases Nat.lt_or_ge 1 l.length with h | h
      · exact absurd ⟨e, h⟩ h48
      · omega)).symm
  · rw [if_neg hc] at h
    omega
/-! ### Splitting and joining -/
def joinL (c : UInt8) : List (List UInt8) → List UInt8
  | [] => []
  | [x] => x
  | x :: y :: r => x ++ c :: joinL c (y :: r)
theorem split_ne (c : Int) : ∀ (l w : List UInt8), splitL c l w ≠ []
  | [], w => by simp [splitL]
  | b :: l, w => by
    rw [splitL]
    split
    · simp
    · exact split_ne c l _
theorem joinL_cons (c : UInt8) (x : List UInt8) (r : List (List UInt8)) (h : r ≠ []) : joinL c (x :: r) = x ++ c :: joinL c r := by
  cases r with
  | nil => exact absurd rfl h
  | cons y r => rfl
theorem join_split (c : UInt8) : ∀ (l w : List UInt8), joinL c (splitL (c.toNat : Int) l w) = w ++ l
  | [], w => by simp [splitL, joinL]
  | b :: l, w => by
    rw [splitL]
    by_cases h : (b.toNat : Int) = (c.toNat : Int)
    · have hb : b = c := UInt8.toNat_inj.1 (by omega)
      rw [if_pos h, joinL_cons c w _ (split_ne _ _ _), join_split c l [], hb]
      rfl
    · rw [if_neg h, join_split c l]
      simp
theorem split_mem (c : Int) : ∀ (l w : List UInt8), ∀ x ∈ splitL c l w, x.length ≤ w.length + l.length
  | [], w, x, hx => by
    simp [splitL] at hx
    subst hx
    simp
  | b :: l, w, x, hx => by
    rw [splitL] at hx
    split at hx
    · rcases List.mem_cons.1 hx with rfl | hx
      · simp
      · have := split_mem c l [] x hx
        simp at this ⊢
        omega
    · have := split_mem c l (w ++ [b]) x hx
      simp at this ⊢
      omega
theorem split_end (c : Int) (x w : List UInt8) (h : ∀ b ∈ x, (b.toNat : Int) ≠ c) : splitL c x w = [w ++ x] := by
  have := split_run c x [] w h
  rw [List.append_nil] at this
  rw [this, splitL]
end Go.Proofs.YtadkmhlohgeihaaDoor.K
