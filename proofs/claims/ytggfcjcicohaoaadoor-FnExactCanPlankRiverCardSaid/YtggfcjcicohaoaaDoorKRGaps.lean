/- The leaps of a river that are too long: the reference and the program; no conditions. -/
import Derived.Test.YtggfcjcicohaoaaDoorKx2
import Derived.Test.YtggfcjcicohaoaaDoorKx1
import Derived.Test.YtggfcjcicohaoaaDoorKRStand
import Derived.Test.YtggfcjcicohaoaaDoorKMarks
set_option linter.unusedVariables false
set_option linter.unusedSimpArgs false
namespace Go.Proofs.YtggfcjcicohaoaaDoor.K
open Go.RowKit Go.Proofs.YtggfcjcicohaoaaDoorW.PrintWords Go.Proofs.YtggfcjcicohaoaaDoorW.PrintLast Go.Proofs.YtggfcjcicohaoaaDoorW.PrintMore
/-- The leaps from p over the places of a list that are longer than a leap. -/
def gapsL (leap : Int) : Int → List Int → List Int
  | _, [] => []
  | p, q :: r => if q - p > leap then (q - p) :: gapsL leap q r else gapsL leap q r
theorem gapsL_length (leap : Int) : ∀ (l : List Int) (p : Int), (gapsL leap p l).length ≤ l.length
  | [], _ => Nat.le_refl _
  | q :: r, p => by
    have := gapsL_length leap r q
    simp only [gapsL]
    split
    · simp only [List.length_cons]; omega
    · simp only [List.length_cons]; omega
theorem rvStand_eq (t : ByteArray) (ht : t.size ≤ 1048576) (i : Nat) (h : i < t.size) : spec_rvStand.f t ((i : Int) + 1) = some (bt t (i : Int) == 111) := by
  unfold spec_rvStand.f
  rw [if_neg (by omega), w64 (x := (t.size : Int) + 1) (by omega) (by omega), if_neg (by omega), show (i : Int) + 1 - 1 = (i : Int) from by omega, w64 (x := (i : Int)) (by omega) (by omega), if_pos (by omega), if_pos (by omega)]
theorem plGaps_loop (t : ByteArray) (ht : t.size ≤ 1048576) (leap : Int) : ∀ (n k i : Nat) (out : List Int) (last : Int), n = t.size - i → i ≤ t.size → n + 1 < k → out.length ≤ i → 0 ≤ last → last ≤ (i : Int) → spec_plGaps.l0 k t leap out last ((i : Int) + 1) = some (out ++ gapsL leap last (stones t n i ++ [(t.size : Int) + 1])) := by
  intro n
  induction n with
  | zero =>
    intro k i out last hn hi hk ho h0 h1
    obtain ⟨k, rfl⟩ : ∃ k', k = k' + 1 + 1 := ⟨k - 2, by omega⟩
    have ei : i = t.size := by omega
    subst ei
    simp only [spec_plGaps.l0, stones, List.nil_append, gapsL]
    have es : spec_rvStand.f t ((t.size : Int) + 1) = some true := by
      unfold spec_rvStand.f
      rw [if_neg (by omega), w64 (x := (t.size : Int) + 1) (by omega) (by omega), if_pos rfl]
    rw [w64 (x := (t.size : Int) + 1) (by omega) (by omega), if_pos (Int.le_refl _), es, Option.bind_some, if_pos rfl, w64 (x := (t.size : Int) + 1 - last) (by omega) (by omega), w64 (x := (t.size : Int) + 1 + 1) (by omega) (by omega)]
    by_cases c : (t.size : Int) + 1 - last > leap
    · rw [if_pos c, if_pos (by omega), if_neg (by omega), if_pos c]
    · rw [if_neg c, if_neg (by omega), if_neg c, List.append_nil]
  | succ n ih =>
    intro k i out last hn hi hk ho h0 h1
    obtain ⟨k, rfl⟩ : ∃ k', k = k' + 1 := ⟨k - 1, by omega⟩
    have hi' : i < t.size := by omega
    simp only [spec_plGaps.l0, stones]
    rw [w64 (x := (t.size : Int) + 1) (by omega) (by omega), if_pos (by omega), rvStand_eq t ht i hi', Option.bind_some, w64 (x := (i : Int) + 1 - last) (by omega) (by omega), show wrap64 ((i : Int) + 1 + 1) = ((i + 1 : Nat) : Int) + 1 from by unfold wrap64; omega]
    by_cases c : bt t (i : Int) = 111
    · rw [if_pos (by rw [beq_iff_eq]; exact c), if_pos c, List.cons_append]
      simp only [gapsL]
      by_cases d : (i : Int) + 1 - last > leap
      · rw [if_pos d, if_pos (by omega), if_pos d, ih k (i + 1) _ _ (by omega) (by omega) (by omega) (by simp; omega) (by omega) (by omega)]
        simp
      · rw [if_neg d, if_neg d, ih k (i + 1) _ _ (by omega) (by omega) (by omega) (by omega) (by omega) (by omega)]
    · rw [if_neg (by rw [beq_iff_eq]; exact c), if_neg c, ih k (i + 1) _ _ (by omega) (by omega) (by omega) (by omega) (by omega) (by omega)]
theorem plGaps_eq (t : ByteArray) (ht : t.size ≤ 1048576) (leap : Int) (k : Nat) (hk : t.size + 1 < k) : spec_plGaps.f k t leap = some (gapsL leap 0 (stones t t.size 0 ++ [(t.size : Int) + 1])) := by
  unfold spec_plGaps.f
  exact plGaps_loop t ht leap t.size k 0 [] 0 (by omega) (by omega) hk (by simp) (by omega) (by omega)
theorem gapsOf_loop (leap : Int) (l : List Int) (hl : l.length ≤ 1048580) (hb : ∀ x ∈ l, 0 ≤ x ∧ x ≤ 1048580) : ∀ (n k i : Nat) (out : List Int), n = l.length - i → 1 ≤ i → i ≤ l.length → n < k → out.length ≤ i → impl_gapsOf.l0 k leap l out (i : Int) = some (out ++ gapsL leap (rd l ((i - 1 : Nat) : Int)) (l.drop i)) := by
  intro n
  induction n with
  | zero =>
    intro k i out hn h1 hi hk ho
    obtain ⟨k, rfl⟩ : ∃ k', k = k' + 1 := ⟨k - 1, by omega⟩
    simp only [impl_gapsOf.l0]
    rw [if_neg (by omega), List.drop_of_length_le (by omega)]
    simp [gapsL]
  | succ n ih =>
    intro k i out hn h1 hi hk ho
    obtain ⟨k, rfl⟩ : ∃ k', k = k' + 1 := ⟨k - 1, by omega⟩
    have hi' : i < l.length := by omega
    have hm : ∀ j : Nat, j < l.length → 0 ≤ rd l (j : Int) ∧ rd l (j : Int) ≤ 1048580 := fun j hj => by
      have e : rd l (j : Int) = l[j] := by simp [rd, List.getD_eq_getElem?_getD, List.getElem?_eq_getElem hj]
      rw [e]
      exact hb _ (List.getElem_mem hj)
    have a := hm i hi'
    have b := hm (i - 1) (by omega)
    simp only [impl_gapsOf.l0]
    rw [show wrap64 ((i : Int) - 1) = ((i - 1 : Nat) : Int) from by unfold wrap64; omega, if_pos (by omega), if_pos (by omega), if_pos (by omega), if_pos (by omega), w64 (x := rd l (i : Int) - rd l ((i - 1 : Nat) : Int)) (by omega) (by omega), show wrap64 ((i : Int) + 1) = ((i + 1 : Nat) : Int) from by unfold wrap64; omega, rd_cons_drop l i hi']
    simp only [gapsL]
    by_cases d : rd l (i : Int) - rd l ((i - 1 : Nat) : Int) > leap
    · rw [if_pos d, if_pos (by omega), if_pos d, ih k (i + 1) _ (by omega) (by omega) (by omega) (by omega) (by simp; omega), show i + 1 - 1 = i from rfl]
      simp
    · rw [if_neg d, if_neg d, ih k (i + 1) _ (by omega) (by omega) (by omega) (by omega) (by omega), show i + 1 - 1 = i from rfl]
theorem gapsOf_eq (t : ByteArray) (ht : t.size ≤ 1048576) (leap : Int) (k : Nat) (hk : t.size + 3 < k) : impl_gapsOf.f k t leap = some (gapsL leap 0 (stones t t.size 0 ++ [(t.size : Int) + 1])) := by
  unfold impl_gapsOf.f
  have hsl := stones_length t t.size 0
  have hln : (stands t).length ≤ t.size + 2 := by unfold stands; simp; omega
  rw [stand_eq t ht k (by omega), Option.bind_some]
  have h := gapsOf_loop leap (stands t) (by omega) (fun x hx => by
    have := (stands_mem t x).1 hx
    omega) ((stands t).length - 1) k 1 [] (by omega) (by omega) (by unfold stands; simp) (by omega) (by simp)
  rw [show ((1 : Nat) : Int) = 1 from rfl] at h
  rw [h, List.nil_append]
  rfl
end Go.Proofs.YtggfcjcicohaoaaDoor.K
