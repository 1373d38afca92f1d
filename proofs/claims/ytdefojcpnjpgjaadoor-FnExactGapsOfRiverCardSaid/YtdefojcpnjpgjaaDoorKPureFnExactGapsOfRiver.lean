/- The plain law of FnExactGapsOfRiver; no conditions. -/
import Derived.Test.YtdefojcpnjpgjaaDoorKx1
import Derived.Test.YtdefojcpnjpgjaaDoorKRStand
import Derived.Test.YtdefojcpnjpgjaaDoorKRMarks
import Derived.Test.YtdefojcpnjpgjaaDoorKx3
set_option linter.unusedVariables false
set_option linter.unusedSimpArgs false
namespace Go.Proofs.YtdefojcpnjpgjaaDoor.K
open Go.RowKit Go.Proofs.YtdefojcpnjpgjaaDoorW.PrintWords Go.Proofs.YtdefojcpnjpgjaaDoorW.PrintLast Go.Proofs.YtdefojcpnjpgjaaDoorW.PrintMore
/-- The leaps from p over the places of a list that are longer than a leap. -/
def gapsL (leap : Int) : Int → List Int → List Int
  | _, [] => []
  | p, q :: r => if q - p > leap then (q - p) :: gapsL leap q r else gapsL leap q r
theorem gapsL_length (leap : Int) : ∀ (l : List Int) (p : Int), (gapsL leap p l).length ≤ l.length
  | [], _ => Nat.le_refl _
  | q :: r, p => by
    have := gapsL_length leap r q
    simp only [gapsL]
    split
    · simp only [List.length_cons]; omega
    · simp only [List.length_cons]; omega
theorem rvStand_eq (t : ByteArray) (ht : t.size ≤ 1048576) (i : Nat) (h : i < t.size) : spec_rvStand.f t ((i : Int) + 1) = some (bt t (i : Int) == 111) := by
  unfold spec_rvStand.f
  rw [if_neg (by omega), w64 (x := (t.size : Int) + 1) (by omega) (by omega), if_neg (by omega), show (i : Int) + 1 - 1 = (i : Int) from by omega, w64 (x := (i : Int)) (by omega) (by omega), if_pos (by omega), if_pos (by omega)]
theorem plGaps_loop (t : ByteArray) (ht : t.size ≤ 1048576) (leap : Int) : ∀ (n k i : Nat) (out : List Int) (last : Int), n = t.size - i → i ≤ t.size → n + 1 < k → out.length ≤ i → 0 ≤ last → last ≤ (i : Int) → spec_plGaps.l0 k t leap out last ((i : Int) + 1) = some (out ++ gapsL leap last (stones t n i ++ [(t.size : Int) + 1])) := by
  intro n
  induction n with
  | zero =>
    intro k i out last hn hi hk ho h0 h1
    obtain ⟨k, rfl⟩ : ∃ k', k = k' + 1 + 1 := ⟨k - 2, by omega⟩
    have ei : i = t.size := by omega
    subst ei
    simp only [spec_plGaps.l0, stones, List.nil_append, gapsL]
    have es : spec_rvStand.f t ((t.size : Int) + 1) = some true := by
      unfold spec_rvStand.f
      rw [if_neg (by omega), w64 (x := (t.size : Int) + 1) (by omega) (by omega), if_pos rfl]
    rw [w64 (x := (t.size : Int) + 1) (by omega) (by omega), if_pos (Int.le_refl _), es, Option.bind_some, if_pos rfl, w64 (x := (t.size : Int) + 1 - last) (by omega) (by omega), w64 (x := (t.size : Int) + 1 + 1) (by omega) (by omega)]
    by_cases c : (t.size : Int) + 1 - last > leap
    · rw [if_pos c, if_pos (by omega), if_neg (by omega), if_pos c]
    · rw [if_neg c, if_neg (by omega), if_neg c, List.append_nil]
  | succ n ih =>
    intro k i out last hn hi hk ho h0 h1
    obtain ⟨k, rfl⟩ : ∃ k', k = k' + 1 := ⟨k - 1, by omega⟩
    have hi' : i < t.size := by omega
    simp only [spec_plGaps.l0, stones]
    rw [w64 (x := (t.size : Int) + 1) (by omega) (by omega), if_pos (by omega), rvStand_eq t ht i hi', Option.bind_some, w64 (x := (i : Int) + 1 - last) (by omega) (by omega), show wrap64 ((i : Int) + 1 + 1) = ((i + 1 : Nat) : Int) + 1 from by unfold wrap64; omega]
    by_cases c : bt t (i : Int) = 111
    · rw [if_pos (by rw [beq_iff_eq]; exact c), if_pos c, List.cons_append]
      simp only [gapsL]
      by_cases d : (i : Int) + 1 - last > leap
      · rw [if_pos d, if_pos (by omega), if_pos d, ih k (i + 1) _ _ (by omega) (by omega) (by omega) (by simp; omega) (by omega) (by omega)]
        simp
      · rw [if_neg d, if_neg d, ih k (i + 1) _ _ (by omega) (by omega) (by omega) (by omega) (by omega) (by omega)]
    · rw [if_neg (by rw [beq_iff_eq]; exact c), if_neg c, ih k (i + 1) _ _ (by omega) (by omega) (by omega) (by omega) (by omega) (by omega)]
theorem plGaps_eq (t : ByteArray) (ht : t.size ≤ 1048576) (leap : Int) (k : Nat) (hk : t.size + 1 < k) : spec_plGaps.f k t leap = some (gapsL leap 0 (stones t t.size 0 ++ [(t.size : Int) + 1])) := by
  unfold spec_plGaps.f
  exact plGaps_loop t ht leap t.size k 0 [] 0 (by omega) (by omega) hk (by simp) (by omega) (by omega)
theorem rd_cons_drop (l : List Int) (i : Nat) (h : i < l.length) : l.drop i = rd l (i : Int) :: l.drop (i + 1) := by
  rw [List.drop_eq_getElem_cons h]
  congr 1
  simp [rd, List.getD_eq_getElem?_getD, List.getElem?_eq_getElem h]
theorem gapsOf_loop (leap : Int) (l : List Int) (hl : l.length ≤ 1048580) (hb : ∀ x ∈ l, 0 ≤ x ∧ x ≤ 1048580) : ∀ (n k i : Nat) (out : List Int), n = l.length - i → 1 ≤ i → i ≤ l.length → n < k → out.length ≤ i → impl_gapsOf.l0 k leap l out (i : Int) = some (out ++ gapsL leap (rd l ((i - 1 : Nat) : Int)) (l.drop i)) := by
  intro n
  induction n with
  | zero =>
    intro k i out hn h1 hi hk ho
    obtain ⟨k, rfl⟩ : ∃ k', k = k' + 1 := ⟨k - 1, by omega⟩
    simp only [impl_gapsOf.l0]
    rw [if_neg (by omega), List.drop_of_length_le (by omega)]
    simp [gapsL]
  | succ n ih =>
    intro k i out hn h1 hi hk ho
    obtain ⟨k, rfl⟩ : ∃ k', k = k' + 1 := ⟨k - 1, by omega⟩
    have hi' : i < l.length := by omega
    have hm : ∀ j : Nat, j < l.length → 0 ≤ rd l (j : Int) ∧ rd l (j : Int) ≤ 1048580 := fun j hj => by
      have e : rd l (j : Int) = l[j] := by simp [rd, List.getD_eq_getElem?_getD, List.getElem?_eq_getElem hj]
      rw [e]
      exact hb _ (List.getElem_mem hj)
    have a := hm i hi'
    have b := hm (i - 1) (by omega)
    simp only [impl_gapsOf.l0]
    rw [show wrap64 ((i : Int) - 1) = ((i - 1 : Nat) : Int) from by unfold wrap64; omega, if_pos (by omega), if_pos (by omega), if_pos (by omega), if_pos (by omega), w64 (x := rd l (i : Int) - rd l ((i - 1 : Nat) : Int)) (by omega) (by omega), show wrap64 ((i : Int) + 1) = ((i + 1 : Nat) : Int) from by unfold wrap64; omega, rd_cons_drop l i hi']
    simp only [gapsL]
    by_cases d : rd l (i : Int) - rd l ((i - 1 : Nat) : Int) > leap
    · rw [if_pos d, if_pos (by omega), if_pos d, ih k (i + 1) _ (by omega) (by omega) (by omega) (by omega) (by simp; omega), show i + 1 - 1 = i from rfl]
      simp
    · rw [if_neg d, if_neg d, ih k (i + 1) _ (by omega) (by omega) (by omega) (by omega) (by omega), show i + 1 - 1 = i from rfl]
theorem gapsOf_eq (t : ByteArray) (ht : t.size ≤ 1048576) (leap : Int) (k : Nat) (hk : t.size + 3 < k) : impl_gapsOf.f k t leap = some (gapsL leap 0 (stones t t.size 0 ++ [(t.size : Int) + 1])) := by
  unfold impl_gapsOf.f
  have hsl := stones_length t t.size 0
  have hln : (stands t).length ≤ t.size + 2 := by unfold stands; simp; omega
  rw [stand_eq t ht k (by omega), Option.bind_some]
  have h := gapsOf_loop leap (stands t) (by omega) (fun x hx => by
    have := (stands_mem t x).1 hx
    omega) ((stands t).length - 1) k 1 [] (by omega) (by omega) (by unfold stands; simp) (by omega) (by simp)
  rw [show ((1 : Nat) : Int) = 1 from rfl] at h
  rw [h, List.nil_append]
  rfl
theorem FnExactGapsOfRiver_pure (a0 : ByteArray) (a1 : Int) (w0 : a0.size ≤ 140737488351232) (w1 : (Lit.int .i64 a1).wf = true) : ∃ k, laws_FnExactGapsOfRiver.f k a0 a1 = some true := by
  have hv : ∃ v : List Int × Bool, v.1.length ≤ 100 ∧ ∀ k, 100 ≤ k → spec_GapsOfRiver.f k a0 a1 = some v ∧ impl_GapsOfRiver.f k a0 a1 = some v := by
    by_cases g : (riv a0 && decide (1 ≤ a1 ∧ a1 ≤ 50)) = true
    · have g' := g
      simp only [Bool.and_eq_true] at g'
      have hz := riv_size g'.1
      have hsl := stones_length a0 a0.size 0
      have hgl := gapsL_length a1 (stones a0 a0.size 0 ++ [(a0.size : Int) + 1]) 0
      refine ⟨(gapsL a1 0 (stones a0 a0.size 0 ++ [(a0.size : Int) + 1]), true), by simp at hgl ⊢; omega, fun k hk => ⟨?_, ?_⟩⟩
      · unfold spec_GapsOfRiver.f
        rw [rvAsked_eq a0 a1 k (by omega), Option.bind_some, if_pos g, plGaps_eq a0 (by omega) a1 k (by omega), Option.bind_some]
      · unfold impl_GapsOfRiver.f
        rw [isCrossed_eq a0 a1, Option.bind_some, if_pos g, gapsOf_eq a0 (by omega) a1 k (by omega), Option.bind_some]
    · refine ⟨([], false), by simp, fun k hk => ⟨?_, ?_⟩⟩
      · unfold spec_GapsOfRiver.f
        rw [rvAsked_eq a0 a1 k (by omega), Option.bind_some, if_neg g]
      · unfold impl_GapsOfRiver.f
        rw [isCrossed_eq a0 a1, Option.bind_some, if_neg g]
  obtain ⟨v, hl, hk⟩ := hv
  obtain ⟨K, hK⟩ := markIntS_ev v.1 (by omega)
  obtain ⟨m, hm⟩ : ∃ m, m = K + 200 := ⟨_, rfl⟩
  refine ⟨m + 1 + 1 + 1, ?_⟩
  unfold laws_FnExactGapsOfRiver.f
  by_cases h : (a0.size : Int) > 1048576
  · rw [if_pos h]
  · rw [if_neg h]
    have e := hk (m + 1 + 1 + 1) (by omega)
    have e2 := hk (m + 1 + 1) (by omega)
    have f := hK (m + 1 + 1) (by omega)
    have f2 := hK (m + 1) (by omega)
    rw [e.1, Option.bind_some, e.2, Option.bind_some, eqIntS_eq v.1 (by omega) (m + 1 + 1 + 1) (by omega), Option.bind_some, if_pos rfl, show (v.2 != v.2) = false from by simp]
    simp only [laws_FnExactGapsOfRiver.j0, laws_FnExactGapsOfRiver.j1]
    rw [if_neg (by decide), f.1, Option.bind_some, f.2, Option.bind_some, if_neg (by omega), if_pos rfl, e2.2, Option.bind_some, eqIntS_eq v.1 (by omega) (m + 1 + 1) (by omega), Option.bind_some, if_pos rfl, show (v.2 != v.2) = false from by simp, if_neg (by decide), f2.2, Option.bind_some, if_neg (by omega), if_pos rfl]
end Go.Proofs.YtdefojcpnjpgjaaDoor.K
