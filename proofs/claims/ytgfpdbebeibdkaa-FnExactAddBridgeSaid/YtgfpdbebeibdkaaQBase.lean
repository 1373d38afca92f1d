/- Plain facts on the printed functions that every law over isles uses: what they come to, with enough rounds. -/
import Derived.Test.YtgfpdbebeibdkaaQOpen
import Derived.Test.YtgfpdbebeibdkaaQx4
import Derived.Test.YtgfpdbebeibdkaaQx9
import Derived.Test.YtgfpdbebeibdkaaQx2
import Derived.Test.YtgfpdbebeibdkaaQx1
import Derived.Test.YtgfpdbebeibdkaaQx1
import Derived.OpenShut
namespace Go.Proofs.Ytgfpdbebeibdkaa.Q
open Go.RowKit Go.Proofs.YtgfpdbebeibdkaaW.PrintWords Go.Proofs.YtgfpdbebeibdkaaW.PrintLast Go.Proofs.YtgfpdbebeibdkaaW.PrintMore
set_option linter.unusedVariables false
set_option linter.unusedSimpArgs false
abbrev LB := S26
abbrev BR := S34
def cv (b : LB) : BR := ⟨b.f0, b.f1, b.f2⟩
def Wf64 (x : Int) : Prop := -9223372036854775808 ≤ x ∧ x ≤ 9223372036854775807
theorem wf64_of {x : Int} (h : (Lit.int .i64 x).wf = true) : Wf64 x := bounds_i64 h
theorem w64 {x : Int} (h : -9223372036854775808 ≤ x) (h' : x ≤ 9223372036854775807) : wrap64 x = x := by unfold wrap64; omega
theorem w64s {i n : Nat} (h : i < n) (hn : n ≤ 9223372036854775807) : wrap64 ((i : Int) + 1) = ((i + 1 : Nat) : Int) := by rw [w64 (by omega) (by omega)]; omega
theorem rdB (l : List BR) (i : Nat) (h : i < l.length) : rd_T34 l (i : Int) = l[i] := by
  unfold rd_T34
  rw [Int.toNat_natCast, List.getD_eq_getElem?_getD, List.getElem?_eq_getElem h]
  rfl
theorem rdL (l : List LB) (i : Nat) (h : i < l.length) : rd_T26 l (i : Int) = l[i] := by
  unfold rd_T26
  rw [Int.toNat_natCast, List.getD_eq_getElem?_getD, List.getElem?_eq_getElem h]
  rfl
theorem rdI (l : List Int) (i : Nat) (h : i < l.length) : rd l (i : Int) = l[i] := by
  unfold rd
  rw [Int.toNat_natCast, List.getD_eq_getElem?_getD, List.getElem?_eq_getElem h]
  rfl
theorem take_set_succ {α : Type} (l : List α) (i : Nat) (x : α) (h : i < l.length) : (l.set i x).take (i + 1) = l.take i ++ [x] := by
  apply List.ext_getElem?
  intro j
  rcases Nat.lt_trichotomy j i with hj | hj | hj
  · rw [List.getElem?_take_of_lt (by omega), List.getElem?_set_ne (by omega), List.getElem?_append_left (by rw [List.length_take]; omega), List.getElem?_take_of_lt hj]
  · subst hj
    rw [List.getElem?_take_of_lt (by omega), List.getElem?_set_self h, List.getElem?_append_right (by rw [List.length_take]; omega)]
    simp [List.length_take, Nat.min_eq_left (Nat.le_of_lt h)]
  · rw [List.getElem?_take_eq_none (by omega), List.getElem?_eq_none]
    simp [List.length_take]
    omega

/-! #### the argument copied -/
theorem toBridgeS_l0 (l : List LB) (hl : l.length ≤ 1048576) : ∀ (d k : Nat) (ys : List BR) (i : Nat), i + d = l.length → d < k → ys.length = l.length → laws_toBridgeS.l0 k l ys (i : Int) = some (ys.take i ++ (l.drop i).map cv) := by
  intro d
  induction d with
  | zero =>
    intro k ys i hi hk hy
    obtain ⟨m, rfl⟩ : ∃ m, k = m + 1 := ⟨k - 1, by omega⟩
    simp only [laws_toBridgeS.l0]
    rw [if_neg (by omega), List.take_of_length_le (by omega), List.drop_eq_nil_of_le (by omega)]
    simp
  | succ d ih =>
    intro k ys i hi hk hy
    obtain ⟨m, rfl⟩ : ∃ m, k = m + 1 := ⟨k - 1, by omega⟩
    have hlt : i < l.length := by omega
    simp only [laws_toBridgeS.l0]
    rw [if_pos (by omega), if_pos (by omega), rdL l i hlt]
    simp only [laws_toBridge.f, Option.bind_some]
    rw [if_pos (by omega), Int.toNat_natCast, w64s hlt (by omega), ih m _ (i + 1) (by omega) (by omega) (by rw [List.length_set]; exact hy)]
    congr 1
    rw [take_set_succ _ _ _ (by omega), List.drop_eq_getElem_cons hlt, List.map_cons, List.append_assoc]
    rfl
theorem toIsles_ev (n : Int) (l : List LB) (hl : l.length ≤ 1048576) : ∃ K, ∀ k, K ≤ k → laws_toIsles.f k n l = some (n, l.map cv) := by
  refine ⟨l.length + 1, fun k hk => ?_⟩
  unfold laws_toIsles.f laws_toBridgeS.f
  rw [if_pos (by omega), if_pos (by omega)]
  have h := toBridgeS_l0 l hl l.length k (List.replicate ((l.length : Int)).toNat z34) 0 (by omega) (by omega) (by simp)
  simp only [Int.ofNat_zero, Int.natCast_zero] at h
  first | rw [h] | (have h2 := h; simp only [Nat.cast_ofNat] at h2; rw [h2])
  simp
theorem szIsles_eq (n : Int) (l : List LB) (hl : l.length ≤ 9223372036854775807) : laws_szIsles.f n l 1048576 = some (if l.length ≤ 1048576 then 1048576 - (l.length : Int) else -1) := by
  unfold laws_szIsles.f laws_szBridgeS.f
  rw [w64 (by omega) (by omega)]
  by_cases h : l.length ≤ 1048576
  · rw [if_neg (by omega), if_pos h]
    simp only [Option.bind_some]
    rw [if_neg (by omega)]
  · rw [if_pos (by omega), if_neg h]
    simp

/-! #### two equal ones -/
theorem eqBridgeS_l0 (l : List BR) (hl : l.length ≤ 9223372036854775807) : ∀ (d k : Nat) (i : Nat), i + d = l.length → d < k → laws_eqBridgeS.l0 k l l (i : Int) = some true := by
  intro d
  induction d with
  | zero =>
    intro k i hi hk
    obtain ⟨m, rfl⟩ : ∃ m, k = m + 1 := ⟨k - 1, by omega⟩
    simp only [laws_eqBridgeS.l0]
    rw [if_neg (by omega)]
  | succ d ih =>
    intro k i hi hk
    obtain ⟨m, rfl⟩ : ∃ m, k = m + 1 := ⟨k - 1, by omega⟩
    have hlt : i < l.length := by omega
    simp only [laws_eqBridgeS.l0]
    rw [if_pos (by omega), if_pos (by omega), if_pos (by omega)]
    simp only [laws_eqBridge.f, if_true, Option.bind_some]
    rw [w64s hlt (by omega)]
    exact ih m (i + 1) (by omega) (by omega)
theorem eqIsles_ev (n : Int) (l : List BR) (hl : l.length ≤ 9223372036854775807) : ∃ K, ∀ k, K ≤ k → laws_eqIsles.f k n l n l = some true := by
  refine ⟨l.length + 1, fun k hk => ?_⟩
  unfold laws_eqIsles.f laws_eqBridgeS.f
  rw [if_pos rfl, if_pos rfl]
  have h := eqBridgeS_l0 l hl l.length k 0 (by omega) (by omega)
  rw [show ((0 : Nat) : Int) = 0 from rfl] at h
  rw [h]
  simp

/-! #### are they isles -/
def okB (n : Int) (b : BR) : Bool := decide (0 ≤ b.f0 ∧ b.f0 ≤ n - 1 ∧ 0 ≤ b.f1 ∧ b.f1 ≤ n - 1 ∧ b.f0 < b.f1 ∧ 0 ≤ b.f2 ∧ b.f2 ≤ 1000)
def good (n : Int) (l : List BR) : Bool := decide (1 ≤ n ∧ n ≤ 7) && (decide (l.length ≤ 14) && l.all (okB n))
theorem l1In_eq (a lo hi : Int) : spec_l1In.f a lo hi = some (decide (lo ≤ a ∧ a ≤ hi)) := by
  unfold spec_l1In.f
  by_cases h : a ≥ lo
  · rw [if_pos h]
    have : lo ≤ a := h
    simp [this]
  · rw [if_neg h]
    have : ¬ lo ≤ a := h
    simp [this]
theorem isBridge_eq (n : Int) (b : BR) (h1 : 1 ≤ n) (h2 : n ≤ 7) : spec_isBridge.f n b.f0 b.f1 b.f2 = some (okB n b) := by
  unfold spec_isBridge.f
  rw [w64 (by omega) (by omega)]
  simp only [l1In_eq, Option.bind_some, decide_eq_true_eq]
  by_cases ha : 0 ≤ b.f0 ∧ b.f0 ≤ n - 1
  · rw [if_pos ha]
    by_cases hb : 0 ≤ b.f1 ∧ b.f1 ≤ n - 1
    · rw [if_pos hb]
      by_cases hc : b.f0 < b.f1
      · rw [if_pos hc]
        unfold okB
        congr 1
        rw [decide_eq_decide]
        omega
      · rw [if_neg hc]
        unfold okB
        congr 1
        symm
        rw [decide_eq_false_iff_not]
        omega
    · rw [if_neg hb]
      unfold okB
      congr 1
      symm
      rw [decide_eq_false_iff_not]
      omega
  · rw [if_neg ha]
    unfold okB
    congr 1
    symm
    rw [decide_eq_false_iff_not]
    omega
theorem isGood_l0 (n : Int) (h1 : 1 ≤ n) (h2 : n ≤ 7) (l : List BR) (hl : l.length ≤ 14) : ∀ (d k : Nat) (i : Nat), i + d = l.length → d < k → spec_isGood.l0 k l (l.length : Int) (i : Int) n l = some ((l.drop i).all (okB n)) := by
  intro d
  induction d with
  | zero =>
    intro k i hi hk
    obtain ⟨m, rfl⟩ : ∃ m, k = m + 1 := ⟨k - 1, by omega⟩
    simp only [spec_isGood.l0]
    rw [if_neg (by omega), List.drop_eq_nil_of_le (by omega)]
    rfl
  | succ d ih =>
    intro k i hi hk
    obtain ⟨m, rfl⟩ : ∃ m, k = m + 1 := ⟨k - 1, by omega⟩
    have hlt : i < l.length := by omega
    simp only [spec_isGood.l0]
    rw [if_pos (by omega), if_pos (by omega), if_pos (by omega), rdB l i hlt, isBridge_eq n _ h1 h2, List.drop_eq_getElem_cons hlt]
    simp only [Option.bind_some]
    rw [List.all_cons]
    cases hb : okB n l[i] with
    | false => simp
    | true =>
      rw [if_pos rfl, w64s hlt (by omega), ih m (i + 1) (by omega) (by omega)]
      simp
theorem isGood_ev (n : Int) (l : List BR) : ∃ K, ∀ k, K ≤ k → spec_isGood.f k n l = some (good n l) := by
  refine ⟨l.length + 3, fun k hk => ?_⟩
  obtain ⟨m, rfl⟩ : ∃ m, k = m + 1 := ⟨k - 1, by omega⟩
  unfold spec_isGood.f good
  rw [l1In_eq]
  simp only [Option.bind_some, decide_eq_true_eq]
  by_cases hn : 1 ≤ n ∧ n ≤ 7
  · rw [if_pos hn]
    simp only [spec_isGood.j0]
    by_cases hl : l.length ≤ 14
    · have : ¬ ((l.length : Int) > 14) := by omega
      have h := isGood_l0 n hn.1 hn.2 l hl l.length m 0 (by omega) (by omega)
      rw [show ((0 : Nat) : Int) = 0 from rfl] at h
      simp [this, hn, hl, h]
    · have : (l.length : Int) > 14 := by omega
      simp [this, hl]
  · rw [if_neg hn]
    simp [spec_isGood.j0, hn]
def wfBR (b : BR) : Prop := Wf64 b.f0 ∧ Wf64 b.f1 ∧ Wf64 b.f2
theorem badB_eq (n : Int) (b : BR) (hb : wfBR b) (h1 : 1 ≤ n) (h2 : n ≤ 7) : badB n b = !okB n b := by
  obtain ⟨⟨a1, a2⟩, ⟨b1, b2⟩, ⟨c1, c2⟩⟩ := hb
  unfold badB inB okB
  rw [w64 (x := n - 1) (by omega) (by omega), Bool.eq_iff_iff]
  simp only [Bool.or_eq_true, Bool.not_eq_true', decide_eq_false_iff_not]
  by_cases h : b.f1 = -9223372036854775808
  · constructor
    · intro _; omega
    · intro _; right; left; omega
  · rw [w64 (by omega) (by omega)]
    omega
theorem areIsles_eq (n : Int) (l : List BR) (hw : ∀ b ∈ l, wfBR b) : impl_AreIsles.f n l = some (good n l) := by
  unfold impl_AreIsles.f good inB
  congr 1
  by_cases hn : 1 ≤ n ∧ n ≤ 7
  · have e : (!l.any (badB n)) = l.all (okB n) := by
      rw [List.not_any_eq_all_not, Bool.eq_iff_iff, List.all_eq_true, List.all_eq_true]
      constructor
      · intro h b hb
        have := h b hb
        rw [badB_eq n b (hw b hb) hn.1 hn.2] at this
        simpa using this
      · intro h b hb
        rw [badB_eq n b (hw b hb) hn.1 hn.2, h b hb]
        rfl
    rw [e]
  · simp [hn]
theorem wf_cv (l : List LB) (hw : ∀ b ∈ l, WfB b) : ∀ b ∈ l.map cv, wfBR b := by
  intro b hb
  obtain ⟨a, ha, rfl⟩ := List.mem_map.1 hb
  obtain ⟨h0, h1, h2⟩ := hw a ha
  exact ⟨wf64_of h0, wf64_of h1, wf64_of h2⟩
end Go.Proofs.Ytgfpdbebeibdkaa.Q
