/- Plain facts on isles: whether they are isles, equal isles, marks, their text; no conditions. -/
import Derived.Test.YtadkmhlohgeihaaDoorKFields
import Derived.Test.YtadkmhlohgeihaaDoorKx10
import Derived.Test.YtadkmhlohgeihaaDoorKx11
import Derived.Test.YtadkmhlohgeihaaDoorKx8
import Derived.Test.YtadkmhlohgeihaaDoorKx11
import Derived.Test.YtadkmhlohgeihaaDoorKx12
import Derived.Test.YtadkmhlohgeihaaDoorKx11
set_option linter.unusedVariables false
set_option linter.unusedSimpArgs false
namespace Go.Proofs.YtadkmhlohgeihaaDoor.K
open Go.RowKit Go.Proofs.YtadkmhlohgeihaaDoorW.PrintWords Go.Proofs.YtadkmhlohgeihaaDoorW.PrintLast Go.Proofs.YtadkmhlohgeihaaDoorW.PrintMore
abbrev BR := S46
def Wf64 (x : Int) : Prop := -9223372036854775808 ≤ x ∧ x ≤ 9223372036854775807
theorem w64s {i n : Nat} (h : i < n) (hn : n ≤ 9223372036854775807) : wrap64 ((i : Int) + 1) = ((i + 1 : Nat) : Int) := by rw [w64 (by omega) (by omega)]; omega
theorem rdB (l : List BR) (i : Nat) (h : i < l.length) : rd_T46 l (i : Int) = l[i] := by
  unfold rd_T46
  rw [Int.toNat_natCast, List.getD_eq_getElem?_getD, List.getElem?_eq_getElem h]
  rfl
theorem take_set_succ {α : Type} (l : List α) (i : Nat) (x : α) (h : i < l.length) : (l.set i x).take (i + 1) = l.take i ++ [x] := by
  apply List.ext_getElem?
  intro j
  rcases Nat.lt_trichotomy j i with hj | hj | hj
  · rw [List.getElem?_take_of_lt (by omega), List.getElem?_set_ne (by omega), List.getElem?_append_left (by rw [List.length_take]; omega), List.getElem?_take_of_lt hj]
  · subst hj
    rw [List.getElem?_take_of_lt (by omega), List.getElem?_set_self h, List.getElem?_append_right (by rw [List.length_take]; omega)]
    simp [List.length_take, Nat.min_eq_left (Nat.le_of_lt h)]
  · rw [List.getElem?_take_eq_none (by omega), List.getElem?_eq_none]
    simp [List.length_take]
    omega

/-! #### the argument copied -/
theorem eqBridgeS_l0 (l : List BR) (hl : l.length ≤ 9223372036854775807) : ∀ (d k : Nat) (i : Nat), i + d = l.length → d < k → laws_eqBridgeS.l0 k l l (i : Int) = some true := by
  intro d
  induction d with
  | zero =>
    intro k i hi hk
    obtain ⟨m, rfl⟩ : ∃ m, k = m + 1 := ⟨k - 1, by omega⟩
    simp only [laws_eqBridgeS.l0]
    rw [if_neg (by omega)]
  | succ d ih =>
    intro k i hi hk
    obtain ⟨m, rfl⟩ : ∃ m, k = m + 1 := ⟨k - 1, by omega⟩
    have hlt : i < l.length := by omega
    simp only [laws_eqBridgeS.l0]
    rw [if_pos (by omega), if_pos (by omega), if_pos (by omega)]
    simp only [laws_eqBridge.f, if_true, Option.bind_some]
    rw [w64s hlt (by omega)]
    exact ih m (i + 1) (by omega) (by omega)
theorem eqIsles_ev (n : Int) (l : List BR) (hl : l.length ≤ 9223372036854775807) : ∃ K, ∀ k, K ≤ k → laws_eqIsles.f k n l n l = some true := by
  refine ⟨l.length + 1, fun k hk => ?_⟩
  unfold laws_eqIsles.f laws_eqBridgeS.f
  rw [if_pos rfl, if_pos rfl]
  have h := eqBridgeS_l0 l hl l.length k 0 (by omega) (by omega)
  rw [show ((0 : Nat) : Int) = 0 from rfl] at h
  rw [h]
  simp

/-! #### are they isles -/
def okB (n : Int) (b : BR) : Bool := decide (0 ≤ b.f0 ∧ b.f0 ≤ n - 1 ∧ 0 ≤ b.f1 ∧ b.f1 ≤ n - 1 ∧ b.f0 < b.f1 ∧ 0 ≤ b.f2 ∧ b.f2 ≤ 1000)
def good (n : Int) (l : List BR) : Bool := decide (1 ≤ n ∧ n ≤ 7) && (decide (l.length ≤ 14) && l.all (okB n))
theorem isBridge_eq (n : Int) (b : BR) (h1 : 1 ≤ n) (h2 : n ≤ 7) : spec_isBridge.f n b.f0 b.f1 b.f2 = some (okB n b) := by
  unfold spec_isBridge.f
  rw [w64 (by omega) (by omega)]
  simp only [l1In_eq, Option.bind_some, decide_eq_true_eq]
  by_cases ha : 0 ≤ b.f0 ∧ b.f0 ≤ n - 1
  · rw [if_pos ha]
    by_cases hb : 0 ≤ b.f1 ∧ b.f1 ≤ n - 1
    · rw [if_pos hb]
      by_cases hc : b.f0 < b.f1
      · rw [if_pos hc]
        unfold okB
        congr 1
        rw [decide_eq_decide]
        omega
      · rw [if_neg hc]
        unfold okB
        congr 1
        symm
        rw [decide_eq_false_iff_not]
        omega
    · rw [if_neg hb]
      unfold okB
      congr 1
      symm
      rw [decide_eq_false_iff_not]
      omega
  · rw [if_neg ha]
    unfold okB
    congr 1
    symm
    rw [decide_eq_false_iff_not]
    omega
theorem isGood_l0 (n : Int) (h1 : 1 ≤ n) (h2 : n ≤ 7) (l : List BR) (hl : l.length ≤ 14) : ∀ (d k : Nat) (i : Nat), i + d = l.length → d < k → spec_isGood.l0 k l (l.length : Int) (i : Int) n l = some ((l.drop i).all (okB n)) := by
  intro d
  induction d with
  | zero =>
    intro k i hi hk
    obtain ⟨m, rfl⟩ : ∃ m, k = m + 1 := ⟨k - 1, by omega⟩
    simp only [spec_isGood.l0]
    rw [if_neg (by omega), List.drop_eq_nil_of_le (by omega)]
    rfl
  | succ d ih =>
    intro k i hi hk
    obtain ⟨m, rfl⟩ : ∃ m, k = m + 1 := ⟨k - 1, by omega⟩
    have hlt : i < l.length := by omega
    simp only [spec_isGood.l0]
    rw [if_pos (by omega), if_pos (by omega), if_pos (by omega), rdB l i hlt, isBridge_eq n _ h1 h2, List.drop_eq_getElem_cons hlt]
    simp only [Option.bind_some]
    rw [List.all_cons]
    cases hb : okB n l[i] with
    | false => simp
    | true =>
      rw [if_pos rfl, w64s hlt (by omega), ih m (i + 1) (by omega) (by omega)]
      simp
theorem isGood_at (n : Int) (l : List BR) (k : Nat) (hk : l.length + 3 ≤ k) : spec_isGood.f k n l = some (good n l) := by
  obtain ⟨m, rfl⟩ : ∃ m, k = m + 1 := ⟨k - 1, by omega⟩
  unfold spec_isGood.f good
  rw [l1In_eq]
  simp only [Option.bind_some, decide_eq_true_eq]
  by_cases hn : 1 ≤ n ∧ n ≤ 7
  · rw [if_pos hn]
    simp only [spec_isGood.j0]
    by_cases hl : l.length ≤ 14
    · have : ¬ ((l.length : Int) > 14) := by omega
      have h := isGood_l0 n hn.1 hn.2 l hl l.length m 0 (by omega) (by omega)
      rw [show ((0 : Nat) : Int) = 0 from rfl] at h
      simp [this, hn, hl, h]
    · have : (l.length : Int) > 14 := by omega
      simp [this, hl]
  · rw [if_neg hn]
    simp [spec_isGood.j0, hn]
def wfBR (b : BR) : Prop := Wf64 b.f0 ∧ Wf64 b.f1 ∧ Wf64 b.f2
theorem badB_eq (n : Int) (b : BR) (hb : wfBR b) (h1 : 1 ≤ n) (h2 : n ≤ 7) : badB n b = !okB n b := by
  obtain ⟨⟨a1, a2⟩, ⟨b1, b2⟩, ⟨c1, c2⟩⟩ := hb
  unfold badB inB okB
  rw [w64 (x := n - 1) (by omega) (by omega), Bool.eq_iff_iff]
  simp only [Bool.or_eq_true, Bool.not_eq_true', decide_eq_false_iff_not]
  by_cases h : b.f1 = -9223372036854775808
  · constructor
    · intro _; omega
    · intro _; right; left; omega
  · rw [w64 (by omega) (by omega)]
    omega
theorem areIsles_eq (n : Int) (l : List BR) (hw : ∀ b ∈ l, wfBR b) : impl_AreIsles.f n l = some (good n l) := by
  unfold impl_AreIsles.f good inB
  congr 1
  by_cases hn : 1 ≤ n ∧ n ≤ 7
  · have e : (!l.any (badB n)) = l.all (okB n) := by
      rw [List.not_any_eq_all_not, Bool.eq_iff_iff, List.all_eq_true, List.all_eq_true]
      constructor
      · intro h b hb
        have := h b hb
        rw [badB_eq n b (hw b hb) hn.1 hn.2] at this
        simpa using this
      · intro h b hb
        rw [badB_eq n b (hw b hb) hn.1 hn.2, h b hb]
        rfl
    rw [e]
  · simp [hn]
def markB : Nat → Int → List BR
  | 0, _ => []
  | n + 1, s => ⟨s, s + 1, s + 1 + 1⟩ :: markB n (s + 1 + 1 + 1)
theorem markB_length : ∀ (d : Nat) (s : Int), (markB d s).length = d := by
  intro d
  induction d with
  | zero => intro s; rfl
  | succ d ih => intro s; simp [markB, ih]
theorem rdB_set (zs : List BR) (i : Nat) (x : BR) (h : i < zs.length) : rd_T46 (zs.set i x) (i : Int) = x := by
  rw [rdB _ i (by simpa using h), List.getElem_set_self]
theorem markBridgeS_l0 : ∀ (d k i : Nat) (xs : List BR) (s : Int), i + d = xs.length → d < k → xs.length ≤ 1048576 → 0 ≤ s → s + 3 * d ≤ 4000000 → laws_markBridgeS.l0 k xs s (i : Int) = some (s + 3 * d, xs.take i ++ markB d s) := by
  intro d
  induction d with
  | zero =>
    intro k i xs s hi hk hx h0 h1
    obtain ⟨m, rfl⟩ : ∃ m, k = m + 1 := ⟨k - 1, by omega⟩
    rw [laws_markBridgeS.l0, if_neg (by omega), List.take_of_length_le (by omega)]
    simp [markB]
  | succ d ih =>
    intro k i xs s hi hk hx h0 h1
    obtain ⟨m, rfl⟩ : ∃ m, k = m + 1 := ⟨k - 1, by omega⟩
    have hlt : i < xs.length := by omega
    rw [laws_markBridgeS.l0, if_pos (by omega), if_pos (by omega), w64s hlt (by omega)]
    simp only [Option.bind_some, Int.toNat_natCast]
    rw [w64 (x := s + 1) (by omega) (by omega), w64 (x := s + 1 + 1) (by omega) (by omega), w64 (x := s + 1 + 1 + 1) (by omega) (by omega), rdB_set _ i _ hlt, rdB_set _ i _ (by simpa using hlt), ih m (i + 1) _ (s + 1 + 1 + 1) (by simp only [List.length_set]; omega) (by omega) (by simp only [List.length_set]; omega) (by omega) (by omega), take_set_succ _ _ _ (by simpa using hlt)]
    simp only [markB, List.append_assoc, List.cons_append, List.nil_append]
    rw [List.take_set_of_le (Nat.le_refl _), List.take_set_of_le (Nat.le_refl _)]
    congr 2
    omega
theorem heldBridgeS_l0 : ∀ (d k i : Nat) (ys : List BR) (s : Int), i + d = ys.length → d < k → ys.length ≤ 1048576 → 0 ≤ s → s + 3 * d ≤ 4000000 → ys.drop i = markB d s → laws_heldBridgeS.l0 k ys s (i : Int) = some (s + 3 * d) := by
  intro d
  induction d with
  | zero =>
    intro k i ys s hi hk hx h0 h1 he
    obtain ⟨m, rfl⟩ : ∃ m, k = m + 1 := ⟨k - 1, by omega⟩
    rw [laws_heldBridgeS.l0, if_neg (by omega)]
    simp
  | succ d ih =>
    intro k i ys s hi hk hx h0 h1 he
    obtain ⟨m, rfl⟩ : ∃ m, k = m + 1 := ⟨k - 1, by omega⟩
    have hlt : i < ys.length := by omega
    rw [List.drop_eq_getElem_cons hlt] at he
    simp only [markB, List.cons.injEq] at he
    rw [laws_heldBridgeS.l0, if_pos (by omega), if_pos (by omega), rdB _ i hlt, he.1, if_pos rfl, w64s hlt (by omega), w64 (x := s + 1) (by omega) (by omega), if_pos rfl, w64 (x := s + 1 + 1) (by omega) (by omega), if_pos rfl, w64 (x := s + 1 + 1 + 1) (by omega) (by omega), ih m (i + 1) _ (s + 1 + 1 + 1) (by omega) (by omega) hx (by omega) (by omega) he.2]
    congr 1
    omega
/-- Marks into isles, and read back. -/
theorem markIsles_ev (n : Int) (xs : List BR) (hx : xs.length ≤ 1048576) : ∃ K, ∀ k, K ≤ k → laws_markIsles.f k n xs 1 = some (1 + 3 * (xs.length : Int), markB xs.length 1) ∧ laws_heldIsles.f k n (markB xs.length 1) 1 = some (1 + 3 * (xs.length : Int)) := by
  refine ⟨xs.length + 1, fun k hk => ⟨?_, ?_⟩⟩
  · unfold laws_markIsles.f laws_markBridgeS.f
    have h := markBridgeS_l0 xs.length k 0 xs 1 (by omega) (by omega) hx (by omega) (by omega)
    rw [show ((0 : Nat) : Int) = 0 from rfl, List.take_zero, List.nil_append] at h
    rw [h]
    rfl
  · unfold laws_heldIsles.f laws_heldBridgeS.f
    have h := heldBridgeS_l0 xs.length k 0 (markB xs.length 1) 1 (by rw [markB_length]; omega) (by omega) (by rw [markB_length]; omega) (by omega) (by omega) (by simp)
    rw [show ((0 : Nat) : Int) = 0 from rfl] at h
    rw [h]
    simp only [Option.bind_some]
    rw [if_neg (by omega)]
set_option maxRecDepth 1000000 in
theorem itoa_len : ∀ n, n < 1001 → (Lib.itoa ((n : Nat) : Int)).length ≤ 4 := by decide +kernel
theorem len_at (n : Int) (h : 0 ≤ n ∧ n ≤ 1000) : (Lib.itoa n).length ≤ 4 := by
  obtain ⟨m, rfl⟩ : ∃ m : Nat, n = (m : Int) := ⟨n.toNat, by omega⟩
  exact itoa_len m (by omega)
theorem itoa_at (n : Int) (h : 0 ≤ n ∧ n ≤ 1000) : strconv_Itoa_38.f n = some (mkB (Lib.itoa n)) := by
  unfold strconv_Itoa_38.f
  rw [if_pos ⟨by omega, by omega⟩]
  rfl
def okT (b : BR) : Prop := (0 ≤ b.f0 ∧ b.f0 ≤ 1000) ∧ (0 ≤ b.f1 ∧ b.f1 ≤ 1000) ∧ (0 ≤ b.f2 ∧ b.f2 ≤ 1000)
/-- A bridge's text. -/
def bT (b : BR) : List UInt8 := Lib.itoa b.f0 ++ [45] ++ Lib.itoa b.f1 ++ [58] ++ Lib.itoa b.f2
theorem bT_len (b : BR) (h : okT b) : (bT b).length ≤ 14 := by
  have h0 := len_at _ h.1
  have h1 := len_at _ h.2.1
  have h2 := len_at _ h.2.2
  simp only [bT, List.length_append, List.length_cons, List.length_nil]
  omega
def tailT : List BR → List UInt8
  | [] => []
  | b :: l => [44] ++ bT b ++ tailT l
def textT : List BR → List UInt8
  | [] => []
  | b :: l => bT b ++ tailT l
theorem tailT_len : ∀ l : List BR, (∀ b ∈ l, okT b) → (tailT l).length ≤ 15 * l.length
  | [], _ => Nat.le_refl _
  | b :: l, h => by
    have h1 := bT_len b (h b (by simp))
    have h2 := tailT_len l (fun m hm => h m (by simp [hm]))
    simp only [tailT, List.length_cons, List.length_append, List.length_nil]
    omega
theorem textT_len (l : List BR) (h : ∀ b ∈ l, okT b) : (textT l).length ≤ 15 * l.length := by
  cases l with
  | nil => exact Nat.le_refl _
  | cons b l =>
    have h1 := bT_len b (h b (by simp))
    have h2 := tailT_len l (fun m hm => h m (by simp [hm]))
    simp only [textT, List.length_cons, List.length_append]
    omega
theorem join_text : ∀ l : List BR, Lib.join (l.map bT) [44] = textT l
  | [] => rfl
  | n :: l => by
    rw [List.map_cons, Lib.join_cons]
    simp only [textT]
    congr 1
    unfold Lib.joinTail
    induction l with
    | nil => rfl
    | cons m l ih => simp [tailT, ← ih]
theorem drop_at (l : List BR) (i : Nat) (h : i < l.length) : l.drop i = l[i] :: l.drop (i + 1) := List.drop_eq_getElem_cons h
/-- The text of isles. -/
def isT (n : Int) (l : List BR) : ByteArray := mkB (Lib.itoa n ++ [105] ++ textT l)
theorem islesText_loop (n : Int) (hn : 0 ≤ n ∧ n ≤ 1000) (l : List BR) (hl : l.length ≤ 14) (hg : ∀ b ∈ l, okT b) : ∀ (d k i : Nat), d = l.length - i → i ≤ l.length → d < k → impl_islesText.l0 k ((l.take i).map fun b => mkB (bT b)) l (l.length : Int) (i : Int) n l = some (isT n l) := by
  intro d
  induction d with
  | zero =>
    intro k i hd hi hk
    obtain ⟨k, rfl⟩ : ∃ k', k = k' + 1 := ⟨k - 1, by omega⟩
    simp only [impl_islesText.l0]
    have hlen := len_at n hn
    have hx := textT_len l hg
    rw [if_neg (by omega), List.take_of_length_le (by omega), itoa_at n hn, Option.bind_some, mkB_size, if_pos (by omega)]
    unfold strings_Join.f
    have e : ((l.map fun b => mkB (bT b)).map fun x => x.data.toList) = l.map bT := by
      rw [List.map_map]
      exact List.map_congr_left (fun x _ => mkB_data _)
    rw [show (⟨#[44]⟩ : ByteArray) = mkB [44] from rfl, e, mkB_data, join_text, if_pos ⟨by rw [List.length_map]; omega, by omega⟩, Option.bind_some, show (⟨#[105]⟩ : ByteArray) = mkB [105] from rfl, mkB_append, show (⟨(textT l).toArray⟩ : ByteArray) = mkB (textT l) from rfl, mkB_append, mkB_size, mkB_size, if_pos (by simp; omega)]
    rfl
  | succ d ih =>
    intro k i hd hi hk
    obtain ⟨k, rfl⟩ : ∃ k', k = k' + 1 := ⟨k - 1, by omega⟩
    have hi' : i < l.length := by omega
    have hb := hg _ (List.getElem_mem hi')
    have e0 := itoa_at _ hb.1
    have e1 := itoa_at _ hb.2.1
    have e2 := itoa_at _ hb.2.2
    have l0 := len_at _ hb.1
    have l1 := len_at _ hb.2.1
    have l2 := len_at _ hb.2.2
    have hw : wrap64 ((i : Int) + 1) = ((i + 1 : Nat) : Int) := by unfold wrap64; omega
    have c45 : (⟨#[45]⟩ : ByteArray) = mkB [45] := rfl
    have c58 : (⟨#[58]⟩ : ByteArray) = mkB [58] := rfl
    have := ih k (i + 1) (by omega) (by omega) (by omega)
    rw [List.take_succ_eq_append_getElem hi', List.map_append] at this
    simp only [impl_islesText.l0]
    rw [rdB l i hi', if_pos (by omega), if_pos (by omega), if_pos (by omega)]
    simp only [e0, e1, e2, c45, c58, Option.bind_some, mkB_append, mkB_size, hw, List.length_append, List.length_cons, List.length_nil, List.length_map, List.length_take]
    rw [if_pos (by omega), if_pos (by omega), if_pos (by omega), if_pos (by omega), if_pos (by omega)]
    exact this
theorem islesText_eq (n : Int) (hn : 0 ≤ n ∧ n ≤ 1000) (l : List BR) (hl : l.length ≤ 14) (hg : ∀ b ∈ l, okT b) (k : Nat) (hk : 60 ≤ k) : impl_islesText.f k n l = some (isT n l) := by
  unfold impl_islesText.f
  exact islesText_loop n hn l hl hg l.length k 0 (by omega) (by omega) (by omega)
end Go.Proofs.YtadkmhlohgeihaaDoor.K
