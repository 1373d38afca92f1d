/- The plain law of FnExactIslesText; no conditions. -/
import Derived.Test.YtglkhajhfldpcaaDoorKx2
import Derived.Test.YtglkhajhfldpcaaDoorKx1
import Derived.Test.YtglkhajhfldpcaaDoorKBase
import Derived.Test.YtglkhajhfldpcaaDoorKx6
import Derived.Lib.Join
set_option linter.unusedVariables false
set_option linter.unusedSimpArgs false
namespace Go.Proofs.YtglkhajhfldpcaaDoor.K
open Go.RowKit Go.Proofs.YtglkhajhfldpcaaDoorW.PrintWords Go.Proofs.YtglkhajhfldpcaaDoorW.PrintLast Go.Proofs.YtglkhajhfldpcaaDoorW.PrintMore
def mkB (l : List UInt8) : ByteArray := ⟨l.toArray⟩
theorem mkB_append (a b : List UInt8) : mkB a ++ mkB b = mkB (a ++ b) := by
  refine ByteArray.ext (Array.toList_inj.1 ?_)
  rw [ByteArray.data_append, Array.toList_append]
  simp [mkB]
theorem mkB_size (a : List UInt8) : (mkB a).size = a.length := by simp [mkB, ByteArray.size]
theorem mkB_data (a : List UInt8) : (mkB a).data.toList = a := by simp [mkB]
set_option maxRecDepth 1000000 in
theorem l1Num_tab : ∀ n, n < 1001 → spec_l1Num.f 5 ((n : Nat) : Int) = some (mkB (Lib.itoa (n : Int))) := by decide +kernel
set_option maxRecDepth 1000000 in
theorem itoa_len : ∀ n, n < 1001 → (Lib.itoa ((n : Nat) : Int)).length ≤ 4 := by decide +kernel
theorem l1Num_up (n : Int) (r : ByteArray) (h : spec_l1Num.f 5 n = some r) : ∀ k, spec_l1Num.f (5 + k) n = some r
  | 0 => h
  | k + 1 => spec_l1Num.mono n (5 + k) r (l1Num_up n r h k)
theorem num_at (n : Int) (h : 0 ≤ n ∧ n ≤ 1000) (k : Nat) (hk : 5 ≤ k) : spec_l1Num.f k n = some (mkB (Lib.itoa n)) := by
  obtain ⟨m, rfl⟩ : ∃ m : Nat, n = (m : Int) := ⟨n.toNat, by omega⟩
  have := l1Num_up _ _ (l1Num_tab m (by omega)) (k - 5)
  rwa [show 5 + (k - 5) = k from by omega] at this
theorem len_at (n : Int) (h : 0 ≤ n ∧ n ≤ 1000) : (Lib.itoa n).length ≤ 4 := by
  obtain ⟨m, rfl⟩ : ∃ m : Nat, n = (m : Int) := ⟨n.toNat, by omega⟩
  exact itoa_len m (by omega)
theorem itoa_at (n : Int) (h : 0 ≤ n ∧ n ≤ 1000) : strconv_Itoa_46.f n = some (mkB (Lib.itoa n)) := by
  unfold strconv_Itoa_46.f
  rw [if_pos ⟨by omega, by omega⟩]
  rfl
def okT (b : BR) : Prop := (0 ≤ b.f0 ∧ b.f0 ≤ 1000) ∧ (0 ≤ b.f1 ∧ b.f1 ≤ 1000) ∧ (0 ≤ b.f2 ∧ b.f2 ≤ 1000)
/-- A bridge's text. -/
def bT (b : BR) : List UInt8 := Lib.itoa b.f0 ++ [45] ++ Lib.itoa b.f1 ++ [58] ++ Lib.itoa b.f2
theorem bT_len (b : BR) (h : okT b) : (bT b).length ≤ 14 := by
  have h0 := len_at _ h.1
  have h1 := len_at _ h.2.1
  have h2 := len_at _ h.2.2
  simp only [bT, List.length_append, List.length_cons, List.length_nil]
  omega
def tailT : List BR → List UInt8
  | [] => []
  | b :: l => [44] ++ bT b ++ tailT l
def textT : List BR → List UInt8
  | [] => []
  | b :: l => bT b ++ tailT l
theorem tailT_len : ∀ l : List BR, (∀ b ∈ l, okT b) → (tailT l).length ≤ 15 * l.length
  | [], _ => Nat.le_refl _
  | b :: l, h => by
    have h1 := bT_len b (h b (by simp))
    have h2 := tailT_len l (fun m hm => h m (by simp [hm]))
    simp only [tailT, List.length_cons, List.length_append, List.length_nil]
    omega
theorem textT_len (l : List BR) (h : ∀ b ∈ l, okT b) : (textT l).length ≤ 15 * l.length := by
  cases l with
  | nil => exact Nat.le_refl _
  | cons b l =>
    have h1 := bT_len b (h b (by simp))
    have h2 := tailT_len l (fun m hm => h m (by simp [hm]))
    simp only [textT, List.length_cons, List.length_append]
    omega
theorem join_text : ∀ l : List BR, Lib.join (l.map bT) [44] = textT l
  | [] => rfl
  | n :: l => by
    rw [List.map_cons, Lib.join_cons]
    simp only [textT]
    congr 1
    unfold Lib.joinTail
    induction l with
    | nil => rfl
    | cons m l ih => simp [tailT, ← ih]
theorem drop_at (l : List BR) (i : Nat) (h : i < l.length) : l.drop i = l[i] :: l.drop (i + 1) := List.drop_eq_getElem_cons h
theorem isText_loop (l : List BR) (hl : l.length ≤ 14) (hg : ∀ b ∈ l, okT b) : ∀ (n k i : Nat) (acc : List UInt8), n = l.length - i → i ≤ l.length → n + 10 < k → acc.length ≤ 20 * (i + 1) → spec_isText.l0 k (mkB acc) l (l.length : Int) (i : Int) = some (mkB (acc ++ if i = 0 then textT l else tailT (l.drop i))) := by
  intro n
  induction n with
  | zero =>
    intro k i acc hn hi hk ha
    obtain ⟨k, rfl⟩ : ∃ k', k = k' + 1 := ⟨k - 1, by omega⟩
    simp only [spec_isText.l0]
    rw [if_neg (by omega)]
    by_cases c : i = 0
    · rw [if_pos c]
      have : l = [] := List.eq_nil_of_length_eq_zero (by omega)
      subst this
      simp [textT]
    · rw [if_neg c, List.drop_of_length_le (by omega)]
      simp [tailT]
  | succ n ih =>
    intro k i acc hn hi hk ha
    obtain ⟨k, rfl⟩ : ∃ k', k = k' + 1 := ⟨k - 1, by omega⟩
    have hi' : i < l.length := by omega
    have hb := hg _ (List.getElem_mem hi')
    have e0 := num_at _ hb.1 k (by omega)
    have e1 := num_at _ hb.2.1 k (by omega)
    have e2 := num_at _ hb.2.2 k (by omega)
    have l0 := len_at _ hb.1
    have l1 := len_at _ hb.2.1
    have l2 := len_at _ hb.2.2
    have hw : wrap64 ((i : Int) + 1) = ((i + 1 : Nat) : Int) := by unfold wrap64; omega
    have c44 : (⟨#[44]⟩ : ByteArray) = mkB [44] := rfl
    have c45 : (⟨#[45]⟩ : ByteArray) = mkB [45] := rfl
    have c58 : (⟨#[58]⟩ : ByteArray) = mkB [58] := rfl
    have ihh := fun acc' ha' => ih k (i + 1) acc' (by omega) (by omega) (by omega) ha'
    simp only [if_neg (Nat.succ_ne_zero i)] at ihh
    simp only [spec_isText.l0]
    rw [rdB l i hi', if_pos (by omega), if_pos (by omega), if_pos (by omega)]
    simp only [e0, e1, e2, c44, c45, c58, Option.bind_some, mkB_append, mkB_size, hw, List.length_append, List.length_cons, List.length_nil]
    by_cases c : i = 0
    · have c' : ¬ ((i : Int) > 0) := by omega
      rw [if_neg c', if_pos (by omega), if_pos (by omega), if_pos (by omega), if_pos (by omega), if_pos (by omega), if_pos c]
      rw [ihh _ (by simp only [List.length_append, List.length_cons, List.length_nil]; omega)]
      subst c
      cases l with
      | nil => simp at hi'
      | cons b l => simp [textT, bT, List.append_assoc]
    · have c' : (i : Int) > 0 := by omega
      rw [if_pos c', if_pos (by omega), if_pos (by omega), if_pos (by omega), if_pos (by omega), if_pos (by omega), if_pos (by omega), if_neg c]
      rw [ihh _ (by simp only [List.length_append, List.length_cons, List.length_nil]; omega), drop_at l i hi']
      simp [tailT, bT, List.append_assoc]
/-- The text of isles. -/
def isT (n : Int) (l : List BR) : ByteArray := mkB (Lib.itoa n ++ [105] ++ textT l)
theorem isText_eq (n : Int) (hn : 0 ≤ n ∧ n ≤ 1000) (l : List BR) (hl : l.length ≤ 14) (hg : ∀ b ∈ l, okT b) (k : Nat) (hk : 60 ≤ k) : spec_isText.f k n l = some (isT n l) := by
  unfold spec_isText.f isT
  have hlen := len_at n hn
  rw [num_at n hn k (by omega), Option.bind_some, mkB_size, if_pos (by omega), show (⟨#[105]⟩ : ByteArray) = mkB [105] from rfl, mkB_append]
  have := isText_loop l hl hg l.length k 0 (Lib.itoa n ++ [105]) (by omega) (by omega) (by omega) (by simp; omega)
  rw [if_pos rfl] at this
  exact this
theorem islesText_loop (n : Int) (hn : 0 ≤ n ∧ n ≤ 1000) (l : List BR) (hl : l.length ≤ 14) (hg : ∀ b ∈ l, okT b) : ∀ (d k i : Nat), d = l.length - i → i ≤ l.length → d < k → impl_islesText.l0 k ((l.take i).map fun b => mkB (bT b)) l (l.length : Int) (i : Int) n l = some (isT n l) := by
  intro d
  induction d with
  | zero =>
    intro k i hd hi hk
    obtain ⟨k, rfl⟩ : ∃ k', k = k' + 1 := ⟨k - 1, by omega⟩
    simp only [impl_islesText.l0]
    have hlen := len_at n hn
    have hx := textT_len l hg
    rw [if_neg (by omega), List.take_of_length_le (by omega), itoa_at n hn, Option.bind_some, mkB_size, if_pos (by omega)]
    unfold strings_Join.f
    have e : ((l.map fun b => mkB (bT b)).map fun x => x.data.toList) = l.map bT := by
      rw [List.map_map]
      exact List.map_congr_left (fun x _ => mkB_data _)
    rw [show (⟨#[44]⟩ : ByteArray) = mkB [44] from rfl, e, mkB_data, join_text, if_pos ⟨by rw [List.length_map]; omega, by omega⟩, Option.bind_some, show (⟨#[105]⟩ : ByteArray) = mkB [105] from rfl, mkB_append, show (⟨(textT l).toArray⟩ : ByteArray) = mkB (textT l) from rfl, mkB_append, mkB_size, mkB_size, if_pos (by simp; omega)]
    rfl
  | succ d ih =>
    intro k i hd hi hk
    obtain ⟨k, rfl⟩ : ∃ k', k = k' + 1 := ⟨k - 1, by omega⟩
    have hi' : i < l.length := by omega
    have hb := hg _ (List.getElem_mem hi')
    have e0 := itoa_at _ hb.1
    have e1 := itoa_at _ hb.2.1
    have e2 := itoa_at _ hb.2.2
    have l0 := len_at _ hb.1
    have l1 := len_at _ hb.2.1
    have l2 := len_at _ hb.2.2
    have hw : wrap64 ((i : Int) + 1) = ((i + 1 : Nat) : Int) := by unfold wrap64; omega
    have c45 : (⟨#[45]⟩ : ByteArray) = mkB [45] := rfl
    have c58 : (⟨#[58]⟩ : ByteArray) = mkB [58] := rfl
    have := ih k (i + 1) (by omega) (by omega) (by omega)
    rw [List.take_succ_eq_append_getElem hi', List.map_append] at this
    simp only [impl_islesText.l0]
    rw [rdB l i hi', if_pos (by omega), if_pos (by omega), if_pos (by omega)]
    simp only [e0, e1, e2, c45, c58, Option.bind_some, mkB_append, mkB_size, hw, List.length_append, List.length_cons, List.length_nil, List.length_map, List.length_take]
    rw [if_pos (by omega), if_pos (by omega), if_pos (by omega), if_pos (by omega), if_pos (by omega)]
    exact this
theorem islesText_eq (n : Int) (hn : 0 ≤ n ∧ n ≤ 1000) (l : List BR) (hl : l.length ≤ 14) (hg : ∀ b ∈ l, okT b) (k : Nat) (hk : 60 ≤ k) : impl_islesText.f k n l = some (isT n l) := by
  unfold impl_islesText.f
  exact islesText_loop n hn l hl hg l.length k 0 (by omega) (by omega) (by omega)
theorem FnExactIslesText_pure (n : Int) (l : List LB) (w : (Lit.int .i64 n).wf = true) (hm : l.length ≤ 9223372036854775807) (hw : ∀ b ∈ l, WfB b) : ∃ k, laws_FnExactIslesText.f k n l = some true := by
  by_cases hl : l.length ≤ 1048576
  · obtain ⟨K1, h1⟩ := toIsles_ev n l hl
    obtain ⟨K2, h2⟩ := isGood_ev n (l.map cv)
    obtain ⟨K3, h3⟩ := eqIsles_ev n (l.map cv) (by rw [List.length_map]; omega)
    obtain ⟨m, hmm⟩ : ∃ m, m = K1 + K2 + K3 + 100 := ⟨_, rfl⟩
    refine ⟨m + 1, ?_⟩
    have hv : ∃ v, spec_IslesText.f (m + 1) n (l.map cv) = some v ∧ impl_IslesText.f (m + 1) n (l.map cv) = some v := by
      unfold spec_IslesText.f impl_IslesText.f
      rw [h2 _ (by omega), areIsles_eq n _ (wf_cv l hw), Option.bind_some, Option.bind_some]
      by_cases g : good n (l.map cv) = true
      · have g' := g
        unfold good at g'
        simp only [Bool.and_eq_true, decide_eq_true_eq, List.all_eq_true] at g'
        obtain ⟨hn, hlen, hall⟩ := g'
        have hok : ∀ b ∈ l.map cv, okT b := fun b hb => by
          have := of_decide_eq_true (hall b hb)
          exact ⟨⟨by omega, by omega⟩, ⟨by omega, by omega⟩, by omega, by omega⟩
        rw [if_pos g, if_pos g, isText_eq n (by omega) _ hlen hok (m + 1) (by omega), islesText_eq n (by omega) _ hlen hok (m + 1) (by omega)]
        exact ⟨_, rfl, rfl⟩
      · rw [if_neg g, if_neg g]
        exact ⟨_, rfl, rfl⟩
    obtain ⟨v, e1, e2⟩ := hv
    unfold laws_FnExactIslesText.f
    rw [szIsles_eq n l hm, if_pos hl, Option.bind_some, if_neg (by omega), h1 _ (by omega), Option.bind_some, e1, Option.bind_some, Option.bind_some, e2, Option.bind_some, if_pos rfl, show (v.2 != v.2) = false from by simp]
    simp only [laws_FnExactIslesText.j0]
    rw [if_neg (by decide), h1 _ (by omega), Option.bind_some, h3 _ (by omega), Option.bind_some, if_pos rfl]
  · refine ⟨1, ?_⟩
    unfold laws_FnExactIslesText.f
    rw [szIsles_eq n l hm, if_neg hl, Option.bind_some, if_pos (by decide)]
end Go.Proofs.YtglkhajhfldpcaaDoor.K
