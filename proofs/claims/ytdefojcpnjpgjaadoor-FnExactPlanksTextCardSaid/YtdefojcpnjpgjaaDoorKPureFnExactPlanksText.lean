/- The plain law of FnExactPlanksText; no conditions. -/
import Derived.Test.YtdefojcpnjpgjaaDoorKx5
import Derived.Test.YtdefojcpnjpgjaaDoorKRMarks
import Derived.Test.YtdefojcpnjpgjaaDoorKx4
import Derived.Lib.Join
set_option linter.unusedVariables false
set_option linter.unusedSimpArgs false
namespace Go.Proofs.YtdefojcpnjpgjaaDoor.K
open Go.RowKit Go.Proofs.YtdefojcpnjpgjaaDoorW.PrintWords Go.Proofs.YtdefojcpnjpgjaaDoorW.PrintLast Go.Proofs.YtdefojcpnjpgjaaDoorW.PrintMore
theorem toIntS_l0 (l : List Int) (hl : l.length ≤ 9223372036854775806) : ∀ (d k i : Nat) (x : List Int), i + d = l.length → d < k → x.length = l.length → x.take i = l.take i → laws_toIntS.l0 k l x (i : Int) = some l := by
  intro d
  induction d with
  | zero =>
    intro k i x hi hk hx ht
    obtain ⟨m, rfl⟩ : ∃ m, k = m + 1 := ⟨k - 1, by omega⟩
    rw [laws_toIntS.l0, if_neg (by omega)]
    rw [List.take_of_length_le (by omega), List.take_of_length_le (by omega)] at ht
    rw [ht]
  | succ d ih =>
    intro k i x hi hk hx ht
    obtain ⟨m, rfl⟩ : ∃ m, k = m + 1 := ⟨k - 1, by omega⟩
    have h1 : i < l.length := by omega
    rw [laws_toIntS.l0, if_pos (by omega), if_pos (by omega), if_pos (by omega), show wrap64 ((i : Int) + 1) = ((i + 1 : Nat) : Int) from by unfold wrap64; omega, Int.toNat_natCast]
    refine ih m (i + 1) _ (by omega) (by omega) (by rw [List.length_set]; exact hx) ?_
    rw [List.take_succ_eq_append_getElem (by rw [List.length_set]; omega), List.take_succ_eq_append_getElem h1, List.take_set_of_le (by omega), ht, List.getElem_set_self, rd_get l i h1]
theorem toIntS_eq (l : List Int) (hl : l.length ≤ 1048576) (k : Nat) (hk : l.length < k) : laws_toIntS.f k l = some l := by
  unfold laws_toIntS.f
  rw [if_pos (by omega), if_pos (by omega)]
  exact toIntS_l0 l (by omega) l.length k 0 _ (by omega) (by omega) (by simp) (by simp)
def mkB (l : List UInt8) : ByteArray := ⟨l.toArray⟩
theorem mkB_append (a b : List UInt8) : mkB a ++ mkB b = mkB (a ++ b) := by
  refine ByteArray.ext (Array.toList_inj.1 ?_)
  rw [ByteArray.data_append, Array.toList_append]
  simp [mkB]
theorem mkB_size (a : List UInt8) : (mkB a).size = a.length := by simp [mkB, ByteArray.size]
theorem mkB_data (a : List UInt8) : (mkB a).data.toList = a := by simp [mkB]
set_option maxRecDepth 100000 in
theorem l1Num_tab : ∀ n, n < 101 → spec_l1Num.f 4 ((n : Nat) : Int) = some (mkB (Lib.itoa (n : Int))) := by decide +kernel
set_option maxRecDepth 100000 in
theorem itoa_len : ∀ n, n < 101 → (Lib.itoa ((n : Nat) : Int)).length ≤ 3 := by decide +kernel
theorem l1Num_up (n : Int) (r : ByteArray) (h : spec_l1Num.f 4 n = some r) : ∀ k, spec_l1Num.f (4 + k) n = some r
  | 0 => h
  | k + 1 => spec_l1Num.mono n (4 + k) r (l1Num_up n r h k)
def good1 (n : Int) : Bool := decide (1 ≤ n ∧ n ≤ 100)
def goodP (l : List Int) : Bool := decide (1 ≤ l.length ∧ l.length ≤ 7) && l.all good1
theorem num_at (n : Int) (h : good1 n = true) (k : Nat) (hk : 4 ≤ k) : spec_l1Num.f k n = some (mkB (Lib.itoa n)) := by
  have h' := of_decide_eq_true h
  obtain ⟨m, rfl⟩ : ∃ m : Nat, n = (m : Int) := ⟨n.toNat, by omega⟩
  have := l1Num_up _ _ (l1Num_tab m (by omega)) (k - 4)
  rwa [show 4 + (k - 4) = k from by omega] at this
theorem len_at (n : Int) (h : good1 n = true) : (Lib.itoa n).length ≤ 3 := by
  have h' := of_decide_eq_true h
  obtain ⟨m, rfl⟩ : ∃ m : Nat, n = (m : Int) := ⟨n.toNat, by omega⟩
  exact itoa_len m (by omega)
theorem rd_cons_drop (l : List Int) (i : Nat) (h : i < l.length) : l.drop i = rd l (i : Int) :: l.drop (i + 1) := by
  rw [List.drop_eq_getElem_cons h]
  congr 1
  simp [rd, List.getD_eq_getElem?_getD, List.getElem?_eq_getElem h]
theorem all_loop (l : List Int) (hl : l.length ≤ 9223372036854775806) : ∀ (n k i : Nat), n = l.length - i → i ≤ l.length → n < k → spec_l1All.l0 k 1 100 l (l.length : Int) (i : Int) = some ((l.drop i).all good1) := by
  intro n
  induction n with
  | zero =>
    intro k i hn hi hk
    obtain ⟨k, rfl⟩ : ∃ k', k = k' + 1 := ⟨k - 1, by omega⟩
    simp only [spec_l1All.l0]
    rw [if_neg (by omega), List.drop_of_length_le (by omega)]
    rfl
  | succ n ih =>
    intro k i hn hi hk
    obtain ⟨k, rfl⟩ : ∃ k', k = k' + 1 := ⟨k - 1, by omega⟩
    simp only [spec_l1All.l0]
    rw [if_pos (by omega), if_pos (by omega), if_pos (by omega), l1In_eq, Option.bind_some, rd_cons_drop l i (by omega), List.all_cons, show wrap64 ((i : Int) + 1) = ((i + 1 : Nat) : Int) from by unfold wrap64; omega]
    by_cases c : 1 ≤ rd l (i : Int) ∧ rd l (i : Int) ≤ 100
    · rw [if_pos (decide_eq_true c), good1, decide_eq_true c, Bool.true_and]
      exact ih k (i + 1) (by omega) (by omega) (by omega)
    · rw [if_neg (by simp only [decide_eq_true_eq]; exact c), good1, decide_eq_false c, Bool.false_and]
theorem plGood_eq (l : List Int) (hl : l.length ≤ 9223372036854775806) (k : Nat) (hk : 9 ≤ k) : spec_plGood.f k l = some (goodP l) := by
  unfold spec_plGood.f goodP
  rw [l1In_eq, Option.bind_some]
  by_cases h : 1 ≤ l.length ∧ l.length ≤ 7
  · rw [if_pos (by simp; omega), decide_eq_true h, Bool.true_and]
    unfold spec_l1All.f
    have := all_loop l hl l.length k 0 (by omega) (by omega) (by omega)
    rw [show ((0 : Nat) : Int) = 0 from rfl, List.drop_zero] at this
    rw [this, Option.bind_some]
  · rw [if_neg (by simp; omega), decide_eq_false h, Bool.false_and]
theorem ArePlanks_eq (l : List Int) : impl_ArePlanks.f l = some (goodP l) := by
  unfold impl_ArePlanks.f goodP
  rw [within_eq, Option.bind_some]
  by_cases h : 1 ≤ l.length ∧ l.length ≤ 7
  · rw [if_pos (by simp; omega), decide_eq_true h, Bool.true_and]
    unfold impl_areWithin.f
    rw [Option.bind_some]
    rfl
  · rw [if_neg (by simp; omega), decide_eq_false h, Bool.false_and]
/-- What stands behind the first number. -/
def tailT : List Int → List UInt8
  | [] => []
  | n :: l => 45 :: Lib.itoa n ++ tailT l
/-- The numbers with - between them. -/
def textT : List Int → List UInt8
  | [] => []
  | n :: l => Lib.itoa n ++ tailT l
theorem tailT_len : ∀ l : List Int, (∀ n ∈ l, good1 n = true) → (tailT l).length ≤ 4 * l.length
  | [], _ => Nat.le_refl _
  | n :: l, h => by
    have h1 := len_at n (h n (by simp))
    have h2 := tailT_len l (fun m hm => h m (by simp [hm]))
    simp only [tailT, List.length_cons, List.length_append]
    omega
theorem join_text : ∀ l : List Int, Lib.join (l.map Lib.itoa) [45] = textT l
  | [] => rfl
  | n :: l => by
    rw [List.map_cons, Lib.join_cons]
    simp only [textT]
    congr 1
    unfold Lib.joinTail
    induction l with
    | nil => rfl
    | cons m l ih => simp [tailT, ← ih]
theorem plText_loop (l : List Int) (hl : l.length ≤ 7) (hg : ∀ n ∈ l, good1 n = true) : ∀ (n k i : Nat) (acc : List UInt8), n = l.length - i → 1 ≤ i → i ≤ l.length → n + 10 < k → acc.length ≤ 4 * i → spec_plText.l0 k (mkB acc) l (l.length : Int) (i : Int) = some (mkB (acc ++ tailT (l.drop i))) := by
  intro n
  induction n with
  | zero =>
    intro k i acc hn h1 hi hk ha
    obtain ⟨k, rfl⟩ : ∃ k', k = k' + 1 := ⟨k - 1, by omega⟩
    simp only [spec_plText.l0]
    rw [if_neg (by omega), List.drop_of_length_le (by omega)]
    simp [tailT]
  | succ n ih =>
    intro k i acc hn h1 hi hk ha
    obtain ⟨k, rfl⟩ : ∃ k', k = k' + 1 := ⟨k - 1, by omega⟩
    have hi' : i < l.length := by omega
    have hgi : good1 (rd l (i : Int)) = true := by
      rw [rd_get l i hi']
      exact hg _ (List.getElem_mem hi')
    have hle := len_at _ hgi
    simp only [spec_plText.l0]
    rw [if_pos (by omega), if_pos (by omega), if_pos (by omega), if_pos (by omega), mkB_size, if_pos (by omega), num_at _ hgi k (by omega), Option.bind_some, show (⟨#[45]⟩ : ByteArray) = mkB [45] from rfl, mkB_append, mkB_size, mkB_size, if_pos (by simp; omega), mkB_append, show wrap64 ((i : Int) + 1) = ((i + 1 : Nat) : Int) from by unfold wrap64; omega, ih k (i + 1) _ (by omega) (by omega) (by omega) (by omega) (by simp; omega), rd_cons_drop l i hi']
    simp [tailT]
theorem plText_eq (l : List Int) (h1 : 1 ≤ l.length) (hl : l.length ≤ 7) (hg : ∀ n ∈ l, good1 n = true) (k : Nat) (hk : 30 ≤ k) : spec_plText.f k l = some (mkB (textT l)) := by
  unfold spec_plText.f
  obtain ⟨k, rfl⟩ : ∃ k', k = k' + 1 := ⟨k - 1, by omega⟩
  cases l with
  | nil => simp at h1
  | cons n l =>
    have hgn := hg n (by simp)
    have hle := len_at n hgn
    simp only [spec_plText.l0]
    rw [if_pos (by simp only [List.length_cons]; omega), if_pos (by decide), if_pos (by simp only [List.length_cons]; omega), if_neg (by decide), show rd (n :: l) 0 = n from rfl, num_at n hgn k (by omega), Option.bind_some, show (⟨#[]⟩ : ByteArray) = mkB [] from rfl, mkB_size, mkB_size, if_pos (by simp; omega), mkB_append, List.nil_append, show wrap64 (0 + 1) = ((1 : Nat) : Int) from w64 (x := 0 + 1) (by omega) (by omega)]
    have := plText_loop (n :: l) hl hg ((n :: l).length - 1) k 1 (Lib.itoa n) rfl (Nat.le_refl _) h1 (by omega) (by omega)
    rw [this]
    rfl
theorem joined_loop (l : List Int) (hl : l.length ≤ 7) (hg : ∀ n ∈ l, good1 n = true) (h1 : 1 ≤ l.length) : ∀ (n k i : Nat), n = l.length - i → i ≤ l.length → n < k → impl_joined.l0 k (mkB [45]) ((l.take i).map fun n => mkB (Lib.itoa n)) l (l.length : Int) (i : Int) = some (mkB (textT l)) := by
  intro n
  induction n with
  | zero =>
    intro k i hn hi hk
    obtain ⟨k, rfl⟩ : ∃ k', k = k' + 1 := ⟨k - 1, by omega⟩
    simp only [impl_joined.l0]
    rw [if_neg (by omega), List.take_of_length_le (by omega)]
    unfold strings_Join.f
    have e : ((l.map fun n => mkB (Lib.itoa n)).map fun x => x.data.toList) = l.map Lib.itoa := by
      rw [List.map_map]
      exact List.map_congr_left (fun x _ => mkB_data _)
    rw [e, mkB_data, join_text]
    have hlen : (textT l).length ≤ 28 := by
      cases l with
      | nil => simp at h1
      | cons n l =>
        have a := len_at n (hg n (by simp))
        have b := tailT_len l (fun m hm => hg m (by simp [hm]))
        simp only [textT, List.length_append, List.length_cons] at hl ⊢
        omega
    rw [if_pos ⟨by rw [List.length_map]; omega, by omega⟩, Option.bind_some]
    rfl
  | succ n ih =>
    intro k i hn hi hk
    obtain ⟨k, rfl⟩ : ∃ k', k = k' + 1 := ⟨k - 1, by omega⟩
    have hi' : i < l.length := by omega
    have hgi : good1 (rd l (i : Int)) = true := by
      rw [rd_get l i hi']
      exact hg _ (List.getElem_mem hi')
    have hb := of_decide_eq_true hgi
    simp only [impl_joined.l0]
    unfold strconv_Itoa_30.f
    rw [if_pos (by omega), if_pos (by omega), if_pos (by omega), if_pos ⟨by omega, by omega⟩, Option.bind_some, if_pos (by rw [List.length_map, List.length_take]; omega), show wrap64 ((i : Int) + 1) = ((i + 1 : Nat) : Int) from by unfold wrap64; omega]
    have := ih k (i + 1) (by omega) (by omega) (by omega)
    rw [List.take_succ_eq_append_getElem hi', List.map_append] at this
    rw [rd_get l i hi']
    exact this
theorem joined_eq (l : List Int) (h1 : 1 ≤ l.length) (hl : l.length ≤ 7) (hg : ∀ n ∈ l, good1 n = true) (k : Nat) (hk : 30 ≤ k) : impl_joined.f k l (⟨#[45]⟩ : ByteArray) = some (mkB (textT l)) := by
  unfold impl_joined.f
  have := joined_loop l hl hg h1 l.length k 0 (by omega) (by omega) (by omega)
  rw [List.take_zero, List.map_nil, show ((0 : Nat) : Int) = 0 from rfl] at this
  exact this
theorem FnExactPlanksText_pure (l0 : List Int) (hm : l0.length ≤ 9223372036854775807) (y : l0.length * 8 ≤ 140737488351232) (hw : ∀ n ∈ l0, (Lit.int .i64 n).wf = true) : ∃ k, laws_FnExactPlanksText.f k l0 = some true := by
  obtain ⟨m, hmm⟩ : ∃ m, m = l0.length + 100 := ⟨_, rfl⟩
  refine ⟨m + 1, ?_⟩
  unfold laws_FnExactPlanksText.f
  by_cases h' : (l0.length : Int) > 1048576
  · rw [if_pos h']
  · rw [if_neg h']
    have hv : ∃ v, spec_PlanksText.f (m + 1) l0 = some v ∧ impl_PlanksText.f (m + 1) l0 = some v := by
      unfold spec_PlanksText.f impl_PlanksText.f
      rw [plGood_eq l0 (by omega) (m + 1) (by omega), ArePlanks_eq l0, Option.bind_some, Option.bind_some]
      by_cases g : goodP l0 = true
      · have g' := g
        unfold goodP at g'
        simp only [Bool.and_eq_true, decide_eq_true_eq, List.all_eq_true] at g'
        rw [if_pos g, if_pos g, plText_eq l0 g'.1.1 g'.1.2 g'.2 (m + 1) (by omega), joined_eq l0 g'.1.1 g'.1.2 g'.2 (m + 1) (by omega)]
        exact ⟨_, rfl, rfl⟩
      · rw [if_neg g, if_neg g]
        exact ⟨_, rfl, rfl⟩
    obtain ⟨v, h1, h2⟩ := hv
    rw [toIntS_eq l0 (by omega) (m + 1) (by omega), Option.bind_some, h1, Option.bind_some, Option.bind_some, h2, Option.bind_some, if_pos rfl, show (v.2 != v.2) = false from by simp]
    simp only [laws_FnExactPlanksText.j0]
    rw [if_neg (by decide), toIntS_eq l0 (by omega) m (by omega), Option.bind_some, eqIntS_eq l0 (by omega) m (by omega), Option.bind_some, if_pos rfl]
end Go.Proofs.YtdefojcpnjpgjaaDoor.K
