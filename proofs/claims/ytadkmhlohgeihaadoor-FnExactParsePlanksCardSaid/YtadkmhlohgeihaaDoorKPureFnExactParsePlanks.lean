/- The plain law of FnExactParsePlanks; no conditions. -/
import Derived.Test.YtadkmhlohgeihaaDoorKx2
import Derived.Test.YtadkmhlohgeihaaDoorKx5
import Derived.Test.YtadkmhlohgeihaaDoorKx4
import Derived.Test.YtadkmhlohgeihaaDoorKPMarks
import Derived.Test.YtadkmhlohgeihaaDoorKFields
import Derived.Test.YtadkmhlohgeihaaDoorKx7
import Derived.Lib.Join
set_option linter.unusedVariables false
set_option linter.unusedSimpArgs false
namespace Go.Proofs.YtadkmhlohgeihaaDoor.K
open Go.RowKit Go.Proofs.YtadkmhlohgeihaaDoorW.PrintWords Go.Proofs.YtadkmhlohgeihaaDoorW.PrintLast Go.Proofs.YtadkmhlohgeihaaDoorW.PrintMore
set_option maxRecDepth 100000 in
theorem l1Num_tab : ∀ n, n < 101 → spec_l1Num.f 4 ((n : Nat) : Int) = some (mkB (Lib.itoa (n : Int))) := by decide +kernel
set_option maxRecDepth 100000 in
theorem itoa_len : ∀ n, n < 101 → (Lib.itoa ((n : Nat) : Int)).length ≤ 3 := by decide +kernel
theorem l1Num_up (n : Int) (r : ByteArray) (h : spec_l1Num.f 4 n = some r) : ∀ k, spec_l1Num.f (4 + k) n = some r
  | 0 => h
  | k + 1 => spec_l1Num.mono n (4 + k) r (l1Num_up n r h k)
def good1 (n : Int) : Bool := decide (1 ≤ n ∧ n ≤ 100)
def goodP (l : List Int) : Bool := decide (1 ≤ l.length ∧ l.length ≤ 7) && l.all good1
theorem num_at (n : Int) (h : good1 n = true) (k : Nat) (hk : 4 ≤ k) : spec_l1Num.f k n = some (mkB (Lib.itoa n)) := by
  have h' := of_decide_eq_true h
  obtain ⟨m, rfl⟩ : ∃ m : Nat, n = (m : Int) := ⟨n.toNat, by omega⟩
  have := l1Num_up _ _ (l1Num_tab m (by omega)) (k - 4)
  rwa [show 4 + (k - 4) = k from by omega] at this
theorem len_at (n : Int) (h : good1 n = true) : (Lib.itoa n).length ≤ 3 := by
  have h' := of_decide_eq_true h
  obtain ⟨m, rfl⟩ : ∃ m : Nat, n = (m : Int) := ⟨n.toNat, by omega⟩
  exact itoa_len m (by omega)
theorem rd_cons_drop (l : List Int) (i : Nat) (h : i < l.length) : l.drop i = rd l (i : Int) :: l.drop (i + 1) := by
  rw [List.drop_eq_getElem_cons h]
  congr 1
  simp [rd, List.getD_eq_getElem?_getD, List.getElem?_eq_getElem h]
theorem all_loop (l : List Int) (hl : l.length ≤ 9223372036854775806) : ∀ (n k i : Nat), n = l.length - i → i ≤ l.length → n < k → spec_l1All.l0 k 1 100 l (l.length : Int) (i : Int) = some ((l.drop i).all good1) := by
  intro n
  induction n with
  | zero =>
    intro k i hn hi hk
    obtain ⟨k, rfl⟩ : ∃ k', k = k' + 1 := ⟨k - 1, by omega⟩
    simp only [spec_l1All.l0]
    rw [if_neg (by omega), List.drop_of_length_le (by omega)]
    rfl
  | succ n ih =>
    intro k i hn hi hk
    obtain ⟨k, rfl⟩ : ∃ k', k = k' + 1 := ⟨k - 1, by omega⟩
    simp only [spec_l1All.l0]
    rw [if_pos (by omega), if_pos (by omega), if_pos (by omega), l1In_eq, Option.bind_some, rd_cons_drop l i (by omega), List.all_cons, show wrap64 ((i : Int) + 1) = ((i + 1 : Nat) : Int) from by unfold wrap64; omega]
    by_cases c : 1 ≤ rd l (i : Int) ∧ rd l (i : Int) ≤ 100
    · rw [if_pos (decide_eq_true c), good1, decide_eq_true c, Bool.true_and]
      exact ih k (i + 1) (by omega) (by omega) (by omega)
    · rw [if_neg (by simp only [decide_eq_true_eq]; exact c), good1, decide_eq_false c, Bool.false_and]
theorem plGood_eq (l : List Int) (hl : l.length ≤ 9223372036854775806) (k : Nat) (hk : 9 ≤ k) : spec_plGood.f k l = some (goodP l) := by
  unfold spec_plGood.f goodP
  rw [l1In_eq, Option.bind_some]
  by_cases h : 1 ≤ l.length ∧ l.length ≤ 7
  · rw [if_pos (by simp; omega), decide_eq_true h, Bool.true_and]
    unfold spec_l1All.f
    have := all_loop l hl l.length k 0 (by omega) (by omega) (by omega)
    rw [show ((0 : Nat) : Int) = 0 from rfl, List.drop_zero] at this
    rw [this, Option.bind_some]
  · rw [if_neg (by simp; omega), decide_eq_false h, Bool.false_and]
theorem ArePlanks_eq (l : List Int) : impl_ArePlanks.f l = some (goodP l) := by
  unfold impl_ArePlanks.f goodP
  rw [within_eq, Option.bind_some]
  by_cases h : 1 ≤ l.length ∧ l.length ≤ 7
  · rw [if_pos (by simp; omega), decide_eq_true h, Bool.true_and]
    unfold impl_areWithin.f
    rw [Option.bind_some]
    rfl
  · rw [if_neg (by simp; omega), decide_eq_false h, Bool.false_and]
/-- What stands behind the first number. -/
def tailT : List Int → List UInt8
  | [] => []
  | n :: l => 45 :: Lib.itoa n ++ tailT l
/-- The numbers with - between them. -/
def textT : List Int → List UInt8
  | [] => []
  | n :: l => Lib.itoa n ++ tailT l
theorem tailT_len : ∀ l : List Int, (∀ n ∈ l, good1 n = true) → (tailT l).length ≤ 4 * l.length
  | [], _ => Nat.le_refl _
  | n :: l, h => by
    have h1 := len_at n (h n (by simp))
    have h2 := tailT_len l (fun m hm => h m (by simp [hm]))
    simp only [tailT, List.length_cons, List.length_append]
    omega
theorem join_text : ∀ l : List Int, Lib.join (l.map Lib.itoa) [45] = textT l
  | [] => rfl
  | n :: l => by
    rw [List.map_cons, Lib.join_cons]
    simp only [textT]
    congr 1
    unfold Lib.joinTail
    induction l with
    | nil => rfl
    | cons m l ih => simp [tailT, ← ih]
theorem plText_loop (l : List Int) (hl : l.length ≤ 7) (hg : ∀ n ∈ l, good1 n = true) : ∀ (n k i : Nat) (acc : List UInt8), n = l.length - i → 1 ≤ i → i ≤ l.length → n + 10 < k → acc.length ≤ 4 * i → spec_plText.l0 k (mkB acc) l (l.length : Int) (i : Int) = some (mkB (acc ++ tailT (l.drop i))) := by
  intro n
  induction n with
  | zero =>
    intro k i acc hn h1 hi hk ha
    obtain ⟨k, rfl⟩ : ∃ k', k = k' + 1 := ⟨k - 1, by omega⟩
    simp only [spec_plText.l0]
    rw [if_neg (by omega), List.drop_of_length_le (by omega)]
    simp [tailT]
  | succ n ih =>
    intro k i acc hn h1 hi hk ha
    obtain ⟨k, rfl⟩ : ∃ k', k = k' + 1 := ⟨k - 1, by omega⟩
    have hi' : i < l.length := by omega
    have hgi : good1 (rd l (i : Int)) = true := by
      rw [rd_get l i hi']
      exact hg _ (List.getElem_mem hi')
    have hle := len_at _ hgi
    simp only [spec_plText.l0]
    rw [if_pos (by omega), if_pos (by omega), if_pos (by omega), if_pos (by omega), mkB_size, if_pos (by omega), num_at _ hgi k (by omega), Option.bind_some, show (⟨#[45]⟩ : ByteArray) = mkB [45] from rfl, mkB_append, mkB_size, mkB_size, if_pos (by simp; omega), mkB_append, show wrap64 ((i : Int) + 1) = ((i + 1 : Nat) : Int) from by unfold wrap64; omega, ih k (i + 1) _ (by omega) (by omega) (by omega) (by omega) (by simp; omega), rd_cons_drop l i hi']
    simp [tailT]
theorem plText_eq (l : List Int) (h1 : 1 ≤ l.length) (hl : l.length ≤ 7) (hg : ∀ n ∈ l, good1 n = true) (k : Nat) (hk : 30 ≤ k) : spec_plText.f k l = some (mkB (textT l)) := by
  unfold spec_plText.f
  obtain ⟨k, rfl⟩ : ∃ k', k = k' + 1 := ⟨k - 1, by omega⟩
  cases l with
  | nil => simp at h1
  | cons n l =>
    have hgn := hg n (by simp)
    have hle := len_at n hgn
    simp only [spec_plText.l0]
    rw [if_pos (by simp only [List.length_cons]; omega), if_pos (by decide), if_pos (by simp only [List.length_cons]; omega), if_neg (by decide), show rd (n :: l) 0 = n from rfl, num_at n hgn k (by omega), Option.bind_some, show (⟨#[]⟩ : ByteArray) = mkB [] from rfl, mkB_size, mkB_size, if_pos (by simp; omega), mkB_append, List.nil_append, show wrap64 (0 + 1) = ((1 : Nat) : Int) from w64 (x := 0 + 1) (by omega) (by omega)]
    have := plText_loop (n :: l) hl hg ((n :: l).length - 1) k 1 (Lib.itoa n) rfl (Nat.le_refl _) h1 (by omega) (by omega)
    rw [this]
    rfl
theorem joined_loop (l : List Int) (hl : l.length ≤ 7) (hg : ∀ n ∈ l, good1 n = true) (h1 : 1 ≤ l.length) : ∀ (n k i : Nat), n = l.length - i → i ≤ l.length → n < k → impl_joined.l0 k (mkB [45]) ((l.take i).map fun n => mkB (Lib.itoa n)) l (l.length : Int) (i : Int) = some (mkB (textT l)) := by
  intro n
  induction n with
  | zero =>
    intro k i hn hi hk
    obtain ⟨k, rfl⟩ : ∃ k', k = k' + 1 := ⟨k - 1, by omega⟩
    simp only [impl_joined.l0]
    rw [if_neg (by omega), List.take_of_length_le (by omega)]
    unfold strings_Join.f
    have e : ((l.map fun n => mkB (Lib.itoa n)).map fun x => x.data.toList) = l.map Lib.itoa := by
      rw [List.map_map]
      exact List.map_congr_left (fun x _ => mkB_data _)
    rw [e, mkB_data, join_text]
    have hlen : (textT l).length ≤ 28 := by
      cases l with
      | nil => simp at h1
      | cons n l =>
        have a := len_at n (hg n (by simp))
        have b := tailT_len l (fun m hm => hg m (by simp [hm]))
        simp only [textT, List.length_append, List.length_cons] at hl ⊢
        omega
    rw [if_pos ⟨by rw [List.length_map]; omega, by omega⟩, Option.bind_some]
    rfl
  | succ n ih =>
    intro k i hn hi hk
    obtain ⟨k, rfl⟩ : ∃ k', k = k' + 1 := ⟨k - 1, by omega⟩
    have hi' : i < l.length := by omega
    have hgi : good1 (rd l (i : Int)) = true := by
      rw [rd_get l i hi']
      exact hg _ (List.getElem_mem hi')
    have hb := of_decide_eq_true hgi
    simp only [impl_joined.l0]
    unfold strconv_Itoa_38.f
    rw [if_pos (by omega), if_pos (by omega), if_pos (by omega), if_pos ⟨by omega, by omega⟩, Option.bind_some, if_pos (by rw [List.length_map, List.length_take]; omega), show wrap64 ((i : Int) + 1) = ((i + 1 : Nat) : Int) from by unfold wrap64; omega]
    have := ih k (i + 1) (by omega) (by omega) (by omega)
    rw [List.take_succ_eq_append_getElem hi', List.map_append] at this
    rw [rd_get l i hi']
    exact this
theorem joined_eq (l : List Int) (h1 : 1 ≤ l.length) (hl : l.length ≤ 7) (hg : ∀ n ∈ l, good1 n = true) (k : Nat) (hk : 30 ≤ k) : impl_joined.f k l (⟨#[45]⟩ : ByteArray) = some (mkB (textT l)) := by
  unfold impl_joined.f
  have := joined_loop l hl hg h1 l.length k 0 (by omega) (by omega) (by omega)
  rw [List.take_zero, List.map_nil, show ((0 : Nat) : Int) = 0 from rfl] at this
  exact this
theorem good1_use {n : Int} (h : good1 n = true) : 1 ≤ n ∧ n ≤ 100 := of_decide_eq_true h
theorem textT_len (v : List Int) (h7 : v.length ≤ 7) (hg : ∀ n ∈ v, good1 n = true) : (textT v).length ≤ 28 := by
  cases v with
  | nil => simp [textT]
  | cons n l =>
    have a := len_at n (hg n (by simp))
    have b := tailT_len l (fun m hm => hg m (by simp [hm]))
    simp only [textT, List.length_append, List.length_cons] at h7 ⊢
    omega
set_option maxRecDepth 100000 in
theorem sign_dig : ∀ n, n < 58 → 48 ≤ n → hasRune ⟨#[45]⟩ n = false := by decide +kernel
theorem sign_45 : hasRune ⟨#[45]⟩ 45 = true := by decide +kernel
theorem ascii_45 : asciiB ⟨#[45]⟩ = true := by decide +kernel
/-- The program's words of a text. -/
theorem words_tail (v : List Int) (hg : ∀ n ∈ v, good1 n = true) : ∀ w, w ≠ [] → wordsL (fun b => hasRune ⟨#[45]⟩ b.toNat) (tailT v) w = w :: v.map Lib.itoa := by
  induction v with
  | nil => intro w hw; rw [tailT, wordsL, if_neg hw]; rfl
  | cons n l ih =>
    intro w hw
    have hn := good1_use (hg n (by simp))
    have hi := itoa_at1 (n := n) (by omega)
    rw [tailT, List.cons_append, words_sign _ 45 _ w sign_45 hw, words_run _ _ _ _ (fun b hb => sign_dig b.toNat (by have := hi.1 b hb; omega) (hi.1 b hb).1), List.nil_append, ih (fun m hm => hg m (by simp [hm])) _ hi.2.1]
    rfl
theorem words_text (v : List Int) (hg : ∀ n ∈ v, good1 n = true) : wordsL (fun b => hasRune ⟨#[45]⟩ b.toNat) (textT v) [] = v.map Lib.itoa := by
  cases v with
  | nil => rfl
  | cons n l =>
    have hn := good1_use (hg n (by simp))
    have hi := itoa_at1 (n := n) (by omega)
    rw [textT, words_run _ _ _ _ (fun b hb => sign_dig b.toNat (by have := hi.1 b hb; omega) (hi.1 b hb).1), List.nil_append, words_tail l (fun m hm => hg m (by simp [hm])) _ hi.2.1]
    rfl
theorem split_tail (v : List Int) (hg : ∀ n ∈ v, good1 n = true) : ∀ w, splitL 45 (tailT v) w = w :: v.map Lib.itoa := by
  induction v with
  | nil => intro w; rw [tailT, splitL]; rfl
  | cons n l ih =>
    intro w
    have hn := good1_use (hg n (by simp))
    have hi := itoa_at1 (n := n) (by omega)
    rw [tailT, List.cons_append, splitL, if_pos (by decide), split_run _ _ _ _ (fun b hb => by have := (hi.1 b hb).1; omega), List.nil_append, ih (fun m hm => hg m (by simp [hm]))]
    rfl
theorem split_text (v : List Int) (h1 : 1 ≤ v.length) (hg : ∀ n ∈ v, good1 n = true) : splitL 45 (textT v) [] = v.map Lib.itoa := by
  cases v with
  | nil => simp at h1
  | cons n l =>
    have hn := good1_use (hg n (by simp))
    have hi := itoa_at1 (n := n) (by omega)
    rw [textT, split_run _ _ _ _ (fun b hb => by have := (hi.1 b hb).1; omega), List.nil_append, split_tail l (fun m hm => hg m (by simp [hm]))]
    rfl
theorem tail_ascii (v : List Int) (hg : ∀ n ∈ v, good1 n = true) : ∀ b ∈ tailT v, b.toNat < 128 := by
  induction v with
  | nil => intro b hb; simp [tailT] at hb
  | cons n l ih =>
    intro b hb
    have hn := good1_use (hg n (by simp))
    have hi := itoa_at1 (n := n) (by omega)
    simp only [tailT, List.cons_append, List.mem_cons, List.mem_append] at hb
    rcases hb with rfl | hb | hb
    · decide
    · have := (hi.1 b hb).2; omega
    · exact ih (fun m hm => hg m (by simp [hm])) b hb
theorem text_ascii (v : List Int) (hg : ∀ n ∈ v, good1 n = true) : ∀ b ∈ textT v, b.toNat < 128 := by
  cases v with
  | nil => intro b hb; simp [textT] at hb
  | cons n l =>
    intro b hb
    have hn := good1_use (hg n (by simp))
    have hi := itoa_at1 (n := n) (by omega)
    simp only [textT, List.mem_append] at hb
    rcases hb with hb | hb
    · have := (hi.1 b hb).2; omega
    · exact tail_ascii l (fun m hm => hg m (by simp [hm])) b hb
theorem goodP_use {v : List Int} (h : goodP v = true) : (1 ≤ v.length ∧ v.length ≤ 7) ∧ ∀ n ∈ v, good1 n = true := by
  unfold goodP at h
  simpa only [Bool.and_eq_true, decide_eq_true_eq, List.all_eq_true] using h
/-- The program's numbers of the text of some planks. -/
theorem nums_text (v : List Int) (h : goodP v = true) : numsFrom 100 (Lib.goFieldsP (hasRune ⟨#[45]⟩) (mkB (textT v))) [] = (v, true) := by
  obtain ⟨_, hg⟩ := goodP_use h
  rw [fields_words _ _ (text_ascii v hg), words_text v hg, List.map_map]
  have := numsFrom_at (most := 100) (by omega) v [] (fun n hn => by have := good1_use (hg n hn); omega)
  rw [List.nil_append] at this
  exact this
/-- The reference's loop. -/
theorem parse_loop (s : ByteArray) (L : List (List UInt8)) (hL : L.length ≤ 100) : ∀ (n k i : Nat) (acc : List Int), L.length - i = n → n + 20 < k → i ≤ L.length → acc.length ≤ i →
    spec_ParsePlanks.l0 k s acc (L.map mkB) ((L.map mkB).length : Int) (i : Int) = spec_ParsePlanks.l0 (k - n) s (acc ++ (L.drop i).map readL) (L.map mkB) ((L.map mkB).length : Int) (L.length : Int) := by
  intro n
  induction n with
  | zero =>
    intro k i acc hn hk hi ha
    rw [List.drop_of_length_le (by omega), List.map_nil, List.append_nil, Nat.sub_zero, show i = L.length from by omega]
  | succ n ih =>
    intro k i acc hn hk hi ha
    obtain ⟨k, rfl⟩ : ∃ k', k = k' + 1 := ⟨k - 1, by omega⟩
    have hil : i < L.length := by omega
    have hrd : rdOf ByteArray.empty (L.map mkB) (i : Int) = mkB (L[i]'hil) := by
      simp [rdOf, List.getD_eq_getElem?_getD, List.getElem?_eq_getElem hil]
    rw [spec_ParsePlanks.l0, if_pos (by rw [List.length_map]; omega), if_pos (by omega), if_pos (by rw [List.length_map]; omega), hrd, l1Read_eq _ k (by omega), Option.bind_some, if_pos (by omega), show wrap64 ((i : Int) + 1) = ((i + 1 : Nat) : Int) from by unfold wrap64; omega, ih k (i + 1) _ (by omega) (by omega) (by omega) (by simp; omega), show (L.drop i).map readL = readL (L[i]'hil) :: (L.drop (i + 1)).map readL from by rw [List.drop_eq_getElem_cons hil]; rfl, show k + 1 - (n + 1) = k - n from by omega, List.append_assoc]
    rfl
/-- What both sides answer: the planks of which s is the text. -/
theorem spec_eq (s : ByteArray) : ∃ v : List Int × Bool, v.1.length ≤ 100 ∧ (v.2 = true → goodP v.1 = true ∧ mkB (textT v.1) = s) ∧ (v.2 = false → v.1 = [] ∧ ¬ ∃ u, goodP u = true ∧ mkB (textT u) = s) ∧ ∀ k, 200 ≤ k → spec_ParsePlanks.f k s = some v := by
  by_cases hz : s.size ≤ 30
  · obtain ⟨l, rfl⟩ : ∃ l, s = mkB l := ⟨s.data.toList, (mkB_eta s).symm⟩
    rw [mkB_size] at hz
    have hsl := split_length 45 l []
    obtain ⟨L, hL⟩ : ∃ L, splitL 45 l [] = L := ⟨_, rfl⟩
    rw [hL] at hsl
    have hstart : ∀ k, 200 ≤ k → spec_ParsePlanks.f k (mkB l) = spec_ParsePlanks.l0 (k - L.length) (mkB l) (L.map readL) (L.map mkB) ((L.map mkB).length : Int) (L.length : Int) := by
      intro k hk
      unfold spec_ParsePlanks.f
      rw [mkB_size, if_neg (by omega), l1Split_eq l (by omega) 45 k (by omega), Option.bind_some, hL]
      have := parse_loop (mkB l) L (by omega) L.length k 0 [] (by omega) (by omega) (Nat.zero_le _) (Nat.zero_le _)
      rw [List.drop_zero, List.nil_append] at this
      exact this
    have hend : ∀ k, 100 ≤ k → spec_ParsePlanks.l0 k (mkB l) (L.map readL) (L.map mkB) ((L.map mkB).length : Int) (L.length : Int) = some (if goodP (L.map readL) = true ∧ mkB (textT (L.map readL)) = mkB l then (L.map readL, true) else ([], false)) := by
      intro k hk
      obtain ⟨k, rfl⟩ : ∃ k', k = k' + 1 := ⟨k - 1, by omega⟩
      rw [spec_ParsePlanks.l0, if_neg (by rw [List.length_map]; omega), plGood_eq _ (by rw [List.length_map]; omega) k (by omega), Option.bind_some]
      by_cases hg : goodP (L.map readL) = true
      · obtain ⟨h17, hgn⟩ := goodP_use hg
        rw [if_pos hg, plText_eq _ h17.1 h17.2 hgn k (by omega), Option.bind_some]
        by_cases he : mkB (textT (L.map readL)) = mkB l
        · rw [if_pos ((toList_iff _ _).2 he), if_pos ⟨hg, he⟩]
        · rw [if_neg (fun h => he ((toList_iff _ _).1 h)), if_neg (fun h => he h.2)]
      · rw [if_neg hg, if_neg (fun h => hg h.1)]
    by_cases hc : goodP (L.map readL) = true ∧ mkB (textT (L.map readL)) = mkB l
    · refine ⟨(L.map readL, true), by simp; omega, fun _ => hc, (fun h => by cases h), fun k hk => ?_⟩
      rw [hstart k hk, hend _ (by omega), if_pos hc]
    · refine ⟨([], false), by simp, (fun h => by cases h), fun _ => ⟨rfl, ?_⟩, fun k hk => ?_⟩
      · rintro ⟨u, hu, he⟩
        obtain ⟨h17, hgu⟩ := goodP_use hu
        have hl := mkB_inj he
        rw [← hl, split_text u h17.1 hgu] at hL
        have hr : L.map readL = u := by
          rw [← hL, List.map_map]
          refine (List.map_congr_left (g := id) (fun n hn => ?_)).trans (List.map_id u)
          have := good1_use (hgu n hn)
          exact (itoa_at1 (n := n) (by omega)).2.2.2
        rw [hr] at hc
        exact hc ⟨hu, he⟩
      · rw [hstart k hk, hend _ (by omega), if_neg hc]
  · refine ⟨([], false), by simp, (fun h => by cases h), fun _ => ⟨rfl, ?_⟩, fun k hk => ?_⟩
    · rintro ⟨u, hu, he⟩
      obtain ⟨h17, hgu⟩ := goodP_use hu
      have := textT_len u h17.2 hgu
      rw [← he, mkB_size] at hz
      omega
    · unfold spec_ParsePlanks.f
      rw [if_pos (by omega)]
theorem impl_eq (s : ByteArray) (hs : s.size ≤ 1048576) : ∃ v : List Int × Bool, (v.2 = true → goodP v.1 = true ∧ mkB (textT v.1) = s) ∧ (v.2 = false → v.1 = [] ∧ ¬ ∃ u, goodP u = true ∧ mkB (textT u) = s) ∧ ∀ k, 200 ≤ k → impl_ParsePlanks.f k s = some v := by
  obtain ⟨⟨l, ok⟩, hN⟩ : ∃ x, numsFrom 100 (Lib.goFieldsP (hasRune ⟨#[45]⟩) s) [] = x := ⟨_, rfl⟩
  have hf : ∀ k, 200 ≤ k → impl_ParsePlanks.f k s = some (if ok = true ∧ goodP l = true ∧ mkB (textT l) = s then (l, true) else ([], false)) := by
    intro k hk
    unfold impl_ParsePlanks.f impl_numbers.f
    rw [if_pos ⟨hs, by decide, ascii_45⟩, hN, Option.bind_some]
    dsimp only
    cases ok with
    | false => rw [if_neg (by decide), if_neg (fun h => by cases h.1)]
    | true =>
      rw [if_pos rfl, ArePlanks_eq, Option.bind_some]
      by_cases hg : goodP l = true
      · obtain ⟨h17, hgn⟩ := goodP_use hg
        rw [if_pos hg, joined_eq _ h17.1 h17.2 hgn k (by omega), Option.bind_some]
        by_cases he : mkB (textT l) = s
        · rw [if_pos ((toList_iff _ _).2 he), if_pos ⟨rfl, hg, he⟩]
        · rw [if_neg (fun h => he ((toList_iff _ _).1 h)), if_neg (fun h => he h.2.2)]
      · rw [if_neg hg, if_neg (fun h => hg h.2.1)]
  by_cases hc : ok = true ∧ goodP l = true ∧ mkB (textT l) = s
  · refine ⟨(l, true), fun _ => hc.2, (fun h => by cases h), fun k hk => ?_⟩
    rw [hf k hk, if_pos hc]
  · refine ⟨([], false), (fun h => by cases h), fun _ => ⟨rfl, ?_⟩, fun k hk => ?_⟩
    · rintro ⟨u, hu, he⟩
      have := nums_text u hu
      rw [he, hN] at this
      obtain ⟨rfl, rfl⟩ := Prod.mk.inj this
      exact hc ⟨rfl, hu, he⟩
    · rw [hf k hk, if_neg hc]
theorem textT_read (u : List Int) (hu : goodP u = true) : (splitL 45 (textT u) []).map readL = u := by
  obtain ⟨h17, hgu⟩ := goodP_use hu
  rw [split_text u h17.1 hgu, List.map_map]
  refine (List.map_congr_left (g := id) (fun n hn => ?_)).trans (List.map_id u)
  have := good1_use (hgu n hn)
  exact (itoa_at1 (n := n) (by omega)).2.2.2
theorem FnExactParsePlanks_pure (a0 : ByteArray) (w0 : a0.size ≤ 140737488351232) : ∃ k, laws_FnExactParsePlanks.f k a0 = some true := by
  by_cases h : (a0.size : Int) > 1048576
  · refine ⟨1, ?_⟩
    unfold laws_FnExactParsePlanks.f
    rw [if_pos h]
  · have hv : ∃ v : List Int × Bool, v.1.length ≤ 100 ∧ ∀ k, 200 ≤ k → spec_ParsePlanks.f k a0 = some v ∧ impl_ParsePlanks.f k a0 = some v := by
      obtain ⟨v, hl, hv1, hv2, hk⟩ := spec_eq a0
      obtain ⟨u, hu1, hu2, hku⟩ := impl_eq a0 (by omega)
      obtain ⟨v1, v2⟩ := v
      obtain ⟨u1, u2⟩ := u
      have e : (u1, u2) = (v1, v2) := by
        cases v2 with
        | true =>
          obtain ⟨g1, t1⟩ := hv1 rfl
          cases u2 with
          | true =>
            obtain ⟨g2, t2⟩ := hu1 rfl
            have ht := mkB_inj (t1.trans t2.symm)
            have e1 := textT_read v1 g1
            rw [ht, textT_read u1 g2] at e1
            rw [show u1 = v1 from e1]
          | false => exact absurd ⟨v1, g1, t1⟩ (hu2 rfl).2
        | false =>
          obtain ⟨e1, n1⟩ := hv2 rfl
          cases u2 with
          | true => exact absurd ⟨u1, hu1 rfl⟩ n1
          | false => rw [show u1 = v1 from (hu2 rfl).1.trans e1.symm]
      rw [e] at hku
      exact ⟨(v1, v2), hl, fun k hk' => ⟨hk k hk', hku k hk'⟩⟩
    obtain ⟨v, hl, hk⟩ := hv
    obtain ⟨K, hK⟩ := markIntS_ev v.1 (by omega)
    obtain ⟨m, hm⟩ : ∃ m, m = K + 300 := ⟨_, rfl⟩
    refine ⟨m + 1 + 1 + 1, ?_⟩
    unfold laws_FnExactParsePlanks.f
    rw [if_neg h]
    have e := hk (m + 1 + 1 + 1) (by omega)
    have e2 := hk (m + 1 + 1) (by omega)
    have f := hK (m + 1 + 1) (by omega)
    have f2 := hK (m + 1) (by omega)
    rw [e.1, Option.bind_some, e.2, Option.bind_some, eqIntS_eq v.1 (by omega) (m + 1 + 1 + 1) (by omega), Option.bind_some, if_pos rfl, show (v.2 != v.2) = false from by simp]
    simp only [laws_FnExactParsePlanks.j0, laws_FnExactParsePlanks.j1]
    rw [if_neg (by decide), f.1, Option.bind_some, f.2, Option.bind_some, if_neg (by omega), if_pos rfl, e2.2, Option.bind_some, eqIntS_eq v.1 (by omega) (m + 1 + 1) (by omega), Option.bind_some, if_pos rfl, show (v.2 != v.2) = false from by simp, if_neg (by decide), f2.2, Option.bind_some, if_neg (by omega), if_pos rfl]
end Go.Proofs.YtadkmhlohgeihaaDoor.K
