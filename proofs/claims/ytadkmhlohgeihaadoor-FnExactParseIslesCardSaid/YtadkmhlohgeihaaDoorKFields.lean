/- Plain facts on texts that are split at signs, and on decimal numbers: what the library's splitting and the reference's splitting give at a text of words and signs; no conditions. -/
import Derived.Test.YtadkmhlohgeihaaDoorKx1
import Derived.Test.YtadkmhlohgeihaaDoorKPBase
import Derived.Test.YtadkmhlohgeihaaDoorKx4
import Derived.Lib.Join
import Derived.Laws.RangeString
set_option linter.unusedVariables false
set_option linter.unusedSimpArgs false
namespace Go.Proofs.YtadkmhlohgeihaaDoor.K
open Go.RowKit Go.Proofs.YtadkmhlohgeihaaDoorW.PrintWords Go.Proofs.YtadkmhlohgeihaaDoorW.PrintLast Go.Proofs.YtadkmhlohgeihaaDoorW.PrintMore
def mkB (l : List UInt8) : ByteArray := ⟨l.toArray⟩
theorem mkB_append (a b : List UInt8) : mkB a ++ mkB b = mkB (a ++ b) := by
  refine ByteArray.ext (Array.toList_inj.1 ?_)
  rw [ByteArray.data_append, Array.toList_append]
  simp [mkB]
theorem mkB_size (a : List UInt8) : (mkB a).size = a.length := by simp [mkB, ByteArray.size]
theorem mkB_data (a : List UInt8) : (mkB a).data.toList = a := by simp [mkB]
theorem mkB_eta (s : ByteArray) : mkB s.data.toList = s := by cases s; simp [mkB]
theorem mkB_inj {a b : List UInt8} (h : mkB a = mkB b) : a = b := by rw [← mkB_data a, h, mkB_data]
theorem toList_iff (s t : ByteArray) : s.toList = t.toList ↔ s = t := by
  rw [ByteArray.toList_eq, ByteArray.toList_eq]
  exact ⟨fun h => ByteArray.ext (Array.toList_inj.1 h), fun h => by rw [h]⟩
theorem mkB_extract (l : List UInt8) (a b : Nat) : (mkB l).extract a b = mkB ((l.drop a).take (b - a)) := by
  refine ByteArray.ext (Array.toList_inj.1 ?_)
  rw [Lib.extract_data, mkB_data, mkB_data]
/-! ### The library's words -/
/-- The words between signs; w: the word that is under way. -/
def wordsL (q : UInt8 → Bool) : List UInt8 → List UInt8 → List (List UInt8)
  | [], w => if w = [] then [] else [w]
  | b :: l, w => if q b then (if w = [] then wordsL q l [] else w :: wordsL q l []) else wordsL q l (w ++ [b])
theorem decode_mkB (l : List UInt8) (h : ∀ b ∈ l, b.toNat < 128) (i : Nat) (hi : i < l.length) : Utf8.decode (mkB l) i = ((l[i]'hi).toNat, 1) := by
  have hs : i < (mkB l).size := by rw [mkB_size]; exact hi
  have e : (mkB l)[i]'hs = l[i]'hi := List.getElem_toArray (by simpa using hi)
  have := decode_ascii (mkB l) i hs (by rw [e]; exact h _ (List.getElem_mem hi))
  rw [this, e]
def spanW (l : List UInt8) (x : Nat × Nat) : List UInt8 := (l.drop x.1).take (x.2 - x.1)
def curW (l : List UInt8) (i : Nat) : Option Nat → List UInt8
  | none => []
  | some a => spanW l (a, i)
theorem spans_words (p : Nat → Bool) (l : List UInt8) (h : ∀ b ∈ l, b.toNat < 128) : ∀ (n f i : Nat) (st : Option Nat) (acc : List (Nat × Nat)), l.length - i = n → n ≤ f → i ≤ l.length → (∀ a, st = some a → a < i) →
    (Lib.closeSpans (mkB l) (Lib.spansFromP p (mkB l) f i st acc)).map (spanW l) = acc.map (spanW l) ++ wordsL (fun b => p b.toNat) (l.drop i) (curW l i st)
  | 0, f, i, st, acc, hn, hf, hi, hst => by
    have hnot : ¬ i < (mkB l).size := by rw [mkB_size]; omega
    rw [Lib.spansFromP_end p (mkB l) f i st acc hnot, List.drop_of_length_le (by omega)]
    cases st with
    | none =>
      show acc.map (spanW l) = _
      simp [wordsL, curW]
    | some a =>
      have ha := hst a rfl
      show (acc ++ [(a, (mkB l).size)]).map (spanW l) = _
      have hw : curW l i (some a) ≠ [] := by
        intro e
        have e2 := congrArg List.length e
        simp only [curW, spanW, List.length_take, List.length_drop, List.length_nil] at e2
        omega
      rw [wordsL, if_neg hw, List.map_append, mkB_size, show l.length = i from by omega]
      rfl
  | n + 1, f, i, st, acc, hn, hf, hi, hst => by
    obtain ⟨f, rfl⟩ : ∃ f', f = f' + 1 := ⟨f - 1, by omega⟩
    have hil : i < l.length := by omega
    have hlt : i < (mkB l).size := by rw [mkB_size]; omega
    have hd := decode_mkB l h i hil
    rw [List.drop_eq_getElem_cons hil, wordsL]
    have hsnoc : ∀ a, a < i → spanW l (a, i) ++ [l[i]] = spanW l (a, i + 1) := by
      intro a ha
      unfold spanW
      dsimp only
      rw [show i + 1 - a = (i - a) + 1 from by omega, List.take_add_one, List.getElem?_drop, show a + (i - a) = i from by omega, List.getElem?_eq_getElem hil]
      rfl
    have hone : [l[i]] = spanW l (i, i + 1) := by
      unfold spanW
      dsimp only
      rw [show i + 1 - i = 1 from by omega, List.drop_eq_getElem_cons hil]
      rfl
    have hne : ∀ a, a < i → spanW l (a, i) ≠ [] := by
      intro a ha e
      have e2 := congrArg List.length e
      simp only [spanW, List.length_take, List.length_drop, List.length_nil] at e2
      omega
    unfold Lib.spansFromP
    rw [if_pos hlt, hd]
    dsimp only
    cases hp : p (l[i]).toNat with
    | true =>
      rw [if_pos rfl, if_pos rfl]
      cases st with
      | none =>
        dsimp only
        rw [spans_words p l h n f (i + 1) none acc (by omega) (by omega) (by omega) (fun a e => by cases e), if_pos (show curW l i none = [] from rfl)]
        rfl
      | some a =>
        have ha := hst a rfl
        dsimp only
        rw [spans_words p l h n f (i + 1) none (acc ++ [(a, i)]) (by omega) (by omega) (by omega) (fun a e => by cases e), if_neg (show curW l i (some a) ≠ [] from hne a ha), List.map_append, List.append_assoc]
        rfl
    | false =>
      rw [if_neg (by decide), if_neg (by decide)]
      cases st with
      | none =>
        dsimp only
        rw [spans_words p l h n f (i + 1) (some i) acc (by omega) (by omega) (by omega) (fun a e => by cases e; omega)]
        show _ ++ wordsL _ _ (spanW l (i, i + 1)) = _ ++ wordsL _ _ ([] ++ [l[i]])
        rw [List.nil_append, hone]
      | some a =>
        have ha := hst a rfl
        dsimp only
        rw [spans_words p l h n f (i + 1) (some a) acc (by omega) (by omega) (by omega) (fun b e => by cases e; omega)]
        show _ ++ wordsL _ _ (spanW l (a, i + 1)) = _ ++ wordsL _ _ (spanW l (a, i) ++ [l[i]])
        rw [hsnoc a ha]
theorem fields_words (p : Nat → Bool) (l : List UInt8) (h : ∀ b ∈ l, b.toNat < 128) : Lib.goFieldsP p (mkB l) = (wordsL (fun b => p b.toNat) l []).map mkB := by
  have := spans_words p l h l.length (mkB l).size 0 none [] (by omega) (by rw [mkB_size]; exact Nat.le_refl _) (Nat.zero_le _) (fun a e => by cases e)
  rw [List.map_nil, List.nil_append, List.drop_zero] at this
  unfold Lib.goFieldsP Lib.spansOfP
  show _ = (wordsL (fun b => p b.toNat) l (curW l 0 none)).map mkB
  rw [← this, List.map_map]
  refine List.map_congr_left (fun x _ => ?_)
  exact mkB_extract l x.1 x.2
theorem words_run (q : UInt8 → Bool) : ∀ (x r w : List UInt8), (∀ b ∈ x, q b = false) → wordsL q (x ++ r) w = wordsL q r (w ++ x)
  | [], r, w, _ => by simp
  | b :: x, r, w, h => by
    rw [List.cons_append, wordsL, h b (by simp), if_neg (by decide), words_run q x r _ (fun c hc => h c (by simp [hc])), List.append_assoc]
    rfl
theorem words_sign (q : UInt8 → Bool) (b : UInt8) (r w : List UInt8) (hb : q b = true) (hw : w ≠ []) : wordsL q (b :: r) w = w :: wordsL q r [] := by
  rw [wordsL, hb, if_pos rfl, if_neg hw]
/-! ### The reference's words -/
/-- The words between bytes c, the empty ones too. -/
def splitL (c : Int) : List UInt8 → List UInt8 → List (List UInt8)
  | [], w => [w]
  | b :: l, w => if (b.toNat : Int) = c then w :: splitL c l [] else splitL c l (w ++ [b])
theorem split_run (c : Int) : ∀ (x r w : List UInt8), (∀ b ∈ x, (b.toNat : Int) ≠ c) → splitL c (x ++ r) w = splitL c r (w ++ x)
  | [], r, w, _ => by simp
  | b :: x, r, w, h => by
    rw [List.cons_append, splitL, if_neg (h b (by simp)), split_run c x r _ (fun d hd => h d (by simp [hd])), List.append_assoc]
    rfl
theorem bt_mkB (l : List UInt8) (i : Nat) (h : i < l.length) : bt (mkB l) (i : Int) = ((l[i]'h).toNat : Int) := by
  have hs : i < (mkB l).size := by rw [mkB_size]; exact h
  rw [← bt_at (mkB l) (i : Int) (by rw [Int.toNat_natCast]; exact hs)]
  show ((l.toArray[((i : Int)).toNat]'_).toNat : Int) = _
  simp
theorem split_loop (l : List UInt8) (hl : l.length ≤ 1048576) (c : Int) : ∀ (n k i a : Nat) (acc : List ByteArray), l.length - i = n → n < k → i ≤ l.length → a ≤ i → acc.length ≤ i →
    spec_l1Split.l0 k (mkB l) c acc (a : Int) (i : Int) = some (acc ++ (splitL c (l.drop i) ((l.drop a).take (i - a))).map mkB) := by
  intro n
  induction n with
  | zero =>
    intro k i a acc hn hk hi ha hac
    obtain ⟨k, rfl⟩ : ∃ k', k = k' + 1 := ⟨k - 1, by omega⟩
    rw [spec_l1Split.l0, mkB_size, if_neg (by omega), if_pos (by omega), if_pos (by omega), if_pos (by omega), show l.drop i = [] from List.drop_of_length_le (by omega), Int.toNat_natCast, mkB_extract]
    rw [show l.length - a = i - a from by omega]
    rfl
  | succ n ih =>
    intro k i a acc hn hk hi ha hac
    obtain ⟨k, rfl⟩ : ∃ k', k = k' + 1 := ⟨k - 1, by omega⟩
    have hil : i < l.length := by omega
    rw [spec_l1Split.l0, mkB_size, if_pos (by omega), if_pos (by omega), bt_mkB l i hil, List.drop_eq_getElem_cons hil, splitL, show wrap64 ((i : Int) + 1) = ((i + 1 : Nat) : Int) from by unfold wrap64; omega]
    by_cases hc : ((l[i]).toNat : Int) = c
    · rw [if_pos hc, if_pos hc, if_pos (by omega), if_pos (by omega), if_pos (by omega), if_pos (by omega), Int.toNat_natCast, Int.toNat_natCast, mkB_extract, ih k (i + 1) (i + 1) _ (by omega) (by omega) (by omega) (by omega) (by simp; omega)]
      simp
    · rw [if_neg hc, if_neg hc, ih k (i + 1) a acc (by omega) (by omega) (by omega) (by omega) (by omega)]
      congr 3
      rw [show i + 1 - a = (i - a) + 1 from by omega, List.take_add_one, List.getElem?_drop, show a + (i - a) = i from by omega, List.getElem?_eq_getElem hil]
      rfl
theorem l1Split_eq (l : List UInt8) (hl : l.length ≤ 1048576) (c : Int) (k : Nat) (hk : l.length < k) : spec_l1Split.f k (mkB l) c = some ((splitL c l []).map mkB) := by
  unfold spec_l1Split.f
  have := split_loop l hl c l.length k 0 0 [] (by omega) hk (Nat.zero_le _) (Nat.le_refl _) (Nat.le_refl _)
  simpa using this
theorem split_length (c : Int) : ∀ (l w : List UInt8), (splitL c l w).length ≤ l.length + 1
  | [], w => by simp [splitL]
  | b :: l, w => by
    rw [splitL]
    split
    · have := split_length c l []
      simp only [List.length_cons]
      omega
    · have := split_length c l (w ++ [b])
      simp only [List.length_cons]
      omega
/-! ### Numbers -/
/-- What the reference reads behind some digits. -/
def readD : List UInt8 → Int → Int
  | [], n => n
  | b :: l, n => if (b.toNat : Int) < 48 then -1 else if (b.toNat : Int) > 57 then -1 else readD l (wrap64 (wrap64 (10 * n) + (((b.toNat : Int) - 48) % 256)))
def readL (l : List UInt8) : Int := if 1 ≤ l.length ∧ l.length ≤ 6 ∧ ¬ (l.head? = some 48 ∧ 1 < l.length) then readD l 0 else -1
theorem read_loop (l : List UInt8) (hl : l.length ≤ 6) : ∀ (d k i : Nat) (n : Int), l.length - i = d → d < k → i ≤ l.length → spec_l1Read.l0 k (mkB l) n (i : Int) = some (readD (l.drop i) n) := by
  intro d
  induction d with
  | zero =>
    intro k i n hn hk hi
    obtain ⟨k, rfl⟩ : ∃ k', k = k' + 1 := ⟨k - 1, by omega⟩
    rw [spec_l1Read.l0, mkB_size, if_neg (by omega), List.drop_of_length_le (by omega)]
    rfl
  | succ d ih =>
    intro k i n hn hk hi
    obtain ⟨k, rfl⟩ : ∃ k', k = k' + 1 := ⟨k - 1, by omega⟩
    have hil : i < l.length := by omega
    rw [spec_l1Read.l0, mkB_size, if_pos (by omega), if_pos (by omega), bt_mkB l i hil, List.drop_eq_getElem_cons hil, readD, show wrap64 ((i : Int) + 1) = ((i + 1 : Nat) : Int) from by unfold wrap64; omega]
    by_cases h1 : ((l[i]).toNat : Int) < 48
    · rw [if_pos h1, if_pos h1]
    · rw [if_neg h1, if_neg h1]
      by_cases h2 : ((l[i]).toNat : Int) > 57
      · rw [if_pos h2, if_pos h2]
      · rw [if_neg h2, if_neg h2, ih k (i + 1) _ (by omega) (by omega) (by omega)]
theorem l1Read_eq (l : List UInt8) (k : Nat) (hk : 10 ≤ k) : spec_l1Read.f k (mkB l) = some (readL l) := by
  unfold spec_l1Read.f readL
  rw [l1In_eq, Option.bind_some, mkB_size]
  obtain ⟨k, rfl⟩ : ∃ k', k = k' + 1 := ⟨k - 1, by omega⟩
  by_cases h : 1 ≤ l.length ∧ l.length ≤ 6
  · rw [if_pos (by simp; omega), if_pos (by omega)]
    have hloop := read_loop l h.2 l.length k 0 0 (by omega) (by omega) (by omega)
    rw [show ((0 : Nat) : Int) = 0 from rfl, List.drop_zero] at hloop
    cases l with
    | nil => simp at h
    | cons b t =>
      have hb : bt (mkB (b :: t)) 0 = (b.toNat : Int) := bt_mkB (b :: t) 0 (by simp)
      rw [hb]
      by_cases h48 : (b.toNat : Int) = 48
      · have hb48 : b = 48 := UInt8.toNat_inj.1 (by show b.toNat = 48; omega)
        rw [if_pos h48, spec_l1Read.j0]
        by_cases hl : 1 < (b :: t).length
        · rw [if_pos (by simp only [decide_eq_true_eq]; omega), if_neg (fun hh => hh.2.2 ⟨by rw [hb48]; rfl, hl⟩)]
        · rw [if_neg (by simp only [decide_eq_true_eq]; omega), if_pos ⟨h.1, h.2, fun hh => hl hh.2⟩, hloop]
      · rw [if_neg h48, spec_l1Read.j0, if_neg (by decide), if_pos ⟨h.1, h.2, fun hh => h48 (by have := Option.some.inj hh.1; rw [this]; rfl)⟩, hloop]
  · rw [if_neg (by simp; omega), spec_l1Read.j0, if_pos rfl, if_neg (fun hh => h ⟨hh.1, hh.2.1⟩)]
/-- Decimal digits. -/
def digitB (b : UInt8) : Bool := decide (48 ≤ b.toNat ∧ b.toNat ≤ 57)
set_option maxRecDepth 1000000 in
theorem itoa_digits : ∀ n, n < 1001 → (Lib.itoa ((n : Nat) : Int)).all digitB = true := by decide +kernel
set_option maxRecDepth 1000000 in
theorem itoa_nonempty : ∀ n, n < 1001 → Lib.itoa ((n : Nat) : Int) ≠ [] := by decide +kernel
set_option maxRecDepth 1000000 in
theorem itoa_atoi : ∀ n, n < 1001 → Lib.atoiAll (Lib.itoa ((n : Nat) : Int)) = .ok ((n : Nat) : Int) := by decide +kernel
set_option maxRecDepth 1000000 in
theorem itoa_readL : ∀ n, n < 1001 → readL (Lib.itoa ((n : Nat) : Int)) = ((n : Nat) : Int) := by decide +kernel
theorem itoa_at1 {n : Int} (h : 0 ≤ n ∧ n ≤ 1000) : (∀ b ∈ Lib.itoa n, 48 ≤ b.toNat ∧ b.toNat ≤ 57) ∧ Lib.itoa n ≠ [] ∧ Lib.atoiAll (Lib.itoa n) = .ok n ∧ readL (Lib.itoa n) = n := by
  obtain ⟨m, rfl⟩ : ∃ m : Nat, n = (m : Int) := ⟨n.toNat, by omega⟩
  refine ⟨fun b hb => of_decide_eq_true (List.all_eq_true.1 (itoa_digits m (by omega)) b hb), itoa_nonempty m (by omega), itoa_atoi m (by omega), itoa_readL m (by omega)⟩
theorem numberOf_at {n most : Int} (h : 0 ≤ n ∧ n ≤ most) (hm : most ≤ 1000) : numberOf (mkB (Lib.itoa n)) most = (n, true) := by
  unfold numberOf
  rw [mkB_data, (itoa_at1 ⟨h.1, by omega⟩).2.2.1]
  exact if_pos ⟨rfl, h⟩
theorem numsFrom_at {most : Int} (hm : most ≤ 1000) : ∀ (l acc : List Int), (∀ n ∈ l, 0 ≤ n ∧ n ≤ most) → numsFrom most (l.map fun n => mkB (Lib.itoa n)) acc = (acc ++ l, true)
  | [], acc, _ => by simp [numsFrom]
  | n :: l, acc, h => by
    rw [List.map_cons, numsFrom, numberOf_at (h n (by simp)) hm, if_pos rfl, numsFrom_at hm l _ (fun m hm' => h m (by simp [hm']))]
    simp
theorem numsFrom_length (most : Int) : ∀ (l : List ByteArray) (acc : List Int), (numsFrom most l acc).1.length ≤ acc.length + l.length
  | [], acc => Nat.le_refl _
  | x :: l, acc => by
    rw [numsFrom]
    split
    · have := numsFrom_length most l (acc ++ [(numberOf x most).1])
      simp only [List.length_append, List.length_cons, List.length_nil] at this ⊢
      omega
    · simp
end Go.Proofs.YtadkmhlohgeihaaDoor.K
