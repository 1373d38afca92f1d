/- The plain law of FnExactParseIsles; no conditions. -/
import Derived.Test.YtadkmhlohgeihaaDoorKx4
import Derived.Test.YtadkmhlohgeihaaDoorKx9
import Derived.Test.YtadkmhlohgeihaaDoorKRead
import Derived.Test.YtadkmhlohgeihaaDoorKx12
import Derived.Test.YtadkmhlohgeihaaDoorKx13
set_option linter.unusedVariables false
set_option linter.unusedSimpArgs false
namespace Go.Proofs.YtadkmhlohgeihaaDoor.K
open Go.RowKit Go.Proofs.YtadkmhlohgeihaaDoorW.PrintWords Go.Proofs.YtadkmhlohgeihaaDoorW.PrintLast Go.Proofs.YtadkmhlohgeihaaDoorW.PrintMore
/-- The isles' text, as bytes. -/
def isTL (n : Int) (l : List BR) : List UInt8 := Lib.itoa n ++ [105] ++ textT l
/-- Small isles: one digit an island. -/
def okS (b : BR) : Prop := (0 ≤ b.f0 ∧ b.f0 ≤ 9) ∧ (0 ≤ b.f1 ∧ b.f1 ≤ 9) ∧ (0 ≤ b.f2 ∧ b.f2 ≤ 1000)
theorem okS_T {b : BR} (h : okS b) : okT b := ⟨⟨h.1.1, by have := h.1.2; omega⟩, ⟨h.2.1.1, by have := h.2.1.2; omega⟩, h.2.2⟩
theorem good_use {n : Int} {l : List BR} (h : good n l = true) : (1 ≤ n ∧ n ≤ 7) ∧ l.length ≤ 14 ∧ ∀ b ∈ l, okS b := by
  unfold good at h
  simp only [Bool.and_eq_true, decide_eq_true_eq, List.all_eq_true] at h
  obtain ⟨hn, hl, hb⟩ := h
  refine ⟨hn, hl, fun b hb' => ?_⟩
  have := of_decide_eq_true (hb b hb')
  exact ⟨⟨by omega, by omega⟩, ⟨by omega, by omega⟩, by omega, by omega⟩
theorem dig_at {n : Int} (h : 0 ≤ n ∧ n ≤ 1000) : digs (Lib.itoa n) := (itoa_at1 h).1
theorem one_len : ∀ n, n < 10 → (Lib.itoa ((n : Nat) : Int)).length = 1 := by decide +kernel
theorem one_at {n : Int} (h : 0 ≤ n ∧ n ≤ 9) : (Lib.itoa n).length = 1 := by
  obtain ⟨m, rfl⟩ : ∃ m : Nat, n = (m : Int) := ⟨n.toNat, by omega⟩
  exact one_len m (by omega)
/-! ### The bytes of a text -/
theorem bT_mem {b : BR} (h : okT b) {x : UInt8} (hx : x ∈ bT b) : (48 ≤ x.toNat ∧ x.toNat ≤ 57) ∨ x.toNat = 45 ∨ x.toNat = 58 := by
  simp only [bT, List.mem_append, List.mem_singleton] at hx
  rcases hx with (((hx | rfl) | hx) | rfl) | hx
  · exact Or.inl (dig_at h.1 x hx)
  · exact Or.inr (Or.inl rfl)
  · exact Or.inl (dig_at h.2.1 x hx)
  · exact Or.inr (Or.inr rfl)
  · exact Or.inl (dig_at h.2.2 x hx)
theorem tail_mem : ∀ {l : List BR}, (∀ b ∈ l, okT b) → ∀ x ∈ tailT l, 44 ≤ x.toNat ∧ x.toNat ≤ 58
  | [], _, x, hx => by simp [tailT] at hx
  | b :: l, h, x, hx => by
    simp only [tailT, List.mem_append, List.mem_singleton] at hx
    rcases hx with (rfl | hx) | hx
    · decide
    · have := bT_mem (h b (by simp)) hx
      omega
    · exact tail_mem (fun c hc => h c (by simp [hc])) x hx
theorem text_mem {l : List BR} (h : ∀ b ∈ l, okT b) : ∀ x ∈ textT l, 44 ≤ x.toNat ∧ x.toNat ≤ 58 := by
  cases l with
  | nil => intro x hx; simp [textT] at hx
  | cons b l =>
    intro x hx
    simp only [textT, List.mem_append] at hx
    rcases hx with hx | hx
    · have := bT_mem (h b (by simp)) hx
      omega
    · exact tail_mem (fun c hc => h c (by simp [hc])) x hx
theorem bT_short {b : BR} (h : okS b) : (bT b).length ≤ 8 := by
  have h0 := one_at h.1
  have h1 := one_at h.2.1
  have h2 := len_at _ h.2.2
  simp only [bT, List.length_append, List.length_cons, List.length_nil]
  omega
theorem tail_short : ∀ (l : List BR), (∀ b ∈ l, okS b) → (tailT l).length ≤ 9 * l.length
  | [], _ => Nat.le_refl _
  | b :: l, h => by
    have h1 := bT_short (h b (by simp))
    have h2 := tail_short l (fun m hm => h m (by simp [hm]))
    simp only [tailT, List.length_cons, List.length_append, List.length_nil]
    omega
theorem isTL_short {n : Int} {l : List BR} (h : good n l = true) : (isTL n l).length ≤ 130 := by
  obtain ⟨hn, hl, hb⟩ := good_use h
  have h0 := one_at (n := n) (by omega)
  unfold isTL
  cases l with
  | nil => simp [textT]; omega
  | cons b l =>
    have h1 := bT_short (hb b (by simp))
    have h2 := tail_short l (fun m hm => hb m (by simp [hm]))
    simp only [textT, List.length_append, List.length_cons, List.length_nil] at hl ⊢
    omega
/-! ### The program's words -/
set_option maxRecDepth 100000 in
theorem sign4_dig : ∀ n, n < 58 → 48 ≤ n → hasRune ⟨#[105, 45, 58, 44]⟩ n = false := by decide +kernel
theorem sign4_105 : hasRune ⟨#[105, 45, 58, 44]⟩ 105 = true := by decide +kernel
theorem sign4_45 : hasRune ⟨#[105, 45, 58, 44]⟩ 45 = true := by decide +kernel
theorem sign4_58 : hasRune ⟨#[105, 45, 58, 44]⟩ 58 = true := by decide +kernel
theorem sign4_44 : hasRune ⟨#[105, 45, 58, 44]⟩ 44 = true := by decide +kernel
theorem ascii_4 : asciiB ⟨#[105, 45, 58, 44]⟩ = true := by decide +kernel
def flat : List BR → List Int
  | [] => []
  | b :: l => b.f0 :: b.f1 :: b.f2 :: flat l
theorem flat_length : ∀ l : List BR, (flat l).length = 3 * l.length
  | [] => rfl
  | b :: l => by
    have := flat_length l
    simp only [flat, List.length_cons]
    omega
def q4 (b : UInt8) : Bool := hasRune ⟨#[105, 45, 58, 44]⟩ b.toNat
theorem q4_dig {l : List UInt8} (h : digs l) : ∀ b ∈ l, q4 b = false := fun b hb => sign4_dig b.toNat (by have := h b hb; omega) (h b hb).1
theorem bT_app (b : BR) (r : List UInt8) : bT b ++ r = Lib.itoa b.f0 ++ (45 :: (Lib.itoa b.f1 ++ (58 :: (Lib.itoa b.f2 ++ r)))) := by simp [bT]
theorem words_b (b : BR) (h : okT b) (r : List UInt8) : wordsL q4 (bT b ++ r) [] = Lib.itoa b.f0 :: Lib.itoa b.f1 :: wordsL q4 r (Lib.itoa b.f2) := by
  have d0 := q4_dig (dig_at h.1)
  have d1 := q4_dig (dig_at h.2.1)
  have d2 := q4_dig (dig_at h.2.2)
  rw [bT_app, words_run q4 _ _ _ d0, List.nil_append, words_sign q4 45 _ _ sign4_45 (itoa_at1 h.1).2.1, words_run q4 _ _ _ d1, List.nil_append, words_sign q4 58 _ _ sign4_58 (itoa_at1 h.2.1).2.1, words_run q4 _ _ _ d2, List.nil_append]
theorem words_tail : ∀ (l : List BR), (∀ b ∈ l, okT b) → ∀ w, w ≠ [] → wordsL q4 (tailT l) w = w :: (flat l).map Lib.itoa
  | [], _, w, hw => by rw [tailT, wordsL, if_neg hw]; rfl
  | b :: l, h, w, hw => by
    have hb := h b (by simp)
    rw [tailT, show [44] ++ bT b ++ tailT l = 44 :: (bT b ++ tailT l) from by simp, words_sign q4 44 _ w sign4_44 hw, words_b b hb, words_tail l (fun c hc => h c (by simp [hc])) _ (itoa_at1 hb.2.2).2.1]
    rfl
theorem words_isT (n : Int) (hn : 0 ≤ n ∧ n ≤ 1000) (l : List BR) (h : ∀ b ∈ l, okT b) : wordsL q4 (isTL n l) [] = (n :: flat l).map Lib.itoa := by
  unfold isTL
  rw [List.append_assoc, words_run q4 _ _ _ (q4_dig (dig_at hn)), List.nil_append, show [105] ++ textT l = 105 :: textT l from rfl, words_sign q4 105 _ _ sign4_105 (itoa_at1 hn).2.1]
  cases l with
  | nil => rfl
  | cons b l =>
    have hb := h b (by simp)
    rw [textT, words_b b hb, words_tail l (fun c hc => h c (by simp [hc])) _ (itoa_at1 hb.2.2).2.1]
    rfl
theorem flat_mem : ∀ {l : List BR}, (∀ b ∈ l, okT b) → ∀ x ∈ flat l, 0 ≤ x ∧ x ≤ 1000
  | [], _, x, hx => by simp [flat] at hx
  | b :: l, h, x, hx => by
    have hb := h b (by simp)
    simp only [flat, List.mem_cons] at hx
    rcases hx with rfl | rfl | rfl | hx
    · exact hb.1
    · exact hb.2.1
    · exact hb.2.2
    · exact flat_mem (fun c hc => h c (by simp [hc])) x hx
theorem isTL_ascii (n : Int) (hn : 0 ≤ n ∧ n ≤ 1000) (l : List BR) (h : ∀ b ∈ l, okT b) : ∀ b ∈ isTL n l, b.toNat < 128 := by
  intro b hb
  simp only [isTL, List.mem_append, List.mem_singleton] at hb
  rcases hb with (hb | rfl) | hb
  · have := dig_at hn b hb; omega
  · decide
  · have := text_mem h b hb; omega
theorem nums_isT (n : Int) (hn : 0 ≤ n ∧ n ≤ 1000) (l : List BR) (h : ∀ b ∈ l, okT b) : numsFrom 1000 (Lib.goFieldsP (hasRune ⟨#[105, 45, 58, 44]⟩) (mkB (isTL n l))) [] = (n :: flat l, true) := by
  rw [fields_words _ _ (isTL_ascii n hn l h)]
  show numsFrom 1000 ((wordsL q4 (isTL n l) []).map mkB) [] = _
  rw [words_isT n hn l h, List.map_map]
  have := numsFrom_at (most := 1000) (by omega) (n :: flat l) [] (fun x hx => by
    rcases List.mem_cons.1 hx with rfl | hx
    · exact hn
    · exact flat_mem h x hx)
  rw [List.nil_append] at this
  exact this
theorem flat_at : ∀ (l : List BR) (k : Nat) (h : k < l.length), (flat l)[3 * k]? = some l[k].f0 ∧ (flat l)[3 * k + 1]? = some l[k].f1 ∧ (flat l)[3 * k + 2]? = some l[k].f2
  | [], k, h => absurd h (by simp)
  | b :: l, 0, _ => ⟨rfl, rfl, rfl⟩
  | b :: l, k + 1, h => by
    have ih := flat_at l k (by simpa using h)
    simp only [flat, show 3 * (k + 1) = 3 * k + 1 + 1 + 1 from by omega, List.getElem?_cons_succ, List.getElem_cons_succ, show 3 * k + 1 + 1 + 1 + 1 = (3 * k + 1) + 1 + 1 + 1 from rfl, show 3 * k + 1 + 1 + 1 + 2 = (3 * k + 2) + 1 + 1 + 1 from rfl]
    exact ih
theorem rd_opt {l : List Int} {i : Nat} {x : Int} (h : l[i]? = some x) : rd l (i : Int) = x := by
  simp [rd, List.getD_eq_getElem?_getD, h]
theorem brs_flat (n : Int) (l : List BR) : brs (n :: flat l) = l := by
  unfold brs
  rw [List.length_cons, flat_length, show (3 * l.length + 1) / 3 = l.length from by omega]
  apply List.ext_getElem
  · simp
  · intro k h1 h2
    obtain ⟨a, b, c⟩ := flat_at l k h2
    rw [List.getElem_map, List.getElem_range]
    unfold brAt
    rw [rd_opt (x := l[k].f0) (by rw [show 1 + 3 * k = 3 * k + 1 from by omega, List.getElem?_cons_succ]; exact a), rd_opt (x := l[k].f1) (by rw [show 1 + 3 * k + 1 = 3 * k + 1 + 1 from by omega, List.getElem?_cons_succ]; exact b), rd_opt (x := l[k].f2) (by rw [show 1 + 3 * k + 2 = 3 * k + 2 + 1 from by omega, List.getElem?_cons_succ]; exact c)]
theorem numberOf_range {s : ByteArray} {most : Int} (h : (numberOf s most).2 = true) : 0 ≤ (numberOf s most).1 ∧ (numberOf s most).1 ≤ most := by
  unfold numberOf at h ⊢
  split at h
  · split at h
    · rename_i hc
      rw [if_pos hc]
      exact hc.2
    · cases h
  · cases h
theorem numsFrom_range (most : Int) : ∀ (l : List ByteArray) (acc : List Int), (∀ n ∈ acc, 0 ≤ n ∧ n ≤ most) → ∀ n ∈ (numsFrom most l acc).1, 0 ≤ n ∧ n ≤ most
  | [], acc, h => h
  | x :: l, acc, h => by
    rw [numsFrom]
    by_cases hc : (numberOf x most).2 = true
    · rw [if_pos hc]
      refine numsFrom_range most l _ (fun n hn => ?_)
      rcases List.mem_append.1 hn with hn | hn
      · exact h n hn
      · rw [List.mem_singleton.1 hn]
        exact numberOf_range hc
    · rw [if_neg hc]
      intro n hn
      cases hn
theorem rd_range {l : List Int} (h : ∀ n ∈ l, 0 ≤ n ∧ n ≤ 1000) (i : Int) : 0 ≤ rd l i ∧ rd l i ≤ 1000 := by
  unfold rd
  rw [List.getD_eq_getElem?_getD]
  cases hx : l[i.toNat]? with
  | none => simp
  | some x => exact h x (List.mem_of_getElem? hx)
theorem brs_wf {zs : List Int} (h : ∀ n ∈ zs, 0 ≤ n ∧ n ≤ 1000) : ∀ b ∈ brs zs, wfBR b := by
  intro b hb
  unfold brs at hb
  obtain ⟨k, _, rfl⟩ := List.mem_map.1 hb
  have h0 := rd_range h ((1 + 3 * k : Nat) : Int)
  have h1 := rd_range h ((1 + 3 * k + 1 : Nat) : Int)
  have h2 := rd_range h ((1 + 3 * k + 2 : Nat) : Int)
  exact ⟨⟨by show _ ≤ rd zs _; omega, by show rd zs _ ≤ _; omega⟩, ⟨by show _ ≤ rd zs _; omega, by show rd zs _ ≤ _; omega⟩, ⟨by show _ ≤ rd zs _; omega, by show rd zs _ ≤ _; omega⟩⟩
/-- What the program answers: the isles of which s is the text. -/
theorem impl_eq (s : ByteArray) (hs : s.size ≤ 1048576) : ∃ v : Int × List BR × Bool, (v.2.2 = true → good v.1 v.2.1 = true ∧ mkB (isTL v.1 v.2.1) = s) ∧ (v.2.2 = false → v.1 = 0 ∧ v.2.1 = [] ∧ ¬ ∃ n l, good n l = true ∧ mkB (isTL n l) = s) ∧ ∀ k, 200 ≤ k → impl_ParseIsles.f k s = some v := by
  obtain ⟨⟨zs, ok⟩, hN⟩ : ∃ x, numsFrom 1000 (Lib.goFieldsP (hasRune ⟨#[105, 45, 58, 44]⟩) s) [] = x := ⟨_, rfl⟩
  have hr : ∀ n ∈ zs, 0 ≤ n ∧ n ≤ 1000 := by
    have := numsFrom_range 1000 (Lib.goFieldsP (hasRune ⟨#[105, 45, 58, 44]⟩) s) [] (fun n hn => by cases hn)
    rw [hN] at this
    exact this
  obtain ⟨z, hz⟩ : ∃ z, rd zs 0 = z := ⟨_, rfl⟩
  obtain ⟨bs, hb⟩ : ∃ bs, brs zs = bs := ⟨_, rfl⟩
  have hw : ∀ b ∈ bs, wfBR b := by rw [← hb]; exact brs_wf hr
  have hf : ∀ k, 200 ≤ k → impl_ParseIsles.f k s = some (if (ok = true ∧ zs.length % 3 = 1) ∧ good z bs = true ∧ mkB (isTL z bs) = s then (z, bs, true) else (0, [], false)) := by
    intro k hk
    unfold impl_ParseIsles.f impl_numbers.f
    rw [if_pos ⟨hs, by decide, ascii_4⟩, hN, Option.bind_some]
    dsimp only
    rw [hz, hb]
    by_cases h1 : ok = true ∧ zs.length % 3 = 1
    · rw [if_pos h1, areIsles_eq z bs hw, Option.bind_some]
      by_cases hg : good z bs = true
      · obtain ⟨hn, hl, hall⟩ := good_use hg
        rw [if_pos hg, islesText_eq z (by omega) bs hl (fun b hb => okS_T (hall b hb)) k (by omega), Option.bind_some, show isT z bs = mkB (isTL z bs) from rfl]
        by_cases he : mkB (isTL z bs) = s
        · rw [if_pos ((toList_iff _ _).2 he), if_pos ⟨h1, hg, he⟩]
        · rw [if_neg (fun h => he ((toList_iff _ _).1 h)), if_neg (fun h => he h.2.2)]
      · rw [if_neg hg, if_neg (fun h => hg h.2.1)]
    · rw [if_neg h1, if_neg (fun h => h1 h.1)]
  by_cases hc : (ok = true ∧ zs.length % 3 = 1) ∧ good z bs = true ∧ mkB (isTL z bs) = s
  · refine ⟨(z, bs, true), fun _ => hc.2, (fun h => by cases h), fun k hk => ?_⟩
    rw [hf k hk, if_pos hc]
  · refine ⟨(0, [], false), (fun h => by cases h), fun _ => ⟨rfl, rfl, ?_⟩, fun k hk => ?_⟩
    · rintro ⟨n, l, hg, he⟩
      obtain ⟨hn, hl, hall⟩ := good_use hg
      have := nums_isT n (by omega) l (fun b hb => okS_T (hall b hb))
      rw [he, hN] at this
      obtain ⟨rfl, rfl⟩ := Prod.mk.inj this
      rw [brs_flat] at hb
      subst hb
      have hz' : n = z := hz
      subst hz'
      exact hc ⟨⟨rfl, by rw [List.length_cons, flat_length]; omega⟩, hg, he⟩
    · rw [hf k hk, if_neg hc]
/-! ### The reference -/
def parseB (w : List UInt8) : Option BR :=
  match splitL 58 w [] with
  | [a, c] => (match splitL 45 a [] with
    | [x, y] => some ⟨readL x, readL y, readL c⟩
    | _ => none)
  | _ => none
def parseBs : List (List UInt8) → Option (List BR)
  | [] => some []
  | w :: r => (parseB w).bind fun b => (parseBs r).map (b :: ·)
def failI : Int × List BR × Bool := (0, [], false)
def endI (n : Int) (l : List BR) : Int × List BR × Bool := if good n l = true then (n, l, true) else failI
def specR (l : List UInt8) : Int × List BR × Bool :=
  if 130 < l.length then failI
  else match splitL 105 l [] with
    | [p, q] => if q = [] then endI (readL p) [] else (match parseBs (splitL 44 q []) with
      | some bs => endI (readL p) bs
      | none => failI)
    | _ => failI
theorem rdOf_map (L : List (List UInt8)) (i : Nat) (h : i < L.length) : rdOf ByteArray.empty (L.map mkB) (i : Int) = mkB (L[i]'h) := by
  simp [rdOf, List.getD_eq_getElem?_getD, List.getElem?_eq_getElem h]
theorem mkB_nil (l : List UInt8) : (mkB l).toList = ([] : List UInt8) ↔ l = [] := by
  rw [ByteArray.toList_eq, mkB_data]
theorem isParse_loop (L : List (List UInt8)) (hL : L.length ≤ 200) (hw : ∀ w ∈ L, w.length ≤ 200) (n : Int) : ∀ (d k i : Nat) (acc : List BR), L.length - i = d → d + 500 < k → i ≤ L.length → acc.length ≤ i →
    spec_isParse.l0 k (L.map mkB) ((L.map mkB).length : Int) (i : Int) n acc = some (match parseBs (L.drop i) with | some bs => endI n (acc ++ bs) | none => failI) := by
  intro d
  induction d with
  | zero =>
    intro k i acc hd hk hi ha
    obtain ⟨k, rfl⟩ : ∃ k', k = k' + 1 := ⟨k - 1, by omega⟩
    rw [spec_isParse.l0, if_neg (by rw [List.length_map]; omega), isGood_at n acc k (by omega), Option.bind_some, List.drop_of_length_le (by omega)]
    simp only [parseBs, List.append_nil, endI, failI]
    split <;> rfl
  | succ d ih =>
    intro k i acc hd hk hi ha
    obtain ⟨k, rfl⟩ : ∃ k', k = k' + 1 := ⟨k - 1, by omega⟩
    have hil : i < L.length := by omega
    have hwl := hw _ (List.getElem_mem hil)
    obtain ⟨w, hwe⟩ : ∃ w, L[i]'hil = w := ⟨_, rfl⟩
    have hdr : L.drop i = w :: L.drop (i + 1) := by rw [List.drop_eq_getElem_cons hil, hwe]
    rw [hwe] at hwl
    have hfail : parseB w = none → (match parseBs (L.drop i) with | some bs => endI n (acc ++ bs) | none => failI) = failI := by
      intro h
      rw [hdr, parseBs, h]
      rfl
    rw [spec_isParse.l0, if_pos (by rw [List.length_map]; omega), if_pos (by omega), if_pos (by rw [List.length_map]; omega), rdOf_map L i hil, hwe, l1Split_eq w (by omega) 58 k (by omega), Option.bind_some, show wrap64 ((i : Int) + 1) = ((i + 1 : Nat) : Int) from by unfold wrap64; omega]
    have hsm := split_mem 58 w []
    cases hP : splitL 58 w [] with
    | nil => exact absurd hP (split_ne _ _ _)
    | cons a P =>
      rw [hP] at hsm
      cases P with
      | nil => rw [if_neg (by simp), hfail (by unfold parseB; rw [hP])]; rfl
      | cons c P =>
        cases P with
        | cons e P => rw [if_neg (by simp; omega), hfail (by unfold parseB; rw [hP])]; rfl
        | nil =>
          have hal := hsm a (by simp)
          simp only [List.length_nil, Nat.zero_add] at hal
          rw [if_pos (by simp), if_pos (by simp), show rdOf ByteArray.empty ([a, c].map mkB) 0 = mkB a from rfl, show rdOf ByteArray.empty ([a, c].map mkB) 1 = mkB c from rfl, l1Split_eq a (by omega) 45 k (by omega), Option.bind_some]
          cases hQ : splitL 45 a [] with
          | nil => exact absurd hQ (split_ne _ _ _)
          | cons x Q =>
            cases Q with
            | nil => rw [if_neg (by simp), hfail (by unfold parseB; rw [hP]; dsimp only; rw [hQ])]; rfl
            | cons y Q =>
              cases Q with
              | cons e Q => rw [if_neg (by simp; omega), hfail (by unfold parseB; rw [hP]; dsimp only; rw [hQ])]; rfl
              | nil =>
                have hB : parseB w = some ⟨readL x, readL y, readL c⟩ := by unfold parseB; rw [hP]; dsimp only; rw [hQ]
                rw [if_pos (by simp), if_pos (by simp), show rdOf ByteArray.empty ([x, y].map mkB) 0 = mkB x from rfl, show rdOf ByteArray.empty ([x, y].map mkB) 1 = mkB y from rfl, l1Read_eq x k (by omega), Option.bind_some, if_pos (by simp), l1Read_eq y k (by omega), Option.bind_some, if_pos (by simp), l1Read_eq c k (by omega), Option.bind_some, if_pos (by omega), ih k (i + 1) _ (by omega) (by omega) (by omega) (by rw [List.length_append]; simp; omega), hdr, parseBs, hB, Option.bind_some]
                cases parseBs (L.drop (i + 1)) with
                | none => rfl
                | some r => simp
theorem spec_eq (l : List UInt8) (hl : l.length ≤ 1048576) (k : Nat) (hk : l.length + 2000 ≤ k) : spec_ParseIsles.f k (mkB l) = some (specR l) := by
  have hj : spec_isParse.f k (mkB l) = some (specR l) := by
    unfold spec_isParse.f specR
    rw [l1Split_eq l hl 105 k (by omega), Option.bind_some, mkB_size]
    obtain ⟨k, rfl⟩ : ∃ k', k = k' + 1 := ⟨k - 1, by omega⟩
    by_cases h130 : 130 < l.length
    · rw [if_pos (by omega), if_pos h130, spec_isParse.j0, if_pos rfl]
      rfl
    · rw [if_neg (by omega), if_neg h130, spec_isParse.j0]
      have hsm := split_mem 105 l []
      cases hP : splitL 105 l [] with
      | nil => exact absurd hP (split_ne _ _ _)
      | cons p P =>
        rw [hP] at hsm
        cases P with
        | nil => rw [if_pos (by simp)]; rfl
        | cons q P =>
          cases P with
          | cons e P =>
            rw [if_pos (by
              rw [bne_iff_ne]
              simp
              omega)]
            rfl
          | nil =>
            have hql := hsm q (by simp)
            simp only [List.length_nil, Nat.zero_add] at hql
            rw [if_neg (by simp), if_pos (by simp), show rdOf ByteArray.empty ([p, q].map mkB) 0 = mkB p from rfl, show rdOf ByteArray.empty ([p, q].map mkB) 1 = mkB q from rfl, l1Read_eq p k (by omega), Option.bind_some, if_pos (by simp)]
            dsimp only
            by_cases hq : q = []
            · rw [if_pos ((mkB_nil q).2 hq), if_pos hq, isGood_at _ _ k (by simp; omega), Option.bind_some]
              unfold endI failI
              split <;> rfl
            · rw [if_neg (fun h => hq ((mkB_nil q).1 h)), if_neg hq, l1Split_eq q (by omega) 44 k (by omega), Option.bind_some]
              have hsl := split_length 44 q []
              have hmm := split_mem 44 q []
              have := isParse_loop (splitL 44 q []) (by omega) (fun w hw => by have := hmm w hw; simp at this; omega) (readL p) (splitL 44 q []).length k 0 [] (by omega) (by omega) (Nat.zero_le _) (Nat.zero_le _)
              rw [List.drop_zero] at this
              rw [show ((0 : Nat) : Int) = 0 from rfl] at this
              rw [this]
              cases parseBs (splitL 44 q []) <;> rfl
  unfold spec_ParseIsles.f
  rw [hj, Option.bind_some]
/-- What the reference takes, it has read out of that isles' text. -/
theorem parseB_inv {w : List UInt8} {b : BR} (h : parseB w = some b) (hb : okT b) : w = bT b := by
  unfold parseB at h
  have h1 := join_split 58 w []
  have e58 : ((58 : UInt8).toNat : Int) = 58 := rfl
  have e45 : ((45 : UInt8).toNat : Int) = 45 := rfl
  rw [e58] at h1
  split at h
  · rename_i a c hP
    rw [hP] at h1
    have h2 := join_split 45 a []
    rw [e45] at h2
    split at h
    · rename_i x y hQ
      rw [hQ] at h2
      obtain rfl := Option.some.inj h
      have hx := readL_inv x hb.1.1
      have hy := readL_inv y hb.2.1.1
      have hc := readL_inv c hb.2.2.1
      simp only [joinL, List.nil_append] at h1 h2
      rw [← h1, ← h2]
      unfold bT
      dsimp only
      rw [← hx, ← hy, ← hc]
      simp
    · cases h
  · cases h
theorem parseBs_inv : ∀ (L : List (List UInt8)) (bs : List BR), parseBs L = some bs → (∀ b ∈ bs, okT b) → L = bs.map bT
  | [], bs, h, _ => by
    simp only [parseBs, Option.some.injEq] at h
    subst h
    rfl
  | w :: r, bs, h, hb => by
    rw [parseBs] at h
    obtain ⟨b, h1, h2⟩ := Option.bind_eq_some_iff.mp h
    obtain ⟨rs, h3, rfl⟩ := Option.map_eq_some_iff.mp h2
    rw [List.map_cons, ← parseB_inv h1 (hb b (by simp)), ← parseBs_inv r rs h3 (fun c hc => hb c (by simp [hc]))]
theorem join_bT : ∀ (l : List BR), joinL 44 (l.map bT) = textT l
  | [] => rfl
  | [b] => by simp [joinL, textT, tailT]
  | b :: c :: l => by
    have ih := join_bT (c :: l)
    rw [List.map_cons, joinL_cons 44 _ _ (by simp), ih]
    simp [textT, tailT]
theorem specR_inv {l : List UInt8} {n : Int} {bs : List BR} (h : specR l = (n, bs, true)) : good n bs = true ∧ isTL n bs = l := by
  have key : ∀ (p : List UInt8) (r : List BR), endI (readL p) r = (n, bs, true) → good n bs = true ∧ p = Lib.itoa n ∧ r = bs := by
    intro p r he
    unfold endI failI at he
    by_cases hg : good (readL p) r = true
    · rw [if_pos hg] at he
      simp only [Prod.mk.injEq] at he
      obtain ⟨rfl, rfl, _⟩ := he
      exact ⟨hg, readL_inv p (by have := (good_use hg).1; omega), rfl⟩
    · rw [if_neg hg] at he
      simp at he
  unfold specR at h
  have h1 := join_split 105 l []
  rw [show ((105 : UInt8).toNat : Int) = 105 from rfl] at h1
  by_cases h130 : 130 < l.length
  · rw [if_pos h130] at h
    simp [failI] at h
  · rw [if_neg h130] at h
    split at h
    · rename_i p q hP
      rw [hP] at h1
      simp only [joinL, List.nil_append] at h1
      by_cases hq : q = []
      · rw [if_pos hq] at h
        obtain ⟨hg, hp, hr⟩ := key p [] h
        subst hr
        refine ⟨hg, ?_⟩
        rw [← h1, hq, hp]
        simp [isTL, textT]
      · rw [if_neg hq] at h
        split at h
        · rename_i r hR
          obtain ⟨hg, hp, hr⟩ := key p r h
          subst hr
          have hok : ∀ b ∈ r, okT b := fun b hb => okS_T ((good_use hg).2.2 b hb)
          have hj := join_split 44 q []
          rw [show ((44 : UInt8).toNat : Int) = 44 from rfl, parseBs_inv _ r hR hok, join_bT, List.nil_append] at hj
          refine ⟨hg, ?_⟩
          rw [← h1, ← hj, hp]
          simp [isTL]
        · simp [failI] at h
    · simp [failI] at h
theorem split_tail44 : ∀ (l : List BR), (∀ b ∈ l, okT b) → ∀ w, splitL 44 (tailT l) w = w :: l.map bT
  | [], _, w => by rw [tailT, splitL]; rfl
  | b :: l, h, w => by
    rw [tailT, show [44] ++ bT b ++ tailT l = 44 :: (bT b ++ tailT l) from by simp, splitL, if_pos (by decide), split_run 44 _ _ _ (fun x hx => by have := bT_mem (h b (by simp)) hx; omega), List.nil_append, split_tail44 l (fun c hc => h c (by simp [hc]))]
    rfl
theorem parseB_bT {b : BR} (h : okT b) : parseB (bT b) = some b := by
  have d0 := dig_at h.1
  have d1 := dig_at h.2.1
  have d2 := dig_at h.2.2
  have e1 : splitL 58 (bT b) [] = [Lib.itoa b.f0 ++ [45] ++ Lib.itoa b.f1, Lib.itoa b.f2] := by
    rw [show bT b = (Lib.itoa b.f0 ++ [45] ++ Lib.itoa b.f1) ++ 58 :: Lib.itoa b.f2 from by simp [bT], split_run 58 _ _ _ (fun x hx => by
      simp only [List.mem_append, List.mem_singleton] at hx
      rcases hx with (hx | rfl) | hx
      · have := d0 x hx; omega
      · decide
      · have := d1 x hx; omega), splitL, if_pos (by decide), split_end 58 _ _ (fun x hx => by have := d2 x hx; omega)]
    rfl
  have e2 : splitL 45 (Lib.itoa b.f0 ++ [45] ++ Lib.itoa b.f1) [] = [Lib.itoa b.f0, Lib.itoa b.f1] := by
    rw [List.append_assoc, split_run 45 _ _ _ (fun x hx => by have := d0 x hx; omega), show [45] ++ Lib.itoa b.f1 = 45 :: Lib.itoa b.f1 from rfl, splitL, if_pos (by decide), split_end 45 _ _ (fun x hx => by have := d1 x hx; omega)]
    rfl
  unfold parseB
  rw [e1]
  dsimp only
  rw [e2]
  dsimp only
  rw [(itoa_at1 h.1).2.2.2, (itoa_at1 h.2.1).2.2.2, (itoa_at1 h.2.2).2.2.2]
theorem parseBs_bT : ∀ (l : List BR), (∀ b ∈ l, okT b) → parseBs (l.map bT) = some l
  | [], _ => rfl
  | b :: l, h => by
    rw [List.map_cons, parseBs, parseB_bT (h b (by simp)), Option.bind_some, parseBs_bT l (fun c hc => h c (by simp [hc]))]
    rfl
theorem specR_isTL {n : Int} {bs : List BR} (h : good n bs = true) : specR (isTL n bs) = (n, bs, true) := by
  obtain ⟨hn, hl, hall⟩ := good_use h
  have hok : ∀ b ∈ bs, okT b := fun b hb => okS_T (hall b hb)
  have hn' : 0 ≤ n ∧ n ≤ 1000 := by omega
  have hsh := isTL_short h
  have hend : endI n bs = (n, bs, true) := by unfold endI; rw [if_pos h]
  have e1 : splitL 105 (isTL n bs) [] = [Lib.itoa n, textT bs] := by
    unfold isTL
    rw [List.append_assoc, split_run 105 _ _ _ (fun x hx => by have := dig_at hn' x hx; omega), show [105] ++ textT bs = 105 :: textT bs from rfl, splitL, if_pos (by decide), split_end 105 _ _ (fun x hx => by have := text_mem hok x hx; omega)]
    rfl
  unfold specR
  rw [if_neg (by omega), e1]
  dsimp only
  rw [(itoa_at1 hn').2.2.2]
  cases bs with
  | nil => rw [if_pos (show textT ([] : List BR) = [] from rfl)]; exact hend
  | cons b l =>
    have hb := hok b (by simp)
    have e2 : splitL 44 (textT (b :: l)) [] = (b :: l).map bT := by
      rw [textT, split_run 44 _ _ _ (fun x hx => by have := bT_mem hb hx; omega), List.nil_append, split_tail44 l (fun c hc => hok c (by simp [hc]))]
      rfl
    rw [if_neg (by
      simp only [textT, bT]
      simp), e2, parseBs_bT _ hok]
    exact hend
theorem FnExactParseIsles_pure (a0 : ByteArray) (w0 : a0.size ≤ 140737488351232) : ∃ k, laws_FnExactParseIsles.f k a0 = some true := by
  by_cases h : (a0.size : Int) > 1048576
  · refine ⟨1, ?_⟩
    unfold laws_FnExactParseIsles.f
    rw [if_pos h]
  · obtain ⟨l, rfl⟩ : ∃ l, a0 = mkB l := ⟨a0.data.toList, (mkB_eta a0).symm⟩
    rw [mkB_size] at h
    have hv : ∃ v : Int × List BR × Bool, v.2.1.length ≤ 1048576 ∧ ∀ k, l.length + 2000 ≤ k → spec_ParseIsles.f k (mkB l) = some v ∧ impl_ParseIsles.f k (mkB l) = some v := by
      obtain ⟨v, hv1, hv2, hk⟩ := impl_eq (mkB l) (by rw [mkB_size]; omega)
      have e : specR l = v ∧ v.2.1.length ≤ 1048576 := by
        obtain ⟨n, bs, ok⟩ := v
        cases ok with
        | true =>
          obtain ⟨hg, ht⟩ := hv1 rfl
          have h14 : bs.length ≤ 14 := (good_use hg).2.1
          refine ⟨?_, by show bs.length ≤ _; omega⟩
          rw [← mkB_inj ht]
          exact specR_isTL hg
        | false =>
          obtain ⟨e1, e2, hno⟩ := hv2 rfl
          have e1' : n = 0 := e1
          have e2' : bs = [] := e2
          subst e1'
          subst e2'
          refine ⟨?_, by simp⟩
          obtain ⟨⟨n', bs', ok'⟩, hS⟩ : ∃ x, specR l = x := ⟨_, rfl⟩
          cases ok' with
          | true =>
            obtain ⟨hg, ht⟩ := specR_inv hS
            exact absurd ⟨n', bs', hg, by rw [ht]⟩ hno
          | false =>
            have hF : ∀ m r, endI m r = (n', bs', false) → (n', bs', false) = failI := by
              intro m r he
              unfold endI at he
              split at he
              · simp at he
              · exact he.symm
            have hS' := hS
            unfold specR at hS'
            rw [hS]
            show _ = failI
            split at hS'
            · exact hS'.symm
            · split at hS'
              · split at hS'
                · exact hF _ _ hS'
                · split at hS'
                  · exact hF _ _ hS'
                  · exact hS'.symm
              · exact hS'.symm
      refine ⟨v, e.2, fun k hk' => ⟨?_, hk k (by omega)⟩⟩
      rw [← e.1]
      exact spec_eq l (by omega) k hk'
    obtain ⟨v, hl, hk⟩ := hv
    obtain ⟨K1, h1⟩ := eqIsles_ev v.1 v.2.1 (by omega)
    obtain ⟨K2, h2⟩ := markIsles_ev v.1 v.2.1 hl
    obtain ⟨m, hm⟩ : ∃ m, m = l.length + 2000 + K1 + K2 + 10 := ⟨_, rfl⟩
    refine ⟨m + 1 + 1 + 1, ?_⟩
    have hB : (v.2.2 != v.2.2) = false := by simp
    have e := hk (m + 1 + 1 + 1) (by omega)
    have e2 := hk (m + 1 + 1) (by omega)
    unfold laws_FnExactParseIsles.f
    rw [mkB_size, if_neg h, e.1, Option.bind_some, e.2, Option.bind_some, h1 _ (by omega), Option.bind_some, if_pos rfl, hB]
    simp only [laws_FnExactParseIsles.j0, laws_FnExactParseIsles.j1]
    rw [if_neg (by decide), (h2 _ (by omega)).1, Option.bind_some, (h2 _ (by omega)).2, Option.bind_some, if_neg (by omega), if_pos rfl, e2.2, Option.bind_some, h1 _ (by omega), Option.bind_some, if_pos rfl, hB, if_neg (by decide), (h2 _ (by omega)).2, Option.bind_some, if_neg (by omega), if_pos rfl]
end Go.Proofs.YtadkmhlohgeihaaDoor.K
