/- The lists of bridges that join all islands: what the program's and the reference's search come to; no conditions. -/
import Derived.Test.YtkikaakfdggklaaQx58
import Derived.Test.YtkikaakfdggklaaQx14
import Derived.Test.YtkikaakfdggklaaQx39
import Derived.Test.YtkikaakfdggklaaQx38
import Derived.Test.YtkikaakfdggklaaQOne
set_option linter.unusedVariables false
set_option linter.unusedSimpArgs false
namespace Go.Proofs.Ytkikaakfdggklaa.Q
open Go.RowKit Go.Proofs.YtkikaakfdggklaaW.PrintWords Go.Proofs.YtkikaakfdggklaaW.PrintLast Go.Proofs.YtkikaakfdggklaaW.PrintMore
open Go.Proofs.Ytkikaakfdggklaa.MathJoins Go.Proofs.Ytkikaakfdggklaa.MathGroups
def atB (bs : List BR) (k : Nat) : BR := rd_T37 bs (k : Int)
def ownB (bs : List BR) (ks : List Nat) : List BR := ks.map (atB bs)
def tollT (bs : List BR) (k : Nat) : Nat := (atB bs k).f2.toNat
theorem atB_eq (bs : List BR) (k : Nat) (h : k < bs.length) : atB bs k = bs[k] := rdB bs k h
theorem ed_at (bs : List BR) (k : Nat) (h : k < bs.length) : (bs.map ed).getD k (0, 0) = ed (atB bs k) := by
  rw [List.getD_eq_getElem?_getD, List.getElem?_eq_getElem (by simpa using h), atB_eq bs k h]
  simp
theorem own_ed (bs : List BR) (ks : List Nat) (h : ∀ k, k ∈ ks → k < bs.length) : (ownB bs ks).map ed = own (bs.map ed) ks := by
  unfold ownB own
  rw [List.map_map]
  apply List.map_congr_left
  intro k hk
  exact (ed_at bs k (h k hk)).symm
theorem own_in {N : Nat} {bs : List BR} (hb : ∀ b ∈ bs, fine N b) (ks : List Nat) (h : ∀ k, k ∈ ks → k < bs.length) : ∀ b ∈ ownB bs ks, inN N b := by
  intro b hm
  obtain ⟨k, hk, rfl⟩ := List.mem_map.1 hm
  rw [atB_eq bs k (h k hk)]
  exact (hb _ (List.getElem_mem _)).1
theorem edges_inside {N : Nat} {bs : List BR} (hb : ∀ b ∈ bs, fine N b) : Inside N (bs.map ed) := by
  intro e he
  obtain ⟨b, hm, rfl⟩ := List.mem_map.1 he
  obtain ⟨h0, h1, h2, h3⟩ := (hb b hm).1
  unfold ed
  dsimp only
  omega
theorem toll_is {N : Nat} {bs : List BR} (hb : ∀ b ∈ bs, fine N b) (k : Nat) (h : k < bs.length) : (atB bs k).f2 = (tollT bs k : Int) ∧ tollT bs k ≤ 1000 := by
  unfold tollT
  rw [atB_eq bs k h]
  have := (hb _ (List.getElem_mem h)).2
  omega
theorem sum_le {N : Nat} {bs : List BR} (hb : ∀ b ∈ bs, fine N b) : ∀ (ks : List Nat) (s : Nat), (∀ k, k ∈ ks → k < bs.length) → ks.foldl (fun s k => s + tollT bs k) s ≤ s + 1000 * ks.length := by
  intro ks
  induction ks with
  | nil => intro s _; simp
  | cons k ks ih =>
    intro s h
    have h1 := ih (s + tollT bs k) (fun j hj => h j (List.mem_cons_of_mem _ hj))
    have h2 := (toll_is hb k (h k List.mem_cons_self)).2
    rw [List.foldl_cons, List.length_cons]
    omega
theorem sumT_le {N : Nat} {bs : List BR} (hb : ∀ b ∈ bs, fine N b) (ks : List Nat) (h : ∀ k, k ∈ ks → k < bs.length) : sumT (tollT bs) ks ≤ 1000 * ks.length := by
  have := sum_le hb ks 0 h
  rw [Nat.zero_add] at this
  exact this
theorem cw_take_succ (ks : List Nat) (i : Nat) (h : i < ks.length) : rd (cw ks) (i : Int) = (ks[i] : Int) := by
  rw [rdI _ i (by rw [cw_length]; exact h)]
  simp [cw]

/-! #### the program's search -/
def pL : Option (Nat × List Nat × Nat) → Int
  | none => 0
  | some s => (s.1 : Int)
def pB : Option (Nat × List Nat × Nat) → List Int
  | none => []
  | some s => cw s.2.1
theorem ownB_take_succ (bs : List BR) (ks : List Nat) (i : Nat) (h : i < ks.length) : ownB bs (ks.take (i + 1)) = ownB bs (ks.take i) ++ [atB bs ks[i]] := by
  rw [List.take_succ_eq_append_getElem h]
  unfold ownB
  rw [List.map_append]
  rfl
theorem join1_l1 (bs : List BR) (hL : bs.length ≤ 1048576) (ks : List Nat) (hl : ks.length ≤ 1048576) (hk : ∀ k, k ∈ ks → k < bs.length) : ∀ (d k i : Nat), i + d = ks.length → d < k →
    join1.l1 k bs (cw ks) (ownB bs (ks.take i)) (i : Int) = some (ownB bs ks) := by
  intro d
  induction d with
  | zero =>
    intro k i hi hd
    obtain ⟨m, rfl⟩ : ∃ m, k = m + 1 := ⟨k - 1, by omega⟩
    rw [join1.l1, if_neg (by rw [cw_length]; omega), List.take_of_length_le (by omega)]
  | succ d ih =>
    intro k i hi hd
    obtain ⟨m, rfl⟩ : ∃ m, k = m + 1 := ⟨k - 1, by omega⟩
    have hlt : i < ks.length := by omega
    have hb := hk ks[i] (List.getElem_mem hlt)
    rw [join1.l1, if_pos (by rw [cw_length]; omega), if_pos (by omega), cw_take_succ ks i hlt, if_pos (by omega), if_pos (by omega), if_pos (by simp only [ownB, List.length_map, List.length_take]; omega), w64 (by omega) (by omega), show (i : Int) + 1 = ((i + 1 : Nat) : Int) from by omega]
    have e : ownB bs (ks.take i) ++ [rd_T37 bs (ks[i] : Int)] = ownB bs (ks.take (i + 1)) := (ownB_take_succ bs ks i hlt).symm
    rw [e]
    exact ih m (i + 1) (by omega) (by omega)
theorem ih_mem {L : Nat} {ks : List Nat} (h : ∀ k, k ∈ ks → k < L) {i : Nat} (hi : i < L) : ∀ k, k ∈ ks ++ [i] → k < L := by
  intro k hk
  rcases List.mem_append.1 hk with h1 | h1
  · exact h k h1
  · obtain rfl : k = i := by simpa using h1
    exact hi
theorem cw_snoc (ks : List Nat) (i : Nat) : cw ks ++ [(i : Int)] = cw (ks ++ [i]) := by simp [cw]
theorem join1_ev (N m : Nat) (hm : m + 1 = N) (hN : N ≤ 7) (bs : List BR) (hb : ∀ b ∈ bs, fine N b) (hL : bs.length ≤ 14) : ∀ (f : Nat) (ks : List Nat) (from_ toll : Nat) (st : Option (Nat × List Nat × Nat)), (∀ k, k ∈ ks → k < bs.length) → f + ks.length = m + 1 → ks.length ≤ m → from_ ≤ bs.length → toll ≤ 1000 * ks.length → Real st → cntS st + (leaves (tollT bs) bs.length m f ks from_ toll).length ≤ 1000000000000 →
    ∃ K, ∀ k, K ≤ k → join1.f k (N : Int) bs (cw ks) (from_ : Int) (toll : Int) (pL st) (pB st) (cntS st : Int) = some (pL (((leaves (tollT bs) bs.length m f ks from_ toll).filter (full N (bs.map ed))).foldl more st), pB (((leaves (tollT bs) bs.length m f ks from_ toll).filter (full N (bs.map ed))).foldl more st), (cntS (((leaves (tollT bs) bs.length m f ks from_ toll).filter (full N (bs.map ed))).foldl more st) : Int)) := by
  intro f
  induction f with
  | zero => intro ks from_ toll st _ h1 h2; omega
  | succ f ih =>
    intro ks from_ toll st hk hf hle hfr hto hre hcn
    have hw : wrap64 ((N : Int) - 1) = (m : Int) := by rw [w64 (by omega) (by omega)]; omega
    rw [leaves] at hcn ⊢
    by_cases hl : ks.length = m
    · rw [if_pos hl] at hcn ⊢
      obtain ⟨K1, h1⟩ := countGroups_ev N (by omega) (ownB bs ks) (own_in hb ks hk) (by simp only [ownB, List.length_map]; omega)
      refine ⟨K1 + ks.length + 2, fun k hkk => ?_⟩
      obtain ⟨q, rfl⟩ : ∃ q, k = q + 1 := ⟨k - 1, by omega⟩
      have h2 := join1_l1 bs (by omega) ks (by omega) hk ks.length q 0 (by omega) (by omega)
      rw [show ((0 : Nat) : Int) = 0 from rfl, List.take_zero] at h2
      rw [join1.f, if_pos (by rw [cw_length, hw]; omega), show ([] : List BR) = ownB bs [] from rfl, h2]
      simp only [Option.bind_some]
      rw [h1 q (by omega)]
      simp only [Option.bind_some]
      rw [groupsN_G, own_ed bs ks hk]
      by_cases hfull : G N (own (bs.map ed) ks) ≤ 1
      · have e : [(ks, toll)].filter (full N (bs.map ed)) = [(ks, toll)] := by simp [full, hfull]
        rw [e, if_neg (by omega)]
        simp only [List.foldl_cons, List.foldl_nil]
        rcases st with _ | ⟨l, b, c⟩
        · rw [show ((cntS none : Nat) : Int) = 0 from rfl, if_pos rfl]
          rfl
        · have hc := hre l b c rfl
          have hcn2 : c + 1 ≤ 1000000000000 := by simpa [cntS] using hcn
          have e1 : (cntS (some (l, b, c)) : Int) = (c : Int) := rfl
          have e2 : pL (some (l, b, c)) = (l : Int) := rfl
          rw [e1, e2, if_neg (by omega)]
          have e3 : more (some (l, b, c)) (ks, toll) = if toll < l then some (toll, ks, 1) else if toll = l then some (l, b, c + 1) else some (l, b, c) := rfl
          rw [e3]
          by_cases c1 : toll < l
          · rw [if_pos (by omega), if_pos c1]
            rfl
          · rw [if_neg (by omega), if_neg c1]
            by_cases c2 : toll = l
            · rw [if_pos (by omega), if_pos c2, w64 (by omega) (by omega)]
              simp only [pL, pB, cntS]
              congr 3
            · rw [if_neg (by omega), if_neg c2]
              rfl
      · have e : [(ks, toll)].filter (full N (bs.map ed)) = [] := by simp [full, hfull]
        rw [e, if_pos (by omega)]
        rfl
    · rw [if_neg hl] at hcn ⊢
      have loop : ∀ (d i : Nat) (st : Option (Nat × List Nat × Nat)), i + d = bs.length → Real st → cntS st + ((List.range' i d).flatMap fun k => leaves (tollT bs) bs.length m f (ks ++ [k]) (k + 1) (toll + tollT bs k)).length ≤ 1000000000000 →
          ∃ K, ∀ k, K ≤ k → join1.l0 k (N : Int) bs (cw ks) (toll : Int) (pL st) (pB st) (cntS st : Int) (i : Int) = some (pL ((((List.range' i d).flatMap fun k => leaves (tollT bs) bs.length m f (ks ++ [k]) (k + 1) (toll + tollT bs k)).filter (full N (bs.map ed))).foldl more st), pB ((((List.range' i d).flatMap fun k => leaves (tollT bs) bs.length m f (ks ++ [k]) (k + 1) (toll + tollT bs k)).filter (full N (bs.map ed))).foldl more st), (cntS ((((List.range' i d).flatMap fun k => leaves (tollT bs) bs.length m f (ks ++ [k]) (k + 1) (toll + tollT bs k)).filter (full N (bs.map ed))).foldl more st) : Int)) := by
        intro d
        induction d with
        | zero =>
          intro i st hi _ _
          refine ⟨1, fun k hkk => ?_⟩
          obtain ⟨q, rfl⟩ : ∃ q, k = q + 1 := ⟨k - 1, by omega⟩
          rw [join1.l0, if_neg (by omega)]
          rfl
        | succ d ihd =>
          intro i st hi hre hcn
          have hlt : i < bs.length := by omega
          rw [List.range'_succ, List.flatMap_cons] at hcn ⊢
          rw [List.length_append] at hcn
          rw [List.filter_append, List.foldl_append]
          obtain ⟨t1, t2⟩ := toll_is hb i hlt
          have hl2 : (ks ++ [i]).length = ks.length + 1 := by simp
          obtain ⟨K1, h1⟩ := ih (ks ++ [i]) (i + 1) (toll + tollT bs i) st (ih_mem hk hlt) (by rw [hl2]; omega) (by rw [hl2]; omega) (by omega) (by rw [hl2]; omega) hre (by omega)
          have hc2 := foldl_cnt ((leaves (tollT bs) bs.length m f (ks ++ [i]) (i + 1) (toll + tollT bs i)).filter (full N (bs.map ed))) st
          have hc3 := List.length_filter_le (full N (bs.map ed)) (leaves (tollT bs) bs.length m f (ks ++ [i]) (i + 1) (toll + tollT bs i))
          obtain ⟨K2, h2⟩ := ihd (i + 1) _ (by omega) (foldl_real ((leaves (tollT bs) bs.length m f (ks ++ [i]) (i + 1) (toll + tollT bs i)).filter (full N (bs.map ed))) st hre) (by omega)
          refine ⟨K1 + K2 + 1, fun k hkk => ?_⟩
          obtain ⟨q, rfl⟩ : ∃ q, k = q + 1 := ⟨k - 1, by omega⟩
          rw [join1.l0, if_pos (by omega), if_pos (by omega), if_pos (by rw [cw_length]; omega), show (rd_T37 bs (i : Int)).f2 = (tollT bs i : Int) from t1, w64 (x := (i : Int) + 1) (by omega) (by omega), w64 (by omega) (by omega), cw_snoc, show (i : Int) + 1 = ((i + 1 : Nat) : Int) from by omega, show (toll : Int) + (tollT bs i : Int) = ((toll + tollT bs i : Nat) : Int) from by omega, h1 q (by omega)]
          simp only [Option.bind_some]
          exact h2 q (by omega)
      obtain ⟨K, h⟩ := loop (bs.length - from_) from_ st (by omega) hre hcn
      refine ⟨K + 1, fun k hkk => ?_⟩
      obtain ⟨q, rfl⟩ : ∃ q, k = q + 1 := ⟨k - 1, by omega⟩
      rw [join1.f, if_neg (by rw [cw_length, hw]; omega)]
      exact h q (by omega)
/-- The lists that join all. -/
def joins (N : Nat) (bs : List BR) : Option (Nat × List Nat × Nat) := sums ((leaves (tollT bs) bs.length (N - 1) N [] 0 0).filter (full N (bs.map ed)))
theorem pow_small {L f : Nat} (hL : L ≤ 14) (hf : f ≤ 7) : (L + 1) ^ f ≤ 170859375 := by
  have h1 : (L + 1) ^ f ≤ 15 ^ f := Nat.pow_le_pow_left (by omega) f
  have h2 : 15 ^ f ≤ 15 ^ 7 := Nat.pow_le_pow_right (by omega) hf
  have h3 : 15 ^ 7 = 170859375 := by decide
  omega
theorem joinings_ev (N : Nat) (h1 : 1 ≤ N) (hN : N ≤ 7) (bs : List BR) (hb : ∀ b ∈ bs, fine N b) (hL : bs.length ≤ 14) : ∃ K, ∀ k, K ≤ k → impl_joinings.f k (N : Int) bs = some (pL (joins N bs), pB (joins N bs), (cntS (joins N bs) : Int)) := by
  have hle := leaves_length (tollT bs) bs.length (N - 1) N [] 0 0
  have hp := pow_small (L := bs.length) (f := N) hL hN
  obtain ⟨K, h⟩ := join1_ev N (N - 1) (by omega) hN bs hb hL N [] 0 0 none (by simp) (by simp; omega) (by simp) (by omega) (by simp) real_none (by simp only [cntS]; omega)
  refine ⟨K, fun k hk => ?_⟩
  unfold impl_joinings.f joins
  exact h k hk

/-! #### the reference's search -/
def sL : Option (Nat × List Nat × Nat) → Int
  | none => -1
  | some s => (s.1 : Int)
theorem own_l1 (l : List Int) (hl : l.length ≤ 1048576) : spec_l1Own.f l = some l := by
  unfold spec_l1Own.f
  simp only [Option.bind_some, List.length_nil, List.nil_append]
  rw [if_pos (by omega)]
theorem isJoins_l0 (N : Nat) (bs : List BR) (hb : ∀ b ∈ bs, fine N b) (hL : bs.length ≤ 14) (ks : List Nat) (hl : ks.length ≤ 7) (hk : ∀ k, k ∈ ks → k < bs.length) : ∀ (d k i : Nat), i + d = ks.length →
    spec_isJoins.l0 (k + (d + 1)) (cw ks) (ownB bs (ks.take i)) (sumT (tollT bs) (ks.take i) : Int) (cw ks) (ks.length : Int) (i : Int) (N : Int) bs = spec_isJoins.l0 (k + 1) (cw ks) (ownB bs ks) (sumT (tollT bs) ks : Int) (cw ks) (ks.length : Int) (ks.length : Int) (N : Int) bs := by
  intro d
  induction d with
  | zero =>
    intro k i hi
    obtain rfl : i = ks.length := by omega
    rw [List.take_of_length_le (Nat.le_refl _)]
  | succ d ih =>
    intro k i hi
    have hlt : i < ks.length := by omega
    have hki := hk ks[i] (List.getElem_mem hlt)
    obtain ⟨t1, t2⟩ := toll_is hb ks[i] hki
    have hs := sumT_le hb (ks.take i) (fun k hm => hk k (List.mem_of_mem_take hm))
    have htl : (ks.take i).length ≤ 7 := by rw [List.length_take]; omega
    rw [← ih k (i + 1) (by omega)]
    rw [show k + (d + 1 + 1) = (k + (d + 1)) + 1 from by omega]
    rw [spec_isJoins.l0]
    rw [if_pos (by omega), if_pos (by omega), if_pos (by rw [cw_length]; omega), cw_take_succ ks i hlt, if_pos (by omega), if_pos (by omega)]
    simp only [Option.bind_some]
    rw [if_pos (by simp only [ownB, List.length_map, List.length_take, List.length_cons, List.length_nil]; omega), w64 (x := (i : Int) + 1) (by omega) (by omega), show (i : Int) + 1 = ((i + 1 : Nat) : Int) from by omega]
    rw [show (rd_T37 bs (ks[i] : Int)).f2 = (tollT bs ks[i] : Int) from t1, w64 (by omega) (by omega)]
    have e : ownB bs (ks.take i) ++ [(⟨(rd_T37 bs (ks[i] : Int)).f0, (rd_T37 bs (ks[i] : Int)).f1, (tollT bs ks[i] : Int)⟩ : BR)] = ownB bs (ks.take (i + 1)) := by
      rw [ownB_take_succ bs ks i hlt, ← show (rd_T37 bs (ks[i] : Int)).f2 = (tollT bs ks[i] : Int) from t1]
      rfl
    rw [e, List.take_succ_eq_append_getElem hlt, sumT_snoc, show (sumT (tollT bs) (ks.take i) : Int) + (tollT bs ks[i] : Int) = ((sumT (tollT bs) (ks.take i) + tollT bs ks[i] : Nat) : Int) from by omega]
def fromOf (ks : List Nat) : Nat := match ks.getLast? with
  | none => 0
  | some k => k + 1
theorem fromOf_snoc (ks : List Nat) (i : Nat) : fromOf (ks ++ [i]) = i + 1 := by simp [fromOf]
theorem isJoins_ev (N m : Nat) (hm : m + 1 = N) (hN : N ≤ 7) (bs : List BR) (hb : ∀ b ∈ bs, fine N b) (hL : bs.length ≤ 14) : ∀ (f : Nat) (ks : List Nat), (∀ k, k ∈ ks → k < bs.length) → f + ks.length = m + 1 → ks.length ≤ m →
    ∃ K, ∀ k, K ≤ k → spec_isJoins.f k (N : Int) bs (cw ks) = some (sL (sums ((pleaves (bs.map ed) (tollT bs) bs.length m f ks (fromOf ks) (sumT (tollT bs) ks)).filter (full N (bs.map ed)))), pB (sums ((pleaves (bs.map ed) (tollT bs) bs.length m f ks (fromOf ks) (sumT (tollT bs) ks)).filter (full N (bs.map ed)))), (cntS (sums ((pleaves (bs.map ed) (tollT bs) bs.length m f ks (fromOf ks) (sumT (tollT bs) ks)).filter (full N (bs.map ed)))) : Int)) := by
  intro f
  induction f with
  | zero => intro ks _ h1 h2; omega
  | succ f ih =>
    intro ks hk hf hle
    have hw : wrap64 ((N : Int) - 1) = (m : Int) := by rw [w64 (by omega) (by omega)]; omega
    obtain ⟨K1, h1⟩ := isGroups_all N (by omega) (ownB bs ks) (own_in hb ks hk) (by simp only [ownB, List.length_map]; omega)
    rw [own_ed bs ks hk] at h1
    have h0 := fun q => isJoins_l0 N bs hb hL ks (by omega) hk ks.length q 0 (by omega)
    -- behind the loop over the chosen ones
    have hgo : ∀ q, K1 ≤ q → spec_isJoins.f (q + (ks.length + 1) + 1) (N : Int) bs (cw ks) = (if ((cw ks).length : Int) = (wrap64 ((N : Int) - 1)) then ((spec_isCount.f q (labels N (merged (own (bs.map ed) ks))) (-1)).bind fun t702 => (if t702 = 1 then ((spec_l1Own.f (cw ks)).bind fun t703 => (some ((sumT (tollT bs) ks : Int), t703, 1))) else (some ((-1), ([] : List Int), 0)))) else (if ((cw ks).length : Int) > 0 then (if 0 ≤ (wrap64 (((cw ks).length : Int) - 1)) then (if (wrap64 (((cw ks).length : Int) - 1)) < ((cw ks).length : Int) then (spec_isJoins.j1 q (cw ks) (labels N (merged (own (bs.map ed) ks))) (wrap64 ((rd (cw ks) (wrap64 (((cw ks).length : Int) - 1))) + 1)) (N : Int) bs) else (none)) else (none)) else (spec_isJoins.j1 q (cw ks) (labels N (merged (own (bs.map ed) ks))) 0 (N : Int) bs))) := by
      intro q hq
      rw [spec_isJoins.f]
      have h2 := h0 q
      rw [List.take_zero] at h2
      have e0 : ((sumT (tollT bs) [] : Nat) : Int) = 0 := rfl
      have e1 : ownB bs [] = [] := rfl
      rw [e0, e1, show ((0 : Nat) : Int) = 0 from rfl] at h2
      have e2 : ((cw ks).length : Int) = (ks.length : Int) := by rw [cw_length]
      rw [e2, h2, spec_isJoins.l0, if_neg (by omega), h1 q hq]
      simp only [Option.bind_some]
      rw [e2]
    rw [pleaves]
    by_cases hl : ks.length = m
    · rw [if_pos hl]
      obtain ⟨K2, h2⟩ := isCount_ev N (by omega) (merged (own (bs.map ed) ks)) (-1)
      have hg : cnt (lead (merged (own (bs.map ed) ks)) (-1)) N 0 = G N (own (bs.map ed) ks) := by
        rw [← own_ed bs ks hk, ← groupsN_G]
        rfl
      have hpos := G_pos N (by omega) (own (bs.map ed) ks)
      refine ⟨K1 + K2 + ks.length + 2, fun k hkk => ?_⟩
      obtain ⟨q, rfl⟩ : ∃ q, k = q + (ks.length + 1) + 1 := ⟨k - (ks.length + 2), by omega⟩
      rw [hgo q (by omega), if_pos (by rw [cw_length, hw]; omega), h2 q (by omega), hg]
      simp only [Option.bind_some]
      by_cases hfull : G N (own (bs.map ed) ks) ≤ 1
      · have e : [(ks, sumT (tollT bs) ks)].filter (full N (bs.map ed)) = [(ks, sumT (tollT bs) ks)] := by simp [full, hfull]
        rw [e, if_pos (by omega), own_l1 _ (by rw [cw_length]; omega)]
        rfl
      · have e : [(ks, sumT (tollT bs) ks)].filter (full N (bs.map ed)) = [] := by simp [full, hfull]
        rw [e, if_neg (by omega)]
        rfl
    · rw [if_neg hl]
      obtain ⟨P, hP⟩ : ∃ P : Nat → List (List Nat × Nat), P = fun k => if merged (own (bs.map ed) ks) ((bs.map ed).getD k (0, 0)).1 = merged (own (bs.map ed) ks) ((bs.map ed).getD k (0, 0)).2 then [] else pleaves (bs.map ed) (tollT bs) bs.length m f (ks ++ [k]) (k + 1) (sumT (tollT bs) ks + tollT bs k) := ⟨_, rfl⟩
      have hPl : ∀ k, (P k).length ≤ (bs.length + 1) ^ f := by
        intro k
        rw [hP]
        dsimp only
        split
        · simp
        · exact pleaves_length _ _ _ _ _ _ _ _
      obtain ⟨B, hB⟩ : ∃ B : Nat, B = 170859375 := ⟨_, rfl⟩
      have hpw : (bs.length + 1) ^ f ≤ B := by rw [hB]; exact pow_small (L := bs.length) (f := f) hL (by omega)
      have hB2 : B ≤ 1000000000 := by rw [hB]; decide
      have loop : ∀ (d i : Nat) (st : Option (Nat × List Nat × Nat)), i + d = bs.length → Real st → cntS st + d * B ≤ 1000000000000 →
          ∃ K, ∀ k, K ≤ k → spec_isJoins.l1 k (cw ks) (labels N (merged (own (bs.map ed) ks))) (sL st) (cntS st : Int) (pB st) (i : Int) (N : Int) bs = some (sL (comb st (sums (((List.range' i d).flatMap P).filter (full N (bs.map ed))))), pB (comb st (sums (((List.range' i d).flatMap P).filter (full N (bs.map ed))))), (cntS (comb st (sums (((List.range' i d).flatMap P).filter (full N (bs.map ed))))) : Int)) := by
        intro d
        induction d with
        | zero =>
          intro i st hi _ _
          refine ⟨1, fun k hkk => ?_⟩
          obtain ⟨q, rfl⟩ : ∃ q, k = q + 1 := ⟨k - 1, by omega⟩
          rw [spec_isJoins.l1, if_neg (by omega)]
          rfl
        | succ d ihd =>
          intro i st hi hre hcn
          have hlt : i < bs.length := by omega
          have hdB : (d + 1) * B = d * B + B := Nat.succ_mul d B
          obtain ⟨⟨g0, g1, g2, g3⟩, _⟩ := hb bs[i] (List.getElem_mem hlt)
          have hed := ed_at bs i hlt
          rw [atB_eq bs i hlt] at hed
          have hassoc : comb st (sums (((List.range' i (d + 1)).flatMap P).filter (full N (bs.map ed)))) = comb (comb st (sums ((P i).filter (full N (bs.map ed))))) (sums (((List.range' (i + 1) d).flatMap P).filter (full N (bs.map ed)))) := by
            rw [List.range'_succ, List.flatMap_cons, List.filter_append, sums_append]
            have q1 := foldl_more (((List.range' (i + 1) d).flatMap P).filter (full N (bs.map ed))) st (sums ((P i).filter (full N (bs.map ed))))
            have q2 := foldl_more (((List.range' (i + 1) d).flatMap P).filter (full N (bs.map ed))) (comb st (sums ((P i).filter (full N (bs.map ed))))) none
            have q3 := foldl_more (((List.range' (i + 1) d).flatMap P).filter (full N (bs.map ed))) (sums ((P i).filter (full N (bs.map ed)))) none
            have c0 : ∀ s, comb s none = s := fun s => rfl
            rw [c0] at q2 q3
            rw [show sums (((List.range' (i + 1) d).flatMap P).filter (full N (bs.map ed))) = (((List.range' (i + 1) d).flatMap P).filter (full N (bs.map ed))).foldl more none from rfl, ← q3, ← q1, ← q2]
          rw [hassoc]
          have hlf : ∀ g : Nat → Nat, rd (labels N g) bs[i].f0 = (g bs[i].f0.toNat : Int) := fun g => labels_rd' N g _ g0 g1
          have hlg : ∀ g : Nat → Nat, rd (labels N g) bs[i].f1 = (g bs[i].f1.toNat : Int) := fun g => labels_rd' N g _ g2 g3
          by_cases hs : merged (own (bs.map ed) ks) bs[i].f0.toNat = merged (own (bs.map ed) ks) bs[i].f1.toNat
          · have hPi : P i = [] := by
              rw [hP]
              dsimp only
              rw [hed]
              exact if_pos hs
            rw [hPi]
            obtain ⟨K2, h2⟩ := ihd (i + 1) st (by omega) hre (by omega)
            refine ⟨K2 + 1, fun k hkk => ?_⟩
            obtain ⟨q, rfl⟩ : ∃ q, k = q + 1 := ⟨k - 1, by omega⟩
            rw [spec_isJoins.l1, if_pos (by omega), if_pos (by omega), rdB bs i hlt, labels_length, if_pos g0, if_pos g1, if_pos g2, if_pos g3, hlf, hlg, if_pos (by omega), w64 (by omega) (by omega), show (i : Int) + 1 = ((i + 1 : Nat) : Int) from by omega]
            exact h2 q (by omega)
          · have hPi : P i = pleaves (bs.map ed) (tollT bs) bs.length m f (ks ++ [i]) (i + 1) (sumT (tollT bs) ks + tollT bs i) := by
              rw [hP]
              dsimp only
              rw [hed]
              exact if_neg hs
            have hl2 : (ks ++ [i]).length = ks.length + 1 := by simp
            obtain ⟨K1', h1'⟩ := ih (ks ++ [i]) (ih_mem hk hlt) (by rw [hl2]; omega) (by rw [hl2]; omega)
            rw [fromOf_snoc, sumT_snoc, ← hPi] at h1'
            obtain ⟨t, ht⟩ : ∃ t, t = sums ((P i).filter (full N (bs.map ed))) := ⟨_, rfl⟩
            rw [← ht] at h1' ⊢
            have htr : Real t := by
              rw [ht]
              exact foldl_real _ _ real_none
            have htc : cntS t ≤ B := by
              rw [ht]
              have a1 := foldl_cnt ((P i).filter (full N (bs.map ed))) none
              have a2 := List.length_filter_le (full N (bs.map ed)) (P i)
              have a3 := hPl i
              have a4 : cntS none = 0 := rfl
              unfold sums
              omega
            have hcc := comb_cnt st t
            obtain ⟨K2, h2⟩ := ihd (i + 1) (comb st t) (by omega) (comb_real hre htr) (by omega)
            refine ⟨K1' + K2 + 3, fun k hkk => ?_⟩
            obtain ⟨q, rfl⟩ : ∃ q, k = (q + 1) + 1 := ⟨k - 2, by omega⟩
            rw [spec_isJoins.l1, if_pos (by omega), if_pos (by omega), rdB bs i hlt, labels_length, if_pos g0, if_pos g1, if_pos g2, if_pos g3, hlf, hlg, if_neg (by omega), own_l1 _ (by rw [cw_length]; omega)]
            simp only [Option.bind_some]
            rw [if_pos (by rw [cw_length]; simp; omega), cw_snoc, h1' (q + 1) (by omega)]
            simp only [Option.bind_some]
            have h3a := h2 q (by omega)
            have h3b := h2 (q + 1) (by omega)
            rw [show ((i + 1 : Nat) : Int) = (i : Int) + 1 from by omega] at h3a h3b
            rw [w64 (x := (i : Int) + 1) (by omega) (by omega)]
            rcases t with _ | ⟨l', b', c'⟩
            · rw [show ((cntS none : Nat) : Int) = 0 from rfl, if_pos rfl]
              exact h3b
            · have hc' := htr l' b' c' rfl
              rw [show ((cntS (some (l', b', c')) : Nat) : Int) = (c' : Int) from rfl, if_neg (by omega)]
              rw [show sL (some (l', b', c')) = (l' : Int) from rfl]
              rcases st with _ | ⟨l, b, c⟩
              · rw [show sL none = -1 from rfl, if_pos (by omega), spec_isJoins.j3, if_pos rfl, w64 (by omega) (by omega)]
                exact h3a
              · rw [show sL (some (l, b, c)) = (l : Int) from rfl, if_neg (by omega), spec_isJoins.j3, show ((cntS (some (l, b, c)) : Nat) : Int) = (c : Int) from rfl]
                have hcn3 : c + (d + 1) * B ≤ 1000000000000 := hcn
                have htc3 : c' ≤ B := htc
                have ec : comb (some (l, b, c)) (some (l', b', c')) = if l' < l then some (l', b', c') else if l' = l then some (l, b, c + c') else some (l, b, c) := rfl
                rw [ec] at h3a ⊢
                by_cases q1 : l' < l
                · rw [if_pos q1] at h3a ⊢
                  rw [if_pos (by simp only [decide_eq_true_eq]; omega), w64 (by omega) (by omega)]
                  exact h3a
                · rw [if_neg q1] at h3a ⊢
                  rw [if_neg (by simp only [decide_eq_true_eq]; omega)]
                  by_cases q2 : l' = l
                  · rw [if_pos q2] at h3a ⊢
                    rw [if_pos (by omega), w64 (x := (c : Int) + (c' : Int)) (by omega) (by omega), w64 (by omega) (by omega)]
                    rw [show ((cntS (some (l, b, c + c')) : Nat) : Int) = (c : Int) + (c' : Int) from by simp [cntS]] at h3a
                    exact h3a
                  · rw [if_neg q2] at h3a ⊢
                    rw [if_neg (by omega), w64 (by omega) (by omega)]
                    exact h3a
      have hfl : fromOf ks ≤ bs.length := by
        unfold fromOf
        cases hg : ks.getLast? with
        | none => simp
        | some k =>
          have := hk k (List.mem_of_getLast? hg)
          simp only
          omega
      obtain ⟨K, h⟩ := loop (bs.length - fromOf ks) (fromOf ks) none (by omega) real_none (by
        have : (bs.length - fromOf ks) * B ≤ 14 * B := Nat.mul_le_mul_right _ (by omega)
        simp only [cntS]
        omega)
      refine ⟨K1 + K + ks.length + 4, fun k hkk => ?_⟩
      obtain ⟨q, rfl⟩ : ∃ q, k = (q + 1) + (ks.length + 1) + 1 := ⟨k - (ks.length + 3), by omega⟩
      have hq := h q (by omega)
      have c1 : ∀ t, comb none t = t := by
        intro t
        rcases t with _ | ⟨l, b, c⟩ <;> rfl
      rw [c1] at hq
      rw [hgo (q + 1) (by omega), if_neg (by rw [cw_length, hw]; omega)]
      rw [← hP]
      by_cases hn : ks = []
      · subst hn
        rw [if_neg (by simp [cw]), spec_isJoins.j1]
        exact hq
      · obtain ⟨pre, last, rfl⟩ : ∃ pre last, ks = pre ++ [last] := ⟨ks.dropLast, ks.getLast hn, (List.dropLast_concat_getLast hn).symm⟩
        have hlen : (cw (pre ++ [last])).length = pre.length + 1 := by rw [cw_length]; simp
        have hlast := hk last (by simp)
        have e1 : wrap64 (((cw (pre ++ [last])).length : Int) - 1) = (pre.length : Int) := by
          rw [hlen, w64 (by simp at hle; omega) (by simp at hle; omega)]; omega
        have e2 : rd (cw (pre ++ [last])) (pre.length : Int) = (last : Int) := by
          rw [cw_take_succ (pre ++ [last]) pre.length (by simp)]
          simp
        rw [if_pos (by rw [hlen]; omega), e1, if_pos (by omega), if_pos (by rw [hlen]; omega), e2, w64 (by omega) (by omega), spec_isJoins.j1]
        rw [fromOf_snoc] at hq ⊢
        rw [show (last : Int) + 1 = ((last + 1 : Nat) : Int) from by omega]
        exact hq
/-- What the reference tells of isles that are one group. -/
theorem isJoins_all (N : Nat) (h1 : 1 ≤ N) (hN : N ≤ 7) (bs : List BR) (hb : ∀ b ∈ bs, fine N b) (hL : bs.length ≤ 14) : ∃ K, ∀ k, K ≤ k → spec_isJoins.f k (N : Int) bs [] = some (sL (joins N bs), pB (joins N bs), (cntS (joins N bs) : Int)) := by
  obtain ⟨K, h⟩ := isJoins_ev N (N - 1) (by omega) hN bs hb hL N [] (by simp) (by simp; omega) (by simp)
  refine ⟨K, fun k hk => ?_⟩
  have h2 := h k hk
  have e := leaves_full (N := N) (m := N - 1) (edges_inside hb) (by omega) (tollT bs) N [] 0 0 (by simp)
  rw [List.length_map] at e
  unfold joins
  rw [e]
  exact h2
theorem joins_one (N : Nat) (h1 : 1 ≤ N) (bs : List BR) (hb : ∀ b ∈ bs, fine N b) : (joins N bs ≠ none) ↔ groupsN N bs = 1 := by
  rw [groupsN_G]
  have h := full_iff (N := N) (m := N - 1) (edges_inside hb) (by omega) (tollT bs) N (by omega)
  rw [List.length_map] at h
  rw [← h]
  unfold joins
  rw [Ne, sums_none]
theorem joins_real (N : Nat) (bs : List BR) : Real (joins N bs) := foldl_real _ _ real_none
end Go.Proofs.Ytkikaakfdggklaa.Q
