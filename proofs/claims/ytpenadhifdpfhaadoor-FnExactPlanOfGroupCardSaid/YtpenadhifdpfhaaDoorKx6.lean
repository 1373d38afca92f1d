/- Go functions of this seat as plain functions, each with the proof that its call comes to what that function says: written by this session's program (wip/drive.py) out of the translation, by the kit's printer and by texts of our own; no conditions. -/
import Derived.Test.YtpenadhifdpfhaaDoorKx0
import Derived.Test.YtpenadhifdpfhaaDoorKx1
import Derived.Test.YtpenadhifdpfhaaDoorKx4
import Derived.Test.YtpenadhifdpfhaaDoorKx5
import Derived.Shelf.Abstract
namespace Go.Proofs.YtpenadhifdpfhaaDoor.K
open Go.RowKit Go.Proofs.YtpenadhifdpfhaaDoorW.PrintWords Go.Proofs.YtpenadhifdpfhaaDoorW.PrintLast Go.Proofs.YtpenadhifdpfhaaDoorW.PrintMore
attribute [local go_sem] max2_int min2_int max_two min_two max_three min_three max_four min_four   -- for this text's walks alone
set_option linter.unusedVariables false
set_option linter.unusedSimpArgs false

/-! ### laws_FnExactPlanOfGroup: function 3 -/
/-- A head told by its value. -/
def deS : Value → Option Addr × Nat × Nat
  | .slice A n c => (A, n, c)
  | _ => (none, 0, 0)
theorem toRows {W : World} {B g n cap : Nat} {rows : List (List Int)} (h : Kd.S (Kd.slice 3 (Kd.int .i64)) 30 W B (fun _ => True) (.slice (some ⟨g, 0, none⟩) n cap) rows) : ∃ ss, RowsOf W B g n cap ss rows ∧ ApartTo ss n := by
  obtain ⟨hn, _, _⟩ := Kd.S_reads' h
  obtain ⟨f, _, inner, hown, hr⟩ := h
  rw [List.length_zipIdx] at hown
  have hil : inner.length = rows.length := by
    have := hr.1
    rwa [List.length_zipIdx, show (Kd.tag f (Kd.slice 3 (Kd.int .i64))).sz = 1 from rfl, Nat.mul_one] at this
  have key : ∀ (j : Nat) (l : List Int), rows[j]? = some l → ∃ A c, inner[j]? = some (.slice A l.length c) ∧ Kd.R (Kd.int .i64) 3 W B (fun k => (True ∧ some k ≠ (Value.slice (some ⟨g, 0, none⟩) n cap).ownBlock) ∧ f k = j) (.slice A l.length c) l := by
    intro j l hl
    have hj := (List.getElem?_eq_some_iff.1 hl).1
    have h1 := hr.2 j (l, j) (Kd.zip_at hl)
    rw [show (Kd.tag f (Kd.slice 3 (Kd.int .i64))).sz = 1 from rfl, Nat.mul_one] at h1
    obtain ⟨v, hv, hR⟩ := h1
    obtain ⟨A, c, rfl⟩ := Kd.R_slice hR
    refine ⟨A, c, ?_, hR⟩
    rw [List.drop_eq_getElem_cons (by omega)] at hv
    simp only [List.take_succ_cons, List.take_zero, List.cons.injEq, and_true] at hv
    rw [List.getElem?_eq_getElem (by omega), hv]
  have hget : ∀ (j : Nat) (s : Option Addr × Nat × Nat), (inner.map deS)[j]? = some s → ∃ l, rows[j]? = some l ∧ Kd.R (Kd.int .i64) 3 W B (fun k => (True ∧ some k ≠ (Value.slice (some ⟨g, 0, none⟩) n cap).ownBlock) ∧ f k = j) (encS s) l := by
    intro j s hs
    have hj := (List.getElem?_eq_some_iff.1 hs).1
    rw [List.length_map] at hj
    obtain ⟨A, c, h1, h2⟩ := key j _ (List.getElem?_eq_getElem (show j < rows.length by omega))
    rw [List.getElem?_map, h1] at hs
    simp only [Option.map_some, deS, Option.some.injEq] at hs
    subst hs
    exact ⟨_, List.getElem?_eq_getElem (show j < rows.length by omega), h2⟩
  have henc : encs encS (inner.map deS) = inner := by
    unfold encs
    rw [List.map_map]
    apply List.ext_getElem
    · simp
    · intro j h1 h2
      obtain ⟨A, c, h3, _⟩ := key j _ (List.getElem?_eq_getElem (show j < rows.length by omega))
      rw [List.getElem?_eq_getElem h2] at h3
      rw [List.getElem_map, Option.some.inj h3]
      rfl
  refine ⟨inner.map deS, ⟨Kd.R_of_own (by rw [henc, List.length_map, hil]; exact hown) (fun _ _ => trivial), by rw [List.length_map, hil], fun j s l h1 h2 => ?_⟩, fun i i' s s' k hi hi' h1 h2 h3 h4 => ?_⟩
  · obtain ⟨l', h3, h4⟩ := hget j s h1
    rw [h2] at h3
    cases h3
    exact Kd.R_mono h4 (fun _ _ => trivial)
  · obtain ⟨_, _, h5⟩ := hget i s h1
    obtain ⟨_, _, h6⟩ := hget i' s' h2
    exact ((h5.1 k h3).2).symm.trans (h6.1 k h4).2
theorem RowsOf.mark {w0 W w' : World} {g n cap : Nat} {ss : List (Option Addr × Nat × Nat)} {rows : List (List Int)} (h : RowsOf W w0.heap.size g n cap ss rows) (ha : ApartTo ss n) (i : Nat) (s : Option Addr × Nat × Nat) (hs : ss[i]? = some s) (l2 : List Int) (hk : Kept W w' (fun k => some k = (encS s).ownBlock)) (hR : Kd.R (Kd.int .i64) 3 w' w0.heap.size (fun _ => True) (encS s) l2) : RowsOf w' w0.heap.size g n cap ss (rows.set i l2) := by
  have hi := (List.getElem?_eq_some_iff.1 hs).1
  obtain ⟨hn1, hn2⟩ := h.len
  have hRi := h.2.2 i s _ hs (List.getElem?_eq_getElem (show i < rows.length by omega))
  refine ⟨Kd.R_mono (Kd.R_step (Kd.R_bound h.1) (fun k ho hlt => hk.2 k hlt (fun e => ?_))) (fun _ _ => trivial), by rw [List.length_set]; exact h.2.1, fun j s' l h1 h2 => ?_⟩
  · obtain ⟨_, _, _, q, hq, cells, hc⟩ := ho
    obtain rfl : q = 30 := (List.mem_cons.1 hq).elim id (fun h_ => (List.not_mem_nil (show q ∈ ([] : List Nat) from h_)).elim)
    obtain ⟨c2, hc2⟩ := Kd.R_typed hRi k e.symm
    rw [hc] at hc2
    simp at hc2
  · by_cases e : i = j
    · subst e
      rw [hs] at h1
      cases h1
      rw [List.getElem?_set_self (by omega)] at h2
      cases h2
      exact hR
    · rw [List.getElem?_set_ne e] at h2
      refine Kd.R_mono (Kd.R_step (Kd.R_tight rfl (h.2.2 j s' l h1 h2)) (fun k ho hlt => hk.2 k hlt (fun e2 => e ?_))) (fun _ _ => trivial)
      have l1 := (List.getElem?_eq_some_iff.1 h1).1
      exact ha i j s s' k (by omega) (by omega) hs h1 e2.symm ho.symm
theorem RowsOf.read2 {W : World} {B g n cap : Nat} {ss : List (Option Addr × Nat × Nat)} {rows : List (List Int)} (h : RowsOf W B g n cap ss rows) (i : Nat) (hi : i < n) : ∃ A c, ss[i]? = some (A, (rows.getD i []).length, c) ∧ W.cell? ⟨g, i, none⟩ = some (.slice A (rows.getD i []).length c) ∧ Kd.R (Kd.int .i64) 3 W B (fun _ => True) (.slice A (rows.getD i []).length c) (rows.getD i []) := by
  obtain ⟨h1, h2⟩ := h.len
  obtain ⟨ad, hA, hc⟩ := (Kd.reads_of_C (enc := encS) (d := ((none, 0, 0) : Option Addr × Nat × Nat)) (h1 := encS1) (Kd.R_reads' h.1).2.2).2.2 (by omega)
  cases hA
  have hc' := hc i (by omega)
  have hs : ss[i]? = some (ss.getD i (none, 0, 0)) := by rw [List.getD_eq_getElem?_getD, List.getElem?_eq_getElem (by omega)]; rfl
  have hr : rows[i]? = some (rows.getD i []) := by rw [List.getD_eq_getElem?_getD, List.getElem?_eq_getElem (by omega)]; rfl
  have hR := h.2.2 i _ _ hs hr
  rw [add_plain] at hc'
  generalize ss.getD i (none, 0, 0) = s at hs hR hc'
  obtain ⟨A, c, he⟩ := Kd.R_slice hR
  obtain ⟨A', m, c'⟩ := s
  simp only [encS, Value.slice.injEq] at he
  obtain ⟨rfl, rfl, rfl⟩ := he
  exact ⟨_, _, hs, hc', hR⟩
/-- Marks, row by row. -/
def markSS (k : Nat) : List (List Int) → Int → Option (List (List Int) × Int)
  | [], s => some ([], s)
  | l :: ls, s => (laws_markIntS.f k l s).bind fun q => (markSS k ls q.1).bind fun t => some (q.2 :: t.1, t.2)
theorem markSS_len (k : Nat) : ∀ (rows : List (List Int)) (s : Int) (r : List (List Int) × Int), markSS k rows s = some r → r.1.length = rows.length
  | [], s, r, h => by
    simp only [markSS, Option.some.injEq] at h
    rw [← h]
  | l :: ls, s, r, h => by
    rw [markSS] at h
    obtain ⟨q, h1, h⟩ := Option.bind_eq_some_iff.mp h
    obtain ⟨t, h2, h⟩ := Option.bind_eq_some_iff.mp h
    cases h
    have := markSS_len k ls q.1 t h2
    simp [this]
theorem sizeL {w0 w : World} (h : Below w0.heap.size w0 w) : w0.heap.size ≤ w.heap.size := h.size
set_option maxHeartbeats 8000000 in
set_option maxRecDepth 100000 in
theorem markSS_calls (k : Nat) (w0 W : World) (v : Value) (rows rowsF : List (List Int)) (s sF : Int) (hB : Below w0.heap.size w0 W) (hS : Kd.S (Kd.slice 3 (Kd.int .i64)) 30 W w0.heap.size (fun _ => True) v rows) (hl : rows.length ≤ 1000000) (h : markSS k rows s = some (rowsF, sF)) :
    Calls Tryd.prog 7 #[v, .int .i64 s] W fun e w' => e = .returned (.int .i64 sF) ∧ Kd.S (Kd.slice 3 (Kd.int .i64)) 30 w' w0.heap.size (fun _ => True) v rowsF ∧ Below w0.heap.size w0 w' := by
  have hlF := markSS_len k rows s _ h
  dsimp only at hlF
  rcases Nat.eq_zero_or_pos rows.length with h0 | h0
  · have e0 := List.eq_nil_of_length_eq_zero h0
    subst e0
    simp only [markSS, Option.some.injEq, Prod.mk.injEq] at h
    obtain ⟨rfl, rfl⟩ := h
    obtain ⟨A, c, rfl⟩ := Kd.S_slice hS
    have HB := Aside0.mk hB
    have HS := Aside0.mk hS
    clear hB hS hlF h0
    go_enter Tryd.func7, Tryd.ntmps7
    go_wp2
    go_loopg [1, 5] 0 (fun gg v1 v5 wr => v1 = .int .i64 s ∧ v5 = .int .i64 0 ∧ wr = W)
    case atStart => exact ⟨rfl, rfl, rfl⟩
    case round =>
      obtain ⟨rfl, rfl, rfl⟩ := hrel
      go_wp2
      refine bodyPost_ret (results_tmp rfl _ _ _) rfl ?_
      exact ⟨rfl, HS.out, HB.out⟩
  · obtain ⟨g, cap, rfl, _, _, _⟩ := Kd.S_form hS h0
    obtain ⟨ss, hR, hA⟩ := toRows hS
    have HB := Aside0.mk hB
    have HR := Aside0.mk hR
    have HAP := Aside0.mk hA
    have HF := Aside0.mk h
    have HLF := Aside0.mk hlF
    clear hB hS hR hA h h0 hlF
    go_enter Tryd.func7, Tryd.ntmps7
    go_wp2
    go_loopg [1, 5] rows.length (fun gg v1 v5 wr => ∃ (i : Nat) (x : Int), v1 = .int .i64 x ∧ v5 = .int .i64 i ∧ i ≤ rows.length ∧ rows.length - i ≤ gg ∧ Aside0 (markSS k (rows.drop i) x = some (rowsF.drop i, sF)) ∧ Aside0 (RowsOf wr w0.heap.size g rows.length cap ss (rowsF.take i ++ rows.drop i)) ∧ Aside0 (Below w0.heap.size w0 wr))
    case atStart => exact ⟨0, s, rfl, rfl, Nat.zero_le _, by omega, HF, HR, HB⟩
    case round =>
      obtain ⟨i, x, rfl, rfl, hi, hg, HM, HRr, HBr⟩ := hrel
      clear HB HR
      by_cases hlt : i < rows.length
      · have hltz : (i : Int) < (rows.length : Int) := by omega
        obtain ⟨A, c, hs, hcell, hRi⟩ := HRr.out.read2 i hlt
        obtain ⟨row, hrow⟩ : ∃ row, row = rows.getD i [] := ⟨_, rfl⟩
        have hlF := HLF.out
        have hgd : (rowsF.take i ++ rows.drop i).getD i [] = row := by
          rw [hrow, List.getD_eq_getElem?_getD, List.getElem?_append_right (by rw [List.length_take]; omega), List.length_take, List.getElem?_drop, List.getD_eq_getElem?_getD]
          congr 2
          omega
        rw [hgd] at hs hcell hRi
        have hd : rows.drop i = row :: rows.drop (i + 1) := by
          rw [List.drop_eq_getElem_cons hlt, hrow, List.getD_eq_getElem?_getD, List.getElem?_eq_getElem hlt]
          rfl
        have hM := HM.out
        rw [hd, markSS] at hM
        obtain ⟨⟨x2, row2⟩, hq, hM⟩ := Option.bind_eq_some_iff.mp hM
        obtain ⟨⟨t1, t2⟩, ht, hM⟩ := Option.bind_eq_some_iff.mp hM
        simp only [Option.some.injEq, Prod.mk.injEq] at hM
        obtain ⟨hM1, hM2⟩ := hM
        subst hM2
        have hdF : rowsF.drop (i + 1) = t1 := by
          have := congrArg List.tail hM1
          rw [List.tail_cons, List.tail_drop] at this
          exact this.symm
        have hset : (rowsF.take i ++ rows.drop i).set i row2 = rowsF.take (i + 1) ++ rows.drop (i + 1) := by
          have ht2 : rowsF.take (i + 1) = rowsF.take i ++ [row2] := by
            rw [List.take_succ_eq_append_getElem (by omega)]
            congr 2
            have h_ := congrArg List.head? hM1
            rw [List.head?_drop, List.head?_cons, List.getElem?_eq_getElem (by omega)] at h_
            exact (Option.some.inj h_).symm
          rw [List.set_append_right _ _ (by rw [List.length_take]; omega), List.length_take, Nat.min_eq_left (by omega), Nat.sub_self, hd, List.set_cons_zero, ht2, List.append_assoc]
          rfl
        have HST := Aside0.mk hset
        have HQ := Aside0.mk hq
        have HT := Aside0.mk (show markSS k (rows.drop (i + 1)) x2 = some (rowsF.drop (i + 1), t2) from by rw [hdF]; exact ht)
        have HS := Aside0.mk hs
        have HRI := Aside0.mk (Kd.R_tight rfl hRi)
        clear hset hq ht hM1 hs hRi hrow hgd hd hdF hlF
        go_wp2_with (go_at_call 18; refine (laws_markIntS.calls k (fun kk => some kk = (Value.slice A row.length c).ownBlock) (.slice A row.length c) row x x2 row2 w0 wr HBr.out HRI.out HQ.out).mono ?_; rintro e w5 ⟨rfl, hR5, hB5, hK5⟩; have HB5 := Aside0.mk hB5; have HR5 := Aside0.mk (HRr.out.mark HAP.out i (A, row.length, c) HS.out row2 hK5 (Kd.R_mono hR5 (fun _ _ => trivial))); clear hR5 hB5 hK5)
        go_roundg (rows.length - (i + 1))
        case measure => omega
        case rel => exact ⟨i + 1, x2, rfl, by go_num, by omega, by omega, HT, ⟨by rw [← HST.out]; exact HR5.out⟩, HB5⟩
      · obtain rfl : i = rows.length := by omega
        have hM := HM.out
        rw [List.drop_length, markSS, List.drop_of_length_le (by have := HLF.out; omega)] at hM
        have hx : x = sF := by simpa using hM
        have hR3 := HRr.out
        rw [List.drop_length, List.append_nil, List.take_of_length_le (by have := HLF.out; omega)] at hR3
        have HR3 := Aside0.mk hR3
        subst hx
        clear hM hR3
        go_wp2
        refine bodyPost_ret (results_tmp rfl _ _ _) rfl ?_
        exact ⟨rfl, HR3.out.toS HAP.out, HBr.out⟩
def laws_FnExactPlanOfGroup.f (k : Nat) (a0 : ByteArray) (a1 : Int) (a2 : Int) : Option Bool := if (a0.size : Int) > 1048576 then some true else
  (spec_PlanOfGroup.f k a0 a1 a2).bind fun W0 => (impl_PlanOfGroup.f k a0 a1 a2).bind fun G => (laws_eqIntSS.f k G.1 W0.1).bind fun q1 => if q1 = true ∧ G.2 = W0.2 ∧ G.1.length ≤ 1000000 then ((markSS k G.1 1).bind fun m => (laws_heldIntSS.f k m.1 1).bind fun q => if 0 ≤ q ∧ q = m.2 then some true else none) else none
set_option maxHeartbeats 8000000 in
set_option maxRecDepth 100000 in
theorem laws_FnExactPlanOfGroup.calls (k : Nat) (a0 : ByteArray) (a1 : Int) (a2 : Int) (r : Bool) (hr_ : Aside0 (r = true)) (w : World) (h : laws_FnExactPlanOfGroup.f k a0 a1 a2 = some r) :
    Calls Tryd.prog 3 #[.string a0, .int .i64 a1, .int .i64 a2] w fun e w' => e = .returned (.bool r) ∧ Below w.heap.size w w' := by
  obtain rfl := hr_.out
  unfold laws_FnExactPlanOfGroup.f at h
  by_cases c0 : (a0.size : Int) > 1048576
  · clear h
    have c0' : (1048576 : Int) < (a0.size : Int) := c0
    go_enter Tryd.func3, Tryd.ntmps3
    go_wp2
    refine bodyPost_ret (results_tmp rfl _ _ _) rfl ?_
    exact ⟨rfl, Below.refl _ _⟩
  · rw [if_neg c0] at h
    obtain ⟨⟨rw0, bw⟩, hSP, h⟩ := Option.bind_eq_some_iff.mp h
    obtain ⟨⟨rg, bg⟩, hIM, h⟩ := Option.bind_eq_some_iff.mp h
    obtain ⟨q1, hEQ, h⟩ := Option.bind_eq_some_iff.mp h
    by_cases c1 : q1 = true ∧ bg = bw ∧ rg.length ≤ 1000000
    · rw [if_pos c1] at h
      have hlen : rg.length ≤ 1000000 := c1.2.2
      have e1 : q1 = true := c1.1
      have e2 : bg = bw := c1.2.1
      clear c1
      rw [e1] at hEQ
      rw [← e2] at hSP
      clear e1 e2
      obtain ⟨⟨rm, mF⟩, hMK, h⟩ := Option.bind_eq_some_iff.mp h
      obtain ⟨q, hHE, h⟩ := Option.bind_eq_some_iff.mp h
      by_cases c2 : 0 ≤ q ∧ q = mF
      · have hq0 : 0 ≤ q := c2.1
        have e3 : q = mF := c2.2
        clear c2
        rw [← e3] at hMK
        clear e3
        have hq0' : ¬ q < 0 := by omega
        have c0' : ¬ (1048576 : Int) < (a0.size : Int) := c0
        have hbb : (bg != bg) = false := by simp
        have hlm := markSS_len k rg 1 _ hMK
        dsimp only at hlm
        have HSP := Aside0.mk hSP
        have HIM := Aside0.mk hIM
        have HEQ := Aside0.mk hEQ
        have HMK := Aside0.mk hMK
        have HHE := Aside0.mk hHE
        have HLM := Aside0.mk hlm
        clear hSP hIM hEQ hMK hHE h hlm c0
        go_enter Tryd.func3, Tryd.ntmps3
        go_wp2_with (first
          | (go_at_call 4; (with_reducible refine (spec_PlanOfGroup.calls k a0 a1 a2 rw0 bg _ HSP.out).mono ?_); rintro e w1 ⟨v0, rfl, hs_, hb_⟩; obtain ⟨A0, c0, rfl⟩ := Kd.S_slice hs_; have HW1 := Aside0.mk hs_; have HB1 := Aside0.mk hb_; clear hs_ hb_)
          | (go_at_call 5; (with_reducible refine (impl_PlanOfGroup.calls k a0 a1 a2 rg bg w1 HIM.out).mono ?_); rintro e w2 ⟨v1, rfl, hs_, hb_⟩; obtain ⟨A1, c1, rfl⟩ := Kd.S_slice hs_; have HG2 := Aside0.mk hs_; have HB2 := Aside0.mk hb_; have HW2 := Aside0.mk (Kd.S_below HW1.out hb_); clear hs_ hb_)
          | (go_at_call 6; (with_reducible refine (laws_eqIntSS.calls k A1 c1 rg A0 c0 rw0 true w2 (Kd.S_reads' HG2.out).2.2 (Kd.S_reads' HG2.out).2.1 (Kd.S_reads' HW2.out).2.2 (Kd.S_reads' HW2.out).2.1 HEQ.out).mono ?_); rintro e w3 ⟨rfl, hd_⟩; have HB3 := Aside0.mk (belowP HB2.out hd_.below); have HG3 := Aside0.mk (Kd.S_below HG2.out hd_.below); clear hd_)
          | (go_at_call 7; (with_reducible refine (markSS_calls k w1 w3 _ rg rm 1 q HB3.out HG3.out hlen HMK.out).mono ?_); rintro e w4 ⟨rfl, hs_, hb_⟩; have HB4 := Aside0.mk hb_; have HG4 := Aside0.mk hs_; clear hs_ hb_)
          | (go_at_call 8; refine calls_of_args (args' := #[.slice A1 rm.length c1, .int .i64 1]) (by rw [HLM.out]) ?_; (with_reducible refine (laws_heldIntSS.calls k A1 c1 rm 1 q w4 (Kd.S_reads' HG4.out).2.2 (by have h_ := (Kd.S_reads' HG4.out).2.1; have h2_ := HLM.out; omega) HHE.out).mono ?_); rintro e w5 ⟨rfl, hd_⟩; have HB5 := Aside0.mk (belowP HB4.out hd_.below); have HG5 := Aside0.mk (Kd.S_below HG4.out hd_.below); have HW5 := Aside0.mk (Kd.S_below HW1.out (belowP HB4.out hd_.below)); clear hd_)
          | (go_at_call 5; (with_reducible refine (impl_PlanOfGroup.calls k a0 a1 a2 rg bg w5 HIM.out).mono ?_); rintro e w6 ⟨v6, rfl, hs_, hb_⟩; obtain ⟨A6, c6, rfl⟩ := Kd.S_slice hs_; have HH6 := Aside0.mk hs_; have HB6 := Aside0.mk (belowP HB5.out hb_); have HW6 := Aside0.mk (Kd.S_below HW5.out hb_); have HG6 := Aside0.mk (Kd.S_below HG5.out hb_); clear hs_ hb_)
          | (go_at_call 6; (with_reducible refine (laws_eqIntSS.calls k A6 c6 rg A0 c0 rw0 true w6 (Kd.S_reads' HH6.out).2.2 (Kd.S_reads' HH6.out).2.1 (Kd.S_reads' HW6.out).2.2 (Kd.S_reads' HW6.out).2.1 HEQ.out).mono ?_); rintro e w7 ⟨rfl, hd_⟩; have HB7 := Aside0.mk (belowP HB6.out hd_.below); have HG7 := Aside0.mk (Kd.S_below HG6.out hd_.below); clear hd_)
          | (go_at_call 8; refine calls_of_args (args' := #[.slice A1 rm.length c1, .int .i64 1]) (by rw [HLM.out]) ?_; (with_reducible refine (laws_heldIntSS.calls k A1 c1 rm 1 q w7 (Kd.S_reads' HG7.out).2.2 (by have h_ := (Kd.S_reads' HG7.out).2.1; have h2_ := HLM.out; omega) HHE.out).mono ?_); rintro e w8 ⟨rfl, hd_⟩; have HB8 := Aside0.mk (belowP HB7.out hd_.below); clear hd_))
        refine bodyPost_ret (results_tmp rfl _ _ _) rfl ?_
        exact ⟨rfl, belowP HB1.out HB8.out⟩
      · rw [if_neg c2] at h
        cases h
    · rw [if_neg c1] at h
      cases h
theorem laws_FnExactPlanOfGroup.walk : True := trivial

end Go.Proofs.YtpenadhifdpfhaaDoor.K
