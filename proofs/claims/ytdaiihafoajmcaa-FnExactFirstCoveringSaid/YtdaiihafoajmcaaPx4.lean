/- Go functions of this seat as plain functions, each with the proof that its call comes to what that function says: written by this session's program (wip/drive.py) out of the translation, by the kit's printer and by texts of our own; no conditions. -/
import Derived.Test.YtdaiihafoajmcaaPx0
import Derived.Test.YtdaiihafoajmcaaPx3
import Derived.Shelf.Abstract
namespace Go.Proofs.Ytdaiihafoajmcaa.P
open Go.RowKit Go.Proofs.YtdaiihafoajmcaaW.PrintWords Go.Proofs.YtdaiihafoajmcaaW.PrintLast Go.Proofs.YtdaiihafoajmcaaW.PrintMore
attribute [local go_sem] max2_int min2_int max_two min_two max_three min_three max_four min_four   -- for this text's walks alone
set_option linter.unusedVariables false
set_option linter.unusedSimpArgs false

/-! ### spec_plAll: function 14 -/
/-- The coverings that go on from a plan by the planks from one on. -/
def covsAt (rec_ : List Int → List (List Int)) (need : Int) (plan : List Int) : Nat → List Int → List (List Int)
  | _, [] => []
  | i, p :: ps => (if need ≤ p ∧ ¬ (i : Int) ∈ plan then rec_ (plan ++ [(i : Int)]) else []) ++ covsAt rec_ need plan (i + 1) ps
/-- The coverings that go on from a plan, d gaps on. -/
def covs (gaps planks : List Int) (rest : Int) : Nat → List Int → List (List Int)
  | 0, plan => [plan]
  | d + 1, plan => covsAt (covs gaps planks rest d) (wrap64 (rd gaps (plan.length : Int) + wrap64 (2 * rest))) plan 0 planks
theorem has_in (l : List Int) (a : Int) (hl : l.length ≤ 9223372036854775806) : ∀ (n k i : Nat), n = l.length - i → i ≤ l.length → n < k → spec_l1Has.l0 k a l (l.length : Int) (i : Int) = some (decide (a ∈ l.drop i)) := by
  intro n
  induction n with
  | zero =>
    intro k i hn hi hk
    obtain ⟨k, rfl⟩ : ∃ k', k = k' + 1 := ⟨k - 1, by omega⟩
    simp only [spec_l1Has.l0]
    rw [if_neg (by omega), List.drop_of_length_le (by omega)]
    simp
  | succ n ih =>
    intro k i hn hi hk
    obtain ⟨k, rfl⟩ : ∃ k', k = k' + 1 := ⟨k - 1, by omega⟩
    have hd : l.drop i = rd l (i : Int) :: l.drop (i + 1) := by
      rw [List.drop_eq_getElem_cons (by omega)]
      congr 1
      simp [rd, List.getD_eq_getElem?_getD, List.getElem?_eq_getElem (show i < l.length by omega)]
    simp only [spec_l1Has.l0]
    rw [if_pos (by omega), if_pos (by omega), if_pos (by omega), hd]
    by_cases c : rd l (i : Int) = a
    · rw [if_pos c]
      simp [c]
    · rw [if_neg c, show wrap64 ((i : Int) + 1) = ((i + 1 : Nat) : Int) from by unfold wrap64; omega, ih k (i + 1) (by omega) (by omega) (by omega)]
      have c' : ¬ a = rd l (i : Int) := fun e => c e.symm
      simp [c']
theorem has_eq (l : List Int) (a : Int) (hl : l.length ≤ 9223372036854775806) (k : Nat) (hk : l.length < k) : spec_l1Has.f k l a = some (decide (a ∈ l)) := has_in l a hl l.length k 0 (by omega) (by omega) hk
/-- All blocks but two stay as they are. -/
structure KeptL (p : Nat) (u : Option Nat) (W w' : World) : Prop where
  os : w'.os = W.os
  tape : w'.tape = W.tape
  output : w'.output = W.output
  size : W.heap.size ≤ w'.heap.size
  block : ∀ i, i < W.heap.size → i ≠ p → some i ≠ u → w'.heap[i]? = W.heap[i]?
theorem KeptL.refl (p : Nat) (u : Option Nat) (W : World) : KeptL p u W W := ⟨rfl, rfl, rfl, Nat.le_refl _, fun _ _ _ _ => rfl⟩
theorem KeptL.step {p : Nat} {u : Option Nat} {W w1 w2 : World} (h : KeptL p u W w1) (hb : Below w1.heap.size w1 w2) : KeptL p u W w2 :=
  ⟨hb.os.trans h.os, hb.tape.trans h.tape, hb.output.trans h.output, Nat.le_trans h.size hb.size, fun i hi h1 h2 => (hb.block i (Nat.lt_of_lt_of_le hi h.size)).trans (h.block i hi h1 h2)⟩
theorem KeptL.trans {p : Nat} {u u' : Option Nat} {W w1 w2 : World} (h : KeptL p u W w1) (k : KeptL p u' w1 w2) (hu : u' = u ∨ ∃ b, u' = some b ∧ W.heap.size ≤ b) : KeptL p u W w2 :=
  ⟨k.os.trans h.os, k.tape.trans h.tape, k.output.trans h.output, Nat.le_trans h.size k.size, fun i hi h1 h2 => (k.block i (Nat.lt_of_lt_of_le hi h.size) h1 (by
    rcases hu with rfl | ⟨b, rfl, hb⟩
    · exact h2
    · intro e
      cases e
      omega)).trans (h.block i hi h1 h2)⟩
theorem KeptL.below {p B : Nat} {u : Option Nat} {w0 W w' : World} (h : KeptL p u W w') (hb : Below B w0 W) (hp : B ≤ p) (hu : ∀ k, u = some k → B ≤ k) (hB : B ≤ W.heap.size) : Below B w0 w' :=
  ⟨h.os.trans hb.os, h.tape.trans hb.tape, h.output.trans hb.output, Nat.le_trans hb.size h.size, fun i hi => (h.block i (by omega) (by omega) (fun e => by have := hu i e.symm; omega)).trans (hb.block i hi)⟩
theorem KeptL.row {p N : Nat} {u : Option Nat} {W w' : World} {v : Value} {xs : List Int} (h : KeptL p u W w') (hu : ∀ k, u = some k → ∃ cells, W.heap[k]? = some (.cells cells 22 (0, 0))) {c : Array Value} (hp : W.heap[p]? = some (.cells c 31 (0, 0))) (hr : Kd.R (Kd.int .i64) 3 W N (fun _ => True) v xs) : Kd.R (Kd.int .i64) 3 w' N (fun _ => True) v xs := by
  refine Kd.R_mono (Kd.R_step (Kd.R_bound hr) (fun k ho hk => ?_)) (fun _ _ => trivial)
  obtain ⟨_, _, _, q, hq, cells, hc⟩ := ho
  obtain rfl : q = 3 := (List.mem_cons.1 hq).elim id (fun h_ => (List.not_mem_nil (show q ∈ ([] : List Nat) from h_)).elim)
  refine h.block k hk ?_ ?_
  · rintro rfl
    rw [hp] at hc
    simp at hc
  · intro e
    obtain ⟨cells', hc'⟩ := hu k e.symm
    rw [hc'] at hc
    simp at hc
theorem look_C {e : Nat} {w : World} {base : Nat} {ok : Nat → Prop} {A : Option Addr} {n c : Nat} {xs : List Int} (h : Kd.R (Kd.int .i64) e w base ok (.slice A n c) xs) : Kd.C (Kd.int .i64) w A xs.length xs := by
  obtain ⟨A', c', e, _, hC⟩ := Kd.R_reads h
  cases e
  exact hC
theorem look_CB {w0 W : World} {A : Option Addr} {n : Nat} {xs : List Int} (h : Kd.C (Kd.int .i64) w0 A n xs) (hb : Below w0.heap.size w0 W) : Kd.C (Kd.int .i64) W A n xs := Kd.C_below h hb
theorem look_size {w0 W : World} (h : Below w0.heap.size w0 W) : w0.heap.size ≤ W.heap.size := h.size
/-- What a call of the search leaves. -/
def LookEnd (B bo : Nat) (ov : Value) (outs : List (List Int)) (W w' : World) : Prop :=
  KeptL bo ov.ownBlock W w' ∧ ∃ ov', w'.heap[bo]? = some (.cells #[ov'] 31 (0, 0)) ∧ Kd.S (Kd.slice 3 (Kd.int .i64)) 22 w' B (fun k => k ≠ bo) ov' outs ∧ (ov'.ownBlock = ov.ownBlock ∨ ∃ b, ov'.ownBlock = some b ∧ W.heap.size ≤ b)
set_option maxHeartbeats 8000000 in
set_option maxRecDepth 100000 in
theorem look_calls (w0 : World) (gaps planks : List Int) (rest : Int) (Ag Ap : Option Addr) (cg cp : Nat) (hCg : Kd.C (Kd.int .i64) w0 Ag gaps.length gaps) (hcg : gaps.length ≤ cg) (hCp : Kd.C (Kd.int .i64) w0 Ap planks.length planks) (hcp : planks.length ≤ cp) (hgl : gaps.length ≤ 100) (hpl : planks.length ≤ 100) (bo : Nat) (hbo : w0.heap.size ≤ bo) :
    ∀ (d : Nat) (plan : List Int) (outs : List (List Int)) (v ov : Value) (W : World) (N : Nat), Below w0.heap.size w0 W → bo < N → w0.heap.size ≤ N → W.heap[bo]? = some (.cells #[ov] 31 (0, 0)) → Kd.S (Kd.slice 3 (Kd.int .i64)) 22 W w0.heap.size (fun k => k ≠ bo ∧ k < N) ov outs → Kd.R (Kd.int .i64) 3 W N (fun _ => True) v plan → gaps.length = plan.length + d → outs.length + (covs gaps planks rest d plan).length ≤ 1000000 →
      Calls Try.prog 21 #[.slice Ag gaps.length cg, .slice Ap planks.length cp, .int .i64 rest, v, .pointer (some ⟨bo, 0, none⟩)] W fun e w' => e = .returned (.tuple #[]) ∧ LookEnd w0.heap.size bo ov (outs ++ covs gaps planks rest d plan) W w' := by
  have HCg := Aside0.mk hCg
  have HCp := Aside0.mk hCp
  clear hCg hCp
  intro d
  induction d with
  | zero =>
    intro plan outs v ov W N hB hN hN0 hb hs hv hd hc
    obtain ⟨Av, cv, rfl, hvl, hvC⟩ := Kd.R_reads hv
    obtain ⟨Ao, co, rfl⟩ := Kd.S_slice hs
    have heq : ((plan.length : Int) == (gaps.length : Int)) = true := by simp only [beq_iff_eq]; omega
    have hcb : W.cell? ⟨bo, 0, none⟩ = some (.slice Ao outs.length co) := (blk_cell hb 0).trans rfl
    have HV := Aside0.mk hv
    have HS := Aside0.mk hs
    have HBO := Aside0.mk hb
    have HB := Aside0.mk hB
    have hlen : outs.length + 1 ≤ 1000000 := by simpa [covs] using hc
    have hne : some bo ≠ (Value.slice Ao outs.length co).ownBlock := Kd.S_away hs (fun k hk => hk.1)
    have hblt : bo < W.heap.size := blk_lt hb
    clear hv hvC hB hd hs hb hc
    go_enter Try.func21, Try.ntmps21
    go_wp2_with ((with_reducible refine gate_builtin (b := .append) (xs := #[.tmp 20, .tmp 22]) rfl ?_); at_builtin; go_loud (refine Kd.S_append (Kd.slice 3 (Kd.int .i64)) (w0 := w0) w0.heap.size rfl (.tmp 20) (.tmp 22) 31 22 (.slice none 0 0) 24 rfl Try.underlying31 info22 rfl (by decide) (by omega) (.slice Ao outs.length co) outs plan [.slice Av plan.length cv] (fun k => k ≠ bo) (fun k => N ≤ k) rfl rfl ?aP (fun k hk => ⟨by omega, Kd.S_away HS.out (fun k' hk' => by omega)⟩) (fun k hk => by omega) ?aO HB.out (look_size HB.out) (by omega) ?_; (case aP => exact Kd.M_row (Kd.R_lower (Kd.R_mono (Kd.R_bound HV.out) (fun k hk => hk.2.1)) hN0)); (case aO => exact Kd.S_mono HS.out (fun k hk => ⟨hk.1, by omega⟩)); intro v1 w1 hs1 hb1 hg1 hat1; obtain ⟨A1, cc1, rfl⟩ := Kd.S_slice hs1; rw [show (outs ++ [plan]).length = outs.length + 1 from by simp] at hs1 hat1; have HS1 := Aside0.mk hs1; have HG1 := Aside0.mk hg1; have HA1 := Aside0.mk hat1; have HBK := Aside0.mk (blk_grown HBO.out hg1 hne); have hcb1 : w1.cell? ⟨bo, 0, none⟩ = some (.slice Ao outs.length co) := (blk_cell HBK.out 0).trans rfl; have hfz1 : w1.frozen? ⟨bo, 0, none⟩ = false := blk_frozen HBK.out 0; clear hs1 hb1 hg1 hat1))
    refine bodyPost_ret (results_none rfl _ _ _) rfl ?_
    refine ⟨rfl, ⟨HG1.out.os, HG1.out.tape, HG1.out.output, by have := HG1.out.size; simpa [World.setCell] using this, fun i hi h1 h2 => (Below.heap_setCell w1 ⟨bo, 0, none⟩ _ i h1).trans (HG1.out.block i hi h2)⟩, _, blk_put HBK.out 0 _ rfl, ?_, HA1.out⟩
    rw [covs]
    exact Kd.S_far HS1.out (p := ⟨bo, 0, none⟩) (fun k hk => hk) _
  | succ d IH =>
    intro plan outs v ov W N hB hN hN0 hb hs hv hd hc
    obtain ⟨Av, cv, rfl, hvl, hvC⟩ := Kd.R_reads hv
    have hne : ((plan.length : Int) == (gaps.length : Int)) = false := by simp only [beq_eq_false_iff_ne]; omega
    have HBO := Aside0.mk hb
    have HS0 := Aside0.mk hs
    have HTY := Aside0.mk (Kd.S_typed hs)
    have HBS := Aside0.mk (Kd.S_base hs)
    have HV := Aside0.mk hv
    have HB := Aside0.mk hB
    have HD := Aside0.mk hd
    have HC := Aside0.mk hc
    have hplen : plan.length < gaps.length := by omega
    clear hv hvC hB hd hs hb hc
    go_enter Try.func21, Try.ntmps21
    go_wp2
    go_loopg [27] planks.length (fun gg v27 wr => ∃ (i : Nat) (outs' : List (List Int)) (ovr : Value), v27 = .int .i64 i ∧ i ≤ planks.length ∧ planks.length - i ≤ gg ∧ Aside0 (outs' ++ covsAt (covs gaps planks rest d) (wrap64 (rd gaps (plan.length : Int) + wrap64 (2 * rest))) plan i (planks.drop i) = outs ++ covs gaps planks rest (d + 1) plan) ∧ Aside0 (KeptL bo ov.ownBlock W wr) ∧ Aside0 (wr.heap[bo]? = some (.cells #[ovr] 31 (0, 0))) ∧ Aside0 (Kd.S (Kd.slice 3 (Kd.int .i64)) 22 wr w0.heap.size (fun k => k ≠ bo) ovr outs') ∧ Aside0 (ovr.ownBlock = ov.ownBlock ∨ ∃ b, ovr.ownBlock = some b ∧ W.heap.size ≤ b))
    case atStart => exact ⟨0, outs, ov, rfl, Nat.zero_le _, by omega, ⟨rfl⟩, ⟨KeptL.refl _ _ _⟩, HBO, ⟨Kd.S_mono HS0.out (fun k hk => hk.1)⟩, ⟨Or.inl rfl⟩⟩
    case round =>
      obtain ⟨i, outs', ovr, rfl, hi, hg, HF, HK, HBr, HSr, HAr⟩ := hrel
      by_cases hlt : i < planks.length
      · have hltz : (i : Int) < (planks.length : Int) := by omega
        have HBw := Aside0.mk (HK.out.below HB.out hbo HBS.out (look_size HB.out))
        have HVr := Aside0.mk (HK.out.row HTY.out HBO.out HV.out)
        have HVC := Aside0.mk (look_C HVr.out)
        obtain ⟨adp, hAp, hxp⟩ := Kd.at_int (look_CB HCp.out HBw.out) (i : Int) (by omega) (by omega)
        obtain ⟨adg, hAg, hxg⟩ := Kd.at_int (look_CB HCg.out HBw.out) (plan.length : Int) (by omega) (by omega)
        subst hAp
        subst hAg
        rw [Int.toNat_natCast] at hxp hxg
        obtain ⟨p, hpq⟩ : ∃ p, p = rd planks (i : Int) := ⟨_, rfl⟩
        obtain ⟨gq, hgq⟩ : ∃ gq, gq = rd gaps (plan.length : Int) := ⟨_, rfl⟩
        rw [← hpq] at hxp
        rw [← hgq] at hxg
        have hdr : planks.drop i = p :: planks.drop (i + 1) := by
          rw [hpq, List.drop_eq_getElem_cons hlt]
          congr 1
          simp [rd, List.getD_eq_getElem?_getD, List.getElem?_eq_getElem hlt]
        have hF := HF.out
        rw [hdr, covsAt] at hF
        have HFF := Aside0.mk hF
        have HGQ := Aside0.mk hgq
        have hplz : (plan.length : Int) < (gaps.length : Int) := by omega
        have hHT := has_eq plan (i : Int) (by omega) 1000 (by omega)
        clear hpq hdr hF HF
        have hwg : wrap64 (rd gaps (plan.length : Int) + wrap64 (2 * rest)) = wrap64 (gq + wrap64 (2 * rest)) := by rw [hgq]
        clear hgq
        by_cases c1 : wrap64 (gq + wrap64 (2 * rest)) ≤ p
        · have HSP := Aside0.mk (show spec_plSpans.f gq p rest = some true from by unfold spec_plSpans.f; simp [c1])
          by_cases c2 : (i : Int) ∈ plan
          · have HHT := Aside0.mk (show spec_l1Has.f 1000 plan (i : Int) = some true from by rw [hHT, decide_eq_true c2])
            have hn : outs' ++ covsAt (covs gaps planks rest d) (wrap64 (rd gaps (plan.length : Int) + wrap64 (2 * rest))) plan (i + 1) (planks.drop (i + 1)) = outs ++ covs gaps planks rest (d + 1) plan := by
              have h_ := HFF.out
              rwa [if_neg (fun h => h.2 c2), List.nil_append] at h_
            have HN := Aside0.mk hn
            clear hHT hn HFF hwg
            go_wp2_with (first | (go_at_call 28; refine (spec_plSpans.calls gq p rest true _ HSP.out).mono ?_; rintro e w3 ⟨rfl, hq_⟩; have HB3 := Aside0.mk hq_.below; clear hq_) | (go_at_call 29; refine (spec_l1Has.calls 1000 Av cv plan (i : Int) true _ (Kd.C_below HVC.out HB3.out) hvl HHT.out).mono ?_; rintro e w4 ⟨rfl, hq_⟩; have HB4 := Aside0.mk (below_step HB3.out hq_.below); clear hq_))
            go_roundg (planks.length - (i + 1))
            case measure => omega
            case rel => exact ⟨i + 1, outs', ovr, by go_num, by omega, by omega, HN, ⟨HK.out.step HB4.out⟩, ⟨blk_below HBr.out HB4.out⟩, ⟨Kd.S_below HSr.out HB4.out⟩, HAr⟩
          · have HHT := Aside0.mk (show spec_l1Has.f 1000 plan (i : Int) = some false from by rw [hHT, decide_eq_false c2])
            have hn : (outs' ++ covs gaps planks rest d (plan ++ [(i : Int)])) ++ covsAt (covs gaps planks rest d) (wrap64 (rd gaps (plan.length : Int) + wrap64 (2 * rest))) plan (i + 1) (planks.drop (i + 1)) = outs ++ covs gaps planks rest (d + 1) plan := by
              have h_ := HFF.out
              rwa [if_pos ⟨by rw [hwg]; exact c1, c2⟩, ← List.append_assoc] at h_
            have HN := Aside0.mk hn
            have HLN := Aside0.mk (show outs'.length + (covs gaps planks rest d (plan ++ [(i : Int)])).length ≤ 1000000 from by
              have h1 := congrArg List.length hn
              have h2 := HC.out
              simp only [List.length_append] at h1
              omega)
            have HOW := Aside0.mk (show spec_l1Own.f plan = some plan from by unfold spec_l1Own.f; simp; omega)
            clear hHT hn HFF hwg
            go_wp2_with (first | (go_at_call 28; refine (spec_plSpans.calls gq p rest true _ HSP.out).mono ?_; rintro e w3 ⟨rfl, hq_⟩; have HB3 := Aside0.mk hq_.below; clear hq_) | (go_at_call 29; refine (spec_l1Has.calls 1000 Av cv plan (i : Int) false _ (Kd.C_below HVC.out HB3.out) hvl HHT.out).mono ?_; rintro e w4 ⟨rfl, hq_⟩; have HB4 := Aside0.mk (below_step HB3.out hq_.below); clear hq_) | (go_at_call 30; refine (spec_l1Own.calls Av cv plan plan _ (Kd.C_below HVC.out HB4.out) hvl HOW.out).mono ?_; rintro e w5 ⟨v1, rfl, ho_, hb_⟩; have HB5 := Aside0.mk (below_step HB4.out hb_); have HO1 := Aside0.mk (Kd.R_lower ho_ (look_size HB4.out)); clear ho_ hb_) | ((with_reducible refine gate_builtin (b := .append) (xs := #[.tmp 50, .tmp 52]) rfl ?_); at_builtin; refine Kd.R_append (Kd.int .i64) (w0 := wr) wr.heap.size rfl (.tmp 50) (.tmp 52) 22 3 (.int .i64 0) 8 rfl Try.underlying22 info3 rfl (by decide) (by omega) v1 plan (i : Int) [.int .i64 (i : Int)] (fun _ => True) (fun _ => False) rfl rfl rfl (fun _ hk => hk.elim) (fun _ _ => trivial) HO1.out HB5.out (look_size HB5.out) (by omega) ?_; intro v2 w6 ho_ hb_ hg_ hat_; have HO2 := Aside0.mk ho_; have HB6 := Aside0.mk hb_; clear ho_ hb_ hg_ hat_) | (go_at_call 21; refine (IH (plan ++ [(i : Int)]) outs' v2 ovr w6 wr.heap.size (below_then HBw.out HBw.out.size HB6.out) (blk_lt HBr.out) (look_size HBw.out) (blk_below HBr.out HB6.out) (Kd.S_mono (Kd.S_below (Kd.S_bound HSr.out) HB6.out) (fun k hk => ⟨hk.1, hk.2.2.1⟩)) HO2.out (by have := HD.out; rw [List.length_append, List.length_singleton]; omega) HLN.out).mono ?_; rintro e w7 ⟨rfl, hK7, ov7, hb7, hs7, ha7⟩; have HK7 := Aside0.mk ((HK.out.step HB6.out).trans hK7 HAr.out); have HB7 := Aside0.mk hb7; have HS7 := Aside0.mk hs7; have HA7 := Aside0.mk ha7; have HZ := Aside0.mk (Nat.le_trans HK.out.size HB6.out.size); clear hK7 hb7 hs7 ha7))
            go_roundg (planks.length - (i + 1))
            case measure => omega
            case rel =>
              refine ⟨i + 1, _, ov7, by go_num, by omega, by omega, HN, HK7, HB7, HS7, ⟨?_⟩⟩
              rcases HA7.out with h1 | ⟨b, h1, h2⟩
              · rw [h1]
                exact HAr.out
              · exact Or.inr ⟨b, h1, Nat.le_trans HZ.out h2⟩
        · have HSP := Aside0.mk (show spec_plSpans.f gq p rest = some false from by unfold spec_plSpans.f; simp; omega)
          have hn : outs' ++ covsAt (covs gaps planks rest d) (wrap64 (rd gaps (plan.length : Int) + wrap64 (2 * rest))) plan (i + 1) (planks.drop (i + 1)) = outs ++ covs gaps planks rest (d + 1) plan := by
            have h_ := HFF.out
            rwa [if_neg (fun h => c1 (by rw [← hwg]; exact h.1)), List.nil_append] at h_
          have HN := Aside0.mk hn
          clear hHT hn HFF hwg
          go_wp2_with (go_at_call 28; refine (spec_plSpans.calls gq p rest false _ HSP.out).mono ?_; rintro e w3 ⟨rfl, hq_⟩; have HB3 := Aside0.mk hq_.below; clear hq_)
          go_roundg (planks.length - (i + 1))
          case measure => omega
          case rel => exact ⟨i + 1, outs', ovr, by go_num, by omega, by omega, HN, ⟨HK.out.step HB3.out⟩, ⟨blk_below HBr.out HB3.out⟩, ⟨Kd.S_below HSr.out HB3.out⟩, HAr⟩
      · obtain rfl : i = planks.length := by omega
        have hF := HF.out
        rw [List.drop_length, covsAt, List.append_nil] at hF
        go_wp2
        go_end0
        exact ⟨rfl, HK.out, ovr, HBr.out, by rw [← hF]; exact HSr.out, HAr.out⟩
def spec_plAll.f (k : Nat) (l0 l1 : List Int) (a2 : Int) : Option (List (List Int)) := if l0.length ≤ 100 ∧ l1.length ≤ 100 ∧ (covs l0 l1 a2 l0.length []).length ≤ 1000000 then some (covs l0 l1 a2 l0.length []) else none
theorem spec_plAll.mono : ∀ a0 a1 a2 k, LeO (spec_plAll.f k a0 a1 a2) (spec_plAll.f (k + 1) a0 a1 a2) := fun _ _ _ _ => LeO.refl _
set_option maxHeartbeats 8000000 in
set_option maxRecDepth 100000 in
theorem spec_plAll.calls (k : Nat) (A0 : Option Addr) (c0 : Nat) (l0 : List Int) (A1 : Option Addr) (c1 : Nat) (l1 : List Int) (a2 : Int) (r : List (List Int)) (w : World) (hr0 : Kd.C (Kd.int .i64) w A0 l0.length l0) (hc0 : l0.length ≤ c0) (hr1 : Kd.C (Kd.int .i64) w A1 l1.length l1) (hc1 : l1.length ≤ c1) (h : spec_plAll.f k l0 l1 a2 = some r) :
    Calls Try.prog 14 #[.slice A0 l0.length c0, .slice A1 l1.length c1, .int .i64 a2] w fun e w' => ∃ v0_ : Value, e = .returned (v0_) ∧ Kd.S (Kd.slice 3 (Kd.int .i64)) 22 w' w.heap.size (fun _ => True) v0_ r ∧ Below w.heap.size w w' := by
  unfold spec_plAll.f at h
  by_cases hc : l0.length ≤ 100 ∧ l1.length ≤ 100 ∧ (covs l0 l1 a2 l0.length []).length ≤ 1000000
  · rw [if_pos hc] at h
    obtain ⟨h0, h1, h2⟩ := hc
    cases h
    have HR0 := Aside0.mk hr0
    have HR1 := Aside0.mk hr1
    have H2 := Aside0.mk h2
    clear hr0 hr1 h2
    have HNB := Aside0.mk (blk_new w (.cells #[.slice none 0 0] 31 (0, 0)))
    have HAL := Aside0.mk (below_alloc (Below.refl w.heap.size w) (.cells #[.slice none 0 0] 31 (0, 0)))
    go_enter Try.func14, Try.ntmps14
    go_wp2_with (go_at_call 21; go_loud (refine (look_calls w l0 l1 a2 A0 A1 c0 c1 HR0.out hc0 HR1.out hc1 h0 h1 w.heap.size (Nat.le_refl _) l0.length [] [] (.slice none 0 0) (.slice none 0 0) _ (w.heap.size + 1) HAL.out (by omega) (by omega) HNB.out (Kd.S_nil _ _ _ _ _) (Kd.R_nil _ _ _ _ _) (by simp) (by simpa using H2.out)).mono ?_; rintro e w7 ⟨rfl, hK7, ov7, hb7, hs7, ha7⟩; have HK7 := Aside0.mk hK7; have hcb7 : w7.cell? ⟨w.heap.size, 0, none⟩ = some ov7 := (blk_cell hb7 0).trans rfl; obtain ⟨Ao7, co7, rfl⟩ := Kd.S_slice hs7; have HS7 := Aside0.mk hs7; clear hK7 hb7 hs7 ha7))
    refine bodyPost_ret (results_tmp rfl _ _ _) rfl ?_
    exact ⟨_, rfl, Kd.S_mono HS7.out (fun _ _ => trivial), HK7.out.below HAL.out (Nat.le_refl _) (fun k hk => by simp [Value.ownBlock] at hk) (look_size HAL.out)⟩
  · rw [if_neg hc] at h
    cases h

end Go.Proofs.Ytdaiihafoajmcaa.P
