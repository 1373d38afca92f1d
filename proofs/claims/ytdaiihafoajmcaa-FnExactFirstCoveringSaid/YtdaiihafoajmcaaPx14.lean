/- Go functions of this seat as plain functions, each with the proof that its call comes to what that function says: written by this session's program (wip/drive.py) out of the translation, by the kit's printer and by texts of our own; no conditions. -/
import Derived.Test.YtdaiihafoajmcaaPx0
import Derived.Test.YtdaiihafoajmcaaPx1
import Derived.Test.YtdaiihafoajmcaaPx2
import Derived.Test.YtdaiihafoajmcaaPx4
import Derived.Test.YtdaiihafoajmcaaPx13
import Derived.Shelf.Abstract
namespace Go.Proofs.Ytdaiihafoajmcaa.P
open Go.RowKit Go.Proofs.YtdaiihafoajmcaaW.PrintWords Go.Proofs.YtdaiihafoajmcaaW.PrintLast Go.Proofs.YtdaiihafoajmcaaW.PrintMore
attribute [local go_sem] max2_int min2_int max_two min_two max_three min_three max_four min_four   -- for this text's walks alone
set_option linter.unusedVariables false
set_option linter.unusedSimpArgs false

/-! ### impl_LeastWood: function 7 -/
theorem cov_index (l : List Int) (a : Int) (hl : l.length ≤ 9223372036854775806) : ∀ (n k i : Nat), n = l.length - i → i ≤ l.length → n < k → ∃ t, slices_Index_int_int.l0 k l a (l.length : Int) (i : Int) = some t ∧ (0 ≤ t ↔ a ∈ l.drop i) := by
  intro n
  induction n with
  | zero =>
    intro k i hn hi hk
    obtain ⟨k, rfl⟩ : ∃ k', k = k' + 1 := ⟨k - 1, by omega⟩
    simp only [slices_Index_int_int.l0]
    rw [if_neg (by omega), List.drop_of_length_le (by omega)]
    exact ⟨_, rfl, by simp⟩
  | succ n ih =>
    intro k i hn hi hk
    obtain ⟨k, rfl⟩ : ∃ k', k = k' + 1 := ⟨k - 1, by omega⟩
    have hd : l.drop i = rd l (i : Int) :: l.drop (i + 1) := by
      rw [List.drop_eq_getElem_cons (by omega)]
      congr 1
      simp [rd, List.getD_eq_getElem?_getD, List.getElem?_eq_getElem (show i < l.length by omega)]
    simp only [slices_Index_int_int.l0]
    rw [if_pos (by omega), if_pos (by omega), if_pos (by omega), hd]
    by_cases c : a = rd l (i : Int)
    · rw [if_pos c]
      exact ⟨_, rfl, by simp [c]⟩
    · rw [if_neg c, show wrap64 ((i : Int) + 1) = ((i + 1 : Nat) : Int) from by unfold wrap64; omega]
      obtain ⟨t, h1, h2⟩ := ih k (i + 1) (by omega) (by omega) (by omega)
      exact ⟨t, h1, by rw [h2, List.mem_cons]; simp [c]⟩
theorem cov_contains (l : List Int) (a : Int) (hl : l.length ≤ 9223372036854775806) (k : Nat) (hk : l.length < k) : slices_Contains_int_int.f k l a = some (decide (a ∈ l)) := by
  obtain ⟨t, h1, h2⟩ := cov_index l a hl l.length k 0 (by omega) (by omega) hk
  unfold slices_Contains_int_int.f slices_Index_int_int.f
  rw [show ((0 : Nat) : Int) = 0 from rfl] at h1
  rw [h1, Option.bind_some, List.drop_zero] at *
  congr 1
  rw [Bool.eq_iff_iff, decide_eq_true_eq, decide_eq_true_eq]
  exact h2
/-- All blocks but one stay as they are. -/
structure Kept1 (p : Nat) (W w' : World) : Prop where
  os : w'.os = W.os
  tape : w'.tape = W.tape
  output : w'.output = W.output
  size : W.heap.size ≤ w'.heap.size
  block : ∀ i, i < W.heap.size → i ≠ p → w'.heap[i]? = W.heap[i]?
theorem Kept1.refl (p : Nat) (W : World) : Kept1 p W W := ⟨rfl, rfl, rfl, Nat.le_refl _, fun _ _ _ => rfl⟩
theorem Kept1.of_below {p : Nat} {W w' : World} (h : Below W.heap.size W w') : Kept1 p W w' := ⟨h.os, h.tape, h.output, h.size, fun i hi _ => h.block i hi⟩
theorem Kept1.trans {p : Nat} {W w' w'' : World} (h : Kept1 p W w') (k : Kept1 p w' w'') : Kept1 p W w'' :=
  ⟨k.os.trans h.os, k.tape.trans h.tape, k.output.trans h.output, Nat.le_trans h.size k.size, fun i hi h1 => (k.block i (Nat.lt_of_lt_of_le hi h.size) h1).trans (h.block i hi h1)⟩
theorem Kept1.set_ {p : Nat} {W : World} (j : Nat) (u : Value) : Kept1 p W (W.setCell ⟨p, j, none⟩ u) := by
  have hb := (Below.refl 0 W).setCell (Nat.zero_le p) (u) (p := ⟨p, j, none⟩)
  exact ⟨hb.os, hb.tape, hb.output, hb.size, fun i hi h1 => Below.heap_setCell W ⟨p, j, none⟩ u i h1⟩
theorem Kept1.below {p B : Nat} {w0 W w' : World} (h : Kept1 p W w') (hb : Below B w0 W) (hp : B ≤ p) (hB : B ≤ W.heap.size) : Below B w0 w' :=
  ⟨h.os.trans hb.os, h.tape.trans hb.tape, h.output.trans hb.output, Nat.le_trans hb.size h.size, fun i hi => (h.block i (by omega) (by omega)).trans (hb.block i hi)⟩
theorem Kept1.row {p : Nat} {W w' : World} {base : Nat} {v : Value} {xs : List Int} (h : Kept1 p W w') (hr : Kd.R (Kd.int .i64) 3 W base (fun k => k ≠ p) v xs) : Kd.R (Kd.int .i64) 3 w' base (fun k => k ≠ p) v xs :=
  Kd.R_step hr (fun k ho hk => h.block k hk ho)
theorem row_fresh1 {b0 e b b' : Nat} {W : World} {v : Value} {xs : List Int} (h : Kd.R (Kd.int .i64) e W b (fun _ => True) v xs) (hle : b' ≤ b) (h0 : b0 < b') : Kd.R (Kd.int .i64) e W b' (fun k => k ≠ b0) v xs :=
  Kd.R_lower (Kd.R_mono (Kd.R_bound h) (fun k hk => by omega)) hle
/-- The search's own value. -/
def coverFn (bg be bp br bc : Nat) : Value := .func (.func 23) #[] #[.pointer (some ⟨bg, 0, none⟩), .pointer (some ⟨be, 0, none⟩), .pointer (some ⟨bp, 0, none⟩), .pointer (some ⟨br, 0, none⟩), .pointer (some ⟨bc, 0, none⟩)]
/-- The blocks of the search's variables: the gaps, what is called, the planks, the rest, the search itself. -/
def CovB (bg be bp br bc : Nat) (gv ev pv : Value) (rest : Int) (W : World) : Prop :=
  W.heap[bg]? = some (.cells #[gv] 22 (0, 0)) ∧ W.heap[be]? = some (.cells #[ev] 36 (0, 0)) ∧ W.heap[bp]? = some (.cells #[pv] 22 (0, 0)) ∧ W.heap[br]? = some (.cells #[.int .i64 rest] 3 (0, 0)) ∧ W.heap[bc]? = some (.cells #[coverFn bg be bp br bc] 36 (0, 0))
def Off5 (bg be bp br bc gb : Nat) : Prop := bg ≠ gb ∧ be ≠ gb ∧ bp ≠ gb ∧ br ≠ gb ∧ bc ≠ gb
theorem CovB_kept {bg be bp br bc gb : Nat} {gv ev pv : Value} {rest : Int} {W W' : World} (h : CovB bg be bp br bc gv ev pv rest W) (ho : Off5 bg be bp br bc gb) (hk : Kept1 gb W W') : CovB bg be bp br bc gv ev pv rest W' :=
  ⟨(hk.block _ (blk_lt h.1) ho.1).trans h.1, (hk.block _ (blk_lt h.2.1) ho.2.1).trans h.2.1, (hk.block _ (blk_lt h.2.2.1) ho.2.2.1).trans h.2.2.1, (hk.block _ (blk_lt h.2.2.2.1) ho.2.2.2.1).trans h.2.2.2.1, (hk.block _ (blk_lt h.2.2.2.2) ho.2.2.2.2).trans h.2.2.2.2⟩
theorem CovB_facts {bg be bp br bc : Nat} {gv ev pv : Value} {rest : Int} {W : World} (h : CovB bg be bp br bc gv ev pv rest W) : W.cell? ⟨bg, 0, none⟩ = some gv ∧ W.cell? ⟨be, 0, none⟩ = some ev ∧ W.cell? ⟨bp, 0, none⟩ = some pv ∧ W.cell? ⟨br, 0, none⟩ = some (.int .i64 rest) ∧ W.cell? ⟨bc, 0, none⟩ = some (coverFn bg be bp br bc) :=
  ⟨(blk_cell h.1 0).trans rfl, (blk_cell h.2.1 0).trans rfl, (blk_cell h.2.2.1 0).trans rfl, (blk_cell h.2.2.2.1 0).trans rfl, (blk_cell h.2.2.2.2 0).trans rfl⟩
theorem row_C1 {e : Nat} {w : World} {base : Nat} {ok : Nat → Prop} {A : Option Addr} {n c : Nat} {xs : List Int} (h : Kd.R (Kd.int .i64) e w base ok (.slice A n c) xs) : Kd.C (Kd.int .i64) w A xs.length xs := by
  obtain ⟨A', c', e, _, hC⟩ := Kd.R_reads h
  cases e
  exact hC
theorem C_belowB {w0 W : World} {A : Option Addr} {n : Nat} {xs : List Int} (h : Kd.C (Kd.int .i64) w0 A n xs) (hb : Below w0.heap.size w0 W) : Kd.C (Kd.int .i64) W A n xs := Kd.C_below h hb
theorem below_size' {w0 W : World} (h : Below w0.heap.size w0 W) : w0.heap.size ≤ W.heap.size := h.size
theorem cell_under {w W : World} {a : Addr} {v : Value} (h : w.cell? a = some v) (hb : Below w.heap.size w W) : W.cell? a = some v := (hb.cell (World.block_lt_of_cell? w a h)).trans h
theorem mem_snoc {plan : List Int} {n i : Nat} (h : ∀ x ∈ plan, 0 ≤ x ∧ x < (n : Int)) (hi : i < n) : ∀ x ∈ plan ++ [(i : Int)], 0 ≤ x ∧ x < (n : Int) := fun x hx => by
  rcases List.mem_append.1 hx with h1 | h1
  · exact h x h1
  · simp at h1
    omega
theorem cell_kept1 {p : Nat} {W W' : World} {b : Nat} {v : Value} (h : W.cell? ⟨b, 0, none⟩ = some v) (hb : b ≠ p) (hk : Kept1 p W W') : W'.cell? ⟨b, 0, none⟩ = some v := by
  have h1 := hk.block b (World.block_lt_of_cell? W _ h) hb
  simpa only [World.cell?, h1] using h
theorem mixedC : Try.prog.follows .mixedOrders = true := by kernel_rfl
set_option maxHeartbeats 8000000 in
set_option maxRecDepth 100000 in
theorem cover_calls {σ : Type} (w0 : World) (gaps planks : List Int) (rest : Int) (Ag Ap : Option Addr) (cg cp : Nat) (hCg : Kd.C (Kd.int .i64) w0 Ag gaps.length gaps) (hcg : gaps.length ≤ cg) (hCp : Kd.C (Kd.int .i64) w0 Ap planks.length planks) (hcp : planks.length ≤ cp) (hgl : gaps.length ≤ 100) (hpl : planks.length ≤ 100)
    (bg be bp br bc gb g : Nat) (lb : Array Value) (egg : ∀ args w, (callFunc g args).run Try.prog w = .ok (.enter g args) w) (ho : Off5 bg be bp br bc gb) (hgb : w0.heap.size ≤ gb) (f : σ → List Int → σ) (St : σ → World → Prop) (hS : ∀ s W W', St s W → Below W.heap.size W W' → St s W')
    (hE : ∀ (s : σ) (plan : List Int) (v : Value) (W : World), Below w0.heap.size w0 W → gb < W.heap.size → St s W → Kd.R (Kd.int .i64) 3 W w0.heap.size (fun k => k ≠ gb) v plan → plan.length = gaps.length → (∀ x ∈ plan, 0 ≤ x ∧ x < (planks.length : Int)) → Calls Try.prog g (#[v] ++ lb) W fun e w' => e = .returned (.tuple #[]) ∧ St (f s plan) w' ∧ Kept1 gb W w') :
    ∀ (d : Nat) (plan : List Int) (s : σ) (v : Value) (W : World), Below w0.heap.size w0 W → CovB bg be bp br bc (.slice Ag gaps.length cg) (.func (.func g) #[] lb) (.slice Ap planks.length cp) rest W → gb < W.heap.size → St s W → Kd.R (Kd.int .i64) 3 W w0.heap.size (fun k => k ≠ gb) v plan → gaps.length = plan.length + d → (∀ x ∈ plan, 0 ≤ x ∧ x < (planks.length : Int)) →
      Calls Try.prog 23 #[v, .pointer (some ⟨bg, 0, none⟩), .pointer (some ⟨be, 0, none⟩), .pointer (some ⟨bp, 0, none⟩), .pointer (some ⟨br, 0, none⟩), .pointer (some ⟨bc, 0, none⟩)] W fun e w' => e = .returned (.tuple #[]) ∧ St ((covs gaps planks rest d plan).foldl f s) w' ∧ Kept1 gb W w' := by
  have egw : ∀ args w, (callFunc 23 args).run Try.prog w = .ok (.enter 23 args) w := enters_ Try.func23 (by kernel_rfl) rfl
  have HO := Aside0.mk ho
  have HCg := Aside0.mk hCg
  have HCp := Aside0.mk hCp
  clear ho hCg hCp
  intro d
  induction d with
  | zero =>
    intro plan s v W hB hX hlt hs hv hd hp
    obtain ⟨Av, cv, rfl, hvl, hvC⟩ := Kd.R_reads hv
    have hcall := hE s plan _ W hB hlt hs hv (by omega) hp
    obtain ⟨hc1, hc2, hc3, hc4, hc5⟩ := CovB_facts hX
    have heq : ((plan.length : Int) == (gaps.length : Int)) = true := by simp only [beq_iff_eq]; omega
    have HV := Aside0.mk hv
    clear hX hv hvC hp hB hd hE
    go_enter Try.func23, Try.ntmps23
    go_wp2_with (go_at_fn g; refine hcall.mono ?_; rintro e w' ⟨rfl, h1, h2⟩)
    refine bodyPost_ret (results_none rfl _ _ _) rfl ?_
    exact ⟨rfl, h1, h2⟩
  | succ d IH =>
    intro plan s v W hB hX hlt hs hv hd hp
    obtain ⟨Av, cv, rfl, hvl, hvC⟩ := Kd.R_reads hv
    obtain ⟨hc1, hc2, hc3, hc4, hc5⟩ := CovB_facts hX
    have hne : ((plan.length : Int) == (gaps.length : Int)) = false := by simp only [beq_eq_false_iff_ne]; omega
    have hdl : gaps.length = plan.length + (d + 1) := hd
    have HV := Aside0.mk hv
    have HVC0 := Aside0.mk hvC
    have HX := Aside0.mk hX
    have HB := Aside0.mk hB
    have HL0 := Aside0.mk hlt
    have HS0 := Aside0.mk hs
    have HPL := Aside0.mk hp
    have HD := Aside0.mk hdl
    have hplen : plan.length < gaps.length := by omega
    have HCL := Aside0.mk (show slices_Clone_int_int.f plan = some plan from by unfold slices_Clone_int_int.f; rw [if_pos (by omega)])
    clear hX hv hvC hp hB hd hE hs hlt hdl
    go_enter Try.func23, Try.ntmps23
    go_wp2
    go_loopg [19] planks.length (fun gg v19 wr => ∃ (i : Nat) (s' : σ), v19 = .int .i64 i ∧ i ≤ planks.length ∧ planks.length - i ≤ gg ∧ Aside0 ((covsAt (covs gaps planks rest d) (wrap64 (rd gaps (plan.length : Int) + wrap64 (2 * rest))) plan i (planks.drop i)).foldl f s' = (covs gaps planks rest (d + 1) plan).foldl f s) ∧ Aside0 (St s' wr) ∧ Aside0 (Kept1 gb W wr))
    case atStart => exact ⟨0, s, rfl, Nat.zero_le _, by omega, ⟨rfl⟩, HS0, ⟨Kept1.refl _ _⟩⟩
    case round =>
      obtain ⟨i, s', rfl, hi, hg, HF, HSr, HKr⟩ := hrel
      clear hc1 hc2 hc3 hc4 hc5
      by_cases hlt : i < planks.length
      · have hltz : (i : Int) < (planks.length : Int) := by omega
        have HXr := Aside0.mk (CovB_kept HX.out HO.out HKr.out)
        have HBr := Aside0.mk (HKr.out.below HB.out hgb (below_size' HB.out))
        have HLT := Aside0.mk (show gb < wr.heap.size from Nat.lt_of_lt_of_le HL0.out HKr.out.size)
        have HVr := Aside0.mk (HKr.out.row HV.out)
        have HVC := Aside0.mk (row_C1 HVr.out)
        obtain ⟨hc1, hc2, hc3, hc4, hc5⟩ := CovB_facts HXr.out
        have hc5r := hc5
        obtain ⟨adp, hAp, hxp⟩ := Kd.at_int (C_belowB HCp.out HBr.out) (i : Int) (by omega) (by omega)
        obtain ⟨adg, hAg, hxg⟩ := Kd.at_int (C_belowB HCg.out HBr.out) (plan.length : Int) (by omega) (by omega)
        subst hAp
        subst hAg
        rw [Int.toNat_natCast] at hxp hxg
        obtain ⟨p, hpq⟩ : ∃ p, p = rd planks (i : Int) := ⟨_, rfl⟩
        obtain ⟨gq, hgq⟩ : ∃ gq, gq = rd gaps (plan.length : Int) := ⟨_, rfl⟩
        rw [← hpq] at hxp
        rw [← hgq] at hxg
        have hdr : planks.drop i = p :: planks.drop (i + 1) := by
          rw [hpq, List.drop_eq_getElem_cons hlt]
          congr 1
          simp [rd, List.getD_eq_getElem?_getD, List.getElem?_eq_getElem hlt]
        have hF := HF.out
        rw [hdr, covsAt, List.foldl_append, ← hgq] at hF
        have HFF := Aside0.mk hF
        have HGQ := Aside0.mk hgq
        have hplz : (plan.length : Int) < (gaps.length : Int) := by omega
        have HCT := Aside0.mk (cov_contains plan (i : Int) (by omega) 1000 (by omega))
        clear hpq hgq hdr hF HF
        have hskip : ¬ (wrap64 (gq + wrap64 (2 * rest)) ≤ p ∧ ¬ (i : Int) ∈ plan) → (covsAt (covs gaps planks rest d) (wrap64 (rd gaps (plan.length : Int) + wrap64 (2 * rest))) plan (i + 1) (planks.drop (i + 1))).foldl f s' = (covs gaps planks rest (d + 1) plan).foldl f s := by
          intro hn
          have h_ := HFF.out
          rw [if_neg hn] at h_
          rw [← HGQ.out]
          exact h_
        have htake : wrap64 (gq + wrap64 (2 * rest)) ≤ p → ¬ (i : Int) ∈ plan → (covsAt (covs gaps planks rest d) (wrap64 (rd gaps (plan.length : Int) + wrap64 (2 * rest))) plan (i + 1) (planks.drop (i + 1))).foldl f ((covs gaps planks rest d (plan ++ [(i : Int)])).foldl f s') = (covs gaps planks rest (d + 1) plan).foldl f s := by
          intro h1 h2
          have h_ := HFF.out
          rw [if_pos ⟨h1, h2⟩] at h_
          rw [← HGQ.out]
          exact h_
        have HSK := Aside0.mk hskip
        have HTK := Aside0.mk htake
        clear hskip htake
        obtain ⟨nd, hnd⟩ : ∃ nd, wrap64 (gq + wrap64 (2 * rest)) = nd := ⟨_, rfl⟩
        rw [hnd] at HSK HTK
        have hwr : IntKind.i64.wrap (gq + IntKind.i64.wrap (2 * rest)) = nd := by rw [i64_w, i64_w, hnd]
        have hwr2 : IntKind.i64.wrap (gq + wrap64 (2 * rest)) = nd := by rw [i64_w, hnd]
        clear hnd
        by_cases c1 : nd ≤ p
        · have hd1 : decide (nd ≤ p) = true := decide_eq_true c1
          by_cases c2 : (i : Int) ∈ plan
          · have HCT' := Aside0.mk (show slices_Contains_int_int.f 1000 plan (i : Int) = some true from by rw [HCT.out, decide_eq_true c2])
            go_wp2_with fail
            refine start_ (n := 16) (S := fun w' => w'.cell? ⟨bg, 0, none⟩ = some (.slice (some adg) gaps.length cg) ∧ w'.cell? (adg.add plan.length) = some (.int .i64 gq) ∧ w'.cell? ⟨br, 0, none⟩ = some (.int .i64 rest)) (ds := []) #[false, false, false, false, false, false, false, false, false, false, false, false, false, false, false, false] mixedC rfl rfl ⟨hc1, hxg, hc4⟩ (fun hHeld => ?_)
            have HB1 := Aside0.mk (below_drew (Below.refl wr.heap.size wr))
            generalize wr.drew = wd at HB1 hHeld ⊢
            refine pure_ (i := 0) (N := some 24) (v := ?_) (a' := ?_) #[true, false, false, false, false, false, false, false, false, false, false, false, false, false, false, false] rfl rfl (by kernel_rfl) (fun _ _ _ h => h) (Or.inl ⟨by rfl, ?_⟩) ?_ ?_
            rotate_left
            · intro w'
              go_simp
              with_reducible rfl
            rotate_left
            · simp only [Act.put, List.setIfInBounds_toArray, List.set_cons_zero, List.set_cons_succ, i64_w, i32_w]
              rfl
            refine take_ (i := 1) (N := some 25) (v := ?_) (a' := ?_) #[true, true, false, false, false, false, false, false, false, false, false, false, false, false, false, false] rfl rfl (by kernel_rfl) (fun _ _ _ h => h) (Or.inl ⟨by rfl, ?_⟩) hHeld ?_ ?_
            rotate_left
            · rintro w' ⟨s0, s1, s2⟩
              go_simp
              with_reducible rfl
            rotate_left
            · simp only [Act.put, List.setIfInBounds_toArray, List.set_cons_zero, List.set_cons_succ, i64_w, i32_w]
              rfl
            refine pure_ (i := 2) (N := some 26) (v := ?_) (a' := ?_) #[true, true, true, false, false, false, false, false, false, false, false, false, false, false, false, false] rfl rfl (by kernel_rfl) (fun _ _ _ h => h) (Or.inl ⟨by rfl, ?_⟩) ?_ ?_
            rotate_left
            · intro w'
              go_simp
              with_reducible rfl
            rotate_left
            · simp only [Act.put, List.setIfInBounds_toArray, List.set_cons_zero, List.set_cons_succ, i64_w, i32_w]
              rfl
            refine pure_ (i := 3) (N := some 27) (v := ?_) (a' := ?_) #[true, true, true, true, false, false, false, false, false, false, false, false, false, false, false, false] rfl rfl (by kernel_rfl) (fun _ _ _ h => h) (Or.inl ⟨by rfl, ?_⟩) ?_ ?_
            rotate_left
            · intro w'
              go_simp
              with_reducible rfl
            rotate_left
            · simp only [Act.put, List.setIfInBounds_toArray, List.set_cons_zero, List.set_cons_succ, i64_w, i32_w]
              rfl
            refine pure_ (i := 4) (N := some 28) (v := .pointer (some (adg.add plan.length))) (a' := ?_) #[true, true, true, true, true, false, false, false, false, false, false, false, false, false, false, false] rfl rfl (by kernel_rfl) (fun _ _ _ h => h) (Or.inl ⟨by rfl, ?_⟩) ?_ ?_
            · intro w'
              first | (go_simp; done) | (go_simp; rfl) | (go_simp; with_reducible rfl)
            rotate_left
            · simp only [Act.put, List.setIfInBounds_toArray, List.set_cons_zero, List.set_cons_succ, i64_w, i32_w]
              rfl
            refine take_ (i := 5) (N := some 29) (v := ?_) (a' := ?_) #[true, true, true, true, true, true, false, false, false, false, false, false, false, false, false, false] rfl rfl (by kernel_rfl) (fun _ _ _ h => h) (Or.inl ⟨by rfl, ?_⟩) hHeld ?_ ?_
            rotate_left
            · rintro w' ⟨s0, s1, s2⟩
              go_simp
              with_reducible rfl
            rotate_left
            · simp only [Act.put, List.setIfInBounds_toArray, List.set_cons_zero, List.set_cons_succ, i64_w, i32_w]
              rfl
            refine take_ (i := 6) (N := some 30) (v := ?_) (a' := ?_) #[true, true, true, true, true, true, true, false, false, false, false, false, false, false, false, false] rfl rfl (by kernel_rfl) (fun _ _ _ h => h) (Or.inl ⟨by rfl, ?_⟩) hHeld ?_ ?_
            rotate_left
            · rintro w' ⟨s0, s1, s2⟩
              go_simp
              with_reducible rfl
            rotate_left
            · simp only [Act.put, List.setIfInBounds_toArray, List.set_cons_zero, List.set_cons_succ, i64_w, i32_w]
              rfl
            refine pure_ (i := 7) (N := some 31) (v := ?_) (a' := ?_) #[true, true, true, true, true, true, true, true, false, false, false, false, false, false, false, false] rfl rfl (by kernel_rfl) (fun _ _ _ h => h) (Or.inl ⟨by rfl, ?_⟩) ?_ ?_
            rotate_left
            · intro w'
              go_simp
              with_reducible rfl
            rotate_left
            · simp only [Act.put, List.setIfInBounds_toArray, List.set_cons_zero, List.set_cons_succ, i64_w, i32_w]
              rfl
            refine pure_ (i := 8) (N := some 32) (v := .int .i64 nd) (a' := ?_) #[true, true, true, true, true, true, true, true, true, false, false, false, false, false, false, false] rfl rfl (by kernel_rfl) (fun _ _ _ h => h) (Or.inl ⟨by rfl, ?_⟩) ?_ ?_
            · intro w'
              first | (go_simp; done) | (go_simp; exact hwr2) | (go_simp; rfl)
            rotate_left
            · simp only [Act.put, List.setIfInBounds_toArray, List.set_cons_zero, List.set_cons_succ, i64_w, i32_w]
              rfl
            refine pure_ (i := 9) (N := some 33) (v := .bool true) (a' := ?_) #[true, true, true, true, true, true, true, true, true, true, false, false, false, false, false, false] rfl rfl (by kernel_rfl) (fun _ _ _ h => h) (Or.inl ⟨by rfl, ?_⟩) ?_ ?_
            · intro w'
              first | (go_simp; done) | (go_simp; simp only [hd1]; done) | (go_simp; simp only [hd1]; rfl) | (go_simp; rfl)
            rotate_left
            · simp only [Act.put, List.setIfInBounds_toArray, List.set_cons_zero, List.set_cons_succ, i64_w, i32_w]
              rfl
            refine pure_ (i := 10) (N := some 34) (v := ?_) (a' := ?_) #[true, true, true, true, true, true, true, true, true, true, true, false, false, false, false, false] rfl rfl (by kernel_rfl) (fun _ _ _ h => h) (Or.inl ⟨by rfl, ?_⟩) ?_ ?_
            rotate_left
            · intro w'
              go_simp
              with_reducible rfl
            rotate_left
            · simp only [Act.put, List.setIfInBounds_toArray, List.set_cons_zero, List.set_cons_succ, i64_w, i32_w]
              rfl
            refine pure_ (i := 11) (N := some 35) (v := ?_) (a' := ?_) #[true, true, true, true, true, true, true, true, true, true, true, true, false, false, false, false] rfl rfl (by kernel_rfl) (fun _ _ _ h => h) (Or.inl ⟨by rfl, ?_⟩) ?_ ?_
            rotate_left
            · intro w'
              go_simp
              with_reducible rfl
            rotate_left
            · simp only [Act.put, List.setIfInBounds_toArray, List.set_cons_zero, List.set_cons_succ, i64_w, i32_w]
              rfl
            refine pure_ (i := 12) (N := some 36) (v := ?_) (a' := ?_) #[true, true, true, true, true, true, true, true, true, true, true, true, true, false, false, false] rfl rfl (by kernel_rfl) (fun _ _ _ h => h) (Or.inl ⟨by rfl, ?_⟩) ?_ ?_
            rotate_left
            · intro w'
              go_simp
              with_reducible rfl
            rotate_left
            · simp only [Act.put, List.setIfInBounds_toArray, List.set_cons_zero, List.set_cons_succ, i64_w, i32_w]
              rfl
            refine one_ (i := 13) (N := some 37) #[true, true, true, true, true, true, true, true, true, true, true, true, true, true, false, false] rfl rfl (by kernel_rfl) (by decide) (fun K hK => ?_)
            refine goes_ Try.func24 (by kernel_rfl) rfl #[.slice Av plan.length cv, .int .i64 (i : Int)] (by rfl) rfl rfl (by (try simp only [List.map_toArray, List.map_cons, List.map_nil]); first | done | rfl) ?_
            refine (slices_Contains_int_int.calls 1000 Av cv plan (i : Int) true wd (Kd.C_below HVC.out HB1.out) hvl HCT'.out).mono ?_
            rintro e w3 ⟨rfl, hq_⟩
            have HB2 := Aside0.mk (below_step HB1.out hq_.below)
            refine ⟨_, rfl, ?_⟩
            refine hK.out _ _ ⟨cell_under hc1 HB2.out, cell_under hxg HB2.out, cell_under hc4 HB2.out⟩ (fun hHeld => ?_)
            clear hK K
            refine norm_ (a' := ?_) ?_ ?_
            rotate_left
            · show Act.put _ (some 37) _ = _
              simp only [Act.put, List.setIfInBounds_toArray, List.set_cons_zero, List.set_cons_succ, i64_w, i32_w]
              rfl
            refine pure_ (i := 14) (N := some 38) (v := ?_) (a' := ?_) #[true, true, true, true, true, true, true, true, true, true, true, true, true, true, true, false] rfl rfl (by kernel_rfl) (fun _ _ _ h => h) (Or.inl ⟨by rfl, ?_⟩) ?_ ?_
            rotate_left
            · intro w'
              go_simp
              with_reducible rfl
            rotate_left
            · simp only [Act.put, List.setIfInBounds_toArray, List.set_cons_zero, List.set_cons_succ, i64_w, i32_w]
              rfl
            refine pure_ (i := 15) (N := some 39) (v := .bool false) (a' := ?_) #[true, true, true, true, true, true, true, true, true, true, true, true, true, true, true, true] rfl rfl (by kernel_rfl) (fun _ _ _ h => h) (Or.inl ⟨by rfl, ?_⟩) ?_ ?_
            · intro w'
              first | (go_simp; done) | (go_simp; simp only [hd1]; done) | (go_simp; simp only [hd1]; rfl) | (go_simp; rfl)
            rotate_left
            · simp only [Act.put, List.setIfInBounds_toArray, List.set_cons_zero, List.set_cons_succ, i64_w, i32_w]
              rfl
            refine done_ (by kernel_rfl) ?_
            go_wp2_with fail
            go_roundg (planks.length - (i + 1))
            case measure => omega
            case rel => exact ⟨i + 1, s', by go_num, by omega, by omega, ⟨HSK.out (fun h => h.2 c2)⟩, ⟨hS _ _ _ HSr.out HB2.out⟩, ⟨HKr.out.trans (Kept1.of_below HB2.out)⟩⟩
          · have HCT' := Aside0.mk (show slices_Contains_int_int.f 1000 plan (i : Int) = some false from by rw [HCT.out, decide_eq_false c2])
            go_wp2_with fail
            refine start_ (n := 16) (S := fun w' => w'.cell? ⟨bg, 0, none⟩ = some (.slice (some adg) gaps.length cg) ∧ w'.cell? (adg.add plan.length) = some (.int .i64 gq) ∧ w'.cell? ⟨br, 0, none⟩ = some (.int .i64 rest)) (ds := []) #[false, false, false, false, false, false, false, false, false, false, false, false, false, false, false, false] mixedC rfl rfl ⟨hc1, hxg, hc4⟩ (fun hHeld => ?_)
            have HB1 := Aside0.mk (below_drew (Below.refl wr.heap.size wr))
            generalize wr.drew = wd at HB1 hHeld ⊢
            refine pure_ (i := 0) (N := some 24) (v := ?_) (a' := ?_) #[true, false, false, false, false, false, false, false, false, false, false, false, false, false, false, false] rfl rfl (by kernel_rfl) (fun _ _ _ h => h) (Or.inl ⟨by rfl, ?_⟩) ?_ ?_
            rotate_left
            · intro w'
              go_simp
              with_reducible rfl
            rotate_left
            · simp only [Act.put, List.setIfInBounds_toArray, List.set_cons_zero, List.set_cons_succ, i64_w, i32_w]
              rfl
            refine take_ (i := 1) (N := some 25) (v := ?_) (a' := ?_) #[true, true, false, false, false, false, false, false, false, false, false, false, false, false, false, false] rfl rfl (by kernel_rfl) (fun _ _ _ h => h) (Or.inl ⟨by rfl, ?_⟩) hHeld ?_ ?_
            rotate_left
            · rintro w' ⟨s0, s1, s2⟩
              go_simp
              with_reducible rfl
            rotate_left
            · simp only [Act.put, List.setIfInBounds_toArray, List.set_cons_zero, List.set_cons_succ, i64_w, i32_w]
              rfl
            refine pure_ (i := 2) (N := some 26) (v := ?_) (a' := ?_) #[true, true, true, false, false, false, false, false, false, false, false, false, false, false, false, false] rfl rfl (by kernel_rfl) (fun _ _ _ h => h) (Or.inl ⟨by rfl, ?_⟩) ?_ ?_
            rotate_left
            · intro w'
              go_simp
              with_reducible rfl
            rotate_left
            · simp only [Act.put, List.setIfInBounds_toArray, List.set_cons_zero, List.set_cons_succ, i64_w, i32_w]
              rfl
            refine pure_ (i := 3) (N := some 27) (v := ?_) (a' := ?_) #[true, true, true, true, false, false, false, false, false, false, false, false, false, false, false, false] rfl rfl (by kernel_rfl) (fun _ _ _ h => h) (Or.inl ⟨by rfl, ?_⟩) ?_ ?_
            rotate_left
            · intro w'
              go_simp
              with_reducible rfl
            rotate_left
            · simp only [Act.put, List.setIfInBounds_toArray, List.set_cons_zero, List.set_cons_succ, i64_w, i32_w]
              rfl
            refine pure_ (i := 4) (N := some 28) (v := .pointer (some (adg.add plan.length))) (a' := ?_) #[true, true, true, true, true, false, false, false, false, false, false, false, false, false, false, false] rfl rfl (by kernel_rfl) (fun _ _ _ h => h) (Or.inl ⟨by rfl, ?_⟩) ?_ ?_
            · intro w'
              first | (go_simp; done) | (go_simp; rfl) | (go_simp; with_reducible rfl)
            rotate_left
            · simp only [Act.put, List.setIfInBounds_toArray, List.set_cons_zero, List.set_cons_succ, i64_w, i32_w]
              rfl
            refine take_ (i := 5) (N := some 29) (v := ?_) (a' := ?_) #[true, true, true, true, true, true, false, false, false, false, false, false, false, false, false, false] rfl rfl (by kernel_rfl) (fun _ _ _ h => h) (Or.inl ⟨by rfl, ?_⟩) hHeld ?_ ?_
            rotate_left
            · rintro w' ⟨s0, s1, s2⟩
              go_simp
              with_reducible rfl
            rotate_left
            · simp only [Act.put, List.setIfInBounds_toArray, List.set_cons_zero, List.set_cons_succ, i64_w, i32_w]
              rfl
            refine take_ (i := 6) (N := some 30) (v := ?_) (a' := ?_) #[true, true, true, true, true, true, true, false, false, false, false, false, false, false, false, false] rfl rfl (by kernel_rfl) (fun _ _ _ h => h) (Or.inl ⟨by rfl, ?_⟩) hHeld ?_ ?_
            rotate_left
            · rintro w' ⟨s0, s1, s2⟩
              go_simp
              with_reducible rfl
            rotate_left
            · simp only [Act.put, List.setIfInBounds_toArray, List.set_cons_zero, List.set_cons_succ, i64_w, i32_w]
              rfl
            refine pure_ (i := 7) (N := some 31) (v := ?_) (a' := ?_) #[true, true, true, true, true, true, true, true, false, false, false, false, false, false, false, false] rfl rfl (by kernel_rfl) (fun _ _ _ h => h) (Or.inl ⟨by rfl, ?_⟩) ?_ ?_
            rotate_left
            · intro w'
              go_simp
              with_reducible rfl
            rotate_left
            · simp only [Act.put, List.setIfInBounds_toArray, List.set_cons_zero, List.set_cons_succ, i64_w, i32_w]
              rfl
            refine pure_ (i := 8) (N := some 32) (v := .int .i64 nd) (a' := ?_) #[true, true, true, true, true, true, true, true, true, false, false, false, false, false, false, false] rfl rfl (by kernel_rfl) (fun _ _ _ h => h) (Or.inl ⟨by rfl, ?_⟩) ?_ ?_
            · intro w'
              first | (go_simp; done) | (go_simp; exact hwr2) | (go_simp; rfl)
            rotate_left
            · simp only [Act.put, List.setIfInBounds_toArray, List.set_cons_zero, List.set_cons_succ, i64_w, i32_w]
              rfl
            refine pure_ (i := 9) (N := some 33) (v := .bool true) (a' := ?_) #[true, true, true, true, true, true, true, true, true, true, false, false, false, false, false, false] rfl rfl (by kernel_rfl) (fun _ _ _ h => h) (Or.inl ⟨by rfl, ?_⟩) ?_ ?_
            · intro w'
              first | (go_simp; done) | (go_simp; simp only [hd1]; done) | (go_simp; simp only [hd1]; rfl) | (go_simp; rfl)
            rotate_left
            · simp only [Act.put, List.setIfInBounds_toArray, List.set_cons_zero, List.set_cons_succ, i64_w, i32_w]
              rfl
            refine pure_ (i := 10) (N := some 34) (v := ?_) (a' := ?_) #[true, true, true, true, true, true, true, true, true, true, true, false, false, false, false, false] rfl rfl (by kernel_rfl) (fun _ _ _ h => h) (Or.inl ⟨by rfl, ?_⟩) ?_ ?_
            rotate_left
            · intro w'
              go_simp
              with_reducible rfl
            rotate_left
            · simp only [Act.put, List.setIfInBounds_toArray, List.set_cons_zero, List.set_cons_succ, i64_w, i32_w]
              rfl
            refine pure_ (i := 11) (N := some 35) (v := ?_) (a' := ?_) #[true, true, true, true, true, true, true, true, true, true, true, true, false, false, false, false] rfl rfl (by kernel_rfl) (fun _ _ _ h => h) (Or.inl ⟨by rfl, ?_⟩) ?_ ?_
            rotate_left
            · intro w'
              go_simp
              with_reducible rfl
            rotate_left
            · simp only [Act.put, List.setIfInBounds_toArray, List.set_cons_zero, List.set_cons_succ, i64_w, i32_w]
              rfl
            refine pure_ (i := 12) (N := some 36) (v := ?_) (a' := ?_) #[true, true, true, true, true, true, true, true, true, true, true, true, true, false, false, false] rfl rfl (by kernel_rfl) (fun _ _ _ h => h) (Or.inl ⟨by rfl, ?_⟩) ?_ ?_
            rotate_left
            · intro w'
              go_simp
              with_reducible rfl
            rotate_left
            · simp only [Act.put, List.setIfInBounds_toArray, List.set_cons_zero, List.set_cons_succ, i64_w, i32_w]
              rfl
            refine one_ (i := 13) (N := some 37) #[true, true, true, true, true, true, true, true, true, true, true, true, true, true, false, false] rfl rfl (by kernel_rfl) (by decide) (fun K hK => ?_)
            refine goes_ Try.func24 (by kernel_rfl) rfl #[.slice Av plan.length cv, .int .i64 (i : Int)] (by rfl) rfl rfl (by (try simp only [List.map_toArray, List.map_cons, List.map_nil]); first | done | rfl) ?_
            refine (slices_Contains_int_int.calls 1000 Av cv plan (i : Int) false wd (Kd.C_below HVC.out HB1.out) hvl HCT'.out).mono ?_
            rintro e w3 ⟨rfl, hq_⟩
            have HB2 := Aside0.mk (below_step HB1.out hq_.below)
            refine ⟨_, rfl, ?_⟩
            refine hK.out _ _ ⟨cell_under hc1 HB2.out, cell_under hxg HB2.out, cell_under hc4 HB2.out⟩ (fun hHeld => ?_)
            clear hK K
            refine norm_ (a' := ?_) ?_ ?_
            rotate_left
            · show Act.put _ (some 37) _ = _
              simp only [Act.put, List.setIfInBounds_toArray, List.set_cons_zero, List.set_cons_succ, i64_w, i32_w]
              rfl
            refine pure_ (i := 14) (N := some 38) (v := ?_) (a' := ?_) #[true, true, true, true, true, true, true, true, true, true, true, true, true, true, true, false] rfl rfl (by kernel_rfl) (fun _ _ _ h => h) (Or.inl ⟨by rfl, ?_⟩) ?_ ?_
            rotate_left
            · intro w'
              go_simp
              with_reducible rfl
            rotate_left
            · simp only [Act.put, List.setIfInBounds_toArray, List.set_cons_zero, List.set_cons_succ, i64_w, i32_w]
              rfl
            refine pure_ (i := 15) (N := some 39) (v := .bool true) (a' := ?_) #[true, true, true, true, true, true, true, true, true, true, true, true, true, true, true, true] rfl rfl (by kernel_rfl) (fun _ _ _ h => h) (Or.inl ⟨by rfl, ?_⟩) ?_ ?_
            · intro w'
              first | (go_simp; done) | (go_simp; simp only [hd1]; done) | (go_simp; simp only [hd1]; rfl) | (go_simp; rfl)
            rotate_left
            · simp only [Act.put, List.setIfInBounds_toArray, List.set_cons_zero, List.set_cons_succ, i64_w, i32_w]
              rfl
            refine done_ (by kernel_rfl) ?_
            go_wp2_with fail
            refine start_ (n := 7) (S := fun w' => w'.cell? ⟨bc, 0, none⟩ = some (coverFn bg be bp br bc)) (ds := []) #[false, false, false, false, false, false, false] mixedC rfl rfl (cell_under hc5r (below_drew HB2.out)) (fun hHeld => ?_)
            have HBd := Aside0.mk (below_drew HB2.out)
            generalize w3.drew = wd at HBd hHeld ⊢
            refine pure_ (i := 1) (N := some 41) (v := ?_) (a' := ?_) #[false, true, false, false, false, false, false] rfl rfl (by kernel_rfl) (fun _ _ _ h => h) (Or.inl ⟨by rfl, ?_⟩) ?_ ?_
            rotate_left
            · intro w'
              go_simp
              with_reducible rfl
            rotate_left
            · simp only [Act.put, List.setIfInBounds_toArray, List.set_cons_zero, List.set_cons_succ, i64_w, i32_w]
              rfl
            refine pure_ (i := 3) (N := some 43) (v := ?_) (a' := ?_) #[false, true, false, true, false, false, false] rfl rfl (by kernel_rfl) (fun _ _ _ h => h) (Or.inl ⟨by rfl, ?_⟩) ?_ ?_
            rotate_left
            · intro w'
              go_simp
              with_reducible rfl
            rotate_left
            · simp only [Act.put, List.setIfInBounds_toArray, List.set_cons_zero, List.set_cons_succ, i64_w, i32_w]
              rfl
            refine take_ (i := 0) (N := some 40) (v := ?_) (a' := ?_) #[true, true, false, true, false, false, false] rfl rfl (by kernel_rfl) (fun _ _ _ h => h) (Or.inl ⟨by rfl, ?_⟩) hHeld ?_ ?_
            rotate_left
            · intro w' s0
              go_simp
              with_reducible rfl
            rotate_left
            · simp only [Act.put, List.setIfInBounds_toArray, List.set_cons_zero, List.set_cons_succ, i64_w, i32_w]
              rfl
            refine join_ (σ := Value × Option Addr × Nat) 2 #[true, true, true, true, true, false, false] (fun s_ => [(42, s_.1), (44, .slice s_.2.1 1 s_.2.2)]) (fun s_ w' => w'.cell? ⟨bc, 0, none⟩ = some (coverFn bg be bp br bc) ∧ Kd.R (Kd.int .i64) 3 w' wr.heap.size (fun k => k ≠ gb) s_.1 plan ∧ Kd.C (Kd.int .i64) w' s_.2.1 1 [(i : Int)] ∧ Below wr.heap.size wr w') ?_ ?_
            rotate_left
            · intro hCont
              refine two_ (i := 2) (j := 4) (Ni := some 42) (Nj := some 44) #[true, true, true, true, false, false, false] #[true, true, false, true, true, false, false] rfl rfl rfl rfl (by kernel_rfl) (by decide) (by decide) (fun K hK => ?_) (fun K hK => ?_)
              · skip
                refine goes_ Try.func25 (by kernel_rfl) rfl #[.slice Av plan.length cv] (by rfl) rfl rfl (by (try simp only [List.map_toArray, List.map_cons, List.map_nil]); first | done | rfl) ?_
                refine (slices_Clone_int_int.calls Av cv plan plan wd (Kd.C_below HVC.out HBd.out) hvl HCL.out).mono ?_
                rintro e w3 ⟨v1, rfl, ho_, hb_⟩
                refine ⟨_, rfl, ?_⟩
                have HB3 := Aside0.mk (below_step HBd.out hb_)
                have HR1 := Aside0.mk (row_fresh1 ho_ (below_size HBd.out) HLT.out)
                clear hb_ ho_
                refine hK.out _ _ (cell_under hc5r HB3.out) (fun hHeld => ?_)
                clear hK K
                refine norm_ (a' := ?_) ?_ ?_
                rotate_left
                · show Act.put _ (some 42) _ = _
                  simp only [Act.put, List.setIfInBounds_toArray, List.set_cons_zero, List.set_cons_succ, i64_w, i32_w]
                  rfl
                refine one_ (i := 4) (N := some 44) #[true, true, true, true, true, false, false] rfl rfl (by kernel_rfl) (by decide) (fun K hK => ?_)
                refine Kd.R_lit_step (Kd.int .i64) _ 3 ?hg (N := 44) ?hd (xs := ([(i : Int)] : List Int)) (inner := [.int .i64 (i : Int)]) (ok := fun _ => True) (okp := fun _ => True) ?hr ?hp (fun _ hk => hk) trivial (Below.refl _ _) (Nat.le_refl _) (by simp) ?_; (case hd => rfl); (case hg => rfl); (case hr => first | (go_simp; done) | (go_simp; rfl)); (case hp => exact (Reps.one (show Kd.M (Kd.int .i64) _ _ _ (i : Int) [.int .i64 (i : Int)] from rfl) (Reps.none _ _)))
                intro v2 w4 ho_ hb_ hg_ hnew_
                clear hg_ hnew_
                have HB4 := Aside0.mk (below_step HB3.out hb_)
                have HR2 := Aside0.mk (Kd.R_below HR1.out hb_)
                obtain ⟨A2, c9, rfl, hc2_, hC2⟩ := Kd.R_reads ho_
                clear hb_ ho_
                refine hK.out _ _ (cell_under hc5r HB4.out) (fun hHeld => ?_)
                clear hK K
                refine norm_ (a' := ?_) ?_ ?_
                rotate_left
                · show Act.put _ (some 44) _ = _
                  simp only [Act.put, List.setIfInBounds_toArray, List.set_cons_zero, List.set_cons_succ, i64_w, i32_w]
                  rfl
                exact norm_ (by simp only [putAll, Act.put, List.setIfInBounds_toArray, List.set_cons_zero, List.set_cons_succ]; rfl) (hCont (v1, A2, c9) _ ⟨hHeld, HR2.out, hC2, HB4.out⟩)
              · skip
                refine Kd.R_lit_step (Kd.int .i64) _ 3 ?hg (N := 44) ?hd (xs := ([(i : Int)] : List Int)) (inner := [.int .i64 (i : Int)]) (ok := fun _ => True) (okp := fun _ => True) ?hr ?hp (fun _ hk => hk) trivial (Below.refl _ _) (Nat.le_refl _) (by simp) ?_; (case hd => rfl); (case hg => rfl); (case hr => first | (go_simp; done) | (go_simp; rfl)); (case hp => exact (Reps.one (show Kd.M (Kd.int .i64) _ _ _ (i : Int) [.int .i64 (i : Int)] from rfl) (Reps.none _ _)))
                intro v2 w3 ho_ hb_ hg_ hnew_
                clear hg_ hnew_
                have HB3 := Aside0.mk (below_step HBd.out hb_)
                obtain ⟨A2, c9, rfl, hc2_, hC2⟩ := Kd.R_reads ho_
                have HC2 := Aside0.mk hC2
                clear hb_ ho_ hC2
                refine hK.out _ _ (cell_under hc5r HB3.out) (fun hHeld => ?_)
                clear hK K
                refine norm_ (a' := ?_) ?_ ?_
                rotate_left
                · show Act.put _ (some 44) _ = _
                  simp only [Act.put, List.setIfInBounds_toArray, List.set_cons_zero, List.set_cons_succ, i64_w, i32_w]
                  rfl
                refine one_ (i := 2) (N := some 42) #[true, true, true, true, true, false, false] rfl rfl (by kernel_rfl) (by decide) (fun K hK => ?_)
                refine goes_ Try.func25 (by kernel_rfl) rfl #[.slice Av plan.length cv] (by rfl) rfl rfl (by (try simp only [List.map_toArray, List.map_cons, List.map_nil]); first | done | rfl) ?_
                refine (slices_Clone_int_int.calls Av cv plan plan w3 (Kd.C_below HVC.out HB3.out) hvl HCL.out).mono ?_
                rintro e w4 ⟨v1, rfl, ho_, hb_⟩
                refine ⟨_, rfl, ?_⟩
                have HB4 := Aside0.mk (below_step HB3.out hb_)
                have HR1 := Aside0.mk (row_fresh1 ho_ (below_size HB3.out) HLT.out)
                have HC3 := Aside0.mk (Kd.C_below HC2.out hb_)
                clear hb_ ho_
                refine hK.out _ _ (cell_under hc5r HB4.out) (fun hHeld => ?_)
                clear hK K
                refine norm_ (a' := ?_) ?_ ?_
                rotate_left
                · show Act.put _ (some 42) _ = _
                  simp only [Act.put, List.setIfInBounds_toArray, List.set_cons_zero, List.set_cons_succ, i64_w, i32_w]
                  rfl
                exact norm_ (by simp only [putAll, Act.put, List.setIfInBounds_toArray, List.set_cons_zero, List.set_cons_succ]; rfl) (hCont (v1, A2, c9) _ ⟨hHeld, HR1.out, HC3.out, HB4.out⟩)
            rintro ⟨v1, A2, c9⟩ w4 ⟨hHeld, hR1, hC2, hB4⟩
            have HR1 := Aside0.mk hR1
            have HC2 := Aside0.mk hC2
            have HB4 := Aside0.mk hB4
            clear hR1 hC2 hB4
            refine norm_ (a' := ?_) ?_ ?_
            rotate_left
            · simp only [putAll, Act.put, List.setIfInBounds_toArray, List.set_cons_zero, List.set_cons_succ]
              rfl
            refine one_ (i := 5) (N := some 45) #[true, true, true, true, true, true, false] rfl rfl (by kernel_rfl) (by decide) (fun K hK => ?_)
            refine Kd.R_append_rows_step (Kd.int .i64) (w0 := wr) wr.heap.size (by rfl) (.tmp 42) (.tmp 44) 22 3 (.int .i64 0) 8 rfl Try.underlying22 info3 rfl (by decide) (by omega) v1 plan [(i : Int)] A2 1 c9 (fun k => k ≠ gb) (fun _ => False) rfl rfl HR1.out HC2.out (fun _ _ h => h) (fun _ h => h.elim) (fun k hk => ?_) HB4.out (below_size HB4.out) (by first | omega | (simp only [List.length_cons, List.length_nil]; omega) | (simp; omega)) ?_
            · have h1 := HLT.out
              have h2 := below_size HB4.out
              omega
            intro v3 w5 hr3 hb5 hg5 hat5
            clear hg5 hat5
            have HR3 := Aside0.mk hr3
            have HB5 := Aside0.mk hb5
            clear hr3 hb5
            refine hK.out _ _ (cell_under hc5r HB5.out) (fun hHeld => ?_)
            clear hK K
            refine norm_ (a' := ?_) ?_ ?_
            rotate_left
            · show Act.put _ (some 45) _ = _
              simp only [Act.put, List.setIfInBounds_toArray, List.set_cons_zero, List.set_cons_succ, i64_w, i32_w]
              rfl
            refine one_ (i := 6) (N := some 46) #[true, true, true, true, true, true, true] rfl rfl (by kernel_rfl) (by decide) (fun K hK => ?_)
            refine call_ 23 #[v3, .pointer (some ⟨bg, 0, none⟩), .pointer (some ⟨be, 0, none⟩), .pointer (some ⟨bp, 0, none⟩), .pointer (some ⟨br, 0, none⟩), .pointer (some ⟨bc, 0, none⟩)] (by rfl) rfl (by unfold execOp; simp [coverFn, resolve, Deferred.ofValue, invoke, Act.eval, egw]) ?_
            refine (IH (plan ++ [(i : Int)]) s' v3 w5 (below_then HBr.out HBr.out.size HB5.out) (CovB_kept HXr.out HO.out (Kept1.of_below HB5.out)) (Nat.lt_of_lt_of_le HLT.out (below_size HB5.out)) (hS _ _ _ HSr.out HB5.out) (Kd.R_lower HR3.out (below_size' HBr.out)) (by have := HD.out; rw [List.length_append, List.length_singleton]; omega) (mem_snoc HPL.out (by omega))).mono ?_
            rintro e w6 ⟨rfl, hS6, hK6⟩
            have HS6 := Aside0.mk hS6
            have HK6 := Aside0.mk (HKr.out.trans ((Kept1.of_below HB5.out).trans hK6))
            have HC6 := Aside0.mk (cell_kept1 hHeld HO.out.2.2.2.2 hK6)
            clear hS6 hK6
            refine ⟨_, rfl, ?_⟩
            refine hK.out _ _ HC6.out (fun hHeld => ?_)
            clear hK K
            refine norm_ (a' := ?_) ?_ ?_
            rotate_left
            · show Act.put _ (some 46) _ = _
              simp only [Act.put, List.setIfInBounds_toArray, List.set_cons_zero, List.set_cons_succ, i64_w, i32_w]
              rfl
            refine done_ (by kernel_rfl) ?_
            go_wp2_with fail
            go_roundg (planks.length - (i + 1))
            case measure => omega
            case rel => exact ⟨i + 1, _, by go_num, by omega, by omega, ⟨HTK.out c1 c2⟩, HS6, HK6⟩
        · have hd1 : decide (nd ≤ p) = false := decide_eq_false c1
          go_wp2_with fail
          refine start_ (n := 16) (S := fun w' => w'.cell? ⟨bg, 0, none⟩ = some (.slice (some adg) gaps.length cg) ∧ w'.cell? (adg.add plan.length) = some (.int .i64 gq) ∧ w'.cell? ⟨br, 0, none⟩ = some (.int .i64 rest)) (ds := []) #[false, false, false, false, false, false, false, false, false, false, false, false, false, false, false, false] mixedC rfl rfl ⟨hc1, hxg, hc4⟩ (fun hHeld => ?_)
          have HB1 := Aside0.mk (below_drew (Below.refl wr.heap.size wr))
          generalize wr.drew = wd at HB1 hHeld ⊢
          refine pure_ (i := 0) (N := some 24) (v := ?_) (a' := ?_) #[true, false, false, false, false, false, false, false, false, false, false, false, false, false, false, false] rfl rfl (by kernel_rfl) (fun _ _ _ h => h) (Or.inl ⟨by rfl, ?_⟩) ?_ ?_
          rotate_left
          · intro w'
            go_simp
            with_reducible rfl
          rotate_left
          · simp only [Act.put, List.setIfInBounds_toArray, List.set_cons_zero, List.set_cons_succ, i64_w, i32_w]
            rfl
          refine take_ (i := 1) (N := some 25) (v := ?_) (a' := ?_) #[true, true, false, false, false, false, false, false, false, false, false, false, false, false, false, false] rfl rfl (by kernel_rfl) (fun _ _ _ h => h) (Or.inl ⟨by rfl, ?_⟩) hHeld ?_ ?_
          rotate_left
          · rintro w' ⟨s0, s1, s2⟩
            go_simp
            with_reducible rfl
          rotate_left
          · simp only [Act.put, List.setIfInBounds_toArray, List.set_cons_zero, List.set_cons_succ, i64_w, i32_w]
            rfl
          refine pure_ (i := 2) (N := some 26) (v := ?_) (a' := ?_) #[true, true, true, false, false, false, false, false, false, false, false, false, false, false, false, false] rfl rfl (by kernel_rfl) (fun _ _ _ h => h) (Or.inl ⟨by rfl, ?_⟩) ?_ ?_
          rotate_left
          · intro w'
            go_simp
            with_reducible rfl
          rotate_left
          · simp only [Act.put, List.setIfInBounds_toArray, List.set_cons_zero, List.set_cons_succ, i64_w, i32_w]
            rfl
          refine pure_ (i := 3) (N := some 27) (v := ?_) (a' := ?_) #[true, true, true, true, false, false, false, false, false, false, false, false, false, false, false, false] rfl rfl (by kernel_rfl) (fun _ _ _ h => h) (Or.inl ⟨by rfl, ?_⟩) ?_ ?_
          rotate_left
          · intro w'
            go_simp
            with_reducible rfl
          rotate_left
          · simp only [Act.put, List.setIfInBounds_toArray, List.set_cons_zero, List.set_cons_succ, i64_w, i32_w]
            rfl
          refine pure_ (i := 4) (N := some 28) (v := .pointer (some (adg.add plan.length))) (a' := ?_) #[true, true, true, true, true, false, false, false, false, false, false, false, false, false, false, false] rfl rfl (by kernel_rfl) (fun _ _ _ h => h) (Or.inl ⟨by rfl, ?_⟩) ?_ ?_
          · intro w'
            first | (go_simp; done) | (go_simp; rfl) | (go_simp; with_reducible rfl)
          rotate_left
          · simp only [Act.put, List.setIfInBounds_toArray, List.set_cons_zero, List.set_cons_succ, i64_w, i32_w]
            rfl
          refine take_ (i := 5) (N := some 29) (v := ?_) (a' := ?_) #[true, true, true, true, true, true, false, false, false, false, false, false, false, false, false, false] rfl rfl (by kernel_rfl) (fun _ _ _ h => h) (Or.inl ⟨by rfl, ?_⟩) hHeld ?_ ?_
          rotate_left
          · rintro w' ⟨s0, s1, s2⟩
            go_simp
            with_reducible rfl
          rotate_left
          · simp only [Act.put, List.setIfInBounds_toArray, List.set_cons_zero, List.set_cons_succ, i64_w, i32_w]
            rfl
          refine take_ (i := 6) (N := some 30) (v := ?_) (a' := ?_) #[true, true, true, true, true, true, true, false, false, false, false, false, false, false, false, false] rfl rfl (by kernel_rfl) (fun _ _ _ h => h) (Or.inl ⟨by rfl, ?_⟩) hHeld ?_ ?_
          rotate_left
          · rintro w' ⟨s0, s1, s2⟩
            go_simp
            with_reducible rfl
          rotate_left
          · simp only [Act.put, List.setIfInBounds_toArray, List.set_cons_zero, List.set_cons_succ, i64_w, i32_w]
            rfl
          refine pure_ (i := 7) (N := some 31) (v := ?_) (a' := ?_) #[true, true, true, true, true, true, true, true, false, false, false, false, false, false, false, false] rfl rfl (by kernel_rfl) (fun _ _ _ h => h) (Or.inl ⟨by rfl, ?_⟩) ?_ ?_
          rotate_left
          · intro w'
            go_simp
            with_reducible rfl
          rotate_left
          · simp only [Act.put, List.setIfInBounds_toArray, List.set_cons_zero, List.set_cons_succ, i64_w, i32_w]
            rfl
          refine pure_ (i := 8) (N := some 32) (v := .int .i64 nd) (a' := ?_) #[true, true, true, true, true, true, true, true, true, false, false, false, false, false, false, false] rfl rfl (by kernel_rfl) (fun _ _ _ h => h) (Or.inl ⟨by rfl, ?_⟩) ?_ ?_
          · intro w'
            first | (go_simp; done) | (go_simp; exact hwr2) | (go_simp; rfl)
          rotate_left
          · simp only [Act.put, List.setIfInBounds_toArray, List.set_cons_zero, List.set_cons_succ, i64_w, i32_w]
            rfl
          refine pure_ (i := 9) (N := some 33) (v := .bool false) (a' := ?_) #[true, true, true, true, true, true, true, true, true, true, false, false, false, false, false, false] rfl rfl (by kernel_rfl) (fun _ _ _ h => h) (Or.inl ⟨by rfl, ?_⟩) ?_ ?_
          · intro w'
            first | (go_simp; done) | (go_simp; simp only [hd1]; done) | (go_simp; simp only [hd1]; rfl) | (go_simp; rfl)
          rotate_left
          · simp only [Act.put, List.setIfInBounds_toArray, List.set_cons_zero, List.set_cons_succ, i64_w, i32_w]
            rfl
          refine pure_ (i := 10) (N := some 34) (v := ?_) (a' := ?_) #[true, true, true, true, true, true, true, true, true, true, true, false, false, false, false, false] rfl rfl (by kernel_rfl) (fun _ _ _ h => h) (Or.inl ⟨by rfl, ?_⟩) ?_ ?_
          rotate_left
          · intro w'
            go_simp
            with_reducible rfl
          rotate_left
          · simp only [Act.put, List.setIfInBounds_toArray, List.set_cons_zero, List.set_cons_succ, i64_w, i32_w]
            rfl
          refine pure_ (i := 11) (N := some 35) (v := undef) (a' := ?_) #[true, true, true, true, true, true, true, true, true, true, true, true, false, false, false, false] rfl rfl (by kernel_rfl) (fun _ _ _ h => h) (Or.inr ⟨by rfl, rfl⟩) ?_ ?_
          rotate_left
          · simp only [Act.put, List.setIfInBounds_toArray, List.set_cons_zero, List.set_cons_succ, i64_w, i32_w]
            rfl
          refine pure_ (i := 12) (N := some 36) (v := undef) (a' := ?_) #[true, true, true, true, true, true, true, true, true, true, true, true, true, false, false, false] rfl rfl (by kernel_rfl) (fun _ _ _ h => h) (Or.inr ⟨by rfl, rfl⟩) ?_ ?_
          rotate_left
          · simp only [Act.put, List.setIfInBounds_toArray, List.set_cons_zero, List.set_cons_succ, i64_w, i32_w]
            rfl
          refine pure_ (i := 13) (N := some 37) (v := undef) (a' := ?_) #[true, true, true, true, true, true, true, true, true, true, true, true, true, true, false, false] rfl rfl (by kernel_rfl) (fun _ _ _ h => h) (Or.inr ⟨by rfl, rfl⟩) ?_ ?_
          rotate_left
          · simp only [Act.put, List.setIfInBounds_toArray, List.set_cons_zero, List.set_cons_succ, i64_w, i32_w]
            rfl
          refine pure_ (i := 14) (N := some 38) (v := undef) (a' := ?_) #[true, true, true, true, true, true, true, true, true, true, true, true, true, true, true, false] rfl rfl (by kernel_rfl) (fun _ _ _ h => h) (Or.inr ⟨by rfl, rfl⟩) ?_ ?_
          rotate_left
          · simp only [Act.put, List.setIfInBounds_toArray, List.set_cons_zero, List.set_cons_succ, i64_w, i32_w]
            rfl
          refine pure_ (i := 15) (N := some 39) (v := .bool false) (a' := ?_) #[true, true, true, true, true, true, true, true, true, true, true, true, true, true, true, true] rfl rfl (by kernel_rfl) (fun _ _ _ h => h) (Or.inl ⟨by rfl, ?_⟩) ?_ ?_
          · intro w'
            first | (go_simp; done) | (go_simp; simp only [hd1]; done) | (go_simp; simp only [hd1]; rfl) | (go_simp; rfl)
          rotate_left
          · simp only [Act.put, List.setIfInBounds_toArray, List.set_cons_zero, List.set_cons_succ, i64_w, i32_w]
            rfl
          refine done_ (by kernel_rfl) ?_
          have HB2 := HB1
          go_wp2_with fail
          go_roundg (planks.length - (i + 1))
          case measure => omega
          case rel => exact ⟨i + 1, s', by go_num, by omega, by omega, ⟨HSK.out (fun h => by omega)⟩, ⟨hS _ _ _ HSr.out HB2.out⟩, ⟨HKr.out.trans (Kept1.of_below HB2.out)⟩⟩
      · obtain rfl : i = planks.length := by omega
        have hF := HF.out
        rw [List.drop_length, covsAt, List.foldl_nil] at hF
        have HF2 := Aside0.mk hF
        clear hF
        go_wp2
        go_end0
        exact ⟨rfl, by rw [← HF2.out]; exact HSr.out, HKr.out⟩
theorem cov_start (w : World) (gv pv : Value) (rest : Int) (ev : Value) : let s := w.heap.size; let W := ((((w.alloc (.cells #[gv] 22 (0, 0))).alloc (.cells #[pv] 22 (0, 0))).alloc (.cells #[.int .i64 rest] 3 (0, 0))).alloc (.cells #[ev] 36 (0, 0))).alloc (.cells #[coverFn s (s + 1 + 1 + 1) (s + 1) (s + 1 + 1) (s + 1 + 1 + 1 + 1)] 36 (0, 0));
    CovB s (s + 1 + 1 + 1) (s + 1) (s + 1 + 1) (s + 1 + 1 + 1 + 1) gv ev pv rest W ∧ Below s w W := by
  intro s W
  have hs : ∀ (u : World) (o : Obj), (u.alloc o).heap.size = u.heap.size + 1 := fun u o => by simp
  have b0 : Below s w w := Below.refl _ _
  refine ⟨⟨?_, ?_, ?_, ?_, ?_⟩, ?_⟩
  · exact (blk_alloc (blk_alloc (blk_alloc (blk_alloc (blk_new w _) _) _) _) _)
  · refine (blk_alloc ?_ _)
    have := blk_new (((w.alloc (.cells #[gv] 22 (0, 0))).alloc (.cells #[pv] 22 (0, 0))).alloc (.cells #[.int .i64 rest] 3 (0, 0))) (.cells #[ev] 36 (0, 0))
    rwa [hs, hs, hs] at this
  · refine (blk_alloc (blk_alloc (blk_alloc ?_ _) _) _)
    have := blk_new (w.alloc (.cells #[gv] 22 (0, 0))) (.cells #[pv] 22 (0, 0))
    rwa [hs] at this
  · refine (blk_alloc (blk_alloc ?_ _) _)
    have := blk_new ((w.alloc (.cells #[gv] 22 (0, 0))).alloc (.cells #[pv] 22 (0, 0))) (.cells #[.int .i64 rest] 3 (0, 0))
    rwa [hs, hs] at this
  · have := blk_new ((((w.alloc (.cells #[gv] 22 (0, 0))).alloc (.cells #[pv] 22 (0, 0))).alloc (.cells #[.int .i64 rest] 3 (0, 0))).alloc (.cells #[ev] 36 (0, 0))) (.cells #[coverFn s (s + 1 + 1 + 1) (s + 1) (s + 1 + 1) (s + 1 + 1 + 1 + 1)] 36 (0, 0))
    rwa [hs, hs, hs, hs] at this
  · exact (((((b0.alloc (Nat.le_refl _) _).alloc (by simp only [hs]; omega) _).alloc (by simp only [hs]; omega) _).alloc (by simp only [hs]; omega) _).alloc (by simp only [hs]; omega) _)
set_option maxHeartbeats 4000000 in
set_option maxRecDepth 100000 in
theorem coverings_calls {σ : Type} (w0 : World) (gaps planks : List Int) (rest : Int) (Ag Ap : Option Addr) (cg cp : Nat) (hCg : Kd.C (Kd.int .i64) w0 Ag gaps.length gaps) (hcg : gaps.length ≤ cg) (hCp : Kd.C (Kd.int .i64) w0 Ap planks.length planks) (hcp : planks.length ≤ cp) (hgl : gaps.length ≤ 100) (hpl : planks.length ≤ 100)
    (gb g : Nat) (lb : Array Value) (egg : ∀ args w, (callFunc g args).run Try.prog w = .ok (.enter g args) w) (hgb : w0.heap.size ≤ gb) (f : σ → List Int → σ) (St : σ → World → Prop) (hS : ∀ s W W', St s W → Below W.heap.size W W' → St s W')
    (hE : ∀ (s : σ) (plan : List Int) (v : Value) (W : World), Below w0.heap.size w0 W → gb < W.heap.size → St s W → Kd.R (Kd.int .i64) 3 W w0.heap.size (fun k => k ≠ gb) v plan → plan.length = gaps.length → (∀ x ∈ plan, 0 ≤ x ∧ x < (planks.length : Int)) → Calls Try.prog g (#[v] ++ lb) W fun e w' => e = .returned (.tuple #[]) ∧ St (f s plan) w' ∧ Kept1 gb W w')
    (s : σ) (W : World) (hB : Below w0.heap.size w0 W) (hlt : gb < W.heap.size) (hs : St s W) :
      Calls Try.prog 16 #[.slice Ag gaps.length cg, .slice Ap planks.length cp, .int .i64 rest, .func (.func g) #[] lb] W fun e w' => e = .returned (.tuple #[]) ∧ St ((covs gaps planks rest gaps.length []).foldl f s) w' ∧ Kept1 gb W w' := by
  have egw : ∀ args w, (callFunc 23 args).run Try.prog w = .ok (.enter 23 args) w := enters_ Try.func23 (by kernel_rfl) rfl
  have HS := Aside0.mk (cov_start W (.slice Ag gaps.length cg) (.slice Ap planks.length cp) rest (.func (.func g) #[] lb))
  have HT := Aside0.mk hs
  have HL := Aside0.mk hlt
  have HB := Aside0.mk hB
  clear hs hlt hB
  go_enter Try.func16, Try.ntmps16
  go_wp2_with fail
  rw [run_store (hv := by rfl)]
  go_simp
  go_wp2_with (go_at_fn 23; go_loud (refine (cover_calls w0 gaps planks rest Ag Ap cg cp hCg hcg hCp hcp hgl hpl W.heap.size (W.heap.size + 1 + 1 + 1) (W.heap.size + 1) (W.heap.size + 1 + 1) (W.heap.size + 1 + 1 + 1 + 1) gb g lb egg (by have := HL.out; unfold Off5; omega) hgb f St hS hE gaps.length [] s (.slice none 0 0) _ (below_then HB.out HB.out.size HS.out.2) HS.out.1 (Nat.lt_of_lt_of_le HL.out HS.out.2.size) (hS _ _ _ HT.out HS.out.2) (Kd.R_nil _ _ _ _ _) (by simp) (by simp)).mono ?_; rintro e w' ⟨rfl, hx1, hx2⟩; have HX1 := Aside0.mk hx1; have HX2 := Aside0.mk ((Kept1.of_below HS.out.2).trans hx2); clear hx1 hx2))
  go_end0
  exact ⟨rfl, HX1.out, HX2.out⟩
/-- The first covering's variable. -/
def FirstSt (B gb : Nat) (s : List Int) (W : World) : Prop := ∃ u, W.heap[gb]? = some (.cells #[u] 22 (0, 0)) ∧ Kd.R (Kd.int .i64) 3 W B (fun k => k ≠ gb) u s ∧ (s = [] → u = .slice none 0 0)
theorem FirstSt_below {B gb : Nat} {s : List Int} {W W' : World} (h : FirstSt B gb s W) (hb : Below W.heap.size W W') : FirstSt B gb s W' := by
  obtain ⟨u, h1, h2, h3⟩ := h
  exact ⟨u, blk_below h1 hb, Kd.R_below h2 hb, h3⟩
set_option maxHeartbeats 4000000 in
set_option maxRecDepth 100000 in
theorem first_each (w0 : World) (gb : Nat) (s plan : List Int) (v : Value) (W : World) (hlt : gb < W.heap.size) (hs : FirstSt w0.heap.size gb s W) (hv : Kd.R (Kd.int .i64) 3 W w0.heap.size (fun k => k ≠ gb) v plan) (hl : 0 < plan.length) :
    Calls Try.prog 18 (#[v] ++ #[.pointer (some ⟨gb, 0, none⟩)]) W fun e w' => e = .returned (.tuple #[]) ∧ FirstSt w0.heap.size gb (if s = [] then plan else s) w' ∧ Kept1 gb W w' := by
  show Calls Try.prog 18 #[v, .pointer (some ⟨gb, 0, none⟩)] W _
  obtain ⟨u, hb, hu, hn⟩ := hs
  obtain ⟨Av, cv, rfl, hvl, hvC⟩ := Kd.R_reads hv
  have HV := Aside0.mk hv
  have HU := Aside0.mk hu
  have HBO := Aside0.mk hb
  have HN := Aside0.mk hn
  have hq := fun (w : World) (a : Option Addr) (n c n' c' : Nat) => Go.Lib.run_eql_slice_nil (P := Try.prog) w 22 3 a n c n' c' Try.underlying22
  by_cases c : s = []
  · obtain rfl := hn c
    have hcb : W.cell? ⟨gb, 0, none⟩ = some (.slice none 0 0) := (blk_cell hb 0).trans rfl
    have hfz : W.frozen? ⟨gb, 0, none⟩ = false := blk_frozen hb 0
    clear hb hu hn hv hvC
    rw [if_pos c]
    go_enter Try.func18, Try.ntmps18
    go_wp2
    go_end0
    exact ⟨rfl, ⟨_, blk_put HBO.out 0 _ rfl, Kd.R_far HV.out (p := ⟨gb, 0, none⟩) (fun k hk => hk) _, fun h => by rw [h] at hl; simp at hl⟩, Kept1.set_ 0 _⟩
  · obtain ⟨g, cap, rfl, _, _, _⟩ := Kd.R_form hu (List.length_pos_iff.2 c)
    have hcb : W.cell? ⟨gb, 0, none⟩ = some (.slice (some ⟨g, 0, none⟩) s.length cap) := (blk_cell hb 0).trans rfl
    clear hb hu hn hv hvC
    rw [if_neg c]
    go_enter Try.func18, Try.ntmps18
    go_wp2
    go_end0
    exact ⟨rfl, ⟨_, HBO.out, HU.out, fun h => absurd h c⟩, Kept1.refl _ _⟩
/-- The planks of a covering, summed. -/
def woodOf (planks : List Int) (a : Int) (plan : List Int) : Int := plan.foldl (fun a i => wrap64 (a + rd planks i)) a
/-- The least sum's variable, and the planks'. -/
def LeastSt (bq gb : Nat) (pv : Value) (s : Int) (W : World) : Prop := W.heap[gb]? = some (.cells #[.int .i64 s] 3 (0, 0)) ∧ W.heap[bq]? = some (.cells #[pv] 22 (0, 0))
theorem LeastSt_below {bq gb : Nat} {pv : Value} {s : Int} {W W' : World} (h : LeastSt bq gb pv s W) (hb : Below W.heap.size W W') : LeastSt bq gb pv s W' := ⟨blk_below h.1 hb, blk_below h.2 hb⟩
set_option maxHeartbeats 8000000 in
set_option maxRecDepth 100000 in
theorem least_each (w0 : World) (planks : List Int) (Ap : Option Addr) (cp : Nat) (hCp : Kd.C (Kd.int .i64) w0 Ap planks.length planks) (hcp : planks.length ≤ cp) (hpl : planks.length ≤ 100) (bq gb : Nat) (s : Int) (plan : List Int) (v : Value) (W : World) (hB : Below w0.heap.size w0 W) (hlt : gb < W.heap.size) (hs : LeastSt bq gb (.slice Ap planks.length cp) s W) (hv : Kd.R (Kd.int .i64) 3 W w0.heap.size (fun k => k ≠ gb) v plan) (hl : plan.length ≤ 100) (hp : ∀ x ∈ plan, 0 ≤ x ∧ x < (planks.length : Int)) :
    Calls Try.prog 17 (#[v] ++ #[.pointer (some ⟨bq, 0, none⟩), .pointer (some ⟨gb, 0, none⟩)]) W fun e w' => e = .returned (.tuple #[]) ∧ LeastSt bq gb (.slice Ap planks.length cp) (if s ≤ woodOf planks 0 plan then s else woodOf planks 0 plan) w' ∧ Kept1 gb W w' := by
  show Calls Try.prog 17 #[v, .pointer (some ⟨bq, 0, none⟩), .pointer (some ⟨gb, 0, none⟩)] W _
  obtain ⟨m, hm⟩ : ∃ m, m = (if s ≤ woodOf planks 0 plan then s else woodOf planks 0 plan) := ⟨_, rfl⟩
  rw [← hm]
  have HM := Aside0.mk hm
  clear hm
  obtain ⟨hb, hq⟩ := hs
  obtain ⟨Av, cv, rfl, hvl, hvC⟩ := Kd.R_reads hv
  have HCp := Aside0.mk (C_belowB hCp hB)
  have HCv := Aside0.mk hvC
  have HBO := Aside0.mk hb
  have HBQ := Aside0.mk hq
  have hcb : W.cell? ⟨gb, 0, none⟩ = some (.int .i64 s) := (blk_cell hb 0).trans rfl
  have hcq : W.cell? ⟨bq, 0, none⟩ = some (.slice Ap planks.length cp) := (blk_cell hq 0).trans rfl
  have hfz : W.frozen? ⟨gb, 0, none⟩ = false := blk_frozen hb 0
  have HP := Aside0.mk hp
  have hne : bq ≠ gb := blk_ne hq hb (by decide)
  clear hb hq hv hvC hCp hB hp
  go_enter Try.func17, Try.ntmps17
  go_wp2
  go_loopg [4, 9] plan.length (fun gg v4 v9 wr => wr = W ∧ ∃ (i : Nat) (a : Int), v4 = .int .i64 a ∧ v9 = .int .i64 i ∧ i ≤ plan.length ∧ plan.length - i ≤ gg ∧ Aside0 (woodOf planks a (plan.drop i) = woodOf planks 0 plan))
  case atStart => exact ⟨rfl, 0, 0, rfl, rfl, Nat.zero_le _, by omega, ⟨rfl⟩⟩
  case round =>
    obtain ⟨rfl, i, a, rfl, rfl, hi, hg, HF⟩ := hrel
    by_cases hlt' : i < plan.length
    · have hltz : (i : Int) < (plan.length : Int) := by omega
      have hdr : plan.drop i = rd plan (i : Int) :: plan.drop (i + 1) := by
        rw [List.drop_eq_getElem_cons hlt']
        congr 1
        simp [rd, List.getD_eq_getElem?_getD, List.getElem?_eq_getElem hlt']
      have hmem : rd plan (i : Int) ∈ plan := by
        have h_ : rd plan (i : Int) ∈ plan.drop i := by rw [hdr]; simp
        exact List.mem_of_mem_drop h_
      obtain ⟨x, hx⟩ : ∃ x, x = rd plan (i : Int) := ⟨_, rfl⟩
      rw [← hx] at hdr hmem
      obtain ⟨hx0, hx1⟩ := HP.out x hmem
      obtain ⟨adv, hAv, hxv⟩ := Kd.at_int HCv.out (i : Int) (by omega) (by omega)
      obtain ⟨adp, hAp, hxp⟩ := Kd.at_int HCp.out x hx0 hx1
      subst hAp
      subst hAv
      rw [← hx] at hxv
      rw [Int.toNat_natCast] at hxv
      have hF := HF.out
      rw [hdr, woodOf, List.foldl_cons] at hF
      have HFF := Aside0.mk hF
      clear hF HF hx hdr hmem
      go_wp2
      go_roundg (plan.length - (i + 1))
      case measure => omega
      case rel => exact ⟨rfl, i + 1, wrap64 (a + rd planks x), by go_num, by go_num, by omega, by omega, HFF⟩
    · obtain rfl : i = plan.length := by omega
      have hF := HF.out
      rw [List.drop_length, woodOf, List.foldl_nil] at hF
      have HFF := Aside0.mk hF
      clear hF HF
      by_cases c : s ≤ a
      · go_wp2
        go_end0
        exact ⟨rfl, ⟨(blk_put HBO.out 0 _ rfl).trans (by rw [HM.out, ← HFF.out, if_pos c]; first | rfl | (rw [Int.min_eq_left c]; rfl)), blk_far HBQ.out (p := ⟨gb, 0, none⟩) hne _⟩, Kept1.set_ 0 _⟩
      · go_wp2
        go_end0
        exact ⟨rfl, ⟨(blk_put HBO.out 0 _ rfl).trans (by rw [HM.out, ← HFF.out, if_neg (by omega)]; first | rfl | (rw [Int.min_eq_right (by omega)]; rfl)), blk_far HBQ.out (p := ⟨gb, 0, none⟩) hne _⟩, Kept1.set_ 0 _⟩
def impl_LeastWood.f (k : Nat) (l0 : List Int) (l1 : List Int) (a2 : Int) : Option (Int × Bool) := (impl_CanCoverAll.f k l0 l1 a2).bind fun c => if c.1 = true then (if l0.length ≤ 100 ∧ l1.length ≤ 100 then some ((covs l0 l1 a2 l0.length []).foldl (fun s p => if s ≤ woodOf l1 0 p then s else woodOf l1 0 p) 700, true) else none) else some (0, false)
theorem impl_LeastWood.mono : ∀ a0 a1 a2 k, LeO (impl_LeastWood.f k a0 a1 a2) (impl_LeastWood.f (k + 1) a0 a1 a2) := fun a0 a1 a2 k => LeO.bind (impl_CanCoverAll.mono a0 a1 a2 k) (fun _ => LeO.refl _)
set_option maxHeartbeats 8000000 in
set_option maxRecDepth 100000 in
theorem impl_LeastWood.calls (k : Nat) (A0 : Option Addr) (c0 : Nat) (l0 : List Int) (A1 : Option Addr) (c1 : Nat) (l1 : List Int) (a2 : Int) (r1 : Int) (r2 : Bool) (w : World) (hr0 : Kd.C (Kd.int .i64) w A0 l0.length l0) (hc0 : l0.length ≤ c0) (hr1 : Kd.C (Kd.int .i64) w A1 l1.length l1) (hc1 : l1.length ≤ c1) (h : impl_LeastWood.f k l0 l1 a2 = some (r1, r2)) :
    Calls Try.prog 7 #[.slice A0 l0.length c0, .slice A1 l1.length c1, .int .i64 a2] w fun e w' => e = .returned (.tuple #[.int .i64 r1, .bool r2]) ∧ Below w.heap.size w w' := by
  obtain ⟨⟨b1, b2⟩, hA, h⟩ := Option.bind_eq_some_iff.mp h
  have HR0 := Aside0.mk hr0
  have HR1 := Aside0.mk hr1
  have HA := Aside0.mk hA
  clear hr0 hr1 hA
  have HQ0 := Aside0.mk (blk_new w (.cells #[.slice A1 l1.length c1] 22 (0, 0)))
  have HAL := Aside0.mk (below_alloc (Below.refl w.heap.size w) (.cells #[.slice A1 l1.length c1] 22 (0, 0)))
  cases b1 with
  | false =>
    simp only [Bool.false_eq_true, if_false] at h
    cases h
    go_enter Try.func7, Try.ntmps7
    go_wp2_with (go_at_call 15; refine (impl_CanCoverAll.calls k A0 c0 l0 A1 c1 l1 a2 false b2 _ (Kd.C_alloc HR0.out _) hc0 (Kd.C_alloc HR1.out _) hc1 HA.out).mono ?_; rintro e w1 ⟨rfl, hb_⟩; have HB1 := Aside0.mk (below_step HAL.out hb_); have HQ1 := Aside0.mk (blk_below HQ0.out hb_); have hcq : w1.cell? ⟨w.heap.size, 0, none⟩ = some (.slice A1 l1.length c1) := (blk_cell HQ1.out 0).trans rfl; have HQ2 := Aside0.mk (blk_alloc HQ1.out (.cells #[.int .i64 700] 3 (0, 0))); have hcq2 : (w1.alloc (.cells #[.int .i64 700] 3 (0, 0))).cell? ⟨w.heap.size, 0, none⟩ = some (.slice A1 l1.length c1) := (blk_cell HQ2.out 0).trans rfl; have HN2 := Aside0.mk (blk_new w1 (.cells #[.int .i64 700] 3 (0, 0))); have HB2 := Aside0.mk (HB1.out.alloc (below_size HB1.out) (.cells #[.int .i64 700] 3 (0, 0))); clear hb_)
    refine bodyPost_ret (results_tmp2 rfl _ _ _) rfl ?_
    exact ⟨rfl, HB1.out⟩
  | true =>
    simp only [if_true] at h
    by_cases hc : l0.length ≤ 100 ∧ l1.length ≤ 100
    · rw [if_pos hc] at h
      obtain ⟨h0, h1⟩ := hc
      cases h
      have egg : ∀ args w, (callFunc 17 args).run Try.prog w = .ok (.enter 17 args) w := enters_ Try.func17 (by kernel_rfl) rfl
      obtain ⟨rr, hrr⟩ : ∃ rr, rr = (covs l0 l1 a2 l0.length []).foldl (fun s p => if s ≤ woodOf l1 0 p then s else woodOf l1 0 p) 700 := ⟨_, rfl⟩
      rw [← hrr]
      have HRR := Aside0.mk hrr
      clear hrr
      go_enter Try.func7, Try.ntmps7
      go_wp2_with (first | (go_at_call 15; refine (impl_CanCoverAll.calls k A0 c0 l0 A1 c1 l1 a2 true b2 _ (Kd.C_alloc HR0.out _) hc0 (Kd.C_alloc HR1.out _) hc1 HA.out).mono ?_; rintro e w1 ⟨rfl, hb_⟩; have HB1 := Aside0.mk (below_step HAL.out hb_); have HQ1 := Aside0.mk (blk_below HQ0.out hb_); have hcq : w1.cell? ⟨w.heap.size, 0, none⟩ = some (.slice A1 l1.length c1) := (blk_cell HQ1.out 0).trans rfl; have HQ2 := Aside0.mk (blk_alloc HQ1.out (.cells #[.int .i64 700] 3 (0, 0))); have hcq2 : (w1.alloc (.cells #[.int .i64 700] 3 (0, 0))).cell? ⟨w.heap.size, 0, none⟩ = some (.slice A1 l1.length c1) := (blk_cell HQ2.out 0).trans rfl; have HN2 := Aside0.mk (blk_new w1 (.cells #[.int .i64 700] 3 (0, 0))); have HB2 := Aside0.mk (HB1.out.alloc (below_size HB1.out) (.cells #[.int .i64 700] 3 (0, 0))); clear hb_) | (go_at_call 16; go_loud (refine (coverings_calls w l0 l1 a2 A0 A1 c0 c1 HR0.out hc0 HR1.out hc1 h0 h1 w1.heap.size 17 _ egg HB1.out.size (fun s p => if s ≤ woodOf l1 0 p then s else woodOf l1 0 p) (LeastSt w.heap.size w1.heap.size (.slice A1 l1.length c1)) (fun _ _ _ h1_ h2_ => LeastSt_below h1_ h2_) (fun s plan v W hb1 hb2 hb3 hb4 hb5 hb6 => least_each w l1 A1 c1 HR1.out hc1 h1 w.heap.size w1.heap.size s plan v W hb1 hb2 hb3 hb4 (by omega) hb6) 700 _ HB2.out (by simp) ⟨HN2.out, HQ2.out⟩).mono ?_; rintro e w7 ⟨rfl, hs7, hk7⟩; rw [← HRR.out] at hs7; have hcb7 : w7.cell? ⟨w1.heap.size, 0, none⟩ = some (.int .i64 rr) := (blk_cell hs7.1 0).trans rfl; have HB7 := Aside0.mk (hk7.below HB2.out HB1.out.size (below_size HB2.out)); clear hs7 hk7)))
      refine bodyPost_ret (results_tmp2 rfl _ _ _) rfl ?_
      exact ⟨rfl, HB7.out⟩
    · rw [if_neg hc] at h
      cases h
def impl_FirstCovering.f (k : Nat) (l0 : List Int) (l1 : List Int) (a2 : Int) : Option (List Int × Bool) := (impl_CanCoverAll.f k l0 l1 a2).bind fun c => if c.1 = true then (if l0.length ≤ 100 ∧ l1.length ≤ 100 ∧ 0 < l0.length then some ((covs l0 l1 a2 l0.length []).foldl (fun s p => if s = [] then p else s) ([] : List Int), true) else none) else some ([], false)
theorem impl_FirstCovering.mono : ∀ a0 a1 a2 k, LeO (impl_FirstCovering.f k a0 a1 a2) (impl_FirstCovering.f (k + 1) a0 a1 a2) := fun a0 a1 a2 k => LeO.bind (impl_CanCoverAll.mono a0 a1 a2 k) (fun _ => LeO.refl _)
set_option maxHeartbeats 8000000 in
set_option maxRecDepth 100000 in
theorem impl_FirstCovering.calls (k : Nat) (A0 : Option Addr) (c0 : Nat) (l0 : List Int) (A1 : Option Addr) (c1 : Nat) (l1 : List Int) (a2 : Int) (r1 : List Int) (r2 : Bool) (w : World) (hr0 : Kd.C (Kd.int .i64) w A0 l0.length l0) (hc0 : l0.length ≤ c0) (hr1 : Kd.C (Kd.int .i64) w A1 l1.length l1) (hc1 : l1.length ≤ c1) (h : impl_FirstCovering.f k l0 l1 a2 = some (r1, r2)) :
    Calls Try.prog 10 #[.slice A0 l0.length c0, .slice A1 l1.length c1, .int .i64 a2] w fun e w' => ∃ v1_ : Value, e = .returned (.tuple #[v1_, .bool r2]) ∧ Kd.R (Kd.int .i64) 3 w' w.heap.size (fun _ => True) v1_ r1 ∧ Below w.heap.size w w' := by
  obtain ⟨⟨b1, b2⟩, hA, h⟩ := Option.bind_eq_some_iff.mp h
  have HR0 := Aside0.mk hr0
  have HR1 := Aside0.mk hr1
  have HA := Aside0.mk hA
  clear hr0 hr1 hA
  have HAL := Aside0.mk (Below.refl w.heap.size w)
  cases b1 with
  | false =>
    simp only [Bool.false_eq_true, if_false] at h
    cases h
    go_enter Try.func10, Try.ntmps10
    go_wp2_with (go_at_call 15; refine (impl_CanCoverAll.calls k A0 c0 l0 A1 c1 l1 a2 false b2 _ HR0.out hc0 HR1.out hc1 HA.out).mono ?_; rintro e w1 ⟨rfl, hb_⟩; have HB1 := Aside0.mk hb_; have HN2 := Aside0.mk (blk_new w1 (.cells #[.slice none 0 0] 22 (0, 0))); have HB2 := Aside0.mk (hb_.alloc (below_size hb_) (.cells #[.slice none 0 0] 22 (0, 0))); clear hb_)
    refine bodyPost_ret (results_tmp2 rfl _ _ _) rfl ?_
    exact ⟨_, rfl, Kd.R_nil _ _ _ _ _, HB1.out⟩
  | true =>
    simp only [if_true] at h
    by_cases hc : l0.length ≤ 100 ∧ l1.length ≤ 100 ∧ 0 < l0.length
    · rw [if_pos hc] at h
      obtain ⟨h0, h1, h2⟩ := hc
      cases h
      have egg : ∀ args w, (callFunc 18 args).run Try.prog w = .ok (.enter 18 args) w := enters_ Try.func18 (by kernel_rfl) rfl
      obtain ⟨rr, hrr⟩ : ∃ rr, rr = (covs l0 l1 a2 l0.length []).foldl (fun s p => if s = [] then p else s) ([] : List Int) := ⟨_, rfl⟩
      rw [← hrr]
      have HRR := Aside0.mk hrr
      clear hrr
      go_enter Try.func10, Try.ntmps10
      go_wp2_with (first | (go_at_call 15; refine (impl_CanCoverAll.calls k A0 c0 l0 A1 c1 l1 a2 true b2 _ HR0.out hc0 HR1.out hc1 HA.out).mono ?_; rintro e w1 ⟨rfl, hb_⟩; have HB1 := Aside0.mk hb_; have HN2 := Aside0.mk (blk_new w1 (.cells #[.slice none 0 0] 22 (0, 0))); have HB2 := Aside0.mk (hb_.alloc (below_size hb_) (.cells #[.slice none 0 0] 22 (0, 0))); clear hb_) | (go_at_call 16; go_loud (refine (coverings_calls w l0 l1 a2 A0 A1 c0 c1 HR0.out hc0 HR1.out hc1 h0 h1 w1.heap.size 18 _ egg HB1.out.size (fun s p => if s = [] then p else s) (FirstSt w.heap.size w1.heap.size) (fun _ _ _ h1_ h2_ => FirstSt_below h1_ h2_) (fun s plan v W hb1 hb2 hb3 hb4 hb5 hb6 => first_each w w1.heap.size s plan v W hb2 hb3 hb4 (by omega)) [] _ HB2.out (by simp) ⟨_, HN2.out, Kd.R_nil _ _ _ _ _, fun _ => rfl⟩).mono ?_; rintro e w7 ⟨rfl, ⟨u7, hs7, hs8, hs9⟩, hk7⟩; rw [← HRR.out] at hs8; have hcb7 : w7.cell? ⟨w1.heap.size, 0, none⟩ = some u7 := (blk_cell hs7 0).trans rfl; obtain ⟨A7, c7, rfl⟩ := Kd.R_slice hs8; have HS8 := Aside0.mk hs8; have HB7 := Aside0.mk (hk7.below HB2.out HB1.out.size (below_size HB2.out)); clear hs7 hs8 hs9 hk7)))
      refine bodyPost_ret (results_tmp2 rfl _ _ _) rfl ?_
      exact ⟨_, rfl, Kd.R_mono HS8.out (fun _ _ => trivial), HB7.out⟩
    · rw [if_neg hc] at h
      cases h

end Go.Proofs.Ytdaiihafoajmcaa.P
