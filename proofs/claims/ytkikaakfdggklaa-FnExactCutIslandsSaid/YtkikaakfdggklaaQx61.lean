/- Go functions of this seat as plain functions, each with the proof that its call comes to what that function says: written by this session's program (wip/drive.py) out of the translation, by the kit's printer and by texts of our own; no conditions. -/
import Derived.Test.YtkikaakfdggklaaQx0
import Derived.Test.YtkikaakfdggklaaQx6
import Derived.Test.YtkikaakfdggklaaQx20
import Derived.Test.YtkikaakfdggklaaQx21
import Derived.Test.YtkikaakfdggklaaQx52
import Derived.Lib.SliceRun
import Derived.Shelf.Abstract
namespace Go.Proofs.Ytkikaakfdggklaa.Q
open Go.RowKit Go.Proofs.YtkikaakfdggklaaW.PrintWords Go.Proofs.YtkikaakfdggklaaW.PrintLast Go.Proofs.YtkikaakfdggklaaW.PrintMore
attribute [local go_sem] max2_int min2_int max_two min_two max_three min_three max_four min_four   -- for this text's walks alone
set_option linter.unusedVariables false
set_option linter.unusedSimpArgs false

/-! ### impl_CutIslands: function 52 -/
/-- What a closure over one bridge answers, in every world later than one; it only makes. -/
def PredS (g : Nat) (lb : Array Value) (p : S37 → Bool) (w : World) : Prop :=
  ∀ (W : World) (x : S37), Below w.heap.size w W → Calls Try.prog g (#[.agg #[.int .i64 x.f0, .int .i64 x.f1, .int .i64 x.f2]] ++ lb) W fun e w' => e = .returned (.bool (p x)) ∧ Below W.heap.size W w'
def IdxS (p : S37 → Bool) (l : List S37) (w : World) (e : Ending) (w' : World) : Prop := ∃ r : Int, ((r = -1 ∧ l.any p = false) ∨ ∃ kk : Nat, r = kk ∧ kk < l.length ∧ (l.take kk).any p = false ∧ p (rd_T37 l kk) = true) ∧ e = .returned (.int .i64 r) ∧ Below w.heap.size w w'
set_option maxHeartbeats 2000000 in
theorem IndexS (g : Nat) (lb : Array Value) (eg : ∀ args w, (callFunc g args).run Try.prog w = .ok (.enter g args) w) (p : S37 → Bool) (A : Option Addr) (c : Nat) (l : List S37) (w0 w : World) (hb0 : Below w0.heap.size w0 w)
    (hp : PredS g lb p w0) (hr : Kd.C k37 w A l.length l) (hm : l.length ≤ 9223372036854775807) :
    Calls Try.prog 102 #[.slice A l.length c, .func (.func g) #[] lb] w (IdxS p l w) := by
  have HP := Aside0.mk hp
  have HR := Aside0.mk hr
  have HB0 := Aside0.mk hb0
  clear hp hr hb0
  go_enter Try.func102, Try.ntmps102
  go_wp2
  go_loopg [5, 8] l.length (fun gg _ s8 wr => ∃ kk : Nat, kk ≤ l.length ∧ l.length - kk ≤ gg ∧ s8 = .int .i64 kk ∧ Aside0 (Below w.heap.size w wr) ∧ Aside0 ((l.take kk).any p = false))
  case atStart => exact ⟨0, Nat.zero_le _, by omega, rfl, ⟨Below.refl _ w⟩, ⟨by simp⟩⟩
  case round =>
    obtain ⟨kk, hkk, hg, rfl, BW, NA⟩ := hrel
    by_cases hlt : kk < l.length
    · have hltz : (kk : Int) < (l.length : Int) := by omega
      obtain ⟨ad, hA, h0, h1, h2⟩ := at_T37 (Kd.C_below HR.out BW.out) (kk : Int) (by omega) (by omega)
      have hcall := HP.out wr (rd_T37 l kk) (below_step HB0.out BW.out)
      have hx : (l.take (kk + 1)).any p = ((l.take kk).any p || p (rd_T37 l kk)) := by
        rw [List.take_succ_eq_append_getElem hlt, List.any_append]
        simp [rd_T37, List.getD_eq_getElem?_getD, List.getElem?_eq_getElem hlt]
      subst hA
      rw [Int.toNat_natCast] at h0 h1 h2
      obtain ⟨y, hy⟩ : ∃ y, y = rd_T37 l kk := ⟨_, rfl⟩
      rw [← hy] at h0 h1 h2 hcall hx
      have HX := Aside0.mk hx
      have HY := Aside0.mk hy
      clear hx hy
      cases hq : p y with
      | true =>
        rw [hq] at hcall
        go_wp2_with (go_at_fn g; refine hcall.mono ?_; rintro e w' ⟨rfl, hb'⟩)
        go_ret
        exact ⟨(kk : Int), .inr ⟨kk, rfl, hlt, NA.out, by rw [← HY.out]; exact hq⟩, rfl, below_step BW.out hb'⟩
      | false =>
        rw [hq] at hcall
        go_wp2_with (go_at_fn g; refine hcall.mono ?_; rintro e w' ⟨rfl, hb'⟩)
        go_roundg (l.length - (kk + 1))
        case measure => omega
        case rel => exact ⟨kk + 1, by omega, by omega, by go_num, ⟨below_step BW.out hb'⟩, ⟨by rw [HX.out, hq, NA.out]; rfl⟩⟩
    · go_wp2
      go_ret
      exact ⟨-1, .inl ⟨rfl, by
        have h1 := NA.out
        rwa [List.take_of_length_le (by omega)] at h1⟩, rfl, BW.out⟩
set_option maxHeartbeats 8000000 in
set_option maxRecDepth 1000000 in
/-- slices.DeleteFunc upon a row of the call's own. -/
theorem DeleteS (g : Nat) (lb : Array Value) (eg : ∀ args w, (callFunc g args).run Try.prog w = .ok (.enter g args) w) (p : S37 → Bool) (l : List S37) (v : Value) (w0 w : World) (hb0 : Below w0.heap.size w0 w)
    (hp : PredS g lb p w0) (hv : Kd.R k37 37 w w0.heap.size (fun _ => True) v l) :
    Calls Try.prog 95 #[v, .func (.func g) #[] lb] w fun e w' => ∃ v', e = .returned v' ∧ Kd.R k37 37 w' w0.heap.size (fun _ => True) v' (l.filter (fun x => !p x)) ∧ Below w0.heap.size w0 w' := by
  obtain ⟨Av, cv, rfl, hle, hC⟩ := Kd.R_reads hv
  have hm := Kd.C_max hC
  have HI := Aside0.mk (IndexS g lb eg p Av cv l w0 w hb0 hp hC hm)
  have HV := Aside0.mk hv
  have HP := Aside0.mk hp
  have HB0 := Aside0.mk hb0
  clear hv hp hb0 hC
  go_enter Try.func95, Try.ntmps95
  go_wp2_with fail
  refine HI.out.mono ?_
  rintro e w1 ⟨r, hr, rfl, hb1⟩
  have HB1 := Aside0.mk (below_step HB0.out hb1)
  have HV1 := Aside0.mk (Kd.R_below HV.out hb1)
  clear hb1 HI HB0 HV
  rcases hr with ⟨rfl, hno⟩ | ⟨kk, rfl, hkl, hno, hyes⟩
  · go_wp2
    go_ret
    have hf : l.filter (fun x => !p x) = l := by
      apply List.filter_eq_self.2
      intro x hx
      have := List.any_eq_false.1 hno x hx
      simpa using this
    exact ⟨_, rfl, by rw [hf]; exact HV1.out, HB1.out⟩
  · have hk1 : ((kk : Int) == -1) = false := by simp only [beq_eq_false_iff_ne]; omega
    have hkw : wrap64 ((kk : Int) + 1) = ((kk + 1 : Nat) : Int) := by unfold wrap64; omega
    have hf0 : (l.take (kk + 1)).filter (fun x => !p x) = l.take kk := by
      have e : l.take kk = (l.take kk).filter (fun x => !p x) := by
        symm
        apply List.filter_eq_self.2
        intro x hx
        have := List.any_eq_false.1 hno x hx
        simpa using this
      have e2 : rd_T37 l (kk : Int) = l[kk] := by simp [rd_T37, List.getD_eq_getElem?_getD, List.getElem?_eq_getElem hkl]
      rw [List.take_succ_eq_append_getElem hkl, List.filter_append, ← e, List.filter_cons_of_neg (by rw [← e2, hyes]; simp)]
      simp
    have HF0 := Aside0.mk hf0
    clear hno hyes hf0
    go_wp2
    go_loopg [5, 6, 7] l.length (fun gg v5 v6 _ wr => ∃ (i j : Nat) (cs : List S37), v5 = .int .i64 i ∧ v6 = .int .i64 j ∧ i < j ∧ j ≤ l.length ∧ l.length - j ≤ gg ∧ Aside0 (cs.length = l.length) ∧ Aside0 (cs.take i = (l.take j).filter (fun x => !p x)) ∧ Aside0 (cs.drop j = l.drop j) ∧ Aside0 (Kd.R k37 37 wr w0.heap.size (fun _ => True) (.slice Av l.length cv) cs) ∧ Aside0 (Below w0.heap.size w0 wr))
    case atStart => exact ⟨kk, kk + 1, l, rfl, by first | rfl | (rw [← hkw]; done) | (rw [hkw]), by omega, by omega, by omega, ⟨rfl⟩, ⟨HF0.out.symm⟩, ⟨rfl⟩, HV1, HB1⟩
    case round =>
      obtain ⟨i, j, cs, rfl, rfl, hij, hjl, hg, CL, CT, CD, HR, HB⟩ := hrel
      clear HF0 HV1 HB1
      by_cases hlt : j < l.length
      · have hltz : (j : Int) < (l.length : Int) := by omega
        have hjw : wrap64 ((j : Int) + 1) = ((j + 1 : Nat) : Int) := by unfold wrap64; omega
        have hiw : wrap64 ((i : Int) + 1) = ((i + 1 : Nat) : Int) := by unfold wrap64; omega
        have hcl := CL.out
        obtain ⟨go, co, eo, gb, gl, cl, HG⟩ := Kd.R_form HR.out (by omega)
        injection eo with e1_ e2_ e3_
        subst e1_
        subst e3_
        clear e2_
        have GB := Aside0.mk gb
        clear gb gl cl HG
        obtain ⟨ce, hcl0, hM, hcc, hfr⟩ := Kd.R_elem HR.out z37 (j : Int) (by omega) (by omega)
        obtain rfl := k37_openM hM
        obtain ⟨x, hx⟩ : ∃ x, x = rd_T37 cs (j : Int) := ⟨_, rfl⟩
        have hx0 : wr.cell? ⟨go, j * 3, none⟩ = some (.int .i64 x.f0) := by rw [hx]; exact hcc 0 _ rfl
        have hx1 : wr.cell? ⟨go, j * 3 + 1, none⟩ = some (.int .i64 x.f1) := by rw [hx]; exact hcc 1 _ rfl
        have hx2 : wr.cell? ⟨go, j * 3 + 2, none⟩ = some (.int .i64 x.f2) := by rw [hx]; exact hcc 2 _ rfl
        clear hcl0 hM hcc hfr
        have hjc : j < cs.length := by omega
        have hxl : x = l[j] := by
          have e1 : x = cs[j] := by rw [hx]; simp [rd_T37, List.getD_eq_getElem?_getD, List.getElem?_eq_getElem hjc]
          have e2 := congrArg (fun q => q[0]?) CD.out
          simp only [List.getElem?_drop, Nat.add_zero] at e2
          rw [List.getElem?_eq_getElem hjc, List.getElem?_eq_getElem hlt] at e2
          rw [e1]
          exact Option.some.inj e2
        have hft : ∀ b, p x = b → (l.take (j + 1)).filter (fun x => !p x) = (l.take j).filter (fun x => !p x) ++ (if b = true then [] else [x]) := by
          intro b hb
          rw [List.take_succ_eq_append_getElem hlt, List.filter_append, ← hxl]
          cases b with
          | true => simp [hb]
          | false => simp [hb]
        have hdr : cs.drop (j + 1) = l.drop (j + 1) := by
          have e2 := congrArg (List.drop 1) CD.out
          simpa [List.drop_drop] using e2
        obtain ⟨wA, hwA⟩ : ∃ wA, wA = wr.alloc (.cells #[.int .i64 x.f0, .int .i64 x.f1, .int .i64 x.f2] 37 (0, 0)) := ⟨_, rfl⟩
        have HBA := Aside0.mk (show Below wr.heap.size wr wA from by rw [hwA]; exact below_alloc (Below.refl _ _) _)
        have HAb := Aside0.mk (show wA.heap[wr.heap.size]? = some (.cells #[.int .i64 x.f0, .int .i64 x.f1, .int .i64 x.f2] 37 (0, 0)) from by rw [hwA]; exact blk_new wr _)
        have hcall := HP.out wA x (below_step HB.out HBA.out)
        have HWA := Aside0.mk hwA
        have HFT := Aside0.mk hft
        have HDR := Aside0.mk hdr
        have HX := Aside0.mk hx
        clear hwA hft hdr hx hxl
        cases hq : p x with
        | true =>
          rw [hq] at hcall
          go_wp2_with (go_at_fn g; rw [← HWA.out]; refine hcall.mono ?_; rintro e w2 ⟨rfl, hb'⟩; have HB2 := Aside0.mk (below_step HBA.out hb'); clear hb')
          go_roundg (l.length - (j + 1))
          case measure => omega
          case rel => exact ⟨i, j + 1, cs, rfl, by first | rfl | (rw [hjw]; done) | (rw [← hjw]), by omega, by omega, by omega, CL, ⟨by rw [HFT.out true hq, CT.out]; simp⟩, HDR, ⟨Kd.R_below HR.out HB2.out⟩, ⟨below_step HB.out HB2.out⟩⟩
        | false =>
          rw [hq] at hcall
          go_wp2_with ((go_at_fn g; rw [← HWA.out]; refine hcall.mono ?_; rintro e w2 ⟨rfl, hb'⟩; have HB2 := Aside0.mk (below_step HBA.out hb'); have HA2 := Aside0.mk (blk_below HAb.out hb'); have ha0 : w2.cell? ⟨wr.heap.size, 0, none⟩ = some (.int .i64 x.f0) := (blk_cell HA2.out 0).trans rfl; have ha1 : w2.cell? ⟨wr.heap.size, 1, none⟩ = some (.int .i64 x.f1) := (blk_cell HA2.out 1).trans rfl; have ha2 : w2.cell? ⟨wr.heap.size, 2, none⟩ = some (.int .i64 x.f2) := (blk_cell HA2.out 2).trans rfl; have HR2 := Aside0.mk (Kd.R_below HR.out HB2.out); clear hb'; obtain ⟨ci, hcli, hMi, hcci, hfri⟩ := Kd.R_elem HR2.out z37 (i : Int) (by omega) (by omega); obtain rfl := k37_openM hMi; have HS := Aside0.mk (Kd.R_seg HR2.out (i : Int) (by omega) (by omega) (seg := [.int .i64 x.f0, .int .i64 x.f1, .int .i64 x.f2]) (j := 0) hcli hcci (show 3 ≤ 3 from by decide) (x' := x) (k37_mkM _ _ _ x) (fun _ hk => hk)).1; have hi0 := hcci 0 _ rfl; have hi1 := hcci 1 _ rfl; have hi2 := hcci 2 _ rfl; have hf0 := hfri 0; have hf1 := hfri 1; have hf2 := hfri 2; (try simp only [show (k37).sz = 3 from rfl, Nat.mul_one, Nat.add_zero, Int.toNat_natCast] at hi0 hi1 hi2 hf0 hf1 hf2); clear hcli hMi hcci hfri))
          go_roundg (l.length - (j + 1))
          case measure => omega
          case rel => exact ⟨i + 1, j + 1, cs.set i x, by first | rfl | (rw [hiw]; done) | (rw [← hiw]), by first | rfl | (rw [hjw]; done) | (rw [← hjw]), by omega, by omega, by omega, ⟨by rw [List.length_set]; exact CL.out⟩, ⟨by
            have hil : i < (cs.set i x).length := by rw [List.length_set]; omega
            rw [HFT.out false hq, List.take_succ_eq_append_getElem hil, List.take_set_of_le (Nat.le_refl _), CT.out, List.getElem_set_self]
            simp⟩, ⟨by rw [List.drop_set_of_lt (by omega)]; exact HDR.out⟩, ⟨by exact HS.out⟩, ⟨below_set (below_set (below_set (below_step HB.out HB2.out) GB.out) GB.out) GB.out⟩⟩
      · have hj : j = l.length := by omega
        subst hj
        have hcl := CL.out
        obtain ⟨_, inner, ⟨hil, ho⟩, hrp⟩ := HR.out
        rcases ho with ⟨hv0, h0⟩ | ⟨go, cap, cur, hv0, hgb, hh, hnc, hcm, hcs, hcur⟩
        · omega
        injection hv0 with e1_ e2_ e3_
        subst e1_
        subst e3_
        clear e2_
        have hsz : k37.sz = 3 := rfl
        rw [hsz] at hil hcs hcur hrp
        have hfl : l.filter (fun x => !p x) = cs.take i := by rw [CT.out, List.take_of_length_le (Nat.le_refl _)]
        obtain ⟨zs, hzs⟩ : ∃ zs, zs = (Builtin.zeroCells (Value.agg #[.int .i64 0, .int .i64 0, .int .i64 0]).cells (l.length - i)).toList := ⟨_, rfl⟩
        have hz3 : zs.length = (l.length - i) * 3 := by
          rw [hzs]
          simp [Builtin.zeroCells, Value.cells]
        have hclr : ∀ ty, (Builtin.clear_ #[27] ty #[.slice (some ⟨go, i * 3, none⟩) (l.length - i) (cv - i)]).run Try.prog wr = .ok (.tuple #[]) (wr.setCells go (i * 3) zs) := by
          intro ty
          rw [hzs]
          refine run_clear_rows wr _ _ ty _ Try.underlying27 Try.zeroValue37 go _ _ _ (by omega) ?_ ?_ ?_
          · exact zeros_one _
          · rw [← hzs, hz3]
            intro q hq
            rw [blk_cell hh, Array.getElem?_eq_getElem (by omega)]
            rfl
          · intro q _
            exact blk_frozen hh _
        have HZ := Aside0.mk hz3
        have HH := Aside0.mk hh
        have HRP := Aside0.mk hrp
        have HCU := Aside0.mk hcur
        have HFL := Aside0.mk hfl
        have hic : i ≤ cv := by omega
        have hii : i ≤ l.length := by omega
        have hne : ¬ (cv = i) := by omega
        have hne2 : ¬ (i = cv) := by omega
        clear hzs hz3 hh hrp hcur hfl
        go_wp2
        go_ret
        have hll : (cs.take i).length = i := by rw [List.length_take]; omega
        rw [HFL.out]
        refine ⟨.slice (some ⟨go, 0, none⟩) i cv, rfl, ⟨fun _ _ => trivial, inner.take (i * 3), ⟨?_, .inr ⟨go, cv, layC zs (i * 3) cur, ?_, hgb, heap_layC zs _ HH.out, ?_, hcm, ?_, ?_⟩⟩, ?_⟩, below_setCells_ hgb zs _ HB.out⟩
        · rw [hll, hsz, List.length_take, hil]
          omega
        · rw [hll]
        · rw [hll]
          omega
        · rw [layC_size, hcs, hsz]
        · rw [hll, hsz]
          apply List.ext_getElem?
          intro q
          by_cases hq : q < i * 3
          · rw [List.getElem?_take_of_lt hq, Array.getElem?_toList, layC_get _ _ _ _ (by rw [HZ.out, hcs]; omega), if_neg (by omega), List.getElem?_take_of_lt hq, ← HCU.out, List.getElem?_take_of_lt (by omega), Array.getElem?_toList]
          · rw [List.getElem?_take_eq_none (by omega), List.getElem?_take_eq_none (by omega)]
        · exact (Kd.reps_take HRP.out (by omega)).imp_ (fun _ _ h => move_B h)
def touch (i : Int) (b : S37) : Bool := b.f0 == i || b.f1 == i
set_option maxHeartbeats 2000000 in
theorem touchS (i : Int) (B : Nat) (w : World) (hB : B < w.heap.size) (hc : w.cell? ⟨B, 0, none⟩ = some (.int .i64 i)) : PredS 96 #[.pointer (some ⟨B, 0, none⟩)] (touch i) w := by
  intro W x hb
  have hc' := (hb.cell (p := ⟨B, 0, none⟩) hB).trans hc
  have hc'' : ∀ o, (W.alloc o).cell? ⟨B, 0, none⟩ = some (.int .i64 i) := fun o => ((below_alloc (Below.refl W.heap.size W) o).cell (World.block_lt_of_cell? W _ hc')).trans hc'
  clear hc hb
  obtain ⟨f0, f1, f2⟩ := x
  dsimp only [touch]
  cases h0 : (f0 == i) with
  | true =>
    go_enter Try.func96, Try.ntmps96
    go_wp2
    go_ret
    exact ⟨rfl, below_alloc (Below.refl _ _) _⟩
  | false =>
    go_enter Try.func96, Try.ntmps96
    go_wp2
    go_ret
    exact ⟨rfl, below_alloc (Below.refl _ _) _⟩
def impl_CutIslands.l0 : Nat → Int → List S37 → Int → List Int → Int → Option (List Int × Bool)
  | 0, _, _, _, _, _ => none
  | k + 1, n, l, many, out, i => if i < n then (if l.length < 5864062014805 then ((impl_countGroups.f k n (l.filter (fun b => !touch i b))).bind fun c => if wrap64 (c - 1) > many then (if out.length < 17592186044415 then impl_CutIslands.l0 k n l many (out ++ [i]) (wrap64 (i + 1)) else none) else impl_CutIslands.l0 k n l many out (wrap64 (i + 1))) else none) else some (out, true)
theorem impl_CutIslands.mono_l : ∀ k, (∀ y0 y1 y2 y3 y4, LeO (impl_CutIslands.l0 k y0 y1 y2 y3 y4) (impl_CutIslands.l0 (k + 1) y0 y1 y2 y3 y4))
  | 0 => fun _ _ _ _ _ r h => by simp [impl_CutIslands.l0] at h
  | k + 1 => by
    have ih0 := impl_CutIslands.mono_l k
    intro y0 y1 y2 y3 y4
    unfold impl_CutIslands.l0
    repeat' first
      | (with_reducible exact ih0 _ _ _ _ _)
      | (with_reducible exact impl_countGroups.mono _ _ _)
      | (with_reducible exact LeO.refl _)
      | (with_reducible exact LeO.none _)
      | (with_reducible refine LeO.ite ?_ ?_)
      | (with_reducible refine LeO.bind ?_ (fun _ => ?_))
def impl_CutIslands.f (k : Nat) (a0_0 : Int) (l0_1 : List S37) : Option (List Int × Bool) := (impl_CountGroups.f k a0_0 l0_1).bind fun q => if q.2 = true then impl_CutIslands.l0 k a0_0 l0_1 q.1 [] 0 else some ([], false)
theorem impl_CutIslands.mono : ∀ a0 a1 k, LeO (impl_CutIslands.f k a0 a1) (impl_CutIslands.f (k + 1) a0 a1) := by
  intro a0 a1 k
  unfold impl_CutIslands.f
  repeat' first
      | (with_reducible exact impl_CutIslands.mono_l _ _ _ _ _ _)
      | (with_reducible exact impl_CountGroups.mono _ _ _)
      | (with_reducible exact LeO.refl _)
      | (with_reducible exact LeO.none _)
      | (with_reducible refine LeO.ite ?_ ?_)
      | (with_reducible refine LeO.bind ?_ (fun _ => ?_))
set_option maxHeartbeats 8000000 in
set_option maxRecDepth 100000 in
theorem impl_CutIslands.calls (k : Nat) (a0_0 : Int) (A0_1 : Option Addr) (c0_1 : Nat) (l0_1 : List S37) (r1 : List Int) (r2 : Bool) (w : World) (hr0_1 : Kd.C k37 w A0_1 l0_1.length l0_1) (hc0_1 : l0_1.length ≤ c0_1) (h : impl_CutIslands.f k a0_0 l0_1 = some (r1, r2)) :
    Calls Try.prog 52 #[.agg #[.int .i64 a0_0, .slice A0_1 l0_1.length c0_1]] w fun e w' => ∃ v0_ : Value, e = .returned (.tuple #[v0_, .bool r2]) ∧ Kd.R (Kd.int .i64) 3 w' w.heap.size (fun _ => True) v0_ r1 ∧ Below w.heap.size w w' := by
  have HR := Aside0.mk hr0_1
  have HC := Aside0.mk hc0_1
  obtain ⟨wS, hwS⟩ : ∃ wS, wS = w.alloc (.cells #[.int .i64 a0_0, .slice A0_1 l0_1.length c0_1] 29 (0, 0)) := ⟨_, rfl⟩
  have HS := Aside0.mk (show wS.heap[w.heap.size]? = some (.cells #[.int .i64 a0_0, .slice A0_1 l0_1.length c0_1] 29 (0, 0)) from by rw [hwS]; exact blk_new w _)
  have HBS := Aside0.mk (show Below w.heap.size w wS from by rw [hwS]; exact below_alloc (Below.refl _ _) _)
  have HWS := Aside0.mk hwS
  clear hr0_1 hc0_1 hwS
  unfold impl_CutIslands.f at h
  obtain ⟨⟨many, ok⟩, h1, h⟩ := Option.bind_eq_some_iff.mp h
  have A1 := Aside0.mk h1
  clear h1
  cases ok with
  | false =>
    rw [if_neg (by simp)] at h
    obtain ⟨rfl, rfl⟩ := Prod.mk.injEq .. ▸ Option.some.inj h
    clear h
    go_enter Try.func52, Try.ntmps52
    go_wp2_with (go_at_call 31; rw [← HWS.out]; refine (impl_CountGroups.calls k a0_0 A0_1 c0_1 l0_1 many false wS (Kd.C_below HR.out HBS.out) HC.out A1.out).mono ?_; rintro e w2 ⟨rfl, hb⟩; have HB2 := Aside0.mk (below_step HBS.out hb); clear hb)
    go_ret2
    exact ⟨_, rfl, Kd.R_nil _ _ _ _ _, HB2.out⟩
  | true =>
    rw [if_pos rfl] at h
    have H := Aside0.mk h
    clear h
    go_enter Try.func52, Try.ntmps52
    go_wp2_with (first | (go_at_call 31; rw [← HWS.out]; refine (impl_CountGroups.calls k a0_0 A0_1 c0_1 l0_1 many true wS (Kd.C_below HR.out HBS.out) HC.out A1.out).mono ?_; rintro e w2 ⟨rfl, hb⟩; have HB2 := Aside0.mk (below_step HBS.out hb); have HS2 := Aside0.mk (blk_below HS.out hb); clear hb) | ((with_reducible refine gate_dst (N := 16) rfl ?_); refine Kd.R_lit (Kd.int .i64) _ 3 ?hg (N := 16) ?hd (xs := ([] : List Int)) (inner := []) (ok := fun _ => True) (okp := fun _ => True) ?hr ?hp (fun _ hk => hk) trivial (Below.refl _ _) (Nat.le_refl _) (by simp) ?_; (case hd => rfl); (case hg => rfl); (case hr => first | (go_simp; done) | (go_simp; rfl)); (case hp => exact (Reps.none _ _)); intro v16 w16 ho hb hg_ hnew_; have HO16 := Aside0.mk (Kd.R_lower ho (below_size HB2.out)); have HB16 := Aside0.mk (below_step HB2.out hb); have HS16 := Aside0.mk (blk_below HS2.out hb); have hc16 : w16.cell? ⟨w.heap.size, 0, none⟩ = some (.int .i64 a0_0) := (blk_cell HS16.out 0).trans rfl; clear hb ho hg_ hnew_))
    go_loopg [6, 7, 8, 19] k (fun kq v6 _ _ v19 w' => ∃ (vo : Value) (out : List Int) (i : Int), vo = v6 ∧ v19 = .int .i64 i ∧ Aside0 (impl_CutIslands.l0 kq a0_0 l0_1 many out i = some (r1, r2)) ∧ Aside0 (kq ≤ k) ∧ Aside0 (w'.heap[w.heap.size]? = some (.cells #[.int .i64 a0_0, .slice A0_1 l0_1.length c0_1] 29 (0, 0))) ∧ Aside0 (Kd.R (Kd.int .i64) 3 w' w.heap.size (fun _ => True) vo out) ∧ Aside0 (Below w.heap.size w w'))
    case atStart => exact ⟨_, [], 0, rfl, rfl, H, ⟨Nat.le_refl _⟩, HS16, HO16, HB16⟩
    case round =>
      obtain ⟨v6, out, i, rfl, rfl, HH, HK, HSr, HOr, HBr⟩ := hrel
      clear H hc16 HO16 HB16 HS16 HS2 HB2
      cases gk with
      | zero => exact absurd HH.out (by simp [impl_CutIslands.l0])
      | succ gk =>
      have h := HH.out
      clear HH
      rw [impl_CutIslands.l0] at h
      have hs0 : wr.cell? ⟨w.heap.size, 0, none⟩ = some (.int .i64 a0_0) := (blk_cell HSr.out 0).trans rfl
      by_cases c1 : i < a0_0
      · rw [if_pos c1] at h
        by_cases c2 : l0_1.length < 5864062014805
        · rw [if_pos c2] at h
          obtain ⟨c, h2, h⟩ := Option.bind_eq_some_iff.mp h
          obtain ⟨wA, hwA⟩ : ∃ wA, wA = wr.alloc (.cells #[.int .i64 i] 3 (0, 0)) := ⟨_, rfl⟩
          have HBA := Aside0.mk (show Below wr.heap.size wr wA from by rw [hwA]; exact below_alloc (Below.refl _ _) _)
          have HAb := Aside0.mk (show wA.heap[wr.heap.size]? = some (.cells #[.int .i64 i] 3 (0, 0)) from by rw [hwA]; exact blk_new wr _)
          have HSA := Aside0.mk (blk_below HSr.out HBA.out)
          have HWA := Aside0.mk hwA
          have hsA : ∀ o, (wr.alloc o).cell? ⟨w.heap.size, 1, none⟩ = some (.slice A0_1 l0_1.length c0_1) := fun o => (blk_cell (blk_alloc HSr.out o) 1).trans rfl
          have HCL := Aside0.mk (impl_Bridge_71.calls A0_1 c0_1 l0_1 l0_1 wA (Kd.C_below HR.out (below_step HBr.out HBA.out)) HC.out (by unfold impl_Bridge_71.f; rw [if_pos c2]))
          have HT := Aside0.mk (touchS i wr.heap.size wA (by have := blk_lt HAb.out; exact this) ((blk_cell HAb.out 0).trans rfl))
          have HQ := Aside0.mk h2
          clear hwA h2 c2
          by_cases c3 : wrap64 (c - 1) > many
          · rw [if_pos c3] at h
            have q3 : decide (many < wrap64 (c - 1)) = true := decide_eq_true c3
            by_cases c4 : out.length < 17592186044415
            · rw [if_pos c4] at h
              have H' := Aside0.mk h
              have c4' := Aside0.mk c4
              clear h c4
              go_wp2_with (first | (go_at_call 71; rw [← HWA.out]; refine HCL.out.mono ?_; rintro e w3 ⟨v3, rfl, hR3, hB3⟩; have HR3 := Aside0.mk hR3; have HB3 := Aside0.mk hB3; clear hR3 hB3) | (go_at_call 95; refine (DeleteS 96 _ (enters_ Try.func96 (by kernel_rfl) rfl) (touch i) l0_1 v3 wA w3 HB3.out HT.out HR3.out).mono ?_; rintro e w4 ⟨v4, rfl, hR4, hB4⟩; have HR4 := Aside0.mk hR4; have HB4 := Aside0.mk (below_step HBA.out hB4); have HS4 := Aside0.mk (blk_below HSA.out hB4); have HA4 := Aside0.mk (blk_below HAb.out hB4); clear hR4 hB4; have hs4 : w4.cell? ⟨w.heap.size, 0, none⟩ = some (.int .i64 a0_0) := (blk_cell HS4.out 0).trans rfl; obtain ⟨A4, c4, e4⟩ := Kd.R_slice HR4.out; subst e4) | (go_at_call 76; refine (impl_countGroups.calls gk a0_0 A4 c4 _ c w4 (Kd.R_reads' HR4.out).2.2 (Kd.R_reads' HR4.out).2.1 HQ.out).mono ?_; rintro e w5 ⟨rfl, hb⟩; have HB5 := Aside0.mk (below_step HB4.out hb); have HS5 := Aside0.mk (blk_below HS4.out hb); have HA5 := Aside0.mk (blk_below HA4.out hb); have ha5 : w5.cell? ⟨wr.heap.size, 0, none⟩ = some (.int .i64 i) := (blk_cell HA5.out 0).trans rfl; clear hb) | ((with_reducible refine gate_dst (N := 36) rfl ?_); refine Kd.R_lit (Kd.int .i64) _ 3 ?hg (N := 36) ?hd (xs := ([i] : List Int)) (inner := [.int .i64 i]) (ok := fun _ => True) (okp := fun _ => True) ?hr ?hp (fun _ hk => hk) trivial (Below.refl _ _) (Nat.le_refl _) (by simp) ?_; (case hd => rfl); (case hg => rfl); (case hr => first | (go_simp; done) | (go_simp; rfl)); (case hp => exact (Reps.one (show Kd.M (Kd.int .i64) _ _ _ i [.int .i64 i] from rfl) (Reps.none _ _))); intro v36 w36 ho36 hb36 hg_ hnew_; clear hg_ hnew_; have HO36 := Aside0.mk (Kd.R_below HOr.out (below_step HB5.out hb36)); have HB36 := Aside0.mk (below_step HBr.out (below_step HB5.out hb36)); have HS36 := Aside0.mk (blk_below HS5.out hb36); obtain ⟨A36, c36, e36, _, hC36⟩ := Kd.R_reads ho36; subst e36; have HC36 := Aside0.mk hC36; clear ho36 hb36 hC36) | ((with_reducible refine gate_builtin (b := .append) (xs := #[.tmp 34, .tmp 36]) rfl ?_); at_builtin; refine Kd.R_append_rows (Kd.int .i64) (w0 := w) w.heap.size rfl (.tmp 34) (.tmp 36) 51 3 (.int .i64 0) 8 rfl Try.underlying51 info3 rfl (by decide) (by omega) v6 out [i] _ _ _ (fun _ => True) (fun _ => False) rfl rfl ?aO ?aR (fun _ _ h => h) (fun _ h => h.elim) ?aF ?aB ?aS ?aL ?_; (case aR => exact HC36.out); (case aB => exact HB36.out); (case aF => exact (fun _ _ => trivial)); (case aO => exact HO36.out); (case aS => exact (below_size HB36.out)); (case aL => have := c4'.out; simp only [List.length_singleton]; omega); intro v37 w37 ho37 hb37 hg_ hat_; have HO37 := Aside0.mk ho37; have HB37 := Aside0.mk hb37; have HS37 := Aside0.mk (blk_grown HS36.out hg_ (Kd.R_ne HO36.out HS36.out (by decide))); clear ho37 hb37 hg_ hat_))
              go_roundg gk
              case measure => omega
              case rel => exact ⟨_, _, _, rfl, by first | rfl | (simp; done) | (simp [*]; done), H', ⟨by have := HK.out; omega⟩, HS37, HO37, HB37⟩
            · rw [if_neg c4] at h
              cases h
          · rw [if_neg c3] at h
            have q3 : decide (many < wrap64 (c - 1)) = false := decide_eq_false c3
            have H' := Aside0.mk h
            clear h
            go_wp2_with (first | (go_at_call 71; rw [← HWA.out]; refine HCL.out.mono ?_; rintro e w3 ⟨v3, rfl, hR3, hB3⟩; have HR3 := Aside0.mk hR3; have HB3 := Aside0.mk hB3; clear hR3 hB3) | (go_at_call 95; refine (DeleteS 96 _ (enters_ Try.func96 (by kernel_rfl) rfl) (touch i) l0_1 v3 wA w3 HB3.out HT.out HR3.out).mono ?_; rintro e w4 ⟨v4, rfl, hR4, hB4⟩; have HR4 := Aside0.mk hR4; have HB4 := Aside0.mk (below_step HBA.out hB4); have HS4 := Aside0.mk (blk_below HSA.out hB4); have HA4 := Aside0.mk (blk_below HAb.out hB4); clear hR4 hB4; have hs4 : w4.cell? ⟨w.heap.size, 0, none⟩ = some (.int .i64 a0_0) := (blk_cell HS4.out 0).trans rfl; obtain ⟨A4, c4, e4⟩ := Kd.R_slice HR4.out; subst e4) | (go_at_call 76; refine (impl_countGroups.calls gk a0_0 A4 c4 _ c w4 (Kd.R_reads' HR4.out).2.2 (Kd.R_reads' HR4.out).2.1 HQ.out).mono ?_; rintro e w5 ⟨rfl, hb⟩; have HB5 := Aside0.mk (below_step HB4.out hb); have HS5 := Aside0.mk (blk_below HS4.out hb); have HA5 := Aside0.mk (blk_below HA4.out hb); have ha5 : w5.cell? ⟨wr.heap.size, 0, none⟩ = some (.int .i64 i) := (blk_cell HA5.out 0).trans rfl; clear hb))
            go_roundg gk
            case measure => omega
            case rel => exact ⟨_, _, _, rfl, by first | rfl | (simp; done) | (simp [*]; done), H', ⟨by have := HK.out; omega⟩, HS5, ⟨Kd.R_below HOr.out HB5.out⟩, ⟨below_step HBr.out HB5.out⟩⟩
        · rw [if_neg c2] at h
          cases h
      · rw [if_neg c1] at h
        obtain ⟨rfl, rfl⟩ := Prod.mk.injEq .. ▸ Option.some.inj h
        clear h
        go_wp2
        go_ret2
        exact ⟨_, rfl, HOr.out, HBr.out⟩

end Go.Proofs.Ytkikaakfdggklaa.Q
