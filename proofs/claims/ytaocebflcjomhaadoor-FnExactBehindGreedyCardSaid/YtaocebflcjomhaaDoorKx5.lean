/- Go functions of this seat as plain functions, each with the proof that its call comes to what that function says: written by this session's program (wip/drive.py) out of the translation, by the kit's printer and by texts of our own; no conditions. -/
import Derived.Test.YtaocebflcjomhaaDoorKx0
import Derived.Test.YtaocebflcjomhaaDoorKx1
import Derived.Laws.Bits64
import Derived.Laws.BitsLemmas
import Derived.Laws.CopyOwn
import Derived.Laws.IdiomCopy
import Derived.Lib.MinMax
import Derived.LoopIn
import Derived.LoopNIn
import Derived.Maps.AppendAt
import Derived.OrdersIn
import Derived.OwnWalkIn
import Derived.RangeFuncBound
import Derived.RangeFuncBox
import Derived.RangeFuncCalls
import Derived.RangeFuncLeaves
import Derived.RangeFuncWrites
import Derived.Shelf.Abstract
import Derived.TacticsInMore
namespace Go.Proofs.YtaocebflcjomhaaDoor.K
open Go.RowKit Go.Proofs.YtaocebflcjomhaaDoorW.PrintWords Go.Proofs.YtaocebflcjomhaaDoorW.PrintLast Go.Proofs.YtaocebflcjomhaaDoorW.PrintMore
attribute [local go_sem] max2_int min2_int max_two min_two max_three min_three max_four min_four   -- for this text's walks alone
set_option linter.unusedVariables false
set_option linter.unusedSimpArgs false

/-! ### impl_leapsLeft: function 31 -/
section
open Go.Shelf
/-! A region that draws its order inside a fence: one walk of it outside serves, where no operation calls. -/
def calmOp : Op → Bool
  | .move _ | .assign _ | .pick _ _ _ | .load _ _ | .store _ _ _ | .binOp _ _ _ _ _ | .indexAddr _ _ _ => true
  | _ => false
def calmEnd : Result Next → Bool
  | .ok (.value _) _ | .ok .skip _ | .halt _ _ => true
  | _ => false
theorem calm_v {P : Program} {w : World} (s : Sem Value) : calmEnd ((do pure (Next.value (← s)) : Sem Next).run P w) = true := by
  simp only [Sem.run_bind]
  cases s.run P w <;> rfl
theorem calm_u {P : Program} {w : World} (s : Sem Unit) : calmEnd ((do s; pure Next.skip : Sem Next).run P w) = true := by
  simp only [Sem.run_bind]
  cases s.run P w <;> rfl
theorem calm_run {P : Program} {w : World} (ρ : Operand → Value) (o : Oper) (h : calmOp o.op = true) : calmEnd ((execOp ρ o).run P w) = true := by
  unfold execOp
  cases ho : o.op <;> rw [ho] at h <;> first | (exact absurd (show false = true from h) (by decide)) | skip
  all_goals dsimp only
  all_goals first | rfl | exact calm_v _ | exact calm_u _ | skip
  · simp only [Sem.run_bind]
    rename_i c a b
    cases (asBool (ρ c)).run P w <;> rfl
def normalOf (Q : Exit → Act → World → Prop) : Exit → Act → World → Prop
  | .normal, a, w => Q .normal a w
  | _, _, _ => False
theorem calm_wpIn {F : Fence} {n : Nat} {P : Program} {o : Oper} {a : Act} {w : World} {K : Act → World → Prop} {Q : Exit → Act → World → Prop} (h : calmOp o.op = true) (hw : o.wp P a w K (normalOf Q)) : o.wpIn F n P a w K Q := by
  refine ⟨fun f hf => ?_, ?_⟩
  · unfold Oper.about at hf
    cases ho : o.op <;> rw [ho] at hf h <;> first | (exact absurd (show false = true from h) (by decide)) | cases hf
  · have hd : ∀ c, o.op ≠ .defer c := fun c hc => by rw [hc] at h; exact absurd (show false = true from h) (by decide)
    rw [Oper.semAt_eq _ _ _ hd]
    unfold Oper.wp at hw
    have hc := calm_run (P := P) (w := w) a.eval o h
    generalize (execOp a.eval o).run P w = r at hw hc
    cases r with
    | ok x w' => cases x <;> first | exact hw | exact absurd (show false = true from hc) (by decide)
    | halt x w' => cases x <;> exact absurd hw id
theorem calm_any {F : Fence} {n : Nat} {P : Program} {md : Region.Mode} {ops : Array Oper} {Q : Exit → Act → World → Prop} (hc : ∀ (i : Nat) (o : Oper), ops[i]? = some o → calmOp o.op = true) : ∀ (fuel : Nat) (listed : Array Bool) (a : Act) (w : World), wpAny P md ops (normalOf Q) fuel listed a w → wpAnyIn F n P md ops Q fuel listed a w
  | 0, _, _, _, h => h
  | fuel + 1, l, a, w, h => ⟨h.1, fun i hi => by
    have h2 := h.2 i hi
    unfold wpOp at h2
    unfold wpOpIn
    cases ho : ops[i]? with
    | none =>
      rw [ho] at h2
      exact calm_any hc fuel _ _ _ h2
    | some o =>
      rw [ho] at h2
      have hk := hc i o ho
      dsimp only at h2 ⊢
      split
      · rename_i hw
        rw [if_pos hw] at h2
        rcases h2 with h2 | ⟨_, _, _, h2⟩
        · exact calm_wpIn hk (Oper.wp_mono (fun a w h => calm_any hc fuel _ a w h) h2)
        · exact absurd h2 id
      · rename_i hw
        rw [if_neg hw] at h2
        refine ⟨fun f hf => ?_, calm_any hc fuel _ _ _ h2⟩
        unfold Oper.about at hf
        cases ho : o.op <;> rw [ho] at hf hk <;> first | (exact absurd (show false = true from hk) (by decide)) | cases hf⟩
theorem startIn_ {F : Fence} {m : Nat} {P : Program} {ops : Array Oper} {Q : Exit → Act → World → Prop} {S : World → Prop} {ds : List Nat} {id n : Nat} {a : Act} {w : World} (l : Array Bool) (hc : ops.all (fun o => calmOp o.op) = true) (hm : P.follows .mixedOrders = true) (hn : ops.size = n) (hl : Array.replicate n false = l) (hS : S w.drew)
    (h : S w.drew → wpAnyLast P .any ops (normalOf Q) S ds n l a w.drew) : (Code.region id ops true).wpIn F m P Q a w := by
  subst hn
  subst hl
  refine wpIn_region_any hm (calm_any (fun i o hi => ?_) _ _ _ _ (wpAny_of_last _ _ _ _ (h hS)))
  obtain ⟨h1, h2⟩ := Array.getElem?_eq_some_iff.1 hi
  have := Array.all_eq_true.1 hc i h1
  rw [h2] at this
  exact this
end
theorem mixedL : Tryd.prog.follows .mixedOrders = true := by kernel_rfl
section
open Go.Shelf
attribute [local go_sem] Oper.semAt_some
theorem add_block (ad : Addr) (j : Nat) : (ad.add j).block = ad.block := by unfold Addr.add; split <;> rfl
/-- What has come when k rounds are over. -/
def uptoB {α : Type} (f : Nat → α) (k : Nat) : List α := (List.range k).map f
theorem uptoB_succ {α : Type} (f : Nat → α) (k : Nat) : uptoB f (k + 1) = uptoB f k ++ [f k] := by simp [uptoB, List.range_succ]
theorem uptoB_length {α : Type} (f : Nat → α) (k : Nat) : (uptoB f k).length = k := by simp [uptoB]
set_option maxRecDepth 100000 in
set_option maxHeartbeats 2000000 in
/-- slices.Backward's closure, for every loop body that keeps what it reads. -/
theorem backward1_in {α : Type} (val : α → Nat × Int) (f : Nat → α) (F : Fence) (n : Nat) (h7 : F.fn 47) (hro : F.round = none) (hn : 1 ≤ n) (l Bs cap : Nat) (A : Option Addr) (zs : List Int) (hf : ∀ j, j < zs.length → val (f j) = (zs.length - 1 - j, zs[zs.length - 1 - j]?.getD 0)) (hreach : zs.length * 8 ≤ 140737488351232) (Kp : World → World → Prop) (hKr : ∀ W, Kp W W) (hKt : ∀ {A B C : World}, Kp A B → Kp B C → Kp A C)
    (hK : ∀ {W W' : World}, Kp W W' → W'.cell? ⟨Bs, 0, none⟩ = W.cell? ⟨Bs, 0, none⟩ ∧ ∀ ad, A = some ad → ∀ j, W'.cell? (ad.add j) = W.cell? (ad.add j)) (J Jx : List α → World → Prop)
    (hY : ∀ pre x W, J pre W → pre.length < zs.length → YieldAt F (n - 1) Tryd.prog l #[.int .i64 ((val x).1 : Nat), .int .i64 (val x).2] W fun e W' =>
      (e = .returned (.bool true) ∧ J (pre ++ [x]) W' ∧ Kp W W') ∨ (e = .returned (.bool false) ∧ Jx (pre ++ [x]) W'))
    (W : World) (hBs : W.cell? ⟨Bs, 0, none⟩ = some (.slice A zs.length cap)) (hc : zs = [] ∨ ∃ ad, A = some ad ∧ ∀ j, j < zs.length → W.cell? (ad.add j) = some (.int .i64 (zs[j]?.getD 0))) (h0 : J [] W) :
    CallsIn F n Tryd.prog 47 #[.func (.yield l) #[] #[], .pointer (some ⟨Bs, 0, none⟩)] W fun e W' => (∃ v, e = .returned v) ∧
      ((∃ ys, ys = uptoB f zs.length ∧ J ys W') ∨ (∃ pre, (∃ k, k ≤ zs.length ∧ pre = uptoB f k) ∧ Jx pre W')) := by
  obtain ⟨len, hlen⟩ : ∃ len, zs.length = len := ⟨_, rfl⟩
  rw [hlen] at hreach hY hBs hc hf ⊢
  refine callsIn_of_wp Tryd.func47 rfl h7 ?_ hro
  simp only [Tryd.ntmps47, List.size_toArray, List.length_cons, List.length_nil, Nat.reduceAdd, Nat.reduceSub, Array.replicate_succ, Array.replicate_zero, List.push_toArray, List.append_toArray, List.nil_append, List.cons_append]
  have HC := Aside0.mk hc
  have HF := Aside0.mk hf
  clear hc hf
  gi_wp2
  gi_loopw [3] (fun i wr => ∃ k : Nat, k ≤ len ∧ i = .int .i64 ((len : Int) - 1 - k) ∧ J (uptoB f k) wr ∧ Kp W wr)
    (fun i _ => (intOf i + 1).toNat)
  case atStart => exact ⟨0, Nat.zero_le _, by go_num, h0, hKr _⟩
  case round =>
    obtain ⟨k, hk, rfl, hJs, hnx⟩ := hrel
    by_cases hlt : k < len
    · obtain ⟨m, hm⟩ : ∃ m, m = len - 1 - k := ⟨_, rfl⟩
      have hml : m < len := by omega
      have hmi : (len : Int) - 1 - k = (m : Int) := by omega
      obtain ⟨ad, hA, hcs⟩ : ∃ ad, A = some ad ∧ ∀ j, j < len → W.cell? (ad.add j) = some (.int .i64 (zs[j]?.getD 0)) := by
        rcases HC.out with h | h
        · rw [h] at hlen
          simp at hlen
          omega
        · exact h
      have hcx := ((hK hnx).2 ad hA m).trans (hcs m hml)
      have hbx := (hK hnx).1.trans hBs
      clear hcs
      subst hA
      obtain ⟨z, hz⟩ : ∃ z, z = zs[m]?.getD 0 := ⟨_, rfl⟩
      rw [← hz] at hcx
      have hv : val (f k) = (m, z) := by rw [HF.out k hlt, ← hm, ← hz]
      obtain ⟨fn, tmps, assign, body, hy, hR⟩ := hY _ (f k) wr hJs (by rw [uptoB_length]; exact hlt)
      rw [hv] at hy
      dsimp only at hy
      rw [hmi]
      have HM := Aside0.mk hm
      have HZ := Aside0.mk hz
      clear hm hmi hz hv
      gi_wp2
      refine hR.mono ?_
      rintro e W3 (⟨rfl, hJ3, hk3⟩ | ⟨rfl, hJx3⟩)
      · gi_wp2
        go_roundw
        case rel => exact ⟨k + 1, by omega, by have hm := HM.out; first | (congr 1; omega) | (congr 1; unfold wrap64; omega) | (go_num; done) | (simp; omega), by rw [uptoB_succ]; exact hJ3, hKt hnx hk3⟩
        case measure => have hm := HM.out; first | (simp [intOf]; done) | (simp [intOf]; omega)
      · gi_wp2
        refine bodyPost_ret (results_none rfl _ _ _) rfl ?_
        exact ⟨⟨_, rfl⟩, .inr ⟨_, ⟨k + 1, by omega, (uptoB_succ _ _).symm⟩, hJx3⟩⟩
    · obtain rfl : k = len := by omega
      gi_wp2
      go_end0
      exact ⟨⟨_, rfl⟩, .inl ⟨_, rfl, hJs⟩⟩
theorem backward_stops {α : Type} (val : α → Nat × Int) (f : Nat → α) (F : Fence) (n : Nat) (h7 : F.fn 47) (hro : F.round = none) (hn : 1 ≤ n) (Bs cap : Nat) (A : Option Addr) (zs : List Int) (hf : ∀ j, j < zs.length → val (f j) = (zs.length - 1 - j, zs[zs.length - 1 - j]?.getD 0)) (hreach : zs.length * 8 ≤ 140737488351232) (Kp : World → World → Prop) (hKr : ∀ W, Kp W W) (hKt : ∀ {A B C : World}, Kp A B → Kp B C → Kp A C)
    (hK : ∀ {W W' : World}, Kp W W' → W'.cell? ⟨Bs, 0, none⟩ = W.cell? ⟨Bs, 0, none⟩ ∧ ∀ ad, A = some ad → ∀ j, W'.cell? (ad.add j) = W.cell? (ad.add j)) (w : World) (hBs : Bs < w.heap.size)
    (hc : w.cell? ⟨Bs, 0, none⟩ = some (.slice A zs.length cap)) (hI : zs = [] ∨ ∃ ad, A = some ad ∧ ad.block < w.heap.size ∧ ∀ j, j < zs.length → w.cell? (ad.add j) = some (.int .i64 (zs[j]?.getD 0))) :
    SeqStopsK F n Tryd.prog 47 #[.pointer (some ⟨Bs, 0, none⟩)] (fun x : α => #[Value.int .i64 ((val x).1 : Nat), Value.int .i64 (val x).2]) Kp (fun ys => ys = uptoB f zs.length) (fun _ => True) zs.length w := fun l J Jx W hW _ _ hY h0 => by
  have hc' := (hW.cell (p := ⟨Bs, 0, none⟩) hBs).trans hc
  refine (backward1_in val f F n h7 hro hn l Bs cap A zs hf hreach Kp hKr hKt hK J Jx hY W hc' (hI.imp id fun ⟨ad, e, hb, hcs⟩ => ⟨ad, e, fun j hj => (hW.cell (p := ad.add j) (by rw [add_block]; exact hb)).trans (hcs j hj)⟩) h0).mono ?_
  rintro e W' ⟨he, ⟨ys, rfl, hj⟩ | ⟨pre, ⟨k, hk, rfl⟩, hj⟩⟩
  · exact ⟨he, .inl ⟨_, rfl, hj⟩⟩
  · exact ⟨he, .inr ⟨_, trivial, hj⟩⟩
end
theorem backward_calls (A : Option Addr) (len cap : Nat) (w : World) : Calls Tryd.prog 41 #[.slice A len cap] w fun e w' => e = .returned (.func (.func 47) #[] #[.pointer (some ⟨w.heap.size, 0, none⟩)]) ∧ w' = w.alloc (.cells #[.slice A len cap] 25) := by
  go_enter Tryd.func41, Tryd.ntmps41
  go_wp2
  go_ret
  exact ⟨rfl, rfl⟩
theorem and_low (n : Nat) (hn : n < 4294967296) : Go.bits .and .u64 (n : Int) 4294967295 = (n : Int) := by
  have h := bits_mask .u64 63 (by decide) (fun n h0 h1 => by rw [IntKind.wrap_u64]; omega) 32 (by decide) (n : Int) (by omega) (by omega)
  have e : ((2 : Int) ^ 32 - 1) = 4294967295 := by decide
  have e2 : ((2 : Int) ^ 32) = 4294967296 := by decide
  rw [e, e2] at h
  rw [h]
  omega
theorem wu64 {x : Int} (h : 0 ≤ x) (h' : x < 18446744073709551616) : IntKind.u64.wrap x = x := by rw [IntKind.wrap_u64]; omega
theorem mul_one_ (n : Nat) (hn : n < 4294967296) : bits_Mul.f 1 (n : Int) = some (0, (n : Int)) := by
  unfold bits_Mul.f bits_Mul64.f
  rw [show Go.bits .and .u64 1 4294967295 = 1 from and_low 1 (by decide), and_low n hn, show (n : Int) / 4294967296 = 0 from by omega, show (1 : Int) / 4294967296 = 0 from by decide]
  simp only [Int.zero_mul, Int.mul_zero, Int.one_mul, wu64 (x := (n : Int)) (by omega) (by omega), show IntKind.u64.wrap 0 = 0 from by decide, show (n : Int) / 4294967296 = 0 from by omega, Int.add_zero, Option.bind_some]
  rfl
/-- A row of which the first k are x. -/
def partRow (x : Int) (k n : Nat) : List Value := List.replicate k (Value.int .i64 x) ++ List.replicate (n - k) (Value.int .i64 0)
theorem partRow_splice (x : Int) (k n m : Nat) (cur : List Value) (h : cur.take n = partRow x k n) (hn : n ≤ cur.length) (hk : k + m ≤ n) : (splice cur k (List.replicate m (Value.int .i64 x))).take n = partRow x (k + m) n := by
  have h0 : cur.take k = List.replicate k (Value.int .i64 x) := by
    have h1 := congrArg (List.take k) h
    rw [List.take_take, Nat.min_eq_left (by omega)] at h1
    rw [h1]
    unfold partRow
    rw [List.take_append_of_le_length (by simp)]
    simp
  have h2 : (cur.drop (k + m)).take (n - (k + m)) = List.replicate (n - (k + m)) (Value.int .i64 0) := by
    have h1 := congrArg (List.drop (k + m)) h
    rw [List.drop_take] at h1
    rw [h1]
    unfold partRow
    rw [List.drop_append, List.drop_of_length_le (by simp)]
    simp
    omega
  unfold splice partRow
  rw [h0, List.length_replicate, List.take_append, List.take_append, List.take_of_length_le (by simp; omega), List.length_replicate, List.take_of_length_le (by simp; omega), List.length_replicate, show n - k - m = n - (k + m) from by omega, h2, ← List.append_assoc, List.replicate_append_replicate]
theorem row_head {W : World} {base n : Nat} {e : Nat} {v : Value} (h : Kd.R (Kd.int .i64) e W base (fun _ => True) v (List.replicate n 0)) (hn : 1 ≤ n) : ∃ g cap cur, v = .slice (some ⟨g, 0, none⟩) n cap ∧ base ≤ g ∧ n ≤ cap ∧ cap ≤ maxLen ∧ cur.length = cap ∧ cur.take n = partRow 0 0 n ∧ W.heap[g]? = some (.cells (cur : List Value).toArray e (0, 0)) := by
  have ho := Kd.own_of_R h
  rw [List.length_replicate] at ho
  rcases ho.2 with ⟨_, h0⟩ | ⟨g, cap, cur, rfl, hb, hh, h1, h2, h3, h4⟩
  · omega
  · refine ⟨g, cap, cur.toList, rfl, hb, h1, h2, by rw [Array.length_toList]; omega, ?_, by simpa using hh⟩
    rw [Nat.mul_one] at h4
    rw [h4]
    simp [partRow, encs]
theorem row_src {W : World} {g e k m n : Nat} {cur : List Value} {x : Int} (hh : W.heap[g]? = some (.cells cur.toArray e (0, 0))) (hc : cur.take n = partRow x k n) (hm : m ≤ k) (hk : k ≤ n) {j : Nat} {v : Value} (hj : (List.replicate m (Value.int .i64 x))[j]? = some v) : W.cell? ((⟨g, 0, none⟩ : Addr).add j) = some v := by
  obtain ⟨h1, h2⟩ := List.getElem?_eq_some_iff.1 hj
  rw [List.length_replicate] at h1
  rw [List.getElem_replicate] at h2
  rw [add_plain, blk_cell hh]
  have h3 : (cur.take n)[j]? = (partRow x k n)[j]? := by rw [hc]
  rw [List.getElem?_take_of_lt (by omega)] at h3
  rw [List.getElem?_toArray, h3, ← h2]
  unfold partRow
  rw [List.getElem?_append_left (by rw [List.length_replicate]; omega), List.getElem?_replicate, if_pos (by omega)]
theorem one_src {W : World} {A : Option Addr} {x : Int} (h : Kd.C (Kd.int .i64) W A 1 [x]) : ∃ ad, A = some ad ∧ ∀ j v, [Value.int .i64 x][j]? = some v → W.cell? (ad.add j) = some v := by
  obtain ⟨ad, hA, hc⟩ := Kd.at_int h 0 (by omega) (by omega)
  refine ⟨ad, hA, fun j v hj => ?_⟩
  match j, hj with
  | 0, hj =>
    simp at hj
    rw [← hj]
    exact hc
  | j + 1, hj => simp at hj
set_option maxRecDepth 100000 in
set_option maxHeartbeats 4000000 in
/-- slices.Repeat of a list of one. -/
theorem repeat_calls (A : Option Addr) (c : Nat) (x : Int) (n : Nat) (hn1 : 1 ≤ n) (hn : n ≤ 1000000) (w : World) (hc1 : 1 ≤ c) (hr : Kd.C (Kd.int .i64) w A 1 [x]) :
    Calls Tryd.prog 40 #[.slice A 1 c, .int .i64 n] w fun e w' => ∃ g cap, e = .returned (.slice (some ⟨g, 0, none⟩) n cap) ∧ w'.ownsRow w.heap.size 3 1 (.slice (some ⟨g, 0, none⟩) n cap) n (List.replicate n (Value.int .i64 x)) ∧ Below w.heap.size w w' := by
  have HC := Aside0.mk hr
  have hm := mul_one_ n (by omega)
  have h64 : IntKind.u64.wrap (n : Int) = (n : Int) := wu64 (by omega) (by omega)
  have hi64 : IntKind.i64.wrap (n : Int) = (n : Int) := by rw [i64_w]; unfold wrap64; omega
  have HM := Aside0.mk hm
  clear hr hm
  go_enter Tryd.func40, Tryd.ntmps40
  go_wp2_with (first | (go_at_call 46; refine (bits_Mul.calls 1 n 0 n _ HM.out).mono ?_; rintro e w' ⟨rfl, ⟨nd, rfl⟩⟩) | ((with_reducible refine gate_dst (N := 30) rfl ?_); refine Kd.R_make (Kd.int .i64) (w0 := w) w.heap.size 3 rfl (N := 30) rfl 25 _ _ rfl (n : Int) rfl rfl Tryd.underlying25 (.int .i64 0) 8 info3 rfl (by decide) (by omega) 0 (ok := fun _ => True) (okp := fun _ => True) rfl (fun _ hk => hk) trivial (by omega) (by omega) (pw_below_drewN (Below.refl _ _) _) (Nat.le_refl _) ?_; intro v30 w30 ho30 hb30 hg_ hnew_; clear hg_ hnew_; rw [Int.toNat_natCast] at ho30; obtain ⟨g, cap, cur, rfl, hgb, hnc, hcm, hlc, htk, hhg⟩ := row_head ho30 hn1; have HG := Aside0.mk hhg; have HB30 := Aside0.mk hb30; have HTK := Aside0.mk htk; clear ho30 hb30 hhg htk) | ((with_reducible refine gate_builtin (b := .copy) (xs := #[.tmp 31, .tmp 32]) rfl ?_); refine wpList_copy_splice rfl (.tmp 31) (.tmp 32) 25 25 rfl 3 Tryd.underlying25 (by kernel_rfl) (some ⟨g, 0, none⟩) A n cap 1 c rfl rfl g 0 cur 3 HG.out [.int .i64 x] (show 1 = Nat.min 1 n from (Nat.min_eq_left hn1).symm) (fun _ => ⟨rfl, one_src (Kd.C_below HC.out HB30.out)⟩) (by simp; omega) (by intro v hv; simp at hv; subst hv; rfl) w.heap.size w HB30.out hgb ?_; intro w33 hg33 hb33; have HG33 := Aside0.mk hg33; have HB33 := Aside0.mk hb33; clear hg33 hb33))
  go_loopg [8] n (fun gg v8 wr => ∃ (k : Nat) (cur : List Value), v8 = .int .i64 k ∧ 1 ≤ k ∧ k ≤ n ∧ n - k ≤ gg ∧ Aside0 (cur.length = cap ∧ cur.take n = partRow x k n ∧ wr.heap[g]? = some (.cells cur.toArray 3 (0, 0))) ∧ Aside0 (Below w.heap.size w wr))
  case atStart =>
    refine ⟨1, _, rfl, Nat.le_refl _, hn1, by omega, ⟨by rw [length_splice _ _ _ (by simp; omega)]; exact hlc, ?_, HG33.out⟩, HB33⟩
    have := partRow_splice x 0 n 1 cur (by rw [HTK.out]; simp [partRow]) (by omega) (by omega)
    simpa using this
  case round =>
    obtain ⟨k, cur, rfl, hk1, hkn, hgg, HW, HB⟩ := hrel
    clear HG33 HB33 HG HB30 HTK
    by_cases hlt : k < n
    · obtain ⟨m, hm⟩ : ∃ m, m = Nat.min k (n - k) := ⟨_, rfl⟩
      have hmk : m ≤ k := by rw [hm]; exact Nat.min_le_left _ _
      have hmn : m ≤ n - k := by rw [hm]; exact Nat.min_le_right _ _
      have hm1 : 1 ≤ m := by rw [hm]; show 1 ≤ min k (n - k); omega
      have hs41 : ∀ W, (Instr.slice 25 (.slice (some ⟨g, 0, none⟩) n cap) (some (.int .i64 (k : Int))) none none).run Tryd.prog W = .ok (.slice (some ⟨g, k, none⟩) (n - k) (cap - k)) W := by
        intro W
        have hu : Tryd.prog.underlying 25 = some (.slice (Tryd.prog.elem 25)) := by kernel_rfl
        obtain ⟨i0, hi, hz0, hz1, hz2⟩ := info_parts info3
        rw [run_slice_l W 25 (some ⟨g, 0, none⟩) n cap hu .i64 (k : Int) (by omega) (by omega), show Tryd.prog.elem 25 = 3 from by kernel_rfl]
        simp [sizeOf, typeInfo, hi, hz1, sliced, Result.andThen, show ¬ cap = k from by omega, Addr.add]
        omega
      have hs44 : ∀ W, (Instr.slice 25 (.slice (some ⟨g, 0, none⟩) n cap) none (some (.int .i64 (k : Int))) none).run Tryd.prog W = .ok (.slice (some ⟨g, 0, none⟩) k cap) W := by
        intro W
        have hu : Tryd.prog.underlying 25 = some (.slice (Tryd.prog.elem 25)) := by kernel_rfl
        obtain ⟨i0, hi, hz0, hz1, hz2⟩ := info_parts info3
        rw [run_slice_h W 25 (some ⟨g, 0, none⟩) n cap hu .i64 (k : Int) (by omega) (by omega), show Tryd.prog.elem 25 = 3 from by kernel_rfl]
        simp [sizeOf, typeInfo, hi, hz1, sliced, Result.andThen, Addr.add]
      have HMN := Aside0.mk hm
      clear hm
      have hltz : (k : Int) < (n : Int) := by omega
      go_wp2_with fail
      refine start_ (n := 10) (S := fun _ => True) (ds := []) #[false, false, false, false, false, false, false, false, false, false] mixedL rfl rfl trivial (fun hHeld => ?_)
      have HBd := Aside0.mk (below_drew HB.out)
      have HWd := Aside0.mk (blk_drew HW.out.2.2)
      generalize wr.drew = wd at HBd HWd ⊢
      refine pure_ (i := 0) (N := some 38) (v := ?_) (a' := ?_) #[true, false, false, false, false, false, false, false, false, false] rfl rfl (by kernel_rfl) (fun _ _ _ h => h) (Or.inl ⟨by rfl, ?_⟩) ?_ ?_
      rotate_left
      · intro w'
        go_simp
        with_reducible rfl
      rotate_left
      · simp only [Act.put, List.setIfInBounds_toArray, List.set_cons_zero, List.set_cons_succ, i64_w, i32_w]
        rfl
      refine pure_ (i := 1) (N := some 39) (v := ?_) (a' := ?_) #[true, true, false, false, false, false, false, false, false, false] rfl rfl (by kernel_rfl) (fun _ _ _ h => h) (Or.inl ⟨by rfl, ?_⟩) ?_ ?_
      rotate_left
      · intro w'
        go_simp
        with_reducible rfl
      rotate_left
      · simp only [Act.put, List.setIfInBounds_toArray, List.set_cons_zero, List.set_cons_succ, i64_w, i32_w]
        rfl
      refine pure_ (i := 2) (N := some 40) (v := ?_) (a' := ?_) #[true, true, true, false, false, false, false, false, false, false] rfl rfl (by kernel_rfl) (fun _ _ _ h => h) (Or.inl ⟨by rfl, ?_⟩) ?_ ?_
      rotate_left
      · intro w'
        go_simp
        with_reducible rfl
      rotate_left
      · simp only [Act.put, List.setIfInBounds_toArray, List.set_cons_zero, List.set_cons_succ, i64_w, i32_w]
        rfl
      refine pure_ (i := 3) (N := some 41) (v := .slice (some ⟨g, k, none⟩) (n - k) (cap - k)) (a' := ?_) #[true, true, true, true, false, false, false, false, false, false] rfl rfl (by kernel_rfl) (fun _ _ _ h => h) (Or.inl ⟨by rfl, ?_⟩) ?_ ?_
      · intro w'
        have h_ := hs41 w'
        go_simp
        first | done | (rw [h_]; rfl)
      rotate_left
      · simp only [Act.put, List.setIfInBounds_toArray, List.set_cons_zero, List.set_cons_succ, i64_w, i32_w]
        rfl
      refine pure_ (i := 4) (N := some 42) (v := ?_) (a' := ?_) #[true, true, true, true, true, false, false, false, false, false] rfl rfl (by kernel_rfl) (fun _ _ _ h => h) (Or.inl ⟨by rfl, ?_⟩) ?_ ?_
      rotate_left
      · intro w'
        go_simp
        with_reducible rfl
      rotate_left
      · simp only [Act.put, List.setIfInBounds_toArray, List.set_cons_zero, List.set_cons_succ, i64_w, i32_w]
        rfl
      refine pure_ (i := 5) (N := some 43) (v := ?_) (a' := ?_) #[true, true, true, true, true, true, false, false, false, false] rfl rfl (by kernel_rfl) (fun _ _ _ h => h) (Or.inl ⟨by rfl, ?_⟩) ?_ ?_
      rotate_left
      · intro w'
        go_simp
        with_reducible rfl
      rotate_left
      · simp only [Act.put, List.setIfInBounds_toArray, List.set_cons_zero, List.set_cons_succ, i64_w, i32_w]
        rfl
      refine pure_ (i := 6) (N := some 44) (v := .slice (some ⟨g, 0, none⟩) k cap) (a' := ?_) #[true, true, true, true, true, true, true, false, false, false] rfl rfl (by kernel_rfl) (fun _ _ _ h => h) (Or.inl ⟨by rfl, ?_⟩) ?_ ?_
      · intro w'
        have h_ := hs44 w'
        go_simp
        first | done | (rw [h_]; rfl)
      rotate_left
      · simp only [Act.put, List.setIfInBounds_toArray, List.set_cons_zero, List.set_cons_succ, i64_w, i32_w]
        rfl
      refine one_ (i := 7) (N := some 45) #[true, true, true, true, true, true, true, true, false, false] rfl rfl (by kernel_rfl) (by decide) (fun K hK => ?_)
      refine step_copy_splice rfl (.tmp 41) (.tmp 44) 25 25 rfl 3 Tryd.underlying25 (by kernel_rfl) (some ⟨g, k, none⟩) (some ⟨g, 0, none⟩) (n - k) (cap - k) k cap rfl rfl g k cur 3 HWd.out (List.replicate m (Value.int .i64 x)) (by rw [List.length_replicate]; exact HMN.out) (fun _ => ⟨rfl, _, rfl, ?_⟩) (by rw [List.length_replicate]; have := HW.out.1; omega) (by intro v hv; rw [List.eq_of_mem_replicate hv]; rfl) w.heap.size w HBd.out hgb ?_
      · intro j v hj
        exact row_src HWd.out HW.out.2.1 (by omega) (by omega) hj
      intro w7 hg7 hb7
      have HW7 := Aside0.mk hg7
      have HB7 := Aside0.mk hb7
      clear hg7 hb7
      rw [List.length_replicate] at *
      refine hK.out _ _ trivial (fun hHeld => ?_)
      clear hK K
      refine norm_ (a' := ?_) ?_ ?_
      rotate_left
      · show Act.put _ (some 45) _ = _
        simp only [Act.put, goInt, List.setIfInBounds_toArray, List.set_cons_zero, List.set_cons_succ, i64_w, i32_w]
        rfl
      refine pure_ (i := 8) (N := some 46) (v := ?_) (a' := ?_) #[true, true, true, true, true, true, true, true, true, false] rfl rfl (by kernel_rfl) (fun _ _ _ h => h) (Or.inl ⟨by rfl, ?_⟩) ?_ ?_
      rotate_left
      · intro w'
        go_simp
        with_reducible rfl
      rotate_left
      · simp only [Act.put, List.setIfInBounds_toArray, List.set_cons_zero, List.set_cons_succ, i64_w, i32_w]
        rfl
      refine pure_ (i := 9) (N := some 8) (v := ?_) (a' := ?_) #[true, true, true, true, true, true, true, true, true, true] rfl rfl (by kernel_rfl) (fun _ _ _ h => h) (Or.inl ⟨by rfl, ?_⟩) ?_ ?_
      rotate_left
      · intro w'
        go_simp
        with_reducible rfl
      rotate_left
      · simp only [Act.put, List.setIfInBounds_toArray, List.set_cons_zero, List.set_cons_succ, i64_w, i32_w]
        rfl
      refine done_ (by kernel_rfl) ?_
      go_wp2_with fail
      go_roundg (n - (k + m))
      case measure => omega
      case rel =>
        refine ⟨k + m, splice cur k (List.replicate m (Value.int .i64 x)), by congr 1; unfold wrap64; omega, by omega, by omega, by omega, ⟨by rw [length_splice _ _ _ (by rw [List.length_replicate]; have := HW.out.1; omega)]; exact HW.out.1, ?_, HW7.out⟩, HB7⟩
        have hl1 : cur.length = cap := HW.out.1
        have hl2 : n ≤ cur.length := by rw [hl1]; exact hnc
        exact partRow_splice x k n m cur HW.out.2.1 hl2 (by omega)
    · obtain rfl : k = n := by omega
      go_wp2
      go_ret
      obtain ⟨h1, h2, h3⟩ := HW.out
      refine ⟨g, cap, rfl, ⟨by simp, .inr ⟨g, cap, cur.toArray, rfl, hgb, h3, hnc, hcm, by simp; omega, ?_⟩⟩, HB.out⟩
      rw [Nat.mul_one]
      show cur.take k = _
      rw [h2]
      simp [partRow]
/-- A row gone over from its end: places and numbers. -/
def backTo (zs : List Int) : List (Nat × Int) := (List.range zs.length).map fun j => (zs.length - 1 - j, zs[zs.length - 1 - j]?.getD 0)
/-- One place: what the inner loop makes of its number: n rounds from the place 'to' on. -/
def relax (row : List Int) : Nat → Nat → Int → Int
  | 0, _, cur => cur
  | n + 1, p, cur => relax row n (p + 1) (if 0 ≤ rd row (p : Int) ∧ (cur < 0 ∨ wrap64 (rd row (p : Int) + 1) < cur) then wrap64 (rd row (p : Int) + 1) else cur)
/-- .. of the whole row. -/
def relaxed (leap : Nat) (row : List Int) (fr : Nat) : List Int := row.set fr (relax row (min (fr + leap) (row.length - 1) - fr) (fr + 1) (rd row (fr : Int)))
theorem relaxed_length (leap : Nat) (row : List Int) (fr : Nat) : (relaxed leap row fr).length = row.length := by simp [relaxed]
/-- .. of a list of places, the last one first. -/
def leftRow (leap : Nat) (row : List Int) (l : List (Nat × Int)) : List Int := l.foldl (fun row x => relaxed leap row x.2.toNat) row
theorem leftRow_length (leap : Nat) : ∀ (l : List (Nat × Int)) (row : List Int), (leftRow leap row l).length = row.length
  | [], _ => rfl
  | x :: l, row => by
    rw [leftRow, List.foldl_cons, ← leftRow, leftRow_length leap l, relaxed_length]
theorem leftRow_snoc (leap : Nat) (row : List Int) (l : List (Nat × Int)) (x : Nat × Int) : leftRow leap row (l ++ [x]) = relaxed leap (leftRow leap row l) x.2.toNat := by simp [leftRow]
/-- The start: -1 everywhere, 0 on the far bank. -/
def leftStart (n : Nat) : List Int := (List.replicate (n + 2) (-1)).set (n + 1) 0
def impl_leapsLeft.f (k : Nat) (a0 : ByteArray) (a1 : Int) : Option (List Int) := if a0.size ≤ 1000 ∧ 1 ≤ a1 ∧ a1 ≤ 1000 then (impl_stand.f k a0).bind fun st => if (st.all fun x => decide (0 ≤ x) && decide (x ≤ (a0.size : Int) + 1)) = true ∧ st.length ≤ 2000 then some (leftRow a1.toNat (leftStart a0.size) (backTo st)) else none else none
theorem impl_leapsLeft.mono : ∀ a0 a1 k, LeO (impl_leapsLeft.f k a0 a1) (impl_leapsLeft.f (k + 1) a0 a1) := by
  intro a0 a1 k
  unfold impl_leapsLeft.f
  repeat' first
      | (with_reducible exact impl_stand.mono _ _)
      | (with_reducible exact LeO.refl _)
      | (with_reducible exact LeO.none _)
      | (with_reducible refine LeO.ite ?_ ?_)
      | (with_reducible refine LeO.bind ?_ (fun _ => ?_))
/-- A row of one's own at the head of its block. -/
def RowAt (W : World) (go N cap : Nat) (row : List Int) : Prop := ∃ cur : Array Value, W.heap[go]? = some (.cells cur 3 (0, 0)) ∧ cur.size = cap ∧ N ≤ cap ∧ cap ≤ maxLen ∧ row.length = N ∧ cur.toList.take N = nums .i64 row
theorem RowAt.cell {W : World} {go N cap : Nat} {row : List Int} (h : RowAt W go N cap row) (j : Nat) (hj : j < N) : W.cell? ⟨go, j, none⟩ = some (.int .i64 (rd row (j : Int))) := by
  obtain ⟨cur, h1, h2, h3, h4, h5, h6⟩ := h
  rw [blk_cell h1]
  have h7 : (cur.toList.take N)[j]? = (nums .i64 row)[j]? := by rw [h6]
  rw [List.getElem?_take_of_lt hj, Array.getElem?_toList] at h7
  rw [h7]
  simp [nums, rd, List.getD_eq_getElem?_getD, List.getElem?_eq_getElem (show j < row.length by omega)]
theorem RowAt.frozen {W : World} {go N cap : Nat} {row : List Int} (h : RowAt W go N cap row) (j : Nat) : W.frozen? ⟨go, j, none⟩ = false := by
  obtain ⟨cur, h1, _⟩ := h
  exact blk_frozen h1 j
theorem RowAt.set {W : World} {go N cap : Nat} {row : List Int} (h : RowAt W go N cap row) (j : Nat) (v : Int) : RowAt (W.setCell ⟨go, j, none⟩ (.int .i64 v)) go N cap (row.set j v) := by
  obtain ⟨cur, h1, h2, h3, h4, h5, h6⟩ := h
  refine ⟨cur.setIfInBounds j (.int .i64 v), blk_set h1 j _, by simpa using h2, h3, h4, by simpa using h5, ?_⟩
  rw [Array.toList_setIfInBounds, List.take_set, h6]
  simp [nums, List.map_set]
theorem RowAt.keep {W W' : World} {go N cap : Nat} {row : List Int} (h : RowAt W go N cap row) (hk : W'.heap[go]? = W.heap[go]?) : RowAt W' go N cap row := by
  obtain ⟨cur, h1, h2⟩ := h
  exact ⟨cur, hk.trans h1, h2⟩
theorem RowAt.lt {W : World} {go N cap : Nat} {row : List Int} (h : RowAt W go N cap row) : go < W.heap.size := by
  obtain ⟨cur, h1, _⟩ := h
  exact blk_lt h1
theorem RowAt.of_own {W : World} {base go N cap : Nat} {row : List Int} (hN : 1 ≤ N) (h : W.ownsRow base 3 1 (.slice (some ⟨go, 0, none⟩) N cap) N (nums .i64 row)) : RowAt W go N cap row ∧ base ≤ go := by
  have hl : row.length = N := by have := h.1; simp [nums] at this; exact this
  rcases h.2 with ⟨_, h0⟩ | ⟨g, c, cur, hv, hb, hh, h1, h2, h3, h4⟩
  · omega
  · injection hv with e1 e2 e3
    injection e1 with e1
    injection e1 with e1
    subst e1
    subst e3
    exact ⟨⟨cur, hh, by omega, h1, h2, hl, by simpa using h4⟩, hb⟩
theorem RowAt.own {W : World} {base go N cap : Nat} {row : List Int} (h : RowAt W go N cap row) (hb : base ≤ go) : W.ownsRow base 3 1 (.slice (some ⟨go, 0, none⟩) N cap) N (nums .i64 row) := by
  obtain ⟨cur, h1, h2, h3, h4, h5, h6⟩ := h
  exact ⟨by simp [nums, h5], .inr ⟨go, cap, cur, rfl, hb, h1, h3, h4, by omega, by simpa using h6⟩⟩
theorem row_base {e : Nat} {W : World} {base n c : Nat} {ok : Nat → Prop} {A : Option Addr} {xs : List Int} (h : Kd.R (Kd.int .i64) e W base ok (.slice A n c) xs) : ∀ ad, A = some ad → base ≤ ad.block ∧ ad.block < W.heap.size := fun ad hA => ⟨own_base (Kd.own_of_R h) ad.block (by rw [hA]; simp [Value.ownBlock]), own_lt (Kd.own_of_R h) ad.block (by rw [hA]; simp [Value.ownBlock])⟩
theorem cell_same {W W' : World} {p : Addr} (h : W'.heap[p.block]? = W.heap[p.block]?) : W'.cell? p = W.cell? p := by simp only [World.cell?, h]
theorem blk_still {W W' : World} {B k t : Nat} {cs : Array Value} {row : Option Nat} (h : W.heap[k]? = some (.cells cs t (0, 0))) (hg : W.grownBy W' row) (hr : ∀ r, row = some r → B ≤ r ∧ ∃ o : Obj, W.heap[r]? = some o ∧ o.isCells = false) : W'.heap[k]? = some (.cells cs t (0, 0)) :=
  (hg.block k (blk_lt h) (fun e => by
    obtain ⟨_, o, ho, hc⟩ := hr k e.symm
    rw [h] at ho
    cases ho
    cases hc)).trans h
theorem row_still {W W' : World} {B go N cap : Nat} {r : List Int} {row : Option Nat} (h : RowAt W go N cap r) (hg : W.grownBy W' row) (hr : ∀ r, row = some r → B ≤ r ∧ ∃ o : Obj, W.heap[r]? = some o ∧ o.isCells = false) : RowAt W' go N cap r := by
  obtain ⟨cur, h1, h2⟩ := h
  exact ⟨cur, blk_still h1 hg hr, h2⟩
theorem set_same (l : List Int) (i : Nat) (h : i < l.length) : l.set i (rd l (i : Int)) = l := by
  apply List.ext_getElem?
  intro j
  by_cases e : i = j
  · subst e
    rw [List.getElem?_set_self h]
    simp [rd, List.getD_eq_getElem?_getD, List.getElem?_eq_getElem h]
  · rw [List.getElem?_set_ne e]
theorem rd_set_ne (l : List Int) (i j : Nat) (v : Int) (h : j ≠ i) : rd (l.set i v) (j : Int) = rd l (j : Int) := by
  simp only [rd, Int.toNat_natCast, List.getD_eq_getElem?_getD, List.getElem?_set_ne (Ne.symm h)]
theorem rd_set_eq (l : List Int) (i : Nat) (v : Int) (h : i < l.length) : rd (l.set i v) (i : Int) = v := by
  simp [rd, List.getD_eq_getElem?_getD, List.getElem?_set_self h]
theorem keeps_same {B : Nat} {W W' : World} (h : W'.heap = W.heap) : KeepsFrom B W W' := ⟨by rw [h]; exact Nat.le_refl _, fun k o _ ho _ => by rw [h]; exact ho⟩
theorem nums_rep (n : Nat) (x : Int) : List.replicate n (Value.int .i64 x) = nums .i64 (List.replicate n x) := by simp [nums]
section
attribute [local go_sem] Oper.semAt_some
set_option maxHeartbeats 8000000 in
set_option maxRecDepth 100000 in
theorem impl_leapsLeft.calls (k : Nat) (a0 : ByteArray) (a1 : Int) (r : List Int) (w : World) (h : impl_leapsLeft.f k a0 a1 = some r) :
    Calls Tryd.prog 31 #[.string a0, .int .i64 a1] w fun e w' => ∃ v0_ : Value, e = .returned (v0_) ∧ Kd.R (Kd.int .i64) 3 w' w.heap.size (fun _ => True) v0_ r ∧ Below w.heap.size w w' := by
  unfold impl_leapsLeft.f at h
  have hm : a0.size ≤ 1000 ∧ 1 ≤ a1 ∧ a1 ≤ 1000 := by
    by_cases hm : a0.size ≤ 1000 ∧ 1 ≤ a1 ∧ a1 ≤ 1000
    · exact hm
    · rw [if_neg hm] at h
      cases h
  rw [if_pos hm] at h
  obtain ⟨st, hst, h⟩ := Option.bind_eq_some_iff.mp h
  have hb : (st.all fun x => decide (0 ≤ x) && decide (x ≤ (a0.size : Int) + 1)) = true ∧ st.length ≤ 2000 := by
    by_cases hb : (st.all fun x => decide (0 ≤ x) && decide (x ≤ (a0.size : Int) + 1)) = true ∧ st.length ≤ 2000
    · exact hb
    · rw [if_neg hb] at h
      cases h
  rw [if_pos hb] at h
  obtain rfl := Option.some.inj h
  clear h
  obtain ⟨hm0, hm1, hm2⟩ := hm
  obtain ⟨lp, rfl⟩ : ∃ lp : Nat, a1 = (lp : Int) := ⟨a1.toNat, by omega⟩
  rw [Int.toNat_natCast]
  obtain ⟨n, hn⟩ : ∃ n, n = a0.size := ⟨_, rfl⟩
  have HST := Aside0.mk hst
  have HBS := Aside0.mk hb
  have HN := Aside0.mk hn
  have hN1 : wrap64 ((a0.size : Int) + 1) = ((a0.size + 1 : Nat) : Int) := by unfold wrap64; omega
  have hN2 : wrap64 ((a0.size : Int) + 2) = ((a0.size + 2 : Nat) : Int) := by unfold wrap64; omega
  have HN1 := Aside0.mk hN1
  have HN2 := Aside0.mk hN2
  clear hst hb hn hN1 hN2
  obtain ⟨wB, hwB⟩ : ∃ wB, wB = (w.alloc (.cells #[.string a0] 9)).alloc (.cells #[.int .i64 (lp : Int)] 3) := ⟨_, rfl⟩
  have HWB := Aside0.mk hwB
  have HR0 := Aside0.mk (show wB.heap[w.heap.size]? = some (.cells #[.string a0] 9 (0, 0)) from by rw [hwB]; exact blk_alloc (blk_new w _) _)
  have HL0 := Aside0.mk (show wB.heap[w.heap.size + 1]? = some (.cells #[.int .i64 (lp : Int)] 3 (0, 0)) from by rw [hwB]; exact (by have h_ := blk_new (w.alloc (.cells #[.string a0] 9)) (.cells #[.int .i64 (lp : Int)] 3); simpa using h_))
  have HBB := Aside0.mk (show Below w.heap.size w wB from by rw [hwB]; exact below_alloc (below_alloc (Below.refl _ _) _) _)
  clear hwB
  refine (callsIn_wide (n := 5)).1 (callsIn_of_wp_marks Tryd.func31 rfl trivial (wpIn_wide.2 ?_) rfl)
  simp only [Tryd.ntmps31, List.size_toArray, List.length_cons, List.length_nil, Nat.reduceAdd, Nat.reduceSub, Array.replicate_succ, Array.replicate_zero, List.push_toArray, List.append_toArray, List.nil_append, List.cons_append]
  go_wp2_with (first
    | ((with_reducible refine gate_dst (N := 9) rfl ?_); rw [← HWB.out]; refine Kd.R_lit (Kd.int .i64) (w0 := w) w.heap.size 3 ?hg (N := 9) ?hd (xs := ([-1] : List Int)) (inner := [.int .i64 (-1)]) (ok := fun _ => True) (okp := fun _ => True) ?hr ?hp (fun _ hk => hk) trivial HBB.out (below_size HBB.out) (by simp) ?_; (case hd => rfl); (case hg => rfl); (case hr => first | (go_simp; done) | (go_simp; rfl)); (case hp => exact (Reps.one (show Kd.M (Kd.int .i64) _ _ _ (-1) [.int .i64 (-1)] from rfl) (Reps.none _ _))); intro v9 w9 ho9 hb9 hg9 hnew_; have HB9 := Aside0.mk hb9; have HR9 := Aside0.mk (blk_grown HR0.out hg9 (by simp)); have HL9 := Aside0.mk (blk_grown HL0.out hg9 (by simp)); obtain ⟨A9, c9, rfl, hc9, hC9⟩ := Kd.R_reads ho9; have HC9 := Aside0.mk hC9; have hcr9 : w9.cell? ⟨w.heap.size, 0, none⟩ = some (.string a0) := blk_cell HR9.out 0; clear ho9 hb9 hg9 hnew_ hC9)
    | (go_at_call 40; refine calls_of_args (args' := #[.slice A9 1 c9, .int .i64 ((a0.size + 2 : Nat) : Int)]) (by first | rfl | (simp only [HN2.out]; rfl)) ?_; refine (repeat_calls A9 c9 (-1) (a0.size + 2) (by omega) (by omega) w9 hc9 HC9.out).mono ?_; rintro e w13 ⟨go, c13, rfl, hrow13, hb13⟩; rw [nums_rep] at hrow13; obtain ⟨hra13, hgo13⟩ := RowAt.of_own (by omega) hrow13; have HRA13 := Aside0.mk hra13; have HGO := Aside0.mk hgo13; have HB13 := Aside0.mk hb13; have HR13 := Aside0.mk (blk_below HR9.out hb13); have HL13 := Aside0.mk (blk_below HL9.out hb13); clear hrow13 hra13 hgo13 hb13 hcr9)
    | ((with_reducible refine gate_dst (N := 14) rfl ?_); (obtain ⟨wS, hwS⟩ : ∃ wS, wS = w13.alloc (.cells #[.slice (some ⟨go, 0, none⟩) (a0.size + 2) c13] 25) := ⟨_, rfl⟩); rw [← hwS]; have HBS13 := Aside0.mk (show Below w13.heap.size w13 wS from by rw [hwS]; exact below_alloc (Below.refl _ _) _); have HOS := Aside0.mk (show wS.heap[w13.heap.size]? = some (.cells #[.slice (some ⟨go, 0, none⟩) (a0.size + 2) c13] 25 (0, 0)) from by rw [hwS]; exact blk_new w13 _); have HRS := Aside0.mk (blk_below HR13.out HBS13.out); have HLS := Aside0.mk (blk_below HL13.out HBS13.out); have HRAS := Aside0.mk (HRA13.out.keep (HBS13.out.block go HRA13.out.lt)); have hcrS : wS.cell? ⟨w.heap.size, 0, none⟩ = some (.string a0) := blk_cell HRS.out 0; have hcoS : wS.cell? ⟨w13.heap.size, 0, none⟩ = some (.slice (some ⟨go, 0, none⟩) (a0.size + 2) c13) := blk_cell HOS.out 0; have hcxS := HRAS.out.cell (a0.size + 1) (by omega); have hfxS := HRAS.out.frozen (a0.size + 1); clear hwS)
    | ((with_reducible refine gate_dst (N := 19) rfl ?_); (obtain ⟨wT, hwT⟩ : ∃ wT, wT = wS.setCell ⟨go, a0.size + 1, none⟩ (.int .i64 0) := ⟨_, rfl⟩); rw [← hwT]; have HRAT := Aside0.mk (show RowAt wT go (a0.size + 2) c13 (leftStart a0.size) from by rw [hwT]; exact HRAS.out.set (a0.size + 1) 0); have hne := (show w.heap.size ≠ go ∧ w.heap.size + 1 ≠ go ∧ w13.heap.size ≠ go from ⟨by have := blk_lt HR9.out; have := HGO.out; omega, by have := blk_lt HL9.out; have := HGO.out; omega, by have := HRA13.out.lt; omega⟩); have HRT := Aside0.mk (show wT.heap[w.heap.size]? = some (.cells #[.string a0] 9 (0, 0)) from by rw [hwT]; exact (Below.heap_setCell wS ⟨go, a0.size + 1, none⟩ _ _ hne.1).trans HRS.out); have HLT := Aside0.mk (show wT.heap[w.heap.size + 1]? = some (.cells #[.int .i64 (lp : Int)] 3 (0, 0)) from by rw [hwT]; exact (Below.heap_setCell wS ⟨go, a0.size + 1, none⟩ _ _ hne.2.1).trans HLS.out); have HOT := Aside0.mk (show wT.heap[w13.heap.size]? = some (.cells #[.slice (some ⟨go, 0, none⟩) (a0.size + 2) c13] 25 (0, 0)) from by rw [hwT]; exact (Below.heap_setCell wS ⟨go, a0.size + 1, none⟩ _ _ hne.2.2).trans HOS.out); have HBT := Aside0.mk (show Below w.heap.size w wT from by rw [hwT]; exact below_set (below_step (below_step HB9.out HB13.out) HBS13.out) (Nat.le_trans (below_size HB9.out) HGO.out)); have hcrT : wT.cell? ⟨w.heap.size, 0, none⟩ = some (.string a0) := blk_cell HRT.out 0; clear hwT hne)
    | (go_at_call 42; refine (impl_stand.calls k a0 st wT HST.out).mono ?_; rintro e w20 ⟨v20, rfl, ho20, hb20⟩; obtain ⟨A20, c20, rfl, hc20, hC20⟩ := Kd.R_reads ho20; have HC20 := Aside0.mk hC20; have HB20 := Aside0.mk hb20; have HA20 := Aside0.mk (row_base ho20); clear ho20 hb20 hC20 hcrT hcxS hfxS hcoS hcrS)
    | (go_at_call 41; refine (backward_calls A20 st.length c20 w20).mono ?_; rintro e wU ⟨rfl, hwU⟩; have HWU := Aside0.mk hwU; have HBU := Aside0.mk (show Below w20.heap.size w20 wU from by rw [hwU]; exact below_alloc (Below.refl _ _) _); have HVU := Aside0.mk (show wU.heap[w20.heap.size]? = some (.cells #[.slice A20 st.length c20] 25 (0, 0)) from by rw [hwU]; exact blk_new w20 _); have HTU := Aside0.mk (below_step HB20.out HBU.out); clear hwU))
  have hst := HBS.out
  rw [List.all_eq_true] at hst
  obtain ⟨hst1, hst2⟩ := hst
  have hrg : ∀ j, j < st.length → 0 ≤ (st[st.length - 1 - j]?.getD 0) ∧ (st[st.length - 1 - j]?.getD 0) ≤ (a0.size : Int) + 1 := by
    intro j hj
    rw [List.getElem?_eq_getElem (by omega)]
    have h_ := hst1 _ (List.getElem_mem (show st.length - 1 - j < st.length by omega))
    simpa using h_
  have HRG := Aside0.mk hrg
  have hbk : backTo st = (uptoB (fun j => if h : j < st.length then (⟨(st.length - 1 - j, st[st.length - 1 - j]?.getD 0), HRG.out j h⟩ : {x : Nat × Int // 0 ≤ x.2 ∧ x.2 ≤ (a0.size : Int) + 1}) else ⟨(0, 0), by simp; omega⟩) st.length).map (·.1) := by
    unfold backTo uptoB
    rw [List.map_map]
    apply List.map_congr_left
    intro j hj
    rw [List.mem_range] at hj
    simp only [Function.comp, hj, dite_true]
  have HBK := Aside0.mk hbk
  have hlU := blk_lt HVU.out
  have HRU := Aside0.mk (blk_below HRT.out HTU.out)
  have HLU := Aside0.mk (blk_below HLT.out HTU.out)
  have HOU := Aside0.mk (blk_below HOT.out HTU.out)
  have HRAU := Aside0.mk (HRAT.out.keep (HTU.out.block go HRAT.out.lt))
  have HBUU := Aside0.mk (below_step HBT.out HTU.out)
  have hgo0 : w.heap.size ≤ go := Nat.le_trans (below_size HB9.out) HGO.out
  have hne0 : w.heap.size ≠ go ∧ w.heap.size + 1 ≠ go ∧ w13.heap.size ≠ go := ⟨by have := blk_lt HR9.out; have := HGO.out; omega, by have := blk_lt HL9.out; have := HGO.out; omega, by have := HRA13.out.lt; omega⟩
  have hbs0 : w20.heap.size ≠ go := by have := HRAT.out.lt; have := below_size HB20.out; omega
  have hlR := blk_lt HRU.out
  have hlL := blk_lt HLU.out
  have hlO := blk_lt HOU.out
  have hlG := HRAU.out.lt
  have HNE := Aside0.mk hne0
  have hA20 : ∀ ad, A20 = some ad → ad.block < wU.heap.size ∧ ad.block ≠ go := by
    intro ad hA
    have h1 := HA20.out ad hA
    have h2 := HRAT.out.lt
    have h3 := below_size HBU.out
    exact ⟨by omega, by omega⟩
  have hIU : st = [] ∨ ∃ ad, A20 = some ad ∧ ad.block < wU.heap.size ∧ ∀ j, j < st.length → wU.cell? (ad.add j) = some (.int .i64 (st[j]?.getD 0)) := by
    rcases Nat.eq_zero_or_pos st.length with h0 | h0
    · exact Or.inl (List.eq_nil_of_length_eq_zero h0)
    · obtain ⟨ad, hA, hc⟩ := (Kd.reads_of_C (enc := Value.int .i64) (d := (0 : Int)) (h1 := fun _ => rfl) (Kd.C_below HC20.out HBU.out)).2.2 h0
      exact Or.inr ⟨ad, hA, (hA20 ad hA).1, fun j hj => by rw [hc j hj, List.getD_eq_getElem?_getD]⟩
  clear hst1 hrg hbk hne0
  refine (wpIn_wide (n := 5)).1 ?_
  refine wpIn_rangeFunc_ownG (n := 5) rfl (by omega) (gf := 47) (lb := #[.pointer (some ⟨w20.heap.size, 0, none⟩)]) rfl trivial (enters_of Tryd.func47 (by kernel_rfl) rfl)
    (backward_stops (fun x : {x : Nat × Int // 0 ≤ x.2 ∧ x.2 ≤ (a0.size : Int) + 1} => x.1) (fun j => if h : j < st.length then (⟨(st.length - 1 - j, st[st.length - 1 - j]?.getD 0), HRG.out j h⟩ : {x : Nat × Int // 0 ≤ x.2 ∧ x.2 ≤ (a0.size : Int) + 1}) else ⟨(0, 0), by simp; omega⟩) Fence.wide (5 - 1) trivial rfl (by omega) w20.heap.size c20 A20 st (fun j hj => by simp only [hj, dite_true]) (by omega)
      (fun W W' => ∀ k, k < wU.heap.size → k ≠ go → W'.heap[k]? = W.heap[k]?) (fun W k _ _ => rfl) (fun h h' k h1 h2 => (h' k h1 h2).trans (h k h1 h2)) (fun h => ⟨cell_same (h _ hlU hbs0), fun ad hA j => cell_same (by rw [add_block]; exact h _ (hA20 ad hA).1 (hA20 ad hA).2)⟩) wU hlU (blk_cell HVU.out 0) (by exact hIU))
    (fun h h' k h1 h2 => (h' k h1 h2).trans (h k h1 h2)) (fun W l o o' hl ho hc hw k hk _ => World.putObj_heap_other (by omega)) (Below.refl _ _) (fun _ => rfl)
    (fun pre W => (W.heap[w.heap.size]? = some (.cells #[.string a0] 9 (0, 0)) ∧ W.heap[w.heap.size + 1]? = some (.cells #[.int .i64 (lp : Int)] 3 (0, 0)) ∧ W.heap[w13.heap.size]? = some (.cells #[.slice (some ⟨go, 0, none⟩) (a0.size + 2) c13] 25 (0, 0))) ∧ RowAt W go (a0.size + 2) c13 (leftRow lp (leftStart a0.size) (pre.map (·.1))) ∧ Below w.heap.size w W)
    (fun _ _ _ => False)
    (fun s W W' row hs hg hr => ⟨⟨blk_still hs.1.1 hg hr, blk_still hs.1.2.1 hg hr, blk_still hs.1.2.2 hg hr⟩, row_still hs.2.1 hg hr, hs.2.2.grown hg (below_size hs.2.2) (fun k e => by have := (hr k e).1; have := below_size HBUU.out; omega)⟩)
    (fun _ _ _ _ _ hs _ _ => hs)
    ⟨⟨HRU.out, HLU.out, HOU.out⟩, HRAU.out, HBUU.out⟩
    (fun x => { tmps := #[Value.string a0, Value.int .i64 (lp : Int), Value.pointer (some ⟨w.heap.size, 0, none⟩), Value.pointer (some ⟨w.heap.size + 1, 0, none⟩), Value.slice none 0 0, Value.pointer (some ⟨w13.heap.size, 0, none⟩), undef, Value.int .i64 x.1.2, undef, Value.slice A9 1 c9, Value.string a0, Value.int .i64 (a0.size : Int), Value.int .i64 ((a0.size : Int) + 2), Value.slice (some ⟨go, 0, none⟩) (a0.size + 2) c13, Value.slice (some ⟨go, 0, none⟩) (a0.size + 2) c13, Value.string a0, Value.int .i64 (a0.size : Int), Value.int .i64 ((a0.size : Int) + 1), Value.pointer (some ⟨go, a0.size + 1, none⟩), Value.string a0, Value.slice A20 st.length c20, Value.func (.func 47) #[] #[.pointer (some ⟨w20.heap.size, 0, none⟩)], Value.int .i64 (x.1.1 : Nat), Value.int .i64 x.1.2, undef, undef, undef, undef, undef, undef, undef, undef, undef, undef, undef, undef, undef, undef, undef, undef, undef, undef, undef, undef, undef, undef, undef, undef, undef, undef, undef, undef, undef, undef, undef, undef, undef, undef, undef, undef, undef, undef, undef, undef, undef, undef, undef, undef, undef, undef], defers := [] }) ?assign ?body ?done ?stop
  case assign =>
    intro l x W K hK
    gi_wp2
    exact hK
  case body =>
    rintro l pre ⟨⟨xi, xv⟩, hx0, hx1⟩ W ⟨⟨hR, hL, hO⟩, hRow, hB⟩ hlt
    dsimp only at hx0 hx1 ⊢
    obtain ⟨fr, rfl⟩ : ∃ fr : Nat, xv = (fr : Int) := ⟨xv.toNat, by omega⟩
    obtain ⟨row, hrow⟩ : ∃ row, row = leftRow lp (leftStart a0.size) (pre.map (·.1)) := ⟨_, rfl⟩
    rw [← hrow] at hRow
    have HROW := Aside0.mk hrow
    have hlen : row.length = a0.size + 2 := by obtain ⟨_, _, _, _, _, h5, _⟩ := hRow; exact h5
    have HLEN := Aside0.mk hlen
    obtain ⟨hi, hhi⟩ : ∃ hi, hi = min (fr + lp) (a0.size + 1) := ⟨_, rfl⟩
    have hfh : fr ≤ hi ∧ hi ≤ a0.size + 1 := by rw [hhi]; omega
    obtain ⟨hfh1, hfh2⟩ := hfh
    have HHI := Aside0.mk hhi
    have XR := Aside0.mk hR
    have XL := Aside0.mk hL
    have XO := Aside0.mk hO
    have XRow := Aside0.mk hRow
    have XB := Aside0.mk hB
    clear hR hL hO hRow hB hlen hhi hrow
    gi_wp2
    gi_loopw [8] (fun v8 wr => ∃ (p : Nat) (cur : Int), v8 = .int .i64 p ∧ fr + 1 ≤ p ∧ p ≤ hi + 1 ∧ Aside0 (relax row (hi + 1 - p) p cur = relax row (hi - fr) (fr + 1) (rd row (fr : Int))) ∧ Aside0 (RowAt wr go (a0.size + 2) c13 (row.set fr cur)) ∧ Aside0 (wr.heap[w.heap.size]? = some (.cells #[.string a0] 9 (0, 0)) ∧ wr.heap[w.heap.size + 1]? = some (.cells #[.int .i64 (lp : Int)] 3 (0, 0)) ∧ wr.heap[w13.heap.size]? = some (.cells #[.slice (some ⟨go, 0, none⟩) (a0.size + 2) c13] 25 (0, 0))) ∧ Aside0 (Below w.heap.size w wr) ∧ Aside0 ((∀ k, k < wU.heap.size → k ≠ go → wr.heap[k]? = W.heap[k]?) ∧ KeepsFrom wU.heap.size W wr))
      (fun v8 _ => hi + 1 - (intOf v8).toNat)
    case atStart =>
      refine ⟨fr + 1, rd row (fr : Int), by go_num, by omega, by omega, ⟨by rw [show hi + 1 - (fr + 1) = hi - fr from by omega]⟩, ⟨?_⟩, ⟨XR.out, XL.out, XO.out⟩, XB, ⟨fun _ _ _ => rfl, KeepsFrom.refl _ _⟩⟩
      rw [set_same row fr (by have := HLEN.out; omega)]
      exact XRow.out
    case round =>
      obtain ⟨p, cur, rfl, hp1, hp2, HX, HRw, HBx, HBl, HKp⟩ := hrel
      have hcr := blk_cell HBx.out.1 0
      have hcl := blk_cell HBx.out.2.1 0
      have hco := blk_cell HBx.out.2.2 0
      simp only [List.getElem?_toArray, List.getElem?_cons_zero] at hcr hcl hco
      have hmin : min ((fr : Int) + (lp : Int)) ((a0.size : Int) + 1) = (hi : Int) := by have := HHI.out; omega
      have hif : (if (a0.size : Int) + 1 < (fr : Int) + (lp : Int) then (a0.size : Int) + 1 else (fr : Int) + (lp : Int)) = (hi : Int) := by
        have := HHI.out
        split <;> omega
      by_cases hlt : p ≤ hi
      · have hcd : (p : Int) ≤ (hi : Int) := by omega
        obtain ⟨t, ht⟩ : ∃ t, t = rd row (p : Int) := ⟨_, rfl⟩
        have hct : wr.cell? ⟨go, p, none⟩ = some (.int .i64 t) := by
          rw [HRw.out.cell p (by omega), rd_set_ne row fr p cur (by omega), ← ht]
        have hcc : wr.cell? ⟨go, fr, none⟩ = some (.int .i64 cur) := by
          rw [HRw.out.cell fr (by omega), rd_set_eq row fr cur (by have := HLEN.out; omega)]
        have HT := Aside0.mk ht
        have hpN : (p : Int) < (a0.size : Int) + 2 := by omega
        have hfN : (fr : Int) < (a0.size : Int) + 2 := by omega
        clear ht
        have hstep : ∀ c, (if 0 ≤ t ∧ (cur < 0 ∨ wrap64 (t + 1) < cur) then wrap64 (t + 1) else cur) = c → relax row (hi + 1 - (p + 1)) (p + 1) c = relax row (hi - fr) (fr + 1) (rd row (fr : Int)) := by
          intro c hc
          rw [← hc, ← HX.out, show hi + 1 - p = (hi + 1 - (p + 1)) + 1 from by omega, relax, ← HT.out]
        by_cases c1 : 0 ≤ t
        · have hd1 : decide (t ≥ 0) = true := decide_eq_true c1
          by_cases c2 : cur < 0
          · have hd2 : decide (cur < 0) = true := decide_eq_true c2
            have hd3 : True := trivial
            gi_wp2_with fail
            refine startIn_ (n := 24) (S := fun w' => w'.cell? ⟨w13.heap.size, 0, none⟩ = some (.slice (some ⟨go, 0, none⟩) (a0.size + 2) c13) ∧ w'.cell? ⟨go, p, none⟩ = some (.int .i64 t) ∧ w'.cell? ⟨go, fr, none⟩ = some (.int .i64 cur)) (ds := []) #[false, false, false, false, false, false, false, false, false, false, false, false, false, false, false, false, false, false, false, false, false, false, false, false] (by kernel_rfl) mixedL rfl rfl ⟨hco, hct, hcc⟩ (fun hHeld => ?_)
            have HRw2 := Aside0.mk (show RowAt wr.drew go (a0.size + 2) c13 (row.set fr cur) from HRw.out)
            have HBx2 := Aside0.mk (show wr.drew.heap[w.heap.size]? = _ ∧ wr.drew.heap[w.heap.size + 1]? = _ ∧ wr.drew.heap[w13.heap.size]? = _ from HBx.out)
            have HBl2 := Aside0.mk (below_drew HBl.out)
            have HKp2 := Aside0.mk (show (∀ k, k < wU.heap.size → k ≠ go → wr.drew.heap[k]? = W.heap[k]?) ∧ KeepsFrom wU.heap.size W wr.drew from ⟨HKp.out.1, HKp.out.2.trans (keeps_same rfl)⟩)
            generalize wr.drew = wd at HRw2 HBx2 HBl2 HKp2 hHeld ⊢
            refine take_ (i := 0) (N := some 37) (v := ?_) (a' := ?_) #[true, false, false, false, false, false, false, false, false, false, false, false, false, false, false, false, false, false, false, false, false, false, false, false] rfl rfl (by kernel_rfl) (fun _ _ _ h => h) (Or.inl ⟨by rfl, ?_⟩) hHeld ?_ ?_
            rotate_left
            · rintro w' ⟨s0, s1, s2⟩
              go_simp
              with_reducible rfl
            rotate_left
            · simp only [Act.put, List.setIfInBounds_toArray, List.set_cons_zero, List.set_cons_succ, i64_w, i32_w]
              rfl
            refine pure_ (i := 1) (N := some 38) (v := ?_) (a' := ?_) #[true, true, false, false, false, false, false, false, false, false, false, false, false, false, false, false, false, false, false, false, false, false, false, false] rfl rfl (by kernel_rfl) (fun _ _ _ h => h) (Or.inl ⟨by rfl, ?_⟩) ?_ ?_
            rotate_left
            · intro w'
              go_simp
              with_reducible rfl
            rotate_left
            · simp only [Act.put, List.setIfInBounds_toArray, List.set_cons_zero, List.set_cons_succ, i64_w, i32_w]
              rfl
            refine pure_ (i := 2) (N := some 39) (v := .pointer (some ⟨go, p, none⟩)) (a' := ?_) #[true, true, true, false, false, false, false, false, false, false, false, false, false, false, false, false, false, false, false, false, false, false, false, false] rfl rfl (by kernel_rfl) (fun _ _ _ h => h) (Or.inl ⟨by rfl, ?_⟩) ?_ ?_
            · intro w'
              first | (go_simp; done) | (go_simp; rfl) | (go_simp; with_reducible rfl)
            rotate_left
            · simp only [Act.put, List.setIfInBounds_toArray, List.set_cons_zero, List.set_cons_succ, i64_w, i32_w]
              rfl
            refine take_ (i := 3) (N := some 40) (v := ?_) (a' := ?_) #[true, true, true, true, false, false, false, false, false, false, false, false, false, false, false, false, false, false, false, false, false, false, false, false] rfl rfl (by kernel_rfl) (fun _ _ _ h => h) (Or.inl ⟨by rfl, ?_⟩) hHeld ?_ ?_
            rotate_left
            · rintro w' ⟨s0, s1, s2⟩
              go_simp
              with_reducible rfl
            rotate_left
            · simp only [Act.put, List.setIfInBounds_toArray, List.set_cons_zero, List.set_cons_succ, i64_w, i32_w]
              rfl
            refine pure_ (i := 4) (N := some 41) (v := .bool true) (a' := ?_) #[true, true, true, true, true, false, false, false, false, false, false, false, false, false, false, false, false, false, false, false, false, false, false, false] rfl rfl (by kernel_rfl) (fun _ _ _ h => h) (Or.inl ⟨by rfl, ?_⟩) ?_ ?_
            · intro w'
              go_simp
              first | done | (simp only [hd1, hd2, hd3]; done) | (simp only [hd1, hd2, hd3]; rfl)
            rotate_left
            · simp only [Act.put, List.setIfInBounds_toArray, List.set_cons_zero, List.set_cons_succ, i64_w, i32_w]
              rfl
            refine pure_ (i := 5) (N := some 42) (v := ?_) (a' := ?_) #[true, true, true, true, true, true, false, false, false, false, false, false, false, false, false, false, false, false, false, false, false, false, false, false] rfl rfl (by kernel_rfl) (fun _ _ _ h => h) (Or.inl ⟨by rfl, ?_⟩) ?_ ?_
            rotate_left
            · intro w'
              go_simp
              with_reducible rfl
            rotate_left
            · simp only [Act.put, List.setIfInBounds_toArray, List.set_cons_zero, List.set_cons_succ, i64_w, i32_w]
              rfl
            refine take_ (i := 6) (N := some 43) (v := ?_) (a' := ?_) #[true, true, true, true, true, true, true, false, false, false, false, false, false, false, false, false, false, false, false, false, false, false, false, false] rfl rfl (by kernel_rfl) (fun _ _ _ h => h) (Or.inl ⟨by rfl, ?_⟩) hHeld ?_ ?_
            rotate_left
            · rintro w' ⟨s0, s1, s2⟩
              go_simp
              with_reducible rfl
            rotate_left
            · simp only [Act.put, List.setIfInBounds_toArray, List.set_cons_zero, List.set_cons_succ, i64_w, i32_w]
              rfl
            refine pure_ (i := 7) (N := some 44) (v := ?_) (a' := ?_) #[true, true, true, true, true, true, true, true, false, false, false, false, false, false, false, false, false, false, false, false, false, false, false, false] rfl rfl (by kernel_rfl) (fun _ _ _ h => h) (Or.inl ⟨by rfl, ?_⟩) ?_ ?_
            rotate_left
            · intro w'
              go_simp
              with_reducible rfl
            rotate_left
            · simp only [Act.put, List.setIfInBounds_toArray, List.set_cons_zero, List.set_cons_succ, i64_w, i32_w]
              rfl
            refine pure_ (i := 8) (N := some 45) (v := .pointer (some ⟨go, fr, none⟩)) (a' := ?_) #[true, true, true, true, true, true, true, true, true, false, false, false, false, false, false, false, false, false, false, false, false, false, false, false] rfl rfl (by kernel_rfl) (fun _ _ _ h => h) (Or.inl ⟨by rfl, ?_⟩) ?_ ?_
            · intro w'
              first | (go_simp; done) | (go_simp; rfl) | (go_simp; with_reducible rfl)
            rotate_left
            · simp only [Act.put, List.setIfInBounds_toArray, List.set_cons_zero, List.set_cons_succ, i64_w, i32_w]
              rfl
            refine take_ (i := 9) (N := some 46) (v := ?_) (a' := ?_) #[true, true, true, true, true, true, true, true, true, true, false, false, false, false, false, false, false, false, false, false, false, false, false, false] rfl rfl (by kernel_rfl) (fun _ _ _ h => h) (Or.inl ⟨by rfl, ?_⟩) hHeld ?_ ?_
            rotate_left
            · rintro w' ⟨s0, s1, s2⟩
              go_simp
              with_reducible rfl
            rotate_left
            · simp only [Act.put, List.setIfInBounds_toArray, List.set_cons_zero, List.set_cons_succ, i64_w, i32_w]
              rfl
            refine pure_ (i := 10) (N := some 47) (v := .bool true) (a' := ?_) #[true, true, true, true, true, true, true, true, true, true, true, false, false, false, false, false, false, false, false, false, false, false, false, false] rfl rfl (by kernel_rfl) (fun _ _ _ h => h) (Or.inl ⟨by rfl, ?_⟩) ?_ ?_
            · intro w'
              go_simp
              first | done | (simp only [hd1, hd2, hd3]; done) | (simp only [hd1, hd2, hd3]; rfl)
            rotate_left
            · simp only [Act.put, List.setIfInBounds_toArray, List.set_cons_zero, List.set_cons_succ, i64_w, i32_w]
              rfl
            refine pure_ (i := 11) (N := some 48) (v := ?_) (a' := ?_) #[true, true, true, true, true, true, true, true, true, true, true, true, false, false, false, false, false, false, false, false, false, false, false, false] rfl rfl (by kernel_rfl) (fun _ _ _ h => h) (Or.inl ⟨by rfl, ?_⟩) ?_ ?_
            rotate_left
            · intro w'
              go_simp
              with_reducible rfl
            rotate_left
            · simp only [Act.put, List.setIfInBounds_toArray, List.set_cons_zero, List.set_cons_succ, i64_w, i32_w]
              rfl
            refine pure_ (i := 12) (N := some 49) (v := undef) (a' := ?_) #[true, true, true, true, true, true, true, true, true, true, true, true, true, false, false, false, false, false, false, false, false, false, false, false] rfl rfl (by kernel_rfl) (fun _ _ _ h => h) (Or.inr ⟨by rfl, rfl⟩) ?_ ?_
            rotate_left
            · simp only [Act.put, List.setIfInBounds_toArray, List.set_cons_zero, List.set_cons_succ, i64_w, i32_w]
              rfl
            refine pure_ (i := 13) (N := some 50) (v := undef) (a' := ?_) #[true, true, true, true, true, true, true, true, true, true, true, true, true, true, false, false, false, false, false, false, false, false, false, false] rfl rfl (by kernel_rfl) (fun _ _ _ h => h) (Or.inr ⟨by rfl, rfl⟩) ?_ ?_
            rotate_left
            · simp only [Act.put, List.setIfInBounds_toArray, List.set_cons_zero, List.set_cons_succ, i64_w, i32_w]
              rfl
            refine pure_ (i := 14) (N := some 51) (v := undef) (a' := ?_) #[true, true, true, true, true, true, true, true, true, true, true, true, true, true, true, false, false, false, false, false, false, false, false, false] rfl rfl (by kernel_rfl) (fun _ _ _ h => h) (Or.inr ⟨by rfl, rfl⟩) ?_ ?_
            rotate_left
            · simp only [Act.put, List.setIfInBounds_toArray, List.set_cons_zero, List.set_cons_succ, i64_w, i32_w]
              rfl
            refine pure_ (i := 15) (N := some 52) (v := undef) (a' := ?_) #[true, true, true, true, true, true, true, true, true, true, true, true, true, true, true, true, false, false, false, false, false, false, false, false] rfl rfl (by kernel_rfl) (fun _ _ _ h => h) (Or.inr ⟨by rfl, rfl⟩) ?_ ?_
            rotate_left
            · simp only [Act.put, List.setIfInBounds_toArray, List.set_cons_zero, List.set_cons_succ, i64_w, i32_w]
              rfl
            refine pure_ (i := 16) (N := some 53) (v := undef) (a' := ?_) #[true, true, true, true, true, true, true, true, true, true, true, true, true, true, true, true, true, false, false, false, false, false, false, false] rfl rfl (by kernel_rfl) (fun _ _ _ h => h) (Or.inr ⟨by rfl, rfl⟩) ?_ ?_
            rotate_left
            · simp only [Act.put, List.setIfInBounds_toArray, List.set_cons_zero, List.set_cons_succ, i64_w, i32_w]
              rfl
            refine pure_ (i := 17) (N := some 54) (v := undef) (a' := ?_) #[true, true, true, true, true, true, true, true, true, true, true, true, true, true, true, true, true, true, false, false, false, false, false, false] rfl rfl (by kernel_rfl) (fun _ _ _ h => h) (Or.inr ⟨by rfl, rfl⟩) ?_ ?_
            rotate_left
            · simp only [Act.put, List.setIfInBounds_toArray, List.set_cons_zero, List.set_cons_succ, i64_w, i32_w]
              rfl
            refine pure_ (i := 18) (N := some 55) (v := undef) (a' := ?_) #[true, true, true, true, true, true, true, true, true, true, true, true, true, true, true, true, true, true, true, false, false, false, false, false] rfl rfl (by kernel_rfl) (fun _ _ _ h => h) (Or.inr ⟨by rfl, rfl⟩) ?_ ?_
            rotate_left
            · simp only [Act.put, List.setIfInBounds_toArray, List.set_cons_zero, List.set_cons_succ, i64_w, i32_w]
              rfl
            refine pure_ (i := 19) (N := some 56) (v := undef) (a' := ?_) #[true, true, true, true, true, true, true, true, true, true, true, true, true, true, true, true, true, true, true, true, false, false, false, false] rfl rfl (by kernel_rfl) (fun _ _ _ h => h) (Or.inr ⟨by rfl, rfl⟩) ?_ ?_
            rotate_left
            · simp only [Act.put, List.setIfInBounds_toArray, List.set_cons_zero, List.set_cons_succ, i64_w, i32_w]
              rfl
            refine pure_ (i := 20) (N := some 57) (v := undef) (a' := ?_) #[true, true, true, true, true, true, true, true, true, true, true, true, true, true, true, true, true, true, true, true, true, false, false, false] rfl rfl (by kernel_rfl) (fun _ _ _ h => h) (Or.inr ⟨by rfl, rfl⟩) ?_ ?_
            rotate_left
            · simp only [Act.put, List.setIfInBounds_toArray, List.set_cons_zero, List.set_cons_succ, i64_w, i32_w]
              rfl
            refine pure_ (i := 21) (N := some 58) (v := undef) (a' := ?_) #[true, true, true, true, true, true, true, true, true, true, true, true, true, true, true, true, true, true, true, true, true, true, false, false] rfl rfl (by kernel_rfl) (fun _ _ _ h => h) (Or.inr ⟨by rfl, rfl⟩) ?_ ?_
            rotate_left
            · simp only [Act.put, List.setIfInBounds_toArray, List.set_cons_zero, List.set_cons_succ, i64_w, i32_w]
              rfl
            refine pure_ (i := 22) (N := some 59) (v := .bool true) (a' := ?_) #[true, true, true, true, true, true, true, true, true, true, true, true, true, true, true, true, true, true, true, true, true, true, true, false] rfl rfl (by kernel_rfl) (fun _ _ _ h => h) (Or.inl ⟨by rfl, ?_⟩) ?_ ?_
            · intro w'
              go_simp
              first | done | (simp only [hd1, hd2, hd3]; done) | (simp only [hd1, hd2, hd3]; rfl)
            rotate_left
            · simp only [Act.put, List.setIfInBounds_toArray, List.set_cons_zero, List.set_cons_succ, i64_w, i32_w]
              rfl
            refine pure_ (i := 23) (N := some 60) (v := .bool true) (a' := ?_) #[true, true, true, true, true, true, true, true, true, true, true, true, true, true, true, true, true, true, true, true, true, true, true, true] rfl rfl (by kernel_rfl) (fun _ _ _ h => h) (Or.inl ⟨by rfl, ?_⟩) ?_ ?_
            · intro w'
              go_simp
              first | done | (simp only [hd1, hd2, hd3]; done) | (simp only [hd1, hd2, hd3]; rfl)
            rotate_left
            · simp only [Act.put, List.setIfInBounds_toArray, List.set_cons_zero, List.set_cons_succ, i64_w, i32_w]
              rfl
            refine done_ (by kernel_rfl) ?_
            dsimp only [normalOf]
            gi_wp2_with fail
            refine startIn_ (n := 9) (S := fun w' => w'.cell? ⟨w13.heap.size, 0, none⟩ = some (.slice (some ⟨go, 0, none⟩) (a0.size + 2) c13) ∧ w'.cell? ⟨go, p, none⟩ = some (.int .i64 t)) (ds := [8]) #[false, false, false, false, false, false, false, false, false] (by kernel_rfl) mixedL rfl rfl ⟨hHeld.1, hHeld.2.1⟩ (fun hHeld => ?_)
            have HRw3 := Aside0.mk (show RowAt wd.drew go (a0.size + 2) c13 (row.set fr cur) from HRw2.out)
            have HBx3 := Aside0.mk (show wd.drew.heap[w.heap.size]? = _ ∧ wd.drew.heap[w.heap.size + 1]? = _ ∧ wd.drew.heap[w13.heap.size]? = _ from HBx2.out)
            have HBl3 := Aside0.mk (below_drew HBl2.out)
            have HKp3 := Aside0.mk (show (∀ k, k < wU.heap.size → k ≠ go → wd.drew.heap[k]? = W.heap[k]?) ∧ KeepsFrom wU.heap.size W wd.drew from ⟨HKp2.out.1, HKp2.out.2.trans (keeps_same rfl)⟩)
            generalize wd.drew = we at HRw3 HBx3 HBl3 HKp3 hHeld ⊢
            refine take_ (i := 0) (N := some 61) (v := ?_) (a' := ?_) #[true, false, false, false, false, false, false, false, false] rfl rfl (by kernel_rfl) (fun _ _ _ h => h) (Or.inl ⟨by rfl, ?_⟩) hHeld ?_ ?_
            rotate_left
            · rintro w' ⟨s0, s1⟩
              go_simp
              with_reducible rfl
            rotate_left
            · simp only [Act.put, List.setIfInBounds_toArray, List.set_cons_zero, List.set_cons_succ, i64_w, i32_w]
              rfl
            refine pure_ (i := 1) (N := some 62) (v := ?_) (a' := ?_) #[true, true, false, false, false, false, false, false, false] rfl rfl (by kernel_rfl) (fun _ _ _ h => h) (Or.inl ⟨by rfl, ?_⟩) ?_ ?_
            rotate_left
            · intro w'
              go_simp
              with_reducible rfl
            rotate_left
            · simp only [Act.put, List.setIfInBounds_toArray, List.set_cons_zero, List.set_cons_succ, i64_w, i32_w]
              rfl
            refine take_ (i := 2) (N := some 63) (v := ?_) (a' := ?_) #[true, true, true, false, false, false, false, false, false] rfl rfl (by kernel_rfl) (fun _ _ _ h => h) (Or.inl ⟨by rfl, ?_⟩) hHeld ?_ ?_
            rotate_left
            · rintro w' ⟨s0, s1⟩
              go_simp
              with_reducible rfl
            rotate_left
            · simp only [Act.put, List.setIfInBounds_toArray, List.set_cons_zero, List.set_cons_succ, i64_w, i32_w]
              rfl
            refine pure_ (i := 3) (N := some 64) (v := ?_) (a' := ?_) #[true, true, true, true, false, false, false, false, false] rfl rfl (by kernel_rfl) (fun _ _ _ h => h) (Or.inl ⟨by rfl, ?_⟩) ?_ ?_
            rotate_left
            · intro w'
              go_simp
              with_reducible rfl
            rotate_left
            · simp only [Act.put, List.setIfInBounds_toArray, List.set_cons_zero, List.set_cons_succ, i64_w, i32_w]
              rfl
            refine pure_ (i := 4) (N := some 65) (v := .pointer (some ⟨go, p, none⟩)) (a' := ?_) #[true, true, true, true, true, false, false, false, false] rfl rfl (by kernel_rfl) (fun _ _ _ h => h) (Or.inl ⟨by rfl, ?_⟩) ?_ ?_
            · intro w'
              first | (go_simp; done) | (go_simp; rfl) | (go_simp; with_reducible rfl)
            rotate_left
            · simp only [Act.put, List.setIfInBounds_toArray, List.set_cons_zero, List.set_cons_succ, i64_w, i32_w]
              rfl
            refine take_ (i := 5) (N := some 66) (v := ?_) (a' := ?_) #[true, true, true, true, true, true, false, false, false] rfl rfl (by kernel_rfl) (fun _ _ _ h => h) (Or.inl ⟨by rfl, ?_⟩) hHeld ?_ ?_
            rotate_left
            · rintro w' ⟨s0, s1⟩
              go_simp
              with_reducible rfl
            rotate_left
            · simp only [Act.put, List.setIfInBounds_toArray, List.set_cons_zero, List.set_cons_succ, i64_w, i32_w]
              rfl
            refine pure_ (i := 6) (N := some 67) (v := ?_) (a' := ?_) #[true, true, true, true, true, true, true, false, false] rfl rfl (by kernel_rfl) (fun _ _ _ h => h) (Or.inl ⟨by rfl, ?_⟩) ?_ ?_
            rotate_left
            · intro w'
              go_simp
              with_reducible rfl
            rotate_left
            · simp only [Act.put, List.setIfInBounds_toArray, List.set_cons_zero, List.set_cons_succ, i64_w, i32_w]
              rfl
            refine pure_ (i := 7) (N := some 68) (v := .pointer (some ⟨go, fr, none⟩)) (a' := ?_) #[true, true, true, true, true, true, true, true, false] rfl rfl (by kernel_rfl) (fun _ _ _ h => h) (Or.inl ⟨by rfl, ?_⟩) ?_ ?_
            · intro w'
              first | (go_simp; done) | (go_simp; rfl) | (go_simp; with_reducible rfl)
            rotate_left
            · simp only [Act.put, List.setIfInBounds_toArray, List.set_cons_zero, List.set_cons_succ, i64_w, i32_w]
              rfl
            have hcf := HRw3.out.cell fr (by omega)
            have hff := HRw3.out.frozen fr
            refine last_ (i := 8) (N := none) #[true, true, true, true, true, true, true, true, true] rfl rfl (by kernel_rfl) (by decide) (fun K hK => ?_)
            rw [if_pos (by rfl)]
            unfold Oper.wp
            go_simp
            refine hK.out _ _ ?_
            clear hK K
            refine done_ (by kernel_rfl) ?_
            dsimp only [normalOf]
            gi_wp2_with fail
            go_roundw
            case rel => exact ⟨p + 1, wrap64 (t + 1), by go_num, by omega, by omega, ⟨hstep _ (if_pos (by omega))⟩, ⟨by have h_ := HRw3.out.set fr (wrap64 (t + 1)); rw [List.set_set] at h_; exact h_⟩, ⟨(Below.heap_setCell we ⟨go, fr, none⟩ _ _ HNE.out.1).trans HBx3.out.1, (Below.heap_setCell we ⟨go, fr, none⟩ _ _ HNE.out.2.1).trans HBx3.out.2.1, (Below.heap_setCell we ⟨go, fr, none⟩ _ _ HNE.out.2.2).trans HBx3.out.2.2⟩, ⟨below_set HBl3.out hgo0⟩, ⟨fun k h1 h2 => (Below.heap_setCell we ⟨go, fr, none⟩ _ k h2).trans (HKp3.out.1 k h1 h2), HKp3.out.2.trans ((KeepsOthers.setCell _ _ _).from _)⟩⟩
            case measure => first | (simp [intOf]; done) | (simp [intOf]; omega)
          · have hd2 : decide (cur < 0) = false := decide_eq_false c2
            by_cases c3 : wrap64 (t + 1) < cur
            · have hd3 : decide (wrap64 (t + 1) < cur) = true := decide_eq_true c3
              gi_wp2_with fail
              refine startIn_ (n := 24) (S := fun w' => w'.cell? ⟨w13.heap.size, 0, none⟩ = some (.slice (some ⟨go, 0, none⟩) (a0.size + 2) c13) ∧ w'.cell? ⟨go, p, none⟩ = some (.int .i64 t) ∧ w'.cell? ⟨go, fr, none⟩ = some (.int .i64 cur)) (ds := []) #[false, false, false, false, false, false, false, false, false, false, false, false, false, false, false, false, false, false, false, false, false, false, false, false] (by kernel_rfl) mixedL rfl rfl ⟨hco, hct, hcc⟩ (fun hHeld => ?_)
              have HRw2 := Aside0.mk (show RowAt wr.drew go (a0.size + 2) c13 (row.set fr cur) from HRw.out)
              have HBx2 := Aside0.mk (show wr.drew.heap[w.heap.size]? = _ ∧ wr.drew.heap[w.heap.size + 1]? = _ ∧ wr.drew.heap[w13.heap.size]? = _ from HBx.out)
              have HBl2 := Aside0.mk (below_drew HBl.out)
              have HKp2 := Aside0.mk (show (∀ k, k < wU.heap.size → k ≠ go → wr.drew.heap[k]? = W.heap[k]?) ∧ KeepsFrom wU.heap.size W wr.drew from ⟨HKp.out.1, HKp.out.2.trans (keeps_same rfl)⟩)
              generalize wr.drew = wd at HRw2 HBx2 HBl2 HKp2 hHeld ⊢
              refine take_ (i := 0) (N := some 37) (v := ?_) (a' := ?_) #[true, false, false, false, false, false, false, false, false, false, false, false, false, false, false, false, false, false, false, false, false, false, false, false] rfl rfl (by kernel_rfl) (fun _ _ _ h => h) (Or.inl ⟨by rfl, ?_⟩) hHeld ?_ ?_
              rotate_left
              · rintro w' ⟨s0, s1, s2⟩
                go_simp
                with_reducible rfl
              rotate_left
              · simp only [Act.put, List.setIfInBounds_toArray, List.set_cons_zero, List.set_cons_succ, i64_w, i32_w]
                rfl
              refine pure_ (i := 1) (N := some 38) (v := ?_) (a' := ?_) #[true, true, false, false, false, false, false, false, false, false, false, false, false, false, false, false, false, false, false, false, false, false, false, false] rfl rfl (by kernel_rfl) (fun _ _ _ h => h) (Or.inl ⟨by rfl, ?_⟩) ?_ ?_
              rotate_left
              · intro w'
                go_simp
                with_reducible rfl
              rotate_left
              · simp only [Act.put, List.setIfInBounds_toArray, List.set_cons_zero, List.set_cons_succ, i64_w, i32_w]
                rfl
              refine pure_ (i := 2) (N := some 39) (v := .pointer (some ⟨go, p, none⟩)) (a' := ?_) #[true, true, true, false, false, false, false, false, false, false, false, false, false, false, false, false, false, false, false, false, false, false, false, false] rfl rfl (by kernel_rfl) (fun _ _ _ h => h) (Or.inl ⟨by rfl, ?_⟩) ?_ ?_
              · intro w'
                first | (go_simp; done) | (go_simp; rfl) | (go_simp; with_reducible rfl)
              rotate_left
              · simp only [Act.put, List.setIfInBounds_toArray, List.set_cons_zero, List.set_cons_succ, i64_w, i32_w]
                rfl
              refine take_ (i := 3) (N := some 40) (v := ?_) (a' := ?_) #[true, true, true, true, false, false, false, false, false, false, false, false, false, false, false, false, false, false, false, false, false, false, false, false] rfl rfl (by kernel_rfl) (fun _ _ _ h => h) (Or.inl ⟨by rfl, ?_⟩) hHeld ?_ ?_
              rotate_left
              · rintro w' ⟨s0, s1, s2⟩
                go_simp
                with_reducible rfl
              rotate_left
              · simp only [Act.put, List.setIfInBounds_toArray, List.set_cons_zero, List.set_cons_succ, i64_w, i32_w]
                rfl
              refine pure_ (i := 4) (N := some 41) (v := .bool true) (a' := ?_) #[true, true, true, true, true, false, false, false, false, false, false, false, false, false, false, false, false, false, false, false, false, false, false, false] rfl rfl (by kernel_rfl) (fun _ _ _ h => h) (Or.inl ⟨by rfl, ?_⟩) ?_ ?_
              · intro w'
                go_simp
                first | done | (simp only [hd1, hd2, hd3]; done) | (simp only [hd1, hd2, hd3]; rfl)
              rotate_left
              · simp only [Act.put, List.setIfInBounds_toArray, List.set_cons_zero, List.set_cons_succ, i64_w, i32_w]
                rfl
              refine pure_ (i := 5) (N := some 42) (v := ?_) (a' := ?_) #[true, true, true, true, true, true, false, false, false, false, false, false, false, false, false, false, false, false, false, false, false, false, false, false] rfl rfl (by kernel_rfl) (fun _ _ _ h => h) (Or.inl ⟨by rfl, ?_⟩) ?_ ?_
              rotate_left
              · intro w'
                go_simp
                with_reducible rfl
              rotate_left
              · simp only [Act.put, List.setIfInBounds_toArray, List.set_cons_zero, List.set_cons_succ, i64_w, i32_w]
                rfl
              refine take_ (i := 6) (N := some 43) (v := ?_) (a' := ?_) #[true, true, true, true, true, true, true, false, false, false, false, false, false, false, false, false, false, false, false, false, false, false, false, false] rfl rfl (by kernel_rfl) (fun _ _ _ h => h) (Or.inl ⟨by rfl, ?_⟩) hHeld ?_ ?_
              rotate_left
              · rintro w' ⟨s0, s1, s2⟩
                go_simp
                with_reducible rfl
              rotate_left
              · simp only [Act.put, List.setIfInBounds_toArray, List.set_cons_zero, List.set_cons_succ, i64_w, i32_w]
                rfl
              refine pure_ (i := 7) (N := some 44) (v := ?_) (a' := ?_) #[true, true, true, true, true, true, true, true, false, false, false, false, false, false, false, false, false, false, false, false, false, false, false, false] rfl rfl (by kernel_rfl) (fun _ _ _ h => h) (Or.inl ⟨by rfl, ?_⟩) ?_ ?_
              rotate_left
              · intro w'
                go_simp
                with_reducible rfl
              rotate_left
              · simp only [Act.put, List.setIfInBounds_toArray, List.set_cons_zero, List.set_cons_succ, i64_w, i32_w]
                rfl
              refine pure_ (i := 8) (N := some 45) (v := .pointer (some ⟨go, fr, none⟩)) (a' := ?_) #[true, true, true, true, true, true, true, true, true, false, false, false, false, false, false, false, false, false, false, false, false, false, false, false] rfl rfl (by kernel_rfl) (fun _ _ _ h => h) (Or.inl ⟨by rfl, ?_⟩) ?_ ?_
              · intro w'
                first | (go_simp; done) | (go_simp; rfl) | (go_simp; with_reducible rfl)
              rotate_left
              · simp only [Act.put, List.setIfInBounds_toArray, List.set_cons_zero, List.set_cons_succ, i64_w, i32_w]
                rfl
              refine take_ (i := 9) (N := some 46) (v := ?_) (a' := ?_) #[true, true, true, true, true, true, true, true, true, true, false, false, false, false, false, false, false, false, false, false, false, false, false, false] rfl rfl (by kernel_rfl) (fun _ _ _ h => h) (Or.inl ⟨by rfl, ?_⟩) hHeld ?_ ?_
              rotate_left
              · rintro w' ⟨s0, s1, s2⟩
                go_simp
                with_reducible rfl
              rotate_left
              · simp only [Act.put, List.setIfInBounds_toArray, List.set_cons_zero, List.set_cons_succ, i64_w, i32_w]
                rfl
              refine pure_ (i := 10) (N := some 47) (v := .bool false) (a' := ?_) #[true, true, true, true, true, true, true, true, true, true, true, false, false, false, false, false, false, false, false, false, false, false, false, false] rfl rfl (by kernel_rfl) (fun _ _ _ h => h) (Or.inl ⟨by rfl, ?_⟩) ?_ ?_
              · intro w'
                go_simp
                first | done | (simp only [hd1, hd2, hd3]; done) | (simp only [hd1, hd2, hd3]; rfl)
              rotate_left
              · simp only [Act.put, List.setIfInBounds_toArray, List.set_cons_zero, List.set_cons_succ, i64_w, i32_w]
                rfl
              refine pure_ (i := 11) (N := some 48) (v := ?_) (a' := ?_) #[true, true, true, true, true, true, true, true, true, true, true, true, false, false, false, false, false, false, false, false, false, false, false, false] rfl rfl (by kernel_rfl) (fun _ _ _ h => h) (Or.inl ⟨by rfl, ?_⟩) ?_ ?_
              rotate_left
              · intro w'
                go_simp
                with_reducible rfl
              rotate_left
              · simp only [Act.put, List.setIfInBounds_toArray, List.set_cons_zero, List.set_cons_succ, i64_w, i32_w]
                rfl
              refine take_ (i := 12) (N := some 49) (v := ?_) (a' := ?_) #[true, true, true, true, true, true, true, true, true, true, true, true, true, false, false, false, false, false, false, false, false, false, false, false] rfl rfl (by kernel_rfl) (fun _ _ _ h => h) (Or.inl ⟨by rfl, ?_⟩) hHeld ?_ ?_
              rotate_left
              · rintro w' ⟨s0, s1, s2⟩
                go_simp
                with_reducible rfl
              rotate_left
              · simp only [Act.put, List.setIfInBounds_toArray, List.set_cons_zero, List.set_cons_succ, i64_w, i32_w]
                rfl
              refine pure_ (i := 13) (N := some 50) (v := ?_) (a' := ?_) #[true, true, true, true, true, true, true, true, true, true, true, true, true, true, false, false, false, false, false, false, false, false, false, false] rfl rfl (by kernel_rfl) (fun _ _ _ h => h) (Or.inl ⟨by rfl, ?_⟩) ?_ ?_
              rotate_left
              · intro w'
                go_simp
                with_reducible rfl
              rotate_left
              · simp only [Act.put, List.setIfInBounds_toArray, List.set_cons_zero, List.set_cons_succ, i64_w, i32_w]
                rfl
              refine pure_ (i := 14) (N := some 51) (v := .pointer (some ⟨go, p, none⟩)) (a' := ?_) #[true, true, true, true, true, true, true, true, true, true, true, true, true, true, true, false, false, false, false, false, false, false, false, false] rfl rfl (by kernel_rfl) (fun _ _ _ h => h) (Or.inl ⟨by rfl, ?_⟩) ?_ ?_
              · intro w'
                first | (go_simp; done) | (go_simp; rfl) | (go_simp; with_reducible rfl)
              rotate_left
              · simp only [Act.put, List.setIfInBounds_toArray, List.set_cons_zero, List.set_cons_succ, i64_w, i32_w]
                rfl
              refine take_ (i := 15) (N := some 52) (v := ?_) (a' := ?_) #[true, true, true, true, true, true, true, true, true, true, true, true, true, true, true, true, false, false, false, false, false, false, false, false] rfl rfl (by kernel_rfl) (fun _ _ _ h => h) (Or.inl ⟨by rfl, ?_⟩) hHeld ?_ ?_
              rotate_left
              · rintro w' ⟨s0, s1, s2⟩
                go_simp
                with_reducible rfl
              rotate_left
              · simp only [Act.put, List.setIfInBounds_toArray, List.set_cons_zero, List.set_cons_succ, i64_w, i32_w]
                rfl
              refine pure_ (i := 16) (N := some 53) (v := ?_) (a' := ?_) #[true, true, true, true, true, true, true, true, true, true, true, true, true, true, true, true, true, false, false, false, false, false, false, false] rfl rfl (by kernel_rfl) (fun _ _ _ h => h) (Or.inl ⟨by rfl, ?_⟩) ?_ ?_
              rotate_left
              · intro w'
                go_simp
                with_reducible rfl
              rotate_left
              · simp only [Act.put, List.setIfInBounds_toArray, List.set_cons_zero, List.set_cons_succ, i64_w, i32_w]
                rfl
              refine take_ (i := 17) (N := some 54) (v := ?_) (a' := ?_) #[true, true, true, true, true, true, true, true, true, true, true, true, true, true, true, true, true, true, false, false, false, false, false, false] rfl rfl (by kernel_rfl) (fun _ _ _ h => h) (Or.inl ⟨by rfl, ?_⟩) hHeld ?_ ?_
              rotate_left
              · rintro w' ⟨s0, s1, s2⟩
                go_simp
                with_reducible rfl
              rotate_left
              · simp only [Act.put, List.setIfInBounds_toArray, List.set_cons_zero, List.set_cons_succ, i64_w, i32_w]
                rfl
              refine pure_ (i := 18) (N := some 55) (v := ?_) (a' := ?_) #[true, true, true, true, true, true, true, true, true, true, true, true, true, true, true, true, true, true, true, false, false, false, false, false] rfl rfl (by kernel_rfl) (fun _ _ _ h => h) (Or.inl ⟨by rfl, ?_⟩) ?_ ?_
              rotate_left
              · intro w'
                go_simp
                with_reducible rfl
              rotate_left
              · simp only [Act.put, List.setIfInBounds_toArray, List.set_cons_zero, List.set_cons_succ, i64_w, i32_w]
                rfl
              refine pure_ (i := 19) (N := some 56) (v := .pointer (some ⟨go, fr, none⟩)) (a' := ?_) #[true, true, true, true, true, true, true, true, true, true, true, true, true, true, true, true, true, true, true, true, false, false, false, false] rfl rfl (by kernel_rfl) (fun _ _ _ h => h) (Or.inl ⟨by rfl, ?_⟩) ?_ ?_
              · intro w'
                first | (go_simp; done) | (go_simp; rfl) | (go_simp; with_reducible rfl)
              rotate_left
              · simp only [Act.put, List.setIfInBounds_toArray, List.set_cons_zero, List.set_cons_succ, i64_w, i32_w]
                rfl
              refine take_ (i := 20) (N := some 57) (v := ?_) (a' := ?_) #[true, true, true, true, true, true, true, true, true, true, true, true, true, true, true, true, true, true, true, true, true, false, false, false] rfl rfl (by kernel_rfl) (fun _ _ _ h => h) (Or.inl ⟨by rfl, ?_⟩) hHeld ?_ ?_
              rotate_left
              · rintro w' ⟨s0, s1, s2⟩
                go_simp
                with_reducible rfl
              rotate_left
              · simp only [Act.put, List.setIfInBounds_toArray, List.set_cons_zero, List.set_cons_succ, i64_w, i32_w]
                rfl
              refine pure_ (i := 21) (N := some 58) (v := .bool true) (a' := ?_) #[true, true, true, true, true, true, true, true, true, true, true, true, true, true, true, true, true, true, true, true, true, true, false, false] rfl rfl (by kernel_rfl) (fun _ _ _ h => h) (Or.inl ⟨by rfl, ?_⟩) ?_ ?_
              · intro w'
                go_simp
                first | done | (simp only [hd1, hd2, hd3]; done) | (simp only [hd1, hd2, hd3]; rfl)
              rotate_left
              · simp only [Act.put, List.setIfInBounds_toArray, List.set_cons_zero, List.set_cons_succ, i64_w, i32_w]
                rfl
              refine pure_ (i := 22) (N := some 59) (v := .bool true) (a' := ?_) #[true, true, true, true, true, true, true, true, true, true, true, true, true, true, true, true, true, true, true, true, true, true, true, false] rfl rfl (by kernel_rfl) (fun _ _ _ h => h) (Or.inl ⟨by rfl, ?_⟩) ?_ ?_
              · intro w'
                go_simp
                first | done | (simp only [hd1, hd2, hd3]; done) | (simp only [hd1, hd2, hd3]; rfl)
              rotate_left
              · simp only [Act.put, List.setIfInBounds_toArray, List.set_cons_zero, List.set_cons_succ, i64_w, i32_w]
                rfl
              refine pure_ (i := 23) (N := some 60) (v := .bool true) (a' := ?_) #[true, true, true, true, true, true, true, true, true, true, true, true, true, true, true, true, true, true, true, true, true, true, true, true] rfl rfl (by kernel_rfl) (fun _ _ _ h => h) (Or.inl ⟨by rfl, ?_⟩) ?_ ?_
              · intro w'
                go_simp
                first | done | (simp only [hd1, hd2, hd3]; done) | (simp only [hd1, hd2, hd3]; rfl)
              rotate_left
              · simp only [Act.put, List.setIfInBounds_toArray, List.set_cons_zero, List.set_cons_succ, i64_w, i32_w]
                rfl
              refine done_ (by kernel_rfl) ?_
              dsimp only [normalOf]
              gi_wp2_with fail
              refine startIn_ (n := 9) (S := fun w' => w'.cell? ⟨w13.heap.size, 0, none⟩ = some (.slice (some ⟨go, 0, none⟩) (a0.size + 2) c13) ∧ w'.cell? ⟨go, p, none⟩ = some (.int .i64 t)) (ds := [8]) #[false, false, false, false, false, false, false, false, false] (by kernel_rfl) mixedL rfl rfl ⟨hHeld.1, hHeld.2.1⟩ (fun hHeld => ?_)
              have HRw3 := Aside0.mk (show RowAt wd.drew go (a0.size + 2) c13 (row.set fr cur) from HRw2.out)
              have HBx3 := Aside0.mk (show wd.drew.heap[w.heap.size]? = _ ∧ wd.drew.heap[w.heap.size + 1]? = _ ∧ wd.drew.heap[w13.heap.size]? = _ from HBx2.out)
              have HBl3 := Aside0.mk (below_drew HBl2.out)
              have HKp3 := Aside0.mk (show (∀ k, k < wU.heap.size → k ≠ go → wd.drew.heap[k]? = W.heap[k]?) ∧ KeepsFrom wU.heap.size W wd.drew from ⟨HKp2.out.1, HKp2.out.2.trans (keeps_same rfl)⟩)
              generalize wd.drew = we at HRw3 HBx3 HBl3 HKp3 hHeld ⊢
              refine take_ (i := 0) (N := some 61) (v := ?_) (a' := ?_) #[true, false, false, false, false, false, false, false, false] rfl rfl (by kernel_rfl) (fun _ _ _ h => h) (Or.inl ⟨by rfl, ?_⟩) hHeld ?_ ?_
              rotate_left
              · rintro w' ⟨s0, s1⟩
                go_simp
                with_reducible rfl
              rotate_left
              · simp only [Act.put, List.setIfInBounds_toArray, List.set_cons_zero, List.set_cons_succ, i64_w, i32_w]
                rfl
              refine pure_ (i := 1) (N := some 62) (v := ?_) (a' := ?_) #[true, true, false, false, false, false, false, false, false] rfl rfl (by kernel_rfl) (fun _ _ _ h => h) (Or.inl ⟨by rfl, ?_⟩) ?_ ?_
              rotate_left
              · intro w'
                go_simp
                with_reducible rfl
              rotate_left
              · simp only [Act.put, List.setIfInBounds_toArray, List.set_cons_zero, List.set_cons_succ, i64_w, i32_w]
                rfl
              refine take_ (i := 2) (N := some 63) (v := ?_) (a' := ?_) #[true, true, true, false, false, false, false, false, false] rfl rfl (by kernel_rfl) (fun _ _ _ h => h) (Or.inl ⟨by rfl, ?_⟩) hHeld ?_ ?_
              rotate_left
              · rintro w' ⟨s0, s1⟩
                go_simp
                with_reducible rfl
              rotate_left
              · simp only [Act.put, List.setIfInBounds_toArray, List.set_cons_zero, List.set_cons_succ, i64_w, i32_w]
                rfl
              refine pure_ (i := 3) (N := some 64) (v := ?_) (a' := ?_) #[true, true, true, true, false, false, false, false, false] rfl rfl (by kernel_rfl) (fun _ _ _ h => h) (Or.inl ⟨by rfl, ?_⟩) ?_ ?_
              rotate_left
              · intro w'
                go_simp
                with_reducible rfl
              rotate_left
              · simp only [Act.put, List.setIfInBounds_toArray, List.set_cons_zero, List.set_cons_succ, i64_w, i32_w]
                rfl
              refine pure_ (i := 4) (N := some 65) (v := .pointer (some ⟨go, p, none⟩)) (a' := ?_) #[true, true, true, true, true, false, false, false, false] rfl rfl (by kernel_rfl) (fun _ _ _ h => h) (Or.inl ⟨by rfl, ?_⟩) ?_ ?_
              · intro w'
                first | (go_simp; done) | (go_simp; rfl) | (go_simp; with_reducible rfl)
              rotate_left
              · simp only [Act.put, List.setIfInBounds_toArray, List.set_cons_zero, List.set_cons_succ, i64_w, i32_w]
                rfl
              refine take_ (i := 5) (N := some 66) (v := ?_) (a' := ?_) #[true, true, true, true, true, true, false, false, false] rfl rfl (by kernel_rfl) (fun _ _ _ h => h) (Or.inl ⟨by rfl, ?_⟩) hHeld ?_ ?_
              rotate_left
              · rintro w' ⟨s0, s1⟩
                go_simp
                with_reducible rfl
              rotate_left
              · simp only [Act.put, List.setIfInBounds_toArray, List.set_cons_zero, List.set_cons_succ, i64_w, i32_w]
                rfl
              refine pure_ (i := 6) (N := some 67) (v := ?_) (a' := ?_) #[true, true, true, true, true, true, true, false, false] rfl rfl (by kernel_rfl) (fun _ _ _ h => h) (Or.inl ⟨by rfl, ?_⟩) ?_ ?_
              rotate_left
              · intro w'
                go_simp
                with_reducible rfl
              rotate_left
              · simp only [Act.put, List.setIfInBounds_toArray, List.set_cons_zero, List.set_cons_succ, i64_w, i32_w]
                rfl
              refine pure_ (i := 7) (N := some 68) (v := .pointer (some ⟨go, fr, none⟩)) (a' := ?_) #[true, true, true, true, true, true, true, true, false] rfl rfl (by kernel_rfl) (fun _ _ _ h => h) (Or.inl ⟨by rfl, ?_⟩) ?_ ?_
              · intro w'
                first | (go_simp; done) | (go_simp; rfl) | (go_simp; with_reducible rfl)
              rotate_left
              · simp only [Act.put, List.setIfInBounds_toArray, List.set_cons_zero, List.set_cons_succ, i64_w, i32_w]
                rfl
              have hcf := HRw3.out.cell fr (by omega)
              have hff := HRw3.out.frozen fr
              refine last_ (i := 8) (N := none) #[true, true, true, true, true, true, true, true, true] rfl rfl (by kernel_rfl) (by decide) (fun K hK => ?_)
              rw [if_pos (by rfl)]
              unfold Oper.wp
              go_simp
              refine hK.out _ _ ?_
              clear hK K
              refine done_ (by kernel_rfl) ?_
              dsimp only [normalOf]
              gi_wp2_with fail
              go_roundw
              case rel => exact ⟨p + 1, wrap64 (t + 1), by go_num, by omega, by omega, ⟨hstep _ (if_pos (by omega))⟩, ⟨by have h_ := HRw3.out.set fr (wrap64 (t + 1)); rw [List.set_set] at h_; exact h_⟩, ⟨(Below.heap_setCell we ⟨go, fr, none⟩ _ _ HNE.out.1).trans HBx3.out.1, (Below.heap_setCell we ⟨go, fr, none⟩ _ _ HNE.out.2.1).trans HBx3.out.2.1, (Below.heap_setCell we ⟨go, fr, none⟩ _ _ HNE.out.2.2).trans HBx3.out.2.2⟩, ⟨below_set HBl3.out hgo0⟩, ⟨fun k h1 h2 => (Below.heap_setCell we ⟨go, fr, none⟩ _ k h2).trans (HKp3.out.1 k h1 h2), HKp3.out.2.trans ((KeepsOthers.setCell _ _ _).from _)⟩⟩
              case measure => first | (simp [intOf]; done) | (simp [intOf]; omega)
            · have hd3 : decide (wrap64 (t + 1) < cur) = false := decide_eq_false c3
              gi_wp2_with fail
              refine startIn_ (n := 24) (S := fun w' => w'.cell? ⟨w13.heap.size, 0, none⟩ = some (.slice (some ⟨go, 0, none⟩) (a0.size + 2) c13) ∧ w'.cell? ⟨go, p, none⟩ = some (.int .i64 t) ∧ w'.cell? ⟨go, fr, none⟩ = some (.int .i64 cur)) (ds := []) #[false, false, false, false, false, false, false, false, false, false, false, false, false, false, false, false, false, false, false, false, false, false, false, false] (by kernel_rfl) mixedL rfl rfl ⟨hco, hct, hcc⟩ (fun hHeld => ?_)
              have HRw2 := Aside0.mk (show RowAt wr.drew go (a0.size + 2) c13 (row.set fr cur) from HRw.out)
              have HBx2 := Aside0.mk (show wr.drew.heap[w.heap.size]? = _ ∧ wr.drew.heap[w.heap.size + 1]? = _ ∧ wr.drew.heap[w13.heap.size]? = _ from HBx.out)
              have HBl2 := Aside0.mk (below_drew HBl.out)
              have HKp2 := Aside0.mk (show (∀ k, k < wU.heap.size → k ≠ go → wr.drew.heap[k]? = W.heap[k]?) ∧ KeepsFrom wU.heap.size W wr.drew from ⟨HKp.out.1, HKp.out.2.trans (keeps_same rfl)⟩)
              generalize wr.drew = wd at HRw2 HBx2 HBl2 HKp2 hHeld ⊢
              refine take_ (i := 0) (N := some 37) (v := ?_) (a' := ?_) #[true, false, false, false, false, false, false, false, false, false, false, false, false, false, false, false, false, false, false, false, false, false, false, false] rfl rfl (by kernel_rfl) (fun _ _ _ h => h) (Or.inl ⟨by rfl, ?_⟩) hHeld ?_ ?_
              rotate_left
              · rintro w' ⟨s0, s1, s2⟩
                go_simp
                with_reducible rfl
              rotate_left
              · simp only [Act.put, List.setIfInBounds_toArray, List.set_cons_zero, List.set_cons_succ, i64_w, i32_w]
                rfl
              refine pure_ (i := 1) (N := some 38) (v := ?_) (a' := ?_) #[true, true, false, false, false, false, false, false, false, false, false, false, false, false, false, false, false, false, false, false, false, false, false, false] rfl rfl (by kernel_rfl) (fun _ _ _ h => h) (Or.inl ⟨by rfl, ?_⟩) ?_ ?_
              rotate_left
              · intro w'
                go_simp
                with_reducible rfl
              rotate_left
              · simp only [Act.put, List.setIfInBounds_toArray, List.set_cons_zero, List.set_cons_succ, i64_w, i32_w]
                rfl
              refine pure_ (i := 2) (N := some 39) (v := .pointer (some ⟨go, p, none⟩)) (a' := ?_) #[true, true, true, false, false, false, false, false, false, false, false, false, false, false, false, false, false, false, false, false, false, false, false, false] rfl rfl (by kernel_rfl) (fun _ _ _ h => h) (Or.inl ⟨by rfl, ?_⟩) ?_ ?_
              · intro w'
                first | (go_simp; done) | (go_simp; rfl) | (go_simp; with_reducible rfl)
              rotate_left
              · simp only [Act.put, List.setIfInBounds_toArray, List.set_cons_zero, List.set_cons_succ, i64_w, i32_w]
                rfl
              refine take_ (i := 3) (N := some 40) (v := ?_) (a' := ?_) #[true, true, true, true, false, false, false, false, false, false, false, false, false, false, false, false, false, false, false, false, false, false, false, false] rfl rfl (by kernel_rfl) (fun _ _ _ h => h) (Or.inl ⟨by rfl, ?_⟩) hHeld ?_ ?_
              rotate_left
              · rintro w' ⟨s0, s1, s2⟩
                go_simp
                with_reducible rfl
              rotate_left
              · simp only [Act.put, List.setIfInBounds_toArray, List.set_cons_zero, List.set_cons_succ, i64_w, i32_w]
                rfl
              refine pure_ (i := 4) (N := some 41) (v := .bool true) (a' := ?_) #[true, true, true, true, true, false, false, false, false, false, false, false, false, false, false, false, false, false, false, false, false, false, false, false] rfl rfl (by kernel_rfl) (fun _ _ _ h => h) (Or.inl ⟨by rfl, ?_⟩) ?_ ?_
              · intro w'
                go_simp
                first | done | (simp only [hd1, hd2, hd3]; done) | (simp only [hd1, hd2, hd3]; rfl)
              rotate_left
              · simp only [Act.put, List.setIfInBounds_toArray, List.set_cons_zero, List.set_cons_succ, i64_w, i32_w]
                rfl
              refine pure_ (i := 5) (N := some 42) (v := ?_) (a' := ?_) #[true, true, true, true, true, true, false, false, false, false, false, false, false, false, false, false, false, false, false, false, false, false, false, false] rfl rfl (by kernel_rfl) (fun _ _ _ h => h) (Or.inl ⟨by rfl, ?_⟩) ?_ ?_
              rotate_left
              · intro w'
                go_simp
                with_reducible rfl
              rotate_left
              · simp only [Act.put, List.setIfInBounds_toArray, List.set_cons_zero, List.set_cons_succ, i64_w, i32_w]
                rfl
              refine take_ (i := 6) (N := some 43) (v := ?_) (a' := ?_) #[true, true, true, true, true, true, true, false, false, false, false, false, false, false, false, false, false, false, false, false, false, false, false, false] rfl rfl (by kernel_rfl) (fun _ _ _ h => h) (Or.inl ⟨by rfl, ?_⟩) hHeld ?_ ?_
              rotate_left
              · rintro w' ⟨s0, s1, s2⟩
                go_simp
                with_reducible rfl
              rotate_left
              · simp only [Act.put, List.setIfInBounds_toArray, List.set_cons_zero, List.set_cons_succ, i64_w, i32_w]
                rfl
              refine pure_ (i := 7) (N := some 44) (v := ?_) (a' := ?_) #[true, true, true, true, true, true, true, true, false, false, false, false, false, false, false, false, false, false, false, false, false, false, false, false] rfl rfl (by kernel_rfl) (fun _ _ _ h => h) (Or.inl ⟨by rfl, ?_⟩) ?_ ?_
              rotate_left
              · intro w'
                go_simp
                with_reducible rfl
              rotate_left
              · simp only [Act.put, List.setIfInBounds_toArray, List.set_cons_zero, List.set_cons_succ, i64_w, i32_w]
                rfl
              refine pure_ (i := 8) (N := some 45) (v := .pointer (some ⟨go, fr, none⟩)) (a' := ?_) #[true, true, true, true, true, true, true, true, true, false, false, false, false, false, false, false, false, false, false, false, false, false, false, false] rfl rfl (by kernel_rfl) (fun _ _ _ h => h) (Or.inl ⟨by rfl, ?_⟩) ?_ ?_
              · intro w'
                first | (go_simp; done) | (go_simp; rfl) | (go_simp; with_reducible rfl)
              rotate_left
              · simp only [Act.put, List.setIfInBounds_toArray, List.set_cons_zero, List.set_cons_succ, i64_w, i32_w]
                rfl
              refine take_ (i := 9) (N := some 46) (v := ?_) (a' := ?_) #[true, true, true, true, true, true, true, true, true, true, false, false, false, false, false, false, false, false, false, false, false, false, false, false] rfl rfl (by kernel_rfl) (fun _ _ _ h => h) (Or.inl ⟨by rfl, ?_⟩) hHeld ?_ ?_
              rotate_left
              · rintro w' ⟨s0, s1, s2⟩
                go_simp
                with_reducible rfl
              rotate_left
              · simp only [Act.put, List.setIfInBounds_toArray, List.set_cons_zero, List.set_cons_succ, i64_w, i32_w]
                rfl
              refine pure_ (i := 10) (N := some 47) (v := .bool false) (a' := ?_) #[true, true, true, true, true, true, true, true, true, true, true, false, false, false, false, false, false, false, false, false, false, false, false, false] rfl rfl (by kernel_rfl) (fun _ _ _ h => h) (Or.inl ⟨by rfl, ?_⟩) ?_ ?_
              · intro w'
                go_simp
                first | done | (simp only [hd1, hd2, hd3]; done) | (simp only [hd1, hd2, hd3]; rfl)
              rotate_left
              · simp only [Act.put, List.setIfInBounds_toArray, List.set_cons_zero, List.set_cons_succ, i64_w, i32_w]
                rfl
              refine pure_ (i := 11) (N := some 48) (v := ?_) (a' := ?_) #[true, true, true, true, true, true, true, true, true, true, true, true, false, false, false, false, false, false, false, false, false, false, false, false] rfl rfl (by kernel_rfl) (fun _ _ _ h => h) (Or.inl ⟨by rfl, ?_⟩) ?_ ?_
              rotate_left
              · intro w'
                go_simp
                with_reducible rfl
              rotate_left
              · simp only [Act.put, List.setIfInBounds_toArray, List.set_cons_zero, List.set_cons_succ, i64_w, i32_w]
                rfl
              refine take_ (i := 12) (N := some 49) (v := ?_) (a' := ?_) #[true, true, true, true, true, true, true, true, true, true, true, true, true, false, false, false, false, false, false, false, false, false, false, false] rfl rfl (by kernel_rfl) (fun _ _ _ h => h) (Or.inl ⟨by rfl, ?_⟩) hHeld ?_ ?_
              rotate_left
              · rintro w' ⟨s0, s1, s2⟩
                go_simp
                with_reducible rfl
              rotate_left
              · simp only [Act.put, List.setIfInBounds_toArray, List.set_cons_zero, List.set_cons_succ, i64_w, i32_w]
                rfl
              refine pure_ (i := 13) (N := some 50) (v := ?_) (a' := ?_) #[true, true, true, true, true, true, true, true, true, true, true, true, true, true, false, false, false, false, false, false, false, false, false, false] rfl rfl (by kernel_rfl) (fun _ _ _ h => h) (Or.inl ⟨by rfl, ?_⟩) ?_ ?_
              rotate_left
              · intro w'
                go_simp
                with_reducible rfl
              rotate_left
              · simp only [Act.put, List.setIfInBounds_toArray, List.set_cons_zero, List.set_cons_succ, i64_w, i32_w]
                rfl
              refine pure_ (i := 14) (N := some 51) (v := .pointer (some ⟨go, p, none⟩)) (a' := ?_) #[true, true, true, true, true, true, true, true, true, true, true, true, true, true, true, false, false, false, false, false, false, false, false, false] rfl rfl (by kernel_rfl) (fun _ _ _ h => h) (Or.inl ⟨by rfl, ?_⟩) ?_ ?_
              · intro w'
                first | (go_simp; done) | (go_simp; rfl) | (go_simp; with_reducible rfl)
              rotate_left
              · simp only [Act.put, List.setIfInBounds_toArray, List.set_cons_zero, List.set_cons_succ, i64_w, i32_w]
                rfl
              refine take_ (i := 15) (N := some 52) (v := ?_) (a' := ?_) #[true, true, true, true, true, true, true, true, true, true, true, true, true, true, true, true, false, false, false, false, false, false, false, false] rfl rfl (by kernel_rfl) (fun _ _ _ h => h) (Or.inl ⟨by rfl, ?_⟩) hHeld ?_ ?_
              rotate_left
              · rintro w' ⟨s0, s1, s2⟩
                go_simp
                with_reducible rfl
              rotate_left
              · simp only [Act.put, List.setIfInBounds_toArray, List.set_cons_zero, List.set_cons_succ, i64_w, i32_w]
                rfl
              refine pure_ (i := 16) (N := some 53) (v := ?_) (a' := ?_) #[true, true, true, true, true, true, true, true, true, true, true, true, true, true, true, true, true, false, false, false, false, false, false, false] rfl rfl (by kernel_rfl) (fun _ _ _ h => h) (Or.inl ⟨by rfl, ?_⟩) ?_ ?_
              rotate_left
              · intro w'
                go_simp
                with_reducible rfl
              rotate_left
              · simp only [Act.put, List.setIfInBounds_toArray, List.set_cons_zero, List.set_cons_succ, i64_w, i32_w]
                rfl
              refine take_ (i := 17) (N := some 54) (v := ?_) (a' := ?_) #[true, true, true, true, true, true, true, true, true, true, true, true, true, true, true, true, true, true, false, false, false, false, false, false] rfl rfl (by kernel_rfl) (fun _ _ _ h => h) (Or.inl ⟨by rfl, ?_⟩) hHeld ?_ ?_
              rotate_left
              · rintro w' ⟨s0, s1, s2⟩
                go_simp
                with_reducible rfl
              rotate_left
              · simp only [Act.put, List.setIfInBounds_toArray, List.set_cons_zero, List.set_cons_succ, i64_w, i32_w]
                rfl
              refine pure_ (i := 18) (N := some 55) (v := ?_) (a' := ?_) #[true, true, true, true, true, true, true, true, true, true, true, true, true, true, true, true, true, true, true, false, false, false, false, false] rfl rfl (by kernel_rfl) (fun _ _ _ h => h) (Or.inl ⟨by rfl, ?_⟩) ?_ ?_
              rotate_left
              · intro w'
                go_simp
                with_reducible rfl
              rotate_left
              · simp only [Act.put, List.setIfInBounds_toArray, List.set_cons_zero, List.set_cons_succ, i64_w, i32_w]
                rfl
              refine pure_ (i := 19) (N := some 56) (v := .pointer (some ⟨go, fr, none⟩)) (a' := ?_) #[true, true, true, true, true, true, true, true, true, true, true, true, true, true, true, true, true, true, true, true, false, false, false, false] rfl rfl (by kernel_rfl) (fun _ _ _ h => h) (Or.inl ⟨by rfl, ?_⟩) ?_ ?_
              · intro w'
                first | (go_simp; done) | (go_simp; rfl) | (go_simp; with_reducible rfl)
              rotate_left
              · simp only [Act.put, List.setIfInBounds_toArray, List.set_cons_zero, List.set_cons_succ, i64_w, i32_w]
                rfl
              refine take_ (i := 20) (N := some 57) (v := ?_) (a' := ?_) #[true, true, true, true, true, true, true, true, true, true, true, true, true, true, true, true, true, true, true, true, true, false, false, false] rfl rfl (by kernel_rfl) (fun _ _ _ h => h) (Or.inl ⟨by rfl, ?_⟩) hHeld ?_ ?_
              rotate_left
              · rintro w' ⟨s0, s1, s2⟩
                go_simp
                with_reducible rfl
              rotate_left
              · simp only [Act.put, List.setIfInBounds_toArray, List.set_cons_zero, List.set_cons_succ, i64_w, i32_w]
                rfl
              refine pure_ (i := 21) (N := some 58) (v := .bool false) (a' := ?_) #[true, true, true, true, true, true, true, true, true, true, true, true, true, true, true, true, true, true, true, true, true, true, false, false] rfl rfl (by kernel_rfl) (fun _ _ _ h => h) (Or.inl ⟨by rfl, ?_⟩) ?_ ?_
              · intro w'
                go_simp
                first | done | (simp only [hd1, hd2, hd3]; done) | (simp only [hd1, hd2, hd3]; rfl)
              rotate_left
              · simp only [Act.put, List.setIfInBounds_toArray, List.set_cons_zero, List.set_cons_succ, i64_w, i32_w]
                rfl
              refine pure_ (i := 22) (N := some 59) (v := .bool false) (a' := ?_) #[true, true, true, true, true, true, true, true, true, true, true, true, true, true, true, true, true, true, true, true, true, true, true, false] rfl rfl (by kernel_rfl) (fun _ _ _ h => h) (Or.inl ⟨by rfl, ?_⟩) ?_ ?_
              · intro w'
                go_simp
                first | done | (simp only [hd1, hd2, hd3]; done) | (simp only [hd1, hd2, hd3]; rfl)
              rotate_left
              · simp only [Act.put, List.setIfInBounds_toArray, List.set_cons_zero, List.set_cons_succ, i64_w, i32_w]
                rfl
              refine pure_ (i := 23) (N := some 60) (v := .bool false) (a' := ?_) #[true, true, true, true, true, true, true, true, true, true, true, true, true, true, true, true, true, true, true, true, true, true, true, true] rfl rfl (by kernel_rfl) (fun _ _ _ h => h) (Or.inl ⟨by rfl, ?_⟩) ?_ ?_
              · intro w'
                go_simp
                first | done | (simp only [hd1, hd2, hd3]; done) | (simp only [hd1, hd2, hd3]; rfl)
              rotate_left
              · simp only [Act.put, List.setIfInBounds_toArray, List.set_cons_zero, List.set_cons_succ, i64_w, i32_w]
                rfl
              refine done_ (by kernel_rfl) ?_
              dsimp only [normalOf]
              gi_wp2_with fail
              go_roundw
              case rel => exact ⟨p + 1, cur, by go_num, by omega, by omega, ⟨hstep _ (if_neg (by omega))⟩, HRw2, HBx2, HBl2, HKp2⟩
              case measure => first | (simp [intOf]; done) | (simp [intOf]; omega)
        · have hd1 : decide (t ≥ 0) = false := decide_eq_false c1
          have hd2 : True := trivial
          have hd3 : True := trivial
          gi_wp2_with fail
          refine startIn_ (n := 24) (S := fun w' => w'.cell? ⟨w13.heap.size, 0, none⟩ = some (.slice (some ⟨go, 0, none⟩) (a0.size + 2) c13) ∧ w'.cell? ⟨go, p, none⟩ = some (.int .i64 t) ∧ w'.cell? ⟨go, fr, none⟩ = some (.int .i64 cur)) (ds := []) #[false, false, false, false, false, false, false, false, false, false, false, false, false, false, false, false, false, false, false, false, false, false, false, false] (by kernel_rfl) mixedL rfl rfl ⟨hco, hct, hcc⟩ (fun hHeld => ?_)
          have HRw2 := Aside0.mk (show RowAt wr.drew go (a0.size + 2) c13 (row.set fr cur) from HRw.out)
          have HBx2 := Aside0.mk (show wr.drew.heap[w.heap.size]? = _ ∧ wr.drew.heap[w.heap.size + 1]? = _ ∧ wr.drew.heap[w13.heap.size]? = _ from HBx.out)
          have HBl2 := Aside0.mk (below_drew HBl.out)
          have HKp2 := Aside0.mk (show (∀ k, k < wU.heap.size → k ≠ go → wr.drew.heap[k]? = W.heap[k]?) ∧ KeepsFrom wU.heap.size W wr.drew from ⟨HKp.out.1, HKp.out.2.trans (keeps_same rfl)⟩)
          generalize wr.drew = wd at HRw2 HBx2 HBl2 HKp2 hHeld ⊢
          refine take_ (i := 0) (N := some 37) (v := ?_) (a' := ?_) #[true, false, false, false, false, false, false, false, false, false, false, false, false, false, false, false, false, false, false, false, false, false, false, false] rfl rfl (by kernel_rfl) (fun _ _ _ h => h) (Or.inl ⟨by rfl, ?_⟩) hHeld ?_ ?_
          rotate_left
          · rintro w' ⟨s0, s1, s2⟩
            go_simp
            with_reducible rfl
          rotate_left
          · simp only [Act.put, List.setIfInBounds_toArray, List.set_cons_zero, List.set_cons_succ, i64_w, i32_w]
            rfl
          refine pure_ (i := 1) (N := some 38) (v := ?_) (a' := ?_) #[true, true, false, false, false, false, false, false, false, false, false, false, false, false, false, false, false, false, false, false, false, false, false, false] rfl rfl (by kernel_rfl) (fun _ _ _ h => h) (Or.inl ⟨by rfl, ?_⟩) ?_ ?_
          rotate_left
          · intro w'
            go_simp
            with_reducible rfl
          rotate_left
          · simp only [Act.put, List.setIfInBounds_toArray, List.set_cons_zero, List.set_cons_succ, i64_w, i32_w]
            rfl
          refine pure_ (i := 2) (N := some 39) (v := .pointer (some ⟨go, p, none⟩)) (a' := ?_) #[true, true, true, false, false, false, false, false, false, false, false, false, false, false, false, false, false, false, false, false, false, false, false, false] rfl rfl (by kernel_rfl) (fun _ _ _ h => h) (Or.inl ⟨by rfl, ?_⟩) ?_ ?_
          · intro w'
            first | (go_simp; done) | (go_simp; rfl) | (go_simp; with_reducible rfl)
          rotate_left
          · simp only [Act.put, List.setIfInBounds_toArray, List.set_cons_zero, List.set_cons_succ, i64_w, i32_w]
            rfl
          refine take_ (i := 3) (N := some 40) (v := ?_) (a' := ?_) #[true, true, true, true, false, false, false, false, false, false, false, false, false, false, false, false, false, false, false, false, false, false, false, false] rfl rfl (by kernel_rfl) (fun _ _ _ h => h) (Or.inl ⟨by rfl, ?_⟩) hHeld ?_ ?_
          rotate_left
          · rintro w' ⟨s0, s1, s2⟩
            go_simp
            with_reducible rfl
          rotate_left
          · simp only [Act.put, List.setIfInBounds_toArray, List.set_cons_zero, List.set_cons_succ, i64_w, i32_w]
            rfl
          refine pure_ (i := 4) (N := some 41) (v := .bool false) (a' := ?_) #[true, true, true, true, true, false, false, false, false, false, false, false, false, false, false, false, false, false, false, false, false, false, false, false] rfl rfl (by kernel_rfl) (fun _ _ _ h => h) (Or.inl ⟨by rfl, ?_⟩) ?_ ?_
          · intro w'
            go_simp
            first | done | (simp only [hd1, hd2, hd3]; done) | (simp only [hd1, hd2, hd3]; rfl)
          rotate_left
          · simp only [Act.put, List.setIfInBounds_toArray, List.set_cons_zero, List.set_cons_succ, i64_w, i32_w]
            rfl
          refine pure_ (i := 5) (N := some 42) (v := ?_) (a' := ?_) #[true, true, true, true, true, true, false, false, false, false, false, false, false, false, false, false, false, false, false, false, false, false, false, false] rfl rfl (by kernel_rfl) (fun _ _ _ h => h) (Or.inl ⟨by rfl, ?_⟩) ?_ ?_
          rotate_left
          · intro w'
            go_simp
            with_reducible rfl
          rotate_left
          · simp only [Act.put, List.setIfInBounds_toArray, List.set_cons_zero, List.set_cons_succ, i64_w, i32_w]
            rfl
          refine pure_ (i := 6) (N := some 43) (v := undef) (a' := ?_) #[true, true, true, true, true, true, true, false, false, false, false, false, false, false, false, false, false, false, false, false, false, false, false, false] rfl rfl (by kernel_rfl) (fun _ _ _ h => h) (Or.inr ⟨by rfl, rfl⟩) ?_ ?_
          rotate_left
          · simp only [Act.put, List.setIfInBounds_toArray, List.set_cons_zero, List.set_cons_succ, i64_w, i32_w]
            rfl
          refine pure_ (i := 7) (N := some 44) (v := undef) (a' := ?_) #[true, true, true, true, true, true, true, true, false, false, false, false, false, false, false, false, false, false, false, false, false, false, false, false] rfl rfl (by kernel_rfl) (fun _ _ _ h => h) (Or.inr ⟨by rfl, rfl⟩) ?_ ?_
          rotate_left
          · simp only [Act.put, List.setIfInBounds_toArray, List.set_cons_zero, List.set_cons_succ, i64_w, i32_w]
            rfl
          refine pure_ (i := 8) (N := some 45) (v := undef) (a' := ?_) #[true, true, true, true, true, true, true, true, true, false, false, false, false, false, false, false, false, false, false, false, false, false, false, false] rfl rfl (by kernel_rfl) (fun _ _ _ h => h) (Or.inr ⟨by rfl, rfl⟩) ?_ ?_
          rotate_left
          · simp only [Act.put, List.setIfInBounds_toArray, List.set_cons_zero, List.set_cons_succ, i64_w, i32_w]
            rfl
          refine pure_ (i := 9) (N := some 46) (v := undef) (a' := ?_) #[true, true, true, true, true, true, true, true, true, true, false, false, false, false, false, false, false, false, false, false, false, false, false, false] rfl rfl (by kernel_rfl) (fun _ _ _ h => h) (Or.inr ⟨by rfl, rfl⟩) ?_ ?_
          rotate_left
          · simp only [Act.put, List.setIfInBounds_toArray, List.set_cons_zero, List.set_cons_succ, i64_w, i32_w]
            rfl
          refine pure_ (i := 10) (N := some 47) (v := undef) (a' := ?_) #[true, true, true, true, true, true, true, true, true, true, true, false, false, false, false, false, false, false, false, false, false, false, false, false] rfl rfl (by kernel_rfl) (fun _ _ _ h => h) (Or.inr ⟨by rfl, rfl⟩) ?_ ?_
          rotate_left
          · simp only [Act.put, List.setIfInBounds_toArray, List.set_cons_zero, List.set_cons_succ, i64_w, i32_w]
            rfl
          refine pure_ (i := 11) (N := some 48) (v := undef) (a' := ?_) #[true, true, true, true, true, true, true, true, true, true, true, true, false, false, false, false, false, false, false, false, false, false, false, false] rfl rfl (by kernel_rfl) (fun _ _ _ h => h) (Or.inr ⟨by rfl, rfl⟩) ?_ ?_
          rotate_left
          · simp only [Act.put, List.setIfInBounds_toArray, List.set_cons_zero, List.set_cons_succ, i64_w, i32_w]
            rfl
          refine pure_ (i := 12) (N := some 49) (v := undef) (a' := ?_) #[true, true, true, true, true, true, true, true, true, true, true, true, true, false, false, false, false, false, false, false, false, false, false, false] rfl rfl (by kernel_rfl) (fun _ _ _ h => h) (Or.inr ⟨by rfl, rfl⟩) ?_ ?_
          rotate_left
          · simp only [Act.put, List.setIfInBounds_toArray, List.set_cons_zero, List.set_cons_succ, i64_w, i32_w]
            rfl
          refine pure_ (i := 13) (N := some 50) (v := undef) (a' := ?_) #[true, true, true, true, true, true, true, true, true, true, true, true, true, true, false, false, false, false, false, false, false, false, false, false] rfl rfl (by kernel_rfl) (fun _ _ _ h => h) (Or.inr ⟨by rfl, rfl⟩) ?_ ?_
          rotate_left
          · simp only [Act.put, List.setIfInBounds_toArray, List.set_cons_zero, List.set_cons_succ, i64_w, i32_w]
            rfl
          refine pure_ (i := 14) (N := some 51) (v := undef) (a' := ?_) #[true, true, true, true, true, true, true, true, true, true, true, true, true, true, true, false, false, false, false, false, false, false, false, false] rfl rfl (by kernel_rfl) (fun _ _ _ h => h) (Or.inr ⟨by rfl, rfl⟩) ?_ ?_
          rotate_left
          · simp only [Act.put, List.setIfInBounds_toArray, List.set_cons_zero, List.set_cons_succ, i64_w, i32_w]
            rfl
          refine pure_ (i := 15) (N := some 52) (v := undef) (a' := ?_) #[true, true, true, true, true, true, true, true, true, true, true, true, true, true, true, true, false, false, false, false, false, false, false, false] rfl rfl (by kernel_rfl) (fun _ _ _ h => h) (Or.inr ⟨by rfl, rfl⟩) ?_ ?_
          rotate_left
          · simp only [Act.put, List.setIfInBounds_toArray, List.set_cons_zero, List.set_cons_succ, i64_w, i32_w]
            rfl
          refine pure_ (i := 16) (N := some 53) (v := undef) (a' := ?_) #[true, true, true, true, true, true, true, true, true, true, true, true, true, true, true, true, true, false, false, false, false, false, false, false] rfl rfl (by kernel_rfl) (fun _ _ _ h => h) (Or.inr ⟨by rfl, rfl⟩) ?_ ?_
          rotate_left
          · simp only [Act.put, List.setIfInBounds_toArray, List.set_cons_zero, List.set_cons_succ, i64_w, i32_w]
            rfl
          refine pure_ (i := 17) (N := some 54) (v := undef) (a' := ?_) #[true, true, true, true, true, true, true, true, true, true, true, true, true, true, true, true, true, true, false, false, false, false, false, false] rfl rfl (by kernel_rfl) (fun _ _ _ h => h) (Or.inr ⟨by rfl, rfl⟩) ?_ ?_
          rotate_left
          · simp only [Act.put, List.setIfInBounds_toArray, List.set_cons_zero, List.set_cons_succ, i64_w, i32_w]
            rfl
          refine pure_ (i := 18) (N := some 55) (v := undef) (a' := ?_) #[true, true, true, true, true, true, true, true, true, true, true, true, true, true, true, true, true, true, true, false, false, false, false, false] rfl rfl (by kernel_rfl) (fun _ _ _ h => h) (Or.inr ⟨by rfl, rfl⟩) ?_ ?_
          rotate_left
          · simp only [Act.put, List.setIfInBounds_toArray, List.set_cons_zero, List.set_cons_succ, i64_w, i32_w]
            rfl
          refine pure_ (i := 19) (N := some 56) (v := undef) (a' := ?_) #[true, true, true, true, true, true, true, true, true, true, true, true, true, true, true, true, true, true, true, true, false, false, false, false] rfl rfl (by kernel_rfl) (fun _ _ _ h => h) (Or.inr ⟨by rfl, rfl⟩) ?_ ?_
          rotate_left
          · simp only [Act.put, List.setIfInBounds_toArray, List.set_cons_zero, List.set_cons_succ, i64_w, i32_w]
            rfl
          refine pure_ (i := 20) (N := some 57) (v := undef) (a' := ?_) #[true, true, true, true, true, true, true, true, true, true, true, true, true, true, true, true, true, true, true, true, true, false, false, false] rfl rfl (by kernel_rfl) (fun _ _ _ h => h) (Or.inr ⟨by rfl, rfl⟩) ?_ ?_
          rotate_left
          · simp only [Act.put, List.setIfInBounds_toArray, List.set_cons_zero, List.set_cons_succ, i64_w, i32_w]
            rfl
          refine pure_ (i := 21) (N := some 58) (v := undef) (a' := ?_) #[true, true, true, true, true, true, true, true, true, true, true, true, true, true, true, true, true, true, true, true, true, true, false, false] rfl rfl (by kernel_rfl) (fun _ _ _ h => h) (Or.inr ⟨by rfl, rfl⟩) ?_ ?_
          rotate_left
          · simp only [Act.put, List.setIfInBounds_toArray, List.set_cons_zero, List.set_cons_succ, i64_w, i32_w]
            rfl
          refine pure_ (i := 22) (N := some 59) (v := undef) (a' := ?_) #[true, true, true, true, true, true, true, true, true, true, true, true, true, true, true, true, true, true, true, true, true, true, true, false] rfl rfl (by kernel_rfl) (fun _ _ _ h => h) (Or.inr ⟨by rfl, rfl⟩) ?_ ?_
          rotate_left
          · simp only [Act.put, List.setIfInBounds_toArray, List.set_cons_zero, List.set_cons_succ, i64_w, i32_w]
            rfl
          refine pure_ (i := 23) (N := some 60) (v := .bool false) (a' := ?_) #[true, true, true, true, true, true, true, true, true, true, true, true, true, true, true, true, true, true, true, true, true, true, true, true] rfl rfl (by kernel_rfl) (fun _ _ _ h => h) (Or.inl ⟨by rfl, ?_⟩) ?_ ?_
          · intro w'
            go_simp
            first | done | (simp only [hd1, hd2, hd3]; done) | (simp only [hd1, hd2, hd3]; rfl)
          rotate_left
          · simp only [Act.put, List.setIfInBounds_toArray, List.set_cons_zero, List.set_cons_succ, i64_w, i32_w]
            rfl
          refine done_ (by kernel_rfl) ?_
          dsimp only [normalOf]
          gi_wp2_with fail
          go_roundw
          case rel => exact ⟨p + 1, cur, by go_num, by omega, by omega, ⟨hstep _ (if_neg (by omega))⟩, HRw2, HBx2, HBl2, HKp2⟩
          case measure => first | (simp [intOf]; done) | (simp [intOf]; omega)
      · have hcd : ¬ (p : Int) ≤ (hi : Int) := by omega
        gi_wp2
        have hpe : p = hi + 1 := by omega
        have hx := HX.out
        rw [hpe, show hi + 1 - (hi + 1) = 0 from by omega] at hx
        refine ⟨HKp.out.2, HKp.out.1, HBx.out, ?_, HBl.out⟩
        rw [List.map_append, List.map_cons, List.map_nil, leftRow_snoc, ← HROW.out]
        have hrl : relaxed lp row fr = row.set fr cur := by
          unfold relaxed
          rw [HLEN.out, show a0.size + 2 - 1 = a0.size + 1 from rfl, ← HHI.out, ← hx]
          rfl
        rw [Int.toNat_natCast, hrl]
        exact HRw.out
  case done =>
    rintro D ys W hD rfl ⟨⟨hR, hL, hO⟩, hRow, hB⟩ hK
    have hco := blk_cell hO 0
    simp only [List.getElem?_toArray, List.getElem?_cons_zero] at hco
    have XRow := Aside0.mk hRow
    have XB := Aside0.mk hB
    clear hR hL hO hRow hB
    go_wp2
    refine ⟨by simp, .inl ⟨_, _, rfl, run_takeDeferred hK, ?_⟩⟩
    have hD' : wU.heap.size ≤ D := by simpa using hD
    have hrw := XRow.out.keep (W' := W.putObj D (.deferred none)) (World.putObj_heap_other (by omega))
    rw [← HBK.out] at hrw
    have hln : (leftRow lp (leftStart a0.size) (backTo st)).length = a0.size + 2 := by rw [leftRow_length]; simp [leftStart]
    refine ⟨_, results_tmp rfl _ _ _, _, rfl, Kd.R_of_own ?_ (fun _ _ => trivial), XB.out.trans (belowK_b (w := wU) (by have := below_size HBUU.out; omega) W D _ _ hD' hK rfl rfl)⟩
    rw [hln]
    exact hrw.own hgo0
  case stop =>
    rintro D c pre W _ _ h _
    exact h.elim
end

end Go.Proofs.YtaocebflcjomhaaDoor.K
