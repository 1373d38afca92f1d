/- Go functions of this seat as plain functions, each with the proof that its call comes to what that function says: written by this session's program (wip/drive.py) out of the translation, by the kit's printer and by texts of our own; no conditions. -/
import Derived.Test.YtadkmhlohgeihaaDoorKx0
import Derived.Test.YtadkmhlohgeihaaDoorKx3
import Derived.Test.YtadkmhlohgeihaaDoorKx4
import Derived.Test.YtadkmhlohgeihaaDoorKx10
import Derived.Test.YtadkmhlohgeihaaDoorKx11
import Derived.Lib.MinMax
import Derived.LoopIn
import Derived.LoopNIn
import Derived.Maps.AppendAt
import Derived.OrdersIn
import Derived.OwnWalkIn
import Derived.RangeFuncBound
import Derived.RangeFuncBox
import Derived.RangeFuncCalls
import Derived.RangeFuncLeaves
import Derived.RangeFuncWrites
import Derived.TacticsInMore
namespace Go.Proofs.YtadkmhlohgeihaaDoor.K
open Go.RowKit Go.Proofs.YtadkmhlohgeihaaDoorW.PrintWords Go.Proofs.YtadkmhlohgeihaaDoorW.PrintLast Go.Proofs.YtadkmhlohgeihaaDoorW.PrintMore
attribute [local go_sem] max2_int min2_int max_two min_two max_three min_three max_four min_four   -- for this text's walks alone
set_option linter.unusedVariables false
set_option linter.unusedSimpArgs false

/-! ### impl_ParseIsles: function 11 -/
section
/-! A region that draws its order inside a fence: one walk of it outside serves, where no operation calls. -/
def calmW : Op → Bool
  | .move _ | .assign _ | .pick _ _ _ | .load _ _ | .store _ _ _ | .binOp _ _ _ _ _ | .indexAddr _ _ _ | .fieldAddr _ _ _ | .build _ _ | .buildSlice _ _ _ | .slice _ _ _ _ _ => true
  | .call c => match c.callee with
    | .builtin .append | .builtin .len | .builtin .min => true
    | _ => false
  | _ => false
def calmEndW : Result Next → Bool
  | .ok (.value _) _ | .ok .skip _ | .halt _ _ => true
  | _ => false
theorem calmW_v {P : Program} {w : World} (s : Sem Value) : calmEndW ((do pure (Next.value (← s)) : Sem Next).run P w) = true := by
  simp only [Sem.run_bind]
  cases s.run P w <;> rfl
theorem calmW_u {P : Program} {w : World} (s : Sem Unit) : calmEndW ((do s; pure Next.skip : Sem Next).run P w) = true := by
  simp only [Sem.run_bind]
  cases s.run P w <;> rfl
theorem calmW_call {c : Call} (h : calmW (.call c) = true) : c.callee = .builtin .append ∨ c.callee = .builtin .len ∨ c.callee = .builtin .min := by
  simp only [calmW] at h
  split at h
  · rename_i e; exact Or.inl e
  · rename_i e; exact Or.inr (Or.inl e)
  · rename_i e; exact Or.inr (Or.inr e)
  · exact absurd h (by decide)
theorem calmW_about {P : Program} {w : World} (ρ : Operand → Value) (o : Oper) (h : calmW o.op = true) : o.about P w ρ = none := by
  unfold Oper.about
  cases ho : o.op <;> rw [ho] at h <;> first | rfl | (exact absurd (show false = true from h) (by decide)) | skip
  rename_i c
  rcases calmW_call h with e | e | e <;> simp [resolve, e, Target.leads, Sem.run]
theorem calmW_run {P : Program} {w : World} (ρ : Operand → Value) (o : Oper) (h : calmW o.op = true) : calmEndW ((execOp ρ o).run P w) = true := by
  unfold execOp
  cases ho : o.op <;> rw [ho] at h <;> first | (exact absurd (show false = true from h) (by decide)) | skip
  all_goals dsimp only
  all_goals first | rfl | exact calmW_v _ | exact calmW_u _ | skip
  · simp only [Sem.run_bind]
    rename_i c a b
    cases (asBool (ρ c)).run P w <;> rfl
  · rename_i c
    rcases calmW_call h with e | e | e
    · have h1 : (do let d ← resolve ρ c o.type; invoke d.target d.args : Sem Next) = (do let d ← (pure { target := .builtin .append c.argTypes o.type (c.args.map fun | .const _ => true | _ => false), args := c.args.map ρ } : Sem Deferred); invoke d.target d.args) := by unfold resolve; rw [e]; rfl
      rw [h1, Sem.run_bind]
      exact calmW_v _
    · have h1 : (do let d ← resolve ρ c o.type; invoke d.target d.args : Sem Next) = (do let d ← (pure { target := .builtin .len c.argTypes o.type (c.args.map fun | .const _ => true | _ => false), args := c.args.map ρ } : Sem Deferred); invoke d.target d.args) := by unfold resolve; rw [e]; rfl
      rw [h1, Sem.run_bind]
      exact calmW_v _
    · have h1 : (do let d ← resolve ρ c o.type; invoke d.target d.args : Sem Next) = (do let d ← (pure { target := .builtin .min c.argTypes o.type (c.args.map fun | .const _ => true | _ => false), args := c.args.map ρ } : Sem Deferred); invoke d.target d.args) := by unfold resolve; rw [e]; rfl
      rw [h1, Sem.run_bind]
      exact calmW_v _
def normalW (Q : Exit → Act → World → Prop) : Exit → Act → World → Prop
  | .normal, a, w => Q .normal a w
  | _, _, _ => False
theorem calmW_wpIn {F : Fence} {n : Nat} {P : Program} {o : Oper} {a : Act} {w : World} {K : Act → World → Prop} {Q : Exit → Act → World → Prop} (h : calmW o.op = true) (hw : o.wp P a w K (normalW Q)) : o.wpIn F n P a w K Q := by
  refine ⟨fun f hf => ?_, ?_⟩
  · rw [calmW_about _ _ h] at hf
    cases hf
  · have hd : ∀ c, o.op ≠ .defer c := fun c hc => by rw [hc] at h; exact absurd (show false = true from h) (by decide)
    rw [Oper.semAt_eq _ _ _ hd]
    unfold Oper.wp at hw
    have hc := calmW_run (P := P) (w := w) a.eval o h
    generalize (execOp a.eval o).run P w = r at hw hc
    cases r with
    | ok x w' => cases x <;> first | exact hw | exact absurd (show false = true from hc) (by decide)
    | halt x w' => cases x <;> exact absurd hw id
theorem calmW_any {F : Fence} {n : Nat} {P : Program} {md : Region.Mode} {ops : Array Oper} {Q : Exit → Act → World → Prop} (hc : ∀ (i : Nat) (o : Oper), ops[i]? = some o → calmW o.op = true) : ∀ (fuel : Nat) (listed : Array Bool) (a : Act) (w : World), wpAny P md ops (normalW Q) fuel listed a w → wpAnyIn F n P md ops Q fuel listed a w
  | 0, _, _, _, h => h
  | fuel + 1, l, a, w, h => ⟨h.1, fun i hi => by
    have h2 := h.2 i hi
    unfold wpOp at h2
    unfold wpOpIn
    cases ho : ops[i]? with
    | none =>
      rw [ho] at h2
      exact calmW_any hc fuel _ _ _ h2
    | some o =>
      rw [ho] at h2
      have hk := hc i o ho
      dsimp only at h2 ⊢
      split
      · rename_i hw
        rw [if_pos hw] at h2
        rcases h2 with h2 | ⟨_, _, _, h2⟩
        · exact calmW_wpIn hk (Oper.wp_mono (fun a w h => calmW_any hc fuel _ a w h) h2)
        · exact absurd h2 id
      · rename_i hw
        rw [if_neg hw] at h2
        refine ⟨fun f hf => ?_, calmW_any hc fuel _ _ _ h2⟩
        rw [calmW_about _ _ hk] at hf
        cases hf⟩
theorem startW_ {F : Fence} {m : Nat} {P : Program} {ops : Array Oper} {Q : Exit → Act → World → Prop} {S : World → Prop} {ds : List Nat} {id n : Nat} {a : Act} {w : World} (l : Array Bool) (hc : ops.all (fun o => calmW o.op) = true) (hm : P.follows .mixedOrders = true) (hn : ops.size = n) (hl : Array.replicate n false = l) (hS : S w.drew)
    (h : S w.drew → wpAnyLast P .any ops (normalW Q) S ds n l a w.drew) : (Code.region id ops true).wpIn F m P Q a w := by
  subst hn
  subst hl
  refine wpIn_region_any hm (calmW_any (fun i o hi => ?_) _ _ _ _ (wpAny_of_last _ _ _ _ (h hS)))
  obtain ⟨h1, h2⟩ := Array.getElem?_eq_some_iff.1 hi
  have := Array.all_eq_true.1 hc i h1
  rw [h2] at this
  exact this
end
theorem mixedW : Tryd.prog.follows .mixedOrders = true := by kernel_rfl
/-- The k-th chunk of a row that begins at a block's cell. -/
def chunkV (gb off k : Nat) : Value := .slice (some ⟨gb, off + 3 * k, none⟩) 3 3
def chunksTo (k : Nat) : List Nat := List.range k
theorem chunksTo_succ (k : Nat) : chunksTo (k + 1) = chunksTo k ++ [k] := List.range_succ
theorem chunksTo_length (k : Nat) : (chunksTo k).length = k := List.length_range
section
attribute [local go_sem] Oper.semAt_some
set_option maxRecDepth 100000 in
set_option maxHeartbeats 2000000 in
/-- slices.Chunk's closure at chunks of three, for every loop body that keeps what it reads. -/
theorem chunk1_in (F : Fence) (n : Nat) (h7 : F.fn 41) (hro : F.round = none) (hn : 1 ≤ n) (l Bs Bn cap m L gb off : Nat) (hL : L = 3 * m) (A : Option Addr) (hA : m = 0 ∨ A = some ⟨gb, off, none⟩) (hcap : L ≤ cap) (hreach : L ≤ 281474976710656) (Kp : World → World → Prop) (hKr : ∀ W, Kp W W) (hKt : ∀ {A B C : World}, Kp A B → Kp B C → Kp A C) (hKd : ∀ {W W' : World}, Kp W W' → Kp W W'.drew)
    (hK : ∀ {W W' : World}, Kp W W' → W'.cell? ⟨Bs, 0, none⟩ = W.cell? ⟨Bs, 0, none⟩ ∧ W'.cell? ⟨Bn, 0, none⟩ = W.cell? ⟨Bn, 0, none⟩) (J Jx : List Nat → World → Prop) (hJd : ∀ {pre W}, J pre W → J pre W.drew)
    (val : Nat → Nat) (hval : ∀ k, k < m → val k = k) (hY : ∀ pre x W, J pre W → pre.length < m → YieldAt F (n - 1) Tryd.prog l #[chunkV gb off (val x)] W fun e W' =>
      (e = .returned (.bool true) ∧ J (pre ++ [x]) W' ∧ Kp W W') ∨ (e = .returned (.bool false) ∧ Jx (pre ++ [x]) W'))
    (W : World) (hBs : W.cell? ⟨Bs, 0, none⟩ = some (.slice A L cap)) (hBn : W.cell? ⟨Bn, 0, none⟩ = some (.int .i64 3)) (h0 : J [] W) :
    CallsIn F n Tryd.prog 41 #[.func (.yield l) #[] #[], .pointer (some ⟨Bs, 0, none⟩), .pointer (some ⟨Bn, 0, none⟩)] W fun e W' => (∃ v, e = .returned v) ∧
      ((∃ ys, ys = chunksTo m ∧ J ys W') ∨ (∃ pre, (∃ k, k ≤ m ∧ pre = chunksTo k) ∧ Jx pre W')) := by
  refine callsIn_of_wp Tryd.func41 rfl h7 ?_ hro
  simp only [Tryd.ntmps41, List.size_toArray, List.length_cons, List.length_nil, Nat.reduceAdd, Nat.reduceSub, Array.replicate_succ, Array.replicate_zero, List.push_toArray, List.append_toArray, List.nil_append, List.cons_append]
  have HD := Aside0.mk (@hJd)
  have HDK := Aside0.mk (@hKd)
  have HA := Aside0.mk hA
  have HL := Aside0.mk hL
  clear hJd hKd hA hL
  gi_wp2
  gi_loopw [4] (fun v4 wr => ∃ i : Nat, v4 = .int .i64 i ∧ Aside0 (∃ k, k ≤ m ∧ i = 3 * k ∧ J (chunksTo k) wr) ∧ Aside0 (Kp W wr))
    (fun v4 _ => L - (intOf v4).toNat)
  case atStart => exact ⟨0, rfl, ⟨0, Nat.zero_le _, rfl, h0⟩, ⟨hKr _⟩⟩
  case round =>
    obtain ⟨i, rfl, HX, HKx⟩ := hrel
    obtain ⟨k, hk, hik, hJ⟩ := HX.out
    have HJ := Aside0.mk hJ
    have HI := Aside0.mk hik
    have hbs := (hK HKx.out).1.trans hBs
    have hbn := (hK HKx.out).2.trans hBn
    clear hJ HX
    by_cases hlt : k < m
    · obtain rfl : A = some ⟨gb, off, none⟩ := by rcases HA.out with h | h; exact absurd hlt (by omega); exact h
      have hL := HL.out
      have hiN : i + 3 ≤ L := by omega
      have hci : (i : Int) < (L : Int) := by omega
      have hil : (i : Int) ≤ (L : Int) := by omega
      have hi0 : (0 : Int) ≤ (i : Int) := by omega
      have hnc : ¬ cap = i := by omega
      have hmin : min (3 : Int) ((L - i : Nat) : Int) = 3 := by omega
      have hmin2 : (if (L - i : Nat) < 3 then ((L - i : Nat) : Int) else 3) = 3 := if_neg (by omega)
      clear hL hik
      gi_wp2_with fail
      refine startW_ (n := 7) (S := fun w' => w'.cell? ⟨Bs, 0, none⟩ = some (.slice (some ⟨gb, off, none⟩) L cap) ∧ w'.cell? ⟨Bn, 0, none⟩ = some (.int .i64 3)) (ds := []) #[false, false, false, false, false, false, false] (by kernel_rfl) mixedW rfl rfl ⟨hbs, hbn⟩ (fun hHeld => ?_)
      have HJ2 := Aside0.mk (HD.out HJ.out)
      have HK2 := Aside0.mk (HDK.out HKx.out)
      clear HJ HKx
      generalize wr.drew = wd at hHeld HJ2 HK2 ⊢
      refine take_ (i := 0) (N := some 13) (v := ?_) (a' := ?_) #[true, false, false, false, false, false, false] rfl rfl (by kernel_rfl) (fun _ _ _ h => h) (Or.inl ⟨by rfl, ?_⟩) hHeld ?_ ?_
      rotate_left
      · rintro w' ⟨s0, s1⟩
        go_simp
        with_reducible rfl
      rotate_left
      · simp only [Act.put, List.setIfInBounds_toArray, List.set_cons_zero, List.set_cons_succ, i64_w, i32_w]
        rfl
      refine take_ (i := 1) (N := some 14) (v := ?_) (a' := ?_) #[true, true, false, false, false, false, false] rfl rfl (by kernel_rfl) (fun _ _ _ h => h) (Or.inl ⟨by rfl, ?_⟩) hHeld ?_ ?_
      rotate_left
      · rintro w' ⟨s0, s1⟩
        go_simp
        with_reducible rfl
      rotate_left
      · simp only [Act.put, List.setIfInBounds_toArray, List.set_cons_zero, List.set_cons_succ, i64_w, i32_w]
        rfl
      refine pure_ (i := 2) (N := some 15) (v := ?_) (a' := ?_) #[true, true, true, false, false, false, false] rfl rfl (by kernel_rfl) (fun _ _ _ h => h) (Or.inl ⟨by rfl, ?_⟩) ?_ ?_
      rotate_left
      · intro w'
        go_simp
        with_reducible rfl
      rotate_left
      · simp only [Act.put, List.setIfInBounds_toArray, List.set_cons_zero, List.set_cons_succ, i64_w, i32_w]
        rfl
      refine pure_ (i := 3) (N := some 16) (v := .slice (some ⟨gb, off + i, none⟩) (L - i) (cap - i)) (a' := ?_) #[true, true, true, true, false, false, false] rfl rfl (by kernel_rfl) (fun _ _ _ h => h) (Or.inl ⟨by rfl, ?_⟩) ?_ ?_
      · intro w'
        go_simp
        first | done | rfl
      rotate_left
      · simp only [Act.put, List.setIfInBounds_toArray, List.set_cons_zero, List.set_cons_succ, i64_w, i32_w]
        rfl
      refine pure_ (i := 4) (N := some 17) (v := ?_) (a' := ?_) #[true, true, true, true, true, false, false] rfl rfl (by kernel_rfl) (fun _ _ _ h => h) (Or.inl ⟨by rfl, ?_⟩) ?_ ?_
      rotate_left
      · intro w'
        go_simp
        with_reducible rfl
      rotate_left
      · simp only [Act.put, List.setIfInBounds_toArray, List.set_cons_zero, List.set_cons_succ, i64_w, i32_w]
        rfl
      refine pure_ (i := 5) (N := some 18) (v := .int .i64 3) (a' := ?_) #[true, true, true, true, true, true, false] rfl rfl (by kernel_rfl) (fun _ _ _ h => h) (Or.inl ⟨by rfl, ?_⟩) ?_ ?_
      · intro w'
        have h_ := hmin
        go_simp
        first | done | (rw [h_]; done) | (rw [h_]; rfl) | (intro h2_; omega)
      rotate_left
      · simp only [Act.put, List.setIfInBounds_toArray, List.set_cons_zero, List.set_cons_succ, i64_w, i32_w]
        rfl
      refine pure_ (i := 6) (N := some 5) (v := ?_) (a' := ?_) #[true, true, true, true, true, true, true] rfl rfl (by kernel_rfl) (fun _ _ _ h => h) (Or.inl ⟨by rfl, ?_⟩) ?_ ?_
      rotate_left
      · intro w'
        go_simp
        with_reducible rfl
      rotate_left
      · simp only [Act.put, List.setIfInBounds_toArray, List.set_cons_zero, List.set_cons_succ, i64_w, i32_w]
        rfl
      refine done_ (by kernel_rfl) ?_
      dsimp only [normalW]
      obtain ⟨fn, tmps, assign, body, hy, hR⟩ := hY _ k wd HJ2.out (by rw [chunksTo_length]; exact hlt)
      rw [show chunkV gb off (val k) = .slice (some ⟨gb, off + i, none⟩) 3 3 from by unfold chunkV; rw [hval k hlt, ← HI.out]] at hy
      gi_wp2
      refine hR.mono ?_
      rintro e W3 (⟨rfl, hJ3, hk3⟩ | ⟨rfl, hJx3⟩)
      · have hK3 := Aside0.mk (hKt HK2.out hk3)
        have hJ3' := Aside0.mk hJ3
        have hbn3 := (hK hK3.out).2.trans hBn
        clear hk3 hJ3
        gi_wp2
        go_roundw
        case rel => exact ⟨i + 3, by first | (go_num; done) | (congr 1; unfold wrap64; omega) | (simp; omega), ⟨k + 1, by omega, by have := HI.out; omega, by rw [chunksTo_succ]; exact hJ3'.out⟩, hK3⟩
        case measure => first | (simp [intOf]; done) | (simp [intOf]; omega) | (simp [intOf, wrap64]; omega)
      · gi_wp2
        refine bodyPost_ret (results_none rfl _ _ _) rfl ?_
        exact ⟨⟨_, rfl⟩, .inr ⟨_, ⟨k + 1, by omega, (chunksTo_succ _).symm⟩, hJx3⟩⟩
    · obtain rfl : k = m := by omega
      have hci : ¬ (i : Int) < (L : Int) := by have := HL.out; omega
      clear hik
      gi_wp2
      go_end0
      exact ⟨⟨_, rfl⟩, .inl (by first | exact HJ.out | exact ⟨_, rfl, HJ.out⟩)⟩
theorem grown_drew (W : World) : W.grownBy W.drew none := grown_of_below (below_drew (Below.refl _ W)) none
theorem chunk_stops (F : Fence) (n : Nat) (h7 : F.fn 41) (hro : F.round = none) (hn : 1 ≤ n) (Bs Bn cap m L gb off : Nat) (hL : L = 3 * m) (A : Option Addr) (hA : m = 0 ∨ A = some ⟨gb, off, none⟩) (hcap : L ≤ cap) (hreach : L ≤ 281474976710656) (Kp : World → World → Prop) (hKr : ∀ W, Kp W W) (hKt : ∀ {A B C : World}, Kp A B → Kp B C → Kp A C) (hKd : ∀ {W W' : World}, Kp W W' → Kp W W'.drew)
    (hK : ∀ {W W' : World}, Kp W W' → W'.cell? ⟨Bs, 0, none⟩ = W.cell? ⟨Bs, 0, none⟩ ∧ W'.cell? ⟨Bn, 0, none⟩ = W.cell? ⟨Bn, 0, none⟩) (val : Nat → Nat) (hval : ∀ k, k < m → val k = k) (w : World) (hls : Bs < w.heap.size) (hln : Bn < w.heap.size)
    (hBs : w.cell? ⟨Bs, 0, none⟩ = some (.slice A L cap)) (hBn : w.cell? ⟨Bn, 0, none⟩ = some (.int .i64 3)) :
    SeqStopsK F n Tryd.prog 41 #[.pointer (some ⟨Bs, 0, none⟩), .pointer (some ⟨Bn, 0, none⟩)] (fun x : Nat => #[chunkV gb off (val x)]) Kp (fun ys => ys = chunksTo m) (fun _ => True) m w := fun l J Jx W hW hJ _ hY h0 => by
  refine (chunk1_in F n h7 hro hn l Bs Bn cap m L gb off hL A hA hcap hreach Kp hKr hKt hKd hK J Jx (fun {pre W} h => hJ pre W _ none h (grown_drew W) (fun r e => by cases e)) val hval hY W ((hW.cell (p := ⟨Bs, 0, none⟩) hls).trans hBs) ((hW.cell (p := ⟨Bn, 0, none⟩) hln).trans hBn) h0).mono ?_
  rintro e W' ⟨he, ⟨ys, rfl, hj⟩ | ⟨pre, ⟨k, hk, rfl⟩, hj⟩⟩
  · exact ⟨he, .inl ⟨_, rfl, hj⟩⟩
  · exact ⟨he, .inr ⟨_, trivial, hj⟩⟩
theorem chunk_calls (A : Option Addr) (len cap : Nat) (w : World) : Calls Tryd.prog 23 #[.slice A len cap, .int .i64 3] w fun e w' => e = .returned (.func (.func 41) #[] #[.pointer (some ⟨w.heap.size, 0, none⟩), .pointer (some ⟨w.heap.size + 1, 0, none⟩)]) ∧ w' = (w.alloc (.cells #[.slice A len cap] 22)).alloc (.cells #[.int .i64 3] 3) := by
  go_enter Tryd.func23, Tryd.ntmps23
  go_wp2
  go_ret
  exact ⟨by simp, rfl⟩
def brAt (zs : List Int) (k : Nat) : S46 := ⟨rd zs ((1 + 3 * k : Nat) : Int), rd zs ((1 + 3 * k + 1 : Nat) : Int), rd zs ((1 + 3 * k + 2 : Nat) : Int)⟩
/-- The bridges of a list of numbers: three numbers each, behind the first number. -/
def brs (zs : List Int) : List S46 := (List.range (zs.length / 3)).map (brAt zs)
def signs4 : ByteArray := ⟨#[105, 45, 58, 44]⟩
def impl_ParseIsles.f (k : Nat) (a0 : ByteArray) : Option (Int × (List (S46)) × Bool) :=
  (impl_numbers.f a0 (⟨#[105, 45, 58, 44]⟩ : ByteArray) 1000).bind fun x =>
    if x.2 = true ∧ x.1.length % 3 = 1 then
      ((impl_AreIsles.f (rd x.1 0) (brs x.1)).bind fun t =>
        if t = true then ((impl_islesText.f k (rd x.1 0) (brs x.1)).bind fun u => if u.toList = a0.toList then some (rd x.1 0, brs x.1, true) else some (0, ([] : List S46), false))
        else some (0, ([] : List S46), false))
    else some (0, ([] : List S46), false)
theorem impl_ParseIsles.mono : ∀ a0 k, LeO (impl_ParseIsles.f k a0) (impl_ParseIsles.f (k + 1) a0) := by
  intro a0 k
  unfold impl_ParseIsles.f
  repeat' first
      | (with_reducible exact impl_islesText.mono _ _ _)
      | (with_reducible exact LeO.refl _)
      | (with_reducible exact LeO.none _)
      | (with_reducible refine LeO.ite ?_ ?_)
      | (with_reducible refine LeO.bind ?_ (fun _ => ?_))
      | exact impl_islesText.mono _ _ _
      | exact LeO.none _
      | refine LeO.ite ?_ ?_
      | refine LeO.bind ?_ (fun _ => ?_)
/-- What the loop over the chunks holds: the result's block, the isles' block, Chunk's two variables, the list of numbers. -/
structure PIs (w : World) (R0 sB Bs Bn go gc : Nat) (z0 : Int) (zs : List Int) (A : Option Addr) (L cap : Nat) (v : Value) (W : World) : Prop where
  res : W.heap[R0]? = some (.cells #[.int .i64 0, .slice none 0 0] 30 (0, 0))
  st : W.heap[sB]? = some (.cells #[.int .i64 z0, v] 30 (0, 0))
  xs : W.heap[Bs]? = some (.cells #[.slice A L cap] 22 (0, 0))
  xn : W.heap[Bn]? = some (.cells #[.int .i64 3] 3 (0, 0))
  lst : Kd.R (Kd.int .i64) 3 W w.heap.size (fun _ => True) (.slice (some ⟨go, 0, none⟩) zs.length gc) zs
  bel : Below w.heap.size w W
theorem PIs.below {w : World} {R0 sB Bs Bn go gc : Nat} {z0 : Int} {zs : List Int} {A : Option Addr} {L cap : Nat} {v : Value} {W W' : World} (h : PIs w R0 sB Bs Bn go gc z0 zs A L cap v W) (hb : Below W.heap.size W W') : PIs w R0 sB Bs Bn go gc z0 zs A L cap v W' :=
  ⟨blk_below h.res hb, blk_below h.st hb, blk_below h.xs hb, blk_below h.xn hb, Kd.R_below h.lst hb, below_step h.bel hb⟩
theorem R_still {α : Type} {d : Kd α} {e : Nat} {W W' : World} {base B : Nat} {ok : Nat → Prop} {v : Value} {l : List α} {row : Option Nat} (h : d.R e W base ok v l) (hg : W.grownBy W' row) (hr : ∀ r, row = some r → B ≤ r ∧ ∃ o : Obj, W.heap[r]? = some o ∧ o.isCells = false) : d.R e W' base ok v l :=
  Kd.R_mono (Kd.R_move (Kd.R_bound h) (fun k hk => hg.block k hk.2.2.1 (fun e => by
    obtain ⟨_, o, ho, hc⟩ := hr k e.symm
    obtain ⟨_, _, _, q, _, cells, hcs⟩ := hk
    rw [hcs] at ho
    cases ho
    cases hc))) (fun _ hk => hk.1)
theorem blkP_still {W W' : World} {B k t : Nat} {cs : Array Value} {row : Option Nat} (h : W.heap[k]? = some (.cells cs t (0, 0))) (hg : W.grownBy W' row) (hr : ∀ r, row = some r → B ≤ r ∧ ∃ o : Obj, W.heap[r]? = some o ∧ o.isCells = false) : W'.heap[k]? = some (.cells cs t (0, 0)) :=
  (hg.block k (blk_lt h) (fun e => by
    obtain ⟨_, o, ho, hc⟩ := hr k e.symm
    rw [h] at ho
    cases ho
    cases hc)).trans h
theorem PIs.still {w : World} {R0 sB Bs Bn go gc : Nat} {z0 : Int} {zs : List Int} {A : Option Addr} {L cap : Nat} {v : Value} {W W' : World} {B : Nat} {row : Option Nat} (h : PIs w R0 sB Bs Bn go gc z0 zs A L cap v W) (hB : w.heap.size ≤ B) (hg : W.grownBy W' row) (hr : ∀ r, row = some r → B ≤ r ∧ ∃ o : Obj, W.heap[r]? = some o ∧ o.isCells = false) : PIs w R0 sB Bs Bn go gc z0 zs A L cap v W' :=
  ⟨blkP_still h.res hg hr, blkP_still h.st hg hr, blkP_still h.xs hg hr, blkP_still h.xn hg hr, R_still h.lst hg hr, h.bel.grown hg (below_size h.bel) (fun k e => Nat.le_trans hB (hr k e).1)⟩
/-- An append to the bridges. -/
theorem PIs.appended {w : World} {R0 sB Bs Bn go gc : Nat} {z0 : Int} {zs : List Int} {A : Option Addr} {L cap : Nat} {v : Value} {W W' : World} {bs : List S46} (h : PIs w R0 sB Bs Bn go gc z0 zs A L cap v W) (ho : Kd.R k46 46 W w.heap.size (fun _ => True) v bs) (hg : W.grownBy W' v.ownBlock) (hb : Below w.heap.size w W') : PIs w R0 sB Bs Bn go gc z0 zs A L cap v W' :=
  ⟨blk_grown h.res hg (Kd.R_ne ho h.res (by decide)), blk_grown h.st hg (Kd.R_ne ho h.st (by decide)), blk_grown h.xs hg (Kd.R_ne ho h.xs (by decide)), blk_grown h.xn hg (Kd.R_ne ho h.xn (by decide)), Kd.R_over' h.lst (Kd.R_typed ho) (by decide) hg, hb⟩
/-- The bridges' slice is stored. -/
theorem PIs.stored {w : World} {R0 sB Bs Bn go gc : Nat} {z0 : Int} {zs : List Int} {A : Option Addr} {L cap : Nat} {v : Value} {W : World} (h : PIs w R0 sB Bs Bn go gc z0 zs A L cap v W) (u : Value) (h1 : R0 ≠ sB) (h2 : Bs ≠ sB) (h3 : Bn ≠ sB) (h4 : w.heap.size ≤ sB) : PIs w R0 sB Bs Bn go gc z0 zs A L cap u (W.setCell ⟨sB, 1, none⟩ u) :=
  ⟨blk_far h.res h1 u, by simpa using blk_set h.st 1 u, blk_far h.xs h2 u, blk_far h.xn h3 u, Kd.R_mono (Kd.R_far (p := ⟨sB, 1, none⟩) (Kd.R_types h.lst h.st (by decide)) (fun _ hk => hk.2) u) (fun _ _ => trivial), below_set h.bel h4⟩
theorem PIs.br_stored {w : World} {R0 sB Bs Bn go gc : Nat} {z0 : Int} {zs : List Int} {A : Option Addr} {L cap : Nat} {v : Value} {W : World} (h : PIs w R0 sB Bs Bn go gc z0 zs A L cap v W) {x : Value} {bs : List S46} (ho : Kd.R k46 46 W w.heap.size (fun _ => True) x bs) (u : Value) : Kd.R k46 46 (W.setCell ⟨sB, 1, none⟩ u) w.heap.size (fun _ => True) x bs :=
  Kd.R_mono (Kd.R_far (p := ⟨sB, 1, none⟩) (Kd.R_types ho h.st (by decide)) (fun _ hk => hk.2) u) (fun _ _ => trivial)
theorem PIs.num {w : World} {R0 sB Bs Bn go gc : Nat} {z0 : Int} {zs : List Int} {A : Option Addr} {L cap : Nat} {v : Value} {W : World} (h : PIs w R0 sB Bs Bn go gc z0 zs A L cap v W) (j : Nat) (hj : j < zs.length) : W.cell? ⟨go, j, none⟩ = some (.int .i64 (rd zs (j : Int))) := by
  obtain ⟨ad, e, hx⟩ := Kd.at_int (Kd.R_reads' h.lst).2.2 (j : Int) (by omega) (by omega)
  cases e
  rw [Int.toNat_natCast, add_plain] at hx
  exact hx
theorem keeps_below {B : Nat} {W W' : World} (h : Below W.heap.size W W') : KeepsFrom B W W' := ⟨h.size, fun k o _ hk _ => (h.block k (Array.getElem?_eq_some_iff.1 hk).1).trans hk⟩
theorem keeps_cells {B : Nat} {W W' : World} {row : Option Nat} (hg : W.grownBy W' row) (hr : ∀ r, row = some r → ∃ cs, ∃ t : Nat, W.heap[r]? = some (.cells cs t (0, 0))) : KeepsFrom B W W' :=
  ⟨hg.size, fun k o _ hk ho => (hg.block k (Array.getElem?_eq_some_iff.1 hk).1 (fun e => by
    obtain ⟨cs, t, hc⟩ := hr k e.symm
    rw [hk] at hc
    cases hc
    cases ho)).trans hk⟩
theorem keeps_set {B : Nat} {W : World} {p : Addr} {u : Value} {cs : Array Value} {t : Nat} (hc : W.heap[p.block]? = some (.cells cs t (0, 0))) : KeepsFrom B W (W.setCell p u) :=
  ⟨by simp, fun k o _ hk ho => (Below.heap_setCell W p u k (fun e => by
    subst e
    rw [hk] at hc
    cases hc
    cases ho)).trans hk⟩
set_option maxHeartbeats 8000000 in
set_option maxRecDepth 100000 in
theorem parse_not (a0 : ByteArray) (zs : List Int) (ok : Bool) (hN : impl_numbers.f a0 (⟨#[105, 45, 58, 44]⟩ : ByteArray) 1000 = some (zs, ok)) (hno : ¬ (ok = true ∧ zs.length % 3 = 1)) (w : World) (htab : Tab w) :
    Calls Tryd.prog 11 #[.string a0] w fun e w' => e = .returned (.tuple #[.agg #[.int .i64 0, .slice none 0 0], .bool false]) ∧ Below w.heap.size w w' := by
  have huI := Tryd.underlying30
  have HT := Aside0.mk htab
  have HN := Aside0.mk hN
  clear hN htab
  cases ok with
  | false =>
    clear hno
    go_enter Tryd.func11, Tryd.ntmps11
    go_wp2_with (first
      | (go_at_call 19; (generalize hW : w.alloc _ = W; have hres : W.heap[w.heap.size]? = some (.cells #[.int .i64 0, .slice none 0 0] 30 (0, 0)) := (by rw [← hW]; exact blk_new w _); have hWb : Below w.heap.size w W := (by rw [← hW]; exact below_alloc (Below.refl _ w) _); refine (impl_numbers.calls a0 _ 1000 zs false W HN.out (Tab.below HT.out hWb)).mono ?_; rintro e w1 ⟨v0, rfl, ho, hb⟩; have HR := Aside0.mk (blk_below hres hb); have HO := Aside0.mk (Kd.R_lower ho (below_size hWb)); have HB := Aside0.mk (below_step hWb hb); have hc0 : w1.cell? ⟨w.heap.size, 0, none⟩ = some (.int .i64 0) := (blk_cell HR.out 0).trans rfl; have hc1 : w1.cell? ⟨w.heap.size, 1, none⟩ = some (.slice none 0 0) := (blk_cell HR.out 1).trans rfl; have hf0 := blk_frozen HR.out 0; have hf1 := blk_frozen HR.out 1; clear hW hres hWb ho hb)))
    refine bodyPost_ret (results_ct rfl _ _ w.heap.size 30 #[.int .i64 0, .slice none 0 0] (0, 0) _ rfl (by (with_reducible repeat (first | refine blk_drewN ?_ _ | refine blk_drew ?_ | refine blk_alloc ?_ _)); refine blk_put (cs := #[.int .i64 0, .slice none 0 0]) ?_ 1 _ rfl; (with_reducible repeat (first | refine blk_drewN ?_ _ | refine blk_drew ?_ | refine blk_alloc ?_ _)); refine blk_put (cs := #[.int .i64 0, .slice none 0 0]) ?_ 0 _ rfl; (with_reducible repeat (first | refine blk_drewN ?_ _ | refine blk_drew ?_ | refine blk_alloc ?_ _)); exact HR.out) Tryd.underlying30 rfl (by kernel_rfl)) rfl ?_
    exact ⟨rfl, by repeat (first | (with_reducible first | exact HB.out | apply below_alloc | apply pw_below_drewN | apply below_drew1 | refine below_set ?_ (Nat.le_refl _)) | exact HB.out)⟩
  | true =>
    have hm : ¬ (zs.length % 3 = 1) := fun h => hno ⟨rfl, h⟩
    have hmi : ¬ ((zs.length : Int) % 3 = 1) := by omega
    have hmb : ((zs.length : Int) % 3 != 1) = true := bne_iff_ne.mpr hmi
    have hmc : ((zs.length : Int) % 3 == 1) = false := beq_eq_false_iff_ne.mpr hmi
    clear hno hm
    go_enter Tryd.func11, Tryd.ntmps11
    go_wp2_with (first
      | (go_at_call 19; (generalize hW : w.alloc _ = W; have hres : W.heap[w.heap.size]? = some (.cells #[.int .i64 0, .slice none 0 0] 30 (0, 0)) := (by rw [← hW]; exact blk_new w _); have hWb : Below w.heap.size w W := (by rw [← hW]; exact below_alloc (Below.refl _ w) _); refine (impl_numbers.calls a0 _ 1000 zs true W HN.out (Tab.below HT.out hWb)).mono ?_; rintro e w1 ⟨v0, rfl, ho, hb⟩; have HR := Aside0.mk (blk_below hres hb); have HO := Aside0.mk (Kd.R_lower ho (below_size hWb)); have HB := Aside0.mk (below_step hWb hb); have hc0 : w1.cell? ⟨w.heap.size, 0, none⟩ = some (.int .i64 0) := (blk_cell HR.out 0).trans rfl; have hc1 : w1.cell? ⟨w.heap.size, 1, none⟩ = some (.slice none 0 0) := (blk_cell HR.out 1).trans rfl; have hf0 := blk_frozen HR.out 0; have hf1 := blk_frozen HR.out 1; obtain ⟨Av, cv, rfl⟩ := Kd.R_slice HO.out; clear hW hres hWb ho hb)))
    refine bodyPost_ret (results_ct rfl _ _ w.heap.size 30 #[.int .i64 0, .slice none 0 0] (0, 0) _ rfl (by (with_reducible repeat (first | refine blk_drewN ?_ _ | refine blk_drew ?_ | refine blk_alloc ?_ _)); refine blk_put (cs := #[.int .i64 0, .slice none 0 0]) ?_ 1 _ rfl; (with_reducible repeat (first | refine blk_drewN ?_ _ | refine blk_drew ?_ | refine blk_alloc ?_ _)); refine blk_put (cs := #[.int .i64 0, .slice none 0 0]) ?_ 0 _ rfl; (with_reducible repeat (first | refine blk_drewN ?_ _ | refine blk_drew ?_ | refine blk_alloc ?_ _)); exact HR.out) Tryd.underlying30 rfl (by kernel_rfl)) rfl ?_
    exact ⟨rfl, by repeat (first | (with_reducible first | exact HB.out | apply below_alloc | apply pw_below_drewN | apply below_drew1 | refine below_set ?_ (Nat.le_refl _)) | exact HB.out)⟩
theorem parse_end {w X : World} {D R0 : Nat} {c : Int} {s : Value} {bs : List S46} (hD : w.heap.size ≤ D) (hK : X.heap[D]? = some (.deferred (some []))) (hres : X.heap[R0]? = some (.cells #[.int .i64 c, s] 30 (0, 0))) (hR : Kd.R k46 46 X w.heap.size (fun _ => True) s bs) (hb : Below w.heap.size w X) :
    (X.putObj D (.deferred none)).heap[R0]? = some (.cells #[.int .i64 c, s] 30 (0, 0)) ∧ Kd.R k46 46 (X.putObj D (.deferred none)) w.heap.size (fun _ => True) s bs ∧ Below w.heap.size w (X.putObj D (.deferred none)) := by
  have hg := grownBy_putObj' X D (.deferred none)
  have hr : ∀ r, some D = some r → w.heap.size ≤ r ∧ ∃ o : Obj, X.heap[r]? = some o ∧ o.isCells = false := fun r e => by
    cases e
    exact ⟨hD, _, hK, rfl⟩
  exact ⟨blkP_still hres hg hr, R_still hR hg hr, hb.grown hg (below_size hb) (fun k e => (hr k e).1)⟩
theorem set_two {w X : World} {D R0 : Nat} {c : Int} {s : Value} (hres : X.heap[R0]? = some (.cells #[.int .i64 0, .slice none 0 0] 30 (0, 0))) (hK : X.heap[D]? = some (.deferred (some []))) (hb : Below w.heap.size w X) (h0 : w.heap.size ≤ R0) :
    ((X.setCell ⟨R0, 0, none⟩ (.int .i64 c)).setCell ⟨R0, 1, none⟩ s).heap[R0]? = some (.cells #[.int .i64 c, s] 30 (0, 0)) ∧ ((X.setCell ⟨R0, 0, none⟩ (.int .i64 c)).setCell ⟨R0, 1, none⟩ s).heap[D]? = some (.deferred (some [])) ∧ Below w.heap.size w ((X.setCell ⟨R0, 0, none⟩ (.int .i64 c)).setCell ⟨R0, 1, none⟩ s) := by
  have hne : R0 ≠ D := fun e => by
    subst e
    rw [hres] at hK
    cases hK
  refine ⟨?_, ?_, below_set (below_set hb h0) h0⟩
  · have h1 := blk_set hres 0 (.int .i64 c)
    have h2 := blk_set h1 1 s
    simpa using h2
  · exact (Below.heap_setCell _ _ _ _ (Ne.symm hne)).trans ((Below.heap_setCell _ _ _ _ (Ne.symm hne)).trans hK)
theorem set_two_R {X : World} {R0 b : Nat} {c : Int} {s x : Value} {bs : List S46} {cs : Array Value} (hres : X.heap[R0]? = some (.cells cs 30 (0, 0))) (hR : Kd.R k46 46 X b (fun _ => True) x bs) : Kd.R k46 46 ((X.setCell ⟨R0, 0, none⟩ (.int .i64 c)).setCell ⟨R0, 1, none⟩ s) b (fun _ => True) x bs :=
  Kd.R_mono (Kd.R_far (p := ⟨R0, 1, none⟩) (Kd.R_far (p := ⟨R0, 0, none⟩) (Kd.R_types hR hres (by decide)) (fun _ hk => hk.2) (.int .i64 c)) (fun _ hk => hk.2) s) (fun _ _ => trivial)
/-- A number of a chunk, kept below m. -/
def cl (m x : Nat) : Nat := if x < m then x else 0
theorem cl_lt {m x : Nat} (h : x < m) : cl m x = x := if_pos h
theorem cl_in {m x : Nat} (h : 0 < m) : cl m x < m := by
  unfold cl
  split <;> omega
theorem R_head {e : Nat} {W : World} {base : Nat} {ok : Nat → Prop} {v : Value} {xs : List Int} (h : Kd.R (Kd.int .i64) e W base ok v xs) (hn : 1 ≤ xs.length) : ∃ g c, v = .slice (some ⟨g, 0, none⟩) xs.length c ∧ base ≤ g ∧ xs.length ≤ c ∧ c ≤ maxLen := by
  have ho := Kd.own_of_R h
  rcases ho.2 with ⟨_, h0⟩ | ⟨g, cap, cur, rfl, hb, hh, h1, h2, h3, h4⟩
  · omega
  · exact ⟨g, cap, rfl, hb, h1, h2⟩
set_option maxHeartbeats 8000000 in
set_option maxRecDepth 100000 in
theorem parse_yes (k : Nat) (a0 : ByteArray) (zs : List Int) (m : Nat) (hlen : zs.length = 3 * m + 1) (hbig : zs.length ≤ 2000000) (hN : impl_numbers.f a0 (⟨#[105, 45, 58, 44]⟩ : ByteArray) 1000 = some (zs, true)) (t : Bool) (hA : impl_AreIsles.f (rd zs 0) (brs zs) = some t) (r1 : Int) (r2 : List S46) (r3 : Bool)
    (H : (if t = true then ((impl_islesText.f k (rd zs 0) (brs zs)).bind fun u => if u.toList = a0.toList then some (rd zs 0, brs zs, true) else some (0, ([] : List S46), false)) else some (0, ([] : List S46), false)) = some (r1, r2, r3)) (w : World) (htab : Tab w) :
    Calls Tryd.prog 11 #[.string a0] w fun e w' => ∃ v1_ : Value, e = .returned (.tuple #[.agg #[.int .i64 r1, v1_], .bool r3]) ∧ Kd.R k46 46 w' w.heap.size (fun _ => True) v1_ r2 ∧ Below w.heap.size w w' := by
  have huI := Tryd.underlying30
  have huB := Tryd.underlying46
  have HT := Aside0.mk htab
  have HN := Aside0.mk hN
  have HAI := Aside0.mk hA
  have HH := Aside0.mk H
  have HL := Aside0.mk hlen
  have HG := Aside0.mk hbig
  clear hN htab hA H hbig
  have hmi : (zs.length : Int) % 3 = 1 := by omega
  have hmb : ((zs.length : Int) % 3 != 1) = false := bne_eq_false_iff_eq.mpr hmi
  have hmc : ((zs.length : Int) % 3 == 1) = true := beq_iff_eq.mpr hmi
  have hpos : (0 : Int) < (zs.length : Int) := by omega
  have hposn : 0 < zs.length := by omega
  have hone : (1 : Int) ≤ (zs.length : Int) := by omega
  clear hlen hmi
  obtain ⟨z0, hz0⟩ : ∃ z0, rd zs 0 = z0 := ⟨_, rfl⟩
  refine (callsIn_wide (n := 5)).1 (callsIn_of_wp_marks Tryd.func11 rfl trivial (wpIn_wide.2 ?_) rfl)
  simp only [Tryd.ntmps11, List.size_toArray, List.length_cons, List.length_nil, Nat.reduceAdd, Nat.reduceSub, Array.replicate_succ, Array.replicate_zero, List.push_toArray, List.append_toArray, List.nil_append, List.cons_append]
  go_wp2_with (first
    | (go_at_call 19; (generalize hW : w.alloc _ = W; have hres : W.heap[w.heap.size]? = some (.cells #[.int .i64 0, .slice none 0 0] 30 (0, 0)) := (by rw [← hW]; exact blk_new w _); have hWb : Below w.heap.size w W := (by rw [← hW]; exact below_alloc (Below.refl _ w) _); have hWz : W.heap.size = w.heap.size + 1 := (by rw [← hW]; simp); refine (impl_numbers.calls a0 _ 1000 zs true W HN.out (Tab.below HT.out hWb)).mono ?_; rintro e w1 ⟨v0, rfl, ho, hb⟩; have HR := Aside0.mk (blk_below hres hb); obtain ⟨go, gc, rfl, hgo, hgc, hgm⟩ := R_head ho (by omega); have HO := Aside0.mk (Kd.R_lower ho (below_size hWb)); have HB := Aside0.mk (below_step hWb hb); have HGO := Aside0.mk (show w.heap.size < go from by omega); have HGC := Aside0.mk hgc; have HGM := Aside0.mk hgm; have hz : w1.cell? ⟨go, 0, none⟩ = some (.int .i64 z0) := (by obtain ⟨ad, e, hx⟩ := Kd.at_int (Kd.R_reads' HO.out).2.2 0 (by omega) (by omega); cases e; rw [hz0] at hx; exact hx); obtain ⟨A, hAd⟩ : ∃ A : Option Addr, (if gc = 1 then (some ⟨go, 0, none⟩ : Option Addr) else some ⟨go, 1, none⟩) = A := ⟨_, rfl⟩; have HAA := Aside0.mk (show m = 0 ∨ A = some ⟨go, 1, none⟩ from by rw [← hAd]; by_cases hm : m = 0; exact Or.inl hm; exact Or.inr (if_neg (by have := HL.out; omega))); clear hW hres hWb hWz ho hb hgo hgm hgc))
    | (go_at_call 23; (refine (chunk_calls _ _ _ _).mono ?_; rintro e wU ⟨rfl, hwU⟩; have HWU := Aside0.mk hwU; clear hwU)))
  have hwU := HWU.out
  have HBU := Aside0.mk (show Below w1.heap.size w1 wU from by rw [hwU]; exact below_alloc (below_alloc (below_alloc (Below.refl _ _) _) _) _)
  have HSU := Aside0.mk (show wU.heap[w1.heap.size]? = some (.cells #[.int .i64 z0, .slice none 0 0] 30 (0, 0)) from by rw [hwU]; exact blk_alloc (blk_alloc (blk_new w1 _) _) _)
  have HXU := Aside0.mk (show wU.heap[w1.heap.size + 1]? = some (.cells #[.slice A (zs.length - 1) (gc - 1)] 22 (0, 0)) from by
    rw [hwU]
    have h_ := blk_new (w1.alloc (.cells #[.int .i64 z0, .slice none 0 0] 30)) (.cells #[.slice A (zs.length - 1) (gc - 1)] 22 (0, 0))
    rw [show (w1.alloc (.cells #[.int .i64 z0, .slice none 0 0] 30)).heap.size = w1.heap.size + 1 from by simp] at h_
    exact blk_alloc h_ _)
  have HNU := Aside0.mk (show wU.heap[w1.heap.size + 1 + 1]? = some (.cells #[.int .i64 3] 3 (0, 0)) from by
    rw [hwU]
    have h_ := blk_new ((w1.alloc (.cells #[.int .i64 z0, .slice none 0 0] 30)).alloc (.cells #[.slice A (zs.length - 1) (gc - 1)] 22)) (.cells #[.int .i64 3] 3 (0, 0))
    rwa [show ((w1.alloc (.cells #[.int .i64 z0, .slice none 0 0] 30)).alloc (.cells #[.slice A (zs.length - 1) (gc - 1)] 22)).heap.size = w1.heap.size + 1 + 1 from by simp] at h_)
  clear hwU HWU
  have HPU := Aside0.mk (show PIs w w.heap.size w1.heap.size (w1.heap.size + 1) (w1.heap.size + 1 + 1) go gc z0 zs A (zs.length - 1) (gc - 1) (.slice none 0 0) wU from
    ⟨blk_below HR.out HBU.out, HSU.out, HXU.out, HNU.out, Kd.R_below HO.out HBU.out, below_step HB.out HBU.out⟩)
  have hlS := blk_lt HSU.out
  have hlX := blk_lt HXU.out
  have hlN := blk_lt HNU.out
  have HW1 := Aside0.mk (show w.heap.size < w1.heap.size from blk_lt HR.out)
  have hle1 := below_size HB.out
  generalize w1.heap.size = sB at HSU HXU HNU HPU hlS hlX hlN HW1 hle1 ⊢
  refine (wpIn_wide (n := 5)).1 ?_
  refine wpIn_rangeFunc_ownG (n := 5) rfl (by omega) (gf := 41) (lb := #[.pointer (some ⟨sB + 1, 0, none⟩), .pointer (some ⟨sB + 1 + 1, 0, none⟩)]) rfl trivial (enters_of Tryd.func41 (by kernel_rfl) rfl)
    (chunk_stops Fence.wide (5 - 1) trivial rfl (by omega) (sB + 1) (sB + 1 + 1) (gc - 1) m (zs.length - 1) go 1 (by have := HL.out; omega) A HAA.out (by have := HGC.out; omega) (by have := HG.out; omega)
      (fun W W' => W'.heap[sB + 1]? = W.heap[sB + 1]? ∧ W'.heap[sB + 1 + 1]? = W.heap[sB + 1 + 1]?) (fun W => ⟨rfl, rfl⟩) (fun h h' => ⟨h'.1.trans h.1, h'.2.trans h.2⟩) (fun h => h) (fun h => ⟨by simp only [World.cell?, h.1], by simp only [World.cell?, h.2]⟩) (cl m) (fun k hk => cl_lt hk) wU hlX hlN ((blk_cell HXU.out 0).trans rfl) ((blk_cell HNU.out 0).trans rfl))
    (fun h h' => ⟨h'.1.trans h.1, h'.2.trans h.2⟩) (fun W l o o' hl ho hc hw => ⟨World.putObj_heap_other (by omega), World.putObj_heap_other (by omega)⟩) (Below.refl _ _) (fun _ => rfl)
    (fun pre W => ∃ v, PIs w w.heap.size sB (sB + 1) (sB + 1 + 1) go gc z0 zs A (zs.length - 1) (gc - 1) v W ∧ Kd.R k46 46 W w.heap.size (fun _ => True) v (pre.map fun y => brAt zs (cl m y)))
    (fun _ _ _ => False)
    (fun s W W' row hs hg hr => by
      obtain ⟨v, h1, h2⟩ := hs
      exact ⟨v, h1.still (below_size HPU.out.bel) hg hr, R_still h2 hg hr⟩)
    (fun _ _ _ _ _ hs _ _ => hs)
    ⟨_, HPU.out, Kd.R_nil _ _ _ _ _⟩
    (fun x => { tmps := #[Value.string a0, undef, Value.pointer (some ⟨w.heap.size, 0, none⟩), Value.bool false, Value.slice (some ⟨go, 0, none⟩) zs.length gc, Value.bool true, Value.pointer (some ⟨sB, 0, none⟩), chunkV go 1 (cl m x), Value.tuple #[Value.slice (some ⟨go, 0, none⟩) zs.length gc, Value.bool true], Value.string a0, Value.tuple #[Value.slice (some ⟨go, 0, none⟩) zs.length gc, Value.bool true], Value.slice (some ⟨go, 0, none⟩) zs.length gc, Value.bool true, Value.bool true, Value.bool false, Value.bool false, Value.slice (some ⟨go, 0, none⟩) zs.length gc, Value.int .i64 (zs.length : Int), Value.int .i64 ((zs.length : Int) % 3), Value.bool false, Value.bool false, undef, Value.slice (some ⟨go, 0, none⟩) zs.length gc, Value.pointer (some ⟨go, 0, none⟩), Value.int .i64 z0, Value.agg #[Value.int .i64 z0, Value.slice none 0 0], Value.slice (some ⟨go, 0, none⟩) zs.length gc, Value.slice A (zs.length - 1) (gc - 1), Value.func (Fn.func 41) #[] #[Value.pointer (some ⟨sB + 1, 0, none⟩), Value.pointer (some ⟨sB + 1 + 1, 0, none⟩)], chunkV go 1 (cl m x), undef, undef, undef, undef, undef, undef, undef, undef, undef, undef, undef, undef, undef, undef, undef, undef, undef, undef, undef, undef, undef, undef, undef, undef, undef, undef], defers := [] }) ?assign ?body ?done ?stop
  case assign =>
    intro l x W K hK
    gi_wp2
    exact hK
  case body =>
    rintro l pre x W ⟨v, hP, hRb⟩ hlt
    obtain ⟨j, hj⟩ : ∃ j, cl m x = j := ⟨_, rfl⟩
    have hjm : j < m := by rw [← hj]; exact cl_in (by omega)
    obtain ⟨c0, hc0⟩ : ∃ c0, 1 + 3 * j = c0 := ⟨_, rfl⟩
    have hcv : chunkV go 1 (cl m x) = .slice (some ⟨go, c0, none⟩) 3 3 := by unfold chunkV; rw [hj, hc0]
    rw [hcv]
    obtain ⟨z1, hz1⟩ : ∃ z, rd zs (c0 : Int) = z := ⟨_, rfl⟩
    obtain ⟨z2, hz2⟩ : ∃ z, rd zs ((c0 + 1 : Nat) : Int) = z := ⟨_, rfl⟩
    obtain ⟨z3, hz3⟩ : ∃ z, rd zs ((c0 + 2 : Nat) : Int) = z := ⟨_, rfl⟩
    have hL := HL.out
    have hc1 := hP.num c0 (by omega)
    have hc2 := hP.num (c0 + 1) (by omega)
    have hc3 := hP.num (c0 + 2) (by omega)
    rw [hz1] at hc1
    rw [hz2] at hc2
    rw [hz3] at hc3
    have hcs : W.cell? ⟨sB, 1, none⟩ = some v := (blk_cell hP.st 1).trans rfl
    have hlen24 : ((pre.map fun y => brAt zs (cl m y)).length + 1) * 24 ≤ 140737488355328 := by rw [List.length_map]; have := HG.out; omega
    have hbr : brAt zs (cl m x) = ⟨z1, z2, z3⟩ := by unfold brAt; rw [hj, hc0, hz1, hz2, hz3]
    have HBR := Aside0.mk hbr
    have HP := Aside0.mk hP
    have HRb := Aside0.mk hRb
    clear hL hc0 hcv hz1 hz2 hz3 hP hRb hj hbr hz
    gi_wp2_with fail
    refine startW_ (n := 16) (S := fun w' => w'.cell? ⟨sB, 1, none⟩ = some v ∧ w'.cell? ⟨go, c0, none⟩ = some (.int .i64 z1) ∧ w'.cell? ⟨go, c0 + 1, none⟩ = some (.int .i64 z2) ∧ w'.cell? ⟨go, c0 + 2, none⟩ = some (.int .i64 z3)) (ds := [13, 15]) #[false, false, false, false, false, false, false, false, false, false, false, false, false, false, false, false] (by kernel_rfl) mixedW rfl rfl ⟨hcs, hc1, hc2, hc3⟩ (fun hHeld => ?_)
    have HP2 := Aside0.mk (HP.out.below (below_drew (Below.refl _ W)))
    have HR2 := Aside0.mk (Kd.R_drew HRb.out)
    have HK2 := Aside0.mk (show KeepsFrom wU.heap.size W W.drew from keeps_below (below_drew (Below.refl _ W)))
    generalize W.drew = wd at hHeld HP2 HR2 HK2 ⊢
    refine pure_ (i := 0) (N := some 30) (v := .pointer (some ⟨sB, 1, none⟩)) (a' := ?_) #[true, false, false, false, false, false, false, false, false, false, false, false, false, false, false, false] rfl rfl (by kernel_rfl) (fun _ _ _ h => h) (Or.inl ⟨by rfl, ?_⟩) ?_ ?_
    · intro w'
      go_simp
      first | done | rfl | (with_reducible rfl)
    rotate_left
    · simp only [Act.put, List.setIfInBounds_toArray, List.set_cons_zero, List.set_cons_succ, i64_w, i32_w]
      rfl
    refine take_ (i := 1) (N := some 31) (v := ?_) (a' := ?_) #[true, true, false, false, false, false, false, false, false, false, false, false, false, false, false, false] rfl rfl (by kernel_rfl) (fun _ _ _ h => h) (Or.inl ⟨by rfl, ?_⟩) hHeld ?_ ?_
    rotate_left
    · rintro w' ⟨s0, s1, s2, s3⟩
      go_simp
      with_reducible rfl
    rotate_left
    · simp only [Act.put, List.setIfInBounds_toArray, List.set_cons_zero, List.set_cons_succ, i64_w, i32_w]
      rfl
    refine pure_ (i := 2) (N := some 32) (v := ?_) (a' := ?_) #[true, true, true, false, false, false, false, false, false, false, false, false, false, false, false, false] rfl rfl (by kernel_rfl) (fun _ _ _ h => h) (Or.inl ⟨by rfl, ?_⟩) ?_ ?_
    rotate_left
    · intro w'
      go_simp
      with_reducible rfl
    rotate_left
    · simp only [Act.put, List.setIfInBounds_toArray, List.set_cons_zero, List.set_cons_succ, i64_w, i32_w]
      rfl
    refine pure_ (i := 3) (N := some 33) (v := .pointer (some ⟨go, c0, none⟩)) (a' := ?_) #[true, true, true, true, false, false, false, false, false, false, false, false, false, false, false, false] rfl rfl (by kernel_rfl) (fun _ _ _ h => h) (Or.inl ⟨by rfl, ?_⟩) ?_ ?_
    · intro w'
      go_simp
      first | done | rfl | (with_reducible rfl)
    rotate_left
    · simp only [Act.put, List.setIfInBounds_toArray, List.set_cons_zero, List.set_cons_succ, i64_w, i32_w]
      rfl
    refine take_ (i := 4) (N := some 34) (v := ?_) (a' := ?_) #[true, true, true, true, true, false, false, false, false, false, false, false, false, false, false, false] rfl rfl (by kernel_rfl) (fun _ _ _ h => h) (Or.inl ⟨by rfl, ?_⟩) hHeld ?_ ?_
    rotate_left
    · rintro w' ⟨s0, s1, s2, s3⟩
      go_simp
      with_reducible rfl
    rotate_left
    · simp only [Act.put, List.setIfInBounds_toArray, List.set_cons_zero, List.set_cons_succ, i64_w, i32_w]
      rfl
    refine pure_ (i := 5) (N := some 35) (v := ?_) (a' := ?_) #[true, true, true, true, true, true, false, false, false, false, false, false, false, false, false, false] rfl rfl (by kernel_rfl) (fun _ _ _ h => h) (Or.inl ⟨by rfl, ?_⟩) ?_ ?_
    rotate_left
    · intro w'
      go_simp
      with_reducible rfl
    rotate_left
    · simp only [Act.put, List.setIfInBounds_toArray, List.set_cons_zero, List.set_cons_succ, i64_w, i32_w]
      rfl
    refine pure_ (i := 6) (N := some 36) (v := .pointer (some ⟨go, c0 + 1, none⟩)) (a' := ?_) #[true, true, true, true, true, true, true, false, false, false, false, false, false, false, false, false] rfl rfl (by kernel_rfl) (fun _ _ _ h => h) (Or.inl ⟨by rfl, ?_⟩) ?_ ?_
    · intro w'
      go_simp
      first | done | rfl | (with_reducible rfl)
    rotate_left
    · simp only [Act.put, List.setIfInBounds_toArray, List.set_cons_zero, List.set_cons_succ, i64_w, i32_w]
      rfl
    refine take_ (i := 7) (N := some 37) (v := ?_) (a' := ?_) #[true, true, true, true, true, true, true, true, false, false, false, false, false, false, false, false] rfl rfl (by kernel_rfl) (fun _ _ _ h => h) (Or.inl ⟨by rfl, ?_⟩) hHeld ?_ ?_
    rotate_left
    · rintro w' ⟨s0, s1, s2, s3⟩
      go_simp
      with_reducible rfl
    rotate_left
    · simp only [Act.put, List.setIfInBounds_toArray, List.set_cons_zero, List.set_cons_succ, i64_w, i32_w]
      rfl
    refine pure_ (i := 8) (N := some 38) (v := ?_) (a' := ?_) #[true, true, true, true, true, true, true, true, true, false, false, false, false, false, false, false] rfl rfl (by kernel_rfl) (fun _ _ _ h => h) (Or.inl ⟨by rfl, ?_⟩) ?_ ?_
    rotate_left
    · intro w'
      go_simp
      with_reducible rfl
    rotate_left
    · simp only [Act.put, List.setIfInBounds_toArray, List.set_cons_zero, List.set_cons_succ, i64_w, i32_w]
      rfl
    refine pure_ (i := 9) (N := some 39) (v := .pointer (some ⟨go, c0 + 2, none⟩)) (a' := ?_) #[true, true, true, true, true, true, true, true, true, true, false, false, false, false, false, false] rfl rfl (by kernel_rfl) (fun _ _ _ h => h) (Or.inl ⟨by rfl, ?_⟩) ?_ ?_
    · intro w'
      go_simp
      first | done | rfl | (with_reducible rfl)
    rotate_left
    · simp only [Act.put, List.setIfInBounds_toArray, List.set_cons_zero, List.set_cons_succ, i64_w, i32_w]
      rfl
    refine take_ (i := 10) (N := some 40) (v := ?_) (a' := ?_) #[true, true, true, true, true, true, true, true, true, true, true, false, false, false, false, false] rfl rfl (by kernel_rfl) (fun _ _ _ h => h) (Or.inl ⟨by rfl, ?_⟩) hHeld ?_ ?_
    rotate_left
    · rintro w' ⟨s0, s1, s2, s3⟩
      go_simp
      with_reducible rfl
    rotate_left
    · simp only [Act.put, List.setIfInBounds_toArray, List.set_cons_zero, List.set_cons_succ, i64_w, i32_w]
      rfl
    refine pure_ (i := 11) (N := some 41) (v := .agg #[.int .i64 z1, .int .i64 z2, .int .i64 z3]) (a' := ?_) #[true, true, true, true, true, true, true, true, true, true, true, true, false, false, false, false] rfl rfl (by kernel_rfl) (fun _ _ _ h => h) (Or.inl ⟨by rfl, ?_⟩) ?_ ?_
    · intro w'
      go_simp
      first | done | rfl | (with_reducible rfl)
    rotate_left
    · simp only [Act.put, List.setIfInBounds_toArray, List.set_cons_zero, List.set_cons_succ, i64_w, i32_w]
      rfl
    refine one_ (i := 12) (N := some 42) #[true, true, true, true, true, true, true, true, true, true, true, true, true, false, false, false] rfl rfl (by kernel_rfl) (by decide) (fun K hK => ?_)
    refine value_ (w1 := wd.alloc (.cells #[.int .i64 z1, .int .i64 z2, .int .i64 z3] 46)) (v := .slice (some ⟨wd.heap.size, 0, none⟩) 1 1) (by rfl) rfl ?_ ?_
    · go_simp
      first | done | rfl | (constructor <;> rfl)
    refine hK.out _ _ ⟨(World.cell?_alloc_lt _ _ _ (World.block_lt_of_cell? _ _ hHeld.1)).trans hHeld.1, (World.cell?_alloc_lt _ _ _ (World.block_lt_of_cell? _ _ hHeld.2.1)).trans hHeld.2.1, (World.cell?_alloc_lt _ _ _ (World.block_lt_of_cell? _ _ hHeld.2.2.1)).trans hHeld.2.2.1, (World.cell?_alloc_lt _ _ _ (World.block_lt_of_cell? _ _ hHeld.2.2.2)).trans hHeld.2.2.2⟩ (fun hHeld => ?_)
    clear hK K
    refine norm_ (a' := ?_) ?_ ?_
    rotate_left
    · show Act.put _ (some 42) _ = _
      simp only [Act.put, List.setIfInBounds_toArray, List.set_cons_zero, List.set_cons_succ, i64_w, i32_w]
      rfl
    refine last_ (i := 13) (N := some 43) #[true, true, true, true, true, true, true, true, true, true, true, true, true, true, false, false] rfl rfl (by kernel_rfl) (by decide) (fun K hK => ?_)
    refine Kd.R_append_step k46 (w0 := w) w.heap.size (by rfl) (.tmp 31) (.tmp 42) 28 46 (.agg #[(.int .i64 0), (.int .i64 0), (.int .i64 0)]) 24 rfl Tryd.underlying28 info46 rfl (by decide) (by omega) v (pre.map fun y => brAt zs (cl m y)) (⟨z1, z2, z3⟩ : S46) [.int .i64 z1, .int .i64 z2, .int .i64 z3] (fun _ => True) (fun _ => False) rfl rfl ?aP (fun _ hk => hk.elim) (fun _ _ => trivial) ?aO ?aB ?aS ?aL ?_
    (case aP => exact k46_mkM _ _ _ (⟨z1, z2, z3⟩ : S46))
    (case aB => exact HP2.out.bel)
    (case aO => exact HR2.out)
    (case aS => exact below_size HP2.out.bel)
    (case aL => exact hlen24)
    intro v1 w9 ho9 hb9 hg9 hat9
    obtain ⟨Ao9, co9, rfl⟩ := Kd.R_slice ho9
    obtain ⟨len9, hl9⟩ : ∃ n, ((pre.map fun y => brAt zs (cl m y)) ++ [(⟨z1, z2, z3⟩ : S46)]).length = n := ⟨_, rfl⟩
    rw [hl9] at ho9 hat9 ⊢
    have HP9 := Aside0.mk (HP2.out.appended HR2.out hg9 hb9)
    have HR9 := Aside0.mk ho9
    have HK9 := Aside0.mk (HK2.out.trans (keeps_cells (B := wU.heap.size) hg9 (fun r e => by obtain ⟨cs, hc⟩ := Kd.R_typed HR2.out r e; exact ⟨cs, _, hc⟩)))
    clear ho9 hb9 hg9 hat9
    refine hK.out _ _ ?_
    clear hK K
    refine norm_ (a' := ?_) ?_ ?_
    rotate_left
    · show Act.put _ (some 43) _ = _
      simp only [Act.put, List.setIfInBounds_toArray, List.set_cons_zero, List.set_cons_succ, i64_w, i32_w]
      rfl
    refine pure_ (i := 14) (N := some 44) (v := .pointer (some ⟨sB, 1, none⟩)) (a' := ?_) #[true, true, true, true, true, true, true, true, true, true, true, true, true, true, true, false] rfl rfl (by kernel_rfl) (fun _ _ _ h => h) (Or.inl ⟨by rfl, ?_⟩) ?_ ?_
    · intro w'
      go_simp
      first | done | rfl | (with_reducible rfl)
    rotate_left
    · simp only [Act.put, List.setIfInBounds_toArray, List.set_cons_zero, List.set_cons_succ, i64_w, i32_w]
      rfl
    refine last_ (i := 15) (N := none) #[true, true, true, true, true, true, true, true, true, true, true, true, true, true, true, true] rfl rfl (by kernel_rfl) (by decide) (fun K hK => ?_)
    have hs9 : w9.cell? ⟨sB, 1, none⟩ = some v := (blk_cell HP9.out.st 1).trans rfl
    have hf9 := blk_frozen HP9.out.st 1
    refine skip_ (w1 := w9.setCell ⟨sB, 1, none⟩ (.slice Ao9 len9 co9)) (by rfl) rfl ?_ ?_
    · go_simp
      first | done | rfl
    refine hK.out _ _ ?_
    clear hK K
    refine done_ (by kernel_rfl) ?_
    dsimp only [normalW]
    gi_wp2_with fail
    have HPs := HP9.out.stored (.slice Ao9 len9 co9) (by have := HW1.out; omega) (by omega) (by omega) hle1
    refine ⟨HK9.out.trans (keeps_set (p := ⟨sB, 1, none⟩) HP9.out.st), ⟨HPs.xs.trans HP.out.xs.symm, HPs.xn.trans HP.out.xn.symm⟩, _, HPs, ?_⟩
    rw [List.map_append, List.map_cons, List.map_nil, HBR.out]
    exact HP9.out.br_stored HR9.out _
  case done =>
    rintro D ys W hD rfl ⟨v, hP, hRb⟩ hK
    have hbs : ((chunksTo m).map fun y => brAt zs (cl m y)) = brs zs := by
      unfold brs chunksTo
      have h3 : zs.length / 3 = m := by have := HL.out; omega
      rw [h3]
      refine List.map_congr_left (fun y hy => ?_)
      rw [cl_lt (List.mem_range.1 hy)]
    rw [hbs] at hRb
    have hA := HAI.out
    have hH := HH.out
    rw [hz0] at hA hH
    obtain ⟨bs, hbr⟩ : ∃ bs, brs zs = bs := ⟨_, rfl⟩
    rw [hbr] at hRb hA hH
    obtain ⟨Av, cv, rfl⟩ := Kd.R_slice hRb
    obtain ⟨hcv1, hC1⟩ := (Kd.R_reads' hRb).2
    have hD' : wU.heap.size ≤ D := by simpa using hD
    have hcz0 : W.cell? ⟨sB, 0, none⟩ = some (.int .i64 z0) := (blk_cell hP.st 0).trans rfl
    have hcz1 : W.cell? ⟨sB, 1, none⟩ = some (.slice Av bs.length cv) := (blk_cell hP.st 1).trans rfl
    have HP := Aside0.mk hP
    have HRb := Aside0.mk hRb
    have HKD := Aside0.mk hK
    have HA1 := Aside0.mk hA
    have HC1 := Aside0.mk hC1
    have HV1 := Aside0.mk hcv1
    clear hbs hP hRb hK hA hC1 hcv1 hbr hz
    cases t with
    | false =>
      have hr := hH
      rw [if_neg (by decide)] at hr
      simp only [Option.some.injEq, Prod.mk.injEq] at hr
      obtain ⟨rfl, rfl, rfl⟩ := hr
      clear hH
      go_wp2_with (first
        | (go_at_call 24; (refine (impl_AreIsles.calls z0 Av cv bs false W HC1.out HV1.out HA1.out).mono ?_; rintro e w5 ⟨rfl, hb5⟩; have HP5 := Aside0.mk (HP.out.below hb5); have HK5 := Aside0.mk ((hb5.block D (Array.getElem?_eq_some_iff.1 HKD.out).1).trans HKD.out); have hc0 : w5.cell? ⟨w.heap.size, 0, none⟩ = some (.int .i64 0) := (blk_cell HP5.out.res 0).trans rfl; have hc1 : w5.cell? ⟨w.heap.size, 1, none⟩ = some (.slice none 0 0) := (blk_cell HP5.out.res 1).trans rfl; have hf0 := blk_frozen HP5.out.res 0; have hf1 := blk_frozen HP5.out.res 1; clear hb5)))
      obtain ⟨hs1, hs2, hs3⟩ := set_two (w := w) (c := 0) (s := .slice none 0 0) HP5.out.res HK5.out HP5.out.bel (Nat.le_refl _)
      obtain ⟨he1, he2, he3⟩ := parse_end (w := w) (bs := []) (Nat.le_trans (below_size HPU.out.bel) hD') hs2 hs1 (Kd.R_nil _ _ _ _ _) hs3
      refine ⟨by simp, .inl ⟨_, _, rfl, run_takeDeferred hs2, ?_⟩⟩
      exact ⟨_, results_ct rfl _ _ w.heap.size 30 _ (0, 0) _ rfl he1 Tryd.underlying30 rfl (by kernel_rfl), _, rfl, he2, he3⟩
    | true =>
      have hr := hH
      rw [if_pos rfl] at hr
      obtain ⟨u, hu, hr⟩ := Option.bind_eq_some_iff.mp hr
      have HU := Aside0.mk hu
      clear hH hu
      by_cases he : u.toList = a0.toList
      · rw [if_pos he] at hr
        have heb : (u.toList == a0.toList) = true := beq_iff_eq.mpr he
        have hec : (u.toList != a0.toList) = false := bne_eq_false_iff_eq.mpr he
        clear he
        simp only [Option.some.injEq, Prod.mk.injEq] at hr
        obtain ⟨rfl, rfl, rfl⟩ := hr
        go_wp2_with (first
        | (go_at_call 24; (refine (impl_AreIsles.calls z0 Av cv bs true W HC1.out HV1.out HA1.out).mono ?_; rintro e w4 ⟨rfl, hb4⟩; have HP4 := Aside0.mk (HP.out.below hb4); have HRb4 := Aside0.mk (Kd.R_below HRb.out hb4); have HC4 := Aside0.mk (Kd.C_below HC1.out hb4); have HK4 := Aside0.mk ((hb4.block D (Array.getElem?_eq_some_iff.1 HKD.out).1).trans HKD.out); have hcy0 : w4.cell? ⟨sB, 0, none⟩ = some (.int .i64 z0) := (blk_cell HP4.out.st 0).trans rfl; have hcy1 : w4.cell? ⟨sB, 1, none⟩ = some (.slice Av bs.length cv) := (blk_cell HP4.out.st 1).trans rfl; clear hb4))
        | (go_at_call 25; (refine (impl_islesText.calls k z0 Av cv bs u w4 HC4.out HV1.out HU.out (Tab.below HT.out HP4.out.bel)).mono ?_; rintro e w5 ⟨rfl, hb5⟩; have HP5 := Aside0.mk (HP4.out.below hb5); have HRb5 := Aside0.mk (Kd.R_below HRb4.out hb5); have HK5 := Aside0.mk ((hb5.block D (Array.getElem?_eq_some_iff.1 HK4.out).1).trans HK4.out); have hcx0 : w5.cell? ⟨sB, 0, none⟩ = some (.int .i64 z0) := (blk_cell HP5.out.st 0).trans rfl; have hcx1 : w5.cell? ⟨sB, 1, none⟩ = some (.slice Av bs.length cv) := (blk_cell HP5.out.st 1).trans rfl; have hc0 : w5.cell? ⟨w.heap.size, 0, none⟩ = some (.int .i64 0) := (blk_cell HP5.out.res 0).trans rfl; have hc1 : w5.cell? ⟨w.heap.size, 1, none⟩ = some (.slice none 0 0) := (blk_cell HP5.out.res 1).trans rfl; have hf0 := blk_frozen HP5.out.res 0; have hf1 := blk_frozen HP5.out.res 1; clear hb5)))
        obtain ⟨hs1, hs2, hs3⟩ := set_two (w := w) (c := z0) (s := .slice Av bs.length cv) HP5.out.res HK5.out HP5.out.bel (Nat.le_refl _)
        obtain ⟨he1, he2, he3⟩ := parse_end (w := w) (bs := bs) (Nat.le_trans (below_size HPU.out.bel) hD') hs2 hs1 (set_two_R HP5.out.res HRb5.out) hs3
        refine ⟨by simp, .inl ⟨_, _, rfl, run_takeDeferred hs2, ?_⟩⟩
        exact ⟨_, results_ct rfl _ _ w.heap.size 30 _ (0, 0) _ rfl he1 Tryd.underlying30 rfl (by kernel_rfl), _, rfl, he2, he3⟩
      · rw [if_neg he] at hr
        have heb : (u.toList == a0.toList) = false := beq_eq_false_iff_ne.mpr he
        have hec : (u.toList != a0.toList) = true := bne_iff_ne.mpr he
        simp only [Option.some.injEq, Prod.mk.injEq] at hr
        obtain ⟨rfl, rfl, rfl⟩ := hr
        go_wp2_with (first
        | (go_at_call 24; (refine (impl_AreIsles.calls z0 Av cv bs true W HC1.out HV1.out HA1.out).mono ?_; rintro e w4 ⟨rfl, hb4⟩; have HP4 := Aside0.mk (HP.out.below hb4); have HRb4 := Aside0.mk (Kd.R_below HRb.out hb4); have HC4 := Aside0.mk (Kd.C_below HC1.out hb4); have HK4 := Aside0.mk ((hb4.block D (Array.getElem?_eq_some_iff.1 HKD.out).1).trans HKD.out); have hcy0 : w4.cell? ⟨sB, 0, none⟩ = some (.int .i64 z0) := (blk_cell HP4.out.st 0).trans rfl; have hcy1 : w4.cell? ⟨sB, 1, none⟩ = some (.slice Av bs.length cv) := (blk_cell HP4.out.st 1).trans rfl; clear hb4))
        | (go_at_call 25; (refine (impl_islesText.calls k z0 Av cv bs u w4 HC4.out HV1.out HU.out (Tab.below HT.out HP4.out.bel)).mono ?_; rintro e w5 ⟨rfl, hb5⟩; have HP5 := Aside0.mk (HP4.out.below hb5); have HRb5 := Aside0.mk (Kd.R_below HRb4.out hb5); have HK5 := Aside0.mk ((hb5.block D (Array.getElem?_eq_some_iff.1 HK4.out).1).trans HK4.out); have hcx0 : w5.cell? ⟨sB, 0, none⟩ = some (.int .i64 z0) := (blk_cell HP5.out.st 0).trans rfl; have hcx1 : w5.cell? ⟨sB, 1, none⟩ = some (.slice Av bs.length cv) := (blk_cell HP5.out.st 1).trans rfl; have hc0 : w5.cell? ⟨w.heap.size, 0, none⟩ = some (.int .i64 0) := (blk_cell HP5.out.res 0).trans rfl; have hc1 : w5.cell? ⟨w.heap.size, 1, none⟩ = some (.slice none 0 0) := (blk_cell HP5.out.res 1).trans rfl; have hf0 := blk_frozen HP5.out.res 0; have hf1 := blk_frozen HP5.out.res 1; clear hb5)))
        obtain ⟨hs1, hs2, hs3⟩ := set_two (w := w) (c := 0) (s := .slice none 0 0) HP5.out.res HK5.out HP5.out.bel (Nat.le_refl _)
        obtain ⟨he1, he2, he3⟩ := parse_end (w := w) (bs := []) (Nat.le_trans (below_size HPU.out.bel) hD') hs2 hs1 (Kd.R_nil _ _ _ _ _) hs3
        refine ⟨by simp, .inl ⟨_, _, rfl, run_takeDeferred hs2, ?_⟩⟩
        exact ⟨_, results_ct rfl _ _ w.heap.size 30 _ (0, 0) _ rfl he1 Tryd.underlying30 rfl (by kernel_rfl), _, rfl, he2, he3⟩
  case stop =>
    rintro D c pre W _ _ h _
    exact h.elim
theorem numsFrom_len (most : Int) : ∀ (l : List ByteArray) (acc : List Int), (numsFrom most l acc).1.length ≤ acc.length + l.length
  | [], acc => Nat.le_refl _
  | x :: l, acc => by
    rw [numsFrom]
    split
    · have := numsFrom_len most l (acc ++ [(numberOf x most).1])
      simp only [List.length_append, List.length_cons, List.length_nil] at this ⊢
      omega
    · simp
theorem numbers_len {a0 a1 : ByteArray} {most : Int} {zs : List Int} {ok : Bool} (h : impl_numbers.f a0 a1 most = some (zs, ok)) : zs.length ≤ 2000000 := by
  unfold impl_numbers.f at h
  by_cases hc : a0.size ≤ 1048576 ∧ a1.size ≤ 1048576 ∧ asciiB a1 = true
  · rw [if_pos hc] at h
    have h1 := numsFrom_len most (Lib.goFieldsP (hasRune a1) a0) []
    have h2 := fields_length (hasRune a1) a0
    rw [Option.some.inj h] at h1
    simp only [List.length_nil] at h1
    omega
  · rw [if_neg hc] at h
    cases h
theorem impl_ParseIsles.calls (k : Nat) (a0 : ByteArray) (r1 : Int) (r2 : List (S46)) (r3 : Bool) (w : World) (h : impl_ParseIsles.f k a0 = some (r1, r2, r3)) (htab : Tab w := by first | exact Tab.below (Aside0.out (by assumption)) (by repeat (first | (with_reducible first | exact (Aside0.out (by assumption)) | apply below_alloc | apply pw_below_drewN | apply below_drew1 | refine below_set ?_ (Aside0.out (by assumption))) | exact (Aside0.out (by assumption))))) :
    Calls Tryd.prog 11 #[.string a0] w fun e w' => ∃ v1_ : Value, e = .returned (.tuple #[.agg #[.int .i64 r1, v1_], .bool r3]) ∧ Kd.R k46 46 w' w.heap.size (fun _ => True) v1_ r2 ∧ Below w.heap.size w w' := by
  unfold impl_ParseIsles.f at h
  obtain ⟨⟨zs, ok⟩, hN, h⟩ := Option.bind_eq_some_iff.mp h
  dsimp only at h
  by_cases hc : ok = true ∧ zs.length % 3 = 1
  · rw [if_pos hc] at h
    obtain ⟨rfl, h3⟩ := hc
    obtain ⟨t, hA, H⟩ := Option.bind_eq_some_iff.mp h
    exact parse_yes k a0 zs (zs.length / 3) (by omega) (numbers_len hN) hN t hA r1 r2 r3 H w htab
  · rw [if_neg hc] at h
    simp only [Option.some.injEq, Prod.mk.injEq] at h
    obtain ⟨rfl, rfl, rfl⟩ := h
    refine (parse_not a0 zs ok hN hc w htab).mono ?_
    rintro e w' ⟨rfl, hb⟩
    exact ⟨_, rfl, Kd.R_nil _ _ _ _ _, hb⟩
end

end Go.Proofs.YtadkmhlohgeihaaDoor.K
