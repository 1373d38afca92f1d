/- Go functions of this seat as plain functions, each with the proof that its call comes to what that function says: written by this session's program (wip/drive.py) out of the translation, by the kit's printer and by texts of our own; no conditions. -/
import Derived.Test.YtpenadhifdpfhaaDoorKx0
import Derived.Test.YtpenadhifdpfhaaDoorKx1
import Derived.Test.YtpenadhifdpfhaaDoorKx3
import Derived.Laws.Bits64
import Derived.Laws.BitsLemmas
import Derived.Laws.CopyOwn
import Derived.Laws.IdiomCopy
import Derived.Lib.MinMax
import Derived.Maps.AppendAt
import Derived.Shelf.Abstract
namespace Go.Proofs.YtpenadhifdpfhaaDoor.K
open Go.RowKit Go.Proofs.YtpenadhifdpfhaaDoorW.PrintWords Go.Proofs.YtpenadhifdpfhaaDoorW.PrintLast Go.Proofs.YtpenadhifdpfhaaDoorW.PrintMore
attribute [local go_sem] max2_int min2_int max_two min_two max_three min_three max_four min_four   -- for this text's walks alone
set_option linter.unusedVariables false
set_option linter.unusedSimpArgs false

/-! ### impl_PlanOfGroup: function 5 -/
theorem mixedL : Tryd.prog.follows .mixedOrders = true := by kernel_rfl
theorem add_block (ad : Addr) (j : Nat) : (ad.add j).block = ad.block := by unfold Addr.add; split <;> rfl
theorem and_low (n : Nat) (hn : n < 4294967296) : Go.bits .and .u64 (n : Int) 4294967295 = (n : Int) := by
  have h := bits_mask .u64 63 (by decide) (fun n h0 h1 => by rw [IntKind.wrap_u64]; omega) 32 (by decide) (n : Int) (by omega) (by omega)
  have e : ((2 : Int) ^ 32 - 1) = 4294967295 := by decide
  have e2 : ((2 : Int) ^ 32) = 4294967296 := by decide
  rw [e, e2] at h
  rw [h]
  omega
theorem wu64 {x : Int} (h : 0 ≤ x) (h' : x < 18446744073709551616) : IntKind.u64.wrap x = x := by rw [IntKind.wrap_u64]; omega
theorem mul_one_ (n : Nat) (hn : n < 4294967296) : bits_Mul.f 1 (n : Int) = some (0, (n : Int)) := by
  unfold bits_Mul.f bits_Mul64.f
  rw [show Go.bits .and .u64 1 4294967295 = 1 from and_low 1 (by decide), and_low n hn, show (n : Int) / 4294967296 = 0 from by omega, show (1 : Int) / 4294967296 = 0 from by decide]
  simp only [Int.zero_mul, Int.mul_zero, Int.one_mul, wu64 (x := (n : Int)) (by omega) (by omega), show IntKind.u64.wrap 0 = 0 from by decide, show (n : Int) / 4294967296 = 0 from by omega, Int.add_zero, Option.bind_some]
  rfl
/-- A row of which the first k are x. -/
def partRow (x : Value) (k n : Nat) : List Value := List.replicate k x ++ List.replicate (n - k) (Value.slice none 0 0)
theorem partRow_splice (x : Value) (k n m : Nat) (cur : List Value) (h : cur.take n = partRow x k n) (hn : n ≤ cur.length) (hk : k + m ≤ n) : (splice cur k (List.replicate m x)).take n = partRow x (k + m) n := by
  have h0 : cur.take k = List.replicate k x := by
    have h1 := congrArg (List.take k) h
    rw [List.take_take, Nat.min_eq_left (by omega)] at h1
    rw [h1]
    unfold partRow
    rw [List.take_append_of_le_length (by simp)]
    simp
  have h2 : (cur.drop (k + m)).take (n - (k + m)) = List.replicate (n - (k + m)) (Value.slice none 0 0) := by
    have h1 := congrArg (List.drop (k + m)) h
    rw [List.drop_take] at h1
    rw [h1]
    unfold partRow
    rw [List.drop_append, List.drop_of_length_le (by simp)]
    simp
    omega
  unfold splice partRow
  rw [h0, List.length_replicate, List.take_append, List.take_append, List.take_of_length_le (by simp; omega), List.length_replicate, List.take_of_length_le (by simp; omega), List.length_replicate, show n - k - m = n - (k + m) from by omega, h2, ← List.append_assoc, List.replicate_append_replicate]
theorem row_head {W : World} {base n : Nat} {e : Nat} {v : Value} (h : Kd.R (Kd.raw 1) e W base (fun _ => True) v (List.replicate n [Value.slice none 0 0])) (hn : 1 ≤ n) : ∃ g cap cur, v = .slice (some ⟨g, 0, none⟩) n cap ∧ base ≤ g ∧ n ≤ cap ∧ cap ≤ maxLen ∧ cur.length = cap ∧ cur.take n = partRow (.slice none 0 0) 0 n ∧ W.heap[g]? = some (.cells (cur : List Value).toArray e (0, 0)) := by
  obtain ⟨_, inner, hown, hr⟩ := h
  rw [List.length_replicate] at hown
  have hin : inner = List.replicate n (Value.slice none 0 0) := by
    obtain ⟨hl, hp⟩ := hr
    rw [List.length_replicate, show (Kd.raw 1).sz = 1 from rfl, Nat.mul_one] at hl
    apply List.ext_getElem
    · rw [hl, List.length_replicate]
    · intro j h1 h2
      have h3 := (hp j [Value.slice none 0 0] (by rw [List.getElem?_replicate, if_pos (by omega)])).1
      rw [show (Kd.raw 1).sz = 1 from rfl, Nat.mul_one] at h3
      have h4 := congrArg (fun l : List Value => l[0]?) h3
      simp only [List.getElem?_take_of_lt (show 0 < 1 by decide), List.getElem?_drop, Nat.add_zero, List.getElem?_cons_zero, List.getElem?_eq_getElem h1, Option.some.injEq] at h4
      rw [h4, List.getElem_replicate]
  subst hin
  rcases hown.2 with ⟨_, h0⟩ | ⟨g, cap, cur, rfl, hb, hh, h1, h2, h3, h4⟩
  · omega
  · rw [show (Kd.raw 1).sz = 1 from rfl, Nat.mul_one] at h3 h4
    refine ⟨g, cap, cur.toList, rfl, hb, h1, h2, by rw [Array.length_toList]; exact h3, ?_, by simpa using hh⟩
    rw [h4]
    simp [partRow]
theorem row_src {W : World} {g e k m n : Nat} {cur : List Value} {x : Value} (hh : W.heap[g]? = some (.cells cur.toArray e (0, 0))) (hc : cur.take n = partRow x k n) (hm : m ≤ k) (hk : k ≤ n) {j : Nat} {v : Value} (hj : (List.replicate m x)[j]? = some v) : W.cell? ((⟨g, 0, none⟩ : Addr).add j) = some v := by
  obtain ⟨h1, h2⟩ := List.getElem?_eq_some_iff.1 hj
  rw [List.length_replicate] at h1
  rw [List.getElem_replicate] at h2
  rw [add_plain, blk_cell hh]
  have h3 : (cur.take n)[j]? = (partRow x k n)[j]? := by rw [hc]
  rw [List.getElem?_take_of_lt (by omega)] at h3
  rw [List.getElem?_toArray, h3, ← h2]
  unfold partRow
  rw [List.getElem?_append_left (by rw [List.length_replicate]; omega), List.getElem?_replicate, if_pos (by omega)]
theorem one_src {W : World} {ad : Addr} {x : Value} (h : W.cell? (ad.add 0) = some x) : ∀ j v, [x][j]? = some v → W.cell? (ad.add j) = some v := by
  intro j v hj
  match j, hj with
  | 0, hj =>
    simp at hj
    rw [← hj]
    exact h
  | j + 1, hj => simp at hj
set_option maxRecDepth 100000 in
set_option maxHeartbeats 4000000 in
/-- slices.Repeat of a list of one. -/
theorem repeat_calls (ad : Addr) (c : Nat) (x : Value) (hx1 : x.oneCell' = true) (n : Nat) (hn1 : 1 ≤ n) (hn : n ≤ 1000000) (w : World) (hc1 : 1 ≤ c) (hr : w.cell? (ad.add 0) = some x) :
    Calls Tryd.prog 14 #[.slice (some ad) 1 c, .int .i64 n] w fun e w' => ∃ g cap, e = .returned (.slice (some ⟨g, 0, none⟩) n cap) ∧ w'.ownsRow w.heap.size 30 1 (.slice (some ⟨g, 0, none⟩) n cap) n (List.replicate n x) ∧ Below w.heap.size w w' := by
  have HC := Aside0.mk hr
  have hm := mul_one_ n (by omega)
  have h64 : IntKind.u64.wrap (n : Int) = (n : Int) := wu64 (by omega) (by omega)
  have hi64 : IntKind.i64.wrap (n : Int) = (n : Int) := by rw [i64_w]; unfold wrap64; omega
  have HM := Aside0.mk hm
  clear hr hm
  go_enter Tryd.func14, Tryd.ntmps14
  go_wp2_with (first | (go_at_call 26; refine (bits_Mul.calls 1 n 0 n _ HM.out).mono ?_; rintro e w' ⟨rfl, ⟨nd, rfl⟩⟩) | ((with_reducible refine gate_dst (N := 30) rfl ?_); refine Kd.R_make (Kd.raw 1) (w0 := w) w.heap.size 30 rfl (N := 30) rfl 22 _ _ rfl (n : Int) rfl rfl Tryd.underlying22 (.slice none 0 0) 24 info30 rfl (by decide) (by omega) [Value.slice none 0 0] (ok := fun _ => True) (okp := fun _ => True) ⟨rfl, rfl, by intro u hu; simp [Value.cells] at hu; subst hu; rfl⟩ (fun _ hk => hk) trivial (by omega) (by omega) (pw_below_drewN (Below.refl _ _) _) (Nat.le_refl _) ?_; intro v30 w30 ho30 hb30 hg_ hnew_; clear hg_ hnew_; rw [Int.toNat_natCast] at ho30; obtain ⟨g, cap, cur, rfl, hgb, hnc, hcm, hlc, htk, hhg⟩ := row_head ho30 hn1; have HG := Aside0.mk hhg; have HB30 := Aside0.mk hb30; have HTK := Aside0.mk htk; clear ho30 hb30 hhg htk) | ((with_reducible refine gate_builtin (b := .copy) (xs := #[.tmp 31, .tmp 32]) rfl ?_); refine wpList_copy_splice rfl (.tmp 31) (.tmp 32) 22 22 rfl 30 Tryd.underlying22 (by kernel_rfl) (some ⟨g, 0, none⟩) (some ad) n cap 1 c rfl rfl g 0 cur 30 HG.out [x] (show 1 = Nat.min 1 n from (Nat.min_eq_left hn1).symm) (fun _ => ⟨rfl, ad, rfl, one_src ((HB30.out.cell (World.block_lt_of_cell? w _ HC.out)).trans HC.out)⟩) (by simp; omega) (by intro v hv; simp at hv; subst hv; exact hx1) w.heap.size w HB30.out hgb ?_; intro w33 hg33 hb33; have HG33 := Aside0.mk hg33; have HB33 := Aside0.mk hb33; clear hg33 hb33))
  go_loopg [8] n (fun gg v8 wr => ∃ (k : Nat) (cur : List Value), v8 = .int .i64 k ∧ 1 ≤ k ∧ k ≤ n ∧ n - k ≤ gg ∧ Aside0 (cur.length = cap ∧ cur.take n = partRow x k n ∧ wr.heap[g]? = some (.cells cur.toArray 30 (0, 0))) ∧ Aside0 (Below w.heap.size w wr))
  case atStart =>
    refine ⟨1, _, rfl, Nat.le_refl _, hn1, by omega, ⟨by rw [length_splice _ _ _ (by simp; omega)]; exact hlc, ?_, HG33.out⟩, HB33⟩
    have := partRow_splice x 0 n 1 cur (by rw [HTK.out]; simp [partRow]) (by omega) (by omega)
    simpa using this
  case round =>
    obtain ⟨k, cur, rfl, hk1, hkn, hgg, HW, HB⟩ := hrel
    clear HG33 HB33 HG HB30 HTK
    by_cases hlt : k < n
    · obtain ⟨m, hm⟩ : ∃ m, m = Nat.min k (n - k) := ⟨_, rfl⟩
      have hmk : m ≤ k := by rw [hm]; exact Nat.min_le_left _ _
      have hmn : m ≤ n - k := by rw [hm]; exact Nat.min_le_right _ _
      have hm1 : 1 ≤ m := by rw [hm]; show 1 ≤ min k (n - k); omega
      have hs41 : ∀ W, (Instr.slice 22 (.slice (some ⟨g, 0, none⟩) n cap) (some (.int .i64 (k : Int))) none none).run Tryd.prog W = .ok (.slice (some ⟨g, k, none⟩) (n - k) (cap - k)) W := by
        intro W
        have hu : Tryd.prog.underlying 22 = some (.slice (Tryd.prog.elem 22)) := by kernel_rfl
        obtain ⟨i0, hi, hz0, hz1, hz2⟩ := info_parts info30
        rw [run_slice_l W 22 (some ⟨g, 0, none⟩) n cap hu .i64 (k : Int) (by omega) (by omega), show Tryd.prog.elem 22 = 30 from by kernel_rfl]
        simp [sizeOf, typeInfo, hi, hz1, sliced, Result.andThen, show ¬ cap = k from by omega, Addr.add]
        omega
      have hs44 : ∀ W, (Instr.slice 22 (.slice (some ⟨g, 0, none⟩) n cap) none (some (.int .i64 (k : Int))) none).run Tryd.prog W = .ok (.slice (some ⟨g, 0, none⟩) k cap) W := by
        intro W
        have hu : Tryd.prog.underlying 22 = some (.slice (Tryd.prog.elem 22)) := by kernel_rfl
        obtain ⟨i0, hi, hz0, hz1, hz2⟩ := info_parts info30
        rw [run_slice_h W 22 (some ⟨g, 0, none⟩) n cap hu .i64 (k : Int) (by omega) (by omega), show Tryd.prog.elem 22 = 30 from by kernel_rfl]
        simp [sizeOf, typeInfo, hi, hz1, sliced, Result.andThen, Addr.add]
      have HMN := Aside0.mk hm
      clear hm
      have hltz : (k : Int) < (n : Int) := by omega
      go_wp2_with fail
      refine start_ (n := 10) (S := fun _ => True) (ds := []) #[false, false, false, false, false, false, false, false, false, false] mixedL rfl rfl trivial (fun hHeld => ?_)
      have HBd := Aside0.mk (below_drew HB.out)
      have HWd := Aside0.mk (blk_drew HW.out.2.2)
      generalize wr.drew = wd at HBd HWd ⊢
      refine pure_ (i := 0) (N := some 38) (v := ?_) (a' := ?_) #[true, false, false, false, false, false, false, false, false, false] rfl rfl (by kernel_rfl) (fun _ _ _ h => h) (Or.inl ⟨by rfl, ?_⟩) ?_ ?_
      rotate_left
      · intro w'
        go_simp
        with_reducible rfl
      rotate_left
      · simp only [Act.put, List.setIfInBounds_toArray, List.set_cons_zero, List.set_cons_succ, i64_w, i32_w]
        rfl
      refine pure_ (i := 1) (N := some 39) (v := ?_) (a' := ?_) #[true, true, false, false, false, false, false, false, false, false] rfl rfl (by kernel_rfl) (fun _ _ _ h => h) (Or.inl ⟨by rfl, ?_⟩) ?_ ?_
      rotate_left
      · intro w'
        go_simp
        with_reducible rfl
      rotate_left
      · simp only [Act.put, List.setIfInBounds_toArray, List.set_cons_zero, List.set_cons_succ, i64_w, i32_w]
        rfl
      refine pure_ (i := 2) (N := some 40) (v := ?_) (a' := ?_) #[true, true, true, false, false, false, false, false, false, false] rfl rfl (by kernel_rfl) (fun _ _ _ h => h) (Or.inl ⟨by rfl, ?_⟩) ?_ ?_
      rotate_left
      · intro w'
        go_simp
        with_reducible rfl
      rotate_left
      · simp only [Act.put, List.setIfInBounds_toArray, List.set_cons_zero, List.set_cons_succ, i64_w, i32_w]
        rfl
      refine pure_ (i := 3) (N := some 41) (v := .slice (some ⟨g, k, none⟩) (n - k) (cap - k)) (a' := ?_) #[true, true, true, true, false, false, false, false, false, false] rfl rfl (by kernel_rfl) (fun _ _ _ h => h) (Or.inl ⟨by rfl, ?_⟩) ?_ ?_
      · intro w'
        have h_ := hs41 w'
        go_simp
        first | done | (rw [h_]; rfl)
      rotate_left
      · simp only [Act.put, List.setIfInBounds_toArray, List.set_cons_zero, List.set_cons_succ, i64_w, i32_w]
        rfl
      refine pure_ (i := 4) (N := some 42) (v := ?_) (a' := ?_) #[true, true, true, true, true, false, false, false, false, false] rfl rfl (by kernel_rfl) (fun _ _ _ h => h) (Or.inl ⟨by rfl, ?_⟩) ?_ ?_
      rotate_left
      · intro w'
        go_simp
        with_reducible rfl
      rotate_left
      · simp only [Act.put, List.setIfInBounds_toArray, List.set_cons_zero, List.set_cons_succ, i64_w, i32_w]
        rfl
      refine pure_ (i := 5) (N := some 43) (v := ?_) (a' := ?_) #[true, true, true, true, true, true, false, false, false, false] rfl rfl (by kernel_rfl) (fun _ _ _ h => h) (Or.inl ⟨by rfl, ?_⟩) ?_ ?_
      rotate_left
      · intro w'
        go_simp
        with_reducible rfl
      rotate_left
      · simp only [Act.put, List.setIfInBounds_toArray, List.set_cons_zero, List.set_cons_succ, i64_w, i32_w]
        rfl
      refine pure_ (i := 6) (N := some 44) (v := .slice (some ⟨g, 0, none⟩) k cap) (a' := ?_) #[true, true, true, true, true, true, true, false, false, false] rfl rfl (by kernel_rfl) (fun _ _ _ h => h) (Or.inl ⟨by rfl, ?_⟩) ?_ ?_
      · intro w'
        have h_ := hs44 w'
        go_simp
        first | done | (rw [h_]; rfl)
      rotate_left
      · simp only [Act.put, List.setIfInBounds_toArray, List.set_cons_zero, List.set_cons_succ, i64_w, i32_w]
        rfl
      refine one_ (i := 7) (N := some 45) #[true, true, true, true, true, true, true, true, false, false] rfl rfl (by kernel_rfl) (by decide) (fun K hK => ?_)
      refine step_copy_splice rfl (.tmp 41) (.tmp 44) 22 22 rfl 30 Tryd.underlying22 (by kernel_rfl) (some ⟨g, k, none⟩) (some ⟨g, 0, none⟩) (n - k) (cap - k) k cap rfl rfl g k cur 30 HWd.out (List.replicate m x) (by rw [List.length_replicate]; exact HMN.out) (fun _ => ⟨rfl, _, rfl, ?_⟩) (by rw [List.length_replicate]; have := HW.out.1; omega) (by intro v hv; rw [List.eq_of_mem_replicate hv]; exact hx1) w.heap.size w HBd.out hgb ?_
      · intro j v hj
        exact row_src HWd.out HW.out.2.1 (by omega) (by omega) hj
      intro w7 hg7 hb7
      have HW7 := Aside0.mk hg7
      have HB7 := Aside0.mk hb7
      clear hg7 hb7
      rw [List.length_replicate] at *
      refine hK.out _ _ trivial (fun hHeld => ?_)
      clear hK K
      refine norm_ (a' := ?_) ?_ ?_
      rotate_left
      · show Act.put _ (some 45) _ = _
        simp only [Act.put, goInt, List.setIfInBounds_toArray, List.set_cons_zero, List.set_cons_succ, i64_w, i32_w]
        rfl
      refine pure_ (i := 8) (N := some 46) (v := ?_) (a' := ?_) #[true, true, true, true, true, true, true, true, true, false] rfl rfl (by kernel_rfl) (fun _ _ _ h => h) (Or.inl ⟨by rfl, ?_⟩) ?_ ?_
      rotate_left
      · intro w'
        go_simp
        with_reducible rfl
      rotate_left
      · simp only [Act.put, List.setIfInBounds_toArray, List.set_cons_zero, List.set_cons_succ, i64_w, i32_w]
        rfl
      refine pure_ (i := 9) (N := some 8) (v := ?_) (a' := ?_) #[true, true, true, true, true, true, true, true, true, true] rfl rfl (by kernel_rfl) (fun _ _ _ h => h) (Or.inl ⟨by rfl, ?_⟩) ?_ ?_
      rotate_left
      · intro w'
        go_simp
        with_reducible rfl
      rotate_left
      · simp only [Act.put, List.setIfInBounds_toArray, List.set_cons_zero, List.set_cons_succ, i64_w, i32_w]
        rfl
      refine done_ (by kernel_rfl) ?_
      go_wp2_with fail
      go_roundg (n - (k + m))
      case measure => omega
      case rel =>
        refine ⟨k + m, splice cur k (List.replicate m x), by congr 1; unfold wrap64; omega, by omega, by omega, by omega, ⟨by rw [length_splice _ _ _ (by rw [List.length_replicate]; have := HW.out.1; omega)]; exact HW.out.1, ?_, HW7.out⟩, HB7⟩
        have hl1 : cur.length = cap := HW.out.1
        have hl2 : n ≤ cur.length := by rw [hl1]; exact hnc
        exact partRow_splice x k n m cur HW.out.2.1 hl2 (by omega)
    · obtain rfl : k = n := by omega
      go_wp2
      go_ret
      obtain ⟨h1, h2, h3⟩ := HW.out
      refine ⟨g, cap, rfl, ⟨by simp, .inr ⟨g, cap, cur.toArray, rfl, hgb, h3, hnc, hcm, by simp; omega, ?_⟩⟩, HB.out⟩
      rw [Nat.mul_one]
      show cur.take k = _
      rw [h2]
      simp [partRow]
/-- A slice's head. -/
def encS (s : Option Addr × Nat × Nat) : Value := .slice s.1 s.2.1 s.2.2
theorem encS1 (s : Option Addr × Nat × Nat) : (encS s).oneCell' = true := rfl
/-- A row of rows: heads, and what they lead to. -/
def RowsOf (W : World) (B g n cap : Nat) (ss : List (Option Addr × Nat × Nat)) (rows : List (List Int)) : Prop :=
  (Kd.scalar encS encS1).R 30 W B (fun _ => True) (.slice (some ⟨g, 0, none⟩) n cap) ss ∧ ss.length = rows.length ∧ ∀ (i : Nat) (s : Option Addr × Nat × Nat) (l : List Int), ss[i]? = some s → rows[i]? = some l → Kd.R (Kd.int .i64) 3 W B (fun _ => True) (encS s) l
theorem RowsOf.below {W W' : World} {B g n cap : Nat} {ss : List (Option Addr × Nat × Nat)} {rows : List (List Int)} (h : RowsOf W B g n cap ss rows) (hb : Below W.heap.size W W') : RowsOf W' B g n cap ss rows :=
  ⟨Kd.R_below h.1 hb, h.2.1, fun i s l h1 h2 => Kd.R_below (h.2.2 i s l h1 h2) hb⟩
theorem RowsOf.len {W : World} {B g n cap : Nat} {ss : List (Option Addr × Nat × Nat)} {rows : List (List Int)} (h : RowsOf W B g n cap ss rows) : n = ss.length ∧ n = rows.length := by
  have := (Kd.R_reads' h.1).1
  exact ⟨this, by rw [this, h.2.1]⟩
theorem RowsOf.base {W : World} {B g n cap : Nat} {ss : List (Option Addr × Nat × Nat)} {rows : List (List Int)} (h : RowsOf W B g n cap ss rows) : B ≤ g ∧ g < W.heap.size ∧ ∃ c, W.heap[g]? = some (.cells c 30 (0, 0)) :=
  ⟨Kd.R_base h.1 g (by simp [Value.ownBlock]), Kd.R_lt h.1 g (by simp [Value.ownBlock]), Kd.R_typed h.1 g (by simp [Value.ownBlock])⟩
theorem RowsOf.read {W : World} {B g n cap : Nat} {ss : List (Option Addr × Nat × Nat)} {rows : List (List Int)} (h : RowsOf W B g n cap ss rows) (i : Nat) (hi : i < n) : ∃ A c, W.cell? ⟨g, i, none⟩ = some (.slice A (rows.getD i []).length c) ∧ (rows.getD i []).length ≤ c ∧ Kd.C (Kd.int .i64) W A (rows.getD i []).length (rows.getD i []) := by
  obtain ⟨h1, h2⟩ := h.len
  obtain ⟨ad, hA, hc⟩ := (Kd.reads_of_C (enc := encS) (d := ((none, 0, 0) : Option Addr × Nat × Nat)) (h1 := encS1) (Kd.R_reads' h.1).2.2).2.2 (by omega)
  cases hA
  have hc' := hc i (by omega)
  have hs : ss[i]? = some (ss.getD i (none, 0, 0)) := by rw [List.getD_eq_getElem?_getD, List.getElem?_eq_getElem (by omega)]; rfl
  have hr : rows[i]? = some (rows.getD i []) := by rw [List.getD_eq_getElem?_getD, List.getElem?_eq_getElem (by omega)]; rfl
  have hR := h.2.2 i _ _ hs hr
  obtain ⟨A, c, he, hle, hC⟩ := Kd.R_reads hR
  refine ⟨A, c, ?_, hle, hC⟩
  rw [← he, ← hc', add_plain]
theorem RowsOf.set {W : World} {B g n cap : Nat} {ss : List (Option Addr × Nat × Nat)} {rows : List (List Int)} (h : RowsOf W B g n cap ss rows) (i : Nat) (s2 : Option Addr × Nat × Nat) (l2 : List Int) (hR : Kd.R (Kd.int .i64) 3 W B (fun _ => True) (encS s2) l2) : RowsOf (W.setCell ⟨g, i, none⟩ (encS s2)) B g n cap (ss.set i s2) (rows.set i l2) := by
  obtain ⟨_, _, c, hc⟩ := h.base
  refine ⟨(Kd.R_putg h.1 (i : Int) s2).1, by rw [List.length_set, List.length_set]; exact h.2.1, fun j s l h1 h2 => ?_⟩
  have ht : ∀ q, q ∈ 3 :: (Kd.int .i64).E → q ≠ 30 := fun q hq => by
    rcases List.mem_cons.1 hq with rfl | h_
    · decide
    · exact (List.not_mem_nil (show q ∈ ([] : List Nat) from h_)).elim
  refine Kd.R_set ?_ hc ht i _
  by_cases e : i = j
  · subst e
    have hl1 := (List.getElem?_eq_some_iff.1 h1).1
    have hl2 := (List.getElem?_eq_some_iff.1 h2).1
    rw [List.length_set] at hl1 hl2
    rw [List.getElem?_set_self hl1] at h1
    rw [List.getElem?_set_self hl2] at h2
    cases h1
    cases h2
    exact hR
  · rw [List.getElem?_set_ne e] at h1 h2
    exact h.2.2 j s l h1 h2
/-- A place dealt round m times. -/
def dealN (g : Nat) (x : Int) : Nat → List (List Int) × Nat → List (List Int) × Nat
  | 0, s => s
  | m + 1, s => dealN g x m (s.1.set s.2 (s.1.getD s.2 [] ++ [x]), (s.2 + 1) % g)
/-- All places dealt, from one on. -/
def dealO (a0 : ByteArray) (g : Nat) : Nat → Nat → List (List Int) × Nat → Option (List (List Int) × Nat)
  | 0, _, s => some s
  | d + 1, p, s => (impl_bears.f a0 (p : Int)).bind fun b => dealO a0 g d (p + 1) (dealN g (p : Int) (if b ≤ (g : Int) then b else (g : Int)).toNat s)
theorem RowsOf.rep {W : World} {B g n cap : Nat} {s : Option Addr × Nat × Nat} {l : List Int} (ho : W.ownsRow B 30 1 (.slice (some ⟨g, 0, none⟩) n cap) n (List.replicate n (encS s))) (hR : Kd.R (Kd.int .i64) 3 W B (fun _ => True) (encS s) l) : RowsOf W B g n cap (List.replicate n s) (List.replicate n l) := by
  refine ⟨Kd.R_of_own (by rw [List.length_replicate]; simpa [encs] using ho) (fun _ _ => trivial), by simp, fun i s' l' h1 h2 => ?_⟩
  rw [List.getElem?_replicate] at h1 h2
  by_cases hi : i < n
  · rw [if_pos hi] at h1 h2
    cases h1
    cases h2
    exact hR
  · rw [if_neg hi] at h1
    cases h1
theorem mem_setL {rows : List (List Int)} {i : Nat} {x l : List Int} (h : l ∈ rows.set i x) : l = x ∨ l ∈ rows := (List.mem_or_eq_of_mem_set h).symm
theorem getD_bound {rows : List (List Int)} {T : Nat} (h : ∀ l ∈ rows, l.length ≤ T) (i : Nat) : (rows.getD i []).length ≤ T := by
  rw [List.getD_eq_getElem?_getD]
  cases hg : rows[i]? with
  | none => simp
  | some l => exact h l (List.mem_of_getElem? hg)
theorem dealt_bound {rows : List (List Int)} {T : Nat} (h : ∀ l ∈ rows, l.length ≤ T) (i : Nat) (x : Int) : ∀ l ∈ rows.set i (rows.getD i [] ++ [x]), l.length ≤ T + 1 := fun l hl => by
  rcases mem_setL hl with e | hl
  · have h1 := getD_bound h i
    rw [e, List.length_append, List.length_singleton]
    exact Nat.succ_le_succ h1
  · have := h l hl
    omega
theorem belowP {w0 w w' : World} (h : Below w0.heap.size w0 w) (h' : Below w.heap.size w w') : Below w0.heap.size w0 w' := below_then h h.size h'
theorem sizeP {w0 w : World} (h : Below w0.heap.size w0 w) : w0.heap.size ≤ w.heap.size := h.size
theorem below_setP {w0 W : World} {g : Nat} (h : Below w0.heap.size w0 W) (hg : w0.heap.size ≤ g) (i : Nat) (u : Value) : Below w0.heap.size w0 (W.setCell ⟨g, i, none⟩ u) := h.setCell hg u (p := ⟨g, i, none⟩)
theorem lit00 (w1 : World) (B : Nat) (hB : B ≤ w1.heap.size) : let W := (w1.alloc (.cells #[.int .i64 0] 3 (0, 0))).alloc (.cells #[.slice (some ⟨w1.heap.size, 0, none⟩) 1 1] 30 (0, 0));
    Kd.R (Kd.int .i64) 3 W B (fun _ => True) (encS (some ⟨w1.heap.size, 0, none⟩, 1, 1)) [0] ∧ W.cell? ((⟨w1.heap.size + 1, 0, none⟩ : Addr).add 0) = some (encS (some ⟨w1.heap.size, 0, none⟩, 1, 1)) ∧ Below w1.heap.size w1 W := by
  intro W
  have h1 : W.heap[w1.heap.size]? = some (.cells #[.int .i64 0] 3 (0, 0)) := blk_alloc (blk_new w1 _) _
  have h2 : W.heap[w1.heap.size + 1]? = some (.cells #[.slice (some ⟨w1.heap.size, 0, none⟩) 1 1] 30 (0, 0)) := by
    have := blk_new (w1.alloc (.cells #[.int .i64 0] 3 (0, 0))) (.cells #[.slice (some ⟨w1.heap.size, 0, none⟩) 1 1] 30 (0, 0))
    rwa [show (w1.alloc (.cells #[.int .i64 0] 3 (0, 0))).heap.size = w1.heap.size + 1 from by simp] at this
  refine ⟨Kd.R_of_own (show W.ownsRow B 3 1 (encS (some ⟨w1.heap.size, 0, none⟩, 1, 1)) 1 [.int .i64 0] from ⟨by simp, .inr ⟨w1.heap.size, 1, #[.int .i64 0], rfl, hB, h1, Nat.le_refl _, by decide, rfl, rfl⟩⟩) (fun _ _ => trivial), ?_, below_alloc (below_alloc (Below.refl _ _) _) _⟩
  rw [add_plain]
  exact (blk_cell h2 0).trans rfl
/-- The first j rows lie apart. -/
def ApartTo (ss : List (Option Addr × Nat × Nat)) (j : Nat) : Prop := ∀ (i i' : Nat) (s s' : Option Addr × Nat × Nat) (k : Nat), i < j → i' < j → ss[i]? = some s → ss[i']? = some s' → (encS s).ownBlock = some k → (encS s').ownBlock = some k → i = i'
theorem RowsOf.lt {W : World} {B g n cap : Nat} {ss : List (Option Addr × Nat × Nat)} {rows : List (List Int)} (h : RowsOf W B g n cap ss rows) (i : Nat) (s : Option Addr × Nat × Nat) (k : Nat) (hs : ss[i]? = some s) (hk : (encS s).ownBlock = some k) : k < W.heap.size := by
  have hi := (List.getElem?_eq_some_iff.1 hs).1
  have hr : rows[i]? = some (rows[i]'(by rw [← h.2.1]; exact hi)) := List.getElem?_eq_getElem _
  exact Kd.R_lt (h.2.2 i s _ hs hr) k hk
theorem ApartTo.step {ss : List (Option Addr × Nat × Nat)} {j N : Nat} (h : ApartTo ss j) (hlt : ∀ (i : Nat) (s : Option Addr × Nat × Nat) (k : Nat), ss[i]? = some s → (encS s).ownBlock = some k → k < N) (s2 : Option Addr × Nat × Nat) (hnew : ∀ k, (encS s2).ownBlock = some k → N ≤ k) (hj : j < ss.length) : ApartTo (ss.set j s2) (j + 1) := by
  intro i i' s s' k hi hi' hs hs' hk hk'
  by_cases e : j = i
  · by_cases e' : j = i'
    · omega
    · subst e
      rw [List.getElem?_set_self hj] at hs
      rw [List.getElem?_set_ne e'] at hs'
      cases hs
      have h1 := hnew k hk
      have h2 := hlt i' s' k hs' hk'
      omega
  · by_cases e' : j = i'
    · subst e'
      rw [List.getElem?_set_self hj] at hs'
      rw [List.getElem?_set_ne e] at hs
      cases hs'
      have h1 := hnew k hk'
      have h2 := hlt i s k hs hk
      omega
    · rw [List.getElem?_set_ne e] at hs
      rw [List.getElem?_set_ne e'] at hs'
      exact h i i' s s' k (by omega) (by omega) hs hs' hk hk'
theorem RowsOf.toS {W : World} {B g n cap : Nat} {ss : List (Option Addr × Nat × Nat)} {rows : List (List Int)} (h : RowsOf W B g n cap ss rows) (ha : ApartTo ss n) : Kd.S (Kd.slice 3 (Kd.int .i64)) 30 W B (fun _ => True) (.slice (some ⟨g, 0, none⟩) n cap) rows := by
  obtain ⟨hn1, hn2⟩ := h.len
  obtain ⟨_, _, c, hc⟩ := h.base
  have ho := Kd.own_of_R h.1
  obtain ⟨f, hf⟩ := Kd.reps_tag (d := Kd.slice 3 (Kd.int .i64)) (w := W) (base := B) (ok := fun k => True ∧ some k ≠ (Value.slice (some ⟨g, 0, none⟩) n cap).ownBlock) (xs := rows) (inner := encs encS ss) (fun j k => ∃ s, ss[j]? = some s ∧ (encS s).ownBlock = some k)
    (fun i j k => by
      rintro ⟨s, h1, h2⟩ ⟨s', h3, h4⟩
      have l1 := (List.getElem?_eq_some_iff.1 h1).1
      have l2 := (List.getElem?_eq_some_iff.1 h3).1
      exact ha i j s s' k (by omega) (by omega) h1 h3 h2 h4)
    (fun j k => by
      rintro ⟨s, h1, h2⟩
      have l1 := (List.getElem?_eq_some_iff.1 h1).1
      have hr : rows[j]? = some (rows[j]'(by omega)) := List.getElem?_eq_getElem _
      have hne := Kd.R_ne (h.2.2 j s _ h1 hr) hc (by decide)
      rw [h2] at hne
      refine ⟨trivial, ?_⟩
      simp only [Value.ownBlock]
      exact fun e => hne e.symm)
    (by rw [encs_length, show (Kd.slice 3 (Kd.int .i64)).sz = 1 from rfl]; omega)
    (fun j x hx => by
      have l1 := (List.getElem?_eq_some_iff.1 hx).1
      have hs : ss[j]? = some (ss[j]'(by omega)) := List.getElem?_eq_getElem _
      have hR := Kd.R_mono (Kd.R_tight rfl (h.2.2 j _ x hs hx)) (ok' := fun k => ∃ s, ss[j]? = some s ∧ (encS s).ownBlock = some k) (fun k hk => ⟨_, hs, hk.symm⟩)
      have hd : ((encs encS ss).drop (j * (Kd.slice 3 (Kd.int .i64)).sz)).take (Kd.slice 3 (Kd.int .i64)).sz = [encS (ss[j]'(by omega))] := by
        rw [show (Kd.slice 3 (Kd.int .i64)).sz = 1 from rfl, Nat.mul_one]
        rw [List.drop_eq_getElem_cons (by rw [encs_length]; omega)]
        simp [encs]
      rw [hd]
      exact Kd.M_row hR)
  exact ⟨f, fun _ _ => trivial, encs encS ss, by rw [List.length_zipIdx, ← hn2, hn1]; rw [hn1] at ho; exact ho, hf⟩
def impl_PlanOfGroup.f (k : Nat) (a0 : ByteArray) (a1 a2 : Int) : Option (List (List Int) × Bool) := (impl_CanGroupCross.f k a0 a1 a2).bind fun c => if c.1 = true then (if 1 ≤ a2 ∧ a2 ≤ 1000 ∧ a0.size ≤ 1000 then (dealO a0 a2.toNat a0.size 1 (List.replicate a2.toNat [0], 0)).bind fun s => some (s.1.map (· ++ [(a0.size : Int) + 1]), true) else none) else some ([], false)
theorem impl_PlanOfGroup.mono : ∀ a0 a1 a2 k, LeO (impl_PlanOfGroup.f k a0 a1 a2) (impl_PlanOfGroup.f (k + 1) a0 a1 a2) := fun a0 a1 a2 k => LeO.bind (impl_CanGroupCross.mono a0 a1 a2 k) (fun _ => LeO.refl _)
set_option maxHeartbeats 8000000 in
set_option maxRecDepth 100000 in
theorem impl_PlanOfGroup.calls (k : Nat) (a0 : ByteArray) (a1 : Int) (a2 : Int) (r1 : List (List Int)) (r2 : Bool) (w : World) (h : impl_PlanOfGroup.f k a0 a1 a2 = some (r1, r2)) :
    Calls Tryd.prog 5 #[.string a0, .int .i64 a1, .int .i64 a2] w fun e w' => ∃ v0_ : Value, e = .returned (.tuple #[v0_, .bool r2]) ∧ Kd.S (Kd.slice 3 (Kd.int .i64)) 30 w' w.heap.size (fun _ => True) v0_ r1 ∧ Below w.heap.size w w' := by
  obtain ⟨⟨b1, b2⟩, hA, h⟩ := Option.bind_eq_some_iff.mp h
  have HA := Aside0.mk hA
  clear hA
  cases b1 with
  | false =>
    simp only [Bool.false_eq_true, if_false] at h
    cases h
    go_enter Tryd.func5, Tryd.ntmps5
    go_wp2_with (go_at_call 13; refine (impl_CanGroupCross.calls k a0 a1 a2 false b2 _ HA.out).mono ?_; rintro e w1 ⟨rfl, hb_⟩; have HB1 := Aside0.mk hb_; clear hb_)
    refine bodyPost_ret (results_tmp2 rfl _ _ _) rfl ?_
    exact ⟨_, rfl, Kd.S_nil _ _ _ _ _, HB1.out⟩
  | true =>
    simp only [if_true] at h
    by_cases hc : 1 ≤ a2 ∧ a2 ≤ 1000 ∧ a0.size ≤ 1000
    · rw [if_pos hc] at h
      obtain ⟨h1, h2, h3⟩ := hc
      obtain ⟨⟨rowsE, nxE⟩, hD, h⟩ := Option.bind_eq_some_iff.mp h
      simp only [Option.some.injEq, Prod.mk.injEq] at h
      obtain ⟨hr1, rfl⟩ := h
      have HFF := Aside0.mk hr1
      clear hr1
      obtain ⟨n, rfl⟩ : ∃ n : Nat, a2 = (n : Int) := ⟨a2.toNat, by omega⟩
      rw [Int.toNat_natCast] at hD
      have HD := Aside0.mk hD
      clear hD
      go_enter Tryd.func5, Tryd.ntmps5
      go_wp2_with (first | (go_at_call 13; refine (impl_CanGroupCross.calls k a0 a1 n true b2 _ HA.out).mono ?_; rintro e w1 ⟨rfl, hb_⟩; have HB1 := Aside0.mk hb_; have HL := Aside0.mk (lit00 w1 w.heap.size (sizeP hb_)); clear hb_) | (go_at_call 14; go_loud (refine (repeat_calls ⟨w1.heap.size + 1, 0, none⟩ 1 (encS (some ⟨w1.heap.size, 0, none⟩, 1, 1)) rfl n (by omega) (by omega) _ (Nat.le_refl _) HL.out.2.1).mono ?_; rintro e w3 ⟨g, cap, rfl, ho_, hb_⟩; have HB3 := Aside0.mk (belowP (belowP HB1.out HL.out.2.2) hb_); have HR3 := Aside0.mk (RowsOf.rep (own_weaken ho_ (sizeP (belowP HB1.out HL.out.2.2))) (Kd.R_below HL.out.1 hb_)); clear ho_ hb_ HL)))
      go_loopg [11, 12] a0.size (fun gg v11 v12 wr => ∃ (p nx : Nat) (rows : List (List Int)) (ss : List (Option Addr × Nat × Nat)), v11 = .int .i64 nx ∧ v12 = .int .i64 ((p : Int) + 1) ∧ p ≤ a0.size ∧ a0.size - p ≤ gg ∧ nx < n ∧ Aside0 (dealO a0 n (a0.size - p) (p + 1) (rows, nx) = some (rowsE, nxE)) ∧ Aside0 (∀ l ∈ rows, l.length ≤ 1 + 1000 * p) ∧ Aside0 (RowsOf wr w.heap.size g n cap ss rows) ∧ Aside0 (Below w.heap.size w wr))
      case atStart => exact ⟨0, 0, _, _, rfl, rfl, Nat.zero_le _, by omega, by omega, HD, ⟨fun l hl => by rw [List.eq_of_mem_replicate hl]; simp⟩, HR3, HB3⟩
      case round =>
        obtain ⟨p, nx, rows, ss, rfl, rfl, hp, hg, hnx, HDr, HLr, HRr, HBr⟩ := hrel
        clear HD HB3 HR3 HB1
        by_cases hlt : p < a0.size
        · obtain ⟨d, hd⟩ : ∃ d, a0.size - p = d + 1 := ⟨a0.size - p - 1, by omega⟩
          have hDD := HDr.out
          rw [hd, dealO] at hDD
          obtain ⟨b, hb0, hDD⟩ := Option.bind_eq_some_iff.mp hDD
          rw [show ((p + 1 : Nat) : Int) = (p : Int) + 1 from rfl] at hb0
          have HBE := Aside0.mk hb0
          have hltz : (p : Int) + 1 ≤ (a0.size : Int) := by omega
          obtain ⟨m, hm⟩ : ∃ m : Nat, (if b ≤ (n : Int) then b else (n : Int)).toNat = m := ⟨_, rfl⟩
          rw [hm] at hDD
          have HDD := Aside0.mk hDD
          obtain ⟨bm, hbm2⟩ : ∃ bm, (if b ≤ (n : Int) then b else (n : Int)) = bm := ⟨_, rfl⟩
          rw [hbm2] at hm
          have hmn : m ≤ n := by
            have h_ := hbm2
            split at h_ <;> omega
          have HBM := Aside0.mk hbm2
          have hbm : min b (n : Int) = bm := by rw [← HBM.out]; split <;> omega
          have hbm3 : (if (n : Int) < b then (n : Int) else b) = bm := by rw [← HBM.out]; split <;> split <;> omega
          have hbm4 : (if b < (n : Int) then b else (n : Int)) = bm := by rw [← HBM.out]; split <;> split <;> omega
          have hbm5 : mn b (n : Int) = bm := by rw [← hbm3]; rfl
          have HM := Aside0.mk hm
          clear hm
          clear hDD hb0
          go_wp2_with (go_at_call 15; refine (impl_bears.calls a0 ((p : Int) + 1) b _ HBE.out).mono ?_; rintro e w4 ⟨rfl, hq_⟩; have HB4 := Aside0.mk (belowP HBr.out hq_.below); have HR4 := Aside0.mk (HRr.out.below hq_.below); clear hq_)
          go_loopg [11, 38] m (fun gg v11 v38 wr2 => ∃ (j nx' : Nat) (rows' : List (List Int)) (ss' : List (Option Addr × Nat × Nat)), v11 = .int .i64 nx' ∧ v38 = .int .i64 j ∧ j ≤ m ∧ m - j ≤ gg ∧ nx' < n ∧ Aside0 (dealN n ((p + 1 : Nat) : Int) (m - j) (rows', nx') = dealN n ((p + 1 : Nat) : Int) m (rows, nx)) ∧ Aside0 (∀ l ∈ rows', l.length ≤ 1 + 1000 * p + j) ∧ Aside0 (RowsOf wr2 w.heap.size g n cap ss' rows') ∧ Aside0 (Below w.heap.size w wr2))
          case atStart => exact ⟨0, nx, rows, ss, rfl, rfl, Nat.zero_le _, by omega, hnx, ⟨rfl⟩, HLr, HR4, HB4⟩
          case round =>
            obtain ⟨j, nx', rows', ss', rfl, rfl, hj, hg2, hnx', HE, HL2, HR2, HB2⟩ := hrel
            clear HB4 HR4 HBr HRr HLr
            by_cases hlt2 : j < m
            · have hltz2 : (j : Int) < bm := by have := HM.out; omega
              obtain ⟨A, c, hcell, hle, hC⟩ := HR2.out.read nx' hnx'
              have hbound := getD_bound HL2.out nx'
              have HLn := Aside0.mk (dealt_bound HL2.out nx' ((p + 1 : Nat) : Int))
              have hEE := HE.out
              rw [show m - j = (m - (j + 1)) + 1 from by omega, dealN] at hEE
              obtain ⟨row, hrow⟩ : ∃ row, row = rows'.getD nx' [] := ⟨_, rfl⟩
              dsimp only at hEE
              rw [← hrow] at hcell hle hC hbound hEE HLn
              have HEE := Aside0.mk hEE
              have HCC := Aside0.mk hC
              have hfz : wr.frozen? ⟨g, nx', none⟩ = false := by
                obtain ⟨_, _, _, h_⟩ := HR2.out.base
                exact blk_frozen h_ nx'
              have HFZ := Aside0.mk HR2.out.base
              have HCL := Aside0.mk (show slices_Clone_int_int.f row = some row from by unfold slices_Clone_int_int.f; rw [if_pos (by omega)])
              have hnxz : (nx' : Int) < (n : Int) := by omega
              have HCE := Aside0.mk hcell
              clear hEE hrow hC
              go_wp2_with (first | (go_at_call 16; refine (slices_Clone_int_int.calls A c row row _ HCC.out hle HCL.out).mono ?_; rintro e w5 ⟨v1, rfl, ho_, hb_⟩; have HB5 := Aside0.mk hb_; have HO1 := Aside0.mk ho_; clear ho_ hb_) | ((with_reducible refine gate_builtin (b := .append) (xs := #[.tmp 46, .tmp 48]) rfl ?_); at_builtin; refine Kd.R_append (Kd.int .i64) (w0 := wr) wr.heap.size rfl (.tmp 46) (.tmp 48) 30 3 (.int .i64 0) 8 rfl Tryd.underlying30 info3 rfl (by decide) (by omega) v1 row ((p : Int) + 1) [.int .i64 ((p : Int) + 1)] (fun _ => True) (fun _ => False) rfl rfl rfl (fun _ hk => hk.elim) (fun _ _ => trivial) HO1.out HB5.out (sizeP HB5.out) (by omega) ?_; intro v2 w6 ho_ hb_ hg_ hat_; obtain ⟨A2, c2, rfl⟩ := Kd.R_slice ho_; rw [show (row ++ [(p : Int) + 1]).length = row.length + 1 from by simp] at ho_; have HO2 := Aside0.mk (Kd.R_lower ho_ (sizeP HB2.out)); have HB6 := Aside0.mk (belowP HB2.out hb_); have HR6 := Aside0.mk (HR2.out.below hb_); have hcell6 : w6.cell? ⟨g, nx', none⟩ = some (.slice A row.length c) := (hb_.cell (World.block_lt_of_cell? wr _ HCE.out)).trans HCE.out; have hfz6 : w6.frozen? ⟨g, nx', none⟩ = false := (by obtain ⟨_, _, _, h_⟩ := HR6.out.base; exact blk_frozen h_ nx'); clear ho_ hb_ hg_ hat_))
              go_roundg (m - (j + 1))
              case measure => omega
              case rel =>
                exact ⟨j + 1, (nx' + 1) % n, _, _, by rw [Int.natCast_emod]; rfl, rfl, by omega, by omega, Nat.mod_lt _ (by omega), HEE, HLn, ⟨HR6.out.set nx' (A2, row.length + 1, c2) _ HO2.out⟩, ⟨below_setP HB6.out HR6.out.base.1 _ _⟩⟩
            · obtain rfl : j = m := by omega
              have hjz : ¬ (j : Int) < bm := by have := HM.out; omega
              have hE2 := HE.out
              rw [Nat.sub_self, dealN] at hE2
              have hDD2 := HDD.out
              rw [← hE2] at hDD2
              have HDE := Aside0.mk hDD2
              have HLB := Aside0.mk (show ∀ l ∈ rows', l.length ≤ 1 + 1000 * (p + 1) from fun l hl => by have := HL2.out l hl; omega)
              have hdd : a0.size - (p + 1) = d := by omega
              have HDX := Aside0.mk hdd
              clear hE2 hDD2 hdd
              go_wp2
              go_roundg (a0.size - (p + 1))
              case measure => omega
              case rel =>
                exact ⟨p + 1, nx', rows', ss', rfl, by go_num, by omega, by omega, hnx', by rw [HDX.out]; exact HDE, HLB, HR2, HB2⟩
        · obtain rfl : p = a0.size := by omega
          have hDD := HDr.out
          rw [Nat.sub_self, dealO, Option.some.injEq, Prod.mk.injEq] at hDD
          obtain ⟨e1, e2⟩ := hDD
          subst e1
          have HLE := Aside0.mk HLr.out
          clear e2
          have hln := HRr.out.len
          have hF := HFF.out.symm
          obtain ⟨rowsF, hrf⟩ : ∃ rowsF, rowsF = r1 := ⟨_, rfl⟩
          rw [← hrf] at hF
          have HRF := Aside0.mk hrf
          have HF := Aside0.mk hF
          clear hrf
          have HLn := Aside0.mk hln
          clear hF hln
          go_wp2
          go_loopg [58] n (fun gg v58 wr2 => ∃ (j : Nat) (ss' : List (Option Addr × Nat × Nat)), v58 = .int .i64 j ∧ j ≤ n ∧ n - j ≤ gg ∧ Aside0 (RowsOf wr2 w.heap.size g n cap ss' (rowsF.take j ++ rows.drop j)) ∧ Aside0 (ApartTo ss' j) ∧ Aside0 (Below w.heap.size w wr2))
          case atStart => exact ⟨0, ss, rfl, Nat.zero_le _, by omega, HRr, ⟨fun _ _ _ _ _ h => by omega⟩, HBr⟩
          case round =>
            obtain ⟨j, ss', rfl, hj, hg2, HR2, HA2, HB2⟩ := hrel
            clear HBr HRr
            have hlF : rowsF.length = n := by rw [HF.out, List.length_map]; exact HLn.out.2.symm
            have HLF := Aside0.mk hlF
            clear hlF
            by_cases hlt2 : j < n
            · have hltz2 : (j : Int) < (n : Int) := by omega
              obtain ⟨A, c, hcell, hle, hC⟩ := HR2.out.read j hlt2
              obtain ⟨row, hrow⟩ : ∃ row, row = rows.getD j [] := ⟨_, rfl⟩
              have hgd : (rowsF.take j ++ rows.drop j).getD j [] = row := by
                rw [hrow, List.getD_eq_getElem?_getD, List.getElem?_append_right (by rw [List.length_take]; have := HLF.out; omega), List.length_take, List.getElem?_drop, List.getD_eq_getElem?_getD]
                congr 2
                have := HLF.out
                omega
              have hset : (rowsF.take j ++ rows.drop j).set j (row ++ [(a0.size : Int) + 1]) = rowsF.take (j + 1) ++ rows.drop (j + 1) := by
                have hl1 := HLF.out
                have hl2 := HLn.out.2
                have hd : rows.drop j = row :: rows.drop (j + 1) := by
                  rw [List.drop_eq_getElem_cons (by omega), hrow, List.getD_eq_getElem?_getD, List.getElem?_eq_getElem (by omega)]
                  rfl
                have ht : rowsF.take (j + 1) = rowsF.take j ++ [row ++ [(a0.size : Int) + 1]] := by
                  rw [List.take_succ_eq_append_getElem (by omega)]
                  congr 2
                  have h_ : rowsF[j]? = some (row ++ [(a0.size : Int) + 1]) := by
                    rw [HF.out, List.getElem?_map, List.getElem?_eq_getElem (by omega), hrow, List.getD_eq_getElem?_getD, List.getElem?_eq_getElem (by omega)]
                    rfl
                  rw [List.getElem?_eq_getElem (by omega)] at h_
                  exact Option.some.inj h_
                rw [List.set_append_right _ _ (by rw [List.length_take]; omega), List.length_take, Nat.min_eq_left (by omega), Nat.sub_self, hd, List.set_cons_zero, ht, List.append_assoc]
                rfl
              have hbound := getD_bound HLE.out j
              rw [← hrow] at hbound
              rw [hgd] at hcell hle hC
              have HST := Aside0.mk hset
              have HCC := Aside0.mk hC
              have HCL := Aside0.mk (show slices_Clone_int_int.f row = some row from by unfold slices_Clone_int_int.f; rw [if_pos (by omega)])
              have HCE := Aside0.mk hcell
              clear hset hrow hC hgd
              go_wp2_with (first | (go_at_call 16; refine (slices_Clone_int_int.calls A c row row _ HCC.out hle HCL.out).mono ?_; rintro e w5 ⟨v1, rfl, ho_, hb_⟩; have HB5 := Aside0.mk hb_; have HO1 := Aside0.mk ho_; clear ho_ hb_) | ((with_reducible refine gate_builtin (b := .append) (xs := #[.tmp 67, .tmp 71]) rfl ?_); at_builtin; refine Kd.R_append (Kd.int .i64) (w0 := wr) wr.heap.size rfl (.tmp 67) (.tmp 71) 30 3 (.int .i64 0) 8 rfl Tryd.underlying30 info3 rfl (by decide) (by omega) v1 row ((a0.size : Int) + 1) [.int .i64 ((a0.size : Int) + 1)] (fun _ => True) (fun _ => False) rfl rfl rfl (fun _ hk => hk.elim) (fun _ _ => trivial) HO1.out HB5.out (sizeP HB5.out) (by omega) ?_; intro v2 w6 ho_ hb_ hg_ hat_; obtain ⟨A2, c2, rfl⟩ := Kd.R_slice ho_; rw [show (row ++ [(a0.size : Int) + 1]).length = row.length + 1 from by simp] at ho_; have HNB := Aside0.mk (Kd.R_base ho_); have HO2 := Aside0.mk (Kd.R_lower ho_ (sizeP HB2.out)); have HB6 := Aside0.mk (belowP HB2.out hb_); have HR6 := Aside0.mk (HR2.out.below hb_); have hcell6 : w6.cell? ⟨g, j, none⟩ = some (.slice A row.length c) := (hb_.cell (World.block_lt_of_cell? wr _ HCE.out)).trans HCE.out; have hfz6 : w6.frozen? ⟨g, j, none⟩ = false := (by obtain ⟨_, _, _, h_⟩ := HR6.out.base; exact blk_frozen h_ j); clear ho_ hb_ hg_ hat_))
              go_roundg (n - (j + 1))
              case measure => omega
              case rel =>
                exact ⟨j + 1, _, by go_num, by omega, by omega, ⟨by rw [← HST.out]; exact HR6.out.set j (A2, row.length + 1, c2) _ HO2.out⟩, ⟨HA2.out.step (fun i s k h1 h2 => HR2.out.lt i s k h1 h2) (A2, row.length + 1, c2) HNB.out (by have := HR2.out.len.1; omega)⟩, ⟨below_setP HB6.out HR6.out.base.1 _ _⟩⟩
            · obtain rfl : j = n := by omega
              have hR3 := HR2.out
              rw [List.take_of_length_le (by have := HLF.out; omega), List.drop_of_length_le (by have := HLn.out.2; omega), List.append_nil] at hR3
              have HR3 := Aside0.mk hR3
              clear hR3
              go_wp2
              refine bodyPost_ret (results_tmp2 rfl _ _ _) rfl ?_
              exact ⟨_, rfl, by rw [← HRF.out]; exact HR3.out.toS HA2.out, HB2.out⟩
    · rw [if_neg hc] at h
      cases h

end Go.Proofs.YtpenadhifdpfhaaDoor.K
