/- Go functions of this seat as plain functions, each with the proof that its call comes to what that function says: written by this session's program (wip/drive.py) out of the translation, by the kit's printer and by texts of our own; no conditions. -/
import Derived.Test.YtkikaakfdggklaaQx0
import Derived.Test.YtkikaakfdggklaaQx6
import Derived.Deep.LoopGhost
import Derived.Deep.RegionLaw
import Derived.Lib.SliceRun
import Derived.Shelf.RegionOpenPlain
import Derived.WalkSpells
namespace Go.Proofs.Ytkikaakfdggklaa.Q
open Go.RowKit Go.Proofs.YtkikaakfdggklaaW.PrintWords Go.Proofs.YtkikaakfdggklaaW.PrintLast Go.Proofs.YtkikaakfdggklaaW.PrintMore
attribute [local go_sem] max2_int min2_int max_two min_two max_three min_three max_four min_four   -- for this text's walks alone
set_option linter.unusedVariables false
set_option linter.unusedSimpArgs false

/-! ### impl_without: function 79 -/
/-- A block's cells, some of them written one by one. -/
def layC : List Value → Nat → Array Value → Array Value
  | [], _, cs => cs
  | v :: r, o, cs => layC r (o + 1) (cs.setIfInBounds o v)
theorem layC_size : ∀ (vs : List Value) (o : Nat) (cs : Array Value), (layC vs o cs).size = cs.size
  | [], _, _ => rfl
  | v :: r, o, cs => by rw [layC, layC_size r, Array.size_setIfInBounds]
theorem layC_get : ∀ (vs : List Value) (o : Nat) (cs : Array Value) (j : Nat), o + vs.length ≤ cs.size → (layC vs o cs)[j]? = if o ≤ j ∧ j < o + vs.length then vs[j - o]? else cs[j]?
  | [], o, cs, j, h => by
    rw [layC, if_neg (by simp)]
  | v :: r, o, cs, j, h => by
    have h' := h
    simp only [List.length_cons] at h'
    rw [layC, layC_get r (o + 1) _ j (by rw [Array.size_setIfInBounds]; omega), Array.getElem?_setIfInBounds]
    by_cases h1 : o + 1 ≤ j ∧ j < o + 1 + r.length
    · rw [if_pos h1, if_pos (by simp only [List.length_cons]; omega), show j - o = (j - (o + 1)) + 1 from by omega, List.getElem?_cons_succ]
    · rw [if_neg h1]
      by_cases h2 : o = j
      · subst h2
        rw [if_pos rfl, if_pos (by omega), if_pos (by simp only [List.length_cons]; omega), Nat.sub_self]
        rfl
      · rw [if_neg h2, if_neg (by simp only [List.length_cons]; omega)]
theorem heap_layC {g : Nat} {t : TypeId} : ∀ (vs : List Value) (o : Nat) {w : World} {cs : Array Value}, w.heap[g]? = some (.cells cs t (0, 0)) → (w.setCells g o vs).heap[g]? = some (.cells (layC vs o cs) t (0, 0))
  | [], _, _, _, h => h
  | v :: r, o, _, _, h => by
    rw [World.setCells, layC]
    exact heap_layC r (o + 1) (blk_set h o v)
theorem below_setCells_ {B : Nat} {a : World} {g : Nat} (hb : B ≤ g) : ∀ (vs : List Value) (o : Nat) {w : World}, Below B a w → Below B a (w.setCells g o vs)
  | [], _, _, h => h
  | v :: r, o, _, h => below_setCells_ hb r (o + 1) (h.setCell hb v)
/-- 'clear' of a slice of rows of several cells. -/
theorem run_clear_rows {P : Program} (w : World) (t e ty : TypeId) (z : Value) (ht : P.underlying t = some (.slice e)) (hv : ∀ w, (zeroValue e).run P w = .ok z w) (b o n c : Nat) (hn : 0 < n) (h1 : ∀ v ∈ (Builtin.zeroCells z.cells n).toList, v.oneCell' = true)
    (hc : ∀ j, j < (Builtin.zeroCells z.cells n).toList.length → (w.cell? ⟨b, o + j, none⟩).isSome = true) (hf : ∀ j, j < (Builtin.zeroCells z.cells n).toList.length → w.frozen? ⟨b, o + j, none⟩ = false) :
    (Builtin.clear_ #[t] ty #[.slice (some ⟨b, o, none⟩) n c]).run P w = .ok (.tuple #[]) (w.setCells b o (Builtin.zeroCells z.cells n).toList) := by
  have hst := run_storeCells_cells (P := P) b o (Builtin.zeroCells z.cells n).toList 0 w (by simpa using hc) (by simpa using hf) h1
  simp only [Nat.add_zero] at hst
  obtain ⟨m, rfl⟩ : ∃ m, n = m + 1 := ⟨n - 1, by omega⟩
  simp only [Builtin.clear_]
  simp [run_underlying ht, hv, hst]
theorem zeros_one (n : Nat) : ∀ v ∈ (Builtin.zeroCells (Value.agg #[.int .i64 0, .int .i64 0, .int .i64 0]).cells n).toList, v.oneCell' = true :=
  Kd.reps_one (Kd.reps_zeros (size := 3) (R := fun (_ : Unit) c => c = [.int .i64 0, .int .i64 0, .int .i64 0]) (z0 := ()) rfl (by decide) rfl n) (by decide) (fun p c hp => by
    rw [hp]
    intro u hu
    simp only [List.mem_cons, List.not_mem_nil, or_false] at hu
    rcases hu with rfl | rfl | rfl <;> rfl)
theorem move_B {w w1 : World} {base : Nat} {ok ok' : Nat → Prop} {x : S37} {cs : List Value} (h : k37.M w base ok x cs) : k37.M w1 base ok' x cs :=
  k37.M_mono (ok := fun _ => False) (fun _ h => h.elim) (k37.M_move (fun _ h => h.elim) (k37.M_mono (fun k h => by
    obtain ⟨_, _, _, q, hq, _⟩ := h
    rw [show k37.E = [] from rfl] at hq
    exact absurd hq (by simp)) (k37.M_bound h)))
set_option maxHeartbeats 4000000 in
set_option maxRecDepth 1000000 in
/-- slices.Delete(s, k, k+1) upon a row of the call's own. -/
theorem DeleteB (k j : Nat) (hj : j = k + 1) (l : List S37) (v : Value) (base : Nat) (w : World) (hv : Kd.R k37 37 w base (fun _ => True) v l) (hk : k < l.length) (hs : base ≤ w.heap.size) :
    Calls Try.prog 107 #[v, .int .i64 k, .int .i64 j] w fun e w' => ∃ v', e = .returned v' ∧ Kd.R k37 37 w' base (fun _ => True) v' (l.take k ++ l.drop j) ∧ Below base w w' := by
  obtain ⟨_, inner, ⟨hil, ho⟩, hr⟩ := hv
  rcases ho with ⟨rfl, h0⟩ | ⟨g, cap, cur, rfl, hg, hh, hnc, hcm, hcs, hcur⟩
  · omega
  have hsz : k37.sz = 3 := rfl
  rw [hsz] at hil hcs hcur hr
  obtain ⟨news, hnews⟩ : ∃ news, news = inner.drop (j * 3) := ⟨_, rfl⟩
  have hlen : news.length = (l.length - j) * 3 := by rw [hnews, List.length_drop, hil]; omega
  have hget : ∀ t, t < l.length * 3 → cur[t]? = inner[t]? := by
    intro t ht
    rw [← hcur, List.getElem?_take_of_lt ht, Array.getElem?_toList]
  have hone : ∀ u ∈ inner, u.oneCell' = true := Kd.reps_one hr (by omega) (fun p c hp => k37.K_one (k37.K_of_M hp))
  have hm : cap ≤ 9223372036854775807 := hcm
  have hle : j ≤ l.length := by omega
  have hne : ¬ (k = j) := by omega
  obtain ⟨i0, hi0, hz⟩ := Option.map_eq_some_iff.1 info37
  simp only [Prod.mk.injEq] at hz
  have hz1 : i0.size = 3 := hz.2.1
  clear hz
  have hbl : ∀ o, (w.drew).heap[g]? = some o ↔ w.heap[g]? = some o := fun o => Iff.rfl
  have hcell : ∀ i, (w.drew).cell? ⟨g, i, none⟩ = cur[i]? := fun i => blk_cell hh i
  obtain ⟨A, hA, hsrc⟩ : ∃ A : Addr, (if cap = j then some (⟨g, 0, none⟩ : Addr) else some ⟨g, j * 3, none⟩) = some A ∧ Hid (∀ t u, news[t]? = some u → w.drew.cell? (A.add t) = some u) := by
    by_cases h : cap = j
    · refine ⟨⟨g, 0, none⟩, by simp [h], fun t u hu => ?_⟩
      have h0 : news.length = 0 := by rw [hlen]; omega
      rw [List.length_eq_zero_iff.1 h0] at hu
      simp at hu
    · refine ⟨⟨g, j * 3, none⟩, by simp [h], fun t u hu => ?_⟩
      have ht : t < news.length := (List.getElem?_eq_some_iff.1 hu).1
      rw [hlen] at ht
      rw [Addr.add_lit, hcell, hget _ (by omega)]
      rw [hnews, List.getElem?_drop] at hu
      exact hu
  have s1 : Hid (news.length = (l.length - j) * 3) := hlen
  have s2 : Hid (∀ u ∈ news, u.oneCell' = true) := by
    intro u hu
    rw [hnews] at hu
    exact hone u (List.mem_of_mem_drop hu)
  have s3 : Hid (∀ t, t < news.length → (w.drew.cell? ⟨g, 0 + k * 3 + t, none⟩).isSome = true ∧ w.drew.frozen? ⟨g, 0 + k * 3 + t, none⟩ = false) := by
    intro t ht
    rw [hlen] at ht
    refine ⟨?_, blk_frozen (w := w) hh _⟩
    rw [hcell, Array.getElem?_eq_getElem (by omega)]
    rfl
  obtain ⟨W1, hW1⟩ : ∃ W1, W1 = w.drew.setCells g (0 + k * 3) news := ⟨_, rfl⟩
  obtain ⟨c1, hc1⟩ : ∃ c1, c1 = layC news (0 + k * 3) cur := ⟨_, rfl⟩
  have hh1 : W1.heap[g]? = some (.cells c1 37 (0, 0)) := by rw [hW1, hc1]; exact heap_layC news (0 + k * 3) (w := w.drew) hh
  have hc1s : c1.size = cap * 3 := by rw [hc1, layC_size, hcs]
  have hW : Hid (W1 = w.drew.setCells g (0 + k * 3) news) := hW1
  have HB1 : Aside0 (Below base w W1) := ⟨by rw [hW1]; exact below_setCells_ hg news _ (below_drew (Below.refl _ _))⟩
  obtain ⟨zs, hzs⟩ : ∃ zs, zs = (Builtin.zeroCells (Value.agg #[.int .i64 0, .int .i64 0, .int .i64 0]).cells (l.length - (k + (l.length - j)))).toList := ⟨_, rfl⟩
  have hz3 : zs.length = (l.length - (k + (l.length - j))) * 3 := by
    rw [hzs]
    simp [Builtin.zeroCells, Value.cells]
  have hcl : ∀ ty, (Builtin.clear_ #[27] ty #[.slice (some ⟨g, (k + (l.length - j)) * 3, none⟩) (l.length - (k + (l.length - j))) (cap - (k + (l.length - j)))]).run Try.prog W1 = .ok (.tuple #[]) (W1.setCells g ((k + (l.length - j)) * 3) zs) := by
    intro ty
    rw [hzs]
    refine run_clear_rows W1 _ _ ty _ Try.underlying27 Try.zeroValue37 g _ _ _ (by omega) ?_ ?_ ?_
    · exact zeros_one _
    · rw [← hzs, hz3]
      intro i hi
      rw [blk_cell hh1, Array.getElem?_eq_getElem (by omega)]
      rfl
    · intro i _
      exact blk_frozen hh1 _
  have HZ := Aside0.mk hz3
  clear hzs hz3
  have HH1 := Aside0.mk hh1
  have HC1 := Aside0.mk hc1
  have HN := Aside0.mk hnews
  have HR := Aside0.mk hr
  have HG := Aside0.mk hget
  have mixed : Try.prog.follows .mixedOrders = true := by kernel_rfl
  have hic : k ≤ cap := by omega
  have hjc : j ≤ cap := by omega
  have HJ := Aside0.mk hj
  have hkj : k ≤ j := by omega
  have hroom : k + (l.length - j) ≤ cap := by omega
  clear hj hr hh hnews hW1 hc1 hh1 hget hone hbl hcell
  go_enter Try.func107, Try.ntmps107
  go_wp2_with fail
  go_region_law_o (refine step_append_room rfl (.tmp 22) (.tmp 25) 27 rfl 37 i0 3 Try.underlying27 hi0 hz1 g 0 k cap (by simp [Act.eval, Act.put]) A (l.length - j) (cap - j) news (by simp [Act.eval, Act.put]) s1.out hsrc.out s2.out hroom s3.out ?_; rw [← hW.out])
  go_wp2
  go_ret
  have hll : (l.take k ++ l.drop j).length = k + (l.length - j) := by rw [List.length_append, List.length_take, List.length_drop, Nat.min_eq_left (by omega)]
  refine ⟨.slice (some ⟨g, 0, none⟩) (k + (l.length - j)) cap, rfl, ⟨fun _ _ => trivial, inner.take (k * 3) ++ inner.drop (j * 3), ⟨?_, .inr ⟨g, cap, layC zs ((k + (l.length - j)) * 3) c1, ?_, hg, heap_layC zs _ HH1.out, ?_, hcm, ?_, ?_⟩⟩, ?_⟩, below_setCells_ hg zs _ HB1.out⟩
  · rw [hll, hsz, List.length_append, List.length_take, List.length_drop, hil]
    omega
  · rw [hll]
  · rw [hll]
    omega
  · rw [layC_size, hc1s, hsz]
  · have hj := HJ.out
    rw [hll, hsz]
    apply List.ext_getElem?
    intro t
    by_cases ht : t < (k + (l.length - j)) * 3
    · rw [List.getElem?_take_of_lt ht, Array.getElem?_toList, layC_get _ _ _ _ (by rw [HZ.out, hc1s]; omega), if_neg (by omega), HC1.out, layC_get _ _ _ _ (by rw [hlen, hcs]; omega)]
      by_cases h1 : t < k * 3
      · rw [if_neg (by omega), HG.out t (by omega), List.getElem?_append_left (by rw [List.length_take, hil]; omega), List.getElem?_take_of_lt h1]
      · rw [if_pos (by rw [hlen]; omega), HN.out, List.getElem?_append_right (by rw [List.length_take, hil]; omega), List.length_take, hil, List.getElem?_drop, List.getElem?_drop]
        congr 1
        omega
    · rw [List.getElem?_take_eq_none (by omega), List.getElem?_eq_none]
      rw [List.length_append, List.length_take, List.length_drop, hil]
      omega
  · exact Kd.reps_append ((Kd.reps_take HR.out (by omega)).imp_ (fun _ _ h => move_B h)) ((Kd.reps_drop HR.out).imp_ (fun _ _ h => move_B h))
theorem ret_v {a b : Value} (h : a = b) : Ending.returned a = .returned b := by rw [h]
def impl_without.f (l0 : List S37) (a1 : Int) : Option (List S37) := if l0.length < 5864062014805 then (if 0 ≤ a1 then (if a1 < (l0.length : Int) then some (l0.take a1.toNat ++ l0.drop (a1.toNat + 1)) else none) else none) else none
set_option maxHeartbeats 2000000 in
theorem impl_without.calls (A0 : Option Addr) (c0 : Nat) (l0 : List S37) (a1 : Int) (r : List S37) (w : World) (hr0 : Kd.C k37 w A0 l0.length l0) (hc0 : l0.length ≤ c0) (h : impl_without.f l0 a1 = some r) :
    Calls Try.prog 79 #[.slice A0 l0.length c0, .int .i64 a1] w fun e w' => ∃ v0_ : Value, e = .returned (v0_) ∧ Kd.R k37 37 w' w.heap.size (fun _ => True) v0_ r ∧ Below w.heap.size w w' := by
  unfold impl_without.f at h
  by_cases c2 : l0.length < 5864062014805
  · rw [if_pos c2] at h
    by_cases c3 : 0 ≤ a1
    · rw [if_pos c3] at h
      by_cases c4 : a1 < (l0.length : Int)
      · rw [if_pos c4] at h
        obtain ⟨k, rfl⟩ : ∃ k : Nat, a1 = (k : Int) := ⟨a1.toNat, by omega⟩
        obtain rfl := Option.some.inj h
        clear h
        have hk : k < l0.length := by omega
        have hm := Kd.C_max hr0
        have HR0 := Aside0.mk hr0
        have HC0 := Aside0.mk hc0
        have hcl := impl_Bridge_71.calls A0 c0 l0 l0 w hr0 hc0 (by unfold impl_Bridge_71.f; rw [if_pos c2])
        clear hr0 hc0
        rw [Int.toNat_natCast]
        go_enter Try.func79, Try.ntmps79
        go_wp2_with (first | (go_at_call 71; refine hcl.mono ?_; rintro e w1 ⟨v1, rfl, hR, hB⟩) | (go_at_call 107; rw [show ((k : Int) + 1) = ((k + 1 : Nat) : Int) from by omega]; refine (DeleteB k (k + 1) rfl l0 v1 w.heap.size w1 hR hk (below_size hB)).mono ?_; rintro e w2 ⟨v2, rfl, hR2, hB2⟩))
        go_ret
        exact ⟨_, rfl, hR2, hB.trans hB2⟩
      · rw [if_neg c4] at h
        cases h
    · rw [if_neg c3] at h
      cases h
  · rw [if_neg c2] at h
    cases h

end Go.Proofs.Ytkikaakfdggklaa.Q
