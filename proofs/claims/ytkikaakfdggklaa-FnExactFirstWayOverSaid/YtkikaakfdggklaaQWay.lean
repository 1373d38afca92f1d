/- The program's search for the best way: the best of all ways on which no island is twice, in their order; no conditions. -/
import Derived.Test.YtkikaakfdggklaaQx56
import Derived.Test.YtkikaakfdggklaaQx50
import Derived.Test.YtkikaakfdggklaaQx55
import Derived.Test.YtkikaakfdggklaaQTolls
set_option linter.unusedVariables false
set_option linter.unusedSimpArgs false
namespace Go.Proofs.Ytkikaakfdggklaa.Q
open Go.RowKit Go.Proofs.YtkikaakfdggklaaW.PrintWords Go.Proofs.YtkikaakfdggklaaW.PrintLast Go.Proofs.YtkikaakfdggklaaW.PrintMore
open Go.Proofs.Ytkikaakfdggklaa.MathWays

/-! #### the least bridge between two islands -/
def hits (x y : Int) (b : BR) : Prop := (b.f0 = x ∧ b.f1 = y) ∨ (b.f0 = y ∧ b.f1 = x)
instance (x y : Int) (b : BR) : Decidable (hits x y b) := by unfold hits; infer_instance
def lbStep (x y : Int) (a : Int) (b : BR) : Int := if hits x y b then (if a < 0 then b.f2 else if b.f2 < a then b.f2 else a) else a
def lb (bs : List BR) (x y : Int) (a : Int) : Int := bs.foldl (lbStep x y) a
theorem leastBridge_l0 (x y : Int) (bs : List BR) (hL : bs.length ≤ 1048576) : ∀ (d k j : Nat) (a : Int), j + d = bs.length → d < k →
    impl_Isles_leastBridge.l0 k x y a bs (bs.length : Int) (j : Int) = some (lb (bs.drop j) x y a) := by
  intro d
  induction d with
  | zero =>
    intro k j a hj hk
    obtain ⟨m, rfl⟩ : ∃ m, k = m + 1 := ⟨k - 1, by omega⟩
    rw [impl_Isles_leastBridge.l0, if_neg (by omega), List.drop_eq_nil_of_le (by omega)]
    rfl
  | succ d ih =>
    intro k j a hj hk
    obtain ⟨m, rfl⟩ : ∃ m, k = m + 1 := ⟨k - 1, by omega⟩
    have hlt : j < bs.length := by omega
    have hi := fun a => ih m (j + 1) a (by omega) (by omega)
    rw [impl_Isles_leastBridge.l0, if_pos (by omega), if_pos (by omega), if_pos (by omega), rdB bs j hlt, w64s hlt (by omega), List.drop_eq_getElem_cons hlt]
    have es : lb (bs[j] :: bs.drop (j + 1)) x y a = lb (bs.drop (j + 1)) x y (lbStep x y a bs[j]) := rfl
    rw [es]
    simp only [hi]
    unfold lbStep hits
    by_cases c1 : bs[j].f0 = x <;> by_cases c2 : bs[j].f1 = y <;> by_cases c3 : bs[j].f0 = y <;> by_cases c4 : bs[j].f1 = x <;> by_cases c5 : a < 0 <;> by_cases c6 : bs[j].f2 < a <;> simp only [c1, c2, c3, c4, c5, c6, if_true, if_false, true_and, false_and, and_false, and_true, or_true, true_or, or_false, false_or, and_self, or_self, ite_self] <;> (try rfl) <;> (try (split <;> rfl)) <;> (try (exfalso; omega)) <;> simp_all
theorem leastBridge_ev (n x y : Int) (bs : List BR) (hL : bs.length ≤ 1048576) (k : Nat) (hk : bs.length < k) : impl_Isles_leastBridge.f k n bs x y = some (lb bs x y (-1)) := by
  unfold impl_Isles_leastBridge.f
  have h := leastBridge_l0 x y bs hL bs.length k 0 (-1) (by omega) hk
  rw [show ((0 : Nat) : Int) = 0 from rfl, List.drop_zero] at h
  exact h
theorem lb_says (x y : Int) : ∀ (bs : List BR) (a : Int), (∀ b ∈ bs, 0 ≤ b.f2) → (lb bs x y a = a ∨ ∃ b ∈ bs, hits x y b ∧ lb bs x y a = b.f2) ∧ (∀ b ∈ bs, hits x y b → 0 ≤ lb bs x y a ∧ lb bs x y a ≤ b.f2) ∧ (0 ≤ a → 0 ≤ lb bs x y a ∧ lb bs x y a ≤ a) := by
  intro bs
  induction bs with
  | nil => intro a _; exact ⟨.inl rfl, fun b hb => absurd hb (by simp), fun h => ⟨h, Int.le_refl _⟩⟩
  | cons b bs ih =>
    intro a h
    have hb := h b List.mem_cons_self
    obtain ⟨h1, h2, h3⟩ := ih (lbStep x y a b) (fun c hc => h c (List.mem_cons_of_mem _ hc))
    have es : lb (b :: bs) x y a = lb bs x y (lbStep x y a b) := rfl
    rw [es]
    have hs : (hits x y b ∧ 0 ≤ lbStep x y a b ∧ lbStep x y a b ≤ b.f2 ∧ (lbStep x y a b = b.f2 ∨ lbStep x y a b = a) ∧ (0 ≤ a → lbStep x y a b ≤ a)) ∨ (¬ hits x y b ∧ lbStep x y a b = a) := by
      unfold lbStep
      by_cases c : hits x y b
      · left
        rw [if_pos c]
        refine ⟨c, ?_⟩
        split
        · exact ⟨hb, Int.le_refl _, .inl rfl, fun _ => by omega⟩
        · split
          · exact ⟨hb, Int.le_refl _, .inl rfl, fun _ => by omega⟩
          · exact ⟨by omega, by omega, .inr rfl, fun _ => Int.le_refl _⟩
      · right
        rw [if_neg c]
        exact ⟨c, rfl⟩
    refine ⟨?_, ?_, ?_⟩
    · rcases h1 with h1 | ⟨c, hc, hh, he⟩
      · rcases hs with ⟨hh, _, _, he | he, _⟩ | ⟨_, he⟩
        · exact .inr ⟨b, List.mem_cons_self, hh, by rw [h1, he]⟩
        · exact .inl (by rw [h1, he])
        · exact .inl (by rw [h1, he])
      · exact .inr ⟨c, List.mem_cons_of_mem _ hc, hh, he⟩
    · intro c hc hh
      rcases List.mem_cons.1 hc with rfl | hc
      · rcases hs with ⟨_, g1, g2, _, _⟩ | ⟨g, _⟩
        · have := h3 g1
          omega
        · exact absurd hh g
      · exact h2 c hc hh
    · intro h0
      rcases hs with ⟨_, g1, _, _, g2⟩ | ⟨_, he⟩
      · have := h3 g1
        have := g2 h0
        omega
      · rw [he] at h3 ⊢
        exact h3 h0
/-- the cost of the least bridge -/
def W (plain : Bool) (bs : List BR) (i j : Nat) : Option Nat := if lb bs (i : Int) (j : Int) (-1) < 0 then none else some (if plain = true then 1 else (lb bs (i : Int) (j : Int) (-1)).toNat)
theorem least_W {N : Nat} {bs : List BR} (hb : ∀ b ∈ bs, fine N b) (plain : Bool) : Least (edges plain bs) (W plain bs) := by
  have h0 : ∀ b ∈ bs, 0 ≤ b.f2 := fun b hm => (hb b hm).2.1
  refine ⟨fun i j c h => ?_, fun i j c h => ?_⟩
  · unfold W at h
    split at h
    · simp at h
    · rename_i hn
      obtain rfl := Option.some.inj h
      obtain ⟨h1, _, _⟩ := lb_says (i : Int) (j : Int) bs (-1) h0
      rcases h1 with h1 | ⟨b, hm, hh, he⟩
      · omega
      · obtain ⟨⟨g0, _, g2, _⟩, g4, _⟩ := hb b hm
        rcases hh with ⟨e1, e2⟩ | ⟨e1, e2⟩
        · refine .inl (List.mem_map.2 ⟨b, hm, ?_⟩)
          unfold tri
          rw [e1, e2, he]
          simp
        · refine .inr (List.mem_map.2 ⟨b, hm, ?_⟩)
          unfold tri
          rw [e1, e2, he]
          simp
  · have key : ∃ b ∈ bs, hits (i : Int) (j : Int) b ∧ (if plain = true then 1 else b.f2.toNat) = c := by
      rcases h with h | h
      · obtain ⟨b, hm, he⟩ := List.mem_map.1 h
        obtain ⟨⟨g0, _, g2, _⟩, _, _⟩ := hb b hm
        unfold tri at he
        simp only [Prod.mk.injEq] at he
        exact ⟨b, hm, .inl ⟨by omega, by omega⟩, he.2.2⟩
      · obtain ⟨b, hm, he⟩ := List.mem_map.1 h
        obtain ⟨⟨g0, _, g2, _⟩, _, _⟩ := hb b hm
        unfold tri at he
        simp only [Prod.mk.injEq] at he
        exact ⟨b, hm, .inr ⟨by omega, by omega⟩, he.2.2⟩
    obtain ⟨b, hm, hh, rfl⟩ := key
    obtain ⟨_, h2, _⟩ := lb_says (i : Int) (j : Int) bs (-1) h0
    have := h2 b hm hh
    refine ⟨_, if_neg (by omega), ?_⟩
    cases plain with
    | true => exact Nat.le_refl _
    | false =>
      rw [if_neg (by simp), if_neg (by simp)]
      omega
theorem lb_small {N : Nat} {bs : List BR} (hb : ∀ b ∈ bs, fine N b) (x y : Int) : lb bs x y (-1) ≤ 1000 := by
  obtain ⟨h1, _, _⟩ := lb_says x y bs (-1) (fun b hm => (hb b hm).2.1)
  rcases h1 with h1 | ⟨b, hm, _, he⟩
  · omega
  · have := (hb b hm).2.2
    omega

/-! #### is an island on a way -/
def cw (way : List Nat) : List Int := way.map fun j : Nat => (j : Int)
theorem cw_length (way : List Nat) : (cw way).length = way.length := by simp [cw]
theorem cw_mem (way : List Nat) (x : Nat) : (x : Int) ∈ cw way ↔ x ∈ way := by
  unfold cw
  rw [List.mem_map]
  constructor
  · rintro ⟨y, hy, e⟩
    obtain rfl : y = x := by omega
    exact hy
  · intro h; exact ⟨x, h, rfl⟩
theorem index_l0 (l : List Int) (hl : l.length ≤ 1048576) (x : Int) : ∀ (d k i : Nat), i + d = l.length → d < k → ∃ r, slices_Index_int_int.l0 k l x (l.length : Int) (i : Int) = some r ∧ (0 ≤ r ↔ x ∈ l.drop i) := by
  intro d
  induction d with
  | zero =>
    intro k i hi hk
    obtain ⟨m, rfl⟩ : ∃ m, k = m + 1 := ⟨k - 1, by omega⟩
    rw [slices_Index_int_int.l0, if_neg (by omega), List.drop_eq_nil_of_le (by omega)]
    exact ⟨_, rfl, by simp⟩
  | succ d ih =>
    intro k i hi hk
    obtain ⟨m, rfl⟩ : ∃ m, k = m + 1 := ⟨k - 1, by omega⟩
    have hlt : i < l.length := by omega
    rw [slices_Index_int_int.l0, if_pos (by omega), if_pos (by omega), if_pos (by omega), rdI l i hlt, w64s hlt (by omega), List.drop_eq_getElem_cons hlt]
    by_cases e : x = l[i]
    · rw [if_pos e]
      exact ⟨_, rfl, ⟨fun _ => by rw [e]; exact List.mem_cons_self, fun _ => by omega⟩⟩
    · rw [if_neg e]
      obtain ⟨r, h1, h2⟩ := ih m (i + 1) (by omega) (by omega)
      refine ⟨r, h1, h2.trans ?_⟩
      rw [List.mem_cons]
      exact ⟨.inr, fun h => h.resolve_left e⟩
theorem contains_ev (way : List Nat) (hl : way.length ≤ 1048576) (x : Nat) (k : Nat) (hk : way.length < k) : slices_Contains_int_int.f k (cw way) (x : Int) = some (decide (x ∈ way)) := by
  unfold slices_Contains_int_int.f slices_Index_int_int.f
  obtain ⟨r, h1, h2⟩ := index_l0 (cw way) (by rw [cw_length]; exact hl) (x : Int) way.length k 0 (by rw [cw_length]; omega) hk
  rw [show ((0 : Nat) : Int) = 0 from rfl] at h1
  rw [h1]
  simp only [Option.bind_some]
  congr 1
  rw [decide_eq_decide, ← cw_mem]
  rw [List.drop_zero] at h2
  exact h2

/-! #### the search -/
def stB : Option (List Nat × Nat) → List Int
  | none => []
  | some x => cw x.1
def stL : Option (List Nat × Nat) → Int
  | none => -1
  | some x => (x.2 : Int)
def next_ (plain : Bool) (N t f : Nat) (bs : List BR) (way : List Nat) (now all next : Nat) : List (List Nat × Nat) := match W plain bs now next with
  | none => []
  | some c => if next ∈ way then [] else exts (W plain bs) N t f (way ++ [next]) next (all + c)
theorem exts_succ (plain : Bool) (N t f : Nat) (bs : List BR) (way : List Nat) (now all : Nat) : exts (W plain bs) N t (f + 1) way now all = if now = t then [(way, all)] else (List.range N).flatMap (next_ plain N t f bs way now all) := rfl
def costOf (plain : Bool) : Int → Int := if plain = true then fun _ => 1 else fun x => x
theorem way1_ev (plain : Bool) (N t : Nat) (hN : N ≤ 7) (bs : List BR) (hb : ∀ b ∈ bs, fine N b) (hL : bs.length ≤ 14) : ∀ (f : Nat) (pre : List Nat) (now all : Nat) (st : Option (List Nat × Nat)), (pre ++ [now]).Nodup → (∀ x, x ∈ pre ++ [now] → x < N) → f + (pre ++ [now]).length = N + 1 → all ≤ 1000 * (pre ++ [now]).length →
    ∃ K, ∀ k, K ≤ k → way1.f k (costOf plain) (N : Int) bs (t : Int) (cw (pre ++ [now])) (all : Int) (stB st) (stL st) = some (stB ((exts (W plain bs) N t f (pre ++ [now]) now all).foldl better st), stL ((exts (W plain bs) N t f (pre ++ [now]) now all).foldl better st)) := by
  intro f
  induction f with
  | zero =>
    intro pre now all st hn hx hf _
    have := nodup_length N _ hn hx
    omega
  | succ f ih =>
    intro pre now all st hn hx hf ha
    have hlen := nodup_length N _ hn hx
    have hnow : now < N := hx now (by simp)
    have hrd : rd (cw (pre ++ [now])) (((cw (pre ++ [now])).length : Int) - 1) = (now : Int) := by
      have e : (((cw (pre ++ [now])).length : Int) - 1) = (pre.length : Int) := by rw [cw_length]; simp
      rw [e, rdI _ pre.length (by rw [cw_length]; simp)]
      simp [cw]
    rw [exts_succ]
    by_cases ht : now = t
    · rw [if_pos ht]
      refine ⟨1, fun k hk => ?_⟩
      obtain ⟨m, rfl⟩ : ∃ m, k = m + 1 := ⟨k - 1, by omega⟩
      rw [way1.f, if_neg (by rw [cw_length]; simp), hrd, if_pos (by rw [ht])]
      simp only [List.foldl_cons, List.foldl_nil]
      rcases st with _ | ⟨p, c⟩
      · simp [stL, stB, better]
      · have hb1 : better (some (p, c)) (pre ++ [now], all) = if all < c then some (pre ++ [now], all) else some (p, c) := rfl
        have hc1 : stL (some (p, c)) = (c : Int) := rfl
        rw [hb1, hc1, if_neg (show ¬ ((c : Int) < 0) by omega)]
        by_cases h : all < c
        · rw [if_pos (by omega), if_pos h]
          rfl
        · rw [if_neg (by omega), if_neg h]
          rfl
    · rw [if_neg ht]
      have loop : ∀ (d i : Nat) (st : Option (List Nat × Nat)), i + d = N → ∃ K, ∀ k, K ≤ k → way1.l0 k (costOf plain) (N : Int) bs (t : Int) (cw (pre ++ [now])) (all : Int) (now : Int) (stB st) (stL st) (i : Int) = some (stB (((List.range' i d).flatMap (next_ plain N t f bs (pre ++ [now]) now all)).foldl better st), stL (((List.range' i d).flatMap (next_ plain N t f bs (pre ++ [now]) now all)).foldl better st)) := by
        intro d
        induction d with
        | zero =>
          intro i st hi
          refine ⟨1, fun k hk => ?_⟩
          obtain ⟨m, rfl⟩ : ∃ m, k = m + 1 := ⟨k - 1, by omega⟩
          rw [way1.l0, if_neg (by omega)]
          rfl
        | succ d ihd =>
          intro i st hi
          have hsplit : ((List.range' i (d + 1)).flatMap (next_ plain N t f bs (pre ++ [now]) now all)).foldl better st = ((List.range' (i + 1) d).flatMap (next_ plain N t f bs (pre ++ [now]) now all)).foldl better ((next_ plain N t f bs (pre ++ [now]) now all i).foldl better st) := by
            rw [List.range'_succ, List.flatMap_cons, List.foldl_append]
          rw [hsplit]
          have hW : W plain bs now i = if lb bs (now : Int) (i : Int) (-1) < 0 then none else some (if plain = true then 1 else (lb bs (now : Int) (i : Int) (-1)).toNat) := rfl
          have hsm := lb_small hb (now : Int) (i : Int)
          by_cases c1 : lb bs (now : Int) (i : Int) (-1) < 0
          · have e : next_ plain N t f bs (pre ++ [now]) now all i = [] := by unfold next_; rw [hW, if_pos c1]
            rw [e, List.foldl_nil]
            obtain ⟨K, h⟩ := ihd (i + 1) st (by omega)
            refine ⟨K + bs.length + 2, fun k hk => ?_⟩
            obtain ⟨m, rfl⟩ : ∃ m, k = m + 1 := ⟨k - 1, by omega⟩
            rw [way1.l0, if_pos (by omega), leastBridge_ev _ _ _ bs (by omega) m (by omega)]
            simp only [Option.bind_some]
            rw [if_neg (by omega), w64 (by omega) (by omega), show (i : Int) + 1 = ((i + 1 : Nat) : Int) from by omega]
            exact h m (by omega)
          · by_cases c2 : i ∈ pre ++ [now]
            · have e : next_ plain N t f bs (pre ++ [now]) now all i = [] := by unfold next_; rw [hW, if_neg c1]; simp only; rw [if_pos c2]
              rw [e, List.foldl_nil]
              obtain ⟨K, h⟩ := ihd (i + 1) st (by omega)
              refine ⟨K + bs.length + N + 2, fun k hk => ?_⟩
              obtain ⟨m, rfl⟩ : ∃ m, k = m + 1 := ⟨k - 1, by omega⟩
              rw [way1.l0, if_pos (by omega), leastBridge_ev _ _ _ bs (by omega) m (by omega)]
              simp only [Option.bind_some]
              rw [if_pos (by omega), contains_ev _ (by omega) i m (by omega)]
              simp only [Option.bind_some]
              rw [if_pos (by simp only [decide_eq_true_eq]; exact c2), w64 (by omega) (by omega), show (i : Int) + 1 = ((i + 1 : Nat) : Int) from by omega]
              exact h m (by omega)
            · obtain ⟨c, hc, hcost, hle⟩ : ∃ c : Nat, W plain bs now i = some c ∧ costOf plain (lb bs (now : Int) (i : Int) (-1)) = (c : Int) ∧ c ≤ 1000 := by
                refine ⟨_, by rw [hW, if_neg c1], ?_, ?_⟩
                · unfold costOf
                  cases plain with
                  | true => rfl
                  | false => rw [if_neg (by simp), if_neg (by simp)]; omega
                · split <;> omega
              have e : next_ plain N t f bs (pre ++ [now]) now all i = exts (W plain bs) N t f ((pre ++ [now]) ++ [i]) i (all + c) := by unfold next_; rw [hc]; simp only; rw [if_neg c2]
              rw [e]
              have hn2 : ((pre ++ [now]) ++ [i]).Nodup := List.nodup_append.2 ⟨hn, by simp, fun a ha b hb2 => by
                obtain rfl : b = i := by simpa using hb2
                exact fun e => c2 (e ▸ ha)⟩
              have hx2 : ∀ x, x ∈ (pre ++ [now]) ++ [i] → x < N := by
                intro x hxm
                rcases List.mem_append.1 hxm with h | h
                · exact hx x h
                · obtain rfl : x = i := by simpa using h
                  omega
              have hl2 : ((pre ++ [now]) ++ [i]).length = (pre ++ [now]).length + 1 := by simp
              obtain ⟨K1, h1⟩ := ih (pre ++ [now]) i (all + c) st hn2 hx2 (by rw [hl2]; omega) (by rw [hl2]; omega)
              obtain ⟨K2, h2⟩ := ihd (i + 1) ((exts (W plain bs) N t f ((pre ++ [now]) ++ [i]) i (all + c)).foldl better st) (by omega)
              refine ⟨K1 + K2 + bs.length + N + 2, fun k hk => ?_⟩
              obtain ⟨m, rfl⟩ : ∃ m, k = m + 1 := ⟨k - 1, by omega⟩
              rw [way1.l0, if_pos (by omega), leastBridge_ev _ _ _ bs (by omega) m (by omega)]
              simp only [Option.bind_some]
              rw [if_pos (by omega), contains_ev _ (by omega) i m (by omega)]
              simp only [Option.bind_some]
              rw [if_neg (by simp only [decide_eq_true_eq]; exact c2), if_pos (by rw [cw_length]; omega), hcost, w64 (by omega) (by omega), w64 (by omega) (by omega)]
              have e2 : cw (pre ++ [now]) ++ [(i : Int)] = cw ((pre ++ [now]) ++ [i]) := by simp [cw]
              rw [e2, show (all : Int) + (c : Int) = ((all + c : Nat) : Int) from by omega, h1 m (by omega)]
              simp only [Option.bind_some]
              rw [show (i : Int) + 1 = ((i + 1 : Nat) : Int) from by omega]
              exact h2 m (by omega)
      obtain ⟨K, h⟩ := loop N 0 st (by omega)
      refine ⟨K + 1, fun k hk => ?_⟩
      obtain ⟨m, rfl⟩ : ∃ m, k = m + 1 := ⟨k - 1, by omega⟩
      rw [way1.f, if_neg (by rw [cw_length]; simp), hrd, if_neg (by omega), List.range_eq_range']
      exact h m (by omega)
/-- The best way that the program finds. -/
def found (plain : Bool) (N : Nat) (bs : List BR) (s t : Nat) : Option (List Nat × Nat) := (exts (W plain bs) N t N [s] s 0).foldl better none
theorem way_ev (plain : Bool) (N : Nat) (hN : N ≤ 7) (bs : List BR) (hb : ∀ b ∈ bs, fine N b) (hL : bs.length ≤ 14) (s t : Nat) (hs : s < N) : ∃ K, ∀ k, K ≤ k → impl_Isles_way.f k (costOf plain) (N : Int) bs (s : Int) (t : Int) = some (stB (found plain N bs s t), stL (found plain N bs s t)) := by
  obtain ⟨K, h⟩ := way1_ev plain N t hN bs hb hL N [] s 0 none (by simp) (fun x hx => by have e : x = s := (by simpa using hx); rw [e]; exact hs) (by simp) (by simp)
  refine ⟨K, fun k hk => ?_⟩
  unfold impl_Isles_way.f found
  exact h k hk
/-- What it costs: what the reference's rounds say. -/
theorem found_says (plain : Bool) (N : Nat) (hN : N ≤ 7) (bs : List BR) (hb : ∀ b ∈ bs, fine N b) (s t : Nat) (hs : s < N) (ht : t < N) :
    (found plain N bs s t = none ∧ dist (edges plain bs) N 1000000 t s = 1000000) ∨ ∃ p, found plain N bs s t = some (p, dist (edges plain bs) N 1000000 t s) ∧ dist (edges plain bs) N 1000000 t s < 1000000 ∧ p.length ≤ N ∧ (exts (W plain bs) N t N [s] s 0).find? (fun x => x.2 == dist (edges plain bs) N 1000000 t s) = some (p, dist (edges plain bs) N 1000000 t s) := by
  rcases best_dist (least_W hb plain) (edges_in hb) (show 1000 * N < 1000000 + 1000 by omega) ht (s := s) N (Nat.le_refl _) with ⟨h1, h2⟩ | ⟨p, h1, h2, h3, _, h5⟩
  · exact .inl ⟨by unfold found; rw [h1]; rfl, h2⟩
  · exact .inr ⟨p, h1, h2, h3, h5⟩
/-- the toll told: -1 for none -/
def toll (plain : Bool) (N : Nat) (bs : List BR) (s t : Nat) : Int := if dist (edges plain bs) N 1000000 t s < 1000000 then ((dist (edges plain bs) N 1000000 t s : Nat) : Int) else -1
theorem stL_found (plain : Bool) (N : Nat) (hN : N ≤ 7) (bs : List BR) (hb : ∀ b ∈ bs, fine N b) (s t : Nat) (hs : s < N) (ht : t < N) : stL (found plain N bs s t) = toll plain N bs s t := by
  unfold toll
  rcases found_says plain N hN bs hb s t hs ht with ⟨h1, h2⟩ | ⟨p, h1, h2, _⟩
  · rw [h1, if_neg (by omega)]
    rfl
  · rw [h1, if_pos h2]
    rfl
theorem byToll_ev (N : Nat) (hN : N ≤ 7) (bs : List BR) (hb : ∀ b ∈ bs, fine N b) (hL : bs.length ≤ 14) (s t : Nat) (hs : s < N) (ht : t < N) : ∃ K, ∀ k, K ≤ k → impl_Isles_byToll.f k (N : Int) bs (s : Int) (t : Int) = some (stB (found false N bs s t), toll false N bs s t) := by
  obtain ⟨K, h⟩ := way_ev false N hN bs hb hL s t hs
  refine ⟨K, fun k hk => ?_⟩
  unfold impl_Isles_byToll.f
  rw [← stL_found false N hN bs hb s t hs ht]
  exact h k hk
theorem plain_ev (N : Nat) (hN : N ≤ 7) (bs : List BR) (hb : ∀ b ∈ bs, fine N b) (hL : bs.length ≤ 14) (s t : Nat) (hs : s < N) (ht : t < N) : ∃ K, ∀ k, K ≤ k → impl_Isles_plain.f k (N : Int) bs (s : Int) (t : Int) = some (stB (found true N bs s t), toll true N bs s t) := by
  obtain ⟨K, h⟩ := way_ev true N hN bs hb hL s t hs
  refine ⟨K, fun k hk => ?_⟩
  unfold impl_Isles_plain.f
  rw [← stL_found true N hN bs hb s t hs ht]
  exact h k hk
end Go.Proofs.Ytkikaakfdggklaa.Q
