/- The plain law of FnExactFirstWayOver: the first way with the least toll; no conditions. -/
import Derived.Test.YtkikaakfdggklaaQx46
import Derived.Test.YtkikaakfdggklaaQx45
import Derived.Test.YtkikaakfdggklaaQx44
import Derived.Test.YtkikaakfdggklaaQx15
import Derived.Test.YtkikaakfdggklaaQx38
import Derived.Test.YtkikaakfdggklaaQBoth
import Derived.Test.YtkikaakfdggklaaQMarks
import Derived.Test.YtkikaakfdggklaaQx57
set_option linter.unusedVariables false
set_option linter.unusedSimpArgs false
namespace Go.Proofs.Ytkikaakfdggklaa.Q
open Go.RowKit Go.Proofs.YtkikaakfdggklaaW.PrintWords Go.Proofs.YtkikaakfdggklaaW.PrintLast Go.Proofs.YtkikaakfdggklaaW.PrintMore
open Go.Proofs.Ytkikaakfdggklaa.MathWays
theorem leastI (a b : Int) : spec_l1Least.f a b = some (min a b) := by
  unfold spec_l1Least.f
  split <;> (congr 1; omega)
theorem own_eq (l : List Int) (hl : l.length ≤ 1048576) : spec_l1Own.f l = some l := by
  unfold spec_l1Own.f
  simp only [Option.bind_some, List.length_nil, List.nil_append]
  rw [if_pos (by omega)]
theorem has_l0 (l : List Int) (hl : l.length ≤ 1048576) (x : Int) : ∀ (d k i : Nat), i + d = l.length → d < k → ∃ r, spec_l1Has.l0 k x l (l.length : Int) (i : Int) = some r ∧ (r = true ↔ x ∈ l.drop i) := by
  intro d
  induction d with
  | zero =>
    intro k i hi hk
    obtain ⟨m, rfl⟩ : ∃ m, k = m + 1 := ⟨k - 1, by omega⟩
    rw [spec_l1Has.l0, if_neg (by omega), List.drop_eq_nil_of_le (by omega)]
    exact ⟨_, rfl, by simp⟩
  | succ d ih =>
    intro k i hi hk
    obtain ⟨m, rfl⟩ : ∃ m, k = m + 1 := ⟨k - 1, by omega⟩
    have hlt : i < l.length := by omega
    rw [spec_l1Has.l0, if_pos (by omega), if_pos (by omega), if_pos (by omega), rdI l i hlt, w64s hlt (by omega), List.drop_eq_getElem_cons hlt]
    by_cases e : l[i] = x
    · rw [if_pos e]
      exact ⟨_, rfl, ⟨fun _ => by rw [e]; exact List.mem_cons_self, fun _ => rfl⟩⟩
    · rw [if_neg e]
      obtain ⟨r, h1, h2⟩ := ih m (i + 1) (by omega) (by omega)
      refine ⟨r, h1, h2.trans ?_⟩
      rw [List.mem_cons]
      exact ⟨.inr, fun h => h.resolve_left (fun q => e q.symm)⟩
theorem has_ev (way : List Nat) (hl : way.length ≤ 1048576) (x : Nat) (k : Nat) (hk : way.length < k) : spec_l1Has.f k (cw way) (x : Int) = some (decide (x ∈ way)) := by
  unfold spec_l1Has.f
  obtain ⟨r, h1, h2⟩ := has_l0 (cw way) (by rw [cw_length]; exact hl) (x : Int) way.length k 0 (by rw [cw_length]; omega) hk
  rw [show ((0 : Nat) : Int) = 0 from rfl] at h1
  rw [h1]
  congr 1
  rw [List.drop_zero, cw_mem] at h2
  rw [Bool.eq_iff_iff, decide_eq_true_eq]
  exact h2
/-- Fine bridges, told from the lesser island to the greater. -/
def rising (b : BR) : Prop := b.f0 < b.f1
theorem hits_iff (x y : Nat) (b : BR) (h : rising b) : hits (x : Int) (y : Int) b ↔ b.f0 = ((min x y : Nat) : Int) ∧ b.f1 = ((max x y : Nat) : Int) := by
  unfold hits rising at *
  omega
def lenc (a : Int) : Int := if a < 0 then 1000000 else a
theorem isWay_l1 (N : Nat) (bs : List BR) (hb : ∀ b ∈ bs, fine N b) (hr : ∀ b ∈ bs, rising b) (hL : bs.length ≤ 1048576) (way : List Int) (t : Int) (r : Int) (now nxt : Nat) : ∀ (d k j : Nat) (a : Int), a ≤ 1000 → j + d = bs.length →
    spec_isWay.l1 (k + (d + 1)) way t r (now : Int) (nxt : Int) (lenc a) bs (bs.length : Int) (j : Int) (N : Int) bs = (if lenc (lb (bs.drop j) (now : Int) (nxt : Int) a) > r then spec_isWay.j2 k way t r (now : Int) (nxt : Int) (lenc (lb (bs.drop j) (now : Int) (nxt : Int) a)) true (N : Int) bs else (spec_l1Has.f k way (nxt : Int)).bind fun b => spec_isWay.j2 k way t r (now : Int) (nxt : Int) (lenc (lb (bs.drop j) (now : Int) (nxt : Int) a)) b (N : Int) bs) := by
  intro d
  induction d with
  | zero =>
    intro k j a ha hj
    rw [spec_isWay.l1]
    rw [if_neg (by omega), List.drop_eq_nil_of_le (by omega)]
    rfl
  | succ d ih =>
    intro k j a ha hj
    have hlt : j < bs.length := by omega
    obtain ⟨_, h4, h5⟩ := hb bs[j] (List.getElem_mem hlt)
    have hri := hr bs[j] (List.getElem_mem hlt)
    have es : lb (bs.drop j) (now : Int) (nxt : Int) a = lb (bs.drop (j + 1)) (now : Int) (nxt : Int) (lbStep (now : Int) (nxt : Int) a bs[j]) := by rw [List.drop_eq_getElem_cons hlt]; rfl
    have hs : lbStep (now : Int) (nxt : Int) a bs[j] ≤ 1000 := by
      unfold lbStep
      split
      · split
        · exact h5
        · split
          · exact h5
          · exact ha
      · exact ha
    have hi := ih k (j + 1) _ hs (by omega)
    rw [es, ← hi]
    rw [show k + (d + 1 + 1) = (k + (d + 1)) + 1 from by omega]
    rw [spec_isWay.l1]
    rw [if_pos (by omega), if_pos (by omega), if_pos (by omega), rdB bs j hlt, w64s hlt (by omega), least_eq]
    simp only [Option.bind_some]
    have hh := hits_iff now nxt bs[j] hri
    by_cases c1 : bs[j].f0 = ((min now nxt : Nat) : Int)
    · rw [if_pos c1, most_eq]
      simp only [Option.bind_some]
      by_cases c2 : bs[j].f1 = ((max now nxt : Nat) : Int)
      · rw [if_pos c2, leastI]
        simp only [Option.bind_some]
        have e : min (lenc a) bs[j].f2 = lenc (lbStep (now : Int) (nxt : Int) a bs[j]) := by
          unfold lbStep lenc
          rw [if_pos (hh.2 ⟨c1, c2⟩)]
          by_cases c3 : a < 0
          · rw [if_pos c3, if_pos c3, if_neg (by omega)]
            omega
          · rw [if_neg c3, if_neg c3]
            by_cases c4 : bs[j].f2 < a
            · rw [if_pos c4, if_neg (by omega)]
              omega
            · rw [if_neg c4, if_neg c3]
              omega
        rw [e]
      · rw [if_neg c2]
        have e : lbStep (now : Int) (nxt : Int) a bs[j] = a := if_neg (fun h => c2 (hh.1 h).2)
        rw [e]
    · rw [if_neg c1]
      have e : lbStep (now : Int) (nxt : Int) a bs[j] = a := if_neg (fun h => c1 (hh.1 h).1)
      rw [e]
theorem find_none {E : List Tri} {Wt : Nat → Nat → Option Nat} (hW : Least E Wt) (N t f : Nat) (way : List Nat) (now all T : Nat) (h : T < all) : (exts Wt N t f way now all).find? (fun x => x.2 == T) = none := by
  rw [List.find?_eq_none]
  intro x hx
  obtain ⟨q, d, rfl, _, _⟩ := exts_sound hW N t f way now all x hx
  simp only [beq_iff_eq]
  omega
theorem isWay_ev (N t : Nat) (hN : N ≤ 7) (bs : List BR) (hb : ∀ b ∈ bs, fine N b) (hri : ∀ b ∈ bs, rising b) (hL : bs.length ≤ 14) : ∀ (f : Nat) (pre : List Nat) (now all r : Nat), (pre ++ [now]).Nodup → (∀ x, x ∈ pre ++ [now] → x < N) → f + (pre ++ [now]).length = N + 1 → r < 1000000 →
    ∃ K, ∀ k, K ≤ k → ∃ p, spec_isWay.f k (N : Int) bs (cw (pre ++ [now])) (t : Int) (r : Int) = some (p, ((exts (W false bs) N t f (pre ++ [now]) now all).find? (fun x => x.2 == all + r)).isSome) ∧ ∀ x, (exts (W false bs) N t f (pre ++ [now]) now all).find? (fun x => x.2 == all + r) = some x → p = cw x.1 := by
  intro f
  induction f with
  | zero =>
    intro pre now all r hn hx hf _
    have := nodup_length N _ hn hx
    omega
  | succ f ih =>
    intro pre now all r hn hx hf hr
    have hlen := nodup_length N _ hn hx
    have hnow : now < N := hx now (by simp)
    have hl1 : (pre ++ [now]).length = pre.length + 1 := by simp
    have e0 : wrap64 (((cw (pre ++ [now])).length : Int) - 1) = (pre.length : Int) := by rw [cw_length, hl1, w64 (by omega) (by omega)]; omega
    have hrd : rd (cw (pre ++ [now])) (pre.length : Int) = (now : Int) := by
      rw [rdI _ pre.length (by rw [cw_length]; simp)]
      simp [cw]
    rw [exts_succ]
    by_cases ht : now = t
    · rw [if_pos ht]
      refine ⟨1, fun k hk => ?_⟩
      obtain ⟨m, rfl⟩ : ∃ m, k = m + 1 := ⟨k - 1, by omega⟩
      rw [spec_isWay.f, e0, if_pos (by omega), cw_length, if_pos (by omega), hrd, if_pos (by rw [ht]), own_eq _ (by rw [cw_length]; omega)]
      simp only [Option.bind_some]
      by_cases h0 : r = 0
      · subst h0
        refine ⟨cw (pre ++ [now]), by simp, fun x hx => ?_⟩
        simp at hx
        rw [← hx]
      · refine ⟨cw (pre ++ [now]), by simp [h0], fun x hx => ?_⟩
        simp [h0] at hx
    · rw [if_neg ht]
      have loop : ∀ (d i : Nat), i + d = N → ∃ K, ∀ k, K ≤ k → ∃ p, spec_isWay.l0 k (cw (pre ++ [now])) (t : Int) (r : Int) (now : Int) (i : Int) (N : Int) bs = some (p, (((List.range' i d).flatMap (next_ false N t f bs (pre ++ [now]) now all)).find? (fun x => x.2 == all + r)).isSome) ∧ ∀ x, ((List.range' i d).flatMap (next_ false N t f bs (pre ++ [now]) now all)).find? (fun x => x.2 == all + r) = some x → p = cw x.1 := by
        intro d
        induction d with
        | zero =>
          intro i hi
          refine ⟨1, fun k hk => ?_⟩
          obtain ⟨m, rfl⟩ : ∃ m, k = m + 1 := ⟨k - 1, by omega⟩
          rw [spec_isWay.l0, if_neg (by omega)]
          exact ⟨_, rfl, fun x hx => by simp at hx⟩
        | succ d ihd =>
          intro i hi
          have hsplit : ((List.range' i (d + 1)).flatMap (next_ false N t f bs (pre ++ [now]) now all)).find? (fun x => x.2 == all + r) = ((next_ false N t f bs (pre ++ [now]) now all i).find? (fun x => x.2 == all + r)).or (((List.range' (i + 1) d).flatMap (next_ false N t f bs (pre ++ [now]) now all)).find? (fun x => x.2 == all + r)) := by
            rw [List.range'_succ, List.flatMap_cons, List.find?_append]
          rw [hsplit]
          obtain ⟨K2, h2⟩ := ihd (i + 1) (by omega)
          have hW : W false bs now i = if lb bs (now : Int) (i : Int) (-1) < 0 then none else some (lb bs (now : Int) (i : Int) (-1)).toNat := rfl
          have hsm := lb_small hb (now : Int) (i : Int)
          -- the bridges between the two islands
          have hl : ∀ k, spec_isWay.l1 (k + (bs.length + 1)) (cw (pre ++ [now])) (t : Int) (r : Int) (now : Int) (i : Int) 1000000 bs (bs.length : Int) 0 (N : Int) bs = (if lenc (lb bs (now : Int) (i : Int) (-1)) > (r : Int) then spec_isWay.j2 k (cw (pre ++ [now])) (t : Int) (r : Int) (now : Int) (i : Int) (lenc (lb bs (now : Int) (i : Int) (-1))) true (N : Int) bs else (spec_l1Has.f k (cw (pre ++ [now])) (i : Int)).bind fun b => spec_isWay.j2 k (cw (pre ++ [now])) (t : Int) (r : Int) (now : Int) (i : Int) (lenc (lb bs (now : Int) (i : Int) (-1))) b (N : Int) bs) := by
            intro k
            have h := isWay_l1 N bs hb hri (by omega) (cw (pre ++ [now])) (t : Int) (r : Int) now i bs.length k 0 (-1) (by omega) (by omega)
            rw [List.drop_zero, show ((0 : Nat) : Int) = 0 from rfl, show lenc (-1) = 1000000 from if_pos (by decide)] at h
            exact h
          have skip : (next_ false N t f bs (pre ++ [now]) now all i).find? (fun x => x.2 == all + r) = none → (∀ k, bs.length + N + 1 < k → spec_isWay.l0 (k + (bs.length + 1) + 1) (cw (pre ++ [now])) (t : Int) (r : Int) (now : Int) (i : Int) (N : Int) bs = spec_isWay.j2 k (cw (pre ++ [now])) (t : Int) (r : Int) (now : Int) (i : Int) (lenc (lb bs (now : Int) (i : Int) (-1))) true (N : Int) bs) → ∃ K, ∀ k, K ≤ k → ∃ p, spec_isWay.l0 k (cw (pre ++ [now])) (t : Int) (r : Int) (now : Int) (i : Int) (N : Int) bs = some (p, (((next_ false N t f bs (pre ++ [now]) now all i).find? (fun x => x.2 == all + r)).or (((List.range' (i + 1) d).flatMap (next_ false N t f bs (pre ++ [now]) now all)).find? (fun x => x.2 == all + r))).isSome) ∧ ∀ x, ((next_ false N t f bs (pre ++ [now]) now all i).find? (fun x => x.2 == all + r)).or (((List.range' (i + 1) d).flatMap (next_ false N t f bs (pre ++ [now]) now all)).find? (fun x => x.2 == all + r)) = some x → p = cw x.1 := by
            intro hnone hgo
            rw [hnone, Option.none_or]
            refine ⟨K2 + bs.length + N + bs.length + 6, fun k hk => ?_⟩
            obtain ⟨m, rfl⟩ : ∃ m, k = (m + 1) + (bs.length + 1) + 1 := ⟨k - bs.length - 3, by omega⟩
            rw [hgo (m + 1) (by omega), spec_isWay.j2, if_pos rfl, w64 (by omega) (by omega), show (i : Int) + 1 = ((i + 1 : Nat) : Int) from by omega]
            exact h2 m (by omega)
          by_cases c1 : lb bs (now : Int) (i : Int) (-1) < 0
          · refine skip (by unfold next_; rw [hW, if_pos c1]; rfl) (fun k hk => ?_)
            rw [spec_isWay.l0, if_pos (by omega)]
            refine (hl k).trans ?_
            rw [if_pos (by unfold lenc; rw [if_pos c1]; omega)]
          · obtain ⟨c, hc⟩ : ∃ c : Nat, lb bs (now : Int) (i : Int) (-1) = (c : Int) := ⟨(lb bs (now : Int) (i : Int) (-1)).toNat, by omega⟩
            have hWc : W false bs now i = some c := by rw [hW, if_neg c1, hc]; rfl
            have hlen2 : lenc (lb bs (now : Int) (i : Int) (-1)) = (c : Int) := by unfold lenc; rw [if_neg c1, hc]
            by_cases c2 : r < c
            · refine skip ?_ (fun k hk => ?_)
              · unfold next_
                rw [hWc]
                simp only
                split
                · rfl
                · exact find_none (least_W hb false) N t f _ _ _ _ (by omega)
              · rw [spec_isWay.l0, if_pos (by omega)]
                refine (hl k).trans ?_
                rw [if_pos (by rw [hlen2]; omega)]
            · by_cases c3 : i ∈ pre ++ [now]
              · refine skip (by unfold next_; rw [hWc]; simp only; rw [if_pos c3]; rfl) (fun k hk => ?_)
                rw [spec_isWay.l0, if_pos (by omega)]
                refine (hl k).trans ?_
                rw [if_neg (by rw [hlen2]; omega), has_ev _ (by omega) i k (by omega)]
                simp only [Option.bind_some]
                rw [show decide (i ∈ pre ++ [now]) = true from decide_eq_true c3]
              · have hn2 : ((pre ++ [now]) ++ [i]).Nodup := List.nodup_append.2 ⟨hn, by simp, fun a ha b hb2 => by
                  obtain rfl : b = i := by simpa using hb2
                  exact fun e => c3 (e ▸ ha)⟩
                have hx2 : ∀ x, x ∈ (pre ++ [now]) ++ [i] → x < N := by
                  intro x hxm
                  rcases List.mem_append.1 hxm with h | h
                  · exact hx x h
                  · obtain rfl : x = i := by simpa using h
                    omega
                have hl2 : ((pre ++ [now]) ++ [i]).length = (pre ++ [now]).length + 1 := by simp
                obtain ⟨K1, h1⟩ := ih (pre ++ [now]) i (all + c) (r - c) hn2 hx2 (by rw [hl2]; omega) (by omega)
                have e : next_ false N t f bs (pre ++ [now]) now all i = exts (W false bs) N t f ((pre ++ [now]) ++ [i]) i (all + c) := by unfold next_; rw [hWc]; simp only; rw [if_neg c3]
                rw [e]
                rw [show all + c + (r - c) = all + r from by omega] at h1
                refine ⟨K1 + K2 + bs.length + N + bs.length + 6, fun k hk => ?_⟩
                obtain ⟨m, rfl⟩ : ∃ m, k = (m + 1) + (bs.length + 1) + 1 := ⟨k - bs.length - 3, by omega⟩
                rw [spec_isWay.l0, if_pos (by omega)]
                rw [hl (m + 1)]
                rw [if_neg (by rw [hlen2]; omega), has_ev _ (by omega) i (m + 1) (by omega)]
                simp only [Option.bind_some]
                rw [show decide (i ∈ pre ++ [now]) = false from decide_eq_false c3, spec_isWay.j2, if_neg (by simp), own_eq _ (by rw [cw_length]; omega)]
                simp only [Option.bind_some]
                rw [if_pos (by rw [cw_length]; simp; omega), hlen2, w64 (x := (r : Int) - (c : Int)) (by omega) (by omega), show (r : Int) - (c : Int) = ((r - c : Nat) : Int) from by omega]
                have e2 : cw (pre ++ [now]) ++ [(i : Int)] = cw ((pre ++ [now]) ++ [i]) := by simp [cw]
                rw [e2]
                obtain ⟨p, hp, hpx⟩ := h1 m (by omega)
                rw [hp]
                simp only [Option.bind_some]
                cases hfi : (exts (W false bs) N t f ((pre ++ [now]) ++ [i]) i (all + c)).find? (fun x => x.2 == all + r) with
                | none =>
                  rw [Option.none_or, Option.isSome_none, if_neg (by simp), w64 (by omega) (by omega), show (i : Int) + 1 = ((i + 1 : Nat) : Int) from by omega]
                  exact h2 m (by omega)
                | some x =>
                  rw [Option.some_or, Option.isSome_some, if_pos rfl]
                  exact ⟨_, rfl, fun y hy => hpx y (hfi.trans hy)⟩
      obtain ⟨K, h⟩ := loop N 0 (by omega)
      refine ⟨K + 1, fun k hk => ?_⟩
      obtain ⟨m, rfl⟩ : ∃ m, k = m + 1 := ⟨k - 1, by omega⟩
      rw [spec_isWay.f, e0, if_pos (by omega), cw_length, if_pos (by omega), hrd, if_neg (by omega), List.range_eq_range']
      exact h m (by omega)
def wayTold (n : Int) (l : List BR) (a b : Int) : List Int := if both n l a b = true then stB (found false n.toNat l a.toNat b.toNat) else []
theorem FnExactFirstWayOver_len (n : Int) (l : List BR) (a b : Int) : (wayTold n l a b).length ≤ 1000 := by
  unfold wayTold
  by_cases hg : both n l a b = true
  · have hp : pair n l a b = true := by unfold both at hg; simp only [Bool.and_eq_true] at hg; exact hg.1
    obtain ⟨N, A, B, rfl, rfl, rfl, hN7, hL, hbs, hA, hB⟩ := pair_fine hp
    rw [if_pos hg]
    simp only [Int.toNat_natCast]
    rcases found_says false N hN7 l hbs A B hA hB with ⟨h1, _⟩ | ⟨p, h1, _, h3, _⟩
    · rw [h1]; simp [stB]
    · rw [h1]
      unfold stB
      rw [cw_length]
      dsimp only
      omega
  · rw [if_neg hg]
    simp
theorem spec_FirstWayOver_ev (n : Int) (l : List BR) (a b : Int) : ∃ K, ∀ k, K ≤ k → spec_FirstWayOver.f k n l a b = some (wayTold n l a b, both n l a b) := by
  obtain ⟨K1, h1⟩ := isBoth_ev n l a b
  by_cases hg : both n l a b = true
  · have hp : pair n l a b = true := by unfold both at hg; simp only [Bool.and_eq_true] at hg; exact hg.1
    have hri : ∀ b ∈ l, rising b := by
      unfold pair asked at hp
      simp only [Bool.and_eq_true] at hp
      intro b hb
      exact (okB_says ((good_says hp.1.1).2.2.2 b hb)).2.2.2.2.1
    have hg2 := hg
    obtain ⟨N, A, B, rfl, rfl, rfl, hN7, hL, hbs, hA, hB⟩ := pair_fine hp
    obtain ⟨K2, h2⟩ := isTolls_ev N (by omega) B hB false l hbs (by omega)
    unfold both at hg2
    rw [hp] at hg2
    simp only [Int.toNat_natCast, Bool.true_and, decide_eq_true_eq] at hg2
    have hlt := reach_same hN7 hbs hB true false hg2
    rcases found_says false N hN7 l hbs A B hA hB with ⟨_, h4⟩ | ⟨p, h3, _, _, h5⟩
    · omega
    · obtain ⟨K3, h6⟩ := isWay_ev N B hN7 l hbs hri hL N [] A 0 (dist (edges false l) N 1000000 B A) (by simp) (fun x hx => by have e : x = A := (by simpa using hx); rw [e]; exact hA) (by simp) hlt
      refine ⟨K1 + K2 + K3, fun k hk => ?_⟩
      unfold spec_FirstWayOver.f wayTold
      rw [h1 _ (by omega)]
      simp only [Option.bind_some]
      rw [if_pos hg, h2 _ (by omega)]
      simp only [Option.bind_some]
      rw [if_pos (by omega), labels_length, if_pos (by omega), labels_rd N _ A hA]
      obtain ⟨q, h7, h8⟩ := h6 k (by omega)
      rw [Nat.zero_add] at h7 h8
      rw [List.nil_append] at h7 h8
      have h9 := h8 _ h5
      rw [h5] at h7
      rw [show ([(A : Int)] : List Int) = cw [A] from rfl, h7]
      simp only [Option.bind_some]
      rw [if_pos hg, hg, h9, Int.toNat_natCast, Int.toNat_natCast, Int.toNat_natCast, h3]
      rfl
  · refine ⟨K1, fun k hk => ?_⟩
    unfold spec_FirstWayOver.f wayTold
    rw [h1 _ (by omega)]
    simp only [Option.bind_some]
    rw [if_neg hg, if_neg hg, Bool.eq_false_iff.2 hg]
theorem impl_FirstWayOver_ev (n : Int) (l : List BR) (hw : ∀ b ∈ l, wfBR b) (a b : Int) : ∃ K, ∀ k, K ≤ k → impl_FirstWayOver.f k n l a b = some (wayTold n l a b, both n l a b) := by
  by_cases hp : pair n l a b = true
  · obtain ⟨t1, t2⟩ := toll_told false hp
    have hp2 := hp
    obtain ⟨N, A, B, rfl, rfl, rfl, hN7, hL, hbs, hA, hB⟩ := pair_fine hp
    obtain ⟨K2, h2⟩ := byToll_ev N hN7 l hbs hL A B hA hB
    rw [Int.toNat_natCast, Int.toNat_natCast, Int.toNat_natCast] at t1 t2
    refine ⟨K2, fun k hk => ?_⟩
    unfold impl_FirstWayOver.f wayTold
    rw [areIslands_pair _ _ hw]
    simp only [Option.bind_some]
    rw [if_pos hp2, h2 _ (by omega)]
    simp only [Option.bind_some]
    rw [t2]
    by_cases hg : both (N : Int) l (A : Int) (B : Int) = true
    · rw [if_pos hg, Int.toNat_natCast, Int.toNat_natCast, Int.toNat_natCast]
    · rw [if_neg hg]
      have hg3 := Bool.eq_false_iff.2 hg
      rw [← t2, decide_eq_false_iff_not] at hg3
      rcases found_says false N hN7 l hbs A B hA hB with ⟨h3, h4⟩ | ⟨p, h3, h4, _, h5⟩
      · rw [h3]
        rfl
      · exfalso
        apply hg3
        unfold toll
        rw [if_pos h4]
        omega
  · refine ⟨0, fun k hk => ?_⟩
    have hb : both n l a b = false := by unfold both; rw [Bool.eq_false_iff.2 hp]; rfl
    unfold impl_FirstWayOver.f wayTold
    rw [areIslands_pair _ _ hw]
    simp only [Option.bind_some]
    rw [if_neg hp, hb]
    rfl
theorem FnExactFirstWayOver_pure (n : Int) (l : List LB) (a : Int) (b : Int) (w : (Lit.int .i64 n).wf = true) (hm : l.length ≤ 9223372036854775807) (hw : ∀ b ∈ l, WfB b) (wa : (Lit.int .i64 a).wf = true) (wb : (Lit.int .i64 b).wf = true) : ∃ k, laws_FnExactFirstWayOver.f k n l a b = some true := by
  by_cases hl : l.length ≤ 1048576
  · obtain ⟨K1, h1⟩ := toIsles_ev n l hl
    obtain ⟨K2, h2⟩ := spec_FirstWayOver_ev n (l.map cv) a b
    obtain ⟨K3, h3⟩ := impl_FirstWayOver_ev n (l.map cv) (wf_cv l hw) a b
    obtain ⟨K4, h4⟩ := eqIsles_ev n (l.map cv) (by rw [List.length_map]; omega)
    have hlen := FnExactFirstWayOver_len n (l.map cv) a b
    obtain ⟨K5, h5⟩ := eqIntS_ev (wayTold n (l.map cv) a b) (by omega)
    obtain ⟨K7, h7⟩ := markIntS_ev (wayTold n (l.map cv) a b) (by omega)
    obtain ⟨K6, h6⟩ := markIsles_ev n (l.map cv) (by rw [List.length_map]; omega)
    refine ⟨K1 + K2 + K3 + K4 + K5 + K6 + K7 + 1 + 1 + 1, ?_⟩
    unfold laws_FnExactFirstWayOver.f
    rw [szIsles_eq n l hm, if_pos hl, h1 _ (by omega)]
    simp only [Option.bind_some]
    rw [if_neg (by omega), h2 _ (by omega)]
    simp only [Option.bind_some]
    rw [h3 _ (by omega)]
    simp only [Option.bind_some]
    rw [h5 _ (by omega)]
    simp only [Option.bind_some]
    rw [if_pos trivial, laws_FnExactFirstWayOver.j0, if_neg (by simp), h1 _ (by omega)]
    simp only [Option.bind_some]
    rw [h4 _ (by omega)]
    simp only [Option.bind_some]
    rw [if_pos trivial, (h6 _ (by omega)).1]
    simp only [Option.bind_some]
    rw [if_neg (by omega), h5 _ (by omega)]
    simp only [Option.bind_some]
    rw [if_pos trivial, laws_FnExactFirstWayOver.j1, if_neg (by simp), (h7 _ (by omega)).1]
    simp only [Option.bind_some]
    rw [(h7 _ (by omega)).2]
    simp only [Option.bind_some]
    rw [if_neg (by omega), if_pos trivial, h1 _ (by omega)]
    simp only [Option.bind_some]
    rw [h3 _ (by omega)]
    simp only [Option.bind_some]
    rw [h5 _ (by omega)]
    simp only [Option.bind_some]
    rw [if_pos trivial, laws_FnExactFirstWayOver.j2, if_neg (by simp), (h7 _ (by omega)).2]
    simp only [Option.bind_some]
    rw [if_neg (by omega), if_pos trivial]
  · refine ⟨0, ?_⟩
    unfold laws_FnExactFirstWayOver.f
    rw [szIsles_eq n l hm, if_neg hl]
    simp
end Go.Proofs.Ytkikaakfdggklaa.Q
