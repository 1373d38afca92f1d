/- The plain law of FnExactLeastWood; no conditions. -/
import Derived.Test.YtdaiihafoajmcaaPx14
import Derived.Test.YtdaiihafoajmcaaPWood
import Derived.Test.YtdaiihafoajmcaaPx5
set_option linter.unusedVariables false
set_option linter.unusedSimpArgs false
namespace Go.Proofs.Ytdaiihafoajmcaa.P
open Go.RowKit Go.Proofs.YtdaiihafoajmcaaW.PrintWords Go.Proofs.YtdaiihafoajmcaaW.PrintLast Go.Proofs.YtdaiihafoajmcaaW.PrintMore
theorem rd_mem (c : List Int) (j : Nat) (h : j < c.length) : rd c (j : Int) ∈ c := by
  rw [rd_get c j h]
  exact List.getElem_mem h
theorem wood_in (p : List Int) (all : List (List Int)) (n x24 x8 : Int) (c : List Int) (hc : ∀ x ∈ c, 0 ≤ x ∧ x < (p.length : Int)) (hl : c.length ≤ 100) : ∀ (d j : Nat) (a : Int) (k : Nat), d = c.length - j → j ≤ c.length → spec_LeastWood.l1 (k + d + 1) p x8 a all n x24 c (c.length : Int) (j : Int) = (if x8 < 0 then spec_LeastWood.l0 k p (woodOf p a (c.drop j)) all n (wrap64 (x24 + 1)) else if woodOf p a (c.drop j) < x8 then spec_LeastWood.l0 k p (woodOf p a (c.drop j)) all n (wrap64 (x24 + 1)) else spec_LeastWood.l0 k p x8 all n (wrap64 (x24 + 1))) := by
  intro d
  induction d with
  | zero =>
    intro j a k hd hj
    rw [Nat.add_zero, spec_LeastWood.l1, if_neg (by omega), List.drop_of_length_le (by omega)]
    rfl
  | succ d ih =>
    intro j a k hd hj
    have hx := hc (rd c (j : Int)) (rd_mem c j (by omega))
    have wj : wrap64 ((j : Int) + 1) = ((j + 1 : Nat) : Int) := by unfold wrap64; omega
    rw [show k + (d + 1) + 1 = (k + d + 1) + 1 from by omega, spec_LeastWood.l1, if_pos (by omega), if_pos (by omega), if_pos (by omega), if_pos hx.1, if_pos hx.2, wj, ih (j + 1) _ k (by omega) (by omega), rd_cons_drop c j (by omega)]
    rfl
def woodStep (p : List Int) (s : Int) (c : List Int) : Int := if s < 0 then woodOf p 0 c else if woodOf p 0 c < s then woodOf p 0 c else s
def woodRes (s : Int) : Int × Bool := if s < 0 then (0, false) else (s, true)
theorem L1_cons_drop (l : List (List Int)) (i : Nat) (h : i < l.length) : l.drop i = rd_L1 l (i : Int) :: l.drop (i + 1) := by
  rw [List.drop_eq_getElem_cons h]
  congr 1
  simp [rd_L1, List.getD_eq_getElem?_getD, List.getElem?_eq_getElem h]
theorem wood_out (p : List Int) (all : List (List Int)) (hall : ∀ c ∈ all, (∀ x ∈ c, 0 ≤ x ∧ x < (p.length : Int)) ∧ c.length ≤ 100) (hn : all.length ≤ 1000000) : ∀ (d i : Nat) (x8 : Int) (k : Nat), d = all.length - i → i ≤ all.length → 200 * d < k → spec_LeastWood.l0 k p x8 all (all.length : Int) (i : Int) = some (woodRes ((all.drop i).foldl (woodStep p) x8)) := by
  intro d
  induction d with
  | zero =>
    intro i x8 k hd hi hk
    obtain ⟨k, rfl⟩ : ∃ k', k = k' + 1 := ⟨k - 1, by omega⟩
    simp only [spec_LeastWood.l0]
    rw [if_neg (by omega), List.drop_of_length_le (by omega), List.foldl_nil]
    unfold woodRes
    by_cases c : x8 < 0
    · rw [if_pos c, if_pos c]
    · rw [if_neg c, if_neg c]
  | succ d ih =>
    intro i x8 k hd hi hk
    obtain ⟨k, rfl⟩ : ∃ k', k = k' + 1 := ⟨k - 1, by omega⟩
    have hdr := L1_cons_drop all i (by omega)
    have hm : rd_L1 all (i : Int) ∈ all := List.mem_of_mem_drop (by rw [hdr]; exact List.mem_cons_self)
    obtain ⟨hc1, hc2⟩ := hall _ hm
    have wi : wrap64 ((i : Int) + 1) = ((i + 1 : Nat) : Int) := by unfold wrap64; omega
    rw [hdr, List.foldl_cons]
    simp only [spec_LeastWood.l0]
    rw [if_pos (by omega), if_pos (by omega), if_pos (by omega)]
    generalize rd_L1 all (i : Int) = c at *
    obtain ⟨k2, rfl⟩ : ∃ k2, k = k2 + c.length + 1 := ⟨k - c.length - 1, by omega⟩
    have h1 : spec_LeastWood.l1 (k2 + c.length + 1) p x8 0 all (all.length : Int) (i : Int) c (c.length : Int) 0 = _ := wood_in p all (all.length : Int) (i : Int) x8 c hc1 hc2 c.length 0 0 k2 (by omega) (by omega)
    rw [h1, List.drop_zero, wi, ih (i + 1) _ k2 (by omega) (by omega) (by omega), ih (i + 1) _ k2 (by omega) (by omega) (by omega)]
    unfold woodStep
    by_cases a1 : x8 < 0
    · rw [if_pos a1, if_pos a1]
    · rw [if_neg a1, if_neg a1]
      by_cases a2 : woodOf p 0 c < x8
      · rw [if_pos a2, if_pos a2]
      · rw [if_neg a2, if_neg a2]
theorem wood_same (p : List Int) : ∀ (L : List (List Int)) (s : Int), 0 ≤ s → (∀ c ∈ L, 0 ≤ woodOf p 0 c) → L.foldl (woodStep p) s = L.foldl (fun s c => if s ≤ woodOf p 0 c then s else woodOf p 0 c) s ∧ 0 ≤ L.foldl (woodStep p) s
  | [], s, h, _ => ⟨rfl, h⟩
  | c :: L, s, h, hL => by
    have hc := hL c List.mem_cons_self
    have e : woodStep p s c = if s ≤ woodOf p 0 c then s else woodOf p 0 c := by
      unfold woodStep
      rw [if_neg (by omega)]
      by_cases a : woodOf p 0 c < s
      · rw [if_pos a, if_neg (by omega)]
      · rw [if_neg a, if_pos (by omega)]
    have e2 : 0 ≤ woodStep p s c := by
      rw [e]
      split <;> omega
    rw [List.foldl_cons, List.foldl_cons, ← e]
    exact wood_same p L _ e2 (fun c' h' => hL c' (List.mem_cons_of_mem _ h'))
theorem wood_of (p : List Int) (hp : ∀ n ∈ p, good1 n = true) : ∀ (c : List Int) (a : Int), 0 ≤ a → a + 100 * (c.length : Int) ≤ 700 → (∀ x ∈ c, 0 ≤ x ∧ x < (p.length : Int)) → 0 ≤ woodOf p a c ∧ woodOf p a c ≤ 700
  | [], a, h1, h2, _ => by
    simp only [woodOf, List.foldl_nil]
    simp at h2
    omega
  | x :: c, a, h1, h2, h3 => by
    obtain ⟨x1, x2⟩ := h3 x List.mem_cons_self
    obtain ⟨j, rfl⟩ : ∃ j : Nat, x = (j : Int) := ⟨x.toNat, by omega⟩
    have hg := hp _ (rd_mem p j (by omega))
    simp only [good1, decide_eq_true_eq] at hg
    rw [List.length_cons] at h2
    have hw : wrap64 (a + rd p (j : Int)) = a + rd p (j : Int) := w64 (by omega) (by omega)
    have := wood_of p hp c (a + rd p (j : Int)) (by omega) (by omega) (fun y hy => h3 y (List.mem_cons_of_mem _ hy))
    simp only [woodOf, List.foldl_cons] at this ⊢
    rw [hw]
    exact this
theorem FnExactLeastWood_both (l0 l1 : List Int) (a2 : Int) (h0 : l0.length ≤ 1048576) (h1 : l1.length ≤ 1048576) : ∃ (v : Int × Bool) (B : Nat), (∀ k, B ≤ k → spec_LeastWood.f k l0 l1 a2 = some v) ∧ ∀ k, B ≤ k → impl_LeastWood.f k l0 l1 a2 = some v := by
  by_cases g : asked l0 l1 a2 = true
  · obtain ⟨u1, u2, _⟩ := asked_use g
    obtain ⟨g1, g2, g3⟩ := goodP_use u1
    obtain ⟨p1, p2, p3⟩ := goodP_use u2
    have hb := covs_bound l0 l1 a2 g2 p2
    have hall : ∀ c ∈ covs l0 l1 a2 l0.length [], (∀ x ∈ c, 0 ≤ x ∧ x < (l1.length : Int)) ∧ c.length ≤ 7 := fun c hc => by
      obtain ⟨i1, i2⟩ := covs_shape l0 l1 a2 l0.length [] c hc
      exact ⟨i2 (fun x hx => by simp at hx), by rw [i1]; simp; omega⟩
    have hs : ∀ k, 300000000 ≤ k → spec_LeastWood.f k l0 l1 a2 = some (woodRes ((covs l0 l1 a2 l0.length []).foldl (woodStep l1) (-1))) := fun k hk => by
      unfold spec_LeastWood.f
      rw [plAsked_eq l0 l1 a2 (by omega) (by omega) k (by omega), Option.bind_some, if_pos g, plAll_eq l0 l1 a2 g2 p2, Option.bind_some]
      have := wood_out l1 (covs l0 l1 a2 l0.length []) (fun c hc => ⟨(hall c hc).1, by have := (hall c hc).2; omega⟩) hb (covs l0 l1 a2 l0.length []).length 0 (-1) k (by omega) (by omega) (by omega)
      rw [List.drop_zero] at this
      exact this
    by_cases e : ∃ c, c ∈ covs l0 l1 a2 l0.length []
    · have hi : ∀ k, 300000000 ≤ k → impl_LeastWood.f k l0 l1 a2 = some ((covs l0 l1 a2 l0.length []).foldl (fun s p => if s ≤ woodOf l1 0 p then s else woodOf l1 0 p) 700, true) := fun k hk => by
        unfold impl_LeastWood.f
        rw [can_yes l0 l1 a2 g e k (by omega), Option.bind_some, if_pos rfl, if_pos ⟨by omega, by omega⟩]
      have hw : ∀ c ∈ covs l0 l1 a2 l0.length [], 0 ≤ woodOf l1 0 c ∧ woodOf l1 0 c ≤ 700 := fun c hc => by
        obtain ⟨j1, j2⟩ := hall c hc
        exact wood_of l1 p3 c 0 (by omega) (by omega) j1
      refine ⟨_, 300000000, hs, fun k hk => ?_⟩
      rw [hi k hk]
      generalize covs l0 l1 a2 l0.length [] = L at *
      cases L with
      | nil => obtain ⟨c, hc⟩ := e; simp at hc
      | cons c L =>
        have w1 := hw c List.mem_cons_self
        have e1 : woodStep l1 (-1) c = woodOf l1 0 c := by
          unfold woodStep
          rw [if_pos (by omega)]
        have e2 : (if (700 : Int) ≤ woodOf l1 0 c then 700 else woodOf l1 0 c) = woodOf l1 0 c := by
          split <;> omega
        obtain ⟨s1, s2⟩ := wood_same l1 L (woodOf l1 0 c) w1.1 (fun c' h' => (hw c' (List.mem_cons_of_mem _ h')).1)
        rw [List.foldl_cons, List.foldl_cons, e1, e2, ← s1]
        unfold woodRes
        rw [if_neg (by omega)]
    · have hi : ∀ k, 300000000 ≤ k → impl_LeastWood.f k l0 l1 a2 = some (0, false) := fun k hk => by
        unfold impl_LeastWood.f
        rw [can_not l0 l1 a2 g e k (by omega), Option.bind_some, if_neg (by decide)]
      have hn : covs l0 l1 a2 l0.length [] = [] := by
        cases hL : covs l0 l1 a2 l0.length [] with
        | nil => rfl
        | cons c L => exact absurd ⟨c, by rw [hL]; exact List.mem_cons_self⟩ e
      refine ⟨(0, false), 300000000, fun k hk => ?_, hi⟩
      rw [hs k hk, hn]
      rfl
  · refine ⟨(0, false), 100, fun k hk => ?_, fun k hk => ?_⟩
    · unfold spec_LeastWood.f
      rw [plAsked_eq l0 l1 a2 (by omega) (by omega) k (by omega), Option.bind_some, if_neg g]
    · unfold impl_LeastWood.f
      rw [can_no l0 l1 a2 (Bool.eq_false_iff.2 g) k, Option.bind_some, if_neg (by decide)]
theorem FnExactLeastWood_pure (l0 l1 : List Int) (a2 : Int) (hm0 : l0.length ≤ 9223372036854775807) (y0 : l0.length * 8 ≤ 140737488351232) (hw0 : ∀ n ∈ l0, (Lit.int .i64 n).wf = true) (hm1 : l1.length ≤ 9223372036854775807) (y1 : l1.length * 8 ≤ 140737488351232) (hw1 : ∀ n ∈ l1, (Lit.int .i64 n).wf = true) (w2 : (Lit.int .i64 a2).wf = true) : ∃ k, laws_FnExactLeastWood.f k l0 l1 a2 = some true := by
  by_cases h' : (l0.length : Int) > 1048576
  · refine ⟨1, ?_⟩
    unfold laws_FnExactLeastWood.f
    rw [if_pos h']
  · by_cases h'' : (l1.length : Int) > 1048576
    · refine ⟨1, ?_⟩
      unfold laws_FnExactLeastWood.f
      rw [if_neg h', if_pos h'']
    · obtain ⟨v, B, hs, hi⟩ := FnExactLeastWood_both l0 l1 a2 (by omega) (by omega)
      obtain ⟨m, hmm⟩ : ∃ m, m = l0.length + l1.length + B + 200 := ⟨_, rfl⟩
      refine ⟨m + 1, ?_⟩
      unfold laws_FnExactLeastWood.f
      rw [if_neg h', if_neg h'', toIntS_eq l0 (by omega) _ (by omega), Option.bind_some, toIntS_eq l1 (by omega) _ (by omega), Option.bind_some, hs _ (by omega), Option.bind_some, Option.bind_some, Option.bind_some, hi _ (by omega), Option.bind_some, if_pos rfl, show (v.2 != v.2) = false from by simp]
      simp only [laws_FnExactLeastWood.j0]
      rw [if_neg (by decide), toIntS_eq l0 (by omega) m (by omega), Option.bind_some, eqIntS_eq l0 (by omega) m (by omega), Option.bind_some, if_pos rfl, toIntS_eq l1 (by omega) m (by omega), Option.bind_some, eqIntS_eq l1 (by omega) m (by omega), Option.bind_some, if_pos rfl]
end Go.Proofs.Ytdaiihafoajmcaa.P
