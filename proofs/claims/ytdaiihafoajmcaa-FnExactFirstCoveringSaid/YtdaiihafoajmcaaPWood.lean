/- Plain facts: when there is a covering, and what coverings are made of; no conditions. -/
import Derived.Test.YtdaiihafoajmcaaPx13
import Derived.Test.YtdaiihafoajmcaaPCover
import Derived.Test.YtdaiihafoajmcaaPx4
set_option linter.unusedVariables false
set_option linter.unusedSimpArgs false
namespace Go.Proofs.Ytdaiihafoajmcaa.P
open Go.RowKit Go.Proofs.YtdaiihafoajmcaaW.PrintWords Go.Proofs.YtdaiihafoajmcaaW.PrintLast Go.Proofs.YtdaiihafoajmcaaW.PrintMore
/-- Every number of one list finds a number of its own in another. -/
def Fits (N : Int → Int) : List Int → List Int → Prop
  | [], _ => True
  | g :: gs, ps => ∃ q, q ∈ ps ∧ N g ≤ q ∧ Fits N gs (ps.erase q)
theorem fits_perm (N : Int → Int) : ∀ (gs ps ps' : List Int), ps.Perm ps' → Fits N gs ps → Fits N gs ps'
  | [], _, _, _, _ => trivial
  | g :: gs, ps, ps', h, ⟨q, h1, h2, h3⟩ => ⟨q, h.mem_iff.1 h1, h2, fits_perm N gs _ _ (h.erase q) h3⟩
theorem fits_swap (N : Int → Int) (g h : Int) (gs ps : List Int) (hf : Fits N (g :: h :: gs) ps) : Fits N (h :: g :: gs) ps := by
  obtain ⟨q, h1, h2, q', h3, h4, h5⟩ := hf
  refine ⟨q', List.mem_of_mem_erase h3, h4, q, ?_, h2, ?_⟩
  · by_cases c : q = q'
    · subst c
      exact h3
    · exact (List.mem_erase_of_ne c).2 h1
  · rwa [List.erase_comm]
theorem fits_permL (N : Int → Int) {gs gs' : List Int} (h : gs.Perm gs') : ∀ ps, Fits N gs ps → Fits N gs' ps := by
  induction h with
  | nil => exact fun _ h => h
  | cons x _ ih =>
    rintro ps ⟨q, h1, h2, h3⟩
    exact ⟨q, h1, h2, ih _ h3⟩
  | swap x y l => exact fun ps h => fits_swap N _ _ _ _ h
  | trans _ _ ih1 ih2 => exact fun ps h => ih2 ps (ih1 ps h)
theorem erase_tail {p q : Int} (h : ¬ p = q) (l : List Int) : (p :: l).erase q = p :: l.erase q := by
  rw [List.erase_cons_tail]
  simpa using h
theorem fits_more (N : Int → Int) : ∀ (gs ps : List Int) (p : Int), Fits N gs ps → Fits N gs (p :: ps)
  | [], _, _, _ => trivial
  | g :: gs, ps, p, ⟨q, h1, h2, h3⟩ => by
    refine ⟨q, List.mem_cons_of_mem _ h1, h2, ?_⟩
    by_cases c : p = q
    · subst c
      rw [List.erase_cons_head]
      exact fits_perm N gs _ _ (List.perm_cons_erase h1).symm (fits_more N gs _ p h3)
    · rw [erase_tail c]
      exact fits_more N gs _ p h3
theorem fits_grow (N : Int → Int) : ∀ (gs l : List Int) (p q : Int), p ≤ q → Fits N gs (p :: l) → Fits N gs (q :: l)
  | [], _, _, _, _, _ => trivial
  | g :: gs, l, p, q, hpq, ⟨x, h1, h2, h3⟩ => by
    by_cases c : p = x
    · subst c
      rw [List.erase_cons_head] at h3
      exact ⟨q, List.mem_cons_self, by omega, by rw [List.erase_cons_head]; exact h3⟩
    · rw [erase_tail c] at h3
      have hx : x ∈ l := (List.mem_cons.1 h1).elim (fun e => absurd e.symm c) id
      have h4 := fits_grow N gs _ p q hpq h3
      refine ⟨x, List.mem_cons_of_mem _ hx, h2, ?_⟩
      by_cases c2 : q = x
      · subst c2
        rw [List.erase_cons_head]
        exact fits_perm N gs _ _ (List.perm_cons_erase hx).symm h4
      · rw [erase_tail c2]
        exact h4
theorem fits_less (N : Int → Int) : ∀ (gs l : List Int) (p : Int), (∀ g ∈ gs, p < N g) → Fits N gs (p :: l) → Fits N gs l
  | [], _, _, _, _ => trivial
  | g :: gs, l, p, hp, ⟨x, h1, h2, h3⟩ => by
    have hg := hp g List.mem_cons_self
    have c : ¬ p = x := by omega
    have hx : x ∈ l := (List.mem_cons.1 h1).elim (fun e => absurd e.symm c) id
    rw [erase_tail c] at h3
    exact ⟨x, hx, h2, fits_less N gs _ p (fun g' h' => hp g' (List.mem_cons_of_mem _ h')) h3⟩
/-- What a plank over a gap must measure. -/
def needs (r g : Int) : Int := wrap64 (g + wrap64 (2 * r))
theorem greedy_fits (r : Int) : ∀ (ps gs : List Int), greedy r ps gs = gs.length → Fits (needs r) gs ps
  | ps, [], _ => trivial
  | [], g :: gs, h => by simp [greedy] at h
  | p :: ps, g :: gs, h => by
    simp only [greedy] at h
    split at h
    · rename_i c
      exact ⟨p, List.mem_cons_self, c, by rw [List.erase_cons_head]; exact greedy_fits r ps gs (by simpa using h)⟩
    · exact fits_more _ _ _ _ (greedy_fits r ps (g :: gs) h)
theorem fits_greedy (r : Int) : ∀ (ps gs : List Int), ps.Pairwise (· ≤ ·) → gs.Pairwise (fun a b => needs r a ≤ needs r b) → Fits (needs r) gs ps → greedy r ps gs = gs.length
  | ps, [], _, _, _ => by rw [greedy_nil]; rfl
  | [], g :: gs, _, _, ⟨q, h, _⟩ => by simp at h
  | p :: ps, g :: gs, hp, hg, hf => by
    have hp' := List.pairwise_cons.1 hp
    have hg' := List.pairwise_cons.1 hg
    simp only [greedy]
    by_cases c : p ≥ wrap64 (g + wrap64 (2 * r))
    · rw [if_pos c, List.length_cons]
      congr 1
      refine fits_greedy r ps gs hp'.2 hg'.2 ?_
      obtain ⟨q, h1, h2, h3⟩ := hf
      by_cases e : p = q
      · subst e
        rwa [List.erase_cons_head] at h3
      · have hq : q ∈ ps := (List.mem_cons.1 h1).elim (fun e' => absurd e'.symm e) id
        rw [erase_tail e] at h3
        exact fits_perm _ gs _ _ (List.perm_cons_erase hq).symm (fits_grow _ gs _ p q (hp'.1 q hq) h3)
    · rw [if_neg c]
      refine fits_greedy r ps (g :: gs) hp'.2 hg (fits_less _ _ _ p ?_ hf)
      intro g' h'
      rcases List.mem_cons.1 h' with rfl | h'
      · unfold needs
        omega
      · have := hg'.1 g' h'
        unfold needs at this ⊢
        omega
theorem rd_succ (p : Int) (ps : List Int) (n : Nat) : rd (p :: ps) ((n + 1 : Nat) : Int) = rd ps (n : Int) := by simp [rd]
theorem covsAt_mem (rec_ : List Int → List (List Int)) (need : Int) (plan c : List Int) : ∀ (ps : List Int) (i : Nat), c ∈ covsAt rec_ need plan i ps ↔ ∃ j, j < ps.length ∧ need ≤ rd ps (j : Int) ∧ ¬ ((i + j : Nat) : Int) ∈ plan ∧ c ∈ rec_ (plan ++ [((i + j : Nat) : Int)])
  | [], i => by simp [covsAt]
  | p :: ps, i => by
    rw [covsAt, List.mem_append, covsAt_mem rec_ need plan c ps (i + 1)]
    constructor
    · rintro (h | ⟨j, h1, h2, h3, h4⟩)
      · split at h
        · rename_i hc
          exact ⟨0, by simp, by simpa [rd] using hc.1, by simpa using hc.2, by simpa using h⟩
        · simp at h
      · have e : i + 1 + j = i + (j + 1) := by omega
        rw [e] at h3 h4
        exact ⟨j + 1, by simp; omega, by rw [rd_succ]; exact h2, h3, h4⟩
    · rintro ⟨j, h1, h2, h3, h4⟩
      cases j with
      | zero =>
        left
        rw [if_pos ⟨by simpa [rd] using h2, by simpa using h3⟩]
        simpa using h4
      | succ j =>
        right
        have e : i + (j + 1) = i + 1 + j := by omega
        rw [e] at h3 h4
        exact ⟨j, by simp at h1; omega, by rw [rd_succ] at h2; exact h2, h3, h4⟩
theorem filter_step (P Q : Nat → Bool) (i : Nat) : ∀ (L : List Nat), L.Nodup → i ∈ L → P i = true → (∀ k ∈ L, Q k = (P k && decide (k ≠ i))) → (L.filter P).Perm (i :: L.filter Q)
  | [], _, h, _, _ => by simp at h
  | x :: L, hn, hi, hP, hQ => by
    have hn' := List.nodup_cons.1 hn
    have hx := hQ x List.mem_cons_self
    have hL : ∀ k ∈ L, Q k = (P k && decide (k ≠ i)) := fun k hk => hQ k (List.mem_cons_of_mem _ hk)
    by_cases e : x = i
    · subst e
      have hq : Q x = false := by rw [hx]; simp
      rw [List.filter_cons_of_pos hP, List.filter_cons_of_neg (by rw [hq]; decide)]
      have hf : L.filter P = L.filter Q := List.filter_congr fun k hk => by
        have hne : k ≠ x := fun e => hn'.1 (e ▸ hk)
        rw [hL k hk]
        simp [hne]
      rw [hf]
    · have hi' : i ∈ L := (List.mem_cons.1 hi).elim (fun e' => absurd e'.symm e) id
      have ih := filter_step P Q i L hn'.2 hi' hP hL
      have hq : Q x = P x := by rw [hx]; simp [e]
      by_cases hp : P x = true
      · rw [List.filter_cons_of_pos hp, List.filter_cons_of_pos (by rw [hq]; exact hp)]
        exact (ih.cons x).trans (List.Perm.swap _ _ _)
      · rw [List.filter_cons_of_neg hp, List.filter_cons_of_neg (by rw [hq]; exact hp)]
        exact ih
/-- The planks that a plan has not taken. -/
def leftOf (planks plan : List Int) : List Int := ((List.range planks.length).filter (fun i : Nat => !decide ((i : Int) ∈ plan))).map (fun i : Nat => rd planks (i : Int))
theorem leftOf_nil (planks : List Int) : leftOf planks [] = planks := by
  have hf : (List.range planks.length).filter (fun i : Nat => !decide ((i : Int) ∈ ([] : List Int))) = List.range planks.length := List.filter_eq_self.2 (by simp)
  unfold leftOf
  rw [hf]
  apply List.ext_getElem
  · simp
  · intro i h1 h2
    simp [rd, List.getD_eq_getElem?_getD, List.getElem?_eq_getElem h2]
theorem leftOf_step (planks plan : List Int) (i : Nat) (hi : i < planks.length) (hp : ¬ (i : Int) ∈ plan) : (leftOf planks plan).Perm (rd planks (i : Int) :: leftOf planks (plan ++ [(i : Int)])) := by
  unfold leftOf
  have := filter_step (fun k : Nat => !decide ((k : Int) ∈ plan)) (fun k : Nat => !decide ((k : Int) ∈ plan ++ [(i : Int)])) i (List.range planks.length) List.nodup_range (List.mem_range.2 hi) (by simp [hp]) (fun k _ => by simp [Int.natCast_inj])
  have := this.map (fun k : Nat => rd planks (k : Int))
  simpa using this
theorem covs_fits (gaps planks : List Int) (r : Int) : ∀ (d : Nat) (plan : List Int), gaps.length = plan.length + d → ((∃ c, c ∈ covs gaps planks r d plan) ↔ Fits (needs r) (gaps.drop plan.length) (leftOf planks plan))
  | 0, plan, h => by
    rw [List.drop_of_length_le (by omega)]
    exact ⟨fun _ => trivial, fun _ => ⟨plan, by simp [covs]⟩⟩
  | d + 1, plan, h => by
    have hs : ∀ j : Nat, gaps.length = (plan ++ [(j : Int)]).length + d := fun j => by simp; omega
    have hl : ∀ j : Nat, (plan ++ [(j : Int)]).length = plan.length + 1 := fun j => by simp
    rw [rd_cons_drop gaps plan.length (by omega)]
    constructor
    · rintro ⟨c, hc⟩
      rw [covs, covsAt_mem] at hc
      obtain ⟨j, h1, h2, h3, h4⟩ := hc
      rw [Nat.zero_add] at h3 h4
      have hf := (covs_fits gaps planks r d _ (hs j)).1 ⟨c, h4⟩
      rw [hl] at hf
      have hp := leftOf_step planks plan j h1 h3
      refine ⟨rd planks (j : Int), hp.mem_iff.2 List.mem_cons_self, h2, fits_perm _ _ _ _ ?_ hf⟩
      have := hp.erase (rd planks (j : Int))
      rw [List.erase_cons_head] at this
      exact this.symm
    · rintro ⟨q, h1, h2, h3⟩
      obtain ⟨j, hj, rfl⟩ := List.mem_map.1 h1
      obtain ⟨hj1, hj2⟩ := List.mem_filter.1 hj
      have hj1' := List.mem_range.1 hj1
      have hj2' : ¬ (j : Int) ∈ plan := by simpa using hj2
      have hp := (leftOf_step planks plan j hj1' hj2').erase (rd planks (j : Int))
      rw [List.erase_cons_head] at hp
      have hf := fits_perm _ _ _ _ hp h3
      rw [← hl j] at hf
      obtain ⟨c, hc⟩ := (covs_fits gaps planks r d _ (hs j)).2 hf
      refine ⟨c, ?_⟩
      rw [covs, covsAt_mem]
      exact ⟨j, hj1', h2, by rw [Nat.zero_add]; exact hj2', by rw [Nat.zero_add]; exact hc⟩
theorem covs_shape (gaps planks : List Int) (r : Int) : ∀ (d : Nat) (plan c : List Int), c ∈ covs gaps planks r d plan → c.length = plan.length + d ∧ ((∀ x ∈ plan, 0 ≤ x ∧ x < (planks.length : Int)) → ∀ x ∈ c, 0 ≤ x ∧ x < (planks.length : Int))
  | 0, plan, c, h => by
    have e : c = plan := by simpa [covs] using h
    subst e
    exact ⟨rfl, id⟩
  | d + 1, plan, c, h => by
    rw [covs, covsAt_mem] at h
    obtain ⟨j, h1, h2, h3, h4⟩ := h
    rw [Nat.zero_add] at h4
    obtain ⟨i1, i2⟩ := covs_shape gaps planks r d _ c h4
    refine ⟨by rw [i1]; simp; omega, fun hp => i2 fun x hx => ?_⟩
    rcases List.mem_append.1 hx with hx | hx
    · exact hp x hx
    · simp at hx
      omega
theorem covsAt_count (rec_ : List Int → List (List Int)) (need : Int) (plan : List Int) (M : Nat) (hM : ∀ pl, (rec_ pl).length ≤ M) : ∀ (ps : List Int) (i : Nat), (covsAt rec_ need plan i ps).length ≤ ps.length * M
  | [], i => by simp [covsAt]
  | p :: ps, i => by
    have ih := covsAt_count rec_ need plan M hM ps (i + 1)
    rw [covsAt, List.length_append, List.length_cons, Nat.succ_mul]
    split
    · have := hM (plan ++ [(i : Int)])
      omega
    · simp
      omega
theorem covs_count (gaps planks : List Int) (r : Int) : ∀ (d : Nat) (plan : List Int), (covs gaps planks r d plan).length ≤ planks.length ^ d
  | 0, plan => by simp [covs]
  | d + 1, plan => by
    rw [covs, Nat.pow_succ, Nat.mul_comm]
    exact covsAt_count _ _ _ _ (fun pl => covs_count gaps planks r d pl) _ _
theorem covs_bound (gaps planks : List Int) (r : Int) (hg : gaps.length ≤ 7) (hp : planks.length ≤ 7) : (covs gaps planks r gaps.length []).length ≤ 1000000 := by
  have h1 := covs_count gaps planks r gaps.length []
  have h2 : planks.length ^ gaps.length ≤ 7 ^ gaps.length := Nat.pow_le_pow_left hp _
  have h3 : 7 ^ gaps.length ≤ 7 ^ 7 := Nat.pow_le_pow_right (by decide) hg
  have h4 : 7 ^ 7 = 823543 := by decide
  omega
theorem sortU_perm (l : List Int) : (sortU l).Perm l := List.mergeSort_perm _ _
theorem needs_mono {r : Int} (hr : 0 ≤ r ∧ r ≤ 10) (g : List Int) (hg : ∀ n ∈ g, good1 n = true) : (sortU g).Pairwise (fun a b => needs r a ≤ needs r b) := by
  refine List.Pairwise.imp_of_mem ?_ (sortU_sorted g)
  intro a b ha hb hab
  have h1 := hg a ((sortU_perm g).mem_iff.1 ha)
  have h2 := hg b ((sortU_perm g).mem_iff.1 hb)
  simp only [good1, decide_eq_true_eq] at h1 h2
  unfold needs wrap64
  omega
theorem covs_most (g p : List Int) (r : Int) (h : asked g p r = true) : most g p r = g.length ↔ ∃ c, c ∈ covs g p r g.length [] := by
  obtain ⟨h1, h2, h3⟩ := asked_use h
  have hc := covs_fits g p r g.length [] (by simp)
  rw [List.length_nil, List.drop_zero, leftOf_nil] at hc
  rw [hc]
  unfold most
  constructor
  · intro e
    have e' : greedy r (sortU p) (sortU g) = (sortU g).length := by rw [e, sortU_length]
    exact fits_permL _ (sortU_perm g) _ (fits_perm _ _ _ _ (sortU_perm p) (greedy_fits r _ _ e'))
  · intro e
    have e' := fits_permL _ (sortU_perm g).symm _ (fits_perm _ _ _ _ (sortU_perm p).symm e)
    rw [fits_greedy r _ _ (sortU_sorted p) (needs_mono h3 g (goodP_use h1).2.2) e', sortU_length]
theorem plAll_eq (g p : List Int) (r : Int) (hg : g.length ≤ 7) (hp : p.length ≤ 7) (k : Nat) : spec_plAll.f k g p r = some (covs g p r g.length []) := by
  unfold spec_plAll.f
  rw [if_pos ⟨by omega, by omega, covs_bound g p r hg hp⟩]
theorem can_yes (g p : List Int) (r : Int) (h : asked g p r = true) (e : ∃ c, c ∈ covs g p r g.length []) (k : Nat) (hk : 20 ≤ k) : impl_CanCoverAll.f k g p r = some (true, true) := by
  unfold impl_CanCoverAll.f
  rw [impl_most g p r h k hk, Option.bind_some, if_pos rfl, (covs_most g p r h).2 e]
  simp
theorem can_not (g p : List Int) (r : Int) (h : asked g p r = true) (e : ¬ ∃ c, c ∈ covs g p r g.length []) (k : Nat) (hk : 20 ≤ k) : impl_CanCoverAll.f k g p r = some (false, true) := by
  have hne : ¬ most g p r = g.length := fun h1 => e ((covs_most g p r h).1 h1)
  unfold impl_CanCoverAll.f
  rw [impl_most g p r h k hk, Option.bind_some, if_pos rfl]
  have : (((most g p r : Nat) : Int) == (g.length : Int)) = false := by
    rw [beq_eq_false_iff_ne]
    omega
  rw [this]
theorem can_no (g p : List Int) (r : Int) (h : asked g p r = false) (k : Nat) : impl_CanCoverAll.f k g p r = some (false, false) := by
  unfold impl_CanCoverAll.f
  rw [impl_most_no g p r h k, Option.bind_some, if_neg (by decide)]
end Go.Proofs.Ytdaiihafoajmcaa.P
