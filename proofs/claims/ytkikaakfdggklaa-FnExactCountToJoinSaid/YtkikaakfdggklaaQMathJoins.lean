/- Plain mathematics: lists of edges that join all vertices: those that hold no edge in vain, the least sum of costs, the first list and their number; no conditions. -/
import Derived.Test.YtkikaakfdggklaaQMathGroups
namespace Go.Proofs.Ytkikaakfdggklaa.MathJoins
open Go.Proofs.Ytkikaakfdggklaa.MathGroups
/-- the number of groups -/
def G (N : Nat) (E : List Duo) : Nat := (List.range N).countP (fun i => merged E i == i)
theorem merged_snoc (E : List Duo) (e : Duo) : merged (E ++ [e]) = merge (merged E) e := by simp [merged]
theorem merge_same {f : Nat → Nat} {e : Duo} (h : f e.1 = f e.2) : merge f e = f := by
  funext i
  unfold merge
  rw [h]
  simp only [Nat.max_self, Nat.min_self]
  split
  · rename_i h; exact h.symm
  · rfl
theorem countP_split {α : Type} [BEq α] [LawfulBEq α] (p q : α → Bool) (m : α) (hm : p m = true) (hq : ∀ x, q x = (p x && !(x == m))) : ∀ (l : List α), l.Nodup → l.countP p = l.countP q + (if m ∈ l then 1 else 0) := by
  intro l
  induction l with
  | nil => intro _; simp
  | cons x l ih =>
    intro hn
    have h1 := List.nodup_cons.1 hn
    rw [List.countP_cons, List.countP_cons, ih h1.2, hq x]
    by_cases e : x = m
    · subst e
      simp [hm, h1.1]
    · have : ¬ m = x := fun h => e h.symm
      simp [e, this]
      omega
theorem G_snoc (N : Nat) (E : List Duo) (e : Duo) (h1 : e.1 < N) (h2 : e.2 < N) : G N E = G N (E ++ [e]) + (if merged E e.1 = merged E e.2 then 0 else 1) := by
  have hR := roots_merged E
  unfold G
  rw [merged_snoc]
  by_cases h : merged E e.1 = merged E e.2
  · rw [merge_same h, if_pos h, Nat.add_zero]
  · rw [if_neg h]
    have hl1 := hR.le e.1
    have hl2 := hR.le e.2
    have hr1 := hR.root e.1
    have hr2 := hR.root e.2
    generalize hf : merged E = f at *
    have hmax : f (max (f e.1) (f e.2)) = max (f e.1) (f e.2) := by
      rcases Nat.le_total (f e.1) (f e.2) with hl | hl
      · rw [Nat.max_eq_right hl]; exact hr2
      · rw [Nat.max_eq_left hl]; exact hr1
    rw [countP_split (fun i => f i == i) (fun i => merge f e i == i) (max (f e.1) (f e.2)) (by simp only [beq_iff_eq]; exact hmax) ?_ (List.range N) List.nodup_range, if_pos (List.mem_range.2 (by omega))]
    intro i
    rw [Bool.eq_iff_iff]
    unfold merge
    simp only [beq_iff_eq, Bool.and_eq_true, Bool.not_eq_true', beq_eq_false_iff_ne]
    constructor
    · intro hi
      by_cases c : f i = max (f e.1) (f e.2)
      · rw [if_pos c] at hi
        exfalso
        have hmin : f (min (f e.1) (f e.2)) = min (f e.1) (f e.2) := by
          rcases Nat.le_total (f e.1) (f e.2) with hl | hl
          · rw [Nat.min_eq_left hl]; exact hr1
          · rw [Nat.min_eq_right hl]; exact hr2
        rw [← hi, hmin] at c
        omega
      · rw [if_neg c] at hi
        exact ⟨hi, fun h => c (by rw [hi]; exact h)⟩
    · rintro ⟨hi, hne⟩
      rw [if_neg (by rw [hi]; exact hne)]
      exact hi
def Inside (N : Nat) (E : List Duo) : Prop := ∀ e, e ∈ E → e.1 < N ∧ e.2 < N
theorem G_nil (N : Nat) : G N [] = N := by
  unfold G
  rw [List.countP_eq_length.2]
  · simp
  · intro i _; simp [merged]
/-- Each edge joins two groups at most. -/
theorem G_append (N : Nat) (E : List Duo) : ∀ (F : List Duo), Inside N F → G N E ≤ G N (E ++ F) + F.length := by
  intro F
  induction F generalizing E with
  | nil => intro _; simp
  | cons e F ih =>
    intro h
    have h1 := h e List.mem_cons_self
    have h2 := G_snoc N E e h1.1 h1.2
    have h3 := ih (E ++ [e]) (fun x hx => h x (List.mem_cons_of_mem _ hx))
    rw [List.append_assoc, List.singleton_append] at h3
    rw [List.length_cons]
    split at h2 <;> omega
/-- An edge within one group, and there are at least two groups with as many edges as would join all. -/
theorem G_vain (N : Nat) (E F : List Duo) (e : Duo) (h : Inside N (E ++ e :: F)) (hm : merged E e.1 = merged E e.2) (hl : (E ++ e :: F).length + 1 = N) : 1 < G N (E ++ e :: F) := by
  have h1 := h e (by simp)
  have h2 := G_snoc N E e h1.1 h1.2
  rw [if_pos hm] at h2
  have h3 := G_append N [] E (fun x hx => h x (List.mem_append_left _ hx))
  have h4 := G_append N (E ++ [e]) F (fun x hx => h x (by simp [hx]))
  rw [G_nil, List.nil_append] at h3
  rw [List.append_assoc, List.singleton_append] at h4
  simp only [List.length_append, List.length_cons] at hl
  omega
theorem G_pos (N : Nat) (hN : 1 ≤ N) (E : List Duo) : 1 ≤ G N E := by
  unfold G
  apply List.countP_pos_iff.2
  refine ⟨0, List.mem_range.2 (by omega), ?_⟩
  have := (roots_merged E).le 0
  simp only [beq_iff_eq]
  omega
/-- One group: every vertex has the label 0. -/
theorem G_one {N : Nat} {E : List Duo} (h : G N E ≤ 1) : ∀ i, i < N → merged E i = 0 := by
  intro i hi
  have hR := roots_merged E
  refine Classical.byContradiction fun hne => ?_
  have h0 : merged E 0 = 0 := by have := hR.le 0; omega
  have hlt := hR.le i
  have : 1 < G N E := by
    unfold G
    rw [countP_split (fun i => merged E i == i) (fun j => (merged E j == j) && !(j == 0)) 0 (by simp [h0]) (fun x => rfl) (List.range N) List.nodup_range, if_pos (List.mem_range.2 (by omega))]
    have : 0 < (List.range N).countP (fun j => (merged E j == j) && !(j == 0)) := by
      apply List.countP_pos_iff.2
      refine ⟨merged E i, List.mem_range.2 (by omega), ?_⟩
      simp only [Bool.and_eq_true, beq_iff_eq, Bool.not_eq_true', beq_eq_false_iff_ne]
      exact ⟨hR.root i, hne⟩
    omega
  omega
theorem G_zero {N : Nat} {E : List Duo} (h : ∀ i, i < N → merged E i = 0) : G N E ≤ 1 := by
  unfold G
  have h2 : ∀ l : List Nat, l.Nodup → (∀ x, x ∈ l → x < N) → l.countP (fun i => merged E i == i) ≤ 1 := by
    intro l hn hl
    rw [show l.countP (fun i => merged E i == i) = l.countP (fun i => i == 0) from List.countP_congr (fun x hx => by rw [h x (hl x hx)]; simp only [beq_iff_eq]; exact eq_comm)]
    have := List.nodup_iff_count.1 hn 0
    unfold List.count at this
    exact this
  exact h2 _ List.nodup_range (fun x hx => List.mem_range.1 hx)
theorem G_sub {N : Nat} {E F : List Duo} (hs : ∀ e, e ∈ E → e ∈ F) (h : G N E ≤ 1) : G N F ≤ 1 := by
  apply G_zero
  intro i hi
  have h0 := G_one h i hi
  have hz : merged F 0 = 0 := by have := (roots_merged F).le 0; omega
  rw [← hz]
  refine ((roots_merged F).iff i 0).2 (Conn.mono hs (((roots_merged E).iff i 0).1 ?_))
  rw [h0, G_one h 0 (by omega)]

/-! ### lists of edges by their numbers -/
def own (E : List Duo) (ks : List Nat) : List Duo := ks.map fun k => E.getD k (0, 0)
def sumT (T : Nat → Nat) (ks : List Nat) : Nat := ks.foldl (fun s k => s + T k) 0
theorem sumT_snoc (T : Nat → Nat) (ks : List Nat) (k : Nat) : sumT T (ks ++ [k]) = sumT T ks + T k := by simp [sumT]
/-- all lists of m numbers below L that go on from one and rise -/
def leaves (T : Nat → Nat) (L m : Nat) : Nat → List Nat → Nat → Nat → List (List Nat × Nat)
  | 0, _, _, _ => []
  | f + 1, ks, from_, toll => if ks.length = m then [(ks, toll)] else (List.range' from_ (L - from_)).flatMap fun k => leaves T L m f (ks ++ [k]) (k + 1) (toll + T k)
/-- the same without edges in vain -/
def pleaves (E : List Duo) (T : Nat → Nat) (L m : Nat) : Nat → List Nat → Nat → Nat → List (List Nat × Nat)
  | 0, _, _, _ => []
  | f + 1, ks, from_, toll => if ks.length = m then [(ks, toll)] else (List.range' from_ (L - from_)).flatMap fun k => if merged (own E ks) (E.getD k (0, 0)).1 = merged (own E ks) (E.getD k (0, 0)).2 then [] else pleaves E T L m f (ks ++ [k]) (k + 1) (toll + T k)
def full (N : Nat) (E : List Duo) (x : List Nat × Nat) : Bool := decide (G N (own E x.1) ≤ 1)
theorem leaves_have (T : Nat → Nat) (L m : Nat) : ∀ (f : Nat) (ks : List Nat) (from_ toll : Nat) (x : List Nat × Nat), x ∈ leaves T L m f ks from_ toll → (∃ r, x.1 = ks ++ r ∧ ∀ k, k ∈ r → k < L) ∧ x.1.length = m := by
  intro f
  induction f with
  | zero => intro ks from_ toll x h; simp [leaves] at h
  | succ f ih =>
    intro ks from_ toll x h
    rw [leaves] at h
    by_cases hl : ks.length = m
    · rw [if_pos hl] at h
      obtain rfl : x = (ks, toll) := by simpa using h
      exact ⟨⟨[], by simp, by simp⟩, hl⟩
    · rw [if_neg hl] at h
      obtain ⟨k, hk, h⟩ := List.mem_flatMap.1 h
      obtain ⟨⟨r, h1, h2⟩, h3⟩ := ih _ _ _ _ h
      have := List.mem_range'_1.1 hk
      refine ⟨⟨k :: r, by simp [h1], fun j hj => ?_⟩, h3⟩
      rcases List.mem_cons.1 hj with rfl | hj
      · omega
      · exact h2 j hj
theorem own_inside {N : Nat} {E : List Duo} (hE : Inside N E) (ks : List Nat) (h : ∀ k, k ∈ ks → k < E.length) : Inside N (own E ks) := by
  intro e he
  obtain ⟨k, hk, rfl⟩ := List.mem_map.1 he
  have := h k hk
  rw [List.getD_eq_getElem?_getD, List.getElem?_eq_getElem this]
  exact hE _ (List.getElem_mem this)
theorem filter_flatMap {α β : Type} (p : β → Bool) (g : α → List β) (l : List α) : (l.flatMap g).filter p = l.flatMap fun x => (g x).filter p := by
  induction l with
  | nil => rfl
  | cons x l ih => simp [List.flatMap_cons, ih]
theorem flatMap_congr_mem {α β : Type} {g h : α → List β} : ∀ {l : List α}, (∀ x, x ∈ l → g x = h x) → l.flatMap g = l.flatMap h := by
  intro l
  induction l with
  | nil => intro _; rfl
  | cons x l ih =>
    intro hh
    rw [List.flatMap_cons, List.flatMap_cons, hh x List.mem_cons_self, ih (fun y hy => hh y (List.mem_cons_of_mem _ hy))]
theorem flatMap_length {α β : Type} (g : α → List β) (B : Nat) : ∀ (l : List α), (∀ x, x ∈ l → (g x).length ≤ B) → (l.flatMap g).length ≤ l.length * B := by
  intro l
  induction l with
  | nil => intro _; simp
  | cons x l ih =>
    intro h
    rw [List.flatMap_cons, List.length_append, List.length_cons, Nat.succ_mul]
    have h1 := h x List.mem_cons_self
    have h2 := ih (fun y hy => h y (List.mem_cons_of_mem _ hy))
    omega
theorem leaves_length (T : Nat → Nat) (L m : Nat) : ∀ (f : Nat) (ks : List Nat) (from_ toll : Nat), (leaves T L m f ks from_ toll).length ≤ (L + 1) ^ f := by
  intro f
  induction f with
  | zero => intro ks from_ toll; simp [leaves]
  | succ f ih =>
    intro ks from_ toll
    rw [leaves]
    by_cases hl : ks.length = m
    · rw [if_pos hl]
      exact Nat.one_le_pow _ _ (by omega)
    · rw [if_neg hl]
      refine Nat.le_trans (flatMap_length _ ((L + 1) ^ f) _ (fun x _ => ih _ _ _)) ?_
      rw [List.length_range', Nat.pow_succ, Nat.mul_comm]
      exact Nat.mul_le_mul_left _ (by omega)
theorem pleaves_length (E : List Duo) (T : Nat → Nat) (L m : Nat) : ∀ (f : Nat) (ks : List Nat) (from_ toll : Nat), (pleaves E T L m f ks from_ toll).length ≤ (L + 1) ^ f := by
  intro f
  induction f with
  | zero => intro ks from_ toll; simp [pleaves]
  | succ f ih =>
    intro ks from_ toll
    rw [pleaves]
    by_cases hl : ks.length = m
    · rw [if_pos hl]
      exact Nat.one_le_pow _ _ (by omega)
    · rw [if_neg hl]
      refine Nat.le_trans (flatMap_length _ ((L + 1) ^ f) _ (fun x _ => ?_)) ?_
      · split
        · simp
        · exact ih _ _ _
      · rw [List.length_range', Nat.pow_succ, Nat.mul_comm]
        exact Nat.mul_le_mul_left _ (by omega)
/-- Lists with an edge in vain do not join all. -/
theorem leaves_full {N m : Nat} {E : List Duo} (hE : Inside N E) (hm : m + 1 = N) (T : Nat → Nat) : ∀ (f : Nat) (ks : List Nat) (from_ toll : Nat), (∀ k, k ∈ ks → k < E.length) → (leaves T E.length m f ks from_ toll).filter (full N E) = (pleaves E T E.length m f ks from_ toll).filter (full N E) := by
  intro f
  induction f with
  | zero => intro ks from_ toll _; rfl
  | succ f ih =>
    intro ks from_ toll hk
    rw [leaves, pleaves]
    by_cases hl : ks.length = m
    · rw [if_pos hl, if_pos hl]
    · rw [if_neg hl, if_neg hl, filter_flatMap, filter_flatMap]
      apply flatMap_congr_mem
      intro k hmem
      have hkL : k < E.length := by have := List.mem_range'_1.1 hmem; omega
      have hk2 : ∀ j, j ∈ ks ++ [k] → j < E.length := by
        intro j hj
        rcases List.mem_append.1 hj with h | h
        · exact hk j h
        · obtain rfl : j = k := by simpa using h
          exact hkL
      by_cases hs : merged (own E ks) (E.getD k (0, 0)).1 = merged (own E ks) (E.getD k (0, 0)).2
      · rw [if_pos hs, List.filter_nil]
        apply List.filter_eq_nil_iff.2
        intro x hx
        obtain ⟨⟨r, h1, h2⟩, h3⟩ := leaves_have T E.length m f _ _ _ x hx
        have e : own E x.1 = own E ks ++ E.getD k (0, 0) :: own E r := by rw [h1]; simp [own]
        have hin : Inside N (own E x.1) := own_inside hE _ (fun j hj => by
          rw [h1] at hj
          rcases List.mem_append.1 hj with h | h
          · exact hk2 j h
          · exact h2 j h)
        have hlen : (own E x.1).length + 1 = N := by simp [own, h3, hm]
        rw [e] at hin hlen
        have := G_vain N (own E ks) (own E r) (E.getD k (0, 0)) hin hs hlen
        unfold full
        rw [e]
        simp only [decide_eq_true_eq]
        omega
      · rw [if_neg hs]
        exact ih _ _ _ hk2
/-- the rising list of the edges that are not in vain, from one on -/
def pick (E : List Duo) : Nat → Nat → List Duo → List Nat
  | 0, _, _ => []
  | d + 1, i, F => if merged F (E.getD i (0, 0)).1 = merged F (E.getD i (0, 0)).2 then pick E d (i + 1) F else i :: pick E d (i + 1) (F ++ [E.getD i (0, 0)])
theorem pick_merged (E : List Duo) : ∀ (d i : Nat) (F : List Duo), i + d = E.length → merged (F ++ own E (pick E d i F)) = merged (F ++ E.drop i) := by
  intro d
  induction d with
  | zero => intro i F h; rw [List.drop_eq_nil_of_le (by omega)]; rfl
  | succ d ih =>
    intro i F h
    have hlt : i < E.length := by omega
    have hg : E.getD i (0, 0) = E[i] := by rw [List.getD_eq_getElem?_getD, List.getElem?_eq_getElem hlt]; rfl
    rw [pick, List.drop_eq_getElem_cons hlt, ← hg]
    have e2 : F ++ E.getD i (0, 0) :: E.drop (i + 1) = (F ++ [E.getD i (0, 0)]) ++ E.drop (i + 1) := by simp
    have hap : ∀ (A B : List Duo), merged (A ++ B) = B.foldl merge (merged A) := fun A B => by simp [merged, List.foldl_append]
    by_cases hs : merged F (E.getD i (0, 0)).1 = merged F (E.getD i (0, 0)).2
    · rw [if_pos hs, ih (i + 1) F (by omega), e2, hap, hap, merged_snoc, merge_same hs]
    · rw [if_neg hs]
      have := ih (i + 1) (F ++ [E.getD i (0, 0)]) (by omega)
      rw [e2, ← this]
      simp [own]
theorem pick_length {N : Nat} {E : List Duo} (hE : Inside N E) : ∀ (d i : Nat) (F : List Duo), i + d = E.length → G N (F ++ own E (pick E d i F)) + (pick E d i F).length = G N F := by
  intro d
  induction d with
  | zero => intro i F h; simp [pick, own]
  | succ d ih =>
    intro i F h
    have hlt : i < E.length := by omega
    have hg : E.getD i (0, 0) ∈ E := by rw [List.getD_eq_getElem?_getD, List.getElem?_eq_getElem hlt]; exact List.getElem_mem hlt
    rw [pick]
    by_cases hs : merged F (E.getD i (0, 0)).1 = merged F (E.getD i (0, 0)).2
    · rw [if_pos hs]
      exact ih (i + 1) F (by omega)
    · rw [if_neg hs]
      have h1 := ih (i + 1) (F ++ [E.getD i (0, 0)]) (by omega)
      have h2 := G_snoc N F (E.getD i (0, 0)) (hE _ hg).1 (hE _ hg).2
      rw [if_neg hs] at h2
      have e : F ++ own E (i :: pick E d (i + 1) (F ++ [E.getD i (0, 0)])) = F ++ [E.getD i (0, 0)] ++ own E (pick E d (i + 1) (F ++ [E.getD i (0, 0)])) := by simp [own]
      rw [e, List.length_cons]
      omega
/-- every rising list of m numbers is among the leaves -/
def Rising (L : Nat) : Nat → List Nat → Prop
  | _, [] => True
  | i, k :: r => i ≤ k ∧ k < L ∧ Rising L (k + 1) r
theorem pick_rising (E : List Duo) : ∀ (d i j : Nat) (F : List Duo), i + d = E.length → j ≤ i → Rising E.length j (pick E d i F) := by
  intro d
  induction d with
  | zero => intro i j F h hj; trivial
  | succ d ih =>
    intro i j F h hj
    rw [pick]
    split
    · exact ih (i + 1) j F (by omega) (by omega)
    · exact ⟨hj, by omega, ih (i + 1) (i + 1) _ (by omega) (Nat.le_refl _)⟩
theorem leaves_all (T : Nat → Nat) (L m : Nat) : ∀ (r : List Nat) (f : Nat) (ks : List Nat) (from_ toll : Nat), r.length < f → ks.length + r.length = m → Rising L from_ r → ∃ s, (ks ++ r, s) ∈ leaves T L m f ks from_ toll := by
  intro r
  induction r with
  | nil =>
    intro f ks from_ toll hf hl _
    obtain ⟨g, rfl⟩ : ∃ g, f = g + 1 := ⟨f - 1, by simp at hf; omega⟩
    rw [leaves, if_pos (by simpa using hl)]
    exact ⟨toll, by simp⟩
  | cons k r ih =>
    intro f ks from_ toll hf hl hr
    simp only [List.length_cons] at hf hl
    obtain ⟨g, rfl⟩ : ∃ g, f = g + 1 := ⟨f - 1, by omega⟩
    obtain ⟨h1, h2, h3⟩ := hr
    obtain ⟨s, hs⟩ := ih g (ks ++ [k]) (k + 1) (toll + T k) (by omega) (by simp; omega) h3
    rw [leaves, if_neg (by omega)]
    refine ⟨s, List.mem_flatMap.2 ⟨k, List.mem_range'_1.2 (by omega), ?_⟩⟩
    simpa using hs
/-- There is a list that joins all just if all are joined. -/
theorem full_iff {N m : Nat} {E : List Duo} (hE : Inside N E) (hm : m + 1 = N) (T : Nat → Nat) (f : Nat) (hf : m < f) : ((leaves T E.length m f [] 0 0).filter (full N E) ≠ []) ↔ G N E = 1 := by
  constructor
  · intro h
    obtain ⟨x, hx⟩ := List.exists_mem_of_ne_nil _ h
    obtain ⟨hx, hfu⟩ := List.mem_filter.1 hx
    obtain ⟨⟨r, h1, h2⟩, _⟩ := leaves_have T E.length m f _ _ _ x hx
    have h3 : G N E ≤ 1 := by
      refine G_sub (E := own E x.1) (fun e he => ?_) (by simpa [full] using hfu)
      obtain ⟨k, hk, rfl⟩ := List.mem_map.1 he
      rw [h1, List.nil_append] at hk
      have := h2 k hk
      rw [List.getD_eq_getElem?_getD, List.getElem?_eq_getElem this]
      exact List.getElem_mem this
    have := G_pos N (by omega) E
    omega
  · intro h
    have h1 := pick_merged E E.length 0 [] (by omega)
    have h2 := pick_length hE E.length 0 [] (by omega)
    simp only [List.nil_append, List.drop_zero] at h1 h2
    have h3 : G N (own E (pick E E.length 0 [])) = 1 := by rw [← h]; unfold G; rw [h1]
    rw [G_nil] at h2
    obtain ⟨s, hs⟩ := leaves_all T E.length m (pick E E.length 0 []) f [] 0 0 (by omega) (by simp; omega) (pick_rising E E.length 0 0 [] (by omega) (Nat.le_refl _))
    refine List.ne_nil_of_mem (List.mem_filter.2 ⟨hs, ?_⟩)
    simp [full, h3]

/-! ### the least sum, the first list with it, and their number -/
def more (s : Option (Nat × List Nat × Nat)) (x : List Nat × Nat) : Option (Nat × List Nat × Nat) := match s with
  | none => some (x.2, x.1, 1)
  | some (l, b, c) => if x.2 < l then some (x.2, x.1, 1) else if x.2 = l then some (l, b, c + 1) else some (l, b, c)
def sums (L : List (List Nat × Nat)) : Option (Nat × List Nat × Nat) := L.foldl more none
def comb (s t : Option (Nat × List Nat × Nat)) : Option (Nat × List Nat × Nat) := match t with
  | none => s
  | some (l', b', c') => match s with
    | none => some (l', b', c')
    | some (l, b, c) => if l' < l then some (l', b', c') else if l' = l then some (l, b, c + c') else some (l, b, c)
theorem comb_more (s t : Option (Nat × List Nat × Nat)) (x : List Nat × Nat) : more (comb s t) x = comb s (more t x) := by
  rcases t with _ | ⟨l', b', c'⟩
  · rcases s with _ | ⟨l, b, c⟩ <;> rfl
  · rcases s with _ | ⟨l, b, c⟩
    · simp only [comb, more]
      repeat' split
      all_goals simp_all
    · obtain ⟨q, s⟩ := x
      simp only [comb, more]
      rcases Classical.propComplete (l' < l) with a1 | a1 <;> rcases Classical.propComplete (l' = l) with a2 | a2 <;> rcases Classical.propComplete (s < l) with a3 | a3 <;> rcases Classical.propComplete (s = l) with a4 | a4 <;> rcases Classical.propComplete (s < l') with a5 | a5 <;> rcases Classical.propComplete (s = l') with a6 | a6 <;>
        first
        | (exfalso; simp only [eq_iff_iff, iff_true, iff_false] at a1 a2 a3 a4 a5 a6; omega)
        | (simp only [a1, a2, a3, a4, a5, a6, if_true, if_false]; done)
        | (simp only [a1, a2, a3, a4, a5, a6, if_true, if_false]; rfl)
theorem foldl_more (L : List (List Nat × Nat)) : ∀ (s t : Option (Nat × List Nat × Nat)), L.foldl more (comb s t) = comb s (L.foldl more t) := by
  induction L with
  | nil => intro s t; rfl
  | cons x L ih => intro s t; rw [List.foldl_cons, List.foldl_cons, comb_more, ih]
theorem sums_append (A B : List (List Nat × Nat)) : sums (A ++ B) = comb (sums A) (sums B) := by
  unfold sums
  rw [List.foldl_append]
  have := foldl_more B (A.foldl more none) none
  rw [← this]
  rfl
theorem more_some (s : Option (Nat × List Nat × Nat)) (x : List Nat × Nat) : ∃ y, more s x = some y := by
  rcases s with _ | ⟨l, b, c⟩
  · exact ⟨_, rfl⟩
  · unfold more
    simp only
    repeat' split
    all_goals exact ⟨_, rfl⟩
theorem foldl_some (L : List (List Nat × Nat)) : ∀ (s : Nat × List Nat × Nat), ∃ y, L.foldl more (some s) = some y := by
  induction L with
  | nil => intro s; exact ⟨s, rfl⟩
  | cons x L ih =>
    intro s
    obtain ⟨y, h⟩ := more_some (some s) x
    rw [List.foldl_cons, h]
    exact ih y
/-- how many -/
def cntS : Option (Nat × List Nat × Nat) → Nat
  | none => 0
  | some s => s.2.2
theorem more_cnt (s : Option (Nat × List Nat × Nat)) (x : List Nat × Nat) : cntS (more s x) ≤ cntS s + 1 := by
  rcases s with _ | ⟨l, b, c⟩
  · simp [more, cntS]
  · unfold more
    simp only
    repeat' split
    all_goals (simp only [cntS]; omega)
theorem foldl_cnt (L : List (List Nat × Nat)) : ∀ (s : Option (Nat × List Nat × Nat)), cntS (L.foldl more s) ≤ cntS s + L.length := by
  induction L with
  | nil => intro s; simp
  | cons x L ih =>
    intro s
    rw [List.foldl_cons, List.length_cons]
    have h1 := ih (more s x)
    have h2 := more_cnt s x
    omega
/-- a count of at least one, where there is one -/
def Real (s : Option (Nat × List Nat × Nat)) : Prop := ∀ l b c, s = some (l, b, c) → 1 ≤ c
theorem more_real {s : Option (Nat × List Nat × Nat)} (h : Real s) (x : List Nat × Nat) : Real (more s x) := by
  rcases s with _ | ⟨l, b, c⟩
  · intro l' b' c' e
    simp [more] at e
    omega
  · have h1 := h l b c rfl
    intro l' b' c' e
    simp only [more] at e
    split at e
    · simp at e; omega
    · split at e <;> (simp at e; omega)
theorem foldl_real (L : List (List Nat × Nat)) : ∀ (s : Option (Nat × List Nat × Nat)), Real s → Real (L.foldl more s) := by
  induction L with
  | nil => intro s h; exact h
  | cons x L ih => intro s h; exact ih _ (more_real h x)
theorem comb_cnt (s t : Option (Nat × List Nat × Nat)) : cntS (comb s t) ≤ cntS s + cntS t := by
  rcases t with _ | ⟨l', b', c'⟩
  · simp [comb, cntS]
  · rcases s with _ | ⟨l, b, c⟩
    · simp [comb, cntS]
    · simp only [comb]
      repeat' split
      all_goals (simp only [cntS]; omega)
theorem comb_real {s t : Option (Nat × List Nat × Nat)} (h : Real s) (k : Real t) : Real (comb s t) := by
  rcases t with _ | ⟨l', b', c'⟩
  · exact h
  · have h1 := k l' b' c' rfl
    rcases s with _ | ⟨l, b, c⟩
    · intro a1 a2 a3 e
      simp [comb] at e
      omega
    · have h2 := h l b c rfl
      intro a1 a2 a3 e
      simp only [comb] at e
      split at e
      · simp at e; omega
      · split at e <;> (simp at e; omega)
theorem real_none : Real none := fun _ _ _ e => by cases e
theorem sums_none (L : List (List Nat × Nat)) : sums L = none ↔ L = [] := by
  cases L with
  | nil => simp [sums]
  | cons x L =>
    obtain ⟨y, h⟩ := foldl_some L (x.2, x.1, 1)
    have : sums (x :: L) = some y := h
    rw [this]
    simp
theorem sums_says {L : List (List Nat × Nat)} {l c : Nat} {b : List Nat} (h : sums L = some (l, b, c)) : 1 ≤ c ∧ c ≤ L.length ∧ (b, l) ∈ L := by
  have key : ∀ (L : List (List Nat × Nat)) (s : Nat × List Nat × Nat), L.foldl more (some s) = some (l, b, c) → 1 ≤ s.2.2 → 1 ≤ c ∧ c ≤ s.2.2 + L.length ∧ ((b, l) = (s.2.1, s.1) ∨ (b, l) ∈ L) := by
    intro L
    induction L with
    | nil =>
      intro s h h1
      obtain rfl : s = (l, b, c) := by simpa using h
      exact ⟨h1, by simp, .inl rfl⟩
    | cons x L ih =>
      intro s h h1
      rw [List.foldl_cons] at h
      obtain ⟨l', b', c'⟩ := s
      simp only [more] at h
      split at h
      · obtain ⟨k1, k2, k3⟩ := ih _ h (Nat.le_refl _)
        simp only at k2 k3 h1
        refine ⟨k1, by simp; omega, .inr ?_⟩
        rcases k3 with k3 | k3
        · rw [k3]; exact List.mem_cons_self
        · exact List.mem_cons_of_mem _ k3
      · split at h
        · obtain ⟨k1, k2, k3⟩ := ih _ h (by simp)
          simp only at k2 k3 h1
          refine ⟨k1, by simp; omega, ?_⟩
          rcases k3 with k3 | k3
          · exact .inl k3
          · exact .inr (List.mem_cons_of_mem _ k3)
        · obtain ⟨k1, k2, k3⟩ := ih _ h h1
          simp only at k2 k3 h1
          refine ⟨k1, by simp; omega, ?_⟩
          rcases k3 with k3 | k3
          · exact .inl k3
          · exact .inr (List.mem_cons_of_mem _ k3)
  cases L with
  | nil => simp [sums] at h
  | cons x L =>
    obtain ⟨k1, k2, k3⟩ := key L (x.2, x.1, 1) h (Nat.le_refl _)
    simp only at k2 k3
    refine ⟨k1, by simp; omega, ?_⟩
    rcases k3 with k3 | k3
    · rw [k3]; exact List.mem_cons_self
    · exact List.mem_cons_of_mem _ k3
end Go.Proofs.Ytkikaakfdggklaa.MathJoins
