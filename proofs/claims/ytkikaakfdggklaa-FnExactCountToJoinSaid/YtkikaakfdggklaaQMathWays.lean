/- Plain mathematics: the least cost of a way between two vertices, once by rounds of relaxing edges, once by trying all ways on which no vertex is twice; no conditions. -/
namespace Go.Proofs.Ytkikaakfdggklaa.MathWays
/-- an edge and its cost -/
abbrev Tri := Nat × Nat × Nat
def Joins (E : List Tri) (i j c : Nat) : Prop := (i, j, c) ∈ E ∨ (j, i, c) ∈ E
theorem Joins.symm {E : List Tri} {i j c : Nat} (h : Joins E i j c) : Joins E j i c := Or.symm h
/-- a walk of so many edges from one vertex to t, and its cost -/
inductive WalkN (E : List Tri) (t : Nat) : Nat → Nat → Nat → Prop
  | nil : WalkN E t 0 t 0
  | cons {n i j c d : Nat} : Joins E i j c → WalkN E t n j d → WalkN E t (n + 1) i (c + d)
def upd (f : Nat → Nat) (i v : Nat) : Nat → Nat := fun j => if j = i then v else f j
def low (f : Nat → Nat) (e : Tri) : Nat → Nat :=
  upd (upd f e.1 (min (f e.1) (f e.2.1 + e.2.2))) e.2.1 (min (upd f e.1 (min (f e.1) (f e.2.1 + e.2.2)) e.2.1) (upd f e.1 (min (f e.1) (f e.2.1 + e.2.2)) e.1 + e.2.2))
theorem upd_same (f : Nat → Nat) (i v : Nat) : upd f i v i = v := if_pos rfl
theorem upd_other (f : Nat → Nat) {i j : Nat} (v : Nat) (h : j ≠ i) : upd f i v j = f j := if_neg h
theorem upd_le (f : Nat → Nat) (i v j : Nat) (h : v ≤ f i) : upd f i v j ≤ f j := by
  unfold upd
  split
  · rename_i e; rw [e]; exact h
  · exact Nat.le_refl _
theorem low_le (f : Nat → Nat) (e : Tri) (i : Nat) : low f e i ≤ f i :=
  Nat.le_trans (upd_le _ _ _ _ (Nat.min_le_left _ _)) (upd_le _ _ _ _ (Nat.min_le_left _ _))
theorem low_fst (f : Nat → Nat) (e : Tri) : low f e e.1 ≤ f e.2.1 + e.2.2 := by
  refine Nat.le_trans (upd_le _ _ _ _ (Nat.min_le_left _ _)) ?_
  rw [upd_same]
  exact Nat.min_le_right _ _
theorem low_snd (f : Nat → Nat) (e : Tri) : low f e e.2.1 ≤ f e.1 + e.2.2 := by
  unfold low
  rw [upd_same]
  refine Nat.le_trans (Nat.min_le_right _ _) ?_
  have := upd_le f e.1 (min (f e.1) (f e.2.1 + e.2.2)) e.1 (Nat.min_le_left _ _)
  omega
def round (E : List Tri) (f : Nat → Nat) : Nat → Nat := E.foldl low f
def rounds (E : List Tri) : Nat → (Nat → Nat) → Nat → Nat
  | 0, f => f
  | r + 1, f => rounds E r (round E f)
theorem foldl_le (L : List Tri) : ∀ (f : Nat → Nat) (i : Nat), L.foldl low f i ≤ f i := by
  induction L with
  | nil => intro f i; exact Nat.le_refl _
  | cons e L ih => intro f i; exact Nat.le_trans (ih _ _) (low_le f e i)
theorem foldl_edge (L : List Tri) : ∀ (f : Nat → Nat) (i j c : Nat), Joins L i j c → L.foldl low f i ≤ c + f j := by
  induction L with
  | nil => intro f i j c h; rcases h with h | h <;> simp at h
  | cons e L ih =>
    intro f i j c h
    rw [List.foldl_cons]
    have hh : Joins L i j c ∨ e = (i, j, c) ∨ e = (j, i, c) := by
      rcases h with h | h
      · rcases List.mem_cons.1 h with h | h
        · exact .inr (.inl h.symm)
        · exact .inl (.inl h)
      · rcases List.mem_cons.1 h with h | h
        · exact .inr (.inr h.symm)
        · exact .inl (.inr h)
    rcases hh with h | rfl | rfl
    · have h1 := ih (low f e) i j c h
      have h2 := low_le f e j
      omega
    · have h1 := foldl_le L (low f (i, j, c)) i
      have h2 := low_fst f (i, j, c)
      simp only at h2
      omega
    · have h1 := foldl_le L (low f (j, i, c)) i
      have h2 := low_snd f (j, i, c)
      simp only at h2
      omega
theorem rounds_le (E : List Tri) (t : Nat) : ∀ (r m : Nat) (f : Nat → Nat), (∀ n i d, n ≤ m → WalkN E t n i d → f i ≤ d) → ∀ n i d, n ≤ m + r → WalkN E t n i d → rounds E r f i ≤ d := by
  intro r
  induction r with
  | zero => intro m f h; exact h
  | succ r ih =>
    intro m f h n i d hn hw
    refine ih (m + 1) (round E f) ?_ n i d (by omega) hw
    intro n i d hn hw
    cases hw with
    | nil => exact Nat.le_trans (foldl_le E f _) (h 0 _ 0 (by omega) .nil)
    | cons hj hw =>
      rename_i n j c d
      have h1 := foldl_edge E f i j c hj
      have h2 := h n j d (by omega) hw
      exact Nat.le_trans h1 (by omega)
/-- every value is the cost of a walk, or M -/
def Fine (E : List Tri) (t M : Nat) (f : Nat → Nat) : Prop := ∀ i, f i ≤ M ∧ (f i = M ∨ ∃ n, WalkN E t n i (f i))
theorem fine_upd {E : List Tri} {t M : Nat} {f : Nat → Nat} (h : Fine E t M f) {i j c : Nat} (hj : Joins E i j c) : Fine E t M (upd f i (min (f i) (f j + c))) := by
  intro k
  unfold upd
  by_cases e : k = i
  · rw [if_pos e]
    subst e
    by_cases hl : f k ≤ f j + c
    · rw [Nat.min_eq_left hl]
      exact h k
    · rw [Nat.min_eq_right (by omega)]
      have h1 := h k
      refine ⟨by omega, .inr ?_⟩
      rcases (h j).2 with h2 | ⟨n, h2⟩
      · omega
      · refine ⟨n + 1, ?_⟩
        rw [Nat.add_comm (f j) c]
        exact .cons hj h2
  · rw [if_neg e]
    exact h k
theorem fine_low {E : List Tri} {t M : Nat} {f : Nat → Nat} (h : Fine E t M f) {e : Tri} (he : e ∈ E) : Fine E t M (low f e) := by
  have h1 : Joins E e.1 e.2.1 e.2.2 := .inl he
  exact fine_upd (fine_upd h h1) h1.symm
theorem fine_foldl {E : List Tri} {t M : Nat} (L : List Tri) : ∀ (f : Nat → Nat), (∀ e, e ∈ L → e ∈ E) → Fine E t M f → Fine E t M (L.foldl low f) := by
  induction L with
  | nil => intro f _ h; exact h
  | cons e L ih => intro f hs h; exact ih _ (fun x hx => hs x (List.mem_cons_of_mem _ hx)) (fine_low h (hs e List.mem_cons_self))
theorem fine_rounds {E : List Tri} {t M : Nat} : ∀ (r : Nat) (f : Nat → Nat), Fine E t M f → Fine E t M (rounds E r f) := by
  intro r
  induction r with
  | zero => intro f h; exact h
  | succ r ih => intro f h; exact ih _ (fine_foldl E f (fun _ h => h) h)
def start (t M : Nat) : Nat → Nat := fun i => if i = t then 0 else M
theorem fine_start (E : List Tri) (t M : Nat) : Fine E t M (start t M) := by
  intro i
  unfold start
  by_cases e : i = t
  · rw [if_pos e, e]
    exact ⟨Nat.zero_le _, .inr ⟨0, .nil⟩⟩
  · rw [if_neg e]
    exact ⟨Nat.le_refl _, .inl rfl⟩
/-- What the rounds of relaxing come to. -/
def dist (E : List Tri) (N M t : Nat) : Nat → Nat := rounds E N (start t M)
theorem dist_fine (E : List Tri) (N M t : Nat) : Fine E t M (dist E N M t) := fine_rounds N _ (fine_start E t M)
theorem dist_le (E : List Tri) (N M t : Nat) {n i d : Nat} (hn : n ≤ N) (hw : WalkN E t n i d) : dist E N M t i ≤ d := by
  refine rounds_le E t N 0 (start t M) ?_ n i d (by omega) hw
  intro n i d hn hw
  cases hw with
  | nil => simp [start]
  | cons _ _ => omega

/-! ### ways on which no vertex is twice -/
inductive Path (E : List Tri) (t : Nat) : List Nat → Nat → Prop
  | one : Path E t [t] 0
  | cons {i j c d : Nat} {p : List Nat} : Joins E i j c → Path E t (j :: p) d → Path E t (i :: j :: p) (c + d)
theorem Path.walk {E : List Tri} {t : Nat} {p : List Nat} {d : Nat} (h : Path E t p d) : ∃ i q, p = i :: q ∧ WalkN E t q.length i d := by
  induction h with
  | one => exact ⟨t, [], rfl, .nil⟩
  | cons hj _ ih =>
    obtain ⟨i', q, e, hw⟩ := ih
    cases e
    exact ⟨_, _, rfl, .cons hj hw⟩
theorem Path.last {E : List Tri} {t : Nat} {p : List Nat} {d : Nat} (h : Path E t p d) : t ∈ p := by
  induction h with
  | one => exact List.mem_cons_self
  | cons _ _ ih => exact List.mem_cons_of_mem _ ih
theorem Path.from {E : List Tri} {t : Nat} {p : List Nat} {d : Nat} (h : Path E t p d) : ∀ x, x ∈ p → ∃ q d', Path E t (x :: q) d' ∧ (x :: q) <:+ p ∧ d' ≤ d := by
  induction h with
  | one =>
    intro x hx
    obtain rfl : x = t := by simpa using hx
    exact ⟨[], 0, .one, List.suffix_refl _, Nat.le_refl _⟩
  | cons hj hp ih =>
    intro x hx
    rcases List.mem_cons.1 hx with rfl | hx
    · exact ⟨_, _, .cons hj hp, List.suffix_refl _, Nat.le_refl _⟩
    · obtain ⟨q, d', h1, h2, h3⟩ := ih x hx
      exact ⟨q, d', h1, h2.trans (List.suffix_cons _ _), by omega⟩
theorem walk_path {E : List Tri} {t n i d : Nat} (h : WalkN E t n i d) : ∃ q d', Path E t (i :: q) d' ∧ (i :: q).Nodup ∧ d' ≤ d := by
  induction h with
  | nil => exact ⟨[], 0, .one, by simp, Nat.le_refl _⟩
  | cons hj _ ih =>
    rename_i n i j c d _
    obtain ⟨q, d', h1, h2, h3⟩ := ih
    by_cases hm : i ∈ j :: q
    · obtain ⟨q2, d2, k1, k2, k3⟩ := h1.from i hm
      exact ⟨q2, d2, k1, h2.sublist k2.sublist, by omega⟩
    · exact ⟨j :: q, c + d', .cons hj h1, List.nodup_cons.2 ⟨hm, h2⟩, by omega⟩
theorem Path.under {E : List Tri} {t N : Nat} (hE : ∀ e, e ∈ E → e.1 < N ∧ e.2.1 < N) (ht : t < N) {p : List Nat} {d : Nat} (h : Path E t p d) : ∀ x, x ∈ p → x < N := by
  induction h with
  | one => intro x hx; obtain rfl : x = t := by simpa using hx
           exact ht
  | cons hj _ ih =>
    intro x hx
    rcases List.mem_cons.1 hx with rfl | hx
    · rcases hj with h | h
      · exact (hE _ h).1
      · exact (hE _ h).2
    · exact ih x hx
theorem Path.cost {E : List Tri} {t C : Nat} (hE : ∀ e, e ∈ E → e.2.2 ≤ C) {p : List Nat} {d : Nat} (h : Path E t p d) : d + C ≤ C * p.length := by
  induction h with
  | one => simp
  | cons hj _ ih =>
    have h : _ ≤ C := hj.elim (hE _) (hE _)
    simp only [List.length_cons] at ih ⊢
    simp only [Nat.mul_add, Nat.mul_one] at ih ⊢
    simp only at h
    omega
theorem nodup_length : ∀ (N : Nat) (l : List Nat), l.Nodup → (∀ x, x ∈ l → x < N) → l.length ≤ N := by
  intro N
  induction N with
  | zero =>
    intro l _ h
    cases l with
    | nil => exact Nat.le_refl _
    | cons x l => exact absurd (h x List.mem_cons_self) (by omega)
  | succ N ih =>
    intro l hn h
    have h1 := ih (l.erase N) (hn.erase N) (fun x hx => by
      have := (hn.mem_erase_iff).1 hx
      have := h x this.2
      omega)
    have h2 := List.length_erase (a := N) (l := l)
    split at h2 <;> omega

/-! ### trying all ways -/
def exts (W : Nat → Nat → Option Nat) (N t : Nat) : Nat → List Nat → Nat → Nat → List (List Nat × Nat)
  | 0, _, _, _ => []
  | f + 1, way, now, all => if now = t then [(way, all)] else (List.range N).flatMap fun next => match W now next with
    | none => []
    | some c => if next ∈ way then [] else exts W N t f (way ++ [next]) next (all + c)
/-- The costs of the least edges. -/
structure Least (E : List Tri) (W : Nat → Nat → Option Nat) : Prop where
  is : ∀ i j c, W i j = some c → Joins E i j c
  le : ∀ i j c, Joins E i j c → ∃ c', W i j = some c' ∧ c' ≤ c
theorem exts_sound {E : List Tri} {W : Nat → Nat → Option Nat} (hW : Least E W) (N t : Nat) : ∀ (f : Nat) (way : List Nat) (now all : Nat) (x : List Nat × Nat), x ∈ exts W N t f way now all → ∃ q d, x = (way ++ q, all + d) ∧ Path E t (now :: q) d ∧ (way.Nodup → (way ++ q).Nodup) := by
  intro f
  induction f with
  | zero => intro way now all x h; simp [exts] at h
  | succ f ih =>
    intro way now all x h
    rw [exts] at h
    by_cases ht : now = t
    · rw [if_pos ht] at h
      obtain rfl : x = (way, all) := by simpa using h
      exact ⟨[], 0, by simp, ht ▸ .one, by simp⟩
    · rw [if_neg ht] at h
      obtain ⟨next, _, h⟩ := List.mem_flatMap.1 h
      cases hw : W now next with
      | none => rw [hw] at h; simp at h
      | some c =>
        rw [hw] at h
        simp only at h
        by_cases hm : next ∈ way
        · rw [if_pos hm] at h; simp at h
        · rw [if_neg hm] at h
          obtain ⟨q, d, rfl, hp, hn⟩ := ih _ _ _ _ h
          refine ⟨next :: q, c + d, by simp [Nat.add_assoc], .cons (hW.is _ _ _ hw) hp, fun hw => ?_⟩
          have := hn (List.nodup_append.2 ⟨hw, by simp, fun a ha b hb => by
            obtain rfl : b = next := by simpa using hb
            exact fun e => hm (e ▸ ha)⟩)
          simpa using this
theorem exts_all {E : List Tri} {W : Nat → Nat → Option Nat} (hW : Least E W) (N t : Nat) : ∀ (f : Nat) (q way : List Nat) (now all d : Nat), q.length < f → now ∈ way → (way ++ q).Nodup → (∀ x, x ∈ q → x < N) → Path E t (now :: q) d → ∃ d', d' ≤ d ∧ (way ++ q, all + d') ∈ exts W N t f way now all := by
  intro f
  induction f with
  | zero => intro q way now all d h; omega
  | succ f ih =>
    intro q way now all d hf hm hn hN hp
    rw [exts]
    by_cases ht : now = t
    · rw [if_pos ht]
      cases hp with
      | one => exact ⟨0, Nat.le_refl _, by simp⟩
      | cons hj hp =>
        have h1 := hp.last
        have h2 := (List.nodup_append.1 hn).2.2 now hm t h1
        exact absurd ht h2
    · rw [if_neg ht]
      cases hp with
      | one => exact absurd rfl ht
      | cons hj hp =>
        rename_i j c d p
        obtain ⟨c', hc, hle⟩ := hW.le _ _ _ hj
        have hjn : j ∉ way := fun h => (List.nodup_append.1 hn).2.2 j h j List.mem_cons_self rfl
        obtain ⟨d', h1, h2⟩ := ih p (way ++ [j]) j (all + c') d (by simp at hf; omega) (by simp) (by simpa using hn) (fun x hx => hN x (List.mem_cons_of_mem _ hx)) hp
        refine ⟨c' + d', by omega, ?_⟩
        refine List.mem_flatMap.2 ⟨j, List.mem_range.2 (hN j List.mem_cons_self), ?_⟩
        rw [hc]
        simp only
        rw [if_neg hjn]
        simpa [Nat.add_assoc] using h2

/-! ### the best of them -/
def better (s : Option (List Nat × Nat)) (x : List Nat × Nat) : Option (List Nat × Nat) := match s with
  | none => some x
  | some y => if x.2 < y.2 then some x else some y
theorem better_some (L : List (List Nat × Nat)) : ∀ (y : List Nat × Nat), ∃ z, L.foldl better (some y) = some z ∧ (∀ x, x ∈ L → z.2 ≤ x.2) ∧ ((z = y) ∨ (z.2 < y.2 ∧ z ∈ L ∧ L.find? (fun x => x.2 == z.2) = some z)) := by
  induction L with
  | nil => intro y; exact ⟨y, rfl, by simp, .inl rfl⟩
  | cons x L ih =>
    intro y
    rw [List.foldl_cons]
    by_cases h : x.2 < y.2
    · rw [show better (some y) x = some x from if_pos h]
      obtain ⟨z, h1, h2, h3⟩ := ih x
      refine ⟨z, h1, fun w hw => ?_, .inr ?_⟩
      · rcases List.mem_cons.1 hw with rfl | hw
        · rcases h3 with rfl | ⟨h3, _⟩ <;> omega
        · exact h2 w hw
      · rcases h3 with rfl | ⟨h3, h4, h5⟩
        · exact ⟨h, List.mem_cons_self, by simp⟩
        · refine ⟨by omega, List.mem_cons_of_mem _ h4, ?_⟩
          rw [List.find?_cons_of_neg]
          · exact h5
          · simp; omega
    · rw [show better (some y) x = some y from if_neg h]
      obtain ⟨z, h1, h2, h3⟩ := ih y
      refine ⟨z, h1, fun w hw => ?_, ?_⟩
      · rcases List.mem_cons.1 hw with rfl | hw
        · rcases h3 with rfl | ⟨h3, _⟩ <;> omega
        · exact h2 w hw
      · rcases h3 with rfl | ⟨h3, h4, h5⟩
        · exact .inl rfl
        · refine .inr ⟨h3, List.mem_cons_of_mem _ h4, ?_⟩
          rw [List.find?_cons_of_neg]
          · exact h5
          · simp; omega
theorem best_of (L : List (List Nat × Nat)) : (L = [] ∧ L.foldl better none = none) ∨ ∃ z, L.foldl better none = some z ∧ z ∈ L ∧ (∀ x, x ∈ L → z.2 ≤ x.2) ∧ L.find? (fun x => x.2 == z.2) = some z := by
  cases L with
  | nil => exact .inl ⟨rfl, rfl⟩
  | cons x L =>
    refine .inr ?_
    obtain ⟨z, h1, h2, h3⟩ := better_some L x
    refine ⟨z, h1, ?_, fun w hw => ?_, ?_⟩
    · rcases h3 with rfl | ⟨_, h, _⟩
      · exact List.mem_cons_self
      · exact List.mem_cons_of_mem _ h
    · rcases List.mem_cons.1 hw with rfl | hw
      · rcases h3 with rfl | ⟨h3, _⟩ <;> omega
      · exact h2 w hw
    · rcases h3 with rfl | ⟨h3, h4, h5⟩
      · simp
      · rw [List.find?_cons_of_neg]
        · exact h5
        · simp; omega
/-- The best way that is tried costs what the rounds say; if there is none, they say M. -/
theorem best_dist {E : List Tri} {W : Nat → Nat → Option Nat} (hW : Least E W) {N M C t s : Nat} (hE : ∀ e, e ∈ E → e.1 < N ∧ e.2.1 < N ∧ e.2.2 ≤ C) (hC : C * N < M + C) (ht : t < N) (f : Nat) (hf : N ≤ f) :
    (exts W N t f [s] s 0 = [] ∧ dist E N M t s = M) ∨ ∃ p, (exts W N t f [s] s 0).foldl better none = some (p, dist E N M t s) ∧ dist E N M t s < M ∧ p.length ≤ N ∧ (∀ x, x ∈ p → x < N) ∧ (exts W N t f [s] s 0).find? (fun x => x.2 == dist E N M t s) = some (p, dist E N M t s) := by
  have key : ∀ n d, WalkN E t n s d → ∃ x, x ∈ exts W N t f [s] s 0 ∧ x.2 ≤ d := by
    intro n d hw
    obtain ⟨q, d', h1, h2, h3⟩ := walk_path hw
    have hb := h1.under (fun e he => ⟨(hE e he).1, (hE e he).2.1⟩) ht
    have hl := nodup_length N (s :: q) h2 hb
    simp only [List.length_cons] at hl
    obtain ⟨d2, k1, k2⟩ := exts_all hW N t f q [s] s 0 d' (by omega) (by simp) (by simpa using h2) (fun x hx => hb x (List.mem_cons_of_mem _ hx)) h1
    exact ⟨_, k2, by simp only; omega⟩
  rcases best_of (exts W N t f [s] s 0) with ⟨h1, _⟩ | ⟨z, h1, h2, h3, h4⟩
  · refine .inl ⟨h1, ?_⟩
    rcases (dist_fine E N M t s).2 with h | ⟨n, hw⟩
    · exact h
    · obtain ⟨x, hx, _⟩ := key n _ hw
      rw [h1] at hx
      simp at hx
  · refine .inr ?_
    obtain ⟨q, d, rfl, hp, hn⟩ := exts_sound hW N t f [s] s 0 z h2
    have hnd := hn (by simp)
    have hb := hp.under (fun e he => ⟨(hE e he).1, (hE e he).2.1⟩) ht
    have hl := nodup_length N (s :: q) (by simpa using hnd) hb
    simp only [List.length_cons] at hl
    obtain ⟨i, q', e, hw⟩ := hp.walk
    cases e
    have h5 : dist E N M t s ≤ d := dist_le E N M t (n := q.length) (by omega) hw
    have h6 : d < M := by
      have h7 := hp.cost (C := C) (fun e he => (hE e he).2.2)
      simp only [List.length_cons] at h7
      have : C * (q.length + 1) ≤ C * N := Nat.mul_le_mul_left _ hl
      omega
    have h7 : d ≤ dist E N M t s := by
      rcases (dist_fine E N M t s).2 with h | ⟨n, hw⟩
      · omega
      · obtain ⟨x, hx, hle⟩ := key n _ hw
        have := h3 x hx
        simp only at this
        omega
    obtain rfl : d = dist E N M t s := by omega
    rw [Nat.zero_add] at h1 h4
    exact ⟨[s] ++ q, h1, h6, by simp; omega, fun x hx => hb x (by simpa using hx), h4⟩
theorem walk_dist {E : List Tri} {N M C t s n d : Nat} (hE : ∀ e, e ∈ E → e.1 < N ∧ e.2.1 < N ∧ e.2.2 ≤ C) (hC : C * N < M + C) (ht : t < N) (hw : WalkN E t n s d) : dist E N M t s < M := by
  obtain ⟨q, d', h1, h2, h3⟩ := walk_path hw
  have hb := h1.under (fun e he => ⟨(hE e he).1, (hE e he).2.1⟩) ht
  have hl := nodup_length N (s :: q) h2 hb
  simp only [List.length_cons] at hl
  obtain ⟨i, q', e, hw'⟩ := h1.walk
  cases e
  have h5 : dist E N M t s ≤ d' := dist_le E N M t (n := q.length) (by omega) hw'
  have h7 := h1.cost (C := C) (fun e he => (hE e he).2.2)
  simp only [List.length_cons] at h7
  have : C * (q.length + 1) ≤ C * N := Nat.mul_le_mul_left _ hl
  omega
theorem dist_walk {E : List Tri} {N M t s : Nat} (h : dist E N M t s < M) : ∃ n d, WalkN E t n s d := by
  rcases (dist_fine E N M t s).2 with h2 | ⟨n, hw⟩
  · omega
  · exact ⟨n, _, hw⟩
theorem walk_other {E F : List Tri} {t : Nat} (h : ∀ i j c, Joins E i j c → ∃ c', Joins F i j c') {n i d : Nat} (hw : WalkN E t n i d) : ∃ d', WalkN F t n i d' := by
  induction hw with
  | nil => exact ⟨0, .nil⟩
  | cons hj _ ih =>
    obtain ⟨d', h1⟩ := ih
    obtain ⟨c', h2⟩ := h _ _ _ hj
    exact ⟨_, .cons h2 h1⟩
/-! ### ways back -/
inductive WalkB (E : List Tri) : Nat → Nat → Nat → Nat → Prop
  | nil (i : Nat) : WalkB E 0 i i 0
  | cons {n i j k c d : Nat} : Joins E i j c → WalkB E n j k d → WalkB E (n + 1) i k (c + d)
theorem walkB_iff {E : List Tri} {t n i d : Nat} : WalkN E t n i d ↔ WalkB E n i t d := by
  constructor
  · intro h
    induction h with
    | nil => exact .nil _
    | cons hj _ ih => exact .cons hj ih
  · intro h
    induction h with
    | nil i => exact .nil
    | cons hj _ ih => exact .cons hj ih
theorem WalkB.snoc {E : List Tri} {n i j k c d : Nat} (h : WalkB E n i j d) (hj : Joins E j k c) : WalkB E (n + 1) i k (d + c) := by
  induction h with
  | nil i => have h := WalkB.cons hj (.nil _); simpa using h
  | cons hj' _ ih =>
    rename_i c1 d1 _
    rw [Nat.add_assoc c1 d1 c]
    exact .cons hj' (ih hj)
theorem WalkB.back {E : List Tri} {n i j d : Nat} (h : WalkB E n i j d) : WalkB E n j i d := by
  induction h with
  | nil i => exact .nil i
  | cons hj _ ih =>
    rename_i c d _
    rw [Nat.add_comm c d]
    exact ih.snoc hj.symm
theorem dist_back {E : List Tri} {N M C t s : Nat} (hE : ∀ e, e ∈ E → e.1 < N ∧ e.2.1 < N ∧ e.2.2 ≤ C) (ht : t < N) : dist E N M t s ≤ dist E N M s t := by
  have h1 := dist_fine E N M t s
  rcases (dist_fine E N M s t).2 with h | ⟨n, hw⟩
  · omega
  · have hb := walkB_iff.2 (walkB_iff.1 hw).back
    obtain ⟨q, d', k1, k2, k3⟩ := walk_path hb
    have hbl := k1.under (fun e he => ⟨(hE e he).1, (hE e he).2.1⟩) ht
    have hl := nodup_length N (s :: q) k2 hbl
    simp only [List.length_cons] at hl
    obtain ⟨i, q', e, hw'⟩ := k1.walk
    cases e
    exact Nat.le_trans (dist_le E N M t (by omega) hw') k3
theorem dist_symm {E : List Tri} {N M C t s : Nat} (hE : ∀ e, e ∈ E → e.1 < N ∧ e.2.1 < N ∧ e.2.2 ≤ C) (ht : t < N) (hs : s < N) : dist E N M t s = dist E N M s t :=
  Nat.le_antisymm (dist_back hE ht) (dist_back hE hs)
end Go.Proofs.Ytkikaakfdggklaa.MathWays
