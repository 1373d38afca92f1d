/- Plain mathematics: labels by merging classes edge by edge, and labels by rounds of relaxing, come to the least vertex of each class; no conditions. -/
namespace Go.Proofs.Ytkikaakfdggklaa.MathGroups
abbrev Duo := Nat × Nat
inductive Conn (E : List Duo) : Nat → Nat → Prop
  | refl (i : Nat) : Conn E i i
  | edge {a b : Nat} : (a, b) ∈ E → Conn E a b
  | symm {a b : Nat} : Conn E a b → Conn E b a
  | trans {a b c : Nat} : Conn E a b → Conn E b c → Conn E a c
theorem Conn.mono {E E' : List Duo} (h : ∀ e, e ∈ E → e ∈ E') {a b : Nat} (c : Conn E a b) : Conn E' a b := by
  induction c with
  | refl i => exact .refl i
  | edge hm => exact .edge (h _ hm)
  | symm _ ih => exact .symm ih
  | trans _ _ ih1 ih2 => exact .trans ih1 ih2
/-- What holds along every edge holds along every way. -/
theorem Conn.inv {E : List Duo} {p : Nat → Prop} (h : ∀ a b, (a, b) ∈ E → (p a ↔ p b)) {a b : Nat} (c : Conn E a b) : p a ↔ p b := by
  induction c with
  | refl i => exact Iff.rfl
  | edge hm => exact h _ _ hm
  | symm _ ih => exact ih.symm
  | trans _ _ ih1 ih2 => exact ih1.trans ih2
theorem Conn.same {E : List Duo} {α : Type} {g : Nat → α} (h : ∀ a b, (a, b) ∈ E → g a = g b) {a b : Nat} (c : Conn E a b) : g a = g b := by
  induction c with
  | refl i => rfl
  | edge hm => exact h _ _ hm
  | symm _ ih => exact ih.symm
  | trans _ _ ih1 ih2 => exact ih1.trans ih2
theorem Conn.alone {E : List Duo} {v : Nat} (h : ∀ e, e ∈ E → e.1 ≠ v ∧ e.2 ≠ v) {j : Nat} (c : Conn E v j) : j = v := by
  have := c.inv (p := fun x => x = v) (fun a b hm => by
    have := h _ hm
    constructor
    · intro e; exact absurd e this.1
    · intro e; exact absurd e this.2)
  exact this.1 rfl

/-! ### merging -/
def merge (f : Nat → Nat) (e : Duo) : Nat → Nat := fun i => if f i = max (f e.1) (f e.2) then min (f e.1) (f e.2) else f i
def merged (E : List Duo) : Nat → Nat := E.foldl merge id
structure Roots (E : List Duo) (f : Nat → Nat) : Prop where
  le : ∀ i, f i ≤ i
  root : ∀ i, f (f i) = f i
  iff : ∀ i j, f i = f j ↔ Conn E i j
theorem roots_nil : Roots [] id := ⟨fun _ => Nat.le_refl _, fun _ => rfl, fun i j => ⟨fun h => by
  have : i = j := h
  subst this
  exact .refl _, fun c => by
    have := c.alone (fun e he => absurd he (by simp))
    exact this.symm⟩⟩
theorem roots_merge {E : List Duo} {f : Nat → Nat} (h : Roots E f) (e : Duo) : Roots (E ++ [e]) (merge f e) := by
  obtain ⟨a, b⟩ := e
  have hlo : f (min (f a) (f b)) = min (f a) (f b) := by
    rcases Nat.le_total (f a) (f b) with hl | hl
    · rw [Nat.min_eq_left hl]; exact h.root a
    · rw [Nat.min_eq_right hl]; exact h.root b
  have hmono : ∀ {i j}, Conn E i j → Conn (E ++ [(a, b)]) i j := fun c => c.mono (fun e he => List.mem_append_left _ he)
  have hab : Conn (E ++ [(a, b)]) a b := .edge (by simp)
  -- whoever has the greater or the lesser label is joined to a
  have hja : ∀ i, (f i = f a ∨ f i = f b) → Conn (E ++ [(a, b)]) i a := by
    intro i hi
    rcases hi with hi | hi
    · exact hmono ((h.iff _ _).1 hi)
    · exact .trans (hmono ((h.iff _ _).1 hi)) (.symm hab)
  refine ⟨fun i => ?_, fun i => ?_, fun i j => ⟨fun hij => ?_, fun c => ?_⟩⟩
  · unfold merge
    have h1 := h.le i
    split
    · rename_i he
      dsimp only at he ⊢
      omega
    · exact h1
  · unfold merge
    dsimp only
    by_cases hi : f i = max (f a) (f b)
    · rw [if_pos hi, hlo]
      split <;> rfl
    · rw [if_neg hi, h.root i, if_neg hi]
  · unfold merge at hij
    dsimp only at hij
    by_cases hi : f i = max (f a) (f b)
    · by_cases hj : f j = max (f a) (f b)
      · exact hmono ((h.iff _ _).1 (hi.trans hj.symm))
      · rw [if_pos hi, if_neg hj] at hij
        exact .trans (hja i (by omega)) (.symm (hja j (by omega)))
    · by_cases hj : f j = max (f a) (f b)
      · rw [if_neg hi, if_pos hj] at hij
        exact .trans (hja i (by omega)) (.symm (hja j (by omega)))
      · rw [if_neg hi, if_neg hj] at hij
        exact hmono ((h.iff _ _).1 hij)
  · refine c.same (g := merge f (a, b)) (fun x y hm => ?_)
    rcases List.mem_append.1 hm with hm | hm
    · have : f x = f y := (h.iff _ _).2 (.edge hm)
      unfold merge
      rw [this]
    · simp only [List.mem_singleton, Prod.mk.injEq] at hm
      obtain ⟨rfl, rfl⟩ := hm
      unfold merge
      dsimp only
      split <;> split <;> omega
theorem roots_foldl (E : List Duo) : ∀ (E0 : List Duo) (f : Nat → Nat), Roots E0 f → Roots (E0 ++ E) (E.foldl merge f) := by
  induction E with
  | nil => intro E0 f h; simpa using h
  | cons e E ih =>
    intro E0 f h
    have := ih (E0 ++ [e]) (merge f e) (roots_merge h e)
    simpa using this
theorem roots_merged (E : List Duo) : Roots E (merged E) := by
  have := roots_foldl E [] id roots_nil
  simpa [merged] using this

/-! ### relaxing -/
def relax (f : Nat → Nat) (e : Duo) : Nat → Nat := fun i => if i = e.1 ∨ i = e.2 then min (f e.1) (f e.2) else f i
def round (E : List Duo) (f : Nat → Nat) : Nat → Nat := E.foldl relax f
def rounds (E : List Duo) : Nat → (Nat → Nat) → Nat → Nat
  | 0, f => f
  | r + 1, f => rounds E r (round E f)
/-- f tells of each vertex a vertex of its class, no greater than itself. -/
structure Near (E : List Duo) (f : Nat → Nat) : Prop where
  le : ∀ i, f i ≤ i
  conn : ∀ i, Conn E i (f i)
theorem near_id (E : List Duo) : Near E id := ⟨fun _ => Nat.le_refl _, fun i => .refl i⟩
theorem near_relax {E : List Duo} {f : Nat → Nat} (h : Near E f) {e : Duo} (he : e ∈ E) : Near E (relax f e) := by
  obtain ⟨a, b⟩ := e
  have hab : Conn E a b := .edge he
  refine ⟨fun i => ?_, fun i => ?_⟩
  · unfold relax
    dsimp only
    have h1 := h.le i
    split
    · rename_i hi
      rcases hi with rfl | rfl <;> omega
    · exact h1
  · unfold relax
    dsimp only
    split
    · rename_i hi
      have ha : Conn E a (min (f a) (f b)) := by
        rcases Nat.le_total (f a) (f b) with hl | hl
        · rw [Nat.min_eq_left hl]; exact h.conn a
        · rw [Nat.min_eq_right hl]; exact .trans hab (h.conn b)
      rcases hi with rfl | rfl
      · exact ha
      · exact .trans (.symm hab) ha
    · exact h.conn i
theorem relax_le (f : Nat → Nat) (e : Duo) (i : Nat) : relax f e i ≤ f i := by
  unfold relax
  split
  · rename_i hi
    rcases hi with rfl | rfl <;> omega
  · exact Nat.le_refl _
theorem foldl_le (L : List Duo) : ∀ (f : Nat → Nat) (i : Nat), L.foldl relax f i ≤ f i := by
  induction L with
  | nil => intro f i; exact Nat.le_refl _
  | cons e L ih => intro f i; exact Nat.le_trans (ih (relax f e) i) (relax_le f e i)
theorem near_foldl {E : List Duo} (L : List Duo) : ∀ (f : Nat → Nat), (∀ e, e ∈ L → e ∈ E) → Near E f → Near E (L.foldl relax f) := by
  induction L with
  | nil => intro f _ h; exact h
  | cons e L ih => intro f hL h; exact ih (relax f e) (fun x hx => hL x (List.mem_cons_of_mem _ hx)) (near_relax h (hL e List.mem_cons_self))
theorem near_round {E : List Duo} {f : Nat → Nat} (h : Near E f) : Near E (round E f) := near_foldl E f (fun _ he => he) h
/-- the label of the class, from below -/
theorem low {E : List Duo} {M f : Nat → Nat} (hM : Roots E M) (h : Near E f) (i : Nat) : M i ≤ f i := by
  rw [(hM.iff i (f i)).2 (h.conn i)]
  exact hM.le _
/-- An edge one of whose ends is final makes both final. -/
theorem fin_foldl {E : List Duo} {M : Nat → Nat} (hM : Roots E M) (L : List Duo) : ∀ (f : Nat → Nat), (∀ e, e ∈ L → e ∈ E) → Near E f → ∀ e, e ∈ L → (f e.1 = M e.1 ∨ f e.2 = M e.2) → L.foldl relax f e.1 = M e.1 ∧ L.foldl relax f e.2 = M e.2 := by
  induction L with
  | nil => intro f _ _ e he; cases he
  | cons e0 L ih =>
    intro f hL h e he hf
    have hn := near_relax h (hL e0 List.mem_cons_self)
    have hLs : ∀ x, x ∈ L → x ∈ E := fun x hx => hL x (List.mem_cons_of_mem _ hx)
    have keep : ∀ v, f v = M v → relax f e0 v = M v := fun v hv => Nat.le_antisymm (hv ▸ relax_le f e0 v) (low hM hn v)
    have stay : ∀ v, relax f e0 v = M v → L.foldl relax (relax f e0) v = M v := fun v hv => Nat.le_antisymm (hv ▸ foldl_le L _ v) (low hM (near_foldl L _ hLs hn) v)
    rcases List.mem_cons.1 he with rfl | he
    · have hab : M e.1 = M e.2 := (hM.iff _ _).2 (.edge (by exact hL e List.mem_cons_self))
      have l1 := low hM h e.1
      have l2 := low hM h e.2
      have h1 : relax f e e.1 = M e.1 := by
        unfold relax
        rw [if_pos (.inl rfl)]
        omega
      have h2 : relax f e e.2 = M e.2 := by
        unfold relax
        rw [if_pos (.inr rfl)]
        omega
      exact ⟨stay _ h1, stay _ h2⟩
    · exact ih (relax f e0) hLs hn e he (hf.imp (keep _) (keep _))
theorem countP_lt {α : Type} {p q : α → Bool} (l : List α) (hpq : ∀ x, x ∈ l → p x = true → q x = true) {y : α} (hy : y ∈ l) (hp : p y = false) (hq : q y = true) : l.countP p < l.countP q := by
  induction l with
  | nil => cases hy
  | cons x l ih =>
    have hle : l.countP p ≤ l.countP q := List.countP_mono_left (fun z hz h => hpq z (List.mem_cons_of_mem _ hz) h)
    rw [List.countP_cons, List.countP_cons]
    rcases List.mem_cons.1 hy with rfl | hy
    · rw [hp, hq]; simp; omega
    · have := ih (fun z hz => hpq z (List.mem_cons_of_mem _ hz)) hy
      have hx := hpq x List.mem_cons_self
      cases hpx : p x with
      | false => simp; omega
      | true => rw [hx hpx]; simp; omega
def bothFin (M f : Nat → Nat) (e : Duo) : Bool := f e.1 == M e.1 && f e.2 == M e.2
theorem round_more {E : List Duo} {M f : Nat → Nat} (hM : Roots E M) (h : Near E f) : E.countP (bothFin M f) < E.countP (bothFin M (round E f)) ∨ ∀ e, e ∈ E → bothFin M f e = true := by
  by_cases hall : ∀ e, e ∈ E → bothFin M f e = true
  · exact .inr hall
  · left
    have hstep := fin_foldl hM E f (fun _ he => he) h
    have hpq : ∀ x, x ∈ E → bothFin M f x = true → bothFin M (round E f) x = true := by
      intro x hx hb
      simp only [bothFin, Bool.and_eq_true, beq_iff_eq] at hb ⊢
      exact hstep x hx (.inl hb.1)
    -- an edge with one final end
    have hex : ∃ e, e ∈ E ∧ (f e.1 = M e.1 ∨ f e.2 = M e.2) ∧ ¬ (f e.1 = M e.1 ∧ f e.2 = M e.2) := by
      apply Classical.byContradiction
      intro hno
      have hiff : ∀ a b, (a, b) ∈ E → (f a = M a ↔ f b = M b) := by
        intro a b hab
        constructor
        · intro ha
          apply Classical.byContradiction
          intro hb
          exact hno ⟨(a, b), hab, .inl ha, fun hc => hb hc.2⟩
        · intro hb
          apply Classical.byContradiction
          intro ha
          exact hno ⟨(a, b), hab, .inr hb, fun hc => ha hc.1⟩
      apply hall
      intro e he
      have key : ∀ v, f v = M v := by
        intro v
        have hc : Conn E v (M v) := (hM.iff _ _).1 (hM.root v).symm
        have hm : f (M v) = M (M v) := by
          have h1 := h.le (M v)
          have h2 := low hM h (M v)
          rw [hM.root v] at h2 ⊢
          omega
        exact (hc.inv hiff).2 hm
      simp only [bothFin, Bool.and_eq_true, beq_iff_eq]
      exact ⟨key _, key _⟩
    obtain ⟨e, he, h1, h2⟩ := hex
    refine countP_lt E hpq he ?_ ?_
    · simp only [bothFin, Bool.and_eq_false_iff, beq_eq_false_iff_ne]
      by_cases hx : f e.1 = M e.1
      · right; intro hy; exact h2 ⟨hx, hy⟩
      · left; exact hx
    · have := hstep e he h1
      simp only [bothFin, Bool.and_eq_true, beq_iff_eq]
      exact this
theorem rounds_many {E : List Duo} {M : Nat → Nat} (hM : Roots E M) : ∀ (r : Nat) (f : Nat → Nat), Near E f → Near E (rounds E r f) ∧ (E.countP (bothFin M f) + r ≤ E.countP (bothFin M (rounds E r f)) ∨ ∀ e, e ∈ E → bothFin M (rounds E r f) e = true) := by
  intro r
  induction r with
  | zero => intro f h; exact ⟨h, .inl (Nat.le_refl _)⟩
  | succ r ih =>
    intro f h
    obtain ⟨h1, h2⟩ := ih (round E f) (near_round h)
    refine ⟨h1, ?_⟩
    show E.countP (bothFin M f) + (r + 1) ≤ E.countP (bothFin M (rounds E r (round E f))) ∨ ∀ e, e ∈ E → bothFin M (rounds E r (round E f)) e = true
    rcases h2 with h2 | h2
    · rcases round_more hM h with h3 | h3
      · left; omega
      · right
        -- all edges were final before; they are still
        have hstep := fin_foldl hM E f (fun _ he => he) h
        have hall : ∀ e, e ∈ E → bothFin M (round E f) e = true := by
          intro e he
          have := h3 e he
          simp only [bothFin, Bool.and_eq_true, beq_iff_eq] at this ⊢
          exact hstep e he (.inl this.1)
        have hc : E.countP (bothFin M (round E f)) = E.length := List.countP_eq_length.2 hall
        have hc2 : E.countP (bothFin M (rounds E r (round E f))) ≤ E.length := List.countP_le_length
        exact List.countP_eq_length.1 (by omega)
    · exact .inr h2
/-- As many rounds as there are edges come to the classes' least vertices. -/
theorem rounds_eq (E : List Duo) (i : Nat) : rounds E E.length id i = merged E i := by
  have hM := roots_merged E
  obtain ⟨hN, h⟩ := rounds_many hM E.length id (near_id E)
  have hall : ∀ e, e ∈ E → bothFin (merged E) (rounds E E.length id) e = true := by
    rcases h with h | h
    · have hc2 : E.countP (bothFin (merged E) (rounds E E.length id)) ≤ E.length := List.countP_le_length
      exact List.countP_eq_length.1 (by omega)
    · exact h
  by_cases hi : ∃ e, e ∈ E ∧ (e.1 = i ∨ e.2 = i)
  · obtain ⟨e, he, h1⟩ := hi
    have := hall e he
    simp only [bothFin, Bool.and_eq_true, beq_iff_eq] at this
    rcases h1 with rfl | rfl
    · exact this.1
    · exact this.2
  · have hal : ∀ e, e ∈ E → e.1 ≠ i ∧ e.2 ≠ i := fun e he => ⟨fun h1 => hi ⟨e, he, .inl h1⟩, fun h1 => hi ⟨e, he, .inr h1⟩⟩
    have h1 := (hN.conn i).alone hal
    have h2 : merged E i = i := ((hM.iff _ _).1 (hM.root i)).symm.alone hal
    rw [h1, h2]
end Go.Proofs.Ytkikaakfdggklaa.MathGroups
