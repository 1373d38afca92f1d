/- Degrees of islands, and: all bridges lie in one group if at most one group is not a lonely island; no conditions. -/
import Derived.Test.YtkikaakfdggklaaQGroups
import Derived.Test.YtkikaakfdggklaaQx30
import Derived.Test.YtkikaakfdggklaaQx30
set_option linter.unusedVariables false
set_option linter.unusedSimpArgs false
namespace Go.Proofs.Ytkikaakfdggklaa.Q
open Go.RowKit Go.Proofs.YtkikaakfdggklaaW.PrintWords Go.Proofs.YtkikaakfdggklaaW.PrintLast Go.Proofs.YtkikaakfdggklaaW.PrintMore
open Go.Proofs.Ytkikaakfdggklaa.MathGroups
def up (f : Nat → Nat) (a : Nat) : Nat → Nat := fun i => if i = a then f i + 1 else f i
def bump (f : Nat → Nat) (e : Duo) : Nat → Nat := up (up f e.1) e.2
def degs (E : List Duo) : Nat → Nat := E.foldl bump (fun _ => 0)
theorem up_labels (N : Nat) (f : Nat → Nat) (a : Nat) (h : a < N) : (labels N f).set a ((f a : Int) + 1) = labels N (up f a) := by
  apply List.ext_getElem
  · simp [labels]
  · intro i h1 h2
    simp only [List.length_set, labels_length] at h1
    rw [labels_get N _ i h1, List.getElem_set, labels_get N f i h1]
    unfold up
    by_cases e : a = i
    · subst e
      rw [if_pos rfl, if_pos rfl]
      omega
    · rw [if_neg e, if_neg (fun h => e h.symm)]
theorem up_le (f : Nat → Nat) (a i : Nat) : f i ≤ up f a i ∧ up f a i ≤ f i + 1 := by
  unfold up
  split <;> omega
theorem bump_le (f : Nat → Nat) (e : Duo) (i : Nat) : f i ≤ bump f e i ∧ bump f e i ≤ f i + 2 := by
  have h1 := up_le f e.1 i
  have h2 := up_le (up f e.1) e.2 i
  unfold bump
  omega
theorem bump_zero (f : Nat → Nat) (e : Duo) (i : Nat) : bump f e i = 0 ↔ f i = 0 ∧ e.1 ≠ i ∧ e.2 ≠ i := by
  unfold bump up
  constructor
  · intro h
    by_cases h2 : i = e.2
    · rw [if_pos h2] at h
      omega
    · rw [if_neg h2] at h
      by_cases h1 : i = e.1
      · rw [if_pos h1] at h
        omega
      · rw [if_neg h1] at h
        exact ⟨h, fun x => h1 x.symm, fun x => h2 x.symm⟩
  · rintro ⟨h, h1, h2⟩
    rw [if_neg (fun x => h2 x.symm), if_neg (fun x => h1 x.symm)]
    exact h
theorem foldl_bump_zero (E : List Duo) : ∀ (f : Nat → Nat) (i : Nat), E.foldl bump f i = 0 ↔ f i = 0 ∧ ∀ e ∈ E, e.1 ≠ i ∧ e.2 ≠ i := by
  induction E with
  | nil => intro f i; simp
  | cons e E ih =>
    intro f i
    rw [List.foldl_cons, ih, bump_zero]
    simp only [List.mem_cons, forall_eq_or_imp]
    exact ⟨fun h => ⟨h.1.1, h.1.2, h.2⟩, fun h => ⟨⟨h.1, h.2.1⟩, h.2.2⟩⟩
theorem degs_zero (E : List Duo) (i : Nat) : degs E i = 0 ↔ ∀ e ∈ E, e.1 ≠ i ∧ e.2 ≠ i := by
  unfold degs
  rw [foldl_bump_zero]
  simp
theorem foldl_bump_le (E : List Duo) : ∀ (f : Nat → Nat) (c i : Nat), f i ≤ c → E.foldl bump f i ≤ c + 2 * E.length := by
  induction E with
  | nil => intro f c i h; simpa using h
  | cons e E ih =>
    intro f c i h
    have := (bump_le f e i).2
    have := ih (bump f e) (c + 2) i (by omega)
    rw [List.foldl_cons, List.length_cons]
    omega
theorem bump_step (N : Nat) (f : Nat → Nat) (b : BR) (h : inN N b) (hf : ∀ i, f i ≤ 4000000) :
    (((labels N f).set b.f0.toNat (wrap64 (rd (labels N f) b.f0 + 1))).set b.f1.toNat (wrap64 (rd ((labels N f).set b.f0.toNat (wrap64 (rd (labels N f) b.f0 + 1))) b.f1 + 1))) = labels N (bump f (ed b)) ∧ ((labels N f).set b.f0.toNat (wrap64 (rd (labels N f) b.f0 + 1))).length = N := by
  obtain ⟨h0, h1, h2, h3⟩ := h
  have hb := hf b.f0.toNat
  have e1 : (labels N f).set b.f0.toNat (wrap64 (rd (labels N f) b.f0 + 1)) = labels N (up f b.f0.toNat) := by
    rw [labels_rd' N f _ h0 h1, w64 (by omega) (by omega), up_labels N f _ (by omega)]
  have hc : up f b.f0.toNat b.f1.toNat ≤ 4000001 := by
    have := (up_le f b.f0.toNat b.f1.toNat).2
    have := hf b.f1.toNat
    omega
  refine ⟨?_, by rw [e1, labels_length]⟩
  rw [e1, labels_rd' N _ _ h2 h3, w64 (by omega) (by omega), up_labels N _ _ (by omega)]
  rfl

/-! #### counting -/
theorem cnt_zero_iff (p : Nat → Bool) : ∀ d i, cnt p d i = 0 ↔ ∀ a, i ≤ a → a < i + d → ¬ p a = true := by
  intro d
  induction d with
  | zero => intro i; exact ⟨fun _ a h1 h2 => by omega, fun _ => rfl⟩
  | succ d ih =>
    intro i
    rw [cnt_succ]
    constructor
    · intro h a h1 h2
      by_cases e : a = i
      · subst e
        intro hp
        rw [if_pos hp] at h
        omega
      · exact (ih (i + 1)).1 (by omega) a (by omega) (by omega)
    · intro h
      rw [if_neg (h i (Nat.le_refl _) (by omega)), (ih (i + 1)).2 (fun a h1 h2 => h a (by omega) (by omega))]
theorem cnt_one_iff (p : Nat → Bool) : ∀ d i, cnt p d i ≤ 1 ↔ ∀ a b, i ≤ a → a < i + d → i ≤ b → b < i + d → p a = true → p b = true → a = b := by
  intro d
  induction d with
  | zero => intro i; exact ⟨fun _ a b h1 h2 => by omega, fun _ => by rw [cnt_zero]; omega⟩
  | succ d ih =>
    intro i
    rw [cnt_succ]
    by_cases hp : p i = true
    · rw [if_pos hp]
      constructor
      · intro h a b h1 h2 h3 h4 pa pb
        have hz := (cnt_zero_iff p d (i + 1)).1 (by omega)
        have ha : a = i := by
          apply Classical.byContradiction
          intro e
          exact hz a (by omega) (by omega) pa
        have hb : b = i := by
          apply Classical.byContradiction
          intro e
          exact hz b (by omega) (by omega) pb
        omega
      · intro h
        have hz := (cnt_zero_iff p d (i + 1)).2 (fun a h1 h2 pa => by
          have := h i a (Nat.le_refl _) (by omega) (by omega) (by omega) hp pa
          omega)
        omega
    · rw [if_neg hp, Nat.zero_add, ih]
      constructor
      · intro h a b h1 h2 h3 h4 pa pb
        have ha : a ≠ i := fun e => hp (e ▸ pa)
        have hb : b ≠ i := fun e => hp (e ▸ pb)
        exact h a b (by omega) (by omega) (by omega) (by omega) pa pb
      · intro h a b h1 h2 h3 h4 pa pb
        exact h a b (by omega) (by omega) (by omega) (by omega) pa pb
theorem cnt_split (p q r : Nat → Bool) (h : ∀ i, (if p i = true then 1 else 0) = (if q i = true then 1 else 0) + (if r i = true then 1 else 0)) : ∀ d i, cnt p d i = cnt q d i + cnt r d i := by
  intro d
  induction d with
  | zero => intro i; rfl
  | succ d ih =>
    intro i
    rw [cnt_succ, cnt_succ, cnt_succ, ih (i + 1), h i]
    omega
theorem cnt_congr {p q : Nat → Bool} (h : ∀ i, p i = q i) (d i : Nat) : cnt p d i = cnt q d i := by
  have : p = q := funext h
  rw [this]

/-! #### one group with bridges -/
theorem alone_root {E : List Duo} {M : Nat → Nat} (hM : Roots E M) {i : Nat} (h : degs E i = 0) : M i = i := by
  have c : Conn E i (M i) := (hM.iff i (M i)).1 (hM.root i).symm
  exact Conn.alone ((degs_zero E i).1 h) c
theorem one_group (N : Nat) (E : List Duo) (hN : ∀ e ∈ E, e.1 < N ∧ e.2 < N) (M : Nat → Nat) (hM : Roots E M) :
    (cnt (lead M (-1)) N 0 ≤ cnt (fun i => decide (degs E i = 0)) N 0 + 1) ↔ ∀ e ∈ E, ∀ e' ∈ E, M e.1 = M e'.1 := by
  have hs := cnt_split (lead M (-1)) (fun i => decide (degs E i = 0)) (fun i => lead M (-1) i && !decide (degs E i = 0)) (fun i => by
    by_cases h : degs E i = 0
    · have := alone_root hM h
      have hl : lead M (-1) i = true := by
        simp only [lead, Bool.and_eq_true, decide_eq_true_eq, Bool.not_eq_true', decide_eq_false_iff_not]
        omega
      simp [h, hl]
    · simp [h]) N 0
  have h1 := cnt_one_iff (fun i => lead M (-1) i && !decide (degs E i = 0)) N 0
  have key : (cnt (fun i => lead M (-1) i && !decide (degs E i = 0)) N 0 ≤ 1) ↔ ∀ e ∈ E, ∀ e' ∈ E, M e.1 = M e'.1 := by
    rw [h1]
    have root_of : ∀ e ∈ E, (lead M (-1) (M e.1) && !decide (degs E (M e.1) = 0)) = true ∧ M e.1 < N := by
      intro e he
      have hle := hM.le e.1
      refine ⟨?_, by have := (hN e he).1; omega⟩
      simp only [lead, Bool.and_eq_true, decide_eq_true_eq, Bool.not_eq_true', decide_eq_false_iff_not]
      refine ⟨⟨hM.root _, by omega⟩, fun hz => ?_⟩
      have c : Conn E (M e.1) e.1 := (hM.iff _ _).1 (hM.root _)
      have := Conn.alone ((degs_zero E _).1 hz) c
      exact ((degs_zero E _).1 hz e he).1 this
    constructor
    · intro h e he e' he'
      exact h _ _ (Nat.zero_le _) (by have := (root_of e he).2; omega) (Nat.zero_le _) (by have := (root_of e' he').2; omega) (root_of e he).1 (root_of e' he').1
    · intro h a b _ _ _ _ pa pb
      have touch : ∀ a, (lead M (-1) a && !decide (degs E a = 0)) = true → ∃ e ∈ E, M e.1 = a := by
        intro a pa
        simp only [lead, Bool.and_eq_true, decide_eq_true_eq, Bool.not_eq_true', decide_eq_false_iff_not] at pa
        obtain ⟨⟨hr, _⟩, hd⟩ := pa
        rw [degs_zero] at hd
        have : ∃ e ∈ E, e.1 = a ∨ e.2 = a := by
          apply Classical.byContradiction
          intro hne
          apply hd
          intro e he
          constructor
          · intro x; exact hne ⟨e, he, .inl x⟩
          · intro x; exact hne ⟨e, he, .inr x⟩
        obtain ⟨e, he, h12⟩ := this
        refine ⟨e, he, ?_⟩
        rcases h12 with h1 | h2
        · rw [h1, hr]
        · have : Conn E e.1 e.2 := .edge he
          rw [(hM.iff _ _).2 this, h2, hr]
      obtain ⟨e, he, rfl⟩ := touch a pa
      obtain ⟨e', he', rfl⟩ := touch b pb
      exact h e he e' he'
  rw [← key, hs]
  omega

/-! #### the program's -/
theorem hasRound_l0 (N : Nat) (n : Int) (bs0 bs : List BR) (hb : ∀ b ∈ bs, inN N b) (hL : bs.length ≤ 1048576) : ∀ (d k j : Nat) (f : Nat → Nat), j + d = bs.length → (∀ i, f i ≤ 2 * j) →
    impl_Isles_hasRound.l0 (k + (d + 1)) (labels N f) bs (bs.length : Int) (j : Int) n bs0 = impl_Isles_hasRound.l1 k 0 (labels N (((bs.drop j).map ed).foldl bump f)) (N : Int) 0 n bs0 := by
  intro d
  induction d with
  | zero =>
    intro k j f hj hf
    rw [impl_Isles_hasRound.l0, if_neg (by omega), List.drop_eq_nil_of_le (by omega), labels_length]
    rfl
  | succ d ih =>
    intro k j f hj hf
    have hlt : j < bs.length := by omega
    rw [show k + (d + 1 + 1) = (k + (d + 1)) + 1 from by omega, impl_Isles_hasRound.l0]
    have hin := hb bs[j] (List.getElem_mem hlt)
    obtain ⟨h0, h1, h2, h3⟩ := hin
    have hs := bump_step N f bs[j] ⟨h0, h1, h2, h3⟩ (fun i => by have := hf i; omega)
    simp only [Option.bind_some]
    rw [if_pos (by omega), if_pos (by omega), if_pos (by omega), rdB bs j hlt, labels_length, if_pos h0, if_pos h1, if_pos h2, if_pos h3, hs.1, w64s hlt (by omega), ih k (j + 1) _ (by omega) (fun i => by have := (bump_le f (ed bs[j]) i).2; have := hf i; omega), List.drop_eq_getElem_cons hlt]
    rfl
def allEven (f : Nat → Nat) (d i : Nat) : Bool := (List.range' i d).all fun j => f j % 2 == 0
theorem allEven_succ (f : Nat → Nat) (d i : Nat) : allEven f (d + 1) i = ((f i % 2 == 0) && allEven f d (i + 1)) := by
  unfold allEven
  rw [List.range'_succ, List.all_cons]
theorem hasRound_l1 (N : Nat) (hN : N ≤ 1048576) (bs : List BR) (hb : ∀ b ∈ bs, inN N b) (hL : bs.length ≤ 1048576) (f : Nat → Nat) (hf : ∀ i, f i ≤ 4000000) : ∃ K, ∀ (d k i : Nat) (acc : Nat), i + d = N → acc ≤ i → K ≤ k →
    impl_Isles_hasRound.l1 (k + (d + 1)) (acc : Int) (labels N f) (N : Int) (i : Int) (N : Int) bs = some (allEven f d i && decide (groupsN N bs ≤ acc + cnt (fun i => decide (f i = 0)) d i + 1)) := by
  obtain ⟨K, h⟩ := countGroups_ev N hN bs hb hL
  refine ⟨K, fun d => ?_⟩
  have hg : groupsN N bs ≤ N := cnt_le _ _ _
  induction d with
  | zero =>
    intro k i acc hi ha hk
    rw [impl_Isles_hasRound.l1, if_neg (by omega), h _ (by omega), cnt_zero]
    simp only [Option.bind_some]
    rw [w64 (by omega) (by omega)]
    congr 1
    simp only [allEven, List.range'_zero, List.all_nil, Bool.true_and, decide_eq_decide]
    omega
  | succ d ih =>
    intro k i acc hi ha hk
    have hfi := hf i
    rw [show k + (d + 1 + 1) = (k + (d + 1)) + 1 from by omega, impl_Isles_hasRound.l1, if_pos (by omega), if_pos (by omega), labels_length, if_pos (by omega), labels_rd N f i (by omega), w64 (x := (i : Int) + 1) (by omega) (by omega), show (i : Int) + 1 = ((i + 1 : Nat) : Int) from by omega, cnt_succ, bit_eq, allEven_succ]
    have hm : Int.tmod (f i : Int) 2 = ((f i % 2 : Nat) : Int) := by
      rw [show (2 : Int) = ((2 : Nat) : Int) from rfl, Int.ofNat_tmod]
    rw [hm]
    by_cases h2 : f i % 2 = 0
    · rw [if_neg (by omega)]
      simp only [Option.bind_some]
      by_cases h1 : f i = 0
      · have e : ((f i : Int) == 0) = true := by simp [h1]
        rw [if_pos e, w64 (by omega) (by omega), show (acc : Int) + 1 = ((acc + 1 : Nat) : Int) from by omega, ih k (i + 1) (acc + 1) (by omega) (by omega) hk, if_pos (by simpa using h1)]
        simp only [h2, BEq.rfl, Bool.true_and]
        congr 2
        rw [decide_eq_decide]
        omega
      · have e : ¬ ((f i : Int) == 0) = true := by simp [h1]
        rw [if_neg e, w64 (by omega) (by omega), show (acc : Int) + 0 = ((acc : Nat) : Int) from by omega, ih k (i + 1) acc (by omega) (by omega) hk, if_neg (by simpa using h1), Nat.zero_add]
        simp only [h2, BEq.rfl, Bool.true_and]
    · rw [if_pos (by omega)]
      have : (f i % 2 == 0) = false := by simp [h2]
      rw [this, Bool.false_and, Bool.false_and]
def lonelyN (N : Nat) (bs : List BR) : Nat := cnt (fun i => decide (degs (bs.map ed) i = 0)) N 0
theorem degs_le (bs : List BR) (hL : bs.length ≤ 1048576) (i : Nat) : degs (bs.map ed) i ≤ 4000000 := by
  have := foldl_bump_le (bs.map ed) (fun _ => 0) 0 i (Nat.le_refl _)
  unfold degs
  rw [List.length_map] at this
  omega
theorem replicate_labels (N : Nat) : List.replicate N (0 : Int) = labels N (fun _ => 0) := by
  apply List.ext_getElem
  · simp [labels]
  · intro i h1 h2
    simp [labels]
theorem hasRound_ev (N : Nat) (hN : N ≤ 1048576) (bs : List BR) (hb : ∀ b ∈ bs, inN N b) (hL : bs.length ≤ 1048576) : ∃ K, ∀ k, K ≤ k → impl_Isles_hasRound.f k (N : Int) bs = some (allEven (degs (bs.map ed)) N 0 && decide (groupsN N bs ≤ lonelyN N bs + 1)) := by
  obtain ⟨K, h⟩ := hasRound_l1 N hN bs hb hL (degs (bs.map ed)) (degs_le bs hL)
  refine ⟨K + (N + 1) + (bs.length + 1), fun k hk => ?_⟩
  obtain ⟨m, rfl⟩ : ∃ m, k = (m + (N + 1)) + (bs.length + 1) := ⟨k - (N + 1) - (bs.length + 1), by omega⟩
  unfold impl_Isles_hasRound.f
  rw [if_pos (by omega), if_pos (by omega), Int.toNat_natCast, replicate_labels]
  have h0 := hasRound_l0 N (N : Int) bs bs hb hL bs.length (m + (N + 1)) 0 (fun _ => 0) (by omega) (fun _ => Nat.zero_le _)
  have h1 := h N m 0 0 (by omega) (by omega) (by omega)
  rw [show ((0 : Nat) : Int) = 0 from rfl] at h0 h1
  rw [h0, List.drop_zero]
  rw [Nat.zero_add] at h1
  exact h1

/-! #### the reference's -/
theorem isEven_l1 (N : Nat) (hN : N ≤ 1048576) (f : Nat → Nat) (hf : ∀ i, f i ≤ 4000000) : ∀ (d k i : Nat), i + d = N →
    spec_isEven.l1 (k + (d + 1)) (labels N f) (N : Int) (i : Int) = some (allEven f d i) := by
  intro d
  induction d with
  | zero =>
    intro k i hi
    rw [spec_isEven.l1, if_neg (by omega)]
    rfl
  | succ d ih =>
    intro k i hi
    rw [show k + (d + 1 + 1) = (k + (d + 1)) + 1 from by omega, spec_isEven.l1, if_pos (by omega), if_pos (by omega), labels_length, if_pos (by omega), labels_rd N f i (by omega), w64 (x := (i : Int) + 1) (by omega) (by omega), show (i : Int) + 1 = ((i + 1 : Nat) : Int) from by omega, allEven_succ]
    have hm : Int.tmod (f i : Int) 2 = ((f i % 2 : Nat) : Int) := by
      rw [show (2 : Int) = ((2 : Nat) : Int) from rfl, Int.ofNat_tmod]
    rw [hm]
    by_cases h2 : f i % 2 = 0
    · rw [if_neg (by omega), ih k (i + 1) (by omega)]
      simp only [h2, BEq.rfl, Bool.true_and]
    · rw [if_pos (by omega)]
      have : (f i % 2 == 0) = false := by simp [h2]
      rw [this, Bool.false_and]
theorem isEven_l0 (N : Nat) (hN : N ≤ 1048576) (M : Nat → Nat) (n : Int) (bs : List BR) (hb : ∀ b ∈ bs, inN N b) (hL : bs.length ≤ 1048576) : ∀ (d k j : Nat) (f : Nat → Nat) (h0 : 0 < bs.length ∨ d = 0), j + d = bs.length → (∀ i, f i ≤ 2 * j) →
    spec_isEven.l0 (k + (N + 1) + (d + 1)) (labels N M) (labels N f) bs (bs.length : Int) (j : Int) n bs = some ((bs.drop j).all (fun b => M b.f0.toNat == M (bs.headD z37).f0.toNat) && allEven (((bs.drop j).map ed).foldl bump f) N 0) := by
  intro d
  induction d with
  | zero =>
    intro k j f _ hj hf
    rw [spec_isEven.l0, if_neg (by omega), List.drop_eq_nil_of_le (by omega), labels_length]
    have := isEven_l1 N hN f (fun i => by have := hf i; omega) N k 0 (by omega)
    rw [show ((0 : Nat) : Int) = 0 from rfl] at this
    rw [this]
    rfl
  | succ d ih =>
    intro k j f hz hj hf
    have hlt : j < bs.length := by omega
    rw [show k + (N + 1) + (d + 1 + 1) = (k + (N + 1) + (d + 1)) + 1 from by omega, spec_isEven.l0]
    have hin := hb bs[j] (List.getElem_mem hlt)
    obtain ⟨h0, h1, h2, h3⟩ := hin
    have hin := hb bs[0] (List.getElem_mem (by omega))
    obtain ⟨g0, g1, g2, g3⟩ := hin
    have hs := bump_step N f bs[j] ⟨h0, h1, h2, h3⟩ (fun i => by have := hf i; omega)
    have hd : rd_T37 bs 0 = bs[0]'(by omega) := rdB bs 0 (by omega)
    have hh : bs.headD z37 = bs[0]'(by omega) := by
      cases bs with
      | nil => exact absurd hlt (by simp)
      | cons b t => rfl
    simp only [Option.bind_some]
    rw [if_pos (by omega), if_pos (by omega), if_pos (by omega), rdB bs j hlt, labels_length, if_pos h0, if_pos h1, if_pos h2, if_pos h3, labels_length, if_pos h1, if_pos (by omega), hd, if_pos g0, if_pos g1, labels_rd' N M _ h0 h1, labels_rd' N M _ g0 g1, hs.1, w64s hlt (by omega), List.drop_eq_getElem_cons hlt, List.all_cons, hh]
    by_cases e : M bs[j].f0.toNat = M bs[0].f0.toNat
    · rw [if_pos (by omega), ih k (j + 1) _ (by omega) (by omega) (fun i => by have := (bump_le f (ed bs[j]) i).2; have := hf i; omega), hh]
      simp only [e, BEq.rfl, Bool.true_and]
      rfl
    · rw [if_neg (by omega)]
      have : (M bs[j].f0.toNat == M bs[0].f0.toNat) = false := by simp [e]
      rw [this, Bool.false_and, Bool.false_and]
theorem isEven_ev (N : Nat) (hN : N ≤ 1048576) (bs : List BR) (hb : ∀ b ∈ bs, inN N b) (hL : bs.length ≤ 1048576) : ∃ K, ∀ k, K ≤ k → spec_isEven.f k (N : Int) bs = some (allEven (degs (bs.map ed)) N 0 && decide (groupsN N bs ≤ lonelyN N bs + 1)) := by
  obtain ⟨K, h⟩ := isGroups_all N hN bs hb hL
  refine ⟨K + (N + 1) + (bs.length + 1), fun k hk => ?_⟩
  unfold spec_isEven.f
  rw [h k (by omega)]
  obtain ⟨m, rfl⟩ : ∃ m, k = (m + (N + 1)) + (bs.length + 1) := ⟨k - (N + 1) - (bs.length + 1), by omega⟩
  simp only [Option.bind_some]
  rw [if_pos (by omega), if_pos (by omega), Int.toNat_natCast, replicate_labels]
  have h0 := isEven_l0 N hN (merged (bs.map ed)) (N : Int) bs hb hL bs.length m 0 (fun _ => 0) (by omega) (by omega) (fun _ => Nat.zero_le _)
  rw [show ((0 : Nat) : Int) = 0 from rfl, List.drop_zero] at h0
  rw [h0]
  congr 1
  have hone := one_group N (bs.map ed) (by
    intro e he
    obtain ⟨b, hbm, rfl⟩ := List.mem_map.1 he
    obtain ⟨q0, q1, q2, q3⟩ := hb b hbm
    unfold ed
    dsimp only
    omega) (merged (bs.map ed)) (roots_merged _)
  rw [Bool.and_comm]
  congr 1
  rw [Bool.eq_iff_iff, List.all_eq_true, decide_eq_true_eq]
  unfold groupsN lonelyN
  rw [hone]
  constructor
  · intro h e he e' he'
    obtain ⟨b, hbm, rfl⟩ := List.mem_map.1 he
    obtain ⟨b', hbm', rfl⟩ := List.mem_map.1 he'
    have e1 := h b hbm
    have e2 := h b' hbm'
    simp only [beq_iff_eq] at e1 e2
    show merged (bs.map ed) b.f0.toNat = merged (bs.map ed) b'.f0.toNat
    rw [e1, e2]
  · intro h b hbm
    simp only [beq_iff_eq]
    cases bs with
    | nil => exact absurd hbm (by simp)
    | cons b0 t => exact h _ (List.mem_map_of_mem hbm) _ (List.mem_map_of_mem (List.mem_cons_self ..))
end Go.Proofs.Ytkikaakfdggklaa.Q
