/- The reference's tolls: rounds of relaxing over the bridges; no conditions. -/
import Derived.Test.YtkikaakfdggklaaQLabels
import Derived.Test.YtkikaakfdggklaaQMathWays
import Derived.Test.YtkikaakfdggklaaQx24
set_option linter.unusedVariables false
set_option linter.unusedSimpArgs false
namespace Go.Proofs.Ytkikaakfdggklaa.Q
open Go.RowKit Go.Proofs.YtkikaakfdggklaaW.PrintWords Go.Proofs.YtkikaakfdggklaaW.PrintLast Go.Proofs.YtkikaakfdggklaaW.PrintMore
open Go.Proofs.Ytkikaakfdggklaa.MathWays
def tri (plain : Bool) (b : BR) : Tri := (b.f0.toNat, b.f1.toNat, if plain = true then 1 else b.f2.toNat)
def edges (plain : Bool) (bs : List BR) : List Tri := bs.map (tri plain)
/-- Bridges between two of the islands 0 .. N - 1, at a toll up to 1000. -/
def fine (N : Nat) (b : BR) : Prop := inN N b ∧ 0 ≤ b.f2 ∧ b.f2 ≤ 1000
theorem edges_in {N : Nat} {plain : Bool} {bs : List BR} (hb : ∀ b ∈ bs, fine N b) : ∀ e, e ∈ edges plain bs → e.1 < N ∧ e.2.1 < N ∧ e.2.2 ≤ 1000 := by
  intro e he
  obtain ⟨b, hm, rfl⟩ := List.mem_map.1 he
  obtain ⟨⟨h0, h1, h2, h3⟩, h4, h5⟩ := hb b hm
  unfold tri
  dsimp only
  refine ⟨by omega, by omega, ?_⟩
  split <;> omega
theorem labels_set (N : Nat) (f : Nat → Nat) (i v : Nat) (hi : i < N) : (labels N f).set i (v : Int) = labels N (upd f i v) := by
  apply List.ext_getElem
  · simp [labels]
  · intro j h1 h2
    simp only [List.length_set, labels_length] at h1
    rw [labels_get N _ j h1, List.getElem_set, labels_get N f j h1]
    unfold upd
    by_cases e : i = j
    · rw [if_pos e, if_pos e.symm]
    · rw [if_neg e, if_neg (fun h => e h.symm)]
theorem isTolls_l2 (N : Nat) (hN : N ≤ 1048576) (plain : Bool) (bs : List BR) (hb : ∀ b ∈ bs, fine N b) (hL : bs.length ≤ 1048576) (r : Nat) (hr : r < 1048576) : ∀ (d k j : Nat) (f : Nat → Nat), (∀ i, f i ≤ 1000000) → j + d = bs.length →
    spec_isTolls.l2 (k + (d + 1)) plain (labels N f) (r : Int) bs (bs.length : Int) (j : Int) (N : Int) bs = spec_isTolls.l1 k plain (labels N ((edges plain (bs.drop j)).foldl low f)) ((r + 1 : Nat) : Int) (N : Int) bs := by
  intro d
  induction d with
  | zero =>
    intro k j f hf hj
    rw [spec_isTolls.l2]
    rw [if_neg (by omega), List.drop_eq_nil_of_le (by omega), w64 (by omega) (by omega)]
    rfl
  | succ d ih =>
    intro k j f hf hj
    have hlt : j < bs.length := by omega
    rw [show k + (d + 1 + 1) = (k + (d + 1)) + 1 from by omega]
    rw [spec_isTolls.l2]
    obtain ⟨⟨h0, h1, h2, h3⟩, h4, h5⟩ := hb bs[j] (List.getElem_mem hlt)
    have hlow : ∀ i, low f (tri plain bs[j]) i ≤ 1000000 := fun i => Nat.le_trans (low_le _ _ _) (hf i)
    have hi := ih k (j + 1) _ hlow (by omega)
    rw [if_pos (by omega), if_pos (by omega), if_pos (by omega), rdB bs j hlt, w64s hlt (by omega), List.drop_eq_getElem_cons hlt]
    obtain ⟨a, ha⟩ : ∃ a : Nat, bs[j].f0 = (a : Int) := ⟨bs[j].f0.toNat, by omega⟩
    obtain ⟨b, hb'⟩ : ∃ b : Nat, bs[j].f1 = (b : Int) := ⟨bs[j].f1.toNat, by omega⟩
    obtain ⟨c, hc⟩ : ∃ c : Nat, bs[j].f2 = (c : Int) := ⟨bs[j].f2.toNat, by omega⟩
    have e1 : tri plain bs[j] = (a, b, if plain = true then 1 else c) := by unfold tri; rw [ha, hb', hc]; simp
    have eE : edges plain (bs[j] :: bs.drop (j + 1)) = tri plain bs[j] :: edges plain (bs.drop (j + 1)) := rfl
    rw [eE, List.foldl_cons]
    rw [e1] at hi ⊢
    rw [ha, hb', hc]
    rw [ha] at h1; rw [hb'] at h3; rw [hc] at h5
    have hfa := hf a
    have hfb := hf b
    have haN : a < N := by omega
    have hbN : b < N := by omega
    have la : ∀ g : Nat → Nat, rd (labels N g) (a : Int) = (g a : Int) := fun g => labels_rd N g a haN
    have lb : ∀ g : Nat → Nat, rd (labels N g) (b : Int) = (g b : Int) := fun g => labels_rd N g b hbN
    cases plain with
    | true =>
      rw [if_pos rfl, labels_length, if_pos (by omega), if_pos (by omega), if_pos (by omega), if_pos (by omega), la, lb, w64 (by omega) (by omega), show (f b : Int) + 1 = ((f b + 1 : Nat) : Int) from by omega, least_eq]
      simp only [Option.bind_some, Int.toNat_natCast]
      rw [labels_set N f a _ haN, la, lb, w64 (by have := upd_le f a (min (f a) (f b + 1)) a (Nat.min_le_left _ _); omega) (by have := upd_le f a (min (f a) (f b + 1)) a (Nat.min_le_left _ _); omega)]
      rw [show ((upd f a (min (f a) (f b + 1)) a : Nat) : Int) + 1 = ((upd f a (min (f a) (f b + 1)) a + 1 : Nat) : Int) from by omega, least_eq]
      simp only [Option.bind_some, Int.toNat_natCast]
      rw [labels_set N _ b _ hbN]
      exact hi
    | false =>
      rw [if_neg (by simp), labels_length, if_pos (by omega), if_pos (by omega), if_pos (by omega), if_pos (by omega), la, lb, w64 (by omega) (by omega), show (f b : Int) + (c : Int) = ((f b + c : Nat) : Int) from by omega, least_eq]
      simp only [Option.bind_some, Int.toNat_natCast]
      rw [labels_set N f a _ haN, la, lb, w64 (by have := upd_le f a (min (f a) (f b + c)) a (Nat.min_le_left _ _); omega) (by have := upd_le f a (min (f a) (f b + c)) a (Nat.min_le_left _ _); omega)]
      rw [show ((upd f a (min (f a) (f b + c)) a : Nat) : Int) + (c : Int) = ((upd f a (min (f a) (f b + c)) a + c : Nat) : Int) from by omega, least_eq]
      simp only [Option.bind_some, Int.toNat_natCast]
      rw [labels_set N _ b _ hbN]
      exact hi
theorem round_le {E : List Tri} {f : Nat → Nat} (hf : ∀ i, f i ≤ 1000000) : ∀ i, E.foldl low f i ≤ 1000000 := fun i => Nat.le_trans (foldl_le E f i) (hf i)
theorem isTolls_l1 (N : Nat) (hN : N ≤ 1048576) (plain : Bool) (bs : List BR) (hb : ∀ b ∈ bs, fine N b) (hL : bs.length ≤ 1048576) : ∀ (d k r : Nat) (f : Nat → Nat), (∀ i, f i ≤ 1000000) → r + d = N →
    spec_isTolls.l1 (k + (d * (bs.length + 2) + 1)) plain (labels N f) (r : Int) (N : Int) bs = some (labels N (rounds (edges plain bs) d f)) := by
  intro d
  induction d with
  | zero =>
    intro k r f hf hr
    rw [show k + (0 * (bs.length + 2) + 1) = k + 1 from by omega]
    rw [spec_isTolls.l1]
    rw [if_neg (by omega)]
    rfl
  | succ d ih =>
    intro k r f hf hr
    have e : k + ((d + 1) * (bs.length + 2) + 1) = ((k + (d * (bs.length + 2) + 1)) + (bs.length + 1)) + 1 := by
      rw [Nat.succ_mul]; omega
    rw [e]
    rw [spec_isTolls.l1]
    have h2 := isTolls_l2 N hN plain bs hb hL r (by omega) bs.length (k + (d * (bs.length + 2) + 1)) 0 f hf (by omega)
    rw [show ((0 : Nat) : Int) = 0 from rfl, List.drop_zero] at h2
    rw [if_pos (by omega), h2, ih k (r + 1) _ (round_le hf) (by omega)]
    rfl
theorem isTolls_l0 (N : Nat) (hN : N ≤ 1048576) (t : Nat) (ht : t < N) (plain : Bool) (bs : List BR) : ∀ (d k i : Nat) (f : Nat → Nat), i + d = N → (∀ j, j < i → f j = 1000000) →
    spec_isTolls.l0 (k + (d + 1)) (t : Int) plain (labels N f) (N : Int) (i : Int) (N : Int) bs = spec_isTolls.l1 k plain (labels N (MathWays.start t 1000000)) 0 (N : Int) bs := by
  intro d
  induction d with
  | zero =>
    intro k i f hi hf
    rw [spec_isTolls.l0]
    rw [if_neg (by omega), labels_length, if_pos (by omega), if_pos (by omega), Int.toNat_natCast]
    have := labels_set N f t 0 ht
    rw [show ((0 : Nat) : Int) = 0 from rfl] at this
    rw [this]
    congr 1
    apply labels_congr
    intro j hj
    unfold upd MathWays.start
    rw [hf j (by omega)]
  | succ d ih =>
    intro k i f hi hf
    rw [show k + (d + 1 + 1) = (k + (d + 1)) + 1 from by omega]
    rw [spec_isTolls.l0]
    have := labels_set N f i 1000000 (by omega)
    rw [show ((1000000 : Nat) : Int) = 1000000 from rfl] at this
    rw [if_pos (by omega), labels_length, if_pos (by omega), if_pos (by omega), Int.toNat_natCast, this, w64 (by omega) (by omega), show (i : Int) + 1 = ((i + 1 : Nat) : Int) from by omega]
    refine ih k (i + 1) _ (by omega) (fun j hj => ?_)
    unfold upd
    split
    · rfl
    · exact hf j (by omega)
/-- The reference's tolls to one island. -/
theorem isTolls_ev (N : Nat) (hN : N ≤ 1048576) (t : Nat) (ht : t < N) (plain : Bool) (bs : List BR) (hb : ∀ b ∈ bs, fine N b) (hL : bs.length ≤ 1048576) : ∃ K, ∀ k, K ≤ k → spec_isTolls.f k (N : Int) bs (t : Int) plain = some (labels N (dist (edges plain bs) N 1000000 t)) := by
  refine ⟨(N * (bs.length + 2) + 1) + (N + 1), fun k hk => ?_⟩
  obtain ⟨m, rfl⟩ : ∃ m, k = (m + (N * (bs.length + 2) + 1)) + (N + 1) := ⟨k - ((N * (bs.length + 2) + 1) + (N + 1)), by omega⟩
  unfold spec_isTolls.f
  have e : List.replicate N (0 : Int) = labels N (fun _ => 0) := by
    apply List.ext_getElem
    · simp [labels]
    · intro i h1 h2
      simp [labels]
  rw [if_pos (by omega), Int.toNat_natCast, if_pos (by omega), e]
  simp only [Option.bind_some]
  have h0 := isTolls_l0 N hN t ht plain bs N (m + (N * (bs.length + 2) + 1)) 0 (fun _ => 0) (by omega) (fun j hj => by omega)
  have h1 := isTolls_l1 N hN plain bs hb hL N m 0 (MathWays.start t 1000000) (fun i => by unfold MathWays.start; split <;> omega) (by omega)
  rw [show ((0 : Nat) : Int) = 0 from rfl] at h0 h1
  rw [labels_length, h0, h1]
  rfl
theorem good_fine {n : Int} {l : List BR} (h : good n l = true) : ∃ N : Nat, n = (N : Int) ∧ 1 ≤ N ∧ N ≤ 7 ∧ l.length ≤ 14 ∧ (∀ b ∈ l, fine N b) := by
  obtain ⟨h1, h2, h3, h4⟩ := good_says h
  refine ⟨n.toNat, by omega, by omega, by omega, h3, fun b hb => ?_⟩
  have := okB_says (h4 b hb)
  unfold fine inN
  omega
theorem fine_inN {N : Nat} {l : List BR} (h : ∀ b ∈ l, fine N b) : ∀ b ∈ l, inN N b := fun b hb => (h b hb).1
/-- one's toll is less than none's, plain or not -/
theorem reach_same {N t s : Nat} {bs : List BR} (hN : N ≤ 7) (hb : ∀ b ∈ bs, fine N b) (ht : t < N) (p q : Bool) (h : dist (edges p bs) N 1000000 t s < 1000000) : dist (edges q bs) N 1000000 t s < 1000000 := by
  obtain ⟨n, d, hw⟩ := dist_walk h
  obtain ⟨d', hw'⟩ := walk_other (F := edges q bs) (fun i j c hj => by
    rcases hj with hj | hj
    · obtain ⟨b, hm, he⟩ := List.mem_map.1 hj
      refine ⟨(tri q b).2.2, .inl (List.mem_map.2 ⟨b, hm, ?_⟩)⟩
      unfold tri at he ⊢
      simp only [Prod.mk.injEq] at he ⊢
      exact ⟨he.1, he.2.1, trivial⟩
    · obtain ⟨b, hm, he⟩ := List.mem_map.1 hj
      refine ⟨(tri q b).2.2, .inr (List.mem_map.2 ⟨b, hm, ?_⟩)⟩
      unfold tri at he ⊢
      simp only [Prod.mk.injEq] at he ⊢
      exact ⟨he.1, he.2.1, trivial⟩) hw
  exact walk_dist (edges_in hb) (by omega) ht hw'
end Go.Proofs.Ytkikaakfdggklaa.Q
