/- Plain facts on the printed functions that the laws on strong rivers use (how many leaps are left from each place); no conditions. -/
import Derived.Test.YtaocebflcjomhaaDoorKStand
import Derived.Test.YtaocebflcjomhaaDoorKx5
import Derived.Test.YtaocebflcjomhaaDoorKx8
set_option linter.unusedVariables false
set_option linter.unusedSimpArgs false
namespace Go.Proofs.YtaocebflcjomhaaDoor.K
open Go.RowKit Go.Proofs.YtaocebflcjomhaaDoorW.PrintWords Go.Proofs.YtaocebflcjomhaaDoorW.PrintLast Go.Proofs.YtaocebflcjomhaaDoorW.PrintMore
/-- The least number of leaps, m places looked at. -/
def best : Nat → Int → List Int → Int
  | 0, cur, _ => cur
  | _ + 1, cur, [] => cur
  | m + 1, cur, x :: xs => best m (if 0 ≤ x ∧ (cur < 0 ∨ x + 1 < cur) then x + 1 else cur) xs
theorem best_zero (cur : Int) (l : List Int) : best 0 cur l = cur := by cases l <;> rfl
theorem best_nil (m : Nat) (cur : Int) : best m cur [] = cur := by cases m <;> rfl
theorem best_min : ∀ (l : List Int) (m : Nat) (cur : Int), best (min m l.length) cur l = best m cur l
  | [], m, cur => by rw [best_nil, best_nil]
  | x :: l, 0, cur => by rw [Nat.zero_min]
  | x :: l, m + 1, cur => by
    rw [show min (m + 1) (x :: l).length = min m l.length + 1 from by simp only [List.length_cons]; omega]
    simp only [best]
    exact best_min l m _
theorem best_range : ∀ (l : List Int) (m : Nat) (cur B : Int), (∀ x ∈ l, -1 ≤ x ∧ x ≤ B) → -1 ≤ cur → cur ≤ B + 1 → -1 ≤ best m cur l ∧ best m cur l ≤ B + 1
  | [], m, cur, B, h, h1, h2 => by rw [best_nil]; exact ⟨h1, h2⟩
  | x :: l, 0, cur, B, h, h1, h2 => by rw [best_zero]; exact ⟨h1, h2⟩
  | x :: l, m + 1, cur, B, h, h1, h2 => by
    have hx := h x (List.mem_cons_self ..)
    simp only [best]
    refine best_range l m _ B (fun y hy => h y (List.mem_cons_of_mem _ hy)) ?_ ?_
    · split <;> omega
    · split <;> omega
/-- Where the number comes from. -/
theorem best_from : ∀ (l : List Int) (m : Nat) (cur : Int), best m cur l = cur ∨ ∃ i, i < m ∧ i < l.length ∧ 0 ≤ rd l (i : Int) ∧ best m cur l = rd l (i : Int) + 1
  | [], m, cur => Or.inl (best_nil _ _)
  | x :: l, 0, cur => Or.inl (best_zero _ _)
  | x :: l, m + 1, cur => by
    simp only [best]
    have hr : ∀ i : Nat, rd (x :: l) ((i + 1 : Nat) : Int) = rd l (i : Int) := fun i => by simp [rd, List.getD_eq_getElem?_getD]
    rcases best_from l m (if 0 ≤ x ∧ (cur < 0 ∨ x + 1 < cur) then x + 1 else cur) with h | ⟨i, h1, h2, h3, h4⟩
    · by_cases c : 0 ≤ x ∧ (cur < 0 ∨ x + 1 < cur)
      · rw [if_pos c] at h ⊢
        exact Or.inr ⟨0, by omega, by simp, c.1, h⟩
      · rw [if_neg c] at h ⊢
        exact Or.inl h
    · refine Or.inr ⟨i + 1, by omega, by simp only [List.length_cons]; omega, ?_, ?_⟩
      · rw [hr]; exact h3
      · rw [hr]; exact h4
theorem best_keeps : ∀ (l : List Int) (m : Nat) (cur : Int), 0 ≤ cur → 0 ≤ best m cur l
  | [], m, cur, h => by rw [best_nil]; exact h
  | x :: l, 0, cur, h => by rw [best_zero]; exact h
  | x :: l, m + 1, cur, h => by
    simp only [best]
    refine best_keeps l m _ ?_
    split <;> omega
/-- One of the places has a way on: so has this one. -/
theorem best_some : ∀ (l : List Int) (m : Nat) (cur : Int) (i : Nat), i < m → i < l.length → 0 ≤ rd l (i : Int) → 0 ≤ best m cur l
  | [], m, cur, i, h1, h2, h3 => absurd h2 (by simp)
  | x :: l, 0, cur, i, h1, h2, h3 => absurd h1 (by omega)
  | x :: l, m + 1, cur, 0, h1, h2, h3 => by
    have hx : 0 ≤ x := h3
    simp only [best]
    refine best_keeps l m _ ?_
    split <;> omega
  | x :: l, m + 1, cur, i + 1, h1, h2, h3 => by
    have hr : rd (x :: l) ((i + 1 : Nat) : Int) = rd l (i : Int) := by simp [rd, List.getD_eq_getElem?_getD]
    rw [hr] at h3
    simp only [best]
    exact best_some l m _ i (by omega) (by simp only [List.length_cons] at h2; omega) h3
theorem rd_cons_dropL (l : List Int) (i : Nat) (h : i < l.length) : l.drop i = rd l (i : Int) :: l.drop (i + 1) := by
  rw [List.drop_eq_getElem_cons h]
  congr 1
  simp [rd, List.getD_eq_getElem?_getD, List.getElem?_eq_getElem h]
theorem rd_memL (l : List Int) (i : Nat) (h : i < l.length) : rd l (i : Int) ∈ l := by
  have e : rd l (i : Int) = l[i] := by simp [rd, List.getD_eq_getElem?_getD, List.getElem?_eq_getElem h]
  rw [e]
  exact List.getElem_mem h
theorem relax_best (row : List Int) (hb : ∀ x ∈ row, -1 ≤ x ∧ x ≤ 1000000) : ∀ (m p : Nat) (cur : Int), p + m ≤ row.length → relax row m p cur = best m cur (row.drop p) := by
  intro m
  induction m with
  | zero => intro p cur _; rw [best_zero]; rfl
  | succ m ih =>
    intro p cur h
    have hx := hb _ (rd_memL row p (by omega))
    rw [rd_cons_dropL row p (by omega)]
    simp only [relax, best]
    rw [w64 (x := rd row (p : Int) + 1) (by omega) (by omega), ih (p + 1) _ (by omega)]
theorem rd_at (c : Int) (p : Nat) (a : Int) (vals : List Int) : rd (List.replicate p c ++ a :: vals) (p : Int) = a := by
  simp [rd, List.getD_eq_getElem?_getD, List.getElem?_append_right]
theorem rd_behind (c : Int) (p : Nat) (a : Int) (vals : List Int) (i : Nat) : rd (List.replicate p c ++ a :: vals) ((p + 1 + i : Nat) : Int) = rd vals (i : Int) := by
  simp only [rd, List.getD_eq_getElem?_getD, Int.toNat_natCast]
  rw [List.getElem?_append_right (by simp; omega), List.length_replicate, show p + 1 + i - p = i + 1 from by omega, List.getElem?_cons_succ]
theorem set_at (c : Int) (p : Nat) (a b : Int) (vals : List Int) : (List.replicate p c ++ a :: vals).set p b = List.replicate p c ++ b :: vals := by
  rw [List.set_append_right _ _ (by simp)]
  simp
theorem relaxed_at (L p : Nat) (vals : List Int) (hb : ∀ x ∈ vals, -1 ≤ x ∧ x ≤ 1000000) : relaxed L (List.replicate p (-1) ++ (-1) :: vals) p = List.replicate p (-1) ++ best L (-1) vals :: vals := by
  unfold relaxed
  have hl : (List.replicate p (-1 : Int) ++ (-1) :: vals).length = p + 1 + vals.length := by simp; omega
  have hd : (List.replicate p (-1 : Int) ++ (-1) :: vals).drop (p + 1) = vals := by
    rw [List.drop_append, List.drop_of_length_le (by simp), List.length_replicate, show p + 1 - p = 1 from by omega]
    simp
  rw [hl, rd_at, relax_best _ (fun x hx => by
    rcases List.mem_append.1 hx with h | h
    · rw [List.eq_of_mem_replicate h]; decide
    · rcases List.mem_cons.1 h with h | h
      · rw [h]; decide
      · exact hb x h) _ _ _ (by rw [hl]; omega), hd, show min (p + L) (p + 1 + vals.length - 1) - p = min L vals.length from by omega, best_min, set_at]
/-- Whether one stands on a place. -/
def isSt (t : ByteArray) (p : Nat) : Bool := p == 0 || (p == t.size + 1 || bt t ((p : Int) - 1) == 111)
/-- The last numbers, j + 1 of them. -/
def leftL (t : ByteArray) (L : Nat) : Nat → List Int
  | 0 => [0]
  | j + 1 => (if isSt t (t.size - j) = true then best L (-1) (leftL t L j) else -1) :: leftL t L j
theorem leftL_length (t : ByteArray) (L : Nat) : ∀ j, (leftL t L j).length = j + 1
  | 0 => rfl
  | j + 1 => by simp [leftL, leftL_length t L j]
theorem leftL_range (t : ByteArray) (L : Nat) : ∀ (j : Nat), ∀ x ∈ leftL t L j, -1 ≤ x ∧ x ≤ (j : Int)
  | 0, x, h => by simp [leftL] at h; omega
  | j + 1, x, h => by
    have ih := leftL_range t L j
    simp only [leftL, List.mem_cons] at h
    rcases h with rfl | h
    · have := best_range (leftL t L j) L (-1) (j : Int) ih (by omega) (by omega)
      split <;> omega
    · have := ih x h
      omega
theorem leftL_small (t : ByteArray) (ht : t.size ≤ 1000) (L j : Nat) (hj : j ≤ t.size + 1) : ∀ x ∈ leftL t L j, -1 ≤ x ∧ x ≤ 1000000 := fun x hx => by
  have := leftL_range t L j x hx
  omega
theorem stones_snoc (t : ByteArray) : ∀ (m i : Nat), stones t (m + 1) i = stones t m i ++ (if bt t ((i + m : Nat) : Int) = 111 then [((i + m : Nat) : Int) + 1] else []) := by
  intro m
  induction m with
  | zero =>
    intro i
    simp only [stones, Nat.add_zero]
    split <;> simp
  | succ m ih =>
    intro i
    rw [stones, ih (i + 1)]
    simp only [stones]
    rw [show i + 1 + m = i + (m + 1) from by omega]
    by_cases c : bt t (i : Int) = 111
    · rw [if_pos c, if_pos c, List.cons_append]
    · rw [if_neg c, if_neg c]
theorem fold_left (t : ByteArray) (ht : t.size ≤ 1000) (L : Nat) : ∀ m : Nat, m ≤ t.size → ((stones t m 0).reverse ++ [0]).foldl (fun (row : List Int) (x : Int) => relaxed L row x.toNat) (List.replicate (m + 1) (-1) ++ leftL t L (t.size - m)) = leftL t L (t.size + 1) := by
  intro m
  induction m with
  | zero =>
    intro h
    simp only [stones, List.reverse_nil, List.nil_append, List.foldl_cons, List.foldl_nil, Nat.sub_zero]
    have := relaxed_at L 0 (leftL t L t.size) (leftL_small t ht L _ (by omega))
    simp only [List.replicate_zero, List.nil_append] at this
    rw [show List.replicate (0 + 1) (-1 : Int) ++ leftL t L t.size = -1 :: leftL t L t.size from rfl, show (0 : Int).toNat = 0 from rfl, this, leftL, Nat.sub_self, if_pos (by rfl)]
  | succ m ih =>
    intro h
    have ih' := ih (by omega)
    have hr : List.replicate (m + 1 + 1) (-1 : Int) ++ leftL t L (t.size - (m + 1)) = List.replicate (m + 1) (-1) ++ (-1) :: leftL t L (t.size - (m + 1)) := by
      rw [List.replicate_succ', List.append_assoc]
      rfl
    have hs : t.size - m = (t.size - (m + 1)) + 1 := by omega
    rw [hs, leftL, show t.size - (t.size - (m + 1)) = m + 1 from by omega] at ih'
    have hi : isSt t (m + 1) = (bt t (m : Int) == 111) := by
      unfold isSt
      rw [show ((m + 1 : Nat) : Int) - 1 = (m : Int) from by omega, show (m + 1 == 0) = false from by simp, show (m + 1 == t.size + 1) = false from by simp; omega, Bool.false_or, Bool.false_or]
    rw [stones_snoc t m 0, Nat.zero_add, hr]
    by_cases c : bt t (m : Int) = 111
    · rw [if_pos c, List.reverse_append, List.reverse_singleton, List.singleton_append, List.cons_append, List.foldl_cons, show ((m : Int) + 1).toNat = m + 1 from by omega, relaxed_at L (m + 1) _ (leftL_small t ht L _ (by omega))]
      rw [hi, if_pos (by rw [beq_iff_eq]; exact c)] at ih'
      exact ih'
    · rw [if_neg c, List.append_nil]
      rw [hi, if_neg (by rw [beq_iff_eq]; exact c)] at ih'
      exact ih'
theorem backTo_rev (st : List Int) : (backTo st).map (·.2) = st.reverse := by
  unfold backTo
  rw [List.map_map]
  apply List.ext_getElem
  · simp
  · intro i h1 h2
    simp at h1
    simp only [List.getElem_map, List.getElem_range, Function.comp, List.getElem_reverse]
    rw [List.getElem?_eq_getElem (by omega)]
    rfl
theorem leftRow_rev (L : Nat) (row st : List Int) : leftRow L row (backTo st) = st.reverse.foldl (fun (row : List Int) (x : Int) => relaxed L row x.toNat) row := by
  rw [← backTo_rev, List.foldl_map]
  rfl
theorem leapsLeft_eq (t : ByteArray) (ht : t.size ≤ 1000) (L : Nat) (h1 : 1 ≤ L) (h2 : L ≤ 1000) (k : Nat) (hk : t.size < k) : impl_leapsLeft.f k t (L : Int) = some (leftL t L (t.size + 1)) := by
  unfold impl_leapsLeft.f
  have hsl := stones_length t t.size 0
  rw [if_pos ⟨ht, by omega, by omega⟩, stand_eq t (by omega) k hk, Option.bind_some, if_pos, Int.toNat_natCast, leftRow_rev]
  · congr 1
    unfold stands
    rw [List.reverse_append, List.reverse_singleton, List.singleton_append, List.reverse_cons, List.foldl_cons]
    have hs : leftStart t.size = List.replicate (t.size + 1) (-1) ++ leftL t L (t.size - t.size) := by
      unfold leftStart
      rw [List.replicate_succ', set_at, Nat.sub_self]
      rfl
    have hx : relaxed L (leftStart t.size) (((t.size : Int) + 1).toNat) = leftStart t.size := by
      have hl : (leftStart t.size).length = t.size + 2 := by simp [leftStart]
      unfold relaxed
      rw [hl, show ((t.size : Int) + 1).toNat = t.size + 1 from by omega, show min (t.size + 1 + L) (t.size + 2 - 1) - (t.size + 1) = 0 from by omega, relax]
      exact set_same _ _ (by omega)
    rw [hx, hs]
    exact fold_left t ht L t.size (Nat.le_refl _)
  · constructor
    · rw [List.all_eq_true]
      intro x hx
      have := (stands_mem t x).1 hx
      simp only [Bool.and_eq_true, decide_eq_true_eq]
      omega
    · unfold stands
      simp
      omega
theorem rvStand_is (t : ByteArray) (ht : t.size ≤ 1000) (p : Nat) (h : p ≤ t.size) : spec_rvStand.f t (p : Int) = some (isSt t p) := by
  unfold spec_rvStand.f isSt
  by_cases c : p = 0
  · subst c
    rw [if_pos (show ((0 : Nat) : Int) = 0 from rfl)]
    rfl
  · rw [if_neg (by omega), w64 (x := (t.size : Int) + 1) (by omega) (by omega), if_neg (by omega), w64 (x := (p : Int) - 1) (by omega) (by omega), if_pos (by omega), if_pos (by omega), show (p == 0) = false from by simpa using c, show (p == t.size + 1) = false from by simp; omega, Bool.false_or, Bool.false_or]
theorem rv_l1 (t : ByteArray) (ht : t.size ≤ 1000) (L p : Nat) (hL : L ≤ 1000) (hp : p ≤ t.size) (vals : List Int) (hv : vals.length = t.size + 1 - p) (hb : ∀ x ∈ vals, -1 ≤ x ∧ x ≤ 1000000) : ∀ (m i k : Nat) (cur : Int), m = min L vals.length - i → i ≤ min L vals.length → spec_rvLeft.l1 (k + 2 * m + 2) t (L : Int) ((t.size : Int) + 1) (List.replicate p 0 ++ cur :: vals) (p : Int) ((p + 1 + i : Nat) : Int) = spec_rvLeft.l0 k t (L : Int) ((t.size : Int) + 1) (List.replicate p 0 ++ best m cur (vals.drop i) :: vals) ((p : Int) - 1) := by
  intro m
  induction m with
  | zero =>
    intro i k cur hm hi
    rw [show k + 2 * 0 + 2 = k + 1 + 1 from by omega, best_zero]
    simp only [spec_rvLeft.l1]
    have e1 : wrap64 ((p : Int) - 1) = (p : Int) - 1 := w64 (by omega) (by omega)
    have e2 : wrap64 ((p : Int) + (L : Int)) = (p : Int) + (L : Int) := w64 (by omega) (by omega)
    by_cases c : ((p + 1 + i : Nat) : Int) ≤ (t.size : Int) + 1
    · rw [if_pos c, e2, decide_eq_false (by omega)]
      simp only [spec_rvLeft.j2]
      rw [if_neg (by decide), e1]
    · rw [if_neg c]
      simp only [spec_rvLeft.j2]
      rw [if_neg (by decide), e1]
  | succ m ih =>
    intro i k cur hm hi
    have hx := hb _ (rd_memL vals i (by omega))
    have hlen : (List.replicate p (0 : Int) ++ cur :: vals).length = t.size + 2 := by simp; omega
    rw [show k + 2 * (m + 1) + 2 = (k + 2 * m + 2) + 1 + 1 from by omega, rd_cons_dropL vals i (by omega)]
    simp only [spec_rvLeft.l1]
    rw [if_pos (by omega), w64 (x := (p : Int) + (L : Int)) (by omega) (by omega), decide_eq_true (by omega)]
    simp only [spec_rvLeft.j2, best]
    rw [if_pos trivial, if_pos (by omega), hlen, if_pos (by omega), rd_behind, rd_at, Int.toNat_natCast, set_at, w64 (x := rd vals (i : Int) + 1) (by omega) (by omega), show wrap64 (((p + 1 + i : Nat) : Int) + 1) = ((p + 1 + (i + 1) : Nat) : Int) from by unfold wrap64; omega]
    rw [ih (i + 1) k _ (by omega) (by omega), ih (i + 1) k _ (by omega) (by omega)]
    by_cases c1 : rd vals (i : Int) ≥ 0
    · rw [if_pos c1, if_pos (by omega), if_pos (by omega)]
      by_cases c2 : cur < 0
      · rw [if_pos c2, if_pos ⟨c1, Or.inl c2⟩]
      · rw [if_neg c2]
        by_cases c3 : rd vals (i : Int) + 1 < cur
        · rw [if_pos c3, if_pos ⟨c1, Or.inr c3⟩]
        · rw [if_neg c3, if_neg (fun h => h.2.elim c2 c3)]
    · rw [if_neg c1, if_neg (fun h => c1 h.1)]
theorem rv_l0 (t : ByteArray) (ht : t.size ≤ 1000) (L : Nat) (h1 : 1 ≤ L) (hL : L ≤ 1000) : ∀ (q k : Nat), q ≤ t.size + 1 → q * (2 * L + 3) < k → spec_rvLeft.l0 k t (L : Int) ((t.size : Int) + 1) (List.replicate q 0 ++ leftL t L (t.size + 1 - q)) ((q : Int) - 1) = some (leftL t L (t.size + 1)) := by
  intro q
  induction q with
  | zero =>
    intro k hq hk
    obtain ⟨k, rfl⟩ : ∃ k', k = k' + 1 := ⟨k - 1, by omega⟩
    simp only [spec_rvLeft.l0]
    rw [if_neg (by omega)]
    simp
  | succ p ih =>
    intro k hq hk
    rw [Nat.succ_mul] at hk
    have hvl := leftL_length t L (t.size - p)
    have hlen : (List.replicate (p + 1) (0 : Int) ++ leftL t L (t.size + 1 - (p + 1))).length = t.size + 2 := by
      rw [List.length_append, List.length_replicate, leftL_length]
      omega
    obtain ⟨k, rfl⟩ : ∃ k', k = k' + 1 := ⟨k - 1, by omega⟩
    simp only [spec_rvLeft.l0]
    rw [show ((p + 1 : Nat) : Int) - 1 = (p : Int) from by omega, if_pos (by omega), if_pos (by omega), hlen, if_pos (by omega), Option.bind_some, rvStand_is t ht p (by omega), Option.bind_some, Int.toNat_natCast, show t.size + 1 - (p + 1) = t.size - p from by omega, List.replicate_succ', List.append_assoc, List.singleton_append, set_at]
    have hn : t.size + 1 - p = (t.size - p) + 1 := by omega
    have ih1 := fun k hk => ih k (by omega) hk
    rw [hn, leftL, show t.size - (t.size - p) = p from by omega] at ih1
    by_cases c : isSt t p = true
    · rw [if_pos c]
      rw [if_pos c] at ih1
      obtain ⟨M, hM⟩ : ∃ M, M = min L (leftL t L (t.size - p)).length := ⟨_, rfl⟩
      have hML : M ≤ L := by rw [hM]; exact Nat.min_le_left _ _
      have h := rv_l1 t ht L p hL (by omega) (leftL t L (t.size - p)) (by rw [hvl]; omega) (leftL_small t ht L _ (by omega)) M 0 (k - (2 * M + 2)) (-1) (by omega) (by omega)
      rw [show k - (2 * M + 2) + 2 * M + 2 = k from by omega, Nat.add_zero, List.drop_zero, hM, best_min] at h
      rw [show wrap64 ((p : Int) + 1) = ((p + 1 : Nat) : Int) from by unfold wrap64; omega, h]
      exact ih1 _ (by rw [← hM]; omega)
    · rw [if_neg c]
      rw [if_neg c] at ih1
      rw [w64 (x := (p : Int) - 1) (by omega) (by omega)]
      exact ih1 _ (by omega)
theorem rvLeft_eq (t : ByteArray) (ht : t.size ≤ 1000) (L : Nat) (h1 : 1 ≤ L) (hL : L ≤ 1000) (k : Nat) (hk : (t.size + 1) * (2 * L + 3) < k) : spec_rvLeft.f k t (L : Int) = some (leftL t L (t.size + 1)) := by
  unfold spec_rvLeft.f
  have e1 : wrap64 ((t.size : Int) + 1) = (t.size : Int) + 1 := w64 (by omega) (by omega)
  have e2 : wrap64 ((t.size : Int) + 1 + 1) = ((t.size + 2 : Nat) : Int) := by unfold wrap64; omega
  have e3 : wrap64 ((t.size : Int) + 1 - 1) = ((t.size + 1 : Nat) : Int) - 1 := by unfold wrap64; omega
  rw [e1, e2, e3, if_pos (by omega), Int.toNat_natCast, if_pos (by omega)]
  have h := rv_l0 t ht L h1 hL (t.size + 1) k (Nat.le_refl _) hk
  rw [Nat.sub_self, leftL] at h
  rw [List.replicate_succ']
  exact h
end Go.Proofs.YtaocebflcjomhaaDoor.K
