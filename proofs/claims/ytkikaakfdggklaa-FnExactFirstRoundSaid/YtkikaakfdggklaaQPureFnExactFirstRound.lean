/- The plain law of FnExactFirstRound: the same search for a round; no conditions. -/
import Derived.Test.YtkikaakfdggklaaQx59
import Derived.Test.YtkikaakfdggklaaQx50
import Derived.Test.YtkikaakfdggklaaQx49
import Derived.Test.YtkikaakfdggklaaQx44
import Derived.Test.YtkikaakfdggklaaQx38
import Derived.Test.YtkikaakfdggklaaQRound
import Derived.Test.YtkikaakfdggklaaQMarks
import Derived.Test.YtkikaakfdggklaaQAsked
import Derived.Test.YtkikaakfdggklaaQx60
set_option linter.unusedVariables false
set_option linter.unusedSimpArgs false
namespace Go.Proofs.Ytkikaakfdggklaa.Q
open Go.RowKit Go.Proofs.YtkikaakfdggklaaW.PrintWords Go.Proofs.YtkikaakfdggklaaW.PrintLast Go.Proofs.YtkikaakfdggklaaW.PrintMore
theorem own_e (l : List Int) (hl : l.length ≤ 1048576) : spec_l1Own.f l = some l := by
  unfold spec_l1Own.f
  simp only [Option.bind_some, List.length_nil, List.nil_append]
  rw [if_pos (by omega)]
theorem has_l0e (l : List Int) (hl : l.length ≤ 1048576) (x : Int) : ∀ (d k i : Nat), i + d = l.length → d < k → ∃ r, spec_l1Has.l0 k x l (l.length : Int) (i : Int) = some r ∧ (r = true ↔ x ∈ l.drop i) := by
  intro d
  induction d with
  | zero =>
    intro k i hi hk
    obtain ⟨m, rfl⟩ : ∃ m, k = m + 1 := ⟨k - 1, by omega⟩
    rw [spec_l1Has.l0, if_neg (by omega), List.drop_eq_nil_of_le (by omega)]
    exact ⟨_, rfl, by simp⟩
  | succ d ih =>
    intro k i hi hk
    obtain ⟨m, rfl⟩ : ∃ m, k = m + 1 := ⟨k - 1, by omega⟩
    have hlt : i < l.length := by omega
    rw [spec_l1Has.l0, if_pos (by omega), if_pos (by omega), if_pos (by omega), rdI l i hlt, w64s hlt (by omega), List.drop_eq_getElem_cons hlt]
    by_cases e : l[i] = x
    · rw [if_pos e]
      exact ⟨_, rfl, ⟨fun _ => by rw [e]; exact List.mem_cons_self, fun _ => rfl⟩⟩
    · rw [if_neg e]
      obtain ⟨r, h1, h2⟩ := ih m (i + 1) (by omega) (by omega)
      refine ⟨r, h1, h2.trans ?_⟩
      rw [List.mem_cons]
      exact ⟨.inr, fun h => h.resolve_left (fun q => e q.symm)⟩
theorem has_e (l : List Int) (hl : l.length ≤ 1048576) (x : Int) (k : Nat) (hk : l.length < k) : spec_l1Has.f k l x = some (decide (x ∈ l)) := by
  unfold spec_l1Has.f
  obtain ⟨r, h1, h2⟩ := has_l0e l hl x l.length k 0 (by omega) hk
  rw [show ((0 : Nat) : Int) = 0 from rfl] at h1
  rw [h1]
  congr 1
  rw [List.drop_zero] at h2
  rw [Bool.eq_iff_iff, decide_eq_true_eq]
  exact h2
theorem index_l0e (l : List Int) (hl : l.length ≤ 1048576) (x : Int) : ∀ (d k i : Nat), i + d = l.length → d < k → ∃ r, slices_Index_int_int.l0 k l x (l.length : Int) (i : Int) = some r ∧ (0 ≤ r ↔ x ∈ l.drop i) := by
  intro d
  induction d with
  | zero =>
    intro k i hi hk
    obtain ⟨m, rfl⟩ : ∃ m, k = m + 1 := ⟨k - 1, by omega⟩
    rw [slices_Index_int_int.l0, if_neg (by omega), List.drop_eq_nil_of_le (by omega)]
    exact ⟨_, rfl, by simp⟩
  | succ d ih =>
    intro k i hi hk
    obtain ⟨m, rfl⟩ : ∃ m, k = m + 1 := ⟨k - 1, by omega⟩
    have hlt : i < l.length := by omega
    rw [slices_Index_int_int.l0, if_pos (by omega), if_pos (by omega), if_pos (by omega), rdI l i hlt, w64s hlt (by omega), List.drop_eq_getElem_cons hlt]
    by_cases e : x = l[i]
    · rw [if_pos e]
      exact ⟨_, rfl, ⟨fun _ => by rw [e]; exact List.mem_cons_self, fun _ => by omega⟩⟩
    · rw [if_neg e]
      obtain ⟨r, h1, h2⟩ := ih m (i + 1) (by omega) (by omega)
      refine ⟨r, h1, h2.trans ?_⟩
      rw [List.mem_cons]
      exact ⟨.inr, fun h => h.resolve_left e⟩
theorem contains_e (l : List Int) (hl : l.length ≤ 1048576) (x : Int) (k : Nat) (hk : l.length < k) : slices_Contains_int_int.f k l x = some (decide (x ∈ l)) := by
  unfold slices_Contains_int_int.f slices_Index_int_int.f
  obtain ⟨r, h1, h2⟩ := index_l0e l hl x l.length k 0 (by omega) hk
  rw [show ((0 : Nat) : Int) = 0 from rfl] at h1
  rw [h1]
  simp only [Option.bind_some]
  congr 1
  rw [List.drop_zero] at h2
  rw [decide_eq_decide]
  exact h2
/-- Both searches find the same. -/
theorem both_round (n : Int) (bs : List BR) (hL : bs.length ≤ 14) (home : Int) : ∀ (f : Nat) (list : List Int) (now : Int), f + list.length = bs.length + 1 → list.length ≤ bs.length → ∃ (p : List Int) (b : Bool) (K : Nat), p.length ≤ bs.length ∧ ∀ k, K ≤ k → spec_isRound.f k n bs list now home = some (p, b) ∧ round1.f k bs home list now = some (p, b) := by
  intro f
  induction f with
  | zero => intro list now h1 h2; omega
  | succ f ih =>
    intro list now hf hle
    by_cases hl : list.length = bs.length
    · refine ⟨list, now == home, 1, hle, fun k hk => ?_⟩
      obtain ⟨m, rfl⟩ : ∃ m, k = m + 1 := ⟨k - 1, by omega⟩
      rw [spec_isRound.f, round1.f, if_pos (by omega), if_pos (by omega), own_e _ (by omega)]
      exact ⟨rfl, rfl⟩
    · have loop : ∀ (d i : Nat), i + d = bs.length → ∃ (p : List Int) (b : Bool) (K : Nat), p.length ≤ bs.length ∧ ∀ k, K ≤ k → spec_isRound.l0 k list now home bs (bs.length : Int) (i : Int) n bs = some (p, b) ∧ round1.l0 k bs home list now (i : Int) = some (p, b) := by
        intro d
        induction d with
        | zero =>
          intro i hi
          refine ⟨[], false, 1, by simp, fun k hk => ?_⟩
          obtain ⟨m, rfl⟩ : ∃ m, k = m + 1 := ⟨k - 1, by omega⟩
          rw [spec_isRound.l0, round1.l0, if_neg (by omega), if_neg (by omega)]
          exact ⟨rfl, rfl⟩
        | succ d ihd =>
          intro i hi
          have hlt : i < bs.length := by omega
          obtain ⟨p2, b2, K2, hp2, h2⟩ := ihd (i + 1) (by omega)
          have hl2 : (list ++ [(i : Int)]).length = list.length + 1 := by simp
          obtain ⟨p1, b1, K1, hp1, h1⟩ := ih (list ++ [(i : Int)]) (wrap64 (wrap64 (bs[i].f0 + bs[i].f1) - now)) (by rw [hl2]; omega) (by rw [hl2]; omega)
          have ew : wrap64 ((i : Int) + 1) = ((i + 1 : Nat) : Int) := w64s hlt (by omega)
          -- the reference's step behind its test
          have step : ∀ k (t : Bool), K1 + K2 + 2 ≤ k → spec_isRound.j1 (k + 1) list now home (i : Int) bs (bs.length : Int) (i : Int) t n bs bs[i].f0 bs[i].f1 bs[i].f2 = if t = true then some (p2, b2) else if b1 = true then some (p1, true) else some (p2, b2) := by
            intro k t hk
            rw [spec_isRound.j1, ew]
            cases t with
            | true => rw [if_pos rfl, if_pos rfl, (h2 k (by omega)).1]
            | false =>
              rw [if_neg (by simp), if_neg (by simp), own_e _ (by omega)]
              simp only [Option.bind_some]
              have hlim : list.length + [(i : Int)].length < 17592186044416 := by
                have : [(i : Int)].length = 1 := rfl
                omega
              rw [if_pos hlim, (h1 k (by omega)).1]
              simp only [Option.bind_some]
              cases b1 with
              | true => rfl
              | false => rw [if_neg (by simp), if_neg (by simp), (h2 k (by omega)).1]
          by_cases hm : (i : Int) ∈ list
          · refine ⟨p2, b2, K1 + K2 + list.length + 5, hp2, fun k hk => ?_⟩
            obtain ⟨m, rfl⟩ : ∃ m, k = m + 1 + 1 := ⟨k - 2, by omega⟩
            constructor
            · rw [spec_isRound.l0, if_pos (by omega), if_pos (by omega), if_pos (by omega), rdB bs i hlt, has_e _ (by omega) _ _ (by omega)]
              simp only [Option.bind_some]
              rw [step m _ (by omega), step m _ (by omega), decide_eq_true hm, if_pos rfl, ite_self, ite_self]
            · rw [round1.l0, if_pos (by omega), if_pos (by omega), contains_e _ (by omega) _ _ (by omega)]
              simp only [Option.bind_some]
              rw [decide_eq_true hm, if_pos rfl, ew, (h2 (m + 1) (by omega)).2]
          · by_cases ht : bs[i].f0 ≠ now ∧ bs[i].f1 ≠ now
            · refine ⟨p2, b2, K1 + K2 + list.length + 5, hp2, fun k hk => ?_⟩
              obtain ⟨m, rfl⟩ : ∃ m, k = m + 1 + 1 := ⟨k - 2, by omega⟩
              constructor
              · rw [spec_isRound.l0, if_pos (by omega), if_pos (by omega), if_pos (by omega), rdB bs i hlt, if_neg ht.1, if_neg ht.2, step m _ (by omega), if_pos rfl]
              · rw [round1.l0, if_pos (by omega), if_pos (by omega), contains_e _ (by omega) _ _ (by omega)]
                simp only [Option.bind_some]
                rw [decide_eq_false hm, if_neg (by simp), rdB bs i hlt, if_pos ht, ew, (h2 (m + 1) (by omega)).2]
            · refine ⟨if b1 = true then p1 else p2, if b1 = true then true else b2, K1 + K2 + list.length + 5, by split <;> assumption, fun k hk => ?_⟩
              obtain ⟨m, rfl⟩ : ∃ m, k = m + 1 + 1 := ⟨k - 2, by omega⟩
              have hfin : (if b1 = true then some (p1, true) else some (p2, b2)) = some (if b1 = true then p1 else p2, if b1 = true then true else b2) := by
                cases b1 <;> rfl
              rw [← hfin]
              constructor
              · rw [spec_isRound.l0, if_pos (by omega), if_pos (by omega), if_pos (by omega), rdB bs i hlt, has_e _ (by omega) _ _ (by omega)]
                simp only [Option.bind_some]
                rw [decide_eq_false hm]
                have hff : ¬ (false = true) := by simp
                by_cases c0 : bs[i].f0 = now
                · rw [if_pos c0, step m false (by omega), if_neg hff]
                · rw [if_neg c0, if_pos (Classical.byContradiction fun c1 => ht ⟨c0, c1⟩), step m false (by omega), if_neg hff]
              · rw [round1.l0, if_pos (by omega), if_pos (by omega), contains_e _ (by omega) _ _ (by omega)]
                simp only [Option.bind_some]
                rw [decide_eq_false hm, if_neg (by simp), rdB bs i hlt, if_neg ht, if_pos (by omega), (h1 (m + 1) (by omega)).2]
                simp only [Option.bind_some]
                cases b1 with
                | true => rw [if_pos rfl, if_pos rfl]
                | false => rw [if_neg (by simp), if_neg (by simp), ew, (h2 (m + 1) (by omega)).2]
      obtain ⟨p, b, K, hp, h⟩ := loop bs.length 0 (by omega)
      refine ⟨p, b, K + 1, hp, fun k hk => ?_⟩
      obtain ⟨m, rfl⟩ : ∃ m, k = m + 1 := ⟨k - 1, by omega⟩
      rw [spec_isRound.f, round1.f, if_neg (by omega), if_neg (by omega)]
      exact h m (by omega)
/-- What both tell. -/
theorem FirstRound_ev (n : Int) (l : List BR) (hw : ∀ b ∈ l, wfBR b) (a : Int) : ∃ (p : List Int) (b : Bool) (K : Nat), p.length ≤ 1000 ∧ ∀ k, K ≤ k → spec_FirstRound.f k n l a = some (p, b) ∧ impl_FirstRound.f k n l a = some (p, b) := by
  obtain ⟨K1, h1⟩ := isAsked_ev n l a
  by_cases hg : asked n l a = true
  · obtain ⟨N, A, rfl, rfl, hN7, hL, hb, hA⟩ := asked_nat hg
    obtain ⟨K2, h2⟩ := isEven_ev N (by omega) l hb (by omega)
    obtain ⟨K3, h3⟩ := hasRound_ev N (by omega) l hb (by omega)
    obtain ⟨p, b, K4, hp, h4⟩ := both_round (N : Int) l hL (A : Int) (l.length + 1) [] (A : Int) (by simp) (by simp)
    cases hr : (allEven (degs (l.map ed)) N 0 && decide (groupsN N l ≤ lonelyN N l + 1)) with
    | true =>
      refine ⟨p, b, K1 + K2 + K3 + K4, by omega, fun k hk => ?_⟩
      unfold spec_FirstRound.f impl_FirstRound.f
      rw [h1 _ (by omega), areIslands_one _ _ hw]
      simp only [Option.bind_some]
      rw [if_pos hg, if_pos hg, h2 _ (by omega), h3 _ (by omega)]
      simp only [Option.bind_some]
      rw [hr, if_pos rfl, if_pos rfl, (h4 _ (by omega)).1, (h4 _ (by omega)).2]
      exact ⟨rfl, rfl⟩
    | false =>
      refine ⟨[], false, K1 + K2 + K3, by simp, fun k hk => ?_⟩
      unfold spec_FirstRound.f impl_FirstRound.f
      rw [h1 _ (by omega), areIslands_one _ _ hw]
      simp only [Option.bind_some]
      rw [if_pos hg, if_pos hg, h2 _ (by omega), h3 _ (by omega)]
      simp only [Option.bind_some]
      rw [hr, if_neg (by simp), if_neg (by simp)]
      exact ⟨rfl, rfl⟩
  · refine ⟨[], false, K1, by simp, fun k hk => ?_⟩
    unfold spec_FirstRound.f impl_FirstRound.f
    rw [h1 _ (by omega), areIslands_one _ _ hw]
    simp only [Option.bind_some]
    rw [if_neg hg, if_neg hg]
    exact ⟨rfl, rfl⟩
theorem FnExactFirstRound_pure (n : Int) (l : List LB) (a : Int) (w : (Lit.int .i64 n).wf = true) (hm : l.length ≤ 9223372036854775807) (hw : ∀ b ∈ l, WfB b) (wa : (Lit.int .i64 a).wf = true) : ∃ k, laws_FnExactFirstRound.f k n l a = some true := by
  by_cases hl : l.length ≤ 1048576
  · obtain ⟨K1, h1⟩ := toIsles_ev n l hl
    obtain ⟨p, b, K2, hlen, hboth⟩ := FirstRound_ev n (l.map cv) (wf_cv l hw) a
    have h2 := fun k hk => (hboth k hk).1
    have h3 := fun k hk => (hboth k hk).2
    obtain ⟨K3, hK3⟩ : ∃ K3, K3 = K2 := ⟨_, rfl⟩
    obtain ⟨K4, h4⟩ := eqIsles_ev n (l.map cv) (by rw [List.length_map]; omega)
    obtain ⟨K5, h5⟩ := eqIntS_ev (p) (by omega)
    obtain ⟨K7, h7⟩ := markIntS_ev (p) (by omega)
    obtain ⟨K6, h6⟩ := markIsles_ev n (l.map cv) (by rw [List.length_map]; omega)
    refine ⟨K1 + K2 + K3 + K4 + K5 + K6 + K7 + 1 + 1 + 1, ?_⟩
    unfold laws_FnExactFirstRound.f
    rw [szIsles_eq n l hm, if_pos hl, h1 _ (by omega)]
    simp only [Option.bind_some]
    rw [if_neg (by omega), h2 _ (by omega)]
    simp only [Option.bind_some]
    rw [h3 _ (by omega)]
    simp only [Option.bind_some]
    rw [h5 _ (by omega)]
    simp only [Option.bind_some]
    rw [if_pos trivial, laws_FnExactFirstRound.j0, if_neg (by simp), h1 _ (by omega)]
    simp only [Option.bind_some]
    rw [h4 _ (by omega)]
    simp only [Option.bind_some]
    rw [if_pos trivial, (h6 _ (by omega)).1]
    simp only [Option.bind_some]
    rw [if_neg (by omega), h5 _ (by omega)]
    simp only [Option.bind_some]
    rw [if_pos trivial, laws_FnExactFirstRound.j1, if_neg (by simp), (h7 _ (by omega)).1]
    simp only [Option.bind_some]
    rw [(h7 _ (by omega)).2]
    simp only [Option.bind_some]
    rw [if_neg (by omega), if_pos trivial, h1 _ (by omega)]
    simp only [Option.bind_some]
    rw [h3 _ (by omega)]
    simp only [Option.bind_some]
    rw [h5 _ (by omega)]
    simp only [Option.bind_some]
    rw [if_pos trivial, laws_FnExactFirstRound.j2, if_neg (by simp), (h7 _ (by omega)).2]
    simp only [Option.bind_some]
    rw [if_neg (by omega), if_pos trivial]
  · refine ⟨0, ?_⟩
    unfold laws_FnExactFirstRound.f
    rw [szIsles_eq n l hm, if_neg hl]
    simp
end Go.Proofs.Ytkikaakfdggklaa.Q
