/- Isles without a bridge, as the reference and the program have them; the count of groups as the reference has it; no conditions. -/
import Derived.Test.YtkikaakfdggklaaQx14
import Derived.Test.YtkikaakfdggklaaQx17
import Derived.Test.YtkikaakfdggklaaQGroups
import Derived.Test.YtkikaakfdggklaaQx52
import Derived.Test.YtkikaakfdggklaaQx22
set_option linter.unusedVariables false
set_option linter.unusedSimpArgs false
namespace Go.Proofs.Ytkikaakfdggklaa.Q
open Go.RowKit Go.Proofs.YtkikaakfdggklaaW.PrintWords Go.Proofs.YtkikaakfdggklaaW.PrintLast Go.Proofs.YtkikaakfdggklaaW.PrintMore
def dropAt (l : List BR) (j : Nat) : List BR := l.take j ++ l.drop (j + 1)
theorem dropAt_mem {l : List BR} {j : Nat} {b : BR} (h : b ∈ dropAt l j) : b ∈ l := by
  rcases List.mem_append.1 h with h | h
  · exact List.mem_of_mem_take h
  · exact List.mem_of_mem_drop h
theorem dropAt_length (l : List BR) (j : Nat) : (dropAt l j).length ≤ l.length := by
  unfold dropAt
  simp only [List.length_append, List.length_take, List.length_drop]
  omega
theorem isWithout_eq (l : List BR) (hl : l.length ≤ 1048576) (j : Nat) (hj : j < l.length) : spec_isWithout.f l (j : Int) = some (dropAt l j) := by
  have e1 : wrap64 ((j : Int) + 1) = (j : Int) + 1 := w64 (by omega) (by omega)
  have h0 : (0 : Int) ≤ (j : Int) := by omega
  have h1 : (j : Int) ≤ (l.length : Int) := by omega
  have h2 : (0 : Int) ≤ (j : Int) + 1 := by omega
  have h3 : (j : Int) + 1 ≤ (l.length : Int) := by omega
  have t1 : (l.take j).length ≤ 1048576 := by rw [List.length_take]; omega
  have t2 : (l.drop (j + 1)).length ≤ 1048576 := by rw [List.length_drop]; omega
  have e2 : ((j : Int) + 1).toNat = j + 1 := by omega
  unfold spec_isWithout.f dropAt
  rw [e1, Option.bind_some, if_pos h0, if_pos h1, Option.bind_some, Int.toNat_natCast, List.length_nil, List.nil_append, if_pos (Nat.lt_of_le_of_lt (by omega : 0 + (l.take j).length ≤ 1048576) (by decide)), Option.bind_some, if_pos h2, if_pos h3, Option.bind_some, e2, if_pos (Nat.lt_of_le_of_lt (by omega : (l.take j).length + (l.drop (j + 1)).length ≤ 2097152) (by decide))]
theorem without_eq (l : List BR) (hl : l.length ≤ 1048576) (j : Nat) (hj : j < l.length) : impl_without.f l (j : Int) = some (dropAt l j) := by
  unfold impl_without.f dropAt
  rw [if_pos (by omega), if_pos (by omega), if_pos (by omega), Int.toNat_natCast]
theorem isCountAll_ev (N : Nat) (hN : N ≤ 1048576) (bs : List BR) (hb : ∀ b ∈ bs, inN N b) (hL : bs.length ≤ 1048576) : ∃ K, ∀ k, K ≤ k → ∃ L, spec_isGroups.f k (N : Int) bs (-1) = some L ∧ spec_isCount.f k L (-1) = some ((groupsN N bs : Nat) : Int) := by
  obtain ⟨K2, h2⟩ := isGroups_all N hN bs hb hL
  obtain ⟨K3, h3⟩ := isCount_ev N hN (MathGroups.merged (bs.map ed)) (-1)
  exact ⟨K2 + K3, fun k hk => ⟨_, h2 k (by omega), h3 k (by omega)⟩⟩
end Go.Proofs.Ytkikaakfdggklaa.Q
