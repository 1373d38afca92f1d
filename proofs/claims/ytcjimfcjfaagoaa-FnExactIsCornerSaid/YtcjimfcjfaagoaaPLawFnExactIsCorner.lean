/- The law FnExactIsCorner: for every input it returns true and each argument reads as it did: out of its printed walk and the plain law; no conditions. -/
import Derived.Test.YtcjimfcjfaagoaaRows
import Derived.Test.YtcjimfcjfaagoaaPx2
import Derived.Test.YtcjimfcjfaagoaaPPureFnExactIsCorner
import Derived.Test.YtcjimfcjfaagoaaPFacts
import Derived.Test.YtcjimfcjfaagoaaPOpen
import Derived.WalkKit
import Derived.ProofKit
import Derived.OpenShut
import Derived.ShutString
import Derived.ChangeOld
import Derived.Below
import Derived.SizedLaws
import Derived.Test.YtcjimfcjfaagoaaWAll
namespace Go.Proofs.Ytcjimfcjfaagoaa.fnExactIsCorner
open Go.ChangeShapes Go.WideShapes Go.ChangeAt Go.RowKit
open Go.ChangeMaps (open_string shut_string)
open Go.Proofs.YtcjimfcjfaagoaaW
set_option linter.unusedVariables false
theorem own : ownKnob Try.prog.godebug = none := ownT
theorem laidOut : laidOutB Try.prog = true := laidOutT
set_option maxRecDepth 100000 in
theorem lifted (os : Os) (started : os.Started) (H : Type) (enc : TypeId × Value → H) :
    ReturnsInHanded {} Try.checked os 3 .any (Rows.fnExactIsCornerSpec.pre6 enc Try.prog Try.f3 Rows.fnExactIsCornerRow.domain false) (Rows.fnExactIsCornerSpec.post enc Try.prog Try.f3 false true false false) := by
  refine returnsInHanded_of_change_sized (C := Try.checked) own started (by kernel_rfl) Try.func3
    (ChangeSpec.witness6 (enc := enc) (C := Try.checked) false ⟨#[], #[.agg #[.int .i64 0, .int .i64 0]], []⟩ 8 (by kernel_rfl) (by kernel_rfl) (by kernel_rfl) (by kernel_rfl)) ?_
  intro W base args ds gs before hval0 hW hcnd hsz0 _
  have hsz : (DataW.weightsEach Try.prog (Try.f3.params.toList ++ Rows.fnExactIsCornerSpec.plain.varTypes Try.prog) (ds ++ gs)).all (· ≤ reachBytes) = true := hsz0
  have hval : ∀ (j : Nat) t v, Try.f3.params[j]? = some t → args[j]? = some v → Value.okWide Try.prog W .any base t v := hval0
  have hW' := hW
  obtain ⟨p, q, hA0, hV, rfl, hfz, hnd⟩ := hW
  have hA : DataW.TrodAll enc Try.prog W 0 (fun _ => true) true Try.f3.params.toList args.toList ds p := hA0
  rw [Try.params3] at hA hval hsz
  obtain ⟨v0, vs0, d0, ds0, p0, q0, hargs, rfl, rfl, h0, r0⟩ := trodAll_cons hA
  obtain ⟨rfl, rfl, rfl⟩ := trodAll_nil r0
  obtain rfl : args = #[v0] := by cases args; simp_all
  obtain ⟨rfl, rfl⟩ := trodVars_none hV
  have k0 := h0
  have lt0 : ∀ x ∈ p0, x.block < W.heap.size := by obtain ⟨m, hm⟩ := k0; exact DataW.trod_lt m _ _ _ hm
  obtain ⟨x0, y0, rfl, w0, u0⟩ := P.open_corner (hval 0 23 v0 rfl rfl) h0
  clear hA0 hval0 hsz0 hsz
  have h := P.FnExactIsCorner_pure x0 y0 w0 u0
  refine (P.laws_FnExactIsCorner.calls x0 y0 true ⟨rfl⟩ W h).mono fun e W' ⟨he, bel⟩ => ?_
  subst he
  exact ⟨_, rfl, _, _, _, [], _, [], hW', trodAll_mk1 (shut_bool Try.underlying4 _), (trodAll_cons_mk (Below.trod laidOut (by kernel_rfl) (of_decide_eq_true (by kernel_rfl)) k0 bel lt0) trodAll_mk0), rfl, bel.frame _, fun h => by cases h⟩
theorem closed : joinedFacts Try.prog 3 Try.f3 Rows.fnExactIsCornerSpec Rows.fnExactIsCornerRow = true :=
  joined_of (by kernel_rfl) laidOutT mapsRowedT (by kernel_rfl) (by kernel_rfl) (by kernel_rfl) stopsT (by kernel_rfl) stopKnobsT (by kernel_rfl) (by kernel_rfl) (by kernel_rfl) (by kernel_rfl) (by kernel_rfl) (by kernel_rfl) (by kernel_rfl) (by kernel_rfl) (by kernel_rfl) (by kernel_rfl) (by kernel_rfl) (by kernel_rfl) (by kernel_rfl) (by kernel_rfl) (by kernel_rfl) stopsHeardT mayT finT mkT rfl rfl (by kernel_rfl) (by kernel_rfl) (by kernel_rfl)
theorem over : Rows.fnExactIsCornerRow.holds Try.pinned (OpenSpec.ofChange Rows.fnExactIsCornerSpec) :=
  OpenClaim.holds_of_wide 3 Try.f3 rfl rfl rfl rfl rfl rfl rfl ⟨rfl, rfl, rfl, rfl, rfl⟩ rfl rfl rfl rfl rfl (by kernel_rfl) Try.func3 closed
    (of_decide_eq_true (by kernel_rfl)) (by unfold Func.isWrapper; first | (rw [if_pos (by decide +kernel)]; kernel_rfl) | (rw [if_neg (by decide +kernel)]; exact ⟨rfl, rfl⟩))
    (fun os started H enc _ => lifted os started H enc)
theorem proved : Rows.FnExactIsCornerSaid := over
#print axioms proved
end Go.Proofs.Ytcjimfcjfaagoaa.fnExactIsCorner
namespace Go.Proofs.Ytcjimfcjfaagoaa
theorem fnExactIsCorner_holds : Rows.FnExactIsCornerSaid := fnExactIsCorner.proved
end Go.Proofs.Ytcjimfcjfaagoaa
