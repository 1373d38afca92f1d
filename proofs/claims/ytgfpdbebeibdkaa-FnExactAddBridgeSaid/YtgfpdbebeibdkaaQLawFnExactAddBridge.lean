/- The law FnExactAddBridge: for every input it returns true and each argument reads as it did: out of its printed walk and the plain law; no conditions. -/
import Derived.Test.YtgfpdbebeibdkaaRows
import Derived.Test.YtgfpdbebeibdkaaQx10
import Derived.Test.YtgfpdbebeibdkaaQPureFnExactAddBridge
import Derived.Test.YtgfpdbebeibdkaaQFacts
import Derived.Test.YtgfpdbebeibdkaaQOpen
import Derived.WalkKit
import Derived.ProofKit
import Derived.OpenShut
import Derived.ShutString
import Derived.ChangeOld
import Derived.Below
import Derived.SizedLaws
import Derived.Test.YtgfpdbebeibdkaaWAll
namespace Go.Proofs.Ytgfpdbebeibdkaa.fnExactAddBridge
open Go.ChangeShapes Go.WideShapes Go.ChangeAt Go.RowKit
open Go.ChangeMaps (open_string shut_string)
open Go.Proofs.YtgfpdbebeibdkaaW
set_option linter.unusedVariables false
theorem own : ownKnob Try.prog.godebug = none := ownT
theorem laidOut : laidOutB Try.prog = true := laidOutT
set_option maxRecDepth 100000 in
theorem lifted (os : Os) (started : os.Started) (H : Type) (enc : TypeId × Value → H) :
    ReturnsInHanded {} Try.checked os 3 .any (Rows.fnExactAddBridgeSpec.pre6 enc Try.prog Try.f3 Rows.fnExactAddBridgeRow.domain false) (Rows.fnExactAddBridgeSpec.post enc Try.prog Try.f3 false true false false) := by
  refine returnsInHanded_of_change_sized (C := Try.checked) own started (by kernel_rfl) Try.func3
    (ChangeSpec.witness6 (enc := enc) (C := Try.checked) false ⟨#[], #[.agg #[.int .i64 0, .slice none 0 0], .agg #[.int .i64 0, .int .i64 0, .int .i64 0]], []⟩ 8 (by kernel_rfl) (by kernel_rfl) (by kernel_rfl) (by kernel_rfl)) ?_
  intro W base args ds gs before hval0 hW hcnd hsz0 _
  have hsz : (DataW.weightsEach Try.prog (Try.f3.params.toList ++ Rows.fnExactAddBridgeSpec.plain.varTypes Try.prog) (ds ++ gs)).all (· ≤ reachBytes) = true := hsz0
  have hval : ∀ (j : Nat) t v, Try.f3.params[j]? = some t → args[j]? = some v → Value.okWide Try.prog W .any base t v := hval0
  have hW' := hW
  obtain ⟨p, q, hA0, hV, rfl, hfz, hnd⟩ := hW
  have hA : DataW.TrodAll enc Try.prog W 0 (fun _ => true) true Try.f3.params.toList args.toList ds p := hA0
  rw [Try.params3] at hA hval hsz
  obtain ⟨v0, vs0, d0, ds0, p0, q0, hargs, rfl, rfl, h0, r0⟩ := trodAll_cons hA
  obtain ⟨v1, vs1, d1, ds1, p1, q1, rfl, rfl, rfl, h1, r1⟩ := trodAll_cons r0
  obtain ⟨rfl, rfl, rfl⟩ := trodAll_nil r1
  obtain rfl : args = #[v0, v1] := by cases args; simp_all
  obtain ⟨rfl, rfl⟩ := trodVars_none hV
  have k0 := h0
  have lt0 : ∀ x ∈ p0, x.block < W.heap.size := by obtain ⟨m, hm⟩ := k0; exact DataW.trod_lt m _ _ _ hm
  obtain ⟨n0, A0, c0, l0, rfl, w0, hc0, hr0, hw0⟩ := Q.open_isles (hval 0 24 v0 rfl rfl) h0
  have k1 := h1
  have lt1 : ∀ x ∈ p1, x.block < W.heap.size := by obtain ⟨m, hm⟩ := k1; exact DataW.trod_lt m _ _ _ hm
  obtain ⟨b1, rfl, w1⟩ := Q.open_bridge (hval 1 26 v1 rfl rfl) h1
  clear hA0 hval0 hsz0 hsz
  obtain ⟨k, h⟩ := Q.FnExactAddBridge_pure n0 l0 b1.f0 b1.f1 b1.f2 w0 (PrintWords.Kd.C_max hr0) hw0 w1
  refine (Q.laws_FnExactAddBridge.calls k n0 A0 c0 l0 b1.f0 b1.f1 b1.f2 true ⟨rfl⟩ W hr0 hc0 h).mono fun e W' ⟨he, bel⟩ => ?_
  subst he
  exact ⟨_, rfl, _, _, _, [], _, [], hW', trodAll_mk1 (shut_bool Try.underlying4 _), (trodAll_cons_mk (Below.trod laidOut (by kernel_rfl) (of_decide_eq_true (by kernel_rfl)) k0 bel lt0) (trodAll_cons_mk (Below.trod laidOut (by kernel_rfl) (of_decide_eq_true (by kernel_rfl)) k1 bel lt1) trodAll_mk0)), rfl, bel.frame _, fun h => by cases h⟩
theorem closed : joinedFacts Try.prog 3 Try.f3 Rows.fnExactAddBridgeSpec Rows.fnExactAddBridgeRow = true :=
  joined_of (by kernel_rfl) laidOutT mapsRowedT (by kernel_rfl) (by kernel_rfl) (by kernel_rfl) stopsT (by kernel_rfl) stopKnobsT (by kernel_rfl) (by kernel_rfl) (by kernel_rfl) (by kernel_rfl) (by kernel_rfl) (by kernel_rfl) (by kernel_rfl) (by kernel_rfl) (by kernel_rfl) (by kernel_rfl) (by kernel_rfl) (by kernel_rfl) (by kernel_rfl) (by kernel_rfl) (by kernel_rfl) stopsHeardT mayT finT mkT rfl rfl (by kernel_rfl) (by kernel_rfl) (by kernel_rfl)
theorem over : Rows.fnExactAddBridgeRow.holds Try.pinned (OpenSpec.ofChange Rows.fnExactAddBridgeSpec) :=
  OpenClaim.holds_of_wide 3 Try.f3 rfl rfl rfl rfl rfl rfl rfl ⟨rfl, rfl, rfl, rfl, rfl⟩ rfl rfl rfl rfl rfl (by kernel_rfl) Try.func3 closed
    (of_decide_eq_true (by kernel_rfl)) (by unfold Func.isWrapper; first | (rw [if_pos (by decide +kernel)]; kernel_rfl) | (rw [if_neg (by decide +kernel)]; exact ⟨rfl, rfl⟩))
    (fun os started H enc _ => lifted os started H enc)
theorem proved : Rows.FnExactAddBridgeSaid := over
#print axioms proved
end Go.Proofs.Ytgfpdbebeibdkaa.fnExactAddBridge
namespace Go.Proofs.Ytgfpdbebeibdkaa
theorem fnExactAddBridge_holds : Rows.FnExactAddBridgeSaid := fnExactAddBridge.proved
end Go.Proofs.Ytgfpdbebeibdkaa
