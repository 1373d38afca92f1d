/- The law FnExactParseIsles: for every input it returns true and each argument reads as it did: out of its printed walk and the plain law; no conditions. -/
import Derived.Test.YtadkmhlohgeihaaDoorRows
import Derived.Test.YtadkmhlohgeihaaDoorKx12
import Derived.Test.YtadkmhlohgeihaaDoorKPureFnExactParseIsles
import Derived.Test.YtadkmhlohgeihaaDoorKFacts
import Derived.WalkKit
import Derived.ProofKit
import Derived.OpenShut
import Derived.ShutString
import Derived.ChangeOld
import Derived.Below
import Derived.SizedLaws
import Derived.LaidMore
import Derived.Lay
import Derived.Stop.LaidErr
import Derived.SevenTiedAt
import Derived.Stop.Joined
import Derived.Test.YtadkmhlohgeihaaDoorCards
import Derived.Test.YtadkmhlohgeihaaDoorTie
import Derived.Test.YtadkmhlohgeihaaDoorWSized
namespace Go.Proofs.YtadkmhlohgeihaaDoor.fnExactParseIsles
open Go.ChangeShapes Go.WideShapes Go.ChangeAt Go.RowKit
open Go.ChangeMaps (open_string shut_string)
open Go.Proofs.YtadkmhlohgeihaaDoorW
set_option linter.unusedVariables false
theorem own : ownKnob Tryd.prog.godebug = none := ownT
theorem laidOut : laidOutB Tryd.prog = true := laidOutT
theorem starE : "*" ++ "errors.errorString" = "*errors.errorString" := by decide
theorem typeErr (u : TypeId) (h : Tryd.prog.typeName? 3 u = some "*errors.errorString") : u = 116 :=
  typeName_ptr_named (nm := "errors.errorString") (by rw [starE]; kernel_rfl) (by kernel_rfl) (by decide) u (by rw [starE]; exact h)
set_option maxRecDepth 100000 in
theorem lifted (os : Os) (started : os.Started) (H : Type) (enc : TypeId × Value → H) :
    ReturnsInHanded {} Tryd.checked os 4 .any (fun w args => (Rows.fnExactParseIslesSpec.pre enc Tryd.prog Tryd.f4 Rows.fnExactParseIslesRow.domain false w args ∧ laidMetH Tryd.prog Rows.fnExactParseIslesRow.laid w) ∧ sizedMet enc Tryd.prog Tryd.f4 (OpenSpec.ofChange Rows.fnExactParseIslesSpec) false w args) (Rows.fnExactParseIslesSpec.post enc Tryd.prog Tryd.f4 false true false false) := by
  refine returnsInHanded_of_change_and (C := Tryd.checked) (X := fun w _ => laidMetH Tryd.prog Rows.fnExactParseIslesRow.laid w) (fun _ _ _ hh h => h.of_heap hh) own started (by kernel_rfl) Tryd.func4
    (ChangeSpec.witness_shaped (enc := enc) (C := Tryd.checked) (os := os) (X := fun w _ => laidMetH Tryd.prog Rows.fnExactParseIslesRow.laid w) false (World.laidAll Tryd.prog os Rows.fnExactParseIslesRow.laid) #[.string ByteArray.empty] 8 (World.laidAll_os _ _ _)
      (World.shaped_of_ZipB (by kernel_rfl) (by kernel_rfl)) (by kernel_rfl) (by kernel_rfl) (by kernel_rfl)
      (by rw [MakeChecks.laidMetH_plain _ _ _ (by kernel_rfl)]; exact laidMet_laidAll _ (by kernel_rfl) (by kernel_rfl))) ?_
  intro W base args ds gs before hval0 hW hcnd hsz0 hX _
  have hlm : laidMetH Tryd.prog Rows.fnExactParseIslesRow.laid W := hX
  rw [MakeChecks.laidMetH_plain _ _ _ (by kernel_rfl)] at hlm
  have htabI : K.TabI W := Lib.tabIs_of_head (g := 3) (t := 111) (e := 96) (n := 20) (by kernel_rfl) (by kernel_rfl) (by kernel_rfl) (by kernel_rfl) (by kernel_rfl) (by kernel_rfl) (K.laidMet_tl (K.laidMet_tl hlm))
  obtain ⟨aErrSyntax, sErrSyntax, hvErrSyntax, _⟩ := laid_sentinel (g := 1) (ti := 69) (tp := 116) (te := 118) (ts := 9) (K.laidMet_tl (K.laidMet_tl (K.laidMet_tl (K.laidMet_tl hlm)))) (by kernel_rfl) (by kernel_rfl) Tryd.underlying69 typeErr Tryd.underlying116 Tryd.underlying118 rfl rfl Tryd.underlying9 (by kernel_rfl) (by kernel_rfl)
  have hcErrSyntax : K.ErrAt 1 W := ⟨_, _, by simpa using World.var?_cell (g := 1) (by kernel_rfl) hvErrSyntax 0⟩
  obtain ⟨aErrRange, sErrRange, hvErrRange, _⟩ := laid_sentinel (g := 2) (ti := 69) (tp := 116) (te := 118) (ts := 9) (K.laidMet_tl (K.laidMet_tl (K.laidMet_tl hlm))) (by kernel_rfl) (by kernel_rfl) Tryd.underlying69 typeErr Tryd.underlying116 Tryd.underlying118 rfl rfl Tryd.underlying9 (by kernel_rfl) (by kernel_rfl)
  have hcErrRange : K.ErrAt 2 W := ⟨_, _, by simpa using World.var?_cell (g := 2) (by kernel_rfl) hvErrRange 0⟩
  have htab : K.Tab W := ⟨htabI, hcErrSyntax, hcErrRange⟩
  have hsz : (DataW.weightsEach Tryd.prog (Tryd.f4.params.toList ++ Rows.fnExactParseIslesSpec.plain.varTypes Tryd.prog) (ds ++ gs)).all (· ≤ reachBytes) = true := hsz0
  have hval : ∀ (j : Nat) t v, Tryd.f4.params[j]? = some t → args[j]? = some v → Value.okWide Tryd.prog W .any base t v := hval0
  have hW' := hW
  obtain ⟨p, q, hA0, hV, rfl, hfz, hnd⟩ := hW
  have hA : DataW.TrodAll enc Tryd.prog W 0 (fun _ => true) true Tryd.f4.params.toList args.toList ds p := hA0
  rw [Tryd.params4] at hA hval hsz
  obtain ⟨v0, vs0, d0, ds0, p0, q0, hargs, rfl, rfl, h0, r0⟩ := trodAll_cons hA
  obtain ⟨rfl, rfl, rfl⟩ := trodAll_nil r0
  obtain rfl : args = #[v0] := by cases args; simp_all
  obtain ⟨rfl, rfl⟩ := trodVars_none hV
  obtain ⟨a0, rfl, rfl, rfl, y0⟩ := open_string Tryd.underlying9 (hval 0 9 v0 rfl rfl) h0
  have w0 : a0.size ≤ 140737488351232 := by
    have z := sized_string hsz (j := 0) (t := 9) rfl rfl
    rw [Array.length_toList] at z
    exact z
  clear hA0 hval0 hsz0 hsz
  obtain ⟨k, h⟩ := K.FnExactParseIsles_pure a0 w0
  refine (K.laws_FnExactParseIsles.calls k a0 true ⟨rfl⟩ W h (htab := htab)).mono fun e W' ⟨he, bel⟩ => ?_
  subst he
  exact ⟨_, rfl, _, _, _, [], _, [], hW', trodAll_mk1 (shut_bool Tryd.underlying4 _), (trodAll_cons_mk (shut_string Tryd.underlying9 y0) trodAll_mk0), rfl, bel.frame _, fun h => by cases h⟩
theorem closed : joinedFacts Tryd.prog 4 Tryd.f4 Rows.fnExactParseIslesSpec Rows.fnExactParseIslesRow = true :=
  joined_of (by kernel_rfl) laidOutT mapsRowedT (by kernel_rfl) (by kernel_rfl) (by kernel_rfl) stopsT (by kernel_rfl) stopKnobsT (by kernel_rfl) (by kernel_rfl) (by kernel_rfl) (by kernel_rfl) (by kernel_rfl) (by kernel_rfl) (by kernel_rfl) (by kernel_rfl) (by kernel_rfl) (by kernel_rfl) (by kernel_rfl) (by kernel_rfl) (by kernel_rfl) (by kernel_rfl) (by kernel_rfl) stopsHeardT mayT finT mkT rfl rfl (by kernel_rfl) (by kernel_rfl) (by kernel_rfl)
theorem over : Rows.fnExactParseIslesRow.holds Tryd.pinned (OpenSpec.ofChange Rows.fnExactParseIslesSpec) :=
  OpenClaim.holds_of_wide 4 Tryd.f4 rfl rfl rfl rfl rfl rfl rfl ⟨rfl, rfl, rfl, rfl, rfl⟩ rfl rfl rfl rfl rfl (by kernel_rfl) Tryd.func4 closed
    (of_decide_eq_true (by kernel_rfl)) (by unfold Func.isWrapper; first | (rw [if_pos (by decide +kernel)]; kernel_rfl) | (rw [if_neg (by decide +kernel)]; exact ⟨rfl, rfl⟩))
    (fun os started H enc _ => lifted os started H enc)
theorem card : Rows.FnExactParseIslesCardSaid :=
  Claim7.holds_tied_plain_at .later [] [.data, .data, .data, .sentinel, .sentinel] true (true, "5d0bd8439205c1a26744a7f98ed1056bb6816ce4c807a70bdf4419cfabe1cee0") true over (fun _ h => by cases h) (by kernel_rfl) (fun _ h => by cases h) fnExactParseIsles_row_tie rfl ⟨rfl, rfl⟩ (by kernel_rfl) rfl
    (fun f fn hf hfn => by
      obtain rfl : f = 4 := Option.some.inj ((show Tryd.prog.funcNamed "loop.example/g01352/laws.FnExactParseIsles" = some 4 by kernel_rfl).symm.trans hf) |>.symm
      obtain rfl : fn = Tryd.f4 := (Option.some.inj (Tryd.func4.symm.trans hfn)).symm
      exact ⟨by kernel_rfl, fun j t ht => by
        rw [Tryd.params4] at ht
        have hm : t ∈ [9] := by simpa using Array.mem_of_getElem? ht
        have hall : ([9].all fun u => !Tryd.prog.wantsStandIn u) = true := by kernel_rfl
        exact (show Tryd.prog.wantsStandIn t = false by simpa using List.all_eq_true.1 hall t hm)⟩)
    (by kernel_rfl)
#print axioms card
end Go.Proofs.YtadkmhlohgeihaaDoor.fnExactParseIsles
namespace Go.Proofs.YtadkmhlohgeihaaDoor
theorem fnExactParseIsles_holds : Rows.FnExactParseIslesCardSaid := fnExactParseIsles.card
end Go.Proofs.YtadkmhlohgeihaaDoor
