/-
  DERIVED. GIVEN WITH THE SEED: THE CARDS: each row of YtbiophfljphgfaaDoorRows.lean that lists a variable, with what it lists TIED to the program's text (the seventh form; the later family's looks); each row that meets fmt, with fmt's text TOLD by the authors' own Lean function (tested against real Go, not proved from fmt's source: count such statements apart). THE CARD IS WHAT COUNTS. Prove the row's statement (the work); the ties are given (YtbiophfljphgfaaDoorTie.lean); close each card by the builder's one call (the guide's Derived/Test/ToyasCard.lean, 'card_holds'). Laid BY PROGRAM, IN A SANDBOX (cutbox-door.mjs). By AI agents, Wed Nov 11 2026. No macro, syntax, notation, axiom, sorry.
-/
import Derived.Test.YtbiophfljphgfaaDoorRows
import GoSem.ClaimSeven
namespace Go.Proofs.YtbiophfljphgfaaDoor
namespace Rows

/-- THE TIED CARD OF 'laws.FnExactBehindAll'. -/
def fnExactBehindAllCard : Claim7 := { stood := { row := fnExactBehindAllRow, standIns := [], harness := (true, "c35a70db826f9e4055584d3becee2e0588e9cc5dce42ad2588a8d667b278fbe8"), looks := false }, kinds := [], alts := [], laidByText := true, laidKinds := [.data, .pinned], laidTests := true, laidLooks := .later }
def FnExactBehindAllCardSaid : Prop := Claim7.holds Tryd.pinned (.plain (OpenSpec.ofChange fnExactBehindAllSpec)) fnExactBehindAllCard

/-- THE TIED CARD OF 'laws.FnExactHoursToSink'. -/
def fnExactHoursToSinkCard : Claim7 := { stood := { row := fnExactHoursToSinkRow, standIns := [], harness := (true, "c35a70db826f9e4055584d3becee2e0588e9cc5dce42ad2588a8d667b278fbe8"), looks := false }, kinds := [], alts := [], laidByText := true, laidKinds := [.data, .pinned], laidTests := true, laidLooks := .later }
def FnExactHoursToSinkCardSaid : Prop := Claim7.holds Tryd.pinned (.plain (OpenSpec.ofChange fnExactHoursToSinkSpec)) fnExactHoursToSinkCard

/-- THE TIED CARD OF 'laws.FnExactFirstStrongCrossing'. -/
def fnExactFirstStrongCrossingCard : Claim7 := { stood := { row := fnExactFirstStrongCrossingRow, standIns := [], harness := (true, "c35a70db826f9e4055584d3becee2e0588e9cc5dce42ad2588a8d667b278fbe8"), looks := false }, kinds := [], alts := [], laidByText := true, laidKinds := [.data, .pinned], laidTests := true, laidLooks := .later }
def FnExactFirstStrongCrossingCardSaid : Prop := Claim7.holds Tryd.pinned (.plain (OpenSpec.ofChange fnExactFirstStrongCrossingSpec)) fnExactFirstStrongCrossingCard

/-- THE TIED CARD OF 'laws.FnExactBehindGreedy'. -/
def fnExactBehindGreedyCard : Claim7 := { stood := { row := fnExactBehindGreedyRow, standIns := [], harness := (true, "c35a70db826f9e4055584d3becee2e0588e9cc5dce42ad2588a8d667b278fbe8"), looks := false }, kinds := [], alts := [], laidByText := true, laidKinds := [.data, .pinned], laidTests := true, laidLooks := .later }
def FnExactBehindGreedyCardSaid : Prop := Claim7.holds Tryd.pinned (.plain (OpenSpec.ofChange fnExactBehindGreedySpec)) fnExactBehindGreedyCard

/-- THE TIED CARD OF 'laws.FnExactPlanOfGroup'. -/
def fnExactPlanOfGroupCard : Claim7 := { stood := { row := fnExactPlanOfGroupRow, standIns := [], harness := (true, "c35a70db826f9e4055584d3becee2e0588e9cc5dce42ad2588a8d667b278fbe8"), looks := false }, kinds := [], alts := [], laidByText := true, laidKinds := [.data, .pinned], laidTests := true, laidLooks := .later }
def FnExactPlanOfGroupCardSaid : Prop := Claim7.holds Tryd.pinned (.plain (OpenSpec.ofChange fnExactPlanOfGroupSpec)) fnExactPlanOfGroupCard

/-- THE SECOND FORM's CARD OF 'laws.FnExactBehindAll'. -/
def fnExactBehindAllUptoCard : Claim7 := { stood := { row := fnExactBehindAllUptoRow, standIns := [], harness := (true, "c35a70db826f9e4055584d3becee2e0588e9cc5dce42ad2588a8d667b278fbe8"), looks := false }, kinds := [], alts := [], laidByText := true, laidKinds := [.data, .pinned], laidTests := true, laidLooks := .later }
def FnExactBehindAllUptoCardSaid : Prop := Claim7.holds Tryd.pinned (.plain (OpenSpec.upto fnExactBehindAllSpec)) fnExactBehindAllUptoCard

/-- THE SECOND FORM's CARD OF 'laws.FnExactHoursToSink'. -/
def fnExactHoursToSinkUptoCard : Claim7 := { stood := { row := fnExactHoursToSinkUptoRow, standIns := [], harness := (true, "c35a70db826f9e4055584d3becee2e0588e9cc5dce42ad2588a8d667b278fbe8"), looks := false }, kinds := [], alts := [], laidByText := true, laidKinds := [.data, .pinned], laidTests := true, laidLooks := .later }
def FnExactHoursToSinkUptoCardSaid : Prop := Claim7.holds Tryd.pinned (.plain (OpenSpec.upto fnExactHoursToSinkSpec)) fnExactHoursToSinkUptoCard

/-- THE SECOND FORM's CARD OF 'laws.FnExactFirstStrongCrossing'. -/
def fnExactFirstStrongCrossingUptoCard : Claim7 := { stood := { row := fnExactFirstStrongCrossingUptoRow, standIns := [], harness := (true, "c35a70db826f9e4055584d3becee2e0588e9cc5dce42ad2588a8d667b278fbe8"), looks := false }, kinds := [], alts := [], laidByText := true, laidKinds := [.data, .pinned], laidTests := true, laidLooks := .later }
def FnExactFirstStrongCrossingUptoCardSaid : Prop := Claim7.holds Tryd.pinned (.plain (OpenSpec.upto fnExactFirstStrongCrossingSpec)) fnExactFirstStrongCrossingUptoCard

/-- THE SECOND FORM's CARD OF 'laws.FnExactBehindGreedy'. -/
def fnExactBehindGreedyUptoCard : Claim7 := { stood := { row := fnExactBehindGreedyUptoRow, standIns := [], harness := (true, "c35a70db826f9e4055584d3becee2e0588e9cc5dce42ad2588a8d667b278fbe8"), looks := false }, kinds := [], alts := [], laidByText := true, laidKinds := [.data, .pinned], laidTests := true, laidLooks := .later }
def FnExactBehindGreedyUptoCardSaid : Prop := Claim7.holds Tryd.pinned (.plain (OpenSpec.upto fnExactBehindGreedySpec)) fnExactBehindGreedyUptoCard

/-- THE SECOND FORM's CARD OF 'laws.FnExactPlanOfGroup'. -/
def fnExactPlanOfGroupUptoCard : Claim7 := { stood := { row := fnExactPlanOfGroupUptoRow, standIns := [], harness := (true, "c35a70db826f9e4055584d3becee2e0588e9cc5dce42ad2588a8d667b278fbe8"), looks := false }, kinds := [], alts := [], laidByText := true, laidKinds := [.data, .pinned], laidTests := true, laidLooks := .later }
def FnExactPlanOfGroupUptoCardSaid : Prop := Claim7.holds Tryd.pinned (.plain (OpenSpec.upto fnExactPlanOfGroupSpec)) fnExactPlanOfGroupUptoCard
end Rows
end Go.Proofs.YtbiophfljphgfaaDoor
