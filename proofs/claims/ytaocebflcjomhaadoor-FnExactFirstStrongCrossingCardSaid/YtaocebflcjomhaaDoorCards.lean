/-
  DERIVED. GIVEN WITH THE SEED: THE CARDS: each row of YtaocebflcjomhaaDoorRows.lean that lists a variable, with what it lists TIED to the program's text (the seventh form; the later family's looks); each row that meets fmt, with fmt's text TOLD by the authors' own Lean function (tested against real Go, not proved from fmt's source: count such statements apart). THE CARD IS WHAT COUNTS. Prove the row's statement (the work); the ties are given (YtaocebflcjomhaaDoorTie.lean); close each card by the builder's one call (the guide's Derived/Test/ToyasCard.lean, 'card_holds'). Laid BY PROGRAM, IN A SANDBOX (cutbox-door.mjs). By AI agents, Wed Nov 11 2026. No macro, syntax, notation, axiom, sorry.
-/
import Derived.Test.YtaocebflcjomhaaDoorRows
import GoSem.ClaimSeven
namespace Go.Proofs.YtaocebflcjomhaaDoor
namespace Rows

/-- THE TIED CARD OF 'laws.FnExactHoursToSink'. -/
def fnExactHoursToSinkCard : Claim7 := { stood := { row := fnExactHoursToSinkRow, standIns := [], harness := (true, "8e106b4068ecd5d3393a452a057bb5ccc53ea72ec26401cb4f33bda3bd98e670"), looks := false }, kinds := [], alts := [], laidByText := true, laidKinds := [.data, .pinned], laidTests := true, laidLooks := .later }
def FnExactHoursToSinkCardSaid : Prop := Claim7.holds Tryd.pinned (.plain (OpenSpec.ofChange fnExactHoursToSinkSpec)) fnExactHoursToSinkCard

/-- THE TIED CARD OF 'laws.FnExactFirstStrongCrossing'. -/
def fnExactFirstStrongCrossingCard : Claim7 := { stood := { row := fnExactFirstStrongCrossingRow, standIns := [], harness := (true, "8e106b4068ecd5d3393a452a057bb5ccc53ea72ec26401cb4f33bda3bd98e670"), looks := false }, kinds := [], alts := [], laidByText := true, laidKinds := [.data, .pinned], laidTests := true, laidLooks := .later }
def FnExactFirstStrongCrossingCardSaid : Prop := Claim7.holds Tryd.pinned (.plain (OpenSpec.ofChange fnExactFirstStrongCrossingSpec)) fnExactFirstStrongCrossingCard

/-- THE TIED CARD OF 'laws.FnExactBehindGreedy'. -/
def fnExactBehindGreedyCard : Claim7 := { stood := { row := fnExactBehindGreedyRow, standIns := [], harness := (true, "8e106b4068ecd5d3393a452a057bb5ccc53ea72ec26401cb4f33bda3bd98e670"), looks := false }, kinds := [], alts := [], laidByText := true, laidKinds := [.data, .pinned], laidTests := true, laidLooks := .later }
def FnExactBehindGreedyCardSaid : Prop := Claim7.holds Tryd.pinned (.plain (OpenSpec.ofChange fnExactBehindGreedySpec)) fnExactBehindGreedyCard

/-- THE SECOND FORM's CARD OF 'laws.FnExactHoursToSink'. -/
def fnExactHoursToSinkUptoCard : Claim7 := { stood := { row := fnExactHoursToSinkUptoRow, standIns := [], harness := (true, "8e106b4068ecd5d3393a452a057bb5ccc53ea72ec26401cb4f33bda3bd98e670"), looks := false }, kinds := [], alts := [], laidByText := true, laidKinds := [.data, .pinned], laidTests := true, laidLooks := .later }
def FnExactHoursToSinkUptoCardSaid : Prop := Claim7.holds Tryd.pinned (.plain (OpenSpec.upto fnExactHoursToSinkSpec)) fnExactHoursToSinkUptoCard

/-- THE SECOND FORM's CARD OF 'laws.FnExactFirstStrongCrossing'. -/
def fnExactFirstStrongCrossingUptoCard : Claim7 := { stood := { row := fnExactFirstStrongCrossingUptoRow, standIns := [], harness := (true, "8e106b4068ecd5d3393a452a057bb5ccc53ea72ec26401cb4f33bda3bd98e670"), looks := false }, kinds := [], alts := [], laidByText := true, laidKinds := [.data, .pinned], laidTests := true, laidLooks := .later }
def FnExactFirstStrongCrossingUptoCardSaid : Prop := Claim7.holds Tryd.pinned (.plain (OpenSpec.upto fnExactFirstStrongCrossingSpec)) fnExactFirstStrongCrossingUptoCard

/-- THE SECOND FORM's CARD OF 'laws.FnExactBehindGreedy'. -/
def fnExactBehindGreedyUptoCard : Claim7 := { stood := { row := fnExactBehindGreedyUptoRow, standIns := [], harness := (true, "8e106b4068ecd5d3393a452a057bb5ccc53ea72ec26401cb4f33bda3bd98e670"), looks := false }, kinds := [], alts := [], laidByText := true, laidKinds := [.data, .pinned], laidTests := true, laidLooks := .later }
def FnExactBehindGreedyUptoCardSaid : Prop := Claim7.holds Tryd.pinned (.plain (OpenSpec.upto fnExactBehindGreedySpec)) fnExactBehindGreedyUptoCard
end Rows
end Go.Proofs.YtaocebflcjomhaaDoor
