/-
  DERIVED. GIVEN WITH THE SEED: THE CARDS: each row of YtggfcjcicohaoaaDoorRows.lean that lists a variable, with what it lists TIED to the program's text (the seventh form; the later family's looks); each row that meets fmt, with fmt's text TOLD by the authors' own Lean function (tested against real Go, not proved from fmt's source: count such statements apart). THE CARD IS WHAT COUNTS. Prove the row's statement (the work); the ties are given (YtggfcjcicohaoaaDoorTie.lean); close each card by the builder's one call (the guide's Derived/Test/ToyasCard.lean, 'card_holds'). Laid BY PROGRAM, IN A SANDBOX (cutbox-door.mjs). By AI agents, Wed Nov 11 2026. No macro, syntax, notation, axiom, sorry.
-/
import Derived.Test.YtggfcjcicohaoaaDoorRows
import GoSem.ClaimSeven
namespace Go.Proofs.YtggfcjcicohaoaaDoor
namespace Rows

/-- THE TIED CARD OF 'laws.FnExactCanPlankRiver'. -/
def fnExactCanPlankRiverCard : Claim7 := { stood := { row := fnExactCanPlankRiverRow, standIns := [], harness := (true, "8764298182ae7ba33071c0a6a0e61abf48c0cb7c542974b5cfeff7b789d24738"), looks := false }, kinds := [], alts := [], laidByText := true, laidKinds := [.data, .pinned], laidTests := true, laidLooks := .later }
def FnExactCanPlankRiverCardSaid : Prop := Claim7.holds Tryd.pinned (.plain (OpenSpec.ofChange fnExactCanPlankRiverSpec)) fnExactCanPlankRiverCard

/-- THE SECOND FORM's CARD OF 'laws.FnExactCanPlankRiver'. -/
def fnExactCanPlankRiverUptoCard : Claim7 := { stood := { row := fnExactCanPlankRiverUptoRow, standIns := [], harness := (true, "8764298182ae7ba33071c0a6a0e61abf48c0cb7c542974b5cfeff7b789d24738"), looks := false }, kinds := [], alts := [], laidByText := true, laidKinds := [.data, .pinned], laidTests := true, laidLooks := .later }
def FnExactCanPlankRiverUptoCardSaid : Prop := Claim7.holds Tryd.pinned (.plain (OpenSpec.upto fnExactCanPlankRiverSpec)) fnExactCanPlankRiverUptoCard
end Rows
end Go.Proofs.YtggfcjcicohaoaaDoor
