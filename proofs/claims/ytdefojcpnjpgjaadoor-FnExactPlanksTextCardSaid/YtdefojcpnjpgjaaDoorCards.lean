/-
  DERIVED. GIVEN WITH THE SEED: THE CARDS: each row of YtdefojcpnjpgjaaDoorRows.lean that lists a variable, with what it lists TIED to the program's text (the seventh form; the later family's looks); each row that meets fmt, with fmt's text TOLD by the authors' own Lean function (tested against real Go, not proved from fmt's source: count such statements apart). THE CARD IS WHAT COUNTS. Prove the row's statement (the work); the ties are given (YtdefojcpnjpgjaaDoorTie.lean); close each card by the builder's one call (the guide's Derived/Test/ToyasCard.lean, 'card_holds'). Laid BY PROGRAM, IN A SANDBOX (cutbox-door.mjs). By AI agents, Wed Nov 11 2026. No macro, syntax, notation, axiom, sorry.
-/
import Derived.Test.YtdefojcpnjpgjaaDoorRows
import GoSem.ClaimSeven
namespace Go.Proofs.YtdefojcpnjpgjaaDoor
namespace Rows

/-- THE TIED CARD OF 'laws.FnExactGapsOfRiver'. -/
def fnExactGapsOfRiverCard : Claim7 := { stood := { row := fnExactGapsOfRiverRow, standIns := [], harness := (true, "7c594f83ecb64cb65ee7f30fedb3accdcca59dd036eb9da4a96bc89aae38e106"), looks := false }, kinds := [], alts := [], laidByText := true, laidKinds := [.data, .pinned], laidTests := true, laidLooks := .later }
def FnExactGapsOfRiverCardSaid : Prop := Claim7.holds Tryd.pinned (.plain (OpenSpec.ofChange fnExactGapsOfRiverSpec)) fnExactGapsOfRiverCard

/-- THE TIED CARD OF 'laws.FnExactPlanksText'. -/
def fnExactPlanksTextCard : Claim7 := { stood := { row := fnExactPlanksTextRow, standIns := [], harness := (true, "7c594f83ecb64cb65ee7f30fedb3accdcca59dd036eb9da4a96bc89aae38e106"), looks := false }, kinds := [], alts := [], laidByText := true, laidKinds := [.data, .data, .data], laidTests := true, laidLooks := .later }
def FnExactPlanksTextCardSaid : Prop := Claim7.holds Tryd.pinned (.plain (OpenSpec.ofChange fnExactPlanksTextSpec)) fnExactPlanksTextCard

/-- THE SECOND FORM's CARD OF 'laws.FnExactGapsOfRiver'. -/
def fnExactGapsOfRiverUptoCard : Claim7 := { stood := { row := fnExactGapsOfRiverUptoRow, standIns := [], harness := (true, "7c594f83ecb64cb65ee7f30fedb3accdcca59dd036eb9da4a96bc89aae38e106"), looks := false }, kinds := [], alts := [], laidByText := true, laidKinds := [.data, .pinned], laidTests := true, laidLooks := .later }
def FnExactGapsOfRiverUptoCardSaid : Prop := Claim7.holds Tryd.pinned (.plain (OpenSpec.upto fnExactGapsOfRiverSpec)) fnExactGapsOfRiverUptoCard

/-- THE SECOND FORM's CARD OF 'laws.FnExactPlanksText'. -/
def fnExactPlanksTextUptoCard : Claim7 := { stood := { row := fnExactPlanksTextUptoRow, standIns := [], harness := (true, "7c594f83ecb64cb65ee7f30fedb3accdcca59dd036eb9da4a96bc89aae38e106"), looks := false }, kinds := [], alts := [], laidByText := true, laidKinds := [.data, .data, .data], laidTests := true, laidLooks := .later }
def FnExactPlanksTextUptoCardSaid : Prop := Claim7.holds Tryd.pinned (.plain (OpenSpec.upto fnExactPlanksTextSpec)) fnExactPlanksTextUptoCard
end Rows
end Go.Proofs.YtdefojcpnjpgjaaDoor
