/-
  DERIVED. GIVEN WITH THE SEED: THE CARDS: each row of YtadkmhlohgeihaaDoorRows.lean that lists a variable, with what it lists TIED to the program's text (the seventh form; the later family's looks); each row that meets fmt, with fmt's text TOLD by the authors' own Lean function (tested against real Go, not proved from fmt's source: count such statements apart). THE CARD IS WHAT COUNTS. Prove the row's statement (the work); the ties are given (YtadkmhlohgeihaaDoorTie.lean); close each card by the builder's one call (the guide's Derived/Test/ToyasCard.lean, 'card_holds'). Laid BY PROGRAM, IN A SANDBOX (cutbox-door.mjs). By AI agents, Wed Nov 11 2026. No macro, syntax, notation, axiom, sorry.
-/
import Derived.Test.YtadkmhlohgeihaaDoorRows
import GoSem.ClaimSeven
namespace Go.Proofs.YtadkmhlohgeihaaDoor
namespace Rows

/-- THE TIED CARD OF 'laws.FnExactParsePlanks'. -/
def fnExactParsePlanksCard : Claim7 := { stood := { row := fnExactParsePlanksRow, standIns := [], harness := (true, "5d0bd8439205c1a26744a7f98ed1056bb6816ce4c807a70bdf4419cfabe1cee0"), looks := true }, kinds := [], alts := [], laidByText := true, laidKinds := [.data, .data, .data, .sentinel, .sentinel], laidTests := true, laidLooks := .later }
def FnExactParsePlanksCardSaid : Prop := Claim7.holds Tryd.pinned (.plain (OpenSpec.ofChange fnExactParsePlanksSpec)) fnExactParsePlanksCard

/-- THE TIED CARD OF 'laws.FnExactParseIsles'. -/
def fnExactParseIslesCard : Claim7 := { stood := { row := fnExactParseIslesRow, standIns := [], harness := (true, "5d0bd8439205c1a26744a7f98ed1056bb6816ce4c807a70bdf4419cfabe1cee0"), looks := true }, kinds := [], alts := [], laidByText := true, laidKinds := [.data, .data, .data, .sentinel, .sentinel], laidTests := true, laidLooks := .later }
def FnExactParseIslesCardSaid : Prop := Claim7.holds Tryd.pinned (.plain (OpenSpec.ofChange fnExactParseIslesSpec)) fnExactParseIslesCard

/-- THE SECOND FORM's CARD OF 'laws.FnExactParsePlanks'. -/
def fnExactParsePlanksUptoCard : Claim7 := { stood := { row := fnExactParsePlanksUptoRow, standIns := [], harness := (true, "5d0bd8439205c1a26744a7f98ed1056bb6816ce4c807a70bdf4419cfabe1cee0"), looks := true }, kinds := [], alts := [], laidByText := true, laidKinds := [.data, .data, .data, .sentinel, .sentinel], laidTests := true, laidLooks := .later }
def FnExactParsePlanksUptoCardSaid : Prop := Claim7.holds Tryd.pinned (.plain (OpenSpec.upto fnExactParsePlanksSpec)) fnExactParsePlanksUptoCard

/-- THE SECOND FORM's CARD OF 'laws.FnExactParseIsles'. -/
def fnExactParseIslesUptoCard : Claim7 := { stood := { row := fnExactParseIslesUptoRow, standIns := [], harness := (true, "5d0bd8439205c1a26744a7f98ed1056bb6816ce4c807a70bdf4419cfabe1cee0"), looks := true }, kinds := [], alts := [], laidByText := true, laidKinds := [.data, .data, .data, .sentinel, .sentinel], laidTests := true, laidLooks := .later }
def FnExactParseIslesUptoCardSaid : Prop := Claim7.holds Tryd.pinned (.plain (OpenSpec.upto fnExactParseIslesSpec)) fnExactParseIslesUptoCard
end Rows
end Go.Proofs.YtadkmhlohgeihaaDoor
