/-
  DERIVED. GIVEN WITH THE SEED: THE CARDS: each row of YtglkhajhfldpcaaDoorRows.lean that lists a variable, with what it lists TIED to the program's text (the seventh form; the later family's looks); each row that meets fmt, with fmt's text TOLD by the authors' own Lean function (tested against real Go, not proved from fmt's source: count such statements apart). THE CARD IS WHAT COUNTS. Prove the row's statement (the work); the ties are given (YtglkhajhfldpcaaDoorTie.lean); close each card by the builder's one call (the guide's Derived/Test/ToyasCard.lean, 'card_holds'). Laid BY PROGRAM, IN A SANDBOX (cutbox-door.mjs). By AI agents, Wed Nov 11 2026. No macro, syntax, notation, axiom, sorry.
-/
import Derived.Test.YtglkhajhfldpcaaDoorRows
import GoSem.ClaimSeven
namespace Go.Proofs.YtglkhajhfldpcaaDoor
namespace Rows

/-- THE TIED CARD OF 'laws.FnExactParseIsles'. -/
def fnExactParseIslesCard : Claim7 := { stood := { row := fnExactParseIslesRow, standIns := [], harness := (true, "5e165aae7aca5c2eb6110aa6548d57ad6f513f836784320e33fa2094089036bb"), looks := true }, kinds := [], alts := [], laidByText := true, laidKinds := [.data, .data, .data, .sentinel, .sentinel], laidTests := true, laidLooks := .later }
def FnExactParseIslesCardSaid : Prop := Claim7.holds Tryd.pinned (.plain (OpenSpec.ofChange fnExactParseIslesSpec)) fnExactParseIslesCard

/-- THE TIED CARD OF 'laws.FnExactIslesText'. -/
def fnExactIslesTextCard : Claim7 := { stood := { row := fnExactIslesTextRow, standIns := [], harness := (true, "5e165aae7aca5c2eb6110aa6548d57ad6f513f836784320e33fa2094089036bb"), looks := true }, kinds := [], alts := [], laidByText := true, laidKinds := [.data, .data, .data], laidTests := true, laidLooks := .later }
def FnExactIslesTextCardSaid : Prop := Claim7.holds Tryd.pinned (.plain (OpenSpec.ofChange fnExactIslesTextSpec)) fnExactIslesTextCard

/-- THE TIED CARD OF 'laws.FnExactParsePlanks'. -/
def fnExactParsePlanksCard : Claim7 := { stood := { row := fnExactParsePlanksRow, standIns := [], harness := (true, "5e165aae7aca5c2eb6110aa6548d57ad6f513f836784320e33fa2094089036bb"), looks := true }, kinds := [], alts := [], laidByText := true, laidKinds := [.data, .data, .data, .sentinel, .sentinel], laidTests := true, laidLooks := .later }
def FnExactParsePlanksCardSaid : Prop := Claim7.holds Tryd.pinned (.plain (OpenSpec.ofChange fnExactParsePlanksSpec)) fnExactParsePlanksCard

/-- THE SECOND FORM's CARD OF 'laws.FnExactParseIsles'. -/
def fnExactParseIslesUptoCard : Claim7 := { stood := { row := fnExactParseIslesUptoRow, standIns := [], harness := (true, "5e165aae7aca5c2eb6110aa6548d57ad6f513f836784320e33fa2094089036bb"), looks := true }, kinds := [], alts := [], laidByText := true, laidKinds := [.data, .data, .data, .sentinel, .sentinel], laidTests := true, laidLooks := .later }
def FnExactParseIslesUptoCardSaid : Prop := Claim7.holds Tryd.pinned (.plain (OpenSpec.upto fnExactParseIslesSpec)) fnExactParseIslesUptoCard

/-- THE SECOND FORM's CARD OF 'laws.FnExactIslesText'. -/
def fnExactIslesTextUptoCard : Claim7 := { stood := { row := fnExactIslesTextUptoRow, standIns := [], harness := (true, "5e165aae7aca5c2eb6110aa6548d57ad6f513f836784320e33fa2094089036bb"), looks := true }, kinds := [], alts := [], laidByText := true, laidKinds := [.data, .data, .data], laidTests := true, laidLooks := .later }
def FnExactIslesTextUptoCardSaid : Prop := Claim7.holds Tryd.pinned (.plain (OpenSpec.upto fnExactIslesTextSpec)) fnExactIslesTextUptoCard

/-- THE SECOND FORM's CARD OF 'laws.FnExactParsePlanks'. -/
def fnExactParsePlanksUptoCard : Claim7 := { stood := { row := fnExactParsePlanksUptoRow, standIns := [], harness := (true, "5e165aae7aca5c2eb6110aa6548d57ad6f513f836784320e33fa2094089036bb"), looks := true }, kinds := [], alts := [], laidByText := true, laidKinds := [.data, .data, .data, .sentinel, .sentinel], laidTests := true, laidLooks := .later }
def FnExactParsePlanksUptoCardSaid : Prop := Claim7.holds Tryd.pinned (.plain (OpenSpec.upto fnExactParsePlanksSpec)) fnExactParsePlanksUptoCard
end Rows
end Go.Proofs.YtglkhajhfldpcaaDoor
