/-
  DERIVED. GIVEN WITH THE SEED: THE CARDS: each row of YtpinlhakpnjmgaaDoorRows.lean that lists a variable, with what it lists TIED to the program's text (the seventh form; the later family's looks); each row that meets fmt, with fmt's text TOLD by the authors' own Lean function (tested against real Go, not proved from fmt's source: count such statements apart). THE CARD IS WHAT COUNTS. Prove the row's statement (the work); the ties are given (YtpinlhakpnjmgaaDoorTie.lean); close each card by the builder's one call (the guide's Derived/Test/ToyasCard.lean, 'card_holds'). Laid BY PROGRAM, IN A SANDBOX (cutbox-door.mjs). By AI agents, Wed Nov 11 2026. No macro, syntax, notation, axiom, sorry.
-/
import Derived.Test.YtpinlhakpnjmgaaDoorRows
import GoSem.ClaimSeven
namespace Go.Proofs.YtpinlhakpnjmgaaDoor
namespace Rows

/-- THE TIED CARD OF 'laws.FnExactNarrowestPart'. -/
def fnExactNarrowestPartCard : Claim7 := { stood := { row := fnExactNarrowestPartRow, standIns := [], harness := (true, "bc512ddd9d85fce83a647f476a7034a1089a38bcf401b92d7595c89b26daf146"), looks := false }, kinds := [], alts := [], laidByText := true, laidKinds := [.data, .pinned], laidTests := true, laidLooks := .later }
def FnExactNarrowestPartCardSaid : Prop := Claim7.holds Tryd.pinned (.plain (OpenSpec.ofChange fnExactNarrowestPartSpec)) fnExactNarrowestPartCard

/-- THE TIED CARD OF 'laws.FnExactMostWhoCross'. -/
def fnExactMostWhoCrossCard : Claim7 := { stood := { row := fnExactMostWhoCrossRow, standIns := [], harness := (true, "bc512ddd9d85fce83a647f476a7034a1089a38bcf401b92d7595c89b26daf146"), looks := false }, kinds := [], alts := [], laidByText := true, laidKinds := [.data, .pinned], laidTests := true, laidLooks := .later }
def FnExactMostWhoCrossCardSaid : Prop := Claim7.holds Tryd.pinned (.plain (OpenSpec.ofChange fnExactMostWhoCrossSpec)) fnExactMostWhoCrossCard

/-- THE TIED CARD OF 'laws.FnExactCanGroupCross'. -/
def fnExactCanGroupCrossCard : Claim7 := { stood := { row := fnExactCanGroupCrossRow, standIns := [], harness := (true, "bc512ddd9d85fce83a647f476a7034a1089a38bcf401b92d7595c89b26daf146"), looks := false }, kinds := [], alts := [], laidByText := true, laidKinds := [.data, .pinned], laidTests := true, laidLooks := .later }
def FnExactCanGroupCrossCardSaid : Prop := Claim7.holds Tryd.pinned (.plain (OpenSpec.ofChange fnExactCanGroupCrossSpec)) fnExactCanGroupCrossCard

/-- THE TIED CARD OF 'laws.FnExactLeapForGroup'. -/
def fnExactLeapForGroupCard : Claim7 := { stood := { row := fnExactLeapForGroupRow, standIns := [], harness := (true, "bc512ddd9d85fce83a647f476a7034a1089a38bcf401b92d7595c89b26daf146"), looks := false }, kinds := [], alts := [], laidByText := true, laidKinds := [.data, .pinned], laidTests := true, laidLooks := .later }
def FnExactLeapForGroupCardSaid : Prop := Claim7.holds Tryd.pinned (.plain (OpenSpec.ofChange fnExactLeapForGroupSpec)) fnExactLeapForGroupCard

/-- THE TIED CARD OF 'laws.FnExactIsCrossing'. -/
def fnExactIsCrossingCard : Claim7 := { stood := { row := fnExactIsCrossingRow, standIns := [], harness := (true, "bc512ddd9d85fce83a647f476a7034a1089a38bcf401b92d7595c89b26daf146"), looks := false }, kinds := [], alts := [], laidByText := true, laidKinds := [.data, .pinned], laidTests := true, laidLooks := .later }
def FnExactIsCrossingCardSaid : Prop := Claim7.holds Tryd.pinned (.plain (OpenSpec.ofChange fnExactIsCrossingSpec)) fnExactIsCrossingCard

/-- THE TIED CARD OF 'laws.FnExactBestToStrengthen'. -/
def fnExactBestToStrengthenCard : Claim7 := { stood := { row := fnExactBestToStrengthenRow, standIns := [], harness := (true, "bc512ddd9d85fce83a647f476a7034a1089a38bcf401b92d7595c89b26daf146"), looks := false }, kinds := [], alts := [], laidByText := true, laidKinds := [.data, .pinned], laidTests := true, laidLooks := .later }
def FnExactBestToStrengthenCardSaid : Prop := Claim7.holds Tryd.pinned (.plain (OpenSpec.ofChange fnExactBestToStrengthenSpec)) fnExactBestToStrengthenCard

/-- THE TIED CARD OF 'laws.FnExactBehindCrossing'. -/
def fnExactBehindCrossingCard : Claim7 := { stood := { row := fnExactBehindCrossingRow, standIns := [], harness := (true, "bc512ddd9d85fce83a647f476a7034a1089a38bcf401b92d7595c89b26daf146"), looks := false }, kinds := [], alts := [], laidByText := true, laidKinds := [.data, .pinned], laidTests := true, laidLooks := .later }
def FnExactBehindCrossingCardSaid : Prop := Claim7.holds Tryd.pinned (.plain (OpenSpec.ofChange fnExactBehindCrossingSpec)) fnExactBehindCrossingCard

/-- THE SECOND FORM's CARD OF 'laws.FnExactNarrowestPart'. -/
def fnExactNarrowestPartUptoCard : Claim7 := { stood := { row := fnExactNarrowestPartUptoRow, standIns := [], harness := (true, "bc512ddd9d85fce83a647f476a7034a1089a38bcf401b92d7595c89b26daf146"), looks := false }, kinds := [], alts := [], laidByText := true, laidKinds := [.data, .pinned], laidTests := true, laidLooks := .later }
def FnExactNarrowestPartUptoCardSaid : Prop := Claim7.holds Tryd.pinned (.plain (OpenSpec.upto fnExactNarrowestPartSpec)) fnExactNarrowestPartUptoCard

/-- THE SECOND FORM's CARD OF 'laws.FnExactMostWhoCross'. -/
def fnExactMostWhoCrossUptoCard : Claim7 := { stood := { row := fnExactMostWhoCrossUptoRow, standIns := [], harness := (true, "bc512ddd9d85fce83a647f476a7034a1089a38bcf401b92d7595c89b26daf146"), looks := false }, kinds := [], alts := [], laidByText := true, laidKinds := [.data, .pinned], laidTests := true, laidLooks := .later }
def FnExactMostWhoCrossUptoCardSaid : Prop := Claim7.holds Tryd.pinned (.plain (OpenSpec.upto fnExactMostWhoCrossSpec)) fnExactMostWhoCrossUptoCard

/-- THE SECOND FORM's CARD OF 'laws.FnExactCanGroupCross'. -/
def fnExactCanGroupCrossUptoCard : Claim7 := { stood := { row := fnExactCanGroupCrossUptoRow, standIns := [], harness := (true, "bc512ddd9d85fce83a647f476a7034a1089a38bcf401b92d7595c89b26daf146"), looks := false }, kinds := [], alts := [], laidByText := true, laidKinds := [.data, .pinned], laidTests := true, laidLooks := .later }
def FnExactCanGroupCrossUptoCardSaid : Prop := Claim7.holds Tryd.pinned (.plain (OpenSpec.upto fnExactCanGroupCrossSpec)) fnExactCanGroupCrossUptoCard

/-- THE SECOND FORM's CARD OF 'laws.FnExactLeapForGroup'. -/
def fnExactLeapForGroupUptoCard : Claim7 := { stood := { row := fnExactLeapForGroupUptoRow, standIns := [], harness := (true, "bc512ddd9d85fce83a647f476a7034a1089a38bcf401b92d7595c89b26daf146"), looks := false }, kinds := [], alts := [], laidByText := true, laidKinds := [.data, .pinned], laidTests := true, laidLooks := .later }
def FnExactLeapForGroupUptoCardSaid : Prop := Claim7.holds Tryd.pinned (.plain (OpenSpec.upto fnExactLeapForGroupSpec)) fnExactLeapForGroupUptoCard

/-- THE SECOND FORM's CARD OF 'laws.FnExactIsCrossing'. -/
def fnExactIsCrossingUptoCard : Claim7 := { stood := { row := fnExactIsCrossingUptoRow, standIns := [], harness := (true, "bc512ddd9d85fce83a647f476a7034a1089a38bcf401b92d7595c89b26daf146"), looks := false }, kinds := [], alts := [], laidByText := true, laidKinds := [.data, .pinned], laidTests := true, laidLooks := .later }
def FnExactIsCrossingUptoCardSaid : Prop := Claim7.holds Tryd.pinned (.plain (OpenSpec.upto fnExactIsCrossingSpec)) fnExactIsCrossingUptoCard

/-- THE SECOND FORM's CARD OF 'laws.FnExactBestToStrengthen'. -/
def fnExactBestToStrengthenUptoCard : Claim7 := { stood := { row := fnExactBestToStrengthenUptoRow, standIns := [], harness := (true, "bc512ddd9d85fce83a647f476a7034a1089a38bcf401b92d7595c89b26daf146"), looks := false }, kinds := [], alts := [], laidByText := true, laidKinds := [.data, .pinned], laidTests := true, laidLooks := .later }
def FnExactBestToStrengthenUptoCardSaid : Prop := Claim7.holds Tryd.pinned (.plain (OpenSpec.upto fnExactBestToStrengthenSpec)) fnExactBestToStrengthenUptoCard

/-- THE SECOND FORM's CARD OF 'laws.FnExactBehindCrossing'. -/
def fnExactBehindCrossingUptoCard : Claim7 := { stood := { row := fnExactBehindCrossingUptoRow, standIns := [], harness := (true, "bc512ddd9d85fce83a647f476a7034a1089a38bcf401b92d7595c89b26daf146"), looks := false }, kinds := [], alts := [], laidByText := true, laidKinds := [.data, .pinned], laidTests := true, laidLooks := .later }
def FnExactBehindCrossingUptoCardSaid : Prop := Claim7.holds Tryd.pinned (.plain (OpenSpec.upto fnExactBehindCrossingSpec)) fnExactBehindCrossingUptoCard
end Rows
end Go.Proofs.YtpinlhakpnjmgaaDoor
