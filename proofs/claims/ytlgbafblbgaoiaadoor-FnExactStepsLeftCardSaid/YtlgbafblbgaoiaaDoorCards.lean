/-
  DERIVED. GIVEN WITH THE SEED: THE CARDS: each row of YtlgbafblbgaoiaaDoorRows.lean that lists a variable, with what it lists TIED to the program's text (the seventh form; the later family's looks); each row that meets fmt, with fmt's text TOLD by the authors' own Lean function (tested against real Go, not proved from fmt's source: count such statements apart). THE CARD IS WHAT COUNTS. Prove the row's statement (the work); the ties are given (YtlgbafblbgaoiaaDoorTie.lean); close each card by the builder's one call (the guide's Derived/Test/ToyasCard.lean, 'card_holds'). Laid BY PROGRAM, IN A SANDBOX (cutbox-door.mjs). By AI agents, Wed Nov 11 2026. No macro, syntax, notation, axiom, sorry.
-/
import Derived.Test.YtlgbafblbgaoiaaDoorRows
import GoSem.ClaimSeven
namespace Go.Proofs.YtlgbafblbgaoiaaDoor
namespace Rows

/-- THE TIED CARD OF 'laws.FnExactIsStrong'. -/
def fnExactIsStrongCard : Claim7 := { stood := { row := fnExactIsStrongRow, standIns := [], harness := (true, "96bc0cb09e1a0b205cca15c63e87eac69bce46f21c9c948cb3600080735c3441"), looks := false }, kinds := [], alts := [], laidByText := true, laidKinds := [.data, .pinned], laidTests := true, laidLooks := .later }
def FnExactIsStrongCardSaid : Prop := Claim7.holds Tryd.pinned (.plain (OpenSpec.ofChange fnExactIsStrongSpec)) fnExactIsStrongCard

/-- THE TIED CARD OF 'laws.FnExactJoinStrong'. -/
def fnExactJoinStrongCard : Claim7 := { stood := { row := fnExactJoinStrongRow, standIns := [], harness := (true, "96bc0cb09e1a0b205cca15c63e87eac69bce46f21c9c948cb3600080735c3441"), looks := false }, kinds := [], alts := [], laidByText := true, laidKinds := [.data, .pinned], laidTests := true, laidLooks := .later }
def FnExactJoinStrongCardSaid : Prop := Claim7.holds Tryd.pinned (.plain (OpenSpec.ofChange fnExactJoinStrongSpec)) fnExactJoinStrongCard

/-- THE TIED CARD OF 'laws.FnExactMirrorStrong'. -/
def fnExactMirrorStrongCard : Claim7 := { stood := { row := fnExactMirrorStrongRow, standIns := [], harness := (true, "96bc0cb09e1a0b205cca15c63e87eac69bce46f21c9c948cb3600080735c3441"), looks := false }, kinds := [], alts := [], laidByText := true, laidKinds := [.data, .pinned], laidTests := true, laidLooks := .later }
def FnExactMirrorStrongCardSaid : Prop := Claim7.holds Tryd.pinned (.plain (OpenSpec.ofChange fnExactMirrorStrongSpec)) fnExactMirrorStrongCard

/-- THE TIED CARD OF 'laws.FnExactStepsLeft'. -/
def fnExactStepsLeftCard : Claim7 := { stood := { row := fnExactStepsLeftRow, standIns := [], harness := (true, "96bc0cb09e1a0b205cca15c63e87eac69bce46f21c9c948cb3600080735c3441"), looks := false }, kinds := [], alts := [], laidByText := true, laidKinds := [.data, .pinned], laidTests := true, laidLooks := .later }
def FnExactStepsLeftCardSaid : Prop := Claim7.holds Tryd.pinned (.plain (OpenSpec.ofChange fnExactStepsLeftSpec)) fnExactStepsLeftCard

/-- THE TIED CARD OF 'laws.FnExactMakeStronger'. -/
def fnExactMakeStrongerCard : Claim7 := { stood := { row := fnExactMakeStrongerRow, standIns := [], harness := (true, "96bc0cb09e1a0b205cca15c63e87eac69bce46f21c9c948cb3600080735c3441"), looks := false }, kinds := [], alts := [], laidByText := true, laidKinds := [.data, .pinned], laidTests := true, laidLooks := .later }
def FnExactMakeStrongerCardSaid : Prop := Claim7.holds Tryd.pinned (.plain (OpenSpec.ofChange fnExactMakeStrongerSpec)) fnExactMakeStrongerCard

/-- THE TIED CARD OF 'laws.FnExactRiverOf'. -/
def fnExactRiverOfCard : Claim7 := { stood := { row := fnExactRiverOfRow, standIns := [], harness := (true, "96bc0cb09e1a0b205cca15c63e87eac69bce46f21c9c948cb3600080735c3441"), looks := false }, kinds := [], alts := [], laidByText := true, laidKinds := [.data, .pinned], laidTests := true, laidLooks := .later }
def FnExactRiverOfCardSaid : Prop := Claim7.holds Tryd.pinned (.plain (OpenSpec.ofChange fnExactRiverOfSpec)) fnExactRiverOfCard

/-- THE TIED CARD OF 'laws.FnExactWearAll'. -/
def fnExactWearAllCard : Claim7 := { stood := { row := fnExactWearAllRow, standIns := [], harness := (true, "96bc0cb09e1a0b205cca15c63e87eac69bce46f21c9c948cb3600080735c3441"), looks := false }, kinds := [], alts := [], laidByText := true, laidKinds := [.data, .pinned], laidTests := true, laidLooks := .later }
def FnExactWearAllCardSaid : Prop := Claim7.holds Tryd.pinned (.plain (OpenSpec.ofChange fnExactWearAllSpec)) fnExactWearAllCard

/-- THE SECOND FORM's CARD OF 'laws.FnExactIsStrong'. -/
def fnExactIsStrongUptoCard : Claim7 := { stood := { row := fnExactIsStrongUptoRow, standIns := [], harness := (true, "96bc0cb09e1a0b205cca15c63e87eac69bce46f21c9c948cb3600080735c3441"), looks := false }, kinds := [], alts := [], laidByText := true, laidKinds := [.data, .pinned], laidTests := true, laidLooks := .later }
def FnExactIsStrongUptoCardSaid : Prop := Claim7.holds Tryd.pinned (.plain (OpenSpec.upto fnExactIsStrongSpec)) fnExactIsStrongUptoCard

/-- THE SECOND FORM's CARD OF 'laws.FnExactJoinStrong'. -/
def fnExactJoinStrongUptoCard : Claim7 := { stood := { row := fnExactJoinStrongUptoRow, standIns := [], harness := (true, "96bc0cb09e1a0b205cca15c63e87eac69bce46f21c9c948cb3600080735c3441"), looks := false }, kinds := [], alts := [], laidByText := true, laidKinds := [.data, .pinned], laidTests := true, laidLooks := .later }
def FnExactJoinStrongUptoCardSaid : Prop := Claim7.holds Tryd.pinned (.plain (OpenSpec.upto fnExactJoinStrongSpec)) fnExactJoinStrongUptoCard

/-- THE SECOND FORM's CARD OF 'laws.FnExactMirrorStrong'. -/
def fnExactMirrorStrongUptoCard : Claim7 := { stood := { row := fnExactMirrorStrongUptoRow, standIns := [], harness := (true, "96bc0cb09e1a0b205cca15c63e87eac69bce46f21c9c948cb3600080735c3441"), looks := false }, kinds := [], alts := [], laidByText := true, laidKinds := [.data, .pinned], laidTests := true, laidLooks := .later }
def FnExactMirrorStrongUptoCardSaid : Prop := Claim7.holds Tryd.pinned (.plain (OpenSpec.upto fnExactMirrorStrongSpec)) fnExactMirrorStrongUptoCard

/-- THE SECOND FORM's CARD OF 'laws.FnExactStepsLeft'. -/
def fnExactStepsLeftUptoCard : Claim7 := { stood := { row := fnExactStepsLeftUptoRow, standIns := [], harness := (true, "96bc0cb09e1a0b205cca15c63e87eac69bce46f21c9c948cb3600080735c3441"), looks := false }, kinds := [], alts := [], laidByText := true, laidKinds := [.data, .pinned], laidTests := true, laidLooks := .later }
def FnExactStepsLeftUptoCardSaid : Prop := Claim7.holds Tryd.pinned (.plain (OpenSpec.upto fnExactStepsLeftSpec)) fnExactStepsLeftUptoCard

/-- THE SECOND FORM's CARD OF 'laws.FnExactMakeStronger'. -/
def fnExactMakeStrongerUptoCard : Claim7 := { stood := { row := fnExactMakeStrongerUptoRow, standIns := [], harness := (true, "96bc0cb09e1a0b205cca15c63e87eac69bce46f21c9c948cb3600080735c3441"), looks := false }, kinds := [], alts := [], laidByText := true, laidKinds := [.data, .pinned], laidTests := true, laidLooks := .later }
def FnExactMakeStrongerUptoCardSaid : Prop := Claim7.holds Tryd.pinned (.plain (OpenSpec.upto fnExactMakeStrongerSpec)) fnExactMakeStrongerUptoCard

/-- THE SECOND FORM's CARD OF 'laws.FnExactRiverOf'. -/
def fnExactRiverOfUptoCard : Claim7 := { stood := { row := fnExactRiverOfUptoRow, standIns := [], harness := (true, "96bc0cb09e1a0b205cca15c63e87eac69bce46f21c9c948cb3600080735c3441"), looks := false }, kinds := [], alts := [], laidByText := true, laidKinds := [.data, .pinned], laidTests := true, laidLooks := .later }
def FnExactRiverOfUptoCardSaid : Prop := Claim7.holds Tryd.pinned (.plain (OpenSpec.upto fnExactRiverOfSpec)) fnExactRiverOfUptoCard

/-- THE SECOND FORM's CARD OF 'laws.FnExactWearAll'. -/
def fnExactWearAllUptoCard : Claim7 := { stood := { row := fnExactWearAllUptoRow, standIns := [], harness := (true, "96bc0cb09e1a0b205cca15c63e87eac69bce46f21c9c948cb3600080735c3441"), looks := false }, kinds := [], alts := [], laidByText := true, laidKinds := [.data, .pinned], laidTests := true, laidLooks := .later }
def FnExactWearAllUptoCardSaid : Prop := Claim7.holds Tryd.pinned (.plain (OpenSpec.upto fnExactWearAllSpec)) fnExactWearAllUptoCard
end Rows
end Go.Proofs.YtlgbafblbgaoiaaDoor
