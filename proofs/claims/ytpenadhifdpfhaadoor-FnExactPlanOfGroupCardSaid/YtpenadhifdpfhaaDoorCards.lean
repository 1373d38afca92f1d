/-
  DERIVED. GIVEN WITH THE SEED: THE CARDS: each row of YtpenadhifdpfhaaDoorRows.lean that lists a variable, with what it lists TIED to the program's text (the seventh form; the later family's looks); each row that meets fmt, with fmt's text TOLD by the authors' own Lean function (tested against real Go, not proved from fmt's source: count such statements apart). THE CARD IS WHAT COUNTS. Prove the row's statement (the work); the ties are given (YtpenadhifdpfhaaDoorTie.lean); close each card by the builder's one call (the guide's Derived/Test/ToyasCard.lean, 'card_holds'). Laid BY PROGRAM, IN A SANDBOX (cutbox-door.mjs). By AI agents, Wed Nov 11 2026. No macro, syntax, notation, axiom, sorry.
-/
import Derived.Test.YtpenadhifdpfhaaDoorRows
import GoSem.ClaimSeven
namespace Go.Proofs.YtpenadhifdpfhaaDoor
namespace Rows

/-- THE TIED CARD OF 'laws.FnExactPlanOfGroup'. -/
def fnExactPlanOfGroupCard : Claim7 := { stood := { row := fnExactPlanOfGroupRow, standIns := [], harness := (true, "ba8b8aabc3eb480db73061c1c41576f93f4da97b3d1eabd4b98390f02d2a7970"), looks := false }, kinds := [], alts := [], laidByText := true, laidKinds := [.data, .pinned], laidTests := true, laidLooks := .later }
def FnExactPlanOfGroupCardSaid : Prop := Claim7.holds Tryd.pinned (.plain (OpenSpec.ofChange fnExactPlanOfGroupSpec)) fnExactPlanOfGroupCard

/-- THE SECOND FORM's CARD OF 'laws.FnExactPlanOfGroup'. -/
def fnExactPlanOfGroupUptoCard : Claim7 := { stood := { row := fnExactPlanOfGroupUptoRow, standIns := [], harness := (true, "ba8b8aabc3eb480db73061c1c41576f93f4da97b3d1eabd4b98390f02d2a7970"), looks := false }, kinds := [], alts := [], laidByText := true, laidKinds := [.data, .pinned], laidTests := true, laidLooks := .later }
def FnExactPlanOfGroupUptoCardSaid : Prop := Claim7.holds Tryd.pinned (.plain (OpenSpec.upto fnExactPlanOfGroupSpec)) fnExactPlanOfGroupUptoCard
end Rows
end Go.Proofs.YtpenadhifdpfhaaDoor
