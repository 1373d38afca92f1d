/-
  NARROWER THAN 'FOR EVERY INPUT', by the rows' own cells (each row's printed sentence says how): FnExactNarrowestPart: laid · FnExactMostWhoCross: laid · FnExactCanGroupCross: laid · FnExactLeapForGroup: laid · FnExactIsCrossing: laid · FnExactBestToStrengthen: laid · FnExactBehindCrossing: laid.
  DERIVED. THE GIVEN ROWS OF THIS SEAT. 7 by the template 'for every input the law returns true; each argument reads behind the call as it read before'; 0 by the template 'total and deterministic' (their statements: YtpinlhakpnjmgaaDoorTotals.lean).
  GIVEN WITH THE SEED: the statements are not yours to turn. If you find one false, say at which input.
  Laid BY PROGRAM, IN A SANDBOX (cutbox-rows.mjs): the forced cells as the released guide's own fill.sh prints them over the translation 22e1aefbbc2edd60… (all of the seat's roots in one cut). By AI agents, Wed Nov 11 2026. No macro, syntax, notation, axiom, sorry.
-/
import Derived.Test.YtpinlhakpnjmgaaDoorChecked
import GoSem.PinnedTables
import GoSem.Claim
import GoSem.ClaimJoined
import GoSem.ClaimMapViews
import Derived.JoinedTies
import Derived.KernelRfl
namespace Go.Proofs.YtpinlhakpnjmgaaDoor
/- THE CELL 'sum', in the pinned program and in every row, IS THE sha256 OF THE DUMP (.gsa) THAT YtpinlhakpnjmgaaDoorProg.lean LOADS. Nothing in Lean hashes anything: it is a label: what it is worth is what the hold of that sum in a sandbox is worth. -/
noncomputable def Tryd.pinned : Pinned := { name := "ytpinlhakpnjmgaadoor", sum := "22e1aefbbc2edd605bf0b3a0ac2f671acd27ef5eed01c3e202c78c3e1b79ce56", checked := Tryd.checked }
namespace Rows
def none {H : Type} : Left H := { results := [], args := [] }

/- WHAT THE LISTED PACKAGE-LEVEL VARIABLES READ AS WHEN THE CALL BEGINS. Each datum BY PROGRAM (the guide's laid-datum.mjs) off the statement by which the dump's own 'gosem.cut.vars' lays the variable. In a bare row this is a premise. The card (YtpinlhakpnjmgaaDoorCards.lean) ties it to the program's text. -/
def laid_unicode_utf8_acceptRanges {H : Type} : DataW H := .agg [.agg [.lit (.int .u8 128), .lit (.int .u8 191)], .agg [.lit (.int .u8 160), .lit (.int .u8 191)], .agg [.lit (.int .u8 128), .lit (.int .u8 159)], .agg [.lit (.int .u8 144), .lit (.int .u8 191)], .agg [.lit (.int .u8 128), .lit (.int .u8 143)], .agg [.lit (.int .u8 0), .lit (.int .u8 0)], .agg [.lit (.int .u8 0), .lit (.int .u8 0)], .agg [.lit (.int .u8 0), .lit (.int .u8 0)], .agg [.lit (.int .u8 0), .lit (.int .u8 0)], .agg [.lit (.int .u8 0), .lit (.int .u8 0)], .agg [.lit (.int .u8 0), .lit (.int .u8 0)], .agg [.lit (.int .u8 0), .lit (.int .u8 0)], .agg [.lit (.int .u8 0), .lit (.int .u8 0)], .agg [.lit (.int .u8 0), .lit (.int .u8 0)], .agg [.lit (.int .u8 0), .lit (.int .u8 0)], .agg [.lit (.int .u8 0), .lit (.int .u8 0)]]
/-- One of Go's own tables, pinned by name: the form's constant. -/
def laid_unicode_utf8_first : DataW Unit := Go.Pinned.utf8First

/-- 'laws.FnExactNarrowestPart': WHATEVER THE INPUT: true; the input reads as it did. -/
def fnExactNarrowestPartSpec : ChangeSpec := { name := "fnExactNarrowestPart", fn := fun _ => fun
  | [d1, d2] => { results := [.lit (.bool true)], args := [d1, d2] }
  | _ => none }
def fnExactNarrowestPartRow : OpenClaim := { program := "ytpinlhakpnjmgaadoor", sum := "22e1aefbbc2edd605bf0b3a0ac2f671acd27ef5eed01c3e202c78c3e1b79ce56", func := "loop.example/g01352/laws.FnExactNarrowestPart", spec := "fnExactNarrowestPart", inPlace := ["internal/bytealg.IndexByteString", "internal/bytealg.IndexString"], named := ["unicode/utf8.first", "unicode/utf8.acceptRanges", "internal/bytealg.MaxLen"], apart := false, laid := [("unicode/utf8.acceptRanges", laid_unicode_utf8_acceptRanges), ("unicode/utf8.first", laid_unicode_utf8_first)] }
def FnExactNarrowestPartSaid : Prop := fnExactNarrowestPartRow.holds Tryd.pinned (OpenSpec.ofChange fnExactNarrowestPartSpec)

/-- ITS FALSE NEIGHBOUR: 'it returns false'. Refute it at one input. -/
def fnExactNarrowestPartWrong : ChangeSpec := { name := "fnExactNarrowestPart", fn := fun _ => fun
  | [d1, d2] => { results := [.lit (.bool false)], args := [d1, d2] }
  | _ => none }
def FnExactNarrowestPartWrongFalsely : Prop := fnExactNarrowestPartRow.holds Tryd.pinned (OpenSpec.ofChange fnExactNarrowestPartWrong)

/-- 'laws.FnExactMostWhoCross': WHATEVER THE INPUT: true; the input reads as it did. -/
def fnExactMostWhoCrossSpec : ChangeSpec := { name := "fnExactMostWhoCross", fn := fun _ => fun
  | [d1, d2] => { results := [.lit (.bool true)], args := [d1, d2] }
  | _ => none }
def fnExactMostWhoCrossRow : OpenClaim := { program := "ytpinlhakpnjmgaadoor", sum := "22e1aefbbc2edd605bf0b3a0ac2f671acd27ef5eed01c3e202c78c3e1b79ce56", func := "loop.example/g01352/laws.FnExactMostWhoCross", spec := "fnExactMostWhoCross", inPlace := ["internal/bytealg.IndexByteString", "internal/bytealg.IndexString"], named := ["unicode/utf8.first", "unicode/utf8.acceptRanges", "internal/bytealg.MaxLen"], apart := false, laid := [("unicode/utf8.acceptRanges", laid_unicode_utf8_acceptRanges), ("unicode/utf8.first", laid_unicode_utf8_first)] }
def FnExactMostWhoCrossSaid : Prop := fnExactMostWhoCrossRow.holds Tryd.pinned (OpenSpec.ofChange fnExactMostWhoCrossSpec)

/-- ITS FALSE NEIGHBOUR: 'it returns false'. Refute it at one input. -/
def fnExactMostWhoCrossWrong : ChangeSpec := { name := "fnExactMostWhoCross", fn := fun _ => fun
  | [d1, d2] => { results := [.lit (.bool false)], args := [d1, d2] }
  | _ => none }
def FnExactMostWhoCrossWrongFalsely : Prop := fnExactMostWhoCrossRow.holds Tryd.pinned (OpenSpec.ofChange fnExactMostWhoCrossWrong)

/-- 'laws.FnExactCanGroupCross': WHATEVER THE INPUT: true; the input reads as it did. -/
def fnExactCanGroupCrossSpec : ChangeSpec := { name := "fnExactCanGroupCross", fn := fun _ => fun
  | [d1, d2, d3] => { results := [.lit (.bool true)], args := [d1, d2, d3] }
  | _ => none }
def fnExactCanGroupCrossRow : OpenClaim := { program := "ytpinlhakpnjmgaadoor", sum := "22e1aefbbc2edd605bf0b3a0ac2f671acd27ef5eed01c3e202c78c3e1b79ce56", func := "loop.example/g01352/laws.FnExactCanGroupCross", spec := "fnExactCanGroupCross", inPlace := ["internal/bytealg.IndexByteString", "internal/bytealg.IndexString"], named := ["unicode/utf8.first", "unicode/utf8.acceptRanges", "internal/bytealg.MaxLen"], apart := false, laid := [("unicode/utf8.acceptRanges", laid_unicode_utf8_acceptRanges), ("unicode/utf8.first", laid_unicode_utf8_first)] }
def FnExactCanGroupCrossSaid : Prop := fnExactCanGroupCrossRow.holds Tryd.pinned (OpenSpec.ofChange fnExactCanGroupCrossSpec)

/-- ITS FALSE NEIGHBOUR: 'it returns false'. Refute it at one input. -/
def fnExactCanGroupCrossWrong : ChangeSpec := { name := "fnExactCanGroupCross", fn := fun _ => fun
  | [d1, d2, d3] => { results := [.lit (.bool false)], args := [d1, d2, d3] }
  | _ => none }
def FnExactCanGroupCrossWrongFalsely : Prop := fnExactCanGroupCrossRow.holds Tryd.pinned (OpenSpec.ofChange fnExactCanGroupCrossWrong)

/-- 'laws.FnExactLeapForGroup': WHATEVER THE INPUT: true; the input reads as it did. -/
def fnExactLeapForGroupSpec : ChangeSpec := { name := "fnExactLeapForGroup", fn := fun _ => fun
  | [d1, d2] => { results := [.lit (.bool true)], args := [d1, d2] }
  | _ => none }
def fnExactLeapForGroupRow : OpenClaim := { program := "ytpinlhakpnjmgaadoor", sum := "22e1aefbbc2edd605bf0b3a0ac2f671acd27ef5eed01c3e202c78c3e1b79ce56", func := "loop.example/g01352/laws.FnExactLeapForGroup", spec := "fnExactLeapForGroup", inPlace := ["internal/bytealg.IndexByteString", "internal/bytealg.IndexString"], named := ["unicode/utf8.first", "unicode/utf8.acceptRanges", "internal/bytealg.MaxLen"], apart := false, laid := [("unicode/utf8.acceptRanges", laid_unicode_utf8_acceptRanges), ("unicode/utf8.first", laid_unicode_utf8_first)] }
def FnExactLeapForGroupSaid : Prop := fnExactLeapForGroupRow.holds Tryd.pinned (OpenSpec.ofChange fnExactLeapForGroupSpec)

/-- ITS FALSE NEIGHBOUR: 'it returns false'. Refute it at one input. -/
def fnExactLeapForGroupWrong : ChangeSpec := { name := "fnExactLeapForGroup", fn := fun _ => fun
  | [d1, d2] => { results := [.lit (.bool false)], args := [d1, d2] }
  | _ => none }
def FnExactLeapForGroupWrongFalsely : Prop := fnExactLeapForGroupRow.holds Tryd.pinned (OpenSpec.ofChange fnExactLeapForGroupWrong)

/-- 'laws.FnExactIsCrossing': WHATEVER THE INPUT: true; the input reads as it did. -/
def fnExactIsCrossingSpec : ChangeSpec := { name := "fnExactIsCrossing", fn := fun _ => fun
  | [d1, d2, d3] => { results := [.lit (.bool true)], args := [d1, d2, d3] }
  | _ => none }
def fnExactIsCrossingRow : OpenClaim := { program := "ytpinlhakpnjmgaadoor", sum := "22e1aefbbc2edd605bf0b3a0ac2f671acd27ef5eed01c3e202c78c3e1b79ce56", func := "loop.example/g01352/laws.FnExactIsCrossing", spec := "fnExactIsCrossing", inPlace := ["internal/bytealg.IndexByteString", "internal/bytealg.IndexString"], named := ["unicode/utf8.first", "unicode/utf8.acceptRanges", "internal/bytealg.MaxLen"], apart := false, laid := [("unicode/utf8.acceptRanges", laid_unicode_utf8_acceptRanges), ("unicode/utf8.first", laid_unicode_utf8_first)] }
def FnExactIsCrossingSaid : Prop := fnExactIsCrossingRow.holds Tryd.pinned (OpenSpec.ofChange fnExactIsCrossingSpec)

/-- ITS FALSE NEIGHBOUR: 'it returns false'. Refute it at one input. -/
def fnExactIsCrossingWrong : ChangeSpec := { name := "fnExactIsCrossing", fn := fun _ => fun
  | [d1, d2, d3] => { results := [.lit (.bool false)], args := [d1, d2, d3] }
  | _ => none }
def FnExactIsCrossingWrongFalsely : Prop := fnExactIsCrossingRow.holds Tryd.pinned (OpenSpec.ofChange fnExactIsCrossingWrong)

/-- 'laws.FnExactBestToStrengthen': WHATEVER THE INPUT: true; the input reads as it did. -/
def fnExactBestToStrengthenSpec : ChangeSpec := { name := "fnExactBestToStrengthen", fn := fun _ => fun
  | [d1, d2] => { results := [.lit (.bool true)], args := [d1, d2] }
  | _ => none }
def fnExactBestToStrengthenRow : OpenClaim := { program := "ytpinlhakpnjmgaadoor", sum := "22e1aefbbc2edd605bf0b3a0ac2f671acd27ef5eed01c3e202c78c3e1b79ce56", func := "loop.example/g01352/laws.FnExactBestToStrengthen", spec := "fnExactBestToStrengthen", inPlace := ["internal/bytealg.IndexByteString", "internal/bytealg.IndexString"], recurses := true, named := ["unicode/utf8.first", "unicode/utf8.acceptRanges", "internal/bytealg.MaxLen"], apart := false, laid := [("unicode/utf8.acceptRanges", laid_unicode_utf8_acceptRanges), ("unicode/utf8.first", laid_unicode_utf8_first)] }
def FnExactBestToStrengthenSaid : Prop := fnExactBestToStrengthenRow.holds Tryd.pinned (OpenSpec.ofChange fnExactBestToStrengthenSpec)

/-- ITS FALSE NEIGHBOUR: 'it returns false'. Refute it at one input. -/
def fnExactBestToStrengthenWrong : ChangeSpec := { name := "fnExactBestToStrengthen", fn := fun _ => fun
  | [d1, d2] => { results := [.lit (.bool false)], args := [d1, d2] }
  | _ => none }
def FnExactBestToStrengthenWrongFalsely : Prop := fnExactBestToStrengthenRow.holds Tryd.pinned (OpenSpec.ofChange fnExactBestToStrengthenWrong)

/-- 'laws.FnExactBehindCrossing': WHATEVER THE INPUT: true; the input reads as it did. -/
def fnExactBehindCrossingSpec : ChangeSpec := { name := "fnExactBehindCrossing", fn := fun _ => fun
  | [d1, d2, d3] => { results := [.lit (.bool true)], args := [d1, d2, d3] }
  | _ => none }
def fnExactBehindCrossingRow : OpenClaim := { program := "ytpinlhakpnjmgaadoor", sum := "22e1aefbbc2edd605bf0b3a0ac2f671acd27ef5eed01c3e202c78c3e1b79ce56", func := "loop.example/g01352/laws.FnExactBehindCrossing", spec := "fnExactBehindCrossing", inPlace := ["internal/bytealg.IndexByteString", "internal/bytealg.IndexString"], recurses := true, named := ["unicode/utf8.first", "unicode/utf8.acceptRanges", "internal/bytealg.MaxLen"], apart := false, laid := [("unicode/utf8.acceptRanges", laid_unicode_utf8_acceptRanges), ("unicode/utf8.first", laid_unicode_utf8_first)] }
def FnExactBehindCrossingSaid : Prop := fnExactBehindCrossingRow.holds Tryd.pinned (OpenSpec.ofChange fnExactBehindCrossingSpec)

/-- ITS FALSE NEIGHBOUR: 'it returns false'. Refute it at one input. -/
def fnExactBehindCrossingWrong : ChangeSpec := { name := "fnExactBehindCrossing", fn := fun _ => fun
  | [d1, d2, d3] => { results := [.lit (.bool false)], args := [d1, d2, d3] }
  | _ => none }
def FnExactBehindCrossingWrongFalsely : Prop := fnExactBehindCrossingRow.holds Tryd.pinned (OpenSpec.ofChange fnExactBehindCrossingWrong)

/- THE SECOND FORM. 'bulk': how many values and letters a reading holds, each counted each time it is reached (what is shared counts as often as it is met; a slice's spare places count too). A statement '..UptoSaid' is the law's where the arguments, and the package variables that the reading takes, are together of bulk at most 1048576: NARROWER than '..Said'. Prove '..Said' where nothing that the law and all that it calls make is longer than what came in: it says more and counts as full. Else prove '..UptoSaid'. A law counts once. -/
mutual
def uptoBulk {H : Type} : DataW H → Nat
  | .lit (.string bytes) => bytes.length + 1
  | .lit _ => 1
  | .nil => 1
  | .ptr d => uptoBulk d + 1
  | .slice elems spare => uptoBulkAll elems + uptoBulkAll spare + 1
  | .agg parts => uptoBulkAll parts + 1
  | .iface _ d => uptoBulk d + 1
  | .map entries => uptoBulkEntries entries + 1
  | .held _ => 1
def uptoBulkAll {H : Type} : List (DataW H) → Nat
  | [] => 0
  | d :: r => uptoBulk d + uptoBulkAll r
def uptoBulkEntries {H : Type} : List (Lit × DataW H) → Nat
  | [] => 0
  | x :: r => uptoBulkEntry x + uptoBulkEntries r
def uptoBulkEntry {H : Type} : Lit × DataW H → Nat
  | (.string bytes, d) => bytes.length + uptoBulk d + 1
  | (_, d) => uptoBulk d + 1
 end
def uptoSmall : (H : Type) → List (DataW H) → Bool := fun _ ds => decide (uptoBulkAll ds ≤ 1048576)
def OpenSpec.upto (s : _root_.Go.ChangeSpec) : _root_.Go.OpenSpec := { _root_.Go.OpenSpec.ofChange s with cond := some uptoSmall }

/-- 'laws.FnExactNarrowestPart', WHERE WHAT IT READS IS OF BULK AT MOST 1048576: true; the input reads as it did. -/
def fnExactNarrowestPartUptoRow : OpenClaim := { program := "ytpinlhakpnjmgaadoor", sum := "22e1aefbbc2edd605bf0b3a0ac2f671acd27ef5eed01c3e202c78c3e1b79ce56", func := "loop.example/g01352/laws.FnExactNarrowestPart", spec := "fnExactNarrowestPart", inPlace := ["internal/bytealg.IndexByteString", "internal/bytealg.IndexString"], named := ["unicode/utf8.first", "unicode/utf8.acceptRanges", "internal/bytealg.MaxLen"], apart := false, laid := [("unicode/utf8.acceptRanges", laid_unicode_utf8_acceptRanges), ("unicode/utf8.first", laid_unicode_utf8_first)], narrowed := true }
def FnExactNarrowestPartUptoSaid : Prop := fnExactNarrowestPartUptoRow.holds Tryd.pinned (OpenSpec.upto fnExactNarrowestPartSpec)

/-- 'laws.FnExactMostWhoCross', WHERE WHAT IT READS IS OF BULK AT MOST 1048576: true; the input reads as it did. -/
def fnExactMostWhoCrossUptoRow : OpenClaim := { program := "ytpinlhakpnjmgaadoor", sum := "22e1aefbbc2edd605bf0b3a0ac2f671acd27ef5eed01c3e202c78c3e1b79ce56", func := "loop.example/g01352/laws.FnExactMostWhoCross", spec := "fnExactMostWhoCross", inPlace := ["internal/bytealg.IndexByteString", "internal/bytealg.IndexString"], named := ["unicode/utf8.first", "unicode/utf8.acceptRanges", "internal/bytealg.MaxLen"], apart := false, laid := [("unicode/utf8.acceptRanges", laid_unicode_utf8_acceptRanges), ("unicode/utf8.first", laid_unicode_utf8_first)], narrowed := true }
def FnExactMostWhoCrossUptoSaid : Prop := fnExactMostWhoCrossUptoRow.holds Tryd.pinned (OpenSpec.upto fnExactMostWhoCrossSpec)

/-- 'laws.FnExactCanGroupCross', WHERE WHAT IT READS IS OF BULK AT MOST 1048576: true; the input reads as it did. -/
def fnExactCanGroupCrossUptoRow : OpenClaim := { program := "ytpinlhakpnjmgaadoor", sum := "22e1aefbbc2edd605bf0b3a0ac2f671acd27ef5eed01c3e202c78c3e1b79ce56", func := "loop.example/g01352/laws.FnExactCanGroupCross", spec := "fnExactCanGroupCross", inPlace := ["internal/bytealg.IndexByteString", "internal/bytealg.IndexString"], named := ["unicode/utf8.first", "unicode/utf8.acceptRanges", "internal/bytealg.MaxLen"], apart := false, laid := [("unicode/utf8.acceptRanges", laid_unicode_utf8_acceptRanges), ("unicode/utf8.first", laid_unicode_utf8_first)], narrowed := true }
def FnExactCanGroupCrossUptoSaid : Prop := fnExactCanGroupCrossUptoRow.holds Tryd.pinned (OpenSpec.upto fnExactCanGroupCrossSpec)

/-- 'laws.FnExactLeapForGroup', WHERE WHAT IT READS IS OF BULK AT MOST 1048576: true; the input reads as it did. -/
def fnExactLeapForGroupUptoRow : OpenClaim := { program := "ytpinlhakpnjmgaadoor", sum := "22e1aefbbc2edd605bf0b3a0ac2f671acd27ef5eed01c3e202c78c3e1b79ce56", func := "loop.example/g01352/laws.FnExactLeapForGroup", spec := "fnExactLeapForGroup", inPlace := ["internal/bytealg.IndexByteString", "internal/bytealg.IndexString"], named := ["unicode/utf8.first", "unicode/utf8.acceptRanges", "internal/bytealg.MaxLen"], apart := false, laid := [("unicode/utf8.acceptRanges", laid_unicode_utf8_acceptRanges), ("unicode/utf8.first", laid_unicode_utf8_first)], narrowed := true }
def FnExactLeapForGroupUptoSaid : Prop := fnExactLeapForGroupUptoRow.holds Tryd.pinned (OpenSpec.upto fnExactLeapForGroupSpec)

/-- 'laws.FnExactIsCrossing', WHERE WHAT IT READS IS OF BULK AT MOST 1048576: true; the input reads as it did. -/
def fnExactIsCrossingUptoRow : OpenClaim := { program := "ytpinlhakpnjmgaadoor", sum := "22e1aefbbc2edd605bf0b3a0ac2f671acd27ef5eed01c3e202c78c3e1b79ce56", func := "loop.example/g01352/laws.FnExactIsCrossing", spec := "fnExactIsCrossing", inPlace := ["internal/bytealg.IndexByteString", "internal/bytealg.IndexString"], named := ["unicode/utf8.first", "unicode/utf8.acceptRanges", "internal/bytealg.MaxLen"], apart := false, laid := [("unicode/utf8.acceptRanges", laid_unicode_utf8_acceptRanges), ("unicode/utf8.first", laid_unicode_utf8_first)], narrowed := true }
def FnExactIsCrossingUptoSaid : Prop := fnExactIsCrossingUptoRow.holds Tryd.pinned (OpenSpec.upto fnExactIsCrossingSpec)

/-- 'laws.FnExactBestToStrengthen', WHERE WHAT IT READS IS OF BULK AT MOST 1048576: true; the input reads as it did. -/
def fnExactBestToStrengthenUptoRow : OpenClaim := { program := "ytpinlhakpnjmgaadoor", sum := "22e1aefbbc2edd605bf0b3a0ac2f671acd27ef5eed01c3e202c78c3e1b79ce56", func := "loop.example/g01352/laws.FnExactBestToStrengthen", spec := "fnExactBestToStrengthen", inPlace := ["internal/bytealg.IndexByteString", "internal/bytealg.IndexString"], recurses := true, named := ["unicode/utf8.first", "unicode/utf8.acceptRanges", "internal/bytealg.MaxLen"], apart := false, laid := [("unicode/utf8.acceptRanges", laid_unicode_utf8_acceptRanges), ("unicode/utf8.first", laid_unicode_utf8_first)], narrowed := true }
def FnExactBestToStrengthenUptoSaid : Prop := fnExactBestToStrengthenUptoRow.holds Tryd.pinned (OpenSpec.upto fnExactBestToStrengthenSpec)

/-- 'laws.FnExactBehindCrossing', WHERE WHAT IT READS IS OF BULK AT MOST 1048576: true; the input reads as it did. -/
def fnExactBehindCrossingUptoRow : OpenClaim := { program := "ytpinlhakpnjmgaadoor", sum := "22e1aefbbc2edd605bf0b3a0ac2f671acd27ef5eed01c3e202c78c3e1b79ce56", func := "loop.example/g01352/laws.FnExactBehindCrossing", spec := "fnExactBehindCrossing", inPlace := ["internal/bytealg.IndexByteString", "internal/bytealg.IndexString"], recurses := true, named := ["unicode/utf8.first", "unicode/utf8.acceptRanges", "internal/bytealg.MaxLen"], apart := false, laid := [("unicode/utf8.acceptRanges", laid_unicode_utf8_acceptRanges), ("unicode/utf8.first", laid_unicode_utf8_first)], narrowed := true }
def FnExactBehindCrossingUptoSaid : Prop := fnExactBehindCrossingUptoRow.holds Tryd.pinned (OpenSpec.upto fnExactBehindCrossingSpec)

end Rows
end Go.Proofs.YtpinlhakpnjmgaaDoor
