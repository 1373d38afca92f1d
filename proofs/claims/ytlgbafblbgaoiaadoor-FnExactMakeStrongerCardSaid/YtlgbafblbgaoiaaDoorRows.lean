/-
  NARROWER THAN 'FOR EVERY INPUT', by the rows' own cells (each row's printed sentence says how): FnExactIsStrong: laid · FnExactJoinStrong: laid · FnExactMirrorStrong: laid · FnExactStepsLeft: laid · FnExactMakeStronger: laid · FnExactRiverOf: laid · FnExactWearAll: laid.
  DERIVED. THE GIVEN ROWS OF THIS SEAT. 7 by the template 'for every input the law returns true; each argument reads behind the call as it read before'; 0 by the template 'total and deterministic' (their statements: YtlgbafblbgaoiaaDoorTotals.lean).
  GIVEN WITH THE SEED: the statements are not yours to turn. If you find one false, say at which input.
  Laid BY PROGRAM, IN A SANDBOX (cutbox-rows.mjs): the forced cells as the released guide's own fill.sh prints them over the translation 62eae9baa4a44eed… (all of the seat's roots in one cut). By AI agents, Wed Nov 11 2026. No macro, syntax, notation, axiom, sorry.
-/
import Derived.Test.YtlgbafblbgaoiaaDoorChecked
import GoSem.PinnedTables
import GoSem.Claim
import GoSem.ClaimJoined
import GoSem.ClaimMapViews
import Derived.JoinedTies
import Derived.KernelRfl
namespace Go.Proofs.YtlgbafblbgaoiaaDoor
/- THE CELL 'sum', in the pinned program and in every row, IS THE sha256 OF THE DUMP (.gsa) THAT YtlgbafblbgaoiaaDoorProg.lean LOADS. Nothing in Lean hashes anything: it is a label: what it is worth is what the hold of that sum in a sandbox is worth. -/
noncomputable def Tryd.pinned : Pinned := { name := "ytlgbafblbgaoiaadoor", sum := "62eae9baa4a44eed4290e887dc49160bd0e9ea319ef8d84238f56b7cb39aadcd", checked := Tryd.checked }
namespace Rows
def none {H : Type} : Left H := { results := [], args := [] }

/- WHAT THE LISTED PACKAGE-LEVEL VARIABLES READ AS WHEN THE CALL BEGINS. Each datum BY PROGRAM (the guide's laid-datum.mjs) off the statement by which the dump's own 'gosem.cut.vars' lays the variable. In a bare row this is a premise. The card (YtlgbafblbgaoiaaDoorCards.lean) ties it to the program's text. -/
def laid_unicode_utf8_acceptRanges {H : Type} : DataW H := .agg [.agg [.lit (.int .u8 128), .lit (.int .u8 191)], .agg [.lit (.int .u8 160), .lit (.int .u8 191)], .agg [.lit (.int .u8 128), .lit (.int .u8 159)], .agg [.lit (.int .u8 144), .lit (.int .u8 191)], .agg [.lit (.int .u8 128), .lit (.int .u8 143)], .agg [.lit (.int .u8 0), .lit (.int .u8 0)], .agg [.lit (.int .u8 0), .lit (.int .u8 0)], .agg [.lit (.int .u8 0), .lit (.int .u8 0)], .agg [.lit (.int .u8 0), .lit (.int .u8 0)], .agg [.lit (.int .u8 0), .lit (.int .u8 0)], .agg [.lit (.int .u8 0), .lit (.int .u8 0)], .agg [.lit (.int .u8 0), .lit (.int .u8 0)], .agg [.lit (.int .u8 0), .lit (.int .u8 0)], .agg [.lit (.int .u8 0), .lit (.int .u8 0)], .agg [.lit (.int .u8 0), .lit (.int .u8 0)], .agg [.lit (.int .u8 0), .lit (.int .u8 0)]]
/-- One of Go's own tables, pinned by name: the form's constant. -/
def laid_unicode_utf8_first : DataW Unit := Go.Pinned.utf8First

/-- 'laws.FnExactIsStrong': WHATEVER THE INPUT: true; the input reads as it did. -/
def fnExactIsStrongSpec : ChangeSpec := { name := "fnExactIsStrong", fn := fun _ => fun
  | [d] => { results := [.lit (.bool true)], args := [d] }
  | _ => none }
def fnExactIsStrongRow : OpenClaim := { program := "ytlgbafblbgaoiaadoor", sum := "62eae9baa4a44eed4290e887dc49160bd0e9ea319ef8d84238f56b7cb39aadcd", func := "loop.example/g01352/laws.FnExactIsStrong", spec := "fnExactIsStrong", inPlace := ["internal/bytealg.IndexByteString", "internal/bytealg.IndexString"], named := ["unicode/utf8.first", "unicode/utf8.acceptRanges", "internal/bytealg.MaxLen"], apart := false, laid := [("unicode/utf8.acceptRanges", laid_unicode_utf8_acceptRanges), ("unicode/utf8.first", laid_unicode_utf8_first)] }
def FnExactIsStrongSaid : Prop := fnExactIsStrongRow.holds Tryd.pinned (OpenSpec.ofChange fnExactIsStrongSpec)

/-- ITS FALSE NEIGHBOUR: 'it returns false'. Refute it at one input. -/
def fnExactIsStrongWrong : ChangeSpec := { name := "fnExactIsStrong", fn := fun _ => fun
  | [d] => { results := [.lit (.bool false)], args := [d] }
  | _ => none }
def FnExactIsStrongWrongFalsely : Prop := fnExactIsStrongRow.holds Tryd.pinned (OpenSpec.ofChange fnExactIsStrongWrong)

/-- 'laws.FnExactJoinStrong': WHATEVER THE INPUT: true; the input reads as it did. -/
def fnExactJoinStrongSpec : ChangeSpec := { name := "fnExactJoinStrong", fn := fun _ => fun
  | [d1, d2] => { results := [.lit (.bool true)], args := [d1, d2] }
  | _ => none }
def fnExactJoinStrongRow : OpenClaim := { program := "ytlgbafblbgaoiaadoor", sum := "62eae9baa4a44eed4290e887dc49160bd0e9ea319ef8d84238f56b7cb39aadcd", func := "loop.example/g01352/laws.FnExactJoinStrong", spec := "fnExactJoinStrong", inPlace := ["internal/bytealg.IndexByteString", "internal/bytealg.IndexString"], named := ["unicode/utf8.first", "unicode/utf8.acceptRanges", "internal/bytealg.MaxLen"], apart := false, laid := [("unicode/utf8.acceptRanges", laid_unicode_utf8_acceptRanges), ("unicode/utf8.first", laid_unicode_utf8_first)] }
def FnExactJoinStrongSaid : Prop := fnExactJoinStrongRow.holds Tryd.pinned (OpenSpec.ofChange fnExactJoinStrongSpec)

/-- ITS FALSE NEIGHBOUR: 'it returns false'. Refute it at one input. -/
def fnExactJoinStrongWrong : ChangeSpec := { name := "fnExactJoinStrong", fn := fun _ => fun
  | [d1, d2] => { results := [.lit (.bool false)], args := [d1, d2] }
  | _ => none }
def FnExactJoinStrongWrongFalsely : Prop := fnExactJoinStrongRow.holds Tryd.pinned (OpenSpec.ofChange fnExactJoinStrongWrong)

/-- 'laws.FnExactMirrorStrong': WHATEVER THE INPUT: true; the input reads as it did. -/
def fnExactMirrorStrongSpec : ChangeSpec := { name := "fnExactMirrorStrong", fn := fun _ => fun
  | [d] => { results := [.lit (.bool true)], args := [d] }
  | _ => none }
def fnExactMirrorStrongRow : OpenClaim := { program := "ytlgbafblbgaoiaadoor", sum := "62eae9baa4a44eed4290e887dc49160bd0e9ea319ef8d84238f56b7cb39aadcd", func := "loop.example/g01352/laws.FnExactMirrorStrong", spec := "fnExactMirrorStrong", inPlace := ["internal/bytealg.IndexByteString", "internal/bytealg.IndexString"], named := ["unicode/utf8.first", "unicode/utf8.acceptRanges", "internal/bytealg.MaxLen"], apart := false, laid := [("unicode/utf8.acceptRanges", laid_unicode_utf8_acceptRanges), ("unicode/utf8.first", laid_unicode_utf8_first)] }
def FnExactMirrorStrongSaid : Prop := fnExactMirrorStrongRow.holds Tryd.pinned (OpenSpec.ofChange fnExactMirrorStrongSpec)

/-- ITS FALSE NEIGHBOUR: 'it returns false'. Refute it at one input. -/
def fnExactMirrorStrongWrong : ChangeSpec := { name := "fnExactMirrorStrong", fn := fun _ => fun
  | [d] => { results := [.lit (.bool false)], args := [d] }
  | _ => none }
def FnExactMirrorStrongWrongFalsely : Prop := fnExactMirrorStrongRow.holds Tryd.pinned (OpenSpec.ofChange fnExactMirrorStrongWrong)

/-- 'laws.FnExactStepsLeft': WHATEVER THE INPUT: true; the input reads as it did. -/
def fnExactStepsLeftSpec : ChangeSpec := { name := "fnExactStepsLeft", fn := fun _ => fun
  | [d] => { results := [.lit (.bool true)], args := [d] }
  | _ => none }
def fnExactStepsLeftRow : OpenClaim := { program := "ytlgbafblbgaoiaadoor", sum := "62eae9baa4a44eed4290e887dc49160bd0e9ea319ef8d84238f56b7cb39aadcd", func := "loop.example/g01352/laws.FnExactStepsLeft", spec := "fnExactStepsLeft", inPlace := ["internal/bytealg.IndexByteString", "internal/bytealg.IndexString"], named := ["unicode/utf8.first", "unicode/utf8.acceptRanges", "internal/bytealg.MaxLen"], apart := false, laid := [("unicode/utf8.acceptRanges", laid_unicode_utf8_acceptRanges), ("unicode/utf8.first", laid_unicode_utf8_first)] }
def FnExactStepsLeftSaid : Prop := fnExactStepsLeftRow.holds Tryd.pinned (OpenSpec.ofChange fnExactStepsLeftSpec)

/-- ITS FALSE NEIGHBOUR: 'it returns false'. Refute it at one input. -/
def fnExactStepsLeftWrong : ChangeSpec := { name := "fnExactStepsLeft", fn := fun _ => fun
  | [d] => { results := [.lit (.bool false)], args := [d] }
  | _ => none }
def FnExactStepsLeftWrongFalsely : Prop := fnExactStepsLeftRow.holds Tryd.pinned (OpenSpec.ofChange fnExactStepsLeftWrong)

/-- 'laws.FnExactMakeStronger': WHATEVER THE INPUT: true; the input reads as it did. -/
def fnExactMakeStrongerSpec : ChangeSpec := { name := "fnExactMakeStronger", fn := fun _ => fun
  | [d1, d2, d3] => { results := [.lit (.bool true)], args := [d1, d2, d3] }
  | _ => none }
def fnExactMakeStrongerRow : OpenClaim := { program := "ytlgbafblbgaoiaadoor", sum := "62eae9baa4a44eed4290e887dc49160bd0e9ea319ef8d84238f56b7cb39aadcd", func := "loop.example/g01352/laws.FnExactMakeStronger", spec := "fnExactMakeStronger", inPlace := ["internal/bytealg.IndexByteString", "internal/bytealg.IndexString"], recurses := true, named := ["unicode/utf8.first", "unicode/utf8.acceptRanges", "internal/bytealg.MaxLen"], apart := false, laid := [("unicode/utf8.acceptRanges", laid_unicode_utf8_acceptRanges), ("unicode/utf8.first", laid_unicode_utf8_first)] }
def FnExactMakeStrongerSaid : Prop := fnExactMakeStrongerRow.holds Tryd.pinned (OpenSpec.ofChange fnExactMakeStrongerSpec)

/-- ITS FALSE NEIGHBOUR: 'it returns false'. Refute it at one input. -/
def fnExactMakeStrongerWrong : ChangeSpec := { name := "fnExactMakeStronger", fn := fun _ => fun
  | [d1, d2, d3] => { results := [.lit (.bool false)], args := [d1, d2, d3] }
  | _ => none }
def FnExactMakeStrongerWrongFalsely : Prop := fnExactMakeStrongerRow.holds Tryd.pinned (OpenSpec.ofChange fnExactMakeStrongerWrong)

/-- 'laws.FnExactRiverOf': WHATEVER THE INPUT: true; the input reads as it did. -/
def fnExactRiverOfSpec : ChangeSpec := { name := "fnExactRiverOf", fn := fun _ => fun
  | [d] => { results := [.lit (.bool true)], args := [d] }
  | _ => none }
def fnExactRiverOfRow : OpenClaim := { program := "ytlgbafblbgaoiaadoor", sum := "62eae9baa4a44eed4290e887dc49160bd0e9ea319ef8d84238f56b7cb39aadcd", func := "loop.example/g01352/laws.FnExactRiverOf", spec := "fnExactRiverOf", inPlace := ["internal/bytealg.IndexByteString", "internal/bytealg.IndexString"], named := ["unicode/utf8.first", "unicode/utf8.acceptRanges", "internal/bytealg.MaxLen"], apart := false, laid := [("unicode/utf8.acceptRanges", laid_unicode_utf8_acceptRanges), ("unicode/utf8.first", laid_unicode_utf8_first)] }
def FnExactRiverOfSaid : Prop := fnExactRiverOfRow.holds Tryd.pinned (OpenSpec.ofChange fnExactRiverOfSpec)

/-- ITS FALSE NEIGHBOUR: 'it returns false'. Refute it at one input. -/
def fnExactRiverOfWrong : ChangeSpec := { name := "fnExactRiverOf", fn := fun _ => fun
  | [d] => { results := [.lit (.bool false)], args := [d] }
  | _ => none }
def FnExactRiverOfWrongFalsely : Prop := fnExactRiverOfRow.holds Tryd.pinned (OpenSpec.ofChange fnExactRiverOfWrong)

/-- 'laws.FnExactWearAll': WHATEVER THE INPUT: true; the input reads as it did. -/
def fnExactWearAllSpec : ChangeSpec := { name := "fnExactWearAll", fn := fun _ => fun
  | [d] => { results := [.lit (.bool true)], args := [d] }
  | _ => none }
def fnExactWearAllRow : OpenClaim := { program := "ytlgbafblbgaoiaadoor", sum := "62eae9baa4a44eed4290e887dc49160bd0e9ea319ef8d84238f56b7cb39aadcd", func := "loop.example/g01352/laws.FnExactWearAll", spec := "fnExactWearAll", inPlace := ["internal/bytealg.IndexByteString", "internal/bytealg.IndexString"], recurses := true, named := ["unicode/utf8.first", "unicode/utf8.acceptRanges", "internal/bytealg.MaxLen"], apart := false, laid := [("unicode/utf8.acceptRanges", laid_unicode_utf8_acceptRanges), ("unicode/utf8.first", laid_unicode_utf8_first)] }
def FnExactWearAllSaid : Prop := fnExactWearAllRow.holds Tryd.pinned (OpenSpec.ofChange fnExactWearAllSpec)

/-- ITS FALSE NEIGHBOUR: 'it returns false'. Refute it at one input. -/
def fnExactWearAllWrong : ChangeSpec := { name := "fnExactWearAll", fn := fun _ => fun
  | [d] => { results := [.lit (.bool false)], args := [d] }
  | _ => none }
def FnExactWearAllWrongFalsely : Prop := fnExactWearAllRow.holds Tryd.pinned (OpenSpec.ofChange fnExactWearAllWrong)

/- THE SECOND FORM. 'bulk': how many values and letters a reading holds, each counted each time it is reached (what is shared counts as often as it is met; a slice's spare places count too). A statement '..UptoSaid' is the law's where the arguments, and the package variables that the reading takes, are together of bulk at most 1048576: NARROWER than '..Said'. Prove '..Said' where nothing that the law and all that it calls make is longer than what came in: it says more and counts as full. Else prove '..UptoSaid'. A law counts once. -/
mutual
def uptoBulk {H : Type} : DataW H → Nat
  | .lit (.string bytes) => bytes.length + 1
  | .lit _ => 1
  | .nil => 1
  | .ptr d => uptoBulk d + 1
  | .slice elems spare => uptoBulkAll elems + uptoBulkAll spare + 1
  | .agg parts => uptoBulkAll parts + 1
  | .iface _ d => uptoBulk d + 1
  | .map entries => uptoBulkEntries entries + 1
  | .held _ => 1
def uptoBulkAll {H : Type} : List (DataW H) → Nat
  | [] => 0
  | d :: r => uptoBulk d + uptoBulkAll r
def uptoBulkEntries {H : Type} : List (Lit × DataW H) → Nat
  | [] => 0
  | x :: r => uptoBulkEntry x + uptoBulkEntries r
def uptoBulkEntry {H : Type} : Lit × DataW H → Nat
  | (.string bytes, d) => bytes.length + uptoBulk d + 1
  | (_, d) => uptoBulk d + 1
 end
def uptoSmall : (H : Type) → List (DataW H) → Bool := fun _ ds => decide (uptoBulkAll ds ≤ 1048576)
def OpenSpec.upto (s : _root_.Go.ChangeSpec) : _root_.Go.OpenSpec := { _root_.Go.OpenSpec.ofChange s with cond := some uptoSmall }

/-- 'laws.FnExactIsStrong', WHERE WHAT IT READS IS OF BULK AT MOST 1048576: true; the input reads as it did. -/
def fnExactIsStrongUptoRow : OpenClaim := { program := "ytlgbafblbgaoiaadoor", sum := "62eae9baa4a44eed4290e887dc49160bd0e9ea319ef8d84238f56b7cb39aadcd", func := "loop.example/g01352/laws.FnExactIsStrong", spec := "fnExactIsStrong", inPlace := ["internal/bytealg.IndexByteString", "internal/bytealg.IndexString"], named := ["unicode/utf8.first", "unicode/utf8.acceptRanges", "internal/bytealg.MaxLen"], apart := false, laid := [("unicode/utf8.acceptRanges", laid_unicode_utf8_acceptRanges), ("unicode/utf8.first", laid_unicode_utf8_first)], narrowed := true }
def FnExactIsStrongUptoSaid : Prop := fnExactIsStrongUptoRow.holds Tryd.pinned (OpenSpec.upto fnExactIsStrongSpec)

/-- 'laws.FnExactJoinStrong', WHERE WHAT IT READS IS OF BULK AT MOST 1048576: true; the input reads as it did. -/
def fnExactJoinStrongUptoRow : OpenClaim := { program := "ytlgbafblbgaoiaadoor", sum := "62eae9baa4a44eed4290e887dc49160bd0e9ea319ef8d84238f56b7cb39aadcd", func := "loop.example/g01352/laws.FnExactJoinStrong", spec := "fnExactJoinStrong", inPlace := ["internal/bytealg.IndexByteString", "internal/bytealg.IndexString"], named := ["unicode/utf8.first", "unicode/utf8.acceptRanges", "internal/bytealg.MaxLen"], apart := false, laid := [("unicode/utf8.acceptRanges", laid_unicode_utf8_acceptRanges), ("unicode/utf8.first", laid_unicode_utf8_first)], narrowed := true }
def FnExactJoinStrongUptoSaid : Prop := fnExactJoinStrongUptoRow.holds Tryd.pinned (OpenSpec.upto fnExactJoinStrongSpec)

/-- 'laws.FnExactMirrorStrong', WHERE WHAT IT READS IS OF BULK AT MOST 1048576: true; the input reads as it did. -/
def fnExactMirrorStrongUptoRow : OpenClaim := { program := "ytlgbafblbgaoiaadoor", sum := "62eae9baa4a44eed4290e887dc49160bd0e9ea319ef8d84238f56b7cb39aadcd", func := "loop.example/g01352/laws.FnExactMirrorStrong", spec := "fnExactMirrorStrong", inPlace := ["internal/bytealg.IndexByteString", "internal/bytealg.IndexString"], named := ["unicode/utf8.first", "unicode/utf8.acceptRanges", "internal/bytealg.MaxLen"], apart := false, laid := [("unicode/utf8.acceptRanges", laid_unicode_utf8_acceptRanges), ("unicode/utf8.first", laid_unicode_utf8_first)], narrowed := true }
def FnExactMirrorStrongUptoSaid : Prop := fnExactMirrorStrongUptoRow.holds Tryd.pinned (OpenSpec.upto fnExactMirrorStrongSpec)

/-- 'laws.FnExactStepsLeft', WHERE WHAT IT READS IS OF BULK AT MOST 1048576: true; the input reads as it did. -/
def fnExactStepsLeftUptoRow : OpenClaim := { program := "ytlgbafblbgaoiaadoor", sum := "62eae9baa4a44eed4290e887dc49160bd0e9ea319ef8d84238f56b7cb39aadcd", func := "loop.example/g01352/laws.FnExactStepsLeft", spec := "fnExactStepsLeft", inPlace := ["internal/bytealg.IndexByteString", "internal/bytealg.IndexString"], named := ["unicode/utf8.first", "unicode/utf8.acceptRanges", "internal/bytealg.MaxLen"], apart := false, laid := [("unicode/utf8.acceptRanges", laid_unicode_utf8_acceptRanges), ("unicode/utf8.first", laid_unicode_utf8_first)], narrowed := true }
def FnExactStepsLeftUptoSaid : Prop := fnExactStepsLeftUptoRow.holds Tryd.pinned (OpenSpec.upto fnExactStepsLeftSpec)

/-- 'laws.FnExactMakeStronger', WHERE WHAT IT READS IS OF BULK AT MOST 1048576: true; the input reads as it did. -/
def fnExactMakeStrongerUptoRow : OpenClaim := { program := "ytlgbafblbgaoiaadoor", sum := "62eae9baa4a44eed4290e887dc49160bd0e9ea319ef8d84238f56b7cb39aadcd", func := "loop.example/g01352/laws.FnExactMakeStronger", spec := "fnExactMakeStronger", inPlace := ["internal/bytealg.IndexByteString", "internal/bytealg.IndexString"], recurses := true, named := ["unicode/utf8.first", "unicode/utf8.acceptRanges", "internal/bytealg.MaxLen"], apart := false, laid := [("unicode/utf8.acceptRanges", laid_unicode_utf8_acceptRanges), ("unicode/utf8.first", laid_unicode_utf8_first)], narrowed := true }
def FnExactMakeStrongerUptoSaid : Prop := fnExactMakeStrongerUptoRow.holds Tryd.pinned (OpenSpec.upto fnExactMakeStrongerSpec)

/-- 'laws.FnExactRiverOf', WHERE WHAT IT READS IS OF BULK AT MOST 1048576: true; the input reads as it did. -/
def fnExactRiverOfUptoRow : OpenClaim := { program := "ytlgbafblbgaoiaadoor", sum := "62eae9baa4a44eed4290e887dc49160bd0e9ea319ef8d84238f56b7cb39aadcd", func := "loop.example/g01352/laws.FnExactRiverOf", spec := "fnExactRiverOf", inPlace := ["internal/bytealg.IndexByteString", "internal/bytealg.IndexString"], named := ["unicode/utf8.first", "unicode/utf8.acceptRanges", "internal/bytealg.MaxLen"], apart := false, laid := [("unicode/utf8.acceptRanges", laid_unicode_utf8_acceptRanges), ("unicode/utf8.first", laid_unicode_utf8_first)], narrowed := true }
def FnExactRiverOfUptoSaid : Prop := fnExactRiverOfUptoRow.holds Tryd.pinned (OpenSpec.upto fnExactRiverOfSpec)

/-- 'laws.FnExactWearAll', WHERE WHAT IT READS IS OF BULK AT MOST 1048576: true; the input reads as it did. -/
def fnExactWearAllUptoRow : OpenClaim := { program := "ytlgbafblbgaoiaadoor", sum := "62eae9baa4a44eed4290e887dc49160bd0e9ea319ef8d84238f56b7cb39aadcd", func := "loop.example/g01352/laws.FnExactWearAll", spec := "fnExactWearAll", inPlace := ["internal/bytealg.IndexByteString", "internal/bytealg.IndexString"], recurses := true, named := ["unicode/utf8.first", "unicode/utf8.acceptRanges", "internal/bytealg.MaxLen"], apart := false, laid := [("unicode/utf8.acceptRanges", laid_unicode_utf8_acceptRanges), ("unicode/utf8.first", laid_unicode_utf8_first)], narrowed := true }
def FnExactWearAllUptoSaid : Prop := fnExactWearAllUptoRow.holds Tryd.pinned (OpenSpec.upto fnExactWearAllSpec)

end Rows
end Go.Proofs.YtlgbafblbgaoiaaDoor
