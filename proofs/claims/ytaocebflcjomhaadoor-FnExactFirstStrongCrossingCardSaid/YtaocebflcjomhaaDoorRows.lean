/-
  NARROWER THAN 'FOR EVERY INPUT', by the rows' own cells (each row's printed sentence says how): FnExactHoursToSink: laid · FnExactFirstStrongCrossing: laid · FnExactBehindGreedy: laid.
  DERIVED. THE GIVEN ROWS OF THIS SEAT. 3 by the template 'for every input the law returns true; each argument reads behind the call as it read before'; 0 by the template 'total and deterministic' (their statements: YtaocebflcjomhaaDoorTotals.lean).
  GIVEN WITH THE SEED: the statements are not yours to turn. If you find one false, say at which input.
  Laid BY PROGRAM, IN A SANDBOX (cutbox-rows.mjs): the forced cells as the released guide's own fill.sh prints them over the translation 53f5f12904255b48… (all of the seat's roots in one cut). By AI agents, Wed Nov 11 2026. No macro, syntax, notation, axiom, sorry.
-/
import Derived.Test.YtaocebflcjomhaaDoorChecked
import GoSem.PinnedTables
import GoSem.Claim
import GoSem.ClaimJoined
import GoSem.ClaimMapViews
import Derived.JoinedTies
import Derived.KernelRfl
namespace Go.Proofs.YtaocebflcjomhaaDoor
/- THE CELL 'sum', in the pinned program and in every row, IS THE sha256 OF THE DUMP (.gsa) THAT YtaocebflcjomhaaDoorProg.lean LOADS. Nothing in Lean hashes anything: it is a label: what it is worth is what the hold of that sum in a sandbox is worth. -/
noncomputable def Tryd.pinned : Pinned := { name := "ytaocebflcjomhaadoor", sum := "53f5f12904255b481c9537b02c305dcc866554107ff3a4906a9810f5c63d8bb4", checked := Tryd.checked }
namespace Rows
def none {H : Type} : Left H := { results := [], args := [] }

/- WHAT THE LISTED PACKAGE-LEVEL VARIABLES READ AS WHEN THE CALL BEGINS. Each datum BY PROGRAM (the guide's laid-datum.mjs) off the statement by which the dump's own 'gosem.cut.vars' lays the variable. In a bare row this is a premise. The card (YtaocebflcjomhaaDoorCards.lean) ties it to the program's text. -/
def laid_unicode_utf8_acceptRanges {H : Type} : DataW H := .agg [.agg [.lit (.int .u8 128), .lit (.int .u8 191)], .agg [.lit (.int .u8 160), .lit (.int .u8 191)], .agg [.lit (.int .u8 128), .lit (.int .u8 159)], .agg [.lit (.int .u8 144), .lit (.int .u8 191)], .agg [.lit (.int .u8 128), .lit (.int .u8 143)], .agg [.lit (.int .u8 0), .lit (.int .u8 0)], .agg [.lit (.int .u8 0), .lit (.int .u8 0)], .agg [.lit (.int .u8 0), .lit (.int .u8 0)], .agg [.lit (.int .u8 0), .lit (.int .u8 0)], .agg [.lit (.int .u8 0), .lit (.int .u8 0)], .agg [.lit (.int .u8 0), .lit (.int .u8 0)], .agg [.lit (.int .u8 0), .lit (.int .u8 0)], .agg [.lit (.int .u8 0), .lit (.int .u8 0)], .agg [.lit (.int .u8 0), .lit (.int .u8 0)], .agg [.lit (.int .u8 0), .lit (.int .u8 0)], .agg [.lit (.int .u8 0), .lit (.int .u8 0)]]
/-- One of Go's own tables, pinned by name: the form's constant. -/
def laid_unicode_utf8_first : DataW Unit := Go.Pinned.utf8First

/-- 'laws.FnExactHoursToSink': WHATEVER THE INPUT: true; the input reads as it did. -/
def fnExactHoursToSinkSpec : ChangeSpec := { name := "fnExactHoursToSink", fn := fun _ => fun
  | [d1, d2] => { results := [.lit (.bool true)], args := [d1, d2] }
  | _ => none }
def fnExactHoursToSinkRow : OpenClaim := { program := "ytaocebflcjomhaadoor", sum := "53f5f12904255b481c9537b02c305dcc866554107ff3a4906a9810f5c63d8bb4", func := "loop.example/g01352/laws.FnExactHoursToSink", spec := "fnExactHoursToSink", inPlace := ["internal/bytealg.IndexByteString", "internal/bytealg.IndexString"], unfollowed := true, recurses := true, named := ["unicode/utf8.first", "unicode/utf8.acceptRanges", "internal/bytealg.MaxLen"], apart := false, laid := [("unicode/utf8.acceptRanges", laid_unicode_utf8_acceptRanges), ("unicode/utf8.first", laid_unicode_utf8_first)] }
def FnExactHoursToSinkSaid : Prop := fnExactHoursToSinkRow.holds Tryd.pinned (OpenSpec.ofChange fnExactHoursToSinkSpec)

/-- ITS FALSE NEIGHBOUR: 'it returns false'. Refute it at one input. -/
def fnExactHoursToSinkWrong : ChangeSpec := { name := "fnExactHoursToSink", fn := fun _ => fun
  | [d1, d2] => { results := [.lit (.bool false)], args := [d1, d2] }
  | _ => none }
def FnExactHoursToSinkWrongFalsely : Prop := fnExactHoursToSinkRow.holds Tryd.pinned (OpenSpec.ofChange fnExactHoursToSinkWrong)

/-- 'laws.FnExactFirstStrongCrossing': WHATEVER THE INPUT: true; the input reads as it did. -/
def fnExactFirstStrongCrossingSpec : ChangeSpec := { name := "fnExactFirstStrongCrossing", fn := fun _ => fun
  | [d1, d2] => { results := [.lit (.bool true)], args := [d1, d2] }
  | _ => none }
def fnExactFirstStrongCrossingRow : OpenClaim := { program := "ytaocebflcjomhaadoor", sum := "53f5f12904255b481c9537b02c305dcc866554107ff3a4906a9810f5c63d8bb4", func := "loop.example/g01352/laws.FnExactFirstStrongCrossing", spec := "fnExactFirstStrongCrossing", inPlace := ["internal/bytealg.IndexByteString", "internal/bytealg.IndexString"], unfollowed := true, recurses := true, named := ["unicode/utf8.first", "unicode/utf8.acceptRanges", "internal/bytealg.MaxLen"], apart := false, laid := [("unicode/utf8.acceptRanges", laid_unicode_utf8_acceptRanges), ("unicode/utf8.first", laid_unicode_utf8_first)] }
def FnExactFirstStrongCrossingSaid : Prop := fnExactFirstStrongCrossingRow.holds Tryd.pinned (OpenSpec.ofChange fnExactFirstStrongCrossingSpec)

/-- ITS FALSE NEIGHBOUR: 'it returns false'. Refute it at one input. -/
def fnExactFirstStrongCrossingWrong : ChangeSpec := { name := "fnExactFirstStrongCrossing", fn := fun _ => fun
  | [d1, d2] => { results := [.lit (.bool false)], args := [d1, d2] }
  | _ => none }
def FnExactFirstStrongCrossingWrongFalsely : Prop := fnExactFirstStrongCrossingRow.holds Tryd.pinned (OpenSpec.ofChange fnExactFirstStrongCrossingWrong)

/-- 'laws.FnExactBehindGreedy': WHATEVER THE INPUT: true; the input reads as it did. -/
def fnExactBehindGreedySpec : ChangeSpec := { name := "fnExactBehindGreedy", fn := fun _ => fun
  | [d1, d2] => { results := [.lit (.bool true)], args := [d1, d2] }
  | _ => none }
def fnExactBehindGreedyRow : OpenClaim := { program := "ytaocebflcjomhaadoor", sum := "53f5f12904255b481c9537b02c305dcc866554107ff3a4906a9810f5c63d8bb4", func := "loop.example/g01352/laws.FnExactBehindGreedy", spec := "fnExactBehindGreedy", inPlace := ["internal/bytealg.IndexByteString", "internal/bytealg.IndexString"], unfollowed := true, recurses := true, named := ["unicode/utf8.first", "unicode/utf8.acceptRanges", "internal/bytealg.MaxLen"], apart := false, laid := [("unicode/utf8.acceptRanges", laid_unicode_utf8_acceptRanges), ("unicode/utf8.first", laid_unicode_utf8_first)] }
def FnExactBehindGreedySaid : Prop := fnExactBehindGreedyRow.holds Tryd.pinned (OpenSpec.ofChange fnExactBehindGreedySpec)

/-- ITS FALSE NEIGHBOUR: 'it returns false'. Refute it at one input. -/
def fnExactBehindGreedyWrong : ChangeSpec := { name := "fnExactBehindGreedy", fn := fun _ => fun
  | [d1, d2] => { results := [.lit (.bool false)], args := [d1, d2] }
  | _ => none }
def FnExactBehindGreedyWrongFalsely : Prop := fnExactBehindGreedyRow.holds Tryd.pinned (OpenSpec.ofChange fnExactBehindGreedyWrong)

/- THE SECOND FORM. 'bulk': how many values and letters a reading holds, each counted each time it is reached (what is shared counts as often as it is met; a slice's spare places count too). A statement '..UptoSaid' is the law's where the arguments, and the package variables that the reading takes, are together of bulk at most 1048576: NARROWER than '..Said'. Prove '..Said' where nothing that the law and all that it calls make is longer than what came in: it says more and counts as full. Else prove '..UptoSaid'. A law counts once. -/
mutual
def uptoBulk {H : Type} : DataW H → Nat
  | .lit (.string bytes) => bytes.length + 1
  | .lit _ => 1
  | .nil => 1
  | .ptr d => uptoBulk d + 1
  | .slice elems spare => uptoBulkAll elems + uptoBulkAll spare + 1
  | .agg parts => uptoBulkAll parts + 1
  | .iface _ d => uptoBulk d + 1
  | .map entries => uptoBulkEntries entries + 1
  | .held _ => 1
def uptoBulkAll {H : Type} : List (DataW H) → Nat
  | [] => 0
  | d :: r => uptoBulk d + uptoBulkAll r
def uptoBulkEntries {H : Type} : List (Lit × DataW H) → Nat
  | [] => 0
  | x :: r => uptoBulkEntry x + uptoBulkEntries r
def uptoBulkEntry {H : Type} : Lit × DataW H → Nat
  | (.string bytes, d) => bytes.length + uptoBulk d + 1
  | (_, d) => uptoBulk d + 1
 end
def uptoSmall : (H : Type) → List (DataW H) → Bool := fun _ ds => decide (uptoBulkAll ds ≤ 1048576)
def OpenSpec.upto (s : _root_.Go.ChangeSpec) : _root_.Go.OpenSpec := { _root_.Go.OpenSpec.ofChange s with cond := some uptoSmall }

/-- 'laws.FnExactHoursToSink', WHERE WHAT IT READS IS OF BULK AT MOST 1048576: true; the input reads as it did. -/
def fnExactHoursToSinkUptoRow : OpenClaim := { program := "ytaocebflcjomhaadoor", sum := "53f5f12904255b481c9537b02c305dcc866554107ff3a4906a9810f5c63d8bb4", func := "loop.example/g01352/laws.FnExactHoursToSink", spec := "fnExactHoursToSink", inPlace := ["internal/bytealg.IndexByteString", "internal/bytealg.IndexString"], unfollowed := true, recurses := true, named := ["unicode/utf8.first", "unicode/utf8.acceptRanges", "internal/bytealg.MaxLen"], apart := false, laid := [("unicode/utf8.acceptRanges", laid_unicode_utf8_acceptRanges), ("unicode/utf8.first", laid_unicode_utf8_first)], narrowed := true }
def FnExactHoursToSinkUptoSaid : Prop := fnExactHoursToSinkUptoRow.holds Tryd.pinned (OpenSpec.upto fnExactHoursToSinkSpec)

/-- 'laws.FnExactFirstStrongCrossing', WHERE WHAT IT READS IS OF BULK AT MOST 1048576: true; the input reads as it did. -/
def fnExactFirstStrongCrossingUptoRow : OpenClaim := { program := "ytaocebflcjomhaadoor", sum := "53f5f12904255b481c9537b02c305dcc866554107ff3a4906a9810f5c63d8bb4", func := "loop.example/g01352/laws.FnExactFirstStrongCrossing", spec := "fnExactFirstStrongCrossing", inPlace := ["internal/bytealg.IndexByteString", "internal/bytealg.IndexString"], unfollowed := true, recurses := true, named := ["unicode/utf8.first", "unicode/utf8.acceptRanges", "internal/bytealg.MaxLen"], apart := false, laid := [("unicode/utf8.acceptRanges", laid_unicode_utf8_acceptRanges), ("unicode/utf8.first", laid_unicode_utf8_first)], narrowed := true }
def FnExactFirstStrongCrossingUptoSaid : Prop := fnExactFirstStrongCrossingUptoRow.holds Tryd.pinned (OpenSpec.upto fnExactFirstStrongCrossingSpec)

/-- 'laws.FnExactBehindGreedy', WHERE WHAT IT READS IS OF BULK AT MOST 1048576: true; the input reads as it did. -/
def fnExactBehindGreedyUptoRow : OpenClaim := { program := "ytaocebflcjomhaadoor", sum := "53f5f12904255b481c9537b02c305dcc866554107ff3a4906a9810f5c63d8bb4", func := "loop.example/g01352/laws.FnExactBehindGreedy", spec := "fnExactBehindGreedy", inPlace := ["internal/bytealg.IndexByteString", "internal/bytealg.IndexString"], unfollowed := true, recurses := true, named := ["unicode/utf8.first", "unicode/utf8.acceptRanges", "internal/bytealg.MaxLen"], apart := false, laid := [("unicode/utf8.acceptRanges", laid_unicode_utf8_acceptRanges), ("unicode/utf8.first", laid_unicode_utf8_first)], narrowed := true }
def FnExactBehindGreedyUptoSaid : Prop := fnExactBehindGreedyUptoRow.holds Tryd.pinned (OpenSpec.upto fnExactBehindGreedySpec)

end Rows
end Go.Proofs.YtaocebflcjomhaaDoor
