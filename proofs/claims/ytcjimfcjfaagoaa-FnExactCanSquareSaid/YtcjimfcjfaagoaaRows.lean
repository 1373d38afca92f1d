/-
  No cell of these rows narrows 'for every input' (looked for: loops, veiled, ifaces, maps, wideKeys, modest, calm, conditions, laid).
  DERIVED. THE GIVEN ROWS OF THIS SEAT. 8 by the template 'for every input the law returns true; each argument reads behind the call as it read before'; 0 by the template 'total and deterministic' (their statements: YtcjimfcjfaagoaaTotals.lean).
  GIVEN WITH THE SEED: the statements are not yours to turn. If you find one false, say at which input.
  Laid BY PROGRAM, IN A SANDBOX (cutbox-rows.mjs): the forced cells as the released guide's own fill.sh prints them over the translation 423eb641f2f1dc0a… (all of the seat's roots in one cut). By AI agents, Wed Nov 11 2026. No macro, syntax, notation, axiom, sorry.
-/
import Derived.Test.YtcjimfcjfaagoaaChecked
import GoSem.Claim
import GoSem.ClaimJoined
import GoSem.ClaimMapViews
import Derived.JoinedTies
import Derived.KernelRfl
namespace Go.Proofs.Ytcjimfcjfaagoaa
/- THE CELL 'sum', in the pinned program and in every row, IS THE sha256 OF THE DUMP (.gsa) THAT YtcjimfcjfaagoaaProg.lean LOADS. Nothing in Lean hashes anything: it is a label: what it is worth is what the hold of that sum in a sandbox is worth. -/
noncomputable def Try.pinned : Pinned := { name := "ytcjimfcjfaagoaa", sum := "423eb641f2f1dc0a2a95515ebe99bc0e40a4ea01bae5d0a0dd81c039a301829e", checked := Try.checked }
namespace Rows
def none {H : Type} : Left H := { results := [], args := [] }

/-- 'laws.FnExactIsCorner': WHATEVER THE INPUT: true; the input reads as it did. -/
def fnExactIsCornerSpec : ChangeSpec := { name := "fnExactIsCorner", fn := fun _ => fun
  | [d] => { results := [.lit (.bool true)], args := [d] }
  | _ => none }
def fnExactIsCornerRow : OpenClaim := { program := "ytcjimfcjfaagoaa", sum := "423eb641f2f1dc0a2a95515ebe99bc0e40a4ea01bae5d0a0dd81c039a301829e", func := "loop.example/g01352/laws.FnExactIsCorner", spec := "fnExactIsCorner", apart := false }
def FnExactIsCornerSaid : Prop := fnExactIsCornerRow.holds Try.pinned (OpenSpec.ofChange fnExactIsCornerSpec)

/-- ITS FALSE NEIGHBOUR: 'it returns false'. Refute it at one input. -/
def fnExactIsCornerWrong : ChangeSpec := { name := "fnExactIsCorner", fn := fun _ => fun
  | [d] => { results := [.lit (.bool false)], args := [d] }
  | _ => none }
def FnExactIsCornerWrongFalsely : Prop := fnExactIsCornerRow.holds Try.pinned (OpenSpec.ofChange fnExactIsCornerWrong)

/-- 'laws.FnExactCanSquare': WHATEVER THE INPUT: true; the input reads as it did. -/
def fnExactCanSquareSpec : ChangeSpec := { name := "fnExactCanSquare", fn := fun _ => fun
  | [d1, d2] => { results := [.lit (.bool true)], args := [d1, d2] }
  | _ => none }
def fnExactCanSquareRow : OpenClaim := { program := "ytcjimfcjfaagoaa", sum := "423eb641f2f1dc0a2a95515ebe99bc0e40a4ea01bae5d0a0dd81c039a301829e", func := "loop.example/g01352/laws.FnExactCanSquare", spec := "fnExactCanSquare", apart := false }
def FnExactCanSquareSaid : Prop := fnExactCanSquareRow.holds Try.pinned (OpenSpec.ofChange fnExactCanSquareSpec)

/-- ITS FALSE NEIGHBOUR: 'it returns false'. Refute it at one input. -/
def fnExactCanSquareWrong : ChangeSpec := { name := "fnExactCanSquare", fn := fun _ => fun
  | [d1, d2] => { results := [.lit (.bool false)], args := [d1, d2] }
  | _ => none }
def FnExactCanSquareWrongFalsely : Prop := fnExactCanSquareRow.holds Try.pinned (OpenSpec.ofChange fnExactCanSquareWrong)

/-- 'laws.FnExactWidestGap': WHATEVER THE INPUT: true; the input reads as it did. -/
def fnExactWidestGapSpec : ChangeSpec := { name := "fnExactWidestGap", fn := fun _ => fun
  | [d1, d2, d3] => { results := [.lit (.bool true)], args := [d1, d2, d3] }
  | _ => none }
def fnExactWidestGapRow : OpenClaim := { program := "ytcjimfcjfaagoaa", sum := "423eb641f2f1dc0a2a95515ebe99bc0e40a4ea01bae5d0a0dd81c039a301829e", func := "loop.example/g01352/laws.FnExactWidestGap", spec := "fnExactWidestGap", unfollowed := true, recurses := true, apart := false }
def FnExactWidestGapSaid : Prop := fnExactWidestGapRow.holds Try.pinned (OpenSpec.ofChange fnExactWidestGapSpec)

/-- ITS FALSE NEIGHBOUR: 'it returns false'. Refute it at one input. -/
def fnExactWidestGapWrong : ChangeSpec := { name := "fnExactWidestGap", fn := fun _ => fun
  | [d1, d2, d3] => { results := [.lit (.bool false)], args := [d1, d2, d3] }
  | _ => none }
def FnExactWidestGapWrongFalsely : Prop := fnExactWidestGapRow.holds Try.pinned (OpenSpec.ofChange fnExactWidestGapWrong)

/-- 'laws.FnExactSortPlanks': WHATEVER THE INPUT: true; the input reads as it did. -/
def fnExactSortPlanksSpec : ChangeSpec := { name := "fnExactSortPlanks", fn := fun _ => fun
  | [d] => { results := [.lit (.bool true)], args := [d] }
  | _ => none }
def fnExactSortPlanksRow : OpenClaim := { program := "ytcjimfcjfaagoaa", sum := "423eb641f2f1dc0a2a95515ebe99bc0e40a4ea01bae5d0a0dd81c039a301829e", func := "loop.example/g01352/laws.FnExactSortPlanks", spec := "fnExactSortPlanks", unfollowed := true, recurses := true, apart := false }
def FnExactSortPlanksSaid : Prop := fnExactSortPlanksRow.holds Try.pinned (OpenSpec.ofChange fnExactSortPlanksSpec)

/-- ITS FALSE NEIGHBOUR: 'it returns false'. Refute it at one input. -/
def fnExactSortPlanksWrong : ChangeSpec := { name := "fnExactSortPlanks", fn := fun _ => fun
  | [d] => { results := [.lit (.bool false)], args := [d] }
  | _ => none }
def FnExactSortPlanksWrongFalsely : Prop := fnExactSortPlanksRow.holds Try.pinned (OpenSpec.ofChange fnExactSortPlanksWrong)

/-- 'laws.FnExactMostCovered': WHATEVER THE INPUT: true; the input reads as it did. -/
def fnExactMostCoveredSpec : ChangeSpec := { name := "fnExactMostCovered", fn := fun _ => fun
  | [d1, d2, d3] => { results := [.lit (.bool true)], args := [d1, d2, d3] }
  | _ => none }
def fnExactMostCoveredRow : OpenClaim := { program := "ytcjimfcjfaagoaa", sum := "423eb641f2f1dc0a2a95515ebe99bc0e40a4ea01bae5d0a0dd81c039a301829e", func := "loop.example/g01352/laws.FnExactMostCovered", spec := "fnExactMostCovered", unfollowed := true, recurses := true, apart := false }
def FnExactMostCoveredSaid : Prop := fnExactMostCoveredRow.holds Try.pinned (OpenSpec.ofChange fnExactMostCoveredSpec)

/-- ITS FALSE NEIGHBOUR: 'it returns false'. Refute it at one input. -/
def fnExactMostCoveredWrong : ChangeSpec := { name := "fnExactMostCovered", fn := fun _ => fun
  | [d1, d2, d3] => { results := [.lit (.bool false)], args := [d1, d2, d3] }
  | _ => none }
def FnExactMostCoveredWrongFalsely : Prop := fnExactMostCoveredRow.holds Try.pinned (OpenSpec.ofChange fnExactMostCoveredWrong)

/-- 'laws.FnExactCanCoverAll': WHATEVER THE INPUT: true; the input reads as it did. -/
def fnExactCanCoverAllSpec : ChangeSpec := { name := "fnExactCanCoverAll", fn := fun _ => fun
  | [d1, d2, d3] => { results := [.lit (.bool true)], args := [d1, d2, d3] }
  | _ => none }
def fnExactCanCoverAllRow : OpenClaim := { program := "ytcjimfcjfaagoaa", sum := "423eb641f2f1dc0a2a95515ebe99bc0e40a4ea01bae5d0a0dd81c039a301829e", func := "loop.example/g01352/laws.FnExactCanCoverAll", spec := "fnExactCanCoverAll", unfollowed := true, recurses := true, apart := false }
def FnExactCanCoverAllSaid : Prop := fnExactCanCoverAllRow.holds Try.pinned (OpenSpec.ofChange fnExactCanCoverAllSpec)

/-- ITS FALSE NEIGHBOUR: 'it returns false'. Refute it at one input. -/
def fnExactCanCoverAllWrong : ChangeSpec := { name := "fnExactCanCoverAll", fn := fun _ => fun
  | [d1, d2, d3] => { results := [.lit (.bool false)], args := [d1, d2, d3] }
  | _ => none }
def FnExactCanCoverAllWrongFalsely : Prop := fnExactCanCoverAllRow.holds Try.pinned (OpenSpec.ofChange fnExactCanCoverAllWrong)

/-- 'laws.FnExactLeastWood': WHATEVER THE INPUT: true; the input reads as it did. -/
def fnExactLeastWoodSpec : ChangeSpec := { name := "fnExactLeastWood", fn := fun _ => fun
  | [d1, d2, d3] => { results := [.lit (.bool true)], args := [d1, d2, d3] }
  | _ => none }
def fnExactLeastWoodRow : OpenClaim := { program := "ytcjimfcjfaagoaa", sum := "423eb641f2f1dc0a2a95515ebe99bc0e40a4ea01bae5d0a0dd81c039a301829e", func := "loop.example/g01352/laws.FnExactLeastWood", spec := "fnExactLeastWood", unfollowed := true, recurses := true, apart := false }
def FnExactLeastWoodSaid : Prop := fnExactLeastWoodRow.holds Try.pinned (OpenSpec.ofChange fnExactLeastWoodSpec)

/-- ITS FALSE NEIGHBOUR: 'it returns false'. Refute it at one input. -/
def fnExactLeastWoodWrong : ChangeSpec := { name := "fnExactLeastWood", fn := fun _ => fun
  | [d1, d2, d3] => { results := [.lit (.bool false)], args := [d1, d2, d3] }
  | _ => none }
def FnExactLeastWoodWrongFalsely : Prop := fnExactLeastWoodRow.holds Try.pinned (OpenSpec.ofChange fnExactLeastWoodWrong)

/-- 'laws.FnExactFirstCovering': WHATEVER THE INPUT: true; the input reads as it did. -/
def fnExactFirstCoveringSpec : ChangeSpec := { name := "fnExactFirstCovering", fn := fun _ => fun
  | [d1, d2, d3] => { results := [.lit (.bool true)], args := [d1, d2, d3] }
  | _ => none }
def fnExactFirstCoveringRow : OpenClaim := { program := "ytcjimfcjfaagoaa", sum := "423eb641f2f1dc0a2a95515ebe99bc0e40a4ea01bae5d0a0dd81c039a301829e", func := "loop.example/g01352/laws.FnExactFirstCovering", spec := "fnExactFirstCovering", unfollowed := true, recurses := true, apart := false }
def FnExactFirstCoveringSaid : Prop := fnExactFirstCoveringRow.holds Try.pinned (OpenSpec.ofChange fnExactFirstCoveringSpec)

/-- ITS FALSE NEIGHBOUR: 'it returns false'. Refute it at one input. -/
def fnExactFirstCoveringWrong : ChangeSpec := { name := "fnExactFirstCovering", fn := fun _ => fun
  | [d1, d2, d3] => { results := [.lit (.bool false)], args := [d1, d2, d3] }
  | _ => none }
def FnExactFirstCoveringWrongFalsely : Prop := fnExactFirstCoveringRow.holds Try.pinned (OpenSpec.ofChange fnExactFirstCoveringWrong)

/- THE SECOND FORM. 'bulk': how many values and letters a reading holds, each counted each time it is reached (what is shared counts as often as it is met; a slice's spare places count too). A statement '..UptoSaid' is the law's where the arguments, and the package variables that the reading takes, are together of bulk at most 1048576: NARROWER than '..Said'. Prove '..Said' where nothing that the law and all that it calls make is longer than what came in: it says more and counts as full. Else prove '..UptoSaid'. A law counts once. -/
mutual
def uptoBulk {H : Type} : DataW H → Nat
  | .lit (.string bytes) => bytes.length + 1
  | .lit _ => 1
  | .nil => 1
  | .ptr d => uptoBulk d + 1
  | .slice elems spare => uptoBulkAll elems + uptoBulkAll spare + 1
  | .agg parts => uptoBulkAll parts + 1
  | .iface _ d => uptoBulk d + 1
  | .map entries => uptoBulkEntries entries + 1
  | .held _ => 1
def uptoBulkAll {H : Type} : List (DataW H) → Nat
  | [] => 0
  | d :: r => uptoBulk d + uptoBulkAll r
def uptoBulkEntries {H : Type} : List (Lit × DataW H) → Nat
  | [] => 0
  | x :: r => uptoBulkEntry x + uptoBulkEntries r
def uptoBulkEntry {H : Type} : Lit × DataW H → Nat
  | (.string bytes, d) => bytes.length + uptoBulk d + 1
  | (_, d) => uptoBulk d + 1
 end
def uptoSmall : (H : Type) → List (DataW H) → Bool := fun _ ds => decide (uptoBulkAll ds ≤ 1048576)
def OpenSpec.upto (s : _root_.Go.ChangeSpec) : _root_.Go.OpenSpec := { _root_.Go.OpenSpec.ofChange s with cond := some uptoSmall }

/-- 'laws.FnExactIsCorner', WHERE WHAT IT READS IS OF BULK AT MOST 1048576: true; the input reads as it did. -/
def fnExactIsCornerUptoRow : OpenClaim := { program := "ytcjimfcjfaagoaa", sum := "423eb641f2f1dc0a2a95515ebe99bc0e40a4ea01bae5d0a0dd81c039a301829e", func := "loop.example/g01352/laws.FnExactIsCorner", spec := "fnExactIsCorner", apart := false, narrowed := true }
def FnExactIsCornerUptoSaid : Prop := fnExactIsCornerUptoRow.holds Try.pinned (OpenSpec.upto fnExactIsCornerSpec)

/-- 'laws.FnExactCanSquare', WHERE WHAT IT READS IS OF BULK AT MOST 1048576: true; the input reads as it did. -/
def fnExactCanSquareUptoRow : OpenClaim := { program := "ytcjimfcjfaagoaa", sum := "423eb641f2f1dc0a2a95515ebe99bc0e40a4ea01bae5d0a0dd81c039a301829e", func := "loop.example/g01352/laws.FnExactCanSquare", spec := "fnExactCanSquare", apart := false, narrowed := true }
def FnExactCanSquareUptoSaid : Prop := fnExactCanSquareUptoRow.holds Try.pinned (OpenSpec.upto fnExactCanSquareSpec)

/-- 'laws.FnExactWidestGap', WHERE WHAT IT READS IS OF BULK AT MOST 1048576: true; the input reads as it did. -/
def fnExactWidestGapUptoRow : OpenClaim := { program := "ytcjimfcjfaagoaa", sum := "423eb641f2f1dc0a2a95515ebe99bc0e40a4ea01bae5d0a0dd81c039a301829e", func := "loop.example/g01352/laws.FnExactWidestGap", spec := "fnExactWidestGap", unfollowed := true, recurses := true, apart := false, narrowed := true }
def FnExactWidestGapUptoSaid : Prop := fnExactWidestGapUptoRow.holds Try.pinned (OpenSpec.upto fnExactWidestGapSpec)

/-- 'laws.FnExactSortPlanks', WHERE WHAT IT READS IS OF BULK AT MOST 1048576: true; the input reads as it did. -/
def fnExactSortPlanksUptoRow : OpenClaim := { program := "ytcjimfcjfaagoaa", sum := "423eb641f2f1dc0a2a95515ebe99bc0e40a4ea01bae5d0a0dd81c039a301829e", func := "loop.example/g01352/laws.FnExactSortPlanks", spec := "fnExactSortPlanks", unfollowed := true, recurses := true, apart := false, narrowed := true }
def FnExactSortPlanksUptoSaid : Prop := fnExactSortPlanksUptoRow.holds Try.pinned (OpenSpec.upto fnExactSortPlanksSpec)

/-- 'laws.FnExactMostCovered', WHERE WHAT IT READS IS OF BULK AT MOST 1048576: true; the input reads as it did. -/
def fnExactMostCoveredUptoRow : OpenClaim := { program := "ytcjimfcjfaagoaa", sum := "423eb641f2f1dc0a2a95515ebe99bc0e40a4ea01bae5d0a0dd81c039a301829e", func := "loop.example/g01352/laws.FnExactMostCovered", spec := "fnExactMostCovered", unfollowed := true, recurses := true, apart := false, narrowed := true }
def FnExactMostCoveredUptoSaid : Prop := fnExactMostCoveredUptoRow.holds Try.pinned (OpenSpec.upto fnExactMostCoveredSpec)

/-- 'laws.FnExactCanCoverAll', WHERE WHAT IT READS IS OF BULK AT MOST 1048576: true; the input reads as it did. -/
def fnExactCanCoverAllUptoRow : OpenClaim := { program := "ytcjimfcjfaagoaa", sum := "423eb641f2f1dc0a2a95515ebe99bc0e40a4ea01bae5d0a0dd81c039a301829e", func := "loop.example/g01352/laws.FnExactCanCoverAll", spec := "fnExactCanCoverAll", unfollowed := true, recurses := true, apart := false, narrowed := true }
def FnExactCanCoverAllUptoSaid : Prop := fnExactCanCoverAllUptoRow.holds Try.pinned (OpenSpec.upto fnExactCanCoverAllSpec)

/-- 'laws.FnExactLeastWood', WHERE WHAT IT READS IS OF BULK AT MOST 1048576: true; the input reads as it did. -/
def fnExactLeastWoodUptoRow : OpenClaim := { program := "ytcjimfcjfaagoaa", sum := "423eb641f2f1dc0a2a95515ebe99bc0e40a4ea01bae5d0a0dd81c039a301829e", func := "loop.example/g01352/laws.FnExactLeastWood", spec := "fnExactLeastWood", unfollowed := true, recurses := true, apart := false, narrowed := true }
def FnExactLeastWoodUptoSaid : Prop := fnExactLeastWoodUptoRow.holds Try.pinned (OpenSpec.upto fnExactLeastWoodSpec)

/-- 'laws.FnExactFirstCovering', WHERE WHAT IT READS IS OF BULK AT MOST 1048576: true; the input reads as it did. -/
def fnExactFirstCoveringUptoRow : OpenClaim := { program := "ytcjimfcjfaagoaa", sum := "423eb641f2f1dc0a2a95515ebe99bc0e40a4ea01bae5d0a0dd81c039a301829e", func := "loop.example/g01352/laws.FnExactFirstCovering", spec := "fnExactFirstCovering", unfollowed := true, recurses := true, apart := false, narrowed := true }
def FnExactFirstCoveringUptoSaid : Prop := fnExactFirstCoveringUptoRow.holds Try.pinned (OpenSpec.upto fnExactFirstCoveringSpec)

end Rows
end Go.Proofs.Ytcjimfcjfaagoaa
