/-
  No cell of these rows narrows 'for every input' (looked for: loops, veiled, ifaces, maps, wideKeys, modest, calm, conditions, laid).
  DERIVED. THE GIVEN ROWS OF THIS SEAT. 17 by the template 'for every input the law returns true; each argument reads behind the call as it read before'; 0 by the template 'total and deterministic' (their statements: YtkikaakfdggklaaTotals.lean).
  GIVEN WITH THE SEED: the statements are not yours to turn. If you find one false, say at which input.
  Laid BY PROGRAM, IN A SANDBOX (cutbox-rows.mjs): the forced cells as the released guide's own fill.sh prints them over the translation 372c990dedf63b38… (all of the seat's roots in one cut). By AI agents, Wed Nov 11 2026. No macro, syntax, notation, axiom, sorry.
-/
import Derived.Test.YtkikaakfdggklaaChecked
import GoSem.Claim
import GoSem.ClaimJoined
import GoSem.ClaimMapViews
import Derived.JoinedTies
import Derived.KernelRfl
namespace Go.Proofs.Ytkikaakfdggklaa
/- THE CELL 'sum', in the pinned program and in every row, IS THE sha256 OF THE DUMP (.gsa) THAT YtkikaakfdggklaaProg.lean LOADS. Nothing in Lean hashes anything: it is a label: what it is worth is what the hold of that sum in a sandbox is worth. -/
noncomputable def Try.pinned : Pinned := { name := "ytkikaakfdggklaa", sum := "372c990dedf63b3814cbd3474da2da7c51b658f395381ef161e6d4ec1d3ebb22", checked := Try.checked }
namespace Rows
def none {H : Type} : Left H := { results := [], args := [] }

/-- 'laws.FnExactAreIsles': WHATEVER THE INPUT: true; the input reads as it did. -/
def fnExactAreIslesSpec : ChangeSpec := { name := "fnExactAreIsles", fn := fun _ => fun
  | [d] => { results := [.lit (.bool true)], args := [d] }
  | _ => none }
def fnExactAreIslesRow : OpenClaim := { program := "ytkikaakfdggklaa", sum := "372c990dedf63b3814cbd3474da2da7c51b658f395381ef161e6d4ec1d3ebb22", func := "loop.example/g01352/laws.FnExactAreIsles", spec := "fnExactAreIsles", unfollowed := true, recurses := true, apart := false }
def FnExactAreIslesSaid : Prop := fnExactAreIslesRow.holds Try.pinned (OpenSpec.ofChange fnExactAreIslesSpec)

/-- ITS FALSE NEIGHBOUR: 'it returns false'. Refute it at one input. -/
def fnExactAreIslesWrong : ChangeSpec := { name := "fnExactAreIsles", fn := fun _ => fun
  | [d] => { results := [.lit (.bool false)], args := [d] }
  | _ => none }
def FnExactAreIslesWrongFalsely : Prop := fnExactAreIslesRow.holds Try.pinned (OpenSpec.ofChange fnExactAreIslesWrong)

/-- 'laws.FnExactAddBridge': WHATEVER THE INPUT: true; the input reads as it did. -/
def fnExactAddBridgeSpec : ChangeSpec := { name := "fnExactAddBridge", fn := fun _ => fun
  | [d1, d2] => { results := [.lit (.bool true)], args := [d1, d2] }
  | _ => none }
def fnExactAddBridgeRow : OpenClaim := { program := "ytkikaakfdggklaa", sum := "372c990dedf63b3814cbd3474da2da7c51b658f395381ef161e6d4ec1d3ebb22", func := "loop.example/g01352/laws.FnExactAddBridge", spec := "fnExactAddBridge", unfollowed := true, recurses := true, apart := false }
def FnExactAddBridgeSaid : Prop := fnExactAddBridgeRow.holds Try.pinned (OpenSpec.ofChange fnExactAddBridgeSpec)

/-- ITS FALSE NEIGHBOUR: 'it returns false'. Refute it at one input. -/
def fnExactAddBridgeWrong : ChangeSpec := { name := "fnExactAddBridge", fn := fun _ => fun
  | [d1, d2] => { results := [.lit (.bool false)], args := [d1, d2] }
  | _ => none }
def FnExactAddBridgeWrongFalsely : Prop := fnExactAddBridgeRow.holds Try.pinned (OpenSpec.ofChange fnExactAddBridgeWrong)

/-- 'laws.FnExactCountGroups': WHATEVER THE INPUT: true; the input reads as it did. -/
def fnExactCountGroupsSpec : ChangeSpec := { name := "fnExactCountGroups", fn := fun _ => fun
  | [d] => { results := [.lit (.bool true)], args := [d] }
  | _ => none }
def fnExactCountGroupsRow : OpenClaim := { program := "ytkikaakfdggklaa", sum := "372c990dedf63b3814cbd3474da2da7c51b658f395381ef161e6d4ec1d3ebb22", func := "loop.example/g01352/laws.FnExactCountGroups", spec := "fnExactCountGroups", unfollowed := true, recurses := true, apart := false }
def FnExactCountGroupsSaid : Prop := fnExactCountGroupsRow.holds Try.pinned (OpenSpec.ofChange fnExactCountGroupsSpec)

/-- ITS FALSE NEIGHBOUR: 'it returns false'. Refute it at one input. -/
def fnExactCountGroupsWrong : ChangeSpec := { name := "fnExactCountGroups", fn := fun _ => fun
  | [d] => { results := [.lit (.bool false)], args := [d] }
  | _ => none }
def FnExactCountGroupsWrongFalsely : Prop := fnExactCountGroupsRow.holds Try.pinned (OpenSpec.ofChange fnExactCountGroupsWrong)

/-- 'laws.FnExactDropBridge': WHATEVER THE INPUT: true; the input reads as it did. -/
def fnExactDropBridgeSpec : ChangeSpec := { name := "fnExactDropBridge", fn := fun _ => fun
  | [d1, d2] => { results := [.lit (.bool true)], args := [d1, d2] }
  | _ => none }
def fnExactDropBridgeRow : OpenClaim := { program := "ytkikaakfdggklaa", sum := "372c990dedf63b3814cbd3474da2da7c51b658f395381ef161e6d4ec1d3ebb22", func := "loop.example/g01352/laws.FnExactDropBridge", spec := "fnExactDropBridge", unfollowed := true, recurses := true, apart := false }
def FnExactDropBridgeSaid : Prop := fnExactDropBridgeRow.holds Try.pinned (OpenSpec.ofChange fnExactDropBridgeSpec)

/-- ITS FALSE NEIGHBOUR: 'it returns false'. Refute it at one input. -/
def fnExactDropBridgeWrong : ChangeSpec := { name := "fnExactDropBridge", fn := fun _ => fun
  | [d1, d2] => { results := [.lit (.bool false)], args := [d1, d2] }
  | _ => none }
def FnExactDropBridgeWrongFalsely : Prop := fnExactDropBridgeRow.holds Try.pinned (OpenSpec.ofChange fnExactDropBridgeWrong)

/-- 'laws.FnExactBridgesBetween': WHATEVER THE INPUT: true; the input reads as it did. -/
def fnExactBridgesBetweenSpec : ChangeSpec := { name := "fnExactBridgesBetween", fn := fun _ => fun
  | [d1, d2, d3] => { results := [.lit (.bool true)], args := [d1, d2, d3] }
  | _ => none }
def fnExactBridgesBetweenRow : OpenClaim := { program := "ytkikaakfdggklaa", sum := "372c990dedf63b3814cbd3474da2da7c51b658f395381ef161e6d4ec1d3ebb22", func := "loop.example/g01352/laws.FnExactBridgesBetween", spec := "fnExactBridgesBetween", unfollowed := true, recurses := true, apart := false }
def FnExactBridgesBetweenSaid : Prop := fnExactBridgesBetweenRow.holds Try.pinned (OpenSpec.ofChange fnExactBridgesBetweenSpec)

/-- ITS FALSE NEIGHBOUR: 'it returns false'. Refute it at one input. -/
def fnExactBridgesBetweenWrong : ChangeSpec := { name := "fnExactBridgesBetween", fn := fun _ => fun
  | [d1, d2, d3] => { results := [.lit (.bool false)], args := [d1, d2, d3] }
  | _ => none }
def FnExactBridgesBetweenWrongFalsely : Prop := fnExactBridgesBetweenRow.holds Try.pinned (OpenSpec.ofChange fnExactBridgesBetweenWrong)

/-- 'laws.FnExactTollBetween': WHATEVER THE INPUT: true; the input reads as it did. -/
def fnExactTollBetweenSpec : ChangeSpec := { name := "fnExactTollBetween", fn := fun _ => fun
  | [d1, d2, d3] => { results := [.lit (.bool true)], args := [d1, d2, d3] }
  | _ => none }
def fnExactTollBetweenRow : OpenClaim := { program := "ytkikaakfdggklaa", sum := "372c990dedf63b3814cbd3474da2da7c51b658f395381ef161e6d4ec1d3ebb22", func := "loop.example/g01352/laws.FnExactTollBetween", spec := "fnExactTollBetween", unfollowed := true, recurses := true, apart := false }
def FnExactTollBetweenSaid : Prop := fnExactTollBetweenRow.holds Try.pinned (OpenSpec.ofChange fnExactTollBetweenSpec)

/-- ITS FALSE NEIGHBOUR: 'it returns false'. Refute it at one input. -/
def fnExactTollBetweenWrong : ChangeSpec := { name := "fnExactTollBetween", fn := fun _ => fun
  | [d1, d2, d3] => { results := [.lit (.bool false)], args := [d1, d2, d3] }
  | _ => none }
def FnExactTollBetweenWrongFalsely : Prop := fnExactTollBetweenRow.holds Try.pinned (OpenSpec.ofChange fnExactTollBetweenWrong)

/-- 'laws.FnExactHasRound': WHATEVER THE INPUT: true; the input reads as it did. -/
def fnExactHasRoundSpec : ChangeSpec := { name := "fnExactHasRound", fn := fun _ => fun
  | [d] => { results := [.lit (.bool true)], args := [d] }
  | _ => none }
def fnExactHasRoundRow : OpenClaim := { program := "ytkikaakfdggklaa", sum := "372c990dedf63b3814cbd3474da2da7c51b658f395381ef161e6d4ec1d3ebb22", func := "loop.example/g01352/laws.FnExactHasRound", spec := "fnExactHasRound", unfollowed := true, recurses := true, apart := false }
def FnExactHasRoundSaid : Prop := fnExactHasRoundRow.holds Try.pinned (OpenSpec.ofChange fnExactHasRoundSpec)

/-- ITS FALSE NEIGHBOUR: 'it returns false'. Refute it at one input. -/
def fnExactHasRoundWrong : ChangeSpec := { name := "fnExactHasRound", fn := fun _ => fun
  | [d] => { results := [.lit (.bool false)], args := [d] }
  | _ => none }
def FnExactHasRoundWrongFalsely : Prop := fnExactHasRoundRow.holds Try.pinned (OpenSpec.ofChange fnExactHasRoundWrong)

/-- 'laws.FnExactFarthestIsland': WHATEVER THE INPUT: true; the input reads as it did. -/
def fnExactFarthestIslandSpec : ChangeSpec := { name := "fnExactFarthestIsland", fn := fun _ => fun
  | [d1, d2] => { results := [.lit (.bool true)], args := [d1, d2] }
  | _ => none }
def fnExactFarthestIslandRow : OpenClaim := { program := "ytkikaakfdggklaa", sum := "372c990dedf63b3814cbd3474da2da7c51b658f395381ef161e6d4ec1d3ebb22", func := "loop.example/g01352/laws.FnExactFarthestIsland", spec := "fnExactFarthestIsland", unfollowed := true, recurses := true, apart := false }
def FnExactFarthestIslandSaid : Prop := fnExactFarthestIslandRow.holds Try.pinned (OpenSpec.ofChange fnExactFarthestIslandSpec)

/-- ITS FALSE NEIGHBOUR: 'it returns false'. Refute it at one input. -/
def fnExactFarthestIslandWrong : ChangeSpec := { name := "fnExactFarthestIsland", fn := fun _ => fun
  | [d1, d2] => { results := [.lit (.bool false)], args := [d1, d2] }
  | _ => none }
def FnExactFarthestIslandWrongFalsely : Prop := fnExactFarthestIslandRow.holds Try.pinned (OpenSpec.ofChange fnExactFarthestIslandWrong)

/-- 'laws.FnExactGroupOf': WHATEVER THE INPUT: true; the input reads as it did. -/
def fnExactGroupOfSpec : ChangeSpec := { name := "fnExactGroupOf", fn := fun _ => fun
  | [d1, d2] => { results := [.lit (.bool true)], args := [d1, d2] }
  | _ => none }
def fnExactGroupOfRow : OpenClaim := { program := "ytkikaakfdggklaa", sum := "372c990dedf63b3814cbd3474da2da7c51b658f395381ef161e6d4ec1d3ebb22", func := "loop.example/g01352/laws.FnExactGroupOf", spec := "fnExactGroupOf", unfollowed := true, recurses := true, apart := false }
def FnExactGroupOfSaid : Prop := fnExactGroupOfRow.holds Try.pinned (OpenSpec.ofChange fnExactGroupOfSpec)

/-- ITS FALSE NEIGHBOUR: 'it returns false'. Refute it at one input. -/
def fnExactGroupOfWrong : ChangeSpec := { name := "fnExactGroupOf", fn := fun _ => fun
  | [d1, d2] => { results := [.lit (.bool false)], args := [d1, d2] }
  | _ => none }
def FnExactGroupOfWrongFalsely : Prop := fnExactGroupOfRow.holds Try.pinned (OpenSpec.ofChange fnExactGroupOfWrong)

/-- 'laws.FnExactCountToJoin': WHATEVER THE INPUT: true; the input reads as it did. -/
def fnExactCountToJoinSpec : ChangeSpec := { name := "fnExactCountToJoin", fn := fun _ => fun
  | [d] => { results := [.lit (.bool true)], args := [d] }
  | _ => none }
def fnExactCountToJoinRow : OpenClaim := { program := "ytkikaakfdggklaa", sum := "372c990dedf63b3814cbd3474da2da7c51b658f395381ef161e6d4ec1d3ebb22", func := "loop.example/g01352/laws.FnExactCountToJoin", spec := "fnExactCountToJoin", unfollowed := true, recurses := true, apart := false }
def FnExactCountToJoinSaid : Prop := fnExactCountToJoinRow.holds Try.pinned (OpenSpec.ofChange fnExactCountToJoinSpec)

/-- ITS FALSE NEIGHBOUR: 'it returns false'. Refute it at one input. -/
def fnExactCountToJoinWrong : ChangeSpec := { name := "fnExactCountToJoin", fn := fun _ => fun
  | [d] => { results := [.lit (.bool false)], args := [d] }
  | _ => none }
def FnExactCountToJoinWrongFalsely : Prop := fnExactCountToJoinRow.holds Try.pinned (OpenSpec.ofChange fnExactCountToJoinWrong)

/-- 'laws.FnExactLeastToJoin': WHATEVER THE INPUT: true; the input reads as it did. -/
def fnExactLeastToJoinSpec : ChangeSpec := { name := "fnExactLeastToJoin", fn := fun _ => fun
  | [d] => { results := [.lit (.bool true)], args := [d] }
  | _ => none }
def fnExactLeastToJoinRow : OpenClaim := { program := "ytkikaakfdggklaa", sum := "372c990dedf63b3814cbd3474da2da7c51b658f395381ef161e6d4ec1d3ebb22", func := "loop.example/g01352/laws.FnExactLeastToJoin", spec := "fnExactLeastToJoin", unfollowed := true, recurses := true, apart := false }
def FnExactLeastToJoinSaid : Prop := fnExactLeastToJoinRow.holds Try.pinned (OpenSpec.ofChange fnExactLeastToJoinSpec)

/-- ITS FALSE NEIGHBOUR: 'it returns false'. Refute it at one input. -/
def fnExactLeastToJoinWrong : ChangeSpec := { name := "fnExactLeastToJoin", fn := fun _ => fun
  | [d] => { results := [.lit (.bool false)], args := [d] }
  | _ => none }
def FnExactLeastToJoinWrongFalsely : Prop := fnExactLeastToJoinRow.holds Try.pinned (OpenSpec.ofChange fnExactLeastToJoinWrong)

/-- 'laws.FnExactCutIslands': WHATEVER THE INPUT: true; the input reads as it did. -/
def fnExactCutIslandsSpec : ChangeSpec := { name := "fnExactCutIslands", fn := fun _ => fun
  | [d] => { results := [.lit (.bool true)], args := [d] }
  | _ => none }
def fnExactCutIslandsRow : OpenClaim := { program := "ytkikaakfdggklaa", sum := "372c990dedf63b3814cbd3474da2da7c51b658f395381ef161e6d4ec1d3ebb22", func := "loop.example/g01352/laws.FnExactCutIslands", spec := "fnExactCutIslands", unfollowed := true, recurses := true, apart := false }
def FnExactCutIslandsSaid : Prop := fnExactCutIslandsRow.holds Try.pinned (OpenSpec.ofChange fnExactCutIslandsSpec)

/-- ITS FALSE NEIGHBOUR: 'it returns false'. Refute it at one input. -/
def fnExactCutIslandsWrong : ChangeSpec := { name := "fnExactCutIslands", fn := fun _ => fun
  | [d] => { results := [.lit (.bool false)], args := [d] }
  | _ => none }
def FnExactCutIslandsWrongFalsely : Prop := fnExactCutIslandsRow.holds Try.pinned (OpenSpec.ofChange fnExactCutIslandsWrong)

/-- 'laws.FnExactCutBridges': WHATEVER THE INPUT: true; the input reads as it did. -/
def fnExactCutBridgesSpec : ChangeSpec := { name := "fnExactCutBridges", fn := fun _ => fun
  | [d] => { results := [.lit (.bool true)], args := [d] }
  | _ => none }
def fnExactCutBridgesRow : OpenClaim := { program := "ytkikaakfdggklaa", sum := "372c990dedf63b3814cbd3474da2da7c51b658f395381ef161e6d4ec1d3ebb22", func := "loop.example/g01352/laws.FnExactCutBridges", spec := "fnExactCutBridges", unfollowed := true, recurses := true, apart := false }
def FnExactCutBridgesSaid : Prop := fnExactCutBridgesRow.holds Try.pinned (OpenSpec.ofChange fnExactCutBridgesSpec)

/-- ITS FALSE NEIGHBOUR: 'it returns false'. Refute it at one input. -/
def fnExactCutBridgesWrong : ChangeSpec := { name := "fnExactCutBridges", fn := fun _ => fun
  | [d] => { results := [.lit (.bool false)], args := [d] }
  | _ => none }
def FnExactCutBridgesWrongFalsely : Prop := fnExactCutBridgesRow.holds Try.pinned (OpenSpec.ofChange fnExactCutBridgesWrong)

/-- 'laws.FnExactFirstWayOver': WHATEVER THE INPUT: true; the input reads as it did. -/
def fnExactFirstWayOverSpec : ChangeSpec := { name := "fnExactFirstWayOver", fn := fun _ => fun
  | [d1, d2, d3] => { results := [.lit (.bool true)], args := [d1, d2, d3] }
  | _ => none }
def fnExactFirstWayOverRow : OpenClaim := { program := "ytkikaakfdggklaa", sum := "372c990dedf63b3814cbd3474da2da7c51b658f395381ef161e6d4ec1d3ebb22", func := "loop.example/g01352/laws.FnExactFirstWayOver", spec := "fnExactFirstWayOver", unfollowed := true, recurses := true, apart := false }
def FnExactFirstWayOverSaid : Prop := fnExactFirstWayOverRow.holds Try.pinned (OpenSpec.ofChange fnExactFirstWayOverSpec)

/-- ITS FALSE NEIGHBOUR: 'it returns false'. Refute it at one input. -/
def fnExactFirstWayOverWrong : ChangeSpec := { name := "fnExactFirstWayOver", fn := fun _ => fun
  | [d1, d2, d3] => { results := [.lit (.bool false)], args := [d1, d2, d3] }
  | _ => none }
def FnExactFirstWayOverWrongFalsely : Prop := fnExactFirstWayOverRow.holds Try.pinned (OpenSpec.ofChange fnExactFirstWayOverWrong)

/-- 'laws.FnExactCenterIsland': WHATEVER THE INPUT: true; the input reads as it did. -/
def fnExactCenterIslandSpec : ChangeSpec := { name := "fnExactCenterIsland", fn := fun _ => fun
  | [d] => { results := [.lit (.bool true)], args := [d] }
  | _ => none }
def fnExactCenterIslandRow : OpenClaim := { program := "ytkikaakfdggklaa", sum := "372c990dedf63b3814cbd3474da2da7c51b658f395381ef161e6d4ec1d3ebb22", func := "loop.example/g01352/laws.FnExactCenterIsland", spec := "fnExactCenterIsland", unfollowed := true, recurses := true, apart := false }
def FnExactCenterIslandSaid : Prop := fnExactCenterIslandRow.holds Try.pinned (OpenSpec.ofChange fnExactCenterIslandSpec)

/-- ITS FALSE NEIGHBOUR: 'it returns false'. Refute it at one input. -/
def fnExactCenterIslandWrong : ChangeSpec := { name := "fnExactCenterIsland", fn := fun _ => fun
  | [d] => { results := [.lit (.bool false)], args := [d] }
  | _ => none }
def FnExactCenterIslandWrongFalsely : Prop := fnExactCenterIslandRow.holds Try.pinned (OpenSpec.ofChange fnExactCenterIslandWrong)

/-- 'laws.FnExactFirstToJoin': WHATEVER THE INPUT: true; the input reads as it did. -/
def fnExactFirstToJoinSpec : ChangeSpec := { name := "fnExactFirstToJoin", fn := fun _ => fun
  | [d] => { results := [.lit (.bool true)], args := [d] }
  | _ => none }
def fnExactFirstToJoinRow : OpenClaim := { program := "ytkikaakfdggklaa", sum := "372c990dedf63b3814cbd3474da2da7c51b658f395381ef161e6d4ec1d3ebb22", func := "loop.example/g01352/laws.FnExactFirstToJoin", spec := "fnExactFirstToJoin", unfollowed := true, recurses := true, apart := false }
def FnExactFirstToJoinSaid : Prop := fnExactFirstToJoinRow.holds Try.pinned (OpenSpec.ofChange fnExactFirstToJoinSpec)

/-- ITS FALSE NEIGHBOUR: 'it returns false'. Refute it at one input. -/
def fnExactFirstToJoinWrong : ChangeSpec := { name := "fnExactFirstToJoin", fn := fun _ => fun
  | [d] => { results := [.lit (.bool false)], args := [d] }
  | _ => none }
def FnExactFirstToJoinWrongFalsely : Prop := fnExactFirstToJoinRow.holds Try.pinned (OpenSpec.ofChange fnExactFirstToJoinWrong)

/-- 'laws.FnExactFirstRound': WHATEVER THE INPUT: true; the input reads as it did. -/
def fnExactFirstRoundSpec : ChangeSpec := { name := "fnExactFirstRound", fn := fun _ => fun
  | [d1, d2] => { results := [.lit (.bool true)], args := [d1, d2] }
  | _ => none }
def fnExactFirstRoundRow : OpenClaim := { program := "ytkikaakfdggklaa", sum := "372c990dedf63b3814cbd3474da2da7c51b658f395381ef161e6d4ec1d3ebb22", func := "loop.example/g01352/laws.FnExactFirstRound", spec := "fnExactFirstRound", unfollowed := true, recurses := true, apart := false }
def FnExactFirstRoundSaid : Prop := fnExactFirstRoundRow.holds Try.pinned (OpenSpec.ofChange fnExactFirstRoundSpec)

/-- ITS FALSE NEIGHBOUR: 'it returns false'. Refute it at one input. -/
def fnExactFirstRoundWrong : ChangeSpec := { name := "fnExactFirstRound", fn := fun _ => fun
  | [d1, d2] => { results := [.lit (.bool false)], args := [d1, d2] }
  | _ => none }
def FnExactFirstRoundWrongFalsely : Prop := fnExactFirstRoundRow.holds Try.pinned (OpenSpec.ofChange fnExactFirstRoundWrong)

/- THE SECOND FORM. 'bulk': how many values and letters a reading holds, each counted each time it is reached (what is shared counts as often as it is met; a slice's spare places count too). A statement '..UptoSaid' is the law's where the arguments, and the package variables that the reading takes, are together of bulk at most 1048576: NARROWER than '..Said'. Prove '..Said' where nothing that the law and all that it calls make is longer than what came in: it says more and counts as full. Else prove '..UptoSaid'. A law counts once. -/
mutual
def uptoBulk {H : Type} : DataW H → Nat
  | .lit (.string bytes) => bytes.length + 1
  | .lit _ => 1
  | .nil => 1
  | .ptr d => uptoBulk d + 1
  | .slice elems spare => uptoBulkAll elems + uptoBulkAll spare + 1
  | .agg parts => uptoBulkAll parts + 1
  | .iface _ d => uptoBulk d + 1
  | .map entries => uptoBulkEntries entries + 1
  | .held _ => 1
def uptoBulkAll {H : Type} : List (DataW H) → Nat
  | [] => 0
  | d :: r => uptoBulk d + uptoBulkAll r
def uptoBulkEntries {H : Type} : List (Lit × DataW H) → Nat
  | [] => 0
  | x :: r => uptoBulkEntry x + uptoBulkEntries r
def uptoBulkEntry {H : Type} : Lit × DataW H → Nat
  | (.string bytes, d) => bytes.length + uptoBulk d + 1
  | (_, d) => uptoBulk d + 1
 end
def uptoSmall : (H : Type) → List (DataW H) → Bool := fun _ ds => decide (uptoBulkAll ds ≤ 1048576)
def OpenSpec.upto (s : _root_.Go.ChangeSpec) : _root_.Go.OpenSpec := { _root_.Go.OpenSpec.ofChange s with cond := some uptoSmall }

/-- 'laws.FnExactAreIsles', WHERE WHAT IT READS IS OF BULK AT MOST 1048576: true; the input reads as it did. -/
def fnExactAreIslesUptoRow : OpenClaim := { program := "ytkikaakfdggklaa", sum := "372c990dedf63b3814cbd3474da2da7c51b658f395381ef161e6d4ec1d3ebb22", func := "loop.example/g01352/laws.FnExactAreIsles", spec := "fnExactAreIsles", unfollowed := true, recurses := true, apart := false, narrowed := true }
def FnExactAreIslesUptoSaid : Prop := fnExactAreIslesUptoRow.holds Try.pinned (OpenSpec.upto fnExactAreIslesSpec)

/-- 'laws.FnExactAddBridge', WHERE WHAT IT READS IS OF BULK AT MOST 1048576: true; the input reads as it did. -/
def fnExactAddBridgeUptoRow : OpenClaim := { program := "ytkikaakfdggklaa", sum := "372c990dedf63b3814cbd3474da2da7c51b658f395381ef161e6d4ec1d3ebb22", func := "loop.example/g01352/laws.FnExactAddBridge", spec := "fnExactAddBridge", unfollowed := true, recurses := true, apart := false, narrowed := true }
def FnExactAddBridgeUptoSaid : Prop := fnExactAddBridgeUptoRow.holds Try.pinned (OpenSpec.upto fnExactAddBridgeSpec)

/-- 'laws.FnExactCountGroups', WHERE WHAT IT READS IS OF BULK AT MOST 1048576: true; the input reads as it did. -/
def fnExactCountGroupsUptoRow : OpenClaim := { program := "ytkikaakfdggklaa", sum := "372c990dedf63b3814cbd3474da2da7c51b658f395381ef161e6d4ec1d3ebb22", func := "loop.example/g01352/laws.FnExactCountGroups", spec := "fnExactCountGroups", unfollowed := true, recurses := true, apart := false, narrowed := true }
def FnExactCountGroupsUptoSaid : Prop := fnExactCountGroupsUptoRow.holds Try.pinned (OpenSpec.upto fnExactCountGroupsSpec)

/-- 'laws.FnExactDropBridge', WHERE WHAT IT READS IS OF BULK AT MOST 1048576: true; the input reads as it did. -/
def fnExactDropBridgeUptoRow : OpenClaim := { program := "ytkikaakfdggklaa", sum := "372c990dedf63b3814cbd3474da2da7c51b658f395381ef161e6d4ec1d3ebb22", func := "loop.example/g01352/laws.FnExactDropBridge", spec := "fnExactDropBridge", unfollowed := true, recurses := true, apart := false, narrowed := true }
def FnExactDropBridgeUptoSaid : Prop := fnExactDropBridgeUptoRow.holds Try.pinned (OpenSpec.upto fnExactDropBridgeSpec)

/-- 'laws.FnExactBridgesBetween', WHERE WHAT IT READS IS OF BULK AT MOST 1048576: true; the input reads as it did. -/
def fnExactBridgesBetweenUptoRow : OpenClaim := { program := "ytkikaakfdggklaa", sum := "372c990dedf63b3814cbd3474da2da7c51b658f395381ef161e6d4ec1d3ebb22", func := "loop.example/g01352/laws.FnExactBridgesBetween", spec := "fnExactBridgesBetween", unfollowed := true, recurses := true, apart := false, narrowed := true }
def FnExactBridgesBetweenUptoSaid : Prop := fnExactBridgesBetweenUptoRow.holds Try.pinned (OpenSpec.upto fnExactBridgesBetweenSpec)

/-- 'laws.FnExactTollBetween', WHERE WHAT IT READS IS OF BULK AT MOST 1048576: true; the input reads as it did. -/
def fnExactTollBetweenUptoRow : OpenClaim := { program := "ytkikaakfdggklaa", sum := "372c990dedf63b3814cbd3474da2da7c51b658f395381ef161e6d4ec1d3ebb22", func := "loop.example/g01352/laws.FnExactTollBetween", spec := "fnExactTollBetween", unfollowed := true, recurses := true, apart := false, narrowed := true }
def FnExactTollBetweenUptoSaid : Prop := fnExactTollBetweenUptoRow.holds Try.pinned (OpenSpec.upto fnExactTollBetweenSpec)

/-- 'laws.FnExactHasRound', WHERE WHAT IT READS IS OF BULK AT MOST 1048576: true; the input reads as it did. -/
def fnExactHasRoundUptoRow : OpenClaim := { program := "ytkikaakfdggklaa", sum := "372c990dedf63b3814cbd3474da2da7c51b658f395381ef161e6d4ec1d3ebb22", func := "loop.example/g01352/laws.FnExactHasRound", spec := "fnExactHasRound", unfollowed := true, recurses := true, apart := false, narrowed := true }
def FnExactHasRoundUptoSaid : Prop := fnExactHasRoundUptoRow.holds Try.pinned (OpenSpec.upto fnExactHasRoundSpec)

/-- 'laws.FnExactFarthestIsland', WHERE WHAT IT READS IS OF BULK AT MOST 1048576: true; the input reads as it did. -/
def fnExactFarthestIslandUptoRow : OpenClaim := { program := "ytkikaakfdggklaa", sum := "372c990dedf63b3814cbd3474da2da7c51b658f395381ef161e6d4ec1d3ebb22", func := "loop.example/g01352/laws.FnExactFarthestIsland", spec := "fnExactFarthestIsland", unfollowed := true, recurses := true, apart := false, narrowed := true }
def FnExactFarthestIslandUptoSaid : Prop := fnExactFarthestIslandUptoRow.holds Try.pinned (OpenSpec.upto fnExactFarthestIslandSpec)

/-- 'laws.FnExactGroupOf', WHERE WHAT IT READS IS OF BULK AT MOST 1048576: true; the input reads as it did. -/
def fnExactGroupOfUptoRow : OpenClaim := { program := "ytkikaakfdggklaa", sum := "372c990dedf63b3814cbd3474da2da7c51b658f395381ef161e6d4ec1d3ebb22", func := "loop.example/g01352/laws.FnExactGroupOf", spec := "fnExactGroupOf", unfollowed := true, recurses := true, apart := false, narrowed := true }
def FnExactGroupOfUptoSaid : Prop := fnExactGroupOfUptoRow.holds Try.pinned (OpenSpec.upto fnExactGroupOfSpec)

/-- 'laws.FnExactCountToJoin', WHERE WHAT IT READS IS OF BULK AT MOST 1048576: true; the input reads as it did. -/
def fnExactCountToJoinUptoRow : OpenClaim := { program := "ytkikaakfdggklaa", sum := "372c990dedf63b3814cbd3474da2da7c51b658f395381ef161e6d4ec1d3ebb22", func := "loop.example/g01352/laws.FnExactCountToJoin", spec := "fnExactCountToJoin", unfollowed := true, recurses := true, apart := false, narrowed := true }
def FnExactCountToJoinUptoSaid : Prop := fnExactCountToJoinUptoRow.holds Try.pinned (OpenSpec.upto fnExactCountToJoinSpec)

/-- 'laws.FnExactLeastToJoin', WHERE WHAT IT READS IS OF BULK AT MOST 1048576: true; the input reads as it did. -/
def fnExactLeastToJoinUptoRow : OpenClaim := { program := "ytkikaakfdggklaa", sum := "372c990dedf63b3814cbd3474da2da7c51b658f395381ef161e6d4ec1d3ebb22", func := "loop.example/g01352/laws.FnExactLeastToJoin", spec := "fnExactLeastToJoin", unfollowed := true, recurses := true, apart := false, narrowed := true }
def FnExactLeastToJoinUptoSaid : Prop := fnExactLeastToJoinUptoRow.holds Try.pinned (OpenSpec.upto fnExactLeastToJoinSpec)

/-- 'laws.FnExactCutIslands', WHERE WHAT IT READS IS OF BULK AT MOST 1048576: true; the input reads as it did. -/
def fnExactCutIslandsUptoRow : OpenClaim := { program := "ytkikaakfdggklaa", sum := "372c990dedf63b3814cbd3474da2da7c51b658f395381ef161e6d4ec1d3ebb22", func := "loop.example/g01352/laws.FnExactCutIslands", spec := "fnExactCutIslands", unfollowed := true, recurses := true, apart := false, narrowed := true }
def FnExactCutIslandsUptoSaid : Prop := fnExactCutIslandsUptoRow.holds Try.pinned (OpenSpec.upto fnExactCutIslandsSpec)

/-- 'laws.FnExactCutBridges', WHERE WHAT IT READS IS OF BULK AT MOST 1048576: true; the input reads as it did. -/
def fnExactCutBridgesUptoRow : OpenClaim := { program := "ytkikaakfdggklaa", sum := "372c990dedf63b3814cbd3474da2da7c51b658f395381ef161e6d4ec1d3ebb22", func := "loop.example/g01352/laws.FnExactCutBridges", spec := "fnExactCutBridges", unfollowed := true, recurses := true, apart := false, narrowed := true }
def FnExactCutBridgesUptoSaid : Prop := fnExactCutBridgesUptoRow.holds Try.pinned (OpenSpec.upto fnExactCutBridgesSpec)

/-- 'laws.FnExactFirstWayOver', WHERE WHAT IT READS IS OF BULK AT MOST 1048576: true; the input reads as it did. -/
def fnExactFirstWayOverUptoRow : OpenClaim := { program := "ytkikaakfdggklaa", sum := "372c990dedf63b3814cbd3474da2da7c51b658f395381ef161e6d4ec1d3ebb22", func := "loop.example/g01352/laws.FnExactFirstWayOver", spec := "fnExactFirstWayOver", unfollowed := true, recurses := true, apart := false, narrowed := true }
def FnExactFirstWayOverUptoSaid : Prop := fnExactFirstWayOverUptoRow.holds Try.pinned (OpenSpec.upto fnExactFirstWayOverSpec)

/-- 'laws.FnExactCenterIsland', WHERE WHAT IT READS IS OF BULK AT MOST 1048576: true; the input reads as it did. -/
def fnExactCenterIslandUptoRow : OpenClaim := { program := "ytkikaakfdggklaa", sum := "372c990dedf63b3814cbd3474da2da7c51b658f395381ef161e6d4ec1d3ebb22", func := "loop.example/g01352/laws.FnExactCenterIsland", spec := "fnExactCenterIsland", unfollowed := true, recurses := true, apart := false, narrowed := true }
def FnExactCenterIslandUptoSaid : Prop := fnExactCenterIslandUptoRow.holds Try.pinned (OpenSpec.upto fnExactCenterIslandSpec)

/-- 'laws.FnExactFirstToJoin', WHERE WHAT IT READS IS OF BULK AT MOST 1048576: true; the input reads as it did. -/
def fnExactFirstToJoinUptoRow : OpenClaim := { program := "ytkikaakfdggklaa", sum := "372c990dedf63b3814cbd3474da2da7c51b658f395381ef161e6d4ec1d3ebb22", func := "loop.example/g01352/laws.FnExactFirstToJoin", spec := "fnExactFirstToJoin", unfollowed := true, recurses := true, apart := false, narrowed := true }
def FnExactFirstToJoinUptoSaid : Prop := fnExactFirstToJoinUptoRow.holds Try.pinned (OpenSpec.upto fnExactFirstToJoinSpec)

/-- 'laws.FnExactFirstRound', WHERE WHAT IT READS IS OF BULK AT MOST 1048576: true; the input reads as it did. -/
def fnExactFirstRoundUptoRow : OpenClaim := { program := "ytkikaakfdggklaa", sum := "372c990dedf63b3814cbd3474da2da7c51b658f395381ef161e6d4ec1d3ebb22", func := "loop.example/g01352/laws.FnExactFirstRound", spec := "fnExactFirstRound", unfollowed := true, recurses := true, apart := false, narrowed := true }
def FnExactFirstRoundUptoSaid : Prop := fnExactFirstRoundUptoRow.holds Try.pinned (OpenSpec.upto fnExactFirstRoundSpec)

end Rows
end Go.Proofs.Ytkikaakfdggklaa
