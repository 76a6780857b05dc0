/-
  No cell of these rows narrows 'for every input' (looked for: loops, veiled, ifaces, maps, wideKeys, modest, calm, conditions, laid).
  DERIVED. THE GIVEN ROWS OF THIS SEAT. 14 by the template 'for every input the law returns true; each argument reads behind the call as it read before'; 0 by the template 'total and deterministic' (their statements: YtmfbhjfkagnahaaTotals.lean).
  GIVEN WITH THE SEED: the statements are not yours to turn. If you find one false, say at which input.
  Laid BY PROGRAM, IN A SANDBOX (cutbox-rows.mjs): the forced cells as the released guide's own fill.sh prints them over the translation b58a16b7ea9d9ffe… (all of the seat's roots in one cut). By AI agents, Wed Nov 11 2026. No macro, syntax, notation, axiom, sorry.
-/
import Derived.Test.YtmfbhjfkagnahaaChecked
import GoSem.Claim
import GoSem.ClaimJoined
import GoSem.ClaimMapViews
import Derived.JoinedTies
import Derived.KernelRfl
namespace Go.Proofs.Ytmfbhjfkagnahaa
/- THE CELL 'sum', in the pinned program and in every row, IS THE sha256 OF THE DUMP (.gsa) THAT YtmfbhjfkagnahaaProg.lean LOADS. Nothing in Lean hashes anything: it is a label: what it is worth is what the hold of that sum in a sandbox is worth. -/
noncomputable def Try.pinned : Pinned := { name := "ytmfbhjfkagnahaa", sum := "b58a16b7ea9d9ffeb330c6a238e3736cf0b739f328230e1688d0812c35c34919", checked := Try.checked }
namespace Rows
def none {H : Type} : Left H := { results := [], args := [] }

/-- 'buttresslaw07.TreeUnder': WHATEVER THE INPUT: true; the input reads as it did. -/
def treeUnderSpec : ChangeSpec := { name := "treeUnder", fn := fun _ => fun
  | [d] => { results := [.lit (.bool true)], args := [d] }
  | _ => none }
def treeUnderRow : OpenClaim := { program := "ytmfbhjfkagnahaa", sum := "b58a16b7ea9d9ffeb330c6a238e3736cf0b739f328230e1688d0812c35c34919", func := "buttress/buttresslaw07.TreeUnder", spec := "treeUnder", inPlace := ["slices.overlaps[buttress/tree.leaf]"], unfollowed := true, recurses := true, apart := false }
def TreeUnderSaid : Prop := treeUnderRow.holds Try.pinned (OpenSpec.ofChange treeUnderSpec)

/-- ITS FALSE NEIGHBOUR: 'it returns false'. Refute it at one input. -/
def treeUnderWrong : ChangeSpec := { name := "treeUnder", fn := fun _ => fun
  | [d] => { results := [.lit (.bool false)], args := [d] }
  | _ => none }
def TreeUnderWrongFalsely : Prop := treeUnderRow.holds Try.pinned (OpenSpec.ofChange treeUnderWrong)

/-- 'buttresslaw07.TreeMoves': WHATEVER THE INPUT: true; the input reads as it did. -/
def treeMovesSpec : ChangeSpec := { name := "treeMoves", fn := fun _ => fun
  | [d1, d2] => { results := [.lit (.bool true)], args := [d1, d2] }
  | _ => none }
def treeMovesRow : OpenClaim := { program := "ytmfbhjfkagnahaa", sum := "b58a16b7ea9d9ffeb330c6a238e3736cf0b739f328230e1688d0812c35c34919", func := "buttress/buttresslaw07.TreeMoves", spec := "treeMoves", inPlace := ["slices.overlaps[buttress/tree.leaf]"], unfollowed := true, recurses := true, apart := false }
def TreeMovesSaid : Prop := treeMovesRow.holds Try.pinned (OpenSpec.ofChange treeMovesSpec)

/-- ITS FALSE NEIGHBOUR: 'it returns false'. Refute it at one input. -/
def treeMovesWrong : ChangeSpec := { name := "treeMoves", fn := fun _ => fun
  | [d1, d2] => { results := [.lit (.bool false)], args := [d1, d2] }
  | _ => none }
def TreeMovesWrongFalsely : Prop := treeMovesRow.holds Try.pinned (OpenSpec.ofChange treeMovesWrong)

/-- 'buttresslaw07.TreeAdds': WHATEVER THE INPUT: true; the input reads as it did. -/
def treeAddsSpec : ChangeSpec := { name := "treeAdds", fn := fun _ => fun
  | [d1, d2] => { results := [.lit (.bool true)], args := [d1, d2] }
  | _ => none }
def treeAddsRow : OpenClaim := { program := "ytmfbhjfkagnahaa", sum := "b58a16b7ea9d9ffeb330c6a238e3736cf0b739f328230e1688d0812c35c34919", func := "buttress/buttresslaw07.TreeAdds", spec := "treeAdds", inPlace := ["slices.overlaps[buttress/tree.leaf]"], unfollowed := true, recurses := true, apart := false }
def TreeAddsSaid : Prop := treeAddsRow.holds Try.pinned (OpenSpec.ofChange treeAddsSpec)

/-- ITS FALSE NEIGHBOUR: 'it returns false'. Refute it at one input. -/
def treeAddsWrong : ChangeSpec := { name := "treeAdds", fn := fun _ => fun
  | [d1, d2] => { results := [.lit (.bool false)], args := [d1, d2] }
  | _ => none }
def TreeAddsWrongFalsely : Prop := treeAddsRow.holds Try.pinned (OpenSpec.ofChange treeAddsWrong)

/-- 'buttresslaw07.TreeRoots': WHATEVER THE INPUT: true; the input reads as it did. -/
def treeRootsSpec : ChangeSpec := { name := "treeRoots", fn := fun _ => fun
  | [d] => { results := [.lit (.bool true)], args := [d] }
  | _ => none }
def treeRootsRow : OpenClaim := { program := "ytmfbhjfkagnahaa", sum := "b58a16b7ea9d9ffeb330c6a238e3736cf0b739f328230e1688d0812c35c34919", func := "buttress/buttresslaw07.TreeRoots", spec := "treeRoots", inPlace := ["slices.overlaps[buttress/tree.leaf]"], unfollowed := true, recurses := true, apart := false }
def TreeRootsSaid : Prop := treeRootsRow.holds Try.pinned (OpenSpec.ofChange treeRootsSpec)

/-- ITS FALSE NEIGHBOUR: 'it returns false'. Refute it at one input. -/
def treeRootsWrong : ChangeSpec := { name := "treeRoots", fn := fun _ => fun
  | [d] => { results := [.lit (.bool false)], args := [d] }
  | _ => none }
def TreeRootsWrongFalsely : Prop := treeRootsRow.holds Try.pinned (OpenSpec.ofChange treeRootsWrong)

/-- 'buttresslaw07.TreeNone': WHATEVER THE INPUT: true; the input reads as it did. -/
def treeNoneSpec : ChangeSpec := { name := "treeNone", fn := fun _ => fun
  | [d1, d2] => { results := [.lit (.bool true)], args := [d1, d2] }
  | _ => none }
def treeNoneRow : OpenClaim := { program := "ytmfbhjfkagnahaa", sum := "b58a16b7ea9d9ffeb330c6a238e3736cf0b739f328230e1688d0812c35c34919", func := "buttress/buttresslaw07.TreeNone", spec := "treeNone", inPlace := ["slices.overlaps[buttress/tree.leaf]"], unfollowed := true, recurses := true, apart := false }
def TreeNoneSaid : Prop := treeNoneRow.holds Try.pinned (OpenSpec.ofChange treeNoneSpec)

/-- ITS FALSE NEIGHBOUR: 'it returns false'. Refute it at one input. -/
def treeNoneWrong : ChangeSpec := { name := "treeNone", fn := fun _ => fun
  | [d1, d2] => { results := [.lit (.bool false)], args := [d1, d2] }
  | _ => none }
def TreeNoneWrongFalsely : Prop := treeNoneRow.holds Try.pinned (OpenSpec.ofChange treeNoneWrong)

/-- 'buttresslaw07.TreeDoes': WHATEVER THE INPUT: true; the input reads as it did. -/
def treeDoesSpec : ChangeSpec := { name := "treeDoes", fn := fun _ => fun
  | [d] => { results := [.lit (.bool true)], args := [d] }
  | _ => none }
def treeDoesRow : OpenClaim := { program := "ytmfbhjfkagnahaa", sum := "b58a16b7ea9d9ffeb330c6a238e3736cf0b739f328230e1688d0812c35c34919", func := "buttress/buttresslaw07.TreeDoes", spec := "treeDoes", inPlace := ["slices.overlaps[buttress/tree.leaf]"], unfollowed := true, recurses := true, apart := false }
def TreeDoesSaid : Prop := treeDoesRow.holds Try.pinned (OpenSpec.ofChange treeDoesSpec)

/-- ITS FALSE NEIGHBOUR: 'it returns false'. Refute it at one input. -/
def treeDoesWrong : ChangeSpec := { name := "treeDoes", fn := fun _ => fun
  | [d] => { results := [.lit (.bool false)], args := [d] }
  | _ => none }
def TreeDoesWrongFalsely : Prop := treeDoesRow.holds Try.pinned (OpenSpec.ofChange treeDoesWrong)

/-- 'buttresslaw07.TreeTakes': WHATEVER THE INPUT: true; the input reads as it did. -/
def treeTakesSpec : ChangeSpec := { name := "treeTakes", fn := fun _ => fun
  | [d1, d2] => { results := [.lit (.bool true)], args := [d1, d2] }
  | _ => none }
def treeTakesRow : OpenClaim := { program := "ytmfbhjfkagnahaa", sum := "b58a16b7ea9d9ffeb330c6a238e3736cf0b739f328230e1688d0812c35c34919", func := "buttress/buttresslaw07.TreeTakes", spec := "treeTakes", inPlace := ["slices.overlaps[buttress/tree.leaf]"], unfollowed := true, recurses := true, apart := false }
def TreeTakesSaid : Prop := treeTakesRow.holds Try.pinned (OpenSpec.ofChange treeTakesSpec)

/-- ITS FALSE NEIGHBOUR: 'it returns false'. Refute it at one input. -/
def treeTakesWrong : ChangeSpec := { name := "treeTakes", fn := fun _ => fun
  | [d1, d2] => { results := [.lit (.bool false)], args := [d1, d2] }
  | _ => none }
def TreeTakesWrongFalsely : Prop := treeTakesRow.holds Try.pinned (OpenSpec.ofChange treeTakesWrong)

/-- 'buttresslaw14.TablesOnly': WHATEVER THE INPUT: true; the input reads as it did. -/
def tablesOnlySpec : ChangeSpec := { name := "tablesOnly", fn := fun _ => fun
  | [d1, d2, d3] => { results := [.lit (.bool true)], args := [d1, d2, d3] }
  | _ => none }
def tablesOnlyRow : OpenClaim := { program := "ytmfbhjfkagnahaa", sum := "b58a16b7ea9d9ffeb330c6a238e3736cf0b739f328230e1688d0812c35c34919", func := "buttress/buttresslaw14.TablesOnly", spec := "tablesOnly", unfollowed := true, recurses := true, apart := false }
def TablesOnlySaid : Prop := tablesOnlyRow.holds Try.pinned (OpenSpec.ofChange tablesOnlySpec)

/-- ITS FALSE NEIGHBOUR: 'it returns false'. Refute it at one input. -/
def tablesOnlyWrong : ChangeSpec := { name := "tablesOnly", fn := fun _ => fun
  | [d1, d2, d3] => { results := [.lit (.bool false)], args := [d1, d2, d3] }
  | _ => none }
def TablesOnlyWrongFalsely : Prop := tablesOnlyRow.holds Try.pinned (OpenSpec.ofChange tablesOnlyWrong)

/-- 'buttresslaw14.TablesApart': WHATEVER THE INPUT: true; the input reads as it did. -/
def tablesApartSpec : ChangeSpec := { name := "tablesApart", fn := fun _ => fun
  | [d1, d2] => { results := [.lit (.bool true)], args := [d1, d2] }
  | _ => none }
def tablesApartRow : OpenClaim := { program := "ytmfbhjfkagnahaa", sum := "b58a16b7ea9d9ffeb330c6a238e3736cf0b739f328230e1688d0812c35c34919", func := "buttress/buttresslaw14.TablesApart", spec := "tablesApart", unfollowed := true, recurses := true, apart := false }
def TablesApartSaid : Prop := tablesApartRow.holds Try.pinned (OpenSpec.ofChange tablesApartSpec)

/-- ITS FALSE NEIGHBOUR: 'it returns false'. Refute it at one input. -/
def tablesApartWrong : ChangeSpec := { name := "tablesApart", fn := fun _ => fun
  | [d1, d2] => { results := [.lit (.bool false)], args := [d1, d2] }
  | _ => none }
def TablesApartWrongFalsely : Prop := tablesApartRow.holds Try.pinned (OpenSpec.ofChange tablesApartWrong)

/-- 'buttresslaw14.TablesDrops': WHATEVER THE INPUT: true; the input reads as it did. -/
def tablesDropsSpec : ChangeSpec := { name := "tablesDrops", fn := fun _ => fun
  | [d1, d2] => { results := [.lit (.bool true)], args := [d1, d2] }
  | _ => none }
def tablesDropsRow : OpenClaim := { program := "ytmfbhjfkagnahaa", sum := "b58a16b7ea9d9ffeb330c6a238e3736cf0b739f328230e1688d0812c35c34919", func := "buttress/buttresslaw14.TablesDrops", spec := "tablesDrops", unfollowed := true, recurses := true, apart := false }
def TablesDropsSaid : Prop := tablesDropsRow.holds Try.pinned (OpenSpec.ofChange tablesDropsSpec)

/-- ITS FALSE NEIGHBOUR: 'it returns false'. Refute it at one input. -/
def tablesDropsWrong : ChangeSpec := { name := "tablesDrops", fn := fun _ => fun
  | [d1, d2] => { results := [.lit (.bool false)], args := [d1, d2] }
  | _ => none }
def TablesDropsWrongFalsely : Prop := tablesDropsRow.holds Try.pinned (OpenSpec.ofChange tablesDropsWrong)

/-- 'buttresslaw14.TablesFrames': WHATEVER THE INPUT: true; the input reads as it did. -/
def tablesFramesSpec : ChangeSpec := { name := "tablesFrames", fn := fun _ => fun
  | [d1, d2] => { results := [.lit (.bool true)], args := [d1, d2] }
  | _ => none }
def tablesFramesRow : OpenClaim := { program := "ytmfbhjfkagnahaa", sum := "b58a16b7ea9d9ffeb330c6a238e3736cf0b739f328230e1688d0812c35c34919", func := "buttress/buttresslaw14.TablesFrames", spec := "tablesFrames", unfollowed := true, recurses := true, apart := false }
def TablesFramesSaid : Prop := tablesFramesRow.holds Try.pinned (OpenSpec.ofChange tablesFramesSpec)

/-- ITS FALSE NEIGHBOUR: 'it returns false'. Refute it at one input. -/
def tablesFramesWrong : ChangeSpec := { name := "tablesFrames", fn := fun _ => fun
  | [d1, d2] => { results := [.lit (.bool false)], args := [d1, d2] }
  | _ => none }
def TablesFramesWrongFalsely : Prop := tablesFramesRow.holds Try.pinned (OpenSpec.ofChange tablesFramesWrong)

/-- 'buttresslaw14.TablesRights': WHATEVER THE INPUT: true; the input reads as it did. -/
def tablesRightsSpec : ChangeSpec := { name := "tablesRights", fn := fun _ => fun
  | [d1, d2, d3] => { results := [.lit (.bool true)], args := [d1, d2, d3] }
  | _ => none }
def tablesRightsRow : OpenClaim := { program := "ytmfbhjfkagnahaa", sum := "b58a16b7ea9d9ffeb330c6a238e3736cf0b739f328230e1688d0812c35c34919", func := "buttress/buttresslaw14.TablesRights", spec := "tablesRights", unfollowed := true, recurses := true, apart := false }
def TablesRightsSaid : Prop := tablesRightsRow.holds Try.pinned (OpenSpec.ofChange tablesRightsSpec)

/-- ITS FALSE NEIGHBOUR: 'it returns false'. Refute it at one input. -/
def tablesRightsWrong : ChangeSpec := { name := "tablesRights", fn := fun _ => fun
  | [d1, d2, d3] => { results := [.lit (.bool false)], args := [d1, d2, d3] }
  | _ => none }
def TablesRightsWrongFalsely : Prop := tablesRightsRow.holds Try.pinned (OpenSpec.ofChange tablesRightsWrong)

/-- 'buttresslaw14.TablesFull': WHATEVER THE INPUT: true; the input reads as it did. -/
def tablesFullSpec : ChangeSpec := { name := "tablesFull", fn := fun _ => fun
  | [d] => { results := [.lit (.bool true)], args := [d] }
  | _ => none }
def tablesFullRow : OpenClaim := { program := "ytmfbhjfkagnahaa", sum := "b58a16b7ea9d9ffeb330c6a238e3736cf0b739f328230e1688d0812c35c34919", func := "buttress/buttresslaw14.TablesFull", spec := "tablesFull", unfollowed := true, recurses := true, apart := false }
def TablesFullSaid : Prop := tablesFullRow.holds Try.pinned (OpenSpec.ofChange tablesFullSpec)

/-- ITS FALSE NEIGHBOUR: 'it returns false'. Refute it at one input. -/
def tablesFullWrong : ChangeSpec := { name := "tablesFull", fn := fun _ => fun
  | [d] => { results := [.lit (.bool false)], args := [d] }
  | _ => none }
def TablesFullWrongFalsely : Prop := tablesFullRow.holds Try.pinned (OpenSpec.ofChange tablesFullWrong)

/-- 'buttresslaw14.TablesDoes': WHATEVER THE INPUT: true; the input reads as it did. -/
def tablesDoesSpec : ChangeSpec := { name := "tablesDoes", fn := fun _ => fun
  | [d] => { results := [.lit (.bool true)], args := [d] }
  | _ => none }
def tablesDoesRow : OpenClaim := { program := "ytmfbhjfkagnahaa", sum := "b58a16b7ea9d9ffeb330c6a238e3736cf0b739f328230e1688d0812c35c34919", func := "buttress/buttresslaw14.TablesDoes", spec := "tablesDoes", inPlace := ["maps.clone"], unfollowed := true, recurses := true, apart := false }
def TablesDoesSaid : Prop := tablesDoesRow.holds Try.pinned (OpenSpec.ofChange tablesDoesSpec)

/-- ITS FALSE NEIGHBOUR: 'it returns false'. Refute it at one input. -/
def tablesDoesWrong : ChangeSpec := { name := "tablesDoes", fn := fun _ => fun
  | [d] => { results := [.lit (.bool false)], args := [d] }
  | _ => none }
def TablesDoesWrongFalsely : Prop := tablesDoesRow.holds Try.pinned (OpenSpec.ofChange tablesDoesWrong)

/- THE SECOND FORM. 'bulk': how many values and letters a reading holds, each counted each time it is reached (what is shared counts as often as it is met; a slice's spare places count too). A statement '..UptoSaid' is the law's where the arguments, and the package variables that the reading takes, are together of bulk at most 1048576: NARROWER than '..Said'. Prove '..Said' where nothing that the law and all that it calls make is longer than what came in: it says more and counts as full. Else prove '..UptoSaid'. A law counts once. -/
mutual
def uptoBulk {H : Type} : DataW H → Nat
  | .lit (.string bytes) => bytes.length + 1
  | .lit _ => 1
  | .nil => 1
  | .ptr d => uptoBulk d + 1
  | .slice elems spare => uptoBulkAll elems + uptoBulkAll spare + 1
  | .agg parts => uptoBulkAll parts + 1
  | .iface _ d => uptoBulk d + 1
  | .map entries => uptoBulkEntries entries + 1
  | .held _ => 1
def uptoBulkAll {H : Type} : List (DataW H) → Nat
  | [] => 0
  | d :: r => uptoBulk d + uptoBulkAll r
def uptoBulkEntries {H : Type} : List (Lit × DataW H) → Nat
  | [] => 0
  | x :: r => uptoBulkEntry x + uptoBulkEntries r
def uptoBulkEntry {H : Type} : Lit × DataW H → Nat
  | (.string bytes, d) => bytes.length + uptoBulk d + 1
  | (_, d) => uptoBulk d + 1
 end
def uptoSmall : (H : Type) → List (DataW H) → Bool := fun _ ds => decide (uptoBulkAll ds ≤ 1048576)
def OpenSpec.upto (s : _root_.Go.ChangeSpec) : _root_.Go.OpenSpec := { _root_.Go.OpenSpec.ofChange s with cond := some uptoSmall }

/-- 'buttresslaw07.TreeUnder', WHERE WHAT IT READS IS OF BULK AT MOST 1048576: true; the input reads as it did. -/
def treeUnderUptoRow : OpenClaim := { program := "ytmfbhjfkagnahaa", sum := "b58a16b7ea9d9ffeb330c6a238e3736cf0b739f328230e1688d0812c35c34919", func := "buttress/buttresslaw07.TreeUnder", spec := "treeUnder", inPlace := ["slices.overlaps[buttress/tree.leaf]"], unfollowed := true, recurses := true, apart := false, narrowed := true }
def TreeUnderUptoSaid : Prop := treeUnderUptoRow.holds Try.pinned (OpenSpec.upto treeUnderSpec)

/-- 'buttresslaw07.TreeMoves', WHERE WHAT IT READS IS OF BULK AT MOST 1048576: true; the input reads as it did. -/
def treeMovesUptoRow : OpenClaim := { program := "ytmfbhjfkagnahaa", sum := "b58a16b7ea9d9ffeb330c6a238e3736cf0b739f328230e1688d0812c35c34919", func := "buttress/buttresslaw07.TreeMoves", spec := "treeMoves", inPlace := ["slices.overlaps[buttress/tree.leaf]"], unfollowed := true, recurses := true, apart := false, narrowed := true }
def TreeMovesUptoSaid : Prop := treeMovesUptoRow.holds Try.pinned (OpenSpec.upto treeMovesSpec)

/-- 'buttresslaw07.TreeAdds', WHERE WHAT IT READS IS OF BULK AT MOST 1048576: true; the input reads as it did. -/
def treeAddsUptoRow : OpenClaim := { program := "ytmfbhjfkagnahaa", sum := "b58a16b7ea9d9ffeb330c6a238e3736cf0b739f328230e1688d0812c35c34919", func := "buttress/buttresslaw07.TreeAdds", spec := "treeAdds", inPlace := ["slices.overlaps[buttress/tree.leaf]"], unfollowed := true, recurses := true, apart := false, narrowed := true }
def TreeAddsUptoSaid : Prop := treeAddsUptoRow.holds Try.pinned (OpenSpec.upto treeAddsSpec)

/-- 'buttresslaw07.TreeRoots', WHERE WHAT IT READS IS OF BULK AT MOST 1048576: true; the input reads as it did. -/
def treeRootsUptoRow : OpenClaim := { program := "ytmfbhjfkagnahaa", sum := "b58a16b7ea9d9ffeb330c6a238e3736cf0b739f328230e1688d0812c35c34919", func := "buttress/buttresslaw07.TreeRoots", spec := "treeRoots", inPlace := ["slices.overlaps[buttress/tree.leaf]"], unfollowed := true, recurses := true, apart := false, narrowed := true }
def TreeRootsUptoSaid : Prop := treeRootsUptoRow.holds Try.pinned (OpenSpec.upto treeRootsSpec)

/-- 'buttresslaw07.TreeNone', WHERE WHAT IT READS IS OF BULK AT MOST 1048576: true; the input reads as it did. -/
def treeNoneUptoRow : OpenClaim := { program := "ytmfbhjfkagnahaa", sum := "b58a16b7ea9d9ffeb330c6a238e3736cf0b739f328230e1688d0812c35c34919", func := "buttress/buttresslaw07.TreeNone", spec := "treeNone", inPlace := ["slices.overlaps[buttress/tree.leaf]"], unfollowed := true, recurses := true, apart := false, narrowed := true }
def TreeNoneUptoSaid : Prop := treeNoneUptoRow.holds Try.pinned (OpenSpec.upto treeNoneSpec)

/-- 'buttresslaw07.TreeDoes', WHERE WHAT IT READS IS OF BULK AT MOST 1048576: true; the input reads as it did. -/
def treeDoesUptoRow : OpenClaim := { program := "ytmfbhjfkagnahaa", sum := "b58a16b7ea9d9ffeb330c6a238e3736cf0b739f328230e1688d0812c35c34919", func := "buttress/buttresslaw07.TreeDoes", spec := "treeDoes", inPlace := ["slices.overlaps[buttress/tree.leaf]"], unfollowed := true, recurses := true, apart := false, narrowed := true }
def TreeDoesUptoSaid : Prop := treeDoesUptoRow.holds Try.pinned (OpenSpec.upto treeDoesSpec)

/-- 'buttresslaw07.TreeTakes', WHERE WHAT IT READS IS OF BULK AT MOST 1048576: true; the input reads as it did. -/
def treeTakesUptoRow : OpenClaim := { program := "ytmfbhjfkagnahaa", sum := "b58a16b7ea9d9ffeb330c6a238e3736cf0b739f328230e1688d0812c35c34919", func := "buttress/buttresslaw07.TreeTakes", spec := "treeTakes", inPlace := ["slices.overlaps[buttress/tree.leaf]"], unfollowed := true, recurses := true, apart := false, narrowed := true }
def TreeTakesUptoSaid : Prop := treeTakesUptoRow.holds Try.pinned (OpenSpec.upto treeTakesSpec)

/-- 'buttresslaw14.TablesOnly', WHERE WHAT IT READS IS OF BULK AT MOST 1048576: true; the input reads as it did. -/
def tablesOnlyUptoRow : OpenClaim := { program := "ytmfbhjfkagnahaa", sum := "b58a16b7ea9d9ffeb330c6a238e3736cf0b739f328230e1688d0812c35c34919", func := "buttress/buttresslaw14.TablesOnly", spec := "tablesOnly", unfollowed := true, recurses := true, apart := false, narrowed := true }
def TablesOnlyUptoSaid : Prop := tablesOnlyUptoRow.holds Try.pinned (OpenSpec.upto tablesOnlySpec)

/-- 'buttresslaw14.TablesApart', WHERE WHAT IT READS IS OF BULK AT MOST 1048576: true; the input reads as it did. -/
def tablesApartUptoRow : OpenClaim := { program := "ytmfbhjfkagnahaa", sum := "b58a16b7ea9d9ffeb330c6a238e3736cf0b739f328230e1688d0812c35c34919", func := "buttress/buttresslaw14.TablesApart", spec := "tablesApart", unfollowed := true, recurses := true, apart := false, narrowed := true }
def TablesApartUptoSaid : Prop := tablesApartUptoRow.holds Try.pinned (OpenSpec.upto tablesApartSpec)

/-- 'buttresslaw14.TablesDrops', WHERE WHAT IT READS IS OF BULK AT MOST 1048576: true; the input reads as it did. -/
def tablesDropsUptoRow : OpenClaim := { program := "ytmfbhjfkagnahaa", sum := "b58a16b7ea9d9ffeb330c6a238e3736cf0b739f328230e1688d0812c35c34919", func := "buttress/buttresslaw14.TablesDrops", spec := "tablesDrops", unfollowed := true, recurses := true, apart := false, narrowed := true }
def TablesDropsUptoSaid : Prop := tablesDropsUptoRow.holds Try.pinned (OpenSpec.upto tablesDropsSpec)

/-- 'buttresslaw14.TablesFrames', WHERE WHAT IT READS IS OF BULK AT MOST 1048576: true; the input reads as it did. -/
def tablesFramesUptoRow : OpenClaim := { program := "ytmfbhjfkagnahaa", sum := "b58a16b7ea9d9ffeb330c6a238e3736cf0b739f328230e1688d0812c35c34919", func := "buttress/buttresslaw14.TablesFrames", spec := "tablesFrames", unfollowed := true, recurses := true, apart := false, narrowed := true }
def TablesFramesUptoSaid : Prop := tablesFramesUptoRow.holds Try.pinned (OpenSpec.upto tablesFramesSpec)

/-- 'buttresslaw14.TablesRights', WHERE WHAT IT READS IS OF BULK AT MOST 1048576: true; the input reads as it did. -/
def tablesRightsUptoRow : OpenClaim := { program := "ytmfbhjfkagnahaa", sum := "b58a16b7ea9d9ffeb330c6a238e3736cf0b739f328230e1688d0812c35c34919", func := "buttress/buttresslaw14.TablesRights", spec := "tablesRights", unfollowed := true, recurses := true, apart := false, narrowed := true }
def TablesRightsUptoSaid : Prop := tablesRightsUptoRow.holds Try.pinned (OpenSpec.upto tablesRightsSpec)

/-- 'buttresslaw14.TablesFull', WHERE WHAT IT READS IS OF BULK AT MOST 1048576: true; the input reads as it did. -/
def tablesFullUptoRow : OpenClaim := { program := "ytmfbhjfkagnahaa", sum := "b58a16b7ea9d9ffeb330c6a238e3736cf0b739f328230e1688d0812c35c34919", func := "buttress/buttresslaw14.TablesFull", spec := "tablesFull", unfollowed := true, recurses := true, apart := false, narrowed := true }
def TablesFullUptoSaid : Prop := tablesFullUptoRow.holds Try.pinned (OpenSpec.upto tablesFullSpec)

/-- 'buttresslaw14.TablesDoes', WHERE WHAT IT READS IS OF BULK AT MOST 1048576: true; the input reads as it did. -/
def tablesDoesUptoRow : OpenClaim := { program := "ytmfbhjfkagnahaa", sum := "b58a16b7ea9d9ffeb330c6a238e3736cf0b739f328230e1688d0812c35c34919", func := "buttress/buttresslaw14.TablesDoes", spec := "tablesDoes", inPlace := ["maps.clone"], unfollowed := true, recurses := true, apart := false, narrowed := true }
def TablesDoesUptoSaid : Prop := tablesDoesUptoRow.holds Try.pinned (OpenSpec.upto tablesDoesSpec)

end Rows
end Go.Proofs.Ytmfbhjfkagnahaa
