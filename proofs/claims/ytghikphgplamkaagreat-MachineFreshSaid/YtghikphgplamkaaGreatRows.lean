/-
  No cell of these rows narrows 'for every input' (looked for: loops, veiled, ifaces, maps, wideKeys, modest, calm, conditions, laid).
  DERIVED. THE GIVEN ROWS OF THIS SEAT. 7 by the template 'for every input the law returns true; each argument reads behind the call as it read before'; 0 by the template 'total and deterministic' (their statements: YtghikphgplamkaaGreatTotals.lean).
  GIVEN WITH THE SEED: the statements are not yours to turn. If you find one false, say at which input.
  Laid BY PROGRAM, IN A SANDBOX (cutbox-rows.mjs): the forced cells as the released guide's own fill.sh prints them over the translation 59cffde3197fb8a2… (all of the seat's roots in one cut). By AI agents, Wed Nov 11 2026. No macro, syntax, notation, axiom, sorry.
-/
import Derived.Test.YtghikphgplamkaaGreatChecked
import GoSem.Claim
import GoSem.ClaimJoined
import GoSem.ClaimMapViews
import Derived.JoinedTies
import Derived.KernelRfl
namespace Go.Proofs.YtghikphgplamkaaGreat
/- THE CELL 'sum', in the pinned program and in every row, IS THE sha256 OF THE DUMP (.gsa) THAT YtghikphgplamkaaGreatProg.lean LOADS. Nothing in Lean hashes anything: it is a label: what it is worth is what the hold of that sum in a sandbox is worth. -/
noncomputable def Tryz.pinned : Pinned := { name := "ytghikphgplamkaagreat", sum := "59cffde3197fb8a2081d79e83d362812a7dbfc055459290d2edf3a662d1176f0", checked := Tryz.checked }
namespace Rows
def none {H : Type} : Left H := { results := [], args := [] }

/-- 'buttresstop.TopEnds': WHATEVER THE INPUT: true; the input reads as it did. -/
def topEndsSpec : ChangeSpec := { name := "topEnds", fn := fun _ => fun
  | [d1, d2] => { results := [.lit (.bool true)], args := [d1, d2] }
  | _ => none }
def topEndsRow : OpenClaim := { program := "ytghikphgplamkaagreat", sum := "59cffde3197fb8a2081d79e83d362812a7dbfc055459290d2edf3a662d1176f0", func := "buttress/buttresstop.TopEnds", spec := "topEnds", inPlace := ["math/bits.Add64", "slices.overlaps[buttress/tree.leaf]"], unfollowed := true, recurses := true, plainKeys := false, apart := false }
def TopEndsSaid : Prop := topEndsRow.holds Tryz.pinned (OpenSpec.ofChange topEndsSpec)

/-- ITS FALSE NEIGHBOUR: 'it returns false'. Refute it at one input. -/
def topEndsWrong : ChangeSpec := { name := "topEnds", fn := fun _ => fun
  | [d1, d2] => { results := [.lit (.bool false)], args := [d1, d2] }
  | _ => none }
def TopEndsWrongFalsely : Prop := topEndsRow.holds Tryz.pinned (OpenSpec.ofChange topEndsWrong)

/-- 'buttresstop.TopOrder': WHATEVER THE INPUT: true; the input reads as it did. -/
def topOrderSpec : ChangeSpec := { name := "topOrder", fn := fun _ => fun
  | [d1, d2] => { results := [.lit (.bool true)], args := [d1, d2] }
  | _ => none }
def topOrderRow : OpenClaim := { program := "ytghikphgplamkaagreat", sum := "59cffde3197fb8a2081d79e83d362812a7dbfc055459290d2edf3a662d1176f0", func := "buttress/buttresstop.TopOrder", spec := "topOrder", inPlace := ["math/bits.Add64", "slices.overlaps[buttress/tree.leaf]"], unfollowed := true, recurses := true, plainKeys := false, apart := false }
def TopOrderSaid : Prop := topOrderRow.holds Tryz.pinned (OpenSpec.ofChange topOrderSpec)

/-- ITS FALSE NEIGHBOUR: 'it returns false'. Refute it at one input. -/
def topOrderWrong : ChangeSpec := { name := "topOrder", fn := fun _ => fun
  | [d1, d2] => { results := [.lit (.bool false)], args := [d1, d2] }
  | _ => none }
def TopOrderWrongFalsely : Prop := topOrderRow.holds Tryz.pinned (OpenSpec.ofChange topOrderWrong)

/-- 'buttresslaw19.MachineAlone': WHATEVER THE INPUT: true; the input reads as it did. -/
def machineAloneSpec : ChangeSpec := { name := "machineAlone", fn := fun _ => fun
  | [d1, d2] => { results := [.lit (.bool true)], args := [d1, d2] }
  | _ => none }
def machineAloneRow : OpenClaim := { program := "ytghikphgplamkaagreat", sum := "59cffde3197fb8a2081d79e83d362812a7dbfc055459290d2edf3a662d1176f0", func := "buttress/buttresslaw19.MachineAlone", spec := "machineAlone", inPlace := ["math/bits.Add64", "slices.overlaps[buttress/tree.leaf]"], unfollowed := true, recurses := true, plainKeys := false, apart := false }
def MachineAloneSaid : Prop := machineAloneRow.holds Tryz.pinned (OpenSpec.ofChange machineAloneSpec)

/-- ITS FALSE NEIGHBOUR: 'it returns false'. Refute it at one input. -/
def machineAloneWrong : ChangeSpec := { name := "machineAlone", fn := fun _ => fun
  | [d1, d2] => { results := [.lit (.bool false)], args := [d1, d2] }
  | _ => none }
def MachineAloneWrongFalsely : Prop := machineAloneRow.holds Tryz.pinned (OpenSpec.ofChange machineAloneWrong)

/-- 'buttresslaw19.MachineLoads': WHATEVER THE INPUT: true; the input reads as it did. -/
def machineLoadsSpec : ChangeSpec := { name := "machineLoads", fn := fun _ => fun
  | [d1, d2, d3] => { results := [.lit (.bool true)], args := [d1, d2, d3] }
  | _ => none }
def machineLoadsRow : OpenClaim := { program := "ytghikphgplamkaagreat", sum := "59cffde3197fb8a2081d79e83d362812a7dbfc055459290d2edf3a662d1176f0", func := "buttress/buttresslaw19.MachineLoads", spec := "machineLoads", inPlace := ["math/bits.Add64", "slices.overlaps[buttress/tree.leaf]"], unfollowed := true, recurses := true, plainKeys := false, apart := false }
def MachineLoadsSaid : Prop := machineLoadsRow.holds Tryz.pinned (OpenSpec.ofChange machineLoadsSpec)

/-- ITS FALSE NEIGHBOUR: 'it returns false'. Refute it at one input. -/
def machineLoadsWrong : ChangeSpec := { name := "machineLoads", fn := fun _ => fun
  | [d1, d2, d3] => { results := [.lit (.bool false)], args := [d1, d2, d3] }
  | _ => none }
def MachineLoadsWrongFalsely : Prop := machineLoadsRow.holds Tryz.pinned (OpenSpec.ofChange machineLoadsWrong)

/-- 'buttresslaw19.MachineIdle': WHATEVER THE INPUT: true; the input reads as it did. -/
def machineIdleSpec : ChangeSpec := { name := "machineIdle", fn := fun _ => fun
  | [d1, d2, d3] => { results := [.lit (.bool true)], args := [d1, d2, d3] }
  | _ => none }
def machineIdleRow : OpenClaim := { program := "ytghikphgplamkaagreat", sum := "59cffde3197fb8a2081d79e83d362812a7dbfc055459290d2edf3a662d1176f0", func := "buttress/buttresslaw19.MachineIdle", spec := "machineIdle", inPlace := ["math/bits.Add64", "slices.overlaps[buttress/tree.leaf]"], unfollowed := true, recurses := true, plainKeys := false, apart := false }
def MachineIdleSaid : Prop := machineIdleRow.holds Tryz.pinned (OpenSpec.ofChange machineIdleSpec)

/-- ITS FALSE NEIGHBOUR: 'it returns false'. Refute it at one input. -/
def machineIdleWrong : ChangeSpec := { name := "machineIdle", fn := fun _ => fun
  | [d1, d2, d3] => { results := [.lit (.bool false)], args := [d1, d2, d3] }
  | _ => none }
def MachineIdleWrongFalsely : Prop := machineIdleRow.holds Tryz.pinned (OpenSpec.ofChange machineIdleWrong)

/-- 'buttresslaw19.MachineEnds': WHATEVER THE INPUT: true; the input reads as it did. -/
def machineEndsSpec : ChangeSpec := { name := "machineEnds", fn := fun _ => fun
  | [d1, d2] => { results := [.lit (.bool true)], args := [d1, d2] }
  | _ => none }
def machineEndsRow : OpenClaim := { program := "ytghikphgplamkaagreat", sum := "59cffde3197fb8a2081d79e83d362812a7dbfc055459290d2edf3a662d1176f0", func := "buttress/buttresslaw19.MachineEnds", spec := "machineEnds", inPlace := ["math/bits.Add64", "slices.overlaps[buttress/tree.leaf]"], unfollowed := true, recurses := true, plainKeys := false, apart := false }
def MachineEndsSaid : Prop := machineEndsRow.holds Tryz.pinned (OpenSpec.ofChange machineEndsSpec)

/-- ITS FALSE NEIGHBOUR: 'it returns false'. Refute it at one input. -/
def machineEndsWrong : ChangeSpec := { name := "machineEnds", fn := fun _ => fun
  | [d1, d2] => { results := [.lit (.bool false)], args := [d1, d2] }
  | _ => none }
def MachineEndsWrongFalsely : Prop := machineEndsRow.holds Tryz.pinned (OpenSpec.ofChange machineEndsWrong)

/-- 'buttresslaw19.MachineFresh': WHATEVER THE INPUT: true; the input reads as it did. -/
def machineFreshSpec : ChangeSpec := { name := "machineFresh", fn := fun _ => fun
  | [d1, d2] => { results := [.lit (.bool true)], args := [d1, d2] }
  | _ => none }
def machineFreshRow : OpenClaim := { program := "ytghikphgplamkaagreat", sum := "59cffde3197fb8a2081d79e83d362812a7dbfc055459290d2edf3a662d1176f0", func := "buttress/buttresslaw19.MachineFresh", spec := "machineFresh", inPlace := ["math/bits.Add64", "slices.overlaps[buttress/tree.leaf]"], unfollowed := true, recurses := true, plainKeys := false, apart := false }
def MachineFreshSaid : Prop := machineFreshRow.holds Tryz.pinned (OpenSpec.ofChange machineFreshSpec)

/-- ITS FALSE NEIGHBOUR: 'it returns false'. Refute it at one input. -/
def machineFreshWrong : ChangeSpec := { name := "machineFresh", fn := fun _ => fun
  | [d1, d2] => { results := [.lit (.bool false)], args := [d1, d2] }
  | _ => none }
def MachineFreshWrongFalsely : Prop := machineFreshRow.holds Tryz.pinned (OpenSpec.ofChange machineFreshWrong)

/- THE SECOND FORM. 'bulk': how many values and letters a reading holds, each counted each time it is reached (what is shared counts as often as it is met; a slice's spare places count too). A statement '..UptoSaid' is the law's where the arguments, and the package variables that the reading takes, are together of bulk at most 1048576: NARROWER than '..Said'. Prove '..Said' where nothing that the law and all that it calls make is longer than what came in: it says more and counts as full. Else prove '..UptoSaid'. A law counts once. -/
mutual
def uptoBulk {H : Type} : DataW H → Nat
  | .lit (.string bytes) => bytes.length + 1
  | .lit _ => 1
  | .nil => 1
  | .ptr d => uptoBulk d + 1
  | .slice elems spare => uptoBulkAll elems + uptoBulkAll spare + 1
  | .agg parts => uptoBulkAll parts + 1
  | .iface _ d => uptoBulk d + 1
  | .map entries => uptoBulkEntries entries + 1
  | .held _ => 1
def uptoBulkAll {H : Type} : List (DataW H) → Nat
  | [] => 0
  | d :: r => uptoBulk d + uptoBulkAll r
def uptoBulkEntries {H : Type} : List (Lit × DataW H) → Nat
  | [] => 0
  | x :: r => uptoBulkEntry x + uptoBulkEntries r
def uptoBulkEntry {H : Type} : Lit × DataW H → Nat
  | (.string bytes, d) => bytes.length + uptoBulk d + 1
  | (_, d) => uptoBulk d + 1
 end
def uptoSmall : (H : Type) → List (DataW H) → Bool := fun _ ds => decide (uptoBulkAll ds ≤ 1048576)
def OpenSpec.upto (s : _root_.Go.ChangeSpec) : _root_.Go.OpenSpec := { _root_.Go.OpenSpec.ofChange s with cond := some uptoSmall }

/-- 'buttresstop.TopEnds', WHERE WHAT IT READS IS OF BULK AT MOST 1048576: true; the input reads as it did. -/
def topEndsUptoRow : OpenClaim := { program := "ytghikphgplamkaagreat", sum := "59cffde3197fb8a2081d79e83d362812a7dbfc055459290d2edf3a662d1176f0", func := "buttress/buttresstop.TopEnds", spec := "topEnds", inPlace := ["math/bits.Add64", "slices.overlaps[buttress/tree.leaf]"], unfollowed := true, recurses := true, plainKeys := false, apart := false, narrowed := true }
def TopEndsUptoSaid : Prop := topEndsUptoRow.holds Tryz.pinned (OpenSpec.upto topEndsSpec)

/-- 'buttresstop.TopOrder', WHERE WHAT IT READS IS OF BULK AT MOST 1048576: true; the input reads as it did. -/
def topOrderUptoRow : OpenClaim := { program := "ytghikphgplamkaagreat", sum := "59cffde3197fb8a2081d79e83d362812a7dbfc055459290d2edf3a662d1176f0", func := "buttress/buttresstop.TopOrder", spec := "topOrder", inPlace := ["math/bits.Add64", "slices.overlaps[buttress/tree.leaf]"], unfollowed := true, recurses := true, plainKeys := false, apart := false, narrowed := true }
def TopOrderUptoSaid : Prop := topOrderUptoRow.holds Tryz.pinned (OpenSpec.upto topOrderSpec)

/-- 'buttresslaw19.MachineAlone', WHERE WHAT IT READS IS OF BULK AT MOST 1048576: true; the input reads as it did. -/
def machineAloneUptoRow : OpenClaim := { program := "ytghikphgplamkaagreat", sum := "59cffde3197fb8a2081d79e83d362812a7dbfc055459290d2edf3a662d1176f0", func := "buttress/buttresslaw19.MachineAlone", spec := "machineAlone", inPlace := ["math/bits.Add64", "slices.overlaps[buttress/tree.leaf]"], unfollowed := true, recurses := true, plainKeys := false, apart := false, narrowed := true }
def MachineAloneUptoSaid : Prop := machineAloneUptoRow.holds Tryz.pinned (OpenSpec.upto machineAloneSpec)

/-- 'buttresslaw19.MachineLoads', WHERE WHAT IT READS IS OF BULK AT MOST 1048576: true; the input reads as it did. -/
def machineLoadsUptoRow : OpenClaim := { program := "ytghikphgplamkaagreat", sum := "59cffde3197fb8a2081d79e83d362812a7dbfc055459290d2edf3a662d1176f0", func := "buttress/buttresslaw19.MachineLoads", spec := "machineLoads", inPlace := ["math/bits.Add64", "slices.overlaps[buttress/tree.leaf]"], unfollowed := true, recurses := true, plainKeys := false, apart := false, narrowed := true }
def MachineLoadsUptoSaid : Prop := machineLoadsUptoRow.holds Tryz.pinned (OpenSpec.upto machineLoadsSpec)

/-- 'buttresslaw19.MachineIdle', WHERE WHAT IT READS IS OF BULK AT MOST 1048576: true; the input reads as it did. -/
def machineIdleUptoRow : OpenClaim := { program := "ytghikphgplamkaagreat", sum := "59cffde3197fb8a2081d79e83d362812a7dbfc055459290d2edf3a662d1176f0", func := "buttress/buttresslaw19.MachineIdle", spec := "machineIdle", inPlace := ["math/bits.Add64", "slices.overlaps[buttress/tree.leaf]"], unfollowed := true, recurses := true, plainKeys := false, apart := false, narrowed := true }
def MachineIdleUptoSaid : Prop := machineIdleUptoRow.holds Tryz.pinned (OpenSpec.upto machineIdleSpec)

/-- 'buttresslaw19.MachineEnds', WHERE WHAT IT READS IS OF BULK AT MOST 1048576: true; the input reads as it did. -/
def machineEndsUptoRow : OpenClaim := { program := "ytghikphgplamkaagreat", sum := "59cffde3197fb8a2081d79e83d362812a7dbfc055459290d2edf3a662d1176f0", func := "buttress/buttresslaw19.MachineEnds", spec := "machineEnds", inPlace := ["math/bits.Add64", "slices.overlaps[buttress/tree.leaf]"], unfollowed := true, recurses := true, plainKeys := false, apart := false, narrowed := true }
def MachineEndsUptoSaid : Prop := machineEndsUptoRow.holds Tryz.pinned (OpenSpec.upto machineEndsSpec)

/-- 'buttresslaw19.MachineFresh', WHERE WHAT IT READS IS OF BULK AT MOST 1048576: true; the input reads as it did. -/
def machineFreshUptoRow : OpenClaim := { program := "ytghikphgplamkaagreat", sum := "59cffde3197fb8a2081d79e83d362812a7dbfc055459290d2edf3a662d1176f0", func := "buttress/buttresslaw19.MachineFresh", spec := "machineFresh", inPlace := ["math/bits.Add64", "slices.overlaps[buttress/tree.leaf]"], unfollowed := true, recurses := true, plainKeys := false, apart := false, narrowed := true }
def MachineFreshUptoSaid : Prop := machineFreshUptoRow.holds Tryz.pinned (OpenSpec.upto machineFreshSpec)

end Rows
end Go.Proofs.YtghikphgplamkaaGreat
