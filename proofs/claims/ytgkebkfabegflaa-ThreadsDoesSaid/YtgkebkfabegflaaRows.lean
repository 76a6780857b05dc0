/-
  No cell of these rows narrows 'for every input' (looked for: loops, veiled, ifaces, maps, wideKeys, modest, calm, conditions, laid).
  DERIVED. THE GIVEN ROWS OF THIS SEAT. 8 by the template 'for every input the law returns true; each argument reads behind the call as it read before'; 0 by the template 'total and deterministic' (their statements: YtgkebkfabegflaaTotals.lean).
  GIVEN WITH THE SEED: the statements are not yours to turn. If you find one false, say at which input.
  Laid BY PROGRAM, IN A SANDBOX (cutbox-rows.mjs): the forced cells as the released guide's own fill.sh prints them over the translation 79d31a05c90b01d4… (all of the seat's roots in one cut). By AI agents, Wed Nov 11 2026. No macro, syntax, notation, axiom, sorry.
-/
import Derived.Test.YtgkebkfabegflaaChecked
import GoSem.Claim
import GoSem.ClaimJoined
import GoSem.ClaimMapViews
import Derived.JoinedTies
import Derived.KernelRfl
namespace Go.Proofs.Ytgkebkfabegflaa
/- THE CELL 'sum', in the pinned program and in every row, IS THE sha256 OF THE DUMP (.gsa) THAT YtgkebkfabegflaaProg.lean LOADS. Nothing in Lean hashes anything: it is a label: what it is worth is what the hold of that sum in a sandbox is worth. -/
noncomputable def Try.pinned : Pinned := { name := "ytgkebkfabegflaa", sum := "79d31a05c90b01d4ec098ba3445d4dcac6c6bfd378bf6ffb3c8462e019079f0e", checked := Try.checked }
namespace Rows
def none {H : Type} : Left H := { results := [], args := [] }

/-- 'buttresslaw10.ThreadsTurns': WHATEVER THE INPUT: true; the input reads as it did. -/
def threadsTurnsSpec : ChangeSpec := { name := "threadsTurns", fn := fun _ => fun
  | [d1, d2] => { results := [.lit (.bool true)], args := [d1, d2] }
  | _ => none }
def threadsTurnsRow : OpenClaim := { program := "ytgkebkfabegflaa", sum := "79d31a05c90b01d4ec098ba3445d4dcac6c6bfd378bf6ffb3c8462e019079f0e", func := "buttress/buttresslaw10.ThreadsTurns", spec := "threadsTurns", unfollowed := true, recurses := true, apart := false }
def ThreadsTurnsSaid : Prop := threadsTurnsRow.holds Try.pinned (OpenSpec.ofChange threadsTurnsSpec)

/-- ITS FALSE NEIGHBOUR: 'it returns false'. Refute it at one input. -/
def threadsTurnsWrong : ChangeSpec := { name := "threadsTurns", fn := fun _ => fun
  | [d1, d2] => { results := [.lit (.bool false)], args := [d1, d2] }
  | _ => none }
def ThreadsTurnsWrongFalsely : Prop := threadsTurnsRow.holds Try.pinned (OpenSpec.ofChange threadsTurnsWrong)

/-- 'buttresslaw10.ThreadsGreater': WHATEVER THE INPUT: true; the input reads as it did. -/
def threadsGreaterSpec : ChangeSpec := { name := "threadsGreater", fn := fun _ => fun
  | [d1, d2] => { results := [.lit (.bool true)], args := [d1, d2] }
  | _ => none }
def threadsGreaterRow : OpenClaim := { program := "ytgkebkfabegflaa", sum := "79d31a05c90b01d4ec098ba3445d4dcac6c6bfd378bf6ffb3c8462e019079f0e", func := "buttress/buttresslaw10.ThreadsGreater", spec := "threadsGreater", unfollowed := true, recurses := true, apart := false }
def ThreadsGreaterSaid : Prop := threadsGreaterRow.holds Try.pinned (OpenSpec.ofChange threadsGreaterSpec)

/-- ITS FALSE NEIGHBOUR: 'it returns false'. Refute it at one input. -/
def threadsGreaterWrong : ChangeSpec := { name := "threadsGreater", fn := fun _ => fun
  | [d1, d2] => { results := [.lit (.bool false)], args := [d1, d2] }
  | _ => none }
def ThreadsGreaterWrongFalsely : Prop := threadsGreaterRow.holds Try.pinned (OpenSpec.ofChange threadsGreaterWrong)

/-- 'buttresslaw10.ThreadsFull': WHATEVER THE INPUT: true; the input reads as it did. -/
def threadsFullSpec : ChangeSpec := { name := "threadsFull", fn := fun _ => fun
  | [d1, d2] => { results := [.lit (.bool true)], args := [d1, d2] }
  | _ => none }
def threadsFullRow : OpenClaim := { program := "ytgkebkfabegflaa", sum := "79d31a05c90b01d4ec098ba3445d4dcac6c6bfd378bf6ffb3c8462e019079f0e", func := "buttress/buttresslaw10.ThreadsFull", spec := "threadsFull", unfollowed := true, recurses := true, apart := false }
def ThreadsFullSaid : Prop := threadsFullRow.holds Try.pinned (OpenSpec.ofChange threadsFullSpec)

/-- ITS FALSE NEIGHBOUR: 'it returns false'. Refute it at one input. -/
def threadsFullWrong : ChangeSpec := { name := "threadsFull", fn := fun _ => fun
  | [d1, d2] => { results := [.lit (.bool false)], args := [d1, d2] }
  | _ => none }
def ThreadsFullWrongFalsely : Prop := threadsFullRow.holds Try.pinned (OpenSpec.ofChange threadsFullWrong)

/-- 'buttresslaw10.ThreadsWaits': WHATEVER THE INPUT: true; the input reads as it did. -/
def threadsWaitsSpec : ChangeSpec := { name := "threadsWaits", fn := fun _ => fun
  | [d1, d2] => { results := [.lit (.bool true)], args := [d1, d2] }
  | _ => none }
def threadsWaitsRow : OpenClaim := { program := "ytgkebkfabegflaa", sum := "79d31a05c90b01d4ec098ba3445d4dcac6c6bfd378bf6ffb3c8462e019079f0e", func := "buttress/buttresslaw10.ThreadsWaits", spec := "threadsWaits", unfollowed := true, recurses := true, apart := false }
def ThreadsWaitsSaid : Prop := threadsWaitsRow.holds Try.pinned (OpenSpec.ofChange threadsWaitsSpec)

/-- ITS FALSE NEIGHBOUR: 'it returns false'. Refute it at one input. -/
def threadsWaitsWrong : ChangeSpec := { name := "threadsWaits", fn := fun _ => fun
  | [d1, d2] => { results := [.lit (.bool false)], args := [d1, d2] }
  | _ => none }
def ThreadsWaitsWrongFalsely : Prop := threadsWaitsRow.holds Try.pinned (OpenSpec.ofChange threadsWaitsWrong)

/-- 'buttresslaw10.ThreadsMoves': WHATEVER THE INPUT: true; the input reads as it did. -/
def threadsMovesSpec : ChangeSpec := { name := "threadsMoves", fn := fun _ => fun
  | [d1, d2, d3] => { results := [.lit (.bool true)], args := [d1, d2, d3] }
  | _ => none }
def threadsMovesRow : OpenClaim := { program := "ytgkebkfabegflaa", sum := "79d31a05c90b01d4ec098ba3445d4dcac6c6bfd378bf6ffb3c8462e019079f0e", func := "buttress/buttresslaw10.ThreadsMoves", spec := "threadsMoves", unfollowed := true, recurses := true, apart := false }
def ThreadsMovesSaid : Prop := threadsMovesRow.holds Try.pinned (OpenSpec.ofChange threadsMovesSpec)

/-- ITS FALSE NEIGHBOUR: 'it returns false'. Refute it at one input. -/
def threadsMovesWrong : ChangeSpec := { name := "threadsMoves", fn := fun _ => fun
  | [d1, d2, d3] => { results := [.lit (.bool false)], args := [d1, d2, d3] }
  | _ => none }
def ThreadsMovesWrongFalsely : Prop := threadsMovesRow.holds Try.pinned (OpenSpec.ofChange threadsMovesWrong)

/-- 'buttresslaw10.ThreadsPick': WHATEVER THE INPUT: true; the input reads as it did. -/
def threadsPickSpec : ChangeSpec := { name := "threadsPick", fn := fun _ => fun
  | [d1, d2, d3] => { results := [.lit (.bool true)], args := [d1, d2, d3] }
  | _ => none }
def threadsPickRow : OpenClaim := { program := "ytgkebkfabegflaa", sum := "79d31a05c90b01d4ec098ba3445d4dcac6c6bfd378bf6ffb3c8462e019079f0e", func := "buttress/buttresslaw10.ThreadsPick", spec := "threadsPick", unfollowed := true, recurses := true, apart := false }
def ThreadsPickSaid : Prop := threadsPickRow.holds Try.pinned (OpenSpec.ofChange threadsPickSpec)

/-- ITS FALSE NEIGHBOUR: 'it returns false'. Refute it at one input. -/
def threadsPickWrong : ChangeSpec := { name := "threadsPick", fn := fun _ => fun
  | [d1, d2, d3] => { results := [.lit (.bool false)], args := [d1, d2, d3] }
  | _ => none }
def ThreadsPickWrongFalsely : Prop := threadsPickRow.holds Try.pinned (OpenSpec.ofChange threadsPickWrong)

/-- 'buttresslaw10.ThreadsNone': WHATEVER THE INPUT: true; the input reads as it did. -/
def threadsNoneSpec : ChangeSpec := { name := "threadsNone", fn := fun _ => fun
  | [d1, d2] => { results := [.lit (.bool true)], args := [d1, d2] }
  | _ => none }
def threadsNoneRow : OpenClaim := { program := "ytgkebkfabegflaa", sum := "79d31a05c90b01d4ec098ba3445d4dcac6c6bfd378bf6ffb3c8462e019079f0e", func := "buttress/buttresslaw10.ThreadsNone", spec := "threadsNone", unfollowed := true, recurses := true, apart := false }
def ThreadsNoneSaid : Prop := threadsNoneRow.holds Try.pinned (OpenSpec.ofChange threadsNoneSpec)

/-- ITS FALSE NEIGHBOUR: 'it returns false'. Refute it at one input. -/
def threadsNoneWrong : ChangeSpec := { name := "threadsNone", fn := fun _ => fun
  | [d1, d2] => { results := [.lit (.bool false)], args := [d1, d2] }
  | _ => none }
def ThreadsNoneWrongFalsely : Prop := threadsNoneRow.holds Try.pinned (OpenSpec.ofChange threadsNoneWrong)

/-- 'buttresslaw10.ThreadsDoes': WHATEVER THE INPUT: true; the input reads as it did. -/
def threadsDoesSpec : ChangeSpec := { name := "threadsDoes", fn := fun _ => fun
  | [d1, d2] => { results := [.lit (.bool true)], args := [d1, d2] }
  | _ => none }
def threadsDoesRow : OpenClaim := { program := "ytgkebkfabegflaa", sum := "79d31a05c90b01d4ec098ba3445d4dcac6c6bfd378bf6ffb3c8462e019079f0e", func := "buttress/buttresslaw10.ThreadsDoes", spec := "threadsDoes", unfollowed := true, recurses := true, apart := false }
def ThreadsDoesSaid : Prop := threadsDoesRow.holds Try.pinned (OpenSpec.ofChange threadsDoesSpec)

/-- ITS FALSE NEIGHBOUR: 'it returns false'. Refute it at one input. -/
def threadsDoesWrong : ChangeSpec := { name := "threadsDoes", fn := fun _ => fun
  | [d1, d2] => { results := [.lit (.bool false)], args := [d1, d2] }
  | _ => none }
def ThreadsDoesWrongFalsely : Prop := threadsDoesRow.holds Try.pinned (OpenSpec.ofChange threadsDoesWrong)

/- THE SECOND FORM. 'bulk': how many values and letters a reading holds, each counted each time it is reached (what is shared counts as often as it is met; a slice's spare places count too). A statement '..UptoSaid' is the law's where the arguments, and the package variables that the reading takes, are together of bulk at most 1048576: NARROWER than '..Said'. Prove '..Said' where nothing that the law and all that it calls make is longer than what came in: it says more and counts as full. Else prove '..UptoSaid'. A law counts once. -/
mutual
def uptoBulk {H : Type} : DataW H → Nat
  | .lit (.string bytes) => bytes.length + 1
  | .lit _ => 1
  | .nil => 1
  | .ptr d => uptoBulk d + 1
  | .slice elems spare => uptoBulkAll elems + uptoBulkAll spare + 1
  | .agg parts => uptoBulkAll parts + 1
  | .iface _ d => uptoBulk d + 1
  | .map entries => uptoBulkEntries entries + 1
  | .held _ => 1
def uptoBulkAll {H : Type} : List (DataW H) → Nat
  | [] => 0
  | d :: r => uptoBulk d + uptoBulkAll r
def uptoBulkEntries {H : Type} : List (Lit × DataW H) → Nat
  | [] => 0
  | x :: r => uptoBulkEntry x + uptoBulkEntries r
def uptoBulkEntry {H : Type} : Lit × DataW H → Nat
  | (.string bytes, d) => bytes.length + uptoBulk d + 1
  | (_, d) => uptoBulk d + 1
 end
def uptoSmall : (H : Type) → List (DataW H) → Bool := fun _ ds => decide (uptoBulkAll ds ≤ 1048576)
def OpenSpec.upto (s : _root_.Go.ChangeSpec) : _root_.Go.OpenSpec := { _root_.Go.OpenSpec.ofChange s with cond := some uptoSmall }

/-- 'buttresslaw10.ThreadsTurns', WHERE WHAT IT READS IS OF BULK AT MOST 1048576: true; the input reads as it did. -/
def threadsTurnsUptoRow : OpenClaim := { program := "ytgkebkfabegflaa", sum := "79d31a05c90b01d4ec098ba3445d4dcac6c6bfd378bf6ffb3c8462e019079f0e", func := "buttress/buttresslaw10.ThreadsTurns", spec := "threadsTurns", unfollowed := true, recurses := true, apart := false, narrowed := true }
def ThreadsTurnsUptoSaid : Prop := threadsTurnsUptoRow.holds Try.pinned (OpenSpec.upto threadsTurnsSpec)

/-- 'buttresslaw10.ThreadsGreater', WHERE WHAT IT READS IS OF BULK AT MOST 1048576: true; the input reads as it did. -/
def threadsGreaterUptoRow : OpenClaim := { program := "ytgkebkfabegflaa", sum := "79d31a05c90b01d4ec098ba3445d4dcac6c6bfd378bf6ffb3c8462e019079f0e", func := "buttress/buttresslaw10.ThreadsGreater", spec := "threadsGreater", unfollowed := true, recurses := true, apart := false, narrowed := true }
def ThreadsGreaterUptoSaid : Prop := threadsGreaterUptoRow.holds Try.pinned (OpenSpec.upto threadsGreaterSpec)

/-- 'buttresslaw10.ThreadsFull', WHERE WHAT IT READS IS OF BULK AT MOST 1048576: true; the input reads as it did. -/
def threadsFullUptoRow : OpenClaim := { program := "ytgkebkfabegflaa", sum := "79d31a05c90b01d4ec098ba3445d4dcac6c6bfd378bf6ffb3c8462e019079f0e", func := "buttress/buttresslaw10.ThreadsFull", spec := "threadsFull", unfollowed := true, recurses := true, apart := false, narrowed := true }
def ThreadsFullUptoSaid : Prop := threadsFullUptoRow.holds Try.pinned (OpenSpec.upto threadsFullSpec)

/-- 'buttresslaw10.ThreadsWaits', WHERE WHAT IT READS IS OF BULK AT MOST 1048576: true; the input reads as it did. -/
def threadsWaitsUptoRow : OpenClaim := { program := "ytgkebkfabegflaa", sum := "79d31a05c90b01d4ec098ba3445d4dcac6c6bfd378bf6ffb3c8462e019079f0e", func := "buttress/buttresslaw10.ThreadsWaits", spec := "threadsWaits", unfollowed := true, recurses := true, apart := false, narrowed := true }
def ThreadsWaitsUptoSaid : Prop := threadsWaitsUptoRow.holds Try.pinned (OpenSpec.upto threadsWaitsSpec)

/-- 'buttresslaw10.ThreadsMoves', WHERE WHAT IT READS IS OF BULK AT MOST 1048576: true; the input reads as it did. -/
def threadsMovesUptoRow : OpenClaim := { program := "ytgkebkfabegflaa", sum := "79d31a05c90b01d4ec098ba3445d4dcac6c6bfd378bf6ffb3c8462e019079f0e", func := "buttress/buttresslaw10.ThreadsMoves", spec := "threadsMoves", unfollowed := true, recurses := true, apart := false, narrowed := true }
def ThreadsMovesUptoSaid : Prop := threadsMovesUptoRow.holds Try.pinned (OpenSpec.upto threadsMovesSpec)

/-- 'buttresslaw10.ThreadsPick', WHERE WHAT IT READS IS OF BULK AT MOST 1048576: true; the input reads as it did. -/
def threadsPickUptoRow : OpenClaim := { program := "ytgkebkfabegflaa", sum := "79d31a05c90b01d4ec098ba3445d4dcac6c6bfd378bf6ffb3c8462e019079f0e", func := "buttress/buttresslaw10.ThreadsPick", spec := "threadsPick", unfollowed := true, recurses := true, apart := false, narrowed := true }
def ThreadsPickUptoSaid : Prop := threadsPickUptoRow.holds Try.pinned (OpenSpec.upto threadsPickSpec)

/-- 'buttresslaw10.ThreadsNone', WHERE WHAT IT READS IS OF BULK AT MOST 1048576: true; the input reads as it did. -/
def threadsNoneUptoRow : OpenClaim := { program := "ytgkebkfabegflaa", sum := "79d31a05c90b01d4ec098ba3445d4dcac6c6bfd378bf6ffb3c8462e019079f0e", func := "buttress/buttresslaw10.ThreadsNone", spec := "threadsNone", unfollowed := true, recurses := true, apart := false, narrowed := true }
def ThreadsNoneUptoSaid : Prop := threadsNoneUptoRow.holds Try.pinned (OpenSpec.upto threadsNoneSpec)

/-- 'buttresslaw10.ThreadsDoes', WHERE WHAT IT READS IS OF BULK AT MOST 1048576: true; the input reads as it did. -/
def threadsDoesUptoRow : OpenClaim := { program := "ytgkebkfabegflaa", sum := "79d31a05c90b01d4ec098ba3445d4dcac6c6bfd378bf6ffb3c8462e019079f0e", func := "buttress/buttresslaw10.ThreadsDoes", spec := "threadsDoes", unfollowed := true, recurses := true, apart := false, narrowed := true }
def ThreadsDoesUptoSaid : Prop := threadsDoesUptoRow.holds Try.pinned (OpenSpec.upto threadsDoesSpec)

end Rows
end Go.Proofs.Ytgkebkfabegflaa
