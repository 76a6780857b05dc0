/-
  No cell of these rows narrows 'for every input' (looked for: loops, veiled, ifaces, maps, wideKeys, modest, calm, conditions, laid).
  DERIVED. THE GIVEN ROWS OF THIS SEAT. 7 by the template 'for every input the law returns true; each argument reads behind the call as it read before'; 0 by the template 'total and deterministic' (their statements: YtimicibeljkjnaaTotals.lean).
  GIVEN WITH THE SEED: the statements are not yours to turn. If you find one false, say at which input.
  Laid BY PROGRAM, IN A SANDBOX (cutbox-rows.mjs): the forced cells as the released guide's own fill.sh prints them over the translation f6ad17e4e41ec459… (all of the seat's roots in one cut). By AI agents, Wed Nov 11 2026. No macro, syntax, notation, axiom, sorry.
-/
import Derived.Test.YtimicibeljkjnaaChecked
import GoSem.Claim
import GoSem.ClaimJoined
import GoSem.ClaimMapViews
import Derived.JoinedTies
import Derived.KernelRfl
namespace Go.Proofs.Ytimicibeljkjnaa
/- THE CELL 'sum', in the pinned program and in every row, IS THE sha256 OF THE DUMP (.gsa) THAT YtimicibeljkjnaaProg.lean LOADS. Nothing in Lean hashes anything: it is a label: what it is worth is what the hold of that sum in a sandbox is worth. -/
noncomputable def Try.pinned : Pinned := { name := "ytimicibeljkjnaa", sum := "f6ad17e4e41ec459c9e87a2ec0da81fe5e14f9d8f71c74049056fd45fdb2428f", checked := Try.checked }
namespace Rows
def none {H : Type} : Left H := { results := [], args := [] }

/-- 'buttresslaw09.ReadyFirst': WHATEVER THE INPUT: true; the input reads as it did. -/
def readyFirstSpec : ChangeSpec := { name := "readyFirst", fn := fun _ => fun
  | [d] => { results := [.lit (.bool true)], args := [d] }
  | _ => none }
def readyFirstRow : OpenClaim := { program := "ytimicibeljkjnaa", sum := "f6ad17e4e41ec459c9e87a2ec0da81fe5e14f9d8f71c74049056fd45fdb2428f", func := "buttress/buttresslaw09.ReadyFirst", spec := "readyFirst", unfollowed := true, recurses := true, apart := false }
def ReadyFirstSaid : Prop := readyFirstRow.holds Try.pinned (OpenSpec.ofChange readyFirstSpec)

/-- ITS FALSE NEIGHBOUR: 'it returns false'. Refute it at one input. -/
def readyFirstWrong : ChangeSpec := { name := "readyFirst", fn := fun _ => fun
  | [d] => { results := [.lit (.bool false)], args := [d] }
  | _ => none }
def ReadyFirstWrongFalsely : Prop := readyFirstRow.holds Try.pinned (OpenSpec.ofChange readyFirstWrong)

/-- 'buttresslaw09.ReadyTurns': WHATEVER THE INPUT: true; the input reads as it did. -/
def readyTurnsSpec : ChangeSpec := { name := "readyTurns", fn := fun _ => fun
  | [d1, d2] => { results := [.lit (.bool true)], args := [d1, d2] }
  | _ => none }
def readyTurnsRow : OpenClaim := { program := "ytimicibeljkjnaa", sum := "f6ad17e4e41ec459c9e87a2ec0da81fe5e14f9d8f71c74049056fd45fdb2428f", func := "buttress/buttresslaw09.ReadyTurns", spec := "readyTurns", unfollowed := true, recurses := true, apart := false }
def ReadyTurnsSaid : Prop := readyTurnsRow.holds Try.pinned (OpenSpec.ofChange readyTurnsSpec)

/-- ITS FALSE NEIGHBOUR: 'it returns false'. Refute it at one input. -/
def readyTurnsWrong : ChangeSpec := { name := "readyTurns", fn := fun _ => fun
  | [d1, d2] => { results := [.lit (.bool false)], args := [d1, d2] }
  | _ => none }
def ReadyTurnsWrongFalsely : Prop := readyTurnsRow.holds Try.pinned (OpenSpec.ofChange readyTurnsWrong)

/-- 'buttresslaw09.ReadyTakes': WHATEVER THE INPUT: true; the input reads as it did. -/
def readyTakesSpec : ChangeSpec := { name := "readyTakes", fn := fun _ => fun
  | [d1, d2] => { results := [.lit (.bool true)], args := [d1, d2] }
  | _ => none }
def readyTakesRow : OpenClaim := { program := "ytimicibeljkjnaa", sum := "f6ad17e4e41ec459c9e87a2ec0da81fe5e14f9d8f71c74049056fd45fdb2428f", func := "buttress/buttresslaw09.ReadyTakes", spec := "readyTakes", unfollowed := true, recurses := true, apart := false }
def ReadyTakesSaid : Prop := readyTakesRow.holds Try.pinned (OpenSpec.ofChange readyTakesSpec)

/-- ITS FALSE NEIGHBOUR: 'it returns false'. Refute it at one input. -/
def readyTakesWrong : ChangeSpec := { name := "readyTakes", fn := fun _ => fun
  | [d1, d2] => { results := [.lit (.bool false)], args := [d1, d2] }
  | _ => none }
def ReadyTakesWrongFalsely : Prop := readyTakesRow.holds Try.pinned (OpenSpec.ofChange readyTakesWrong)

/-- 'buttresslaw09.ReadyLines': WHATEVER THE INPUT: true; the input reads as it did. -/
def readyLinesSpec : ChangeSpec := { name := "readyLines", fn := fun _ => fun
  | [d1, d2, d3] => { results := [.lit (.bool true)], args := [d1, d2, d3] }
  | _ => none }
def readyLinesRow : OpenClaim := { program := "ytimicibeljkjnaa", sum := "f6ad17e4e41ec459c9e87a2ec0da81fe5e14f9d8f71c74049056fd45fdb2428f", func := "buttress/buttresslaw09.ReadyLines", spec := "readyLines", unfollowed := true, recurses := true, apart := false }
def ReadyLinesSaid : Prop := readyLinesRow.holds Try.pinned (OpenSpec.ofChange readyLinesSpec)

/-- ITS FALSE NEIGHBOUR: 'it returns false'. Refute it at one input. -/
def readyLinesWrong : ChangeSpec := { name := "readyLines", fn := fun _ => fun
  | [d1, d2, d3] => { results := [.lit (.bool false)], args := [d1, d2, d3] }
  | _ => none }
def ReadyLinesWrongFalsely : Prop := readyLinesRow.holds Try.pinned (OpenSpec.ofChange readyLinesWrong)

/-- 'buttresslaw09.ReadyBits': WHATEVER THE INPUT: true; the input reads as it did. -/
def readyBitsSpec : ChangeSpec := { name := "readyBits", fn := fun _ => fun
  | [d] => { results := [.lit (.bool true)], args := [d] }
  | _ => none }
def readyBitsRow : OpenClaim := { program := "ytimicibeljkjnaa", sum := "f6ad17e4e41ec459c9e87a2ec0da81fe5e14f9d8f71c74049056fd45fdb2428f", func := "buttress/buttresslaw09.ReadyBits", spec := "readyBits", unfollowed := true, recurses := true, apart := false }
def ReadyBitsSaid : Prop := readyBitsRow.holds Try.pinned (OpenSpec.ofChange readyBitsSpec)

/-- ITS FALSE NEIGHBOUR: 'it returns false'. Refute it at one input. -/
def readyBitsWrong : ChangeSpec := { name := "readyBits", fn := fun _ => fun
  | [d] => { results := [.lit (.bool false)], args := [d] }
  | _ => none }
def ReadyBitsWrongFalsely : Prop := readyBitsRow.holds Try.pinned (OpenSpec.ofChange readyBitsWrong)

/-- 'buttresslaw09.ReadyApart': WHATEVER THE INPUT: true; the input reads as it did. -/
def readyApartSpec : ChangeSpec := { name := "readyApart", fn := fun _ => fun
  | [d1, d2] => { results := [.lit (.bool true)], args := [d1, d2] }
  | _ => none }
def readyApartRow : OpenClaim := { program := "ytimicibeljkjnaa", sum := "f6ad17e4e41ec459c9e87a2ec0da81fe5e14f9d8f71c74049056fd45fdb2428f", func := "buttress/buttresslaw09.ReadyApart", spec := "readyApart", unfollowed := true, recurses := true, apart := false }
def ReadyApartSaid : Prop := readyApartRow.holds Try.pinned (OpenSpec.ofChange readyApartSpec)

/-- ITS FALSE NEIGHBOUR: 'it returns false'. Refute it at one input. -/
def readyApartWrong : ChangeSpec := { name := "readyApart", fn := fun _ => fun
  | [d1, d2] => { results := [.lit (.bool false)], args := [d1, d2] }
  | _ => none }
def ReadyApartWrongFalsely : Prop := readyApartRow.holds Try.pinned (OpenSpec.ofChange readyApartWrong)

/-- 'buttresslaw09.ReadyDoes': WHATEVER THE INPUT: true; the input reads as it did. -/
def readyDoesSpec : ChangeSpec := { name := "readyDoes", fn := fun _ => fun
  | [d] => { results := [.lit (.bool true)], args := [d] }
  | _ => none }
def readyDoesRow : OpenClaim := { program := "ytimicibeljkjnaa", sum := "f6ad17e4e41ec459c9e87a2ec0da81fe5e14f9d8f71c74049056fd45fdb2428f", func := "buttress/buttresslaw09.ReadyDoes", spec := "readyDoes", unfollowed := true, recurses := true, apart := false }
def ReadyDoesSaid : Prop := readyDoesRow.holds Try.pinned (OpenSpec.ofChange readyDoesSpec)

/-- ITS FALSE NEIGHBOUR: 'it returns false'. Refute it at one input. -/
def readyDoesWrong : ChangeSpec := { name := "readyDoes", fn := fun _ => fun
  | [d] => { results := [.lit (.bool false)], args := [d] }
  | _ => none }
def ReadyDoesWrongFalsely : Prop := readyDoesRow.holds Try.pinned (OpenSpec.ofChange readyDoesWrong)

/- THE SECOND FORM. 'bulk': how many values and letters a reading holds, each counted each time it is reached (what is shared counts as often as it is met; a slice's spare places count too). A statement '..UptoSaid' is the law's where the arguments, and the package variables that the reading takes, are together of bulk at most 1048576: NARROWER than '..Said'. Prove '..Said' where nothing that the law and all that it calls make is longer than what came in: it says more and counts as full. Else prove '..UptoSaid'. A law counts once. -/
mutual
def uptoBulk {H : Type} : DataW H → Nat
  | .lit (.string bytes) => bytes.length + 1
  | .lit _ => 1
  | .nil => 1
  | .ptr d => uptoBulk d + 1
  | .slice elems spare => uptoBulkAll elems + uptoBulkAll spare + 1
  | .agg parts => uptoBulkAll parts + 1
  | .iface _ d => uptoBulk d + 1
  | .map entries => uptoBulkEntries entries + 1
  | .held _ => 1
def uptoBulkAll {H : Type} : List (DataW H) → Nat
  | [] => 0
  | d :: r => uptoBulk d + uptoBulkAll r
def uptoBulkEntries {H : Type} : List (Lit × DataW H) → Nat
  | [] => 0
  | x :: r => uptoBulkEntry x + uptoBulkEntries r
def uptoBulkEntry {H : Type} : Lit × DataW H → Nat
  | (.string bytes, d) => bytes.length + uptoBulk d + 1
  | (_, d) => uptoBulk d + 1
 end
def uptoSmall : (H : Type) → List (DataW H) → Bool := fun _ ds => decide (uptoBulkAll ds ≤ 1048576)
def OpenSpec.upto (s : _root_.Go.ChangeSpec) : _root_.Go.OpenSpec := { _root_.Go.OpenSpec.ofChange s with cond := some uptoSmall }

/-- 'buttresslaw09.ReadyFirst', WHERE WHAT IT READS IS OF BULK AT MOST 1048576: true; the input reads as it did. -/
def readyFirstUptoRow : OpenClaim := { program := "ytimicibeljkjnaa", sum := "f6ad17e4e41ec459c9e87a2ec0da81fe5e14f9d8f71c74049056fd45fdb2428f", func := "buttress/buttresslaw09.ReadyFirst", spec := "readyFirst", unfollowed := true, recurses := true, apart := false, narrowed := true }
def ReadyFirstUptoSaid : Prop := readyFirstUptoRow.holds Try.pinned (OpenSpec.upto readyFirstSpec)

/-- 'buttresslaw09.ReadyTurns', WHERE WHAT IT READS IS OF BULK AT MOST 1048576: true; the input reads as it did. -/
def readyTurnsUptoRow : OpenClaim := { program := "ytimicibeljkjnaa", sum := "f6ad17e4e41ec459c9e87a2ec0da81fe5e14f9d8f71c74049056fd45fdb2428f", func := "buttress/buttresslaw09.ReadyTurns", spec := "readyTurns", unfollowed := true, recurses := true, apart := false, narrowed := true }
def ReadyTurnsUptoSaid : Prop := readyTurnsUptoRow.holds Try.pinned (OpenSpec.upto readyTurnsSpec)

/-- 'buttresslaw09.ReadyTakes', WHERE WHAT IT READS IS OF BULK AT MOST 1048576: true; the input reads as it did. -/
def readyTakesUptoRow : OpenClaim := { program := "ytimicibeljkjnaa", sum := "f6ad17e4e41ec459c9e87a2ec0da81fe5e14f9d8f71c74049056fd45fdb2428f", func := "buttress/buttresslaw09.ReadyTakes", spec := "readyTakes", unfollowed := true, recurses := true, apart := false, narrowed := true }
def ReadyTakesUptoSaid : Prop := readyTakesUptoRow.holds Try.pinned (OpenSpec.upto readyTakesSpec)

/-- 'buttresslaw09.ReadyLines', WHERE WHAT IT READS IS OF BULK AT MOST 1048576: true; the input reads as it did. -/
def readyLinesUptoRow : OpenClaim := { program := "ytimicibeljkjnaa", sum := "f6ad17e4e41ec459c9e87a2ec0da81fe5e14f9d8f71c74049056fd45fdb2428f", func := "buttress/buttresslaw09.ReadyLines", spec := "readyLines", unfollowed := true, recurses := true, apart := false, narrowed := true }
def ReadyLinesUptoSaid : Prop := readyLinesUptoRow.holds Try.pinned (OpenSpec.upto readyLinesSpec)

/-- 'buttresslaw09.ReadyBits', WHERE WHAT IT READS IS OF BULK AT MOST 1048576: true; the input reads as it did. -/
def readyBitsUptoRow : OpenClaim := { program := "ytimicibeljkjnaa", sum := "f6ad17e4e41ec459c9e87a2ec0da81fe5e14f9d8f71c74049056fd45fdb2428f", func := "buttress/buttresslaw09.ReadyBits", spec := "readyBits", unfollowed := true, recurses := true, apart := false, narrowed := true }
def ReadyBitsUptoSaid : Prop := readyBitsUptoRow.holds Try.pinned (OpenSpec.upto readyBitsSpec)

/-- 'buttresslaw09.ReadyApart', WHERE WHAT IT READS IS OF BULK AT MOST 1048576: true; the input reads as it did. -/
def readyApartUptoRow : OpenClaim := { program := "ytimicibeljkjnaa", sum := "f6ad17e4e41ec459c9e87a2ec0da81fe5e14f9d8f71c74049056fd45fdb2428f", func := "buttress/buttresslaw09.ReadyApart", spec := "readyApart", unfollowed := true, recurses := true, apart := false, narrowed := true }
def ReadyApartUptoSaid : Prop := readyApartUptoRow.holds Try.pinned (OpenSpec.upto readyApartSpec)

/-- 'buttresslaw09.ReadyDoes', WHERE WHAT IT READS IS OF BULK AT MOST 1048576: true; the input reads as it did. -/
def readyDoesUptoRow : OpenClaim := { program := "ytimicibeljkjnaa", sum := "f6ad17e4e41ec459c9e87a2ec0da81fe5e14f9d8f71c74049056fd45fdb2428f", func := "buttress/buttresslaw09.ReadyDoes", spec := "readyDoes", unfollowed := true, recurses := true, apart := false, narrowed := true }
def ReadyDoesUptoSaid : Prop := readyDoesUptoRow.holds Try.pinned (OpenSpec.upto readyDoesSpec)

end Rows
end Go.Proofs.Ytimicibeljkjnaa
