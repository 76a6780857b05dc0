/-
  No cell of these rows narrows 'for every input' (looked for: loops, veiled, ifaces, maps, wideKeys, modest, calm, conditions, laid).
  DERIVED. THE GIVEN ROWS OF THIS SEAT. 15 by the template 'for every input the law returns true; each argument reads behind the call as it read before'; 0 by the template 'total and deterministic' (their statements: YtdlcejjiccknlaaTotals.lean).
  GIVEN WITH THE SEED: the statements are not yours to turn. If you find one false, say at which input.
  Laid BY PROGRAM, IN A SANDBOX (cutbox-rows.mjs): the forced cells as the released guide's own fill.sh prints them over the translation 84f158df76ac603f… (all of the seat's roots in one cut). By AI agents, Wed Nov 11 2026. No macro, syntax, notation, axiom, sorry.
-/
import Derived.Test.YtdlcejjiccknlaaChecked
import GoSem.Claim
import GoSem.ClaimJoined
import GoSem.ClaimMapViews
import Derived.JoinedTies
import Derived.KernelRfl
namespace Go.Proofs.Ytdlcejjiccknlaa
/- THE CELL 'sum', in the pinned program and in every row, IS THE sha256 OF THE DUMP (.gsa) THAT YtdlcejjiccknlaaProg.lean LOADS. Nothing in Lean hashes anything: it is a label: what it is worth is what the hold of that sum in a sandbox is worth. -/
noncomputable def Try.pinned : Pinned := { name := "ytdlcejjiccknlaa", sum := "84f158df76ac603ff868960b86f4bf9139f3cb4e7ca8cea837a09276163e1d7f", checked := Try.checked }
namespace Rows
def none {H : Type} : Left H := { results := [], args := [] }

/-- 'buttresslaw05.SlotsFull': WHATEVER THE INPUT: true; the input reads as it did. -/
def slotsFullSpec : ChangeSpec := { name := "slotsFull", fn := fun _ => fun
  | [d1, d2] => { results := [.lit (.bool true)], args := [d1, d2] }
  | _ => none }
def slotsFullRow : OpenClaim := { program := "ytdlcejjiccknlaa", sum := "84f158df76ac603ff868960b86f4bf9139f3cb4e7ca8cea837a09276163e1d7f", func := "buttress/buttresslaw05.SlotsFull", spec := "slotsFull", plainKeys := false, apart := false }
def SlotsFullSaid : Prop := slotsFullRow.holds Try.pinned (OpenSpec.ofChange slotsFullSpec)

/-- ITS FALSE NEIGHBOUR: 'it returns false'. Refute it at one input. -/
def slotsFullWrong : ChangeSpec := { name := "slotsFull", fn := fun _ => fun
  | [d1, d2] => { results := [.lit (.bool false)], args := [d1, d2] }
  | _ => none }
def SlotsFullWrongFalsely : Prop := slotsFullRow.holds Try.pinned (OpenSpec.ofChange slotsFullWrong)

/-- 'buttresslaw06.LookupWays': WHATEVER THE INPUT: true; the input reads as it did. -/
def lookupWaysSpec : ChangeSpec := { name := "lookupWays", fn := fun _ => fun
  | [d1, d2, d3] => { results := [.lit (.bool true)], args := [d1, d2, d3] }
  | _ => none }
def lookupWaysRow : OpenClaim := { program := "ytdlcejjiccknlaa", sum := "84f158df76ac603ff868960b86f4bf9139f3cb4e7ca8cea837a09276163e1d7f", func := "buttress/buttresslaw06.LookupWays", spec := "lookupWays", unfollowed := true, recurses := true, plainKeys := false, apart := false }
def LookupWaysSaid : Prop := lookupWaysRow.holds Try.pinned (OpenSpec.ofChange lookupWaysSpec)

/-- ITS FALSE NEIGHBOUR: 'it returns false'. Refute it at one input. -/
def lookupWaysWrong : ChangeSpec := { name := "lookupWays", fn := fun _ => fun
  | [d1, d2, d3] => { results := [.lit (.bool false)], args := [d1, d2, d3] }
  | _ => none }
def LookupWaysWrongFalsely : Prop := lookupWaysRow.holds Try.pinned (OpenSpec.ofChange lookupWaysWrong)

/-- 'buttresslaw06.LookupOnly': WHATEVER THE INPUT: true; the input reads as it did. -/
def lookupOnlySpec : ChangeSpec := { name := "lookupOnly", fn := fun _ => fun
  | [d1, d2] => { results := [.lit (.bool true)], args := [d1, d2] }
  | _ => none }
def lookupOnlyRow : OpenClaim := { program := "ytdlcejjiccknlaa", sum := "84f158df76ac603ff868960b86f4bf9139f3cb4e7ca8cea837a09276163e1d7f", func := "buttress/buttresslaw06.LookupOnly", spec := "lookupOnly", unfollowed := true, recurses := true, plainKeys := false, apart := false }
def LookupOnlySaid : Prop := lookupOnlyRow.holds Try.pinned (OpenSpec.ofChange lookupOnlySpec)

/-- ITS FALSE NEIGHBOUR: 'it returns false'. Refute it at one input. -/
def lookupOnlyWrong : ChangeSpec := { name := "lookupOnly", fn := fun _ => fun
  | [d1, d2] => { results := [.lit (.bool false)], args := [d1, d2] }
  | _ => none }
def LookupOnlyWrongFalsely : Prop := lookupOnlyRow.holds Try.pinned (OpenSpec.ofChange lookupOnlyWrong)

/-- 'buttresslaw06.LookupHigh': WHATEVER THE INPUT: true; the input reads as it did. -/
def lookupHighSpec : ChangeSpec := { name := "lookupHigh", fn := fun _ => fun
  | [d1, d2, d3] => { results := [.lit (.bool true)], args := [d1, d2, d3] }
  | _ => none }
def lookupHighRow : OpenClaim := { program := "ytdlcejjiccknlaa", sum := "84f158df76ac603ff868960b86f4bf9139f3cb4e7ca8cea837a09276163e1d7f", func := "buttress/buttresslaw06.LookupHigh", spec := "lookupHigh", unfollowed := true, recurses := true, plainKeys := false, apart := false }
def LookupHighSaid : Prop := lookupHighRow.holds Try.pinned (OpenSpec.ofChange lookupHighSpec)

/-- ITS FALSE NEIGHBOUR: 'it returns false'. Refute it at one input. -/
def lookupHighWrong : ChangeSpec := { name := "lookupHigh", fn := fun _ => fun
  | [d1, d2, d3] => { results := [.lit (.bool false)], args := [d1, d2, d3] }
  | _ => none }
def LookupHighWrongFalsely : Prop := lookupHighRow.holds Try.pinned (OpenSpec.ofChange lookupHighWrong)

/-- 'buttresslaw06.LookupFree': WHATEVER THE INPUT: true; the input reads as it did. -/
def lookupFreeSpec : ChangeSpec := { name := "lookupFree", fn := fun _ => fun
  | [d1, d2, d3] => { results := [.lit (.bool true)], args := [d1, d2, d3] }
  | _ => none }
def lookupFreeRow : OpenClaim := { program := "ytdlcejjiccknlaa", sum := "84f158df76ac603ff868960b86f4bf9139f3cb4e7ca8cea837a09276163e1d7f", func := "buttress/buttresslaw06.LookupFree", spec := "lookupFree", unfollowed := true, recurses := true, plainKeys := false, apart := false }
def LookupFreeSaid : Prop := lookupFreeRow.holds Try.pinned (OpenSpec.ofChange lookupFreeSpec)

/-- ITS FALSE NEIGHBOUR: 'it returns false'. Refute it at one input. -/
def lookupFreeWrong : ChangeSpec := { name := "lookupFree", fn := fun _ => fun
  | [d1, d2, d3] => { results := [.lit (.bool false)], args := [d1, d2, d3] }
  | _ => none }
def LookupFreeWrongFalsely : Prop := lookupFreeRow.holds Try.pinned (OpenSpec.ofChange lookupFreeWrong)

/-- 'buttresslaw06.LookupDepths': WHATEVER THE INPUT: true; the input reads as it did. -/
def lookupDepthsSpec : ChangeSpec := { name := "lookupDepths", fn := fun _ => fun
  | [d1, d2] => { results := [.lit (.bool true)], args := [d1, d2] }
  | _ => none }
def lookupDepthsRow : OpenClaim := { program := "ytdlcejjiccknlaa", sum := "84f158df76ac603ff868960b86f4bf9139f3cb4e7ca8cea837a09276163e1d7f", func := "buttress/buttresslaw06.LookupDepths", spec := "lookupDepths", unfollowed := true, recurses := true, plainKeys := false, apart := false }
def LookupDepthsSaid : Prop := lookupDepthsRow.holds Try.pinned (OpenSpec.ofChange lookupDepthsSpec)

/-- ITS FALSE NEIGHBOUR: 'it returns false'. Refute it at one input. -/
def lookupDepthsWrong : ChangeSpec := { name := "lookupDepths", fn := fun _ => fun
  | [d1, d2] => { results := [.lit (.bool false)], args := [d1, d2] }
  | _ => none }
def LookupDepthsWrongFalsely : Prop := lookupDepthsRow.holds Try.pinned (OpenSpec.ofChange lookupDepthsWrong)

/-- 'buttresslaw05.SlotsKeeps': WHATEVER THE INPUT: true; the input reads as it did. -/
def slotsKeepsSpec : ChangeSpec := { name := "slotsKeeps", fn := fun _ => fun
  | [d] => { results := [.lit (.bool true)], args := [d] }
  | _ => none }
def slotsKeepsRow : OpenClaim := { program := "ytdlcejjiccknlaa", sum := "84f158df76ac603ff868960b86f4bf9139f3cb4e7ca8cea837a09276163e1d7f", func := "buttress/buttresslaw05.SlotsKeeps", spec := "slotsKeeps", unfollowed := true, recurses := true, plainKeys := false, apart := false }
def SlotsKeepsSaid : Prop := slotsKeepsRow.holds Try.pinned (OpenSpec.ofChange slotsKeepsSpec)

/-- ITS FALSE NEIGHBOUR: 'it returns false'. Refute it at one input. -/
def slotsKeepsWrong : ChangeSpec := { name := "slotsKeeps", fn := fun _ => fun
  | [d] => { results := [.lit (.bool false)], args := [d] }
  | _ => none }
def SlotsKeepsWrongFalsely : Prop := slotsKeepsRow.holds Try.pinned (OpenSpec.ofChange slotsKeepsWrong)

/-- 'buttresslaw05.SlotsSwaps': WHATEVER THE INPUT: true; the input reads as it did. -/
def slotsSwapsSpec : ChangeSpec := { name := "slotsSwaps", fn := fun _ => fun
  | [d1, d2, d3] => { results := [.lit (.bool true)], args := [d1, d2, d3] }
  | _ => none }
def slotsSwapsRow : OpenClaim := { program := "ytdlcejjiccknlaa", sum := "84f158df76ac603ff868960b86f4bf9139f3cb4e7ca8cea837a09276163e1d7f", func := "buttress/buttresslaw05.SlotsSwaps", spec := "slotsSwaps", unfollowed := true, recurses := true, plainKeys := false, apart := false }
def SlotsSwapsSaid : Prop := slotsSwapsRow.holds Try.pinned (OpenSpec.ofChange slotsSwapsSpec)

/-- ITS FALSE NEIGHBOUR: 'it returns false'. Refute it at one input. -/
def slotsSwapsWrong : ChangeSpec := { name := "slotsSwaps", fn := fun _ => fun
  | [d1, d2, d3] => { results := [.lit (.bool false)], args := [d1, d2, d3] }
  | _ => none }
def SlotsSwapsWrongFalsely : Prop := slotsSwapsRow.holds Try.pinned (OpenSpec.ofChange slotsSwapsWrong)

/-- 'buttresslaw05.SlotsMoves': WHATEVER THE INPUT: true; the input reads as it did. -/
def slotsMovesSpec : ChangeSpec := { name := "slotsMoves", fn := fun _ => fun
  | [d1, d2, d3] => { results := [.lit (.bool true)], args := [d1, d2, d3] }
  | _ => none }
def slotsMovesRow : OpenClaim := { program := "ytdlcejjiccknlaa", sum := "84f158df76ac603ff868960b86f4bf9139f3cb4e7ca8cea837a09276163e1d7f", func := "buttress/buttresslaw05.SlotsMoves", spec := "slotsMoves", unfollowed := true, recurses := true, plainKeys := false, apart := false }
def SlotsMovesSaid : Prop := slotsMovesRow.holds Try.pinned (OpenSpec.ofChange slotsMovesSpec)

/-- ITS FALSE NEIGHBOUR: 'it returns false'. Refute it at one input. -/
def slotsMovesWrong : ChangeSpec := { name := "slotsMoves", fn := fun _ => fun
  | [d1, d2, d3] => { results := [.lit (.bool false)], args := [d1, d2, d3] }
  | _ => none }
def SlotsMovesWrongFalsely : Prop := slotsMovesRow.holds Try.pinned (OpenSpec.ofChange slotsMovesWrong)

/-- 'buttresslaw05.SlotsDrops': WHATEVER THE INPUT: true; the input reads as it did. -/
def slotsDropsSpec : ChangeSpec := { name := "slotsDrops", fn := fun _ => fun
  | [d1, d2] => { results := [.lit (.bool true)], args := [d1, d2] }
  | _ => none }
def slotsDropsRow : OpenClaim := { program := "ytdlcejjiccknlaa", sum := "84f158df76ac603ff868960b86f4bf9139f3cb4e7ca8cea837a09276163e1d7f", func := "buttress/buttresslaw05.SlotsDrops", spec := "slotsDrops", unfollowed := true, recurses := true, plainKeys := false, apart := false }
def SlotsDropsSaid : Prop := slotsDropsRow.holds Try.pinned (OpenSpec.ofChange slotsDropsSpec)

/-- ITS FALSE NEIGHBOUR: 'it returns false'. Refute it at one input. -/
def slotsDropsWrong : ChangeSpec := { name := "slotsDrops", fn := fun _ => fun
  | [d1, d2] => { results := [.lit (.bool false)], args := [d1, d2] }
  | _ => none }
def SlotsDropsWrongFalsely : Prop := slotsDropsRow.holds Try.pinned (OpenSpec.ofChange slotsDropsWrong)

/-- 'buttresslaw05.SlotsOrder': WHATEVER THE INPUT: true; the input reads as it did. -/
def slotsOrderSpec : ChangeSpec := { name := "slotsOrder", fn := fun _ => fun
  | [d] => { results := [.lit (.bool true)], args := [d] }
  | _ => none }
def slotsOrderRow : OpenClaim := { program := "ytdlcejjiccknlaa", sum := "84f158df76ac603ff868960b86f4bf9139f3cb4e7ca8cea837a09276163e1d7f", func := "buttress/buttresslaw05.SlotsOrder", spec := "slotsOrder", unfollowed := true, recurses := true, plainKeys := false, apart := false }
def SlotsOrderSaid : Prop := slotsOrderRow.holds Try.pinned (OpenSpec.ofChange slotsOrderSpec)

/-- ITS FALSE NEIGHBOUR: 'it returns false'. Refute it at one input. -/
def slotsOrderWrong : ChangeSpec := { name := "slotsOrder", fn := fun _ => fun
  | [d] => { results := [.lit (.bool false)], args := [d] }
  | _ => none }
def SlotsOrderWrongFalsely : Prop := slotsOrderRow.holds Try.pinned (OpenSpec.ofChange slotsOrderWrong)

/-- 'buttresslaw05.SlotsNone': WHATEVER THE INPUT: true; the input reads as it did. -/
def slotsNoneSpec : ChangeSpec := { name := "slotsNone", fn := fun _ => fun
  | [d1, d2, d3] => { results := [.lit (.bool true)], args := [d1, d2, d3] }
  | _ => none }
def slotsNoneRow : OpenClaim := { program := "ytdlcejjiccknlaa", sum := "84f158df76ac603ff868960b86f4bf9139f3cb4e7ca8cea837a09276163e1d7f", func := "buttress/buttresslaw05.SlotsNone", spec := "slotsNone", unfollowed := true, recurses := true, plainKeys := false, apart := false }
def SlotsNoneSaid : Prop := slotsNoneRow.holds Try.pinned (OpenSpec.ofChange slotsNoneSpec)

/-- ITS FALSE NEIGHBOUR: 'it returns false'. Refute it at one input. -/
def slotsNoneWrong : ChangeSpec := { name := "slotsNone", fn := fun _ => fun
  | [d1, d2, d3] => { results := [.lit (.bool false)], args := [d1, d2, d3] }
  | _ => none }
def SlotsNoneWrongFalsely : Prop := slotsNoneRow.holds Try.pinned (OpenSpec.ofChange slotsNoneWrong)

/-- 'buttresslaw05.SlotsDoes': WHATEVER THE INPUT: true; the input reads as it did. -/
def slotsDoesSpec : ChangeSpec := { name := "slotsDoes", fn := fun _ => fun
  | [d] => { results := [.lit (.bool true)], args := [d] }
  | _ => none }
def slotsDoesRow : OpenClaim := { program := "ytdlcejjiccknlaa", sum := "84f158df76ac603ff868960b86f4bf9139f3cb4e7ca8cea837a09276163e1d7f", func := "buttress/buttresslaw05.SlotsDoes", spec := "slotsDoes", inPlace := ["maps.clone"], unfollowed := true, recurses := true, plainKeys := false, apart := false }
def SlotsDoesSaid : Prop := slotsDoesRow.holds Try.pinned (OpenSpec.ofChange slotsDoesSpec)

/-- ITS FALSE NEIGHBOUR: 'it returns false'. Refute it at one input. -/
def slotsDoesWrong : ChangeSpec := { name := "slotsDoes", fn := fun _ => fun
  | [d] => { results := [.lit (.bool false)], args := [d] }
  | _ => none }
def SlotsDoesWrongFalsely : Prop := slotsDoesRow.holds Try.pinned (OpenSpec.ofChange slotsDoesWrong)

/-- 'buttresslaw06.LookupSlots': WHATEVER THE INPUT: true; the input reads as it did. -/
def lookupSlotsSpec : ChangeSpec := { name := "lookupSlots", fn := fun _ => fun
  | [d1, d2] => { results := [.lit (.bool true)], args := [d1, d2] }
  | _ => none }
def lookupSlotsRow : OpenClaim := { program := "ytdlcejjiccknlaa", sum := "84f158df76ac603ff868960b86f4bf9139f3cb4e7ca8cea837a09276163e1d7f", func := "buttress/buttresslaw06.LookupSlots", spec := "lookupSlots", unfollowed := true, recurses := true, plainKeys := false, apart := false }
def LookupSlotsSaid : Prop := lookupSlotsRow.holds Try.pinned (OpenSpec.ofChange lookupSlotsSpec)

/-- ITS FALSE NEIGHBOUR: 'it returns false'. Refute it at one input. -/
def lookupSlotsWrong : ChangeSpec := { name := "lookupSlots", fn := fun _ => fun
  | [d1, d2] => { results := [.lit (.bool false)], args := [d1, d2] }
  | _ => none }
def LookupSlotsWrongFalsely : Prop := lookupSlotsRow.holds Try.pinned (OpenSpec.ofChange lookupSlotsWrong)

/-- 'buttresslaw06.LookupSame': WHATEVER THE INPUT: true; the input reads as it did. -/
def lookupSameSpec : ChangeSpec := { name := "lookupSame", fn := fun _ => fun
  | [d1, d2, d3] => { results := [.lit (.bool true)], args := [d1, d2, d3] }
  | _ => none }
def lookupSameRow : OpenClaim := { program := "ytdlcejjiccknlaa", sum := "84f158df76ac603ff868960b86f4bf9139f3cb4e7ca8cea837a09276163e1d7f", func := "buttress/buttresslaw06.LookupSame", spec := "lookupSame", unfollowed := true, recurses := true, plainKeys := false, apart := false }
def LookupSameSaid : Prop := lookupSameRow.holds Try.pinned (OpenSpec.ofChange lookupSameSpec)

/-- ITS FALSE NEIGHBOUR: 'it returns false'. Refute it at one input. -/
def lookupSameWrong : ChangeSpec := { name := "lookupSame", fn := fun _ => fun
  | [d1, d2, d3] => { results := [.lit (.bool false)], args := [d1, d2, d3] }
  | _ => none }
def LookupSameWrongFalsely : Prop := lookupSameRow.holds Try.pinned (OpenSpec.ofChange lookupSameWrong)

/- THE SECOND FORM. 'bulk': how many values and letters a reading holds, each counted each time it is reached (what is shared counts as often as it is met; a slice's spare places count too). A statement '..UptoSaid' is the law's where the arguments, and the package variables that the reading takes, are together of bulk at most 1048576: NARROWER than '..Said'. Prove '..Said' where nothing that the law and all that it calls make is longer than what came in: it says more and counts as full. Else prove '..UptoSaid'. A law counts once. -/
mutual
def uptoBulk {H : Type} : DataW H → Nat
  | .lit (.string bytes) => bytes.length + 1
  | .lit _ => 1
  | .nil => 1
  | .ptr d => uptoBulk d + 1
  | .slice elems spare => uptoBulkAll elems + uptoBulkAll spare + 1
  | .agg parts => uptoBulkAll parts + 1
  | .iface _ d => uptoBulk d + 1
  | .map entries => uptoBulkEntries entries + 1
  | .held _ => 1
def uptoBulkAll {H : Type} : List (DataW H) → Nat
  | [] => 0
  | d :: r => uptoBulk d + uptoBulkAll r
def uptoBulkEntries {H : Type} : List (Lit × DataW H) → Nat
  | [] => 0
  | x :: r => uptoBulkEntry x + uptoBulkEntries r
def uptoBulkEntry {H : Type} : Lit × DataW H → Nat
  | (.string bytes, d) => bytes.length + uptoBulk d + 1
  | (_, d) => uptoBulk d + 1
 end
def uptoSmall : (H : Type) → List (DataW H) → Bool := fun _ ds => decide (uptoBulkAll ds ≤ 1048576)
def OpenSpec.upto (s : _root_.Go.ChangeSpec) : _root_.Go.OpenSpec := { _root_.Go.OpenSpec.ofChange s with cond := some uptoSmall }

/-- 'buttresslaw05.SlotsFull', WHERE WHAT IT READS IS OF BULK AT MOST 1048576: true; the input reads as it did. -/
def slotsFullUptoRow : OpenClaim := { program := "ytdlcejjiccknlaa", sum := "84f158df76ac603ff868960b86f4bf9139f3cb4e7ca8cea837a09276163e1d7f", func := "buttress/buttresslaw05.SlotsFull", spec := "slotsFull", plainKeys := false, apart := false, narrowed := true }
def SlotsFullUptoSaid : Prop := slotsFullUptoRow.holds Try.pinned (OpenSpec.upto slotsFullSpec)

/-- 'buttresslaw06.LookupWays', WHERE WHAT IT READS IS OF BULK AT MOST 1048576: true; the input reads as it did. -/
def lookupWaysUptoRow : OpenClaim := { program := "ytdlcejjiccknlaa", sum := "84f158df76ac603ff868960b86f4bf9139f3cb4e7ca8cea837a09276163e1d7f", func := "buttress/buttresslaw06.LookupWays", spec := "lookupWays", unfollowed := true, recurses := true, plainKeys := false, apart := false, narrowed := true }
def LookupWaysUptoSaid : Prop := lookupWaysUptoRow.holds Try.pinned (OpenSpec.upto lookupWaysSpec)

/-- 'buttresslaw06.LookupOnly', WHERE WHAT IT READS IS OF BULK AT MOST 1048576: true; the input reads as it did. -/
def lookupOnlyUptoRow : OpenClaim := { program := "ytdlcejjiccknlaa", sum := "84f158df76ac603ff868960b86f4bf9139f3cb4e7ca8cea837a09276163e1d7f", func := "buttress/buttresslaw06.LookupOnly", spec := "lookupOnly", unfollowed := true, recurses := true, plainKeys := false, apart := false, narrowed := true }
def LookupOnlyUptoSaid : Prop := lookupOnlyUptoRow.holds Try.pinned (OpenSpec.upto lookupOnlySpec)

/-- 'buttresslaw06.LookupHigh', WHERE WHAT IT READS IS OF BULK AT MOST 1048576: true; the input reads as it did. -/
def lookupHighUptoRow : OpenClaim := { program := "ytdlcejjiccknlaa", sum := "84f158df76ac603ff868960b86f4bf9139f3cb4e7ca8cea837a09276163e1d7f", func := "buttress/buttresslaw06.LookupHigh", spec := "lookupHigh", unfollowed := true, recurses := true, plainKeys := false, apart := false, narrowed := true }
def LookupHighUptoSaid : Prop := lookupHighUptoRow.holds Try.pinned (OpenSpec.upto lookupHighSpec)

/-- 'buttresslaw06.LookupFree', WHERE WHAT IT READS IS OF BULK AT MOST 1048576: true; the input reads as it did. -/
def lookupFreeUptoRow : OpenClaim := { program := "ytdlcejjiccknlaa", sum := "84f158df76ac603ff868960b86f4bf9139f3cb4e7ca8cea837a09276163e1d7f", func := "buttress/buttresslaw06.LookupFree", spec := "lookupFree", unfollowed := true, recurses := true, plainKeys := false, apart := false, narrowed := true }
def LookupFreeUptoSaid : Prop := lookupFreeUptoRow.holds Try.pinned (OpenSpec.upto lookupFreeSpec)

/-- 'buttresslaw06.LookupDepths', WHERE WHAT IT READS IS OF BULK AT MOST 1048576: true; the input reads as it did. -/
def lookupDepthsUptoRow : OpenClaim := { program := "ytdlcejjiccknlaa", sum := "84f158df76ac603ff868960b86f4bf9139f3cb4e7ca8cea837a09276163e1d7f", func := "buttress/buttresslaw06.LookupDepths", spec := "lookupDepths", unfollowed := true, recurses := true, plainKeys := false, apart := false, narrowed := true }
def LookupDepthsUptoSaid : Prop := lookupDepthsUptoRow.holds Try.pinned (OpenSpec.upto lookupDepthsSpec)

/-- 'buttresslaw05.SlotsKeeps', WHERE WHAT IT READS IS OF BULK AT MOST 1048576: true; the input reads as it did. -/
def slotsKeepsUptoRow : OpenClaim := { program := "ytdlcejjiccknlaa", sum := "84f158df76ac603ff868960b86f4bf9139f3cb4e7ca8cea837a09276163e1d7f", func := "buttress/buttresslaw05.SlotsKeeps", spec := "slotsKeeps", unfollowed := true, recurses := true, plainKeys := false, apart := false, narrowed := true }
def SlotsKeepsUptoSaid : Prop := slotsKeepsUptoRow.holds Try.pinned (OpenSpec.upto slotsKeepsSpec)

/-- 'buttresslaw05.SlotsSwaps', WHERE WHAT IT READS IS OF BULK AT MOST 1048576: true; the input reads as it did. -/
def slotsSwapsUptoRow : OpenClaim := { program := "ytdlcejjiccknlaa", sum := "84f158df76ac603ff868960b86f4bf9139f3cb4e7ca8cea837a09276163e1d7f", func := "buttress/buttresslaw05.SlotsSwaps", spec := "slotsSwaps", unfollowed := true, recurses := true, plainKeys := false, apart := false, narrowed := true }
def SlotsSwapsUptoSaid : Prop := slotsSwapsUptoRow.holds Try.pinned (OpenSpec.upto slotsSwapsSpec)

/-- 'buttresslaw05.SlotsMoves', WHERE WHAT IT READS IS OF BULK AT MOST 1048576: true; the input reads as it did. -/
def slotsMovesUptoRow : OpenClaim := { program := "ytdlcejjiccknlaa", sum := "84f158df76ac603ff868960b86f4bf9139f3cb4e7ca8cea837a09276163e1d7f", func := "buttress/buttresslaw05.SlotsMoves", spec := "slotsMoves", unfollowed := true, recurses := true, plainKeys := false, apart := false, narrowed := true }
def SlotsMovesUptoSaid : Prop := slotsMovesUptoRow.holds Try.pinned (OpenSpec.upto slotsMovesSpec)

/-- 'buttresslaw05.SlotsDrops', WHERE WHAT IT READS IS OF BULK AT MOST 1048576: true; the input reads as it did. -/
def slotsDropsUptoRow : OpenClaim := { program := "ytdlcejjiccknlaa", sum := "84f158df76ac603ff868960b86f4bf9139f3cb4e7ca8cea837a09276163e1d7f", func := "buttress/buttresslaw05.SlotsDrops", spec := "slotsDrops", unfollowed := true, recurses := true, plainKeys := false, apart := false, narrowed := true }
def SlotsDropsUptoSaid : Prop := slotsDropsUptoRow.holds Try.pinned (OpenSpec.upto slotsDropsSpec)

/-- 'buttresslaw05.SlotsOrder', WHERE WHAT IT READS IS OF BULK AT MOST 1048576: true; the input reads as it did. -/
def slotsOrderUptoRow : OpenClaim := { program := "ytdlcejjiccknlaa", sum := "84f158df76ac603ff868960b86f4bf9139f3cb4e7ca8cea837a09276163e1d7f", func := "buttress/buttresslaw05.SlotsOrder", spec := "slotsOrder", unfollowed := true, recurses := true, plainKeys := false, apart := false, narrowed := true }
def SlotsOrderUptoSaid : Prop := slotsOrderUptoRow.holds Try.pinned (OpenSpec.upto slotsOrderSpec)

/-- 'buttresslaw05.SlotsNone', WHERE WHAT IT READS IS OF BULK AT MOST 1048576: true; the input reads as it did. -/
def slotsNoneUptoRow : OpenClaim := { program := "ytdlcejjiccknlaa", sum := "84f158df76ac603ff868960b86f4bf9139f3cb4e7ca8cea837a09276163e1d7f", func := "buttress/buttresslaw05.SlotsNone", spec := "slotsNone", unfollowed := true, recurses := true, plainKeys := false, apart := false, narrowed := true }
def SlotsNoneUptoSaid : Prop := slotsNoneUptoRow.holds Try.pinned (OpenSpec.upto slotsNoneSpec)

/-- 'buttresslaw05.SlotsDoes', WHERE WHAT IT READS IS OF BULK AT MOST 1048576: true; the input reads as it did. -/
def slotsDoesUptoRow : OpenClaim := { program := "ytdlcejjiccknlaa", sum := "84f158df76ac603ff868960b86f4bf9139f3cb4e7ca8cea837a09276163e1d7f", func := "buttress/buttresslaw05.SlotsDoes", spec := "slotsDoes", inPlace := ["maps.clone"], unfollowed := true, recurses := true, plainKeys := false, apart := false, narrowed := true }
def SlotsDoesUptoSaid : Prop := slotsDoesUptoRow.holds Try.pinned (OpenSpec.upto slotsDoesSpec)

/-- 'buttresslaw06.LookupSlots', WHERE WHAT IT READS IS OF BULK AT MOST 1048576: true; the input reads as it did. -/
def lookupSlotsUptoRow : OpenClaim := { program := "ytdlcejjiccknlaa", sum := "84f158df76ac603ff868960b86f4bf9139f3cb4e7ca8cea837a09276163e1d7f", func := "buttress/buttresslaw06.LookupSlots", spec := "lookupSlots", unfollowed := true, recurses := true, plainKeys := false, apart := false, narrowed := true }
def LookupSlotsUptoSaid : Prop := lookupSlotsUptoRow.holds Try.pinned (OpenSpec.upto lookupSlotsSpec)

/-- 'buttresslaw06.LookupSame', WHERE WHAT IT READS IS OF BULK AT MOST 1048576: true; the input reads as it did. -/
def lookupSameUptoRow : OpenClaim := { program := "ytdlcejjiccknlaa", sum := "84f158df76ac603ff868960b86f4bf9139f3cb4e7ca8cea837a09276163e1d7f", func := "buttress/buttresslaw06.LookupSame", spec := "lookupSame", unfollowed := true, recurses := true, plainKeys := false, apart := false, narrowed := true }
def LookupSameUptoSaid : Prop := lookupSameUptoRow.holds Try.pinned (OpenSpec.upto lookupSameSpec)

end Rows
end Go.Proofs.Ytdlcejjiccknlaa
