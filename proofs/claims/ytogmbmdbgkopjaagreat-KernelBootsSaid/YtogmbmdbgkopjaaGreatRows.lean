/-
  No cell of these rows narrows 'for every input' (looked for: loops, veiled, ifaces, maps, wideKeys, modest, calm, conditions, laid).
  DERIVED. THE GIVEN ROWS OF THIS SEAT. 11 by the template 'for every input the law returns true; each argument reads behind the call as it read before'; 0 by the template 'total and deterministic' (their statements: YtogmbmdbgkopjaaGreatTotals.lean).
  GIVEN WITH THE SEED: the statements are not yours to turn. If you find one false, say at which input.
  Laid BY PROGRAM, IN A SANDBOX (cutbox-rows.mjs): the forced cells as the released guide's own fill.sh prints them over the translation 101afa2a72863c98… (all of the seat's roots in one cut). By AI agents, Wed Nov 11 2026. No macro, syntax, notation, axiom, sorry.
-/
import Derived.Test.YtogmbmdbgkopjaaGreatChecked
import GoSem.Claim
import GoSem.ClaimJoined
import GoSem.ClaimMapViews
import Derived.JoinedTies
import Derived.KernelRfl
namespace Go.Proofs.YtogmbmdbgkopjaaGreat
/- THE CELL 'sum', in the pinned program and in every row, IS THE sha256 OF THE DUMP (.gsa) THAT YtogmbmdbgkopjaaGreatProg.lean LOADS. Nothing in Lean hashes anything: it is a label: what it is worth is what the hold of that sum in a sandbox is worth. -/
noncomputable def Tryz.pinned : Pinned := { name := "ytogmbmdbgkopjaagreat", sum := "101afa2a72863c984eed4c5a8102e4a68458738ff9f4118a26d7c0046eff32d0", checked := Tryz.checked }
namespace Rows
def none {H : Type} : Left H := { results := [], args := [] }

/-- 'buttresslaw18.KernelMakes': WHATEVER THE INPUT: true; the input reads as it did. -/
def kernelMakesSpec : ChangeSpec := { name := "kernelMakes", fn := fun _ => fun
  | [d1, d2, d3] => { results := [.lit (.bool true)], args := [d1, d2, d3] }
  | _ => none }
def kernelMakesRow : OpenClaim := { program := "ytogmbmdbgkopjaagreat", sum := "101afa2a72863c984eed4c5a8102e4a68458738ff9f4118a26d7c0046eff32d0", func := "buttress/buttresslaw18.KernelMakes", spec := "kernelMakes", inPlace := ["math/bits.Add64", "slices.overlaps[buttress/tree.leaf]"], unfollowed := true, recurses := true, plainKeys := false, apart := false }
def KernelMakesSaid : Prop := kernelMakesRow.holds Tryz.pinned (OpenSpec.ofChange kernelMakesSpec)

/-- ITS FALSE NEIGHBOUR: 'it returns false'. Refute it at one input. -/
def kernelMakesWrong : ChangeSpec := { name := "kernelMakes", fn := fun _ => fun
  | [d1, d2, d3] => { results := [.lit (.bool false)], args := [d1, d2, d3] }
  | _ => none }
def KernelMakesWrongFalsely : Prop := kernelMakesRow.holds Tryz.pinned (OpenSpec.ofChange kernelMakesWrong)

/-- 'buttresslaw18.KernelYields': WHATEVER THE INPUT: true; the input reads as it did. -/
def kernelYieldsSpec : ChangeSpec := { name := "kernelYields", fn := fun _ => fun
  | [d1, d2] => { results := [.lit (.bool true)], args := [d1, d2] }
  | _ => none }
def kernelYieldsRow : OpenClaim := { program := "ytogmbmdbgkopjaagreat", sum := "101afa2a72863c984eed4c5a8102e4a68458738ff9f4118a26d7c0046eff32d0", func := "buttress/buttresslaw18.KernelYields", spec := "kernelYields", inPlace := ["math/bits.Add64", "slices.overlaps[buttress/tree.leaf]"], unfollowed := true, recurses := true, plainKeys := false, apart := false }
def KernelYieldsSaid : Prop := kernelYieldsRow.holds Tryz.pinned (OpenSpec.ofChange kernelYieldsSpec)

/-- ITS FALSE NEIGHBOUR: 'it returns false'. Refute it at one input. -/
def kernelYieldsWrong : ChangeSpec := { name := "kernelYields", fn := fun _ => fun
  | [d1, d2] => { results := [.lit (.bool false)], args := [d1, d2] }
  | _ => none }
def KernelYieldsWrongFalsely : Prop := kernelYieldsRow.holds Tryz.pinned (OpenSpec.ofChange kernelYieldsWrong)

/-- 'buttresslaw18.KernelSends': WHATEVER THE INPUT: true; the input reads as it did. -/
def kernelSendsSpec : ChangeSpec := { name := "kernelSends", fn := fun _ => fun
  | [d1, d2, d3] => { results := [.lit (.bool true)], args := [d1, d2, d3] }
  | _ => none }
def kernelSendsRow : OpenClaim := { program := "ytogmbmdbgkopjaagreat", sum := "101afa2a72863c984eed4c5a8102e4a68458738ff9f4118a26d7c0046eff32d0", func := "buttress/buttresslaw18.KernelSends", spec := "kernelSends", inPlace := ["math/bits.Add64", "slices.overlaps[buttress/tree.leaf]"], unfollowed := true, recurses := true, plainKeys := false, apart := false }
def KernelSendsSaid : Prop := kernelSendsRow.holds Tryz.pinned (OpenSpec.ofChange kernelSendsSpec)

/-- ITS FALSE NEIGHBOUR: 'it returns false'. Refute it at one input. -/
def kernelSendsWrong : ChangeSpec := { name := "kernelSends", fn := fun _ => fun
  | [d1, d2, d3] => { results := [.lit (.bool false)], args := [d1, d2, d3] }
  | _ => none }
def KernelSendsWrongFalsely : Prop := kernelSendsRow.holds Tryz.pinned (OpenSpec.ofChange kernelSendsWrong)

/-- 'buttresslaw18.KernelPages': WHATEVER THE INPUT: true; the input reads as it did. -/
def kernelPagesSpec : ChangeSpec := { name := "kernelPages", fn := fun _ => fun
  | [d1, d2, d3] => { results := [.lit (.bool true)], args := [d1, d2, d3] }
  | _ => none }
def kernelPagesRow : OpenClaim := { program := "ytogmbmdbgkopjaagreat", sum := "101afa2a72863c984eed4c5a8102e4a68458738ff9f4118a26d7c0046eff32d0", func := "buttress/buttresslaw18.KernelPages", spec := "kernelPages", inPlace := ["math/bits.Add64", "slices.overlaps[buttress/tree.leaf]"], unfollowed := true, recurses := true, plainKeys := false, apart := false }
def KernelPagesSaid : Prop := kernelPagesRow.holds Tryz.pinned (OpenSpec.ofChange kernelPagesSpec)

/-- ITS FALSE NEIGHBOUR: 'it returns false'. Refute it at one input. -/
def kernelPagesWrong : ChangeSpec := { name := "kernelPages", fn := fun _ => fun
  | [d1, d2, d3] => { results := [.lit (.bool false)], args := [d1, d2, d3] }
  | _ => none }
def KernelPagesWrongFalsely : Prop := kernelPagesRow.holds Tryz.pinned (OpenSpec.ofChange kernelPagesWrong)

/-- 'buttresslaw18.KernelMints': WHATEVER THE INPUT: true; the input reads as it did. -/
def kernelMintsSpec : ChangeSpec := { name := "kernelMints", fn := fun _ => fun
  | [d1, d2] => { results := [.lit (.bool true)], args := [d1, d2] }
  | _ => none }
def kernelMintsRow : OpenClaim := { program := "ytogmbmdbgkopjaagreat", sum := "101afa2a72863c984eed4c5a8102e4a68458738ff9f4118a26d7c0046eff32d0", func := "buttress/buttresslaw18.KernelMints", spec := "kernelMints", inPlace := ["math/bits.Add64", "slices.overlaps[buttress/tree.leaf]"], unfollowed := true, recurses := true, plainKeys := false, apart := false }
def KernelMintsSaid : Prop := kernelMintsRow.holds Tryz.pinned (OpenSpec.ofChange kernelMintsSpec)

/-- ITS FALSE NEIGHBOUR: 'it returns false'. Refute it at one input. -/
def kernelMintsWrong : ChangeSpec := { name := "kernelMints", fn := fun _ => fun
  | [d1, d2] => { results := [.lit (.bool false)], args := [d1, d2] }
  | _ => none }
def KernelMintsWrongFalsely : Prop := kernelMintsRow.holds Tryz.pinned (OpenSpec.ofChange kernelMintsWrong)

/-- 'buttresslaw18.KernelBoots': WHATEVER THE INPUT: true; the input reads as it did. -/
def kernelBootsSpec : ChangeSpec := { name := "kernelBoots", fn := fun _ => fun
  | [d] => { results := [.lit (.bool true)], args := [d] }
  | _ => none }
def kernelBootsRow : OpenClaim := { program := "ytogmbmdbgkopjaagreat", sum := "101afa2a72863c984eed4c5a8102e4a68458738ff9f4118a26d7c0046eff32d0", func := "buttress/buttresslaw18.KernelBoots", spec := "kernelBoots", inPlace := ["math/bits.Add64", "slices.overlaps[buttress/tree.leaf]"], unfollowed := true, recurses := true, plainKeys := false, apart := false }
def KernelBootsSaid : Prop := kernelBootsRow.holds Tryz.pinned (OpenSpec.ofChange kernelBootsSpec)

/-- ITS FALSE NEIGHBOUR: 'it returns false'. Refute it at one input. -/
def kernelBootsWrong : ChangeSpec := { name := "kernelBoots", fn := fun _ => fun
  | [d] => { results := [.lit (.bool false)], args := [d] }
  | _ => none }
def KernelBootsWrongFalsely : Prop := kernelBootsRow.holds Tryz.pinned (OpenSpec.ofChange kernelBootsWrong)

/-- 'buttresslaw18.KernelIrqs': WHATEVER THE INPUT: true; the input reads as it did. -/
def kernelIrqsSpec : ChangeSpec := { name := "kernelIrqs", fn := fun _ => fun
  | [d1, d2] => { results := [.lit (.bool true)], args := [d1, d2] }
  | _ => none }
def kernelIrqsRow : OpenClaim := { program := "ytogmbmdbgkopjaagreat", sum := "101afa2a72863c984eed4c5a8102e4a68458738ff9f4118a26d7c0046eff32d0", func := "buttress/buttresslaw18.KernelIrqs", spec := "kernelIrqs", inPlace := ["math/bits.Add64", "slices.overlaps[buttress/tree.leaf]"], unfollowed := true, recurses := true, plainKeys := false, apart := false }
def KernelIrqsSaid : Prop := kernelIrqsRow.holds Tryz.pinned (OpenSpec.ofChange kernelIrqsSpec)

/-- ITS FALSE NEIGHBOUR: 'it returns false'. Refute it at one input. -/
def kernelIrqsWrong : ChangeSpec := { name := "kernelIrqs", fn := fun _ => fun
  | [d1, d2] => { results := [.lit (.bool false)], args := [d1, d2] }
  | _ => none }
def KernelIrqsWrongFalsely : Prop := kernelIrqsRow.holds Tryz.pinned (OpenSpec.ofChange kernelIrqsWrong)

/-- 'buttresslaw18.KernelRevokes': WHATEVER THE INPUT: true; the input reads as it did. -/
def kernelRevokesSpec : ChangeSpec := { name := "kernelRevokes", fn := fun _ => fun
  | [d1, d2, d3] => { results := [.lit (.bool true)], args := [d1, d2, d3] }
  | _ => none }
def kernelRevokesRow : OpenClaim := { program := "ytogmbmdbgkopjaagreat", sum := "101afa2a72863c984eed4c5a8102e4a68458738ff9f4118a26d7c0046eff32d0", func := "buttress/buttresslaw18.KernelRevokes", spec := "kernelRevokes", inPlace := ["math/bits.Add64", "slices.overlaps[buttress/tree.leaf]"], unfollowed := true, recurses := true, plainKeys := false, apart := false }
def KernelRevokesSaid : Prop := kernelRevokesRow.holds Tryz.pinned (OpenSpec.ofChange kernelRevokesSpec)

/-- ITS FALSE NEIGHBOUR: 'it returns false'. Refute it at one input. -/
def kernelRevokesWrong : ChangeSpec := { name := "kernelRevokes", fn := fun _ => fun
  | [d1, d2, d3] => { results := [.lit (.bool false)], args := [d1, d2, d3] }
  | _ => none }
def KernelRevokesWrongFalsely : Prop := kernelRevokesRow.holds Tryz.pinned (OpenSpec.ofChange kernelRevokesWrong)

/-- 'buttresslaw18.KernelTree': WHATEVER THE INPUT: true; the input reads as it did. -/
def kernelTreeSpec : ChangeSpec := { name := "kernelTree", fn := fun _ => fun
  | [d1, d2] => { results := [.lit (.bool true)], args := [d1, d2] }
  | _ => none }
def kernelTreeRow : OpenClaim := { program := "ytogmbmdbgkopjaagreat", sum := "101afa2a72863c984eed4c5a8102e4a68458738ff9f4118a26d7c0046eff32d0", func := "buttress/buttresslaw18.KernelTree", spec := "kernelTree", inPlace := ["math/bits.Add64", "slices.overlaps[buttress/tree.leaf]"], unfollowed := true, recurses := true, plainKeys := false, apart := false }
def KernelTreeSaid : Prop := kernelTreeRow.holds Tryz.pinned (OpenSpec.ofChange kernelTreeSpec)

/-- ITS FALSE NEIGHBOUR: 'it returns false'. Refute it at one input. -/
def kernelTreeWrong : ChangeSpec := { name := "kernelTree", fn := fun _ => fun
  | [d1, d2] => { results := [.lit (.bool false)], args := [d1, d2] }
  | _ => none }
def KernelTreeWrongFalsely : Prop := kernelTreeRow.holds Tryz.pinned (OpenSpec.ofChange kernelTreeWrong)

/-- 'buttresslaw18.KernelErrors': WHATEVER THE INPUT: true; the input reads as it did. -/
def kernelErrorsSpec : ChangeSpec := { name := "kernelErrors", fn := fun _ => fun
  | [d1, d2, d3] => { results := [.lit (.bool true)], args := [d1, d2, d3] }
  | _ => none }
def kernelErrorsRow : OpenClaim := { program := "ytogmbmdbgkopjaagreat", sum := "101afa2a72863c984eed4c5a8102e4a68458738ff9f4118a26d7c0046eff32d0", func := "buttress/buttresslaw18.KernelErrors", spec := "kernelErrors", inPlace := ["math/bits.Add64", "slices.overlaps[buttress/tree.leaf]"], unfollowed := true, recurses := true, plainKeys := false, apart := false }
def KernelErrorsSaid : Prop := kernelErrorsRow.holds Tryz.pinned (OpenSpec.ofChange kernelErrorsSpec)

/-- ITS FALSE NEIGHBOUR: 'it returns false'. Refute it at one input. -/
def kernelErrorsWrong : ChangeSpec := { name := "kernelErrors", fn := fun _ => fun
  | [d1, d2, d3] => { results := [.lit (.bool false)], args := [d1, d2, d3] }
  | _ => none }
def KernelErrorsWrongFalsely : Prop := kernelErrorsRow.holds Tryz.pinned (OpenSpec.ofChange kernelErrorsWrong)

/-- 'buttresslaw18.KernelDoes': WHATEVER THE INPUT: true; the input reads as it did. -/
def kernelDoesSpec : ChangeSpec := { name := "kernelDoes", fn := fun _ => fun
  | [d1, d2] => { results := [.lit (.bool true)], args := [d1, d2] }
  | _ => none }
def kernelDoesRow : OpenClaim := { program := "ytogmbmdbgkopjaagreat", sum := "101afa2a72863c984eed4c5a8102e4a68458738ff9f4118a26d7c0046eff32d0", func := "buttress/buttresslaw18.KernelDoes", spec := "kernelDoes", inPlace := ["math/bits.Add64", "slices.overlaps[buttress/tree.leaf]", "maps.clone"], unfollowed := true, recurses := true, plainKeys := false, apart := false }
def KernelDoesSaid : Prop := kernelDoesRow.holds Tryz.pinned (OpenSpec.ofChange kernelDoesSpec)

/-- ITS FALSE NEIGHBOUR: 'it returns false'. Refute it at one input. -/
def kernelDoesWrong : ChangeSpec := { name := "kernelDoes", fn := fun _ => fun
  | [d1, d2] => { results := [.lit (.bool false)], args := [d1, d2] }
  | _ => none }
def KernelDoesWrongFalsely : Prop := kernelDoesRow.holds Tryz.pinned (OpenSpec.ofChange kernelDoesWrong)

/- THE SECOND FORM. 'bulk': how many values and letters a reading holds, each counted each time it is reached (what is shared counts as often as it is met; a slice's spare places count too). A statement '..UptoSaid' is the law's where the arguments, and the package variables that the reading takes, are together of bulk at most 1048576: NARROWER than '..Said'. Prove '..Said' where nothing that the law and all that it calls make is longer than what came in: it says more and counts as full. Else prove '..UptoSaid'. A law counts once. -/
mutual
def uptoBulk {H : Type} : DataW H → Nat
  | .lit (.string bytes) => bytes.length + 1
  | .lit _ => 1
  | .nil => 1
  | .ptr d => uptoBulk d + 1
  | .slice elems spare => uptoBulkAll elems + uptoBulkAll spare + 1
  | .agg parts => uptoBulkAll parts + 1
  | .iface _ d => uptoBulk d + 1
  | .map entries => uptoBulkEntries entries + 1
  | .held _ => 1
def uptoBulkAll {H : Type} : List (DataW H) → Nat
  | [] => 0
  | d :: r => uptoBulk d + uptoBulkAll r
def uptoBulkEntries {H : Type} : List (Lit × DataW H) → Nat
  | [] => 0
  | x :: r => uptoBulkEntry x + uptoBulkEntries r
def uptoBulkEntry {H : Type} : Lit × DataW H → Nat
  | (.string bytes, d) => bytes.length + uptoBulk d + 1
  | (_, d) => uptoBulk d + 1
 end
def uptoSmall : (H : Type) → List (DataW H) → Bool := fun _ ds => decide (uptoBulkAll ds ≤ 1048576)
def OpenSpec.upto (s : _root_.Go.ChangeSpec) : _root_.Go.OpenSpec := { _root_.Go.OpenSpec.ofChange s with cond := some uptoSmall }

/-- 'buttresslaw18.KernelMakes', WHERE WHAT IT READS IS OF BULK AT MOST 1048576: true; the input reads as it did. -/
def kernelMakesUptoRow : OpenClaim := { program := "ytogmbmdbgkopjaagreat", sum := "101afa2a72863c984eed4c5a8102e4a68458738ff9f4118a26d7c0046eff32d0", func := "buttress/buttresslaw18.KernelMakes", spec := "kernelMakes", inPlace := ["math/bits.Add64", "slices.overlaps[buttress/tree.leaf]"], unfollowed := true, recurses := true, plainKeys := false, apart := false, narrowed := true }
def KernelMakesUptoSaid : Prop := kernelMakesUptoRow.holds Tryz.pinned (OpenSpec.upto kernelMakesSpec)

/-- 'buttresslaw18.KernelYields', WHERE WHAT IT READS IS OF BULK AT MOST 1048576: true; the input reads as it did. -/
def kernelYieldsUptoRow : OpenClaim := { program := "ytogmbmdbgkopjaagreat", sum := "101afa2a72863c984eed4c5a8102e4a68458738ff9f4118a26d7c0046eff32d0", func := "buttress/buttresslaw18.KernelYields", spec := "kernelYields", inPlace := ["math/bits.Add64", "slices.overlaps[buttress/tree.leaf]"], unfollowed := true, recurses := true, plainKeys := false, apart := false, narrowed := true }
def KernelYieldsUptoSaid : Prop := kernelYieldsUptoRow.holds Tryz.pinned (OpenSpec.upto kernelYieldsSpec)

/-- 'buttresslaw18.KernelSends', WHERE WHAT IT READS IS OF BULK AT MOST 1048576: true; the input reads as it did. -/
def kernelSendsUptoRow : OpenClaim := { program := "ytogmbmdbgkopjaagreat", sum := "101afa2a72863c984eed4c5a8102e4a68458738ff9f4118a26d7c0046eff32d0", func := "buttress/buttresslaw18.KernelSends", spec := "kernelSends", inPlace := ["math/bits.Add64", "slices.overlaps[buttress/tree.leaf]"], unfollowed := true, recurses := true, plainKeys := false, apart := false, narrowed := true }
def KernelSendsUptoSaid : Prop := kernelSendsUptoRow.holds Tryz.pinned (OpenSpec.upto kernelSendsSpec)

/-- 'buttresslaw18.KernelPages', WHERE WHAT IT READS IS OF BULK AT MOST 1048576: true; the input reads as it did. -/
def kernelPagesUptoRow : OpenClaim := { program := "ytogmbmdbgkopjaagreat", sum := "101afa2a72863c984eed4c5a8102e4a68458738ff9f4118a26d7c0046eff32d0", func := "buttress/buttresslaw18.KernelPages", spec := "kernelPages", inPlace := ["math/bits.Add64", "slices.overlaps[buttress/tree.leaf]"], unfollowed := true, recurses := true, plainKeys := false, apart := false, narrowed := true }
def KernelPagesUptoSaid : Prop := kernelPagesUptoRow.holds Tryz.pinned (OpenSpec.upto kernelPagesSpec)

/-- 'buttresslaw18.KernelMints', WHERE WHAT IT READS IS OF BULK AT MOST 1048576: true; the input reads as it did. -/
def kernelMintsUptoRow : OpenClaim := { program := "ytogmbmdbgkopjaagreat", sum := "101afa2a72863c984eed4c5a8102e4a68458738ff9f4118a26d7c0046eff32d0", func := "buttress/buttresslaw18.KernelMints", spec := "kernelMints", inPlace := ["math/bits.Add64", "slices.overlaps[buttress/tree.leaf]"], unfollowed := true, recurses := true, plainKeys := false, apart := false, narrowed := true }
def KernelMintsUptoSaid : Prop := kernelMintsUptoRow.holds Tryz.pinned (OpenSpec.upto kernelMintsSpec)

/-- 'buttresslaw18.KernelBoots', WHERE WHAT IT READS IS OF BULK AT MOST 1048576: true; the input reads as it did. -/
def kernelBootsUptoRow : OpenClaim := { program := "ytogmbmdbgkopjaagreat", sum := "101afa2a72863c984eed4c5a8102e4a68458738ff9f4118a26d7c0046eff32d0", func := "buttress/buttresslaw18.KernelBoots", spec := "kernelBoots", inPlace := ["math/bits.Add64", "slices.overlaps[buttress/tree.leaf]"], unfollowed := true, recurses := true, plainKeys := false, apart := false, narrowed := true }
def KernelBootsUptoSaid : Prop := kernelBootsUptoRow.holds Tryz.pinned (OpenSpec.upto kernelBootsSpec)

/-- 'buttresslaw18.KernelIrqs', WHERE WHAT IT READS IS OF BULK AT MOST 1048576: true; the input reads as it did. -/
def kernelIrqsUptoRow : OpenClaim := { program := "ytogmbmdbgkopjaagreat", sum := "101afa2a72863c984eed4c5a8102e4a68458738ff9f4118a26d7c0046eff32d0", func := "buttress/buttresslaw18.KernelIrqs", spec := "kernelIrqs", inPlace := ["math/bits.Add64", "slices.overlaps[buttress/tree.leaf]"], unfollowed := true, recurses := true, plainKeys := false, apart := false, narrowed := true }
def KernelIrqsUptoSaid : Prop := kernelIrqsUptoRow.holds Tryz.pinned (OpenSpec.upto kernelIrqsSpec)

/-- 'buttresslaw18.KernelRevokes', WHERE WHAT IT READS IS OF BULK AT MOST 1048576: true; the input reads as it did. -/
def kernelRevokesUptoRow : OpenClaim := { program := "ytogmbmdbgkopjaagreat", sum := "101afa2a72863c984eed4c5a8102e4a68458738ff9f4118a26d7c0046eff32d0", func := "buttress/buttresslaw18.KernelRevokes", spec := "kernelRevokes", inPlace := ["math/bits.Add64", "slices.overlaps[buttress/tree.leaf]"], unfollowed := true, recurses := true, plainKeys := false, apart := false, narrowed := true }
def KernelRevokesUptoSaid : Prop := kernelRevokesUptoRow.holds Tryz.pinned (OpenSpec.upto kernelRevokesSpec)

/-- 'buttresslaw18.KernelTree', WHERE WHAT IT READS IS OF BULK AT MOST 1048576: true; the input reads as it did. -/
def kernelTreeUptoRow : OpenClaim := { program := "ytogmbmdbgkopjaagreat", sum := "101afa2a72863c984eed4c5a8102e4a68458738ff9f4118a26d7c0046eff32d0", func := "buttress/buttresslaw18.KernelTree", spec := "kernelTree", inPlace := ["math/bits.Add64", "slices.overlaps[buttress/tree.leaf]"], unfollowed := true, recurses := true, plainKeys := false, apart := false, narrowed := true }
def KernelTreeUptoSaid : Prop := kernelTreeUptoRow.holds Tryz.pinned (OpenSpec.upto kernelTreeSpec)

/-- 'buttresslaw18.KernelErrors', WHERE WHAT IT READS IS OF BULK AT MOST 1048576: true; the input reads as it did. -/
def kernelErrorsUptoRow : OpenClaim := { program := "ytogmbmdbgkopjaagreat", sum := "101afa2a72863c984eed4c5a8102e4a68458738ff9f4118a26d7c0046eff32d0", func := "buttress/buttresslaw18.KernelErrors", spec := "kernelErrors", inPlace := ["math/bits.Add64", "slices.overlaps[buttress/tree.leaf]"], unfollowed := true, recurses := true, plainKeys := false, apart := false, narrowed := true }
def KernelErrorsUptoSaid : Prop := kernelErrorsUptoRow.holds Tryz.pinned (OpenSpec.upto kernelErrorsSpec)

/-- 'buttresslaw18.KernelDoes', WHERE WHAT IT READS IS OF BULK AT MOST 1048576: true; the input reads as it did. -/
def kernelDoesUptoRow : OpenClaim := { program := "ytogmbmdbgkopjaagreat", sum := "101afa2a72863c984eed4c5a8102e4a68458738ff9f4118a26d7c0046eff32d0", func := "buttress/buttresslaw18.KernelDoes", spec := "kernelDoes", inPlace := ["math/bits.Add64", "slices.overlaps[buttress/tree.leaf]", "maps.clone"], unfollowed := true, recurses := true, plainKeys := false, apart := false, narrowed := true }
def KernelDoesUptoSaid : Prop := kernelDoesUptoRow.holds Tryz.pinned (OpenSpec.upto kernelDoesSpec)

end Rows
end Go.Proofs.YtogmbmdbgkopjaaGreat
