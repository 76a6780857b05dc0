/- The law of copies of layer 9: its contract. -/
import Derived.Test.YtimicibeljkjnaaL4
import Derived.Test.YtimicibeljkjnaaQ2
set_option linter.unusedVariables false
set_option linter.unusedSimpArgs false
namespace Go.Proofs.Ytimicibeljkjnaa
open Go Go.Vc Go.Proofs

section
variable {B : Nat} {w0 w : World} {R : List Asn} {b : Nat} {L : Qs}

theorem turnR_len (L : Qs) : (turnR L).2.length ≤ L.length + 1 := by
  unfold turnR
  split
  · simp
  · split
    · have := List.length_filter_le (fun x : Nat × Int => x.2 != ‹Int›) L
      simp only [List.length_append, List.length_cons, List.length_nil]; omega
    · simp

theorem law09_ReadyApart_spec {l1 : Sl} {ops : Ops} {o2 o3 o4 : Int} {K : Bool → World → Prop} (hi : Inp opE w0 l1 ops) (hg : ∀ x ∈ ops, opGood x) (w2 : (Lit.int .i64 o2).wf = true) (w3 : (Lit.int .i64 o3).wf = true) (w4 : (Lit.int .i64 o4).wf = true)
    (h : Own w0.heap.size w0 w []) (hK : ∀ w', Own w0.heap.size w0 w' [] → K true w') : C.law09_ReadyApart l1 o2 o3 o4 K w := by
  apply S.law09_ReadyApart_ok
  unfold S.law09_ReadyApart
  refine h.al fun w1 h => ?_
  refine ready_New_spec h fun b w2 h => ?_
  rw [Option.isNone_some, cond_false]
  intro l5 hl5
  refine fill_spec (lim := 40) (b := b) hi h (by decide) (fun w1 L hlen h => ?_) hl5
  refine ready_Queue_Copy_spec h fun b' w2 h => ?_
  rw [Option.isNone_some, cond_false]
  refine ⟨_, rfl, ?_⟩
  refine ready_lines_Bits_spec h fun b1 b2 b3 b4 w3 hb h => ?_
  refine h.al fun w4 h => ?_
  simp only [add_mk, Nat.zero_add]
  refine h.st 0 rfl rfl rfl fun w5 h => ?_
  refine h.st 0 rfl rfl rfl fun w6 h => ?_
  refine h.st 0 rfl rfl rfl fun w7 h => ?_
  refine h.st 0 rfl rfl rfl fun w8 h => ?_
  have h : Own w0.heap.size w0 w8 (BlkA w3.heap.size [.int .u64 b1, .int .u64 b2, .int .u64 b3, .int .u64 b4] :: QueueA b' L :: QueueA b L :: BlkA w.heap.size [.int .i64 o2, .int .i64 o3, .int .i64 o4] :: []) := h
  refine ready_Queue_Next_spec (h.perm (List.Perm.swap _ _ _)) fun w9 h => ?_
  refine ⟨o3, h.ld0 3 rfl rfl, o4, h.ld0 3 rfl rfl, ?_⟩
  have h : Own w0.heap.size w0 w9 (QueueA b L :: QueueA b' L :: BlkA w3.heap.size [.int .u64 b1, .int .u64 b2, .int .u64 b3, .int .u64 b4] :: BlkA w.heap.size [.int .i64 o2, .int .i64 o3, .int .i64 o4] :: []) := h.take 2 rfl
  refine ready_Queue_Put_spec h (by omega) fun w10 h => ?_
  refine ready_Queue_Turn_spec h fun w11 h => ?_
  refine ready_Queue_Take_spec h fun w12 h => ?_
  refine ready_Queue_Next_spec (h.perm (List.Perm.swap _ _ _)) fun w13 h => ?_
  refine h.dr fun w14 h => ?_
  refine ⟨_, rfl, ?_, ?_, trivial⟩
  · refine ⟨b1, h.ld0 2 rfl rfl, b2, h.ld0 2 rfl rfl, b3, h.ld0 2 rfl rfl, b4, h.ld0 2 rfl rfl, ?_, trivial⟩
    refine ready_lines_Bits_spec h fun c1 c2 c3 c4 w15 hc h => ?_
    refine ⟨true, bits_eq true ⟨fun _ => hb.uniq hc, fun _ => rfl⟩, ?_⟩
    rw [cond_true, beq_self_eq_true, cond_true, beq_self_eq_true, cond_true]
    exact ⟨law09_fixed_spec h fun w16 h => hK w16 h.drop.drop.drop.drop, trivial⟩
  · refine ready_lines_Bits_spec h fun c1 c2 c3 c4 w15 hc h => ?_
    refine ⟨b1, h.ld0 2 rfl rfl, b2, h.ld0 2 rfl rfl, b3, h.ld0 2 rfl rfl, b4, h.ld0 2 rfl rfl, ?_⟩
    refine ⟨true, bits_eq true ⟨fun _ => hb.uniq hc, fun _ => rfl⟩, ?_⟩
    rw [cond_true, beq_self_eq_true, cond_true, beq_self_eq_true, cond_true]
    exact ⟨law09_fixed_spec h fun w16 h => hK w16 h.drop.drop.drop.drop, trivial⟩
end
end Go.Proofs.Ytimicibeljkjnaa
