/- Nodes of slots, more: moved, swapped, dropped. -/
import Derived.Test.YtdlcejjiccknlaaSL3
import Derived.Test.YtdlcejjiccknlaaS5
set_option linter.unusedVariables false
set_option linter.unusedSimpArgs false
set_option maxRecDepth 8000
namespace Go.Proofs.Ytdlcejjiccknlaa
open Go Go.Vc Go.Proofs

section
variable {B : Nat} {w0 w : World} {R L : List Asn} {b : Nat} {bits : List Int} {H : Hs}
theorem slots_Nodes_set_spec {s : Slot} {c : Cap} {is : Bool} {K : World → Prop} (h : Own B w0 w (NodesA b bits H :: R)) (hc : is = true → thereB bits s = true ∧ capErr c = 0 ∧ c.kind ≠ 0 ∧ CapR c)
    (hK : ∀ w', Own B w0 w' (NodesA b bits (updH H s (if is then some c else none)) :: R) → K w') : C.slots_Nodes_set (some ⟨b, 0, none⟩) s.1 s.2 c.kind c.obj c.rights c.badge c.guard c.bits is K w := by
  apply S.slots_Nodes_set_ok
  unfold S.slots_Nodes_set
  refine h.al fun w1 h => ?_
  refine h.al fun w2 h => ?_
  have h : Own B w0 w2 (NodesA b bits H :: BlkA w1.heap.size c.cells :: BlkA w.heap.size [.int .i64 s.1, .int .i64 s.2] :: R) := h.take 2 rfl
  have fin : ∀ w' H', Own B w0 w' (NodesA b bits H' :: BlkA w1.heap.size c.cells :: BlkA w.heap.size [.int .i64 s.1, .int .i64 s.2] :: R) → Own B w0 w' (NodesA b bits H' :: R) := fun w' H' h => by
    have g1 : Own B w0 w' (BlkA w1.heap.size c.cells :: NodesA b bits H' :: BlkA w.heap.size [.int .i64 s.1, .int .i64 s.2] :: R) := h.perm (List.Perm.swap _ _ _)
    exact (g1.drop.perm (List.Perm.swap _ _ _)).drop
  cases is with
  | true =>
    obtain ⟨c1, c2, c3, c4⟩ := hc rfl
    rw [cond_true]
    refine h.dr fun w3 h => ?_
    obtain ⟨x, hk, hM, h⟩ := h.nodes
    refine ⟨_, rfl, some x.m, h.ld 0 rfl rfl, ?_⟩
    refine h.ld_2 4 rfl rfl ?_
    refine h.ld_6 3 rfl rfl ?_
    refine ⟨?_, trivial⟩
    refine h.mput (enc := encPair) (encV := encCap) (k := s) (v := c) Try.underlying82 keySlot 2 rfl fun w4 h => ?_
    exact hK w4 (fin _ _ (Own.mk_nodes (hk.put c1 c2 c3 c4) (mget_updH hM s c) h))
  | false =>
    rw [cond_false]
    refine h.dr fun w3 h => ?_
    obtain ⟨x, hk, hM, h⟩ := h.nodes
    have hnd := h.mnodup 2 rfl
    refine ⟨_, rfl, some x.m, h.ld 0 rfl rfl, ?_⟩
    refine h.ld_2 4 rfl rfl ?_
    refine ⟨?_, trivial⟩
    refine h.mdel (enc := encPair) (encV := encCap) (k := s) Try.underlying82 keySlot 2 rfl fun w4 h => ?_
    exact hK w4 (fin _ _ (Own.mk_nodes (hk.del s) (mget_delH hnd hM s) h))

/-- A slot's capability moved. -/
def moveN (bits : List Int) (H : Hs) (f t : Slot) : Int × Hs :=
  if thereB bits f = false ∨ thereB bits t = false then (50, H) else match H f with | none => (52, H) | some c => if (H t).isSome then (51, H) else (0, updH (updH H f none) t (some c))
theorem slots_Nodes_Move_spec {f t : Slot} {K : Int → World → Prop} (h : Own B w0 w (NodesA b bits H :: R)) (hK : ∀ w', Own B w0 w' (NodesA b bits (moveN bits H f t).2 :: R) → K (moveN bits H f t).1 w') :
    C.slots_Nodes_Move (some ⟨b, 0, none⟩) f.1 f.2 t.1 t.2 K w := by
  apply S.slots_Nodes_Move_ok
  unfold S.slots_Nodes_Move
  refine h.al fun w1 h => ?_
  refine h.al fun w2 h => ?_
  have h : Own B w0 w2 (NodesA b bits H :: BlkA w1.heap.size [.int .i64 t.1, .int .i64 t.2] :: BlkA w.heap.size [.int .i64 f.1, .int .i64 f.2] :: R) := h.take 2 rfl
  intro k8 hk8
  refine h.dr fun w3 h => ?_
  obtain ⟨x, hk, hM, h⟩ := h.nodes
  refine ⟨_, rfl, some x.m, h.ld 0 rfl rfl, ?_⟩
  refine h.ld_2 4 rfl rfl ?_
  refine look2 (k := fun a b w => k8 a b w) h 2 rfl (H f) (hM f) fun w4 h => ?_
  apply hk8
  intro k12 hk12
  have h : Own B w0 w4 (BlkA w3.heap.size ((H f).getD zeroCap).cells :: NodesA b bits H :: BlkA w1.heap.size [.int .i64 t.1, .int .i64 t.2] :: BlkA w.heap.size [.int .i64 f.1, .int .i64 f.2] :: R) := by
    have p : ∀ (a b c d : Asn) (R : List Asn), (a :: b :: c :: d :: R).Perm (b :: c :: d :: a :: R) := fun a b c d R => by
      refine (List.Perm.swap _ _ _).trans (List.Perm.cons _ ?_)
      refine (List.Perm.swap _ _ _).trans (List.Perm.cons _ ?_)
      exact List.Perm.swap _ _ _
    have q : ∀ (a b c d : Asn) (R : List Asn), (a :: b :: c :: d :: R).Perm (a :: d :: b :: c :: R) := fun a b c d R => by
      refine List.Perm.cons _ ?_
      refine (List.Perm.cons _ (List.Perm.swap _ _ _)).trans ?_
      exact List.Perm.swap _ _ _
    have h5 := Own.mk_nodes hk hM (h.perm (p _ _ _ _ _))
    exact h5.perm (List.Perm.swap _ _ _)
  refine h.dr fun w5 h => ?_
  have h := h.perm (List.Perm.swap _ _ _)
  obtain ⟨x, hk, hM, h⟩ := h.nodes
  refine ⟨_, rfl, some x.m, h.ld 0 rfl rfl, ?_⟩
  refine h.ld_2 4 rfl rfl ?_
  refine look2 (k := fun a b w => k12 b w) h 2 rfl (H t) (hM t) fun w6 h => ?_
  apply hk12
  have h : Own B w0 w6 (NodesA b bits H :: BlkA w3.heap.size ((H f).getD zeroCap).cells :: BlkA w1.heap.size [.int .i64 t.1, .int .i64 t.2] :: BlkA w.heap.size [.int .i64 f.1, .int .i64 f.2] :: R) := Own.mk_nodes hk hM h.drop
  have fin : ∀ w' H', Own B w0 w' (NodesA b bits H' :: BlkA w3.heap.size ((H f).getD zeroCap).cells :: BlkA w1.heap.size [.int .i64 t.1, .int .i64 t.2] :: BlkA w.heap.size [.int .i64 f.1, .int .i64 f.2] :: R) → Own B w0 w' (NodesA b bits H' :: R) := fun w' H' h => by
    have g1 : Own B w0 w' (BlkA w3.heap.size ((H f).getD zeroCap).cells :: NodesA b bits H' :: BlkA w1.heap.size [.int .i64 t.1, .int .i64 t.2] :: BlkA w.heap.size [.int .i64 f.1, .int .i64 f.2] :: R) := h.perm (List.Perm.swap _ _ _)
    exact ((g1.drop.perm (List.Perm.swap _ _ _)).drop.perm (List.Perm.swap _ _ _)).drop
  intro k15 hk15
  have none' : ∀ w', (thereB bits f = false ∨ thereB bits t = false) → Own B w0 w' (NodesA b bits H :: BlkA w3.heap.size ((H f).getD zeroCap).cells :: BlkA w1.heap.size [.int .i64 t.1, .int .i64 t.2] :: BlkA w.heap.size [.int .i64 f.1, .int .i64 f.2] :: R) → k15 true w' := fun w' hn h => by
    apply hk15
    rw [cond_true]
    have e : moveN bits H f t = (50, H) := by unfold moveN; rw [if_pos hn]
    rw [e] at hK
    exact hK w' (fin _ _ h)
  refine h.ld_2 3 rfl rfl ?_
  refine slots_Nodes_there_spec h 0 rfl fun w7 h => ?_
  cases hf : thereB bits f with
  | false => rw [Bool.not_false, cond_true]; exact none' w7 (.inl hf) h
  | true =>
    rw [Bool.not_true, cond_false]
    refine h.ld_2 2 rfl rfl ?_
    refine slots_Nodes_there_spec h 0 rfl fun w8 h => ?_
    cases ht : thereB bits t with
    | false => exact none' w8 (.inr ht) h
    | true =>
      rw [Bool.not_true]
      apply hk15
      rw [cond_false]
      have hn : ¬ (thereB bits f = false ∨ thereB bits t = false) := by rw [hf, ht]; decide
      cases hs : H f with
      | none =>
        rw [Option.isSome_none, Bool.not_false, cond_true]
        have e : moveN bits H f t = (52, H) := by unfold moveN; rw [if_neg hn, hs]
        rw [e] at hK
        exact hK w8 (fin _ _ h)
      | some c =>
        rw [Option.isSome_some, Bool.not_true, cond_false]
        cases hto : (H t).isSome with
        | true =>
          rw [cond_true]
          have e : moveN bits H f t = (51, H) := by unfold moveN; rw [if_neg hn, hs]; simp only [hto, if_true]
          rw [e] at hK
          exact hK w8 (fin _ _ h)
        | false =>
          rw [cond_false]
          have e : moveN bits H f t = (0, updH (updH H f none) t (some c)) := by unfold moveN; rw [if_neg hn, hs]; simp [hto]
          rw [e] at hK
          have hcell : ((H f).getD zeroCap).cells = c.cells := by rw [hs]; rfl
          rw [hcell] at h fin
          refine h.dr fun w9 h => ?_
          obtain ⟨x, hk, hM, h⟩ := h.nodes
          have hnd := h.mnodup 2 rfl
          obtain ⟨g1, g2, g3, g4⟩ := hk.held f c hs
          refine ⟨_, rfl, some x.m, h.ld 0 rfl rfl, ?_⟩
          refine h.ld_2 5 rfl rfl ?_
          refine ⟨?_, trivial⟩
          refine h.mdel (enc := encPair) (encV := encCap) (k := f) Try.underlying82 keySlot 2 rfl fun w10 h => ?_
          refine h.dr fun w11 h => ?_
          refine ⟨_, rfl, some x.m, h.ld 0 rfl rfl, ?_⟩
          refine h.ld_2 4 rfl rfl ?_
          refine h.ld_6 3 rfl rfl ?_
          refine ⟨?_, trivial⟩
          refine h.mput (enc := encPair) (encV := encCap) (k := t) (v := c) Try.underlying82 keySlot 2 rfl fun w12 h => ?_
          exact hK w12 (fin _ _ (Own.mk_nodes ((hk.del f).put ht g2 g3 g4) (mget_updH (mget_delH hnd hM f) t c) h))
end
end Go.Proofs.Ytdlcejjiccknlaa
