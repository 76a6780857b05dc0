/- Nodes of slots, more: put into, taken out of, moved, swapped. -/
import Derived.Test.YtdlcejjiccknlaaSL2
import Derived.Test.YtdlcejjiccknlaaS5
set_option linter.unusedVariables false
set_option linter.unusedSimpArgs false
set_option maxRecDepth 8000
namespace Go.Proofs.Ytdlcejjiccknlaa
open Go Go.Vc Go.Proofs

theorem NOk.put {bits : List Int} {H : Hs} (h : NOk bits H) {s : Slot} {c : Cap} (h1 : thereB bits s = true) (h2 : capErr c = 0) (h3 : c.kind ≠ 0) (h4 : CapR c) : NOk bits (updH H s (some c)) := by
  refine ⟨h.few, h.rng, fun s' c' hs => ?_⟩
  unfold updH at hs
  split at hs
  · rename_i e; subst e; cases hs; exact ⟨h1, h2, h3, h4⟩
  · exact h.held s' c' hs
theorem NOk.del {bits : List Int} {H : Hs} (h : NOk bits H) (s : Slot) : NOk bits (updH H s none) := by
  refine ⟨h.few, h.rng, fun s' c' hs => ?_⟩
  unfold updH at hs
  split at hs
  · cases hs
  · exact h.held s' c' hs
theorem mget_updH {M : List (Slot × Cap)} {H : Hs} (h : ∀ k, mget M k = H k) (s : Slot) (c : Cap) : ∀ k, mget (aput M s c) k = updH H s (some c) k := fun k => by
  rw [mget_aput, h k]
  unfold updH
  by_cases e : s = k
  · subst e; simp
  · have : ¬ k = s := fun h => e h.symm
    rw [if_neg e, if_neg this]
theorem mget_delH {M : List (Slot × Cap)} {H : Hs} (hn : (M.map (·.1)).Nodup) (h : ∀ k, mget M k = H k) (s : Slot) : ∀ k, mget (adel M s) k = updH H s none k := fun k => by
  rw [mget_adel hn, h k]
  unfold updH
  by_cases e : s = k
  · subst e; simp
  · have : ¬ k = s := fun h => e h.symm
    rw [if_neg e, if_neg this]
theorem _root_.Go.Vc.Own.mnodup {B : Nat} {w0 w : World} {L : List Asn} {m : Nat} {M : List (Slot × Cap)} (h : Own B w0 w L) (i : Nat) (hi : L[i]? = some (slotsA m M)) : (M.map (·.1)).Nodup := (h.take i hi).head fun _ h => h.2.nodup

/-- A capability put into a slot. -/
def putN (bits : List Int) (H : Hs) (s : Slot) (c : Cap) : Int × Hs :=
  if thereB bits s = false then (50, H) else if capErr c ≠ 0 then (capErr c, H) else if c.kind = 0 then (1, H) else if (H s).isSome then (51, H) else (0, updH H s (some c))

section
variable {B : Nat} {w0 w : World} {R L : List Asn} {b : Nat} {bits : List Int} {H : Hs}
theorem slots_Nodes_Put_spec {s : Slot} {c : Cap} {K : Int → World → Prop} (hc : CapR c) (h : Own B w0 w (NodesA b bits H :: R)) (hK : ∀ w', Own B w0 w' (NodesA b bits (putN bits H s c).2 :: R) → K (putN bits H s c).1 w') :
    C.slots_Nodes_Put (some ⟨b, 0, none⟩) s.1 s.2 c.kind c.obj c.rights c.badge c.guard c.bits K w := by
  apply S.slots_Nodes_Put_ok
  unfold S.slots_Nodes_Put
  refine h.al fun w1 h => ?_
  refine h.al fun w2 h => ?_
  have h : Own B w0 w2 (BlkA w1.heap.size c.cells :: BlkA w.heap.size [.int .i64 s.1, .int .i64 s.2] :: NodesA b bits H :: R) := h
  refine h.ld_6 0 rfl rfl ?_
  refine caps_Check_spec h hc fun w3 h => ?_
  intro k20 hk20
  refine h.dr fun w4 h => ?_
  have h : Own B w0 w4 (NodesA b bits H :: BlkA w1.heap.size c.cells :: BlkA w.heap.size [.int .i64 s.1, .int .i64 s.2] :: R) := h.take 2 rfl
  have hn := h
  obtain ⟨x, hk, hM, h⟩ := h.nodes
  refine ⟨_, rfl, some x.m, h.ld 0 rfl rfl, ?_⟩
  refine h.ld_2 4 rfl rfl ?_
  refine look2 (k := fun _ b w => k20 b w) h 2 rfl (H s) (hM s) fun w5 h => ?_
  apply hk20
  have h : Own B w0 w5 (NodesA b bits H :: BlkA w1.heap.size c.cells :: BlkA w.heap.size [.int .i64 s.1, .int .i64 s.2] :: R) := Own.mk_nodes hk hM h.drop
  refine h.ld_2 2 rfl rfl ?_
  refine slots_Nodes_there_spec h 0 rfl fun w6 h => ?_
  have fail : ∀ e : Int, putN bits H s c = (e, H) → K e w6 := fun e he => by
    rw [he] at hK
    have h1 : Own B w0 w6 (BlkA w.heap.size [.int .i64 s.1, .int .i64 s.2] :: NodesA b bits H :: BlkA w1.heap.size c.cells :: R) := h.take 2 rfl
    exact hK w6 ((h1.drop.perm (List.Perm.swap _ _ _)).drop)
  cases ht : thereB bits s with
  | false =>
    rw [Bool.not_false, cond_true]
    exact fail 50 (by unfold putN; rw [if_pos ht])
  | true =>
    have ht' : ¬ thereB bits s = false := by rw [ht]; decide
    rw [Bool.not_true, cond_false]
    by_cases e1 : capErr c = 0
    · rw [show (capErr c != 0) = false from by simpa using e1, cond_false]
      refine ⟨c.kind, h.ld0 1 rfl rfl, ?_⟩
      by_cases e2 : c.kind = 0
      · rw [show (c.kind == 0) = true from by simpa using e2, cond_true]
        exact fail 1 (by unfold putN; rw [if_neg ht', if_neg (by simpa using e1), if_pos e2])
      · rw [show (c.kind == 0) = false from by simpa using e2, cond_false]
        cases e3 : (H s).isSome with
        | true =>
          rw [cond_true]
          exact fail 51 (by unfold putN; rw [if_neg ht', if_neg (by simpa using e1), if_neg e2, if_pos e3])
        | false =>
          rw [cond_false]
          have ep : putN bits H s c = (0, updH H s (some c)) := by unfold putN; rw [if_neg ht', if_neg (by simpa using e1), if_neg e2, if_neg (by rw [e3]; decide)]
          rw [ep] at hK
          refine h.dr fun w7 h => ?_
          obtain ⟨x, hk, hM, h⟩ := h.nodes
          refine ⟨_, rfl, some x.m, h.ld 0 rfl rfl, ?_⟩
          refine h.ld_2 4 rfl rfl ?_
          refine h.ld_6 3 rfl rfl ?_
          refine ⟨?_, trivial⟩
          refine h.mput (enc := encPair) (encV := encCap) (k := s) (v := c) Try.underlying82 keySlot 2 rfl fun w8 h => ?_
          have h1 := Own.mk_nodes (hk.put ht e1 e2 hc) (mget_updH hM s c) h
          have h2 : Own B w0 w8 (BlkA w.heap.size [.int .i64 s.1, .int .i64 s.2] :: NodesA b bits (updH H s (some c)) :: BlkA w1.heap.size c.cells :: R) := h1.take 2 rfl
          exact hK w8 ((h2.drop.perm (List.Perm.swap _ _ _)).drop)
    · rw [show (capErr c != 0) = true from by simpa using e1, cond_true]
      exact fail (capErr c) (by unfold putN; rw [if_neg ht', if_pos e1])

/-- A capability taken out. -/
theorem slots_Nodes_Take_spec {s : Slot} {K : Int → Int → Int → Int → Int → Int → Int → World → Prop} (h : Own B w0 w (NodesA b bits H :: R))
    (h1 : thereB bits s = false → ∀ w', Own B w0 w' (NodesA b bits H :: R) → K 0 0 0 0 0 0 50 w')
    (h2 : thereB bits s = true → H s = none → ∀ w', Own B w0 w' (NodesA b bits H :: R) → K 0 0 0 0 0 0 52 w')
    (h3 : thereB bits s = true → ∀ c, H s = some c → ∀ w', Own B w0 w' (NodesA b bits (updH H s none) :: R) → K c.kind c.obj c.rights c.badge c.guard c.bits 0 w') : C.slots_Nodes_Take (some ⟨b, 0, none⟩) s.1 s.2 K w := by
  apply S.slots_Nodes_Take_ok
  unfold S.slots_Nodes_Take
  refine h.al fun w1 h => ?_
  refine h.al fun w2 h => ?_
  have h : Own B w0 w2 (BlkA w1.heap.size zeroCap.cells :: BlkA w.heap.size [.int .i64 s.1, .int .i64 s.2] :: NodesA b bits H :: R) := h
  intro k6 hk6
  refine h.dr fun w3 h => ?_
  have h : Own B w0 w3 (NodesA b bits H :: BlkA w1.heap.size zeroCap.cells :: BlkA w.heap.size [.int .i64 s.1, .int .i64 s.2] :: R) := h.take 2 rfl
  obtain ⟨x, hk, hM, h⟩ := h.nodes
  refine ⟨_, rfl, some x.m, h.ld 0 rfl rfl, ?_⟩
  refine h.ld_2 4 rfl rfl ?_
  refine look2 (k := fun a b w => k6 a b w) h 2 rfl (H s) (hM s) fun w4 h => ?_
  apply hk6
  have h : Own B w0 w4 (NodesA b bits H :: BlkA w1.heap.size zeroCap.cells :: BlkA w.heap.size [.int .i64 s.1, .int .i64 s.2] :: BlkA w3.heap.size ((H s).getD zeroCap).cells :: R) := by
    have h5 := Own.mk_nodes hk hM h.drop
    have h6 : Own B w0 w4 (BlkA w3.heap.size ((H s).getD zeroCap).cells :: BlkA b [slV x.s, .map (some x.m)] :: SlT intE x.s bits :: slotsA x.m x.M :: (BlkA w1.heap.size zeroCap.cells :: BlkA w.heap.size [.int .i64 s.1, .int .i64 s.2] :: R)) := h
    have h7 : Own B w0 w4 (BlkA b [slV x.s, .map (some x.m)] :: SlT intE x.s bits :: slotsA x.m x.M :: (BlkA w1.heap.size zeroCap.cells :: BlkA w.heap.size [.int .i64 s.1, .int .i64 s.2] :: BlkA w3.heap.size ((H s).getD zeroCap).cells :: R)) := by
      refine h6.perm ?_
      have p : ∀ (a b c d e f : Asn) (R : List Asn), (a :: b :: c :: d :: e :: f :: R).Perm (b :: c :: d :: e :: f :: a :: R) := fun a b c d e f R => by
        refine (List.Perm.swap _ _ _).trans (List.Perm.cons _ ?_)
        refine (List.Perm.swap _ _ _).trans (List.Perm.cons _ ?_)
        refine (List.Perm.swap _ _ _).trans (List.Perm.cons _ ?_)
        refine (List.Perm.swap _ _ _).trans (List.Perm.cons _ ?_)
        exact List.Perm.swap _ _ _
      exact p _ _ _ _ _ _ _
    exact Own.mk_nodes hk hM h7
  have fin : ∀ w' H', Own B w0 w' (NodesA b bits H' :: BlkA w1.heap.size zeroCap.cells :: BlkA w.heap.size [.int .i64 s.1, .int .i64 s.2] :: BlkA w3.heap.size ((H s).getD zeroCap).cells :: R) → Own B w0 w' (NodesA b bits H' :: R) := fun w' H' h => by
    have g1 : Own B w0 w' (BlkA w1.heap.size zeroCap.cells :: NodesA b bits H' :: BlkA w.heap.size [.int .i64 s.1, .int .i64 s.2] :: BlkA w3.heap.size ((H s).getD zeroCap).cells :: R) := h.perm (List.Perm.swap _ _ _)
    exact ((g1.drop.perm (List.Perm.swap _ _ _)).drop.perm (List.Perm.swap _ _ _)).drop
  refine h.ld_2 2 rfl rfl ?_
  refine slots_Nodes_there_spec h 0 rfl fun w5 h => ?_
  cases ht : thereB bits s with
  | false =>
    rw [Bool.not_false, cond_true]
    refine h.stL 1 rfl rfl rfl fun w6 h => ?_
    refine h.ld_6 1 rfl rfl ?_
    exact h1 ht w6 (fin _ _ h)
  | true =>
    rw [Bool.not_true, cond_false]
    cases hs : H s with
    | none =>
      rw [Option.isSome_none, Bool.not_false, cond_true]
      refine h.stL 1 rfl rfl rfl fun w6 h => ?_
      refine h.ld_6 1 rfl rfl ?_
      exact h2 ht hs w6 (fin _ _ h)
    | some c =>
      rw [Option.isSome_some, Bool.not_true, cond_false]
      refine h.dr fun w6 h => ?_
      obtain ⟨x, hk, hM, h⟩ := h.nodes
      have hnd := h.mnodup 2 rfl
      refine ⟨_, rfl, some x.m, h.ld 0 rfl rfl, ?_⟩
      refine h.ld_2 4 rfl rfl ?_
      refine ⟨?_, trivial⟩
      refine h.mdel (enc := encPair) (encV := encCap) (k := s) Try.underlying82 keySlot 2 rfl fun w7 h => ?_
      have h := Own.mk_nodes (hk.del s) (mget_delH hnd hM s) h
      have hcell : ((H s).getD zeroCap).cells = c.cells := by rw [hs]; rfl
      rw [hcell] at h fin
      refine h.ld_6 3 rfl rfl ?_
      refine h.stL 1 rfl rfl rfl fun w8 h => ?_
      refine h.ld_6 1 rfl rfl ?_
      have h : Own B w0 w8 (NodesA b bits (updH H s none) :: BlkA w1.heap.size c.cells :: BlkA w.heap.size [.int .i64 s.1, .int .i64 s.2] :: BlkA w3.heap.size c.cells :: R) := h
      have g1 : Own B w0 w8 (BlkA w1.heap.size c.cells :: NodesA b bits (updH H s none) :: BlkA w.heap.size [.int .i64 s.1, .int .i64 s.2] :: BlkA w3.heap.size c.cells :: R) := h.perm (List.Perm.swap _ _ _)
      exact h3 ht c hs w8 (((g1.drop.perm (List.Perm.swap _ _ _)).drop.perm (List.Perm.swap _ _ _)).drop)
end
end Go.Proofs.Ytdlcejjiccknlaa
