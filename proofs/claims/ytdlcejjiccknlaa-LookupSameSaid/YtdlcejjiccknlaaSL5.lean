/- Nodes of slots, more: swapped, dropped. -/
import Derived.Test.YtdlcejjiccknlaaSL4
import Derived.Test.YtdlcejjiccknlaaS5
set_option linter.unusedVariables false
set_option linter.unusedSimpArgs false
set_option maxRecDepth 8000
namespace Go.Proofs.Ytdlcejjiccknlaa
open Go Go.Vc Go.Proofs

theorem mem_erase' {α : Type} : ∀ {l : List α} {j : Nat} {k q : α}, l.Nodup → l[j]? = some k → (q ∈ l.eraseIdx j ↔ q ∈ l ∧ q ≠ k)
  | [], j, k, q, _, h => by simp at h
  | a :: l, 0, k, q, hn, h => by
    simp only [List.getElem?_cons_zero, Option.some.injEq] at h
    subst h
    rw [List.nodup_cons] at hn
    rw [List.eraseIdx_cons_zero, List.mem_cons]
    constructor
    · intro hq; exact ⟨.inr hq, fun e => hn.1 (e ▸ hq)⟩
    · rintro ⟨hq | hq, hne⟩
      · exact absurd hq hne
      · exact hq
  | a :: l, j + 1, k, q, hn, h => by
    rw [List.nodup_cons] at hn
    rw [List.getElem?_cons_succ] at h
    have hak : a ≠ k := fun e => hn.1 (e ▸ List.mem_of_getElem? h)
    rw [List.eraseIdx_cons_succ, List.mem_cons, List.mem_cons, mem_erase' hn.2 h]
    constructor
    · rintro (rfl | ⟨h1, h2⟩)
      · exact ⟨.inl rfl, hak⟩
      · exact ⟨.inr h1, h2⟩
    · rintro ⟨rfl | h1, h2⟩
      · exact .inl rfl
      · exact .inr ⟨h1, h2⟩
/-- Two slots swapped. -/
def swapN (bits : List Int) (H : Hs) (a c : Slot) : Int × Hs := if thereB bits a = false ∨ thereB bits c = false then (50, H) else (0, updH (updH H a (H c)) c (H a))
/-- A node that has something. -/
def busyN (H : Hs) (n : Int) : Prop := ∃ i c, H (n, i) = some c
theorem sizeN_set {bits : List Int} {n k : Int} (hn : 0 ≤ n) (h : k ≠ n) : sizeN (bits.set n.toNat (-1)) k = sizeN bits k := by
  unfold sizeN
  by_cases e : k < 0
  · rw [if_pos e, if_pos e]
  · rw [if_neg e, if_neg e, List.getElem?_set, if_neg (by omega)]
theorem NOk.drop {bits : List Int} {H : Hs} (h : NOk bits H) {n : Int} (hn : 0 ≤ n) (hb : ¬ busyN H n) : NOk (bits.set n.toNat (-1)) H := by
  refine ⟨by rw [List.length_set]; exact h.few, fun z hz => ?_, fun s c hs => ?_⟩
  · rcases List.mem_or_eq_of_mem_set hz with hz | hz
    · exact h.rng z hz
    · exact .inl hz
  · obtain ⟨g1, g2⟩ := h.held s c hs
    refine ⟨?_, g2⟩
    have hne : s.1 ≠ n := fun e => hb ⟨s.2, c, by rw [← e]; exact hs⟩
    unfold thereB
    rw [sizeN_set hn hne]
    exact g1

section
variable {B : Nat} {w0 w : World} {R L : List Asn} {b : Nat} {bits : List Int} {H : Hs}
theorem slots_Nodes_Swap_spec {a c : Slot} {K : Int → World → Prop} (h : Own B w0 w (NodesA b bits H :: R)) (hK : ∀ w', Own B w0 w' (NodesA b bits (swapN bits H a c).2 :: R) → K (swapN bits H a c).1 w') :
    C.slots_Nodes_Swap (some ⟨b, 0, none⟩) a.1 a.2 c.1 c.2 K w := by
  apply S.slots_Nodes_Swap_ok
  unfold S.slots_Nodes_Swap
  refine h.al fun w1 h => ?_
  refine h.al fun w2 h => ?_
  have h : Own B w0 w2 (NodesA b bits H :: BlkA w1.heap.size [.int .i64 c.1, .int .i64 c.2] :: BlkA w.heap.size [.int .i64 a.1, .int .i64 a.2] :: R) := h.take 2 rfl
  have fin : ∀ w' H', Own B w0 w' (NodesA b bits H' :: BlkA w1.heap.size [.int .i64 c.1, .int .i64 c.2] :: BlkA w.heap.size [.int .i64 a.1, .int .i64 a.2] :: R) → Own B w0 w' (NodesA b bits H' :: R) := fun w' H' h => by
    have g1 : Own B w0 w' (BlkA w1.heap.size [.int .i64 c.1, .int .i64 c.2] :: NodesA b bits H' :: BlkA w.heap.size [.int .i64 a.1, .int .i64 a.2] :: R) := h.perm (List.Perm.swap _ _ _)
    exact (g1.drop.perm (List.Perm.swap _ _ _)).drop
  intro k8 hk8
  have none' : ∀ w', (thereB bits a = false ∨ thereB bits c = false) → Own B w0 w' (NodesA b bits H :: BlkA w1.heap.size [.int .i64 c.1, .int .i64 c.2] :: BlkA w.heap.size [.int .i64 a.1, .int .i64 a.2] :: R) → k8 true w' := fun w' hn h => by
    apply hk8
    rw [cond_true]
    have e : swapN bits H a c = (50, H) := by unfold swapN; rw [if_pos hn]
    rw [e] at hK
    exact hK w' (fin _ _ h)
  refine h.ld_2 2 rfl rfl ?_
  refine slots_Nodes_there_spec h 0 rfl fun w3 h => ?_
  cases hf : thereB bits a with
  | false => rw [Bool.not_false, cond_true]; exact none' w3 (.inl hf) h
  | true =>
    rw [Bool.not_true, cond_false]
    refine h.ld_2 1 rfl rfl ?_
    refine slots_Nodes_there_spec h 0 rfl fun w4 h => ?_
    cases ht : thereB bits c with
    | false => exact none' w4 (.inr ht) h
    | true =>
      rw [Bool.not_true]
      apply hk8
      rw [cond_false]
      have hn : ¬ (thereB bits a = false ∨ thereB bits c = false) := by rw [hf, ht]; decide
      have e : swapN bits H a c = (0, updH (updH H a (H c)) c (H a)) := by unfold swapN; rw [if_neg hn]
      rw [e] at hK
      have hk0 := h.nok
      intro k11 hk11
      refine h.dr fun w5 h => ?_
      obtain ⟨x, hk, hM, h⟩ := h.nodes
      refine ⟨_, rfl, some x.m, h.ld 0 rfl rfl, ?_⟩
      refine h.ld_2 4 rfl rfl ?_
      refine look2 (k := fun p q w => k11 p q w) h 2 rfl (H a) (hM a) fun w6 h => ?_
      apply hk11
      intro k15 hk15
      refine h.dr fun w7 h => ?_
      refine ⟨_, rfl, some x.m, h.ld 1 rfl rfl, ?_⟩
      refine h.ld_2 4 rfl rfl ?_
      refine look2 (k := fun p q w => k15 p q w) h 3 rfl (H c) (hM c) fun w8 h => ?_
      apply hk15
      have h : Own B w0 w8 (NodesA b bits H :: BlkA w7.heap.size ((H c).getD zeroCap).cells :: BlkA w5.heap.size ((H a).getD zeroCap).cells :: BlkA w1.heap.size [.int .i64 c.1, .int .i64 c.2] :: BlkA w.heap.size [.int .i64 a.1, .int .i64 a.2] :: R) := by
        have p : ∀ (a b c d e : Asn) (R : List Asn), (a :: b :: c :: d :: e :: R).Perm (c :: d :: e :: a :: b :: R) := fun a b c d e R => by
          have : (([a, b] ++ [c, d, e]) ++ R).Perm (([c, d, e] ++ [a, b]) ++ R) := List.perm_append_comm.append_right R
          exact this
        exact Own.mk_nodes hk hM (h.perm (p _ _ _ _ _ _))
      refine h.ld_2 4 rfl rfl ?_
      refine h.ld_6 1 rfl rfl ?_
      have good : ∀ s o, H s = o → o.isSome = true → capErr (o.getD zeroCap) = 0 ∧ (o.getD zeroCap).kind ≠ 0 ∧ CapR (o.getD zeroCap) := fun s o ho hs => by
        cases o with
        | none => cases hs
        | some v => obtain ⟨_, g⟩ := hk0.held s v ho; exact g
      have back : ∀ o : Option Cap, (if o.isSome then some (o.getD zeroCap) else none) = o := fun o => by cases o <;> rfl
      refine slots_Nodes_set_spec (c := (H c).getD zeroCap) h (fun hs => ⟨hf, good c _ rfl hs⟩) fun w9 h => ?_
      rw [back] at h
      refine h.ld_2 3 rfl rfl ?_
      refine h.ld_6 2 rfl rfl ?_
      refine slots_Nodes_set_spec (c := (H a).getD zeroCap) h (fun hs => ⟨ht, good a _ rfl hs⟩) fun w10 h => ?_
      rw [back] at h
      have g1 : Own B w0 w10 (BlkA w7.heap.size ((H c).getD zeroCap).cells :: NodesA b bits (updH (updH H a (H c)) c (H a)) :: BlkA w5.heap.size ((H a).getD zeroCap).cells :: BlkA w1.heap.size [.int .i64 c.1, .int .i64 c.2] :: BlkA w.heap.size [.int .i64 a.1, .int .i64 a.2] :: R) := h.perm (List.Perm.swap _ _ _)
      exact hK w10 (fin _ _ ((g1.drop.perm (List.Perm.swap _ _ _)).drop))

theorem slots_Nodes_Drop_spec {n : Int} {K : Int → World → Prop} (h : Own B w0 w (NodesA b bits H :: R)) (h1 : sizeN bits n = none → ∀ w', Own B w0 w' (NodesA b bits H :: R) → K 50 w')
    (h2 : (sizeN bits n).isSome = true → busyN H n → ∀ w', Own B w0 w' (NodesA b bits H :: R) → K 51 w')
    (h3 : (sizeN bits n).isSome = true → ¬ busyN H n → ∀ w', Own B w0 w' (NodesA b (bits.set n.toNat (-1)) H :: R) → K 0 w') : C.slots_Nodes_Drop (some ⟨b, 0, none⟩) n K w := by
  apply S.slots_Nodes_Drop_ok
  unfold S.slots_Nodes_Drop
  refine slots_Nodes_Size_spec h 0 rfl ?_
  cases hz : sizeN bits n with
  | none => rw [Option.isSome_none, Bool.not_false, cond_true]; exact h1 hz w h
  | some z =>
    obtain ⟨hn0, hnz, _⟩ := sizeN_some hz
    have hnl := (List.getElem?_eq_some_iff.1 hnz).1
    have hsome : (sizeN bits n).isSome = true := by rw [hz]; rfl
    rw [Option.isSome_some, Bool.not_true, cond_false]
    obtain ⟨x, hk, hM, h⟩ := h.nodes
    refine ⟨_, rfl, some x.m, h.ld 0 rfl rfl, ?_⟩
    refine h.range Try.underlying82 2 rfl fun w1 h => ?_
    intro l10 hl10
    have loop : ∀ (m : Nat) (left : List (Slot × Cap)) (w' : World), left.length = m → (∀ y ∈ x.M, y ∉ left → y.1.1 ≠ n) →
        Own B w0 w' (BlkA b [slV x.s, .map (some x.m)] :: SlT intE x.s bits :: IterA encPair encCap x.m w.heap.size x.M left :: R) → l10 w' := by
      intro m
      induction m with
      | succ m ih =>
        intro left w' hm hdone h
        apply hl10
        obtain ⟨hnd, hsub⟩ := h.iterFacts 2 rfl
        have hndl : left.Nodup := (List.pairwise_map.1 (hnd.sublist (hsub.map _))).imp fun h e => h (by rw [e])
        refine h.next 2 rfl (fun e => by rw [e] at hm; cases hm) fun j k v w2 hj h he => ?_
        rw [cond_true]
        refine ⟨k.1, k.2, encCap v, he, ?_⟩
        refine h.al fun w3 h => ?_
        refine h.stL 0 rfl rfl rfl fun w4 h => ?_
        refine ⟨k.1, h.ld0 0 rfl rfl, ?_⟩
        by_cases e : k.1 = n
        · rw [show (k.1 == n) = true from by simpa using e, cond_true]
          have h := h.drop.iterEnd 2 rfl
          refine h2 hsome ⟨k.2, v, ?_⟩ w4 (Own.mk_nodes hk hM h)
          rw [← hM (n, k.2), ← e]
          exact mget_of_mem hnd (hsub.subset (List.mem_of_getElem? hj))
        · rw [show (k.1 == n) = false from by simpa using e, cond_false]
          refine ih (left.eraseIdx j) w4 (by rw [List.length_eraseIdx, if_pos (List.getElem?_eq_some_iff.1 hj).1]; omega) (fun y hy hn => ?_) h.drop
          by_cases e2 : y ∈ left
          · have : y = (k, v) := by
              refine Classical.byContradiction fun hne => hn ?_
              exact (mem_erase' hndl hj).2 ⟨e2, hne⟩
            rw [this]; exact e
          · exact hdone y hy e2
      | zero =>
        intro left w' hm hdone h
        have hl0 : left = [] := List.eq_nil_of_length_eq_zero hm
        subst hl0
        apply hl10
        refine h.next 2 rfl (fun _ => ?_) fun j k v w3 hj => by simp at hj
        rw [cond_false]
        have h := h.iterEnd 2 rfl
        have hlen := h.len 1 rfl
        obtain ⟨bb, oo, ha, _⟩ := h.get 1 rfl hnz
        refine ⟨_, rfl, x.s, h.ld0 0 rfl rfl, _, ha, hn0, by omega, ?_⟩
        rw [add_mk]
        refine h.stE 1 rfl hnl (-1 : Int) ha rfl fun w2 h => ?_
        have hb : ¬ busyN H n := by
          rintro ⟨i, c, hc⟩
          rw [← hM] at hc
          exact hdone _ (mget_mem hc) (by simp) rfl
        exact h3 hsome hb w2 (Own.mk_nodes (hk.drop hn0 hb) hM h)
    exact loop x.M.length x.M w1 rfl (fun y hy hn => absurd hy hn) h
end
end Go.Proofs.Ytdlcejjiccknlaa
