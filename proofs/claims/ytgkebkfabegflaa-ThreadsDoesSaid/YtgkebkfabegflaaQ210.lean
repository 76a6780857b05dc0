/- A queue's copy. -/
import Derived.Test.YtgkebkfabegflaaQ10
import Derived.Test.YtgkebkfabegflaaS1
set_option linter.unusedVariables false
set_option linter.unusedSimpArgs false
namespace Go.Proofs.Ytgkebkfabegflaa
open Go Go.Vc Go.Proofs

section
variable {B : Nat} {w0 w : World} {R : List Asn} {b : Nat} {L : Qs}

/-- The first lines. -/
def under (L : Qs) (t : Nat) : Qs := L.filter fun x => decide (x.1 < t)
theorem under_line (L : Qs) (t q : Nat) : lineOf (under L t) q = if q < t then lineOf L q else [] := by
  unfold lineOf under
  rw [List.filter_filter]
  by_cases e : q < t
  · rw [if_pos e]
    congr 1
    apply List.filter_congr
    intro x _
    by_cases e2 : x.1 = q
    · simp [e2, e]
    · simp [e2]
  · rw [if_neg e, List.filter_eq_nil_iff.2]
    · rfl
    · intro x _
      by_cases e2 : x.1 = q
      · simp [e2, e]
      · simp [e2]
theorem mem_erase {α : Type} : ∀ {l : List α} {j : Nat} {k q : α}, l.Nodup → l[j]? = some k → (q ∈ l.eraseIdx j ↔ q ∈ l ∧ q ≠ k)
  | [], j, k, q, _, h => by simp at h
  | a :: l, 0, k, q, hn, h => by
    simp only [List.getElem?_cons_zero, Option.some.injEq] at h
    subst h
    rw [List.nodup_cons] at hn
    rw [List.eraseIdx_cons_zero, List.mem_cons]
    constructor
    · intro hq; exact ⟨.inr hq, fun e => hn.1 (e ▸ hq)⟩
    · rintro ⟨hq | hq, hne⟩
      · exact absurd hq hne
      · exact hq
  | a :: l, j + 1, k, q, hn, h => by
    rw [List.nodup_cons] at hn
    rw [List.getElem?_cons_succ] at h
    have hak : a ≠ k := fun e => hn.1 (e ▸ List.mem_of_getElem? h)
    rw [List.eraseIdx_cons_succ, List.mem_cons, List.mem_cons, mem_erase hn.2 h]
    constructor
    · rintro (rfl | ⟨h1, h2⟩)
      · exact ⟨.inl rfl, hak⟩
      · exact ⟨.inr h1, h2⟩
    · rintro ⟨rfl | h1, h2⟩
      · exact .inl rfl
      · exact .inr ⟨h1, h2⟩
theorem under_nil (L : Qs) : under L 0 = [] := by unfold under; simp
theorem under_all {L : Qs} (h : QOk L) : under L 256 = L := by
  unfold under
  rw [List.filter_eq_self]
  intro x hx
  simpa using h.prio x hx

theorem ready_Queue_Copy_spec {K : Option Addr → World → Prop} (h : Own B w0 w (QueueA b L :: R)) (hK : ∀ b' w', Own B w0 w' (QueueA b' L :: QueueA b L :: R) → K (some ⟨b', 0, none⟩) w') : C.ready_Queue_Copy (some ⟨b, 0, none⟩) K w := by
  apply S.ready_Queue_Copy_ok
  unfold S.ready_Queue_Copy
  refine ready_New_spec h fun b' w1 h => ?_
  obtain ⟨y, hq0, hby0, hbits0, h⟩ := h.queue
  obtain ⟨x, hq, hby, hbits, h⟩ := (h.perm (List.perm_middle (l₁ := BlkA b' (qcells y.sl y.m y.ws) :: mapA y.m y.M :: linesA y.sl []) (a := QueueA b L) (l₂ := R))).queue
  refine ⟨_, rfl, some x.m, ?_⟩
  have hmap : w1.cell? ((Addr.mk b 0 none).add 256) = some (.map (some x.m)) := h.ld 0 rfl qcells_map
  refine ⟨hmap, ?_⟩
  refine h.range Try.underlying75 1 rfl fun w2 h => ?_
  intro l8 hl8
  -- all in a good order
  have h : Own B w0 w2 ([BlkA b' (qcells y.sl y.m y.ws), mapA y.m y.M, BlkA b (qcells x.sl x.m x.ws), IterA (Value.int .i64) (Value.int .i64) x.m w1.heap.size x.M x.M] ++ (linesA y.sl [] ++ (linesA x.sl L ++ R))) := by
    refine h.perm ?_
    simp only [List.set_cons_succ, List.set_cons_zero, List.cons_append, List.nil_append]
    have p1 : (linesA x.sl L ++ (BlkA b' (qcells y.sl y.m y.ws) :: mapA y.m y.M :: (linesA y.sl [] ++ R))).Perm (BlkA b' (qcells y.sl y.m y.ws) :: mapA y.m y.M :: (linesA y.sl [] ++ (linesA x.sl L ++ R))) := by
      refine List.perm_middle.trans (List.Perm.cons _ (List.perm_middle.trans (List.Perm.cons _ ?_)))
      rw [← List.append_assoc, ← List.append_assoc]
      exact List.perm_append_comm.append_right R
    refine ((List.Perm.cons _ (List.Perm.cons _ p1))).trans ?_
    refine (List.Perm.cons _ (List.Perm.swap _ _ _)).trans ?_
    refine (List.Perm.swap _ _ _).trans (List.Perm.cons _ ?_)
    refine (List.Perm.cons _ (List.Perm.swap _ _ _)).trans ?_
    exact List.Perm.swap _ _ _
  have loop1 : ∀ (n : Nat) (left : List (Int × Int)) (M' : List (Int × Int)) (w : World), left.length = n → (∀ k, mget M' k = if k ∈ left.map (·.1) then none else mget x.M k) →
      Own B w0 w ([BlkA b' (qcells y.sl y.m y.ws), mapA y.m M', BlkA b (qcells x.sl x.m x.ws), IterA (Value.int .i64) (Value.int .i64) x.m w1.heap.size x.M left] ++ (linesA y.sl [] ++ (linesA x.sl L ++ R))) → l8 w := by
    intro n
    induction n with
    | succ n ih =>
      intro left M' w hn hM' h
      apply hl8
      obtain ⟨hnd, hsub⟩ := h.iterFacts 3 rfl
      have hndl : (left.map (·.1)).Nodup := hnd.sublist (hsub.map _)
      refine h.next 3 rfl (fun e => by rw [e] at hn; cases hn) fun j k v w3 hj h he => ?_
      rw [cond_true]
      refine ⟨k, v, he, _, rfl, some y.m, h.ld 0 rfl qcells_map, ?_⟩
      refine h.mput Try.underlying75 (keyOk_int .i64 Try.underlying3) 1 rfl fun w4 h => ?_
      refine ih (left.eraseIdx j) (aput M' k v) w4 (by rw [List.length_eraseIdx, if_pos (List.getElem?_eq_some_iff.1 hj).1]; omega) (fun q => ?_) h
      have hkj : (left.map (·.1))[j]? = some k := by rw [List.getElem?_map, hj]; rfl
      rw [mget_aput, hM' q, map_erase]
      by_cases e : k = q
      · subst e
        rw [if_pos rfl, if_neg (fun hm => ((mem_erase hndl hkj).1 hm).2 rfl)]
        exact (mget_of_mem hnd (hsub.subset (List.mem_of_getElem? hj))).symm
      · rw [if_neg e]
        by_cases hm : q ∈ left.map (·.1)
        · rw [if_pos hm, if_pos ((mem_erase hndl hkj).2 ⟨hm, fun e' => e e'.symm⟩)]
        · rw [if_neg hm, if_neg (fun hm' => hm ((mem_erase hndl hkj).1 hm').1)]
    | zero =>
      intro left M' w hn hM' h
      have hl0 : left = [] := List.eq_nil_of_length_eq_zero hn
      subst hl0
      have hM2 : ∀ k, mget M' k = mget x.M k := fun k => by rw [hM' k]; simp
      apply hl8
      refine h.next 3 rfl (fun _ => ?_) fun j k v w3 hj => by simp at hj
      rw [cond_false]
      have h := h.iterEnd 3 rfl
      have h : Own B w0 w ([BlkA b' (qcells y.sl y.m y.ws), mapA y.m M', BlkA b (qcells x.sl x.m x.ws), mapA x.m x.M] ++ (linesA y.sl (under L 0) ++ (linesA x.sl L ++ R))) := by rw [under_nil]; exact h
      refine ⟨_, rfl, ((List.range 256).map fun p => slV (x.sl p)).toArray, by simp, fun i hi => ?_, ?_⟩
      · rw [add_mk, h.ld0 2 rfl (show _ = some (slV (x.sl i)) from by rw [Nat.zero_add]; exact qcells_line hi)]
        simp [hi]
      intro l21 hl21
      have loop2 : ∀ (n t : Nat) (sl : Nat → Sl) (w : World), t + n = 256 → Own B w0 w ([BlkA b' (qcells sl y.m y.ws), mapA y.m M', BlkA b (qcells x.sl x.m x.ws), mapA x.m x.M] ++ (linesA sl (under L t) ++ (linesA x.sl L ++ R))) → l21 (t : Int) w := by
        intro n
        induction n with
        | succ n ih2 =>
          intro t sl w hn h
          have ht : t < 256 := by omega
          apply hl21
          rw [show decide ((t : Int) < 256) = true from by simp; omega, cond_true]
          refine ⟨by omega, by omega, x.sl t, by rw [Int.toNat_natCast, Nat.mul_one]; simp [ht, slV], ?_⟩
          refine h.dr fun w3 h => ?_
          refine ⟨_, rfl, ?_, trivial⟩
          have hO := linesP_get (L := L) (sl := x.sl) ht ([BlkA b' (qcells sl y.m y.ws), mapA y.m M', BlkA b (qcells x.sl x.m x.ws), mapA x.m x.M] ++ linesA sl (under L t)) R
          rw [List.append_assoc] at hO
          have hll := line_len L t
          have hfew := hq.few
          refine slices_Clone_int_int_spec h (h.slO _ hO) (h.len _ hO) (by omega) fun s' w4 h => ?_
          refine ⟨by omega, by omega, ?_, trivial⟩
          simp only [add_mk, Int.toNat_natCast, Nat.mul_one, Nat.zero_add]
          refine h.st 1 rfl (by rw [qcells_line ht]; rfl) rfl fun w5 h => ?_
          have h : Own B w0 w5 (SlT intE s' (lineOf L t) :: ([BlkA b' ((qcells sl y.m y.ws).set t (slV s')), mapA y.m M', BlkA b (qcells x.sl x.m x.ws), mapA x.m x.M] ++ (linesA sl (under L t) ++ (linesA x.sl L ++ R)))) := h
          rw [qcells_set ht] at h
          have h5 := h.swapIn (t + 4) (linesP_get (L := under L t) (sl := sl) ht [BlkA b' (qcells (updF sl t s') y.m y.ws), mapA y.m M', BlkA b (qcells x.sl x.m x.ws), mapA x.m x.M] (linesA x.sl L ++ R))
          have h6 := linesP_set (L := under L t) (L' := under L (t + 1)) (sl := sl) (s := s') (ns := lineOf L t) ht (fun q hq => by
            rw [under_line, under_line]
            by_cases e : q = t
            · subst e; rw [if_pos rfl, if_pos (by omega)]
            · rw [if_neg e]
              by_cases e2 : q < t
              · rw [if_pos e2, if_pos (by omega)]
              · rw [if_neg e2, if_neg (by omega)]) [BlkA b' (qcells (updF sl t s') y.m y.ws), mapA y.m M', BlkA b (qcells x.sl x.m x.ws), mapA x.m x.M] (linesA x.sl L ++ R)
          have h7 : Own B w0 w5 ([BlkA b' (qcells (updF sl t s') y.m y.ws), mapA y.m M', BlkA b (qcells x.sl x.m x.ws), mapA x.m x.M] ++ (linesA (updF sl t s') (under L (t + 1)) ++ (linesA x.sl L ++ R))) := by rw [← h6]; exact h5
          rw [wr (by omega) (by omega)]
          exact ih2 (t + 1) _ w5 (by omega) h7
        | zero =>
          intro t sl w hn h
          have ht : t = 256 := by omega
          subst ht
          rw [under_all hq] at h
          apply hl21
          rw [show decide (((256 : Nat) : Int) < 256) = false from rfl, cond_false]
          obtain ⟨b1, b2, b3, b4, hws⟩ := four x.ws hbits.1
          obtain ⟨c1, c2, c3, c4, hcs⟩ := four y.ws hbits0.1
          have hwd : ∀ j v, ([b1, b2, b3, b4].map (Value.int .u64))[j]? = some v → (qcells x.sl x.m x.ws)[257 + j]? = some v := fun j v hv => by
            rw [qcells_word, ← List.getElem?_map, hws]; exact hv
          refine ⟨_, rfl, ?_⟩
          simp only [add_mk, Nat.zero_add]
          refine ⟨_, h.ld0 2 rfl (hwd 0 _ rfl), _, h.ld0 2 rfl (hwd 1 _ rfl), _, h.ld0 2 rfl (hwd 2 _ rfl), _, h.ld0 2 rfl (hwd 3 _ rfl), _, rfl, ?_⟩
          simp only [add_mk, Nat.zero_add]
          rw [hcs] at h
          have hlen : ∀ (ws : List Int) (j : Nat), j < ws.length → ((qcells sl y.m ws)[257 + j]?).isSome = true := fun ws j hj => by
            rw [qcells_word, List.getElem?_eq_getElem hj]; rfl
          refine h.st 0 rfl (hlen _ 0 (by simp)) rfl fun w3 h => ?_
          refine h.st 0 rfl (by rw [qcells_setw 0]; exact hlen _ 1 (by simp)) rfl fun w4 h => ?_
          refine h.st 0 rfl (by rw [qcells_setw 0, qcells_setw 1]; exact hlen _ 2 (by simp)) rfl fun w5 h => ?_
          refine h.st 0 rfl (by rw [qcells_setw 0, qcells_setw 1, qcells_setw 2]; exact hlen _ 3 (by simp)) rfl fun w6 h => ?_
          have e : ((((qcells sl y.m [c1, c2, c3, c4]).set 257 (.int .u64 b1)).set 258 (.int .u64 b2)).set 259 (.int .u64 b3)).set 260 (.int .u64 b4) = qcells sl y.m [b1, b2, b3, b4] := by
            rw [qcells_setw 0, qcells_setw 1, qcells_setw 2, qcells_setw 3]; rfl
          have h : Own B w0 w6 ([BlkA b' (((((qcells sl y.m [c1, c2, c3, c4]).set 257 (.int .u64 b1)).set 258 (.int .u64 b2)).set 259 (.int .u64 b3)).set 260 (.int .u64 b4)), mapA y.m M', BlkA b (qcells x.sl x.m x.ws), mapA x.m x.M] ++ (linesA sl L ++ (linesA x.sl L ++ R))) := h
          rw [e] at h
          have h1 : Own B w0 w6 (BlkA b' (qcells sl y.m [b1, b2, b3, b4]) :: mapA y.m M' :: (linesA sl L ++ (BlkA b (qcells x.sl x.m x.ws) :: mapA x.m x.M :: (linesA x.sl L ++ R)))) := by
            refine h.perm ?_
            simp only [List.cons_append, List.nil_append]
            refine List.Perm.cons _ (List.Perm.cons _ ?_)
            exact ((List.Perm.cons _ List.perm_middle.symm).trans List.perm_middle.symm)
          have h2 := Own.mk_queue hq (fun k => by rw [hM2 k]; exact hby k) (by rw [← hws]; exact hbits) h1
          have h3 : Own B w0 w6 (BlkA b (qcells x.sl x.m x.ws) :: mapA x.m x.M :: (linesA x.sl L ++ (QueueA b' L :: R))) := by
            refine h2.perm ?_
            refine (List.Perm.swap _ _ _).trans (List.Perm.cons _ ((List.Perm.swap _ _ _).trans (List.Perm.cons _ ?_)))
            exact List.perm_middle.symm
          exact hK b' w6 ((Own.mk_queue hq hby hbits h3).perm (List.Perm.swap _ _ _))
      exact loop2 256 0 y.sl w rfl h
  exact loop1 x.M.length x.M y.M w2 rfl (fun k => by
    have e : mget y.M k = none := by rw [hby0 k]; rfl
    rw [e]
    by_cases hm : k ∈ x.M.map (·.1)
    · rw [if_pos hm]
    · rw [if_neg hm, mget_none.2 hm]) h
end
end Go.Proofs.Ytgkebkfabegflaa
