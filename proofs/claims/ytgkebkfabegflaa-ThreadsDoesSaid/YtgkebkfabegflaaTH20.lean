/- Laws of layer 10: a copy of threads; a call on both. -/
import Derived.Test.YtgkebkfabegflaaTH19
import Derived.Test.YtgkebkfabegflaaS0
import Derived.Test.YtgkebkfabegflaaS3
set_option linter.unusedVariables false
set_option linter.unusedSimpArgs false
set_option maxRecDepth 8000
namespace Go.Proofs.Ytgkebkfabegflaa
open Go Go.Vc Go.Proofs

section
variable {B : Nat} {w0 w : World} {R L : List Asn} {b : Nat} {m m1 : Mt}
theorem perm_at : ∀ {L : List Asn} {i : Nat} {a : Asn}, L[i]? = some a → (a :: L.eraseIdx i).Perm L
  | x :: L, 0, a, h => by simp at h; subst h; exact List.Perm.refl _
  | x :: L, i + 1, a, h => (List.Perm.swap x a _).trans ((perm_at (L := L) (i := i) (by simpa using h)).cons x)
theorem queue_copy_at {b1 : Nat} {Q : Qs} {K : Option Addr → World → Prop} (i : Nat) (hi : L[i]? = some (QueueA b1 Q)) (h : Own B w0 w L) (hK : ∀ b' w', Own B w0 w' (QueueA b' Q :: L) → K (some ⟨b', 0, none⟩) w') : C.ready_Queue_Copy (some ⟨b1, 0, none⟩) K w := by
  refine ready_Queue_Copy_spec (h.take i hi) fun b' w h => hK b' w (h.perm (List.Perm.cons _ ?_))
  exact perm_at hi
theorem Clone_thr {s : Sl} {xs : List Thd} {K : Sl → World → Prop} [I : SlIn s L Thd thE xs] (h : Own B w0 w L) (hbig : xs.length ≤ 1000000) (hK : ∀ s' w', Own B w0 w' (SlT thE s' xs :: L) → K s' w') : C.slices_Clone_api_Thread_api_Thread s K w := by
  apply S.slices_Clone_api_Thread_api_Thread_ok
  unfold S.slices_Clone_api_Thread_api_Thread
  have hlen := h.lenc s
  cases hn : s.a with
  | none =>
    refine cbT rfl ?_
    have hx : xs = [] := by
      cases xs with
      | nil => rfl
      | cons x xs => obtain ⟨_, _, ha, _⟩ := h.get I.i I.at_ (j := 0) (x := x) rfl; rw [hn] at ha; cases ha
    subst hx
    exact hK _ w (Own.nilS h)
  | some a =>
    refine cbF rfl ?_
    refine h.al fun w' h => ?_
    generalize w.heap.size = b at h ⊢
    have h2 : Own B w0 w' (SlT thE ⟨some (Addr.mk b 0 none), 0, 0⟩ [] :: L) := Own.empty h
    have hx2 := h2.slO (I.i + 1) (by simpa using I.at_)
    rw [← hn]
    exact Own.app (s := ⟨some (Addr.mk b 0 none), 0, 0⟩) (xs := []) (ys := xs) Try.underlying57 (show Try.prog.info? 37 = some Try.t37 from by kernel_rfl) (zv := (Try.t37.zero).get (by kernel_rfl)) (by kernel_rfl) (by kernel_rfl) (by kernel_rfl) (by decide) h2 0 rfl hx2 hlen (by
      have e : Try.t37.bytes = 96 := by kernel_rfl
      rw [e, List.length_nil]; omega) fun s' w _ h => hK _ w h
theorem thr_Copy_spec {K : Option Addr → World → Prop} (hm : MOk m) (h : Own B w0 w (ThrA b m :: R)) (hK : ∀ b' w', Own B w0 w' (ThrA b' m :: ThrA b m :: R) → K (some ⟨b', 0, none⟩) w') : C.threads_Threads_Copy (some ⟨b, 0, none⟩) K w := by
  apply S.threads_Threads_Copy_ok
  unfold S.threads_Threads_Copy
  have hfew := hm.few
  have hmost := hm.most
  have hcr := hm.cores
  obtain ⟨l, q, r, bs, hbs, h⟩ := h.thr
  have hql := h.lenc q
  refine h.dr fun w h => ?_
  refine ⟨_, rfl, l, h.ldc rfl, _, rfl, r, h.ldd rfl, Go.Vc.a2 ?_⟩
  refine Clone_thr (s := l) h (by omega) fun r7 w h => ⟨h.ldd rfl, Go.Vc.a2 ?_⟩
  refine slices_Clone_int_int_spec (xs := m.runs) h (h.slO 4 rfl) (h.len 4 rfl) (by omega) fun r9 w h => Go.Vc.a2 ?_
  refine h.al fun w2 h => ?_
  generalize w.heap.size = t at h ⊢
  refine ⟨_, rfl, q, h.ldd rfl, ?_⟩
  intro l14 hl14
  have h : Own B w0 w2 (SlT ptrE ⟨none, 0, 0⟩ [] :: _) := Own.nilS h
  have loop : ∀ (k j : Nat) (qn : Sl) (bs2 : List Nat) (w : World), j + k = m.qs.length → bs2.length = j → Own B w0 w (BlkA t [slV r7, slV qn, slV r9] :: SlT ptrE qn bs2 :: SlT thE r7 m.ths :: SlT intE r9 m.runs :: BlkA b [slV l, slV q, slV r] :: SlT thE l m.ths :: SlT ptrE q bs :: SlT intE r m.runs :: (List.zipWith QueueA bs m.qs ++ (List.zipWith QueueA bs2 (m.qs.take j) ++ R))) → l14 (j : Int) w := by
    intro k
    induction k with
    | zero =>
      intro j qn bs2 w hj hbs2 h
      apply hl14
      refine cdecF (by omega) ?_
      rw [List.take_of_length_le (by omega)] at h
      have p1 := (List.perm_append_comm (l₁ := [BlkA t [slV r7, slV qn, slV r9], SlT thE r7 m.ths, SlT ptrE qn bs2, SlT intE r9 m.runs]) (l₂ := [BlkA b [slV l, slV q, slV r], SlT thE l m.ths, SlT ptrE q bs, SlT intE r m.runs] ++ List.zipWith QueueA bs m.qs)).append_right (List.zipWith QueueA bs2 m.qs ++ R)
      rw [List.append_assoc ([BlkA b [slV l, slV q, slV r], SlT thE l m.ths, SlT ptrE q bs, SlT intE r m.runs] ++ List.zipWith QueueA bs m.qs), List.append_assoc [BlkA b [slV l, slV q, slV r], SlT thE l m.ths, SlT ptrE q bs, SlT intE r m.runs]] at p1
      have h : Own B w0 w (BlkA t [slV r7, slV qn, slV r9] :: SlT thE r7 m.ths :: SlT ptrE qn bs2 :: SlT intE r9 m.runs :: BlkA b [slV l, slV q, slV r] :: SlT thE l m.ths :: SlT ptrE q bs :: SlT intE r m.runs :: (List.zipWith QueueA bs m.qs ++ (List.zipWith QueueA bs2 m.qs ++ R))) := h.perm ((List.Perm.swap _ _ _).cons _)
      have h2 := h.perm p1
      have h3 : Own B w0 w (ThrA b m :: ([BlkA t [slV r7, slV qn, slV r9], SlT thE r7 m.ths, SlT ptrE qn bs2, SlT intE r9 m.runs] ++ (List.zipWith QueueA bs2 m.qs ++ R))) := Own.mk_thr hbs h2
      have p2 : List.Perm (ThrA b m :: ([BlkA t [slV r7, slV qn, slV r9], SlT thE r7 m.ths, SlT ptrE qn bs2, SlT intE r9 m.runs] ++ (List.zipWith QueueA bs2 m.qs ++ R))) ([BlkA t [slV r7, slV qn, slV r9], SlT thE r7 m.ths, SlT ptrE qn bs2, SlT intE r9 m.runs] ++ (List.zipWith QueueA bs2 m.qs ++ (ThrA b m :: R))) := by
        rw [← List.append_assoc, ← List.append_assoc]
        exact List.perm_middle.symm
      exact hK t w (Own.mk_thr (by omega) (h3.perm p2))
    | succ k ih =>
      intro j qn bs2 w hj hbs2 h
      apply hl14
      refine cdecT (by omega) ?_
      obtain ⟨b1, hb1⟩ : ∃ x, bs[j]? = some x := ⟨_, List.getElem?_eq_getElem (by omega)⟩
      obtain ⟨Q, hQ⟩ : ∃ x, m.qs[j]? = some x := ⟨_, List.getElem?_eq_getElem (by omega)⟩
      refine h.ixc (s := q) (i := (j : Int)) (j := j) rfl hb1 fun a ha h0 hc => ⟨_, h0 _ rfl, ?_⟩
      refine h.dr fun w h => ?_
      refine ⟨_, rfl, qn, h.ldd rfl, Go.Vc.a2 ?_⟩
      refine queue_copy_at (8 + j) (b1 := b1) (Q := Q) ?_ h fun b' w h => ?_
      · have hz : (List.zipWith QueueA bs m.qs ++ (List.zipWith QueueA bs2 (m.qs.take j) ++ R))[j]? = some (QueueA b1 Q) := by
          rw [List.getElem?_append_left (by simp; omega), List.getElem?_zipWith, hb1, hQ]
        rw [Nat.add_comm]
        simpa using hz
      refine ⟨h.ldd rfl, Go.Vc.a2 ?_⟩
      refine h.al fun w3 h => ?_
      generalize w.heap.size = d3 at h ⊢
      refine Go.Vc.a2 ?_
      refine app1_ptr (s := qn) (ys := bs2) (y := b') h (by omega) fun q' w hq' h => ?_
      refine ⟨_, rfl, Go.Vc.a2 ?_⟩
      refine h.std rfl rfl fun w h => ?_
      (dsimp only [putAt, List.set_cons_zero, List.set_cons_succ] at h)
      rw [show IntKind.i64.wrap ((j : Int) + 1) = ((j + 1 : Nat) : Int) from by rw [wr (by omega) (by omega)]; omega]
      refine ih (j + 1) q' (bs2 ++ [b']) w (by omega) (by simp [hbs2]) ?_
      have ez : List.zipWith QueueA (bs2 ++ [b']) (m.qs.take (j + 1)) = List.zipWith QueueA bs2 (m.qs.take j) ++ [QueueA b' Q] := by
        rw [List.take_add_one, hQ, Option.toList_some, List.zipWith_append (by simp; omega)]; rfl
      rw [ez]
      have h2 : Own B w0 w (BlkA t [slV r7, .slice q'.a q'.len q'.cap, slV r9] :: SlT ptrE q' (bs2 ++ [b']) :: SlT thE r7 m.ths :: SlT intE r9 m.runs :: BlkA b [slV l, slV q, slV r] :: SlT thE l m.ths :: SlT ptrE q bs :: SlT intE r m.runs :: QueueA b' Q :: (List.zipWith QueueA bs m.qs ++ (List.zipWith QueueA bs2 (m.qs.take j) ++ R))) := h.sub
      refine h2.perm ?_
      have p : List.Perm (QueueA b' Q :: (List.zipWith QueueA bs m.qs ++ (List.zipWith QueueA bs2 (m.qs.take j) ++ R))) (List.zipWith QueueA bs m.qs ++ (List.zipWith QueueA bs2 (m.qs.take j) ++ [QueueA b' Q] ++ R)) := by
        have := (List.perm_middle (a := QueueA b' Q) (l₁ := List.zipWith QueueA bs m.qs ++ List.zipWith QueueA bs2 (m.qs.take j)) (l₂ := R)).symm
        simpa [List.append_assoc] using this
      exact (((((((p.cons _).cons _).cons _).cons _).cons _).cons _).cons _).cons _
  refine loop m.qs.length 0 ⟨none, 0, 0⟩ [] w2 (by omega) rfl ?_
  simp only [List.zipWith_nil_left, List.nil_append]
  have h5 : Own B w0 w2 (BlkA t [.slice r7.a r7.len r7.cap, .slice none 0 0, .slice r9.a r9.len r9.cap] :: SlT ptrE ⟨none, 0, 0⟩ [] :: SlT thE r7 m.ths :: SlT intE r9 m.runs :: BlkA b [slV l, slV q, slV r] :: SlT thE l m.ths :: SlT ptrE q bs :: SlT intE r m.runs :: (List.zipWith QueueA bs m.qs ++ R)) := h.sub
  exact h5
/-- A call. -/
def Mt.op (m : Mt) (k n c p v : Int) : Mt := if k = 0 then (m.makeR p c).2.2 else if k = 1 then (m.regR n p v).2 else m.done k n c p
theorem InvX.op (hi : InvX (-1) m) (k n c p v : Int) : InvX (-1) (m.op k n c p v) := by
  unfold Mt.op
  split
  · exact hi.makeR p c
  split
  · exact hi.reg n p v
  · exact hi.done k n c p
theorem law10_same_spec {rb : Nat} {k n c p v : Int} {K : Bool → World → Prop} (hi : InvX (-1) m) (h : Own B w0 w (ThrA b m :: RthA rb m :: R)) (hK : ∀ w', Own B w0 w' (ThrA b (m.op k n c p v) :: RthA rb (m.op k n c p v) :: R) → K true w') : C.law10_same (some ⟨b, 0, none⟩) (some ⟨rb, 0, none⟩) k n c p v K w := by
  apply S.law10_same_ok
  unfold S.law10_same
  have hm := hi.ok
  refine h.al fun w1 h => ?_
  generalize w.heap.size = d at h ⊢
  unfold Mt.op Mt.done at hK
  refine ⟨_, h.ldc rfl, ?_⟩
  refine ceq (fun e => ?_) (fun e => ?_)
  · rw [if_pos e] at hK
    refine ⟨_, h.ldd rfl, _, h.ldd rfl, make_g hm (h.pick (A := ThrA b m)) fun w h => ⟨_, h.ldd rfl, _, h.ldd rfl, ref10_Make_spec hm (h.pick (A := RthA rb m)) fun w h => ceqT rfl ?_⟩⟩
    rw [beq_self_eq_true]; exact hK w h.sub
  rw [if_neg e] at hK
  refine ceq (fun e => ?_) (fun e => ?_)
  · rw [if_pos e] at hK
    refine ⟨_, h.ldd rfl, _, h.ldd rfl, _, h.ldd rfl, reg_g hm (h.pick (A := ThrA b m)) fun w h => ⟨_, h.ldd rfl, _, h.ldd rfl, _, h.ldd rfl, ref10_Reg_spec (h.pick (A := RthA rb m)) fun w h => ?_⟩⟩
    rw [beq_self_eq_true]; exact hK w h.sub
  rw [if_neg e] at hK
  refine ceq (fun e => ?_) (fun e => ?_)
  · rw [if_pos e] at hK
    refine ⟨_, h.ldd rfl, resume_g hm (h.pick (A := ThrA b m)) fun w h => ⟨_, h.ldd rfl, ref10_Resume_spec hi (h.pick (A := RthA rb m)) fun w h => ?_⟩⟩
    rw [beq_self_eq_true]; exact hK w h.sub
  rw [if_neg e] at hK
  refine ceq (fun e => ?_) (fun e => ?_)
  · rw [if_pos e] at hK
    refine ⟨_, h.ldd rfl, suspend_g hm (h.pick (A := ThrA b m)) fun w h => ⟨_, h.ldd rfl, ref10_Suspend_spec hi (h.pick (A := RthA rb m)) fun w h => ?_⟩⟩
    rw [beq_self_eq_true]; exact hK w h.sub
  rw [if_neg e] at hK
  refine ceq (fun e => ?_) (fun e => ?_)
  · rw [if_pos e] at hK
    refine ⟨_, h.ldd rfl, block_g hm (h.pick (A := ThrA b m)) fun w h => ⟨_, h.ldd rfl, ref10_Block_spec hi (h.pick (A := RthA rb m)) fun w h => ?_⟩⟩
    rw [beq_self_eq_true]; exact hK w h.sub
  rw [if_neg e] at hK
  refine ceq (fun e => ?_) (fun e => ?_)
  · rw [if_pos e] at hK
    refine ⟨_, h.ldd rfl, _, h.ldd rfl, prio_g hm (h.pick (A := ThrA b m)) fun w h => ⟨_, h.ldd rfl, _, h.ldd rfl, ref10_Prio_spec hi (h.pick (A := RthA rb m)) fun w h => ?_⟩⟩
    rw [beq_self_eq_true]; exact hK w h.sub
  rw [if_neg e] at hK
  refine ceq (fun e => ?_) (fun e => ?_)
  · rw [if_pos e] at hK
    refine ⟨_, h.ldd rfl, _, h.ldd rfl, core_g hm (h.pick (A := ThrA b m)) fun w h => ⟨_, h.ldd rfl, _, h.ldd rfl, ref10_Core_spec hi (h.pick (A := RthA rb m)) fun w h => ?_⟩⟩
    rw [beq_self_eq_true]; exact hK w h.sub
  rw [if_neg e] at hK
  refine ceq (fun e => ?_) (fun e => ?_)
  · rw [if_pos e] at hK
    refine ⟨_, h.ldd rfl, thr_Pick_spec hm (h.pick (A := ThrA b m)) fun w h => ⟨_, h.ldd rfl, ref10_Pick_spec hi (h.pick (A := RthA rb m)) fun w h => ceqT rfl ?_⟩⟩
    rw [beq_self_eq_true]; exact hK w h.sub
  rw [if_neg e] at hK
  refine ceq (fun e => ?_) (fun e => ?_)
  · rw [if_pos e] at hK
    refine ⟨_, h.ldd rfl, thr_Yield_spec hm (h.pick (A := ThrA b m)) fun w h => ⟨_, h.ldd rfl, ref10_Yield_spec hi (h.pick (A := RthA rb m)) fun w h => ?_⟩⟩
    rw [beq_self_eq_true]; exact hK w h.sub
  rw [if_neg e] at hK
  refine ceq (fun e => ?_) (fun e => ?_)
  · rw [if_pos e] at hK
    refine ⟨_, h.ldd rfl, thr_Tick_spec hm (h.pick (A := ThrA b m)) fun w h => ⟨_, h.ldd rfl, ref10_Tick_spec hi (h.pick (A := RthA rb m)) fun w h => ?_⟩⟩
    rw [beq_self_eq_true]; exact hK w h.sub
  rw [if_neg e] at hK
  exact hK w1 h.drop
end
end Go.Proofs.Ytgkebkfabegflaa
