/- Threads of layer 10: made, resumed, picked, ticked. -/
import Derived.Test.YtgkebkfabegflaaTH2
import Derived.Test.YtgkebkfabegflaaS3
set_option linter.unusedVariables false
set_option linter.unusedSimpArgs false
set_option maxRecDepth 8000
namespace Go.Proofs.Ytgkebkfabegflaa
open Go Go.Vc Go.Proofs

section
variable {B : Nat} {w0 w : World} {R L : List Asn} {b : Nat} {m : Mt}
/-- What a core runs. -/
def Mt.runs? (m : Mt) (c : Int) : Option Int := if m.isC c = true ∧ m.run c ≠ -1 then some (m.run c) else none
theorem isC_iff {c : Int} : m.isC c = true ↔ 0 ≤ c ∧ c < m.qs.length := by unfold Mt.isC; simp
theorem thr_Runs_spec {c : Int} {K : Int → Bool → World → Prop} (hm : MOk m) (h : Own B w0 w (ThrA b m :: R)) (hK : ∀ w', Own B w0 w' (ThrA b m :: R) → K ((m.runs? c).getD 0) (m.runs? c).isSome w') : C.threads_Threads_Runs (some ⟨b, 0, none⟩) c K w := by
  apply S.threads_Threads_Runs_ok
  unfold S.threads_Threads_Runs
  have hcr := hm.cores
  obtain ⟨l, q, r, bs, hbs, h⟩ := h.thr
  intro k hk
  refine thr_core_o hbs h ?_
  unfold Mt.runs? at hK
  cases hc : m.isC c with
  | false =>
    rw [if_neg (by rw [hc]; simp)] at hK
    refine cbT rfl (hk _ _ (cbT rfl ?_))
    exact hK w (Own.mk_thr hbs h)
  | true =>
    obtain ⟨c0, c1⟩ := isC_iff.1 hc
    refine cbF rfl ?_
    (repeat (first | (refine h.al fun w h => ?_) | (refine h.dr fun w h => ?_) | (refine h.lc_2 rfl ?_) | (refine h.lc_6 rfl ?_) | (refine ⟨_, h.ldc rfl, ?_⟩) | (refine ⟨_, h.ldd rfl, ?_⟩) | (refine h.hd rfl ?_) | (refine ⟨h.ldc rfl, ?_⟩) | (refine ⟨h.ldd rfl, ?_⟩) | (refine h.stLc rfl rfl fun w h => ?_) | (refine exs ?_) | (refine _root_.Go.Vc.a2 ?_) | (refine h.stc rfl rfl fun w h => ?_) | (refine h.std rfl rfl fun w h => ?_)))
    refine h.ixc (s := r) (j := c.toNat) (by omega) (r_get (m := m) c0 (by omega)) fun a ha h0 hcc => ⟨_, h0 _ rfl, ?_⟩
    refine hk _ _ ?_
    refine ceq (fun e => ?_) (fun e => ?_)
    · rw [if_neg (by simp [e])] at hK
      exact hK w (Own.mk_thr hbs h)
    · rw [if_pos ⟨hc, e⟩] at hK
      (repeat (first | (refine h.al fun w h => ?_) | (refine h.dr fun w h => ?_) | (refine h.lc_2 rfl ?_) | (refine h.lc_6 rfl ?_) | (refine ⟨_, h.ldc rfl, ?_⟩) | (refine ⟨_, h.ldd rfl, ?_⟩) | (refine h.hd rfl ?_) | (refine ⟨h.ldc rfl, ?_⟩) | (refine ⟨h.ldd rfl, ?_⟩) | (refine h.stLc rfl rfl fun w h => ?_) | (refine exs ?_) | (refine _root_.Go.Vc.a2 ?_) | (refine h.stc rfl rfl fun w h => ?_) | (refine h.std rfl rfl fun w h => ?_)))
      refine h.ixc (s := r) (j := c.toNat) (by omega) (r_get (m := m) c0 (by omega)) fun a ha h0 hcc => ⟨_, h0 _ rfl, ?_⟩
      exact hK w (Own.mk_thr hbs h)
theorem thr_Get_spec {n : Int} {K : Int → Int → Int → Int → Int → Int → Int → Int → Int → Int → Int → Int → Int → World → Prop} (h : Own B w0 w (ThrA b m :: R))
    (hK : ∀ w' t, t = (if m.isT n then m.th n else zTh) → Own B w0 w' (ThrA b m :: R) → K t.st t.pr t.co t.le (t.rg 0) (t.rg 1) (t.rg 2) (t.rg 3) (t.rg 4) (t.rg 5) (t.rg 6) (t.rg 7) (if m.isT n then 0 else 100) w') : C.threads_Threads_Get (some ⟨b, 0, none⟩) n K w := by
  apply S.threads_Threads_Get_ok
  unfold S.threads_Threads_Get
  refine h.al fun w1 h => ?_
  generalize w.heap.size = c at h ⊢
  have h : Own B w0 w1 (ThrA b m :: BlkA c [.int .i64 0, .int .i64 0, .int .i64 0, .int .i64 0, .int .u64 0, .int .u64 0, .int .u64 0, .int .u64 0, .int .u64 0, .int .u64 0, .int .u64 0, .int .u64 0] :: R) := h.up1
  obtain ⟨l, q, r, bs, hbs, h⟩ := h.thr
  have back : ∀ {w : World} {cs : List Value}, Own B w0 w (BlkA c cs :: BlkA b [slV l, slV q, slV r] :: SlT thE l m.ths :: SlT ptrE q bs :: SlT intE r m.runs :: (List.zipWith QueueA bs m.qs ++ R)) → Own B w0 w (ThrA b m :: R) := fun h => Own.mk_thr hbs h.drop
  have mid : ∀ {w : World} {A : Asn}, Own B w0 w (BlkA b [slV l, slV q, slV r] :: SlT thE l m.ths :: SlT ptrE q bs :: SlT intE r m.runs :: (List.zipWith QueueA bs m.qs ++ A :: R)) → Own B w0 w (A :: BlkA b [slV l, slV q, slV r] :: SlT thE l m.ths :: SlT ptrE q bs :: SlT intE r m.runs :: (List.zipWith QueueA bs m.qs ++ R)) := fun {w A} h => by
    refine h.perm ?_
    have : List.Perm (List.zipWith QueueA bs m.qs ++ A :: R) (A :: (List.zipWith QueueA bs m.qs ++ R)) := List.perm_middle
    refine ((((this.cons _).cons _).cons _).cons _).trans ?_
    exact (List.perm_middle (l₁ := [BlkA b [slV l, slV q, slV r], SlT thE l m.ths, SlT ptrE q bs, SlT intE r m.runs]))
  refine thr_one_o h (fun e => ?_) fun a e ha => ?_
  · have h := mid h
    refine cbT rfl ?_
    refine h.stLc rfl rfl fun w h => ?_
    refine h.lc_12 rfl ?_
    have := hK w zTh (by rw [e]; rfl) (back h)
    rw [e] at this
    exact this
  · obtain ⟨n0, n1, hx⟩ := isT_get e
    have hc := (h.ixa (s := l) (E := thE) (i := n) (j := n.toNat) (by omega) hx ha).2
    have h2 := mid h
    refine cbF rfl ?_
    refine ⟨_, rfl, ?_⟩
    refine ⟨_, hc 0 _ rfl, _, hc 1 _ rfl, _, hc 2 _ rfl, _, hc 3 _ rfl, _, hc 4 _ rfl, _, hc 5 _ rfl, _, hc 6 _ rfl, _, hc 7 _ rfl, _, hc 8 _ rfl, _, hc 9 _ rfl, _, hc 10 _ rfl, _, hc 11 _ rfl, ?_⟩
    refine h2.stLc rfl rfl fun w h => ?_
    refine h.lc_12 rfl ?_
    have := hK w (m.th n) (by rw [e]; rfl) (back h)
    rw [e] at this
    exact this
theorem thr_Resume_spec {n : Int} {K : Int → World → Prop} (hm : MOk m) (h : Own B w0 w (ThrA b m :: R))
    (hK0 : m.isT n = false → ∀ w', Own B w0 w' (ThrA b m :: R) → K 100 w') (hK1 : m.isT n = true → (m.th n).st = 1 ∨ (m.th n).st = 2 → ∀ w', Own B w0 w' (ThrA b m :: R) → K 101 w')
    (hK2 : m.isT n = true → (m.th n).st ≠ 1 → (m.th n).st ≠ 2 → ∀ w', Own B w0 w' (ThrA b (m.lineUp n) :: R) → K 0 w') : C.threads_Threads_Resume (some ⟨b, 0, none⟩) n K w := by
  apply S.threads_Threads_Resume_ok
  unfold S.threads_Threads_Resume
  obtain ⟨l, q, r, bs, hbs, h⟩ := h.thr
  refine thr_one_o h (fun e => ?_) fun a e ha => ?_
  · refine cbT rfl ?_
    exact hK0 e w (Own.mk_thr hbs h)
  · obtain ⟨n0, n1, hx⟩ := isT_get e
    refine cbF rfl ?_
    intro k hk
    refine ⟨_, rfl, _, ldTh (c := 0) h n0 hx ha rfl, ?_⟩
    refine ceq (fun e1 => ?_) (fun e1 => ?_)
    · refine hk _ _ (cbT rfl ?_)
      exact hK1 e (.inl e1) w (Own.mk_thr hbs h)
    refine ⟨_, rfl, _, ldTh (c := 0) h n0 hx ha rfl, hk _ _ ?_⟩
    refine ceq (fun e2 => ?_) (fun e2 => ?_)
    · exact hK1 e (.inr e2) w (Own.mk_thr hbs h)
    · refine thr_lineUp_spec hm e (Own.mk_thr hbs h) fun w h => ?_
      exact hK2 e e1 e2 w h
theorem thr_Block_spec {n : Int} {K : Int → World → Prop} (hm : MOk m) (h : Own B w0 w (ThrA b m :: R))
    (hK0 : m.isT n = false → ∀ w', Own B w0 w' (ThrA b m :: R) → K 100 w') (hK1 : m.isT n = true → (m.th n).st ≠ 2 → ∀ w', Own B w0 w' (ThrA b m :: R) → K 101 w')
    (hK2 : m.isT n = true → (m.th n).st = 2 → ∀ w', Own B w0 w' (ThrA b (m.leave n 3) :: R) → K 0 w') : C.threads_Threads_Block (some ⟨b, 0, none⟩) n K w := by
  apply S.threads_Threads_Block_ok
  unfold S.threads_Threads_Block
  obtain ⟨l, q, r, bs, hbs, h⟩ := h.thr
  refine thr_one_o h (fun e => ?_) fun a e ha => ?_
  · refine cbT rfl ?_
    exact hK0 e w (Own.mk_thr hbs h)
  · obtain ⟨n0, n1, hx⟩ := isT_get e
    refine cbF rfl ?_
    refine ⟨_, rfl, _, ldTh (c := 0) h n0 hx ha rfl, ?_⟩
    refine cne (fun e1 => ?_) (fun e1 => ?_)
    · exact hK1 e e1 w (Own.mk_thr hbs h)
    · refine thr_leave_spec hm e (Own.mk_thr hbs h) fun w h => ?_
      exact hK2 e e1 w h
theorem thr_Suspend_spec {n : Int} {K : Int → World → Prop} (hm : MOk m) (h : Own B w0 w (ThrA b m :: R))
    (hK0 : m.isT n = false → ∀ w', Own B w0 w' (ThrA b m :: R) → K 100 w') (hK1 : m.isT n = true → (m.th n).st = 0 → ∀ w', Own B w0 w' (ThrA b m :: R) → K 101 w')
    (hK2 : m.isT n = true → (m.th n).st ≠ 0 → ∀ w', Own B w0 w' (ThrA b (m.leave n 0) :: R) → K 0 w') : C.threads_Threads_Suspend (some ⟨b, 0, none⟩) n K w := by
  apply S.threads_Threads_Suspend_ok
  unfold S.threads_Threads_Suspend
  obtain ⟨l, q, r, bs, hbs, h⟩ := h.thr
  refine thr_one_o h (fun e => ?_) fun a e ha => ?_
  · refine cbT rfl ?_
    exact hK0 e w (Own.mk_thr hbs h)
  · obtain ⟨n0, n1, hx⟩ := isT_get e
    refine cbF rfl ?_
    refine ⟨_, rfl, _, ldTh (c := 0) h n0 hx ha rfl, ?_⟩
    refine ceq (fun e1 => ?_) (fun e1 => ?_)
    · exact hK1 e e1 w (Own.mk_thr hbs h)
    · refine thr_leave_spec hm e (Own.mk_thr hbs h) fun w h => ?_
      exact hK2 e e1 w h
theorem thr_Line_spec {c p : Int} {K : Sl → World → Prop} (h : Own B w0 w (ThrA b m :: R)) (hK : ∀ s w', Own B w0 w' (SlT intE s (if m.isC c then lineI (m.q c) p else []) :: ThrA b m :: R) → K s w') : C.threads_Threads_Line (some ⟨b, 0, none⟩) c p K w := by
  apply S.threads_Threads_Line_ok
  unfold S.threads_Threads_Line
  obtain ⟨l, q, r, bs, hbs, h⟩ := h.thr
  refine thr_core_o hbs h ?_
  cases hc : m.isC c with
  | false =>
    rw [hc] at hK
    refine cbT rfl ?_
    have h2 : Own B w0 w (ThrA b m :: R) := Own.mk_thr hbs h
    exact hK _ w (Own.nilS h2)
  | true =>
    rw [hc] at hK
    obtain ⟨c0, c1⟩ := isC_iff.1 hc
    obtain ⟨b1, hb1⟩ : ∃ x, bs[c.toNat]? = some x := ⟨_, List.getElem?_eq_getElem (by omega)⟩
    refine cbF rfl ?_
    refine ⟨_, rfl, q, h.ldd rfl, ?_⟩
    refine h.ixc (s := q) (j := c.toNat) (by omega) hb1 fun a2 ha2 h0 hcc => ⟨_, h0 _ rfl, _, rfl, ?_⟩
    have h := h.qout hb1 (q_get c0 c1)
    refine ready_lines_Line_spec h fun s w h => ?_
    have h2 : Own B w0 w (QueueA b1 (m.q c) :: BlkA b [slV l, slV q, slV r] :: SlT thE l m.ths :: SlT ptrE q bs :: SlT intE r m.runs :: ((List.zipWith QueueA bs m.qs ++ R).eraseIdx c.toNat ++ [SlT intE s (lineI (m.q c) p)])) := by
      refine h.perm ?_
      exact (List.perm_append_singleton (SlT intE s (lineI (m.q c) p)) (QueueA b1 (m.q c) :: BlkA b [slV l, slV q, slV r] :: SlT thE l m.ths :: SlT ptrE q bs :: SlT intE r m.runs :: (List.zipWith QueueA bs m.qs ++ R).eraseIdx c.toNat)).symm
    rw [← List.eraseIdx_append_of_lt_length (by simp; omega), List.append_assoc] at h2
    have h3 := h2.qin (qs := m.qs) hb1 (by omega)
    have e : m.qs.set c.toNat (m.q c) = m.qs := by
      apply List.ext_getElem?
      intro t
      rw [List.getElem?_set]
      by_cases e : c.toNat = t
      · subst e; rw [if_pos rfl, if_pos (by omega), q_get c0 c1]
      · rw [if_neg e]
    rw [e] at h3
    have h4 : Own B w0 w (ThrA b m :: (R ++ [SlT intE s (lineI (m.q c) p)])) := Own.mk_thr hbs h3
    refine hK s w ?_
    refine h4.perm ?_
    exact List.perm_append_singleton (SlT intE s (lineI (m.q c) p)) (ThrA b m :: R)
end
end Go.Proofs.Ytgkebkfabegflaa
