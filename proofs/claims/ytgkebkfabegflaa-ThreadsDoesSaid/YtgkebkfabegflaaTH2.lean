/- Threads of layer 10: who waits, who leaves, who runs. -/
import Derived.Test.YtgkebkfabegflaaTH
import Derived.Test.YtgkebkfabegflaaS3
set_option linter.unusedVariables false
set_option linter.unusedSimpArgs false
set_option maxRecDepth 8000
namespace Go.Proofs.Ytgkebkfabegflaa
open Go Go.Vc Go.Proofs

section
variable {B : Nat} {w0 w : World} {R L : List Asn} {b : Nat} {m : Mt}
theorem MOk.setTh (hm : MOk m) {n : Int} {t : Thd} (h1 : 0 ≤ t.co ∧ t.co < m.qs.length) (h2 : t.le = t.le) : MOk (m.setTh n t) := by
  unfold Mt.setTh
  refine ⟨by rw [List.length_set]; exact hm.few, hm.cores, hm.most, fun x hx => ?_, fun x hx => rfl, by rw [List.length_set]; exact hm.run, by rw [List.length_set]; exact hm.line⟩
  rcases List.mem_or_eq_of_mem_set hx with h | h
  · exact hm.core x h
  · rw [h]; exact h1
theorem MOk.setQ (hm : MOk m) {n : Int} {Q : Qs} (h1 : ∀ x ∈ Q, 0 ≤ x.2 ∧ x.2 < m.ths.length) : MOk (m.setQ n Q) := by
  unfold Mt.setQ
  refine ⟨hm.few, by rw [List.length_set]; exact hm.cores, by rw [List.length_set]; exact hm.most, by rw [List.length_set]; exact hm.core, hm.left, hm.run, fun x hx => ?_⟩
  rcases List.mem_or_eq_of_mem_set hx with h | h
  · exact hm.line x h
  · rw [h]; exact h1
theorem MOk.setR (hm : MOk m) {n v : Int} (h1 : v = -1 ∨ (0 ≤ v ∧ v < m.ths.length)) : MOk (m.setR n v) := by
  unfold Mt.setR
  refine ⟨hm.few, by rw [List.length_set]; exact hm.cores, hm.most, hm.core, hm.left, fun x hx => ?_, hm.line⟩
  rcases List.mem_or_eq_of_mem_set hx with h | h
  · exact hm.run x h
  · rw [h]; exact h1
theorem MOk.qline (hm : MOk m) {c : Int} : ∀ x ∈ m.q c, 0 ≤ x.2 ∧ x.2 < m.ths.length := fun x hx => by
  unfold Mt.q at hx
  split at hx
  · simp at hx
  · cases e : m.qs[c.toNat]? with
    | none => rw [e] at hx; simp at hx
    | some Q => rw [e] at hx; exact hm.line Q (List.mem_of_getElem? e) x hx
theorem MOk.th (hm : MOk m) {n : Int} (hn : m.isT n = true) : (0 ≤ (m.th n).co ∧ (m.th n).co < m.qs.length) ∧ ((m.th n).le = (m.th n).le) := by
  have := List.mem_of_getElem? (isT_get hn).2.2
  exact ⟨hm.core _ this, hm.left _ this⟩
theorem putR_ids {Q : Qs} {p n : Int} {k : Int} (h : ∀ x ∈ Q, 0 ≤ x.2 ∧ x.2 < k) (hn : 0 ≤ n ∧ n < k) : ∀ x ∈ (putR Q p n).2, 0 ≤ x.2 ∧ x.2 < k := by
  unfold putR
  split
  · exact h
  · split
    · exact h
    · intro x hx
      rcases List.mem_append.1 hx with h2 | h2
      · exact h x h2
      · simp at h2; subst h2; exact hn
theorem takeR_ids {Q : Qs} {n : Int} {k : Int} (h : ∀ x ∈ Q, 0 ≤ x.2 ∧ x.2 < k) : ∀ x ∈ (takeR Q n).2, 0 ≤ x.2 ∧ x.2 < k := by
  unfold takeR
  split
  · exact fun x hx => h x (List.mem_filter.1 hx).1
  · exact h
theorem MOk.lineUp (hm : MOk m) {n : Int} (hn : m.isT n = true) : MOk (m.lineUp n) := by
  have ht := hm.th hn
  have hb := isT_get hn
  unfold Mt.lineUp
  refine (hm.setTh (t := { m.th n with st := 1 }) ht.1 ht.2).setQ ?_
  have : (m.setTh n { m.th n with st := 1 }).ths.length = m.ths.length := by unfold Mt.setTh; simp
  rw [this]
  exact putR_ids hm.qline ⟨hb.1, hb.2.1⟩
theorem MOk.leave0 (hm : MOk m) {n : Int} : MOk (m.leave0 n) := by
  unfold Mt.leave0
  split
  · exact hm.setQ (takeR_ids hm.qline)
  · split
    · exact hm.setR (.inl rfl)
    · exact hm
theorem leave0_len {n : Int} : (m.leave0 n).ths = m.ths ∧ (m.leave0 n).qs.length = m.qs.length := by
  unfold Mt.leave0 Mt.setQ Mt.setR
  split
  · simp
  · split <;> simp
theorem MOk.leave (hm : MOk m) {n s : Int} (hn : m.isT n = true) : MOk (m.leave n s) := by
  have ht := hm.th hn
  unfold Mt.leave
  refine hm.leave0.setTh (t := { m.th n with st := s }) ?_ ht.2
  rw [leave0_len.2]; exact ht.1
theorem ids_len {Q : Qs} {k : Nat} (hq : QOk Q) (h : ∀ x ∈ Q, 0 ≤ x.2 ∧ x.2 < (k : Int)) : Q.length ≤ k := by
  have := pigeon k (Q.map (·.2)) hq.nodup fun x hx => by
    obtain ⟨y, hy, e⟩ := List.mem_map.1 hx
    rw [← e]; exact h y hy
  simpa using this
theorem lineUp_isT {n k : Int} : (m.lineUp n).isT k = m.isT k := by unfold Mt.lineUp Mt.isT Mt.setQ Mt.setTh; simp
theorem leave_isT {n s k : Int} : (m.leave n s).isT k = m.isT k := by unfold Mt.leave Mt.isT Mt.setTh; simp [leave0_len.1]
theorem lineUp_isC {n k : Int} : (m.lineUp n).isC k = m.isC k := by unfold Mt.lineUp Mt.isC Mt.setQ Mt.setTh; simp
theorem leave_isC {n s k : Int} : (m.leave n s).isC k = m.isC k := by unfold Mt.leave Mt.isC Mt.setTh; simp [leave0_len.2]

/-- A field of a thread, written. -/
theorem stTh {l : Sl} {A1 A3 A4 : Asn} {ths : List Thd} {n : Int} {t t' : Thd} {c : Nat} {v : Value} {a : Addr} {k : World → Prop} (h : Own B w0 w (A1 :: SlT thE l ths :: A3 :: A4 :: L)) (h0 : 0 ≤ n) (hx : ths[n.toNat]? = some t) (ha : l.a = some a)
    (he : thE.enc t' = (thE.enc t).set c v) (hc : c < 12) (hv : v.oneCell' = true) (hk : ∀ w', Own B w0 w' (A1 :: SlT thE l (ths.set n.toNat t') :: A3 :: A4 :: L) → k w') : St w ((a.add (n.toNat * 12)).add c) v k :=
  Own.stFc (s := l) (E := thE) (xs := ths) (i := n) (j := n.toNat) (c := c) (x := t) h t' (by omega) hx ha he hc hv fun w' h => hk w' h.up1
theorem ldTh {l : Sl} {A1 A3 A4 : Asn} {ths : List Thd} {n : Int} {t : Thd} {c : Nat} {v : Value} {a : Addr} (h : Own B w0 w (A1 :: SlT thE l ths :: A3 :: A4 :: L)) (h0 : 0 ≤ n) (hx : ths[n.toNat]? = some t) (ha : l.a = some a)
    (he : (thE.enc t)[c]? = some v) : w.cell? ((a.add (n.toNat * 12)).add c) = some v :=
  (h.ixa (s := l) (E := thE) (i := n) (j := n.toNat) (by omega) hx ha).2 c v he
theorem thr_lineUp_spec {n : Int} {K : World → Prop} (hm : MOk m) (hn : m.isT n = true) (h : Own B w0 w (ThrA b m :: R)) (hK : ∀ w', Own B w0 w' (ThrA b (m.lineUp n) :: R) → K w') : C.threads_Threads_lineUp (some ⟨b, 0, none⟩) n K w := by
  apply S.threads_Threads_lineUp_ok
  unfold S.threads_Threads_lineUp
  obtain ⟨l, q, r, bs, hbs, h⟩ := h.thr
  obtain ⟨n0, n1, hx⟩ := isT_get hn
  obtain ⟨⟨c0, c1⟩, _⟩ := hm.th hn
  obtain ⟨b1, hb1⟩ : ∃ x, bs[(m.th n).co.toNat]? = some x := ⟨_, List.getElem?_eq_getElem (by omega)⟩
  refine thr_one_o h (fun e => by rw [hn] at e; cases e) fun a _ ha => ?_
  refine ⟨_, rfl, ?_⟩
  refine stTh (c := 0) (t' := { m.th n with st := 1 }) h n0 hx ha rfl (by decide) rfl fun w h => ?_
  have hx2 : (m.ths.set n.toNat { m.th n with st := 1 })[n.toNat]? = some { m.th n with st := 1 } := by rw [List.getElem?_set, if_pos rfl, if_pos (by omega)]
  refine h.dr fun w h => ?_
  refine ⟨_, rfl, q, h.ldd rfl, _, rfl, _, ldTh (c := 2) h n0 hx2 ha rfl, ?_⟩
  refine h.ixc (s := q) (j := (m.th n).co.toNat) (by show (m.th n).co = _; omega) hb1 fun a2 ha2 h0 hc => ⟨_, h0 _ rfl, ?_⟩
  refine ⟨_, rfl, _, ldTh (c := 1) h n0 hx2 ha rfl, Go.Vc.a2 ?_⟩
  have h := h.qout hb1 (q_get c0 c1)
  have hqok : QOk (m.q (m.th n).co) := by obtain ⟨_, e, _⟩ := h.queue; exact e
  have hlen := ids_len hqok hm.qline
  have hfew := hm.few
  refine ready_Queue_Put_spec h (by omega) fun w h => ?_
  have h := h.qin (qs := m.qs) hb1 (by omega)
  exact hK w (Own.mk_thr (m := m.lineUp n) (bs := bs) (by unfold Mt.lineUp Mt.setQ Mt.setTh; simpa using hbs) h)
theorem thr_leave_spec {n s : Int} {K : World → Prop} (hm : MOk m) (hn : m.isT n = true) (h : Own B w0 w (ThrA b m :: R)) (hK : ∀ w', Own B w0 w' (ThrA b (m.leave n s) :: R) → K w') : C.threads_Threads_leave (some ⟨b, 0, none⟩) n s K w := by
  apply S.threads_Threads_leave_ok
  unfold S.threads_Threads_leave
  obtain ⟨l, q, r, bs, hbs, h⟩ := h.thr
  obtain ⟨n0, n1, hx⟩ := isT_get hn
  obtain ⟨⟨c0, c1⟩, _⟩ := hm.th hn
  have hcr := hm.cores
  obtain ⟨b1, hb1⟩ : ∃ x, bs[(m.th n).co.toNat]? = some x := ⟨_, List.getElem?_eq_getElem (by omega)⟩
  refine thr_one_o h (fun e => by rw [hn] at e; cases e) fun a _ ha => ?_
  refine ⟨_, rfl, _, ldTh (c := 0) h n0 hx ha rfl, ?_⟩
  intro k hk
  have fin : ∀ w, Own B w0 w (BlkA b [slV l, slV q, slV r] :: SlT thE l m.ths :: SlT ptrE q bs :: SlT intE r (m.leave0 n).runs :: (List.zipWith QueueA bs (m.leave0 n).qs ++ R)) → k w := fun w h => by
    apply hk
    refine ⟨_, rfl, ?_⟩
    refine stTh (c := 0) (t' := { m.th n with st := s }) h n0 hx ha rfl (by decide) rfl fun w h => ?_
    refine hK w (Own.mk_thr (m := m.leave n s) (l := l) (q := q) (r := r) (bs := bs) ?_ ?_)
    · show bs.length = (m.leave0 n).qs.length
      rw [leave0_len.2]; exact hbs
    · have e : (m.leave n s).ths = m.ths.set n.toNat { m.th n with st := s } := by unfold Mt.leave Mt.setTh; rw [leave0_len.1]
      rw [e]; exact h
  refine ceq (fun e => ?_) (fun e => ?_)
  · have e1 : m.leave0 n = m.setQ (m.th n).co (takeR (m.q (m.th n).co) n).2 := by unfold Mt.leave0; rw [if_pos e]
    rw [e1] at fin
    refine h.dr fun w h => ?_
    refine ⟨_, rfl, q, h.ldd rfl, _, rfl, _, ldTh (c := 2) h n0 hx ha rfl, ?_⟩
    refine h.ixc (s := q) (j := (m.th n).co.toNat) (by show (m.th n).co = _; omega) hb1 fun a2 ha2 h0 hc => ⟨_, h0 _ rfl, Go.Vc.a2 ?_⟩
    have h := h.qout hb1 (q_get c0 c1)
    refine ready_Queue_Take_spec h fun w h => ?_
    exact fin w (h.qin (qs := m.qs) hb1 (by omega))
  refine ceq (fun e2 => ?_) (fun e2 => ?_)
  · have e1 : m.leave0 n = m.setR (m.th n).co (-1) := by unfold Mt.leave0; rw [if_neg e, if_pos e2]
    rw [e1] at fin
    refine h.dr fun w h => ?_
    refine ⟨_, rfl, r, h.ldd rfl, _, rfl, _, ldTh (c := 2) h n0 hx ha rfl, ?_⟩
    refine h.ixc (s := r) (j := (m.th n).co.toNat) (by show (m.th n).co = _; omega) (r_get (m := m) c0 (by omega)) fun a2 ha2 h0 hc => Go.Vc.a2 ?_
    refine Own.stEc (s := r) (E := intE) (xs := m.runs) (i := (m.th n).co) (j := (m.th n).co.toNat) h (-1) (by omega) (by omega) ha2 rfl fun w h => ?_
    exact fin w h.up3.up3.up3
  · have e1 : m.leave0 n = m := by unfold Mt.leave0; rw [if_neg e, if_neg e2]
    rw [e1] at fin
    exact fin w h
end
end Go.Proofs.Ytgkebkfabegflaa
