/- Threads of layer 10: new ones; made; picked; ticked. -/
import Derived.Test.YtgkebkfabegflaaTH3
import Derived.Test.YtgkebkfabegflaaS3
set_option linter.unusedVariables false
set_option linter.unusedSimpArgs false
set_option maxRecDepth 8000
namespace Go.Proofs.Ytgkebkfabegflaa
open Go Go.Vc Go.Proofs

section
variable {B : Nat} {w0 w : World} {R L : List Asn} {b : Nat} {m : Mt}
theorem next_mem {Q : Qs} {n : Int} (h : nextR Q = some n) : ∃ x ∈ Q, x.2 = n := by
  unfold nextR at h
  obtain ⟨p, hp, hl⟩ := Option.bind_eq_some_iff.1 h
  have hm := List.mem_of_head? hl
  unfold lineOf at hm
  obtain ⟨x, hx, e⟩ := List.mem_map.1 hm
  exact ⟨x, (List.mem_filter.1 hx).1, e⟩
theorem _root_.Go.Vc.Own.qsame {A1 A2 A3 A4 : Asn} {bs : List Nat} {c : Int} {b1 : Nat} (hb : bs[c.toNat]? = some b1) (c0 : 0 ≤ c) (c1 : c < m.qs.length) (h : Own B w0 w (QueueA b1 (m.q c) :: A1 :: A2 :: A3 :: A4 :: (List.zipWith QueueA bs m.qs ++ R).eraseIdx c.toNat)) :
    Own B w0 w (A1 :: A2 :: A3 :: A4 :: (List.zipWith QueueA bs m.qs ++ R)) := by
  have h3 := h.qin (qs := m.qs) hb (by omega)
  have e : m.qs.set c.toNat (m.q c) = m.qs := by
    apply List.ext_getElem?
    intro t
    rw [List.getElem?_set]
    by_cases e : c.toNat = t
    · subst e; rw [if_pos rfl, if_pos (by omega), q_get c0 c1]
    · rw [if_neg e]
  rw [e] at h3
  exact h3
def Mt.pickC (m : Mt) (c : Int) : Mt := if m.isC c then m.pick c else m
theorem setR_isC {n v k : Int} : (m.setR n v).isC k = m.isC k := rfl
theorem setR_isT {n v k : Int} : (m.setR n v).isT k = m.isT k := rfl
theorem MOk.runT (hm : MOk m) {c o : Int} (h : m.runs? c = some o) : m.isC c = true ∧ m.run c = o ∧ o ≠ -1 ∧ m.isT o = true := by
  unfold Mt.runs? at h
  split at h
  · rename_i hc
    cases h
    obtain ⟨c0, c1⟩ := isC_iff.1 hc.1
    have hcr := hm.cores
    have := hm.run _ (List.mem_of_getElem? (r_get (m := m) c0 (by omega)))
    refine ⟨hc.1, rfl, hc.2, ?_⟩
    rcases this with e | e
    · exact absurd e hc.2
    · unfold Mt.isT; simp; exact e
  · cases h
theorem MOk.nextT (hm : MOk m) {c n : Int} (h : nextR (m.q c) = some n) : 0 ≤ n ∧ m.isT n = true := by
  obtain ⟨x, hx, e⟩ := next_mem h
  have := hm.qline x hx
  rw [e] at this
  refine ⟨this.1, ?_⟩
  unfold Mt.isT; simp; exact this
theorem thr_Pick_spec {c : Int} {K : Int → Bool → World → Prop} (hm : MOk m) (h : Own B w0 w (ThrA b m :: R)) (hK : ∀ w', Own B w0 w' (ThrA b (m.pickC c) :: R) → K (((m.pickC c).runs? c).getD 0) ((m.pickC c).runs? c).isSome w') : C.threads_Threads_Pick (some ⟨b, 0, none⟩) c K w := by
  apply S.threads_Threads_Pick_ok
  unfold S.threads_Threads_Pick
  have hcr := hm.cores
  obtain ⟨l, q, r, bs, hbs, h⟩ := h.thr
  refine thr_core_o hbs h ?_
  unfold Mt.pickC at hK
  cases hc : m.isC c with
  | false =>
    rw [hc] at hK
    have e : m.runs? c = none := by unfold Mt.runs?; rw [if_neg (by rw [hc]; simp)]
    refine cbT rfl ?_
    have := hK w (Own.mk_thr hbs h)
    simp only [Bool.false_eq_true, if_false, e] at this
    exact this
  | true =>
    rw [hc] at hK
    simp only [if_true] at hK
    obtain ⟨c0, c1⟩ := isC_iff.1 hc
    refine cbF rfl ?_
    refine thr_Runs_spec (c := c) hm (Own.mk_thr hbs h) fun w h => ?_
    obtain ⟨l, q, r, bs, hbs, h⟩ := h.thr
    obtain ⟨b1, hb1⟩ : ∃ x, bs[c.toNat]? = some x := ⟨_, List.getElem?_eq_getElem (by omega)⟩
    refine ⟨_, rfl, q, h.ldd rfl, ?_⟩
    refine h.ixc (s := q) (j := c.toNat) (by omega) hb1 fun a2 ha2 h0 hcc => ⟨_, h0 _ rfl, ?_⟩
    refine ready_Queue_Next_spec (h.qout hb1 (q_get c0 c1)) fun w h => ?_
    have h := h.qsame hb1 c0 c1
    intro k15 hk15
    refine h.dr fun w h => ?_
    have stay : ∀ w, m.pick c = m → Own B w0 w (ThrA b m :: R) → k15 true w := fun w e h => by
      rw [e] at hK
      exact hk15 _ _ (cbT rfl (hK w h))
    cases hn : nextR (m.q c) with
    | none =>
      refine cbT rfl ?_
      exact stay w (by unfold Mt.pick; rw [hn]) (Own.mk_thr hbs h)
    | some n =>
      rw [hn] at hk15
      obtain ⟨n0, hnT⟩ := hm.nextT hn
      obtain ⟨_, n1, hnx⟩ := isT_get hnT
      refine cbF rfl ?_
      have fin : ∀ (m1 : Mt) (w : World), MOk m1 → m1.isT n = true → m1.isC c = true → m.pick c = (m1.leave n 2).setR c n → Own B w0 w (ThrA b m1 :: R) →
          C.threads_Threads_leave (some ⟨b, 0, none⟩) n 2 (fun w20 =>
            ∃ a21 : Addr, some (⟨b, 0, none⟩ : Addr) = some a21 ∧
            ∃ runs22 : Sl, w20.cell? (a21.add 2) = some (.slice runs22.a runs22.len runs22.cap) ∧
            ∃ a23 : Addr, runs22.a = some a23 ∧ 0 ≤ c ∧ c < (runs22.len : Int) ∧
            St w20 (a23.add (c.toNat * 1)) (.int .i64 n) fun w24 => K n true w24) w := fun m1 w hm1 hT1 hC1 hp h => by
        refine thr_leave_spec hm1 hT1 h fun w h => ?_
        have hm2 := hm1.leave (s := 2) hT1
        have hcr2 := hm2.cores
        have hC2 : (m1.leave n 2).isC c = true := by rw [leave_isC]; exact hC1
        obtain ⟨d0, d1⟩ := isC_iff.1 hC2
        obtain ⟨l, q, r, bs, hbs, h⟩ := h.thr
        refine ⟨_, rfl, r, h.ldd rfl, ?_⟩
        refine h.ixc (s := r) (j := c.toNat) (by omega) (r_get (m := m1.leave n 2) c0 (by omega)) fun a ha h0 hcc => ?_
        refine Own.stEc (s := r) (E := intE) (xs := (m1.leave n 2).runs) (i := c) (j := c.toNat) h n (by omega) (by omega) ha rfl fun w h => ?_
        have h2 : Own B w0 w (ThrA b ((m1.leave n 2).setR c n) :: R) := Own.mk_thr (m := (m1.leave n 2).setR c n) hbs h.up3.up3.up3
        have hrun : ((m1.leave n 2).setR c n).runs? c = some n := by
          unfold Mt.runs?
          have e : ((m1.leave n 2).setR c n).run c = n := by
            unfold Mt.run Mt.setR
            rw [if_neg (by omega)]
            simp only
            rw [List.getElem?_set, if_pos rfl, if_pos (by omega)]; rfl
          rw [e, if_pos ⟨by rw [setR_isC]; exact hC2, by omega⟩]
        rw [hp] at hK
        have := hK w h2
        rw [hrun] at this
        exact this
      cases hr : m.runs? c with
      | none =>
        have hr1 : m.run c = -1 := by
          unfold Mt.runs? at hr
          split at hr
          · cases hr
          · rename_i hh
            by_cases e : m.run c = -1
            · exact e
            · exact absurd ⟨hc, e⟩ hh
        rw [hr] at hk15
        refine cbF rfl (hk15 _ _ (cbF rfl ?_))
        intro k18 hk18
        refine cbF rfl (hk18 _ ?_)
        exact fin m w hm hnT hc (by unfold Mt.pick; rw [hn]; simp only; rw [if_pos hr1]) (Own.mk_thr hbs h)
      | some o =>
        obtain ⟨_, hro, ho1, hoT⟩ := hm.runT hr
        obtain ⟨o0, o1, hox⟩ := isT_get hoT
        rw [hr] at hk15
        refine cbT rfl ?_
        refine ⟨_, rfl, l, h.ldc rfl, ?_⟩
        refine h.ixc (s := l) (i := n) (j := n.toNat) (by omega) hnx fun a ha h0 hcc => ⟨_, hcc 1 _ rfl, _, rfl, l, h.ldc rfl, ?_⟩
        refine h.ixc (s := l) (i := o) (j := o.toNat) (by omega) hox fun a ha h0 hcc => ⟨_, hcc 1 _ rfl, ?_⟩
        refine (fun (hstay : (m.th n).pr ≤ (m.th o).pr → k15 true w) (hgo : ¬ (m.th n).pr ≤ (m.th o).pr → k15 false w) => ?_) ?_ ?_
        · show k15 (decide ((m.th n).pr ≤ (m.th o).pr)) w
          by_cases e : (m.th n).pr ≤ (m.th o).pr
          · rw [decide_eq_true e]; exact hstay e
          · rw [decide_eq_false e]; exact hgo e
        · intro e
          exact stay w (by unfold Mt.pick; rw [hn]; simp only; rw [if_neg (by rw [hro]; exact ho1), hro, if_pos e]) (Own.mk_thr hbs h)
        · intro e
          refine hk15 _ _ (cbF rfl ?_)
          intro k18 hk18
          refine cbT rfl ?_
          refine thr_leave_spec hm hoT (Own.mk_thr hbs h) fun w h => ?_
          have hm2 := hm.leave (s := 1) hoT
          have hT2 : (m.leave o 1).isT o = true := by rw [leave_isT]; exact hoT
          refine thr_lineUp_spec hm2 hT2 h fun w h => ?_
          refine hk18 _ ?_
          exact fin ((m.leave o 1).lineUp o) w (hm2.lineUp hT2) (by rw [lineUp_isT, leave_isT]; exact hnT) (by rw [lineUp_isC, leave_isC]; exact hc) (by
            unfold Mt.pick; rw [hn]; simp only; rw [if_neg (by rw [hro]; exact ho1), hro, if_neg e]) h
end
end Go.Proofs.Ytgkebkfabegflaa
