/- The document's answer on threads: what its calls come to. -/
import Derived.Test.YtgkebkfabegflaaTH18
import Derived.Test.YtgkebkfabegflaaS2
set_option linter.unusedVariables false
set_option linter.unusedSimpArgs false
set_option maxRecDepth 8000
namespace Go.Proofs.Ytgkebkfabegflaa
open Go Go.Vc Go.Proofs

section
variable {B : Nat} {w0 w : World} {R L : List Asn} {b : Nat} {m m1 : Mt}
theorem setTh_fld {n : Int} {t : Thd} (h : m1.th n = m.th n) : True := trivial
/-- A thread's field, written in the document's threads. -/
theorem stRth {n : Int} {t' : Thd} {c : Nat} {v : Value} {k : World → Prop} (hn : m.isT n = true) (h : Own B w0 w (RthA b m :: R)) (he : thE.enc t' = (thE.enc (m.th n)).set c v) (hc : c < 12) (hv : v.oneCell' = true)
    (hk : ∀ w', Own B w0 w' (RthA b (m.setTh n t') :: R) → k w') : ∃ a : Addr, some (⟨b, 0, none⟩ : Addr) = some a ∧ ∃ l : Sl, w.cell? a = some (.slice l.a l.len l.cap) ∧ ∃ a2 : Addr, l.a = some a2 ∧ 0 ≤ n ∧ n < (l.len : Int) ∧ St w ((a2.add (n.toNat * 12)).add c) v k := by
  obtain ⟨n0, n1, hx⟩ := isT_get hn
  obtain ⟨l, q, bs, hbs, h⟩ := h.rth
  refine ⟨_, rfl, l, h.ldc rfl, ?_⟩
  refine h.ixc (s := l) (i := n) (j := n.toNat) (by omega) hx fun a ha h0 hcc => ?_
  exact stR (c := c) (t' := t') h n0 hx ha he hc hv fun w h => hk w (Own.mk_rth (m := m.setTh n t') hbs h)
/-- A thread's field, looked at in the document's threads. -/
theorem ldRth {n x : Int} {c : Nat} {k : Int → Prop} (hn : m.isT n = true) (h : Own B w0 w (RthA b m :: R)) (he : (thE.enc (m.th n))[c]? = some (.int .i64 x)) (hk : k x) :
    ∃ a : Addr, some (⟨b, 0, none⟩ : Addr) = some a ∧ ∃ l : Sl, w.cell? a = some (.slice l.a l.len l.cap) ∧ ∃ a2 : Addr, l.a = some a2 ∧ 0 ≤ n ∧ n < (l.len : Int) ∧ ∃ y : Int, w.cell? ((a2.add (n.toNat * 12)).add c) = some (.int .i64 y) ∧ k y := by
  obtain ⟨n0, n1, hx⟩ := isT_get hn
  obtain ⟨l, q, bs, hbs, h⟩ := h.rth
  refine ⟨_, rfl, l, h.ldc rfl, ?_⟩
  exact h.ixc (s := l) (i := n) (j := n.toNat) (by omega) hx fun a ha h0 hcc => ⟨_, hcc c _ he, hk⟩
theorem ref10_Resume_spec {n : Int} {K : Int → World → Prop} (hi : InvX (-1) m) (h : Own B w0 w (RthA b m :: R)) (hK : ∀ w', Own B w0 w' (RthA b (m.resumeR n).2 :: R) → K (m.resumeR n).1 w') : C.ref10_Threads_Resume (some ⟨b, 0, none⟩) n K w := by
  apply S.ref10_Threads_Resume_ok
  unfold S.ref10_Threads_Resume
  unfold Mt.resumeR at hK
  refine ref10_is_spec h ?_
  cases hT : m.isT n with
  | false => rw [if_pos hT] at hK; exact cbT rfl (hK w h)
  | true =>
    rw [if_neg (by rw [hT]; simp)] at hK
    refine cbF rfl ?_
    intro k5 hk5
    have bad : (m.th n).st = 1 ∨ (m.th n).st = 2 → k5 true w := fun e => by
      rw [if_pos e] at hK; exact hk5 _ _ (cbT rfl (hK w h))
    refine ldRth (c := 0) hT h rfl ?_
    refine ceq (fun e => bad (.inl e)) (fun e => ?_)
    refine ldRth (c := 0) hT h rfl ?_
    by_cases e2 : (m.th n).st = 2
    · rw [show ((m.th n).st == 2) = true from by simpa using e2]; exact bad (.inr e2)
    · rw [show ((m.th n).st == 2) = false from by simpa using e2]
      rw [if_neg (fun hh => hh.elim e e2)] at hK
      exact hk5 _ _ (cbF rfl (ref10_up_spec hi.ok hT h hK))
theorem ref10_Suspend_spec {n : Int} {K : Int → World → Prop} (hi : InvX (-1) m) (h : Own B w0 w (RthA b m :: R)) (hK : ∀ w', Own B w0 w' (RthA b (m.suspendR n).2 :: R) → K (m.suspendR n).1 w') : C.ref10_Threads_Suspend (some ⟨b, 0, none⟩) n K w := by
  apply S.ref10_Threads_Suspend_ok
  unfold S.ref10_Threads_Suspend
  unfold Mt.suspendR at hK
  refine ref10_is_spec h ?_
  cases hT : m.isT n with
  | false => rw [if_pos hT] at hK; exact cbT rfl (hK w h)
  | true =>
    rw [if_neg (by rw [hT]; simp)] at hK
    refine cbF rfl ?_
    refine ldRth (c := 0) hT h rfl ?_
    refine ceq (fun e => ?_) (fun e => ?_)
    · rw [if_pos e] at hK; exact hK w h
    · rw [if_neg e] at hK
      refine ref10_out_spec hi hT h fun w h => ?_
      refine stRth (c := 0) (t' := { m.th n with st := 0 }) (by rw [leave0_isT]; exact hT) h (by rw [leave0_th]; rfl) (by decide) rfl fun w h => ?_
      exact hK w h
theorem ref10_Block_spec {n : Int} {K : Int → World → Prop} (hi : InvX (-1) m) (h : Own B w0 w (RthA b m :: R)) (hK : ∀ w', Own B w0 w' (RthA b (m.blockR n).2 :: R) → K (m.blockR n).1 w') : C.ref10_Threads_Block (some ⟨b, 0, none⟩) n K w := by
  apply S.ref10_Threads_Block_ok
  unfold S.ref10_Threads_Block
  unfold Mt.blockR at hK
  refine ref10_is_spec h ?_
  cases hT : m.isT n with
  | false => rw [if_pos hT] at hK; exact cbT rfl (hK w h)
  | true =>
    rw [if_neg (by rw [hT]; simp)] at hK
    refine cbF rfl ?_
    refine ldRth (c := 0) hT h rfl ?_
    refine cne (fun e => ?_) (fun e => ?_)
    · rw [if_pos e] at hK; exact hK w h
    · rw [if_neg (fun hh => hh e)] at hK
      refine stRth (c := 0) (t' := { m.th n with st := 3 }) hT h rfl (by decide) rfl fun w h => ?_
      have e1 : RthA b (m.leave n 3) = RthA b (m.setTh n { m.th n with st := 3 }) := by
        unfold Mt.leave Mt.leave0
        rw [if_neg (by omega), if_pos e]
        exact rth_eq rfl rfl
      rw [e1] at hK
      exact hK w h
theorem ref10_Prio_spec {n p : Int} {K : Int → World → Prop} (hi : InvX (-1) m) (h : Own B w0 w (RthA b m :: R)) (hK : ∀ w', Own B w0 w' (RthA b (m.prioR n p).2 :: R) → K (m.prioR n p).1 w') : C.ref10_Threads_Prio (some ⟨b, 0, none⟩) n p K w := by
  apply S.ref10_Threads_Prio_ok
  unfold S.ref10_Threads_Prio
  unfold Mt.prioR at hK
  refine ref10_is_spec h ?_
  cases hT : m.isT n with
  | false => rw [if_pos hT] at hK; exact cbT rfl (hK w h)
  | true =>
    rw [if_neg (by rw [hT]; simp)] at hK
    refine cbF rfl ?_
    refine ref10_prio_spec ?_
    by_cases hp : 0 ≤ p ∧ p < 256
    · rw [if_neg (fun hh => hh hp)] at hK
      rw [decide_eq_true hp]
      refine cbF rfl ?_
      refine ref10_out_spec hi hT h fun w h => ?_
      have hT0 : (m.leave0 n).isT n = true := by rw [leave0_isT]; exact hT
      refine stRth (c := 1) (t' := { m.th n with pr := p }) hT0 h (by rw [leave0_th]; rfl) (by decide) rfl fun w h => ?_
      have hT1 : ((m.leave0 n).setTh n { m.th n with pr := p }).isT n = true := by rw [setTh_isT]; exact hT0
      have e1 : ((m.leave0 n).setTh n { m.th n with pr := p }).th n = { m.th n with pr := p } := by rw [th_setTh hT0, if_pos rfl]
      refine ldRth (x := (m.th n).st) (c := 0) hT1 h (by rw [e1]; rfl) ?_
      refine ceq (fun e => ?_) (fun e => ?_)
      · rw [if_pos e] at hK
        have hs : m.th n = { m.th n with st := 1 } := by
          have : (m.th n).st = 1 := e
          cases hth : m.th n with
          | mk a b c d f => rw [hth] at this; have this : a = 1 := this; subst this; rfl
        have e2 : ((m.leave n 1).setTh n { (m.leave n 1).th n with pr := p }) = (m.leave0 n).setTh n { m.th n with pr := p } := by
          rw [th_leave hT, if_pos rfl]
          unfold Mt.leave
          rw [setTh2, ← hs]
        rw [e2] at hK
        have hm2 : MOk ((m.leave0 n).setTh n { m.th n with pr := p }) := hi.ok.leave0.setTh (t := { m.th n with pr := p }) (by rw [leave0_len.2]; exact (hi.ok.th hT).1) rfl
        exact ref10_up_spec hm2 hT1 h hK
      · rw [if_neg e] at hK
        have e2 : RthA b (m.setTh n { m.th n with pr := p }) = RthA b ((m.leave0 n).setTh n { m.th n with pr := p }) := by
          unfold Mt.leave0
          rw [if_neg e]
          split <;> exact rth_eq rfl rfl
        rw [e2] at hK
        exact hK w h
    · rw [if_pos hp] at hK
      rw [decide_eq_false hp]
      exact cbT rfl (hK w h)
theorem ref10_Core_spec {n c : Int} {K : Int → World → Prop} (hi : InvX (-1) m) (h : Own B w0 w (RthA b m :: R)) (hK : ∀ w', Own B w0 w' (RthA b (m.coreR n c).2 :: R) → K (m.coreR n c).1 w') : C.ref10_Threads_Core (some ⟨b, 0, none⟩) n c K w := by
  apply S.ref10_Threads_Core_ok
  unfold S.ref10_Threads_Core
  unfold Mt.coreR at hK
  refine ref10_is_spec h ?_
  cases hT : m.isT n with
  | false => rw [if_pos hT] at hK; exact cbT rfl (hK w h)
  | true =>
    rw [if_neg (by rw [hT]; simp)] at hK
    refine cbF rfl ?_
    refine ref10_core_spec h ?_
    cases hc : m.isC c with
    | false => rw [if_pos hc] at hK; exact cbT rfl (hK w h)
    | true =>
      rw [if_neg (by rw [hc]; simp)] at hK
      refine cbF rfl ?_
      refine ldRth (c := 2) hT h rfl ?_
      refine ceq (fun e => ?_) (fun e => ?_)
      · rw [if_pos e] at hK; exact hK w h
      rw [if_neg e] at hK
      refine ref10_out_spec hi hT h fun w h => ?_
      have hT0 : (m.leave0 n).isT n = true := by rw [leave0_isT]; exact hT
      refine stRth (c := 2) (t' := { m.th n with co := c }) hT0 h (by rw [leave0_th]; rfl) (by decide) rfl fun w h => ?_
      have hT1 : ((m.leave0 n).setTh n { m.th n with co := c }).isT n = true := by rw [setTh_isT]; exact hT0
      have e1 : ((m.leave0 n).setTh n { m.th n with co := c }).th n = { m.th n with co := c } := by rw [th_setTh hT0, if_pos rfl]
      have e2 : m.toCore0 n c = (m.leave0 n).setTh n { m.th n with co := c } := by
        unfold Mt.toCore0
        rw [th_leave hT, if_pos rfl]
        unfold Mt.leave
        rw [setTh2]
      have e3 : m.toCore n c = ((m.leave0 n).setTh n { m.th n with co := c }).lineUp n := by rw [← e2]; rfl
      rw [e2, e3] at hK
      have hm2 : MOk ((m.leave0 n).setTh n { m.th n with co := c }) := hi.ok.leave0.setTh (t := { m.th n with co := c }) (by rw [leave0_len.2]; exact isC_iff.1 hc) rfl
      intro k17 hk17
      have go : ∀ t : Bool, (t = true ↔ ((m.th n).st = 1 ∨ (m.th n).st = 2)) → k17 t w := fun t ht => by
        refine hk17 _ _ ?_
        cases t with
        | true =>
          rw [if_pos (ht.1 rfl)] at hK
          exact cbT rfl (ref10_up_spec hm2 hT1 h hK)
        | false =>
          rw [if_neg (fun hh => by have := ht.2 hh; cases this)] at hK
          exact cbF rfl (hK w h)
      refine ldRth (x := (m.th n).st) (c := 0) hT1 h (by rw [e1]; rfl) ?_
      refine ceq (fun e => go true (by simp [e])) (fun e => ?_)
      refine ldRth (x := (m.th n).st) (c := 0) hT1 h (by rw [e1]; rfl) ?_
      exact go _ (by simp [e])
theorem ref10_Make_spec {p c : Int} {K : Int → Int → World → Prop} (hm : MOk m) (h : Own B w0 w (RthA b m :: R)) (hK : ∀ w', Own B w0 w' (RthA b (m.makeR p c).2.2 :: R) → K (m.makeR p c).1 (m.makeR p c).2.1 w') : C.ref10_Threads_Make (some ⟨b, 0, none⟩) p c K w := by
  apply S.ref10_Threads_Make_ok
  unfold S.ref10_Threads_Make
  unfold Mt.makeR at hK
  have hfew := hm.few
  intro k4 hk4
  have bad : ¬ (0 ≤ p ∧ p < 256 ∧ m.isC c = true) → k4 true w := fun e => by
    rw [if_pos e] at hK; exact hk4 _ _ (cbT rfl (hK w h))
  refine ref10_prio_spec ?_
  by_cases hp : 0 ≤ p ∧ p < 256
  · rw [decide_eq_true hp]
    refine cbF rfl ?_
    refine ref10_core_spec h ?_
    cases hc : m.isC c with
    | false => exact bad fun hh => by rw [hc] at hh; cases hh.2.2
    | true =>
      rw [if_neg (fun hh => hh ⟨hp.1, hp.2, hc⟩)] at hK
      refine hk4 _ _ (cbF rfl ?_)
      obtain ⟨l, q, bs, hbs, h⟩ := h.rth
      have hl := h.lenc l
      refine ⟨_, rfl, l, h.ldc rfl, ?_⟩
      refine cdec (fun e2 => ?_) (fun e2 => ?_)
      · rw [if_pos (by omega)] at hK
        exact hK w (Own.mk_rth hbs h)
      · rw [if_neg (by omega)] at hK
        refine ⟨_, rfl, l, h.ldc rfl, ?_⟩
        refine h.al fun w1 h => ?_
        generalize w.heap.size = d at h ⊢
        refine Own.app1c (s := l) (E := thE) (xs := m.ths) (y := ⟨0, p, c, 5, fun _ => 0⟩) Try.underlying57 (show Try.prog.info? 37 = some Try.t37 from by kernel_rfl) (zv := (Try.t37.zero).get (by kernel_rfl)) (by kernel_rfl) (by kernel_rfl) (by kernel_rfl) (by decide) h (by
          have e : Try.t37.bytes = 96 := by kernel_rfl
          rw [e]; omega) fun s' w hs' h => ?_
        refine ⟨_, rfl, ?_⟩
        have h := h.up1
        refine h.stc rfl rfl fun w h => ?_
        refine ⟨_, rfl, s', h.ldc rfl, ?_⟩
        rw [show IntKind.i64.wrap ((s'.len : Int) - 1) = (m.ths.length : Int) from by rw [hs', wr (by omega) (by omega)]; omega]
        exact hK w (Own.mk_rth (m := m.make p c) (l := s') (q := q) (bs := bs) hbs h)
  · rw [decide_eq_false hp]
    exact cbT rfl (bad fun hh => hp ⟨hh.1, hh.2.1⟩)
theorem lineUp_rth (hi : InvX (-1) m) {o : Int} (hT : m.isT o = true) (hs : (m.th o).st = 2) : RthA b ((m.leave o 1).lineUp o) = RthA b (m.lineUp o) := by
  have e1 : (m.leave o 1).th o = { m.th o with st := 1 } := by rw [th_leave hT, if_pos rfl]
  have e2 : ∀ c, (m.leave o 1).q c = m.q c := fun c => by
    unfold Mt.leave Mt.leave0
    rw [if_neg (by omega), if_pos hs]; rfl
  have e3 : (m.leave o 1).ths = m.ths.set o.toNat { m.th o with st := 1 } ∧ (m.leave o 1).qs = m.qs := by
    unfold Mt.leave Mt.leave0
    rw [if_neg (by omega), if_pos hs]; exact ⟨rfl, rfl⟩
  unfold Mt.lineUp
  rw [e1, e2]
  unfold Mt.setTh Mt.setQ
  refine rth_eq ?_ ?_
  · simp only; rw [e3.1, List.set_set]
  · simp only; rw [e3.2]
theorem ref10_Pick_spec {c : Int} {K : Int → Bool → World → Prop} (hi : InvX (-1) m) (h : Own B w0 w (RthA b m :: R)) (hK : ∀ w', Own B w0 w' (RthA b (m.pickC c) :: R) → K (((m.pickC c).runs? c).getD 0) ((m.pickC c).runs? c).isSome w') : C.ref10_Threads_Pick (some ⟨b, 0, none⟩) c K w := by
  apply S.ref10_Threads_Pick_ok
  unfold S.ref10_Threads_Pick
  have hi2 := hi.pickC c
  refine ref10_core_spec h ?_
  cases hc : m.isC c with
  | false =>
    have e : m.runs? c = none := by unfold Mt.runs?; rw [if_neg (by rw [hc]; simp)]
    have e2 : m.pickC c = m := by unfold Mt.pickC; rw [hc]; rfl
    rw [e2, e] at hK
    exact cbT rfl (hK w h)
  | true =>
    obtain ⟨c0, c1⟩ := isC_iff.1 hc
    refine cbF rfl ?_
    refine ref10_Runs_spec hi.ok (hi.runsOk c) h ?_
    obtain ⟨l, q, bs, hbs, h⟩ := h.rth
    obtain ⟨b1, hb1⟩ : ∃ x, bs[c.toNat]? = some x := ⟨_, List.getElem?_eq_getElem (by omega)⟩
    refine ⟨_, rfl, q, h.ldd rfl, ?_⟩
    refine h.ixc (s := q) (j := c.toNat) (by omega) hb1 fun a2 ha2 h0 hcc => ⟨_, h0 _ rfl, ?_⟩
    refine ref09_Queue_Next_spec (h.rqout hb1 (q_get c0 c1)) fun w h => ?_
    have h := h.rqin (qs := m.qs) hb1 (by omega)
    rw [set_same c0 c1] at h
    have h : Own B w0 w (RthA b m :: R) := Own.mk_rth hbs h
    intro k15 hk15
    refine h.dr fun w h => ?_
    have fin : ∀ w, Own B w0 w (RthA b (m.pickC c) :: R) → C.ref10_Threads_Runs (some ⟨b, 0, none⟩) c (fun r20 r21 w22 => K r20 r21 w22) w := fun w h => ref10_Runs_spec hi2.ok (hi2.runsOk c) h (hK w h)
    have stay : m.pickC c = m → k15 false w := fun e => by
      refine hk15 _ _ ?_
      intro k18 hk18
      refine cbF rfl (hk18 _ ?_)
      rw [e] at fin
      exact fin w h
    have pc : m.pickC c = m.pick c := by unfold Mt.pickC; rw [hc]; rfl
    cases hn : nextR (m.q c) with
    | none =>
      refine cbF rfl (stay ?_)
      rw [pc]; unfold Mt.pick; rw [hn]
    | some n =>
      obtain ⟨hT, hco, hst⟩ := hi.nextIn hc hn
      rw [hn] at hk15
      refine cbT rfl ?_
      have last : ∀ (m1 : Mt) (w : World) (k : World → Prop), InvX (-1) m1 → m1.isT n = true → m.pickC c = (m1.leave n 2).setR c n → (∀ w', Own B w0 w' (RthA b (m.pickC c) :: R) → k w') → Own B w0 w (RthA b m1 :: R) → C.ref10_Threads_out (some ⟨b, 0, none⟩) n (fun w25 =>
   ∃ a26 : Addr, some (⟨b, 0, none⟩ : Addr) = some a26 ∧
   ∃ l27 : Sl, w25.cell? a26 = some (.slice l27.a l27.len l27.cap) ∧
   ∃ a28 : Addr, l27.a = some a28 ∧ 0 ≤ n ∧ n < (l27.len : Int) ∧
   St w25 (a28.add (n.toNat * 12)) (.int .i64 (2 : Int)) fun w29 => k w29) w := fun m1 w k hi1 hT1 hp hk h => by
        refine ref10_out_spec hi1 hT1 h fun w h => ?_
        refine stRth (c := 0) (t' := { m1.th n with st := 2 }) (by rw [leave0_isT]; exact hT1) h (by rw [leave0_th]; rfl) (by decide) rfl fun w h => ?_
        rw [hp] at hk
        exact hk w h
      cases hr : m.runs? c with
      | none =>
        have hr1 : m.run c = -1 := by
          unfold Mt.runs? at hr
          split at hr
          · cases hr
          · rename_i hh
            by_cases e : m.run c = -1
            · exact e
            · exact absurd ⟨hc, e⟩ hh
        rw [hr] at hk15
        refine cbT rfl (hk15 _ _ ?_)
        intro k18 hk18
        refine cbT rfl ?_
        intro k23 hk23
        refine cbF rfl (hk23 _ ?_)
        exact last m w k18 hi hT (by rw [pc]; unfold Mt.pick; rw [hn]; simp only; rw [if_pos hr1]) (fun w h => hk18 _ (fin w h)) h
      | some o =>
        obtain ⟨_, oT, oco, ost⟩ := hi.runIn hr
        have ho := hi.ok.runT hr
        rw [hr] at hk15
        refine cbF rfl ?_
        refine ldRth (c := 1) hT h rfl ?_
        refine ldRth (c := 1) oT h rfl ?_
        show k15 (decide ((m.th n).pr > (m.th o).pr)) w
        by_cases e : (m.th n).pr > (m.th o).pr
        · rw [decide_eq_true e]
          refine hk15 _ _ ?_
          intro k18 hk18
          refine cbT rfl ?_
          intro k23 hk23
          refine cbT rfl ?_
          refine ref10_up_spec (n := o) hi.ok oT h fun w h => hk23 _ ?_
          have oT1 : (m.leave o 1).isT o = true := by rw [leave_isT]; exact oT
          rw [← lineUp_rth hi oT ost] at h
          refine last ((m.leave o 1).lineUp o) w k18 ((hi.leave oT).up oT1) (by rw [lineUp_isT, leave_isT]; exact hT) ?_ (fun w h => hk18 _ (fin w h)) h
          rw [pc]; unfold Mt.pick; rw [hn]; simp only; rw [if_neg (by rw [ho.2.1]; exact ho.2.2.1), ho.2.1, if_neg (by omega)]
        · rw [decide_eq_false e]
          refine stay ?_
          rw [pc]; unfold Mt.pick; rw [hn]; simp only; rw [if_neg (by rw [ho.2.1]; exact ho.2.2.1), ho.2.1, if_pos (by omega)]
theorem runsOk_le {c o v : Int} (hi : InvX (-1) m) (hT : m.isT o = true) : RunsOk (m.setTh o { m.th o with le := v }) c := fun i hiT => by
  rw [setTh_isT] at hiT
  rw [th_setTh hT]
  have := hi.runsOk c i hiT
  show m.runs? c = some i ↔ _
  rw [this]
  by_cases e : i = o
  · subst e; rw [if_pos rfl]
  · rw [if_neg e]
theorem ref10_Yield_some {c o v : Int} {K : Bool → World → Prop} (hi : InvX (-1) m) (hr : m.runs? c = some o) (h : Own B w0 w (RthA b (m.setTh o { m.th o with le := v }) :: R)) (hK : ∀ w', Own B w0 w' (RthA b (m.yield c) :: R) → K true w') : C.ref10_Threads_Yield (some ⟨b, 0, none⟩) c K w := by
  apply S.ref10_Threads_Yield_ok
  unfold S.ref10_Threads_Yield
  obtain ⟨hc, oT, oco, ost⟩ := hi.runIn hr
  have oT1 : ∀ t, (m.setTh o t).isT o = true := fun t => by rw [setTh_isT]; exact oT
  refine ref10_Runs_spec (hi.ok.setTh (t := { m.th o with le := v }) (hi.ok.th oT).1 rfl) (runsOk_le hi oT) h ?_
  have hr2 : (m.setTh o { m.th o with le := v }).runs? c = some o := hr
  rw [hr2]
  refine cbF rfl ?_
  have e1 : (m.setTh o { m.th o with le := v }).th o = { m.th o with le := v } := by rw [th_setTh oT, if_pos rfl]
  refine stRth (n := o) (c := 3) (t' := { m.th o with le := 5 }) (oT1 _) h (show thE.enc { m.th o with le := 5 } = (thE.enc ((m.setTh o { m.th o with le := v }).th o)).set 3 (.int .i64 5) from by rw [e1]; rfl) (by decide) rfl fun w h => ?_
  rw [setTh2] at h
  have hi1 : InvX (-1) (m.setTh o { m.th o with le := 5 }) := hi.keep (t := { m.th o with le := 5 }) oT rfl rfl (fun _ => rfl) (hi.pr o oT) ⟨by show (1 : Int) ≤ 5; decide, by show (5 : Int) ≤ 5; decide⟩
  refine ref10_up_spec (n := o) hi1.ok (oT1 _) h fun w h => ?_
  rw [← lineUp_rth hi1 (oT1 _) (by rw [th_setTh oT, if_pos rfl]; exact ost)] at h
  have hy : m.yield c = (((m.setTh o { m.th o with le := 5 }).leave o 1).lineUp o).pickC c := by unfold Mt.yield; rw [hr]
  rw [hy] at hK
  exact ref10_Pick_spec ((hi1.leave (oT1 _)).up (by rw [leave_isT]; exact oT1 _)) h fun w h => hK w h
theorem ref10_Yield_spec {c : Int} {K : Bool → World → Prop} (hi : InvX (-1) m) (h : Own B w0 w (RthA b m :: R)) (hK : ∀ w', Own B w0 w' (RthA b (m.yield c) :: R) → K (m.runs? c).isSome w') : C.ref10_Threads_Yield (some ⟨b, 0, none⟩) c K w := by
  cases hr : m.runs? c with
  | none =>
    apply S.ref10_Threads_Yield_ok
    unfold S.ref10_Threads_Yield
    refine ref10_Runs_spec hi.ok (hi.runsOk c) h ?_
    unfold Mt.yield at hK
    rw [hr] at hK ⊢
    exact cbT rfl (hK w h)
  | some o =>
    obtain ⟨hc, oT, oco, ost⟩ := hi.runIn hr
    rw [hr] at hK
    refine ref10_Yield_some (o := o) (v := (m.th o).le) hi hr ?_ hK
    obtain ⟨o0, o1, hx⟩ := isT_get oT
    have : m.setTh o { m.th o with le := (m.th o).le } = m := by
      unfold Mt.setTh
      have e : m.ths.set o.toNat (m.th o) = m.ths := by
        apply List.ext_getElem?
        intro t
        rw [List.getElem?_set]
        by_cases e : o.toNat = t
        · subst e; rw [if_pos rfl, if_pos (by omega), hx]
        · rw [if_neg e]
      show { m with ths := m.ths.set o.toNat (m.th o) } = m
      rw [e]
    rw [this]; exact h
theorem ref10_Tick_spec {c : Int} {K : Bool → World → Prop} (hi : InvX (-1) m) (h : Own B w0 w (RthA b m :: R)) (hK : ∀ w', Own B w0 w' (RthA b (m.tick c) :: R) → K (m.runs? c).isSome w') : C.ref10_Threads_Tick (some ⟨b, 0, none⟩) c K w := by
  apply S.ref10_Threads_Tick_ok
  unfold S.ref10_Threads_Tick
  refine ref10_Runs_spec hi.ok (hi.runsOk c) h ?_
  rw [tick_eq hi] at hK
  cases hr : m.runs? c with
  | none =>
    rw [hr] at hK
    exact cbT rfl (hK w h)
  | some o =>
    obtain ⟨hc, oT, oco, ost⟩ := hi.runIn hr
    obtain ⟨o0, o1, hx⟩ := isT_get oT
    have hle := hi.le o oT
    rw [hr] at hK
    simp only at hK
    refine cbF rfl ?_
    refine h.dr fun w h => ?_
    have h2 := h
    obtain ⟨l, q, bs, hbs, h⟩ := h.rth
    refine ⟨_, rfl, l, h.ldc rfl, _, rfl, l, h.ldc rfl, ?_⟩
    refine h.ixc (s := l) (i := o) (j := o.toNat) (by omega) hx fun a ha h0 hcc => ⟨_, hcc 3 _ rfl, ?_⟩
    refine h.ixc (s := l) (i := o) (j := o.toNat) (by omega) hx fun a ha h0 hcc => Go.Vc.a2 ?_
    rw [wr (by omega) (by omega)]
    refine stR (c := 3) (t' := { m.th o with le := (m.th o).le - 1 }) h o0 hx ha rfl (by decide) rfl fun w h => ?_
    have h : Own B w0 w (RthA b (m.setTh o { m.th o with le := (m.th o).le - 1 }) :: R) := Own.mk_rth (m := m.setTh o { m.th o with le := (m.th o).le - 1 }) hbs h
    refine ldRth (n := o) (x := (m.th o).le - 1) (c := 3) (by rw [setTh_isT]; exact oT) h (by rw [th_setTh oT, if_pos rfl]; rfl) ?_
    refine ceq (fun e => ?_) (fun e => ?_)
    · rw [if_pos (by omega)] at hK
      exact ref10_Yield_some hi hr h fun w h => hK w h
    · rw [if_neg (by omega)] at hK
      exact hK w h
theorem app1_rptr {s : Sl} {ys : List Nat} {y : Nat} {c : Nat} {L : List Asn} {k : Sl → World → Prop} [I : SlIn s L Nat ptrE ys] [J : Pick (SlT ptrE s ys) L R] (h : Own B w0 w (BlkA c [.pointer (some ⟨y, 0, none⟩)] :: L)) (hbig : ys.length ≤ 1000000000)
    (hk : ∀ s' w', s'.len = ys.length + 1 → Own B w0 w' (SlT ptrE s' (ys ++ [y]) :: R) → k s' w') :
    ∃ s' w', AppR Try.prog [58, 58] 58 (.slice s.a s.len s.cap) (.slice (some (Addr.mk c 0 none)) 1 1) w s' w' ∧ k s' w' :=
  Own.app1c (E := ptrE) (y := y) Try.underlying58 (show Try.prog.info? 84 = some Try.t84 from by kernel_rfl) (zv := .pointer none) (by kernel_rfl) (by kernel_rfl) rfl (by decide) h (by
    have e : Try.t84.bytes = 8 := by kernel_rfl
    rw [e]; omega) hk
theorem ref10_New_spec {c : Nat} {K : Option Addr → Int → World → Prop} (h1 : 1 ≤ c) (h8 : c ≤ 8) (h : Own B w0 w R) (hK1 : ∀ b w', Own B w0 w' (RthA b (newM c) :: R) → K (some ⟨b, 0, none⟩) 0 w') : C.ref10_New (c : Int) K w := by
  apply S.ref10_New_ok
  unfold S.ref10_New
  intro k2 hk2
  refine cdecF (by omega) ?_
  rw [decide_eq_false (show ¬ (c : Int) > 8 by omega)]
  refine hk2 _ _ (cbF rfl ?_)
  refine h.al fun w2 h => ?_
  generalize w.heap.size = t at h ⊢
  have h : Own B w0 w2 (SlT ptrE ⟨none, 0, 0⟩ [] :: _) := Own.nilS h
  have h : Own B w0 w2 (SlT thE ⟨none, 0, 0⟩ [] :: _) := Own.nilS h
  intro l9 hl9
  have loop : ∀ (k j : Nat) (q : Sl) (bs : List Nat) (w : World), j + k = c → bs.length = j → Own B w0 w (BlkA t [slV ⟨none, 0, 0⟩, slV q] :: SlT thE ⟨none, 0, 0⟩ [] :: SlT ptrE q bs :: (List.zipWith RefA bs (List.replicate j []) ++ R)) → l9 (j : Int) w := by
    intro k
    induction k with
    | zero =>
      intro j q bs w hj hbs h
      obtain rfl : j = c := by omega
      apply hl9
      refine cdecF (by omega) ?_
      exact hK1 t w (Own.mk_rth (m := newM j) (l := ⟨none, 0, 0⟩) (q := q) (bs := bs) (by simp [newM]; exact hbs) h)
    | succ k ih =>
      intro j q bs w hj hbs h
      apply hl9
      refine cdecT (by omega) ?_
      refine ⟨_, rfl, q, h.ldd rfl, ?_⟩
      refine h.al fun w3 h => ?_
      generalize w.heap.size = d3 at h ⊢
      have h : Own B w0 w3 (SlT inE ⟨none, 0, 0⟩ [] :: _) := Own.nilS h
      have h : Own B w0 w3 (RefA d3 [] :: _) := Own.mk_refq (s := ⟨none, 0, 0⟩) ⟨by simp, by simp, by simp⟩ h.up1
      refine h.al fun w4 h => ?_
      generalize w3.heap.size = d4 at h ⊢
      refine app1_rptr (s := q) (ys := bs) (y := d3) h (by omega) fun q' w hq' h => ?_
      refine ⟨_, rfl, ?_⟩
      refine h.std rfl rfl fun w h => ?_
      (dsimp only [putAt, List.set_cons_zero, List.set_cons_succ] at h)
      rw [show IntKind.i64.wrap ((j : Int) + 1) = ((j + 1 : Nat) : Int) from by rw [wr (by omega) (by omega)]; omega]
      refine ih (j + 1) q' (bs ++ [d3]) w (by omega) (by simp [hbs]) ?_
      have ez : List.zipWith RefA (bs ++ [d3]) (List.replicate (j + 1) []) = List.zipWith RefA bs (List.replicate j []) ++ [RefA d3 []] := by
        rw [List.replicate_succ', List.zipWith_append (by simp [hbs])]; rfl
      rw [ez, List.append_assoc]
      have h2 : Own B w0 w (BlkA t [slV ⟨none, 0, 0⟩, .slice q'.a q'.len q'.cap] :: SlT thE ⟨none, 0, 0⟩ [] :: SlT ptrE q' (bs ++ [d3]) :: RefA d3 [] :: (List.zipWith RefA bs (List.replicate j []) ++ R)) := h.sub
      exact h2.perm (((List.perm_middle.symm.cons _).cons _).cons _)
  have h3 : Own B w0 w2 (BlkA t [slV ⟨none, 0, 0⟩, slV ⟨none, 0, 0⟩] :: SlT thE ⟨none, 0, 0⟩ [] :: SlT ptrE ⟨none, 0, 0⟩ [] :: R) := h.up2
  exact loop c 0 ⟨none, 0, 0⟩ [] w2 (by omega) rfl h3
end
end Go.Proofs.Ytgkebkfabegflaa
