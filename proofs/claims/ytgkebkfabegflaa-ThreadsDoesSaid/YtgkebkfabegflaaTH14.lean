/- Threads of layer 10: what every call comes to. -/
import Derived.Test.YtgkebkfabegflaaTH13
import Derived.Test.YtgkebkfabegflaaS3
set_option linter.unusedVariables false
set_option linter.unusedSimpArgs false
set_option maxRecDepth 8000
namespace Go.Proofs.Ytgkebkfabegflaa
open Go Go.Vc Go.Proofs

section
variable {B : Nat} {w0 w : World} {R L : List Asn} {b : Nat} {m : Mt}
def Mt.resumeR (m : Mt) (n : Int) : Int × Mt := if m.isT n = false then (100, m) else if (m.th n).st = 1 ∨ (m.th n).st = 2 then (101, m) else (0, m.lineUp n)
def Mt.suspendR (m : Mt) (n : Int) : Int × Mt := if m.isT n = false then (100, m) else if (m.th n).st = 0 then (101, m) else (0, m.leave n 0)
def Mt.blockR (m : Mt) (n : Int) : Int × Mt := if m.isT n = false then (100, m) else if (m.th n).st ≠ 2 then (101, m) else (0, m.leave n 3)
def Mt.prioR (m : Mt) (n p : Int) : Int × Mt := if m.isT n = false then (100, m) else if ¬ (0 ≤ p ∧ p < 256) then (1, m) else
  if (m.th n).st = 1 then (0, ((m.leave n 1).setTh n { (m.leave n 1).th n with pr := p }).lineUp n) else (0, m.setTh n { m.th n with pr := p })
def Mt.toCore0 (m : Mt) (n c : Int) : Mt := (m.leave n (m.th n).st).setTh n { (m.leave n (m.th n).st).th n with co := c }
def Mt.coreR (m : Mt) (n c : Int) : Int × Mt := if m.isT n = false then (100, m) else if m.isC c = false then (1, m) else if (m.th n).co = c then (0, m) else
  if (m.th n).st = 1 ∨ (m.th n).st = 2 then (0, m.toCore n c) else (0, m.toCore0 n c)
def Mt.regR (m : Mt) (n i v : Int) : Int × Mt := if m.isT n = false then (100, m) else if ¬ (0 ≤ i ∧ i < 8) then (1, m) else (0, m.reg n i.toNat v)
def Mt.makeR (m : Mt) (p c : Int) : Int × Int × Mt := if ¬ (0 ≤ p ∧ p < 256 ∧ m.isC c = true) then (0, 1, m) else if 64 ≤ m.ths.length then (0, 2, m) else ((m.ths.length : Int), 0, m.make p c)
theorem resume_g {n : Int} {K : Int → World → Prop} (hm : MOk m) (h : Own B w0 w (ThrA b m :: R)) (hK : ∀ w', Own B w0 w' (ThrA b (m.resumeR n).2 :: R) → K (m.resumeR n).1 w') : C.threads_Threads_Resume (some ⟨b, 0, none⟩) n K w := by
  unfold Mt.resumeR at hK
  refine thr_Resume_spec hm h (fun e w h => ?_) (fun e e1 w h => ?_) (fun e e1 e2 w h => ?_)
  · rw [if_pos e] at hK; exact hK w h
  · rw [if_neg (by rw [e]; simp), if_pos e1] at hK; exact hK w h
  · rw [if_neg (by rw [e]; simp), if_neg (fun hh => hh.elim e1 e2)] at hK; exact hK w h
theorem suspend_g {n : Int} {K : Int → World → Prop} (hm : MOk m) (h : Own B w0 w (ThrA b m :: R)) (hK : ∀ w', Own B w0 w' (ThrA b (m.suspendR n).2 :: R) → K (m.suspendR n).1 w') : C.threads_Threads_Suspend (some ⟨b, 0, none⟩) n K w := by
  unfold Mt.suspendR at hK
  refine thr_Suspend_spec hm h (fun e w h => ?_) (fun e e1 w h => ?_) (fun e e1 w h => ?_)
  · rw [if_pos e] at hK; exact hK w h
  · rw [if_neg (by rw [e]; simp), if_pos e1] at hK; exact hK w h
  · rw [if_neg (by rw [e]; simp), if_neg e1] at hK; exact hK w h
theorem block_g {n : Int} {K : Int → World → Prop} (hm : MOk m) (h : Own B w0 w (ThrA b m :: R)) (hK : ∀ w', Own B w0 w' (ThrA b (m.blockR n).2 :: R) → K (m.blockR n).1 w') : C.threads_Threads_Block (some ⟨b, 0, none⟩) n K w := by
  unfold Mt.blockR at hK
  refine thr_Block_spec hm h (fun e w h => ?_) (fun e e1 w h => ?_) (fun e e1 w h => ?_)
  · rw [if_pos e] at hK; exact hK w h
  · rw [if_neg (by rw [e]; simp), if_pos e1] at hK; exact hK w h
  · rw [if_neg (by rw [e]; simp), if_neg (fun hh => hh e1)] at hK; exact hK w h
theorem make_g {p c : Int} {K : Int → Int → World → Prop} (hm : MOk m) (h : Own B w0 w (ThrA b m :: R)) (hK : ∀ w', Own B w0 w' (ThrA b (m.makeR p c).2.2 :: R) → K (m.makeR p c).1 (m.makeR p c).2.1 w') : C.threads_Threads_Make (some ⟨b, 0, none⟩) p c K w := by
  unfold Mt.makeR at hK
  refine thr_Make_spec hm h (fun e w h => ?_) (fun e e1 w h => ?_) (fun e e1 w h => ?_)
  · rw [if_pos e] at hK; exact hK w h
  · rw [if_neg (fun hh => hh e), if_pos e1] at hK; exact hK w h
  · rw [if_neg (fun hh => hh e), if_neg (by omega)] at hK; exact hK w h
/-- The first of two errors. -/
theorem first2 {x y : Int} {K : Int → World → Prop} (h : Own B w0 w L) (hK : ∀ w', Own B w0 w' L → K (if x ≠ 0 then x else y) w') : Al w (.cells #[.int .i64 x, .int .i64 y] 23) fun w12 => C.threads_first ⟨some (Addr.mk w.heap.size 0 none), 2, 2⟩ K w12 := by
  refine h.al fun w2 h => ?_
  generalize w.heap.size = d at h ⊢
  exact thr_first_spec h fun w h => hK w h.drop
theorem reg_g {n i v : Int} {K : Int → World → Prop} (hm : MOk m) (h : Own B w0 w (ThrA b m :: R)) (hK : ∀ w', Own B w0 w' (ThrA b (m.regR n i v).2 :: R) → K (m.regR n i v).1 w') : C.threads_Threads_Reg (some ⟨b, 0, none⟩) n i v K w := by
  unfold Mt.regR at hK
  by_cases hT : m.isT n = true
  · rw [if_neg (by rw [hT]; simp)] at hK
    by_cases hi : 0 ≤ i ∧ i < 8
    · rw [if_neg (fun hh => hh hi)] at hK
      obtain ⟨k, rfl⟩ := Int.eq_ofNat_of_zero_le hi.1
      exact reg_p hm hT (by omega) h hK
    · rw [if_pos hi] at hK
      apply S.threads_Threads_Reg_ok
      unfold S.threads_Threads_Reg
      obtain ⟨l, q, r, bs, hbs, h⟩ := h.thr
      refine thr_one_o h (fun e => by rw [hT] at e; cases e) fun a _ ha => ?_
      intro k7 hk7
      refine thr_when_spec ?_
      refine cdec (fun e => ?_) (fun e => ?_)
      · refine thr_when_spec (first2 h fun w h => ?_)
        exact hk7 _ _ (cneT (by simp) (hK w (Own.mk_thr hbs h)))
      · refine thr_when_spec ?_
        rw [decide_eq_true (show i ≥ 8 by omega)]
        refine first2 h fun w h => ?_
        exact hk7 _ _ (cneT (by simp) (hK w (Own.mk_thr hbs h)))
  · have hF : m.isT n = false := by simpa using hT
    rw [if_pos hF] at hK
    apply S.threads_Threads_Reg_ok
    unfold S.threads_Threads_Reg
    obtain ⟨l, q, r, bs, hbs, h⟩ := h.thr
    refine thr_one_o h (fun e => ?_) fun a e ha => by rw [hF] at e; cases e
    intro k7 hk7
    refine thr_when_spec ?_
    refine cdec (fun e => ?_) (fun e => ?_)
    · refine thr_when_spec (first2 h fun w h => ?_)
      exact hk7 _ _ (cneT (by simp) (hK w (Own.mk_thr hbs h)))
    · refine thr_when_spec (first2 h fun w h => ?_)
      exact hk7 _ _ (cneT (by simp) (hK w (Own.mk_thr hbs h)))
theorem prio_g {n p : Int} {K : Int → World → Prop} (hm : MOk m) (h : Own B w0 w (ThrA b m :: R)) (hK : ∀ w', Own B w0 w' (ThrA b (m.prioR n p).2 :: R) → K (m.prioR n p).1 w') : C.threads_Threads_Prio (some ⟨b, 0, none⟩) n p K w := by
  unfold Mt.prioR at hK
  apply S.threads_Threads_Prio_ok
  unfold S.threads_Threads_Prio
  obtain ⟨l, q, r, bs, hbs, h⟩ := h.thr
  refine thr_one_o h (fun e => ?_) fun a hT ha => ?_
  · rw [if_pos e] at hK
    refine thr_when_spec (thr_prio_spec (thr_when_spec (first2 h fun w h => ?_)))
    exact cneT (by simp) (hK w (Own.mk_thr hbs h))
  · rw [if_neg (by rw [hT]; simp)] at hK
    obtain ⟨n0, n1, hx⟩ := isT_get hT
    refine thr_when_spec (thr_prio_spec (thr_when_spec (first2 h fun w h => ?_)))
    by_cases hp : 0 ≤ p ∧ p < 256
    · rw [if_neg (fun hh => hh hp)] at hK
      rw [decide_eq_true hp.1, decide_eq_true hp.2]
      refine cneF (by simp) ?_
      refine ⟨_, rfl, _, ldTh (c := 0) h n0 hx ha rfl, ?_⟩
      refine cne (fun e => ?_) (fun e => ?_)
      · rw [if_neg e] at hK
        refine ⟨_, rfl, ?_⟩
        refine stTh (c := 1) (t' := { m.th n with pr := p }) h n0 hx ha rfl (by decide) rfl fun w h => ?_
        exact hK w (Own.mk_thr (m := m.setTh n { m.th n with pr := p }) hbs h)
      · rw [if_pos e] at hK
        have hm1 := hm.leave (s := 1) hT
        have hT1 : (m.leave n 1).isT n = true := by rw [leave_isT]; exact hT
        have hq1 : (m.leave n 1).qs.length = m.qs.length := leave0_len.2
        refine thr_leave_o hm hT hbs h fun w h => ?_
        obtain ⟨_, _, hx1⟩ := isT_get hT1
        generalize m.leave n 1 = mb at *
        refine ⟨_, rfl, ?_⟩
        refine stTh (c := 1) (t' := { mb.th n with pr := p }) h n0 hx1 ha rfl (by decide) rfl fun w h => ?_
        have h : Own B w0 w (ThrA b (mb.setTh n { mb.th n with pr := p }) :: R) := Own.mk_thr (m := mb.setTh n { mb.th n with pr := p }) (by show bs.length = mb.qs.length; omega) h
        have hm2 : MOk (mb.setTh n { mb.th n with pr := p }) := hm1.setTh (t := { mb.th n with pr := p }) (hm1.th hT1).1 rfl
        have hT2 : (mb.setTh n { mb.th n with pr := p }).isT n = true := by rw [setTh_isT]; exact hT1
        exact thr_lineUp_spec hm2 hT2 h hK
    · rw [if_pos hp] at hK
      have e : (!(decide (0 ≤ p) && decide (p < 256))) = true := by
        by_cases e1 : 0 ≤ p
        · rw [decide_eq_true e1, decide_eq_false (by omega)]; rfl
        · rw [decide_eq_false e1]; rfl
      rw [e]
      exact cneT (by simp) (hK w (Own.mk_thr hbs h))
theorem core_g {n c : Int} {K : Int → World → Prop} (hm : MOk m) (h : Own B w0 w (ThrA b m :: R)) (hK : ∀ w', Own B w0 w' (ThrA b (m.coreR n c).2 :: R) → K (m.coreR n c).1 w') : C.threads_Threads_Core (some ⟨b, 0, none⟩) n c K w := by
  unfold Mt.coreR at hK
  apply S.threads_Threads_Core_ok
  unfold S.threads_Threads_Core
  obtain ⟨l, q, r, bs, hbs, h⟩ := h.thr
  refine thr_one_o h (fun e => ?_) fun a hT ha => ?_
  · rw [if_pos e] at hK
    refine thr_when_spec (thr_core_o hbs h (thr_when_spec (first2 h fun w h => ?_)))
    intro k15 hk15
    exact cneT (by simp) (hk15 _ _ (cbT rfl (hK w (Own.mk_thr hbs h))))
  · rw [if_neg (by rw [hT]; simp)] at hK
    obtain ⟨n0, n1, hx⟩ := isT_get hT
    refine thr_when_spec (thr_core_o hbs h (thr_when_spec (first2 h fun w h => ?_)))
    intro k15 hk15
    cases hc : m.isC c with
    | false =>
      rw [hc] at hk15
      rw [if_pos hc] at hK
      exact cneT (by simp) (hk15 _ _ (cbT rfl (hK w (Own.mk_thr hbs h))))
    | true =>
      obtain ⟨c0, c1⟩ := isC_iff.1 hc
      rw [hc] at hk15
      rw [if_neg (by rw [hc]; simp)] at hK
      refine cneF (by simp) ?_
      refine ⟨_, rfl, _, ldTh (c := 2) h n0 hx ha rfl, hk15 _ _ ?_⟩
      refine ceq (fun e => ?_) (fun e => ?_)
      · rw [if_pos e] at hK
        exact hK w (Own.mk_thr hbs h)
      rw [if_neg e] at hK
      intro k18 hk18
      have hm1 := hm.leave (s := (m.th n).st) hT
      have hT1 : (m.leave n (m.th n).st).isT n = true := by rw [leave_isT]; exact hT
      have hq1 : (m.leave n (m.th n).st).qs.length = m.qs.length := leave0_len.2
      have fin : ∀ (w : World) (lines : Bool), (lines = true ↔ ((m.th n).st = 1 ∨ (m.th n).st = 2)) → Own B w0 w (BlkA b [slV l, slV q, slV r] :: SlT thE l m.ths :: SlT ptrE q bs :: SlT intE r m.runs :: (List.zipWith QueueA bs m.qs ++ R)) → k18 lines w := fun w lines hl h => by
        refine hk18 _ _ ?_
        refine ⟨_, rfl, _, ldTh (c := 0) h n0 hx ha rfl, ?_⟩
        refine thr_leave_o hm hT hbs h fun w h => ?_
        obtain ⟨_, _, hx1⟩ := isT_get hT1
        unfold Mt.toCore Mt.toCore0 at hK
        generalize m.leave n (m.th n).st = mb at *
        refine ⟨_, rfl, ?_⟩
        refine stTh (c := 2) (t' := { mb.th n with co := c }) h n0 hx1 ha rfl (by decide) rfl fun w h => ?_
        have h : Own B w0 w (ThrA b (mb.setTh n { mb.th n with co := c }) :: R) := Own.mk_thr (m := mb.setTh n { mb.th n with co := c }) (by show bs.length = mb.qs.length; omega) h
        cases lines with
        | true =>
          rw [if_pos (hl.1 rfl)] at hK
          have hm2 : MOk (mb.setTh n { mb.th n with co := c }) := hm1.setTh (t := { mb.th n with co := c }) ⟨c0, by show c < (mb.qs.length : Int); omega⟩ rfl
          have hT2 : (mb.setTh n { mb.th n with co := c }).isT n = true := by rw [setTh_isT]; exact hT1
          exact cbT rfl (thr_lineUp_spec hm2 hT2 h hK)
        | false =>
          rw [if_neg (fun hh => by have := hl.2 hh; cases this)] at hK
          exact cbF rfl (hK w h)
      refine ⟨_, rfl, _, ldTh (c := 0) h n0 hx ha rfl, ?_⟩
      refine ceq (fun e1 => ?_) (fun e1 => ?_)
      · exact fin w true (by simp [e1]) h
      · refine ⟨_, rfl, _, ldTh (c := 0) h n0 hx ha rfl, fin w _ ?_ h⟩
        simp [e1]

/- The same law holds behind each call. -/
theorem InvX.resume (hi : InvX (-1) m) (n : Int) : InvX (-1) (m.resumeR n).2 := by
  unfold Mt.resumeR
  split
  · exact hi
  · rename_i e
    have hT : m.isT n = true := by simpa using e
    split
    · exact hi
    · rename_i e1
      exact (hi.out (fun h => e1 (.inl h)) (fun h => e1 (.inr h))).up hT
theorem InvX.suspend (hi : InvX (-1) m) (n : Int) : InvX (-1) (m.suspendR n).2 := by
  unfold Mt.suspendR
  split
  · exact hi
  · rename_i e
    have hT : m.isT n = true := by simpa using e
    split
    · exact hi
    · refine (hi.leave hT).still ?_ ?_ <;> (rw [th_leave hT, if_pos rfl]; show (0 : Int) ≠ _; decide)
theorem InvX.block (hi : InvX (-1) m) (n : Int) : InvX (-1) (m.blockR n).2 := by
  unfold Mt.blockR
  split
  · exact hi
  · rename_i e
    have hT : m.isT n = true := by simpa using e
    split
    · exact hi
    · refine (hi.leave hT).still ?_ ?_ <;> (rw [th_leave hT, if_pos rfl]; show (3 : Int) ≠ _; decide)
theorem InvX.reg (hi : InvX (-1) m) (n i v : Int) : InvX (-1) (m.regR n i v).2 := by
  unfold Mt.regR
  split
  · exact hi
  · rename_i e
    have hT : m.isT n = true := by simpa using e
    split
    · exact hi
    · exact hi.keep hT rfl rfl (fun _ => rfl) (hi.pr n hT) (hi.le n hT)
theorem InvX.prio (hi : InvX (-1) m) (n p : Int) : InvX (-1) (m.prioR n p).2 := by
  unfold Mt.prioR
  split
  · exact hi
  · rename_i e
    have hT : m.isT n = true := by simpa using e
    split
    · exact hi
    · rename_i hp
      have hp : 0 ≤ p ∧ p < 256 := Decidable.not_not.1 hp
      split
      · have h1 := hi.leave (s := 1) hT
        have hT1 : (m.leave n 1).isT n = true := by rw [leave_isT]; exact hT
        exact (h1.set (t := { (m.leave n 1).th n with pr := p }) hT1 (h1.ok.th hT1).1 hp (h1.le n hT1)).up (by rw [setTh_isT]; exact hT1)
      · rename_i e1
        exact hi.keep (t := { m.th n with pr := p }) hT rfl rfl (fun h => absurd h e1) hp (hi.le n hT)
theorem InvX.toCore0 (hi : InvX (-1) m) {n c : Int} (hT : m.isT n = true) (hc : m.isC c = true) : InvX n (m.toCore0 n c) := by
  have h1 := hi.leave (s := (m.th n).st) hT
  have hT1 : (m.leave n (m.th n).st).isT n = true := by rw [leave_isT]; exact hT
  have hC1 : (m.leave n (m.th n).st).isC c = true := by rw [leave_isC]; exact hc
  exact h1.set (t := { (m.leave n (m.th n).st).th n with co := c }) hT1 (isC_iff.1 hC1) (h1.pr n hT1) (h1.le n hT1)
theorem toCore0_isT {n c k : Int} : (m.toCore0 n c).isT k = m.isT k := by unfold Mt.toCore0; rw [setTh_isT, leave_isT]
theorem th_toCore0 {n c k : Int} (hT : m.isT n = true) : (m.toCore0 n c).th k = if k = n then { m.th n with co := c } else m.th k := by
  have hT1 : (m.leave n (m.th n).st).isT n = true := by rw [leave_isT]; exact hT
  unfold Mt.toCore0
  rw [th_setTh hT1, th_leave hT, th_leave hT, if_pos rfl]
  split <;> rfl
theorem InvX.core (hi : InvX (-1) m) (n c : Int) : InvX (-1) (m.coreR n c).2 := by
  unfold Mt.coreR
  split
  · exact hi
  · rename_i e
    have hT : m.isT n = true := by simpa using e
    split
    · exact hi
    · rename_i e2
      have hc : m.isC c = true := by simpa using e2
      split
      · exact hi
      · split
        · exact (hi.toCore0 hT hc).up (by rw [toCore0_isT]; exact hT)
        · rename_i hs
          refine (hi.toCore0 hT hc).still ?_ ?_
          · rw [th_toCore0 hT, if_pos rfl]; exact fun h => hs (.inl h)
          · rw [th_toCore0 hT, if_pos rfl]; exact fun h => hs (.inr h)
theorem InvX.makeR (hi : InvX (-1) m) (p c : Int) : InvX (-1) (m.makeR p c).2.2 := by
  unfold Mt.makeR
  split
  · exact hi
  · rename_i e
    have e := Decidable.not_not.1 e
    split
    · exact hi
    · exact hi.make (by omega) e.2.2 ⟨e.1, e.2.1⟩
theorem InvX.nextIn (hi : InvX (-1) m) {c n : Int} (hc : m.isC c = true) (h : nextR (m.q c) = some n) : m.isT n = true ∧ (m.th n).co = c ∧ (m.th n).st = 1 := by
  obtain ⟨⟨p, k⟩, hx, e⟩ := next_mem h
  have e : k = n := e
  subst e
  have := (hi.inq c hc p k).1 hx
  exact ⟨this.1, this.2.2.1, this.2.2.2.1⟩
theorem InvX.runIn (hi : InvX (-1) m) {c n : Int} (h : m.runs? c = some n) : m.isC c = true ∧ m.isT n = true ∧ (m.th n).co = c ∧ (m.th n).st = 2 := by
  obtain ⟨hc, h1, h2, hT⟩ := hi.ok.runT h
  have := (hi.inr c hc n hT).1 h1
  exact ⟨hc, hT, this.2⟩
theorem leave_run_same {n s : Int} (h : (m.th n).st ≠ 2) (c : Int) : (m.leave n s).run c = m.run c := by
  unfold Mt.leave Mt.leave0
  rw [setTh_run]
  split
  · rfl
  · rfl
theorem leave_run_off (hi : InvX (-1) m) {n s : Int} (hn : m.isT n = true) (h : (m.th n).st = 2) : (m.leave n s).run (m.th n).co = -1 := by
  obtain ⟨c0, c1⟩ := (hi.ok.th hn).1
  have hcr := hi.ok.cores
  unfold Mt.leave Mt.leave0
  rw [setTh_run, if_neg (by omega), if_pos h, run_setR c0 (by omega), if_pos rfl]
theorem InvX.pickC (hi : InvX (-1) m) (c : Int) : InvX (-1) (m.pickC c) := by
  unfold Mt.pickC
  split
  · rename_i hc
    unfold Mt.pick
    cases hn : nextR (m.q c) with
    | none => exact hi
    | some n =>
      obtain ⟨hT, hco, hst⟩ := hi.nextIn hc hn
      simp only
      have last : ∀ m1 : Mt, InvX (-1) m1 → m1.isT n = true → m1.isC c = true → (m1.th n).co = c → (m1.th n).st = 1 → m1.run c = -1 → InvX (-1) ((m1.leave n 2).setR c n) := fun m1 hi hT hc hco hst hr => by
        refine (hi.leave hT).go (by rw [leave_isT]; exact hT) (by rw [th_leave hT, if_pos rfl]) (by rw [th_leave hT, if_pos rfl]; exact hco) (by rw [leave_isC]; exact hc) ?_
        rw [leave_run_same (by omega)]; exact hr
      split
      · rename_i hr
        exact last m hi hT hc hco hst hr
      · rename_i hr
        split
        · exact hi
        · have hr2 : m.runs? c = some (m.run c) := by unfold Mt.runs?; rw [if_pos ⟨hc, hr⟩]
          obtain ⟨_, hoT, hoc, hos⟩ := hi.runIn hr2
          have hoT1 : (m.leave (m.run c) 1).isT (m.run c) = true := by rw [leave_isT]; exact hoT
          have hne : n ≠ m.run c := fun e => by rw [← e] at hos; omega
          refine last _ ((hi.leave hoT).up hoT1) (by rw [lineUp_isT, leave_isT]; exact hT) (by rw [lineUp_isC, leave_isC]; exact hc) ?_ ?_ ?_
          · rw [th_lineUp hoT1, if_neg hne, th_leave hoT, if_neg hne]; exact hco
          · rw [th_lineUp hoT1, if_neg hne, th_leave hoT, if_neg hne]; exact hst
          · show (m.leave (m.run c) 1).run c = -1
            have := leave_run_off (s := 1) hi hoT hos
            rw [hoc] at this; exact this
  · exact hi
theorem InvX.yield (hi : InvX (-1) m) (c : Int) : InvX (-1) (m.yield c) := by
  unfold Mt.yield
  cases hr : m.runs? c with
  | none => exact hi
  | some o =>
    obtain ⟨_, hT, _, _⟩ := hi.runIn hr
    have hT1 : (m.setTh o { m.th o with le := 5 }).isT o = true := by rw [setTh_isT]; exact hT
    have h1 := hi.keep (t := { m.th o with le := 5 }) hT rfl rfl (fun _ => rfl) (hi.pr o hT) ⟨by show (1 : Int) ≤ 5; decide, by show (5 : Int) ≤ 5; decide⟩
    exact ((h1.leave hT1).up (by rw [leave_isT]; exact hT1)).pickC c
theorem setTh2 {n : Int} {t t' : Thd} : (m.setTh n t).setTh n t' = m.setTh n t' := by unfold Mt.setTh; simp
theorem tick_eq (hi : InvX (-1) m) {c : Int} : m.tick c = match m.runs? c with
    | none => m
    | some o => if (m.th o).le = 1 then m.yield c else m.setTh o { m.th o with le := (m.th o).le - 1 } := by
  unfold Mt.tick
  cases hr : m.runs? c with
  | none => rfl
  | some o =>
    obtain ⟨_, hT, _, _⟩ := hi.runIn hr
    have hl := hi.le o hT
    simp only
    rw [wr (by omega) (by omega)]
    by_cases e : (m.th o).le = 1
    · rw [if_pos (by omega), if_pos e]
      unfold Mt.yield
      have hr2 : (m.setTh o { m.th o with le := (m.th o).le - 1 }).runs? c = some o := hr
      rw [hr, hr2]
      simp only
      rw [setTh2, th_setTh hT, if_pos rfl]
    · rw [if_neg (by omega), if_neg e]
theorem InvX.tick (hi : InvX (-1) m) (c : Int) : InvX (-1) (m.tick c) := by
  rw [tick_eq hi]
  cases hr : m.runs? c with
  | none => exact hi
  | some o =>
    obtain ⟨_, hT, _, _⟩ := hi.runIn hr
    have hl := hi.le o hT
    simp only
    split
    · exact hi.yield c
    · exact hi.keep (t := { m.th o with le := (m.th o).le - 1 }) hT rfl rfl (fun _ => rfl) (hi.pr o hT) ⟨by show 1 ≤ (m.th o).le - 1; omega, by show (m.th o).le - 1 ≤ 5; omega⟩
end
end Go.Proofs.Ytgkebkfabegflaa
