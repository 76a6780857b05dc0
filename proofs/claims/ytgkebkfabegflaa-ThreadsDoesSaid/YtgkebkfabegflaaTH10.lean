/- Laws of layer 10: what is moved from one core to another one. -/
import Derived.Test.YtgkebkfabegflaaTH9
import Derived.Test.YtgkebkfabegflaaS0
import Derived.Test.YtgkebkfabegflaaS3
set_option linter.unusedVariables false
set_option linter.unusedSimpArgs false
set_option maxRecDepth 8000
namespace Go.Proofs.Ytgkebkfabegflaa
open Go Go.Vc Go.Proofs

section
variable {B : Nat} {w0 w : World} {R L : List Asn} {b : Nat} {m : Mt}
theorem thr_first_spec {c : Nat} {a e2 : Int} {K : Int → World → Prop} (h : Own B w0 w (BlkA c [.int .i64 a, .int .i64 e2] :: L)) (hK : ∀ w', Own B w0 w' (BlkA c [.int .i64 a, .int .i64 e2] :: L) → K (if a ≠ 0 then a else e2) w') : C.threads_first ⟨some ⟨c, 0, none⟩, 2, 2⟩ K w := by
  apply S.threads_first_ok
  unfold S.threads_first
  have tell : ∀ (x : Int) (w : World) (Q : Bool → World → Prop), Q (x != 0) w → C.threads_first_1 x Q w := fun x w Q h => by
    apply S.threads_first_1_ok
    unfold S.threads_first_1
    exact h
  apply S.slices_IndexFunc_api_Errno_api_Errno_ok
  unfold S.slices_IndexFunc_api_Errno_api_Errno
  intro l3 hl3
  refine hl3 _ _ (cdecT (by show (0 : Int) < 2; decide) ?_)
  refine ⟨_, rfl, by decide, by show (0 : Int) < 2; decide, a, h.ldd rfl, callV_mk (tell a w _ ?_)⟩
  refine cb (fun e => ?_) (fun e => ?_)
  · have ea : a ≠ 0 := by simpa using e
    rw [if_pos ea] at hK
    refine cdecF (by decide) ?_
    exact ⟨_, rfl, by decide, by show (0 : Int) < 2; decide, a, h.ldd rfl, hK w h⟩
  · have ea : a = 0 := by simpa using e
    rw [if_neg (by simpa using ea)] at hK
    rw [show IntKind.i64.wrap ((0 : Int) + 1) = 1 from by decide]
    refine hl3 _ _ (cdecT (by show (1 : Int) < 2; decide) ?_)
    refine ⟨_, rfl, by decide, by show (1 : Int) < 2; decide, e2, h.ldd rfl, callV_mk (tell e2 w _ ?_)⟩
    refine cb (fun e => ?_) (fun e => ?_)
    · refine cdecF (by decide) ?_
      exact ⟨_, rfl, by decide, by show (1 : Int) < 2; decide, e2, h.ldd rfl, hK w h⟩
    · have eb : e2 = 0 := by simpa using e
      rw [show IntKind.i64.wrap ((1 : Int) + 1) = 2 from by decide]
      refine hl3 _ _ (cdecF (by show ¬ (2 : Int) < 2; decide) ?_)
      refine cdecT (by decide) ?_
      rw [eb] at hK h
      exact hK w h
def Mt.reg (m : Mt) (n : Int) (i : Nat) (v : Int) : Mt := m.setTh n { m.th n with rg := fun j => if j = i then v else (m.th n).rg j }
theorem MOk.reg (hm : MOk m) {n v : Int} {i : Nat} (hn : m.isT n = true) : MOk (m.reg n i v) := hm.setTh (t := { m.th n with rg := fun j => if j = i then v else (m.th n).rg j }) (hm.th hn).1 rfl
theorem out {l q r : Sl} {bs : List Nat} {A : Asn} (h : Own B w0 w (A :: BlkA b [slV l, slV q, slV r] :: SlT thE l m.ths :: SlT ptrE q bs :: SlT intE r m.runs :: (List.zipWith QueueA bs m.qs ++ R))) : Own B w0 w (BlkA b [slV l, slV q, slV r] :: SlT thE l m.ths :: SlT ptrE q bs :: SlT intE r m.runs :: (List.zipWith QueueA bs m.qs ++ R)) := h.drop
theorem reg_p {n v : Int} {i : Nat} {K : Int → World → Prop} (hm : MOk m) (hT : m.isT n = true) (hi : i < 8) (h : Own B w0 w (ThrA b m :: R)) (hK : ∀ w', Own B w0 w' (ThrA b (m.reg n i v) :: R) → K 0 w') : C.threads_Threads_Reg (some ⟨b, 0, none⟩) n (i : Int) v K w := by
  apply S.threads_Threads_Reg_ok
  unfold S.threads_Threads_Reg
  obtain ⟨l, q, r, bs, hbs, h⟩ := h.thr
  obtain ⟨n0, n1, hx⟩ := isT_get hT
  refine thr_one_o h (fun e => by rw [hT] at e; cases e) fun a _ ha => ?_
  intro k7 hk7
  refine thr_when_spec ?_
  refine cdecF (by omega) ?_
  refine thr_when_spec ?_
  rw [decide_eq_false (show ¬ (i : Int) ≥ 8 by omega)]
  refine h.al fun w2 h => ?_
  generalize w.heap.size = d at h ⊢
  refine thr_first_spec h fun w h => ?_
  have h := h.drop
  refine hk7 _ _ (cneF rfl ?_)
  refine ⟨_, rfl, by omega, by omega, ?_⟩
  have e1 : ((a.add (n.toNat * 12)).add 4).add ((i : Int).toNat * 1) = (a.add (n.toNat * 12)).add (4 + i) := by
    have := h.slAddr l ha
    rw [this, add_mk, add_mk, add_mk, add_mk, Int.toNat_natCast]
    congr 1; omega
  rw [e1]
  refine stTh (c := 4 + i) (t' := { m.th n with rg := fun j => if j = i then v else (m.th n).rg j }) h n0 hx ha ?_ (by omega) rfl fun w h => ?_
  · have : i = 0 ∨ i = 1 ∨ i = 2 ∨ i = 3 ∨ i = 4 ∨ i = 5 ∨ i = 6 ∨ i = 7 := by omega
    rcases this with rfl | rfl | rfl | rfl | rfl | rfl | rfl | rfl <;> rfl
  · exact hK w (Own.mk_thr (m := m.reg n i v) hbs h)
theorem thr_leave_o {l q r : Sl} {bs : List Nat} {n s : Int} {K : World → Prop} (hm : MOk m) (hn : m.isT n = true) (hbs : bs.length = m.qs.length) (h : Own B w0 w (BlkA b [slV l, slV q, slV r] :: SlT thE l m.ths :: SlT ptrE q bs :: SlT intE r m.runs :: (List.zipWith QueueA bs m.qs ++ R)))
    (hK : ∀ w', Own B w0 w' (BlkA b [slV l, slV q, slV r] :: SlT thE l (m.leave n s).ths :: SlT ptrE q bs :: SlT intE r (m.leave n s).runs :: (List.zipWith QueueA bs (m.leave n s).qs ++ R)) → K w') : C.threads_Threads_leave (some ⟨b, 0, none⟩) n s K w := by
  apply S.threads_Threads_leave_ok
  unfold S.threads_Threads_leave
  obtain ⟨n0, n1, hx⟩ := isT_get hn
  obtain ⟨⟨c0, c1⟩, _⟩ := hm.th hn
  have hcr := hm.cores
  obtain ⟨b1, hb1⟩ : ∃ x, bs[(m.th n).co.toNat]? = some x := ⟨_, List.getElem?_eq_getElem (by omega)⟩
  refine thr_one_o h (fun e => by rw [hn] at e; cases e) fun a _ ha => ?_
  refine ⟨_, rfl, _, ldTh (c := 0) h n0 hx ha rfl, ?_⟩
  intro k hk
  have fin : ∀ w, Own B w0 w (BlkA b [slV l, slV q, slV r] :: SlT thE l m.ths :: SlT ptrE q bs :: SlT intE r (m.leave0 n).runs :: (List.zipWith QueueA bs (m.leave0 n).qs ++ R)) → k w := fun w h => by
    apply hk
    refine ⟨_, rfl, ?_⟩
    refine stTh (c := 0) (t' := { m.th n with st := s }) h n0 hx ha rfl (by decide) rfl fun w h => ?_
    refine hK w ?_
    have e : (m.leave n s).ths = m.ths.set n.toNat { m.th n with st := s } := by unfold Mt.leave Mt.setTh; rw [leave0_len.1]
    rw [e]; exact h
  refine ceq (fun e => ?_) (fun e => ?_)
  · have e1 : m.leave0 n = m.setQ (m.th n).co (takeR (m.q (m.th n).co) n).2 := by unfold Mt.leave0; rw [if_pos e]
    rw [e1] at fin
    refine h.dr fun w h => ?_
    refine ⟨_, rfl, q, h.ldd rfl, _, rfl, _, ldTh (c := 2) h n0 hx ha rfl, ?_⟩
    refine h.ixc (s := q) (j := (m.th n).co.toNat) (by show (m.th n).co = _; omega) hb1 fun a2 ha2 h0 hc => ⟨_, h0 _ rfl, Go.Vc.a2 ?_⟩
    have h := h.qout hb1 (q_get c0 c1)
    refine ready_Queue_Take_spec h fun w h => ?_
    exact fin w (h.qin (qs := m.qs) hb1 (by omega))
  refine ceq (fun e2 => ?_) (fun e2 => ?_)
  · have e1 : m.leave0 n = m.setR (m.th n).co (-1) := by unfold Mt.leave0; rw [if_neg e, if_pos e2]
    rw [e1] at fin
    refine h.dr fun w h => ?_
    refine ⟨_, rfl, r, h.ldd rfl, _, rfl, _, ldTh (c := 2) h n0 hx ha rfl, ?_⟩
    refine h.ixc (s := r) (j := (m.th n).co.toNat) (by show (m.th n).co = _; omega) (r_get (m := m) c0 (by omega)) fun a2 ha2 h0 hc => Go.Vc.a2 ?_
    refine Own.stEc (s := r) (E := intE) (xs := m.runs) (i := (m.th n).co) (j := (m.th n).co.toNat) h (-1) (by omega) (by omega) ha2 rfl fun w h => ?_
    exact fin w h.up3.up3.up3
  · have e1 : m.leave0 n = m := by unfold Mt.leave0; rw [if_neg e, if_neg e2]
    rw [e1] at fin
    exact fin w h
/-- A thread that runs goes to another core. -/
def Mt.toCore (m : Mt) (n c : Int) : Mt := ((m.leave n (m.th n).st).setTh n { (m.leave n (m.th n).st).th n with co := c }).lineUp n
theorem core_p {n c : Int} {K : Int → World → Prop} (hm : MOk m) (hT : m.isT n = true) (hc : m.isC c = true) (hne : (m.th n).co ≠ c) (hs : (m.th n).st = 2) (h : Own B w0 w (ThrA b m :: R)) (hK : ∀ w', Own B w0 w' (ThrA b (m.toCore n c) :: R) → MOk (m.toCore n c) → K 0 w') : C.threads_Threads_Core (some ⟨b, 0, none⟩) n c K w := by
  apply S.threads_Threads_Core_ok
  unfold S.threads_Threads_Core
  obtain ⟨l, q, r, bs, hbs, h⟩ := h.thr
  obtain ⟨n0, n1, hx⟩ := isT_get hT
  obtain ⟨c0, c1⟩ := isC_iff.1 hc
  refine thr_one_o h (fun e => by rw [hT] at e; cases e) fun a _ ha => ?_
  refine thr_when_spec ?_
  refine thr_core_o hbs h ?_
  rw [hc]
  refine thr_when_spec ?_
  refine h.al fun w2 h => ?_
  generalize w.heap.size = d at h ⊢
  refine thr_first_spec h fun w h => ?_
  have h := h.drop
  intro k15 hk15
  refine cneF rfl ?_
  refine ⟨_, rfl, _, ldTh (c := 2) h n0 hx ha rfl, hk15 _ _ ?_⟩
  refine ceqF hne ?_
  intro k18 hk18
  refine ⟨_, rfl, _, ldTh (c := 0) h n0 hx ha rfl, ?_⟩
  refine ceqF (by rw [hs]; decide) ?_
  refine ⟨_, rfl, _, ldTh (c := 0) h n0 hx ha rfl, hk18 _ _ ?_⟩
  refine ⟨_, rfl, _, ldTh (c := 0) h n0 hx ha rfl, ?_⟩
  have hm1 := hm.leave (s := (m.th n).st) hT
  have hT1 : (m.leave n (m.th n).st).isT n = true := by rw [leave_isT]; exact hT
  have hq1 : (m.leave n (m.th n).st).qs.length = m.qs.length := leave0_len.2
  refine thr_leave_o hm hT hbs h fun w h => ?_
  obtain ⟨_, _, hx1⟩ := isT_get hT1
  unfold Mt.toCore at hK
  generalize m.leave n (m.th n).st = mb at *
  refine ⟨_, rfl, ?_⟩
  refine stTh (c := 2) (t' := { mb.th n with co := c }) h n0 hx1 ha rfl (by decide) rfl fun w h => ?_
  have h : Own B w0 w (ThrA b (mb.setTh n { mb.th n with co := c }) :: R) := Own.mk_thr (m := mb.setTh n { mb.th n with co := c }) (by show bs.length = mb.qs.length; omega) h
  have hm2 : MOk (mb.setTh n { mb.th n with co := c }) := hm1.setTh (t := { mb.th n with co := c }) ⟨c0, by show c < (mb.qs.length : Int); omega⟩ rfl
  have hT2 : (mb.setTh n { mb.th n with co := c }).isT n = true := by rw [setTh_isT]; exact hT1
  rw [hs]
  refine cbT rfl ?_
  refine thr_lineUp_spec hm2 hT2 h fun w h => ?_
  exact hK w h (hm2.lineUp hT2)
def mv (p i : Nat) (v : Int) : Mt := ((((newM 2).make p 0).reg 0 i v).lineUp 0).pickC 0
/-- What of it does not hang on the number in the register. -/
def movesB (i : Nat) (v : Int) (p : Nat) : Bool := (mv p i v).isT 0 && (mv p i v).isC 1 && ((mv p i v).th 0).co == 0 && ((mv p i v).th 0).st == 2 &&
  ((mv p i v).toCore 0 1).runs? 0 == none && ((mv p i v).toCore 0 1).runs? 1 == none && ((mv p i v).toCore 0 1).isT 0 && (((mv p i v).toCore 0 1).th 0).co == 1 && (((mv p i v).toCore 0 1).th 0).pr == p && (((mv p i v).toCore 0 1).th 0).st == 1 &&
  ((mv p i v).toCore 0 1).isC 1 && lineI (((mv p i v).toCore 0 1).q 1) p == [0] && (((mv p i v).toCore 0 1).pickC 1).runs? 1 == some 0 && (((mv p i v).toCore 0 1).pickC 1).isC 0 && lineI ((((mv p i v).toCore 0 1).pickC 1).q 0) p == []
set_option maxRecDepth 100000 in
theorem moves_all (i : Nat) (v : Int) : (List.range 256).all (movesB i v) = true := by kernel_rfl
theorem rg_setTh {n k : Int} {t : Thd} (n0 : 0 ≤ n) (e : t.rg = (m.th n).rg) : ((m.setTh n t).th k).rg = (m.th k).rg := by
  unfold Mt.th Mt.setTh at *
  by_cases hk : k < 0
  · rw [if_pos hk, if_pos hk]
  · rw [if_neg hk, if_neg hk]
    rw [if_neg (by omega)] at e
    simp only
    rw [List.getElem?_set]
    by_cases e1 : n.toNat = k.toNat
    · rw [if_pos e1]
      rw [e1] at e
      by_cases e2 : n.toNat < m.ths.length
      · rw [if_pos e2]; exact e
      · rw [if_neg e2, List.getElem?_eq_none (by omega)]
    · rw [if_neg e1]
theorem rg_lineUp {n k : Int} (n0 : 0 ≤ n) : ((m.lineUp n).th k).rg = (m.th k).rg := rg_setTh (m := m) (t := { m.th n with st := 1 }) n0 rfl
theorem rg_leave {n s k : Int} (n0 : 0 ≤ n) : ((m.leave n s).th k).rg = (m.th k).rg := by
  have e : ∀ x, (m.leave0 n).th x = m.th x := fun x => by unfold Mt.th; rw [leave0_len.1]
  have := rg_setTh (m := m.leave0 n) (n := n) (k := k) (t := { m.th n with st := s }) n0 (by rw [e])
  rw [e] at this
  exact this
theorem rg_pick (hm : MOk m) {c k : Int} : ((m.pickC c).th k).rg = (m.th k).rg := by
  unfold Mt.pickC
  split
  · rename_i hc
    unfold Mt.pick
    cases hn : nextR (m.q c) with
    | none => rfl
    | some n =>
      obtain ⟨n0, _⟩ := hm.nextT hn
      simp only
      split
      · exact rg_leave n0
      · rename_i h1
        split
        · rfl
        · have hr : m.runs? c = some (m.run c) := by unfold Mt.runs?; rw [if_pos ⟨hc, h1⟩]
          have o0 := (isT_get (hm.runT hr).2.2.2).1
          show ((((m.leave (m.run c) 1).lineUp (m.run c)).leave n 2).th k).rg = _
          rw [rg_leave n0, rg_lineUp o0, rg_leave o0]
  · rfl
theorem rg_toCore {n c k : Int} (n0 : 0 ≤ n) : ((m.toCore n c).th k).rg = (m.th k).rg := by
  unfold Mt.toCore
  rw [rg_lineUp n0, rg_setTh (m := m.leave n (m.th n).st) (t := { (m.leave n (m.th n).st).th n with co := c }) n0 rfl, rg_leave n0]
theorem rg_cell (t : Thd) : ∀ j, j < 8 → (thE.enc t)[0 + 4 + j * 1]? = some (.int .u64 (t.rg j)) := fun j hj => by
  have : j = 0 ∨ j = 1 ∨ j = 2 ∨ j = 3 ∨ j = 4 ∨ j = 5 ∨ j = 6 ∨ j = 7 := by omega
  rcases this with rfl | rfl | rfl | rfl | rfl | rfl | rfl | rfl <;> rfl
theorem law10_ThreadsMoves_spec {w0 w : World} {p0 i0 v : Int} {K : Bool → World → Prop} (w1 : (Lit.int .i64 p0).wf = true) (w2 : (Lit.int .i64 i0).wf = true) (w3 : (Lit.int .u64 v).wf = true) (h : Own w0.heap.size w0 w []) (hK : ∀ w', Own w0.heap.size w0 w' [] → K true w') : C.law10_ThreadsMoves p0 i0 v K w := by
  apply S.law10_ThreadsMoves_ok
  unfold S.law10_ThreadsMoves
  obtain ⟨p, hp, hp2⟩ := and255 (n := p0)
  obtain ⟨i, hi, hi8⟩ := and7 (n := i0)
  rw [hp, hi]
  have hall := List.all_eq_true.1 (moves_all i v) p (List.mem_range.2 hp2)
  unfold movesB at hall
  simp only [Bool.and_eq_true, beq_iff_eq] at hall
  obtain ⟨⟨⟨⟨⟨⟨⟨⟨⟨⟨⟨⟨⟨⟨f1, f2⟩, f3⟩, f4⟩, f5⟩, f6⟩, f7⟩, f8⟩, f9⟩, f10⟩, f11⟩, f12⟩, f13⟩, f14⟩, f15⟩ := hall
  refine thr_New_spec h (fun e => absurd ⟨by decide, by decide⟩ e) fun c hc _ _ b w h => ?_
  obtain rfl : c = 2 := by omega
  have m0 : MOk (newM 2) := newM_ok (by decide)
  intro k7 hk7
  refine cbF rfl (hk7 _ _ (cbF (by decide) ?_))
  refine make_p (m := newM 2) (p := p) m0 ⟨by omega, by omega⟩ rfl (by decide) h fun w h => ?_
  have m1 := m0.make (p := p) (c := 0) (by decide) rfl
  refine reg_p (n := 0) (i := i) m1 rfl hi8 h fun w h => ?_
  have m2 := m1.reg (n := 0) (i := i) (v := v) rfl
  refine resume_p (n := 0) m2 rfl (.inl rfl) h fun w h => ?_
  have m3 := m2.lineUp (n := 0) rfl
  refine thr_Pick_spec m3 h fun w h => ?_
  have m4 : MOk (mv p i v) := m3.pickC
  have h : Own w0.heap.size w0 w [ThrA b (mv p i v)] := h
  have hrg : (((mv p i v).toCore 0 1).th 0).rg i = v := by
    rw [rg_toCore (by decide)]
    unfold mv
    rw [rg_pick m3, rg_lineUp (by decide)]
    show (if i = i then v else _) = v
    rw [if_pos rfl]
  refine core_p (n := 0) (c := 1) m4 f1 f2 (by rw [f3]; decide) f4 h fun w h m5 => ?_
  generalize (mv p i v).toCore 0 1 = mb at *
  refine thr_Runs_spec (c := 0) m5 h fun w h => ?_
  rw [f5]
  refine thr_Runs_spec (c := 1) m5 h fun w h => ?_
  rw [f6]
  refine thr_Get_spec h fun w t et h => ?_
  rw [f7, if_pos rfl] at et
  rw [f7]
  subst et
  refine h.al fun w2 h => ?_
  generalize w.heap.size = d at h ⊢
  refine h.stLc rfl rfl fun w h => ?_
  refine thr_Line_spec (c := 1) (p := p) (h.pick (A := ThrA b mb)) fun s1 w h => ?_
  rw [f11, if_pos rfl, f12] at h
  refine thr_Pick_spec (c := 1) m5 (h.pick (A := ThrA b mb)) fun w h => ?_
  rw [f13]
  generalize mb.pickC 1 = mc at *
  refine ceqT rfl (ceqT rfl (cnb (fun _ => cnb (fun _ => ceqT rfl ?_) (fun e => by cases e)) (fun e => by cases e)))
  refine ⟨_, h.ldd rfl, ceqT f8 ⟨_, h.ldd rfl, ceqT f9 ⟨by omega, by omega, v, ?_, ceqT rfl ⟨_, h.ldc rfl, ceqT f10 ?_⟩⟩⟩⟩
  · rw [← hrg, add_mk, add_mk, Int.toNat_natCast]
    exact h.ldc (rg_cell (mb.th 0) i hi8)
  refine h.al fun w2 h => ?_
  generalize w.heap.size = d3 at h ⊢
  have h : Own w0.heap.size w0 w2 (SlT intE ⟨some ⟨d3, 0, none⟩, 1, 1⟩ [0] :: _) := h.asSl [0] rfl
  refine ref09_Nums_spec (xs := [0]) (ys := [0]) h 2 0 rfl rfl (by decide) fun w h => ?_
  rw [decide_eq_true rfl]
  refine cbT rfl ?_
  refine thr_Line_spec (c := 0) (p := p) (h.pick (A := ThrA b mc)) fun s2 w h => ?_
  have hl2 := h.lenc s2
  rw [f14, if_pos rfl, f15] at hl2
  refine ceqT (by rw [hl2]; rfl) (ceqT rfl (cbT rfl ?_))
  exact law10_fixed_spec h fun w h => hK _ h.sub
end
end Go.Proofs.Ytgkebkfabegflaa
