/- The document's answer on threads: what its small calls come to. -/
import Derived.Test.YtgkebkfabegflaaTH16
import Derived.Test.YtgkebkfabegflaaQ310
import Derived.Test.YtgkebkfabegflaaS2
set_option linter.unusedVariables false
set_option linter.unusedSimpArgs false
set_option maxRecDepth 8000
namespace Go.Proofs.Ytgkebkfabegflaa
open Go Go.Vc Go.Proofs

/-- The document's threads at a block. -/
def RthA (b : Nat) (m : Mt) : Asn := ExA fun p : (Sl × Sl) × List Nat => StarA (PureA (p.2.length = m.qs.length) :: BlkA b [slV p.1.1, slV p.1.2] :: SlT thE p.1.1 m.ths :: SlT ptrE p.1.2 p.2 :: List.zipWith RefA p.2 m.qs)
theorem rz_set {b : Nat} {L' : Qs} : ∀ (bs : List Nat) (qs : List Qs) (c : Nat), bs[c]? = some b → (List.zipWith RefA bs qs).set c (RefA b L') = List.zipWith RefA bs (qs.set c L')
  | [], _, _, h => by simp at h
  | _ :: _, [], c, _ => by simp
  | b0 :: bs, q :: qs, 0, h => by simp at h; subst h; rfl
  | b0 :: bs, q :: qs, c + 1, h => by simp [rz_set bs qs c (by simpa using h)]
section
variable {B : Nat} {w0 w : World} {R L : List Asn} {b : Nat} {m m1 : Mt}
theorem rth_eq (h1 : m1.ths = m.ths) (h2 : m1.qs = m.qs) : RthA b m1 = RthA b m := by unfold RthA; rw [h1, h2]
theorem _root_.Go.Vc.Own.rth (h : Own B w0 w (RthA b m :: R)) : ∃ l q bs, bs.length = m.qs.length ∧ Own B w0 w (BlkA b [slV l, slV q] :: SlT thE l m.ths :: SlT ptrE q bs :: (List.zipWith RefA bs m.qs ++ R)) := by
  obtain ⟨⟨⟨l, q⟩, bs⟩, h⟩ := h.ex
  obtain ⟨h1, h⟩ := Own.pure h.star
  exact ⟨l, q, bs, h1, h⟩
theorem _root_.Go.Vc.Own.mk_rth {l q : Sl} {bs : List Nat} (h1 : bs.length = m.qs.length) (h : Own B w0 w (BlkA b [slV l, slV q] :: SlT thE l m.ths :: SlT ptrE q bs :: (List.zipWith RefA bs m.qs ++ R))) : Own B w0 w (RthA b m :: R) :=
  Own.mk_ex ((l, q), bs) (Own.mk_star (Own.mk_pure h1 h))
theorem _root_.Go.Vc.Own.rqout {A1 A2 A3 : Asn} {bs : List Nat} {qs : List Qs} {c b1 : Nat} {Q : Qs} (hb : bs[c]? = some b1) (hq : qs[c]? = some Q) (h : Own B w0 w (A1 :: A2 :: A3 :: (List.zipWith RefA bs qs ++ R))) :
    Own B w0 w (RefA b1 Q :: A1 :: A2 :: A3 :: (List.zipWith RefA bs qs ++ R).eraseIdx c) := by
  have h1 := (List.getElem?_eq_some_iff.1 hb).1
  have h2 := (List.getElem?_eq_some_iff.1 hq).1
  have hz : (List.zipWith RefA bs qs ++ R)[c]? = some (RefA b1 Q) := by
    rw [List.getElem?_append_left (by simp; omega), List.getElem?_zipWith, hb, hq]
  exact h.take (c + 3) (by simpa using hz)
theorem _root_.Go.Vc.Own.rqin {A1 A2 A3 : Asn} {bs : List Nat} {qs : List Qs} {c b1 : Nat} {Q : Qs} (hb : bs[c]? = some b1) (hc : c < qs.length) (h : Own B w0 w (RefA b1 Q :: A1 :: A2 :: A3 :: (List.zipWith RefA bs qs ++ R).eraseIdx c)) :
    Own B w0 w (A1 :: A2 :: A3 :: (List.zipWith RefA bs (qs.set c Q) ++ R)) := by
  have h1 := (List.getElem?_eq_some_iff.1 hb).1
  have h2 : Own B w0 w (RefA b1 Q :: (A1 :: A2 :: A3 :: (List.zipWith RefA bs qs ++ R)).eraseIdx (c + 3)) := by
    simpa only [List.eraseIdx_cons_succ] using h
  have h3 := h2.put (by simp; omega)
  simp only [List.set_cons_succ] at h3
  rw [List.set_append_left _ _ (by simp; omega), rz_set bs qs c hb] at h3
  exact h3
theorem set_same {c : Int} (c0 : 0 ≤ c) (c1 : c < m.qs.length) : m.qs.set c.toNat (m.q c) = m.qs := by
  apply List.ext_getElem?
  intro t
  rw [List.getElem?_set]
  by_cases e : c.toNat = t
  · subst e; rw [if_pos rfl, if_pos (by omega), q_get c0 c1]
  · rw [if_neg e]
/-- A field of a thread, written. -/
theorem stR {l : Sl} {A1 : Asn} {ths : List Thd} {n : Int} {t t' : Thd} {c : Nat} {v : Value} {a : Addr} {k : World → Prop} (h : Own B w0 w (A1 :: SlT thE l ths :: L)) (h0 : 0 ≤ n) (hx : ths[n.toNat]? = some t) (ha : l.a = some a)
    (he : thE.enc t' = (thE.enc t).set c v) (hc : c < 12) (hv : v.oneCell' = true) (hk : ∀ w', Own B w0 w' (A1 :: SlT thE l (ths.set n.toNat t') :: L) → k w') : St w ((a.add (n.toNat * 12)).add c) v k :=
  Own.stFc (s := l) (E := thE) (xs := ths) (i := n) (j := n.toNat) (c := c) (x := t) h t' (by omega) hx ha he hc hv fun w' h => hk w' h.up1
theorem ref10_is_spec {n : Int} {K : Bool → World → Prop} (h : Own B w0 w (RthA b m :: R)) (hK : K (m.isT n) w) : C.ref10_Threads_is (some ⟨b, 0, none⟩) n K w := by
  apply S.ref10_Threads_is_ok
  unfold S.ref10_Threads_is
  obtain ⟨l, q, bs, hbs, h⟩ := h.rth
  have hl := h.lenc l
  unfold Mt.isT at hK
  refine cdec (fun e => ?_) (fun e => ?_)
  · refine ⟨_, rfl, l, h.ldc rfl, ?_⟩
    rw [decide_eq_true (show 0 ≤ n from e), Bool.true_and] at hK
    rw [hl]; exact hK
  · rw [decide_eq_false (show ¬ 0 ≤ n from e), Bool.false_and] at hK; exact hK
theorem ref10_core_spec {n : Int} {K : Bool → World → Prop} (h : Own B w0 w (RthA b m :: R)) (hK : K (m.isC n) w) : C.ref10_Threads_core (some ⟨b, 0, none⟩) n K w := by
  apply S.ref10_Threads_core_ok
  unfold S.ref10_Threads_core
  obtain ⟨l, q, bs, hbs, h⟩ := h.rth
  have hl := h.lenc q
  unfold Mt.isC at hK
  refine cdec (fun e => ?_) (fun e => ?_)
  · refine ⟨_, rfl, q, h.ldd rfl, ?_⟩
    rw [decide_eq_true (show 0 ≤ n from e), Bool.true_and] at hK
    rw [hl, hbs]; exact hK
  · rw [decide_eq_false (show ¬ 0 ≤ n from e), Bool.false_and] at hK; exact hK
theorem ref10_prio_spec {n : Int} {K : Bool → World → Prop} (hK : K (decide (0 ≤ n ∧ n < 256)) w) : C.ref10_prio n K w := by
  apply S.ref10_prio_ok
  unfold S.ref10_prio
  refine cdec (fun e => ?_) (fun e => ?_)
  · rw [show decide (0 ≤ n ∧ n < 256) = decide (n ≤ 255) from decide_eq_decide.2 (by omega)] at hK; exact hK
  · rw [decide_eq_false (by omega)] at hK; exact hK
theorem ref10_Get_spec {n : Int} {K : Int → Int → Int → Int → Int → Int → Int → Int → Int → Int → Int → Int → Int → World → Prop} (h : Own B w0 w (RthA b m :: R))
    (hK : ∀ w' t, t = (if m.isT n then m.th n else zTh) → Own B w0 w' (RthA b m :: R) → K t.st t.pr t.co t.le (t.rg 0) (t.rg 1) (t.rg 2) (t.rg 3) (t.rg 4) (t.rg 5) (t.rg 6) (t.rg 7) (if m.isT n then 0 else 100) w') : C.ref10_Threads_Get (some ⟨b, 0, none⟩) n K w := by
  apply S.ref10_Threads_Get_ok
  unfold S.ref10_Threads_Get
  refine h.al fun w1 h => ?_
  generalize w.heap.size = c at h ⊢
  have h : Own B w0 w1 (RthA b m :: BlkA c [.int .i64 0, .int .i64 0, .int .i64 0, .int .i64 0, .int .u64 0, .int .u64 0, .int .u64 0, .int .u64 0, .int .u64 0, .int .u64 0, .int .u64 0, .int .u64 0] :: R) := h.up1
  refine ref10_is_spec h ?_
  cases e : m.isT n with
  | false =>
    have h : Own B w0 w1 (BlkA c [.int .i64 0, .int .i64 0, .int .i64 0, .int .i64 0, .int .u64 0, .int .u64 0, .int .u64 0, .int .u64 0, .int .u64 0, .int .u64 0, .int .u64 0, .int .u64 0] :: RthA b m :: R) := h.up1
    refine cbT rfl ?_
    refine h.stLc rfl rfl fun w h => ?_
    refine h.lc_12 rfl ?_
    have := hK w zTh (by rw [e]; rfl) h.drop
    rw [e] at this
    exact this
  | true =>
    refine cbF rfl ?_
    obtain ⟨n0, n1, hx⟩ := isT_get e
    have h2 : Own B w0 w1 (BlkA c [.int .i64 0, .int .i64 0, .int .i64 0, .int .i64 0, .int .u64 0, .int .u64 0, .int .u64 0, .int .u64 0, .int .u64 0, .int .u64 0, .int .u64 0, .int .u64 0] :: RthA b m :: R) := h.up1
    obtain ⟨l, q, bs, hbs, h⟩ := h.rth
    refine ⟨_, rfl, l, h.ldc rfl, ?_⟩
    refine h.ixc (s := l) (i := n) (j := n.toNat) (by omega) hx fun a ha h0 hc => ?_
    refine ⟨_, hc 0 _ rfl, _, hc 1 _ rfl, _, hc 2 _ rfl, _, hc 3 _ rfl, _, hc 4 _ rfl, _, hc 5 _ rfl, _, hc 6 _ rfl, _, hc 7 _ rfl, _, hc 8 _ rfl, _, hc 9 _ rfl, _, hc 10 _ rfl, _, hc 11 _ rfl, ?_⟩
    refine h2.stLc rfl rfl fun w h => ?_
    refine h.lc_12 rfl ?_
    have := hK w (m.th n) (by rw [e]; rfl) h.drop
    rw [e] at this
    exact this
theorem ref10_Reg_spec {n i v : Int} {K : Int → World → Prop} (h : Own B w0 w (RthA b m :: R)) (hK : ∀ w', Own B w0 w' (RthA b (m.regR n i v).2 :: R) → K (m.regR n i v).1 w') : C.ref10_Threads_Reg (some ⟨b, 0, none⟩) n i v K w := by
  apply S.ref10_Threads_Reg_ok
  unfold S.ref10_Threads_Reg
  unfold Mt.regR at hK
  refine ref10_is_spec h ?_
  cases hT : m.isT n with
  | false =>
    rw [if_pos hT] at hK
    exact cbT rfl (hK w h)
  | true =>
    rw [if_neg (by rw [hT]; simp)] at hK
    refine cbF rfl ?_
    intro k7 hk7
    have bad : ¬ (0 ≤ i ∧ i < 8) → k7 true w := fun e => by
      rw [if_pos e] at hK
      exact hk7 _ _ (cbT rfl (hK w h))
    refine cdec (fun e => bad (by omega)) (fun e => ?_)
    by_cases e2 : i > 7
    · rw [decide_eq_true e2]; exact bad (by omega)
    · rw [decide_eq_false e2]
      have hi : 0 ≤ i ∧ i < 8 := by omega
      rw [if_neg (fun hh => hh hi)] at hK
      obtain ⟨n0, n1, hx⟩ := isT_get hT
      obtain ⟨l, q, bs, hbs, h⟩ := h.rth
      refine hk7 _ _ (cbF rfl ⟨_, rfl, l, h.ldc rfl, ?_⟩)
      refine h.ixc (s := l) (i := n) (j := n.toNat) (by omega) hx fun a ha h0 hc => ?_
      refine ⟨by omega, by omega, ?_⟩
      obtain ⟨j, rfl⟩ := Int.eq_ofNat_of_zero_le hi.1
      have e1 : ((a.add (n.toNat * 12)).add 4).add ((j : Int).toNat * 1) = (a.add (n.toNat * 12)).add (4 + j) := by
        have := h.slAddr l ha
        rw [this, add_mk, add_mk, add_mk, add_mk, Int.toNat_natCast]
        congr 1; omega
      rw [e1]
      refine stR (c := 4 + j) (t' := { m.th n with rg := fun k => if k = j then v else (m.th n).rg k }) h n0 hx ha ?_ (by omega) rfl fun w h => ?_
      · have : j = 0 ∨ j = 1 ∨ j = 2 ∨ j = 3 ∨ j = 4 ∨ j = 5 ∨ j = 6 ∨ j = 7 := by omega
        rcases this with rfl | rfl | rfl | rfl | rfl | rfl | rfl | rfl <;> rfl
      · exact hK w (Own.mk_rth (m := m.reg n j v) hbs h)
theorem ref10_up_spec {n : Int} {K : World → Prop} (hm : MOk m) (hn : m.isT n = true) (h : Own B w0 w (RthA b m :: R)) (hK : ∀ w', Own B w0 w' (RthA b (m.lineUp n) :: R) → K w') : C.ref10_Threads_up (some ⟨b, 0, none⟩) n K w := by
  apply S.ref10_Threads_up_ok
  unfold S.ref10_Threads_up
  obtain ⟨l, q, bs, hbs, h⟩ := h.rth
  obtain ⟨n0, n1, hx⟩ := isT_get hn
  obtain ⟨⟨c0, c1⟩, _⟩ := hm.th hn
  obtain ⟨b1, hb1⟩ : ∃ x, bs[(m.th n).co.toNat]? = some x := ⟨_, List.getElem?_eq_getElem (by omega)⟩
  refine ⟨_, rfl, l, h.ldc rfl, ?_⟩
  refine h.ixc (s := l) (i := n) (j := n.toNat) (by omega) hx fun a ha h0 hc => ?_
  refine stR (c := 0) (t' := { m.th n with st := 1 }) h n0 hx ha rfl (by decide) rfl fun w h => ?_
  have hx2 : (m.ths.set n.toNat { m.th n with st := 1 })[n.toNat]? = some { m.th n with st := 1 } := by rw [List.getElem?_set, if_pos rfl, if_pos (by omega)]
  refine h.dr fun w h => ?_
  refine ⟨_, rfl, q, h.ldd rfl, _, rfl, l, h.ldc rfl, ?_⟩
  refine h.ixc (s := l) (i := n) (j := n.toNat) (by omega) hx2 fun a2 ha2 h0 hc2 => ⟨_, hc2 2 _ rfl, ?_⟩
  refine h.ixc (s := q) (j := (m.th n).co.toNat) (by show (m.th n).co = _; omega) hb1 fun a3 ha3 h03 hc3 => ⟨_, h03 _ rfl, _, rfl, l, h.ldc rfl, ?_⟩
  refine h.ixc (s := l) (i := n) (j := n.toNat) (by omega) hx2 fun a4 ha4 h04 hc4 => ⟨_, hc4 1 _ rfl, Go.Vc.a2 ?_⟩
  have h := h.rqout hb1 (q_get c0 c1)
  have hqok : QOk (m.q (m.th n).co) := by obtain ⟨_, e, _⟩ := h.refq; exact e
  have hlen := ids_len hqok hm.qline
  have hfew := hm.few
  refine ref09_Queue_Put_spec h (by omega) fun w h => ?_
  have h := h.rqin (qs := m.qs) hb1 (by omega)
  exact hK w (Own.mk_rth (m := m.lineUp n) (bs := bs) (by unfold Mt.lineUp Mt.setQ Mt.setTh; simpa using hbs) h)
theorem out_eq (hi : InvX (-1) m) {n : Int} (hn : m.isT n = true) : RthA b (m.setQ (m.th n).co (takeR (m.q (m.th n).co) n).2) = RthA b (m.leave0 n) := by
  have hc := hi.co hn
  obtain ⟨c0, c1⟩ := isC_iff.1 hc
  have same : (m.th n).st ≠ 1 → m.qs.set (m.th n).co.toNat (takeR (m.q (m.th n).co) n).2 = m.qs := fun e => by
    have : wh (m.q (m.th n).co) n = none := wh_none.2 fun x hx e2 => by
      obtain ⟨p, k⟩ := x
      have e2 : k = n := e2
      subst e2
      exact e ((hi.inq _ hc p k).1 hx).2.2.2.1
    unfold takeR
    rw [this]
    exact set_same c0 c1
  unfold Mt.leave0
  by_cases e : (m.th n).st = 1
  · rw [if_pos e]
  · rw [if_neg e]
    split
    · exact rth_eq rfl (same e)
    · exact rth_eq rfl (same e)
theorem ref10_out_spec {n : Int} {K : World → Prop} (hi : InvX (-1) m) (hn : m.isT n = true) (h : Own B w0 w (RthA b m :: R)) (hK : ∀ w', Own B w0 w' (RthA b (m.leave0 n) :: R) → K w') : C.ref10_Threads_out (some ⟨b, 0, none⟩) n K w := by
  apply S.ref10_Threads_out_ok
  unfold S.ref10_Threads_out
  obtain ⟨l, q, bs, hbs, h⟩ := h.rth
  obtain ⟨n0, n1, hx⟩ := isT_get hn
  obtain ⟨⟨c0, c1⟩, _⟩ := hi.ok.th hn
  obtain ⟨b1, hb1⟩ : ∃ x, bs[(m.th n).co.toNat]? = some x := ⟨_, List.getElem?_eq_getElem (by omega)⟩
  refine h.dr fun w h => ?_
  refine ⟨_, rfl, q, h.ldd rfl, _, rfl, l, h.ldc rfl, ?_⟩
  refine h.ixc (s := l) (i := n) (j := n.toNat) (by omega) hx fun a2 ha2 h0 hc2 => ⟨_, hc2 2 _ rfl, ?_⟩
  refine h.ixc (s := q) (j := (m.th n).co.toNat) (by show (m.th n).co = _; omega) hb1 fun a3 ha3 h03 hc3 => ⟨_, h03 _ rfl, Go.Vc.a2 ?_⟩
  have h := h.rqout hb1 (q_get c0 c1)
  refine ref09_Queue_Take_spec h fun w h => ?_
  have h := h.rqin (qs := m.qs) hb1 (by omega)
  have h2 : Own B w0 w (RthA b (m.setQ (m.th n).co (takeR (m.q (m.th n).co) n).2) :: R) := Own.mk_rth (bs := bs) (by unfold Mt.setQ; simpa using hbs) h
  rw [out_eq hi hn] at h2
  exact hK w h2
/-- What a core runs can be seen by the threads alone. -/
def RunsOk (m : Mt) (c : Int) : Prop := ∀ i, m.isT i = true → (m.runs? c = some i ↔ ((m.th i).st = 2 ∧ (m.th i).co = c))
theorem InvX.runsOk (hi : InvX (-1) m) (c : Int) : RunsOk m c := fun i hT => by
  have i0 := (isT_get hT).1
  constructor
  · intro h; have := hi.runIn h; exact ⟨this.2.2.2, this.2.2.1⟩
  · rintro ⟨h1, h2⟩
    have hc : m.isC c = true := by rw [← h2]; exact hi.co hT
    have := (hi.inr c hc i hT).2 ⟨by omega, h2, h1⟩
    unfold Mt.runs?
    rw [this, if_pos ⟨hc, by omega⟩]
theorem ref10_Runs_spec {c : Int} {K : Int → Bool → World → Prop} (hm : MOk m) (hr : RunsOk m c) (h : Own B w0 w (RthA b m :: R)) (hK : K ((m.runs? c).getD 0) (m.runs? c).isSome w) : C.ref10_Threads_Runs (some ⟨b, 0, none⟩) c K w := by
  apply S.ref10_Threads_Runs_ok
  unfold S.ref10_Threads_Runs
  have hfew := hm.few
  obtain ⟨l, q, bs, hbs, h⟩ := h.rth
  have hl := h.lenc l
  intro l3 hl3
  have loop : ∀ (j i : Nat), i + j = m.ths.length → (∀ k : Nat, k < i → m.runs? c ≠ some (k : Int)) → l3 (i : Int) w := by
    intro j
    induction j with
    | zero =>
      intro i hij hno
      apply hl3
      refine ⟨_, rfl, l, h.ldc rfl, cdecF (by omega) ?_⟩
      cases e : m.runs? c with
      | none => rw [e] at hK; exact hK
      | some o =>
        have hT := isT_get (hm.runT e).2.2.2
        exact absurd (by rw [e, Int.toNat_of_nonneg hT.1]) (hno o.toNat (by omega))
    | succ j ih =>
      intro i hij hno
      apply hl3
      refine ⟨_, rfl, l, h.ldc rfl, cdecT (by omega) ?_⟩
      have iT : m.isT (i : Int) = true := by unfold Mt.isT; simp; omega
      have hx := (isT_get iT).2.2
      have hri := hr (i : Int) iT
      rw [Int.toNat_natCast] at hx
      intro k8 hk8
      have yes : m.runs? c = some (i : Int) → k8 true w := fun e => by
        rw [e] at hK
        exact hk8 _ _ (cbT rfl hK)
      have no : m.runs? c ≠ some (i : Int) → k8 false w := fun e => by
        refine hk8 _ _ (cbF rfl ?_)
        rw [show IntKind.i64.wrap ((i : Int) + 1) = ((i + 1 : Nat) : Int) from by rw [wr (by omega) (by omega)]; omega]
        refine ih (i + 1) (by omega) fun k hk => ?_
        by_cases e2 : k = i
        · rw [e2]; exact e
        · exact hno k (by omega)
      refine ⟨_, rfl, l, h.ldc rfl, ?_⟩
      refine h.ixc (s := l) (i := (i : Int)) (j := i) rfl hx fun a2 ha2 h0 hc2 => ⟨_, hc2 0 _ rfl, ?_⟩
      refine ceq (fun e => ?_) (fun e => no fun e2 => e (hri.1 e2).1)
      refine ⟨_, rfl, l, h.ldc rfl, ?_⟩
      refine h.ixc (s := l) (i := (i : Int)) (j := i) rfl hx fun a2 ha2 h0 hc2 => ⟨_, hc2 2 _ rfl, ?_⟩
      by_cases e2 : (m.th (i : Int)).co = c
      · rw [show ((m.th (i : Int)).co == c) = true from by simpa using e2]
        exact yes (hri.2 ⟨e, e2⟩)
      · rw [show ((m.th (i : Int)).co == c) = false from by simpa using e2]
        exact no fun e3 => e2 (hri.1 e3).2
  exact loop m.ths.length 0 (by omega) (fun k hk => by omega)
theorem ref10_Line_spec {c p : Int} {K : Sl → World → Prop} (h : Own B w0 w (RthA b m :: R)) (hK : ∀ s w', Own B w0 w' (SlT intE s (if m.isC c then lineI (m.q c) p else []) :: RthA b m :: R) → K s w') : C.ref10_Threads_Line (some ⟨b, 0, none⟩) c p K w := by
  apply S.ref10_Threads_Line_ok
  unfold S.ref10_Threads_Line
  refine ref10_core_spec h ?_
  cases hc : m.isC c with
  | false =>
    rw [hc] at hK
    refine cbT rfl ?_
    exact hK _ w (Own.nilS h)
  | true =>
    rw [hc] at hK
    obtain ⟨l, q, bs, hbs, h⟩ := h.rth
    obtain ⟨c0, c1⟩ := isC_iff.1 hc
    obtain ⟨b1, hb1⟩ : ∃ x, bs[c.toNat]? = some x := ⟨_, List.getElem?_eq_getElem (by omega)⟩
    refine cbF rfl ?_
    refine ⟨_, rfl, q, h.ldd rfl, ?_⟩
    refine h.ixc (s := q) (j := c.toNat) (by omega) hb1 fun a2 ha2 h0 hcc => ⟨_, h0 _ rfl, ?_⟩
    have h := h.rqout hb1 (q_get c0 c1)
    refine ref09_Queue_Line_spec h fun s w h => ?_
    have h2 : Own B w0 w (RefA b1 (m.q c) :: BlkA b [slV l, slV q] :: SlT thE l m.ths :: SlT ptrE q bs :: ((List.zipWith RefA bs m.qs ++ R).eraseIdx c.toNat ++ [SlT intE s (lineI (m.q c) p)])) := by
      refine h.perm ?_
      exact (List.perm_append_singleton (SlT intE s (lineI (m.q c) p)) (RefA b1 (m.q c) :: BlkA b [slV l, slV q] :: SlT thE l m.ths :: SlT ptrE q bs :: (List.zipWith RefA bs m.qs ++ R).eraseIdx c.toNat)).symm
    rw [← List.eraseIdx_append_of_lt_length (by simp; omega), List.append_assoc] at h2
    have h3 := h2.rqin (qs := m.qs) hb1 (by omega)
    rw [set_same c0 c1] at h3
    have h4 : Own B w0 w (RthA b m :: (R ++ [SlT intE s (lineI (m.q c) p)])) := Own.mk_rth hbs h3
    refine hK s w ?_
    refine h4.perm ?_
    exact List.perm_append_singleton (SlT intE s (lineI (m.q c) p)) (RthA b m :: R)
end
end Go.Proofs.Ytgkebkfabegflaa
