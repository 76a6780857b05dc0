/- Threads of layer 10: new ones; made; ticked. -/
import Derived.Test.YtgkebkfabegflaaTH4
import Derived.Test.YtgkebkfabegflaaS1
import Derived.Test.YtgkebkfabegflaaS3
set_option linter.unusedVariables false
set_option linter.unusedSimpArgs false
set_option maxRecDepth 8000
namespace Go.Proofs.Ytgkebkfabegflaa
open Go Go.Vc Go.Proofs

section
variable {B : Nat} {w0 w : World} {R : List Asn} {b : Nat} {m : Mt}
theorem ref09_Nums_spec {s1 s2 : Sl} {xs ys : List Int} {K : Bool → World → Prop} (h : Own B w0 w R) (i j : Nat) (hi : R[i]? = some (SlT intE s1 xs)) (hj : R[j]? = some (SlT intE s2 ys)) (hs : xs.length < 1000000000)
    (hK : ∀ w', Own B w0 w' R → K (decide (xs = ys)) w') : C.ref09_Nums s1 s2 K w := by
  apply S.ref09_Nums_ok
  unfold S.ref09_Nums
  have l1 := h.len i hi
  have l2 := h.len j hj
  by_cases hl : xs.length = ys.length
  · rw [show ((s1.len : Int) != (s2.len : Int)) = false from by simp; omega, cond_false]
    intro l3 hl3
    have loop : ∀ (m k : Nat) (w : World), k + m = xs.length → xs.take k = ys.take k → Own B w0 w R → l3 (k : Int) w := by
      intro m
      induction m with
      | zero =>
        intro k w hk ht h
        apply hl3
        rw [show decide ((k : Int) < (s1.len : Int)) = false from by simp; omega, cond_false]
        rw [List.take_of_length_le (by omega), List.take_of_length_le (by omega)] at ht
        have := hK w h
        rw [decide_eq_true ht] at this
        exact this
      | succ m ih =>
        intro k w hk ht h
        apply hl3
        rw [show decide ((k : Int) < (s1.len : Int)) = true from by simp; omega, cond_true]
        refine h.dr fun w1 h => ?_
        have hx : xs[k]? = some xs[k] := List.getElem?_eq_getElem (by omega)
        have hy : ys[k]? = some ys[k] := List.getElem?_eq_getElem (by omega)
        obtain ⟨a, ha, hc⟩ := h.getI i hi hx
        obtain ⟨a', ha', hc'⟩ := h.getI j hj hy
        refine ⟨a, ha, by omega, by omega, _, hc, a', ha', by omega, by omega, _, hc', ?_⟩
        by_cases e : xs[k] = ys[k]
        · rw [show (xs[k] != ys[k]) = false from by simpa using e, cond_false, wr (by omega) (by omega)]
          refine ih (k + 1) w1 (by omega) ?_ h
          rw [List.take_add_one, List.take_add_one, ht, hx, hy, e]
        · rw [show (xs[k] != ys[k]) = true from by simpa using e, cond_true]
          have := hK w1 h
          rw [decide_eq_false (by rintro rfl; exact e rfl)] at this
          exact this
    exact loop xs.length 0 w (by omega) rfl h
  · rw [show ((s1.len : Int) != (s2.len : Int)) = true from by simp; omega, cond_true]
    have := hK w h
    rw [decide_eq_false (by rintro rfl; exact hl rfl)] at this
    exact this
def Mt.make (m : Mt) (p c : Int) : Mt := { m with ths := m.ths ++ [⟨0, p, c, 5, fun _ => 0⟩] }
theorem MOk.make (hm : MOk m) {p c : Int} (hl : m.ths.length < 64) (hc : m.isC c = true) : MOk (m.make p c) := by
  obtain ⟨c0, c1⟩ := isC_iff.1 hc
  unfold Mt.make
  refine ⟨by simp; omega, hm.cores, hm.most, fun x hx => ?_, fun x hx => rfl, fun n hn => ?_, fun Q hQ x hx => ?_⟩
  · rcases List.mem_append.1 hx with h | h
    · exact hm.core x h
    · simp at h; subst h; exact ⟨c0, c1⟩
  · rcases hm.run n hn with h | h
    · exact .inl h
    · exact .inr ⟨h.1, by simp; omega⟩
  · have := hm.line Q hQ x hx
    exact ⟨this.1, by simp; omega⟩
theorem thr_Make_spec {p c : Int} {K : Int → Int → World → Prop} (hm : MOk m) (h : Own B w0 w (ThrA b m :: R))
    (hK0 : ¬ (0 ≤ p ∧ p < 256 ∧ m.isC c = true) → ∀ w', Own B w0 w' (ThrA b m :: R) → K 0 1 w')
    (hK1 : (0 ≤ p ∧ p < 256 ∧ m.isC c = true) → 64 ≤ m.ths.length → ∀ w', Own B w0 w' (ThrA b m :: R) → K 0 2 w')
    (hK2 : (0 ≤ p ∧ p < 256 ∧ m.isC c = true) → m.ths.length < 64 → ∀ w', Own B w0 w' (ThrA b (m.make p c) :: R) → K (m.ths.length : Int) 0 w') : C.threads_Threads_Make (some ⟨b, 0, none⟩) p c K w := by
  apply S.threads_Threads_Make_ok
  unfold S.threads_Threads_Make
  have hfew := hm.few
  obtain ⟨l, q, r, bs, hbs, h⟩ := h.thr
  have hl := h.lenc l
  intro k hk
  refine thr_prio_spec ?_
  refine cnb (fun e => ?_) (fun e => ?_)
  · refine hk _ _ (cbT rfl ?_)
    exact hK0 (fun hh => by rw [decide_eq_true hh.1, decide_eq_true hh.2.1] at e; cases e) w (Own.mk_thr hbs h)
  simp only [Bool.and_eq_true, decide_eq_true_eq] at e
  refine thr_core_o hbs h ?_
  cases hc : m.isC c with
  | false =>
    refine hk _ _ (cbT rfl ?_)
    exact hK0 (fun hh => by rw [hc] at hh; cases hh.2.2) w (Own.mk_thr hbs h)
  | true =>
    have hh := And.intro e.1 (And.intro e.2 hc)
    refine hk _ _ (cbF rfl ?_)
    refine ⟨_, rfl, l, h.ldc rfl, ?_⟩
    refine cdec (fun e2 => ?_) (fun e2 => ?_)
    · exact hK1 hh (by omega) w (Own.mk_thr hbs h)
    · refine ⟨_, rfl, l, h.ldc rfl, ?_⟩
      refine h.al fun w1 h => ?_
      generalize w.heap.size = d at h ⊢
      refine Own.app1c (s := l) (E := thE) (xs := m.ths) (y := ⟨0, p, c, 5, fun _ => 0⟩) Try.underlying57 (show Try.prog.info? 37 = some Try.t37 from by kernel_rfl) (zv := (Try.t37.zero).get (by kernel_rfl)) (by kernel_rfl) (by kernel_rfl) (by kernel_rfl) (by decide) h (by
        have e : Try.t37.bytes = 96 := by kernel_rfl
        rw [e]; omega) fun s' w hs' h => ?_
      refine ⟨_, rfl, ?_⟩
      have h := h.up1
      refine h.stc rfl rfl fun w h => ?_
      refine ⟨_, rfl, s', h.ldc rfl, ?_⟩
      rw [show IntKind.i64.wrap ((s'.len : Int) - 1) = (m.ths.length : Int) from by rw [hs', wr (by omega) (by omega)]; omega]
      exact hK2 hh (by omega) w (Own.mk_thr (m := m.make p c) (l := s') (q := q) (r := r) (bs := bs) hbs h)
def Mt.yield (m : Mt) (c : Int) : Mt := match m.runs? c with
  | none => m
  | some o => (((m.setTh o { m.th o with le := 5 }).leave o 1).lineUp o).pickC c
theorem setTh_isT {n k : Int} {t : Thd} : (m.setTh n t).isT k = m.isT k := by unfold Mt.setTh Mt.isT; simp
theorem thr_Yield_spec {c : Int} {K : Bool → World → Prop} (hm : MOk m) (h : Own B w0 w (ThrA b m :: R)) (hK : ∀ w', Own B w0 w' (ThrA b (m.yield c) :: R) → K (m.runs? c).isSome w') : C.threads_Threads_Yield (some ⟨b, 0, none⟩) c K w := by
  apply S.threads_Threads_Yield_ok
  unfold S.threads_Threads_Yield
  refine thr_Runs_spec (c := c) hm h fun w h => ?_
  unfold Mt.yield at hK
  cases hr : m.runs? c with
  | none =>
    rw [hr] at hK
    exact cbT rfl (hK w h)
  | some o =>
    rw [hr] at hK
    obtain ⟨hc, hro, ho1, hoT⟩ := hm.runT hr
    obtain ⟨o0, o1, hox⟩ := isT_get hoT
    have ht := hm.th hoT
    refine cbF rfl ?_
    obtain ⟨l, q, r, bs, hbs, h⟩ := h.thr
    refine ⟨_, rfl, l, h.ldc rfl, ?_⟩
    refine h.ixc (s := l) (i := o) (j := o.toNat) (by omega) hox fun a ha h0 hcc => ?_
    refine stTh (c := 3) (t' := { m.th o with le := 5 }) h o0 hox ha rfl (by decide) rfl fun w h => ?_
    have h : Own B w0 w (ThrA b (m.setTh o { m.th o with le := 5 }) :: R) := Own.mk_thr (m := m.setTh o { m.th o with le := 5 }) hbs h
    have hm1 : MOk (m.setTh o { m.th o with le := 5 }) := hm.setTh (t := { m.th o with le := 5 }) ht.1 rfl
    have hT1 : (m.setTh o { m.th o with le := 5 }).isT o = true := by rw [setTh_isT]; exact hoT
    refine thr_leave_spec hm1 hT1 h fun w h => ?_
    have hT2 : ((m.setTh o { m.th o with le := 5 }).leave o 1).isT o = true := by rw [leave_isT]; exact hT1
    refine thr_lineUp_spec (hm1.leave hT1) hT2 h fun w h => ?_
    refine thr_Pick_spec ((hm1.leave hT1).lineUp hT2) h fun w h => ?_
    exact hK w h
def Mt.tick (m : Mt) (c : Int) : Mt := match m.runs? c with
  | none => m
  | some o => if IntKind.i64.wrap ((m.th o).le - 1) ≤ 0 then (m.setTh o { m.th o with le := IntKind.i64.wrap ((m.th o).le - 1) }).yield c else m.setTh o { m.th o with le := IntKind.i64.wrap ((m.th o).le - 1) }
theorem thr_Tick_spec {c : Int} {K : Bool → World → Prop} (hm : MOk m) (h : Own B w0 w (ThrA b m :: R)) (hK : ∀ w', Own B w0 w' (ThrA b (m.tick c) :: R) → K (m.runs? c).isSome w') : C.threads_Threads_Tick (some ⟨b, 0, none⟩) c K w := by
  apply S.threads_Threads_Tick_ok
  unfold S.threads_Threads_Tick
  refine thr_Runs_spec (c := c) hm h fun w h => ?_
  unfold Mt.tick at hK
  cases hr : m.runs? c with
  | none =>
    rw [hr] at hK
    exact cbT rfl (hK w h)
  | some o =>
    rw [hr] at hK
    obtain ⟨hc, hro, ho1, hoT⟩ := hm.runT hr
    obtain ⟨o0, o1, hox⟩ := isT_get hoT
    have ht := hm.th hoT
    refine cbF rfl ?_
    obtain ⟨l, q, r, bs, hbs, h⟩ := h.thr
    refine ⟨_, rfl, l, h.ldc rfl, ?_⟩
    refine h.ixc (s := l) (i := o) (j := o.toNat) (by omega) hox fun a ha h0 hcc => ⟨_, hcc 3 _ rfl, ?_⟩
    refine h.ixc (s := l) (i := o) (j := o.toNat) (by omega) hox fun a ha h0 hcc => ?_
    simp only at hK
    generalize hv : IntKind.i64.wrap ((m.th o).le - 1) = v at hK ⊢
    refine stTh (c := 3) (t' := { m.th o with le := v }) h o0 hox ha rfl (by decide) rfl fun w h => ?_
    have hx2 : (m.ths.set o.toNat { m.th o with le := v })[o.toNat]? = some { m.th o with le := v } := by rw [List.getElem?_set, if_pos rfl, if_pos (by omega)]
    refine ⟨_, rfl, l, h.ldc rfl, ?_⟩
    refine h.ixc (s := l) (i := o) (j := o.toNat) (by omega) hx2 fun a ha h0 hcc => ⟨_, hcc 3 _ rfl, ?_⟩
    have h : Own B w0 w (ThrA b (m.setTh o { m.th o with le := v }) :: R) := Own.mk_thr (m := m.setTh o { m.th o with le := v }) hbs h
    have hm1 : MOk (m.setTh o { m.th o with le := v }) := hm.setTh (t := { m.th o with le := v }) ht.1 rfl
    refine cdec (fun e => ?_) (fun e => ?_)
    · rw [if_pos (show v ≤ 0 from e)] at hK
      exact thr_Yield_spec hm1 h fun w h => hK w h
    · rw [if_neg (show ¬ v ≤ 0 from e)] at hK
      exact hK w h
end
end Go.Proofs.Ytgkebkfabegflaa
