/- Laws of layer 10: who runs behind Pick; the walk. -/
import Derived.Test.YtgkebkfabegflaaTH16
import Derived.Test.YtgkebkfabegflaaS0
set_option linter.unusedVariables false
set_option linter.unusedSimpArgs false
set_option maxRecDepth 8000
namespace Go.Proofs.Ytgkebkfabegflaa
open Go Go.Vc Go.Proofs

section
variable {B : Nat} {w0 w : World} {R L : List Asn} {b : Nat} {m m1 m2 : Mt}
/-- How many of the first ones run. -/
def upTo (r : Option Int) (i : Int) : Int := match r with | some j => if j < i then 1 else 0 | none => 0
theorem upTo_same {r : Option Int} {i : Int} (h : r ≠ some i) : upTo r (i + 1) = upTo r i := by
  cases r with
  | none => rfl
  | some j =>
    have : j ≠ i := fun e => h (by rw [e])
    unfold upTo
    simp only
    by_cases e : j < i
    · rw [if_pos (by omega), if_pos e]
    · rw [if_neg (by omega), if_neg e]
theorem upTo_next {i : Int} : upTo (some i) (i + 1) = upTo (some i) i + 1 := by unfold upTo; simp only; rw [if_pos (by omega), if_neg (by omega)]; rfl
theorem law10_ThreadsPick_spec {cores core : Int} {s3 : Sl} {ops : List Op10} {K : Bool → World → Prop} (wc1 : (Lit.int .i64 cores).wf = true) (wc2 : (Lit.int .i64 core).wf = true) (hi : Inp op10E w0 s3 ops) (hg : ∀ x ∈ ops, op10Good x) (h : Own w0.heap.size w0 w []) (hK : ∀ w', Own w0.heap.size w0 w' [] → K true w') : C.law10_ThreadsPick cores core s3 K w := by
  apply S.law10_ThreadsPick_ok
  unfold S.law10_ThreadsPick
  have hlen := hi.len
  obtain ⟨q, hq, hq8⟩ := and7 (n := cores)
  obtain ⟨p, hp⟩ := and65535 (n := core)
  have hc0 : IntKind.i64.wrap ((1 : Int) + (q : Int)) = ((q + 1 : Nat) : Int) := by rw [wr (by omega) (by omega)]; omega
  rw [hq, hp, hc0]
  generalize hN : q + 1 = N
  have hcc : Int.tmod (p : Int) (N : Int) = ((p % N : Nat) : Int) := rfl
  rw [hcc]
  have hlt : p % N < N := Nat.mod_lt _ (by omega)
  generalize p % N = c at hlt
  refine thr_New_spec h (fun e => absurd ⟨by omega, by omega⟩ e) fun N2 hN2 _ _ b w h => ?_
  obtain rfl : N = N2 := by omega
  intro k7 hk7
  refine cbF rfl (hk7 _ _ (cbF (by decide) ?_))
  intro l10 hl10
  have loop : ∀ (j i : Nat) (m : Mt) (w : World), i + j = 61 → i ≤ 60 → i ≤ ops.length → InvX (-1) m → m.qs.length = N → Own w0.heap.size w0 w [ThrA b m] → l10 (m.ths.length : Int) (i : Int) w := by
    intro j
    induction j with
    | zero => intro i m w h1 h2; omega
    | succ j ih =>
      intro i m w him hi60 hil inv hmN h
      apply hl10
      intro k14 hk14
      have hfew := inv.ok.few
      have exit_ : k14 false w := by
        refine hk14 _ _ (cbF rfl ⟨by omega, ?_⟩)
        have hc : m.isC (c : Int) = true := isC_iff.2 ⟨by omega, by omega⟩
        have law := pick_law inv hc
        have sm : Sm m (m.pickC (c : Int)) := Sm.refl.pickC
        have hT : ∀ k, (m.pickC (c : Int)).isT k = m.isT k := sm.isT
        have inv2 := inv.pickC (c : Int)
        have hl2 := sm.1
        refine thr_Pick_spec inv.ok h fun w h => ?_
        have hc2 : (m.pickC (c : Int)).isC (c : Int) = true := by rw [sm.isC]; exact hc
        generalize m.pickC (c : Int) = mp at *
        have run1 : ∀ i, mp.isT i = true → (mp.th i).co = (c : Int) → ((mp.th i).st = 2 ↔ mp.runs? (c : Int) = some i) := fun i hT2 hco => by
          have i0 := (isT_get hT2).1
          constructor
          · intro hs
            have := (inv2.inr _ hc2 i hT2).2 ⟨by omega, hco, hs⟩
            unfold Mt.runs?
            rw [this, if_pos ⟨hc2, by omega⟩]
          · intro hr; exact (inv2.runIn hr).2.2.2
        intro l40 hl40
        have loop2 : ∀ (j i : Nat) (rd : Bool) (w : World), i + j = m.ths.length → (rd = true → (mp.runs? (c : Int)).isSome = true) → Own w0.heap.size w0 w [ThrA b mp] → l40 (upTo (mp.runs? (c : Int)) (i : Int)) rd (i : Int) w := by
          intro j
          induction j with
          | zero =>
            intro i rd w hij hrd h
            apply hl40
            refine cdecF (by omega) ?_
            have hup : upTo (mp.runs? (c : Int)) (i : Int) = if (mp.runs? (c : Int)).isSome then 1 else 0 := by
              cases hr : mp.runs? (c : Int) with
              | none => rfl
              | some y =>
                have hy := (isT_get (inv2.runIn hr).2.1).2.1
                unfold upTo
                simp only [Option.isSome_some, if_true]
                rw [if_pos (by omega)]
            rw [hup]
            cases hr : (mp.runs? (c : Int)).isSome with
            | true =>
              refine cbT rfl (cdecT (by decide) (cbT rfl ?_))
              exact law10_fixed_spec h fun w h => hK _ h.sub
            | false =>
              have : rd = false := by
                cases rd with
                | false => rfl
                | true => rw [hr] at hrd; exact (hrd rfl).symm
              subst this
              refine cbT rfl (cdecT (by decide) (cbF rfl (cbT rfl ?_)))
              exact law10_fixed_spec h fun w h => hK _ h.sub
          | succ j ihj =>
            intro i rd w hij hrd h
            apply hl40
            refine cdecT (by omega) ?_
            have iT : mp.isT (i : Int) = true := by rw [hT]; unfold Mt.isT; simp; omega
            have law1 := law (i : Int) (by rw [← hT]; exact iT)
            have run2 := run1 (i : Int) iT
            have e1 : IntKind.i64.wrap ((i : Int) + 1) = ((i + 1 : Nat) : Int) := by rw [wr (by omega) (by omega)]; omega
            rw [e1]
            refine thr_Get_spec h fun w x ex h => ?_
            rw [iT, if_pos rfl] at ex
            rw [iT]
            subst ex
            refine h.al fun w2 h => ?_
            generalize w.heap.size = d1 at h ⊢
            refine h.stLc rfl rfl fun w h => ?_
            refine thr_Get_spec (h.pick (A := ThrA b mp)) fun w y ey h => ?_
            refine h.al fun w2 h => ?_
            generalize w.heap.size = d2 at h ⊢
            refine h.stLc rfl rfl fun w h => ?_
            (dsimp only [putAt, List.set_cons_zero, List.set_cons_succ] at h)
            refine cneF rfl ?_
            refine ⟨_, h.ldd rfl, ?_⟩
            refine cne (fun e => ?_) (fun e => ?_)
            · have hne : mp.runs? (c : Int) ≠ some (i : Int) := fun hr => e (inv2.runIn hr).2.2.1
              have := ihj (i + 1) rd w (by omega) hrd h.sub
              rw [show ((i + 1 : Nat) : Int) = (i : Int) + 1 from by omega, upTo_same hne] at this
              exact this
            refine ⟨_, h.ldc rfl, ?_⟩
            intro k79 hk79
            have run2 := run2 e
            have law1 := law1 e
            have go : k79 (upTo (mp.runs? (c : Int)) ((i + 1 : Nat) : Int)) w := by
              refine hk79 _ _ ?_
              intro k82 hk82
              have go2 : ∀ rd2 : Bool, (rd2 = true → (mp.runs? (c : Int)).isSome = true) → k82 rd2 w := fun rd2 hrd2 => by
                refine hk82 _ _ ?_
                intro k85 hk85
                have go3 : k85 false w := hk85 _ _ (cbF rfl (ihj (i + 1) rd2 w (by omega) hrd2 h.sub))
                have go4 : (mp.th (i : Int)).st = 2 → k85 ((i : Int) != (mp.runs? (c : Int)).getD 0) w := fun hs => by
                  rw [run2.1 hs]
                  simp only [Option.getD_some, bne_self_eq_false]
                  exact go3
                refine ⟨_, h.ldc rfl, ?_⟩
                refine ceq (fun e1 => ?_) (fun e1 => ?_)
                · obtain ⟨z, hz, hle⟩ := law1 e1
                  have zT := (inv2.runIn hz).2.1
                  rw [hz] at ey ⊢
                  rw [hz] at go4
                  simp only [Option.getD_some] at ey
                  rw [zT, if_pos rfl] at ey
                  subst ey
                  refine cbF rfl ?_
                  refine ⟨_, h.ldd rfl, _, h.ldd rfl, ?_⟩
                  refine cdecF (by omega) ?_
                  refine ⟨_, h.ldc rfl, ?_⟩
                  exact ceqF (by omega) go3
                · refine ⟨_, h.ldc rfl, ?_⟩
                  exact ceq (fun e2 => go4 e2) (fun e2 => go3)
              refine cb (fun e2 => ?_) (fun e2 => ?_)
              · exact go2 true fun _ => hrd e2
              · refine ⟨_, h.ldc rfl, go2 _ fun e3 => ?_⟩
                obtain ⟨z, hz, _⟩ := law1 (by simpa using e3)
                rw [hz]; rfl
            refine ceq (fun e2 => ?_) (fun e2 => ?_)
            · have hr := run2.1 e2
              have : IntKind.i64.wrap (upTo (mp.runs? (c : Int)) (i : Int) + 1) = upTo (mp.runs? (c : Int)) ((i + 1 : Nat) : Int) := by
                rw [hr, show ((i + 1 : Nat) : Int) = (i : Int) + 1 from by omega, upTo_next]
                have : upTo (some (i : Int)) (i : Int) = 0 := by unfold upTo; simp
                rw [this]; decide
              rw [this]; exact go
            · have hne : mp.runs? (c : Int) ≠ some (i : Int) := fun hr => e2 (run2.2 hr)
              rw [show ((i + 1 : Nat) : Int) = (i : Int) + 1 from by omega, upTo_same hne] at go
              exact go
        have := loop2 m.ths.length 0 false w (by omega) (fun e => by cases e) h
        have e0 : upTo (mp.runs? (c : Int)) ((0 : Nat) : Int) = 0 := by
          cases hr : mp.runs? (c : Int) with
          | none => rfl
          | some y =>
            have hy := (isT_get (inv2.runIn hr).2.1).1
            unfold upTo
            simp only
            rw [if_neg (by omega)]
        rw [e0] at this
        exact this
      refine cdec (fun e1 => ?_) (fun e1 => exit_)
      by_cases e2 : (i : Int) < 60
      case neg => rw [decide_eq_false e2]; exact exit_
      rw [decide_eq_true e2]
      have hlt2 : i < ops.length := by omega
      obtain ⟨o, ho⟩ : ∃ o, ops[i]? = some o := ⟨_, List.getElem?_eq_getElem hlt2⟩
      have hr2 : Rd op10E w0.heap.size w0 [ThrA b m] s3 ops := hi.rd _
      refine hk14 _ _ (cbT rfl ?_)
      refine hr2.ix h rfl ho fun a ha h0 hc => ?_
      refine ldOp10 hc ?_
      refine h.al fun w2 h => ?_
      generalize w.heap.size = d at h ⊢
      refine h.stLc rfl rfl fun w h => ?_
      (dsimp only [putAt, List.set_cons_zero, List.set_cons_succ] at h)
      have e3 : IntKind.i64.wrap ((i : Int) + 1) = ((i + 1 : Nat) : Int) := by rw [wr (by omega) (by omega)]; omega
      rw [e3]
      refine ⟨_, h.ldc rfl, ?_⟩
      refine ceq (fun e4 => ?_) (fun e4 => ?_)
      · refine ⟨_, h.ldd rfl, _, h.ldd rfl, ?_⟩
        refine make_g inv.ok (h.pick (A := ThrA b m)) fun w h => ?_
        have inv3 := inv.makeR o.2.2.1 o.2.1
        unfold Mt.makeR at h inv3 ⊢
        by_cases c1 : 0 ≤ o.2.2.1 ∧ o.2.2.1 < 256 ∧ m.isC o.2.1 = true
        · rw [if_neg (fun hh => hh c1)] at h inv3 ⊢
          by_cases c2 : 64 ≤ m.ths.length
          · rw [if_pos c2] at h inv3 ⊢
            exact ceqF (by simp) (ih (i + 1) m w (by omega) (by omega) (by omega) inv3 hmN h.sub)
          · rw [if_neg c2] at h inv3 ⊢
            refine ceqT rfl ?_
            have e5 : IntKind.i64.wrap ((m.ths.length : Int) + 1) = ((m.make o.2.2.1 o.2.1).ths.length : Int) := by
              unfold Mt.make
              rw [wr (by omega) (by omega), List.length_append]; rfl
            rw [e5]
            exact ih (i + 1) (m.make o.2.2.1 o.2.1) w (by omega) (by omega) (by omega) inv3 hmN h.sub
        · rw [if_pos c1] at h inv3 ⊢
          exact ceqF (by simp) (ih (i + 1) m w (by omega) (by omega) (by omega) inv3 hmN h.sub)
      · refine h.lc_5 rfl ?_
        refine law10_done_spec inv (h.pick (A := ThrA b m)) fun w h => ?_
        have sm : Sm m (m.done o.1.1 o.1.2 o.2.1 o.2.2.1) := Sm.refl.done
        have := ih (i + 1) (m.done o.1.1 o.1.2 o.2.1 o.2.2.1) w (by omega) (by omega) (by omega) (inv.done _ _ _ _) (by rw [sm.2]; exact hmN) h.sub
        rw [sm.1] at this
        exact this
  exact loop 61 0 (newM N) w (by omega) (by omega) (by omega) (newM_inv (by omega)) (by simp [newM]) h
end
end Go.Proofs.Ytgkebkfabegflaa
