/- The stage's theorem of layer 10. -/
import Derived.Test.YtgkebkfabegflaaTH20
import Derived.Test.YtgkebkfabegflaaS0
set_option linter.unusedVariables false
set_option linter.unusedSimpArgs false
set_option maxRecDepth 8000
namespace Go.Proofs.Ytgkebkfabegflaa
open Go Go.Vc Go.Proofs

section
variable {w0 w : World}
theorem lineI_len {L : Qs} (h : QOk L) (p : Int) : (lineI L p).length ≤ 1000000 := by
  have := h.few
  unfold lineI
  split
  · simp
  · exact Nat.le_trans (line_len _ _) this
theorem law10_ThreadsDoes_spec {cores : Int} {s2 : Sl} {ops : List Op10} {K : Bool → World → Prop} (wc1 : (Lit.int .i64 cores).wf = true) (hi : Inp op10E w0 s2 ops) (hg : ∀ x ∈ ops, op10Good x) (h : Own w0.heap.size w0 w []) (hK : ∀ w', Own w0.heap.size w0 w' [] → K true w') : C.law10_ThreadsDoes cores s2 K w := by
  apply S.law10_ThreadsDoes_ok
  unfold S.law10_ThreadsDoes
  have hlen := hi.len
  obtain ⟨q, hq, hq8⟩ := and7 (n := cores)
  have hc0 : IntKind.i64.wrap ((1 : Int) + (q : Int)) = ((q + 1 : Nat) : Int) := by rw [wr (by omega) (by omega)]; omega
  rw [hq, hc0]
  generalize hN : q + 1 = N
  refine thr_New_spec h (fun e => absurd ⟨by omega, by omega⟩ e) fun N2 hN2 _ _ b w h => ?_
  obtain rfl : N = N2 := by omega
  refine ref10_New_spec (by omega) (by omega) h fun rb w h => ?_
  intro k9 hk9
  refine cbF rfl (cbF rfl (cneF rfl (hk9 _ _ (cbF (by decide) ?_))))
  intro l12 hl12
  have loop : ∀ (j i b : Nat) (m : Mt) (w : World), i + j = 81 → i ≤ 80 → i ≤ ops.length → InvX (-1) m → Own w0.heap.size w0 w [ThrA b m, RthA rb m] → l12 (some ⟨b, 0, none⟩) (i : Int) w := by
    intro j
    induction j with
    | zero => intro i b m w h1 h2; omega
    | succ j ih =>
      intro i b m w him hi80 hil inv h
      apply hl12
      intro k16 hk16
      have exit_ : k16 false w := hk16 _ _ (cbF rfl (law10_fixed_spec h fun w h => hK _ h.sub))
      refine cdec (fun e1 => ?_) (fun e1 => exit_)
      by_cases e2 : (i : Int) < 80
      case neg => rw [decide_eq_false e2]; exact exit_
      rw [decide_eq_true e2]
      have hlt2 : i < ops.length := by omega
      obtain ⟨o, ho⟩ : ∃ o, ops[i]? = some o := ⟨_, List.getElem?_eq_getElem hlt2⟩
      have hr2 : Rd op10E w0.heap.size w0 [ThrA b m, RthA rb m] s2 ops := hi.rd _
      refine hk16 _ _ (cbT rfl ?_)
      refine hr2.ix h rfl ho fun a ha h0 hc => ?_
      refine ldOp10 hc ?_
      refine h.al fun w2 h => ?_
      generalize w.heap.size = d at h ⊢
      refine h.stLc rfl rfl fun w h => ?_
      (dsimp only [putAt, List.set_cons_zero, List.set_cons_succ] at h)
      refine ⟨_, h.ldc rfl, ?_⟩
      intro k28 hk28
      have fin : ∀ (b : Nat) (w : World), Own w0.heap.size w0 w [ThrA b m, RthA rb m, BlkA d [.int .i64 o.1.1, .int .i64 o.1.2, .int .i64 o.2.1, .int .i64 o.2.2.1, .int .u64 o.2.2.2]] → k28 (some ⟨b, 0, none⟩) w := fun b w h => by
        apply hk28
        refine h.lc_5 rfl ?_
        refine law10_same_spec inv h fun w h => ?_
        have inv2 := inv.op o.1.1 o.1.2 o.2.1 o.2.2.1 o.2.2.2
        generalize m.op o.1.1 o.1.2 o.2.1 o.2.2.1 o.2.2.2 = m2 at *
        have hm2 := inv2.ok
        have hfew := hm2.few
        refine cbF rfl ?_
        intro l38 hl38
        have loop2 : ∀ (j id : Nat) (w : World), id + j = m2.ths.length + 1 → Own w0.heap.size w0 w [ThrA b m2, RthA rb m2, BlkA d [.int .i64 o.1.1, .int .i64 o.1.2, .int .i64 o.2.1, .int .i64 o.2.2.1, .int .u64 o.2.2.2]] → l38 (id : Int) w := by
          intro j
          induction j with
          | zero =>
            intro id w hid h
            apply hl38
            obtain ⟨rl, rq, rbs, hrbs, hr⟩ := (h.pick (A := RthA rb m2)).rth
            have hrl := hr.lenc rl
            refine ⟨_, rfl, rl, hr.ldc rfl, ?_⟩
            refine cdecF (by omega) ?_
            refine ⟨_, h.ldd rfl, thr_Runs_spec hm2 h fun w h => ⟨_, h.ldd rfl, ref10_Runs_spec hm2 (inv2.runsOk _) (h.pick (A := RthA rb m2)) ?_⟩⟩
            intro k111 hk111
            refine h.dr fun w h => ?_
            refine cneF rfl (cbF (by simp) ?_)
            have hX : (if m2.isC o.2.1 then lineI (m2.q o.2.1) o.2.2.1 else []).length ≤ 1000000 := by
              split
              · exact lineI_len (inv2.qok _) _
              · simp
            have spec1 : ∀ (X : Sl → World → Prop) (w : World), Own w0.heap.size w0 w [ThrA b m2, RthA rb m2, BlkA d [.int .i64 o.1.1, .int .i64 o.1.2, .int .i64 o.2.1, .int .i64 o.2.2.1, .int .u64 o.2.2.2]] → (∀ s w', Own w0.heap.size w0 w' [SlT intE s (if m2.isC o.2.1 then lineI (m2.q o.2.1) o.2.2.1 else []), ThrA b m2, RthA rb m2, BlkA d [.int .i64 o.1.1, .int .i64 o.1.2, .int .i64 o.2.1, .int .i64 o.2.2.1, .int .u64 o.2.2.2]] → X s w') → C.threads_Threads_Line (some ⟨b, 0, none⟩) o.2.1 o.2.2.1 X w := fun X w h hX => thr_Line_spec h hX
            have spec2 : ∀ (X : Sl → World → Prop) (s : Sl) (w : World), Own w0.heap.size w0 w [SlT intE s (if m2.isC o.2.1 then lineI (m2.q o.2.1) o.2.2.1 else []), ThrA b m2, RthA rb m2, BlkA d [.int .i64 o.1.1, .int .i64 o.1.2, .int .i64 o.2.1, .int .i64 o.2.2.1, .int .u64 o.2.2.2]] → (∀ s2 w', Own w0.heap.size w0 w' [SlT intE s2 (if m2.isC o.2.1 then lineI (m2.q o.2.1) o.2.2.1 else []), RthA rb m2, SlT intE s (if m2.isC o.2.1 then lineI (m2.q o.2.1) o.2.2.1 else []), ThrA b m2, BlkA d [.int .i64 o.1.1, .int .i64 o.1.2, .int .i64 o.2.1, .int .i64 o.2.2.1, .int .u64 o.2.2.2]] → X s2 w') → C.ref10_Threads_Line (some ⟨rb, 0, none⟩) o.2.1 o.2.2.1 X w := fun X s w h hX => ref10_Line_spec (h.pick (A := RthA rb m2)) hX
            generalize (if m2.isC o.2.1 then lineI (m2.q o.2.1) o.2.2.1 else []) = X at hX spec1 spec2
            have G : ∀ (s : Sl) (w : World), Own w0.heap.size w0 w [SlT intE s X, ThrA b m2, RthA rb m2, BlkA d [.int .i64 o.1.1, .int .i64 o.1.2, .int .i64 o.2.1, .int .i64 o.2.2.1, .int .u64 o.2.2.2]] → C.ref10_Threads_Line (some ⟨rb, 0, none⟩) o.2.1 o.2.2.1 (fun r w => (C.ref09_Nums s r (fun r123 w => k111 (!r123) w) w) ∧ True) w := fun s w h => by
              refine spec2 _ s w h fun s3 w h => Go.Vc.a2 ?_
              refine ref09_Nums_spec (xs := X) (ys := X) h 2 0 rfl rfl (by omega) fun w h => ?_
              rw [decide_eq_true rfl]
              refine hk111 _ _ (cbF rfl ?_)
              rw [show IntKind.i64.wrap ((i : Int) + 1) = ((i + 1 : Nat) : Int) from by rw [wr (by omega) (by omega)]; omega]
              exact ih (i + 1) b m2 w (by omega) (by omega) (by omega) inv2 h.sub
            exact ⟨_, h.ldd rfl, _, h.ldd rfl, spec1 _ w h fun s w h => ⟨_, h.ldd rfl, _, h.ldd rfl, Go.Vc.a2 (G s w h)⟩,
              ⟨_, h.ldd rfl, spec1 _ w h fun s w h => ⟨_, h.ldd rfl, Go.Vc.a2 (G s w h)⟩, ⟨_, h.ldd rfl, spec1 _ w h fun s w h => Go.Vc.a2 (G s w h), trivial⟩, trivial⟩,
              ⟨_, h.ldd rfl, spec1 _ w h fun s w h => ⟨_, h.ldd rfl, Go.Vc.a2 (G s w h)⟩, ⟨_, h.ldd rfl, spec1 _ w h fun s w h => Go.Vc.a2 (G s w h), trivial⟩, trivial⟩, trivial⟩
          | succ j ihj =>
            intro id w hid h
            apply hl38
            obtain ⟨rl, rq, rbs, hrbs, hr⟩ := (h.pick (A := RthA rb m2)).rth
            have hrl := hr.lenc rl
            refine ⟨_, rfl, rl, hr.ldc rfl, ?_⟩
            refine cdecT (by omega) ?_
            refine thr_Get_spec h fun w t et h => ?_
            refine h.al fun w2 h => ?_
            generalize w.heap.size = d1 at h ⊢
            refine h.stLc rfl rfl fun w h => ?_
            refine ref10_Get_spec (h.pick (A := RthA rb m2)) fun w t2 et2 h => ?_
            obtain rfl : t2 = t := et2.trans et.symm
            refine h.al fun w2 h => ?_
            generalize w.heap.size = d2 at h ⊢
            refine h.stLc rfl rfl fun w h => ?_
            (dsimp only [putAt, List.set_cons_zero, List.set_cons_succ] at h)
            intro k75 hk75
            refine h.lc_12 rfl ?_
            refine h.lc_12 rfl ?_
            refine ⟨_, thNe t2, cbF rfl ?_⟩
            rw [bne_self_eq_false]
            refine hk75 _ _ (cbF rfl ?_)
            rw [show IntKind.i64.wrap ((id : Int) + 1) = ((id + 1 : Nat) : Int) from by rw [wr (by omega) (by omega)]; omega]
            exact ihj (id + 1) w (by omega) h.sub
        exact loop2 (m2.ths.length + 1) 0 w (by omega) h
      refine ceq (fun e4 => ?_) (fun e4 => ?_)
      · refine thr_Copy_spec inv.ok (h.pick (A := ThrA b m)) fun b' w h => ?_
        refine ⟨_, h.ldd rfl, ?_⟩
        refine suspend_g inv.ok (h.pick (A := ThrA b m)) fun w h => ?_
        have inv3 := inv.suspend o.1.2
        generalize (m.suspendR o.1.2).2 = m3 at *
        refine make_g inv3.ok h fun w h => ?_
        have inv4 := inv3.makeR 1 0
        generalize (m3.makeR 1 0).2.2 = m4 at *
        refine thr_Pick_spec inv4.ok h fun w h => ?_
        exact cbF rfl (fin b' w h.sub)
      · exact fin b w h.sub
  exact loop 81 0 b (newM N) w (by omega) (by omega) (by omega) (newM_inv (by omega)) h.sub
end
end Go.Proofs.Ytgkebkfabegflaa
