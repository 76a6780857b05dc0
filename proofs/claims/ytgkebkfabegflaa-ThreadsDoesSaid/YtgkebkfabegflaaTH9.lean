/- Laws of layer 10: who waits; who is greater. -/
import Derived.Test.YtgkebkfabegflaaTH9a
import Derived.Test.YtgkebkfabegflaaS0
set_option linter.unusedVariables false
set_option linter.unusedSimpArgs false
set_option maxRecDepth 8000
namespace Go.Proofs.Ytgkebkfabegflaa
open Go Go.Vc Go.Proofs

section
variable {w0 w : World}
theorem law10_ThreadsWaits_spec {p0 how : Int} {K : Bool → World → Prop} (w1 : (Lit.int .i64 p0).wf = true) (w2 : (Lit.int .i64 how).wf = true) (h : Own w0.heap.size w0 w []) (hK : ∀ w', Own w0.heap.size w0 w' [] → K true w') : C.law10_ThreadsWaits p0 how K w := by
  apply S.law10_ThreadsWaits_ok
  unfold S.law10_ThreadsWaits
  obtain ⟨p, hp, hp2⟩ := and255 (n := p0)
  rw [hp]
  have hall := List.all_eq_true.1 waits_all p (List.mem_range.2 hp2)
  unfold waitsB at hall
  simp only [Bool.and_eq_true, beq_iff_eq] at hall
  obtain ⟨⟨ra, ta, sa⟩, g3, g0⟩ := hall
  refine thr_New_spec h (fun e => absurd ⟨by decide, by decide⟩ e) fun c hc _ _ b w h => ?_
  obtain rfl : c = 1 := by omega
  have m0 : MOk (newM 1) := newM_ok (by decide)
  intro k6 hk6
  refine cbF rfl (hk6 _ _ (cbF (by decide) ?_))
  intro l9 hl9
  refine hl9 _ _ (cdecT (by decide) ?_)
  refine make_p (m := newM 1) (p := p) m0 ⟨by omega, by omega⟩ rfl (by decide) h fun w h => ?_
  have m1 := m0.make (p := p) (c := 0) (by decide) rfl
  refine resume_p (n := 0) m1 rfl (.inl rfl) h fun w h => ?_
  have m2 : MOk (wa1 p) := m1.lineUp rfl
  have h : Own w0.heap.size w0 w [ThrA b (wa1 p)] := h
  rw [show IntKind.i64.wrap ((0 : Int) + 1) = 1 from by decide]
  refine hl9 _ _ (cdecT (by decide) ?_)
  refine make_p (p := p) m2 ⟨by omega, by omega⟩ rfl (show 1 < 64 by decide) h fun w h => ?_
  have m3 := m2.make (p := p) (c := 0) (show 1 < 64 by decide) rfl
  refine resume_p (n := 1) m3 rfl (.inl rfl) h fun w h => ?_
  have m4 : MOk (wa2 p) := m3.lineUp rfl
  have h : Own w0.heap.size w0 w [ThrA b (wa2 p)] := h
  rw [show IntKind.i64.wrap ((1 : Int) + 1) = 2 from by decide]
  refine hl9 _ _ (cdecF (by decide) ?_)
  refine thr_Pick_spec m4 h fun w h => ?_
  have m5 : MOk (wa3 p) := m4.pickC
  have h : Own w0.heap.size w0 w [ThrA b (wa3 p)] := h
  show _
  rw [show ((wa2 p).pickC 0).runs? 0 = some 0 from ra]
  intro k20 hk20
  have fin : ∀ (s : Int) (w : World), (s = 3 ∨ s = 0) → wOne ((wa3 p).leave 0 s) s p = true → Own w0.heap.size w0 w [ThrA b ((wa3 p).leave 0 s)] → k20 0 w := by
    intro s w hs f h
    unfold wOne at f
    simp only [Bool.and_eq_true, beq_iff_eq] at f
    obtain ⟨⟨⟨⟨⟨⟨⟨⟨f1, f2⟩, f3⟩, f4⟩, f5⟩, f6⟩, f7⟩, f8⟩, f9⟩ := f
    have m6 : MOk ((wa3 p).leave 0 s) := m5.leave ta
    have m7 := m6.lineUp f1
    generalize (wa3 p).leave 0 s = mb at *
    apply hk20
    refine thr_Runs_spec (c := 0) m6 h fun w h => ?_
    rw [f3]
    refine thr_Line_spec (c := 0) (p := p) h fun s1 w h => ?_
    rw [f4, if_pos rfl, f5] at h
    refine resume_p (n := 0) m6 f1 (by rcases hs with e | e <;> rw [f2, e] <;> decide) (h.pick (A := ThrA b mb)) fun w h => ?_
    generalize mb.lineUp 0 = mc at *
    refine thr_Get_spec h fun w t et h => ?_
    have hst : t.st = 1 := by
      rw [et]
      show (if mc.isT 0 = true then mc.th 0 else zTh).st = 1
      rw [if_pos f6]; exact f7
    refine h.al fun w2 h => ?_
    generalize w.heap.size = d at h ⊢
    refine h.stLc rfl rfl fun w h => ?_
    refine cbT rfl (ceqT rfl (ceqT rfl (cbT rfl ?_)))
    refine h.al fun w2 h => ?_
    generalize w.heap.size = d2 at h ⊢
    have h : Own w0.heap.size w0 w2 (SlT intE ⟨some ⟨d2, 0, none⟩, 1, 1⟩ [1] :: _) := h.asSl [1] rfl
    refine ref09_Nums_spec (xs := [1]) (ys := [1]) h 3 0 rfl rfl (by decide) fun w h => ?_
    rw [decide_eq_true rfl]
    refine cbT rfl (ceqT rfl ?_)
    refine ⟨_, h.ldc rfl, ceqT hst ?_⟩
    refine thr_Line_spec (c := 0) (p := p) (h.pick (A := ThrA b mc)) fun s2 w h => ?_
    rw [f8, if_pos rfl, f9] at h
    refine h.al fun w2 h => ?_
    generalize w.heap.size = d3 at h ⊢
    have h : Own w0.heap.size w0 w2 (SlT intE ⟨some ⟨d3, 0, none⟩, 2, 2⟩ [1, 0] :: _) := h.asSl [1, 0] rfl
    refine ref09_Nums_spec (xs := [1, 0]) (ys := [1, 0]) h 1 0 rfl rfl (by decide) fun w h => ?_
    rw [decide_eq_true rfl]
    refine cbT rfl ?_
    exact law10_fixed_spec h fun w h => hK _ h.sub
  refine ceq (fun e => ?_) (fun e => ?_)
  · refine thr_Block_spec (n := 0) m5 h (fun e => by rw [ta] at e; cases e) (fun _ e => absurd sa e) fun _ _ w h => ?_
    exact fin 3 w (.inl rfl) g3 h
  · refine thr_Suspend_spec (n := 0) m5 h (fun e => by rw [ta] at e; cases e) (fun _ e => by rw [sa] at e; cases e) fun _ _ w h => ?_
    exact fin 0 w (.inr rfl) g0 h
theorem law10_ThreadsGreater_spec {p0 t0 : Int} {K : Bool → World → Prop} (w1 : (Lit.int .i64 p0).wf = true) (w2 : (Lit.int .i64 t0).wf = true) (h : Own w0.heap.size w0 w []) (hK : ∀ w', Own w0.heap.size w0 w' [] → K true w') : C.law10_ThreadsGreater p0 t0 K w := by
  apply S.law10_ThreadsGreater_ok
  unfold S.law10_ThreadsGreater
  obtain ⟨p, hp, hp2⟩ := and127 (n := p0)
  obtain ⟨t, ht, ht2⟩ := and3 (n := t0)
  rw [hp, ht, show IntKind.i64.wrap ((p : Int) + 1) = ((p + 1 : Nat) : Int) from by rw [wr (by omega) (by omega)]; omega, show IntKind.i64.wrap ((5 : Int) - (t : Int)) = 5 - (t : Int) from wr (by omega) (by omega)]
  have hall := List.all_eq_true.1 (List.all_eq_true.1 greater_all p (List.mem_range.2 hp2)) t (List.mem_range.2 ht2)
  unfold greaterB at hall
  simp only [Bool.and_eq_true, beq_iff_eq] at hall
  obtain ⟨⟨⟨⟨⟨⟨⟨⟨f1, f2⟩, f3⟩, f4⟩, f5⟩, f6⟩, f7⟩, f8⟩, f9⟩ := hall
  refine thr_New_spec h (fun e => absurd ⟨by decide, by decide⟩ e) fun c hc _ _ b w h => ?_
  obtain rfl : c = 1 := by omega
  have m0 : MOk (newM 1) := newM_ok (by decide)
  intro k6 hk6
  refine cbF rfl (hk6 _ _ (cbF (by decide) ?_))
  refine make_p (m := newM 1) (p := p) m0 ⟨by omega, by omega⟩ rfl (by decide) h fun w h => ?_
  have m1 := m0.make (p := p) (c := 0) (by decide) rfl
  refine make_p (p := ((p + 1 : Nat) : Int)) m1 ⟨by omega, by omega⟩ rfl (show 1 < 64 by decide) h fun w h => ?_
  have m2 := m1.make (p := ((p + 1 : Nat) : Int)) (c := 0) (show 1 < 64 by decide) rfl
  refine resume_p (n := 0) m2 rfl (.inl rfl) h fun w h => ?_
  have m3 := m2.lineUp (n := 0) rfl
  refine thr_Pick_spec m3 h fun w h => ?_
  have m4 : MOk (gr3 p) := m3.pickC
  have h : Own w0.heap.size w0 w [ThrA b (gr3 p)] := h
  intro l20 hl20
  have loop : ∀ (j k : Nat) (m : Mt) (w : World), k + j = t → MOk m → tickN j m = tickN t (gr3 p) → Own w0.heap.size w0 w [ThrA b m] → l20 (k : Int) w := by
    intro j
    induction j with
    | succ j ih =>
      intro k m w hk hm ht h
      apply hl20
      refine cdecT (by omega) ?_
      refine thr_Tick_spec hm h fun w h => ?_
      rw [show IntKind.i64.wrap ((k : Int) + 1) = ((k + 1 : Nat) : Int) from by rw [wr (by omega) (by omega)]; omega]
      exact ih (k + 1) (m.tick 0) w (by omega) hm.tick ht h
    | zero =>
      intro k m w hk hm ht h
      apply hl20
      refine cdecF (by omega) ?_
      have ht : m = tickN t (gr3 p) := ht
      rw [← ht] at f1 f2 f3 f4 f5 f6 f7 f8 f9
      refine resume_p (n := 1) hm f1 (.inl f2) h fun w h => ?_
      have m5 := hm.lineUp f1
      refine thr_Runs_spec (c := 0) m5 h fun w h => ?_
      rw [f3]
      refine thr_Pick_spec m5 h fun w h => ?_
      rw [f4]
      generalize (m.lineUp 1).pickC 0 = mc at *
      refine thr_Get_spec h fun w t1 et h => ?_
      have hst : t1.st = 1 := by rw [et, if_pos f5]; exact f6
      have hle : t1.le = 5 - (t : Int) := by rw [et, if_pos f5]; exact f7
      rw [f5]
      refine h.al fun w2 h => ?_
      generalize w.heap.size = d at h ⊢
      refine h.stLc rfl rfl fun w h => ?_
      refine ceqT rfl (ceqT rfl (cbT rfl (ceqT rfl ?_)))
      refine ⟨_, h.ldc rfl, ceqT hst ⟨_, h.ldd rfl, ceqT hle ?_⟩⟩
      refine thr_Line_spec (c := 0) (p := p) (h.pick (A := ThrA b mc)) fun s2 w h => ?_
      rw [f8, if_pos rfl, f9] at h
      refine h.al fun w2 h => ?_
      generalize w.heap.size = d3 at h ⊢
      have h : Own w0.heap.size w0 w2 (SlT intE ⟨some ⟨d3, 0, none⟩, 1, 1⟩ [0] :: _) := h.asSl [0] rfl
      refine ref09_Nums_spec (xs := [0]) (ys := [0]) h 1 0 rfl rfl (by decide) fun w h => ?_
      rw [decide_eq_true rfl]
      refine cbT rfl ?_
      exact law10_fixed_spec h fun w h => hK _ h.sub
  exact loop t 0 (gr3 p) w (by omega) m4 rfl h
end
end Go.Proofs.Ytgkebkfabegflaa
