/- The stage's theorem of layer 14. -/
import Derived.Test.YtmfbhjfkagnahaaQ14
import Derived.Test.YtmfbhjfkagnahaaS1
set_option linter.unusedVariables false
set_option linter.unusedSimpArgs false
set_option maxRecDepth 8000
namespace Go.Proofs.Ytmfbhjfkagnahaa
open Go Go.Vc Go.Proofs Go.Shelf

section
variable {w0 w : World} {m : Spc}
theorem drop_len (ho : SOk m) (i : Int) : (m.dropR i).1.length ≤ 4096 := by
  have := ho.keylen
  unfold Spc.dropR
  split
  · simp
  · split
    · simp
    · have h2 := List.length_filter_le (fun x : Int × Pg => x.1.toNat / 64 == i.toNat) m.pg
      show (tabP m.pg i.toNat).length ≤ 4096
      unfold tabP; omega
set_option maxHeartbeats 2000000 in
theorem law14_TablesDoes_spec {s1 : Sl} {ops : List Op14} {K : Bool → World → Prop} (hi : Inp op14E w0 s1 ops) (hg : ∀ x ∈ ops, op14Good x) (h : Own w0.heap.size w0 w []) (hK : ∀ w', Own w0.heap.size w0 w' [] → K true w') : C.law14_TablesDoes s1 K w := by
  apply S.law14_TablesDoes_ok
  unfold S.law14_TablesDoes
  have hlen := hi.len
  refine New_spec h fun b w h => ?_
  refine h.al fun w2 h => ?_
  generalize w.heap.size = rb at h ⊢
  have h : Own w0.heap.size w0 w2 (SlT laidE ⟨none, 0, 0⟩ [] :: _) := Own.nilS h
  have h : Own w0.heap.size w0 w2 (SlT tabE ⟨none, 0, 0⟩ [] :: _) := Own.nilS h
  have h : Own w0.heap.size w0 w2 [BlkA rb [.slice none 0 0, .slice none 0 0], SlT tabE ⟨none, 0, 0⟩ [], SlT laidE ⟨none, 0, 0⟩ [], SpcA b newS] := h.sub
  have h : Own w0.heap.size w0 w2 [RspA rb newS, SpcA b newS] := Own.mk_rsp (sT := ⟨none, 0, 0⟩) (sP := ⟨none, 0, 0⟩) Rel14.new h
  refine cbF rfl ?_
  intro l5 hl5
  have loop : ∀ (j i b : Nat) (m : Spc) (w : World), i + j = 61 → i ≤ 60 → i ≤ ops.length → Own w0.heap.size w0 w [SpcA b m, RspA rb m] → l5 (some ⟨b, 0, none⟩) (i : Int) w := by
    intro j
    induction j with
    | zero => intro i b m w h1 h2; omega
    | succ j ih =>
      intro i b m w hij hi60 hil h
      apply hl5
      intro k9 hk9
      have exit_ : k9 false w := hk9 _ _ (cbF rfl (law14_fixed_spec h fun w h => hK _ h.sub))
      refine cdec (fun e1 => ?_) (fun e1 => exit_)
      by_cases e2 : (i : Int) < 60
      case neg => rw [decide_eq_false e2]; exact exit_
      rw [decide_eq_true e2]
      have hlt : i < ops.length := by omega
      obtain ⟨o, ho⟩ : ∃ o, ops[i]? = some o := ⟨_, List.getElem?_eq_getElem hlt⟩
      have hr2 : Rd op14E w0.heap.size w0 [SpcA b m, RspA rb m] s1 ops := hi.rd _
      refine hk9 _ _ (cbT rfl ?_)
      refine hr2.ix h rfl ho fun a ha h0 hc => ldOp14 hc ?_
      refine h.al fun w2 h => ?_
      generalize w.heap.size = d at h ⊢
      refine h.stLc rfl rfl fun w h => ?_
      (dsimp only [putAt, List.set_cons_zero, List.set_cons_succ] at h)
      refine h.al fun w2 h => ?_
      generalize w.heap.size = d1 at h ⊢
      refine h.al fun w3 h => ?_
      generalize w2.heap.size = d2 at h ⊢
      refine h.stLc rfl rfl fun w h => ?_
      (dsimp only [putAt, List.set_cons_zero, List.set_cons_succ] at h)
      refine h.stLc rfl rfl fun w h => ?_
      (dsimp only [putAt, List.set_cons_zero, List.set_cons_succ] at h)
      refine h.al fun w4 h => ?_
      generalize w.heap.size = d3 at h ⊢
      have h : Own w0.heap.size w0 w4 (SlT laidE ⟨some ⟨d3, 0, none⟩, 0, 0⟩ [] :: _) := Own.empty h
      refine h.al fun w5 h => ?_
      generalize w4.heap.size = d4 at h ⊢
      have h : Own w0.heap.size w0 w5 (SlT laidE ⟨some ⟨d4, 0, none⟩, 0, 0⟩ [] :: _) := Own.empty h
      have hok : SOk m := SOk.ofSpc (h.pick (A := SpcA b m))
      refine ⟨_, h.ldc rfl, ?_⟩
      intro k27 hk27
      have fin : ∀ (b : Nat) (m : Spc) (e f : Int) (l mm : Sl) (p : Pg) (X : Pgs) (w : World), e = f → X.length ≤ 4096 → Own w0.heap.size w0 w [SlT laidE l X, SlT laidE mm X, BlkA d1 [.int .i64 p.1, .int .i64 p.2], BlkA d2 [.int .i64 p.1, .int .i64 p.2], BlkA d [.int .i64 o.1.1, .int .i64 o.1.2.1, .int .i64 o.1.2.2, .int .i64 o.2.1, .int .i64 o.2.2], SpcA b m, RspA rb m] → k27 (some ⟨b, 0, none⟩) e f l mm w := fun b m e f l mm p X w hef hX h => by
        apply hk27
        have hok : SOk m := SOk.ofSpc (h.pick (A := SpcA b m))
        have hkl := hok.keylen
        refine ⟨_, h.ldd rfl, ?_⟩
        refine Walk_spec (h.pick (A := SpcA b m)) fun w h => ?_
        refine h.al fun w2 h => ?_
        generalize w.heap.size = d5 at h ⊢
        refine h.stLc rfl rfl fun w h => ?_
        (dsimp only [putAt, List.set_cons_zero, List.set_cons_succ] at h)
        refine ⟨_, h.ldd rfl, ?_⟩
        refine rWalk_spec (h.pick (A := RspA rb m)) fun w h => ?_
        refine h.al fun w2 h => ?_
        generalize w.heap.size = d6 at h ⊢
        refine h.stLc rfl rfl fun w h => ?_
        (dsimp only [putAt, List.set_cons_zero, List.set_cons_succ] at h)
        refine ⟨_, h.ldd rfl, ?_⟩
        refine Has_spec (h.pick (A := SpcA b m)) ?_
        refine ⟨_, h.ldd rfl, ?_⟩
        refine rHas_spec (h.pick (A := RspA rb m)) ?_
        intro k56 hk56
        refine h.dr fun w h => ?_
        refine cneF hef ?_
        refine h.lc_2 rfl ?_
        refine h.lc_2 rfl ?_
        refine ⟨_, pgNe p p, cbF (by simp) (Go.Vc.a2 ?_)⟩
        have h : Own w0.heap.size w0 w [SlT laidE l X, SlT laidE mm X, BlkA d5 [.int .i64 ((look m.pg o.1.2.1).getD (0, 0)).1, .int .i64 ((look m.pg o.1.2.1).getD (0, 0)).2], BlkA d6 [.int .i64 ((look m.pg o.1.2.1).getD (0, 0)).1, .int .i64 ((look m.pg o.1.2.1).getD (0, 0)).2], BlkA d [.int .i64 o.1.1, .int .i64 o.1.2.1, .int .i64 o.1.2.2, .int .i64 o.2.1, .int .i64 o.2.2], SpcA b m, RspA rb m] := h.sub
        refine Same_spec (xs := X) (ys := X) h 0 1 rfl rfl (by omega) fun w h => ?_
        rw [decide_eq_true rfl]
        refine cbF rfl ?_
        refine h.lc_2 rfl ?_
        refine h.lc_2 rfl ?_
        refine ⟨_, pgNe ((look m.pg o.1.2.1).getD (0, 0)) ((look m.pg o.1.2.1).getD (0, 0)), cbF (by simp) (cbF (by simp) (cneF rfl (cbF (by simp) (Go.Vc.a2 ?_))))⟩
        have h : Own w0.heap.size w0 w [SpcA b m, RspA rb m, BlkA d [.int .i64 o.1.1, .int .i64 o.1.2.1, .int .i64 o.1.2.2, .int .i64 o.2.1, .int .i64 o.2.2]] := h.sub
        refine Pages_spec h fun s72 w h => Go.Vc.a2 ?_
        refine rPages_spec (h.pick (A := RspA rb m)) fun s74 w h => Go.Vc.a2 ?_
        have h : Own w0.heap.size w0 w [SlT laidE s72 m.pg, SlT laidE s74 m.pg, SpcA b m, RspA rb m, BlkA d [.int .i64 o.1.1, .int .i64 o.1.2.1, .int .i64 o.1.2.2, .int .i64 o.2.1, .int .i64 o.2.2]] := h.sub
        refine Same_spec (xs := m.pg) (ys := m.pg) h 0 1 rfl rfl (by omega) fun w h => ?_
        rw [decide_eq_true rfl]
        refine cbF rfl ?_
        have h : Own w0.heap.size w0 w [SpcA b m, RspA rb m, BlkA d [.int .i64 o.1.1, .int .i64 o.1.2.1, .int .i64 o.1.2.2, .int .i64 o.2.1, .int .i64 o.2.2]] := h.sub
        have hF : (framesP m.pg o.2.1).length < 1000000000 := by
          unfold framesP
          rw [List.length_map]
          have := List.length_filter_le (fun x : Int × Pg => x.2.1 == o.2.1) m.pg
          omega
        have G : ∀ (s : Sl) (w : World), Own w0.heap.size w0 w (SlT intE s (framesP m.pg o.2.1) :: [SpcA b m, RspA rb m, BlkA d [.int .i64 o.1.1, .int .i64 o.1.2.1, .int .i64 o.1.2.2, .int .i64 o.2.1, .int .i64 o.2.2]]) → C.ref14_Space_Frames (some ⟨rb, 0, none⟩) o.2.1 (fun r w => (C.ref09_Nums s r (fun r84 w85 => k56 (!r84) w85) w) ∧ True) w := fun s w h => by
          refine rFrames_spec (h.pick (A := RspA rb m)) fun s2 w h => Go.Vc.a2 ?_
          have h : Own w0.heap.size w0 w [SlT intE s (framesP m.pg o.2.1), SlT intE s2 (framesP m.pg o.2.1), SpcA b m, RspA rb m, BlkA d [.int .i64 o.1.1, .int .i64 o.1.2.1, .int .i64 o.1.2.2, .int .i64 o.2.1, .int .i64 o.2.2]] := h.sub
          refine ref09_Nums_spec (xs := framesP m.pg o.2.1) (ys := framesP m.pg o.2.1) h 0 1 rfl rfl hF fun w h => ?_
          rw [decide_eq_true rfl]
          refine hk56 _ _ (cbF rfl ?_)
          rw [show IntKind.i64.wrap ((i : Int) + 1) = ((i + 1 : Nat) : Int) from by rw [wr (by omega) (by omega)]; omega]
          exact ih (i + 1) b m w (by omega) (by omega) (by omega) h.sub
        exact ⟨_, h.ldd rfl, Frames_spec h fun s w h => ⟨_, h.ldd rfl, Go.Vc.a2 (G s w h)⟩, ⟨_, h.ldd rfl, Frames_spec h fun s w h => Go.Vc.a2 (G s w h), trivial⟩, trivial⟩
      have noX : ([] : Pgs).length ≤ 4096 := by simp
      refine ceq (fun _ => ?_) (fun _ => ?_)
      · refine ⟨_, h.ldd rfl, _, h.ldd rfl, Table_spec (h.pick (A := SpcA b m)) fun w h => ⟨_, h.ldd rfl, _, h.ldd rfl, rTable_spec (h.pick (A := RspA rb m)) fun w h => ?_⟩⟩
        exact fin b (m.tableR o.1.2.1 o.1.2.2).2 _ _ _ _ (0, 0) [] w rfl noX h.sub
      refine ceq (fun _ => ?_) (fun _ => ?_)
      · refine ⟨_, h.ldd rfl, Drop_spec (h.pick (A := SpcA b m)) fun s w h => ⟨_, h.ldd rfl, rDrop_spec (h.pick (A := RspA rb m)) fun s2 w h => ?_⟩⟩
        exact fin b (m.dropR o.1.2.1).2.2 _ _ _ _ (0, 0) (m.dropR o.1.2.1).1 w rfl (drop_len hok _) h.sub
      refine ceq (fun _ => ?_) (fun _ => ?_)
      · refine ⟨_, h.ldd rfl, ?_⟩
        refine ⟨o.2.1, h.ldd rfl, o.2.2, h.ldd rfl, ?_⟩
        refine Map_spec (p := o.2) (h.pick (A := SpcA b m)) fun w h => ⟨_, h.ldd rfl, ?_⟩
        refine ⟨o.2.1, h.ldd rfl, o.2.2, h.ldd rfl, ?_⟩
        refine rMap_spec (p := o.2) (h.pick (A := RspA rb m)) fun w h => ?_
        exact fin b (m.mapR o.1.2.1 o.2).2 _ _ _ _ (0, 0) [] w rfl noX h.sub
      refine ceq (fun _ => ?_) (fun _ => ?_)
      · refine ⟨_, h.ldd rfl, _, h.ldd rfl, Rights_spec (h.pick (A := SpcA b m)) fun w h => ⟨_, h.ldd rfl, _, h.ldd rfl, rRights_spec (h.pick (A := RspA rb m)) fun w h => ?_⟩⟩
        exact fin b (m.rightsR o.1.2.1 o.1.2.2).2 _ _ _ _ (0, 0) [] w rfl noX h.sub
      refine ceq (fun _ => ?_) (fun _ => ?_)
      · refine ⟨_, h.ldd rfl, Unmap_spec (h.pick (A := SpcA b m)) fun w h => ?_⟩
        refine h.stLc rfl rfl fun w h => ?_
        (dsimp only [putAt, List.set_cons_zero, List.set_cons_succ] at h)
        refine ⟨_, h.ldd rfl, rUnmap_spec (h.pick (A := RspA rb m)) fun w h => ?_⟩
        refine h.stLc rfl rfl fun w h => ?_
        (dsimp only [putAt, List.set_cons_zero, List.set_cons_succ] at h)
        exact fin b (m.unmapR o.1.2.1).2.2 _ _ _ _ (m.unmapR o.1.2.1).1 [] w rfl noX h.sub
      refine ceq (fun _ => ?_) (fun _ => ?_)
      · refine Copy_spec (h.pick (A := SpcA b m)) fun b' w h => ?_
        refine Drop_spec (h.pick (A := SpcA b m)) fun s w h => ⟨_, h.ldd rfl, ?_⟩
        refine Unmap_spec (h.pick (A := SpcA b (m.dropR 0).2.2)) fun w h => ?_
        exact cbF rfl (fin b' m _ _ _ _ (0, 0) [] w rfl noX h.sub)
      · exact fin b m _ _ _ _ (0, 0) [] w5 rfl noX h.sub
  exact loop 61 0 b newS w2 (by omega) (by omega) (by omega) h.sub
end
end Go.Proofs.Ytmfbhjfkagnahaa
