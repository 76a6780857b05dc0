/- Laws of layer 14: the pages of a frame. -/
import Derived.Test.YtmfbhjfkagnahaaJ14
import Derived.Test.YtmfbhjfkagnahaaS1
set_option linter.unusedVariables false
set_option linter.unusedSimpArgs false
set_option maxRecDepth 8000
namespace Go.Proofs.Ytmfbhjfkagnahaa
open Go Go.Vc Go.Proofs Go.Shelf

abbrev below (F : List Int) (p : Int) : List Int := F.filter fun x => decide (x < p)
theorem cnt_mem : ∀ {F : List Int} {p : Int}, F.Pairwise (· < ·) → p ∈ F → F[(below F p).length]? = some p ∧ (below F (p + 1)).length = (below F p).length + 1
  | [], p, _, h => by simp at h
  | a :: F, p, hF, h => by
    have hF := List.pairwise_cons.1 hF
    unfold below
    rw [List.filter_cons, List.filter_cons]
    by_cases e : a = p
    · subst e
      have e1 : F.filter (fun x => decide (x < a)) = [] := List.filter_eq_nil_iff.2 fun x hx => by have := hF.1 x hx; simp; omega
      have e2 : F.filter (fun x => decide (x < a + 1)) = [] := List.filter_eq_nil_iff.2 fun x hx => by have := hF.1 x hx; simp; omega
      rw [if_neg (by simp), if_pos (by simp; omega), e1, e2]
      exact ⟨rfl, rfl⟩
    · have hp : p ∈ F := (List.mem_cons.1 h).resolve_left fun e2 => e e2.symm
      have hlt := hF.1 p hp
      rw [if_pos (by simpa using hlt), if_pos (by simp; omega)]
      obtain ⟨h1, h2⟩ := cnt_mem hF.2 hp
      unfold below at h1 h2
      exact ⟨by rw [List.length_cons, List.getElem?_cons_succ]; exact h1, by rw [List.length_cons, List.length_cons, h2]⟩
theorem cnt_not {F : List Int} {p : Int} (h : p ∉ F) : below F (p + 1) = below F p := by
  unfold below
  refine List.filter_congr fun x hx => ?_
  have : x ≠ p := fun e => h (e ▸ hx)
  rw [decide_eq_decide]; omega
theorem frames_mem {P : Pgs} {f p : Int} : p ∈ framesP P f ↔ ∃ v, (p, v) ∈ P ∧ v.1 = f := by
  unfold framesP
  rw [List.mem_map]
  constructor
  · rintro ⟨x, hx, e⟩
    obtain ⟨h1, h2⟩ := List.mem_filter.1 hx
    exact ⟨x.2, by rw [← e]; exact h1, by simpa using h2⟩
  · rintro ⟨v, h1, h2⟩
    exact ⟨(p, v), List.mem_filter.2 ⟨h1, by simpa using h2⟩, rfl⟩
theorem frames_srt {P : Pgs} (h : Srt P) (f : Int) : (framesP P f).Pairwise (· < ·) := by
  unfold framesP
  rw [List.pairwise_map]
  exact h.filter _
section
variable {B : Nat} {w0 w : World} {R L : List Asn} {b : Nat} {m : Spc}
def dmS (m : Spc) (l : List Int) : Spc := ⟨m.tb, m.pg.filter fun x => decide (x.1 ∉ l)⟩
theorem unm {F : List Int} {f : Int} (ho : SOk m) (hF : framesP m.pg f = F) {i : Nat} (hi : i < F.length) : ∃ v : Pg, v.1 = f ∧ (dmS m (F.take i)).unmapR F[i] = (v, 0, dmS m (F.take (i + 1))) := by
  have hm : F[i] ∈ framesP m.pg f := by rw [hF]; exact List.getElem_mem _
  obtain ⟨v, hv, hf⟩ := frames_mem.1 hm
  have hb := ho.bnd _ hv
  have hs : F.Pairwise (· < ·) := by rw [← hF]; exact frames_srt ho.srt f
  have hno : F[i] ∉ F.take i := fun hx => by
    obtain ⟨j, hj, e⟩ := List.getElem_of_mem hx
    rw [List.length_take] at hj
    rw [List.getElem_take] at e
    have := (List.pairwise_iff_getElem.1 hs) j i (by omega) hi (by omega)
    omega
  have hl : look (dmS m (F.take i)).pg F[i] = some v := by
    unfold dmS
    rw [look_filter ho.srt, ho.srt.look hv, Option.filter_some, if_pos (by simpa using hno)]
  refine ⟨v, hf, ?_⟩
  unfold Spc.unmapR
  rw [if_neg (fun h => h ⟨hb.1, hb.2.1⟩), hl]
  simp only
  have e : delS (dmS m (F.take i)).pg F[i] = (dmS m (F.take (i + 1))).pg := by
    unfold dmS delS
    rw [List.filter_filter]
    refine List.filter_congr fun x _ => ?_
    rw [List.take_add_one, List.getElem?_eq_getElem hi, Option.toList_some]
    rw [Bool.eq_iff_iff]
    simp only [Bool.and_eq_true, bne_iff_ne, decide_eq_true_eq, List.mem_append, List.mem_singleton, not_or]
    exact And.comm
  rw [e]; rfl
theorem dm_none (ho : SOk m) (f : Int) : framesP (dmS m (framesP m.pg f)).pg f = [] := by
  have : ∀ p, p ∉ framesP (dmS m (framesP m.pg f)).pg f := fun p hp => by
    obtain ⟨v, hv, hf⟩ := frames_mem.1 hp
    obtain ⟨h1, h2⟩ := List.mem_filter.1 hv
    simp only [decide_eq_true_eq] at h2
    exact h2 (frames_mem.2 ⟨v, h1, hf⟩)
  exact List.eq_nil_iff_forall_not_mem.2 this
theorem law14_TablesFrames_spec {s1 : Sl} {ops : List Op14} {f : Int} {K : Bool → World → Prop} (hi : Inp op14E w0 s1 ops) (hg : ∀ x ∈ ops, op14Good x) (w1 : (Lit.int .i64 f).wf = true) (h : Own w0.heap.size w0 w []) (hK : ∀ w', Own w0.heap.size w0 w' [] → K true w') : C.law14_TablesFrames s1 f K w := by
  apply S.law14_TablesFrames_ok
  unfold S.law14_TablesFrames
  have hlen := hi.len
  refine New_spec h fun b w h => ?_
  refine cbF rfl ?_
  rw [new_tbF 10] at h
  intro l5 hl5
  have loop : ∀ (j i : Nat) (w : World), i + j = 3 → Own w0.heap.size w0 w [SpcA b ⟨tbF 10 i, []⟩] → l5 (i : Int) w := by
    intro j
    induction j with
    | succ j ih =>
      intro i w hij h
      apply hl5
      refine cdecT (by omega) ?_
      rw [show IntKind.i64.wrap ((10 : Int) + (i : Int)) = ((10 + i : Nat) : Int) from by rw [wr (by omega) (by omega)]; omega, show IntKind.i64.wrap ((i : Int) + 1) = ((i + 1 : Nat) : Int) from by rw [wr (by omega) (by omega)]; omega]
      refine Table_spec h fun w h => ?_
      rw [full_1 (by omega)] at h
      exact ih (i + 1) w (by omega) h
    | zero =>
      intro i w hij h
      obtain rfl : i = 3 := by omega
      apply hl5
      refine cdecF (by omega) ?_
      intro l10 hl10
      have loop2 : ∀ (j i : Nat) (m : Spc) (w : World), i + j = 41 → i ≤ 40 → i ≤ ops.length → m.tb = tbF 10 3 → Own w0.heap.size w0 w [SpcA b m] → l10 (i : Int) w := by
        intro j
        induction j with
        | zero => intro i m w h1 h2; omega
        | succ j ih =>
          intro i m w hij hi40 hil ht h
          apply hl10
          intro k13 hk13
          have exit_ : k13 false w := by
            refine hk13 _ _ (cbF rfl ?_)
            have ho := SOk.ofSpc h
            have hkl := ho.keylen
            refine Frames_spec h fun s24 w h => ?_
            generalize hF : framesP m.pg f = F at h
            have hFs : F.Pairwise (· < ·) := by rw [← hF]; exact frames_srt ho.srt f
            have hFl : F.length ≤ 4096 := by rw [← hF]; unfold framesP; rw [List.length_map]; exact Nat.le_trans (List.length_filter_le _ _) hkl
            have hFb : ∀ x ∈ F, 0 ≤ x ∧ x < 192 := fun x hx => by
              rw [← hF] at hx
              obtain ⟨v, hv, _⟩ := frames_mem.1 hx
              exact ho.key ht hv
            have hl24 := h.lenc s24
            intro l26 hl26
            have loop3 : ∀ (j p : Nat) (w : World), p + j = 192 → Own w0.heap.size w0 w [SlT intE s24 F, SpcA b m] → l26 ((below F (p : Int)).length : Int) (p : Int) w := by
              intro j
              induction j with
              | zero =>
                intro p w hp h
                obtain rfl : p = 192 := by omega
                apply hl26
                refine cdecF (by omega) ?_
                have e : below F ((192 : Nat) : Int) = F := List.filter_eq_self.2 fun x hx => by have := hFb x hx; simp; omega
                rw [e]
                refine cneF (by omega) ?_
                intro l45 hl45
                have loop4 : ∀ (j i : Nat) (w : World), i + j = F.length → Own w0.heap.size w0 w [SlT intE s24 F, SpcA b (dmS m (F.take i))] → l45 (i : Int) w := by
                  intro j
                  induction j with
                  | zero =>
                    intro i w hi h
                    apply hl45
                    refine cdecF (by omega) ?_
                    rw [List.take_of_length_le (by omega), ← hF] at h
                    refine Frames_spec (h.pick (A := SpcA b (dmS m (framesP m.pg f)))) fun s60 w h => ?_
                    rw [dm_none ho] at h
                    have hl60 := h.lenc s60
                    refine ceqT (by rw [hl60]; rfl) ?_
                    exact law14_fixed_spec h fun w h => hK _ h.sub
                  | succ j ih4 =>
                    intro i w hi h
                    apply hl45
                    refine cdecT (by omega) ?_
                    have hx : F[i]? = some F[i] := List.getElem?_eq_getElem (by omega)
                    refine h.ixc (s := s24) (i := (i : Int)) (j := i) rfl hx fun a ha h0 hc => ⟨_, h0 _ rfl, ?_⟩
                    obtain ⟨v, hv, hu⟩ := unm ho hF (i := i) (by omega)
                    refine Unmap_spec (h.pick (A := SpcA b (dmS m (F.take i)))) fun w h => ?_
                    rw [hu] at h ⊢
                    refine h.al fun w2 h => ?_
                    generalize w.heap.size = d at h ⊢
                    refine h.stLc rfl rfl fun w h => ?_
                    intro k56 hk56
                    refine cneF rfl ⟨_, h.ldc rfl, ?_⟩
                    rw [hv, bne_self_eq_false]
                    refine hk56 _ _ (cbF rfl ?_)
                    rw [show IntKind.i64.wrap ((i : Int) + 1) = ((i + 1 : Nat) : Int) from by rw [wr (by omega) (by omega)]; omega]
                    exact ih4 (i + 1) w (by omega) h.sub
                have := loop4 F.length 0 w (by omega)
                have e0 : dmS m (F.take 0) = m := by
                  unfold dmS
                  have : m.pg.filter (fun x => decide (x.1 ∉ F.take 0)) = m.pg := List.filter_eq_self.2 fun x _ => by simp
                  rw [this]
                rw [e0] at this
                exact this h
              | succ j ih3 =>
                intro p w hp h
                apply hl26
                refine cdecT (by omega) ?_
                have ep : IntKind.i64.wrap ((p : Int) + 1) = ((p + 1 : Nat) : Int) := by rw [wr (by omega) (by omega)]; omega
                have ep2 : ((p + 1 : Nat) : Int) = (p : Int) + 1 := by omega
                rw [ep]
                refine Walk_spec (h.pick (A := SpcA b m)) fun w h => ?_
                refine h.al fun w2 h => ?_
                generalize w.heap.size = d at h ⊢
                refine h.stLc rfl rfl fun w h => ?_
                intro k36 hk36
                have no : (p : Int) ∉ F → k36 false w := fun hno => by
                  refine hk36 _ _ (cbF rfl ?_)
                  have := ih3 (p + 1) w (by omega) h.sub
                  rw [ep2, cnt_not hno] at this
                  rw [ep2]; exact this
                cases hl : look m.pg (p : Int) with
                | none =>
                  refine cbF rfl (no fun hm => ?_)
                  rw [← hF] at hm
                  obtain ⟨v, hv, _⟩ := frames_mem.1 hm
                  exact look_none.1 hl _ hv rfl
                | some v =>
                  refine cbT rfl ⟨_, h.ldc rfl, ?_⟩
                  rw [hl]
                  show k36 (v.1 == f) w
                  by_cases e : v.1 = f
                  · rw [show (v.1 == f) = true from by simpa using e]
                    have hm : (p : Int) ∈ F := by rw [← hF]; exact frames_mem.2 ⟨v, look_mem hl, e⟩
                    obtain ⟨c1, c2⟩ := cnt_mem hFs hm
                    have clt := (List.getElem?_eq_some_iff.1 c1).1
                    refine hk36 _ _ (cbT rfl ?_)
                    intro k39 hk39
                    refine cdecF (by omega) ?_
                    refine h.ixc (s := s24) (i := ((below F (p : Int)).length : Int)) (j := (below F (p : Int)).length) rfl c1 fun a ha h0 hc => ⟨_, h0 _ rfl, ?_⟩
                    rw [bne_self_eq_false]
                    refine hk39 _ _ (cbF rfl ?_)
                    have := ih3 (p + 1) w (by omega) h.sub
                    rw [ep2, c2] at this
                    rw [ep2, show IntKind.i64.wrap (((below F (p : Int)).length : Int) + 1) = (((below F (p : Int)).length + 1 : Nat) : Int) from by rw [wr (by omega) (by omega)]; omega]
                    exact this
                  · rw [show (v.1 == f) = false from by simpa using e]
                    refine no fun hm => ?_
                    rw [← hF] at hm
                    obtain ⟨u, hu, hf⟩ := frames_mem.1 hm
                    have := ho.srt.look hu
                    rw [hl] at this
                    cases this
                    exact e hf
            have := loop3 192 0 w (by omega) h
            have e0 : below F ((0 : Nat) : Int) = [] := List.filter_eq_nil_iff.2 fun x hx => by have := hFb x hx; simp; omega
            rw [e0] at this
            exact this
          refine cdec (fun e1 => ?_) (fun e1 => exit_)
          by_cases e2 : (i : Int) < 40
          case neg => rw [decide_eq_false e2]; exact exit_
          rw [decide_eq_true e2]
          have hlt : i < ops.length := by omega
          obtain ⟨o, ho⟩ : ∃ o, ops[i]? = some o := ⟨_, List.getElem?_eq_getElem hlt⟩
          have hr2 : Rd op14E w0.heap.size w0 [SpcA b m] s1 ops := hi.rd _
          refine hk13 _ _ (cbT rfl ?_)
          refine h.dr fun w h => ?_
          refine hr2.ix h rfl ho fun a ha h0 hc => ⟨_, hc 1 _ rfl, by decide, ?_⟩
          refine hr2.ix h rfl ho fun a ha h0 hc => ldP14 hc (Go.Vc.a2 ?_)
          refine Map_spec (p := o.2) h fun w h => ?_
          rw [show IntKind.i64.wrap ((i : Int) + 1) = ((i + 1 : Nat) : Int) from by rw [wr (by omega) (by omega)]; omega]
          exact ih (i + 1) _ w (by omega) (by omega) (by omega) (by rw [map_tb]; exact ht) h
      exact loop2 41 0 ⟨tbF 10 3, []⟩ w (by omega) (by omega) (by omega) rfl h
  exact loop 3 0 w (by omega) h
end
end Go.Proofs.Ytmfbhjfkagnahaa
