/- Laws of layer 14: what is done to a page makes no difference to another one. -/
import Derived.Test.YtmfbhjfkagnahaaO14
import Derived.Test.YtmfbhjfkagnahaaS1
set_option linter.unusedVariables false
set_option linter.unusedSimpArgs false
set_option maxRecDepth 8000
namespace Go.Proofs.Ytmfbhjfkagnahaa
open Go Go.Vc Go.Proofs Go.Shelf

theorem filter_idx {α : Type} (f : α → Bool) : ∀ (P : List α) (i : Nat) (x : α), P[i]? = some x → f x = true → (P.filter f)[((P.take i).filter f).length]? = some x
  | [], i, x, h, _ => by simp at h
  | a :: P, 0, x, h, hf => by
    simp at h; subst h
    rw [List.filter_cons, if_pos hf]; rfl
  | a :: P, i + 1, x, h, hf => by
    have ih := filter_idx f P i x (by simpa using h) hf
    rw [List.take_succ_cons, List.filter_cons, List.filter_cons]
    by_cases e : f a = true
    · rw [if_pos e, if_pos e, List.length_cons, List.getElem?_cons_succ]; exact ih
    · rw [if_neg e, if_neg e]; exact ih
section
variable {B : Nat} {w0 w : World} {R L : List Asn} {b : Nat} {m : Spc}
theorem unmap_pg (ho : SOk m) {n : Nat} (hn : n < 4096) : (m.unmapR (n : Int)).2.2.pg = delS m.pg n ∧ (m.unmapR (n : Int)).2.2.tb = m.tb := by
  unfold Spc.unmapR
  rw [if_neg (fun h => h ⟨by omega, by omega⟩)]
  cases e : look m.pg (n : Int) with
  | none =>
    refine ⟨(List.filter_eq_self.2 fun x hx => ?_).symm, rfl⟩
    have := look_none.1 e x hx
    simpa using this
  | some p => exact ⟨rfl, rfl⟩
/-- Another right, on all pages of one number. -/
def turnR (q r : Int) (x : Int × Pg) : Int × Pg := if x.1 = q then (x.1, (x.2.1, r)) else x
theorem rights_pg (ho : SOk m) {q r : Int} (hq : 0 ≤ q ∧ q < 4096) (hr : 0 ≤ r ∧ r ≤ 7) : (m.rightsR q r).2.pg = m.pg.map (turnR q r) := by
  have hs : Srt (m.pg.map (turnR q r)) := by
    unfold Srt
    rw [List.pairwise_map]
    refine ho.srt.imp fun {x y} h => ?_
    have k1 : ∀ x : Int × Pg, (turnR q r x).1 = x.1 := fun x => by unfold turnR; split <;> rfl
    rw [k1, k1]; exact h
  unfold Spc.rightsR
  rw [if_neg (fun h => h ⟨hq.1, hq.2, hr.1, hr.2⟩)]
  cases e : look m.pg q with
  | none =>
    have : m.pg.map (turnR q r) = m.pg := by
      refine (List.map_congr_left fun x hx => ?_).trans (List.map_id _)
      unfold turnR
      rw [if_neg (look_none.1 e x hx)]; rfl
    exact this.symm
  | some p =>
    refine srt_ext (ins_srt ho.srt _ _) hs fun x => ?_
    rw [ins_mem ho.srt, List.mem_map]
    constructor
    · rintro (h | ⟨h, hne⟩)
      · exact ⟨(q, p), look_mem e, by rw [h]; unfold turnR; rw [if_pos rfl]⟩
      · exact ⟨x, h, by unfold turnR; rw [if_neg hne]⟩
    · rintro ⟨y, hy, rfl⟩
      by_cases e2 : y.1 = q
      · left
        have : y = (q, p) := ho.srt.inj hy (look_mem e) e2
        rw [this]; unfold turnR; rw [if_pos rfl]
      · right
        unfold turnR
        rw [if_neg e2]
        exact ⟨hy, e2⟩
set_option maxHeartbeats 2000000 in
theorem law14_TablesApart_spec {s1 : Sl} {ops : List Op14} {o2 o3 o4 o5 o6 : Int} {K : Bool → World → Prop} (hi : Inp op14E w0 s1 ops) (hg : ∀ x ∈ ops, op14Good x) (w1 : (Lit.int .i64 o2).wf = true) (w2 : (Lit.int .i64 o3).wf = true) (w3 : (Lit.int .i64 o4).wf = true) (w4 : (Lit.int .i64 o5).wf = true) (w5 : (Lit.int .i64 o6).wf = true) (h : Own w0.heap.size w0 w []) (hK : ∀ w', Own w0.heap.size w0 w' [] → K true w') : C.law14_TablesApart s1 o2 o3 o4 o5 o6 K w := by
  apply S.law14_TablesApart_ok
  unfold S.law14_TablesApart
  have hlen := hi.len
  obtain ⟨n, hn, hn2⟩ := and_lt 4095 o3 (by decide)
  obtain ⟨r, hr, hr2⟩ := and_lt 7 o4 (by decide)
  have hn : andI .i64 o3 (4095 : Int) = (n : Int) := hn
  have hr : andI .i64 o4 (7 : Int) = (r : Int) := hr
  obtain ⟨q, hq, hq2, hq3, hq4⟩ := xor1 n (by omega)
  refine h.al fun w2 h => ?_
  generalize w.heap.size = d0 at h ⊢
  refine New_spec h fun b w h => ?_
  refine cbF rfl ?_
  intro l10 hl10
  have loop : ∀ (j i : Nat) (m : Spc) (w : World), i + j = 41 → i ≤ 40 → i ≤ ops.length → Own w0.heap.size w0 w [SpcA b m, BlkA d0 [.int .i64 o2, .int .i64 o3, .int .i64 o4, .int .i64 o5, .int .i64 o6]] → l10 (i : Int) w := by
    intro j
    induction j with
    | zero => intro i m w h1 h2; omega
    | succ j ih =>
      intro i m w hij hi40 hil h
      apply hl10
      intro k13 hk13
      have exit_ : k13 false w := by
        refine hk13 _ _ (cbF rfl ?_)
        have ho := SOk.ofSpc h
        have hkl := ho.keylen
        refine Pages_spec h fun s31 w h => ?_
        have hl31 := h.lenc s31
        refine ⟨_, h.ldd rfl, ?_⟩
        rw [hn]
        refine Unmap_spec (h.pick (A := SpcA b m)) fun w h => ?_
        obtain ⟨u1, u2⟩ := unmap_pg ho (n := n) (by omega)
        have ho1 := ho.unmap (n : Int)
        generalize (m.unmapR (n : Int)).2.2 = m1 at *
        refine ⟨_, h.ldd rfl, ?_⟩
        rw [hr, hq]
        refine Rights_spec h fun w h => ?_
        have v1 := rights_pg ho1 (q := (q : Int)) (r := (r : Int)) ⟨by omega, by omega⟩ ⟨by omega, by omega⟩
        have ho2 := ho1.rights (q : Int) (r : Int)
        generalize (m1.rightsR (q : Int) (r : Int)).2 = m2 at *
        refine Pages_spec h fun s41 w h => ?_
        have hl41 := h.lenc s41
        have hm2 : m2.pg = (m.pg.filter fun x => x.1 != (n : Int)).map (turnR (q : Int) (r : Int)) := by rw [v1, u1]; rfl
        have hcnt : ∀ i : Nat, ((m.pg.take i).filter fun x => x.1 != (n : Int)).length ≤ 4096 := fun i => by
          have := List.length_filter_le (fun x : Int × Pg => x.1 != (n : Int)) (m.pg.take i)
          rw [List.length_take] at this; omega
        intro l43 hl43
        have loop2 : ∀ (j i : Nat) (w : World), i + j = m.pg.length → Own w0.heap.size w0 w [SlT laidE s41 m2.pg, SlT laidE s31 m.pg, SpcA b m2, BlkA d0 [.int .i64 o2, .int .i64 o3, .int .i64 o4, .int .i64 o5, .int .i64 o6]] → l43 (((m.pg.take i).filter fun x => x.1 != (n : Int)).length : Int) (i : Int) w := by
          intro j
          induction j with
          | zero =>
            intro i w hij h
            apply hl43
            refine cdecF (by omega) ?_
            refine ⟨by decide, ?_⟩
            have hdiv : IntKind.i64.wrap ((n : Int).tdiv 64) = ((n / 64 : Nat) : Int) := by
              have : (n : Int).tdiv 64 = ((n / 64 : Nat) : Int) := rfl
              rw [this, wr (by omega) (by omega)]
            rw [hdiv]
            refine Drop_spec (h.pick (A := SpcA b m2)) fun s82 w h => ?_
            obtain ⟨t1, t2⟩ := drop_tb ho2 (q := n / 64) (by omega)
            have ho3 := ho2.drop ((n / 64 : Nat) : Int)
            generalize (m2.dropR ((n / 64 : Nat) : Int)).2.2 = m3 at *
            generalize (m2.dropR ((n / 64 : Nat) : Int)).1 = dl at *
            refine Pages_spec (h.pick (A := SpcA b m3)) fun s85 w h => ?_
            have hl85 := h.lenc s85
            have hkl2 := ho2.keylen
            have hlast : ((m.pg.take i).filter fun x => x.1 != (n : Int)).length = m2.pg.length := by
              rw [List.take_of_length_le (by omega), hm2, List.length_map]
            intro l87 hl87
            have loop3 : ∀ (j i : Nat) (w : World), i + j = m2.pg.length → Own w0.heap.size w0 w [SlT laidE s85 m3.pg, SpcA b m3, SlT laidE s41 m2.pg] → l87 (((m2.pg.take i).filter fun x => x.1.toNat / 64 != n / 64).length : Int) (i : Int) w := by
              intro j
              induction j with
              | zero =>
                intro i2 w hij h
                apply hl87
                refine cdecF (by omega) ?_
                refine ceqT (by rw [hlast]; omega) ?_
                refine ceqT (by rw [List.take_of_length_le (by omega), ← t2]; omega) ?_
                exact law14_fixed_spec h fun w h => hK _ h.sub
              | succ j ih3 =>
                intro i w hij h
                apply hl87
                refine cdecT (by omega) ?_
                have hx : m2.pg[i]? = some m2.pg[i] := List.getElem?_eq_getElem (by omega)
                have hb := ho2.bnd m2.pg[i] (List.getElem_mem _)
                have et : m2.pg.take (i + 1) = m2.pg.take i ++ [m2.pg[i]] := by rw [List.take_add_one, hx]; rfl
                have ei : IntKind.i64.wrap ((i : Int) + 1) = ((i + 1 : Nat) : Int) := by rw [wr (by omega) (by omega)]; omega
                refine h.ixc (s := s41) (i := (i : Int)) (j := i) rfl hx fun a ha h0 hc => ⟨_, h0 _ rfl, by decide, by decide, ?_⟩
                rw [divk hb.1 hb.2.1, ei]
                refine ceq (fun e => ?_) (fun e => ?_)
                · have e5 : ((m2.pg.take (i + 1)).filter fun x => x.1.toNat / 64 != n / 64) = (m2.pg.take i).filter fun x => x.1.toNat / 64 != n / 64 := by
                    rw [et, List.filter_append, List.filter_cons, if_neg (by simp; omega)]; simp
                  have := ih3 (i + 1) w (by omega) h
                  rw [e5] at this
                  exact this
                · intro k93 hk93
                  refine h.dr fun w h => ?_
                  have hfx : (fun x : Int × Pg => x.1.toNat / 64 != n / 64) m2.pg[i] = true := by simp; omega
                  have hidx := filter_idx (fun x : Int × Pg => x.1.toNat / 64 != n / 64) m2.pg i m2.pg[i] hx hfx
                  rw [← t2] at hidx
                  have hlt := (List.getElem?_eq_some_iff.1 hidx).1
                  refine cdecF (by omega) ?_
                  refine h.ixc (s := s85) (i := (((m2.pg.take i).filter fun x => x.1.toNat / 64 != n / 64).length : Int)) (j := ((m2.pg.take i).filter fun x => x.1.toNat / 64 != n / 64).length) rfl hidx fun a ha h0 hc => ldLaid hc ?_
                  refine h.ixc (s := s41) (i := (i : Int)) (j := i) rfl hx fun a ha h0 hc => ldLaid hc ?_
                  refine ⟨_, laidNe m2.pg[i] m2.pg[i], ?_⟩
                  rw [decide_eq_true rfl]
                  refine hk93 _ _ (cbF rfl ?_)
                  have e5 : ((m2.pg.take (i + 1)).filter fun x => x.1.toNat / 64 != n / 64) = ((m2.pg.take i).filter fun x => x.1.toNat / 64 != n / 64) ++ [m2.pg[i]] := by
                    rw [et, List.filter_append, List.filter_cons, if_pos hfx]; rfl
                  have := ih3 (i + 1) w (by omega) h
                  rw [e5, List.length_append] at this
                  have hl3 := ho3.keylen
                  rw [show IntKind.i64.wrap ((((m2.pg.take i).filter fun x => x.1.toNat / 64 != n / 64).length : Int) + 1) = (((((m2.pg.take i).filter fun x => x.1.toNat / 64 != n / 64).length + 1 : Nat)) : Int) from by rw [wr (by omega) (by omega)]; omega]
                  exact this
            exact loop3 m2.pg.length 0 w (by omega) h.sub
          | succ j ih2 =>
            intro i w hij h
            apply hl43
            refine cdecT (by omega) ?_
            have hx : m.pg[i]? = some m.pg[i] := List.getElem?_eq_getElem (by omega)
            have et : m.pg.take (i + 1) = m.pg.take i ++ [m.pg[i]] := by rw [List.take_add_one, hx]; rfl
            have ei : IntKind.i64.wrap ((i : Int) + 1) = ((i + 1 : Nat) : Int) := by rw [wr (by omega) (by omega)]; omega
            have hc0 := hcnt i
            refine h.ixc (s := s31) (i := (i : Int)) (j := i) rfl hx fun a ha h0 hc => ⟨_, h0 _ rfl, ?_⟩
            rw [ei]
            refine ceq (fun e => ?_) (fun e => ?_)
            · have e5 : ((m.pg.take (i + 1)).filter fun x => x.1 != (n : Int)) = (m.pg.take i).filter fun x => x.1 != (n : Int) := by
                rw [et, List.filter_append, List.filter_cons, if_neg (by simpa using e)]; simp
              have := ih2 (i + 1) w (by omega) h
              rw [e5] at this
              exact this
            · intro k49 hk49
              refine h.dr fun w h => ?_
              have hfx : (fun x : Int × Pg => x.1 != (n : Int)) m.pg[i] = true := by simpa using e
              have hidx : m2.pg[((m.pg.take i).filter fun x => x.1 != (n : Int)).length]? = some (turnR (q : Int) (r : Int) m.pg[i]) := by
                rw [hm2, List.getElem?_map, filter_idx (fun x : Int × Pg => x.1 != (n : Int)) m.pg i m.pg[i] hx hfx]; rfl
              have hlt := (List.getElem?_eq_some_iff.1 hidx).1
              have e5 : ((m.pg.take (i + 1)).filter fun x => x.1 != (n : Int)) = ((m.pg.take i).filter fun x => x.1 != (n : Int)) ++ [m.pg[i]] := by
                rw [et, List.filter_append, List.filter_cons, if_pos hfx]; rfl
              have go : k49 false w := by
                refine hk49 _ _ (cbF rfl ?_)
                have := ih2 (i + 1) w (by omega) h
                rw [e5, List.length_append] at this
                rw [show IntKind.i64.wrap ((((m.pg.take i).filter fun x => x.1 != (n : Int)).length : Int) + 1) = (((((m.pg.take i).filter fun x => x.1 != (n : Int)).length + 1 : Nat)) : Int) from by rw [wr (by omega) (by omega)]; omega]
                exact this
              have key : (turnR (q : Int) (r : Int) m.pg[i]).1 = m.pg[i].1 := by unfold turnR; split <;> rfl
              have frm : (turnR (q : Int) (r : Int) m.pg[i]).2.1 = m.pg[i].2.1 := by unfold turnR; split <;> rfl
              have rgt : m.pg[i].1 = (q : Int) → (turnR (q : Int) (r : Int) m.pg[i]).2.2 = (r : Int) := fun e => by unfold turnR; rw [if_pos e]
              have sam : m.pg[i].1 ≠ (q : Int) → turnR (q : Int) (r : Int) m.pg[i] = m.pg[i] := fun e => by unfold turnR; rw [if_neg e]
              generalize hT : turnR (q : Int) (r : Int) m.pg[i] = T at *
              generalize hcn : ((m.pg.take i).filter fun x => x.1 != (n : Int)).length = c at *
              refine cdecF (by omega) ?_
              refine h.ixc (s := s41) (i := (c : Int)) (j := c) rfl hidx fun a ha h0 hc => ⟨_, h0 _ rfl, ?_⟩
              refine h.ixc (s := s31) (i := (i : Int)) (j := i) rfl hx fun a ha h0 hc => ⟨_, h0 _ rfl, ?_⟩
              refine cneF key ?_
              refine h.ixc (s := s41) (i := (c : Int)) (j := c) rfl hidx fun a ha h0 hc => ⟨_, hc 1 _ rfl, ?_⟩
              refine h.ixc (s := s31) (i := (i : Int)) (j := i) rfl hx fun a ha h0 hc => ⟨_, hc 1 _ rfl, ?_⟩
              refine cneF frm ?_
              refine h.ixc (s := s31) (i := (i : Int)) (j := i) rfl hx fun a ha h0 hc => ⟨_, h0 _ rfl, ?_⟩
              refine cne (fun e3 => ?_) (fun e3 => ?_)
              · refine h.ixc (s := s41) (i := (c : Int)) (j := c) rfl hidx fun a ha h0 hc => ldLaid hc ?_
                refine h.ixc (s := s31) (i := (i : Int)) (j := i) rfl hx fun a ha h0 hc => ldLaid hc ?_
                refine ⟨_, laidNe T m.pg[i], ?_⟩
                rw [decide_eq_true (sam e3)]
                refine cbF rfl ?_
                refine h.ixc (s := s31) (i := (i : Int)) (j := i) rfl hx fun a ha h0 hc => ⟨_, h0 _ rfl, ?_⟩
                exact ceqF e3 go
              · refine h.ixc (s := s31) (i := (i : Int)) (j := i) rfl hx fun a ha h0 hc => ⟨_, h0 _ rfl, ?_⟩
                refine ceqT e3 ?_
                refine h.ixc (s := s41) (i := (c : Int)) (j := c) rfl hidx fun a ha h0 hc => ⟨T.2.2, ?_, ?_⟩
                · have := hc 2 _ (rfl : (laidE.enc T)[2]? = some (.int .i64 T.2.2))
                  have e6 : ((a.add ((c : Int).toNat * 3)).add 1).add 1 = (a.add (c * laidE.z)).add 2 := by
                    rw [Int.toNat_natCast]
                    show ((a.add (c * 3)).add 1).add 1 = (a.add (c * 3)).add 2
                    unfold Addr.add; simp
                  rw [e6]; exact this
                · refine ⟨_, h.ldd rfl, ?_⟩
                  rw [hr, rgt e3, bne_self_eq_false]
                  exact go
        exact loop2 m.pg.length 0 w (by omega) h.sub
      refine cdec (fun e1 => ?_) (fun e1 => exit_)
      by_cases e2 : (i : Int) < 40
      case neg => rw [decide_eq_false e2]; exact exit_
      rw [decide_eq_true e2]
      have hlt : i < ops.length := by omega
      obtain ⟨o, ho⟩ : ∃ o, ops[i]? = some o := ⟨_, List.getElem?_eq_getElem hlt⟩
      refine hk13 _ _ (cbT rfl ?_)
      refine h.dr fun w h => ?_
      have hr2 : Rd op14E w0.heap.size w0 [SpcA b m, BlkA d0 [.int .i64 o2, .int .i64 o3, .int .i64 o4, .int .i64 o5, .int .i64 o6]] s1 ops := hi.rd _
      refine hr2.ix h rfl ho fun a ha h0 hc => ⟨_, hc 1 _ rfl, ?_⟩
      refine hr2.ix h rfl ho fun a ha h0 hc => ⟨_, hc 2 _ rfl, Go.Vc.a2 ?_⟩
      refine Table_spec h fun w h => ?_
      refine h.dr fun w h => ?_
      have hr3 : Rd op14E w0.heap.size w0 [SpcA b (m.tableR (andI .i64 o.1.2.1 63) o.1.2.2).2, BlkA d0 [.int .i64 o2, .int .i64 o3, .int .i64 o4, .int .i64 o5, .int .i64 o6]] s1 ops := hi.rd _
      refine hr3.ix h rfl ho fun a ha h0 hc => ⟨_, hc 1 _ rfl, ?_⟩
      refine hr3.ix h rfl ho fun a ha h0 hc => ldP14 hc (Go.Vc.a2 ?_)
      refine Map_spec (p := o.2) h fun w h => ?_
      rw [show IntKind.i64.wrap ((i : Int) + 1) = ((i + 1 : Nat) : Int) from by rw [wr (by omega) (by omega)]; omega]
      exact ih (i + 1) _ w (by omega) (by omega) (by omega) h
  exact loop 41 0 newS w (by omega) (by omega) (by omega) h
end
end Go.Proofs.Ytmfbhjfkagnahaa
