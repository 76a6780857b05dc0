/- Laws of layer 14: what a table that goes takes away. -/
import Derived.Test.YtmfbhjfkagnahaaH14
import Derived.Test.YtmfbhjfkagnahaaS1
set_option linter.unusedVariables false
set_option linter.unusedSimpArgs false
set_option maxRecDepth 8000
namespace Go.Proofs.Ytmfbhjfkagnahaa
open Go Go.Vc Go.Proofs Go.Shelf

abbrev Op14 := (Int × Int × Int) × Pg
def op14E : EncT Op14 := ⟨5, fun o => [.int .i64 o.1.1, .int .i64 o.1.2.1, .int .i64 o.1.2.2, .int .i64 o.2.1, .int .i64 o.2.2], fun _ => rfl, fun x v h => by
  simp only [List.mem_cons, List.not_mem_nil, or_false] at h
  rcases h with rfl | rfl | rfl | rfl | rfl <;> rfl, by decide⟩
theorem ldOp14 {w : World} {a : Addr} {x : Op14} {f : Int → Int → Int → Int → Int → Prop} (g : ∀ c v, (op14E.enc x)[c]? = some v → w.cell? (a.add c) = some v) (hf : f x.1.1 x.1.2.1 x.1.2.2 x.2.1 x.2.2) : LdL w a 0 [.i .i64, .i .i64, .i .i64, .i .i64, .i .i64] f :=
  ⟨_, g 0 _ rfl, _, g 1 _ rfl, _, g 2 _ rfl, _, g 3 _ rfl, _, g 4 _ rfl, hf⟩
theorem ldP14 {w : World} {a : Addr} {x : Op14} {f : Int → Int → Prop} (g : ∀ c v, (op14E.enc x)[c]? = some v → w.cell? (a.add c) = some v) (hf : f x.2.1 x.2.2) : LdL w (a.add 3) 0 [.i .i64, .i .i64] f := by
  have g4 : w.cell? ((a.add 3).add 1) = some (.int .i64 x.2.2) := by
    have := g 4 _ (rfl : (op14E.enc x)[4]? = some (.int .i64 x.2.2))
    have e : (a.add 3).add 1 = a.add 4 := by
      unfold Addr.add
      simp
    rw [e]; exact this
  have g3 : w.cell? ((a.add 3).add 0) = some (.int .i64 x.2.1) := g 3 _ rfl
  exact ⟨_, g3, _, g4, hf⟩
def op14Good (o : Op14) : Prop := True
theorem op14Dec : ∀ cs, Fits [.int .i64, .int .i64, .int .i64, .int .i64, .int .i64] cs → ∃ x, cs = op14E.enc x ∧ op14Good x := fun cs h0 => by
  obtain ⟨_, _, rfl, ⟨a, rfl, _⟩, h1⟩ := h0.cons_out
  obtain ⟨_, _, rfl, ⟨b, rfl, _⟩, h2⟩ := h1.cons_out
  obtain ⟨_, _, rfl, ⟨c, rfl, _⟩, h3⟩ := h2.cons_out
  obtain ⟨_, _, rfl, ⟨d, rfl, _⟩, h4⟩ := h3.cons_out
  obtain ⟨_, _, rfl, ⟨e, rfl, _⟩, h5⟩ := h4.cons_out
  obtain rfl := h5.nil_out
  exact ⟨((a, b, c), d, e), rfl, trivial⟩
section
variable {B : Nat} {w0 w : World} {R L : List Asn} {b : Nat} {m : Spc}
theorem map_tb (k : Int) (p : Pg) : (m.mapR k p).2.tb = m.tb := by
  unfold Spc.mapR
  split
  · rfl
  · split
    · rfl
    · split <;> rfl
theorem new_tbF (k : Nat) : newS = ⟨tbF k 0, []⟩ := by
  have : newS.tb = tbF k 0 := by funext j; simp [newS, tbF]
  show (⟨newS.tb, []⟩ : Spc) = _
  rw [this]
theorem SOk.key (h : SOk m) (ht : m.tb = tbF 10 3) {x : Int × Pg} (hx : x ∈ m.pg) : 0 ≤ x.1 ∧ x.1 < 192 := by
  have := h.bnd x hx
  rw [ht] at this
  have h3 := this.2.2
  unfold tbF at h3
  split at h3
  · omega
  · cases h3
theorem SOk.keylen (h : SOk m) : m.pg.length ≤ 4096 := by
  have := srt_len m.pg 0 4096 h.srt fun x hx => ⟨(h.bnd x hx).1, (h.bnd x hx).2.1⟩
  omega
theorem divk {k : Int} (h0 : 0 ≤ k) (h1 : k < 4096) : IntKind.i64.wrap (k.tdiv 64) = ((k.toNat / 64 : Nat) : Int) := by
  obtain ⟨n, rfl⟩ := Int.eq_ofNat_of_zero_le h0
  have : (n : Int).tdiv 64 = ((n / 64 : Nat) : Int) := rfl
  rw [this, wr (by omega) (by omega), Int.toNat_natCast]
theorem SOk.ofSpc (h : Own B w0 w (SpcA b m :: R)) : SOk m := by obtain ⟨_, _, ho, _, _⟩ := h.spc; exact ho
theorem law14_TablesDrops_spec {s1 : Sl} {ops : List Op14} {k : Int} {K : Bool → World → Prop} (hi : Inp op14E w0 s1 ops) (hg : ∀ x ∈ ops, op14Good x) (w1 : (Lit.int .i64 k).wf = true) (h : Own w0.heap.size w0 w []) (hK : ∀ w', Own w0.heap.size w0 w' [] → K true w') : C.law14_TablesDrops s1 k K w := by
  apply S.law14_TablesDrops_ok
  unfold S.law14_TablesDrops
  have hlen := hi.len
  obtain ⟨k1, hk1, _⟩ := and_lt 65535 k (by decide)
  have hk1 : andI .i64 k (65535 : Int) = (k1 : Int) := hk1
  have hmod : Int.tmod (k1 : Int) 3 = ((k1 % 3 : Nat) : Int) := rfl
  rw [hk1, hmod]
  have hn3 : k1 % 3 < 3 := Nat.mod_lt _ (by decide)
  generalize k1 % 3 = n at hn3
  have h10 : IntKind.i64.wrap ((10 : Int) + (n : Int)) = ((10 + n : Nat) : Int) := by rw [wr (by omega) (by omega)]; omega
  rw [h10]
  refine New_spec h fun b w h => ?_
  refine cbF rfl ?_
  rw [new_tbF 10] at h
  intro l5 hl5
  have loop : ∀ (j i : Nat) (w : World), i + j = 3 → Own w0.heap.size w0 w [SpcA b ⟨tbF 10 i, []⟩] → l5 (i : Int) w := by
    intro j
    induction j with
    | succ j ih =>
      intro i w hij h
      apply hl5
      refine cdecT (by omega) ?_
      rw [show IntKind.i64.wrap ((10 : Int) + (i : Int)) = ((10 + i : Nat) : Int) from by rw [wr (by omega) (by omega)]; omega, show IntKind.i64.wrap ((i : Int) + 1) = ((i + 1 : Nat) : Int) from by rw [wr (by omega) (by omega)]; omega]
      refine Table_spec h fun w h => ?_
      rw [full_1 (by omega)] at h
      exact ih (i + 1) w (by omega) h
    | zero =>
      intro i w hij h
      obtain rfl : i = 3 := by omega
      apply hl5
      refine cdecF (by omega) ?_
      intro l10 hl10
      have loop2 : ∀ (j i : Nat) (m : Spc) (w : World), i + j = 41 → i ≤ 40 → i ≤ ops.length → m.tb = tbF 10 3 → Own w0.heap.size w0 w [SpcA b m] → l10 (i : Int) w := by
        intro j
        induction j with
        | zero => intro i m w h1 h2; omega
        | succ j ih =>
          intro i m w hij hi40 hil ht h
          apply hl10
          intro k13 hk13
          have exit_ : k13 false w := by
            refine hk13 _ _ (cbF rfl ⟨by decide, ?_⟩)
            have ho := SOk.ofSpc h
            have hkl := ho.keylen
            refine h.al fun w2 h => ?_
            generalize w.heap.size = d1 at h ⊢
            have h : Own w0.heap.size w0 w2 (SlT laidE ⟨some ⟨d1, 0, none⟩, 0, 0⟩ [] :: _) := Own.empty h
            refine h.al fun w3 h => ?_
            generalize w2.heap.size = d2 at h ⊢
            have h : Own w0.heap.size w0 w3 (SlT laidE ⟨some ⟨d2, 0, none⟩, 0, 0⟩ [] :: _) := Own.empty h
            refine Pages_spec (h.pick (A := SpcA b m)) fun s26 w h => ?_
            have hl26 := h.lenc s26
            intro l28 hl28
            have loop3 : ∀ (j i : Nat) (own rest : Sl) (w : World), i + j = m.pg.length → Own w0.heap.size w0 w [SlT laidE own (tabP (m.pg.take i) n), SlT laidE rest ((m.pg.take i).filter fun x => x.1.toNat / 64 != n), SlT laidE s26 m.pg, SpcA b m] → l28 own rest (i : Int) w := by
              intro j
              induction j with
              | zero =>
                intro i own rest w hij h
                apply hl28
                refine cdecF (by omega) ?_
                rw [List.take_of_length_le (by omega)] at h
                have e1 : m.dropR (n : Int) = (tabP m.pg n, 0, ⟨upT m.tb n none, m.pg.filter fun x => x.1.toNat / 64 != n⟩) := by
                  unfold Spc.dropR
                  rw [if_neg (fun h => h ⟨by omega, by omega⟩), if_neg, Int.toNat_natCast]
                  rw [ht, Int.toNat_natCast]; unfold tbF; rw [if_pos hn3]; simp
                refine Drop_spec (h.pick (A := SpcA b m)) fun s49 w h => ?_
                rw [e1] at h ⊢
                refine Table_spec (h.pick (A := SpcA b ⟨upT m.tb n none, m.pg.filter fun x => x.1.toNat / 64 != n⟩)) fun w h => ?_
                have e2 : (⟨upT m.tb n none, m.pg.filter fun x => x.1.toNat / 64 != n⟩ : Spc).tableR (n : Int) ((10 + n : Nat) : Int) = (0, ⟨upT (upT m.tb n none) n (some ((10 + n : Nat) : Int)), m.pg.filter fun x => x.1.toNat / 64 != n⟩) := by
                  unfold Spc.tableR
                  rw [if_neg (fun h => h ⟨by omega, by omega, by omega⟩), if_neg, Int.toNat_natCast]
                  rw [Int.toNat_natCast]
                  rintro (hh | hh)
                  · simp [upT] at hh
                  · obtain ⟨q, _, hq⟩ := List.any_eq_true.1 hh
                    simp only [upT, beq_iff_eq] at hq
                    split at hq
                    · cases hq
                    · rw [ht] at hq
                      unfold tbF at hq
                      split at hq
                      · simp only [Option.some.injEq] at hq; omega
                      · cases hq
                rw [e2] at h ⊢
                refine Has_spec h ?_
                have e3 : (⟨upT (upT m.tb n none) n (some ((10 + n : Nat) : Int)), m.pg.filter fun x => x.1.toNat / 64 != n⟩ : Spc).at (n : Int) = some ((10 + n : Nat) : Int) := by
                  unfold Spc.at
                  rw [if_neg (by omega), Int.toNat_natCast]
                  simp [upT]
                rw [e3]
                refine ceqT rfl ?_
                have hlt : (tabP m.pg n).length < 1000000000 := by have := List.length_filter_le (fun x : Int × Pg => x.1.toNat / 64 == n) m.pg; unfold tabP; omega
                have hlr : (m.pg.filter fun x => x.1.toNat / 64 != n).length < 1000000000 := by have := List.length_filter_le (fun x : Int × Pg => x.1.toNat / 64 != n) m.pg; omega
                refine Same_spec (xs := tabP m.pg n) (ys := tabP m.pg n) h 1 2 rfl rfl hlt fun w h => ?_
                rw [decide_eq_true rfl]
                refine cbT rfl ?_
                refine Pages_spec h fun s59 w h => ?_
                refine Same_spec (xs := m.pg.filter fun x => x.1.toNat / 64 != n) (ys := m.pg.filter fun x => x.1.toNat / 64 != n) h 0 4 rfl rfl hlr fun w h => ?_
                rw [decide_eq_true rfl]
                refine cbT rfl (ceqT rfl (cbT rfl (ceqT rfl ?_)))
                exact law14_fixed_spec h fun w h => hK _ h.sub
              | succ j ihj =>
                intro i own rest w hij h
                apply hl28
                refine cdecT (by omega) ?_
                have hx : m.pg[i]? = some m.pg[i] := List.getElem?_eq_getElem (by omega)
                have hb := ho.bnd m.pg[i] (List.getElem_mem _)
                have et : m.pg.take (i + 1) = m.pg.take i ++ [m.pg[i]] := by rw [List.take_add_one, hx]; rfl
                refine h.ixc (s := s26) (i := (i : Int)) (j := i) rfl hx fun a ha h0 hc => ⟨_, h0 _ rfl, by decide, ?_⟩
                rw [divk hb.1 hb.2.1, show IntKind.i64.wrap ((i : Int) + 1) = ((i + 1 : Nat) : Int) from by rw [wr (by omega) (by omega)]; omega]
                refine ceq (fun e => ?_) (fun e => ?_)
                · refine h.ixc (s := s26) (i := (i : Int)) (j := i) rfl hx fun a ha h0 hc => ldLaid hc ?_
                  refine h.al fun w2 h => ?_
                  generalize w.heap.size = d at h ⊢
                  refine app1_laid (s := own) (ys := tabP (m.pg.take i) n) (y := m.pg[i]) h (by have := List.length_filter_le (fun x : Int × Pg => x.1.toNat / 64 == n) (m.pg.take i); rw [List.length_take] at this; unfold tabP; omega) fun s' w hs' h => ?_
                  refine ihj (i + 1) s' rest w (by omega) ?_
                  have e4 : tabP (m.pg.take (i + 1)) n = tabP (m.pg.take i) n ++ [m.pg[i]] := by
                    rw [et]; unfold tabP; rw [List.filter_append, List.filter_cons, if_pos (by simp; omega)]; rfl
                  have e5 : ((m.pg.take (i + 1)).filter fun x => x.1.toNat / 64 != n) = (m.pg.take i).filter fun x => x.1.toNat / 64 != n := by
                    rw [et, List.filter_append, List.filter_cons, if_neg (by simp; omega)]; simp
                  rw [e4, e5]; exact h.sub
                · refine h.ixc (s := s26) (i := (i : Int)) (j := i) rfl hx fun a ha h0 hc => ldLaid hc ?_
                  refine h.al fun w2 h => ?_
                  generalize w.heap.size = d at h ⊢
                  refine app1_laid (s := rest) (ys := (m.pg.take i).filter fun x => x.1.toNat / 64 != n) (y := m.pg[i]) h (by have := List.length_filter_le (fun x : Int × Pg => x.1.toNat / 64 != n) (m.pg.take i); rw [List.length_take] at this; omega) fun s' w hs' h => ?_
                  refine ihj (i + 1) own s' w (by omega) ?_
                  have e4 : tabP (m.pg.take (i + 1)) n = tabP (m.pg.take i) n := by
                    rw [et]; unfold tabP; rw [List.filter_append, List.filter_cons, if_neg (by simp; omega)]; simp
                  have e5 : ((m.pg.take (i + 1)).filter fun x => x.1.toNat / 64 != n) = ((m.pg.take i).filter fun x => x.1.toNat / 64 != n) ++ [m.pg[i]] := by
                    rw [et, List.filter_append, List.filter_cons, if_pos (by simp; omega)]; rfl
                  rw [e4, e5]; exact h.sub
            have h5 : Own w0.heap.size w0 w [SlT laidE ⟨some ⟨d1, 0, none⟩, 0, 0⟩ [], SlT laidE ⟨some ⟨d2, 0, none⟩, 0, 0⟩ [], SlT laidE s26 m.pg, SpcA b m] := h.sub
            exact loop3 m.pg.length 0 ⟨some ⟨d1, 0, none⟩, 0, 0⟩ ⟨some ⟨d2, 0, none⟩, 0, 0⟩ w (by omega) h5
          refine cdec (fun e1 => ?_) (fun e1 => exit_)
          by_cases e2 : (i : Int) < 40
          case neg => rw [decide_eq_false e2]; exact exit_
          rw [decide_eq_true e2]
          have hlt : i < ops.length := by omega
          obtain ⟨o, ho⟩ : ∃ o, ops[i]? = some o := ⟨_, List.getElem?_eq_getElem hlt⟩
          have hr2 : Rd op14E w0.heap.size w0 [SpcA b m] s1 ops := hi.rd _
          refine hk13 _ _ (cbT rfl ?_)
          refine h.dr fun w h => ?_
          refine hr2.ix h rfl ho fun a ha h0 hc => ⟨_, hc 1 _ rfl, by decide, ?_⟩
          refine hr2.ix h rfl ho fun a ha h0 hc => ldP14 hc (Go.Vc.a2 ?_)
          refine Map_spec (p := o.2) h fun w h => ?_
          rw [show IntKind.i64.wrap ((i : Int) + 1) = ((i + 1 : Nat) : Int) from by rw [wr (by omega) (by omega)]; omega]
          exact ih (i + 1) _ w (by omega) (by omega) (by omega) (by rw [map_tb]; exact ht) h
      exact loop2 41 0 ⟨tbF 10 3, []⟩ w (by omega) (by omega) (by omega) rfl h
  exact loop 3 0 w (by omega) h
end
end Go.Proofs.Ytmfbhjfkagnahaa
