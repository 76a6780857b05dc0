/- Laws of layer 14: only pages whose table is there are mapped. -/
import Derived.Test.YtmfbhjfkagnahaaJ14
import Derived.Test.YtmfbhjfkagnahaaS1
set_option linter.unusedVariables false
set_option linter.unusedSimpArgs false
set_option maxRecDepth 8000
namespace Go.Proofs.Ytmfbhjfkagnahaa
open Go Go.Vc Go.Proofs Go.Shelf

theorem ldLP {w : World} {a : Addr} {x : Int × Pg} {f : Int → Int → Prop} (g : ∀ c v, (laidE.enc x)[c]? = some v → w.cell? (a.add c) = some v) (hf : f x.2.1 x.2.2) : LdL w (a.add 1) 0 [.i .i64, .i .i64] f := by
  have g4 : w.cell? ((a.add 1).add 1) = some (.int .i64 x.2.2) := by
    have := g 2 _ (rfl : (laidE.enc x)[2]? = some (.int .i64 x.2.2))
    have e : (a.add 1).add 1 = a.add 2 := by
      unfold Addr.add
      simp
    rw [e]; exact this
  have g3 : w.cell? ((a.add 1).add 0) = some (.int .i64 x.2.1) := g 1 _ rfl
  exact ⟨_, g3, _, g4, hf⟩
section
variable {B : Nat} {w0 w : World} {R L : List Asn} {b : Nat} {m : Spc}
theorem drop_tb (ho : SOk m) {q : Nat} (hq : q < 64) : (m.dropR (q : Int)).2.2.tb q = none ∧ (m.dropR (q : Int)).2.2.pg = m.pg.filter fun x => x.1.toNat / 64 != q := by
  unfold Spc.dropR
  rw [if_neg (fun h => h ⟨by omega, by omega⟩), Int.toNat_natCast]
  by_cases e : m.tb q = none
  · rw [if_pos e]
    refine ⟨e, (List.filter_eq_self.2 fun x hx => ?_).symm⟩
    have := (ho.bnd x hx).2.2
    simp only [bne_iff_ne, ne_eq]
    intro e2
    rw [e2, e] at this; cases this
  · rw [if_neg e]
    exact ⟨by simp [upT], rfl⟩
theorem eta3 {α β γ : Type} (x : α × β × γ) : x = (x.1, x.2.1, x.2.2) := rfl
theorem only_ways {m1 : Spc} (ho : SOk m1) {n : Nat} {p : Pg} (hn : n < 4096) (ht : m1.tb (n / 64) = none) (h1 : 0 ≤ p.1) (h2 : 0 ≤ p.2 ∧ p.2 ≤ 7) :
    ∃ a m2 c m3 u e m4, m1.tableR ((n / 64 : Nat) : Int) 1048576 = (a, m2) ∧ m2.mapR (n : Int) p = (c, m3) ∧ m3.unmapR (n : Int) = (u, e, m4) ∧ ((a = 140 ∧ c = 141) ∨ (a = 0 ∧ c = 0 ∧ look m3.pg (n : Int) = some p ∧ u = p ∧ e = 0 ∧ look m4.pg (n : Int) = none)) := by
  have hno : look m1.pg (n : Int) = none := by
    cases e : look m1.pg (n : Int) with
    | none => rfl
    | some v => have := (ho.tab e).2.2; rw [Int.toNat_natCast, ht] at this; cases this
  generalize hbig : (1048576 : Int) = big
  have hb0 : 0 ≤ big := by omega
  by_cases ha : ((List.range 64).any fun j => m1.tb j == some big) = true
  · have e1 : m1.tableR ((n / 64 : Nat) : Int) big = (140, m1) := by
      unfold Spc.tableR
      rw [if_neg (fun h => h ⟨by omega, by omega, hb0⟩), if_pos (.inr ha)]
    have e2 : m1.mapR (n : Int) p = (141, m1) := by
      unfold Spc.mapR
      rw [if_neg (fun h => h ⟨by omega, by omega, h1, h2.1, h2.2⟩), if_pos (by rw [Int.toNat_natCast]; exact ht)]
    exact ⟨140, m1, 141, m1, (m1.unmapR (n : Int)).1, (m1.unmapR (n : Int)).2.1, (m1.unmapR (n : Int)).2.2, e1, e2, eta3 _, .inl ⟨rfl, rfl⟩⟩
  · have e1 : m1.tableR ((n / 64 : Nat) : Int) big = (0, ⟨upT m1.tb (n / 64) (some big), m1.pg⟩) := by
      unfold Spc.tableR
      rw [if_neg (fun h => h ⟨by omega, by omega, hb0⟩), if_neg (by rw [Int.toNat_natCast, ht]; simpa using ha), Int.toNat_natCast]
    have e2 : (⟨upT m1.tb (n / 64) (some big), m1.pg⟩ : Spc).mapR (n : Int) p = (0, ⟨upT m1.tb (n / 64) (some big), insS m1.pg n p⟩) := by
      unfold Spc.mapR
      rw [if_neg (fun h => h ⟨by omega, by omega, h1, h2.1, h2.2⟩), if_neg (by rw [Int.toNat_natCast]; simp [upT]), if_neg (by simp [hno])]
    have hl : look (insS m1.pg (n : Int) p) (n : Int) = some p := by rw [look_ins ho.srt, if_pos rfl]
    have e3 : (⟨upT m1.tb (n / 64) (some big), insS m1.pg n p⟩ : Spc).unmapR (n : Int) = (p, 0, ⟨upT m1.tb (n / 64) (some big), delS (insS m1.pg n p) n⟩) := by
      unfold Spc.unmapR
      rw [if_neg (fun h => h ⟨by omega, by omega⟩), hl]
    refine ⟨_, _, _, _, _, _, _, e1, e2, e3, .inr ⟨rfl, rfl, hl, rfl, rfl, ?_⟩⟩
    rw [look_del (ins_srt ho.srt _ _), if_pos rfl]
theorem law14_TablesOnly_spec {s1 : Sl} {ops : List Op14} {pg fr ri : Int} {K : Bool → World → Prop} (hi : Inp op14E w0 s1 ops) (hg : ∀ x ∈ ops, op14Good x) (w1 : (Lit.int .i64 pg).wf = true) (w2 : (Lit.int .i64 fr).wf = true) (w3 : (Lit.int .i64 ri).wf = true) (h : Own w0.heap.size w0 w []) (hK : ∀ w', Own w0.heap.size w0 w' [] → K true w') : C.law14_TablesOnly s1 pg fr ri K w := by
  apply S.law14_TablesOnly_ok
  unfold S.law14_TablesOnly
  have hlen := hi.len
  obtain ⟨n, hn, hn2⟩ := and_lt 4095 pg (by decide)
  obtain ⟨f, hf, hf2⟩ := and_lt 65535 fr (by decide)
  obtain ⟨g, hg, hg2⟩ := and_lt 7 ri (by decide)
  have hn : andI .i64 pg (4095 : Int) = (n : Int) := hn
  have hf : andI .i64 fr (65535 : Int) = (f : Int) := hf
  have hg : andI .i64 ri (7 : Int) = (g : Int) := hg
  have hdiv : IntKind.i64.wrap ((n : Int).tdiv 64) = ((n / 64 : Nat) : Int) := by
    have : (n : Int).tdiv 64 = ((n / 64 : Nat) : Int) := rfl
    rw [this, wr (by omega) (by omega)]
  rw [hn, hdiv]
  refine h.al fun w2 h => ?_
  generalize w.heap.size = d0 at h ⊢
  refine New_spec h fun b w h => ?_
  refine cbF rfl ?_
  intro l8 hl8
  have loop : ∀ (j i : Nat) (m : Spc) (w : World), i + j = 61 → i ≤ 60 → i ≤ ops.length → Own w0.heap.size w0 w [SpcA b m, BlkA d0 [.int .i64 fr, .int .i64 ri]] → l8 (i : Int) w := by
    intro j
    induction j with
    | zero => intro i m w h1 h2; omega
    | succ j ih =>
      intro i m w hij hi60 hil h
      apply hl8
      intro k11 hk11
      have exit_ : k11 false w := by
        refine hk11 _ _ (cbF rfl ?_)
        have ho := SOk.ofSpc h
        have hkl := ho.keylen
        refine Pages_spec h fun s41 w h => ?_
        have hl41 := h.lenc s41
        intro l43 hl43
        have loop2 : ∀ (j i : Nat) (w : World), i + j = m.pg.length → Own w0.heap.size w0 w [SlT laidE s41 m.pg, SpcA b m, BlkA d0 [.int .i64 fr, .int .i64 ri]] → l43 (i : Int) w := by
          intro j
          induction j with
          | succ j ih2 =>
            intro i w hij h
            apply hl43
            refine cdecT (by omega) ?_
            have hx : m.pg[i]? = some m.pg[i] := List.getElem?_eq_getElem (by omega)
            have hmem : m.pg[i] ∈ m.pg := List.getElem_mem _
            have hb := ho.bnd _ hmem
            have hlk : look m.pg m.pg[i].1 = some m.pg[i].2 := ho.srt.look hmem
            refine h.ixc (s := s41) (i := (i : Int)) (j := i) rfl hx fun a ha h0 hc => ⟨_, h0 _ rfl, by decide, ?_⟩
            rw [divk hb.1 hb.2.1]
            refine Has_spec (h.pick (A := SpcA b m)) ?_
            have e1 : (m.at ((m.pg[i].1.toNat / 64 : Nat) : Int)).isSome = true := by unfold Spc.at; rw [if_neg (by omega), Int.toNat_natCast]; exact hb.2.2
            rw [e1]
            refine h.ixc (s := s41) (i := (i : Int)) (j := i) rfl hx fun a ha h0 hc => ⟨_, h0 _ rfl, ?_⟩
            refine Walk_spec (h.pick (A := SpcA b m)) fun w h => ?_
            rw [hlk]
            refine h.al fun w2 h => ?_
            generalize w.heap.size = d at h ⊢
            refine h.stLc rfl rfl fun w h => ?_
            (dsimp only [putAt, List.set_cons_zero, List.set_cons_succ] at h)
            intro k59 hk59
            refine h.dr fun w h => ?_
            refine cbF rfl (cbF rfl ?_)
            refine h.lc_2 rfl ?_
            refine h.ixc (s := s41) (i := (i : Int)) (j := i) rfl hx fun a ha h0 hc => ldLP hc ?_
            refine ⟨_, pgNe m.pg[i].2 m.pg[i].2, cbF (by simp) ?_⟩
            have go : k59 false w := by
              refine hk59 _ _ (cbF rfl ?_)
              rw [show IntKind.i64.wrap ((i : Int) + 1) = ((i + 1 : Nat) : Int) from by rw [wr (by omega) (by omega)]; omega]
              exact ih2 (i + 1) w (by omega) h.sub
            refine cdec (fun e => ?_) (fun e => go)
            have hx2 : m.pg[i - 1]? = some m.pg[i - 1] := List.getElem?_eq_getElem (by omega)
            have ei : IntKind.i64.wrap ((i : Int) - 1) = ((i - 1 : Nat) : Int) := by rw [wr (by omega) (by omega)]; omega
            rw [ei]
            refine h.ixc (s := s41) (i := (i : Int)) (j := i) rfl hx fun a ha h0 hc => ⟨_, h0 _ rfl, ?_⟩
            refine h.ixc (s := s41) (i := ((i - 1 : Nat) : Int)) (j := i - 1) rfl hx2 fun a ha h0 hc => ⟨_, h0 _ rfl, ?_⟩
            have hlt := (List.pairwise_iff_getElem.1 ho.srt) (i - 1) i (by omega) (by omega) (by omega)
            rw [decide_eq_false (by omega)]
            exact go
          | zero =>
            intro i w hij h
            apply hl43
            refine cdecF (by omega) ?_
            refine ⟨_, h.ldc rfl, _, h.ldd rfl, ?_⟩
            rw [hf, hg]
            refine h.al fun w2 h => ?_
            generalize w.heap.size = d at h ⊢
            refine h.stLc rfl rfl fun w h => ?_
            (dsimp only [putAt, List.set_cons_zero, List.set_cons_succ] at h)
            refine ⟨by decide, ?_⟩
            refine Drop_spec (h.pick (A := SpcA b m)) fun s77 w h => ?_
            obtain ⟨t1, t2⟩ := drop_tb ho (q := n / 64) (by omega)
            have ho1 := ho.drop ((n / 64 : Nat) : Int)
            generalize (m.dropR ((n / 64 : Nat) : Int)).2.2 = m1 at *
            generalize (m.dropR ((n / 64 : Nat) : Int)).1 = dl at *
            have hno : look m1.pg (n : Int) = none := by
              cases e : look m1.pg (n : Int) with
              | none => rfl
              | some v => have := (ho1.tab e).2.2; rw [Int.toNat_natCast, t1] at this; cases this
            refine Walk_spec (h.pick (A := SpcA b m1)) fun w h => ?_
            rw [hno]
            refine h.al fun w2 h => ?_
            generalize w.heap.size = d3 at h ⊢
            refine h.stLc rfl rfl fun w h => ?_
            (dsimp only [putAt, List.set_cons_zero, List.set_cons_succ] at h)
            refine h.dr fun w h => ?_
            refine ⟨by decide, ?_⟩
            refine h.lc_2 rfl (Go.Vc.a2 ?_)
            obtain ⟨a, m2, c, m3, u, e, m4, q1, q2, q3, q4⟩ := only_ways (p := ((f : Int), (g : Int))) ho1 (n := n) (by omega) t1 (by show (0 : Int) ≤ f; omega) ⟨by show (0 : Int) ≤ g; omega, by show (g : Int) ≤ 7; omega⟩
            refine Table_spec (h.pick (A := SpcA b m1)) fun w h => ?_
            rw [q1] at h ⊢
            refine h.hd rfl (Go.Vc.a2 ?_)
            refine Map_spec (p := ((f : Int), (g : Int))) h fun w h => ?_
            rw [q2] at h ⊢
            refine Walk_spec h fun w h => ?_
            refine h.al fun w2 h => ?_
            generalize w.heap.size = d4 at h ⊢
            refine h.stLc rfl rfl fun w h => ?_
            (dsimp only [putAt, List.set_cons_zero, List.set_cons_succ] at h)
            refine Unmap_spec (h.pick (A := SpcA b m3)) fun w h => ?_
            rw [q3] at h ⊢
            refine h.al fun w2 h => ?_
            generalize w.heap.size = d5 at h ⊢
            refine h.stLc rfl rfl fun w h => ?_
            (dsimp only [putAt, List.set_cons_zero, List.set_cons_succ] at h)
            refine Walk_spec (h.pick (A := SpcA b m4)) fun w h => ?_
            refine h.al fun w2 h => ?_
            generalize w.heap.size = d6 at h ⊢
            refine h.stLc rfl rfl fun w h => ?_
            (dsimp only [putAt, List.set_cons_zero, List.set_cons_succ] at h)
            have fin := law14_fixed_spec (K := K) h fun w h => hK _ h.sub
            rcases q4 with ⟨ha, hc⟩ | ⟨ha, hc, hl3, hu, he, hl4⟩
            · exact ceqT ha (cbT rfl (ceqT hc fin))
            · refine ceqF (by show a ≠ 140; omega) (cbT rfl (ceqT ha (ceqT hc ?_)))
              refine h.lc_2 rfl ?_
              refine h.lc_2 rfl ?_
              rw [hl3]
              refine ⟨_, pgEq ((f : Int), (g : Int)) ((f : Int), (g : Int)), cbT (by simp) (cbT rfl ?_)⟩
              refine h.lc_2 rfl ?_
              refine h.lc_2 rfl ?_
              rw [hu]
              refine ⟨_, pgEq ((f : Int), (g : Int)) ((f : Int), (g : Int)), cbT (by simp) (ceqT he ?_)⟩
              rw [hl4]
              exact cbT rfl fin
        exact loop2 m.pg.length 0 w (by omega) h
      refine cdec (fun e1 => ?_) (fun e1 => exit_)
      by_cases e2 : (i : Int) < 60
      case neg => rw [decide_eq_false e2]; exact exit_
      rw [decide_eq_true e2]
      have hlt : i < ops.length := by omega
      obtain ⟨o, ho⟩ : ∃ o, ops[i]? = some o := ⟨_, List.getElem?_eq_getElem hlt⟩
      have hr2 : Rd op14E w0.heap.size w0 [SpcA b m, BlkA d0 [.int .i64 fr, .int .i64 ri]] s1 ops := hi.rd _
      refine hk11 _ _ (cbT rfl ?_)
      refine hr2.ix h rfl ho fun a ha h0 hc => ldOp14 hc ?_
      refine h.al fun w2 h => ?_
      generalize w.heap.size = d at h ⊢
      refine h.stLc rfl rfl fun w h => ?_
      (dsimp only [putAt, List.set_cons_zero, List.set_cons_succ] at h)
      rw [show IntKind.i64.wrap ((i : Int) + 1) = ((i + 1 : Nat) : Int) from by rw [wr (by omega) (by omega)]; omega]
      refine ⟨_, h.ldc rfl, ?_⟩
      refine ceq (fun _ => ?_) (fun _ => ?_)
      · refine ⟨_, h.ldd rfl, _, h.ldd rfl, Table_spec (h.pick (A := SpcA b m)) fun w h => ?_⟩
        exact ih (i + 1) (m.tableR o.1.2.1 o.1.2.2).2 w (by omega) (by omega) (by omega) h.sub
      refine ceq (fun _ => ?_) (fun _ => ?_)
      · refine ⟨_, h.ldd rfl, Drop_spec (h.pick (A := SpcA b m)) fun s w h => ?_⟩
        exact ih (i + 1) (m.dropR o.1.2.1).2.2 w (by omega) (by omega) (by omega) h.sub
      refine ceq (fun _ => ?_) (fun _ => ?_)
      · refine ⟨_, h.ldd rfl, ?_⟩
        refine ⟨o.2.1, h.ldd rfl, o.2.2, h.ldd rfl, ?_⟩
        refine Map_spec (p := o.2) (h.pick (A := SpcA b m)) fun w h => ?_
        exact ih (i + 1) (m.mapR o.1.2.1 o.2).2 w (by omega) (by omega) (by omega) h.sub
      refine ceq (fun _ => ?_) (fun _ => ?_)
      · refine ⟨_, h.ldd rfl, Unmap_spec (h.pick (A := SpcA b m)) fun w h => ?_⟩
        exact ih (i + 1) (m.unmapR o.1.2.1).2.2 w (by omega) (by omega) (by omega) h.sub
      · exact ih (i + 1) m w (by omega) (by omega) (by omega) h.sub
  exact loop 61 0 newS w (by omega) (by omega) (by omega) h
end
end Go.Proofs.Ytmfbhjfkagnahaa
