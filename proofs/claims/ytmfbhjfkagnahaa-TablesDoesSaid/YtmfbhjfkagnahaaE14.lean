/- Tables of layer 14: the calls. -/
import Derived.Test.YtmfbhjfkagnahaaD14
import Derived.Test.YtmfbhjfkagnahaaS4
set_option linter.unusedVariables false
set_option linter.unusedSimpArgs false
set_option maxRecDepth 8000
namespace Go.Proofs.Ytmfbhjfkagnahaa
open Go Go.Vc Go.Proofs Go.Shelf

theorem put_tc {tb : Nat → Option Int} {mb : Nat → Nat} {i : Nat} (hi : i < 64) (v : Option Int) (r : Nat) : putAt ((tcs tb mb).flatMap tcE.enc) (i * 2) [.int .i64 (v.getD 0), .map (v.map fun _ => r)] = (tcs (upT tb i v) (fun j => if j = i then r else mb j)).flatMap tcE.enc := by
  have e := flat_set tcE (tcs tb mb) i (v.map fun n => (n, r)) (by rw [tcs_len]; exact hi)
  rw [tcs_set hi] at e
  rw [e]
  cases v <;> rfl
theorem flat_tc {tb : Nat → Option Int} {mb : Nat → Nat} : ((tcs tb mb).flatMap tcE.enc).length = 128 := by rw [flat_len, tcs_len]; rfl
section
variable {B : Nat} {w0 w : World} {R L : List Asn} {b : Nat} {m : Spc}
theorem put_tab {tb : Nat → Option Int} {mb : Nat → Nat} {M : Nat → Pgs} {i : Nat} (hi : i < 64) (hs : (tb i).isSome = true) (M1 : Pgs) (A0 : Asn) : (A0 :: ((List.range 64).map (tabA tb mb M) ++ R)).set (i + 1) (pmA (mb i) M1) = A0 :: ((List.range 64).map (tabA tb mb (fun j => if j = i then M1 else M j)) ++ R) :=
  tabs_set hi (fun j hj => by
    unfold tabA
    by_cases e : j = i
    · subst e; rw [if_pos hs, if_pos rfl]; show pmA (mb j) (if j = j then M1 else M j) = _; rw [if_pos rfl]
    · simp only [if_neg e]) A0
theorem perm_ins {M : Nat → Pgs} (ho : SOk m) (hM : ∀ i, (M i).Perm (tabP m.pg i)) (k : Int) (p : Pg) : ∀ j, (if j = k.toNat / 64 then aput (M (k.toNat / 64)) k p else M j).Perm (tabP (insS m.pg k p) j) := fun j => by
  rw [tab_ins ho.srt]
  by_cases e : j = k.toNat / 64
  · rw [if_pos e, if_pos e.symm, e]; exact aput_perm (hM _) (ho.srt.filter _) k p
  · rw [if_neg e, if_neg fun h => e h.symm]; exact hM j
theorem perm_del {M : Nat → Pgs} (ho : SOk m) (hM : ∀ i, (M i).Perm (tabP m.pg i)) (k : Int) : ∀ j, (if j = k.toNat / 64 then adel (M (k.toNat / 64)) k else M j).Perm (tabP (delS m.pg k) j) := fun j => by
  by_cases e : j = k.toNat / 64
  · rw [if_pos e, e, tab_del]; exact adel_perm (hM _) (ho.srt.filter _) k
  · rw [if_neg e, tab_del_ne fun h => e h.symm]; exact hM j
theorem New_spec {K : Option Addr → World → Prop} (h : Own B w0 w R) (hK : ∀ b w', Own B w0 w' (SpcA b newS :: R) → K (some ⟨b, 0, none⟩) w') : C.tables_New K w := by
  apply S.tables_New_ok
  unfold S.tables_New
  refine h.al fun w1 h => hK _ w1 ?_
  generalize w.heap.size = d at h ⊢
  refine Own.mk_spc (mb := fun _ => 0) (M := fun _ => []) SOk.new (fun i => List.Perm.refl _) ?_
  have e : (List.range 64).map (tabA newS.tb (fun _ => 0) fun _ => []) = List.replicate 64 (PureA True) := rfl
  rw [e]
  have pures : ∀ (n : Nat) (A : Asn) (R : List Asn), Own B w0 w1 (A :: R) → Own B w0 w1 (A :: (List.replicate n (PureA True) ++ R)) := fun n => by
    induction n with
    | zero => intro A R h; exact h
    | succ n ih =>
      intro A R h
      have h2 : Own B w0 w1 (PureA True :: A :: (List.replicate n (PureA True) ++ R)) := Own.mk_pure trivial (ih A R h)
      exact h2.perm (List.Perm.swap _ _ _)
  exact pures 64 _ R h
theorem Has_spec {i : Int} {K : Int → Bool → World → Prop} (h : Own B w0 w (SpcA b m :: R)) (hK : K ((m.at i).getD 0) (m.at i).isSome w) : C.tables_Space_Has (some ⟨b, 0, none⟩) i K w := by
  apply S.tables_Space_Has_ok
  unfold S.tables_Space_Has
  obtain ⟨mb, M, ho, hM, h⟩ := h.spc
  unfold Spc.at at hK
  intro k3 hk3
  refine place_spec ?_
  by_cases hi : 0 ≤ i ∧ i < 64
  · rw [decide_eq_true hi]
    rw [if_neg (by omega)] at hK
    have hq : i.toNat < 64 := by omega
    refine cbF rfl ⟨_, rfl, hi.1, hi.2, ?_⟩
    rw [adr]
    refine ⟨_, (cell_p hq 0 h rfl).2, ?_⟩
    cases e : m.tb i.toNat with
    | none => rw [e] at hK; exact hk3 _ _ (cbT rfl hK)
    | some n =>
      rw [e] at hK
      refine hk3 _ _ (cbF rfl ⟨_, rfl, hi.1, hi.2, ?_⟩)
      rw [adr]
      refine ⟨_, (cell_p hq 0 h rfl).1, ?_⟩
      rw [e]; exact hK
  · rw [decide_eq_false hi]
    refine cbT rfl (hk3 _ _ (cbT rfl ?_))
    by_cases h0 : i < 0
    · rw [if_pos h0] at hK; exact hK
    · rw [if_neg h0] at hK
      cases e : m.tb i.toNat with
      | none => rw [e] at hK; exact hK
      | some n => have := ho.few i.toNat (by rw [e]; rfl); omega
theorem Map_spec {k : Int} {p : Pg} {K : Int → World → Prop} (h : Own B w0 w (SpcA b m :: R)) (hK : ∀ w', Own B w0 w' (SpcA b (m.mapR k p).2 :: R) → K (m.mapR k p).1 w') : C.tables_Space_Map (some ⟨b, 0, none⟩) k p.1 p.2 K w := by
  apply S.tables_Space_Map_ok
  unfold S.tables_Space_Map
  obtain ⟨mb, M, ho, hM, h⟩ := h.spc
  unfold Spc.mapR at hK
  refine h.al fun w1 h => ?_
  generalize w.heap.size = d at h ⊢
  intro k6 hk6
  have bad : ¬ (0 ≤ k ∧ k < 4096 ∧ 0 ≤ p.1 ∧ 0 ≤ p.2 ∧ p.2 ≤ 7) → k6 true w1 := fun e => by
    rw [if_pos e] at hK; exact hk6 _ _ (cbT rfl (hK w1 (Own.mk_spc ho hM h.drop)))
  refine page_spec ?_
  by_cases hk : 0 ≤ k ∧ k < 4096
  case neg => rw [decide_eq_false hk]; exact cbT rfl (bad fun hh => hk ⟨hh.1, hh.2.1⟩)
  rw [decide_eq_true hk]
  refine cbF rfl ⟨_, h.ldc rfl, ?_⟩
  refine cdec (fun e => bad fun hh => by omega) (fun e1 => ?_)
  refine ⟨_, h.ldd rfl, rights_spec ?_⟩
  by_cases hr : 0 ≤ p.2 ∧ p.2 ≤ 7
  case neg => rw [decide_eq_false hr]; exact bad fun hh => hr hh.2.2.2
  rw [decide_eq_true hr]
  rw [if_neg (fun hh => hh ⟨hk.1, hk.2, by omega, hr.1, hr.2⟩)] at hK
  have hq : k.toNat / 64 < 64 := by omega
  refine hk6 _ _ (cbF rfl ?_)
  refine of_spec (mb := mb) (m := m) hk 1 h rfl fun w h => ?_
  cases ht : m.tb (k.toNat / 64) with
  | none =>
    rw [if_pos ht] at hK
    exact cbT rfl (hK w (Own.mk_spc ho hM h.drop))
  | some v =>
    have hs : (m.tb (k.toNat / 64)).isSome = true := by rw [ht]; rfl
    rw [if_neg (by rw [ht]; simp)] at hK
    refine cbF rfl ⟨_, rfl, _, (cell_p hq 1 h rfl).2, ?_⟩
    refine ⟨_, _, _, lk_page ho hM hk (k.toNat / 64 + 2) h (by rw [List.getElem?_cons_succ]; exact tabs_get hq _), ?_⟩
    refine h.al fun w2 h => ?_
    generalize w.heap.size = d2 at h ⊢
    refine h.stLc rfl rfl fun w h => ?_
    cases hl : (look m.pg k).isSome with
    | true =>
      rw [if_pos hl] at hK
      exact cbT rfl (hK w (Own.mk_spc ho hM h.drop.drop))
    | false =>
      rw [if_neg (by rw [hl]; simp)] at hK
      refine cbF rfl ?_
      refine h.dr fun w h => ?_
      refine ⟨_, rfl, _, (cell_p hq 2 h rfl).2, ?_⟩
      refine h.lc_2 rfl (Go.Vc.a2 ?_)
      rw [ht]
      refine h.mput (v := p) (M := M (k.toNat / 64)) (m := mb (k.toNat / 64)) (enc := Value.int .i64) (encV := pgV) Try.underlying94 (keyOk_int .i64 Try.underlying3) (k.toNat / 64 + 3) ?_ fun w h => ?_
      · rw [List.getElem?_cons_succ, List.getElem?_cons_succ, tabs_get hq]; unfold tabA; rw [if_pos hs]
      · rw [List.set_cons_succ, List.set_cons_succ, put_tab hq hs] at h
        refine hK w (Own.mk_spc (ho.ins hk hs p) (perm_ins ho hM k p) h.drop.drop)
theorem Rights_spec {k r : Int} {K : Int → World → Prop} (h : Own B w0 w (SpcA b m :: R)) (hK : ∀ w', Own B w0 w' (SpcA b (m.rightsR k r).2 :: R) → K (m.rightsR k r).1 w') : C.tables_Space_Rights (some ⟨b, 0, none⟩) k r K w := by
  apply S.tables_Space_Rights_ok
  unfold S.tables_Space_Rights
  unfold Spc.rightsR at hK
  intro k4 hk4
  have bad : ¬ (0 ≤ k ∧ k < 4096 ∧ 0 ≤ r ∧ r ≤ 7) → k4 true w := fun e => by
    rw [if_pos e] at hK; exact hk4 _ _ (cbT rfl (hK w h))
  refine page_spec ?_
  by_cases hk : 0 ≤ k ∧ k < 4096
  case neg => rw [decide_eq_false hk]; exact cbT rfl (bad fun hh => hk ⟨hh.1, hh.2.1⟩)
  rw [decide_eq_true hk]
  refine cbF rfl (rights_spec ?_)
  by_cases hr : 0 ≤ r ∧ r ≤ 7
  case neg => rw [decide_eq_false hr]; exact bad fun hh => hr hh.2.2
  rw [decide_eq_true hr]
  rw [if_neg (fun hh => hh ⟨hk.1, hk.2, hr.1, hr.2⟩)] at hK
  have hq : k.toNat / 64 < 64 := by omega
  refine hk4 _ _ (cbF rfl ?_)
  refine Walk_spec h fun w h => ?_
  refine h.al fun w2 h => ?_
  generalize w.heap.size = d2 at h ⊢
  refine h.stLc rfl rfl fun w h => ?_
  cases hl : look m.pg k with
  | none =>
    rw [hl] at hK
    exact cbT rfl (hK w h.drop)
  | some p =>
    rw [hl] at hK
    refine cbF rfl ?_
    (dsimp only [putAt, List.set_cons_zero, List.set_cons_succ] at h)
    have h : Own B w0 w (SpcA b m :: BlkA d2 [.int .i64 p.1, .int .i64 p.2] :: R) := by rw [hl] at h; exact h.up1
    obtain ⟨mb, M, ho, hM, h⟩ := h.spc
    obtain ⟨_, _, hs⟩ := ho.tab hl
    have h2 : Own B w0 w (BlkA d2 [.int .i64 p.1, .int .i64 p.2] :: BlkA b ((tcs m.tb mb).flatMap tcE.enc) :: ((List.range 64).map (tabA m.tb mb M) ++ R)) := by
      refine h.perm ?_
      have := (List.perm_middle (a := BlkA d2 [.int .i64 p.1, .int .i64 p.2]) (l₁ := BlkA b ((tcs m.tb mb).flatMap tcE.enc) :: (List.range 64).map (tabA m.tb mb M)) (l₂ := R))
      simpa using this
    refine of_spec (mb := mb) (m := m) hk 1 h2 rfl fun w h => ?_
    refine h.std rfl rfl fun w h => ?_
    (dsimp only [putAt, List.set_cons_zero, List.set_cons_succ] at h)
    refine h.dr fun w h => ?_
    refine ⟨_, rfl, _, (cell_p hq 1 h rfl).2, ?_⟩
    refine h.lc_2 rfl (Go.Vc.a2 ?_)
    obtain ⟨v, ht⟩ := Option.isSome_iff_exists.1 hs
    rw [ht]
    refine h.mput (v := (p.1, r)) (M := M (k.toNat / 64)) (m := mb (k.toNat / 64)) (enc := Value.int .i64) (encV := pgV) Try.underlying94 (keyOk_int .i64 Try.underlying3) (k.toNat / 64 + 2) ?_ fun w h => ?_
    · rw [List.getElem?_cons_succ, tabs_get hq]; unfold tabA; rw [if_pos hs]
    · rw [List.set_cons_succ, put_tab hq hs] at h
      exact hK w (Own.mk_spc (ho.ins hk hs _) (perm_ins ho hM k _) h.drop)
theorem Unmap_spec {k : Int} {K : Int → Int → Int → World → Prop} (h : Own B w0 w (SpcA b m :: R)) (hK : ∀ w', Own B w0 w' (SpcA b (m.unmapR k).2.2 :: R) → K (m.unmapR k).1.1 (m.unmapR k).1.2 (m.unmapR k).2.1 w') : C.tables_Space_Unmap (some ⟨b, 0, none⟩) k K w := by
  apply S.tables_Space_Unmap_ok
  unfold S.tables_Space_Unmap
  unfold Spc.unmapR at hK
  refine h.al fun w1 h => ?_
  generalize w.heap.size = d at h ⊢
  refine page_spec ?_
  by_cases hk : 0 ≤ k ∧ k < 4096
  case neg =>
    rw [decide_eq_false hk]
    rw [if_pos hk] at hK
    refine cbT rfl ?_
    refine h.stLc rfl rfl fun w h => ?_
    refine h.lc_2 rfl ?_
    exact hK w h.drop
  rw [decide_eq_true hk]
  rw [if_neg (fun hh => hh hk)] at hK
  have hq : k.toNat / 64 < 64 := by omega
  refine cbF rfl ?_
  refine Walk_spec (h.up1 : Own B w0 w1 (SpcA b m :: BlkA d _ :: R)) fun w h => ?_
  refine h.al fun w2 h => ?_
  generalize w.heap.size = d2 at h ⊢
  refine h.stLc rfl rfl fun w h => ?_
  (dsimp only [putAt, List.set_cons_zero, List.set_cons_succ] at h)
  cases hl : look m.pg k with
  | none =>
    rw [hl] at hK
    refine cbT rfl ?_
    refine h.stLc rfl rfl fun w h => ?_
    refine h.lc_2 rfl ?_
    exact hK w h.sub
  | some p =>
    rw [hl] at hK
    refine cbF rfl ?_
    have h : Own B w0 w (BlkA d2 [.int .i64 p.1, .int .i64 p.2] :: SpcA b m :: BlkA d [.int .i64 0, .int .i64 0] :: R) := by rw [hl] at h; exact h
    have h : Own B w0 w (SpcA b m :: BlkA d2 [.int .i64 p.1, .int .i64 p.2] :: BlkA d [.int .i64 0, .int .i64 0] :: R) := h.up1
    obtain ⟨mb, M, ho, hM, h⟩ := h.spc
    obtain ⟨_, _, hs⟩ := ho.tab hl
    have h2 : Own B w0 w (BlkA d2 [.int .i64 p.1, .int .i64 p.2] :: BlkA d [.int .i64 0, .int .i64 0] :: BlkA b ((tcs m.tb mb).flatMap tcE.enc) :: ((List.range 64).map (tabA m.tb mb M) ++ R)) := by
      refine h.perm ?_
      have p1 := (List.perm_middle (a := BlkA d2 [.int .i64 p.1, .int .i64 p.2]) (l₁ := BlkA b ((tcs m.tb mb).flatMap tcE.enc) :: (List.range 64).map (tabA m.tb mb M)) (l₂ := BlkA d [.int .i64 0, .int .i64 0] :: R))
      have p2 := (List.perm_middle (a := BlkA d [.int .i64 0, .int .i64 0]) (l₁ := BlkA b ((tcs m.tb mb).flatMap tcE.enc) :: (List.range 64).map (tabA m.tb mb M)) (l₂ := R))
      have := p1.trans (p2.cons _)
      simpa using this
    refine of_spec (mb := mb) (m := m) hk 2 h2 rfl fun w h => ?_
    refine ⟨_, rfl, _, (cell_p hq 2 h rfl).2, ?_⟩
    obtain ⟨v, ht⟩ := Option.isSome_iff_exists.1 hs
    rw [ht]
    refine h.mdel (k := k) (M := M (k.toNat / 64)) (m := mb (k.toNat / 64)) (enc := Value.int .i64) (encV := pgV) Try.underlying94 (keyOk_int .i64 Try.underlying3) (k.toNat / 64 + 3) ?_ fun w h => ?_
    · rw [List.getElem?_cons_succ, List.getElem?_cons_succ, tabs_get hq]; unfold tabA; rw [if_pos hs]
    · rw [List.set_cons_succ, List.set_cons_succ, put_tab hq hs] at h
      refine h.lc_2 rfl ?_
      have h := h.up1
      refine h.stLc rfl rfl fun w h => ?_
      refine h.lc_2 rfl ?_
      exact hK w (Own.mk_spc (m := ⟨m.tb, delS m.pg k⟩) ⟨ho.srt.filter _, fun x hx => ho.bnd x (List.mem_filter.1 hx).1, ho.few⟩ (perm_del ho hM k) h.drop.drop)
end
end Go.Proofs.Ytmfbhjfkagnahaa
