/- Tables of layer 14: the document's Drop; a copy. -/
import Derived.Test.YtmfbhjfkagnahaaP14b
import Derived.Test.YtmfbhjfkagnahaaS3
import Derived.Test.YtmfbhjfkagnahaaS4
set_option linter.unusedVariables false
set_option linter.unusedSimpArgs false
set_option maxRecDepth 8000
namespace Go.Proofs.Ytmfbhjfkagnahaa
open Go Go.Vc Go.Proofs Go.Shelf

section
variable {B : Nat} {w0 w : World} {R L : List Asn} {b : Nat} {m : Spc} {T : Tbs} {P : Pgs}
theorem ldTab {w : World} {a : Addr} {x : Int × Int} {f : Int → Int → Prop} (g : ∀ c v, (tabE.enc x)[c]? = some v → w.cell? (a.add c) = some v) (hf : f x.1 x.2) : LdL w a 0 [.i .i64, .i .i64] f :=
  ⟨_, g 0 _ rfl, _, g 1 _ rfl, hf⟩
theorem rDrop_spec {i : Int} {K : Sl → Int → World → Prop} (h : Own B w0 w (RspA b m :: R)) (hK : ∀ s w', Own B w0 w' (SlT laidE s (m.dropR i).1 :: RspA b (m.dropR i).2.2 :: R) → K s (m.dropR i).2.1 w') : C.ref14_Space_Drop (some ⟨b, 0, none⟩) i K w := by
  apply S.ref14_Space_Drop_ok
  unfold S.ref14_Space_Drop
  have ho : SOk m := by obtain ⟨_, _, _, _, hr, _⟩ := h.rsp; exact hr.ok
  have hok := ho.drop i
  have hkl := ho.keylen
  unfold Spc.dropR at hK hok
  intro k3 hk3
  have bad : ¬ (0 ≤ i ∧ i < 64) → k3 true w := fun e => by
    rw [if_pos e] at hK; exact hk3 _ _ (cbT rfl (hK _ w (Own.nilS h)))
  refine cdec (fun e => bad fun hh => by omega) (fun e1 => ?_)
  by_cases e2 : i > 63
  · rw [decide_eq_true e2]; exact bad fun hh => by omega
  rw [decide_eq_false e2]
  rw [if_neg (fun hh => hh ⟨by omega, by omega⟩)] at hK hok
  refine hk3 _ _ (cbF rfl ?_)
  refine rHas_spec h ?_
  have eat : m.at i = m.tb i.toNat := by unfold Spc.at; rw [if_neg (by omega)]
  rw [eat]
  cases ht : m.tb i.toNat with
  | none =>
    rw [if_pos ht] at hK
    exact cbT rfl (hK _ w (Own.nilS h))
  | some v0 =>
    rw [if_neg (by rw [ht]; simp)] at hK hok
    refine cbF rfl ?_
    refine rPages_spec h fun s9 w h => ?_
    have hl9 := h.lenc s9
    refine h.al fun w2 h => ?_
    generalize w.heap.size = d1 at h ⊢
    have h : Own B w0 w2 (SlT laidE ⟨some ⟨d1, 0, none⟩, 0, 0⟩ [] :: _) := Own.empty h
    refine h.al fun w3 h => ?_
    generalize w2.heap.size = d2 at h ⊢
    have h : Own B w0 w3 (SlT laidE ⟨some ⟨d2, 0, none⟩, 0, 0⟩ [] :: _) := Own.empty h
    refine h.al fun w4 h => ?_
    generalize w3.heap.size = d3 at h ⊢
    have h : Own B w0 w4 (SlT tabE ⟨some ⟨d3, 0, none⟩, 0, 0⟩ [] :: _) := Own.empty h
    have h : Own B w0 w4 (RspA b m :: SlT tabE ⟨some ⟨d3, 0, none⟩, 0, 0⟩ [] :: SlT laidE ⟨some ⟨d2, 0, none⟩, 0, 0⟩ [] :: SlT laidE ⟨some ⟨d1, 0, none⟩, 0, 0⟩ [] :: SlT laidE s9 m.pg :: R) := h.sub
    obtain ⟨sT, sP, T, P, hr, h⟩ := h.rsp
    have hlT := h.lenc sT
    have htl := hr.tlen
    intro l14 hl14
    have loop : ∀ (j q : Nat) (out rest : Sl) (w : World), q + j = m.pg.length → Own B w0 w (SlT laidE out (tabP (m.pg.take q) i.toNat) :: SlT laidE rest ((m.pg.take q).filter fun x => x.1.toNat / 64 != i.toNat) :: SlT laidE s9 m.pg :: BlkA b [slV sT, slV sP] :: SlT tabE sT T :: SlT tabE ⟨some ⟨d3, 0, none⟩, 0, 0⟩ [] :: SlT laidE sP P :: R) → l14 out rest (q : Int) w := by
      intro j
      induction j with
      | zero =>
        intro q out rest w hq h
        apply hl14
        refine cdecF (by omega) ?_
        rw [List.take_of_length_le (by omega)] at h
        intro l35 hl35
        have loop2 : ∀ (j k : Nat) (tabs : Sl) (w : World), k + j = T.length → Own B w0 w (SlT tabE tabs ((T.take k).filter fun x => x.1 != i) :: SlT laidE out (tabP m.pg i.toNat) :: SlT laidE rest (m.pg.filter fun x => x.1.toNat / 64 != i.toNat) :: BlkA b [slV sT, slV sP] :: SlT tabE sT T :: SlT laidE sP P :: R) → l35 tabs (k : Int) w := by
          intro j
          induction j with
          | zero =>
            intro k tabs w hk h
            apply hl35
            rw [List.take_of_length_le (by omega)] at h
            refine ⟨_, rfl, sT, h.ldc rfl, cdecF (by omega) ⟨_, rfl, ?_⟩⟩
            refine h.std rfl rfl fun w h => ?_
            (dsimp only [putAt, List.set_cons_zero, List.set_cons_succ] at h)
            refine ⟨_, rfl, ?_⟩
            refine h.stc rfl rfl fun w h => ?_
            (dsimp only [putAt, List.set_cons_zero, List.set_cons_succ] at h)
            have h2 : Own B w0 w (BlkA b [.slice tabs.a tabs.len tabs.cap, .slice rest.a rest.len rest.cap] :: SlT tabE tabs (T.filter fun x => x.1 != i) :: SlT laidE rest (m.pg.filter fun x => x.1.toNat / 64 != i.toNat) :: SlT laidE out (tabP m.pg i.toNat) :: R) := h.sub
            have h3 : Own B w0 w (RspA b ⟨upT m.tb i.toNat none, m.pg.filter fun x => x.1.toNat / 64 != i.toNat⟩ :: SlT laidE out (tabP m.pg i.toNat) :: R) := Own.mk_rsp (m := ⟨upT m.tb i.toNat none, m.pg.filter fun x => x.1.toNat / 64 != i.toNat⟩) (sT := tabs) (sP := rest) ⟨hok, List.Perm.refl _, hr.nd.sublist (List.filter_sublist.map _), fun j n => ?_⟩ h2
            · exact hK out w h3.up1
            · have e9 := at_up (m := m) (j := j) (v := none) (show 0 ≤ i by omega)
              have e10 : (⟨upT m.tb i.toNat none, m.pg.filter fun x => x.1.toNat / 64 != i.toNat⟩ : Spc).at j = (⟨upT m.tb i.toNat none, m.pg⟩ : Spc).at j := rfl
              rw [e10, e9, List.mem_filter, hr.tb]
              by_cases e : j = i
              · rw [if_pos e]; simp [e]
              · rw [if_neg e]; simp [e]
          | succ j ih2 =>
            intro k tabs w hk h
            apply hl35
            have hx : T[k]? = some T[k] := List.getElem?_eq_getElem (by omega)
            have et : T.take (k + 1) = T.take k ++ [T[k]] := by rw [List.take_add_one, hx]; rfl
            have ek : IntKind.i64.wrap ((k : Int) + 1) = ((k + 1 : Nat) : Int) := by rw [wr (by omega) (by omega)]; omega
            refine ⟨_, rfl, sT, h.ldc rfl, cdecT (by omega) ⟨_, rfl, sT, h.ldc rfl, ?_⟩⟩
            rw [ek]
            refine h.ixc (s := sT) (i := (k : Int)) (j := k) rfl hx fun a ha h0 hc => ⟨_, h0 _ rfl, ?_⟩
            refine cne (fun e => ?_) (fun e => ?_)
            · refine ⟨_, rfl, sT, h.ldc rfl, ?_⟩
              refine h.ixc (s := sT) (i := (k : Int)) (j := k) rfl hx fun a ha h0 hc => ldTab hc ?_
              refine h.al fun w4 h => ?_
              generalize w.heap.size = d4 at h ⊢
              refine app1_tab (s := tabs) (ys := (T.take k).filter fun x => x.1 != i) (y := T[k]) h (by have := List.length_filter_le (fun x : Int × Int => x.1 != i) (T.take k); rw [List.length_take] at this; omega) fun s' w hs' h => ?_
              refine ih2 (k + 1) s' w (by omega) ?_
              rw [et, List.filter_append, List.filter_cons, if_pos (by simpa using e), List.filter_nil]
              exact h
            · refine ih2 (k + 1) tabs w (by omega) ?_
              rw [et, List.filter_append, List.filter_cons, if_neg (by simpa using e), List.filter_nil, List.append_nil]
              exact h
        refine loop2 T.length 0 ⟨some ⟨d3, 0, none⟩, 0, 0⟩ w (by omega) ?_
        rw [List.take_zero, List.filter_nil]
        exact h.sub
      | succ j ihj =>
        intro q out rest w hq h
        apply hl14
        refine cdecT (by omega) ?_
        have hx : m.pg[q]? = some m.pg[q] := List.getElem?_eq_getElem (by omega)
        have hb := ho.bnd m.pg[q] (List.getElem_mem _)
        have et : m.pg.take (q + 1) = m.pg.take q ++ [m.pg[q]] := by rw [List.take_add_one, hx]; rfl
        refine h.ixc (s := s9) (i := (q : Int)) (j := q) rfl hx fun a ha h0 hc => ⟨_, h0 _ rfl, by decide, ?_⟩
        rw [divk hb.1 hb.2.1, show IntKind.i64.wrap ((q : Int) + 1) = ((q + 1 : Nat) : Int) from by rw [wr (by omega) (by omega)]; omega]
        refine ceq (fun e => ?_) (fun e => ?_)
        · refine h.ixc (s := s9) (i := (q : Int)) (j := q) rfl hx fun a ha h0 hc => ldLaid hc ?_
          refine h.al fun w2 h => ?_
          generalize w.heap.size = d at h ⊢
          refine app1_laid (s := out) (ys := tabP (m.pg.take q) i.toNat) (y := m.pg[q]) h (by have := List.length_filter_le (fun x : Int × Pg => x.1.toNat / 64 == i.toNat) (m.pg.take q); rw [List.length_take] at this; unfold tabP; omega) fun s' w hs' h => ?_
          refine ihj (q + 1) s' rest w (by omega) ?_
          have e4 : tabP (m.pg.take (q + 1)) i.toNat = tabP (m.pg.take q) i.toNat ++ [m.pg[q]] := by
            rw [et]; unfold tabP; rw [List.filter_append, List.filter_cons, if_pos (by simp; omega)]; rfl
          have e5 : ((m.pg.take (q + 1)).filter fun x => x.1.toNat / 64 != i.toNat) = (m.pg.take q).filter fun x => x.1.toNat / 64 != i.toNat := by
            rw [et, List.filter_append, List.filter_cons, if_neg (by simp; omega)]; simp
          rw [e4, e5]; exact h
        · refine h.ixc (s := s9) (i := (q : Int)) (j := q) rfl hx fun a ha h0 hc => ldLaid hc ?_
          refine h.al fun w2 h => ?_
          generalize w.heap.size = d at h ⊢
          refine app1_laid (s := rest) (ys := (m.pg.take q).filter fun x => x.1.toNat / 64 != i.toNat) (y := m.pg[q]) h (by have := List.length_filter_le (fun x : Int × Pg => x.1.toNat / 64 != i.toNat) (m.pg.take q); rw [List.length_take] at this; omega) fun s' w hs' h => ?_
          refine ihj (q + 1) out s' w (by omega) ?_
          have e4 : tabP (m.pg.take (q + 1)) i.toNat = tabP (m.pg.take q) i.toNat := by
            rw [et]; unfold tabP; rw [List.filter_append, List.filter_cons, if_neg (by simp; omega)]; simp
          have e5 : ((m.pg.take (q + 1)).filter fun x => x.1.toNat / 64 != i.toNat) = ((m.pg.take q).filter fun x => x.1.toNat / 64 != i.toNat) ++ [m.pg[q]] := by
            rw [et, List.filter_append, List.filter_cons, if_pos (by simp; omega)]; rfl
          rw [e4, e5]; exact h.sub
    refine loop m.pg.length 0 ⟨some ⟨d1, 0, none⟩, 0, 0⟩ ⟨some ⟨d2, 0, none⟩, 0, 0⟩ w4 (by omega) ?_
    rw [List.take_zero, List.filter_nil, show tabP ([] : Pgs) i.toNat = [] from rfl]
    exact h.sub
def tbU (tb : Nat → Option Int) (t : Nat) : Nat → Option Int := fun j => if j < t then tb j else none
theorem tbU_next {tb : Nat → Option Int} {t : Nat} : upT (tbU tb t) t (tb t) = tbU tb (t + 1) := by
  funext j
  unfold upT tbU
  by_cases e : j = t
  · rw [if_pos e, if_pos (by omega), e]
  · rw [if_neg e]
    by_cases e2 : j < t
    · rw [if_pos e2, if_pos (by omega)]
    · rw [if_neg e2, if_neg (by omega)]
theorem Copy_spec {K : Option Addr → World → Prop} (h : Own B w0 w (SpcA b m :: R)) (hK : ∀ b' w', Own B w0 w' (SpcA b' m :: SpcA b m :: R) → K (some ⟨b', 0, none⟩) w') : C.tables_Space_Copy (some ⟨b, 0, none⟩) K w := by
  apply S.tables_Space_Copy_ok
  unfold S.tables_Space_Copy
  obtain ⟨mb, M, ho, hM, h⟩ := h.spc
  refine h.al fun w1 h => ?_
  generalize w.heap.size = d at h ⊢
  refine ⟨_, rfl, ⟨(tcs m.tb mb).flatMap tcE.enc⟩, flat_tc, fun i hi => ?_, ?_⟩
  · have hb := h.blk 1 rfl
    rw [add_mk, hb.cell, Nat.zero_add]; simp
  have h : Own B w0 w1 (BlkA d ((tcs (tbU m.tb 0) fun _ => 0).flatMap tcE.enc) :: ((List.range 64).map (tabA (tbU m.tb 0) (fun _ => 0) M) ++ (BlkA b ((tcs m.tb mb).flatMap tcE.enc) :: ((List.range 64).map (tabA m.tb mb M) ++ R)))) := by
    have e : (List.range 64).map (tabA (tbU m.tb 0) (fun _ => 0) M) = List.replicate 64 (PureA True) := rfl
    rw [e]
    have pures : ∀ (n : Nat) (A : Asn) (R : List Asn), Own B w0 w1 (A :: R) → Own B w0 w1 (A :: (List.replicate n (PureA True) ++ R)) := fun n => by
      induction n with
      | zero => intro A R h; exact h
      | succ n ih =>
        intro A R h
        have h2 : Own B w0 w1 (PureA True :: A :: (List.replicate n (PureA True) ++ R)) := Own.mk_pure trivial (ih A R h)
        exact h2.perm (List.Perm.swap _ _ _)
    exact pures 64 _ _ h
  intro l6 hl6
  have loop : ∀ (k t : Nat) (mb2 : Nat → Nat) (w : World), t + k = 64 → Own B w0 w (BlkA d ((tcs (tbU m.tb t) mb2).flatMap tcE.enc) :: ((List.range 64).map (tabA (tbU m.tb t) mb2 M) ++ (BlkA b ((tcs m.tb mb).flatMap tcE.enc) :: ((List.range 64).map (tabA m.tb mb M) ++ R)))) → l6 (t : Int) w := by
    intro k
    induction k with
    | zero =>
      intro t mb2 w ht h
      obtain rfl : t = 64 := by omega
      apply hl6
      refine cdecF (by omega) ?_
      have e : tbU m.tb 64 = m.tb := by
        funext j
        unfold tbU
        by_cases e : j < 64
        · rw [if_pos e]
        · rw [if_neg e]
          cases e2 : m.tb j with
          | none => rfl
          | some v => have := ho.few j (by rw [e2]; rfl); omega
      rw [e] at h
      have p1 : List.Perm (BlkA d ((tcs m.tb mb2).flatMap tcE.enc) :: ((List.range 64).map (tabA m.tb mb2 M) ++ (BlkA b ((tcs m.tb mb).flatMap tcE.enc) :: ((List.range 64).map (tabA m.tb mb M) ++ R)))) (BlkA b ((tcs m.tb mb).flatMap tcE.enc) :: ((List.range 64).map (tabA m.tb mb M) ++ (BlkA d ((tcs m.tb mb2).flatMap tcE.enc) :: ((List.range 64).map (tabA m.tb mb2 M) ++ R)))) :=
        List.perm_append_comm_assoc (BlkA d ((tcs m.tb mb2).flatMap tcE.enc) :: (List.range 64).map (tabA m.tb mb2 M)) (BlkA b ((tcs m.tb mb).flatMap tcE.enc) :: (List.range 64).map (tabA m.tb mb M)) R
      have h2 : Own B w0 w (SpcA b m :: (BlkA d ((tcs m.tb mb2).flatMap tcE.enc) :: ((List.range 64).map (tabA m.tb mb2 M) ++ R))) := Own.mk_spc ho hM (h.perm p1)
      have h3 : Own B w0 w (BlkA d ((tcs m.tb mb2).flatMap tcE.enc) :: ((List.range 64).map (tabA m.tb mb2 M) ++ (SpcA b m :: R))) := by
        refine h2.perm ?_
        exact (List.perm_middle (a := SpcA b m) (l₁ := BlkA d ((tcs m.tb mb2).flatMap tcE.enc) :: (List.range 64).map (tabA m.tb mb2 M)) (l₂ := R)).symm
      exact hK d w (Own.mk_spc ho hM h3)
    | succ k ih =>
      intro t mb2 w ht h
      apply hl6
      have htq : t < 64 := by omega
      refine cdecT (by omega) ⟨by omega, by omega, (m.tb t).getD 0, ?_, (m.tb t).map fun _ => mb t, ?_, ?_⟩
      · rw [Int.toNat_natCast, Nat.add_zero]
        simpa using tcell_n (tb := m.tb) (mb := mb) htq
      · rw [Int.toNat_natCast]
        simpa using tcell_p (tb := m.tb) (mb := mb) htq
      refine h.al fun w2 h => ?_
      generalize w.heap.size = g at h ⊢
      refine h.stLc rfl rfl fun w h => ?_
      (dsimp only [putAt, List.set_cons_zero, List.set_cons_succ] at h)
      refine h.dr fun w h => ?_
      refine ⟨_, h.ldd rfl, _, rfl, _, h.ldc rfl, Go.Vc.a2 ?_⟩
      have et : IntKind.i64.wrap ((t : Int) + 1) = ((t + 1 : Nat) : Int) := by rw [wr (by omega) (by omega)]; omega
      have ht0 : tbU m.tb t t = none := by unfold tbU; rw [if_neg (by omega)]
      have hpure : tabA (tbU m.tb t) mb2 M t = PureA True := by unfold tabA; rw [if_neg (by rw [ht0]; simp)]
      have hble : Nat.ble (t * 2 + 2) ((tcs (tbU m.tb t) mb2).flatMap tcE.enc).length = true := by
        apply Nat.ble_eq_true_of_le
        rw [flat_tc]; omega
      have tabsEq : ∀ (r : Nat) (A : Asn), A = tabA (tbU m.tb (t + 1)) (fun j => if j = t then r else mb2 j) M t → ∀ j, j < 64 → tabA (tbU m.tb (t + 1)) (fun j => if j = t then r else mb2 j) M j = if j = t then A else tabA (tbU m.tb t) mb2 M j := fun r A hA j hj => by
        by_cases e : j = t
        · rw [if_pos e, hA, e]
        · rw [if_neg e]
          have e1 : tbU m.tb (t + 1) j = tbU m.tb t j := by
            unfold tbU
            by_cases e2 : j < t
            · rw [if_pos e2, if_pos (by omega)]
            · rw [if_neg e2, if_neg (by omega)]
          unfold tabA
          rw [e1]
          simp only [if_neg e]
      cases htb : m.tb t with
      | none =>
        refine Clone_nil ?_
        refine ⟨h.ldc (by rw [htb]; rfl), by omega, by omega, Go.Vc.a2 ?_⟩
        rw [Int.toNat_natCast, adr]
        refine Own.stL (o := t * 2) h 1 rfl hble rfl fun w h => ?_
        have e1 := put_tc (tb := tbU m.tb t) (mb := mb2) htq none 0
        have e1 : putAt ((tcs (tbU m.tb t) mb2).flatMap tcE.enc) (t * 2) [.int .i64 0, .map none] = _ := e1
        have h2 : Own B w0 w (BlkA d (putAt ((tcs (tbU m.tb t) mb2).flatMap tcE.enc) (t * 2) [.int .i64 0, .map none]) :: ((List.range 64).map (tabA (tbU m.tb t) mb2 M) ++ (BlkA b ((tcs m.tb mb).flatMap tcE.enc) :: ((List.range 64).map (tabA m.tb mb M) ++ R)))) := h.drop
        rw [e1, ← htb, tbU_next] at h2
        rw [et]
        refine ih (t + 1) (fun j => if j = t then 0 else mb2 j) w (by omega) ?_
        have h3 := in_place (X := PureA True) (i := t + 1) (Own.mk_pure trivial h2) (tabs_get htq _)
        rw [tabs_set (g := tabA (tbU m.tb (t + 1)) (fun j => if j = t then 0 else mb2 j) M) htq (tabsEq 0 _ (by unfold tabA tbU; rw [if_neg (by rw [if_pos (by omega), htb]; simp)]))] at h3
        exact h3
      | some v =>
        have hidx : (BlkA g [.int .i64 ((m.tb t).getD 0), .map ((m.tb t).map fun _ => mb t)] :: BlkA d ((tcs (tbU m.tb t) mb2).flatMap tcE.enc) :: ((List.range 64).map (tabA (tbU m.tb t) mb2 M) ++ (BlkA b ((tcs m.tb mb).flatMap tcE.enc) :: ((List.range 64).map (tabA m.tb mb M) ++ R))))[t + 67]? = some (pmA (mb t) (M t)) := by
          rw [List.getElem?_cons_succ, List.getElem?_cons_succ, List.getElem?_append_right (by simp), List.length_map, List.length_range, show t + 65 - 64 = t + 1 from by omega, tabs_get htq]
          unfold tabA
          rw [if_pos (by rw [htb]; rfl)]
        refine Clone_pm (mb := mb t) (M := M t) h (t + 67) hidx fun m' w h => ?_
        refine ⟨h.ldc (by rw [htb]; rfl), by omega, by omega, Go.Vc.a2 ?_⟩
        rw [Int.toNat_natCast, adr]
        refine Own.stL (o := t * 2) h 2 rfl hble rfl fun w h => ?_
        have e1 := put_tc (tb := tbU m.tb t) (mb := mb2) htq (some v) m'
        have h2 : Own B w0 w (pmA m' (M t) :: BlkA g _ :: BlkA d (putAt ((tcs (tbU m.tb t) mb2).flatMap tcE.enc) (t * 2) [.int .i64 ((some v).getD 0), .map (some m')]) :: ((List.range 64).map (tabA (tbU m.tb t) mb2 M) ++ (BlkA b ((tcs m.tb mb).flatMap tcE.enc) :: ((List.range 64).map (tabA m.tb mb M) ++ R)))) := h
        have h2 := h2.rm1
        have e1 : putAt ((tcs (tbU m.tb t) mb2).flatMap tcE.enc) (t * 2) [.int .i64 ((some v).getD 0), .map (some m')] = _ := e1
        rw [e1, ← htb, tbU_next] at h2
        rw [et]
        refine ih (t + 1) (fun j => if j = t then m' else mb2 j) w (by omega) ?_
        have h3 := in_place (X := pmA m' (M t)) (i := t + 1) h2 (tabs_get htq _)
        rw [tabs_set (g := tabA (tbU m.tb (t + 1)) (fun j => if j = t then m' else mb2 j) M) htq (tabsEq m' _ (by unfold tabA tbU; rw [if_pos (by rw [if_pos (by omega), htb]; rfl)]; show pmA m' (M t) = pmA (if t = t then m' else mb2 t) (M t); rw [if_pos rfl]))] at h3
        exact h3
  exact loop 64 0 (fun _ => 0) w1 (by omega) h
end
end Go.Proofs.Ytmfbhjfkagnahaa
