/- The document's answer on tables: its calls. -/
import Derived.Test.YtmfbhjfkagnahaaP14a
import Derived.Test.YtmfbhjfkagnahaaO14
import Derived.Test.YtmfbhjfkagnahaaS3
set_option linter.unusedVariables false
set_option linter.unusedSimpArgs false
set_option maxRecDepth 8000
namespace Go.Proofs.Ytmfbhjfkagnahaa
open Go Go.Vc Go.Proofs Go.Shelf

theorem add11 (a : Addr) : (a.add 1).add 1 = a.add 2 := by unfold Addr.add; simp
theorem aput_at : ∀ {P : Pgs} {k : Nat} {n : Int} {u v : Pg}, (P.map (·.1)).Nodup → P[k]? = some (n, u) → aput P n v = P.set k (n, v) ∧ adel P n = P.eraseIdx k
  | [], k, n, u, v, _, h => by simp at h
  | x :: P, 0, n, u, v, _, h => by
    simp at h; subst h
    simp [aput, adel]
  | x :: P, k + 1, n, u, v, hn, h => by
    rw [List.map_cons, List.nodup_cons] at hn
    have h : P[k]? = some (n, u) := by simpa using h
    have hne : x.1 ≠ n := fun e => hn.1 (List.mem_map.2 ⟨_, List.mem_of_getElem? h, by rw [e]⟩)
    obtain ⟨h1, h2⟩ := aput_at (v := v) hn.2 h
    unfold aput adel
    rw [if_neg hne, if_neg hne, h1, h2]
    exact ⟨rfl, rfl⟩
theorem ins_perm {P : Pgs} (h : Srt P) {n : Int} (v : Pg) (hl : look P n = none) : ((n, v) :: P).Perm (insS P n v) := by
  have hs := ins_srt h n v
  refine (List.perm_ext_iff_of_nodup ?_ (nodup_of_keys hs.nodup)).2 fun x => ?_
  · refine List.nodup_cons.2 ⟨fun hm => look_none.1 hl _ hm rfl, nodup_of_keys h.nodup⟩
  · rw [List.mem_cons, ins_mem h]
    exact ⟨fun e => e.elim .inl fun hx => .inr ⟨hx, look_none.1 hl x hx⟩, fun e => e.elim .inl fun hx => .inr hx.1⟩
section
variable {B : Nat} {w0 w : World} {R L : List Asn} {b : Nat} {m : Spc} {T : Tbs} {P : Pgs}
theorem rWalk_spec {n : Int} {K : Int → Int → Bool → World → Prop} (h : Own B w0 w (RspA b m :: R)) (hK : ∀ w', Own B w0 w' (RspA b m :: R) → K ((look m.pg n).getD (0, 0)).1 ((look m.pg n).getD (0, 0)).2 (look m.pg n).isSome w') : C.ref14_Space_Walk (some ⟨b, 0, none⟩) n K w := by
  apply S.ref14_Space_Walk_ok
  unfold S.ref14_Space_Walk
  refine h.al fun w1 h => ?_
  generalize w.heap.size = d at h ⊢
  have h : Own B w0 w1 (RspA b m :: BlkA d [.int .i64 0, .int .i64 0] :: R) := h.up1
  obtain ⟨sT, sP, T, P, hr, h⟩ := h.rsp
  have hl := h.lenc sP
  refine place_o hr h (fun e => ?_) (fun k v hk e => ?_)
  · rw [e] at hK
    refine cdecT (by decide) ?_
    refine h.stLc rfl rfl fun w h => ?_
    refine h.lc_2 rfl ?_
    have h : Own B w0 w (RspA b m :: BlkA d _ :: R) := Own.mk_rsp hr h
    exact hK w h.rm1
  · rw [e] at hK
    have hlt := (List.getElem?_eq_some_iff.1 hk).1
    refine cdecF (by omega) ⟨_, rfl, sP, h.ldd rfl, ?_⟩
    refine h.ixc (s := sP) (i := (k : Int)) (j := k) rfl hk fun a ha h0 hc => ldLP (x := (n, v)) hc ?_
    refine h.stLc rfl rfl fun w h => ?_
    refine h.lc_2 rfl ?_
    have h : Own B w0 w (RspA b m :: BlkA d _ :: R) := Own.mk_rsp hr h
    exact hK w h.rm1
theorem rMap_spec {k : Int} {p : Pg} {K : Int → World → Prop} (h : Own B w0 w (RspA b m :: R)) (hK : ∀ w', Own B w0 w' (RspA b (m.mapR k p).2 :: R) → K (m.mapR k p).1 w') : C.ref14_Space_Map (some ⟨b, 0, none⟩) k p.1 p.2 K w := by
  apply S.ref14_Space_Map_ok
  unfold S.ref14_Space_Map
  have hok : SOk m := by obtain ⟨_, _, _, _, hr, _⟩ := h.rsp; exact hr.ok
  unfold Spc.mapR at hK
  refine h.al fun w1 h => ?_
  generalize w.heap.size = d at h ⊢
  intro k6 hk6
  have bad : ¬ (0 ≤ k ∧ k < 4096 ∧ 0 ≤ p.1 ∧ 0 ≤ p.2 ∧ p.2 ≤ 7) → k6 true w1 := fun e => by
    rw [if_pos e] at hK; exact hk6 _ _ (cbT rfl (hK w1 h.drop))
  refine cdec (fun e => bad fun hh => by omega) (fun e1 => ?_)
  refine cdec (fun e => bad fun hh => by omega) (fun e2 => ?_)
  refine ⟨_, h.ldc rfl, ?_⟩
  refine cdec (fun e => bad fun hh => by omega) (fun e3 => ?_)
  refine ⟨_, h.ldd rfl, ?_⟩
  refine cdec (fun e => bad fun hh => by omega) (fun e4 => ?_)
  refine ⟨_, h.ldd rfl, ?_⟩
  by_cases e5 : p.2 > 7
  · rw [decide_eq_true e5]; exact bad fun hh => by omega
  rw [decide_eq_false e5]
  have hk : 0 ≤ k ∧ k < 4096 := by omega
  rw [if_neg (fun hh => hh ⟨hk.1, hk.2, by omega, by omega, by omega⟩)] at hK
  refine hk6 _ _ (cbF rfl ⟨by decide, ?_⟩)
  rw [divk hk.1 hk.2]
  have h : Own B w0 w1 (RspA b m :: BlkA d [.int .i64 p.1, .int .i64 p.2] :: R) := h.up1
  refine rHas_spec h ?_
  have eat : m.at ((k.toNat / 64 : Nat) : Int) = m.tb (k.toNat / 64) := by unfold Spc.at; rw [if_neg (by omega), Int.toNat_natCast]
  rw [eat]
  cases ht : m.tb (k.toNat / 64) with
  | none => rw [if_pos ht] at hK; exact cbT rfl (hK w1 h.rm1)
  | some v =>
    have hs : (m.tb (k.toNat / 64)).isSome = true := by rw [ht]; rfl
    rw [if_neg (by rw [ht]; simp)] at hK
    refine cbF rfl ?_
    obtain ⟨sT, sP, T, P, hr, h⟩ := h.rsp
    have hl := h.lenc sP
    have hpl := hr.plen
    refine place_o hr h (fun e => ?_) (fun j v hj e => ?_)
    · rw [if_neg (by rw [e]; simp)] at hK
      refine cdecF (by decide) ?_
      refine h.dr fun w h => ?_
      refine ⟨_, rfl, sP, h.ldd rfl, ?_⟩
      refine h.lc_2 rfl (Go.Vc.a2 ?_)
      refine h.al fun w2 h => ?_
      generalize w.heap.size = d2 at h ⊢
      refine Go.Vc.a2 ?_
      refine app1_laid (s := sP) (ys := P) (y := (k, p)) h (by omega) fun s' w hs' h => ?_
      refine ⟨_, rfl, Go.Vc.a2 ?_⟩
      refine h.std rfl rfl fun w h => ?_
      (dsimp only [putAt, List.set_cons_zero, List.set_cons_succ] at h)
      refine hK w ?_
      have h2 : Own B w0 w (BlkA b [slV sT, .slice s'.a s'.len s'.cap] :: SlT tabE sT T :: SlT laidE s' (P ++ [(k, p)]) :: BlkA d [.int .i64 p.1, .int .i64 p.2] :: R) := h.sub
      have h3 : Own B w0 w (RspA b { m with pg := insS m.pg k p } :: BlkA d [.int .i64 p.1, .int .i64 p.2] :: R) := Own.mk_rsp (m := { m with pg := insS m.pg k p }) (sT := sT) (sP := s') ⟨hok.ins hk hs p, ?_, hr.nd, fun i n => hr.tb i n⟩ h2
      · exact h3.rm1
      · exact (List.perm_append_singleton _ _).trans ((hr.pg.cons _).trans (ins_perm hok.srt p e))
    · rw [if_pos (by rw [e]; rfl)] at hK
      refine cdecT (by omega) ?_
      have h : Own B w0 w1 (RspA b m :: BlkA d _ :: R) := Own.mk_rsp hr h
      exact hK w1 h.rm1
theorem rRights_spec {k r : Int} {K : Int → World → Prop} (h : Own B w0 w (RspA b m :: R)) (hK : ∀ w', Own B w0 w' (RspA b (m.rightsR k r).2 :: R) → K (m.rightsR k r).1 w') : C.ref14_Space_Rights (some ⟨b, 0, none⟩) k r K w := by
  apply S.ref14_Space_Rights_ok
  unfold S.ref14_Space_Rights
  have hok : SOk m := by obtain ⟨_, _, _, _, hr, _⟩ := h.rsp; exact hr.ok
  have hok2 := hok.rights k r
  unfold Spc.rightsR at hK hok2
  intro k4 hk4
  have bad : ¬ (0 ≤ k ∧ k < 4096 ∧ 0 ≤ r ∧ r ≤ 7) → k4 true w := fun e => by
    rw [if_pos e] at hK; exact hk4 _ _ (cbT rfl (hK w h))
  refine cdec (fun e => bad fun hh => by omega) (fun e1 => ?_)
  refine cdec (fun e => bad fun hh => by omega) (fun e2 => ?_)
  refine cdec (fun e => bad fun hh => by omega) (fun e3 => ?_)
  by_cases e4 : r > 7
  · rw [decide_eq_true e4]; exact bad fun hh => by omega
  rw [decide_eq_false e4]
  rw [if_neg (fun hh => hh ⟨by omega, by omega, by omega, by omega⟩)] at hK hok2
  refine hk4 _ _ (cbF rfl ?_)
  obtain ⟨sT, sP, T, P, hr, h⟩ := h.rsp
  have hl := h.lenc sP
  refine place_o hr h (fun e => ?_) (fun j v hj e => ?_)
  · rw [e] at hK
    exact cdecT (by decide) (hK w (Own.mk_rsp hr h))
  · rw [e] at hK hok2
    have hlt := (List.getElem?_eq_some_iff.1 hj).1
    refine cdecF (by omega) ⟨_, rfl, sP, h.ldd rfl, ?_⟩
    refine h.ixc (s := sP) (i := (j : Int)) (j := j) rfl hj fun a ha h0 hc => ?_
    rw [add11]
    refine Own.stFc (s := sP) (E := laidE) (xs := P) (i := (j : Int)) (j := j) (c := 2) (x := (k, v)) h (k, (v.1, r)) rfl hj ha rfl (by decide) rfl fun w h => ?_
    have h2 : Own B w0 w (BlkA b [slV sT, slV sP] :: SlT tabE sT T :: SlT laidE sP (P.set j (k, (v.1, r))) :: R) := h.sub
    refine hK w (Own.mk_rsp (m := { m with pg := insS m.pg k (v.1, r) }) (sT := sT) (sP := sP) ⟨hok2, ?_, hr.nd, fun i n => hr.tb i n⟩ h2)
    have := aput_perm hr.pg hok.srt k (v.1, r)
    rw [(aput_at hr.knd hj).1] at this
    exact this
theorem rUnmap_spec {k : Int} {K : Int → Int → Int → World → Prop} (h : Own B w0 w (RspA b m :: R)) (hK : ∀ w', Own B w0 w' (RspA b (m.unmapR k).2.2 :: R) → K (m.unmapR k).1.1 (m.unmapR k).1.2 (m.unmapR k).2.1 w') : C.ref14_Space_Unmap (some ⟨b, 0, none⟩) k K w := by
  apply S.ref14_Space_Unmap_ok
  unfold S.ref14_Space_Unmap
  have hok : SOk m := by obtain ⟨_, _, _, _, hr, _⟩ := h.rsp; exact hr.ok
  have hok2 := hok.unmap k
  unfold Spc.unmapR at hK hok2
  refine h.al fun w1 h => ?_
  generalize w.heap.size = d at h ⊢
  intro k4 hk4
  have bad : ¬ (0 ≤ k ∧ k < 4096) → k4 true w1 := fun e => by
    rw [if_pos e] at hK
    refine hk4 _ _ (cbT rfl ?_)
    refine h.stLc rfl rfl fun w h => ?_
    refine h.lc_2 rfl ?_
    exact hK w h.drop
  refine cdec (fun e => bad fun hh => by omega) (fun e1 => ?_)
  by_cases e2 : k > 4095
  · rw [decide_eq_true e2]; exact bad fun hh => by omega
  rw [decide_eq_false e2]
  rw [if_neg (fun hh => hh ⟨by omega, by omega⟩)] at hK hok2
  refine hk4 _ _ (cbF rfl ?_)
  have h : Own B w0 w1 (RspA b m :: BlkA d [.int .i64 0, .int .i64 0] :: R) := h.up1
  obtain ⟨sT, sP, T, P, hr, h⟩ := h.rsp
  have hl := h.lenc sP
  have hpl := hr.plen
  refine place_o hr h (fun e => ?_) (fun j v hj e => ?_)
  · rw [e] at hK
    refine h.al fun w2 h => ?_
    generalize w1.heap.size = d2 at h ⊢
    refine cdecT (by decide) ?_
    have h := h.drop
    refine h.stLc rfl rfl fun w h => ?_
    refine h.lc_2 rfl ?_
    have h : Own B w0 w (RspA b m :: BlkA d _ :: R) := Own.mk_rsp hr h
    exact hK w h.rm1
  · rw [e] at hK hok2
    have hlt := (List.getElem?_eq_some_iff.1 hj).1
    refine h.al fun w2 h => ?_
    generalize w1.heap.size = d2 at h ⊢
    refine cdecF (by omega) ⟨_, rfl, sP, h.ldd rfl, ?_⟩
    refine h.ixc (s := sP) (i := (j : Int)) (j := j) rfl hj fun a ha h0 hc => ldLP (x := (k, v)) hc ?_
    have h : Own B w0 w2 (SlT laidE ⟨some ⟨d2, 0, none⟩, 0, 0⟩ [] :: _) := Own.empty h
    refine h.al fun w3 h => ?_
    generalize w2.heap.size = d3 at h ⊢
    refine h.stLc rfl rfl fun w h => ?_
    (dsimp only [putAt, List.set_cons_zero, List.set_cons_succ] at h)
    intro l23 hl23
    have loop : ∀ (q i : Nat) (rest : Sl) (w : World), i + q = P.length → Own B w0 w (SlT laidE rest ((P.take i).eraseIdx j) :: BlkA d3 [.int .i64 v.1, .int .i64 v.2] :: BlkA b [slV sT, slV sP] :: SlT tabE sT T :: SlT laidE sP P :: BlkA d [.int .i64 0, .int .i64 0] :: R) → l23 rest (i : Int) w := by
      intro q
      induction q with
      | zero =>
        intro i rest w hi h
        apply hl23
        rw [List.take_of_length_le (by omega)] at h
        refine ⟨_, rfl, sP, h.ldd rfl, cdecF (by omega) ⟨_, rfl, ?_⟩⟩
        refine h.std rfl rfl fun w h => ?_
        (dsimp only [putAt, List.set_cons_zero, List.set_cons_succ] at h)
        refine h.lc_2 rfl ?_
        refine h.stLc rfl rfl fun w h => ?_
        (dsimp only [putAt, List.set_cons_zero, List.set_cons_succ] at h)
        refine h.lc_2 rfl ?_
        have h2 : Own B w0 w (BlkA b [slV sT, .slice rest.a rest.len rest.cap] :: SlT tabE sT T :: SlT laidE rest (P.eraseIdx j) :: R) := h.sub
        refine hK w (Own.mk_rsp (m := { m with pg := delS m.pg k }) (sT := sT) (sP := rest) ⟨hok2, ?_, hr.nd, fun i n => hr.tb i n⟩ h2)
        have := adel_perm hr.pg hok.srt k
        rw [(aput_at (v := v) hr.knd hj).2] at this
        exact this
      | succ q ih =>
        intro i rest w hi h
        apply hl23
        have hx : P[i]? = some P[i] := List.getElem?_eq_getElem (by omega)
        have et : P.take (i + 1) = P.take i ++ [P[i]] := by rw [List.take_add_one, hx]; rfl
        have ei : IntKind.i64.wrap ((i : Int) + 1) = ((i + 1 : Nat) : Int) := by rw [wr (by omega) (by omega)]; omega
        refine ⟨_, rfl, sP, h.ldd rfl, cdecT (by omega) ?_⟩
        rw [ei]
        refine cne (fun e5 => ?_) (fun e5 => ?_)
        · refine ⟨_, rfl, sP, h.ldd rfl, ?_⟩
          refine h.ixc (s := sP) (i := (i : Int)) (j := i) rfl hx fun a ha h0 hc => ldLaid hc ?_
          refine h.al fun w4 h => ?_
          generalize w.heap.size = d4 at h ⊢
          have hln : ((P.take i).eraseIdx j).length ≤ 4096 := by
            have := List.length_eraseIdx_le (P.take i) j
            rw [List.length_take] at this; omega
          refine app1_laid (s := rest) (ys := (P.take i).eraseIdx j) (y := P[i]) h (by omega) fun s' w hs' h => ?_
          refine ih (i + 1) s' w (by omega) ?_
          have e6 : (P.take (i + 1)).eraseIdx j = (P.take i).eraseIdx j ++ [P[i]] := by
            rw [et]
            by_cases e7 : j < i
            · rw [List.eraseIdx_append_of_lt_length (by rw [List.length_take]; omega)]
            · rw [List.eraseIdx_of_length_le (by rw [List.length_append, List.length_take]; simp; omega), List.eraseIdx_of_length_le (by rw [List.length_take]; omega)]
          rw [e6]; exact h
        · refine ih (i + 1) rest w (by omega) ?_
          have e8 : i = j := by omega
          have e6 : (P.take (i + 1)).eraseIdx j = (P.take i).eraseIdx j := by
            rw [et, ← e8, List.eraseIdx_append_of_length_le (by rw [List.length_take]; omega), List.length_take, Nat.min_eq_left (by omega), Nat.sub_self, List.eraseIdx_of_length_le (show (P.take i).length ≤ i by rw [List.length_take]; omega)]
            simp
          rw [e6]; exact h
    exact loop P.length 0 ⟨some ⟨d2, 0, none⟩, 0, 0⟩ w (by omega) h.up1
/-- All pages, sought one by one. -/
theorem rPages_spec {K : Sl → World → Prop} (h : Own B w0 w (RspA b m :: R)) (hK : ∀ s w', Own B w0 w' (SlT laidE s m.pg :: RspA b m :: R) → K s w') : C.ref14_Space_Pages (some ⟨b, 0, none⟩) K w := by
  apply S.ref14_Space_Pages_ok
  unfold S.ref14_Space_Pages
  obtain ⟨sT, sP, T, P, hr, h⟩ := h.rsp
  have hl := h.lenc sP
  have hpl := hr.plen
  have hpe := hr.pg.length_eq
  refine h.al fun w1 h => ?_
  generalize w.heap.size = d at h ⊢
  have h : Own B w0 w1 (SlT laidE ⟨some ⟨d, 0, none⟩, 0, 0⟩ [] :: _) := Own.empty h
  intro l3 hl3
  have hle : ∀ n : Nat, (m.pg.filter fun x => decide (x.1 < (n : Int))).length ≤ m.pg.length := fun n => List.length_filter_le _ _
  have loop : ∀ (j n : Nat) (out : Sl) (w : World), n + j = 4096 → Own B w0 w (SlT laidE out (m.pg.filter fun x => decide (x.1 < (n : Int))) :: BlkA b [slV sT, slV sP] :: SlT tabE sT T :: SlT laidE sP P :: R) → l3 out (n : Int) w := by
    intro j
    induction j with
    | zero =>
      intro n out w hn h
      apply hl3
      intro k7 hk7
      rw [decide_eq_false (show ¬ (n : Int) < 4096 by omega)]
      refine cbF rfl (hk7 _ _ (cbF rfl ?_))
      have e : (m.pg.filter fun x => decide (x.1 < (n : Int))) = m.pg := List.filter_eq_self.2 fun x hx => by have := hr.ok.bnd x hx; simp; omega
      rw [e] at h
      have h5 : Own B w0 w (RspA b m :: SlT laidE out m.pg :: R) := Own.mk_rsp hr (h.sub : Own B w0 w (BlkA b [slV sT, slV sP] :: SlT tabE sT T :: SlT laidE sP P :: SlT laidE out m.pg :: R))
      exact hK out w h5.up1
    | succ j ih =>
      intro n out w hn h
      apply hl3
      intro k7 hk7
      have hlo := h.lenc out
      rw [decide_eq_true (show (n : Int) < 4096 by omega)]
      refine cbT rfl ⟨_, rfl, sP, h.ldd rfl, ?_⟩
      by_cases hall : (m.pg.filter fun x => decide (x.1 < (n : Int))).length = m.pg.length
      · rw [decide_eq_false (by omega)]
        refine hk7 _ _ (cbF rfl ?_)
        have e : (m.pg.filter fun x => decide (x.1 < (n : Int))) = m.pg := List.Sublist.eq_of_length List.filter_sublist hall
        rw [e] at h
        have h5 : Own B w0 w (RspA b m :: SlT laidE out m.pg :: R) := Own.mk_rsp hr (h.sub : Own B w0 w (BlkA b [slV sT, slV sP] :: SlT tabE sT T :: SlT laidE sP P :: SlT laidE out m.pg :: R))
        exact hK out w h5.up1
      · have hlt := hle n
        rw [decide_eq_true (by omega)]
        refine hk7 _ _ (cbT rfl ?_)
        intro l10 hl10
        have hsm : ∀ k : Nat, ((P.take k).filter fun x => x.1 == (n : Int)).length ≤ P.length := fun k => by
          have := List.length_filter_le (fun x : Int × Pg => x.1 == (n : Int)) (P.take k)
          rw [List.length_take] at this; omega
        have loop2 : ∀ (j k : Nat) (out : Sl) (w : World), k + j = P.length → Own B w0 w (SlT laidE out ((m.pg.filter fun x => decide (x.1 < (n : Int))) ++ ((P.take k).filter fun x => x.1 == (n : Int))) :: BlkA b [slV sT, slV sP] :: SlT tabE sT T :: SlT laidE sP P :: R) → l10 out (k : Int) w := by
          intro j
          induction j with
          | zero =>
            intro k out w hk h
            apply hl10
            refine ⟨_, rfl, sP, h.ldd rfl, cdecF (by omega) ?_⟩
            rw [show IntKind.i64.wrap ((n : Int) + 1) = ((n + 1 : Nat) : Int) from by rw [wr (by omega) (by omega)]; omega]
            refine ih (n + 1) out w (by omega) ?_
            rw [List.take_of_length_le (by omega)] at h
            have e1 : (P.filter fun x => x.1 == (n : Int)) = m.pg.filter fun x => x.1 == (n : Int) := by
              have hp : (P.filter fun x => x.1 == (n : Int)).Perm (m.pg.filter fun x => x.1 == (n : Int)) := hr.pg.filter _
              cases hl : look m.pg (n : Int) with
              | none =>
                have e2 : (m.pg.filter fun x => x.1 == (n : Int)) = [] := List.filter_eq_nil_iff.2 fun x hx => by have := look_none.1 hl x hx; simpa using this
                rw [e2] at hp ⊢
                exact hp.eq_nil
              | some v =>
                have e2 : (m.pg.filter fun x => x.1 == (n : Int)) = [((n : Int), v)] := srt_ext (hr.ok.srt.filter _) (by simp [Srt]) fun x => by
                  rw [List.mem_filter, List.mem_singleton]
                  constructor
                  · rintro ⟨h1, h2⟩
                    exact hr.ok.srt.inj h1 (look_mem hl) (by simpa using h2)
                  · intro h1; rw [h1]; exact ⟨look_mem hl, by simp⟩
                rw [e2] at hp ⊢
                exact hp.eq_singleton
            have e2 : (m.pg.filter fun x => decide (x.1 < ((n + 1 : Nat) : Int))) = (m.pg.filter fun x => decide (x.1 < (n : Int))) ++ (m.pg.filter fun x => x.1 == (n : Int)) := by
              refine srt_ext (hr.ok.srt.filter _) (List.pairwise_append.2 ⟨hr.ok.srt.filter _, hr.ok.srt.filter _, fun x hx y hy => ?_⟩) fun x => ?_
              · obtain ⟨_, h1⟩ := List.mem_filter.1 hx
                obtain ⟨_, h2⟩ := List.mem_filter.1 hy
                simp only [decide_eq_true_eq] at h1
                simp only [beq_iff_eq] at h2
                omega
              · rw [List.mem_append, List.mem_filter, List.mem_filter, List.mem_filter]
                simp only [decide_eq_true_eq, beq_iff_eq]
                constructor
                · rintro ⟨h1, h2⟩
                  by_cases e : x.1 = (n : Int)
                  · exact .inr ⟨h1, e⟩
                  · exact .inl ⟨h1, by omega⟩
                · rintro (h1 | h1)
                  · exact ⟨h1.1, by omega⟩
                  · exact ⟨h1.1, by omega⟩
            rw [e2, ← e1]; exact h
          | succ j ih2 =>
            intro k out w hk h
            apply hl10
            have hx : P[k]? = some P[k] := List.getElem?_eq_getElem (by omega)
            have et : P.take (k + 1) = P.take k ++ [P[k]] := by rw [List.take_add_one, hx]; rfl
            have ek : IntKind.i64.wrap ((k : Int) + 1) = ((k + 1 : Nat) : Int) := by rw [wr (by omega) (by omega)]; omega
            refine ⟨_, rfl, sP, h.ldd rfl, cdecT (by omega) ⟨_, rfl, sP, h.ldd rfl, ?_⟩⟩
            rw [ek]
            refine h.ixc (s := sP) (i := (k : Int)) (j := k) rfl hx fun a ha h0 hc => ⟨_, h0 _ rfl, ?_⟩
            refine ceq (fun e => ?_) (fun e => ?_)
            · refine ⟨_, rfl, sP, h.ldd rfl, ?_⟩
              refine h.ixc (s := sP) (i := (k : Int)) (j := k) rfl hx fun a ha h0 hc => ldLaid hc ?_
              refine h.al fun w4 h => ?_
              generalize w.heap.size = d4 at h ⊢
              have hb := hsm k
              refine app1_laid (s := out) (ys := (m.pg.filter fun x => decide (x.1 < (n : Int))) ++ ((P.take k).filter fun x => x.1 == (n : Int))) (y := P[k]) h (by rw [List.length_append]; omega) fun s' w hs' h => ?_
              refine ih2 (k + 1) s' w (by omega) ?_
              rw [et, List.filter_append, List.filter_cons, if_pos (by simpa using e), List.filter_nil, ← List.append_assoc]
              exact h
            · refine ih2 (k + 1) out w (by omega) ?_
              rw [et, List.filter_append, List.filter_cons, if_neg (by simpa using e), List.filter_nil, List.append_nil]
              exact h
        refine loop2 P.length 0 out w (by omega) ?_
        rw [List.take_zero, List.filter_nil, List.append_nil]
        exact h
  refine loop 4096 0 ⟨some ⟨d, 0, none⟩, 0, 0⟩ w1 (by omega) ?_
  have e : (m.pg.filter fun x => decide (x.1 < ((0 : Nat) : Int))) = [] := List.filter_eq_nil_iff.2 fun x hx => by have := hr.ok.bnd x hx; simp; omega
  rw [e]; exact h
theorem rFrames_spec {f : Int} {K : Sl → World → Prop} (h : Own B w0 w (RspA b m :: R)) (hK : ∀ s w', Own B w0 w' (SlT intE s (framesP m.pg f) :: RspA b m :: R) → K s w') : C.ref14_Space_Frames (some ⟨b, 0, none⟩) f K w := by
  apply S.ref14_Space_Frames_ok
  unfold S.ref14_Space_Frames
  have ho : SOk m := by obtain ⟨_, _, _, _, hr, _⟩ := h.rsp; exact hr.ok
  have hlen := ho.keylen
  refine rPages_spec h fun s w h => ?_
  have hl := h.lenc s
  refine h.al fun w2 h => ?_
  generalize w.heap.size = d at h ⊢
  have h : Own B w0 w2 (SlT intE ⟨some ⟨d, 0, none⟩, 0, 0⟩ [] :: _) := Own.empty h
  intro l5 hl5
  have loop : ∀ (k t : Nat) (out : Sl) (w : World), t + k = m.pg.length → Own B w0 w (SlT intE out (framesP (m.pg.take t) f) :: SlT laidE s m.pg :: RspA b m :: R) → l5 out (t : Int) w := by
    intro k
    induction k with
    | zero =>
      intro t out w ht h
      apply hl5
      refine cdecF (by omega) ?_
      rw [List.take_of_length_le (by omega)] at h
      exact hK out w h.rm1
    | succ k ih =>
      intro t out w ht h
      apply hl5
      refine cdecT (by omega) ?_
      have hx : m.pg[t]? = some m.pg[t] := List.getElem?_eq_getElem (by omega)
      have e : framesP (m.pg.take (t + 1)) f = framesP (m.pg.take t) f ++ (if m.pg[t].2.1 = f then [m.pg[t].1] else []) := by
        unfold framesP
        rw [List.take_add_one, hx, Option.toList_some, List.filter_append, List.map_append]
        congr 1
        by_cases e : m.pg[t].2.1 = f
        · rw [if_pos e, List.filter_cons, if_pos (by simpa using e)]; rfl
        · rw [if_neg e, List.filter_cons, if_neg (by simpa using e)]; rfl
      rw [show IntKind.i64.wrap ((t : Int) + 1) = ((t + 1 : Nat) : Int) from by rw [wr (by omega) (by omega)]; omega]
      refine h.ixc (s := s) (i := (t : Int)) (j := t) rfl hx fun a ha h0 hc => ⟨_, hc 1 _ rfl, ?_⟩
      refine ceq (fun e2 => ?_) (fun e2 => ?_)
      · rw [if_pos e2] at e
        refine h.ixc (s := s) (i := (t : Int)) (j := t) rfl hx fun a ha h0 hc => ⟨_, h0 _ rfl, ?_⟩
        refine h.al fun w3 h => ?_
        generalize w.heap.size = d3 at h ⊢
        refine app1_int (s := out) (ys := framesP (m.pg.take t) f) (y := m.pg[t].1) h (by unfold framesP; rw [List.length_map]; have := List.length_filter_le (fun x : Int × Pg => x.2.1 == f) (m.pg.take t); rw [List.length_take] at this; omega) fun s' w hs' h => ?_
        refine ih (t + 1) s' w (by omega) ?_
        rw [e]
        exact h
      · rw [if_neg e2, List.append_nil] at e
        refine ih (t + 1) out w (by omega) ?_
        rw [e]
        exact h
  exact loop m.pg.length 0 ⟨some ⟨d, 0, none⟩, 0, 0⟩ w2 (by omega) h
end
end Go.Proofs.Ytmfbhjfkagnahaa
