/- Laws of layer 7: who is under whom; what is taken out. -/
import Derived.Test.YtmfbhjfkagnahaaK7
import Derived.Test.YtmfbhjfkagnahaaS0
set_option linter.unusedVariables false
set_option linter.unusedSimpArgs false
set_option maxRecDepth 8000
namespace Go.Proofs.Ytmfbhjfkagnahaa
open Go Go.Vc Go.Proofs

theorem out_get {T : Tr} {j e : Nat} (hj : j < T.length) (he : j < e) (hel : e ≤ T.length) :
    (∀ r, r < j → (T.take j ++ (lift1 ((T.drop (j + 1)).take (e - (j + 1))) ++ T.drop e))[r]? = T[r]?) ∧
    (∀ r, j < r → r < e → (T.take j ++ (lift1 ((T.drop (j + 1)).take (e - (j + 1))) ++ T.drop e))[r - 1]? = T[r]?.map fun x => (x.1, x.2 - 1)) ∧
    (∀ r, e ≤ r → (T.take j ++ (lift1 ((T.drop (j + 1)).take (e - (j + 1))) ++ T.drop e))[r - 1]? = T[r]?) := by
  have h1 : (T.take j).length = j := by simp; omega
  have h2 : (lift1 ((T.drop (j + 1)).take (e - (j + 1)))).length = e - (j + 1) := by unfold lift1; simp; omega
  refine ⟨fun r hr => ?_, fun r hr1 hr2 => ?_, fun r hr => ?_⟩
  · rw [List.getElem?_append_left (by omega), List.getElem?_take, if_pos hr]
  · rw [List.getElem?_append_right (by omega), h1, List.getElem?_append_left (by omega)]
    unfold lift1
    rw [List.getElem?_map, List.getElem?_take, if_pos (by omega), List.getElem?_drop, show j + 1 + (r - 1 - j) = r from by omega]
  · rw [List.getElem?_append_right (by omega), h1, List.getElem?_append_right (by omega), h2, List.getElem?_drop, show e + (r - 1 - j - (e - (j + 1))) = r from by omega]
theorem taken {T : Tr} (hT : TOk T) {j : Nat} {s : Leaf} (hs : T[j]? = some s) :
    ∃ T', takeN T s.1 = (0, T') ∧ TOk T' ∧ T'.length + 1 = T.length ∧ underN T' s.1 = [] ∧
      ∀ k x, T[k]? = some x → k ≠ j → parentN T' x.1 = if parentN T x.1 = some s.1 then parentN T s.1 else parentN T x.1 := by
  have hj := (List.getElem?_eq_some_iff.1 hs).1
  have hp := place_own hT hs
  obtain ⟨he, hel⟩ := end_le T hj
  have hok := hT.take hp
  obtain ⟨g1, g2, g3⟩ := out_get hj he hel
  have hlen : (T.take j ++ (lift1 ((T.drop (j + 1)).take (endN T j - (j + 1))) ++ T.drop (endN T j))).length + 1 = T.length := by unfold lift1; simp; omega
  have htk : takeN T s.1 = (0, T.take j ++ (lift1 ((T.drop (j + 1)).take (endN T j - (j + 1))) ++ T.drop (endN T j))) := by unfold takeN; rw [hp]
  have hin : ∀ r, j < r → r < endN T j → dOf T j < dOf T r := fun r a1 a2 => ((end_iff hj a1).1 a2).2 r a1 (Nat.le_refl _)
  have hout : endN T j < T.length → dOf T (endN T j) ≤ dOf T j := fun h1 => by
    have h2 : ¬ endN T j < endN T j := by omega
    rw [end_iff hj (by omega)] at h2
    have h4 : ¬ dOf T j < dOf T (endN T j) := fun h5 => h2 ⟨h1, fun r a1 a2 => by
      by_cases a3 : r = endN T j
      · rw [a3]; exact h5
      · exact hin r a1 (by omega)⟩
    omega
  generalize hE : endN T j = e at *
  generalize hT' : T.take j ++ (lift1 ((T.drop (j + 1)).take (e - (j + 1))) ++ T.drop e) = T' at *
  have d1 : ∀ r, r < j → dOf T' r = dOf T r := fun r hr => by unfold dOf; rw [g1 r hr]
  have d2 : ∀ r, j < r → r < e → dOf T' (r - 1) = dOf T r - 1 := fun r a1 a2 => by
    unfold dOf; rw [g2 r a1 a2, List.getElem?_eq_getElem (by omega)]; rfl
  have d3 : ∀ r, e ≤ r → dOf T' (r - 1) = dOf T r := fun r hr => by unfold dOf; rw [g3 r hr]
  have back : ∀ (i : Nat) (y : Leaf), T'[i]? = some y → ∃ (r : Nat) (x : Leaf), r ≠ j ∧ T[r]? = some x ∧ x.1 = y.1 := fun i y hy => by
    by_cases h1 : i < j
    · rw [g1 i h1] at hy; exact ⟨i, y, by omega, hy, rfl⟩
    · by_cases h2 : i + 1 < e
      · have := g2 (i + 1) (by omega) h2
        rw [Nat.add_sub_cancel, hy] at this
        obtain ⟨x, hx, hxy⟩ := Option.map_eq_some_iff.1 this.symm
        exact ⟨i + 1, x, by omega, hx, by rw [← hxy]⟩
      · have := g3 (i + 1) (by omega)
        rw [Nat.add_sub_cancel, hy] at this
        exact ⟨i + 1, y, by omega, this.symm, rfl⟩
  have hno : s.1 ∉ T'.map (·.1) := fun hm => by
    obtain ⟨y, hy, hys⟩ := List.mem_map.1 hm
    obtain ⟨i, hi⟩ := List.mem_iff_getElem?.1 hy
    obtain ⟨r, x, h1, h2, h3⟩ := back i y hi
    exact slots_ne hT h2 hs h1 (h3.trans hys)
  -- the place in what is left
  have fwd : ∀ k x, T[k]? = some x → k ≠ j → ∃ x', T'[if k < j then k else k - 1]? = some x' ∧ x'.1 = x.1 := fun k x hx hkj => by
    by_cases h1 : k < j
    · rw [if_pos h1, g1 k h1]; exact ⟨x, hx, rfl⟩
    · rw [if_neg h1]
      by_cases h2 : k < e
      · rw [g2 k (by omega) h2, hx]; exact ⟨_, rfl, rfl⟩
      · rw [g3 k (by omega)]; exact ⟨x, hx, rfl⟩
  have dd : ∀ k, k ≠ j → dOf T' (if k < j then k else k - 1) = if j < k ∧ k < e then dOf T k - 1 else dOf T k := fun k hkj => by
    by_cases h1 : k < j
    · rw [if_pos h1, d1 k h1, if_neg (by omega)]
    · rw [if_neg h1]
      by_cases h2 : k < e
      · rw [d2 k (by omega) h2, if_pos ⟨by omega, h2⟩]
      · rw [d3 k (by omega), if_neg (by omega)]
  refine ⟨T', htk, hok, hlen, ?_, fun k x hx hkj => ?_⟩
  · unfold underN; rw [place_none_iff.2 hno]
  have hkl := (List.getElem?_eq_some_iff.1 hx).1
  obtain ⟨x', hx', hxx⟩ := fwd k x hx hkj
  have ddk := dd k hkj
  -- a row of what lies between
  have btw : ∀ q, q ≠ j → (∀ r, r ≠ j → q < r → r < k → (if j < k ∧ k < e then dOf T k - 1 else dOf T k) ≤ (if j < r ∧ r < e then dOf T r - 1 else dOf T r)) → ∀ r', (if q < j then q else q - 1) < r' → r' < (if k < j then k else k - 1) → dOf T' (if k < j then k else k - 1) ≤ dOf T' r' := fun q hq hb r' a1 a2 => by
    rw [ddk]
    by_cases h1 : r' < j
    · have h2 := dd r' (by omega)
      rw [if_pos h1] at h2
      rw [h2]
      refine hb r' (by omega) ?_ ?_
      · split at a1 <;> omega
      · split at a2 <;> omega
    · have h2 := dd (r' + 1) (by omega)
      rw [if_neg (by omega), Nat.add_sub_cancel] at h2
      rw [h2]
      refine hb (r' + 1) (by omega) ?_ ?_
      · split at a1 <;> omega
      · split at a2 <;> omega
  rcases near_or hT hx with ⟨q, y, ⟨n1, n2, n3⟩, hy, hpar⟩ | ⟨n1, hpar⟩
  · rw [hpar, ← hxx]
    by_cases hq : q = j
    · subst hq
      obtain rfl : s = y := by rw [hs] at hy; exact Option.some.inj hy
      rw [if_pos rfl]
      have hke : k < e := by
        rw [← hE, end_iff hj n1]
        refine ⟨hkl, fun r a1 a2 => ?_⟩
        by_cases a3 : r = k
        · rw [a3]; exact n2
        · have := n3 r a1 (by omega); omega
      have hst : dOf T k = dOf T q + 1 := by
        have h1 := hT.step (i := q) (by omega)
        by_cases a3 : k = q + 1
        · rw [a3] at n2 ⊢; omega
        · have := n3 (q + 1) (by omega) (by omega); omega
      rw [if_pos (show q < k ∧ k < e from ⟨n1, hke⟩)] at ddk
      rcases near_or hT hs with ⟨p, z, ⟨m1, m2, m3⟩, hz, hpz⟩ | ⟨m1, hpz⟩
      · rw [hpz]
        obtain ⟨z', hz', hzz⟩ := fwd p z hz (by omega)
        rw [← hzz]
        refine parent_near hok hx' hz' ⟨?_, ?_, btw p (by omega) fun r a1 a2 a3 => ?_⟩
        · rw [if_pos m1, if_neg (by omega)]; omega
        · rw [ddk, dd p (by omega), if_neg (by omega)]; omega
        · rw [if_pos (show q < k ∧ k < e from ⟨n1, hke⟩)]
          by_cases a4 : r < q
          · rw [if_neg (by omega)]; have := m3 r a2 a4; omega
          · rw [if_pos ⟨by omega, by omega⟩]; have := n3 r (by omega) a3; omega
      · rw [hpz]
        refine parent_none hok hx' fun r' a1 => ?_
        rw [if_neg (by omega)] at a1 ⊢
        rw [if_neg (by omega)] at ddk
        rw [ddk]
        by_cases h1 : r' < q
        · rw [d1 r' h1]; have := m1 r' h1; omega
        · have := d2 (r' + 1) (by omega) (by omega)
          rw [Nat.add_sub_cancel] at this
          rw [this]
          have := n3 (r' + 1) (by omega) (by omega)
          omega
    · have hys : y.1 ≠ s.1 := slots_ne hT hy hs hq
      rw [if_neg (fun hh => hys (Option.some.inj hh))]
      obtain ⟨y', hy', hyy⟩ := fwd q y hy hq
      rw [← hyy]
      have hql := (List.getElem?_eq_some_iff.1 hy).1
      refine parent_near hok hx' hy' ⟨?_, ?_, btw q hq fun r a1 a2 a3 => ?_⟩
      · split <;> split <;> omega
      · rw [ddk, dd q hq]
        by_cases c1 : j < k ∧ k < e
        · rw [if_pos c1]
          by_cases c2 : j < q ∧ q < e
          · rw [if_pos c2]; omega
          · rw [if_neg c2]
            have := hin k c1.1 c1.2
            have := n3 j (by omega) c1.1
            omega
        · rw [if_neg c1]; split <;> omega
      · have hr := n3 r a2 a3
        by_cases c1 : j < k ∧ k < e
        · rw [if_pos c1]; split <;> omega
        · rw [if_neg c1]
          by_cases c2 : j < r ∧ r < e
          · rw [if_pos c2]
            have i1 := hin r c2.1 c2.2
            by_cases c3 : q < j
            · have := n3 j c3 (by omega); omega
            · have i2 := hin q (by omega) (by omega)
              by_cases c4 : e = k
              · rw [← c4] at n2 hkl; have := hout hkl; omega
              · have := n3 e (by omega) (by omega); have := hout (by omega); omega
          · rw [if_neg c2]; exact hr
  · rw [hpar, if_neg (by simp), ← hxx]
    refine parent_none hok hx' fun r' a1 => ?_
    rw [ddk]
    have hk : ∀ r, r ≠ j → r < k → (if j < k ∧ k < e then dOf T k - 1 else dOf T k) ≤ (if j < r ∧ r < e then dOf T r - 1 else dOf T r) := fun r b1 b2 => by
      have hr := n1 r b2
      by_cases c1 : j < k ∧ k < e
      · rw [if_pos c1]; split <;> omega
      · rw [if_neg c1]
        by_cases c2 : j < r ∧ r < e
        · rw [if_pos c2]
          have i1 := hin r c2.1 c2.2
          have := n1 j (by omega)
          omega
        · rw [if_neg c2]; exact hr
    by_cases h1 : r' < j
    · have h2 := dd r' (by omega)
      rw [if_pos h1] at h2
      rw [h2]
      refine hk r' (by omega) ?_
      split at a1 <;> omega
    · have h2 := dd (r' + 1) (by omega)
      rw [if_neg (by omega), Nat.add_sub_cancel] at h2
      rw [h2]
      refine hk (r' + 1) (by omega) ?_
      split at a1 <;> omega

section
variable {w0 w : World}
theorem law07_TreeUnder_spec {s1 : Sl} {ops : List Op7} {K : Bool → World → Prop} (hi : Inp op7E w0 s1 ops) (hg : ∀ x ∈ ops, op7Good x) (h : Own w0.heap.size w0 w []) (hK : ∀ w', Own w0.heap.size w0 w' [] → K true w') : C.law07_TreeUnder s1 K w := by
  apply S.law07_TreeUnder_ok
  unfold S.law07_TreeUnder
  have hlen := laid_len ops
  refine law07_laid_spec (hi.rd _) h fun b w h => ?_
  generalize laidT ops = T at h hlen
  have hT := h.tok
  refine cbF rfl ?_
  refine tree_All_spec h fun l w h => ?_
  have hll := h.lenc l
  rw [List.length_map] at hll
  intro l6 hl6
  have loop : ∀ (m i : Nat) (w : World), i + m = T.length → Own w0.heap.size w0 w [SlT slotE l (T.map (·.1)), TreeA b T] → l6 (i : Int) w := by
    intro m
    induction m with
    | zero =>
      intro i w hi h
      apply hl6
      refine cdecF (by omega) ?_
      exact law07_fixed_spec h fun w h => hK _ h.sub
    | succ m ih =>
      intro i w hi h
      have hil : i < T.length := by omega
      obtain ⟨x, hx⟩ : ∃ x, T[i]? = some x := ⟨_, List.getElem?_eq_getElem hil⟩
      have hxm : (T.map (·.1))[i]? = some x.1 := by rw [List.getElem?_map, hx]; rfl
      have hwi : IntKind.i64.wrap ((i : Int) + 1) = ((i + 1 : Nat) : Int) := by rw [wr (by omega) (by omega)]; omega
      have hul : (underN T x.1).length ≤ T.length := under_len
      apply hl6
      refine cdecT (by omega) ?_
      refine h.ixc (s := l) rfl hxm fun a ha h0 hc => ?_
      refine ldSlot (x := x.1) hc ?_
      refine under_p (s1 := x.1.1) (s2 := x.1.2) (l := underN T x.1) rfl (h.pick (A := TreeA b T)) fun u w h => ?_
      have hu := h.lenc u
      intro l14 hl14
      have loop2 : ∀ (m2 k : Nat) (w : World), k + m2 = T.length → Own w0.heap.size w0 w [SlT slotE u (underN T x.1), SlT slotE l (T.map (·.1)), TreeA b T] → l14 (k : Int) w := by
        intro m2
        induction m2 with
        | zero =>
          intro k w hk h
          apply hl14
          refine cdecF (by omega) ?_
          refine h.ixc (s := l) rfl hxm fun a ha h0 hc => ?_
          refine ldSlot (x := x.1) hc ?_
          refine law07_among_spec (s := x.1) (Rd.own (s := u) (xs := underN T x.1) hu) (by omega) h fun w h => ?_
          refine cdecF (not_under_self hT hx) ?_
          rw [hwi]
          exact ih (i + 1) w (by omega) h.sub
        | succ m2 ih2 =>
          intro k w hk h
          have hkl : k < T.length := by omega
          obtain ⟨y, hy⟩ : ∃ y, T[k]? = some y := ⟨_, List.getElem?_eq_getElem hkl⟩
          have hym : (T.map (·.1))[k]? = some y.1 := by rw [List.getElem?_map, hy]; rfl
          have hwk : IntKind.i64.wrap ((k : Int) + 1) = ((k + 1 : Nat) : Int) := by rw [wr (by omega) (by omega)]; omega
          have law := under_law hT hx hy
          apply hl14
          refine cdecT (by omega) ?_
          refine h.ixc (s := l) rfl hym fun a ha h0 hc => ?_
          refine ldSlot (x := y.1) hc ?_
          refine tree_Parent_spec (s := y.1) (h.pick (A := TreeA b T)) fun w h => ?_
          refine h.al fun w2 h => ?_
          generalize w.heap.size = c at h ⊢
          (repeat (first | (refine h.al fun w h => ?_) | (refine h.dr fun w h => ?_) | (refine h.lc_2 rfl ?_) | (refine h.lc_6 rfl ?_) | (refine ⟨_, h.ldc rfl, ?_⟩) | (refine ⟨_, h.ldd rfl, ?_⟩) | (refine h.hd rfl ?_) | (refine ⟨h.ldc rfl, ?_⟩) | (refine ⟨h.ldd rfl, ?_⟩) | (refine h.stLc rfl rfl fun w h => ?_) | (refine exs ?_) | (refine _root_.Go.Vc.a2 ?_) | (refine h.stc rfl rfl fun w h => ?_) | (refine h.std rfl rfl fun w h => ?_)))
          (dsimp only [putAt, List.set_cons_zero, List.set_cons_succ] at h)
          intro k26 hk26
          refine h.dr fun w h => ?_
          refine h.ixc (s := l) rfl hym fun a ha h0 hc => ?_
          refine ldSlot (x := y.1) hc ?_
          refine ⟨law07_among_spec (s := y.1) (Rd.own (s := u) (xs := underN T x.1) hu) (by omega) h fun w h => ?_, trivial⟩
          generalize parentN T y.1 = P at h law ⊢
          cases P with
          | none =>
            refine cbF rfl ⟨?_, trivial⟩
            rw [show decide (y.1 ∈ underN T x.1) = false from law]
            refine cbF rfl ?_
            refine cne (fun e => ?_) (fun e => ?_)
            · refine h.ixc (s := l) rfl hxm fun a ha h0 hc => ?_
              refine ldSlot (x := x.1) hc ?_
              refine h.ixc (s := l) rfl hym fun a ha h0 hc => ?_
              refine ldSlot (x := y.1) hc ?_
              refine ⟨_, slotEq x.1 y.1, hk26 _ _ (cdecF (slots_ne hT hx hy (by omega)) ?_)⟩
              rw [hwk]; exact ih2 (k + 1) _ (by omega) h.sub
            · refine hk26 _ _ (cbF rfl ?_)
              rw [hwk]; exact ih2 (k + 1) _ (by omega) h.sub
          | some p =>
            refine cbT rfl ?_
            (repeat (first | (refine h.al fun w h => ?_) | (refine h.dr fun w h => ?_) | (refine h.lc_2 rfl ?_) | (refine h.lc_6 rfl ?_) | (refine ⟨_, h.ldc rfl, ?_⟩) | (refine ⟨_, h.ldd rfl, ?_⟩) | (refine h.hd rfl ?_) | (refine ⟨h.ldc rfl, ?_⟩) | (refine ⟨h.ldd rfl, ?_⟩) | (refine h.stLc rfl rfl fun w h => ?_) | (refine exs ?_) | (refine _root_.Go.Vc.a2 ?_) | (refine h.stc rfl rfl fun w h => ?_) | (refine h.std rfl rfl fun w h => ?_)))
            refine h.ixc (s := l) rfl hxm fun a ha h0 hc => ?_
            refine ldSlot (x := x.1) hc ?_
            refine ⟨_, slotEq p x.1, ?_⟩
            have law : decide (y.1 ∈ underN T x.1) = (decide (p = x.1) || decide (p ∈ underN T x.1)) := law
            refine cdec (fun e => ?_) (fun e => ?_)
            · rw [decide_eq_true e, Bool.true_or] at law
              refine ⟨?_, trivial⟩
              rw [law]
              refine cbF rfl ?_
              refine cne (fun e => ?_) (fun e => ?_)
              · refine h.ixc (s := l) rfl hxm fun a ha h0 hc => ?_
                refine ldSlot (x := x.1) hc ?_
                refine h.ixc (s := l) rfl hym fun a ha h0 hc => ?_
                refine ldSlot (x := y.1) hc ?_
                refine ⟨_, slotEq x.1 y.1, hk26 _ _ (cdecF (slots_ne hT hx hy (by omega)) ?_)⟩
                rw [hwk]; exact ih2 (k + 1) _ (by omega) h.sub
              · refine hk26 _ _ (cbF rfl ?_)
                rw [hwk]; exact ih2 (k + 1) _ (by omega) h.sub
            · rw [decide_eq_false e, Bool.false_or] at law
              (repeat (first | (refine h.al fun w h => ?_) | (refine h.dr fun w h => ?_) | (refine h.lc_2 rfl ?_) | (refine h.lc_6 rfl ?_) | (refine ⟨_, h.ldc rfl, ?_⟩) | (refine ⟨_, h.ldd rfl, ?_⟩) | (refine h.hd rfl ?_) | (refine ⟨h.ldc rfl, ?_⟩) | (refine ⟨h.ldd rfl, ?_⟩) | (refine h.stLc rfl rfl fun w h => ?_) | (refine exs ?_) | (refine _root_.Go.Vc.a2 ?_) | (refine h.stc rfl rfl fun w h => ?_) | (refine h.std rfl rfl fun w h => ?_)))
              refine law07_among_spec (s := p) (Rd.own (s := u) (xs := underN T x.1) hu) (by omega) h fun w h => ?_
              rw [law]
              refine cbF (by simp) ?_
              refine cne (fun e => ?_) (fun e => ?_)
              · refine h.ixc (s := l) rfl hxm fun a ha h0 hc => ?_
                refine ldSlot (x := x.1) hc ?_
                refine h.ixc (s := l) rfl hym fun a ha h0 hc => ?_
                refine ldSlot (x := y.1) hc ?_
                refine ⟨_, slotEq x.1 y.1, hk26 _ _ (cdecF (slots_ne hT hx hy (by omega)) ?_)⟩
                rw [hwk]; exact ih2 (k + 1) _ (by omega) h.sub
              · refine hk26 _ _ (cbF rfl ?_)
                rw [hwk]; exact ih2 (k + 1) _ (by omega) h.sub
      exact loop2 T.length 0 w (by omega) h.sub
  exact loop T.length 0 w (by omega) h.sub
theorem law07_TreeTakes_spec {s1 : Sl} {ops : List Op7} {n : Int} {K : Bool → World → Prop} (hi : Inp op7E w0 s1 ops) (hg : ∀ x ∈ ops, op7Good x) (w1 : (Lit.int .i64 n).wf = true) (h : Own w0.heap.size w0 w []) (hK : ∀ w', Own w0.heap.size w0 w' [] → K true w') : C.law07_TreeTakes s1 n K w := by
  apply S.law07_TreeTakes_ok
  unfold S.law07_TreeTakes
  have hlen := laid_len ops
  refine law07_laid_spec (hi.rd _) h fun b w h => ?_
  generalize laidT ops = T at h hlen
  have hT := h.tok
  refine cbF rfl ?_
  refine tree_All_spec h fun l w h => ?_
  have hll := h.lenc l
  rw [List.length_map] at hll
  refine ceq (fun e => law07_fixed_spec h fun w h => hK _ h.sub) (fun e => ?_)
  obtain ⟨j, hj, hjl⟩ := modI (n := n) (k := T.length) (by omega) (by omega)
  obtain ⟨x, hx⟩ : ∃ x, T[j]? = some x := ⟨_, List.getElem?_eq_getElem hjl⟩
  have hxm : (T.map (·.1))[j]? = some x.1 := by rw [List.getElem?_map, hx]; rfl
  rw [hll, hj]
  refine ⟨by omega, ?_⟩
  rw [← hll]
  refine h.ixc rfl hxm fun a ha h0 hc => ?_
  refine ldSlot (x := x.1) hc ?_
  refine h.al fun w2 h => ?_
  generalize w.heap.size = c at h ⊢
  (repeat (first | (refine h.al fun w h => ?_) | (refine h.dr fun w h => ?_) | (refine h.lc_2 rfl ?_) | (refine h.lc_6 rfl ?_) | (refine ⟨_, h.ldc rfl, ?_⟩) | (refine ⟨_, h.ldd rfl, ?_⟩) | (refine h.hd rfl ?_) | (refine ⟨h.ldc rfl, ?_⟩) | (refine ⟨h.ldd rfl, ?_⟩) | (refine h.stLc rfl rfl fun w h => ?_) | (refine exs ?_) | (refine _root_.Go.Vc.a2 ?_) | (refine h.stc rfl rfl fun w h => ?_) | (refine h.std rfl rfl fun w h => ?_)))
  (dsimp only [putAt, List.set_cons_zero, List.set_cons_succ] at h)
  obtain ⟨T', m1, m2, m3, m4, m5⟩ := taken hT hx
  refine tree_Parent_spec (s := x.1) (h.pick (A := TreeA b T)) fun w h => ?_
  refine h.al fun w3 h => ?_
  generalize w.heap.size = d at h ⊢
  (repeat (first | (refine h.al fun w h => ?_) | (refine h.dr fun w h => ?_) | (refine h.lc_2 rfl ?_) | (refine h.lc_6 rfl ?_) | (refine ⟨_, h.ldc rfl, ?_⟩) | (refine ⟨_, h.ldd rfl, ?_⟩) | (refine h.hd rfl ?_) | (refine ⟨h.ldc rfl, ?_⟩) | (refine ⟨h.ldd rfl, ?_⟩) | (refine h.stLc rfl rfl fun w h => ?_) | (refine exs ?_) | (refine _root_.Go.Vc.a2 ?_) | (refine h.stc rfl rfl fun w h => ?_) | (refine h.std rfl rfl fun w h => ?_)))
  (dsimp only [putAt, List.set_cons_zero, List.set_cons_succ] at h)
  refine tree_Copy_spec (h.pick (A := TreeA b T)) fun b2 w h => ?_
  intro k24 hk24
  refine cbF rfl ?_
  (repeat (first | (refine h.al fun w h => ?_) | (refine h.dr fun w h => ?_) | (refine h.lc_2 rfl ?_) | (refine h.lc_6 rfl ?_) | (refine ⟨_, h.ldc rfl, ?_⟩) | (refine ⟨_, h.ldd rfl, ?_⟩) | (refine h.hd rfl ?_) | (refine ⟨h.ldc rfl, ?_⟩) | (refine ⟨h.ldd rfl, ?_⟩) | (refine h.stLc rfl rfl fun w h => ?_) | (refine exs ?_) | (refine _root_.Go.Vc.a2 ?_) | (refine h.stc rfl rfl fun w h => ?_) | (refine h.std rfl rfl fun w h => ?_)))
  refine take_p (s1 := x.1.1) (s2 := x.1.2) m1 (h.pick (A := TreeA b2 T)) fun w h => ?_
  refine cneF rfl ?_
  refine tree_All_spec (h.pick (A := TreeA b2 T')) fun l2 w h => ?_
  have hl2 := h.lenc l2
  rw [List.length_map] at hl2
  refine cneF (by rw [hl2, hll, wr (by omega) (by omega)]; omega) ?_
  (repeat (first | (refine h.al fun w h => ?_) | (refine h.dr fun w h => ?_) | (refine h.lc_2 rfl ?_) | (refine h.lc_6 rfl ?_) | (refine ⟨_, h.ldc rfl, ?_⟩) | (refine ⟨_, h.ldd rfl, ?_⟩) | (refine h.hd rfl ?_) | (refine ⟨h.ldc rfl, ?_⟩) | (refine ⟨h.ldd rfl, ?_⟩) | (refine h.stLc rfl rfl fun w h => ?_) | (refine exs ?_) | (refine _root_.Go.Vc.a2 ?_) | (refine h.stc rfl rfl fun w h => ?_) | (refine h.std rfl rfl fun w h => ?_)))
  refine under_p (s1 := x.1.1) (s2 := x.1.2) m4 (h.pick (A := TreeA b2 T')) fun u w h => ?_
  have hu := h.lenc u
  refine hk24 _ _ (cdecF (by rw [hu]; simp) ?_)
  intro lp hl
  have loop : ∀ (m k : Nat) (w : World), k + m = T.length → Own w0.heap.size w0 w [TreeA b T, TreeA b2 T', SlT slotE l (T.map (·.1)), BlkA c [.int .i64 x.1.1, .int .i64 x.1.2], BlkA d [.int .i64 ((parentN T x.1).getD (0, 0)).1, .int .i64 ((parentN T x.1).getD (0, 0)).2]] → lp (k : Int) w := by
    intro m
    induction m with
    | zero =>
      intro k w hk h
      apply hl
      refine cdecF (by omega) ?_
      refine tree_All_spec (h.pick (A := TreeA b T)) fun l3 w h => ?_
      have hl3 := h.lenc l3
      refine ref07_Same_spec (xs := T.map (·.1)) (ys := T.map (·.1)) (Rd.own hl3) (Rd.own (by simp [hll])) (by simp; omega) h fun w h => ?_
      refine cdecT rfl ?_
      exact law07_fixed_spec h fun w h => hK _ h.sub
    | succ m ih =>
      intro k w hk h
      have hkl : k < T.length := by omega
      obtain ⟨y, hy⟩ : ∃ y, T[k]? = some y := ⟨_, List.getElem?_eq_getElem hkl⟩
      have hym : (T.map (·.1))[k]? = some y.1 := by rw [List.getElem?_map, hy]; rfl
      have hwk : IntKind.i64.wrap ((k : Int) + 1) = ((k + 1 : Nat) : Int) := by rw [wr (by omega) (by omega)]; omega
      apply hl
      refine cdecT (by omega) ?_
      refine h.dr fun w h => ?_
      refine h.ixc (s := l) rfl hym fun a ha h0 hc => ?_
      refine ldSlot (x := y.1) hc ?_
      (repeat (first | (refine h.al fun w h => ?_) | (refine h.dr fun w h => ?_) | (refine h.lc_2 rfl ?_) | (refine h.lc_6 rfl ?_) | (refine ⟨_, h.ldc rfl, ?_⟩) | (refine ⟨_, h.ldd rfl, ?_⟩) | (refine h.hd rfl ?_) | (refine ⟨h.ldc rfl, ?_⟩) | (refine ⟨h.ldd rfl, ?_⟩) | (refine h.stLc rfl rfl fun w h => ?_) | (refine exs ?_) | (refine _root_.Go.Vc.a2 ?_) | (refine h.stc rfl rfl fun w h => ?_) | (refine h.std rfl rfl fun w h => ?_)))
      refine ⟨_, slotEq y.1 x.1, ?_⟩
      refine cdec (fun e => ?_) (fun ne => ?_)
      · rw [hwk]; exact ih (k + 1) _ (by omega) h.sub
      refine h.ixc (s := l) rfl hym fun a ha h0 hc => ?_
      refine ldSlot (x := y.1) hc ?_
      refine tree_Parent_spec (s := y.1) (h.pick (A := TreeA b T)) fun w h => ?_
      refine h.al fun w2 h => ?_
      generalize w.heap.size = c1 at h ⊢
      (repeat (first | (refine h.al fun w h => ?_) | (refine h.dr fun w h => ?_) | (refine h.lc_2 rfl ?_) | (refine h.lc_6 rfl ?_) | (refine ⟨_, h.ldc rfl, ?_⟩) | (refine ⟨_, h.ldd rfl, ?_⟩) | (refine h.hd rfl ?_) | (refine ⟨h.ldc rfl, ?_⟩) | (refine ⟨h.ldd rfl, ?_⟩) | (refine h.stLc rfl rfl fun w h => ?_) | (refine exs ?_) | (refine _root_.Go.Vc.a2 ?_) | (refine h.stc rfl rfl fun w h => ?_) | (refine h.std rfl rfl fun w h => ?_)))
      (dsimp only [putAt, List.set_cons_zero, List.set_cons_succ] at h)
      refine h.ixc (s := l) rfl hym fun a ha h0 hc => ?_
      refine ldSlot (x := y.1) hc ?_
      refine tree_Parent_spec (s := y.1) (h.pick (A := TreeA b2 T')) fun w h => ?_
      refine h.al fun w2 h => ?_
      generalize w.heap.size = c2 at h ⊢
      (repeat (first | (refine h.al fun w h => ?_) | (refine h.dr fun w h => ?_) | (refine h.lc_2 rfl ?_) | (refine h.lc_6 rfl ?_) | (refine ⟨_, h.ldc rfl, ?_⟩) | (refine ⟨_, h.ldd rfl, ?_⟩) | (refine h.hd rfl ?_) | (refine ⟨h.ldc rfl, ?_⟩) | (refine ⟨h.ldd rfl, ?_⟩) | (refine h.stLc rfl rfl fun w h => ?_) | (refine exs ?_) | (refine _root_.Go.Vc.a2 ?_) | (refine h.stc rfl rfl fun w h => ?_) | (refine h.std rfl rfl fun w h => ?_)))
      (dsimp only [putAt, List.set_cons_zero, List.set_cons_succ] at h)
      have hkj : k ≠ j := fun e => ne (by subst e; rw [hx] at hy; cases hy; rfl)
      have hpar := m5 k y hy hkj
      generalize parentN T' y.1 = Q at h hpar ⊢
      generalize parentN T y.1 = P at h hpar ⊢
      intro k55 hk55
      cases P with
      | none =>
        rw [if_neg (by simp)] at hpar
        subst hpar
        refine cbF rfl (hk55 _ _ ?_)
        intro k58 hk58
        refine cbF rfl (hk58 _ _ ?_)
        intro k61 hk61
        (repeat (first | (refine h.al fun w h => ?_) | (refine h.dr fun w h => ?_) | (refine h.lc_2 rfl ?_) | (refine h.lc_6 rfl ?_) | (refine ⟨_, h.ldc rfl, ?_⟩) | (refine ⟨_, h.ldd rfl, ?_⟩) | (refine h.hd rfl ?_) | (refine ⟨h.ldc rfl, ?_⟩) | (refine ⟨h.ldd rfl, ?_⟩) | (refine h.stLc rfl rfl fun w h => ?_) | (refine exs ?_) | (refine _root_.Go.Vc.a2 ?_) | (refine h.stc rfl rfl fun w h => ?_) | (refine h.std rfl rfl fun w h => ?_)))
        refine ⟨_, slotNe (0, 0) (0, 0), ?_⟩
        rw [decide_eq_true rfl]
        refine cbF rfl (hk61 _ _ (cbF rfl ?_))
        rw [hwk]; exact ih (k + 1) _ (by omega) h.sub
      | some p =>
        refine cbT rfl ?_
        (repeat (first | (refine h.al fun w h => ?_) | (refine h.dr fun w h => ?_) | (refine h.lc_2 rfl ?_) | (refine h.lc_6 rfl ?_) | (refine ⟨_, h.ldc rfl, ?_⟩) | (refine ⟨_, h.ldd rfl, ?_⟩) | (refine h.hd rfl ?_) | (refine ⟨h.ldc rfl, ?_⟩) | (refine ⟨h.ldd rfl, ?_⟩) | (refine h.stLc rfl rfl fun w h => ?_) | (refine exs ?_) | (refine _root_.Go.Vc.a2 ?_) | (refine h.stc rfl rfl fun w h => ?_) | (refine h.std rfl rfl fun w h => ?_)))
        refine ⟨_, slotEq p x.1, hk55 _ _ ?_⟩
        intro k58 hk58
        refine cdec (fun e => ?_) (fun e => ?_)
        · rw [if_pos (by rw [e])] at hpar
          subst hpar
          (repeat (first | (refine h.al fun w h => ?_) | (refine h.dr fun w h => ?_) | (refine h.lc_2 rfl ?_) | (refine h.lc_6 rfl ?_) | (refine ⟨_, h.ldc rfl, ?_⟩) | (refine ⟨_, h.ldd rfl, ?_⟩) | (refine h.hd rfl ?_) | (refine ⟨h.ldc rfl, ?_⟩) | (refine ⟨h.ldd rfl, ?_⟩) | (refine h.stLc rfl rfl fun w h => ?_) | (refine exs ?_) | (refine _root_.Go.Vc.a2 ?_) | (refine h.stc rfl rfl fun w h => ?_) | (refine h.std rfl rfl fun w h => ?_)))
          (dsimp only [putAt, List.set_cons_zero, List.set_cons_succ] at h)
          refine hk58 _ _ ?_
          intro k61 hk61
          (repeat (first | (refine h.al fun w h => ?_) | (refine h.dr fun w h => ?_) | (refine h.lc_2 rfl ?_) | (refine h.lc_6 rfl ?_) | (refine ⟨_, h.ldc rfl, ?_⟩) | (refine ⟨_, h.ldd rfl, ?_⟩) | (refine h.hd rfl ?_) | (refine ⟨h.ldc rfl, ?_⟩) | (refine ⟨h.ldd rfl, ?_⟩) | (refine h.stLc rfl rfl fun w h => ?_) | (refine exs ?_) | (refine _root_.Go.Vc.a2 ?_) | (refine h.stc rfl rfl fun w h => ?_) | (refine h.std rfl rfl fun w h => ?_)))
          refine ⟨_, slotNe ((parentN T x.1).getD (0, 0)) ((parentN T x.1).getD (0, 0)), ?_⟩
          rw [decide_eq_true rfl]
          refine cbF rfl (hk61 _ _ (cbF (by simp) ?_))
          rw [hwk]; exact ih (k + 1) _ (by omega) h.sub
        · rw [if_neg (fun hh => e (Option.some.inj hh))] at hpar
          subst hpar
          refine hk58 _ _ ?_
          intro k61 hk61
          (repeat (first | (refine h.al fun w h => ?_) | (refine h.dr fun w h => ?_) | (refine h.lc_2 rfl ?_) | (refine h.lc_6 rfl ?_) | (refine ⟨_, h.ldc rfl, ?_⟩) | (refine ⟨_, h.ldd rfl, ?_⟩) | (refine h.hd rfl ?_) | (refine ⟨h.ldc rfl, ?_⟩) | (refine ⟨h.ldd rfl, ?_⟩) | (refine h.stLc rfl rfl fun w h => ?_) | (refine exs ?_) | (refine _root_.Go.Vc.a2 ?_) | (refine h.stc rfl rfl fun w h => ?_) | (refine h.std rfl rfl fun w h => ?_)))
          refine ⟨_, slotNe p p, ?_⟩
          rw [decide_eq_true rfl]
          refine cbF rfl (hk61 _ _ (cbF rfl ?_))
          rw [hwk]; exact ih (k + 1) _ (by omega) h.sub
  exact loop T.length 0 w (by omega) h.sub
end
end Go.Proofs.Ytmfbhjfkagnahaa
