/- Laws of layer 7: what is added; the roots. -/
import Derived.Test.YtmfbhjfkagnahaaG7
import Derived.Test.YtmfbhjfkagnahaaS0
set_option linter.unusedVariables false
set_option linter.unusedSimpArgs false
set_option maxRecDepth 8000
namespace Go.Proofs.Ytmfbhjfkagnahaa
open Go Go.Vc Go.Proofs

theorem under_len {T : Tr} {s : Slot} : (underN T s).length ≤ T.length := by
  unfold underN
  split
  · simp
  · simp; omega
theorem under_take {T : Tr} (hT : TOk T) {k : Nat} {x : Leaf} (hx : T[k]? = some x) : ((T.map (·.1)).take k ++ [x.1]) ++ underN T x.1 = (T.map (·.1)).take (endN T k) := by
  have hk := (List.getElem?_eq_some_iff.1 hx).1
  have he := end_le T hk
  unfold underN
  rw [place_own hT hx]
  simp only
  have h1 : (T.map (·.1)).take k ++ [x.1] = (T.map (·.1)).take (k + 1) := by
    rw [List.take_add_one, List.getElem?_map, hx]; rfl
  rw [h1, List.map_take, List.map_drop, ← List.take_add, show k + 1 + (endN T k - (k + 1)) = endN T k from by omega]

section
variable {w0 w : World}
theorem app_slot {B : Nat} {R : List Asn} {s x : Sl} {xs ys : List Slot} {k : Sl → World → Prop} (h : Own B w0 w (SlT slotE x ys :: SlT slotE s xs :: R)) (hbig : xs.length + ys.length ≤ 1000000000)
   (hk : ∀ s' w', s'.len = xs.length + ys.length → Own B w0 w' (SlT slotE x ys :: SlT slotE s' (xs ++ ys) :: R) → k s' w') :
   ∃ s' w', AppR Try.prog [25, 25] 25 (.slice s.a s.len s.cap) (.slice x.a x.len x.cap) w s' w' ∧ k s' w' :=
  Own.app (E := slotE) Try.underlying25 (show Try.prog.info? 29 = some Try.t29 from by kernel_rfl) (zv := .agg ⟨slotE.enc (0, 0)⟩) (by kernel_rfl) (by kernel_rfl) rfl (by decide) h 1 rfl (h.slO 0 rfl) (h.len 0 rfl) (by
    have e : Try.t29.bytes = 16 := by kernel_rfl
    rw [e]; omega) hk
theorem asEmpty {B c : Nat} {R : List Asn} (h : Own B w0 w (BlkA c [] :: R)) : Own B w0 w (SlT slotE ⟨some ⟨c, 0, none⟩, 0, 0⟩ [] :: R) := h.empty
theorem law07_TreeAdds_spec {s1 : Sl} {ops : List Op7} {n : Int} {K : Bool → World → Prop} (hi : Inp op7E w0 s1 ops) (hg : ∀ x ∈ ops, op7Good x) (w1 : (Lit.int .i64 n).wf = true) (h : Own w0.heap.size w0 w []) (hK : ∀ w', Own w0.heap.size w0 w' [] → K true w') : C.law07_TreeAdds s1 n K w := by
  apply S.law07_TreeAdds_ok
  unfold S.law07_TreeAdds
  have hlen := laid_len ops
  refine law07_laid_spec (hi.rd _) h fun b w h => ?_
  generalize laidT ops = T at h hlen
  have hT := h.tok
  refine cbF rfl ?_
  refine tree_All_spec h fun l w h => ?_
  have hll := h.lenc l
  rw [List.length_map] at hll
  refine h.al fun w2 h => ?_
  generalize w.heap.size = c at h ⊢
  (repeat (first | (refine h.al fun w h => ?_) | (refine h.dr fun w h => ?_) | (refine h.lc_2 rfl ?_) | (refine h.lc_6 rfl ?_) | (refine ⟨_, h.ldc rfl, ?_⟩) | (refine ⟨_, h.ldd rfl, ?_⟩) | (refine h.hd rfl ?_) | (refine ⟨h.ldc rfl, ?_⟩) | (refine ⟨h.ldd rfl, ?_⟩) | (refine h.stLc rfl rfl fun w h => ?_) | (refine exs ?_) | (refine _root_.Go.Vc.a2 ?_) | (refine h.stc rfl rfl fun w h => ?_) | (refine h.std rfl rfl fun w h => ?_)))
  (dsimp only [putAt, List.set_cons_zero, List.set_cons_succ] at h)
  intro k9 hk9
  refine ceq (fun e => hk9 _ _ (cbT rfl (law07_fixed_spec h fun w h => hK _ h.sub))) (fun e => ?_)
  (repeat (first | (refine h.al fun w h => ?_) | (refine h.dr fun w h => ?_) | (refine h.lc_2 rfl ?_) | (refine h.lc_6 rfl ?_) | (refine ⟨_, h.ldc rfl, ?_⟩) | (refine ⟨_, h.ldd rfl, ?_⟩) | (refine h.hd rfl ?_) | (refine ⟨h.ldc rfl, ?_⟩) | (refine ⟨h.ldd rfl, ?_⟩) | (refine h.stLc rfl rfl fun w h => ?_) | (refine exs ?_) | (refine _root_.Go.Vc.a2 ?_) | (refine h.stc rfl rfl fun w h => ?_) | (refine h.std rfl rfl fun w h => ?_)))
  refine law07_among_spec (s := (1099511627776, 0)) (Rd.own (s := l) (xs := T.map (·.1)) (by simp [hll])) (by simp; omega) h fun w h => ?_
  refine hk9 _ _ ?_
  refine cdec (fun e => law07_fixed_spec h fun w h => hK _ h.sub) (fun e2 => ?_)
  obtain ⟨j, hj, hjl⟩ := modI (n := n) (k := T.length) (by omega) (by omega)
  obtain ⟨x, hx⟩ : ∃ x, T[j]? = some x := ⟨_, List.getElem?_eq_getElem hjl⟩
  have hxm : (T.map (·.1))[j]? = some x.1 := by rw [List.getElem?_map, hx]; rfl
  rw [hll, hj]
  refine ⟨by omega, ?_⟩
  rw [← hll]
  refine h.ixc rfl hxm fun a ha h0 hc => ?_
  refine ldSlot (x := x.1) hc ?_
  refine h.al fun w3 h => ?_
  generalize w.heap.size = d at h ⊢
  (repeat (first | (refine h.al fun w h => ?_) | (refine h.dr fun w h => ?_) | (refine h.lc_2 rfl ?_) | (refine h.lc_6 rfl ?_) | (refine ⟨_, h.ldc rfl, ?_⟩) | (refine ⟨_, h.ldd rfl, ?_⟩) | (refine h.hd rfl ?_) | (refine ⟨h.ldc rfl, ?_⟩) | (refine ⟨h.ldd rfl, ?_⟩) | (refine h.stLc rfl rfl fun w h => ?_) | (refine exs ?_) | (refine _root_.Go.Vc.a2 ?_) | (refine h.stc rfl rfl fun w h => ?_) | (refine h.std rfl rfl fun w h => ?_)))
  (dsimp only [putAt, List.set_cons_zero, List.set_cons_succ] at h)
  obtain ⟨T', m1, m2, m3, m4, m5, m6, m7⟩ := added hT (by omega) hx e2
  refine under_p (s1 := x.1.1) (s2 := x.1.2) (l := underN T x.1) rfl (h.pick (A := TreeA b T)) fun u w h => ?_
  have hu := h.lenc u
  (repeat (first | (refine h.al fun w h => ?_) | (refine h.dr fun w h => ?_) | (refine h.lc_2 rfl ?_) | (refine h.lc_6 rfl ?_) | (refine ⟨_, h.ldc rfl, ?_⟩) | (refine ⟨_, h.ldd rfl, ?_⟩) | (refine h.hd rfl ?_) | (refine ⟨h.ldc rfl, ?_⟩) | (refine ⟨h.ldd rfl, ?_⟩) | (refine h.stLc rfl rfl fun w h => ?_) | (refine exs ?_) | (refine _root_.Go.Vc.a2 ?_) | (refine h.stc rfl rfl fun w h => ?_) | (refine h.std rfl rfl fun w h => ?_)))
  refine add_p (p1 := x.1.1) (p2 := x.1.2) m1 (by omega) (h.pick (A := TreeA b T)) fun w h => ?_
  (repeat (first | (refine h.al fun w h => ?_) | (refine h.dr fun w h => ?_) | (refine h.lc_2 rfl ?_) | (refine h.lc_6 rfl ?_) | (refine ⟨_, h.ldc rfl, ?_⟩) | (refine ⟨_, h.ldd rfl, ?_⟩) | (refine h.hd rfl ?_) | (refine ⟨h.ldc rfl, ?_⟩) | (refine ⟨h.ldd rfl, ?_⟩) | (refine h.stLc rfl rfl fun w h => ?_) | (refine exs ?_) | (refine _root_.Go.Vc.a2 ?_) | (refine h.stc rfl rfl fun w h => ?_) | (refine h.std rfl rfl fun w h => ?_)))
  refine parent_p (p1 := x.1.1) (p2 := x.1.2) (is := true) (by rw [m3]; rfl) (h.pick (A := TreeA b T')) fun w h => ?_
  refine h.al fun w4 h => ?_
  generalize w.heap.size = d2 at h ⊢
  (repeat (first | (refine h.al fun w h => ?_) | (refine h.dr fun w h => ?_) | (refine h.lc_2 rfl ?_) | (refine h.lc_6 rfl ?_) | (refine ⟨_, h.ldc rfl, ?_⟩) | (refine ⟨_, h.ldd rfl, ?_⟩) | (refine h.hd rfl ?_) | (refine ⟨h.ldc rfl, ?_⟩) | (refine ⟨h.ldd rfl, ?_⟩) | (refine h.stLc rfl rfl fun w h => ?_) | (refine exs ?_) | (refine _root_.Go.Vc.a2 ?_) | (refine h.stc rfl rfl fun w h => ?_) | (refine h.std rfl rfl fun w h => ?_)))
  (dsimp only [putAt, List.set_cons_zero, List.set_cons_succ] at h)
  refine under_p (s1 := x.1.1) (s2 := x.1.2) m4 (h.pick (A := TreeA b T')) fun v w h => ?_
  have hv := h.lenc v
  have hul : (underN T x.1).length ≤ T.length := under_len
  intro k41 hk41
  refine cneF rfl ?_
  (repeat (first | (refine h.al fun w h => ?_) | (refine h.dr fun w h => ?_) | (refine h.lc_2 rfl ?_) | (refine h.lc_6 rfl ?_) | (refine ⟨_, h.ldc rfl, ?_⟩) | (refine ⟨_, h.ldd rfl, ?_⟩) | (refine h.hd rfl ?_) | (refine ⟨h.ldc rfl, ?_⟩) | (refine ⟨h.ldd rfl, ?_⟩) | (refine h.stLc rfl rfl fun w h => ?_) | (refine exs ?_) | (refine _root_.Go.Vc.a2 ?_) | (refine h.stc rfl rfl fun w h => ?_) | (refine h.std rfl rfl fun w h => ?_)))
  refine ⟨_, slotNe x.1 x.1, ?_⟩
  rw [decide_eq_true rfl]
  refine cbF rfl (cbF rfl ?_)
  (repeat (first | (refine h.al fun w h => ?_) | (refine h.dr fun w h => ?_) | (refine h.lc_2 rfl ?_) | (refine h.lc_6 rfl ?_) | (refine ⟨_, h.ldc rfl, ?_⟩) | (refine ⟨_, h.ldd rfl, ?_⟩) | (refine h.hd rfl ?_) | (refine ⟨h.ldc rfl, ?_⟩) | (refine ⟨h.ldd rfl, ?_⟩) | (refine h.stLc rfl rfl fun w h => ?_) | (refine exs ?_) | (refine _root_.Go.Vc.a2 ?_) | (refine h.stc rfl rfl fun w h => ?_) | (refine h.std rfl rfl fun w h => ?_)))
  refine under_p (s1 := 1099511627776) (s2 := 0) m5 (h.pick (A := TreeA b T')) fun u2 w h => ?_
  have hu2 := h.lenc u2
  refine cdecF (by rw [hu2]; simp) (cneF (by rw [hv, hu, wr (by omega) (by omega)]; simp) ?_)
  (repeat (first | (refine h.al fun w h => ?_) | (refine h.dr fun w h => ?_) | (refine h.lc_2 rfl ?_) | (refine h.lc_6 rfl ?_) | (refine ⟨_, h.ldc rfl, ?_⟩) | (refine ⟨_, h.ldd rfl, ?_⟩) | (refine h.hd rfl ?_) | (refine ⟨h.ldc rfl, ?_⟩) | (refine ⟨h.ldd rfl, ?_⟩) | (refine h.stLc rfl rfl fun w h => ?_) | (refine exs ?_) | (refine _root_.Go.Vc.a2 ?_) | (refine h.stc rfl rfl fun w h => ?_) | (refine h.std rfl rfl fun w h => ?_)))
  refine law07_among_spec (s := (1099511627776, 0)) (Rd.own (s := v) (xs := (1099511627776, 0) :: underN T x.1) hv) (by simp; omega) h fun w h => ?_
  refine cnb (fun e3 => absurd e3 (by simp)) fun _ => ?_
  (repeat (first | (refine h.al fun w h => ?_) | (refine h.dr fun w h => ?_) | (refine h.lc_2 rfl ?_) | (refine h.lc_6 rfl ?_) | (refine ⟨_, h.ldc rfl, ?_⟩) | (refine ⟨_, h.ldd rfl, ?_⟩) | (refine h.hd rfl ?_) | (refine ⟨h.ldc rfl, ?_⟩) | (refine ⟨h.ldd rfl, ?_⟩) | (refine h.stLc rfl rfl fun w h => ?_) | (refine exs ?_) | (refine _root_.Go.Vc.a2 ?_) | (refine h.stc rfl rfl fun w h => ?_) | (refine h.std rfl rfl fun w h => ?_)))
  refine add_p (p1 := x.1.1) (p2 := x.1.2) m6 (by
    have := congrArg (fun q : Int × Tr => q.2.length) m1
    simp only at this
    rw [← this]
    unfold addN
    rw [place_own hT hx, place_none_iff.2 e2]
    simp; omega) (h.pick (A := TreeA b T')) fun w h => ?_
  refine hk41 _ _ (cbF rfl ?_)
  (repeat (first | (refine h.al fun w h => ?_) | (refine h.dr fun w h => ?_) | (refine h.lc_2 rfl ?_) | (refine h.lc_6 rfl ?_) | (refine ⟨_, h.ldc rfl, ?_⟩) | (refine ⟨_, h.ldd rfl, ?_⟩) | (refine h.hd rfl ?_) | (refine ⟨h.ldc rfl, ?_⟩) | (refine ⟨h.ldd rfl, ?_⟩) | (refine h.stLc rfl rfl fun w h => ?_) | (refine exs ?_) | (refine _root_.Go.Vc.a2 ?_) | (refine h.stc rfl rfl fun w h => ?_) | (refine h.std rfl rfl fun w h => ?_)))
  refine take_p (s1 := 1099511627776) (s2 := 0) m7 (h.pick (A := TreeA b T')) fun w h => ?_
  refine ceqT rfl ?_
  refine tree_All_spec (h.pick (A := TreeA b T)) fun l2 w h => ?_
  have hl2 := h.lenc l2
  refine ref07_Same_spec (xs := T.map (·.1)) (ys := T.map (·.1)) (Rd.own hl2) (Rd.own (by simp [hll])) (by simp; omega) h fun w h => ?_
  refine cdecT rfl ?_
  exact law07_fixed_spec h fun w h => hK _ h.sub
theorem law07_TreeRoots_spec {s1 : Sl} {ops : List Op7} {K : Bool → World → Prop} (hi : Inp op7E w0 s1 ops) (hg : ∀ x ∈ ops, op7Good x) (h : Own w0.heap.size w0 w []) (hK : ∀ w', Own w0.heap.size w0 w' [] → K true w') : C.law07_TreeRoots s1 K w := by
  apply S.law07_TreeRoots_ok
  unfold S.law07_TreeRoots
  have hlen := laid_len ops
  refine law07_laid_spec (hi.rd _) h fun b w h => ?_
  generalize laidT ops = T at h hlen
  have hT := h.tok
  refine cbF rfl ?_
  refine tree_All_spec h fun l w h => ?_
  have hll := h.lenc l
  rw [List.length_map] at hll
  refine h.al fun w2 h => ?_
  generalize w.heap.size = c at h ⊢
  have h := asEmpty h
  intro lp hl
  have loop : ∀ (m k e : Nat) (o : Sl) (w : World), k + m = T.length → k ≤ e → e ≤ T.length → (∀ r, k ≤ r → r < e → 0 < dOf T r) → (e < T.length → dOf T e = 0) → Own w0.heap.size w0 w [SlT slotE o ((T.map (·.1)).take e), SlT slotE l (T.map (·.1)), TreeA b T] → lp o (k : Int) w := by
    intro m
    induction m with
    | zero =>
      intro k e o w hk hke hel _ _ h
      apply hl
      refine cdecF (by omega) ?_
      rw [List.take_of_length_le (show (T.map (·.1)).length ≤ e by simp; omega)] at h
      refine ref07_Same_spec (xs := T.map (·.1)) (ys := T.map (·.1)) (Rd.own (h.len 0 rfl)) (Rd.own (by simp [hll])) (by simp; omega) h fun w h => ?_
      refine cdecT rfl ?_
      exact law07_fixed_spec h fun w h => hK _ h.sub
    | succ m ih =>
      intro k e o w hk hke hel hpos hz h
      have hkl : k < T.length := by omega
      obtain ⟨x, hx⟩ : ∃ x, T[k]? = some x := ⟨_, List.getElem?_eq_getElem hkl⟩
      have hxm : (T.map (·.1))[k]? = some x.1 := by rw [List.getElem?_map, hx]; rfl
      have hwk : IntKind.i64.wrap ((k : Int) + 1) = ((k + 1 : Nat) : Int) := by rw [wr (by omega) (by omega)]; omega
      apply hl
      refine cdecT (by omega) ?_
      refine h.ixc (s := l) rfl hxm fun a ha h0 hc => ?_
      refine ldSlot (x := x.1) hc ?_
      refine tree_Parent_spec (s := x.1) (h.pick (A := TreeA b T)) fun w h => ?_
      rw [parent_zero hT hx]
      refine h.al fun w2 h => ?_
      generalize w.heap.size = d at h ⊢
      (repeat (first | (refine h.al fun w h => ?_) | (refine h.dr fun w h => ?_) | (refine h.lc_2 rfl ?_) | (refine h.lc_6 rfl ?_) | (refine ⟨_, h.ldc rfl, ?_⟩) | (refine ⟨_, h.ldd rfl, ?_⟩) | (refine h.hd rfl ?_) | (refine ⟨h.ldc rfl, ?_⟩) | (refine ⟨h.ldd rfl, ?_⟩) | (refine h.stLc rfl rfl fun w h => ?_) | (refine exs ?_) | (refine _root_.Go.Vc.a2 ?_) | (refine h.stc rfl rfl fun w h => ?_) | (refine h.std rfl rfl fun w h => ?_)))
      (dsimp only [putAt, List.set_cons_zero, List.set_cons_succ] at h)
      refine cnb (fun e0 => ?_) (fun e0 => ?_)
      · have hd : dOf T k = 0 := by
          have := of_decide_eq_false e0
          have := hT.pos hkl
          omega
        obtain rfl : k = e := by
          by_cases hlt : k < e
          · have := hpos k (Nat.le_refl _) hlt; omega
          · omega
        have he := end_le T hkl
        have hul : (underN T x.1).length ≤ T.length := under_len
        refine h.ixc (s := l) rfl hxm fun a ha h0 hc => ?_
        refine ldSlot (x := x.1) hc ?_
        refine h.al fun w3 h => ?_
        refine app1_slot (ys := (T.map fun z : Leaf => z.1).take k) (y := x.1) h (by simp; omega) fun o2 w ho2 h => ?_
        refine h.ixc (s := l) rfl hxm fun a ha h0 hc => ?_
        refine ldSlot (x := x.1) hc ?_
        refine under_p (s1 := x.1.1) (s2 := x.1.2) (l := underN T x.1) rfl (h.pick (A := TreeA b T)) fun u w h => ?_
        have h : Own w0.heap.size w0 w [SlT slotE u (underN T x.1), SlT slotE o2 ((T.map (·.1)).take k ++ [x.1]), SlT slotE l (T.map (·.1)), TreeA b T] := h.sub
        refine app_slot h (by simp; omega) fun o3 w ho3 h => ?_
        rw [hwk, under_take hT hx] at *
        refine ih (k + 1) (endN T k) o3 w (by omega) (by omega) he.2 (fun r h1 h2 => ?_) (fun h1 => ?_) h.sub
        · have := ((end_iff hkl (by omega)).1 h2).2 r (by omega) (Nat.le_refl _)
          omega
        · have h2 : ¬ endN T k < endN T k := by omega
          rw [end_iff hkl (by omega)] at h2
          have h3 : ∀ r, k < r → r < endN T k → dOf T k < dOf T r := fun r a1 a2 => ((end_iff hkl a1).1 a2).2 r a1 (Nat.le_refl _)
          have h4 : ¬ dOf T k < dOf T (endN T k) := fun h5 => h2 ⟨h1, fun r a1 a2 => by
            by_cases a3 : r = endN T k
            · rw [a3]; exact h5
            · exact h3 r a1 (by omega)⟩
          have := hT.pos h1
          omega
      · have hd : 0 < dOf T k := of_decide_eq_true e0
        have hlt : k < e := by
          by_cases hlt : k < e
          · exact hlt
          · have := hz (by omega)
            rw [show e = k from by omega] at this
            omega
        rw [hwk]
        exact ih (k + 1) e o w (by omega) (by omega) hel (fun r h1 h2 => hpos r (by omega) h2) hz h.sub
  refine loop T.length 0 0 _ w2 (by omega) (by omega) (by omega) (fun r h1 h2 => by omega) (fun h1 => hT.first h1) h
end
end Go.Proofs.Ytmfbhjfkagnahaa
