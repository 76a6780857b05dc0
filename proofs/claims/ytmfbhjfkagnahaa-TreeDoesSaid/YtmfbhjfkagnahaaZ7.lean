/- Laws of layer 7: the tree does as the one that is told plainly. -/
import Derived.Test.YtmfbhjfkagnahaaY7
import Derived.Test.YtmfbhjfkagnahaaS0
set_option linter.unusedVariables false
set_option linter.unusedSimpArgs false
set_option maxRecDepth 8000
namespace Go.Proofs.Ytmfbhjfkagnahaa
open Go Go.Vc Go.Proofs

section
variable {w0 w : World}
theorem same7_spec {B : Nat} {R : List Asn} {b r : Nat} {T : Tr} {o : Op7} {K : Bool → World → Prop} (hl : T.length < 1000000) (h : Own B w0 w (TreeA b T :: RefA r T :: R)) (hK : ∀ w', Own B w0 w' (TreeA b (stepT T o) :: RefA r (stepT T o) :: R) → K true w') :
    C.law07_same (some ⟨b, 0, none⟩) (some ⟨r, 0, none⟩) o.1 o.2.1.1 o.2.1.2 o.2.2.1 o.2.2.2 K w := by
  apply S.law07_same_ok
  unfold S.law07_same
  have hT := h.tok
  refine h.al fun w1 h => ?_
  generalize w.heap.size = c at h ⊢
  (repeat (first | (refine h.al fun w h => ?_) | (refine h.dr fun w h => ?_) | (refine h.lc_2 rfl ?_) | (refine h.lc_6 rfl ?_) | (refine ⟨_, h.ldc rfl, ?_⟩) | (refine ⟨_, h.ldd rfl, ?_⟩) | (refine h.hd rfl ?_) | (refine ⟨h.ldc rfl, ?_⟩) | (refine ⟨h.ldd rfl, ?_⟩) | (refine h.stLc rfl rfl fun w h => ?_) | (refine exs ?_) | (refine _root_.Go.Vc.a2 ?_) | (refine h.stc rfl rfl fun w h => ?_) | (refine h.std rfl rfl fun w h => ?_)))
  have fin : ∀ (w : World) (T' : Tr) (e : Int), stepT T o = T' → Own B w0 w [TreeA b T', RefA r T', StarA R] → True := fun _ _ _ _ _ => trivial
  refine ceq (fun k0 => ?_) (fun k0 => ?_)
  · (repeat (first | (refine h.al fun w h => ?_) | (refine h.dr fun w h => ?_) | (refine h.lc_2 rfl ?_) | (refine h.lc_6 rfl ?_) | (refine ⟨_, h.ldc rfl, ?_⟩) | (refine ⟨_, h.ldd rfl, ?_⟩) | (refine h.hd rfl ?_) | (refine ⟨h.ldc rfl, ?_⟩) | (refine ⟨h.ldd rfl, ?_⟩) | (refine h.stLc rfl rfl fun w h => ?_) | (refine exs ?_) | (refine _root_.Go.Vc.a2 ?_) | (refine h.stc rfl rfl fun w h => ?_) | (refine h.std rfl rfl fun w h => ?_)))
    refine tree_Root_spec (s := o.2.1) hl (h.pick (A := TreeA b T)) fun w h => ?_
    (repeat (first | (refine h.al fun w h => ?_) | (refine h.dr fun w h => ?_) | (refine h.lc_2 rfl ?_) | (refine h.lc_6 rfl ?_) | (refine ⟨_, h.ldc rfl, ?_⟩) | (refine ⟨_, h.ldd rfl, ?_⟩) | (refine h.hd rfl ?_) | (refine ⟨h.ldc rfl, ?_⟩) | (refine ⟨h.ldd rfl, ?_⟩) | (refine h.stLc rfl rfl fun w h => ?_) | (refine exs ?_) | (refine _root_.Go.Vc.a2 ?_) | (refine h.stc rfl rfl fun w h => ?_) | (refine h.std rfl rfl fun w h => ?_)))
    refine rRoot_spec (s := o.2.1) hT hl (h.pick (A := RefA r T)) fun w h => ?_
    rw [beq_self_eq_true]
    have e : stepT T o = (rootN T o.2.1).2 := by unfold stepT; rw [if_pos k0]
    rw [e] at hK
    exact hK _ h.sub
  refine ceq (fun k1 => ?_) (fun k1 => ?_)
  · (repeat (first | (refine h.al fun w h => ?_) | (refine h.dr fun w h => ?_) | (refine h.lc_2 rfl ?_) | (refine h.lc_6 rfl ?_) | (refine ⟨_, h.ldc rfl, ?_⟩) | (refine ⟨_, h.ldd rfl, ?_⟩) | (refine h.hd rfl ?_) | (refine ⟨h.ldc rfl, ?_⟩) | (refine ⟨h.ldd rfl, ?_⟩) | (refine h.stLc rfl rfl fun w h => ?_) | (refine exs ?_) | (refine _root_.Go.Vc.a2 ?_) | (refine h.stc rfl rfl fun w h => ?_) | (refine h.std rfl rfl fun w h => ?_)))
    refine tree_Add_spec (p := o.2.1) (s := o.2.2) hl (h.pick (A := TreeA b T)) fun w h => ?_
    (repeat (first | (refine h.al fun w h => ?_) | (refine h.dr fun w h => ?_) | (refine h.lc_2 rfl ?_) | (refine h.lc_6 rfl ?_) | (refine ⟨_, h.ldc rfl, ?_⟩) | (refine ⟨_, h.ldd rfl, ?_⟩) | (refine h.hd rfl ?_) | (refine ⟨h.ldc rfl, ?_⟩) | (refine ⟨h.ldd rfl, ?_⟩) | (refine h.stLc rfl rfl fun w h => ?_) | (refine exs ?_) | (refine _root_.Go.Vc.a2 ?_) | (refine h.stc rfl rfl fun w h => ?_) | (refine h.std rfl rfl fun w h => ?_)))
    refine rAdd_spec (p := o.2.1) (s := o.2.2) hT hl (h.pick (A := RefA r T)) fun w h => ?_
    rw [beq_self_eq_true]
    have e : stepT T o = (addN T o.2.1 o.2.2).2 := by unfold stepT; rw [if_neg k0, if_pos k1]
    rw [e] at hK
    exact hK _ h.sub
  refine ceq (fun k2 => ?_) (fun k2 => ?_)
  · (repeat (first | (refine h.al fun w h => ?_) | (refine h.dr fun w h => ?_) | (refine h.lc_2 rfl ?_) | (refine h.lc_6 rfl ?_) | (refine ⟨_, h.ldc rfl, ?_⟩) | (refine ⟨_, h.ldd rfl, ?_⟩) | (refine h.hd rfl ?_) | (refine ⟨h.ldc rfl, ?_⟩) | (refine ⟨h.ldd rfl, ?_⟩) | (refine h.stLc rfl rfl fun w h => ?_) | (refine exs ?_) | (refine _root_.Go.Vc.a2 ?_) | (refine h.stc rfl rfl fun w h => ?_) | (refine h.std rfl rfl fun w h => ?_)))
    refine tree_Take_spec (s := o.2.1) (h.pick (A := TreeA b T)) fun w h => ?_
    (repeat (first | (refine h.al fun w h => ?_) | (refine h.dr fun w h => ?_) | (refine h.lc_2 rfl ?_) | (refine h.lc_6 rfl ?_) | (refine ⟨_, h.ldc rfl, ?_⟩) | (refine ⟨_, h.ldd rfl, ?_⟩) | (refine h.hd rfl ?_) | (refine ⟨h.ldc rfl, ?_⟩) | (refine ⟨h.ldd rfl, ?_⟩) | (refine h.stLc rfl rfl fun w h => ?_) | (refine exs ?_) | (refine _root_.Go.Vc.a2 ?_) | (refine h.stc rfl rfl fun w h => ?_) | (refine h.std rfl rfl fun w h => ?_)))
    refine rTake_spec (s := o.2.1) hT (h.pick (A := RefA r T)) fun w h => ?_
    rw [beq_self_eq_true]
    have e : stepT T o = (takeN T o.2.1).2 := by unfold stepT; rw [if_neg k0, if_neg k1, if_pos k2]
    rw [e] at hK
    exact hK _ h.sub
  refine ceq (fun k3 => ?_) (fun k3 => ?_)
  · (repeat (first | (refine h.al fun w h => ?_) | (refine h.dr fun w h => ?_) | (refine h.lc_2 rfl ?_) | (refine h.lc_6 rfl ?_) | (refine ⟨_, h.ldc rfl, ?_⟩) | (refine ⟨_, h.ldd rfl, ?_⟩) | (refine h.hd rfl ?_) | (refine ⟨h.ldc rfl, ?_⟩) | (refine ⟨h.ldd rfl, ?_⟩) | (refine h.stLc rfl rfl fun w h => ?_) | (refine exs ?_) | (refine _root_.Go.Vc.a2 ?_) | (refine h.stc rfl rfl fun w h => ?_) | (refine h.std rfl rfl fun w h => ?_)))
    refine tree_Move_spec (f := o.2.1) (t := o.2.2) (h.pick (A := TreeA b T)) fun w h => ?_
    (repeat (first | (refine h.al fun w h => ?_) | (refine h.dr fun w h => ?_) | (refine h.lc_2 rfl ?_) | (refine h.lc_6 rfl ?_) | (refine ⟨_, h.ldc rfl, ?_⟩) | (refine ⟨_, h.ldd rfl, ?_⟩) | (refine h.hd rfl ?_) | (refine ⟨h.ldc rfl, ?_⟩) | (refine ⟨h.ldd rfl, ?_⟩) | (refine h.stLc rfl rfl fun w h => ?_) | (refine exs ?_) | (refine _root_.Go.Vc.a2 ?_) | (refine h.stc rfl rfl fun w h => ?_) | (refine h.std rfl rfl fun w h => ?_)))
    refine rMove_spec (f := o.2.1) (t := o.2.2) hT (h.pick (A := RefA r T)) fun w h => ?_
    rw [beq_self_eq_true]
    have e : stepT T o = (moveN T o.2.1 o.2.2).2 := by unfold stepT; rw [if_neg k0, if_neg k1, if_neg k2, if_pos k3]
    rw [e] at hK
    exact hK _ h.sub
  · have e : stepT T o = T := by unfold stepT; rw [if_neg k0, if_neg k1, if_neg k2, if_neg k3]
    rw [e] at hK
    exact hK _ h.sub
theorem law07_TreeDoes_spec {s1 : Sl} {ops : List Op7} {K : Bool → World → Prop} (hi : Inp op7E w0 s1 ops) (hg : ∀ x ∈ ops, op7Good x) (h : Own w0.heap.size w0 w []) (hK : ∀ w', Own w0.heap.size w0 w' [] → K true w') : C.law07_TreeDoes s1 K w := by
  apply S.law07_TreeDoes_ok
  unfold S.law07_TreeDoes
  have hlen := (hi.rd ([] : List Asn)).len
  refine tree_New_spec h fun b w h => ?_
  refine h.al fun w2 h => ?_
  generalize w.heap.size = r at h ⊢
  have h : Own w0.heap.size w0 w2 (SlT intE ⟨none, 0, 0⟩ (dl7 []) :: _) := Own.nilS h
  have h : Own w0.heap.size w0 w2 (SlT slotE ⟨none, 0, 0⟩ (sl7 []) :: _) := Own.nilS h
  have h : Own w0.heap.size w0 w2 (RefA r [] :: TreeA b [] :: []) := Own.mk_ref (s := ⟨none, 0, 0⟩) (d := ⟨none, 0, 0⟩) h
  have h : Own w0.heap.size w0 w2 [TreeA b [], RefA r []] := h.sub
  refine cbF rfl ?_
  intro l hl
  have loop : ∀ (m i b : Nat) (T : Tr) (w : World), i + m = 60 → i ≤ ops.length → T.length ≤ i → Own w0.heap.size w0 w [TreeA b T, RefA r T] → l (some ⟨b, 0, none⟩) (i : Int) w := by
    intro m
    induction m with
    | zero =>
      intro i b T w him hil hTl h
      apply hl
      intro k9 hk9
      have exit_ : ∀ t, t = false → k9 t w := fun t e => by
        apply hk9
        refine cbF e ?_
        exact law07_fixed_spec h fun w h => hK _ h.sub
      refine cdec (fun e1 => ?_) (fun e1 => exit_ _ rfl)
      exact exit_ _ (decide_eq_false (by omega))
    | succ m ih =>
      intro i b T w him hil hTl h
      apply hl
      intro k9 hk9
      have exit_ : ∀ t, t = false → k9 t w := fun t e => by
        apply hk9
        refine cbF e ?_
        exact law07_fixed_spec h fun w h => hK _ h.sub
      refine cdec (fun e1 => ?_) (fun e1 => exit_ _ rfl)
      obtain ⟨o, ho⟩ : ∃ o, ops[i]? = some o := ⟨_, List.getElem?_eq_getElem (by omega)⟩
      have hwi : IntKind.i64.wrap ((i : Int) + 1) = ((i + 1 : Nat) : Int) := by rw [wr (by omega) (by omega)]; omega
      have hsl := step_len T o
      refine hk9 _ _ (cdecT (by omega) ?_)
      have hr2 : Rd op7E w0.heap.size w0 [TreeA b T, RefA r T] s1 ops := hi.rd _
      refine hr2.ix h rfl ho fun a ha h0 hc => ?_
      refine ldOp7 hc ?_
      refine h.al fun w3 h => ?_
      generalize w.heap.size = c at h ⊢
      (repeat (first | (refine h.al fun w h => ?_) | (refine h.dr fun w h => ?_) | (refine h.lc_2 rfl ?_) | (refine h.lc_6 rfl ?_) | (refine ⟨_, h.ldc rfl, ?_⟩) | (refine ⟨_, h.ldd rfl, ?_⟩) | (refine h.hd rfl ?_) | (refine ⟨h.ldc rfl, ?_⟩) | (refine ⟨h.ldd rfl, ?_⟩) | (refine h.stLc rfl rfl fun w h => ?_) | (refine exs ?_) | (refine _root_.Go.Vc.a2 ?_) | (refine h.stc rfl rfl fun w h => ?_) | (refine h.std rfl rfl fun w h => ?_)))
      (dsimp only [putAt, List.set_cons_zero, List.set_cons_succ] at h)
      intro k21 hk21
      have main : ∀ (b : Nat) (w : World), Own w0.heap.size w0 w [BlkA c [.int .i64 o.1, .int .i64 o.2.1.1, .int .i64 o.2.1.2, .int .i64 o.2.2.1, .int .i64 o.2.2.2], TreeA b T, RefA r T] → k21 (some ⟨b, 0, none⟩) w := by
        intro b w h
        apply hk21
        refine h.lc_5 rfl ?_
        have h : Own w0.heap.size w0 w [TreeA b T, RefA r T, BlkA c [.int .i64 o.1, .int .i64 o.2.1.1, .int .i64 o.2.1.2, .int .i64 o.2.2.1, .int .i64 o.2.2.2]] := h.sub
        refine same7_spec (o := o) (by omega) h fun w h => ?_
        have hT := h.tok
        generalize stepT T o = T2 at h hT hsl
        have hall : (sl7 T2).length = T2.length := sl7_len T2
        refine cbF rfl ?_
        (repeat (first | (refine h.al fun w h => ?_) | (refine h.dr fun w h => ?_) | (refine h.lc_2 rfl ?_) | (refine h.lc_6 rfl ?_) | (refine ⟨_, h.ldc rfl, ?_⟩) | (refine ⟨_, h.ldd rfl, ?_⟩) | (refine h.hd rfl ?_) | (refine ⟨h.ldc rfl, ?_⟩) | (refine ⟨h.ldd rfl, ?_⟩) | (refine h.stLc rfl rfl fun w h => ?_) | (refine exs ?_) | (refine _root_.Go.Vc.a2 ?_) | (refine h.stc rfl rfl fun w h => ?_) | (refine h.std rfl rfl fun w h => ?_)))
        refine tree_All_spec (h.pick (A := TreeA b T2)) fun l1 w h => ?_
        have hl1 := h.lenc l1
        rw [List.length_map] at hl1
        (repeat (first | (refine h.al fun w h => ?_) | (refine h.dr fun w h => ?_) | (refine h.lc_2 rfl ?_) | (refine h.lc_6 rfl ?_) | (refine ⟨_, h.ldc rfl, ?_⟩) | (refine ⟨_, h.ldd rfl, ?_⟩) | (refine h.hd rfl ?_) | (refine ⟨h.ldc rfl, ?_⟩) | (refine ⟨h.ldd rfl, ?_⟩) | (refine h.stLc rfl rfl fun w h => ?_) | (refine exs ?_) | (refine _root_.Go.Vc.a2 ?_) | (refine h.stc rfl rfl fun w h => ?_) | (refine h.std rfl rfl fun w h => ?_)))
        refine under_p (s1 := o.2.1.1) (s2 := o.2.1.2) (l := underN T2 o.2.1) rfl (h.pick (A := TreeA b T2)) fun u w h => ?_
        have hu := h.lenc u
        have hul : (underN T2 o.2.1).length ≤ T2.length := under_len
        (repeat (first | (refine h.al fun w h => ?_) | (refine h.dr fun w h => ?_) | (refine h.lc_2 rfl ?_) | (refine h.lc_6 rfl ?_) | (refine ⟨_, h.ldc rfl, ?_⟩) | (refine ⟨_, h.ldd rfl, ?_⟩) | (refine h.hd rfl ?_) | (refine ⟨h.ldc rfl, ?_⟩) | (refine ⟨h.ldd rfl, ?_⟩) | (refine h.stLc rfl rfl fun w h => ?_) | (refine exs ?_) | (refine _root_.Go.Vc.a2 ?_) | (refine h.stc rfl rfl fun w h => ?_) | (refine h.std rfl rfl fun w h => ?_)))
        refine tree_Parent_spec (s := o.2.2) (h.pick (A := TreeA b T2)) fun w h => ?_
        refine h.al fun w4 h => ?_
        generalize w.heap.size = c1 at h ⊢
        (repeat (first | (refine h.al fun w h => ?_) | (refine h.dr fun w h => ?_) | (refine h.lc_2 rfl ?_) | (refine h.lc_6 rfl ?_) | (refine ⟨_, h.ldc rfl, ?_⟩) | (refine ⟨_, h.ldd rfl, ?_⟩) | (refine h.hd rfl ?_) | (refine ⟨h.ldc rfl, ?_⟩) | (refine ⟨h.ldd rfl, ?_⟩) | (refine h.stLc rfl rfl fun w h => ?_) | (refine exs ?_) | (refine _root_.Go.Vc.a2 ?_) | (refine h.stc rfl rfl fun w h => ?_) | (refine h.std rfl rfl fun w h => ?_)))
        (dsimp only [putAt, List.set_cons_zero, List.set_cons_succ] at h)
        refine rParent_spec (s := o.2.2) hT (h.pick (A := RefA r T2)) fun w h => ?_
        refine h.al fun w5 h => ?_
        generalize w.heap.size = c2 at h ⊢
        (repeat (first | (refine h.al fun w h => ?_) | (refine h.dr fun w h => ?_) | (refine h.lc_2 rfl ?_) | (refine h.lc_6 rfl ?_) | (refine ⟨_, h.ldc rfl, ?_⟩) | (refine ⟨_, h.ldd rfl, ?_⟩) | (refine h.hd rfl ?_) | (refine ⟨h.ldc rfl, ?_⟩) | (refine ⟨h.ldd rfl, ?_⟩) | (refine h.stLc rfl rfl fun w h => ?_) | (refine exs ?_) | (refine _root_.Go.Vc.a2 ?_) | (refine h.stc rfl rfl fun w h => ?_) | (refine h.std rfl rfl fun w h => ?_)))
        (dsimp only [putAt, List.set_cons_zero, List.set_cons_succ] at h)
        intro k54 hk54
        have h := h.pick (A := RefA r T2)
        obtain ⟨sl, dd, h⟩ := h.ref
        have hsl2 := h.lenc sl
        (repeat (first | (refine h.al fun w h => ?_) | (refine h.dr fun w h => ?_) | (refine h.lc_2 rfl ?_) | (refine h.lc_6 rfl ?_) | (refine ⟨_, h.ldc rfl, ?_⟩) | (refine ⟨_, h.ldd rfl, ?_⟩) | (refine h.hd rfl ?_) | (refine ⟨h.ldc rfl, ?_⟩) | (refine ⟨h.ldd rfl, ?_⟩) | (refine h.stLc rfl rfl fun w h => ?_) | (refine exs ?_) | (refine _root_.Go.Vc.a2 ?_) | (refine h.stc rfl rfl fun w h => ?_) | (refine h.std rfl rfl fun w h => ?_)))
        refine ref07_Same_spec (xs := T2.map (·.1)) (ys := sl7 T2) (Rd.own (by simp [hl1])) (Rd.own hsl2) (by simp; omega) h fun w h => ?_
        have h := Own.mk_ref h
        refine cnb (fun e3 => absurd (show decide (T2.map (fun x : Leaf => x.1) = sl7 T2) = true from decide_eq_true rfl) (by rw [e3]; simp)) fun _ => ?_
        (repeat (first | (refine h.al fun w h => ?_) | (refine h.dr fun w h => ?_) | (refine h.lc_2 rfl ?_) | (refine h.lc_6 rfl ?_) | (refine ⟨_, h.ldc rfl, ?_⟩) | (refine ⟨_, h.ldd rfl, ?_⟩) | (refine h.hd rfl ?_) | (refine ⟨h.ldc rfl, ?_⟩) | (refine ⟨h.ldd rfl, ?_⟩) | (refine h.stLc rfl rfl fun w h => ?_) | (refine exs ?_) | (refine _root_.Go.Vc.a2 ?_) | (refine h.stc rfl rfl fun w h => ?_) | (refine h.std rfl rfl fun w h => ?_)))
        refine rUnder_spec (s := o.2.1) hT (h.pick (A := RefA r T2)) fun v w h => ?_
        have hv := h.lenc v
        refine ref07_Same_spec (xs := underN T2 o.2.1) (ys := underN T2 o.2.1) (Rd.own hu) (Rd.own hv) (by omega) h fun w h => ?_
        refine cnb (fun e3 => absurd e3 (by simp)) fun _ => ?_
        (repeat (first | (refine h.al fun w h => ?_) | (refine h.dr fun w h => ?_) | (refine h.lc_2 rfl ?_) | (refine h.lc_6 rfl ?_) | (refine ⟨_, h.ldc rfl, ?_⟩) | (refine ⟨_, h.ldd rfl, ?_⟩) | (refine h.hd rfl ?_) | (refine ⟨h.ldc rfl, ?_⟩) | (refine ⟨h.ldd rfl, ?_⟩) | (refine h.stLc rfl rfl fun w h => ?_) | (refine exs ?_) | (refine _root_.Go.Vc.a2 ?_) | (refine h.stc rfl rfl fun w h => ?_) | (refine h.std rfl rfl fun w h => ?_)))
        refine ⟨_, slotNe ((parentN T2 o.2.2).getD (0, 0)) ((parentN T2 o.2.2).getD (0, 0)), ?_⟩
        rw [decide_eq_true rfl]
        refine cbF rfl (hk54 _ _ (cbF (by simp) ?_))
        have h : Own w0.heap.size w0 w [SlT slotE l1 (T2.map (·.1)), SlT slotE u (underN T2 o.2.1), TreeA b T2, RefA r T2] := h.sub
        intro l57 hl57
        have loop1 : ∀ (m j : Nat) (xs : List Slot) (w : World), j + m = T2.length → xs.length = T2.length → Own w0.heap.size w0 w [SlT slotE l1 xs, SlT slotE u (underN T2 o.2.1), TreeA b T2, RefA r T2] → l57 (j : Int) w := by
          intro m
          induction m with
          | zero =>
            intro j xs w hj hxl h
            apply hl57
            refine cdecF (by omega) ?_
            intro l62 hl62
            have loop2 : ∀ (m j : Nat) (ys : List Slot) (w : World), j + m = (underN T2 o.2.1).length → ys.length = (underN T2 o.2.1).length → Own w0.heap.size w0 w [SlT slotE u ys, TreeA b T2, RefA r T2] → l62 (j : Int) w := by
              intro m
              induction m with
              | zero =>
                intro j ys w hj hyl h
                apply hl62
                refine cdecF (by omega) ?_
                rw [hwi]
                exact ih (i + 1) b T2 w (by omega) (by omega) (by omega) h.sub
              | succ m ih2 =>
                intro j ys w hj hyl h
                obtain ⟨y, hy⟩ : ∃ y, ys[j]? = some y := ⟨_, List.getElem?_eq_getElem (by omega)⟩
                apply hl62
                refine cdecT (by omega) ?_
                refine h.ixc (s := u) rfl hy fun a ha h0 hc => ?_
                refine Own.stFc (s := u) (E := slotE) (xs := ys) (i := (j : Int)) (j := j) (c := 1) (x := y) h (y.1, 99) rfl hy ha rfl (by decide) rfl fun w h => ?_
                rw [show IntKind.i64.wrap ((j : Int) + 1) = ((j + 1 : Nat) : Int) from by rw [wr (by omega) (by omega)]; omega]
                exact ih2 (j + 1) (ys.set j (y.1, 99)) w (by omega) (by rw [List.length_set]; exact hyl) h.sub
            exact loop2 (underN T2 o.2.1).length 0 (underN T2 o.2.1) w (by omega) rfl h.sub
          | succ m ih1 =>
            intro j xs w hj hxl h
            obtain ⟨y, hy⟩ : ∃ y, xs[j]? = some y := ⟨_, List.getElem?_eq_getElem (by omega)⟩
            apply hl57
            refine cdecT (by omega) ?_
            refine h.ixc (s := l1) rfl hy fun a ha h0 hc => ?_
            refine Own.stFc (s := l1) (E := slotE) (xs := xs) (i := (j : Int)) (j := j) (c := 1) (x := y) h (y.1, 99) rfl hy ha rfl (by decide) rfl fun w h => ?_
            rw [show IntKind.i64.wrap ((j : Int) + 1) = ((j + 1 : Nat) : Int) from by rw [wr (by omega) (by omega)]; omega]
            exact ih1 (j + 1) (xs.set j (y.1, 99)) w (by omega) (by rw [List.length_set]; exact hxl) h.sub
        exact loop1 T2.length 0 (T2.map (·.1)) w (by omega) (by simp) h
      refine ceq (fun k4 => ?_) (fun k4 => ?_)
      · refine tree_Copy_spec (h.pick (A := TreeA b T)) fun b2 w h => ?_
        (repeat (first | (refine h.al fun w h => ?_) | (refine h.dr fun w h => ?_) | (refine h.lc_2 rfl ?_) | (refine h.lc_6 rfl ?_) | (refine ⟨_, h.ldc rfl, ?_⟩) | (refine ⟨_, h.ldd rfl, ?_⟩) | (refine h.hd rfl ?_) | (refine ⟨h.ldc rfl, ?_⟩) | (refine ⟨h.ldd rfl, ?_⟩) | (refine h.stLc rfl rfl fun w h => ?_) | (refine exs ?_) | (refine _root_.Go.Vc.a2 ?_) | (refine h.stc rfl rfl fun w h => ?_) | (refine h.std rfl rfl fun w h => ?_)))
        refine tree_Take_spec (s := o.2.1) (h.pick (A := TreeA b T)) fun w h => ?_
        generalize hTT : (takeN T o.2.1).2 = T3 at h
        have hT3 : T3.length ≤ T.length := by
          rw [← hTT]; unfold takeN lift1
          split
          · exact Nat.le_refl _
          · rename_i j hj
            obtain ⟨x, hx, _⟩ := place_some hj
            have := end_le T (List.getElem?_eq_some_iff.1 hx).1
            simp; omega
        refine tree_Root_spec (s := (99, 0)) (by omega) (h.pick (A := TreeA b T3)) fun w h => ?_
        refine cbF rfl ?_
        exact main b2 w h.sub
      · exact main b _ h.sub
  exact loop 60 0 b [] w2 (by omega) (by omega) (by simp) h
end
end Go.Proofs.Ytmfbhjfkagnahaa
