/- Layer 5: SlotsDoes. -/
import Derived.Test.YtdlcejjiccknlaaSD
import Derived.Test.YtdlcejjiccknlaaS0
set_option linter.unusedVariables false
set_option linter.unusedSimpArgs false
set_option maxRecDepth 8000
namespace Go.Proofs.Ytdlcejjiccknlaa
open Go Go.Vc Go.Proofs Go.Shelf

def spoil (x : Slot × Cap) : Slot × Cap := (x.1, { x.2 with obj := 99 })
section
variable {w0 w : World}
theorem law05_SlotsDoes_spec {l1 : Sl} {xs : List Op5} {K : Bool → World → Prop} (hi1 : Inp op5E w0 l1 xs) (hg1 : ∀ x ∈ xs, Op5R x)
    (h : Vc.Own w0.heap.size w0 w []) (hK : ∀ w', Vc.Own w0.heap.size w0 w' [] → K true w') : C.law05_SlotsDoes l1 K w := by
  apply S.law05_SlotsDoes_ok
  unfold S.law05_SlotsDoes
  refine slots_New_spec h fun b w h => ?_
  refine h.al fun w2 h => ?_
  generalize w.heap.size = k at h ⊢
  have h : Vc.Own w0.heap.size w0 w2 [NodesA b [] (fun _ => none), RNodesA k [] (fun _ => none)] := by
    have h3 : Vc.Own w0.heap.size w0 w2 [RNodesA k [] (fun _ => none), NodesA b [] (fun _ => none)] :=
      Vc.Own.mk_rnodes (s := ⟨none, 0, 0⟩) (ss := []) ⟨by simp, by simp, fun s c h => by cases h⟩ (Vc.Own.rows_nil (Vc.Own.nilS h).up1)
    exact h3.sub
  refine cbF rfl ?_
  have hl := hi1.len
  intro l5 hl5
  have loop : ∀ (m i n : Nat) (bits : List Int) (H : Hs) (w : World), i + m = 81 → i ≤ 80 → i ≤ xs.length → Vc.Own w0.heap.size w0 w [NodesA n bits H, RNodesA k bits H] → l5 (some ⟨n, 0, none⟩) (i : Int) w := by
    intro m
    induction m with
    | zero => intro i n bits H w h1 h2; omega
    | succ m ih =>
      intro i n bits H w him hi80 hix h
      apply hl5
      intro k9 hk9
      have exit_ : k9 false w := by
        apply hk9
        refine cbF rfl ?_
        exact law05_fixed_spec h fun w h => hK _ h.sub
      refine cdec (fun e1 => ?_) (fun _ => exit_)
      by_cases e2 : i < 80
      · rw [decide_eq_true (by omega)]
        obtain ⟨o, ho⟩ : ∃ o, xs[i]? = some o := ⟨_, List.getElem?_eq_getElem (by omega)⟩
        have hoc := (hg1 o (List.mem_of_getElem? ho)).c
        apply hk9
        refine cbT rfl ?_
        have hrm : Rd op5E w0.heap.size w0 [NodesA n bits H, RNodesA k bits H] l1 xs := hi1.rd _
        refine hrm.ix h rfl ho fun a ha h0 hc => ldOp5 hc ?_
        refine h.al fun w2 h => ?_
        generalize w.heap.size = p at h ⊢
        refine h.stLc rfl rfl fun w h => ?_
        (dsimp only [putAt, List.set_cons_zero, List.set_cons_succ] at h)
        (repeat (first | (refine h.al fun w h => ?_) | (refine h.dr fun w h => ?_) | (refine h.lc_2 rfl ?_) | (refine h.lc_6 rfl ?_) | (refine ⟨_, h.ldc rfl, ?_⟩) | (refine ⟨_, h.ldd rfl, ?_⟩) | (refine h.hd rfl ?_) | (refine ⟨h.ldc rfl, ?_⟩) | (refine ⟨h.ldd rfl, ?_⟩) | (refine h.stLc rfl rfl fun w h => ?_) | (refine exs ?_) | (refine _root_.Go.Vc.a2 ?_) | (refine h.stc rfl rfl fun w h => ?_) | (refine h.std rfl rfl fun w h => ?_)))
        intro k28 hk28
        have next : ∀ (n : Nat) (w : World), Vc.Own w0.heap.size w0 w [NodesA n bits H, RNodesA k bits H, BlkA p [.int .i64 o.kind, .int .i64 o.n, .int .i64 o.a0, .int .i64 o.a1, .int .i64 o.b0, .int .i64 o.b1, .int .i64 o.c.kind, .int .i64 o.c.obj, .int .i64 o.c.rights, .int .u64 o.c.badge, .int .u64 o.c.guard, .int .i64 o.c.bits]] → k28 (some ⟨n, 0, none⟩) w := by
          intro n w h
          apply hk28
          refine h.lc_12 rfl ?_
          refine law05_same_spec hoc h fun bits H w h => ?_
          refine cbF rfl ?_
          have hkk := h.nok
          (repeat (first | (refine h.al fun w h => ?_) | (refine h.dr fun w h => ?_) | (refine h.lc_2 rfl ?_) | (refine h.lc_6 rfl ?_) | (refine ⟨_, h.ldc rfl, ?_⟩) | (refine ⟨_, h.ldd rfl, ?_⟩) | (refine h.hd rfl ?_) | (refine ⟨h.ldc rfl, ?_⟩) | (refine ⟨h.ldd rfl, ?_⟩) | (refine h.stLc rfl rfl fun w h => ?_) | (refine exs ?_) | (refine _root_.Go.Vc.a2 ?_) | (refine h.stc rfl rfl fun w h => ?_) | (refine h.std rfl rfl fun w h => ?_)))
          refine slots_Get_n (s := o.a) h 0 rfl fun w c e he hcr h => ?_
          (repeat (first | (refine h.al fun w h => ?_) | (refine h.dr fun w h => ?_) | (refine h.lc_2 rfl ?_) | (refine h.lc_6 rfl ?_) | (refine ⟨_, h.ldc rfl, ?_⟩) | (refine ⟨_, h.ldd rfl, ?_⟩) | (refine h.hd rfl ?_) | (refine ⟨h.ldc rfl, ?_⟩) | (refine ⟨h.ldd rfl, ?_⟩) | (refine h.stLc rfl rfl fun w h => ?_) | (refine exs ?_) | (refine _root_.Go.Vc.a2 ?_) | (refine h.stc rfl rfl fun w h => ?_) | (refine h.std rfl rfl fun w h => ?_)))
          (dsimp only [putAt, List.set_cons_zero, List.set_cons_succ] at h)
          (repeat (first | (refine h.al fun w h => ?_) | (refine h.dr fun w h => ?_) | (refine h.lc_2 rfl ?_) | (refine h.lc_6 rfl ?_) | (refine ⟨_, h.ldc rfl, ?_⟩) | (refine ⟨_, h.ldd rfl, ?_⟩) | (refine h.hd rfl ?_) | (refine ⟨h.ldc rfl, ?_⟩) | (refine ⟨h.ldd rfl, ?_⟩) | (refine h.stLc rfl rfl fun w h => ?_) | (refine exs ?_) | (refine _root_.Go.Vc.a2 ?_) | (refine h.stc rfl rfl fun w h => ?_) | (refine h.std rfl rfl fun w h => ?_)))
          refine ref05_Get_spec (s := o.a) h.up2 fun w c2 e2 he2 hcr2 h => ?_
          rw [← he] at he2
          cases he2
          (repeat (first | (refine h.al fun w h => ?_) | (refine h.dr fun w h => ?_) | (refine h.lc_2 rfl ?_) | (refine h.lc_6 rfl ?_) | (refine ⟨_, h.ldc rfl, ?_⟩) | (refine ⟨_, h.ldd rfl, ?_⟩) | (refine h.hd rfl ?_) | (refine ⟨h.ldc rfl, ?_⟩) | (refine ⟨h.ldd rfl, ?_⟩) | (refine h.stLc rfl rfl fun w h => ?_) | (refine exs ?_) | (refine _root_.Go.Vc.a2 ?_) | (refine h.stc rfl rfl fun w h => ?_) | (refine h.std rfl rfl fun w h => ?_)))
          (dsimp only [putAt, List.set_cons_zero, List.set_cons_succ] at h)
          (repeat (first | (refine h.al fun w h => ?_) | (refine h.dr fun w h => ?_) | (refine h.lc_2 rfl ?_) | (refine h.lc_6 rfl ?_) | (refine ⟨_, h.ldc rfl, ?_⟩) | (refine ⟨_, h.ldd rfl, ?_⟩) | (refine h.hd rfl ?_) | (refine ⟨h.ldc rfl, ?_⟩) | (refine ⟨h.ldd rfl, ?_⟩) | (refine h.stLc rfl rfl fun w h => ?_) | (refine exs ?_) | (refine _root_.Go.Vc.a2 ?_) | (refine h.stc rfl rfl fun w h => ?_) | (refine h.std rfl rfl fun w h => ?_)))
          refine slots_Nodes_Size_spec h 3 rfl ?_
          (repeat (first | (refine h.al fun w h => ?_) | (refine h.dr fun w h => ?_) | (refine h.lc_2 rfl ?_) | (refine h.lc_6 rfl ?_) | (refine ⟨_, h.ldc rfl, ?_⟩) | (refine ⟨_, h.ldd rfl, ?_⟩) | (refine h.hd rfl ?_) | (refine ⟨h.ldc rfl, ?_⟩) | (refine ⟨h.ldd rfl, ?_⟩) | (refine h.stLc rfl rfl fun w h => ?_) | (refine exs ?_) | (refine _root_.Go.Vc.a2 ?_) | (refine h.stc rfl rfl fun w h => ?_) | (refine h.std rfl rfl fun w h => ?_)))
          refine ref05_Size_spec h.up1 fun w h => ?_
          refine slots_Nodes_Held_spec h.up3 fun s hs w hh h => ?_
          have hls := len_held hkk hh
          intro k79 hk79
          (repeat (first | (refine h.al fun w h => ?_) | (refine h.dr fun w h => ?_) | (refine h.lc_2 rfl ?_) | (refine h.lc_6 rfl ?_) | (refine ⟨_, h.ldc rfl, ?_⟩) | (refine ⟨_, h.ldd rfl, ?_⟩) | (refine h.hd rfl ?_) | (refine ⟨h.ldc rfl, ?_⟩) | (refine ⟨h.ldd rfl, ?_⟩) | (refine h.stLc rfl rfl fun w h => ?_) | (refine exs ?_) | (refine _root_.Go.Vc.a2 ?_) | (refine h.stc rfl rfl fun w h => ?_) | (refine h.std rfl rfl fun w h => ?_)))
          refine ⟨_, capNe c c, ?_⟩
          refine cbF (by simp) (cbF (by simp) (cbF (by simp) (cbF (by simp) ?_)))
          refine ref05_Held_spec h.up2 fun s2 hs2 w hh2 h => ?_
          have e := hh2.uniq hh
          subst e
          refine ref05_Same_spec h (Rd.own (h.lenc s)) (Rd.own (h.lenc s2)) (by omega) fun w h => ?_
          rw [show (!decide (hs2 = hs2)) = false from by simp]
          apply hk79
          refine cbF rfl ?_
          intro l82 hl82
          have hlen := h.lenc s
          have loop2 : ∀ (m j : Nat) (ys : List (Slot × Cap)) (w : World), j + m = hs2.length → ys.length = hs2.length → Vc.Own w0.heap.size w0 w [SlT heldE s ys, NodesA n bits H, RNodesA k bits H] → l82 (j : Int) w := by
            intro m
            induction m with
            | zero =>
              intro j ys w hj hyl h
              apply hl82
              refine cdecF (by omega) ?_
              rw [show IntKind.i64.wrap ((i : Int) + 1) = ((i + 1 : Nat) : Int) from by rw [wr (by omega) (by omega)]; omega]
              exact ih (i + 1) n bits H w (by omega) (by omega) (by omega) h.sub
            | succ m ih2 =>
              intro j ys w hj hyl h
              obtain ⟨y, hy⟩ : ∃ y, ys[j]? = some y := ⟨_, List.getElem?_eq_getElem (by omega)⟩
              apply hl82
              refine cdecT (by omega) ?_
              refine h.ixc (s := s) rfl hy fun a ha h0 hc => ?_
              rw [Addr.add_add]
              refine Vc.Own.stFc (s := s) (E := heldE) (xs := ys) (i := (j : Int)) (j := j) (c := 3) (x := y) h (spoil y) rfl hy ha rfl (by decide) rfl fun w h => ?_
              rw [show IntKind.i64.wrap ((j : Int) + 1) = ((j + 1 : Nat) : Int) from by rw [wr (by omega) (by omega)]; omega]
              exact ih2 (j + 1) (ys.set j (spoil y)) w (by omega) (by rw [List.length_set]; exact hyl) h.sub
          exact loop2 hs2.length 0 hs2 w (by omega) rfl h.sub
        refine ceq (fun e => ?_) (fun _ => ?_)
        · refine slots_Nodes_Copy_spec h.up1 fun b' w h => ?_
          refine slots_Nodes_Make_spec h.up1 fun w h => ?_
          refine law05_thread_spec h fun w h => ?_
          refine slots_Nodes_Put_spec (s := (0, 0)) (c := thr) thrR h fun w h => ?_
          have fin : ∀ (bits' : List Int) (H' : Hs) (w : World), Vc.Own w0.heap.size w0 w [NodesA n bits' H', NodesA b' bits H, BlkA p [.int .i64 o.kind, .int .i64 o.n, .int .i64 o.a0, .int .i64 o.a1, .int .i64 o.b0, .int .i64 o.b1, .int .i64 o.c.kind, .int .i64 o.c.obj, .int .i64 o.c.rights, .int .u64 o.c.badge, .int .u64 o.c.guard, .int .i64 o.c.bits], RNodesA k bits H] → (bif (some (⟨b', 0, none⟩ : Addr)).isNone then K false w else k28 (some ⟨b', 0, none⟩) w) := fun bits' H' w h => by
            refine cbF rfl ?_
            exact next b' w h.sub
          refine slots_Nodes_Take_spec (s := (0, 1)) h (fun _ w h => ?_) (fun _ _ w h => ?_) (fun _ _ _ w h => ?_)
          · exact fin _ _ w h
          · exact fin _ _ w h
          · exact fin _ _ w h
        · exact next n w h.sub
      · rw [decide_eq_false (by omega)]
        exact exit_
  exact loop 81 0 b [] _ w2 (by omega) (by omega) (by omega) h
end
end Go.Proofs.Ytdlcejjiccknlaa
