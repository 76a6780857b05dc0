/- Layer 5: a copy; a call done by the program and by the document; SlotsDoes. -/
import Derived.Test.YtdlcejjiccknlaaRS4
import Derived.Test.YtdlcejjiccknlaaS0
import Derived.Test.YtdlcejjiccknlaaS4
import Derived.Test.YtdlcejjiccknlaaS5
set_option linter.unusedVariables false
set_option linter.unusedSimpArgs false
set_option maxRecDepth 8000
namespace Go.Proofs.Ytdlcejjiccknlaa
open Go Go.Vc Go.Proofs Go.Shelf

section
variable {B : Nat} {w0 w : World} {R L : List Asn} {b : Nat} {bits : List Int} {H : Hs}
theorem Clone_int5 {s : Sl} {xs : List Int} {K : Sl → World → Prop} [I : SlIn s L Int intE xs] (h : Vc.Own B w0 w L) (hbig : xs.length ≤ 1000000) (hK : ∀ s' w', Vc.Own B w0 w' (SlT intE s' xs :: L) → K s' w') : C.slices_Clone_int_int s K w := by
  apply S.slices_Clone_int_int_ok
  unfold S.slices_Clone_int_int
  have hlen := h.lenc s
  cases hn : s.a with
  | none =>
    refine cbT rfl ?_
    have hx : xs = [] := by
      cases xs with
      | nil => rfl
      | cons x xs => obtain ⟨_, _, ha, _⟩ := h.get I.i I.at_ (j := 0) (x := x) rfl; rw [hn] at ha; cases ha
    subst hx
    exact hK _ w (Vc.Own.nilS h)
  | some a =>
    refine cbF rfl ?_
    refine h.al fun w' h => ?_
    generalize w.heap.size = b at h ⊢
    have h2 : Vc.Own B w0 w' (SlT intE ⟨some (Addr.mk b 0 none), 0, 0⟩ [] :: L) := Vc.Own.empty h
    have hx2 := h2.slO (I.i + 1) (by simpa using I.at_)
    rw [← hn]
    exact Vc.Own.app (s := ⟨some (Addr.mk b 0 none), 0, 0⟩) (xs := []) (ys := xs) Try.underlying32 (show Try.prog.info? 3 = some Try.t3 from by kernel_rfl) (zv := .int .i64 0) (by kernel_rfl) (by kernel_rfl) rfl (by decide) h2 0 rfl hx2 hlen (by
      have e : Try.t3.bytes = 8 := by kernel_rfl
      rw [e, List.length_nil]; omega) fun s' w _ h => hK _ w h
theorem Clone_slots {mb : Nat} {M : List (Slot × Cap)} {K : Option Nat → World → Prop} (h : Vc.Own B w0 w L) (i : Nat) (hi : L[i]? = some (slotsA mb M)) (hK : ∀ m' w', Vc.Own B w0 w' (slotsA m' M :: L) → K (some m') w') : C.maps_Clone_map_api_Slot_api_Cap_api_Slot_api_Cap (some mb) K w := by
  have hM : MapR encPair encCap w mb M := (h.take i hi).head fun _ h => h.2
  obtain ⟨es, c, hb, h2⟩ := hM.ex
  unfold C.maps_Clone_map_api_Slot_api_Cap_api_Slot_api_Cap
  refine okF_mk Try.func65 rfl ?_
  refine (AnyW.maps_Clone Try.cloneA mb es c w hb).mono ?_
  rintro e w' ⟨rfl, rfl⟩
  refine ⟨_, rfl, hK _ _ (h.new (A' := slotsA w.heap.size M) (G' := fun k => k = w.heap.size) (upd_alloc _ _) ⟨rfl, ⟨⟨es, c, heap_alloc_new _ _, h2⟩, hM.nodup⟩⟩ fun k e => ⟨by omega, by rw [e]; simp⟩)⟩
theorem slots_Nodes_Copy_spec {K : Option Addr → World → Prop} (h : Vc.Own B w0 w (NodesA b bits H :: R)) (hK : ∀ b' w', Vc.Own B w0 w' (NodesA b' bits H :: NodesA b bits H :: R) → K (some ⟨b', 0, none⟩) w') : C.slots_Nodes_Copy (some ⟨b, 0, none⟩) K w := by
  apply S.slots_Nodes_Copy_ok
  unfold S.slots_Nodes_Copy
  obtain ⟨⟨xs, m, M⟩, hk, hM, h⟩ := h.nodes
  dsimp only at hM h
  have hfew := hk.few
  refine h.dr fun w h => ?_
  refine ⟨_, rfl, xs, h.ldc rfl, _, rfl, some m, h.ldc rfl, ?_, trivial⟩
  refine Clone_int5 h (by omega) fun s w h => ?_
  refine ⟨h.ldc rfl, ?_, trivial⟩
  refine Clone_slots h 3 rfl fun m' w h => ?_
  refine ⟨?_, trivial⟩
  refine h.al fun w' h => ?_
  generalize w.heap.size = b' at h ⊢
  refine hK b' w' (Vc.Own.mk_nodes (s := s) (m := m') hk hM (Vc.Own.sub (L := NodesA b bits H :: BlkA b' [slV s, .map (some m')] :: SlT intE s bits :: slotsA m' M :: R) ?_))
  exact Vc.Own.mk_nodes (s := xs) (m := m) hk hM h.sub

theorem law05_same_spec {n k : Nat} {o : Op5} {K : Bool → World → Prop} (hoc : CapR o.c) (h : Vc.Own B w0 w (NodesA n bits H :: RNodesA k bits H :: R)) (hK : ∀ bits' H' w', Vc.Own B w0 w' (NodesA n bits' H' :: RNodesA k bits' H' :: R) → K true w') :
    C.law05_same (some ⟨n, 0, none⟩) (some ⟨k, 0, none⟩) o.kind o.n o.a0 o.a1 o.b0 o.b1 o.c.kind o.c.obj o.c.rights o.c.badge o.c.guard o.c.bits K w := by
  apply S.law05_same_ok
  unfold S.law05_same
  refine h.al fun w2 h => ?_
  generalize w.heap.size = p at h ⊢
  (repeat (first | (refine h.al fun w h => ?_) | (refine h.dr fun w h => ?_) | (refine h.lc_2 rfl ?_) | (refine h.lc_6 rfl ?_) | (refine ⟨_, h.ldc rfl, ?_⟩) | (refine ⟨_, h.ldd rfl, ?_⟩) | (refine h.hd rfl ?_) | (refine ⟨h.ldc rfl, ?_⟩) | (refine ⟨h.ldd rfl, ?_⟩) | (refine h.stLc rfl rfl fun w h => ?_) | (refine exs ?_) | (refine _root_.Go.Vc.a2 ?_) | (refine h.stc rfl rfl fun w h => ?_) | (refine h.std rfl rfl fun w h => ?_)))
  refine ceq (fun e => ?_) (fun _ => ?_)
  · (repeat (first | (refine h.al fun w h => ?_) | (refine h.dr fun w h => ?_) | (refine h.lc_2 rfl ?_) | (refine h.lc_6 rfl ?_) | (refine ⟨_, h.ldc rfl, ?_⟩) | (refine ⟨_, h.ldd rfl, ?_⟩) | (refine h.hd rfl ?_) | (refine ⟨h.ldc rfl, ?_⟩) | (refine ⟨h.ldd rfl, ?_⟩) | (refine h.stLc rfl rfl fun w h => ?_) | (refine exs ?_) | (refine _root_.Go.Vc.a2 ?_) | (refine h.stc rfl rfl fun w h => ?_) | (refine h.std rfl rfl fun w h => ?_)))
    refine slots_Nodes_Make_spec h.up1 fun w h => ?_
    (repeat (first | (refine h.al fun w h => ?_) | (refine h.dr fun w h => ?_) | (refine h.lc_2 rfl ?_) | (refine h.lc_6 rfl ?_) | (refine ⟨_, h.ldc rfl, ?_⟩) | (refine ⟨_, h.ldd rfl, ?_⟩) | (refine h.hd rfl ?_) | (refine ⟨h.ldc rfl, ?_⟩) | (refine ⟨h.ldd rfl, ?_⟩) | (refine h.stLc rfl rfl fun w h => ?_) | (refine exs ?_) | (refine _root_.Go.Vc.a2 ?_) | (refine h.stc rfl rfl fun w h => ?_) | (refine h.std rfl rfl fun w h => ?_)))
    refine ref05_Make_spec h.up2 fun w h => ?_
    refine cbT (by simp) ?_
    rw [show ((makeN bits o.n).2.1 == (makeN bits o.n).2.1) = true from by simp]
    exact hK _ _ _ (h.sub : Vc.Own B w0 w (NodesA n (makeN bits o.n).2.2 H :: RNodesA k (makeN bits o.n).2.2 H :: R))
  refine ceq (fun e => ?_) (fun _ => ?_)
  · (repeat (first | (refine h.al fun w h => ?_) | (refine h.dr fun w h => ?_) | (refine h.lc_2 rfl ?_) | (refine h.lc_6 rfl ?_) | (refine ⟨_, h.ldc rfl, ?_⟩) | (refine ⟨_, h.ldd rfl, ?_⟩) | (refine h.hd rfl ?_) | (refine ⟨h.ldc rfl, ?_⟩) | (refine ⟨h.ldd rfl, ?_⟩) | (refine h.stLc rfl rfl fun w h => ?_) | (refine exs ?_) | (refine _root_.Go.Vc.a2 ?_) | (refine h.stc rfl rfl fun w h => ?_) | (refine h.std rfl rfl fun w h => ?_)))
    refine slots_Nodes_Drop_spec h.up1 (fun g w h => ?_) (fun g g2 w h => ?_) (fun g g2 w h => ?_)
    · (repeat (first | (refine h.al fun w h => ?_) | (refine h.dr fun w h => ?_) | (refine h.lc_2 rfl ?_) | (refine h.lc_6 rfl ?_) | (refine ⟨_, h.ldc rfl, ?_⟩) | (refine ⟨_, h.ldd rfl, ?_⟩) | (refine h.hd rfl ?_) | (refine ⟨h.ldc rfl, ?_⟩) | (refine ⟨h.ldd rfl, ?_⟩) | (refine h.stLc rfl rfl fun w h => ?_) | (refine exs ?_) | (refine _root_.Go.Vc.a2 ?_) | (refine h.stc rfl rfl fun w h => ?_) | (refine h.std rfl rfl fun w h => ?_)))
      refine ref05_Drop_spec h.up2 (fun g w h => ?_) (fun g3 g2 w h => by rw [g] at g3; cases g3) (fun g3 g2 w h => by rw [g] at g3; cases g3)
      exact hK _ _ _ (h.sub : Vc.Own B w0 w (NodesA n bits H :: RNodesA k bits H :: R))
    · (repeat (first | (refine h.al fun w h => ?_) | (refine h.dr fun w h => ?_) | (refine h.lc_2 rfl ?_) | (refine h.lc_6 rfl ?_) | (refine ⟨_, h.ldc rfl, ?_⟩) | (refine ⟨_, h.ldd rfl, ?_⟩) | (refine h.hd rfl ?_) | (refine ⟨h.ldc rfl, ?_⟩) | (refine ⟨h.ldd rfl, ?_⟩) | (refine h.stLc rfl rfl fun w h => ?_) | (refine exs ?_) | (refine _root_.Go.Vc.a2 ?_) | (refine h.stc rfl rfl fun w h => ?_) | (refine h.std rfl rfl fun w h => ?_)))
      refine ref05_Drop_spec h.up2 (fun g3 w h => by rw [g3] at g; cases g) (fun g3 g2 w h => ?_) (fun g3 g4 w h => absurd g2 g4)
      exact hK _ _ _ (h.sub : Vc.Own B w0 w (NodesA n bits H :: RNodesA k bits H :: R))
    · (repeat (first | (refine h.al fun w h => ?_) | (refine h.dr fun w h => ?_) | (refine h.lc_2 rfl ?_) | (refine h.lc_6 rfl ?_) | (refine ⟨_, h.ldc rfl, ?_⟩) | (refine ⟨_, h.ldd rfl, ?_⟩) | (refine h.hd rfl ?_) | (refine ⟨h.ldc rfl, ?_⟩) | (refine ⟨h.ldd rfl, ?_⟩) | (refine h.stLc rfl rfl fun w h => ?_) | (refine exs ?_) | (refine _root_.Go.Vc.a2 ?_) | (refine h.stc rfl rfl fun w h => ?_) | (refine h.std rfl rfl fun w h => ?_)))
      refine ref05_Drop_spec h.up2 (fun g3 w h => by rw [g3] at g; cases g) (fun g3 g4 w h => absurd g4 g2) (fun g3 g4 w h => ?_)
      exact hK _ _ _ (h.sub : Vc.Own B w0 w (NodesA n (bits.set o.n.toNat (-1)) H :: RNodesA k (bits.set o.n.toNat (-1)) H :: R))
  refine ceq (fun e => ?_) (fun _ => ?_)
  · (repeat (first | (refine h.al fun w h => ?_) | (refine h.dr fun w h => ?_) | (refine h.lc_2 rfl ?_) | (refine h.lc_6 rfl ?_) | (refine ⟨_, h.ldc rfl, ?_⟩) | (refine ⟨_, h.ldd rfl, ?_⟩) | (refine h.hd rfl ?_) | (refine ⟨h.ldc rfl, ?_⟩) | (refine ⟨h.ldd rfl, ?_⟩) | (refine h.stLc rfl rfl fun w h => ?_) | (refine exs ?_) | (refine _root_.Go.Vc.a2 ?_) | (refine h.stc rfl rfl fun w h => ?_) | (refine h.std rfl rfl fun w h => ?_)))
    refine slots_Nodes_Put_spec (s := o.a) hoc h.up1 fun w h => ?_
    (repeat (first | (refine h.al fun w h => ?_) | (refine h.dr fun w h => ?_) | (refine h.lc_2 rfl ?_) | (refine h.lc_6 rfl ?_) | (refine ⟨_, h.ldc rfl, ?_⟩) | (refine ⟨_, h.ldd rfl, ?_⟩) | (refine h.hd rfl ?_) | (refine ⟨h.ldc rfl, ?_⟩) | (refine ⟨h.ldd rfl, ?_⟩) | (refine h.stLc rfl rfl fun w h => ?_) | (refine exs ?_) | (refine _root_.Go.Vc.a2 ?_) | (refine h.stc rfl rfl fun w h => ?_) | (refine h.std rfl rfl fun w h => ?_)))
    refine ref05_Put_spec (s := o.a) hoc h.up2 fun w h => ?_
    rw [show ((putN bits H o.a o.c).1 == (putN bits H o.a o.c).1) = true from by simp]
    exact hK _ _ _ (h.sub : Vc.Own B w0 w (NodesA n bits (putN bits H o.a o.c).2 :: RNodesA k bits (putN bits H o.a o.c).2 :: R))
  refine ceq (fun e => ?_) (fun _ => ?_)
  · (repeat (first | (refine h.al fun w h => ?_) | (refine h.dr fun w h => ?_) | (refine h.lc_2 rfl ?_) | (refine h.lc_6 rfl ?_) | (refine ⟨_, h.ldc rfl, ?_⟩) | (refine ⟨_, h.ldd rfl, ?_⟩) | (refine h.hd rfl ?_) | (refine ⟨h.ldc rfl, ?_⟩) | (refine ⟨h.ldd rfl, ?_⟩) | (refine h.stLc rfl rfl fun w h => ?_) | (refine exs ?_) | (refine _root_.Go.Vc.a2 ?_) | (refine h.stc rfl rfl fun w h => ?_) | (refine h.std rfl rfl fun w h => ?_)))
    refine slots_Nodes_Take_spec (s := o.a) h.up1 (fun ht w h => ?_) (fun ht hn w h => ?_) (fun ht c hs w h => ?_)
    · (repeat (first | (refine h.al fun w h => ?_) | (refine h.dr fun w h => ?_) | (refine h.lc_2 rfl ?_) | (refine h.lc_6 rfl ?_) | (refine ⟨_, h.ldc rfl, ?_⟩) | (refine ⟨_, h.ldd rfl, ?_⟩) | (refine h.hd rfl ?_) | (refine ⟨h.ldc rfl, ?_⟩) | (refine ⟨h.ldd rfl, ?_⟩) | (refine h.stLc rfl rfl fun w h => ?_) | (refine exs ?_) | (refine _root_.Go.Vc.a2 ?_) | (refine h.stc rfl rfl fun w h => ?_) | (refine h.std rfl rfl fun w h => ?_)))
      (dsimp only [putAt, List.set_cons_zero, List.set_cons_succ] at h)
      (repeat (first | (refine h.al fun w h => ?_) | (refine h.dr fun w h => ?_) | (refine h.lc_2 rfl ?_) | (refine h.lc_6 rfl ?_) | (refine ⟨_, h.ldc rfl, ?_⟩) | (refine ⟨_, h.ldd rfl, ?_⟩) | (refine h.hd rfl ?_) | (refine ⟨h.ldc rfl, ?_⟩) | (refine ⟨h.ldd rfl, ?_⟩) | (refine h.stLc rfl rfl fun w h => ?_) | (refine exs ?_) | (refine _root_.Go.Vc.a2 ?_) | (refine h.stc rfl rfl fun w h => ?_) | (refine h.std rfl rfl fun w h => ?_)))
      refine ref05_Take_spec (s := o.a) h.up3 (fun _ w h => ?_) (fun g => by rw [ht] at g; cases g) (fun g => by rw [ht] at g; cases g)
      (repeat (first | (refine h.al fun w h => ?_) | (refine h.dr fun w h => ?_) | (refine h.lc_2 rfl ?_) | (refine h.lc_6 rfl ?_) | (refine ⟨_, h.ldc rfl, ?_⟩) | (refine ⟨_, h.ldd rfl, ?_⟩) | (refine h.hd rfl ?_) | (refine ⟨h.ldc rfl, ?_⟩) | (refine ⟨h.ldd rfl, ?_⟩) | (refine h.stLc rfl rfl fun w h => ?_) | (refine exs ?_) | (refine _root_.Go.Vc.a2 ?_) | (refine h.stc rfl rfl fun w h => ?_) | (refine h.std rfl rfl fun w h => ?_)))
      (dsimp only [putAt, List.set_cons_zero, List.set_cons_succ] at h)
      (repeat (first | (refine h.al fun w h => ?_) | (refine h.dr fun w h => ?_) | (refine h.lc_2 rfl ?_) | (refine h.lc_6 rfl ?_) | (refine ⟨_, h.ldc rfl, ?_⟩) | (refine ⟨_, h.ldd rfl, ?_⟩) | (refine h.hd rfl ?_) | (refine ⟨h.ldc rfl, ?_⟩) | (refine ⟨h.ldd rfl, ?_⟩) | (refine h.stLc rfl rfl fun w h => ?_) | (refine exs ?_) | (refine _root_.Go.Vc.a2 ?_) | (refine h.stc rfl rfl fun w h => ?_) | (refine h.std rfl rfl fun w h => ?_)))
      refine ⟨_, capEq zeroCap zeroCap, ?_⟩
      refine cbT (by simp) ?_
      exact hK _ _ _ (h.sub : Vc.Own B w0 w (NodesA n bits H :: RNodesA k bits H :: R))
    · (repeat (first | (refine h.al fun w h => ?_) | (refine h.dr fun w h => ?_) | (refine h.lc_2 rfl ?_) | (refine h.lc_6 rfl ?_) | (refine ⟨_, h.ldc rfl, ?_⟩) | (refine ⟨_, h.ldd rfl, ?_⟩) | (refine h.hd rfl ?_) | (refine ⟨h.ldc rfl, ?_⟩) | (refine ⟨h.ldd rfl, ?_⟩) | (refine h.stLc rfl rfl fun w h => ?_) | (refine exs ?_) | (refine _root_.Go.Vc.a2 ?_) | (refine h.stc rfl rfl fun w h => ?_) | (refine h.std rfl rfl fun w h => ?_)))
      (dsimp only [putAt, List.set_cons_zero, List.set_cons_succ] at h)
      (repeat (first | (refine h.al fun w h => ?_) | (refine h.dr fun w h => ?_) | (refine h.lc_2 rfl ?_) | (refine h.lc_6 rfl ?_) | (refine ⟨_, h.ldc rfl, ?_⟩) | (refine ⟨_, h.ldd rfl, ?_⟩) | (refine h.hd rfl ?_) | (refine ⟨h.ldc rfl, ?_⟩) | (refine ⟨h.ldd rfl, ?_⟩) | (refine h.stLc rfl rfl fun w h => ?_) | (refine exs ?_) | (refine _root_.Go.Vc.a2 ?_) | (refine h.stc rfl rfl fun w h => ?_) | (refine h.std rfl rfl fun w h => ?_)))
      refine ref05_Take_spec (s := o.a) h.up3 (fun g => by rw [ht] at g; cases g) (fun _ _ w h => ?_) (fun _ c g => by rw [hn] at g; cases g)
      (repeat (first | (refine h.al fun w h => ?_) | (refine h.dr fun w h => ?_) | (refine h.lc_2 rfl ?_) | (refine h.lc_6 rfl ?_) | (refine ⟨_, h.ldc rfl, ?_⟩) | (refine ⟨_, h.ldd rfl, ?_⟩) | (refine h.hd rfl ?_) | (refine ⟨h.ldc rfl, ?_⟩) | (refine ⟨h.ldd rfl, ?_⟩) | (refine h.stLc rfl rfl fun w h => ?_) | (refine exs ?_) | (refine _root_.Go.Vc.a2 ?_) | (refine h.stc rfl rfl fun w h => ?_) | (refine h.std rfl rfl fun w h => ?_)))
      (dsimp only [putAt, List.set_cons_zero, List.set_cons_succ] at h)
      (repeat (first | (refine h.al fun w h => ?_) | (refine h.dr fun w h => ?_) | (refine h.lc_2 rfl ?_) | (refine h.lc_6 rfl ?_) | (refine ⟨_, h.ldc rfl, ?_⟩) | (refine ⟨_, h.ldd rfl, ?_⟩) | (refine h.hd rfl ?_) | (refine ⟨h.ldc rfl, ?_⟩) | (refine ⟨h.ldd rfl, ?_⟩) | (refine h.stLc rfl rfl fun w h => ?_) | (refine exs ?_) | (refine _root_.Go.Vc.a2 ?_) | (refine h.stc rfl rfl fun w h => ?_) | (refine h.std rfl rfl fun w h => ?_)))
      refine ⟨_, capEq zeroCap zeroCap, ?_⟩
      refine cbT (by simp) ?_
      exact hK _ _ _ (h.sub : Vc.Own B w0 w (NodesA n bits H :: RNodesA k bits H :: R))
    · (repeat (first | (refine h.al fun w h => ?_) | (refine h.dr fun w h => ?_) | (refine h.lc_2 rfl ?_) | (refine h.lc_6 rfl ?_) | (refine ⟨_, h.ldc rfl, ?_⟩) | (refine ⟨_, h.ldd rfl, ?_⟩) | (refine h.hd rfl ?_) | (refine ⟨h.ldc rfl, ?_⟩) | (refine ⟨h.ldd rfl, ?_⟩) | (refine h.stLc rfl rfl fun w h => ?_) | (refine exs ?_) | (refine _root_.Go.Vc.a2 ?_) | (refine h.stc rfl rfl fun w h => ?_) | (refine h.std rfl rfl fun w h => ?_)))
      (dsimp only [putAt, List.set_cons_zero, List.set_cons_succ] at h)
      (repeat (first | (refine h.al fun w h => ?_) | (refine h.dr fun w h => ?_) | (refine h.lc_2 rfl ?_) | (refine h.lc_6 rfl ?_) | (refine ⟨_, h.ldc rfl, ?_⟩) | (refine ⟨_, h.ldd rfl, ?_⟩) | (refine h.hd rfl ?_) | (refine ⟨h.ldc rfl, ?_⟩) | (refine ⟨h.ldd rfl, ?_⟩) | (refine h.stLc rfl rfl fun w h => ?_) | (refine exs ?_) | (refine _root_.Go.Vc.a2 ?_) | (refine h.stc rfl rfl fun w h => ?_) | (refine h.std rfl rfl fun w h => ?_)))
      refine ref05_Take_spec (s := o.a) h.up3 (fun g => by rw [ht] at g; cases g) (fun _ g => by rw [hs] at g; cases g) (fun _ c2 g w h => ?_)
      rw [hs] at g
      cases g
      (repeat (first | (refine h.al fun w h => ?_) | (refine h.dr fun w h => ?_) | (refine h.lc_2 rfl ?_) | (refine h.lc_6 rfl ?_) | (refine ⟨_, h.ldc rfl, ?_⟩) | (refine ⟨_, h.ldd rfl, ?_⟩) | (refine h.hd rfl ?_) | (refine ⟨h.ldc rfl, ?_⟩) | (refine ⟨h.ldd rfl, ?_⟩) | (refine h.stLc rfl rfl fun w h => ?_) | (refine exs ?_) | (refine _root_.Go.Vc.a2 ?_) | (refine h.stc rfl rfl fun w h => ?_) | (refine h.std rfl rfl fun w h => ?_)))
      (dsimp only [putAt, List.set_cons_zero, List.set_cons_succ] at h)
      (repeat (first | (refine h.al fun w h => ?_) | (refine h.dr fun w h => ?_) | (refine h.lc_2 rfl ?_) | (refine h.lc_6 rfl ?_) | (refine ⟨_, h.ldc rfl, ?_⟩) | (refine ⟨_, h.ldd rfl, ?_⟩) | (refine h.hd rfl ?_) | (refine ⟨h.ldc rfl, ?_⟩) | (refine ⟨h.ldd rfl, ?_⟩) | (refine h.stLc rfl rfl fun w h => ?_) | (refine exs ?_) | (refine _root_.Go.Vc.a2 ?_) | (refine h.stc rfl rfl fun w h => ?_) | (refine h.std rfl rfl fun w h => ?_)))
      refine ⟨_, capEq c c, ?_⟩
      refine cbT (by simp) ?_
      exact hK _ _ _ (h.sub : Vc.Own B w0 w (NodesA n bits (updH H o.a none) :: RNodesA k bits (updH H o.a none) :: R))
  refine ceq (fun e => ?_) (fun _ => ?_)
  · (repeat (first | (refine h.al fun w h => ?_) | (refine h.dr fun w h => ?_) | (refine h.lc_2 rfl ?_) | (refine h.lc_6 rfl ?_) | (refine ⟨_, h.ldc rfl, ?_⟩) | (refine ⟨_, h.ldd rfl, ?_⟩) | (refine h.hd rfl ?_) | (refine ⟨h.ldc rfl, ?_⟩) | (refine ⟨h.ldd rfl, ?_⟩) | (refine h.stLc rfl rfl fun w h => ?_) | (refine exs ?_) | (refine _root_.Go.Vc.a2 ?_) | (refine h.stc rfl rfl fun w h => ?_) | (refine h.std rfl rfl fun w h => ?_)))
    refine slots_Nodes_Move_spec (f := o.a) (t := o.b) h.up1 fun w h => ?_
    (repeat (first | (refine h.al fun w h => ?_) | (refine h.dr fun w h => ?_) | (refine h.lc_2 rfl ?_) | (refine h.lc_6 rfl ?_) | (refine ⟨_, h.ldc rfl, ?_⟩) | (refine ⟨_, h.ldd rfl, ?_⟩) | (refine h.hd rfl ?_) | (refine ⟨h.ldc rfl, ?_⟩) | (refine ⟨h.ldd rfl, ?_⟩) | (refine h.stLc rfl rfl fun w h => ?_) | (refine exs ?_) | (refine _root_.Go.Vc.a2 ?_) | (refine h.stc rfl rfl fun w h => ?_) | (refine h.std rfl rfl fun w h => ?_)))
    refine ref05_Move_spec (a := o.a) (c := o.b) h.up2 fun w h => ?_
    rw [show ((moveN bits H o.a o.b).1 == (moveN bits H o.a o.b).1) = true from by simp]
    exact hK _ _ _ (h.sub : Vc.Own B w0 w (NodesA n bits (moveN bits H o.a o.b).2 :: RNodesA k bits (moveN bits H o.a o.b).2 :: R))
  refine ceq (fun e => ?_) (fun _ => ?_)
  · (repeat (first | (refine h.al fun w h => ?_) | (refine h.dr fun w h => ?_) | (refine h.lc_2 rfl ?_) | (refine h.lc_6 rfl ?_) | (refine ⟨_, h.ldc rfl, ?_⟩) | (refine ⟨_, h.ldd rfl, ?_⟩) | (refine h.hd rfl ?_) | (refine ⟨h.ldc rfl, ?_⟩) | (refine ⟨h.ldd rfl, ?_⟩) | (refine h.stLc rfl rfl fun w h => ?_) | (refine exs ?_) | (refine _root_.Go.Vc.a2 ?_) | (refine h.stc rfl rfl fun w h => ?_) | (refine h.std rfl rfl fun w h => ?_)))
    refine slots_Nodes_Swap_spec (a := o.a) (c := o.b) h.up1 fun w h => ?_
    (repeat (first | (refine h.al fun w h => ?_) | (refine h.dr fun w h => ?_) | (refine h.lc_2 rfl ?_) | (refine h.lc_6 rfl ?_) | (refine ⟨_, h.ldc rfl, ?_⟩) | (refine ⟨_, h.ldd rfl, ?_⟩) | (refine h.hd rfl ?_) | (refine ⟨h.ldc rfl, ?_⟩) | (refine ⟨h.ldd rfl, ?_⟩) | (refine h.stLc rfl rfl fun w h => ?_) | (refine exs ?_) | (refine _root_.Go.Vc.a2 ?_) | (refine h.stc rfl rfl fun w h => ?_) | (refine h.std rfl rfl fun w h => ?_)))
    refine ref05_Swap_spec (a := o.a) (c := o.b) h.up2 fun w h => ?_
    rw [show ((swapN bits H o.a o.b).1 == (swapN bits H o.a o.b).1) = true from by simp]
    exact hK _ _ _ (h.sub : Vc.Own B w0 w (NodesA n bits (swapN bits H o.a o.b).2 :: RNodesA k bits (swapN bits H o.a o.b).2 :: R))
  · exact hK _ _ _ (h.sub : Vc.Own B w0 w2 (NodesA n bits H :: RNodesA k bits H :: R))
end
end Go.Proofs.Ytdlcejjiccknlaa
