/- Laws of layer 6 that tell all that is held: LookupSlots, LookupSame. -/
import Derived.Test.YtdlcejjiccknlaaRS4
import Derived.Test.YtdlcejjiccknlaaH6
import Derived.Test.YtdlcejjiccknlaaS1
set_option linter.unusedVariables false
set_option linter.unusedSimpArgs false
set_option maxRecDepth 8000
namespace Go.Proofs.Ytdlcejjiccknlaa
open Go Go.Vc Go.Proofs

section
variable {w0 w : World}
theorem law06_LookupSlots_spec {b1 b2 : Sl} {bs : List Int} {hs : List (Slot × Cap)} {r1 r2 r3 r4 r5 r6 r7 r8 : Int} {K : Bool → World → Prop} (hi1 : Inp intE w0 b1 bs) (hg1 : ∀ x ∈ bs, (Lit.int .i64 x).wf = true) (hi2 : Inp heldE w0 b2 hs) (hg2 : ∀ x ∈ hs, CapR x.2)
    (w1 : (Lit.int .i64 r1).wf = true) (w2 : (Lit.int .i64 r2).wf = true) (w3 : (Lit.int .i64 r3).wf = true) (w4 : (Lit.int .u64 r4).wf = true) (w5 : (Lit.int .u64 r5).wf = true) (w6 : (Lit.int .i64 r6).wf = true) (w7 : (Lit.int .u64 r7).wf = true) (w8 : (Lit.int .i64 r8).wf = true)
    (h : Vc.Own w0.heap.size w0 w []) (hK : ∀ w', Vc.Own w0.heap.size w0 w' [] → K true w') : C.law06_LookupSlots b1 b2 r1 r2 r3 r4 r5 r6 r7 r8 K w := by
  apply S.law06_LookupSlots_ok
  unfold S.law06_LookupSlots
  have hc : CapR ⟨r1, r2, r3, r4, r5, r6⟩ := ⟨(wfu w4).1, (wfu w4).2, (wfu w5).1, (wfu w5).2⟩
  obtain ⟨a0, a1⟩ := wfu w7
  obtain ⟨ad, rfl⟩ := Int.eq_ofNat_of_zero_le a0
  (repeat (first | (refine h.al fun w h => ?_) | (refine h.dr fun w h => ?_) | (refine h.lc_2 rfl ?_) | (refine h.lc_6 rfl ?_) | (refine ⟨_, h.ldc rfl, ?_⟩) | (refine ⟨_, h.ldd rfl, ?_⟩) | (refine h.hd rfl ?_) | (refine ⟨h.ldc rfl, ?_⟩) | (refine ⟨h.ldd rfl, ?_⟩) | (refine h.stLc rfl rfl fun w h => ?_) | (refine exs ?_) | (refine _root_.Go.Vc.a2 ?_) | (refine h.stc rfl rfl fun w h => ?_) | (refine h.std rfl rfl fun w h => ?_)))
  refine law06_built_spec (hi1.rd _) (hi2.rd _) hg2 h fun w n k h => ?_
  have hkk := h.nok
  generalize builtH (builtB bs) hs = H at h hkk
  generalize builtB bs = bits at h hkk
  refine cbF rfl ?_
  (repeat (first | (refine h.al fun w h => ?_) | (refine h.dr fun w h => ?_) | (refine h.lc_2 rfl ?_) | (refine h.lc_6 rfl ?_) | (refine ⟨_, h.ldc rfl, ?_⟩) | (refine ⟨_, h.ldd rfl, ?_⟩) | (refine h.hd rfl ?_) | (refine ⟨h.ldc rfl, ?_⟩) | (refine ⟨h.ldd rfl, ?_⟩) | (refine h.stLc rfl rfl fun w h => ?_) | (refine exs ?_) | (refine _root_.Go.Vc.a2 ?_) | (refine h.stc rfl rfl fun w h => ?_) | (refine h.std rfl rfl fun w h => ?_)))
  refine lookup_Slot_spec (addr := ad) (root := ⟨r1, r2, r3, r4, r5, r6⟩) hc (by omega) h fun w h => ?_
  (repeat (first | (refine h.al fun w h => ?_) | (refine h.dr fun w h => ?_) | (refine h.lc_2 rfl ?_) | (refine h.lc_6 rfl ?_) | (refine ⟨_, h.ldc rfl, ?_⟩) | (refine ⟨_, h.ldd rfl, ?_⟩) | (refine h.hd rfl ?_) | (refine ⟨h.ldc rfl, ?_⟩) | (refine ⟨h.ldd rfl, ?_⟩) | (refine h.stLc rfl rfl fun w h => ?_) | (refine exs ?_) | (refine _root_.Go.Vc.a2 ?_) | (refine h.stc rfl rfl fun w h => ?_) | (refine h.std rfl rfl fun w h => ?_)))
  (dsimp only [putAt, List.set_cons_zero, List.set_cons_succ] at h)
  (repeat (first | (refine h.al fun w h => ?_) | (refine h.dr fun w h => ?_) | (refine h.lc_2 rfl ?_) | (refine h.lc_6 rfl ?_) | (refine ⟨_, h.ldc rfl, ?_⟩) | (refine ⟨_, h.ldd rfl, ?_⟩) | (refine h.hd rfl ?_) | (refine ⟨h.ldc rfl, ?_⟩) | (refine ⟨h.ldd rfl, ?_⟩) | (refine h.stLc rfl rfl fun w h => ?_) | (refine exs ?_) | (refine _root_.Go.Vc.a2 ?_) | (refine h.stc rfl rfl fun w h => ?_) | (refine h.std rfl rfl fun w h => ?_)))
  refine ref06_Slot_spec (addr := ad) (root := ⟨r1, r2, r3, r4, r5, r6⟩) hc (by omega) h.up2 fun w h => ?_
  (repeat (first | (refine h.al fun w h => ?_) | (refine h.dr fun w h => ?_) | (refine h.lc_2 rfl ?_) | (refine h.lc_6 rfl ?_) | (refine ⟨_, h.ldc rfl, ?_⟩) | (refine ⟨_, h.ldd rfl, ?_⟩) | (refine h.hd rfl ?_) | (refine ⟨h.ldc rfl, ?_⟩) | (refine ⟨h.ldd rfl, ?_⟩) | (refine h.stLc rfl rfl fun w h => ?_) | (refine exs ?_) | (refine _root_.Go.Vc.a2 ?_) | (refine h.stc rfl rfl fun w h => ?_) | (refine h.std rfl rfl fun w h => ?_)))
  (dsimp only [putAt, List.set_cons_zero, List.set_cons_succ] at h)
  (repeat (first | (refine h.al fun w h => ?_) | (refine h.dr fun w h => ?_) | (refine h.lc_2 rfl ?_) | (refine h.lc_6 rfl ?_) | (refine ⟨_, h.ldc rfl, ?_⟩) | (refine ⟨_, h.ldd rfl, ?_⟩) | (refine h.hd rfl ?_) | (refine ⟨h.ldc rfl, ?_⟩) | (refine ⟨h.ldd rfl, ?_⟩) | (refine h.stLc rfl rfl fun w h => ?_) | (refine exs ?_) | (refine _root_.Go.Vc.a2 ?_) | (refine h.stc rfl rfl fun w h => ?_) | (refine h.std rfl rfl fun w h => ?_)))
  refine lookup_Cap_spec (addr := ad) (root := ⟨r1, r2, r3, r4, r5, r6⟩) hc (by omega) h.up3 fun w c e he hcr h => ?_
  (repeat (first | (refine h.al fun w h => ?_) | (refine h.dr fun w h => ?_) | (refine h.lc_2 rfl ?_) | (refine h.lc_6 rfl ?_) | (refine ⟨_, h.ldc rfl, ?_⟩) | (refine ⟨_, h.ldd rfl, ?_⟩) | (refine h.hd rfl ?_) | (refine ⟨h.ldc rfl, ?_⟩) | (refine ⟨h.ldd rfl, ?_⟩) | (refine h.stLc rfl rfl fun w h => ?_) | (refine exs ?_) | (refine _root_.Go.Vc.a2 ?_) | (refine h.stc rfl rfl fun w h => ?_) | (refine h.std rfl rfl fun w h => ?_)))
  (dsimp only [putAt, List.set_cons_zero, List.set_cons_succ] at h)
  (repeat (first | (refine h.al fun w h => ?_) | (refine h.dr fun w h => ?_) | (refine h.lc_2 rfl ?_) | (refine h.lc_6 rfl ?_) | (refine ⟨_, h.ldc rfl, ?_⟩) | (refine ⟨_, h.ldd rfl, ?_⟩) | (refine h.hd rfl ?_) | (refine ⟨h.ldc rfl, ?_⟩) | (refine ⟨h.ldd rfl, ?_⟩) | (refine h.stLc rfl rfl fun w h => ?_) | (refine exs ?_) | (refine _root_.Go.Vc.a2 ?_) | (refine h.stc rfl rfl fun w h => ?_) | (refine h.std rfl rfl fun w h => ?_)))
  refine ref06_Cap_spec (addr := ad) (root := ⟨r1, r2, r3, r4, r5, r6⟩) hc (by omega) h.up3 fun w c2 e2 he2 hcr2 h => ?_
  rw [← he] at he2
  cases he2
  (repeat (first | (refine h.al fun w h => ?_) | (refine h.dr fun w h => ?_) | (refine h.lc_2 rfl ?_) | (refine h.lc_6 rfl ?_) | (refine ⟨_, h.ldc rfl, ?_⟩) | (refine ⟨_, h.ldd rfl, ?_⟩) | (refine h.hd rfl ?_) | (refine ⟨h.ldc rfl, ?_⟩) | (refine ⟨h.ldd rfl, ?_⟩) | (refine h.stLc rfl rfl fun w h => ?_) | (refine exs ?_) | (refine _root_.Go.Vc.a2 ?_) | (refine h.stc rfl rfl fun w h => ?_) | (refine h.std rfl rfl fun w h => ?_)))
  (dsimp only [putAt, List.set_cons_zero, List.set_cons_succ] at h)
  (repeat (first | (refine h.al fun w h => ?_) | (refine h.dr fun w h => ?_) | (refine h.lc_2 rfl ?_) | (refine h.lc_6 rfl ?_) | (refine ⟨_, h.ldc rfl, ?_⟩) | (refine ⟨_, h.ldd rfl, ?_⟩) | (refine h.hd rfl ?_) | (refine ⟨h.ldc rfl, ?_⟩) | (refine ⟨h.ldd rfl, ?_⟩) | (refine h.stLc rfl rfl fun w h => ?_) | (refine exs ?_) | (refine _root_.Go.Vc.a2 ?_) | (refine h.stc rfl rfl fun w h => ?_) | (refine h.std rfl rfl fun w h => ?_)))
  refine ⟨_, slotEq _ _, ?_⟩
  refine cbT (by simp) (cbT (by simp) ?_)
  (repeat (first | (refine h.al fun w h => ?_) | (refine h.dr fun w h => ?_) | (refine h.lc_2 rfl ?_) | (refine h.lc_6 rfl ?_) | (refine ⟨_, h.ldc rfl, ?_⟩) | (refine ⟨_, h.ldd rfl, ?_⟩) | (refine h.hd rfl ?_) | (refine ⟨h.ldc rfl, ?_⟩) | (refine ⟨h.ldd rfl, ?_⟩) | (refine h.stLc rfl rfl fun w h => ?_) | (refine exs ?_) | (refine _root_.Go.Vc.a2 ?_) | (refine h.stc rfl rfl fun w h => ?_) | (refine h.std rfl rfl fun w h => ?_)))
  refine ⟨_, capEq c c, ?_⟩
  refine cbT (by simp) (cbT (by simp) ?_)
  refine slots_Nodes_Held_spec (h.sub : Vc.Own w0.heap.size w0 w [NodesA n bits H, RNodesA k bits H]) fun s hs w hh h => ?_
  have hl := len_held hkk hh
  refine ref05_Held_spec (h.sub : Vc.Own w0.heap.size w0 w [RNodesA k bits H, SlT heldE s hs]) fun s2 hs2 w hh2 h => ?_
  have e := hh2.uniq hh
  subst e
  refine ref05_Same_spec h (Rd.own (h.lenc s)) (Rd.own (h.lenc s2)) (by omega) fun w h => ?_
  refine cbT (by simp) ?_
  exact law06_fixed_spec h fun w h => hK _ h.sub
theorem law06_LookupSame_spec {b1 b2 : Sl} {bs : List Int} {hs : List (Slot × Cap)} {r1 r2 r3 r4 r5 r6 r7 r8 c1 c2 c3 c4 c5 c6 : Int} {K : Bool → World → Prop} (hi1 : Inp intE w0 b1 bs) (hg1 : ∀ x ∈ bs, (Lit.int .i64 x).wf = true) (hi2 : Inp heldE w0 b2 hs) (hg2 : ∀ x ∈ hs, CapR x.2)
    (w1 : (Lit.int .i64 r1).wf = true) (w2 : (Lit.int .i64 r2).wf = true) (w3 : (Lit.int .i64 r3).wf = true) (w4 : (Lit.int .u64 r4).wf = true) (w5 : (Lit.int .u64 r5).wf = true) (w6 : (Lit.int .i64 r6).wf = true) (w7 : (Lit.int .u64 r7).wf = true) (w8 : (Lit.int .i64 r8).wf = true)
    (w9 : (Lit.int .i64 c1).wf = true) (w10 : (Lit.int .i64 c2).wf = true) (w11 : (Lit.int .i64 c3).wf = true) (w12 : (Lit.int .u64 c4).wf = true) (w13 : (Lit.int .u64 c5).wf = true) (w14 : (Lit.int .i64 c6).wf = true)
    (h : Vc.Own w0.heap.size w0 w []) (hK : ∀ w', Vc.Own w0.heap.size w0 w' [] → K true w') : C.law06_LookupSame b1 b2 r1 r2 r3 r4 r5 r6 r7 r8 c1 c2 c3 c4 c5 c6 K w := by
  apply S.law06_LookupSame_ok
  unfold S.law06_LookupSame
  have hc : CapR ⟨r1, r2, r3, r4, r5, r6⟩ := ⟨(wfu w4).1, (wfu w4).2, (wfu w5).1, (wfu w5).2⟩
  obtain ⟨a0, a1⟩ := wfu w7
  obtain ⟨ad, rfl⟩ := Int.eq_ofNat_of_zero_le a0
  (repeat (first | (refine h.al fun w h => ?_) | (refine h.dr fun w h => ?_) | (refine h.lc_2 rfl ?_) | (refine h.lc_6 rfl ?_) | (refine ⟨_, h.ldc rfl, ?_⟩) | (refine ⟨_, h.ldd rfl, ?_⟩) | (refine h.hd rfl ?_) | (refine ⟨h.ldc rfl, ?_⟩) | (refine ⟨h.ldd rfl, ?_⟩) | (refine h.stLc rfl rfl fun w h => ?_) | (refine exs ?_) | (refine _root_.Go.Vc.a2 ?_) | (refine h.stc rfl rfl fun w h => ?_) | (refine h.std rfl rfl fun w h => ?_)))
  refine law06_built_spec (hi1.rd _) (hi2.rd _) hg2 h fun w n k h => ?_
  have hkk := h.nok
  generalize builtH (builtB bs) hs = H at h hkk
  generalize builtB bs = bits at h hkk
  refine cbF rfl ?_
  (repeat (first | (refine h.al fun w h => ?_) | (refine h.dr fun w h => ?_) | (refine h.lc_2 rfl ?_) | (refine h.lc_6 rfl ?_) | (refine ⟨_, h.ldc rfl, ?_⟩) | (refine ⟨_, h.ldd rfl, ?_⟩) | (refine h.hd rfl ?_) | (refine ⟨h.ldc rfl, ?_⟩) | (refine ⟨h.ldd rfl, ?_⟩) | (refine h.stLc rfl rfl fun w h => ?_) | (refine exs ?_) | (refine _root_.Go.Vc.a2 ?_) | (refine h.stc rfl rfl fun w h => ?_) | (refine h.std rfl rfl fun w h => ?_)))
  refine lookup_Slot_spec (addr := ad) (root := ⟨r1, r2, r3, r4, r5, r6⟩) hc (by omega) h fun w h => ?_
  (repeat (first | (refine h.al fun w h => ?_) | (refine h.dr fun w h => ?_) | (refine h.lc_2 rfl ?_) | (refine h.lc_6 rfl ?_) | (refine ⟨_, h.ldc rfl, ?_⟩) | (refine ⟨_, h.ldd rfl, ?_⟩) | (refine h.hd rfl ?_) | (refine ⟨h.ldc rfl, ?_⟩) | (refine ⟨h.ldd rfl, ?_⟩) | (refine h.stLc rfl rfl fun w h => ?_) | (refine exs ?_) | (refine _root_.Go.Vc.a2 ?_) | (refine h.stc rfl rfl fun w h => ?_) | (refine h.std rfl rfl fun w h => ?_)))
  (dsimp only [putAt, List.set_cons_zero, List.set_cons_succ] at h)
  refine slots_Nodes_Held_spec h.up1 fun s hs w hh h => ?_
  have hl := len_held hkk hh
  (repeat (first | (refine h.al fun w h => ?_) | (refine h.dr fun w h => ?_) | (refine h.lc_2 rfl ?_) | (refine h.lc_6 rfl ?_) | (refine ⟨_, h.ldc rfl, ?_⟩) | (refine ⟨_, h.ldd rfl, ?_⟩) | (refine h.hd rfl ?_) | (refine ⟨h.ldc rfl, ?_⟩) | (refine ⟨h.ldd rfl, ?_⟩) | (refine h.stLc rfl rfl fun w h => ?_) | (refine exs ?_) | (refine _root_.Go.Vc.a2 ?_) | (refine h.stc rfl rfl fun w h => ?_) | (refine h.std rfl rfl fun w h => ?_)))
  refine lookup_Slot_spec (addr := ad) (root := ⟨r1, r2, r3, r4, r5, r6⟩) hc (by omega) h.up1 fun w h => ?_
  (repeat (first | (refine h.al fun w h => ?_) | (refine h.dr fun w h => ?_) | (refine h.lc_2 rfl ?_) | (refine h.lc_6 rfl ?_) | (refine ⟨_, h.ldc rfl, ?_⟩) | (refine ⟨_, h.ldd rfl, ?_⟩) | (refine h.hd rfl ?_) | (refine ⟨h.ldc rfl, ?_⟩) | (refine ⟨h.ldd rfl, ?_⟩) | (refine h.stLc rfl rfl fun w h => ?_) | (refine exs ?_) | (refine _root_.Go.Vc.a2 ?_) | (refine h.stc rfl rfl fun w h => ?_) | (refine h.std rfl rfl fun w h => ?_)))
  (dsimp only [putAt, List.set_cons_zero, List.set_cons_succ] at h)
  (repeat (first | (refine h.al fun w h => ?_) | (refine h.dr fun w h => ?_) | (refine h.lc_2 rfl ?_) | (refine h.lc_6 rfl ?_) | (refine ⟨_, h.ldc rfl, ?_⟩) | (refine ⟨_, h.ldd rfl, ?_⟩) | (refine h.hd rfl ?_) | (refine ⟨h.ldc rfl, ?_⟩) | (refine ⟨h.ldd rfl, ?_⟩) | (refine h.stLc rfl rfl fun w h => ?_) | (refine exs ?_) | (refine _root_.Go.Vc.a2 ?_) | (refine h.stc rfl rfl fun w h => ?_) | (refine h.std rfl rfl fun w h => ?_)))
  refine lookup_Cap_spec (addr := ad) (root := ⟨r1, r2, r3, r4, r5, r6⟩) hc (by omega) h.up1 fun w c e he hcr h => ?_
  (repeat (first | (refine h.al fun w h => ?_) | (refine h.dr fun w h => ?_) | (refine h.lc_2 rfl ?_) | (refine h.lc_6 rfl ?_) | (refine ⟨_, h.ldc rfl, ?_⟩) | (refine ⟨_, h.ldd rfl, ?_⟩) | (refine h.hd rfl ?_) | (refine ⟨h.ldc rfl, ?_⟩) | (refine ⟨h.ldd rfl, ?_⟩) | (refine h.stLc rfl rfl fun w h => ?_) | (refine exs ?_) | (refine _root_.Go.Vc.a2 ?_) | (refine h.stc rfl rfl fun w h => ?_) | (refine h.std rfl rfl fun w h => ?_)))
  (dsimp only [putAt, List.set_cons_zero, List.set_cons_succ] at h)
  (repeat (first | (refine h.al fun w h => ?_) | (refine h.dr fun w h => ?_) | (refine h.lc_2 rfl ?_) | (refine h.lc_6 rfl ?_) | (refine ⟨_, h.ldc rfl, ?_⟩) | (refine ⟨_, h.ldd rfl, ?_⟩) | (refine h.hd rfl ?_) | (refine ⟨h.ldc rfl, ?_⟩) | (refine ⟨h.ldd rfl, ?_⟩) | (refine h.stLc rfl rfl fun w h => ?_) | (refine exs ?_) | (refine _root_.Go.Vc.a2 ?_) | (refine h.stc rfl rfl fun w h => ?_) | (refine h.std rfl rfl fun w h => ?_)))
  have ht := slotT_there (addr := ad) (root := ⟨r1, r2, r3, r4, r5, r6⟩) (d := r8) hkk
  unfold capT at he
  generalize slotT bits H ⟨r1, r2, r3, r4, r5, r6⟩ ad r8 = st at he ht h ⊢
  have hR : Vc.Own w0.heap.size w0 w (RNodesA k bits H :: _) := h.pick
  refine ref05_Get_spec (s := st.1) hR fun w y e3 hy hyr h => ?_
  (repeat (first | (refine h.al fun w h => ?_) | (refine h.dr fun w h => ?_) | (refine h.lc_2 rfl ?_) | (refine h.lc_6 rfl ?_) | (refine ⟨_, h.ldc rfl, ?_⟩) | (refine ⟨_, h.ldd rfl, ?_⟩) | (refine h.hd rfl ?_) | (refine ⟨h.ldc rfl, ?_⟩) | (refine ⟨h.ldd rfl, ?_⟩) | (refine h.stLc rfl rfl fun w h => ?_) | (refine exs ?_) | (refine _root_.Go.Vc.a2 ?_) | (refine h.stc rfl rfl fun w h => ?_) | (refine h.std rfl rfl fun w h => ?_)))
  (dsimp only [putAt, List.set_cons_zero, List.set_cons_succ] at h)
  (repeat (first | (refine h.al fun w h => ?_) | (refine h.dr fun w h => ?_) | (refine h.lc_2 rfl ?_) | (refine h.lc_6 rfl ?_) | (refine ⟨_, h.ldc rfl, ?_⟩) | (refine ⟨_, h.ldd rfl, ?_⟩) | (refine h.hd rfl ?_) | (refine ⟨h.ldc rfl, ?_⟩) | (refine ⟨h.ldd rfl, ?_⟩) | (refine h.stLc rfl rfl fun w h => ?_) | (refine exs ?_) | (refine _root_.Go.Vc.a2 ?_) | (refine h.stc rfl rfl fun w h => ?_) | (refine h.std rfl rfl fun w h => ?_)))
  refine ⟨_, slotEq _ _, ?_⟩
  refine cbT (by simp) (cbT (by simp) ?_)
  have fin : ∀ w, Vc.Own w0.heap.size w0 w [NodesA n bits H, SlT heldE s hs] → C.slots_Nodes_Held (some ⟨n, 0, none⟩) (fun r90 w91 => C.ref05_Same r90 s (fun r92 w93 => bif r92 then C.law06_fixed (fun r94 w95 => K r94 w95) w93 else K false w93) w91) w := by
    intro w h
    refine slots_Nodes_Held_spec h fun s2 hs2 w hh2 h => ?_
    have e := hh2.uniq hh
    subst e
    refine ref05_Same_spec h (Rd.own (h.lenc s2)) (Rd.own (h.lenc s)) (by omega) fun w h => ?_
    refine cbT (by simp) ?_
    exact law06_fixed_spec h fun w h => hK _ h.sub
  by_cases e0 : st.2 = 0
  · rw [if_neg (by simp [e0]), getN_in (ht e0)] at he
    rw [getN_in (ht e0)] at hy
    cases he
    cases hy
    refine cbT (by simp [e0]) ?_
    refine cneF e0 ?_
    (repeat (first | (refine h.al fun w h => ?_) | (refine h.dr fun w h => ?_) | (refine h.lc_2 rfl ?_) | (refine h.lc_6 rfl ?_) | (refine ⟨_, h.ldc rfl, ?_⟩) | (refine ⟨_, h.ldd rfl, ?_⟩) | (refine h.hd rfl ?_) | (refine ⟨h.ldc rfl, ?_⟩) | (refine ⟨h.ldd rfl, ?_⟩) | (refine h.stLc rfl rfl fun w h => ?_) | (refine exs ?_) | (refine _root_.Go.Vc.a2 ?_) | (refine h.stc rfl rfl fun w h => ?_) | (refine h.std rfl rfl fun w h => ?_)))
    refine ⟨_, capEq _ _, ?_⟩
    refine cbT (by simp) ?_
    exact fin w h.sub
  · rw [if_pos e0] at he
    cases he
    refine cbT (by simp) ?_
    refine cneT e0 ?_
    exact fin w h.sub
end
end Go.Proofs.Ytdlcejjiccknlaa
