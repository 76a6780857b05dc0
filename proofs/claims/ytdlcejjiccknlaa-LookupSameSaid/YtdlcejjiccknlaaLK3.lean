/- Addresses, more: the slot, and what is in it. -/
import Derived.Test.YtdlcejjiccknlaaLK2
import Derived.Test.YtdlcejjiccknlaaS2
set_option linter.unusedVariables false
set_option linter.unusedSimpArgs false
set_option maxRecDepth 8000
namespace Go.Proofs.Ytdlcejjiccknlaa
open Go Go.Vc Go.Proofs

theorem there_of_step {bits : List Int} {addr left : Nat} {c : Cap} (hb : ∀ z ∈ bits, z = -1 ∨ (1 ≤ z ∧ z ≤ 8)) (h : (stepN bits addr c left).1 = 0) :
    thereB bits (stepN bits addr c left).2.1 = true ∧ (stepN bits addr c left).2.2 < left := by
  unfold stepN at h ⊢
  cases hn : nodeN bits c with
  | none => rw [hn] at h; simp at h
  | some z =>
    rw [hn] at h
    obtain ⟨hk2, he, hz⟩ := nodeN_some hn
    simp only at h ⊢
    obtain ⟨_, hz2, hz3⟩ := sizeN_some hz
    have hzr : 1 ≤ z ∧ z ≤ 8 := by
      rcases hb z (List.mem_of_getElem? hz2) with e | e
      · exact absurd e hz3
      · exact e
    by_cases e1 : left < c.bits.toNat
    · rw [if_pos e1] at h; simp at h
    rw [if_neg e1] at h ⊢
    by_cases e2 : ((addr / 2 ^ (left - c.bits.toNat) % 2 ^ c.bits.toNat : Nat) : Int) ≠ c.guard
    · rw [if_pos e2] at h; simp at h
    rw [if_neg e2] at h ⊢
    by_cases e3 : left - c.bits.toNat < z.toNat
    · rw [if_pos e3] at h; simp at h
    rw [if_neg e3]
    refine ⟨?_, by show left - c.bits.toNat - z.toNat < left; omega⟩
    unfold thereB
    simp only [hz]
    rw [decide_eq_true_iff]
    have hm : addr / 2 ^ (left - c.bits.toNat - z.toNat) % 2 ^ z.toNat < 2 ^ z.toNat := Nat.mod_lt _ (Nat.two_pow_pos _)
    refine ⟨Int.natCast_nonneg _, ?_⟩
    rw [show ((2 : Int) ^ z.toNat) = ((2 ^ z.toNat : Nat) : Int) from by simp]
    exact Int.ofNat_lt.2 hm
theorem NOk.capR {bits : List Int} {H : Hs} (h : NOk bits H) (s : Slot) : CapR ((H s).getD zeroCap) := by
  cases hs : H s with
  | none => exact ⟨by decide, by decide, by decide, by decide⟩
  | some c => exact (h.held s c hs).2.2.2

section
variable {B : Nat} {w0 w : World} {R L : List Asn} {b rb : Nat} {bits : List Int} {H : Hs}
theorem lookup_Slot_spec {addr : Nat} {depth : Int} {root : Cap} {K : Int → Int → Int → World → Prop} (hc : CapR root) (ha : addr < 2 ^ 64) (h : Own B w0 w (NodesA b bits H :: R))
    (hK : ∀ w', Own B w0 w' (NodesA b bits H :: R) → K (slotT bits H root addr depth).1.1 (slotT bits H root addr depth).1.2 (slotT bits H root addr depth).2 w') :
    C.lookup_Slot (some ⟨b, 0, none⟩) root.kind root.obj root.rights root.badge root.guard root.bits (addr : Int) depth K w := by
  apply S.lookup_Slot_ok
  unfold S.lookup_Slot
  have hk := h.nok
  refine h.al fun w1 h => ?_
  refine h.al fun w2 h => ?_
  intro k hk12
  have hT : (depth < 1 ∨ 64 < depth) → k true w2 := fun e => by
    have hs : slotT bits H root addr depth = ((0, 0), 1) := by unfold slotT; rw [if_pos e]
    rw [hs] at hK
    apply hk12
    refine cbT rfl ?_
    (repeat (first | (refine h.al fun w h => ?_) | (refine h.dr fun w h => ?_) | (refine h.lc_2 rfl ?_) | (refine h.lc_6 rfl ?_) | (refine ⟨_, h.ldc rfl, ?_⟩) | (refine ⟨_, h.ldd rfl, ?_⟩) | (refine h.hd rfl ?_) | (refine ⟨h.ldc rfl, ?_⟩) | (refine ⟨h.ldd rfl, ?_⟩) | (refine h.stLc rfl rfl fun w h => ?_) | (refine exs ?_) | (refine _root_.Go.Vc.a2 ?_) | (refine h.stc rfl rfl fun w h => ?_) | (refine h.std rfl rfl fun w h => ?_)))
    exact hK _ h.sub
  refine cdec (fun e => hT (.inl e)) (fun e => ?_)
  by_cases e2 : 64 < depth
  · rw [decide_eq_true (by omega)]; exact hT (.inr e2)
  rw [decide_eq_false (by omega)]
  have hs : slotT bits H root addr depth = slotN bits H addr depth.toNat root depth.toNat := by unfold slotT; rw [if_neg (by omega)]
  rw [hs] at hK
  obtain ⟨d, rfl⟩ := Int.eq_ofNat_of_zero_le (show 0 ≤ depth by omega)
  rw [Int.toNat_natCast] at hK
  apply hk12
  refine cbF rfl ?_
  refine h.al fun w3 h => ?_
  (repeat (first | (refine h.al fun w h => ?_) | (refine h.dr fun w h => ?_) | (refine h.lc_2 rfl ?_) | (refine h.lc_6 rfl ?_) | (refine ⟨_, h.ldc rfl, ?_⟩) | (refine ⟨_, h.ldd rfl, ?_⟩) | (refine h.hd rfl ?_) | (refine ⟨h.ldc rfl, ?_⟩) | (refine ⟨h.ldd rfl, ?_⟩) | (refine h.stLc rfl rfl fun w h => ?_) | (refine exs ?_) | (refine _root_.Go.Vc.a2 ?_) | (refine h.stc rfl rfl fun w h => ?_) | (refine h.std rfl rfl fun w h => ?_)))
  intro l hl
  have loop : ∀ (f left : Nat) (c : Cap) (cb : Nat) (w' : World), 1 ≤ left → left ≤ f → left ≤ 64 → CapR c →
      Own B w0 w' (NodesA b bits H :: BlkA w2.heap.size [.int .u64 (addr : Int), .int .i64 (left : Int)] :: BlkA cb c.cells :: BlkA w1.heap.size [.int .i64 0, .int .i64 0] :: R) →
      slotN bits H addr f c left = slotN bits H addr d root d → l ⟨cb, 0, none⟩ w' := by
    intro f
    induction f with
    | zero => intro left c cb w' h1 h2; omega
    | succ f ih =>
      intro left c cb w' h1 h2 h64 hc h heq
      apply hl
      (repeat (first | (refine h.al fun w h => ?_) | (refine h.dr fun w h => ?_) | (refine h.lc_2 rfl ?_) | (refine h.lc_6 rfl ?_) | (refine ⟨_, h.ldc rfl, ?_⟩) | (refine ⟨_, h.ldd rfl, ?_⟩) | (refine h.hd rfl ?_) | (refine ⟨h.ldc rfl, ?_⟩) | (refine ⟨h.ldd rfl, ?_⟩) | (refine h.stLc rfl rfl fun w h => ?_) | (refine exs ?_) | (refine _root_.Go.Vc.a2 ?_) | (refine h.stc rfl rfl fun w h => ?_) | (refine h.std rfl rfl fun w h => ?_)))
      refine lookup_step_spec hc ha h64 h (fun he w l' h => ?_) (fun he w h => ?_)
      · (repeat (first | (refine h.al fun w h => ?_) | (refine h.dr fun w h => ?_) | (refine h.lc_2 rfl ?_) | (refine h.lc_6 rfl ?_) | (refine ⟨_, h.ldc rfl, ?_⟩) | (refine ⟨_, h.ldd rfl, ?_⟩) | (refine h.hd rfl ?_) | (refine ⟨h.ldc rfl, ?_⟩) | (refine ⟨h.ldd rfl, ?_⟩) | (refine h.stLc rfl rfl fun w h => ?_) | (refine exs ?_) | (refine _root_.Go.Vc.a2 ?_) | (refine h.stc rfl rfl fun w h => ?_) | (refine h.std rfl rfl fun w h => ?_)))
        intro k hk
        refine cneT he ?_
        apply hk
        refine cbT rfl ?_
        (repeat (first | (refine h.al fun w h => ?_) | (refine h.dr fun w h => ?_) | (refine h.lc_2 rfl ?_) | (refine h.lc_6 rfl ?_) | (refine ⟨_, h.ldc rfl, ?_⟩) | (refine ⟨_, h.ldd rfl, ?_⟩) | (refine h.hd rfl ?_) | (refine ⟨h.ldc rfl, ?_⟩) | (refine ⟨h.ldd rfl, ?_⟩) | (refine h.stLc rfl rfl fun w h => ?_) | (refine exs ?_) | (refine _root_.Go.Vc.a2 ?_) | (refine h.stc rfl rfl fun w h => ?_) | (refine h.std rfl rfl fun w h => ?_)))
        have hs : slotN bits H addr (f + 1) c left = ((0, 0), (stepN bits addr c left).1) := by rw [slotN, if_pos he]
        rw [← heq, hs] at hK
        exact hK _ h.sub
      · obtain ⟨ht, hlt⟩ := there_of_step hk.rng he
        generalize hst : stepN bits addr c left = st at he ht hlt h ⊢
        obtain ⟨er, s, left'⟩ := st
        simp only at he ht hlt h ⊢
        subst he
        (repeat (first | (refine h.al fun w h => ?_) | (refine h.dr fun w h => ?_) | (refine h.lc_2 rfl ?_) | (refine h.lc_6 rfl ?_) | (refine ⟨_, h.ldc rfl, ?_⟩) | (refine ⟨_, h.ldd rfl, ?_⟩) | (refine h.hd rfl ?_) | (refine ⟨h.ldc rfl, ?_⟩) | (refine ⟨h.ldd rfl, ?_⟩) | (refine h.stLc rfl rfl fun w h => ?_) | (refine exs ?_) | (refine _root_.Go.Vc.a2 ?_) | (refine h.stc rfl rfl fun w h => ?_) | (refine h.std rfl rfl fun w h => ?_)))
        intro k hk2
        refine cneF rfl ?_
        (repeat (first | (refine h.al fun w h => ?_) | (refine h.dr fun w h => ?_) | (refine h.lc_2 rfl ?_) | (refine h.lc_6 rfl ?_) | (refine ⟨_, h.ldc rfl, ?_⟩) | (refine ⟨_, h.ldd rfl, ?_⟩) | (refine h.hd rfl ?_) | (refine ⟨h.ldc rfl, ?_⟩) | (refine ⟨h.ldd rfl, ?_⟩) | (refine h.stLc rfl rfl fun w h => ?_) | (refine exs ?_) | (refine _root_.Go.Vc.a2 ?_) | (refine h.stc rfl rfl fun w h => ?_) | (refine h.std rfl rfl fun w h => ?_)))
        by_cases hz : left' = 0
        · rw [show ((left' : Int) == 0) = true from by simpa using hz]
          apply hk2
          refine cbT rfl ?_
          (repeat (first | (refine h.al fun w h => ?_) | (refine h.dr fun w h => ?_) | (refine h.lc_2 rfl ?_) | (refine h.lc_6 rfl ?_) | (refine ⟨_, h.ldc rfl, ?_⟩) | (refine ⟨_, h.ldd rfl, ?_⟩) | (refine h.hd rfl ?_) | (refine ⟨h.ldc rfl, ?_⟩) | (refine ⟨h.ldd rfl, ?_⟩) | (refine h.stLc rfl rfl fun w h => ?_) | (refine exs ?_) | (refine _root_.Go.Vc.a2 ?_) | (refine h.stc rfl rfl fun w h => ?_) | (refine h.std rfl rfl fun w h => ?_)))
          have hs : slotN bits H addr (f + 1) c left = (s, 0) := by rw [slotN, hst, if_neg (by simp), if_pos hz]
          rw [← heq, hs] at hK
          exact hK _ h.sub
        · rw [show ((left' : Int) == 0) = false from by simpa using hz]
          apply hk2
          refine cbF rfl ?_
          (repeat (first | (refine h.al fun w h => ?_) | (refine h.dr fun w h => ?_) | (refine h.lc_2 rfl ?_) | (refine h.lc_6 rfl ?_) | (refine ⟨_, h.ldc rfl, ?_⟩) | (refine ⟨_, h.ldd rfl, ?_⟩) | (refine h.hd rfl ?_) | (refine ⟨h.ldc rfl, ?_⟩) | (refine ⟨h.ldd rfl, ?_⟩) | (refine h.stLc rfl rfl fun w h => ?_) | (refine exs ?_) | (refine _root_.Go.Vc.a2 ?_) | (refine h.stc rfl rfl fun w h => ?_) | (refine h.std rfl rfl fun w h => ?_)))
          refine slots_Nodes_Get_spec (s := s) h 1 rfl (fun hn => by rw [ht] at hn; cases hn) fun _ w c' hc' h => ?_
          have hcR : CapR c' := by rw [hc']; exact hk.capR s
          (repeat (first | (refine h.al fun w h => ?_) | (refine h.dr fun w h => ?_) | (refine h.lc_2 rfl ?_) | (refine h.lc_6 rfl ?_) | (refine ⟨_, h.ldc rfl, ?_⟩) | (refine ⟨_, h.ldd rfl, ?_⟩) | (refine h.hd rfl ?_) | (refine ⟨h.ldc rfl, ?_⟩) | (refine ⟨h.ldd rfl, ?_⟩) | (refine h.stLc rfl rfl fun w h => ?_) | (refine exs ?_) | (refine _root_.Go.Vc.a2 ?_) | (refine h.stc rfl rfl fun w h => ?_) | (refine h.std rfl rfl fun w h => ?_)))
          refine cne (fun e3 => ?_) (fun e3 => ?_)
          · (repeat (first | (refine h.al fun w h => ?_) | (refine h.dr fun w h => ?_) | (refine h.lc_2 rfl ?_) | (refine h.lc_6 rfl ?_) | (refine ⟨_, h.ldc rfl, ?_⟩) | (refine ⟨_, h.ldd rfl, ?_⟩) | (refine h.hd rfl ?_) | (refine ⟨h.ldc rfl, ?_⟩) | (refine ⟨h.ldd rfl, ?_⟩) | (refine h.stLc rfl rfl fun w h => ?_) | (refine exs ?_) | (refine _root_.Go.Vc.a2 ?_) | (refine h.stc rfl rfl fun w h => ?_) | (refine h.std rfl rfl fun w h => ?_)))
            have hs : slotN bits H addr (f + 1) c left = ((0, 0), 62) := by rw [slotN, hst, if_neg (by simp), if_neg hz, if_pos (by simpa [hc'] using e3)]
            rw [← heq, hs] at hK
            exact hK _ h.sub
          · (repeat (first | (refine h.al fun w h => ?_) | (refine h.dr fun w h => ?_) | (refine h.lc_2 rfl ?_) | (refine h.lc_6 rfl ?_) | (refine ⟨_, h.ldc rfl, ?_⟩) | (refine ⟨_, h.ldd rfl, ?_⟩) | (refine h.hd rfl ?_) | (refine ⟨h.ldc rfl, ?_⟩) | (refine ⟨h.ldd rfl, ?_⟩) | (refine h.stLc rfl rfl fun w h => ?_) | (refine exs ?_) | (refine _root_.Go.Vc.a2 ?_) | (refine h.stc rfl rfl fun w h => ?_) | (refine h.std rfl rfl fun w h => ?_)))
            (dsimp only [putAt, List.set_cons_zero, List.set_cons_succ] at h)
            refine ih left' c' _ _ (by omega) (by omega) (by omega) hcR h.sub ?_
            rw [← heq]
            rw [slotN, hst, if_neg (by simp), if_neg hz, if_neg (by simpa [hc'] using e3), hc']
  (dsimp only [putAt, List.set_cons_zero, List.set_cons_succ] at h)
  exact loop d d root _ _ (by omega) (by omega) (by omega) hc h.sub rfl
end
end Go.Proofs.Ytdlcejjiccknlaa
