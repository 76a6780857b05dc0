/- The document's addresses: some bits; the slot; what is in it. -/
import Derived.Test.YtdlcejjiccknlaaRS2
import Derived.Test.YtdlcejjiccknlaaS4
set_option linter.unusedVariables false
set_option linter.unusedSimpArgs false
set_option maxRecDepth 8000
namespace Go.Proofs.Ytdlcejjiccknlaa
open Go Go.Vc Go.Proofs

theorem bits_step (a t i : Nat) : a / 2 ^ t % 2 ^ (i + 1) = 2 * (a / 2 ^ (t + 1) % 2 ^ i) + a / 2 ^ t % 2 := by
  rw [Nat.pow_succ, Nat.mul_comm (2 ^ i) 2, Nat.mod_mul, Nat.div_div_eq_div_mul, ← Nat.pow_succ, Nat.add_comm]
section
variable {bits : List Int} {addr left : Nat} {c : Cap} {cb zz : Nat}
theorem step_none (hn : nodeN bits c = none) : stepN bits addr c left = (60, (0, 0), left) := by unfold stepN; rw [hn]
theorem step_short (hn : nodeN bits c = some (zz : Int)) (hc : c.bits = (cb : Int)) (h : left < cb) : stepN bits addr c left = (61, (0, 0), left) := by
  have e : c.bits.toNat = cb := by omega
  unfold stepN; rw [hn]; simp only [e]; rw [if_pos h]
theorem step_guard (hn : nodeN bits c = some (zz : Int)) (hc : c.bits = (cb : Int)) (h : cb ≤ left) (h2 : ((addr / 2 ^ (left - cb) % 2 ^ cb : Nat) : Int) ≠ c.guard) : stepN bits addr c left = (61, (0, 0), left) := by
  have e : c.bits.toNat = cb := by omega
  unfold stepN; rw [hn]; simp only [e]; rw [if_neg (by omega), if_pos h2]
theorem step_depth (hn : nodeN bits c = some (zz : Int)) (hc : c.bits = (cb : Int)) (h : cb ≤ left) (h2 : ((addr / 2 ^ (left - cb) % 2 ^ cb : Nat) : Int) = c.guard) (h3 : left - cb < zz) : stepN bits addr c left = (62, (0, 0), left) := by
  have e : c.bits.toNat = cb := by omega
  unfold stepN; rw [hn]; simp only [e, Int.toNat_natCast]; rw [if_neg (by omega), if_neg (by rw [h2]; simp), if_pos h3]
theorem step_ok (hn : nodeN bits c = some (zz : Int)) (hc : c.bits = (cb : Int)) (h : cb ≤ left) (h2 : ((addr / 2 ^ (left - cb) % 2 ^ cb : Nat) : Int) = c.guard) (h3 : zz ≤ left - cb) :
    stepN bits addr c left = (0, (c.obj, ((addr / 2 ^ (left - cb - zz) % 2 ^ zz : Nat) : Int)), left - cb - zz) := by
  have e : c.bits.toNat = cb := by omega
  unfold stepN; rw [hn]; simp only [e, Int.toNat_natCast]; rw [if_neg (by omega), if_neg (by rw [h2]; simp), if_neg (by omega)]
end
section
variable {B : Nat} {w0 w : World} {R L : List Asn} {b : Nat} {bits : List Int} {H : Hs}
theorem ref06_bits_spec {addr depth from_ n : Nat} {K : Int → World → Prop} (ha : addr < 2 ^ 64) (hd : depth ≤ 64) (hn : from_ + n ≤ depth) (hK : K ((addr / 2 ^ (depth - from_ - n) % 2 ^ n : Nat) : Int) w) :
    C.ref06_bits (addr : Int) (depth : Int) (from_ : Int) (n : Int) K w := by
  apply S.ref06_bits_ok
  unfold S.ref06_bits
  rw [show IntKind.i64.wrap ((from_ : Int) + (n : Int)) = ((from_ + n : Nat) : Int) from by rw [wr (by omega) (by omega)]; omega]
  intro l hl
  have loop : ∀ (m i : Nat), i + m = n → l ((addr / 2 ^ (depth - from_ - i) % 2 ^ i : Nat) : Int) ((from_ + i : Nat) : Int) w := by
    intro m
    induction m with
    | zero =>
      intro i hi
      obtain rfl : i = n := by omega
      apply hl
      exact cdecF (by omega) hK
    | succ m ih =>
      intro i hi
      apply hl
      refine cdecT (by omega) ?_
      have e1 : IntKind.i64.wrap ((depth : Int) - 1) = ((depth - 1 : Nat) : Int) := by rw [wr (by omega) (by omega)]; omega
      rw [e1, show IntKind.i64.wrap (((depth - 1 : Nat) : Int) - ((from_ + i : Nat) : Int)) = ((depth - from_ - (i + 1) : Nat) : Int) from by rw [wr (by omega) (by omega)]; omega]
      refine ref01_Bit_spec ha (by omega) ?_
      have hs := bits_step addr (depth - from_ - (i + 1)) i
      rw [show depth - from_ - (i + 1) + 1 = depth - from_ - i from by omega] at hs
      have hi1 := ih (i + 1) (by omega)
      have hlt : addr / 2 ^ (depth - from_ - i) % 2 ^ i < 2 ^ i := Nat.mod_lt _ (Nat.two_pow_pos _)
      have hle : 2 ^ i ≤ 2 ^ 63 := Nat.pow_le_pow_right (by omega) (by omega)
      have e63 : (2 : Nat) ^ 63 = 9223372036854775808 := by decide
      have hm2 : addr / 2 ^ (depth - from_ - (i + 1)) % 2 < 2 := Nat.mod_lt _ (by decide)
      generalize addr / 2 ^ (depth - from_ - i) % 2 ^ i = v at *
      generalize addr / 2 ^ (depth - from_ - (i + 1)) % 2 = d at *
      rw [hs] at hi1
      have ew : IntKind.i64.wrap (((from_ + i : Nat) : Int) + 1) = ((from_ + (i + 1) : Nat) : Int) := by rw [wr (by omega) (by omega)]; omega
      have e2v : IntKind.u64.wrap (2 * (v : Int)) = ((2 * v : Nat) : Int) := by rw [wru (by omega) (by omega)]; omega
      rw [ew, e2v]
      refine cdec (fun e => ?_) (fun e => ?_)
      · subst e
        rw [show IntKind.u64.wrap (((2 * v : Nat) : Int) + 1) = ((2 * v + 1 : Nat) : Int) from by rw [wru (by omega) (by omega)]; omega]
        exact hi1
      · have : d = 0 := by omega
        subst this
        exact hi1
  have := loop n 0 (by omega)
  simpa using this
theorem ref06_node_spec {c : Cap} {K : Int → Bool → World → Prop} (hc : CapR c) (h : Own B w0 w (RNodesA b bits H :: R)) (hK : ∀ w', Own B w0 w' (RNodesA b bits H :: R) → K ((nodeN bits c).getD 0) (nodeN bits c).isSome w') : C.ref06_node (some ⟨b, 0, none⟩) c.kind c.obj c.rights c.badge c.guard c.bits K w := by
  apply S.ref06_node_ok
  unfold S.ref06_node
  unfold nodeN at hK
  (repeat (first | (refine h.al fun w h => ?_) | (refine h.dr fun w h => ?_) | (refine h.lc_2 rfl ?_) | (refine h.lc_6 rfl ?_) | (refine ⟨_, h.ldc rfl, ?_⟩) | (refine ⟨_, h.ldd rfl, ?_⟩) | (refine h.hd rfl ?_) | (refine ⟨h.ldc rfl, ?_⟩) | (refine ⟨h.ldd rfl, ?_⟩) | (refine h.stLc rfl rfl fun w h => ?_) | (refine exs ?_) | (refine _root_.Go.Vc.a2 ?_) | (refine h.stc rfl rfl fun w h => ?_) | (refine h.std rfl rfl fun w h => ?_)))
  refine ref05_Size_spec h.up1 fun w h => ?_
  (repeat (first | (refine h.al fun w h => ?_) | (refine h.dr fun w h => ?_) | (refine h.lc_2 rfl ?_) | (refine h.lc_6 rfl ?_) | (refine ⟨_, h.ldc rfl, ?_⟩) | (refine ⟨_, h.ldd rfl, ?_⟩) | (refine h.hd rfl ?_) | (refine ⟨h.ldc rfl, ?_⟩) | (refine ⟨h.ldd rfl, ?_⟩) | (refine h.stLc rfl rfl fun w h => ?_) | (refine exs ?_) | (refine _root_.Go.Vc.a2 ?_) | (refine h.stc rfl rfl fun w h => ?_) | (refine h.std rfl rfl fun w h => ?_)))
  refine cne (fun e => ?_) (fun e => ?_)
  · rw [if_pos e] at hK
    exact hK _ h.sub
  rw [if_neg (by omega)] at hK
  (repeat (first | (refine h.al fun w h => ?_) | (refine h.dr fun w h => ?_) | (refine h.lc_2 rfl ?_) | (refine h.lc_6 rfl ?_) | (refine ⟨_, h.ldc rfl, ?_⟩) | (refine ⟨_, h.ldd rfl, ?_⟩) | (refine h.hd rfl ?_) | (refine ⟨h.ldc rfl, ?_⟩) | (refine ⟨h.ldd rfl, ?_⟩) | (refine h.stLc rfl rfl fun w h => ?_) | (refine exs ?_) | (refine _root_.Go.Vc.a2 ?_) | (refine h.stc rfl rfl fun w h => ?_) | (refine h.std rfl rfl fun w h => ?_)))
  refine ref04_Check_spec h hc fun w h => ?_
  refine cne (fun e => ?_) (fun e => ?_)
  · rw [if_pos e] at hK
    exact hK _ h.sub
  rw [if_neg (by omega)] at hK
  cases hz : sizeN bits c.obj with
  | none => rw [hz] at hK; exact hK _ h.sub
  | some z => rw [hz] at hK; exact hK _ h.sub
theorem ref06_Slot_spec {addr : Nat} {depth : Int} {root : Cap} {K : Int → Int → Int → World → Prop} (hc : CapR root) (ha : addr < 2 ^ 64) (h : Own B w0 w (RNodesA b bits H :: R))
    (hK : ∀ w', Own B w0 w' (RNodesA b bits H :: R) → K (slotT bits H root addr depth).1.1 (slotT bits H root addr depth).1.2 (slotT bits H root addr depth).2 w') :
    C.ref06_Slot (some ⟨b, 0, none⟩) root.kind root.obj root.rights root.badge root.guard root.bits (addr : Int) depth K w := by
  apply S.ref06_Slot_ok
  unfold S.ref06_Slot
  have hk := h.rnok
  refine h.al fun w1 h => ?_
  refine h.al fun w2 h => ?_
  intro k hk12
  have hT : (depth < 1 ∨ 64 < depth) → k true w2 := fun e => by
    have hs : slotT bits H root addr depth = ((0, 0), 1) := by unfold slotT; rw [if_pos e]
    rw [hs] at hK
    apply hk12
    refine cbT rfl ?_
    (repeat (first | (refine h.al fun w h => ?_) | (refine h.dr fun w h => ?_) | (refine h.lc_2 rfl ?_) | (refine h.lc_6 rfl ?_) | (refine ⟨_, h.ldc rfl, ?_⟩) | (refine ⟨_, h.ldd rfl, ?_⟩) | (refine h.hd rfl ?_) | (refine ⟨h.ldc rfl, ?_⟩) | (refine ⟨h.ldd rfl, ?_⟩) | (refine h.stLc rfl rfl fun w h => ?_) | (refine exs ?_) | (refine _root_.Go.Vc.a2 ?_) | (refine h.stc rfl rfl fun w h => ?_) | (refine h.std rfl rfl fun w h => ?_)))
    exact hK _ h.sub
  refine cdec (fun e => hT (.inl e)) (fun e => ?_)
  by_cases e2 : 64 < depth
  · rw [decide_eq_true (by omega)]; exact hT (.inr e2)
  rw [decide_eq_false (by omega)]
  have hs : slotT bits H root addr depth = slotN bits H addr depth.toNat root depth.toNat := by unfold slotT; rw [if_neg (by omega)]
  rw [hs] at hK
  obtain ⟨d, rfl⟩ := Int.eq_ofNat_of_zero_le (show 0 ≤ depth by omega)
  rw [Int.toNat_natCast] at hK
  apply hk12
  refine cbF rfl ?_
  (repeat (first | (refine h.al fun w h => ?_) | (refine h.dr fun w h => ?_) | (refine h.lc_2 rfl ?_) | (refine h.lc_6 rfl ?_) | (refine ⟨_, h.ldc rfl, ?_⟩) | (refine ⟨_, h.ldd rfl, ?_⟩) | (refine h.hd rfl ?_) | (refine ⟨h.ldc rfl, ?_⟩) | (refine ⟨h.ldd rfl, ?_⟩) | (refine h.stLc rfl rfl fun w h => ?_) | (refine exs ?_) | (refine _root_.Go.Vc.a2 ?_) | (refine h.stc rfl rfl fun w h => ?_) | (refine h.std rfl rfl fun w h => ?_)))
  (dsimp only [putAt, List.set_cons_zero, List.set_cons_succ] at h)
  intro l hl
  have loop : ∀ (f at_ : Nat) (c : Cap) (w' : World), at_ < d → d - at_ ≤ f → CapR c →
      Own B w0 w' (RNodesA b bits H :: BlkA w2.heap.size c.cells :: BlkA w1.heap.size [.int .i64 0, .int .i64 0] :: R) →
      slotN bits H addr f c (d - at_) = slotN bits H addr d root d → l (at_ : Int) w' := by
    intro f
    induction f with
    | zero => intro at_ c w' h1 h2; omega
    | succ f ih =>
      intro at_ c w' h1 h2 hc h heq
      have bad : ∀ (e : Int) w, (stepN bits addr c (d - at_)).1 = e → e ≠ 0 → Own B w0 w (RNodesA b bits H :: BlkA w2.heap.size c.cells :: BlkA w1.heap.size [.int .i64 0, .int .i64 0] :: R) → K 0 0 e w := fun e w he hne h => by
        have hs : slotN bits H addr (f + 1) c (d - at_) = ((0, 0), e) := by rw [slotN, if_pos (by rw [he]; exact hne), he]
        rw [← heq, hs] at hK
        exact hK _ h.sub
      have hstep := slotN.eq_2 bits H addr c (d - at_) f
      have hth := there_of_step (addr := addr) (left := d - at_) (c := c) hk.rng
      apply hl
      (repeat (first | (refine h.al fun w h => ?_) | (refine h.dr fun w h => ?_) | (refine h.lc_2 rfl ?_) | (refine h.lc_6 rfl ?_) | (refine ⟨_, h.ldc rfl, ?_⟩) | (refine ⟨_, h.ldd rfl, ?_⟩) | (refine h.hd rfl ?_) | (refine ⟨h.ldc rfl, ?_⟩) | (refine ⟨h.ldd rfl, ?_⟩) | (refine h.stLc rfl rfl fun w h => ?_) | (refine exs ?_) | (refine _root_.Go.Vc.a2 ?_) | (refine h.stc rfl rfl fun w h => ?_) | (refine h.std rfl rfl fun w h => ?_)))
      refine ref06_node_spec hc h fun w h => ?_
      cases hn : nodeN bits c with
      | none =>
        refine cbT rfl ?_
        (repeat (first | (refine h.al fun w h => ?_) | (refine h.dr fun w h => ?_) | (refine h.lc_2 rfl ?_) | (refine h.lc_6 rfl ?_) | (refine ⟨_, h.ldc rfl, ?_⟩) | (refine ⟨_, h.ldd rfl, ?_⟩) | (refine h.hd rfl ?_) | (refine ⟨h.ldc rfl, ?_⟩) | (refine ⟨h.ldd rfl, ?_⟩) | (refine h.stLc rfl rfl fun w h => ?_) | (refine exs ?_) | (refine _root_.Go.Vc.a2 ?_) | (refine h.stc rfl rfl fun w h => ?_) | (refine h.std rfl rfl fun w h => ?_)))
        exact bad 60 _ (by rw [step_none hn]) (by decide) h
      | some z =>
        obtain ⟨hk2, he, hz⟩ := nodeN_some hn
        obtain ⟨g1, g2, g3⟩ := node_guard hk2 he
        obtain ⟨z1, z2⟩ := sizeN_rng hk hz
        obtain ⟨cb, hcb⟩ := Int.eq_ofNat_of_zero_le g1
        obtain ⟨zz, rfl⟩ := Int.eq_ofNat_of_zero_le (show 0 ≤ z by omega)
        refine cbF rfl ?_
        have ez : (some (zz : Int)).getD 0 = (zz : Int) := rfl
        rw [ez]
        have bits_cell : w.cell? ((Addr.mk w2.heap.size 0 none).add 5) = some (.int .i64 (cb : Int)) := by rw [← hcb]; exact h.ldd rfl
        intro k41 hk41
        have t41 : ∀ w, (stepN bits addr c (d - at_)).1 = 61 → Own B w0 w (RNodesA b bits H :: BlkA w2.heap.size c.cells :: BlkA w1.heap.size [.int .i64 0, .int .i64 0] :: R) → k41 true w := fun w hs h => by
          apply hk41
          refine cbT rfl ?_
          (repeat (first | (refine h.al fun w h => ?_) | (refine h.dr fun w h => ?_) | (refine h.lc_2 rfl ?_) | (refine h.lc_6 rfl ?_) | (refine ⟨_, h.ldc rfl, ?_⟩) | (refine ⟨_, h.ldd rfl, ?_⟩) | (refine h.hd rfl ?_) | (refine ⟨h.ldc rfl, ?_⟩) | (refine ⟨h.ldd rfl, ?_⟩) | (refine h.stLc rfl rfl fun w h => ?_) | (refine exs ?_) | (refine _root_.Go.Vc.a2 ?_) | (refine h.stc rfl rfl fun w h => ?_) | (refine h.std rfl rfl fun w h => ?_)))
          exact bad 61 _ hs (by decide) h
        have wadd : IntKind.i64.wrap ((at_ : Int) + c.bits) = ((at_ + cb : Nat) : Int) := by rw [wr (by omega) (by omega)]; omega
        have wadd2 : IntKind.i64.wrap (((at_ + cb : Nat) : Int) + (zz : Int)) = ((at_ + cb + zz : Nat) : Int) := by rw [wr (by omega) (by omega)]; omega
        have good : cb ≤ d - at_ → ((addr / 2 ^ (d - at_ - cb) % 2 ^ cb : Nat) : Int) = c.guard → ∀ w, Own B w0 w (RNodesA b bits H :: BlkA w2.heap.size c.cells :: BlkA w1.heap.size [.int .i64 0, .int .i64 0] :: R) → k41 false w := fun e1 e2 w h => by
          apply hk41
          refine cbF rfl ?_
          (repeat (first | (refine h.al fun w h => ?_) | (refine h.dr fun w h => ?_) | (refine h.lc_2 rfl ?_) | (refine h.lc_6 rfl ?_) | (refine ⟨_, h.ldc rfl, ?_⟩) | (refine ⟨_, h.ldd rfl, ?_⟩) | (refine h.hd rfl ?_) | (refine ⟨h.ldc rfl, ?_⟩) | (refine ⟨h.ldd rfl, ?_⟩) | (refine h.stLc rfl rfl fun w h => ?_) | (refine exs ?_) | (refine _root_.Go.Vc.a2 ?_) | (refine h.stc rfl rfl fun w h => ?_) | (refine h.std rfl rfl fun w h => ?_)))
          rw [wadd, wadd2]
          refine cdec (fun e3 => ?_) (fun e3 => ?_)
          · (repeat (first | (refine h.al fun w h => ?_) | (refine h.dr fun w h => ?_) | (refine h.lc_2 rfl ?_) | (refine h.lc_6 rfl ?_) | (refine ⟨_, h.ldc rfl, ?_⟩) | (refine ⟨_, h.ldd rfl, ?_⟩) | (refine h.hd rfl ?_) | (refine ⟨h.ldc rfl, ?_⟩) | (refine ⟨h.ldd rfl, ?_⟩) | (refine h.stLc rfl rfl fun w h => ?_) | (refine exs ?_) | (refine _root_.Go.Vc.a2 ?_) | (refine h.stc rfl rfl fun w h => ?_) | (refine h.std rfl rfl fun w h => ?_)))
            exact bad 62 _ (by rw [step_depth hn hcb e1 e2 (by omega)]) (by decide) h
          rw [step_ok hn hcb e1 e2 (by omega)] at hstep hth
          rw [if_neg (by simp)] at hstep
          simp only at hstep hth
          obtain ⟨ht, _⟩ := hth trivial
          intro k51 hk51
          have fin : ∀ w X, Own B w0 w (RNodesA b bits H :: BlkA X [.int .i64 c.obj, .int .i64 ((addr / 2 ^ (d - at_ - cb - zz) % 2 ^ zz : Nat) : Int)] :: BlkA w2.heap.size c.cells :: BlkA w1.heap.size [.int .i64 0, .int .i64 0] :: R) → k51 ⟨X, 0, none⟩ w := fun w X h => by
            apply hk51
            refine ceq (fun e4 => ?_) (fun e4 => ?_)
            · (repeat (first | (refine h.al fun w h => ?_) | (refine h.dr fun w h => ?_) | (refine h.lc_2 rfl ?_) | (refine h.lc_6 rfl ?_) | (refine ⟨_, h.ldc rfl, ?_⟩) | (refine ⟨_, h.ldd rfl, ?_⟩) | (refine h.hd rfl ?_) | (refine ⟨h.ldc rfl, ?_⟩) | (refine ⟨h.ldd rfl, ?_⟩) | (refine h.stLc rfl rfl fun w h => ?_) | (refine exs ?_) | (refine _root_.Go.Vc.a2 ?_) | (refine h.stc rfl rfl fun w h => ?_) | (refine h.std rfl rfl fun w h => ?_)))
              rw [if_pos (by omega)] at hstep
              rw [← heq, hstep] at hK
              exact hK _ h.sub
            · rw [if_neg (by omega)] at hstep
              (repeat (first | (refine h.al fun w h => ?_) | (refine h.dr fun w h => ?_) | (refine h.lc_2 rfl ?_) | (refine h.lc_6 rfl ?_) | (refine ⟨_, h.ldc rfl, ?_⟩) | (refine ⟨_, h.ldd rfl, ?_⟩) | (refine h.hd rfl ?_) | (refine ⟨h.ldc rfl, ?_⟩) | (refine ⟨h.ldd rfl, ?_⟩) | (refine h.stLc rfl rfl fun w h => ?_) | (refine exs ?_) | (refine _root_.Go.Vc.a2 ?_) | (refine h.stc rfl rfl fun w h => ?_) | (refine h.std rfl rfl fun w h => ?_)))
              refine ref05_Get_spec (s := (c.obj, ((addr / 2 ^ (d - at_ - cb - zz) % 2 ^ zz : Nat) : Int))) h fun w c' e' hg hcR h => ?_
              unfold getN at hg
              rw [if_neg (by rw [ht]; decide)] at hg
              simp only [Prod.mk.injEq] at hg
              obtain ⟨hc', _⟩ := hg
              rw [← hc'] at hstep
              (repeat (first | (refine h.al fun w h => ?_) | (refine h.dr fun w h => ?_) | (refine h.lc_2 rfl ?_) | (refine h.lc_6 rfl ?_) | (refine ⟨_, h.ldc rfl, ?_⟩) | (refine ⟨_, h.ldd rfl, ?_⟩) | (refine h.hd rfl ?_) | (refine ⟨h.ldc rfl, ?_⟩) | (refine ⟨h.ldd rfl, ?_⟩) | (refine h.stLc rfl rfl fun w h => ?_) | (refine exs ?_) | (refine _root_.Go.Vc.a2 ?_) | (refine h.stc rfl rfl fun w h => ?_) | (refine h.std rfl rfl fun w h => ?_)))
              refine cne (fun e5 => ?_) (fun e5 => ?_)
              · rw [if_pos e5] at hstep
                (repeat (first | (refine h.al fun w h => ?_) | (refine h.dr fun w h => ?_) | (refine h.lc_2 rfl ?_) | (refine h.lc_6 rfl ?_) | (refine ⟨_, h.ldc rfl, ?_⟩) | (refine ⟨_, h.ldd rfl, ?_⟩) | (refine h.hd rfl ?_) | (refine ⟨h.ldc rfl, ?_⟩) | (refine ⟨h.ldd rfl, ?_⟩) | (refine h.stLc rfl rfl fun w h => ?_) | (refine exs ?_) | (refine _root_.Go.Vc.a2 ?_) | (refine h.stc rfl rfl fun w h => ?_) | (refine h.std rfl rfl fun w h => ?_)))
                rw [← heq, hstep] at hK
                exact hK _ h.sub
              · rw [if_neg (by omega)] at hstep
                (repeat (first | (refine h.al fun w h => ?_) | (refine h.dr fun w h => ?_) | (refine h.lc_2 rfl ?_) | (refine h.lc_6 rfl ?_) | (refine ⟨_, h.ldc rfl, ?_⟩) | (refine ⟨_, h.ldd rfl, ?_⟩) | (refine h.hd rfl ?_) | (refine ⟨h.ldc rfl, ?_⟩) | (refine ⟨h.ldd rfl, ?_⟩) | (refine h.stLc rfl rfl fun w h => ?_) | (refine exs ?_) | (refine _root_.Go.Vc.a2 ?_) | (refine h.stc rfl rfl fun w h => ?_) | (refine h.std rfl rfl fun w h => ?_)))
                (dsimp only [putAt, List.set_cons_zero, List.set_cons_succ] at h)
                refine ih (at_ + cb + zz) c' _ (by omega) (by omega) hcR h.sub ?_
                rw [← heq, hstep]
                congr 1; omega
          have bs : ∀ (w : World) (K : Int → World → Prop), K ((addr / 2 ^ (d - at_ - cb - zz) % 2 ^ zz : Nat) : Int) w → C.ref06_bits (addr : Int) (d : Int) ((at_ + cb : Nat) : Int) (zz : Int) K w := fun w K h => by
            refine ref06_bits_spec ha (by omega) (by omega) ?_
            rw [show d - (at_ + cb) - zz = d - at_ - cb - zz from by omega]; exact h
          have hm := mod_small (addr / 2 ^ (d - at_ - cb - zz)) zz (by omega)
          have hw : IntKind.i64.wrap ((addr / 2 ^ (d - at_ - cb - zz) % 2 ^ zz : Nat) : Int) = ((addr / 2 ^ (d - at_ - cb - zz) % 2 ^ zz : Nat) : Int) := wr (Int.le_trans (by decide) (Int.natCast_nonneg _)) (by omega)
          (repeat' (first | exact trivial | (refine bs _ _ ?_) | (dsimp only [putAt] at h; rw [hw] at h; exact fin _ _ h.sub) | (refine h.al fun w h => ?_) | (refine h.dr fun w h => ?_) | (refine h.lc_2 rfl ?_) | (refine h.lc_6 rfl ?_) | (refine ⟨_, h.ldc rfl, ?_⟩) | (refine ⟨_, h.ldd rfl, ?_⟩) | (refine h.hd rfl ?_) | (refine ⟨h.ldc rfl, ?_⟩) | (refine ⟨h.ldd rfl, ?_⟩) | (refine h.stLc rfl rfl fun w h => ?_) | (refine exs ?_) | (refine _root_.Go.Vc.a2 ?_) | (refine h.stc rfl rfl fun w h => ?_) | (refine h.std rfl rfl fun w h => ?_) | (refine And.intro ?_ ?_)))
        (repeat (first | (refine h.al fun w h => ?_) | (refine h.dr fun w h => ?_) | (refine h.lc_2 rfl ?_) | (refine h.lc_6 rfl ?_) | (refine ⟨_, h.ldc rfl, ?_⟩) | (refine ⟨_, h.ldd rfl, ?_⟩) | (refine h.hd rfl ?_) | (refine ⟨h.ldc rfl, ?_⟩) | (refine ⟨h.ldd rfl, ?_⟩) | (refine h.stLc rfl rfl fun w h => ?_) | (refine exs ?_) | (refine _root_.Go.Vc.a2 ?_) | (refine h.stc rfl rfl fun w h => ?_) | (refine h.std rfl rfl fun w h => ?_)))
        rw [wadd]
        refine cdec (fun e1 => ?_) (fun e1 => ?_)
        · have := t41 _ (by rw [step_short hn hcb (by omega)]) h
          (repeat' (first | exact trivial | (exact this) | (refine h.al fun w h => ?_) | (refine h.dr fun w h => ?_) | (refine h.lc_2 rfl ?_) | (refine h.lc_6 rfl ?_) | (refine ⟨_, h.ldc rfl, ?_⟩) | (refine ⟨_, h.ldd rfl, ?_⟩) | (refine h.hd rfl ?_) | (refine ⟨h.ldc rfl, ?_⟩) | (refine ⟨h.ldd rfl, ?_⟩) | (refine h.stLc rfl rfl fun w h => ?_) | (refine exs ?_) | (refine _root_.Go.Vc.a2 ?_) | (refine h.stc rfl rfl fun w h => ?_) | (refine h.std rfl rfl fun w h => ?_) | (refine And.intro ?_ ?_)))
        · have ht : ∀ w, Own B w0 w (RNodesA b bits H :: BlkA w2.heap.size c.cells :: BlkA w1.heap.size [.int .i64 0, .int .i64 0] :: R) → k41 (((addr / 2 ^ (d - at_ - cb) % 2 ^ cb : Nat) : Int) != c.guard) w := fun w h => by
            by_cases e2 : ((addr / 2 ^ (d - at_ - cb) % 2 ^ cb : Nat) : Int) = c.guard
            · rw [show (((addr / 2 ^ (d - at_ - cb) % 2 ^ cb : Nat) : Int) != c.guard) = false from by rw [e2]; simp]
              exact good (by omega) e2 _ h
            · rw [show (((addr / 2 ^ (d - at_ - cb) % 2 ^ cb : Nat) : Int) != c.guard) = true from by rw [bne_iff_ne]; exact e2]
              exact t41 _ (by rw [step_guard hn hcb (by omega) e2]) h
          have bs : ∀ (w : World) (K : Int → World → Prop), K ((addr / 2 ^ (d - at_ - cb) % 2 ^ cb : Nat) : Int) w → C.ref06_bits (addr : Int) (d : Int) (at_ : Int) c.bits K w := fun w K h => by
            rw [hcb]; exact ref06_bits_spec ha (by omega) (by omega) h
          (repeat' (first | exact trivial | (refine bs _ _ ?_) | (exact ht _ h) | (refine h.al fun w h => ?_) | (refine h.dr fun w h => ?_) | (refine h.lc_2 rfl ?_) | (refine h.lc_6 rfl ?_) | (refine ⟨_, h.ldc rfl, ?_⟩) | (refine ⟨_, h.ldd rfl, ?_⟩) | (refine h.hd rfl ?_) | (refine ⟨h.ldc rfl, ?_⟩) | (refine ⟨h.ldd rfl, ?_⟩) | (refine h.stLc rfl rfl fun w h => ?_) | (refine exs ?_) | (refine _root_.Go.Vc.a2 ?_) | (refine h.stc rfl rfl fun w h => ?_) | (refine h.std rfl rfl fun w h => ?_) | (refine And.intro ?_ ?_)))
  exact loop d 0 root _ (by omega) (by omega) hc h.sub rfl
theorem ref06_Cap_spec {addr : Nat} {depth : Int} {root : Cap} {K : Int → Int → Int → Int → Int → Int → Int → World → Prop} (hc : CapR root) (ha : addr < 2 ^ 64) (h : Own B w0 w (RNodesA b bits H :: R))
    (hK : ∀ w' c e, (c, e) = capT bits H root addr depth → CapR c → Own B w0 w' (RNodesA b bits H :: R) → K c.kind c.obj c.rights c.badge c.guard c.bits e w') :
    C.ref06_Cap (some ⟨b, 0, none⟩) root.kind root.obj root.rights root.badge root.guard root.bits (addr : Int) depth K w := by
  apply S.ref06_Cap_ok
  unfold S.ref06_Cap
  (repeat (first | (refine h.al fun w h => ?_) | (refine h.dr fun w h => ?_) | (refine h.lc_2 rfl ?_) | (refine h.lc_6 rfl ?_) | (refine ⟨_, h.ldc rfl, ?_⟩) | (refine ⟨_, h.ldd rfl, ?_⟩) | (refine h.hd rfl ?_) | (refine ⟨h.ldc rfl, ?_⟩) | (refine ⟨h.ldd rfl, ?_⟩) | (refine h.stLc rfl rfl fun w h => ?_) | (refine exs ?_) | (refine _root_.Go.Vc.a2 ?_) | (refine h.stc rfl rfl fun w h => ?_) | (refine h.std rfl rfl fun w h => ?_)))
  refine ref06_Slot_spec hc ha h.up2 fun w h => ?_
  unfold capT at hK
  generalize slotT bits H root addr depth = st at h hK ⊢
  obtain ⟨s, e⟩ := st
  simp only at hK ⊢
  (repeat (first | (refine h.al fun w h => ?_) | (refine h.dr fun w h => ?_) | (refine h.lc_2 rfl ?_) | (refine h.lc_6 rfl ?_) | (refine ⟨_, h.ldc rfl, ?_⟩) | (refine ⟨_, h.ldd rfl, ?_⟩) | (refine h.hd rfl ?_) | (refine ⟨h.ldc rfl, ?_⟩) | (refine ⟨h.ldd rfl, ?_⟩) | (refine h.stLc rfl rfl fun w h => ?_) | (refine exs ?_) | (refine _root_.Go.Vc.a2 ?_) | (refine h.stc rfl rfl fun w h => ?_) | (refine h.std rfl rfl fun w h => ?_)))
  refine cne (fun he => ?_) (fun he => ?_)
  · (repeat (first | (refine h.al fun w h => ?_) | (refine h.dr fun w h => ?_) | (refine h.lc_2 rfl ?_) | (refine h.lc_6 rfl ?_) | (refine ⟨_, h.ldc rfl, ?_⟩) | (refine ⟨_, h.ldd rfl, ?_⟩) | (refine h.hd rfl ?_) | (refine ⟨h.ldc rfl, ?_⟩) | (refine ⟨h.ldd rfl, ?_⟩) | (refine h.stLc rfl rfl fun w h => ?_) | (refine exs ?_) | (refine _root_.Go.Vc.a2 ?_) | (refine h.stc rfl rfl fun w h => ?_) | (refine h.std rfl rfl fun w h => ?_)))
    exact hK _ zeroCap e (by rw [if_pos he]) ⟨by decide, by decide, by decide, by decide⟩ h.sub
  · rw [if_neg (by omega)] at hK
    (repeat (first | (refine h.al fun w h => ?_) | (refine h.dr fun w h => ?_) | (refine h.lc_2 rfl ?_) | (refine h.lc_6 rfl ?_) | (refine ⟨_, h.ldc rfl, ?_⟩) | (refine ⟨_, h.ldd rfl, ?_⟩) | (refine h.hd rfl ?_) | (refine ⟨h.ldc rfl, ?_⟩) | (refine ⟨h.ldd rfl, ?_⟩) | (refine h.stLc rfl rfl fun w h => ?_) | (refine exs ?_) | (refine _root_.Go.Vc.a2 ?_) | (refine h.stc rfl rfl fun w h => ?_) | (refine h.std rfl rfl fun w h => ?_)))
    refine ref05_Get_spec (s := s) h.up1 fun w c e hg hcR h => ?_
    (repeat (first | (refine h.al fun w h => ?_) | (refine h.dr fun w h => ?_) | (refine h.lc_2 rfl ?_) | (refine h.lc_6 rfl ?_) | (refine ⟨_, h.ldc rfl, ?_⟩) | (refine ⟨_, h.ldd rfl, ?_⟩) | (refine h.hd rfl ?_) | (refine ⟨h.ldc rfl, ?_⟩) | (refine ⟨h.ldd rfl, ?_⟩) | (refine h.stLc rfl rfl fun w h => ?_) | (refine exs ?_) | (refine _root_.Go.Vc.a2 ?_) | (refine h.stc rfl rfl fun w h => ?_) | (refine h.std rfl rfl fun w h => ?_)))
    exact hK _ c e hg hcR h.sub
end
end Go.Proofs.Ytdlcejjiccknlaa
