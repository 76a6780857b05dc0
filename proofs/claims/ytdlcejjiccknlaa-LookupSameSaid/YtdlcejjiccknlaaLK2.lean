/- Addresses, more: a step, the slot. -/
import Derived.Test.YtdlcejjiccknlaaLK
import Derived.Test.YtdlcejjiccknlaaS2
set_option linter.unusedVariables false
set_option linter.unusedSimpArgs false
set_option maxRecDepth 8000
namespace Go.Proofs.Ytdlcejjiccknlaa
open Go Go.Vc Go.Proofs

theorem mod_small (x n : Nat) (hn : n ≤ 8) : x % 2 ^ n < 256 := by
  have h1 : 0 < 2 ^ n := Nat.two_pow_pos n
  have h2 : 2 ^ n ≤ 2 ^ 8 := Nat.pow_le_pow_right (by omega) hn
  have := Nat.mod_lt x h1
  omega
section
variable {B : Nat} {w0 w : World} {R L : List Asn} {b rb : Nat} {bits : List Int} {H : Hs}
theorem lookup_step_spec {addr left : Nat} {c : Cap} {K : Int → Int → Int → World → Prop} (hc : CapR c) (ha : addr < 2 ^ 64) (hl : left ≤ 64)
    (h : Own B w0 w (NodesA b bits H :: BlkA rb [.int .u64 (addr : Int), .int .i64 (left : Int)] :: R))
    (h1 : (stepN bits addr c left).1 ≠ 0 → ∀ w' l', Own B w0 w' (NodesA b bits H :: BlkA rb [.int .u64 (addr : Int), .int .i64 l'] :: R) → K 0 0 (stepN bits addr c left).1 w')
    (h2 : (stepN bits addr c left).1 = 0 → ∀ w', Own B w0 w' (NodesA b bits H :: BlkA rb [.int .u64 (addr : Int), .int .i64 ((stepN bits addr c left).2.2 : Int)] :: R) → K (stepN bits addr c left).2.1.1 (stepN bits addr c left).2.1.2 0 w') :
    C.lookup_step (some ⟨b, 0, none⟩) c.kind c.obj c.rights c.badge c.guard c.bits (.func (.func 54) #[.pointer (some ⟨rb, 0, none⟩)] #[]) K w := by
  apply S.lookup_step_ok
  unfold S.lookup_step
  have hk := h.nok
  (repeat (first | (refine h.al fun w h => ?_) | (refine h.dr fun w h => ?_) | (refine h.lc_2 rfl ?_) | (refine h.lc_6 rfl ?_) | (refine ⟨_, h.ldc rfl, ?_⟩) | (refine ⟨_, h.ldd rfl, ?_⟩) | (refine h.hd rfl ?_) | (refine ⟨h.ldc rfl, ?_⟩) | (refine ⟨h.ldd rfl, ?_⟩) | (refine h.stLc rfl rfl fun w h => ?_) | (refine exs ?_) | (refine _root_.Go.Vc.a2 ?_) | (refine h.stc rfl rfl fun w h => ?_) | (refine h.std rfl rfl fun w h => ?_)))
  refine lookup_node_spec hc h 2 rfl fun w h => ?_
  cases hn : nodeN bits c with
  | none =>
    have hs : stepN bits addr c left = (60, (0, 0), left) := by unfold stepN; rw [hn]
    rw [hs] at h1
    refine cbT rfl ?_
    (repeat (first | (refine h.al fun w h => ?_) | (refine h.dr fun w h => ?_) | (refine h.lc_2 rfl ?_) | (refine h.lc_6 rfl ?_) | (refine ⟨_, h.ldc rfl, ?_⟩) | (refine ⟨_, h.ldd rfl, ?_⟩) | (refine h.hd rfl ?_) | (refine ⟨h.ldc rfl, ?_⟩) | (refine ⟨h.ldd rfl, ?_⟩) | (refine h.stLc rfl rfl fun w h => ?_) | (refine exs ?_) | (refine _root_.Go.Vc.a2 ?_) | (refine h.stc rfl rfl fun w h => ?_) | (refine h.std rfl rfl fun w h => ?_)))
    exact h1 (by simp) _ (left : Int) h.sub
  | some z =>
    obtain ⟨hk2, he, hz⟩ := nodeN_some hn
    obtain ⟨g1, g2, g3⟩ := node_guard hk2 he
    obtain ⟨z1, z2⟩ := sizeN_rng hk hz
    obtain ⟨cb, hcb⟩ := Int.eq_ofNat_of_zero_le g1
    obtain ⟨zz, rfl⟩ := Int.eq_ofNat_of_zero_le (show 0 ≤ z by omega)
    refine cbF rfl ?_
    (repeat (first | (refine h.al fun w h => ?_) | (refine h.dr fun w h => ?_) | (refine h.lc_2 rfl ?_) | (refine h.lc_6 rfl ?_) | (refine ⟨_, h.ldc rfl, ?_⟩) | (refine ⟨_, h.ldd rfl, ?_⟩) | (refine h.hd rfl ?_) | (refine ⟨h.ldc rfl, ?_⟩) | (refine ⟨h.ldd rfl, ?_⟩) | (refine h.stLc rfl rfl fun w h => ?_) | (refine exs ?_) | (refine _root_.Go.Vc.a2 ?_) | (refine h.stc rfl rfl fun w h => ?_) | (refine h.std rfl rfl fun w h => ?_)))
    refine callV_mk ?_
    have hgoN : c.bits.toNat = cb := by omega
    rw [hcb]
    refine lookup_next_spec ha hl h.up3 (by omega) (fun e w h => ?_) (fun e w h => ?_)
    · have hs : stepN bits addr c left = (61, (0, 0), left) := by unfold stepN; rw [hn]; simp only [hgoN]; rw [if_pos e]
      rw [hs] at h1
      intro k hk'
      refine cbT rfl ?_
      apply hk'
      refine cbT rfl ?_
      (repeat (first | (refine h.al fun w h => ?_) | (refine h.dr fun w h => ?_) | (refine h.lc_2 rfl ?_) | (refine h.lc_6 rfl ?_) | (refine ⟨_, h.ldc rfl, ?_⟩) | (refine ⟨_, h.ldd rfl, ?_⟩) | (refine h.hd rfl ?_) | (refine ⟨h.ldc rfl, ?_⟩) | (refine ⟨h.ldd rfl, ?_⟩) | (refine h.stLc rfl rfl fun w h => ?_) | (refine exs ?_) | (refine _root_.Go.Vc.a2 ?_) | (refine h.stc rfl rfl fun w h => ?_) | (refine h.std rfl rfl fun w h => ?_)))
      exact h1 (by simp) _ (left : Int) h.sub
    · intro k hk'
      refine cbF rfl ?_
      (repeat (first | (refine h.al fun w h => ?_) | (refine h.dr fun w h => ?_) | (refine h.lc_2 rfl ?_) | (refine h.lc_6 rfl ?_) | (refine ⟨_, h.ldc rfl, ?_⟩) | (refine ⟨_, h.ldd rfl, ?_⟩) | (refine h.hd rfl ?_) | (refine ⟨h.ldc rfl, ?_⟩) | (refine ⟨h.ldd rfl, ?_⟩) | (refine h.stLc rfl rfl fun w h => ?_) | (refine exs ?_) | (refine _root_.Go.Vc.a2 ?_) | (refine h.stc rfl rfl fun w h => ?_) | (refine h.std rfl rfl fun w h => ?_)))
      apply hk'
      refine cne (fun e2 => ?_) (fun e2 => ?_)
      · have hs : stepN bits addr c left = (61, (0, 0), left) := by unfold stepN; rw [hn]; simp only [hgoN]; rw [if_neg (by omega), if_pos e2]
        rw [hs] at h1
        (repeat (first | (refine h.al fun w h => ?_) | (refine h.dr fun w h => ?_) | (refine h.lc_2 rfl ?_) | (refine h.lc_6 rfl ?_) | (refine ⟨_, h.ldc rfl, ?_⟩) | (refine ⟨_, h.ldd rfl, ?_⟩) | (refine h.hd rfl ?_) | (refine ⟨h.ldc rfl, ?_⟩) | (refine ⟨h.ldd rfl, ?_⟩) | (refine h.stLc rfl rfl fun w h => ?_) | (refine exs ?_) | (refine _root_.Go.Vc.a2 ?_) | (refine h.stc rfl rfl fun w h => ?_) | (refine h.std rfl rfl fun w h => ?_)))
        exact h1 (by simp) _ ((left - cb : Nat) : Int) h.sub
      · refine callV_mk ?_
        refine lookup_next_spec ha (by omega) h (by omega) (fun e3 w h => ?_) (fun e3 w h => ?_)
        · have hs : stepN bits addr c left = (62, (0, 0), left) := by unfold stepN; rw [hn]; simp only [hgoN]; rw [if_neg (by omega), if_neg (by omega), if_pos (by omega)]
          rw [hs] at h1
          refine cbT rfl ?_
          (repeat (first | (refine h.al fun w h => ?_) | (refine h.dr fun w h => ?_) | (refine h.lc_2 rfl ?_) | (refine h.lc_6 rfl ?_) | (refine ⟨_, h.ldc rfl, ?_⟩) | (refine ⟨_, h.ldd rfl, ?_⟩) | (refine h.hd rfl ?_) | (refine ⟨h.ldc rfl, ?_⟩) | (refine ⟨h.ldd rfl, ?_⟩) | (refine h.stLc rfl rfl fun w h => ?_) | (refine exs ?_) | (refine _root_.Go.Vc.a2 ?_) | (refine h.stc rfl rfl fun w h => ?_) | (refine h.std rfl rfl fun w h => ?_)))
          exact h1 (by simp) _ ((left - cb : Nat) : Int) h.sub
        · have hs : stepN bits addr c left = (0, (c.obj, ((addr / 2 ^ (left - cb - zz) % 2 ^ zz : Nat) : Int)), left - cb - zz) := by
            unfold stepN; rw [hn]; simp only [hgoN, Int.toNat_natCast]; rw [if_neg (by omega), if_neg (by omega), if_neg (by omega)]
          rw [hs] at h2
          refine cbF rfl ?_
          have := mod_small (addr / 2 ^ (left - cb - zz)) zz (by omega)
          rw [wr (by omega) (by omega)]
          (repeat (first | (refine h.al fun w h => ?_) | (refine h.dr fun w h => ?_) | (refine h.lc_2 rfl ?_) | (refine h.lc_6 rfl ?_) | (refine ⟨_, h.ldc rfl, ?_⟩) | (refine ⟨_, h.ldd rfl, ?_⟩) | (refine h.hd rfl ?_) | (refine ⟨h.ldc rfl, ?_⟩) | (refine ⟨h.ldd rfl, ?_⟩) | (refine h.stLc rfl rfl fun w h => ?_) | (refine exs ?_) | (refine _root_.Go.Vc.a2 ?_) | (refine h.stc rfl rfl fun w h => ?_) | (refine h.std rfl rfl fun w h => ?_)))
          exact h2 rfl _ h.sub
end
end Go.Proofs.Ytdlcejjiccknlaa
