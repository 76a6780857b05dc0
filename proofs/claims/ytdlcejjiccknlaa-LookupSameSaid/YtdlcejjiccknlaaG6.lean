/- The laws of layer 6 that need not tell all that is held. -/
import Derived.Test.YtdlcejjiccknlaaB6
import Derived.Test.YtdlcejjiccknlaaS1
set_option linter.unusedVariables false
set_option linter.unusedSimpArgs false
set_option maxRecDepth 8000
namespace Go.Proofs.Ytdlcejjiccknlaa
open Go Go.Vc Go.Proofs

theorem wfu {n : Int} (h : (Lit.int .u64 n).wf = true) : 0 ≤ n ∧ n < 18446744073709551616 := by
  have h1 : IntKind.u64.min = 0 := by decide
  have h2 : IntKind.u64.max = 18446744073709551615 := by decide
  simp only [Lit.wf, h1, h2, Bool.and_eq_true, decide_eq_true_eq] at h
  omega
theorem wfi {n : Int} (h : (Lit.int .i64 n).wf = true) : -9223372036854775808 ≤ n ∧ n ≤ 9223372036854775807 := by
  have h1 : IntKind.i64.min = -9223372036854775808 := by decide
  have h2 : IntKind.i64.max = 9223372036854775807 := by decide
  simp only [Lit.wf, h1, h2, Bool.and_eq_true, decide_eq_true_eq] at h
  omega
theorem intDec6 : ∀ cs, Fits [.int .i64] cs → ∃ x, cs = intE.enc x ∧ (Lit.int .i64 x).wf = true := fun cs h => by
  obtain ⟨_, _, rfl, ⟨a, rfl, wa⟩, h1⟩ := h.cons_out
  obtain rfl := h1.nil_out
  exact ⟨a, rfl, wa⟩
theorem heldDec : ∀ cs, Fits [.int .i64, .int .i64, .int .i64, .int .i64, .int .i64, .int .u64, .int .u64, .int .i64] cs → ∃ x, cs = heldE.enc x ∧ CapR x.2 := fun cs h0 => by
  obtain ⟨_, _, rfl, ⟨a, rfl, wa⟩, h1⟩ := h0.cons_out
  obtain ⟨_, _, rfl, ⟨b, rfl, wb⟩, h2⟩ := h1.cons_out
  obtain ⟨_, _, rfl, ⟨c, rfl, wc⟩, h3⟩ := h2.cons_out
  obtain ⟨_, _, rfl, ⟨d, rfl, wd⟩, h4⟩ := h3.cons_out
  obtain ⟨_, _, rfl, ⟨e, rfl, we⟩, h5⟩ := h4.cons_out
  obtain ⟨_, _, rfl, ⟨f, rfl, wf⟩, h6⟩ := h5.cons_out
  obtain ⟨_, _, rfl, ⟨g, rfl, wg⟩, h7⟩ := h6.cons_out
  obtain ⟨_, _, rfl, ⟨i, rfl, wi⟩, h8⟩ := h7.cons_out
  obtain rfl := h8.nil_out
  obtain ⟨f0, f1⟩ := wfu wf
  obtain ⟨g0, g1⟩ := wfu wg
  exact ⟨((a, b), ⟨c, d, e, f, g, i⟩), rfl, ⟨f0, f1, g0, g1⟩⟩

/-- A slice's first elements, handed in. -/
theorem Inp.first {w0 : World} {s : Sl} {xs : List Int} (hi : Inp intE w0 s xs) {n : Nat} (hn : n ≤ xs.length) : Inp intE w0 ⟨slA s.a 0 s.cap 1, n - 0, s.cap - 0⟩ (xs.take n) := by
  have h1 := hi.cap
  have h2 := hi.len
  refine ⟨by simp [hn], by show n - 0 ≤ s.cap - 0; omega, fun j x hj => ?_⟩
  rw [List.getElem?_take] at hj
  split at hj
  · obtain ⟨a, ha, h1, h2⟩ := hi.got j x hj
    refine ⟨a, ?_, h1, h2⟩
    show slA s.a 0 s.cap 1 = some a
    unfold slA
    split
    · exact ha
    · rw [ha]; simp [Addr.add]
  · cases hj

/-- Slots that addresses name are there. -/
theorem slotN_there {bits : List Int} {H : Hs} {addr : Nat} (hk : NOk bits H) : ∀ (f : Nat) (c : Cap) (left : Nat), (slotN bits H addr f c left).2 = 0 → thereB bits (slotN bits H addr f c left).1 = true
  | 0, c, left, h => by rw [slotN] at h; simp at h
  | f + 1, c, left, h => by
    rw [slotN] at h ⊢
    by_cases h1 : (stepN bits addr c left).1 ≠ 0
    · rw [if_pos h1] at h; exact absurd h h1
    rw [if_neg h1] at h ⊢
    by_cases h2 : (stepN bits addr c left).2.2 = 0
    · rw [if_pos h2]
      exact (there_of_step hk.rng (by omega)).1
    rw [if_neg h2] at h ⊢
    by_cases h3 : ((H (stepN bits addr c left).2.1).getD zeroCap).kind ≠ 2
    · rw [if_pos h3] at h; simp at h
    rw [if_neg h3] at h ⊢
    exact slotN_there hk f _ _ h
theorem slotN_err {bits : List Int} {H : Hs} {addr : Nat} : ∀ (f : Nat) (c : Cap) (left : Nat), (slotN bits H addr f c left).2 ≠ 0 → (slotN bits H addr f c left).1 = (0, 0)
  | 0, c, left, h => by rw [slotN]
  | f + 1, c, left, h => by
    rw [slotN] at h ⊢
    by_cases h1 : (stepN bits addr c left).1 ≠ 0
    · rw [if_pos h1]
    rw [if_neg h1] at h ⊢
    by_cases h2 : (stepN bits addr c left).2.2 = 0
    · rw [if_pos h2] at h; simp at h
    rw [if_neg h2] at h ⊢
    by_cases h3 : ((H (stepN bits addr c left).2.1).getD zeroCap).kind ≠ 2
    · rw [if_pos h3]
    rw [if_neg h3] at h ⊢
    exact slotN_err f _ _ h
theorem slotT_err {bits : List Int} {H : Hs} {addr : Nat} {root : Cap} {d : Int} (h : (slotT bits H root addr d).2 ≠ 0) : (slotT bits H root addr d).1 = (0, 0) := by
  unfold slotT at h ⊢
  split
  · rfl
  · rename_i e; rw [if_neg e] at h; exact slotN_err _ _ _ h
theorem slotT_there {bits : List Int} {H : Hs} {addr : Nat} {root : Cap} {d : Int} (hk : NOk bits H) (h : (slotT bits H root addr d).2 = 0) : thereB bits (slotT bits H root addr d).1 = true := by
  unfold slotT at h ⊢
  split
  · rename_i e; rw [if_pos e] at h; simp at h
  · rename_i e; rw [if_neg e] at h; exact slotN_there hk _ _ _ h
/-- The root of an address that is right. -/
theorem slotT_root {bits : List Int} {H : Hs} {addr : Nat} {root : Cap} {d : Int} (h : (slotT bits H root addr d).2 = 0) :
    1 ≤ d ∧ d ≤ 64 ∧ ∃ z, nodeN bits root = some z ∧ root.bits.toNat ≤ d.toNat ∧ ((addr / 2 ^ (d.toNat - root.bits.toNat) % 2 ^ root.bits.toNat : Nat) : Int) = root.guard := by
  unfold slotT at h
  split at h
  · simp at h
  rename_i e
  refine ⟨by omega, by omega, ?_⟩
  obtain ⟨m, hm⟩ : ∃ m, d.toNat = m + 1 := ⟨d.toNat - 1, by omega⟩
  generalize hd : d.toNat = dn at *
  rw [hm, slotN] at h
  rw [← hm] at h
  by_cases h1 : (stepN bits addr root dn).1 ≠ 0
  · rw [if_pos h1] at h; exact absurd h h1
  unfold stepN at h1
  cases hn : nodeN bits root with
  | none => rw [hn] at h1; simp at h1
  | some z =>
    rw [hn] at h1
    simp only at h1
    by_cases e1 : dn < root.bits.toNat
    · rw [if_pos e1] at h1; simp at h1
    rw [if_neg e1] at h1
    by_cases e2 : ((addr / 2 ^ (dn - root.bits.toNat) % 2 ^ root.bits.toNat : Nat) : Int) ≠ root.guard
    · rw [if_pos e2] at h1; simp at h1
    exact ⟨z, rfl, by omega, by simpa using e2⟩

/-- Bits above the depth make no difference. -/
theorem low_eq {a a' d k n : Nat} (h : a % 2 ^ d = a' % 2 ^ d) (hkn : k + n ≤ d) : a / 2 ^ k % 2 ^ n = a' / 2 ^ k % 2 ^ n := by
  rw [← Nat.mod_mul_right_div_self, ← Nat.mod_mul_right_div_self, ← Nat.pow_add]
  have hd : 2 ^ (k + n) ∣ 2 ^ d := Nat.pow_dvd_pow 2 hkn
  rw [← Nat.mod_mod_of_dvd a hd, ← Nat.mod_mod_of_dvd a' hd, h]
theorem step_low {bits : List Int} {a a' d left : Nat} {c : Cap} (h : a % 2 ^ d = a' % 2 ^ d) (hl : left ≤ d) : stepN bits a c left = stepN bits a' c left := by
  unfold stepN
  cases nodeN bits c with
  | none => rfl
  | some z =>
    simp only
    by_cases e1 : left < c.bits.toNat
    · rw [if_pos e1, if_pos e1]
    rw [if_neg e1, if_neg e1, low_eq (a := a) (a' := a') (n := c.bits.toNat) (k := left - c.bits.toNat) h (by omega)]
    by_cases e3 : left - c.bits.toNat < z.toNat
    · rw [if_pos e3, if_pos e3]
    rw [if_neg e3, if_neg e3, low_eq (a := a) (a' := a') (n := z.toNat) (k := left - c.bits.toNat - z.toNat) h (by omega)]
theorem slotN_low {bits : List Int} {H : Hs} {a a' d : Nat} (hk : ∀ z ∈ bits, z = -1 ∨ (1 ≤ z ∧ z ≤ 8)) (h : a % 2 ^ d = a' % 2 ^ d) : ∀ (f : Nat) (c : Cap) (left : Nat), left ≤ d → slotN bits H a f c left = slotN bits H a' f c left
  | 0, c, left, _ => by rw [slotN, slotN]
  | f + 1, c, left, hl => by
    rw [slotN, slotN, step_low h hl]
    by_cases h1 : (stepN bits a' c left).1 ≠ 0
    · rw [if_pos h1, if_pos h1]
    rw [if_neg h1, if_neg h1]
    obtain ⟨_, h4⟩ := there_of_step (addr := a') (left := left) (c := c) hk (by omega)
    rw [slotN_low hk h f _ _ (by omega)]

/-- One bit more names nothing, when what is named is no node. -/
theorem step_more {bits : List Int} {a left : Nat} {c : Cap} (ha : a < 2 ^ 64) (hl : left + 1 ≤ 64) (h : (stepN bits a c left).1 = 0) : stepN bits (2 * a % 2 ^ 64) c (left + 1) = (0, (stepN bits a c left).2.1, (stepN bits a c left).2.2 + 1) := by
  have key : ∀ k n : Nat, k + n ≤ left → (2 * a % 2 ^ 64) / 2 ^ (k + 1) % 2 ^ n = a / 2 ^ k % 2 ^ n := fun k n hkn => by
    have h1 : (2 * a % 2 ^ 64) / 2 ^ (k + 1) % 2 ^ n = (2 * a) / 2 ^ (k + 1) % 2 ^ n := low_eq (d := 64) (by rw [Nat.mod_mod]) (by omega)
    rw [h1, Nat.pow_succ, Nat.mul_comm (2 ^ k) 2, Nat.mul_div_mul_left _ _ (by decide)]
  unfold stepN at h ⊢
  cases hn : nodeN bits c with
  | none => rw [hn] at h; simp at h
  | some z =>
    rw [hn] at h
    simp only at h ⊢
    by_cases e1 : left < c.bits.toNat
    · rw [if_pos e1] at h; simp at h
    rw [if_neg e1] at h ⊢
    rw [if_neg (by omega), show left + 1 - c.bits.toNat = left - c.bits.toNat + 1 from by omega, key _ _ (by omega)]
    by_cases e2 : ((a / 2 ^ (left - c.bits.toNat) % 2 ^ c.bits.toNat : Nat) : Int) ≠ c.guard
    · rw [if_pos e2] at h; simp at h
    rw [if_neg e2] at h ⊢
    rw [if_neg e2]
    by_cases e3 : left - c.bits.toNat < z.toNat
    · rw [if_pos e3] at h; simp at h
    rw [if_neg e3, if_neg (by omega), show left - c.bits.toNat + 1 - z.toNat = left - c.bits.toNat - z.toNat + 1 from by omega, key _ _ (by omega)]
theorem slotN_more {bits : List Int} {H : Hs} {a : Nat} (ha : a < 2 ^ 64) (hk : ∀ z ∈ bits, z = -1 ∨ (1 ≤ z ∧ z ≤ 8)) : ∀ (f f' : Nat) (c : Cap) (left : Nat) (s : Slot), left + 1 ≤ 64 → f ≤ f' → slotN bits H a f c left = (s, 0) → ((H s).getD zeroCap).kind ≠ 2 →
    (slotN bits H (2 * a % 2 ^ 64) f' c (left + 1)).2 = 62
  | 0, _, c, left, s, _, _, h, _ => by rw [slotN] at h; simp at h
  | f + 1, 0, c, left, s, _, hf, _, _ => by omega
  | f + 1, f' + 1, c, left, s, hl, hf, h, hs => by
    rw [slotN] at h ⊢
    by_cases h1 : (stepN bits a c left).1 ≠ 0
    · rw [if_pos h1] at h; simp only [Prod.mk.injEq] at h; exact absurd h.2 h1
    rw [if_neg h1] at h
    rw [step_more ha hl (by omega)]
    simp only [ne_eq, not_true_eq_false, if_false]
    rw [if_neg (by omega)]
    obtain ⟨_, h4⟩ := there_of_step (addr := a) (left := left) (c := c) hk (by omega)
    by_cases h2 : (stepN bits a c left).2.2 = 0
    · rw [if_pos h2] at h
      simp only [Prod.mk.injEq, and_true] at h
      rw [h, if_pos hs]
    rw [if_neg h2] at h
    by_cases h3 : ((H (stepN bits a c left).2.1).getD zeroCap).kind ≠ 2
    · rw [if_pos h3] at h; simp at h
    rw [if_neg h3] at h
    rw [if_neg h3]
    exact slotN_more ha hk f f' _ _ s (by omega) (by omega) h hs

section
variable {w0 w : World}
theorem law06_LookupWays_spec {b1 b2 way9 : Sl} {bs way : List Int} {hs : List (Slot × Cap)} {r1 r2 r3 r4 r5 r6 : Int} {K : Bool → World → Prop} (hi1 : Inp intE w0 b1 bs) (hg1 : ∀ x ∈ bs, (Lit.int .i64 x).wf = true) (hi2 : Inp heldE w0 b2 hs) (hg2 : ∀ x ∈ hs, CapR x.2)
    (w1 : (Lit.int .i64 r1).wf = true) (w2 : (Lit.int .i64 r2).wf = true) (w3 : (Lit.int .i64 r3).wf = true) (w4 : (Lit.int .u64 r4).wf = true) (w5 : (Lit.int .u64 r5).wf = true) (w6 : (Lit.int .i64 r6).wf = true)
    (hi3 : Inp intE w0 way9 way) (hg3 : ∀ x ∈ way, (Lit.int .i64 x).wf = true) (h : Own w0.heap.size w0 w []) (hK : ∀ w', Own w0.heap.size w0 w' [] → K true w') : C.law06_LookupWays b1 b2 r1 r2 r3 r4 r5 r6 way9 K w := by
  apply S.law06_LookupWays_ok
  unfold S.law06_LookupWays
  have hc : CapR ⟨r1, r2, r3, r4, r5, r6⟩ := ⟨(wfu w4).1, (wfu w4).2, (wfu w5).1, (wfu w5).2⟩
  have hwl := hi3.len
  have hcap := hi3.cap
  (repeat (first | (refine h.al fun w h => ?_) | (refine h.dr fun w h => ?_) | (refine h.lc_2 rfl ?_) | (refine h.lc_6 rfl ?_) | (refine ⟨_, h.ldc rfl, ?_⟩) | (refine ⟨_, h.ldd rfl, ?_⟩) | (refine h.hd rfl ?_) | (refine ⟨h.ldc rfl, ?_⟩) | (refine ⟨h.ldd rfl, ?_⟩) | (refine h.stLc rfl rfl fun w h => ?_) | (refine exs ?_) | (refine _root_.Go.Vc.a2 ?_) | (refine h.stc rfl rfl fun w h => ?_) | (refine h.std rfl rfl fun w h => ?_)))
  refine law06_built_spec (hi1.rd _) (hi2.rd _) hg2 h fun w n k h => ?_
  have hm : minI (way9.len : Int) 20 = ((min way.length 20 : Nat) : Int) := by unfold minI; split <;> omega
  rw [hm]
  refine ⟨by omega, by omega, ?_⟩
  refine cbF rfl ?_
  rw [Int.toNat_natCast]
  have hif := Inp.first hi3 (n := min way.length 20) (by omega)
  (repeat (first | (refine h.al fun w h => ?_) | (refine h.dr fun w h => ?_) | (refine h.lc_2 rfl ?_) | (refine h.lc_6 rfl ?_) | (refine ⟨_, h.ldc rfl, ?_⟩) | (refine ⟨_, h.ldd rfl, ?_⟩) | (refine h.hd rfl ?_) | (refine ⟨h.ldc rfl, ?_⟩) | (refine ⟨h.ldd rfl, ?_⟩) | (refine h.stLc rfl rfl fun w h => ?_) | (refine exs ?_) | (refine _root_.Go.Vc.a2 ?_) | (refine h.stc rfl rfl fun w h => ?_) | (refine h.std rfl rfl fun w h => ?_)))
  refine lookup_Address_spec (root := ⟨r1, r2, r3, r4, r5, r6⟩) hc (hif.rd _) (by simp; omega) h fun w h => ?_
  (repeat (first | (refine h.al fun w h => ?_) | (refine h.dr fun w h => ?_) | (refine h.lc_2 rfl ?_) | (refine h.lc_6 rfl ?_) | (refine ⟨_, h.ldc rfl, ?_⟩) | (refine ⟨_, h.ldd rfl, ?_⟩) | (refine h.hd rfl ?_) | (refine ⟨h.ldc rfl, ?_⟩) | (refine ⟨h.ldd rfl, ?_⟩) | (refine h.stLc rfl rfl fun w h => ?_) | (refine exs ?_) | (refine _root_.Go.Vc.a2 ?_) | (refine h.stc rfl rfl fun w h => ?_) | (refine h.std rfl rfl fun w h => ?_)))
  refine ref06_Address_spec (root := ⟨r1, r2, r3, r4, r5, r6⟩) hc (hif.rd _) (by simp; omega) h.up1 fun w h => ?_
  refine cbT (by simp) (cbT (by simp) (cbT (by simp) ?_))
  exact law06_fixed_spec h fun w h => hK _ h.sub
end
end Go.Proofs.Ytdlcejjiccknlaa
