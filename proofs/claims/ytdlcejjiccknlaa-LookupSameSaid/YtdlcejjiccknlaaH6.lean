/- The laws of layer 6 that need not tell all that is held, more. -/
import Derived.Test.YtdlcejjiccknlaaG6
import Derived.Test.YtdlcejjiccknlaaS1
set_option linter.unusedVariables false
set_option linter.unusedSimpArgs false
set_option maxRecDepth 8000
namespace Go.Proofs.Ytdlcejjiccknlaa
open Go Go.Vc Go.Proofs

theorem xor_u (x y : Nat) (hx : x < 2 ^ 64) (hy : y < 2 ^ 64) : xorI .u64 (x : Int) (y : Int) = ((x ^^^ y : Nat) : Int) := by
  unfold xorI
  rw [bv_of, bv_of]
  have : (BitVec.ofNat 64 x ^^^ BitVec.ofNat 64 y).toNat = x ^^^ y := by rw [BitVec.toNat_xor, BitVec.toNat_ofNat, BitVec.toNat_ofNat, Nat.mod_eq_of_lt hx, Nat.mod_eq_of_lt hy]
  show IntKind.u64.wrap (((BitVec.ofNat 64 x ^^^ BitVec.ofNat 64 y).toNat : Nat) : Int) = _
  rw [this, wrap_u64, Nat.mod_eq_of_lt (Nat.xor_lt_two_pow hx hy)]
theorem shl_any (m d : Nat) (hd : d ≤ 64) : shlI .u64 (m : Int) (d : Int) = ((m * 2 ^ d % 2 ^ 64 : Nat) : Int) := by
  unfold shlI
  rw [Int.toNat_natCast, show IntKind.u64.bits = 64 from rfl, Nat.min_eq_left hd, show ((2 : Int) ^ d) = ((2 ^ d : Nat) : Int) from by simp, ← Int.natCast_mul, wrap_u64]
theorem xor_ne (g : Nat) : g ^^^ 1 ≠ g := fun h => by
  have h2 : (g ^^^ g) ^^^ 1 = g ^^^ g := by rw [Nat.xor_assoc, h]
  rw [Nat.xor_self] at h2
  simp at h2
theorem high_mod (a m d : Nat) (hd : d ≤ 64) : (a % 2 ^ d ||| m * 2 ^ d % 2 ^ 64) % 2 ^ d = a % 2 ^ d := by
  rw [Nat.or_mod_two_pow, Nat.mod_mod, Nat.mod_mod_of_dvd _ (Nat.pow_dvd_pow 2 hd), Nat.mul_mod_left, Nat.or_zero]
/-- Another guard names nothing. -/
theorem slotT_other {bits : List Int} {H : Hs} {addr g : Nat} {root : Cap} {d : Int} (hk : NOk bits H) (hg : root.guard = (g : Int)) (hc : CapR root) (hb : root.bits ≠ 0) (h : (slotT bits H root addr d).2 = 0) :
    CapR { root with guard := ((g ^^^ 1 : Nat) : Int) } ∧ slotT bits H { root with guard := ((g ^^^ 1 : Nat) : Int) } addr d = ((0, 0), 61) := by
  obtain ⟨h1, h2, z, hn, hle, hgd⟩ := slotT_root h
  obtain ⟨hk2, he, hz⟩ := nodeN_some hn
  obtain ⟨g1, g2, g3⟩ := node_guard hk2 he
  obtain ⟨cb, hcb⟩ := Int.eq_ofNat_of_zero_le g1
  have hgo : root.bits.toNat = cb := by omega
  have hcb0 : 1 ≤ cb := by omega
  have hgR := hc.g1
  have e64 : (2 : Nat) ^ 64 = 18446744073709551616 := by decide
  have hx64 : g ^^^ 1 < 2 ^ 64 := Nat.xor_lt_two_pow (by omega) (by decide)
  have hgl : g < 2 ^ cb := by rw [hgo, hg, show ((2 : Int) ^ cb) = ((2 ^ cb : Nat) : Int) from by simp] at g3; exact Int.ofNat_lt.1 g3
  have hxl : g ^^^ 1 < 2 ^ cb := Nat.xor_lt_two_pow hgl (Nat.one_lt_two_pow (by omega))
  have hcR : CapR { root with guard := ((g ^^^ 1 : Nat) : Int) } := ⟨hc.b0, hc.b1, Int.natCast_nonneg _, by show ((g ^^^ 1 : Nat) : Int) < _; omega⟩
  refine ⟨hcR, ?_⟩
  have hzr : 0 ≤ z := by have := sizeN_rng hk hz; omega
  have hp : CapP root := by
    rcases capErr_eq hc with ⟨_, h3 | h3⟩ | ⟨h3, _⟩
    · rw [h3] at hk2; cases hk2
    · exact h3
    · omega
  have he2 : capErr { root with guard := ((g ^^^ 1 : Nat) : Int) } = 0 := by
    refine capErr_0 hcR (.inr ?_)
    obtain ⟨p1, p2, p3, p4, p5, p6, p7, p8, p9, p10⟩ := hp
    refine ⟨p1, p2, p3, p4, p5, p6, p7, p8, .inl hk2, ?_⟩
    unfold guardB
    rw [decide_eq_true_iff]
    refine ⟨g1, g2, ?_⟩
    show ((g ^^^ 1 : Nat) : Int) < 2 ^ root.bits.toNat
    rw [hgo, show ((2 : Int) ^ cb) = ((2 ^ cb : Nat) : Int) from by simp]
    exact Int.ofNat_lt.2 hxl
  have hn2 : nodeN bits { root with guard := ((g ^^^ 1 : Nat) : Int) } = some z := by
    unfold nodeN
    rw [if_neg (by simpa using hk2), if_neg (by rw [he2]; simp)]
    exact hz
  obtain ⟨zz, rfl⟩ := Int.eq_ofNat_of_zero_le hzr
  unfold slotT
  rw [if_neg (by omega)]
  obtain ⟨m, hm⟩ : ∃ m, d.toNat = m + 1 := ⟨d.toNat - 1, by omega⟩
  rw [hm, slotN, ← hm]
  rw [hgo] at hle hgd
  rw [step_guard (c := { root with guard := ((g ^^^ 1 : Nat) : Int) }) hn2 hcb hle (by
    rw [hgd, hg]
    intro e
    have e : (g : Int) = ((g ^^^ 1 : Nat) : Int) := e
    exact xor_ne g (Int.ofNat.inj e).symm)]
  rfl
/-- In nodes without anything. -/
theorem slotT_free {k d : Nat} {addr : Nat} (hk : 1 ≤ k) (hd1 : 1 ≤ d) (hd2 : d ≤ 64) : slotT [(k : Int)] (fun _ => none) ⟨2, 0, 7, 0, 0, 0⟩ addr (d : Int) = if d = k then ((0, ((addr % 2 ^ k : Nat) : Int)), 0) else ((0, 0), 62) := by
  unfold slotT
  rw [if_neg (by omega)]
  obtain ⟨m, rfl⟩ : ∃ m, d = m + 1 := ⟨d - 1, by omega⟩
  have hn : nodeN [(k : Int)] ⟨2, 0, 7, 0, 0, 0⟩ = some (k : Int) := by
    unfold nodeN
    rw [if_neg (by decide), if_neg (by decide)]
    unfold sizeN
    rw [if_neg (by decide)]
    show (if (k : Int) = -1 then none else some (k : Int)) = _
    rw [if_neg (by omega)]
  rw [Int.toNat_natCast, slotN]
  have hg0 : ((addr / 2 ^ (m + 1 - 0) % 2 ^ 0 : Nat) : Int) = (⟨2, 0, 7, 0, 0, 0⟩ : Cap).guard := by rw [Nat.pow_zero, Nat.mod_one]; rfl
  by_cases e : m + 1 < k
  · rw [step_depth hn (cb := 0) rfl (by omega) hg0 (by omega), if_pos (by simp), if_neg (by omega)]
  · rw [step_ok hn (cb := 0) rfl (by omega) hg0 (by omega)]
    simp only [ne_eq, not_true_eq_false, if_false, Nat.sub_zero]
    by_cases e2 : m + 1 = k
    · subst e2
      rw [if_pos (by omega), if_pos rfl, Nat.sub_self, Nat.pow_zero, Nat.div_one]
    · rw [if_neg (by omega), if_neg e2]
      rfl

section
variable {w0 w : World}
theorem law06_LookupOnly_spec {b1 b2 : Sl} {bs : List Int} {hs : List (Slot × Cap)} {r1 r2 r3 r4 r5 r6 r7 r8 : Int} {K : Bool → World → Prop} (hi1 : Inp intE w0 b1 bs) (hg1 : ∀ x ∈ bs, (Lit.int .i64 x).wf = true) (hi2 : Inp heldE w0 b2 hs) (hg2 : ∀ x ∈ hs, CapR x.2)
    (w1 : (Lit.int .i64 r1).wf = true) (w2 : (Lit.int .i64 r2).wf = true) (w3 : (Lit.int .i64 r3).wf = true) (w4 : (Lit.int .u64 r4).wf = true) (w5 : (Lit.int .u64 r5).wf = true) (w6 : (Lit.int .i64 r6).wf = true) (w7 : (Lit.int .u64 r7).wf = true) (w8 : (Lit.int .i64 r8).wf = true)
    (h : Own w0.heap.size w0 w []) (hK : ∀ w', Own w0.heap.size w0 w' [] → K true w') : C.law06_LookupOnly b1 b2 r1 r2 r3 r4 r5 r6 r7 r8 K w := by
  apply S.law06_LookupOnly_ok
  unfold S.law06_LookupOnly
  have hc : CapR ⟨r1, r2, r3, r4, r5, r6⟩ := ⟨(wfu w4).1, (wfu w4).2, (wfu w5).1, (wfu w5).2⟩
  obtain ⟨a0, a1⟩ := wfu w7
  obtain ⟨ad, rfl⟩ := Int.eq_ofNat_of_zero_le a0
  obtain ⟨g0, g1⟩ := wfu w5
  obtain ⟨g, hgg⟩ := Int.eq_ofNat_of_zero_le g0
  (repeat (first | (refine h.al fun w h => ?_) | (refine h.dr fun w h => ?_) | (refine h.lc_2 rfl ?_) | (refine h.lc_6 rfl ?_) | (refine ⟨_, h.ldc rfl, ?_⟩) | (refine ⟨_, h.ldd rfl, ?_⟩) | (refine h.hd rfl ?_) | (refine ⟨h.ldc rfl, ?_⟩) | (refine ⟨h.ldd rfl, ?_⟩) | (refine h.stLc rfl rfl fun w h => ?_) | (refine exs ?_) | (refine _root_.Go.Vc.a2 ?_) | (refine h.stc rfl rfl fun w h => ?_) | (refine h.std rfl rfl fun w h => ?_)))
  refine law06_built_spec (hi1.rd _) (hi2.rd _) hg2 h fun w n k h => ?_
  have hk := h.nok
  refine cbF rfl ?_
  (repeat (first | (refine h.al fun w h => ?_) | (refine h.dr fun w h => ?_) | (refine h.lc_2 rfl ?_) | (refine h.lc_6 rfl ?_) | (refine ⟨_, h.ldc rfl, ?_⟩) | (refine ⟨_, h.ldd rfl, ?_⟩) | (refine h.hd rfl ?_) | (refine ⟨h.ldc rfl, ?_⟩) | (refine ⟨h.ldd rfl, ?_⟩) | (refine h.stLc rfl rfl fun w h => ?_) | (refine exs ?_) | (refine _root_.Go.Vc.a2 ?_) | (refine h.stc rfl rfl fun w h => ?_) | (refine h.std rfl rfl fun w h => ?_)))
  refine lookup_Slot_spec (addr := ad) (root := ⟨r1, r2, r3, r4, r5, r6⟩) hc (by omega) h fun w h => ?_
  have he := slotT_err (bits := builtB bs) (H := builtH (builtB bs) hs) (addr := ad) (root := ⟨r1, r2, r3, r4, r5, r6⟩) (d := r8)
  have ht := slotT_there (addr := ad) (root := ⟨r1, r2, r3, r4, r5, r6⟩) (d := r8) hk
  have hr := slotT_root (bits := builtB bs) (H := builtH (builtB bs) hs) (addr := ad) (root := ⟨r1, r2, r3, r4, r5, r6⟩) (d := r8)
  have ho := slotT_other (bits := builtB bs) (H := builtH (builtB bs) hs) (addr := ad) (root := ⟨r1, r2, r3, r4, r5, r6⟩) (d := r8) (g := g) hk hgg hc
  generalize slotT (builtB bs) (builtH (builtB bs) hs) ⟨r1, r2, r3, r4, r5, r6⟩ ad r8 = st at he ht hr ho ⊢
  (repeat (first | (refine h.al fun w h => ?_) | (refine h.dr fun w h => ?_) | (refine h.lc_2 rfl ?_) | (refine h.lc_6 rfl ?_) | (refine ⟨_, h.ldc rfl, ?_⟩) | (refine ⟨_, h.ldd rfl, ?_⟩) | (refine h.hd rfl ?_) | (refine ⟨h.ldc rfl, ?_⟩) | (refine ⟨h.ldd rfl, ?_⟩) | (refine h.stLc rfl rfl fun w h => ?_) | (refine exs ?_) | (refine _root_.Go.Vc.a2 ?_) | (refine h.stc rfl rfl fun w h => ?_) | (refine h.std rfl rfl fun w h => ?_)))
  refine cne (fun e => ?_) (fun e => ?_)
  · (repeat (first | (refine h.al fun w h => ?_) | (refine h.dr fun w h => ?_) | (refine h.lc_2 rfl ?_) | (refine h.lc_6 rfl ?_) | (refine ⟨_, h.ldc rfl, ?_⟩) | (refine ⟨_, h.ldd rfl, ?_⟩) | (refine h.hd rfl ?_) | (refine ⟨h.ldc rfl, ?_⟩) | (refine ⟨h.ldd rfl, ?_⟩) | (refine h.stLc rfl rfl fun w h => ?_) | (refine exs ?_) | (refine _root_.Go.Vc.a2 ?_) | (refine h.stc rfl rfl fun w h => ?_) | (refine h.std rfl rfl fun w h => ?_)))
    refine ⟨_, slotEq st.1 (0, 0), ?_⟩
    rw [decide_eq_true (he e)]
    refine cbT rfl ?_
    exact law06_fixed_spec h fun w h => hK _ h.sub
  obtain ⟨_, _, z, hn, _, _⟩ := hr e
  obtain ⟨hk2, hce, _⟩ := nodeN_some hn
  intro k37 hk37
  (repeat (first | (refine h.al fun w h => ?_) | (refine h.dr fun w h => ?_) | (refine h.lc_2 rfl ?_) | (refine h.lc_6 rfl ?_) | (refine ⟨_, h.ldc rfl, ?_⟩) | (refine ⟨_, h.ldd rfl, ?_⟩) | (refine h.hd rfl ?_) | (refine ⟨h.ldc rfl, ?_⟩) | (refine ⟨h.ldd rfl, ?_⟩) | (refine h.stLc rfl rfl fun w h => ?_) | (refine exs ?_) | (refine _root_.Go.Vc.a2 ?_) | (refine h.stc rfl rfl fun w h => ?_) | (refine h.std rfl rfl fun w h => ?_)))
  refine ref05_Is_spec (s := st.1) h.up2 fun w h => ?_
  rw [ht e]
  refine cbF rfl ?_
  (repeat (first | (refine h.al fun w h => ?_) | (refine h.dr fun w h => ?_) | (refine h.lc_2 rfl ?_) | (refine h.lc_6 rfl ?_) | (refine ⟨_, h.ldc rfl, ?_⟩) | (refine ⟨_, h.ldd rfl, ?_⟩) | (refine h.hd rfl ?_) | (refine ⟨h.ldc rfl, ?_⟩) | (refine ⟨h.ldd rfl, ?_⟩) | (refine h.stLc rfl rfl fun w h => ?_) | (refine exs ?_) | (refine _root_.Go.Vc.a2 ?_) | (refine h.stc rfl rfl fun w h => ?_) | (refine h.std rfl rfl fun w h => ?_)))
  refine cneF hk2 ?_
  (repeat (first | (refine h.al fun w h => ?_) | (refine h.dr fun w h => ?_) | (refine h.lc_2 rfl ?_) | (refine h.lc_6 rfl ?_) | (refine ⟨_, h.ldc rfl, ?_⟩) | (refine ⟨_, h.ldd rfl, ?_⟩) | (refine h.hd rfl ?_) | (refine ⟨h.ldc rfl, ?_⟩) | (refine ⟨h.ldd rfl, ?_⟩) | (refine h.stLc rfl rfl fun w h => ?_) | (refine exs ?_) | (refine _root_.Go.Vc.a2 ?_) | (refine h.stc rfl rfl fun w h => ?_) | (refine h.std rfl rfl fun w h => ?_)))
  refine ref04_Check_spec (c := ⟨r1, r2, r3, r4, r5, r6⟩) h hc fun w h => ?_
  rw [hce]
  apply hk37
  refine cbF rfl ?_
  (repeat (first | (refine h.al fun w h => ?_) | (refine h.dr fun w h => ?_) | (refine h.lc_2 rfl ?_) | (refine h.lc_6 rfl ?_) | (refine ⟨_, h.ldc rfl, ?_⟩) | (refine ⟨_, h.ldd rfl, ?_⟩) | (refine h.hd rfl ?_) | (refine ⟨h.ldc rfl, ?_⟩) | (refine ⟨h.ldd rfl, ?_⟩) | (refine h.stLc rfl rfl fun w h => ?_) | (refine exs ?_) | (refine _root_.Go.Vc.a2 ?_) | (refine h.stc rfl rfl fun w h => ?_) | (refine h.std rfl rfl fun w h => ?_)))
  refine ceq (fun e2 => ?_) (fun e2 => ?_)
  · exact law06_fixed_spec h fun w h => hK _ h.sub
  obtain ⟨hcR, hs'⟩ := ho e2 e
  (repeat (first | (refine h.al fun w h => ?_) | (refine h.dr fun w h => ?_) | (refine h.lc_2 rfl ?_) | (refine h.lc_6 rfl ?_) | (refine ⟨_, h.ldc rfl, ?_⟩) | (refine ⟨_, h.ldd rfl, ?_⟩) | (refine h.hd rfl ?_) | (refine ⟨h.ldc rfl, ?_⟩) | (refine ⟨h.ldd rfl, ?_⟩) | (refine h.stLc rfl rfl fun w h => ?_) | (refine exs ?_) | (refine _root_.Go.Vc.a2 ?_) | (refine h.stc rfl rfl fun w h => ?_) | (refine h.std rfl rfl fun w h => ?_)))
  have hx : xorI .u64 r5 1 = ((g ^^^ 1 : Nat) : Int) := by rw [hgg]; exact xor_u g 1 (by omega) (by decide)
  rw [hx] at h ⊢
  refine lookup_Slot_spec (addr := ad) (root := ⟨r1, r2, r3, r4, ((g ^^^ 1 : Nat) : Int), r6⟩) hcR (by omega) (h.sub : Own w0.heap.size w0 w (NodesA n (builtB bs) (builtH (builtB bs) hs) :: [])) fun w h => ?_
  rw [hs']
  (repeat (first | (refine h.al fun w h => ?_) | (refine h.dr fun w h => ?_) | (refine h.lc_2 rfl ?_) | (refine h.lc_6 rfl ?_) | (refine ⟨_, h.ldc rfl, ?_⟩) | (refine ⟨_, h.ldd rfl, ?_⟩) | (refine h.hd rfl ?_) | (refine ⟨h.ldc rfl, ?_⟩) | (refine ⟨h.ldd rfl, ?_⟩) | (refine h.stLc rfl rfl fun w h => ?_) | (refine exs ?_) | (refine _root_.Go.Vc.a2 ?_) | (refine h.stc rfl rfl fun w h => ?_) | (refine h.std rfl rfl fun w h => ?_)))
  refine ⟨_, slotEq (0, 0) (0, 0), ?_⟩
  refine cbT rfl ?_
  exact law06_fixed_spec h fun w h => hK _ h.sub
theorem law06_LookupHigh_spec {b1 b2 : Sl} {bs : List Int} {hs : List (Slot × Cap)} {r1 r2 r3 r4 r5 r6 r7 r8 m9 : Int} {K : Bool → World → Prop} (hi1 : Inp intE w0 b1 bs) (hg1 : ∀ x ∈ bs, (Lit.int .i64 x).wf = true) (hi2 : Inp heldE w0 b2 hs) (hg2 : ∀ x ∈ hs, CapR x.2)
    (w1 : (Lit.int .i64 r1).wf = true) (w2 : (Lit.int .i64 r2).wf = true) (w3 : (Lit.int .i64 r3).wf = true) (w4 : (Lit.int .u64 r4).wf = true) (w5 : (Lit.int .u64 r5).wf = true) (w6 : (Lit.int .i64 r6).wf = true) (w7 : (Lit.int .u64 r7).wf = true) (w8 : (Lit.int .i64 r8).wf = true)
    (w9 : (Lit.int .u64 m9).wf = true) (h : Own w0.heap.size w0 w []) (hK : ∀ w', Own w0.heap.size w0 w' [] → K true w') : C.law06_LookupHigh b1 b2 r1 r2 r3 r4 r5 r6 r7 r8 m9 K w := by
  apply S.law06_LookupHigh_ok
  unfold S.law06_LookupHigh
  have hc : CapR ⟨r1, r2, r3, r4, r5, r6⟩ := ⟨(wfu w4).1, (wfu w4).2, (wfu w5).1, (wfu w5).2⟩
  obtain ⟨a0, a1⟩ := wfu w7
  obtain ⟨ad, rfl⟩ := Int.eq_ofNat_of_zero_le a0
  obtain ⟨m0, m1⟩ := wfu w9
  obtain ⟨mo, rfl⟩ := Int.eq_ofNat_of_zero_le m0
  have e64 : (2 : Nat) ^ 64 = 18446744073709551616 := by decide
  obtain ⟨d, hd, hd1, hd2⟩ : ∃ d : Nat, IntKind.i64.wrap ((1 : Int) + ((andI .i64 r8 (65535 : Int)).tmod (63 : Int))) = (d : Int) ∧ 1 ≤ d ∧ d ≤ 63 := by
    obtain ⟨p, hp, e⟩ := andle r8 65535 (by decide)
    have e : andI .i64 r8 65535 = (p : Int) := e
    rw [e, Int.tmod_eq_emod_of_nonneg (Int.natCast_nonneg _)]
    exact ⟨1 + p % 63, by rw [wr (by omega) (by omega)]; omega, by omega, by omega⟩
  have hsm : 2 ^ d ≤ 2 ^ 63 := Nat.pow_le_pow_right (by omega) hd2
  have e63 : (2 : Nat) ^ 63 = 9223372036854775808 := by decide
  have hm1 : ad % 2 ^ d < 2 ^ d := Nat.mod_lt _ (Nat.two_pow_pos _)
  have hm2 : mo * 2 ^ d % 2 ^ 64 < 2 ^ 64 := Nat.mod_lt _ (by decide)
  have hA := high_mod ad mo d (by omega)
  have hlt := Nat.or_lt_two_pow (x := ad % 2 ^ d) (y := mo * 2 ^ d % 2 ^ 64) (n := 64) (by omega) hm2
  have hval : orI .u64 (andI .u64 (ad : Int) (IntKind.u64.wrap ((shlI .u64 (1 : Int) (d : Int)) - (1 : Int)))) (shlI .u64 (mo : Int) (d : Int)) = ((ad % 2 ^ d ||| mo * 2 ^ d % 2 ^ 64 : Nat) : Int) := by
    rw [low_val d (by omega), and_low ad d (by omega) (by omega), shl_any mo d (by omega), or_u _ _ (by omega) hm2]
  generalize (ad % 2 ^ d ||| mo * 2 ^ d % 2 ^ 64) = ad' at hA hlt hval
  (repeat (first | (refine h.al fun w h => ?_) | (refine h.dr fun w h => ?_) | (refine h.lc_2 rfl ?_) | (refine h.lc_6 rfl ?_) | (refine ⟨_, h.ldc rfl, ?_⟩) | (refine ⟨_, h.ldd rfl, ?_⟩) | (refine h.hd rfl ?_) | (refine ⟨h.ldc rfl, ?_⟩) | (refine ⟨h.ldd rfl, ?_⟩) | (refine h.stLc rfl rfl fun w h => ?_) | (refine exs ?_) | (refine _root_.Go.Vc.a2 ?_) | (refine h.stc rfl rfl fun w h => ?_) | (refine h.std rfl rfl fun w h => ?_)))
  refine law06_built_spec (hi1.rd _) (hi2.rd _) hg2 h fun w n k h => ?_
  have hk := h.nok
  refine cbF rfl ?_
  (repeat (first | (refine h.al fun w h => ?_) | (refine h.dr fun w h => ?_) | (refine h.lc_2 rfl ?_) | (refine h.lc_6 rfl ?_) | (refine ⟨_, h.ldc rfl, ?_⟩) | (refine ⟨_, h.ldd rfl, ?_⟩) | (refine h.hd rfl ?_) | (refine ⟨h.ldc rfl, ?_⟩) | (refine ⟨h.ldd rfl, ?_⟩) | (refine h.stLc rfl rfl fun w h => ?_) | (refine exs ?_) | (refine _root_.Go.Vc.a2 ?_) | (refine h.stc rfl rfl fun w h => ?_) | (refine h.std rfl rfl fun w h => ?_)))
  rw [hd]
  refine ⟨by decide, ?_⟩
  (repeat (first | (refine h.al fun w h => ?_) | (refine h.dr fun w h => ?_) | (refine h.lc_2 rfl ?_) | (refine h.lc_6 rfl ?_) | (refine ⟨_, h.ldc rfl, ?_⟩) | (refine ⟨_, h.ldd rfl, ?_⟩) | (refine h.hd rfl ?_) | (refine ⟨h.ldc rfl, ?_⟩) | (refine ⟨h.ldd rfl, ?_⟩) | (refine h.stLc rfl rfl fun w h => ?_) | (refine exs ?_) | (refine _root_.Go.Vc.a2 ?_) | (refine h.stc rfl rfl fun w h => ?_) | (refine h.std rfl rfl fun w h => ?_)))
  refine lookup_Slot_spec (addr := ad) (root := ⟨r1, r2, r3, r4, r5, r6⟩) hc (by omega) h fun w h => ?_
  have hsame : slotT (builtB bs) (builtH (builtB bs) hs) ⟨r1, r2, r3, r4, r5, r6⟩ ad' (d : Int) = slotT (builtB bs) (builtH (builtB bs) hs) ⟨r1, r2, r3, r4, r5, r6⟩ ad (d : Int) := by
    unfold slotT
    rw [if_neg (by omega), if_neg (by omega), Int.toNat_natCast]
    exact slotN_low hk.rng hA _ _ _ (Nat.le_refl _)
  refine h.al fun w1 h => ?_
  generalize w.heap.size = p1 at h ⊢
  (repeat (first | (refine h.al fun w h => ?_) | (refine h.dr fun w h => ?_) | (refine h.lc_2 rfl ?_) | (refine h.lc_6 rfl ?_) | (refine ⟨_, h.ldc rfl, ?_⟩) | (refine ⟨_, h.ldd rfl, ?_⟩) | (refine h.hd rfl ?_) | (refine ⟨h.ldc rfl, ?_⟩) | (refine ⟨h.ldd rfl, ?_⟩) | (refine h.stLc rfl rfl fun w h => ?_) | (refine exs ?_) | (refine _root_.Go.Vc.a2 ?_) | (refine h.stc rfl rfl fun w h => ?_) | (refine h.std rfl rfl fun w h => ?_)))
  intro k33 hk33
  have fin : ∀ w X, Own w0.heap.size w0 w (BlkA X [.int .i64 (slotT (builtB bs) (builtH (builtB bs) hs) ⟨r1, r2, r3, r4, r5, r6⟩ ad (d : Int)).1.1, .int .i64 (slotT (builtB bs) (builtH (builtB bs) hs) ⟨r1, r2, r3, r4, r5, r6⟩ ad (d : Int)).1.2] ::
      BlkA p1 [.int .i64 (slotT (builtB bs) (builtH (builtB bs) hs) ⟨r1, r2, r3, r4, r5, r6⟩ ad (d : Int)).1.1, .int .i64 (slotT (builtB bs) (builtH (builtB bs) hs) ⟨r1, r2, r3, r4, r5, r6⟩ ad (d : Int)).1.2] :: []) → k33 ⟨X, 0, none⟩ (slotT (builtB bs) (builtH (builtB bs) hs) ⟨r1, r2, r3, r4, r5, r6⟩ ad (d : Int)).2 w := fun w X h => by
    apply hk33
    (repeat (first | (refine h.al fun w h => ?_) | (refine h.dr fun w h => ?_) | (refine h.lc_2 rfl ?_) | (refine h.lc_6 rfl ?_) | (refine ⟨_, h.ldc rfl, ?_⟩) | (refine ⟨_, h.ldd rfl, ?_⟩) | (refine h.hd rfl ?_) | (refine ⟨h.ldc rfl, ?_⟩) | (refine ⟨h.ldd rfl, ?_⟩) | (refine h.stLc rfl rfl fun w h => ?_) | (refine exs ?_) | (refine _root_.Go.Vc.a2 ?_) | (refine h.stc rfl rfl fun w h => ?_) | (refine h.std rfl rfl fun w h => ?_)))
    refine ⟨_, slotEq _ _, ?_⟩
    rw [decide_eq_true rfl]
    refine cbT rfl (cbT (by simp) ?_)
    exact law06_fixed_spec h fun w h => hK _ h.sub
  (repeat (first | (refine h.al fun w h => ?_) | (refine h.dr fun w h => ?_) | (refine h.lc_2 rfl ?_) | (refine h.lc_6 rfl ?_) | (refine ⟨_, h.ldc rfl, ?_⟩) | (refine ⟨_, h.ldd rfl, ?_⟩) | (refine h.hd rfl ?_) | (refine ⟨h.ldc rfl, ?_⟩) | (refine ⟨h.ldd rfl, ?_⟩) | (refine h.stLc rfl rfl fun w h => ?_) | (refine exs ?_) | (refine _root_.Go.Vc.a2 ?_) | (refine h.stc rfl rfl fun w h => ?_) | (refine h.std rfl rfl fun w h => ?_)))
  refine ⟨by omega, by omega, ?_⟩
  rw [hval]
  (dsimp only [putAt, List.set_cons_zero, List.set_cons_succ] at h)
  refine ⟨?_, ?_, trivial⟩
  · refine lookup_Slot_spec (addr := ad') (root := ⟨r1, r2, r3, r4, r5, r6⟩) hc (by omega) h.up1 fun w h => ?_
    rw [hsame]
    (repeat (first | (refine h.al fun w h => ?_) | (refine h.dr fun w h => ?_) | (refine h.lc_2 rfl ?_) | (refine h.lc_6 rfl ?_) | (refine ⟨_, h.ldc rfl, ?_⟩) | (refine ⟨_, h.ldd rfl, ?_⟩) | (refine h.hd rfl ?_) | (refine ⟨h.ldc rfl, ?_⟩) | (refine ⟨h.ldd rfl, ?_⟩) | (refine h.stLc rfl rfl fun w h => ?_) | (refine exs ?_) | (refine _root_.Go.Vc.a2 ?_) | (refine h.stc rfl rfl fun w h => ?_) | (refine h.std rfl rfl fun w h => ?_)))
    (dsimp only [putAt, List.set_cons_zero, List.set_cons_succ] at h)
    exact fin _ _ h.sub
  · (repeat (first | (refine h.al fun w h => ?_) | (refine h.dr fun w h => ?_) | (refine h.lc_2 rfl ?_) | (refine h.lc_6 rfl ?_) | (refine ⟨_, h.ldc rfl, ?_⟩) | (refine ⟨_, h.ldd rfl, ?_⟩) | (refine h.hd rfl ?_) | (refine ⟨h.ldc rfl, ?_⟩) | (refine ⟨h.ldd rfl, ?_⟩) | (refine h.stLc rfl rfl fun w h => ?_) | (refine exs ?_) | (refine _root_.Go.Vc.a2 ?_) | (refine h.stc rfl rfl fun w h => ?_) | (refine h.std rfl rfl fun w h => ?_)))
    refine lookup_Slot_spec (addr := ad') (root := ⟨r1, r2, r3, r4, r5, r6⟩) hc (by omega) h.up2 fun w h => ?_
    rw [hsame]
    (repeat (first | (refine h.al fun w h => ?_) | (refine h.dr fun w h => ?_) | (refine h.lc_2 rfl ?_) | (refine h.lc_6 rfl ?_) | (refine ⟨_, h.ldc rfl, ?_⟩) | (refine ⟨_, h.ldd rfl, ?_⟩) | (refine h.hd rfl ?_) | (refine ⟨h.ldc rfl, ?_⟩) | (refine ⟨h.ldd rfl, ?_⟩) | (refine h.stLc rfl rfl fun w h => ?_) | (refine exs ?_) | (refine _root_.Go.Vc.a2 ?_) | (refine h.stc rfl rfl fun w h => ?_) | (refine h.std rfl rfl fun w h => ?_)))
    (dsimp only [putAt, List.set_cons_zero, List.set_cons_succ] at h)
    exact fin _ _ h.sub

theorem law06_LookupFree_spec {bits1 addr2 depth3 : Int} {K : Bool → World → Prop} (w1 : (Lit.int .i64 bits1).wf = true) (w2 : (Lit.int .u64 addr2).wf = true) (w3 : (Lit.int .i64 depth3).wf = true)
    (h : Own w0.heap.size w0 w []) (hK : ∀ w', Own w0.heap.size w0 w' [] → K true w') : C.law06_LookupFree bits1 addr2 depth3 K w := by
  apply S.law06_LookupFree_ok
  unfold S.law06_LookupFree
  obtain ⟨a0, a1⟩ := wfu w2
  obtain ⟨ad, rfl⟩ := Int.eq_ofNat_of_zero_le a0
  have hb := bitsOf_rng bits1
  obtain ⟨k, hk⟩ := Int.eq_ofNat_of_zero_le (show 0 ≤ bitsOf bits1 by omega)
  have hk2 : IntKind.i64.wrap ((1 : Int) + (andI .i64 bits1 (3 : Int))) = (k : Int) := hk
  obtain ⟨d, hd, hd1, hd2⟩ : ∃ d : Nat, IntKind.i64.wrap ((1 : Int) + (andI .i64 depth3 (63 : Int))) = (d : Int) ∧ 1 ≤ d ∧ d ≤ 64 := by
    obtain ⟨p, hp, e⟩ := andle depth3 63 (by decide)
    have e : andI .i64 depth3 63 = (p : Int) := e
    rw [e]
    exact ⟨1 + p, by rw [wr (by omega) (by omega)]; omega, by omega, by omega⟩
  rw [hd, hk2, low_val k (by omega), and_low ad k (by omega) (by omega)]
  have hmk : ad % 2 ^ k < 256 := mod_small ad k (by omega)
  rw [show IntKind.i64.wrap ((ad % 2 ^ k : Nat) : Int) = ((ad % 2 ^ k : Nat) : Int) from wr (Int.le_trans (by decide) (Int.natCast_nonneg _)) (by omega)]
  have hfree := slotT_free (k := k) (d := d) (addr := ad) (by omega) hd1 hd2
  have cR : CapR ⟨2, 0, 7, 0, 0, 0⟩ := ⟨by decide, by decide, by decide, by decide⟩
  (repeat (first | (refine h.al fun w h => ?_) | (refine h.dr fun w h => ?_) | (refine h.lc_2 rfl ?_) | (refine h.lc_6 rfl ?_) | (refine ⟨_, h.ldc rfl, ?_⟩) | (refine ⟨_, h.ldd rfl, ?_⟩) | (refine h.hd rfl ?_) | (refine ⟨h.ldc rfl, ?_⟩) | (refine ⟨h.ldd rfl, ?_⟩) | (refine h.stLc rfl rfl fun w h => ?_) | (refine exs ?_) | (refine _root_.Go.Vc.a2 ?_) | (refine h.stc rfl rfl fun w h => ?_) | (refine h.std rfl rfl fun w h => ?_)))
  have h := Own.asSl (E := intE) h [bits1] rfl
  refine law06_built_spec (bs := [bits1]) (hs := []) (Rd.own rfl) ⟨rfl, fun w' h i j x _ hx => by simp at hx⟩ (fun p hp => by cases hp) h fun w n kk h => ?_
  have hB : builtB [bits1] = [(k : Int)] := by show [bitsOf bits1] = _; rw [hk]
  rw [hB] at h
  have h : Own w0.heap.size w0 w (NodesA n [(k : Int)] (fun _ => none) :: RNodesA kk [(k : Int)] (fun _ => none) :: SlT intE ⟨some ⟨_, 0, none⟩, [bits1].length, [bits1].length⟩ [bits1] :: []) := h
  refine cbF rfl ?_
  (repeat (first | (refine h.al fun w h => ?_) | (refine h.dr fun w h => ?_) | (refine h.lc_2 rfl ?_) | (refine h.lc_6 rfl ?_) | (refine ⟨_, h.ldc rfl, ?_⟩) | (refine ⟨_, h.ldd rfl, ?_⟩) | (refine h.hd rfl ?_) | (refine ⟨h.ldc rfl, ?_⟩) | (refine ⟨h.ldd rfl, ?_⟩) | (refine h.stLc rfl rfl fun w h => ?_) | (refine exs ?_) | (refine _root_.Go.Vc.a2 ?_) | (refine h.stc rfl rfl fun w h => ?_) | (refine h.std rfl rfl fun w h => ?_)))
  refine lookup_Slot_spec (addr := ad) (root := ⟨2, 0, 7, 0, 0, 0⟩) cR (by omega) h.up1 fun w h => ?_
  rw [hfree]
  (repeat (first | (refine h.al fun w h => ?_) | (refine h.dr fun w h => ?_) | (refine h.lc_2 rfl ?_) | (refine h.lc_6 rfl ?_) | (refine ⟨_, h.ldc rfl, ?_⟩) | (refine ⟨_, h.ldd rfl, ?_⟩) | (refine h.hd rfl ?_) | (refine ⟨h.ldc rfl, ?_⟩) | (refine ⟨h.ldd rfl, ?_⟩) | (refine h.stLc rfl rfl fun w h => ?_) | (refine exs ?_) | (refine _root_.Go.Vc.a2 ?_) | (refine h.stc rfl rfl fun w h => ?_) | (refine h.std rfl rfl fun w h => ?_)))
  by_cases e : d = k
  · rw [if_pos e] at h ⊢
    refine cneF (by omega) ?_
    (repeat (first | (refine h.al fun w h => ?_) | (refine h.dr fun w h => ?_) | (refine h.lc_2 rfl ?_) | (refine h.lc_6 rfl ?_) | (refine ⟨_, h.ldc rfl, ?_⟩) | (refine ⟨_, h.ldd rfl, ?_⟩) | (refine h.hd rfl ?_) | (refine ⟨h.ldc rfl, ?_⟩) | (refine ⟨h.ldd rfl, ?_⟩) | (refine h.stLc rfl rfl fun w h => ?_) | (refine exs ?_) | (refine _root_.Go.Vc.a2 ?_) | (refine h.stc rfl rfl fun w h => ?_) | (refine h.std rfl rfl fun w h => ?_)))
    refine ⟨by omega, _, slotEq (0, ((ad % 2 ^ k : Nat) : Int)) (0, ((ad % 2 ^ k : Nat) : Int)), ?_⟩
    rw [decide_eq_true rfl]
    refine cbT rfl ?_
    (repeat (first | (refine h.al fun w h => ?_) | (refine h.dr fun w h => ?_) | (refine h.lc_2 rfl ?_) | (refine h.lc_6 rfl ?_) | (refine ⟨_, h.ldc rfl, ?_⟩) | (refine ⟨_, h.ldd rfl, ?_⟩) | (refine h.hd rfl ?_) | (refine ⟨h.ldc rfl, ?_⟩) | (refine ⟨h.ldd rfl, ?_⟩) | (refine h.stLc rfl rfl fun w h => ?_) | (refine exs ?_) | (refine _root_.Go.Vc.a2 ?_) | (refine h.stc rfl rfl fun w h => ?_) | (refine h.std rfl rfl fun w h => ?_)))
    exact law06_fixed_spec h fun w h => hK _ h.sub
  · rw [if_neg e] at h ⊢
    refine cneT (by omega) ?_
    refine ceqT rfl ?_
    (repeat (first | (refine h.al fun w h => ?_) | (refine h.dr fun w h => ?_) | (refine h.lc_2 rfl ?_) | (refine h.lc_6 rfl ?_) | (refine ⟨_, h.ldc rfl, ?_⟩) | (refine ⟨_, h.ldd rfl, ?_⟩) | (refine h.hd rfl ?_) | (refine ⟨h.ldc rfl, ?_⟩) | (refine ⟨h.ldd rfl, ?_⟩) | (refine h.stLc rfl rfl fun w h => ?_) | (refine exs ?_) | (refine _root_.Go.Vc.a2 ?_) | (refine h.stc rfl rfl fun w h => ?_) | (refine h.std rfl rfl fun w h => ?_)))
    refine ⟨_, slotEq (0, 0) (0, 0), ?_⟩
    refine cbT rfl ?_
    exact law06_fixed_spec h fun w h => hK _ h.sub

theorem law06_LookupDepths_spec {b1 b2 : Sl} {bs : List Int} {hs : List (Slot × Cap)} {r1 r2 r3 r4 r5 r6 r7 r8 : Int} {K : Bool → World → Prop} (hi1 : Inp intE w0 b1 bs) (hg1 : ∀ x ∈ bs, (Lit.int .i64 x).wf = true) (hi2 : Inp heldE w0 b2 hs) (hg2 : ∀ x ∈ hs, CapR x.2)
    (w1 : (Lit.int .i64 r1).wf = true) (w2 : (Lit.int .i64 r2).wf = true) (w3 : (Lit.int .i64 r3).wf = true) (w4 : (Lit.int .u64 r4).wf = true) (w5 : (Lit.int .u64 r5).wf = true) (w6 : (Lit.int .i64 r6).wf = true) (w7 : (Lit.int .u64 r7).wf = true) (w8 : (Lit.int .i64 r8).wf = true)
    (h : Own w0.heap.size w0 w []) (hK : ∀ w', Own w0.heap.size w0 w' [] → K true w') : C.law06_LookupDepths b1 b2 r1 r2 r3 r4 r5 r6 r7 r8 K w := by
  apply S.law06_LookupDepths_ok
  unfold S.law06_LookupDepths
  have hc : CapR ⟨r1, r2, r3, r4, r5, r6⟩ := ⟨(wfu w4).1, (wfu w4).2, (wfu w5).1, (wfu w5).2⟩
  obtain ⟨a0, a1⟩ := wfu w7
  obtain ⟨ad, rfl⟩ := Int.eq_ofNat_of_zero_le a0
  have e64 : (2 : Nat) ^ 64 = 18446744073709551616 := by decide
  (repeat (first | (refine h.al fun w h => ?_) | (refine h.dr fun w h => ?_) | (refine h.lc_2 rfl ?_) | (refine h.lc_6 rfl ?_) | (refine ⟨_, h.ldc rfl, ?_⟩) | (refine ⟨_, h.ldd rfl, ?_⟩) | (refine h.hd rfl ?_) | (refine ⟨h.ldc rfl, ?_⟩) | (refine ⟨h.ldd rfl, ?_⟩) | (refine h.stLc rfl rfl fun w h => ?_) | (refine exs ?_) | (refine _root_.Go.Vc.a2 ?_) | (refine h.stc rfl rfl fun w h => ?_) | (refine h.std rfl rfl fun w h => ?_)))
  refine law06_built_spec (hi1.rd _) (hi2.rd _) hg2 h fun w n k h => ?_
  have hk := h.nok
  refine cbF rfl ?_
  generalize hbb : builtB bs = bits at h hk ⊢
  generalize builtH bits hs = H at h hk ⊢
  have bad : ∀ dd : Int, (dd < 1 ∨ 64 < dd) → slotT bits H ⟨r1, r2, r3, r4, r5, r6⟩ ad dd = ((0, 0), 1) := fun dd e => by unfold slotT; rw [if_pos e]
  (repeat (first | (refine h.al fun w h => ?_) | (refine h.dr fun w h => ?_) | (refine h.lc_2 rfl ?_) | (refine h.lc_6 rfl ?_) | (refine ⟨_, h.ldc rfl, ?_⟩) | (refine ⟨_, h.ldd rfl, ?_⟩) | (refine h.hd rfl ?_) | (refine ⟨h.ldc rfl, ?_⟩) | (refine ⟨h.ldd rfl, ?_⟩) | (refine h.stLc rfl rfl fun w h => ?_) | (refine exs ?_) | (refine _root_.Go.Vc.a2 ?_) | (refine h.stc rfl rfl fun w h => ?_) | (refine h.std rfl rfl fun w h => ?_)))
  refine lookup_Slot_spec (addr := ad) (root := ⟨r1, r2, r3, r4, r5, r6⟩) hc (by omega) h fun w h => ?_
  rw [bad 0 (by decide)]
  (repeat (first | (refine h.al fun w h => ?_) | (refine h.dr fun w h => ?_) | (refine h.lc_2 rfl ?_) | (refine h.lc_6 rfl ?_) | (refine ⟨_, h.ldc rfl, ?_⟩) | (refine ⟨_, h.ldd rfl, ?_⟩) | (refine h.hd rfl ?_) | (refine ⟨h.ldc rfl, ?_⟩) | (refine ⟨h.ldd rfl, ?_⟩) | (refine h.stLc rfl rfl fun w h => ?_) | (refine exs ?_) | (refine _root_.Go.Vc.a2 ?_) | (refine h.stc rfl rfl fun w h => ?_) | (refine h.std rfl rfl fun w h => ?_)))
  refine lookup_Slot_spec (addr := ad) (root := ⟨r1, r2, r3, r4, r5, r6⟩) hc (by omega) h.up1 fun w h => ?_
  rw [bad 65 (by decide)]
  (repeat (first | (refine h.al fun w h => ?_) | (refine h.dr fun w h => ?_) | (refine h.lc_2 rfl ?_) | (refine h.lc_6 rfl ?_) | (refine ⟨_, h.ldc rfl, ?_⟩) | (refine ⟨_, h.ldd rfl, ?_⟩) | (refine h.hd rfl ?_) | (refine ⟨h.ldc rfl, ?_⟩) | (refine ⟨h.ldd rfl, ?_⟩) | (refine h.stLc rfl rfl fun w h => ?_) | (refine exs ?_) | (refine _root_.Go.Vc.a2 ?_) | (refine h.stc rfl rfl fun w h => ?_) | (refine h.std rfl rfl fun w h => ?_)))
  refine lookup_Slot_spec (addr := ad) (root := ⟨r1, r2, r3, r4, r5, r6⟩) hc (by omega) h.up1 fun w h => ?_
  have hneg : IntKind.i64.wrap ((-1 : Int) - (andI .i64 r8 (65535 : Int))) < 1 := by
    obtain ⟨p, hp, e⟩ := andle r8 65535 (by decide)
    have e : andI .i64 r8 65535 = (p : Int) := e
    rw [e, wr (by omega) (by omega)]; omega
  rw [bad _ (.inl hneg)]
  (repeat (first | (refine h.al fun w h => ?_) | (refine h.dr fun w h => ?_) | (refine h.lc_2 rfl ?_) | (refine h.lc_6 rfl ?_) | (refine ⟨_, h.ldc rfl, ?_⟩) | (refine ⟨_, h.ldd rfl, ?_⟩) | (refine h.hd rfl ?_) | (refine ⟨h.ldc rfl, ?_⟩) | (refine ⟨h.ldd rfl, ?_⟩) | (refine h.stLc rfl rfl fun w h => ?_) | (refine exs ?_) | (refine _root_.Go.Vc.a2 ?_) | (refine h.stc rfl rfl fun w h => ?_) | (refine h.std rfl rfl fun w h => ?_)))
  intro k58 hk58
  refine cneF rfl ?_
  refine cneF rfl ?_
  apply hk58
  refine cbF rfl ?_
  (repeat (first | (refine h.al fun w h => ?_) | (refine h.dr fun w h => ?_) | (refine h.lc_2 rfl ?_) | (refine h.lc_6 rfl ?_) | (refine ⟨_, h.ldc rfl, ?_⟩) | (refine ⟨_, h.ldd rfl, ?_⟩) | (refine h.hd rfl ?_) | (refine ⟨h.ldc rfl, ?_⟩) | (refine ⟨h.ldd rfl, ?_⟩) | (refine h.stLc rfl rfl fun w h => ?_) | (refine exs ?_) | (refine _root_.Go.Vc.a2 ?_) | (refine h.stc rfl rfl fun w h => ?_) | (refine h.std rfl rfl fun w h => ?_)))
  refine lookup_Slot_spec (addr := ad) (root := ⟨r1, r2, r3, r4, r5, r6⟩) hc (by omega) h.up1 fun w h => ?_
  have ht := slotT_there (addr := ad) (root := ⟨r1, r2, r3, r4, r5, r6⟩) (d := r8) hk
  have hmore : ∀ s, slotT bits H ⟨r1, r2, r3, r4, r5, r6⟩ ad r8 = (s, 0) → ((H s).getD zeroCap).kind ≠ 2 → r8 ≤ 63 → (slotT bits H ⟨r1, r2, r3, r4, r5, r6⟩ (2 * ad % 2 ^ 64) (r8 + 1)).2 = 62 := fun s hs hkd h63 => by
    have hdp : 1 ≤ r8 ∧ r8 ≤ 64 := by
      have := slotT_root (bits := bits) (H := H) (addr := ad) (root := ⟨r1, r2, r3, r4, r5, r6⟩) (d := r8) (by rw [hs])
      exact ⟨this.1, this.2.1⟩
    unfold slotT at hs ⊢
    rw [if_neg (by omega)] at hs
    rw [if_neg (by omega), show (r8 + 1).toNat = r8.toNat + 1 from by omega]
    exact slotN_more (by omega) hk.rng _ _ _ _ s (by omega) (by omega) hs hkd
  generalize hst : slotT bits H ⟨r1, r2, r3, r4, r5, r6⟩ ad r8 = st at ht hmore ⊢
  obtain ⟨s, e⟩ := st
  simp only at ht ⊢
  (repeat (first | (refine h.al fun w h => ?_) | (refine h.dr fun w h => ?_) | (refine h.lc_2 rfl ?_) | (refine h.lc_6 rfl ?_) | (refine ⟨_, h.ldc rfl, ?_⟩) | (refine ⟨_, h.ldd rfl, ?_⟩) | (refine h.hd rfl ?_) | (refine ⟨h.ldc rfl, ?_⟩) | (refine ⟨h.ldd rfl, ?_⟩) | (refine h.stLc rfl rfl fun w h => ?_) | (refine exs ?_) | (refine _root_.Go.Vc.a2 ?_) | (refine h.stc rfl rfl fun w h => ?_) | (refine h.std rfl rfl fun w h => ?_)))
  refine ref05_Get_spec (s := s) (h.pick (A := RNodesA k bits H)) fun w c ee hg hcR h => ?_
  (repeat (first | (refine h.al fun w h => ?_) | (refine h.dr fun w h => ?_) | (refine h.lc_2 rfl ?_) | (refine h.lc_6 rfl ?_) | (refine ⟨_, h.ldc rfl, ?_⟩) | (refine ⟨_, h.ldd rfl, ?_⟩) | (refine h.hd rfl ?_) | (refine ⟨h.ldc rfl, ?_⟩) | (refine ⟨h.ldd rfl, ?_⟩) | (refine h.stLc rfl rfl fun w h => ?_) | (refine exs ?_) | (refine _root_.Go.Vc.a2 ?_) | (refine h.stc rfl rfl fun w h => ?_) | (refine h.std rfl rfl fun w h => ?_)))
  intro k87 hk87
  have t87 : k87 true _ := hk87 _ _ (cbT rfl (law06_fixed_spec h fun w h => hK _ h.sub))
  refine cne (fun _ => t87) (fun e0 => ?_)
  subst e0
  (repeat (first | (refine h.al fun w h => ?_) | (refine h.dr fun w h => ?_) | (refine h.lc_2 rfl ?_) | (refine h.lc_6 rfl ?_) | (refine ⟨_, h.ldc rfl, ?_⟩) | (refine ⟨_, h.ldd rfl, ?_⟩) | (refine h.hd rfl ?_) | (refine ⟨h.ldc rfl, ?_⟩) | (refine ⟨h.ldd rfl, ?_⟩) | (refine h.stLc rfl rfl fun w h => ?_) | (refine exs ?_) | (refine _root_.Go.Vc.a2 ?_) | (refine h.stc rfl rfl fun w h => ?_) | (refine h.std rfl rfl fun w h => ?_)))
  refine ceq (fun _ => t87) (fun ek => ?_)
  (repeat (first | (refine h.al fun w h => ?_) | (refine h.dr fun w h => ?_) | (refine h.lc_2 rfl ?_) | (refine h.lc_6 rfl ?_) | (refine ⟨_, h.ldc rfl, ?_⟩) | (refine ⟨_, h.ldd rfl, ?_⟩) | (refine h.hd rfl ?_) | (refine ⟨h.ldc rfl, ?_⟩) | (refine ⟨h.ldd rfl, ?_⟩) | (refine h.stLc rfl rfl fun w h => ?_) | (refine exs ?_) | (refine _root_.Go.Vc.a2 ?_) | (refine h.stc rfl rfl fun w h => ?_) | (refine h.std rfl rfl fun w h => ?_)))
  by_cases e63 : r8 > 63
  · rw [decide_eq_true e63]; exact t87
  rw [decide_eq_false e63]
  apply hk87
  refine cbF rfl ?_
  (repeat (first | (refine h.al fun w h => ?_) | (refine h.dr fun w h => ?_) | (refine h.lc_2 rfl ?_) | (refine h.lc_6 rfl ?_) | (refine ⟨_, h.ldc rfl, ?_⟩) | (refine ⟨_, h.ldd rfl, ?_⟩) | (refine h.hd rfl ?_) | (refine ⟨h.ldc rfl, ?_⟩) | (refine ⟨h.ldd rfl, ?_⟩) | (refine h.stLc rfl rfl fun w h => ?_) | (refine exs ?_) | (refine _root_.Go.Vc.a2 ?_) | (refine h.stc rfl rfl fun w h => ?_) | (refine h.std rfl rfl fun w h => ?_)))
  refine ⟨by decide, ?_⟩
  (repeat (first | (refine h.al fun w h => ?_) | (refine h.dr fun w h => ?_) | (refine h.lc_2 rfl ?_) | (refine h.lc_6 rfl ?_) | (refine ⟨_, h.ldc rfl, ?_⟩) | (refine ⟨_, h.ldd rfl, ?_⟩) | (refine h.hd rfl ?_) | (refine ⟨h.ldc rfl, ?_⟩) | (refine ⟨h.ldd rfl, ?_⟩) | (refine h.stLc rfl rfl fun w h => ?_) | (refine exs ?_) | (refine _root_.Go.Vc.a2 ?_) | (refine h.stc rfl rfl fun w h => ?_) | (refine h.std rfl rfl fun w h => ?_)))
  have hr8 := wfi w8
  rw [show shlI .u64 (ad : Int) 1 = ((2 * ad % 2 ^ 64 : Nat) : Int) from by rw [show (1 : Int) = ((1 : Nat) : Int) from rfl, shl_any ad 1 (by decide), Nat.pow_one, Nat.mul_comm], wr (by omega) (by omega)]
  refine lookup_Slot_spec (addr := 2 * ad % 2 ^ 64) (root := ⟨r1, r2, r3, r4, r5, r6⟩) hc (Nat.mod_lt _ (by decide)) (h.pick (A := NodesA n bits H)) fun w h => ?_
  unfold getN at hg
  rw [if_neg (by rw [ht rfl]; decide)] at hg
  simp only [Prod.mk.injEq] at hg
  rw [hmore s rfl (by rw [← hg.1]; exact ek) (by omega)]
  (repeat (first | (refine h.al fun w h => ?_) | (refine h.dr fun w h => ?_) | (refine h.lc_2 rfl ?_) | (refine h.lc_6 rfl ?_) | (refine ⟨_, h.ldc rfl, ?_⟩) | (refine ⟨_, h.ldd rfl, ?_⟩) | (refine h.hd rfl ?_) | (refine ⟨h.ldc rfl, ?_⟩) | (refine ⟨h.ldd rfl, ?_⟩) | (refine h.stLc rfl rfl fun w h => ?_) | (refine exs ?_) | (refine _root_.Go.Vc.a2 ?_) | (refine h.stc rfl rfl fun w h => ?_) | (refine h.std rfl rfl fun w h => ?_)))
  refine ceqT rfl ?_
  exact law06_fixed_spec h fun w h => hK _ h.sub
end
end Go.Proofs.Ytdlcejjiccknlaa
