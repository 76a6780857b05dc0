/- The document's answer on bits: what its calls come to. -/
import Derived.Test.YtimicibeljkjnaaL3
set_option linter.unusedVariables false
set_option linter.unusedSimpArgs false
namespace Go.Proofs.Ytimicibeljkjnaa
open Go Go.Vc Go.Proofs

theorem wrap_u64 (z : Nat) : IntKind.u64.wrap (z : Int) = ((z % 2 ^ 64 : Nat) : Int) := by
  have e1 : (2 : Int) ^ 64 = 18446744073709551616 := by decide
  have e2 : (2 : Nat) ^ 64 = 18446744073709551616 := by decide
  simp only [IntKind.wrap, IntKind.bits, IntKind.signed, e1, e2, Bool.false_and, Bool.false_eq_true, if_false]
  omega
theorem ref01_Two_spec {n : Nat} {w : World} {K : Int → World → Prop} (hn : n < 64) (h : K ((2 ^ n : Nat) : Int) w) : C.ref01_Two (n : Int) K w := by
  apply S.ref01_Two_ok
  unfold S.ref01_Two
  intro l2 hl2
  have loop : ∀ (m i : Nat), i + m = n → l2 ((2 ^ i : Nat) : Int) (i : Int) w := by
    intro m
    induction m with
    | zero =>
      intro i hi
      have : i = n := by omega
      subst this
      apply hl2
      rw [show decide ((i : Int) < (i : Int)) = false from by simp, cond_false]
      exact h
    | succ m ih =>
      intro i hi
      apply hl2
      rw [show decide ((i : Int) < (n : Int)) = true from by simp; omega, cond_true]
      have hp : 2 ^ (i + 1) < 2 ^ 64 := Nat.pow_lt_pow_right (by omega) (by omega)
      have e : (2 : Int) * ((2 ^ i : Nat) : Int) = ((2 ^ (i + 1) : Nat) : Int) := by rw [Nat.pow_succ]; omega
      rw [e, wrap_u64, Nat.mod_eq_of_lt hp, wr (by omega) (by omega)]
      exact ih (i + 1) (by omega)
  exact loop n 0 (by omega)
theorem ref01_Bit_spec {x n : Nat} {w : World} {K : Bool → World → Prop} (hx : x < 2 ^ 64) (hn : n < 64) (h : K (x.testBit n) w) : C.ref01_Bit (x : Int) (n : Int) K w := by
  apply S.ref01_Bit_ok
  unfold S.ref01_Bit
  refine ref01_Two_spec hn ⟨?_, by decide, ?_⟩
  · have : 0 < 2 ^ n := Nat.two_pow_pos n
    omega
  · have e : IntKind.u64.wrap ((x : Int).tdiv ((2 ^ n : Nat) : Int)) = ((x / 2 ^ n : Nat) : Int) := by
      have e1 : (x : Int).tdiv ((2 ^ n : Nat) : Int) = ((x / 2 ^ n : Nat) : Int) := rfl
      rw [e1, wrap_u64, Nat.mod_eq_of_lt (Nat.lt_of_le_of_lt (Nat.div_le_self _ _) hx)]
    rw [e]
    have e2 : ((x / 2 ^ n : Nat) : Int).tmod 2 = ((x / 2 ^ n % 2 : Nat) : Int) := rfl
    rw [e2]
    have e3 : (((x / 2 ^ n % 2 : Nat) : Int) == 1) = x.testBit n := by
      rw [Nat.testBit_eq_decide_div_mod_eq]
      by_cases e : x / 2 ^ n % 2 = 1
      · rw [e]; simp
      · have : x / 2 ^ n % 2 = 0 := by omega
        rw [this]; simp
    rw [e3]; exact h

section
variable {B : Nat} {w0 w : World} {R : List Asn}
theorem bits_cell {f : Nat → Bool} {b1 b2 b3 b4 : Int} (hb : BitsOk f [b1, b2, b3, b4]) {n : Nat} (hn : n < 256) : ∃ x : Nat, [Value.int .u64 b1, .int .u64 b2, .int .u64 b3, .int .u64 b4][n / 64]? = some (.int .u64 (x : Int)) ∧ x < 2 ^ 64 ∧ x.testBit (n % 64) = f n := by
  obtain ⟨x, h1, h2, h3⟩ := hb.2 (n / 64) (by omega)
  refine ⟨x, ?_, h2, ?_⟩
  · have := congrArg (Option.map (Value.int .u64)) h1
    rw [← List.getElem?_map] at this
    exact this
  · rw [h3 _ (Nat.mod_lt _ (by omega)), show 64 * (n / 64) + n % 64 = n from by omega]
set_option maxRecDepth 4000 in
theorem ref01_Has_spec {f : Nat → Bool} {b1 b2 b3 b4 : Int} {n : Nat} {K : Bool → World → Prop} (h : Own B w0 w R) (hb : BitsOk f [b1, b2, b3, b4]) (hn : n < 256) (hK : ∀ w', Own B w0 w' R → K (f n) w') : C.ref01_Has b1 b2 b3 b4 (n : Int) K w := by
  apply S.ref01_Has_ok
  unfold S.ref01_Has
  refine h.al fun w1 h => ?_
  rw [show decide ((n : Int) ≥ 0) = true from by simp, cond_true, show decide ((n : Int) < 256) = true from by simp; omega, cond_true]
  have e1 : IntKind.i64.wrap ((n : Int).tdiv 64) = ((n / 64 : Nat) : Int) := by
    have : ((n : Int).tdiv 64) = ((n / 64 : Nat) : Int) := rfl
    rw [this, wr (by omega) (by omega)]
  have e2 : ((n : Int).tmod 64) = ((n % 64 : Nat) : Int) := rfl
  obtain ⟨x, h1, h2, h3⟩ := bits_cell hb hn
  rw [e1, e2]
  refine ⟨by decide, by omega, by omega, (x : Int), ?_, by decide, ?_⟩
  · rw [Int.toNat_natCast, Nat.mul_one, add_mk, Nat.zero_add]; exact h.ld0 0 rfl h1
  · refine ref01_Bit_spec h2 (Nat.mod_lt _ (by omega)) ?_
    rw [h3]; exact hK w1 h.drop

theorem add_bit (x i : Nat) (hx : x < 2 ^ 64) (hi : i < 64) (hb : x.testBit i = false) : ∃ y : Nat, IntKind.u64.wrap ((x : Int) + ((2 ^ i : Nat) : Int)) = (y : Int) ∧ y < 2 ^ 64 ∧ ∀ j, j < 64 → y.testBit j = if j = i then true else x.testBit j := by
  have hp : 2 ^ i < 2 ^ 64 := Nat.pow_lt_pow_right (by omega) hi
  have hgl : ∀ (z j : Nat), j < 64 → (BitVec.ofNat 64 z).getLsbD j = z.testBit j := fun z j hj => by rw [BitVec.getLsbD_ofNat]; simp [hj]
  have htb : ∀ j, (2 ^ i).testBit j = decide (j = i) := fun j => by
    rw [Nat.testBit_two_pow]; exact decide_eq_decide.2 ⟨fun h => h.symm, fun h => h.symm⟩
  have hand : BitVec.ofNat 64 x &&& BitVec.ofNat 64 (2 ^ i) = 0#64 := by
    apply BitVec.eq_of_getLsbD_eq
    intro j hj
    rw [BitVec.getLsbD_and, hgl _ _ hj, hgl _ _ hj, htb]
    by_cases e : j = i
    · subst e; simp [hb]
    · simp [e]
  have hor := BitVec.add_eq_or_of_and_eq_zero _ _ hand
  refine ⟨(BitVec.ofNat 64 x ||| BitVec.ofNat 64 (2 ^ i)).toNat, ?_, BitVec.isLt _, fun j hj => ?_⟩
  · rw [← hor, show (x : Int) + ((2 ^ i : Nat) : Int) = ((x + 2 ^ i : Nat) : Int) from by omega, wrap_u64, BitVec.toNat_add, BitVec.toNat_ofNat, BitVec.toNat_ofNat, Nat.mod_eq_of_lt hx, Nat.mod_eq_of_lt hp]
  · rw [BitVec.testBit_toNat, BitVec.getLsbD_or, hgl _ _ hj, hgl _ _ hj, htb]
    by_cases e : j = i <;> simp [e]

theorem BitsOk.put {f : Nat → Bool} {b1 b2 b3 b4 : Int} (hb : BitsOk f [b1, b2, b3, b4]) {n x y : Nat} (hn : n < 256) (hx : [Value.int .u64 b1, .int .u64 b2, .int .u64 b3, .int .u64 b4][n / 64]? = some (.int .u64 (x : Int))) (hy : y < 2 ^ 64)
    (hxy : ∀ j, j < 64 → y.testBit j = if j = n % 64 then true else x.testBit j) : BitsOk (fun i => if i = n then true else f i) ([b1, b2, b3, b4].set (n / 64) (y : Int)) := by
  refine ⟨by simp, fun j hj => ?_⟩
  rw [List.getElem?_set]
  by_cases e : n / 64 = j
  · rw [if_pos e, if_pos (by simp; omega)]
    refine ⟨y, rfl, hy, fun i hi => ?_⟩
    rw [hxy i hi]
    obtain ⟨z, h1, h2, h3⟩ := hb.2 j hj
    have hxz : z = x := by
      have := congrArg (Option.map (Value.int .u64)) h1
      rw [← List.getElem?_map, ← e] at this
      have := this.symm.trans hx
      simp only [Option.map_some, Option.some.injEq, Value.int.injEq, true_and] at this
      omega
    subst hxz
    show _ = if 64 * j + i = n then true else f (64 * j + i)
    by_cases e2 : i = n % 64
    · rw [if_pos e2, if_pos (by omega)]
    · rw [if_neg e2, if_neg (by omega), h3 i hi]
  · rw [if_neg e]
    obtain ⟨z, h1, h2, h3⟩ := hb.2 j hj
    refine ⟨z, h1, h2, fun i hi => ?_⟩
    show _ = if 64 * j + i = n then true else f (64 * j + i)
    rw [if_neg (by omega), h3 i hi]

theorem ref01_Set_spec {f : Nat → Bool} {b1 b2 b3 b4 : Int} {n : Nat} {K : Int → Int → Int → Int → Int → World → Prop} (h : Own B w0 w R) (hb : BitsOk f [b1, b2, b3, b4]) (hn : n < 256)
    (hK : ∀ r1 r2 r3 r4 w', Own B w0 w' R → BitsOk (fun i => if i = n then true else f i) [r1, r2, r3, r4] → K r1 r2 r3 r4 0 w') : C.ref01_Set b1 b2 b3 b4 (n : Int) true K w := by
  apply S.ref01_Set_ok
  unfold S.ref01_Set
  refine h.al fun w1 h => ?_
  refine h.al fun w2 h => ?_
  intro k9 hk9
  rw [show decide ((n : Int) < 0) = false from by simp, cond_false, show decide ((n : Int) > 255) = false from by simp; omega]
  apply hk9
  rw [cond_false]
  simp only [add_mk, Nat.zero_add]
  refine ⟨b1, h.ld0 1 rfl rfl, b2, h.ld0 1 rfl rfl, b3, h.ld0 1 rfl rfl, b4, h.ld0 1 rfl rfl, ?_⟩
  refine h.al fun w3 h => ?_
  refine h.st 0 rfl rfl rfl fun w4 h => ?_
  refine h.st 0 rfl rfl rfl fun w5 h => ?_
  refine h.st 0 rfl rfl rfl fun w6 h => ?_
  refine h.st 0 rfl rfl rfl fun w7 h => ?_
  have h : Own B w0 w7 (BlkA w2.heap.size [.int .u64 b1, .int .u64 b2, .int .u64 b3, .int .u64 b4] :: BlkA w1.heap.size [.int .u64 0, .int .u64 0, .int .u64 0, .int .u64 0] :: BlkA w.heap.size [.int .u64 b1, .int .u64 b2, .int .u64 b3, .int .u64 b4] :: R) := h
  intro k29 hk29
  rw [cond_true]
  refine ⟨b1, h.ld0 2 rfl rfl, b2, h.ld0 2 rfl rfl, b3, h.ld0 2 rfl rfl, b4, h.ld0 2 rfl rfl, ?_⟩
  refine ref01_Has_spec h hb hn fun w8 h => ?_
  apply hk29
  intro k32 hk32
  have e1 : IntKind.i64.wrap ((n : Int).tdiv 64) = ((n / 64 : Nat) : Int) := by
    have : ((n : Int).tdiv 64) = ((n / 64 : Nat) : Int) := rfl
    rw [this, wr (by omega) (by omega)]
  have e2 : ((n : Int).tmod 64) = ((n % 64 : Nat) : Int) := rfl
  have fin : ∀ (ws : List Int) (w' : World), ws.length = 4 → BitsOk (fun i => if i = n then true else f i) ws → Own B w0 w' (BlkA w2.heap.size (ws.map (Value.int .u64)) :: BlkA w1.heap.size [.int .u64 0, .int .u64 0, .int .u64 0, .int .u64 0] :: BlkA w.heap.size [.int .u64 b1, .int .u64 b2, .int .u64 b3, .int .u64 b4] :: R) → k32 w' := by
    intro ws w' hl hws h
    obtain ⟨c1, c2, c3, c4, rfl⟩ := four ws hl
    apply hk32
    intro k34 hk34
    rw [Bool.not_true, cond_false]
    apply hk34
    rw [cond_false]
    refine ⟨c1, h.ld0 0 rfl rfl, c2, h.ld0 0 rfl rfl, c3, h.ld0 0 rfl rfl, c4, h.ld0 0 rfl rfl, ?_⟩
    refine h.st 1 rfl rfl rfl fun w9 h => ?_
    refine h.st 1 rfl rfl rfl fun w10 h => ?_
    refine h.st 1 rfl rfl rfl fun w11 h => ?_
    refine h.st 1 rfl rfl rfl fun w12 h => ?_
    refine ⟨c1, h.ld0 1 rfl rfl, c2, h.ld0 1 rfl rfl, c3, h.ld0 1 rfl rfl, c4, h.ld0 1 rfl rfl, ?_⟩
    exact hK c1 c2 c3 c4 w12 h.drop.drop.drop hws
  cases hf : f n with
  | true =>
    rw [Bool.not_true, cond_false]
    refine fin [b1, b2, b3, b4] w8 rfl (hb.congr fun i _ => ?_) h
    by_cases e : i = n
    · subst e; rw [if_pos rfl, hf]
    · rw [if_neg e]
  | false =>
    rw [Bool.not_false, cond_true]
    refine h.dr fun w9 h => ?_
    obtain ⟨x, h1, h2, h3⟩ := bits_cell hb hn
    rw [hf] at h3
    obtain ⟨y, hy1, hy2, hy3⟩ := add_bit x (n % 64) h2 (Nat.mod_lt _ (by omega)) h3
    rw [e1, e2]
    have step : ∀ w', Own B w0 w' (BlkA w2.heap.size [.int .u64 b1, .int .u64 b2, .int .u64 b3, .int .u64 b4] :: BlkA w1.heap.size [.int .u64 0, .int .u64 0, .int .u64 0, .int .u64 0] :: BlkA w.heap.size [.int .u64 b1, .int .u64 b2, .int .u64 b3, .int .u64 b4] :: R) →
        St w' (Addr.mk w2.heap.size ((((n / 64 : Nat) : Int)).toNat * 1) none) (.int .u64 (IntKind.u64.wrap ((x : Int) + ((2 ^ (n % 64) : Nat) : Int)))) fun w9 => k32 w9 := by
      intro w' h
      rw [Int.toNat_natCast, Nat.mul_one, hy1]
      refine h.st 0 rfl (by rw [h1]; rfl) rfl fun w10 h => ?_
      refine fin ([b1, b2, b3, b4].set (n / 64) (y : Int)) w10 (by simp) (hb.put hn h1 hy2 hy3) ?_
      rw [List.map_set]
      exact h
    have hc : w9.cell? (Addr.mk w.heap.size ((((n / 64 : Nat) : Int)).toNat * 1) none) = some (.int .u64 (x : Int)) := by
      rw [Int.toNat_natCast, Nat.mul_one]; exact h.ld0 2 rfl h1
    refine ⟨by decide, by decide, by omega, by omega, by decide, ⟨(x : Int), hc, ?_, trivial⟩, ?_, trivial⟩
    · refine ref01_Two_spec (Nat.mod_lt _ (by omega)) ?_
      exact ⟨by omega, by omega, step w9 h, trivial⟩
    · refine ref01_Two_spec (Nat.mod_lt _ (by omega)) ?_
      exact ⟨(x : Int), hc, by omega, by omega, step w9 h, trivial⟩
end
end Go.Proofs.Ytimicibeljkjnaa
