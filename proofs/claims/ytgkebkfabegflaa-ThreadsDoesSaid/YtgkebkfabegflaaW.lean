/- Bits of words, and the library's functions on slices of ints: what their calls come to. -/
import Derived.Test.YtgkebkfabegflaaS1
import Derived.Test.YtgkebkfabegflaaS4
import Derived.Test.YtgkebkfabegflaaM
set_option linter.unusedVariables false
set_option linter.unusedSimpArgs false
namespace Go.Proofs.Ytgkebkfabegflaa
open Go Go.Vc Go.Proofs

theorem words_is_spec {n : Int} {K : Bool → World → Prop} {w : World} (h : K (decide (0 ≤ n ∧ n < 256)) w) : C.words_is n K w := by
  apply S.words_is_ok
  unfold S.words_is
  by_cases h0 : 0 ≤ n
  · have e : decide (n ≥ 0) = true := by simpa using h0
    have e2 : decide (0 ≤ n ∧ n < 256) = decide (n < 256) := by simp [h0]
    rw [e, cond_true]; rw [e2] at h; exact h
  · have e : decide (n ≥ 0) = false := by simpa using h0
    have e2 : decide (0 ≤ n ∧ n < 256) = false := by simp [h0]
    rw [e, cond_false]; rw [e2] at h; exact h

/-- A word with a bit set, or not. -/
def set1 (b : Int) (i : Nat) (on : Bool) : Int := if on then orI .u64 (andNotI .u64 b (shlI .u64 1 i)) (shlI .u64 1 i) else andNotI .u64 b (shlI .u64 1 i)
def setBits (l : List Int) (n : Nat) (on : Bool) : List Int := l.set (n / 64) (set1 (l.getD (n / 64) 0) (n % 64) on)

theorem words_Set_spec {B : Nat} {w0 w : World} {R : List Asn} {b1 b2 b3 b4 n : Int} {on : Bool} {K : Int → Int → Int → Int → Int → World → Prop} (h : Own B w0 w R) (hn0 : 0 ≤ n) (hn : n < 256)
    (hK : ∀ r1 r2 r3 r4 w', Own B w0 w' R → [r1, r2, r3, r4] = setBits [b1, b2, b3, b4] n.toNat on → K r1 r2 r3 r4 0 w') : C.words_Set b1 b2 b3 b4 n on K w := by
  apply S.words_Set_ok
  unfold S.words_Set
  refine h.al fun w7 h => ?_
  refine h.al fun w8 h => ?_
  apply words_is_spec
  rw [show decide (0 ≤ n ∧ n < 256) = true from by simp [hn0, hn]]
  simp only [Bool.not_true, cond_false]
  refine h.dr fun w9 h => ?_
  obtain ⟨m, rfl⟩ := Int.eq_ofNat_of_zero_le hn0
  have hq : IntKind.i64.wrap (((m : Nat) : Int).tdiv 64) = ((m / 64 : Nat) : Int) := by
    rw [Int.tdiv_eq_ediv_of_nonneg (by omega), wr (by omega) (by omega)]; omega
  have hr : ((m : Nat) : Int).tmod 64 = ((m % 64 : Nat) : Int) := by
    rw [Int.tmod_eq_emod_of_nonneg (by omega)]; omega
  have hq4 : m / 64 < 4 := by omega
  simp only [Int.toNat_natCast] at hK
  rw [hq, hr]
  generalize hQ : m / 64 = q at *
  generalize hr' : m % 64 = r at *
  have hq5 : q = 0 ∨ q = 1 ∨ q = 2 ∨ q = 3 := by omega
  clear hq hq4
  rcases hq5 with rfl | rfl | rfl | rfl <;>
  · refine ⟨by decide, by decide, by decide, _, h.ld 1 rfl rfl, by decide, by omega, by decide, by decide, ?_, trivial⟩
    refine h.std rfl rfl fun w10 h => ?_
    cases on
    · rw [cond_false]
      refine h.lc_4 rfl ?_
      refine h.stLc rfl rfl fun w11 h => ?_
      refine h.lc_4 rfl ?_
      refine hK _ _ _ _ _ h.drop.drop ?_
      simp only [setBits, hQ, hr']; rfl
    · rw [cond_true]
      refine h.dr fun w11 h => ?_
      refine ⟨by decide, by decide, by decide, _, h.ld 1 rfl rfl, by decide, by omega, by decide, by decide, ?_, trivial⟩
      refine h.std rfl rfl fun w10 h => ?_
      refine h.lc_4 rfl ?_
      refine h.stLc rfl rfl fun w11 h => ?_
      refine h.lc_4 rfl ?_
      refine hK _ _ _ _ _ h.drop.drop ?_
      simp only [setBits, hQ, hr']; rfl

/-- How many bits a number has. -/
def len64 (x : Nat) : Nat := if x = 0 then 0 else x.log2 + 1
theorem len64_eq {x n : Nat} (h1 : x < 2 ^ n) (h2 : n = 0 ∨ 2 ^ (n - 1) ≤ x) : len64 x = n := by
  unfold len64
  rcases h2 with rfl | h2
  · have : x = 0 := by simpa using h1
    rw [if_pos this]
  · by_cases hn : n = 0
    · subst hn; have : x = 0 := by simpa using h1
      rw [if_pos this]
    · have hp : 0 < 2 ^ (n - 1) := Nat.two_pow_pos _
      rw [if_neg (by omega), (Nat.log2_eq_iff (by omega)).2 ⟨h2, by rw [Nat.sub_add_cancel (by omega)]; exact h1⟩]
      omega
theorem len64_out (x : Nat) : x < 2 ^ len64 x ∧ (len64 x = 0 ∨ 2 ^ (len64 x - 1) ≤ x) := by
  unfold len64
  by_cases h : x = 0
  · subst h; simp
  · rw [if_neg h]
    have := (Nat.log2_eq_iff h).1 rfl
    exact ⟨this.2, .inr this.1⟩
theorem len64_div {x k : Nat} (h : 2 ^ k ≤ x) : len64 (x / 2 ^ k) + k = len64 x := by
  obtain ⟨h1, h2⟩ := len64_out (x / 2 ^ k)
  have hp : 0 < 2 ^ k := Nat.two_pow_pos _
  have hd : 1 ≤ x / 2 ^ k := (Nat.one_le_div_iff hp).2 h
  symm
  apply len64_eq
  · rw [Nat.pow_add]; exact (Nat.div_lt_iff_lt_mul hp).1 h1
  · right
    rcases h2 with h2 | h2
    · rw [h2] at h1; omega
    · have h3 : len64 (x / 2 ^ k) ≠ 0 := fun e => by rw [e] at h1; omega
      rw [show len64 (x / 2 ^ k) + k - 1 = (len64 (x / 2 ^ k) - 1) + k from by omega, Nat.pow_add]
      exact (Nat.le_div_iff_mul_le hp).1 h2
theorem len64_le {x n : Nat} (h : x < 2 ^ n) : len64 x ≤ n := by
  rcases (len64_out x).2 with h1 | h1
  · omega
  · have h2 : 2 ^ (len64 x - 1) < 2 ^ n := Nat.lt_of_le_of_lt h1 h
    have := (Nat.pow_lt_pow_iff_right (by omega : 1 < 2)).1 h2
    omega

theorem str_tab (x : Nat) (h : x < 256) : StrAt ⟨#[0, 1, 2, 2, 3, 3, 3, 3, 4, 4, 4, 4, 4, 4, 4, 4, 5, 5, 5, 5, 5, 5, 5, 5, 5, 5, 5, 5, 5, 5, 5, 5, 6, 6, 6, 6, 6, 6, 6, 6, 6, 6, 6, 6, 6, 6, 6, 6, 6, 6, 6, 6, 6, 6, 6, 6, 6, 6, 6, 6, 6, 6, 6, 6, 7, 7, 7, 7, 7, 7, 7, 7, 7, 7, 7, 7, 7, 7, 7, 7, 7, 7, 7, 7, 7, 7, 7, 7, 7, 7, 7, 7, 7, 7, 7, 7, 7, 7, 7, 7, 7, 7, 7, 7, 7, 7, 7, 7, 7, 7, 7, 7, 7, 7, 7, 7, 7, 7, 7, 7, 7, 7, 7, 7, 7, 7, 7, 7, 8, 8, 8, 8, 8, 8, 8, 8, 8, 8, 8, 8, 8, 8, 8, 8, 8, 8, 8, 8, 8, 8, 8, 8, 8, 8, 8, 8, 8, 8, 8, 8, 8, 8, 8, 8, 8, 8, 8, 8, 8, 8, 8, 8, 8, 8, 8, 8, 8, 8, 8, 8, 8, 8, 8, 8, 8, 8, 8, 8, 8, 8, 8, 8, 8, 8, 8, 8, 8, 8, 8, 8, 8, 8, 8, 8, 8, 8, 8, 8, 8, 8, 8, 8, 8, 8, 8, 8, 8, 8, 8, 8, 8, 8, 8, 8, 8, 8, 8, 8, 8, 8, 8, 8, 8, 8, 8, 8, 8, 8, 8, 8, 8, 8, 8, 8, 8, 8, 8, 8, 8, 8, 8, 8, 8, 8, 8, 8]⟩ (x : Int) ((len64 x : Nat) : Int) := by
  have hc : (List.range 256).all (fun x => ((⟨#[0, 1, 2, 2, 3, 3, 3, 3, 4, 4, 4, 4, 4, 4, 4, 4, 5, 5, 5, 5, 5, 5, 5, 5, 5, 5, 5, 5, 5, 5, 5, 5, 6, 6, 6, 6, 6, 6, 6, 6, 6, 6, 6, 6, 6, 6, 6, 6, 6, 6, 6, 6, 6, 6, 6, 6, 6, 6, 6, 6, 6, 6, 6, 6, 7, 7, 7, 7, 7, 7, 7, 7, 7, 7, 7, 7, 7, 7, 7, 7, 7, 7, 7, 7, 7, 7, 7, 7, 7, 7, 7, 7, 7, 7, 7, 7, 7, 7, 7, 7, 7, 7, 7, 7, 7, 7, 7, 7, 7, 7, 7, 7, 7, 7, 7, 7, 7, 7, 7, 7, 7, 7, 7, 7, 7, 7, 7, 7, 8, 8, 8, 8, 8, 8, 8, 8, 8, 8, 8, 8, 8, 8, 8, 8, 8, 8, 8, 8, 8, 8, 8, 8, 8, 8, 8, 8, 8, 8, 8, 8, 8, 8, 8, 8, 8, 8, 8, 8, 8, 8, 8, 8, 8, 8, 8, 8, 8, 8, 8, 8, 8, 8, 8, 8, 8, 8, 8, 8, 8, 8, 8, 8, 8, 8, 8, 8, 8, 8, 8, 8, 8, 8, 8, 8, 8, 8, 8, 8, 8, 8, 8, 8, 8, 8, 8, 8, 8, 8, 8, 8, 8, 8, 8, 8, 8, 8, 8, 8, 8, 8, 8, 8, 8, 8, 8, 8, 8, 8, 8, 8, 8, 8, 8, 8, 8, 8, 8, 8, 8, 8, 8, 8, 8, 8, 8, 8]⟩ : ByteArray)[x]?).map UInt8.toNat == some (len64 x)) = true := by kernel_rfl
  have := List.all_eq_true.1 hc x (List.mem_range.2 h)
  have := eq_of_beq this
  obtain ⟨u, h1, h2⟩ := Option.map_eq_some_iff.1 this
  exact ⟨by omega, u, by rw [Int.toNat_natCast]; exact h1, by rw [h2]⟩

theorem shr_nat (x k : Nat) (hk : k ≤ 64) : shrI .u64 (x : Int) (k : Int) = ((x / 2 ^ k : Nat) : Int) := by
  unfold shrI
  rw [Int.toNat_natCast, show IntKind.u64.bits = 64 from rfl, Nat.min_eq_left hk]
  rw [show ((2 : Int) ^ k) = ((2 ^ k : Nat) : Int) from by simp]
  rw [Int.fdiv_eq_ediv_of_nonneg _ (Int.natCast_nonneg _)]
  simp
theorem wr8 {x : Int} (h1 : 0 ≤ x) (h2 : x < 256) : IntKind.u8.wrap x = x := by
  have e1 : (2 : Int) ^ 8 = 256 := by decide
  simp only [IntKind.wrap, IntKind.bits, IntKind.signed, e1, Bool.false_and, Bool.false_eq_true, if_false]
  omega

theorem math_bits_Len64_spec {x : Nat} {K : Int → World → Prop} {w : World} (hx : x < 2 ^ 64) (h : K ((len64 x : Nat) : Int) w) : C.math_bits_Len64 (x : Int) K w := by
  apply S.math_bits_Len64_ok
  unfold S.math_bits_Len64
  intro k2 h2
  have hk2 : ∀ (y n : Nat), y < 2 ^ 32 → len64 y + n = len64 x → n ≤ 32 → k2 (y : Int) (n : Int) w := by
    intro y n hy hn hle
    apply h2
    intro k6 h6
    have hk6 : ∀ (y n : Nat), y < 2 ^ 16 → len64 y + n = len64 x → n ≤ 48 → k6 (y : Int) (n : Int) w := by
      intro y n hy hn hle
      apply h6
      intro k10 h10
      have hk10 : ∀ (y n : Nat), y < 2 ^ 8 → len64 y + n = len64 x → n ≤ 56 → k10 (y : Int) (n : Int) w := by
        intro y n hy hn hle
        apply h10
        have hl := len64_le hy
        rw [wr8 (by omega) (by omega)]
        refine ⟨_, str_tab y hy, ?_⟩
        rw [wr (x := ((len64 y : Nat) : Int)) (by omega) (by omega), wr (by omega) (by omega)]
        rw [show (n : Int) + ((len64 y : Nat) : Int) = ((len64 x : Nat) : Int) from by omega]
        exact h
      by_cases hc : y ≥ 256
      · rw [show decide ((y : Int) ≥ 256) = true from by simp; omega, cond_true]
        refine ⟨by decide, ?_⟩
        rw [wr (by omega) (by omega), show (8 : Int) = ((8 : Nat) : Int) from rfl, shr_nat y 8 (by omega)]
        refine hk10 (y / 2 ^ 8) (n + 8) ?_ ?_ (by omega)
        · have : y < 2 ^ 8 * 2 ^ 8 := by simpa using hy
          exact Nat.div_lt_of_lt_mul this
        · have := len64_div (x := y) (k := 8) (by simpa using hc); omega
      · rw [show decide ((y : Int) ≥ 256) = false from by simp; omega, cond_false]
        exact hk10 y n (by simp; omega) hn (by omega)
    by_cases hc : y ≥ 65536
    · rw [show decide ((y : Int) ≥ 65536) = true from by simp; omega, cond_true]
      refine ⟨by decide, ?_⟩
      rw [wr (by omega) (by omega), show (16 : Int) = ((16 : Nat) : Int) from rfl, shr_nat y 16 (by omega)]
      refine hk6 (y / 2 ^ 16) (n + 16) ?_ ?_ (by omega)
      · have : y < 2 ^ 16 * 2 ^ 16 := by simpa using hy
        exact Nat.div_lt_of_lt_mul this
      · have := len64_div (x := y) (k := 16) (by simpa using hc); omega
    · rw [show decide ((y : Int) ≥ 65536) = false from by simp; omega, cond_false]
      exact hk6 y n (by simp; omega) hn (by omega)
  by_cases hc : x ≥ 4294967296
  · rw [show decide ((x : Int) ≥ 4294967296) = true from by simp; omega, cond_true]
    refine ⟨by decide, ?_⟩
    rw [show (32 : Int) = ((32 : Nat) : Int) from rfl, shr_nat x 32 (by omega)]
    refine hk2 (x / 2 ^ 32) 32 ?_ ?_ (by omega)
    · have : x < 2 ^ 32 * 2 ^ 32 := by simpa using hx
      exact Nat.div_lt_of_lt_mul this
    · have := len64_div (x := x) (k := 32) (by simpa using hc); omega
  · rw [show decide ((x : Int) ≥ 4294967296) = false from by simp; omega, cond_false]
    exact hk2 x 0 (by simp; omega) (by omega) (by omega)

/-- Bits of words. -/
theorem set1_bits (x i : Nat) (on : Bool) (hx : x < 2 ^ 64) (hi : i < 64) : ∃ y : Nat, set1 (x : Int) i on = (y : Int) ∧ y < 2 ^ 64 ∧ ∀ j, j < 64 → y.testBit j = if j = i then on else x.testBit j := by
  have hs : shlI .u64 1 (i : Int) = ((2 ^ i : Nat) : Int) := by
    unfold shlI
    rw [Int.toNat_natCast, show IntKind.u64.bits = 64 from rfl, Nat.min_eq_left (by omega), Int.one_mul, show ((2 : Int) ^ i) = ((2 ^ i : Nat) : Int) from by simp]
    have hp : (2 : Nat) ^ 64 = 18446744073709551616 := by decide
    have : 2 ^ i < 2 ^ 64 := Nat.pow_lt_pow_right (by omega) hi
    rw [hp] at this
    generalize 2 ^ i = y at *
    exact wru (Int.natCast_nonneg _) (by omega)
  have hbv : ∀ z : Nat, BitVec.ofInt IntKind.u64.bits (z : Int) = BitVec.ofNat 64 z := fun z => by
    apply BitVec.eq_of_toNat_eq
    simp [IntKind.bits, BitVec.toNat_ofInt]
  have hwrap : ∀ z : BitVec 64, IntKind.u64.wrap ((z.toNat : Nat) : Int) = ((z.toNat : Nat) : Int) := fun z => by
    have hp : (2 : Nat) ^ 64 = 18446744073709551616 := by decide
    have := z.isLt
    rw [hp] at this
    exact wru (by omega) (by omega)
  have hand : andNotI .u64 (x : Int) ((2 ^ i : Nat) : Int) = (((BitVec.ofNat 64 x &&& ~~~ BitVec.ofNat 64 (2 ^ i)).toNat : Nat) : Int) := by
    unfold andNotI; rw [hbv, hbv]; exact hwrap _
  have hgl : ∀ (z j : Nat), j < 64 → (BitVec.ofNat 64 z).getLsbD j = z.testBit j := fun z j hj => by rw [BitVec.getLsbD_ofNat]; simp [hj]
  have htb : ∀ j, (2 ^ i).testBit j = decide (j = i) := fun j => by
    rw [Nat.testBit_two_pow]; exact decide_eq_decide.2 ⟨fun h => h.symm, fun h => h.symm⟩
  unfold set1
  rw [hs, hand]
  cases on with
  | false =>
    refine ⟨_, rfl, (BitVec.ofNat 64 x &&& ~~~ BitVec.ofNat 64 (2 ^ i)).isLt, fun j hj => ?_⟩
    rw [BitVec.testBit_toNat, BitVec.getLsbD_and, BitVec.getLsbD_not, hgl _ _ hj, hgl _ _ hj, htb]
    by_cases e : j = i <;> simp [e, hj]
  | true =>
    refine ⟨(BitVec.ofNat 64 (BitVec.ofNat 64 x &&& ~~~ BitVec.ofNat 64 (2 ^ i)).toNat ||| BitVec.ofNat 64 (2 ^ i)).toNat, ?_, BitVec.isLt _, fun j hj => ?_⟩
    · simp only [if_true]; unfold orI; rw [hbv, hbv]; exact hwrap _
    · rw [BitVec.testBit_toNat, BitVec.getLsbD_or, BitVec.ofNat_toNat, BitVec.setWidth_eq, BitVec.getLsbD_and, BitVec.getLsbD_not, hgl _ _ hj, hgl _ _ hj, htb]
      by_cases e : j = i <;> simp [e, hj]

/-- Four words are the bits of f. -/
def BitsOk (f : Nat → Bool) (ws : List Int) : Prop := ws.length = 4 ∧ ∀ j, j < 4 → ∃ x : Nat, ws[j]? = some (x : Int) ∧ x < 2 ^ 64 ∧ ∀ i, i < 64 → x.testBit i = f (64 * j + i)
theorem BitsOk.uniq {f : Nat → Bool} {ws ws' : List Int} (h : BitsOk f ws) (h' : BitsOk f ws') : ws = ws' := by
  apply List.ext_getElem?
  intro j
  by_cases hj : j < 4
  · obtain ⟨x, h1, h2, h3⟩ := h.2 j hj
    obtain ⟨y, h4, h5, h6⟩ := h'.2 j hj
    rw [h1, h4]
    congr 2
    apply Nat.eq_of_testBit_eq
    intro i
    by_cases hi : i < 64
    · rw [h3 i hi, h6 i hi]
    · rw [Nat.testBit_lt_two_pow (Nat.lt_of_lt_of_le h2 (Nat.pow_le_pow_right (by omega) (by omega))), Nat.testBit_lt_two_pow (Nat.lt_of_lt_of_le h5 (Nat.pow_le_pow_right (by omega) (by omega)))]
  · rw [List.getElem?_eq_none (by rw [h.1]; omega), List.getElem?_eq_none (by rw [h'.1]; omega)]
theorem BitsOk.congr {f g : Nat → Bool} {ws : List Int} (h : BitsOk f ws) (hfg : ∀ i, i < 256 → f i = g i) : BitsOk g ws :=
  ⟨h.1, fun j hj => by obtain ⟨x, h1, h2, h3⟩ := h.2 j hj; exact ⟨x, h1, h2, fun i hi => by rw [h3 i hi, hfg _ (by omega)]⟩⟩
theorem BitsOk.set {f : Nat → Bool} {ws : List Int} (h : BitsOk f ws) {n : Nat} (hn : n < 256) (on : Bool) : BitsOk (fun i => if i = n then on else f i) (setBits ws n on) := by
  unfold setBits
  refine ⟨by simpa using h.1, fun j hj => ?_⟩
  obtain ⟨x, h1, h2, h3⟩ := h.2 j hj
  by_cases e : n / 64 = j
  · subst e
    obtain ⟨y, h4, h5, h6⟩ := set1_bits x (n % 64) on h2 (by omega)
    refine ⟨y, ?_, h5, fun i hi => ?_⟩
    · rw [List.getElem?_set_self (by rw [h.1]; exact hj), List.getD_eq_getElem?_getD, h1]
      simp only [Option.getD_some, h4]
    · rw [h6 i hi, h3 i hi]
      show _ = if 64 * (n / 64) + i = n then on else f (64 * (n / 64) + i)
      by_cases e : i = n % 64
      · rw [if_pos e, if_pos (by omega)]
      · rw [if_neg e, if_neg (by omega)]
  · refine ⟨x, by rw [List.getElem?_set_ne e]; exact h1, h2, fun i hi => ?_⟩
    rw [h3 i hi]
    show _ = if 64 * j + i = n then on else f (64 * j + i)
    rw [if_neg (by omega)]
theorem BitsOk.zero : BitsOk (fun _ => false) [0, 0, 0, 0] := by
  refine ⟨rfl, fun j hj => ⟨0, ?_, by decide, fun i _ => by simp⟩⟩
  match j, hj with
  | 0, _ | 1, _ | 2, _ | 3, _ => rfl
end Go.Proofs.Ytgkebkfabegflaa
