/- Words and capabilities: what the layers below slots come to. -/
import Derived.Test.YtdlcejjiccknlaaM
import Derived.Test.YtdlcejjiccknlaaS0
import Derived.Test.YtdlcejjiccknlaaS6
set_option linter.unusedVariables false
set_option linter.unusedSimpArgs false
set_option maxRecDepth 8000
namespace Go.Proofs.Ytdlcejjiccknlaa
open Go Go.Vc Go.Proofs

/-- A capability. -/
structure Cap where
  kind : Int
  obj : Int
  rights : Int
  badge : Int
  guard : Int
  bits : Int
deriving DecidableEq
abbrev Cap.cells (c : Cap) : List Value := [.int .i64 c.kind, .int .i64 c.obj, .int .i64 c.rights, .int .u64 c.badge, .int .u64 c.guard, .int .i64 c.bits]
def encCap (c : Cap) : Value := .agg ⟨c.cells⟩
def zeroCap : Cap := ⟨0, 0, 0, 0, 0, 0⟩
def capE : EncT Cap := ⟨6, Cap.cells, fun _ => rfl, fun x v h => by
  simp only [Cap.cells, List.mem_cons, List.not_mem_nil, or_false] at h
  rcases h with rfl | rfl | rfl | rfl | rfl | rfl <;> rfl, by decide⟩
/-- Its words are words. -/
structure CapR (c : Cap) : Prop where
  b0 : 0 ≤ c.badge
  b1 : c.badge < 18446744073709551616
  g0 : 0 ≤ c.guard
  g1 : c.guard < 18446744073709551616
def guardB (g bits : Int) : Bool := decide (0 ≤ bits ∧ bits ≤ 64 ∧ g < 2 ^ bits.toNat)
def limitedB (k : Int) : Bool := k == 4 || k == 5 || k == 6
def badgedB (k : Int) : Bool := k == 4 || k == 5
/-- May one be? (0: yes; 40: no) -/
def capBad (c : Cap) : Bool :=
  !(decide (0 < c.kind) && decide (c.kind < 10) && decide (0 ≤ c.obj) && decide (c.obj < 2147483648) && (decide (0 ≤ c.rights) && decide (c.rights ≤ 7)) && guardB c.guard c.bits)
    || (!limitedB c.kind && c.rights != 7) || (c.badge != 0 && !badgedB c.kind) || (c.bits != 0 && c.kind != 2)
def capErr (c : Cap) : Int := if c = zeroCap then 0 else if capBad c then 40 else 0

theorem wrap_u64 (z : Nat) : IntKind.u64.wrap (z : Int) = ((z % 2 ^ 64 : Nat) : Int) := by
  have e1 : (2 : Int) ^ 64 = 18446744073709551616 := by decide
  have e2 : (2 : Nat) ^ 64 = 18446744073709551616 := by decide
  simp only [IntKind.wrap, IntKind.bits, IntKind.signed, e1, e2, Bool.false_and, Bool.false_eq_true, if_false]
  omega
theorem low_val (n : Nat) (hn : n ≤ 64) : IntKind.u64.wrap (shlI .u64 1 (n : Int) - 1) = ((2 ^ n - 1 : Nat) : Int) := by
  have e2 : (2 : Nat) ^ 64 = 18446744073709551616 := by decide
  have hp : 0 < 2 ^ n := Nat.two_pow_pos n
  unfold shlI
  rw [Int.toNat_natCast, show IntKind.u64.bits = 64 from rfl, Nat.min_eq_left hn, Int.one_mul, show ((2 : Int) ^ n) = ((2 ^ n : Nat) : Int) from by simp, wrap_u64]
  by_cases e : n = 64
  · subst e
    rw [e2]; rfl
  · have hlt : 2 ^ n < 2 ^ 64 := Nat.pow_lt_pow_right (by omega) (by omega)
    rw [Nat.mod_eq_of_lt hlt, show (((2 ^ n : Nat) : Int) - 1) = ((2 ^ n - 1 : Nat) : Int) from by omega, wrap_u64, Nat.mod_eq_of_lt (by omega)]
theorem bv_of (z : Nat) : BitVec.ofInt IntKind.u64.bits (z : Int) = BitVec.ofNat 64 z := by
  apply BitVec.eq_of_toNat_eq
  simp [IntKind.bits, BitVec.toNat_ofInt]
theorem and_low (v n : Nat) (hv : v < 2 ^ 64) (hn : n ≤ 64) : andI .u64 (v : Int) ((2 ^ n - 1 : Nat) : Int) = ((v % 2 ^ n : Nat) : Int) := by
  have hp : 0 < 2 ^ n := Nat.two_pow_pos n
  have hle : 2 ^ n ≤ 2 ^ 64 := Nat.pow_le_pow_right (by omega) hn
  unfold andI
  rw [bv_of, bv_of]
  have h1 : (BitVec.ofNat 64 v &&& BitVec.ofNat 64 (2 ^ n - 1)).toNat = v % 2 ^ n := by
    rw [BitVec.toNat_and, BitVec.toNat_ofNat, BitVec.toNat_ofNat, Nat.mod_eq_of_lt hv, Nat.mod_eq_of_lt (by omega), Nat.and_two_pow_sub_one_eq_mod]
  show IntKind.u64.wrap (((BitVec.ofNat 64 v &&& BitVec.ofNat 64 (2 ^ n - 1)).toNat : Nat) : Int) = _
  rw [h1, wrap_u64, Nat.mod_eq_of_lt (Nat.lt_of_le_of_lt (Nat.mod_le _ _) hv)]
theorem andNot_low (v n : Nat) (hv : v < 2 ^ 64) (hn : n ≤ 64) : (andNotI .u64 (v : Int) ((2 ^ n - 1 : Nat) : Int) == 0) = decide (v < 2 ^ n) := by
  have hp : 0 < 2 ^ n := Nat.two_pow_pos n
  have hle : 2 ^ n ≤ 2 ^ 64 := Nat.pow_le_pow_right (by omega) hn
  unfold andNotI
  rw [bv_of, bv_of]
  have hgl : ∀ (z j : Nat), j < 64 → (BitVec.ofNat 64 z).getLsbD j = z.testBit j := fun z j hj => by rw [BitVec.getLsbD_ofNat]; simp [hj]
  have hbit : ∀ j, j < 64 → (BitVec.ofNat 64 v &&& ~~~ BitVec.ofNat 64 (2 ^ n - 1)).toNat.testBit j = (v.testBit j && !decide (j < n)) := fun j hj => by
    rw [BitVec.testBit_toNat, BitVec.getLsbD_and, BitVec.getLsbD_not, hgl _ _ hj, hgl _ _ hj, Nat.testBit_two_pow_sub_one]
    simp [hj]
  have hlt := (BitVec.ofNat 64 v &&& ~~~ BitVec.ofNat 64 (2 ^ n - 1)).isLt
  show (IntKind.u64.wrap (((BitVec.ofNat 64 v &&& ~~~ BitVec.ofNat 64 (2 ^ n - 1)).toNat : Nat) : Int) == 0) = _
  generalize hz : (BitVec.ofNat 64 v &&& ~~~ BitVec.ofNat 64 (2 ^ n - 1)).toNat = z at hbit hlt
  rw [wrap_u64, Nat.mod_eq_of_lt hlt]
  rw [Bool.eq_iff_iff]
  simp only [beq_iff_eq, decide_eq_true_eq]
  constructor
  · intro h0
    have h0 : z = 0 := by omega
    subst h0
    refine Nat.lt_pow_two_of_testBit v fun i hi => ?_
    by_cases h64 : i < 64
    · have := hbit i h64
      rw [Nat.zero_testBit] at this
      simp only [show ¬ i < n from by omega, decide_false, Bool.not_false, Bool.and_true] at this
      exact this.symm
    · exact Nat.testBit_lt_two_pow (Nat.lt_of_lt_of_le hv (Nat.pow_le_pow_right (by omega) (by omega)))
  · intro hvn
    have : z = 0 := by
      apply Nat.eq_of_testBit_eq
      intro i
      rw [Nat.zero_testBit]
      by_cases h64 : i < 64
      · rw [hbit i h64]
        by_cases hin : i < n
        · simp [hin]
        · rw [Nat.testBit_lt_two_pow (Nat.lt_of_lt_of_le hvn (Nat.pow_le_pow_right (by omega) (by omega)))]; rfl
      · exact Nat.testBit_lt_two_pow (Nat.lt_of_lt_of_le hlt (Nat.pow_le_pow_right (by omega) (by omega)))
    omega
theorem shr_nat (x k : Nat) (hk : k ≤ 64) : shrI .u64 (x : Int) (k : Int) = ((x / 2 ^ k : Nat) : Int) := by
  unfold shrI
  rw [Int.toNat_natCast, show IntKind.u64.bits = 64 from rfl, Nat.min_eq_left hk]
  rw [show ((2 : Int) ^ k) = ((2 ^ k : Nat) : Int) from by simp]
  rw [Int.fdiv_eq_ediv_of_nonneg _ (Int.natCast_nonneg _)]
  simp

section
variable {B : Nat} {w0 w : World} {R : List Asn}
theorem words_low_spec {n : Nat} {K : Int → World → Prop} (hn : n ≤ 64) (h : K ((2 ^ n - 1 : Nat) : Int) w) : C.words_low (n : Int) K w := by
  apply S.words_low_ok
  unfold S.words_low
  rw [low_val n hn]
  exact ⟨by omega, h⟩
theorem words_Mask_spec {n : Int} {K : Int → Int → World → Prop} (h1 : ¬ (0 ≤ n ∧ n ≤ 64) → K 0 1 w) (h2 : ∀ k : Nat, n = (k : Int) → k ≤ 64 → K ((2 ^ k - 1 : Nat) : Int) 0 w) : C.words_Mask n K w := by
  apply S.words_Mask_ok
  unfold S.words_Mask
  intro k2 hk2
  by_cases e : n < 0
  · rw [show decide (n < 0) = true from by simpa using e, cond_true]
    apply hk2
    rw [cond_true]; exact h1 (by omega)
  · rw [show decide (n < 0) = false from by simpa using e, cond_false]
    apply hk2
    by_cases e2 : n > 64
    · rw [show decide (n > 64) = true from by simpa using e2, cond_true]; exact h1 (by omega)
    · rw [show decide (n > 64) = false from by simpa using e2, cond_false]
      obtain ⟨k, rfl⟩ := Int.eq_ofNat_of_zero_le (by omega : 0 ≤ n)
      exact words_low_spec (by omega) (h2 k rfl (by omega))
theorem caps_guard_spec {g bits : Int} {K : Bool → World → Prop} (h0 : 0 ≤ g) (h1 : g < 18446744073709551616) (h : K (guardB g bits) w) : C.caps_guard g bits K w := by
  apply S.caps_guard_ok
  unfold S.caps_guard
  have e2 : (2 : Nat) ^ 64 = 18446744073709551616 := by decide
  refine words_Mask_spec (fun hn => ?_) (fun k hk hk2 => ?_)
  · rw [show ((1 : Int) == 0) = false from rfl, cond_false]
    have : guardB g bits = false := by unfold guardB; rw [decide_eq_false]; rintro ⟨h1, h2, _⟩; exact hn ⟨h1, h2⟩
    rw [this] at h; exact h
  · subst hk
    rw [show ((0 : Int) == 0) = true from rfl, cond_true]
    obtain ⟨v, rfl⟩ := Int.eq_ofNat_of_zero_le h0
    rw [andNot_low v k (by omega) hk2]
    have : guardB (v : Int) (k : Int) = decide (v < 2 ^ k) := by
      unfold guardB
      rw [decide_eq_decide, Int.toNat_natCast, show ((2 : Int) ^ k) = ((2 ^ k : Nat) : Int) from by simp]
      omega
    rw [this] at h; exact h
theorem caps_rights_spec {n : Int} {K : Bool → World → Prop} (h : K (decide (0 ≤ n) && decide (n ≤ 7)) w) : C.caps_rights n K w := by
  apply S.caps_rights_ok
  unfold S.caps_rights
  by_cases e : 0 ≤ n
  · rw [show decide (n ≥ 0) = true from by simpa using e, cond_true]
    rw [show decide (0 ≤ n) = true from by simpa using e, Bool.true_and] at h; exact h
  · rw [show decide (n ≥ 0) = false from by simpa using e, cond_false]
    rw [show decide (0 ≤ n) = false from by simpa using e, Bool.false_and] at h; exact h
theorem caps_limited_spec {k : Int} {K : Bool → World → Prop} (h : K (limitedB k) w) : C.caps_limited k K w := by
  apply S.caps_limited_ok
  unfold S.caps_limited
  unfold limitedB at h
  cases h4 : k == 4 with
  | true => rw [cond_true]; rw [h4] at h; exact h
  | false =>
    rw [cond_false]
    cases h5 : k == 5 with
    | true => rw [cond_true]; rw [h4, h5] at h; exact h
    | false => rw [cond_false]; rw [h4, h5] at h; exact h
theorem caps_badged_spec {k : Int} {K : Bool → World → Prop} (h : K (badgedB k) w) : C.caps_badged k K w := by
  apply S.caps_badged_ok
  unfold S.caps_badged
  unfold badgedB at h
  cases h4 : k == 4 with
  | true => rw [cond_true]; rw [h4] at h; exact h
  | false => rw [cond_false]; rw [h4] at h; exact h
/-- Capabilities that are equal. -/
theorem capX (a b : Cap) : eqX Try.prog 9 38 a.cells b.cells = some (decide (a = b)) := by
  have h : eqX Try.prog 9 38 a.cells b.cells = some (a.kind == b.kind && (a.obj == b.obj && (a.rights == b.rights && (a.badge == b.badge && (a.guard == b.guard && (a.bits == b.bits && true)))))) := by kernel_rfl
  rw [h]
  congr 1
  rw [Bool.eq_iff_iff]
  simp only [Bool.and_true, Bool.and_eq_true, beq_iff_eq, decide_eq_true_eq]
  cases a; cases b
  simp only [Cap.mk.injEq]
theorem capEq {x y : Operand} (a b : Cap) : EqB Try.prog .eql 38 x y (.agg ⟨a.cells⟩) (.agg ⟨b.cells⟩) (decide (a = b)) := eqB_x (by kernel_rfl) (by kernel_rfl) (by kernel_rfl) (capX a b)
theorem capNe {x y : Operand} (a b : Cap) : EqB Try.prog .neq 38 x y (.agg ⟨a.cells⟩) (.agg ⟨b.cells⟩) (!decide (a = b)) := neB_x (by kernel_rfl) (by kernel_rfl) (by kernel_rfl) (capX a b)

theorem caps_Check_spec {c : Cap} {K : Int → World → Prop} (h : Own B w0 w R) (hc : CapR c) (hK : ∀ w', Own B w0 w' R → K (capErr c) w') : C.caps_Check c.kind c.obj c.rights c.badge c.guard c.bits K w := by
  apply S.caps_Check_ok
  unfold S.caps_Check
  refine h.al fun w1 h => ?_
  have hcell : ∀ w', Own B w0 w' (BlkA w.heap.size c.cells :: R) → Own B w0 w' (BlkA w.heap.size c.cells :: R) := fun _ h => h
  have h : Own B w0 w1 (BlkA w.heap.size c.cells :: R) := h
  simp only [add_mk, Nat.zero_add]
  intro k8 hk8
  have fin : k8 (decide (0 < c.kind) && decide (c.kind < 10) && decide (0 ≤ c.obj) && decide (c.obj < 2147483648) && (decide (0 ≤ c.rights) && decide (c.rights ≤ 7)) && guardB c.guard c.bits) w1 := by
    generalize hr : (decide (0 < c.kind) && decide (c.kind < 10) && decide (0 ≤ c.obj) && decide (c.obj < 2147483648) && (decide (0 ≤ c.rights) && decide (c.rights ≤ 7)) && guardB c.guard c.bits) = right
    apply hk8
    refine h.ld_6 0 rfl rfl ?_
    refine ⟨_, capEq c zeroCap, ?_⟩
    have hb : capBad c = (!right || (!limitedB c.kind && c.rights != 7) || (c.badge != 0 && !badgedB c.kind) || (c.bits != 0 && c.kind != 2)) := by unfold capBad; rw [hr]
    have hE := hK w1 h.drop
    unfold capErr at hE
    by_cases e : c = zeroCap
    · rw [decide_eq_true e, cond_true]; rw [if_pos e] at hE; exact hE
    rw [decide_eq_false e, cond_false]
    rw [if_neg e, hb] at hE
    intro k18 hk18
    have rest : (!right || (!limitedB c.kind && c.rights != 7)) = false → k18 false w1 := by
      intro h0
      rw [h0, Bool.false_or] at hE
      apply hk18
      rw [cond_false]
      intro k21 hk21
      refine ⟨c.badge, h.ld0 0 rfl rfl, ?_⟩
      have last : (c.badge != 0 && !badgedB c.kind) = false → k21 false w1 := by
        intro h1
        rw [h1, Bool.false_or] at hE
        apply hk21
        rw [cond_false]
        refine ⟨c.bits, h.ld0 0 rfl rfl, ?_⟩
        cases hbits : c.bits != 0 with
        | false => rw [cond_false]; rw [hbits, Bool.false_and, if_neg (by simp)] at hE; exact hE
        | true =>
          rw [cond_true]
          rw [hbits, Bool.true_and] at hE
          refine ⟨c.kind, h.ld0 0 rfl rfl, ?_⟩
          cases hk : c.kind != 2 with
          | true => rw [cond_true]; rw [hk, if_pos rfl] at hE; exact hE
          | false => rw [cond_false]; rw [hk, if_neg (by simp)] at hE; exact hE
      cases hbad : c.badge != 0 with
      | false => rw [cond_false]; exact last (by rw [hbad]; rfl)
      | true =>
        rw [cond_true]
        refine ⟨c.kind, h.ld0 0 rfl rfl, ?_⟩
        refine caps_badged_spec ?_
        cases hbg : badgedB c.kind with
        | true => exact last (by rw [hbg]; simp)
        | false =>
          apply hk21
          rw [Bool.not_false, cond_true, cond_true]
          rw [hbad, hbg] at hE
          simpa using hE
    cases hright : right with
    | false =>
      rw [Bool.not_false, cond_true]
      apply hk18
      rw [cond_true]
      rw [hright] at hE
      simpa using hE
    | true =>
      rw [Bool.not_true, cond_false]
      refine ⟨c.kind, h.ld0 0 rfl rfl, ?_⟩
      refine caps_limited_spec ?_
      cases hlim : limitedB c.kind with
      | true => rw [Bool.not_true, cond_false]; exact rest (by rw [hright, hlim]; simp)
      | false =>
        rw [Bool.not_false, cond_true]
        refine ⟨c.rights, h.ld0 0 rfl rfl, ?_⟩
        cases hr7 : c.rights != 7 with
        | false => exact rest (by rw [hright, hr7]; simp)
        | true =>
          apply hk18
          rw [cond_true]
          rw [hright, hlim, hr7] at hE
          simpa using hE
  refine ⟨c.kind, h.ld0 0 rfl rfl, ?_⟩
  by_cases e1 : 0 < c.kind
  · rw [show decide (c.kind > 0) = true from by simpa using e1, cond_true]
    refine ⟨c.kind, h.ld0 0 rfl rfl, ?_⟩
    by_cases e2 : c.kind < 10
    · rw [show decide (c.kind < 10) = true from by simpa using e2, cond_true]
      refine ⟨c.obj, h.ld0 0 rfl rfl, ?_⟩
      by_cases e3 : 0 ≤ c.obj
      · rw [show decide (c.obj ≥ 0) = true from by simpa using e3, cond_true]
        refine ⟨c.obj, h.ld0 0 rfl rfl, ?_⟩
        by_cases e4 : c.obj < 2147483648
        · rw [show decide (c.obj < 2147483648) = true from by simpa using e4, cond_true]
          refine ⟨c.rights, h.ld0 0 rfl rfl, ?_⟩
          refine caps_rights_spec ?_
          cases e5 : (decide (0 ≤ c.rights) && decide (c.rights ≤ 7)) with
          | false =>
            rw [cond_false]
            simpa [e5] using fin
          | true =>
            rw [cond_true]
            refine ⟨c.guard, h.ld0 0 rfl rfl, c.bits, h.ld0 0 rfl rfl, ?_⟩
            refine caps_guard_spec hc.g0 hc.g1 ?_
            rw [show decide (0 < c.kind) = true from by simpa using e1, show decide (c.kind < 10) = true from by simpa using e2, show decide (0 ≤ c.obj) = true from by simpa using e3, show decide (c.obj < 2147483648) = true from by simpa using e4, e5] at fin
            simpa using fin
        · rw [show decide (c.obj < 2147483648) = false from by simpa using e4, cond_false]
          rw [show decide (c.obj < 2147483648) = false from by simpa using e4] at fin
          simpa using fin
      · rw [show decide (c.obj ≥ 0) = false from by simpa using e3, cond_false]
        rw [show decide (0 ≤ c.obj) = false from by simpa using e3] at fin
        simpa using fin
    · rw [show decide (c.kind < 10) = false from by simpa using e2, cond_false]
      rw [show decide (c.kind < 10) = false from by simpa using e2] at fin
      simpa using fin
  · rw [show decide (c.kind > 0) = false from by simpa using e1, cond_false]
    rw [show decide (0 < c.kind) = false from by simpa using e1] at fin
    simpa using fin
end
end Go.Proofs.Ytdlcejjiccknlaa
