/- The document's answers of the layers below: words, capabilities. -/
import Derived.Test.YtdlcejjiccknlaaLK4
import Derived.Test.YtdlcejjiccknlaaS2
set_option linter.unusedVariables false
set_option linter.unusedSimpArgs false
set_option maxRecDepth 8000
namespace Go.Proofs.Ytdlcejjiccknlaa
open Go Go.Vc Go.Proofs

/-- What a capability may be, written out. -/
def CapP (c : Cap) : Prop := 1 ≤ c.kind ∧ c.kind ≤ 9 ∧ 0 ≤ c.obj ∧ c.obj ≤ 2147483647 ∧ 0 ≤ c.rights ∧ c.rights ≤ 7 ∧ (limitedB c.kind = true ∨ c.rights = 7) ∧ (badgedB c.kind = true ∨ c.badge = 0) ∧ (c.kind = 2 ∨ (c.guard = 0 ∧ c.bits = 0)) ∧ guardB c.guard c.bits = true
theorem guard_zero {g b : Int} (h0 : 0 ≤ g) (hb : b = 0) : guardB g b = true ↔ g = 0 := by
  subst hb
  unfold guardB
  rw [decide_eq_true_iff]
  simp; omega
theorem capBad_iff {c : Cap} (hc : CapR c) : capBad c = false ↔ CapP c := by
  have hg : c.bits = 0 → (guardB c.guard c.bits = true ↔ c.guard = 0) := guard_zero hc.g0
  unfold capBad CapP
  cases hl : limitedB c.kind <;> cases hb : badgedB c.kind <;> cases hgd : guardB c.guard c.bits <;> rw [hgd] at hg <;> simp at hg ⊢ <;> omega
theorem capErr_eq {c : Cap} (hc : CapR c) : capErr c = 0 ∧ (c = zeroCap ∨ CapP c) ∨ capErr c = 40 ∧ c ≠ zeroCap ∧ ¬ CapP c := by
  unfold capErr
  by_cases e : c = zeroCap
  · rw [if_pos e]; exact .inl ⟨rfl, .inl e⟩
  · rw [if_neg e]
    cases hb : capBad c with
    | false => exact .inl ⟨by simp, .inr ((capBad_iff hc).1 hb)⟩
    | true => exact .inr ⟨by simp, e, fun hp => by rw [(capBad_iff hc).2 hp] at hb; cases hb⟩
theorem capErr_40 {c : Cap} (hc : CapR c) (h1 : c ≠ zeroCap) (h2 : ¬ CapP c) : capErr c = 40 := by
  rcases capErr_eq hc with ⟨_, h | h⟩ | ⟨h, _⟩
  · exact absurd h h1
  · exact absurd h h2
  · exact h
theorem capErr_0 {c : Cap} (hc : CapR c) (h2 : c = zeroCap ∨ CapP c) : capErr c = 0 := by
  rcases capErr_eq hc with ⟨h, _⟩ | ⟨_, h1, h3⟩
  · exact h
  · rcases h2 with h | h
    · exact absurd h h1
    · exact absurd h h3

section
variable {B : Nat} {w0 w : World} {R L : List Asn}
theorem ref01_Two_spec {n : Nat} {K : Int → World → Prop} (hn : n ≤ 63) (hK : K ((2 ^ n : Nat) : Int) w) : C.ref01_Two (n : Int) K w := by
  apply S.ref01_Two_ok
  unfold S.ref01_Two
  intro l hl
  have loop : ∀ m i : Nat, i + m = n → l ((2 ^ i : Nat) : Int) (i : Int) w := by
    intro m
    induction m with
    | zero =>
      intro i hi
      obtain rfl : i = n := by omega
      apply hl
      exact cdecF (by omega) hK
    | succ m ih =>
      intro i hi
      apply hl
      refine cdecT (by omega) ?_
      have h1 : (2 : Nat) ^ (i + 1) ≤ 2 ^ 63 := Nat.pow_le_pow_right (by omega) (by omega)
      have e2 : (2 : Nat) ^ 63 = 9223372036854775808 := by decide
      rw [show (2 : Int) * ((2 ^ i : Nat) : Int) = ((2 ^ (i + 1) : Nat) : Int) from by rw [Nat.pow_succ]; omega, wru (Int.natCast_nonneg _) (by omega), wr (by omega) (by omega)]
      exact ih (i + 1) (by omega)
  exact loop n 0 (by omega)
theorem ref01_Bit_spec {v n : Nat} {K : Bool → World → Prop} (hv : v < 2 ^ 64) (hn : n ≤ 63) (hK : K (decide (v / 2 ^ n % 2 = 1)) w) : C.ref01_Bit (v : Int) (n : Int) K w := by
  apply S.ref01_Bit_ok
  unfold S.ref01_Bit
  refine ref01_Two_spec hn ?_
  have hp := Nat.two_pow_pos n
  refine ⟨by omega, by decide, ?_⟩
  have e1 : (v : Int).tdiv ((2 ^ n : Nat) : Int) = ((v / 2 ^ n : Nat) : Int) := by rw [Int.tdiv_eq_ediv_of_nonneg (by omega)]; simp
  have hle : v / 2 ^ n ≤ v := Nat.div_le_self _ _
  rw [e1, wru (Int.natCast_nonneg _) (by omega)]
  have e2 : ((((v / 2 ^ n : Nat) : Int).tmod 2) == 1) = decide (v / 2 ^ n % 2 = 1) := by
    rw [Int.tmod_eq_emod_of_nonneg (Int.natCast_nonneg _), Bool.eq_iff_iff, beq_iff_eq, decide_eq_true_iff]
    omega
  rw [e2]; exact hK
theorem ref04_limited_spec {k : Int} {K : Bool → World → Prop} (h : K (limitedB k) w) : C.ref04_limited k K w := by
  apply S.ref04_limited_ok
  unfold S.ref04_limited
  unfold limitedB at h
  refine cb (fun e => by rw [e] at h; exact h) (fun e => ?_)
  rw [e] at h
  exact cb (fun e => by rw [e] at h; exact h) (fun e => by rw [e] at h; exact h)
theorem ref04_badged_spec {k : Int} {K : Bool → World → Prop} (h : K (badgedB k) w) : C.ref04_badged k K w := by
  apply S.ref04_badged_ok
  unfold S.ref04_badged
  unfold badgedB at h
  exact cb (fun e => by rw [e] at h; exact h) (fun e => by rw [e] at h; exact h)
theorem ref04_guard_spec {g bits : Int} {K : Bool → World → Prop} (h0 : 0 ≤ g) (h1 : g < 18446744073709551616) (h : K (guardB g bits) w) : C.ref04_guard g bits K w := by
  apply S.ref04_guard_ok
  unfold S.ref04_guard
  have hf : ¬ (0 ≤ bits ∧ bits ≤ 64) → guardB g bits = false := fun hn => by unfold guardB; rw [decide_eq_false]; rintro ⟨a, b, _⟩; exact hn ⟨a, b⟩
  refine cdec (fun e => ?_) (fun e => by rw [hf (by omega)] at h; exact h)
  refine cdec (fun e2 => ?_) (fun e2 => by rw [hf (by omega)] at h; exact h)
  obtain ⟨n, rfl⟩ := Int.eq_ofNat_of_zero_le (show 0 ≤ bits by omega)
  have hg : guardB g (n : Int) = decide (g < ((2 ^ n : Nat) : Int)) := by
    unfold guardB
    rw [decide_eq_decide, Int.toNat_natCast, show ((2 : Int) ^ n) = ((2 ^ n : Nat) : Int) from by simp]
    omega
  refine ceq (fun e3 => ?_) (fun e3 => ?_)
  · have : n = 64 := by omega
    subst this
    have e64 : (2 : Nat) ^ 64 = 18446744073709551616 := by decide
    rw [hg, e64, decide_eq_true (by omega)] at h
    exact h
  · refine ref01_Two_spec (by omega) ?_
    rw [hg] at h; exact h
theorem ref04_Check_spec {c : Cap} {K : Int → World → Prop} (h : Own B w0 w R) (hc : CapR c) (hK : ∀ w', Own B w0 w' R → K (capErr c) w') : C.ref04_Check c.kind c.obj c.rights c.badge c.guard c.bits K w := by
  apply S.ref04_Check_ok
  unfold S.ref04_Check
  refine h.al fun w1 h => ?_
  have h : Own B w0 w1 (BlkA w.heap.size c.cells :: R) := h
  have f40 : c ≠ zeroCap → ¬ CapP c → K 40 w1 := fun h1 h2 => by rw [← capErr_40 hc h1 h2]; exact hK _ h.drop
  have f0 : (c = zeroCap ∨ CapP c) → K 0 w1 := fun h1 => by rw [← capErr_0 hc h1]; exact hK _ h.drop
  intro k8 hk8
  have main : c ≠ zeroCap → k8 false w1 := fun hz => by
    apply hk8
    refine cbF rfl ?_
    intro k11 hk11
    have t11 : ¬ CapP c → k11 true w1 := fun hp => hk11 _ _ (cbT rfl (f40 hz hp))
    (repeat (first | (refine h.al fun w h => ?_) | (refine h.dr fun w h => ?_) | (refine h.lc_2 rfl ?_) | (refine h.lc_6 rfl ?_) | (refine ⟨_, h.ldc rfl, ?_⟩) | (refine ⟨_, h.ldd rfl, ?_⟩) | (refine h.hd rfl ?_) | (refine ⟨h.ldc rfl, ?_⟩) | (refine ⟨h.ldd rfl, ?_⟩) | (refine h.stLc rfl rfl fun w h => ?_) | (refine exs ?_) | (refine _root_.Go.Vc.a2 ?_) | (refine h.stc rfl rfl fun w h => ?_) | (refine h.std rfl rfl fun w h => ?_)))
    refine cdec (fun e => t11 fun hp => by unfold CapP at hp; omega) (fun e1 => ?_)
    (repeat (first | (refine h.al fun w h => ?_) | (refine h.dr fun w h => ?_) | (refine h.lc_2 rfl ?_) | (refine h.lc_6 rfl ?_) | (refine ⟨_, h.ldc rfl, ?_⟩) | (refine ⟨_, h.ldd rfl, ?_⟩) | (refine h.hd rfl ?_) | (refine ⟨h.ldc rfl, ?_⟩) | (refine ⟨h.ldd rfl, ?_⟩) | (refine h.stLc rfl rfl fun w h => ?_) | (refine exs ?_) | (refine _root_.Go.Vc.a2 ?_) | (refine h.stc rfl rfl fun w h => ?_) | (refine h.std rfl rfl fun w h => ?_)))
    refine cdec (fun e => t11 fun hp => by unfold CapP at hp; omega) (fun e2 => ?_)
    (repeat (first | (refine h.al fun w h => ?_) | (refine h.dr fun w h => ?_) | (refine h.lc_2 rfl ?_) | (refine h.lc_6 rfl ?_) | (refine ⟨_, h.ldc rfl, ?_⟩) | (refine ⟨_, h.ldd rfl, ?_⟩) | (refine h.hd rfl ?_) | (refine ⟨h.ldc rfl, ?_⟩) | (refine ⟨h.ldd rfl, ?_⟩) | (refine h.stLc rfl rfl fun w h => ?_) | (refine exs ?_) | (refine _root_.Go.Vc.a2 ?_) | (refine h.stc rfl rfl fun w h => ?_) | (refine h.std rfl rfl fun w h => ?_)))
    refine cdec (fun e => t11 fun hp => by unfold CapP at hp; omega) (fun e3 => ?_)
    (repeat (first | (refine h.al fun w h => ?_) | (refine h.dr fun w h => ?_) | (refine h.lc_2 rfl ?_) | (refine h.lc_6 rfl ?_) | (refine ⟨_, h.ldc rfl, ?_⟩) | (refine ⟨_, h.ldd rfl, ?_⟩) | (refine h.hd rfl ?_) | (refine ⟨h.ldc rfl, ?_⟩) | (refine ⟨h.ldd rfl, ?_⟩) | (refine h.stLc rfl rfl fun w h => ?_) | (refine exs ?_) | (refine _root_.Go.Vc.a2 ?_) | (refine h.stc rfl rfl fun w h => ?_) | (refine h.std rfl rfl fun w h => ?_)))
    refine cdec (fun e => t11 fun hp => by unfold CapP at hp; omega) (fun e4 => ?_)
    (repeat (first | (refine h.al fun w h => ?_) | (refine h.dr fun w h => ?_) | (refine h.lc_2 rfl ?_) | (refine h.lc_6 rfl ?_) | (refine ⟨_, h.ldc rfl, ?_⟩) | (refine ⟨_, h.ldd rfl, ?_⟩) | (refine h.hd rfl ?_) | (refine ⟨h.ldc rfl, ?_⟩) | (refine ⟨h.ldd rfl, ?_⟩) | (refine h.stLc rfl rfl fun w h => ?_) | (refine exs ?_) | (refine _root_.Go.Vc.a2 ?_) | (refine h.stc rfl rfl fun w h => ?_) | (refine h.std rfl rfl fun w h => ?_)))
    refine cdec (fun e => t11 fun hp => by unfold CapP at hp; omega) (fun e5 => ?_)
    (repeat (first | (refine h.al fun w h => ?_) | (refine h.dr fun w h => ?_) | (refine h.lc_2 rfl ?_) | (refine h.lc_6 rfl ?_) | (refine ⟨_, h.ldc rfl, ?_⟩) | (refine ⟨_, h.ldd rfl, ?_⟩) | (refine h.hd rfl ?_) | (refine ⟨h.ldc rfl, ?_⟩) | (refine ⟨h.ldd rfl, ?_⟩) | (refine h.stLc rfl rfl fun w h => ?_) | (refine exs ?_) | (refine _root_.Go.Vc.a2 ?_) | (refine h.stc rfl rfl fun w h => ?_) | (refine h.std rfl rfl fun w h => ?_)))
    by_cases e6 : c.rights > 7
    · rw [decide_eq_true e6]; exact t11 fun hp => by unfold CapP at hp; omega
    rw [decide_eq_false e6]
    apply hk11
    refine cbF rfl ?_
    intro k14 hk14
    have t14 : ¬ CapP c → k14 true w1 := fun hp => hk14 _ _ (cbT rfl (f40 hz hp))
    have hg0 := hc.g0
    have hb0 := hc.b0
    have last : (limitedB c.kind = true ∨ c.rights = 7) → (badgedB c.kind = true ∨ c.badge = 0) → k14 false w1 := fun h7 h8 => by
      apply hk14
      refine cbF rfl ?_
      have fin : (c.kind = 2 ∨ (c.guard = 0 ∧ c.bits = 0)) → bif !guardB c.guard c.bits then K 40 w1 else K 0 w1 := fun h9 => by
        refine cnb (fun e => f40 hz fun hp => ?_) (fun e => f0 (.inr ?_))
        · obtain ⟨_, _, _, _, _, _, _, _, _, hp⟩ := hp
          rw [e] at hp; cases hp
        · exact ⟨by omega, by omega, by omega, by omega, by omega, by omega, h7, h8, h9, e⟩
      (repeat (first | (refine h.al fun w h => ?_) | (refine h.dr fun w h => ?_) | (refine h.lc_2 rfl ?_) | (refine h.lc_6 rfl ?_) | (refine ⟨_, h.ldc rfl, ?_⟩) | (refine ⟨_, h.ldd rfl, ?_⟩) | (refine h.hd rfl ?_) | (refine ⟨h.ldc rfl, ?_⟩) | (refine ⟨h.ldd rfl, ?_⟩) | (refine h.stLc rfl rfl fun w h => ?_) | (refine exs ?_) | (refine _root_.Go.Vc.a2 ?_) | (refine h.stc rfl rfl fun w h => ?_) | (refine h.std rfl rfl fun w h => ?_)))
      refine cne (fun e => ?_) (fun e => ?_)
      · (repeat (first | (refine h.al fun w h => ?_) | (refine h.dr fun w h => ?_) | (refine h.lc_2 rfl ?_) | (refine h.lc_6 rfl ?_) | (refine ⟨_, h.ldc rfl, ?_⟩) | (refine ⟨_, h.ldd rfl, ?_⟩) | (refine h.hd rfl ?_) | (refine ⟨h.ldc rfl, ?_⟩) | (refine ⟨h.ldd rfl, ?_⟩) | (refine h.stLc rfl rfl fun w h => ?_) | (refine exs ?_) | (refine _root_.Go.Vc.a2 ?_) | (refine h.stc rfl rfl fun w h => ?_) | (refine h.std rfl rfl fun w h => ?_)))
        refine cdec (fun e => f40 hz fun hp => by obtain ⟨_, _, _, _, _, _, _, _, hp, _⟩ := hp; omega) (fun e7 => ?_)
        (repeat (first | (refine h.al fun w h => ?_) | (refine h.dr fun w h => ?_) | (refine h.lc_2 rfl ?_) | (refine h.lc_6 rfl ?_) | (refine ⟨_, h.ldc rfl, ?_⟩) | (refine ⟨_, h.ldd rfl, ?_⟩) | (refine h.hd rfl ?_) | (refine ⟨h.ldc rfl, ?_⟩) | (refine ⟨h.ldd rfl, ?_⟩) | (refine h.stLc rfl rfl fun w h => ?_) | (refine exs ?_) | (refine _root_.Go.Vc.a2 ?_) | (refine h.stc rfl rfl fun w h => ?_) | (refine h.std rfl rfl fun w h => ?_)))
        refine cne (fun e => f40 hz fun hp => by obtain ⟨_, _, _, _, _, _, _, _, hp, _⟩ := hp; omega) (fun e8 => ?_)
        (repeat (first | (refine h.al fun w h => ?_) | (refine h.dr fun w h => ?_) | (refine h.lc_2 rfl ?_) | (refine h.lc_6 rfl ?_) | (refine ⟨_, h.ldc rfl, ?_⟩) | (refine ⟨_, h.ldd rfl, ?_⟩) | (refine h.hd rfl ?_) | (refine ⟨h.ldc rfl, ?_⟩) | (refine ⟨h.ldd rfl, ?_⟩) | (refine h.stLc rfl rfl fun w h => ?_) | (refine exs ?_) | (refine _root_.Go.Vc.a2 ?_) | (refine h.stc rfl rfl fun w h => ?_) | (refine h.std rfl rfl fun w h => ?_)))
        exact ref04_guard_spec hc.g0 hc.g1 (fin (.inr ⟨by omega, e8⟩))
      · (repeat (first | (refine h.al fun w h => ?_) | (refine h.dr fun w h => ?_) | (refine h.lc_2 rfl ?_) | (refine h.lc_6 rfl ?_) | (refine ⟨_, h.ldc rfl, ?_⟩) | (refine ⟨_, h.ldd rfl, ?_⟩) | (refine h.hd rfl ?_) | (refine ⟨h.ldc rfl, ?_⟩) | (refine ⟨h.ldd rfl, ?_⟩) | (refine h.stLc rfl rfl fun w h => ?_) | (refine exs ?_) | (refine _root_.Go.Vc.a2 ?_) | (refine h.stc rfl rfl fun w h => ?_) | (refine h.std rfl rfl fun w h => ?_)))
        exact ref04_guard_spec hc.g0 hc.g1 (fin (.inl e))
    have bd : (limitedB c.kind = true ∨ c.rights = 7) → (bif !badgedB c.kind then ∃ badge35 : Int, w1.cell? ((Addr.mk w.heap.size 0 none).add 3) = some (.int .u64 badge35) ∧ k14 (decide (badge35 > (0 : Int))) w1 else k14 false w1) := fun h7 => by
      refine cnb (fun e => ?_) (fun e => last h7 (.inl e))
      (repeat (first | (refine h.al fun w h => ?_) | (refine h.dr fun w h => ?_) | (refine h.lc_2 rfl ?_) | (refine h.lc_6 rfl ?_) | (refine ⟨_, h.ldc rfl, ?_⟩) | (refine ⟨_, h.ldd rfl, ?_⟩) | (refine h.hd rfl ?_) | (refine ⟨h.ldc rfl, ?_⟩) | (refine ⟨h.ldd rfl, ?_⟩) | (refine h.stLc rfl rfl fun w h => ?_) | (refine exs ?_) | (refine _root_.Go.Vc.a2 ?_) | (refine h.stc rfl rfl fun w h => ?_) | (refine h.std rfl rfl fun w h => ?_)))
      by_cases e9 : c.badge > 0
      · rw [decide_eq_true e9]
        refine t14 fun hp => ?_
        obtain ⟨_, _, _, _, _, _, _, hp, _⟩ := hp
        rcases hp with hp | hp
        · rw [e] at hp; cases hp
        · omega
      · rw [decide_eq_false e9]; exact last h7 (.inr (by omega))
    (repeat (first | (refine h.al fun w h => ?_) | (refine h.dr fun w h => ?_) | (refine h.lc_2 rfl ?_) | (refine h.lc_6 rfl ?_) | (refine ⟨_, h.ldc rfl, ?_⟩) | (refine ⟨_, h.ldd rfl, ?_⟩) | (refine h.hd rfl ?_) | (refine ⟨h.ldc rfl, ?_⟩) | (refine ⟨h.ldd rfl, ?_⟩) | (refine h.stLc rfl rfl fun w h => ?_) | (refine exs ?_) | (refine _root_.Go.Vc.a2 ?_) | (refine h.stc rfl rfl fun w h => ?_) | (refine h.std rfl rfl fun w h => ?_)))
    refine ref04_limited_spec ?_
    refine cnb (fun e => ?_) (fun e => ?_)
    · (repeat (first | (refine h.al fun w h => ?_) | (refine h.dr fun w h => ?_) | (refine h.lc_2 rfl ?_) | (refine h.lc_6 rfl ?_) | (refine ⟨_, h.ldc rfl, ?_⟩) | (refine ⟨_, h.ldd rfl, ?_⟩) | (refine h.hd rfl ?_) | (refine ⟨h.ldc rfl, ?_⟩) | (refine ⟨h.ldd rfl, ?_⟩) | (refine h.stLc rfl rfl fun w h => ?_) | (refine exs ?_) | (refine _root_.Go.Vc.a2 ?_) | (refine h.stc rfl rfl fun w h => ?_) | (refine h.std rfl rfl fun w h => ?_)))
      refine cne (fun e7 => t14 fun hp => ?_) (fun e7 => ?_)
      · obtain ⟨_, _, _, _, _, _, hp, _⟩ := hp
        rcases hp with hp | hp
        · rw [e] at hp; cases hp
        · omega
      · (repeat (first | (refine h.al fun w h => ?_) | (refine h.dr fun w h => ?_) | (refine h.lc_2 rfl ?_) | (refine h.lc_6 rfl ?_) | (refine ⟨_, h.ldc rfl, ?_⟩) | (refine ⟨_, h.ldd rfl, ?_⟩) | (refine h.hd rfl ?_) | (refine ⟨h.ldc rfl, ?_⟩) | (refine ⟨h.ldd rfl, ?_⟩) | (refine h.stLc rfl rfl fun w h => ?_) | (refine exs ?_) | (refine _root_.Go.Vc.a2 ?_) | (refine h.stc rfl rfl fun w h => ?_) | (refine h.std rfl rfl fun w h => ?_)))
        exact ref04_badged_spec (bd (.inr e7))
    · (repeat (first | (refine h.al fun w h => ?_) | (refine h.dr fun w h => ?_) | (refine h.lc_2 rfl ?_) | (refine h.lc_6 rfl ?_) | (refine ⟨_, h.ldc rfl, ?_⟩) | (refine ⟨_, h.ldd rfl, ?_⟩) | (refine h.hd rfl ?_) | (refine ⟨h.ldc rfl, ?_⟩) | (refine ⟨h.ldd rfl, ?_⟩) | (refine h.stLc rfl rfl fun w h => ?_) | (refine exs ?_) | (refine _root_.Go.Vc.a2 ?_) | (refine h.stc rfl rfl fun w h => ?_) | (refine h.std rfl rfl fun w h => ?_)))
      exact ref04_badged_spec (bd (.inl e))
  (repeat (first | (refine h.al fun w h => ?_) | (refine h.dr fun w h => ?_) | (refine h.lc_2 rfl ?_) | (refine h.lc_6 rfl ?_) | (refine ⟨_, h.ldc rfl, ?_⟩) | (refine ⟨_, h.ldd rfl, ?_⟩) | (refine h.hd rfl ?_) | (refine ⟨h.ldc rfl, ?_⟩) | (refine ⟨h.ldd rfl, ?_⟩) | (refine h.stLc rfl rfl fun w h => ?_) | (refine exs ?_) | (refine _root_.Go.Vc.a2 ?_) | (refine h.stc rfl rfl fun w h => ?_) | (refine h.std rfl rfl fun w h => ?_)))
  refine ceq (fun e => ?_) (fun e => main fun hz => e (by rw [hz]; rfl))
  (repeat (first | (refine h.al fun w h => ?_) | (refine h.dr fun w h => ?_) | (refine h.lc_2 rfl ?_) | (refine h.lc_6 rfl ?_) | (refine ⟨_, h.ldc rfl, ?_⟩) | (refine ⟨_, h.ldd rfl, ?_⟩) | (refine h.hd rfl ?_) | (refine ⟨h.ldc rfl, ?_⟩) | (refine ⟨h.ldd rfl, ?_⟩) | (refine h.stLc rfl rfl fun w h => ?_) | (refine exs ?_) | (refine _root_.Go.Vc.a2 ?_) | (refine h.stc rfl rfl fun w h => ?_) | (refine h.std rfl rfl fun w h => ?_)))
  refine ⟨_, capEq c zeroCap, ?_⟩
  by_cases hz : c = zeroCap
  · rw [decide_eq_true hz]
    exact hk8 _ _ (cbT rfl (f0 (.inl hz)))
  · rw [decide_eq_false hz]; exact main hz
end
end Go.Proofs.Ytdlcejjiccknlaa
