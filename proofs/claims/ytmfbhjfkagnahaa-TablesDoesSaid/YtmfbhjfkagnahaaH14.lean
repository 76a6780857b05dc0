/- Laws of layer 14: tables put in; rights. -/
import Derived.Test.YtmfbhjfkagnahaaG14
import Derived.Test.YtmfbhjfkagnahaaS1
set_option linter.unusedVariables false
set_option linter.unusedSimpArgs false
set_option maxRecDepth 8000
namespace Go.Proofs.Ytmfbhjfkagnahaa
open Go Go.Vc Go.Proofs Go.Shelf

theorem and_lt (M : Nat) (n : Int) (hM : M < 1000000) : ∃ q : Nat, andI .i64 n (M : Int) = (q : Int) ∧ q ≤ M := by
  have hle : (BitVec.ofInt IntKind.i64.bits n &&& BitVec.ofInt IntKind.i64.bits (M : Int)).toNat ≤ M := by
    rw [BitVec.toNat_and]
    refine Nat.le_trans Nat.and_le_right ?_
    have : (BitVec.ofInt IntKind.i64.bits (M : Int)).toNat = M := by
      have e : (BitVec.ofInt IntKind.i64.bits (M : Int)).toNat = ((M : Int) % (2 ^ IntKind.i64.bits : Nat)).toNat := BitVec.toNat_ofInt _
      rw [e]
      have e2 : ((2 ^ IntKind.i64.bits : Nat) : Int) = 18446744073709551616 := by decide
      rw [e2]; omega
    omega
  exact ⟨_, by unfold andI; exact wr (by omega) (by omega), hle⟩
section
variable {w0 w : World}
def tbF (k i : Nat) : Nat → Option Int := fun j => if j < i then some ((k + j : Nat) : Int) else none
theorem tbF_next {k i : Nat} : upT (tbF k i) i (some ((k + i : Nat) : Int)) = tbF k (i + 1) := by
  funext j
  unfold upT tbF
  by_cases e : j = i
  · rw [if_pos e, if_pos (by omega), e]
  · rw [if_neg e]
    by_cases e2 : j < i
    · rw [if_pos e2, if_pos (by omega)]
    · rw [if_neg e2, if_neg (by omega)]
theorem full_1 {k i : Nat} (hi : i < 64) : (⟨tbF k i, []⟩ : Spc).tableR (i : Int) ((k + i : Nat) : Int) = (0, ⟨tbF k (i + 1), []⟩) := by
  unfold Spc.tableR
  rw [if_neg (fun h => h ⟨by omega, by omega, by omega⟩), if_neg]
  · rw [Int.toNat_natCast]; show ((0 : Int), (⟨upT (tbF k i) i (some ((k + i : Nat) : Int)), []⟩ : Spc)) = _; rw [tbF_next]
  · rw [Int.toNat_natCast]
    rintro (h | h)
    · simp [tbF] at h
    · obtain ⟨j, _, h⟩ := List.any_eq_true.1 h
      simp only [tbF, beq_iff_eq] at h
      split at h
      · simp only [Option.some.injEq] at h; omega
      · cases h
theorem full_2 {k i : Nat} {n : Int} (hi : i < 64) (hn : 0 ≤ n) : (⟨tbF k (i + 1), []⟩ : Spc).tableR (i : Int) n = (140, ⟨tbF k (i + 1), []⟩) := by
  unfold Spc.tableR
  rw [if_neg (fun h => h ⟨by omega, by omega, hn⟩), if_pos]
  left
  rw [Int.toNat_natCast]; simp [tbF]
theorem full_3 {k i : Nat} (hi : i < 63) : (⟨tbF k (i + 1), []⟩ : Spc).tableR ((i + 1 : Nat) : Int) ((k + i : Nat) : Int) = (140, ⟨tbF k (i + 1), []⟩) := by
  unfold Spc.tableR
  rw [if_neg (fun h => h ⟨by omega, by omega, by omega⟩), if_pos]
  right
  exact List.any_eq_true.2 ⟨i, List.mem_range.2 (by omega), by simp [tbF]⟩
theorem law14_TablesFull_spec {f : Int} {K : Bool → World → Prop} (w1 : (Lit.int .i64 f).wf = true) (h : Own w0.heap.size w0 w []) (hK : ∀ w', Own w0.heap.size w0 w' [] → K true w') : C.law14_TablesFull f K w := by
  apply S.law14_TablesFull_ok
  unfold S.law14_TablesFull
  obtain ⟨k, hk, hk2⟩ := and_lt 65535 f (by decide)
  have hk : andI .i64 f (65535 : Int) = (k : Int) := hk
  rw [hk]
  have plus : ∀ n : Nat, n < 1000 → IntKind.i64.wrap ((k : Int) + (n : Int)) = ((k + n : Nat) : Int) := fun n hn => by rw [wr (by omega) (by omega)]; omega
  refine New_spec h fun b w h => ?_
  refine cbF rfl ?_
  have h : Own w0.heap.size w0 w [SpcA b ⟨tbF k 0, []⟩] := by
    have e : newS = ⟨tbF k 0, []⟩ := by
      have : newS.tb = tbF k 0 := by funext j; simp [newS, tbF]
      show (⟨newS.tb, []⟩ : Spc) = _
      rw [this]
    rw [← e]; exact h
  intro l4 hl4
  have loop : ∀ (j i : Nat) (w : World), i + j = 64 → Own w0.heap.size w0 w [SpcA b ⟨tbF k i, []⟩] → l4 (i : Int) w := by
    intro j
    induction j with
    | zero =>
      intro i w hi h
      obtain rfl : i = 64 := by omega
      apply hl4
      refine cdecF (by omega) ?_
      refine Has_spec h ?_
      refine Has_spec h ?_
      have e1 : (⟨tbF k 64, []⟩ : Spc).at 64 = none := by unfold Spc.at tbF; rfl
      have e2 : (⟨tbF k 64, []⟩ : Spc).at 63 = some ((k + 63 : Nat) : Int) := by unfold Spc.at tbF; rfl
      rw [e1, e2]
      refine cbT rfl (cbT rfl (ceqT ?_ ?_))
      · exact (plus 63 (by decide)).symm
      · rw [show IntKind.i64.wrap ((k : Int) + 200) = ((k + 200 : Nat) : Int) from plus 200 (by decide)]
        refine Table_spec h fun w h => ?_
        have e3 : (⟨tbF k 64, []⟩ : Spc).tableR 64 ((k + 200 : Nat) : Int) = (1, ⟨tbF k 64, []⟩) := by unfold Spc.tableR; rw [if_pos (by omega)]
        rw [e3] at h ⊢
        refine ceqT rfl ?_
        exact law14_fixed_spec h fun w h => hK _ h.sub
    | succ j ih =>
      intro i w hi h
      apply hl4
      refine cdecT (by omega) ?_
      intro k7 hk7
      rw [plus i (by omega), show IntKind.i64.wrap ((k : Int) + 100) = ((k + 100 : Nat) : Int) from plus 100 (by decide), show IntKind.i64.wrap ((i : Int) + 1) = ((i + 1 : Nat) : Int) from by rw [wr (by omega) (by omega)]; omega]
      refine Table_spec h fun w h => ?_
      rw [full_1 (by omega)] at h ⊢
      refine cneF rfl ?_
      refine Table_spec h fun w h => ?_
      rw [full_2 (by omega) (by omega)] at h ⊢
      refine cneF rfl ?_
      have go : ∀ w, Own w0.heap.size w0 w [SpcA b ⟨tbF k (i + 1), []⟩] → k7 false w := fun w h => by
        refine hk7 _ _ (cbF rfl ?_)
        rw [show IntKind.i64.wrap ((i : Int) + 1) = ((i + 1 : Nat) : Int) from by rw [wr (by omega) (by omega)]; omega]
        exact ih (i + 1) w (by omega) h
      refine cdec (fun e => ?_) (fun e => go w h)
      refine Table_spec h fun w h => ?_
      rw [full_3 (by omega)] at h ⊢
      exact go w h
  exact loop 64 0 w (by omega) h
/-- What a page's number is, with the last bit turned. -/
theorem xor1 (n : Nat) (hn : n < 4096) : ∃ q : Nat, xorI .i64 (n : Int) (1 : Int) = (q : Int) ∧ q < 4096 ∧ q ≠ n ∧ q / 64 = n / 64 := by
  have all : (List.range 4096).all (fun n => xorI .i64 (n : Int) (1 : Int) == ((if n % 2 = 0 then n + 1 else n - 1 : Nat) : Int)) = true := by kernel_rfl
  have := List.all_eq_true.1 all n (List.mem_range.2 hn)
  simp only [beq_iff_eq] at this
  refine ⟨_, this, ?_, ?_, ?_⟩ <;> split <;> omega
def oneT (q : Nat) (v : Int) : Nat → Option Int := upT newS.tb q (some v)
theorem rt_1 {q : Nat} (hq : q < 64) : newS.tableR (q : Int) 7 = (0, ⟨oneT q 7, []⟩) := by
  unfold Spc.tableR
  rw [if_neg (fun h => h ⟨by omega, by omega, by decide⟩), if_neg]
  · rw [Int.toNat_natCast]; rfl
  · rintro (h | h)
    · simp [newS] at h
    · obtain ⟨j, _, h⟩ := List.any_eq_true.1 h
      simp [newS] at h
theorem rt_2 {n : Nat} {p : Pg} (hn : n < 4096) (h1 : 0 ≤ p.1) (h2 : 0 ≤ p.2 ∧ p.2 ≤ 7) : (⟨oneT (n / 64) 7, []⟩ : Spc).mapR (n : Int) p = (0, ⟨oneT (n / 64) 7, [((n : Int), p)]⟩) := by
  unfold Spc.mapR
  rw [if_neg (fun h => h ⟨by omega, by omega, h1, h2.1, h2.2⟩), if_neg, if_neg]
  · rfl
  · simp [look]
  · rw [Int.toNat_natCast]; simp [oneT, upT]
theorem rt_3 {n : Nat} {p : Pg} {r : Int} (hn : n < 4096) (h2 : 0 ≤ r ∧ r ≤ 7) : (⟨oneT (n / 64) 7, [((n : Int), p)]⟩ : Spc).rightsR (n : Int) r = (0, ⟨oneT (n / 64) 7, [((n : Int), (p.1, r))]⟩) := by
  unfold Spc.rightsR
  rw [if_neg (fun h => h ⟨by omega, by omega, h2.1, h2.2⟩)]
  simp [look, insS]
theorem rt_4 {n q : Nat} {p : Pg} {r : Int} (hn : q < 4096) (hne : q ≠ n) (h2 : 0 ≤ r ∧ r ≤ 7) : (⟨oneT (n / 64) 7, [((n : Int), p)]⟩ : Spc).rightsR (q : Int) r = (141, ⟨oneT (n / 64) 7, [((n : Int), p)]⟩) := by
  unfold Spc.rightsR
  rw [if_neg (fun h => h ⟨by omega, by omega, h2.1, h2.2⟩)]
  simp only [look]
  rw [if_neg (by omega)]
theorem look1 (n : Nat) (p : Pg) : look [((n : Int), p)] (n : Int) = some p := by simp [look]
theorem law14_TablesRights_spec {pg fr ri r : Int} {K : Bool → World → Prop} (w1 : (Lit.int .i64 pg).wf = true) (w2 : (Lit.int .i64 fr).wf = true) (w3 : (Lit.int .i64 ri).wf = true) (w4 : (Lit.int .i64 r).wf = true) (h : Own w0.heap.size w0 w []) (hK : ∀ w', Own w0.heap.size w0 w' [] → K true w') : C.law14_TablesRights pg fr ri r K w := by
  apply S.law14_TablesRights_ok
  unfold S.law14_TablesRights
  obtain ⟨n, hn, hn2⟩ := and_lt 4095 pg (by decide)
  obtain ⟨f, hf, hf2⟩ := and_lt 65535 fr (by decide)
  obtain ⟨g, hg, hg2⟩ := and_lt 7 ri (by decide)
  obtain ⟨r2, hr, hr2⟩ := and_lt 7 r (by decide)
  have hn : andI .i64 pg (4095 : Int) = (n : Int) := hn
  have hf : andI .i64 fr (65535 : Int) = (f : Int) := hf
  have hg : andI .i64 ri (7 : Int) = (g : Int) := hg
  have hr : andI .i64 r (7 : Int) = (r2 : Int) := hr
  obtain ⟨q, hq, hq2, hq3, hq4⟩ := xor1 n (by omega)
  rw [hn, hr, hq]
  have hdiv : IntKind.i64.wrap ((n : Int).tdiv 64) = ((n / 64 : Nat) : Int) := by
    have : (n : Int).tdiv 64 = ((n / 64 : Nat) : Int) := rfl
    rw [this, wr (by omega) (by omega)]
  rw [hdiv]
  refine h.al fun w2 h => ?_
  generalize w.heap.size = d at h ⊢
  refine New_spec h fun b w h => ?_
  refine cbF rfl ?_
  refine h.dr fun w h => ?_
  refine ⟨_, h.ldc rfl, _, h.ldd rfl, Go.Vc.a2 ?_⟩
  rw [hf, hg]
  refine h.al fun w3 h => ?_
  generalize w.heap.size = d2 at h ⊢
  refine Go.Vc.a2 ?_
  refine h.stLc rfl rfl fun w h => ?_
  (dsimp only [putAt, List.set_cons_zero, List.set_cons_succ] at h)
  refine h.dr fun w h => ?_
  refine ⟨by decide, ?_⟩
  refine h.lc_2 rfl (Go.Vc.a2 ?_)
  refine Table_spec (h.pick (A := SpcA b newS)) fun w h => ?_
  rw [rt_1 (by omega)] at h ⊢
  refine h.hd rfl (Go.Vc.a2 ?_)
  refine Map_spec (p := ((f : Int), (g : Int))) h fun w h => ?_
  rw [rt_2 (by omega) (by show (0 : Int) ≤ f; omega) ⟨by show (0 : Int) ≤ g; omega, by show (g : Int) ≤ 7; omega⟩] at h ⊢
  refine Go.Vc.a2 ?_
  refine Rights_spec h fun w h => ?_
  rw [rt_3 (by omega) (by omega)] at h ⊢
  refine Walk_spec h fun w h => ?_
  simp only [look1]
  refine h.al fun w3 h => ?_
  generalize w.heap.size = d3 at h ⊢
  refine h.stLc rfl rfl fun w h => ?_
  (dsimp only [putAt, List.set_cons_zero, List.set_cons_succ] at h)
  refine ⟨_, h.ldd rfl, ?_⟩
  refine Rights_spec (h.pick (A := SpcA b ⟨oneT (n / 64) 7, [((n : Int), ((f : Int), (r2 : Int)))]⟩)) fun w h => ?_
  rw [rt_3 (by omega) (by omega)] at h ⊢
  refine Walk_spec h fun w h => ?_
  simp only [look1]
  refine h.al fun w3 h => ?_
  generalize w.heap.size = d4 at h ⊢
  refine h.stLc rfl rfl fun w h => ?_
  (dsimp only [putAt, List.set_cons_zero, List.set_cons_succ] at h)
  refine Rights_spec (h.pick (A := SpcA b ⟨oneT (n / 64) 7, [((n : Int), ((f : Int), (g : Int)))]⟩)) fun w h => ?_
  rw [rt_4 hq2 hq3 (by omega)] at h ⊢
  refine ceqT rfl (ceqT rfl (ceqT rfl (cbT rfl ?_)))
  refine h.lc_2 rfl ?_
  refine ⟨_, h.ldc rfl, _, pgEq ((f : Int), (r2 : Int)) ((f : Int), (r2 : Int)), cbT (by simp) (ceqT rfl (cbT rfl ?_))⟩
  refine h.lc_2 rfl ?_
  refine h.lc_2 rfl ?_
  refine ⟨_, pgEq ((f : Int), (g : Int)) ((f : Int), (g : Int)), cbT (by simp) (ceqT rfl ?_)⟩
  refine Pages_spec h fun s w h => ?_
  have hl := h.lenc s
  refine ceqT (by rw [hl]; rfl) ?_
  exact law14_fixed_spec h fun w h => hK _ h.sub
end
end Go.Proofs.Ytmfbhjfkagnahaa
