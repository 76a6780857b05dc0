/- Laws of layer 10: who runs behind Pick. -/
import Derived.Test.YtgkebkfabegflaaTH15
import Derived.Test.YtgkebkfabegflaaC
set_option linter.unusedVariables false
set_option linter.unusedSimpArgs false
set_option maxRecDepth 8000
namespace Go.Proofs.Ytgkebkfabegflaa
open Go Go.Vc Go.Proofs

section
variable {B : Nat} {w0 w : World} {R L : List Asn} {b : Nat} {m m1 m2 : Mt}
/-- As many threads, as many cores. -/
def Sm (m m1 : Mt) : Prop := m1.ths.length = m.ths.length ∧ m1.qs.length = m.qs.length
theorem Sm.refl : Sm m m := ⟨rfl, rfl⟩
theorem Sm.setTh (h : Sm m m1) {n : Int} {t : Thd} : Sm m (m1.setTh n t) := ⟨by unfold Mt.setTh; simp [h.1], h.2⟩
theorem Sm.setQ (h : Sm m m1) {n : Int} {t : Qs} : Sm m (m1.setQ n t) := ⟨h.1, by unfold Mt.setQ; simp [h.2]⟩
theorem Sm.setR (h : Sm m m1) {n t : Int} : Sm m (m1.setR n t) := h
theorem Sm.leave0 (h : Sm m m1) {n : Int} : Sm m (m1.leave0 n) := by
  unfold Mt.leave0
  split
  · exact h.setQ
  · split
    · exact h
    · exact h
theorem Sm.leave (h : Sm m m1) {n s : Int} : Sm m (m1.leave n s) := h.leave0.setTh
theorem Sm.lineUp (h : Sm m m1) {n : Int} : Sm m (m1.lineUp n) := h.setTh.setQ
theorem Sm.pickC (h : Sm m m1) {c : Int} : Sm m (m1.pickC c) := by
  unfold Mt.pickC Mt.pick
  split
  · cases nextR (m1.q c) with
    | none => exact h
    | some n =>
      simp only
      split
      · exact h.leave.setR
      · split
        · exact h
        · exact h.leave.lineUp.leave.setR
  · exact h
theorem Sm.yield (h : Sm m m1) {c : Int} : Sm m (m1.yield c) := by
  unfold Mt.yield
  cases m1.runs? c with
  | none => exact h
  | some o => exact (h.setTh.leave.lineUp (n := o)).pickC
theorem Sm.tick (h : Sm m m1) {c : Int} : Sm m (m1.tick c) := by
  unfold Mt.tick
  cases m1.runs? c with
  | none => exact h
  | some o =>
    simp only
    split
    · exact h.setTh.yield
    · exact h.setTh
theorem Sm.done (h : Sm m m1) {k n c p : Int} : Sm m (m1.done k n c p) := by
  unfold Mt.done
  split
  · unfold Mt.resumeR; split
    · exact h
    · split
      · exact h
      · exact h.lineUp
  split
  · unfold Mt.suspendR; split
    · exact h
    · split
      · exact h
      · exact h.leave
  split
  · unfold Mt.blockR; split
    · exact h
    · split
      · exact h
      · exact h.leave
  split
  · unfold Mt.prioR; split
    · exact h
    · split
      · exact h
      · split
        · exact h.leave.setTh.lineUp
        · exact h.setTh
  split
  · unfold Mt.coreR; split
    · exact h
    · split
      · exact h
      · split
        · exact h
        · split
          · exact h.leave.setTh.lineUp
          · exact h.leave.setTh
  split
  · exact h.pickC
  split
  · exact h.yield
  split
  · exact h.tick
  · exact h
theorem Sm.isT (h : Sm m m1) (k : Int) : m1.isT k = m.isT k := by unfold Mt.isT; rw [h.1]
theorem Sm.isC (h : Sm m m1) (k : Int) : m1.isC k = m.isC k := by unfold Mt.isC; rw [h.2]
/-- The next one has the greatest prio. -/
theorem next_top {Q : Qs} (hq : QOk Q) {n : Int} (h : nextR Q = some n) : ∃ q, (q, n) ∈ Q ∧ ∀ p k, (p, k) ∈ Q → p ≤ q := by
  unfold nextR at h
  obtain ⟨q, hq1, hl⟩ := Option.bind_eq_some_iff.1 h
  refine ⟨q, mem_line.1 (List.mem_of_head? hl), fun p k hp => ?_⟩
  obtain ⟨h1, h2, h3⟩ := topB_out hq1
  refine Nat.le_of_not_lt fun hlt => ?_
  have h4 := h3 p hlt (hq.prio _ hp)
  unfold some1 at h4
  have h5 : lineOf Q p = [] := by simpa using h4
  have := mem_line.2 hp
  rw [h5] at this
  simp at this
theorem nextR_none {Q : Qs} (hq : QOk Q) (h : nextR Q = none) (p : Nat) (k : Int) : (p, k) ∉ Q := fun hp => by
  unfold nextR at h
  cases ht : topO Q with
  | some q =>
    obtain ⟨_, n, l, e⟩ := topO_out ht
    rw [ht, Option.bind_some, e] at h
    cases h
  | none =>
    have h4 := topB_none ht p (hq.prio _ hp)
    unfold some1 at h4
    have h5 : lineOf Q p = [] := by simpa using h4
    have := mem_line.2 hp
    rw [h5] at this
    simp at this
theorem runs_setR {c n : Int} (hc : m.isC c = true) (hcr : m.runs.length = m.qs.length) (n0 : 0 ≤ n) : (m.setR c n).runs? c = some n := by
  obtain ⟨c0, c1⟩ := isC_iff.1 hc
  unfold Mt.runs?
  rw [run_setR c0 (by omega), if_pos rfl, if_pos ⟨by rw [setR_isC]; exact hc, by omega⟩]
/-- Behind Pick nobody who is ready has a greater prio than who runs. -/
theorem pick_law (hi : InvX (-1) m) {c : Int} (hc : m.isC c = true) : ∀ i, m.isT i = true → ((m.pickC c).th i).co = c → ((m.pickC c).th i).st = 1 → ∃ y, (m.pickC c).runs? c = some y ∧ ((m.pickC c).th i).pr ≤ ((m.pickC c).th y).pr := by
  intro i hT
  have inQ : ∀ i, m.isT i = true → (m.th i).co = c → (m.th i).st = 1 → ∃ p, (p, i) ∈ m.q c ∧ (m.th i).pr = (p : Int) := fun i hT h1 h2 => by
    have hp := hi.pr i hT
    refine ⟨(m.th i).pr.toNat, (hi.inq c hc _ i).2 ⟨hT, ?_, h1, h2, by omega⟩, by omega⟩
    have := (isT_get hT).1; omega
  unfold Mt.pickC
  rw [if_pos hc]
  unfold Mt.pick
  cases hn : nextR (m.q c) with
  | none =>
    intro h1 h2
    obtain ⟨p, hp, _⟩ := inQ i hT h1 h2
    exact absurd hp (nextR_none (hi.qok c) hn p i)
  | some n =>
    obtain ⟨nT, nco, nst⟩ := hi.nextIn hc hn
    obtain ⟨q, hq, htop⟩ := next_top (hi.qok c) hn
    have hqn : (m.th n).pr = (q : Int) := ((hi.inq c hc q n).1 hq).2.2.2.2
    have n0 := (isT_get nT).1
    simp only
    split
    · rename_i hr
      intro h1 h2
      rw [setR_th, th_leave nT] at h1 h2
      refine ⟨n, runs_setR (by rw [leave_isC]; exact hc) (hi.ok.leave nT).cores n0, ?_⟩
      rw [setR_th, setR_th, th_leave nT, th_leave nT, if_pos rfl]
      by_cases e : i = n
      · rw [if_pos e]; exact Int.le_refl _
      · rw [if_neg e] at h1 h2 ⊢
        obtain ⟨p, hp, hpe⟩ := inQ i hT h1 h2
        have := htop p i hp
        show (m.th i).pr ≤ (m.th n).pr
        omega
    · rename_i hr
      have hr2 : m.runs? c = some (m.run c) := by unfold Mt.runs?; rw [if_pos ⟨hc, hr⟩]
      obtain ⟨_, oT, oco, ost⟩ := hi.runIn hr2
      split
      · rename_i hle
        intro h1 h2
        refine ⟨_, hr2, ?_⟩
        obtain ⟨p, hp, hpe⟩ := inQ i hT h1 h2
        have := htop p i hp
        omega
      · rename_i hle
        have oT1 : (m.leave (m.run c) 1).isT (m.run c) = true := by rw [leave_isT]; exact oT
        have nT1 : ((m.leave (m.run c) 1).lineUp (m.run c)).isT n = true := by rw [lineUp_isT, leave_isT]; exact nT
        have hne : n ≠ m.run c := fun e => by rw [← e] at ost; omega
        intro h1 h2
        refine ⟨n, runs_setR (by rw [leave_isC, lineUp_isC, leave_isC]; exact hc) (((hi.ok.leave oT).lineUp oT1).leave nT1).cores n0, ?_⟩
        rw [setR_th, th_leave nT1, th_lineUp oT1, th_leave oT, th_lineUp oT1, th_leave oT, th_leave oT, if_pos rfl, if_neg hne, if_neg hne] at h1 h2
        rw [setR_th, setR_th, th_leave nT1, th_leave nT1, th_lineUp oT1, th_leave oT, th_lineUp oT1, th_leave oT, th_leave oT, if_pos rfl, if_pos rfl, if_neg hne, if_neg hne]
        by_cases e : i = n
        · rw [if_pos e]; exact Int.le_refl _
        · rw [if_neg e] at h1 h2 ⊢
          by_cases e2 : i = m.run c
          · rw [if_pos e2]
            show (m.th (m.run c)).pr ≤ (m.th n).pr
            omega
          · rw [if_neg e2, th_leave oT, if_neg e2] at h1 h2 ⊢
            obtain ⟨p, hp, hpe⟩ := inQ i hT h1 h2
            have := htop p i hp
            show (m.th i).pr ≤ (m.th n).pr
            omega
theorem and65535 {n : Int} : ∃ q : Nat, andI .i64 n (65535 : Int) = (q : Int) := by
  unfold andI
  have hle : (BitVec.ofInt IntKind.i64.bits n &&& BitVec.ofInt IntKind.i64.bits (65535 : Int)).toNat ≤ 65535 := by
    rw [BitVec.toNat_and]
    refine Nat.le_trans Nat.and_le_right ?_
    have : (BitVec.ofInt IntKind.i64.bits (65535 : Int)).toNat = 65535 := by decide
    omega
  exact ⟨_, wr (by omega) (by omega)⟩
end
end Go.Proofs.Ytgkebkfabegflaa
