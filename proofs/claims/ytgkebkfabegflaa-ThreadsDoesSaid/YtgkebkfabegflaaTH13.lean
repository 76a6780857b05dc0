/- Threads of layer 10: what holds of them always. -/
import Derived.Test.YtgkebkfabegflaaTH10
import Derived.Test.YtgkebkfabegflaaC
set_option linter.unusedVariables false
set_option linter.unusedSimpArgs false
set_option maxRecDepth 8000
namespace Go.Proofs.Ytgkebkfabegflaa
open Go Go.Vc Go.Proofs

section
variable {m : Mt}
theorem th_setTh {n k : Int} {t : Thd} (hn : m.isT n = true) : (m.setTh n t).th k = if k = n then t else m.th k := by
  obtain ⟨n0, n1, _⟩ := isT_get hn
  unfold Mt.th Mt.setTh
  by_cases hk : k < 0
  · rw [if_pos hk, if_pos hk, if_neg (by omega)]
  · rw [if_neg hk, if_neg hk]
    simp only
    rw [List.getElem?_set]
    by_cases e : k = n
    · subst e; rw [if_pos rfl, if_pos (by omega), if_pos rfl]; rfl
    · rw [if_neg (by omega), if_neg e]
theorem q_setQ {c k : Int} {Q : Qs} (hc : m.isC c = true) : (m.setQ c Q).q k = if k = c then Q else m.q k := by
  obtain ⟨n0, n1⟩ := isC_iff.1 hc
  unfold Mt.q Mt.setQ
  by_cases hk : k < 0
  · rw [if_pos hk, if_pos hk, if_neg (by omega)]
  · rw [if_neg hk, if_neg hk]
    simp only
    rw [List.getElem?_set]
    by_cases e : k = c
    · subst e; rw [if_pos rfl, if_pos (by omega), if_pos rfl]; rfl
    · rw [if_neg (by omega), if_neg e]
theorem run_setR {c k v : Int} (c0 : 0 ≤ c) (c1 : c < m.runs.length) : (m.setR c v).run k = if k = c then v else m.run k := by
  unfold Mt.run Mt.setR
  by_cases hk : k < 0
  · rw [if_pos hk, if_pos hk, if_neg (by omega)]
  · rw [if_neg hk, if_neg hk]
    simp only
    rw [List.getElem?_set]
    by_cases e : k = c
    · subst e; rw [if_pos rfl, if_pos (by omega), if_pos rfl]; rfl
    · rw [if_neg (by omega), if_neg e]
theorem setTh_q {n k : Int} {t : Thd} : (m.setTh n t).q k = m.q k := rfl
theorem setTh_run {n k : Int} {t : Thd} : (m.setTh n t).run k = m.run k := rfl
theorem setQ_th {n k : Int} {t : Qs} : (m.setQ n t).th k = m.th k := rfl
theorem setQ_run {n k : Int} {t : Qs} : (m.setQ n t).run k = m.run k := rfl
theorem setR_th {n k t : Int} : (m.setR n t).th k = m.th k := rfl
theorem setR_q {n k t : Int} : (m.setR n t).q k = m.q k := rfl
theorem setQ_isT {n k : Int} {t : Qs} : (m.setQ n t).isT k = m.isT k := rfl
theorem setQ_isC {n k : Int} {t : Qs} : (m.setQ n t).isC k = m.isC k := by unfold Mt.setQ Mt.isC; simp
theorem setTh_isC {n k : Int} {t : Thd} : (m.setTh n t).isC k = m.isC k := rfl
/-- What holds always, but for one that is out for a while. -/
structure InvX (o : Int) (m : Mt) : Prop where
  ok : MOk m
  pr : ∀ n, m.isT n = true → 0 ≤ (m.th n).pr ∧ (m.th n).pr < 256
  le : ∀ n, m.isT n = true → 1 ≤ (m.th n).le ∧ (m.th n).le ≤ 5
  qok : ∀ c, QOk (m.q c)
  inq : ∀ c, m.isC c = true → ∀ (p : Nat) n, (p, n) ∈ m.q c ↔ (m.isT n = true ∧ n ≠ o ∧ (m.th n).co = c ∧ (m.th n).st = 1 ∧ (m.th n).pr = (p : Int))
  inr : ∀ c, m.isC c = true → ∀ n, m.isT n = true → (m.run c = n ↔ (n ≠ o ∧ (m.th n).co = c ∧ (m.th n).st = 2))
theorem InvX.co {o : Int} (hi : InvX o m) {n : Int} (hn : m.isT n = true) : m.isC (m.th n).co = true := isC_iff.2 (hi.ok.th hn).1
theorem take_mem {Q : Qs} {n : Int} {p : Nat} {k : Int} : (p, k) ∈ (takeR Q n).2 ↔ (p, k) ∈ Q ∧ k ≠ n := by
  unfold takeR
  split
  · rw [List.mem_filter]; simp
  · rename_i e
    exact ⟨fun h => ⟨h, wh_none.1 e _ h⟩, fun h => h.1⟩
theorem take_ok {Q : Qs} {n : Int} (h : QOk Q) : QOk (takeR Q n).2 := by
  unfold takeR
  split
  · exact ⟨h.nodup.sublist (List.Sublist.map _ List.filter_sublist), fun x hx => h.prio x (List.mem_filter.1 hx).1, Nat.le_trans (List.length_filter_le _ _) h.few⟩
  · exact h
/-- A thread leaves. -/
theorem InvX.leave0 (hi : InvX (-1) m) {n : Int} (hn : m.isT n = true) : InvX n (m.leave0 n) := by
  have hc := hi.co hn
  have hok := hi.ok
  obtain ⟨c0, c1⟩ := isC_iff.1 hc
  have hcr := hi.ok.cores
  obtain ⟨n0, _, _⟩ := isT_get hn
  have neg : ∀ k, m.isT k = true → k ≠ -1 := fun k hk => by have := (isT_get hk).1; omega
  unfold Mt.leave0
  split
  · rename_i hs
    refine ⟨hi.ok.setQ (takeR_ids hok.qline), hi.pr, hi.le, fun c => ?_, fun c hc2 p k => ?_, fun c hc2 k hk => ?_⟩
    · rw [q_setQ hc]; split
      · exact take_ok (hi.qok _)
      · exact hi.qok c
    · rw [setQ_isC] at hc2
      rw [q_setQ hc, setQ_th, setQ_isT]
      split
      · rename_i e
        subst e
        rw [take_mem, hi.inq _ hc]
        constructor
        · rintro ⟨⟨h1, h2, h3⟩, h4⟩; exact ⟨h1, h4, h3⟩
        · rintro ⟨h1, h4, h3⟩; exact ⟨⟨h1, neg k h1, h3⟩, h4⟩
      · rename_i e
        rw [hi.inq _ hc2]
        constructor
        · rintro ⟨h1, h2, h3⟩; exact ⟨h1, fun e2 => e (by rw [← h3.1, e2]), h3⟩
        · rintro ⟨h1, h4, h3⟩; exact ⟨h1, neg k h1, h3⟩
    · rw [setQ_isC] at hc2
      rw [setQ_run, setQ_th, hi.inr c hc2 k hk]
      constructor
      · rintro ⟨h1, h2, h3⟩; exact ⟨fun e => by rw [e, hs] at h3; omega, h2, h3⟩
      · rintro ⟨h1, h3⟩; exact ⟨neg k hk, h3⟩
  · rename_i hs1
    split
    · rename_i hs
      refine ⟨hi.ok.setR (.inl rfl), hi.pr, hi.le, hi.qok, fun c hc2 p k => ?_, fun c hc2 k hk => ?_⟩
      · rw [setR_isC] at hc2
        rw [setR_q, setR_th, setR_isT, hi.inq c hc2]
        constructor
        · rintro ⟨h1, h2, h3, h4, h5⟩; exact ⟨h1, fun e => by rw [e, hs] at h4; omega, h3, h4, h5⟩
        · rintro ⟨h1, h2, h3⟩; exact ⟨h1, neg k h1, h3⟩
      · rw [setR_isC] at hc2
        rw [setR_isT] at hk
        rw [run_setR c0 (by omega), setR_th]
        split
        · rename_i e
          constructor
          · intro e2; exact absurd e2.symm (neg k hk)
          · rintro ⟨h1, h2, h3⟩
            have a1 := (hi.inr c hc2 k hk).2 ⟨neg k hk, h2, h3⟩
            have a2 := (hi.inr c hc2 n hn).2 ⟨neg n hn, e.symm, hs⟩
            exact absurd (a1.symm.trans a2) h1
        · rename_i e
          rw [hi.inr c hc2 k hk]
          constructor
          · rintro ⟨h1, h2, h3⟩; exact ⟨fun e2 => e (by rw [← h2, e2]), h2, h3⟩
          · rintro ⟨h1, h3⟩; exact ⟨neg k hk, h3⟩
    · rename_i hs2
      refine ⟨hi.ok, hi.pr, hi.le, hi.qok, fun c hc2 p k => ?_, fun c hc2 k hk => ?_⟩
      · rw [hi.inq c hc2]
        constructor
        · rintro ⟨h1, h2, h3, h4, h5⟩; exact ⟨h1, fun e => by rw [e] at h4; exact hs1 h4, h3, h4, h5⟩
        · rintro ⟨h1, h2, h3⟩; exact ⟨h1, neg k h1, h3⟩
      · rw [hi.inr c hc2 k hk]
        constructor
        · rintro ⟨h1, h2, h3⟩; exact ⟨fun e => by rw [e] at h3; exact hs2 h3, h2, h3⟩
        · rintro ⟨h1, h3⟩; exact ⟨neg k hk, h3⟩
theorem InvX.set {n : Int} (hi : InvX n m) (hn : m.isT n = true) {t : Thd} (h1 : 0 ≤ t.co ∧ t.co < m.qs.length) (h2 : 0 ≤ t.pr ∧ t.pr < 256) (h3 : 1 ≤ t.le ∧ t.le ≤ 5) : InvX n (m.setTh n t) := by
  refine ⟨hi.ok.setTh h1 rfl, fun k hk => ?_, fun k hk => ?_, hi.qok, fun c hc p k => ?_, fun c hc k hk => ?_⟩
  · rw [th_setTh hn]; rw [setTh_isT] at hk; split
    · exact h2
    · exact hi.pr k hk
  · rw [th_setTh hn]; rw [setTh_isT] at hk; split
    · exact h3
    · exact hi.le k hk
  · rw [setTh_q, setTh_isT, th_setTh hn, hi.inq c hc]
    by_cases e : k = n
    · subst e; exact ⟨fun h => absurd rfl h.2.1, fun h => absurd rfl h.2.1⟩
    · rw [if_neg e]
  · rw [setTh_isT] at hk
    rw [setTh_run, th_setTh hn, hi.inr c hc k hk]
    by_cases e : k = n
    · subst e; exact ⟨fun h => absurd rfl h.1, fun h => absurd rfl h.1⟩
    · rw [if_neg e]
theorem leave0_th {n k : Int} : (m.leave0 n).th k = m.th k := by unfold Mt.th; rw [leave0_len.1]
theorem leave0_isT {n k : Int} : (m.leave0 n).isT k = m.isT k := by unfold Mt.isT; rw [leave0_len.1]
theorem leave0_isC {n k : Int} : (m.leave0 n).isC k = m.isC k := by unfold Mt.isC; rw [leave0_len.2]
theorem InvX.leave (hi : InvX (-1) m) {n s : Int} (hn : m.isT n = true) : InvX n (m.leave n s) := by
  unfold Mt.leave
  have h0 := hi.leave0 hn
  have hn0 : (m.leave0 n).isT n = true := by rw [leave0_isT]; exact hn
  refine h0.set hn0 ?_ (hi.pr n hn) (hi.le n hn)
  rw [leave0_len.2]; exact (hi.ok.th hn).1
theorem th_leave {n s k : Int} (hn : m.isT n = true) : (m.leave n s).th k = if k = n then { m.th n with st := s } else m.th k := by
  unfold Mt.leave
  rw [th_setTh (by rw [leave0_isT]; exact hn), leave0_th]
theorem th_lineUp {n k : Int} (hn : m.isT n = true) : (m.lineUp n).th k = if k = n then { m.th n with st := 1 } else m.th k := by
  unfold Mt.lineUp
  rw [setQ_th, th_setTh hn]
theorem InvX.noq {n : Int} (hi : InvX n m) {c : Int} (hc : m.isC c = true) : wh (m.q c) n = none := wh_none.2 fun x hx e => by
  obtain ⟨p, k⟩ := x
  exact ((hi.inq c hc p k).1 hx).2.1 e
/-- It is lined up. -/
theorem InvX.up {n : Int} (hi : InvX n m) (hn : m.isT n = true) : InvX (-1) (m.lineUp n) := by
  have hc := hi.co hn
  have hw := hi.noq hc
  have hp := hi.pr n hn
  have hok := hi.ok.lineUp hn
  have hids := ids_len (hi.qok _) (hi.ok.qline (c := (m.th n).co))
  have hfew := hi.ok.few
  have neg : ∀ k, m.isT k = true → k ≠ -1 := fun k hk => by have := (isT_get hk).1; omega
  have hput : (putR (m.q (m.th n).co) (m.th n).pr n).2 = m.q (m.th n).co ++ [((m.th n).pr.toNat, n)] := by
    unfold putR; rw [if_neg (by omega), hw]
  have hpt : ((m.th n).pr.toNat : Int) = (m.th n).pr := by omega
  have hc1 : (m.setTh n { m.th n with st := 1 }).isC (m.th n).co = true := hc
  refine ⟨hok, fun k hk => ?_, fun k hk => ?_, fun c => ?_, fun c hc2 p k => ?_, fun c hc2 k hk => ?_⟩
  · rw [th_lineUp hn]; rw [lineUp_isT] at hk; split
    · exact hp
    · exact hi.pr k hk
  · rw [th_lineUp hn]; rw [lineUp_isT] at hk; split
    · exact hi.le n hn
    · exact hi.le k hk
  · unfold Mt.lineUp
    rw [q_setQ hc1, hput, setTh_q]
    split
    · exact put_ok (hi.qok _) (by omega) hw (by omega)
    · exact hi.qok c
  · rw [lineUp_isC] at hc2
    rw [lineUp_isT, th_lineUp hn]
    have e0 : (m.lineUp n).q c = if c = (m.th n).co then m.q (m.th n).co ++ [((m.th n).pr.toNat, n)] else m.q c := by
      unfold Mt.lineUp
      rw [q_setQ hc1, hput, setTh_q]
    rw [e0]
    by_cases e : c = (m.th n).co
    · subst e
      rw [if_pos rfl, List.mem_append, List.mem_singleton, hi.inq _ hc2]
      by_cases ek : k = n
      · subst ek
        rw [if_pos rfl]
        constructor
        · rintro (h | h)
          · exact absurd rfl h.2.1
          · cases h; exact ⟨hn, neg k hn, rfl, rfl, hpt.symm⟩
        · rintro ⟨_, _, _, _, h5⟩
          refine .inr ?_
          have : (m.th k).pr.toNat = p := by have h5 : (m.th k).pr = p := h5; omega
          rw [this]
      · rw [if_neg ek]
        constructor
        · rintro (⟨h1, h2, h3⟩ | h)
          · exact ⟨h1, neg k h1, h3⟩
          · cases h; exact absurd rfl ek
        · rintro ⟨h1, h2, h3⟩; exact .inl ⟨h1, ek, h3⟩
    · rw [if_neg e, hi.inq _ hc2]
      by_cases ek : k = n
      · subst ek
        rw [if_pos rfl]
        exact ⟨fun h => absurd rfl h.2.1, fun h => absurd h.2.2.1.symm e⟩
      · rw [if_neg ek]
        exact ⟨fun h => ⟨h.1, neg k h.1, h.2.2⟩, fun h => ⟨h.1, ek, h.2.2⟩⟩
  · rw [lineUp_isC] at hc2
    rw [lineUp_isT] at hk
    rw [th_lineUp hn]
    show m.run c = k ↔ _
    rw [hi.inr c hc2 k hk]
    by_cases ek : k = n
    · subst ek
      rw [if_pos rfl]
      exact ⟨fun h => absurd rfl h.1, fun h => absurd (show (1 : Int) = 2 from h.2.2) (by decide)⟩
    · rw [if_neg ek]
      exact ⟨fun h => ⟨neg k hk, h.2⟩, fun h => ⟨ek, h.2⟩⟩
theorem InvX.still {n : Int} (hi : InvX n m) (h1 : (m.th n).st ≠ 1) (h2 : (m.th n).st ≠ 2) : InvX (-1) m := by
  have neg : ∀ k, m.isT k = true → k ≠ -1 := fun k hk => by have := (isT_get hk).1; omega
  refine ⟨hi.ok, hi.pr, hi.le, hi.qok, fun c hc p k => ?_, fun c hc k hk => ?_⟩
  · rw [hi.inq c hc]
    exact ⟨fun h => ⟨h.1, neg k h.1, h.2.2⟩, fun h => ⟨h.1, fun e => h1 (by rw [← e]; exact h.2.2.2.1), h.2.2⟩⟩
  · rw [hi.inr c hc k hk]
    exact ⟨fun h => ⟨neg k hk, h.2⟩, fun h => ⟨fun e => h2 (by rw [← e]; exact h.2.2), h.2⟩⟩
theorem InvX.out {n : Int} (hi : InvX (-1) m) (h1 : (m.th n).st ≠ 1) (h2 : (m.th n).st ≠ 2) : InvX n m := by
  have neg : ∀ k, m.isT k = true → k ≠ -1 := fun k hk => by have := (isT_get hk).1; omega
  refine ⟨hi.ok, hi.pr, hi.le, hi.qok, fun c hc p k => ?_, fun c hc k hk => ?_⟩
  · rw [hi.inq c hc]
    exact ⟨fun h => ⟨h.1, fun e => h1 (by rw [← e]; exact h.2.2.2.1), h.2.2⟩, fun h => ⟨h.1, neg k h.1, h.2.2⟩⟩
  · rw [hi.inr c hc k hk]
    exact ⟨fun h => ⟨fun e => h2 (by rw [← e]; exact h.2.2), h.2⟩, fun h => ⟨neg k hk, h.2⟩⟩
theorem InvX.go {n c : Int} (hi : InvX n m) (hn : m.isT n = true) (h1 : (m.th n).st = 2) (h2 : (m.th n).co = c) (hc : m.isC c = true) (hr : m.run c = -1) : InvX (-1) (m.setR c n) := by
  have neg : ∀ k, m.isT k = true → k ≠ -1 := fun k hk => by have := (isT_get hk).1; omega
  obtain ⟨c0, c1⟩ := isC_iff.1 hc
  have hcr := hi.ok.cores
  refine ⟨hi.ok.setRT hn, hi.pr, hi.le, hi.qok, fun d hd p k => ?_, fun d hd k hk => ?_⟩
  · rw [setR_isC] at hd
    rw [setR_q, setR_isT, setR_th, hi.inq d hd]
    exact ⟨fun h => ⟨h.1, neg k h.1, h.2.2⟩, fun h => ⟨h.1, fun e => by rw [e, h1] at h; exact absurd h.2.2.2.1 (by decide), h.2.2⟩⟩
  · rw [setR_isC] at hd
    rw [setR_isT] at hk
    rw [run_setR c0 (by omega), setR_th]
    by_cases e : d = c
    · subst e
      rw [if_pos rfl]
      constructor
      · intro e2; subst e2; exact ⟨neg _ hk, h2, h1⟩
      · rintro ⟨h3, h4⟩
        by_cases ek : k = n
        · exact ek.symm
        · have := (hi.inr d hd k hk).2 ⟨ek, h4⟩
          rw [hr] at this
          exact absurd this.symm (neg k hk)
    · rw [if_neg e, hi.inr d hd k hk]
      exact ⟨fun h => ⟨neg k hk, h.2⟩, fun h => ⟨fun e2 => e (by rw [← h.2.1, e2, h2]), h.2⟩⟩
/-- A thread's numbers turn that have nothing to do with where it stands. -/
theorem InvX.keep (hi : InvX (-1) m) {n : Int} (hn : m.isT n = true) {t : Thd} (h1 : t.co = (m.th n).co) (h2 : t.st = (m.th n).st) (h3 : (m.th n).st = 1 → t.pr = (m.th n).pr) (h4 : 0 ≤ t.pr ∧ t.pr < 256) (h5 : 1 ≤ t.le ∧ t.le ≤ 5) : InvX (-1) (m.setTh n t) := by
  refine ⟨hi.ok.setTh (by rw [h1]; exact (hi.ok.th hn).1) rfl, fun k hk => ?_, fun k hk => ?_, hi.qok, fun c hc p k => ?_, fun c hc k hk => ?_⟩
  · rw [th_setTh hn]; rw [setTh_isT] at hk; split
    · exact h4
    · exact hi.pr k hk
  · rw [th_setTh hn]; rw [setTh_isT] at hk; split
    · exact h5
    · exact hi.le k hk
  · rw [setTh_q, setTh_isT, th_setTh hn, hi.inq c hc]
    by_cases e : k = n
    · subst e
      rw [if_pos rfl, h1, h2]
      exact ⟨fun h => ⟨h.1, h.2.1, h.2.2.1, h.2.2.2.1, by rw [h3 h.2.2.2.1]; exact h.2.2.2.2⟩, fun h => ⟨h.1, h.2.1, h.2.2.1, h.2.2.2.1, by rw [← h3 h.2.2.2.1]; exact h.2.2.2.2⟩⟩
    · rw [if_neg e]
  · rw [setTh_isT] at hk
    rw [setTh_run, th_setTh hn, hi.inr c hc k hk]
    by_cases e : k = n
    · subst e; rw [if_pos rfl, h1, h2]
    · rw [if_neg e]
theorem th_make {p c k : Int} : (m.make p c).th k = if k = (m.ths.length : Int) then ⟨0, p, c, 5, fun _ => 0⟩ else m.th k := by
  unfold Mt.th Mt.make
  by_cases hk : k < 0
  · rw [if_pos hk, if_neg (by omega), if_pos hk]
  · rw [if_neg hk]
    simp only
    by_cases e : k = (m.ths.length : Int)
    · subst e; rw [if_pos rfl, Int.toNat_natCast, List.getElem?_append_right (Nat.le_refl _), Nat.sub_self]; rfl
    · rw [if_neg e, if_neg hk]
      by_cases e2 : k.toNat < m.ths.length
      · rw [List.getElem?_append_left e2]
      · rw [List.getElem?_eq_none (by simp; omega), List.getElem?_eq_none (by omega)]
theorem make_isT {p c k : Int} : (m.make p c).isT k = true ↔ (m.isT k = true ∨ k = (m.ths.length : Int)) := by
  unfold Mt.isT Mt.make
  simp only [List.length_append, List.length_cons, List.length_nil, Bool.and_eq_true, decide_eq_true_eq]
  omega
theorem InvX.make (hi : InvX (-1) m) {p c : Int} (hl : m.ths.length < 64) (hc : m.isC c = true) (hp : 0 ≤ p ∧ p < 256) : InvX (-1) (m.make p c) := by
  have notT : m.isT (m.ths.length : Int) ≠ true := by unfold Mt.isT; simp
  refine ⟨hi.ok.make hl hc, fun k hk => ?_, fun k hk => ?_, hi.qok, fun d hd q k => ?_, fun d hd k hk => ?_⟩
  · rw [th_make]
    rcases make_isT.1 hk with h | h
    · split
      · exact hp
      · exact hi.pr k h
    · rw [if_pos h]; exact hp
  · rw [th_make]
    rcases make_isT.1 hk with h | h
    · split
      · exact ⟨by show (1 : Int) ≤ 5; decide, by show (5 : Int) ≤ 5; decide⟩
      · exact hi.le k h
    · rw [if_pos h]; exact ⟨by show (1 : Int) ≤ 5; decide, by show (5 : Int) ≤ 5; decide⟩
  · show (q, k) ∈ m.q d ↔ _
    rw [hi.inq d hd, make_isT, th_make]
    by_cases e : k = (m.ths.length : Int)
    · rw [if_pos e, e]
      exact ⟨fun h => absurd h.1 notT, fun h => absurd (show (0 : Int) = 1 from h.2.2.2.1) (by decide)⟩
    · rw [if_neg e]
      exact ⟨fun h => ⟨.inl h.1, h.2⟩, fun h => ⟨h.1.resolve_right e, h.2⟩⟩
  · show m.run d = k ↔ _
    rw [th_make]
    by_cases e : k = (m.ths.length : Int)
    · rw [if_pos e, e]
      refine ⟨fun h => ?_, fun h => absurd (show (0 : Int) = 2 from h.2.2) (by decide)⟩
      obtain ⟨d0, d1⟩ := isC_iff.1 hd
      have d1 : d < (m.qs.length : Int) := d1
      have hcr := hi.ok.cores
      have := hi.ok.run _ (List.mem_of_getElem? (r_get (m := m) d0 (by omega)))
      omega
    · rw [if_neg e]
      exact hi.inr d hd k ((make_isT.1 hk).resolve_right e)
theorem newM_q {c : Nat} {d : Int} : (newM c).q d = [] := by
  unfold Mt.q newM
  split
  · rfl
  · simp only
    cases e : (List.replicate c ([] : Qs))[d.toNat]? with
    | none => rfl
    | some Q => have := List.mem_of_getElem? e; rw [List.mem_replicate] at this; rw [this.2]; rfl
theorem newM_run {c : Nat} {d : Int} : (newM c).run d = -1 := by
  unfold Mt.run newM
  split
  · rfl
  · simp only
    cases e : (List.replicate c (-1 : Int))[d.toNat]? with
    | none => rfl
    | some Q => have := List.mem_of_getElem? e; rw [List.mem_replicate] at this; rw [this.2]; rfl
theorem newM_isT {c : Nat} {k : Int} : (newM c).isT k ≠ true := by unfold Mt.isT newM; simp
theorem newM_inv {c : Nat} (h8 : c ≤ 8) : InvX (-1) (newM c) := by
  refine ⟨newM_ok h8, fun k hk => absurd hk newM_isT, fun k hk => absurd hk newM_isT, fun d => ?_, fun d hd p k => ?_, fun d hd k hk => absurd hk newM_isT⟩
  · rw [newM_q]; exact ⟨by simp, by simp, by simp⟩
  · rw [newM_q]; exact ⟨fun h => by simp at h, fun h => absurd h.1 newM_isT⟩
end
end Go.Proofs.Ytgkebkfabegflaa
