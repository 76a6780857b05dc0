/- Laws of layer 10. -/
import Derived.Test.YtgkebkfabegflaaTH6
import Derived.Test.YtgkebkfabegflaaS0
set_option linter.unusedVariables false
set_option linter.unusedSimpArgs false
set_option maxRecDepth 8000
namespace Go.Proofs.Ytgkebkfabegflaa
open Go Go.Vc Go.Proofs

theorem thX (a : Thd) : eqX Try.prog 9 37 (thE.enc a) (thE.enc a) = some true := by
  have h : eqX Try.prog 9 37 (thE.enc a) (thE.enc a) = some (a.st == a.st && (a.pr == a.pr && (a.co == a.co && (a.le == a.le && ((a.rg 0 == a.rg 0 && (a.rg 1 == a.rg 1 && (a.rg 2 == a.rg 2 && (a.rg 3 == a.rg 3 && (a.rg 4 == a.rg 4 && (a.rg 5 == a.rg 5 && (a.rg 6 == a.rg 6 && (a.rg 7 == a.rg 7 && true)))))))) && true))))) := by kernel_rfl
  rw [h]
  simp
theorem thNe {x y : Operand} (a : Thd) : EqB Try.prog .neq 37 x y (.agg ⟨thE.enc a⟩) (.agg ⟨thE.enc a⟩) false :=
  neB_x (x := x) (y := y) (P := Try.prog) (t := 37) (xs := thE.enc a) (ys := thE.enc a) (by kernel_rfl) (by kernel_rfl) (by kernel_rfl) (thX a)
section
variable {w0 w : World}
theorem and7 {n : Int} : ∃ q : Nat, andI .i64 n (7 : Int) = (q : Int) ∧ q < 8 := by
  have h : ∃ p : Nat, p ≤ 7 ∧ andI .i64 n (7 : Int) = (p : Int) := by
    unfold andI
    have hle : (BitVec.ofInt IntKind.i64.bits n &&& BitVec.ofInt IntKind.i64.bits (7 : Int)).toNat ≤ 7 := by
      rw [BitVec.toNat_and]
      refine Nat.le_trans Nat.and_le_right ?_
      have : (BitVec.ofInt IntKind.i64.bits (7 : Int)).toNat = 7 := by decide
      omega
    exact ⟨_, hle, wr (by omega) (by omega)⟩
  obtain ⟨p, hp, e⟩ := h
  exact ⟨p, e, by omega⟩
theorem and255 {n : Int} : ∃ q : Nat, andI .i64 n (255 : Int) = (q : Int) ∧ q < 256 := by
  have h : ∃ p : Nat, p ≤ 255 ∧ andI .i64 n (255 : Int) = (p : Int) := by
    unfold andI
    have hle : (BitVec.ofInt IntKind.i64.bits n &&& BitVec.ofInt IntKind.i64.bits (255 : Int)).toNat ≤ 255 := by
      rw [BitVec.toNat_and]
      refine Nat.le_trans Nat.and_le_right ?_
      have : (BitVec.ofInt IntKind.i64.bits (255 : Int)).toNat = 255 := by decide
      omega
    exact ⟨_, hle, wr (by omega) (by omega)⟩
  obtain ⟨p, hp, e⟩ := h
  exact ⟨p, e, by omega⟩
variable {B : Nat} {R : List Asn} {b : Nat} {m : Mt}
theorem MOk.setRT (hm : MOk m) {c n : Int} (h : m.isT n = true) : MOk (m.setR c n) := hm.setR (.inr ⟨(isT_get h).1, (isT_get h).2.1⟩)
theorem MOk.pickC (hm : MOk m) {c : Int} : MOk (m.pickC c) := by
  unfold Mt.pickC
  split
  · rename_i hc
    unfold Mt.pick
    cases hn : nextR (m.q c) with
    | none => exact hm
    | some n =>
      obtain ⟨n0, hnT⟩ := hm.nextT hn
      simp only
      split
      · exact (hm.leave hnT).setRT (by rw [leave_isT]; exact hnT)
      · rename_i h1
        split
        · exact hm
        · have hr : m.runs? c = some (m.run c) := by unfold Mt.runs?; rw [if_pos ⟨hc, h1⟩]
          have hoT := (hm.runT hr).2.2.2
          have hT2 : (m.leave (m.run c) 1).isT (m.run c) = true := by rw [leave_isT]; exact hoT
          have hT3 : ((m.leave (m.run c) 1).lineUp (m.run c)).isT n = true := by rw [lineUp_isT, leave_isT]; exact hnT
          exact (((hm.leave (s := 1) hoT).lineUp hT2).leave hT3).setRT (by rw [leave_isT]; exact hT3)
  · exact hm
theorem MOk.yield (hm : MOk m) {c : Int} : MOk (m.yield c) := by
  unfold Mt.yield
  cases hr : m.runs? c with
  | none => exact hm
  | some o =>
    have hoT := (hm.runT hr).2.2.2
    have hT1 : (m.setTh o { m.th o with le := 5 }).isT o = true := by rw [setTh_isT]; exact hoT
    exact (((hm.setTh (t := { m.th o with le := 5 }) (hm.th hoT).1 rfl).leave hT1).lineUp (by rw [leave_isT]; exact hT1)).pickC
theorem MOk.tick (hm : MOk m) {c : Int} : MOk (m.tick c) := by
  unfold Mt.tick
  cases hr : m.runs? c with
  | none => exact hm
  | some o =>
    have hoT := (hm.runT hr).2.2.2
    have hm1 := hm.setTh (n := o) (t := { m.th o with le := IntKind.i64.wrap ((m.th o).le - 1) }) (hm.th hoT).1 rfl
    simp only
    split
    · exact hm1.yield
    · exact hm1
theorem make_p {p c : Int} {K : Int → Int → World → Prop} (hm : MOk m) (hp : 0 ≤ p ∧ p < 256) (hc : m.isC c = true) (hl : m.ths.length < 64) (h : Own B w0 w (ThrA b m :: R)) (hK : ∀ w', Own B w0 w' (ThrA b (m.make p c) :: R) → K (m.ths.length : Int) 0 w') : C.threads_Threads_Make (some ⟨b, 0, none⟩) p c K w :=
  thr_Make_spec hm h (fun e => absurd ⟨hp.1, hp.2, hc⟩ e) (fun _ e => by omega) fun _ _ => hK
theorem resume_p {n : Int} {K : Int → World → Prop} (hm : MOk m) (hT : m.isT n = true) (hs : (m.th n).st = 0 ∨ (m.th n).st = 3) (h : Own B w0 w (ThrA b m :: R)) (hK : ∀ w', Own B w0 w' (ThrA b (m.lineUp n) :: R) → K 0 w') : C.threads_Threads_Resume (some ⟨b, 0, none⟩) n K w :=
  thr_Resume_spec hm h (fun e => by rw [hT] at e; cases e) (fun _ e => by omega) fun _ _ _ => hK
def fx1 : Mt := (((newM 1).make 5 0).make 5 0).make 6 0
def fx2 : Mt := (fx1.lineUp 0).lineUp 1
def fx3 : Mt := fx2.pickC 0
def tickN : Nat → Mt → Mt
  | 0, m => m
  | k + 1, m => tickN k (m.tick 0)
def fx4 : Mt := tickN 5 fx3
def fx5 : Mt := fx4.lineUp 2
def fx6 : Mt := fx5.pickC 0
def fx7 : Mt := fx6.leave 2 3
theorem tickN_ok : ∀ (k : Nat) (m : Mt), MOk m → MOk (tickN k m)
  | 0, _, h => h
  | k + 1, m, h => tickN_ok k _ h.tick
theorem law10_fixed_spec {K : Bool → World → Prop} (h : Own B w0 w R) (hK : ∀ w', Own B w0 w' R → K true w') : C.law10_fixed K w := by
  apply S.law10_fixed_ok
  unfold S.law10_fixed
  refine thr_New_spec h (fun e => absurd ⟨by decide, by decide⟩ e) fun c hc _ _ b w h => ?_
  obtain rfl : c = 1 := by omega
  have m0 : MOk (newM 1) := newM_ok (by decide)
  intro k4 hk4
  refine cbF rfl (hk4 _ _ (cbF (by decide) ?_))
  intro l7 hl7
  refine hl7 _ _ (cdecT (by decide) ⟨by decide, ?_⟩)
  refine make_p (m := newM 1) (p := 5) m0 (by decide) (by kernel_rfl) (by decide) h fun w h => ?_
  have m1 := m0.make (p := 5) (c := 0) (by decide) (by kernel_rfl)
  rw [show IntKind.i64.wrap ((0 : Int) + 1) = 1 from by decide]
  refine hl7 _ _ (cdecT (by decide) ⟨by decide, ?_⟩)
  refine make_p (p := 5) m1 (by decide) (by kernel_rfl) (by decide) h fun w h => ?_
  have m2 := m1.make (p := 5) (c := 0) (by decide) (by kernel_rfl)
  rw [show IntKind.i64.wrap ((1 : Int) + 1) = 2 from by decide]
  refine hl7 _ _ (cdecT (by decide) ⟨by decide, ?_⟩)
  refine make_p (p := 6) m2 (by decide) (by kernel_rfl) (by decide) h fun w h => ?_
  have m3 : MOk fx1 := m2.make (p := 6) (c := 0) (by decide) (by kernel_rfl)
  have h : Own B w0 w (ThrA b fx1 :: R) := h
  rw [show IntKind.i64.wrap ((2 : Int) + 1) = 3 from by decide]
  refine hl7 _ _ (cdecF (by decide) ?_)
  have t0 : fx1.isT 0 = true := by kernel_rfl
  refine resume_p (n := 0) m3 t0 (.inl (by kernel_rfl)) h fun w h => ?_
  have m4 := m3.lineUp t0
  have t1 : (fx1.lineUp 0).isT 1 = true := by kernel_rfl
  refine resume_p (n := 1) m4 t1 (.inl (by kernel_rfl)) h fun w h => ?_
  have m5 : MOk fx2 := m4.lineUp t1
  have h : Own B w0 w (ThrA b fx2 :: R) := h
  refine thr_Pick_spec m5 h fun w h => ?_
  have m6 : MOk fx3 := m5.pickC
  have h : Own B w0 w (ThrA b fx3 :: R) := h
  intro l20 hl20
  have loop : ∀ (j k : Nat) (m : Mt) (w : World), k + j = 5 → MOk m → tickN j m = fx4 → Own B w0 w (ThrA b m :: R) → l20 (k : Int) w := by
    intro j
    induction j with
    | succ j ih =>
      intro k m w hk hm ht h
      apply hl20
      refine cdecT (by omega) ?_
      refine thr_Tick_spec hm h fun w h => ?_
      rw [show IntKind.i64.wrap ((k : Int) + 1) = ((k + 1 : Nat) : Int) from by rw [wr (by omega) (by omega)]; omega]
      exact ih (k + 1) (m.tick 0) w (by omega) hm.tick ht h
    | zero =>
      intro k m w hk hm ht h
      apply hl20
      refine cdecF (by omega) ?_
      have ht : m = fx4 := ht
      subst ht
      refine thr_Runs_spec (c := 0) hm h fun w h => ?_
      have t2 : fx4.isT 2 = true := by kernel_rfl
      refine resume_p (n := 2) hm t2 (.inl (by kernel_rfl)) h fun w h => ?_
      have m8 : MOk fx5 := hm.lineUp t2
      have h : Own B w0 w (ThrA b fx5 :: R) := h
      refine thr_Pick_spec m8 h fun w h => ?_
      have m9 : MOk fx6 := m8.pickC
      have h : Own B w0 w (ThrA b fx6 :: R) := h
      refine thr_Get_spec h fun w t et h => ?_
      have hst : t.st = 2 := by rw [et]; kernel_rfl
      have t6 : fx6.isT 2 = true := by kernel_rfl
      refine h.al fun w2 h => ?_
      generalize w.heap.size = d at h ⊢
      refine h.stLc rfl rfl fun w h => ?_
      (dsimp only [putAt, List.set_cons_zero, List.set_cons_succ] at h)
      refine thr_Resume_spec m9 (h.pick (A := ThrA b fx6)) (fun e => by rw [t6] at e; cases e) (fun _ _ w h => ?_) (fun _ e1 e2 => absurd (show (fx6.th 2).st = 2 from by kernel_rfl) e2)
      refine thr_Block_spec m9 h (fun e => by rw [t6] at e; cases e) (fun _ e => absurd (show (fx6.th 2).st = 2 from by kernel_rfl) e) (fun _ _ w h => ?_)
      have m10 : MOk fx7 := m9.leave t6
      have h : Own B w0 w (ThrA b fx7 :: _) := h
      refine thr_Get_spec h fun w t2 et2 h => ?_
      refine h.al fun w2 h => ?_
      generalize w.heap.size = d2 at h ⊢
      refine h.stLc rfl rfl fun w h => ?_
      (dsimp only [putAt, List.set_cons_zero, List.set_cons_succ] at h)
      refine thr_New_spec h (fun _ w h => ?_) (fun c hc _ h8 => by omega)
      refine thr_Make_spec m10 (h.pick (A := ThrA b fx7)) (fun _ w h => ?_) (fun e => by omega) (fun e => by omega)
      refine ceqT rfl (ceqT rfl (ceqT (by kernel_rfl) (cbT (by kernel_rfl) (ceqT (by kernel_rfl) (cbT (by kernel_rfl) (ceqT rfl (ceqT (by kernel_rfl) (cbT (by kernel_rfl) ?_))))))))
      refine ⟨_, h.ldc rfl, ceqT hst ?_⟩
      refine ceqT (by kernel_rfl) (ceqT rfl (ceqT rfl (ceqT (by kernel_rfl) (ceqT rfl (ceqT rfl ?_)))))
      refine thr_Line_spec (c := 0) (p := 5) (h.pick (A := ThrA b fx7)) fun s w h => ?_
      have el : (if fx7.isC 0 then lineI (fx7.q 0) 5 else []) = [0, 1] := by kernel_rfl
      rw [el] at h
      refine h.al fun w2 h => ?_
      generalize w.heap.size = d3 at h ⊢
      have h : Own B w0 w2 (SlT intE ⟨some ⟨d3, 0, none⟩, 2, 2⟩ [0, 1] :: _) := h.asSl [0, 1] rfl
      refine ref09_Nums_spec (xs := [0, 1]) (ys := [0, 1]) h 1 0 rfl rfl (by decide) fun w h => ?_
      rw [decide_eq_true rfl]
      exact hK w h.sub
  exact loop 5 0 fx3 w rfl m6 rfl h
end
end Go.Proofs.Ytgkebkfabegflaa
