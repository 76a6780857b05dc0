/- Laws of layer 10: as many as there can be. -/
import Derived.Test.YtgkebkfabegflaaTH7
import Derived.Test.YtgkebkfabegflaaS0
set_option linter.unusedVariables false
set_option linter.unusedSimpArgs false
set_option maxRecDepth 8000
namespace Go.Proofs.Ytgkebkfabegflaa
open Go Go.Vc Go.Proofs

section
variable {w0 w : World}
def fullM (c p i : Nat) : Mt := ⟨(List.range i).map fun j => ⟨0, (p : Int), ((j % c : Nat) : Int), 5, fun _ => 0⟩, List.replicate c [], List.replicate c (-1)⟩
theorem fullM_make {c p i : Nat} : (fullM c p i).make (p : Int) ((i % c : Nat) : Int) = fullM c p (i + 1) := by
  unfold Mt.make fullM
  simp [List.range_succ]
theorem fullM_ok {c p : Nat} (h1 : 1 ≤ c) (h8 : c ≤ 8) : ∀ i, i ≤ 64 → MOk (fullM c p i)
  | 0, _ => newM_ok h8
  | i + 1, h => by
    have := (fullM_ok (p := p) h1 h8 i (by omega)).make (p := (p : Int)) (c := ((i % c : Nat) : Int)) (by simp [fullM]; omega) (isC_iff.2 ⟨by omega, by
      have := Nat.mod_lt i (show 0 < c by omega)
      simp [fullM]; omega⟩)
    rw [fullM_make] at this
    exact this
theorem fullM_len {c p i : Nat} : (fullM c p i).ths.length = i := by simp [fullM]
theorem law10_ThreadsFull_spec {n p0 : Int} {K : Bool → World → Prop} (w1 : (Lit.int .i64 n).wf = true) (w2 : (Lit.int .i64 p0).wf = true) (h : Own w0.heap.size w0 w []) (hK : ∀ w', Own w0.heap.size w0 w' [] → K true w') : C.law10_ThreadsFull n p0 K w := by
  apply S.law10_ThreadsFull_ok
  unfold S.law10_ThreadsFull
  obtain ⟨q, hq, hq8⟩ := and7 (n := n)
  obtain ⟨p, hp, hp2⟩ := and255 (n := p0)
  have hc0 : IntKind.i64.wrap ((1 : Int) + (q : Int)) = ((q + 1 : Nat) : Int) := by rw [wr (by omega) (by omega)]; omega
  rw [hq, hp, hc0]
  generalize hc : q + 1 = c
  have hc1 : 1 ≤ c := by omega
  have hc8 : c ≤ 8 := by omega
  refine thr_New_spec h (fun e => absurd ⟨by omega, by omega⟩ e) fun c' hc' _ _ b w h => ?_
  obtain rfl : c = c' := by omega
  intro k6 hk6
  refine cbF rfl (hk6 _ _ (cbF (by decide) ?_))
  intro l9 hl9
  have loop : ∀ (m i : Nat) (w : World), i + m = 64 → Own w0.heap.size w0 w [ThrA b (fullM c p i)] → l9 (i : Int) w := by
    intro m
    induction m with
    | zero =>
      intro i w hi h
      obtain rfl : i = 64 := by omega
      apply hl9
      refine cdecF (by omega) ?_
      have hm := fullM_ok (p := p) hc1 hc8 64 (by omega)
      refine thr_Make_spec hm h (fun e => absurd ⟨by omega, by omega, isC_iff.2 ⟨by omega, by simp [fullM]; omega⟩⟩ e) (fun _ _ w h => ?_) (fun _ e => by rw [fullM_len] at e; omega)
      have hT : (fullM c p 64).isT 64 = false := by unfold Mt.isT; rw [fullM_len]; decide
      refine thr_Get_spec h fun w t et h => ?_
      rw [hT]
      refine h.al fun w2 h => ?_
      generalize w.heap.size = d at h ⊢
      refine h.stLc rfl rfl fun w h => ?_
      refine ceqT rfl (ceqT rfl ?_)
      exact law10_fixed_spec h fun w h => hK _ h.sub
    | succ m ih =>
      intro i w hi h
      have htm : (i : Int).tmod (c : Int) = ((i % c : Nat) : Int) := by rw [Int.tmod_eq_emod_of_nonneg (by omega)]; rfl
      have hlt := Nat.mod_lt i (show 0 < c by omega)
      have hm := fullM_ok (p := p) hc1 hc8 i (by omega)
      have hm2 := fullM_ok (p := p) hc1 hc8 (i + 1) (by omega)
      apply hl9
      refine cdecT (by omega) ⟨by omega, ?_⟩
      rw [htm]
      refine make_p hm ⟨by omega, by omega⟩ (isC_iff.2 ⟨by omega, by simp [fullM]; omega⟩) (by rw [fullM_len]; omega) h fun w h => ?_
      rw [fullM_make] at h
      rw [fullM_len]
      have hT : (fullM c p (i + 1)).isT (i : Int) = true := by unfold Mt.isT; rw [fullM_len]; simp; omega
      refine thr_Get_spec h fun w t et h => ?_
      have ett : t = ⟨0, (p : Int), ((i % c : Nat) : Int), 5, fun _ => 0⟩ := by
        rw [et, if_pos hT]
        unfold Mt.th
        rw [if_neg (by omega)]
        simp [fullM]
      subst ett
      rw [hT]
      refine h.al fun w2 h => ?_
      generalize w.heap.size = d at h ⊢
      refine h.stLc rfl rfl fun w h => ?_
      intro k31 hk31
      refine h.dr fun w h => ?_
      refine cneF rfl (cneF rfl (cneF rfl ?_))
      refine h.lc_12 rfl ?_
      refine ⟨by omega, _, thNe ⟨0, (p : Int), ((i % c : Nat) : Int), 5, fun _ => 0⟩, hk31 _ _ (cbF rfl ?_)⟩
      rw [show IntKind.i64.wrap ((i : Int) + 1) = ((i + 1 : Nat) : Int) from by rw [wr (by omega) (by omega)]; omega]
      exact ih (i + 1) w (by omega) h.sub
  exact loop 64 0 w (by omega) h
end
end Go.Proofs.Ytgkebkfabegflaa
