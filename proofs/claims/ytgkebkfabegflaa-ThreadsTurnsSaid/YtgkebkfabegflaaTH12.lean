/- Laws of layer 10: the turns of those of one prio. -/
import Derived.Test.YtgkebkfabegflaaTH11
import Derived.Test.YtgkebkfabegflaaS0
set_option linter.unusedVariables false
set_option linter.unusedSimpArgs false
set_option maxRecDepth 8000
namespace Go.Proofs.Ytgkebkfabegflaa
open Go Go.Vc Go.Proofs

theorem tu_runs {N p r l : Nat} : (tuM N p r l).runs? 1 = some (r : Int) := by
  unfold Mt.runs?
  rw [if_pos ⟨rfl, by show (r : Int) ≠ -1; omega⟩]; rfl
theorem tu_runs0 {N p r l : Nat} : (tuM N p r l).runs? 0 = none := by
  unfold Mt.runs?
  rw [if_neg (by rintro ⟨_, h⟩; exact h rfl)]
theorem ma_new {p i : Nat} : ((maM p i).make (p : Int) 1).isT (i : Int) = true ∧ (((maM p i).make (p : Int) 1).th (i : Int)).st = 0 := by
  constructor
  · unfold Mt.isT Mt.make maM; simp; omega
  · unfold Mt.th Mt.make maM
    rw [if_neg (by omega)]
    simp
theorem law10_ThreadsTurns_spec {w0 w : World} {n p0 : Int} {K : Bool → World → Prop} (w1 : (Lit.int .i64 n).wf = true) (w2 : (Lit.int .i64 p0).wf = true) (h : Own w0.heap.size w0 w []) (hK : ∀ w', Own w0.heap.size w0 w' [] → K true w') : C.law10_ThreadsTurns n p0 K w := by
  apply S.law10_ThreadsTurns_ok
  unfold S.law10_ThreadsTurns
  obtain ⟨q, hq, hq8⟩ := and7 (n := n)
  obtain ⟨p, hp, hp2⟩ := and255 (n := p0)
  have hc0 : IntKind.i64.wrap ((1 : Int) + (q : Int)) = ((q + 1 : Nat) : Int) := by rw [wr (by omega) (by omega)]; omega
  rw [hq, hp, hc0]
  generalize hN : q + 1 = N
  have h1 : 1 ≤ N := by omega
  have h8 : N ≤ 8 := by omega
  refine thr_New_spec h (fun e => absurd ⟨by decide, by decide⟩ e) fun c hc _ _ b w h => ?_
  obtain rfl : c = 2 := by omega
  have m0 : MOk (maM p 0) := newM_ok (c := 2) (by decide)
  have h : Own w0.heap.size w0 w [ThrA b (maM p 0)] := h
  intro k6 hk6
  refine cbF rfl (hk6 _ _ (cbF (by decide) ?_))
  intro l9 hl9
  have loop : ∀ (m i : Nat) (w : World), i + m = N → MOk (maM p i) → Own w0.heap.size w0 w [ThrA b (maM p i)] → l9 (i : Int) w := by
    intro m
    induction m with
    | succ m ih =>
      intro i w hi hm h
      apply hl9
      refine cdecT (by omega) ?_
      have hlen : (maM p i).ths.length = i := by simp [maM]
      refine make_p (c := 1) hm ⟨by omega, by omega⟩ rfl (by rw [hlen]; omega) h fun w h => ?_
      have hm1 := hm.make (p := (p : Int)) (c := 1) (by rw [hlen]; omega) rfl
      intro k15 hk15
      refine cneF rfl (cneF (by rw [hlen]) ?_)
      refine resume_p hm1 ma_new.1 (.inl ma_new.2) h fun w h => ?_
      have hm2 := hm1.lineUp ma_new.1
      rw [ma_step hp2 (by omega)] at h hm2
      refine hk15 _ _ (cbF (by decide) ?_)
      rw [show IntKind.i64.wrap ((i : Int) + 1) = ((i + 1 : Nat) : Int) from by rw [wr (by omega) (by omega)]; omega]
      exact ih (i + 1) w (by omega) hm2 h
    | zero =>
      intro i w hi hm h
      obtain rfl : i = N := by omega
      apply hl9
      refine cdecF (by omega) ?_
      refine thr_Pick_spec (c := 1) hm h fun w h => ?_
      have hm1 := hm.pickC (c := 1)
      rw [ma_pick hp2 h1 h8] at h hm1
      intro l23 hl23
      have loop2 : ∀ (m j : Nat) (w : World), j + m = 100 → MOk (tuM i p ((j / 5) % i) (5 - j % 5)) → Own w0.heap.size w0 w [ThrA b (tuM i p ((j / 5) % i) (5 - j % 5))] → l23 (j : Int) w := by
        intro m
        induction m with
        | zero =>
          intro j w hj hm h
          apply hl23
          refine cdecF (by omega) ?_
          refine thr_Runs_spec (c := 0) hm h fun w h => ?_
          rw [tu_runs0]
          refine cbT rfl ?_
          refine thr_Tick_spec (c := 0) hm h fun w h => ?_
          rw [tu_runs0]
          refine cbT rfl ?_
          exact law10_fixed_spec h fun w h => hK _ h.sub
        | succ m ih =>
          intro j w hj hm h
          apply hl23
          refine cdecT (by omega) ?_
          refine thr_Runs_spec (c := 1) hm h fun w h => ?_
          rw [tu_runs]
          intro k29 hk29
          refine cbF rfl ⟨by decide, by omega, ?_⟩
          have hlt := Nat.mod_lt (j / 5) (show 0 < i by omega)
          refine cneF ?_ ?_
          · rw [Int.tdiv_eq_ediv_of_nonneg (by omega), show IntKind.i64.wrap ((j : Int) / 5) = ((j / 5 : Nat) : Int) from by rw [wr (by omega) (by omega)]; omega, Int.tmod_eq_emod_of_nonneg (by omega)]
            rfl
          refine thr_Tick_spec (c := 1) hm h fun w h => ?_
          rw [tu_runs]
          refine hk29 _ _ (cbF rfl ?_)
          rw [show IntKind.i64.wrap ((j : Int) + 1) = ((j + 1 : Nat) : Int) from by rw [wr (by omega) (by omega)]; omega]
          have hm1 := hm.tick (c := 1)
          have e : (tuM i p ((j / 5) % i) (5 - j % 5)).tick 1 = tuM i p (((j + 1) / 5) % i) (5 - (j + 1) % 5) := by
            by_cases e5 : j % 5 = 4
            · rw [show 5 - j % 5 = 1 from by omega, tu_turn hp2 h1 h8 hlt, show (j + 1) / 5 = j / 5 + 1 from by omega, show 5 - (j + 1) % 5 = 5 from by omega, Nat.mod_add_mod]
            · rw [tu_down h1 h8 hlt (by omega) (by omega), show (j + 1) / 5 = j / 5 from by omega, show 5 - (j + 1) % 5 = 5 - j % 5 - 1 from by omega]
          rw [e] at h hm1
          exact ih (j + 1) w (by omega) hm1 h
      have e0 : (0 / 5) % i = 0 := by simp
      refine loop2 100 0 w (by omega) ?_ ?_
      · rw [e0]; exact hm1
      · rw [e0]; exact h
  exact loop N 0 w (by omega) m0 h
end Go.Proofs.Ytgkebkfabegflaa
