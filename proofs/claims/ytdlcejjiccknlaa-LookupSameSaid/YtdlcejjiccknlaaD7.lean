/- Laws of layer 5: SlotsMoves, SlotsDrops. -/
import Derived.Test.YtdlcejjiccknlaaD6
import Derived.Test.YtdlcejjiccknlaaS0
set_option linter.unusedVariables false
set_option linter.unusedSimpArgs false
set_option maxRecDepth 8000
namespace Go.Proofs.Ytdlcejjiccknlaa
open Go Go.Vc Go.Proofs

theorem move_ok {bits : List Int} {H : Hs} {x y : Slot} (h : (moveN bits H x y).1 = 0) : thereB bits x = true ∧ thereB bits y = true ∧ ∃ c, H x = some c ∧ H y = none ∧ moveN bits H x y = (0, updH (updH H x none) y (some c)) := by
  unfold moveN at h ⊢
  split at h
  · exact absurd h (by simp)
  · rename_i hn
    rw [if_neg hn]
    have h1 : thereB bits x = true := by cases e : thereB bits x with | true => rfl | false => exact absurd (.inl e) hn
    have h2 : thereB bits y = true := by cases e : thereB bits y with | true => rfl | false => exact absurd (.inr e) hn
    cases hx : H x with
    | none => rw [hx] at h; exact absurd h (by simp)
    | some c =>
      rw [hx] at h
      dsimp only at h ⊢
      cases hy : H y with
      | some d => rw [hy] at h; exact absurd h (by simp)
      | none => exact ⟨h1, h2, c, rfl, rfl, rfl⟩
theorem move_no {bits : List Int} {H : Hs} {x y : Slot} (h : (moveN bits H x y).1 ≠ 0) : (moveN bits H x y).2 = H := by
  unfold moveN at h ⊢
  split
  · rfl
  · rename_i hn
    rw [if_neg hn] at h
    cases hx : H x with
    | none => rfl
    | some c =>
      rw [hx] at h
      dsimp only at h ⊢
      cases hy : H y with
      | some d => rfl
      | none => rw [hy] at h; exact absurd rfl h
theorem move_back {bits : List Int} {H : Hs} {x y : Slot} {c : Cap} (h1 : thereB bits x = true) (h2 : thereB bits y = true) (hx : H x = some c) (hy : H y = none) : moveN bits (updH (updH H x none) y (some c)) y x = (0, H) := by
  have hne : x ≠ y := fun e => by rw [e, hy] at hx; cases hx
  unfold moveN
  rw [if_neg (by rw [h1, h2]; simp)]
  have e1 : updH (updH H x none) y (some c) y = some c := by simp [updH]
  have e2 : updH (updH H x none) y (some c) x = none := by simp [updH, hne]
  rw [e1, e2]
  simp only [Option.isSome_none, Bool.false_eq_true, if_false]
  congr 1
  funext k
  unfold updH
  by_cases e : k = x
  · subst e; simp [hx]
  · by_cases e2 : k = y
    · subst e2; simp [e, hy]
    · simp [e, e2]
section
variable {w0 w : World}
theorem law05_SlotsMoves_spec {l1 : Sl} {xs : List Op5} {r1 r2 r3 r4 : Int} {K : Bool → World → Prop} (hi1 : Inp op5E w0 l1 xs) (hg1 : ∀ x ∈ xs, Op5R x) (w1 : (Lit.int .i64 r1).wf = true) (w2 : (Lit.int .i64 r2).wf = true) (w3 : (Lit.int .i64 r3).wf = true) (w4 : (Lit.int .i64 r4).wf = true)
    (h : Vc.Own w0.heap.size w0 w []) (hK : ∀ w', Vc.Own w0.heap.size w0 w' [] → K true w') : C.law05_SlotsMoves l1 r1 r2 r3 r4 K w := by
  apply S.law05_SlotsMoves_ok
  unfold S.law05_SlotsMoves
  refine h.al fun w h => ?_
  refine h.al fun w h => ?_
  refine law05_two_spec h fun b w h => ?_
  refine cbF rfl ?_
  refine puts_spec (hi1.rd _) hg1 h fun w h => ?_
  generalize fillH xs = H at h
  have tx : thereB [2, 2] (andI .i64 r1 1, andI .i64 r2 3) = true := there22 (and1 _) (and3 _)
  have ty : thereB [2, 2] (andI .i64 r3 1, andI .i64 r4 3) = true := there22 (and1 _) (and3 _)
  intro k29 hk29
  have main : ∀ (p q : Nat) (w : World), Vc.Own w0.heap.size w0 w [NodesA b [2, 2] H, BlkA p [.int .i64 (andI .i64 r1 1), .int .i64 (andI .i64 r2 3)], BlkA q [.int .i64 (andI .i64 r3 1), .int .i64 (andI .i64 r4 3)]] → k29 ⟨p, 0, none⟩ ⟨q, 0, none⟩ w := by
    intro p q w h
    apply hk29
    generalize andI .i64 r1 1 = x0 at h tx
    generalize andI .i64 r2 3 = x1 at h tx
    generalize andI .i64 r3 1 = y0 at h ty
    generalize andI .i64 r4 3 = y1 at h ty
    have hkk := h.nok
    refine slots_Nodes_Held_spec h fun s hs w hh h => ?_
    have hl := len_held hkk hh
    (repeat (first | (refine h.al fun w h => ?_) | (refine h.dr fun w h => ?_) | (refine h.lc_2 rfl ?_) | (refine h.lc_6 rfl ?_) | (refine ⟨_, h.ldc rfl, ?_⟩) | (refine ⟨_, h.ldd rfl, ?_⟩) | (refine h.hd rfl ?_) | (refine ⟨h.ldc rfl, ?_⟩) | (refine ⟨h.ldd rfl, ?_⟩) | (refine h.stLc rfl rfl fun w h => ?_) | (refine exs ?_) | (refine _root_.Go.Vc.a2 ?_) | (refine h.stc rfl rfl fun w h => ?_) | (refine h.std rfl rfl fun w h => ?_)))
    refine slots_Nodes_Get_spec (s := (x0, x1)) h 1 rfl (fun e => by rw [tx] at e; cases e) fun _ w c1 hc1 h => ?_
    (repeat (first | (refine h.al fun w h => ?_) | (refine h.dr fun w h => ?_) | (refine h.lc_2 rfl ?_) | (refine h.lc_6 rfl ?_) | (refine ⟨_, h.ldc rfl, ?_⟩) | (refine ⟨_, h.ldd rfl, ?_⟩) | (refine h.hd rfl ?_) | (refine ⟨h.ldc rfl, ?_⟩) | (refine ⟨h.ldd rfl, ?_⟩) | (refine h.stLc rfl rfl fun w h => ?_) | (refine exs ?_) | (refine _root_.Go.Vc.a2 ?_) | (refine h.stc rfl rfl fun w h => ?_) | (refine h.std rfl rfl fun w h => ?_)))
    (dsimp only [putAt, List.set_cons_zero, List.set_cons_succ] at h)
    (repeat (first | (refine h.al fun w h => ?_) | (refine h.dr fun w h => ?_) | (refine h.lc_2 rfl ?_) | (refine h.lc_6 rfl ?_) | (refine ⟨_, h.ldc rfl, ?_⟩) | (refine ⟨_, h.ldd rfl, ?_⟩) | (refine h.hd rfl ?_) | (refine ⟨h.ldc rfl, ?_⟩) | (refine ⟨h.ldd rfl, ?_⟩) | (refine h.stLc rfl rfl fun w h => ?_) | (refine exs ?_) | (refine _root_.Go.Vc.a2 ?_) | (refine h.stc rfl rfl fun w h => ?_) | (refine h.std rfl rfl fun w h => ?_)))
    refine slots_Nodes_Move_spec (f := (x0, x1)) (t := (y0, y1)) h.up2 fun w h => ?_
    by_cases e : (moveN [2, 2] H (x0, x1) (y0, y1)).1 = 0
    · obtain ⟨_, _, c, hx, hy, em⟩ := move_ok e
      rw [em] at h ⊢
      dsimp only at h
      have hne : (x0, x1) ≠ (y0, y1) := fun e => by rw [e, hy] at hx; cases hx
      have hc1 : c1 = c := by rw [hc1, hx]; rfl
      subst hc1
      have hck : c1.kind ≠ 0 := (hkk.held _ _ hx).2.2.1
      refine cbF rfl ?_
      (repeat (first | (refine h.al fun w h => ?_) | (refine h.dr fun w h => ?_) | (refine h.lc_2 rfl ?_) | (refine h.lc_6 rfl ?_) | (refine ⟨_, h.ldc rfl, ?_⟩) | (refine ⟨_, h.ldd rfl, ?_⟩) | (refine h.hd rfl ?_) | (refine ⟨h.ldc rfl, ?_⟩) | (refine ⟨h.ldd rfl, ?_⟩) | (refine h.stLc rfl rfl fun w h => ?_) | (refine exs ?_) | (refine _root_.Go.Vc.a2 ?_) | (refine h.stc rfl rfl fun w h => ?_) | (refine h.std rfl rfl fun w h => ?_)))
      refine slots_Nodes_Get_spec (s := (x0, x1)) h 0 rfl (fun e => by rw [tx] at e; cases e) fun _ w c2 hc2 h => ?_
      have hc2 : c2 = zeroCap := by rw [hc2, show updH (updH H (x0, x1) none) (y0, y1) (some c1) (x0, x1) = none from by simp [updH, hne]]; rfl
      subst hc2
      (repeat (first | (refine h.al fun w h => ?_) | (refine h.dr fun w h => ?_) | (refine h.lc_2 rfl ?_) | (refine h.lc_6 rfl ?_) | (refine ⟨_, h.ldc rfl, ?_⟩) | (refine ⟨_, h.ldd rfl, ?_⟩) | (refine h.hd rfl ?_) | (refine ⟨h.ldc rfl, ?_⟩) | (refine ⟨h.ldd rfl, ?_⟩) | (refine h.stLc rfl rfl fun w h => ?_) | (refine exs ?_) | (refine _root_.Go.Vc.a2 ?_) | (refine h.stc rfl rfl fun w h => ?_) | (refine h.std rfl rfl fun w h => ?_)))
      (dsimp only [putAt, List.set_cons_zero, List.set_cons_succ] at h)
      (repeat (first | (refine h.al fun w h => ?_) | (refine h.dr fun w h => ?_) | (refine h.lc_2 rfl ?_) | (refine h.lc_6 rfl ?_) | (refine ⟨_, h.ldc rfl, ?_⟩) | (refine ⟨_, h.ldd rfl, ?_⟩) | (refine h.hd rfl ?_) | (refine ⟨h.ldc rfl, ?_⟩) | (refine ⟨h.ldd rfl, ?_⟩) | (refine h.stLc rfl rfl fun w h => ?_) | (refine exs ?_) | (refine _root_.Go.Vc.a2 ?_) | (refine h.stc rfl rfl fun w h => ?_) | (refine h.std rfl rfl fun w h => ?_)))
      refine slots_Nodes_Get_spec (s := (y0, y1)) h 1 rfl (fun e => by rw [ty] at e; cases e) fun _ w c3 hc3 h => ?_
      have hc3 : c3 = c1 := by rw [hc3, show updH (updH H (x0, x1) none) (y0, y1) (some c1) (y0, y1) = some c1 from by simp [updH]]; rfl
      subst hc3
      (repeat (first | (refine h.al fun w h => ?_) | (refine h.dr fun w h => ?_) | (refine h.lc_2 rfl ?_) | (refine h.lc_6 rfl ?_) | (refine ⟨_, h.ldc rfl, ?_⟩) | (refine ⟨_, h.ldd rfl, ?_⟩) | (refine h.hd rfl ?_) | (refine ⟨h.ldc rfl, ?_⟩) | (refine ⟨h.ldd rfl, ?_⟩) | (refine h.stLc rfl rfl fun w h => ?_) | (refine exs ?_) | (refine _root_.Go.Vc.a2 ?_) | (refine h.stc rfl rfl fun w h => ?_) | (refine h.std rfl rfl fun w h => ?_)))
      (dsimp only [putAt, List.set_cons_zero, List.set_cons_succ] at h)
      (repeat (first | (refine h.al fun w h => ?_) | (refine h.dr fun w h => ?_) | (refine h.lc_2 rfl ?_) | (refine h.lc_6 rfl ?_) | (refine ⟨_, h.ldc rfl, ?_⟩) | (refine ⟨_, h.ldd rfl, ?_⟩) | (refine h.hd rfl ?_) | (refine ⟨h.ldc rfl, ?_⟩) | (refine ⟨h.ldd rfl, ?_⟩) | (refine h.stLc rfl rfl fun w h => ?_) | (refine exs ?_) | (refine _root_.Go.Vc.a2 ?_) | (refine h.stc rfl rfl fun w h => ?_) | (refine h.std rfl rfl fun w h => ?_)))
      refine slots_Nodes_Move_spec (f := (y0, y1)) (t := (x0, x1)) h.up2 fun w h => ?_
      rw [move_back tx ty hx hy] at h ⊢
      dsimp only at h
      (repeat (first | (refine h.al fun w h => ?_) | (refine h.dr fun w h => ?_) | (refine h.lc_2 rfl ?_) | (refine h.lc_6 rfl ?_) | (refine ⟨_, h.ldc rfl, ?_⟩) | (refine ⟨_, h.ldd rfl, ?_⟩) | (refine h.hd rfl ?_) | (refine ⟨h.ldc rfl, ?_⟩) | (refine ⟨h.ldd rfl, ?_⟩) | (refine h.stLc rfl rfl fun w h => ?_) | (refine exs ?_) | (refine _root_.Go.Vc.a2 ?_) | (refine h.stc rfl rfl fun w h => ?_) | (refine h.std rfl rfl fun w h => ?_)))
      refine cbT (by simpa using hck) ?_
      (repeat (first | (refine h.al fun w h => ?_) | (refine h.dr fun w h => ?_) | (refine h.lc_2 rfl ?_) | (refine h.lc_6 rfl ?_) | (refine ⟨_, h.ldc rfl, ?_⟩) | (refine ⟨_, h.ldd rfl, ?_⟩) | (refine h.hd rfl ?_) | (refine ⟨h.ldc rfl, ?_⟩) | (refine ⟨h.ldd rfl, ?_⟩) | (refine h.stLc rfl rfl fun w h => ?_) | (refine exs ?_) | (refine _root_.Go.Vc.a2 ?_) | (refine h.stc rfl rfl fun w h => ?_) | (refine h.std rfl rfl fun w h => ?_)))
      refine ⟨_, capEq zeroCap zeroCap, ?_⟩
      refine cbT (by simp) ?_
      (repeat (first | (refine h.al fun w h => ?_) | (refine h.dr fun w h => ?_) | (refine h.lc_2 rfl ?_) | (refine h.lc_6 rfl ?_) | (refine ⟨_, h.ldc rfl, ?_⟩) | (refine ⟨_, h.ldd rfl, ?_⟩) | (refine h.hd rfl ?_) | (refine ⟨h.ldc rfl, ?_⟩) | (refine ⟨h.ldd rfl, ?_⟩) | (refine h.stLc rfl rfl fun w h => ?_) | (refine exs ?_) | (refine _root_.Go.Vc.a2 ?_) | (refine h.stc rfl rfl fun w h => ?_) | (refine h.std rfl rfl fun w h => ?_)))
      refine ⟨_, capEq c3 c3, ?_⟩
      refine cbT (by simp) (cbT rfl ?_)
      refine slots_Nodes_Held_spec h fun s2 hs2 w hh2 h => ?_
      have e := hh2.uniq hh
      subst e
      refine ref05_Same_spec h (Rd.own (h.lenc s2)) (Rd.own (h.lenc s)) (by omega) fun w h => ?_
      refine cbT (by simp) ?_
      exact law05_fixed_spec h fun w h => hK _ h.sub
    · have e2 := move_no e
      rw [e2] at h
      refine cbT (by simpa using e) ?_
      refine slots_Nodes_Held_spec h fun s2 hs2 w hh2 h => ?_
      have e := hh2.uniq hh
      subst e
      refine ref05_Same_spec h (Rd.own (h.lenc s2)) (Rd.own (h.lenc s)) (by omega) fun w h => ?_
      refine cbT (by simp) ?_
      exact law05_fixed_spec h fun w h => hK _ h.sub
  (repeat (first | (refine h.al fun w h => ?_) | (refine h.dr fun w h => ?_) | (refine h.lc_2 rfl ?_) | (refine h.lc_6 rfl ?_) | (refine ⟨_, h.ldc rfl, ?_⟩) | (refine ⟨_, h.ldd rfl, ?_⟩) | (refine h.hd rfl ?_) | (refine ⟨h.ldc rfl, ?_⟩) | (refine ⟨h.ldd rfl, ?_⟩) | (refine h.stLc rfl rfl fun w h => ?_) | (refine exs ?_) | (refine _root_.Go.Vc.a2 ?_) | (refine h.stc rfl rfl fun w h => ?_) | (refine h.std rfl rfl fun w h => ?_)))
  refine ⟨?_, ?_, trivial⟩
  · (repeat (first | (refine h.al fun w h => ?_) | (refine h.dr fun w h => ?_) | (refine h.lc_2 rfl ?_) | (refine h.lc_6 rfl ?_) | (refine ⟨_, h.ldc rfl, ?_⟩) | (refine ⟨_, h.ldd rfl, ?_⟩) | (refine h.hd rfl ?_) | (refine ⟨h.ldc rfl, ?_⟩) | (refine ⟨h.ldd rfl, ?_⟩) | (refine h.stLc rfl rfl fun w h => ?_) | (refine exs ?_) | (refine _root_.Go.Vc.a2 ?_) | (refine h.stc rfl rfl fun w h => ?_) | (refine h.std rfl rfl fun w h => ?_)))
    (dsimp only [putAt, List.set_cons_zero, List.set_cons_succ] at h)
    exact main _ _ _ h.sub
  · (repeat (first | (refine h.al fun w h => ?_) | (refine h.dr fun w h => ?_) | (refine h.lc_2 rfl ?_) | (refine h.lc_6 rfl ?_) | (refine ⟨_, h.ldc rfl, ?_⟩) | (refine ⟨_, h.ldd rfl, ?_⟩) | (refine h.hd rfl ?_) | (refine ⟨h.ldc rfl, ?_⟩) | (refine ⟨h.ldd rfl, ?_⟩) | (refine h.stLc rfl rfl fun w h => ?_) | (refine exs ?_) | (refine _root_.Go.Vc.a2 ?_) | (refine h.stc rfl rfl fun w h => ?_) | (refine h.std rfl rfl fun w h => ?_)))
    (dsimp only [putAt, List.set_cons_zero, List.set_cons_succ] at h)
    exact main _ _ _ h.sub
end
end Go.Proofs.Ytdlcejjiccknlaa
