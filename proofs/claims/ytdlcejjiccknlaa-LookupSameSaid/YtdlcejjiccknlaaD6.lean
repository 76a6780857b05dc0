/- Laws of layer 5: SlotsSwaps, SlotsMoves. -/
import Derived.Test.YtdlcejjiccknlaaD5
import Derived.Test.YtdlcejjiccknlaaS0
set_option linter.unusedVariables false
set_option linter.unusedSimpArgs false
set_option maxRecDepth 8000
namespace Go.Proofs.Ytdlcejjiccknlaa
open Go Go.Vc Go.Proofs

theorem and1 (x : Int) : andI .i64 x 1 = 0 ∨ andI .i64 x 1 = 1 := by
  obtain ⟨p, hp, e⟩ := andle x 1 (by decide)
  have e : andI .i64 x 1 = (p : Int) := e
  omega
theorem and3 (x : Int) : 0 ≤ andI .i64 x 3 ∧ andI .i64 x 3 < 4 := by
  obtain ⟨p, hp, e⟩ := andle x 3 (by decide)
  have e : andI .i64 x 3 = (p : Int) := e
  omega
theorem there22 {s : Slot} (h1 : s.1 = 0 ∨ s.1 = 1) (h2 : 0 ≤ s.2 ∧ s.2 < 4) : thereB [2, 2] s = true := by
  have hz : sizeN [2, 2] s.1 = some 2 := by rcases h1 with e | e <;> rw [e] <;> decide
  unfold thereB
  rw [hz]
  simp only [decide_eq_true_eq]
  exact ⟨h2.1, by simpa using h2.2⟩
theorem not_there22 {s : Slot} (h : s.1 < 0 ∨ 2 ≤ s.1 ∨ s.2 < 0 ∨ 4 ≤ s.2) : thereB [2, 2] s = false := by
  cases e : thereB [2, 2] s with
  | false => rfl
  | true =>
    unfold thereB at e
    cases hz : sizeN [2, 2] s.1 with
    | none => rw [hz] at e; cases e
    | some z =>
      rw [hz] at e
      simp only [decide_eq_true_eq] at e
      obtain ⟨g0, g1, _⟩ := sizeN_some hz
      have hlt : s.1.toNat < 2 := (List.getElem?_eq_some_iff.1 g1).1
      have : s.1 = 0 ∨ s.1 = 1 := by omega
      have hz2 : sizeN [2, 2] s.1 = some 2 := by rcases this with e | e <;> rw [e] <;> decide
      rw [hz2] at hz
      cases hz
      have e2 : (2 : Int) ^ (2 : Int).toNat = 4 := by decide
      omega
theorem len_held {bits : List Int} {H : Hs} (hk : NOk bits H) {hs : List (Slot × Cap)} (hh : IsHeld H hs) : hs.length ≤ 16384 := by
  refine few_keys (M := hs) hk ?_ fun k => ?_
  · rw [List.Nodup, List.pairwise_map]
    exact hh.srt.imp fun {x y} h e => by rw [e] at h; exact ltS_irrefl h
  · have hn : (hs.map (·.1)).Nodup := by
      rw [List.Nodup, List.pairwise_map]
      exact hh.srt.imp fun {x y} h e => by rw [e] at h; exact ltS_irrefl h
    cases e : mget hs k with
    | some c => exact ((hh.mem k c).1 (mget_mem e)).symm
    | none =>
      cases e2 : H k with
      | none => rfl
      | some c => exact absurd (List.mem_map.2 ⟨_, (hh.mem k c).2 e2, rfl⟩) (mget_none.1 e)
theorem swap_back (H : Hs) (x y : Slot) : updH (updH (updH (updH H x (H y)) y (H x)) y (updH (updH H x (H y)) y (H x) x)) x (updH (updH H x (H y)) y (H x) y) = H := by
  funext k
  unfold updH
  by_cases e1 : k = x
  · subst e1; simp
  · by_cases e2 : k = y
    · subst e2
      have : ¬ x = k := fun e => e1 e.symm
      simp [e1, this]
    · simp [e1, e2]
theorem upd_self (H : Hs) (x : Slot) : updH (updH H x (H x)) x (H x) = H := by
  funext k
  unfold updH
  by_cases e1 : k = x
  · subst e1; simp
  · simp [e1]

section
variable {w0 w : World}
theorem law05_SlotsSwaps_spec {l1 : Sl} {xs : List Op5} {r1 r2 r3 r4 : Int} {K : Bool → World → Prop} (hi1 : Inp op5E w0 l1 xs) (hg1 : ∀ x ∈ xs, Op5R x) (w1 : (Lit.int .i64 r1).wf = true) (w2 : (Lit.int .i64 r2).wf = true) (w3 : (Lit.int .i64 r3).wf = true) (w4 : (Lit.int .i64 r4).wf = true)
    (h : Vc.Own w0.heap.size w0 w []) (hK : ∀ w', Vc.Own w0.heap.size w0 w' [] → K true w') : C.law05_SlotsSwaps l1 r1 r2 r3 r4 K w := by
  apply S.law05_SlotsSwaps_ok
  unfold S.law05_SlotsSwaps
  refine h.al fun w h => ?_
  refine h.al fun w h => ?_
  refine law05_two_spec h fun b w h => ?_
  refine cbF rfl ?_
  refine puts_spec (hi1.rd _) hg1 h fun w h => ?_
  generalize fillH xs = H at h
  have tx : thereB [2, 2] (andI .i64 r1 1, andI .i64 r2 3) = true := there22 (and1 _) (and3 _)
  have ty : thereB [2, 2] (andI .i64 r3 1, andI .i64 r4 3) = true := there22 (and1 _) (and3 _)
  intro k29 hk29
  have main : ∀ (p q : Nat) (w : World), Vc.Own w0.heap.size w0 w [NodesA b [2, 2] H, BlkA p [.int .i64 (andI .i64 r1 1), .int .i64 (andI .i64 r2 3)], BlkA q [.int .i64 (andI .i64 r3 1), .int .i64 (andI .i64 r4 3)]] → k29 ⟨p, 0, none⟩ ⟨q, 0, none⟩ w := by
    intro p q w h
    apply hk29
    generalize andI .i64 r1 1 = x0 at h tx
    generalize andI .i64 r2 3 = x1 at h tx
    generalize andI .i64 r3 1 = y0 at h ty
    generalize andI .i64 r4 3 = y1 at h ty
    have hkk := h.nok
    refine slots_Nodes_Held_spec h fun s hs w hh h => ?_
    have hl := len_held hkk hh
    (repeat (first | (refine h.al fun w h => ?_) | (refine h.dr fun w h => ?_) | (refine h.lc_2 rfl ?_) | (refine h.lc_6 rfl ?_) | (refine ⟨_, h.ldc rfl, ?_⟩) | (refine ⟨_, h.ldd rfl, ?_⟩) | (refine h.hd rfl ?_) | (refine ⟨h.ldc rfl, ?_⟩) | (refine ⟨h.ldd rfl, ?_⟩) | (refine h.stLc rfl rfl fun w h => ?_) | (refine exs ?_) | (refine _root_.Go.Vc.a2 ?_) | (refine h.stc rfl rfl fun w h => ?_) | (refine h.std rfl rfl fun w h => ?_)))
    have hsw : ∀ H, swapN [2, 2] H (x0, x1) (y0, y1) = (0, updH (updH H (x0, x1) (H (y0, y1))) (y0, y1) (H (x0, x1))) := fun H => by unfold swapN; rw [if_neg (by rw [tx, ty]; simp)]
    have hsw2 : ∀ H, swapN [2, 2] H (y0, y1) (x0, x1) = (0, updH (updH H (y0, y1) (H (x0, x1))) (x0, x1) (H (y0, y1))) := fun H => by unfold swapN; rw [if_neg (by rw [tx, ty]; simp)]
    have hsw3 : ∀ H, swapN [2, 2] H (x0, x1) (x0, x1) = (0, H) := fun H => by unfold swapN; rw [if_neg (by rw [tx]; simp), upd_self]
    refine slots_Nodes_Swap_spec (a := (x0, x1)) (c := (y0, y1)) h.up1 fun w h => ?_
    rw [hsw] at h ⊢
    (repeat (first | (refine h.al fun w h => ?_) | (refine h.dr fun w h => ?_) | (refine h.lc_2 rfl ?_) | (refine h.lc_6 rfl ?_) | (refine ⟨_, h.ldc rfl, ?_⟩) | (refine ⟨_, h.ldd rfl, ?_⟩) | (refine h.hd rfl ?_) | (refine ⟨h.ldc rfl, ?_⟩) | (refine ⟨h.ldd rfl, ?_⟩) | (refine h.stLc rfl rfl fun w h => ?_) | (refine exs ?_) | (refine _root_.Go.Vc.a2 ?_) | (refine h.stc rfl rfl fun w h => ?_) | (refine h.std rfl rfl fun w h => ?_)))
    refine slots_Nodes_Swap_spec (a := (y0, y1)) (c := (x0, x1)) h fun w h => ?_
    rw [hsw2, swap_back] at h
    rw [hsw2]
    (repeat (first | (refine h.al fun w h => ?_) | (refine h.dr fun w h => ?_) | (refine h.lc_2 rfl ?_) | (refine h.lc_6 rfl ?_) | (refine ⟨_, h.ldc rfl, ?_⟩) | (refine ⟨_, h.ldd rfl, ?_⟩) | (refine h.hd rfl ?_) | (refine ⟨h.ldc rfl, ?_⟩) | (refine ⟨h.ldd rfl, ?_⟩) | (refine h.stLc rfl rfl fun w h => ?_) | (refine exs ?_) | (refine _root_.Go.Vc.a2 ?_) | (refine h.stc rfl rfl fun w h => ?_) | (refine h.std rfl rfl fun w h => ?_)))
    refine slots_Nodes_Swap_spec (a := (x0, x1)) (c := (x0, x1)) h fun w h => ?_
    rw [hsw3] at h ⊢
    refine cbT rfl (cbT rfl (cbT rfl ?_))
    refine slots_Nodes_Held_spec h fun s2 hs2 w hh2 h => ?_
    have e := hh2.uniq hh
    subst e
    refine ref05_Same_spec h (Rd.own (h.lenc s2)) (Rd.own (h.lenc s)) (by omega) fun w h => ?_
    refine cbT (by simp) ?_
    exact law05_fixed_spec h fun w h => hK _ h.sub
  (repeat (first | (refine h.al fun w h => ?_) | (refine h.dr fun w h => ?_) | (refine h.lc_2 rfl ?_) | (refine h.lc_6 rfl ?_) | (refine ⟨_, h.ldc rfl, ?_⟩) | (refine ⟨_, h.ldd rfl, ?_⟩) | (refine h.hd rfl ?_) | (refine ⟨h.ldc rfl, ?_⟩) | (refine ⟨h.ldd rfl, ?_⟩) | (refine h.stLc rfl rfl fun w h => ?_) | (refine exs ?_) | (refine _root_.Go.Vc.a2 ?_) | (refine h.stc rfl rfl fun w h => ?_) | (refine h.std rfl rfl fun w h => ?_)))
  refine ⟨?_, ?_, trivial⟩
  · (repeat (first | (refine h.al fun w h => ?_) | (refine h.dr fun w h => ?_) | (refine h.lc_2 rfl ?_) | (refine h.lc_6 rfl ?_) | (refine ⟨_, h.ldc rfl, ?_⟩) | (refine ⟨_, h.ldd rfl, ?_⟩) | (refine h.hd rfl ?_) | (refine ⟨h.ldc rfl, ?_⟩) | (refine ⟨h.ldd rfl, ?_⟩) | (refine h.stLc rfl rfl fun w h => ?_) | (refine exs ?_) | (refine _root_.Go.Vc.a2 ?_) | (refine h.stc rfl rfl fun w h => ?_) | (refine h.std rfl rfl fun w h => ?_)))
    (dsimp only [putAt, List.set_cons_zero, List.set_cons_succ] at h)
    exact main _ _ _ h.sub
  · (repeat (first | (refine h.al fun w h => ?_) | (refine h.dr fun w h => ?_) | (refine h.lc_2 rfl ?_) | (refine h.lc_6 rfl ?_) | (refine ⟨_, h.ldc rfl, ?_⟩) | (refine ⟨_, h.ldd rfl, ?_⟩) | (refine h.hd rfl ?_) | (refine ⟨h.ldc rfl, ?_⟩) | (refine ⟨h.ldd rfl, ?_⟩) | (refine h.stLc rfl rfl fun w h => ?_) | (refine exs ?_) | (refine _root_.Go.Vc.a2 ?_) | (refine h.stc rfl rfl fun w h => ?_) | (refine h.std rfl rfl fun w h => ?_)))
    (dsimp only [putAt, List.set_cons_zero, List.set_cons_succ] at h)
    exact main _ _ _ h.sub
end
end Go.Proofs.Ytdlcejjiccknlaa
