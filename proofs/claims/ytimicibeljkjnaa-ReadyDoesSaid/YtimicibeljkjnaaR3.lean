/- The stage's theorem of layer 9: its contract. -/
import Derived.Test.YtimicibeljkjnaaR2
set_option linter.unusedVariables false
set_option linter.unusedSimpArgs false
namespace Go.Proofs.Ytimicibeljkjnaa
open Go Go.Vc Go.Proofs

section
variable {B : Nat} {w0 w : World} {R : List Asn} {b : Nat} {L : Qs}

/-- Whose bits are not other ones. -/
theorem bits_ne {x y : Operand} {a1 a2 a3 a4 b1 b2 b3 b4 : Int} (h : [a1, a2, a3, a4] = [b1, b2, b3, b4]) :
    EqB Try.prog .neq 37 x y (.agg #[.int .u64 a1, .int .u64 a2, .int .u64 a3, .int .u64 a4]) (.agg #[.int .u64 b1, .int .u64 b2, .int .u64 b3, .int .u64 b4]) false :=
  neB_x (r := true) (xs := [.int .u64 a1, .int .u64 a2, .int .u64 a3, .int .u64 a4]) (ys := [.int .u64 b1, .int .u64 b2, .int .u64 b3, .int .u64 b4]) (by kernel_rfl) (by kernel_rfl) (by kernel_rfl)
    ((show eqX Try.prog 9 37 [.int .u64 a1, .int .u64 a2, .int .u64 a3, .int .u64 a4] [.int .u64 b1, .int .u64 b2, .int .u64 b3, .int .u64 b4] = some (a1 == b1 && (a2 == b2 && (a3 == b3 && (a4 == b4 && true)))) from by kernel_rfl).trans (congrArg some (by
      simp only [List.cons.injEq, and_true] at h
      simp [h])))
theorem takeR_len (L : Qs) (n : Int) : (takeR L n).2.length ≤ L.length := by
  unfold takeR
  split
  · exact List.length_filter_le _ _
  · exact Nat.le_refl _
theorem turnR_le (L : Qs) (h : QOk L) : (turnR L).2.length ≤ L.length := by
  cases ht : topO L with
  | none => unfold turnR; rw [ht]; exact Nat.le_refl _
  | some p =>
    obtain ⟨hp, n, l, hl⟩ := topO_out ht
    have e : turnR L = (true, (L.filter fun x => x.2 != n) ++ [(p, n)]) := by unfold turnR; rw [ht]; simp [hl]
    have := take_len h.nodup (p := p) (n := n) (mem_line.1 (by rw [hl]; simp))
    rw [e]
    simp only [List.length_append, List.length_cons, List.length_nil]
    omega

theorem law09_ReadyDoes_spec {l1 : Sl} {ops : Ops} {K : Bool → World → Prop} (hi : Inp opE w0 l1 ops) (hg : ∀ x ∈ ops, opGood x) (h : Own w0.heap.size w0 w []) (hK : ∀ w', Own w0.heap.size w0 w' [] → K true w') : C.law09_ReadyDoes l1 K w := by
  apply S.law09_ReadyDoes_ok
  unfold S.law09_ReadyDoes
  refine ready_New_spec h fun b w1 h => ?_
  refine h.al fun w2 h => ?_
  rw [Option.isNone_some, cond_false]
  have hnil : QOk ([] : Qs) := ⟨by simp, by simp, by simp⟩
  have h : Own w0.heap.size w0 w2 (QueueA b [] :: RefA w1.heap.size [] :: []) := by
    have h1 : Own w0.heap.size w0 w2 (SlT inE ⟨none, 0, 0⟩ [] :: BlkA w1.heap.size [.slice none 0 0] :: QueueA b [] :: []) := h.nilS
    have h2 : Own w0.heap.size w0 w2 (BlkA w1.heap.size [slV ⟨none, 0, 0⟩] :: SlT inE ⟨none, 0, 0⟩ [] :: QueueA b [] :: []) := h1.perm (List.Perm.swap _ _ _)
    exact (Own.mk_refq hnil h2).perm (List.Perm.swap _ _ _)
  intro l5 hl5
  have loop : ∀ (m i b : Nat) (L : Qs) (w' : World), i + m = min l1.len 80 → L.length ≤ i → Own w0.heap.size w0 w' (QueueA b L :: RefA w1.heap.size L :: []) → l5 (some ⟨b, 0, none⟩) (i : Int) w' := by
    intro m
    induction m with
    | zero =>
      intro i b L w' him hL h
      apply hl5
      intro k9 hk9
      have fin : k9 false w' := by
        apply hk9
        rw [cond_false]
        exact law09_fixed_spec h fun w3 h => hK w3 h.drop.drop
      by_cases hl : (i : Int) < (l1.len : Int)
      · rw [show decide ((i : Int) < (l1.len : Int)) = true from by simpa using hl, cond_true, show decide ((i : Int) < 80) = false from by simp; omega]
        exact fin
      · rw [show decide ((i : Int) < (l1.len : Int)) = false from by simpa using hl, cond_false]
        exact fin
    | succ m ih =>
      intro i b L w' him hL h
      apply hl5
      intro k9 hk9
      rw [show decide ((i : Int) < (l1.len : Int)) = true from by simp; omega, cond_true]
      rw [show decide ((i : Int) < 80) = true from by simp; omega]
      apply hk9
      rw [cond_true]
      obtain ⟨x, hx⟩ := hi.lt (i := i) (by omega)
      obtain ⟨a, ha, hc0, hc⟩ := hi.get0 h hx
      refine ⟨a, ha, by omega, by omega, x.1, hc0 _ rfl, x.2.1, hc 1 _ rfl, x.2.2, hc 2 _ rfl, ?_⟩
      refine h.al fun w3 h => ?_
      simp only [add_mk, Nat.zero_add]
      refine h.st 0 rfl rfl rfl fun w4 h => ?_
      refine h.st 0 rfl rfl rfl fun w5 h => ?_
      refine h.st 0 rfl rfl rfl fun w6 h => ?_
      have h : Own w0.heap.size w0 w6 (BlkA w'.heap.size [.int .i64 x.1, .int .i64 x.2.1, .int .i64 x.2.2] :: QueueA b L :: RefA w1.heap.size L :: []) := h
      refine ⟨x.1, h.ld0 0 rfl rfl, ?_⟩
      intro k21 hk21
      have tail : ∀ (b' : Nat) (L' : Qs) (c : Int) (w7 : World), L'.length ≤ i + 1 → Own w0.heap.size w0 w7 (QueueA b' L' :: RefA w1.heap.size L' :: BlkA w'.heap.size [.int .i64 x.1, .int .i64 x.2.1, .int .i64 x.2.2] :: []) → k21 (some ⟨b', 0, none⟩) c c w7 := by
        intro b' L' c w7 hL' h
        have hq' := h.qok
        apply hk21
        refine ready_Queue_Next_spec h fun w8 h => ?_
        refine ref09_Queue_Next_spec (h.perm (List.Perm.swap _ _ _)) fun w9 h => ?_
        refine h.dr fun w10 h => ?_
        refine ⟨_, rfl, x.2.2, h.ld0 2 rfl rfl, ?_, trivial⟩
        refine ready_lines_Where_spec (h.perm (List.Perm.swap _ _ _)) fun w11 h => ?_
        refine ⟨x.2.2, h.ld0 2 rfl rfl, ?_⟩
        have h := h.perm (List.Perm.swap _ _ _)
        refine ref09_Queue_Where_spec h ?_
        refine h.dr fun w12 h => ?_
        refine ⟨_, rfl, x.2.1, h.ld0 2 rfl rfl, ?_, trivial⟩
        refine ready_lines_Line_spec (h.perm (List.Perm.swap _ _ _)) fun s w13 h => ?_
        intro k47 hk47
        rw [bne_self_eq_false, cond_false, bne_self_eq_false, cond_false, beq_self_eq_true, Bool.not_true, cond_false, bne_self_eq_false, cond_false, beq_self_eq_true, Bool.not_true, cond_false]
        refine ⟨x.2.1, h.ld0 3 rfl rfl, ?_⟩
        have h : Own w0.heap.size w0 w13 (RefA w1.heap.size L' :: SlT intE s (lineI L' x.2.1) :: QueueA b' L' :: BlkA w'.heap.size [.int .i64 x.1, .int .i64 x.2.1, .int .i64 x.2.2] :: []) := h.take 2 rfl
        refine ref09_Queue_Line_spec h fun s2 w14 h => ?_
        have hshort : (lineI L' x.2.1).length ≤ 100 := by
          unfold lineI
          split
          · simp
          · exact Nat.le_trans (line_len _ _) (by omega)
        refine ref09_Nums_spec h 2 0 rfl rfl (by omega) fun w15 h => ?_
        rw [decide_eq_true rfl, Bool.not_true, cond_false]
        refine ⟨_, rfl, ?_⟩
        have h : Own w0.heap.size w0 w15 (QueueA b' L' :: RefA w1.heap.size L' :: SlT intE s (lineI L' x.2.1) :: BlkA w'.heap.size [.int .i64 x.1, .int .i64 x.2.1, .int .i64 x.2.2] :: []) := h.drop.take 2 rfl
        refine ready_lines_Bits_spec h fun b1 b2 b3 b4 w16 hb h => ?_
        refine ref09_Queue_Bits_spec (h.perm (List.Perm.swap _ _ _)) fun c1 c2 c3 c4 w17 hc h => ?_
        refine ⟨false, bits_ne (hb.uniq hc), ?_⟩
        apply hk47
        rw [cond_false]
        intro l50 hl50
        have inner : ∀ (n j : Nat) (xs : List Int) (w18 : World), j + n = xs.length → Own w0.heap.size w0 w18 (RefA w1.heap.size L' :: QueueA b' L' :: SlT intE s xs :: BlkA w'.heap.size [.int .i64 x.1, .int .i64 x.2.1, .int .i64 x.2.2] :: []) → xs.length ≤ 100 → l50 (j : Int) w18 := by
          intro n
          induction n with
          | zero =>
            intro j xs w18 hj h hxs
            apply hl50
            have hlen := h.len 2 rfl
            rw [show decide ((j : Int) < (s.len : Int)) = false from by simp; omega, cond_false, wr (by omega) (by omega)]
            refine ih (i + 1) b' L' w18 (by omega) hL' ?_
            have h1 : Own w0.heap.size w0 w18 (SlT intE s xs :: RefA w1.heap.size L' :: QueueA b' L' :: BlkA w'.heap.size [.int .i64 x.1, .int .i64 x.2.1, .int .i64 x.2.2] :: []) := h.take 2 rfl
            have h2 : Own w0.heap.size w0 w18 (BlkA w'.heap.size [.int .i64 x.1, .int .i64 x.2.1, .int .i64 x.2.2] :: RefA w1.heap.size L' :: QueueA b' L' :: []) := h1.drop.take 2 rfl
            exact h2.drop.perm (List.Perm.swap _ _ _)
          | succ n ihn =>
            intro j xs w18 hj h hxs
            apply hl50
            have hlen := h.len 2 rfl
            rw [show decide ((j : Int) < (s.len : Int)) = true from by simp; omega, cond_true]
            have hxj : xs[j]? = some xs[j] := List.getElem?_eq_getElem (by omega)
            obtain ⟨bb, oo, ha, _⟩ := h.get 2 rfl hxj
            refine ⟨_, ha, by omega, by omega, ?_⟩
            rw [add_mk, Int.toNat_natCast]
            refine h.stE 2 rfl (by omega) (99 : Int) ha rfl fun w19 h => ?_
            rw [wr (by omega) (by omega)]
            exact ihn (j + 1) (xs.set j 99) w19 (by rw [List.length_set]; omega) h (by rw [List.length_set]; exact hxs)
        exact inner (lineI L' x.2.1).length 0 (lineI L' x.2.1) w17 (by omega) h hshort
      have hq := h.drop.qok
      by_cases e0 : x.1 = 0
      · rw [show (x.1 == 0) = true from by simpa using e0, cond_true]
        refine ⟨x.2.1, h.ld0 0 rfl rfl, x.2.2, h.ld0 0 rfl rfl, ?_⟩
        refine ready_Queue_Put_spec (h.perm (List.Perm.swap _ _ _)) (by omega) fun w7 h => ?_
        refine ⟨x.2.1, h.ld0 1 rfl rfl, x.2.2, h.ld0 1 rfl rfl, ?_⟩
        have h : Own w0.heap.size w0 w7 (RefA w1.heap.size L :: QueueA b (putR L x.2.1 x.2.2).2 :: BlkA w'.heap.size [.int .i64 x.1, .int .i64 x.2.1, .int .i64 x.2.2] :: []) := h.take 2 rfl
        refine ref09_Queue_Put_spec h (by omega) fun w8 h => ?_
        exact tail b _ _ w8 (Nat.le_trans (putR_len _ _ _) (by omega)) (h.perm (List.Perm.swap _ _ _))
      rw [show (x.1 == 0) = false from by simpa using e0, cond_false]
      by_cases e1 : x.1 = 1
      · rw [show (x.1 == 1) = true from by simpa using e1, cond_true]
        refine ⟨x.2.2, h.ld0 0 rfl rfl, ?_⟩
        refine ready_Queue_Take_spec (h.perm (List.Perm.swap _ _ _)) fun w7 h => ?_
        refine ⟨x.2.2, h.ld0 1 rfl rfl, ?_⟩
        have h : Own w0.heap.size w0 w7 (RefA w1.heap.size L :: QueueA b (takeR L x.2.2).2 :: BlkA w'.heap.size [.int .i64 x.1, .int .i64 x.2.1, .int .i64 x.2.2] :: []) := h.take 2 rfl
        refine ref09_Queue_Take_spec h fun w8 h => ?_
        exact tail b _ _ w8 (Nat.le_trans (takeR_len _ _) (by omega)) (h.perm (List.Perm.swap _ _ _))
      rw [show (x.1 == 1) = false from by simpa using e1, cond_false]
      by_cases e2 : x.1 = 2
      · rw [show (x.1 == 2) = true from by simpa using e2, cond_true]
        refine ready_Queue_Turn_spec (h.perm (List.Perm.swap _ _ _)) fun w7 h => ?_
        have h : Own w0.heap.size w0 w7 (RefA w1.heap.size L :: QueueA b (turnR L).2 :: BlkA w'.heap.size [.int .i64 x.1, .int .i64 x.2.1, .int .i64 x.2.2] :: []) := h.take 2 rfl
        refine ref09_Queue_Turn_spec h fun w8 h => ?_
        rw [beq_self_eq_true, Bool.not_true, cond_false]
        exact tail b _ _ w8 (Nat.le_trans (turnR_le _ hq) (by omega)) (h.perm (List.Perm.swap _ _ _))
      rw [show (x.1 == 2) = false from by simpa using e2, cond_false]
      have h : Own w0.heap.size w0 w6 (QueueA b L :: RefA w1.heap.size L :: BlkA w'.heap.size [.int .i64 x.1, .int .i64 x.2.1, .int .i64 x.2.2] :: []) := (h.perm (List.Perm.swap _ _ _)).perm ((List.Perm.swap _ _ _).cons _)
      by_cases e3 : x.1 = 3
      · rw [show (x.1 == 3) = true from by simpa using e3, cond_true]
        refine ready_Queue_Copy_spec h fun b' w7 h => ?_
        refine ready_Queue_Put_spec (h.perm (List.Perm.swap _ _ _)) (by omega) fun w8 h => ?_
        refine ⟨x.2.2, h.ld0 3 rfl rfl, ?_⟩
        refine ready_Queue_Take_spec h fun w9 h => ?_
        rw [Option.isNone_some, cond_false]
        exact tail b' L 0 w9 (by omega) h.drop
      · rw [show (x.1 == 3) = false from by simpa using e3, cond_false]
        exact tail b L 0 w6 (by omega) h
  exact loop (min l1.len 80) 0 b [] w2 (by omega) (by simp) h
end
end Go.Proofs.Ytimicibeljkjnaa
