/- More laws of layer 9: bits, turns: their contracts. -/
import Derived.Test.YtimicibeljkjnaaL3
set_option linter.unusedVariables false
set_option linter.unusedSimpArgs false
namespace Go.Proofs.Ytimicibeljkjnaa
open Go Go.Vc Go.Proofs

section
variable {B : Nat} {w0 w : World} {R : List Asn} {b : Nat} {L : Qs}

def topN (f : Nat → Bool) (n : Nat) : Int := match topB f n with | some p => (p : Int) | none => -1
theorem topN_ge (f : Nat → Bool) (n : Nat) : decide (topN f n ≥ 0) = (topB f n).isSome := by
  unfold topN
  cases topB f n <;> simp

theorem law09_ReadyBits_spec {l1 : Sl} {ops : Ops} {K : Bool → World → Prop} (hi : Inp opE w0 l1 ops) (hg : ∀ x ∈ ops, opGood x) (h : Own w0.heap.size w0 w []) (hK : ∀ w', Own w0.heap.size w0 w' [] → K true w') : C.law09_ReadyBits l1 K w := by
  apply S.law09_ReadyBits_ok
  unfold S.law09_ReadyBits
  refine ready_New_spec h fun b w1 h => ?_
  rw [Option.isNone_some, cond_false]
  intro l5 hl5
  refine fill_spec (lim := 40) (b := b) hi h (by decide) (fun w1 L hlen h => ?_) hl5
  have hq := h.qok
  refine ⟨_, rfl, ?_⟩
  refine ready_lines_Bits_spec h fun b1 b2 b3 b4 w2 hb h => ?_
  refine h.al fun w3 h => ?_
  simp only [add_mk, Nat.zero_add]
  refine h.st 0 rfl rfl rfl fun w4 h => ?_
  refine h.st 0 rfl rfl rfl fun w5 h => ?_
  refine h.st 0 rfl rfl rfl fun w6 h => ?_
  refine h.st 0 rfl rfl rfl fun w7 h => ?_
  have h : Own w0.heap.size w0 w7 (BlkA w2.heap.size [.int .u64 b1, .int .u64 b2, .int .u64 b3, .int .u64 b4] :: QueueA b L :: []) := h
  intro l28 hl28
  have loop : ∀ (m p : Nat) (w' : World), p + m = 256 → Own w0.heap.size w0 w' (BlkA w2.heap.size [.int .u64 b1, .int .u64 b2, .int .u64 b3, .int .u64 b4] :: QueueA b L :: []) → l28 (topN (some1 L) p) (p : Int) w' := by
    intro m
    induction m with
    | succ m ih =>
      intro p w' hp h
      apply hl28
      rw [show decide ((p : Int) < 256) = true from by simp; omega, cond_true]
      obtain ⟨x, h1, h2, h3⟩ := hb.2 (p / 64) (by omega)
      have e1 : IntKind.i64.wrap ((p : Int).tdiv 64) = ((p / 64 : Nat) : Int) := by
        have : ((p : Int).tdiv 64) = ((p / 64 : Nat) : Int) := rfl
        rw [this, wr (by omega) (by omega)]
      have e2 : ((p : Int).tmod 64) = ((p % 64 : Nat) : Int) := rfl
      rw [e1, e2]
      have hcell : [Value.int .u64 b1, .int .u64 b2, .int .u64 b3, .int .u64 b4][p / 64]? = some (.int .u64 (x : Int)) := by
        have := congrArg (Option.map (Value.int .u64)) h1
        rw [← List.getElem?_map] at this
        exact this
      refine ⟨by decide, by omega, by omega, (x : Int), ?_, by decide, by omega, _, rfl, ?_⟩
      · rw [Int.toNat_natCast, Nat.mul_one]; exact h.ld0 0 rfl hcell
      refine ready_lines_Line_spec (h.perm (List.Perm.swap _ _ _)) fun s w8 h => ?_
      rw [shr_and_one x (p % 64) h2 (Nat.mod_lt _ (by omega)), h3 _ (Nat.mod_lt _ (by omega)), show 64 * (p / 64) + p % 64 = p from by omega]
      have hlen := h.len 0 rfl
      rw [lineI_nat L (by omega)] at hlen
      have hd : decide ((s.len : Int) > 0) = some1 L p := by
        unfold some1
        cases hl : lineOf L p with
        | nil => rw [hl] at hlen; simp only [List.length_nil] at hlen; simp; omega
        | cons _ _ => rw [hl] at hlen; simp only [List.length_cons] at hlen; simp; omega
      rw [hd, beq_self_eq_true, Bool.not_true, cond_false, wr (by omega) (by omega)]
      have hnext := ih (p + 1) w8 (by omega) (h.drop.perm (List.Perm.swap _ _ _))
      have ht : topN (some1 L) (p + 1) = if some1 L p then (p : Int) else topN (some1 L) p := by
        unfold topN
        simp only [topB]
        by_cases hs : some1 L p = true
        · rw [if_pos hs, if_pos hs]
        · rw [if_neg hs, if_neg hs]
      rw [ht] at hnext
      by_cases hs : some1 L p = true
      · rw [hs, cond_true]; rw [hs, if_pos rfl] at hnext; exact hnext
      · have hs : some1 L p = false := by simpa using hs
        rw [hs, cond_false]; rw [hs, if_neg (by simp)] at hnext; exact hnext
    | zero =>
      intro p w' hp h
      have : p = 256 := by omega
      subst this
      apply hl28
      rw [show decide (((256 : Nat) : Int) < 256) = false from rfl, cond_false]
      refine ready_Queue_Next_spec (h.perm (List.Perm.swap _ _ _)) fun w8 h => ?_
      refine ⟨_, rfl, ?_⟩
      refine ready_lines_Where_spec h fun w9 h => ?_
      rw [topN_ge]
      cases ht : topO L with
      | none =>
        have : topB (some1 L) 256 = none := ht
        rw [next_none ht, this, Option.isSome_none, Option.isSome_none, beq_self_eq_true, cond_true, Bool.not_false, cond_true]
        exact law09_fixed_spec h fun w10 h => hK w10 h.drop.drop
      | some p =>
        have e : topB (some1 L) 256 = some p := ht
        obtain ⟨n, en, ew⟩ := next_some hq ht
        rw [en, e]
        simp only [Option.isSome_some, beq_self_eq_true, cond_true, Bool.not_true, cond_false, Option.getD_some, ew, Option.map_some]
        have : topN (some1 L) 256 = (p : Int) := by unfold topN; rw [e]
        rw [this, beq_self_eq_true, cond_true]
        exact law09_fixed_spec h fun w10 h => hK w10 h.drop.drop
  exact loop 256 0 w7 rfl h

/-- The low byte of a number. -/
theorem and_255 (x : Int) : ∃ p : Nat, p < 256 ∧ andI .i64 x 255 = (p : Int) := by
  unfold andI
  have hle : (BitVec.ofInt IntKind.i64.bits x &&& BitVec.ofInt IntKind.i64.bits 255).toNat ≤ 255 := by
    rw [BitVec.toNat_and]
    exact Nat.le_trans Nat.and_le_right (by decide)
  exact ⟨_, Nat.lt_succ_of_le hle, wr (by omega) (by omega)⟩

/-- A queue of one line. -/
def oneL (p : Nat) (M : List Int) : Qs := M.map fun n => (p, n)
theorem one_line (p : Nat) (M : List Int) : lineOf (oneL p M) p = M := by
  unfold lineOf oneL
  rw [List.filter_eq_self.2 (by simp), List.map_map]
  simp [Function.comp_def]
theorem one_other {p q : Nat} (h : q ≠ p) (M : List Int) : lineOf (oneL p M) q = [] := by
  unfold lineOf oneL
  rw [List.filter_eq_nil_iff.2 (by simpa using fun _ _ e => h e.symm)]; rfl
theorem one_top {p : Nat} (hp : p < 256) (n : Int) (M : List Int) : topO (oneL p (n :: M)) = some p := by
  refine topB_at hp (by unfold some1; rw [one_line]; rfl) fun q h1 h2 => ?_
  unfold some1
  rw [one_other (by omega)]; rfl
theorem one_top0 (p : Nat) : topO (oneL p []) = none := topB_none_mk fun q _ => rfl
theorem one_turn {p : Nat} (hp : p < 256) {n : Int} {M : List Int} (h : (n :: M).Nodup) : turnR (oneL p (n :: M)) = (true, oneL p (M ++ [n])) := by
  unfold turnR
  simp only [one_top hp, one_line, List.head?_cons]
  unfold oneL
  rw [List.nodup_cons] at h
  rw [List.map_append, List.map_cons, List.filter_cons]
  simp only [bne_self_eq_false, Bool.false_eq_true, if_false]
  rw [List.filter_eq_self.2]
  · rfl
  · intro x hx
    obtain ⟨m, hm, rfl⟩ := List.mem_map.1 hx
    simp only [bne_iff_ne, ne_eq]
    rintro rfl
    exact h.1 hm
theorem one_snd (p : Nat) (M : List Int) : (oneL p M).map (·.2) = M := by
  unfold oneL
  rw [List.map_map]
  simp [Function.comp_def]
theorem one_put {p : Nat} (hp : p < 256) (M : List Int) (n : Int) : (putR (oneL p M) (p : Int) n).2 = oneL p M ∨ (putR (oneL p M) (p : Int) n).2 = oneL p (M ++ [n]) := by
  unfold putR
  rw [if_neg (by omega)]
  cases wh (oneL p M) n with
  | some _ => exact .inl rfl
  | none =>
    right
    simp [oneL]

theorem law09_ReadyTurns_spec {l1 : Sl} {xs : List Int} {prio2 : Int} {K : Bool → World → Prop} (hi : Inp intE w0 l1 xs) (hg : ∀ x ∈ xs, (Lit.int .i64 x).wf = true) (hw : (Lit.int .i64 prio2).wf = true) (h : Own w0.heap.size w0 w [])
    (hK : ∀ w', Own w0.heap.size w0 w' [] → K true w') : C.law09_ReadyTurns l1 prio2 K w := by
  apply S.law09_ReadyTurns_ok
  unfold S.law09_ReadyTurns
  obtain ⟨p, hp, ep⟩ := and_255 prio2
  rw [ep]
  refine ready_New_spec h fun b w1 h => ?_
  rw [Option.isNone_some, cond_false]
  intro l5 hl5
  have loop1 : ∀ (m i : Nat) (M : List Int) (w : World), i + m = min l1.len 30 → M.length ≤ i → Own w0.heap.size w0 w (QueueA b (oneL p M) :: []) → l5 (i : Int) w := by
    intro m
    induction m with
    | succ m ih =>
      intro i M w him hM h
      apply hl5
      intro k8 hk8
      rw [show decide ((i : Int) < (l1.len : Int)) = true from by simp; omega, cond_true]
      rw [show decide ((i : Int) < 30) = true from by simp; omega]
      apply hk8
      rw [cond_true]
      obtain ⟨x, hx⟩ := hi.lt (i := i) (by omega)
      obtain ⟨a, ha, hc0, _⟩ := hi.get0 h hx
      refine ⟨a, ha, by omega, by omega, x, hc0 _ rfl, ?_⟩
      refine ready_Queue_Put_spec h (by unfold oneL; rw [List.length_map]; omega) fun w2 h => ?_
      rw [wr (by omega) (by omega)]
      rcases one_put hp M x with e | e
      · rw [e] at h; exact ih (i + 1) M w2 (by omega) (by omega) h
      · rw [e] at h; exact ih (i + 1) _ w2 (by omega) (by rw [List.length_append]; simp; omega) h
    | zero =>
      intro i M w him hM h
      apply hl5
      intro k8 hk8
      have fin : k8 false w := by
        apply hk8
        rw [cond_false]
        have hq := h.qok
        have hnd : M.Nodup := by have := hq.nodup; rwa [one_snd] at this
        refine ⟨_, rfl, ?_⟩
        refine ready_lines_Line_spec h fun s3 w2 h => ?_
        rw [lineI_nat _ hp, one_line] at h
        refine h.al fun w3 h => ?_
        intro l19 hl19
        have loop2 : ∀ (m i : Nat) (ss : Sl) (w : World), i + m = M.length → Own w0.heap.size w0 w (SlT intE ss (M.take i) :: SlT intE s3 M :: QueueA b (oneL p (M.drop i ++ M.take i)) :: []) → l19 ss (i : Int) w := by
          intro m
          induction m with
          | succ m ih =>
            intro i ss w him h
            apply hl19
            have hl3 := h.len 1 rfl
            rw [show decide ((i : Int) < (s3.len : Int)) = true from by simp; omega, cond_true]
            have hM : M.drop i = M[i] :: M.drop (i + 1) := List.drop_eq_getElem_cons (by omega)
            have hnd2 : (M[i] :: (M.drop (i + 1) ++ M.take i)).Nodup := by
              have h1 : (M.take i ++ M.drop i).Perm (M.drop i ++ M.take i) := List.perm_append_comm
              rw [List.take_append_drop, hM] at h1
              exact h1.nodup_iff.1 hnd
            rw [hM, List.cons_append] at h
            have h' : Own w0.heap.size w0 w (QueueA b (oneL p (M[i] :: (M.drop (i + 1) ++ M.take i))) :: SlT intE ss (M.take i) :: SlT intE s3 M :: []) := h.take 2 rfl
            refine ready_Queue_Next_spec h' fun w4 h => ?_
            have en : nextR (oneL p (M[i] :: (M.drop (i + 1) ++ M.take i))) = some M[i] := by
              unfold nextR; rw [one_top hp, Option.bind_some, one_line]; rfl
            rw [en]
            intro k26 hk26
            rw [Option.isSome_some, Bool.not_true, cond_false]
            refine ready_Queue_Turn_spec h fun w5 h => ?_
            rw [one_turn hp hnd2] at h ⊢
            rw [Bool.not_true]
            apply hk26
            rw [cond_false, Option.getD_some]
            refine h.al fun w6 h => ?_
            refine app1_ints h 1 rfl (by rw [List.length_take]; omega) fun s' w7 hs' h => ?_
            rw [wr (by omega) (by omega)]
            refine ih (i + 1) s' w7 (by omega) ?_
            have et : M.take (i + 1) = M.take i ++ [M[i]] := by rw [List.take_add_one, List.getElem?_eq_getElem (by omega)]; rfl
            rw [et, ← List.append_assoc]
            have h : Own w0.heap.size w0 w7 (QueueA b (oneL p (M.drop (i + 1) ++ M.take i ++ [M[i]])) :: SlT intE s' (M.take i ++ [M[i]]) :: SlT intE s3 M :: []) := h
            exact (h.perm (List.Perm.swap _ _ _)).perm ((List.Perm.swap _ _ _).cons _)
          | zero =>
            intro i ss w him h
            have : i = M.length := by omega
            subst this
            rw [List.take_length, List.drop_length, List.nil_append] at h
            apply hl19
            have hl3 := h.len 1 rfl
            rw [show decide (((M.length : Nat) : Int) < (s3.len : Int)) = false from by simp; omega, cond_false]
            refine ref09_Nums_spec h 0 1 rfl rfl (by omega) fun w4 h => ?_
            rw [decide_eq_true rfl, cond_true]
            refine ⟨_, rfl, ?_⟩
            have h' : Own w0.heap.size w0 w4 (QueueA b (oneL p M) :: SlT intE ss M :: SlT intE s3 M :: []) := h.take 2 rfl
            refine ready_lines_Line_spec h' fun s5 w5 h => ?_
            rw [lineI_nat _ hp, one_line] at h
            refine ref09_Nums_spec h 0 3 rfl rfl (by omega) fun w6 h => ?_
            rw [decide_eq_true rfl, cond_true]
            cases M with
            | cons n M =>
              rw [show decide ((s3.len : Int) > 0) = true from by simp at hl3; simp; omega, cond_true]
              exact law09_fixed_spec h fun w7 h => hK w7 h.drop.drop.drop.drop
            | nil =>
              rw [show decide ((s3.len : Int) > 0) = false from by simp at hl3; simp; omega, cond_false]
              refine ready_Queue_Turn_spec h.drop fun w7 h => ?_
              have et : turnR (oneL p []) = (false, oneL p []) := by unfold turnR; rw [one_top0]
              rw [et] at h ⊢
              rw [Bool.not_false, cond_true]
              exact law09_fixed_spec h fun w8 h => hK w8 h.drop.drop.drop
        refine loop2 M.length 0 _ w3 (by omega) ?_
        rw [List.drop_zero, List.take_zero, List.append_nil]
        exact h.empty
      by_cases hl : (i : Int) < (l1.len : Int)
      · rw [show decide ((i : Int) < (l1.len : Int)) = true from by simpa using hl, cond_true, show decide ((i : Int) < 30) = false from by simp; omega]
        exact fin
      · rw [show decide ((i : Int) < (l1.len : Int)) = false from by simpa using hl, cond_false]
        exact fin
  exact loop1 (min l1.len 30) 0 [] w1 (by omega) (by simp) h
end
end Go.Proofs.Ytimicibeljkjnaa
