/- More laws of layer 9: lines, bits, turns: their contracts. -/
import Derived.Test.YtimicibeljkjnaaL2
set_option linter.unusedVariables false
set_option linter.unusedSimpArgs false
namespace Go.Proofs.Ytimicibeljkjnaa
open Go Go.Vc Go.Proofs

theorem shr_and_one (x i : Nat) (hx : x < 2 ^ 64) (hi : i < 64) : (andI .u64 (shrI .u64 (x : Int) (i : Int)) 1 == (1 : Int)) = x.testBit i := by
  rw [shr_nat x i (by omega)]
  have hbv : ∀ z : Nat, BitVec.ofInt IntKind.u64.bits (z : Int) = BitVec.ofNat 64 z := fun z => by
    apply BitVec.eq_of_toNat_eq
    simp [IntKind.bits, BitVec.toNat_ofInt]
  unfold andI
  rw [hbv, show (1 : Int) = ((1 : Nat) : Int) from rfl, hbv]
  have h1 : (BitVec.ofNat 64 (x / 2 ^ i) &&& BitVec.ofNat 64 1).toNat = (x / 2 ^ i) % 2 := by
    rw [BitVec.toNat_and, BitVec.toNat_ofNat, BitVec.toNat_ofNat]
    have : x / 2 ^ i < 2 ^ 64 := Nat.lt_of_le_of_lt (Nat.div_le_self _ _) hx
    rw [Nat.mod_eq_of_lt this, show 1 % 2 ^ 64 = 1 from by decide, Nat.and_one_is_mod]
  have h2 : (x / 2 ^ i) % 2 < 2 := Nat.mod_lt _ (by omega)
  show (IntKind.u64.wrap (((BitVec.ofNat 64 (x / 2 ^ i) &&& BitVec.ofNat 64 1).toNat : Nat) : Int) == _) = _
  rw [h1, wru (by omega) (by omega), Nat.testBit_eq_decide_div_mod_eq]
  by_cases e : (x / 2 ^ i) % 2 = 1
  · rw [e]; simp
  · have : (x / 2 ^ i) % 2 = 0 := by omega
    rw [this]; simp

section
variable {B : Nat} {w0 w : World} {R : List Asn} {b : Nat} {L : Qs}

theorem some1_iff {L : Qs} {p : Nat} : some1 L p = true ↔ ∃ n, (p, n) ∈ L := by
  unfold some1
  constructor
  · intro h
    cases hl : lineOf L p with
    | nil => rw [hl] at h; cases h
    | cons n l => exact ⟨n, mem_line.1 (by rw [hl]; simp)⟩
  · rintro ⟨n, hn⟩
    have := mem_line.2 hn
    cases hl : lineOf L p with
    | nil => rw [hl] at this; cases this
    | cons _ _ => rfl
theorem next_some {L : Qs} (h : QOk L) {p : Nat} (ht : topO L = some p) : ∃ n, nextR L = some n ∧ wh L n = some p := by
  obtain ⟨hp, n, l, hl⟩ := topO_out ht
  exact ⟨n, by unfold nextR; rw [ht]; simp [hl], wh_of_mem h.nodup (mem_line.1 (by rw [hl]; simp))⟩
theorem next_none {L : Qs} (ht : topO L = none) : nextR L = none := by unfold nextR; rw [ht]; rfl
theorem top_mono {f g : Nat → Bool} {p : Nat} (hfg : ∀ q, f q = true → g q = true) : ∀ {n : Nat}, topB f n = some p → ∃ q, topB g n = some q ∧ p ≤ q
  | n + 1, h => by
    simp only [topB] at h ⊢
    by_cases hg : g n = true
    · rw [if_pos hg]
      refine ⟨n, rfl, ?_⟩
      split at h
      · cases h; exact Nat.le_refl _
      · have := (topB_out h).1; omega
    · rw [if_neg hg]
      have hf : f n ≠ true := fun e => hg (hfg n e)
      rw [if_neg hf] at h
      exact top_mono hfg h
theorem top_congr {f g : Nat → Bool} (hfg : ∀ q, f q = g q) : ∀ n, topB f n = topB g n
  | 0 => rfl
  | n + 1 => by simp only [topB, hfg n, top_congr hfg n]
theorem turn_some {L : Qs} (h : QOk L) {p : Nat} (ht : topO L = some p) : (turnR L).1 = true ∧ QOk (turnR L).2 ∧ topO (turnR L).2 = some p := by
  obtain ⟨hp, n, l, hl⟩ := topO_out ht
  have e : turnR L = (true, (L.filter fun x => x.2 != n) ++ [(p, n)]) := by unfold turnR; rw [ht]; simp [hl]
  obtain ⟨h1, h2, _⟩ := turn_ok h hp hl
  rw [e]
  refine ⟨rfl, h1, ?_⟩
  rw [← ht]
  refine top_congr (fun q => ?_) 256
  unfold some1
  rw [h2]
  by_cases e : q = p
  · subst e; rw [if_pos rfl, hl]; simp
  · rw [if_neg e]
theorem put_some1 {L : Qs} {p n : Int} {q : Nat} (h : some1 L q = true) : some1 (putR L p n).2 q = true := by
  obtain ⟨m, hm⟩ := some1_iff.1 h
  refine some1_iff.2 ⟨m, ?_⟩
  unfold putR
  split
  · exact hm
  · split
    · exact hm
    · simp [hm]
theorem put_lineI {L : Qs} {p n q : Int} (h : q ≠ p) : lineI (putR L p n).2 q = lineI L q := by
  unfold putR
  split
  · rfl
  · split
    · rfl
    · unfold lineI
      split
      · rfl
      · rw [line_put, if_neg (by omega)]

theorem law09_ReadyLines_spec {l1 : Sl} {ops : Ops} {o2 o3 o4 p5 : Int} {K : Bool → World → Prop} (hi : Inp opE w0 l1 ops) (hg : ∀ x ∈ ops, opGood x) (w2 : (Lit.int .i64 o2).wf = true) (w3 : (Lit.int .i64 o3).wf = true) (w4 : (Lit.int .i64 o4).wf = true) (w5 : (Lit.int .i64 p5).wf = true)
    (h : Own w0.heap.size w0 w []) (hK : ∀ w', Own w0.heap.size w0 w' [] → K true w') : C.law09_ReadyLines l1 o2 o3 o4 p5 K w := by
  apply S.law09_ReadyLines_ok
  unfold S.law09_ReadyLines
  refine h.al fun w1 h => ?_
  refine ready_New_spec h fun b w2 h => ?_
  rw [Option.isNone_some, cond_false]
  intro l5 hl5
  refine fill_spec (lim := 40) (b := b) hi h (by decide) (fun w1 L hlen h => ?_) hl5
  have hq := h.qok
  refine ⟨o3, h.ld 1 rfl rfl, ?_⟩
  by_cases e : p5 = o3
  · rw [show (p5 == o3) = true from by simpa using e, cond_true]
    exact law09_fixed_spec h fun w2 h => hK w2 h.drop.drop
  rw [show (p5 == o3) = false from by simpa using e, cond_false]
  refine ready_Queue_Next_spec h fun w2 h => ?_
  refine ⟨_, rfl, ?_⟩
  refine ready_lines_Where_spec h fun w3 h => ?_
  refine ⟨_, rfl, ?_⟩
  refine ready_lines_Line_spec h fun s1 w4 h => ?_
  refine ⟨o3, h.ld 2 rfl rfl, o4, h.ld 2 rfl rfl, ?_⟩
  refine ready_Queue_Put_spec (h.perm (List.Perm.swap _ _ _)) (by omega) fun w5 h => ?_
  refine ⟨_, rfl, ?_⟩
  have hq2 := h.qok
  have hl2 := Nat.le_trans (putR_len L o3 o4) (Nat.succ_le_succ hlen)
  refine ready_lines_Line_spec h fun s2 w6 h => ?_
  rw [put_lineI e] at h
  have e1 := h.len 0 rfl
  have e2 := h.len 2 rfl
  rw [show ((s1.len : Int) != (s2.len : Int)) = false from by simp; omega, cond_false]
  have hshort : (lineI L p5).length ≤ 40 := by
    unfold lineI; split
    · simp
    · exact Nat.le_trans (line_len _ _) hlen
  intro l42 hl42
  have loop : ∀ (m i : Nat) (w' : World), i + m = (lineI L p5).length → Own w0.heap.size w0 w' (SlT intE s2 (lineI L p5) :: QueueA b (putR L o3 o4).2 :: SlT intE s1 (lineI L p5) :: BlkA w.heap.size [.int .i64 o2, .int .i64 o3, .int .i64 o4] :: []) → l42 (i : Int) w' := by
    intro m
    induction m with
    | succ m ih =>
      intro i w' him h
      apply hl42
      rw [show decide ((i : Int) < (s1.len : Int)) = true from by simp; omega, cond_true]
      refine h.dr fun w7 h => ?_
      have hx : (lineI L p5)[i]? = some (lineI L p5)[i] := List.getElem?_eq_getElem (by omega)
      obtain ⟨a, ha, hc⟩ := h.getI 2 rfl hx
      obtain ⟨a', ha', hc'⟩ := h.getI 0 rfl hx
      refine ⟨a, ha, by omega, by omega, _, hc, a', ha', by omega, by omega, _, hc', ?_⟩
      rw [show ((lineI L p5)[i] != (lineI L p5)[i]) = false from by simp, cond_false, wr (by omega) (by omega)]
      exact ih (i + 1) w7 (by omega) h
    | zero =>
      intro i w' him h
      apply hl42
      rw [show decide ((i : Int) < (s1.len : Int)) = false from by simp; omega, cond_false]
      refine ready_Queue_Turn_spec (h.perm (List.Perm.swap _ _ _)) fun w7 h => ?_
      refine ready_Queue_Next_spec h fun w8 h => ?_
      refine ⟨_, rfl, ?_⟩
      refine ready_lines_Where_spec h fun w9 h => ?_
      have hlt : (turnR (putR L o3 o4).2).2.length ≤ 1000 := by
        unfold turnR
        split
        · simp; omega
        · split
          · have := List.length_filter_le (fun x : Nat × Int => x.2 != ‹Int›) (putR L o3 o4).2
            simp only [List.length_append, List.length_cons, List.length_nil]; omega
          · simp; omega
      have e300 : ∀ L : Qs, putR L 300 1 = (1, L) := fun L => by unfold putR; rw [if_pos (by omega)]
      have fin : ∀ (w' : World), Own w0.heap.size w0 w' (QueueA b (turnR (putR L o3 o4).2).2 :: SlT intE s2 (lineI L p5) :: SlT intE s1 (lineI L p5) :: BlkA w.heap.size [.int .i64 o2, .int .i64 o3, .int .i64 o4] :: []) →
          C.ready_Queue_Put (some ⟨b, 0, none⟩) 300 1 (fun r59 w60 => bif r59 == 1 then C.law09_fixed (fun r61 w62 => K r61 w62) w60 else K false w60) w' := fun w' h => by
        refine ready_Queue_Put_spec h (by omega) fun w10 h => ?_
        rw [e300] at h ⊢
        rw [show ((1 : Int) == 1) = true from rfl, cond_true]
        exact law09_fixed_spec h fun w11 h => hK w11 h.drop.drop.drop.drop
      cases ht : topO L with
      | none =>
        rw [next_none ht, Option.isSome_none, Bool.not_false, cond_true]
        exact fin w9 h
      | some p =>
        obtain ⟨n, en, ew⟩ := next_some hq ht
        rw [en]
        simp only [Option.isSome_some, Bool.not_true, cond_false, Option.getD_some, ew, Option.map_some]
        obtain ⟨p2, ht2, hle⟩ := top_mono (fun q hq => put_some1 (p := o3) (n := o4) hq) ht
        obtain ⟨t1, t2, t3⟩ := turn_some hq2 ht2
        obtain ⟨n3, en3, ew3⟩ := next_some t2 t3
        rw [t1, cond_true, en3]
        simp only [Option.getD_some, ew3, Option.map_some]
        rw [show decide ((p2 : Int) ≥ (p : Int)) = true from by simp; omega, cond_true]
        exact fin w9 h
  exact loop (lineI L p5).length 0 w6 (by omega) h
end
end Go.Proofs.Ytimicibeljkjnaa
