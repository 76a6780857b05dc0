/- There are at most 64 nodes: the contract of the law. -/
import Derived.Test.YtdlcejjiccknlaaF5
import Derived.Test.YtdlcejjiccknlaaS0
set_option linter.unusedVariables false
set_option linter.unusedSimpArgs false
set_option maxRecDepth 8000
namespace Go.Proofs.Ytdlcejjiccknlaa
open Go Go.Vc Go.Proofs

theorem and_le (x : Int) (m : Nat) (hm : m < 2 ^ 62) : ∃ p : Nat, p ≤ m ∧ andI .i64 x (m : Int) = (p : Int) := by
  unfold andI
  have e2 : (2 : Nat) ^ 62 = 4611686018427387904 := by decide
  have hle : (BitVec.ofInt IntKind.i64.bits x &&& BitVec.ofInt IntKind.i64.bits (m : Int)).toNat ≤ m := by
    rw [BitVec.toNat_and]
    refine Nat.le_trans Nat.and_le_right ?_
    have : (BitVec.ofInt IntKind.i64.bits (m : Int)).toNat = m % 2 ^ 64 := by simp [IntKind.bits, BitVec.toNat_ofInt]
    rw [this]; exact Nat.mod_le _ _
  exact ⟨_, hle, wr (by omega) (by omega)⟩
/-- Nodes that were made, some of which are gone. -/
def goneL (d : Nat → Bool) (z : Int) (n : Nat) : List Int := (List.range n).map fun j => if d j then -1 else z
theorem gone_len (d : Nat → Bool) (z : Int) (n : Nat) : (goneL d z n).length = n := by unfold goneL; simp
theorem gone_succ (d : Nat → Bool) (z : Int) (n : Nat) : goneL d z (n + 1) = goneL d z n ++ [if d n then -1 else z] := by
  unfold goneL; rw [List.range_succ, List.map_append]; rfl
theorem gone_size (d : Nat → Bool) {z : Int} (hz : z ≠ -1) {n i : Nat} (hi : i < n) : sizeN (goneL d z n) (i : Int) = if d i then none else some z := by
  unfold sizeN goneL
  rw [if_neg (by omega), Int.toNat_natCast, List.getElem?_map, List.getElem?_range hi]
  simp only [Option.map_some]
  by_cases e : d i = true
  · simp [e]
  · simp [e, hz]

section
variable {B : Nat} {w0 w : World} {R L : List Asn}
theorem law05_SlotsFull_spec {bits1 drop2 : Int} {K : Bool → World → Prop} (h1 : (Lit.int .i64 bits1).wf = true) (h2 : (Lit.int .i64 drop2).wf = true) (h : Own w0.heap.size w0 w []) (hK : ∀ w', Own w0.heap.size w0 w' [] → K true w') : C.law05_SlotsFull bits1 drop2 K w := by
  apply S.law05_SlotsFull_ok
  unfold S.law05_SlotsFull
  obtain ⟨q, hq, eq⟩ := and_le bits1 7 (by decide)
  have ez : IntKind.i64.wrap (1 + andI .i64 bits1 7) = ((q + 1 : Nat) : Int) := by
    have eq' : andI .i64 bits1 7 = (q : Int) := eq
    rw [eq', wr (by omega) (by omega)]; omega
  rw [ez]
  generalize hz : ((q + 1 : Nat) : Int) = z
  have hz1 : 1 ≤ z ∧ z ≤ 8 := by omega
  have h31 : ∀ i : Int, 0 ≤ andI .i64 i 31 := fun i => by
    obtain ⟨p, _, e⟩ := and_le i 31 (by decide)
    have e' : andI .i64 i 31 = (p : Int) := e
    rw [e']; omega
  have h01 : ∀ x : Int, andI .i64 x 1 = 0 ∨ andI .i64 x 1 = 1 := fun x => by
    obtain ⟨p, hp, e⟩ := and_le x 1 (by decide)
    have e' : andI .i64 x 1 = (p : Int) := e
    rw [e']; omega
  refine slots_New_spec h fun b w1 h => ?_
  rw [Option.isNone_some, cond_false]
  generalize hd : (fun j : Nat => andI .i64 (shrI .i64 drop2 (andI .i64 (j : Int) 31)) 1 == 1) = d
  have hdj : ∀ j : Nat, (andI .i64 (shrI .i64 drop2 (andI .i64 (j : Int) 31)) 1 == 1) = d j := fun j => by rw [← hd]
  have hdz : ∀ j : Nat, (andI .i64 (shrI .i64 drop2 (andI .i64 (j : Int) 31)) 1 == 0) = !d j := fun j => by
    rw [← hdj]
    rcases h01 (shrI .i64 drop2 (andI .i64 (j : Int) 31)) with e | e <;> rw [e] <;> rfl
  intro l5 hl5
  have loop1 : ∀ (m i : Nat) (w : World), i + m = 64 → Own w0.heap.size w0 w (NodesA b (goneL d z i) fH0 :: []) → l5 (i : Int) w := by
    intro m
    induction m with
    | succ m ih =>
      intro i w him h
      apply hl5
      rw [show decide ((i : Int) < 64) = true from by simp; omega, cond_true]
      refine slots_Nodes_Make_spec h fun w2 h => ?_
      have em : makeN (goneL d z i) z = ((i : Int), 0, goneL d z i ++ [z]) := by unfold makeN; rw [if_neg (by omega), gone_len, if_neg (by omega)]
      rw [em] at h ⊢
      intro k11 hk11
      rw [show ((0 : Int) != 0) = false from rfl, cond_false, bne_self_eq_false, cond_false, hdj i]
      have next : ∀ w', Own w0.heap.size w0 w' (NodesA b (goneL d z (i + 1)) fH0 :: []) → k11 false w' := fun w' h => by
        apply hk11
        rw [cond_false, wr (by omega) (by omega)]
        exact ih (i + 1) w' (by omega) h
      refine ⟨h31 _, ?_⟩
      cases hdi : d i with
      | true =>
        rw [cond_true]
        have hsz : sizeN (goneL d z i ++ [z]) (i : Int) = some z := by
          unfold sizeN
          rw [if_neg (by omega), Int.toNat_natCast, List.getElem?_append_right (by rw [gone_len]; omega), gone_len, Nat.sub_self]
          simp; omega
        refine slots_Nodes_Drop_spec h (fun hn => by rw [hsz] at hn; cases hn) (fun _ hb => by obtain ⟨_, _, hc⟩ := hb; cases hc) (fun _ _ w3 h => ?_)
        rw [show ((0 : Int) != 0) = false from rfl]
        refine next w3 ?_
        rw [gone_succ, hdi, if_pos rfl]
        rw [Int.toNat_natCast, List.set_append_right _ _ (by rw [gone_len]; omega), gone_len, Nat.sub_self] at h
        exact h
      | false =>
        rw [cond_false]
        refine next w2 ?_
        rw [gone_succ, hdi, if_neg (by simp)]
        exact h
    | zero =>
      intro i w him h
      have : i = 64 := by omega
      subst this
      apply hl5
      rw [show decide (((64 : Nat) : Int) < 64) = false from rfl, cond_false]
      refine slots_Nodes_Make_spec h fun w2 h => ?_
      have em : makeN (goneL d z 64) z = (0, 2, goneL d z 64) := by unfold makeN; rw [if_neg (by omega), gone_len, if_pos (by omega)]
      rw [em] at h ⊢
      intro l19 hl19
      have loop2 : ∀ (m i : Nat), i + m = 64 → l19 (i : Int) w2 := by
        intro m
        induction m with
        | succ m ih2 =>
          intro i him
          apply hl19
          rw [show decide ((i : Int) < 64) = true from by simp; omega, cond_true]
          refine slots_Nodes_Size_spec h 0 rfl ?_
          rw [gone_size d (by omega) (by omega : i < 64)]
          intro k25 hk25
          refine ⟨h31 _, ?_⟩
          rw [hdz i]
          have next : k25 false w2 := by
            apply hk25
            rw [cond_false, wr (by omega) (by omega)]
            exact ih2 (i + 1) (by omega)
          cases hdi : d i with
          | true =>
            rw [if_pos rfl]
            exact next
          | false =>
            rw [if_neg (by simp)]
            simp only [Option.isSome_some, Bool.not_false, beq_self_eq_true, Bool.not_true, cond_false, cond_true, Option.getD_some, bne_self_eq_false]
            exact next
        | zero =>
          intro i him
          have : i = 64 := by omega
          subst this
          apply hl19
          rw [show decide (((64 : Nat) : Int) < 64) = false from rfl, cond_false, show ((2 : Int) == 2) = true from rfl, cond_true]
          exact law05_fixed_spec h fun w3 h => hK w3 h.drop
      exact loop2 64 0 rfl
  exact loop1 64 0 w1 rfl h
end
end Go.Proofs.Ytdlcejjiccknlaa
