/- The laws of layer 9 that ask neither for a copy nor for the document's answer: their contracts. -/
import Derived.Test.YtimicibeljkjnaaL
set_option linter.unusedVariables false
set_option linter.unusedSimpArgs false
namespace Go.Proofs.Ytimicibeljkjnaa
open Go Go.Vc Go.Proofs

section
variable {B : Nat} {w0 w : World} {R : List Asn} {b : Nat} {L : Qs}

theorem ref09_Nums_spec {s1 s2 : Sl} {xs ys : List Int} {K : Bool → World → Prop} (h : Own B w0 w R) (i j : Nat) (hi : R[i]? = some (SlT intE s1 xs)) (hj : R[j]? = some (SlT intE s2 ys)) (hs : xs.length < 1000000000)
    (hK : ∀ w', Own B w0 w' R → K (decide (xs = ys)) w') : C.ref09_Nums s1 s2 K w := by
  apply S.ref09_Nums_ok
  unfold S.ref09_Nums
  have l1 := h.len i hi
  have l2 := h.len j hj
  by_cases hl : xs.length = ys.length
  · rw [show ((s1.len : Int) != (s2.len : Int)) = false from by simp; omega, cond_false]
    intro l3 hl3
    have loop : ∀ (m k : Nat) (w : World), k + m = xs.length → xs.take k = ys.take k → Own B w0 w R → l3 (k : Int) w := by
      intro m
      induction m with
      | zero =>
        intro k w hk ht h
        apply hl3
        rw [show decide ((k : Int) < (s1.len : Int)) = false from by simp; omega, cond_false]
        rw [List.take_of_length_le (by omega), List.take_of_length_le (by omega)] at ht
        have := hK w h
        rw [decide_eq_true ht] at this
        exact this
      | succ m ih =>
        intro k w hk ht h
        apply hl3
        rw [show decide ((k : Int) < (s1.len : Int)) = true from by simp; omega, cond_true]
        refine h.dr fun w1 h => ?_
        have hx : xs[k]? = some xs[k] := List.getElem?_eq_getElem (by omega)
        have hy : ys[k]? = some ys[k] := List.getElem?_eq_getElem (by omega)
        obtain ⟨a, ha, hc⟩ := h.getI i hi hx
        obtain ⟨a', ha', hc'⟩ := h.getI j hj hy
        refine ⟨a, ha, by omega, by omega, _, hc, a', ha', by omega, by omega, _, hc', ?_⟩
        by_cases e : xs[k] = ys[k]
        · rw [show (xs[k] != ys[k]) = false from by simpa using e, cond_false, wr (by omega) (by omega)]
          refine ih (k + 1) w1 (by omega) ?_ h
          rw [List.take_add_one, List.take_add_one, ht, hx, hy, e]
        · rw [show (xs[k] != ys[k]) = true from by simpa using e, cond_true]
          have := hK w1 h
          rw [decide_eq_false (by rintro rfl; exact e rfl)] at this
          exact this
    exact loop xs.length 0 w (by omega) rfl h
  · rw [show ((s1.len : Int) != (s2.len : Int)) = true from by simp; omega, cond_true]
    have := hK w h
    rw [decide_eq_false (by rintro rfl; exact hl rfl)] at this
    exact this

theorem putR_len (L : Qs) (p n : Int) : (putR L p n).2.length ≤ L.length + 1 := by
  unfold putR
  split
  · exact Nat.le_succ _
  · split
    · exact Nat.le_succ _
    · simp
/-- A script's calls, put in. -/
theorem fill_spec {l1 : Sl} {ops : Ops} {lim : Nat} {FIN : World → Prop} {l9 : Int → World → Prop} (hi : Inp opE w0 l1 ops) (h : Own w0.heap.size w0 w (QueueA b [] :: R)) (hlim : lim ≤ 1000)
    (hF : ∀ w' L, L.length ≤ lim → Own w0.heap.size w0 w' (QueueA b L :: R) → FIN w')
    (hl : ∀ (i10 : Int) (w11 : World), (∀ k12 : Bool → World → Prop,
      (∀ (t13 : Bool) (w14 : World), (bif t13 then
        (Dr w14 fun w15 =>
          ∃ a16 : Addr, l1.a = some a16 ∧ 0 ≤ i10 ∧ i10 < (l1.len : Int) ∧
          ∃ prio17 : Int, w15.cell? ((a16.add (i10.toNat * 3)).add 1) = some (.int .i64 prio17) ∧
          ∃ a18 : Addr, l1.a = some a18 ∧ 0 ≤ i10 ∧ i10 < (l1.len : Int) ∧
          ∃ n19 : Int, w15.cell? ((a18.add (i10.toNat * 3)).add 2) = some (.int .i64 n19) ∧
          (C.ready_Queue_Put (some ⟨b, 0, none⟩) prio17 n19 (fun r20 w21 => l9 (IntKind.i64.wrap (i10 + (1 : Int))) w21) w15) ∧ True)
        else FIN w14) → k12 t13 w14) →
      (bif decide (i10 < (l1.len : Int)) then (k12 (decide (i10 < (lim : Int))) w11) else (k12 false w11))) → l9 i10 w11) : l9 0 w := by
  have loop : ∀ (m i : Nat) (L : Qs) (w : World), i + m = min l1.len lim → L.length ≤ i → Own w0.heap.size w0 w (QueueA b L :: R) → l9 (i : Int) w := by
    intro m
    induction m with
    | succ m ih =>
      intro i L w him hL h
      apply hl
      intro k9 hk9
      rw [show decide ((i : Int) < (l1.len : Int)) = true from by simp; omega, cond_true]
      rw [show decide ((i : Int) < (lim : Int)) = true from by simp; omega]
      apply hk9
      rw [cond_true]
      refine h.dr fun w3 h => ?_
      obtain ⟨x, hx⟩ := hi.lt (i := i) (by omega)
      obtain ⟨a, ha, hc0, hc⟩ := hi.get0 h hx
      refine ⟨a, ha, by omega, by omega, x.2.1, hc 1 _ rfl, a, ha, by omega, by omega, x.2.2, hc 2 _ rfl, ?_, trivial⟩
      refine ready_Queue_Put_spec h (by omega) fun w4 h => ?_
      rw [wr (by omega) (by omega)]
      exact ih (i + 1) _ w4 (by omega) (Nat.le_trans (putR_len _ _ _) (by omega)) h
    | zero =>
      intro i L w him hL h
      apply hl
      intro k9 hk9
      have fin : k9 false w := by
        apply hk9
        rw [cond_false]
        exact hF w L (by omega) h
      by_cases hl : (i : Int) < (l1.len : Int)
      · rw [show decide ((i : Int) < (l1.len : Int)) = true from by simpa using hl, cond_true, show decide ((i : Int) < (lim : Int)) = false from by simp; omega]
        exact fin
      · rw [show decide ((i : Int) < (l1.len : Int)) = false from by simpa using hl, cond_false]
        exact fin
  exact loop (min l1.len lim) 0 [] w (by omega) (by simp) h

theorem _root_.Go.Vc.Own.qok (h : Own B w0 w (QueueA b L :: R)) : QOk L := by
  obtain ⟨x, hq, _⟩ := h.queue
  exact hq
theorem wh_prio {L : Qs} (h : QOk L) {n : Int} {p : Nat} (hw : wh L n = some p) : p < 256 := h.prio _ (wh_mem hw)
theorem lineI_nat (L : Qs) {p : Nat} (hp : p < 256) : lineI L (p : Int) = lineOf L p := by
  unfold lineI; rw [if_neg (by omega)]; simp

theorem law09_ReadyTakes_spec {l1 : Sl} {ops : Ops} {n2 : Int} {K : Bool → World → Prop} (hi : Inp opE w0 l1 ops) (hg : ∀ x ∈ ops, opGood x) (hw : (Lit.int .i64 n2).wf = true) (h : Own w0.heap.size w0 w [])
    (hK : ∀ w', Own w0.heap.size w0 w' [] → K true w') : C.law09_ReadyTakes l1 n2 K w := by
  apply S.law09_ReadyTakes_ok
  unfold S.law09_ReadyTakes
  refine ready_New_spec h fun b w1 h => ?_
  rw [Option.isNone_some, cond_false]
  intro l5 hl5
  refine fill_spec (lim := 40) (b := b) hi h (by decide) (fun w1 L hlen h => ?_) hl5
  have hq := h.qok
  refine ⟨_, rfl, ?_⟩
  refine ready_lines_Where_spec h fun w2 h => ?_
  refine ⟨_, rfl, ?_⟩
  refine ready_lines_Line_spec h fun s3 w3 h => ?_
  refine ready_Queue_Take_spec (h.perm (List.Perm.swap _ _ _)) fun w4 h => ?_
  cases hwh : wh L n2 with
  | none =>
    rw [show takeR L n2 = (91, L) from by unfold takeR; rw [hwh]]
    rw [Option.isSome_none, Bool.not_false, cond_true, show ((91 : Int) == 91) = true from rfl, cond_true]
    refine law09_fixed_spec h fun w5 h => hK w5 h.drop.drop
  | some p =>
    have hp := wh_prio hq hwh
    have et : takeR L n2 = (0, takeL L n2) := by unfold takeR takeL; rw [hwh]
    rw [hwh, Option.map_some, Option.getD_some, lineI_nat L hp, et] at h
    rw [et]
    simp only [Option.isSome_some, Bool.not_true, cond_false, Option.map_some, Option.getD_some]
    refine h.al fun w5 h => ?_
    intro l30 hl30
    have hll := line_len L p
    have hn2 : wh (takeL L n2) n2 = none := by unfold takeL; rw [wh_take, if_pos rfl]
    have loop : ∀ (m i : Nat) (sr : Sl) (w : World), i + m = (lineOf L p).length → Own w0.heap.size w0 w (SlT intE sr (((lineOf L p).take i).filter fun x => x != n2) :: QueueA b (takeL L n2) :: SlT intE s3 (lineOf L p) :: []) → l30 sr (i : Int) w := by
      intro m
      induction m with
      | succ m ih =>
        intro i sr w him h
        apply hl30
        have hlen3 := h.len 2 rfl
        rw [show decide ((i : Int) < (s3.len : Int)) = true from by simp; omega, cond_true]
        have hx : (lineOf L p)[i]? = some (lineOf L p)[i] := List.getElem?_eq_getElem (by omega)
        obtain ⟨a, ha, hc⟩ := h.getI 2 rfl hx
        refine ⟨a, ha, by omega, by omega, _, hc, ?_⟩
        have ht : (lineOf L p).take (i + 1) = (lineOf L p).take i ++ [(lineOf L p)[i]] := by rw [List.take_add_one, hx]; rfl
        by_cases e : (lineOf L p)[i] = n2
        · rw [show ((lineOf L p)[i] != n2) = false from by simpa using e, cond_false, wr (by omega) (by omega)]
          refine ih (i + 1) sr w (by omega) ?_
          rw [ht, List.filter_append, List.filter_cons, show ((lineOf L p)[i] != n2) = false from by simpa using e]
          simpa using h
        · rw [show ((lineOf L p)[i] != n2) = true from by simpa using e, cond_true, wr (by omega) (by omega)]
          refine ⟨a, ha, by omega, by omega, _, hc, ?_⟩
          refine h.al fun w6 h => ?_
          refine app1_ints h 0 rfl (Nat.le_trans (List.length_filter_le _ _) (by rw [List.length_take]; omega)) fun s' w7 hs' h => ?_
          refine ih (i + 1) s' w7 (by omega) ?_
          rw [ht, List.filter_append, List.filter_cons, show ((lineOf L p)[i] != n2) = true from by simpa using e]
          exact h
      | zero =>
        intro i sr w him h
        apply hl30
        have hlen3 := h.len 2 rfl
        rw [show decide ((i : Int) < (s3.len : Int)) = false from by simp; omega, cond_false]
        rw [List.take_of_length_le (by omega)] at h
        have hmid : lineOf (takeL L n2) p = (lineOf L p).filter fun x => x != n2 := line_filter L n2 p
        have hfl := List.length_filter_le (fun x => x != n2) (lineOf L p)
        refine ⟨_, rfl, ?_⟩
        refine ready_lines_Where_spec (h.perm (List.Perm.swap _ _ _)) fun w6 h => ?_
        rw [hn2]
        refine ⟨_, rfl, ?_⟩
        refine ready_lines_Line_spec h fun sm w7 h => ?_
        rw [lineI_nat _ hp, hmid] at h
        have h : Own w0.heap.size w0 w7 (QueueA b (takeL L n2) :: SlT intE sm ((lineOf L p).filter fun x => x != n2) :: SlT intE sr ((lineOf L p).filter fun x => x != n2) :: SlT intE s3 (lineOf L p) :: []) := h.perm (List.Perm.swap _ _ _)
        have hlt : (takeL L n2).length ≤ 40 := Nat.le_trans (List.length_filter_le _ _) hlen
        refine ready_Queue_Put_spec h (by omega) fun w8 h => ?_
        have ep : putR (takeL L n2) (p : Int) n2 = (0, takeL L n2 ++ [(p, n2)]) := by
          unfold putR; rw [if_neg (by omega), hn2]; simp
        rw [ep] at h ⊢
        refine h.al fun w9 h => ?_
        have h := h.empty (E := intE)
        have hr := h.slO 3 rfl
        have hrl := h.len 3 rfl
        refine app_ints (s := ⟨some (Addr.mk w8.heap.size 0 none), 0, 0⟩) (xs := []) h 0 rfl hr hrl (by simp only [List.length_nil]; omega) fun sw w10 _ h => ?_
        refine h.al fun w11 h => ?_
        refine app1_ints (xs := [] ++ (lineOf L p).filter fun x => x != n2) h 0 rfl (by simp only [List.nil_append]; omega) fun s' w12 _ h => ?_
        rw [show ((0 : Int) == 0) = true from rfl, cond_true, Option.isSome_none, Bool.not_false, cond_true]
        refine ref09_Nums_spec h 2 3 rfl rfl (by omega) fun w13 h => ?_
        rw [decide_eq_true rfl, cond_true, cond_true]
        refine ⟨_, rfl, ?_⟩
        refine ready_lines_Line_spec (h.perm (List.Perm.swap _ _ _)) fun sl w14 h => ?_
        rw [lineI_nat _ hp, line_put, if_pos rfl, hmid] at h
        refine ref09_Nums_spec h 0 2 rfl rfl (by simp; omega) fun w15 h => ?_
        rw [List.nil_append, decide_eq_true rfl, cond_true]
        exact law09_fixed_spec h fun w16 h => hK w16 h.drop.drop.drop.drop.drop.drop
    exact loop (lineOf L p).length 0 _ w5 (by omega) h.empty
end
end Go.Proofs.Ytimicibeljkjnaa
