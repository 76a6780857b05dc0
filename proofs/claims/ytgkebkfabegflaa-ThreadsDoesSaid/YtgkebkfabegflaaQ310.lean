/- The document's answer on queues: what its calls come to. -/
import Derived.Test.YtgkebkfabegflaaQ210
import Derived.Test.YtgkebkfabegflaaS1
set_option linter.unusedVariables false
set_option linter.unusedSimpArgs false
namespace Go.Proofs.Ytgkebkfabegflaa
open Go Go.Vc Go.Proofs

theorem take_len {L : Qs} (h : (L.map (·.2)).Nodup) {p : Nat} {n : Int} (hm : (p, n) ∈ L) : (L.filter fun x => x.2 != n).length + 1 = L.length := by
  induction L with
  | nil => cases hm
  | cons a L ih =>
    simp only [List.map_cons, List.nodup_cons, List.mem_map, not_exists, not_and] at h
    rw [List.filter_cons]
    by_cases e : a.2 = n
    · have e' : (a.2 != n) = false := by simpa using e
      rw [e']
      have : L.filter (fun x => x.2 != n) = L := List.filter_eq_self.2 fun x hx => by
        simp only [bne_iff_ne, ne_eq]
        intro e2
        exact h.1 x hx (e2.trans e.symm)
      simp [this]
    · have e' : (a.2 != n) = true := by simpa using e
      rw [e']
      have : (p, n) ∈ L := by
        rcases List.mem_cons.1 hm with rfl | hm
        · exact absurd rfl e
        · exact hm
      simp only [if_true, List.length_cons]
      rw [ih h.2 this]
theorem lineI_nat (L : Qs) {p : Nat} (hp : p < 256) : lineI L (p : Int) = lineOf L p := by
  unfold lineI; rw [if_neg (by omega)]; simp

theorem next_none {L : Qs} (ht : topO L = none) : nextR L = none := by unfold nextR; rw [ht]; rfl
theorem QOk.filter {L : Qs} (h : QOk L) (n : Int) : QOk (L.filter fun x => x.2 != n) :=
  ⟨List.Nodup.sublist (List.filter_sublist.map _) h.nodup, fun y hy => h.prio y (List.mem_filter.1 hy).1, Nat.le_trans (List.length_filter_le _ _) h.few⟩
theorem ldIn {w : World} {a : Addr} {x y : Int} {f : Int → Int → Prop} (g1 : w.cell? a = some (.int .i64 x)) (g2 : w.cell? (a.add 1) = some (.int .i64 y)) (hf : f x y) : LdL w a 0 [.i .i64, .i .i64] f := ⟨_, g1, _, g2, hf⟩
def inE : EncT (Nat × Int) := ⟨2, fun x => [.int .i64 (x.1 : Int), .int .i64 x.2], fun _ => rfl, fun x v h => by
  simp only [List.mem_cons, List.not_mem_nil, or_false] at h
  rcases h with rfl | rfl <;> rfl, by decide⟩
/-- The document's queue at a block. -/
def RefA (k : Nat) (L : Qs) : Asn := ExA fun s : Sl => StarA [PureA (QOk L), BlkA k [slV s], SlT inE s L]

section
variable {B : Nat} {w0 w : World} {R : List Asn} {k : Nat} {L : Qs}
theorem _root_.Go.Vc.Own.refq (h : Own B w0 w (RefA k L :: R)) : ∃ s : Sl, QOk L ∧ Own B w0 w (BlkA k [slV s] :: SlT inE s L :: R) := by
  obtain ⟨s, h⟩ := h.ex
  obtain ⟨h1, h2⟩ := Own.pure h.star
  exact ⟨s, h1, h2⟩
theorem _root_.Go.Vc.Own.mk_refq {s : Sl} (h1 : QOk L) (h : Own B w0 w (BlkA k [slV s] :: SlT inE s L :: R)) : Own B w0 w (RefA k L :: R) := Own.mk_ex s (Own.mk_star (Own.mk_pure h1 h))
theorem app1_in {s : Sl} {xs : Qs} {y : Nat × Int} {c : Nat} {C : Sl → World → Prop} (h : Own B w0 w (BlkA c (inE.enc y) :: R)) (i : Nat) (hL : R[i]? = some (SlT inE s xs))
    (hbig : xs.length ≤ 100000000000) (hk : ∀ s' w', s'.len = xs.length + 1 → Own B w0 w' (R.set i (SlT inE s' (xs ++ [y]))) → C s' w') :
    ∃ s' w', AppR Try.prog [85, 85] 85 (.slice s.a s.len s.cap) (.slice (some (Addr.mk c 0 none)) 1 1) w s' w' ∧ C s' w' :=
  Own.app1 (E := inE) (y := y) Try.underlying85 (show Try.prog.info? 99 = some Try.t99 from by kernel_rfl) (zv := .agg #[.int .i64 0, .int .i64 0]) (by kernel_rfl) (by kernel_rfl) rfl (by decide) h i hL (by
    have e : Try.t99.bytes = 16 := by kernel_rfl
    rw [e]; omega) hk
/-- An element's two cells. -/
theorem _root_.Go.Vc.Own.getIn {s : Sl} {xs : Qs} (h : Own B w0 w R) (i : Nat) (hi : R[i]? = some (SlT inE s xs)) {j : Nat} {x : Nat × Int} (hj : xs[j]? = some x) :
    ∃ a, s.a = some a ∧ w.cell? (a.add (j * 2)) = some (.int .i64 (x.1 : Int)) ∧ w.cell? ((a.add (j * 2)).add 1) = some (.int .i64 x.2) := by
  obtain ⟨b, o, ha, hc⟩ := h.get i hi hj
  exact ⟨_, ha, by rw [add_mk]; exact hc 0 _ rfl, by rw [add_mk, add_mk]; exact hc 1 _ rfl⟩

theorem ref09_Queue_Where_spec {n : Int} {K : Int → Bool → World → Prop} (h : Own B w0 w (RefA k L :: R))
    (hK : K (((wh L n).map fun p : Nat => (p : Int)).getD 0) (wh L n).isSome w) : C.ref09_Queue_Where (some ⟨k, 0, none⟩) n K w := by
  apply S.ref09_Queue_Where_ok
  unfold S.ref09_Queue_Where
  obtain ⟨s, hq, h⟩ := h.refq
  have hlen := h.len 1 rfl
  have hfew := hq.few
  intro l3 hl3
  have loop : ∀ (m i : Nat), i + m = L.length → wh (L.drop i) n = wh L n → l3 (i : Int) w := by
    intro m
    induction m with
    | zero =>
      intro i him hw
      apply hl3
      refine ⟨_, rfl, s, h.ld0 0 rfl rfl, ?_⟩
      rw [show decide ((i : Int) < (s.len : Int)) = false from by simp; omega, cond_false]
      rw [List.drop_eq_nil_of_le (by omega)] at hw
      rw [← hw] at hK
      exact hK
    | succ m ih =>
      intro i him hw
      apply hl3
      refine ⟨_, rfl, s, h.ld0 0 rfl rfl, ?_⟩
      rw [show decide ((i : Int) < (s.len : Int)) = true from by simp; omega, cond_true]
      have hx : L[i]? = some L[i] := List.getElem?_eq_getElem (by omega)
      obtain ⟨a, ha, h1, h2⟩ := h.getIn 1 rfl hx
      refine ⟨_, rfl, s, h.ld0 0 rfl rfl, a, ha, by omega, by omega, _, h2, ?_⟩
      rw [List.drop_eq_getElem_cons (by omega)] at hw
      by_cases e : L[i].2 = n
      · rw [show (L[i].2 == n) = true from by simpa using e, cond_true]
        refine ⟨_, rfl, s, h.ld0 0 rfl rfl, a, ha, by omega, by omega, _, h1, ?_⟩
        have : wh L n = some L[i].1 := by
          rw [← hw]; unfold wh
          rw [List.find?_cons, show (L[i].2 == n) = true from by simpa using e]; rfl
        rw [this] at hK; exact hK
      · rw [show (L[i].2 == n) = false from by simpa using e, cond_false, wr (by omega) (by omega)]
        refine ih (i + 1) (by omega) ?_
        rw [← hw]; unfold wh
        rw [List.find?_cons, show (L[i].2 == n) = false from by simpa using e]
  exact loop L.length 0 (by omega) rfl

theorem lineI_filter {L : Qs} (h : QOk L) (p : Int) : lineI L p = (L.filter fun x => ((x.1 : Int) == p)).map (·.2) := by
  unfold lineI
  split
  · rename_i e
    rw [List.filter_eq_nil_iff.2]
    · rfl
    · intro x hx
      have := h.prio x hx
      simp only [beq_iff_eq]; omega
  · rename_i e
    unfold lineOf
    congr 1
    apply List.filter_congr
    intro x _
    by_cases e2 : x.1 = p.toNat
    · rw [show (x.1 == p.toNat) = true from by simpa using e2]; symm; simp; omega
    · rw [show (x.1 == p.toNat) = false from by simpa using e2]; symm; simp; omega
theorem ref09_Queue_Line_spec {p : Int} {K : Sl → World → Prop} (h : Own B w0 w (RefA k L :: R))
    (hK : ∀ s w', Own B w0 w' (SlT intE s (lineI L p) :: RefA k L :: R) → K s w') : C.ref09_Queue_Line (some ⟨k, 0, none⟩) p K w := by
  apply S.ref09_Queue_Line_ok
  unfold S.ref09_Queue_Line
  refine h.al fun w1 h => ?_
  obtain ⟨s, hq, h⟩ := (h.perm (List.Perm.swap _ _ _)).refq
  have hlen := h.len 1 rfl
  have hfew := hq.few
  intro l4 hl4
  have h : Own B w0 w1 (SlT intE ⟨some (Addr.mk w.heap.size 0 none), 0, 0⟩ [] :: BlkA k [slV s] :: SlT inE s L :: R) := by
    have h1 : Own B w0 w1 (BlkA w.heap.size [] :: BlkA k [slV s] :: SlT inE s L :: R) := h.take 2 rfl
    exact h1.empty
  have loop : ∀ (m i : Nat) (o : Sl) (w : World), i + m = L.length → Own B w0 w (SlT intE o (((L.take i).filter fun x => ((x.1 : Int) == p)).map (·.2)) :: BlkA k [slV s] :: SlT inE s L :: R) → l4 o (i : Int) w := by
    intro m
    induction m with
    | zero =>
      intro i o w him h
      apply hl4
      refine ⟨_, rfl, s, h.ld0 1 rfl rfl, ?_⟩
      rw [show decide ((i : Int) < (s.len : Int)) = false from by simp; omega, cond_false]
      rw [List.take_of_length_le (by omega), ← lineI_filter hq] at h
      have h1 := Own.mk_refq hq ((h.perm (List.Perm.swap _ _ _)).perm ((List.Perm.swap _ _ _).cons _))
      exact hK o w (h1.perm (List.Perm.swap _ _ _))
    | succ m ih =>
      intro i o w him h
      apply hl4
      refine ⟨_, rfl, s, h.ld0 1 rfl rfl, ?_⟩
      rw [show decide ((i : Int) < (s.len : Int)) = true from by simp; omega, cond_true]
      have hx : L[i]? = some L[i] := List.getElem?_eq_getElem (by omega)
      obtain ⟨a, ha, h1, h2⟩ := h.getIn 2 rfl hx
      have ht : L.take (i + 1) = L.take i ++ [L[i]] := by rw [List.take_add_one, hx]; rfl
      refine ⟨_, rfl, s, h.ld0 1 rfl rfl, a, ha, by omega, by omega, _, h1, ?_⟩
      rw [wr (by omega) (by omega)]
      by_cases e : ((L[i].1 : Nat) : Int) = p
      · rw [show (((L[i].1 : Nat) : Int) == p) = true from by simpa using e, cond_true]
        refine ⟨_, rfl, s, h.ld0 1 rfl rfl, a, ha, by omega, by omega, _, h2, ?_⟩
        refine h.al fun w2 h => ?_
        refine app1_ints h 0 rfl (by rw [List.length_map]; exact Nat.le_trans (List.length_filter_le _ _) (by rw [List.length_take]; omega)) fun s' w3 hs' h => ?_
        refine ih (i + 1) s' w3 (by omega) ?_
        rw [ht, List.filter_append, List.map_append, List.filter_cons, show (((L[i].1 : Nat) : Int) == p) = true from by simpa using e]
        exact h
      · rw [show (((L[i].1 : Nat) : Int) == p) = false from by simpa using e, cond_false]
        refine ih (i + 1) o w (by omega) ?_
        rw [ht, List.filter_append, List.map_append, List.filter_cons, show (((L[i].1 : Nat) : Int) == p) = false from by simpa using e]
        simpa using h
  exact loop L.length 0 _ w1 (by omega) h

theorem ref09_Queue_Next_spec {K : Int → Bool → World → Prop} (h : Own B w0 w (RefA k L :: R))
    (hK : ∀ w', Own B w0 w' (RefA k L :: R) → K ((nextR L).getD 0) (nextR L).isSome w') : C.ref09_Queue_Next (some ⟨k, 0, none⟩) K w := by
  apply S.ref09_Queue_Next_ok
  unfold S.ref09_Queue_Next
  intro l2 hl2
  have loop : ∀ (m : Nat) (w : World), m ≤ 256 → topO L = topB (some1 L) m → Own B w0 w (RefA k L :: R) → l2 ((m : Int) - 1) w := by
    intro m
    induction m with
    | zero =>
      intro w _ ht h
      apply hl2
      rw [show decide (((0 : Nat) : Int) - 1 ≥ 0) = false from rfl, cond_false]
      have := hK w h
      rw [next_none ht] at this
      exact this
    | succ m ih =>
      intro w hm ht h
      have e : ((m + 1 : Nat) : Int) - 1 = (m : Int) := by omega
      rw [e]
      apply hl2
      rw [show decide ((m : Int) ≥ 0) = true from by simp, cond_true]
      refine ref09_Queue_Line_spec h fun s w1 h => ?_
      rw [lineI_nat L (by omega)] at h
      have hlen := h.len 0 rfl
      simp only [topB] at ht
      cases hl : lineOf L m with
      | nil =>
        rw [hl] at hlen
        simp only [List.length_nil] at hlen
        rw [show decide ((s.len : Int) > 0) = false from by simp; omega, cond_false, wr (by omega) (by omega)]
        have hs : some1 L m = false := by unfold some1; rw [hl]; rfl
        rw [hs, if_neg (by simp)] at ht
        exact ih w1 (by omega) ht h.drop
      | cons n l =>
        rw [hl] at hlen h
        simp only [List.length_cons] at hlen
        rw [show decide ((s.len : Int) > 0) = true from by simp; omega, cond_true]
        have hs : some1 L m = true := by unfold some1; rw [hl]; rfl
        rw [hs, if_pos rfl] at ht
        obtain ⟨a, ha, hc⟩ := h.getI 0 rfl (j := 0) rfl
        refine ⟨a, ha, by omega, by omega, n, hc, ?_⟩
        have := hK w1 h.drop
        have en : nextR L = some n := by unfold nextR; rw [ht]; simp [hl]
        rw [en] at this
        exact this
  exact loop 256 w (Nat.le_refl _) rfl h

theorem ref09_Queue_Put_spec {p n : Int} {K : Int → World → Prop} (h : Own B w0 w (RefA k L :: R)) (hf : L.length < 1000000)
    (hK : ∀ w', Own B w0 w' (RefA k (putR L p n).2 :: R) → K (putR L p n).1 w') : C.ref09_Queue_Put (some ⟨k, 0, none⟩) p n K w := by
  apply S.ref09_Queue_Put_ok
  unfold S.ref09_Queue_Put
  intro k4 hk4
  by_cases h0 : p < 0
  · rw [show decide (p < 0) = true from by simpa using h0, cond_true]
    apply hk4
    rw [cond_true]
    have e : putR L p n = (1, L) := by unfold putR; rw [if_pos (.inl h0)]
    rw [e] at hK; exact hK w h
  rw [show decide (p < 0) = false from by simpa using h0, cond_false]
  apply hk4
  by_cases h1 : 256 ≤ p
  · rw [show decide (p > 255) = true from by simp; omega, cond_true]
    have e : putR L p n = (1, L) := by unfold putR; rw [if_pos (.inr h1)]
    rw [e] at hK; exact hK w h
  rw [show decide (p > 255) = false from by simp; omega, cond_false]
  refine ref09_Queue_Where_spec h ?_
  cases hw : wh L n with
  | some q =>
    have e : putR L p n = (90, L) := by unfold putR; rw [if_neg (by omega), hw]
    rw [Option.isSome_some, cond_true]
    rw [e] at hK; exact hK w h
  | none =>
    have e : putR L p n = (0, L ++ [(p.toNat, n)]) := by unfold putR; rw [if_neg (by omega), hw]
    rw [Option.isSome_none, cond_false]
    rw [e] at hK
    obtain ⟨s, hq, h⟩ := h.refq
    refine ⟨_, rfl, s, h.ld0 0 rfl rfl, ?_⟩
    refine h.al fun w1 h => ?_
    have h := h.blk_eq (l' := inE.enc (p.toNat, n)) (by show _ = [Value.int .i64 ((p.toNat : Nat) : Int), .int .i64 n]; rw [Int.toNat_of_nonneg (by omega)])
    refine app1_in h 1 rfl (by omega) fun s' w2 hs' h => ?_
    refine ⟨_, rfl, ?_⟩
    refine h.st 0 rfl rfl rfl fun w3 h => ?_
    exact hK w3 (Own.mk_refq (put_ok hq (by omega) hw hf) h)

theorem ref09_Queue_Take_spec {n : Int} {K : Int → World → Prop} (h : Own B w0 w (RefA k L :: R))
    (hK : ∀ w', Own B w0 w' (RefA k (takeR L n).2 :: R) → K (takeR L n).1 w') : C.ref09_Queue_Take (some ⟨k, 0, none⟩) n K w := by
  apply S.ref09_Queue_Take_ok
  unfold S.ref09_Queue_Take
  refine h.al fun w1 h => ?_
  obtain ⟨s, hq, h⟩ := (h.perm (List.Perm.swap _ _ _)).refq
  have hlen := h.len 1 rfl
  have hfew := hq.few
  intro l4 hl4
  have h : Own B w0 w1 (SlT inE ⟨some (Addr.mk w.heap.size 0 none), 0, 0⟩ [] :: BlkA k [slV s] :: SlT inE s L :: R) := by
    have h1 : Own B w0 w1 (BlkA w.heap.size [] :: BlkA k [slV s] :: SlT inE s L :: R) := h.take 2 rfl
    exact h1.empty
  have loop : ∀ (m i : Nat) (o : Sl) (w : World), i + m = L.length → Own B w0 w (SlT inE o ((L.take i).filter fun x => x.2 != n) :: BlkA k [slV s] :: SlT inE s L :: R) → l4 o (i : Int) w := by
    intro m
    induction m with
    | zero =>
      intro i o w him h
      apply hl4
      refine ⟨_, rfl, s, h.ld0 1 rfl rfl, ?_⟩
      rw [show decide ((i : Int) < (s.len : Int)) = false from by simp; omega, cond_false]
      rw [List.take_of_length_le (by omega)] at h
      have hol := h.len 0 rfl
      refine ⟨_, rfl, s, h.ld0 1 rfl rfl, ?_⟩
      cases hw : wh L n with
      | none =>
        have e : takeR L n = (91, L) := by unfold takeR; rw [hw]
        have hs : (L.filter fun x => x.2 != n) = L := List.filter_eq_self.2 fun x hx => by
          have := wh_none.1 hw x hx
          simpa using this
        rw [hs] at hol
        rw [show ((o.len : Int) == (s.len : Int)) = true from by simp; omega, cond_true]
        rw [e] at hK
        exact hK w (Own.mk_refq hq h.drop)
      | some p =>
        have e : takeR L n = (0, L.filter fun x => x.2 != n) := by unfold takeR; rw [hw]
        have := take_len hq.nodup (wh_mem hw)
        rw [show ((o.len : Int) == (s.len : Int)) = false from by simp; omega, cond_false]
        rw [e] at hK
        refine ⟨_, rfl, ?_⟩
        refine h.st 1 rfl rfl rfl fun w2 h => ?_
        have h : Own B w0 w2 (SlT inE o (L.filter fun x => x.2 != n) :: BlkA k [slV o] :: SlT inE s L :: R) := h
        have h1 : Own B w0 w2 (SlT inE s L :: SlT inE o (L.filter fun x => x.2 != n) :: BlkA k [slV o] :: R) := h.take 2 rfl
        exact hK w2 (Own.mk_refq (hq.filter n) (h1.drop.perm (List.Perm.swap _ _ _)))
    | succ m ih =>
      intro i o w him h
      apply hl4
      refine ⟨_, rfl, s, h.ld0 1 rfl rfl, ?_⟩
      rw [show decide ((i : Int) < (s.len : Int)) = true from by simp; omega, cond_true]
      have hx : L[i]? = some L[i] := List.getElem?_eq_getElem (by omega)
      obtain ⟨a, ha, h1, h2⟩ := h.getIn 2 rfl hx
      have ht : L.take (i + 1) = L.take i ++ [L[i]] := by rw [List.take_add_one, hx]; rfl
      refine ⟨_, rfl, s, h.ld0 1 rfl rfl, a, ha, by omega, by omega, _, h2, ?_⟩
      rw [wr (by omega) (by omega)]
      by_cases e : L[i].2 = n
      · rw [show (L[i].2 != n) = false from by simpa using e, cond_false]
        refine ih (i + 1) o w (by omega) ?_
        rw [ht, List.filter_append, List.filter_cons, show (L[i].2 != n) = false from by simpa using e]
        simpa using h
      · rw [show (L[i].2 != n) = true from by simpa using e, cond_true]
        refine ⟨_, rfl, s, h.ld0 1 rfl rfl, a, ha, by omega, by omega, ldIn h1 h2 ?_⟩
        refine h.al fun w2 h => ?_
        refine app1_in (y := L[i]) h 0 rfl (Nat.le_trans (List.length_filter_le _ _) (by rw [List.length_take]; omega)) fun s' w3 hs' h => ?_
        refine ih (i + 1) s' w3 (by omega) ?_
        rw [ht, List.filter_append, List.filter_cons, show (L[i].2 != n) = true from by simpa using e]
        exact h
  exact loop L.length 0 _ w1 (by omega) h
end
end Go.Proofs.Ytgkebkfabegflaa
