/- The laws of layer 9: what is put in first. -/
import Derived.Test.YtimicibeljkjnaaQ
set_option linter.unusedVariables false
set_option linter.unusedSimpArgs false
namespace Go.Proofs.Ytimicibeljkjnaa
open Go Go.Vc Go.Proofs

def takeL (L : Qs) (n : Int) : Qs := L.filter fun x => x.2 != n
section
variable {B : Nat} {w0 w : World} {R : List Asn} {b : Nat} {L : Qs}

theorem law09_fixed_spec {K : Bool → World → Prop} (h : Own B w0 w R) (hK : ∀ w', Own B w0 w' R → K true w') : C.law09_fixed K w := by
  apply S.law09_fixed_ok
  unfold S.law09_fixed
  refine ready_New_spec h fun b w h => ?_
  refine ready_Queue_Put_spec h (by decide) fun w h => ?_
  rw [show putR [] 3 7 = (0, [(3, 7)]) from rfl] at h ⊢
  refine ready_Queue_Put_spec h (by decide) fun w h => ?_
  rw [show putR [(3, 7)] 5 8 = (0, [(3, 7), (5, 8)]) from rfl] at h ⊢
  refine ready_Queue_Put_spec h (by decide) fun w h => ?_
  rw [show putR [(3, 7), (5, 8)] 5 9 = (0, [(3, 7), (5, 8), (5, 9)]) from rfl] at h ⊢
  refine ready_Queue_Next_spec h fun w h => ?_
  rw [show nextR [(3, 7), (5, 8), (5, 9)] = some 8 from by kernel_rfl]
  refine ready_Queue_Turn_spec h fun w h => ?_
  rw [show turnR [(3, 7), (5, 8), (5, 9)] = (true, [(3, 7), (5, 9), (5, 8)]) from by kernel_rfl] at h ⊢
  refine ready_Queue_Next_spec h fun w h => ?_
  rw [show nextR [(3, 7), (5, 9), (5, 8)] = some 9 from by kernel_rfl]
  refine ready_Queue_Take_spec h fun w h => ?_
  rw [show takeR [(3, 7), (5, 9), (5, 8)] 9 = (0, [(3, 7), (5, 8)]) from by kernel_rfl] at h ⊢
  refine ready_Queue_Take_spec h fun w h => ?_
  rw [show takeR [(3, 7), (5, 8)] 8 = (0, [(3, 7)]) from by kernel_rfl] at h ⊢
  refine ready_Queue_Next_spec h fun w h => ?_
  rw [show nextR [(3, 7)] = some 7 from by kernel_rfl]
  refine ready_Queue_Put_spec h (by decide) fun w h => ?_
  rw [show putR [(3, 7)] 4 7 = (90, [(3, 7)]) from rfl] at h ⊢
  refine ready_Queue_Put_spec h (by decide) fun w h => ?_
  rw [show putR [(3, 7)] 256 1 = (1, [(3, 7)]) from rfl] at h ⊢
  refine ready_Queue_Take_spec h fun w h => ?_
  rw [show takeR [(3, 7)] 8 = (91, [(3, 7)]) from by kernel_rfl] at h ⊢
  exact hK w h.drop

/-- A call of a script, in cells. -/
abbrev Ops := List (Int × Int × Int)
def opE : EncT (Int × Int × Int) := ⟨3, fun o => [.int .i64 o.1, .int .i64 o.2.1, .int .i64 o.2.2], fun _ => rfl, fun x v h => by
  simp only [List.mem_cons, List.not_mem_nil, or_false] at h
  rcases h with rfl | rfl | rfl <;> rfl, by decide⟩
def opGood (o : Int × Int × Int) : Prop := (Lit.int .i64 o.1).wf = true ∧ (Lit.int .i64 o.2.1).wf = true ∧ (Lit.int .i64 o.2.2).wf = true
theorem opDec : ∀ cs, Fits [.int .i64, .int .i64, .int .i64] cs → ∃ x, cs = opE.enc x ∧ opGood x := fun cs h => by
  obtain ⟨_, _, rfl, ⟨a, rfl, wa⟩, h1⟩ := h.cons_out
  obtain ⟨_, _, rfl, ⟨b, rfl, wb⟩, h2⟩ := h1.cons_out
  obtain ⟨_, _, rfl, ⟨c, rfl, wc⟩, h3⟩ := h2.cons_out
  obtain rfl := h3.nil_out
  exact ⟨(a, b, c), rfl, wa, wb, wc⟩
theorem intDec : ∀ cs, Fits [.int .i64] cs → ∃ x, cs = intE.enc x ∧ (Lit.int .i64 x).wf = true := fun cs h => by
  obtain ⟨_, _, rfl, ⟨a, rfl, wa⟩, h1⟩ := h.cons_out
  obtain rfl := h1.nil_out
  exact ⟨a, rfl, wa⟩
theorem app1_ops {s : Sl} {xs : Ops} {y : Int × Int × Int} {c : Nat} {k : Sl → World → Prop} {R : List Asn} (h : Own B w0 w (BlkA c (opE.enc y) :: R)) (i : Nat) (hL : R[i]? = some (SlT opE s xs))
    (hbig : xs.length ≤ 100000000000) (hk : ∀ s' w', s'.len = xs.length + 1 → Own B w0 w' (R.set i (SlT opE s' (xs ++ [y]))) → k s' w') :
    ∃ s' w', AppR Try.prog [22, 22] 22 (.slice s.a s.len s.cap) (.slice (some (Addr.mk c 0 none)) 1 1) w s' w' ∧ k s' w' :=
  Own.app1 (E := opE) (y := y) Try.underlying22 (show Try.prog.info? 28 = some Try.t28 from by kernel_rfl) (zv := .agg #[.int .i64 0, .int .i64 0, .int .i64 0]) (by kernel_rfl) (by kernel_rfl) rfl (by decide) h i hL (by
    have e : Try.t28.bytes = 24 := by kernel_rfl
    rw [e]; omega) hk
/-- Whose bits are equal. -/
theorem bits_eq {x y : Operand} {a1 a2 a3 a4 b1 b2 b3 b4 : Int} (r : Bool) (hr : r = true ↔ [a1, a2, a3, a4] = [b1, b2, b3, b4]) :
    EqB Try.prog .eql 37 x y (.agg #[.int .u64 a1, .int .u64 a2, .int .u64 a3, .int .u64 a4]) (.agg #[.int .u64 b1, .int .u64 b2, .int .u64 b3, .int .u64 b4]) r :=
  eqB_x (xs := [.int .u64 a1, .int .u64 a2, .int .u64 a3, .int .u64 a4]) (ys := [.int .u64 b1, .int .u64 b2, .int .u64 b3, .int .u64 b4]) (by kernel_rfl) (by kernel_rfl) (by kernel_rfl)
    ((show eqX Try.prog 9 37 [.int .u64 a1, .int .u64 a2, .int .u64 a3, .int .u64 a4] [.int .u64 b1, .int .u64 b2, .int .u64 b3, .int .u64 b4] = some (a1 == b1 && (a2 == b2 && (a3 == b3 && (a4 == b4 && true)))) from by kernel_rfl).trans (congrArg some (Bool.eq_iff_iff.2 (by rw [hr]; simp))))

/-- Where somebody stood. -/
def idx (L0 : Qs) (n : Int) : Nat := (L0.map (·.2)).findIdx (· == n)
theorem idx_pw : ∀ (M : List Int), M.Nodup → M.Pairwise (fun a b => M.findIdx (· == a) < M.findIdx (· == b))
  | [], _ => .nil
  | x :: M, h => by
    rw [List.nodup_cons] at h
    refine List.pairwise_cons.2 ⟨fun y hy => ?_, ?_⟩
    · have e : (x == y) = false := by simpa using fun e : x = y => h.1 (e ▸ hy)
      rw [List.findIdx_cons, List.findIdx_cons]
      simp [e]
    · refine (idx_pw M h.2).imp_of_mem fun {a b} ha hb hab => ?_
      have e1 : (x == a) = false := by simpa using fun e : x = a => h.1 (e ▸ ha)
      have e2 : (x == b) = false := by simpa using fun e : x = b => h.1 (e ▸ hb)
      rw [List.findIdx_cons, List.findIdx_cons]
      simpa [e1, e2] using hab
theorem take_len {L : Qs} (h : (L.map (·.2)).Nodup) {p : Nat} {n : Int} (hm : (p, n) ∈ L) : (L.filter fun x => x.2 != n).length + 1 = L.length := by
  induction L with
  | nil => cases hm
  | cons a L ih =>
    simp only [List.map_cons, List.nodup_cons, List.mem_map, not_exists, not_and] at h
    rw [List.filter_cons]
    by_cases e : a.2 = n
    · have e' : (a.2 != n) = false := by simpa using e
      rw [e']
      have : L.filter (fun x => x.2 != n) = L := List.filter_eq_self.2 fun x hx => by
        simp only [bne_iff_ne, ne_eq]
        intro e2
        exact h.1 x hx (e2.trans e.symm)
      simp [this]
    · have e' : (a.2 != n) = true := by simpa using e
      rw [e']
      have : (p, n) ∈ L := by
        rcases List.mem_cons.1 hm with rfl | hm
        · exact absurd rfl e
        · exact hm
      simp only [if_true, List.length_cons]
      rw [ih h.2 this]
structure FInv (L0 L : Qs) (last at' : Int) : Prop where
  nd : (L0.map (·.2)).Nodup
  sub : L.Sublist L0
  ok : QOk L
  lim : ∀ x ∈ L, (x.1 : Int) ≤ last ∧ ((x.1 : Int) = last → at' < (idx L0 x.2 : Int))
theorem QOk.filter {L : Qs} (h : QOk L) (n : Int) : QOk (L.filter fun x => x.2 != n) :=
  ⟨List.Nodup.sublist (List.filter_sublist.map _) h.nodup, fun y hy => h.prio y (List.mem_filter.1 hy).1, Nat.le_trans (List.length_filter_le _ _) h.few⟩
theorem FInv.next {L0 L : Qs} {last at' : Int} (h : FInv L0 L last at') (hne : L ≠ []) : ∃ p n, nextR L = some n ∧ wh L n = some p ∧ (p : Int) ≤ last ∧ takeR L n = (0, takeL L n) ∧ (p, n) ∈ L0 ∧ ((p : Int) = last → at' < (idx L0 n : Int)) ∧
    FInv L0 (takeL L n) p (idx L0 n) ∧ (takeL L n).length + 1 = L.length := by
  obtain ⟨x, hx⟩ := List.exists_mem_of_ne_nil L hne
  have some_of : ∀ y ∈ L, some1 L y.1 = true := fun y hy => by
    unfold some1
    have : y.2 ∈ lineOf L y.1 := mem_line.2 hy
    cases hl : lineOf L y.1 with
    | nil => rw [hl] at this; cases this
    | cons _ _ => rfl
  cases ht : topO L with
  | none =>
    have := topB_none ht x.1 (h.ok.prio x hx)
    rw [some_of x hx] at this; cases this
  | some p =>
    obtain ⟨hp, n, l, hl⟩ := topO_out ht
    have hm : (p, n) ∈ L := mem_line.1 (by rw [hl]; simp)
    have hw := wh_of_mem h.ok.nodup hm
    have hlim := h.lim _ hm
    refine ⟨p, n, ?_, hw, hlim.1, ?_, h.sub.subset hm, hlim.2, ⟨h.nd, List.filter_sublist.trans h.sub, h.ok.filter n, fun y hy => ?_⟩, take_len h.ok.nodup hm⟩
    · unfold nextR; rw [ht]; simp [hl]
    · unfold takeR takeL; rw [hw]
    · obtain ⟨hyL, hyn⟩ := List.mem_filter.1 hy
      have hyn : y.2 ≠ n := by simpa using hyn
      have hle : y.1 ≤ p := by
        refine Nat.le_of_not_lt fun hlt => ?_
        have := (topB_out ht).2.2 y.1 hlt (h.ok.prio y hyL)
        rw [some_of y hyL] at this; cases this
      refine ⟨by omega, fun e => ?_⟩
      have e : y.1 = p := by omega
      have hpw : (lineOf L p).Pairwise (fun a b => idx L0 a < idx L0 b) := by
        have h1 := idx_pw _ h.nd
        refine h1.sublist ?_
        unfold lineOf
        exact (List.filter_sublist.trans h.sub).map _
      rw [hl] at hpw
      have hy2 : y.2 ∈ lineOf L p := mem_line.2 (by rw [← e]; exact hyL)
      rw [hl] at hy2
      rcases List.mem_cons.1 hy2 with e2 | h2
      · exact absurd e2 hyn
      · have := (List.pairwise_cons.1 hpw).1 y.2 h2
        omega

/-- Those that went in. -/
def conv (I : Ops) : Qs := I.map fun o => (o.2.1.toNat, o.2.2)
structure InOk (I : Ops) : Prop where
  prio : ∀ o ∈ I, 0 ≤ o.2.1 ∧ o.2.1 < 256
  nd : (I.map (·.2.2)).Nodup
theorem conv_snd (I : Ops) : (conv I).map (·.2) = I.map (·.2.2) := by unfold conv; rw [List.map_map]; rfl
theorem InOk.qok {I : Ops} (h : InOk I) (hf : I.length ≤ 1000000) : QOk (conv I) := ⟨by rw [conv_snd]; exact h.nd, fun x hx => by
  obtain ⟨o, ho, rfl⟩ := List.mem_map.1 hx
  have := h.prio o ho
  show o.2.1.toNat < 256
  omega, by unfold conv; rw [List.length_map]; exact hf⟩
theorem InOk.put {I : Ops} (h : InOk I) (k p n : Int) : (putR (conv I) p n = (0, conv (I ++ [(k, p, n)])) ∧ InOk (I ++ [(k, p, n)])) ∨ ((putR (conv I) p n).1 ≠ 0 ∧ (putR (conv I) p n).2 = conv I) := by
  unfold putR
  by_cases e : p < 0 ∨ 256 ≤ p
  · rw [if_pos e]; exact .inr ⟨by simp, rfl⟩
  · rw [if_neg e]
    cases hw : wh (conv I) n with
    | some q => exact .inr ⟨by simp, rfl⟩
    | none =>
      left
      refine ⟨by unfold conv; rw [List.map_append]; rfl, fun o ho => ?_, ?_⟩
      · rcases List.mem_append.1 ho with ho | ho
        · exact h.prio o ho
        · simp only [List.mem_singleton] at ho
          subst ho
          show 0 ≤ p ∧ p < 256
          omega
      · rw [List.map_append, List.nodup_append]
        refine ⟨h.nd, by simp, fun a ha b hb => ?_⟩
        simp only [List.map_cons, List.map_nil, List.mem_singleton] at hb
        subst hb
        rw [← conv_snd] at ha
        obtain ⟨y, hy, rfl⟩ := List.mem_map.1 ha
        exact wh_none.1 hw y hy

theorem law09_ReadyFirst_spec {l1 : Sl} {ops : Ops} {K : Bool → World → Prop} (hi : Inp opE w0 l1 ops) (hg : ∀ x ∈ ops, opGood x) (h : Own w0.heap.size w0 w []) (hK : ∀ w', Own w0.heap.size w0 w' [] → K true w') : C.law09_ReadyFirst l1 K w := by
  apply S.law09_ReadyFirst_ok
  unfold S.law09_ReadyFirst
  refine ready_New_spec h fun b w1 h => ?_
  rw [Option.isNone_some, cond_false]
  refine h.al fun w2 h => ?_
  intro l5 hl5
  have loop1 : ∀ (m i : Nat) (in6 : Sl) (I : Ops) (w : World), i + m = min l1.len 60 → I.length ≤ i → InOk I → Own w0.heap.size w0 w (SlT opE in6 I :: QueueA b (conv I) :: []) → l5 in6 (i : Int) w := by
    intro m
    induction m with
    | succ m ih =>
      intro i in6 I w him hIi hI h
      apply hl5
      intro k9 hk9
      rw [show decide ((i : Int) < (l1.len : Int)) = true from by simp; omega, cond_true]
      rw [show decide ((i : Int) < 60) = true from by simp; omega]
      apply hk9
      rw [cond_true]
      refine h.dr fun w3 h => ?_
      obtain ⟨x, hx⟩ := hi.lt (i := i) (by omega)
      obtain ⟨a, ha, hc0, hc⟩ := hi.get0 h hx
      refine ⟨a, ha, by omega, by omega, x.2.1, hc 1 _ rfl, a, ha, by omega, by omega, x.2.2, hc 2 _ rfl, ?_, trivial⟩
      refine ready_Queue_Put_spec (h.perm (List.Perm.swap _ _ _)) (by unfold conv; rw [List.length_map]; omega) fun w4 h => ?_
      rw [wr (by omega) (by omega)]
      rcases hI.put x.1 x.2.1 x.2.2 with ⟨e, hI'⟩ | ⟨e1, e2⟩
      · rw [e] at h ⊢
        rw [show ((0 : Int) == 0) = true from rfl, cond_true]
        obtain ⟨a, ha, hc0, hc⟩ := hi.get0 h hx
        refine ⟨a, ha, by omega, by omega, x.1, hc0 _ rfl, x.2.1, hc 1 _ rfl, x.2.2, hc 2 _ rfl, ?_⟩
        refine h.al fun w5 h => ?_
        refine app1_ops (y := x) h 1 rfl (by omega) fun s' w6 hs' h => ?_
        exact ih (i + 1) s' _ w6 (by omega) (by rw [List.length_append]; simp; omega) hI' (h.perm (List.Perm.swap _ _ _))
      · rw [show ((putR (conv I) x.2.1 x.2.2).1 == 0) = false from by simpa using e1, cond_false]
        rw [e2] at h
        exact ih (i + 1) in6 I w4 (by omega) (by omega) hI (h.perm (List.Perm.swap _ _ _))
    | zero =>
      intro i in6 I w him hIi hI h
      apply hl5
      intro k9 hk9
      have fin : k9 false w := by
        apply hk9
        rw [cond_false]
        have hlen := h.len 0 rfl
        have hlL : (conv I).length = I.length := by unfold conv; rw [List.length_map]
        intro l26 hl26
        have loop2 : ∀ (m i : Nat) (last at' : Int) (L : Qs) (w : World), i + m = I.length → L.length = m → FInv (conv I) L last at' → Own w0.heap.size w0 w (SlT opE in6 I :: QueueA b L :: []) → l26 last at' (i : Int) w := by
          intro m
          induction m with
          | succ m ih =>
            intro i last at' L w him hLm hF h
            apply hl26
            rw [show decide ((i : Int) < (in6.len : Int)) = true from by simp; omega, cond_true]
            obtain ⟨p, n, e1, e2, e3, e4, e5, e6, e7, e8⟩ := hF.next (by rintro rfl; simp at hLm)
            refine ready_Queue_Next_spec (h.perm (List.Perm.swap _ _ _)) fun w1 h => ?_
            rw [e1]
            refine ⟨_, rfl, ?_⟩
            refine ready_lines_Where_spec h fun w2 h => ?_
            simp only [Option.getD_some, Option.isSome_some, e2, Option.map_some]
            intro k38 hk38
            rw [Bool.not_true, cond_false, cond_false]
            rw [show decide ((p : Int) > last) = false from by simp; omega, cond_false]
            refine ready_Queue_Take_spec h fun w3 h => ?_
            rw [e4] at h ⊢
            apply hk38
            rw [show ((0 : Int) != 0) = false from rfl, cond_false]
            have h := h.perm (List.Perm.swap _ _ _)
            intro k41 hk41
            have hin : n ∈ I.map (·.2.2) := by rw [← conv_snd]; exact List.mem_map.2 ⟨_, e5, rfl⟩
            have hidx : idx (conv I) n = I.findIdx (fun o => o.2.2 == n) := by
              unfold idx; rw [conv_snd, List.findIdx_map]; rfl
            have hlt : idx (conv I) n < I.length := by
              rw [hidx, List.findIdx_lt_length]
              obtain ⟨o, ho, rfl⟩ := List.mem_map.1 hin
              exact ⟨o, ho, by simp⟩
            intro l49 hl49
            have loop3 : ∀ (m k : Nat), k + m = idx (conv I) n → l49 (k : Int) w3 := by
              intro m
              induction m with
              | succ m ih3 =>
                intro k hkm
                apply hl49
                rw [show decide ((k : Int) < (in6.len : Int)) = true from by simp; omega, cond_true]
                obtain ⟨x, hx⟩ : ∃ x, I[k]? = some x := ⟨_, List.getElem?_eq_getElem (by omega)⟩
                obtain ⟨b', o', ha, hc⟩ := h.get 0 rfl hx
                refine ⟨_, ha, by omega, by omega, x.2.2, by simp only [add_mk, Int.toNat_natCast, Nat.add_assoc]; exact hc 2 _ rfl, ?_⟩
                have hne : ¬ x.2.2 = n := by
                  have := List.not_of_lt_findIdx (xs := I) (p := fun o => o.2.2 == n) (i := k) (by rw [← hidx]; omega)
                  rw [List.getElem?_eq_getElem (by omega)] at hx
                  simp only [Option.some.injEq] at hx
                  rw [hx] at this
                  simpa using this
                rw [show (x.2.2 != n) = true from by simpa using hne, cond_true, wr (by omega) (by omega)]
                exact ih3 (k + 1) (by omega)
              | zero =>
                intro k hkm
                have hk : k = idx (conv I) n := by omega
                subst hk
                obtain ⟨x, hx⟩ : ∃ x, I[idx (conv I) n]? = some x := ⟨_, List.getElem?_eq_getElem hlt⟩
                have hxn : x.2.2 = n := by
                  have := List.findIdx_getElem (xs := I) (p := fun o => o.2.2 == n) (w := by rw [← hidx]; exact hlt)
                  rw [List.getElem?_eq_getElem hlt] at hx
                  simp only [Option.some.injEq] at hx
                  rw [← hx]
                  simp only [hidx]
                  simpa using this
                have hxp : x.2.1 = (p : Int) := by
                  have h1 : (x.2.1.toNat, x.2.2) ∈ conv I := List.mem_map.2 ⟨x, List.mem_of_getElem? hx, rfl⟩
                  rw [hxn] at h1
                  have h2 := nodup_inj hF.nd h1 e5 rfl
                  have h3 := hI.prio x (List.mem_of_getElem? hx)
                  simp only [Prod.mk.injEq, and_true] at h2
                  omega
                obtain ⟨b', o', ha, hc⟩ := h.get 0 rfl hx
                apply hl49
                rw [show decide (((idx (conv I) n : Nat) : Int) < (in6.len : Int)) = true from by simp; omega, cond_true]
                refine ⟨_, ha, by omega, by omega, x.2.2, by simp only [add_mk, Int.toNat_natCast, Nat.add_assoc]; exact hc 2 _ rfl, ?_⟩
                rw [show (x.2.2 != n) = false from by simpa using hxn, cond_false]
                apply hk41
                intro k44 hk44
                rw [show (((idx (conv I) n : Nat) : Int) == (in6.len : Int)) = false from by simp; omega, cond_false]
                refine ⟨_, ha, by omega, by omega, x.2.1, by simp only [add_mk, Int.toNat_natCast, Nat.add_assoc]; exact hc 1 _ rfl, ?_⟩
                rw [show (x.2.1 != (p : Int)) = false from by simpa using hxp, cond_false]
                have step : k44 false w3 := by
                  apply hk44
                  rw [cond_false, wr (by omega) (by omega)]
                  exact ih (i + 1) p _ _ w3 (by omega) (by omega) e7 h
                by_cases ep : (p : Int) = last
                · rw [show ((p : Int) == last) = true from by simpa using ep, cond_true]
                  rw [show decide (((idx (conv I) n : Nat) : Int) ≤ at') = false from by have := e6 ep; simp; omega]
                  exact step
                · rw [show ((p : Int) == last) = false from by simpa using ep, cond_false]
                  exact step
            exact loop3 (idx (conv I) n) 0 (by omega)
          | zero =>
            intro i last at' L w him hLm hF h
            have : L = [] := List.eq_nil_of_length_eq_zero hLm
            subst this
            apply hl26
            rw [show decide ((i : Int) < (in6.len : Int)) = false from by simp; omega, cond_false]
            refine ready_Queue_Next_spec (h.perm (List.Perm.swap _ _ _)) fun w1 h => ?_
            rw [show (nextR []).isSome = false from by kernel_rfl, Bool.not_false, cond_true]
            refine ⟨_, rfl, ?_⟩
            refine ready_lines_Bits_spec h fun b1 b2 b3 b4 w2 hb h => ?_
            refine ⟨true, bits_eq true ⟨fun _ => hb.uniq (BitsOk.zero.congr fun i _ => rfl), fun _ => rfl⟩, ?_⟩
            rw [cond_true]
            refine law09_fixed_spec h fun w3 h => ?_
            exact hK w3 h.drop.drop
        have hq := hI.qok (by omega)
        exact loop2 I.length 0 256 (-1) (conv I) w (by omega) hlL ⟨hq.nodup, .refl _, hq, fun x hx => ⟨by have := hq.prio x hx; omega, fun e => by have := hq.prio x hx; omega⟩⟩ h
      by_cases hl : (i : Int) < (l1.len : Int)
      · rw [show decide ((i : Int) < (l1.len : Int)) = true from by simpa using hl, cond_true, show decide ((i : Int) < 60) = false from by simp; omega]
        exact fin
      · rw [show decide ((i : Int) < (l1.len : Int)) = false from by simpa using hl, cond_false]
        exact fin
  exact loop1 (min l1.len 60) 0 _ [] w2 (by omega) (by simp) ⟨by simp, by simp⟩ h.empty
end
end Go.Proofs.Ytimicibeljkjnaa
