/- Laws of layer 7: what is not there; what is moved; what is added; who is under whom; those of none. -/
import Derived.Test.YtmfbhjfkagnahaaP7
import Derived.Test.YtmfbhjfkagnahaaS0
set_option linter.unusedVariables false
set_option linter.unusedSimpArgs false
set_option maxRecDepth 8000
namespace Go.Proofs.Ytmfbhjfkagnahaa
open Go Go.Vc Go.Proofs

theorem moved {T : Tr} (hT : TOk T) {i : Nat} {x : Leaf} {t : Slot} (hx : T[i]? = some x) (ht : t ∉ T.map (·.1)) :
    moveN T x.1 t = (0, T.set i (t, x.2)) ∧ TOk (T.set i (t, x.2)) ∧ parentN (T.set i (t, x.2)) t = parentN T x.1 ∧ underN (T.set i (t, x.2)) t = underN T x.1 ∧ moveN (T.set i (t, x.2)) t x.1 = (0, T) := by
  have hi := (List.getElem?_eq_some_iff.1 hx).1
  have hp := place_own hT hx
  have hn := place_none_iff.2 ht
  have hd := dOf_get hx
  have hm := hT.move hp hn
  rw [hd] at hm
  have hx' : (T.set i (t, x.2))[i]? = some (t, x.2) := by rw [List.getElem?_set, if_pos rfl, if_pos hi]
  have hp' := place_own hm hx'
  have hd' := dOf_get hx'
  have hp' : placeN (T.set i (t, x.2)) t = some i := hp'
  have hdrop : (T.set i (t, x.2)).drop (i + 1) = T.drop (i + 1) := by rw [List.drop_set, if_pos (by omega)]
  have htake : (T.set i (t, x.2)).take i = T.take i := by rw [List.take_set_of_le (Nat.le_refl _)]
  have hend : endN (T.set i (t, x.2)) i = endN T i := by unfold endN; rw [hdrop, hd, hd']
  refine ⟨?_, hm, ?_, ?_, ?_⟩
  · unfold moveN; rw [hp]; simp only [hn, hd]
  · unfold parentN; rw [hp, hp']; simp only [htake, hd, hd']
  · unfold underN; rw [hp, hp']; simp only [hdrop, hend]
  · have hn2 : placeN (T.set i (t, x.2)) x.1 = none := by
      rw [place_none_iff]
      intro hmem
      obtain ⟨y, hy, hyx⟩ := List.mem_map.1 hmem
      obtain ⟨j, hj⟩ := List.mem_iff_getElem?.1 hy
      rw [List.getElem?_set] at hj
      by_cases e : i = j
      · rw [if_pos e, if_pos (by omega)] at hj
        cases hj
        exact ht (List.mem_map.2 ⟨x, List.mem_of_getElem? hx, hyx.symm⟩)
      · rw [if_neg e] at hj
        exact slots_ne hT hx hj e hyx.symm
    unfold moveN
    rw [hp']
    simp only [hn2, hd', List.set_set]
    have : T.set i (x.1, x.2) = T := by
      apply List.ext_getElem?
      intro j
      rw [List.getElem?_set]
      by_cases e : i = j
      · subst e; rw [if_pos rfl, if_pos hi, hx]
      · rw [if_neg e]
    rw [this]
theorem added {T : Tr} (hT : TOk T) (hl : T.length < 1000000) {i : Nat} {x : Leaf} {s : Slot} (hx : T[i]? = some x) (hs : s ∉ T.map (·.1)) :
    ∃ T', addN T x.1 s = (0, T') ∧ TOk T' ∧ parentN T' s = some x.1 ∧ underN T' x.1 = s :: underN T x.1 ∧ underN T' s = [] ∧ addN T' x.1 s = (70, T') ∧ takeN T' s = (0, T) := by
  have hi := (List.getElem?_eq_some_iff.1 hx).1
  have hp := place_own hT hx
  have hn := place_none_iff.2 hs
  have hd := dOf_get hx
  have hok := hT.add hl hp hn
  rw [hd] at hok
  have h1 : (T.take (i + 1)).length = i + 1 := by simp; omega
  generalize hT' : T.take (i + 1) ++ [(s, x.2 + 1)] ++ T.drop (i + 1) = T' at hok
  have hx' : T'[i]? = some x := by
    rw [← hT', List.append_assoc, List.getElem?_append_left (by omega), List.getElem?_take, if_pos (by omega), hx]
  have hs' : T'[i + 1]? = some (s, x.2 + 1) := by
    rw [← hT', List.append_assoc, List.getElem?_append_right (by omega), h1, Nat.sub_self]; rfl
  have hp1 := place_own hok hx'
  have hp2 : placeN T' s = some (i + 1) := place_own hok hs'
  have hd1 := dOf_get hx'
  have hd2 : dOf T' (i + 1) = x.2 + 1 := dOf_get hs'
  have hdrop2 : T'.drop (i + 2) = T.drop (i + 1) := by
    rw [← hT', List.drop_left' (by simp; omega)]
  have hdrop1 : T'.drop (i + 1) = (s, x.2 + 1) :: T.drop (i + 1) := by
    rw [← hT', List.append_assoc, List.drop_left' h1]; rfl
  have htake : T'.take (i + 1) = T.take (i + 1) := by
    rw [← hT', List.append_assoc, List.take_left' h1]
  have hend2 : endN T' (i + 1) = i + 2 := by
    unfold endN
    rw [hdrop2, hd2]
    have : (T.drop (i + 1)).takeWhile (fun y => decide (x.2 + 1 < y.2)) = [] := by
      cases hD : T.drop (i + 1) with
      | nil => rfl
      | cons y D =>
        have hy : T[i + 1]? = some y := by
          have := congrArg (fun l => l[0]?) hD
          simpa using this
        have := wfD_step T _ i x y hT.wf hx hy
        rw [List.takeWhile_cons_of_neg (by simp; omega)]
    rw [this]; rfl
  have hend1 : endN T' i = endN T i + 1 := by
    unfold endN
    rw [hdrop1, hd1, hd, List.takeWhile_cons_of_pos (by simp; omega), List.length_cons]; omega
  refine ⟨T', ?_, hok, ?_, ?_, ?_, ?_, ?_⟩
  · unfold addN; rw [hp]; simp only [hn, hd, hT']
  · refine parent_near hok hs' hx' ⟨by omega, by rw [hd1, hd2]; omega, fun r h1 h2 => by omega⟩
  · unfold underN
    rw [hp, hp1]
    simp only [hend1, hdrop1]
    have := end_le T hi
    rw [show endN T i + 1 - (i + 1) = (endN T i - (i + 1)) + 1 from by omega, List.take_succ_cons]; rfl
  · unfold underN
    rw [hp2]
    simp only [hend2]
    rw [show i + 2 - (i + 1 + 1) = 0 from by omega]; rfl
  · unfold addN; rw [hp1]; simp only [hp2]
  · unfold takeN
    rw [hp2]
    simp only [hend2, htake]
    rw [show i + 2 - (i + 1 + 1) = 0 from by omega, List.take_zero, hdrop2]
    show (0, T.take (i + 1) ++ T.drop (i + 1)) = _
    rw [List.take_append_drop]
/-- A number below a length. -/
theorem modI {n : Int} {k : Nat} (hk : 0 < k) (hk2 : k < 2 ^ 62) : ∃ q : Nat, (andI .i64 n (65535 : Int)).tmod (k : Int) = (q : Int) ∧ q < k := by
  have h : ∃ p : Nat, p ≤ 65535 ∧ andI .i64 n (65535 : Int) = (p : Int) := by
    unfold andI
    have hle : (BitVec.ofInt IntKind.i64.bits n &&& BitVec.ofInt IntKind.i64.bits (65535 : Int)).toNat ≤ 65535 := by
      rw [BitVec.toNat_and]
      refine Nat.le_trans Nat.and_le_right ?_
      have : (BitVec.ofInt IntKind.i64.bits (65535 : Int)).toNat = 65535 := by decide
      omega
    exact ⟨_, hle, wr (by omega) (by omega)⟩
  obtain ⟨p, hp, e⟩ := h
  rw [e, Int.tmod_eq_emod_of_nonneg (Int.natCast_nonneg _)]
  exact ⟨p % k, by simp, Nat.mod_lt _ hk⟩

section
variable {w0 w : World}
theorem laid_len (ops : List Op7) : (laidT ops).length ≤ 40 := by
  have := foldl_len (ops.take 40) []
  unfold laidT
  simp at this
  omega
theorem law07_TreeNone_spec {s1 : Sl} {ops : List Op7} {p q : Int} {K : Bool → World → Prop} (hi : Inp op7E w0 s1 ops) (hg : ∀ x ∈ ops, op7Good x) (w1 : (Lit.int .i64 p).wf = true) (w2 : (Lit.int .i64 q).wf = true) (h : Own w0.heap.size w0 w []) (hK : ∀ w', Own w0.heap.size w0 w' [] → K true w') : C.law07_TreeNone s1 p q K w := by
  apply S.law07_TreeNone_ok
  unfold S.law07_TreeNone
  have hlen := laid_len ops
  refine h.al fun w2 h => ?_
  generalize w.heap.size = c at h ⊢
  refine law07_laid_spec (hi.rd _) h fun b w h => ?_
  generalize laidT ops = T at h hlen
  have hT := h.tok
  refine cbF rfl ?_
  refine tree_All_spec h fun l w h => ?_
  have hll := h.lenc l
  (repeat (first | (refine h.al fun w h => ?_) | (refine h.dr fun w h => ?_) | (refine h.lc_2 rfl ?_) | (refine h.lc_6 rfl ?_) | (refine ⟨_, h.ldc rfl, ?_⟩) | (refine ⟨_, h.ldd rfl, ?_⟩) | (refine h.hd rfl ?_) | (refine ⟨h.ldc rfl, ?_⟩) | (refine ⟨h.ldd rfl, ?_⟩) | (refine h.stLc rfl rfl fun w h => ?_) | (refine exs ?_) | (refine _root_.Go.Vc.a2 ?_) | (refine h.stc rfl rfl fun w h => ?_) | (refine h.std rfl rfl fun w h => ?_)))
  refine law07_among_spec (s := (p, q)) (Rd.own hll) (by simp; omega) h fun w h => ?_
  refine cdec (fun e => law07_fixed_spec h fun w h => hK _ h.sub) (fun e => ?_)
  have hn := place_none_iff.2 e
  (repeat (first | (refine h.al fun w h => ?_) | (refine h.dr fun w h => ?_) | (refine h.lc_2 rfl ?_) | (refine h.lc_6 rfl ?_) | (refine ⟨_, h.ldc rfl, ?_⟩) | (refine ⟨_, h.ldd rfl, ?_⟩) | (refine h.hd rfl ?_) | (refine ⟨h.ldc rfl, ?_⟩) | (refine ⟨h.ldd rfl, ?_⟩) | (refine h.stLc rfl rfl fun w h => ?_) | (refine exs ?_) | (refine _root_.Go.Vc.a2 ?_) | (refine h.stc rfl rfl fun w h => ?_) | (refine h.std rfl rfl fun w h => ?_)))
  refine parent_p (p1 := 0) (p2 := 0) (is := false) (by unfold parentN; rw [hn]; rfl) (h.pick (A := TreeA b T)) fun w h => ?_
  (repeat (first | (refine h.al fun w h => ?_) | (refine h.dr fun w h => ?_) | (refine h.lc_2 rfl ?_) | (refine h.lc_6 rfl ?_) | (refine ⟨_, h.ldc rfl, ?_⟩) | (refine ⟨_, h.ldd rfl, ?_⟩) | (refine h.hd rfl ?_) | (refine ⟨h.ldc rfl, ?_⟩) | (refine ⟨h.ldd rfl, ?_⟩) | (refine h.stLc rfl rfl fun w h => ?_) | (refine exs ?_) | (refine _root_.Go.Vc.a2 ?_) | (refine h.stc rfl rfl fun w h => ?_) | (refine h.std rfl rfl fun w h => ?_)))
  refine take_p (e := 71) (T' := T) (by unfold takeN; rw [hn]) (h.pick (A := TreeA b T)) fun w h => ?_
  (repeat (first | (refine h.al fun w h => ?_) | (refine h.dr fun w h => ?_) | (refine h.lc_2 rfl ?_) | (refine h.lc_6 rfl ?_) | (refine ⟨_, h.ldc rfl, ?_⟩) | (refine ⟨_, h.ldd rfl, ?_⟩) | (refine h.hd rfl ?_) | (refine ⟨h.ldc rfl, ?_⟩) | (refine ⟨h.ldd rfl, ?_⟩) | (refine h.stLc rfl rfl fun w h => ?_) | (refine exs ?_) | (refine _root_.Go.Vc.a2 ?_) | (refine h.stc rfl rfl fun w h => ?_) | (refine h.std rfl rfl fun w h => ?_)))
  refine move_p (e := 71) (T' := T) (by unfold moveN; rw [hn]) (h.pick (A := TreeA b T)) fun w h => ?_
  (repeat (first | (refine h.al fun w h => ?_) | (refine h.dr fun w h => ?_) | (refine h.lc_2 rfl ?_) | (refine h.lc_6 rfl ?_) | (refine ⟨_, h.ldc rfl, ?_⟩) | (refine ⟨_, h.ldd rfl, ?_⟩) | (refine h.hd rfl ?_) | (refine ⟨h.ldc rfl, ?_⟩) | (refine ⟨h.ldd rfl, ?_⟩) | (refine h.stLc rfl rfl fun w h => ?_) | (refine exs ?_) | (refine _root_.Go.Vc.a2 ?_) | (refine h.stc rfl rfl fun w h => ?_) | (refine h.std rfl rfl fun w h => ?_)))
  refine add_p (e := 71) (T' := T) (by unfold addN; rw [hn]) (by omega) (h.pick (A := TreeA b T)) fun w h => ?_
  (repeat (first | (refine h.al fun w h => ?_) | (refine h.dr fun w h => ?_) | (refine h.lc_2 rfl ?_) | (refine h.lc_6 rfl ?_) | (refine ⟨_, h.ldc rfl, ?_⟩) | (refine ⟨_, h.ldd rfl, ?_⟩) | (refine h.hd rfl ?_) | (refine ⟨h.ldc rfl, ?_⟩) | (refine ⟨h.ldd rfl, ?_⟩) | (refine h.stLc rfl rfl fun w h => ?_) | (refine exs ?_) | (refine _root_.Go.Vc.a2 ?_) | (refine h.stc rfl rfl fun w h => ?_) | (refine h.std rfl rfl fun w h => ?_)))
  refine under_p (l := []) (by unfold underN; rw [hn]) (h.pick (A := TreeA b T)) fun u w h => ?_
  have hu := h.lenc u
  refine ceqT (by rw [hu]; rfl) ?_
  refine ceqT rfl (ceqT rfl (ceqT rfl ?_))
  refine tree_All_spec (h.pick (A := TreeA b T)) fun l2 w h => ?_
  have hl2 := h.lenc l2
  refine ref07_Same_spec (xs := T.map (·.1)) (ys := T.map (·.1)) (Rd.own hl2) (Rd.own hll) (by simp; omega) h fun w h => ?_
  refine cdecT rfl ?_
  exact law07_fixed_spec h fun w h => hK _ h.sub
theorem law07_TreeMoves_spec {s1 : Sl} {ops : List Op7} {n : Int} {K : Bool → World → Prop} (hi : Inp op7E w0 s1 ops) (hg : ∀ x ∈ ops, op7Good x) (w1 : (Lit.int .i64 n).wf = true) (h : Own w0.heap.size w0 w []) (hK : ∀ w', Own w0.heap.size w0 w' [] → K true w') : C.law07_TreeMoves s1 n K w := by
  apply S.law07_TreeMoves_ok
  unfold S.law07_TreeMoves
  have hlen := laid_len ops
  refine law07_laid_spec (hi.rd _) h fun b w h => ?_
  generalize laidT ops = T at h hlen
  have hT := h.tok
  refine cbF rfl ?_
  refine tree_All_spec h fun l w h => ?_
  have hll := h.lenc l
  rw [List.length_map] at hll
  refine ceq (fun e => law07_fixed_spec h fun w h => hK _ h.sub) (fun e => ?_)
  obtain ⟨j, hj, hjl⟩ := modI (n := n) (k := T.length) (by omega) (by omega)
  obtain ⟨x, hx⟩ : ∃ x, T[j]? = some x := ⟨_, List.getElem?_eq_getElem hjl⟩
  have hxm : (T.map (·.1))[j]? = some x.1 := by rw [List.getElem?_map, hx]; rfl
  rw [hll, hj]
  refine ⟨by omega, ?_⟩
  rw [← hll]
  refine h.ixc rfl hxm fun a ha h0 hc => ?_
  refine ldSlot (x := x.1) hc ?_
  refine h.al fun w2 h => ?_
  refine h.al fun w3 h => ?_
  (repeat (first | (refine h.al fun w h => ?_) | (refine h.dr fun w h => ?_) | (refine h.lc_2 rfl ?_) | (refine h.lc_6 rfl ?_) | (refine ⟨_, h.ldc rfl, ?_⟩) | (refine ⟨_, h.ldd rfl, ?_⟩) | (refine h.hd rfl ?_) | (refine ⟨h.ldc rfl, ?_⟩) | (refine ⟨h.ldd rfl, ?_⟩) | (refine h.stLc rfl rfl fun w h => ?_) | (refine exs ?_) | (refine _root_.Go.Vc.a2 ?_) | (refine h.stc rfl rfl fun w h => ?_) | (refine h.std rfl rfl fun w h => ?_)))
  (dsimp only [putAt, List.set_cons_zero, List.set_cons_succ] at h)
  refine law07_among_spec (s := (1099511627776, 1099511627776)) (Rd.own (s := l) (xs := T.map (·.1)) (by simp [hll])) (by simp; omega) h fun w h => ?_
  refine cdec (fun e => law07_fixed_spec h fun w h => hK _ h.sub) (fun e => ?_)
  obtain ⟨m1, m2, m3, m4, m5⟩ := moved hT hx e
  (repeat (first | (refine h.al fun w h => ?_) | (refine h.dr fun w h => ?_) | (refine h.lc_2 rfl ?_) | (refine h.lc_6 rfl ?_) | (refine ⟨_, h.ldc rfl, ?_⟩) | (refine ⟨_, h.ldd rfl, ?_⟩) | (refine h.hd rfl ?_) | (refine ⟨h.ldc rfl, ?_⟩) | (refine ⟨h.ldd rfl, ?_⟩) | (refine h.stLc rfl rfl fun w h => ?_) | (refine exs ?_) | (refine _root_.Go.Vc.a2 ?_) | (refine h.stc rfl rfl fun w h => ?_) | (refine h.std rfl rfl fun w h => ?_)))
  refine under_p (s1 := x.1.1) (s2 := x.1.2) rfl (h.pick (A := TreeA b T)) fun u w h => ?_
  have hu := h.lenc u
  (repeat (first | (refine h.al fun w h => ?_) | (refine h.dr fun w h => ?_) | (refine h.lc_2 rfl ?_) | (refine h.lc_6 rfl ?_) | (refine ⟨_, h.ldc rfl, ?_⟩) | (refine ⟨_, h.ldd rfl, ?_⟩) | (refine h.hd rfl ?_) | (refine ⟨h.ldc rfl, ?_⟩) | (refine ⟨h.ldd rfl, ?_⟩) | (refine h.stLc rfl rfl fun w h => ?_) | (refine exs ?_) | (refine _root_.Go.Vc.a2 ?_) | (refine h.stc rfl rfl fun w h => ?_) | (refine h.std rfl rfl fun w h => ?_)))
  refine tree_Parent_spec (s := x.1) (h.pick (A := TreeA b T)) fun w h => ?_
  (repeat (first | (refine h.al fun w h => ?_) | (refine h.dr fun w h => ?_) | (refine h.lc_2 rfl ?_) | (refine h.lc_6 rfl ?_) | (refine ⟨_, h.ldc rfl, ?_⟩) | (refine ⟨_, h.ldd rfl, ?_⟩) | (refine h.hd rfl ?_) | (refine ⟨h.ldc rfl, ?_⟩) | (refine ⟨h.ldd rfl, ?_⟩) | (refine h.stLc rfl rfl fun w h => ?_) | (refine exs ?_) | (refine _root_.Go.Vc.a2 ?_) | (refine h.stc rfl rfl fun w h => ?_) | (refine h.std rfl rfl fun w h => ?_)))
  refine move_p (p1 := x.1.1) (p2 := x.1.2) m1 (h.pick (A := TreeA b T)) fun w h => ?_
  generalize hT' : T.set j ((1099511627776, 1099511627776), x.2) = T' at *
  (repeat (first | (refine h.al fun w h => ?_) | (refine h.dr fun w h => ?_) | (refine h.lc_2 rfl ?_) | (refine h.lc_6 rfl ?_) | (refine ⟨_, h.ldc rfl, ?_⟩) | (refine ⟨_, h.ldd rfl, ?_⟩) | (refine h.hd rfl ?_) | (refine ⟨h.ldc rfl, ?_⟩) | (refine ⟨h.ldd rfl, ?_⟩) | (refine h.stLc rfl rfl fun w h => ?_) | (refine exs ?_) | (refine _root_.Go.Vc.a2 ?_) | (refine h.stc rfl rfl fun w h => ?_) | (refine h.std rfl rfl fun w h => ?_)))
  refine tree_Parent_spec (s := (1099511627776, 1099511627776)) (h.pick (A := TreeA b T')) fun w h => ?_
  rw [m3]
  (repeat (first | (refine h.al fun w h => ?_) | (refine h.dr fun w h => ?_) | (refine h.lc_2 rfl ?_) | (refine h.lc_6 rfl ?_) | (refine ⟨_, h.ldc rfl, ?_⟩) | (refine ⟨_, h.ldd rfl, ?_⟩) | (refine h.hd rfl ?_) | (refine ⟨h.ldc rfl, ?_⟩) | (refine ⟨h.ldd rfl, ?_⟩) | (refine h.stLc rfl rfl fun w h => ?_) | (refine exs ?_) | (refine _root_.Go.Vc.a2 ?_) | (refine h.stc rfl rfl fun w h => ?_) | (refine h.std rfl rfl fun w h => ?_)))
  refine under_p (s1 := 1099511627776) (s2 := 1099511627776) m4 (h.pick (A := TreeA b T')) fun v w h => ?_
  have hv := h.lenc v
  (repeat (first | (refine h.al fun w h => ?_) | (refine h.dr fun w h => ?_) | (refine h.lc_2 rfl ?_) | (refine h.lc_6 rfl ?_) | (refine ⟨_, h.ldc rfl, ?_⟩) | (refine ⟨_, h.ldd rfl, ?_⟩) | (refine h.hd rfl ?_) | (refine ⟨h.ldc rfl, ?_⟩) | (refine ⟨h.ldd rfl, ?_⟩) | (refine h.stLc rfl rfl fun w h => ?_) | (refine exs ?_) | (refine _root_.Go.Vc.a2 ?_) | (refine h.stc rfl rfl fun w h => ?_) | (refine h.std rfl rfl fun w h => ?_)))
  refine move_p (s1 := x.1.1) (s2 := x.1.2) m5 (h.pick (A := TreeA b T')) fun w h => ?_
  refine ceqT rfl (ceqT rfl ?_)
  (repeat (first | (refine h.al fun w h => ?_) | (refine h.dr fun w h => ?_) | (refine h.lc_2 rfl ?_) | (refine h.lc_6 rfl ?_) | (refine ⟨_, h.ldc rfl, ?_⟩) | (refine ⟨_, h.ldd rfl, ?_⟩) | (refine h.hd rfl ?_) | (refine ⟨h.ldc rfl, ?_⟩) | (refine ⟨h.ldd rfl, ?_⟩) | (refine h.stLc rfl rfl fun w h => ?_) | (refine exs ?_) | (refine _root_.Go.Vc.a2 ?_) | (refine h.stc rfl rfl fun w h => ?_) | (refine h.std rfl rfl fun w h => ?_)))
  refine ⟨_, slotEq ((parentN T x.1).getD (0, 0)) ((parentN T x.1).getD (0, 0)), ?_⟩
  rw [decide_eq_true rfl]
  refine cbT rfl (cbT (by simp) ?_)
  refine ref07_Same_spec (xs := underN T x.1) (ys := underN T x.1) (Rd.own hu) (Rd.own hv) (by
    rw [← hu]
    have h1 := end_le T hjl
    rw [hu]; unfold underN; rw [place_own hT hx]; simp; omega) h fun w h => ?_
  refine cdecT rfl ?_
  refine tree_All_spec (h.pick (A := TreeA b T)) fun l2 w h => ?_
  have hl2 := h.lenc l2
  refine ref07_Same_spec (xs := T.map (·.1)) (ys := T.map (·.1)) (Rd.own hl2) (Rd.own (by simp [hll])) (by simp; omega) h fun w h => ?_
  refine cdecT rfl ?_
  exact law07_fixed_spec h fun w h => hK _ h.sub
end
end Go.Proofs.Ytmfbhjfkagnahaa
