/- maps.Keys and slices.AppendSeq, walked, at keys of two numbers. -/
import Derived.RangeFuncBox
import Derived.RangeFuncLeaves
import Derived.Shelf.Abstract
import Derived.WalkKit
import Derived.OwnWalkIn
import Derived.TacticsInMore
import Derived.LoopNIn
import Derived.LoopIn
import Derived.Maps.AppendAt
import Derived.Sort.MapsRangeIn
import Derived.Maps.RangeRun
import Derived.RangeFuncGives
import Derived.RangeFuncSeq
import Derived.RangeFuncNested
import Derived.Test.YtdlcejjiccknlaaProg
namespace Go.Proofs.Ytdlcejjiccknlaa
open Go Go.Proofs Go.RowKit Go.Shelf
open Go.ChangeMaps (setBlock)
attribute [local go_sem] Oper.semAt_some

section
variable {F : Fence} {n : Nat} {P : Program} (w : World) {ops : Array Oper} {rest : List Oper} {o : Oper} {a : Act} {Q : Exit → Act → World → Prop}
theorem wpListIn_range_raw (hg : o.guard = none) (m : Operand) (t : TypeId) (hop : o.op = Op.range t m) {b : Nat} (hm : a.eval m = .map (some b)) {v : Value} {w' : World} (hrun : (Instr.range t (.map (some b))).run P w = .ok v w')
    (hK : wpListIn F n P ops Q rest (a.put o.dst v) w') : wpListIn F n P ops Q (o :: rest) a w := by
  refine wpListIn_plain hg fun K' hK' => ?_
  unfold Oper.wpIn
  refine ⟨?_, ?_⟩
  · simp [Oper.about, hop]
  · rw [Oper.semAt_plain F _ _ (by rw [hop]; intro c hc'; cases hc')]
    simp [execOp, hop, hm, hrun, Result.andThen]
    exact hK' _ _ hK
theorem wpListIn_next_raw (hg : o.guard = none) (it : Operand) (hop : o.op = Op.next it false) {p : Value} (hit : a.eval it = p) {v : Value} {w' : World} (hrun : (Instr.next p false o.type).run P w = .ok v w')
    (hK : wpListIn F n P ops Q rest (a.put o.dst v) w') : wpListIn F n P ops Q (o :: rest) a w := by
  refine wpListIn_plain hg fun K' hK' => ?_
  unfold Oper.wpIn
  refine ⟨by simp [Oper.about, hop], ?_⟩
  rw [Oper.semAt_plain F _ _ (by rw [hop]; intro c hc'; cases hc')]
  simp [execOp, hop, hit, hrun, Result.andThen]
  exact hK' _ _ hK
end
theorem left_perm : ∀ (l : List MapEntry) (e : MapEntry), (l.map (·.born)).Nodup → e ∈ l → l.Perm (e :: l.filter fun x => x.born != e.born)
  | [], e, _, h => by simp at h
  | a :: l, e, hn, h => by
    rw [List.map_cons, List.nodup_cons] at hn
    rw [List.filter_cons]
    rcases List.mem_cons.1 h with rfl | h
    · have : l.filter (fun x => x.born != e.born) = l := List.filter_eq_self.2 fun x hx => by
        simp only [bne_iff_ne, ne_eq]
        exact fun e' => hn.1 (List.mem_map.2 ⟨x, hx, e'⟩)
      simp [this]
    · have hne : (a.born != e.born) = true := by
        simp only [bne_iff_ne, ne_eq]
        exact fun e' => hn.1 (List.mem_map.2 ⟨e, h, e'.symm⟩)
      rw [hne, if_pos rfl]
      exact ((left_perm l e hn.2 h).cons a).trans (List.Perm.swap _ _ _)
theorem left_push (es : Array MapEntry) (seen : Array Nat) (e : MapEntry) : (leftOf es (seen.push e.born)).toList = (leftOf es seen).toList.filter fun x => x.born != e.born := by
  unfold leftOf
  rw [Array.toList_filter, Array.toList_filter, List.filter_filter]
  congr 1
  funext x
  rw [Array.contains_push]
  cases hq : (x.born == e.born) <;> simp [bne, hq]
/-- How many are still to come. -/
def leftN (b it : Nat) (w : World) : Nat := match w.heap[b]?, w.heap[it]? with
  | some (.map es _), some (.mapIter _ _ seen _) => (leftOf es seen).size
  | _, _ => 0
theorem leftN_eq {b it : Nat} {w : World} {es : Array MapEntry} {c : Nat} {m : Option Nat} {since c0 : Nat} {seen : Array Nat} (h1 : w.heap[b]? = some (.map es c)) (h2 : w.heap[it]? = some (.mapIter m since seen c0)) : leftN b it w = (leftOf es seen).size := by
  unfold leftN; rw [h1, h2]
def pairV (x : Int × Int) : Value := .agg #[.int .i64 x.1, .int .i64 x.2]
def pairC (x : Int × Int) : List Value := [.int .i64 x.1, .int .i64 x.2]
theorem cell_two_new (w : World) (x y : Value) (t : TypeId) : ∀ j u, [x, y][j]? = some u → (w.alloc (.cells #[x, y] t)).cell? ((⟨w.heap.size, 0, none⟩ : Addr).add j) = some u := by
  intro j u hj
  match j, hj with
  | 0, hj => simp at hj; subst hj; simp [Addr.add]
  | 1, hj => simp at hj; subst hj; simp [Addr.add]
theorem hpair (x : Int × Int) : pairV x = .agg #[.int .i64 x.1, .int .i64 x.2] := rfl
def decP : Value → Int × Int
  | .agg ⟨[.int _ a, .int _ b]⟩ => (a, b)
  | _ => (0, 0)
set_option maxRecDepth 100000 in
set_option maxHeartbeats 2000000 in
theorem keysK_in (n : Nat) (hn : 1 ≤ n) (l Bm b : Nat) (es : Array MapEntry) (c : Nat) (ks : List (Int × Int)) (hks : es.toList.map (·.key) = ks.map pairV) (hborn : (es.toList.map (·.born)).Nodup) (hlt : ∀ e ∈ es.toList, e.born < c) (J Jx : List (Int × Int) → World → Prop)
    (hY : ∀ pre x W, J pre W → pre.length < ks.length → YieldAt Fence.wide (n - 1) Try.prog l #[pairV x] W fun e W' =>
      (e = .returned (.bool true) ∧ J (pre ++ [x]) W' ∧ KeepsWalks W W') ∨ (e = .returned (.bool false) ∧ Jx (pre ++ [x]) W'))
    (W : World) (hJ : AbidesFrom W.heap.size J) (hm : W.cell? ⟨Bm, 0, none⟩ = some (.map (some b))) (hb : W.heap[b]? = some (.map es c)) (h0 : J [] W) :
    CallsIn Fence.wide n Try.prog 78 #[.func (.yield l) #[] #[], .pointer (some ⟨Bm, 0, none⟩)] W fun e W' => (∃ v, e = .returned v) ∧
      ((∃ ss : List (Int × Int), ss.Perm ks ∧ J ss W') ∨ (∃ pre : List (Int × Int), True ∧ Jx pre W')) := by
  have hblt : b < W.heap.size := (Array.getElem?_eq_some_iff.1 hb).1
  refine callsIn_of_wp Try.func78 rfl trivial ?_ rfl
  simp only [Try.ntmps78, List.size_toArray, List.length_cons, List.length_nil, Nat.reduceAdd, Nat.reduceSub, Array.replicate_succ, Array.replicate_zero, List.push_toArray, List.append_toArray, List.nil_append, List.cons_append]
  have hrun := run_range_map (P := Try.prog) W 82 49 38 b es c Try.underlying82 hb
  gi_wp2_with (first
    | (gi_at_range; refine wpListIn_range_raw _ rfl _ 82 rfl rfl hrun ?_)
    | gi_in)
  go_frame
  have hW0 : ∀ k, k < W.heap.size → (W.alloc (.mapIter (some b) c #[] c)).heap[k]? = W.heap[k]? := fun k hk => Below.heap_alloc W _ k hk
  gi_loopw [3] (fun _ wr => ∃ (ss : List (Int × Int)) (seen : Array Nat) (c0 : Nat), wr.heap[b]? = some (.map es c) ∧ wr.heap[W.heap.size]? = some (.mapIter (some b) c seen c0) ∧ c ≤ c0 ∧ (ss.map pairV ++ (leftOf es seen).toList.map (·.key)).Perm (es.toList.map (·.key)) ∧ J ss wr)
    (fun _ wr => leftN b W.heap.size wr)
  case atStart =>
    refine ⟨[], #[], c, (hW0 b hblt).trans hb, by show (W.heap.push _)[W.heap.size]? = _; simp, Nat.le_refl _, ?_, hJ [] W _ none h0 (World.grownBy_alloc W _ none) (fun r e => by cases e)⟩
    have : leftOf es #[] = es := by unfold leftOf; simp
    rw [this]; exact List.Perm.refl _
  case round =>
    obtain ⟨ss, seen, c0, hb1, hi1, hc0, hp, hJs⟩ := hrel
    rcases run_next_at (P := Try.prog) wr 0 W.heap.size b c c0 seen es c hi1 hb1 hlt hc0 with ⟨hsz, hnx⟩ | ⟨e, he, w1, hw1, hnx⟩
    · gi_wp2_with (first
        | (gi_at_next; refine wpListIn_next_raw _ rfl _ rfl rfl hnx ?_)
        | gi_in)
      go_end0
      have hl : (leftOf es seen).toList = [] := List.eq_nil_of_length_eq_zero (by simpa using hsz)
      rw [hl, hks] at hp
      simp only [List.map_nil, List.append_nil] at hp
      have hp2 := hp.map decP
      rw [List.map_map, List.map_map] at hp2
      have hid : ∀ l : List (Int × Int), l.map (decP ∘ pairV) = l := fun l => by
        refine (List.map_congr_left fun x _ => rfl).trans (List.map_id _)
      rw [hid, hid] at hp2
      exact ⟨⟨_, rfl⟩, .inl ⟨ss, hp2, hJs⟩⟩
    · have hmem : e ∈ es.toList := by
        have := Array.mem_toList_iff.1 he
        unfold leftOf at this
        exact Array.mem_toList_iff.2 (Array.mem_filter.1 this).1
      obtain ⟨x, hx, hkx⟩ : ∃ x ∈ ks, pairV x = e.key := by
        have : e.key ∈ es.toList.map (·.key) := List.mem_map.2 ⟨e, hmem, rfl⟩
        rw [hks] at this
        obtain ⟨x, hx, h⟩ := List.mem_map.1 this
        exact ⟨x, hx, h⟩
      have hne : b ≠ W.heap.size := by omega
      have hw1h : w1.heap = wr.heap := by rcases hw1 with rfl | rfl <;> rfl
      obtain ⟨w2, hw2⟩ : ∃ w2, setBlock w1 W.heap.size (.mapIter (some b) c (seen.push e.born) c) = w2 := ⟨_, rfl⟩
      rw [hw2] at hnx
      have hilt : W.heap.size < w1.heap.size := by rw [hw1h]; exact (Array.getElem?_eq_some_iff.1 hi1).1
      have hi2 : w2.heap[W.heap.size]? = some (.mapIter (some b) c (seen.push e.born) c) := by rw [← hw2]; simp [setBlock, Array.getElem?_setIfInBounds_self_of_lt hilt]
      have hb2 : w2.heap[b]? = some (.map es c) := by
        rw [← hw2]
        show (w1.heap.setIfInBounds W.heap.size _)[b]? = _
        rw [Array.getElem?_setIfInBounds_ne (by omega), hw1h]; exact hb1
      have hen := run_entry_at (P := Try.prog) w2 W.heap.size b c seen es c e hi2 hb2 hmem hborn
      have hg2 : wr.grownBy w2 (some W.heap.size) := by
        rw [← hw2]
        refine ⟨?_, ?_, ?_, ?_, fun k hk hkr => ?_⟩
        · rcases hw1 with rfl | rfl <;> rfl
        · rcases hw1 with rfl | rfl <;> rfl
        · rcases hw1 with rfl | rfl <;> rfl
        · show wr.heap.size ≤ (w1.heap.setIfInBounds W.heap.size _).size
          rw [Array.size_setIfInBounds, hw1h]; exact Nat.le_refl _
        · show (w1.heap.setIfInBounds W.heap.size _)[k]? = _
          rw [Array.getElem?_setIfInBounds_ne (fun e' => hkr (by rw [e'])), hw1h]
      have hlp := left_perm (leftOf es seen).toList e (by
        unfold leftOf
        rw [Array.toList_filter]
        exact hborn.sublist (List.filter_sublist.map _)) he
      rw [← left_push] at hlp
      have hp2 : ((ss ++ [x]).map pairV ++ (leftOf es (seen.push e.born)).toList.map (·.key)).Perm (es.toList.map (·.key)) := by
        refine List.Perm.trans ?_ hp
        rw [List.map_append, List.append_assoc]
        refine List.Perm.append_left _ ?_
        have := hlp.map (·.key)
        rw [List.map_cons] at this
        show (pairV x :: _).Perm _
        rw [hkx]; exact this.symm
      have hsslt : ss.length < ks.length := by
        have h1 := hp2.length_eq
        have h2 := congrArg List.length hks
        simp only [List.length_append, List.length_map, List.length_cons, List.length_nil] at h1 h2
        omega
      have hJ2 : J ss w2 := hJ ss wr w2 (some W.heap.size) hJs hg2 (fun r e' => by cases e'; exact ⟨Nat.le_refl _, _, hi1, rfl⟩)
      rw [← hkx, hpair] at hnx hen
      obtain ⟨x1, x2⟩ := x
      dsimp only at hnx hen
      have hb2' : (w2.alloc (.cells #[.int .i64 x1, .int .i64 x2] 49)).heap[b]? = some (.map es c) := (Below.heap_alloc w2 _ b (Array.getElem?_eq_some_iff.1 hb2).1).trans hb2
      have hi2' : (w2.alloc (.cells #[.int .i64 x1, .int .i64 x2] 49)).heap[W.heap.size]? = some (.mapIter (some b) c (seen.push e.born) c) := (Below.heap_alloc w2 _ _ (Array.getElem?_eq_some_iff.1 hi2).1).trans hi2
      have hJ2' := hJ ss w2 _ none hJ2 (World.grownBy_alloc w2 (.cells #[.int .i64 x1, .int .i64 x2] 49) none) (fun r e => by cases e)
      obtain ⟨fn, tmps, assign, body, hy, hR⟩ := hY ss (x1, x2) _ hJ2' hsslt
      rw [hpair] at hy
      dsimp only at hy
      have hms : (leftOf es (seen.push e.born)).size < (leftOf es seen).size := by
        have h1 := hlp.length_eq
        simp only [Array.length_toList, List.length_cons] at h1
        omega
      clear hw2 hkx
      gi_wp2_with (first
        | (gi_at_next; refine wpListIn_next_raw _ rfl _ rfl rfl hnx ?_)
        | gi_in)
      refine hR.mono ?_
      rintro e2 W3 (⟨rfl, hJ3, hk3⟩ | ⟨rfl, hJx3⟩)
      · gi_wp2
        have hb3 := hk3.same b _ hb2' rfl
        have hi3 := hk3.same W.heap.size _ hi2' rfl
        go_roundw
        case rel => exact ⟨ss ++ [(x1, x2)], seen.push e.born, c, hb3, hi3, Nat.le_refl _, hp2, hJ3⟩
        case measure => rw [leftN_eq hb3 hi3, leftN_eq hb1 hi1]; exact hms
      · gi_wp2
        refine bodyPost_ret (results_none rfl _ _ _) rfl ?_
        exact ⟨⟨_, rfl⟩, .inr ⟨ss ++ [(x1, x2)], trivial, hJx3⟩⟩

theorem keysK_stops (n : Nat) (hn : 1 ≤ n) (Bm b : Nat) (es : Array MapEntry) (c : Nat) (ks : List (Int × Int)) (hks : es.toList.map (·.key) = ks.map pairV) (hborn : (es.toList.map (·.born)).Nodup) (hlt : ∀ e ∈ es.toList, e.born < c)
    (w : World) (hBm : Bm < w.heap.size) (hm : w.cell? ⟨Bm, 0, none⟩ = some (.map (some b))) (hb : w.heap[b]? = some (.map es c)) :
    SeqStops Fence.wide n Try.prog 78 #[.pointer (some ⟨Bm, 0, none⟩)] pairV (fun ss => ss.Perm ks) (fun _ => True) ks.length w := fun l J Jx W hW hJ _ hY h0 =>
  keysK_in n hn l Bm b es c ks hks hborn hlt J Jx hY W hJ ((hW.cell (p := ⟨Bm, 0, none⟩) hBm).trans hm) ((hW.block b (Array.getElem?_eq_some_iff.1 hb).1).trans hb) h0
theorem infoS : (Try.prog.info? 49).map (fun i => (i.zero, i.size, i.bytes)) = some (some (.agg #[.int .i64 0, .int .i64 0]), 2, 16) := by kernel_rfl
set_option maxRecDepth 100000 in
set_option maxHeartbeats 2000000 in
theorem appendSeqK (g : Nat) (lb : Array Value) (eg : ∀ args w, (callFunc g args).run Try.prog w = .ok (.enter g args) w) (S : List (Int × Int) → Prop) (N : Nat) (hN : N ≤ 1000000) (w : World) (hseq : SeqStops Fence.wide 1 Try.prog g lb pairV S (fun _ => True) N w) :
    CallsIn Fence.wide 2 Try.prog 85 #[.slice none 0 0, .func (.func g) #[] lb] w fun e w' => ∃ (v : Value) (ss : List (Int × Int)), e = .returned v ∧ S ss ∧ w'.ownsRow w.heap.size 49 2 v ss.length (ss.flatMap pairC) ∧ Below w.heap.size w w' := by
  obtain ⟨i0, hi, hz0, hz1, hz2⟩ := info_parts infoS
  refine callsIn_of_wp_marks Try.func85 rfl trivial ?_ rfl
  simp only [Try.ntmps85, List.size_toArray, List.length_cons, List.length_nil, Nat.reduceAdd, Nat.reduceSub, Array.replicate_succ, Array.replicate_zero, List.push_toArray, List.append_toArray, List.nil_append, List.cons_append]
  gi_wp2
  have bO := Boxed.new w 98 (.slice none 0 0)
  have hB0 : Below w.heap.size w (w.alloc (.cells #[.slice none 0 0] 98)) := (Below.refl _ w).alloc (Nat.le_refl _) _
  refine wpIn_rangeFunc_ownH (α := Int × Int) (encs := fun x => #[pairV x]) (Kp := KeepsWalks) rfl (by decide) (gf := g) (lb := lb) rfl trivial eg hseq walksK_t walksK_b hB0 (fun _ => rfl)
    (fun (pre : List (Int × Int)) W => (∃ v, Boxed W w.heap.size 98 v ∧ W.ownsRow w.heap.size 49 2 v pre.length (pre.flatMap pairC) ∧ True) ∧ Below w.heap.size w W)
    (fun _ _ _ => False)
    (OwnFrom.and (Own.from (holdsRow_own w.heap.size w.heap.size 98 49 2 (fun (pre : List (Int × Int)) => pre.length) (fun (pre : List (Int × Int)) => pre.flatMap pairC) (fun (pre : List (Int × Int)) v => True)) _) (ownFrom_below (Nat.le_refl _) (by simp)))
    (fun _ _ _ _ _ hs _ _ => hs)
    ⟨⟨_, bO, World.ownsRow_nil _ _ _ _, trivial⟩, hB0⟩
    (fun x a' W => ∃ p, a' = { tmps := #[.slice none 0 0, .func (.func g) #[] lb, .pointer (some ⟨w.heap.size, 0, none⟩), undef, .slice none 0 0, .pointer (some ⟨p, 0, none⟩), .func (.func g) #[] lb, .agg #[.int .i64 x.1, .int .i64 x.2], undef, undef, undef, undef, undef], defers := [] } ∧ W.heap[p]? = some (.cells #[.int .i64 x.1, .int .i64 x.2] 49 (0, 0)))
    (fun x a' => by
      rintro _ X Y row ⟨p, ha, hp⟩ hg hr
      refine ⟨p, ha, (hg.block p (Array.getElem?_eq_some_iff.1 hp).1 fun e => ?_).trans hp⟩
      obtain ⟨_, o, ho, hc⟩ := hr p e.symm
      rw [hp] at ho; cases ho; cases hc)
    ?assign ?body ?done ?stop
  case assign =>
    rintro l pre ⟨x1, x2⟩ W K ⟨⟨v, hv, hrow, _⟩, hB⟩ hK
    dsimp only [pairV]
    gi_wp2
    refine hK _ _ ((KeepsOthers.alloc W _).from _) ⟨(KeepsOthers.alloc W _).size, fun k o h1 h2 => (KeepsOthers.alloc W _).same k o h1 (by cases o <;> simp_all [Obj.isWalk, Obj.isCells])⟩ ⟨⟨v, hv.alloc _, hrow.alloc _, trivial⟩, hB.alloc (by have := hB.size; omega) _⟩ ⟨_, rfl, World.alloc_heap_new _ _⟩
  case body =>
    rintro l pre ⟨x1, x2⟩ a' W _ _ ⟨⟨v, hv, hrow, _⟩, hB⟩ ⟨p, rfl, hp⟩ hlt
    have hc := hv.cell
    have hp0 : W.cell? ⟨p, 0, none⟩ = some (.int .i64 x1) := by simp [World.cell?, hp]
    have hp1 : W.cell? ⟨p, 1, none⟩ = some (.int .i64 x2) := by simp [World.cell?, hp]
    gi_wp2_with (gi_at_builtin; refine wpListIn_append_own _ rfl _ _ 98 rfl w.heap.size 49 i0 (.agg #[.int .i64 0, .int .i64 0]) 2 16 Try.underlying98 hi hz0 hz1 hz2 rfl (by decide) _ _ _ rfl (hrow.alloc _) ⟨W.heap.size, 0, none⟩ 1 1 [.int .i64 x1, .int .i64 x2] rfl rfl (cell_two_new _ _ _ _) (by simp [Value.oneCell']) (Nat.le_trans (show pre.length + 1 ≤ 1000001 by omega) (by decide)) (by omega) (by have := hB.size; simp; omega) ?_; intro v' w1 hown' hgrow _; obtain ⟨g', cap', rfl⟩ := ownsRow_succ hown'; obtain ⟨hv1, hv2, hr2, hk2, hb2⟩ := hv.appended (by decide) hrow hB.size (Nat.le_refl _) hown' hgrow; have hc1 := hv1.cell; have hf1 := hv1.frozen)
    exact ⟨hk2.from _, ⟨hk2.size, fun k o h1 h2 => hk2.same k o h1 (by cases o <;> simp_all [Obj.isWalk, Obj.isCells])⟩, ⟨_, hv2, by rw [List.flatMap_append, List.length_append]; exact hr2⟩, hB.trans hb2⟩
  case done =>
    rintro D ys W hD hS ⟨⟨v, hv, hrow, _⟩, hB⟩ hK
    have hc := hv.cell
    gi_wp2
    refine ⟨by simp, .inl ⟨_, _, rfl, run_takeDeferred hK, ?_⟩⟩
    exact ⟨_, results_tmp rfl _ _ _, v, ys, rfl, hS, ownsRow_putObj hrow _ hK rfl, hB.trans (belowK_b (w := w) (Nat.le_refl _) W D _ _ (by simp at hD; omega) hK rfl rfl)⟩
  case stop =>
    rintro D c pre W _ _ h _
    exact h.elim
end Go.Proofs.Ytdlcejjiccknlaa
