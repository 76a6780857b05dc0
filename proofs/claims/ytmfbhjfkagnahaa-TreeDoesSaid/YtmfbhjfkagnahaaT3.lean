/- A tree of slots, more: one taken out; what is told of it. -/
import Derived.Test.YtmfbhjfkagnahaaT2
import Derived.Test.YtmfbhjfkagnahaaS5
set_option linter.unusedVariables false
set_option linter.unusedSimpArgs false
set_option maxRecDepth 8000
namespace Go.Proofs.Ytmfbhjfkagnahaa
open Go Go.Vc Go.Proofs

theorem TOk.take {T : Tr} {s : Slot} {i : Nat} (hT : TOk T) (hp : placeN T s = some i) : TOk (T.take i ++ (lift1 ((T.drop (i + 1)).take (endN T i - (i + 1))) ++ T.drop (endN T i))) := by
  obtain ⟨x, hx, _⟩ := place_some hp
  have hi := (List.getElem?_eq_some_iff.1 hx).1
  obtain ⟨e1, e2⟩ := end_le T hi
  have hsub : (((T.take i ++ (lift1 ((T.drop (i + 1)).take (endN T i - (i + 1))) ++ T.drop (endN T i)))).map (·.1)).Sublist (T.map (·.1)) := by
    have h1 : T = T.take i ++ (T.drop i) := (List.take_append_drop _ _).symm
    have h2 : T.drop i = x :: T.drop (i + 1) := by
      rw [List.drop_eq_getElem_cons hi]
      rw [List.getElem?_eq_getElem hi] at hx; cases hx; rfl
    have h3 : T.drop (i + 1) = (T.drop (i + 1)).take (endN T i - (i + 1)) ++ T.drop (endN T i) := by
      have := (List.take_append_drop (endN T i - (i + 1)) (T.drop (i + 1))).symm
      rw [List.drop_drop, show i + 1 + (endN T i - (i + 1)) = endN T i from by omega] at this
      exact this
    have h4 : (lift1 ((T.drop (i + 1)).take (endN T i - (i + 1)))).map (·.1) = ((T.drop (i + 1)).take (endN T i - (i + 1))).map (·.1) := by
      unfold lift1; rw [List.map_map]; rfl
    rw [List.map_append, List.map_append, h4, ← List.map_append, ← h3]
    conv => rhs; rw [h1, h2]
    rw [List.map_append, List.map_cons]
    exact (List.sublist_cons_self _ _).append_left _
  refine ⟨?_, ?_, List.Nodup.sublist hsub hT.nd⟩
  · have := hsub.length_le
    rw [List.length_map, List.length_map] at this
    have := hT.few; omega
  · -- depths
    have hw := hT.wf
    have h1 : T = T.take i ++ (T.drop i) := (List.take_append_drop _ _).symm
    have h2 : T.drop i = x :: T.drop (i + 1) := by
      rw [List.drop_eq_getElem_cons hi]
      rw [List.getElem?_eq_getElem hi] at hx; cases hx; rfl
    have hd := dOf_get hx
    have hend : endN T i - (i + 1) = ((T.drop (i + 1)).takeWhile fun y => decide (x.2 < y.2)).length := by unfold endN; rw [hd]; omega
    have hdrop : T.drop (endN T i) = (T.drop (i + 1)).dropWhile fun y => decide (x.2 < y.2) := by
      have e : endN T i = i + 1 + ((T.drop (i + 1)).takeWhile fun y => decide (x.2 < y.2)).length := by unfold endN; rw [hd]
      rw [e, ← List.drop_drop]
      conv => lhs; rw [← List.takeWhile_append_dropWhile (p := fun y : Leaf => decide (x.2 < y.2)) (l := T.drop (i + 1))]
      rw [List.drop_left' (by rw [List.takeWhile_append_dropWhile])]
    have htake : (T.drop (i + 1)).take (endN T i - (i + 1)) = (T.drop (i + 1)).takeWhile fun y => decide (x.2 < y.2) := by
      rw [hend]
      conv => lhs; rw [← List.takeWhile_append_dropWhile (p := fun y : Leaf => decide (x.2 < y.2)) (l := T.drop (i + 1))]
      rw [List.take_left' (by rw [List.takeWhile_append_dropWhile])]
    rw [h1, h2, wfD_app] at hw
    rw [htake, hdrop, wfD_app]
    refine ⟨hw.1, ?_⟩
    obtain ⟨_, hx0, hx1, hrest⟩ := hw
    generalize (match (T.take i).getLast? with | some x => x.2 | none => -1 : Int) = q at hx1 ⊢
    generalize T.drop (i + 1) = D at hrest
    -- behind x: those under it are lifted
    have key : ∀ (D : Tr) (p : Int), x.2 ≤ p → wfD p D → wfD (p - 1) (lift1 (D.takeWhile fun y => decide (x.2 < y.2)) ++ D.dropWhile fun y => decide (x.2 < y.2)) := by
      intro D
      induction D with
      | nil => intro p _ _; exact trivial
      | cons y D ih =>
        intro p hp hw
        by_cases e : x.2 < y.2
        · rw [List.takeWhile_cons_of_pos (by simpa using e), List.dropWhile_cons_of_pos (by simpa using e)]
          exact ⟨by show 0 ≤ y.2 - 1; omega, by show y.2 - 1 ≤ p - 1 + 1; have := hw.2.1; omega, ih y.2 (by omega) hw.2.2⟩
        · rw [List.takeWhile_cons_of_neg (by simpa using e), List.dropWhile_cons_of_neg (by simpa using e)]
          exact ⟨hw.1, by show y.2 ≤ p - 1 + 1; omega, hw.2.2⟩
    exact wfD_mono (by omega) (key D x.2 (Int.le_refl _) hrest)

section
variable {B : Nat} {w0 w : World} {R L : List Asn} {b : Nat} {T : Tr}
theorem slotsOf_spec {s : Sl} {xs : Tr} {K : Sl → World → Prop} (hr : Rd leafE B w0 L s xs) (hbig : xs.length ≤ 1000000) (h : Own B w0 w L) (hK : ∀ s' w', Own B w0 w' (SlT slotE s' (xs.map (·.1)) :: L) → K s' w') : C.tree_slotsOf s K w := by
  apply S.tree_slotsOf_ok
  unfold S.tree_slotsOf
  have hlen := hr.len
  intro l hl
  have loop : ∀ (rest : Tr) (j : Nat) (o : Sl) (w : World), xs.drop j = rest → j ≤ xs.length → Own B w0 w (SlT slotE o ((xs.take j).map (·.1)) :: L) → l o (j : Int) w := by
    intro rest
    induction rest with
    | nil =>
      intro j o w hj hjl h
      have : xs.length ≤ j := by have := congrArg List.length hj; simp at this; omega
      apply hl
      refine cdecF (by omega) ?_
      rw [List.take_of_length_le this] at h
      exact hK _ _ h
    | cons x rest ih =>
      intro j o w hj hjl h
      have hjl2 : j < xs.length := by have := congrArg List.length hj; simp at this; omega
      have hx : xs[j]? = some x := by
        have := congrArg (fun l => l[0]?) hj
        simpa using this
      apply hl
      refine cdecT (by omega) ?_
      have hr2 : Rd leafE B w0 (SlT slotE o ((xs.take j).map (·.1)) :: L) s xs := hr.more
      refine hr2.ix h rfl hx fun a ha h0 hc => ?_
      refine ldLeaf hc ?_
      refine h.al fun w h => ?_
      refine h.stLc rfl rfl fun w h => ?_
      refine h.lc_2 rfl ?_
      refine h.al fun w h => ?_
      have h := h.rm1
      refine app1_slot (ys := ((xs.take j).map fun y : Leaf => y.1)) (y := x.1) h (by simp; omega) fun o' w ho' h => ?_
      rw [show IntKind.i64.wrap ((j : Int) + 1) = ((j + 1 : Nat) : Int) from by rw [wr (by omega) (by omega)]; omega]
      refine ih (j + 1) o' w (by rw [← List.drop_drop, hj]; rfl) (by omega) ?_
      rw [List.take_add_one, hx, List.map_append]
      exact h
  exact loop xs 0 ⟨none, 0, 0⟩ w rfl (by omega) (Own.nilS h)
theorem tree_All_spec {K : Sl → World → Prop} (h : Own B w0 w (TreeA b T :: R)) (hK : ∀ s' w', Own B w0 w' (SlT slotE s' (T.map (·.1)) :: TreeA b T :: R) → K s' w') : C.tree_Tree_All (some ⟨b, 0, none⟩) K w := by
  apply S.tree_Tree_All_ok
  unfold S.tree_Tree_All
  obtain ⟨sl, hT, h⟩ := h.tree
  have hlen := h.lenc sl
  (repeat (first | (refine h.al fun w h => ?_) | (refine h.dr fun w h => ?_) | (refine h.lc_2 rfl ?_) | (refine h.lc_6 rfl ?_) | (refine ⟨_, h.ldc rfl, ?_⟩) | (refine ⟨_, h.ldd rfl, ?_⟩) | (refine h.hd rfl ?_) | (refine ⟨h.ldc rfl, ?_⟩) | (refine ⟨h.ldd rfl, ?_⟩) | (refine h.stLc rfl rfl fun w h => ?_) | (refine exs ?_) | (refine _root_.Go.Vc.a2 ?_) | (refine h.stc rfl rfl fun w h => ?_) | (refine h.std rfl rfl fun w h => ?_)))
  refine slotsOf_spec (Rd.own hlen) hT.few h fun s' w h => ?_
  have h2 : Own B w0 w (TreeA b T :: SlT slotE s' (T.map (·.1)) :: R) := Own.mk_tree (s := sl) hT h.up2.up2
  exact hK _ _ h2.up1
theorem tree_Copy_spec {K : Option Addr → World → Prop} (h : Own B w0 w (TreeA b T :: R)) (hK : ∀ b' w', Own B w0 w' (TreeA b' T :: TreeA b T :: R) → K (some ⟨b', 0, none⟩) w') : C.tree_Tree_Copy (some ⟨b, 0, none⟩) K w := by
  apply S.tree_Tree_Copy_ok
  unfold S.tree_Tree_Copy
  obtain ⟨sl, hT, h⟩ := h.tree
  (repeat (first | (refine h.al fun w h => ?_) | (refine h.dr fun w h => ?_) | (refine h.lc_2 rfl ?_) | (refine h.lc_6 rfl ?_) | (refine ⟨_, h.ldc rfl, ?_⟩) | (refine ⟨_, h.ldd rfl, ?_⟩) | (refine h.hd rfl ?_) | (refine ⟨h.ldc rfl, ?_⟩) | (refine ⟨h.ldd rfl, ?_⟩) | (refine h.stLc rfl rfl fun w h => ?_) | (refine exs ?_) | (refine _root_.Go.Vc.a2 ?_) | (refine h.stc rfl rfl fun w h => ?_) | (refine h.std rfl rfl fun w h => ?_)))
  refine Clone_leaf (xs := T) h (by have := hT.few; omega) fun s' w h => ?_
  (repeat (first | (refine h.al fun w h => ?_) | (refine h.dr fun w h => ?_) | (refine h.lc_2 rfl ?_) | (refine h.lc_6 rfl ?_) | (refine ⟨_, h.ldc rfl, ?_⟩) | (refine ⟨_, h.ldd rfl, ?_⟩) | (refine h.hd rfl ?_) | (refine ⟨h.ldc rfl, ?_⟩) | (refine ⟨h.ldd rfl, ?_⟩) | (refine h.stLc rfl rfl fun w h => ?_) | (refine exs ?_) | (refine _root_.Go.Vc.a2 ?_) | (refine h.stc rfl rfl fun w h => ?_) | (refine h.std rfl rfl fun w h => ?_)))
  have h2 : Own B w0 _ (TreeA b T :: _) := Own.mk_tree (s := sl) hT h.up3.up3
  have h3 : Own B w0 _ (TreeA _ T :: _) := Own.mk_tree (s := s') hT h2.up2.up2.up1
  exact hK _ _ h3
theorem tree_Under_spec {s : Slot} {K : Sl → World → Prop} (h : Own B w0 w (TreeA b T :: R)) (hK : ∀ s' w', Own B w0 w' (SlT slotE s' (underN T s) :: TreeA b T :: R) → K s' w') : C.tree_Tree_Under (some ⟨b, 0, none⟩) s.1 s.2 K w := by
  apply S.tree_Tree_Under_ok
  unfold S.tree_Tree_Under
  obtain ⟨sl, hT, h⟩ := h.tree
  have hlen := h.lenc sl
  have hcap := h.slRaw.le_cap
  have hfew := hT.few
  unfold underN at hK
  (repeat (first | (refine h.al fun w h => ?_) | (refine h.dr fun w h => ?_) | (refine h.lc_2 rfl ?_) | (refine h.lc_6 rfl ?_) | (refine ⟨_, h.ldc rfl, ?_⟩) | (refine ⟨_, h.ldd rfl, ?_⟩) | (refine h.hd rfl ?_) | (refine ⟨h.ldc rfl, ?_⟩) | (refine ⟨h.ldd rfl, ?_⟩) | (refine h.stLc rfl rfl fun w h => ?_) | (refine exs ?_) | (refine _root_.Go.Vc.a2 ?_) | (refine h.stc rfl rfl fun w h => ?_) | (refine h.std rfl rfl fun w h => ?_)))
  refine tree_place_o (x := s) hT h.up2.up2 fun w h => ?_
  cases hp : placeN T s with
  | none =>
    rw [hp] at hK
    refine cdecT (by decide) ?_
    have h2 : Own B w0 w (TreeA b T :: R) := Own.mk_tree (s := sl) hT h.rm2
    exact hK _ w (Own.nilS h2)
  | some i =>
    obtain ⟨x, hx, hxp⟩ := place_some hp
    have hi := (List.getElem?_eq_some_iff.1 hx).1
    obtain ⟨e1, e2⟩ := end_le T hi
    rw [hp] at hK
    refine cdecF (by show ¬ (i : Int) < 0; omega) ?_
    have ew : IntKind.i64.wrap ((i : Int) + 1) = ((i + 1 : Nat) : Int) := by rw [wr (by omega) (by omega)]; omega
    have fin : ∀ w, Own B w0 w (SlT leafE sl T :: BlkA b [slV sl] :: R) → C.tree_slotsOf ⟨Vc.slA sl.a (i + 1) sl.cap 3, endN T i - (i + 1), sl.cap - (i + 1)⟩ K w := fun w h => by
      refine slotsOf_spec (Rd.part (s := sl) (xs := T) (E := leafE) (p := i + 1) (n := endN T i - (i + 1)) (by omega)) (by simp; omega) h fun s' w h => ?_
      have h2 : Own B w0 w (TreeA b T :: SlT slotE s' _ :: R) := Own.mk_tree (s := sl) hT h.up2.up2
      exact hK _ _ h2.up1
    have h := h.rm2
    (repeat (first | (refine h.al fun w h => ?_) | (refine h.dr fun w h => ?_) | (refine h.lc_2 rfl ?_) | (refine h.lc_6 rfl ?_) | (refine ⟨_, h.ldc rfl, ?_⟩) | (refine ⟨_, h.ldd rfl, ?_⟩) | (refine h.hd rfl ?_) | (refine ⟨h.ldc rfl, ?_⟩) | (refine ⟨h.ldd rfl, ?_⟩) | (refine h.stLc rfl rfl fun w h => ?_) | (refine exs ?_) | (refine _root_.Go.Vc.a2 ?_) | (refine h.stc rfl rfl fun w h => ?_) | (refine h.std rfl rfl fun w h => ?_)))
    refine tree_end_o hT hi h fun w h => ?_
    (repeat (first | (refine h.al fun w h => ?_) | (refine h.dr fun w h => ?_) | (refine h.lc_2 rfl ?_) | (refine h.lc_6 rfl ?_) | (refine ⟨_, h.ldc rfl, ?_⟩) | (refine ⟨_, h.ldd rfl, ?_⟩) | (refine h.hd rfl ?_) | (refine ⟨h.ldc rfl, ?_⟩) | (refine ⟨h.ldd rfl, ?_⟩) | (refine h.stLc rfl rfl fun w h => ?_) | (refine exs ?_) | (refine _root_.Go.Vc.a2 ?_) | (refine h.stc rfl rfl fun w h => ?_) | (refine h.std rfl rfl fun w h => ?_)))
    show _ ∧ _ ∧ 0 ≤ IntKind.i64.wrap ((i : Int) + 1) ∧ IntKind.i64.wrap ((i : Int) + 1) ≤ _ ∧ C.tree_slotsOf ⟨Vc.slA sl.a (IntKind.i64.wrap ((i : Int) + 1)).toNat sl.cap 3, _ - (IntKind.i64.wrap ((i : Int) + 1)).toNat, sl.cap - (IntKind.i64.wrap ((i : Int) + 1)).toNat⟩ _ _ ∧ True
    rw [ew]
    refine ⟨by omega, by omega, by omega, by simp only [Int.toNat_natCast]; omega, Go.Vc.a2 ?_⟩
    exact fin w h
theorem tree_Parent_spec {s : Slot} {K : Int → Int → Bool → World → Prop} (h : Own B w0 w (TreeA b T :: R)) (hK : ∀ w', Own B w0 w' (TreeA b T :: R) → K ((parentN T s).getD (0, 0)).1 ((parentN T s).getD (0, 0)).2 (parentN T s).isSome w') :
    C.tree_Tree_Parent (some ⟨b, 0, none⟩) s.1 s.2 K w := by
  apply S.tree_Tree_Parent_ok
  unfold S.tree_Tree_Parent
  obtain ⟨sl, hT, h⟩ := h.tree
  have hfew := hT.few
  unfold parentN at hK
  refine h.al fun w1 h => ?_
  refine h.al fun w2 h => ?_
  generalize w1.heap.size = c2 at h ⊢
  generalize w.heap.size = c1 at h ⊢
  (repeat (first | (refine h.al fun w h => ?_) | (refine h.dr fun w h => ?_) | (refine h.lc_2 rfl ?_) | (refine h.lc_6 rfl ?_) | (refine ⟨_, h.ldc rfl, ?_⟩) | (refine ⟨_, h.ldd rfl, ?_⟩) | (refine h.hd rfl ?_) | (refine ⟨h.ldc rfl, ?_⟩) | (refine ⟨h.ldd rfl, ?_⟩) | (refine h.stLc rfl rfl fun w h => ?_) | (refine exs ?_) | (refine _root_.Go.Vc.a2 ?_) | (refine h.stc rfl rfl fun w h => ?_) | (refine h.std rfl rfl fun w h => ?_)))
  refine tree_place_o (x := s) hT h.up3.up3 fun w h => ?_
  cases hp : placeN T s with
  | none =>
    rw [hp] at hK
    intro l hl
    show l (IntKind.i64.wrap (-1 - 1)) w
    rw [wr (by omega) (by omega)]
    apply hl
    refine cdecF (by omega) ?_
    (repeat (first | (refine h.al fun w h => ?_) | (refine h.dr fun w h => ?_) | (refine h.lc_2 rfl ?_) | (refine h.lc_6 rfl ?_) | (refine ⟨_, h.ldc rfl, ?_⟩) | (refine ⟨_, h.ldd rfl, ?_⟩) | (refine h.hd rfl ?_) | (refine ⟨h.ldc rfl, ?_⟩) | (refine ⟨h.ldd rfl, ?_⟩) | (refine h.stLc rfl rfl fun w h => ?_) | (refine exs ?_) | (refine _root_.Go.Vc.a2 ?_) | (refine h.stc rfl rfl fun w h => ?_) | (refine h.std rfl rfl fun w h => ?_)))
    exact hK _ (Own.mk_tree (s := sl) hT h.rm3.rm2)
  | some i =>
    obtain ⟨x, hx, hxp⟩ := place_some hp
    have hi := (List.getElem?_eq_some_iff.1 hx).1
    rw [hp] at hK
    simp only at hK
    intro l hl
    have loop : ∀ (k : Nat) (w : World), k ≤ i → ((T.take k).reverse.find? fun x => decide (x.2 < dOf T i)) = ((T.take i).reverse.find? fun x => decide (x.2 < dOf T i)) → Own B w0 w (SlT leafE sl T :: BlkA b [slV sl] :: BlkA c2 [.int .i64 0, .int .i64 0] :: BlkA c1 [.int .i64 s.1, .int .i64 s.2] :: R) → l ((k : Int) - 1) w := by
      intro k
      induction k with
      | zero =>
        intro w _ he h
        apply hl
        refine cdecF (by omega) ?_
        (repeat (first | (refine h.al fun w h => ?_) | (refine h.dr fun w h => ?_) | (refine h.lc_2 rfl ?_) | (refine h.lc_6 rfl ?_) | (refine ⟨_, h.ldc rfl, ?_⟩) | (refine ⟨_, h.ldd rfl, ?_⟩) | (refine h.hd rfl ?_) | (refine ⟨h.ldc rfl, ?_⟩) | (refine ⟨h.ldd rfl, ?_⟩) | (refine h.stLc rfl rfl fun w h => ?_) | (refine exs ?_) | (refine _root_.Go.Vc.a2 ?_) | (refine h.stc rfl rfl fun w h => ?_) | (refine h.std rfl rfl fun w h => ?_)))
        rw [← he] at hK
        exact hK _ (Own.mk_tree (s := sl) hT h.rm3.rm2)
      | succ k ih =>
        intro w hk he h
        obtain ⟨y, hy⟩ : ∃ y, T[k]? = some y := ⟨_, List.getElem?_eq_getElem (by omega)⟩
        apply hl
        refine cdecT (by omega) ?_
        (repeat (first | (refine h.al fun w h => ?_) | (refine h.dr fun w h => ?_) | (refine h.lc_2 rfl ?_) | (refine h.lc_6 rfl ?_) | (refine ⟨_, h.ldc rfl, ?_⟩) | (refine ⟨_, h.ldd rfl, ?_⟩) | (refine h.hd rfl ?_) | (refine ⟨h.ldc rfl, ?_⟩) | (refine ⟨h.ldd rfl, ?_⟩) | (refine h.stLc rfl rfl fun w h => ?_) | (refine exs ?_) | (refine _root_.Go.Vc.a2 ?_) | (refine h.stc rfl rfl fun w h => ?_) | (refine h.std rfl rfl fun w h => ?_)))
        refine h.ixc (j := k) (by omega) hy fun a ha h0 hc => ⟨_, hc 2 _ rfl, ?_⟩
        (repeat (first | (refine h.al fun w h => ?_) | (refine h.dr fun w h => ?_) | (refine h.lc_2 rfl ?_) | (refine h.lc_6 rfl ?_) | (refine ⟨_, h.ldc rfl, ?_⟩) | (refine ⟨_, h.ldd rfl, ?_⟩) | (refine h.hd rfl ?_) | (refine ⟨h.ldc rfl, ?_⟩) | (refine ⟨h.ldd rfl, ?_⟩) | (refine h.stLc rfl rfl fun w h => ?_) | (refine exs ?_) | (refine _root_.Go.Vc.a2 ?_) | (refine h.stc rfl rfl fun w h => ?_) | (refine h.std rfl rfl fun w h => ?_)))
        show ∃ a, sl.a = some a ∧ 0 ≤ (i : Int) ∧ (i : Int) < _ ∧ _
        refine h.ixc (j := i) rfl hx fun a ha h0 hc => ⟨_, hc 2 _ rfl, ?_⟩
        rw [List.take_add_one, hy, Option.toList_some, List.reverse_append, List.reverse_singleton, List.singleton_append, List.find?_cons] at he
        refine cdec (fun e => ?_) (fun e => ?_)
        · (repeat (first | (refine h.al fun w h => ?_) | (refine h.dr fun w h => ?_) | (refine h.lc_2 rfl ?_) | (refine h.lc_6 rfl ?_) | (refine ⟨_, h.ldc rfl, ?_⟩) | (refine ⟨_, h.ldd rfl, ?_⟩) | (refine h.hd rfl ?_) | (refine ⟨h.ldc rfl, ?_⟩) | (refine ⟨h.ldd rfl, ?_⟩) | (refine h.stLc rfl rfl fun w h => ?_) | (refine exs ?_) | (refine _root_.Go.Vc.a2 ?_) | (refine h.stc rfl rfl fun w h => ?_) | (refine h.std rfl rfl fun w h => ?_)))
          refine h.ixc (j := k) (by omega) hy fun a ha h0 hc => ?_
          refine ⟨_, hc 0 _ rfl, _, hc 1 _ rfl, ?_⟩
          (repeat (first | (refine h.al fun w h => ?_) | (refine h.dr fun w h => ?_) | (refine h.lc_2 rfl ?_) | (refine h.lc_6 rfl ?_) | (refine ⟨_, h.ldc rfl, ?_⟩) | (refine ⟨_, h.ldd rfl, ?_⟩) | (refine h.hd rfl ?_) | (refine ⟨h.ldc rfl, ?_⟩) | (refine ⟨h.ldd rfl, ?_⟩) | (refine h.stLc rfl rfl fun w h => ?_) | (refine exs ?_) | (refine _root_.Go.Vc.a2 ?_) | (refine h.stc rfl rfl fun w h => ?_) | (refine h.std rfl rfl fun w h => ?_)))
          have hdec : decide (y.2 < dOf T i) = true := by rw [dOf_get hx]; simpa using e
          rw [hdec] at he
          rw [← he] at hK
          exact hK _ (Own.mk_tree (s := sl) hT h.rm3.rm2)
        · have hdec : decide (y.2 < dOf T i) = false := by rw [dOf_get hx]; simpa using e
          rw [hdec] at he
          rw [show IntKind.i64.wrap (((k + 1 : Nat) : Int) - 1 - 1) = (k : Int) - 1 from by rw [wr (by omega) (by omega)]; omega]
          exact ih _ (by omega) he h
    show l (IntKind.i64.wrap ((i : Int) - 1)) w
    rw [wr (by omega) (by omega)]
    exact loop i w (Nat.le_refl _) rfl h
end
end Go.Proofs.Ytmfbhjfkagnahaa
