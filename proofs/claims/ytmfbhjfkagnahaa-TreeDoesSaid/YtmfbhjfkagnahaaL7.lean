/- Layer 7's laws: a tree behind some calls; slots among some; the same slots; calls whose answers the document fixes. -/
import Derived.Test.YtmfbhjfkagnahaaT4
import Derived.Test.YtmfbhjfkagnahaaS0
import Derived.Test.YtmfbhjfkagnahaaS2
set_option linter.unusedVariables false
set_option linter.unusedSimpArgs false
set_option maxRecDepth 8000
namespace Go.Proofs.Ytmfbhjfkagnahaa
open Go Go.Vc Go.Proofs

abbrev Op7 := Int × Slot × Slot
def op7E : EncT Op7 := ⟨5, fun o => [.int .i64 o.1, .int .i64 o.2.1.1, .int .i64 o.2.1.2, .int .i64 o.2.2.1, .int .i64 o.2.2.2], fun _ => rfl, fun x v h => by
  simp only [List.mem_cons, List.not_mem_nil, or_false] at h
  rcases h with rfl | rfl | rfl | rfl | rfl <;> rfl, by decide⟩
theorem ldOp7 {w : World} {a : Addr} {x : Op7} {f : Int → Int → Int → Int → Int → Prop} (g : ∀ c v, (op7E.enc x)[c]? = some v → w.cell? (a.add c) = some v) (hf : f x.1 x.2.1.1 x.2.1.2 x.2.2.1 x.2.2.2) : LdL w a 0 [.i .i64, .i .i64, .i .i64, .i .i64, .i .i64] f :=
  ⟨_, g 0 _ rfl, _, g 1 _ rfl, _, g 2 _ rfl, _, g 3 _ rfl, _, g 4 _ rfl, hf⟩
def op7Good (o : Op7) : Prop := True
theorem op7Dec : ∀ cs, Fits [.int .i64, .int .i64, .int .i64, .int .i64, .int .i64] cs → ∃ x, cs = op7E.enc x ∧ op7Good x := fun cs h0 => by
  obtain ⟨_, _, rfl, ⟨a, rfl, _⟩, h1⟩ := h0.cons_out
  obtain ⟨_, _, rfl, ⟨b, rfl, _⟩, h2⟩ := h1.cons_out
  obtain ⟨_, _, rfl, ⟨c, rfl, _⟩, h3⟩ := h2.cons_out
  obtain ⟨_, _, rfl, ⟨d, rfl, _⟩, h4⟩ := h3.cons_out
  obtain ⟨_, _, rfl, ⟨e, rfl, _⟩, h5⟩ := h4.cons_out
  obtain rfl := h5.nil_out
  exact ⟨(a, (b, c), (d, e)), rfl, trivial⟩
def stepT (T : Tr) (o : Op7) : Tr := if o.1 = 0 then (rootN T o.2.1).2 else if o.1 = 1 then (addN T o.2.1 o.2.2).2 else if o.1 = 2 then (takeN T o.2.1).2 else if o.1 = 3 then (moveN T o.2.1 o.2.2).2 else T
def laidT (ops : List Op7) : Tr := (ops.take 40).foldl stepT []
theorem step_len (T : Tr) (o : Op7) : (stepT T o).length ≤ T.length + 1 := by
  unfold stepT
  split
  · unfold rootN; split <;> simp
  · split
    · unfold addN
      split
      · simp
      · split
        · simp
        · rename_i i _ _ _; simp; omega
    · split
      · unfold takeN
        split
        · simp
        · rename_i i hi
          obtain ⟨x, hx, _⟩ := place_some hi
          have := (List.getElem?_eq_some_iff.1 hx).1
          have := end_le T this
          simp [lift1]; omega
      · split
        · unfold moveN
          split
          · simp
          · split <;> simp
        · simp
theorem foldl_len : ∀ (ops : List Op7) (T : Tr), (ops.foldl stepT T).length ≤ T.length + ops.length
  | [], T => by simp
  | o :: ops, T => by
    have h1 := foldl_len ops (stepT T o)
    have h2 := step_len T o
    simp only [List.foldl_cons, List.length_cons]; omega
def decS : List Value → List Slot
  | .int _ a :: .int _ b :: l => (a, b) :: decS l
  | _ => []

section
variable {B : Nat} {w0 w : World} {R L : List Asn} {b : Nat} {T : Tr}
theorem law07_laid_spec {s : Sl} {ops : List Op7} {K : Option Addr → World → Prop} (hr : Rd op7E B w0 R s ops) (h : Own B w0 w R) (hK : ∀ b w', Own B w0 w' (TreeA b (laidT ops) :: R) → K (some ⟨b, 0, none⟩) w') : C.law07_laid s K w := by
  apply S.law07_laid_ok
  unfold S.law07_laid
  have hlen := hr.len
  refine tree_New_spec h fun b w h => ?_
  intro l hl
  have loop : ∀ (m i : Nat) (w : World), i + m = 41 → i ≤ 40 → i ≤ ops.length → Own B w0 w (TreeA b ((ops.take i).foldl stepT []) :: R) → l (i : Int) w := by
    intro m
    induction m with
    | zero => intro i w h1 h2; omega
    | succ m ih =>
      intro i w him hi hil h
      apply hl
      intro k7 hk7
      have exit_ : (ops.take i) = ops.take 40 → k7 false w := fun e => by
        rw [e] at h
        apply hk7
        refine cbF rfl ?_
        exact hK _ _ h
      refine cdec (fun e1 => ?_) (fun e1 => exit_ (by rw [List.take_of_length_le (by omega), List.take_of_length_le (by omega)]))
      refine cdec (fun e2 => ?_) (fun e2 => exit_ (by rw [show i = 40 from by omega]))
      have hlt : i < ops.length := by omega
      obtain ⟨o, ho⟩ : ∃ o, ops[i]? = some o := ⟨_, List.getElem?_eq_getElem hlt⟩
      have hnext : (ops.take (i + 1)).foldl stepT [] = stepT ((ops.take i).foldl stepT []) o := by
        rw [List.take_add_one, ho, Option.toList_some, List.foldl_append]; rfl
      have hTl : ((ops.take i).foldl stepT []).length < 1000000 := by have := foldl_len (ops.take i) []; simp at this; omega
      generalize (ops.take i).foldl stepT [] = T at hnext h hTl
      apply hk7
      refine cbT rfl ?_
      have hr2 : Rd op7E B w0 (TreeA b T :: R) s ops := hr.more
      refine hr2.ix h rfl ho fun a ha h0 hc => ?_
      refine ldOp7 hc ?_
      (repeat (first | (refine h.al fun w h => ?_) | (refine h.dr fun w h => ?_) | (refine h.lc_2 rfl ?_) | (refine h.lc_6 rfl ?_) | (refine ⟨_, h.ldc rfl, ?_⟩) | (refine ⟨_, h.ldd rfl, ?_⟩) | (refine h.hd rfl ?_) | (refine ⟨h.ldc rfl, ?_⟩) | (refine ⟨h.ldd rfl, ?_⟩) | (refine h.stLc rfl rfl fun w h => ?_) | (refine exs ?_) | (refine _root_.Go.Vc.a2 ?_) | (refine h.stc rfl rfl fun w h => ?_) | (refine h.std rfl rfl fun w h => ?_)))
      (dsimp only [putAt, List.set_cons_zero, List.set_cons_succ] at h)
      have next : ∀ w T', stepT T o = T' → Own B w0 w (TreeA b T' :: R) → l (IntKind.i64.wrap ((i : Int) + 1)) w := fun w T' e h => by
        rw [show IntKind.i64.wrap ((i : Int) + 1) = ((i + 1 : Nat) : Int) from by rw [wr (by omega) (by omega)]; omega]
        exact ih (i + 1) w (by omega) (by omega) (by omega) (by rw [hnext, e]; exact h)
      refine ceq (fun k0 => ?_) (fun k0 => ?_)
      · (repeat (first | (refine h.al fun w h => ?_) | (refine h.dr fun w h => ?_) | (refine h.lc_2 rfl ?_) | (refine h.lc_6 rfl ?_) | (refine ⟨_, h.ldc rfl, ?_⟩) | (refine ⟨_, h.ldd rfl, ?_⟩) | (refine h.hd rfl ?_) | (refine ⟨h.ldc rfl, ?_⟩) | (refine ⟨h.ldd rfl, ?_⟩) | (refine h.stLc rfl rfl fun w h => ?_) | (refine exs ?_) | (refine _root_.Go.Vc.a2 ?_) | (refine h.stc rfl rfl fun w h => ?_) | (refine h.std rfl rfl fun w h => ?_)))
        refine tree_Root_spec (s := o.2.1) hTl h.up1 fun w h => ?_
        exact next w _ (by unfold stepT; rw [if_pos k0]) h.rm1
      refine ceq (fun k1 => ?_) (fun k1 => ?_)
      · (repeat (first | (refine h.al fun w h => ?_) | (refine h.dr fun w h => ?_) | (refine h.lc_2 rfl ?_) | (refine h.lc_6 rfl ?_) | (refine ⟨_, h.ldc rfl, ?_⟩) | (refine ⟨_, h.ldd rfl, ?_⟩) | (refine h.hd rfl ?_) | (refine ⟨h.ldc rfl, ?_⟩) | (refine ⟨h.ldd rfl, ?_⟩) | (refine h.stLc rfl rfl fun w h => ?_) | (refine exs ?_) | (refine _root_.Go.Vc.a2 ?_) | (refine h.stc rfl rfl fun w h => ?_) | (refine h.std rfl rfl fun w h => ?_)))
        refine tree_Add_spec (p := o.2.1) (s := o.2.2) hTl h.up1 fun w h => ?_
        exact next w _ (by unfold stepT; rw [if_neg k0, if_pos k1]) h.rm1
      refine ceq (fun k2 => ?_) (fun k2 => ?_)
      · (repeat (first | (refine h.al fun w h => ?_) | (refine h.dr fun w h => ?_) | (refine h.lc_2 rfl ?_) | (refine h.lc_6 rfl ?_) | (refine ⟨_, h.ldc rfl, ?_⟩) | (refine ⟨_, h.ldd rfl, ?_⟩) | (refine h.hd rfl ?_) | (refine ⟨h.ldc rfl, ?_⟩) | (refine ⟨h.ldd rfl, ?_⟩) | (refine h.stLc rfl rfl fun w h => ?_) | (refine exs ?_) | (refine _root_.Go.Vc.a2 ?_) | (refine h.stc rfl rfl fun w h => ?_) | (refine h.std rfl rfl fun w h => ?_)))
        refine tree_Take_spec (s := o.2.1) h.up1 fun w h => ?_
        exact next w _ (by unfold stepT; rw [if_neg k0, if_neg k1, if_pos k2]) h.rm1
      refine ceq (fun k3 => ?_) (fun k3 => ?_)
      · (repeat (first | (refine h.al fun w h => ?_) | (refine h.dr fun w h => ?_) | (refine h.lc_2 rfl ?_) | (refine h.lc_6 rfl ?_) | (refine ⟨_, h.ldc rfl, ?_⟩) | (refine ⟨_, h.ldd rfl, ?_⟩) | (refine h.hd rfl ?_) | (refine ⟨h.ldc rfl, ?_⟩) | (refine ⟨h.ldd rfl, ?_⟩) | (refine h.stLc rfl rfl fun w h => ?_) | (refine exs ?_) | (refine _root_.Go.Vc.a2 ?_) | (refine h.stc rfl rfl fun w h => ?_) | (refine h.std rfl rfl fun w h => ?_)))
        refine tree_Move_spec (f := o.2.1) (t := o.2.2) h.up1 fun w h => ?_
        exact next w _ (by unfold stepT; rw [if_neg k0, if_neg k1, if_neg k2, if_pos k3]) h.rm1
      · exact next w _ (by unfold stepT; rw [if_neg k0, if_neg k1, if_neg k2, if_neg k3]) h.drop
  exact loop 41 0 w (by omega) (by omega) (by omega) h
theorem law07_among_spec {l : Sl} {xs : List Slot} {s : Slot} {K : Bool → World → Prop} (hr : Rd slotE B w0 L l xs) (hbig : xs.length ≤ 100000000) (h : Own B w0 w L) (hK : ∀ w', Own B w0 w' L → K (decide (s ∈ xs)) w') : C.law07_among l s.1 s.2 K w := by
  apply S.law07_among_ok
  unfold S.law07_among
  have hlen := hr.len
  refine h.al fun w1 h => ?_
  generalize w.heap.size = c at h ⊢
  intro l5 hl5
  have loop : ∀ (rest : List Slot) (j : Nat) (w : World), xs.drop j = rest → j ≤ xs.length → s ∉ xs.take j → Own B w0 w (BlkA c [.int .i64 s.1, .int .i64 s.2] :: L) → l5 (j : Int) w := by
    intro rest
    induction rest with
    | nil =>
      intro j w hj hjl hn h
      have : xs.length ≤ j := by have := congrArg List.length hj; simp at this; omega
      apply hl5
      refine cdecF (by omega) ?_
      rw [List.take_of_length_le this] at hn
      rw [decide_eq_false hn] at hK
      exact hK _ h.drop
    | cons x rest ih =>
      intro j w hj hjl hn h
      have hjl2 : j < xs.length := by have := congrArg List.length hj; simp at this; omega
      have hx : xs[j]? = some x := by
        have := congrArg (fun l => l[0]?) hj
        simpa using this
      apply hl5
      refine cdecT (by omega) ?_
      refine h.dr fun w h => ?_
      have hr2 : Rd slotE B w0 (BlkA c [.int .i64 s.1, .int .i64 s.2] :: L) l xs := hr.more
      refine hr2.ix h rfl hx fun a ha h0 hc => ?_
      refine ⟨_, hc 0 _ rfl, _, hc 1 _ rfl, ?_⟩
      (repeat (first | (refine h.al fun w h => ?_) | (refine h.dr fun w h => ?_) | (refine h.lc_2 rfl ?_) | (refine h.lc_6 rfl ?_) | (refine ⟨_, h.ldc rfl, ?_⟩) | (refine ⟨_, h.ldd rfl, ?_⟩) | (refine h.hd rfl ?_) | (refine ⟨h.ldc rfl, ?_⟩) | (refine ⟨h.ldd rfl, ?_⟩) | (refine h.stLc rfl rfl fun w h => ?_) | (refine exs ?_) | (refine _root_.Go.Vc.a2 ?_) | (refine h.stc rfl rfl fun w h => ?_) | (refine h.std rfl rfl fun w h => ?_)))
      refine ⟨_, slotEq x s, ?_⟩
      refine cdec (fun e => ?_) (fun e => ?_)
      · rw [decide_eq_true (by rw [← e]; exact List.mem_of_getElem? hx)] at hK
        exact hK _ h.drop
      · rw [show IntKind.i64.wrap ((j : Int) + 1) = ((j + 1 : Nat) : Int) from by rw [wr (by omega) (by omega)]; omega]
        refine ih (j + 1) _ (by rw [← List.drop_drop, hj]; rfl) (by omega) ?_ h
        rw [List.take_add_one, hx, Option.toList_some, List.mem_append, not_or]
        exact ⟨hn, by simpa using fun h => e h.symm⟩
  exact loop xs 0 w1 rfl (by omega) (by simp) h
theorem ref07_Same_spec {p q : Sl} {xs ys : List Slot} {K : Bool → World → Prop} (hr1 : Rd slotE B w0 L p xs) (hr2 : Rd slotE B w0 L q ys) (hbig : xs.length ≤ 100000000) (h : Own B w0 w L) (hK : ∀ w', Own B w0 w' L → K (decide (xs = ys)) w') : C.ref07_Same p q K w := by
  apply S.ref07_Same_ok
  unfold S.ref07_Same
  have h1 := hr1.len
  have h2 := hr2.len
  refine cne (fun e => ?_) (fun e => ?_)
  · rw [decide_eq_false (fun he => e (by rw [h1, h2, he]))] at hK
    exact hK _ h
  intro l hl
  have loop : ∀ (m j : Nat) (w : World), j + m = xs.length → xs.take j = ys.take j → Own B w0 w L → l (j : Int) w := by
    intro m
    induction m with
    | zero =>
      intro j w hj he h
      apply hl
      refine cdecF (by omega) ?_
      rw [List.take_of_length_le (by omega), List.take_of_length_le (by omega)] at he
      rw [decide_eq_true he] at hK
      exact hK _ h
    | succ m ih =>
      intro j w hj he h
      obtain ⟨x, hx⟩ : ∃ x, xs[j]? = some x := ⟨_, List.getElem?_eq_getElem (by omega)⟩
      obtain ⟨y, hy⟩ : ∃ y, ys[j]? = some y := ⟨_, List.getElem?_eq_getElem (by omega)⟩
      apply hl
      refine cdecT (by omega) ?_
      refine h.dr fun w h => ?_
      refine hr1.ix h rfl hx fun a ha h0 hc => ?_
      refine ⟨_, hc 0 _ rfl, _, hc 1 _ rfl, ?_⟩
      refine hr2.ix h rfl hy fun a ha h0 hc => ?_
      refine ⟨_, hc 0 _ rfl, _, hc 1 _ rfl, ?_⟩
      refine ⟨_, slotNe x y, ?_⟩
      by_cases e2 : x = y
      · rw [decide_eq_true e2]
        refine cbF rfl ?_
        rw [show IntKind.i64.wrap ((j : Int) + 1) = ((j + 1 : Nat) : Int) from by rw [wr (by omega) (by omega)]; omega]
        exact ih (j + 1) _ (by omega) (by rw [List.take_add_one, List.take_add_one, hx, hy, he, e2]) h
      · rw [decide_eq_false e2]
        refine cbT rfl ?_
        rw [decide_eq_false (fun he => e2 (by rw [he, hy] at hx; cases hx; rfl))] at hK
        exact hK _ h
  exact loop xs.length 0 w (by omega) rfl h

/-- The calls of trees whose slots are told apart from the start. -/
theorem root_p {s1 s2 e : Int} {T' : Tr} {K : Int → World → Prop} (hr : rootN T (s1, s2) = (e, T')) (hl : T.length < 1000000) (h : Own B w0 w (TreeA b T :: R)) (hK : ∀ w', Own B w0 w' (TreeA b T' :: R) → K e w') : C.tree_Tree_Root (some ⟨b, 0, none⟩) s1 s2 K w :=
  tree_Root_spec (s := (s1, s2)) hl h (by rw [hr]; exact hK)
theorem add_p {p1 p2 s1 s2 e : Int} {T' : Tr} {K : Int → World → Prop} (hr : addN T (p1, p2) (s1, s2) = (e, T')) (hl : T.length < 1000000) (h : Own B w0 w (TreeA b T :: R)) (hK : ∀ w', Own B w0 w' (TreeA b T' :: R) → K e w') : C.tree_Tree_Add (some ⟨b, 0, none⟩) p1 p2 s1 s2 K w :=
  tree_Add_spec (p := (p1, p2)) (s := (s1, s2)) hl h (by rw [hr]; exact hK)
theorem take_p {s1 s2 e : Int} {T' : Tr} {K : Int → World → Prop} (hr : takeN T (s1, s2) = (e, T')) (h : Own B w0 w (TreeA b T :: R)) (hK : ∀ w', Own B w0 w' (TreeA b T' :: R) → K e w') : C.tree_Tree_Take (some ⟨b, 0, none⟩) s1 s2 K w :=
  tree_Take_spec (s := (s1, s2)) h (by rw [hr]; exact hK)
theorem move_p {p1 p2 s1 s2 e : Int} {T' : Tr} {K : Int → World → Prop} (hr : moveN T (p1, p2) (s1, s2) = (e, T')) (h : Own B w0 w (TreeA b T :: R)) (hK : ∀ w', Own B w0 w' (TreeA b T' :: R) → K e w') : C.tree_Tree_Move (some ⟨b, 0, none⟩) p1 p2 s1 s2 K w :=
  tree_Move_spec (f := (p1, p2)) (t := (s1, s2)) h (by rw [hr]; exact hK)
theorem under_p {s1 s2 : Int} {l : List Slot} {K : Sl → World → Prop} (hr : underN T (s1, s2) = l) (h : Own B w0 w (TreeA b T :: R)) (hK : ∀ s' w', Own B w0 w' (SlT slotE s' l :: TreeA b T :: R) → K s' w') : C.tree_Tree_Under (some ⟨b, 0, none⟩) s1 s2 K w :=
  tree_Under_spec (s := (s1, s2)) h (by rw [hr]; exact hK)
theorem parent_p {s1 s2 p1 p2 : Int} {is : Bool} {K : Int → Int → Bool → World → Prop} (hr : ((parentN T (s1, s2)).getD (0, 0), (parentN T (s1, s2)).isSome) = ((p1, p2), is)) (h : Own B w0 w (TreeA b T :: R)) (hK : ∀ w', Own B w0 w' (TreeA b T :: R) → K p1 p2 is w') : C.tree_Tree_Parent (some ⟨b, 0, none⟩) s1 s2 K w :=
  tree_Parent_spec (s := (s1, s2)) h (by
    simp only [Prod.mk.injEq] at hr
    rw [hr.1, hr.2]; exact hK)
theorem same_p {p : Sl} {xs : List Slot} {c n m : Nat} {l : List Value} {K : Bool → World → Prop} [I : SlIn p L Slot slotE xs] [J : BlkIn c L l] (h : Own B w0 w L) (hl : l = (decS l).flatMap slotE.enc) (hn : n = (decS l).length) (hbig : xs.length ≤ 100000000) (hx : xs = decS l) (hK : ∀ w', Own B w0 w' L → K true w') : C.ref07_Same p ⟨some (Addr.mk c 0 none), n, m⟩ K w := by
  have hlen := h.lenc p
  refine ref07_Same_spec (xs := xs) (ys := decS l) (Rd.own hlen) ⟨hn, fun w' h' i j x hij hj => ?_⟩ hbig h (by rw [decide_eq_true hx]; exact hK)
  refine ⟨_, rfl, ?_⟩
  have hB := h'.blk J.i J.at_
  have hj' : i.toNat = j := by omega
  have hz : slotE.z = 2 := rfl
  have hg : ∀ cc v, (slotE.enc x)[cc]? = some v → l[j * 2 + cc]? = some v := fun cc v hv => by
    rw [hl]
    have := flat_get slotE (decS l) j cc x hj (by have := (List.getElem?_eq_some_iff.1 hv).1; rwa [slotE.len] at this)
    rw [hz] at this; rw [this]; exact hv
  refine ⟨fun v hv => ?_, fun cc v hv => ?_⟩
  · rw [hj', hz, add_mk, hB.cell, Nat.zero_add]; exact hg 0 v hv
  · rw [hj', hz, add_mk, add_mk, hB.cell, Nat.zero_add]; exact hg cc v hv
end
end Go.Proofs.Ytmfbhjfkagnahaa
