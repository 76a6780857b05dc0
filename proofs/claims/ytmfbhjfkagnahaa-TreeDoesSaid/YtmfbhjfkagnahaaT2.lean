/- A tree of slots: what its calls come to. -/
import Derived.Test.YtmfbhjfkagnahaaT1b
import Derived.Test.YtmfbhjfkagnahaaS5
set_option linter.unusedVariables false
set_option linter.unusedSimpArgs false
set_option maxRecDepth 8000
namespace Go.Proofs.Ytmfbhjfkagnahaa
open Go Go.Vc Go.Proofs

abbrev Tr := List Leaf
def placeN (T : Tr) (s : Slot) : Option Nat := T.findIdx? fun x => decide (x.1 = s)
def dOf (T : Tr) (i : Nat) : Int := match T[i]? with | some x => x.2 | none => 0
def endN (T : Tr) (i : Nat) : Nat := i + 1 + ((T.drop (i + 1)).takeWhile fun x => decide (dOf T i < x.2)).length
/-- Depths of a tree: none is more than one deeper than the one ahead of it. -/
def wfD : Int → Tr → Prop
  | _, [] => True
  | p, x :: T => 0 ≤ x.2 ∧ x.2 ≤ p + 1 ∧ wfD x.2 T
structure TOk (T : Tr) : Prop where
  few : T.length ≤ 1000000
  wf : wfD (-1) T
  nd : (T.map (·.1)).Nodup
def rootN (T : Tr) (s : Slot) : Int × Tr := match placeN T s with | some _ => (70, T) | none => (0, T ++ [(s, 0)])
def addN (T : Tr) (p s : Slot) : Int × Tr := match placeN T p with
  | none => (71, T)
  | some i => match placeN T s with | some _ => (70, T) | none => (0, T.take (i + 1) ++ [(s, dOf T i + 1)] ++ T.drop (i + 1))
def lift1 (l : Tr) : Tr := l.map fun x => (x.1, x.2 - 1)
def takeN (T : Tr) (s : Slot) : Int × Tr := match placeN T s with
  | none => (71, T)
  | some i => (0, T.take i ++ (lift1 ((T.drop (i + 1)).take (endN T i - (i + 1))) ++ T.drop (endN T i)))
def moveN (T : Tr) (f t : Slot) : Int × Tr := match placeN T f with
  | none => (71, T)
  | some i => match placeN T t with | some _ => (70, T) | none => (0, T.set i (t, dOf T i))
def parentN (T : Tr) (s : Slot) : Option Slot := match placeN T s with
  | none => none
  | some i => ((T.take i).reverse.find? fun x => decide (x.2 < dOf T i)).map (·.1)
def underN (T : Tr) (s : Slot) : List Slot := match placeN T s with
  | none => []
  | some i => ((T.drop (i + 1)).take (endN T i - (i + 1))).map (·.1)

theorem wfD_rng : ∀ (T : Tr) (p : Int) (i : Nat) (x : Leaf), -1 ≤ p → wfD p T → T[i]? = some x → 0 ≤ x.2 ∧ x.2 ≤ p + 1 + (i : Int)
  | [], _, i, x, _, _, h => by simp at h
  | y :: T, p, 0, x, hp, hw, h => by
    simp only [List.getElem?_cons_zero, Option.some.injEq] at h
    subst h
    exact ⟨hw.1, by have := hw.2.1; omega⟩
  | y :: T, p, i + 1, x, hp, hw, h => by
    rw [List.getElem?_cons_succ] at h
    have h1 := hw.1
    have h2 := hw.2.1
    have := wfD_rng T y.2 i x (by omega) hw.2.2 h
    omega
theorem TOk.rng {T : Tr} (h : TOk T) {i : Nat} {x : Leaf} (hx : T[i]? = some x) : 0 ≤ x.2 ∧ x.2 ≤ 1000000 := by
  have h1 := wfD_rng T (-1) i x (by omega) h.wf hx
  have h2 := (List.getElem?_eq_some_iff.1 hx).1
  have h3 := h.few
  omega
theorem place_some {T : Tr} {s : Slot} {i : Nat} (h : placeN T s = some i) : ∃ x, T[i]? = some x ∧ x.1 = s := by
  unfold placeN at h
  obtain ⟨h1, h2, _⟩ := List.findIdx?_eq_some_iff_getElem.1 h
  exact ⟨T[i], List.getElem?_eq_getElem h1, by simpa using h2⟩
theorem place_none {T : Tr} {s : Slot} (h : placeN T s = none) : ∀ x ∈ T, x.1 ≠ s := by
  unfold placeN at h
  rw [List.findIdx?_eq_none_iff] at h
  intro x hx; simpa using h x hx
theorem dOf_get {T : Tr} {i : Nat} {x : Leaf} (h : T[i]? = some x) : dOf T i = x.2 := by unfold dOf; rw [h]
theorem end_le (T : Tr) {i : Nat} (hi : i < T.length) : i < endN T i ∧ endN T i ≤ T.length := by
  unfold endN
  have : ((T.drop (i + 1)).takeWhile fun x => decide (dOf T i < x.2)).length ≤ (T.drop (i + 1)).length := (List.takeWhile_sublist _).length_le
  rw [List.length_drop] at this
  omega
theorem idx_place (T : Tr) (s : Slot) : idxI (fun x : Leaf => decide (x.1 = s)) T = match placeN T s with | some i => (i : Int) | none => -1 := rfl

/-- A tree at a block. -/
def TreeA (b : Nat) (T : Tr) : Asn := ExA fun s : Sl => StarA [PureA (TOk T), BlkA b [slV s], SlT leafE s T]

section
variable {B : Nat} {w0 w : World} {R L : List Asn} {b : Nat} {T : Tr}
theorem _root_.Go.Vc.Own.tree (h : Own B w0 w (TreeA b T :: R)) : ∃ s, TOk T ∧ Own B w0 w (SlT leafE s T :: BlkA b [slV s] :: R) := by
  obtain ⟨s, h⟩ := h.ex
  obtain ⟨h1, h⟩ := Own.pure h.star
  exact ⟨s, h1, Own.up1 h⟩
theorem _root_.Go.Vc.Own.mk_tree {s : Sl} (h1 : TOk T) (h : Own B w0 w (SlT leafE s T :: BlkA b [slV s] :: R)) : Own B w0 w (TreeA b T :: R) :=
  Own.mk_ex s (Own.mk_star (Own.mk_pure h1 (Own.up1 h)))
theorem _root_.Go.Vc.Own.tok (h : Own B w0 w (TreeA b T :: R)) : TOk T := by obtain ⟨_, h, _⟩ := h.tree; exact h

theorem tree_New_spec {K : Option Addr → World → Prop} (h : Own B w0 w R) (hK : ∀ b w', Own B w0 w' (TreeA b [] :: R) → K (some ⟨b, 0, none⟩) w') : C.tree_New K w := by
  apply S.tree_New_ok
  unfold S.tree_New
  refine h.al fun w1 h => ?_
  exact hK _ w1 (Own.mk_tree (s := ⟨none, 0, 0⟩) ⟨by simp, trivial, by simp⟩ (Own.nilS h))
theorem tree_place_o {s : Sl} {x : Slot} {K : Int → World → Prop} (hT : TOk T) (h : Own B w0 w (SlT leafE s T :: BlkA b [slV s] :: R)) (hK : ∀ w', Own B w0 w' (SlT leafE s T :: BlkA b [slV s] :: R) → K (match placeN T x with | some i => (i : Int) | none => -1) w') :
    C.tree_Tree_place (some ⟨b, 0, none⟩) x.1 x.2 K w := by
  apply S.tree_Tree_place_ok
  unfold S.tree_Tree_place
  refine h.al fun w1 h => ?_
  generalize w.heap.size = c at h ⊢
  (repeat (first | (refine h.al fun w h => ?_) | (refine h.dr fun w h => ?_) | (refine h.lc_2 rfl ?_) | (refine h.lc_6 rfl ?_) | (refine ⟨_, h.ldc rfl, ?_⟩) | (refine ⟨_, h.ldd rfl, ?_⟩) | (refine h.hd rfl ?_) | (refine ⟨h.ldc rfl, ?_⟩) | (refine ⟨h.ldd rfl, ?_⟩) | (refine h.stLc rfl rfl fun w h => ?_) | (refine exs ?_) | (refine _root_.Go.Vc.a2 ?_) | (refine h.stc rfl rfl fun w h => ?_) | (refine h.std rfl rfl fun w h => ?_)))
  refine IndexFunc_leaf (L := BlkA c [.int .i64 x.1, .int .i64 x.2] :: SlT leafE s T :: BlkA b [slV s] :: R) (xs := T) (p := fun y => decide (y.1 = x)) h (by have := hT.few; omega) (fun y w Q h hQ => ?_) fun w h => ?_
  · refine callV_mk ?_
    have hA : C.tree_Tree_place_1 y.1.1 y.1.2 y.2 (Addr.mk c 0 none) Q w := by
      apply S.tree_Tree_place_1_ok
      unfold S.tree_Tree_place_1
      (repeat (first | (refine h.al fun w h => ?_) | (refine h.dr fun w h => ?_) | (refine h.lc_2 rfl ?_) | (refine h.lc_6 rfl ?_) | (refine ⟨_, h.ldc rfl, ?_⟩) | (refine ⟨_, h.ldd rfl, ?_⟩) | (refine h.hd rfl ?_) | (refine ⟨h.ldc rfl, ?_⟩) | (refine ⟨h.ldd rfl, ?_⟩) | (refine h.stLc rfl rfl fun w h => ?_) | (refine exs ?_) | (refine _root_.Go.Vc.a2 ?_) | (refine h.stc rfl rfl fun w h => ?_) | (refine h.std rfl rfl fun w h => ?_)))
      refine ⟨_, slotEq y.1 x, ?_⟩
      exact hQ _ h.sub
    exact hA
  · rw [idx_place]
    exact hK _ h.sub
theorem tree_place_spec {x : Slot} {K : Int → World → Prop} (h : Own B w0 w (TreeA b T :: R)) (hK : ∀ w', Own B w0 w' (TreeA b T :: R) → K (match placeN T x with | some i => (i : Int) | none => -1) w') :
    C.tree_Tree_place (some ⟨b, 0, none⟩) x.1 x.2 K w := by
  obtain ⟨s, hT, h⟩ := h.tree
  exact tree_place_o hT h fun w h => hK w (Own.mk_tree hT h)
theorem tree_end_o {s : Sl} {i : Nat} {K : Int → World → Prop} (hT : TOk T) (hi : i < T.length) (h : Own B w0 w (SlT leafE s T :: BlkA b [slV s] :: R)) (hK : ∀ w', Own B w0 w' (SlT leafE s T :: BlkA b [slV s] :: R) → K ((endN T i : Nat) : Int) w') :
    C.tree_Tree_end (some ⟨b, 0, none⟩) (i : Int) K w := by
  apply S.tree_Tree_end_ok
  unfold S.tree_Tree_end
  have hlen := h.lenc s
  have hfew := hT.few
  obtain ⟨xi, hxi⟩ : ∃ x, T[i]? = some x := ⟨_, List.getElem?_eq_getElem hi⟩
  intro l hl
  have loop : ∀ (rest : Tr) (k : Nat) (w : World), T.drop k = rest → k ≤ T.length → i < k → k + (rest.takeWhile fun x => decide (dOf T i < x.2)).length = endN T i → Own B w0 w (SlT leafE s T :: BlkA b [slV s] :: R) → l (k : Int) w := by
    intro rest
    induction rest with
    | nil =>
      intro k w hk hkl hik he h
      have : T.length ≤ k := by have := congrArg List.length hk; simp at this; omega
      apply hl
      (repeat (first | (refine h.al fun w h => ?_) | (refine h.dr fun w h => ?_) | (refine h.lc_2 rfl ?_) | (refine h.lc_6 rfl ?_) | (refine ⟨_, h.ldc rfl, ?_⟩) | (refine ⟨_, h.ldd rfl, ?_⟩) | (refine h.hd rfl ?_) | (refine ⟨h.ldc rfl, ?_⟩) | (refine ⟨h.ldd rfl, ?_⟩) | (refine h.stLc rfl rfl fun w h => ?_) | (refine exs ?_) | (refine _root_.Go.Vc.a2 ?_) | (refine h.stc rfl rfl fun w h => ?_) | (refine h.std rfl rfl fun w h => ?_)))
      refine cdecF (by omega) ?_
      have : k = endN T i := by simpa using he
      rw [this]; exact hK _ h
    | cons y rest ih =>
      intro k w hk hkl hik he h
      have hkl2 : k < T.length := by have := congrArg List.length hk; simp at this; omega
      have hx : T[k]? = some y := by
        have := congrArg (fun l => l[0]?) hk
        simpa using this
      apply hl
      (repeat (first | (refine h.al fun w h => ?_) | (refine h.dr fun w h => ?_) | (refine h.lc_2 rfl ?_) | (refine h.lc_6 rfl ?_) | (refine ⟨_, h.ldc rfl, ?_⟩) | (refine ⟨_, h.ldd rfl, ?_⟩) | (refine h.hd rfl ?_) | (refine ⟨h.ldc rfl, ?_⟩) | (refine ⟨h.ldd rfl, ?_⟩) | (refine h.stLc rfl rfl fun w h => ?_) | (refine exs ?_) | (refine _root_.Go.Vc.a2 ?_) | (refine h.stc rfl rfl fun w h => ?_) | (refine h.std rfl rfl fun w h => ?_)))
      refine cdecT (by omega) ?_
      (repeat (first | (refine h.al fun w h => ?_) | (refine h.dr fun w h => ?_) | (refine h.lc_2 rfl ?_) | (refine h.lc_6 rfl ?_) | (refine ⟨_, h.ldc rfl, ?_⟩) | (refine ⟨_, h.ldd rfl, ?_⟩) | (refine h.hd rfl ?_) | (refine ⟨h.ldc rfl, ?_⟩) | (refine ⟨h.ldd rfl, ?_⟩) | (refine h.stLc rfl rfl fun w h => ?_) | (refine exs ?_) | (refine _root_.Go.Vc.a2 ?_) | (refine h.stc rfl rfl fun w h => ?_) | (refine h.std rfl rfl fun w h => ?_)))
      refine h.ixc rfl hx fun a ha h0 hc => ⟨_, hc 2 _ rfl, ?_⟩
      (repeat (first | (refine h.al fun w h => ?_) | (refine h.dr fun w h => ?_) | (refine h.lc_2 rfl ?_) | (refine h.lc_6 rfl ?_) | (refine ⟨_, h.ldc rfl, ?_⟩) | (refine ⟨_, h.ldd rfl, ?_⟩) | (refine h.hd rfl ?_) | (refine ⟨h.ldc rfl, ?_⟩) | (refine ⟨h.ldd rfl, ?_⟩) | (refine h.stLc rfl rfl fun w h => ?_) | (refine exs ?_) | (refine _root_.Go.Vc.a2 ?_) | (refine h.stc rfl rfl fun w h => ?_) | (refine h.std rfl rfl fun w h => ?_)))
      refine h.ixc rfl hxi fun a ha h0 hc => ⟨_, hc 2 _ rfl, ?_⟩
      refine cdec (fun e => ?_) (fun e => ?_)
      · rw [wr (by omega) (by omega)]
        refine ih (k + 1) _ (by rw [← List.drop_drop, hk]; rfl) (by omega) (by omega) ?_ h
        rw [List.takeWhile_cons_of_pos (by rw [dOf_get hxi]; simpa using e)] at he
        simp at he; omega
      · rw [List.takeWhile_cons_of_neg (by rw [dOf_get hxi]; simpa using e)] at he
        have : k = endN T i := by simpa using he
        rw [this]; exact hK _ h
  rw [show IntKind.i64.wrap ((i : Int) + 1) = ((i + 1 : Nat) : Int) from by rw [wr (by omega) (by omega)]; omega]
  exact loop _ (i + 1) w rfl (by omega) (by omega) rfl h

theorem TOk.root {s : Slot} (hT : TOk T) (hl : T.length < 1000000) (h : placeN T s = none) : TOk (T ++ [(s, 0)]) := by
  refine ⟨by simp; omega, ?_, ?_⟩
  · have : ∀ (T : Tr) (p : Int), -1 ≤ p → wfD p T → wfD p (T ++ [(s, 0)]) := by
      intro T
      induction T with
      | nil => intro p hp _; exact ⟨by simp, by show (0 : Int) ≤ p + 1; omega, trivial⟩
      | cons x T ih => intro p hp hw; exact ⟨hw.1, hw.2.1, ih _ (by have := hw.1; omega) hw.2.2⟩
    exact this T _ (by omega) hT.wf
  · rw [List.map_append, List.map_cons, List.map_nil, List.nodup_append]
    refine ⟨hT.nd, by simp, fun a ha c hc => ?_⟩
    simp only [List.mem_singleton] at hc
    subst hc
    obtain ⟨x, hx, rfl⟩ := List.mem_map.1 ha
    exact place_none h x hx
theorem tree_Root_spec {s : Slot} {K : Int → World → Prop} (hl : T.length < 1000000) (h : Own B w0 w (TreeA b T :: R)) (hK : ∀ w', Own B w0 w' (TreeA b (rootN T s).2 :: R) → K (rootN T s).1 w') : C.tree_Tree_Root (some ⟨b, 0, none⟩) s.1 s.2 K w := by
  apply S.tree_Tree_Root_ok
  unfold S.tree_Tree_Root
  obtain ⟨sl, hT, h⟩ := h.tree
  unfold rootN at hK
  (repeat (first | (refine h.al fun w h => ?_) | (refine h.dr fun w h => ?_) | (refine h.lc_2 rfl ?_) | (refine h.lc_6 rfl ?_) | (refine ⟨_, h.ldc rfl, ?_⟩) | (refine ⟨_, h.ldd rfl, ?_⟩) | (refine h.hd rfl ?_) | (refine ⟨h.ldc rfl, ?_⟩) | (refine ⟨h.ldd rfl, ?_⟩) | (refine h.stLc rfl rfl fun w h => ?_) | (refine exs ?_) | (refine _root_.Go.Vc.a2 ?_) | (refine h.stc rfl rfl fun w h => ?_) | (refine h.std rfl rfl fun w h => ?_)))
  refine tree_place_o (x := s) hT h.up2.up2 fun w h => ?_
  cases hp : placeN T s with
  | some i =>
    rw [hp] at hK
    refine cdecT (by show (i : Int) ≥ 0; omega) ?_
    exact hK _ (Own.mk_tree hT h.rm2)
  | none =>
    rw [hp] at hK
    refine cdecF (by decide) ?_
    (repeat (first | (refine h.al fun w h => ?_) | (refine h.dr fun w h => ?_) | (refine h.lc_2 rfl ?_) | (refine h.lc_6 rfl ?_) | (refine ⟨_, h.ldc rfl, ?_⟩) | (refine ⟨_, h.ldd rfl, ?_⟩) | (refine h.hd rfl ?_) | (refine ⟨h.ldc rfl, ?_⟩) | (refine ⟨h.ldd rfl, ?_⟩) | (refine h.stLc rfl rfl fun w h => ?_) | (refine exs ?_) | (refine _root_.Go.Vc.a2 ?_) | (refine h.stc rfl rfl fun w h => ?_) | (refine h.std rfl rfl fun w h => ?_)))
    refine app1_leaf (xs := T) (y := (s, 0)) h (by omega) fun s' w hs' h => ?_
    (repeat (first | (refine h.al fun w h => ?_) | (refine h.dr fun w h => ?_) | (refine h.lc_2 rfl ?_) | (refine h.lc_6 rfl ?_) | (refine ⟨_, h.ldc rfl, ?_⟩) | (refine ⟨_, h.ldd rfl, ?_⟩) | (refine h.hd rfl ?_) | (refine ⟨h.ldc rfl, ?_⟩) | (refine ⟨h.ldd rfl, ?_⟩) | (refine h.stLc rfl rfl fun w h => ?_) | (refine exs ?_) | (refine _root_.Go.Vc.a2 ?_) | (refine h.stc rfl rfl fun w h => ?_) | (refine h.std rfl rfl fun w h => ?_)))
    (dsimp only [putAt, List.set_cons_zero, List.set_cons_succ] at h)
    exact hK _ (Own.mk_tree (s := s') (hT.root hl hp) h.sub)

theorem wfD_app : ∀ (A : Tr) (p : Int) (Q : Tr), wfD p (A ++ Q) ↔ wfD p A ∧ wfD (match A.getLast? with | some x => x.2 | none => p) Q
  | [], p, Q => by simp [wfD]
  | x :: A, p, Q => by
    simp only [List.cons_append, wfD, wfD_app A x.2 Q]
    cases hA : A with
    | nil => simp [wfD]; constructor <;> (intro h; simp_all)
    | cons y A' =>
      rw [← hA]
      have : (x :: A).getLast? = A.getLast? := by rw [hA]; simp
      rw [this]
      have h2 : ∃ z, A.getLast? = some z := by rw [hA]; exact ⟨_, List.getLast?_eq_some_getLast (by simp)⟩
      obtain ⟨z, hz⟩ := h2
      rw [hz]
      constructor
      · rintro ⟨h1, h2, h3, h4⟩; exact ⟨⟨h1, h2, h3⟩, h4⟩
      · rintro ⟨⟨h1, h2, h3⟩, h4⟩; exact ⟨h1, h2, h3, h4⟩
theorem wfD_mono {p q : Int} (hpq : p ≤ q) : ∀ {T : Tr}, wfD p T → wfD q T
  | [], _ => trivial
  | x :: T, h => ⟨h.1, by have := h.2.1; omega, h.2.2⟩
theorem last_take {T : Tr} {i : Nat} {x : Leaf} (h : T[i]? = some x) : (T.take (i + 1)).getLast? = some x := by
  rw [List.getLast?_take, if_neg (by omega), show i + 1 - 1 = i from rfl, h]; rfl
theorem TOk.add {p s : Slot} {i : Nat} (hT : TOk T) (hl : T.length < 1000000) (hp : placeN T p = some i) (h : placeN T s = none) : TOk (T.take (i + 1) ++ [(s, dOf T i + 1)] ++ T.drop (i + 1)) := by
  obtain ⟨x, hx, _⟩ := place_some hp
  have hi := (List.getElem?_eq_some_iff.1 hx).1
  have hr := hT.rng hx
  refine ⟨by simp; omega, ?_, ?_⟩
  · have hw := hT.wf
    have e : T = T.take (i + 1) ++ T.drop (i + 1) := (List.take_append_drop _ _).symm
    rw [e, wfD_app, last_take hx] at hw
    rw [List.append_assoc, wfD_app, last_take hx]
    refine ⟨hw.1, ?_⟩
    rw [dOf_get hx]
    exact ⟨by show 0 ≤ x.2 + 1; omega, Int.le_refl _, wfD_mono (by show x.2 ≤ x.2 + 1; omega) hw.2⟩
  · have hn := hT.nd
    have e : T = T.take (i + 1) ++ T.drop (i + 1) := (List.take_append_drop _ _).symm
    rw [e, List.map_append] at hn
    rw [List.append_assoc, List.map_append, List.map_append]
    have hnot : s ∉ T.map (·.1) := fun hm => by
      obtain ⟨y, hy, hys⟩ := List.mem_map.1 hm
      exact place_none h y hy hys
    rw [e, List.map_append, List.mem_append, not_or] at hnot
    rw [List.nodup_append] at hn ⊢
    refine ⟨hn.1, ?_, fun a ha c hc => ?_⟩
    · rw [List.map_cons, List.map_nil, List.singleton_append, List.nodup_cons]
      exact ⟨hnot.2, hn.2.1⟩
    · rw [List.map_cons, List.map_nil, List.singleton_append, List.mem_cons] at hc
      rcases hc with rfl | hc
      · intro e; subst e; exact hnot.1 ha
      · exact hn.2.2 a ha c hc
theorem tree_Add_spec {p s : Slot} {K : Int → World → Prop} (hl : T.length < 1000000) (h : Own B w0 w (TreeA b T :: R)) (hK : ∀ w', Own B w0 w' (TreeA b (addN T p s).2 :: R) → K (addN T p s).1 w') : C.tree_Tree_Add (some ⟨b, 0, none⟩) p.1 p.2 s.1 s.2 K w := by
  apply S.tree_Tree_Add_ok
  unfold S.tree_Tree_Add
  obtain ⟨sl, hT, h⟩ := h.tree
  unfold addN at hK
  (repeat (first | (refine h.al fun w h => ?_) | (refine h.dr fun w h => ?_) | (refine h.lc_2 rfl ?_) | (refine h.lc_6 rfl ?_) | (refine ⟨_, h.ldc rfl, ?_⟩) | (refine ⟨_, h.ldd rfl, ?_⟩) | (refine h.hd rfl ?_) | (refine ⟨h.ldc rfl, ?_⟩) | (refine ⟨h.ldd rfl, ?_⟩) | (refine h.stLc rfl rfl fun w h => ?_) | (refine exs ?_) | (refine _root_.Go.Vc.a2 ?_) | (refine h.stc rfl rfl fun w h => ?_) | (refine h.std rfl rfl fun w h => ?_)))
  refine tree_place_o (x := p) hT h.up3.up3 fun w h => ?_
  cases hp : placeN T p with
  | none =>
    rw [hp] at hK
    refine cdecT (by decide) ?_
    exact hK _ (Own.mk_tree hT h.rm3.rm2)
  | some i =>
    obtain ⟨x, hx, hxp⟩ := place_some hp
    have hr := hT.rng hx
    have hi := (List.getElem?_eq_some_iff.1 hx).1
    rw [hp] at hK
    refine cdecF (by show ¬ (i : Int) < 0; omega) ?_
    (repeat (first | (refine h.al fun w h => ?_) | (refine h.dr fun w h => ?_) | (refine h.lc_2 rfl ?_) | (refine h.lc_6 rfl ?_) | (refine ⟨_, h.ldc rfl, ?_⟩) | (refine ⟨_, h.ldd rfl, ?_⟩) | (refine h.hd rfl ?_) | (refine ⟨h.ldc rfl, ?_⟩) | (refine ⟨h.ldd rfl, ?_⟩) | (refine h.stLc rfl rfl fun w h => ?_) | (refine exs ?_) | (refine _root_.Go.Vc.a2 ?_) | (refine h.stc rfl rfl fun w h => ?_) | (refine h.std rfl rfl fun w h => ?_)))
    refine tree_place_o (x := s) hT h fun w h => ?_
    cases hs : placeN T s with
    | some j =>
      simp only [hs] at hK
      refine cdecT (by show (j : Int) ≥ 0; omega) ?_
      exact hK _ (Own.mk_tree hT h.rm3.rm2)
    | none =>
      simp only [hs] at hK
      refine cdecF (by decide) ?_
      (repeat (first | (refine h.al fun w h => ?_) | (refine h.dr fun w h => ?_) | (refine h.lc_2 rfl ?_) | (refine h.lc_6 rfl ?_) | (refine ⟨_, h.ldc rfl, ?_⟩) | (refine ⟨_, h.ldd rfl, ?_⟩) | (refine h.hd rfl ?_) | (refine ⟨h.ldc rfl, ?_⟩) | (refine ⟨h.ldd rfl, ?_⟩) | (refine h.stLc rfl rfl fun w h => ?_) | (refine exs ?_) | (refine _root_.Go.Vc.a2 ?_) | (refine h.stc rfl rfl fun w h => ?_) | (refine h.std rfl rfl fun w h => ?_)))
      refine h.ixc rfl hx fun a ha h0 hc => ⟨_, hc 2 _ rfl, ?_⟩
      rw [show IntKind.i64.wrap (x.2 + 1) = dOf T i + 1 from by rw [dOf_get hx, wr (by omega) (by omega)]]
      (repeat (first | (refine h.al fun w h => ?_) | (refine h.dr fun w h => ?_) | (refine h.lc_2 rfl ?_) | (refine h.lc_6 rfl ?_) | (refine ⟨_, h.ldc rfl, ?_⟩) | (refine ⟨_, h.ldd rfl, ?_⟩) | (refine h.hd rfl ?_) | (refine ⟨h.ldc rfl, ?_⟩) | (refine ⟨h.ldd rfl, ?_⟩) | (refine h.stLc rfl rfl fun w h => ?_) | (refine exs ?_) | (refine _root_.Go.Vc.a2 ?_) | (refine h.stc rfl rfl fun w h => ?_) | (refine h.std rfl rfl fun w h => ?_)))
      show C.slices_Insert_tree_leaf_tree_leaf sl (IntKind.i64.wrap ((i : Int) + 1)) _ _ _
      rw [show IntKind.i64.wrap ((i : Int) + 1) = ((i + 1 : Nat) : Int) from by rw [wr (by omega) (by omega)]; omega]
      refine Insert_leaf (y := (s, dOf T i + 1)) h.up1 (by omega) (by omega) fun s' w h => ?_
      (repeat (first | (refine h.al fun w h => ?_) | (refine h.dr fun w h => ?_) | (refine h.lc_2 rfl ?_) | (refine h.lc_6 rfl ?_) | (refine ⟨_, h.ldc rfl, ?_⟩) | (refine ⟨_, h.ldd rfl, ?_⟩) | (refine h.hd rfl ?_) | (refine ⟨h.ldc rfl, ?_⟩) | (refine ⟨h.ldd rfl, ?_⟩) | (refine h.stLc rfl rfl fun w h => ?_) | (refine exs ?_) | (refine _root_.Go.Vc.a2 ?_) | (refine h.stc rfl rfl fun w h => ?_) | (refine h.std rfl rfl fun w h => ?_)))
      (dsimp only [putAt, List.set_cons_zero, List.set_cons_succ] at h)
      exact hK _ (Own.mk_tree (s := s') (hT.add hl hp hs) h.rm3.rm2)
theorem wfD_set {s : Slot} : ∀ (T : Tr) (p : Int) (i : Nat) (x : Leaf), T[i]? = some x → wfD p T → wfD p (T.set i (s, x.2))
  | [], _, _, _, h, _ => by simp at h
  | y :: T, p, 0, x, h, hw => by
    simp only [List.getElem?_cons_zero, Option.some.injEq] at h
    subst h; exact hw
  | y :: T, p, i + 1, x, h, hw => ⟨hw.1, hw.2.1, wfD_set T y.2 i x (by simpa using h) hw.2.2⟩
theorem nodup_set {α : Type} : ∀ (l : List α) (i : Nat) (s : α), l.Nodup → s ∉ l → (l.set i s).Nodup
  | [], _, _, _, _ => by simp
  | a :: l, 0, s, hn, hs => by
    rw [List.set_cons_zero, List.nodup_cons]
    exact ⟨fun h => hs (List.mem_cons_of_mem _ h), (List.nodup_cons.1 hn).2⟩
  | a :: l, i + 1, s, hn, hs => by
    rw [List.set_cons_succ, List.nodup_cons]
    rw [List.mem_cons, not_or] at hs
    refine ⟨fun h => ?_, nodup_set l i s (List.nodup_cons.1 hn).2 hs.2⟩
    rcases List.mem_or_eq_of_mem_set h with h | h
    · exact (List.nodup_cons.1 hn).1 h
    · exact hs.1 h.symm
theorem TOk.move {f t : Slot} {i : Nat} (hT : TOk T) (hp : placeN T f = some i) (h : placeN T t = none) : TOk (T.set i (t, dOf T i)) := by
  obtain ⟨x, hx, _⟩ := place_some hp
  refine ⟨by rw [List.length_set]; exact hT.few, by rw [dOf_get hx]; exact wfD_set T _ i x hx hT.wf, ?_⟩
  rw [List.map_set]
  refine nodup_set _ _ _ hT.nd fun hm => ?_
  obtain ⟨y, hy, hys⟩ := List.mem_map.1 hm
  exact place_none h y hy hys
theorem stSlot {s : Sl} {xs : List Leaf} {i : Nat} {a : Addr} {x : Leaf} {t : Slot} {k : World → Prop} (h : Own B w0 w (SlT leafE s xs :: R)) (hx : xs[i]? = some x) (ha : s.a = some a) (hk : ∀ w', Own B w0 w' (SlT leafE s (xs.set i (t, x.2)) :: R) → k w') : StL w (a.add ((i : Int).toNat * 3)) 0 [.int .i64 t.1, .int .i64 t.2] k := by
  have hi := (List.getElem?_eq_some_iff.1 hx).1
  have e : ∀ (y : Leaf) (w : World) (k : World → Prop), St w ((a.add ((i : Int).toNat * 3)).add 0) (.int .i64 t.1) (fun w' => St w' ((a.add ((i : Int).toNat * 3)).add 1) (.int .i64 t.2) k) → StL w (a.add ((i : Int).toNat * 3)) 0 [.int .i64 t.1, .int .i64 t.2] k := fun _ _ _ h => h
  refine e x _ _ ?_
  refine h.stFc (x := x) (c := 0) ((t.1, x.1.2), x.2) rfl hx ha rfl (by decide) rfl fun w h => ?_
  refine h.stFc (x := ((t.1, x.1.2), x.2)) (c := 1) (t, x.2) rfl (by rw [List.getElem?_set, if_pos rfl, if_pos hi]) ha rfl (by decide) rfl fun w h => ?_
  rw [List.set_set] at h
  exact hk w h
theorem tree_Move_spec {f t : Slot} {K : Int → World → Prop} (h : Own B w0 w (TreeA b T :: R)) (hK : ∀ w', Own B w0 w' (TreeA b (moveN T f t).2 :: R) → K (moveN T f t).1 w') : C.tree_Tree_Move (some ⟨b, 0, none⟩) f.1 f.2 t.1 t.2 K w := by
  apply S.tree_Tree_Move_ok
  unfold S.tree_Tree_Move
  obtain ⟨sl, hT, h⟩ := h.tree
  unfold moveN at hK
  (repeat (first | (refine h.al fun w h => ?_) | (refine h.dr fun w h => ?_) | (refine h.lc_2 rfl ?_) | (refine h.lc_6 rfl ?_) | (refine ⟨_, h.ldc rfl, ?_⟩) | (refine ⟨_, h.ldd rfl, ?_⟩) | (refine h.hd rfl ?_) | (refine ⟨h.ldc rfl, ?_⟩) | (refine ⟨h.ldd rfl, ?_⟩) | (refine h.stLc rfl rfl fun w h => ?_) | (refine exs ?_) | (refine _root_.Go.Vc.a2 ?_) | (refine h.stc rfl rfl fun w h => ?_) | (refine h.std rfl rfl fun w h => ?_)))
  refine tree_place_o (x := f) hT h.up3.up3 fun w h => ?_
  cases hp : placeN T f with
  | none =>
    rw [hp] at hK
    refine cdecT (by decide) ?_
    exact hK _ (Own.mk_tree hT h.rm3.rm2)
  | some i =>
    obtain ⟨x, hx, hxp⟩ := place_some hp
    have hi := (List.getElem?_eq_some_iff.1 hx).1
    rw [hp] at hK
    refine cdecF (by show ¬ (i : Int) < 0; omega) ?_
    (repeat (first | (refine h.al fun w h => ?_) | (refine h.dr fun w h => ?_) | (refine h.lc_2 rfl ?_) | (refine h.lc_6 rfl ?_) | (refine ⟨_, h.ldc rfl, ?_⟩) | (refine ⟨_, h.ldd rfl, ?_⟩) | (refine h.hd rfl ?_) | (refine ⟨h.ldc rfl, ?_⟩) | (refine ⟨h.ldd rfl, ?_⟩) | (refine h.stLc rfl rfl fun w h => ?_) | (refine exs ?_) | (refine _root_.Go.Vc.a2 ?_) | (refine h.stc rfl rfl fun w h => ?_) | (refine h.std rfl rfl fun w h => ?_)))
    refine tree_place_o (x := t) hT h fun w h => ?_
    cases hs : placeN T t with
    | some j =>
      simp only [hs] at hK
      refine cdecT (by show (j : Int) ≥ 0; omega) ?_
      exact hK _ (Own.mk_tree hT h.rm3.rm2)
    | none =>
      simp only [hs] at hK
      refine cdecF (by decide) ?_
      (repeat (first | (refine h.al fun w h => ?_) | (refine h.dr fun w h => ?_) | (refine h.lc_2 rfl ?_) | (refine h.lc_6 rfl ?_) | (refine ⟨_, h.ldc rfl, ?_⟩) | (refine ⟨_, h.ldd rfl, ?_⟩) | (refine h.hd rfl ?_) | (refine ⟨h.ldc rfl, ?_⟩) | (refine ⟨h.ldd rfl, ?_⟩) | (refine h.stLc rfl rfl fun w h => ?_) | (refine exs ?_) | (refine _root_.Go.Vc.a2 ?_) | (refine h.stc rfl rfl fun w h => ?_) | (refine h.std rfl rfl fun w h => ?_)))
      refine h.ixc rfl hx fun a ha h0 hc => ?_
      refine Go.Vc.a2 ?_
      refine stSlot (t := t) h hx ha fun w h => ?_
      have hm := hT.move hp hs
      rw [dOf_get hx] at hm hK
      exact hK _ (Own.mk_tree (s := sl) hm h.rm3.rm2)
end
end Go.Proofs.Ytmfbhjfkagnahaa
