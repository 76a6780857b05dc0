/- A tree of slots, told plainly: two rows, of slots and of depths. -/
import Derived.Test.YtmfbhjfkagnahaaP7
import Derived.Test.YtmfbhjfkagnahaaS2
set_option linter.unusedVariables false
set_option linter.unusedSimpArgs false
set_option maxRecDepth 8000
namespace Go.Proofs.Ytmfbhjfkagnahaa
open Go Go.Vc Go.Proofs

def sl7 (T : Tr) : List Slot := T.map fun x => x.1
def dl7 (T : Tr) : List Int := T.map fun x => x.2
theorem sl7_len (T : Tr) : (sl7 T).length = T.length := by unfold sl7; simp
theorem dl7_len (T : Tr) : (dl7 T).length = T.length := by unfold dl7; simp
theorem sl7_get {T : Tr} {k : Nat} {x : Leaf} (h : T[k]? = some x) : (sl7 T)[k]? = some x.1 := by unfold sl7; rw [List.getElem?_map, h]; rfl
theorem dl7_get {T : Tr} {k : Nat} {x : Leaf} (h : T[k]? = some x) : (dl7 T)[k]? = some x.2 := by unfold dl7; rw [List.getElem?_map, h]; rfl
theorem sl7_take {T : Tr} {e : Nat} {x : Leaf} (h : T[e]? = some x) : sl7 (T.take e) ++ [x.1] = sl7 (T.take (e + 1)) := by
  unfold sl7; rw [List.take_add_one, h, List.map_append]; rfl
theorem dl7_take {T : Tr} {e : Nat} {x : Leaf} (h : T[e]? = some x) : dl7 (T.take e) ++ [x.2] = dl7 (T.take (e + 1)) := by
  unfold dl7; rw [List.take_add_one, h, List.map_append]; rfl
/-- A tree at a block, told plainly. -/
def RefA (b : Nat) (T : Tr) : Asn := ExA fun p : Sl × Sl => StarA [BlkA b [slV p.1, slV p.2], SlT slotE p.1 (sl7 T), SlT intE p.2 (dl7 T)]

section
variable {B : Nat} {w0 w : World} {R L : List Asn} {b : Nat} {T : Tr}
theorem _root_.Go.Vc.Own.ref (h : Own B w0 w (RefA b T :: R)) : ∃ s d, Own B w0 w (SlT slotE s (sl7 T) :: SlT intE d (dl7 T) :: BlkA b [slV s, slV d] :: R) := by
  obtain ⟨⟨s, d⟩, h⟩ := h.ex
  have h := h.star
  exact ⟨s, d, h.up1.up2.up1⟩
theorem _root_.Go.Vc.Own.mk_ref {s d : Sl} (h : Own B w0 w (SlT slotE s (sl7 T) :: SlT intE d (dl7 T) :: BlkA b [slV s, slV d] :: R)) : Own B w0 w (RefA b T :: R) :=
  Own.mk_ex (s, d) (Own.mk_star h.up2)
theorem app1_int {s : Sl} {ys : List Int} {y : Int} {c : Nat} {k : Sl → World → Prop} [I : SlIn s L Int intE ys] [J : Pick (SlT intE s ys) L R] (h : Own B w0 w (BlkA c [.int .i64 y] :: L)) (hbig : ys.length ≤ 1000000000)
    (hk : ∀ s' w', s'.len = ys.length + 1 → Own B w0 w' (SlT intE s' (ys ++ [y]) :: R) → k s' w') :
    ∃ s' w', AppR Try.prog [43, 43] 43 (.slice s.a s.len s.cap) (.slice (some (Addr.mk c 0 none)) 1 1) w s' w' ∧ k s' w' :=
  Own.app1c (E := intE) (y := y) Try.underlying43 (show Try.prog.info? 3 = some Try.t3 from by kernel_rfl) (zv := .int .i64 0) (by kernel_rfl) (by kernel_rfl) rfl (by decide) h (by
    have e : Try.t3.bytes = 8 := by kernel_rfl
    rw [e]; omega) hk
theorem rplace_o {s d : Sl} {x : Slot} {K : Int → World → Prop} (hT : TOk T) (h : Own B w0 w (SlT slotE s (sl7 T) :: SlT intE d (dl7 T) :: BlkA b [slV s, slV d] :: R)) (hK : ∀ w', Own B w0 w' (SlT slotE s (sl7 T) :: SlT intE d (dl7 T) :: BlkA b [slV s, slV d] :: R) → K (match placeN T x with | some i => (i : Int) | none => -1) w') :
    C.ref07_Tree_place (some ⟨b, 0, none⟩) x.1 x.2 K w := by
  apply S.ref07_Tree_place_ok
  unfold S.ref07_Tree_place
  have hlen := h.lenc s
  rw [sl7_len] at hlen
  have hfew := hT.few
  refine h.al fun w1 h => ?_
  generalize w.heap.size = c at h ⊢
  intro l hl
  have loop : ∀ (m k : Nat) (w : World), k + m = T.length → (∀ r y, r < k → T[r]? = some y → y.1 ≠ x) → Own B w0 w (BlkA c [.int .i64 x.1, .int .i64 x.2] :: SlT slotE s (sl7 T) :: SlT intE d (dl7 T) :: BlkA b [slV s, slV d] :: R) → l (k : Int) w := by
    intro m
    induction m with
    | zero =>
      intro k w hk hno h
      apply hl
      (repeat (first | (refine h.al fun w h => ?_) | (refine h.dr fun w h => ?_) | (refine h.lc_2 rfl ?_) | (refine h.lc_6 rfl ?_) | (refine ⟨_, h.ldc rfl, ?_⟩) | (refine ⟨_, h.ldd rfl, ?_⟩) | (refine h.hd rfl ?_) | (refine ⟨h.ldc rfl, ?_⟩) | (refine ⟨h.ldd rfl, ?_⟩) | (refine h.stLc rfl rfl fun w h => ?_) | (refine exs ?_) | (refine _root_.Go.Vc.a2 ?_) | (refine h.stc rfl rfl fun w h => ?_) | (refine h.std rfl rfl fun w h => ?_)))
      refine cdecF (by omega) ?_
      have hn : placeN T x = none := place_none_iff.2 fun hm => by
        obtain ⟨y, hy, hyx⟩ := List.mem_map.1 hm
        obtain ⟨r, hr⟩ := List.mem_iff_getElem?.1 hy
        have := (List.getElem?_eq_some_iff.1 hr).1
        exact hno r y (by omega) hr hyx
      rw [hn] at hK
      exact hK _ h.sub
    | succ m ih =>
      intro k w hk hno h
      obtain ⟨y, hy⟩ : ∃ y, T[k]? = some y := ⟨_, List.getElem?_eq_getElem (by omega)⟩
      apply hl
      (repeat (first | (refine h.al fun w h => ?_) | (refine h.dr fun w h => ?_) | (refine h.lc_2 rfl ?_) | (refine h.lc_6 rfl ?_) | (refine ⟨_, h.ldc rfl, ?_⟩) | (refine ⟨_, h.ldd rfl, ?_⟩) | (refine h.hd rfl ?_) | (refine ⟨h.ldc rfl, ?_⟩) | (refine ⟨h.ldd rfl, ?_⟩) | (refine h.stLc rfl rfl fun w h => ?_) | (refine exs ?_) | (refine _root_.Go.Vc.a2 ?_) | (refine h.stc rfl rfl fun w h => ?_) | (refine h.std rfl rfl fun w h => ?_)))
      refine cdecT (by omega) ?_
      (repeat (first | (refine h.al fun w h => ?_) | (refine h.dr fun w h => ?_) | (refine h.lc_2 rfl ?_) | (refine h.lc_6 rfl ?_) | (refine ⟨_, h.ldc rfl, ?_⟩) | (refine ⟨_, h.ldd rfl, ?_⟩) | (refine h.hd rfl ?_) | (refine ⟨h.ldc rfl, ?_⟩) | (refine ⟨h.ldd rfl, ?_⟩) | (refine h.stLc rfl rfl fun w h => ?_) | (refine exs ?_) | (refine _root_.Go.Vc.a2 ?_) | (refine h.stc rfl rfl fun w h => ?_) | (refine h.std rfl rfl fun w h => ?_)))
      refine h.ixc (s := s) rfl (sl7_get hy) fun a ha h0 hc => ?_
      refine ldSlot (x := y.1) hc ?_
      (repeat (first | (refine h.al fun w h => ?_) | (refine h.dr fun w h => ?_) | (refine h.lc_2 rfl ?_) | (refine h.lc_6 rfl ?_) | (refine ⟨_, h.ldc rfl, ?_⟩) | (refine ⟨_, h.ldd rfl, ?_⟩) | (refine h.hd rfl ?_) | (refine ⟨h.ldc rfl, ?_⟩) | (refine ⟨h.ldd rfl, ?_⟩) | (refine h.stLc rfl rfl fun w h => ?_) | (refine exs ?_) | (refine _root_.Go.Vc.a2 ?_) | (refine h.stc rfl rfl fun w h => ?_) | (refine h.std rfl rfl fun w h => ?_)))
      refine ⟨_, slotEq y.1 x, ?_⟩
      refine cdec (fun e => ?_) (fun e => ?_)
      · rw [← e, place_own hT hy] at hK
        exact hK _ h.sub
      · rw [show IntKind.i64.wrap ((k : Int) + 1) = ((k + 1 : Nat) : Int) from by rw [wr (by omega) (by omega)]; omega]
        refine ih (k + 1) _ (by omega) (fun r z hr hz => ?_) h
        by_cases h1 : r = k
        · subst h1; rw [hy] at hz; cases hz; exact e
        · exact hno r z (by omega) hz
  exact loop T.length 0 _ (by omega) (fun r y h1 => by omega) h
theorem rend_o {s d : Sl} {i : Nat} {K : Int → World → Prop} (hT : TOk T) (hi : i < T.length) (h : Own B w0 w (SlT slotE s (sl7 T) :: SlT intE d (dl7 T) :: BlkA b [slV s, slV d] :: R)) (hK : ∀ w', Own B w0 w' (SlT slotE s (sl7 T) :: SlT intE d (dl7 T) :: BlkA b [slV s, slV d] :: R) → K ((endN T i : Nat) : Int) w') :
    C.ref07_Tree_end (some ⟨b, 0, none⟩) (i : Int) K w := by
  apply S.ref07_Tree_end_ok
  unfold S.ref07_Tree_end
  have hlen := h.lenc s
  rw [sl7_len] at hlen
  have hfew := hT.few
  obtain ⟨xi, hxi⟩ : ∃ x, T[i]? = some x := ⟨_, List.getElem?_eq_getElem hi⟩
  intro l hl
  have loop : ∀ (rest : Tr) (k : Nat) (w : World), T.drop k = rest → k ≤ T.length → i < k → k + (rest.takeWhile fun x => decide (dOf T i < x.2)).length = endN T i → Own B w0 w (SlT slotE s (sl7 T) :: SlT intE d (dl7 T) :: BlkA b [slV s, slV d] :: R) → l (k : Int) w := by
    intro rest
    induction rest with
    | nil =>
      intro k w hk hkl hik he h
      have : T.length ≤ k := by have := congrArg List.length hk; simp at this; omega
      apply hl
      (repeat (first | (refine h.al fun w h => ?_) | (refine h.dr fun w h => ?_) | (refine h.lc_2 rfl ?_) | (refine h.lc_6 rfl ?_) | (refine ⟨_, h.ldc rfl, ?_⟩) | (refine ⟨_, h.ldd rfl, ?_⟩) | (refine h.hd rfl ?_) | (refine ⟨h.ldc rfl, ?_⟩) | (refine ⟨h.ldd rfl, ?_⟩) | (refine h.stLc rfl rfl fun w h => ?_) | (refine exs ?_) | (refine _root_.Go.Vc.a2 ?_) | (refine h.stc rfl rfl fun w h => ?_) | (refine h.std rfl rfl fun w h => ?_)))
      refine cdecF (by omega) ?_
      have : k = endN T i := by simpa using he
      (repeat (first | (refine h.al fun w h => ?_) | (refine h.dr fun w h => ?_) | (refine h.lc_2 rfl ?_) | (refine h.lc_6 rfl ?_) | (refine ⟨_, h.ldc rfl, ?_⟩) | (refine ⟨_, h.ldd rfl, ?_⟩) | (refine h.hd rfl ?_) | (refine ⟨h.ldc rfl, ?_⟩) | (refine ⟨h.ldd rfl, ?_⟩) | (refine h.stLc rfl rfl fun w h => ?_) | (refine exs ?_) | (refine _root_.Go.Vc.a2 ?_) | (refine h.stc rfl rfl fun w h => ?_) | (refine h.std rfl rfl fun w h => ?_)))
      rw [hlen, show T.length = endN T i from by omega]; exact hK _ h
    | cons y rest ih =>
      intro k w hk hkl hik he h
      have hkl2 : k < T.length := by have := congrArg List.length hk; simp at this; omega
      have hx : T[k]? = some y := by
        have := congrArg (fun l => l[0]?) hk
        simpa using this
      apply hl
      (repeat (first | (refine h.al fun w h => ?_) | (refine h.dr fun w h => ?_) | (refine h.lc_2 rfl ?_) | (refine h.lc_6 rfl ?_) | (refine ⟨_, h.ldc rfl, ?_⟩) | (refine ⟨_, h.ldd rfl, ?_⟩) | (refine h.hd rfl ?_) | (refine ⟨h.ldc rfl, ?_⟩) | (refine ⟨h.ldd rfl, ?_⟩) | (refine h.stLc rfl rfl fun w h => ?_) | (refine exs ?_) | (refine _root_.Go.Vc.a2 ?_) | (refine h.stc rfl rfl fun w h => ?_) | (refine h.std rfl rfl fun w h => ?_)))
      refine cdecT (by omega) ?_
      (repeat (first | (refine h.al fun w h => ?_) | (refine h.dr fun w h => ?_) | (refine h.lc_2 rfl ?_) | (refine h.lc_6 rfl ?_) | (refine ⟨_, h.ldc rfl, ?_⟩) | (refine ⟨_, h.ldd rfl, ?_⟩) | (refine h.hd rfl ?_) | (refine ⟨h.ldc rfl, ?_⟩) | (refine ⟨h.ldd rfl, ?_⟩) | (refine h.stLc rfl rfl fun w h => ?_) | (refine exs ?_) | (refine _root_.Go.Vc.a2 ?_) | (refine h.stc rfl rfl fun w h => ?_) | (refine h.std rfl rfl fun w h => ?_)))
      refine h.ixc (s := d) rfl (dl7_get hx) fun a ha h0 hc => ⟨_, h0 _ rfl, ?_⟩
      (repeat (first | (refine h.al fun w h => ?_) | (refine h.dr fun w h => ?_) | (refine h.lc_2 rfl ?_) | (refine h.lc_6 rfl ?_) | (refine ⟨_, h.ldc rfl, ?_⟩) | (refine ⟨_, h.ldd rfl, ?_⟩) | (refine h.hd rfl ?_) | (refine ⟨h.ldc rfl, ?_⟩) | (refine ⟨h.ldd rfl, ?_⟩) | (refine h.stLc rfl rfl fun w h => ?_) | (refine exs ?_) | (refine _root_.Go.Vc.a2 ?_) | (refine h.stc rfl rfl fun w h => ?_) | (refine h.std rfl rfl fun w h => ?_)))
      refine h.ixc (s := d) rfl (dl7_get hxi) fun a ha h0 hc => ⟨_, h0 _ rfl, ?_⟩
      refine cdec (fun e => ?_) (fun e => ?_)
      · rw [List.takeWhile_cons_of_neg (by rw [dOf_get hxi]; simpa using e)] at he
        have : k = endN T i := by simpa using he
        rw [this]; exact hK _ h
      · rw [wr (by omega) (by omega)]
        refine ih (k + 1) _ (by rw [← List.drop_drop, hk]; rfl) (by omega) (by omega) ?_ h
        rw [List.takeWhile_cons_of_pos (by rw [dOf_get hxi]; simpa using e)] at he
        simp at he; omega
  rw [show IntKind.i64.wrap ((i : Int) + 1) = ((i + 1 : Nat) : Int) from by rw [wr (by omega) (by omega)]; omega]
  exact loop _ (i + 1) w rfl (by omega) (by omega) rfl h
/-- One put in at a place. -/
def putT (T : Tr) (i : Nat) (z : Leaf) : Tr := T.take i ++ z :: T.drop i
theorem put_get {T : Tr} {i : Nat} {z : Leaf} (hi : i ≤ T.length) : (∀ r, r < i → (putT T i z)[r]? = T[r]?) ∧ (putT T i z)[i]? = some z ∧ (∀ r, i ≤ r → (putT T i z)[r + 1]? = T[r]?) := by
  have h1 : (T.take i).length = i := by simp; omega
  unfold putT
  refine ⟨fun r hr => ?_, ?_, fun r hr => ?_⟩
  · rw [List.getElem?_append_left (by omega), List.getElem?_take, if_pos hr]
  · rw [List.getElem?_append_right (by omega), h1, Nat.sub_self]; rfl
  · rw [List.getElem?_append_right (by omega), h1, show r + 1 - i = (r - i) + 1 from by omega, List.getElem?_cons_succ, List.getElem?_drop, show i + (r - i) = r from by omega]
theorem put_len {T : Tr} {i : Nat} {z : Leaf} (hi : i ≤ T.length) : (putT T i z).length = T.length + 1 := by unfold putT; simp; omega
theorem rput_o {s d : Sl} {i : Nat} {z : Leaf} {K : World → Prop} (hl : T.length < 1000000) (hi : i ≤ T.length) (h : Own B w0 w (SlT slotE s (sl7 T) :: SlT intE d (dl7 T) :: BlkA b [slV s, slV d] :: R)) (hK : ∀ w', Own B w0 w' (RefA b (putT T i z) :: R) → K w') :
    C.ref07_Tree_put (some ⟨b, 0, none⟩) (i : Int) z.1.1 z.1.2 z.2 K w := by
  apply S.ref07_Tree_put_ok
  unfold S.ref07_Tree_put
  have hlen := h.lenc s
  rw [sl7_len] at hlen
  obtain ⟨g1, g2, g3⟩ := put_get (z := z) hi
  have hpl := put_len (z := z) hi
  generalize putT T i z = T' at *
  refine h.al fun w1 h => ?_
  generalize w.heap.size = c at h ⊢
  refine h.al fun w2 h => ?_
  generalize w1.heap.size = c1 at h ⊢
  refine h.al fun w3 h => ?_
  generalize w2.heap.size = c2 at h ⊢
  have h : Own B w0 w3 (SlT intE ⟨some ⟨c2, 0, none⟩, 0, 0⟩ [] :: _) := h.empty
  have h : Own B w0 w3 (SlT slotE ⟨some ⟨c1, 0, none⟩, 0, 0⟩ [] :: _) := h.up1.empty
  intro l hlp
  have loop : ∀ (m k : Nat) (l1 d1 : Sl) (w : World), k + m = T.length + 1 → Own B w0 w (SlT slotE l1 (sl7 (T'.take (if k ≤ i then k else k + 1))) :: SlT intE d1 (dl7 (T'.take (if k ≤ i then k else k + 1))) :: BlkA c [.int .i64 z.1.1, .int .i64 z.1.2] :: SlT slotE s (sl7 T) :: SlT intE d (dl7 T) :: BlkA b [slV s, slV d] :: R) → l l1 d1 (k : Int) w := by
    intro m
    induction m with
    | zero =>
      intro k l1 d1 w hk h
      rw [if_neg (show ¬ k ≤ i by omega), List.take_of_length_le (by omega)] at h
      apply hlp
      (repeat (first | (refine h.al fun w h => ?_) | (refine h.dr fun w h => ?_) | (refine h.lc_2 rfl ?_) | (refine h.lc_6 rfl ?_) | (refine ⟨_, h.ldc rfl, ?_⟩) | (refine ⟨_, h.ldd rfl, ?_⟩) | (refine h.hd rfl ?_) | (refine ⟨h.ldc rfl, ?_⟩) | (refine ⟨h.ldd rfl, ?_⟩) | (refine h.stLc rfl rfl fun w h => ?_) | (refine exs ?_) | (refine _root_.Go.Vc.a2 ?_) | (refine h.stc rfl rfl fun w h => ?_) | (refine h.std rfl rfl fun w h => ?_)))
      refine cdecF (by omega) ?_
      (repeat (first | (refine h.al fun w h => ?_) | (refine h.dr fun w h => ?_) | (refine h.lc_2 rfl ?_) | (refine h.lc_6 rfl ?_) | (refine ⟨_, h.ldc rfl, ?_⟩) | (refine ⟨_, h.ldd rfl, ?_⟩) | (refine h.hd rfl ?_) | (refine ⟨h.ldc rfl, ?_⟩) | (refine ⟨h.ldd rfl, ?_⟩) | (refine h.stLc rfl rfl fun w h => ?_) | (refine exs ?_) | (refine _root_.Go.Vc.a2 ?_) | (refine h.stc rfl rfl fun w h => ?_) | (refine h.std rfl rfl fun w h => ?_)))
      (dsimp only [putAt, List.set_cons_zero, List.set_cons_succ] at h)
      exact hK _ (Own.mk_ref (s := l1) (d := d1) h.sub)
    | succ m ih =>
      intro k l1 d1 w hk h
      have hwk : IntKind.i64.wrap ((k : Int) + 1) = ((k + 1 : Nat) : Int) := by rw [wr (by omega) (by omega)]; omega
      apply hlp
      (repeat (first | (refine h.al fun w h => ?_) | (refine h.dr fun w h => ?_) | (refine h.lc_2 rfl ?_) | (refine h.lc_6 rfl ?_) | (refine ⟨_, h.ldc rfl, ?_⟩) | (refine ⟨_, h.ldd rfl, ?_⟩) | (refine h.hd rfl ?_) | (refine ⟨h.ldc rfl, ?_⟩) | (refine ⟨h.ldd rfl, ?_⟩) | (refine h.stLc rfl rfl fun w h => ?_) | (refine exs ?_) | (refine _root_.Go.Vc.a2 ?_) | (refine h.stc rfl rfl fun w h => ?_) | (refine h.std rfl rfl fun w h => ?_)))
      refine cdecT (by omega) ?_
      intro k16 hk16
      have second : ∀ (l2 d2 : Sl) (w : World), Own B w0 w (SlT slotE l2 (sl7 (T'.take (if k < i then k else k + 1))) :: SlT intE d2 (dl7 (T'.take (if k < i then k else k + 1))) :: BlkA c [.int .i64 z.1.1, .int .i64 z.1.2] :: SlT slotE s (sl7 T) :: SlT intE d (dl7 T) :: BlkA b [slV s, slV d] :: R) → k16 l2 d2 w := by
        intro l2 d2 w h
        apply hk16
        (repeat (first | (refine h.al fun w h => ?_) | (refine h.dr fun w h => ?_) | (refine h.lc_2 rfl ?_) | (refine h.lc_6 rfl ?_) | (refine ⟨_, h.ldc rfl, ?_⟩) | (refine ⟨_, h.ldd rfl, ?_⟩) | (refine h.hd rfl ?_) | (refine ⟨h.ldc rfl, ?_⟩) | (refine ⟨h.ldd rfl, ?_⟩) | (refine h.stLc rfl rfl fun w h => ?_) | (refine exs ?_) | (refine _root_.Go.Vc.a2 ?_) | (refine h.stc rfl rfl fun w h => ?_) | (refine h.std rfl rfl fun w h => ?_)))
        refine cdec (fun e => ?_) (fun e => ?_)
        · obtain ⟨y, hy⟩ : ∃ y, T[k]? = some y := ⟨_, List.getElem?_eq_getElem (by omega)⟩
          have hy' : T'[if k < i then k else k + 1]? = some y := by
            by_cases h1 : k < i
            · rw [if_pos h1, g1 k h1, hy]
            · rw [if_neg h1, g3 k (by omega), hy]
          have hnext : (if k + 1 ≤ i then k + 1 else k + 1 + 1) = (if k < i then k else k + 1) + 1 := by split <;> split <;> omega
          have hib : (if k < i then k else k + 1) ≤ 1000001 := by split <;> omega
          generalize (if k < i then k else k + 1) = e2 at *
          (repeat (first | (refine h.al fun w h => ?_) | (refine h.dr fun w h => ?_) | (refine h.lc_2 rfl ?_) | (refine h.lc_6 rfl ?_) | (refine ⟨_, h.ldc rfl, ?_⟩) | (refine ⟨_, h.ldd rfl, ?_⟩) | (refine h.hd rfl ?_) | (refine ⟨h.ldc rfl, ?_⟩) | (refine ⟨h.ldd rfl, ?_⟩) | (refine h.stLc rfl rfl fun w h => ?_) | (refine exs ?_) | (refine _root_.Go.Vc.a2 ?_) | (refine h.stc rfl rfl fun w h => ?_) | (refine h.std rfl rfl fun w h => ?_)))
          refine h.ixc (s := s) rfl (sl7_get hy) fun a ha h0 hc => ?_
          refine ldSlot (x := y.1) hc ?_
          refine h.al fun w1 h => ?_
          refine app1_slot (ys := sl7 (T'.take e2)) (y := y.1) h (by rw [sl7_len]; simp; omega) fun l3 w hl3 h => ?_
          (repeat (first | (refine h.al fun w h => ?_) | (refine h.dr fun w h => ?_) | (refine h.lc_2 rfl ?_) | (refine h.lc_6 rfl ?_) | (refine ⟨_, h.ldc rfl, ?_⟩) | (refine ⟨_, h.ldd rfl, ?_⟩) | (refine h.hd rfl ?_) | (refine ⟨h.ldc rfl, ?_⟩) | (refine ⟨h.ldd rfl, ?_⟩) | (refine h.stLc rfl rfl fun w h => ?_) | (refine exs ?_) | (refine _root_.Go.Vc.a2 ?_) | (refine h.stc rfl rfl fun w h => ?_) | (refine h.std rfl rfl fun w h => ?_)))
          refine h.ixc (s := d) rfl (dl7_get hy) fun a ha h0 hc => ⟨_, h0 _ rfl, ?_⟩
          refine h.al fun w1 h => ?_
          refine app1_int (ys := dl7 (T'.take e2)) (y := y.2) h (by rw [dl7_len]; simp; omega) fun d3 w hd3 h => ?_
          rw [sl7_take hy', dl7_take hy', ← hnext] at h
          rw [hwk]
          exact ih (k + 1) l3 d3 w (by omega) h.sub
        · have h1 : T'.take (if k + 1 ≤ i then k + 1 else k + 1 + 1) = T'.take (if k < i then k else k + 1) := by
            rw [if_neg (by omega), if_neg (by omega), List.take_of_length_le (by omega), List.take_of_length_le (by omega)]
          rw [hwk]
          refine ih (k + 1) l2 d2 w (by omega) ?_
          rw [h1]; exact h
      refine ceq (fun e => ?_) (fun e => ?_)
      · have hki : k = i := by omega
        have e1 : (if k ≤ i then k else k + 1) = i := by rw [if_pos (by omega)]; exact hki
        have e2 : (if k < i then k else k + 1) = i + 1 := by rw [if_neg (by omega)]; omega
        rw [e1] at h
        rw [e2] at second
        (repeat (first | (refine h.al fun w h => ?_) | (refine h.dr fun w h => ?_) | (refine h.lc_2 rfl ?_) | (refine h.lc_6 rfl ?_) | (refine ⟨_, h.ldc rfl, ?_⟩) | (refine ⟨_, h.ldd rfl, ?_⟩) | (refine h.hd rfl ?_) | (refine ⟨h.ldc rfl, ?_⟩) | (refine ⟨h.ldd rfl, ?_⟩) | (refine h.stLc rfl rfl fun w h => ?_) | (refine exs ?_) | (refine _root_.Go.Vc.a2 ?_) | (refine h.stc rfl rfl fun w h => ?_) | (refine h.std rfl rfl fun w h => ?_)))
        refine app1_slot (ys := sl7 (T'.take i)) (y := z.1) h (by rw [sl7_len]; simp; omega) fun l3 w hl3 h => ?_
        refine h.al fun w1 h => ?_
        refine app1_int (ys := dl7 (T'.take i)) (y := z.2) h (by rw [dl7_len]; simp; omega) fun d3 w hd3 h => ?_
        rw [sl7_take g2, dl7_take g2] at h
        exact second l3 d3 w h.sub
      · have e1 : (if k ≤ i then k else k + 1) = (if k < i then k else k + 1) := by split <;> split <;> omega
        rw [e1] at h
        exact second l1 d1 w h
  refine loop (T.length + 1) 0 _ _ w3 (by omega) ?_
  rw [if_pos (by omega)]
  exact h
theorem rRoot_spec {s : Slot} {K : Int → World → Prop} (hT : TOk T) (hl : T.length < 1000000) (h : Own B w0 w (RefA b T :: R)) (hK : ∀ w', Own B w0 w' (RefA b (rootN T s).2 :: R) → K (rootN T s).1 w') : C.ref07_Tree_Root (some ⟨b, 0, none⟩) s.1 s.2 K w := by
  apply S.ref07_Tree_Root_ok
  unfold S.ref07_Tree_Root
  obtain ⟨sl, dd, h⟩ := h.ref
  have hlen := h.lenc sl
  rw [sl7_len] at hlen
  unfold rootN at hK
  refine h.al fun w1 h => ?_
  generalize w.heap.size = c at h ⊢
  (repeat (first | (refine h.al fun w h => ?_) | (refine h.dr fun w h => ?_) | (refine h.lc_2 rfl ?_) | (refine h.lc_6 rfl ?_) | (refine ⟨_, h.ldc rfl, ?_⟩) | (refine ⟨_, h.ldd rfl, ?_⟩) | (refine h.hd rfl ?_) | (refine ⟨h.ldc rfl, ?_⟩) | (refine ⟨h.ldd rfl, ?_⟩) | (refine h.stLc rfl rfl fun w h => ?_) | (refine exs ?_) | (refine _root_.Go.Vc.a2 ?_) | (refine h.stc rfl rfl fun w h => ?_) | (refine h.std rfl rfl fun w h => ?_)))
  refine rplace_o (x := s) hT h.up3.up3.up3 fun w h => ?_
  cases hp : placeN T s with
  | some i =>
    rw [hp] at hK
    refine cdecT (by show (i : Int) ≥ 0; omega) ?_
    exact hK _ (Own.mk_ref (s := sl) (d := dd) h.sub)
  | none =>
    rw [hp] at hK
    refine cdecF (by decide) ?_
    have e : putT T T.length (s, 0) = T ++ [(s, 0)] := by unfold putT; simp
    (repeat (first | (refine h.al fun w h => ?_) | (refine h.dr fun w h => ?_) | (refine h.lc_2 rfl ?_) | (refine h.lc_6 rfl ?_) | (refine ⟨_, h.ldc rfl, ?_⟩) | (refine ⟨_, h.ldd rfl, ?_⟩) | (refine h.hd rfl ?_) | (refine ⟨h.ldc rfl, ?_⟩) | (refine ⟨h.ldd rfl, ?_⟩) | (refine h.stLc rfl rfl fun w h => ?_) | (refine exs ?_) | (refine _root_.Go.Vc.a2 ?_) | (refine h.stc rfl rfl fun w h => ?_) | (refine h.std rfl rfl fun w h => ?_)))
    rw [hlen]
    refine rput_o (z := (s, 0)) hl (Nat.le_refl _) h fun w h => ?_
    rw [e] at h
    exact hK _ h.sub
theorem rAdd_spec {p s : Slot} {K : Int → World → Prop} (hT : TOk T) (hl : T.length < 1000000) (h : Own B w0 w (RefA b T :: R)) (hK : ∀ w', Own B w0 w' (RefA b (addN T p s).2 :: R) → K (addN T p s).1 w') : C.ref07_Tree_Add (some ⟨b, 0, none⟩) p.1 p.2 s.1 s.2 K w := by
  apply S.ref07_Tree_Add_ok
  unfold S.ref07_Tree_Add
  obtain ⟨sl, dd, h⟩ := h.ref
  unfold addN at hK
  refine h.al fun w1 h => ?_
  generalize w.heap.size = c at h ⊢
  refine h.al fun w2 h => ?_
  generalize w1.heap.size = c1 at h ⊢
  (repeat (first | (refine h.al fun w h => ?_) | (refine h.dr fun w h => ?_) | (refine h.lc_2 rfl ?_) | (refine h.lc_6 rfl ?_) | (refine ⟨_, h.ldc rfl, ?_⟩) | (refine ⟨_, h.ldd rfl, ?_⟩) | (refine h.hd rfl ?_) | (refine ⟨h.ldc rfl, ?_⟩) | (refine ⟨h.ldd rfl, ?_⟩) | (refine h.stLc rfl rfl fun w h => ?_) | (refine exs ?_) | (refine _root_.Go.Vc.a2 ?_) | (refine h.stc rfl rfl fun w h => ?_) | (refine h.std rfl rfl fun w h => ?_)))
  refine rplace_o (R := BlkA c1 [.int .i64 s.1, .int .i64 s.2] :: BlkA c [.int .i64 p.1, .int .i64 p.2] :: R) (s := sl) (d := dd) (x := p) hT h.sub fun w h => ?_
  cases hp : placeN T p with
  | none =>
    rw [hp] at hK
    refine cdecT (by decide) ?_
    exact hK _ (Own.mk_ref (s := sl) (d := dd) h.sub)
  | some i =>
    obtain ⟨x, hx, hxp⟩ := place_some hp
    have hr := hT.rng hx
    have hi := (List.getElem?_eq_some_iff.1 hx).1
    rw [hp] at hK
    refine cdecF (by show ¬ (i : Int) < 0; omega) ?_
    (repeat (first | (refine h.al fun w h => ?_) | (refine h.dr fun w h => ?_) | (refine h.lc_2 rfl ?_) | (refine h.lc_6 rfl ?_) | (refine ⟨_, h.ldc rfl, ?_⟩) | (refine ⟨_, h.ldd rfl, ?_⟩) | (refine h.hd rfl ?_) | (refine ⟨h.ldc rfl, ?_⟩) | (refine ⟨h.ldd rfl, ?_⟩) | (refine h.stLc rfl rfl fun w h => ?_) | (refine exs ?_) | (refine _root_.Go.Vc.a2 ?_) | (refine h.stc rfl rfl fun w h => ?_) | (refine h.std rfl rfl fun w h => ?_)))
    refine rplace_o (x := s) hT h fun w h => ?_
    cases hs : placeN T s with
    | some j =>
      simp only [hs] at hK
      refine cdecT (by show (j : Int) ≥ 0; omega) ?_
      exact hK _ (Own.mk_ref (s := sl) (d := dd) h.sub)
    | none =>
      simp only [hs] at hK
      refine cdecF (by decide) ?_
      (repeat (first | (refine h.al fun w h => ?_) | (refine h.dr fun w h => ?_) | (refine h.lc_2 rfl ?_) | (refine h.lc_6 rfl ?_) | (refine ⟨_, h.ldc rfl, ?_⟩) | (refine ⟨_, h.ldd rfl, ?_⟩) | (refine h.hd rfl ?_) | (refine ⟨h.ldc rfl, ?_⟩) | (refine ⟨h.ldd rfl, ?_⟩) | (refine h.stLc rfl rfl fun w h => ?_) | (refine exs ?_) | (refine _root_.Go.Vc.a2 ?_) | (refine h.stc rfl rfl fun w h => ?_) | (refine h.std rfl rfl fun w h => ?_)))
      refine h.ixc (s := dd) rfl (dl7_get hx) fun a ha h0 hc => ⟨_, h0 _ rfl, ?_⟩
      rw [show IntKind.i64.wrap (x.2 + 1) = dOf T i + 1 from by rw [dOf_get hx, wr (by omega) (by omega)]]
      (repeat (first | (refine h.al fun w h => ?_) | (refine h.dr fun w h => ?_) | (refine h.lc_2 rfl ?_) | (refine h.lc_6 rfl ?_) | (refine ⟨_, h.ldc rfl, ?_⟩) | (refine ⟨_, h.ldd rfl, ?_⟩) | (refine h.hd rfl ?_) | (refine ⟨h.ldc rfl, ?_⟩) | (refine ⟨h.ldd rfl, ?_⟩) | (refine h.stLc rfl rfl fun w h => ?_) | (refine exs ?_) | (refine _root_.Go.Vc.a2 ?_) | (refine h.stc rfl rfl fun w h => ?_) | (refine h.std rfl rfl fun w h => ?_)))
      show C.ref07_Tree_put _ (IntKind.i64.wrap ((i : Int) + 1)) _ _ _ _ _
      rw [show IntKind.i64.wrap ((i : Int) + 1) = ((i + 1 : Nat) : Int) from by rw [wr (by omega) (by omega)]; omega]
      have e : putT T (i + 1) (s, dOf T i + 1) = T.take (i + 1) ++ [(s, dOf T i + 1)] ++ T.drop (i + 1) := by unfold putT; simp
      refine rput_o (z := (s, dOf T i + 1)) hl (by omega) h fun w h => ?_
      rw [e] at h
      exact hK _ h.sub
theorem rMove_spec {f t : Slot} {K : Int → World → Prop} (hT : TOk T) (h : Own B w0 w (RefA b T :: R)) (hK : ∀ w', Own B w0 w' (RefA b (moveN T f t).2 :: R) → K (moveN T f t).1 w') : C.ref07_Tree_Move (some ⟨b, 0, none⟩) f.1 f.2 t.1 t.2 K w := by
  apply S.ref07_Tree_Move_ok
  unfold S.ref07_Tree_Move
  obtain ⟨sl, dd, h⟩ := h.ref
  unfold moveN at hK
  refine h.al fun w1 h => ?_
  generalize w.heap.size = c at h ⊢
  refine h.al fun w2 h => ?_
  generalize w1.heap.size = c1 at h ⊢
  (repeat (first | (refine h.al fun w h => ?_) | (refine h.dr fun w h => ?_) | (refine h.lc_2 rfl ?_) | (refine h.lc_6 rfl ?_) | (refine ⟨_, h.ldc rfl, ?_⟩) | (refine ⟨_, h.ldd rfl, ?_⟩) | (refine h.hd rfl ?_) | (refine ⟨h.ldc rfl, ?_⟩) | (refine ⟨h.ldd rfl, ?_⟩) | (refine h.stLc rfl rfl fun w h => ?_) | (refine exs ?_) | (refine _root_.Go.Vc.a2 ?_) | (refine h.stc rfl rfl fun w h => ?_) | (refine h.std rfl rfl fun w h => ?_)))
  refine rplace_o (R := BlkA c1 [.int .i64 t.1, .int .i64 t.2] :: BlkA c [.int .i64 f.1, .int .i64 f.2] :: R) (s := sl) (d := dd) (x := f) hT h.sub fun w h => ?_
  cases hp : placeN T f with
  | none =>
    rw [hp] at hK
    refine cdecT (by decide) ?_
    exact hK _ (Own.mk_ref (s := sl) (d := dd) h.sub)
  | some i =>
    obtain ⟨x, hx, hxp⟩ := place_some hp
    have hi := (List.getElem?_eq_some_iff.1 hx).1
    rw [hp] at hK
    refine cdecF (by show ¬ (i : Int) < 0; omega) ?_
    (repeat (first | (refine h.al fun w h => ?_) | (refine h.dr fun w h => ?_) | (refine h.lc_2 rfl ?_) | (refine h.lc_6 rfl ?_) | (refine ⟨_, h.ldc rfl, ?_⟩) | (refine ⟨_, h.ldd rfl, ?_⟩) | (refine h.hd rfl ?_) | (refine ⟨h.ldc rfl, ?_⟩) | (refine ⟨h.ldd rfl, ?_⟩) | (refine h.stLc rfl rfl fun w h => ?_) | (refine exs ?_) | (refine _root_.Go.Vc.a2 ?_) | (refine h.stc rfl rfl fun w h => ?_) | (refine h.std rfl rfl fun w h => ?_)))
    refine rplace_o (x := t) hT h fun w h => ?_
    cases hs : placeN T t with
    | some j =>
      simp only [hs] at hK
      refine cdecT (by show (j : Int) ≥ 0; omega) ?_
      exact hK _ (Own.mk_ref (s := sl) (d := dd) h.sub)
    | none =>
      simp only [hs] at hK
      refine cdecF (by decide) ?_
      (repeat (first | (refine h.al fun w h => ?_) | (refine h.dr fun w h => ?_) | (refine h.lc_2 rfl ?_) | (refine h.lc_6 rfl ?_) | (refine ⟨_, h.ldc rfl, ?_⟩) | (refine ⟨_, h.ldd rfl, ?_⟩) | (refine h.hd rfl ?_) | (refine ⟨h.ldc rfl, ?_⟩) | (refine ⟨h.ldd rfl, ?_⟩) | (refine h.stLc rfl rfl fun w h => ?_) | (refine exs ?_) | (refine _root_.Go.Vc.a2 ?_) | (refine h.stc rfl rfl fun w h => ?_) | (refine h.std rfl rfl fun w h => ?_)))
      refine h.ixc (s := sl) (j := i) rfl (sl7_get hx) fun a ha h0 hc => Go.Vc.a2 ?_
      refine Own.stELc (s := sl) (E := slotE) (xs := sl7 T) (i := (i : Int)) (j := i) h t rfl (by rw [sl7_len]; exact hi) ha fun w h => ?_
      have e1 : (sl7 T).set i t = sl7 (T.set i (t, dOf T i)) := by unfold sl7; rw [List.map_set]
      have e2 : dl7 T = dl7 (T.set i (t, dOf T i)) := by
        apply List.ext_getElem?
        intro j
        unfold dl7
        rw [List.getElem?_map, List.getElem?_map, List.getElem?_set]
        by_cases e : i = j
        · subst e; rw [if_pos rfl, if_pos hi, hx, dOf_get hx]; rfl
        · rw [if_neg e]
      rw [e1, e2] at h
      exact hK _ (Own.mk_ref (s := sl) (d := dd) h.sub)
end
end Go.Proofs.Ytmfbhjfkagnahaa
