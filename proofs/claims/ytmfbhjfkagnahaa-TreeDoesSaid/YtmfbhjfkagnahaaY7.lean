/- A tree of slots, told plainly, more: one taken out; what is told of it. -/
import Derived.Test.YtmfbhjfkagnahaaX7
import Derived.Test.YtmfbhjfkagnahaaU7
import Derived.Test.YtmfbhjfkagnahaaS2
set_option linter.unusedVariables false
set_option linter.unusedSimpArgs false
set_option maxRecDepth 8000
namespace Go.Proofs.Ytmfbhjfkagnahaa
open Go Go.Vc Go.Proofs

theorem flat_part {α : Type} (E : EncT α) (xs : List α) (p q : Nat) (hp : p ≤ q) (hq : q ≤ xs.length) : ((xs.flatMap E.enc).take (q * E.z)).drop (p * E.z) = ((xs.drop p).take (q - p)).flatMap E.enc := by
  have h1 : xs.flatMap E.enc = (xs.take q).flatMap E.enc ++ (xs.drop q).flatMap E.enc := by rw [← List.flatMap_append, List.take_append_drop]
  have h2 : ((xs.take q).flatMap E.enc).length = q * E.z := by rw [flat_len, List.length_take, Nat.min_eq_left hq]
  rw [h1, ← h2, List.take_left]
  have h3 : xs.take q = xs.take p ++ (xs.drop p).take (q - p) := by
    rw [← List.take_add, show p + (q - p) = q from by omega]
  have h4 : ((xs.take p).flatMap E.enc).length = p * E.z := by rw [flat_len, List.length_take, Nat.min_eq_left (by omega)]
  rw [h3, List.flatMap_append, ← h4, List.drop_left]
/-- The one above, told plainly: the last before it that is one less deep. -/
def bestP (T : Tr) (i : Nat) : Nat → Int
  | 0 => -1
  | k + 1 => if dOf T k = dOf T i - 1 then (k : Int) else bestP T i k
theorem best_none {T : Tr} {i : Nat} : ∀ k, (∀ r, r < k → dOf T i ≤ dOf T r) → bestP T i k = -1
  | 0, _ => rfl
  | k + 1, h => by
    unfold bestP
    rw [if_neg (by have := h k (by omega); omega)]
    exact best_none k fun r hr => h r (by omega)
theorem best_near {T : Tr} (hT : TOk T) {i q : Nat} (hi : i < T.length) (hn : Near T i q) : ∀ k, q < k → k ≤ i → bestP T i k = (q : Int)
  | 0, h, _ => by omega
  | k + 1, h, hk => by
    obtain ⟨n1, n2, n3⟩ := hn
    unfold bestP
    by_cases e : k = q
    · subst e
      rw [if_pos]
      have h1 := hT.step (i := k) (by omega)
      by_cases e2 : k + 1 = i
      · rw [e2] at h1; omega
      · have := n3 (k + 1) (by omega) (by omega); omega
    · rw [if_neg (by have := n3 k (by omega) (by omega); omega)]
      exact best_near hT hi ⟨n1, n2, n3⟩ k (by omega) (by omega)

section
variable {B : Nat} {w0 w : World} {R L : List Asn} {b : Nat} {T : Tr}
theorem rParent_spec {s : Slot} {K : Int → Int → Bool → World → Prop} (hT : TOk T) (h : Own B w0 w (RefA b T :: R)) (hK : ∀ w', Own B w0 w' (RefA b T :: R) → K ((parentN T s).getD (0, 0)).1 ((parentN T s).getD (0, 0)).2 (parentN T s).isSome w') :
    C.ref07_Tree_Parent (some ⟨b, 0, none⟩) s.1 s.2 K w := by
  apply S.ref07_Tree_Parent_ok
  unfold S.ref07_Tree_Parent
  obtain ⟨sl, dd, h⟩ := h.ref
  have hlen := h.lenc sl
  rw [sl7_len] at hlen
  have hfew := hT.few
  refine h.al fun w1 h => ?_
  generalize w.heap.size = c at h ⊢
  refine h.al fun w2 h => ?_
  generalize w1.heap.size = c1 at h ⊢
  (repeat (first | (refine h.al fun w h => ?_) | (refine h.dr fun w h => ?_) | (refine h.lc_2 rfl ?_) | (refine h.lc_6 rfl ?_) | (refine ⟨_, h.ldc rfl, ?_⟩) | (refine ⟨_, h.ldd rfl, ?_⟩) | (refine h.hd rfl ?_) | (refine ⟨h.ldc rfl, ?_⟩) | (refine ⟨h.ldd rfl, ?_⟩) | (refine h.stLc rfl rfl fun w h => ?_) | (refine exs ?_) | (refine _root_.Go.Vc.a2 ?_) | (refine h.stc rfl rfl fun w h => ?_) | (refine h.std rfl rfl fun w h => ?_)))
  refine rplace_o (R := BlkA c1 [.int .i64 0, .int .i64 0] :: BlkA c [.int .i64 s.1, .int .i64 s.2] :: R) (s := sl) (d := dd) (x := s) hT h.sub fun w h => ?_
  cases hp : placeN T s with
  | none =>
    have hpn : parentN T s = none := by unfold parentN; rw [hp]
    rw [hpn] at hK
    intro l hl
    apply hl
    refine cdecF (by show ¬ (0 : Int) < -1; omega) (cdecT (by omega) ?_)
    (repeat (first | (refine h.al fun w h => ?_) | (refine h.dr fun w h => ?_) | (refine h.lc_2 rfl ?_) | (refine h.lc_6 rfl ?_) | (refine ⟨_, h.ldc rfl, ?_⟩) | (refine ⟨_, h.ldd rfl, ?_⟩) | (refine h.hd rfl ?_) | (refine ⟨h.ldc rfl, ?_⟩) | (refine ⟨h.ldd rfl, ?_⟩) | (refine h.stLc rfl rfl fun w h => ?_) | (refine exs ?_) | (refine _root_.Go.Vc.a2 ?_) | (refine h.stc rfl rfl fun w h => ?_) | (refine h.std rfl rfl fun w h => ?_)))
    exact hK _ (Own.mk_ref (s := sl) (d := dd) h.sub)
  | some i =>
    obtain ⟨x, hx, hxp⟩ := place_some hp
    have hi := (List.getElem?_eq_some_iff.1 hx).1
    have hri := hT.rng hx
    intro l hl
    have loop : ∀ (m k : Nat) (w : World), k + m = i → Own B w0 w (SlT slotE sl (sl7 T) :: SlT intE dd (dl7 T) :: BlkA b [slV sl, slV dd] :: BlkA c1 [.int .i64 0, .int .i64 0] :: BlkA c [.int .i64 s.1, .int .i64 s.2] :: R) → l (bestP T i k) (k : Int) w := by
      intro m
      induction m with
      | zero =>
        intro k w hk h
        obtain rfl : k = i := by omega
        apply hl
        refine cdecF (by show ¬ (k : Int) < (k : Int); omega) ?_
        rw [← hxp] at hK
        rcases near_or hT hx with ⟨q, y, hn, hy, hpar⟩ | ⟨hn, hpar⟩
        · rw [best_near hT hi hn k hn.1 (Nat.le_refl _)]
          rw [hpar] at hK
          refine cdecF (by omega) ?_
          (repeat (first | (refine h.al fun w h => ?_) | (refine h.dr fun w h => ?_) | (refine h.lc_2 rfl ?_) | (refine h.lc_6 rfl ?_) | (refine ⟨_, h.ldc rfl, ?_⟩) | (refine ⟨_, h.ldd rfl, ?_⟩) | (refine h.hd rfl ?_) | (refine ⟨h.ldc rfl, ?_⟩) | (refine ⟨h.ldd rfl, ?_⟩) | (refine h.stLc rfl rfl fun w h => ?_) | (refine exs ?_) | (refine _root_.Go.Vc.a2 ?_) | (refine h.stc rfl rfl fun w h => ?_) | (refine h.std rfl rfl fun w h => ?_)))
          refine h.ixc (s := sl) rfl (sl7_get hy) fun a ha h0 hc => ?_
          refine ldSlot (x := y.1) hc ?_
          (repeat (first | (refine h.al fun w h => ?_) | (refine h.dr fun w h => ?_) | (refine h.lc_2 rfl ?_) | (refine h.lc_6 rfl ?_) | (refine ⟨_, h.ldc rfl, ?_⟩) | (refine ⟨_, h.ldd rfl, ?_⟩) | (refine h.hd rfl ?_) | (refine ⟨h.ldc rfl, ?_⟩) | (refine ⟨h.ldd rfl, ?_⟩) | (refine h.stLc rfl rfl fun w h => ?_) | (refine exs ?_) | (refine _root_.Go.Vc.a2 ?_) | (refine h.stc rfl rfl fun w h => ?_) | (refine h.std rfl rfl fun w h => ?_)))
          exact hK _ (Own.mk_ref (s := sl) (d := dd) h.sub)
        · rw [best_none k hn]
          rw [hpar] at hK
          refine cdecT (by omega) ?_
          (repeat (first | (refine h.al fun w h => ?_) | (refine h.dr fun w h => ?_) | (refine h.lc_2 rfl ?_) | (refine h.lc_6 rfl ?_) | (refine ⟨_, h.ldc rfl, ?_⟩) | (refine ⟨_, h.ldd rfl, ?_⟩) | (refine h.hd rfl ?_) | (refine ⟨h.ldc rfl, ?_⟩) | (refine ⟨h.ldd rfl, ?_⟩) | (refine h.stLc rfl rfl fun w h => ?_) | (refine exs ?_) | (refine _root_.Go.Vc.a2 ?_) | (refine h.stc rfl rfl fun w h => ?_) | (refine h.std rfl rfl fun w h => ?_)))
          exact hK _ (Own.mk_ref (s := sl) (d := dd) h.sub)
      | succ m ih =>
        intro k w hk h
        obtain ⟨y, hy⟩ : ∃ y, T[k]? = some y := ⟨_, List.getElem?_eq_getElem (by omega)⟩
        have hwk : IntKind.i64.wrap ((k : Int) + 1) = ((k + 1 : Nat) : Int) := by rw [wr (by omega) (by omega)]; omega
        have hnx := ih (k + 1)
        unfold bestP at hnx
        apply hl
        refine cdecT (by show (k : Int) < (i : Int); omega) ?_
        (repeat (first | (refine h.al fun w h => ?_) | (refine h.dr fun w h => ?_) | (refine h.lc_2 rfl ?_) | (refine h.lc_6 rfl ?_) | (refine ⟨_, h.ldc rfl, ?_⟩) | (refine ⟨_, h.ldd rfl, ?_⟩) | (refine h.hd rfl ?_) | (refine ⟨h.ldc rfl, ?_⟩) | (refine ⟨h.ldd rfl, ?_⟩) | (refine h.stLc rfl rfl fun w h => ?_) | (refine exs ?_) | (refine _root_.Go.Vc.a2 ?_) | (refine h.stc rfl rfl fun w h => ?_) | (refine h.std rfl rfl fun w h => ?_)))
        refine h.ixc (s := dd) rfl (dl7_get hy) fun a ha h0 hc => ⟨_, h0 _ rfl, ?_⟩
        (repeat (first | (refine h.al fun w h => ?_) | (refine h.dr fun w h => ?_) | (refine h.lc_2 rfl ?_) | (refine h.lc_6 rfl ?_) | (refine ⟨_, h.ldc rfl, ?_⟩) | (refine ⟨_, h.ldd rfl, ?_⟩) | (refine h.hd rfl ?_) | (refine ⟨h.ldc rfl, ?_⟩) | (refine ⟨h.ldd rfl, ?_⟩) | (refine h.stLc rfl rfl fun w h => ?_) | (refine exs ?_) | (refine _root_.Go.Vc.a2 ?_) | (refine h.stc rfl rfl fun w h => ?_) | (refine h.std rfl rfl fun w h => ?_)))
        show ∃ a, dd.a = some a ∧ 0 ≤ (i : Int) ∧ (i : Int) < _ ∧ _
        refine h.ixc (s := dd) (i := (i : Int)) (j := i) rfl (dl7_get hx) fun a ha h0 hc => ⟨_, h0 _ rfl, ?_⟩
        rw [wr (show -9223372036854775808 ≤ x.2 - 1 by omega) (by omega), hwk]
        rw [dOf_get hx, dOf_get hy] at hnx
        refine ceq (fun e => ?_) (fun e => ?_)
        · rw [if_pos e] at hnx
          exact hnx _ (by omega) h
        · rw [if_neg e] at hnx
          exact hnx _ (by omega) h
    exact loop i 0 w (by omega) h
theorem rTake_spec {s : Slot} {K : Int → World → Prop} (hT : TOk T) (h : Own B w0 w (RefA b T :: R)) (hK : ∀ w', Own B w0 w' (RefA b (takeN T s).2 :: R) → K (takeN T s).1 w') : C.ref07_Tree_Take (some ⟨b, 0, none⟩) s.1 s.2 K w := by
  apply S.ref07_Tree_Take_ok
  unfold S.ref07_Tree_Take
  obtain ⟨sl, dd, h⟩ := h.ref
  have hlen := h.lenc sl
  rw [sl7_len] at hlen
  have hfew := hT.few
  refine h.al fun w1 h => ?_
  generalize w.heap.size = c at h ⊢
  (repeat (first | (refine h.al fun w h => ?_) | (refine h.dr fun w h => ?_) | (refine h.lc_2 rfl ?_) | (refine h.lc_6 rfl ?_) | (refine ⟨_, h.ldc rfl, ?_⟩) | (refine ⟨_, h.ldd rfl, ?_⟩) | (refine h.hd rfl ?_) | (refine ⟨h.ldc rfl, ?_⟩) | (refine ⟨h.ldd rfl, ?_⟩) | (refine h.stLc rfl rfl fun w h => ?_) | (refine exs ?_) | (refine _root_.Go.Vc.a2 ?_) | (refine h.stc rfl rfl fun w h => ?_) | (refine h.std rfl rfl fun w h => ?_)))
  refine rplace_o (R := BlkA c [.int .i64 s.1, .int .i64 s.2] :: R) (s := sl) (d := dd) (x := s) hT h.sub fun w h => ?_
  unfold takeN at hK
  cases hp : placeN T s with
  | none =>
    rw [hp] at hK
    refine cdecT (by decide) ?_
    exact hK _ (Own.mk_ref (s := sl) (d := dd) h.sub)
  | some i =>
    obtain ⟨x, hx, hxp⟩ := place_some hp
    have hi := (List.getElem?_eq_some_iff.1 hx).1
    obtain ⟨he, hel⟩ := end_le T hi
    rw [hp] at hK
    simp only at hK
    refine cdecF (by show ¬ (i : Int) < 0; omega) ?_
    refine rend_o hT hi h fun w h => ?_
    obtain ⟨g1, g2, g3⟩ := out_get hi he hel
    have hpl : (T.take i ++ (lift1 ((T.drop (i + 1)).take (endN T i - (i + 1))) ++ T.drop (endN T i))).length + 1 = T.length := by unfold lift1; simp; omega
    generalize endN T i = e at *
    generalize T.take i ++ (lift1 ((T.drop (i + 1)).take (e - (i + 1))) ++ T.drop e) = T' at *
    refine h.al fun w2 h => ?_
    generalize w.heap.size = c1 at h ⊢
    refine h.al fun w3 h => ?_
    generalize w2.heap.size = c2 at h ⊢
    have h : Own B w0 w3 (SlT intE ⟨some ⟨c2, 0, none⟩, 0, 0⟩ [] :: _) := h.empty
    have h : Own B w0 w3 (SlT slotE ⟨some ⟨c1, 0, none⟩, 0, 0⟩ [] :: _) := h.up1.empty
    intro l hlp
    have loop : ∀ (m k : Nat) (l1 d1 : Sl) (w : World), k + m = T.length → Own B w0 w (SlT slotE l1 (sl7 (T'.take (if k ≤ i then k else k - 1))) :: SlT intE d1 (dl7 (T'.take (if k ≤ i then k else k - 1))) :: SlT slotE sl (sl7 T) :: SlT intE dd (dl7 T) :: BlkA b [slV sl, slV dd] :: R) → l l1 d1 (k : Int) w := by
      intro m
      induction m with
      | zero =>
        intro k l1 d1 w hk h
        rw [if_neg (show ¬ k ≤ i by omega), List.take_of_length_le (by omega)] at h
        apply hlp
        (repeat (first | (refine h.al fun w h => ?_) | (refine h.dr fun w h => ?_) | (refine h.lc_2 rfl ?_) | (refine h.lc_6 rfl ?_) | (refine ⟨_, h.ldc rfl, ?_⟩) | (refine ⟨_, h.ldd rfl, ?_⟩) | (refine h.hd rfl ?_) | (refine ⟨h.ldc rfl, ?_⟩) | (refine ⟨h.ldd rfl, ?_⟩) | (refine h.stLc rfl rfl fun w h => ?_) | (refine exs ?_) | (refine _root_.Go.Vc.a2 ?_) | (refine h.stc rfl rfl fun w h => ?_) | (refine h.std rfl rfl fun w h => ?_)))
        refine cdecF (by omega) ?_
        (repeat (first | (refine h.al fun w h => ?_) | (refine h.dr fun w h => ?_) | (refine h.lc_2 rfl ?_) | (refine h.lc_6 rfl ?_) | (refine ⟨_, h.ldc rfl, ?_⟩) | (refine ⟨_, h.ldd rfl, ?_⟩) | (refine h.hd rfl ?_) | (refine ⟨h.ldc rfl, ?_⟩) | (refine ⟨h.ldd rfl, ?_⟩) | (refine h.stLc rfl rfl fun w h => ?_) | (refine exs ?_) | (refine _root_.Go.Vc.a2 ?_) | (refine h.stc rfl rfl fun w h => ?_) | (refine h.std rfl rfl fun w h => ?_)))
        (dsimp only [putAt, List.set_cons_zero, List.set_cons_succ] at h)
        exact hK _ (Own.mk_ref (s := l1) (d := d1) h.sub)
      | succ m ih =>
        intro k l1 d1 w hk h
        have hwk : IntKind.i64.wrap ((k : Int) + 1) = ((k + 1 : Nat) : Int) := by rw [wr (by omega) (by omega)]; omega
        obtain ⟨y, hy⟩ : ∃ y, T[k]? = some y := ⟨_, List.getElem?_eq_getElem (by omega)⟩
        have hry := hT.rng hy
        apply hlp
        (repeat (first | (refine h.al fun w h => ?_) | (refine h.dr fun w h => ?_) | (refine h.lc_2 rfl ?_) | (refine h.lc_6 rfl ?_) | (refine ⟨_, h.ldc rfl, ?_⟩) | (refine ⟨_, h.ldd rfl, ?_⟩) | (refine h.hd rfl ?_) | (refine ⟨h.ldc rfl, ?_⟩) | (refine ⟨h.ldd rfl, ?_⟩) | (refine h.stLc rfl rfl fun w h => ?_) | (refine exs ?_) | (refine _root_.Go.Vc.a2 ?_) | (refine h.stc rfl rfl fun w h => ?_) | (refine h.std rfl rfl fun w h => ?_)))
        refine cdecT (by omega) ?_
        refine ceq (fun e0 => ?_) (fun e0 => ?_)
        · have e0 : (k : Int) = (i : Int) := e0
          have e1 : (if k + 1 ≤ i then k + 1 else k + 1 - 1) = (if k ≤ i then k else k - 1) := by rw [if_neg (by omega), if_pos (by omega)]; omega
          rw [hwk]
          refine ih (k + 1) l1 d1 w (by omega) ?_
          rw [e1]; exact h
        · have e0 : ¬ (k : Int) = (i : Int) := e0
          have hnext : (if k + 1 ≤ i then k + 1 else k + 1 - 1) = (if k ≤ i then k else k - 1) + 1 := by split <;> split <;> omega
          have hib : (if k ≤ i then k else k - 1) ≤ 1000001 := by split <;> omega
          have hy' : T'[if k ≤ i then k else k - 1]? = some (y.1, if i < k ∧ k < e then y.2 - 1 else y.2) := by
            by_cases h1 : k < i
            · rw [if_pos (by omega), g1 k h1, hy, if_neg (by omega)]
            · rw [if_neg (by omega)]
              by_cases h2 : k < e
              · rw [g2 k (by omega) h2, hy, if_pos ⟨by omega, h2⟩]; rfl
              · rw [g3 k (by omega), hy, if_neg (by omega)]
          generalize hE2 : (if k ≤ i then k else k - 1) = e2 at *
          (repeat (first | (refine h.al fun w h => ?_) | (refine h.dr fun w h => ?_) | (refine h.lc_2 rfl ?_) | (refine h.lc_6 rfl ?_) | (refine ⟨_, h.ldc rfl, ?_⟩) | (refine ⟨_, h.ldd rfl, ?_⟩) | (refine h.hd rfl ?_) | (refine ⟨h.ldc rfl, ?_⟩) | (refine ⟨h.ldd rfl, ?_⟩) | (refine h.stLc rfl rfl fun w h => ?_) | (refine exs ?_) | (refine _root_.Go.Vc.a2 ?_) | (refine h.stc rfl rfl fun w h => ?_) | (refine h.std rfl rfl fun w h => ?_)))
          refine h.ixc (s := dd) rfl (dl7_get hy) fun a ha h0 hc => ⟨_, h0 _ rfl, ?_⟩
          have fin : ∀ (dp : Int) (w : World), dp = (if i < k ∧ k < e then y.2 - 1 else y.2) → Own B w0 w (SlT slotE l1 (sl7 (T'.take e2)) :: SlT intE d1 (dl7 (T'.take e2)) :: SlT slotE sl (sl7 T) :: SlT intE dd (dl7 T) :: BlkA b [slV sl, slV dd] :: R) → True := fun _ _ _ _ => trivial
          intro k24 hk24
          have third : ∀ (t : Bool) (w : World), t = decide (i < k ∧ k < e) → Own B w0 w (SlT slotE l1 (sl7 (T'.take e2)) :: SlT intE d1 (dl7 (T'.take e2)) :: SlT slotE sl (sl7 T) :: SlT intE dd (dl7 T) :: BlkA b [slV sl, slV dd] :: R) → k24 t w := by
            intro t w ht h
            apply hk24
            intro k27 hk27
            have four : ∀ (dp : Int) (w : World), dp = (if i < k ∧ k < e then y.2 - 1 else y.2) → Own B w0 w (SlT slotE l1 (sl7 (T'.take e2)) :: SlT intE d1 (dl7 (T'.take e2)) :: SlT slotE sl (sl7 T) :: SlT intE dd (dl7 T) :: BlkA b [slV sl, slV dd] :: R) → k27 dp w := by
              intro dp w hdp h
              apply hk27
              (repeat (first | (refine h.al fun w h => ?_) | (refine h.dr fun w h => ?_) | (refine h.lc_2 rfl ?_) | (refine h.lc_6 rfl ?_) | (refine ⟨_, h.ldc rfl, ?_⟩) | (refine ⟨_, h.ldd rfl, ?_⟩) | (refine h.hd rfl ?_) | (refine ⟨h.ldc rfl, ?_⟩) | (refine ⟨h.ldd rfl, ?_⟩) | (refine h.stLc rfl rfl fun w h => ?_) | (refine exs ?_) | (refine _root_.Go.Vc.a2 ?_) | (refine h.stc rfl rfl fun w h => ?_) | (refine h.std rfl rfl fun w h => ?_)))
              refine h.ixc (s := sl) rfl (sl7_get hy) fun a ha h0 hc => ?_
              refine ldSlot (x := y.1) hc ?_
              refine h.al fun w1 h => ?_
              refine app1_slot (ys := sl7 (T'.take e2)) (y := y.1) h (by rw [sl7_len]; simp; omega) fun l3 w hl3 h => ?_
              refine h.al fun w1 h => ?_
              refine app1_int (ys := dl7 (T'.take e2)) (y := dp) h (by rw [dl7_len]; simp; omega) fun d3 w hd3 h => ?_
              have q1 := sl7_take hy'
              have q2 := dl7_take hy'
              simp only at q1 q2
              rw [q1, hdp, q2, ← hnext] at h
              rw [hwk]
              exact ih (k + 1) l3 d3 w (by omega) h.sub
            by_cases hc : i < k ∧ k < e
            · rw [ht, decide_eq_true hc]
              refine cbT rfl ?_
              rw [wr (show -9223372036854775808 ≤ y.2 - 1 by omega) (by omega)]
              exact four _ w (by rw [if_pos hc]) h
            · rw [ht, decide_eq_false hc]
              refine cbF rfl ?_
              exact four _ w (by rw [if_neg hc]) h
          refine cdec (fun e3 => ?_) (fun e3 => ?_)
          · have e3 : (k : Int) > (i : Int) := e3
            refine third _ w ?_ h
            by_cases hke : k < e
            · rw [decide_eq_true (show i < k ∧ k < e by omega), decide_eq_true (show (k : Int) < (e : Int) by omega)]
            · rw [decide_eq_false (show ¬ (i < k ∧ k < e) by omega), decide_eq_false (show ¬ (k : Int) < (e : Int) by omega)]
          · have e3 : ¬ (k : Int) > (i : Int) := e3
            exact third _ w (decide_eq_false (show ¬ (i < k ∧ k < e) by omega)).symm h
    refine loop T.length 0 _ _ w3 (by omega) ?_
    have q0 : sl7 (T'.take 0) = [] := rfl
    have q1 : dl7 (T'.take 0) = [] := rfl
    rw [if_pos (by omega), q0, q1]
    exact h.sub
theorem app_o {s x : Sl} {xs ys : List Slot} {k : Sl → World → Prop} (h : Own B w0 w (SlT slotE s xs :: R)) (hx : SlO slotE.z w x (ys.flatMap slotE.enc)) (hxl : x.len = ys.length) (hbig : xs.length + ys.length ≤ 1000000000)
   (hk : ∀ s' w', s'.len = xs.length + ys.length → Own B w0 w' (SlT slotE s' (xs ++ ys) :: R) → k s' w') :
   ∃ s' w', AppR Try.prog [25, 25] 25 (.slice s.a s.len s.cap) (.slice x.a x.len x.cap) w s' w' ∧ k s' w' :=
  Own.app (E := slotE) Try.underlying25 (show Try.prog.info? 29 = some Try.t29 from by kernel_rfl) (zv := .agg ⟨slotE.enc (0, 0)⟩) (by kernel_rfl) (by kernel_rfl) rfl (by decide) h 0 rfl hx hxl (by
    have e : Try.t29.bytes = 16 := by kernel_rfl
    rw [e]; omega) hk
theorem rUnder_spec {s : Slot} {K : Sl → World → Prop} (hT : TOk T) (h : Own B w0 w (RefA b T :: R)) (hK : ∀ s' w', Own B w0 w' (SlT slotE s' (underN T s) :: RefA b T :: R) → K s' w') : C.ref07_Tree_Under (some ⟨b, 0, none⟩) s.1 s.2 K w := by
  apply S.ref07_Tree_Under_ok
  unfold S.ref07_Tree_Under
  obtain ⟨sl, dd, h⟩ := h.ref
  have hlen := h.lenc sl
  rw [sl7_len] at hlen
  have hfew := hT.few
  have hcap := h.slRaw.le_cap
  refine h.al fun w1 h => ?_
  generalize w.heap.size = c at h ⊢
  (repeat (first | (refine h.al fun w h => ?_) | (refine h.dr fun w h => ?_) | (refine h.lc_2 rfl ?_) | (refine h.lc_6 rfl ?_) | (refine ⟨_, h.ldc rfl, ?_⟩) | (refine ⟨_, h.ldd rfl, ?_⟩) | (refine h.hd rfl ?_) | (refine ⟨h.ldc rfl, ?_⟩) | (refine ⟨h.ldd rfl, ?_⟩) | (refine h.stLc rfl rfl fun w h => ?_) | (refine exs ?_) | (refine _root_.Go.Vc.a2 ?_) | (refine h.stc rfl rfl fun w h => ?_) | (refine h.std rfl rfl fun w h => ?_)))
  refine rplace_o (R := BlkA c [.int .i64 s.1, .int .i64 s.2] :: R) (s := sl) (d := dd) (x := s) hT h.sub fun w h => ?_
  cases hp : placeN T s with
  | none =>
    have hun : underN T s = [] := by unfold underN; rw [hp]
    rw [hun] at hK
    refine cdecT (by decide) ?_
    have h2 : Own B w0 w (RefA b T :: R) := Own.mk_ref (s := sl) (d := dd) h.sub
    exact hK _ w (Own.nilS h2)
  | some i =>
    obtain ⟨x, hx, hxp⟩ := place_some hp
    have hi := (List.getElem?_eq_some_iff.1 hx).1
    obtain ⟨e1, e2⟩ := end_le T hi
    have hun : underN T s = ((sl7 T).drop (i + 1)).take (endN T i - (i + 1)) := by unfold underN sl7; rw [hp, ← List.map_drop, ← List.map_take]
    have hul : (underN T s).length = endN T i - (i + 1) := by rw [hun]; simp [sl7_len]; omega
    have ew : IntKind.i64.wrap ((i : Int) + 1) = ((i + 1 : Nat) : Int) := by rw [wr (by omega) (by omega)]; omega
    have fin : ∀ (w : World) (d0 : Nat), Own B w0 w (SlT slotE ⟨some ⟨d0, 0, none⟩, 0, 0⟩ [] :: SlT slotE sl (sl7 T) :: SlT intE dd (dl7 T) :: BlkA b [slV sl, slV dd] :: R) →
        ∃ (t : Sl) (w' : World), AppR Try.prog [25, 25] 25 (.slice (some (Addr.mk d0 0 none)) 0 0) (.slice (slA sl.a (i + 1) sl.cap 2) (endN T i - (i + 1)) (sl.cap - (i + 1))) w t w' ∧ K t w' := fun w d0 h => by
      have hs := (h.slO 1 rfl).sub (l := i + 1) (hh := endN T i) (by omega) (by omega)
      rw [flat_part slotE (sl7 T) _ _ (by omega) (by rw [sl7_len]; exact e2), ← hun] at hs
      refine app_o (s := ⟨some ⟨d0, 0, none⟩, 0, 0⟩) (xs := []) (ys := underN T s) (x := ⟨slA sl.a (i + 1) sl.cap 2, endN T i - (i + 1), sl.cap - (i + 1)⟩) h hs hul.symm (by simp; omega) fun s' w hs' h => ?_
      rw [List.nil_append] at h
      have h2 : Own B w0 w (RefA b T :: SlT slotE s' (underN T s) :: R) := Own.mk_ref (s := sl) (d := dd) h.sub
      exact hK _ _ h2.up1
    refine cdecF (by show ¬ (i : Int) < 0; omega) ?_
    dsimp only
    rw [ew]
    simp only [Int.toNat_natCast]
    have h : Own B w0 w (SlT slotE sl (sl7 T) :: SlT intE dd (dl7 T) :: BlkA b [slV sl, slV dd] :: R) := h.sub
    (repeat (first | (refine h.al fun w h => ?_) | (refine h.dr fun w h => ?_) | (refine h.lc_2 rfl ?_) | (refine h.lc_6 rfl ?_) | (refine ⟨_, h.ldc rfl, ?_⟩) | (refine ⟨_, h.ldd rfl, ?_⟩) | (refine h.hd rfl ?_) | (refine ⟨h.ldc rfl, ?_⟩) | (refine ⟨h.ldd rfl, ?_⟩) | (refine h.stLc rfl rfl fun w h => ?_) | (refine exs ?_) | (refine _root_.Go.Vc.a2 ?_) | (refine h.stc rfl rfl fun w h => ?_) | (refine h.std rfl rfl fun w h => ?_)))
    refine ⟨?_, Go.Vc.a2 ?_⟩
    · refine h.al fun w3 h => ?_
      generalize w.heap.size = d0 at h ⊢
      have h : Own B w0 w3 (SlT slotE ⟨some ⟨d0, 0, none⟩, 0, 0⟩ [] :: _) := h.empty
      refine Go.Vc.a2 ?_
      refine rend_o (R := SlT slotE ⟨some ⟨d0, 0, none⟩, 0, 0⟩ [] :: R) (s := sl) (d := dd) hT hi h.sub fun w h => ?_
      refine ⟨h.ldc rfl, by omega, by omega, by omega, by omega, Go.Vc.a2 ?_⟩
      exact fin w d0 h.sub
    · refine rend_o hT hi h fun w h => ?_
      refine ⟨h.ldc rfl, by omega, by omega, by omega, by omega, Go.Vc.a2 ?_⟩
      refine h.al fun w3 h => ?_
      generalize w.heap.size = d0 at h ⊢
      have h : Own B w0 w3 (SlT slotE ⟨some ⟨d0, 0, none⟩, 0, 0⟩ [] :: _) := h.empty
      refine Go.Vc.a2 ?_
      exact fin w3 d0 h
end
end Go.Proofs.Ytmfbhjfkagnahaa
