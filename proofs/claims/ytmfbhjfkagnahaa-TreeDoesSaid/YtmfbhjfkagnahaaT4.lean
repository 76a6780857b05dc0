/- A tree of slots, more: one taken out. -/
import Derived.Test.YtmfbhjfkagnahaaT3
import Derived.Test.YtmfbhjfkagnahaaS5
set_option linter.unusedVariables false
set_option linter.unusedSimpArgs false
set_option maxRecDepth 8000
namespace Go.Proofs.Ytmfbhjfkagnahaa
open Go Go.Vc Go.Proofs

/-- The first leaves under one, lifted. -/
def liftN (T : Tr) (i k : Nat) : Tr := T.take (i + 1) ++ (lift1 ((T.drop (i + 1)).take k) ++ T.drop (i + 1 + k))
theorem lift_len (T : Tr) (i k : Nat) : (liftN T i k).length = T.length := by unfold liftN lift1; simp; omega
theorem lift_get {T : Tr} {i k j : Nat} (hk : k ≤ j) : (liftN T i k)[i + 1 + j]? = T[i + 1 + j]? := by
  unfold liftN lift1
  by_cases hl : i + 1 + k ≤ T.length
  · have h1 : (T.take (i + 1)).length = i + 1 := by simp; omega
    have h2 : (((T.drop (i + 1)).take k).map fun x : Leaf => (x.1, x.2 - 1)).length = k := by simp; omega
    rw [List.getElem?_append_right (by omega), h1, List.getElem?_append_right (by omega), h2, List.getElem?_drop]
    congr 1; omega
  · rw [List.getElem?_eq_none (l := T) (by omega), List.getElem?_eq_none]
    simp; omega
theorem lift_step {T : Tr} {i k : Nat} {x : Leaf} (hx : T[i + 1 + k]? = some x) : (liftN T i k).set (i + 1 + k) (x.1, x.2 - 1) = liftN T i (k + 1) := by
  have hl := (List.getElem?_eq_some_iff.1 hx).1
  unfold liftN lift1
  have h1 : (T.take (i + 1)).length = i + 1 := by simp; omega
  have h2 : (((T.drop (i + 1)).take k).map fun x : Leaf => (x.1, x.2 - 1)).length = k := by simp; omega
  rw [List.set_append_right _ _ (by omega), h1, List.set_append_right _ _ (by omega), h2, show i + 1 + k - (i + 1) - k = 0 from by omega]
  have h3 : T.drop (i + 1 + k) = x :: T.drop (i + 1 + (k + 1)) := by
    rw [List.drop_eq_getElem_cons hl]
    rw [List.getElem?_eq_getElem hl] at hx; cases hx; rfl
  have h4 : (T.drop (i + 1)).take (k + 1) = (T.drop (i + 1)).take k ++ [x] := by
    rw [List.take_add_one, List.getElem?_drop, hx]; rfl
  rw [h3, h4, List.set_cons_zero, List.map_append, List.append_assoc]
  rfl
theorem lift_zero (T : Tr) (i : Nat) : liftN T i 0 = T := by unfold liftN lift1; simp
section
variable {B : Nat} {w0 w : World} {R L : List Asn} {b : Nat} {T : Tr}
theorem tree_Take_spec {s : Slot} {K : Int → World → Prop} (h : Own B w0 w (TreeA b T :: R)) (hK : ∀ w', Own B w0 w' (TreeA b (takeN T s).2 :: R) → K (takeN T s).1 w') : C.tree_Tree_Take (some ⟨b, 0, none⟩) s.1 s.2 K w := by
  apply S.tree_Tree_Take_ok
  unfold S.tree_Tree_Take
  obtain ⟨sl, hT, h⟩ := h.tree
  have hlen := h.lenc sl
  have hcap := h.slRaw.le_cap
  have hfew := hT.few
  unfold takeN at hK
  (repeat (first | (refine h.al fun w h => ?_) | (refine h.dr fun w h => ?_) | (refine h.lc_2 rfl ?_) | (refine h.lc_6 rfl ?_) | (refine ⟨_, h.ldc rfl, ?_⟩) | (refine ⟨_, h.ldd rfl, ?_⟩) | (refine h.hd rfl ?_) | (refine ⟨h.ldc rfl, ?_⟩) | (refine ⟨h.ldd rfl, ?_⟩) | (refine h.stLc rfl rfl fun w h => ?_) | (refine exs ?_) | (refine _root_.Go.Vc.a2 ?_) | (refine h.stc rfl rfl fun w h => ?_) | (refine h.std rfl rfl fun w h => ?_)))
  refine tree_place_o (x := s) hT h.up2.up2 fun w h => ?_
  cases hp : placeN T s with
  | none =>
    rw [hp] at hK
    refine cdecT (by decide) ?_
    exact hK _ (Own.mk_tree (s := sl) hT h.rm2)
  | some i =>
    obtain ⟨x, hx, hxp⟩ := place_some hp
    have hi := (List.getElem?_eq_some_iff.1 hx).1
    obtain ⟨e1, e2⟩ := end_le T hi
    rw [hp] at hK
    simp only at hK
    refine cdecF (by show ¬ (i : Int) < 0; omega) ?_
    have ew : IntKind.i64.wrap ((i : Int) + 1) = ((i + 1 : Nat) : Int) := by rw [wr (by omega) (by omega)]; omega
    generalize hm : endN T i - (i + 1) = m at *
    have fin : ∀ (l : Int → World → Prop), (∀ (t15 : Int) (w16 : World), (bif decide (t15 < (m : Int)) then
        (∃ a17 : Addr, Vc.slA sl.a (i + 1) sl.cap 3 = some a17 ∧ 0 ≤ t15 ∧ t15 < (m : Int) ∧ ∃ depth18 : Int, w16.cell? ((a17.add (t15.toNat * 3)).add 2) = some (.int .i64 depth18) ∧
          ∃ a19 : Addr, Vc.slA sl.a (i + 1) sl.cap 3 = some a19 ∧ 0 ≤ t15 ∧ t15 < (m : Int) ∧
          St w16 ((a19.add (t15.toNat * 3)).add 2) (.int .i64 (IntKind.i64.wrap (depth18 - (1 : Int)))) fun w20 => l (IntKind.i64.wrap (t15 + (1 : Int))) w20)
        else
        (∃ a21 : Addr, some (Addr.mk b 0 none) = some a21 ∧ ∃ l22 : Sl, w16.cell? a21 = some (.slice l22.a l22.len l22.cap) ∧
          C.slices_Delete_tree_leaf_tree_leaf l22 (i : Int) (((i + 1 : Nat) : Int)) (fun r23 w24 => ∃ a25 : Addr, some (Addr.mk b 0 none) = some a25 ∧ St w24 a25 (.slice r23.a r23.len r23.cap) fun w26 => K (0 : Int) w26) w16)) → l t15 w16) →
        ∀ w, Own B w0 w (SlT leafE sl T :: BlkA b [slV sl] :: R) → l 0 w := fun l hl w h => by
      have loop : ∀ (n k : Nat) (w : World), k + n = m → Own B w0 w (SlT leafE sl (liftN T i k) :: BlkA b [slV sl] :: R) → l (k : Int) w := by
        intro n
        induction n with
        | zero =>
          intro k w hk h
          obtain rfl : k = m := by omega
          apply hl
          refine cdecF (by omega) ?_
          (repeat (first | (refine h.al fun w h => ?_) | (refine h.dr fun w h => ?_) | (refine h.lc_2 rfl ?_) | (refine h.lc_6 rfl ?_) | (refine ⟨_, h.ldc rfl, ?_⟩) | (refine ⟨_, h.ldd rfl, ?_⟩) | (refine h.hd rfl ?_) | (refine ⟨h.ldc rfl, ?_⟩) | (refine ⟨h.ldd rfl, ?_⟩) | (refine h.stLc rfl rfl fun w h => ?_) | (refine exs ?_) | (refine _root_.Go.Vc.a2 ?_) | (refine h.stc rfl rfl fun w h => ?_) | (refine h.std rfl rfl fun w h => ?_)))
          refine Delete_leaf h (by omega) (by rw [lift_len]; omega) (by rw [lift_len]; omega) fun s' w h => ?_
          (repeat (first | (refine h.al fun w h => ?_) | (refine h.dr fun w h => ?_) | (refine h.lc_2 rfl ?_) | (refine h.lc_6 rfl ?_) | (refine ⟨_, h.ldc rfl, ?_⟩) | (refine ⟨_, h.ldd rfl, ?_⟩) | (refine h.hd rfl ?_) | (refine ⟨h.ldc rfl, ?_⟩) | (refine ⟨h.ldd rfl, ?_⟩) | (refine h.stLc rfl rfl fun w h => ?_) | (refine exs ?_) | (refine _root_.Go.Vc.a2 ?_) | (refine h.stc rfl rfl fun w h => ?_) | (refine h.std rfl rfl fun w h => ?_)))
          (dsimp only [putAt, List.set_cons_zero, List.set_cons_succ] at h)
          have hd : (liftN T i k).take i ++ (liftN T i k).drop (i + 1) = T.take i ++ (lift1 ((T.drop (i + 1)).take k) ++ T.drop (endN T i)) := by
            have h1 : (T.take (i + 1)).length = i + 1 := by simp; omega
            have h2 : (liftN T i k).take i = T.take i := by
              unfold liftN
              rw [List.take_append_of_le_length (by omega), List.take_take, Nat.min_eq_left (by omega)]
            have h3 : (liftN T i k).drop (i + 1) = lift1 ((T.drop (i + 1)).take k) ++ T.drop (i + 1 + k) := by
              unfold liftN
              rw [List.drop_left' h1]
            rw [h2, h3, show i + 1 + k = endN T i from by omega]
          rw [hd] at h
          have hok := hT.take hp
          rw [hm] at hok
          exact hK _ (Own.mk_tree (s := s') hok h)
        | succ n ih =>
          intro k w hk h
          obtain ⟨y, hy⟩ : ∃ y, T[i + 1 + k]? = some y := ⟨_, List.getElem?_eq_getElem (by omega)⟩
          have hy2 : (liftN T i k)[i + 1 + k]? = some y := by rw [lift_get (Nat.le_refl _)]; exact hy
          have hyr := hT.rng hy
          apply hl
          refine cdecT (by omega) ?_
          obtain ⟨a, a0, ha0, ha, he⟩ := h.partA (s := sl) (E := leafE) (xs := liftN T i k) (p := i + 1) (n := m) (t := k) (by rw [lift_len]; omega) (by omega)
          have he : a.add (k * 3) = a0.add (((i + 1 + k : Nat) : Int).toNat * 3) := by rw [Int.toNat_natCast]; exact he
          obtain ⟨_, hc⟩ := h.ixa (s := sl) (E := leafE) (i := ((i + 1 + k : Nat) : Int)) (j := i + 1 + k) rfl hy2 ha0
          have hc : w.cell? ((a0.add (((i + 1 + k : Nat) : Int).toNat * 3)).add 2) = some (.int .i64 y.2) := hc 2 _ rfl
          refine ⟨a, ha, by omega, by omega, y.2, ?_, a, ha, by omega, by omega, ?_⟩
          · rw [Int.toNat_natCast, he]; exact hc
          · rw [Int.toNat_natCast, he, wr (by omega) (by omega)]
            refine h.stFc (E := leafE) (x := y) (c := 2) (y.1, y.2 - 1) rfl hy2 ha0 rfl (by decide) rfl fun w h => ?_
            rw [lift_step hy] at h
            rw [show IntKind.i64.wrap ((k : Int) + 1) = ((k + 1 : Nat) : Int) from by rw [wr (by omega) (by omega)]; omega]
            exact ih (k + 1) w (by omega) h
      exact loop m 0 w (by omega) (by rw [lift_zero]; exact h)
    have h := h.rm2
    (repeat (first | (refine h.al fun w h => ?_) | (refine h.dr fun w h => ?_) | (refine h.lc_2 rfl ?_) | (refine h.lc_6 rfl ?_) | (refine ⟨_, h.ldc rfl, ?_⟩) | (refine ⟨_, h.ldd rfl, ?_⟩) | (refine h.hd rfl ?_) | (refine ⟨h.ldc rfl, ?_⟩) | (refine ⟨h.ldd rfl, ?_⟩) | (refine h.stLc rfl rfl fun w h => ?_) | (refine exs ?_) | (refine _root_.Go.Vc.a2 ?_) | (refine h.stc rfl rfl fun w h => ?_) | (refine h.std rfl rfl fun w h => ?_)))
    refine tree_end_o hT hi h fun w h => ?_
    (repeat (first | (refine h.al fun w h => ?_) | (refine h.dr fun w h => ?_) | (refine h.lc_2 rfl ?_) | (refine h.lc_6 rfl ?_) | (refine ⟨_, h.ldc rfl, ?_⟩) | (refine ⟨_, h.ldd rfl, ?_⟩) | (refine h.hd rfl ?_) | (refine ⟨h.ldc rfl, ?_⟩) | (refine ⟨h.ldd rfl, ?_⟩) | (refine h.stLc rfl rfl fun w h => ?_) | (refine exs ?_) | (refine _root_.Go.Vc.a2 ?_) | (refine h.stc rfl rfl fun w h => ?_) | (refine h.std rfl rfl fun w h => ?_)))
    dsimp only
    rw [ew]
    refine ⟨by omega, by omega, by omega, by simp only [Int.toNat_natCast]; omega, ?_⟩
    intro l hl
    subst hm
    exact fin l hl w h
end
end Go.Proofs.Ytmfbhjfkagnahaa
