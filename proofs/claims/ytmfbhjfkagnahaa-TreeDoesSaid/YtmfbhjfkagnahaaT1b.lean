/- Leaves of a tree, more: one put in between. -/
import Derived.Test.YtmfbhjfkagnahaaT1
import Derived.Test.YtmfbhjfkagnahaaS3
set_option linter.unusedVariables false
set_option linter.unusedSimpArgs false
set_option maxRecDepth 8000
namespace Go.Proofs.Ytmfbhjfkagnahaa
open Go Go.Vc Go.Proofs

theorem ins_list {α : Type} {xs : List α} {i : Nat} {y z : α} (hi : i < xs.length) :
    (((xs.take i ++ List.replicate (xs.length + 1 - i) z).take i ++ [y] ++ (xs.take i ++ List.replicate (xs.length + 1 - i) z).drop (i + [y].length)).take (i + 1) ++ xs.drop i ++ ((xs.take i ++ List.replicate (xs.length + 1 - i) z).take i ++ [y] ++ (xs.take i ++ List.replicate (xs.length + 1 - i) z).drop (i + [y].length)).drop (i + 1 + (xs.drop i).length)) = xs.take i ++ [y] ++ xs.drop i := by
  have h1 : (xs.take i).length = i := by simp; omega
  have h2 : (xs.take i ++ List.replicate (xs.length + 1 - i) z).take i = xs.take i := by rw [List.take_append_of_le_length (by omega), List.take_of_length_le (by omega)]
  have h3 : (xs.take i ++ [y] : List α).length = i + 1 := by simp; omega
  rw [h2]
  generalize hX : (xs.take i ++ List.replicate (xs.length + 1 - i) z).drop (i + [y].length) = X
  have hXl : X.length = xs.length - i := by rw [← hX]; simp; omega
  have h4 : (xs.take i ++ [y] ++ X).drop (i + 1 + (xs.drop i).length) = [] := List.drop_eq_nil_of_le (by rw [List.length_append, h3, hXl]; simp)
  rw [h4, List.append_nil, List.take_append_of_le_length (by omega), List.take_of_length_le (by omega)]
theorem ins_cells {α : Type} (E : EncT α) {xs : List α} {i : Nat} {y : α} (hi : i < xs.length) {junk : List Value} (hj : junk.length = 1 * E.z) :
    putAt (putAt (xs.flatMap E.enc ++ junk) ((i + 1) * E.z) ((xs.drop i).flatMap E.enc)) (i * E.z) (E.enc y) = (xs.take i ++ [y] ++ xs.drop i).flatMap E.enc := by
  have hF := flat_len E xs
  have hD : ((xs.drop i).flatMap E.enc).length = (xs.length - i) * E.z := by rw [flat_len, List.length_drop]
  have hT : ((xs.take i).flatMap E.enc).length = i * E.z := by rw [flat_len, List.length_take, Nat.min_eq_left (by omega)]
  have hsplit : xs.flatMap E.enc = (xs.take i).flatMap E.enc ++ (xs.drop i).flatMap E.enc := by rw [← List.flatMap_append, List.take_append_drop]
  have hEy := E.len y
  have e1 : xs.length * E.z = i * E.z + (xs.length - i) * E.z := by rw [← Nat.add_mul]; congr 1; omega
  have hl1 : (putAt (xs.flatMap E.enc ++ junk) ((i + 1) * E.z) ((xs.drop i).flatMap E.enc)).length = xs.length * E.z + E.z := by
    rw [putAt_len (by rw [List.length_append, hF, hj, hD, Nat.succ_mul]; omega), List.length_append, hF, hj]; omega
  rw [List.flatMap_append, List.flatMap_append, List.flatMap_cons, List.flatMap_nil, List.append_nil]
  generalize hA : (xs.take i).flatMap E.enc = A at *
  generalize hB : (xs.drop i).flatMap E.enc = D at *
  generalize E.enc y = Y at *
  rw [hsplit] at hl1 ⊢
  apply List.ext_getElem?
  intro t
  rw [putAt_get _ _ _ _ (by omega)]
  rw [putAt_get _ _ _ _ (by rw [List.length_append, List.length_append, hj, hD, hT, Nat.succ_mul]; omega)]
  rw [Nat.succ_mul]
  by_cases c1 : i * E.z ≤ t ∧ t < i * E.z + Y.length
  · rw [if_pos c1, List.append_assoc, List.getElem?_append_right (by omega), List.getElem?_append_left (by omega), hT]
  · rw [if_neg c1]
    by_cases c2 : i * E.z + E.z ≤ t ∧ t < i * E.z + E.z + D.length
    · rw [if_pos c2, List.getElem?_append_right (by rw [List.length_append]; omega), List.length_append, hT, hEy]
    · rw [if_neg c2]
      by_cases c3 : t < i * E.z
      · rw [List.append_assoc, List.getElem?_append_left (by omega), List.append_assoc, List.getElem?_append_left (by omega)]
      · rw [List.getElem?_eq_none (by rw [List.length_append, List.length_append]; omega), List.getElem?_eq_none (by rw [List.length_append, List.length_append]; omega)]

section
variable {B : Nat} {w0 w : World} {R L : List Asn} {s : Sl} {xs : List Leaf}
theorem Insert_leaf {i c : Nat} {y : Leaf} {K : Sl → World → Prop} (h : Own B w0 w (SlT leafE s xs :: BlkA c (leafE.enc y) :: R)) (hi : i ≤ xs.length) (hbig : xs.length ≤ 1000000000)
    (hK : ∀ s' w', Own B w0 w' (SlT leafE s' (xs.take i ++ [y] ++ xs.drop i) :: R) → K s' w') : C.slices_Insert_tree_leaf_tree_leaf s (i : Int) ⟨some ⟨c, 0, none⟩, 1, 1⟩ K w := by
  apply S.slices_Insert_tree_leaf_tree_leaf_ok
  unfold S.slices_Insert_tree_leaf_tree_leaf
  have hlen := h.lenc s
  have hcap := h.slRaw.le_cap
  refine ⟨by omega, by omega, ?_⟩
  refine cbF rfl ?_
  refine ceq (fun e => ?_) (fun e => ?_)
  · obtain rfl : i = xs.length := by omega
    refine app1_leaf h.up1 hbig fun s' w hs' h => ?_
    rw [List.take_length, List.drop_length, List.append_nil] at hK
    exact hK s' w h
  have hil : i < xs.length := by omega
  dsimp only
  have hspot := h.slRaw.spot
  have hdl : (xs.drop i).length = xs.length - i := by simp
  rw [show IntKind.i64.wrap ((s.len : Int) + ((1 : Nat) : Int)) = ((xs.length + 1 : Nat) : Int) from by rw [wr (by omega) (by omega)]; omega,
    show IntKind.i64.wrap ((i : Int) + ((1 : Nat) : Int)) = ((i + 1 : Nat) : Int) from by rw [wr (by omega) (by omega)]; omega]
  obtain ⟨b, o, ha, hcells⟩ := h.get 0 rfl (List.getElem?_eq_getElem hil)
  have hsrc : ∀ w, Own B w0 w (SlT leafE s xs :: BlkA c (leafE.enc y) :: R) → ∀ j v, ((xs.drop i).flatMap leafE.enc)[j]? = some v → w.cell? ((Addr.mk b (o + i * 3) none).add j) = some v := fun w h j v hv => by
    have hs := h.slRaw
    have hj : (xs.flatMap leafE.enc)[i * 3 + j]? = some v := by
      have e1 : xs.flatMap leafE.enc = (xs.take i).flatMap leafE.enc ++ (xs.drop i).flatMap leafE.enc := by rw [← List.flatMap_append, List.take_append_drop]
      have e2 : ((xs.take i).flatMap leafE.enc).length = i * 3 := by rw [flat_len]; show (xs.take i).length * 3 = _; simp; omega
      rw [e1, List.getElem?_append_right (by omega), e2, Nat.add_sub_cancel_left]; exact hv
    obtain ⟨b', o', ha', hc'⟩ := hs.cell hj
    rw [ha] at ha'
    simp only [Option.some.injEq, Addr.mk.injEq, and_true] at ha'
    rw [add_mk, ha'.1, ha'.2, Nat.add_assoc]; exact hc'
  have hsrcY : ∀ w L, Own B w0 w (BlkA c (leafE.enc y) :: L) → ∀ j v, (([y] : List Leaf).flatMap leafE.enc)[j]? = some v → w.cell? ((Addr.mk c 0 none).add j) = some v := fun w L h j v hv => by
    have : ([y] : List Leaf).flatMap leafE.enc = leafE.enc y := by simp
    rw [this] at hv
    rw [add_mk, Nat.zero_add, (h.blk 0 rfl).cell]; exact hv
  refine cdec (fun e2 => ?_) (fun e2 => ?_)
  · refine ⟨by omega, by omega, ?_⟩
    rw [show IntKind.i64.wrap (((xs.length + 1 : Nat) : Int) - (i : Int)) = ((xs.length + 1 - i : Nat) : Int) from by rw [wr (by omega) (by omega)]; omega, Int.toNat_natCast]
    refine Own.appZ (E := leafE) (z0 := zLeaf) (i := i) (m := xs.length + 1 - i) Try.underlying84 Try.underlying3 infoLeaf (zv := .agg ⟨leafE.enc zLeaf⟩) (by kernel_rfl) (by kernel_rfl) rfl (by decide) h (by omega) (by omega) (by omega) (by rw [bytesLeaf]; omega) fun t w ht htc h => ?_
    obtain ⟨b2, o2, ha2, _⟩ := h.get 0 rfl (List.getElem?_eq_getElem (show i < (xs.take i ++ List.replicate (xs.length + 1 - i) zLeaf).length by simp; omega))
    refine ⟨by omega, by omega, ?_⟩
    rw [slA_some (z := 3) ha2 (show t.cap ≠ i by omega)]
    refine Own.copyT (E := leafE) (p := i) (zs := [y]) Try.underlying84 infoLeaf (by kernel_rfl) h ha2 (by simp; omega) (by simp; omega) (hsrcY w _ h.up2) fun w h => ?_
    refine h.dr fun w h => ?_
    refine ⟨by omega, by omega, by omega, by omega, Go.Vc.a2 ?_⟩
    rw [Int.toNat_natCast, slA_some (z := 3) ha2 (show t.cap ≠ i + 1 by omega), slA_some (z := 3) ha (show s.cap ≠ i by omega)]
    refine Own.copyT (E := leafE) (p := i + 1) (zs := xs.drop i) Try.underlying84 infoLeaf (by kernel_rfl) h ha2 (by simp; omega) (by simp; omega) (hsrc w h.drop) fun w h => ?_
    rw [ins_list hil] at h
    exact hK _ w h.rm1.rm1
  · obtain ⟨junk, hj, h⟩ := h.grow (m := 1) (by omega) ha
    have h : Own B w0 w (SlA 3 ⟨s.a, xs.length + 1, s.cap⟩ (xs.flatMap leafE.enc ++ junk) :: BlkA c (leafE.enc y) :: R) := h
    have e0 : Vc.slA s.a 0 s.cap 3 = s.a := slA0 _ _ _ hspot
    have hF : (xs.flatMap leafE.enc).length = xs.length * 3 := flat_len leafE xs
    simp only [e0, Nat.sub_zero, Int.toNat_natCast]
    rw [slA_some (z := 3) ha (show s.cap ≠ i + 1 by omega), slA_some (z := 3) ha (show s.cap ≠ i by omega)]
    refine ⟨by omega, by omega, by omega, by omega, false, w, ?_, ?_⟩
    · exact h.up1.overlaps Try.func79 (by kernel_rfl) (by kernel_rfl) (by kernel_rfl) (tS := 84) (tR := 4) (by kernel_rfl) Try.underlying84 (size := 3) (fun w => by rw [run_size infoLeaf w]; rfl) ha (by
        intro hn
        have := congrArg List.length hn
        rw [List.length_append, hF, hj] at this
        simp at this; omega)
    refine cbT rfl ?_
    refine h.dr fun w h => ?_
    refine ⟨by omega, by omega, by omega, by omega, Go.Vc.a2 ?_⟩
    refine h.copyA (z := 3) (p := i + 1) (ds := (xs.drop i).flatMap leafE.enc) Try.underlying84 infoLeaf (by kernel_rfl) ha (by
      have := flat_len leafE (xs.drop i)
      have hz : leafE.z = 3 := rfl
      rw [this, hz, hdl]; congr 1; omega) (fun v hv => by
      obtain ⟨x, _, hx⟩ := List.mem_flatMap.1 hv
      exact leafE.one x v hx) (by rw [List.length_append, hF, hj]; show _ ≤ xs.length * 3 + 1 * 3; omega) (fun j v hv => by
      have hs : SlO 3 w ⟨s.a, xs.length + 1, s.cap⟩ (xs.flatMap leafE.enc ++ junk) := h.head fun _ h => h.2
      have hjj : (xs.flatMap leafE.enc ++ junk)[i * 3 + j]? = some v := by
        have e1 : xs.flatMap leafE.enc = (xs.take i).flatMap leafE.enc ++ (xs.drop i).flatMap leafE.enc := by rw [← List.flatMap_append, List.take_append_drop]
        have e2 : ((xs.take i).flatMap leafE.enc).length = i * 3 := by rw [flat_len]; show (xs.take i).length * 3 = _; simp; omega
        have hjl := (List.getElem?_eq_some_iff.1 hv).1
        rw [e1, List.append_assoc, List.getElem?_append_right (by omega), e2, Nat.add_sub_cancel_left, List.getElem?_append_left hjl]; exact hv
      obtain ⟨b', o', ha', hc'⟩ := hs.cell hjj
      have ha' : s.a = some ⟨b', o', none⟩ := ha'
      rw [ha] at ha'
      simp only [Option.some.injEq, Addr.mk.injEq, and_true] at ha'
      rw [add_mk, ha'.1, ha'.2, Nat.add_assoc]; exact hc') fun w h => ?_
    refine ⟨by omega, by omega, ?_⟩
    refine h.copyA (z := 3) (p := i) (ds := leafE.enc y) Try.underlying84 infoLeaf (by kernel_rfl) ha (by
      rw [leafE.len]; show 3 = _; rw [Nat.min_eq_left (by omega)]) (fun v hv => leafE.one y v hv) (by
      have hD : ((xs.drop i).flatMap leafE.enc).length = (xs.length - i) * 3 := by rw [← hdl]; exact flat_len leafE _
      rw [putAt_len (by rw [List.length_append, hF, hj, hD]; show _ ≤ xs.length * 3 + 1 * 3; omega), List.length_append, hF, hj]; show _ ≤ xs.length * 3 + 1 * 3; omega) (fun j v hv => by
      rw [add_mk, Nat.zero_add, (h.blk 1 rfl).cell]; exact hv) fun w h => ?_
    have h2 : Own B w0 w (SlT leafE ⟨s.a, xs.length + 1, s.cap⟩ (xs.take i ++ [y] ++ xs.drop i) :: BlkA c (leafE.enc y) :: R) := Own.ofA (by simp; omega) (ins_cells leafE hil hj) h
    exact hK _ w h2.rm1
end
end Go.Proofs.Ytmfbhjfkagnahaa
