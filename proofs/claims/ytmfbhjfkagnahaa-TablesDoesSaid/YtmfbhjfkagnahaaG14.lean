/- Tables of layer 14: calls whose answers the document fixes. -/
import Derived.Test.YtmfbhjfkagnahaaF14b
import Derived.Test.YtmfbhjfkagnahaaS1
import Derived.Test.YtmfbhjfkagnahaaS3
set_option linter.unusedVariables false
set_option linter.unusedSimpArgs false
set_option maxRecDepth 8000
namespace Go.Proofs.Ytmfbhjfkagnahaa
open Go Go.Vc Go.Proofs Go.Shelf

theorem pgX (p q : Pg) : eqX Try.prog 9 51 [.int .i64 p.1, .int .i64 p.2] [.int .i64 q.1, .int .i64 q.2] = some (decide (p = q)) := by
  have h : eqX Try.prog 9 51 [.int .i64 p.1, .int .i64 p.2] [.int .i64 q.1, .int .i64 q.2] = some (p.1 == q.1 && (p.2 == q.2 && true)) := by kernel_rfl
  rw [h]; congr 1; rw [Bool.eq_iff_iff]; simp [Prod.ext_iff]
theorem pgEq {x y : Operand} (p q : Pg) : EqB Try.prog .eql 51 x y (.agg #[.int .i64 p.1, .int .i64 p.2]) (.agg #[.int .i64 q.1, .int .i64 q.2]) (decide (p = q)) :=
  eqB_x (x := x) (y := y) (P := Try.prog) (t := 51) (xs := [.int .i64 p.1, .int .i64 p.2]) (ys := [.int .i64 q.1, .int .i64 q.2]) (by kernel_rfl) (by kernel_rfl) (by kernel_rfl) (pgX p q)
theorem pgNe {x y : Operand} (p q : Pg) : EqB Try.prog .neq 51 x y (.agg #[.int .i64 p.1, .int .i64 p.2]) (.agg #[.int .i64 q.1, .int .i64 q.2]) (!decide (p = q)) :=
  neB_x (x := x) (y := y) (P := Try.prog) (t := 51) (xs := [.int .i64 p.1, .int .i64 p.2]) (ys := [.int .i64 q.1, .int .i64 q.2]) (by kernel_rfl) (by kernel_rfl) (by kernel_rfl) (pgX p q)
theorem laidX (p q : Int × Pg) : eqX Try.prog 9 67 (laidE.enc p) (laidE.enc q) = some (decide (p = q)) := by
  have h : eqX Try.prog 9 67 (laidE.enc p) (laidE.enc q) = some (p.1 == q.1 && ((p.2.1 == q.2.1 && (p.2.2 == q.2.2 && true)) && true)) := by kernel_rfl
  rw [h]; congr 1; rw [Bool.eq_iff_iff]; simp [Prod.ext_iff]
theorem laidNe {x y : Operand} (p q : Int × Pg) : EqB Try.prog .neq 67 x y (.agg #[.int .i64 p.1, .int .i64 p.2.1, .int .i64 p.2.2]) (.agg #[.int .i64 q.1, .int .i64 q.2.1, .int .i64 q.2.2]) (!decide (p = q)) :=
  neB_x (x := x) (y := y) (P := Try.prog) (t := 67) (xs := laidE.enc p) (ys := laidE.enc q) (by kernel_rfl) (by kernel_rfl) (by kernel_rfl) (laidX p q)
section
variable {B : Nat} {w0 w : World} {R L : List Asn} {b : Nat} {m : Spc}
theorem ref09_Nums_spec {s1 s2 : Sl} {xs ys : List Int} {K : Bool → World → Prop} (h : Own B w0 w R) (i j : Nat) (hi : R[i]? = some (SlT intE s1 xs)) (hj : R[j]? = some (SlT intE s2 ys)) (hs : xs.length < 1000000000)
    (hK : ∀ w', Own B w0 w' R → K (decide (xs = ys)) w') : C.ref09_Nums s1 s2 K w := by
  apply S.ref09_Nums_ok
  unfold S.ref09_Nums
  have l1 := h.len i hi
  have l2 := h.len j hj
  refine cne (fun hl => ?_) (fun hl => ?_)
  · have := hK w h
    rw [decide_eq_false (by rintro rfl; exact hl (by omega))] at this
    exact this
  · intro l3 hl3
    have loop : ∀ (m k : Nat) (w : World), k + m = xs.length → xs.take k = ys.take k → Own B w0 w R → l3 (k : Int) w := by
      intro m
      induction m with
      | zero =>
        intro k w hk ht h
        apply hl3
        refine cdecF (by omega) ?_
        rw [List.take_of_length_le (by omega), List.take_of_length_le (by omega)] at ht
        have := hK w h
        rw [decide_eq_true ht] at this
        exact this
      | succ m ih =>
        intro k w hk ht h
        apply hl3
        refine cdecT (by omega) ?_
        refine h.dr fun w1 h => ?_
        have hx : xs[k]? = some xs[k] := List.getElem?_eq_getElem (by omega)
        have hy : ys[k]? = some ys[k] := List.getElem?_eq_getElem (by omega)
        obtain ⟨a, ha, hc⟩ := h.getI i hi hx
        obtain ⟨a', ha', hc'⟩ := h.getI j hj hy
        refine ⟨a, ha, by omega, by omega, _, hc, a', ha', by omega, by omega, _, hc', ?_⟩
        refine cne (fun e => ?_) (fun e => ?_)
        · have := hK w1 h
          rw [decide_eq_false (by rintro rfl; exact e rfl)] at this
          exact this
        · rw [wr (by omega) (by omega)]
          refine ih (k + 1) w1 (by omega) ?_ h
          rw [List.take_add_one, List.take_add_one, ht, hx, hy, e]
    exact loop xs.length 0 w (by omega) rfl h
theorem Same_spec {s1 s2 : Sl} {xs ys : Pgs} {K : Bool → World → Prop} (h : Own B w0 w R) (i j : Nat) (hi : R[i]? = some (SlT laidE s1 xs)) (hj : R[j]? = some (SlT laidE s2 ys)) (hs : xs.length < 1000000000)
    (hK : ∀ w', Own B w0 w' R → K (decide (xs = ys)) w') : C.ref14_Same s1 s2 K w := by
  apply S.ref14_Same_ok
  unfold S.ref14_Same
  have l1 := h.len i hi
  have l2 := h.len j hj
  refine cne (fun hl => ?_) (fun hl => ?_)
  · have := hK w h
    rw [decide_eq_false (by rintro rfl; exact hl (by omega))] at this
    exact this
  · intro l3 hl3
    have loop : ∀ (m k : Nat) (w : World), k + m = xs.length → xs.take k = ys.take k → Own B w0 w R → l3 (k : Int) w := by
      intro m
      induction m with
      | zero =>
        intro k w hk ht h
        apply hl3
        refine cdecF (by omega) ?_
        rw [List.take_of_length_le (by omega), List.take_of_length_le (by omega)] at ht
        have := hK w h
        rw [decide_eq_true ht] at this
        exact this
      | succ m ih =>
        intro k w hk ht h
        apply hl3
        refine cdecT (by omega) ?_
        refine h.dr fun w1 h => ?_
        have hx : xs[k]? = some xs[k] := List.getElem?_eq_getElem (by omega)
        have hy : ys[k]? = some ys[k] := List.getElem?_eq_getElem (by omega)
        obtain ⟨b1, o1, ha, hc⟩ := h.get i hi hx
        obtain ⟨b2, o2, ha', hc'⟩ := h.get j hj hy
        refine ⟨_, ha, by omega, by omega, ?_⟩
        refine ldLaid (x := xs[k]) (fun c v hv => by rw [Int.toNat_natCast, add_mk, add_mk, Nat.add_assoc]; exact hc c v hv) ?_
        refine ⟨_, ha', by omega, by omega, ?_⟩
        refine ldLaid (x := ys[k]) (fun c v hv => by rw [Int.toNat_natCast, add_mk, add_mk, Nat.add_assoc]; exact hc' c v hv) ?_
        refine ⟨_, laidNe xs[k] ys[k], ?_⟩
        by_cases e : xs[k] = ys[k]
        · rw [decide_eq_true e]
          refine cbF rfl ?_
          rw [wr (by omega) (by omega)]
          refine ih (k + 1) w1 (by omega) ?_ h
          rw [List.take_add_one, List.take_add_one, ht, hx, hy, e]
        · rw [decide_eq_false e]
          refine cbT rfl ?_
          have := hK w1 h
          rw [decide_eq_false (by rintro rfl; exact e rfl)] at this
          exact this
    exact loop xs.length 0 w (by omega) rfl h
def fi1 : Spc := ⟨upT newS.tb 0 (some 9), []⟩
def fi2 : Spc := ⟨fi1.tb, [(3, (5, 1))]⟩
def fi3 : Spc := ⟨fi1.tb, [(3, (5, 3))]⟩
def fi4 : Spc := ⟨upT fi1.tb 0 none, []⟩
theorem fx_1 : newS.mapR 3 (5, 1) = (141, newS) := by kernel_rfl
theorem fx_2 : newS.tableR 0 9 = (0, fi1) := by kernel_rfl
theorem fx_3 : fi1.mapR 3 (5, 1) = (0, fi2) := by kernel_rfl
theorem fx_4 : fi2.mapR 3 (5, 1) = (140, fi2) := by kernel_rfl
theorem fx_5 : fi2.tableR 1 9 = (140, fi2) := by kernel_rfl
theorem fx_6 : fi2.rightsR 3 3 = (0, fi3) := by kernel_rfl
theorem fx_7 : fi3.dropR 0 = ([(3, (5, 3))], 0, fi4) := by kernel_rfl
theorem fx_8 : fi4.unmapR 3 = ((0, 0), 141, fi4) := by kernel_rfl
theorem fx_9 : fi4.mapR 4096 (5, 1) = (1, fi4) := by kernel_rfl
theorem law14_fixed_spec {K : Bool → World → Prop} (h : Own B w0 w R) (hK : ∀ w', Own B w0 w' R → K true w') : C.law14_fixed K w := by
  apply S.law14_fixed_ok
  unfold S.law14_fixed
  refine New_spec h fun b w h => ?_
  refine cbF rfl ?_
  refine h.al fun w2 h => ?_
  generalize w.heap.size = d at h ⊢
  refine h.stLc rfl rfl fun w h => ?_
  (dsimp only [putAt, List.set_cons_zero, List.set_cons_succ] at h)
  refine h.lc_2 rfl ?_
  refine Map_spec (p := (5, 1)) (h.pick (A := SpcA b newS)) fun w h => ?_
  rw [fx_1] at h ⊢
  refine h.dr fun w h => ?_
  refine h.lc_2 rfl (Go.Vc.a2 ?_)
  refine Table_spec h fun w h => ?_
  rw [fx_2] at h ⊢
  refine h.hd rfl (Go.Vc.a2 ?_)
  refine Map_spec (p := (5, 1)) h fun w h => ?_
  rw [fx_3] at h ⊢
  refine Walk_spec h fun w h => ?_
  refine h.al fun w2 h => ?_
  generalize w.heap.size = d2 at h ⊢
  refine h.stLc rfl rfl fun w h => ?_
  (dsimp only [putAt, List.set_cons_zero, List.set_cons_succ] at h)
  refine h.lc_2 rfl ?_
  refine Map_spec (p := (5, 1)) (h.pick (A := SpcA b fi2)) fun w h => ?_
  rw [fx_4] at h ⊢
  refine Table_spec h fun w h => ?_
  rw [fx_5] at h ⊢
  refine Rights_spec h fun w h => ?_
  rw [fx_6] at h ⊢
  refine Has_spec h ?_
  refine Frames_spec h fun s33 w h => ?_
  refine Drop_spec (h.pick (A := SpcA b fi3)) fun s35 w h => ?_
  rw [fx_7] at h ⊢
  refine Walk_spec (h.pick (A := SpcA b fi4)) fun w h => ?_
  refine h.al fun w2 h => ?_
  generalize w.heap.size = d3 at h ⊢
  refine h.stLc rfl rfl fun w h => ?_
  (dsimp only [putAt, List.set_cons_zero, List.set_cons_succ] at h)
  refine Unmap_spec (h.pick (A := SpcA b fi4)) fun w h => ?_
  rw [fx_8] at h ⊢
  refine h.al fun w2 h => ?_
  generalize w.heap.size = d4 at h ⊢
  refine h.stLc rfl rfl fun w h => ?_
  (dsimp only [putAt, List.set_cons_zero, List.set_cons_succ] at h)
  refine ceqT rfl (ceqT rfl (ceqT rfl ?_))
  refine h.lc_2 rfl ?_
  refine h.lc_2 rfl ?_
  refine ⟨_, pgEq (5, 1) (5, 1), cbT (by decide) (cbT rfl (ceqT rfl (ceqT rfl (ceqT rfl (ceqT rfl (cbT rfl ?_))))))⟩
  refine h.al fun w2 h => ?_
  generalize w.heap.size = d5 at h ⊢
  have h : Own B w0 w2 (SlT intE ⟨some ⟨d5, 0, none⟩, 1, 1⟩ [3] :: _) := h.asSl [3] rfl
  have hf : framesP fi3.pg 5 = [3] := by kernel_rfl
  rw [hf] at h
  have h : Own B w0 w2 (SlT intE s33 [3] :: SlT intE ⟨some ⟨d5, 0, none⟩, 1, 1⟩ [3] :: _) := h.pick (A := SlT intE s33 [3])
  refine ref09_Nums_spec (xs := [3]) (ys := [3]) h 0 1 rfl rfl (by decide) fun w h => ?_
  rw [decide_eq_true rfl]
  refine cbT rfl ?_
  refine h.al fun w2 h => ?_
  generalize w.heap.size = d6 at h ⊢
  have h : Own B w0 w2 (SlT laidE ⟨some ⟨d6, 0, none⟩, 1, 1⟩ [(3, (5, 3))] :: _) := h.asSl [(3, (5, 3))] rfl
  have h : Own B w0 w2 (SlT laidE s35 [(3, (5, 3))] :: SlT laidE ⟨some ⟨d6, 0, none⟩, 1, 1⟩ [(3, (5, 3))] :: _) := h.pick (A := SlT laidE s35 [(3, (5, 3))])
  refine Same_spec (xs := [(3, (5, 3))]) (ys := [(3, (5, 3))]) h 0 1 rfl rfl (by decide) fun w h => ?_
  rw [decide_eq_true rfl]
  refine cbT rfl (ceqT rfl (cbT rfl (ceqT rfl ?_)))
  refine h.lc_2 rfl ?_
  refine Map_spec (p := (5, 1)) (h.pick (A := SpcA b fi4)) fun w h => ?_
  rw [fx_9] at h ⊢
  exact hK w h.sub
end
end Go.Proofs.Ytmfbhjfkagnahaa
