/- Leaves of a tree: what Go's library does with slices of them. -/
import Derived.Test.YtmfbhjfkagnahaaM
import Derived.Test.YtmfbhjfkagnahaaS3
set_option linter.unusedVariables false
set_option linter.unusedSimpArgs false
set_option maxRecDepth 8000
namespace Go.Proofs.Ytmfbhjfkagnahaa
open Go Go.Vc Go.Proofs

abbrev Slot := Int × Int
abbrev Leaf := Slot × Int
abbrev slV (s : Sl) : Value := .slice s.a s.len s.cap
def leafE : EncT Leaf := ⟨3, fun p => [.int .i64 p.1.1, .int .i64 p.1.2, .int .i64 p.2], fun _ => rfl, fun x v h => by
  simp only [List.mem_cons, List.not_mem_nil, or_false] at h
  rcases h with rfl | rfl | rfl <;> rfl, by decide⟩
def slotE : EncT Slot := ⟨2, fun p => [.int .i64 p.1, .int .i64 p.2], fun _ => rfl, fun x v h => by
  simp only [List.mem_cons, List.not_mem_nil, or_false] at h
  rcases h with rfl | rfl <;> rfl, by decide⟩
theorem ldLeaf {w : World} {a : Addr} {x : Leaf} {f : Int → Int → Int → Prop} (g : ∀ c v, (leafE.enc x)[c]? = some v → w.cell? (a.add c) = some v) (hf : f x.1.1 x.1.2 x.2) : LdL w a 0 [.i .i64, .i .i64, .i .i64] f := ⟨_, g 0 _ rfl, _, g 1 _ rfl, _, g 2 _ rfl, hf⟩
theorem ldSlot {w : World} {a : Addr} {x : Slot} {f : Int → Int → Prop} (g : ∀ c v, [Value.int .i64 x.1, Value.int .i64 x.2][c]? = some v → w.cell? (a.add c) = some v) (hf : f x.1 x.2) : LdL w a 0 [.i .i64, .i .i64] f := ⟨_, g 0 _ rfl, _, g 1 _ rfl, hf⟩
theorem slotX (a c : Slot) : eqX Try.prog 9 29 [.int .i64 a.1, .int .i64 a.2] [.int .i64 c.1, .int .i64 c.2] = some (decide (a = c)) := by
  have h : eqX Try.prog 9 29 [.int .i64 a.1, .int .i64 a.2] [.int .i64 c.1, .int .i64 c.2] = some (a.1 == c.1 && (a.2 == c.2 && true)) := by kernel_rfl
  rw [h]
  congr 1
  rw [Bool.eq_iff_iff]
  simp only [Bool.and_true, Bool.and_eq_true, beq_iff_eq, decide_eq_true_eq]
  cases a; cases c
  simp only [Prod.mk.injEq]
theorem slotEq {x y : Operand} (a c : Slot) : EqB Try.prog .eql 29 x y (.agg #[.int .i64 a.1, .int .i64 a.2]) (.agg #[.int .i64 c.1, .int .i64 c.2]) (decide (a = c)) := eqB_x (by kernel_rfl) (by kernel_rfl) (by kernel_rfl) (slotX a c)
theorem slotNe {x y : Operand} (a c : Slot) : EqB Try.prog .neq 29 x y (.agg #[.int .i64 a.1, .int .i64 a.2]) (.agg #[.int .i64 c.1, .int .i64 c.2]) (!decide (a = c)) := neB_x (by kernel_rfl) (by kernel_rfl) (by kernel_rfl) (slotX a c)
theorem infoLeaf : Try.prog.info? 90 = some Try.t90 := by kernel_rfl
theorem bytesLeaf : Try.t90.bytes = 24 := by kernel_rfl
def zLeaf : Leaf := ((0, 0), 0)
theorem zeroLeaf (w : World) : (zeroValue 90).run Try.prog w = .ok (.agg ⟨leafE.enc zLeaf⟩) w := Try.zeroValue90 w
/-- The first place where something holds; -1: nowhere. -/
def idxI {α : Type} (p : α → Bool) (xs : List α) : Int := match xs.findIdx? p with | some i => (i : Int) | none => -1

section
variable {B : Nat} {w0 w : World} {R L : List Asn} {s : Sl} {xs : List Leaf}
theorem IndexFunc_leaf {p : Leaf → Bool} {f : Value} {K : Int → World → Prop} [I : SlIn s L Leaf leafE xs] (h : Own B w0 w L) (hbig : xs.length ≤ 1000000000)
    (hf : ∀ (y : Leaf) (w : World) (Q : Bool → World → Prop), Own B w0 w L → (∀ w', Own B w0 w' L → Q (p y) w') → CallV Try.prog f [.agg #[.int .i64 y.1.1, .int .i64 y.1.2, .int .i64 y.2]] w fun en w' => ∃ r : Bool, en = .returned (.bool r) ∧ Q r w')
    (hK : ∀ w', Own B w0 w' L → K (idxI p xs) w') : C.slices_IndexFunc_tree_leaf_tree_leaf s f K w := by
  apply S.slices_IndexFunc_tree_leaf_tree_leaf_ok
  unfold S.slices_IndexFunc_tree_leaf_tree_leaf
  have hlen := h.lenc s
  intro l hl
  have loop : ∀ (rest : List Leaf) (j : Nat) (w : World), xs.drop j = rest → j ≤ xs.length → (∀ i, i < j → ∀ y, xs[i]? = some y → p y = false) → Own B w0 w L → l (j : Int) w := by
    intro rest
    induction rest with
    | nil =>
      intro j w hj hjl hno h
      have : xs.length ≤ j := by have := congrArg List.length hj; simp at this; omega
      apply hl
      refine cdecF (by omega) ?_
      have hn : xs.findIdx? p = none := by
        rw [List.findIdx?_eq_none_iff]
        intro y hy
        obtain ⟨i, hi⟩ := List.mem_iff_getElem?.1 hy
        exact hno i (by have := (List.getElem?_eq_some_iff.1 hi).1; omega) y hi
      have e : idxI p xs = -1 := by unfold idxI; rw [hn]
      rw [← e]; exact hK _ h
    | cons y rest ih =>
      intro j w hj hjl hno h
      have hjl2 : j < xs.length := by have := congrArg List.length hj; simp at this; omega
      have hx : xs[j]? = some y := by
        have := congrArg (fun l => l[0]?) hj
        simpa using this
      apply hl
      refine cdecT (by omega) ?_
      refine h.ixc rfl hx fun a ha h0 hc => ?_
      refine ldLeaf hc ?_
      refine hf y w _ h fun w h => ?_
      cases hp : p y with
      | true =>
        refine cbT rfl ?_
        have hn : xs.findIdx? p = some j := by
          rw [List.findIdx?_eq_some_iff_getElem]
          refine ⟨hjl2, ?_, fun i hi => ?_⟩
          · rw [List.getElem?_eq_getElem hjl2] at hx; cases hx; exact hp
          · have := hno i hi xs[i] (List.getElem?_eq_getElem (by omega))
            simp [this]
        have e : idxI p xs = (j : Int) := by unfold idxI; rw [hn]
        rw [← e]; exact hK _ h
      | false =>
        refine cbF rfl ?_
        rw [wr (by omega) (by omega)]
        refine ih (j + 1) w (by rw [← List.drop_drop, hj]; rfl) (by omega) (fun i hi z hz => ?_) h
        by_cases e : i = j
        · subst e; rw [hx] at hz; cases hz; exact hp
        · exact hno i (by omega) z hz
  exact loop xs 0 w rfl (by omega) (fun i hi => by omega) h

theorem app1_leaf {y : Leaf} {c : Nat} {k : Sl → World → Prop} [I : SlIn s L Leaf leafE xs] [J : Pick (SlT leafE s xs) L R] (h : Own B w0 w (BlkA c (leafE.enc y) :: L)) (hbig : xs.length ≤ 1000000000)
    (hk : ∀ s' w', s'.len = xs.length + 1 → Own B w0 w' (SlT leafE s' (xs ++ [y]) :: R) → k s' w') :
    ∃ s' w', AppR Try.prog [84, 84] 84 (.slice s.a s.len s.cap) (.slice (some (Addr.mk c 0 none)) 1 1) w s' w' ∧ k s' w' :=
  Own.app1c (E := leafE) (y := y) Try.underlying84 infoLeaf (zv := .agg ⟨leafE.enc zLeaf⟩) (by kernel_rfl) (by kernel_rfl) rfl (by decide) h (by rw [bytesLeaf]; omega) hk
theorem app1_slot {ys : List Slot} {y : Slot} {c : Nat} {k : Sl → World → Prop} [I : SlIn s L Slot slotE ys] [J : Pick (SlT slotE s ys) L R] (h : Own B w0 w (BlkA c (slotE.enc y) :: L)) (hbig : ys.length ≤ 1000000000)
    (hk : ∀ s' w', s'.len = ys.length + 1 → Own B w0 w' (SlT slotE s' (ys ++ [y]) :: R) → k s' w') :
    ∃ s' w', AppR Try.prog [25, 25] 25 (.slice s.a s.len s.cap) (.slice (some (Addr.mk c 0 none)) 1 1) w s' w' ∧ k s' w' :=
  Own.app1c (E := slotE) (y := y) Try.underlying25 (show Try.prog.info? 29 = some Try.t29 from by kernel_rfl) (zv := .agg ⟨slotE.enc (0, 0)⟩) (by kernel_rfl) (by kernel_rfl) rfl (by decide) h (by
    have e : Try.t29.bytes = 16 := by kernel_rfl
    rw [e]; omega) hk

theorem del_list {α : Type} {xs : List α} {i j : Nat} {z : α} (hij : i < j) (hj : j ≤ xs.length) :
    List.take (i + (xs.length - j)) (List.take (i + (xs.length - j)) (xs.take i ++ xs.drop j ++ xs.drop (i + (xs.length - j))) ++ List.replicate ((xs.take i ++ xs.drop j ++ xs.drop (i + (xs.length - j))).length - (i + (xs.length - j))) z) = xs.take i ++ xs.drop j := by
  have hl2 : (xs.take i ++ xs.drop j).length = i + (xs.length - j) := by simp; omega
  rw [List.take_append_of_le_length (by simp; omega), List.take_take, Nat.min_self, ← hl2, List.take_left]
/-- A part taken out. -/
theorem Delete_leaf {i j : Nat} {K : Sl → World → Prop} (h : Own B w0 w (SlT leafE s xs :: R)) (hij : i < j) (hj : j ≤ xs.length) (hbig : xs.length ≤ 1000000000)
    (hK : ∀ s' w', Own B w0 w' (SlT leafE s' (xs.take i ++ xs.drop j) :: R) → K s' w') : C.slices_Delete_tree_leaf_tree_leaf s (i : Int) (j : Int) K w := by
  apply S.slices_Delete_tree_leaf_tree_leaf_ok
  unfold S.slices_Delete_tree_leaf_tree_leaf
  have hlen := h.lenc s
  have hcap := h.slRaw.le_cap
  refine ⟨by omega, by omega, by omega, by omega, by omega, by omega, ?_⟩
  refine ceqF (by omega) ?_
  refine h.dr fun w h => ?_
  refine ⟨by omega, by omega, by omega, by omega, a2 ?_⟩
  simp only [Int.toNat_natCast]
  refine h.appDel (E := leafE) Try.underlying84 infoLeaf (by kernel_rfl) (by omega) hj (by omega) fun w h => ?_
  dsimp only
  refine ⟨by omega, by omega, by omega, by omega, ?_⟩
  refine Own.clear (E := leafE) (z0 := zLeaf) (n := i + (xs.length - j)) Try.underlying84 zeroLeaf rfl h 0 rfl (by simp; omega) fun w h => ?_
  have hp := h.pre 0 rfl (n := i + (xs.length - j)) (by simp; omega)
  refine hK _ w ?_
  rw [del_list hij hj] at hp
  exact hp
theorem app_leaf0 {b : Nat} {ys : List Leaf} {x : Sl} {k : Sl → World → Prop} (h : Own B w0 w (SlT leafE ⟨some (Addr.mk b 0 none), 0, 0⟩ [] :: L)) (hx : SlO leafE.z w x (ys.flatMap leafE.enc)) (hxl : x.len = ys.length) (hbig : ys.length ≤ 1000000000)
    (hk : ∀ s' w', Own B w0 w' (SlT leafE s' ys :: L) → k s' w') :
    ∃ s' w', AppR Try.prog [84, 84] 84 (.slice (some (Addr.mk b 0 none)) 0 0) (.slice x.a x.len x.cap) w s' w' ∧ k s' w' :=
  Own.app (s := ⟨some (Addr.mk b 0 none), 0, 0⟩) (xs := []) (ys := ys) Try.underlying84 infoLeaf (zv := .agg ⟨leafE.enc zLeaf⟩) (by kernel_rfl) (by kernel_rfl) rfl (by decide) h 0 rfl hx hxl (by rw [bytesLeaf, List.length_nil]; omega) fun s' w' _ h => hk s' w' h
/-- A copy. -/
theorem Clone_leaf {K : Sl → World → Prop} [I : SlIn s L Leaf leafE xs] (h : Own B w0 w L) (hbig : xs.length ≤ 1000000000) (hK : ∀ s' w', Own B w0 w' (SlT leafE s' xs :: L) → K s' w') : C.slices_Clone_tree_leaf_tree_leaf s K w := by
  apply S.slices_Clone_tree_leaf_tree_leaf_ok
  unfold S.slices_Clone_tree_leaf_tree_leaf
  have hlen := h.lenc s
  cases hn : s.a with
  | none =>
    refine cbT rfl ?_
    have hx : xs = [] := by
      cases xs with
      | nil => rfl
      | cons x xs => obtain ⟨_, _, ha, _⟩ := h.get I.i I.at_ (j := 0) (x := x) rfl; rw [hn] at ha; cases ha
    subst hx
    exact hK _ w (Own.nilS h)
  | some a =>
    refine cbF rfl ?_
    refine h.al fun w' h => ?_
    generalize w.heap.size = b at h ⊢
    have h2 : Own B w0 w' (SlT leafE ⟨some (Addr.mk b 0 none), 0, 0⟩ [] :: L) := Own.empty h
    have hx2 := h2.slO (I.i + 1) (by simpa using I.at_)
    rw [← hn]
    exact app_leaf0 h2 hx2 hlen hbig fun s' w h => hK _ w h
end
end Go.Proofs.Ytmfbhjfkagnahaa
