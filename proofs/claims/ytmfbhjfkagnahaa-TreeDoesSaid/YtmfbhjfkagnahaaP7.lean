/- Trees of slots, plainly: parents, and who is under whom. -/
import Derived.Test.YtmfbhjfkagnahaaF7
set_option linter.unusedVariables false
set_option linter.unusedSimpArgs false
set_option maxRecDepth 8000
namespace Go.Proofs.Ytmfbhjfkagnahaa
open Go Go.Vc Go.Proofs

theorem place_own {T : Tr} (hT : TOk T) {i : Nat} {x : Leaf} (hx : T[i]? = some x) : placeN T x.1 = some i := by
  have hi := (List.getElem?_eq_some_iff.1 hx).1
  unfold placeN
  rw [List.findIdx?_eq_some_iff_getElem]
  rw [List.getElem?_eq_getElem hi] at hx
  cases hx
  refine ⟨hi, by simp, fun j hj => ?_⟩
  have hn := List.pairwise_iff_getElem.1 hT.nd j i (by simpa using Nat.lt_trans hj hi) (by simpa using hi) hj
  simp only [List.getElem_map] at hn
  simp [hn]
theorem place_none_iff {T : Tr} {s : Slot} : placeN T s = none ↔ s ∉ T.map (·.1) := by
  unfold placeN
  rw [List.findIdx?_eq_none_iff]
  constructor
  · intro h hm
    obtain ⟨x, hx, rfl⟩ := List.mem_map.1 hm
    have := h x hx
    simp at this
  · intro h x hx
    simp only [decide_eq_false_iff_not]
    intro e; exact h (List.mem_map.2 ⟨x, hx, e⟩)
def Near (T : Tr) (k q : Nat) : Prop := q < k ∧ dOf T q < dOf T k ∧ ∀ r, q < r → r < k → dOf T k ≤ dOf T r
theorem Near.uniq {T : Tr} {k q q' : Nat} (h : Near T k q) (h' : Near T k q') : q = q' := by
  obtain ⟨h1, h2, h3⟩ := h
  obtain ⟨g1, g2, g3⟩ := h'
  rcases Nat.lt_trichotomy q q' with e | e | e
  · have := h3 q' e g1; omega
  · exact e
  · have := g3 q e h1; omega
theorem find_rev {T : Tr} {d : Int} : ∀ (k : Nat), k ≤ T.length →
    (∀ y, (T.take k).reverse.find? (fun x => decide (x.2 < d)) = some y → ∃ q, q < k ∧ T[q]? = some y ∧ dOf T q < d ∧ ∀ r, q < r → r < k → d ≤ dOf T r) ∧
    ((T.take k).reverse.find? (fun x => decide (x.2 < d)) = none → ∀ r, r < k → d ≤ dOf T r)
  | 0, _ => ⟨fun y h => by simp at h, fun _ r hr => by omega⟩
  | k + 1, hk => by
    obtain ⟨x, hx⟩ : ∃ x, T[k]? = some x := ⟨_, List.getElem?_eq_getElem (by omega)⟩
    obtain ⟨ih1, ih2⟩ := find_rev (T := T) (d := d) k (by omega)
    rw [List.take_add_one, hx, Option.toList_some, List.reverse_append, List.reverse_singleton, List.singleton_append, List.find?_cons]
    have hd := dOf_get hx
    by_cases e : x.2 < d
    · rw [decide_eq_true e]
      refine ⟨fun y h => ?_, fun h => by cases h⟩
      cases h
      exact ⟨k, by omega, hx, by rw [hd]; exact e, fun r h1 h2 => by omega⟩
    · rw [decide_eq_false e]
      refine ⟨fun y h => ?_, fun h r hr => ?_⟩
      · obtain ⟨q, h1, h2, h3, h4⟩ := ih1 y h
        refine ⟨q, by omega, h2, h3, fun r g1 g2 => ?_⟩
        by_cases er : r = k
        · rw [er, hd]; omega
        · exact h4 r g1 (by omega)
      · by_cases er : r = k
        · rw [er, hd]; omega
        · exact ih2 h r (by omega)
theorem parent_near {T : Tr} (hT : TOk T) {k q : Nat} {x y : Leaf} (hx : T[k]? = some x) (hy : T[q]? = some y) (h : Near T k q) : parentN T x.1 = some y.1 := by
  have hk := (List.getElem?_eq_some_iff.1 hx).1
  unfold parentN
  rw [place_own hT hx]
  simp only
  obtain ⟨h1, h2⟩ := find_rev (T := T) (d := dOf T k) k (by omega)
  cases hf : (T.take k).reverse.find? (fun x => decide (x.2 < dOf T k)) with
  | none => have := h2 hf q h.1; have := h.2.1; omega
  | some z =>
    obtain ⟨q', g1, g2, g3, g4⟩ := h1 z hf
    have : q = q' := h.uniq ⟨g1, g3, g4⟩
    subst this
    rw [hy] at g2; cases g2; rfl
theorem parent_none {T : Tr} (hT : TOk T) {k : Nat} {x : Leaf} (hx : T[k]? = some x) (h : ∀ r, r < k → dOf T k ≤ dOf T r) : parentN T x.1 = none := by
  have hk := (List.getElem?_eq_some_iff.1 hx).1
  unfold parentN
  rw [place_own hT hx]
  simp only
  obtain ⟨h1, _⟩ := find_rev (T := T) (d := dOf T k) k (by omega)
  cases hf : (T.take k).reverse.find? (fun x => decide (x.2 < dOf T k)) with
  | none => rfl
  | some z => obtain ⟨q', g1, g2, g3, g4⟩ := h1 z hf; have := h q' g1; omega
/-- A slot has a parent, or none. -/
theorem near_or {T : Tr} (hT : TOk T) {k : Nat} {x : Leaf} (hx : T[k]? = some x) : (∃ q y, Near T k q ∧ T[q]? = some y ∧ parentN T x.1 = some y.1) ∨ ((∀ r, r < k → dOf T k ≤ dOf T r) ∧ parentN T x.1 = none) := by
  have hk := (List.getElem?_eq_some_iff.1 hx).1
  obtain ⟨h1, h2⟩ := find_rev (T := T) (d := dOf T k) k (by omega)
  cases hf : (T.take k).reverse.find? (fun x => decide (x.2 < dOf T k)) with
  | none => exact .inr ⟨h2 hf, parent_none hT hx (h2 hf)⟩
  | some z =>
    obtain ⟨q, g1, g2, g3, g4⟩ := h1 z hf
    exact .inl ⟨q, z, ⟨g1, g3, g4⟩, g2, parent_near hT hx g2 ⟨g1, g3, g4⟩⟩
theorem takeWhile_iff {α : Type} (p : α → Bool) : ∀ (l : List α) (j : Nat), j < (l.takeWhile p).length ↔ j < l.length ∧ ∀ r, r ≤ j → ∀ x, l[r]? = some x → p x = true
  | [], j => by simp
  | a :: l, j => by
    by_cases ha : p a = true
    · rw [List.takeWhile_cons_of_pos ha]
      cases j with
      | zero =>
        simp only [List.length_cons, Nat.zero_lt_succ, true_and, Nat.le_zero_eq, forall_eq, List.getElem?_cons_zero, Option.some.injEq, forall_eq', ha]
      | succ j =>
        have := takeWhile_iff p l j
        simp only [List.length_cons, Nat.succ_lt_succ_iff, this]
        constructor
        · rintro ⟨h1, h2⟩
          refine ⟨h1, fun r hr x hx => ?_⟩
          cases r with
          | zero => simp at hx; rw [← hx]; exact ha
          | succ r => exact h2 r (by omega) x (by simpa using hx)
        · rintro ⟨h1, h2⟩
          exact ⟨h1, fun r hr x hx => h2 (r + 1) (by omega) x (by simpa using hx)⟩
    · rw [List.takeWhile_cons_of_neg ha]
      constructor
      · intro h; simp at h
      · rintro ⟨_, h⟩; exact absurd (h 0 (by omega) a rfl) ha
theorem end_iff {T : Tr} {i k : Nat} (hi : i < T.length) (hik : i < k) : k < endN T i ↔ k < T.length ∧ ∀ r, i < r → r ≤ k → dOf T i < dOf T r := by
  unfold endN
  have h := takeWhile_iff (fun x : Leaf => decide (dOf T i < x.2)) (T.drop (i + 1)) (k - (i + 1))
  rw [List.length_drop] at h
  constructor
  · intro hk
    obtain ⟨h1, h2⟩ := h.1 (by omega)
    refine ⟨by omega, fun r g1 g2 => ?_⟩
    obtain ⟨x, hx⟩ : ∃ x, T[r]? = some x := ⟨_, List.getElem?_eq_getElem (by omega)⟩
    rw [dOf_get hx]
    have := h2 (r - (i + 1)) (by omega) x (by rw [List.getElem?_drop, show i + 1 + (r - (i + 1)) = r from by omega]; exact hx)
    simpa using this
  · rintro ⟨h1, h2⟩
    have := h.2 ⟨by omega, fun r hr x hx => ?_⟩
    · omega
    · rw [List.getElem?_drop] at hx
      have := h2 (i + 1 + r) (by omega) (by omega)
      rw [dOf_get hx] at this
      simpa using this
theorem under_iff {T : Tr} (hT : TOk T) {i k : Nat} {x y : Leaf} (hx : T[i]? = some x) (hy : T[k]? = some y) : y.1 ∈ underN T x.1 ↔ i < k ∧ ∀ r, i < r → r ≤ k → dOf T i < dOf T r := by
  have hi := (List.getElem?_eq_some_iff.1 hx).1
  have hk := (List.getElem?_eq_some_iff.1 hy).1
  obtain ⟨e1, e2⟩ := end_le T hi
  unfold underN
  rw [place_own hT hx]
  simp only
  constructor
  · intro hm
    obtain ⟨z, hz, hzy⟩ := List.mem_map.1 hm
    obtain ⟨j, hj⟩ := List.mem_iff_getElem?.1 hz
    rw [List.getElem?_take] at hj
    split at hj
    · rename_i hjn
      rw [List.getElem?_drop] at hj
      have h1 := place_own hT hj
      have h2 := place_own hT hy
      rw [hzy] at h1
      rw [h1] at h2
      simp only [Option.some.injEq] at h2
      subst h2
      refine ⟨by omega, ((end_iff hi (by omega)).1 (by omega)).2⟩
    · cases hj
  · rintro ⟨h1, h2⟩
    have h3 := (end_iff hi h1).2 ⟨hk, h2⟩
    refine List.mem_map.2 ⟨y, ?_, rfl⟩
    refine List.mem_iff_getElem?.2 ⟨k - (i + 1), ?_⟩
    rw [List.getElem?_take, if_pos (by omega), List.getElem?_drop, show i + 1 + (k - (i + 1)) = k from by omega]
    exact hy
/-- One is under another one just if it came of it, or of one that is. -/
theorem under_law {T : Tr} (hT : TOk T) {i k : Nat} {x y : Leaf} (hx : T[i]? = some x) (hy : T[k]? = some y) :
    decide (y.1 ∈ underN T x.1) = ((parentN T y.1).isSome && (decide ((parentN T y.1).getD (0, 0) = x.1) || decide ((parentN T y.1).getD (0, 0) ∈ underN T x.1))) := by
  rcases near_or hT hy with ⟨q, z, hn, hz, hp⟩ | ⟨hn, hp⟩
  · rw [hp]
    simp only [Option.isSome_some, Option.getD_some, Bool.true_and]
    rw [Bool.eq_iff_iff]
    simp only [Bool.or_eq_true, decide_eq_true_eq]
    rw [under_iff hT hx hy, under_iff hT hx hz]
    obtain ⟨n1, n2, n3⟩ := hn
    constructor
    · rintro ⟨h1, h2⟩
      by_cases e : q = i
      · subst e; rw [hx] at hz; cases hz; exact .inl rfl
      · right
        have hiq : i < q := by
          refine Classical.byContradiction fun hc => ?_
          have := n3 i (by omega) h1
          have := h2 k h1 (Nat.le_refl _)
          omega
        exact ⟨hiq, fun r g1 g2 => h2 r g1 (by omega)⟩
    · rintro (h | ⟨h1, h2⟩)
      · have h3 := place_own hT hz
        rw [h, place_own hT hx] at h3
        simp only [Option.some.injEq] at h3
        subst h3
        refine ⟨n1, fun r g1 g2 => ?_⟩
        by_cases e : r = k
        · subst e; exact n2
        · have := n3 r g1 (by omega); omega
      · refine ⟨by omega, fun r g1 g2 => ?_⟩
        by_cases e : r ≤ q
        · exact h2 r g1 e
        · have h3 := h2 q h1 (Nat.le_refl _)
          by_cases e2 : r = k
          · subst e2; omega
          · have := n3 r (by omega) (by omega); omega
  · rw [hp]
    simp only [Option.isSome_none, Bool.false_and, decide_eq_false_iff_not]
    rw [under_iff hT hx hy]
    rintro ⟨h1, h2⟩
    have := h2 k h1 (Nat.le_refl _)
    have := hn i h1
    omega
theorem not_under_self {T : Tr} (hT : TOk T) {i : Nat} {x : Leaf} (hx : T[i]? = some x) : x.1 ∉ underN T x.1 := by
  rw [under_iff hT hx hx]; rintro ⟨h, _⟩; omega
theorem slots_ne {T : Tr} (hT : TOk T) {i k : Nat} {x y : Leaf} (hx : T[i]? = some x) (hy : T[k]? = some y) (h : i ≠ k) : x.1 ≠ y.1 := fun e => by
  have h1 := place_own hT hx
  rw [e, place_own hT hy] at h1
  simp only [Option.some.injEq] at h1
  omega
theorem wfD_step : ∀ (T : Tr) (p : Int) (i : Nat) (x y : Leaf), wfD p T → T[i]? = some x → T[i + 1]? = some y → y.2 ≤ x.2 + 1
  | [], _, _, _, _, _, h, _ => by simp at h
  | a :: T, p, 0, x, y, hw, hx, hy => by
    simp only [List.getElem?_cons_zero, Option.some.injEq] at hx
    subst hx
    cases T with
    | nil => simp at hy
    | cons c T => simp at hy; subst hy; exact hw.2.2.2.1
  | a :: T, p, i + 1, x, y, hw, hx, hy => wfD_step T a.2 i x y hw.2.2 (by simpa using hx) (by simpa using hy)
theorem TOk.step {T : Tr} (hT : TOk T) {i : Nat} (hi : i + 1 < T.length) : dOf T (i + 1) ≤ dOf T i + 1 := by
  obtain ⟨x, hx⟩ : ∃ x, T[i]? = some x := ⟨_, List.getElem?_eq_getElem (by omega)⟩
  obtain ⟨y, hy⟩ : ∃ y, T[i + 1]? = some y := ⟨_, List.getElem?_eq_getElem hi⟩
  rw [dOf_get hx, dOf_get hy]
  exact wfD_step T _ i x y hT.wf hx hy
theorem TOk.pos {T : Tr} (hT : TOk T) {i : Nat} (hi : i < T.length) : 0 ≤ dOf T i := by
  obtain ⟨x, hx⟩ : ∃ x, T[i]? = some x := ⟨_, List.getElem?_eq_getElem hi⟩
  rw [dOf_get hx]; exact (hT.rng hx).1
theorem TOk.first {T : Tr} (hT : TOk T) (h : 0 < T.length) : dOf T 0 = 0 := by
  have h1 := hT.pos h
  have h2 := hT.wf
  cases T with
  | nil => simp at h
  | cons x T =>
    have e : dOf (x :: T) 0 = x.2 := rfl
    have := h2.2.1
    omega
theorem parent_zero {T : Tr} (hT : TOk T) {k : Nat} {x : Leaf} (hx : T[k]? = some x) : (parentN T x.1).isSome = decide (0 < dOf T k) := by
  have hk := (List.getElem?_eq_some_iff.1 hx).1
  rcases near_or hT hx with ⟨q, z, hn, hz, hp⟩ | ⟨hn, hp⟩
  · rw [hp]
    have := hT.pos (i := q) (List.getElem?_eq_some_iff.1 hz).1
    have := hn.2.1
    rw [decide_eq_true (by omega)]; rfl
  · rw [hp]
    have h0 := hT.first (by omega)
    have hp0 := hT.pos hk
    rw [decide_eq_false]
    · rfl
    · intro hc
      by_cases e : k = 0
      · subst e; omega
      · have := hn 0 (by omega); omega
end Go.Proofs.Ytmfbhjfkagnahaa
