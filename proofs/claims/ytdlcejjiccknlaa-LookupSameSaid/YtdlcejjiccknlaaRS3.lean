/- The document's nodes of slots: taken, moved, swapped, dropped, told. -/
import Derived.Test.YtdlcejjiccknlaaD9
import Derived.Test.YtdlcejjiccknlaaS3
set_option linter.unusedVariables false
set_option linter.unusedSimpArgs false
set_option maxRecDepth 8000
namespace Go.Proofs.Ytdlcejjiccknlaa
open Go Go.Vc Go.Proofs

theorem NOk.swap {bits : List Int} {H : Hs} (h : NOk bits H) {a c : Slot} (ha : thereB bits a = true) (hc : thereB bits c = true) : NOk bits (updH (updH H a (H c)) c (H a)) := by
  refine ⟨h.few, h.rng, fun s d hs => ?_⟩
  rw [swap_at] at hs
  obtain ⟨g1, g2⟩ := h.held _ _ hs
  refine ⟨?_, g2⟩
  unfold swS at g1
  by_cases e1 : s = c
  · rw [e1]; exact hc
  · by_cases e2 : s = a
    · rw [e2]; exact ha
    · rwa [if_neg e1, if_neg e2] at g1
theorem rows_drop {bits : List Int} {H : Hs} {n : Nat} {z : Int} (h : bits[n]? = some z) : rowsOf (bits.set n (-1)) H = (rowsOf bits H).set n [] := by
  apply List.ext_getElem?
  intro i
  rw [List.getElem?_set]
  unfold rowsOf
  rw [List.getElem?_mapIdx, List.getElem?_mapIdx, List.getElem?_set]
  by_cases e : n = i
  · subst e
    have hl := (List.getElem?_eq_some_iff.1 h).1
    rw [if_pos rfl, if_pos rfl, if_pos hl, if_pos (by simpa using hl)]
    simp [rowOf]
  · rw [if_neg e, if_neg e]
/-- What is held before a slot, in order. -/
structure UpTo (H : Hs) (t : Slot) (hs : List (Slot × Cap)) : Prop where
  srt : hs.Pairwise (fun x y => ltS x.1 y.1 = true)
  mem : ∀ k c, (k, c) ∈ hs ↔ H k = some c ∧ ltS k t = true
theorem UpTo.none {H : Hs} {t t' : Slot} {hs : List (Slot × Cap)} (h : UpTo H t hs) (hn : ∀ k c, H k = some c → (ltS k t = true ↔ ltS k t' = true)) : UpTo H t' hs :=
  ⟨h.srt, fun k c => by
    rw [h.mem]
    constructor
    · rintro ⟨h1, h2⟩; exact ⟨h1, (hn k c h1).1 h2⟩
    · rintro ⟨h1, h2⟩; exact ⟨h1, (hn k c h1).2 h2⟩⟩
theorem UpTo.add {H : Hs} {i k : Int} {c : Cap} {hs : List (Slot × Cap)} (h : UpTo H (i, k) hs) (hc : H (i, k) = some c) : UpTo H (i, k + 1) (hs ++ [((i, k), c)]) := by
  refine ⟨?_, fun s d => ?_⟩
  · rw [List.pairwise_append]
    refine ⟨h.srt, by simp, fun x hx y hy => ?_⟩
    simp only [List.mem_singleton] at hy
    subst hy
    exact ((h.mem x.1 x.2).1 hx).2
  · rw [List.mem_append, h.mem, List.mem_singleton]
    constructor
    · rintro (⟨h1, h2⟩ | e)
      · exact ⟨h1, by simp only [ltS, decide_eq_true_eq] at *; omega⟩
      · cases e
        exact ⟨hc, by simp only [ltS, decide_eq_true_eq]; exact .inr ⟨trivial, Int.lt_succ k⟩⟩
    · rintro ⟨h1, h2⟩
      by_cases e : s = (i, k)
      · subst e
        rw [hc] at h1; cases h1
        exact .inr rfl
      · refine .inl ⟨h1, ?_⟩
        have : s.1 ≠ i ∨ s.2 ≠ k := by
          by_cases e1 : s.1 = i
          · exact .inr fun e2 => e (Prod.ext e1 e2)
          · exact .inl e1
        simp only [ltS, decide_eq_true_eq] at *
        omega

theorem hdCap {w : World} {A : Addr} {x : Cap} {p : Prop} (g : ∀ c v, (capE.enc x)[c]? = some v → w.cell? (A.add c) = some v) (hp : p) : HdL w A 0 [.int .i64 x.kind, .int .i64 x.obj, .int .i64 x.rights, .int .u64 x.badge, .int .u64 x.guard, .int .i64 x.bits] p :=
  ⟨g 0 _ rfl, g 1 _ rfl, g 2 _ rfl, g 3 _ rfl, g 4 _ rfl, g 5 _ rfl, hp⟩
section
variable {B : Nat} {w0 w : World} {R L : List Asn} {α : Type} {E : EncT α}
theorem _root_.Go.Vc.Own.elt {s : Sl} {xs : List α} [I : SlIn s L α E xs] {i : Int} {j : Nat} {x : α} {a : Addr} (h : Vc.Own B w0 w L) (hij : i = (j : Int)) (hj : xs[j]? = some x) (ha : s.a = some a) :
    (∀ v, (E.enc x)[0]? = some v → w.cell? (a.add (i.toNat * E.z)) = some v) ∧ (∀ c v, (E.enc x)[c]? = some v → w.cell? ((a.add (i.toNat * E.z)).add c) = some v) := by
  obtain ⟨a', ha', _, _, g⟩ := h.ixc (s := s) (G := fun a => (∀ v, (E.enc x)[0]? = some v → w.cell? (a.add (i.toNat * E.z)) = some v) ∧ (∀ c v, (E.enc x)[c]? = some v → w.cell? ((a.add (i.toNat * E.z)).add c) = some v)) hij hj (fun a _ h1 h2 => ⟨h1, h2⟩)
  rw [ha] at ha'; cases ha'; exact g
theorem _root_.Go.Vc.Own.relt {ss : List Sl} {rows : List (List α)} (h : Vc.Own B w0 w (RowsA E ss rows :: R)) {j k : Nat} {s : Sl} {row : List α} {x : α} {i : Int} {a : Addr} (hs : ss[j]? = some s) (hr : rows[j]? = some row) (hik : i = (k : Int)) (hk : row[k]? = some x) (ha : s.a = some a) :
    (∀ v, (E.enc x)[0]? = some v → w.cell? (a.add (i.toNat * E.z)) = some v) ∧ (∀ c v, (E.enc x)[c]? = some v → w.cell? ((a.add (i.toNat * E.z)).add c) = some v) := (h.row hs hr).elt hik hk ha
end
section
variable {B : Nat} {w0 w : World} {R L : List Asn} {b : Nat} {bits : List Int} {H : Hs}
theorem ref05_Take_spec {s : Slot} {K : Int → Int → Int → Int → Int → Int → Int → World → Prop} (h : Vc.Own B w0 w (RNodesA b bits H :: R))
    (h1 : thereB bits s = false → ∀ w', Vc.Own B w0 w' (RNodesA b bits H :: R) → K 0 0 0 0 0 0 50 w')
    (h2 : thereB bits s = true → H s = none → ∀ w', Vc.Own B w0 w' (RNodesA b bits H :: R) → K 0 0 0 0 0 0 52 w')
    (h3 : thereB bits s = true → ∀ c, H s = some c → ∀ w', Vc.Own B w0 w' (RNodesA b bits (updH H s none) :: R) → K c.kind c.obj c.rights c.badge c.guard c.bits 0 w') : C.ref05_Nodes_Take (some ⟨b, 0, none⟩) s.1 s.2 K w := by
  apply S.ref05_Nodes_Take_ok
  unfold S.ref05_Nodes_Take
  (repeat (first | (refine h.al fun w h => ?_) | (refine h.dr fun w h => ?_) | (refine h.lc_2 rfl ?_) | (refine h.lc_6 rfl ?_) | (refine ⟨_, h.ldc rfl, ?_⟩) | (refine ⟨_, h.ldd rfl, ?_⟩) | (refine h.hd rfl ?_) | (refine ⟨h.ldc rfl, ?_⟩) | (refine ⟨h.ldd rfl, ?_⟩) | (refine h.stLc rfl rfl fun w h => ?_) | (refine exs ?_) | (refine _root_.Go.Vc.a2 ?_) | (refine h.stc rfl rfl fun w h => ?_) | (refine h.std rfl rfl fun w h => ?_)))
  refine ref05_Is_spec (s := s) h.up2 fun w h => ?_
  refine cnb (fun e => ?_) (fun e => ?_)
  · (repeat (first | (refine h.al fun w h => ?_) | (refine h.dr fun w h => ?_) | (refine h.lc_2 rfl ?_) | (refine h.lc_6 rfl ?_) | (refine ⟨_, h.ldc rfl, ?_⟩) | (refine ⟨_, h.ldd rfl, ?_⟩) | (refine h.hd rfl ?_) | (refine ⟨h.ldc rfl, ?_⟩) | (refine ⟨h.ldd rfl, ?_⟩) | (refine h.stLc rfl rfl fun w h => ?_) | (refine exs ?_) | (refine _root_.Go.Vc.a2 ?_) | (refine h.stc rfl rfl fun w h => ?_) | (refine h.std rfl rfl fun w h => ?_)))
    exact h1 e _ h.sub
  have hth := e
  obtain ⟨n, k, z, rfl, hb, hz, hkl⟩ := there_some e
  obtain ⟨sl, ss, hk, hsl, h⟩ := h.rnodes
  obtain ⟨sn, hss⟩ : ∃ sn, ss[n]? = some sn := ⟨_, List.getElem?_eq_getElem (by have := (List.getElem?_eq_some_iff.1 hb).1; omega)⟩
  (repeat (first | (refine h.al fun w h => ?_) | (refine h.dr fun w h => ?_) | (refine h.lc_2 rfl ?_) | (refine h.lc_6 rfl ?_) | (refine ⟨_, h.ldc rfl, ?_⟩) | (refine ⟨_, h.ldd rfl, ?_⟩) | (refine h.hd rfl ?_) | (refine ⟨h.ldc rfl, ?_⟩) | (refine ⟨h.ldd rfl, ?_⟩) | (refine h.stLc rfl rfl fun w h => ?_) | (refine exs ?_) | (refine _root_.Go.Vc.a2 ?_) | (refine h.stc rfl rfl fun w h => ?_) | (refine h.std rfl rfl fun w h => ?_)))
  refine h.ixc rfl hss fun a ha hc0 hc1 => ?_
  refine ⟨_, hc0 _ rfl, ?_⟩
  (repeat (first | (refine h.al fun w h => ?_) | (refine h.dr fun w h => ?_) | (refine h.lc_2 rfl ?_) | (refine h.lc_6 rfl ?_) | (refine ⟨_, h.ldc rfl, ?_⟩) | (refine ⟨_, h.ldd rfl, ?_⟩) | (refine h.hd rfl ?_) | (refine ⟨h.ldc rfl, ?_⟩) | (refine ⟨h.ldd rfl, ?_⟩) | (refine h.stLc rfl rfl fun w h => ?_) | (refine exs ?_) | (refine _root_.Go.Vc.a2 ?_) | (refine h.stc rfl rfl fun w h => ?_) | (refine h.std rfl rfl fun w h => ?_)))
  refine h.rget hss (rows_get hb) rfl (row_get hz hkl) fun a2 ha2 hd0 hd => ?_
  refine ldCap hd ?_
  (repeat (first | (refine h.al fun w h => ?_) | (refine h.dr fun w h => ?_) | (refine h.lc_2 rfl ?_) | (refine h.lc_6 rfl ?_) | (refine ⟨_, h.ldc rfl, ?_⟩) | (refine ⟨_, h.ldd rfl, ?_⟩) | (refine h.hd rfl ?_) | (refine ⟨h.ldc rfl, ?_⟩) | (refine ⟨h.ldd rfl, ?_⟩) | (refine h.stLc rfl rfl fun w h => ?_) | (refine exs ?_) | (refine _root_.Go.Vc.a2 ?_) | (refine h.stc rfl rfl fun w h => ?_) | (refine h.std rfl rfl fun w h => ?_)))
  cases hs : H ((n : Int), (k : Int)) with
  | none =>
    refine cbT rfl ?_
    (repeat (first | (refine h.al fun w h => ?_) | (refine h.dr fun w h => ?_) | (refine h.lc_2 rfl ?_) | (refine h.lc_6 rfl ?_) | (refine ⟨_, h.ldc rfl, ?_⟩) | (refine ⟨_, h.ldd rfl, ?_⟩) | (refine h.hd rfl ?_) | (refine ⟨h.ldc rfl, ?_⟩) | (refine ⟨h.ldd rfl, ?_⟩) | (refine h.stLc rfl rfl fun w h => ?_) | (refine exs ?_) | (refine _root_.Go.Vc.a2 ?_) | (refine h.stc rfl rfl fun w h => ?_) | (refine h.std rfl rfl fun w h => ?_)))
    exact h2 hth hs _ (Vc.Own.mk_rnodes (s := sl) (ss := ss) hk h.sub)
  | some c =>
    rw [hs] at h
    dsimp only [Option.getD_some] at h ⊢
    refine ceqF (hk.held _ _ hs).2.2.1 ?_
    (repeat (first | (refine h.al fun w h => ?_) | (refine h.dr fun w h => ?_) | (refine h.lc_2 rfl ?_) | (refine h.lc_6 rfl ?_) | (refine ⟨_, h.ldc rfl, ?_⟩) | (refine ⟨_, h.ldd rfl, ?_⟩) | (refine h.hd rfl ?_) | (refine ⟨h.ldc rfl, ?_⟩) | (refine ⟨h.ldd rfl, ?_⟩) | (refine h.stLc rfl rfl fun w h => ?_) | (refine exs ?_) | (refine _root_.Go.Vc.a2 ?_) | (refine h.stc rfl rfl fun w h => ?_) | (refine h.std rfl rfl fun w h => ?_)))
    (dsimp only [putAt, List.set_cons_zero, List.set_cons_succ] at h)
    refine h.ixc rfl hss fun a ha hc0 hc1 => ?_
    refine ⟨_, hc0 _ rfl, ?_⟩
    (repeat (first | (refine h.al fun w h => ?_) | (refine h.dr fun w h => ?_) | (refine h.lc_2 rfl ?_) | (refine h.lc_6 rfl ?_) | (refine ⟨_, h.ldc rfl, ?_⟩) | (refine ⟨_, h.ldd rfl, ?_⟩) | (refine h.hd rfl ?_) | (refine ⟨h.ldc rfl, ?_⟩) | (refine ⟨h.ldd rfl, ?_⟩) | (refine h.stLc rfl rfl fun w h => ?_) | (refine exs ?_) | (refine _root_.Go.Vc.a2 ?_) | (refine h.stc rfl rfl fun w h => ?_) | (refine h.std rfl rfl fun w h => ?_)))
    refine h.up1.rget hss (rows_get hb) rfl (row_get hz hkl) fun a2 ha2 hd0 hd => ?_
    (repeat (first | (refine h.al fun w h => ?_) | (refine h.dr fun w h => ?_) | (refine h.lc_2 rfl ?_) | (refine h.lc_6 rfl ?_) | (refine ⟨_, h.ldc rfl, ?_⟩) | (refine ⟨_, h.ldd rfl, ?_⟩) | (refine h.hd rfl ?_) | (refine ⟨h.ldc rfl, ?_⟩) | (refine ⟨h.ldd rfl, ?_⟩) | (refine h.stLc rfl rfl fun w h => ?_) | (refine exs ?_) | (refine _root_.Go.Vc.a2 ?_) | (refine h.stc rfl rfl fun w h => ?_) | (refine h.std rfl rfl fun w h => ?_)))
    refine h.up1.rset zeroCap hss (rows_get hb) rfl (by rw [row_len hz]; exact hkl) ha2 fun w h => ?_
    rw [show (rowsOf bits H).set n ((rowOf H n z).set k zeroCap) = rowsOf bits (updH H ((n : Int), (k : Int)) none) from (rows_upd hb hz hkl none).symm] at h
    (repeat (first | (refine h.al fun w h => ?_) | (refine h.dr fun w h => ?_) | (refine h.lc_2 rfl ?_) | (refine h.lc_6 rfl ?_) | (refine ⟨_, h.ldc rfl, ?_⟩) | (refine ⟨_, h.ldd rfl, ?_⟩) | (refine h.hd rfl ?_) | (refine ⟨h.ldc rfl, ?_⟩) | (refine ⟨h.ldd rfl, ?_⟩) | (refine h.stLc rfl rfl fun w h => ?_) | (refine exs ?_) | (refine _root_.Go.Vc.a2 ?_) | (refine h.stc rfl rfl fun w h => ?_) | (refine h.std rfl rfl fun w h => ?_)))
    exact h3 hth c hs _ (Vc.Own.mk_rnodes (s := sl) (ss := ss) (hk.del _) h.sub)
theorem ref05_Swap_spec {a c : Slot} {K : Int → World → Prop} (h : Vc.Own B w0 w (RNodesA b bits H :: R)) (hK : ∀ w', Vc.Own B w0 w' (RNodesA b bits (swapN bits H a c).2 :: R) → K (swapN bits H a c).1 w') : C.ref05_Nodes_Swap (some ⟨b, 0, none⟩) a.1 a.2 c.1 c.2 K w := by
  apply S.ref05_Nodes_Swap_ok
  unfold S.ref05_Nodes_Swap
  refine h.al fun w1 h => ?_
  refine h.al fun w2 h => ?_
  generalize w.heap.size = p at h ⊢
  generalize w1.heap.size = q at h ⊢
  intro k8 hk8
  have no : ∀ w, (thereB bits a = false ∨ thereB bits c = false) → Vc.Own B w0 w (RNodesA b bits H :: R) → k8 true w := fun w e h => by
    apply hk8
    refine cbT rfl ?_
    have es : swapN bits H a c = (50, H) := by unfold swapN; rw [if_pos e]
    rw [es] at hK
    exact hK _ h
  (repeat (first | (refine h.al fun w h => ?_) | (refine h.dr fun w h => ?_) | (refine h.lc_2 rfl ?_) | (refine h.lc_6 rfl ?_) | (refine ⟨_, h.ldc rfl, ?_⟩) | (refine ⟨_, h.ldd rfl, ?_⟩) | (refine h.hd rfl ?_) | (refine ⟨h.ldc rfl, ?_⟩) | (refine ⟨h.ldd rfl, ?_⟩) | (refine h.stLc rfl rfl fun w h => ?_) | (refine exs ?_) | (refine _root_.Go.Vc.a2 ?_) | (refine h.stc rfl rfl fun w h => ?_) | (refine h.std rfl rfl fun w h => ?_)))
  refine ref05_Is_spec (s := a) h.up2 fun w h => ?_
  refine cnb (fun e => no _ (.inl e) h.sub) (fun ta => ?_)
  (repeat (first | (refine h.al fun w h => ?_) | (refine h.dr fun w h => ?_) | (refine h.lc_2 rfl ?_) | (refine h.lc_6 rfl ?_) | (refine ⟨_, h.ldc rfl, ?_⟩) | (refine ⟨_, h.ldd rfl, ?_⟩) | (refine h.hd rfl ?_) | (refine ⟨h.ldc rfl, ?_⟩) | (refine ⟨h.ldd rfl, ?_⟩) | (refine h.stLc rfl rfl fun w h => ?_) | (refine exs ?_) | (refine _root_.Go.Vc.a2 ?_) | (refine h.stc rfl rfl fun w h => ?_) | (refine h.std rfl rfl fun w h => ?_)))
  refine ref05_Is_spec (s := c) h fun w h => ?_
  cases tc : thereB bits c with
  | false => exact no _ (.inr tc) h.sub
  | true =>
    apply hk8
    refine cbF rfl ?_
    have es : swapN bits H a c = (0, updH (updH H a (H c)) c (H a)) := by unfold swapN; rw [if_neg (by rw [ta, tc]; simp)]
    rw [es] at hK
    dsimp only at hK
    have hkk := h.rnok
    have hks := hkk.swap ta tc
    obtain ⟨n, k, z, rfl, hb, hz, hkl⟩ := there_some ta
    obtain ⟨n2, k2, z2, rfl, hb2, hz2, hkl2⟩ := there_some tc
    obtain ⟨sl, ss, hk, hsl, h⟩ := h.rnodes
    obtain ⟨sn, hss⟩ : ∃ sn, ss[n]? = some sn := ⟨_, List.getElem?_eq_getElem (by have := (List.getElem?_eq_some_iff.1 hb).1; omega)⟩
    obtain ⟨sn2, hss2⟩ : ∃ sn, ss[n2]? = some sn := ⟨_, List.getElem?_eq_getElem (by have := (List.getElem?_eq_some_iff.1 hb2).1; omega)⟩
    intro k11 hk11
    have main : ∀ (x y : Nat) (w : World), Vc.Own B w0 w (RowsA capE ss (rowsOf bits H) :: BlkA b [slV sl] :: SlT slE sl ss :: BlkA q [.int .i64 (n2 : Int), .int .i64 (k2 : Int)] :: BlkA p [.int .i64 (n : Int), .int .i64 (k : Int)] :: BlkA x ((H ((n : Int), (k : Int))).getD zeroCap).cells :: BlkA y ((H ((n2 : Int), (k2 : Int))).getD zeroCap).cells :: R) → k11 ⟨x, 0, none⟩ ⟨y, 0, none⟩ w := by
      intro x y w h
      apply hk11
      (repeat (first | (refine h.al fun w h => ?_) | (refine h.dr fun w h => ?_) | (refine h.lc_2 rfl ?_) | (refine h.lc_6 rfl ?_) | (refine ⟨_, h.ldc rfl, ?_⟩) | (refine ⟨_, h.ldd rfl, ?_⟩) | (refine h.hd rfl ?_) | (refine ⟨h.ldc rfl, ?_⟩) | (refine ⟨h.ldd rfl, ?_⟩) | (refine h.stLc rfl rfl fun w h => ?_) | (refine exs ?_) | (refine _root_.Go.Vc.a2 ?_) | (refine h.stc rfl rfl fun w h => ?_) | (refine h.std rfl rfl fun w h => ?_)))
      refine h.ixc rfl hss fun a ha hc0 hc1 => ?_
      refine ⟨_, hc0 _ rfl, ?_⟩
      (repeat (first | (refine h.al fun w h => ?_) | (refine h.dr fun w h => ?_) | (refine h.lc_2 rfl ?_) | (refine h.lc_6 rfl ?_) | (refine ⟨_, h.ldc rfl, ?_⟩) | (refine ⟨_, h.ldd rfl, ?_⟩) | (refine h.hd rfl ?_) | (refine ⟨h.ldc rfl, ?_⟩) | (refine ⟨h.ldd rfl, ?_⟩) | (refine h.stLc rfl rfl fun w h => ?_) | (refine exs ?_) | (refine _root_.Go.Vc.a2 ?_) | (refine h.stc rfl rfl fun w h => ?_) | (refine h.std rfl rfl fun w h => ?_)))
      refine h.rget hss (rows_get hb) rfl (row_get hz hkl) fun a2 ha2 hd0 hd => ?_
      (repeat (first | (refine h.al fun w h => ?_) | (refine h.dr fun w h => ?_) | (refine h.lc_2 rfl ?_) | (refine h.lc_6 rfl ?_) | (refine ⟨_, h.ldc rfl, ?_⟩) | (refine ⟨_, h.ldd rfl, ?_⟩) | (refine h.hd rfl ?_) | (refine ⟨h.ldc rfl, ?_⟩) | (refine ⟨h.ldd rfl, ?_⟩) | (refine h.stLc rfl rfl fun w h => ?_) | (refine exs ?_) | (refine _root_.Go.Vc.a2 ?_) | (refine h.stc rfl rfl fun w h => ?_) | (refine h.std rfl rfl fun w h => ?_)))
      refine h.rset ((H ((n2 : Int), (k2 : Int))).getD zeroCap) hss (rows_get hb) rfl (by rw [row_len hz]; exact hkl) ha2 fun w h => ?_
      rw [← rows_upd hb hz hkl (H ((n2 : Int), (k2 : Int)))] at h
      (repeat (first | (refine h.al fun w h => ?_) | (refine h.dr fun w h => ?_) | (refine h.lc_2 rfl ?_) | (refine h.lc_6 rfl ?_) | (refine ⟨_, h.ldc rfl, ?_⟩) | (refine ⟨_, h.ldd rfl, ?_⟩) | (refine h.hd rfl ?_) | (refine ⟨h.ldc rfl, ?_⟩) | (refine ⟨h.ldd rfl, ?_⟩) | (refine h.stLc rfl rfl fun w h => ?_) | (refine exs ?_) | (refine _root_.Go.Vc.a2 ?_) | (refine h.stc rfl rfl fun w h => ?_) | (refine h.std rfl rfl fun w h => ?_)))
      refine h.ixc rfl hss2 fun a ha hc0 hc1 => ?_
      refine ⟨_, hc0 _ rfl, ?_⟩
      (repeat (first | (refine h.al fun w h => ?_) | (refine h.dr fun w h => ?_) | (refine h.lc_2 rfl ?_) | (refine h.lc_6 rfl ?_) | (refine ⟨_, h.ldc rfl, ?_⟩) | (refine ⟨_, h.ldd rfl, ?_⟩) | (refine h.hd rfl ?_) | (refine ⟨h.ldc rfl, ?_⟩) | (refine ⟨h.ldd rfl, ?_⟩) | (refine h.stLc rfl rfl fun w h => ?_) | (refine exs ?_) | (refine _root_.Go.Vc.a2 ?_) | (refine h.stc rfl rfl fun w h => ?_) | (refine h.std rfl rfl fun w h => ?_)))
      refine h.rget hss2 (rows_get hb2) rfl (row_get hz2 hkl2) fun a2 ha2 hd0 hd => ?_
      (repeat (first | (refine h.al fun w h => ?_) | (refine h.dr fun w h => ?_) | (refine h.lc_2 rfl ?_) | (refine h.lc_6 rfl ?_) | (refine ⟨_, h.ldc rfl, ?_⟩) | (refine ⟨_, h.ldd rfl, ?_⟩) | (refine h.hd rfl ?_) | (refine ⟨h.ldc rfl, ?_⟩) | (refine ⟨h.ldd rfl, ?_⟩) | (refine h.stLc rfl rfl fun w h => ?_) | (refine exs ?_) | (refine _root_.Go.Vc.a2 ?_) | (refine h.stc rfl rfl fun w h => ?_) | (refine h.std rfl rfl fun w h => ?_)))
      refine h.rset ((H ((n : Int), (k : Int))).getD zeroCap) hss2 (rows_get hb2) rfl (by rw [row_len hz2]; exact hkl2) ha2 fun w h => ?_
      rw [← rows_upd hb2 hz2 hkl2 (H ((n : Int), (k : Int)))] at h
      exact hK _ (Vc.Own.mk_rnodes (s := sl) (ss := ss) hks h.sub)
    (repeat (first | (refine h.al fun w h => ?_) | (refine h.dr fun w h => ?_) | (refine h.lc_2 rfl ?_) | (refine h.lc_6 rfl ?_) | (refine ⟨_, h.ldc rfl, ?_⟩) | (refine ⟨_, h.ldd rfl, ?_⟩) | (refine h.hd rfl ?_) | (refine ⟨h.ldc rfl, ?_⟩) | (refine ⟨h.ldd rfl, ?_⟩) | (refine h.stLc rfl rfl fun w h => ?_) | (refine exs ?_) | (refine _root_.Go.Vc.a2 ?_) | (refine h.stc rfl rfl fun w h => ?_) | (refine h.std rfl rfl fun w h => ?_)))
    refine h.ixc rfl hss fun a ha hc0 hc1 => ?_
    refine ⟨_, hc0 _ rfl, ?_⟩
    (repeat (first | (refine h.al fun w h => ?_) | (refine h.dr fun w h => ?_) | (refine h.lc_2 rfl ?_) | (refine h.lc_6 rfl ?_) | (refine ⟨_, h.ldc rfl, ?_⟩) | (refine ⟨_, h.ldd rfl, ?_⟩) | (refine h.hd rfl ?_) | (refine ⟨h.ldc rfl, ?_⟩) | (refine ⟨h.ldd rfl, ?_⟩) | (refine h.stLc rfl rfl fun w h => ?_) | (refine exs ?_) | (refine _root_.Go.Vc.a2 ?_) | (refine h.stc rfl rfl fun w h => ?_) | (refine h.std rfl rfl fun w h => ?_)))
    refine h.rget hss (rows_get hb) rfl (row_get hz hkl) fun a2 ha2 hd0 hd => ?_
    refine ldCap hd ?_
    (repeat (first | (refine h.al fun w h => ?_) | (refine h.dr fun w h => ?_) | (refine h.lc_2 rfl ?_) | (refine h.lc_6 rfl ?_) | (refine ⟨_, h.ldc rfl, ?_⟩) | (refine ⟨_, h.ldd rfl, ?_⟩) | (refine h.hd rfl ?_) | (refine ⟨h.ldc rfl, ?_⟩) | (refine ⟨h.ldd rfl, ?_⟩) | (refine h.stLc rfl rfl fun w h => ?_) | (refine exs ?_) | (refine _root_.Go.Vc.a2 ?_) | (refine h.stc rfl rfl fun w h => ?_) | (refine h.std rfl rfl fun w h => ?_)))
    refine h.ixc rfl hss2 fun a ha he0 hc1 => ?_
    refine ⟨_, he0 _ rfl, ?_⟩
    (repeat (first | (refine h.al fun w h => ?_) | (refine h.dr fun w h => ?_) | (refine h.lc_2 rfl ?_) | (refine h.lc_6 rfl ?_) | (refine ⟨_, h.ldc rfl, ?_⟩) | (refine ⟨_, h.ldd rfl, ?_⟩) | (refine h.hd rfl ?_) | (refine ⟨h.ldc rfl, ?_⟩) | (refine ⟨h.ldd rfl, ?_⟩) | (refine h.stLc rfl rfl fun w h => ?_) | (refine exs ?_) | (refine _root_.Go.Vc.a2 ?_) | (refine h.stc rfl rfl fun w h => ?_) | (refine h.std rfl rfl fun w h => ?_)))
    refine h.rget hss2 (rows_get hb2) rfl (row_get hz2 hkl2) fun a3 ha3 hf0 hf => ?_
    refine ldCap hf ?_
    clear hd0 hd hf0 hf hc0 hc1 he0
    have fin : ∀ (x y : Nat) (w : World), Vc.Own B w0 w (BlkA y ((H ((n2 : Int), (k2 : Int))).getD zeroCap).cells :: BlkA x ((H ((n : Int), (k : Int))).getD zeroCap).cells :: RowsA capE ss (rowsOf bits H) :: BlkA b [slV sl] :: SlT slE sl ss :: BlkA q [.int .i64 (n2 : Int), .int .i64 (k2 : Int)] :: BlkA p [.int .i64 (n : Int), .int .i64 (k : Int)] :: R) → k11 ⟨x, 0, none⟩ ⟨y, 0, none⟩ w := fun x y w h => main x y w h.sub
    refine ⟨?_, ?_, trivial⟩
    · refine h.al fun w3 h => ⟨?_, trivial⟩
      generalize w.heap.size = x at h ⊢
      refine h.al fun w4 h => ⟨?_, trivial⟩
      generalize w3.heap.size = y at h ⊢
      refine h.stLc rfl rfl fun w h => ?_
      (dsimp only [putAt, List.set_cons_zero, List.set_cons_succ] at h)
      refine hdCap (h.up2.relt hss2 (rows_get hb2) rfl (row_get hz2 hkl2) ha3).2 ?_
      refine ⟨h.ldc rfl, (h.elt (s := sl) rfl hss2 ha).1 _ rfl, h.ldc rfl, h.ldc rfl, ?_, trivial⟩
      refine h.stLc rfl rfl fun w h => ?_
      (dsimp only [putAt, List.set_cons_zero, List.set_cons_succ] at h)
      exact main x y w h.sub
    · refine h.al fun w3 h => ⟨?_, trivial⟩
      generalize w.heap.size = y at h ⊢
      refine h.al fun w4 h => ⟨?_, trivial⟩
      generalize w3.heap.size = x at h ⊢
      refine h.stLc rfl rfl fun w h => ?_
      (dsimp only [putAt, List.set_cons_zero, List.set_cons_succ] at h)
      refine hdCap (h.up2.relt hss2 (rows_get hb2) rfl (row_get hz2 hkl2) ha3).2 ?_
      refine ⟨h.ldc rfl, (h.elt (s := sl) rfl hss2 ha).1 _ rfl, h.ldc rfl, h.ldc rfl, ?_, trivial⟩
      refine h.stLc rfl rfl fun w h => ?_
      (dsimp only [putAt, List.set_cons_zero, List.set_cons_succ] at h)
      exact main x y w h.sub
end
end Go.Proofs.Ytdlcejjiccknlaa
