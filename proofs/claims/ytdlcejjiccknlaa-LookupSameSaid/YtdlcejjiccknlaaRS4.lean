/- The document's nodes of slots: moved, dropped, told. -/
import Derived.Test.YtdlcejjiccknlaaRS3
import Derived.Test.YtdlcejjiccknlaaS3
set_option linter.unusedVariables false
set_option linter.unusedSimpArgs false
set_option maxRecDepth 8000
namespace Go.Proofs.Ytdlcejjiccknlaa
open Go Go.Vc Go.Proofs

section
variable {B : Nat} {w0 w : World} {R L : List Asn} {b : Nat} {bits : List Int} {H : Hs}
theorem ref05_Move_spec {a c : Slot} {K : Int → World → Prop} (h : Vc.Own B w0 w (RNodesA b bits H :: R)) (hK : ∀ w', Vc.Own B w0 w' (RNodesA b bits (moveN bits H a c).2 :: R) → K (moveN bits H a c).1 w') : C.ref05_Nodes_Move (some ⟨b, 0, none⟩) a.1 a.2 c.1 c.2 K w := by
  apply S.ref05_Nodes_Move_ok
  unfold S.ref05_Nodes_Move
  refine h.al fun w1 h => ?_
  refine h.al fun w2 h => ?_
  generalize w.heap.size = p at h ⊢
  generalize w1.heap.size = q at h ⊢
  intro k8 hk8
  have no : ∀ w, (thereB bits a = false ∨ thereB bits c = false) → Vc.Own B w0 w (RNodesA b bits H :: R) → k8 true w := fun w e h => by
    apply hk8
    refine cbT rfl ?_
    have es : moveN bits H a c = (50, H) := by unfold moveN; rw [if_pos e]
    rw [es] at hK
    exact hK _ h
  (repeat (first | (refine h.al fun w h => ?_) | (refine h.dr fun w h => ?_) | (refine h.lc_2 rfl ?_) | (refine h.lc_6 rfl ?_) | (refine ⟨_, h.ldc rfl, ?_⟩) | (refine ⟨_, h.ldd rfl, ?_⟩) | (refine h.hd rfl ?_) | (refine ⟨h.ldc rfl, ?_⟩) | (refine ⟨h.ldd rfl, ?_⟩) | (refine h.stLc rfl rfl fun w h => ?_) | (refine exs ?_) | (refine _root_.Go.Vc.a2 ?_) | (refine h.stc rfl rfl fun w h => ?_) | (refine h.std rfl rfl fun w h => ?_)))
  refine ref05_Is_spec (s := a) h.up2 fun w h => ?_
  refine cnb (fun e => no _ (.inl e) h.sub) (fun ta => ?_)
  (repeat (first | (refine h.al fun w h => ?_) | (refine h.dr fun w h => ?_) | (refine h.lc_2 rfl ?_) | (refine h.lc_6 rfl ?_) | (refine ⟨_, h.ldc rfl, ?_⟩) | (refine ⟨_, h.ldd rfl, ?_⟩) | (refine h.hd rfl ?_) | (refine ⟨h.ldc rfl, ?_⟩) | (refine ⟨h.ldd rfl, ?_⟩) | (refine h.stLc rfl rfl fun w h => ?_) | (refine exs ?_) | (refine _root_.Go.Vc.a2 ?_) | (refine h.stc rfl rfl fun w h => ?_) | (refine h.std rfl rfl fun w h => ?_)))
  refine ref05_Is_spec (s := c) h fun w h => ?_
  cases tc : thereB bits c with
  | false => exact no _ (.inr tc) h.sub
  | true =>
    apply hk8
    refine cbF rfl ?_
    have hkk := h.rnok
    have hn : ¬ (thereB bits a = false ∨ thereB bits c = false) := by rw [ta, tc]; simp
    have ta' := ta
    have tc' := tc
    obtain ⟨n, k, z, rfl, hb, hz, hkl⟩ := there_some ta
    obtain ⟨n2, k2, z2, rfl, hb2, hz2, hkl2⟩ := there_some tc
    obtain ⟨sl, ss, hk, hsl, h⟩ := h.rnodes
    obtain ⟨sn, hss⟩ : ∃ sn, ss[n]? = some sn := ⟨_, List.getElem?_eq_getElem (by have := (List.getElem?_eq_some_iff.1 hb).1; omega)⟩
    obtain ⟨sn2, hss2⟩ : ∃ sn, ss[n2]? = some sn := ⟨_, List.getElem?_eq_getElem (by have := (List.getElem?_eq_some_iff.1 hb2).1; omega)⟩
    (repeat (first | (refine h.al fun w h => ?_) | (refine h.dr fun w h => ?_) | (refine h.lc_2 rfl ?_) | (refine h.lc_6 rfl ?_) | (refine ⟨_, h.ldc rfl, ?_⟩) | (refine ⟨_, h.ldd rfl, ?_⟩) | (refine h.hd rfl ?_) | (refine ⟨h.ldc rfl, ?_⟩) | (refine ⟨h.ldd rfl, ?_⟩) | (refine h.stLc rfl rfl fun w h => ?_) | (refine exs ?_) | (refine _root_.Go.Vc.a2 ?_) | (refine h.stc rfl rfl fun w h => ?_) | (refine h.std rfl rfl fun w h => ?_)))
    refine h.ixc rfl hss fun a ha hc0 hc1 => ?_
    refine ⟨_, hc0 _ rfl, ?_⟩
    (repeat (first | (refine h.al fun w h => ?_) | (refine h.dr fun w h => ?_) | (refine h.lc_2 rfl ?_) | (refine h.lc_6 rfl ?_) | (refine ⟨_, h.ldc rfl, ?_⟩) | (refine ⟨_, h.ldd rfl, ?_⟩) | (refine h.hd rfl ?_) | (refine ⟨h.ldc rfl, ?_⟩) | (refine ⟨h.ldd rfl, ?_⟩) | (refine h.stLc rfl rfl fun w h => ?_) | (refine exs ?_) | (refine _root_.Go.Vc.a2 ?_) | (refine h.stc rfl rfl fun w h => ?_) | (refine h.std rfl rfl fun w h => ?_)))
    refine h.rget hss (rows_get hb) rfl (row_get hz hkl) fun a2 ha2 hd0 hd => ?_
    refine ⟨((H ((n : Int), (k : Int))).getD zeroCap).kind, hd0 _ rfl, ?_⟩
    unfold moveN at hK
    rw [if_neg hn] at hK
    cases hx : H ((n : Int), (k : Int)) with
    | none =>
      rw [hx] at hK
      refine cbT rfl ?_
      exact hK _ (Vc.Own.mk_rnodes (s := sl) (ss := ss) hk h.sub)
    | some x =>
      rw [hx] at hK
      dsimp only at hK
      refine ceqF (hk.held _ _ hx).2.2.1 ?_
      (repeat (first | (refine h.al fun w h => ?_) | (refine h.dr fun w h => ?_) | (refine h.lc_2 rfl ?_) | (refine h.lc_6 rfl ?_) | (refine ⟨_, h.ldc rfl, ?_⟩) | (refine ⟨_, h.ldd rfl, ?_⟩) | (refine h.hd rfl ?_) | (refine ⟨h.ldc rfl, ?_⟩) | (refine ⟨h.ldd rfl, ?_⟩) | (refine h.stLc rfl rfl fun w h => ?_) | (refine exs ?_) | (refine _root_.Go.Vc.a2 ?_) | (refine h.stc rfl rfl fun w h => ?_) | (refine h.std rfl rfl fun w h => ?_)))
      refine h.ixc rfl hss2 fun a ha hc0 hc1 => ?_
      refine ⟨_, hc0 _ rfl, ?_⟩
      (repeat (first | (refine h.al fun w h => ?_) | (refine h.dr fun w h => ?_) | (refine h.lc_2 rfl ?_) | (refine h.lc_6 rfl ?_) | (refine ⟨_, h.ldc rfl, ?_⟩) | (refine ⟨_, h.ldd rfl, ?_⟩) | (refine h.hd rfl ?_) | (refine ⟨h.ldc rfl, ?_⟩) | (refine ⟨h.ldd rfl, ?_⟩) | (refine h.stLc rfl rfl fun w h => ?_) | (refine exs ?_) | (refine _root_.Go.Vc.a2 ?_) | (refine h.stc rfl rfl fun w h => ?_) | (refine h.std rfl rfl fun w h => ?_)))
      refine h.rget hss2 (rows_get hb2) rfl (row_get hz2 hkl2) fun a3 ha3 hf0 hf => ?_
      refine ⟨((H ((n2 : Int), (k2 : Int))).getD zeroCap).kind, hf0 _ rfl, ?_⟩
      cases hy : H ((n2 : Int), (k2 : Int)) with
      | some y =>
        rw [hy] at hK
        simp only [Option.isSome_some, if_true] at hK
        refine cneT (hk.held _ _ hy).2.2.1 ?_
        exact hK _ (Vc.Own.mk_rnodes (s := sl) (ss := ss) hk h.sub)
      | none =>
        rw [hy] at hK
        simp only [Option.isSome_none, Bool.false_eq_true, if_false] at hK
        refine cneF rfl ?_
        (repeat (first | (refine h.al fun w h => ?_) | (refine h.dr fun w h => ?_) | (refine h.lc_2 rfl ?_) | (refine h.lc_6 rfl ?_) | (refine ⟨_, h.ldc rfl, ?_⟩) | (refine ⟨_, h.ldd rfl, ?_⟩) | (refine h.hd rfl ?_) | (refine ⟨h.ldc rfl, ?_⟩) | (refine ⟨h.ldd rfl, ?_⟩) | (refine h.stLc rfl rfl fun w h => ?_) | (refine exs ?_) | (refine _root_.Go.Vc.a2 ?_) | (refine h.stc rfl rfl fun w h => ?_) | (refine h.std rfl rfl fun w h => ?_)))
        refine h.ixc rfl hss2 fun a ha hc0 hc1 => ?_
        refine ⟨_, hc0 _ rfl, ?_⟩
        (repeat (first | (refine h.al fun w h => ?_) | (refine h.dr fun w h => ?_) | (refine h.lc_2 rfl ?_) | (refine h.lc_6 rfl ?_) | (refine ⟨_, h.ldc rfl, ?_⟩) | (refine ⟨_, h.ldd rfl, ?_⟩) | (refine h.hd rfl ?_) | (refine ⟨h.ldc rfl, ?_⟩) | (refine ⟨h.ldd rfl, ?_⟩) | (refine h.stLc rfl rfl fun w h => ?_) | (refine exs ?_) | (refine _root_.Go.Vc.a2 ?_) | (refine h.stc rfl rfl fun w h => ?_) | (refine h.std rfl rfl fun w h => ?_)))
        refine h.ixc rfl hss fun a ha hc0 hc1 => ?_
        refine ⟨_, hc0 _ rfl, ?_⟩
        (repeat (first | (refine h.al fun w h => ?_) | (refine h.dr fun w h => ?_) | (refine h.lc_2 rfl ?_) | (refine h.lc_6 rfl ?_) | (refine ⟨_, h.ldc rfl, ?_⟩) | (refine ⟨_, h.ldd rfl, ?_⟩) | (refine h.hd rfl ?_) | (refine ⟨h.ldc rfl, ?_⟩) | (refine ⟨h.ldd rfl, ?_⟩) | (refine h.stLc rfl rfl fun w h => ?_) | (refine exs ?_) | (refine _root_.Go.Vc.a2 ?_) | (refine h.stc rfl rfl fun w h => ?_) | (refine h.std rfl rfl fun w h => ?_)))
        refine h.rget hss (rows_get hb) rfl (row_get hz hkl) fun a2 ha2 hd0 hd => ?_
        rw [hx] at hd
        refine ldCap hd ?_
        refine h.rget hss2 (rows_get hb2) rfl (row_get hz2 hkl2) fun a3 ha3 hf0 hf => ?_
        (repeat (first | (refine h.al fun w h => ?_) | (refine h.dr fun w h => ?_) | (refine h.lc_2 rfl ?_) | (refine h.lc_6 rfl ?_) | (refine ⟨_, h.ldc rfl, ?_⟩) | (refine ⟨_, h.ldd rfl, ?_⟩) | (refine h.hd rfl ?_) | (refine ⟨h.ldc rfl, ?_⟩) | (refine ⟨h.ldd rfl, ?_⟩) | (refine h.stLc rfl rfl fun w h => ?_) | (refine exs ?_) | (refine _root_.Go.Vc.a2 ?_) | (refine h.stc rfl rfl fun w h => ?_) | (refine h.std rfl rfl fun w h => ?_)))
        refine h.rset x hss2 (rows_get hb2) rfl (by rw [row_len hz2]; exact hkl2) ha3 fun w h => ?_
        rw [show (rowsOf bits H).set n2 ((rowOf H n2 z2).set k2 x) = rowsOf bits (updH H ((n2 : Int), (k2 : Int)) (some x)) from (rows_upd hb2 hz2 hkl2 (some x)).symm] at h
        (repeat (first | (refine h.al fun w h => ?_) | (refine h.dr fun w h => ?_) | (refine h.lc_2 rfl ?_) | (refine h.lc_6 rfl ?_) | (refine ⟨_, h.ldc rfl, ?_⟩) | (refine ⟨_, h.ldd rfl, ?_⟩) | (refine h.hd rfl ?_) | (refine ⟨h.ldc rfl, ?_⟩) | (refine ⟨h.ldd rfl, ?_⟩) | (refine h.stLc rfl rfl fun w h => ?_) | (refine exs ?_) | (refine _root_.Go.Vc.a2 ?_) | (refine h.stc rfl rfl fun w h => ?_) | (refine h.std rfl rfl fun w h => ?_)))
        refine h.ixc rfl hss fun a ha hc0 hc1 => ?_
        refine ⟨_, hc0 _ rfl, ?_⟩
        (repeat (first | (refine h.al fun w h => ?_) | (refine h.dr fun w h => ?_) | (refine h.lc_2 rfl ?_) | (refine h.lc_6 rfl ?_) | (refine ⟨_, h.ldc rfl, ?_⟩) | (refine ⟨_, h.ldd rfl, ?_⟩) | (refine h.hd rfl ?_) | (refine ⟨h.ldc rfl, ?_⟩) | (refine ⟨h.ldd rfl, ?_⟩) | (refine h.stLc rfl rfl fun w h => ?_) | (refine exs ?_) | (refine _root_.Go.Vc.a2 ?_) | (refine h.stc rfl rfl fun w h => ?_) | (refine h.std rfl rfl fun w h => ?_)))
        refine h.rget hss (rows_get hb) rfl (row_get hz hkl) fun a2 ha2 hd0 hd => ?_
        (repeat (first | (refine h.al fun w h => ?_) | (refine h.dr fun w h => ?_) | (refine h.lc_2 rfl ?_) | (refine h.lc_6 rfl ?_) | (refine ⟨_, h.ldc rfl, ?_⟩) | (refine ⟨_, h.ldd rfl, ?_⟩) | (refine h.hd rfl ?_) | (refine ⟨h.ldc rfl, ?_⟩) | (refine ⟨h.ldd rfl, ?_⟩) | (refine h.stLc rfl rfl fun w h => ?_) | (refine exs ?_) | (refine _root_.Go.Vc.a2 ?_) | (refine h.stc rfl rfl fun w h => ?_) | (refine h.std rfl rfl fun w h => ?_)))
        refine h.rset zeroCap hss (rows_get hb) rfl (by rw [row_len hz]; exact hkl) ha2 fun w h => ?_
        rw [show (rowsOf bits (updH H ((n2 : Int), (k2 : Int)) (some x))).set n ((rowOf (updH H ((n2 : Int), (k2 : Int)) (some x)) n z).set k zeroCap) = rowsOf bits (updH (updH H ((n2 : Int), (k2 : Int)) (some x)) ((n : Int), (k : Int)) none) from (rows_upd hb hz hkl none).symm] at h
        have hne : ((n : Int), (k : Int)) ≠ ((n2 : Int), (k2 : Int)) := fun e => by rw [e, hy] at hx; cases hx
        have ee : updH (updH H ((n2 : Int), (k2 : Int)) (some x)) ((n : Int), (k : Int)) none = updH (updH H ((n : Int), (k : Int)) none) ((n2 : Int), (k2 : Int)) (some x) := by
          funext s
          unfold updH
          by_cases e1 : s = ((n : Int), (k : Int))
          · subst e1; rw [if_pos rfl, if_neg hne, if_pos rfl]
          · by_cases e2 : s = ((n2 : Int), (k2 : Int))
            · subst e2; rw [if_neg e1, if_pos rfl, if_pos rfl]
            · rw [if_neg e1, if_neg e2, if_neg e2, if_neg e1]
        rw [ee] at h
        obtain ⟨g1, g2, g3⟩ := hk.held _ _ hx
        exact hK _ (Vc.Own.mk_rnodes (s := sl) (ss := ss) ((hk.del _).put tc' g2 g3.1 g3.2) h.sub)
theorem ref05_Drop_spec {n : Int} {K : Int → World → Prop} (h : Vc.Own B w0 w (RNodesA b bits H :: R)) (h1 : sizeN bits n = none → ∀ w', Vc.Own B w0 w' (RNodesA b bits H :: R) → K 50 w')
    (h2 : (sizeN bits n).isSome = true → busyN H n → ∀ w', Vc.Own B w0 w' (RNodesA b bits H :: R) → K 51 w')
    (h3 : (sizeN bits n).isSome = true → ¬ busyN H n → ∀ w', Vc.Own B w0 w' (RNodesA b (bits.set n.toNat (-1)) H :: R) → K 0 w') : C.ref05_Nodes_Drop (some ⟨b, 0, none⟩) n K w := by
  apply S.ref05_Nodes_Drop_ok
  unfold S.ref05_Nodes_Drop
  refine ref05_Size_spec h fun w h => ?_
  cases hz : sizeN bits n with
  | none =>
    refine cbT rfl ?_
    exact h1 hz _ h
  | some z =>
    refine cbF rfl ?_
    obtain ⟨hn0, hb, hzz⟩ := sizeN_some hz
    obtain ⟨m, rfl⟩ := Int.eq_ofNat_of_zero_le hn0
    rw [Int.toNat_natCast] at hb h3
    have hrng := sizeN_rng h.rnok hz
    obtain ⟨sl, ss, hk, hsl, h⟩ := h.rnodes
    have hml := (List.getElem?_eq_some_iff.1 hb).1
    obtain ⟨sn, hss⟩ : ∃ sn, ss[m]? = some sn := ⟨_, List.getElem?_eq_getElem (by omega)⟩
    have hrl := h.row_len hss (rows_get hb)
    rw [row_len hzz] at hrl
    have hp8 : 2 ^ z.toNat ≤ 256 := by
      have : 2 ^ z.toNat ≤ 2 ^ 8 := Nat.pow_le_pow_right (by omega) (by omega)
      omega
    intro l6 hl6
    have loop : ∀ (j i : Nat) (w : World), i + j = 2 ^ z.toNat → (∀ k : Nat, k < i → H ((m : Int), (k : Int)) = none) → Vc.Own B w0 w (RowsA capE ss (rowsOf bits H) :: BlkA b [slV sl] :: SlT slE sl ss :: R) → l6 (i : Int) w := by
      intro j
      induction j with
      | zero =>
        intro i w hi hno h
        apply hl6
        (repeat (first | (refine h.al fun w h => ?_) | (refine h.dr fun w h => ?_) | (refine h.lc_2 rfl ?_) | (refine h.lc_6 rfl ?_) | (refine ⟨_, h.ldc rfl, ?_⟩) | (refine ⟨_, h.ldd rfl, ?_⟩) | (refine h.hd rfl ?_) | (refine ⟨h.ldc rfl, ?_⟩) | (refine ⟨h.ldd rfl, ?_⟩) | (refine h.stLc rfl rfl fun w h => ?_) | (refine exs ?_) | (refine _root_.Go.Vc.a2 ?_) | (refine h.stc rfl rfl fun w h => ?_) | (refine h.std rfl rfl fun w h => ?_)))
        refine h.ixc rfl hss fun a ha hc0 hc1 => ?_
        refine ⟨_, hc0 _ rfl, ?_⟩
        refine cdecF (by omega) ?_
        (repeat (first | (refine h.al fun w h => ?_) | (refine h.dr fun w h => ?_) | (refine h.lc_2 rfl ?_) | (refine h.lc_6 rfl ?_) | (refine ⟨_, h.ldc rfl, ?_⟩) | (refine ⟨_, h.ldd rfl, ?_⟩) | (refine h.hd rfl ?_) | (refine ⟨h.ldc rfl, ?_⟩) | (refine ⟨h.ldd rfl, ?_⟩) | (refine h.stLc rfl rfl fun w h => ?_) | (refine exs ?_) | (refine _root_.Go.Vc.a2 ?_) | (refine h.stc rfl rfl fun w h => ?_) | (refine h.std rfl rfl fun w h => ?_)))
        have hnb : ¬ busyN H m := by
          rintro ⟨i2, c, e⟩
          have hth := (hk.held _ _ e).1
          obtain ⟨n', k', z', e2, hb', hz', hk'⟩ := there_some hth
          simp only [Prod.mk.injEq] at e2
          obtain ⟨e3, rfl⟩ := e2
          have e3 : m = n' := by omega
          subst e3
          rw [hb] at hb'; cases hb'
          rw [hno k' (by omega)] at e; cases e
        refine h.ixc rfl hss fun a ha hc0 hc1 => ?_
        refine h.stEc (⟨none, 0, 0⟩ : Sl) (i := (m : Int)) (j := m) rfl (by omega) ha rfl fun w h => ?_
        have hrow := h.up1.rowsO.1
        have h4 := (h.up1.row hss (rows_get hb)).drop
        have h5 := (Vc.Own.nilS (E := capE) h4).row_back (ss := ss) (rows := rowsOf bits H) (j := m) hrow (by rw [rows_len]; exact hml)
        rw [← rows_drop hb] at h5
        have hnok := hk.drop hn0 hnb
        rw [Int.toNat_natCast] at hnok
        exact h3 (by rw [hz]; rfl) hnb _ (Vc.Own.mk_rnodes (s := sl) (ss := ss.set m ⟨none, 0, 0⟩) hnok h5.sub)
      | succ j ih =>
        intro i w hi hno h
        apply hl6
        (repeat (first | (refine h.al fun w h => ?_) | (refine h.dr fun w h => ?_) | (refine h.lc_2 rfl ?_) | (refine h.lc_6 rfl ?_) | (refine ⟨_, h.ldc rfl, ?_⟩) | (refine ⟨_, h.ldd rfl, ?_⟩) | (refine h.hd rfl ?_) | (refine ⟨h.ldc rfl, ?_⟩) | (refine ⟨h.ldd rfl, ?_⟩) | (refine h.stLc rfl rfl fun w h => ?_) | (refine exs ?_) | (refine _root_.Go.Vc.a2 ?_) | (refine h.stc rfl rfl fun w h => ?_) | (refine h.std rfl rfl fun w h => ?_)))
        refine h.ixc rfl hss fun a ha hc0 hc1 => ?_
        refine ⟨_, hc0 _ rfl, ?_⟩
        refine cdecT (by omega) ?_
        (repeat (first | (refine h.al fun w h => ?_) | (refine h.dr fun w h => ?_) | (refine h.lc_2 rfl ?_) | (refine h.lc_6 rfl ?_) | (refine ⟨_, h.ldc rfl, ?_⟩) | (refine ⟨_, h.ldd rfl, ?_⟩) | (refine h.hd rfl ?_) | (refine ⟨h.ldc rfl, ?_⟩) | (refine ⟨h.ldd rfl, ?_⟩) | (refine h.stLc rfl rfl fun w h => ?_) | (refine exs ?_) | (refine _root_.Go.Vc.a2 ?_) | (refine h.stc rfl rfl fun w h => ?_) | (refine h.std rfl rfl fun w h => ?_)))
        refine h.ixc rfl hss fun a ha hc0 hc1 => ?_
        refine ⟨_, hc0 _ rfl, ?_⟩
        refine h.rget hss (rows_get hb) (k := i) rfl (row_get hzz (by omega)) fun a2 ha2 hd0 hd => ?_
        refine ⟨((H ((m : Int), (i : Int))).getD zeroCap).kind, hd0 _ rfl, ?_⟩
        cases hx : H ((m : Int), (i : Int)) with
        | some x =>
          refine cneT (hk.held _ _ hx).2.2.1 ?_
          exact h2 (by rw [hz]; rfl) ⟨_, _, hx⟩ _ (Vc.Own.mk_rnodes (s := sl) (ss := ss) hk h.sub)
        | none =>
          refine cneF rfl ?_
          rw [show IntKind.i64.wrap ((i : Int) + 1) = ((i + 1 : Nat) : Int) from by rw [wr (by omega) (by omega)]; omega]
          refine ih (i + 1) w (by omega) (fun k hk => ?_) h
          by_cases e : k = i
          · rw [e]; exact hx
          · exact hno k (by omega)
    exact loop (2 ^ z.toNat) 0 w (by omega) (fun k hk => by omega) h
theorem upto_len {t : Slot} {hs : List (Slot × Cap)} (hk : NOk bits H) (hu : UpTo H t hs) : hs.length ≤ 16384 := by
  have := pigeonS 16384 (hs.map fun x => x.1.1 * 256 + x.1.2) (by
    refine List.pairwise_map.2 (List.Pairwise.imp_of_mem (fun {x y} hx hy hne e => ?_) hu.srt)
    have := hk.bound ((hu.mem x.1 x.2).1 hx).1
    have := hk.bound ((hu.mem y.1 y.2).1 hy).1
    simp only [ltS, decide_eq_true_eq] at hne
    omega) fun z hz => by
    obtain ⟨x, hx, rfl⟩ := List.mem_map.1 hz
    have := hk.bound ((hu.mem x.1 x.2).1 hx).1
    omega
  simpa using this
theorem held_row {i : Nat} {z : Int} (hk : NOk bits H) (hb : bits[i]? = some z) {k : Slot} {c : Cap} (e : H k = some c) (ek : k.1 = (i : Int)) : 0 ≤ k.2 ∧ k.2 < ((rowOf H i z).length : Int) := by
  obtain ⟨n', k', z', e2, hb', hz', hk'⟩ := there_some (hk.held _ _ e).1
  subst e2
  have : n' = i := by simp only at ek; omega
  subst this
  rw [hb] at hb'; cases hb'
  rw [row_len hz']
  exact ⟨by simp only; omega, by simp only; omega⟩
theorem ref05_Held_spec {K : Sl → World → Prop} (h : Vc.Own B w0 w (RNodesA b bits H :: R)) (hK : ∀ s hs w', IsHeld H hs → Vc.Own B w0 w' (SlT heldE s hs :: RNodesA b bits H :: R) → K s w') : C.ref05_Nodes_Held (some ⟨b, 0, none⟩) K w := by
  apply S.ref05_Nodes_Held_ok
  unfold S.ref05_Nodes_Held
  refine h.al fun w1 h => ?_
  generalize w.heap.size = p at h ⊢
  have h := Vc.Own.asSl (E := heldE) h [] rfl
  have h := h.up1
  obtain ⟨sl, ss, hk, hsl, h⟩ := h.rnodes
  have hfew := hk.few
  intro l3 hl3
  have loop : ∀ (j i : Nat) (out : Sl) (hs : List (Slot × Cap)) (w : World), i + j = bits.length → UpTo H ((i : Int), 0) hs → Vc.Own B w0 w (SlT heldE out hs :: RowsA capE ss (rowsOf bits H) :: BlkA b [slV sl] :: SlT slE sl ss :: R) → l3 out (i : Int) w := by
    intro j
    induction j with
    | zero =>
      intro i out hs w hi hu h
      apply hl3
      have hlen := h.lenc sl
      (repeat (first | (refine h.al fun w h => ?_) | (refine h.dr fun w h => ?_) | (refine h.lc_2 rfl ?_) | (refine h.lc_6 rfl ?_) | (refine ⟨_, h.ldc rfl, ?_⟩) | (refine ⟨_, h.ldd rfl, ?_⟩) | (refine h.hd rfl ?_) | (refine ⟨h.ldc rfl, ?_⟩) | (refine ⟨h.ldd rfl, ?_⟩) | (refine h.stLc rfl rfl fun w h => ?_) | (refine exs ?_) | (refine _root_.Go.Vc.a2 ?_) | (refine h.stc rfl rfl fun w h => ?_) | (refine h.std rfl rfl fun w h => ?_)))
      refine cdecF (by omega) ?_
      refine hK out hs _ ⟨hu.srt, fun k c => ?_⟩ (Vc.Own.up1 (Vc.Own.mk_rnodes (s := sl) (ss := ss) hk h.sub))
      rw [hu.mem]
      refine ⟨fun e => e.1, fun e => ⟨e, ?_⟩⟩
      obtain ⟨n', k', z', rfl, hb', hz', hk'⟩ := there_some (hk.held _ _ e).1
      have := (List.getElem?_eq_some_iff.1 hb').1
      simp only [ltS, decide_eq_true_eq]; omega
    | succ j ih =>
      intro i out hs w hi hu h
      apply hl3
      have hlen := h.lenc sl
      (repeat (first | (refine h.al fun w h => ?_) | (refine h.dr fun w h => ?_) | (refine h.lc_2 rfl ?_) | (refine h.lc_6 rfl ?_) | (refine ⟨_, h.ldc rfl, ?_⟩) | (refine ⟨_, h.ldd rfl, ?_⟩) | (refine h.hd rfl ?_) | (refine ⟨h.ldc rfl, ?_⟩) | (refine ⟨h.ldd rfl, ?_⟩) | (refine h.stLc rfl rfl fun w h => ?_) | (refine exs ?_) | (refine _root_.Go.Vc.a2 ?_) | (refine h.stc rfl rfl fun w h => ?_) | (refine h.std rfl rfl fun w h => ?_)))
      refine cdecT (by omega) ?_
      have hb : bits[i]? = some bits[i] := List.getElem?_eq_getElem (by omega)
      generalize bits[i] = z at hb
      obtain ⟨sn, hss⟩ : ∃ sn, ss[i]? = some sn := ⟨_, List.getElem?_eq_getElem (by omega)⟩
      have hrl := h.up1.row_len hss (rows_get hb)
      have hr256 : (rowOf H i z).length ≤ 256 := by
        by_cases hz : z = -1
        · unfold rowOf; rw [if_pos hz]; simp
        · rw [row_len hz]
          rcases hk.rng z (List.mem_of_getElem? hb) with e | e
          · exact absurd e hz
          · have : 2 ^ z.toNat ≤ 2 ^ 8 := Nat.pow_le_pow_right (by omega) (by omega)
            omega
      intro l9 hl9
      have loop2 : ∀ (j k : Nat) (out : Sl) (hs : List (Slot × Cap)) (w : World), k + j = (rowOf H i z).length → UpTo H ((i : Int), (k : Int)) hs → Vc.Own B w0 w (SlT heldE out hs :: RowsA capE ss (rowsOf bits H) :: BlkA b [slV sl] :: SlT slE sl ss :: R) → l9 out (k : Int) w := by
        intro j2
        induction j2 with
        | zero =>
          intro k out hs w hkj hu h
          apply hl9
          (repeat (first | (refine h.al fun w h => ?_) | (refine h.dr fun w h => ?_) | (refine h.lc_2 rfl ?_) | (refine h.lc_6 rfl ?_) | (refine ⟨_, h.ldc rfl, ?_⟩) | (refine ⟨_, h.ldd rfl, ?_⟩) | (refine h.hd rfl ?_) | (refine ⟨h.ldc rfl, ?_⟩) | (refine ⟨h.ldd rfl, ?_⟩) | (refine h.stLc rfl rfl fun w h => ?_) | (refine exs ?_) | (refine _root_.Go.Vc.a2 ?_) | (refine h.stc rfl rfl fun w h => ?_) | (refine h.std rfl rfl fun w h => ?_)))
          refine h.ixc rfl hss fun a ha hc0 hc1 => ?_
          refine ⟨_, hc0 _ rfl, ?_⟩
          refine cdecF (by omega) ?_
          rw [show IntKind.i64.wrap ((i : Int) + 1) = ((i + 1 : Nat) : Int) from by rw [wr (by omega) (by omega)]; omega]
          refine ih (i + 1) out hs w (by omega) (hu.none fun s c e => ?_) h
          have hbd := hk.bound e
          have : s.1 = (i : Int) → s.2 < ((rowOf H i z).length : Int) := fun ek => (held_row hk hb e ek).2
          simp only [ltS, decide_eq_true_eq]; omega
        | succ j2 ih2 =>
          intro k out hs w hkj hu h
          apply hl9
          (repeat (first | (refine h.al fun w h => ?_) | (refine h.dr fun w h => ?_) | (refine h.lc_2 rfl ?_) | (refine h.lc_6 rfl ?_) | (refine ⟨_, h.ldc rfl, ?_⟩) | (refine ⟨_, h.ldd rfl, ?_⟩) | (refine h.hd rfl ?_) | (refine ⟨h.ldc rfl, ?_⟩) | (refine ⟨h.ldd rfl, ?_⟩) | (refine h.stLc rfl rfl fun w h => ?_) | (refine exs ?_) | (refine _root_.Go.Vc.a2 ?_) | (refine h.stc rfl rfl fun w h => ?_) | (refine h.std rfl rfl fun w h => ?_)))
          refine h.ixc rfl hss fun a ha hc0 hc1 => ?_
          refine ⟨_, hc0 _ rfl, ?_⟩
          refine cdecT (by omega) ?_
          have hz : z ≠ -1 := fun e => by
            have : (rowOf H i z).length = 0 := by unfold rowOf; rw [if_pos e]; rfl
            omega
          have hkl : k < 2 ^ z.toNat := by rw [row_len hz] at hkj; omega
          (repeat (first | (refine h.al fun w h => ?_) | (refine h.dr fun w h => ?_) | (refine h.lc_2 rfl ?_) | (refine h.lc_6 rfl ?_) | (refine ⟨_, h.ldc rfl, ?_⟩) | (refine ⟨_, h.ldd rfl, ?_⟩) | (refine h.hd rfl ?_) | (refine ⟨h.ldc rfl, ?_⟩) | (refine ⟨h.ldd rfl, ?_⟩) | (refine h.stLc rfl rfl fun w h => ?_) | (refine exs ?_) | (refine _root_.Go.Vc.a2 ?_) | (refine h.stc rfl rfl fun w h => ?_) | (refine h.std rfl rfl fun w h => ?_)))
          refine h.ixc rfl hss fun a ha hc0 hc1 => ?_
          refine ⟨_, hc0 _ rfl, ?_⟩
          refine h.up1.rget hss (rows_get hb) (k := k) rfl (row_get hz hkl) fun a2 ha2 hd0 hd => ?_
          refine ⟨((H ((i : Int), (k : Int))).getD zeroCap).kind, hd0 _ rfl, ?_⟩
          have hw1 : IntKind.i64.wrap ((k : Int) + 1) = ((k + 1 : Nat) : Int) := by rw [wr (by omega) (by omega)]; omega
          cases hx : H ((i : Int), (k : Int)) with
          | none =>
            refine cneF rfl ?_
            rw [hw1]
            refine ih2 (k + 1) out hs w (by omega) (hu.none fun s c e => ?_) h
            have : s ≠ ((i : Int), (k : Int)) := fun e2 => by rw [e2, hx] at e; cases e
            have : s.1 ≠ (i : Int) ∨ s.2 ≠ (k : Int) := by
              by_cases e1 : s.1 = (i : Int)
              · exact .inr fun e2 => this (Prod.ext e1 e2)
              · exact .inl e1
            simp only [ltS, decide_eq_true_eq]; omega
          | some x =>
            refine cneT (hk.held _ _ hx).2.2.1 ?_
            have hul := upto_len hk hu
            (repeat (first | (refine h.al fun w h => ?_) | (refine h.dr fun w h => ?_) | (refine h.lc_2 rfl ?_) | (refine h.lc_6 rfl ?_) | (refine ⟨_, h.ldc rfl, ?_⟩) | (refine ⟨_, h.ldd rfl, ?_⟩) | (refine h.hd rfl ?_) | (refine ⟨h.ldc rfl, ?_⟩) | (refine ⟨h.ldd rfl, ?_⟩) | (refine h.stLc rfl rfl fun w h => ?_) | (refine exs ?_) | (refine _root_.Go.Vc.a2 ?_) | (refine h.stc rfl rfl fun w h => ?_) | (refine h.std rfl rfl fun w h => ?_)))
            refine h.ixc rfl hss fun a ha hc0 hc1 => ?_
            refine ⟨_, hc0 _ rfl, ?_⟩
            refine h.up1.rget hss (rows_get hb) (k := k) rfl (row_get hz hkl) fun a2 ha2 hd0 hd => ?_
            rw [hx] at hd
            refine ldCap hd ?_
            refine h.al fun w3 h => ?_
            generalize w.heap.size = d3 at h ⊢
            refine app1_held (s := out) (y := (((i : Int), (k : Int)), x)) h (by omega) fun s' w hs' h => ?_
            rw [hw1]
            exact ih2 (k + 1) s' _ w (by omega) (by
              have := hu.add hx
              rwa [show ((k : Int) + 1) = ((k + 1 : Nat) : Int) from by omega] at this) h.sub
      exact loop2 (rowOf H i z).length 0 out hs w (by omega) hu h
  refine loop bits.length 0 _ [] w1 (by omega) ⟨List.Pairwise.nil, fun k c => ?_⟩ h.sub
  constructor
  · intro e; cases e
  · rintro ⟨e, e2⟩
    have := hk.bound e
    simp only [ltS, decide_eq_true_eq] at e2
    omega
end
end Go.Proofs.Ytdlcejjiccknlaa
