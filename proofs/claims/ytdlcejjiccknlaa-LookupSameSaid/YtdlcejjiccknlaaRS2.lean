/- The document's nodes of slots, more: a node's size; a new node; a capability put into a slot. -/
import Derived.Test.YtdlcejjiccknlaaRS
import Derived.Test.YtdlcejjiccknlaaS3
set_option linter.unusedVariables false
set_option linter.unusedSimpArgs false
set_option maxRecDepth 8000
namespace Go.Proofs.Ytdlcejjiccknlaa
open Go Go.Vc Go.Proofs

theorem two_inj {a b : Nat} (h : 2 ^ a = 2 ^ b) : a = b := (Nat.pow_right_inj (by decide)).1 h
theorem sizeN_nat {bits : List Int} {n : Nat} {z : Int} (h : bits[n]? = some z) : sizeN bits (n : Int) = if z = -1 then none else some z := by
  unfold sizeN; rw [if_neg (by omega), Int.toNat_natCast, h]
theorem rows_snoc {bits : List Int} {H : Hs} (hk : NOk bits H) {z : Int} (hz : z ≠ -1) : rowsOf (bits ++ [z]) H = rowsOf bits H ++ [List.replicate (2 ^ z.toNat) zeroCap] := by
  unfold rowsOf
  rw [List.mapIdx_concat]
  congr 2
  unfold rowOf
  rw [if_neg hz]
  apply List.ext_getElem?
  intro k
  rw [List.getElem?_map]
  rcases Nat.lt_or_ge k (2 ^ z.toNat) with hj | hj
  · rw [List.getElem?_range hj, List.getElem?_replicate, if_pos hj]
    simp only [Option.map_some, Option.some.injEq]
    cases hs : H ((bits.length : Int), (k : Int)) with
    | none => rfl
    | some c =>
      have := (hk.held _ _ hs).1
      unfold thereB sizeN at this
      rw [if_neg (by simp only; omega)] at this
      simp only [Int.toNat_natCast, List.getElem?_eq_none (Nat.le_refl _)] at this
      cases this
  · rw [List.getElem?_eq_none (by simpa using hj), List.getElem?_eq_none (by simpa using hj)]; rfl

section
variable {B : Nat} {w0 w : World} {R L : List Asn} {b : Nat} {bits : List Int} {H : Hs}
theorem ref05_Size_spec {n : Int} {K : Int → Bool → World → Prop} (h : Own B w0 w (RNodesA b bits H :: R)) (hK : ∀ w', Own B w0 w' (RNodesA b bits H :: R) → K ((sizeN bits n).getD 0) (sizeN bits n).isSome w') : C.ref05_Nodes_Size (some ⟨b, 0, none⟩) n K w := by
  apply S.ref05_Nodes_Size_ok
  unfold S.ref05_Nodes_Size
  obtain ⟨sl, ss, hk, hsl, h⟩ := h.rnodes
  have hlen := h.lenc sl
  intro k3 hk3
  have fin : ∀ w, Own B w0 w (RowsA capE ss (rowsOf bits H) :: BlkA b [slV sl] :: SlT slE sl ss :: R) → Own B w0 w (RNodesA b bits H :: R) := fun w h => Own.mk_rnodes (s := sl) (ss := ss) hk h.sub
  have hN : sizeN bits n = none → k3 true w := fun e => by
    apply hk3
    rw [e] at hK
    exact cbT rfl (hK _ (fin _ h))
  refine cdec (fun e1 => hN (by unfold sizeN; rw [if_pos e1])) (fun e1 => ?_)
  (repeat (first | (refine h.al fun w h => ?_) | (refine h.dr fun w h => ?_) | (refine h.lc_2 rfl ?_) | (refine h.lc_6 rfl ?_) | (refine ⟨_, h.ldc rfl, ?_⟩) | (refine ⟨_, h.ldd rfl, ?_⟩) | (refine h.hd rfl ?_) | (refine ⟨h.ldc rfl, ?_⟩) | (refine ⟨h.ldd rfl, ?_⟩) | (refine h.stLc rfl rfl fun w h => ?_) | (refine exs ?_) | (refine _root_.Go.Vc.a2 ?_) | (refine h.stc rfl rfl fun w h => ?_) | (refine h.std rfl rfl fun w h => ?_)))
  refine cdec (fun e2 => hN (by unfold sizeN; rw [if_neg e1, List.getElem?_eq_none (by omega)])) (fun e2 => ?_)
  obtain ⟨j, rfl⟩ := Int.eq_ofNat_of_zero_le (show 0 ≤ n by omega)
  have hjl : j < bits.length := by omega
  obtain ⟨z, hb⟩ : ∃ z, bits[j]? = some z := ⟨_, List.getElem?_eq_getElem hjl⟩
  obtain ⟨sn, hss⟩ : ∃ sn, ss[j]? = some sn := ⟨_, List.getElem?_eq_getElem (by omega)⟩
  have hrl := h.row_len hss (rows_get hb)
  have hsz := sizeN_nat hb
  (repeat (first | (refine h.al fun w h => ?_) | (refine h.dr fun w h => ?_) | (refine h.lc_2 rfl ?_) | (refine h.lc_6 rfl ?_) | (refine ⟨_, h.ldc rfl, ?_⟩) | (refine ⟨_, h.ldd rfl, ?_⟩) | (refine h.hd rfl ?_) | (refine ⟨h.ldc rfl, ?_⟩) | (refine ⟨h.ldd rfl, ?_⟩) | (refine h.stLc rfl rfl fun w h => ?_) | (refine exs ?_) | (refine _root_.Go.Vc.a2 ?_) | (refine h.stc rfl rfl fun w h => ?_) | (refine h.std rfl rfl fun w h => ?_)))
  refine h.ixc rfl hss fun a ha hc0 hc => ?_
  refine ⟨_, hc0 _ rfl, ?_⟩
  by_cases hz : z = -1
  · rw [if_pos hz] at hsz
    unfold rowOf at hrl
    rw [if_pos hz] at hrl
    rw [show ((sn.len : Int) == 0) = true from by rw [hrl]; rfl]
    exact hN hsz
  rw [if_neg hz] at hsz
  rw [row_len hz] at hrl
  have hzr : 1 ≤ z ∧ z ≤ 8 := by
    rcases hk.rng z (List.mem_of_getElem? hb) with e | e
    · exact absurd e hz
    · exact e
  obtain ⟨m, rfl⟩ := Int.eq_ofNat_of_zero_le (show 0 ≤ z by omega)
  rw [Int.toNat_natCast] at hrl
  have hp := Nat.two_pow_pos m
  rw [show ((sn.len : Int) == 0) = false from by rw [hrl, beq_eq_false_iff_ne]; exact Int.ne_of_gt (Int.ofNat_lt.2 hp)]
  apply hk3
  refine cbF rfl ?_
  intro l hl
  have loop : ∀ (f i : Nat) (w : World), i + f = 8 → 1 ≤ i → i ≤ m → Own B w0 w (RowsA capE ss (rowsOf bits H) :: BlkA b [slV sl] :: SlT slE sl ss :: R) → l (i : Int) w := by
    intro f
    induction f with
    | zero =>
      intro i w h1 h2 h3 h
      apply hl
      refine cdecF (by omega) ?_
      have : (m : Int) = 8 := by omega
      rw [hsz, this] at hK
      exact hK _ (fin _ h)
    | succ f ih =>
      intro i w h1 h2 h3 h
      apply hl
      refine cdecT (by omega) ?_
      intro k9 hk9
      have ht : ∀ w, Own B w0 w (RowsA capE ss (rowsOf bits H) :: BlkA b [slV sl] :: SlT slE sl ss :: R) → k9 ((sn.len : Int) == IntKind.i64.wrap ((2 ^ i : Nat) : Int)) w := fun w h => by
        have hle : 2 ^ i ≤ 2 ^ 8 := Nat.pow_le_pow_right (by omega) (by omega)
        rw [wr (Int.le_trans (by decide) (Int.natCast_nonneg _)) (by omega), hrl]
        apply hk9
        by_cases e : m = i
        · subst e
          rw [beq_self_eq_true]
          rw [hsz] at hK
          exact cbT rfl (hK _ (fin _ h))
        · rw [show (((2 ^ m : Nat) : Int) == ((2 ^ i : Nat) : Int)) = false from by rw [beq_eq_false_iff_ne]; intro h; exact e (two_inj (Int.ofNat.inj h))]
          refine cbF rfl ?_
          rw [wr (by omega) (by omega)]
          exact ih (i + 1) w (by omega) (by omega) (by omega) h
      (repeat (first | (refine h.al fun w h => ?_) | (refine h.dr fun w h => ?_) | (refine h.lc_2 rfl ?_) | (refine h.lc_6 rfl ?_) | (refine ⟨_, h.ldc rfl, ?_⟩) | (refine ⟨_, h.ldd rfl, ?_⟩) | (refine h.hd rfl ?_) | (refine ⟨h.ldc rfl, ?_⟩) | (refine ⟨h.ldd rfl, ?_⟩) | (refine h.stLc rfl rfl fun w h => ?_) | (refine exs ?_) | (refine _root_.Go.Vc.a2 ?_) | (refine h.stc rfl rfl fun w h => ?_) | (refine h.std rfl rfl fun w h => ?_)))
      refine ⟨?_, ?_, trivial⟩
      · (repeat (first | (refine h.al fun w h => ?_) | (refine h.dr fun w h => ?_) | (refine h.lc_2 rfl ?_) | (refine h.lc_6 rfl ?_) | (refine ⟨_, h.ldc rfl, ?_⟩) | (refine ⟨_, h.ldd rfl, ?_⟩) | (refine h.hd rfl ?_) | (refine ⟨h.ldc rfl, ?_⟩) | (refine ⟨h.ldd rfl, ?_⟩) | (refine h.stLc rfl rfl fun w h => ?_) | (refine exs ?_) | (refine _root_.Go.Vc.a2 ?_) | (refine h.stc rfl rfl fun w h => ?_) | (refine h.std rfl rfl fun w h => ?_)))
        refine h.ixc rfl hss fun a ha hc0 hc => ?_
        refine ⟨⟨_, hc0 _ rfl, a2 (ref01_Two_spec (by omega) (ht _ h))⟩, ?_, trivial⟩
        exact ref01_Two_spec (by omega) ⟨_, hc0 _ rfl, ht _ h⟩
      · refine ref01_Two_spec (by omega) ?_
        (repeat (first | (refine h.al fun w h => ?_) | (refine h.dr fun w h => ?_) | (refine h.lc_2 rfl ?_) | (refine h.lc_6 rfl ?_) | (refine ⟨_, h.ldc rfl, ?_⟩) | (refine ⟨_, h.ldd rfl, ?_⟩) | (refine h.hd rfl ?_) | (refine ⟨h.ldc rfl, ?_⟩) | (refine ⟨h.ldd rfl, ?_⟩) | (refine h.stLc rfl rfl fun w h => ?_) | (refine exs ?_) | (refine _root_.Go.Vc.a2 ?_) | (refine h.stc rfl rfl fun w h => ?_) | (refine h.std rfl rfl fun w h => ?_)))
        refine h.ixc rfl hss fun a ha hc0 hc => ?_
        exact ⟨_, hc0 _ rfl, ht _ h⟩
  exact loop 7 1 w (by omega) (by omega) (by omega) h
theorem app1_rows {w : World} {L R' : List Asn} {s : Sl} {xs : List Sl} {y : Sl} {c : Nat} {k : Sl → World → Prop} [I : SlIn s L Sl slE xs] [J : Pick (SlT slE s xs) L R'] (h : Own B w0 w (BlkA c [.slice y.a y.len y.cap] :: L)) (hbig : xs.length ≤ 1000000)
    (hk : ∀ s' w', s'.len = xs.length + 1 → Own B w0 w' (SlT slE s' (xs ++ [y]) :: R') → k s' w') :
    ∃ s' w', AppR Try.prog [74, 74] 74 (.slice s.a s.len s.cap) (.slice (some (Addr.mk c 0 none)) 1 1) w s' w' ∧ k s' w' :=
  Own.app1c (E := slE) (y := y) (R := R') Try.underlying74 (show Try.prog.info? 94 = some Try.t94 from by kernel_rfl) (zv := .slice none 0 0) (by kernel_rfl) (by kernel_rfl) rfl (by decide) h (by
    have e : Try.t94.bytes = 24 := by kernel_rfl
    rw [e]; omega) hk
theorem mk_caps {w : World} {L : List Asn} {n : Int} {k : Sl → World → Prop} (h : Own B w0 w L) (h0 : 0 ≤ n) (hn : n ≤ 1000000) (hk : ∀ s' w', s'.len = n.toNat → Own B w0 w' (SlT capE s' (List.replicate n.toNat zeroCap) :: L) → k s' w') :
    ∃ s' w', MkSlR Try.prog 94 (.int .i64 n) (.int .i64 n) w s' w' ∧ k s' w' :=
  Own.mkSl (E := capE) (z0 := zeroCap) Try.underlying94 (show Try.prog.info? 38 = some Try.t38 from by kernel_rfl) (zv := encCap zeroCap) (by kernel_rfl) (by kernel_rfl) rfl h h0 (by
    have e : Try.t38.bytes = 48 := by kernel_rfl
    rw [e]; omega) (by omega) hk

theorem ref05_Make_spec {z : Int} {K : Int → Int → World → Prop} (h : Own B w0 w (RNodesA b bits H :: R)) (hK : ∀ w', Own B w0 w' (RNodesA b (makeN bits z).2.2 H :: R) → K (makeN bits z).1 (makeN bits z).2.1 w') : C.ref05_Nodes_Make (some ⟨b, 0, none⟩) z K w := by
  apply S.ref05_Nodes_Make_ok
  unfold S.ref05_Nodes_Make
  intro k3 hk3
  have h3 : (z < 1 ∨ 8 < z) → k3 true w := fun e => by
    apply hk3
    have e2 : makeN bits z = (0, 1, bits) := by unfold makeN; rw [if_pos e]
    rw [e2] at hK
    exact cbT rfl (hK _ h)
  refine cdec (fun e => h3 (.inl e)) (fun e1 => ?_)
  by_cases e2 : 8 < z
  · rw [decide_eq_true (by omega)]; exact h3 (.inr e2)
  rw [decide_eq_false (by omega)]
  apply hk3
  refine cbF rfl ?_
  obtain ⟨sl, ss, hk, hsl, h⟩ := h.rnodes
  have hlen := h.lenc sl
  have hfew := hk.few
  (repeat (first | (refine h.al fun w h => ?_) | (refine h.dr fun w h => ?_) | (refine h.lc_2 rfl ?_) | (refine h.lc_6 rfl ?_) | (refine ⟨_, h.ldc rfl, ?_⟩) | (refine ⟨_, h.ldd rfl, ?_⟩) | (refine h.hd rfl ?_) | (refine ⟨h.ldc rfl, ?_⟩) | (refine ⟨h.ldd rfl, ?_⟩) | (refine h.stLc rfl rfl fun w h => ?_) | (refine exs ?_) | (refine _root_.Go.Vc.a2 ?_) | (refine h.stc rfl rfl fun w h => ?_) | (refine h.std rfl rfl fun w h => ?_)))
  refine cdec (fun e3 => ?_) (fun e3 => ?_)
  · have e4 : makeN bits z = (0, 2, bits) := by unfold makeN; rw [if_neg (by omega), if_pos (by omega)]
    rw [e4] at hK
    exact hK _ (Own.mk_rnodes (s := sl) (ss := ss) hk h.sub)
  have e4 : makeN bits z = ((bits.length : Int), 0, bits ++ [z]) := by unfold makeN; rw [if_neg (by omega), if_neg (by omega)]
  rw [e4] at hK
  obtain ⟨m, rfl⟩ := Int.eq_ofNat_of_zero_le (show 0 ≤ z by omega)
  have hle : 2 ^ m ≤ 2 ^ 8 := Nat.pow_le_pow_right (by omega) (by omega)
  intro k8 hk8
  have fin : ∀ (w : World) (s' sn : Sl), s'.len = ss.length + 1 → Own B w0 w (SlT slE s' (ss ++ [sn]) :: SlT capE sn (List.replicate (2 ^ m) zeroCap) :: RowsA capE ss (rowsOf bits H) :: BlkA b [slV s'] :: R) → k8 w := by
    intro w s' sn hs' h
    apply hk8
    (repeat (first | (refine h.al fun w h => ?_) | (refine h.dr fun w h => ?_) | (refine h.lc_2 rfl ?_) | (refine h.lc_6 rfl ?_) | (refine ⟨_, h.ldc rfl, ?_⟩) | (refine ⟨_, h.ldd rfl, ?_⟩) | (refine h.hd rfl ?_) | (refine ⟨h.ldc rfl, ?_⟩) | (refine ⟨h.ldd rfl, ?_⟩) | (refine h.stLc rfl rfl fun w h => ?_) | (refine exs ?_) | (refine _root_.Go.Vc.a2 ?_) | (refine h.stc rfl rfl fun w h => ?_) | (refine h.std rfl rfl fun w h => ?_)))
    rw [show IntKind.i64.wrap ((s'.len : Int) - 1) = (bits.length : Int) from by rw [wr (by omega) (by omega)]; omega]
    have h2 : Own B w0 w (RowsA capE (ss ++ [sn]) (rowsOf bits H ++ [List.replicate (2 ^ m) zeroCap]) :: SlT slE s' (ss ++ [sn]) :: BlkA b [slV s'] :: R) := Own.row_add h.sub
    have h3 := rows_snoc (z := (m : Int)) hk (by omega)
    rw [Int.toNat_natCast] at h3
    rw [← h3] at h2
    exact hK _ (Own.mk_rnodes (s := s') (ss := ss ++ [sn]) (hk.make (by omega) (by omega) (by omega)) h2.sub)
  have mk : ∀ (w : World) (k : Sl → World → Prop), Own B w0 w (RowsA capE ss (rowsOf bits H) :: BlkA b [slV sl] :: SlT slE sl ss :: R) →
      (∀ s' w', Own B w0 w' (SlT capE s' (List.replicate (2 ^ m) zeroCap) :: RowsA capE ss (rowsOf bits H) :: BlkA b [slV sl] :: SlT slE sl ss :: R) → k s' w') →
      ∃ s' w', MkSlR Try.prog 94 (.int .i64 (IntKind.i64.wrap ((2 ^ m : Nat) : Int))) (.int .i64 (IntKind.i64.wrap ((2 ^ m : Nat) : Int))) w s' w' ∧ k s' w' := fun w k h hk => by
    rw [wr (Int.le_trans (by decide) (Int.natCast_nonneg _)) (by omega)]
    refine mk_caps h (Int.natCast_nonneg _) (by omega) fun s' w' hs' h' => ?_
    rw [Int.toNat_natCast] at h'
    exact hk s' w' h'
  (repeat (first | (refine h.al fun w h => ?_) | (refine h.dr fun w h => ?_) | (refine h.lc_2 rfl ?_) | (refine h.lc_6 rfl ?_) | (refine ⟨_, h.ldc rfl, ?_⟩) | (refine ⟨_, h.ldd rfl, ?_⟩) | (refine h.hd rfl ?_) | (refine ⟨h.ldc rfl, ?_⟩) | (refine ⟨h.ldd rfl, ?_⟩) | (refine h.stLc rfl rfl fun w h => ?_) | (refine exs ?_) | (refine _root_.Go.Vc.a2 ?_) | (refine h.stc rfl rfl fun w h => ?_) | (refine h.std rfl rfl fun w h => ?_)))
  refine ⟨?_, ?_, trivial⟩
  · (repeat (first | (refine h.al fun w h => ?_) | (refine h.dr fun w h => ?_) | (refine h.lc_2 rfl ?_) | (refine h.lc_6 rfl ?_) | (refine ⟨_, h.ldc rfl, ?_⟩) | (refine ⟨_, h.ldd rfl, ?_⟩) | (refine h.hd rfl ?_) | (refine ⟨h.ldc rfl, ?_⟩) | (refine ⟨h.ldd rfl, ?_⟩) | (refine h.stLc rfl rfl fun w h => ?_) | (refine exs ?_) | (refine _root_.Go.Vc.a2 ?_) | (refine h.stc rfl rfl fun w h => ?_) | (refine h.std rfl rfl fun w h => ?_)))
    refine ref01_Two_spec (by omega) ?_
    (repeat (first | (refine h.al fun w h => ?_) | (refine h.dr fun w h => ?_) | (refine h.lc_2 rfl ?_) | (refine h.lc_6 rfl ?_) | (refine ⟨_, h.ldc rfl, ?_⟩) | (refine ⟨_, h.ldd rfl, ?_⟩) | (refine h.hd rfl ?_) | (refine ⟨h.ldc rfl, ?_⟩) | (refine ⟨h.ldd rfl, ?_⟩) | (refine h.stLc rfl rfl fun w h => ?_) | (refine exs ?_) | (refine _root_.Go.Vc.a2 ?_) | (refine h.stc rfl rfl fun w h => ?_) | (refine h.std rfl rfl fun w h => ?_)))
    refine mk _ _ h fun sn w h => ?_
    (repeat (first | (refine h.al fun w h => ?_) | (refine h.dr fun w h => ?_) | (refine h.lc_2 rfl ?_) | (refine h.lc_6 rfl ?_) | (refine ⟨_, h.ldc rfl, ?_⟩) | (refine ⟨_, h.ldd rfl, ?_⟩) | (refine h.hd rfl ?_) | (refine ⟨h.ldc rfl, ?_⟩) | (refine ⟨h.ldd rfl, ?_⟩) | (refine h.stLc rfl rfl fun w h => ?_) | (refine exs ?_) | (refine _root_.Go.Vc.a2 ?_) | (refine h.stc rfl rfl fun w h => ?_) | (refine h.std rfl rfl fun w h => ?_)))
    refine app1_rows h (by omega) fun s' w hs' h => ?_
    (repeat (first | (refine h.al fun w h => ?_) | (refine h.dr fun w h => ?_) | (refine h.lc_2 rfl ?_) | (refine h.lc_6 rfl ?_) | (refine ⟨_, h.ldc rfl, ?_⟩) | (refine ⟨_, h.ldd rfl, ?_⟩) | (refine h.hd rfl ?_) | (refine ⟨h.ldc rfl, ?_⟩) | (refine ⟨h.ldd rfl, ?_⟩) | (refine h.stLc rfl rfl fun w h => ?_) | (refine exs ?_) | (refine _root_.Go.Vc.a2 ?_) | (refine h.stc rfl rfl fun w h => ?_) | (refine h.std rfl rfl fun w h => ?_)))
    (dsimp only [putAt, List.set_cons_zero, List.set_cons_succ] at h)
    exact fin _ s' sn hs' h.sub
  · refine ref01_Two_spec (by omega) ?_
    refine ⟨?_, ?_, trivial⟩
    · (repeat (first | (refine h.al fun w h => ?_) | (refine h.dr fun w h => ?_) | (refine h.lc_2 rfl ?_) | (refine h.lc_6 rfl ?_) | (refine ⟨_, h.ldc rfl, ?_⟩) | (refine ⟨_, h.ldd rfl, ?_⟩) | (refine h.hd rfl ?_) | (refine ⟨h.ldc rfl, ?_⟩) | (refine ⟨h.ldd rfl, ?_⟩) | (refine h.stLc rfl rfl fun w h => ?_) | (refine exs ?_) | (refine _root_.Go.Vc.a2 ?_) | (refine h.stc rfl rfl fun w h => ?_) | (refine h.std rfl rfl fun w h => ?_)))
      (repeat (first | (refine h.al fun w h => ?_) | (refine h.dr fun w h => ?_) | (refine h.lc_2 rfl ?_) | (refine h.lc_6 rfl ?_) | (refine ⟨_, h.ldc rfl, ?_⟩) | (refine ⟨_, h.ldd rfl, ?_⟩) | (refine h.hd rfl ?_) | (refine ⟨h.ldc rfl, ?_⟩) | (refine ⟨h.ldd rfl, ?_⟩) | (refine h.stLc rfl rfl fun w h => ?_) | (refine exs ?_) | (refine _root_.Go.Vc.a2 ?_) | (refine h.stc rfl rfl fun w h => ?_) | (refine h.std rfl rfl fun w h => ?_)))
      refine mk _ _ h fun sn w h => ?_
      (repeat (first | (refine h.al fun w h => ?_) | (refine h.dr fun w h => ?_) | (refine h.lc_2 rfl ?_) | (refine h.lc_6 rfl ?_) | (refine ⟨_, h.ldc rfl, ?_⟩) | (refine ⟨_, h.ldd rfl, ?_⟩) | (refine h.hd rfl ?_) | (refine ⟨h.ldc rfl, ?_⟩) | (refine ⟨h.ldd rfl, ?_⟩) | (refine h.stLc rfl rfl fun w h => ?_) | (refine exs ?_) | (refine _root_.Go.Vc.a2 ?_) | (refine h.stc rfl rfl fun w h => ?_) | (refine h.std rfl rfl fun w h => ?_)))
      refine app1_rows h (by omega) fun s' w hs' h => ?_
      (repeat (first | (refine h.al fun w h => ?_) | (refine h.dr fun w h => ?_) | (refine h.lc_2 rfl ?_) | (refine h.lc_6 rfl ?_) | (refine ⟨_, h.ldc rfl, ?_⟩) | (refine ⟨_, h.ldd rfl, ?_⟩) | (refine h.hd rfl ?_) | (refine ⟨h.ldc rfl, ?_⟩) | (refine ⟨h.ldd rfl, ?_⟩) | (refine h.stLc rfl rfl fun w h => ?_) | (refine exs ?_) | (refine _root_.Go.Vc.a2 ?_) | (refine h.stc rfl rfl fun w h => ?_) | (refine h.std rfl rfl fun w h => ?_)))
      (dsimp only [putAt, List.set_cons_zero, List.set_cons_succ] at h)
      exact fin _ s' sn hs' h.sub
    · refine mk _ _ h fun sn w h => ?_
      (repeat (first | (refine h.al fun w h => ?_) | (refine h.dr fun w h => ?_) | (refine h.lc_2 rfl ?_) | (refine h.lc_6 rfl ?_) | (refine ⟨_, h.ldc rfl, ?_⟩) | (refine ⟨_, h.ldd rfl, ?_⟩) | (refine h.hd rfl ?_) | (refine ⟨h.ldc rfl, ?_⟩) | (refine ⟨h.ldd rfl, ?_⟩) | (refine h.stLc rfl rfl fun w h => ?_) | (refine exs ?_) | (refine _root_.Go.Vc.a2 ?_) | (refine h.stc rfl rfl fun w h => ?_) | (refine h.std rfl rfl fun w h => ?_)))
      refine app1_rows h (by omega) fun s' w hs' h => ?_
      (repeat (first | (refine h.al fun w h => ?_) | (refine h.dr fun w h => ?_) | (refine h.lc_2 rfl ?_) | (refine h.lc_6 rfl ?_) | (refine ⟨_, h.ldc rfl, ?_⟩) | (refine ⟨_, h.ldd rfl, ?_⟩) | (refine h.hd rfl ?_) | (refine ⟨h.ldc rfl, ?_⟩) | (refine ⟨h.ldd rfl, ?_⟩) | (refine h.stLc rfl rfl fun w h => ?_) | (refine exs ?_) | (refine _root_.Go.Vc.a2 ?_) | (refine h.stc rfl rfl fun w h => ?_) | (refine h.std rfl rfl fun w h => ?_)))
      (dsimp only [putAt, List.set_cons_zero, List.set_cons_succ] at h)
      exact fin _ s' sn hs' h.sub

theorem ref05_Put_spec {s : Slot} {c : Cap} {K : Int → World → Prop} (hc : CapR c) (h : Own B w0 w (RNodesA b bits H :: R)) (hK : ∀ w', Own B w0 w' (RNodesA b bits (putN bits H s c).2 :: R) → K (putN bits H s c).1 w') :
    C.ref05_Nodes_Put (some ⟨b, 0, none⟩) s.1 s.2 c.kind c.obj c.rights c.badge c.guard c.bits K w := by
  apply S.ref05_Nodes_Put_ok
  unfold S.ref05_Nodes_Put
  (repeat (first | (refine h.al fun w h => ?_) | (refine h.dr fun w h => ?_) | (refine h.lc_2 rfl ?_) | (refine h.lc_6 rfl ?_) | (refine ⟨_, h.ldc rfl, ?_⟩) | (refine ⟨_, h.ldd rfl, ?_⟩) | (refine h.hd rfl ?_) | (refine ⟨h.ldc rfl, ?_⟩) | (refine ⟨h.ldd rfl, ?_⟩) | (refine h.stLc rfl rfl fun w h => ?_) | (refine exs ?_) | (refine _root_.Go.Vc.a2 ?_) | (refine h.stc rfl rfl fun w h => ?_) | (refine h.std rfl rfl fun w h => ?_)))
  refine ref05_Is_spec (s := s) h.up2 fun w h => ?_
  refine cnb (fun e => ?_) (fun e => ?_)
  · have ep : putN bits H s c = (50, H) := by unfold putN; rw [if_pos e]
    rw [ep] at hK
    exact hK _ h.sub
  have ht' : ¬ thereB bits s = false := by rw [e]; decide
  (repeat (first | (refine h.al fun w h => ?_) | (refine h.dr fun w h => ?_) | (refine h.lc_2 rfl ?_) | (refine h.lc_6 rfl ?_) | (refine ⟨_, h.ldc rfl, ?_⟩) | (refine ⟨_, h.ldd rfl, ?_⟩) | (refine h.hd rfl ?_) | (refine ⟨h.ldc rfl, ?_⟩) | (refine ⟨h.ldd rfl, ?_⟩) | (refine h.stLc rfl rfl fun w h => ?_) | (refine exs ?_) | (refine _root_.Go.Vc.a2 ?_) | (refine h.stc rfl rfl fun w h => ?_) | (refine h.std rfl rfl fun w h => ?_)))
  refine ref04_Check_spec h hc fun w h => ?_
  refine cne (fun e1 => ?_) (fun e1 => ?_)
  · have ep : putN bits H s c = (capErr c, H) := by unfold putN; rw [if_neg ht', if_pos e1]
    rw [ep] at hK
    exact hK _ h.sub
  (repeat (first | (refine h.al fun w h => ?_) | (refine h.dr fun w h => ?_) | (refine h.lc_2 rfl ?_) | (refine h.lc_6 rfl ?_) | (refine ⟨_, h.ldc rfl, ?_⟩) | (refine ⟨_, h.ldd rfl, ?_⟩) | (refine h.hd rfl ?_) | (refine ⟨h.ldc rfl, ?_⟩) | (refine ⟨h.ldd rfl, ?_⟩) | (refine h.stLc rfl rfl fun w h => ?_) | (refine exs ?_) | (refine _root_.Go.Vc.a2 ?_) | (refine h.stc rfl rfl fun w h => ?_) | (refine h.std rfl rfl fun w h => ?_)))
  refine ceq (fun e2 => ?_) (fun e2 => ?_)
  · have ep : putN bits H s c = (1, H) := by unfold putN; rw [if_neg ht', if_neg (by omega), if_pos e2]
    rw [ep] at hK
    exact hK _ h.sub
  have hth := e
  obtain ⟨n, k, z, rfl, hb, hz, hkl⟩ := there_some e
  obtain ⟨sl, ss, hk, hsl, h⟩ := h.rnodes
  obtain ⟨sn, hss⟩ : ∃ sn, ss[n]? = some sn := ⟨_, List.getElem?_eq_getElem (by have := (List.getElem?_eq_some_iff.1 hb).1; omega)⟩
  (repeat (first | (refine h.al fun w h => ?_) | (refine h.dr fun w h => ?_) | (refine h.lc_2 rfl ?_) | (refine h.lc_6 rfl ?_) | (refine ⟨_, h.ldc rfl, ?_⟩) | (refine ⟨_, h.ldd rfl, ?_⟩) | (refine h.hd rfl ?_) | (refine ⟨h.ldc rfl, ?_⟩) | (refine ⟨h.ldd rfl, ?_⟩) | (refine h.stLc rfl rfl fun w h => ?_) | (refine exs ?_) | (refine _root_.Go.Vc.a2 ?_) | (refine h.stc rfl rfl fun w h => ?_) | (refine h.std rfl rfl fun w h => ?_)))
  refine h.ixc rfl hss fun a ha hc0 hc1 => ?_
  refine ⟨_, hc0 _ rfl, ?_⟩
  (repeat (first | (refine h.al fun w h => ?_) | (refine h.dr fun w h => ?_) | (refine h.lc_2 rfl ?_) | (refine h.lc_6 rfl ?_) | (refine ⟨_, h.ldc rfl, ?_⟩) | (refine ⟨_, h.ldd rfl, ?_⟩) | (refine h.hd rfl ?_) | (refine ⟨h.ldc rfl, ?_⟩) | (refine ⟨h.ldd rfl, ?_⟩) | (refine h.stLc rfl rfl fun w h => ?_) | (refine exs ?_) | (refine _root_.Go.Vc.a2 ?_) | (refine h.stc rfl rfl fun w h => ?_) | (refine h.std rfl rfl fun w h => ?_)))
  refine h.rget hss (rows_get hb) rfl (row_get hz hkl) fun a2 ha2 hd0 hd => ?_
  refine ⟨((H ((n : Int), (k : Int))).getD zeroCap).kind, hd0 _ rfl, ?_⟩
  cases hs : H ((n : Int), (k : Int)) with
  | some c' =>
    have ep : putN bits H ((n : Int), (k : Int)) c = (51, H) := by unfold putN; rw [if_neg ht', if_neg (by omega), if_neg e2, if_pos (by rw [hs]; rfl)]
    rw [ep] at hK
    refine cneT (hk.held _ _ hs).2.2.1 ?_
    exact hK _ (Own.mk_rnodes (s := sl) (ss := ss) hk h.sub)
  | none =>
    have ep : putN bits H ((n : Int), (k : Int)) c = (0, updH H ((n : Int), (k : Int)) (some c)) := by unfold putN; rw [if_neg ht', if_neg (by omega), if_neg e2, if_neg (by rw [hs]; decide)]
    rw [ep] at hK
    refine cneF rfl ?_
    (repeat (first | (refine h.al fun w h => ?_) | (refine h.dr fun w h => ?_) | (refine h.lc_2 rfl ?_) | (refine h.lc_6 rfl ?_) | (refine ⟨_, h.ldc rfl, ?_⟩) | (refine ⟨_, h.ldd rfl, ?_⟩) | (refine h.hd rfl ?_) | (refine ⟨h.ldc rfl, ?_⟩) | (refine ⟨h.ldd rfl, ?_⟩) | (refine h.stLc rfl rfl fun w h => ?_) | (refine exs ?_) | (refine _root_.Go.Vc.a2 ?_) | (refine h.stc rfl rfl fun w h => ?_) | (refine h.std rfl rfl fun w h => ?_)))
    refine h.ixc rfl hss fun a ha hc0 hc1 => ?_
    refine ⟨_, hc0 _ rfl, ?_⟩
    (repeat (first | (refine h.al fun w h => ?_) | (refine h.dr fun w h => ?_) | (refine h.lc_2 rfl ?_) | (refine h.lc_6 rfl ?_) | (refine ⟨_, h.ldc rfl, ?_⟩) | (refine ⟨_, h.ldd rfl, ?_⟩) | (refine h.hd rfl ?_) | (refine ⟨h.ldc rfl, ?_⟩) | (refine ⟨h.ldd rfl, ?_⟩) | (refine h.stLc rfl rfl fun w h => ?_) | (refine exs ?_) | (refine _root_.Go.Vc.a2 ?_) | (refine h.stc rfl rfl fun w h => ?_) | (refine h.std rfl rfl fun w h => ?_)))
    refine h.rget hss (rows_get hb) rfl (row_get hz hkl) fun a2 ha2 hd0 hd => ?_
    (repeat (first | (refine h.al fun w h => ?_) | (refine h.dr fun w h => ?_) | (refine h.lc_2 rfl ?_) | (refine h.lc_6 rfl ?_) | (refine ⟨_, h.ldc rfl, ?_⟩) | (refine ⟨_, h.ldd rfl, ?_⟩) | (refine h.hd rfl ?_) | (refine ⟨h.ldc rfl, ?_⟩) | (refine ⟨h.ldd rfl, ?_⟩) | (refine h.stLc rfl rfl fun w h => ?_) | (refine exs ?_) | (refine _root_.Go.Vc.a2 ?_) | (refine h.stc rfl rfl fun w h => ?_) | (refine h.std rfl rfl fun w h => ?_)))
    refine h.rset c hss (rows_get hb) rfl (by rw [row_len hz]; exact hkl) ha2 fun w h => ?_
    rw [show (rowsOf bits H).set n ((rowOf H n z).set k c) = rowsOf bits (updH H ((n : Int), (k : Int)) (some c)) from (rows_upd hb hz hkl (some c)).symm] at h
    exact hK _ (Own.mk_rnodes (s := sl) (ss := ss) (hk.put hth (by omega) e2 hc) h.sub)
end
end Go.Proofs.Ytdlcejjiccknlaa
