/- Tables of layer 14: tables put in and dropped; all pages; a frame's. -/
import Derived.Test.YtmfbhjfkagnahaaE14
import Derived.Test.YtmfbhjfkagnahaaS3
import Derived.Test.YtmfbhjfkagnahaaS4
set_option linter.unusedVariables false
set_option linter.unusedSimpArgs false
set_option maxRecDepth 8000
namespace Go.Proofs.Ytmfbhjfkagnahaa
open Go Go.Vc Go.Proofs Go.Shelf

section
variable {B : Nat} {w0 w : World} {R L : List Asn} {b : Nat} {m : Spc}
set_option maxHeartbeats 1000000 in
/-- No map's keys. -/
theorem keys_nil {K : Sl → World → Prop} (h : Own B w0 w L) (hK : ∀ (s : Sl) (w' : World), Own B w0 w' (SlT intE s [] :: L) → K s w') :
    C.maps_Keys_map_int_api_Page_int_api_Page none (fun r5 w6 => C.slices_Sorted_int r5 K w6) w := by
  unfold C.maps_Keys_map_int_api_Page_int_api_Page
  refine okF_mk Try.func84 rfl ?_
  have cK : ∀ mb W, CallsIn Fence.wide 5 Try.prog 84 #[.map mb] W fun e w' => e = .returned (.func (.func 90) #[] #[.pointer (some ⟨W.heap.size, 0, none⟩)]) ∧ w' = W.alloc (.cells #[.map mb] 94) := fun mb W => AnyZI.keys_in Try.keysA Fence.wide 5 trivial rfl mb W
  refine (callsIn_wide (n := 5)).1 ((cK _ _).mono ?_)
  rintro e w' ⟨rfl, rfl⟩
  refine ⟨_, rfl, ?_⟩
  unfold C.slices_Sorted_int
  refine okF_mk Try.func83 rfl ?_
  have hseq : SeqGives Fence.wide 2 Try.prog 90 #[.pointer (some ⟨w.heap.size, 0, none⟩)] encZ (fun ss : List Int => ss = []) 0 (w.alloc (.cells #[.map none] 94)) :=
    AnyZI.keys_gives_nil (ρ := Try.keysA_ren) { Try.keysA with } Fence.wide _ trivial rfl w.heap.size _ (by simp) (by simp)
  have cS := AnyZI.sorted_in Try.sortedA Fence.wide 5 trivial trivial trivial trivial rfl (by omega) (sorts_in _) (enters_of Try.func89 (by kernel_rfl) rfl) 90 #[.pointer (some ⟨w.heap.size, 0, none⟩)] trivial (enters_of Try.func90 (by kernel_rfl) rfl) _ 0 (Nat.zero_le _) (by omega) _ hseq
  change CallsIn _ _ Try.prog 83 _ _ _ at cS
  refine (callsIn_wide (n := 5)).1 (cS.mono ?_)
  rintro e w' ⟨v, ss, rfl, rfl, hrow, hnil, hb⟩
  have h1 : Own B w0 (w.alloc (.cells #[.map none] 94)) L := h.same (upd_alloc _ _)
  rw [show (([] : List Int).mergeSort fun x y => decide (x ≤ y)) = [] from by simp] at hrow
  obtain ⟨s, rfl, h2⟩ := ownsRow_own h1 hb hrow
  exact ⟨s, rfl, hK s w' h2⟩
theorem laid_nil {n : Int} {K : Sl → World → Prop} (h : Own B w0 w L) (hK : ∀ s w', Own B w0 w' (SlT laidE s [] :: L) → K s w') : C.tables_table_laid n none K w := by
  apply S.tables_table_laid_ok
  unfold S.tables_table_laid
  refine h.al fun w1 h => ?_
  generalize w.heap.size = d at h ⊢
  refine ⟨_, h.ldd rfl, keys_nil h fun s w h => ?_⟩
  have hlen := h.lenc s
  intro l9 hl9
  apply hl9
  refine cdecF (by rw [hlen]; decide) ?_
  exact hK _ w (Own.nilS h.drop.drop)
/-- What a table of the space has laid. -/
theorem laid_tab {n : Int} {mb : Nat → Nat} {M : Nat → Pgs} {q : Nat} {K : Sl → World → Prop} (ho : SOk m) (hM : ∀ i, (M i).Perm (tabP m.pg i)) (j : Nat) (h : Own B w0 w L) (hL : L[j]? = some (tabA m.tb mb M q)) (hK : ∀ s w', Own B w0 w' (SlT laidE s (tabP m.pg q) :: L) → K s w') :
    C.tables_table_laid n ((m.tb q).map fun _ => mb q) K w := by
  cases ht : m.tb q with
  | none =>
    rw [ho.none_tab ht] at hK
    exact laid_nil h hK
  | some v =>
    unfold tabA at hL
    rw [if_pos (by rw [ht]; rfl)] at hL
    refine laid_spec h j hL (hM q) (ho.srt.filter _) (fun x hx => ?_) hK
    have := ho.bnd x (List.mem_filter.1 hx).1
    exact ⟨this.1, this.2.1⟩
theorem perm_at : ∀ {L : List Asn} {i : Nat} {a : Asn}, L[i]? = some a → (a :: L.eraseIdx i).Perm L
  | x :: L, 0, a, h => by simp at h; subst h; exact List.Perm.refl _
  | x :: L, i + 1, a, h => (List.Perm.swap x a _).trans ((perm_at (L := L) (i := i) (by simpa using h)).cons x)
theorem in_place {X A : Asn} {i : Nat} (h : Own B w0 w (X :: L)) (hi : L[i]? = some A) : Own B w0 w (L.set i X) := by
  have h1 : Own B w0 w (A :: X :: L.eraseIdx i) := h.perm (((perm_at hi).symm.cons X).trans (List.Perm.swap _ _ _))
  exact h1.drop.put (lt_of_get hi)
theorem same_spec {t : Int} {c n : Int} {p : Option Nat} {K : Bool → World → Prop} {d : Nat} (j : Nat) (h : Own B w0 w L) (hL : L[j]? = some (BlkA d [.int .i64 t])) (hK : ∀ w', Own B w0 w' L → K (!p.isNone && n == t) w') : C.tables_Space_Table_1 n p ⟨d, 0, none⟩ K w := by
  apply S.tables_Space_Table_1_ok
  unfold S.tables_Space_Table_1
  refine h.al fun w1 h => ?_
  generalize w.heap.size = g at h ⊢
  refine ⟨_, h.ldd rfl, ?_⟩
  cases p with
  | none => exact cbF rfl (hK w1 h.drop)
  | some q => exact cbT rfl ⟨_, h.ldc rfl, _, h.ld0 (j + 1) (by simpa using hL) rfl, hK w1 h.drop⟩
theorem Contains_spec {t : Int} {mb : Nat → Nat} {K : Bool → World → Prop} {d : Nat} (j j2 : Nat) (h : Own B w0 w L) (hL : L[j]? = some (BlkA d [.int .i64 t])) (hL2 : L[j2]? = some (BlkA b ((tcs m.tb mb).flatMap tcE.enc)))
    (hK : ∀ w', Own B w0 w' L → K ((List.range 64).any fun i => m.tb i == some t) w') : C.slices_ContainsFunc_tables_table_tables_table ⟨slA (some ⟨b, 0, none⟩) 0 64 2, 64 - 0, 64 - 0⟩ (.func (.func 69) #[] #[.pointer (some ⟨d, 0, none⟩)]) K w := by
  apply S.slices_ContainsFunc_tables_table_tables_table_ok
  unfold S.slices_ContainsFunc_tables_table_tables_table
  apply S.slices_IndexFunc_tables_table_tables_table_ok
  unfold S.slices_IndexFunc_tables_table_tables_table
  have ha : slA (some (⟨b, 0, none⟩ : Addr)) 0 64 2 = some ⟨b, 0, none⟩ := by rw [slA_some rfl (by decide)]
  rw [ha]
  intro l3 hl3
  have loop : ∀ (k i : Nat) (w : World), i + k = 64 → (∀ x, x < i → (m.tb x == some t) = false) → Own B w0 w L → l3 (i : Int) w := by
    intro k
    induction k with
    | zero =>
      intro i w hik hno h
      apply hl3
      refine cdecF (by show ¬ (i : Int) < 64; omega) ?_
      have e : ((List.range 64).any fun i => m.tb i == some t) = false := by
        rw [List.any_eq_false]
        intro x hx
        rw [hno x (by have := List.mem_range.1 hx; omega)]; decide
      have := hK w h
      rw [e] at this
      exact this
    | succ k ih =>
      intro i w hik hno h
      apply hl3
      refine cdecT (by show (i : Int) < 64; omega) ?_
      refine ⟨_, rfl, by omega, by show (i : Int) < 64; omega, ?_⟩
      rw [Int.toNat_natCast, adr]
      have hc := cell_p (by omega : i < 64) j2 h hL2
      refine ⟨_, hc.1, _, hc.2, callV_mk (same_spec (c := t) j h hL fun w h => ?_)⟩
      have e2 : (!((m.tb i).map fun _ => mb i).isNone && ((m.tb i).getD 0) == t) = (m.tb i == some t) := by
        cases m.tb i <;> simp
      rw [e2]
      cases e : (m.tb i == some t) with
      | true =>
        refine cbT rfl ?_
        have e3 : ((List.range 64).any fun i => m.tb i == some t) = true := List.any_eq_true.2 ⟨i, List.mem_range.2 (by omega), e⟩
        have := hK w h
        rw [e3] at this
        show K (decide ((i : Int) ≥ 0)) w
        rw [decide_eq_true (show (i : Int) ≥ 0 by omega)]
        exact this
      | false =>
        refine cbF rfl ?_
        rw [show IntKind.i64.wrap ((i : Int) + 1) = ((i + 1 : Nat) : Int) from by rw [wr (by omega) (by omega)]; omega]
        refine ih (i + 1) w (by omega) (fun x hx => ?_) h
        by_cases e4 : x = i
        · rw [e4]; exact e
        · exact hno x (by omega)
  exact loop 64 0 w (by omega) (fun x hx => by omega) h
theorem Table_spec {i n : Int} {K : Int → World → Prop} (h : Own B w0 w (SpcA b m :: R)) (hK : ∀ w', Own B w0 w' (SpcA b (m.tableR i n).2 :: R) → K (m.tableR i n).1 w') : C.tables_Space_Table (some ⟨b, 0, none⟩) i n K w := by
  apply S.tables_Space_Table_ok
  unfold S.tables_Space_Table
  obtain ⟨mb, M, ho, hM, h⟩ := h.spc
  have hok := ho.table i n
  unfold Spc.tableR at hK hok
  refine h.al fun w1 h => ?_
  generalize w.heap.size = d at h ⊢
  intro k5 hk5
  have bad : ¬ (0 ≤ i ∧ i < 64 ∧ 0 ≤ n) → k5 true w1 := fun e => by
    rw [if_pos e] at hK; exact hk5 _ _ (cbT rfl (hK w1 (Own.mk_spc ho hM h.drop)))
  refine place_spec ?_
  by_cases hi : 0 ≤ i ∧ i < 64
  case neg => rw [decide_eq_false hi]; exact cbT rfl (bad fun hh => hi ⟨hh.1, hh.2.1⟩)
  rw [decide_eq_true hi]
  refine cbF rfl ⟨_, h.ldc rfl, ?_⟩
  by_cases hn : n < 0
  · rw [decide_eq_true hn]; exact bad fun hh => by omega
  rw [decide_eq_false hn]
  rw [if_neg (fun hh => hh ⟨hi.1, hi.2, by omega⟩)] at hK hok
  have hq : i.toNat < 64 := by omega
  refine hk5 _ _ (cbF rfl ?_)
  intro k8 hk8
  have full : ∀ w, ((m.tb i.toNat).isSome = true ∨ ((List.range 64).any fun j => m.tb j == some n) = true) → Own B w0 w (BlkA d [.int .i64 n] :: BlkA b ((tcs m.tb mb).flatMap tcE.enc) :: ((List.range 64).map (tabA m.tb mb M) ++ R)) → k8 true w := fun w e h => by
    rw [if_pos e] at hK; exact hk8 _ _ (cbT rfl (hK w (Own.mk_spc ho hM h.drop)))
  refine ⟨_, rfl, hi.1, hi.2, ?_⟩
  rw [adr]
  refine ⟨_, (cell_p hq 1 h rfl).2, ?_⟩
  cases ht : m.tb i.toNat with
  | some v => exact cbT rfl (full w1 (.inl (by rw [ht]; rfl)) h)
  | none =>
    refine cbF rfl ⟨_, rfl, ?_⟩
    refine Contains_spec (m := m) (mb := mb) 0 1 h rfl rfl fun w h => ?_
    cases ha : ((List.range 64).any fun j => m.tb j == some n) with
    | true => exact full w (.inr ha) h
    | false =>
      rw [if_neg (by rw [ht, ha]; simp)] at hK hok
      refine hk8 _ _ (cbF rfl ?_)
      refine h.dr fun w h => ?_
      refine ⟨_, h.ldc rfl, _, rfl, Go.Vc.a2 ?_⟩
      refine h.alMap (Value.int .i64) pgV fun w2 h => ?_
      generalize w.heap.size = g at h ⊢
      refine ⟨hi.1, hi.2, Go.Vc.a2 ?_⟩
      rw [adr]
      refine Own.stL (o := i.toNat * 2) h 2 rfl (by
        apply Nat.ble_eq_true_of_le
        rw [flat_tc]; show i.toNat * 2 + 2 ≤ 128; omega) rfl fun w h => ?_
      have h2 : Own B w0 w (MapA (Value.int .i64) pgV g [] :: BlkA d [.int .i64 n] :: BlkA b (putAt ((tcs m.tb mb).flatMap tcE.enc) (i.toNat * 2) [.int .i64 n, .map (some g)]) :: ((List.range 64).map (tabA m.tb mb M) ++ R)) := h
      have e1 := put_tc (tb := m.tb) (mb := mb) hq (some n) g
      have e1 : putAt ((tcs m.tb mb).flatMap tcE.enc) (i.toNat * 2) [.int .i64 n, .map (some g)] = _ := e1
      rw [e1] at h2
      have h3 : Own B w0 w (pmA g [] :: BlkA b ((tcs (upT m.tb i.toNat (some n)) fun j => if j = i.toNat then g else mb j).flatMap tcE.enc) :: ((List.range 64).map (tabA m.tb mb M) ++ R)) := h2.rm1
      have ht0 : tabA m.tb mb M i.toNat = PureA True := by unfold tabA; rw [if_neg (by rw [ht]; simp)]
      have h4 := in_place (i := i.toNat + 1) h3 (tabs_get hq _)
      rw [tabs_set (g := tabA (upT m.tb i.toNat (some n)) (fun j => if j = i.toNat then g else mb j) (fun j => if j = i.toNat then [] else M j)) hq (fun j hj => ?_)] at h4
      · refine hK w (Own.mk_spc hok (fun j => ?_) h4)
        by_cases e : j = i.toNat
        · rw [e]; simp only [if_true]
          show ([] : Pgs).Perm (tabP m.pg i.toNat)
          rw [ho.none_tab ht]
        · simp only [if_neg e]; exact hM j
      · by_cases e : j = i.toNat
        · rw [e]
          unfold tabA upT
          simp
        · unfold tabA upT
          simp only [if_neg e]
/-- A table goes. -/
theorem Drop_spec {i : Int} {K : Sl → Int → World → Prop} (h : Own B w0 w (SpcA b m :: R)) (hK : ∀ s w', Own B w0 w' (SlT laidE s (m.dropR i).1 :: SpcA b (m.dropR i).2.2 :: R) → K s (m.dropR i).2.1 w') : C.tables_Space_Drop (some ⟨b, 0, none⟩) i K w := by
  apply S.tables_Space_Drop_ok
  unfold S.tables_Space_Drop
  obtain ⟨mb, M, ho, hM, h⟩ := h.spc
  have hok := ho.drop i
  unfold Spc.dropR at hK hok
  refine place_spec ?_
  by_cases hi : 0 ≤ i ∧ i < 64
  case neg =>
    rw [decide_eq_false hi]
    rw [if_pos hi] at hK
    exact cbT rfl (hK _ w (Own.nilS (Own.mk_spc ho hM h)))
  rw [decide_eq_true hi]
  rw [if_neg (fun hh => hh hi)] at hK hok
  have hq : i.toNat < 64 := by omega
  refine cbF rfl ⟨_, rfl, hi.1, hi.2, ?_⟩
  rw [adr]
  refine ⟨_, (cell_p hq 0 h rfl).2, ?_⟩
  cases ht : m.tb i.toNat with
  | none =>
    rw [if_pos ht] at hK
    exact cbT rfl (hK _ w (Own.nilS (Own.mk_spc ho hM h)))
  | some v =>
    rw [if_neg (by rw [ht]; simp)] at hK hok
    refine cbF rfl ⟨_, rfl, hi.1, hi.2, ?_⟩
    rw [adr]
    refine ⟨_, (cell_p hq 0 h rfl).1, _, (cell_p hq 0 h rfl).2, ?_⟩
    refine laid_tab ho hM (i.toNat + 1) h (tabs_get hq _) fun s w h => ?_
    refine ⟨_, rfl, hi.1, hi.2, ?_⟩
    rw [adr]
    refine Own.stL (o := i.toNat * 2) h 1 rfl (by
      apply Nat.ble_eq_true_of_le
      rw [flat_tc]; show i.toNat * 2 + 2 ≤ 128; omega) rfl fun w h => ?_
    have h2 : Own B w0 w (SlT laidE s (tabP m.pg i.toNat) :: BlkA b (putAt ((tcs m.tb mb).flatMap tcE.enc) (i.toNat * 2) [.int .i64 0, .map none]) :: ((List.range 64).map (tabA m.tb mb M) ++ R)) := h
    have e1 := put_tc (tb := m.tb) (mb := mb) hq none 0
    have e1 : putAt ((tcs m.tb mb).flatMap tcE.enc) (i.toNat * 2) [.int .i64 0, .map none] = _ := e1
    rw [e1] at h2
    have h3 := in_place (X := PureA True) (i := i.toNat + 2) (Own.mk_pure trivial h2) (by rw [List.getElem?_cons_succ]; exact tabs_get hq _)
    rw [List.set_cons_succ, tabs_set (g := tabA (upT m.tb i.toNat none) (fun j => if j = i.toNat then 0 else mb j) (fun j => if j = i.toNat then [] else M j)) hq (fun j hj => ?_)] at h3
    · have h4 : Own B w0 w (BlkA b ((tcs (upT m.tb i.toNat none) fun j => if j = i.toNat then 0 else mb j).flatMap tcE.enc) :: ((List.range 64).map (tabA (upT m.tb i.toNat none) (fun j => if j = i.toNat then 0 else mb j) (fun j => if j = i.toNat then [] else M j)) ++ SlT laidE s (tabP m.pg i.toNat) :: R)) := by
        refine h3.perm ?_
        have := (List.perm_middle (a := SlT laidE s (tabP m.pg i.toNat)) (l₁ := BlkA b ((tcs (upT m.tb i.toNat none) fun j => if j = i.toNat then 0 else mb j).flatMap tcE.enc) :: (List.range 64).map (tabA (upT m.tb i.toNat none) (fun j => if j = i.toNat then 0 else mb j) (fun j => if j = i.toNat then [] else M j))) (l₂ := R)).symm
        simpa using this
      have h5 : Own B w0 w (SpcA b ⟨upT m.tb i.toNat none, m.pg.filter fun x => x.1.toNat / 64 != i.toNat⟩ :: SlT laidE s (tabP m.pg i.toNat) :: R) := Own.mk_spc (m := ⟨upT m.tb i.toNat none, m.pg.filter fun x => x.1.toNat / 64 != i.toNat⟩) hok (fun j => ?_) h4
      · exact hK s w h5.up1
      · by_cases e : j = i.toNat
        · rw [e]; simp only [if_true]
          show ([] : Pgs).Perm (tabP (m.pg.filter fun x => x.1.toNat / 64 != i.toNat) i.toNat)
          have : tabP (m.pg.filter fun x => x.1.toNat / 64 != i.toNat) i.toNat = [] := by
            unfold tabP
            rw [List.filter_filter, List.filter_eq_nil_iff]
            intro x _
            simp
          rw [this]
        · simp only [if_neg e]
          show (M j).Perm (tabP (m.pg.filter fun x => x.1.toNat / 64 != i.toNat) j)
          rw [tab_drop e]; exact hM j
    · by_cases e : j = i.toNat
      · rw [e]
        unfold tabA upT
        simp
      · unfold tabA upT
        simp only [if_neg e]
theorem app_laid {s x : Sl} {xs ys : Pgs} {k : Sl → World → Prop} (h : Own B w0 w (SlT laidE s xs :: L)) (hx : SlO laidE.z w x (ys.flatMap laidE.enc)) (hxl : x.len = ys.length) (hbig : xs.length + ys.length ≤ 1000000) (hk : ∀ s' w', s'.len = xs.length + ys.length → Own B w0 w' (SlT laidE s' (xs ++ ys) :: L) → k s' w') :
    ∃ s' w', AppR Try.prog [57, 57] 57 (.slice s.a s.len s.cap) (.slice x.a x.len x.cap) w s' w' ∧ k s' w' :=
  Own.app (s := s) (xs := xs) (ys := ys) Try.underlying57 (show Try.prog.info? 67 = some Try.t67 from by kernel_rfl) (zv := (Try.t67.zero).get (by kernel_rfl)) (by kernel_rfl) (by kernel_rfl) (by kernel_rfl) (by decide) h 0 rfl hx hxl (by
    have e : Try.t67.bytes = 24 := by kernel_rfl
    rw [e]; omega) fun s' w' hl h => hk s' w' hl h
/-- All pages. -/
theorem Pages_spec {K : Sl → World → Prop} (h : Own B w0 w (SpcA b m :: R)) (hK : ∀ s w', Own B w0 w' (SlT laidE s m.pg :: SpcA b m :: R) → K s w') : C.tables_Space_Pages (some ⟨b, 0, none⟩) K w := by
  apply S.tables_Space_Pages_ok
  unfold S.tables_Space_Pages
  obtain ⟨mb, M, ho, hM, h⟩ := h.spc
  have hall := tabs_all ho
  have hlen := srt_len m.pg 0 4096 ho.srt fun x hx => ⟨(ho.bnd x hx).1, (ho.bnd x hx).2.1⟩
  refine ⟨_, rfl, ⟨(tcs m.tb mb).flatMap tcE.enc⟩, flat_tc, fun i hi => ?_, ?_⟩
  · have hb := h.blk 0 rfl
    rw [add_mk, hb.cell, Nat.zero_add]; simp
  intro l5 hl5
  have loop : ∀ (k t : Nat) (out : Sl) (w : World), t + k = 64 → Own B w0 w (SlT laidE out ((List.range t).flatMap (tabP m.pg)) :: BlkA b ((tcs m.tb mb).flatMap tcE.enc) :: ((List.range 64).map (tabA m.tb mb M) ++ R)) → l5 out (t : Int) w := by
    intro k
    induction k with
    | zero =>
      intro t out w ht h
      obtain rfl : t = 64 := by omega
      apply hl5
      refine cdecF (by omega) ?_
      rw [hall] at h
      refine hK out w ?_
      have h4 : Own B w0 w (BlkA b ((tcs m.tb mb).flatMap tcE.enc) :: ((List.range 64).map (tabA m.tb mb M) ++ SlT laidE out m.pg :: R)) := by
        refine h.perm ?_
        have := (List.perm_middle (a := SlT laidE out m.pg) (l₁ := BlkA b ((tcs m.tb mb).flatMap tcE.enc) :: (List.range 64).map (tabA m.tb mb M)) (l₂ := R)).symm
        simpa using this
      have h5 : Own B w0 w (SpcA b m :: SlT laidE out m.pg :: R) := Own.mk_spc ho hM h4
      exact h5.up1
    | succ k ih =>
      intro t out w ht h
      apply hl5
      refine cdecT (by omega) ⟨by omega, by omega, ?_⟩
      have htq : t < 64 := by omega
      refine ⟨(m.tb t).getD 0, ?_, (m.tb t).map fun _ => mb t, ?_, ?_⟩
      · rw [Int.toNat_natCast, Nat.add_zero]
        simpa using tcell_n (tb := m.tb) (mb := mb) htq
      · rw [Int.toNat_natCast]
        simpa using tcell_p (tb := m.tb) (mb := mb) htq
      · refine h.al fun w2 h => ?_
        generalize w.heap.size = d at h ⊢
        refine h.stLc rfl rfl fun w h => ?_
        refine ⟨_, h.ldc rfl, _, h.ldd rfl, ?_⟩
        refine laid_tab ho hM (t + 3) h (by rw [List.getElem?_cons_succ, List.getElem?_cons_succ]; exact tabs_get htq _) fun s w h => ?_
        have hs := h.slO 0 rfl
        have hsl := h.len 0 rfl
        have h2 : Own B w0 w (SlT laidE out ((List.range t).flatMap (tabP m.pg)) :: BlkA b ((tcs m.tb mb).flatMap tcE.enc) :: ((List.range 64).map (tabA m.tb mb M) ++ R)) := h.drop.drop
        have hpre : ((List.range t).flatMap (tabP m.pg)).length + (tabP m.pg t).length ≤ 1000000 := by
          have e : (List.range (t + 1)).flatMap (tabP m.pg) = (List.range t).flatMap (tabP m.pg) ++ tabP m.pg t := by rw [List.range_succ, List.flatMap_append]; simp
          have hsub : ((List.range (t + 1)).flatMap (tabP m.pg)).length ≤ ((List.range 64).flatMap (tabP m.pg)).length := by
            have e64 : List.range 64 = List.range (t + 1) ++ (List.range (64 - (t + 1))).map (fun x => t + 1 + x) := by
              rw [← List.range_add]; congr 1; omega
            rw [e64, List.flatMap_append, List.length_append]; omega
          rw [e, hall, List.length_append] at hsub
          omega
        refine app_laid h2 hs hsl hpre fun s' w hs' h => ?_
        rw [show IntKind.i64.wrap ((t : Int) + 1) = ((t + 1 : Nat) : Int) from by rw [wr (by omega) (by omega)]; omega]
        refine ih (t + 1) s' w (by omega) ?_
        have e : (List.range (t + 1)).flatMap (tabP m.pg) = (List.range t).flatMap (tabP m.pg) ++ tabP m.pg t := by rw [List.range_succ, List.flatMap_append]; simp
        rw [e]; exact h
  exact loop 64 0 ⟨none, 0, 0⟩ w (by omega) (Own.nilS h)
theorem ldLaid {w : World} {a : Addr} {x : Int × Pg} {f : Int → Int → Int → Prop} (g : ∀ c v, (laidE.enc x)[c]? = some v → w.cell? (a.add c) = some v) (hf : f x.1 x.2.1 x.2.2) : LdL w a 0 [.i .i64, .i .i64, .i .i64] f :=
  ⟨_, g 0 _ rfl, _, g 1 _ rfl, _, g 2 _ rfl, hf⟩
theorem app1_int {s : Sl} {ys : List Int} {y : Int} {c : Nat} {L : List Asn} {k : Sl → World → Prop} [I : SlIn s L Int intE ys] [J : Pick (SlT intE s ys) L R] (h : Own B w0 w (BlkA c [.int .i64 y] :: L)) (hbig : ys.length ≤ 1000000000)
    (hk : ∀ s' w', s'.len = ys.length + 1 → Own B w0 w' (SlT intE s' (ys ++ [y]) :: R) → k s' w') :
    ∃ s' w', AppR Try.prog [43, 43] 43 (.slice s.a s.len s.cap) (.slice (some (Addr.mk c 0 none)) 1 1) w s' w' ∧ k s' w' :=
  Own.app1c (E := intE) (y := y) Try.underlying43 (show Try.prog.info? 3 = some Try.t3 from by kernel_rfl) (zv := .int .i64 0) (by kernel_rfl) (by kernel_rfl) rfl (by decide) h (by
    have e : Try.t3.bytes = 8 := by kernel_rfl
    rw [e]; omega) hk
def framesP (P : Pgs) (f : Int) : List Int := (P.filter fun x => x.2.1 == f).map (·.1)
theorem Frames_spec {f : Int} {K : Sl → World → Prop} (h : Own B w0 w (SpcA b m :: R)) (hK : ∀ s w', Own B w0 w' (SlT intE s (framesP m.pg f) :: SpcA b m :: R) → K s w') : C.tables_Space_Frames (some ⟨b, 0, none⟩) f K w := by
  apply S.tables_Space_Frames_ok
  unfold S.tables_Space_Frames
  have ho : SOk m := by obtain ⟨_, _, ho, _, _⟩ := h.spc; exact ho
  have hlen := srt_len m.pg 0 4096 ho.srt fun x hx => ⟨(ho.bnd x hx).1, (ho.bnd x hx).2.1⟩
  refine Pages_spec h fun s w h => ?_
  have hl := h.lenc s
  intro l5 hl5
  have loop : ∀ (k t : Nat) (out : Sl) (w : World), t + k = m.pg.length → Own B w0 w (SlT intE out (framesP (m.pg.take t) f) :: SlT laidE s m.pg :: SpcA b m :: R) → l5 out (t : Int) w := by
    intro k
    induction k with
    | zero =>
      intro t out w ht h
      apply hl5
      refine cdecF (by omega) ?_
      rw [List.take_of_length_le (by omega)] at h
      exact hK out w h.rm1
    | succ k ih =>
      intro t out w ht h
      apply hl5
      refine cdecT (by omega) ?_
      have hx : m.pg[t]? = some m.pg[t] := List.getElem?_eq_getElem (by omega)
      refine h.ixc (s := s) (i := (t : Int)) (j := t) rfl hx fun a ha h0 hc => ?_
      refine ldLaid hc ?_
      refine h.al fun w2 h => ?_
      generalize w.heap.size = d at h ⊢
      refine h.stLc rfl rfl fun w h => ?_
      refine ⟨_, h.ldd rfl, ?_⟩
      have e : framesP (m.pg.take (t + 1)) f = framesP (m.pg.take t) f ++ (if m.pg[t].2.1 = f then [m.pg[t].1] else []) := by
        unfold framesP
        rw [List.take_add_one, hx, Option.toList_some, List.filter_append, List.map_append]
        congr 1
        by_cases e : m.pg[t].2.1 = f
        · rw [if_pos e, List.filter_cons, if_pos (by simpa using e)]; rfl
        · rw [if_neg e, List.filter_cons, if_neg (by simpa using e)]; rfl
      rw [show IntKind.i64.wrap ((t : Int) + 1) = ((t + 1 : Nat) : Int) from by rw [wr (by omega) (by omega)]; omega]
      refine ceq (fun e2 => ?_) (fun e2 => ?_)
      · rw [if_pos e2] at e
        refine ⟨_, h.ldc rfl, ?_⟩
        refine h.al fun w3 h => ?_
        generalize w.heap.size = d3 at h ⊢
        refine app1_int (s := out) (ys := framesP (m.pg.take t) f) (y := m.pg[t].1) h (by unfold framesP; rw [List.length_map]; have := List.length_filter_le (fun x : Int × Pg => x.2.1 == f) (m.pg.take t); rw [List.length_take] at this; omega) fun s' w hs' h => ?_
        refine ih (t + 1) s' w (by omega) ?_
        rw [e]
        exact h.rm1
      · rw [if_neg e2, List.append_nil] at e
        refine ih (t + 1) out w (by omega) ?_
        rw [e]
        exact h.drop
  exact loop m.pg.length 0 ⟨none, 0, 0⟩ w (by omega) (Own.nilS h)
end
end Go.Proofs.Ytmfbhjfkagnahaa
