/- What nodes hold, in order. -/
import Derived.Test.YtdlcejjiccknlaaSO2
import Derived.Test.YtdlcejjiccknlaaS2
import Derived.Test.YtdlcejjiccknlaaS4
import Derived.Test.YtdlcejjiccknlaaS5
set_option linter.unusedVariables false
set_option linter.unusedSimpArgs false
set_option maxRecDepth 8000
namespace Go.Proofs.Ytdlcejjiccknlaa
open Go Go.Vc Go.Proofs Go.Shelf

theorem pigeonS : ∀ (n : Nat) (l : List Int), l.Nodup → (∀ x ∈ l, 0 ≤ x ∧ x < (n : Int)) → l.length ≤ n
  | 0, l, _, h => by
    cases l with
    | nil => simp
    | cons a l => have := h a (by simp); omega
  | n + 1, l, hn, h => by
    have h1 := pigeonS n (l.filter fun x => x != (n : Int)) (hn.sublist List.filter_sublist) fun x hx => by
      have h2 := List.mem_filter.1 hx
      have h3 := h x h2.1
      have h4 : x ≠ (n : Int) := by simpa using h2.2
      omega
    have h2 : l.length ≤ (l.filter fun x => x != (n : Int)).length + 1 := by
      clear h1 h
      induction l with
      | nil => simp
      | cons a l ih =>
        rw [List.nodup_cons] at hn
        by_cases e : a = (n : Int)
        · have : l.filter (fun x => x != (n : Int)) = l := by
            rw [List.filter_eq_self]
            intro x hx
            have : x ≠ (n : Int) := fun e2 => hn.1 (by rw [e, ← e2]; exact hx)
            simpa using this
          rw [List.filter_cons_of_neg (by simp [e]), this, List.length_cons]
          exact Nat.le_refl _
        · rw [List.filter_cons_of_pos (by simpa using e), List.length_cons, List.length_cons]
          have := ih hn.2
          omega
    omega

theorem ltS_trans {x y z : Slot} (h1 : ltS x y = true) (h2 : ltS y z = true) : ltS x z = true := by
  simp only [ltS, decide_eq_true_eq] at *; omega
theorem ltS_irrefl {x : Slot} (h : ltS x x = true) : False := by simp [ltS] at h
theorem ltS_tri {x y : Slot} (h : x ≠ y) : ltS x y = true ∨ ltS y x = true := by
  simp only [ltS, decide_eq_true_eq]
  by_cases e : x.1 = y.1
  · have : x.2 ≠ y.2 := fun e2 => h (Prod.ext e e2)
    omega
  · omega
theorem sortS_perm (xs : List Slot) : (sortS xs).Perm xs := List.mergeSort_perm _ _
theorem sortS_sorted {xs : List Slot} (hn : xs.Nodup) : (sortS xs).Pairwise (fun x y => ltS x y = true) := by
  have h1 : (sortS xs).Pairwise (fun x y => leS x y = true) := by
    refine List.pairwise_mergeSort (fun a b c h1 h2 => ?_) (fun a b => ?_) _
    · simp only [leS, ltOf_cmpS, ltS, Bool.not_eq_true', decide_eq_false_iff_not] at *; omega
    · simp only [leS, ltOf_cmpS, ltS, Bool.or_eq_true, Bool.not_eq_true', decide_eq_false_iff_not]; omega
  have h2 : (sortS xs).Pairwise (fun x y => x ≠ y) := (sortS_perm xs).nodup_iff.2 hn
  refine (h1.and h2).imp fun {x y} h => ?_
  rcases ltS_tri h.2 with e | e
  · exact e
  · have := h.1
    simp only [leS, ltOf_cmpS, e] at this
    cases this
/-- What is held, told in order. -/
structure IsHeld (H : Hs) (hs : List (Slot × Cap)) : Prop where
  srt : hs.Pairwise (fun x y => ltS x.1 y.1 = true)
  mem : ∀ k c, (k, c) ∈ hs ↔ H k = some c
theorem IsHeld.nodup {H : Hs} {hs : List (Slot × Cap)} (h : IsHeld H hs) : hs.Nodup := h.srt.imp fun {x y} h e => by rw [e] at h; exact ltS_irrefl h
theorem IsHeld.uniq {H : Hs} {hs hs' : List (Slot × Cap)} (h : IsHeld H hs) (h' : IsHeld H hs') : hs = hs' := by
  have hp : hs.Perm hs' := (List.perm_ext_iff_of_nodup h.nodup h'.nodup).2 fun x => by
    rw [show x = (x.1, x.2) from rfl, h.mem, h'.mem]
  refine List.Perm.eq_of_pairwise (le := fun x y => ltS x.1 y.1 = true) (fun a b _ _ h1 h2 => (ltS_irrefl (ltS_trans h1 h2)).elim) h.srt h'.srt hp
theorem isHeld_sort {M : List (Slot × Cap)} {H : Hs} (hn : (M.map (·.1)).Nodup) (hM : ∀ k, mget M k = H k) : IsHeld H ((sortS (M.map (·.1))).map fun k => (k, (H k).getD zeroCap)) := by
  refine ⟨?_, fun k c => ?_⟩
  · rw [List.pairwise_map]; exact sortS_sorted hn
  · rw [List.mem_map]
    constructor
    · rintro ⟨k', hk, e⟩
      cases e
      have hk := (sortS_perm _).mem_iff.1 hk
      cases e : H k with
      | none => rw [← hM] at e; exact absurd hk (mget_none.1 e)
      | some c => rfl
    · intro e
      refine ⟨k, (sortS_perm _).mem_iff.2 ?_, by rw [e]; rfl⟩
      rw [← hM] at e
      exact List.mem_map.2 ⟨_, mget_mem e, rfl⟩
theorem NOk.bound {bits : List Int} {H : Hs} (h : NOk bits H) {k : Slot} {c : Cap} (e : H k = some c) : 0 ≤ k.1 ∧ k.1 < 64 ∧ 0 ≤ k.2 ∧ k.2 < 256 := by
  obtain ⟨ht, _⟩ := h.held k c e
  unfold thereB at ht
  cases hz : sizeN bits k.1 with
  | none => rw [hz] at ht; cases ht
  | some z =>
    rw [hz] at ht
    simp only [decide_eq_true_eq] at ht
    obtain ⟨h0, h1, h2⟩ := sizeN_some hz
    obtain ⟨r1, r2⟩ := sizeN_rng h hz
    have hlt : k.1.toNat < bits.length := (List.getElem?_eq_some_iff.1 h1).1
    have := h.few
    have hp : (2 : Int) ^ z.toNat ≤ 2 ^ 8 := by
      have : (2 : Nat) ^ z.toNat ≤ 2 ^ 8 := Nat.pow_le_pow_right (by omega) (by omega)
      have h3 : (2 : Int) ^ z.toNat = ((2 ^ z.toNat : Nat) : Int) := by simp
      rw [h3]; omega
    omega
theorem few_keys {bits : List Int} {M : List (Slot × Cap)} {H : Hs} (h : NOk bits H) (hn : (M.map (·.1)).Nodup) (hM : ∀ k, mget M k = H k) : M.length ≤ 16384 := by
  have hb : ∀ k ∈ M.map (·.1), 0 ≤ k.1 ∧ k.1 < 64 ∧ 0 ≤ k.2 ∧ k.2 < 256 := fun k hk => by
    cases e : H k with
    | none => rw [← hM] at e; exact absurd hk (mget_none.1 e)
    | some c => exact h.bound e
  have := pigeonS 16384 ((M.map (·.1)).map fun k => k.1 * 256 + k.2) (by
    refine List.pairwise_map.2 (List.Pairwise.imp_of_mem (fun {x y} hx hy hne e => hne ?_) hn)
    have := hb x hx
    have := hb y hy
    exact Prod.ext (by omega) (by omega)) fun x hx => by
    obtain ⟨k, hk, rfl⟩ := List.mem_map.1 hx
    have := hb k hk
    omega
  simpa using this

section
variable {B : Nat} {w0 w : World} {R L : List Asn} {b : Nat} {bits : List Int} {H : Hs}
/-- A row that the kit says is owned, as a slice of this engine. -/
theorem ownsRow_ownS {w' : World} {t : TypeId} {v : Value} {xs : List Slot} (h : Vc.Own B w0 w R) (hb : RowKit.Below w.heap.size w w') (hr : w'.ownsRow w.heap.size t 2 v xs.length (xs.flatMap pairC)) :
    ∃ s : Sl, v = .slice s.a s.len s.cap ∧ Vc.Own B w0 w' (SlT slotE s xs :: R) := by
  have hu : Upd No w w' := ⟨hb.os, hb.tape, hb.output, hb.size, fun k hk _ => hb.block k hk⟩
  rcases hr.2 with ⟨rfl, hz⟩ | ⟨g, cap, cur, rfl, hbase, hgb, r1, r2, r3, r4⟩
  · have : xs = [] := List.eq_nil_of_length_eq_zero hz
    subst this
    exact ⟨⟨none, 0, 0⟩, rfl, (h.same hu).nilS⟩
  · refine ⟨⟨some ⟨g, 0, none⟩, xs.length, cap⟩, rfl, h.new (A' := SlT slotE ⟨some ⟨g, 0, none⟩, xs.length, cap⟩ xs) (G' := fun k => k = g) hu ⟨fun a ha => ?_, rfl, ?_⟩ fun k e => ?_⟩
    · cases ha; rfl
    · refine .mk g 0 cur.toList rfl ⟨t, hgb⟩ r1 ?_ ?_
      · show 0 + cap * 2 ≤ cur.toList.length
        rw [Array.length_toList]; omega
      · rw [List.drop_zero]; exact r4.symm
    · subst e
      exact ⟨hbase, (Array.getElem?_eq_some_iff.1 hgb).1⟩
/-- A map's keys, sorted. -/
theorem keys_sorted {m : Nat} {M : List (Slot × Cap)} {K : Sl → World → Prop} (h : Vc.Own B w0 w L) (i : Nat) (hi : L[i]? = some (slotsA m M)) (hsz : M.length ≤ 1000000)
    (hK : ∀ (s : Sl) (w' : World), Vc.Own B w0 w' (SlT slotE s (sortS (M.map (·.1))) :: L) → K s w') :
    C.maps_Keys_map_api_Slot_api_Cap_api_Slot_api_Cap (some m) (fun r5 w6 => C.slices_SortedFunc_api_Slot r5 (.func (.func 63) #[] #[]) K w6) w := by
  have hM : MapR encPair encCap w m M := (h.take i hi).head fun _ h => h.2
  obtain ⟨es, c, hb, hmap, hborn, hlt⟩ := hM.ex
  have hkeys : es.toList.map (·.key) = (M.map (·.1)).map pairV := by
    have := congrArg (List.map (·.1)) hmap
    rw [List.map_map, List.map_map] at this
    rw [List.map_map]
    exact this
  have hml : (M.map (·.1)).length ≤ 1000000 := by rw [List.length_map]; exact hsz
  have hblt : m < w.heap.size := (Array.getElem?_eq_some_iff.1 hb).1
  apply S.maps_Keys_map_api_Slot_api_Cap_api_Slot_api_Cap_ok
  unfold S.maps_Keys_map_api_Slot_api_Cap_api_Slot_api_Cap
  show C.slices_SortedFunc_api_Slot _ _ K (w.alloc _)
  have h1 : Vc.Own B w0 (w.alloc (.cells #[.map (some m)] 82)) L := h.same (upd_alloc _ _)
  have hseq := keysK_stops 1 (Nat.le_refl _) w.heap.size m es c (M.map (·.1)) hkeys hborn hlt (w.alloc (.cells #[.map (some m)] 82)) (by rw [World.size_alloc]; omega) (cell_of (World.alloc_heap_new _ _) rfl) ((RowKit.Below.heap_alloc _ _ m hblt).trans hb)
  generalize w.alloc (.cells #[.map (some m)] 82) = w1 at h1 hseq
  apply S.slices_SortedFunc_api_Slot_ok
  unfold S.slices_SortedFunc_api_Slot
  apply S.slices_Collect_api_Slot_ok
  unfold S.slices_Collect_api_Slot
  unfold C.slices_AppendSeq_api_Slot_api_Slot
  refine okF_mk Try.func85 rfl ?_
  refine (callsIn_wide (n := 2)).1 ((appendSeqK 78 #[.pointer (some ⟨w.heap.size, 0, none⟩)] (enters_of Try.func78 (by kernel_rfl) rfl) _ _ hml w1 hseq).mono ?_)
  rintro e w2 ⟨v, ss, rfl, hS, hrow, hbel⟩
  obtain ⟨s, rfl, h2⟩ := ownsRow_ownS h1 hbel hrow
  refine ⟨s, rfl, ?_⟩
  have hsl : ss.length ≤ 1000000 := by rw [hS.length_eq]; exact hml
  refine SortFunc_spec h2 (by omega) fun w3 h3 => ?_
  have : sortS ss = sortS (M.map (·.1)) := by
    have hn : ss.Nodup := hS.nodup_iff.2 hM.nodup
    refine List.Perm.eq_of_pairwise (le := fun x y => ltS x y = true) (fun a b _ _ h1 h2 => (ltS_irrefl (ltS_trans h1 h2)).elim) (sortS_sorted hn) (sortS_sorted hM.nodup) ?_
    exact (sortS_perm _).trans (hS.trans (sortS_perm _).symm)
  rw [this] at h3
  exact hK s w3 h3
theorem app1_held {s : Sl} {ys : List (Slot × Cap)} {y : Slot × Cap} {c : Nat} {L : List Asn} {k : Sl → World → Prop} [I : SlIn s L (Slot × Cap) heldE ys] [J : Pick (SlT heldE s ys) L R] (h : Vc.Own B w0 w (BlkA c [.int .i64 y.1.1, .int .i64 y.1.2, .int .i64 y.2.kind, .int .i64 y.2.obj, .int .i64 y.2.rights, .int .u64 y.2.badge, .int .u64 y.2.guard, .int .i64 y.2.bits] :: L)) (hbig : ys.length ≤ 1000000000)
    (hk : ∀ s' w', s'.len = ys.length + 1 → Vc.Own B w0 w' (SlT heldE s' (ys ++ [y]) :: R) → k s' w') :
    ∃ s' w', AppR Try.prog [33, 33] 33 (.slice s.a s.len s.cap) (.slice (some (Addr.mk c 0 none)) 1 1) w s' w' ∧ k s' w' :=
  Vc.Own.app1c (E := heldE) (y := y) Try.underlying33 (show Try.prog.info? 70 = some Try.t70 from by kernel_rfl) (zv := (Try.t70.zero).get (by kernel_rfl)) (by kernel_rfl) (by kernel_rfl) (by kernel_rfl) (by decide) h (by
    have e : Try.t70.bytes = 64 := by kernel_rfl
    rw [e]; omega) hk
theorem ldPr {w : World} {A : Addr} {x : Slot} {f : Int → Int → Prop} (g : ∀ c v, (slotE.enc x)[c]? = some v → w.cell? (A.add c) = some v) (hf : f x.1 x.2) : LdL w A 0 [.i .i64, .i .i64] f :=
  ⟨_, g 0 _ rfl, _, g 1 _ rfl, hf⟩
/-- What is held, told. -/
theorem slots_Nodes_Held_spec {K : Sl → World → Prop} (h : Vc.Own B w0 w (NodesA b bits H :: R)) (hK : ∀ s hs w', IsHeld H hs → Vc.Own B w0 w' (SlT heldE s hs :: NodesA b bits H :: R) → K s w') : C.slots_Nodes_Held (some ⟨b, 0, none⟩) K w := by
  apply S.slots_Nodes_Held_ok
  unfold S.slots_Nodes_Held
  obtain ⟨⟨xs, m, M⟩, hk, hM, h⟩ := h.nodes
  dsimp only at hM h
  have hnd := h.mnodup 2 rfl
  have hfew := few_keys hk hnd hM
  refine ⟨_, rfl, some m, h.ld 0 rfl rfl, ?_⟩
  refine keys_sorted h 2 rfl (by omega) fun s w h => ?_
  have hih := isHeld_sort hnd hM
  have hkl : (sortS (M.map (·.1))).length = M.length := by rw [(sortS_perm _).length_eq, List.length_map]
  have hkH : ∀ k ∈ sortS (M.map (·.1)), H k = some ((H k).getD zeroCap) := fun k hk' => by
    have := (sortS_perm _).mem_iff.1 hk'
    cases e : H k with
    | none => rw [← hM] at e; exact absurd this (mget_none.1 e)
    | some c => rfl
  generalize sortS (M.map (·.1)) = ks at h hih hkl hkH
  have hlen := h.lenc s
  intro l8 hl8
  have loop : ∀ (j t : Nat) (out : Sl) (w : World), t + j = ks.length → Vc.Own B w0 w (SlT heldE out ((ks.take t).map fun k => (k, (H k).getD zeroCap)) :: SlT slotE s ks :: BlkA b [slV xs, .map (some m)] :: SlT intE xs bits :: slotsA m M :: R) → l8 out (t : Int) w := by
    intro j
    induction j with
    | zero =>
      intro t out w ht h
      apply hl8
      refine cdecF (by omega) ?_
      rw [List.take_of_length_le (by omega)] at h
      exact hK out _ w hih (Vc.Own.up1 (Vc.Own.mk_nodes (s := xs) (m := m) hk hM h.sub))
    | succ j ih =>
      intro t out w ht h
      apply hl8
      refine cdecT (by omega) ?_
      have hx : ks[t]? = some ks[t] := List.getElem?_eq_getElem (by omega)
      refine h.ixc (s := s) (i := (t : Int)) (j := t) rfl hx fun a ha h0 hc => ldPr hc ?_
      have hHx := hkH ks[t] (List.getElem_mem _)
      have hnext : (ks.take (t + 1)).map (fun k => (k, (H k).getD zeroCap)) = (ks.take t).map (fun k => (k, (H k).getD zeroCap)) ++ [(ks[t], (H ks[t]).getD zeroCap)] := by
        rw [List.take_add_one, hx, List.map_append]; rfl
      generalize (H ks[t]).getD zeroCap = c at hHx hnext
      generalize ks[t] = kx at hHx hnext
      refine h.al fun w1 h => ?_
      generalize w.heap.size = d1 at h ⊢
      refine h.stLc rfl rfl fun w2 h => ?_
      refine h.dr fun w3 h => ?_
      refine ⟨_, rfl, some m, h.ldc rfl, ?_⟩
      refine h.lc_2 rfl ?_
      refine h.lc_2 rfl ?_
      have hl2 : mget M kx = some c := by rw [hM]; exact hHx
      refine ⟨?_, trivial⟩
      refine ⟨c.kind, c.obj, c.rights, c.badge, c.guard, c.bits, (h.mlook Try.underlying82 keySlot 5 rfl hl2).2, ?_⟩
      refine h.hd rfl ?_
      refine ⟨?_, trivial⟩
      refine h.al fun w4 h => ⟨?_, trivial⟩
      generalize w3.heap.size = d3 at h ⊢
      refine app1_held (s := out) (y := (kx, c)) h (by rw [List.length_map, List.length_take]; omega) fun s' w hs' h => ?_
      rw [show IntKind.i64.wrap ((t : Int) + 1) = ((t + 1 : Nat) : Int) from by rw [wr (by omega) (by omega)]; omega]
      refine ih (t + 1) s' w (by omega) ?_
      rw [hnext]
      exact h.sub
  exact loop ks.length 0 ⟨none, 0, 0⟩ w (by omega) (Vc.Own.nilS h)
end
end Go.Proofs.Ytdlcejjiccknlaa
