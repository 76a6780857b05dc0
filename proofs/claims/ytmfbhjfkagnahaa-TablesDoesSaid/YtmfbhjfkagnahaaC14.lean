/- Tables of layer 14: keys in order; what a table has laid; a map's copy. -/
import Derived.Test.YtmfbhjfkagnahaaB14
import Derived.Test.YtmfbhjfkagnahaaSH3
import Derived.Test.YtmfbhjfkagnahaaS4
set_option linter.unusedVariables false
set_option linter.unusedSimpArgs false
set_option maxRecDepth 8000
namespace Go.Proofs.Ytmfbhjfkagnahaa
open Go Go.Vc Go.Proofs Go.Shelf

theorem sorts_in (n : Nat) : AnyZI.SortsIn Try.prog Try.sortedA_ren Fence.wide n :=
  ⟨fun blk off cap ss W hH hblk hsz => callsIn_wide.2 (AnyM.slices_Sort_int Try.sortA blk off cap ss W hH hblk hsz),
   fun p cap W => callsIn_wide.2 (AnyM.slices_Sort_int_none Try.sortA p cap W)⟩
section
variable {B : Nat} {w0 w : World} {R L : List Asn} {b : Nat} {m : Spc}
set_option maxHeartbeats 1000000 in
/-- A map's keys, sorted. -/
theorem keys_sorted {V : Type} {encV : V → Value} {mb : Nat} {M : List (Int × V)} {K : Sl → World → Prop} (h : Own B w0 w L) (i : Nat) (hi : L[i]? = some (MapA (Value.int .i64) encV mb M)) (hwf : ∀ x ∈ M, (Lit.int .i64 x.1).wf = true) (hsz : M.length ≤ 1000000)
    (hK : ∀ (s : Sl) (ks : List Int) (w' : World), ks.Perm (M.map (·.1)) → ks.Pairwise (fun x y => decide (x ≤ y) = true) → Own B w0 w' (SlT intE s ks :: L) → K s w') :
    C.maps_Keys_map_int_api_Page_int_api_Page (some mb) (fun r5 w6 => C.slices_Sorted_int r5 K w6) w := by
  have hM : MapR (Value.int .i64) encV w mb M := (h.take i hi).head fun _ h => h.2
  have hmax : (1000000 : Nat) ≤ maxLen := by decide
  obtain ⟨D0, hown, hperm, hsize⟩ := mapR_owns (P := Try.prog) (k := 3) Try.underlying3 hM hwf (Nat.le_trans hsz hmax)
  have hbl := hown.lt
  unfold C.maps_Keys_map_int_api_Page_int_api_Page
  refine okF_mk Try.func84 rfl ?_
  have cK : ∀ mb W, CallsIn Fence.wide 5 Try.prog 84 #[.map mb] W fun e w' => e = .returned (.func (.func 90) #[] #[.pointer (some ⟨W.heap.size, 0, none⟩)]) ∧ w' = W.alloc (.cells #[.map mb] 94) := fun mb W => AnyZI.keys_in Try.keysA Fence.wide 5 trivial rfl mb W
  refine (callsIn_wide (n := 5)).1 ((cK _ _).mono ?_)
  rintro e w' ⟨rfl, rfl⟩
  refine ⟨_, rfl, ?_⟩
  unfold C.slices_Sorted_int
  refine okF_mk Try.func83 rfl ?_
  have hseq : SeqGives Fence.wide 2 Try.prog 90 #[.pointer (some ⟨w.heap.size, 0, none⟩)] encZ (fun ss => ss.Perm (intKeys D0)) (Maps.size D0) (w.alloc (.cells #[.map (some mb)] 94)) :=
    AnyZI.keys_gives (ρ := Try.keysA_ren) { Try.keysA with } Fence.wide _ trivial rfl (by omega) w.heap.size mb M.length D0 _ (by simp) (by simp) (by
      obtain ⟨es, clock, hb, Ft, hs, hD⟩ := hown
      exact ⟨es, clock, (RowKit.Below.heap_alloc _ _ mb hbl).trans hb, Ft, hs, hD⟩)
  have cS := AnyZI.sorted_in Try.sortedA Fence.wide 5 trivial trivial trivial trivial rfl (by omega) (sorts_in _) (enters_of Try.func89 (by kernel_rfl) rfl) 90 #[.pointer (some ⟨w.heap.size, 0, none⟩)] trivial (enters_of Try.func90 (by kernel_rfl) rfl) _ _ (by rw [hsize]; exact Nat.le_trans hsz hmax) (by rw [hsize]; omega) _ hseq
  change CallsIn _ _ Try.prog 83 _ _ _ at cS
  refine (callsIn_wide (n := 5)).1 (cS.mono ?_)
  rintro e w' ⟨v, ss, rfl, hS, hrow, hnil, hb⟩
  have h1 : Own B w0 (w.alloc (.cells #[.map (some mb)] 94)) L := h.same (upd_alloc _ _)
  have hlen : (ss.mergeSort fun x y => decide (x ≤ y)).length = ss.length := List.length_mergeSort _
  rw [← hlen] at hrow
  obtain ⟨s, rfl, h2⟩ := ownsRow_own h1 hb hrow
  refine ⟨s, rfl, hK s _ w' (((List.mergeSort_perm _ _).trans hS).trans hperm) ?_ h2⟩
  exact List.pairwise_mergeSort (fun a b c h1 h2 => by simp at *; omega) (fun a b => by simp; omega) _
theorem srt_keys {P : Pgs} (h : Srt P) {ks : List Int} (hp : ks.Perm (P.map (·.1))) (hs : ks.Pairwise (fun x y => decide (x ≤ y) = true)) : ks = P.map (·.1) := by
  refine List.Perm.eq_of_pairwise (le := fun x y => x ≤ y) (fun a b _ _ h1 h2 => by omega) (hs.imp fun h => by simpa using h) ?_ hp
  rw [List.pairwise_map]
  exact h.imp fun h => by omega
theorem srt_len : ∀ (P : Pgs) (a c : Int), Srt P → (∀ x ∈ P, a ≤ x.1 ∧ x.1 < c) → (P.length : Int) ≤ max 0 (c - a)
  | [], a, c, _, _ => Int.le_max_left _ _
  | x :: P, a, c, h, hb => by
    have h' := List.pairwise_cons.1 h
    have h1 := hb x List.mem_cons_self
    have := srt_len P (x.1 + 1) c h'.2 fun y hy => ⟨by have := h'.1 y hy; omega, (hb y (List.mem_cons_of_mem _ hy)).2⟩
    simp only [List.length_cons]
    omega
theorem app1_laid {s : Sl} {ys : Pgs} {y : Int × Pg} {c : Nat} {L : List Asn} {k : Sl → World → Prop} [I : SlIn s L (Int × Pg) laidE ys] [J : Pick (SlT laidE s ys) L R] (h : Own B w0 w (BlkA c [.int .i64 y.1, .int .i64 y.2.1, .int .i64 y.2.2] :: L)) (hbig : ys.length ≤ 1000000000)
    (hk : ∀ s' w', s'.len = ys.length + 1 → Own B w0 w' (SlT laidE s' (ys ++ [y]) :: R) → k s' w') :
    ∃ s' w', AppR Try.prog [57, 57] 57 (.slice s.a s.len s.cap) (.slice (some (Addr.mk c 0 none)) 1 1) w s' w' ∧ k s' w' :=
  Own.app1c (E := laidE) (y := y) Try.underlying57 (show Try.prog.info? 67 = some Try.t67 from by kernel_rfl) (zv := (Try.t67.zero).get (by kernel_rfl)) (by kernel_rfl) (by kernel_rfl) (by kernel_rfl) (by decide) h (by
    have e : Try.t67.bytes = 24 := by kernel_rfl
    rw [e]; omega) hk
/-- What a table has laid. -/
theorem laid_spec {n : Int} {mb : Nat} {M Q : Pgs} {K : Sl → World → Prop} (h : Own B w0 w L) (i : Nat) (hi : L[i]? = some (pmA mb M)) (hp : M.Perm Q) (hS : Srt Q) (hb : ∀ x ∈ Q, 0 ≤ x.1 ∧ x.1 < 4096) (hK : ∀ s w', Own B w0 w' (SlT laidE s Q :: L) → K s w') : C.tables_table_laid n (some mb) K w := by
  apply S.tables_table_laid_ok
  unfold S.tables_table_laid
  have hl := srt_len Q 0 4096 hS hb
  refine h.al fun w1 h => ?_
  generalize w.heap.size = d at h ⊢
  refine ⟨_, h.ldd rfl, ?_⟩
  refine keys_sorted h (i + 1) (by simpa using hi) (fun x hx => ?_) (by rw [hp.length_eq]; omega) fun s ks w hks hso h => ?_
  · have := hb x (hp.mem_iff.1 hx)
    have e1 : IntKind.i64.min = -9223372036854775808 := by decide
    have e2 : IntKind.i64.max = 9223372036854775807 := by decide
    simp only [Lit.wf, e1, e2, Bool.and_eq_true, decide_eq_true_eq]
    omega
  have hkeys := srt_keys hS (hks.trans (hp.map _)) hso
  subst hkeys
  have hlen := h.lenc s
  rw [List.length_map] at hlen
  intro l9 hl9
  have loop : ∀ (j k : Nat) (out : Sl) (w : World), k + j = Q.length → Own B w0 w (SlT laidE out (Q.take k) :: SlT intE s (Q.map (·.1)) :: BlkA d [.int .i64 n, .map (some mb)] :: L) → l9 out (k : Int) w := by
    intro j
    induction j with
    | zero =>
      intro k out w hk h
      apply hl9
      refine cdecF (by omega) ?_
      rw [List.take_of_length_le (by omega)] at h
      exact hK out w h.rm1.rm1
    | succ j ih =>
      intro k out w hk h
      apply hl9
      refine cdecT (by omega) ?_
      have hx : Q[k]? = some Q[k] := List.getElem?_eq_getElem (by omega)
      have hkx : (Q.map (·.1))[k]? = some Q[k].1 := by rw [List.getElem?_map, hx]; rfl
      refine h.ixc (s := s) (i := (k : Int)) (j := k) rfl hkx fun a ha h0 hc => ⟨_, h0 _ rfl, _, h.ldd rfl, Q[k].2.1, Q[k].2.2, ?_⟩
      have hl2 : mget M Q[k].1 = some Q[k].2 := by rw [look_perm hp hS]; exact hS.look (List.getElem_mem _)
      refine ⟨(h.mlook Try.underlying94 (keyOk_int .i64 Try.underlying3) (i + 3) (by simpa using hi) hl2).2, ?_⟩
      refine h.al fun w3 h => ?_
      generalize w.heap.size = d3 at h ⊢
      refine app1_laid (s := out) (ys := Q.take k) (y := Q[k]) h (by rw [List.length_take]; omega) fun s' w hs' h => ?_
      rw [show IntKind.i64.wrap ((k : Int) + 1) = ((k + 1 : Nat) : Int) from by rw [wr (by omega) (by omega)]; omega]
      refine ih (k + 1) s' w (by omega) ?_
      rw [List.take_add_one, hx]
      exact h
  exact loop Q.length 0 ⟨none, 0, 0⟩ w (by omega) (Own.nilS h)
/-- A map's copy. -/
theorem Clone_pm {mb : Nat} {M : Pgs} {K : Option Nat → World → Prop} (h : Own B w0 w L) (i : Nat) (hi : L[i]? = some (pmA mb M)) (hK : ∀ m' w', Own B w0 w' (pmA m' M :: L) → K (some m') w') : C.maps_Clone_map_int_api_Page_int_api_Page (some mb) K w := by
  have hM : MapR (Value.int .i64) pgV w mb M := (h.take i hi).head fun _ h => h.2
  obtain ⟨es, c, hb, h2⟩ := hM.ex
  unfold C.maps_Clone_map_int_api_Page_int_api_Page
  refine okF_mk Try.func76 rfl ?_
  refine (AnyW.maps_Clone Try.cloneA mb es c w hb).mono ?_
  rintro e w' ⟨rfl, rfl⟩
  refine ⟨_, rfl, hK _ _ (h.new (A' := pmA w.heap.size M) (G' := fun k => k = w.heap.size) (upd_alloc _ _) ⟨rfl, ⟨⟨es, c, heap_alloc_new _ _, h2⟩, hM.nodup⟩⟩ fun k e => ⟨by omega, by rw [e]; simp⟩)⟩
theorem Clone_nil {K : Option Nat → World → Prop} (hK : K none w) : C.maps_Clone_map_int_api_Page_int_api_Page none K w := by
  unfold C.maps_Clone_map_int_api_Page_int_api_Page
  refine okF_mk Try.func76 rfl ?_
  refine (AnyW.maps_Clone_nil Try.cloneA w).mono ?_
  rintro e w' ⟨rfl, rfl⟩
  exact ⟨_, rfl, hK⟩
end
end Go.Proofs.Ytmfbhjfkagnahaa
