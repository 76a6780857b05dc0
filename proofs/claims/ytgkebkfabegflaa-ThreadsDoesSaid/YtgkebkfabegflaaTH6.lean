/- Threads of layer 10: new ones. -/
import Derived.Test.YtgkebkfabegflaaTH5
import Derived.Test.YtgkebkfabegflaaS1
import Derived.Test.YtgkebkfabegflaaS3
set_option linter.unusedVariables false
set_option linter.unusedSimpArgs false
set_option maxRecDepth 8000
namespace Go.Proofs.Ytgkebkfabegflaa
open Go Go.Vc Go.Proofs

section
variable {B : Nat} {w0 w : World} {R : List Asn} {b : Nat} {m : Mt}
theorem Mul_spec {c : Nat} (h1 : 1 ≤ c) (h8 : c ≤ 8) {K : Int → Int → World → Prop} (hK : K 0 (c : Int) w) : C.math_bits_Mul (1 : Int) (c : Int) K w := by
  apply S.math_bits_Mul_ok
  unfold S.math_bits_Mul
  apply S.math_bits_Mul64_ok
  unfold S.math_bits_Mul64
  have : c = 1 ∨ c = 2 ∨ c = 3 ∨ c = 4 ∨ c = 5 ∨ c = 6 ∨ c = 7 ∨ c = 8 := by omega
  rcases this with rfl | rfl | rfl | rfl | rfl | rfl | rfl | rfl <;>
  · refine ⟨by decide, by decide, by decide, by decide, by decide, ?_⟩
    refine Eq.mp ?_ hK
    kernel_rfl
theorem Repeat_spec {x : Sl} {c : Nat} {K : Sl → World → Prop} (h1 : 1 ≤ c) (h8 : c ≤ 8) (hl : x.len = 1) (h : Own B w0 w (SlT intE x [-1] :: R)) (hK : ∀ s w', Own B w0 w' (SlT intE s (List.replicate c (-1)) :: R) → K s w') : C.slices_Repeat_int_int x (c : Int) K w := by
  apply S.slices_Repeat_int_int_ok
  unfold S.slices_Repeat_int_int
  intro k3 hk3
  refine cdecF (by omega) (hk3 _ ?_)
  rw [hl, show IntKind.u64.wrap ((1 : Nat) : Int) = 1 from wru (by omega) (by omega), wru (x := (c : Int)) (by omega) (by omega)]
  refine Mul_spec h1 h8 ?_
  intro k8 hk8
  refine cdecF (by omega) (hk8 _ _ ?_)
  intro k11 hk11
  refine cdecF (by omega) (hk11 _ ?_)
  rw [wr (x := (c : Int)) (by omega) (by omega)]
  have hb : Try.t3.bytes = 8 := by kernel_rfl
  have hp48 : (2 : Int) ^ 48 = 281474976710656 := by decide
  refine Own.mkSl (E := intE) (z0 := (0 : Int)) (zv := .int .i64 0) Try.underlying41 (show Try.prog.info? 3 = some Try.t3 from by kernel_rfl) (by kernel_rfl) (by kernel_rfl) rfl (n := (c : Int)) (inf := Try.t3) h (by omega) (by rw [hb, hp48]; omega) (by rw [hp48]; omega) fun t w ht h => ?_
  rw [Int.toNat_natCast] at ht h
  have hx0 : ([-1] : List Int)[0]? = some (-1) := rfl
  obtain ⟨bx, ox, hax, hcx⟩ := h.get 1 rfl hx0
  obtain ⟨bt, ot, hat, hct⟩ := h.get 0 rfl (show (List.replicate c (0 : Int))[0]? = some 0 from by rw [List.getElem?_replicate, if_pos (by omega)])
  have first : ∃ n w', CopyR Try.prog [41, 41] 3 (.slice t.a t.len t.cap) (.slice x.a x.len x.cap) w n w' ∧ (n = 1 ∧ Own B w0 w' (SlT intE t ([-1] ++ List.replicate (c - 1) 0) :: SlT intE x [-1] :: R)) := by
    have e : min x.len t.len = 1 := by rw [hl, ht]; omega
    have := Own.copyT (P := Try.prog) (T := 41) (t := 3) (E := intE) (s := t) (xs := List.replicate c (0 : Int)) (p := 0) (dl := t.len) (dc := t.cap) (sl := x.len) (sc := x.cap) (zs := [-1]) (sa := ⟨bx, ox + (0 * intE.z + 0), none⟩) (k := fun n w' => n = 1 ∧ Own B w0 w' (SlT intE t ([-1] ++ List.replicate (c - 1) 0) :: SlT intE x [-1] :: R))
      Try.underlying41 (show Try.prog.info? 3 = some Try.t3 from by kernel_rfl) (by kernel_rfl) h hat (by rw [e]; rfl) (by simp; omega) (fun j v hv => by
        cases j with
        | zero => simp only [List.flatMap_cons, List.flatMap_nil, List.append_nil] at hv; exact hcx 0 v hv
        | succ j => simp [intE] at hv) fun w' h' => ⟨by rw [e]; rfl, by simpa [List.drop_replicate] using h'⟩
    rw [hat, hax]
    exact this
  obtain ⟨n, w', hcp, rfl, h⟩ := first
  rw [hl] at hcp
  refine ⟨_, w', hcp, ?_⟩
  intro l17 hl17
  have loop : ∀ (k n : Nat) (w : World), c ≤ n + k → 1 ≤ n → n ≤ c → Own B w0 w (SlT intE t (List.replicate n (-1) ++ List.replicate (c - n) 0) :: SlT intE x [-1] :: R) → l17 (n : Int) w := by
    intro k
    induction k with
    | zero =>
      intro n w hk hn1 hnc h
      obtain rfl : n = c := by omega
      apply hl17
      refine cdecF (by omega) ?_
      rw [Nat.sub_self, List.replicate_zero, List.append_nil] at h
      exact hK t w h.rm1
    | succ k ih =>
      intro n w hk hn1 hnc h
      apply hl17
      refine cdec (fun e => ?_) (fun e => ?_)
      · refine h.dr fun w h => ?_
        have hcap := h.slRaw.le_cap
        have hln := h.len 0 rfl
        refine ⟨by omega, by omega, by omega, by omega, Go.Vc.a2 ?_⟩
        rw [Int.toNat_natCast]
        have e2 : min (n - 0) (t.len - n) = min n (c - n) := by rw [ht]; rfl
        have hd : ∃ bt' ot', t.a = some ⟨bt', ot', none⟩ ∧ ∀ j, j < n → w.cell? ⟨bt', ot' + j, none⟩ = some (.int .i64 (-1)) := by
          obtain ⟨b0, o0, ha0, _⟩ := h.get 0 rfl (show (List.replicate n (-1 : Int) ++ List.replicate (c - n) 0)[0]? = some (-1) from by rw [List.getElem?_append_left (by simp; omega), List.getElem?_replicate, if_pos (by omega)])
          refine ⟨b0, o0, ha0, fun j hj => ?_⟩
          obtain ⟨b1, o1, ha1, hc1⟩ := h.get 0 rfl (j := j) (x := (-1 : Int)) (by rw [List.getElem?_append_left (by simp; omega), List.getElem?_replicate, if_pos hj])
          rw [ha0] at ha1; cases ha1
          have := hc1 0 _ rfl
          rwa [show o0 + (j * intE.z + 0) = o0 + j from by show o0 + (j * 1 + 0) = _; omega] at this
        obtain ⟨b0, o0, ha0, hcells⟩ := hd
        have hsl1 : slA t.a n t.cap 1 = some ⟨b0, o0 + n * 1, none⟩ := slA_some ha0 (by omega)
        have hsl2 : slA t.a 0 t.cap 1 = some ⟨b0, o0, none⟩ := by rw [slA_some ha0 (by omega), Nat.zero_mul, Nat.add_zero]
        rw [hsl1, hsl2]
        have hlenz : (List.replicate (min n (c - n)) (-1 : Int)).length = min (n - 0) (t.len - n) := by rw [List.length_replicate, e2]
        refine Own.copyT (P := Try.prog) (T := 41) (t := 3) (E := intE) (s := t) (xs := List.replicate n (-1) ++ List.replicate (c - n) 0) (p := n) (dl := t.len - n) (dc := t.cap - n) (sl := n - 0) (sc := t.cap - 0) (zs := List.replicate (min n (c - n)) (-1)) (sa := ⟨b0, o0, none⟩)
          Try.underlying41 (show Try.prog.info? 3 = some Try.t3 from by kernel_rfl) (by kernel_rfl) h ha0 hlenz (by simp; omega) (fun j v hv => ?_) fun w' h' => ?_
        · have hfl : (List.replicate (min n (c - n)) (-1 : Int)).flatMap intE.enc = List.replicate (min n (c - n)) (.int .i64 (-1)) := by
            induction (min n (c - n)) with
            | zero => rfl
            | succ q ihq => rw [List.replicate_succ, List.flatMap_cons, ihq, List.replicate_succ]; rfl
          rw [hfl, List.getElem?_replicate] at hv
          split at hv
          · cases hv; rw [add_mk]; exact hcells j (by omega)
          · cases hv
        · rw [e2]
          have hs : IntKind.i64.wrap ((n : Int) + ((min n (c - n) : Nat) : Int)) = ((n + min n (c - n) : Nat) : Int) := by rw [wr (by omega) (by omega)]; omega
          rw [hs]
          refine ih (n + min n (c - n)) w' (by omega) (by omega) (by omega) ?_
          have hx : List.take n (List.replicate n (-1 : Int) ++ List.replicate (c - n) 0) ++ List.replicate (min n (c - n)) (-1) ++ List.drop (n + (List.replicate (min n (c - n)) (-1 : Int)).length) (List.replicate n (-1 : Int) ++ List.replicate (c - n) 0) = List.replicate (n + min n (c - n)) (-1) ++ List.replicate (c - (n + min n (c - n))) 0 := by
            rw [List.take_left' (by simp), List.drop_append, List.drop_eq_nil_of_le (by simp), List.nil_append, List.drop_replicate, List.replicate_append_replicate]
            congr 2
            simp; omega
          rw [hx] at h'
          exact h'
      · obtain rfl : n = c := by omega
        rw [Nat.sub_self, List.replicate_zero, List.append_nil] at h
        exact hK t w h.rm1
  exact loop c 1 w' (by omega) (by omega) h1 h
theorem app1_ptr {s : Sl} {ys : List Nat} {y : Nat} {c : Nat} {L : List Asn} {k : Sl → World → Prop} [I : SlIn s L Nat ptrE ys] [J : Pick (SlT ptrE s ys) L R] (h : Own B w0 w (BlkA c [.pointer (some ⟨y, 0, none⟩)] :: L)) (hbig : ys.length ≤ 1000000000)
    (hk : ∀ s' w', s'.len = ys.length + 1 → Own B w0 w' (SlT ptrE s' (ys ++ [y]) :: R) → k s' w') :
    ∃ s' w', AppR Try.prog [63, 63] 63 (.slice s.a s.len s.cap) (.slice (some (Addr.mk c 0 none)) 1 1) w s' w' ∧ k s' w' :=
  Own.app1c (E := ptrE) (y := y) Try.underlying63 (show Try.prog.info? 66 = some Try.t66 from by kernel_rfl) (zv := .pointer none) (by kernel_rfl) (by kernel_rfl) rfl (by decide) h (by
    have e : Try.t66.bytes = 8 := by kernel_rfl
    rw [e]; omega) hk
def newM (c : Nat) : Mt := ⟨[], List.replicate c [], List.replicate c (-1)⟩
theorem newM_ok {c : Nat} (h8 : c ≤ 8) : MOk (newM c) := by
  refine ⟨by simp [newM], by simp [newM], by simpa [newM] using h8, fun t h => ?_, fun t h => rfl, fun n h => ?_, fun Q h x hx => ?_⟩
  · simp [newM] at h
  · simp only [newM, List.mem_replicate] at h; exact .inl h.2
  · simp only [newM, List.mem_replicate] at h; rw [h.2] at hx; simp at hx
theorem thr_New_spec {n : Int} {K : Option Addr → Int → World → Prop} (h : Own B w0 w R) (hK0 : ¬ (1 ≤ n ∧ n ≤ 8) → ∀ w', Own B w0 w' R → K none 1 w') (hK1 : ∀ c : Nat, n = (c : Int) → 1 ≤ c → c ≤ 8 → ∀ b w', Own B w0 w' (ThrA b (newM c) :: R) → K (some ⟨b, 0, none⟩) 0 w') : C.threads_New n K w := by
  apply S.threads_New_ok
  unfold S.threads_New
  intro k2 hk2
  refine cdec (fun e => hk2 _ _ (cbT rfl (hK0 (by omega) w h))) (fun e1 => hk2 _ _ ?_)
  refine cdec (fun e => hK0 (by omega) w h) (fun e2 => ?_)
  obtain ⟨c, rfl⟩ := Int.eq_ofNat_of_zero_le (show 0 ≤ n by omega)
  refine h.al fun w1 h => ?_
  generalize w.heap.size = d at h ⊢
  have h : Own B w0 w1 (SlT intE ⟨some ⟨d, 0, none⟩, 1, 1⟩ [-1] :: R) := h.asSl [-1] rfl
  refine Repeat_spec (by omega) (by omega) rfl h fun r w h => ?_
  refine h.al fun w2 h => ?_
  generalize w.heap.size = t at h ⊢
  have h : Own B w0 w2 (SlT ptrE ⟨none, 0, 0⟩ [] :: _) := Own.nilS h
  have h : Own B w0 w2 (SlT thE ⟨none, 0, 0⟩ [] :: _) := Own.nilS h
  intro l9 hl9
  have loop : ∀ (k j : Nat) (q : Sl) (bs : List Nat) (w : World), j + k = c → bs.length = j → Own B w0 w (BlkA t [slV ⟨none, 0, 0⟩, slV q, slV r] :: SlT thE ⟨none, 0, 0⟩ [] :: SlT ptrE q bs :: SlT intE r (List.replicate c (-1)) :: (List.zipWith QueueA bs (List.replicate j []) ++ R)) → l9 (j : Int) w := by
    intro k
    induction k with
    | zero =>
      intro j q bs w hj hbs h
      obtain rfl : j = c := by omega
      apply hl9
      refine cdecF (by omega) ?_
      exact hK1 j rfl (by omega) (by omega) t w (Own.mk_thr (m := newM j) (l := ⟨none, 0, 0⟩) (q := q) (r := r) (bs := bs) (by simp [newM]; exact hbs) h)
    | succ k ih =>
      intro j q bs w hj hbs h
      apply hl9
      refine cdecT (by omega) ?_
      refine h.dr fun w h => ?_
      refine ⟨_, rfl, q, h.ldd rfl, Go.Vc.a2 ?_⟩
      refine ready_New_spec h fun b1 w h => ?_
      refine ⟨h.ldd rfl, Go.Vc.a2 ?_⟩
      refine h.al fun w3 h => ?_
      generalize w.heap.size = d3 at h ⊢
      refine Go.Vc.a2 ?_
      refine app1_ptr (s := q) (ys := bs) (y := b1) h (by omega) fun q' w hq' h => ?_
      refine ⟨_, rfl, Go.Vc.a2 ?_⟩
      refine h.std rfl rfl fun w h => ?_
      (dsimp only [putAt, List.set_cons_zero, List.set_cons_succ] at h)
      rw [show IntKind.i64.wrap ((j : Int) + 1) = ((j + 1 : Nat) : Int) from by rw [wr (by omega) (by omega)]; omega]
      refine ih (j + 1) q' (bs ++ [b1]) w (by omega) (by simp [hbs]) ?_
      have ez : List.zipWith QueueA (bs ++ [b1]) (List.replicate (j + 1) []) = List.zipWith QueueA bs (List.replicate j []) ++ [QueueA b1 []] := by
        rw [List.replicate_succ', List.zipWith_append (by simp [hbs])]; rfl
      rw [ez, List.append_assoc]
      have h2 : Own B w0 w (BlkA t [slV ⟨none, 0, 0⟩, .slice q'.a q'.len q'.cap, slV r] :: SlT thE ⟨none, 0, 0⟩ [] :: SlT ptrE q' (bs ++ [b1]) :: SlT intE r (List.replicate c (-1)) :: QueueA b1 [] :: (List.zipWith QueueA bs (List.replicate j []) ++ R)) := h.sub
      exact h2.perm ((((List.perm_middle.symm.cons _).cons _).cons _).cons _)
  have h3 : Own B w0 w2 (BlkA t [slV ⟨none, 0, 0⟩, slV ⟨none, 0, 0⟩, slV r] :: SlT thE ⟨none, 0, 0⟩ [] :: SlT ptrE ⟨none, 0, 0⟩ [] :: SlT intE r (List.replicate c (-1)) :: R) := h.up2
  exact loop c 0 ⟨none, 0, 0⟩ [] w2 (by omega) rfl h3
end
end Go.Proofs.Ytgkebkfabegflaa
