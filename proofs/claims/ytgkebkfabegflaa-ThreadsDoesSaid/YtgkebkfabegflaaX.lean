/- The greatest bit; the library's functions on slices of ints. -/
import Derived.Test.YtgkebkfabegflaaW
import Derived.Test.YtgkebkfabegflaaS3
import Derived.Test.YtgkebkfabegflaaS4
set_option linter.unusedVariables false
set_option linter.unusedSimpArgs false
namespace Go.Proofs.Ytgkebkfabegflaa
open Go Go.Vc Go.Proofs

/-- The greatest one below n. -/
def topB (f : Nat → Bool) : Nat → Option Nat
  | 0 => none
  | n + 1 => if f n then some n else topB f n
theorem topB_skip (f : Nat → Bool) (a : Nat) : ∀ (d : Nat), (∀ q, a ≤ q → q < a + d → f q = false) → topB f (a + d) = topB f a
  | 0, _ => rfl
  | d + 1, h => by
    show topB f ((a + d) + 1) = _
    simp only [topB, h (a + d) (by omega) (by omega), Bool.false_eq_true, if_false]
    exact topB_skip f a d fun q h1 h2 => h q h1 (by omega)
theorem topB_at {f : Nat → Bool} {p n : Nat} (hp : p < n) (hf : f p = true) (h : ∀ q, p < q → q < n → f q = false) : topB f n = some p := by
  have := topB_skip f (p + 1) (n - (p + 1)) fun q h1 h2 => h q (by omega) (by omega)
  rw [show p + 1 + (n - (p + 1)) = n from by omega] at this
  rw [this]; simp [topB, hf]
theorem topB_out {f : Nat → Bool} : ∀ {n p : Nat}, topB f n = some p → p < n ∧ f p = true ∧ ∀ q, p < q → q < n → f q = false
  | n + 1, p, h => by
    simp only [topB] at h
    split at h
    · rename_i hf; cases h; exact ⟨by omega, hf, fun q h1 h2 => by omega⟩
    · rename_i hf
      obtain ⟨h1, h2, h3⟩ := topB_out h
      refine ⟨by omega, h2, fun q h4 h5 => ?_⟩
      by_cases e : q = n
      · subst e; simpa using hf
      · exact h3 q h4 (by omega)
theorem topB_none {f : Nat → Bool} : ∀ {n : Nat}, topB f n = none → ∀ q, q < n → f q = false
  | n + 1, h, q, hq => by
    simp only [topB] at h
    split at h
    · cases h
    · rename_i hf
      by_cases e : q = n
      · subst e; simpa using hf
      · exact topB_none h q (by omega)
theorem topB_none_mk {f : Nat → Bool} : ∀ {n : Nat}, (∀ q, q < n → f q = false) → topB f n = none
  | 0, _ => rfl
  | n + 1, h => by simp only [topB, h n (by omega), Bool.false_eq_true, if_false]; exact topB_none_mk fun q hq => h q (by omega)
def topI (f : Nat → Bool) : Int := match topB f 256 with | some p => (p : Int) | none => -1

theorem log2_top {x : Nat} (hx : x ≠ 0) : x.testBit x.log2 = true ∧ ∀ j, x.log2 < j → x.testBit j = false := by
  have h := (Nat.log2_eq_iff hx).1 rfl
  refine ⟨?_, fun j hj => Nat.testBit_lt_two_pow (Nat.lt_of_lt_of_le h.2 (Nat.pow_le_pow_right (by omega) hj))⟩
  rw [Nat.testBit_eq_decide_div_mod_eq]
  have : x / 2 ^ x.log2 = 1 := by
    apply Nat.div_eq_of_lt_le
    · simpa using h.1
    · have := h.2; rw [Nat.pow_succ] at this; omega
  rw [this]; rfl

theorem words_Top_spec {B : Nat} {w0 w : World} {R : List Asn} {b1 b2 b3 b4 : Int} {f : Nat → Bool} {K : Int → World → Prop} (h : Own B w0 w R) (hb : BitsOk f [b1, b2, b3, b4])
    (hK : ∀ w', Own B w0 w' R → K (topI f) w') : C.words_Top b1 b2 b3 b4 K w := by
  apply S.words_Top_ok
  unfold S.words_Top
  refine h.al fun w1 h => ?_
  intro l hl
  have key : ∀ (m t : Nat), t + m = 4 → topB f 256 = topB f (64 * m) → l (t : Int) w1 := by
    intro m
    induction m with
    | zero =>
      intro t ht hf
      apply hl
      rw [show decide ((t : Int) < 4) = false from by simp; omega, cond_false]
      have : topI f = -1 := by unfold topI; rw [hf]; rfl
      rw [← this]; exact hK _ h.drop
    | succ m ih =>
      intro t ht hf
      apply hl
      rw [show decide ((t : Int) < 4) = true from by simp; omega, cond_true]
      have hi : IntKind.i64.wrap (3 - (t : Int)) = (m : Int) := by rw [wr (by omega) (by omega)]; omega
      rw [hi]
      obtain ⟨x, h1, h2, h3⟩ := hb.2 m (by omega)
      have hcell : [Value.int .u64 b1, .int .u64 b2, .int .u64 b3, .int .u64 b4][0 + ((m : Int).toNat * 1)]? = some (.int .u64 (x : Int)) := by
        rw [Int.toNat_natCast, Nat.mul_one, Nat.zero_add]
        have := congrArg (Option.map (Value.int .u64)) h1
        rw [← List.getElem?_map] at this
        exact this
      refine ⟨by omega, by omega, _, h.ld 0 rfl hcell, ?_⟩
      by_cases hx : x = 0
      · subst hx
        rw [show (((0 : Nat) : Int) != 0) = false from rfl, cond_false, wr (by omega) (by omega)]
        have h4 := ih (t + 1) (by omega) (by
          rw [hf, show 64 * (m + 1) = 64 * m + 64 from by omega]
          refine topB_skip f (64 * m) 64 fun q h5 h6 => ?_
          have := h3 (q - 64 * m) (by omega)
          rw [show 64 * m + (q - 64 * m) = q from by omega] at this
          rw [← this]; simp)
        exact h4
      · rw [show ((x : Int) != 0) = true from by simp [hx], cond_true]
        refine ⟨by omega, by omega, _, h.ld 0 rfl hcell, ?_⟩
        apply math_bits_Len64_spec h2
        obtain ⟨h4, h5⟩ := log2_top hx
        have hlt : x.log2 < 64 := (Nat.log2_lt hx).2 h2
        have htop : topB f 256 = some (64 * m + x.log2) := by
          rw [hf]
          refine topB_at (by omega) (by rw [← h3 _ hlt]; exact h4) fun q h6 h7 => ?_
          have := h3 (q - 64 * m) (by omega)
          rw [show 64 * m + (q - 64 * m) = q from by omega] at this
          rw [← this]; exact h5 _ (by omega)
        have hl64 : len64 x = x.log2 + 1 := by unfold len64; rw [if_neg hx]
        rw [hl64, wr (x := (m : Int) * 64) (by omega) (by omega), wr (x := (m : Int) * 64 + ((x.log2 + 1 : Nat) : Int)) (by omega) (by omega), wr (by omega) (by omega)]
        have : (m : Int) * 64 + ((x.log2 + 1 : Nat) : Int) - 1 = topI f := by unfold topI; rw [htop]; simp; omega
        rw [this]; exact hK _ h.drop
  exact key 4 0 rfl rfl

/-- A slice of ints, appended to. -/
theorem app_ints {B : Nat} {w0 w : World} {L : List Asn} {s x : Sl} {xs ys : List Int} {k : Sl → World → Prop} (h : Own B w0 w L) (i : Nat) (hL : L[i]? = some (SlT intE s xs)) (hx : SlO 1 w x (ys.flatMap intE.enc)) (hxl : x.len = ys.length)
    (hbig : xs.length + ys.length ≤ 1000000000000) (hk : ∀ s' w', s'.len = xs.length + ys.length → Own B w0 w' (L.set i (SlT intE s' (xs ++ ys))) → k s' w') :
    ∃ s' w', AppR Try.prog [41, 41] 41 (.slice s.a s.len s.cap) (.slice x.a x.len x.cap) w s' w' ∧ k s' w' :=
  h.app Try.underlying41 (show Try.prog.info? 3 = some Try.t3 from by kernel_rfl) (zv := .int .i64 0) (by kernel_rfl) (by kernel_rfl) rfl (by decide) i hL hx hxl (by
    have e : Try.t3.bytes = 8 := by kernel_rfl
    rw [e]; omega) hk

theorem app1_ints {B : Nat} {w0 w : World} {L : List Asn} {s : Sl} {xs : List Int} {y : Int} {c : Nat} {k : Sl → World → Prop} (h : Own B w0 w (BlkA c [.int .i64 y] :: L)) (i : Nat) (hL : L[i]? = some (SlT intE s xs))
    (hbig : xs.length ≤ 1000000000000) (hk : ∀ s' w', s'.len = xs.length + 1 → Own B w0 w' (L.set i (SlT intE s' (xs ++ [y]))) → k s' w') :
    ∃ s' w', AppR Try.prog [41, 41] 41 (.slice s.a s.len s.cap) (.slice (some (Addr.mk c 0 none)) 1 1) w s' w' ∧ k s' w' :=
  Own.app1 (E := intE) (y := y) Try.underlying41 (show Try.prog.info? 3 = some Try.t3 from by kernel_rfl) (zv := .int .i64 0) (by kernel_rfl) (by kernel_rfl) rfl (by decide) h i hL (by
    have e : Try.t3.bytes = 8 := by kernel_rfl
    rw [e]; omega) hk

theorem ints_flat (xs : List Int) : xs.flatMap intE.enc = xs.map (Value.int .i64) := by
  induction xs with
  | nil => rfl
  | cons x xs ih => rw [List.flatMap_cons, ih]; rfl

theorem slices_Clone_int_int_spec {B : Nat} {w0 w : World} {R : List Asn} {s : Sl} {xs : List Int} {K : Sl → World → Prop} (h : Own B w0 w R) (hx : SlO 1 w s (xs.flatMap intE.enc)) (hl : s.len = xs.length)
    (hbig : xs.length ≤ 1000000000000) (hK : ∀ s' w', Own B w0 w' (SlT intE s' xs :: R) → K s' w') : C.slices_Clone_int_int s K w := by
  apply S.slices_Clone_int_int_ok
  unfold S.slices_Clone_int_int
  cases ha : s.a with
  | none =>
    simp only [Option.isNone_none, cond_true]
    cases hx with
    | nil _ h1 h2 h3 =>
      have : xs = [] := List.eq_nil_of_length_eq_zero (by omega)
      subst this
      exact hK _ _ h.nilS
    | mk b o l h1 _ _ _ _ => rw [h1] at ha; cases ha
  | some a =>
    simp only [Option.isNone_some, cond_false]
    refine h.al' fun w1 u h => ?_
    rw [← ha]
    exact app_ints (s := ⟨some (Addr.mk w.heap.size 0 none), 0, 0⟩) (xs := []) (ys := xs) (x := s) h.empty 0 rfl (hx.no u) hl (by simpa using hbig) fun s' w' _ h => hK s' w' h

/-- A function value that tells p of ints, whatever is owned. -/
def Tells (B : Nat) (w0 : World) (L : List Asn) (fv : Value) (p : Int → Bool) : Prop :=
  ∀ (x : Int) (w : World) (Q : Bool → World → Prop), Own B w0 w L → (∀ w', Own B w0 w' L → Q (p x) w') → CallV Try.prog fv [.int .i64 x] w fun en w' => ∃ r : Bool, en = .returned (.bool r) ∧ Q r w'

theorem slices_IndexFunc_int_int_spec {B : Nat} {w0 w : World} {L : List Asn} {s : Sl} {xs : List Int} {fv : Value} {p : Int → Bool} {K : Int → World → Prop} (h : Own B w0 w L) (i : Nat) (hi : L[i]? = some (SlT intE s xs))
    (hbig : xs.length ≤ 1000000000000) (hf : Tells B w0 L fv p)
    (hK : ∀ w', Own B w0 w' L → K (match xs.findIdx? p with | some j => (j : Int) | none => -1) w') : C.slices_IndexFunc_int_int s fv K w := by
  apply S.slices_IndexFunc_int_int_ok
  unfold S.slices_IndexFunc_int_int
  intro l hl
  have hlen := h.len i hi
  have key : ∀ (m j : Nat) (w : World), j + m = xs.length → (∀ q, q < j → ∀ x, xs[q]? = some x → p x = false) → Own B w0 w L → l (j : Int) w := by
    intro m
    induction m with
    | zero =>
      intro j w hj hno h
      apply hl
      rw [hlen, show decide ((j : Int) < (xs.length : Int)) = false from by simp; omega, cond_false]
      have : xs.findIdx? p = none := by
        rw [List.findIdx?_eq_none_iff]
        intro x hx
        obtain ⟨q, hq⟩ := List.mem_iff_getElem?.1 hx
        exact hno q (by have := (List.getElem?_eq_some_iff.1 hq).1; omega) x hq
      have := hK w h
      rwa [‹xs.findIdx? p = none›] at this
    | succ m ih =>
      intro j w hj hno h
      apply hl
      rw [hlen, show decide ((j : Int) < (xs.length : Int)) = true from by simp; omega, cond_true]
      have hlt : j < xs.length := by omega
      obtain ⟨a, ha, hc⟩ := h.getI i hi (List.getElem?_eq_getElem hlt)
      refine ⟨a, ha, by omega, by omega, _, by rw [Int.toNat_natCast]; exact hc, ?_⟩
      refine hf _ _ _ h fun w' h => ?_
      cases hp : p xs[j] with
      | true =>
        rw [cond_true]
        have : xs.findIdx? p = some j := by
          rw [List.findIdx?_eq_some_iff_getElem]
          refine ⟨hlt, hp, fun q hq => ?_⟩
          simp [hno q hq _ (List.getElem?_eq_getElem (by omega))]
        have h2 := hK w' h
        rwa [this] at h2
      | false =>
        rw [cond_false, wr (by omega) (by omega)]
        refine ih (j + 1) w' (by omega) (fun q hq x hx => ?_) h
        by_cases e : q = j
        · subst e; rw [List.getElem?_eq_getElem hlt] at hx; cases hx; exact hp
        · exact hno q (by omega) x hx
  exact key xs.length 0 w (by omega) (fun q hq => by omega) h

theorem filter_take_succ (xs : List Int) (q : Int → Bool) (j : Nat) (x : Int) (hx : xs[j]? = some x) : (xs.take (j + 1)).filter q = (xs.take j).filter q ++ if q x then [x] else [] := by
  rw [List.take_add_one, hx, List.filter_append]
  congr 1
  simp only [Option.toList_some, List.filter_cons, List.filter_nil]

theorem slices_DeleteFunc_int_int_spec {B : Nat} {w0 w : World} {L : List Asn} {s : Sl} {xs : List Int} {fv : Value} {p : Int → Bool} {K : Sl → World → Prop} (h : Own B w0 w L) (i : Nat) (hi : L[i]? = some (SlT intE s xs))
    (hbig : xs.length ≤ 1000000000000) (hf : ∀ ys, ys.length = xs.length → Tells B w0 (L.set i (SlT intE s ys)) fv p)
    (hK : ∀ s' w', Own B w0 w' (L.set i (SlT intE s' (xs.filter fun x => !p x))) → K s' w') : C.slices_DeleteFunc_int_int s fv K w := by
  apply S.slices_DeleteFunc_int_int_ok
  unfold S.slices_DeleteFunc_int_int
  have hself : ∀ A, L[i]? = some A → L.set i A = L := by
    intro A hA
    apply List.ext_getElem?
    intro j
    rw [List.getElem?_set]
    by_cases e : i = j
    · subst e; rw [if_pos rfl, if_pos (lt_of_get hA), hA]
    · simp [e]
  have hf0 : Tells B w0 L fv p := by have := hf xs rfl; rwa [hself _ hi] at this
  have hlen := h.len i hi
  have hspot := (h.slO i hi).spot
  refine slices_IndexFunc_int_int_spec h i hi hbig hf0 fun w1 h => ?_
  cases hfi : xs.findIdx? p with
  | none =>
    rw [show ((-1 : Int) == -1) = true from rfl, cond_true]
    have : xs.filter (fun x => !p x) = xs := by
      rw [List.filter_eq_self]
      intro x hx
      rw [List.findIdx?_eq_none_iff] at hfi
      simp [hfi x hx]
    have h2 := hK s w1
    rw [this, hself _ hi] at h2
    exact h2 h
  | some i0 =>
    obtain ⟨hi0, hp0, hbefore⟩ := List.findIdx?_eq_some_iff_getElem.1 hfi
    rw [show (((i0 : Nat) : Int) == -1) = false from by simp, cond_false]
    intro l hl
    have hcap := (h.slO i hi).le_cap
    have key : ∀ (m j q : Nat) (ys : List Int) (w : World), j + m = xs.length → ys.length = xs.length → ys.take q = (xs.take j).filter (fun x => !p x) → q < j → q ≤ ys.length → ys.drop j = xs.drop j →
        Own B w0 w (L.set i (SlT intE s ys)) → l (q : Int) (j : Int) w := by
      intro m
      induction m with
      | zero =>
        intro j q ys w hj hys hq hqj hqy hd h
        have hi' : (L.set i (SlT intE s ys))[i]? = some (SlT intE s ys) := by rw [List.getElem?_set_self (lt_of_get hi)]
        apply hl
        rw [hlen, show decide ((j : Int) < (xs.length : Int)) = false from by simp; omega, cond_false]
        refine ⟨by omega, by omega, ?_⟩
        rw [Int.toNat_natCast, ← hlen]
        have hn : q ≤ ys.length := hqy
        refine h.clear (P := Try.prog) (T := 41) (t := 0) (zv := .int .i64 0) (z0 := 0) Try.underlying41 (fun w => Try.zeroValue3 w) rfl i hi' hn fun w2 h => ?_
        refine ⟨by omega, by omega, ?_⟩
        have hi2 := List.getElem?_set_self (a := SlT intE s (ys.take q ++ List.replicate (ys.length - q) 0)) (lt_of_get hi')
        have h3 := h.pre i hi2 (n := q) (by simp; omega)
        rw [slA0 _ _ _ hspot]
        have e1 : (ys.take q ++ List.replicate (ys.length - q) 0).take q = xs.filter (fun x => !p x) := by
          rw [List.take_append_of_le_length (by simp; omega), List.take_take, Nat.min_self, hq, List.take_of_length_le (by omega)]
        rw [e1] at h3
        simp only [List.set_set] at h3
        exact hK _ _ h3
      | succ m ih =>
        intro j q ys w hj hys hq hqj hqy hd h
        have hi' : (L.set i (SlT intE s ys))[i]? = some (SlT intE s ys) := by rw [List.getElem?_set_self (lt_of_get hi)]
        have hjlt : j < xs.length := by omega
        have hyj : ys[j]? = some xs[j] := by
          have := congrArg (fun l => l[0]?) hd
          simp only [List.getElem?_drop, Nat.add_zero] at this
          rw [this, List.getElem?_eq_getElem hjlt]
        apply hl
        rw [hlen, show decide ((j : Int) < (xs.length : Int)) = true from by simp; omega, cond_true]
        obtain ⟨a, ha, hc⟩ := h.getI i hi' hyj
        refine ⟨a, ha, by omega, by omega, _, by rw [Int.toNat_natCast]; exact hc, ?_⟩
        refine hf ys hys _ _ _ h fun w2 h => ?_
        have hft := filter_take_succ xs (fun x => !p x) j _ (List.getElem?_eq_getElem hjlt)
        have hd1 : ∀ zs : List Int, zs.drop j = xs.drop j → zs.drop (j + 1) = xs.drop (j + 1) := fun zs hz => by
          rw [← List.drop_drop (i := 1) (j := j), ← List.drop_drop (i := 1) (j := j), hz]
        cases hp : p xs[j] with
        | true =>
          simp only [Bool.not_true, cond_false]
          rw [wr (by omega) (by omega)]
          refine ih (j + 1) q ys w2 (by omega) hys ?_ (by omega) hqy (hd1 ys hd) h
          rw [hq, hft, hp]; simp
        | false =>
          simp only [Bool.not_false, cond_true]
          obtain ⟨b, o, hb, _⟩ := h.get i hi' hyj
          rw [ha] at hb; cases hb
          refine ⟨_, ha, by omega, by omega, ?_⟩
          rw [Int.toNat_natCast, add_mk]
          refine h.stE i hi' (j := q) (by omega) xs[j] ha rfl fun w3 h => ?_
          simp only [List.set_set] at h
          rw [wr (by omega) (by omega), wr (by omega) (by omega)]
          refine ih (j + 1) (q + 1) _ w3 (by omega) (by simpa using hys) ?_ (by omega) (by simp; omega) ?_ h
          · rw [hft, hp]
            simp only [Bool.not_false, if_true]
            rw [List.take_add_one, List.getElem?_set_self (by omega), List.take_set_of_le (by omega), hq]
            rfl
          · rw [List.drop_set_of_lt (by omega)]
            exact hd1 ys hd
    refine key (xs.length - (i0 + 1)) (i0 + 1) i0 xs w1 (by omega) rfl ?_ (by omega) (by omega) rfl (by rw [hself _ hi]; exact h) |> fun h => ?_
    rw [show IntKind.i64.wrap ((i0 : Int) + 1) = ((i0 + 1 : Nat) : Int) from by rw [wr (by omega) (by omega)]; omega]
    · exact h
    · rw [filter_take_succ xs _ i0 _ (List.getElem?_eq_getElem hi0), hp0]
      simp only [Bool.not_true, Bool.false_eq_true, if_false, List.append_nil]
      symm
      rw [List.filter_eq_self]
      intro x hx
      obtain ⟨q, hq⟩ := List.mem_iff_getElem?.1 hx
      rw [List.getElem?_take] at hq
      split at hq
      · rename_i hlt
        obtain ⟨h4, h5⟩ := List.getElem?_eq_some_iff.1 hq
        have := hbefore q hlt
        rw [h5] at this
        simpa using this
      · cases hq
end Go.Proofs.Ytgkebkfabegflaa
