/- Tables of layer 14: where a page's table is; what is there. -/
import Derived.Test.YtmfbhjfkagnahaaC14
import Derived.Test.YtmfbhjfkagnahaaS4
import Derived.Test.YtmfbhjfkagnahaaS5
set_option linter.unusedVariables false
set_option linter.unusedSimpArgs false
set_option maxRecDepth 8000
namespace Go.Proofs.Ytmfbhjfkagnahaa
open Go Go.Vc Go.Proofs

theorem wrap_u64 (z : Nat) : IntKind.u64.wrap (z : Int) = ((z % 2 ^ 64 : Nat) : Int) := by
  have e1 : (2 : Int) ^ 64 = 18446744073709551616 := by decide
  have e2 : (2 : Nat) ^ 64 = 18446744073709551616 := by decide
  simp only [IntKind.wrap, IntKind.bits, IntKind.signed, e1, e2, Bool.false_and, Bool.false_eq_true, if_false]
  omega
theorem low_val (n : Nat) (hn : n ≤ 64) : IntKind.u64.wrap (shlI .u64 1 (n : Int) - 1) = ((2 ^ n - 1 : Nat) : Int) := by
  have e2 : (2 : Nat) ^ 64 = 18446744073709551616 := by decide
  have hp : 0 < 2 ^ n := Nat.two_pow_pos n
  unfold shlI
  rw [Int.toNat_natCast, show IntKind.u64.bits = 64 from rfl, Nat.min_eq_left hn, Int.one_mul, show ((2 : Int) ^ n) = ((2 ^ n : Nat) : Int) from by simp, wrap_u64]
  by_cases e : n = 64
  · subst e
    rw [e2]; rfl
  · have hlt : 2 ^ n < 2 ^ 64 := Nat.pow_lt_pow_right (by omega) (by omega)
    rw [Nat.mod_eq_of_lt hlt, show (((2 ^ n : Nat) : Int) - 1) = ((2 ^ n - 1 : Nat) : Int) from by omega, wrap_u64, Nat.mod_eq_of_lt (by omega)]
theorem bv_of (z : Nat) : BitVec.ofInt IntKind.u64.bits (z : Int) = BitVec.ofNat 64 z := by
  apply BitVec.eq_of_toNat_eq
  simp [IntKind.bits, BitVec.toNat_ofInt]
theorem and_low (v n : Nat) (hv : v < 2 ^ 64) (hn : n ≤ 64) : andI .u64 (v : Int) ((2 ^ n - 1 : Nat) : Int) = ((v % 2 ^ n : Nat) : Int) := by
  have hp : 0 < 2 ^ n := Nat.two_pow_pos n
  have hle : 2 ^ n ≤ 2 ^ 64 := Nat.pow_le_pow_right (by omega) hn
  unfold andI
  rw [bv_of, bv_of]
  have h1 : (BitVec.ofNat 64 v &&& BitVec.ofNat 64 (2 ^ n - 1)).toNat = v % 2 ^ n := by
    rw [BitVec.toNat_and, BitVec.toNat_ofNat, BitVec.toNat_ofNat, Nat.mod_eq_of_lt hv, Nat.mod_eq_of_lt (by omega), Nat.and_two_pow_sub_one_eq_mod]
  show IntKind.u64.wrap (((BitVec.ofNat 64 v &&& BitVec.ofNat 64 (2 ^ n - 1)).toNat : Nat) : Int) = _
  rw [h1, wrap_u64, Nat.mod_eq_of_lt (Nat.lt_of_le_of_lt (Nat.mod_le _ _) hv)]
theorem shr_nat (x k : Nat) (hk : k ≤ 64) : shrI .u64 (x : Int) (k : Int) = ((x / 2 ^ k : Nat) : Int) := by
  unfold shrI
  rw [Int.toNat_natCast, show IntKind.u64.bits = 64 from rfl, Nat.min_eq_left hk]
  rw [show ((2 : Int) ^ k) = ((2 ^ k : Nat) : Int) from by simp]
  rw [Int.fdiv_eq_ediv_of_nonneg _ (Int.natCast_nonneg _)]
  simp


theorem lk_nil {P : Program} {T kt el : TypeId} {K : Type} [DecidableEq K] {enc : K → Value} (hu : P.underlying T = some (.map kt el)) (hk : KeyOk P kt enc) {z : Value} (hz : ∀ w, (zeroValue el).run P w = .ok z w) {w : World} {k : K} :
    LkB P T (.map none) (enc k) z false w ∧ Lk1 P T (.map none) (enc k) z w := by
  have h3 := find_none (V := Unit) (encV := fun _ => .nilIface) (L := []) hk (es := #[]) rfl (k := k) rfl w
  constructor
  · unfold LkB Instr.lookup
    simp only [Sem.run_bind, run_und hu, Result.andThen_ok, Sem.run_pure, hk.check, h3, hz, if_true]
  · unfold Lk1 Instr.lookup
    simp only [Sem.run_bind, run_und hu, Result.andThen_ok, Sem.run_pure, hk.check, h3, hz, Bool.false_eq_true, if_false]
section
variable {B : Nat} {w0 w : World} {R L : List Asn} {b : Nat} {m : Spc}
theorem words_low_spec {n : Nat} {K : Int → World → Prop} (hn : n ≤ 64) (h : K ((2 ^ n - 1 : Nat) : Int) w) : C.words_low (n : Int) K w := by
  apply S.words_low_ok
  unfold S.words_low
  rw [low_val n hn]
  exact ⟨by omega, h⟩
theorem words_there_spec {a n : Nat} {K : Bool → World → Prop} (ha : a + n ≤ 64) (h : K true w) : C.words_there (a : Int) (n : Int) K w := by
  apply S.words_there_ok
  unfold S.words_there
  refine cdecT (by omega) (cdecT (by omega) (cdecT (by omega) ?_))
  rw [wr (by omega) (by omega), decide_eq_true (by omega)]
  exact h
theorem words_Field_spec {v a n : Nat} {K : Int → Int → World → Prop} (hv : v < 2 ^ 64) (hn : a + n ≤ 64) (h : Own B w0 w L) (hK : ∀ w', Own B w0 w' L → K ((v / 2 ^ a % 2 ^ n : Nat) : Int) 0 w') : C.words_Field (v : Int) (a : Int) (n : Int) K w := by
  apply S.words_Field_ok
  unfold S.words_Field
  refine words_there_spec hn ?_
  refine cbF rfl ?_
  (repeat (first | (refine h.al fun w h => ?_) | (refine h.dr fun w h => ?_) | (refine h.lc_2 rfl ?_) | (refine h.lc_6 rfl ?_) | (refine ⟨_, h.ldc rfl, ?_⟩) | (refine ⟨_, h.ldd rfl, ?_⟩) | (refine h.hd rfl ?_) | (refine ⟨h.ldc rfl, ?_⟩) | (refine ⟨h.ldd rfl, ?_⟩) | (refine h.stLc rfl rfl fun w h => ?_) | (refine exs ?_) | (refine _root_.Go.Vc.a2 ?_) | (refine h.stc rfl rfl fun w h => ?_) | (refine h.std rfl rfl fun w h => ?_)))
  refine ⟨by omega, a2 ?_⟩
  refine words_low_spec (by omega) ?_
  rw [shr_nat v a (by omega), and_low _ n (Nat.lt_of_le_of_lt (Nat.div_le_self _ _) hv) (by omega)]
  exact hK _ h


theorem page_spec {n : Int} {K : Bool → World → Prop} (hK : K (decide (0 ≤ n ∧ n < 4096)) w) : C.tables_page n K w := by
  apply S.tables_page_ok
  unfold S.tables_page
  refine cdec (fun e => ?_) (fun e => ?_)
  · rw [show decide (0 ≤ n ∧ n < 4096) = decide (n < 4096) from decide_eq_decide.2 (by omega)] at hK; exact hK
  · rw [decide_eq_false (by omega)] at hK; exact hK
theorem place_spec {n : Int} {K : Bool → World → Prop} (hK : K (decide (0 ≤ n ∧ n < 64)) w) : C.tables_place n K w := by
  apply S.tables_place_ok
  unfold S.tables_place
  refine cdec (fun e => ?_) (fun e => ?_)
  · rw [show decide (0 ≤ n ∧ n < 64) = decide (n < 64) from decide_eq_decide.2 (by omega)] at hK; exact hK
  · rw [decide_eq_false (by omega)] at hK; exact hK
theorem rights_spec {n : Int} {K : Bool → World → Prop} (hK : K (decide (0 ≤ n ∧ n ≤ 7)) w) : C.tables_rights n K w := by
  apply S.tables_rights_ok
  unfold S.tables_rights
  refine cdec (fun e => ?_) (fun e => ?_)
  · rw [show decide (0 ≤ n ∧ n ≤ 7) = decide (n ≤ 7) from decide_eq_decide.2 (by omega)] at hK; exact hK
  · rw [decide_eq_false (by omega)] at hK; exact hK
/-- The block's cells, by a table's number. -/
theorem cell_p {tb : Nat → Option Int} {mb : Nat → Nat} {i : Nat} (hi : i < 64) (j : Nat) (h : Own B w0 w L) (hL : L[j]? = some (BlkA b ((tcs tb mb).flatMap tcE.enc))) : w.cell? (⟨b, i * 2, none⟩ : Addr) = some (.int .i64 ((tb i).getD 0)) ∧ w.cell? ((⟨b, i * 2, none⟩ : Addr).add 1) = some (.map ((tb i).map fun _ => mb i)) :=
  ⟨h.ld0 j hL (tcell_n hi), h.ld j hL (tcell_p hi)⟩
theorem adr (b i : Nat) : (⟨b, 0, none⟩ : Addr).add (i * 2) = ⟨b, i * 2, none⟩ := by rw [add_mk, Nat.zero_add]
theorem of_spec {n : Int} {mb : Nat → Nat} {K : Option Addr → Bool → World → Prop} (hn : 0 ≤ n ∧ n < 4096) (j : Nat) (h : Own B w0 w L) (hL : L[j]? = some (BlkA b ((tcs m.tb mb).flatMap tcE.enc))) (hK : ∀ w', Own B w0 w' L → K (some ⟨b, n.toNat / 64 * 2, none⟩) (m.tb (n.toNat / 64)).isSome w') : C.tables_Space_of (some ⟨b, 0, none⟩) n K w := by
  apply S.tables_Space_of_ok
  unfold S.tables_Space_of
  obtain ⟨k, rfl⟩ := Int.eq_ofNat_of_zero_le hn.1
  rw [wrap_u64, Nat.mod_eq_of_lt (by omega)]
  refine words_Field_spec (a := 6) (n := 6) (by omega) (by omega) h fun w h => ?_
  rw [Int.toNat_natCast] at hK
  have e : k / 2 ^ 6 % 2 ^ 6 = k / 64 := by
    have : (2 : Nat) ^ 6 = 64 := by decide
    rw [this]; omega
  rw [e]
  refine h.dr fun w h => ?_
  refine ⟨_, rfl, by omega, by omega, _, rfl, by omega, by omega, ?_⟩
  rw [Int.toNat_natCast, adr]
  refine ⟨_, (cell_p (by omega) j h hL).2, ?_⟩
  have := hK w h
  cases ht : m.tb (k / 64) with
  | none => rw [ht] at this; exact this
  | some v => rw [ht] at this; exact this
theorem zeroPg : ∀ w, (zeroValue 51).run Try.prog w = .ok (pgV (0, 0)) w := fun w => Try.zeroValue51 w
/-- What a page is, or that it is not. -/
theorem lk_page {k : Int} {mb : Nat → Nat} {M : Nat → Pgs} (ho : SOk m) (hM : ∀ i, (M i).Perm (tabP m.pg i)) (hk : 0 ≤ k ∧ k < 4096) (j : Nat) (h : Own B w0 w L) (hL : L[j]? = some (tabA m.tb mb M (k.toNat / 64))) :
    LkB Try.prog 94 (.map ((m.tb (k.toNat / 64)).map fun _ => mb (k.toNat / 64))) (.int .i64 k) (.agg #[.int .i64 ((look m.pg k).getD (0, 0)).1, .int .i64 ((look m.pg k).getD (0, 0)).2]) (look m.pg k).isSome w := by
  have hlook : look (tabP m.pg (k.toNat / 64)) k = look m.pg k := by
    unfold tabP
    rw [look_filter ho.srt]
    cases e : look m.pg k with
    | none => rfl
    | some v => rw [Option.filter_some, if_pos (by simp)]
  have hget : mget (M (k.toNat / 64)) k = look m.pg k := by rw [look_perm (hM _) (ho.srt.filter _)]; exact hlook
  cases ht : m.tb (k.toNat / 64) with
  | none =>
    have hno : look m.pg k = none := by
      cases e : look m.pg k with
      | none => rfl
      | some v => have := (ho.tab e).2.2; rw [ht] at this; cases this
    rw [hno]
    exact (lk_nil Try.underlying94 (keyOk_int .i64 Try.underlying3) zeroPg).1
  | some v =>
    unfold tabA at hL
    rw [if_pos (by rw [ht]; rfl)] at hL
    cases e : look m.pg k with
    | none => exact (h.mlook0 Try.underlying94 (keyOk_int .i64 Try.underlying3) zeroPg j hL (by rw [hget, e])).1
    | some p => exact (h.mlook Try.underlying94 (keyOk_int .i64 Try.underlying3) j hL (by rw [hget, e]; rfl)).1
theorem Walk_spec {k : Int} {K : Int → Int → Bool → World → Prop} (h : Own B w0 w (SpcA b m :: R)) (hK : ∀ w', Own B w0 w' (SpcA b m :: R) → K ((look m.pg k).getD (0, 0)).1 ((look m.pg k).getD (0, 0)).2 (look m.pg k).isSome w') : C.tables_Space_Walk (some ⟨b, 0, none⟩) k K w := by
  apply S.tables_Space_Walk_ok
  unfold S.tables_Space_Walk
  obtain ⟨mb, M, ho, hM, h⟩ := h.spc
  refine h.al fun w1 h => ?_
  generalize w.heap.size = d at h ⊢
  refine page_spec ?_
  by_cases hk : 0 ≤ k ∧ k < 4096
  · rw [decide_eq_true hk]
    refine cbF rfl ?_
    have hq : k.toNat / 64 < 64 := by omega
    refine of_spec (mb := mb) (m := m) hk 1 h rfl fun w h => ?_
    refine ⟨_, rfl, _, (cell_p hq 1 h rfl).2, ?_⟩
    refine ⟨_, _, _, lk_page ho hM hk (k.toNat / 64 + 2) h (by rw [List.getElem?_cons_succ]; exact tabs_get hq _), ?_⟩
    refine h.al fun w2 h => ?_
    generalize w.heap.size = d2 at h ⊢
    refine h.stLc rfl rfl fun w h => ?_
    refine h.lc_2 rfl ?_
    have h := h.up1
    refine h.stLc rfl rfl fun w h => ?_
    refine h.lc_2 rfl ?_
    exact hK w (Own.mk_spc ho hM h.drop.drop)
  · rw [decide_eq_false hk]
    refine cbT rfl ?_
    refine h.stLc rfl rfl fun w h => ?_
    refine h.lc_2 rfl ?_
    rw [ho.out hk] at hK
    exact hK w (Own.mk_spc ho hM h.drop)
end
end Go.Proofs.Ytmfbhjfkagnahaa
