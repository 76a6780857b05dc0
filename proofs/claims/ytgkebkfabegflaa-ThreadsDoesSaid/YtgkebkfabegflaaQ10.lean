/- The queue of layer 9: what it holds, and what its methods come to. -/
import Derived.Test.YtgkebkfabegflaaX
import Derived.Test.YtgkebkfabegflaaS1
set_option linter.unusedVariables false
set_option linter.unusedSimpArgs false
namespace Go.Proofs.Ytgkebkfabegflaa
open Go Go.Vc Go.Proofs

abbrev Qs := List (Nat × Int)
def lineOf (L : Qs) (p : Nat) : List Int := (L.filter fun x => x.1 == p).map (·.2)
def wh (L : Qs) (n : Int) : Option Nat := (L.find? fun x => x.2 == n).map (·.1)
def some1 (L : Qs) (p : Nat) : Bool := !(lineOf L p).isEmpty
structure QOk (L : Qs) : Prop where
  nodup : (L.map (·.2)).Nodup
  prio : ∀ x ∈ L, x.1 < 256
  few : L.length ≤ 1000000

theorem four {α : Type} (ws : List α) (h : ws.length = 4) : ∃ a b c d, ws = [a, b, c, d] := by
  rcases ws with _ | ⟨a, _ | ⟨b, _ | ⟨c, _ | ⟨d, _ | ⟨e, ws⟩⟩⟩⟩⟩
  · simp at h
  · simp at h
  · simp at h
  · simp at h
  · exact ⟨a, b, c, d, rfl⟩
  · simp at h
/-- The cells of a queue. -/
def slV (s : Sl) : Value := .slice s.a s.len s.cap
def qcells (sl : Nat → Sl) (m : Nat) (ws : List Int) : List Value := (List.range 256).map (fun p => slV (sl p)) ++ Value.map (some m) :: ws.map (Value.int .u64)
def updF (sl : Nat → Sl) (p : Nat) (s : Sl) : Nat → Sl := fun q => if q = p then s else sl q
theorem qcells_line {sl : Nat → Sl} {m : Nat} {ws : List Int} {p : Nat} (hp : p < 256) : (qcells sl m ws)[p]? = some (slV (sl p)) := by
  unfold qcells
  rw [List.getElem?_append_left (by simpa using hp), List.getElem?_map, List.getElem?_range hp]; rfl
theorem qcells_map {sl : Nat → Sl} {m : Nat} {ws : List Int} : (qcells sl m ws)[256]? = some (.map (some m)) := by
  unfold qcells
  rw [List.getElem?_append_right (by simp)]
  simp
theorem qcells_word {sl : Nat → Sl} {m : Nat} {ws : List Int} (j : Nat) : (qcells sl m ws)[257 + j]? = (ws[j]?).map (Value.int .u64) := by
  unfold qcells
  rw [List.getElem?_append_right (by simp; omega)]
  simp only [List.length_map, List.length_range]
  rw [show 257 + j - 256 = j + 1 from by omega, List.getElem?_cons_succ, List.getElem?_map]
theorem qcells_set {sl : Nat → Sl} {m : Nat} {ws : List Int} {p : Nat} (hp : p < 256) (s : Sl) : (qcells sl m ws).set p (slV s) = qcells (updF sl p s) m ws := by
  unfold qcells
  rw [List.set_append_left _ _ (by simpa using hp)]
  congr 1
  apply List.ext_getElem?
  intro i
  rw [List.getElem?_set]
  simp only [List.getElem?_map, List.length_map, List.length_range]
  by_cases hi : i < 256
  · rw [List.getElem?_range hi]
    by_cases e : p = i
    · subst e; simp [hp, updF]
    · have e' : ¬ i = p := fun h => e h.symm
      simp [e, e', updF]
  · rw [List.getElem?_eq_none (l := List.range 256) (by simpa using hi), if_neg (by omega)]; rfl
theorem qcells_setw {sl : Nat → Sl} {m : Nat} {ws : List Int} (j : Nat) (x : Int) : (qcells sl m ws).set (257 + j) (.int .u64 x) = qcells sl m (ws.set j x) := by
  unfold qcells
  rw [List.set_append_right _ _ (by simp; omega)]
  simp only [List.length_map, List.length_range]
  rw [show 257 + j - 256 = j + 1 from by omega, List.set_cons_succ, List.map_set]

/-- What a queue's map tells. -/
def ByOk (L : Qs) (M : List (Int × Int)) : Prop := ∀ n, mget M n = (wh L n).map fun p : Nat => (p : Int)
structure Qx where
  m : Nat
  M : List (Int × Int)
  sl : Nat → Sl
  ws : List Int
def linesA (sl : Nat → Sl) (L : Qs) : List Asn := (List.range 256).map fun p => SlT intE (sl p) (lineOf L p)
abbrev mapA (m : Nat) (M : List (Int × Int)) : Asn := MapA (Value.int .i64) (Value.int .i64) m M
/-- A queue at a block. -/
def QueueA (b : Nat) (L : Qs) : Asn := ExA fun x : Qx => StarA (PureA (QOk L ∧ ByOk L x.M ∧ BitsOk (some1 L) x.ws) :: BlkA b (qcells x.sl x.m x.ws) :: mapA x.m x.M :: linesA x.sl L)

section
variable {B : Nat} {w0 w : World} {R : List Asn} {b : Nat} {L : Qs}
theorem _root_.Go.Vc.Own.queue (h : Own B w0 w (QueueA b L :: R)) : ∃ x : Qx, QOk L ∧ ByOk L x.M ∧ BitsOk (some1 L) x.ws ∧ Own B w0 w (BlkA b (qcells x.sl x.m x.ws) :: mapA x.m x.M :: (linesA x.sl L ++ R)) := by
  obtain ⟨x, h⟩ := h.ex
  have h := h.star
  obtain ⟨⟨h1, h2, h3⟩, h⟩ := Own.pure h
  exact ⟨x, h1, h2, h3, h⟩
theorem _root_.Go.Vc.Own.mk_queue {m : Nat} {M : List (Int × Int)} {sl : Nat → Sl} {ws : List Int} (h1 : QOk L) (h2 : ByOk L M) (h3 : BitsOk (some1 L) ws) (h : Own B w0 w (BlkA b (qcells sl m ws) :: mapA m M :: (linesA sl L ++ R))) : Own B w0 w (QueueA b L :: R) :=
  Own.mk_ex ⟨m, M, sl, ws⟩ (Own.mk_star (Own.mk_pure ⟨h1, h2, h3⟩ h))
theorem lines_get {sl : Nat → Sl} {p : Nat} (hp : p < 256) (A B : Asn) (R : List Asn) : (A :: B :: (linesA sl L ++ R))[2 + p]? = some (SlT intE (sl p) (lineOf L p)) := by
  rw [show 2 + p = p + 1 + 1 from by omega, List.getElem?_cons_succ, List.getElem?_cons_succ, List.getElem?_append_left (by simpa [linesA] using hp)]
  simp only [linesA, List.getElem?_map, List.getElem?_range hp, Option.map_some]
/-- One line is another one. -/
theorem lines_set {sl : Nat → Sl} {p : Nat} (hp : p < 256) {s : Sl} {ns : List Int} {L' : Qs} (hL : ∀ q, q < 256 → lineOf L' q = if q = p then ns else lineOf L q) (A B : Asn) (R : List Asn) :
    (A :: B :: (linesA sl L ++ R)).set (2 + p) (SlT intE s ns) = A :: B :: (linesA (updF sl p s) L' ++ R) := by
  rw [show 2 + p = p + 1 + 1 from by omega, List.set_cons_succ, List.set_cons_succ, List.set_append_left _ _ (by simpa [linesA] using hp)]
  congr 3
  apply List.ext_getElem?
  intro i
  rw [List.getElem?_set]
  simp only [linesA, List.getElem?_map, List.length_map, List.length_range]
  by_cases hi : i < 256
  · rw [List.getElem?_range hi]
    by_cases e : p = i
    · subst e; simp [hp, updF, hL p hp]
    · have e' : ¬ i = p := fun h => e h.symm
      simp [e, e', updF, hL i hi]
  · rw [List.getElem?_eq_none (l := List.range 256) (by simpa using hi), if_neg (by omega)]; rfl

theorem ready_lines_note_spec {sl : Nat → Sl} {m : Nat} {ws : List Int} {p : Nat} {K : World → Prop} (h : Own B w0 w (BlkA b (qcells sl m ws) :: R)) (hp : p < 256) (hw : ws.length = 4)
    (hK : ∀ w', Own B w0 w' (BlkA b (qcells sl m (setBits ws p (decide (0 < (sl p).len)))) :: R) → K w') : C.ready_lines_note (some ⟨b, 0, none⟩) (p : Int) K w := by
  apply S.ready_lines_note_ok
  unfold S.ready_lines_note
  obtain ⟨b1, b2, b3, b4, rfl⟩ := four ws hw
  refine h.dr fun w1 h => ?_
  refine ⟨_, rfl, ?_⟩
  simp only [add_mk]
  have hwd : ∀ j v, ([b1, b2, b3, b4].map (Value.int .u64))[j]? = some v → (qcells sl m [b1, b2, b3, b4])[257 + j]? = some v := fun j v hv => by
    rw [qcells_word, ← List.getElem?_map]; exact hv
  refine ⟨_, h.ld0 0 rfl (hwd 0 _ rfl), _, h.ld0 0 rfl (hwd 1 _ rfl), _, h.ld0 0 rfl (hwd 2 _ rfl), _, h.ld0 0 rfl (hwd 3 _ rfl), _, rfl, by omega, by omega, ?_⟩
  simp only [add_mk, Int.toNat_natCast, Nat.mul_one, Nat.zero_add]
  refine ⟨sl p, h.ld0 0 rfl (qcells_line hp), ?_, trivial⟩
  refine words_Set_spec h (by omega) (by omega) fun r1 r2 r3 r4 w2 h hr => ?_
  refine ⟨_, rfl, ?_, trivial⟩
  simp only [add_mk, Nat.zero_add]
  have hlen : ∀ (ws : List Int) (j : Nat), j < ws.length → ((qcells sl m ws)[257 + j]?).isSome = true := fun ws j hj => by
    rw [qcells_word, List.getElem?_eq_getElem hj]; rfl
  refine h.st 0 rfl (hlen _ 0 (by simp)) rfl fun w3 h => ?_
  refine h.st 0 rfl (by rw [qcells_setw 0]; exact hlen _ 1 (by simp)) rfl fun w4 h => ?_
  refine h.st 0 rfl (by rw [qcells_setw 0, qcells_setw 1]; exact hlen _ 2 (by simp)) rfl fun w5 h => ?_
  refine h.st 0 rfl (by rw [qcells_setw 0, qcells_setw 1, qcells_setw 2]; exact hlen _ 3 (by simp)) rfl fun w6 h => ?_
  have hd : decide (((sl p).len : Int) > 0) = decide (0 < (sl p).len) := by simp
  rw [hd, Int.toNat_natCast] at hr
  refine hK _ ?_
  rw [← hr]
  have e : ((((qcells sl m [b1, b2, b3, b4]).set 257 (.int .u64 r1)).set 258 (.int .u64 r2)).set 259 (.int .u64 r3)).set 260 (.int .u64 r4) = qcells sl m [r1, r2, r3, r4] := by
    rw [qcells_setw 0, qcells_setw 1, qcells_setw 2, qcells_setw 3]; rfl
  rw [← e]
  exact h

/-- The plain queue. -/
theorem wh_mem {L : Qs} {n : Int} {p : Nat} (h : wh L n = some p) : (p, n) ∈ L := by
  unfold wh at h
  obtain ⟨x, h1, rfl⟩ := Option.map_eq_some_iff.1 h
  have h2 := List.find?_some h1
  have h3 : x.2 = n := by simpa using h2
  have := List.mem_of_find?_eq_some h1
  rw [← h3]; exact this
theorem wh_none {L : Qs} {n : Int} : wh L n = none ↔ ∀ x ∈ L, x.2 ≠ n := by
  unfold wh
  rw [Option.map_eq_none_iff, List.find?_eq_none]
  simp
theorem nodup_inj {L : Qs} (h : (L.map (·.2)).Nodup) {x y : Nat × Int} (hx : x ∈ L) (hy : y ∈ L) (e : x.2 = y.2) : x = y := by
  induction L with
  | nil => cases hx
  | cons a L ih =>
    simp only [List.map_cons, List.nodup_cons, List.mem_map, not_exists, not_and] at h
    rcases List.mem_cons.1 hx with hx' | hx'
    · rcases List.mem_cons.1 hy with hy' | hy'
      · rw [hx', hy']
      · rw [hx'] at e; exact absurd e.symm (h.1 y hy')
    · rcases List.mem_cons.1 hy with hy' | hy'
      · rw [hy'] at e; exact absurd e (h.1 x hx')
      · exact ih h.2 hx' hy'
theorem wh_of_mem {L : Qs} (h : (L.map (·.2)).Nodup) {n : Int} {p : Nat} (hm : (p, n) ∈ L) : wh L n = some p := by
  cases hw : wh L n with
  | none => exact absurd rfl (wh_none.1 hw _ hm)
  | some q => have := nodup_inj h (wh_mem hw) hm rfl; cases this; rfl
theorem mem_line {L : Qs} {p : Nat} {n : Int} : n ∈ lineOf L p ↔ (p, n) ∈ L := by
  unfold lineOf
  rw [List.mem_map]
  constructor
  · rintro ⟨⟨a, b⟩, h1, h2⟩
    rw [List.mem_filter] at h1
    have : a = p := by simpa using h1.2
    subst this
    have h2 : b = n := h2
    subst h2
    exact h1.1
  · intro h; exact ⟨(p, n), List.mem_filter.2 ⟨h, by simp⟩, rfl⟩
theorem line_put (L : Qs) (p : Nat) (n : Int) (q : Nat) : lineOf (L ++ [(p, n)]) q = if q = p then lineOf L p ++ [n] else lineOf L q := by
  unfold lineOf
  rw [List.filter_append, List.map_append]
  by_cases e : q = p
  · subst e; simp
  · have : (p == q) = false := by simpa using fun h => e h.symm
    simp [e, this]
theorem line_len (L : Qs) (p : Nat) : (lineOf L p).length ≤ L.length := by
  unfold lineOf; rw [List.length_map]; exact List.length_filter_le _ _
theorem wh_put {L : Qs} {p : Nat} {n : Int} (hn : wh L n = none) (x : Int) : wh (L ++ [(p, n)]) x = if n = x then some p else wh L x := by
  unfold wh
  rw [List.find?_append]
  by_cases e : n = x
  · subst e
    have : L.find? (fun y => y.2 == n) = none := by have h := hn; unfold wh at h; rwa [Option.map_eq_none_iff] at h
    rw [this]; simp
  · have : (n == x) = false := by simpa using e
    rw [if_neg e]
    cases L.find? (fun y => y.2 == x) <;> simp [this]
theorem put_ok {L : Qs} {p : Nat} {n : Int} (h : QOk L) (hp : p < 256) (hn : wh L n = none) (hf : L.length < 1000000) : QOk (L ++ [(p, n)]) := by
  refine ⟨?_, fun x hx => ?_, by simp; omega⟩
  · rw [List.map_append, List.nodup_append]
    refine ⟨h.nodup, by simp, fun a ha b hb => ?_⟩
    simp only [List.map_cons, List.map_nil, List.mem_singleton] at hb
    subst hb
    obtain ⟨y, hy, rfl⟩ := List.mem_map.1 ha
    exact wh_none.1 hn y hy
  · rcases List.mem_append.1 hx with hx | hx
    · exact h.prio x hx
    · simp at hx; subst hx; exact hp

def putR (L : Qs) (p n : Int) : Int × Qs := if p < 0 ∨ 256 ≤ p then (1, L) else match wh L n with | some _ => (90, L) | none => (0, L ++ [(p.toNat, n)])

theorem ready_Queue_Put_spec {p n : Int} {K : Int → World → Prop} (h : Own B w0 w (QueueA b L :: R)) (hf : L.length < 1000000)
    (hK : ∀ w', Own B w0 w' (QueueA b (putR L p n).2 :: R) → K (putR L p n).1 w') : C.ready_Queue_Put (some ⟨b, 0, none⟩) p n K w := by
  apply S.ready_Queue_Put_ok
  unfold S.ready_Queue_Put
  intro k hk
  by_cases h0 : p < 0
  · rw [show decide (p < 0) = true from by simp [h0], cond_true]
    apply hk
    rw [cond_true]
    have e : putR L p n = (1, L) := by unfold putR; rw [if_pos (.inl h0)]
    rw [e] at hK; exact hK w h
  rw [show decide (p < 0) = false from by simp; omega, cond_false]
  apply hk
  by_cases h1 : 256 ≤ p
  · rw [show decide (p ≥ 256) = true from by simp; omega, cond_true]
    have e : putR L p n = (1, L) := by unfold putR; rw [if_pos (.inr h1)]
    rw [e] at hK; exact hK w h
  rw [show decide (p ≥ 256) = false from by simp; omega, cond_false]
  obtain ⟨m, rfl⟩ := Int.eq_ofNat_of_zero_le (by omega : 0 ≤ p)
  have hm : m < 256 := by omega
  have e : putR L (m : Int) n = match wh L n with | some _ => (90, L) | none => (0, L ++ [(m, n)]) := by
    unfold putR; rw [if_neg (by omega)]; simp
  obtain ⟨x, hq, hby, hbits, h⟩ := h.queue
  refine ⟨_, rfl, some x.m, h.ld 0 rfl qcells_map, ?_⟩
  cases hw : wh L n with
  | some q =>
    have hg := hby n
    rw [hw] at hg
    refine ⟨(q : Int), true, (h.mlook Try.underlying75 (keyOk_int .i64 Try.underlying3) 1 rfl hg).1, ?_⟩
    rw [cond_true]
    rw [e, hw] at hK
    exact hK w (h.mk_queue hq hby hbits)
  | none =>
    have hg := hby n
    rw [hw] at hg
    refine ⟨0, false, (h.mlook0 Try.underlying75 (keyOk_int .i64 Try.underlying3) (fun w => Try.zeroValue3 w) 1 rfl hg).1, ?_⟩
    rw [cond_false]
    rw [e, hw] at hK
    refine h.dr fun w1 h => ?_
    refine ⟨_, rfl, by omega, by omega, ?_⟩
    simp only [add_mk, Int.toNat_natCast, Nat.mul_one, Nat.zero_add]
    refine ⟨x.sl m, h.ld0 0 rfl (qcells_line hm), _, rfl, h.al fun w2 h => ⟨?_, trivial⟩, trivial⟩
    have hll := line_len L m
    refine app1_ints h (2 + m) (lines_get hm _ _ _) (by omega) fun s' w3 hs' h => ?_
    rw [lines_set hm (line_put L m n · |> fun e => fun _ => e) _ _ _] at h
    refine ⟨by omega, by omega, ?_, trivial⟩
    simp only [add_mk, Nat.zero_add]
    refine h.st 0 rfl (by rw [qcells_line hm]; rfl) rfl fun w4 h => ?_
    have h : Own B w0 w4 (BlkA b ((qcells x.sl x.m x.ws).set m (slV s')) :: mapA x.m x.M :: (linesA (updF x.sl m s') (L ++ [(m, n)]) ++ R)) := h
    rw [qcells_set hm] at h
    refine ⟨_, rfl, some x.m, h.ld 0 rfl qcells_map, ?_⟩
    refine h.mput Try.underlying75 (keyOk_int .i64 Try.underlying3) 1 rfl fun w5 h => ?_
    refine ⟨_, rfl, ?_⟩
    refine ready_lines_note_spec h hm hbits.1 fun w6 h => ?_
    refine hK w6 (Own.mk_queue (put_ok hq hm hw hf) ?_ ?_ h)
    · intro y
      rw [mget_aput, wh_put hw, hby y]
      split <;> rfl
    · have hlen : (updF x.sl m s' m).len = (lineOf L m).length + 1 := by simp [updF, hs']
      rw [hlen, show decide (0 < (lineOf L m).length + 1) = true from by simp]
      refine (hbits.set hm true).congr fun i hi => ?_
      show (if i = m then true else some1 L i) = some1 (L ++ [(m, n)]) i
      unfold some1
      rw [line_put]
      by_cases e : i = m
      · simp [e]
      · simp [e]

theorem linesP_get {sl : Nat → Sl} {p : Nat} (hp : p < 256) (pre R : List Asn) : (pre ++ (linesA sl L ++ R))[p + pre.length]? = some (SlT intE (sl p) (lineOf L p)) := by
  rw [Nat.add_comm, List.getElem?_append_right (by omega), Nat.add_sub_cancel_left, List.getElem?_append_left (by simpa [linesA] using hp)]
  simp only [linesA, List.getElem?_map, List.getElem?_range hp, Option.map_some]
theorem linesP_set {sl : Nat → Sl} {p : Nat} (hp : p < 256) {s : Sl} {ns : List Int} {L' : Qs} (hL : ∀ q, q < 256 → lineOf L' q = if q = p then ns else lineOf L q) (pre R : List Asn) :
    (pre ++ (linesA sl L ++ R)).set (p + pre.length) (SlT intE s ns) = pre ++ (linesA (updF sl p s) L' ++ R) := by
  have h := lines_set (L := L) (L' := L') (sl := sl) (s := s) (ns := ns) hp hL (PureA True) (PureA True) R
  rw [show 2 + p = p + 1 + 1 from by omega, List.set_cons_succ, List.set_cons_succ] at h
  rw [Nat.add_comm p pre.length, List.set_append_right _ _ (by omega), Nat.add_sub_cancel_left]
  congr 1
  simp only [List.cons.injEq, true_and] at h
  exact h

theorem ready_New_spec {K : Option Addr → World → Prop} (h : Own B w0 w R) (hK : ∀ b w', Own B w0 w' (QueueA b [] :: R) → K (some ⟨b, 0, none⟩) w') : C.ready_New K w := by
  apply S.ready_New_ok
  unfold S.ready_New
  refine h.alMap (Value.int .i64) (Value.int .i64) fun w1 h => ?_
  refine h.al fun w2 h => ?_
  refine hK _ w2 ?_
  have hlines : ∀ (n : Nat) (w : World) (R : List Asn), Own B w0 w R → Own B w0 w ((List.range n).map (fun p => SlT intE ⟨none, 0, 0⟩ (lineOf [] p)) ++ R) := by
    intro n
    induction n with
    | zero => intro w R h; exact h
    | succ n ih =>
      intro w R h
      rw [List.range_succ, List.map_append, List.append_assoc]
      exact ih w _ (Own.nilS h)
  have h := h.blk_eq (l' := qcells (fun _ => ⟨none, 0, 0⟩) w.heap.size [0, 0, 0, 0]) (by kernel_rfl)
  refine Own.mk_queue (m := w.heap.size) (M := []) (sl := fun _ => ⟨none, 0, 0⟩) (ws := [0, 0, 0, 0]) ⟨by simp, by simp, by simp⟩ (fun n => rfl) (BitsOk.zero.congr fun i _ => rfl) ?_
  exact ((hlines 256 w2 _ h).perm List.perm_middle).perm ((List.perm_middle).cons _)

theorem line_filter (L : Qs) (n : Int) (q : Nat) : lineOf (L.filter fun x => x.2 != n) q = (lineOf L q).filter fun x => x != n := by
  unfold lineOf
  rw [List.filter_map, List.filter_filter, List.filter_filter]
  congr 1
  apply List.filter_congr
  intro x _
  simp [Function.comp, Bool.and_comm]
theorem line_take {L : Qs} (h : (L.map (·.2)).Nodup) {n : Int} {p : Nat} (hw : wh L n = some p) (q : Nat) : lineOf (L.filter fun x => x.2 != n) q = if q = p then (lineOf L p).filter (fun x => x != n) else lineOf L q := by
  rw [line_filter]
  by_cases e : q = p
  · subst e; simp
  · rw [if_neg e, List.filter_eq_self]
    intro x hx
    rw [mem_line] at hx
    simp only [bne_iff_ne, ne_eq]
    intro e'
    subst e'
    have := wh_of_mem h hx
    rw [hw] at this
    cases this
    exact e rfl
theorem wh_take {L : Qs} (n x : Int) : wh (L.filter fun y => y.2 != n) x = if n = x then none else wh L x := by
  by_cases e : n = x
  · subst e
    rw [if_pos rfl, wh_none]
    intro y hy
    have := (List.mem_filter.1 hy).2
    simpa using this
  · rw [if_neg e]
    unfold wh
    congr 1
    rw [List.find?_filter]
    congr 1
    funext y
    by_cases e2 : y.2 = x
    · have : ¬ y.2 = n := fun h => e (h.symm.trans e2)
      simp [e2, this]; rw [e2] at this; exact this
    · simp [e2]
def takeR (L : Qs) (n : Int) : Int × Qs := match wh L n with | some _ => (0, L.filter fun x => x.2 != n) | none => (91, L)

theorem ready_Queue_Take_spec {n : Int} {K : Int → World → Prop} (h : Own B w0 w (QueueA b L :: R))
    (hK : ∀ w', Own B w0 w' (QueueA b (takeR L n).2 :: R) → K (takeR L n).1 w') : C.ready_Queue_Take (some ⟨b, 0, none⟩) n K w := by
  apply S.ready_Queue_Take_ok
  unfold S.ready_Queue_Take
  obtain ⟨x, hq, hby, hbits, h⟩ := h.queue
  refine h.al fun w1 h => ?_
  refine h.dr fun w2 h => ?_
  refine ⟨_, rfl, some x.m, h.ld 1 rfl qcells_map, n, h.ld0 0 rfl rfl, ?_, trivial⟩
  cases hw : wh L n with
  | none =>
    have hg := hby n
    rw [hw] at hg
    refine ⟨0, false, (h.mlook0 Try.underlying75 (keyOk_int .i64 Try.underlying3) (fun w => Try.zeroValue3 w) 2 rfl hg).1, ?_⟩
    simp only [Bool.not_false, cond_true]
    have e : takeR L n = (91, L) := by unfold takeR; rw [hw]
    rw [e] at hK
    exact hK w2 (h.drop.mk_queue hq hby hbits)
  | some p =>
    have hg := hby n
    rw [hw] at hg
    have hp : p < 256 := hq.prio _ (wh_mem hw)
    refine ⟨(p : Int), true, (h.mlook Try.underlying75 (keyOk_int .i64 Try.underlying3) 2 rfl hg).1, ?_⟩
    simp only [Bool.not_true, cond_false]
    have e : takeR L n = (0, L.filter fun x => x.2 != n) := by unfold takeR; rw [hw]
    rw [e] at hK
    refine h.dr fun w3 h => ?_
    refine ⟨_, rfl, by omega, by omega, ?_⟩
    simp only [add_mk, Int.toNat_natCast, Nat.mul_one, Nat.zero_add]
    refine ⟨x.sl p, h.ld0 1 rfl (qcells_line hp), _, rfl, ?_, trivial⟩
    have hll := line_len L p
    have hfew := hq.few
    refine slices_DeleteFunc_int_int_spec (p := fun y => y == n) h (p + 3) (linesP_get hp [_, _, _] R) (by omega) ?_ fun s' w4 h => ?_
    · intro ys hys y w5 Q h hQ
      refine callV_mk ?_
      have hA : C.ready_Queue_Take_1 y (Addr.mk w.heap.size 0 none) Q w5 := by
        apply S.ready_Queue_Take_1_ok
        unfold S.ready_Queue_Take_1
        exact ⟨n, h.ld0 0 rfl rfl, hQ _ h⟩
      exact hA
    · have h : Own B w0 w4 ([BlkA w.heap.size [.int .i64 n], BlkA b (qcells x.sl x.m x.ws), mapA x.m x.M] ++ (linesA (updF x.sl p s') (L.filter fun x => x.2 != n) ++ R)) := by
        have := linesP_set (L := L) (sl := x.sl) hp (fun q _ => line_take hq.nodup hw q) [BlkA w.heap.size [.int .i64 n], BlkA b (qcells x.sl x.m x.ws), mapA x.m x.M] R (s := s')
        rw [← this]; exact h
      have hlen := h.len (p + 3) (linesP_get hp [_, _, _] R)
      have hMn : (x.M.map (·.1)).Nodup := (h.take 2 rfl).head fun _ hG => hG.2.nodup
      refine ⟨by omega, by omega, ?_, trivial⟩
      simp only [add_mk, Nat.zero_add]
      refine h.st 1 rfl (by rw [qcells_line hp]; rfl) rfl fun w6 h => ?_
      have h : Own B w0 w6 (BlkA w.heap.size [.int .i64 n] :: BlkA b ((qcells x.sl x.m x.ws).set p (slV s')) :: mapA x.m x.M :: (linesA (updF x.sl p s') (L.filter fun x => x.2 != n) ++ R)) := h
      rw [qcells_set hp] at h
      refine h.dr fun w7 h => ?_
      refine ⟨_, rfl, some x.m, h.ld 1 rfl qcells_map, n, h.ld0 0 rfl rfl, ?_, trivial⟩
      refine h.mdel Try.underlying75 (keyOk_int .i64 Try.underlying3) 2 rfl fun w8 h => ?_
      refine ⟨_, rfl, ?_⟩
      refine ready_lines_note_spec h.drop hp hbits.1 fun w9 h => ?_
      refine hK w9 (Own.mk_queue ⟨?_, fun y hy => hq.prio y (List.mem_filter.1 hy).1, Nat.le_trans (List.length_filter_le _ _) hq.few⟩ ?_ ?_ h)
      · exact List.Nodup.sublist (List.filter_sublist.map _) hq.nodup
      · intro y
        rw [mget_adel hMn, wh_take, hby y]
        split <;> rfl
      · rw [hlen]
        refine (hbits.set hp _).congr fun i hi => ?_
        show (if i = p then decide (0 < (lineOf (L.filter fun x => x.2 != n) p).length) else some1 L i) = some1 (L.filter fun x => x.2 != n) i
        unfold some1
        by_cases e : i = p
        · subst e
          rw [if_pos rfl]
          cases lineOf (L.filter fun x => x.2 != n) i <;> simp
        · rw [if_neg e, line_take hq.nodup hw i, if_neg e]

def topO (L : Qs) : Option Nat := topB (some1 L) 256
def nextR (L : Qs) : Option Int := (topO L).bind fun p => (lineOf L p).head?
theorem topO_out {L : Qs} {p : Nat} (h : topO L = some p) : p < 256 ∧ ∃ n l, lineOf L p = n :: l := by
  obtain ⟨h1, h2, _⟩ := topB_out h
  refine ⟨h1, ?_⟩
  unfold some1 at h2
  cases hl : lineOf L p with
  | nil => rw [hl] at h2; cases h2
  | cons n l => exact ⟨n, l, rfl⟩

theorem ready_Queue_Next_spec {K : Int → Bool → World → Prop} (h : Own B w0 w (QueueA b L :: R))
    (hK : ∀ w', Own B w0 w' (QueueA b L :: R) → K ((nextR L).getD 0) (nextR L).isSome w') : C.ready_Queue_Next (some ⟨b, 0, none⟩) K w := by
  apply S.ready_Queue_Next_ok
  unfold S.ready_Queue_Next
  obtain ⟨x, hq, hby, hbits, h⟩ := h.queue
  obtain ⟨b1, b2, b3, b4, hws⟩ := four x.ws hbits.1
  have hwd : ∀ j v, ([b1, b2, b3, b4].map (Value.int .u64))[j]? = some v → (qcells x.sl x.m x.ws)[257 + j]? = some v := fun j v hv => by
    rw [qcells_word, ← List.getElem?_map, hws]; exact hv
  refine ⟨_, rfl, ?_⟩
  simp only [add_mk, Nat.zero_add]
  refine ⟨_, h.ld0 0 rfl (hwd 0 _ rfl), _, h.ld0 0 rfl (hwd 1 _ rfl), _, h.ld0 0 rfl (hwd 2 _ rfl), _, h.ld0 0 rfl (hwd 3 _ rfl), ?_⟩
  refine words_Top_spec h (by rw [← hws]; exact hbits) fun w1 h => ?_
  unfold topI
  cases ht : topB (some1 L) 256 with
  | none =>
    simp only
    rw [show decide ((-1 : Int) < 0) = true from rfl, cond_true]
    have e : nextR L = none := by unfold nextR topO; rw [ht]; rfl
    rw [e] at hK
    exact hK w1 (h.mk_queue hq hby hbits)
  | some p =>
    simp only
    obtain ⟨hp, n, l, hl⟩ := topO_out ht
    rw [show decide ((p : Int) < 0) = false from by simp, cond_false]
    refine ⟨_, rfl, by omega, by omega, ?_⟩
    simp only [add_mk, Int.toNat_natCast, Nat.mul_one, Nat.zero_add]
    have hL := linesP_get (L := L) (sl := x.sl) hp [BlkA b (qcells x.sl x.m x.ws), mapA x.m x.M] R
    rw [hl] at hL
    obtain ⟨a, ha, hc⟩ := h.getI (p + 2) hL (j := 0) rfl
    have hlen := h.len (p + 2) hL
    refine ⟨x.sl p, h.ld0 0 rfl (qcells_line hp), a, ha, by omega, by rw [hlen]; simp, n, hc, ?_⟩
    have e : nextR L = some n := by unfold nextR topO; rw [ht]; simp [hl]
    rw [e] at hK
    exact hK w1 (h.mk_queue hq hby hbits)

/-- A line that is named, by any number. -/
def lineI (L : Qs) (p : Int) : List Int := if p < 0 ∨ 256 ≤ p then [] else lineOf L p.toNat
theorem ready_lines_Line_spec {p : Int} {K : Sl → World → Prop} (h : Own B w0 w (QueueA b L :: R))
    (hK : ∀ s w', Own B w0 w' (SlT intE s (lineI L p) :: QueueA b L :: R) → K s w') : C.ready_lines_Line (some ⟨b, 0, none⟩) p K w := by
  apply S.ready_lines_Line_ok
  unfold S.ready_lines_Line
  intro k hk
  by_cases h0 : p < 0
  · rw [show decide (p < 0) = true from by simp [h0], cond_true]
    apply hk
    rw [cond_true]
    refine hK _ w ?_
    have e : lineI L p = [] := by unfold lineI; rw [if_pos (.inl h0)]
    rw [e]; exact h.nilS
  rw [show decide (p < 0) = false from by simp; omega, cond_false]
  apply hk
  by_cases h1 : 256 ≤ p
  · rw [show decide (p ≥ 256) = true from by simp; omega, cond_true]
    refine hK _ w ?_
    have e : lineI L p = [] := by unfold lineI; rw [if_pos (.inr h1)]
    rw [e]; exact h.nilS
  rw [show decide (p ≥ 256) = false from by simp; omega, cond_false]
  obtain ⟨m, rfl⟩ := Int.eq_ofNat_of_zero_le (by omega : 0 ≤ p)
  have hm : m < 256 := by omega
  have e : lineI L (m : Int) = lineOf L m := by unfold lineI; rw [if_neg (by omega)]; simp
  rw [e] at hK
  obtain ⟨x, hq, hby, hbits, h⟩ := h.queue
  refine ⟨_, rfl, by omega, by omega, ?_⟩
  simp only [add_mk, Int.toNat_natCast, Nat.mul_one, Nat.zero_add]
  have hL := linesP_get (L := L) (sl := x.sl) hm [BlkA b (qcells x.sl x.m x.ws), mapA x.m x.M] R
  have hll := line_len L m
  have hfew := hq.few
  refine ⟨x.sl m, h.ld0 0 rfl (qcells_line hm), ?_⟩
  refine slices_Clone_int_int_spec h (h.slO (m + 2) hL) (h.len (m + 2) hL) (by omega) fun s' w1 h => ?_
  refine hK s' w1 ?_
  have h2 := (h.perm (List.Perm.swap _ _ _)).perm ((List.Perm.swap _ _ _).cons _)
  have h3 : Own B w0 w1 (BlkA b (qcells x.sl x.m x.ws) :: mapA x.m x.M :: (linesA x.sl L ++ SlT intE s' (lineOf L m) :: R)) :=
    h2.perm (((List.perm_middle.symm).cons _).cons _)
  exact (h3.mk_queue hq hby hbits).perm (List.Perm.swap _ _ _)

end
end Go.Proofs.Ytgkebkfabegflaa
