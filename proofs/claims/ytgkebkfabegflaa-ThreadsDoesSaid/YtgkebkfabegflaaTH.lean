/- Threads of layer 10: what they hold, and what the small methods come to. -/
import Derived.Test.YtgkebkfabegflaaQ210
import Derived.Test.YtgkebkfabegflaaS3
set_option linter.unusedVariables false
set_option linter.unusedSimpArgs false
set_option maxRecDepth 8000
namespace Go.Proofs.Ytgkebkfabegflaa
open Go Go.Vc Go.Proofs

structure Thd where
  st : Int
  pr : Int
  co : Int
  le : Int
  rg : Nat → Int
def thE : EncT Thd := ⟨12, fun t => [.int .i64 t.st, .int .i64 t.pr, .int .i64 t.co, .int .i64 t.le, .int .u64 (t.rg 0), .int .u64 (t.rg 1), .int .u64 (t.rg 2), .int .u64 (t.rg 3), .int .u64 (t.rg 4), .int .u64 (t.rg 5), .int .u64 (t.rg 6), .int .u64 (t.rg 7)], fun _ => rfl, fun x v h => by
  simp only [List.mem_cons, List.not_mem_nil, or_false] at h
  rcases h with rfl | rfl | rfl | rfl | rfl | rfl | rfl | rfl | rfl | rfl | rfl | rfl <;> rfl, by decide⟩
def ptrE : EncT Nat := ⟨1, fun b => [.pointer (some ⟨b, 0, none⟩)], fun _ => rfl, fun x v h => by simp at h; subst h; rfl, Nat.le_refl _⟩
/-- What the threads are: each of them; each core's queue; what each core runs. -/
structure Mt where
  ths : List Thd
  qs : List Qs
  runs : List Int
def ThrA (b : Nat) (m : Mt) : Asn := ExA fun p : (Sl × Sl × Sl) × List Nat => StarA (PureA (p.2.length = m.qs.length) :: BlkA b [slV p.1.1, slV p.1.2.1, slV p.1.2.2] :: SlT thE p.1.1 m.ths :: SlT ptrE p.1.2.1 p.2 :: SlT intE p.1.2.2 m.runs :: List.zipWith QueueA p.2 m.qs)
theorem qz_set {b : Nat} {L' : Qs} : ∀ (bs : List Nat) (qs : List Qs) (c : Nat), bs[c]? = some b → (List.zipWith QueueA bs qs).set c (QueueA b L') = List.zipWith QueueA bs (qs.set c L')
  | [], _, _, h => by simp at h
  | _ :: _, [], c, _ => by simp
  | b0 :: bs, q :: qs, 0, h => by simp at h; subst h; rfl
  | b0 :: bs, q :: qs, c + 1, h => by simp [qz_set bs qs c (by simpa using h)]

section
variable {B : Nat} {w0 w : World} {R L : List Asn} {b : Nat} {m : Mt}
theorem _root_.Go.Vc.Own.thr (h : Own B w0 w (ThrA b m :: R)) : ∃ l q r bs, bs.length = m.qs.length ∧ Own B w0 w (BlkA b [slV l, slV q, slV r] :: SlT thE l m.ths :: SlT ptrE q bs :: SlT intE r m.runs :: (List.zipWith QueueA bs m.qs ++ R)) := by
  obtain ⟨⟨⟨l, q, r⟩, bs⟩, h⟩ := h.ex
  obtain ⟨h1, h⟩ := Own.pure h.star
  exact ⟨l, q, r, bs, h1, h⟩
theorem _root_.Go.Vc.Own.mk_thr {l q r : Sl} {bs : List Nat} (h1 : bs.length = m.qs.length) (h : Own B w0 w (BlkA b [slV l, slV q, slV r] :: SlT thE l m.ths :: SlT ptrE q bs :: SlT intE r m.runs :: (List.zipWith QueueA bs m.qs ++ R))) : Own B w0 w (ThrA b m :: R) :=
  Own.mk_ex ((l, q, r), bs) (Own.mk_star (Own.mk_pure h1 h))
/-- A queue taken out, and put back. -/
theorem _root_.Go.Vc.Own.qout {A1 A2 A3 A4 : Asn} {bs : List Nat} {qs : List Qs} {c b1 : Nat} {Q : Qs} (hb : bs[c]? = some b1) (hq : qs[c]? = some Q) (h : Own B w0 w (A1 :: A2 :: A3 :: A4 :: (List.zipWith QueueA bs qs ++ R))) :
    Own B w0 w (QueueA b1 Q :: A1 :: A2 :: A3 :: A4 :: (List.zipWith QueueA bs qs ++ R).eraseIdx c) := by
  have h1 := (List.getElem?_eq_some_iff.1 hb).1
  have h2 := (List.getElem?_eq_some_iff.1 hq).1
  have hz : (List.zipWith QueueA bs qs ++ R)[c]? = some (QueueA b1 Q) := by
    rw [List.getElem?_append_left (by simp; omega), List.getElem?_zipWith, hb, hq]
  exact h.take (c + 4) (by simpa using hz)
theorem _root_.Go.Vc.Own.qin {A1 A2 A3 A4 : Asn} {bs : List Nat} {qs : List Qs} {c b1 : Nat} {Q : Qs} (hb : bs[c]? = some b1) (hc : c < qs.length) (h : Own B w0 w (QueueA b1 Q :: A1 :: A2 :: A3 :: A4 :: (List.zipWith QueueA bs qs ++ R).eraseIdx c)) :
    Own B w0 w (A1 :: A2 :: A3 :: A4 :: (List.zipWith QueueA bs (qs.set c Q) ++ R)) := by
  have h1 := (List.getElem?_eq_some_iff.1 hb).1
  have h2 : Own B w0 w (QueueA b1 Q :: (A1 :: A2 :: A3 :: A4 :: (List.zipWith QueueA bs qs ++ R)).eraseIdx (c + 4)) := by
    simpa only [List.eraseIdx_cons_succ] using h
  have h3 := h2.put (by simp; omega)
  simp only [List.set_cons_succ] at h3
  rw [List.set_append_left _ _ (by simp; omega), qz_set bs qs c hb] at h3
  exact h3

def zTh : Thd := ⟨0, 0, 0, 0, fun _ => 0⟩
def Mt.th (m : Mt) (n : Int) : Thd := if n < 0 then zTh else (m.ths[n.toNat]?).getD zTh
def Mt.q (m : Mt) (n : Int) : Qs := if n < 0 then [] else (m.qs[n.toNat]?).getD []
def Mt.run (m : Mt) (n : Int) : Int := if n < 0 then -1 else (m.runs[n.toNat]?).getD (-1)
def Mt.setTh (m : Mt) (n : Int) (t : Thd) : Mt := { m with ths := m.ths.set n.toNat t }
def Mt.setQ (m : Mt) (n : Int) (Q : Qs) : Mt := { m with qs := m.qs.set n.toNat Q }
def Mt.setR (m : Mt) (n v : Int) : Mt := { m with runs := m.runs.set n.toNat v }
def Mt.isT (m : Mt) (n : Int) : Bool := decide (0 ≤ n) && decide (n < m.ths.length)
def Mt.isC (m : Mt) (n : Int) : Bool := decide (0 ≤ n) && decide (n < m.qs.length)
/-- A thread waits its turn. -/
def Mt.lineUp (m : Mt) (n : Int) : Mt := (m.setTh n { m.th n with st := 1 }).setQ (m.th n).co (putR (m.q (m.th n).co) (m.th n).pr n).2
/-- A thread leaves where it is. -/
def Mt.leave0 (m : Mt) (n : Int) : Mt := if (m.th n).st = 1 then m.setQ (m.th n).co (takeR (m.q (m.th n).co) n).2 else if (m.th n).st = 2 then m.setR (m.th n).co (-1) else m
def Mt.leave (m : Mt) (n s : Int) : Mt := (m.leave0 n).setTh n { m.th n with st := s }
def Mt.pick (m : Mt) (c : Int) : Mt := match nextR (m.q c) with
  | none => m
  | some n => if m.run c = -1 then (m.leave n 2).setR c n else
    if (m.th n).pr ≤ (m.th (m.run c)).pr then m else (((m.leave (m.run c) 1).lineUp (m.run c)).leave n 2).setR c n
/-- What holds of the threads always. -/
structure MOk (m : Mt) : Prop where
  few : m.ths.length ≤ 64
  cores : m.runs.length = m.qs.length
  most : m.qs.length ≤ 8
  core : ∀ t ∈ m.ths, 0 ≤ t.co ∧ t.co < m.qs.length
  left : ∀ t ∈ m.ths, t.le = t.le
  run : ∀ n ∈ m.runs, n = -1 ∨ (0 ≤ n ∧ n < m.ths.length)
  line : ∀ Q ∈ m.qs, ∀ x ∈ Q, 0 ≤ x.2 ∧ x.2 < m.ths.length
theorem pigeon : ∀ (n : Nat) (l : List Int), l.Nodup → (∀ x ∈ l, 0 ≤ x ∧ x < (n : Int)) → l.length ≤ n
  | 0, l, _, h => by
    cases l with
    | nil => simp
    | cons a l => have := h a (by simp); omega
  | n + 1, l, hn, h => by
    have h1 := pigeon n (l.filter fun x => x != (n : Int)) (hn.sublist List.filter_sublist) fun x hx => by
      have h2 := List.mem_filter.1 hx
      have h3 := h x h2.1
      have h4 : x ≠ (n : Int) := by simpa using h2.2
      omega
    have h2 : l.length ≤ (l.filter fun x => x != (n : Int)).length + 1 := by
      clear h1 h
      induction l with
      | nil => simp
      | cons a l ih =>
        rw [List.nodup_cons] at hn
        by_cases e : a = (n : Int)
        · have : l.filter (fun x => x != (n : Int)) = l := by
            rw [List.filter_eq_self]
            intro x hx
            have : x ≠ (n : Int) := fun e2 => hn.1 (by rw [e, ← e2]; exact hx)
            simpa using this
          rw [List.filter_cons_of_neg (by simp [e]), this, List.length_cons]
          exact Nat.le_refl _
        · rw [List.filter_cons_of_pos (by simpa using e), List.length_cons, List.length_cons]
          have := ih hn.2
          omega
    omega
theorem th_get {n : Int} {t : Thd} (h0 : 0 ≤ n) (h : m.ths[n.toNat]? = some t) : m.th n = t := by unfold Mt.th; rw [if_neg (by omega), h]; rfl
theorem isT_get {n : Int} (h : m.isT n = true) : 0 ≤ n ∧ n < m.ths.length ∧ m.ths[n.toNat]? = some (m.th n) := by
  unfold Mt.isT at h
  simp only [Bool.and_eq_true, decide_eq_true_eq] at h
  obtain ⟨h0, h1⟩ := h
  refine ⟨h0, h1, ?_⟩
  have e := List.getElem?_eq_getElem (l := m.ths) (i := n.toNat) (by omega)
  rw [e, th_get h0 e]
theorem q_get {n : Int} (h0 : 0 ≤ n) (h1 : n < m.qs.length) : m.qs[n.toNat]? = some (m.q n) := by
  have e := List.getElem?_eq_getElem (l := m.qs) (i := n.toNat) (by omega)
  unfold Mt.q
  rw [if_neg (by omega), e]; rfl
theorem r_get {n : Int} (h0 : 0 ≤ n) (h1 : n < m.runs.length) : m.runs[n.toNat]? = some (m.run n) := by
  have e := List.getElem?_eq_getElem (l := m.runs) (i := n.toNat) (by omega)
  unfold Mt.run
  rw [if_neg (by omega), e]; rfl

theorem thr_prio_spec {n : Int} {K : Bool → World → Prop} (hK : K (decide (0 ≤ n) && decide (n < 256)) w) : C.threads_prio n K w := by
  apply S.threads_prio_ok
  unfold S.threads_prio
  refine cdec (fun e => ?_) (fun e => ?_)
  · rw [decide_eq_true (show 0 ≤ n from e), Bool.true_and] at hK; exact hK
  · rw [decide_eq_false (show ¬ 0 ≤ n from e), Bool.false_and] at hK; exact hK
theorem thr_when_spec {so : Bool} {e : Int} {K : Int → World → Prop} (hK : K (if so then e else 0) w) : C.threads_when so e K w := by
  apply S.threads_when_ok
  unfold S.threads_when
  cases so <;> exact hK
theorem thr_core_o {l q r : Sl} {bs : List Nat} {n : Int} {A2 A4 : Asn} {K : Bool → World → Prop} (hb : bs.length = m.qs.length) (h : Own B w0 w (BlkA b [slV l, slV q, slV r] :: A2 :: SlT ptrE q bs :: A4 :: L)) (hK : K (m.isC n) w) : C.threads_Threads_core (some ⟨b, 0, none⟩) n K w := by
  apply S.threads_Threads_core_ok
  unfold S.threads_Threads_core
  have hl := h.lenc q
  unfold Mt.isC at hK
  refine cdec (fun e => ?_) (fun e => ?_)
  · (repeat (first | (refine h.al fun w h => ?_) | (refine h.dr fun w h => ?_) | (refine h.lc_2 rfl ?_) | (refine h.lc_6 rfl ?_) | (refine ⟨_, h.ldc rfl, ?_⟩) | (refine ⟨_, h.ldd rfl, ?_⟩) | (refine h.hd rfl ?_) | (refine ⟨h.ldc rfl, ?_⟩) | (refine ⟨h.ldd rfl, ?_⟩) | (refine h.stLc rfl rfl fun w h => ?_) | (refine exs ?_) | (refine _root_.Go.Vc.a2 ?_) | (refine h.stc rfl rfl fun w h => ?_) | (refine h.std rfl rfl fun w h => ?_)))
    rw [decide_eq_true (show 0 ≤ n from e), Bool.true_and] at hK
    rw [hl, hb]; exact hK
  · rw [decide_eq_false (show ¬ 0 ≤ n from e), Bool.false_and] at hK; exact hK
theorem thr_one_o {l q r : Sl} {n : Int} {A3 A4 : Asn} {K : Option Addr → World → Prop} (h : Own B w0 w (BlkA b [slV l, slV q, slV r] :: SlT thE l m.ths :: A3 :: A4 :: L)) (hK0 : m.isT n = false → K none w) (hK1 : ∀ a, m.isT n = true → l.a = some a → K (some (a.add (n.toNat * 12))) w) : C.threads_Threads_one (some ⟨b, 0, none⟩) n K w := by
  apply S.threads_Threads_one_ok
  unfold S.threads_Threads_one
  have hl := h.lenc l
  unfold Mt.isT at hK0 hK1
  intro k hk
  refine cdec (fun e => ?_) (fun e => ?_)
  · refine hk _ _ (cbT rfl ?_)
    exact hK0 (by rw [decide_eq_false (show ¬ 0 ≤ n by omega), Bool.false_and])
  · (repeat (first | (refine h.al fun w h => ?_) | (refine h.dr fun w h => ?_) | (refine h.lc_2 rfl ?_) | (refine h.lc_6 rfl ?_) | (refine ⟨_, h.ldc rfl, ?_⟩) | (refine ⟨_, h.ldd rfl, ?_⟩) | (refine h.hd rfl ?_) | (refine ⟨h.ldc rfl, ?_⟩) | (refine ⟨h.ldd rfl, ?_⟩) | (refine h.stLc rfl rfl fun w h => ?_) | (refine exs ?_) | (refine _root_.Go.Vc.a2 ?_) | (refine h.stc rfl rfl fun w h => ?_) | (refine h.std rfl rfl fun w h => ?_)))
    refine hk _ _ ?_
    refine cdec (fun e2 => ?_) (fun e2 => ?_)
    · exact hK0 (by rw [decide_eq_false (show ¬ n < (m.ths.length : Int) by omega), Bool.and_false])
    · (repeat (first | (refine h.al fun w h => ?_) | (refine h.dr fun w h => ?_) | (refine h.lc_2 rfl ?_) | (refine h.lc_6 rfl ?_) | (refine ⟨_, h.ldc rfl, ?_⟩) | (refine ⟨_, h.ldd rfl, ?_⟩) | (refine h.hd rfl ?_) | (refine ⟨h.ldc rfl, ?_⟩) | (refine ⟨h.ldd rfl, ?_⟩) | (refine h.stLc rfl rfl fun w h => ?_) | (refine exs ?_) | (refine _root_.Go.Vc.a2 ?_) | (refine h.stc rfl rfl fun w h => ?_) | (refine h.std rfl rfl fun w h => ?_)))
      obtain ⟨x, hx⟩ : ∃ x, m.ths[n.toNat]? = some x := ⟨_, List.getElem?_eq_getElem (by omega)⟩
      refine h.ixc (s := l) (j := n.toNat) (by omega) hx fun a ha h0 hc => ?_
      exact hK1 a (by rw [decide_eq_true (show 0 ≤ n by omega), decide_eq_true (show n < (m.ths.length : Int) by omega)]; rfl) ha
end
end Go.Proofs.Ytgkebkfabegflaa
