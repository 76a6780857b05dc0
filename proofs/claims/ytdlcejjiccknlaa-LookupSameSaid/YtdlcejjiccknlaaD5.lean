/- The laws of layer 5: their calls, their start, and what is held compared. -/
import Derived.Test.YtdlcejjiccknlaaHD
import Derived.Test.YtdlcejjiccknlaaF5
import Derived.Test.YtdlcejjiccknlaaG6
import Derived.Test.YtdlcejjiccknlaaS0
import Derived.Test.YtdlcejjiccknlaaS3
set_option linter.unusedVariables false
set_option linter.unusedSimpArgs false
set_option maxRecDepth 8000
namespace Go.Proofs.Ytdlcejjiccknlaa
open Go Go.Vc Go.Proofs

/-- A call of a script. -/
structure Op5 where
  kind : Int
  n : Int
  a0 : Int
  a1 : Int
  b0 : Int
  b1 : Int
  c : Cap
abbrev Op5.a (o : Op5) : Slot := (o.a0, o.a1)
abbrev Op5.b (o : Op5) : Slot := (o.b0, o.b1)
def op5E : EncT Op5 := ⟨12, fun o => [.int .i64 o.kind, .int .i64 o.n, .int .i64 o.a0, .int .i64 o.a1, .int .i64 o.b0, .int .i64 o.b1, .int .i64 o.c.kind, .int .i64 o.c.obj, .int .i64 o.c.rights, .int .u64 o.c.badge, .int .u64 o.c.guard, .int .i64 o.c.bits], fun _ => rfl, fun x v h => by
  simp only [List.mem_cons, List.not_mem_nil, or_false] at h
  rcases h with rfl | rfl | rfl | rfl | rfl | rfl | rfl | rfl | rfl | rfl | rfl | rfl <;> rfl, by decide⟩
structure Op5R (o : Op5) : Prop where
  k : (Lit.int .i64 o.kind).wf = true
  n : (Lit.int .i64 o.n).wf = true
  a0 : (Lit.int .i64 o.a0).wf = true
  a1 : (Lit.int .i64 o.a1).wf = true
  b0 : (Lit.int .i64 o.b0).wf = true
  b1 : (Lit.int .i64 o.b1).wf = true
  c : CapR o.c
theorem op5Dec : ∀ cs, Fits [.int .i64, .int .i64, .int .i64, .int .i64, .int .i64, .int .i64, .int .i64, .int .i64, .int .i64, .int .u64, .int .u64, .int .i64] cs → ∃ x, cs = op5E.enc x ∧ Op5R x := fun cs h0 => by
  obtain ⟨_, _, rfl, ⟨a, rfl, wa⟩, h1⟩ := h0.cons_out
  obtain ⟨_, _, rfl, ⟨b, rfl, wb⟩, h2⟩ := h1.cons_out
  obtain ⟨_, _, rfl, ⟨c, rfl, wc⟩, h3⟩ := h2.cons_out
  obtain ⟨_, _, rfl, ⟨d, rfl, wd⟩, h4⟩ := h3.cons_out
  obtain ⟨_, _, rfl, ⟨e, rfl, we⟩, h5⟩ := h4.cons_out
  obtain ⟨_, _, rfl, ⟨f, rfl, wf⟩, h6⟩ := h5.cons_out
  obtain ⟨_, _, rfl, ⟨g, rfl, wg⟩, h7⟩ := h6.cons_out
  obtain ⟨_, _, rfl, ⟨i, rfl, wi⟩, h8⟩ := h7.cons_out
  obtain ⟨_, _, rfl, ⟨j, rfl, wj⟩, h9⟩ := h8.cons_out
  obtain ⟨_, _, rfl, ⟨k, rfl, wk⟩, h10⟩ := h9.cons_out
  obtain ⟨_, _, rfl, ⟨l, rfl, wl⟩, h11⟩ := h10.cons_out
  obtain ⟨_, _, rfl, ⟨m, rfl, wm⟩, h12⟩ := h11.cons_out
  obtain rfl := h12.nil_out
  obtain ⟨k0, k1⟩ := wfu wk
  obtain ⟨l0, l1⟩ := wfu wl
  exact ⟨⟨a, b, c, d, e, f, ⟨g, i, j, k, l, m⟩⟩, rfl, ⟨wa, wb, wc, wd, we, wf, ⟨k0, k1, l0, l1⟩⟩⟩
/-- What is held, compared. -/
theorem heldX (a b : Slot × Cap) : eqX Try.prog 9 70 (heldE.enc a) (heldE.enc b) = some (decide (a = b)) := by
  have h : eqX Try.prog 9 70 (heldE.enc a) (heldE.enc b) = some ((a.1.1 == b.1.1 && (a.1.2 == b.1.2 && true)) && ((a.2.kind == b.2.kind && (a.2.obj == b.2.obj && (a.2.rights == b.2.rights && (a.2.badge == b.2.badge && (a.2.guard == b.2.guard && (a.2.bits == b.2.bits && true)))))) && true)) := by kernel_rfl
  rw [h]
  congr 1
  rw [Bool.eq_iff_iff]
  simp only [Bool.and_true, Bool.and_eq_true, beq_iff_eq, decide_eq_true_eq]
  obtain ⟨⟨a1, a2⟩, a3⟩ := a
  obtain ⟨⟨b1, b2⟩, b3⟩ := b
  cases a3; cases b3
  simp only [Prod.mk.injEq, Cap.mk.injEq]
theorem heldNe {x y : Operand} (a b : Slot × Cap) : EqB Try.prog .neq 70 x y (.agg ⟨heldE.enc a⟩) (.agg ⟨heldE.enc b⟩) (!decide (a = b)) := neB_x (by kernel_rfl) (by kernel_rfl) (by kernel_rfl) (heldX a b)
theorem ldHd {w : World} {A : Addr} {x : Slot × Cap} {f : Int → Int → Int → Int → Int → Int → Int → Int → Prop} (g : ∀ c v, (heldE.enc x)[c]? = some v → w.cell? (A.add c) = some v) (hf : f x.1.1 x.1.2 x.2.kind x.2.obj x.2.rights x.2.badge x.2.guard x.2.bits) :
    LdL w A 0 [.i .i64, .i .i64, .i .i64, .i .i64, .i .i64, .i .u64, .i .u64, .i .i64] f := ⟨_, g 0 _ rfl, _, g 1 _ rfl, _, g 2 _ rfl, _, g 3 _ rfl, _, g 4 _ rfl, _, g 5 _ rfl, _, g 6 _ rfl, _, g 7 _ rfl, hf⟩
theorem eq_of_get {α : Type} {xs ys : List α} (hl : xs.length = ys.length) (h : ∀ i, i < xs.length → xs[i]? = ys[i]?) : xs = ys := List.ext_getElem? fun i => by
  by_cases e : i < xs.length
  · exact h i e
  · rw [List.getElem?_eq_none (by omega), List.getElem?_eq_none (by omega)]

section
variable {B : Nat} {w0 w : World} {R L : List Asn} {b : Nat} {bits : List Int} {H : Hs}
theorem ref05_Same_spec {s t : Sl} {xs ys : List (Slot × Cap)} {K : Bool → World → Prop} (h : Vc.Own B w0 w L) (hr1 : Rd heldE B w0 L s xs) (hr2 : Rd heldE B w0 L t ys) (hs : xs.length ≤ 1000000) (hK : ∀ w', Vc.Own B w0 w' L → K (decide (xs = ys)) w') : C.ref05_Same s t K w := by
  apply S.ref05_Same_ok
  unfold S.ref05_Same
  have l1 := hr1.len
  have l2 := hr2.len
  by_cases e : xs.length = ys.length
  · refine cbF (by simp; omega) ?_
    intro l3 hl3
    have loop : ∀ (j i : Nat) (w : World), i + j = xs.length → (∀ k, k < i → xs[k]? = ys[k]?) → Vc.Own B w0 w L → l3 (i : Int) w := by
      intro j
      induction j with
      | zero =>
        intro i w hi hb h
        apply hl3
        refine cdecF (by omega) ?_
        have : xs = ys := eq_of_get e fun k hk => hb k (by omega)
        have hk := hK w h
        rwa [decide_eq_true this] at hk
      | succ j ih =>
        intro i w hi hb h
        apply hl3
        refine cdecT (by omega) ?_
        refine h.dr fun w h => ?_
        have hx : xs[i]? = some xs[i] := List.getElem?_eq_getElem (by omega)
        have hy : ys[i]? = some (ys[i]'(by omega)) := List.getElem?_eq_getElem (by omega)
        refine hr1.ix h rfl hx fun a ha h0 hc => ldHd hc ?_
        refine hr2.ix h rfl hy fun a ha h0 hc => ldHd hc ?_
        refine ⟨_, heldNe _ _, ?_⟩
        by_cases e2 : xs[i] = ys[i]'(by omega)
        · refine cbF (by simpa using e2) ?_
          rw [show IntKind.i64.wrap ((i : Int) + 1) = ((i + 1 : Nat) : Int) from by rw [wr (by omega) (by omega)]; omega]
          refine ih (i + 1) w (by omega) (fun k hk => ?_) h
          by_cases e3 : k = i
          · subst e3; rw [hx, hy, e2]
          · exact hb k (by omega)
        · refine cbT (by simpa using e2) ?_
          have : xs ≠ ys := fun e3 => by
            have : xs[i]? = ys[i]? := by rw [e3]
            rw [hx, hy] at this
            exact e2 (by simpa using this)
          have hk := hK w h
          rwa [decide_eq_false this] at hk
    exact loop xs.length 0 w (by omega) (fun k hk => by omega) h
  · refine cbT (by simp; omega) ?_
    have : xs ≠ ys := fun e2 => e (by rw [e2])
    have hk := hK w h
    rwa [decide_eq_false this] at hk

theorem law05_two_spec {K : Option Addr → World → Prop} (h : Vc.Own B w0 w R) (hK : ∀ b w', Vc.Own B w0 w' (NodesA b [2, 2] (fun _ => none) :: R) → K (some ⟨b, 0, none⟩) w') : C.law05_two K w := by
  apply S.law05_two_ok
  unfold S.law05_two
  refine slots_New_spec h fun b w h => ?_
  refine cbF rfl ?_
  refine slots_Nodes_Make_spec h fun w h => ?_
  have e1 : makeN [] 2 = (0, 0, [2]) := by decide
  rw [e1] at h
  refine slots_Nodes_Make_spec h fun w h => ?_
  have e2 : makeN [2] 2 = (1, 0, [2, 2]) := by decide
  rw [e2] at h
  exact hK b w h
/-- What the first twenty calls put in. -/
def fillH (l : List Op5) : Hs := (l.take 20).foldl (fun H o => (putN [2, 2] H o.a o.c).2) (fun _ => none)
theorem puts_spec {l : Sl} {xs : List Op5} {REST : World → Prop} (hr : Rd op5E B w0 R l xs) (hg : ∀ x ∈ xs, Op5R x) (h : Vc.Own B w0 w (NodesA b [2, 2] (fun _ => none) :: R)) (hK : ∀ w', Vc.Own B w0 w' (NodesA b [2, 2] (fillH xs) :: R) → REST w') :
    ∀ l10 : Int → World → Prop,
     (∀ (i11 : Int) (w12 : World), (∀ k13 : Bool → World → Prop,
     (∀ (t14 : Bool) (w15 : World), (bif t14 then
      (Dr w15 fun w16 =>
     ∃ a17 : Addr, l.a = some a17 ∧ 0 ≤ i11 ∧ i11 < (l.len : Int) ∧
     LdL w16 ((a17.add (i11.toNat * 12)).add 2) 0 [.i .i64, .i .i64] fun (a18 : Int) (a19 : Int) =>
     ∃ a20 : Addr, l.a = some a20 ∧ 0 ≤ i11 ∧ i11 < (l.len : Int) ∧
     LdL w16 ((a20.add (i11.toNat * 12)).add 6) 0 [.i .i64, .i .i64, .i .i64, .i .u64, .i .u64, .i .i64] fun (c21 : Int) (c22 : Int) (c23 : Int) (c24 : Int) (c25 : Int) (c26 : Int) =>
     (C.slots_Nodes_Put (some ⟨b, 0, none⟩) a18 a19 c21 c22 c23 c24 c25 c26 (fun r27 w28 =>
     l10 (IntKind.i64.wrap (i11 + (1 : Int))) w28) w16) ∧
     True)
     else REST w15) → k13 t14 w15) →
     (bif decide (i11 < (l.len : Int)) then
      (k13 (decide (i11 < (20 : Int))) w12)
     else
      (k13 false w12))) → l10 i11 w12) →
     l10 (0 : Int) w := by
  intro l10 hl10
  have hl := hr.len
  have loop : ∀ (m i : Nat) (w : World), i + m = 21 → i ≤ 20 → i ≤ xs.length → Vc.Own B w0 w (NodesA b [2, 2] (fillH (xs.take i)) :: R) → l10 (i : Int) w := by
    intro m
    induction m with
    | zero => intro i w h1 h2; omega
    | succ m ih =>
      intro i w him hi20 hix h
      apply hl10
      intro k13 hk13
      have exit_ : fillH (xs.take i) = fillH xs → k13 false w := fun e => by
        apply hk13
        refine cbF rfl ?_
        rw [e] at h
        exact hK w h
      refine cdec (fun e1 => ?_) (fun e1 => exit_ (by rw [List.take_of_length_le (by omega)]))
      by_cases e2 : i < 20
      · rw [decide_eq_true (by omega)]
        obtain ⟨o, ho⟩ : ∃ o, xs[i]? = some o := ⟨_, List.getElem?_eq_getElem (by omega)⟩
        have hoc := (hg o (List.mem_of_getElem? ho)).c
        have hnext : fillH (xs.take (i + 1)) = (putN [2, 2] (fillH (xs.take i)) o.a o.c).2 := by
          unfold fillH
          rw [List.take_take, List.take_take, Nat.min_eq_right (by omega), Nat.min_eq_right (by omega), List.take_add_one, ho, List.foldl_append]; rfl
        apply hk13
        refine cbT rfl ?_
        refine h.dr fun w h => ?_
        have hrm : Rd op5E B w0 (NodesA b [2, 2] (fillH (xs.take i)) :: R) l xs := hr.more
        refine hrm.ix h rfl ho fun a ha h0 hc => ?_
        refine ⟨_, ldAt hc 2 0 _ rfl, _, ldAt hc 2 1 _ rfl, ?_⟩
        refine hrm.ix h rfl ho fun a ha h0 hc => ?_
        refine ldCap (x := o.c) (ldAt hc 6) ?_
        refine ⟨?_, trivial⟩
        refine slots_Nodes_Put_spec (s := o.a) hoc h fun w h => ?_
        rw [← hnext] at h
        rw [show IntKind.i64.wrap ((i : Int) + 1) = ((i + 1 : Nat) : Int) from by rw [wr (by omega) (by omega)]; omega]
        exact ih (i + 1) w (by omega) (by omega) (by omega) h
      · rw [decide_eq_false (by omega)]
        exact exit_ (by unfold fillH; rw [List.take_take, Nat.min_eq_left (by omega)])
  exact loop 21 0 w (by omega) (by omega) (by omega) h
end
end Go.Proofs.Ytdlcejjiccknlaa
