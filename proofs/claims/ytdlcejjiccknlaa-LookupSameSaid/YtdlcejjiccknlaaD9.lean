/- Laws of layer 5: SlotsKeeps. -/
import Derived.Test.YtdlcejjiccknlaaD8
import Derived.Test.YtdlcejjiccknlaaS0
set_option linter.unusedVariables false
set_option linter.unusedSimpArgs false
set_option maxRecDepth 8000
namespace Go.Proofs.Ytdlcejjiccknlaa
open Go Go.Vc Go.Proofs

/-- As many are held. -/
def Cnt (H : Hs) (n : Nat) : Prop := ∃ ks : List Slot, ks.Nodup ∧ (∀ k, k ∈ ks ↔ (H k).isSome = true) ∧ ks.length = n
theorem Cnt.held {H : Hs} {n : Nat} (h : Cnt H n) {hs : List (Slot × Cap)} (hh : IsHeld H hs) : hs.length = n := by
  obtain ⟨ks, h1, h2, h3⟩ := h
  have hn : (hs.map (·.1)).Nodup := by
    rw [List.Nodup, List.pairwise_map]
    exact hh.srt.imp fun {x y} h e => by rw [e] at h; exact ltS_irrefl h
  have hp : (hs.map (·.1)).Perm ks := (List.perm_ext_iff_of_nodup hn h1).2 fun k => by
    rw [h2, List.mem_map]
    constructor
    · rintro ⟨⟨k', c⟩, hm, rfl⟩
      rw [(hh.mem _ _).1 hm]; rfl
    · intro e
      cases e2 : H k with
      | none => rw [e2] at e; cases e
      | some c => exact ⟨(k, c), (hh.mem _ _).2 e2, rfl⟩
  have := hp.length_eq
  rw [List.length_map] at this
  omega
theorem Cnt.zero : Cnt (fun _ => none) 0 := ⟨[], List.Pairwise.nil, fun k => by simp, rfl⟩
theorem Cnt.put {H : Hs} {n : Nat} (h : Cnt H n) {s : Slot} {c : Cap} (hs : H s = none) : Cnt (updH H s (some c)) (n + 1) := by
  obtain ⟨ks, h1, h2, h3⟩ := h
  refine ⟨s :: ks, List.nodup_cons.2 ⟨fun hm => (by rw [h2, hs] at hm; cases hm), h1⟩, fun k => ?_, by simp [h3]⟩
  rw [List.mem_cons, h2]
  unfold updH
  by_cases e : k = s
  · simp [e]
  · simp [e]
theorem Cnt.del {H : Hs} {n : Nat} (h : Cnt H n) {s : Slot} {c : Cap} (hs : H s = some c) : 1 ≤ n ∧ Cnt (updH H s none) (n - 1) := by
  obtain ⟨ks, h1, h2, h3⟩ := h
  have hm : s ∈ ks := (h2 s).2 (by rw [hs]; rfl)
  have hpos : 0 < ks.length := List.length_pos_of_mem hm
  refine ⟨by omega, ks.erase s, h1.erase s, fun k => ?_, by rw [List.length_erase_of_mem hm, h3]⟩
  rw [h1.mem_erase_iff, h2]
  unfold updH
  by_cases e : k = s
  · simp [e]
  · simp [e]
theorem Cnt.move {H : Hs} {n : Nat} (h : Cnt H n) {x y : Slot} {c : Cap} (hx : H x = some c) (hy : H y = none) : Cnt (updH (updH H x none) y (some c)) n := by
  obtain ⟨h1, h2⟩ := h.del hx
  have hne : x ≠ y := fun e => by rw [e, hy] at hx; cases hx
  have := h2.put (s := y) (c := c) (by unfold updH; rw [if_neg (fun e => hne e.symm)]; exact hy)
  rwa [show n - 1 + 1 = n from by omega] at this
def swS (a c k : Slot) : Slot := if k = c then a else if k = a then c else k
theorem swS_inv (a c k : Slot) : swS a c (swS a c k) = k := by
  unfold swS
  by_cases h1 : k = c
  · subst h1
    by_cases h2 : a = k
    · subst h2; simp
    · simp [h2]
  · by_cases h2 : k = a
    · subst h2; simp [h1]
    · simp [h1, h2]
theorem swap_at (H : Hs) (a c k : Slot) : updH (updH H a (H c)) c (H a) k = H (swS a c k) := by
  unfold updH swS
  by_cases h1 : k = c
  · simp [h1]
  · by_cases h2 : k = a
    · subst h2; simp [h1]
    · simp [h1, h2]
theorem Cnt.swap {H : Hs} {n : Nat} (h : Cnt H n) (a c : Slot) : Cnt (updH (updH H a (H c)) c (H a)) n := by
  obtain ⟨ks, h1, h2, h3⟩ := h
  refine ⟨ks.map (swS a c), ?_, fun k => ?_, by rw [List.length_map]; exact h3⟩
  · rw [List.Nodup, List.pairwise_map]
    exact h1.imp fun {x y} hne e => hne (by rw [← swS_inv a c x, e, swS_inv])
  · rw [swap_at, List.mem_map]
    constructor
    · rintro ⟨k', hm, rfl⟩
      rw [swS_inv]; exact (h2 _).1 hm
    · intro e
      exact ⟨swS a c k, (h2 _).2 e, swS_inv _ _ _⟩
theorem ldOp5 {w : World} {A : Addr} {x : Op5} {f : Int → Int → Int → Int → Int → Int → Int → Int → Int → Int → Int → Int → Prop} (g : ∀ c v, (op5E.enc x)[c]? = some v → w.cell? (A.add c) = some v) (hf : f x.kind x.n x.a0 x.a1 x.b0 x.b1 x.c.kind x.c.obj x.c.rights x.c.badge x.c.guard x.c.bits) :
    LdL w A 0 [.i .i64, .i .i64, .i .i64, .i .i64, .i .i64, .i .i64, .i .i64, .i .i64, .i .i64, .i .u64, .i .u64, .i .i64] f :=
  ⟨_, g 0 _ rfl, _, g 1 _ rfl, _, g 2 _ rfl, _, g 3 _ rfl, _, g 4 _ rfl, _, g 5 _ rfl, _, g 6 _ rfl, _, g 7 _ rfl, _, g 8 _ rfl, _, g 9 _ rfl, _, g 10 _ rfl, _, g 11 _ rfl, hf⟩
theorem put_cases {bits : List Int} {H : Hs} {s : Slot} {c : Cap} : ((putN bits H s c).1 = 0 ∧ H s = none ∧ (putN bits H s c).2 = updH H s (some c)) ∨ ((putN bits H s c).1 ≠ 0 ∧ (putN bits H s c).2 = H) := by
  unfold putN
  split
  · exact .inr ⟨by simp, rfl⟩
  · split
    · rename_i h; exact .inr ⟨h, rfl⟩
    · split
      · exact .inr ⟨by simp, rfl⟩
      · split
        · exact .inr ⟨by simp, rfl⟩
        · rename_i h
          exact .inl ⟨rfl, by cases e : H s with | none => rfl | some c => rw [e] at h; exact absurd rfl h, rfl⟩
theorem thereS {bits : List Int} {s : Slot} (h : ¬ thereB bits s = false) : thereB bits s = true := by
  cases e : thereB bits s with
  | true => rfl
  | false => exact absurd e h
theorem getN_in {bits : List Int} {H : Hs} {s : Slot} (h : thereB bits s = true) : getN bits H s = ((H s).getD zeroCap, 0) := by unfold getN; rw [if_neg (by rw [h]; decide)]

section
variable {w0 w : World}
theorem law05_SlotsKeeps_spec {l1 : Sl} {xs : List Op5} {K : Bool → World → Prop} (hi1 : Inp op5E w0 l1 xs) (hg1 : ∀ x ∈ xs, Op5R x)
    (h : Vc.Own w0.heap.size w0 w []) (hK : ∀ w', Vc.Own w0.heap.size w0 w' [] → K true w') : C.law05_SlotsKeeps l1 K w := by
  apply S.law05_SlotsKeeps_ok
  unfold S.law05_SlotsKeeps
  refine slots_New_spec h fun b w h => ?_
  refine cbF rfl ?_
  have hl := hi1.len
  intro l4 hl4
  have loop : ∀ (m i had : Nat) (bits : List Int) (H : Hs) (w : World), i + m = 81 → i ≤ 80 → i ≤ xs.length → Cnt H had → had ≤ i → Vc.Own w0.heap.size w0 w [NodesA b bits H] → l4 (had : Int) (i : Int) w := by
    intro m
    induction m with
    | zero => intro i had bits H w h1 h2; omega
    | succ m ih =>
      intro i had bits H w him hi80 hix hcnt hhad h
      apply hl4
      intro k8 hk8
      have exit_ : k8 false w := by
        apply hk8
        refine cbF rfl ?_
        exact law05_fixed_spec h fun w h => hK _ h.sub
      refine cdec (fun e1 => ?_) (fun _ => exit_)
      by_cases e2 : i < 80
      · rw [decide_eq_true (by omega)]
        obtain ⟨o, ho⟩ : ∃ o, xs[i]? = some o := ⟨_, List.getElem?_eq_getElem (by omega)⟩
        have hoc := (hg1 o (List.mem_of_getElem? ho)).c
        apply hk8
        refine cbT rfl ?_
        have hrm : Rd op5E w0.heap.size w0 [NodesA b bits H] l1 xs := hi1.rd _
        refine hrm.ix h rfl ho fun a ha h0 hc => ldOp5 hc ?_
        refine h.al fun w2 h => ?_
        generalize w.heap.size = p at h ⊢
        refine h.stLc rfl rfl fun w h => ?_
        (dsimp only [putAt, List.set_cons_zero, List.set_cons_succ] at h)
        (repeat (first | (refine h.al fun w h => ?_) | (refine h.dr fun w h => ?_) | (refine h.lc_2 rfl ?_) | (refine h.lc_6 rfl ?_) | (refine ⟨_, h.ldc rfl, ?_⟩) | (refine ⟨_, h.ldd rfl, ?_⟩) | (refine h.hd rfl ?_) | (refine ⟨h.ldc rfl, ?_⟩) | (refine ⟨h.ldd rfl, ?_⟩) | (refine h.stLc rfl rfl fun w h => ?_) | (refine exs ?_) | (refine _root_.Go.Vc.a2 ?_) | (refine h.stc rfl rfl fun w h => ?_) | (refine h.std rfl rfl fun w h => ?_)))
        intro k27 hk27
        have next : ∀ (had' : Nat) (bits' : List Int) (H' : Hs) (w : World), Cnt H' had' → had' ≤ i + 1 → Vc.Own w0.heap.size w0 w [NodesA b bits' H'] → k27 (had' : Int) w := by
          intro had' bits' H' w hcnt' hh' h
          apply hk27
          have hkk := h.nok
          refine slots_Nodes_Held_spec h fun s hs w hh h => ?_
          have hlen := h.lenc s
          have hce := hcnt'.held hh
          refine cneF (by omega) ?_
          rw [show IntKind.i64.wrap ((i : Int) + 1) = ((i + 1 : Nat) : Int) from by rw [wr (by omega) (by omega)]; omega]
          exact ih (i + 1) had' bits' H' w (by omega) (by omega) (by omega) hcnt' hh' h.sub
        clear ih hk27
        refine ceq (fun e => ?_) (fun _ => ?_)
        · (repeat (first | (refine h.al fun w h => ?_) | (refine h.dr fun w h => ?_) | (refine h.lc_2 rfl ?_) | (refine h.lc_6 rfl ?_) | (refine ⟨_, h.ldc rfl, ?_⟩) | (refine ⟨_, h.ldd rfl, ?_⟩) | (refine h.hd rfl ?_) | (refine ⟨h.ldc rfl, ?_⟩) | (refine ⟨h.ldd rfl, ?_⟩) | (refine h.stLc rfl rfl fun w h => ?_) | (refine exs ?_) | (refine _root_.Go.Vc.a2 ?_) | (refine h.stc rfl rfl fun w h => ?_) | (refine h.std rfl rfl fun w h => ?_)))
          refine slots_Nodes_Make_spec h.up1 fun w h => ?_
          exact next had (makeN bits o.n).2.2 H w hcnt (by omega) h.sub
        refine ceq (fun e => ?_) (fun _ => ?_)
        · (repeat (first | (refine h.al fun w h => ?_) | (refine h.dr fun w h => ?_) | (refine h.lc_2 rfl ?_) | (refine h.lc_6 rfl ?_) | (refine ⟨_, h.ldc rfl, ?_⟩) | (refine ⟨_, h.ldd rfl, ?_⟩) | (refine h.hd rfl ?_) | (refine ⟨h.ldc rfl, ?_⟩) | (refine ⟨h.ldd rfl, ?_⟩) | (refine h.stLc rfl rfl fun w h => ?_) | (refine exs ?_) | (refine _root_.Go.Vc.a2 ?_) | (refine h.stc rfl rfl fun w h => ?_) | (refine h.std rfl rfl fun w h => ?_)))
          refine slots_Nodes_Drop_spec h.up1 (fun _ w h => ?_) (fun _ _ w h => ?_) (fun _ _ w h => ?_)
          · exact next had bits H w hcnt (by omega) h.sub
          · exact next had bits H w hcnt (by omega) h.sub
          · exact next had (bits.set o.n.toNat (-1)) H w hcnt (by omega) h.sub
        refine ceq (fun e => ?_) (fun _ => ?_)
        · (repeat (first | (refine h.al fun w h => ?_) | (refine h.dr fun w h => ?_) | (refine h.lc_2 rfl ?_) | (refine h.lc_6 rfl ?_) | (refine ⟨_, h.ldc rfl, ?_⟩) | (refine ⟨_, h.ldd rfl, ?_⟩) | (refine h.hd rfl ?_) | (refine ⟨h.ldc rfl, ?_⟩) | (refine ⟨h.ldd rfl, ?_⟩) | (refine h.stLc rfl rfl fun w h => ?_) | (refine exs ?_) | (refine _root_.Go.Vc.a2 ?_) | (refine h.stc rfl rfl fun w h => ?_) | (refine h.std rfl rfl fun w h => ?_)))
          refine slots_Nodes_Put_spec (s := o.a) hoc h.up1 fun w h => ?_
          rcases put_cases (bits := bits) (H := H) (s := o.a) (c := o.c) with ⟨g1, g2, g3⟩ | ⟨g1, g2⟩
          · rw [g3] at h
            rw [g1]
            refine cbT rfl ?_
            rw [show IntKind.i64.wrap ((had : Int) + 1) = ((had + 1 : Nat) : Int) from by rw [wr (by omega) (by omega)]; omega]
            exact next (had + 1) bits _ w (hcnt.put (c := o.c) g2) (by omega) h.sub
          · rw [g2] at h
            refine ceqF g1 ?_
            exact next had bits H w hcnt (by omega) h.sub
        refine ceq (fun e => ?_) (fun _ => ?_)
        · (repeat (first | (refine h.al fun w h => ?_) | (refine h.dr fun w h => ?_) | (refine h.lc_2 rfl ?_) | (refine h.lc_6 rfl ?_) | (refine ⟨_, h.ldc rfl, ?_⟩) | (refine ⟨_, h.ldd rfl, ?_⟩) | (refine h.hd rfl ?_) | (refine ⟨h.ldc rfl, ?_⟩) | (refine ⟨h.ldd rfl, ?_⟩) | (refine h.stLc rfl rfl fun w h => ?_) | (refine exs ?_) | (refine _root_.Go.Vc.a2 ?_) | (refine h.stc rfl rfl fun w h => ?_) | (refine h.std rfl rfl fun w h => ?_)))
          refine slots_Get_n (s := o.a) h 1 rfl fun w c1 e1 hg hcr h => ?_
          (repeat (first | (refine h.al fun w h => ?_) | (refine h.dr fun w h => ?_) | (refine h.lc_2 rfl ?_) | (refine h.lc_6 rfl ?_) | (refine ⟨_, h.ldc rfl, ?_⟩) | (refine ⟨_, h.ldd rfl, ?_⟩) | (refine h.hd rfl ?_) | (refine ⟨h.ldc rfl, ?_⟩) | (refine ⟨h.ldd rfl, ?_⟩) | (refine h.stLc rfl rfl fun w h => ?_) | (refine exs ?_) | (refine _root_.Go.Vc.a2 ?_) | (refine h.stc rfl rfl fun w h => ?_) | (refine h.std rfl rfl fun w h => ?_)))
          (dsimp only [putAt, List.set_cons_zero, List.set_cons_succ] at h)
          (repeat (first | (refine h.al fun w h => ?_) | (refine h.dr fun w h => ?_) | (refine h.lc_2 rfl ?_) | (refine h.lc_6 rfl ?_) | (refine ⟨_, h.ldc rfl, ?_⟩) | (refine ⟨_, h.ldd rfl, ?_⟩) | (refine h.hd rfl ?_) | (refine ⟨h.ldc rfl, ?_⟩) | (refine ⟨h.ldd rfl, ?_⟩) | (refine h.stLc rfl rfl fun w h => ?_) | (refine exs ?_) | (refine _root_.Go.Vc.a2 ?_) | (refine h.stc rfl rfl fun w h => ?_) | (refine h.std rfl rfl fun w h => ?_)))
          refine slots_Nodes_Take_spec (s := o.a) h.up2 (fun ht w h => ?_) (fun ht hn w h => ?_) (fun ht c hs w h => ?_)
          · have : getN bits H o.a = (zeroCap, 50) := by unfold getN; rw [if_pos ht]
            rw [this] at hg
            cases hg
            (repeat (first | (refine h.al fun w h => ?_) | (refine h.dr fun w h => ?_) | (refine h.lc_2 rfl ?_) | (refine h.lc_6 rfl ?_) | (refine ⟨_, h.ldc rfl, ?_⟩) | (refine ⟨_, h.ldd rfl, ?_⟩) | (refine h.hd rfl ?_) | (refine ⟨h.ldc rfl, ?_⟩) | (refine ⟨h.ldd rfl, ?_⟩) | (refine h.stLc rfl rfl fun w h => ?_) | (refine exs ?_) | (refine _root_.Go.Vc.a2 ?_) | (refine h.stc rfl rfl fun w h => ?_) | (refine h.std rfl rfl fun w h => ?_)))
            (dsimp only [putAt, List.set_cons_zero, List.set_cons_succ] at h)
            (repeat (first | (refine h.al fun w h => ?_) | (refine h.dr fun w h => ?_) | (refine h.lc_2 rfl ?_) | (refine h.lc_6 rfl ?_) | (refine ⟨_, h.ldc rfl, ?_⟩) | (refine ⟨_, h.ldd rfl, ?_⟩) | (refine h.hd rfl ?_) | (refine ⟨h.ldc rfl, ?_⟩) | (refine ⟨h.ldd rfl, ?_⟩) | (refine h.stLc rfl rfl fun w h => ?_) | (refine exs ?_) | (refine _root_.Go.Vc.a2 ?_) | (refine h.stc rfl rfl fun w h => ?_) | (refine h.std rfl rfl fun w h => ?_)))
            refine ⟨_, capNe zeroCap zeroCap, ?_⟩
            refine cbF (by simp) (cbF rfl ?_)
            exact next had bits H w hcnt (by omega) h.sub
          · rw [getN_in ht, hn] at hg
            cases hg
            (repeat (first | (refine h.al fun w h => ?_) | (refine h.dr fun w h => ?_) | (refine h.lc_2 rfl ?_) | (refine h.lc_6 rfl ?_) | (refine ⟨_, h.ldc rfl, ?_⟩) | (refine ⟨_, h.ldd rfl, ?_⟩) | (refine h.hd rfl ?_) | (refine ⟨h.ldc rfl, ?_⟩) | (refine ⟨h.ldd rfl, ?_⟩) | (refine h.stLc rfl rfl fun w h => ?_) | (refine exs ?_) | (refine _root_.Go.Vc.a2 ?_) | (refine h.stc rfl rfl fun w h => ?_) | (refine h.std rfl rfl fun w h => ?_)))
            (dsimp only [putAt, List.set_cons_zero, List.set_cons_succ] at h)
            (repeat (first | (refine h.al fun w h => ?_) | (refine h.dr fun w h => ?_) | (refine h.lc_2 rfl ?_) | (refine h.lc_6 rfl ?_) | (refine ⟨_, h.ldc rfl, ?_⟩) | (refine ⟨_, h.ldd rfl, ?_⟩) | (refine h.hd rfl ?_) | (refine ⟨h.ldc rfl, ?_⟩) | (refine ⟨h.ldd rfl, ?_⟩) | (refine h.stLc rfl rfl fun w h => ?_) | (refine exs ?_) | (refine _root_.Go.Vc.a2 ?_) | (refine h.stc rfl rfl fun w h => ?_) | (refine h.std rfl rfl fun w h => ?_)))
            refine ⟨_, capNe zeroCap zeroCap, ?_⟩
            refine cbF (by simp) (cbF rfl ?_)
            exact next had bits H w hcnt (by omega) h.sub
          · rw [getN_in ht, hs] at hg
            cases hg
            (repeat (first | (refine h.al fun w h => ?_) | (refine h.dr fun w h => ?_) | (refine h.lc_2 rfl ?_) | (refine h.lc_6 rfl ?_) | (refine ⟨_, h.ldc rfl, ?_⟩) | (refine ⟨_, h.ldd rfl, ?_⟩) | (refine h.hd rfl ?_) | (refine ⟨h.ldc rfl, ?_⟩) | (refine ⟨h.ldd rfl, ?_⟩) | (refine h.stLc rfl rfl fun w h => ?_) | (refine exs ?_) | (refine _root_.Go.Vc.a2 ?_) | (refine h.stc rfl rfl fun w h => ?_) | (refine h.std rfl rfl fun w h => ?_)))
            (dsimp only [putAt, List.set_cons_zero, List.set_cons_succ] at h)
            (repeat (first | (refine h.al fun w h => ?_) | (refine h.dr fun w h => ?_) | (refine h.lc_2 rfl ?_) | (refine h.lc_6 rfl ?_) | (refine ⟨_, h.ldc rfl, ?_⟩) | (refine ⟨_, h.ldd rfl, ?_⟩) | (refine h.hd rfl ?_) | (refine ⟨h.ldc rfl, ?_⟩) | (refine ⟨h.ldd rfl, ?_⟩) | (refine h.stLc rfl rfl fun w h => ?_) | (refine exs ?_) | (refine _root_.Go.Vc.a2 ?_) | (refine h.stc rfl rfl fun w h => ?_) | (refine h.std rfl rfl fun w h => ?_)))
            refine ⟨_, capNe c c, ?_⟩
            refine cbF (by simp) (cbT rfl ?_)
            obtain ⟨g1, g2⟩ := hcnt.del hs
            rw [show IntKind.i64.wrap ((had : Int) - 1) = ((had - 1 : Nat) : Int) from by rw [wr (by omega) (by omega)]; omega]
            exact next (had - 1) bits _ w g2 (by omega) h.sub
        refine ceq (fun e => ?_) (fun _ => ?_)
        · (repeat (first | (refine h.al fun w h => ?_) | (refine h.dr fun w h => ?_) | (refine h.lc_2 rfl ?_) | (refine h.lc_6 rfl ?_) | (refine ⟨_, h.ldc rfl, ?_⟩) | (refine ⟨_, h.ldd rfl, ?_⟩) | (refine h.hd rfl ?_) | (refine ⟨h.ldc rfl, ?_⟩) | (refine ⟨h.ldd rfl, ?_⟩) | (refine h.stLc rfl rfl fun w h => ?_) | (refine exs ?_) | (refine _root_.Go.Vc.a2 ?_) | (refine h.stc rfl rfl fun w h => ?_) | (refine h.std rfl rfl fun w h => ?_)))
          refine slots_Get_n (s := o.a) h 1 rfl fun w c1 e1 hg hcr h => ?_
          (repeat (first | (refine h.al fun w h => ?_) | (refine h.dr fun w h => ?_) | (refine h.lc_2 rfl ?_) | (refine h.lc_6 rfl ?_) | (refine ⟨_, h.ldc rfl, ?_⟩) | (refine ⟨_, h.ldd rfl, ?_⟩) | (refine h.hd rfl ?_) | (refine ⟨h.ldc rfl, ?_⟩) | (refine ⟨h.ldd rfl, ?_⟩) | (refine h.stLc rfl rfl fun w h => ?_) | (refine exs ?_) | (refine _root_.Go.Vc.a2 ?_) | (refine h.stc rfl rfl fun w h => ?_) | (refine h.std rfl rfl fun w h => ?_)))
          (dsimp only [putAt, List.set_cons_zero, List.set_cons_succ] at h)
          (repeat (first | (refine h.al fun w h => ?_) | (refine h.dr fun w h => ?_) | (refine h.lc_2 rfl ?_) | (refine h.lc_6 rfl ?_) | (refine ⟨_, h.ldc rfl, ?_⟩) | (refine ⟨_, h.ldd rfl, ?_⟩) | (refine h.hd rfl ?_) | (refine ⟨h.ldc rfl, ?_⟩) | (refine ⟨h.ldd rfl, ?_⟩) | (refine h.stLc rfl rfl fun w h => ?_) | (refine exs ?_) | (refine _root_.Go.Vc.a2 ?_) | (refine h.stc rfl rfl fun w h => ?_) | (refine h.std rfl rfl fun w h => ?_)))
          refine slots_Nodes_Move_spec (f := o.a) (t := o.b) h.up2 fun w h => ?_
          (repeat (first | (refine h.al fun w h => ?_) | (refine h.dr fun w h => ?_) | (refine h.lc_2 rfl ?_) | (refine h.lc_6 rfl ?_) | (refine ⟨_, h.ldc rfl, ?_⟩) | (refine ⟨_, h.ldd rfl, ?_⟩) | (refine h.hd rfl ?_) | (refine ⟨h.ldc rfl, ?_⟩) | (refine ⟨h.ldd rfl, ?_⟩) | (refine h.stLc rfl rfl fun w h => ?_) | (refine exs ?_) | (refine _root_.Go.Vc.a2 ?_) | (refine h.stc rfl rfl fun w h => ?_) | (refine h.std rfl rfl fun w h => ?_)))
          refine slots_Get_n (s := o.b) h 0 rfl fun w c2 e2 hg2 hcr2 h => ?_
          (repeat (first | (refine h.al fun w h => ?_) | (refine h.dr fun w h => ?_) | (refine h.lc_2 rfl ?_) | (refine h.lc_6 rfl ?_) | (refine ⟨_, h.ldc rfl, ?_⟩) | (refine ⟨_, h.ldd rfl, ?_⟩) | (refine h.hd rfl ?_) | (refine ⟨h.ldc rfl, ?_⟩) | (refine ⟨h.ldd rfl, ?_⟩) | (refine h.stLc rfl rfl fun w h => ?_) | (refine exs ?_) | (refine _root_.Go.Vc.a2 ?_) | (refine h.stc rfl rfl fun w h => ?_) | (refine h.std rfl rfl fun w h => ?_)))
          (dsimp only [putAt, List.set_cons_zero, List.set_cons_succ] at h)
          (repeat (first | (refine h.al fun w h => ?_) | (refine h.dr fun w h => ?_) | (refine h.lc_2 rfl ?_) | (refine h.lc_6 rfl ?_) | (refine ⟨_, h.ldc rfl, ?_⟩) | (refine ⟨_, h.ldd rfl, ?_⟩) | (refine h.hd rfl ?_) | (refine ⟨h.ldc rfl, ?_⟩) | (refine ⟨h.ldd rfl, ?_⟩) | (refine h.stLc rfl rfl fun w h => ?_) | (refine exs ?_) | (refine _root_.Go.Vc.a2 ?_) | (refine h.stc rfl rfl fun w h => ?_) | (refine h.std rfl rfl fun w h => ?_)))
          by_cases em : (moveN bits H o.a o.b).1 = 0
          · obtain ⟨t1, t2, c, hx, hy, em2⟩ := move_ok em
            rw [em2] at h hg2 ⊢
            dsimp only at h hg2
            rw [getN_in t1, hx] at hg
            cases hg
            rw [getN_in t2, show updH (updH H o.a none) o.b (some c) o.b = some c from by simp [updH]] at hg2
            cases hg2
            refine cbT rfl ?_
            (repeat (first | (refine h.al fun w h => ?_) | (refine h.dr fun w h => ?_) | (refine h.lc_2 rfl ?_) | (refine h.lc_6 rfl ?_) | (refine ⟨_, h.ldc rfl, ?_⟩) | (refine ⟨_, h.ldd rfl, ?_⟩) | (refine h.hd rfl ?_) | (refine ⟨h.ldc rfl, ?_⟩) | (refine ⟨h.ldd rfl, ?_⟩) | (refine h.stLc rfl rfl fun w h => ?_) | (refine exs ?_) | (refine _root_.Go.Vc.a2 ?_) | (refine h.stc rfl rfl fun w h => ?_) | (refine h.std rfl rfl fun w h => ?_)))
            refine ⟨_, capNe c c, ?_⟩
            refine cbF (by simp) ?_
            exact next had bits _ w (hcnt.move hx hy) (by omega) h.sub
          · rw [move_no em] at h
            refine ceqF em ?_
            exact next had bits H w hcnt (by omega) h.sub
        refine ceq (fun e => ?_) (fun _ => ?_)
        · (repeat (first | (refine h.al fun w h => ?_) | (refine h.dr fun w h => ?_) | (refine h.lc_2 rfl ?_) | (refine h.lc_6 rfl ?_) | (refine ⟨_, h.ldc rfl, ?_⟩) | (refine ⟨_, h.ldd rfl, ?_⟩) | (refine h.hd rfl ?_) | (refine ⟨h.ldc rfl, ?_⟩) | (refine ⟨h.ldd rfl, ?_⟩) | (refine h.stLc rfl rfl fun w h => ?_) | (refine exs ?_) | (refine _root_.Go.Vc.a2 ?_) | (refine h.stc rfl rfl fun w h => ?_) | (refine h.std rfl rfl fun w h => ?_)))
          refine slots_Get_n (s := o.a) h 1 rfl fun w c1 e1 hg hcr h => ?_
          (repeat (first | (refine h.al fun w h => ?_) | (refine h.dr fun w h => ?_) | (refine h.lc_2 rfl ?_) | (refine h.lc_6 rfl ?_) | (refine ⟨_, h.ldc rfl, ?_⟩) | (refine ⟨_, h.ldd rfl, ?_⟩) | (refine h.hd rfl ?_) | (refine ⟨h.ldc rfl, ?_⟩) | (refine ⟨h.ldd rfl, ?_⟩) | (refine h.stLc rfl rfl fun w h => ?_) | (refine exs ?_) | (refine _root_.Go.Vc.a2 ?_) | (refine h.stc rfl rfl fun w h => ?_) | (refine h.std rfl rfl fun w h => ?_)))
          (dsimp only [putAt, List.set_cons_zero, List.set_cons_succ] at h)
          (repeat (first | (refine h.al fun w h => ?_) | (refine h.dr fun w h => ?_) | (refine h.lc_2 rfl ?_) | (refine h.lc_6 rfl ?_) | (refine ⟨_, h.ldc rfl, ?_⟩) | (refine ⟨_, h.ldd rfl, ?_⟩) | (refine h.hd rfl ?_) | (refine ⟨h.ldc rfl, ?_⟩) | (refine ⟨h.ldd rfl, ?_⟩) | (refine h.stLc rfl rfl fun w h => ?_) | (refine exs ?_) | (refine _root_.Go.Vc.a2 ?_) | (refine h.stc rfl rfl fun w h => ?_) | (refine h.std rfl rfl fun w h => ?_)))
          refine slots_Get_n (s := o.b) h 2 rfl fun w c2 e2 hg2 hcr2 h => ?_
          (repeat (first | (refine h.al fun w h => ?_) | (refine h.dr fun w h => ?_) | (refine h.lc_2 rfl ?_) | (refine h.lc_6 rfl ?_) | (refine ⟨_, h.ldc rfl, ?_⟩) | (refine ⟨_, h.ldd rfl, ?_⟩) | (refine h.hd rfl ?_) | (refine ⟨h.ldc rfl, ?_⟩) | (refine ⟨h.ldd rfl, ?_⟩) | (refine h.stLc rfl rfl fun w h => ?_) | (refine exs ?_) | (refine _root_.Go.Vc.a2 ?_) | (refine h.stc rfl rfl fun w h => ?_) | (refine h.std rfl rfl fun w h => ?_)))
          (dsimp only [putAt, List.set_cons_zero, List.set_cons_succ] at h)
          (repeat (first | (refine h.al fun w h => ?_) | (refine h.dr fun w h => ?_) | (refine h.lc_2 rfl ?_) | (refine h.lc_6 rfl ?_) | (refine ⟨_, h.ldc rfl, ?_⟩) | (refine ⟨_, h.ldd rfl, ?_⟩) | (refine h.hd rfl ?_) | (refine ⟨h.ldc rfl, ?_⟩) | (refine ⟨h.ldd rfl, ?_⟩) | (refine h.stLc rfl rfl fun w h => ?_) | (refine exs ?_) | (refine _root_.Go.Vc.a2 ?_) | (refine h.stc rfl rfl fun w h => ?_) | (refine h.std rfl rfl fun w h => ?_)))
          refine slots_Nodes_Swap_spec (a := o.a) (c := o.b) h.up3 fun w h => ?_
          (repeat (first | (refine h.al fun w h => ?_) | (refine h.dr fun w h => ?_) | (refine h.lc_2 rfl ?_) | (refine h.lc_6 rfl ?_) | (refine ⟨_, h.ldc rfl, ?_⟩) | (refine ⟨_, h.ldd rfl, ?_⟩) | (refine h.hd rfl ?_) | (refine ⟨h.ldc rfl, ?_⟩) | (refine ⟨h.ldd rfl, ?_⟩) | (refine h.stLc rfl rfl fun w h => ?_) | (refine exs ?_) | (refine _root_.Go.Vc.a2 ?_) | (refine h.stc rfl rfl fun w h => ?_) | (refine h.std rfl rfl fun w h => ?_)))
          refine slots_Get_n (s := o.a) h 0 rfl fun w c3 e3 hg3 hcr3 h => ?_
          (repeat (first | (refine h.al fun w h => ?_) | (refine h.dr fun w h => ?_) | (refine h.lc_2 rfl ?_) | (refine h.lc_6 rfl ?_) | (refine ⟨_, h.ldc rfl, ?_⟩) | (refine ⟨_, h.ldd rfl, ?_⟩) | (refine h.hd rfl ?_) | (refine ⟨h.ldc rfl, ?_⟩) | (refine ⟨h.ldd rfl, ?_⟩) | (refine h.stLc rfl rfl fun w h => ?_) | (refine exs ?_) | (refine _root_.Go.Vc.a2 ?_) | (refine h.stc rfl rfl fun w h => ?_) | (refine h.std rfl rfl fun w h => ?_)))
          (dsimp only [putAt, List.set_cons_zero, List.set_cons_succ] at h)
          (repeat (first | (refine h.al fun w h => ?_) | (refine h.dr fun w h => ?_) | (refine h.lc_2 rfl ?_) | (refine h.lc_6 rfl ?_) | (refine ⟨_, h.ldc rfl, ?_⟩) | (refine ⟨_, h.ldd rfl, ?_⟩) | (refine h.hd rfl ?_) | (refine ⟨h.ldc rfl, ?_⟩) | (refine ⟨h.ldd rfl, ?_⟩) | (refine h.stLc rfl rfl fun w h => ?_) | (refine exs ?_) | (refine _root_.Go.Vc.a2 ?_) | (refine h.stc rfl rfl fun w h => ?_) | (refine h.std rfl rfl fun w h => ?_)))
          refine slots_Get_n (s := o.b) h 1 rfl fun w c4 e4 hg4 hcr4 h => ?_
          (repeat (first | (refine h.al fun w h => ?_) | (refine h.dr fun w h => ?_) | (refine h.lc_2 rfl ?_) | (refine h.lc_6 rfl ?_) | (refine ⟨_, h.ldc rfl, ?_⟩) | (refine ⟨_, h.ldd rfl, ?_⟩) | (refine h.hd rfl ?_) | (refine ⟨h.ldc rfl, ?_⟩) | (refine ⟨h.ldd rfl, ?_⟩) | (refine h.stLc rfl rfl fun w h => ?_) | (refine exs ?_) | (refine _root_.Go.Vc.a2 ?_) | (refine h.stc rfl rfl fun w h => ?_) | (refine h.std rfl rfl fun w h => ?_)))
          (dsimp only [putAt, List.set_cons_zero, List.set_cons_succ] at h)
          (repeat (first | (refine h.al fun w h => ?_) | (refine h.dr fun w h => ?_) | (refine h.lc_2 rfl ?_) | (refine h.lc_6 rfl ?_) | (refine ⟨_, h.ldc rfl, ?_⟩) | (refine ⟨_, h.ldd rfl, ?_⟩) | (refine h.hd rfl ?_) | (refine ⟨h.ldc rfl, ?_⟩) | (refine ⟨h.ldd rfl, ?_⟩) | (refine h.stLc rfl rfl fun w h => ?_) | (refine exs ?_) | (refine _root_.Go.Vc.a2 ?_) | (refine h.stc rfl rfl fun w h => ?_) | (refine h.std rfl rfl fun w h => ?_)))
          by_cases em : thereB bits o.a = false ∨ thereB bits o.b = false
          · have es : swapN bits H o.a o.b = (50, H) := by unfold swapN; rw [if_pos em]
            rw [es] at h ⊢
            refine cbF rfl ?_
            exact next had bits H w hcnt (by omega) h.sub
          · have es : swapN bits H o.a o.b = (0, updH (updH H o.a (H o.b)) o.b (H o.a)) := by unfold swapN; rw [if_neg em]
            have t1 := thereS (fun e => em (.inl e))
            have t2 := thereS (fun e => em (.inr e))
            rw [es] at h hg3 hg4 ⊢
            dsimp only at h hg3 hg4
            rw [getN_in t1] at hg hg3
            rw [getN_in t2] at hg2 hg4
            rw [swap_at, show swS o.a o.b o.a = o.b from by unfold swS; by_cases e : o.a = o.b <;> simp [e]] at hg3
            rw [swap_at, show swS o.a o.b o.b = o.a from by unfold swS; simp] at hg4
            have e14 : c1 = c4 := by rw [← (Prod.mk.inj hg4).1.symm, (Prod.mk.inj hg).1]
            have e23 : c2 = c3 := by rw [← (Prod.mk.inj hg3).1.symm, (Prod.mk.inj hg2).1]
            subst e14; subst e23
            refine cbT rfl ?_
            (repeat (first | (refine h.al fun w h => ?_) | (refine h.dr fun w h => ?_) | (refine h.lc_2 rfl ?_) | (refine h.lc_6 rfl ?_) | (refine ⟨_, h.ldc rfl, ?_⟩) | (refine ⟨_, h.ldd rfl, ?_⟩) | (refine h.hd rfl ?_) | (refine ⟨h.ldc rfl, ?_⟩) | (refine ⟨h.ldd rfl, ?_⟩) | (refine h.stLc rfl rfl fun w h => ?_) | (refine exs ?_) | (refine _root_.Go.Vc.a2 ?_) | (refine h.stc rfl rfl fun w h => ?_) | (refine h.std rfl rfl fun w h => ?_)))
            refine ⟨_, capNe c1 c1, ?_⟩
            refine cbF (by simp) ?_
            (repeat (first | (refine h.al fun w h => ?_) | (refine h.dr fun w h => ?_) | (refine h.lc_2 rfl ?_) | (refine h.lc_6 rfl ?_) | (refine ⟨_, h.ldc rfl, ?_⟩) | (refine ⟨_, h.ldd rfl, ?_⟩) | (refine h.hd rfl ?_) | (refine ⟨h.ldc rfl, ?_⟩) | (refine ⟨h.ldd rfl, ?_⟩) | (refine h.stLc rfl rfl fun w h => ?_) | (refine exs ?_) | (refine _root_.Go.Vc.a2 ?_) | (refine h.stc rfl rfl fun w h => ?_) | (refine h.std rfl rfl fun w h => ?_)))
            refine ⟨_, capNe c2 c2, ?_⟩
            refine cbF (by simp) ?_
            exact next had bits _ w (hcnt.swap o.a o.b) (by omega) h.sub
        · exact next had bits H w hcnt (by omega) h.sub
      · rw [decide_eq_false (by omega)]
        exact exit_
  exact loop 81 0 0 [] _ w (by omega) (by omega) (by omega) Cnt.zero (by omega) h
end
end Go.Proofs.Ytdlcejjiccknlaa
