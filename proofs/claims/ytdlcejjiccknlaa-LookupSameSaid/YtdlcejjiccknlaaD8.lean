/- Laws of layer 5: SlotsDrops, SlotsOrder, SlotsNone. -/
import Derived.Test.YtdlcejjiccknlaaD7
import Derived.Test.YtdlcejjiccknlaaS0
set_option linter.unusedVariables false
set_option linter.unusedSimpArgs false
set_option maxRecDepth 8000
namespace Go.Proofs.Ytdlcejjiccknlaa
open Go Go.Vc Go.Proofs

def inNode (n : Int) (x : Slot × Cap) : Bool := x.1.1 == n
theorem busy_iff {H : Hs} {hs : List (Slot × Cap)} (hh : IsHeld H hs) (n : Int) : busyN H n ↔ 0 < hs.countP (inNode n) := by
  rw [List.countP_pos_iff]
  constructor
  · rintro ⟨i, c, e⟩
    exact ⟨((n, i), c), (hh.mem _ _).2 e, by simp [inNode]⟩
  · rintro ⟨⟨⟨a, i⟩, c⟩, hm, he⟩
    have : a = n := by simpa [inNode] using he
    subst this
    exact ⟨i, c, (hh.mem _ _).1 hm⟩
theorem eight_held {H : Hs} (hk : NOk [2, 2] H) {hs : List (Slot × Cap)} (hh : IsHeld H hs) : hs.length ≤ 8 := by
  have hb : ∀ x ∈ hs, 0 ≤ x.1.1 ∧ x.1.1 < 2 ∧ 0 ≤ x.1.2 ∧ x.1.2 < 4 := fun x hx => by
    have h1 := (hk.held _ _ ((hh.mem x.1 x.2).1 hx)).1
    by_cases e : x.1.1 < 0 ∨ 2 ≤ x.1.1 ∨ x.1.2 < 0 ∨ 4 ≤ x.1.2
    · rw [not_there22 e] at h1; cases h1
    · omega
  have := pigeonS 8 (hs.map fun x => x.1.1 * 4 + x.1.2) (by
    refine List.pairwise_map.2 (List.Pairwise.imp_of_mem (fun {x y} hx hy hne e => ?_) hh.srt)
    have := hb x hx
    have := hb y hy
    simp only [ltS, decide_eq_true_eq] at hne
    omega) fun z hz => by
    obtain ⟨x, hx, rfl⟩ := List.mem_map.1 hz
    have := hb x hx
    omega
  simpa using this

section
variable {w0 w : World}
theorem law05_SlotsDrops_spec {l1 : Sl} {xs : List Op5} {r1 : Int} {K : Bool → World → Prop} (hi1 : Inp op5E w0 l1 xs) (hg1 : ∀ x ∈ xs, Op5R x) (w1 : (Lit.int .i64 r1).wf = true)
    (h : Vc.Own w0.heap.size w0 w []) (hK : ∀ w', Vc.Own w0.heap.size w0 w' [] → K true w') : C.law05_SlotsDrops l1 r1 K w := by
  apply S.law05_SlotsDrops_ok
  unfold S.law05_SlotsDrops
  refine law05_two_spec h fun b w h => ?_
  refine cbF rfl ?_
  refine puts_spec (hi1.rd _) hg1 h fun w h => ?_
  generalize fillH xs = H at h
  have hn := and1 r1
  have hkk := h.nok
  refine slots_Nodes_Held_spec h fun s hs w hh h => ?_
  have hl := len_held hkk hh
  have hlen := h.lenc s
  generalize andI .i64 r1 1 = n at hn ⊢
  intro l26 hl26
  have fin : ∀ (bits : List Int) (w : World), Vc.Own w0.heap.size w0 w [NodesA b bits H, SlT heldE s hs] → (C.slots_Nodes_Held (some ⟨b, 0, none⟩) (fun r40 w41 => C.ref05_Same r40 s (fun r42 w43 => bif r42 then C.law05_fixed (fun r44 w45 => K r44 w45) w43 else K false w43) w41)) w := by
    intro bits w h
    refine slots_Nodes_Held_spec h fun s2 hs2 w hh2 h => ?_
    have e := hh2.uniq hh
    subst e
    refine ref05_Same_spec h (Rd.own (h.lenc s2)) (Rd.own (h.lenc s)) (by omega) fun w h => ?_
    refine cbT (by simp) ?_
    exact law05_fixed_spec h fun w h => hK _ h.sub
  have loop : ∀ (j i : Nat) (w : World), i + j = hs.length → Vc.Own w0.heap.size w0 w [SlT heldE s hs, NodesA b [2, 2] H] → l26 (((hs.take i).countP (inNode n) : Nat) : Int) (i : Int) w := by
    intro j
    induction j with
    | zero =>
      intro i w hi h
      apply hl26
      refine cdecF (by omega) ?_
      rw [List.take_of_length_le (by omega)]
      have hb := busy_iff hh n
      have hc : hs.countP (inNode n) ≤ hs.length := List.countP_le_length
      generalize hs.countP (inNode n) = c at hb hc
      have hx : xorI .i64 n 1 = 1 - n := by rcases hn with e | e <;> rw [e] <;> decide
      have hsz : (sizeN [2, 2] n).isSome = true := by rcases hn with e | e <;> rw [e] <;> decide
      have hsz2 : (sizeN [2, 2] (1 - n)).isSome = true := by rcases hn with e | e <;> rw [e] <;> decide
      rw [hx]
      refine slots_Nodes_Drop_spec h.up1 (fun e => by rw [e] at hsz; cases hsz) (fun _ hbz w h => ?_) (fun _ hbz w h => ?_)
      · have hpos := hb.1 hbz
        refine slots_Nodes_Size_spec h 0 rfl ?_
        refine slots_Nodes_Size_spec h 0 rfl ?_
        refine cbT ?_ (cbT ?_ (cbT hsz2 ?_))
        · have : ((c : Int) == 0) = false := by simpa using (by omega : ¬ c = 0)
          rw [this]; rfl
        · rw [hsz, show decide ((c : Int) > 0) = true from by simpa using hpos]; rfl
        exact fin _ w h
      · have hz : c = 0 := by
          have : ¬ 0 < c := fun e => hbz (hb.2 e)
          omega
        subst hz
        refine slots_Nodes_Size_spec h 0 rfl ?_
        refine slots_Nodes_Size_spec h 0 rfl ?_
        have g1 : (sizeN ([2, 2].set n.toNat (-1)) n).isSome = false := by rcases hn with e | e <;> rw [e] <;> decide
        have g2 : (sizeN ([2, 2].set n.toNat (-1)) (1 - n)).isSome = true := by rcases hn with e | e <;> rw [e] <;> decide
        refine cbT rfl (cbT ?_ (cbT g2 ?_))
        · rw [g1]; rfl
        exact fin _ w h
    | succ j ih =>
      intro i w hi h
      apply hl26
      refine cdecT (by omega) ?_
      have hx : hs[i]? = some hs[i] := List.getElem?_eq_getElem (by omega)
      have hcl : (hs.take i).countP (inNode n) ≤ i := by
        have := List.countP_le_length (p := inNode n) (l := hs.take i)
        rw [List.length_take] at this; omega
      refine h.ixc (s := s) (i := (i : Int)) (j := i) rfl hx fun a ha h0 hc => ⟨_, h0 _ rfl, ?_⟩
      rw [show IntKind.i64.wrap ((i : Int) + 1) = ((i + 1 : Nat) : Int) from by rw [wr (by omega) (by omega)]; omega]
      have hnext : (hs.take (i + 1)).countP (inNode n) = (hs.take i).countP (inNode n) + if inNode n hs[i] then 1 else 0 := by
        rw [List.take_add_one, hx, List.countP_append]
        simp [List.countP_cons]
      have := ih (i + 1) w (by omega) h
      rw [hnext] at this
      by_cases e : hs[i].1.1 = n
      · refine cbT (by simpa using e) ?_
        rw [show inNode n hs[i] = true from by simpa [inNode] using e, if_pos rfl] at this
        rw [show IntKind.i64.wrap ((((hs.take i).countP (inNode n) : Nat) : Int) + 1) = (((hs.take i).countP (inNode n) + 1 : Nat) : Int) from by rw [wr (by omega) (by omega)]; omega]
        exact this
      · refine cbF (by simpa using e) ?_
        rw [show inNode n hs[i] = false from by simpa [inNode] using e] at this
        simpa using this
  exact loop hs.length 0 w (by omega) h

theorem law05_SlotsOrder_spec {l1 : Sl} {xs : List Op5} {K : Bool → World → Prop} (hi1 : Inp op5E w0 l1 xs) (hg1 : ∀ x ∈ xs, Op5R x)
    (h : Vc.Own w0.heap.size w0 w []) (hK : ∀ w', Vc.Own w0.heap.size w0 w' [] → K true w') : C.law05_SlotsOrder l1 K w := by
  apply S.law05_SlotsOrder_ok
  unfold S.law05_SlotsOrder
  refine law05_two_spec h fun b w h => ?_
  refine cbF rfl ?_
  refine puts_spec (hi1.rd _) hg1 h fun w h => ?_
  generalize fillH xs = H at h
  have hkk := h.nok
  refine slots_Nodes_Held_spec h fun s hs w hh h => ?_
  have h8 := eight_held hkk hh
  have hlen := h.lenc s
  intro l25 hl25
  have loop : ∀ (j i : Nat) (w : World), i + j = hs.length → Vc.Own w0.heap.size w0 w [SlT heldE s hs, NodesA b [2, 2] H] → l25 (i : Int) w := by
    intro j
    induction j with
    | zero =>
      intro i w hi h
      apply hl25
      refine cdecF (by omega) ?_
      refine cdecT (by omega) ?_
      exact law05_fixed_spec h fun w h => hK _ h.sub
    | succ j ih =>
      intro i w hi h
      apply hl25
      refine cdecT (by omega) ?_
      have hx : hs[i]? = some hs[i] := List.getElem?_eq_getElem (by omega)
      have hlt : ∀ y, 0 < i → hs[i - 1]? = some y → ltS y.1 hs[i].1 = true := fun y h0 hy => by
        obtain ⟨h1, h2⟩ := List.getElem?_eq_some_iff.1 hy
        have := List.pairwise_iff_getElem.1 hh.srt (i - 1) i h1 (by omega) (by omega)
        rw [h2] at this; exact this
      have hm := (hh.mem hs[i].1 hs[i].2).1 (List.getElem_mem _)
      generalize hs[i] = x at hx hlt hm
      refine h.ixc (s := s) (i := (i : Int)) (j := i) rfl hx fun a ha h0 hc => ⟨_, hc 0 _ rfl, _, hc 1 _ rfl, ?_⟩
      obtain ⟨ht, _, hck, _⟩ := hkk.held _ _ hm
      refine slots_Nodes_Get_spec (s := x.1) h 1 rfl (fun e => by rw [ht] at e; cases e) fun _ w c hc1 h => ?_
      have hcx : c = x.2 := by rw [hc1, hm]; rfl
      subst hcx
      (repeat (first | (refine h.al fun w h => ?_) | (refine h.dr fun w h => ?_) | (refine h.lc_2 rfl ?_) | (refine h.lc_6 rfl ?_) | (refine ⟨_, h.ldc rfl, ?_⟩) | (refine ⟨_, h.ldd rfl, ?_⟩) | (refine h.hd rfl ?_) | (refine ⟨h.ldc rfl, ?_⟩) | (refine ⟨h.ldd rfl, ?_⟩) | (refine h.stLc rfl rfl fun w h => ?_) | (refine exs ?_) | (refine _root_.Go.Vc.a2 ?_) | (refine h.stc rfl rfl fun w h => ?_) | (refine h.std rfl rfl fun w h => ?_)))
      (dsimp only [putAt, List.set_cons_zero, List.set_cons_succ] at h)
      intro k41 hk41
      (repeat (first | (refine h.al fun w h => ?_) | (refine h.dr fun w h => ?_) | (refine h.lc_2 rfl ?_) | (refine h.lc_6 rfl ?_) | (refine ⟨_, h.ldc rfl, ?_⟩) | (refine ⟨_, h.ldd rfl, ?_⟩) | (refine h.hd rfl ?_) | (refine ⟨h.ldc rfl, ?_⟩) | (refine ⟨h.ldd rfl, ?_⟩) | (refine h.stLc rfl rfl fun w h => ?_) | (refine exs ?_) | (refine _root_.Go.Vc.a2 ?_) | (refine h.stc rfl rfl fun w h => ?_) | (refine h.std rfl rfl fun w h => ?_)))
      refine h.ixc (s := s) (i := (i : Int)) (j := i) rfl hx fun a ha h0 hc => ldCap (x := x.2) (ldAt hc 2) ?_
      refine ⟨_, capNe x.2 x.2, ?_⟩
      refine cbF (by simp) ?_
      (repeat (first | (refine h.al fun w h => ?_) | (refine h.dr fun w h => ?_) | (refine h.lc_2 rfl ?_) | (refine h.lc_6 rfl ?_) | (refine ⟨_, h.ldc rfl, ?_⟩) | (refine ⟨_, h.ldd rfl, ?_⟩) | (refine h.hd rfl ?_) | (refine ⟨h.ldc rfl, ?_⟩) | (refine ⟨h.ldd rfl, ?_⟩) | (refine h.stLc rfl rfl fun w h => ?_) | (refine exs ?_) | (refine _root_.Go.Vc.a2 ?_) | (refine h.stc rfl rfl fun w h => ?_) | (refine h.std rfl rfl fun w h => ?_)))
      rw [show (x.2.kind == 0) = false from by simpa using hck]
      apply hk41
      refine cbF rfl ?_
      intro k44 hk44
      have next : ∀ w, Vc.Own w0.heap.size w0 w [SlT heldE s hs, NodesA b [2, 2] H] → k44 false w := fun w h => by
        apply hk44
        refine cbF rfl ?_
        rw [show IntKind.i64.wrap ((i : Int) + 1) = ((i + 1 : Nat) : Int) from by rw [wr (by omega) (by omega)]; omega]
        exact ih (i + 1) w (by omega) h
      (repeat (first | (refine h.al fun w h => ?_) | (refine h.dr fun w h => ?_) | (refine h.lc_2 rfl ?_) | (refine h.lc_6 rfl ?_) | (refine ⟨_, h.ldc rfl, ?_⟩) | (refine ⟨_, h.ldd rfl, ?_⟩) | (refine h.hd rfl ?_) | (refine ⟨h.ldc rfl, ?_⟩) | (refine ⟨h.ldd rfl, ?_⟩) | (refine h.stLc rfl rfl fun w h => ?_) | (refine exs ?_) | (refine _root_.Go.Vc.a2 ?_) | (refine h.stc rfl rfl fun w h => ?_) | (refine h.std rfl rfl fun w h => ?_)))
      refine cdec (fun e0 => ?_) (fun e0 => next _ h.sub)
      obtain ⟨y, hy⟩ : ∃ y, hs[i - 1]? = some y := ⟨_, List.getElem?_eq_getElem (by omega)⟩
      have hlty := hlt y (by omega) hy
      simp only [ltS, decide_eq_true_eq] at hlty
      have hwi : IntKind.i64.wrap ((i : Int) - 1) = ((i - 1 : Nat) : Int) := by rw [wr (by omega) (by omega)]; omega
      rw [hwi]
      refine h.ixc (s := s) (i := (i : Int)) (j := i) rfl hx fun a ha h0 hc => ⟨_, h0 _ rfl, ?_⟩
      refine h.ixc (s := s) (j := i - 1) rfl hy fun a ha h0 hc => ⟨_, h0 _ rfl, ?_⟩
      refine cdecF (by omega) ?_
      refine h.ixc (s := s) (i := (i : Int)) (j := i) rfl hx fun a ha h0 hc => ⟨_, h0 _ rfl, ?_⟩
      refine h.ixc (s := s) (j := i - 1) rfl hy fun a ha h0 hc => ⟨_, h0 _ rfl, ?_⟩
      refine ceq (fun e1 => ?_) (fun e1 => next _ h.sub)
      refine h.ixc (s := s) (i := (i : Int)) (j := i) rfl hx fun a ha h0 hc => ⟨_, hc 1 _ rfl, ?_⟩
      refine h.ixc (s := s) (j := i - 1) rfl hy fun a ha h0 hc => ⟨_, hc 1 _ rfl, ?_⟩
      rw [show decide (x.1.2 ≤ y.1.2) = false from by rw [decide_eq_false]; omega]
      exact next _ h.sub
  exact loop hs.length 0 w (by omega) h

theorem law05_SlotsNone_spec {l1 : Sl} {xs : List Op5} {r1 r2 : Int} {K : Bool → World → Prop} (hi1 : Inp op5E w0 l1 xs) (hg1 : ∀ x ∈ xs, Op5R x) (w1 : (Lit.int .i64 r1).wf = true) (w2 : (Lit.int .i64 r2).wf = true)
    (h : Vc.Own w0.heap.size w0 w []) (hK : ∀ w', Vc.Own w0.heap.size w0 w' [] → K true w') : C.law05_SlotsNone l1 r1 r2 K w := by
  apply S.law05_SlotsNone_ok
  unfold S.law05_SlotsNone
  refine law05_two_spec h fun b w h => ?_
  refine cbF rfl ?_
  refine puts_spec (hi1.rd _) hg1 h fun w h => ?_
  generalize fillH xs = H at h
  have hkk := h.nok
  refine slots_Nodes_Held_spec h fun s hs w hh h => ?_
  have hl := len_held hkk hh
  refine h.al fun w2 h => ?_
  generalize w.heap.size = p at h ⊢
  refine h.stLc rfl rfl fun w h => ?_
  (dsimp only [putAt, List.set_cons_zero, List.set_cons_succ] at h)
  intro k29 hk29
  have main : ∀ (n i : Int) (w : World), thereB [2, 2] (n, i) = false → Vc.Own w0.heap.size w0 w [BlkA p [.int .i64 n, .int .i64 i], SlT heldE s hs, NodesA b [2, 2] H] → k29 w := by
    intro n i w ht h
    apply hk29
    (repeat (first | (refine h.al fun w h => ?_) | (refine h.dr fun w h => ?_) | (refine h.lc_2 rfl ?_) | (refine h.lc_6 rfl ?_) | (refine ⟨_, h.ldc rfl, ?_⟩) | (refine ⟨_, h.ldd rfl, ?_⟩) | (refine h.hd rfl ?_) | (refine ⟨h.ldc rfl, ?_⟩) | (refine ⟨h.ldd rfl, ?_⟩) | (refine h.stLc rfl rfl fun w h => ?_) | (refine exs ?_) | (refine _root_.Go.Vc.a2 ?_) | (refine h.stc rfl rfl fun w h => ?_) | (refine h.std rfl rfl fun w h => ?_)))
    refine slots_Nodes_Get_spec (s := (n, i)) h 2 rfl (fun _ w h => ?_) (fun e => by rw [ht] at e; cases e)
    (repeat (first | (refine h.al fun w h => ?_) | (refine h.dr fun w h => ?_) | (refine h.lc_2 rfl ?_) | (refine h.lc_6 rfl ?_) | (refine ⟨_, h.ldc rfl, ?_⟩) | (refine ⟨_, h.ldd rfl, ?_⟩) | (refine h.hd rfl ?_) | (refine ⟨h.ldc rfl, ?_⟩) | (refine ⟨h.ldd rfl, ?_⟩) | (refine h.stLc rfl rfl fun w h => ?_) | (refine exs ?_) | (refine _root_.Go.Vc.a2 ?_) | (refine h.stc rfl rfl fun w h => ?_) | (refine h.std rfl rfl fun w h => ?_)))
    (dsimp only [putAt, List.set_cons_zero, List.set_cons_succ] at h)
    (repeat (first | (refine h.al fun w h => ?_) | (refine h.dr fun w h => ?_) | (refine h.lc_2 rfl ?_) | (refine h.lc_6 rfl ?_) | (refine ⟨_, h.ldc rfl, ?_⟩) | (refine ⟨_, h.ldd rfl, ?_⟩) | (refine h.hd rfl ?_) | (refine ⟨h.ldc rfl, ?_⟩) | (refine ⟨h.ldd rfl, ?_⟩) | (refine h.stLc rfl rfl fun w h => ?_) | (refine exs ?_) | (refine _root_.Go.Vc.a2 ?_) | (refine h.stc rfl rfl fun w h => ?_) | (refine h.std rfl rfl fun w h => ?_)))
    refine slots_Nodes_Take_spec (s := (n, i)) h.up3 (fun _ w h => ?_) (fun e => by rw [ht] at e; cases e) (fun e => by rw [ht] at e; cases e)
    (repeat (first | (refine h.al fun w h => ?_) | (refine h.dr fun w h => ?_) | (refine h.lc_2 rfl ?_) | (refine h.lc_6 rfl ?_) | (refine ⟨_, h.ldc rfl, ?_⟩) | (refine ⟨_, h.ldd rfl, ?_⟩) | (refine h.hd rfl ?_) | (refine ⟨h.ldc rfl, ?_⟩) | (refine ⟨h.ldd rfl, ?_⟩) | (refine h.stLc rfl rfl fun w h => ?_) | (refine exs ?_) | (refine _root_.Go.Vc.a2 ?_) | (refine h.stc rfl rfl fun w h => ?_) | (refine h.std rfl rfl fun w h => ?_)))
    (dsimp only [putAt, List.set_cons_zero, List.set_cons_succ] at h)
    (repeat (first | (refine h.al fun w h => ?_) | (refine h.dr fun w h => ?_) | (refine h.lc_2 rfl ?_) | (refine h.lc_6 rfl ?_) | (refine ⟨_, h.ldc rfl, ?_⟩) | (refine ⟨_, h.ldd rfl, ?_⟩) | (refine h.hd rfl ?_) | (refine ⟨h.ldc rfl, ?_⟩) | (refine ⟨h.ldd rfl, ?_⟩) | (refine h.stLc rfl rfl fun w h => ?_) | (refine exs ?_) | (refine _root_.Go.Vc.a2 ?_) | (refine h.stc rfl rfl fun w h => ?_) | (refine h.std rfl rfl fun w h => ?_)))
    refine law05_thread_spec h fun w h => ?_
    have ep : putN [2, 2] H (n, i) thr = (50, H) := by unfold putN; rw [if_pos ht]
    have em1 : moveN [2, 2] H (n, i) (0, 0) = (50, H) := by unfold moveN; rw [if_pos (.inl ht)]
    have em2 : moveN [2, 2] H (0, 0) (n, i) = (50, H) := by unfold moveN; rw [if_pos (.inr ht)]
    have es : swapN [2, 2] H (0, 0) (n, i) = (50, H) := by unfold swapN; rw [if_pos (.inr ht)]
    (repeat (first | (refine h.al fun w h => ?_) | (refine h.dr fun w h => ?_) | (refine h.lc_2 rfl ?_) | (refine h.lc_6 rfl ?_) | (refine ⟨_, h.ldc rfl, ?_⟩) | (refine ⟨_, h.ldd rfl, ?_⟩) | (refine h.hd rfl ?_) | (refine ⟨h.ldc rfl, ?_⟩) | (refine ⟨h.ldd rfl, ?_⟩) | (refine h.stLc rfl rfl fun w h => ?_) | (refine exs ?_) | (refine _root_.Go.Vc.a2 ?_) | (refine h.stc rfl rfl fun w h => ?_) | (refine h.std rfl rfl fun w h => ?_)))
    refine slots_Nodes_Put_spec (s := (n, i)) (c := thr) thrR h.up1 fun w h => ?_
    rw [ep] at h ⊢
    (repeat (first | (refine h.al fun w h => ?_) | (refine h.dr fun w h => ?_) | (refine h.lc_2 rfl ?_) | (refine h.lc_6 rfl ?_) | (refine ⟨_, h.ldc rfl, ?_⟩) | (refine ⟨_, h.ldd rfl, ?_⟩) | (refine h.hd rfl ?_) | (refine ⟨h.ldc rfl, ?_⟩) | (refine ⟨h.ldd rfl, ?_⟩) | (refine h.stLc rfl rfl fun w h => ?_) | (refine exs ?_) | (refine _root_.Go.Vc.a2 ?_) | (refine h.stc rfl rfl fun w h => ?_) | (refine h.std rfl rfl fun w h => ?_)))
    refine slots_Nodes_Move_spec (f := (n, i)) (t := (0, 0)) h fun w h => ?_
    rw [em1] at h ⊢
    (repeat (first | (refine h.al fun w h => ?_) | (refine h.dr fun w h => ?_) | (refine h.lc_2 rfl ?_) | (refine h.lc_6 rfl ?_) | (refine ⟨_, h.ldc rfl, ?_⟩) | (refine ⟨_, h.ldd rfl, ?_⟩) | (refine h.hd rfl ?_) | (refine ⟨h.ldc rfl, ?_⟩) | (refine ⟨h.ldd rfl, ?_⟩) | (refine h.stLc rfl rfl fun w h => ?_) | (refine exs ?_) | (refine _root_.Go.Vc.a2 ?_) | (refine h.stc rfl rfl fun w h => ?_) | (refine h.std rfl rfl fun w h => ?_)))
    refine slots_Nodes_Move_spec (f := (0, 0)) (t := (n, i)) h fun w h => ?_
    rw [em2] at h ⊢
    (repeat (first | (refine h.al fun w h => ?_) | (refine h.dr fun w h => ?_) | (refine h.lc_2 rfl ?_) | (refine h.lc_6 rfl ?_) | (refine ⟨_, h.ldc rfl, ?_⟩) | (refine ⟨_, h.ldd rfl, ?_⟩) | (refine h.hd rfl ?_) | (refine ⟨h.ldc rfl, ?_⟩) | (refine ⟨h.ldd rfl, ?_⟩) | (refine h.stLc rfl rfl fun w h => ?_) | (refine exs ?_) | (refine _root_.Go.Vc.a2 ?_) | (refine h.stc rfl rfl fun w h => ?_) | (refine h.std rfl rfl fun w h => ?_)))
    refine slots_Nodes_Swap_spec (a := (0, 0)) (c := (n, i)) h fun w h => ?_
    rw [es] at h ⊢
    (repeat (first | (refine h.al fun w h => ?_) | (refine h.dr fun w h => ?_) | (refine h.lc_2 rfl ?_) | (refine h.lc_6 rfl ?_) | (refine ⟨_, h.ldc rfl, ?_⟩) | (refine ⟨_, h.ldd rfl, ?_⟩) | (refine h.hd rfl ?_) | (refine ⟨h.ldc rfl, ?_⟩) | (refine ⟨h.ldd rfl, ?_⟩) | (refine h.stLc rfl rfl fun w h => ?_) | (refine exs ?_) | (refine _root_.Go.Vc.a2 ?_) | (refine h.stc rfl rfl fun w h => ?_) | (refine h.std rfl rfl fun w h => ?_)))
    refine ⟨_, capEq zeroCap zeroCap, ?_⟩
    refine cbT (by simp) ?_
    refine cbT rfl (cbT rfl (cbT rfl (cbT rfl (cbT rfl (cbT rfl ?_)))))
    refine slots_Nodes_Held_spec h fun s2 hs2 w hh2 h => ?_
    have e := hh2.uniq hh
    subst e
    refine ref05_Same_spec h (Rd.own (h.lenc s2)) (Rd.own (h.lenc s)) (by omega) fun w h => ?_
    refine cbT (by simp) ?_
    refine slots_New_spec h fun b2 w h => ?_
    refine cbT rfl ?_
    exact law05_fixed_spec h fun w h => hK _ h.sub
  obtain ⟨p1, hp1, e1⟩ := andle r2 65535 (by decide)
  obtain ⟨p2, hp2, e2⟩ := andle r1 65535 (by decide)
  have e1 : andI .i64 r2 65535 = (p1 : Int) := e1
  have e2 : andI .i64 r1 65535 = (p2 : Int) := e2
  refine cdec (fun e => ?_) (fun e => ?_)
  · (repeat (first | (refine h.al fun w h => ?_) | (refine h.dr fun w h => ?_) | (refine h.lc_2 rfl ?_) | (refine h.lc_6 rfl ?_) | (refine ⟨_, h.ldc rfl, ?_⟩) | (refine ⟨_, h.ldd rfl, ?_⟩) | (refine h.hd rfl ?_) | (refine ⟨h.ldc rfl, ?_⟩) | (refine ⟨h.ldd rfl, ?_⟩) | (refine h.stLc rfl rfl fun w h => ?_) | (refine exs ?_) | (refine _root_.Go.Vc.a2 ?_) | (refine h.stc rfl rfl fun w h => ?_) | (refine h.std rfl rfl fun w h => ?_)))
    (dsimp only [putAt, List.set_cons_zero, List.set_cons_succ] at h)
    refine main _ _ _ (not_there22 (.inr (.inl ?_))) h
    rw [e2, wr (by omega) (by omega)]; omega
  · refine main _ _ _ (not_there22 (.inr (.inr (.inr ?_)))) h
    show 4 ≤ IntKind.i64.wrap _
    rw [e1, wr (by omega) (by omega)]; omega
end
end Go.Proofs.Ytdlcejjiccknlaa
