/- Nodes of slots, more: made, read, put into, taken out of, moved, swapped, dropped. -/
import Derived.Test.YtdlcejjiccknlaaSL
import Derived.Test.YtdlcejjiccknlaaS5
set_option linter.unusedVariables false
set_option linter.unusedSimpArgs false
set_option maxRecDepth 8000
namespace Go.Proofs.Ytdlcejjiccknlaa
open Go Go.Vc Go.Proofs

theorem app1_intsV {B : Nat} {w0 w : World} {L : List Asn} {s : Sl} {xs : List Int} {y : Int} {c : Nat} {k : Sl → World → Prop} (h : Own B w0 w (BlkA c [.int .i64 y] :: L)) (i : Nat) (hL : L[i]? = some (SlT intE s xs))
    (hbig : xs.length ≤ 1000000000000) (hk : ∀ s' w', s'.len = xs.length + 1 → Own B w0 w' (L.set i (SlT intE s' (xs ++ [y]))) → k s' w') :
    ∃ s' w', AppR Try.prog [32, 32] 32 (.slice s.a s.len s.cap) (.slice (some (Addr.mk c 0 none)) 1 1) w s' w' ∧ k s' w' :=
  Own.app1 (E := intE) (y := y) Try.underlying32 (show Try.prog.info? 3 = some Try.t3 from by kernel_rfl) (zv := .int .i64 0) (by kernel_rfl) (by kernel_rfl) rfl (by decide) h i hL (by
    have e : Try.t3.bytes = 8 := by kernel_rfl
    rw [e]; omega) hk

/-- A node more. -/
def makeN (bits : List Int) (z : Int) : Int × Int × List Int := if z < 1 ∨ 8 < z then (0, 1, bits) else if 64 ≤ bits.length then (0, 2, bits) else ((bits.length : Int), 0, bits ++ [z])
theorem sizeN_append {bits : List Int} {n z y : Int} (h : sizeN bits n = some z) : sizeN (bits ++ [y]) n = some z := by
  obtain ⟨h1, h2, h3⟩ := sizeN_some h
  unfold sizeN
  rw [if_neg (by omega), List.getElem?_append_left (List.getElem?_eq_some_iff.1 h2).1, h2]
  simp [h3]
theorem there_append {bits : List Int} {s : Slot} {y : Int} (h : thereB bits s = true) : thereB (bits ++ [y]) s = true := by
  unfold thereB at h ⊢
  cases hz : sizeN bits s.1 with
  | none => rw [hz] at h; cases h
  | some z => rw [hz] at h; rw [sizeN_append hz]; exact h
theorem NOk.make {bits : List Int} {H : Hs} (h : NOk bits H) {z : Int} (h1 : 1 ≤ z) (h2 : z ≤ 8) (hf : bits.length < 64) : NOk (bits ++ [z]) H := by
  refine ⟨by simp; omega, fun y hy => ?_, fun s c hs => ?_⟩
  · rcases List.mem_append.1 hy with hy | hy
    · exact h.rng y hy
    · simp only [List.mem_singleton] at hy; subst hy; exact .inr ⟨h1, h2⟩
  · obtain ⟨g1, g2⟩ := h.held s c hs
    exact ⟨there_append g1, g2⟩

section
variable {B : Nat} {w0 w : World} {R L : List Asn} {b : Nat} {bits : List Int} {H : Hs}
theorem slots_Nodes_Make_spec {z : Int} {K : Int → Int → World → Prop} (h : Own B w0 w (NodesA b bits H :: R)) (hK : ∀ w', Own B w0 w' (NodesA b (makeN bits z).2.2 H :: R) → K (makeN bits z).1 (makeN bits z).2.1 w') : C.slots_Nodes_Make (some ⟨b, 0, none⟩) z K w := by
  apply S.slots_Nodes_Make_ok
  unfold S.slots_Nodes_Make
  intro k3 hk3
  by_cases h0 : z < 1
  · rw [show decide (z < 1) = true from by simpa using h0, cond_true]
    apply hk3
    rw [cond_true]
    have e : makeN bits z = (0, 1, bits) := by unfold makeN; rw [if_pos (.inl h0)]
    rw [e] at hK; exact hK w h
  rw [show decide (z < 1) = false from by simpa using h0, cond_false]
  apply hk3
  by_cases h1 : 8 < z
  · rw [show decide (z > 8) = true from by simpa using h1, cond_true]
    have e : makeN bits z = (0, 1, bits) := by unfold makeN; rw [if_pos (.inr h1)]
    rw [e] at hK; exact hK w h
  rw [show decide (z > 8) = false from by simpa using h1, cond_false]
  obtain ⟨x, hk, hM, h⟩ := h.nodes
  have hlen := h.len 1 rfl
  have hfew := hk.few
  refine ⟨_, rfl, x.s, h.ld0 0 rfl rfl, ?_⟩
  by_cases h2 : 64 ≤ bits.length
  · rw [show decide ((x.s.len : Int) ≥ 64) = true from by simp; omega, cond_true]
    have e : makeN bits z = (0, 2, bits) := by unfold makeN; rw [if_neg (by omega), if_pos h2]
    rw [e] at hK; exact hK w (Own.mk_nodes hk hM h)
  · rw [show decide ((x.s.len : Int) ≥ 64) = false from by simp; omega, cond_false]
    have e : makeN bits z = ((bits.length : Int), 0, bits ++ [z]) := by unfold makeN; rw [if_neg (by omega), if_neg h2]
    rw [e] at hK
    refine ⟨_, rfl, x.s, h.ld0 0 rfl rfl, ?_⟩
    refine h.al fun w1 h => ?_
    refine app1_intsV h 1 rfl (by omega) fun s' w2 hs' h => ?_
    refine ⟨_, rfl, ?_⟩
    refine h.st 0 rfl rfl rfl fun w3 h => ?_
    refine ⟨_, rfl, s', h.ld0 0 rfl rfl, ?_⟩
    have e2 : IntKind.i64.wrap ((s'.len : Int) - 1) = (bits.length : Int) := by rw [wr (by omega) (by omega)]; omega
    rw [e2]
    exact hK w3 (Own.mk_nodes (s := s') (hk.make (by omega) (by omega) (by omega)) hM h)

theorem slots_Nodes_Get_spec {s : Slot} {K : Int → Int → Int → Int → Int → Int → Int → World → Prop} (h : Own B w0 w L) (i : Nat) (hi : L[i]? = some (NodesA b bits H))
    (h1 : thereB bits s = false → ∀ w', Own B w0 w' L → K 0 0 0 0 0 0 50 w')
    (h2 : thereB bits s = true → ∀ w' c, c = (H s).getD zeroCap → Own B w0 w' L → K c.kind c.obj c.rights c.badge c.guard c.bits 0 w') : C.slots_Nodes_Get (some ⟨b, 0, none⟩) s.1 s.2 K w := by
  apply S.slots_Nodes_Get_ok
  unfold S.slots_Nodes_Get
  refine h.al fun w1 h => ?_
  refine h.al fun w2 h => ?_
  refine h.ld_2 1 rfl rfl ?_
  refine slots_Nodes_there_spec h (i + 2) (by simpa using hi) fun w3 h => ?_
  cases ht : thereB bits s with
  | false =>
    rw [Bool.not_false, cond_true]
    refine h.stL 0 rfl rfl rfl fun w4 h => ?_
    refine h.ld_6 0 rfl rfl ?_
    exact h1 ht w4 h.drop.drop
  | true =>
    rw [Bool.not_true, cond_false]
    refine h.dr fun w4 h => ?_
    have hn : Own B w0 w4 (NodesA b bits H :: (BlkA w1.heap.size [.int .i64 0, .int .i64 0, .int .i64 0, .int .u64 0, .int .u64 0, .int .i64 0] :: BlkA w.heap.size [.int .i64 s.1, .int .i64 s.2] :: L).eraseIdx (i + 2)) := h.take (i + 2) (by simpa using hi)
    obtain ⟨x, hk, hM, hn⟩ := hn.nodes
    refine ⟨_, rfl, some x.m, hn.ld 0 rfl rfl, ?_⟩
    refine h.ld_2 1 rfl rfl ?_
    have hl : Lk1 Try.prog 82 (.map (some x.m)) (encPair s) (encCap ((H s).getD zeroCap)) w4 := by
      cases hs : H s with
      | none => exact (hn.mlook0 Try.underlying82 keySlot zeroCapV 2 rfl (by rw [hM, hs])).2
      | some c => exact (hn.mlook Try.underlying82 keySlot 2 rfl (by rw [hM, hs]; rfl)).2
    generalize hc : (H s).getD zeroCap = c at hl
    refine ⟨⟨c.kind, c.obj, c.rights, c.badge, c.guard, c.bits, hl, ?_, trivial⟩, trivial⟩
    refine h.stL 0 rfl rfl rfl fun w5 h => ?_
    refine h.ld_6 0 rfl rfl ?_
    exact h2 ht w5 c hc.symm h.drop.drop

/-- A look into the map, whose answer is laid in a block: in both orders. -/
theorem look2 {s : Slot} {m : Nat} {M : List (Slot × Cap)} {k : Addr → Bool → World → Prop} (h : Own B w0 w L) (i : Nat) (hi : L[i]? = some (slotsA m M)) (o : Option Cap) (ho : mget M s = o)
    (hk : ∀ w', Own B w0 w' (BlkA w.heap.size (o.getD zeroCap).cells :: L) → k ⟨w.heap.size, 0, none⟩ o.isSome w') :
    (∃ t52 : Int, ∃ t53 : Int, ∃ t54 : Int, ∃ t55 : Int, ∃ t56 : Int, ∃ t57 : Int, ∃ is58 : Bool, LkB Try.prog 82 (.map (some m)) (.agg #[.int .i64 s.1, .int .i64 s.2]) (.agg #[.int .i64 t52, .int .i64 t53, .int .i64 t54, .int .u64 t55, .int .u64 t56, .int .i64 t57]) is58 w ∧
   (Al w (.cells #[.int .i64 (0 : Int), .int .i64 (0 : Int), .int .i64 (0 : Int), .int .u64 (0 : Int), .int .u64 (0 : Int), .int .i64 (0 : Int)] 38) fun w59 =>
   (StL w59 (Addr.mk w.heap.size 0 none) 0 [.int .i64 t52, .int .i64 t53, .int .i64 t54, .int .u64 t55, .int .u64 t56, .int .i64 t57] fun w60 =>
   k (Addr.mk w.heap.size 0 none) is58 w60) ∧
   True) ∧
   True) ∧
   (Al w (.cells #[.int .i64 (0 : Int), .int .i64 (0 : Int), .int .i64 (0 : Int), .int .u64 (0 : Int), .int .u64 (0 : Int), .int .i64 (0 : Int)] 38) fun w61 =>
   (∃ t62 : Int, ∃ t63 : Int, ∃ t64 : Int, ∃ t65 : Int, ∃ t66 : Int, ∃ t67 : Int, ∃ is68 : Bool, LkB Try.prog 82 (.map (some m)) (.agg #[.int .i64 s.1, .int .i64 s.2]) (.agg #[.int .i64 t62, .int .i64 t63, .int .i64 t64, .int .u64 t65, .int .u64 t66, .int .i64 t67]) is68 w61 ∧
   (StL w61 (Addr.mk w.heap.size 0 none) 0 [.int .i64 t62, .int .i64 t63, .int .i64 t64, .int .u64 t65, .int .u64 t66, .int .i64 t67] fun w69 =>
   k (Addr.mk w.heap.size 0 none) is68 w69) ∧
   True) ∧
   True) ∧
   True := by
  have hl : ∀ (w' : World) (L' : List Asn) (j : Nat), Own B w0 w' L' → L'[j]? = some (slotsA m M) → LkB Try.prog 82 (.map (some m)) (encPair s) (encCap (o.getD zeroCap)) o.isSome w' := by
    intro w' L' j h hj
    cases o with
    | none => exact (h.mlook0 Try.underlying82 keySlot zeroCapV j hj ho).1
    | some c => exact (h.mlook Try.underlying82 keySlot j hj ho).1
  generalize hc : o.getD zeroCap = c at hl hk
  refine ⟨⟨c.kind, c.obj, c.rights, c.badge, c.guard, c.bits, o.isSome, hl w L i h hi, ?_, trivial⟩, ?_, trivial⟩
  · refine h.al fun w2 h => ⟨?_, trivial⟩
    refine h.stL 0 rfl rfl rfl fun w3 h => ?_
    exact hk w3 h
  · refine h.al fun w2 h => ⟨⟨c.kind, c.obj, c.rights, c.badge, c.guard, c.bits, o.isSome, hl w2 _ (i + 1) h (by simpa using hi), ?_, trivial⟩, trivial⟩
    refine h.stL 0 rfl rfl rfl fun w3 h => ?_
    exact hk w3 h
end
end Go.Proofs.Ytdlcejjiccknlaa
