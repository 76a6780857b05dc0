/- Addresses: what the program's lookup comes to. -/
import Derived.Test.YtdlcejjiccknlaaSL5
import Derived.Test.YtdlcejjiccknlaaS2
import Derived.Test.YtdlcejjiccknlaaS6
set_option linter.unusedVariables false
set_option linter.unusedSimpArgs false
set_option maxRecDepth 8000
namespace Go.Proofs.Ytdlcejjiccknlaa
open Go Go.Vc Go.Proofs

/-- A node's bits, of a capability. -/
def nodeN (bits : List Int) (c : Cap) : Option Int := if c.kind ≠ 2 then none else if capErr c ≠ 0 then none else sizeN bits c.obj
/-- One step: what is wrong, the slot, what is left. -/
def stepN (bits : List Int) (addr : Nat) (c : Cap) (left : Nat) : Int × Slot × Nat :=
  match nodeN bits c with
  | none => (60, (0, 0), left)
  | some z =>
    if left < c.bits.toNat then (61, (0, 0), left)
    else if ((addr / 2 ^ (left - c.bits.toNat) % 2 ^ c.bits.toNat : Nat) : Int) ≠ c.guard then (61, (0, 0), left)
    else if left - c.bits.toNat < z.toNat then (62, (0, 0), left)
    else (0, (c.obj, ((addr / 2 ^ (left - c.bits.toNat - z.toNat) % 2 ^ z.toNat : Nat) : Int)), left - c.bits.toNat - z.toNat)
def slotN (bits : List Int) (H : Hs) (addr : Nat) : Nat → Cap → Nat → Slot × Int
  | 0, _, _ => ((0, 0), 62)
  | f + 1, c, left =>
    if (stepN bits addr c left).1 ≠ 0 then ((0, 0), (stepN bits addr c left).1)
    else if (stepN bits addr c left).2.2 = 0 then ((stepN bits addr c left).2.1, 0)
    else if ((H (stepN bits addr c left).2.1).getD zeroCap).kind ≠ 2 then ((0, 0), 62)
    else slotN bits H addr f ((H (stepN bits addr c left).2.1).getD zeroCap) (stepN bits addr c left).2.2
def slotT (bits : List Int) (H : Hs) (root : Cap) (addr : Nat) (depth : Int) : Slot × Int :=
  if depth < 1 ∨ 64 < depth then ((0, 0), 1) else slotN bits H addr depth.toNat root depth.toNat

theorem nodeN_some {bits : List Int} {c : Cap} {z : Int} (h : nodeN bits c = some z) : c.kind = 2 ∧ capErr c = 0 ∧ sizeN bits c.obj = some z := by
  unfold nodeN at h
  split at h
  · cases h
  · split at h
    · cases h
    · exact ⟨by omega, by omega, h⟩
theorem node_guard {c : Cap} (h1 : c.kind = 2) (h2 : capErr c = 0) : 0 ≤ c.bits ∧ c.bits ≤ 64 ∧ c.guard < 2 ^ c.bits.toNat := by
  unfold capErr at h2
  split at h2
  · rename_i e; rw [e] at h1; cases h1
  · split at h2
    · cases h2
    · rename_i e
      unfold capBad at e
      simp only [Bool.or_eq_true, not_or, Bool.not_eq_true, Bool.not_eq_false', Bool.and_eq_true] at e
      have := e.1.1.1.2
      unfold guardB at this
      simpa using this

section
variable {B : Nat} {w0 w : World} {R L : List Asn} {b rb : Nat} {bits : List Int} {H : Hs}
theorem words_there_spec {a n : Nat} {K : Bool → World → Prop} (ha : a + n ≤ 64) (h : K true w) : C.words_there (a : Int) (n : Int) K w := by
  apply S.words_there_ok
  unfold S.words_there
  refine cdecT (by omega) (cdecT (by omega) (cdecT (by omega) ?_))
  rw [wr (by omega) (by omega), decide_eq_true (by omega)]
  exact h
theorem words_Field_spec {v a n : Nat} {K : Int → Int → World → Prop} (hv : v < 2 ^ 64) (hn : a + n ≤ 64) (h : Own B w0 w L) (hK : ∀ w', Own B w0 w' L → K ((v / 2 ^ a % 2 ^ n : Nat) : Int) 0 w') : C.words_Field (v : Int) (a : Int) (n : Int) K w := by
  apply S.words_Field_ok
  unfold S.words_Field
  refine words_there_spec hn ?_
  refine cbF rfl ?_
  (repeat (first | (refine h.al fun w h => ?_) | (refine h.dr fun w h => ?_) | (refine h.lc_2 rfl ?_) | (refine h.lc_6 rfl ?_) | (refine ⟨_, h.ldc rfl, ?_⟩) | (refine ⟨_, h.ldd rfl, ?_⟩) | (refine h.hd rfl ?_) | (refine ⟨h.ldc rfl, ?_⟩) | (refine ⟨h.ldd rfl, ?_⟩) | (refine h.stLc rfl rfl fun w h => ?_) | (refine exs ?_) | (refine _root_.Go.Vc.a2 ?_) | (refine h.stc rfl rfl fun w h => ?_) | (refine h.std rfl rfl fun w h => ?_)))
  refine ⟨by omega, a2 ?_⟩
  refine words_low_spec (by omega) ?_
  rw [shr_nat v a (by omega), and_low _ n (Nat.lt_of_le_of_lt (Nat.div_le_self _ _) hv) (by omega)]
  exact hK _ h

theorem lookup_next_spec {addr left n : Nat} {K : Int → Bool → World → Prop} (ha : addr < 2 ^ 64) (hl : left ≤ 64) (h : Own B w0 w (BlkA rb [.int .u64 (addr : Int), .int .i64 (left : Int)] :: R)) (hn : n ≤ 64)
    (h1 : left < n → ∀ w', Own B w0 w' (BlkA rb [.int .u64 (addr : Int), .int .i64 (left : Int)] :: R) → K 0 false w')
    (h2 : n ≤ left → ∀ w', Own B w0 w' (BlkA rb [.int .u64 (addr : Int), .int .i64 ((left - n : Nat) : Int)] :: R) → K ((addr / 2 ^ (left - n) % 2 ^ n : Nat) : Int) true w') :
    C.lookup_reader_next (some ⟨rb, 0, none⟩) (n : Int) K w := by
  apply S.lookup_reader_next_ok
  unfold S.lookup_reader_next
  (repeat (first | (refine h.al fun w h => ?_) | (refine h.dr fun w h => ?_) | (refine h.lc_2 rfl ?_) | (refine h.lc_6 rfl ?_) | (refine ⟨_, h.ldc rfl, ?_⟩) | (refine ⟨_, h.ldd rfl, ?_⟩) | (refine h.hd rfl ?_) | (refine ⟨h.ldc rfl, ?_⟩) | (refine ⟨h.ldd rfl, ?_⟩) | (refine h.stLc rfl rfl fun w h => ?_) | (refine exs ?_) | (refine _root_.Go.Vc.a2 ?_) | (refine h.stc rfl rfl fun w h => ?_) | (refine h.std rfl rfl fun w h => ?_)))
  refine cdec (fun e => h1 (by omega) _ h) (fun e => ?_)
  have e2 : IntKind.i64.wrap ((left : Int) - (n : Int)) = ((left - n : Nat) : Int) := by rw [wr (by omega) (by omega)]; omega
  (repeat (first | (refine h.al fun w h => ?_) | (refine h.dr fun w h => ?_) | (refine h.lc_2 rfl ?_) | (refine h.lc_6 rfl ?_) | (refine ⟨_, h.ldc rfl, ?_⟩) | (refine ⟨_, h.ldd rfl, ?_⟩) | (refine h.hd rfl ?_) | (refine ⟨h.ldc rfl, ?_⟩) | (refine ⟨h.ldd rfl, ?_⟩) | (refine h.stLc rfl rfl fun w h => ?_) | (refine exs ?_) | (refine _root_.Go.Vc.a2 ?_) | (refine h.stc rfl rfl fun w h => ?_) | (refine h.std rfl rfl fun w h => ?_)))
  rw [e2] at h ⊢
  refine words_Field_spec ha (by omega) h fun w h => ?_
  exact h2 (by omega) _ h

theorem lookup_node_spec {c : Cap} {K : Int → Bool → World → Prop} (hc : CapR c) (h : Own B w0 w L) (i : Nat) (hi : L[i]? = some (NodesA b bits H)) (hK : ∀ w', Own B w0 w' L → K ((nodeN bits c).getD 0) (nodeN bits c).isSome w') : C.lookup_node (some ⟨b, 0, none⟩) c.kind c.obj c.rights c.badge c.guard c.bits K w := by
  apply S.lookup_node_ok
  unfold S.lookup_node
  unfold nodeN at hK
  refine h.al fun w1 h => ?_
  have h : Own B w0 w1 (BlkA w.heap.size c.cells :: L) := h
  intro k hk
  (repeat (first | (refine h.al fun w h => ?_) | (refine h.dr fun w h => ?_) | (refine h.lc_2 rfl ?_) | (refine h.lc_6 rfl ?_) | (refine ⟨_, h.ldc rfl, ?_⟩) | (refine ⟨_, h.ldd rfl, ?_⟩) | (refine h.hd rfl ?_) | (refine ⟨h.ldc rfl, ?_⟩) | (refine ⟨h.ldd rfl, ?_⟩) | (refine h.stLc rfl rfl fun w h => ?_) | (refine exs ?_) | (refine _root_.Go.Vc.a2 ?_) | (refine h.stc rfl rfl fun w h => ?_) | (refine h.std rfl rfl fun w h => ?_)))
  refine cne (fun e => ?_) (fun e => ?_)
  · apply hk
    rw [if_pos e] at hK
    exact hK _ h.drop
  · rw [if_neg (by omega)] at hK
    (repeat (first | (refine h.al fun w h => ?_) | (refine h.dr fun w h => ?_) | (refine h.lc_2 rfl ?_) | (refine h.lc_6 rfl ?_) | (refine ⟨_, h.ldc rfl, ?_⟩) | (refine ⟨_, h.ldd rfl, ?_⟩) | (refine h.hd rfl ?_) | (refine ⟨h.ldc rfl, ?_⟩) | (refine ⟨h.ldd rfl, ?_⟩) | (refine h.stLc rfl rfl fun w h => ?_) | (refine exs ?_) | (refine _root_.Go.Vc.a2 ?_) | (refine h.stc rfl rfl fun w h => ?_) | (refine h.std rfl rfl fun w h => ?_)))
    refine caps_Check_spec h hc fun w h => ?_
    apply hk
    refine cne (fun e => ?_) (fun e => ?_)
    · rw [if_pos e] at hK
      exact hK _ h.drop
    · rw [if_neg (by omega)] at hK
      (repeat (first | (refine h.al fun w h => ?_) | (refine h.dr fun w h => ?_) | (refine h.lc_2 rfl ?_) | (refine h.lc_6 rfl ?_) | (refine ⟨_, h.ldc rfl, ?_⟩) | (refine ⟨_, h.ldd rfl, ?_⟩) | (refine h.hd rfl ?_) | (refine ⟨h.ldc rfl, ?_⟩) | (refine ⟨h.ldd rfl, ?_⟩) | (refine h.stLc rfl rfl fun w h => ?_) | (refine exs ?_) | (refine _root_.Go.Vc.a2 ?_) | (refine h.stc rfl rfl fun w h => ?_) | (refine h.std rfl rfl fun w h => ?_)))
      exact slots_Nodes_Size_spec h (i + 1) (by simpa using hi) (hK _ h.drop)
end
end Go.Proofs.Ytdlcejjiccknlaa
