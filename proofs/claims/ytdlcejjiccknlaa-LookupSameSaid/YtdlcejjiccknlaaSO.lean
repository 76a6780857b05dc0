/- The slots that are held, sorted: the order, the library's sort, in this engine's words. -/
import Derived.Test.YtdlcejjiccknlaaKK
import Derived.Test.YtdlcejjiccknlaaSH2
import Derived.Test.YtdlcejjiccknlaaB6
import Derived.Test.YtdlcejjiccknlaaS0
import Derived.Test.YtdlcejjiccknlaaS5
set_option linter.unusedVariables false
set_option linter.unusedSimpArgs false
set_option maxRecDepth 8000
namespace Go.Proofs.Ytdlcejjiccknlaa
open Go Go.Vc Go.Proofs Go.Shelf

/-- Of two numbers: -1, 0 or 1. -/
def cmpI (x y : Int) : Int := if x < y then -1 else if y < x then 1 else 0
/-- Of two slots. -/
def cmpS (a b : Slot) : Int := if cmpI a.1 b.1 ≠ 0 then cmpI a.1 b.1 else cmpI a.2 b.2
def ltS (a b : Slot) : Bool := decide (a.1 < b.1 ∨ (a.1 = b.1 ∧ a.2 < b.2))
theorem ltOf_cmpS (a b : Slot) : Go.Proofs.ltOf cmpS a b = ltS a b := by
  unfold Go.Proofs.ltOf ltS cmpS cmpI
  rw [decide_eq_decide]
  by_cases h1 : a.1 < b.1
  · simp [h1]
  · by_cases h2 : b.1 < a.1
    · simp [h1, h2]; omega
    · have : a.1 = b.1 := by omega
      simp [h1, h2, this]
      by_cases h3 : a.2 < b.2
      · simp [h3]
      · by_cases h4 : b.2 < a.2 <;> simp [h3, h4]
theorem swoS : Go.Sort.SWO (Go.Proofs.ltOf cmpS) where
  irrefl x := by rw [ltOf_cmpS]; simp [ltS]
  trans x y z h1 h2 := by rw [ltOf_cmpS] at *; simp only [ltS, decide_eq_true_eq] at *; omega
  ntrans x y z h1 h2 := by rw [ltOf_cmpS] at *; simp only [ltS, decide_eq_false_iff_not] at *; omega
theorem totS (x y : Slot) (h1 : Go.Proofs.ltOf cmpS x y = false) (h2 : Go.Proofs.ltOf cmpS y x = false) : x = y := by
  rw [ltOf_cmpS] at *
  simp only [ltS, decide_eq_false_iff_not] at *
  exact Prod.ext (by omega) (by omega)

theorem cmp_isNaN_spec {x : Int} {K : Bool → World → Prop} {w : World} (h : K false w) : C.cmp_isNaN_int x K w := by
  apply S.cmp_isNaN_int_ok
  unfold S.cmp_isNaN_int
  rw [show (x != x) = false from by simp]; exact h
theorem cmp_Compare_spec {x y : Int} {K : Int → World → Prop} {w : World} (h : K (cmpI x y) w) : C.cmp_Compare_int x y K w := by
  apply S.cmp_Compare_int_ok
  unfold S.cmp_Compare_int
  refine cmp_isNaN_spec (cmp_isNaN_spec ?_)
  refine cbF rfl (cbF rfl ?_)
  by_cases h1 : x < y
  · refine cdecT h1 ?_
    rwa [show cmpI x y = -1 from by unfold cmpI; rw [if_pos h1]] at h
  · refine cdecF h1 ?_
    by_cases h2 : x > y
    · refine cdecT h2 ?_
      rwa [show cmpI x y = 1 from by unfold cmpI; rw [if_neg h1, if_pos h2]] at h
    · refine cdecF h2 ?_
      rwa [show cmpI x y = 0 from by unfold cmpI; rw [if_neg h1, if_neg h2]] at h
theorem cmp_Or_spec {p : Nat} {x y : Int} {K : Int → World → Prop} {w : World} (h0 : w.cell? ⟨p, 0, none⟩ = some (.int .i64 x)) (h1 : w.cell? ⟨p, 1, none⟩ = some (.int .i64 y)) (h : K (if x ≠ 0 then x else y) w) : C.cmp_Or_int ⟨some ⟨p, 0, none⟩, 2, 2⟩ K w := by
  apply S.cmp_Or_int_ok
  unfold S.cmp_Or_int
  intro l2 hl2
  apply hl2
  refine cdecT (show (0 : Int) < ((2 : Nat) : Int) by decide) ?_
  refine ⟨_, rfl, (show (0 : Int) ≤ 0 by decide), (show (0 : Int) < ((2 : Nat) : Int) by decide), x, h0, ?_⟩
  by_cases e : x = 0
  · subst e
    refine cbF rfl ?_
    rw [show IntKind.i64.wrap ((0 : Int) + 1) = 1 from by decide]
    apply hl2
    refine cdecT (show (1 : Int) < ((2 : Nat) : Int) by decide) ?_
    refine ⟨_, rfl, (show (0 : Int) ≤ 1 by decide), (show (1 : Int) < ((2 : Nat) : Int) by decide), y, h1, ?_⟩
    rw [if_neg (by simp)] at h
    by_cases e2 : y = 0
    · subst e2
      refine cbF rfl ?_
      rw [show IntKind.i64.wrap ((1 : Int) + 1) = 2 from by decide]
      apply hl2
      refine cdecF (show ¬ (2 : Int) < ((2 : Nat) : Int) by decide) ?_
      exact h
    · exact cbT (by simpa using e2) h
  · rw [if_pos e] at h
    exact cbT (by simpa using e) h
theorem cell_of {w : World} {b : Nat} {l : List Value} {t : TypeId} (h : w.heap[b]? = some (.cells ⟨l⟩ t)) {o : Nat} {v : Value} (hv : l[o]? = some v) : w.cell? ⟨b, o, none⟩ = some v := by
  simp [World.cell?, h, hv]
/-- One slot against another: two blocks and one more are laid. -/
theorem order_grow (a b : Slot) (w : World) : C.slots_order a.1 a.2 b.1 b.2 (fun r w' => r = cmpS a b ∧ ∃ q os', w' = Go.Sort.grow (w.drewN q) os') w := by
  apply S.slots_order_ok
  unfold S.slots_order
  have hA : (((w.alloc (.cells #[.int .i64 a.1, .int .i64 a.2] 49)).alloc (.cells #[.int .i64 b.1, .int .i64 b.2] 49)).drew).heap[w.heap.size]? = some (.cells #[.int .i64 a.1, .int .i64 a.2] 49) :=
    (RowKit.Below.heap_alloc (w.alloc (.cells #[.int .i64 a.1, .int .i64 a.2] 49)) _ w.heap.size (by rw [World.size_alloc]; omega)).trans (World.alloc_heap_new w _)
  have hB : (((w.alloc (.cells #[.int .i64 a.1, .int .i64 a.2] 49)).alloc (.cells #[.int .i64 b.1, .int .i64 b.2] 49)).drew).heap[(w.alloc (.cells #[.int .i64 a.1, .int .i64 a.2] 49)).heap.size]? = some (.cells #[.int .i64 b.1, .int .i64 b.2] 49) := World.alloc_heap_new _ _
  refine ⟨a.1, cell_of hA rfl, b.1, cell_of hB rfl, a.2, cell_of (o := 0 + 1) hA rfl, b.2, cell_of (o := 0 + 1) hB rfl, ?_, trivial⟩
  refine cmp_Compare_spec ⟨cell_of (o := 0 + 1) hB rfl, cell_of (o := 0 + 1) hA rfl, ?_, trivial⟩
  refine cmp_Compare_spec ⟨⟨?_, trivial⟩, trivial⟩
  refine cmp_Or_spec (x := cmpI a.1 b.1) (y := cmpI a.2 b.2) (cell_of (World.alloc_heap_new _ _) rfl) (cell_of (World.alloc_heap_new _ _) rfl) ⟨rfl, 1, #[.cells #[.int .i64 a.1, .int .i64 a.2] 49, .cells #[.int .i64 b.1, .int .i64 b.2] 49, .cells #[.int .i64 (cmpI a.1 b.1), .int .i64 (cmpI a.2 b.2)] 3], ?_⟩
  show World.mk _ _ _ _ _ = World.mk _ _ _ _ _
  congr 1
theorem cmpLays (blk off size : Nat) (w : World) : CmpLays Try.prog 63 #[] pairC 2 cmpS blk off size w := fun m os dk _ x y =>
  (okF_out (order_grow x y _)).mono fun e w' ⟨r, he, hr, hw⟩ => ⟨by rw [he, hr], hw⟩
end Go.Proofs.Ytdlcejjiccknlaa
