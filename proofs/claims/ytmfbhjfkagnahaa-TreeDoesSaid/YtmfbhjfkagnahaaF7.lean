/- Calls of layer 7 whose answers the document fixes. -/
import Derived.Test.YtmfbhjfkagnahaaL7
import Derived.Test.YtmfbhjfkagnahaaS0
set_option linter.unusedVariables false
set_option linter.unusedSimpArgs false
set_option maxRecDepth 8000
namespace Go.Proofs.Ytmfbhjfkagnahaa
open Go Go.Vc Go.Proofs

def f7_1 : Tr := [((0, 1), 0)]
def f7_2 : Tr := [((0, 1), 0), ((0, 2), 1)]
def f7_3 : Tr := [((0, 1), 0), ((0, 3), 1), ((0, 2), 1)]
def f7_4 : Tr := [((0, 1), 0), ((0, 3), 1), ((0, 2), 1), ((0, 4), 2)]
def f7_5 : Tr := [((0, 1), 0), ((0, 3), 1), ((0, 4), 1)]
def f7_6 : Tr := [((0, 1), 0), ((0, 2), 1), ((0, 4), 1)]
section
variable {B : Nat} {w0 w : World} {R L : List Asn}
theorem law07_fixed_spec {K : Bool → World → Prop} (h : Own B w0 w R) (hK : ∀ w', Own B w0 w' R → K true w') : C.law07_fixed K w := by
  apply S.law07_fixed_ok
  unfold S.law07_fixed
  refine tree_New_spec h fun b w1 h => ?_
  refine cbF rfl ?_
  refine h.al fun w2 h => ?_
  generalize w1.heap.size = c1 at h ⊢
  refine h.al fun w3 h => ?_
  generalize w2.heap.size = c2 at h ⊢
  refine h.al fun w4 h => ?_
  generalize w3.heap.size = c3 at h ⊢
  refine h.al fun w5 h => ?_
  generalize w4.heap.size = c4 at h ⊢
  (repeat (first | (refine h.al fun w h => ?_) | (refine h.dr fun w h => ?_) | (refine h.lc_2 rfl ?_) | (refine h.lc_6 rfl ?_) | (refine ⟨_, h.ldc rfl, ?_⟩) | (refine ⟨_, h.ldd rfl, ?_⟩) | (refine h.hd rfl ?_) | (refine ⟨h.ldc rfl, ?_⟩) | (refine ⟨h.ldd rfl, ?_⟩) | (refine h.stLc rfl rfl fun w h => ?_) | (refine exs ?_) | (refine _root_.Go.Vc.a2 ?_) | (refine h.stc rfl rfl fun w h => ?_) | (refine h.std rfl rfl fun w h => ?_)))
  (dsimp only [putAt, List.set_cons_zero, List.set_cons_succ] at h)
  refine root_p (e := 0) (T' := f7_1) rfl (by decide) (h.pick (A := TreeA b [])) fun w h => ?_
  (repeat (first | (refine h.al fun w h => ?_) | (refine h.dr fun w h => ?_) | (refine h.lc_2 rfl ?_) | (refine h.lc_6 rfl ?_) | (refine ⟨_, h.ldc rfl, ?_⟩) | (refine ⟨_, h.ldd rfl, ?_⟩) | (refine h.hd rfl ?_) | (refine ⟨h.ldc rfl, ?_⟩) | (refine ⟨h.ldd rfl, ?_⟩) | (refine h.stLc rfl rfl fun w h => ?_) | (refine exs ?_) | (refine _root_.Go.Vc.a2 ?_) | (refine h.stc rfl rfl fun w h => ?_) | (refine h.std rfl rfl fun w h => ?_)))
  refine add_p (e := 0) (T' := f7_2) rfl (by decide) h fun w h => ?_
  (repeat (first | (refine h.al fun w h => ?_) | (refine h.dr fun w h => ?_) | (refine h.lc_2 rfl ?_) | (refine h.lc_6 rfl ?_) | (refine ⟨_, h.ldc rfl, ?_⟩) | (refine ⟨_, h.ldd rfl, ?_⟩) | (refine h.hd rfl ?_) | (refine ⟨h.ldc rfl, ?_⟩) | (refine ⟨h.ldd rfl, ?_⟩) | (refine h.stLc rfl rfl fun w h => ?_) | (refine exs ?_) | (refine _root_.Go.Vc.a2 ?_) | (refine h.stc rfl rfl fun w h => ?_) | (refine h.std rfl rfl fun w h => ?_)))
  refine add_p (e := 0) (T' := f7_3) rfl (by decide) h fun w h => ?_
  (repeat (first | (refine h.al fun w h => ?_) | (refine h.dr fun w h => ?_) | (refine h.lc_2 rfl ?_) | (refine h.lc_6 rfl ?_) | (refine ⟨_, h.ldc rfl, ?_⟩) | (refine ⟨_, h.ldd rfl, ?_⟩) | (refine h.hd rfl ?_) | (refine ⟨h.ldc rfl, ?_⟩) | (refine ⟨h.ldd rfl, ?_⟩) | (refine h.stLc rfl rfl fun w h => ?_) | (refine exs ?_) | (refine _root_.Go.Vc.a2 ?_) | (refine h.stc rfl rfl fun w h => ?_) | (refine h.std rfl rfl fun w h => ?_)))
  refine add_p (e := 0) (T' := f7_4) rfl (by decide) h fun w h => ?_
  (repeat (first | (refine h.al fun w h => ?_) | (refine h.dr fun w h => ?_) | (refine h.lc_2 rfl ?_) | (refine h.lc_6 rfl ?_) | (refine ⟨_, h.ldc rfl, ?_⟩) | (refine ⟨_, h.ldd rfl, ?_⟩) | (refine h.hd rfl ?_) | (refine ⟨h.ldc rfl, ?_⟩) | (refine ⟨h.ldd rfl, ?_⟩) | (refine h.stLc rfl rfl fun w h => ?_) | (refine exs ?_) | (refine _root_.Go.Vc.a2 ?_) | (refine h.stc rfl rfl fun w h => ?_) | (refine h.std rfl rfl fun w h => ?_)))
  refine add_p (e := 71) (T' := f7_4) rfl (by decide) h fun w h => ?_
  (repeat (first | (refine h.al fun w h => ?_) | (refine h.dr fun w h => ?_) | (refine h.lc_2 rfl ?_) | (refine h.lc_6 rfl ?_) | (refine ⟨_, h.ldc rfl, ?_⟩) | (refine ⟨_, h.ldd rfl, ?_⟩) | (refine h.hd rfl ?_) | (refine ⟨h.ldc rfl, ?_⟩) | (refine ⟨h.ldd rfl, ?_⟩) | (refine h.stLc rfl rfl fun w h => ?_) | (refine exs ?_) | (refine _root_.Go.Vc.a2 ?_) | (refine h.stc rfl rfl fun w h => ?_) | (refine h.std rfl rfl fun w h => ?_)))
  refine add_p (e := 70) (T' := f7_4) rfl (by decide) h fun w h => ?_
  intro k hk
  have fin : ∀ w, Own B w0 w (TreeA b f7_4 :: BlkA c4 [.int .i64 0, .int .i64 4] :: BlkA c3 [.int .i64 0, .int .i64 3] :: BlkA c2 [.int .i64 0, .int .i64 2] :: BlkA c1 [.int .i64 0, .int .i64 1] :: R) → k false w := fun w h => by
    apply hk
    refine cbF rfl ?_
    (repeat (first | (refine h.al fun w h => ?_) | (refine h.dr fun w h => ?_) | (refine h.lc_2 rfl ?_) | (refine h.lc_6 rfl ?_) | (refine ⟨_, h.ldc rfl, ?_⟩) | (refine ⟨_, h.ldd rfl, ?_⟩) | (refine h.hd rfl ?_) | (refine ⟨h.ldc rfl, ?_⟩) | (refine ⟨h.ldd rfl, ?_⟩) | (refine h.stLc rfl rfl fun w h => ?_) | (refine exs ?_) | (refine _root_.Go.Vc.a2 ?_) | (refine h.stc rfl rfl fun w h => ?_) | (refine h.std rfl rfl fun w h => ?_)))
    refine take_p (e := 0) (T' := f7_5) rfl h fun w h => ?_
    (repeat (first | (refine h.al fun w h => ?_) | (refine h.dr fun w h => ?_) | (refine h.lc_2 rfl ?_) | (refine h.lc_6 rfl ?_) | (refine ⟨_, h.ldc rfl, ?_⟩) | (refine ⟨_, h.ldd rfl, ?_⟩) | (refine h.hd rfl ?_) | (refine ⟨h.ldc rfl, ?_⟩) | (refine ⟨h.ldd rfl, ?_⟩) | (refine h.stLc rfl rfl fun w h => ?_) | (refine exs ?_) | (refine _root_.Go.Vc.a2 ?_) | (refine h.stc rfl rfl fun w h => ?_) | (refine h.std rfl rfl fun w h => ?_)))
    refine parent_p (p1 := 0) (p2 := 1) (is := true) rfl h fun w h => ?_
    (repeat (first | (refine h.al fun w h => ?_) | (refine h.dr fun w h => ?_) | (refine h.lc_2 rfl ?_) | (refine h.lc_6 rfl ?_) | (refine ⟨_, h.ldc rfl, ?_⟩) | (refine ⟨_, h.ldd rfl, ?_⟩) | (refine h.hd rfl ?_) | (refine ⟨h.ldc rfl, ?_⟩) | (refine ⟨h.ldd rfl, ?_⟩) | (refine h.stLc rfl rfl fun w h => ?_) | (refine exs ?_) | (refine _root_.Go.Vc.a2 ?_) | (refine h.stc rfl rfl fun w h => ?_) | (refine h.std rfl rfl fun w h => ?_)))
    refine parent_p (p1 := 0) (p2 := 0) (is := false) rfl (h.pick (A := TreeA b f7_5)) fun w h => ?_
    (repeat (first | (refine h.al fun w h => ?_) | (refine h.dr fun w h => ?_) | (refine h.lc_2 rfl ?_) | (refine h.lc_6 rfl ?_) | (refine ⟨_, h.ldc rfl, ?_⟩) | (refine ⟨_, h.ldd rfl, ?_⟩) | (refine h.hd rfl ?_) | (refine ⟨h.ldc rfl, ?_⟩) | (refine ⟨h.ldd rfl, ?_⟩) | (refine h.stLc rfl rfl fun w h => ?_) | (refine exs ?_) | (refine _root_.Go.Vc.a2 ?_) | (refine h.stc rfl rfl fun w h => ?_) | (refine h.std rfl rfl fun w h => ?_)))
    refine ⟨_, slotEq (0, 1) (0, 1), ?_⟩
    refine cbT rfl (cbT rfl (cbT rfl ?_))
    (repeat' (first | exact trivial | (refine under_p (l := [(0, 3), (0, 4)]) rfl (h.pick (A := TreeA b f7_5)) fun s' w h => ?_) | (refine same_p h rfl rfl (by decide) rfl fun w h => ?_) | (refine cbT rfl ?_) | (refine take_p (e := 71) (T' := f7_5) rfl (h.pick (A := TreeA b f7_5)) fun w h => ?_) | (refine move_p (e := 70) (T' := f7_5) rfl (h.pick (A := TreeA b f7_5)) fun w h => ?_) | (refine move_p (e := 0) (T' := f7_6) rfl (h.pick (A := TreeA b f7_5)) fun w h => ?_) | (exact hK _ h.sub) | (refine h.al fun w h => ?_) | (refine h.dr fun w h => ?_) | (refine h.lc_2 rfl ?_) | (refine h.lc_6 rfl ?_) | (refine ⟨_, h.ldc rfl, ?_⟩) | (refine ⟨_, h.ldd rfl, ?_⟩) | (refine h.hd rfl ?_) | (refine ⟨h.ldc rfl, ?_⟩) | (refine ⟨h.ldd rfl, ?_⟩) | (refine h.stLc rfl rfl fun w h => ?_) | (refine exs ?_) | (refine _root_.Go.Vc.a2 ?_) | (refine h.stc rfl rfl fun w h => ?_) | (refine h.std rfl rfl fun w h => ?_) | (refine And.intro ?_ ?_)))
  (repeat' (first | exact trivial | (refine tree_All_spec (h.pick (A := TreeA b f7_4)) fun s' w h => ?_) | (refine under_p (l := [(0, 4)]) rfl (h.pick (A := TreeA b f7_4)) fun s' w h => ?_) | (refine same_p h rfl rfl (by decide) rfl fun w h => ?_) | (refine cbF rfl ?_) | (exact fin _ h.sub) | (refine h.al fun w h => ?_) | (refine h.dr fun w h => ?_) | (refine h.lc_2 rfl ?_) | (refine h.lc_6 rfl ?_) | (refine ⟨_, h.ldc rfl, ?_⟩) | (refine ⟨_, h.ldd rfl, ?_⟩) | (refine h.hd rfl ?_) | (refine ⟨h.ldc rfl, ?_⟩) | (refine ⟨h.ldd rfl, ?_⟩) | (refine h.stLc rfl rfl fun w h => ?_) | (refine exs ?_) | (refine _root_.Go.Vc.a2 ?_) | (refine h.stc rfl rfl fun w h => ?_) | (refine h.std rfl rfl fun w h => ?_) | (refine And.intro ?_ ?_)))
end
end Go.Proofs.Ytmfbhjfkagnahaa
