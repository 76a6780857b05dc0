/- The calls of layer 5 whose answers the document fixes. -/
import Derived.Test.YtdlcejjiccknlaaSL5
import Derived.Test.YtdlcejjiccknlaaS0
set_option linter.unusedVariables false
set_option linter.unusedSimpArgs false
set_option maxRecDepth 8000
namespace Go.Proofs.Ytdlcejjiccknlaa
open Go Go.Vc Go.Proofs

def thr : Cap := ⟨3, 1, 7, 0, 0, 0⟩
theorem thrR : CapR thr := ⟨by decide, by decide, by decide, by decide⟩
def fH0 : Hs := fun _ => none
def fH1 : Hs := updH fH0 (0, 1) (some thr)
def fH2 : Hs := updH (updH fH1 (0, 1) none) (0, 0) (some thr)
def fH3 : Hs := updH (updH fH2 (0, 1) (fH2 (0, 0))) (0, 0) (fH2 (0, 1))
def fH4 : Hs := updH fH3 (0, 1) none
theorem not_busy4 : ¬ busyN fH4 0 := by
  rintro ⟨i, c, h⟩
  have : fH4 (0, i) = none := by
    by_cases e1 : ((0 : Int), i) = (0, 1)
    · rw [e1]; kernel_rfl
    · by_cases e2 : ((0 : Int), i) = (0, 0)
      · rw [e2]; kernel_rfl
      · unfold fH4 updH
        rw [if_neg e1]
        unfold fH3 updH
        rw [if_neg e2, if_neg e1]
        unfold fH2 updH
        rw [if_neg e2, if_neg e1]
        unfold fH1 updH
        rw [if_neg e1]; rfl
  rw [this] at h; cases h
section
variable {B : Nat} {w0 w : World} {R L : List Asn}
theorem law05_thread_spec {K : Int → Int → Int → Int → Int → Int → World → Prop} (h : Own B w0 w R) (hK : ∀ w', Own B w0 w' R → K 3 1 7 0 0 0 w') : C.law05_thread K w := by
  apply S.law05_thread_ok
  unfold S.law05_thread
  refine h.al fun w1 h => ?_
  refine h.stL 0 rfl rfl rfl fun w2 h => ?_
  refine h.ld_6 0 rfl rfl ?_
  exact hK w2 h.drop
theorem law05_fixed_spec {K : Bool → World → Prop} (h : Own B w0 w R) (hK : ∀ w', Own B w0 w' R → K true w') : C.law05_fixed K w := by
  apply S.law05_fixed_ok
  unfold S.law05_fixed
  refine slots_New_spec h fun b w1 h => ?_
  rw [Option.isNone_some, cond_false]
  refine slots_Nodes_Make_spec h fun w2 h => ?_
  have h : Own B w0 w2 (NodesA b [1] fH0 :: R) := h
  refine h.al fun w3 h => ?_
  refine h.al fun w4 h => ?_
  refine h.stL 1 rfl rfl rfl fun w5 h => ?_
  refine h.stL 0 rfl rfl rfl fun w6 h => ?_
  have h : Own B w0 w6 (NodesA b [1] fH0 :: BlkA w3.heap.size [.int .i64 0, .int .i64 0] :: BlkA w2.heap.size [.int .i64 0, .int .i64 1] :: R) := h.take 2 rfl
  intro k10 hk10
  have main : ∀ w', Own B w0 w' (NodesA b [1] fH1 :: BlkA w3.heap.size [.int .i64 0, .int .i64 0] :: BlkA w2.heap.size [.int .i64 0, .int .i64 1] :: R) → k10 0 w' := by
    intro w7 h
    apply hk10
    refine h.ld_2 2 rfl rfl ?_
    refine h.ld_2 1 rfl rfl ?_
    refine slots_Nodes_Move_spec (f := (0, 1)) (t := (0, 0)) h fun w8 h => ?_
    rw [show moveN [1] fH1 (0, 1) (0, 0) = (0, fH2) from by kernel_rfl] at h ⊢
    refine h.ld_2 2 rfl rfl ?_
    refine slots_Nodes_Get_spec (s := (0, 1)) h 0 rfl (fun hn => by cases hn) fun _ w9 c hc h => ?_
    have hc : c = zeroCap := hc
    subst hc
    refine h.al fun w10 h => ?_
    refine h.stL 0 rfl rfl rfl fun w11 h => ?_
    refine h.ld_2 2 rfl rfl ?_
    refine slots_Nodes_Get_spec (s := (0, 0)) h 1 rfl (fun hn => by cases hn) fun _ w12 c hc h => ?_
    have hc : c = thr := hc
    subst hc
    refine h.al fun w13 h => ?_
    refine h.stL 0 rfl rfl rfl fun w14 h => ?_
    have h : Own B w0 w14 (NodesA b [1] fH2 :: BlkA w12.heap.size thr.cells :: BlkA w9.heap.size zeroCap.cells :: BlkA w3.heap.size [.int .i64 0, .int .i64 0] :: BlkA w2.heap.size [.int .i64 0, .int .i64 1] :: R) := h.take 2 rfl
    refine slots_Nodes_Drop_spec h (fun hn => by cases hn) (fun _ _ w15 h => ?_) (fun _ hn => absurd ⟨0, thr, by kernel_rfl⟩ hn)
    refine h.ld_2 4 rfl rfl ?_
    refine h.ld_2 3 rfl rfl ?_
    refine slots_Nodes_Swap_spec (a := (0, 1)) (c := (0, 0)) h fun w16 h => ?_
    rw [show swapN [1] fH2 (0, 1) (0, 0) = (0, fH3) from by kernel_rfl] at h ⊢
    refine h.ld_2 4 rfl rfl ?_
    refine slots_Nodes_Take_spec (s := (0, 1)) h (fun hn => by cases hn) (fun _ hn => by cases hn) (fun _ c hc w17 h => ?_)
    have hc : some thr = some c := hc
    cases hc
    refine h.al fun w18 h => ?_
    refine h.stL 0 rfl rfl rfl fun w19 h => ?_
    refine h.ld_2 5 rfl rfl ?_
    have h : Own B w0 w19 (NodesA b [1] fH4 :: BlkA w17.heap.size thr.cells :: BlkA w12.heap.size thr.cells :: BlkA w9.heap.size zeroCap.cells :: BlkA w3.heap.size [.int .i64 0, .int .i64 0] :: BlkA w2.heap.size [.int .i64 0, .int .i64 1] :: R) := h.perm (List.Perm.swap _ _ _)
    refine slots_Nodes_Take_spec (s := (0, 1)) h (fun hn => by cases hn) (fun _ _ w20 h => ?_) (fun _ c hc => by cases hc)
    refine h.al fun w21 h => ?_
    refine h.stL 0 rfl rfl rfl fun w22 h => ?_
    refine slots_Nodes_Drop_spec (h.perm (List.Perm.swap _ _ _)) (fun hn => by cases hn) (fun _ hb => absurd hb not_busy4) (fun _ _ w23 h => ?_)
    have h : Own B w0 w23 (NodesA b [-1] fH4 :: BlkA w20.heap.size zeroCap.cells :: BlkA w17.heap.size thr.cells :: BlkA w12.heap.size thr.cells :: BlkA w9.heap.size zeroCap.cells :: BlkA w3.heap.size [.int .i64 0, .int .i64 0] :: BlkA w2.heap.size [.int .i64 0, .int .i64 1] :: R) := h
    refine h.ld_2 5 rfl rfl ?_
    refine slots_Nodes_Get_spec (s := (0, 0)) h 0 rfl (fun _ w24 h => ?_) (fun hn => by cases hn)
    refine h.al fun w25 h => ?_
    refine h.stL 0 rfl rfl rfl fun w26 h => ?_
    refine slots_Nodes_Size_spec h 1 rfl ?_
    refine h.dr fun w27 h => ?_
    have h : Own B w0 w27 (BlkA w24.heap.size zeroCap.cells :: NodesA b [-1] fH4 :: BlkA w20.heap.size zeroCap.cells :: BlkA w17.heap.size thr.cells :: BlkA w12.heap.size thr.cells :: BlkA w9.heap.size zeroCap.cells :: BlkA w3.heap.size [.int .i64 0, .int .i64 0] :: BlkA w2.heap.size [.int .i64 0, .int .i64 1] :: R) := h
    have fin : ∀ w', Own B w0 w' (BlkA w24.heap.size zeroCap.cells :: NodesA b [-1] fH4 :: BlkA w20.heap.size zeroCap.cells :: BlkA w17.heap.size thr.cells :: BlkA w12.heap.size thr.cells :: BlkA w9.heap.size zeroCap.cells :: BlkA w3.heap.size [.int .i64 0, .int .i64 0] :: BlkA w2.heap.size [.int .i64 0, .int .i64 1] :: R) → K true w' := fun w' h =>
      hK w' h.drop.drop.drop.drop.drop.drop.drop.drop
    refine h.ld_6 5 rfl rfl ?_
    refine ⟨_, capEq zeroCap zeroCap, ?_⟩
    refine ⟨?_, ?_, trivial⟩
    · refine h.ld_6 4 rfl rfl ?_
      refine ⟨law05_thread_spec h fun w28 h => ?_, trivial⟩
      refine ⟨_, capEq thr thr, ?_⟩
      refine ⟨?_, ?_, trivial⟩
      · refine h.ld_6 3 rfl rfl ?_
        refine ⟨law05_thread_spec h fun w29 h => ?_, trivial⟩
        exact ⟨_, capEq thr thr, fin w29 h⟩
      · refine law05_thread_spec h fun w29 h => ?_
        refine h.ld_6 3 rfl rfl ?_
        exact ⟨_, capEq thr thr, fin w29 h⟩
    · refine law05_thread_spec h fun w28 h => ?_
      refine h.ld_6 4 rfl rfl ?_
      refine ⟨_, capEq thr thr, ?_⟩
      refine ⟨?_, ?_, trivial⟩
      · refine h.ld_6 3 rfl rfl ?_
        refine ⟨law05_thread_spec h fun w29 h => ?_, trivial⟩
        exact ⟨_, capEq thr thr, fin w29 h⟩
      · refine law05_thread_spec h fun w29 h => ?_
        refine h.ld_6 3 rfl rfl ?_
        exact ⟨_, capEq thr thr, fin w29 h⟩
  refine h.dr fun w7 h => ?_
  have hput : ∀ w', Own B w0 w' (NodesA b [1] fH0 :: BlkA w3.heap.size [.int .i64 0, .int .i64 0] :: BlkA w2.heap.size [.int .i64 0, .int .i64 1] :: R) → C.slots_Nodes_Put (some ⟨b, 0, none⟩) 0 1 3 1 7 0 0 0 (fun r w => k10 r w) w' := fun w' h => by
    refine slots_Nodes_Put_spec (s := (0, 1)) (c := thr) thrR h fun w8 h => ?_
    rw [show putN [1] fH0 (0, 1) thr = (0, fH1) from by kernel_rfl] at h ⊢
    exact main w8 h
  refine ⟨?_, ?_, trivial⟩
  · refine h.ld_2 2 rfl rfl ?_
    exact ⟨law05_thread_spec h fun w8 h => ⟨hput w8 h, trivial⟩, trivial⟩
  · refine law05_thread_spec h fun w8 h => ?_
    refine h.ld_2 2 rfl rfl ?_
    exact ⟨hput w8 h, trivial⟩
end
end Go.Proofs.Ytdlcejjiccknlaa
