/- Nodes that are laid by the program and by the document; calls of layer 6 whose answers the document fixes. -/
import Derived.Test.YtdlcejjiccknlaaRL2
import Derived.Test.YtdlcejjiccknlaaS1
set_option linter.unusedVariables false
set_option linter.unusedSimpArgs false
set_option maxRecDepth 8000
namespace Go.Proofs.Ytdlcejjiccknlaa
open Go Go.Vc Go.Proofs

/-- A slot and what is put into it. -/
def heldE : EncT (Slot × Cap) := ⟨8, fun p => [.int .i64 p.1.1, .int .i64 p.1.2, .int .i64 p.2.kind, .int .i64 p.2.obj, .int .i64 p.2.rights, .int .u64 p.2.badge, .int .u64 p.2.guard, .int .i64 p.2.bits], fun _ => rfl, fun x v h => by
  simp only [List.mem_cons, List.not_mem_nil, or_false] at h
  rcases h with rfl | rfl | rfl | rfl | rfl | rfl | rfl | rfl <;> rfl, by decide⟩
theorem ldAt {w : World} {A : Addr} {l : List Value} (g : ∀ c v, l[c]? = some v → w.cell? (A.add c) = some v) (k : Nat) : ∀ j v, (l.drop k)[j]? = some v → w.cell? ((A.add k).add j) = some v := fun j v h => by
  rw [Addr.add_add]; rw [List.getElem?_drop] at h; exact g _ _ h
def bitsOf (b : Int) : Int := IntKind.i64.wrap (1 + andI .i64 b 3)
def builtB (bs : List Int) : List Int := (bs.take 6).map bitsOf
def builtH (bits : List Int) (hs : List (Slot × Cap)) : Hs := (hs.take 40).foldl (fun H p => (putN bits H p.1 p.2).2) (fun _ => none)
theorem andle (x : Int) (m : Nat) (hm : m < 2 ^ 62) : ∃ p : Nat, p ≤ m ∧ andI .i64 x (m : Int) = (p : Int) := by
  unfold andI
  have e2 : (2 : Nat) ^ 62 = 4611686018427387904 := by decide
  have hle : (BitVec.ofInt IntKind.i64.bits x &&& BitVec.ofInt IntKind.i64.bits (m : Int)).toNat ≤ m := by
    rw [BitVec.toNat_and]
    refine Nat.le_trans Nat.and_le_right ?_
    have : (BitVec.ofInt IntKind.i64.bits (m : Int)).toNat = m % 2 ^ 64 := by simp [IntKind.bits, BitVec.toNat_ofInt]
    rw [this]; exact Nat.mod_le _ _
  exact ⟨_, hle, wr (by omega) (by omega)⟩
theorem bitsOf_rng (b : Int) : 1 ≤ bitsOf b ∧ bitsOf b ≤ 4 := by
  obtain ⟨p, hp, e⟩ := andle b 3 (by decide)
  have e : andI .i64 b 3 = (p : Int) := e
  unfold bitsOf
  rw [e, wr (by omega) (by omega)]; omega
theorem slotX (a c : Slot) : eqX Try.prog 9 49 [.int .i64 a.1, .int .i64 a.2] [.int .i64 c.1, .int .i64 c.2] = some (decide (a = c)) := by
  have h : eqX Try.prog 9 49 [.int .i64 a.1, .int .i64 a.2] [.int .i64 c.1, .int .i64 c.2] = some (a.1 == c.1 && (a.2 == c.2 && true)) := by kernel_rfl
  rw [h]
  congr 1
  rw [Bool.eq_iff_iff]
  simp only [Bool.and_true, Bool.and_eq_true, beq_iff_eq, decide_eq_true_eq]
  cases a; cases c
  simp only [Prod.mk.injEq]
theorem slotEq {x y : Operand} (a c : Slot) : EqB Try.prog .eql 49 x y (.agg #[.int .i64 a.1, .int .i64 a.2]) (.agg #[.int .i64 c.1, .int .i64 c.2]) (decide (a = c)) := eqB_x (by kernel_rfl) (by kernel_rfl) (by kernel_rfl) (slotX a c)

section
variable {B : Nat} {w0 w : World} {R L : List Asn}
theorem law06_built_spec {b1 b2 : Sl} {bs : List Int} {hs : List (Slot × Cap)} {K : Option Addr → Option Addr → World → Prop} (hr1 : Rd intE B w0 R b1 bs) (hr2 : Rd heldE B w0 R b2 hs) (hcs : ∀ p ∈ hs, CapR p.2) (h : Own B w0 w R)
    (hK : ∀ w' n k, Own B w0 w' (NodesA n (builtB bs) (builtH (builtB bs) hs) :: RNodesA k (builtB bs) (builtH (builtB bs) hs) :: R) → K (some ⟨n, 0, none⟩) (some ⟨k, 0, none⟩) w') : C.law06_built b1 b2 K w := by
  apply S.law06_built_ok
  unfold S.law06_built
  have hl1 := hr1.len
  have hl2 := hr2.len
  refine h.al fun w1 h => ?_
  have hb1 : ∀ w, Own B w0 w (BlkA w.heap.size [.slice b1.a b1.len b1.cap, .slice b2.a b2.len b2.cap] :: R) → True := fun _ _ => trivial
  generalize w.heap.size = p0 at h ⊢
  refine slots_New_spec h fun n w2 h => ?_
  refine h.al fun w3 h => ?_
  generalize w2.heap.size = k at h ⊢
  refine cbF rfl ?_
  have h : Own B w0 w3 (NodesA n [] (fun _ => none) :: RNodesA k [] (fun _ => none) :: BlkA p0 [.slice b1.a b1.len b1.cap, .slice b2.a b2.len b2.cap] :: R) := by
    have h3 : Own B w0 w3 (RNodesA k [] (fun _ => none) :: NodesA n [] (fun _ => none) :: BlkA p0 [.slice b1.a b1.len b1.cap, .slice b2.a b2.len b2.cap] :: R) :=
      Own.mk_rnodes (s := ⟨none, 0, 0⟩) (ss := []) ⟨by simp, by simp, fun s c h => by cases h⟩ (Own.rows_nil (Own.nilS h).up1)
    exact h3.sub
  intro l7 hl7
  have loop1 : ∀ (m i : Nat) (w : World), i + m = 7 → i ≤ 6 → i ≤ bs.length → Own B w0 w (NodesA n (builtB (bs.take i)) (fun _ => none) :: RNodesA k (builtB (bs.take i)) (fun _ => none) :: BlkA p0 [.slice b1.a b1.len b1.cap, .slice b2.a b2.len b2.cap] :: R) → l7 (i : Int) w := by
    intro m
    induction m with
    | zero => intro i w h1 h2; omega
    | succ m ih =>
      intro i w him hi6 hib h
      apply hl7
      intro k10 hk10
      have exit_ : builtB (bs.take i) = builtB bs → k10 false w := fun e => by
        rw [e] at h
        apply hk10
        refine cbF rfl ?_
        generalize builtB bs = bits at h hK
        intro l25 hl25
        have loop2 : ∀ (m i : Nat) (w : World), i + m = 41 → i ≤ 40 → i ≤ hs.length → Own B w0 w (NodesA n bits (builtH bits (hs.take i)) :: RNodesA k bits (builtH bits (hs.take i)) :: BlkA p0 [.slice b1.a b1.len b1.cap, .slice b2.a b2.len b2.cap] :: R) → l25 (i : Int) w := by
          intro m
          induction m with
          | zero => intro i w h1 h2; omega
          | succ m ih2 =>
            intro i w him hi40 hih h
            apply hl25
            intro k28 hk28
            have exit2 : builtH bits (hs.take i) = builtH bits hs → k28 false w := fun e => by
              rw [e] at h
              apply hk28
              refine cbF rfl ?_
              exact hK _ _ _ h.sub
            refine ⟨b2, h.ldd rfl, ?_⟩
            refine cdec (fun e1 => ?_) (fun e1 => exit2 (by rw [List.take_of_length_le (by omega)]))
            by_cases e2 : i < 40
            · rw [decide_eq_true (by omega)]
              have hlt : i < hs.length := by omega
              obtain ⟨p, hp⟩ : ∃ p, hs[i]? = some p := ⟨_, List.getElem?_eq_getElem hlt⟩
              have hpc := hcs p (List.mem_of_getElem? hp)
              have hnext : builtH bits (hs.take (i + 1)) = (putN bits (builtH bits (hs.take i)) p.1 p.2).2 := by
                unfold builtH
                rw [List.take_take, List.take_take, Nat.min_eq_right (by omega), Nat.min_eq_right (by omega), List.take_add_one, hp, List.foldl_append]; rfl
              apply hk28
              refine cbT rfl ?_
              refine h.dr fun w h => ?_
              refine ⟨b2, h.ldd rfl, ?_⟩
              have hrm2 : Rd heldE B w0 (NodesA n bits (builtH bits (hs.take i)) :: RNodesA k bits (builtH bits (hs.take i)) :: BlkA p0 [.slice b1.a b1.len b1.cap, .slice b2.a b2.len b2.cap] :: R) b2 hs := hr2.more
              refine hrm2.ix h rfl hp fun a ha h0 hc => ?_
              refine ⟨_, hc 0 _ rfl, _, hc 1 _ rfl, b2, h.ldd rfl, ?_⟩
              refine hrm2.ix h rfl hp fun a ha h0 hc => ?_
              refine ldCap (x := p.2) (ldAt hc 2) ?_
              refine Go.Vc.a2 ?_
              refine slots_Nodes_Put_spec (s := p.1) hpc h fun w h => ?_
              refine h.dr fun w h => ?_
              refine ⟨b2, h.ldd rfl, ?_⟩
              have hrm3 : Rd heldE B w0 (NodesA n bits (putN bits (builtH bits (hs.take i)) p.1 p.2).2 :: RNodesA k bits (builtH bits (hs.take i)) :: BlkA p0 [.slice b1.a b1.len b1.cap, .slice b2.a b2.len b2.cap] :: R) b2 hs := hr2.more
              refine hrm3.ix h rfl hp fun a ha h0 hc => ?_
              refine ⟨_, hc 0 _ rfl, _, hc 1 _ rfl, b2, h.ldd rfl, ?_⟩
              refine hrm3.ix h rfl hp fun a ha h0 hc => ?_
              refine ldCap (x := p.2) (ldAt hc 2) ?_
              refine Go.Vc.a2 ?_
              refine ref05_Put_spec (s := p.1) hpc h.up1 fun w h => ?_
              rw [← hnext] at h
              rw [show IntKind.i64.wrap ((i : Int) + 1) = ((i + 1 : Nat) : Int) from by rw [wr (by omega) (by omega)]; omega]
              exact ih2 (i + 1) _ (by omega) (by omega) (by omega) h.sub
            · rw [decide_eq_false (by omega)]
              exact exit2 (by unfold builtH; rw [List.take_take, Nat.min_eq_left (by omega)])
        exact loop2 41 0 _ (by omega) (by omega) (by omega) h
      refine ⟨b1, h.ldc rfl, ?_⟩
      refine cdec (fun e1 => ?_) (fun e1 => exit_ (by rw [List.take_of_length_le (by omega)]))
      by_cases e2 : i < 6
      · rw [decide_eq_true (by omega)]
        have hlt : i < bs.length := by omega
        obtain ⟨x, hx⟩ : ∃ x, bs[i]? = some x := ⟨_, List.getElem?_eq_getElem hlt⟩
        obtain ⟨z1, z2⟩ := bitsOf_rng x
        have hnext : builtB (bs.take (i + 1)) = builtB (bs.take i) ++ [bitsOf x] := by
          unfold builtB
          rw [List.take_take, List.take_take, Nat.min_eq_right (by omega), Nat.min_eq_right (by omega), List.take_add_one, hx, List.map_append]; rfl
        have hlen : (builtB (bs.take i)).length = i := by unfold builtB; simp; omega
        have hmk : makeN (builtB (bs.take i)) (bitsOf x) = ((i : Int), 0, builtB (bs.take (i + 1))) := by
          unfold makeN; rw [if_neg (by omega), if_neg (by omega), hlen, hnext]
        apply hk10
        refine cbT rfl ?_
        refine ⟨b1, h.ldc rfl, ?_⟩
        have hrm : Rd intE B w0 (NodesA n (builtB (bs.take i)) (fun _ => none) :: RNodesA k (builtB (bs.take i)) (fun _ => none) :: BlkA p0 [.slice b1.a b1.len b1.cap, .slice b2.a b2.len b2.cap] :: R) b1 bs := hr1.more
        refine hrm.ix h rfl hx fun a ha h0 hc => ?_
        refine ⟨_, h0 _ rfl, ?_⟩
        refine slots_Nodes_Make_spec (z := bitsOf x) h fun w h => ?_
        rw [hmk] at h
        refine ⟨b1, h.ldc rfl, ?_⟩
        have hrm : Rd intE B w0 (NodesA n (builtB (bs.take (i + 1))) (fun _ => none) :: RNodesA k (builtB (bs.take i)) (fun _ => none) :: BlkA p0 [.slice b1.a b1.len b1.cap, .slice b2.a b2.len b2.cap] :: R) b1 bs := hr1.more
        refine hrm.ix h rfl hx fun a ha h0 hc => ?_
        refine ⟨_, h0 _ rfl, ?_⟩
        refine ref05_Make_spec (z := bitsOf x) h.up1 fun w h => ?_
        rw [hmk] at h
        rw [show IntKind.i64.wrap ((i : Int) + 1) = ((i + 1 : Nat) : Int) from by rw [wr (by omega) (by omega)]; omega]
        exact ih (i + 1) _ (by omega) (by omega) (by omega) h.sub
      · rw [decide_eq_false (by omega)]
        exact exit_ (by unfold builtB; rw [List.take_take, Nat.min_eq_left (by omega)])
  exact loop1 7 0 w3 (by omega) (by omega) (by omega) h

def kR : Cap := ⟨2, 0, 7, 0, 1, 1⟩
def kT : Cap := ⟨3, 0, 7, 0, 0, 0⟩
def kH : Hs := updH (fun _ => none) (0, 2) (some kT)
theorem law06_fixed_spec {K : Bool → World → Prop} (h : Own B w0 w R) (hK : ∀ w', Own B w0 w' R → K true w') : C.law06_fixed K w := by
  apply S.law06_fixed_ok
  unfold S.law06_fixed
  have cR : CapR kR := ⟨by decide, by decide, by decide, by decide⟩
  have cT : CapR kT := ⟨by decide, by decide, by decide, by decide⟩
  (repeat (first | (refine h.al fun w h => ?_) | (refine h.dr fun w h => ?_) | (refine h.lc_2 rfl ?_) | (refine h.lc_6 rfl ?_) | (refine ⟨_, h.ldc rfl, ?_⟩) | (refine ⟨_, h.ldd rfl, ?_⟩) | (refine h.hd rfl ?_) | (refine ⟨h.ldc rfl, ?_⟩) | (refine ⟨h.ldd rfl, ?_⟩) | (refine h.stLc rfl rfl fun w h => ?_) | (refine exs ?_) | (refine _root_.Go.Vc.a2 ?_) | (refine h.stc rfl rfl fun w h => ?_) | (refine h.std rfl rfl fun w h => ?_)))
  (dsimp only [putAt, List.set_cons_zero, List.set_cons_succ] at h)
  have h := Own.asSl (E := heldE) h [((0, 2), kT)] rfl
  have h := Own.asSl (E := intE) h.up1 [1] rfl
  refine law06_built_spec (bs := [1]) (hs := [((0, 2), kT)]) (Rd.own rfl) (Rd.own rfl) (fun p hp => by simp only [List.mem_singleton] at hp; subst hp; exact cT) h fun w n k h => ?_
  have hH : builtH (builtB [1]) [((0, 2), kT)] = kH := by kernel_rfl
  have hB : builtB [1] = [2] := by kernel_rfl
  rw [hH, hB] at h
  refine cbF rfl ?_
  (repeat (first | (refine h.al fun w h => ?_) | (refine h.dr fun w h => ?_) | (refine h.lc_2 rfl ?_) | (refine h.lc_6 rfl ?_) | (refine ⟨_, h.ldc rfl, ?_⟩) | (refine ⟨_, h.ldd rfl, ?_⟩) | (refine h.hd rfl ?_) | (refine ⟨h.ldc rfl, ?_⟩) | (refine ⟨h.ldd rfl, ?_⟩) | (refine h.stLc rfl rfl fun w h => ?_) | (refine exs ?_) | (refine _root_.Go.Vc.a2 ?_) | (refine h.stc rfl rfl fun w h => ?_) | (refine h.std rfl rfl fun w h => ?_)))
  refine lookup_Slot_spec (addr := 6) (root := kR) cR (by decide) h fun w h => ?_
  rw [show slotT [2] kH kR 6 3 = ((0, 2), 0) from by kernel_rfl]
  (repeat (first | (refine h.al fun w h => ?_) | (refine h.dr fun w h => ?_) | (refine h.lc_2 rfl ?_) | (refine h.lc_6 rfl ?_) | (refine ⟨_, h.ldc rfl, ?_⟩) | (refine ⟨_, h.ldd rfl, ?_⟩) | (refine h.hd rfl ?_) | (refine ⟨h.ldc rfl, ?_⟩) | (refine ⟨h.ldd rfl, ?_⟩) | (refine h.stLc rfl rfl fun w h => ?_) | (refine exs ?_) | (refine _root_.Go.Vc.a2 ?_) | (refine h.stc rfl rfl fun w h => ?_) | (refine h.std rfl rfl fun w h => ?_)))
  refine lookup_Cap_spec (addr := 6) (root := kR) cR (by decide) h.up1 fun w c e hce hcR h => ?_
  rw [show capT [2] kH kR 6 3 = (kT, 0) from by kernel_rfl] at hce
  cases hce
  (repeat (first | (refine h.al fun w h => ?_) | (refine h.dr fun w h => ?_) | (refine h.lc_2 rfl ?_) | (refine h.lc_6 rfl ?_) | (refine ⟨_, h.ldc rfl, ?_⟩) | (refine ⟨_, h.ldd rfl, ?_⟩) | (refine h.hd rfl ?_) | (refine ⟨h.ldc rfl, ?_⟩) | (refine ⟨h.ldd rfl, ?_⟩) | (refine h.stLc rfl rfl fun w h => ?_) | (refine exs ?_) | (refine _root_.Go.Vc.a2 ?_) | (refine h.stc rfl rfl fun w h => ?_) | (refine h.std rfl rfl fun w h => ?_)))
  refine lookup_Slot_spec (addr := 2) (root := kR) cR (by decide) h.up1 fun w h => ?_
  rw [show slotT [2] kH kR 2 3 = ((0, 0), 61) from by kernel_rfl]
  (repeat (first | (refine h.al fun w h => ?_) | (refine h.dr fun w h => ?_) | (refine h.lc_2 rfl ?_) | (refine h.lc_6 rfl ?_) | (refine ⟨_, h.ldc rfl, ?_⟩) | (refine ⟨_, h.ldd rfl, ?_⟩) | (refine h.hd rfl ?_) | (refine ⟨h.ldc rfl, ?_⟩) | (refine ⟨h.ldd rfl, ?_⟩) | (refine h.stLc rfl rfl fun w h => ?_) | (refine exs ?_) | (refine _root_.Go.Vc.a2 ?_) | (refine h.stc rfl rfl fun w h => ?_) | (refine h.std rfl rfl fun w h => ?_)))
  refine lookup_Slot_spec (addr := 12) (root := kR) cR (by decide) h.up1 fun w h => ?_
  rw [show slotT [2] kH kR 12 4 = ((0, 0), 62) from by kernel_rfl]
  (repeat (first | (refine h.al fun w h => ?_) | (refine h.dr fun w h => ?_) | (refine h.lc_2 rfl ?_) | (refine h.lc_6 rfl ?_) | (refine ⟨_, h.ldc rfl, ?_⟩) | (refine ⟨_, h.ldd rfl, ?_⟩) | (refine h.hd rfl ?_) | (refine ⟨h.ldc rfl, ?_⟩) | (refine ⟨h.ldd rfl, ?_⟩) | (refine h.stLc rfl rfl fun w h => ?_) | (refine exs ?_) | (refine _root_.Go.Vc.a2 ?_) | (refine h.stc rfl rfl fun w h => ?_) | (refine h.std rfl rfl fun w h => ?_)))
  refine lookup_Slot_spec (addr := 0) (root := kT) cT (by decide) h.up1 fun w h => ?_
  rw [show slotT [2] kH kT 0 3 = ((0, 0), 60) from by kernel_rfl]
  (repeat (first | (refine h.al fun w h => ?_) | (refine h.dr fun w h => ?_) | (refine h.lc_2 rfl ?_) | (refine h.lc_6 rfl ?_) | (refine ⟨_, h.ldc rfl, ?_⟩) | (refine ⟨_, h.ldd rfl, ?_⟩) | (refine h.hd rfl ?_) | (refine ⟨h.ldc rfl, ?_⟩) | (refine ⟨h.ldd rfl, ?_⟩) | (refine h.stLc rfl rfl fun w h => ?_) | (refine exs ?_) | (refine _root_.Go.Vc.a2 ?_) | (refine h.stc rfl rfl fun w h => ?_) | (refine h.std rfl rfl fun w h => ?_)))
  refine lookup_Slot_spec (addr := 3) (root := kR) cR (by decide) h.up1 fun w h => ?_
  rw [show slotT [2] kH kR 3 2 = ((0, 0), 62) from by kernel_rfl]
  (repeat (first | (refine h.al fun w h => ?_) | (refine h.dr fun w h => ?_) | (refine h.lc_2 rfl ?_) | (refine h.lc_6 rfl ?_) | (refine ⟨_, h.ldc rfl, ?_⟩) | (refine ⟨_, h.ldd rfl, ?_⟩) | (refine h.hd rfl ?_) | (refine ⟨h.ldc rfl, ?_⟩) | (refine ⟨h.ldd rfl, ?_⟩) | (refine h.stLc rfl rfl fun w h => ?_) | (refine exs ?_) | (refine _root_.Go.Vc.a2 ?_) | (refine h.stc rfl rfl fun w h => ?_) | (refine h.std rfl rfl fun w h => ?_)))
  have h := Own.asSl (E := intE) h [2] rfl
  refine lookup_Address_spec (root := kR) (way := [2]) cR (Rd.own rfl) (by decide) h.up2 fun w h => ?_
  rw [show wayT [2] kH kR [2] = (6, 3, 0) from by kernel_rfl]
  (repeat (first | (refine h.al fun w h => ?_) | (refine h.dr fun w h => ?_) | (refine h.lc_2 rfl ?_) | (refine h.lc_6 rfl ?_) | (refine ⟨_, h.ldc rfl, ?_⟩) | (refine ⟨_, h.ldd rfl, ?_⟩) | (refine h.hd rfl ?_) | (refine ⟨h.ldc rfl, ?_⟩) | (refine ⟨h.ldd rfl, ?_⟩) | (refine h.stLc rfl rfl fun w h => ?_) | (refine exs ?_) | (refine _root_.Go.Vc.a2 ?_) | (refine h.stc rfl rfl fun w h => ?_) | (refine h.std rfl rfl fun w h => ?_)))
  have h := Own.asSl (E := intE) h [2, 0] rfl
  refine lookup_Address_spec (root := kR) (way := [2, 0]) cR (Rd.own rfl) (by decide) h.up1 fun w h => ?_
  rw [show wayT [2] kH kR [2, 0] = (0, 0, 60) from by kernel_rfl]
  (repeat (first | (refine h.al fun w h => ?_) | (refine h.dr fun w h => ?_) | (refine h.lc_2 rfl ?_) | (refine h.lc_6 rfl ?_) | (refine ⟨_, h.ldc rfl, ?_⟩) | (refine ⟨_, h.ldd rfl, ?_⟩) | (refine h.hd rfl ?_) | (refine ⟨h.ldc rfl, ?_⟩) | (refine ⟨h.ldd rfl, ?_⟩) | (refine h.stLc rfl rfl fun w h => ?_) | (refine exs ?_) | (refine _root_.Go.Vc.a2 ?_) | (refine h.stc rfl rfl fun w h => ?_) | (refine h.std rfl rfl fun w h => ?_)))
  refine lookup_Address_spec (root := kR) (way := []) cR ⟨rfl, fun w' h i j x _ hx => by simp at hx⟩ (by decide) h fun w h => ?_
  rw [show wayT [2] kH kR [] = (0, 0, 1) from by kernel_rfl]
  (repeat (first | (refine h.al fun w h => ?_) | (refine h.dr fun w h => ?_) | (refine h.lc_2 rfl ?_) | (refine h.lc_6 rfl ?_) | (refine ⟨_, h.ldc rfl, ?_⟩) | (refine ⟨_, h.ldd rfl, ?_⟩) | (refine h.hd rfl ?_) | (refine ⟨h.ldc rfl, ?_⟩) | (refine ⟨h.ldd rfl, ?_⟩) | (refine h.stLc rfl rfl fun w h => ?_) | (refine exs ?_) | (refine _root_.Go.Vc.a2 ?_) | (refine h.stc rfl rfl fun w h => ?_) | (refine h.std rfl rfl fun w h => ?_)))
  refine ⟨_, slotEq (0, 2) (0, 2), ?_⟩
  refine cbT rfl (cbT rfl ?_)
  (repeat (first | (refine h.al fun w h => ?_) | (refine h.dr fun w h => ?_) | (refine h.lc_2 rfl ?_) | (refine h.lc_6 rfl ?_) | (refine ⟨_, h.ldc rfl, ?_⟩) | (refine ⟨_, h.ldd rfl, ?_⟩) | (refine h.hd rfl ?_) | (refine ⟨h.ldc rfl, ?_⟩) | (refine ⟨h.ldd rfl, ?_⟩) | (refine h.stLc rfl rfl fun w h => ?_) | (refine exs ?_) | (refine _root_.Go.Vc.a2 ?_) | (refine h.stc rfl rfl fun w h => ?_) | (refine h.std rfl rfl fun w h => ?_)))
  refine ⟨_, capEq kT kT, ?_⟩
  refine cbT rfl (cbT rfl (cbT rfl (cbT rfl (cbT rfl (cbT rfl (cbT rfl (cbT rfl (cbT rfl (cbT rfl ?_)))))))))
  exact hK _ h.sub
end
end Go.Proofs.Ytdlcejjiccknlaa
