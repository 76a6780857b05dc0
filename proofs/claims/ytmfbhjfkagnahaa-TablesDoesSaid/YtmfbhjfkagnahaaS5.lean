/- The functions' texts, and that a call comes to them. Printed by a program of mine (gen.py). -/
import Derived.Test.YtmfbhjfkagnahaaC
set_option linter.unusedVariables false
namespace Go.Proofs.Ytmfbhjfkagnahaa
open Go Go.Vc Go.Proofs

/-- (*buttress/tree.Tree).All -/
def S.tree_Tree_All (t1 : Option Addr) (K : Sl → World → Prop) (w : World) : Prop :=
  ∃ a2 : Addr, t1 = some a2 ∧
   ∃ l3 : Sl, w.cell? a2 = some (.slice l3.a l3.len l3.cap) ∧
   C.tree_slotsOf l3 (fun r4 w5 =>
   K r4 w5) w
set_option maxRecDepth 100000 in
theorem S.tree_Tree_All_ok (t1 : Option Addr) (K : Sl → World → Prop) (w : World) (h : S.tree_Tree_All t1 K w) : C.tree_Tree_All t1 K w := by
  have e : fnV Try.prog Try.f18 (bodyOf Try.f18) (.t none (.u) (.t none (.u) (.u))) [(0, .c (.s))] [.pointer t1] K w = S.tree_Tree_All t1 K w := by kernel_rfl
  exact okF_mk Try.func18 rfl (fn_sound names_ok follows_ok Try.func18 rfl (by kernel_rfl) (Eq.mpr e h))

/-- (*buttress/tree.Tree).Under -/
def S.tree_Tree_Under (t1 : Option Addr) (s2 : Int) (s3 : Int) (K : Sl → World → Prop) (w : World) : Prop :=
  Al w (.cells #[.int .i64 s2, .int .i64 s3] 29) fun w4 =>
   LdL w4 (Addr.mk w.heap.size 0 none) 0 [.i .i64, .i .i64] fun (t5 : Int) (t6 : Int) =>
   C.tree_Tree_place t1 t5 t6 (fun r7 w8 =>
   bif decide (r7 < (0 : Int)) then
    (K ⟨none, 0, 0⟩ w8)
   else
    (Dr w8 fun w9 =>
   ∃ a10 : Addr, t1 = some a10 ∧
   ∃ l11 : Sl, w9.cell? a10 = some (.slice l11.a l11.len l11.cap) ∧
   (C.tree_Tree_end t1 r7 (fun r12 w13 =>
   w13.cell? a10 = some (.slice l11.a l11.len l11.cap) ∧
   0 ≤ r12 ∧ r12 ≤ (l11.cap : Int) ∧
   0 ≤ IntKind.i64.wrap (r7 + (1 : Int)) ∧ IntKind.i64.wrap (r7 + (1 : Int)) ≤ (r12.toNat : Int) ∧
   (C.tree_slotsOf ⟨slA l11.a ((IntKind.i64.wrap (r7 + (1 : Int))).toNat) l11.cap 3, r12.toNat - ((IntKind.i64.wrap (r7 + (1 : Int))).toNat), l11.cap - ((IntKind.i64.wrap (r7 + (1 : Int))).toNat)⟩ (fun r14 w15 =>
   K r14 w15) w13) ∧
   True) w9) ∧
   True)) w4
set_option maxRecDepth 100000 in
theorem S.tree_Tree_Under_ok (t1 : Option Addr) (s2 : Int) (s3 : Int) (K : Sl → World → Prop) (w : World) (h : S.tree_Tree_Under t1 s2 s3 K w) : C.tree_Tree_Under t1 s2 s3 K w := by
  have e : fnV Try.prog Try.f19 (bodyOf Try.f19) (.t none (.u) (.t none (.u) (.t none (.t none (.u) (.t none (.t none (.u) (.u)) (.u))) (.t none (.r none (.one 0 496 (.one 1 496 (.one 2 496 (.one 4 456 (.one 5 456 (.one 6 136 (.one 7 8 (.hold 3 256 3071 (.alt 8 (.one 9 0 (.alt 10 (.one 11 0 (.done)) (.none))) (.none))))))))))) (.u))))) [(0, .c (.s))] [.pointer t1, .agg #[.int .i64 s2, .int .i64 s3]] K w = S.tree_Tree_Under t1 s2 s3 K w := by kernel_rfl
  exact okF_mk Try.func19 rfl (fn_sound names_ok follows_ok Try.func19 rfl (by kernel_rfl) (Eq.mpr e h))

/-- (*buttress/tree.Tree).Parent -/
def S.tree_Tree_Parent (t1 : Option Addr) (s2 : Int) (s3 : Int) (K : Int → Int → Bool → World → Prop) (w : World) : Prop :=
  Al w (.cells #[.int .i64 s2, .int .i64 s3] 29) fun w4 =>
   Al w4 (.cells #[.int .i64 (0 : Int), .int .i64 (0 : Int)] 29) fun w5 =>
   LdL w5 (Addr.mk w.heap.size 0 none) 0 [.i .i64, .i .i64] fun (t6 : Int) (t7 : Int) =>
   C.tree_Tree_place t1 t6 t7 (fun r8 w9 =>
   ∀ l10 : Int → World → Prop,
   (∀ (k11 : Int) (w12 : World), (bif decide (k11 ≥ (0 : Int)) then
    (Dr w12 fun w13 =>
   ∃ a14 : Addr, t1 = some a14 ∧
   ∃ l15 : Sl, w13.cell? a14 = some (.slice l15.a l15.len l15.cap) ∧
   ∃ a16 : Addr, l15.a = some a16 ∧ 0 ≤ k11 ∧ k11 < (l15.len : Int) ∧
   ∃ depth17 : Int, w13.cell? ((a16.add (k11.toNat * 3)).add 2) = some (.int .i64 depth17) ∧
   ∃ a18 : Addr, t1 = some a18 ∧
   ∃ l19 : Sl, w13.cell? a18 = some (.slice l19.a l19.len l19.cap) ∧
   ∃ a20 : Addr, l19.a = some a20 ∧ 0 ≤ r8 ∧ r8 < (l19.len : Int) ∧
   ∃ depth21 : Int, w13.cell? ((a20.add (r8.toNat * 3)).add 2) = some (.int .i64 depth21) ∧
   bif decide (depth17 < depth21) then
    (∃ a22 : Addr, t1 = some a22 ∧
   ∃ l23 : Sl, w13.cell? a22 = some (.slice l23.a l23.len l23.cap) ∧
   ∃ a24 : Addr, l23.a = some a24 ∧ 0 ≤ k11 ∧ k11 < (l23.len : Int) ∧
   LdL w13 (a24.add (k11.toNat * 3)) 0 [.i .i64, .i .i64] fun (s25 : Int) (s26 : Int) =>
   StL w13 (Addr.mk w4.heap.size 0 none) 0 [.int .i64 s25, .int .i64 s26] fun w27 =>
   LdL w27 (Addr.mk w4.heap.size 0 none) 0 [.i .i64, .i .i64] fun (r28 : Int) (r29 : Int) =>
   K r28 r29 true w27)
   else
    (l10 (IntKind.i64.wrap (k11 - (1 : Int))) w13))
   else
    (StL w12 (Addr.mk w4.heap.size 0 none) 0 [.int .i64 (0 : Int), .int .i64 (0 : Int)] fun w30 =>
   LdL w30 (Addr.mk w4.heap.size 0 none) 0 [.i .i64, .i .i64] fun (r31 : Int) (r32 : Int) =>
   K r31 r32 false w30)) → l10 k11 w12) →
   l10 (IntKind.i64.wrap (r8 - (1 : Int))) w9) w5
set_option maxRecDepth 100000 in
theorem S.tree_Tree_Parent_ok (t1 : Option Addr) (s2 : Int) (s3 : Int) (K : Int → Int → Bool → World → Prop) (w : World) (h : S.tree_Tree_Parent t1 s2 s3 K w) : C.tree_Tree_Parent t1 s2 s3 K w := by
  have e : fnV Try.prog Try.f20 (bodyOf Try.f20) (.t none (.u) (.t none (.u) (.t none (.t none (.u) (.t none (.t (some [(7, .c (.i .i64))]) (.t none (.t none (.u) (.t none (.u) (.u))) (.t none (.t none (.t none (.r none (.one 0 65296 (.one 1 65296 (.one 2 65296 (.one 3 65296 (.one 4 65280 (.one 5 65280 (.one 6 65280 (.one 7 65280 (.one 8 4096 (.one 9 4096 (.one 10 4096 (.one 11 4096 (.one 12 0 (.one 13 0 (.one 14 0 (.one 15 0 (.one 16 0 (.done))))))))))))))))))) (.t none (.t none (.u) (.u)) (.u))) (.u)) (.u))) (.u)) (.u))) (.t none (.u) (.u))))) [(0, .a [.i .i64, .i .i64]), (1, .c (.b))] [.pointer t1, .agg #[.int .i64 s2, .int .i64 s3]] K w = S.tree_Tree_Parent t1 s2 s3 K w := by kernel_rfl
  exact okF_mk Try.func20 rfl (fn_sound names_ok follows_ok Try.func20 rfl (by kernel_rfl) (Eq.mpr e h))

/-- (*buttress/tree.Tree).Move -/
def S.tree_Tree_Move (t1 : Option Addr) (from2 : Int) (from3 : Int) (to4 : Int) (to5 : Int) (K : Int → World → Prop) (w : World) : Prop :=
  Al w (.cells #[.int .i64 from2, .int .i64 from3] 29) fun w6 =>
   Al w6 (.cells #[.int .i64 to4, .int .i64 to5] 29) fun w7 =>
   LdL w7 (Addr.mk w.heap.size 0 none) 0 [.i .i64, .i .i64] fun (t8 : Int) (t9 : Int) =>
   C.tree_Tree_place t1 t8 t9 (fun r10 w11 =>
   bif decide (r10 < (0 : Int)) then
    (K (71 : Int) w11)
   else
    (LdL w11 (Addr.mk w6.heap.size 0 none) 0 [.i .i64, .i .i64] fun (t12 : Int) (t13 : Int) =>
   C.tree_Tree_place t1 t12 t13 (fun r14 w15 =>
   bif decide (r14 ≥ (0 : Int)) then
    (K (70 : Int) w15)
   else
    (Dr w15 fun w16 =>
   ∃ a17 : Addr, t1 = some a17 ∧
   ∃ l18 : Sl, w16.cell? a17 = some (.slice l18.a l18.len l18.cap) ∧
   LdL w16 (Addr.mk w6.heap.size 0 none) 0 [.i .i64, .i .i64] fun (t19 : Int) (t20 : Int) =>
   ∃ a21 : Addr, l18.a = some a21 ∧ 0 ≤ r10 ∧ r10 < (l18.len : Int) ∧
   (StL w16 (a21.add (r10.toNat * 3)) 0 [.int .i64 t19, .int .i64 t20] fun w22 =>
   K (0 : Int) w22) ∧
   True)) w11)) w7
set_option maxRecDepth 100000 in
theorem S.tree_Tree_Move_ok (t1 : Option Addr) (from2 : Int) (from3 : Int) (to4 : Int) (to5 : Int) (K : Int → World → Prop) (w : World) (h : S.tree_Tree_Move t1 from2 from3 to4 to5 K w) : C.tree_Tree_Move t1 from2 from3 to4 to5 K w := by
  have e : fnV Try.prog Try.f23 (bodyOf Try.f23) (.t none (.u) (.t none (.u) (.t none (.t none (.t none (.u) (.t none (.t none (.u) (.u)) (.t none (.u) (.t none (.t none (.u) (.u)) (.u))))) (.u)) (.t none (.r none (.one 0 48 (.one 1 48 (.one 2 48 (.one 3 48 (.one 4 32 (.one 5 0 (.one 6 0 (.one 7 0 (.alt 8 (.done) (.none))))))))))) (.t none (.u) (.u)))))) [(0, .c (.i .i64))] [.pointer t1, .agg #[.int .i64 from2, .int .i64 from3], .agg #[.int .i64 to4, .int .i64 to5]] K w = S.tree_Tree_Move t1 from2 from3 to4 to5 K w := by kernel_rfl
  exact okF_mk Try.func23 rfl (fn_sound names_ok follows_ok Try.func23 rfl (by kernel_rfl) (Eq.mpr e h))

/-- (*buttress/tree.Tree).Add -/
def S.tree_Tree_Add (t1 : Option Addr) (parent2 : Int) (parent3 : Int) (s4 : Int) (s5 : Int) (K : Int → World → Prop) (w : World) : Prop :=
  Al w (.cells #[.int .i64 parent2, .int .i64 parent3] 29) fun w6 =>
   Al w6 (.cells #[.int .i64 s4, .int .i64 s5] 29) fun w7 =>
   LdL w7 (Addr.mk w.heap.size 0 none) 0 [.i .i64, .i .i64] fun (t8 : Int) (t9 : Int) =>
   C.tree_Tree_place t1 t8 t9 (fun r10 w11 =>
   bif decide (r10 < (0 : Int)) then
    (K (71 : Int) w11)
   else
    (LdL w11 (Addr.mk w6.heap.size 0 none) 0 [.i .i64, .i .i64] fun (t12 : Int) (t13 : Int) =>
   C.tree_Tree_place t1 t12 t13 (fun r14 w15 =>
   bif decide (r14 ≥ (0 : Int)) then
    (K (70 : Int) w15)
   else
    (Dr w15 fun w16 =>
   ∃ a17 : Addr, t1 = some a17 ∧
   ∃ l18 : Sl, w16.cell? a17 = some (.slice l18.a l18.len l18.cap) ∧
   LdL w16 (Addr.mk w6.heap.size 0 none) 0 [.i .i64, .i .i64] fun (t19 : Int) (t20 : Int) =>
   ∃ a21 : Addr, t1 = some a21 ∧
   ∃ l22 : Sl, w16.cell? a21 = some (.slice l22.a l22.len l22.cap) ∧
   ∃ a23 : Addr, l22.a = some a23 ∧ 0 ≤ r10 ∧ r10 < (l22.len : Int) ∧
   ∃ depth24 : Int, w16.cell? ((a23.add (r10.toNat * 3)).add 2) = some (.int .i64 depth24) ∧
   (Al w16 (.cells #[.int .i64 t19, .int .i64 t20, .int .i64 (IntKind.i64.wrap (depth24 + (1 : Int)))] 90) fun w25 =>
   (C.slices_Insert_tree_leaf_tree_leaf l18 (IntKind.i64.wrap (r10 + (1 : Int))) ⟨some (Addr.mk w16.heap.size 0 none), 1, 1⟩ (fun r26 w27 =>
   ∃ a28 : Addr, t1 = some a28 ∧
   (St w27 a28 (.slice r26.a r26.len r26.cap) fun w29 =>
   K (0 : Int) w29) ∧
   True) w25) ∧
   True) ∧
   True)) w11)) w7
set_option maxRecDepth 100000 in
theorem S.tree_Tree_Add_ok (t1 : Option Addr) (parent2 : Int) (parent3 : Int) (s4 : Int) (s5 : Int) (K : Int → World → Prop) (w : World) (h : S.tree_Tree_Add t1 parent2 parent3 s4 s5 K w) : C.tree_Tree_Add t1 parent2 parent3 s4 s5 K w := by
  have e : fnV Try.prog Try.f25 (bodyOf Try.f25) (.t none (.u) (.t none (.u) (.t none (.t none (.t none (.u) (.t none (.t none (.u) (.u)) (.t none (.u) (.t none (.t none (.u) (.u)) (.u))))) (.u)) (.t none (.r none (.one 0 1048574 (.one 1 524256 (.one 2 524256 (.one 3 524256 (.one 4 524256 (.one 5 524160 (.one 6 524160 (.one 7 130816 (.one 8 4096 (.one 9 4096 (.one 10 4096 (.one 11 4096 (.one 12 0 (.one 13 0 (.one 14 0 (.one 15 0 (.one 16 0 (.one 17 0 (.alt 18 (.alt 19 (.one 20 0 (.one 21 0 (.alt 22 (.done) (.none)))) (.none)) (.none))))))))))))))))))))) (.t none (.u) (.u)))))) [(0, .c (.i .i64))] [.pointer t1, .agg #[.int .i64 parent2, .int .i64 parent3], .agg #[.int .i64 s4, .int .i64 s5]] K w = S.tree_Tree_Add t1 parent2 parent3 s4 s5 K w := by kernel_rfl
  exact okF_mk Try.func25 rfl (fn_sound names_ok follows_ok Try.func25 rfl (by kernel_rfl) (Eq.mpr e h))

/-- (*buttress/tree.Tree).Take -/
def S.tree_Tree_Take (t1 : Option Addr) (s2 : Int) (s3 : Int) (K : Int → World → Prop) (w : World) : Prop :=
  Al w (.cells #[.int .i64 s2, .int .i64 s3] 29) fun w4 =>
   LdL w4 (Addr.mk w.heap.size 0 none) 0 [.i .i64, .i .i64] fun (t5 : Int) (t6 : Int) =>
   C.tree_Tree_place t1 t5 t6 (fun r7 w8 =>
   bif decide (r7 < (0 : Int)) then
    (K (71 : Int) w8)
   else
    (Dr w8 fun w9 =>
   ∃ a10 : Addr, t1 = some a10 ∧
   ∃ l11 : Sl, w9.cell? a10 = some (.slice l11.a l11.len l11.cap) ∧
   (C.tree_Tree_end t1 r7 (fun r12 w13 =>
   w13.cell? a10 = some (.slice l11.a l11.len l11.cap) ∧
   0 ≤ r12 ∧ r12 ≤ (l11.cap : Int) ∧
   0 ≤ IntKind.i64.wrap (r7 + (1 : Int)) ∧ IntKind.i64.wrap (r7 + (1 : Int)) ≤ (r12.toNat : Int) ∧
   ∀ l14 : Int → World → Prop,
   (∀ (t15 : Int) (w16 : World), (bif decide (t15 < ((r12.toNat - ((IntKind.i64.wrap (r7 + (1 : Int))).toNat) : Nat) : Int)) then
    (∃ a17 : Addr, slA l11.a ((IntKind.i64.wrap (r7 + (1 : Int))).toNat) l11.cap 3 = some a17 ∧ 0 ≤ t15 ∧ t15 < ((r12.toNat - ((IntKind.i64.wrap (r7 + (1 : Int))).toNat) : Nat) : Int) ∧
   ∃ depth18 : Int, w16.cell? ((a17.add (t15.toNat * 3)).add 2) = some (.int .i64 depth18) ∧
   ∃ a19 : Addr, slA l11.a ((IntKind.i64.wrap (r7 + (1 : Int))).toNat) l11.cap 3 = some a19 ∧ 0 ≤ t15 ∧ t15 < ((r12.toNat - ((IntKind.i64.wrap (r7 + (1 : Int))).toNat) : Nat) : Int) ∧
   St w16 ((a19.add (t15.toNat * 3)).add 2) (.int .i64 (IntKind.i64.wrap (depth18 - (1 : Int)))) fun w20 =>
   l14 (IntKind.i64.wrap (t15 + (1 : Int))) w20)
   else
    (∃ a21 : Addr, t1 = some a21 ∧
   ∃ l22 : Sl, w16.cell? a21 = some (.slice l22.a l22.len l22.cap) ∧
   C.slices_Delete_tree_leaf_tree_leaf l22 r7 (IntKind.i64.wrap (r7 + (1 : Int))) (fun r23 w24 =>
   ∃ a25 : Addr, t1 = some a25 ∧
   St w24 a25 (.slice r23.a r23.len r23.cap) fun w26 =>
   K (0 : Int) w26) w16)) → l14 t15 w16) →
   l14 (0 : Int) w13) w9) ∧
   True)) w4
set_option maxRecDepth 100000 in
theorem S.tree_Tree_Take_ok (t1 : Option Addr) (s2 : Int) (s3 : Int) (K : Int → World → Prop) (w : World) (h : S.tree_Tree_Take t1 s2 s3 K w) : C.tree_Tree_Take t1 s2 s3 K w := by
  have e : fnV Try.prog Try.f26 (bodyOf Try.f26) (.t none (.u) (.t none (.u) (.t none (.t none (.u) (.t none (.t none (.u) (.u)) (.u))) (.t none (.r none (.one 0 496 (.one 1 496 (.one 2 496 (.one 4 456 (.one 5 456 (.one 6 136 (.one 7 8 (.hold 3 256 2047 (.alt 8 (.one 9 0 (.one 10 0 (.done))) (.none))))))))))) (.t none (.t none (.u) (.t none (.t (some [(25, .c (.i .i64))]) (.t none (.u) (.t none (.t none (.u) (.u)) (.t none (.t none (.t none (.u) (.u)) (.u)) (.u)))) (.u)) (.u))) (.t none (.u) (.t none (.u) (.u)))))))) [(0, .c (.i .i64))] [.pointer t1, .agg #[.int .i64 s2, .int .i64 s3]] K w = S.tree_Tree_Take t1 s2 s3 K w := by kernel_rfl
  exact okF_mk Try.func26 rfl (fn_sound names_ok follows_ok Try.func26 rfl (by kernel_rfl) (Eq.mpr e h))

/-- buttress/tree.New -/
def S.tree_New (K : Option Addr → World → Prop) (w : World) : Prop :=
  Al w (.cells #[.slice none 0 0] 86) fun w1 =>
   K (some (Addr.mk w.heap.size 0 none)) w1
set_option maxRecDepth 100000 in
theorem S.tree_New_ok (K : Option Addr → World → Prop) (w : World) (h : S.tree_New  K w) : C.tree_New  K w := by
  have e : fnV Try.prog Try.f27 (bodyOf Try.f27) (.t none (.u) (.t none (.u) (.u))) [(0, .c (.p))] [] K w = S.tree_New  K w := by kernel_rfl
  exact okF_mk Try.func27 rfl (fn_sound names_ok follows_ok Try.func27 rfl (by kernel_rfl) (Eq.mpr e h))

/-- (*buttress/tree.Tree).Copy -/
def S.tree_Tree_Copy (t1 : Option Addr) (K : Option Addr → World → Prop) (w : World) : Prop :=
  ∃ a2 : Addr, t1 = some a2 ∧
   ∃ l3 : Sl, w.cell? a2 = some (.slice l3.a l3.len l3.cap) ∧
   C.slices_Clone_tree_leaf_tree_leaf l3 (fun r4 w5 =>
   Al w5 (.cells #[.slice r4.a r4.len r4.cap] 86) fun w6 =>
   K (some (Addr.mk w5.heap.size 0 none)) w6) w
set_option maxRecDepth 100000 in
theorem S.tree_Tree_Copy_ok (t1 : Option Addr) (K : Option Addr → World → Prop) (w : World) (h : S.tree_Tree_Copy t1 K w) : C.tree_Tree_Copy t1 K w := by
  have e : fnV Try.prog Try.f28 (bodyOf Try.f28) (.t none (.u) (.t none (.u) (.u))) [(0, .c (.p))] [.pointer t1] K w = S.tree_Tree_Copy t1 K w := by kernel_rfl
  exact okF_mk Try.func28 rfl (fn_sound names_ok follows_ok Try.func28 rfl (by kernel_rfl) (Eq.mpr e h))

/-- (*buttress/tree.Tree).Root -/
def S.tree_Tree_Root (t1 : Option Addr) (s2 : Int) (s3 : Int) (K : Int → World → Prop) (w : World) : Prop :=
  Al w (.cells #[.int .i64 s2, .int .i64 s3] 29) fun w4 =>
   LdL w4 (Addr.mk w.heap.size 0 none) 0 [.i .i64, .i .i64] fun (t5 : Int) (t6 : Int) =>
   C.tree_Tree_place t1 t5 t6 (fun r7 w8 =>
   bif decide (r7 ≥ (0 : Int)) then
    (K (70 : Int) w8)
   else
    (Dr w8 fun w9 =>
   ∃ a10 : Addr, t1 = some a10 ∧
   ∃ l11 : Sl, w9.cell? a10 = some (.slice l11.a l11.len l11.cap) ∧
   LdL w9 (Addr.mk w.heap.size 0 none) 0 [.i .i64, .i .i64] fun (t12 : Int) (t13 : Int) =>
   (Al w9 (.cells #[.int .i64 t12, .int .i64 t13, .int .i64 (0 : Int)] 90) fun w14 =>
   (∃ (t15 : Sl) (w16 : World), AppR Try.prog [84, 84] 84 (.slice l11.a l11.len l11.cap) (.slice (some (Addr.mk w9.heap.size 0 none)) 1 1) w14 t15 w16 ∧
   ∃ a17 : Addr, t1 = some a17 ∧
   (St w16 a17 (.slice t15.a t15.len t15.cap) fun w18 =>
   K (0 : Int) w18) ∧
   True) ∧
   True) ∧
   True)) w4
set_option maxRecDepth 100000 in
theorem S.tree_Tree_Root_ok (t1 : Option Addr) (s2 : Int) (s3 : Int) (K : Int → World → Prop) (w : World) (h : S.tree_Tree_Root t1 s2 s3 K w) : C.tree_Tree_Root t1 s2 s3 K w := by
  have e : fnV Try.prog Try.f29 (bodyOf Try.f29) (.t none (.u) (.t none (.t none (.u) (.t none (.t none (.u) (.u)) (.u))) (.t none (.r none (.one 0 510 (.one 1 224 (.one 2 224 (.one 3 224 (.one 4 224 (.one 5 0 (.one 6 0 (.alt 7 (.alt 8 (.one 9 0 (.one 10 0 (.alt 11 (.done) (.none)))) (.none)) (.none)))))))))) (.t none (.u) (.u))))) [(0, .c (.i .i64))] [.pointer t1, .agg #[.int .i64 s2, .int .i64 s3]] K w = S.tree_Tree_Root t1 s2 s3 K w := by kernel_rfl
  exact okF_mk Try.func29 rfl (fn_sound names_ok follows_ok Try.func29 rfl (by kernel_rfl) (Eq.mpr e h))

/-- buttress/tree.slotsOf -/
def S.tree_slotsOf (l1 : Sl) (K : Sl → World → Prop) (w : World) : Prop :=
  ∀ l2 : Sl → Int → World → Prop,
   (∀ (out3 : Sl) (t4 : Int) (w5 : World), (bif decide (t4 < (l1.len : Int)) then
    (∃ a6 : Addr, l1.a = some a6 ∧ 0 ≤ t4 ∧ t4 < (l1.len : Int) ∧
   LdL w5 (a6.add (t4.toNat * 3)) 0 [.i .i64, .i .i64, .i .i64] fun (t7 : Int) (t8 : Int) (t9 : Int) =>
   Al w5 (.cells #[.int .i64 (0 : Int), .int .i64 (0 : Int), .int .i64 (0 : Int)] 90) fun w10 =>
   StL w10 (Addr.mk w5.heap.size 0 none) 0 [.int .i64 t7, .int .i64 t8, .int .i64 t9] fun w11 =>
   LdL w11 (Addr.mk w5.heap.size 0 none) 0 [.i .i64, .i .i64] fun (s12 : Int) (s13 : Int) =>
   Al w11 (.cells #[.int .i64 s12, .int .i64 s13] 29) fun w14 =>
   ∃ (t15 : Sl) (w16 : World), AppR Try.prog [25, 25] 25 (.slice out3.a out3.len out3.cap) (.slice (some (Addr.mk w11.heap.size 0 none)) 1 1) w14 t15 w16 ∧
   l2 t15 (IntKind.i64.wrap (t4 + (1 : Int))) w16)
   else
    (K out3 w5)) → l2 out3 t4 w5) →
   l2 ⟨none, 0, 0⟩ (0 : Int) w
set_option maxRecDepth 100000 in
theorem S.tree_slotsOf_ok (l1 : Sl) (K : Sl → World → Prop) (w : World) (h : S.tree_slotsOf l1 K w) : C.tree_slotsOf l1 K w := by
  have e : fnV Try.prog Try.f56 (bodyOf Try.f56) (.t none (.u) (.t none (.u) (.t none (.t none (.u) (.t none (.t (some [(3, .c (.s)), (8, .c (.i .i64))]) (.t none (.u) (.t none (.t none (.u) (.u)) (.t none (.t none (.t none (.u) (.u)) (.u)) (.u)))) (.u)) (.u))) (.t none (.u) (.u))))) [(0, .c (.s))] [.slice l1.a l1.len l1.cap] K w = S.tree_slotsOf l1 K w := by kernel_rfl
  exact okF_mk Try.func56 rfl (fn_sound names_ok follows_ok Try.func56 rfl (by kernel_rfl) (Eq.mpr e h))

/-- (*buttress/tree.Tree).place -/
def S.tree_Tree_place (t1 : Option Addr) (s2 : Int) (s3 : Int) (K : Int → World → Prop) (w : World) : Prop :=
  Al w (.cells #[.int .i64 s2, .int .i64 s3] 29) fun w4 =>
   ∃ a5 : Addr, t1 = some a5 ∧
   ∃ l6 : Sl, w4.cell? a5 = some (.slice l6.a l6.len l6.cap) ∧
   C.slices_IndexFunc_tree_leaf_tree_leaf l6 (.func (.func 78) #[] #[.pointer (some (Addr.mk w.heap.size 0 none))]) (fun r7 w8 =>
   K r7 w8) w4
set_option maxRecDepth 100000 in
theorem S.tree_Tree_place_ok (t1 : Option Addr) (s2 : Int) (s3 : Int) (K : Int → World → Prop) (w : World) (h : S.tree_Tree_place t1 s2 s3 K w) : C.tree_Tree_place t1 s2 s3 K w := by
  have e : fnV Try.prog Try.f57 (bodyOf Try.f57) (.t none (.u) (.t none (.u) (.u))) [(0, .c (.i .i64))] [.pointer t1, .agg #[.int .i64 s2, .int .i64 s3]] K w = S.tree_Tree_place t1 s2 s3 K w := by kernel_rfl
  exact okF_mk Try.func57 rfl (fn_sound names_ok follows_ok Try.func57 rfl (by kernel_rfl) (Eq.mpr e h))

/-- (*buttress/tree.Tree).end -/
def S.tree_Tree_end (t1 : Option Addr) (i2 : Int) (K : Int → World → Prop) (w : World) : Prop :=
  ∀ l3 : Int → World → Prop,
   (∀ (k4 : Int) (w5 : World), (Dr w5 fun w6 =>
   ∃ a7 : Addr, t1 = some a7 ∧
   ∃ l8 : Sl, w6.cell? a7 = some (.slice l8.a l8.len l8.cap) ∧
   bif decide (k4 < (l8.len : Int)) then
    (∃ a9 : Addr, t1 = some a9 ∧
   ∃ l10 : Sl, w6.cell? a9 = some (.slice l10.a l10.len l10.cap) ∧
   ∃ a11 : Addr, l10.a = some a11 ∧ 0 ≤ k4 ∧ k4 < (l10.len : Int) ∧
   ∃ depth12 : Int, w6.cell? ((a11.add (k4.toNat * 3)).add 2) = some (.int .i64 depth12) ∧
   ∃ a13 : Addr, t1 = some a13 ∧
   ∃ l14 : Sl, w6.cell? a13 = some (.slice l14.a l14.len l14.cap) ∧
   ∃ a15 : Addr, l14.a = some a15 ∧ 0 ≤ i2 ∧ i2 < (l14.len : Int) ∧
   ∃ depth16 : Int, w6.cell? ((a15.add (i2.toNat * 3)).add 2) = some (.int .i64 depth16) ∧
   bif decide (depth12 > depth16) then
    (l3 (IntKind.i64.wrap (k4 + (1 : Int))) w6)
   else
    (K k4 w6))
   else
    (K k4 w6)) → l3 k4 w5) →
   l3 (IntKind.i64.wrap (i2 + (1 : Int))) w
set_option maxRecDepth 100000 in
theorem S.tree_Tree_end_ok (t1 : Option Addr) (i2 : Int) (K : Int → World → Prop) (w : World) (h : S.tree_Tree_end t1 i2 K w) : C.tree_Tree_end t1 i2 K w := by
  have e : fnV Try.prog Try.f58 (bodyOf Try.f58) (.t none (.u) (.t none (.u) (.t none (.t none (.t (some [(5, .c (.i .i64))]) (.t none (.t none (.r none (.one 0 62 (.one 1 0 (.one 2 0 (.one 3 0 (.one 4 0 (.one 5 0 (.one 6 0 (.one 7 0 (.one 8 16715776 (.one 9 16715776 (.one 10 16715776 (.one 11 16715776 (.one 12 16711680 (.one 13 16711680 (.one 14 16711680 (.one 15 16711680 (.one 16 1048576 (.one 17 1048576 (.one 18 1048576 (.one 19 1048576 (.one 20 0 (.one 21 0 (.one 22 0 (.one 23 0 (.one 24 0 (.one 25 0 (.done)))))))))))))))))))))))))))) (.t none (.u) (.u))) (.t none (.u) (.u))) (.u)) (.u)) (.t none (.u) (.u))))) [(0, .c (.i .i64))] [.pointer t1, .int .i64 i2] K w = S.tree_Tree_end t1 i2 K w := by kernel_rfl
  exact okF_mk Try.func58 rfl (fn_sound names_ok follows_ok Try.func58 rfl (by kernel_rfl) (Eq.mpr e h))

/-- (*buttress/tree.Tree).place$1 -/
def S.tree_Tree_place_1 (x1 : Int) (x2 : Int) (x3 : Int) (t4 : Addr) (K : Bool → World → Prop) (w : World) : Prop :=
  Al w (.cells #[.int .i64 x1, .int .i64 x2, .int .i64 x3] 90) fun w5 =>
   LdL w5 (Addr.mk w.heap.size 0 none) 0 [.i .i64, .i .i64] fun (s6 : Int) (s7 : Int) =>
   LdL w5 t4 0 [.i .i64, .i .i64] fun (t8 : Int) (t9 : Int) =>
   ∃ eq10 : Bool, EqB Try.prog .eql 29 (.tmp 5) (.tmp 6) (.agg #[.int .i64 s6, .int .i64 s7]) (.agg #[.int .i64 t8, .int .i64 t9]) eq10 ∧
   K eq10 w5
set_option maxRecDepth 100000 in
theorem S.tree_Tree_place_1_ok (x1 : Int) (x2 : Int) (x3 : Int) (t4 : Addr) (K : Bool → World → Prop) (w : World) (h : S.tree_Tree_place_1 x1 x2 x3 t4 K w) : C.tree_Tree_place_1 x1 x2 x3 t4 K w := by
  have e : fnV Try.prog Try.f78 (bodyOf Try.f78) (.t none (.u) (.t none (.u) (.u))) [(0, .c (.b))] [.agg #[.int .i64 x1, .int .i64 x2, .int .i64 x3], .pointer (some t4)] K w = S.tree_Tree_place_1 x1 x2 x3 t4 K w := by kernel_rfl
  exact okF_mk Try.func78 rfl (fn_sound names_ok follows_ok Try.func78 rfl (by kernel_rfl) (Eq.mpr e h))

/-- buttress/words.Field -/
def S.words_Field (v1 : Int) (at2 : Int) (n3 : Int) (K : Int → Int → World → Prop) (w : World) : Prop :=
  C.words_there at2 n3 (fun r4 w5 =>
   bif !r4 then
    (K (0 : Int) (1 : Int) w5)
   else
    (Dr w5 fun w6 =>
   0 ≤ at2 ∧
   (C.words_low n3 (fun r7 w8 =>
   K (andI .u64 (shrI .u64 v1 at2) r7) (0 : Int) w8) w6) ∧
   True)) w
set_option maxRecDepth 100000 in
theorem S.words_Field_ok (v1 : Int) (at2 : Int) (n3 : Int) (K : Int → Int → World → Prop) (w : World) (h : S.words_Field v1 at2 n3 K w) : C.words_Field v1 at2 n3 K w := by
  have e : fnV Try.prog Try.f85 (bodyOf Try.f85) (.t none (.u) (.t none (.t none (.u) (.t none (.t none (.u) (.u)) (.u))) (.t none (.r none (.one 0 26 (.one 1 24 (.one 2 24 (.one 3 0 (.alt 4 (.one 5 0 (.one 6 0 (.one 7 0 (.done)))) (.none))))))) (.u)))) [(0, .c (.i .u64)), (1, .c (.i .i64))] [.int .u64 v1, .int .i64 at2, .int .i64 n3] K w = S.words_Field v1 at2 n3 K w := by kernel_rfl
  exact okF_mk Try.func85 rfl (fn_sound names_ok follows_ok Try.func85 rfl (by kernel_rfl) (Eq.mpr e h))

/-- buttress/words.there -/
def S.words_there (at1 : Int) (n2 : Int) (K : Bool → World → Prop) (w : World) : Prop :=
  bif decide (at1 ≥ (0 : Int)) then
    (bif decide (n2 ≥ (0 : Int)) then
    (bif decide (at1 ≤ (64 : Int)) then
    (K (decide (n2 ≤ (IntKind.i64.wrap ((64 : Int) - at1)))) w)
   else
    (K false w))
   else
    (K false w))
   else
    (K false w)
set_option maxRecDepth 100000 in
theorem S.words_there_ok (at1 : Int) (n2 : Int) (K : Bool → World → Prop) (w : World) (h : S.words_there at1 n2 K w) : C.words_there at1 n2 K w := by
  have e : fnV Try.prog Try.f91 (bodyOf Try.f91) (.t none (.u) (.t none (.u) (.u))) [(0, .c (.b))] [.int .i64 at1, .int .i64 n2] K w = S.words_there at1 n2 K w := by kernel_rfl
  exact okF_mk Try.func91 rfl (fn_sound names_ok follows_ok Try.func91 rfl (by kernel_rfl) (Eq.mpr e h))

/-- buttress/words.low -/
def S.words_low (n1 : Int) (K : Int → World → Prop) (w : World) : Prop :=
  0 ≤ n1 ∧
   K (IntKind.u64.wrap ((shlI .u64 (1 : Int) n1) - (1 : Int))) w
set_option maxRecDepth 100000 in
theorem S.words_low_ok (n1 : Int) (K : Int → World → Prop) (w : World) (h : S.words_low n1 K w) : C.words_low n1 K w := by
  have e : fnV Try.prog Try.f92 (bodyOf Try.f92) (.t none (.u) (.t none (.u) (.u))) [(0, .c (.i .u64))] [.int .i64 n1] K w = S.words_low n1 K w := by kernel_rfl
  exact okF_mk Try.func92 rfl (fn_sound names_ok follows_ok Try.func92 rfl (by kernel_rfl) (Eq.mpr e h))
end Go.Proofs.Ytmfbhjfkagnahaa
