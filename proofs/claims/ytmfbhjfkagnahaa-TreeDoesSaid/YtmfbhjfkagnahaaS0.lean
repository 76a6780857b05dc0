/- The functions' texts, and that a call comes to them. Printed by a program of mine (gen.py). -/
import Derived.Test.YtmfbhjfkagnahaaC
set_option linter.unusedVariables false
namespace Go.Proofs.Ytmfbhjfkagnahaa
open Go Go.Vc Go.Proofs

/-- cmp.Less[int] -/
def S.cmp_Less_int (x1 : Int) (y2 : Int) (K : Bool → World → Prop) (w : World) : Prop :=
  C.cmp_isNaN_int x1 (fun r3 w4 =>
   bif r3 then
    (C.cmp_isNaN_int y2 (fun r5 w6 =>
   bif !r5 then
    (K true w6)
   else
    (K (decide (x1 < y2)) w6)) w4)
   else
    (K (decide (x1 < y2)) w4)) w
set_option maxRecDepth 100000 in
theorem S.cmp_Less_int_ok (x1 : Int) (y2 : Int) (K : Bool → World → Prop) (w : World) (h : S.cmp_Less_int x1 y2 K w) : C.cmp_Less_int x1 y2 K w := by
  have e : fnV Try.prog Try.f103 (bodyOf Try.f103) (.t none (.u) (.t none (.u) (.u))) [(0, .c (.b))] [.int .i64 x1, .int .i64 y2] K w = S.cmp_Less_int x1 y2 K w := by kernel_rfl
  exact okF_mk Try.func103 rfl (fn_sound names_ok follows_ok Try.func103 rfl (by kernel_rfl) (Eq.mpr e h))

/-- cmp.isNaN[int] -/
def S.cmp_isNaN_int (x1 : Int) (K : Bool → World → Prop) (w : World) : Prop :=
  K (x1 != x1) w
set_option maxRecDepth 100000 in
theorem S.cmp_isNaN_int_ok (x1 : Int) (K : Bool → World → Prop) (w : World) (h : S.cmp_isNaN_int x1 K w) : C.cmp_isNaN_int x1 K w := by
  have e : fnV Try.prog Try.f113 (bodyOf Try.f113) (.t none (.u) (.t none (.u) (.u))) [(0, .c (.b))] [.int .i64 x1] K w = S.cmp_isNaN_int x1 K w := by kernel_rfl
  exact okF_mk Try.func113 rfl (fn_sound names_ok follows_ok Try.func113 rfl (by kernel_rfl) (Eq.mpr e h))

/-- buttress/buttresslaw07.TreeUnder -/
def S.law07_TreeUnder (script1 : Sl) (K : Bool → World → Prop) (w : World) : Prop :=
  C.law07_laid script1 (fun r2 w3 =>
   bif r2.isNone then
    (K false w3)
   else
    (C.tree_Tree_All r2 (fun r4 w5 =>
   ∀ l6 : Int → World → Prop,
   (∀ (i7 : Int) (w8 : World), (bif decide (i7 < (r4.len : Int)) then
    (∃ a9 : Addr, r4.a = some a9 ∧ 0 ≤ i7 ∧ i7 < (r4.len : Int) ∧
   LdL w8 (a9.add (i7.toNat * 2)) 0 [.i .i64, .i .i64] fun (t10 : Int) (t11 : Int) =>
   C.tree_Tree_Under r2 t10 t11 (fun r12 w13 =>
   ∀ l14 : Int → World → Prop,
   (∀ (k15 : Int) (w16 : World), (bif decide (k15 < (r4.len : Int)) then
    (∃ a17 : Addr, r4.a = some a17 ∧ 0 ≤ k15 ∧ k15 < (r4.len : Int) ∧
   LdL w16 (a17.add (k15.toNat * 2)) 0 [.i .i64, .i .i64] fun (t18 : Int) (t19 : Int) =>
   C.tree_Tree_Parent r2 t18 t19 (fun r20 r21 r22 w23 =>
   Al w23 (.cells #[.int .i64 (0 : Int), .int .i64 (0 : Int)] 29) fun w24 =>
   StL w24 (Addr.mk w23.heap.size 0 none) 0 [.int .i64 r20, .int .i64 r21] fun w25 =>
   ∀ k26 : Bool → World → Prop,
   (∀ (t27 : Bool) (w28 : World), (bif t27 then
    (K false w28)
   else
    (l14 (IntKind.i64.wrap (k15 + (1 : Int))) w28)) → k26 t27 w28) →
   (Dr w25 fun w29 =>
   ∃ a30 : Addr, r4.a = some a30 ∧ 0 ≤ k15 ∧ k15 < (r4.len : Int) ∧
   LdL w29 (a30.add (k15.toNat * 2)) 0 [.i .i64, .i .i64] fun (t31 : Int) (t32 : Int) =>
   (C.law07_among r12 t31 t32 (fun r33 w34 =>
   bif r22 then
    (LdL w34 (Addr.mk w23.heap.size 0 none) 0 [.i .i64, .i .i64] fun (t35 : Int) (t36 : Int) =>
   ∃ a37 : Addr, r4.a = some a37 ∧ 0 ≤ i7 ∧ i7 < (r4.len : Int) ∧
   LdL w34 (a37.add (i7.toNat * 2)) 0 [.i .i64, .i .i64] fun (t38 : Int) (t39 : Int) =>
   ∃ eq40 : Bool, EqB Try.prog .eql 29 (.tmp 51) (.tmp 55) (.agg #[.int .i64 t35, .int .i64 t36]) (.agg #[.int .i64 t38, .int .i64 t39]) eq40 ∧
   bif eq40 then
    ((bif !(r33 == true) then
    (k26 true w34)
   else
    (bif i7 != k15 then
    (∃ a41 : Addr, r4.a = some a41 ∧ 0 ≤ i7 ∧ i7 < (r4.len : Int) ∧
   LdL w34 (a41.add (i7.toNat * 2)) 0 [.i .i64, .i .i64] fun (t42 : Int) (t43 : Int) =>
   ∃ a44 : Addr, r4.a = some a44 ∧ 0 ≤ k15 ∧ k15 < (r4.len : Int) ∧
   LdL w34 (a44.add (k15.toNat * 2)) 0 [.i .i64, .i .i64] fun (t45 : Int) (t46 : Int) =>
   ∃ eq47 : Bool, EqB Try.prog .eql 29 (.tmp 72) (.tmp 76) (.agg #[.int .i64 t42, .int .i64 t43]) (.agg #[.int .i64 t45, .int .i64 t46]) eq47 ∧
   k26 eq47 w34)
   else
    (k26 false w34))) ∧
   True)
   else
    (LdL w34 (Addr.mk w23.heap.size 0 none) 0 [.i .i64, .i .i64] fun (t48 : Int) (t49 : Int) =>
   (C.law07_among r12 t48 t49 (fun r50 w51 =>
   bif !(r33 == r50) then
    (k26 true w51)
   else
    (bif i7 != k15 then
    (∃ a52 : Addr, r4.a = some a52 ∧ 0 ≤ i7 ∧ i7 < (r4.len : Int) ∧
   LdL w51 (a52.add (i7.toNat * 2)) 0 [.i .i64, .i .i64] fun (t53 : Int) (t54 : Int) =>
   ∃ a55 : Addr, r4.a = some a55 ∧ 0 ≤ k15 ∧ k15 < (r4.len : Int) ∧
   LdL w51 (a55.add (k15.toNat * 2)) 0 [.i .i64, .i .i64] fun (t56 : Int) (t57 : Int) =>
   ∃ eq58 : Bool, EqB Try.prog .eql 29 (.tmp 72) (.tmp 76) (.agg #[.int .i64 t53, .int .i64 t54]) (.agg #[.int .i64 t56, .int .i64 t57]) eq58 ∧
   k26 eq58 w51)
   else
    (k26 false w51))) w34) ∧
   True))
   else
    ((bif !(r33 == false) then
    (k26 true w34)
   else
    (bif i7 != k15 then
    (∃ a59 : Addr, r4.a = some a59 ∧ 0 ≤ i7 ∧ i7 < (r4.len : Int) ∧
   LdL w34 (a59.add (i7.toNat * 2)) 0 [.i .i64, .i .i64] fun (t60 : Int) (t61 : Int) =>
   ∃ a62 : Addr, r4.a = some a62 ∧ 0 ≤ k15 ∧ k15 < (r4.len : Int) ∧
   LdL w34 (a62.add (k15.toNat * 2)) 0 [.i .i64, .i .i64] fun (t63 : Int) (t64 : Int) =>
   ∃ eq65 : Bool, EqB Try.prog .eql 29 (.tmp 72) (.tmp 76) (.agg #[.int .i64 t60, .int .i64 t61]) (.agg #[.int .i64 t63, .int .i64 t64]) eq65 ∧
   k26 eq65 w34)
   else
    (k26 false w34))) ∧
   True)) w29) ∧
   True)) w16)
   else
    (∃ a66 : Addr, r4.a = some a66 ∧ 0 ≤ i7 ∧ i7 < (r4.len : Int) ∧
   LdL w16 (a66.add (i7.toNat * 2)) 0 [.i .i64, .i .i64] fun (t67 : Int) (t68 : Int) =>
   C.law07_among r12 t67 t68 (fun r69 w70 =>
   bif r69 then
    (K false w70)
   else
    (l6 (IntKind.i64.wrap (i7 + (1 : Int))) w70)) w16)) → l14 k15 w16) →
   l14 (0 : Int) w13) w8)
   else
    (C.law07_fixed  (fun r71 w72 =>
   K r71 w72) w8)) → l6 i7 w8) →
   l6 (0 : Int) w5) w3)) w
set_option maxRecDepth 100000 in
theorem S.law07_TreeUnder_ok (script1 : Sl) (K : Bool → World → Prop) (w : World) (h : S.law07_TreeUnder script1 K w) : C.law07_TreeUnder script1 K w := by
  have e : fnV Try.prog Try.f3 (bodyOf Try.f3) (.t none (.u) (.t none (.u) (.t none (.t none (.u) (.t none (.t none (.u) (.u)) (.u))) (.t none (.u) (.t none (.t none (.u) (.t none (.t (some [(5, .c (.i .i64))]) (.t none (.t none (.u) (.t none (.u) (.u))) (.t none (.t none (.t none (.u) (.t none (.t none (.u) (.t none (.t (some [(7, .c (.i .i64))]) (.t none (.t none (.u) (.t none (.u) (.u))) (.t none (.t none (.t none (.u) (.t none (.r (some [(79, .c (.b))]) (.one 0 94 (.one 1 68 (.one 2 64 (.one 3 64 (.one 4 64 (.one 6 32 (.alt 5 (.one 7 0 (.one 8 7680 (.one 9 1024 (.one 10 0 (.one 11 0 (.one 12 0 (.one 13 0 (.one 14 0 (.one 15 65536 (.one 16 0 (.alt 17 (.one 18 0 (.one 19 0 (.one 20 0 (.one 21 0 (.one 22 8388608 (.one 23 0 (.one 24 0 (.one 25 0 (.one 26 16240345088 (.one 27 16106127360 (.one 28 16106127360 (.one 29 16106127360 (.one 30 2147483648 (.one 31 0 (.one 32 0 (.one 33 0 (.one 34 0 (.one 35 0 (.one 36 0 (.done)))))))))))))))))))) (.none)))))))))))) (.none))))))))) (.t none (.t none (.u) (.u)) (.u)))) (.u)) (.u))) (.u)) (.u))) (.t none (.u) (.t none (.t none (.u) (.u)) (.u))))) (.u)) (.u))) (.u)) (.u))) (.t none (.u) (.u))))))) [(0, .c (.b))] [.slice script1.a script1.len script1.cap] K w = S.law07_TreeUnder script1 K w := by kernel_rfl
  exact okF_mk Try.func3 rfl (fn_sound names_ok follows_ok Try.func3 rfl (by kernel_rfl) (Eq.mpr e h))

/-- buttress/buttresslaw07.TreeMoves -/
def S.law07_TreeMoves (script1 : Sl) (n2 : Int) (K : Bool → World → Prop) (w : World) : Prop :=
  C.law07_laid script1 (fun r3 w4 =>
   bif r3.isNone then
    (K false w4)
   else
    (C.tree_Tree_All r3 (fun r5 w6 =>
   bif (r5.len : Int) == (0 : Int) then
    (C.law07_fixed  (fun r7 w8 =>
   K r7 w8) w6)
   else
    ((r5.len : Int) ≠ 0 ∧
   ∃ a9 : Addr, r5.a = some a9 ∧ 0 ≤ (andI .i64 n2 (65535 : Int)).tmod (r5.len : Int) ∧ (andI .i64 n2 (65535 : Int)).tmod (r5.len : Int) < (r5.len : Int) ∧
   LdL w6 (a9.add (((andI .i64 n2 (65535 : Int)).tmod (r5.len : Int)).toNat * 2)) 0 [.i .i64, .i .i64] fun (t10 : Int) (t11 : Int) =>
   Al w6 (.cells #[.int .i64 (0 : Int), .int .i64 (0 : Int)] 29) fun w12 =>
   Al w12 (.cells #[.int .i64 (0 : Int), .int .i64 (0 : Int)] 29) fun w13 =>
   StL w13 (Addr.mk w6.heap.size 0 none) 0 [.int .i64 t10, .int .i64 t11] fun w14 =>
   StL w14 (Addr.mk w12.heap.size 0 none) 0 [.int .i64 (1099511627776 : Int), .int .i64 (1099511627776 : Int)] fun w15 =>
   LdL w15 (Addr.mk w12.heap.size 0 none) 0 [.i .i64, .i .i64] fun (t16 : Int) (t17 : Int) =>
   C.law07_among r5 t16 t17 (fun r18 w19 =>
   bif r18 then
    (C.law07_fixed  (fun r20 w21 =>
   K r20 w21) w19)
   else
    (LdL w19 (Addr.mk w6.heap.size 0 none) 0 [.i .i64, .i .i64] fun (t22 : Int) (t23 : Int) =>
   C.tree_Tree_Under r3 t22 t23 (fun r24 w25 =>
   LdL w25 (Addr.mk w6.heap.size 0 none) 0 [.i .i64, .i .i64] fun (t26 : Int) (t27 : Int) =>
   C.tree_Tree_Parent r3 t26 t27 (fun r28 r29 r30 w31 =>
   Al w31 (.cells #[.int .i64 (0 : Int), .int .i64 (0 : Int)] 29) fun w32 =>
   StL w32 (Addr.mk w31.heap.size 0 none) 0 [.int .i64 r28, .int .i64 r29] fun w33 =>
   LdL w33 (Addr.mk w6.heap.size 0 none) 0 [.i .i64, .i .i64] fun (t34 : Int) (t35 : Int) =>
   LdL w33 (Addr.mk w12.heap.size 0 none) 0 [.i .i64, .i .i64] fun (t36 : Int) (t37 : Int) =>
   C.tree_Tree_Move r3 t34 t35 t36 t37 (fun r38 w39 =>
   LdL w39 (Addr.mk w12.heap.size 0 none) 0 [.i .i64, .i .i64] fun (t40 : Int) (t41 : Int) =>
   C.tree_Tree_Parent r3 t40 t41 (fun r42 r43 r44 w45 =>
   Al w45 (.cells #[.int .i64 (0 : Int), .int .i64 (0 : Int)] 29) fun w46 =>
   StL w46 (Addr.mk w45.heap.size 0 none) 0 [.int .i64 r42, .int .i64 r43] fun w47 =>
   LdL w47 (Addr.mk w12.heap.size 0 none) 0 [.i .i64, .i .i64] fun (t48 : Int) (t49 : Int) =>
   C.tree_Tree_Under r3 t48 t49 (fun r50 w51 =>
   LdL w51 (Addr.mk w12.heap.size 0 none) 0 [.i .i64, .i .i64] fun (t52 : Int) (t53 : Int) =>
   LdL w51 (Addr.mk w6.heap.size 0 none) 0 [.i .i64, .i .i64] fun (t54 : Int) (t55 : Int) =>
   C.tree_Tree_Move r3 t52 t53 t54 t55 (fun r56 w57 =>
   bif r38 == (0 : Int) then
    (bif r56 == (0 : Int) then
    (LdL w57 (Addr.mk w31.heap.size 0 none) 0 [.i .i64, .i .i64] fun (t58 : Int) (t59 : Int) =>
   LdL w57 (Addr.mk w45.heap.size 0 none) 0 [.i .i64, .i .i64] fun (t60 : Int) (t61 : Int) =>
   ∃ eq62 : Bool, EqB Try.prog .eql 29 (.tmp 73) (.tmp 74) (.agg #[.int .i64 t58, .int .i64 t59]) (.agg #[.int .i64 t60, .int .i64 t61]) eq62 ∧
   bif eq62 then
    (bif r30 == r44 then
    (C.ref07_Same r24 r50 (fun r63 w64 =>
   bif r63 then
    (C.tree_Tree_All r3 (fun r65 w66 =>
   C.ref07_Same r65 r5 (fun r67 w68 =>
   bif r67 then
    (C.law07_fixed  (fun r69 w70 =>
   K r69 w70) w68)
   else
    (K false w68)) w66) w64)
   else
    (K false w64)) w57)
   else
    (K false w57))
   else
    (K false w57))
   else
    (K false w57))
   else
    (K false w57)) w51) w47) w39) w33) w25) w19)) w15)) w4)) w
set_option maxRecDepth 100000 in
theorem S.law07_TreeMoves_ok (script1 : Sl) (n2 : Int) (K : Bool → World → Prop) (w : World) (h : S.law07_TreeMoves script1 n2 K w) : C.law07_TreeMoves script1 n2 K w := by
  have e : fnV Try.prog Try.f4 (bodyOf Try.f4) (.t none (.u) (.t none (.u) (.t none (.t none (.u) (.t none (.t none (.u) (.u)) (.u))) (.t none (.u) (.t none (.t none (.u) (.t none (.t none (.u) (.u)) (.u))) (.t none (.u) (.t none (.t none (.u) (.t none (.t none (.u) (.u)) (.u))) (.t none (.u) (.t none (.u) (.t none (.u) (.t none (.u) (.t none (.u) (.t none (.u) (.t none (.u) (.u))))))))))))))) [(0, .c (.b))] [.slice script1.a script1.len script1.cap, .int .i64 n2] K w = S.law07_TreeMoves script1 n2 K w := by kernel_rfl
  exact okF_mk Try.func4 rfl (fn_sound names_ok follows_ok Try.func4 rfl (by kernel_rfl) (Eq.mpr e h))

/-- buttress/buttresslaw07.TreeAdds -/
def S.law07_TreeAdds (script1 : Sl) (n2 : Int) (K : Bool → World → Prop) (w : World) : Prop :=
  C.law07_laid script1 (fun r3 w4 =>
   bif r3.isNone then
    (K false w4)
   else
    (C.tree_Tree_All r3 (fun r5 w6 =>
   Al w6 (.cells #[.int .i64 (0 : Int), .int .i64 (0 : Int)] 29) fun w7 =>
   StL w7 (Addr.mk w6.heap.size 0 none) 0 [.int .i64 (1099511627776 : Int), .int .i64 (0 : Int)] fun w8 =>
   ∀ k9 : Bool → World → Prop,
   (∀ (t10 : Bool) (w11 : World), (bif t10 then
    (C.law07_fixed  (fun r12 w13 =>
   K r12 w13) w11)
   else
    ((r5.len : Int) ≠ 0 ∧
   ∃ a14 : Addr, r5.a = some a14 ∧ 0 ≤ (andI .i64 n2 (65535 : Int)).tmod (r5.len : Int) ∧ (andI .i64 n2 (65535 : Int)).tmod (r5.len : Int) < (r5.len : Int) ∧
   LdL w11 (a14.add (((andI .i64 n2 (65535 : Int)).tmod (r5.len : Int)).toNat * 2)) 0 [.i .i64, .i .i64] fun (t15 : Int) (t16 : Int) =>
   Al w11 (.cells #[.int .i64 (0 : Int), .int .i64 (0 : Int)] 29) fun w17 =>
   StL w17 (Addr.mk w11.heap.size 0 none) 0 [.int .i64 t15, .int .i64 t16] fun w18 =>
   LdL w18 (Addr.mk w11.heap.size 0 none) 0 [.i .i64, .i .i64] fun (t19 : Int) (t20 : Int) =>
   C.tree_Tree_Under r3 t19 t20 (fun r21 w22 =>
   LdL w22 (Addr.mk w11.heap.size 0 none) 0 [.i .i64, .i .i64] fun (t23 : Int) (t24 : Int) =>
   LdL w22 (Addr.mk w6.heap.size 0 none) 0 [.i .i64, .i .i64] fun (t25 : Int) (t26 : Int) =>
   C.tree_Tree_Add r3 t23 t24 t25 t26 (fun r27 w28 =>
   LdL w28 (Addr.mk w6.heap.size 0 none) 0 [.i .i64, .i .i64] fun (t29 : Int) (t30 : Int) =>
   C.tree_Tree_Parent r3 t29 t30 (fun r31 r32 r33 w34 =>
   Al w34 (.cells #[.int .i64 (0 : Int), .int .i64 (0 : Int)] 29) fun w35 =>
   StL w35 (Addr.mk w34.heap.size 0 none) 0 [.int .i64 r31, .int .i64 r32] fun w36 =>
   LdL w36 (Addr.mk w11.heap.size 0 none) 0 [.i .i64, .i .i64] fun (t37 : Int) (t38 : Int) =>
   C.tree_Tree_Under r3 t37 t38 (fun r39 w40 =>
   ∀ k41 : Bool → World → Prop,
   (∀ (t42 : Bool) (w43 : World), (bif t42 then
    (K false w43)
   else
    (LdL w43 (Addr.mk w6.heap.size 0 none) 0 [.i .i64, .i .i64] fun (t44 : Int) (t45 : Int) =>
   C.tree_Tree_Take r3 t44 t45 (fun r46 w47 =>
   bif r46 == (0 : Int) then
    (C.tree_Tree_All r3 (fun r48 w49 =>
   C.ref07_Same r48 r5 (fun r50 w51 =>
   bif r50 then
    (C.law07_fixed  (fun r52 w53 =>
   K r52 w53) w51)
   else
    (K false w51)) w49) w47)
   else
    (K false w47)) w43)) → k41 t42 w43) →
   (bif r27 != (0 : Int) then
    (k41 true w40)
   else
    (LdL w40 (Addr.mk w34.heap.size 0 none) 0 [.i .i64, .i .i64] fun (t54 : Int) (t55 : Int) =>
   LdL w40 (Addr.mk w11.heap.size 0 none) 0 [.i .i64, .i .i64] fun (t56 : Int) (t57 : Int) =>
   ∃ eq58 : Bool, EqB Try.prog .neq 29 (.tmp 57) (.tmp 58) (.agg #[.int .i64 t54, .int .i64 t55]) (.agg #[.int .i64 t56, .int .i64 t57]) eq58 ∧
   bif eq58 then
    (k41 true w40)
   else
    (bif !r33 then
    (k41 true w40)
   else
    (LdL w40 (Addr.mk w6.heap.size 0 none) 0 [.i .i64, .i .i64] fun (t59 : Int) (t60 : Int) =>
   C.tree_Tree_Under r3 t59 t60 (fun r61 w62 =>
   bif decide ((r61.len : Int) > (0 : Int)) then
    (k41 true w62)
   else
    (bif (r39.len : Int) != (IntKind.i64.wrap ((r21.len : Int) + (1 : Int))) then
    (k41 true w62)
   else
    (LdL w62 (Addr.mk w6.heap.size 0 none) 0 [.i .i64, .i .i64] fun (t63 : Int) (t64 : Int) =>
   C.law07_among r39 t63 t64 (fun r65 w66 =>
   bif !r65 then
    (k41 true w66)
   else
    (LdL w66 (Addr.mk w11.heap.size 0 none) 0 [.i .i64, .i .i64] fun (t67 : Int) (t68 : Int) =>
   LdL w66 (Addr.mk w6.heap.size 0 none) 0 [.i .i64, .i .i64] fun (t69 : Int) (t70 : Int) =>
   C.tree_Tree_Add r3 t67 t68 t69 t70 (fun r71 w72 =>
   k41 (r71 != (70 : Int)) w72) w66)) w62))) w40))))) w36) w28) w22) w18)) → k9 t10 w11) →
   (bif (r5.len : Int) == (0 : Int) then
    (k9 true w8)
   else
    (LdL w8 (Addr.mk w6.heap.size 0 none) 0 [.i .i64, .i .i64] fun (t73 : Int) (t74 : Int) =>
   C.law07_among r5 t73 t74 (fun r75 w76 =>
   k9 r75 w76) w8))) w4)) w
set_option maxRecDepth 100000 in
theorem S.law07_TreeAdds_ok (script1 : Sl) (n2 : Int) (K : Bool → World → Prop) (w : World) (h : S.law07_TreeAdds script1 n2 K w) : C.law07_TreeAdds script1 n2 K w := by
  have e : fnV Try.prog Try.f5 (bodyOf Try.f5) (.t none (.u) (.t none (.u) (.t none (.t none (.u) (.t none (.t none (.u) (.u)) (.u))) (.t none (.u) (.t none (.t none (.r (some [(28, .c (.b))]) .done) (.t none (.t none (.u) (.u)) (.u))) (.t none (.u) (.t none (.u) (.t none (.u) (.t none (.u) (.t none (.u) (.t none (.t none (.r (some [(92, .c (.b))]) .done) (.t none (.t none (.u) (.u)) (.u))) (.t none (.u) (.u))))))))))))) [(0, .c (.b))] [.slice script1.a script1.len script1.cap, .int .i64 n2] K w = S.law07_TreeAdds script1 n2 K w := by kernel_rfl
  exact okF_mk Try.func5 rfl (fn_sound names_ok follows_ok Try.func5 rfl (by kernel_rfl) (Eq.mpr e h))

/-- buttress/buttresslaw07.TreeRoots -/
def S.law07_TreeRoots (script1 : Sl) (K : Bool → World → Prop) (w : World) : Prop :=
  C.law07_laid script1 (fun r2 w3 =>
   bif r2.isNone then
    (K false w3)
   else
    (C.tree_Tree_All r2 (fun r4 w5 =>
   Al w5 (.cells #[] 29) fun w6 =>
   ∀ l7 : Sl → Int → World → Prop,
   (∀ (out8 : Sl) (i9 : Int) (w10 : World), (bif decide (i9 < (r4.len : Int)) then
    (∃ a11 : Addr, r4.a = some a11 ∧ 0 ≤ i9 ∧ i9 < (r4.len : Int) ∧
   LdL w10 (a11.add (i9.toNat * 2)) 0 [.i .i64, .i .i64] fun (t12 : Int) (t13 : Int) =>
   C.tree_Tree_Parent r2 t12 t13 (fun r14 r15 r16 w17 =>
   Al w17 (.cells #[.int .i64 (0 : Int), .int .i64 (0 : Int)] 29) fun w18 =>
   StL w18 (Addr.mk w17.heap.size 0 none) 0 [.int .i64 r14, .int .i64 r15] fun w19 =>
   bif !r16 then
    (∃ a20 : Addr, r4.a = some a20 ∧ 0 ≤ i9 ∧ i9 < (r4.len : Int) ∧
   LdL w19 (a20.add (i9.toNat * 2)) 0 [.i .i64, .i .i64] fun (t21 : Int) (t22 : Int) =>
   Al w19 (.cells #[.int .i64 t21, .int .i64 t22] 29) fun w23 =>
   ∃ (t24 : Sl) (w25 : World), AppR Try.prog [25, 25] 25 (.slice out8.a out8.len out8.cap) (.slice (some (Addr.mk w19.heap.size 0 none)) 1 1) w23 t24 w25 ∧
   ∃ a26 : Addr, r4.a = some a26 ∧ 0 ≤ i9 ∧ i9 < (r4.len : Int) ∧
   LdL w25 (a26.add (i9.toNat * 2)) 0 [.i .i64, .i .i64] fun (t27 : Int) (t28 : Int) =>
   C.tree_Tree_Under r2 t27 t28 (fun r29 w30 =>
   ∃ (t31 : Sl) (w32 : World), AppR Try.prog [25, 25] 25 (.slice t24.a t24.len t24.cap) (.slice r29.a r29.len r29.cap) w30 t31 w32 ∧
   l7 t31 (IntKind.i64.wrap (i9 + (1 : Int))) w32) w25)
   else
    (l7 out8 (IntKind.i64.wrap (i9 + (1 : Int))) w19)) w10)
   else
    (C.ref07_Same out8 r4 (fun r33 w34 =>
   bif r33 then
    (C.law07_fixed  (fun r35 w36 =>
   K r35 w36) w34)
   else
    (K false w34)) w10)) → l7 out8 i9 w10) →
   l7 ⟨some (Addr.mk w5.heap.size 0 none), 0, 0⟩ (0 : Int) w6) w3)) w
set_option maxRecDepth 100000 in
theorem S.law07_TreeRoots_ok (script1 : Sl) (K : Bool → World → Prop) (w : World) (h : S.law07_TreeRoots script1 K w) : C.law07_TreeRoots script1 K w := by
  have e : fnV Try.prog Try.f6 (bodyOf Try.f6) (.t none (.u) (.t none (.u) (.t none (.t none (.u) (.t none (.t none (.u) (.u)) (.u))) (.t none (.u) (.t none (.t none (.u) (.t none (.t (some [(5, .c (.s)), (6, .c (.i .i64))]) (.t none (.t none (.u) (.t none (.u) (.u))) (.t none (.t none (.t none (.u) (.t none (.u) (.t none (.t none (.u) (.u)) (.u)))) (.u)) (.u))) (.u)) (.u))) (.t none (.u) (.u))))))) [(0, .c (.b))] [.slice script1.a script1.len script1.cap] K w = S.law07_TreeRoots script1 K w := by kernel_rfl
  exact okF_mk Try.func6 rfl (fn_sound names_ok follows_ok Try.func6 rfl (by kernel_rfl) (Eq.mpr e h))

/-- buttress/buttresslaw07.TreeNone -/
def S.law07_TreeNone (script1 : Sl) (s2 : Int) (s3 : Int) (K : Bool → World → Prop) (w : World) : Prop :=
  Al w (.cells #[.int .i64 s2, .int .i64 s3] 29) fun w4 =>
   C.law07_laid script1 (fun r5 w6 =>
   bif r5.isNone then
    (K false w6)
   else
    (C.tree_Tree_All r5 (fun r7 w8 =>
   LdL w8 (Addr.mk w.heap.size 0 none) 0 [.i .i64, .i .i64] fun (t9 : Int) (t10 : Int) =>
   C.law07_among r7 t9 t10 (fun r11 w12 =>
   bif r11 then
    (C.law07_fixed  (fun r13 w14 =>
   K r13 w14) w12)
   else
    (LdL w12 (Addr.mk w.heap.size 0 none) 0 [.i .i64, .i .i64] fun (t15 : Int) (t16 : Int) =>
   C.tree_Tree_Parent r5 t15 t16 (fun r17 r18 r19 w20 =>
   Al w20 (.cells #[.int .i64 (0 : Int), .int .i64 (0 : Int)] 29) fun w21 =>
   StL w21 (Addr.mk w20.heap.size 0 none) 0 [.int .i64 r17, .int .i64 r18] fun w22 =>
   Dr w22 fun w23 =>
   LdL w23 (Addr.mk w.heap.size 0 none) 0 [.i .i64, .i .i64] fun (t24 : Int) (t25 : Int) =>
   LdL w23 (Addr.mk w.heap.size 0 none) 0 [.i .i64, .i .i64] fun (t26 : Int) (t27 : Int) =>
   LdL w23 (Addr.mk w.heap.size 0 none) 0 [.i .i64, .i .i64] fun (t28 : Int) (t29 : Int) =>
   (C.tree_Tree_Take r5 t24 t25 (fun r30 w31 =>
   HdL w31 (Addr.mk w.heap.size 0 none) 0 [.int .i64 t28, .int .i64 t29] (
   HdL w31 (Addr.mk w.heap.size 0 none) 0 [.int .i64 t26, .int .i64 t27] (
   (C.tree_Tree_Move r5 t26 t27 (0 : Int) (-5 : Int) (fun r32 w33 =>
   HdL w33 (Addr.mk w.heap.size 0 none) 0 [.int .i64 t28, .int .i64 t29] (
   (C.tree_Tree_Add r5 t28 t29 (0 : Int) (-6 : Int) (fun r34 w35 =>
   bif !r19 then
    (LdL w35 (Addr.mk w.heap.size 0 none) 0 [.i .i64, .i .i64] fun (t36 : Int) (t37 : Int) =>
   C.tree_Tree_Under r5 t36 t37 (fun r38 w39 =>
   bif (r38.len : Int) == (0 : Int) then
    (bif r30 == (71 : Int) then
    (bif r32 == (71 : Int) then
    (bif r34 == (71 : Int) then
    (C.tree_Tree_All r5 (fun r40 w41 =>
   C.ref07_Same r40 r7 (fun r42 w43 =>
   bif r42 then
    (C.law07_fixed  (fun r44 w45 =>
   K r44 w45) w43)
   else
    (K false w43)) w41) w39)
   else
    (K false w39))
   else
    (K false w39))
   else
    (K false w39))
   else
    (K false w39)) w35)
   else
    (K false w35)) w33) ∧
   True)) w31) ∧
   True))) w23) ∧
   True) w12)) w8) w6)) w4
set_option maxRecDepth 100000 in
theorem S.law07_TreeNone_ok (script1 : Sl) (s2 : Int) (s3 : Int) (K : Bool → World → Prop) (w : World) (h : S.law07_TreeNone script1 s2 s3 K w) : C.law07_TreeNone script1 s2 s3 K w := by
  have e : fnV Try.prog Try.f7 (bodyOf Try.f7) (.t none (.u) (.t none (.u) (.t none (.t none (.u) (.t none (.t none (.u) (.u)) (.u))) (.t none (.u) (.t none (.t none (.u) (.t none (.t none (.u) (.u)) (.u))) (.t none (.u) (.t none (.r none (.one 0 954 (.one 1 952 (.one 3 948 (.one 5 916 (.one 7 852 (.one 9 340 (.hold 4 260 15295 (.hold 8 68 15359 (.alt 2 (.alt 6 (.alt 10 (.one 11 0 (.one 12 0 (.one 13 0 (.done)))) (.none)) (.none)) (.none))))))))))) (.t none (.u) (.u))))))))) [(0, .c (.b))] [.slice script1.a script1.len script1.cap, .agg #[.int .i64 s2, .int .i64 s3]] K w = S.law07_TreeNone script1 s2 s3 K w := by kernel_rfl
  exact okF_mk Try.func7 rfl (fn_sound names_ok follows_ok Try.func7 rfl (by kernel_rfl) (Eq.mpr e h))

/-- buttress/buttresslaw07.TreeDoes -/
def S.law07_TreeDoes (script1 : Sl) (K : Bool → World → Prop) (w : World) : Prop :=
  C.tree_New  (fun r2 w3 =>
   Al w3 (.cells #[.slice none 0 0, .slice none 0 0] 45) fun w4 =>
   bif r2.isNone then
    (K false w4)
   else
    (∀ l5 : Option Addr → Int → World → Prop,
   (∀ (t6 : Option Addr) (i7 : Int) (w8 : World), (∀ k9 : Bool → World → Prop,
   (∀ (t10 : Bool) (w11 : World), (bif t10 then
    (∃ a12 : Addr, script1.a = some a12 ∧ 0 ≤ i7 ∧ i7 < (script1.len : Int) ∧
   LdL w11 (a12.add (i7.toNat * 5)) 0 [.i .i64, .i .i64, .i .i64, .i .i64, .i .i64] fun (t13 : Int) (t14 : Int) (t15 : Int) (t16 : Int) (t17 : Int) =>
   Al w11 (.cells #[.int .i64 (0 : Int), .int .i64 (0 : Int), .int .i64 (0 : Int), .int .i64 (0 : Int), .int .i64 (0 : Int)] 47) fun w18 =>
   StL w18 (Addr.mk w11.heap.size 0 none) 0 [.int .i64 t13, .int .i64 t14, .int .i64 t15, .int .i64 t16, .int .i64 t17] fun w19 =>
   ∃ kind20 : Int, w19.cell? (Addr.mk w11.heap.size 0 none) = some (.int .i64 kind20) ∧
   ∀ k21 : Option Addr → World → Prop,
   (∀ (t22 : Option Addr) (w23 : World), (LdL w23 (Addr.mk w11.heap.size 0 none) 0 [.i .i64, .i .i64, .i .i64, .i .i64, .i .i64] fun (kind24 : Int) (kind25 : Int) (kind26 : Int) (kind27 : Int) (kind28 : Int) =>
   C.law07_same t22 (some (Addr.mk w3.heap.size 0 none)) kind24 kind25 kind26 kind27 kind28 (fun r29 w30 =>
   bif !r29 then
    (K false w30)
   else
    (Dr w30 fun w31 =>
   LdL w31 ((Addr.mk w11.heap.size 0 none).add 1) 0 [.i .i64, .i .i64] fun (a32 : Int) (a33 : Int) =>
   (C.tree_Tree_All t22 (fun r34 w35 =>
   HdL w35 ((Addr.mk w11.heap.size 0 none).add 1) 0 [.int .i64 a32, .int .i64 a33] (
   (C.tree_Tree_Under t22 a32 a33 (fun r36 w37 =>
   LdL w37 ((Addr.mk w11.heap.size 0 none).add 3) 0 [.i .i64, .i .i64] fun (b38 : Int) (b39 : Int) =>
   C.tree_Tree_Parent t22 b38 b39 (fun r40 r41 r42 w43 =>
   Al w43 (.cells #[.int .i64 (0 : Int), .int .i64 (0 : Int)] 29) fun w44 =>
   StL w44 (Addr.mk w43.heap.size 0 none) 0 [.int .i64 r40, .int .i64 r41] fun w45 =>
   LdL w45 ((Addr.mk w11.heap.size 0 none).add 3) 0 [.i .i64, .i .i64] fun (b46 : Int) (b47 : Int) =>
   C.ref07_Tree_Parent (some (Addr.mk w3.heap.size 0 none)) b46 b47 (fun r48 r49 r50 w51 =>
   Al w51 (.cells #[.int .i64 (0 : Int), .int .i64 (0 : Int)] 29) fun w52 =>
   StL w52 (Addr.mk w51.heap.size 0 none) 0 [.int .i64 r48, .int .i64 r49] fun w53 =>
   ∀ k54 : Bool → World → Prop,
   (∀ (t55 : Bool) (w56 : World), (bif t55 then
    (K false w56)
   else
    (∀ l57 : Int → World → Prop,
   (∀ (j58 : Int) (w59 : World), (bif decide (j58 < (r34.len : Int)) then
    (∃ a60 : Addr, r34.a = some a60 ∧ 0 ≤ j58 ∧ j58 < (r34.len : Int) ∧
   St w59 ((a60.add (j58.toNat * 2)).add 1) (.int .i64 (99 : Int)) fun w61 =>
   l57 (IntKind.i64.wrap (j58 + (1 : Int))) w61)
   else
    (∀ l62 : Int → World → Prop,
   (∀ (j63 : Int) (w64 : World), (bif decide (j63 < (r36.len : Int)) then
    (∃ a65 : Addr, r36.a = some a65 ∧ 0 ≤ j63 ∧ j63 < (r36.len : Int) ∧
   St w64 ((a65.add (j63.toNat * 2)).add 1) (.int .i64 (99 : Int)) fun w66 =>
   l62 (IntKind.i64.wrap (j63 + (1 : Int))) w66)
   else
    (l5 t22 (IntKind.i64.wrap (i7 + (1 : Int))) w64)) → l62 j63 w64) →
   l62 (0 : Int) w59)) → l57 j58 w59) →
   l57 (0 : Int) w56)) → k54 t55 w56) →
   (∃ a67 : Addr, some (Addr.mk w3.heap.size 0 none) = some a67 ∧
   ∃ s68 : Sl, w53.cell? a67 = some (.slice s68.a s68.len s68.cap) ∧
   C.ref07_Same r34 s68 (fun r69 w70 =>
   bif !r69 then
    (k54 true w70)
   else
    (LdL w70 ((Addr.mk w11.heap.size 0 none).add 1) 0 [.i .i64, .i .i64] fun (a71 : Int) (a72 : Int) =>
   C.ref07_Tree_Under (some (Addr.mk w3.heap.size 0 none)) a71 a72 (fun r73 w74 =>
   C.ref07_Same r36 r73 (fun r75 w76 =>
   bif !r75 then
    (k54 true w76)
   else
    (LdL w76 (Addr.mk w43.heap.size 0 none) 0 [.i .i64, .i .i64] fun (t77 : Int) (t78 : Int) =>
   LdL w76 (Addr.mk w51.heap.size 0 none) 0 [.i .i64, .i .i64] fun (t79 : Int) (t80 : Int) =>
   ∃ eq81 : Bool, EqB Try.prog .neq 29 (.tmp 92) (.tmp 93) (.agg #[.int .i64 t77, .int .i64 t78]) (.agg #[.int .i64 t79, .int .i64 t80]) eq81 ∧
   bif eq81 then
    (k54 true w76)
   else
    (k54 (!(r42 == r50)) w76))) w74) w70)) w53)) w45) w37) w35) ∧
   True)) w31) ∧
   True)) w23) → k21 t22 w23) →
   (bif kind20 == (4 : Int) then
    (C.tree_Tree_Copy t6 (fun r82 w83 =>
   LdL w83 ((Addr.mk w11.heap.size 0 none).add 1) 0 [.i .i64, .i .i64] fun (a84 : Int) (a85 : Int) =>
   C.tree_Tree_Take t6 a84 a85 (fun r86 w87 =>
   C.tree_Tree_Root t6 (99 : Int) (0 : Int) (fun r88 w89 =>
   bif r82.isNone then
    (K false w89)
   else
    (k21 r82 w89)) w87) w83) w19)
   else
    (k21 t6 w19)))
   else
    (C.law07_fixed  (fun r90 w91 =>
   K r90 w91) w11)) → k9 t10 w11) →
   (bif decide (i7 < (script1.len : Int)) then
    (k9 (decide (i7 < (60 : Int))) w8)
   else
    (k9 false w8))) → l5 t6 i7 w8) →
   l5 r2 (0 : Int) w4)) w
set_option maxRecDepth 100000 in
theorem S.law07_TreeDoes_ok (script1 : Sl) (K : Bool → World → Prop) (w : World) (h : S.law07_TreeDoes script1 K w) : C.law07_TreeDoes script1 K w := by
  have e : fnV Try.prog Try.f8 (bodyOf Try.f8) (.t none (.u) (.t none (.u) (.t none (.t none (.u) (.t none (.t none (.u) (.u)) (.u))) (.t none (.t none (.u) (.t none (.t (some [(3, .c (.p)), (5, .c (.i .i64))]) (.t none (.t none (.r (some [(28, .c (.b))]) .done) (.t none (.u) (.u))) (.t none (.t none (.t none (.u) (.t none (.t none (.u) (.t (some [(3, .c (.p))]) (.t none (.u) (.t none (.u) (.t none (.u) (.t none (.u) (.t none (.u) (.t none (.t none (.u) (.u)) (.u))))))) (.u))) (.t none (.t none (.u) (.t none (.t none (.u) (.u)) (.u))) (.t none (.r none (.one 0 28 (.one 2 26 (.one 3 2 (.hold 4 2 223 (.alt 1 (.alt 5 (.one 6 0 (.one 7 0 (.done))) (.none)) (.none))))))) (.t none (.u) (.t none (.u) (.t none (.t none (.r (some [(100, .c (.b))]) .done) (.t none (.t none (.u) (.u)) (.u))) (.t none (.t none (.u) (.t none (.t (some [(14, .c (.i .i64))]) (.t none (.t none (.u) (.t none (.u) (.u))) (.t none (.t none (.u) (.u)) (.u))) (.u)) (.u))) (.t none (.u) (.t none (.t (some [(15, .c (.i .i64))]) (.t none (.t none (.u) (.t none (.u) (.u))) (.t none (.t none (.u) (.u)) (.u))) (.u)) (.u))))))))))) (.u)) (.u))) (.u)) (.u))) (.t none (.u) (.u)))))) [(0, .c (.b))] [.slice script1.a script1.len script1.cap] K w = S.law07_TreeDoes script1 K w := by kernel_rfl
  exact okF_mk Try.func8 rfl (fn_sound names_ok follows_ok Try.func8 rfl (by kernel_rfl) (Eq.mpr e h))

/-- buttress/buttresslaw07.TreeTakes -/
def S.law07_TreeTakes (script1 : Sl) (n2 : Int) (K : Bool → World → Prop) (w : World) : Prop :=
  C.law07_laid script1 (fun r3 w4 =>
   bif r3.isNone then
    (K false w4)
   else
    (C.tree_Tree_All r3 (fun r5 w6 =>
   bif (r5.len : Int) == (0 : Int) then
    (C.law07_fixed  (fun r7 w8 =>
   K r7 w8) w6)
   else
    ((r5.len : Int) ≠ 0 ∧
   ∃ a9 : Addr, r5.a = some a9 ∧ 0 ≤ (andI .i64 n2 (65535 : Int)).tmod (r5.len : Int) ∧ (andI .i64 n2 (65535 : Int)).tmod (r5.len : Int) < (r5.len : Int) ∧
   LdL w6 (a9.add (((andI .i64 n2 (65535 : Int)).tmod (r5.len : Int)).toNat * 2)) 0 [.i .i64, .i .i64] fun (t10 : Int) (t11 : Int) =>
   Al w6 (.cells #[.int .i64 (0 : Int), .int .i64 (0 : Int)] 29) fun w12 =>
   StL w12 (Addr.mk w6.heap.size 0 none) 0 [.int .i64 t10, .int .i64 t11] fun w13 =>
   LdL w13 (Addr.mk w6.heap.size 0 none) 0 [.i .i64, .i .i64] fun (t14 : Int) (t15 : Int) =>
   C.tree_Tree_Parent r3 t14 t15 (fun r16 r17 r18 w19 =>
   Al w19 (.cells #[.int .i64 (0 : Int), .int .i64 (0 : Int)] 29) fun w20 =>
   StL w20 (Addr.mk w19.heap.size 0 none) 0 [.int .i64 r16, .int .i64 r17] fun w21 =>
   C.tree_Tree_Copy r3 (fun r22 w23 =>
   ∀ k24 : Bool → World → Prop,
   (∀ (t25 : Bool) (w26 : World), (bif t25 then
    (K false w26)
   else
    (∀ l27 : Int → World → Prop,
   (∀ (i28 : Int) (w29 : World), (bif decide (i28 < (r5.len : Int)) then
    (Dr w29 fun w30 =>
   ∃ a31 : Addr, r5.a = some a31 ∧ 0 ≤ i28 ∧ i28 < (r5.len : Int) ∧
   LdL w30 (a31.add (i28.toNat * 2)) 0 [.i .i64, .i .i64] fun (t32 : Int) (t33 : Int) =>
   LdL w30 (Addr.mk w6.heap.size 0 none) 0 [.i .i64, .i .i64] fun (t34 : Int) (t35 : Int) =>
   ∃ eq36 : Bool, EqB Try.prog .eql 29 (.tmp 75) (.tmp 76) (.agg #[.int .i64 t32, .int .i64 t33]) (.agg #[.int .i64 t34, .int .i64 t35]) eq36 ∧
   bif eq36 then
    (l27 (IntKind.i64.wrap (i28 + (1 : Int))) w30)
   else
    (∃ a37 : Addr, r5.a = some a37 ∧ 0 ≤ i28 ∧ i28 < (r5.len : Int) ∧
   LdL w30 (a37.add (i28.toNat * 2)) 0 [.i .i64, .i .i64] fun (t38 : Int) (t39 : Int) =>
   C.tree_Tree_Parent r3 t38 t39 (fun r40 r41 r42 w43 =>
   Al w43 (.cells #[.int .i64 (0 : Int), .int .i64 (0 : Int)] 29) fun w44 =>
   StL w44 (Addr.mk w43.heap.size 0 none) 0 [.int .i64 r40, .int .i64 r41] fun w45 =>
   ∃ a46 : Addr, r5.a = some a46 ∧ 0 ≤ i28 ∧ i28 < (r5.len : Int) ∧
   LdL w45 (a46.add (i28.toNat * 2)) 0 [.i .i64, .i .i64] fun (t47 : Int) (t48 : Int) =>
   C.tree_Tree_Parent r22 t47 t48 (fun r49 r50 r51 w52 =>
   Al w52 (.cells #[.int .i64 (0 : Int), .int .i64 (0 : Int)] 29) fun w53 =>
   StL w53 (Addr.mk w52.heap.size 0 none) 0 [.int .i64 r49, .int .i64 r50] fun w54 =>
   ∀ k55 : Bool → World → Prop,
   (∀ (t56 : Bool) (w57 : World), (∀ k58 : Bool → World → Prop,
   (∀ (is59 : Bool) (w60 : World), (∀ k61 : Bool → World → Prop,
   (∀ (t62 : Bool) (w63 : World), (bif t62 then
    (K false w63)
   else
    (l27 (IntKind.i64.wrap (i28 + (1 : Int))) w63)) → k61 t62 w63) →
   (LdL w60 (Addr.mk w43.heap.size 0 none) 0 [.i .i64, .i .i64] fun (t64 : Int) (t65 : Int) =>
   LdL w60 (Addr.mk w52.heap.size 0 none) 0 [.i .i64, .i .i64] fun (t66 : Int) (t67 : Int) =>
   ∃ eq68 : Bool, EqB Try.prog .neq 29 (.tmp 104) (.tmp 105) (.agg #[.int .i64 t64, .int .i64 t65]) (.agg #[.int .i64 t66, .int .i64 t67]) eq68 ∧
   bif eq68 then
    (k61 true w60)
   else
    (k61 (!(is59 == r51)) w60))) → k58 is59 w60) →
   (bif t56 then
    (LdL w57 (Addr.mk w19.heap.size 0 none) 0 [.i .i64, .i .i64] fun (t69 : Int) (t70 : Int) =>
   StL w57 (Addr.mk w43.heap.size 0 none) 0 [.int .i64 t69, .int .i64 t70] fun w71 =>
   k58 r18 w71)
   else
    (k58 r42 w57))) → k55 t56 w57) →
   (bif r42 then
    (LdL w54 (Addr.mk w43.heap.size 0 none) 0 [.i .i64, .i .i64] fun (t72 : Int) (t73 : Int) =>
   LdL w54 (Addr.mk w6.heap.size 0 none) 0 [.i .i64, .i .i64] fun (t74 : Int) (t75 : Int) =>
   ∃ eq76 : Bool, EqB Try.prog .eql 29 (.tmp 98) (.tmp 99) (.agg #[.int .i64 t72, .int .i64 t73]) (.agg #[.int .i64 t74, .int .i64 t75]) eq76 ∧
   k55 eq76 w54)
   else
    (k55 false w54))) w45) w30))
   else
    (C.tree_Tree_All r3 (fun r77 w78 =>
   C.ref07_Same r77 r5 (fun r79 w80 =>
   bif r79 then
    (C.law07_fixed  (fun r81 w82 =>
   K r81 w82) w80)
   else
    (K false w80)) w78) w29)) → l27 i28 w29) →
   l27 (0 : Int) w26)) → k24 t25 w26) →
   (bif r22.isNone then
    (k24 true w23)
   else
    (LdL w23 (Addr.mk w6.heap.size 0 none) 0 [.i .i64, .i .i64] fun (t83 : Int) (t84 : Int) =>
   C.tree_Tree_Take r22 t83 t84 (fun r85 w86 =>
   bif r85 != (0 : Int) then
    (k24 true w86)
   else
    (C.tree_Tree_All r22 (fun r87 w88 =>
   bif (r87.len : Int) != (IntKind.i64.wrap ((r5.len : Int) - (1 : Int))) then
    (k24 true w88)
   else
    (LdL w88 (Addr.mk w6.heap.size 0 none) 0 [.i .i64, .i .i64] fun (t89 : Int) (t90 : Int) =>
   C.tree_Tree_Under r22 t89 t90 (fun r91 w92 =>
   k24 (decide ((r91.len : Int) > (0 : Int))) w92) w88)) w86)) w23))) w21) w13)) w4)) w
set_option maxRecDepth 100000 in
theorem S.law07_TreeTakes_ok (script1 : Sl) (n2 : Int) (K : Bool → World → Prop) (w : World) (h : S.law07_TreeTakes script1 n2 K w) : C.law07_TreeTakes script1 n2 K w := by
  have e : fnV Try.prog Try.f9 (bodyOf Try.f9) (.t none (.u) (.t none (.u) (.t none (.t none (.u) (.t none (.t none (.u) (.u)) (.u))) (.t none (.u) (.t none (.t none (.u) (.t none (.t none (.u) (.u)) (.u))) (.t none (.u) (.t none (.u) (.t none (.u) (.t none (.t none (.r (some [(65, .c (.b))]) .done) (.t none (.t none (.u) (.u)) (.u))) (.t none (.t none (.u) (.t none (.t (some [(11, .c (.i .i64))]) (.t none (.t none (.u) (.t none (.u) (.u))) (.t none (.t none (.t none (.t none (.r none (.one 0 18 (.one 1 16 (.one 2 16 (.one 3 16 (.one 4 0 (.one 5 0 (.done)))))))) (.t none (.u) (.u))) (.t none (.u) (.t none (.u) (.t none (.t none (.r (some [(101, .c (.b))]) .done) (.t (some [(13, .c (.b))]) (.t none (.u) (.u)) (.u))) (.t none (.r (some [(111, .c (.b))]) .done) (.t none (.t none (.u) (.u)) (.u))))))) (.u)) (.u))) (.u)) (.u))) (.t none (.u) (.u)))))))))))) [(0, .c (.b))] [.slice script1.a script1.len script1.cap, .int .i64 n2] K w = S.law07_TreeTakes script1 n2 K w := by kernel_rfl
  exact okF_mk Try.func9 rfl (fn_sound names_ok follows_ok Try.func9 rfl (by kernel_rfl) (Eq.mpr e h))

/-- buttress/buttresslaw07.laid -/
def S.law07_laid (script1 : Sl) (K : Option Addr → World → Prop) (w : World) : Prop :=
  C.tree_New  (fun r2 w3 =>
   ∀ l4 : Int → World → Prop,
   (∀ (i5 : Int) (w6 : World), (∀ k7 : Bool → World → Prop,
   (∀ (t8 : Bool) (w9 : World), (bif t8 then
    (∃ a10 : Addr, script1.a = some a10 ∧ 0 ≤ i5 ∧ i5 < (script1.len : Int) ∧
   LdL w9 (a10.add (i5.toNat * 5)) 0 [.i .i64, .i .i64, .i .i64, .i .i64, .i .i64] fun (t11 : Int) (t12 : Int) (t13 : Int) (t14 : Int) (t15 : Int) =>
   Al w9 (.cells #[.int .i64 (0 : Int), .int .i64 (0 : Int), .int .i64 (0 : Int), .int .i64 (0 : Int), .int .i64 (0 : Int)] 47) fun w16 =>
   StL w16 (Addr.mk w9.heap.size 0 none) 0 [.int .i64 t11, .int .i64 t12, .int .i64 t13, .int .i64 t14, .int .i64 t15] fun w17 =>
   ∃ kind18 : Int, w17.cell? (Addr.mk w9.heap.size 0 none) = some (.int .i64 kind18) ∧
   bif kind18 == (0 : Int) then
    (LdL w17 ((Addr.mk w9.heap.size 0 none).add 1) 0 [.i .i64, .i .i64] fun (a19 : Int) (a20 : Int) =>
   C.tree_Tree_Root r2 a19 a20 (fun r21 w22 =>
   l4 (IntKind.i64.wrap (i5 + (1 : Int))) w22) w17)
   else
    (bif kind18 == (1 : Int) then
    (LdL w17 ((Addr.mk w9.heap.size 0 none).add 1) 0 [.i .i64, .i .i64] fun (a23 : Int) (a24 : Int) =>
   LdL w17 ((Addr.mk w9.heap.size 0 none).add 3) 0 [.i .i64, .i .i64] fun (b25 : Int) (b26 : Int) =>
   C.tree_Tree_Add r2 a23 a24 b25 b26 (fun r27 w28 =>
   l4 (IntKind.i64.wrap (i5 + (1 : Int))) w28) w17)
   else
    (bif kind18 == (2 : Int) then
    (LdL w17 ((Addr.mk w9.heap.size 0 none).add 1) 0 [.i .i64, .i .i64] fun (a29 : Int) (a30 : Int) =>
   C.tree_Tree_Take r2 a29 a30 (fun r31 w32 =>
   l4 (IntKind.i64.wrap (i5 + (1 : Int))) w32) w17)
   else
    (bif kind18 == (3 : Int) then
    (LdL w17 ((Addr.mk w9.heap.size 0 none).add 1) 0 [.i .i64, .i .i64] fun (a33 : Int) (a34 : Int) =>
   LdL w17 ((Addr.mk w9.heap.size 0 none).add 3) 0 [.i .i64, .i .i64] fun (b35 : Int) (b36 : Int) =>
   C.tree_Tree_Move r2 a33 a34 b35 b36 (fun r37 w38 =>
   l4 (IntKind.i64.wrap (i5 + (1 : Int))) w38) w17)
   else
    (l4 (IntKind.i64.wrap (i5 + (1 : Int))) w17)))))
   else
    (K r2 w9)) → k7 t8 w9) →
   (bif decide (i5 < (script1.len : Int)) then
    (bif decide (i5 < (40 : Int)) then
    (k7 (!r2.isNone) w6)
   else
    (k7 false w6))
   else
    (k7 false w6))) → l4 i5 w6) →
   l4 (0 : Int) w3) w
set_option maxRecDepth 100000 in
theorem S.law07_laid_ok (script1 : Sl) (K : Option Addr → World → Prop) (w : World) (h : S.law07_laid script1 K w) : C.law07_laid script1 K w := by
  have e : fnV Try.prog Try.f17 (bodyOf Try.f17) (.t none (.u) (.t none (.u) (.t none (.t none (.u) (.t none (.t (some [(4, .c (.i .i64))]) (.t none (.t none (.r (some [(18, .c (.b))]) .done) (.t none (.u) (.u))) (.t none (.t none (.t none (.u) (.t none (.u) (.t none (.t none (.u) (.t none (.u) (.t none (.u) (.t none (.u) (.t none (.u) (.t none (.u) (.t none (.u) (.t none (.u) (.u))))))))) (.u)))) (.u)) (.u))) (.u)) (.u))) (.t none (.u) (.u))))) [(0, .c (.p))] [.slice script1.a script1.len script1.cap] K w = S.law07_laid script1 K w := by kernel_rfl
  exact okF_mk Try.func17 rfl (fn_sound names_ok follows_ok Try.func17 rfl (by kernel_rfl) (Eq.mpr e h))

/-- buttress/buttresslaw07.among -/
def S.law07_among (l1 : Sl) (s2 : Int) (s3 : Int) (K : Bool → World → Prop) (w : World) : Prop :=
  Al w (.cells #[.int .i64 s2, .int .i64 s3] 29) fun w4 =>
   ∀ l5 : Int → World → Prop,
   (∀ (i6 : Int) (w7 : World), (bif decide (i6 < (l1.len : Int)) then
    (Dr w7 fun w8 =>
   ∃ a9 : Addr, l1.a = some a9 ∧ 0 ≤ i6 ∧ i6 < (l1.len : Int) ∧
   LdL w8 (a9.add (i6.toNat * 2)) 0 [.i .i64, .i .i64] fun (t10 : Int) (t11 : Int) =>
   LdL w8 (Addr.mk w.heap.size 0 none) 0 [.i .i64, .i .i64] fun (t12 : Int) (t13 : Int) =>
   ∃ eq14 : Bool, EqB Try.prog .eql 29 (.tmp 15) (.tmp 16) (.agg #[.int .i64 t10, .int .i64 t11]) (.agg #[.int .i64 t12, .int .i64 t13]) eq14 ∧
   bif eq14 then
    (K true w8)
   else
    (l5 (IntKind.i64.wrap (i6 + (1 : Int))) w8))
   else
    (K false w7)) → l5 i6 w7) →
   l5 (0 : Int) w4
set_option maxRecDepth 100000 in
theorem S.law07_among_ok (l1 : Sl) (s2 : Int) (s3 : Int) (K : Bool → World → Prop) (w : World) (h : S.law07_among l1 s2 s3 K w) : C.law07_among l1 s2 s3 K w := by
  have e : fnV Try.prog Try.f21 (bodyOf Try.f21) (.t none (.u) (.t none (.t none (.u) (.t none (.t (some [(5, .c (.i .i64))]) (.t none (.t none (.u) (.t none (.u) (.u))) (.t none (.t none (.t none (.r none (.one 0 18 (.one 1 16 (.one 2 16 (.one 3 16 (.one 4 0 (.one 5 0 (.done)))))))) (.t none (.t none (.u) (.u)) (.u))) (.u)) (.u))) (.u)) (.u))) (.t none (.u) (.u)))) [(0, .c (.b))] [.slice l1.a l1.len l1.cap, .agg #[.int .i64 s2, .int .i64 s3]] K w = S.law07_among l1 s2 s3 K w := by kernel_rfl
  exact okF_mk Try.func21 rfl (fn_sound names_ok follows_ok Try.func21 rfl (by kernel_rfl) (Eq.mpr e h))

/-- buttress/buttresslaw07.fixed -/
def S.law07_fixed (K : Bool → World → Prop) (w : World) : Prop :=
  C.tree_New  (fun r1 w2 =>
   bif r1.isNone then
    (K false w2)
   else
    (Al w2 (.cells #[.int .i64 (0 : Int), .int .i64 (0 : Int)] 29) fun w3 =>
   Al w3 (.cells #[.int .i64 (0 : Int), .int .i64 (0 : Int)] 29) fun w4 =>
   Al w4 (.cells #[.int .i64 (0 : Int), .int .i64 (0 : Int)] 29) fun w5 =>
   Al w5 (.cells #[.int .i64 (0 : Int), .int .i64 (0 : Int)] 29) fun w6 =>
   StL w6 (Addr.mk w2.heap.size 0 none) 0 [.int .i64 (0 : Int), .int .i64 (1 : Int)] fun w7 =>
   StL w7 (Addr.mk w3.heap.size 0 none) 0 [.int .i64 (0 : Int), .int .i64 (2 : Int)] fun w8 =>
   StL w8 (Addr.mk w4.heap.size 0 none) 0 [.int .i64 (0 : Int), .int .i64 (3 : Int)] fun w9 =>
   StL w9 (Addr.mk w5.heap.size 0 none) 0 [.int .i64 (0 : Int), .int .i64 (4 : Int)] fun w10 =>
   Dr w10 fun w11 =>
   LdL w11 (Addr.mk w2.heap.size 0 none) 0 [.i .i64, .i .i64] fun (t12 : Int) (t13 : Int) =>
   LdL w11 (Addr.mk w2.heap.size 0 none) 0 [.i .i64, .i .i64] fun (t14 : Int) (t15 : Int) =>
   LdL w11 (Addr.mk w3.heap.size 0 none) 0 [.i .i64, .i .i64] fun (t16 : Int) (t17 : Int) =>
   LdL w11 (Addr.mk w2.heap.size 0 none) 0 [.i .i64, .i .i64] fun (t18 : Int) (t19 : Int) =>
   LdL w11 (Addr.mk w4.heap.size 0 none) 0 [.i .i64, .i .i64] fun (t20 : Int) (t21 : Int) =>
   LdL w11 (Addr.mk w3.heap.size 0 none) 0 [.i .i64, .i .i64] fun (t22 : Int) (t23 : Int) =>
   LdL w11 (Addr.mk w5.heap.size 0 none) 0 [.i .i64, .i .i64] fun (t24 : Int) (t25 : Int) =>
   (C.tree_Tree_Root r1 t12 t13 (fun r26 w27 =>
   HdL w27 (Addr.mk w5.heap.size 0 none) 0 [.int .i64 t24, .int .i64 t25] (
   HdL w27 (Addr.mk w3.heap.size 0 none) 0 [.int .i64 t22, .int .i64 t23] (
   HdL w27 (Addr.mk w4.heap.size 0 none) 0 [.int .i64 t20, .int .i64 t21] (
   HdL w27 (Addr.mk w2.heap.size 0 none) 0 [.int .i64 t18, .int .i64 t19] (
   HdL w27 (Addr.mk w3.heap.size 0 none) 0 [.int .i64 t16, .int .i64 t17] (
   HdL w27 (Addr.mk w2.heap.size 0 none) 0 [.int .i64 t14, .int .i64 t15] (
   (C.tree_Tree_Add r1 t14 t15 t16 t17 (fun r28 w29 =>
   HdL w29 (Addr.mk w5.heap.size 0 none) 0 [.int .i64 t24, .int .i64 t25] (
   HdL w29 (Addr.mk w3.heap.size 0 none) 0 [.int .i64 t22, .int .i64 t23] (
   HdL w29 (Addr.mk w4.heap.size 0 none) 0 [.int .i64 t20, .int .i64 t21] (
   HdL w29 (Addr.mk w2.heap.size 0 none) 0 [.int .i64 t18, .int .i64 t19] (
   (C.tree_Tree_Add r1 t18 t19 t20 t21 (fun r30 w31 =>
   HdL w31 (Addr.mk w5.heap.size 0 none) 0 [.int .i64 t24, .int .i64 t25] (
   HdL w31 (Addr.mk w3.heap.size 0 none) 0 [.int .i64 t22, .int .i64 t23] (
   (C.tree_Tree_Add r1 t22 t23 t24 t25 (fun r32 w33 =>
   LdL w33 (Addr.mk w5.heap.size 0 none) 0 [.i .i64, .i .i64] fun (t34 : Int) (t35 : Int) =>
   C.tree_Tree_Add r1 (0 : Int) (9 : Int) t34 t35 (fun r36 w37 =>
   LdL w37 (Addr.mk w2.heap.size 0 none) 0 [.i .i64, .i .i64] fun (t38 : Int) (t39 : Int) =>
   LdL w37 (Addr.mk w5.heap.size 0 none) 0 [.i .i64, .i .i64] fun (t40 : Int) (t41 : Int) =>
   C.tree_Tree_Add r1 t38 t39 t40 t41 (fun r42 w43 =>
   ∀ k44 : Bool → World → Prop,
   (∀ (t45 : Bool) (w46 : World), (bif t45 then
    (K false w46)
   else
    (LdL w46 (Addr.mk w3.heap.size 0 none) 0 [.i .i64, .i .i64] fun (t47 : Int) (t48 : Int) =>
   C.tree_Tree_Take r1 t47 t48 (fun r49 w50 =>
   LdL w50 (Addr.mk w5.heap.size 0 none) 0 [.i .i64, .i .i64] fun (t51 : Int) (t52 : Int) =>
   C.tree_Tree_Parent r1 t51 t52 (fun r53 r54 r55 w56 =>
   Al w56 (.cells #[.int .i64 (0 : Int), .int .i64 (0 : Int)] 29) fun w57 =>
   StL w57 (Addr.mk w56.heap.size 0 none) 0 [.int .i64 r53, .int .i64 r54] fun w58 =>
   LdL w58 (Addr.mk w2.heap.size 0 none) 0 [.i .i64, .i .i64] fun (t59 : Int) (t60 : Int) =>
   C.tree_Tree_Parent r1 t59 t60 (fun r61 r62 r63 w64 =>
   Al w64 (.cells #[.int .i64 (0 : Int), .int .i64 (0 : Int)] 29) fun w65 =>
   StL w65 (Addr.mk w64.heap.size 0 none) 0 [.int .i64 r61, .int .i64 r62] fun w66 =>
   Dr w66 fun w67 =>
   bif r26 == (0 : Int) then
    (bif r28 == (0 : Int) then
    (bif r30 == (0 : Int) then
    (bif r32 == (0 : Int) then
    (bif r36 == (71 : Int) then
    (bif r42 == (70 : Int) then
    (bif r49 == (0 : Int) then
    (LdL w67 (Addr.mk w56.heap.size 0 none) 0 [.i .i64, .i .i64] fun (t68 : Int) (t69 : Int) =>
   LdL w67 (Addr.mk w2.heap.size 0 none) 0 [.i .i64, .i .i64] fun (t70 : Int) (t71 : Int) =>
   ∃ eq72 : Bool, EqB Try.prog .eql 29 (.tmp 107) (.tmp 108) (.agg #[.int .i64 t68, .int .i64 t69]) (.agg #[.int .i64 t70, .int .i64 t71]) eq72 ∧
   bif eq72 then
    (bif r55 then
    (bif !r63 then
    (LdL w67 (Addr.mk w2.heap.size 0 none) 0 [.i .i64, .i .i64] fun (t73 : Int) (t74 : Int) =>
   (C.tree_Tree_Under r1 t73 t74 (fun r75 w76 =>
   LdL w76 (Addr.mk w4.heap.size 0 none) 0 [.i .i64, .i .i64] fun (t77 : Int) (t78 : Int) =>
   LdL w76 (Addr.mk w5.heap.size 0 none) 0 [.i .i64, .i .i64] fun (t79 : Int) (t80 : Int) =>
   (Al w76 (.cells #[.int .i64 t77, .int .i64 t78, .int .i64 t79, .int .i64 t80] 29) fun w81 =>
   (C.ref07_Same r75 ⟨some (Addr.mk w76.heap.size 0 none), 2, 2⟩ (fun r82 w83 =>
   bif r82 then
    (LdL w83 (Addr.mk w3.heap.size 0 none) 0 [.i .i64, .i .i64] fun (t84 : Int) (t85 : Int) =>
   (C.tree_Tree_Take r1 t84 t85 (fun r86 w87 =>
   bif r86 == (71 : Int) then
    (LdL w87 (Addr.mk w4.heap.size 0 none) 0 [.i .i64, .i .i64] fun (t88 : Int) (t89 : Int) =>
   LdL w87 (Addr.mk w5.heap.size 0 none) 0 [.i .i64, .i .i64] fun (t90 : Int) (t91 : Int) =>
   (C.tree_Tree_Move r1 t88 t89 t90 t91 (fun r92 w93 =>
   bif r92 == (70 : Int) then
    (LdL w93 (Addr.mk w4.heap.size 0 none) 0 [.i .i64, .i .i64] fun (t94 : Int) (t95 : Int) =>
   LdL w93 (Addr.mk w3.heap.size 0 none) 0 [.i .i64, .i .i64] fun (t96 : Int) (t97 : Int) =>
   (C.tree_Tree_Move r1 t94 t95 t96 t97 (fun r98 w99 =>
   K (r98 == (0 : Int)) w99) w93) ∧
   True)
   else
    ((K false w93) ∧
   True)) w87) ∧
   True)
   else
    (((K false w87) ∧
   True) ∧
   True)) w83) ∧
   True)
   else
    ((((K false w83) ∧
   True) ∧
   True) ∧
   True)) w81) ∧
   True) ∧
   True) w67) ∧
   (LdL w67 (Addr.mk w4.heap.size 0 none) 0 [.i .i64, .i .i64] fun (t100 : Int) (t101 : Int) =>
   (C.tree_Tree_Under r1 t73 t74 (fun r102 w103 =>
   LdL w103 (Addr.mk w5.heap.size 0 none) 0 [.i .i64, .i .i64] fun (t104 : Int) (t105 : Int) =>
   (Al w103 (.cells #[.int .i64 t100, .int .i64 t101, .int .i64 t104, .int .i64 t105] 29) fun w106 =>
   (C.ref07_Same r102 ⟨some (Addr.mk w103.heap.size 0 none), 2, 2⟩ (fun r107 w108 =>
   bif r107 then
    (LdL w108 (Addr.mk w3.heap.size 0 none) 0 [.i .i64, .i .i64] fun (t109 : Int) (t110 : Int) =>
   (C.tree_Tree_Take r1 t109 t110 (fun r111 w112 =>
   bif r111 == (71 : Int) then
    (LdL w112 (Addr.mk w4.heap.size 0 none) 0 [.i .i64, .i .i64] fun (t113 : Int) (t114 : Int) =>
   LdL w112 (Addr.mk w5.heap.size 0 none) 0 [.i .i64, .i .i64] fun (t115 : Int) (t116 : Int) =>
   (C.tree_Tree_Move r1 t113 t114 t115 t116 (fun r117 w118 =>
   bif r117 == (70 : Int) then
    (LdL w118 (Addr.mk w4.heap.size 0 none) 0 [.i .i64, .i .i64] fun (t119 : Int) (t120 : Int) =>
   LdL w118 (Addr.mk w3.heap.size 0 none) 0 [.i .i64, .i .i64] fun (t121 : Int) (t122 : Int) =>
   (C.tree_Tree_Move r1 t119 t120 t121 t122 (fun r123 w124 =>
   K (r123 == (0 : Int)) w124) w118) ∧
   True)
   else
    ((K false w118) ∧
   True)) w112) ∧
   True)
   else
    (((K false w112) ∧
   True) ∧
   True)) w108) ∧
   True)
   else
    ((((K false w108) ∧
   True) ∧
   True) ∧
   True)) w106) ∧
   True) ∧
   True) w67) ∧
   (LdL w67 (Addr.mk w5.heap.size 0 none) 0 [.i .i64, .i .i64] fun (t125 : Int) (t126 : Int) =>
   (C.tree_Tree_Under r1 t73 t74 (fun r127 w128 =>
   (Al w128 (.cells #[.int .i64 t100, .int .i64 t101, .int .i64 t125, .int .i64 t126] 29) fun w129 =>
   (C.ref07_Same r127 ⟨some (Addr.mk w128.heap.size 0 none), 2, 2⟩ (fun r130 w131 =>
   bif r130 then
    (LdL w131 (Addr.mk w3.heap.size 0 none) 0 [.i .i64, .i .i64] fun (t132 : Int) (t133 : Int) =>
   (C.tree_Tree_Take r1 t132 t133 (fun r134 w135 =>
   bif r134 == (71 : Int) then
    (LdL w135 (Addr.mk w4.heap.size 0 none) 0 [.i .i64, .i .i64] fun (t136 : Int) (t137 : Int) =>
   LdL w135 (Addr.mk w5.heap.size 0 none) 0 [.i .i64, .i .i64] fun (t138 : Int) (t139 : Int) =>
   (C.tree_Tree_Move r1 t136 t137 t138 t139 (fun r140 w141 =>
   bif r140 == (70 : Int) then
    (LdL w141 (Addr.mk w4.heap.size 0 none) 0 [.i .i64, .i .i64] fun (t142 : Int) (t143 : Int) =>
   LdL w141 (Addr.mk w3.heap.size 0 none) 0 [.i .i64, .i .i64] fun (t144 : Int) (t145 : Int) =>
   (C.tree_Tree_Move r1 t142 t143 t144 t145 (fun r146 w147 =>
   K (r146 == (0 : Int)) w147) w141) ∧
   True)
   else
    ((K false w141) ∧
   True)) w135) ∧
   True)
   else
    (((K false w135) ∧
   True) ∧
   True)) w131) ∧
   True)
   else
    ((((K false w131) ∧
   True) ∧
   True) ∧
   True)) w129) ∧
   True) ∧
   True) w67) ∧
   (Al w67 (.cells #[.int .i64 t100, .int .i64 t101, .int .i64 t125, .int .i64 t126] 29) fun w148 =>
   (C.tree_Tree_Under r1 t73 t74 (fun r149 w150 =>
   (C.ref07_Same r149 ⟨some (Addr.mk w67.heap.size 0 none), 2, 2⟩ (fun r151 w152 =>
   bif r151 then
    (LdL w152 (Addr.mk w3.heap.size 0 none) 0 [.i .i64, .i .i64] fun (t153 : Int) (t154 : Int) =>
   (C.tree_Tree_Take r1 t153 t154 (fun r155 w156 =>
   bif r155 == (71 : Int) then
    (LdL w156 (Addr.mk w4.heap.size 0 none) 0 [.i .i64, .i .i64] fun (t157 : Int) (t158 : Int) =>
   LdL w156 (Addr.mk w5.heap.size 0 none) 0 [.i .i64, .i .i64] fun (t159 : Int) (t160 : Int) =>
   (C.tree_Tree_Move r1 t157 t158 t159 t160 (fun r161 w162 =>
   bif r161 == (70 : Int) then
    (LdL w162 (Addr.mk w4.heap.size 0 none) 0 [.i .i64, .i .i64] fun (t163 : Int) (t164 : Int) =>
   LdL w162 (Addr.mk w3.heap.size 0 none) 0 [.i .i64, .i .i64] fun (t165 : Int) (t166 : Int) =>
   (C.tree_Tree_Move r1 t163 t164 t165 t166 (fun r167 w168 =>
   K (r167 == (0 : Int)) w168) w162) ∧
   True)
   else
    ((K false w162) ∧
   True)) w156) ∧
   True)
   else
    (((K false w156) ∧
   True) ∧
   True)) w152) ∧
   True)
   else
    ((((K false w152) ∧
   True) ∧
   True) ∧
   True)) w150) ∧
   True) w148) ∧
   True) ∧
   True) ∧
   True) ∧
   (LdL w67 (Addr.mk w5.heap.size 0 none) 0 [.i .i64, .i .i64] fun (t169 : Int) (t170 : Int) =>
   (C.tree_Tree_Under r1 t73 t74 (fun r171 w172 =>
   LdL w172 (Addr.mk w4.heap.size 0 none) 0 [.i .i64, .i .i64] fun (t173 : Int) (t174 : Int) =>
   (Al w172 (.cells #[.int .i64 t173, .int .i64 t174, .int .i64 t169, .int .i64 t170] 29) fun w175 =>
   (C.ref07_Same r171 ⟨some (Addr.mk w172.heap.size 0 none), 2, 2⟩ (fun r176 w177 =>
   bif r176 then
    (LdL w177 (Addr.mk w3.heap.size 0 none) 0 [.i .i64, .i .i64] fun (t178 : Int) (t179 : Int) =>
   (C.tree_Tree_Take r1 t178 t179 (fun r180 w181 =>
   bif r180 == (71 : Int) then
    (LdL w181 (Addr.mk w4.heap.size 0 none) 0 [.i .i64, .i .i64] fun (t182 : Int) (t183 : Int) =>
   LdL w181 (Addr.mk w5.heap.size 0 none) 0 [.i .i64, .i .i64] fun (t184 : Int) (t185 : Int) =>
   (C.tree_Tree_Move r1 t182 t183 t184 t185 (fun r186 w187 =>
   bif r186 == (70 : Int) then
    (LdL w187 (Addr.mk w4.heap.size 0 none) 0 [.i .i64, .i .i64] fun (t188 : Int) (t189 : Int) =>
   LdL w187 (Addr.mk w3.heap.size 0 none) 0 [.i .i64, .i .i64] fun (t190 : Int) (t191 : Int) =>
   (C.tree_Tree_Move r1 t188 t189 t190 t191 (fun r192 w193 =>
   K (r192 == (0 : Int)) w193) w187) ∧
   True)
   else
    ((K false w187) ∧
   True)) w181) ∧
   True)
   else
    (((K false w181) ∧
   True) ∧
   True)) w177) ∧
   True)
   else
    ((((K false w177) ∧
   True) ∧
   True) ∧
   True)) w175) ∧
   True) ∧
   True) w67) ∧
   (LdL w67 (Addr.mk w4.heap.size 0 none) 0 [.i .i64, .i .i64] fun (t194 : Int) (t195 : Int) =>
   (C.tree_Tree_Under r1 t73 t74 (fun r196 w197 =>
   (Al w197 (.cells #[.int .i64 t194, .int .i64 t195, .int .i64 t169, .int .i64 t170] 29) fun w198 =>
   (C.ref07_Same r196 ⟨some (Addr.mk w197.heap.size 0 none), 2, 2⟩ (fun r199 w200 =>
   bif r199 then
    (LdL w200 (Addr.mk w3.heap.size 0 none) 0 [.i .i64, .i .i64] fun (t201 : Int) (t202 : Int) =>
   (C.tree_Tree_Take r1 t201 t202 (fun r203 w204 =>
   bif r203 == (71 : Int) then
    (LdL w204 (Addr.mk w4.heap.size 0 none) 0 [.i .i64, .i .i64] fun (t205 : Int) (t206 : Int) =>
   LdL w204 (Addr.mk w5.heap.size 0 none) 0 [.i .i64, .i .i64] fun (t207 : Int) (t208 : Int) =>
   (C.tree_Tree_Move r1 t205 t206 t207 t208 (fun r209 w210 =>
   bif r209 == (70 : Int) then
    (LdL w210 (Addr.mk w4.heap.size 0 none) 0 [.i .i64, .i .i64] fun (t211 : Int) (t212 : Int) =>
   LdL w210 (Addr.mk w3.heap.size 0 none) 0 [.i .i64, .i .i64] fun (t213 : Int) (t214 : Int) =>
   (C.tree_Tree_Move r1 t211 t212 t213 t214 (fun r215 w216 =>
   K (r215 == (0 : Int)) w216) w210) ∧
   True)
   else
    ((K false w210) ∧
   True)) w204) ∧
   True)
   else
    (((K false w204) ∧
   True) ∧
   True)) w200) ∧
   True)
   else
    ((((K false w200) ∧
   True) ∧
   True) ∧
   True)) w198) ∧
   True) ∧
   True) w67) ∧
   (Al w67 (.cells #[.int .i64 t194, .int .i64 t195, .int .i64 t169, .int .i64 t170] 29) fun w217 =>
   (C.tree_Tree_Under r1 t73 t74 (fun r218 w219 =>
   (C.ref07_Same r218 ⟨some (Addr.mk w67.heap.size 0 none), 2, 2⟩ (fun r220 w221 =>
   bif r220 then
    (LdL w221 (Addr.mk w3.heap.size 0 none) 0 [.i .i64, .i .i64] fun (t222 : Int) (t223 : Int) =>
   (C.tree_Tree_Take r1 t222 t223 (fun r224 w225 =>
   bif r224 == (71 : Int) then
    (LdL w225 (Addr.mk w4.heap.size 0 none) 0 [.i .i64, .i .i64] fun (t226 : Int) (t227 : Int) =>
   LdL w225 (Addr.mk w5.heap.size 0 none) 0 [.i .i64, .i .i64] fun (t228 : Int) (t229 : Int) =>
   (C.tree_Tree_Move r1 t226 t227 t228 t229 (fun r230 w231 =>
   bif r230 == (70 : Int) then
    (LdL w231 (Addr.mk w4.heap.size 0 none) 0 [.i .i64, .i .i64] fun (t232 : Int) (t233 : Int) =>
   LdL w231 (Addr.mk w3.heap.size 0 none) 0 [.i .i64, .i .i64] fun (t234 : Int) (t235 : Int) =>
   (C.tree_Tree_Move r1 t232 t233 t234 t235 (fun r236 w237 =>
   K (r236 == (0 : Int)) w237) w231) ∧
   True)
   else
    ((K false w231) ∧
   True)) w225) ∧
   True)
   else
    (((K false w225) ∧
   True) ∧
   True)) w221) ∧
   True)
   else
    ((((K false w221) ∧
   True) ∧
   True) ∧
   True)) w219) ∧
   True) w217) ∧
   True) ∧
   True) ∧
   True) ∧
   True)
   else
    (((((((K false w67) ∧
   True) ∧
   True) ∧
   True) ∧
   True) ∧
   True) ∧
   (((((((K false w67) ∧
   True) ∧
   True) ∧
   True) ∧
   True) ∧
   True) ∧
   (((((((K false w67) ∧
   True) ∧
   True) ∧
   True) ∧
   True) ∧
   True) ∧
   ((((((K false w67) ∧
   True) ∧
   True) ∧
   True) ∧
   True) ∧
   True) ∧
   True) ∧
   True) ∧
   (((((((K false w67) ∧
   True) ∧
   True) ∧
   True) ∧
   True) ∧
   True) ∧
   (((((((K false w67) ∧
   True) ∧
   True) ∧
   True) ∧
   True) ∧
   True) ∧
   ((((((K false w67) ∧
   True) ∧
   True) ∧
   True) ∧
   True) ∧
   True) ∧
   True) ∧
   True) ∧
   True))
   else
    (((((((K false w67) ∧
   True) ∧
   True) ∧
   True) ∧
   True) ∧
   True) ∧
   (((((((K false w67) ∧
   True) ∧
   True) ∧
   True) ∧
   True) ∧
   True) ∧
   (((((((K false w67) ∧
   True) ∧
   True) ∧
   True) ∧
   True) ∧
   True) ∧
   ((((((K false w67) ∧
   True) ∧
   True) ∧
   True) ∧
   True) ∧
   True) ∧
   True) ∧
   True) ∧
   (((((((K false w67) ∧
   True) ∧
   True) ∧
   True) ∧
   True) ∧
   True) ∧
   (((((((K false w67) ∧
   True) ∧
   True) ∧
   True) ∧
   True) ∧
   True) ∧
   ((((((K false w67) ∧
   True) ∧
   True) ∧
   True) ∧
   True) ∧
   True) ∧
   True) ∧
   True) ∧
   True))
   else
    (((((((K false w67) ∧
   True) ∧
   True) ∧
   True) ∧
   True) ∧
   True) ∧
   (((((((K false w67) ∧
   True) ∧
   True) ∧
   True) ∧
   True) ∧
   True) ∧
   (((((((K false w67) ∧
   True) ∧
   True) ∧
   True) ∧
   True) ∧
   True) ∧
   ((((((K false w67) ∧
   True) ∧
   True) ∧
   True) ∧
   True) ∧
   True) ∧
   True) ∧
   True) ∧
   (((((((K false w67) ∧
   True) ∧
   True) ∧
   True) ∧
   True) ∧
   True) ∧
   (((((((K false w67) ∧
   True) ∧
   True) ∧
   True) ∧
   True) ∧
   True) ∧
   ((((((K false w67) ∧
   True) ∧
   True) ∧
   True) ∧
   True) ∧
   True) ∧
   True) ∧
   True) ∧
   True))
   else
    (((((((K false w67) ∧
   True) ∧
   True) ∧
   True) ∧
   True) ∧
   True) ∧
   (((((((K false w67) ∧
   True) ∧
   True) ∧
   True) ∧
   True) ∧
   True) ∧
   (((((((K false w67) ∧
   True) ∧
   True) ∧
   True) ∧
   True) ∧
   True) ∧
   ((((((K false w67) ∧
   True) ∧
   True) ∧
   True) ∧
   True) ∧
   True) ∧
   True) ∧
   True) ∧
   (((((((K false w67) ∧
   True) ∧
   True) ∧
   True) ∧
   True) ∧
   True) ∧
   (((((((K false w67) ∧
   True) ∧
   True) ∧
   True) ∧
   True) ∧
   True) ∧
   ((((((K false w67) ∧
   True) ∧
   True) ∧
   True) ∧
   True) ∧
   True) ∧
   True) ∧
   True) ∧
   True))
   else
    (((((((K false w67) ∧
   True) ∧
   True) ∧
   True) ∧
   True) ∧
   True) ∧
   (((((((K false w67) ∧
   True) ∧
   True) ∧
   True) ∧
   True) ∧
   True) ∧
   (((((((K false w67) ∧
   True) ∧
   True) ∧
   True) ∧
   True) ∧
   True) ∧
   ((((((K false w67) ∧
   True) ∧
   True) ∧
   True) ∧
   True) ∧
   True) ∧
   True) ∧
   True) ∧
   (((((((K false w67) ∧
   True) ∧
   True) ∧
   True) ∧
   True) ∧
   True) ∧
   (((((((K false w67) ∧
   True) ∧
   True) ∧
   True) ∧
   True) ∧
   True) ∧
   ((((((K false w67) ∧
   True) ∧
   True) ∧
   True) ∧
   True) ∧
   True) ∧
   True) ∧
   True) ∧
   True))
   else
    (((((((K false w67) ∧
   True) ∧
   True) ∧
   True) ∧
   True) ∧
   True) ∧
   (((((((K false w67) ∧
   True) ∧
   True) ∧
   True) ∧
   True) ∧
   True) ∧
   (((((((K false w67) ∧
   True) ∧
   True) ∧
   True) ∧
   True) ∧
   True) ∧
   ((((((K false w67) ∧
   True) ∧
   True) ∧
   True) ∧
   True) ∧
   True) ∧
   True) ∧
   True) ∧
   (((((((K false w67) ∧
   True) ∧
   True) ∧
   True) ∧
   True) ∧
   True) ∧
   (((((((K false w67) ∧
   True) ∧
   True) ∧
   True) ∧
   True) ∧
   True) ∧
   ((((((K false w67) ∧
   True) ∧
   True) ∧
   True) ∧
   True) ∧
   True) ∧
   True) ∧
   True) ∧
   True))
   else
    (((((((K false w67) ∧
   True) ∧
   True) ∧
   True) ∧
   True) ∧
   True) ∧
   (((((((K false w67) ∧
   True) ∧
   True) ∧
   True) ∧
   True) ∧
   True) ∧
   (((((((K false w67) ∧
   True) ∧
   True) ∧
   True) ∧
   True) ∧
   True) ∧
   ((((((K false w67) ∧
   True) ∧
   True) ∧
   True) ∧
   True) ∧
   True) ∧
   True) ∧
   True) ∧
   (((((((K false w67) ∧
   True) ∧
   True) ∧
   True) ∧
   True) ∧
   True) ∧
   (((((((K false w67) ∧
   True) ∧
   True) ∧
   True) ∧
   True) ∧
   True) ∧
   ((((((K false w67) ∧
   True) ∧
   True) ∧
   True) ∧
   True) ∧
   True) ∧
   True) ∧
   True) ∧
   True))
   else
    (((((((K false w67) ∧
   True) ∧
   True) ∧
   True) ∧
   True) ∧
   True) ∧
   (((((((K false w67) ∧
   True) ∧
   True) ∧
   True) ∧
   True) ∧
   True) ∧
   (((((((K false w67) ∧
   True) ∧
   True) ∧
   True) ∧
   True) ∧
   True) ∧
   ((((((K false w67) ∧
   True) ∧
   True) ∧
   True) ∧
   True) ∧
   True) ∧
   True) ∧
   True) ∧
   (((((((K false w67) ∧
   True) ∧
   True) ∧
   True) ∧
   True) ∧
   True) ∧
   (((((((K false w67) ∧
   True) ∧
   True) ∧
   True) ∧
   True) ∧
   True) ∧
   ((((((K false w67) ∧
   True) ∧
   True) ∧
   True) ∧
   True) ∧
   True) ∧
   True) ∧
   True) ∧
   True))
   else
    (((((((K false w67) ∧
   True) ∧
   True) ∧
   True) ∧
   True) ∧
   True) ∧
   (((((((K false w67) ∧
   True) ∧
   True) ∧
   True) ∧
   True) ∧
   True) ∧
   (((((((K false w67) ∧
   True) ∧
   True) ∧
   True) ∧
   True) ∧
   True) ∧
   ((((((K false w67) ∧
   True) ∧
   True) ∧
   True) ∧
   True) ∧
   True) ∧
   True) ∧
   True) ∧
   (((((((K false w67) ∧
   True) ∧
   True) ∧
   True) ∧
   True) ∧
   True) ∧
   (((((((K false w67) ∧
   True) ∧
   True) ∧
   True) ∧
   True) ∧
   True) ∧
   ((((((K false w67) ∧
   True) ∧
   True) ∧
   True) ∧
   True) ∧
   True) ∧
   True) ∧
   True) ∧
   True))
   else
    (((((((K false w67) ∧
   True) ∧
   True) ∧
   True) ∧
   True) ∧
   True) ∧
   (((((((K false w67) ∧
   True) ∧
   True) ∧
   True) ∧
   True) ∧
   True) ∧
   (((((((K false w67) ∧
   True) ∧
   True) ∧
   True) ∧
   True) ∧
   True) ∧
   ((((((K false w67) ∧
   True) ∧
   True) ∧
   True) ∧
   True) ∧
   True) ∧
   True) ∧
   True) ∧
   (((((((K false w67) ∧
   True) ∧
   True) ∧
   True) ∧
   True) ∧
   True) ∧
   (((((((K false w67) ∧
   True) ∧
   True) ∧
   True) ∧
   True) ∧
   True) ∧
   ((((((K false w67) ∧
   True) ∧
   True) ∧
   True) ∧
   True) ∧
   True) ∧
   True) ∧
   True) ∧
   True)) w58) w50) w46)) → k44 t45 w46) →
   (Dr w43 fun w238 =>
   LdL w238 (Addr.mk w2.heap.size 0 none) 0 [.i .i64, .i .i64] fun (t239 : Int) (t240 : Int) =>
   LdL w238 (Addr.mk w4.heap.size 0 none) 0 [.i .i64, .i .i64] fun (t241 : Int) (t242 : Int) =>
   LdL w238 (Addr.mk w3.heap.size 0 none) 0 [.i .i64, .i .i64] fun (t243 : Int) (t244 : Int) =>
   LdL w238 (Addr.mk w5.heap.size 0 none) 0 [.i .i64, .i .i64] fun (t245 : Int) (t246 : Int) =>
   (C.tree_Tree_All r1 (fun r247 w248 =>
   HdL w248 (Addr.mk w5.heap.size 0 none) 0 [.int .i64 t245, .int .i64 t246] (
   HdL w248 (Addr.mk w3.heap.size 0 none) 0 [.int .i64 t243, .int .i64 t244] (
   HdL w248 (Addr.mk w4.heap.size 0 none) 0 [.int .i64 t241, .int .i64 t242] (
   HdL w248 (Addr.mk w2.heap.size 0 none) 0 [.int .i64 t239, .int .i64 t240] (
   (Al w248 (.cells #[.int .i64 t239, .int .i64 t240, .int .i64 t241, .int .i64 t242, .int .i64 t243, .int .i64 t244, .int .i64 t245, .int .i64 t246] 29) fun w249 =>
   (C.ref07_Same r247 ⟨some (Addr.mk w248.heap.size 0 none), 4, 4⟩ (fun r250 w251 =>
   bif !r250 then
    ((((k44 true w251) ∧
   True) ∧
   True) ∧
   ((((k44 true w251) ∧
   True) ∧
   True) ∧
   (((k44 true w251) ∧
   True) ∧
   True) ∧
   True) ∧
   True)
   else
    (LdL w251 (Addr.mk w3.heap.size 0 none) 0 [.i .i64, .i .i64] fun (t252 : Int) (t253 : Int) =>
   (C.tree_Tree_Under r1 t252 t253 (fun r254 w255 =>
   LdL w255 (Addr.mk w5.heap.size 0 none) 0 [.i .i64, .i .i64] fun (t256 : Int) (t257 : Int) =>
   (Al w255 (.cells #[.int .i64 t256, .int .i64 t257] 29) fun w258 =>
   (C.ref07_Same r254 ⟨some (Addr.mk w255.heap.size 0 none), 1, 1⟩ (fun r259 w260 =>
   k44 (!r259) w260) w258) ∧
   True) ∧
   True) w251) ∧
   (LdL w251 (Addr.mk w5.heap.size 0 none) 0 [.i .i64, .i .i64] fun (t261 : Int) (t262 : Int) =>
   (C.tree_Tree_Under r1 t252 t253 (fun r263 w264 =>
   (Al w264 (.cells #[.int .i64 t261, .int .i64 t262] 29) fun w265 =>
   (C.ref07_Same r263 ⟨some (Addr.mk w264.heap.size 0 none), 1, 1⟩ (fun r266 w267 =>
   k44 (!r266) w267) w265) ∧
   True) ∧
   True) w251) ∧
   (Al w251 (.cells #[.int .i64 t261, .int .i64 t262] 29) fun w268 =>
   (C.tree_Tree_Under r1 t252 t253 (fun r269 w270 =>
   (C.ref07_Same r269 ⟨some (Addr.mk w251.heap.size 0 none), 1, 1⟩ (fun r271 w272 =>
   k44 (!r271) w272) w270) ∧
   True) w268) ∧
   True) ∧
   True) ∧
   True)) w249) ∧
   True) ∧
   True))))) w238) ∧
   (Al w238 (.cells #[.int .i64 t239, .int .i64 t240, .int .i64 t241, .int .i64 t242, .int .i64 t243, .int .i64 t244, .int .i64 t245, .int .i64 t246] 29) fun w273 =>
   (C.tree_Tree_All r1 (fun r274 w275 =>
   (C.ref07_Same r274 ⟨some (Addr.mk w238.heap.size 0 none), 4, 4⟩ (fun r276 w277 =>
   bif !r276 then
    ((((k44 true w277) ∧
   True) ∧
   True) ∧
   ((((k44 true w277) ∧
   True) ∧
   True) ∧
   (((k44 true w277) ∧
   True) ∧
   True) ∧
   True) ∧
   True)
   else
    (LdL w277 (Addr.mk w3.heap.size 0 none) 0 [.i .i64, .i .i64] fun (t278 : Int) (t279 : Int) =>
   (C.tree_Tree_Under r1 t278 t279 (fun r280 w281 =>
   LdL w281 (Addr.mk w5.heap.size 0 none) 0 [.i .i64, .i .i64] fun (t282 : Int) (t283 : Int) =>
   (Al w281 (.cells #[.int .i64 t282, .int .i64 t283] 29) fun w284 =>
   (C.ref07_Same r280 ⟨some (Addr.mk w281.heap.size 0 none), 1, 1⟩ (fun r285 w286 =>
   k44 (!r285) w286) w284) ∧
   True) ∧
   True) w277) ∧
   (LdL w277 (Addr.mk w5.heap.size 0 none) 0 [.i .i64, .i .i64] fun (t287 : Int) (t288 : Int) =>
   (C.tree_Tree_Under r1 t278 t279 (fun r289 w290 =>
   (Al w290 (.cells #[.int .i64 t287, .int .i64 t288] 29) fun w291 =>
   (C.ref07_Same r289 ⟨some (Addr.mk w290.heap.size 0 none), 1, 1⟩ (fun r292 w293 =>
   k44 (!r292) w293) w291) ∧
   True) ∧
   True) w277) ∧
   (Al w277 (.cells #[.int .i64 t287, .int .i64 t288] 29) fun w294 =>
   (C.tree_Tree_Under r1 t278 t279 (fun r295 w296 =>
   (C.ref07_Same r295 ⟨some (Addr.mk w277.heap.size 0 none), 1, 1⟩ (fun r297 w298 =>
   k44 (!r297) w298) w296) ∧
   True) w294) ∧
   True) ∧
   True) ∧
   True)) w275) ∧
   True) w273) ∧
   True) ∧
   True)) w37) w33) w31) ∧
   True))) w29) ∧
   True))))) w27) ∧
   True))))))) w11) ∧
   True)) w
set_option maxRecDepth 100000 in
theorem S.law07_fixed_ok (K : Bool → World → Prop) (w : World) (h : S.law07_fixed  K w) : C.law07_fixed  K w := by
  have e : fnV Try.prog Try.f22 (bodyOf Try.f22) (.t none (.u) (.t none (.u) (.t none (.t none (.u) (.t none (.t none (.u) (.u)) (.u))) (.t none (.u) (.t none (.r none (.one 0 15290 (.one 1 15288 (.one 3 15284 (.one 7 15220 (.one 11 14196 (.hold 4 13092 506815 (.hold 5 13060 506815 (.hold 8 12868 506879 (.hold 9 12356 506879 (.hold 12 9284 507903 (.hold 13 1092 507903 (.alt 2 (.alt 6 (.alt 10 (.alt 14 (.one 15 0 (.one 16 0 (.one 17 0 (.one 18 0 (.done))))) (.none)) (.none)) (.none)) (.none)))))))))))))) (.t none (.u) (.t none (.u) (.t none (.t none (.r (some [(64, .c (.b))]) (.one 0 124 (.hold 2 58 208703 (.hold 3 50 208703 (.hold 4 34 208703 (.hold 5 2 208703 (.alt 1 (.alt 6 (.alt 7 (.one 8 0 (.one 9 0 (.one 10 26624 (.one 11 24576 (.alt 12 (.one 13 0 (.alt 14 (.alt 15 (.one 16 0 (.one 17 0 (.done))) (.none)) (.none))) (.alt 13 (.alt 12 (.alt 14 (.alt 15 (.one 16 0 (.one 17 0 (.done))) (.none)) (.none)) (.alt 14 (.alt 12 (.alt 15 (.one 16 0 (.one 17 0 (.done))) (.none)) (.none)) (.none))) (.none))))))) (.none)) (.none)) (.alt 6 (.alt 1 (.alt 7 (.one 8 0 (.one 9 0 (.one 10 26624 (.one 11 24576 (.alt 12 (.one 13 0 (.alt 14 (.alt 15 (.one 16 0 (.one 17 0 (.done))) (.none)) (.none))) (.alt 13 (.alt 12 (.alt 14 (.alt 15 (.one 16 0 (.one 17 0 (.done))) (.none)) (.none)) (.alt 14 (.alt 12 (.alt 15 (.one 16 0 (.one 17 0 (.done))) (.none)) (.none)) (.none))) (.none))))))) (.none)) (.none)) (.none))))))))) (.t none (.t none (.u) (.u)) (.u))) (.t none (.u) (.t none (.u) (.t none (.u) (.t none (.r none (.one 0 0 (.one 1 0 (.one 2 0 (.one 3 0 (.one 4 0 (.one 5 0 (.one 6 0 (.one 7 0 (.one 8 0 (.one 9 0 (.one 10 0 (.one 11 0 (.one 12 0 (.one 13 0 (.one 14 0 (.one 15 0 (.one 16 0 (.one 17 0 (.one 18 0 (.one 19 0 (.one 20 0 (.one 21 0 (.one 22 0 (.one 23 0 (.one 24 0 (.one 25 0 (.one 26 0 (.one 27 268435456 (.one 28 0 (.one 29 0 (.one 30 0 (.one 31 0 (.one 32 0 (.one 33 0 (.one 34 0 (.one 35 0 (.one 36 0 (.one 37 0 (.one 38 0 (.one 39 31885837205504 (.one 40 30786325577728 (.alt 41 (.one 42 8796093022208 (.one 43 0 (.alt 44 (.alt 45 (.one 46 0 (.one 47 0 (.one 48 562949953421312 (.one 49 0 (.alt 50 (.one 51 0 (.one 52 0 (.one 53 0 (.one 54 108086391056891904 (.one 55 72057594037927936 (.one 56 0 (.alt 57 (.one 58 0 (.one 59 0 (.one 60 0 (.one 61 13835058055282163712 (.one 62 9223372036854775808 (.one 63 0 (.alt 64 (.one 65 0 (.one 66 0 (.one 67 0 (.done)))) (.none)))))))) (.none)))))))) (.none)))))) (.none)) (.none)))) (.alt 42 (.alt 41 (.one 43 0 (.alt 44 (.alt 45 (.one 46 0 (.one 47 0 (.one 48 562949953421312 (.one 49 0 (.alt 50 (.one 51 0 (.one 52 0 (.one 53 0 (.one 54 108086391056891904 (.one 55 72057594037927936 (.one 56 0 (.alt 57 (.one 58 0 (.one 59 0 (.one 60 0 (.one 61 13835058055282163712 (.one 62 9223372036854775808 (.one 63 0 (.alt 64 (.one 65 0 (.one 66 0 (.one 67 0 (.done)))) (.none)))))))) (.none)))))))) (.none)))))) (.none)) (.none))) (.alt 43 (.alt 41 (.alt 44 (.alt 45 (.one 46 0 (.one 47 0 (.one 48 562949953421312 (.one 49 0 (.alt 50 (.one 51 0 (.one 52 0 (.one 53 0 (.one 54 108086391056891904 (.one 55 72057594037927936 (.one 56 0 (.alt 57 (.one 58 0 (.one 59 0 (.one 60 0 (.one 61 13835058055282163712 (.one 62 9223372036854775808 (.one 63 0 (.alt 64 (.one 65 0 (.one 66 0 (.one 67 0 (.done)))) (.none)))))))) (.none)))))))) (.none)))))) (.none)) (.none)) (.alt 44 (.alt 41 (.alt 45 (.one 46 0 (.one 47 0 (.one 48 562949953421312 (.one 49 0 (.alt 50 (.one 51 0 (.one 52 0 (.one 53 0 (.one 54 108086391056891904 (.one 55 72057594037927936 (.one 56 0 (.alt 57 (.one 58 0 (.one 59 0 (.one 60 0 (.one 61 13835058055282163712 (.one 62 9223372036854775808 (.one 63 0 (.alt 64 (.one 65 0 (.one 66 0 (.one 67 0 (.done)))) (.none)))))))) (.none)))))))) (.none)))))) (.none)) (.none)) (.none))) (.none))) (.alt 43 (.alt 41 (.one 42 0 (.alt 44 (.alt 45 (.one 46 0 (.one 47 0 (.one 48 562949953421312 (.one 49 0 (.alt 50 (.one 51 0 (.one 52 0 (.one 53 0 (.one 54 108086391056891904 (.one 55 72057594037927936 (.one 56 0 (.alt 57 (.one 58 0 (.one 59 0 (.one 60 0 (.one 61 13835058055282163712 (.one 62 9223372036854775808 (.one 63 0 (.alt 64 (.one 65 0 (.one 66 0 (.one 67 0 (.done)))) (.none)))))))) (.none)))))))) (.none)))))) (.none)) (.none))) (.alt 42 (.alt 41 (.alt 44 (.alt 45 (.one 46 0 (.one 47 0 (.one 48 562949953421312 (.one 49 0 (.alt 50 (.one 51 0 (.one 52 0 (.one 53 0 (.one 54 108086391056891904 (.one 55 72057594037927936 (.one 56 0 (.alt 57 (.one 58 0 (.one 59 0 (.one 60 0 (.one 61 13835058055282163712 (.one 62 9223372036854775808 (.one 63 0 (.alt 64 (.one 65 0 (.one 66 0 (.one 67 0 (.done)))) (.none)))))))) (.none)))))))) (.none)))))) (.none)) (.none)) (.alt 44 (.alt 41 (.alt 45 (.one 46 0 (.one 47 0 (.one 48 562949953421312 (.one 49 0 (.alt 50 (.one 51 0 (.one 52 0 (.one 53 0 (.one 54 108086391056891904 (.one 55 72057594037927936 (.one 56 0 (.alt 57 (.one 58 0 (.one 59 0 (.one 60 0 (.one 61 13835058055282163712 (.one 62 9223372036854775808 (.one 63 0 (.alt 64 (.one 65 0 (.one 66 0 (.one 67 0 (.done)))) (.none)))))))) (.none)))))))) (.none)))))) (.none)) (.none)) (.none))) (.none))) (.none)))))))))))))))))))))))))))))))))))))))))))))) (.u))))))))))))) [(0, .c (.b))] [] K w = S.law07_fixed  K w := by kernel_rfl
  exact okF_mk Try.func22 rfl (fn_sound names_ok follows_ok Try.func22 rfl (by kernel_rfl) (Eq.mpr e h))

/-- buttress/buttresslaw07.same -/
def S.law07_same (t1 : Option Addr) (k2 : Option Addr) (o3 : Int) (o4 : Int) (o5 : Int) (o6 : Int) (o7 : Int) (K : Bool → World → Prop) (w : World) : Prop :=
  Al w (.cells #[.int .i64 o3, .int .i64 o4, .int .i64 o5, .int .i64 o6, .int .i64 o7] 47) fun w8 =>
   ∃ kind9 : Int, w8.cell? (Addr.mk w.heap.size 0 none) = some (.int .i64 kind9) ∧
   bif kind9 == (0 : Int) then
    (LdL w8 ((Addr.mk w.heap.size 0 none).add 1) 0 [.i .i64, .i .i64] fun (a10 : Int) (a11 : Int) =>
   C.tree_Tree_Root t1 a10 a11 (fun r12 w13 =>
   LdL w13 ((Addr.mk w.heap.size 0 none).add 1) 0 [.i .i64, .i .i64] fun (a14 : Int) (a15 : Int) =>
   C.ref07_Tree_Root k2 a14 a15 (fun r16 w17 =>
   K (r12 == r16) w17) w13) w8)
   else
    (bif kind9 == (1 : Int) then
    (LdL w8 ((Addr.mk w.heap.size 0 none).add 1) 0 [.i .i64, .i .i64] fun (a18 : Int) (a19 : Int) =>
   LdL w8 ((Addr.mk w.heap.size 0 none).add 3) 0 [.i .i64, .i .i64] fun (b20 : Int) (b21 : Int) =>
   C.tree_Tree_Add t1 a18 a19 b20 b21 (fun r22 w23 =>
   LdL w23 ((Addr.mk w.heap.size 0 none).add 1) 0 [.i .i64, .i .i64] fun (a24 : Int) (a25 : Int) =>
   LdL w23 ((Addr.mk w.heap.size 0 none).add 3) 0 [.i .i64, .i .i64] fun (b26 : Int) (b27 : Int) =>
   C.ref07_Tree_Add k2 a24 a25 b26 b27 (fun r28 w29 =>
   K (r22 == r28) w29) w23) w8)
   else
    (bif kind9 == (2 : Int) then
    (LdL w8 ((Addr.mk w.heap.size 0 none).add 1) 0 [.i .i64, .i .i64] fun (a30 : Int) (a31 : Int) =>
   C.tree_Tree_Take t1 a30 a31 (fun r32 w33 =>
   LdL w33 ((Addr.mk w.heap.size 0 none).add 1) 0 [.i .i64, .i .i64] fun (a34 : Int) (a35 : Int) =>
   C.ref07_Tree_Take k2 a34 a35 (fun r36 w37 =>
   K (r32 == r36) w37) w33) w8)
   else
    (bif kind9 == (3 : Int) then
    (LdL w8 ((Addr.mk w.heap.size 0 none).add 1) 0 [.i .i64, .i .i64] fun (a38 : Int) (a39 : Int) =>
   LdL w8 ((Addr.mk w.heap.size 0 none).add 3) 0 [.i .i64, .i .i64] fun (b40 : Int) (b41 : Int) =>
   C.tree_Tree_Move t1 a38 a39 b40 b41 (fun r42 w43 =>
   LdL w43 ((Addr.mk w.heap.size 0 none).add 1) 0 [.i .i64, .i .i64] fun (a44 : Int) (a45 : Int) =>
   LdL w43 ((Addr.mk w.heap.size 0 none).add 3) 0 [.i .i64, .i .i64] fun (b46 : Int) (b47 : Int) =>
   C.ref07_Tree_Move k2 a44 a45 b46 b47 (fun r48 w49 =>
   K (r42 == r48) w49) w43) w8)
   else
    (K true w8))))
set_option maxRecDepth 100000 in
theorem S.law07_same_ok (t1 : Option Addr) (k2 : Option Addr) (o3 : Int) (o4 : Int) (o5 : Int) (o6 : Int) (o7 : Int) (K : Bool → World → Prop) (w : World) (h : S.law07_same t1 k2 o3 o4 o5 o6 o7 K w) : C.law07_same t1 k2 o3 o4 o5 o6 o7 K w := by
  have e : fnV Try.prog Try.f30 (bodyOf Try.f30) (.t none (.u) (.t none (.t none (.u) (.t none (.t none (.u) (.t none (.t none (.u) (.t none (.u) (.u))) (.t none (.u) (.t none (.t none (.u) (.t none (.u) (.u))) (.t none (.u) (.t none (.t none (.u) (.t none (.u) (.u))) (.t none (.u) (.t none (.t none (.u) (.t none (.u) (.u))) (.u))))))))) (.u))) (.t none (.u) (.u)))) [(0, .c (.b))] [.pointer t1, .pointer k2, .agg #[.int .i64 o3, .int .i64 o4, .int .i64 o5, .int .i64 o6, .int .i64 o7]] K w = S.law07_same t1 k2 o3 o4 o5 o6 o7 K w := by kernel_rfl
  exact okF_mk Try.func30 rfl (fn_sound names_ok follows_ok Try.func30 rfl (by kernel_rfl) (Eq.mpr e h))
end Go.Proofs.Ytmfbhjfkagnahaa
