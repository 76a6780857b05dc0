/- The functions' texts, and that a call comes to them. Printed by a program of mine (gen.py). -/
import Derived.Test.YtdlcejjiccknlaaC
set_option linter.unusedVariables false
namespace Go.Proofs.Ytdlcejjiccknlaa
open Go Go.Vc Go.Proofs

/-- buttress/buttresslaw06.LookupWays -/
def S.law06_LookupWays (b1 : Sl) (b2 : Sl) (root3 : Int) (root4 : Int) (root5 : Int) (root6 : Int) (root7 : Int) (root8 : Int) (way9 : Sl) (K : Bool → World → Prop) (w : World) : Prop :=
  Al w (.cells #[.slice b1.a b1.len b1.cap, .slice b2.a b2.len b2.cap] 35) fun w10 =>
   Al w10 (.cells #[.int .i64 root3, .int .i64 root4, .int .i64 root5, .int .u64 root6, .int .u64 root7, .int .i64 root8] 38) fun w11 =>
   LdL w11 (Addr.mk w.heap.size 0 none) 0 [.s, .s] fun (t12 : Sl) (t13 : Sl) =>
   C.law06_built t12 t13 (fun r14 r15 w16 =>
   0 ≤ minI (way9.len : Int) (20 : Int) ∧ minI (way9.len : Int) (20 : Int) ≤ (way9.cap : Int) ∧
   bif r14.isNone then
    (K false w16)
   else
    (LdL w16 (Addr.mk w10.heap.size 0 none) 0 [.i .i64, .i .i64, .i .i64, .i .u64, .i .u64, .i .i64] fun (t17 : Int) (t18 : Int) (t19 : Int) (t20 : Int) (t21 : Int) (t22 : Int) =>
   C.lookup_Address r14 t17 t18 t19 t20 t21 t22 ⟨slA way9.a 0 way9.cap 1, ((minI (way9.len : Int) (20 : Int)).toNat) - 0, way9.cap - 0⟩ (fun r23 r24 r25 w26 =>
   LdL w26 (Addr.mk w10.heap.size 0 none) 0 [.i .i64, .i .i64, .i .i64, .i .u64, .i .u64, .i .i64] fun (t27 : Int) (t28 : Int) (t29 : Int) (t30 : Int) (t31 : Int) (t32 : Int) =>
   C.ref06_Address r15 t27 t28 t29 t30 t31 t32 ⟨slA way9.a 0 way9.cap 1, ((minI (way9.len : Int) (20 : Int)).toNat) - 0, way9.cap - 0⟩ (fun r33 r34 r35 w36 =>
   bif r23 == r33 then
    (bif r24 == r34 then
    (bif r25 == r35 then
    (C.law06_fixed  (fun r37 w38 =>
   K r37 w38) w36)
   else
    (K false w36))
   else
    (K false w36))
   else
    (K false w36)) w26) w16)) w11
set_option maxRecDepth 100000 in
theorem S.law06_LookupWays_ok (b1 : Sl) (b2 : Sl) (root3 : Int) (root4 : Int) (root5 : Int) (root6 : Int) (root7 : Int) (root8 : Int) (way9 : Sl) (K : Bool → World → Prop) (w : World) (h : S.law06_LookupWays b1 b2 root3 root4 root5 root6 root7 root8 way9 K w) : C.law06_LookupWays b1 b2 root3 root4 root5 root6 root7 root8 way9 K w := by
  have e : fnV Try.prog Try.f4 (bodyOf Try.f4) (.t none (.u) (.t none (.u) (.t none (.u) (.t none (.t none (.u) (.t none (.t none (.u) (.u)) (.u))) (.t none (.u) (.t none (.u) (.t none (.u) (.u)))))))) [(0, .c (.b))] [.agg #[.slice b1.a b1.len b1.cap, .slice b2.a b2.len b2.cap], .agg #[.int .i64 root3, .int .i64 root4, .int .i64 root5, .int .u64 root6, .int .u64 root7, .int .i64 root8], .slice way9.a way9.len way9.cap] K w = S.law06_LookupWays b1 b2 root3 root4 root5 root6 root7 root8 way9 K w := by kernel_rfl
  exact okF_mk Try.func4 rfl (fn_sound names_ok follows_ok Try.func4 rfl (by kernel_rfl) (Eq.mpr e h))

/-- buttress/buttresslaw06.LookupOnly -/
def S.law06_LookupOnly (b1 : Sl) (b2 : Sl) (o3 : Int) (o4 : Int) (o5 : Int) (o6 : Int) (o7 : Int) (o8 : Int) (o9 : Int) (o10 : Int) (K : Bool → World → Prop) (w : World) : Prop :=
  Al w (.cells #[.slice b1.a b1.len b1.cap, .slice b2.a b2.len b2.cap] 35) fun w11 =>
   Al w11 (.cells #[.int .i64 o3, .int .i64 o4, .int .i64 o5, .int .u64 o6, .int .u64 o7, .int .i64 o8, .int .u64 o9, .int .i64 o10] 47) fun w12 =>
   LdL w12 (Addr.mk w.heap.size 0 none) 0 [.s, .s] fun (t13 : Sl) (t14 : Sl) =>
   C.law06_built t13 t14 (fun r15 r16 w17 =>
   bif r15.isNone then
    (K false w17)
   else
    (LdL w17 (Addr.mk w11.heap.size 0 none) 0 [.i .i64, .i .i64, .i .i64, .i .u64, .i .u64, .i .i64] fun (root18 : Int) (root19 : Int) (root20 : Int) (root21 : Int) (root22 : Int) (root23 : Int) =>
   ∃ addr24 : Int, w17.cell? ((Addr.mk w11.heap.size 0 none).add 6) = some (.int .u64 addr24) ∧
   ∃ depth25 : Int, w17.cell? ((Addr.mk w11.heap.size 0 none).add 7) = some (.int .i64 depth25) ∧
   C.lookup_Slot r15 root18 root19 root20 root21 root22 root23 addr24 depth25 (fun r26 r27 r28 w29 =>
   Al w29 (.cells #[.int .i64 (0 : Int), .int .i64 (0 : Int)] 49) fun w30 =>
   StL w30 (Addr.mk w29.heap.size 0 none) 0 [.int .i64 r26, .int .i64 r27] fun w31 =>
   bif r28 != (0 : Int) then
    (LdL w31 (Addr.mk w29.heap.size 0 none) 0 [.i .i64, .i .i64] fun (t32 : Int) (t33 : Int) =>
   ∃ eq34 : Bool, EqB Try.prog .eql 49 (.tmp 32) (.tmp 33) (.agg #[.int .i64 t32, .int .i64 t33]) (.agg #[.int .i64 (0 : Int), .int .i64 (0 : Int)]) eq34 ∧
   bif eq34 then
    (C.law06_fixed  (fun r35 w36 =>
   K r35 w36) w31)
   else
    (K false w31))
   else
    (∀ k37 : Bool → World → Prop,
   (∀ (t38 : Bool) (w39 : World), (bif t38 then
    (K false w39)
   else
    (∃ bits40 : Int, w39.cell? ((Addr.mk w11.heap.size 0 none).add 5) = some (.int .i64 bits40) ∧
   bif bits40 == (0 : Int) then
    (C.law06_fixed  (fun r41 w42 =>
   K r41 w42) w39)
   else
    (LdL w39 (Addr.mk w11.heap.size 0 none) 0 [.i .i64, .i .i64, .i .i64, .i .u64, .i .u64, .i .i64] fun (root43 : Int) (root44 : Int) (root45 : Int) (root46 : Int) (root47 : Int) (root48 : Int) =>
   Al w39 (.cells #[.int .i64 (0 : Int), .int .i64 (0 : Int), .int .i64 (0 : Int), .int .u64 (0 : Int), .int .u64 (0 : Int), .int .i64 (0 : Int)] 38) fun w49 =>
   StL w49 (Addr.mk w39.heap.size 0 none) 0 [.int .i64 root43, .int .i64 root44, .int .i64 root45, .int .u64 root46, .int .u64 root47, .int .i64 root48] fun w50 =>
   ∃ guard51 : Int, w50.cell? ((Addr.mk w39.heap.size 0 none).add 4) = some (.int .u64 guard51) ∧
   St w50 ((Addr.mk w39.heap.size 0 none).add 4) (.int .u64 (xorI .u64 guard51 (1 : Int))) fun w52 =>
   LdL w52 (Addr.mk w39.heap.size 0 none) 0 [.i .i64, .i .i64, .i .i64, .i .u64, .i .u64, .i .i64] fun (t53 : Int) (t54 : Int) (t55 : Int) (t56 : Int) (t57 : Int) (t58 : Int) =>
   ∃ addr59 : Int, w52.cell? ((Addr.mk w11.heap.size 0 none).add 6) = some (.int .u64 addr59) ∧
   ∃ depth60 : Int, w52.cell? ((Addr.mk w11.heap.size 0 none).add 7) = some (.int .i64 depth60) ∧
   C.lookup_Slot r15 t53 t54 t55 t56 t57 t58 addr59 depth60 (fun r61 r62 r63 w64 =>
   Al w64 (.cells #[.int .i64 (0 : Int), .int .i64 (0 : Int)] 49) fun w65 =>
   StL w65 (Addr.mk w64.heap.size 0 none) 0 [.int .i64 r61, .int .i64 r62] fun w66 =>
   bif r63 == (61 : Int) then
    (LdL w66 (Addr.mk w64.heap.size 0 none) 0 [.i .i64, .i .i64] fun (t67 : Int) (t68 : Int) =>
   ∃ eq69 : Bool, EqB Try.prog .eql 49 (.tmp 78) (.tmp 79) (.agg #[.int .i64 t67, .int .i64 t68]) (.agg #[.int .i64 (0 : Int), .int .i64 (0 : Int)]) eq69 ∧
   bif eq69 then
    (C.law06_fixed  (fun r70 w71 =>
   K r70 w71) w66)
   else
    (K false w66))
   else
    (K false w66)) w52))) → k37 t38 w39) →
   (LdL w31 (Addr.mk w29.heap.size 0 none) 0 [.i .i64, .i .i64] fun (t72 : Int) (t73 : Int) =>
   C.ref05_Nodes_Is r16 t72 t73 (fun r74 w75 =>
   bif !r74 then
    (k37 true w75)
   else
    (∃ kind76 : Int, w75.cell? (Addr.mk w11.heap.size 0 none) = some (.int .i64 kind76) ∧
   bif kind76 != (2 : Int) then
    (k37 true w75)
   else
    (LdL w75 (Addr.mk w11.heap.size 0 none) 0 [.i .i64, .i .i64, .i .i64, .i .u64, .i .u64, .i .i64] fun (root77 : Int) (root78 : Int) (root79 : Int) (root80 : Int) (root81 : Int) (root82 : Int) =>
   C.ref04_Check root77 root78 root79 root80 root81 root82 (fun r83 w84 =>
   k37 (r83 != (0 : Int)) w84) w75))) w31))) w17)) w12
set_option maxRecDepth 100000 in
theorem S.law06_LookupOnly_ok (b1 : Sl) (b2 : Sl) (o3 : Int) (o4 : Int) (o5 : Int) (o6 : Int) (o7 : Int) (o8 : Int) (o9 : Int) (o10 : Int) (K : Bool → World → Prop) (w : World) (h : S.law06_LookupOnly b1 b2 o3 o4 o5 o6 o7 o8 o9 o10 K w) : C.law06_LookupOnly b1 b2 o3 o4 o5 o6 o7 o8 o9 o10 K w := by
  have e : fnV Try.prog Try.f5 (bodyOf Try.f5) (.t none (.u) (.t none (.u) (.t none (.t none (.u) (.t none (.t none (.u) (.u)) (.u))) (.t none (.u) (.t none (.t none (.u) (.t none (.t none (.u) (.u)) (.u))) (.t none (.t none (.r (some [(53, .c (.b))]) .done) (.t none (.t none (.u) (.u)) (.u))) (.t none (.t none (.u) (.t none (.t none (.u) (.u)) (.u))) (.t none (.u) (.t none (.u) (.t none (.u) (.t none (.u) (.u)))))))))))) [(0, .c (.b))] [.agg #[.slice b1.a b1.len b1.cap, .slice b2.a b2.len b2.cap], .agg #[.int .i64 o3, .int .i64 o4, .int .i64 o5, .int .u64 o6, .int .u64 o7, .int .i64 o8, .int .u64 o9, .int .i64 o10]] K w = S.law06_LookupOnly b1 b2 o3 o4 o5 o6 o7 o8 o9 o10 K w := by kernel_rfl
  exact okF_mk Try.func5 rfl (fn_sound names_ok follows_ok Try.func5 rfl (by kernel_rfl) (Eq.mpr e h))

/-- buttress/buttresslaw06.LookupHigh -/
def S.law06_LookupHigh (b1 : Sl) (b2 : Sl) (o3 : Int) (o4 : Int) (o5 : Int) (o6 : Int) (o7 : Int) (o8 : Int) (o9 : Int) (o10 : Int) (more11 : Int) (K : Bool → World → Prop) (w : World) : Prop :=
  Al w (.cells #[.slice b1.a b1.len b1.cap, .slice b2.a b2.len b2.cap] 35) fun w12 =>
   Al w12 (.cells #[.int .i64 o3, .int .i64 o4, .int .i64 o5, .int .u64 o6, .int .u64 o7, .int .i64 o8, .int .u64 o9, .int .i64 o10] 47) fun w13 =>
   LdL w13 (Addr.mk w.heap.size 0 none) 0 [.s, .s] fun (t14 : Sl) (t15 : Sl) =>
   C.law06_built t14 t15 (fun r16 r17 w18 =>
   bif r16.isNone then
    (K false w18)
   else
    (∃ depth19 : Int, w18.cell? ((Addr.mk w12.heap.size 0 none).add 7) = some (.int .i64 depth19) ∧
   (63 : Int) ≠ 0 ∧
   LdL w18 (Addr.mk w12.heap.size 0 none) 0 [.i .i64, .i .i64, .i .i64, .i .u64, .i .u64, .i .i64] fun (root20 : Int) (root21 : Int) (root22 : Int) (root23 : Int) (root24 : Int) (root25 : Int) =>
   ∃ addr26 : Int, w18.cell? ((Addr.mk w12.heap.size 0 none).add 6) = some (.int .u64 addr26) ∧
   C.lookup_Slot r16 root20 root21 root22 root23 root24 root25 addr26 (IntKind.i64.wrap ((1 : Int) + ((andI .i64 depth19 (65535 : Int)).tmod (63 : Int)))) (fun r27 r28 r29 w30 =>
   Al w30 (.cells #[.int .i64 (0 : Int), .int .i64 (0 : Int)] 49) fun w31 =>
   StL w31 (Addr.mk w30.heap.size 0 none) 0 [.int .i64 r27, .int .i64 r28] fun w32 =>
   ∀ k33 : Addr → Int → World → Prop,
   (∀ (t34 : Addr) (f35 : Int) (w36 : World), (LdL w36 (Addr.mk w30.heap.size 0 none) 0 [.i .i64, .i .i64] fun (t37 : Int) (t38 : Int) =>
   LdL w36 t34 0 [.i .i64, .i .i64] fun (t39 : Int) (t40 : Int) =>
   ∃ eq41 : Bool, EqB Try.prog .eql 49 (.tmp 54) (.tmp 55) (.agg #[.int .i64 t37, .int .i64 t38]) (.agg #[.int .i64 t39, .int .i64 t40]) eq41 ∧
   bif eq41 then
    (bif r29 == f35 then
    (C.law06_fixed  (fun r42 w43 =>
   K r42 w43) w36)
   else
    (K false w36))
   else
    (K false w36)) → k33 t34 f35 w36) →
   (Dr w32 fun w44 =>
   LdL w44 (Addr.mk w12.heap.size 0 none) 0 [.i .i64, .i .i64, .i .i64, .i .u64, .i .u64, .i .i64] fun (root45 : Int) (root46 : Int) (root47 : Int) (root48 : Int) (root49 : Int) (root50 : Int) =>
   ∃ addr51 : Int, w44.cell? ((Addr.mk w12.heap.size 0 none).add 6) = some (.int .u64 addr51) ∧
   0 ≤ (IntKind.i64.wrap ((1 : Int) + ((andI .i64 depth19 (65535 : Int)).tmod (63 : Int)))) ∧
   0 ≤ (IntKind.i64.wrap ((1 : Int) + ((andI .i64 depth19 (65535 : Int)).tmod (63 : Int)))) ∧
   (C.lookup_Slot r16 root45 root46 root47 root48 root49 root50 (orI .u64 (andI .u64 addr51 (IntKind.u64.wrap ((shlI .u64 (1 : Int) (IntKind.i64.wrap ((1 : Int) + ((andI .i64 depth19 (65535 : Int)).tmod (63 : Int))))) - (1 : Int)))) (shlI .u64 more11 (IntKind.i64.wrap ((1 : Int) + ((andI .i64 depth19 (65535 : Int)).tmod (63 : Int)))))) (IntKind.i64.wrap ((1 : Int) + ((andI .i64 depth19 (65535 : Int)).tmod (63 : Int)))) (fun r52 r53 r54 w55 =>
   (Al w55 (.cells #[.int .i64 (0 : Int), .int .i64 (0 : Int)] 49) fun w56 =>
   (StL w56 (Addr.mk w55.heap.size 0 none) 0 [.int .i64 r52, .int .i64 r53] fun w57 =>
   k33 (Addr.mk w55.heap.size 0 none) r54 w57) ∧
   True) ∧
   True) w44) ∧
   (Al w44 (.cells #[.int .i64 (0 : Int), .int .i64 (0 : Int)] 49) fun w58 =>
   (C.lookup_Slot r16 root45 root46 root47 root48 root49 root50 (orI .u64 (andI .u64 addr51 (IntKind.u64.wrap ((shlI .u64 (1 : Int) (IntKind.i64.wrap ((1 : Int) + ((andI .i64 depth19 (65535 : Int)).tmod (63 : Int))))) - (1 : Int)))) (shlI .u64 more11 (IntKind.i64.wrap ((1 : Int) + ((andI .i64 depth19 (65535 : Int)).tmod (63 : Int)))))) (IntKind.i64.wrap ((1 : Int) + ((andI .i64 depth19 (65535 : Int)).tmod (63 : Int)))) (fun r59 r60 r61 w62 =>
   (StL w62 (Addr.mk w44.heap.size 0 none) 0 [.int .i64 r59, .int .i64 r60] fun w63 =>
   k33 (Addr.mk w44.heap.size 0 none) r61 w63) ∧
   True) w58) ∧
   True) ∧
   True)) w18)) w13
set_option maxRecDepth 100000 in
theorem S.law06_LookupHigh_ok (b1 : Sl) (b2 : Sl) (o3 : Int) (o4 : Int) (o5 : Int) (o6 : Int) (o7 : Int) (o8 : Int) (o9 : Int) (o10 : Int) (more11 : Int) (K : Bool → World → Prop) (w : World) (h : S.law06_LookupHigh b1 b2 o3 o4 o5 o6 o7 o8 o9 o10 more11 K w) : C.law06_LookupHigh b1 b2 o3 o4 o5 o6 o7 o8 o9 o10 more11 K w := by
  have e : fnV Try.prog Try.f6 (bodyOf Try.f6) (.t none (.u) (.t none (.u) (.t none (.t none (.u) (.t none (.t none (.u) (.u)) (.u))) (.t none (.u) (.t none (.u) (.t none (.r (some [(12, .c (.q)), (13, .c (.i .i64))]) (.one 0 278526 (.one 1 278520 (.one 2 278520 (.one 3 274144 (.one 4 274144 (.one 5 273920 (.one 6 273920 (.one 7 273920 (.one 8 273920 (.one 9 271360 (.one 10 270336 (.one 11 270336 (.one 12 270336 (.one 13 262144 (.alt 14 (.one 15 262144 (.one 16 393216 (.one 17 786432 (.alt 18 (.alt 19 (.one 20 0 (.done)) (.none)) (.none))))) (.alt 18 (.alt 14 (.one 15 0 (.one 16 131072 (.one 17 524288 (.alt 19 (.one 20 0 (.done)) (.none))))) (.none)) (.none)))))))))))))))))) (.t none (.u) (.u)))))))) [(0, .c (.b))] [.agg #[.slice b1.a b1.len b1.cap, .slice b2.a b2.len b2.cap], .agg #[.int .i64 o3, .int .i64 o4, .int .i64 o5, .int .u64 o6, .int .u64 o7, .int .i64 o8, .int .u64 o9, .int .i64 o10], .int .u64 more11] K w = S.law06_LookupHigh b1 b2 o3 o4 o5 o6 o7 o8 o9 o10 more11 K w := by kernel_rfl
  exact okF_mk Try.func6 rfl (fn_sound names_ok follows_ok Try.func6 rfl (by kernel_rfl) (Eq.mpr e h))

/-- buttress/buttresslaw06.LookupFree -/
def S.law06_LookupFree (bits1 : Int) (addr2 : Int) (depth3 : Int) (K : Bool → World → Prop) (w : World) : Prop :=
  Al w (.cells #[.int .i64 bits1] 3) fun w4 =>
   C.law06_built ⟨some (Addr.mk w.heap.size 0 none), 1, 1⟩ ⟨none, 0, 0⟩ (fun r5 r6 w7 =>
   bif r5.isNone then
    (K false w7)
   else
    (Al w7 (.cells #[.int .i64 (0 : Int), .int .i64 (0 : Int), .int .i64 (0 : Int), .int .u64 (0 : Int), .int .u64 (0 : Int), .int .i64 (0 : Int)] 38) fun w8 =>
   StL w8 (Addr.mk w7.heap.size 0 none) 0 [.int .i64 (2 : Int), .int .i64 (0 : Int), .int .i64 (7 : Int), .int .u64 (0 : Int), .int .u64 (0 : Int), .int .i64 (0 : Int)] fun w9 =>
   LdL w9 (Addr.mk w7.heap.size 0 none) 0 [.i .i64, .i .i64, .i .i64, .i .u64, .i .u64, .i .i64] fun (t10 : Int) (t11 : Int) (t12 : Int) (t13 : Int) (t14 : Int) (t15 : Int) =>
   C.lookup_Slot r5 t10 t11 t12 t13 t14 t15 addr2 (IntKind.i64.wrap ((1 : Int) + (andI .i64 depth3 (63 : Int)))) (fun r16 r17 r18 w19 =>
   Al w19 (.cells #[.int .i64 (0 : Int), .int .i64 (0 : Int)] 49) fun w20 =>
   StL w20 (Addr.mk w19.heap.size 0 none) 0 [.int .i64 r16, .int .i64 r17] fun w21 =>
   bif (IntKind.i64.wrap ((1 : Int) + (andI .i64 depth3 (63 : Int)))) != (IntKind.i64.wrap ((1 : Int) + (andI .i64 bits1 (3 : Int)))) then
    (bif r18 == (62 : Int) then
    (LdL w21 (Addr.mk w19.heap.size 0 none) 0 [.i .i64, .i .i64] fun (t22 : Int) (t23 : Int) =>
   ∃ eq24 : Bool, EqB Try.prog .eql 49 (.tmp 44) (.tmp 45) (.agg #[.int .i64 t22, .int .i64 t23]) (.agg #[.int .i64 (0 : Int), .int .i64 (0 : Int)]) eq24 ∧
   bif eq24 then
    (C.law06_fixed  (fun r25 w26 =>
   K r25 w26) w21)
   else
    (K false w21))
   else
    (K false w21))
   else
    (Dr w21 fun w27 =>
   bif r18 == (0 : Int) then
    (LdL w27 (Addr.mk w19.heap.size 0 none) 0 [.i .i64, .i .i64] fun (t28 : Int) (t29 : Int) =>
   0 ≤ (IntKind.i64.wrap ((1 : Int) + (andI .i64 bits1 (3 : Int)))) ∧
   ∃ eq30 : Bool, EqB Try.prog .eql 49 (.tmp 54) (.tmp 61) (.agg #[.int .i64 t28, .int .i64 t29]) (.agg #[.int .i64 (0 : Int), .int .i64 (IntKind.i64.wrap (andI .u64 addr2 (IntKind.u64.wrap ((shlI .u64 (1 : Int) (IntKind.i64.wrap ((1 : Int) + (andI .i64 bits1 (3 : Int))))) - (1 : Int)))))]) eq30 ∧
   bif eq30 then
    ((C.law06_fixed  (fun r31 w32 =>
   K r31 w32) w27) ∧
   True)
   else
    ((K false w27) ∧
   True))
   else
    ((K false w27) ∧
   True))) w9)) w4
set_option maxRecDepth 100000 in
theorem S.law06_LookupFree_ok (bits1 : Int) (addr2 : Int) (depth3 : Int) (K : Bool → World → Prop) (w : World) (h : S.law06_LookupFree bits1 addr2 depth3 K w) : C.law06_LookupFree bits1 addr2 depth3 K w := by
  have e : fnV Try.prog Try.f7 (bodyOf Try.f7) (.t none (.u) (.t none (.u) (.t none (.t none (.u) (.t none (.t none (.u) (.u)) (.u))) (.t none (.u) (.t none (.u) (.t none (.u) (.t none (.u) (.t none (.t none (.u) (.t none (.t none (.u) (.u)) (.u))) (.t none (.r none (.one 0 0 (.one 1 0 (.one 2 0 (.one 3 2032 (.one 4 224 (.one 5 0 (.one 6 0 (.one 7 0 (.one 8 0 (.one 9 0 (.one 10 0 (.one 11 0 (.one 12 0 (.one 13 0 (.alt 14 (.one 15 0 (.one 16 0 (.done))) (.none))))))))))))))))) (.u)))))))))) [(0, .c (.b))] [.int .i64 bits1, .int .u64 addr2, .int .i64 depth3] K w = S.law06_LookupFree bits1 addr2 depth3 K w := by kernel_rfl
  exact okF_mk Try.func7 rfl (fn_sound names_ok follows_ok Try.func7 rfl (by kernel_rfl) (Eq.mpr e h))

/-- buttress/buttresslaw06.LookupDepths -/
def S.law06_LookupDepths (b1 : Sl) (b2 : Sl) (o3 : Int) (o4 : Int) (o5 : Int) (o6 : Int) (o7 : Int) (o8 : Int) (o9 : Int) (o10 : Int) (K : Bool → World → Prop) (w : World) : Prop :=
  Al w (.cells #[.slice b1.a b1.len b1.cap, .slice b2.a b2.len b2.cap] 35) fun w11 =>
   Al w11 (.cells #[.int .i64 o3, .int .i64 o4, .int .i64 o5, .int .u64 o6, .int .u64 o7, .int .i64 o8, .int .u64 o9, .int .i64 o10] 47) fun w12 =>
   LdL w12 (Addr.mk w.heap.size 0 none) 0 [.s, .s] fun (t13 : Sl) (t14 : Sl) =>
   C.law06_built t13 t14 (fun r15 r16 w17 =>
   bif r15.isNone then
    (K false w17)
   else
    (LdL w17 (Addr.mk w11.heap.size 0 none) 0 [.i .i64, .i .i64, .i .i64, .i .u64, .i .u64, .i .i64] fun (root18 : Int) (root19 : Int) (root20 : Int) (root21 : Int) (root22 : Int) (root23 : Int) =>
   ∃ addr24 : Int, w17.cell? ((Addr.mk w11.heap.size 0 none).add 6) = some (.int .u64 addr24) ∧
   C.lookup_Slot r15 root18 root19 root20 root21 root22 root23 addr24 (0 : Int) (fun r25 r26 r27 w28 =>
   Al w28 (.cells #[.int .i64 (0 : Int), .int .i64 (0 : Int)] 49) fun w29 =>
   StL w29 (Addr.mk w28.heap.size 0 none) 0 [.int .i64 r25, .int .i64 r26] fun w30 =>
   LdL w30 (Addr.mk w11.heap.size 0 none) 0 [.i .i64, .i .i64, .i .i64, .i .u64, .i .u64, .i .i64] fun (root31 : Int) (root32 : Int) (root33 : Int) (root34 : Int) (root35 : Int) (root36 : Int) =>
   ∃ addr37 : Int, w30.cell? ((Addr.mk w11.heap.size 0 none).add 6) = some (.int .u64 addr37) ∧
   C.lookup_Slot r15 root31 root32 root33 root34 root35 root36 addr37 (65 : Int) (fun r38 r39 r40 w41 =>
   Al w41 (.cells #[.int .i64 (0 : Int), .int .i64 (0 : Int)] 49) fun w42 =>
   StL w42 (Addr.mk w41.heap.size 0 none) 0 [.int .i64 r38, .int .i64 r39] fun w43 =>
   LdL w43 (Addr.mk w11.heap.size 0 none) 0 [.i .i64, .i .i64, .i .i64, .i .u64, .i .u64, .i .i64] fun (root44 : Int) (root45 : Int) (root46 : Int) (root47 : Int) (root48 : Int) (root49 : Int) =>
   ∃ addr50 : Int, w43.cell? ((Addr.mk w11.heap.size 0 none).add 6) = some (.int .u64 addr50) ∧
   ∃ depth51 : Int, w43.cell? ((Addr.mk w11.heap.size 0 none).add 7) = some (.int .i64 depth51) ∧
   C.lookup_Slot r15 root44 root45 root46 root47 root48 root49 addr50 (IntKind.i64.wrap ((-1 : Int) - (andI .i64 depth51 (65535 : Int)))) (fun r52 r53 r54 w55 =>
   Al w55 (.cells #[.int .i64 (0 : Int), .int .i64 (0 : Int)] 49) fun w56 =>
   StL w56 (Addr.mk w55.heap.size 0 none) 0 [.int .i64 r52, .int .i64 r53] fun w57 =>
   ∀ k58 : Bool → World → Prop,
   (∀ (t59 : Bool) (w60 : World), (bif t59 then
    (K false w60)
   else
    (LdL w60 (Addr.mk w11.heap.size 0 none) 0 [.i .i64, .i .i64, .i .i64, .i .u64, .i .u64, .i .i64] fun (root61 : Int) (root62 : Int) (root63 : Int) (root64 : Int) (root65 : Int) (root66 : Int) =>
   ∃ addr67 : Int, w60.cell? ((Addr.mk w11.heap.size 0 none).add 6) = some (.int .u64 addr67) ∧
   ∃ depth68 : Int, w60.cell? ((Addr.mk w11.heap.size 0 none).add 7) = some (.int .i64 depth68) ∧
   C.lookup_Slot r15 root61 root62 root63 root64 root65 root66 addr67 depth68 (fun r69 r70 r71 w72 =>
   Al w72 (.cells #[.int .i64 (0 : Int), .int .i64 (0 : Int)] 49) fun w73 =>
   StL w73 (Addr.mk w72.heap.size 0 none) 0 [.int .i64 r69, .int .i64 r70] fun w74 =>
   LdL w74 (Addr.mk w72.heap.size 0 none) 0 [.i .i64, .i .i64] fun (t75 : Int) (t76 : Int) =>
   C.ref05_Nodes_Get r16 t75 t76 (fun r77 r78 r79 r80 r81 r82 r83 w84 =>
   Al w84 (.cells #[.int .i64 (0 : Int), .int .i64 (0 : Int), .int .i64 (0 : Int), .int .u64 (0 : Int), .int .u64 (0 : Int), .int .i64 (0 : Int)] 38) fun w85 =>
   StL w85 (Addr.mk w84.heap.size 0 none) 0 [.int .i64 r77, .int .i64 r78, .int .i64 r79, .int .u64 r80, .int .u64 r81, .int .i64 r82] fun w86 =>
   ∀ k87 : Bool → World → Prop,
   (∀ (t88 : Bool) (w89 : World), (bif t88 then
    (C.law06_fixed  (fun r90 w91 =>
   K r90 w91) w89)
   else
    (LdL w89 (Addr.mk w11.heap.size 0 none) 0 [.i .i64, .i .i64, .i .i64, .i .u64, .i .u64, .i .i64] fun (root92 : Int) (root93 : Int) (root94 : Int) (root95 : Int) (root96 : Int) (root97 : Int) =>
   ∃ addr98 : Int, w89.cell? ((Addr.mk w11.heap.size 0 none).add 6) = some (.int .u64 addr98) ∧
   0 ≤ (1 : Int) ∧
   ∃ depth99 : Int, w89.cell? ((Addr.mk w11.heap.size 0 none).add 7) = some (.int .i64 depth99) ∧
   C.lookup_Slot r15 root92 root93 root94 root95 root96 root97 (shlI .u64 addr98 (1 : Int)) (IntKind.i64.wrap (depth99 + (1 : Int))) (fun r100 r101 r102 w103 =>
   Al w103 (.cells #[.int .i64 (0 : Int), .int .i64 (0 : Int)] 49) fun w104 =>
   StL w104 (Addr.mk w103.heap.size 0 none) 0 [.int .i64 r100, .int .i64 r101] fun w105 =>
   bif r102 == (62 : Int) then
    (C.law06_fixed  (fun r106 w107 =>
   K r106 w107) w105)
   else
    (K false w105)) w89)) → k87 t88 w89) →
   (bif r71 != (0 : Int) then
    (k87 true w86)
   else
    (∃ kind108 : Int, w86.cell? (Addr.mk w84.heap.size 0 none) = some (.int .i64 kind108) ∧
   bif kind108 == (2 : Int) then
    (k87 true w86)
   else
    (∃ depth109 : Int, w86.cell? ((Addr.mk w11.heap.size 0 none).add 7) = some (.int .i64 depth109) ∧
   k87 (decide (depth109 > (63 : Int))) w86)))) w74) w60)) → k58 t59 w60) →
   (bif r27 != (1 : Int) then
    (k58 true w57)
   else
    (bif r40 != (1 : Int) then
    (k58 true w57)
   else
    (k58 (r54 != (1 : Int)) w57)))) w43) w30) w17)) w12
set_option maxRecDepth 100000 in
theorem S.law06_LookupDepths_ok (b1 : Sl) (b2 : Sl) (o3 : Int) (o4 : Int) (o5 : Int) (o6 : Int) (o7 : Int) (o8 : Int) (o9 : Int) (o10 : Int) (K : Bool → World → Prop) (w : World) (h : S.law06_LookupDepths b1 b2 o3 o4 o5 o6 o7 o8 o9 o10 K w) : C.law06_LookupDepths b1 b2 o3 o4 o5 o6 o7 o8 o9 o10 K w := by
  have e : fnV Try.prog Try.f8 (bodyOf Try.f8) (.t none (.u) (.t none (.u) (.t none (.t none (.u) (.t none (.t none (.u) (.u)) (.u))) (.t none (.u) (.t none (.u) (.t none (.u) (.t none (.t none (.r (some [(66, .c (.b))]) .done) (.t none (.t none (.u) (.u)) (.u))) (.t none (.u) (.t none (.u) (.t none (.t none (.r (some [(95, .c (.b))]) .done) (.t none (.t none (.u) (.u)) (.u))) (.t none (.u) (.t none (.u) (.u))))))))))))) [(0, .c (.b))] [.agg #[.slice b1.a b1.len b1.cap, .slice b2.a b2.len b2.cap], .agg #[.int .i64 o3, .int .i64 o4, .int .i64 o5, .int .u64 o6, .int .u64 o7, .int .i64 o8, .int .u64 o9, .int .i64 o10]] K w = S.law06_LookupDepths b1 b2 o3 o4 o5 o6 o7 o8 o9 o10 K w := by kernel_rfl
  exact okF_mk Try.func8 rfl (fn_sound names_ok follows_ok Try.func8 rfl (by kernel_rfl) (Eq.mpr e h))

/-- buttress/buttresslaw06.LookupSlots -/
def S.law06_LookupSlots (b1 : Sl) (b2 : Sl) (o3 : Int) (o4 : Int) (o5 : Int) (o6 : Int) (o7 : Int) (o8 : Int) (o9 : Int) (o10 : Int) (K : Bool → World → Prop) (w : World) : Prop :=
  Al w (.cells #[.slice b1.a b1.len b1.cap, .slice b2.a b2.len b2.cap] 35) fun w11 =>
   Al w11 (.cells #[.int .i64 o3, .int .i64 o4, .int .i64 o5, .int .u64 o6, .int .u64 o7, .int .i64 o8, .int .u64 o9, .int .i64 o10] 47) fun w12 =>
   LdL w12 (Addr.mk w.heap.size 0 none) 0 [.s, .s] fun (t13 : Sl) (t14 : Sl) =>
   C.law06_built t13 t14 (fun r15 r16 w17 =>
   bif r15.isNone then
    (K false w17)
   else
    (LdL w17 (Addr.mk w11.heap.size 0 none) 0 [.i .i64, .i .i64, .i .i64, .i .u64, .i .u64, .i .i64] fun (root18 : Int) (root19 : Int) (root20 : Int) (root21 : Int) (root22 : Int) (root23 : Int) =>
   ∃ addr24 : Int, w17.cell? ((Addr.mk w11.heap.size 0 none).add 6) = some (.int .u64 addr24) ∧
   ∃ depth25 : Int, w17.cell? ((Addr.mk w11.heap.size 0 none).add 7) = some (.int .i64 depth25) ∧
   C.lookup_Slot r15 root18 root19 root20 root21 root22 root23 addr24 depth25 (fun r26 r27 r28 w29 =>
   Al w29 (.cells #[.int .i64 (0 : Int), .int .i64 (0 : Int)] 49) fun w30 =>
   StL w30 (Addr.mk w29.heap.size 0 none) 0 [.int .i64 r26, .int .i64 r27] fun w31 =>
   LdL w31 (Addr.mk w11.heap.size 0 none) 0 [.i .i64, .i .i64, .i .i64, .i .u64, .i .u64, .i .i64] fun (root32 : Int) (root33 : Int) (root34 : Int) (root35 : Int) (root36 : Int) (root37 : Int) =>
   ∃ addr38 : Int, w31.cell? ((Addr.mk w11.heap.size 0 none).add 6) = some (.int .u64 addr38) ∧
   ∃ depth39 : Int, w31.cell? ((Addr.mk w11.heap.size 0 none).add 7) = some (.int .i64 depth39) ∧
   C.ref06_Slot r16 root32 root33 root34 root35 root36 root37 addr38 depth39 (fun r40 r41 r42 w43 =>
   Al w43 (.cells #[.int .i64 (0 : Int), .int .i64 (0 : Int)] 49) fun w44 =>
   StL w44 (Addr.mk w43.heap.size 0 none) 0 [.int .i64 r40, .int .i64 r41] fun w45 =>
   LdL w45 (Addr.mk w11.heap.size 0 none) 0 [.i .i64, .i .i64, .i .i64, .i .u64, .i .u64, .i .i64] fun (root46 : Int) (root47 : Int) (root48 : Int) (root49 : Int) (root50 : Int) (root51 : Int) =>
   ∃ addr52 : Int, w45.cell? ((Addr.mk w11.heap.size 0 none).add 6) = some (.int .u64 addr52) ∧
   ∃ depth53 : Int, w45.cell? ((Addr.mk w11.heap.size 0 none).add 7) = some (.int .i64 depth53) ∧
   C.lookup_Cap r15 root46 root47 root48 root49 root50 root51 addr52 depth53 (fun r54 r55 r56 r57 r58 r59 r60 w61 =>
   Al w61 (.cells #[.int .i64 (0 : Int), .int .i64 (0 : Int), .int .i64 (0 : Int), .int .u64 (0 : Int), .int .u64 (0 : Int), .int .i64 (0 : Int)] 38) fun w62 =>
   StL w62 (Addr.mk w61.heap.size 0 none) 0 [.int .i64 r54, .int .i64 r55, .int .i64 r56, .int .u64 r57, .int .u64 r58, .int .i64 r59] fun w63 =>
   LdL w63 (Addr.mk w11.heap.size 0 none) 0 [.i .i64, .i .i64, .i .i64, .i .u64, .i .u64, .i .i64] fun (root64 : Int) (root65 : Int) (root66 : Int) (root67 : Int) (root68 : Int) (root69 : Int) =>
   ∃ addr70 : Int, w63.cell? ((Addr.mk w11.heap.size 0 none).add 6) = some (.int .u64 addr70) ∧
   ∃ depth71 : Int, w63.cell? ((Addr.mk w11.heap.size 0 none).add 7) = some (.int .i64 depth71) ∧
   C.ref06_Cap r16 root64 root65 root66 root67 root68 root69 addr70 depth71 (fun r72 r73 r74 r75 r76 r77 r78 w79 =>
   Al w79 (.cells #[.int .i64 (0 : Int), .int .i64 (0 : Int), .int .i64 (0 : Int), .int .u64 (0 : Int), .int .u64 (0 : Int), .int .i64 (0 : Int)] 38) fun w80 =>
   StL w80 (Addr.mk w79.heap.size 0 none) 0 [.int .i64 r72, .int .i64 r73, .int .i64 r74, .int .u64 r75, .int .u64 r76, .int .i64 r77] fun w81 =>
   LdL w81 (Addr.mk w29.heap.size 0 none) 0 [.i .i64, .i .i64] fun (t82 : Int) (t83 : Int) =>
   LdL w81 (Addr.mk w43.heap.size 0 none) 0 [.i .i64, .i .i64] fun (t84 : Int) (t85 : Int) =>
   ∃ eq86 : Bool, EqB Try.prog .eql 49 (.tmp 66) (.tmp 67) (.agg #[.int .i64 t82, .int .i64 t83]) (.agg #[.int .i64 t84, .int .i64 t85]) eq86 ∧
   bif eq86 then
    (bif r28 == r42 then
    (LdL w81 (Addr.mk w61.heap.size 0 none) 0 [.i .i64, .i .i64, .i .i64, .i .u64, .i .u64, .i .i64] fun (t87 : Int) (t88 : Int) (t89 : Int) (t90 : Int) (t91 : Int) (t92 : Int) =>
   LdL w81 (Addr.mk w79.heap.size 0 none) 0 [.i .i64, .i .i64, .i .i64, .i .u64, .i .u64, .i .i64] fun (t93 : Int) (t94 : Int) (t95 : Int) (t96 : Int) (t97 : Int) (t98 : Int) =>
   ∃ eq99 : Bool, EqB Try.prog .eql 38 (.tmp 75) (.tmp 76) (.agg #[.int .i64 t87, .int .i64 t88, .int .i64 t89, .int .u64 t90, .int .u64 t91, .int .i64 t92]) (.agg #[.int .i64 t93, .int .i64 t94, .int .i64 t95, .int .u64 t96, .int .u64 t97, .int .i64 t98]) eq99 ∧
   bif eq99 then
    (bif r60 == r78 then
    (C.slots_Nodes_Held r15 (fun r100 w101 =>
   C.ref05_Nodes_Held r16 (fun r102 w103 =>
   C.ref05_Same r100 r102 (fun r104 w105 =>
   bif r104 then
    (C.law06_fixed  (fun r106 w107 =>
   K r106 w107) w105)
   else
    (K false w105)) w103) w101) w81)
   else
    (K false w81))
   else
    (K false w81))
   else
    (K false w81))
   else
    (K false w81)) w63) w45) w31) w17)) w12
set_option maxRecDepth 100000 in
theorem S.law06_LookupSlots_ok (b1 : Sl) (b2 : Sl) (o3 : Int) (o4 : Int) (o5 : Int) (o6 : Int) (o7 : Int) (o8 : Int) (o9 : Int) (o10 : Int) (K : Bool → World → Prop) (w : World) (h : S.law06_LookupSlots b1 b2 o3 o4 o5 o6 o7 o8 o9 o10 K w) : C.law06_LookupSlots b1 b2 o3 o4 o5 o6 o7 o8 o9 o10 K w := by
  have e : fnV Try.prog Try.f16 (bodyOf Try.f16) (.t none (.u) (.t none (.u) (.t none (.t none (.u) (.t none (.t none (.u) (.u)) (.u))) (.t none (.u) (.t none (.u) (.t none (.u) (.t none (.u) (.t none (.u) (.u))))))))) [(0, .c (.b))] [.agg #[.slice b1.a b1.len b1.cap, .slice b2.a b2.len b2.cap], .agg #[.int .i64 o3, .int .i64 o4, .int .i64 o5, .int .u64 o6, .int .u64 o7, .int .i64 o8, .int .u64 o9, .int .i64 o10]] K w = S.law06_LookupSlots b1 b2 o3 o4 o5 o6 o7 o8 o9 o10 K w := by kernel_rfl
  exact okF_mk Try.func16 rfl (fn_sound names_ok follows_ok Try.func16 rfl (by kernel_rfl) (Eq.mpr e h))

/-- buttress/buttresslaw06.LookupSame -/
def S.law06_LookupSame (b1 : Sl) (b2 : Sl) (o3 : Int) (o4 : Int) (o5 : Int) (o6 : Int) (o7 : Int) (o8 : Int) (o9 : Int) (o10 : Int) (c11 : Int) (c12 : Int) (c13 : Int) (c14 : Int) (c15 : Int) (c16 : Int) (K : Bool → World → Prop) (w : World) : Prop :=
  Al w (.cells #[.slice b1.a b1.len b1.cap, .slice b2.a b2.len b2.cap] 35) fun w17 =>
   Al w17 (.cells #[.int .i64 o3, .int .i64 o4, .int .i64 o5, .int .u64 o6, .int .u64 o7, .int .i64 o8, .int .u64 o9, .int .i64 o10] 47) fun w18 =>
   Al w18 (.cells #[.int .i64 c11, .int .i64 c12, .int .i64 c13, .int .u64 c14, .int .u64 c15, .int .i64 c16] 38) fun w19 =>
   LdL w19 (Addr.mk w.heap.size 0 none) 0 [.s, .s] fun (t20 : Sl) (t21 : Sl) =>
   C.law06_built t20 t21 (fun r22 r23 w24 =>
   bif r22.isNone then
    (K false w24)
   else
    (LdL w24 (Addr.mk w17.heap.size 0 none) 0 [.i .i64, .i .i64, .i .i64, .i .u64, .i .u64, .i .i64] fun (root25 : Int) (root26 : Int) (root27 : Int) (root28 : Int) (root29 : Int) (root30 : Int) =>
   ∃ addr31 : Int, w24.cell? ((Addr.mk w17.heap.size 0 none).add 6) = some (.int .u64 addr31) ∧
   ∃ depth32 : Int, w24.cell? ((Addr.mk w17.heap.size 0 none).add 7) = some (.int .i64 depth32) ∧
   C.lookup_Slot r22 root25 root26 root27 root28 root29 root30 addr31 depth32 (fun r33 r34 r35 w36 =>
   Al w36 (.cells #[.int .i64 (0 : Int), .int .i64 (0 : Int)] 49) fun w37 =>
   StL w37 (Addr.mk w36.heap.size 0 none) 0 [.int .i64 r33, .int .i64 r34] fun w38 =>
   C.slots_Nodes_Held r22 (fun r39 w40 =>
   LdL w40 (Addr.mk w17.heap.size 0 none) 0 [.i .i64, .i .i64, .i .i64, .i .u64, .i .u64, .i .i64] fun (root41 : Int) (root42 : Int) (root43 : Int) (root44 : Int) (root45 : Int) (root46 : Int) =>
   ∃ addr47 : Int, w40.cell? ((Addr.mk w17.heap.size 0 none).add 6) = some (.int .u64 addr47) ∧
   ∃ depth48 : Int, w40.cell? ((Addr.mk w17.heap.size 0 none).add 7) = some (.int .i64 depth48) ∧
   C.lookup_Slot r22 root41 root42 root43 root44 root45 root46 addr47 depth48 (fun r49 r50 r51 w52 =>
   Al w52 (.cells #[.int .i64 (0 : Int), .int .i64 (0 : Int)] 49) fun w53 =>
   StL w53 (Addr.mk w52.heap.size 0 none) 0 [.int .i64 r49, .int .i64 r50] fun w54 =>
   LdL w54 (Addr.mk w17.heap.size 0 none) 0 [.i .i64, .i .i64, .i .i64, .i .u64, .i .u64, .i .i64] fun (root55 : Int) (root56 : Int) (root57 : Int) (root58 : Int) (root59 : Int) (root60 : Int) =>
   ∃ addr61 : Int, w54.cell? ((Addr.mk w17.heap.size 0 none).add 6) = some (.int .u64 addr61) ∧
   ∃ depth62 : Int, w54.cell? ((Addr.mk w17.heap.size 0 none).add 7) = some (.int .i64 depth62) ∧
   C.lookup_Cap r22 root55 root56 root57 root58 root59 root60 addr61 depth62 (fun r63 r64 r65 r66 r67 r68 r69 w70 =>
   Al w70 (.cells #[.int .i64 (0 : Int), .int .i64 (0 : Int), .int .i64 (0 : Int), .int .u64 (0 : Int), .int .u64 (0 : Int), .int .i64 (0 : Int)] 38) fun w71 =>
   StL w71 (Addr.mk w70.heap.size 0 none) 0 [.int .i64 r63, .int .i64 r64, .int .i64 r65, .int .u64 r66, .int .u64 r67, .int .i64 r68] fun w72 =>
   LdL w72 (Addr.mk w36.heap.size 0 none) 0 [.i .i64, .i .i64] fun (t73 : Int) (t74 : Int) =>
   C.ref05_Nodes_Get r23 t73 t74 (fun r75 r76 r77 r78 r79 r80 r81 w82 =>
   Al w82 (.cells #[.int .i64 (0 : Int), .int .i64 (0 : Int), .int .i64 (0 : Int), .int .u64 (0 : Int), .int .u64 (0 : Int), .int .i64 (0 : Int)] 38) fun w83 =>
   StL w83 (Addr.mk w82.heap.size 0 none) 0 [.int .i64 r75, .int .i64 r76, .int .i64 r77, .int .u64 r78, .int .u64 r79, .int .i64 r80] fun w84 =>
   LdL w84 (Addr.mk w36.heap.size 0 none) 0 [.i .i64, .i .i64] fun (t85 : Int) (t86 : Int) =>
   LdL w84 (Addr.mk w52.heap.size 0 none) 0 [.i .i64, .i .i64] fun (t87 : Int) (t88 : Int) =>
   ∃ eq89 : Bool, EqB Try.prog .eql 49 (.tmp 66) (.tmp 67) (.agg #[.int .i64 t85, .int .i64 t86]) (.agg #[.int .i64 t87, .int .i64 t88]) eq89 ∧
   bif eq89 then
    (bif r35 == r51 then
    (bif r69 == r35 then
    (bif r35 != (0 : Int) then
    (C.slots_Nodes_Held r22 (fun r90 w91 =>
   C.ref05_Same r90 r39 (fun r92 w93 =>
   bif r92 then
    (C.law06_fixed  (fun r94 w95 =>
   K r94 w95) w93)
   else
    (K false w93)) w91) w84)
   else
    (LdL w84 (Addr.mk w70.heap.size 0 none) 0 [.i .i64, .i .i64, .i .i64, .i .u64, .i .u64, .i .i64] fun (t96 : Int) (t97 : Int) (t98 : Int) (t99 : Int) (t100 : Int) (t101 : Int) =>
   LdL w84 (Addr.mk w82.heap.size 0 none) 0 [.i .i64, .i .i64, .i .i64, .i .u64, .i .u64, .i .i64] fun (t102 : Int) (t103 : Int) (t104 : Int) (t105 : Int) (t106 : Int) (t107 : Int) =>
   ∃ eq108 : Bool, EqB Try.prog .eql 38 (.tmp 83) (.tmp 84) (.agg #[.int .i64 t96, .int .i64 t97, .int .i64 t98, .int .u64 t99, .int .u64 t100, .int .i64 t101]) (.agg #[.int .i64 t102, .int .i64 t103, .int .i64 t104, .int .u64 t105, .int .u64 t106, .int .i64 t107]) eq108 ∧
   bif eq108 then
    (C.slots_Nodes_Held r22 (fun r109 w110 =>
   C.ref05_Same r109 r39 (fun r111 w112 =>
   bif r111 then
    (C.law06_fixed  (fun r113 w114 =>
   K r113 w114) w112)
   else
    (K false w112)) w110) w84)
   else
    (K false w84)))
   else
    (K false w84))
   else
    (K false w84))
   else
    (K false w84)) w72) w54) w40) w38) w24)) w19
set_option maxRecDepth 100000 in
theorem S.law06_LookupSame_ok (b1 : Sl) (b2 : Sl) (o3 : Int) (o4 : Int) (o5 : Int) (o6 : Int) (o7 : Int) (o8 : Int) (o9 : Int) (o10 : Int) (c11 : Int) (c12 : Int) (c13 : Int) (c14 : Int) (c15 : Int) (c16 : Int) (K : Bool → World → Prop) (w : World) (h : S.law06_LookupSame b1 b2 o3 o4 o5 o6 o7 o8 o9 o10 c11 c12 c13 c14 c15 c16 K w) : C.law06_LookupSame b1 b2 o3 o4 o5 o6 o7 o8 o9 o10 c11 c12 c13 c14 c15 c16 K w := by
  have e : fnV Try.prog Try.f17 (bodyOf Try.f17) (.t none (.u) (.t none (.u) (.t none (.t none (.u) (.t none (.t none (.u) (.u)) (.u))) (.t none (.u) (.t none (.u) (.t none (.u) (.t none (.u) (.t none (.u) (.t none (.u) (.u)))))))))) [(0, .c (.b))] [.agg #[.slice b1.a b1.len b1.cap, .slice b2.a b2.len b2.cap], .agg #[.int .i64 o3, .int .i64 o4, .int .i64 o5, .int .u64 o6, .int .u64 o7, .int .i64 o8, .int .u64 o9, .int .i64 o10], .agg #[.int .i64 c11, .int .i64 c12, .int .i64 c13, .int .u64 c14, .int .u64 c15, .int .i64 c16]] K w = S.law06_LookupSame b1 b2 o3 o4 o5 o6 o7 o8 o9 o10 c11 c12 c13 c14 c15 c16 K w := by kernel_rfl
  exact okF_mk Try.func17 rfl (fn_sound names_ok follows_ok Try.func17 rfl (by kernel_rfl) (Eq.mpr e h))

/-- buttress/buttresslaw06.built -/
def S.law06_built (b1 : Sl) (b2 : Sl) (K : Option Addr → Option Addr → World → Prop) (w : World) : Prop :=
  Al w (.cells #[.slice b1.a b1.len b1.cap, .slice b2.a b2.len b2.cap] 35) fun w3 =>
   C.slots_New  (fun r4 w5 =>
   Al w5 (.cells #[.slice none 0 0] 76) fun w6 =>
   bif r4.isNone then
    (K none none w6)
   else
    (∀ l7 : Int → World → Prop,
   (∀ (i8 : Int) (w9 : World), (∀ k10 : Bool → World → Prop,
   (∀ (t11 : Bool) (w12 : World), (bif t11 then
    (∃ bits13 : Sl, w12.cell? (Addr.mk w.heap.size 0 none) = some (.slice bits13.a bits13.len bits13.cap) ∧
   ∃ a14 : Addr, bits13.a = some a14 ∧ 0 ≤ i8 ∧ i8 < (bits13.len : Int) ∧
   ∃ t15 : Int, w12.cell? (a14.add (i8.toNat * 1)) = some (.int .i64 t15) ∧
   C.slots_Nodes_Make r4 (IntKind.i64.wrap ((1 : Int) + (andI .i64 t15 (3 : Int)))) (fun r16 r17 w18 =>
   ∃ bits19 : Sl, w18.cell? (Addr.mk w.heap.size 0 none) = some (.slice bits19.a bits19.len bits19.cap) ∧
   ∃ a20 : Addr, bits19.a = some a20 ∧ 0 ≤ i8 ∧ i8 < (bits19.len : Int) ∧
   ∃ t21 : Int, w18.cell? (a20.add (i8.toNat * 1)) = some (.int .i64 t21) ∧
   C.ref05_Nodes_Make (some (Addr.mk w5.heap.size 0 none)) (IntKind.i64.wrap ((1 : Int) + (andI .i64 t21 (3 : Int)))) (fun r22 r23 w24 =>
   l7 (IntKind.i64.wrap (i8 + (1 : Int))) w24) w18) w12)
   else
    (∀ l25 : Int → World → Prop,
   (∀ (i26 : Int) (w27 : World), (∀ k28 : Bool → World → Prop,
   (∀ (t29 : Bool) (w30 : World), (bif t29 then
    (Dr w30 fun w31 =>
   ∃ held32 : Sl, w31.cell? ((Addr.mk w.heap.size 0 none).add 1) = some (.slice held32.a held32.len held32.cap) ∧
   ∃ a33 : Addr, held32.a = some a33 ∧ 0 ≤ i26 ∧ i26 < (held32.len : Int) ∧
   LdL w31 (a33.add (i26.toNat * 8)) 0 [.i .i64, .i .i64] fun (at34 : Int) (at35 : Int) =>
   ∃ held36 : Sl, w31.cell? ((Addr.mk w.heap.size 0 none).add 1) = some (.slice held36.a held36.len held36.cap) ∧
   ∃ a37 : Addr, held36.a = some a37 ∧ 0 ≤ i26 ∧ i26 < (held36.len : Int) ∧
   LdL w31 ((a37.add (i26.toNat * 8)).add 2) 0 [.i .i64, .i .i64, .i .i64, .i .u64, .i .u64, .i .i64] fun (c38 : Int) (c39 : Int) (c40 : Int) (c41 : Int) (c42 : Int) (c43 : Int) =>
   (C.slots_Nodes_Put r4 at34 at35 c38 c39 c40 c41 c42 c43 (fun r44 w45 =>
   Dr w45 fun w46 =>
   ∃ held47 : Sl, w46.cell? ((Addr.mk w.heap.size 0 none).add 1) = some (.slice held47.a held47.len held47.cap) ∧
   ∃ a48 : Addr, held47.a = some a48 ∧ 0 ≤ i26 ∧ i26 < (held47.len : Int) ∧
   LdL w46 (a48.add (i26.toNat * 8)) 0 [.i .i64, .i .i64] fun (at49 : Int) (at50 : Int) =>
   ∃ held51 : Sl, w46.cell? ((Addr.mk w.heap.size 0 none).add 1) = some (.slice held51.a held51.len held51.cap) ∧
   ∃ a52 : Addr, held51.a = some a52 ∧ 0 ≤ i26 ∧ i26 < (held51.len : Int) ∧
   LdL w46 ((a52.add (i26.toNat * 8)).add 2) 0 [.i .i64, .i .i64, .i .i64, .i .u64, .i .u64, .i .i64] fun (c53 : Int) (c54 : Int) (c55 : Int) (c56 : Int) (c57 : Int) (c58 : Int) =>
   (C.ref05_Nodes_Put (some (Addr.mk w5.heap.size 0 none)) at49 at50 c53 c54 c55 c56 c57 c58 (fun r59 w60 =>
   l25 (IntKind.i64.wrap (i26 + (1 : Int))) w60) w46) ∧
   True) w31) ∧
   True)
   else
    (K r4 (some (Addr.mk w5.heap.size 0 none)) w30)) → k28 t29 w30) →
   (∃ held61 : Sl, w27.cell? ((Addr.mk w.heap.size 0 none).add 1) = some (.slice held61.a held61.len held61.cap) ∧
   bif decide (i26 < (held61.len : Int)) then
    (k28 (decide (i26 < (40 : Int))) w27)
   else
    (k28 false w27))) → l25 i26 w27) →
   l25 (0 : Int) w12)) → k10 t11 w12) →
   (∃ bits62 : Sl, w9.cell? (Addr.mk w.heap.size 0 none) = some (.slice bits62.a bits62.len bits62.cap) ∧
   bif decide (i8 < (bits62.len : Int)) then
    (k10 (decide (i8 < (6 : Int))) w9)
   else
    (k10 false w9))) → l7 i8 w9) →
   l7 (0 : Int) w6)) w3
set_option maxRecDepth 100000 in
theorem S.law06_built_ok (b1 : Sl) (b2 : Sl) (K : Option Addr → Option Addr → World → Prop) (w : World) (h : S.law06_built b1 b2 K w) : C.law06_built b1 b2 K w := by
  have e : fnV Try.prog Try.f23 (bodyOf Try.f23) (.t none (.u) (.t none (.u) (.t none (.t none (.u) (.t none (.t none (.u) (.u)) (.u))) (.t none (.t none (.u) (.t none (.t (some [(6, .c (.i .i64))]) (.t none (.t none (.r (some [(21, .c (.b))]) .done) (.t none (.u) (.u))) (.t none (.t none (.t none (.u) (.u)) (.u)) (.u))) (.u)) (.u))) (.t none (.t none (.u) (.t none (.t (some [(7, .c (.i .i64))]) (.t none (.t none (.r (some [(50, .c (.b))]) .done) (.t none (.u) (.u))) (.t none (.t none (.t none (.r none (.one 0 8190 (.one 1 8072 (.one 2 8072 (.one 3 8064 (.one 4 8064 (.one 5 8064 (.one 6 8064 (.one 7 512 (.one 8 512 (.one 9 0 (.one 10 0 (.one 11 0 (.one 12 0 (.alt 13 (.done) (.none)))))))))))))))) (.r none (.one 0 8190 (.one 1 8072 (.one 2 8072 (.one 3 8064 (.one 4 8064 (.one 5 8064 (.one 6 8064 (.one 7 512 (.one 8 512 (.one 9 0 (.one 10 0 (.one 11 0 (.one 12 0 (.alt 13 (.done) (.none))))))))))))))))) (.u)) (.u))) (.u)) (.u))) (.t none (.u) (.u))))))) [(0, .c (.p)), (1, .c (.p))] [.agg #[.slice b1.a b1.len b1.cap, .slice b2.a b2.len b2.cap]] K w = S.law06_built b1 b2 K w := by kernel_rfl
  exact okF_mk Try.func23 rfl (fn_sound names_ok follows_ok Try.func23 rfl (by kernel_rfl) (Eq.mpr e h))

/-- buttress/buttresslaw06.fixed -/
def S.law06_fixed (K : Bool → World → Prop) (w : World) : Prop :=
  Al w (.cells #[.int .i64 (0 : Int), .int .i64 (0 : Int), .int .i64 (0 : Int), .int .u64 (0 : Int), .int .u64 (0 : Int), .int .i64 (0 : Int)] 38) fun w1 =>
   StL w1 (Addr.mk w.heap.size 0 none) 0 [.int .i64 (2 : Int), .int .i64 (0 : Int), .int .i64 (7 : Int), .int .u64 (0 : Int), .int .u64 (1 : Int), .int .i64 (1 : Int)] fun w2 =>
   Al w2 (.cells #[.int .i64 (0 : Int), .int .i64 (0 : Int), .int .i64 (0 : Int), .int .u64 (0 : Int), .int .u64 (0 : Int), .int .i64 (0 : Int)] 38) fun w3 =>
   StL w3 (Addr.mk w2.heap.size 0 none) 0 [.int .i64 (3 : Int), .int .i64 (0 : Int), .int .i64 (7 : Int), .int .u64 (0 : Int), .int .u64 (0 : Int), .int .i64 (0 : Int)] fun w4 =>
   Al w4 (.cells #[.int .i64 (1 : Int)] 3) fun w5 =>
   LdL w5 (Addr.mk w2.heap.size 0 none) 0 [.i .i64, .i .i64, .i .i64, .i .u64, .i .u64, .i .i64] fun (t6 : Int) (t7 : Int) (t8 : Int) (t9 : Int) (t10 : Int) (t11 : Int) =>
   Al w5 (.cells #[.int .i64 (0 : Int), .int .i64 (2 : Int), .int .i64 t6, .int .i64 t7, .int .i64 t8, .int .u64 t9, .int .u64 t10, .int .i64 t11] 70) fun w12 =>
   C.law06_built ⟨some (Addr.mk w4.heap.size 0 none), 1, 1⟩ ⟨some (Addr.mk w5.heap.size 0 none), 1, 1⟩ (fun r13 r14 w15 =>
   bif r13.isNone then
    (K false w15)
   else
    (LdL w15 (Addr.mk w.heap.size 0 none) 0 [.i .i64, .i .i64, .i .i64, .i .u64, .i .u64, .i .i64] fun (t16 : Int) (t17 : Int) (t18 : Int) (t19 : Int) (t20 : Int) (t21 : Int) =>
   C.lookup_Slot r13 t16 t17 t18 t19 t20 t21 (6 : Int) (3 : Int) (fun r22 r23 r24 w25 =>
   Al w25 (.cells #[.int .i64 (0 : Int), .int .i64 (0 : Int)] 49) fun w26 =>
   StL w26 (Addr.mk w25.heap.size 0 none) 0 [.int .i64 r22, .int .i64 r23] fun w27 =>
   LdL w27 (Addr.mk w.heap.size 0 none) 0 [.i .i64, .i .i64, .i .i64, .i .u64, .i .u64, .i .i64] fun (t28 : Int) (t29 : Int) (t30 : Int) (t31 : Int) (t32 : Int) (t33 : Int) =>
   C.lookup_Cap r13 t28 t29 t30 t31 t32 t33 (6 : Int) (3 : Int) (fun r34 r35 r36 r37 r38 r39 r40 w41 =>
   Al w41 (.cells #[.int .i64 (0 : Int), .int .i64 (0 : Int), .int .i64 (0 : Int), .int .u64 (0 : Int), .int .u64 (0 : Int), .int .i64 (0 : Int)] 38) fun w42 =>
   StL w42 (Addr.mk w41.heap.size 0 none) 0 [.int .i64 r34, .int .i64 r35, .int .i64 r36, .int .u64 r37, .int .u64 r38, .int .i64 r39] fun w43 =>
   LdL w43 (Addr.mk w.heap.size 0 none) 0 [.i .i64, .i .i64, .i .i64, .i .u64, .i .u64, .i .i64] fun (t44 : Int) (t45 : Int) (t46 : Int) (t47 : Int) (t48 : Int) (t49 : Int) =>
   C.lookup_Slot r13 t44 t45 t46 t47 t48 t49 (2 : Int) (3 : Int) (fun r50 r51 r52 w53 =>
   Al w53 (.cells #[.int .i64 (0 : Int), .int .i64 (0 : Int)] 49) fun w54 =>
   StL w54 (Addr.mk w53.heap.size 0 none) 0 [.int .i64 r50, .int .i64 r51] fun w55 =>
   LdL w55 (Addr.mk w.heap.size 0 none) 0 [.i .i64, .i .i64, .i .i64, .i .u64, .i .u64, .i .i64] fun (t56 : Int) (t57 : Int) (t58 : Int) (t59 : Int) (t60 : Int) (t61 : Int) =>
   C.lookup_Slot r13 t56 t57 t58 t59 t60 t61 (12 : Int) (4 : Int) (fun r62 r63 r64 w65 =>
   Al w65 (.cells #[.int .i64 (0 : Int), .int .i64 (0 : Int)] 49) fun w66 =>
   StL w66 (Addr.mk w65.heap.size 0 none) 0 [.int .i64 r62, .int .i64 r63] fun w67 =>
   LdL w67 (Addr.mk w2.heap.size 0 none) 0 [.i .i64, .i .i64, .i .i64, .i .u64, .i .u64, .i .i64] fun (t68 : Int) (t69 : Int) (t70 : Int) (t71 : Int) (t72 : Int) (t73 : Int) =>
   C.lookup_Slot r13 t68 t69 t70 t71 t72 t73 (0 : Int) (3 : Int) (fun r74 r75 r76 w77 =>
   Al w77 (.cells #[.int .i64 (0 : Int), .int .i64 (0 : Int)] 49) fun w78 =>
   StL w78 (Addr.mk w77.heap.size 0 none) 0 [.int .i64 r74, .int .i64 r75] fun w79 =>
   LdL w79 (Addr.mk w.heap.size 0 none) 0 [.i .i64, .i .i64, .i .i64, .i .u64, .i .u64, .i .i64] fun (t80 : Int) (t81 : Int) (t82 : Int) (t83 : Int) (t84 : Int) (t85 : Int) =>
   C.lookup_Slot r13 t80 t81 t82 t83 t84 t85 (3 : Int) (2 : Int) (fun r86 r87 r88 w89 =>
   Al w89 (.cells #[.int .i64 (0 : Int), .int .i64 (0 : Int)] 49) fun w90 =>
   StL w90 (Addr.mk w89.heap.size 0 none) 0 [.int .i64 r86, .int .i64 r87] fun w91 =>
   LdL w91 (Addr.mk w.heap.size 0 none) 0 [.i .i64, .i .i64, .i .i64, .i .u64, .i .u64, .i .i64] fun (t92 : Int) (t93 : Int) (t94 : Int) (t95 : Int) (t96 : Int) (t97 : Int) =>
   Al w91 (.cells #[.int .i64 (2 : Int)] 3) fun w98 =>
   C.lookup_Address r13 t92 t93 t94 t95 t96 t97 ⟨some (Addr.mk w91.heap.size 0 none), 1, 1⟩ (fun r99 r100 r101 w102 =>
   LdL w102 (Addr.mk w.heap.size 0 none) 0 [.i .i64, .i .i64, .i .i64, .i .u64, .i .u64, .i .i64] fun (t103 : Int) (t104 : Int) (t105 : Int) (t106 : Int) (t107 : Int) (t108 : Int) =>
   Al w102 (.cells #[.int .i64 (2 : Int), .int .i64 (0 : Int)] 3) fun w109 =>
   C.lookup_Address r13 t103 t104 t105 t106 t107 t108 ⟨some (Addr.mk w102.heap.size 0 none), 2, 2⟩ (fun r110 r111 r112 w113 =>
   LdL w113 (Addr.mk w.heap.size 0 none) 0 [.i .i64, .i .i64, .i .i64, .i .u64, .i .u64, .i .i64] fun (t114 : Int) (t115 : Int) (t116 : Int) (t117 : Int) (t118 : Int) (t119 : Int) =>
   C.lookup_Address r13 t114 t115 t116 t117 t118 t119 ⟨none, 0, 0⟩ (fun r120 r121 r122 w123 =>
   LdL w123 (Addr.mk w25.heap.size 0 none) 0 [.i .i64, .i .i64] fun (t124 : Int) (t125 : Int) =>
   ∃ eq126 : Bool, EqB Try.prog .eql 49 (.tmp 99) (.tmp 100) (.agg #[.int .i64 t124, .int .i64 t125]) (.agg #[.int .i64 (0 : Int), .int .i64 (2 : Int)]) eq126 ∧
   bif eq126 then
    (bif r24 == (0 : Int) then
    (LdL w123 (Addr.mk w41.heap.size 0 none) 0 [.i .i64, .i .i64, .i .i64, .i .u64, .i .u64, .i .i64] fun (t127 : Int) (t128 : Int) (t129 : Int) (t130 : Int) (t131 : Int) (t132 : Int) =>
   LdL w123 (Addr.mk w2.heap.size 0 none) 0 [.i .i64, .i .i64, .i .i64, .i .u64, .i .u64, .i .i64] fun (t133 : Int) (t134 : Int) (t135 : Int) (t136 : Int) (t137 : Int) (t138 : Int) =>
   ∃ eq139 : Bool, EqB Try.prog .eql 38 (.tmp 107) (.tmp 108) (.agg #[.int .i64 t127, .int .i64 t128, .int .i64 t129, .int .u64 t130, .int .u64 t131, .int .i64 t132]) (.agg #[.int .i64 t133, .int .i64 t134, .int .i64 t135, .int .u64 t136, .int .u64 t137, .int .i64 t138]) eq139 ∧
   bif eq139 then
    (bif r40 == (0 : Int) then
    (bif r52 == (61 : Int) then
    (bif r64 == (62 : Int) then
    (bif r76 == (60 : Int) then
    (bif r88 == (62 : Int) then
    (bif r99 == (6 : Int) then
    (bif r100 == (3 : Int) then
    (bif r101 == (0 : Int) then
    (bif r112 == (60 : Int) then
    (K (r122 == (1 : Int)) w123)
   else
    (K false w123))
   else
    (K false w123))
   else
    (K false w123))
   else
    (K false w123))
   else
    (K false w123))
   else
    (K false w123))
   else
    (K false w123))
   else
    (K false w123))
   else
    (K false w123))
   else
    (K false w123))
   else
    (K false w123))
   else
    (K false w123)) w113) w109) w98) w79) w67) w55) w43) w27) w15)) w12
set_option maxRecDepth 100000 in
theorem S.law06_fixed_ok (K : Bool → World → Prop) (w : World) (h : S.law06_fixed  K w) : C.law06_fixed  K w := by
  have e : fnV Try.prog Try.f26 (bodyOf Try.f26) (.t none (.u) (.t none (.u) (.t none (.u) (.t none (.u) (.t none (.t none (.u) (.t none (.t none (.u) (.u)) (.u))) (.t none (.u) (.t none (.u) (.t none (.u) (.t none (.u) (.t none (.u) (.t none (.u) (.t none (.u) (.t none (.u) (.t none (.u) (.t none (.u) (.u)))))))))))))))) [(0, .c (.b))] [] K w = S.law06_fixed  K w := by kernel_rfl
  exact okF_mk Try.func26 rfl (fn_sound names_ok follows_ok Try.func26 rfl (by kernel_rfl) (Eq.mpr e h))
end Go.Proofs.Ytdlcejjiccknlaa
