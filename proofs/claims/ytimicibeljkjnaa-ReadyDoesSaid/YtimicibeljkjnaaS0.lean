/- The functions' texts, and that a call comes to them. Printed by a program of mine (gen.py). -/
import Derived.Test.YtimicibeljkjnaaC
set_option linter.unusedVariables false
namespace Go.Proofs.Ytimicibeljkjnaa
open Go Go.Vc Go.Proofs

/-- buttress/buttresslaw09.ReadyFirst -/
def S.law09_ReadyFirst (l1 : Sl) (K : Bool → World → Prop) (w : World) : Prop :=
  C.ready_New  (fun r2 w3 =>
   bif r2.isNone then
    (K false w3)
   else
    (Al w3 (.cells #[] 28) fun w4 =>
   ∀ l5 : Sl → Int → World → Prop,
   (∀ (in6 : Sl) (i7 : Int) (w8 : World), (∀ k9 : Bool → World → Prop,
   (∀ (t10 : Bool) (w11 : World), (bif t10 then
    (Dr w11 fun w12 =>
   ∃ a13 : Addr, l1.a = some a13 ∧ 0 ≤ i7 ∧ i7 < (l1.len : Int) ∧
   ∃ prio14 : Int, w12.cell? ((a13.add (i7.toNat * 3)).add 1) = some (.int .i64 prio14) ∧
   ∃ a15 : Addr, l1.a = some a15 ∧ 0 ≤ i7 ∧ i7 < (l1.len : Int) ∧
   ∃ n16 : Int, w12.cell? ((a15.add (i7.toNat * 3)).add 2) = some (.int .i64 n16) ∧
   (C.ready_Queue_Put r2 prio14 n16 (fun r17 w18 =>
   bif r17 == (0 : Int) then
    (∃ a19 : Addr, l1.a = some a19 ∧ 0 ≤ i7 ∧ i7 < (l1.len : Int) ∧
   ∃ t20 : Int, w18.cell? (a19.add (i7.toNat * 3)) = some (.int .i64 t20) ∧
   ∃ t21 : Int, w18.cell? ((a19.add (i7.toNat * 3)).add 1) = some (.int .i64 t21) ∧
   ∃ t22 : Int, w18.cell? ((a19.add (i7.toNat * 3)).add 2) = some (.int .i64 t22) ∧
   Al w18 (.cells #[.int .i64 t20, .int .i64 t21, .int .i64 t22] 28) fun w23 =>
   ∃ (t24 : Sl) (w25 : World), AppR Try.prog [22, 22] 22 (.slice in6.a in6.len in6.cap) (.slice (some (Addr.mk w18.heap.size 0 none)) 1 1) w23 t24 w25 ∧
   l5 t24 (IntKind.i64.wrap (i7 + (1 : Int))) w25)
   else
    (l5 in6 (IntKind.i64.wrap (i7 + (1 : Int))) w18)) w12) ∧
   True)
   else
    (∀ l26 : Int → Int → Int → World → Prop,
   (∀ (last27 : Int) (at28 : Int) (i29 : Int) (w30 : World), (bif decide (i29 < (in6.len : Int)) then
    (C.ready_Queue_Next r2 (fun r31 r32 w33 =>
   ∃ a34 : Addr, r2 = some a34 ∧
   C.ready_lines_Where (some a34) r31 (fun r35 r36 w37 =>
   ∀ k38 : Bool → World → Prop,
   (∀ (t39 : Bool) (w40 : World), (bif t39 then
    (K false w40)
   else
    (∀ k41 : Int → World → Prop,
   (∀ (k42 : Int) (w43 : World), (∀ k44 : Bool → World → Prop,
   (∀ (t45 : Bool) (w46 : World), (bif t45 then
    (K false w46)
   else
    (l26 r35 k42 (IntKind.i64.wrap (i29 + (1 : Int))) w46)) → k44 t45 w46) →
   (bif k42 == (in6.len : Int) then
    (k44 true w43)
   else
    (∃ a47 : Addr, in6.a = some a47 ∧ 0 ≤ k42 ∧ k42 < (in6.len : Int) ∧
   ∃ prio48 : Int, w43.cell? ((a47.add (k42.toNat * 3)).add 1) = some (.int .i64 prio48) ∧
   bif prio48 != r35 then
    (k44 true w43)
   else
    (bif r35 == last27 then
    (k44 (decide (k42 ≤ at28)) w43)
   else
    (k44 false w43))))) → k41 k42 w43) →
   (∀ l49 : Int → World → Prop,
   (∀ (k50 : Int) (w51 : World), (bif decide (k50 < (in6.len : Int)) then
    (∃ a52 : Addr, in6.a = some a52 ∧ 0 ≤ k50 ∧ k50 < (in6.len : Int) ∧
   ∃ n53 : Int, w51.cell? ((a52.add (k50.toNat * 3)).add 2) = some (.int .i64 n53) ∧
   bif n53 != r31 then
    (l49 (IntKind.i64.wrap (k50 + (1 : Int))) w51)
   else
    (k41 k50 w51))
   else
    (k41 k50 w51)) → l49 k50 w51) →
   l49 (0 : Int) w40))) → k38 t39 w40) →
   (bif !r32 then
    (k38 true w37)
   else
    (bif !r36 then
    (k38 true w37)
   else
    (bif decide (r35 > last27) then
    (k38 true w37)
   else
    (C.ready_Queue_Take r2 r31 (fun r54 w55 =>
   k38 (r54 != (0 : Int)) w55) w37))))) w33) w30)
   else
    (C.ready_Queue_Next r2 (fun r56 r57 w58 =>
   bif !r57 then
    (∃ a59 : Addr, r2 = some a59 ∧
   C.ready_lines_Bits (some a59) (fun r60 r61 r62 r63 w64 =>
   ∃ eq65 : Bool, EqB Try.prog .eql 37 (.tmp 137) (.tmp 138) (.agg #[.int .u64 r60, .int .u64 r61, .int .u64 r62, .int .u64 r63]) (.agg #[.int .u64 (0 : Int), .int .u64 (0 : Int), .int .u64 (0 : Int), .int .u64 (0 : Int)]) eq65 ∧
   bif eq65 then
    (C.law09_fixed  (fun r66 w67 =>
   K r66 w67) w64)
   else
    (K false w64)) w58)
   else
    (K false w58)) w30)) → l26 last27 at28 i29 w30) →
   l26 (256 : Int) (-1 : Int) (0 : Int) w11)) → k9 t10 w11) →
   (bif decide (i7 < (l1.len : Int)) then
    (k9 (decide (i7 < (60 : Int))) w8)
   else
    (k9 false w8))) → l5 in6 i7 w8) →
   l5 ⟨some (Addr.mk w3.heap.size 0 none), 0, 0⟩ (0 : Int) w4)) w
set_option maxRecDepth 100000 in
theorem S.law09_ReadyFirst_ok (l1 : Sl) (K : Bool → World → Prop) (w : World) (h : S.law09_ReadyFirst l1 K w) : C.law09_ReadyFirst l1 K w := by
  have e : fnV Try.prog Try.f3 (bodyOf Try.f3) (.t none (.u) (.t none (.u) (.t none (.t none (.u) (.t none (.t none (.u) (.u)) (.u))) (.t none (.u) (.t none (.t none (.u) (.t none (.t (some [(4, .c (.s)), (5, .c (.i .i64))]) (.t none (.t none (.r (some [(27, .c (.b))]) .done) (.t none (.u) (.u))) (.t none (.t none (.t none (.r none (.one 0 2046 (.one 1 1988 (.one 2 1984 (.one 3 1984 (.one 4 1984 (.one 5 1984 (.one 6 128 (.one 7 0 (.one 8 0 (.one 9 0 (.one 10 0 (.alt 11 (.one 12 0 (.done)) (.none)))))))))))))) (.t none (.u) (.u))) (.u)) (.u))) (.u)) (.u))) (.t none (.u) (.t none (.t none (.u) (.t none (.t (some [(6, .c (.i .i64)), (7, .c (.i .i64)), (8, .c (.i .i64))]) (.t none (.t none (.u) (.t none (.u) (.u))) (.t none (.t none (.t none (.u) (.t none (.u) (.t none (.t none (.r (some [(85, .c (.b))]) .done) (.t none (.t none (.u) (.u)) (.u))) (.t none (.u) (.t none (.t (some [(13, .c (.i .i64))]) (.t (some [(13, .c (.i .i64))]) (.t none (.t none (.u) (.t none (.u) (.u))) (.t none (.u) (.u))) (.u)) (.u)) (.t none (.t none (.r (some [(123, .c (.b))]) .done) (.t none (.t none (.u) (.u)) (.u))) (.t none (.u) (.u)))))))) (.u)) (.u))) (.u)) (.u))) (.t none (.u) (.t none (.u) (.u)))))))))) [(0, .c (.b))] [.slice l1.a l1.len l1.cap] K w = S.law09_ReadyFirst l1 K w := by kernel_rfl
  exact okF_mk Try.func3 rfl (fn_sound names_ok follows_ok Try.func3 rfl (by kernel_rfl) (Eq.mpr e h))

/-- buttress/buttresslaw09.ReadyTurns -/
def S.law09_ReadyTurns (l1 : Sl) (prio2 : Int) (K : Bool → World → Prop) (w : World) : Prop :=
  C.ready_New  (fun r3 w4 =>
   bif r3.isNone then
    (K false w4)
   else
    (∀ l5 : Int → World → Prop,
   (∀ (i6 : Int) (w7 : World), (∀ k8 : Bool → World → Prop,
   (∀ (t9 : Bool) (w10 : World), (bif t9 then
    (∃ a11 : Addr, l1.a = some a11 ∧ 0 ≤ i6 ∧ i6 < (l1.len : Int) ∧
   ∃ t12 : Int, w10.cell? (a11.add (i6.toNat * 1)) = some (.int .i64 t12) ∧
   C.ready_Queue_Put r3 (andI .i64 prio2 (255 : Int)) t12 (fun r13 w14 =>
   l5 (IntKind.i64.wrap (i6 + (1 : Int))) w14) w10)
   else
    (∃ a15 : Addr, r3 = some a15 ∧
   C.ready_lines_Line (some a15) (andI .i64 prio2 (255 : Int)) (fun r16 w17 =>
   Al w17 (.cells #[] 3) fun w18 =>
   ∀ l19 : Sl → Int → World → Prop,
   (∀ (seen20 : Sl) (i21 : Int) (w22 : World), (bif decide (i21 < (r16.len : Int)) then
    (C.ready_Queue_Next r3 (fun r23 r24 w25 =>
   ∀ k26 : Bool → World → Prop,
   (∀ (t27 : Bool) (w28 : World), (bif t27 then
    (K false w28)
   else
    (Al w28 (.cells #[.int .i64 r23] 3) fun w29 =>
   ∃ (t30 : Sl) (w31 : World), AppR Try.prog [32, 32] 32 (.slice seen20.a seen20.len seen20.cap) (.slice (some (Addr.mk w28.heap.size 0 none)) 1 1) w29 t30 w31 ∧
   l19 t30 (IntKind.i64.wrap (i21 + (1 : Int))) w31)) → k26 t27 w28) →
   (bif !r24 then
    (k26 true w25)
   else
    (C.ready_Queue_Turn r3 (fun r32 w33 =>
   k26 (!r32) w33) w25))) w22)
   else
    (C.ref09_Nums seen20 r16 (fun r34 w35 =>
   bif r34 then
    (∃ a36 : Addr, r3 = some a36 ∧
   C.ready_lines_Line (some a36) (andI .i64 prio2 (255 : Int)) (fun r37 w38 =>
   C.ref09_Nums r37 r16 (fun r39 w40 =>
   bif r39 then
    (bif decide ((r16.len : Int) > (0 : Int)) then
    (C.law09_fixed  (fun r41 w42 =>
   K r41 w42) w40)
   else
    (C.ready_Queue_Turn r3 (fun r43 w44 =>
   bif !r43 then
    (C.law09_fixed  (fun r45 w46 =>
   K r45 w46) w44)
   else
    (K false w44)) w40))
   else
    (K false w40)) w38) w35)
   else
    (K false w35)) w22)) → l19 seen20 i21 w22) →
   l19 ⟨some (Addr.mk w17.heap.size 0 none), 0, 0⟩ (0 : Int) w18) w10)) → k8 t9 w10) →
   (bif decide (i6 < (l1.len : Int)) then
    (k8 (decide (i6 < (30 : Int))) w7)
   else
    (k8 false w7))) → l5 i6 w7) →
   l5 (0 : Int) w4)) w
set_option maxRecDepth 100000 in
theorem S.law09_ReadyTurns_ok (l1 : Sl) (prio2 : Int) (K : Bool → World → Prop) (w : World) (h : S.law09_ReadyTurns l1 prio2 K w) : C.law09_ReadyTurns l1 prio2 K w := by
  have e : fnV Try.prog Try.f4 (bodyOf Try.f4) (.t none (.u) (.t none (.u) (.t none (.t none (.u) (.t none (.t none (.u) (.u)) (.u))) (.t none (.u) (.t none (.t none (.u) (.t none (.t (some [(7, .c (.i .i64))]) (.t none (.t none (.r (some [(25, .c (.b))]) .done) (.t none (.u) (.u))) (.t none (.t none (.u) (.u)) (.u))) (.u)) (.u))) (.t none (.u) (.t none (.t none (.u) (.t none (.t (some [(9, .c (.s)), (10, .c (.i .i64))]) (.t none (.t none (.u) (.t none (.u) (.u))) (.t none (.t none (.t none (.u) (.t none (.t none (.r (some [(58, .c (.b))]) .done) (.t none (.t none (.u) (.u)) (.u))) (.u))) (.u)) (.u))) (.u)) (.u))) (.t none (.u) (.u))))))))) [(0, .c (.b))] [.slice l1.a l1.len l1.cap, .int .i64 prio2] K w = S.law09_ReadyTurns l1 prio2 K w := by kernel_rfl
  exact okF_mk Try.func4 rfl (fn_sound names_ok follows_ok Try.func4 rfl (by kernel_rfl) (Eq.mpr e h))

/-- buttress/buttresslaw09.ReadyTakes -/
def S.law09_ReadyTakes (l1 : Sl) (n2 : Int) (K : Bool → World → Prop) (w : World) : Prop :=
  C.ready_New  (fun r3 w4 =>
   bif r3.isNone then
    (K false w4)
   else
    (∀ l5 : Int → World → Prop,
   (∀ (i6 : Int) (w7 : World), (∀ k8 : Bool → World → Prop,
   (∀ (t9 : Bool) (w10 : World), (bif t9 then
    (Dr w10 fun w11 =>
   ∃ a12 : Addr, l1.a = some a12 ∧ 0 ≤ i6 ∧ i6 < (l1.len : Int) ∧
   ∃ prio13 : Int, w11.cell? ((a12.add (i6.toNat * 3)).add 1) = some (.int .i64 prio13) ∧
   ∃ a14 : Addr, l1.a = some a14 ∧ 0 ≤ i6 ∧ i6 < (l1.len : Int) ∧
   ∃ n15 : Int, w11.cell? ((a14.add (i6.toNat * 3)).add 2) = some (.int .i64 n15) ∧
   (C.ready_Queue_Put r3 prio13 n15 (fun r16 w17 =>
   l5 (IntKind.i64.wrap (i6 + (1 : Int))) w17) w11) ∧
   True)
   else
    (∃ a18 : Addr, r3 = some a18 ∧
   C.ready_lines_Where (some a18) n2 (fun r19 r20 w21 =>
   ∃ a22 : Addr, r3 = some a22 ∧
   C.ready_lines_Line (some a22) r19 (fun r23 w24 =>
   C.ready_Queue_Take r3 n2 (fun r25 w26 =>
   bif !r20 then
    (bif r25 == (91 : Int) then
    (C.law09_fixed  (fun r27 w28 =>
   K r27 w28) w26)
   else
    (K false w26))
   else
    (Al w26 (.cells #[] 3) fun w29 =>
   ∀ l30 : Sl → Int → World → Prop,
   (∀ (rest31 : Sl) (i32 : Int) (w33 : World), (bif decide (i32 < (r23.len : Int)) then
    (∃ a34 : Addr, r23.a = some a34 ∧ 0 ≤ i32 ∧ i32 < (r23.len : Int) ∧
   ∃ t35 : Int, w33.cell? (a34.add (i32.toNat * 1)) = some (.int .i64 t35) ∧
   bif t35 != n2 then
    (∃ a36 : Addr, r23.a = some a36 ∧ 0 ≤ i32 ∧ i32 < (r23.len : Int) ∧
   ∃ t37 : Int, w33.cell? (a36.add (i32.toNat * 1)) = some (.int .i64 t37) ∧
   Al w33 (.cells #[.int .i64 t37] 3) fun w38 =>
   ∃ (t39 : Sl) (w40 : World), AppR Try.prog [32, 32] 32 (.slice rest31.a rest31.len rest31.cap) (.slice (some (Addr.mk w33.heap.size 0 none)) 1 1) w38 t39 w40 ∧
   l30 t39 (IntKind.i64.wrap (i32 + (1 : Int))) w40)
   else
    (l30 rest31 (IntKind.i64.wrap (i32 + (1 : Int))) w33))
   else
    (∃ a41 : Addr, r3 = some a41 ∧
   C.ready_lines_Where (some a41) n2 (fun r42 r43 w44 =>
   ∃ a45 : Addr, r3 = some a45 ∧
   C.ready_lines_Line (some a45) r19 (fun r46 w47 =>
   C.ready_Queue_Put r3 r19 n2 (fun r48 w49 =>
   Al w49 (.cells #[] 3) fun w50 =>
   ∃ (t51 : Sl) (w52 : World), AppR Try.prog [32, 32] 32 (.slice (some (Addr.mk w49.heap.size 0 none)) 0 0) (.slice rest31.a rest31.len rest31.cap) w50 t51 w52 ∧
   Al w52 (.cells #[.int .i64 n2] 3) fun w53 =>
   ∃ (t54 : Sl) (w55 : World), AppR Try.prog [32, 32] 32 (.slice t51.a t51.len t51.cap) (.slice (some (Addr.mk w52.heap.size 0 none)) 1 1) w53 t54 w55 ∧
   bif r25 == (0 : Int) then
    (bif !r43 then
    (C.ref09_Nums r46 rest31 (fun r56 w57 =>
   bif r56 then
    (bif r48 == (0 : Int) then
    (∃ a58 : Addr, r3 = some a58 ∧
   C.ready_lines_Line (some a58) r19 (fun r59 w60 =>
   C.ref09_Nums r59 t54 (fun r61 w62 =>
   bif r61 then
    (C.law09_fixed  (fun r63 w64 =>
   K r63 w64) w62)
   else
    (K false w62)) w60) w57)
   else
    (K false w57))
   else
    (K false w57)) w55)
   else
    (K false w55))
   else
    (K false w55)) w47) w44) w33)) → l30 rest31 i32 w33) →
   l30 ⟨some (Addr.mk w26.heap.size 0 none), 0, 0⟩ (0 : Int) w29)) w24) w21) w10)) → k8 t9 w10) →
   (bif decide (i6 < (l1.len : Int)) then
    (k8 (decide (i6 < (40 : Int))) w7)
   else
    (k8 false w7))) → l5 i6 w7) →
   l5 (0 : Int) w4)) w
set_option maxRecDepth 100000 in
theorem S.law09_ReadyTakes_ok (l1 : Sl) (n2 : Int) (K : Bool → World → Prop) (w : World) (h : S.law09_ReadyTakes l1 n2 K w) : C.law09_ReadyTakes l1 n2 K w := by
  have e : fnV Try.prog Try.f5 (bodyOf Try.f5) (.t none (.u) (.t none (.u) (.t none (.t none (.u) (.t none (.t none (.u) (.u)) (.u))) (.t none (.t none (.u) (.t none (.t (some [(6, .c (.i .i64))]) (.t none (.t none (.r (some [(28, .c (.b))]) .done) (.t none (.u) (.u))) (.t none (.t none (.r none (.one 0 2046 (.one 1 1988 (.one 2 1984 (.one 3 1984 (.one 4 1984 (.one 5 1984 (.one 6 128 (.one 7 0 (.one 8 0 (.one 9 0 (.one 10 0 (.alt 11 (.done) (.none)))))))))))))) (.u)) (.u))) (.u)) (.u))) (.t none (.u) (.t none (.u) (.t none (.u) (.t none (.t none (.u) (.t none (.t none (.u) (.u)) (.u))) (.t none (.u) (.t none (.t none (.u) (.t none (.t (some [(11, .c (.s)), (12, .c (.i .i64))]) (.t none (.t none (.u) (.t none (.u) (.u))) (.t none (.t none (.t none (.u) (.t none (.u) (.u))) (.u)) (.u))) (.u)) (.u))) (.t none (.u) (.t none (.u) (.t none (.u) (.t none (.u) (.t none (.u) (.t none (.u) (.u))))))))))))))))) [(0, .c (.b))] [.slice l1.a l1.len l1.cap, .int .i64 n2] K w = S.law09_ReadyTakes l1 n2 K w := by kernel_rfl
  exact okF_mk Try.func5 rfl (fn_sound names_ok follows_ok Try.func5 rfl (by kernel_rfl) (Eq.mpr e h))

/-- buttress/buttresslaw09.ReadyLines -/
def S.law09_ReadyLines (l1 : Sl) (o2 : Int) (o3 : Int) (o4 : Int) (p5 : Int) (K : Bool → World → Prop) (w : World) : Prop :=
  Al w (.cells #[.int .i64 o2, .int .i64 o3, .int .i64 o4] 28) fun w6 =>
   C.ready_New  (fun r7 w8 =>
   bif r7.isNone then
    (K false w8)
   else
    (∀ l9 : Int → World → Prop,
   (∀ (i10 : Int) (w11 : World), (∀ k12 : Bool → World → Prop,
   (∀ (t13 : Bool) (w14 : World), (bif t13 then
    (Dr w14 fun w15 =>
   ∃ a16 : Addr, l1.a = some a16 ∧ 0 ≤ i10 ∧ i10 < (l1.len : Int) ∧
   ∃ prio17 : Int, w15.cell? ((a16.add (i10.toNat * 3)).add 1) = some (.int .i64 prio17) ∧
   ∃ a18 : Addr, l1.a = some a18 ∧ 0 ≤ i10 ∧ i10 < (l1.len : Int) ∧
   ∃ n19 : Int, w15.cell? ((a18.add (i10.toNat * 3)).add 2) = some (.int .i64 n19) ∧
   (C.ready_Queue_Put r7 prio17 n19 (fun r20 w21 =>
   l9 (IntKind.i64.wrap (i10 + (1 : Int))) w21) w15) ∧
   True)
   else
    (∃ prio22 : Int, w14.cell? ((Addr.mk w.heap.size 0 none).add 1) = some (.int .i64 prio22) ∧
   bif p5 == prio22 then
    (C.law09_fixed  (fun r23 w24 =>
   K r23 w24) w14)
   else
    (C.ready_Queue_Next r7 (fun r25 r26 w27 =>
   ∃ a28 : Addr, r7 = some a28 ∧
   C.ready_lines_Where (some a28) r25 (fun r29 r30 w31 =>
   ∃ a32 : Addr, r7 = some a32 ∧
   C.ready_lines_Line (some a32) p5 (fun r33 w34 =>
   ∃ prio35 : Int, w34.cell? ((Addr.mk w.heap.size 0 none).add 1) = some (.int .i64 prio35) ∧
   ∃ n36 : Int, w34.cell? ((Addr.mk w.heap.size 0 none).add 2) = some (.int .i64 n36) ∧
   C.ready_Queue_Put r7 prio35 n36 (fun r37 w38 =>
   ∃ a39 : Addr, r7 = some a39 ∧
   C.ready_lines_Line (some a39) p5 (fun r40 w41 =>
   bif (r33.len : Int) != (r40.len : Int) then
    (K false w41)
   else
    (∀ l42 : Int → World → Prop,
   (∀ (i43 : Int) (w44 : World), (bif decide (i43 < (r33.len : Int)) then
    (Dr w44 fun w45 =>
   ∃ a46 : Addr, r33.a = some a46 ∧ 0 ≤ i43 ∧ i43 < (r33.len : Int) ∧
   ∃ t47 : Int, w45.cell? (a46.add (i43.toNat * 1)) = some (.int .i64 t47) ∧
   ∃ a48 : Addr, r40.a = some a48 ∧ 0 ≤ i43 ∧ i43 < (r40.len : Int) ∧
   ∃ t49 : Int, w45.cell? (a48.add (i43.toNat * 1)) = some (.int .i64 t49) ∧
   bif t47 != t49 then
    (K false w45)
   else
    (l42 (IntKind.i64.wrap (i43 + (1 : Int))) w45))
   else
    (C.ready_Queue_Turn r7 (fun r50 w51 =>
   C.ready_Queue_Next r7 (fun r52 r53 w54 =>
   ∃ a55 : Addr, r7 = some a55 ∧
   C.ready_lines_Where (some a55) r52 (fun r56 r57 w58 =>
   bif !r26 then
    (C.ready_Queue_Put r7 (300 : Int) (1 : Int) (fun r59 w60 =>
   bif r59 == (1 : Int) then
    (C.law09_fixed  (fun r61 w62 =>
   K r61 w62) w60)
   else
    (K false w60)) w58)
   else
    (bif r50 then
    (bif decide (r56 ≥ r29) then
    (C.ready_Queue_Put r7 (300 : Int) (1 : Int) (fun r63 w64 =>
   bif r63 == (1 : Int) then
    (C.law09_fixed  (fun r65 w66 =>
   K r65 w66) w64)
   else
    (K false w64)) w58)
   else
    (K false w58))
   else
    (K false w58))) w54) w51) w44)) → l42 i43 w44) →
   l42 (0 : Int) w41)) w38) w34) w31) w27) w14))) → k12 t13 w14) →
   (bif decide (i10 < (l1.len : Int)) then
    (k12 (decide (i10 < (40 : Int))) w11)
   else
    (k12 false w11))) → l9 i10 w11) →
   l9 (0 : Int) w8)) w6
set_option maxRecDepth 100000 in
theorem S.law09_ReadyLines_ok (l1 : Sl) (o2 : Int) (o3 : Int) (o4 : Int) (p5 : Int) (K : Bool → World → Prop) (w : World) (h : S.law09_ReadyLines l1 o2 o3 o4 p5 K w) : C.law09_ReadyLines l1 o2 o3 o4 p5 K w := by
  have e : fnV Try.prog Try.f6 (bodyOf Try.f6) (.t none (.u) (.t none (.u) (.t none (.t none (.u) (.t none (.t none (.u) (.u)) (.u))) (.t none (.t none (.u) (.t none (.t (some [(8, .c (.i .i64))]) (.t none (.t none (.r (some [(31, .c (.b))]) .done) (.t none (.u) (.u))) (.t none (.t none (.r none (.one 0 2046 (.one 1 1988 (.one 2 1984 (.one 3 1984 (.one 4 1984 (.one 5 1984 (.one 6 128 (.one 7 0 (.one 8 0 (.one 9 0 (.one 10 0 (.alt 11 (.done) (.none)))))))))))))) (.u)) (.u))) (.u)) (.u))) (.t none (.t none (.u) (.t none (.t none (.u) (.u)) (.u))) (.t none (.u) (.t none (.u) (.t none (.u) (.t none (.u) (.t none (.u) (.t none (.t none (.u) (.t none (.t none (.u) (.u)) (.u))) (.t none (.t none (.u) (.t none (.t (some [(15, .c (.i .i64))]) (.t none (.t none (.u) (.t none (.u) (.u))) (.t none (.t none (.t none (.r none (.one 0 242 (.one 1 240 (.one 2 240 (.one 3 240 (.one 4 32 (.one 5 0 (.one 6 0 (.one 7 0 (.one 8 0 (.done))))))))))) (.t none (.t none (.u) (.u)) (.u))) (.u)) (.u))) (.u)) (.u))) (.t none (.u) (.t none (.u) (.t none (.u) (.t none (.u) (.u))))))))))))))))) [(0, .c (.b))] [.slice l1.a l1.len l1.cap, .agg #[.int .i64 o2, .int .i64 o3, .int .i64 o4], .int .i64 p5] K w = S.law09_ReadyLines l1 o2 o3 o4 p5 K w := by kernel_rfl
  exact okF_mk Try.func6 rfl (fn_sound names_ok follows_ok Try.func6 rfl (by kernel_rfl) (Eq.mpr e h))

/-- buttress/buttresslaw09.ReadyBits -/
def S.law09_ReadyBits (l1 : Sl) (K : Bool → World → Prop) (w : World) : Prop :=
  C.ready_New  (fun r2 w3 =>
   bif r2.isNone then
    (K false w3)
   else
    (∀ l4 : Int → World → Prop,
   (∀ (i5 : Int) (w6 : World), (∀ k7 : Bool → World → Prop,
   (∀ (t8 : Bool) (w9 : World), (bif t8 then
    (Dr w9 fun w10 =>
   ∃ a11 : Addr, l1.a = some a11 ∧ 0 ≤ i5 ∧ i5 < (l1.len : Int) ∧
   ∃ prio12 : Int, w10.cell? ((a11.add (i5.toNat * 3)).add 1) = some (.int .i64 prio12) ∧
   ∃ a13 : Addr, l1.a = some a13 ∧ 0 ≤ i5 ∧ i5 < (l1.len : Int) ∧
   ∃ n14 : Int, w10.cell? ((a13.add (i5.toNat * 3)).add 2) = some (.int .i64 n14) ∧
   (C.ready_Queue_Put r2 prio12 n14 (fun r15 w16 =>
   l4 (IntKind.i64.wrap (i5 + (1 : Int))) w16) w10) ∧
   True)
   else
    (∃ a17 : Addr, r2 = some a17 ∧
   C.ready_lines_Bits (some a17) (fun r18 r19 r20 r21 w22 =>
   Al w22 (.cells #[.int .u64 (0 : Int), .int .u64 (0 : Int), .int .u64 (0 : Int), .int .u64 (0 : Int)] 37) fun w23 =>
   St w23 (Addr.mk w22.heap.size 0 none) (.int .u64 r18) fun w24 =>
   St w24 ((Addr.mk w22.heap.size 0 none).add 1) (.int .u64 r19) fun w25 =>
   St w25 ((Addr.mk w22.heap.size 0 none).add 2) (.int .u64 r20) fun w26 =>
   St w26 ((Addr.mk w22.heap.size 0 none).add 3) (.int .u64 r21) fun w27 =>
   ∀ l28 : Int → Int → World → Prop,
   (∀ (top29 : Int) (p30 : Int) (w31 : World), (bif decide (p30 < (256 : Int)) then
    ((64 : Int) ≠ 0 ∧
   0 ≤ IntKind.i64.wrap (p30.tdiv (64 : Int)) ∧ IntKind.i64.wrap (p30.tdiv (64 : Int)) < (4 : Int) ∧
   ∃ t32 : Int, w31.cell? ((Addr.mk w22.heap.size 0 none).add ((IntKind.i64.wrap (p30.tdiv (64 : Int))).toNat * 1)) = some (.int .u64 t32) ∧
   (64 : Int) ≠ 0 ∧
   0 ≤ (p30.tmod (64 : Int)) ∧
   ∃ a33 : Addr, r2 = some a33 ∧
   C.ready_lines_Line (some a33) p30 (fun r34 w35 =>
   bif !(((andI .u64 (shrI .u64 t32 (p30.tmod (64 : Int))) (1 : Int)) == (1 : Int)) == (decide ((r34.len : Int) > (0 : Int)))) then
    (K false w35)
   else
    (bif (andI .u64 (shrI .u64 t32 (p30.tmod (64 : Int))) (1 : Int)) == (1 : Int) then
    (l28 p30 (IntKind.i64.wrap (p30 + (1 : Int))) w35)
   else
    (l28 top29 (IntKind.i64.wrap (p30 + (1 : Int))) w35))) w31)
   else
    (C.ready_Queue_Next r2 (fun r36 r37 w38 =>
   ∃ a39 : Addr, r2 = some a39 ∧
   C.ready_lines_Where (some a39) r36 (fun r40 r41 w42 =>
   bif r37 == (decide (top29 ≥ (0 : Int))) then
    (bif !r37 then
    (C.law09_fixed  (fun r43 w44 =>
   K r43 w44) w42)
   else
    (bif r41 then
    (bif r40 == top29 then
    (C.law09_fixed  (fun r45 w46 =>
   K r45 w46) w42)
   else
    (K false w42))
   else
    (K false w42)))
   else
    (K false w42)) w38) w31)) → l28 top29 p30 w31) →
   l28 (-1 : Int) (0 : Int) w27) w9)) → k7 t8 w9) →
   (bif decide (i5 < (l1.len : Int)) then
    (k7 (decide (i5 < (40 : Int))) w6)
   else
    (k7 false w6))) → l4 i5 w6) →
   l4 (0 : Int) w3)) w
set_option maxRecDepth 100000 in
theorem S.law09_ReadyBits_ok (l1 : Sl) (K : Bool → World → Prop) (w : World) (h : S.law09_ReadyBits l1 K w) : C.law09_ReadyBits l1 K w := by
  have e : fnV Try.prog Try.f7 (bodyOf Try.f7) (.t none (.u) (.t none (.u) (.t none (.t none (.u) (.t none (.t none (.u) (.u)) (.u))) (.t none (.t none (.u) (.t none (.t (some [(4, .c (.i .i64))]) (.t none (.t none (.r (some [(23, .c (.b))]) .done) (.t none (.u) (.u))) (.t none (.t none (.r none (.one 0 2046 (.one 1 1988 (.one 2 1984 (.one 3 1984 (.one 4 1984 (.one 5 1984 (.one 6 128 (.one 7 0 (.one 8 0 (.one 9 0 (.one 10 0 (.alt 11 (.done) (.none)))))))))))))) (.u)) (.u))) (.u)) (.u))) (.t none (.u) (.t none (.t none (.u) (.t none (.t (some [(6, .c (.i .i64)), (7, .c (.i .i64))]) (.t none (.t none (.u) (.t none (.u) (.u))) (.t none (.t none (.t none (.u) (.t none (.t none (.u) (.t none (.t none (.u) (.u)) (.u))) (.t none (.u) (.t none (.u) (.u))))) (.u)) (.u))) (.u)) (.u))) (.t none (.u) (.t none (.u) (.t none (.u) (.u)))))))))) [(0, .c (.b))] [.slice l1.a l1.len l1.cap] K w = S.law09_ReadyBits l1 K w := by kernel_rfl
  exact okF_mk Try.func7 rfl (fn_sound names_ok follows_ok Try.func7 rfl (by kernel_rfl) (Eq.mpr e h))

/-- buttress/buttresslaw09.ReadyApart -/
def S.law09_ReadyApart (l1 : Sl) (o2 : Int) (o3 : Int) (o4 : Int) (K : Bool → World → Prop) (w : World) : Prop :=
  Al w (.cells #[.int .i64 o2, .int .i64 o3, .int .i64 o4] 28) fun w5 =>
   C.ready_New  (fun r6 w7 =>
   bif r6.isNone then
    (K false w7)
   else
    (∀ l8 : Int → World → Prop,
   (∀ (i9 : Int) (w10 : World), (∀ k11 : Bool → World → Prop,
   (∀ (t12 : Bool) (w13 : World), (bif t12 then
    (Dr w13 fun w14 =>
   ∃ a15 : Addr, l1.a = some a15 ∧ 0 ≤ i9 ∧ i9 < (l1.len : Int) ∧
   ∃ prio16 : Int, w14.cell? ((a15.add (i9.toNat * 3)).add 1) = some (.int .i64 prio16) ∧
   ∃ a17 : Addr, l1.a = some a17 ∧ 0 ≤ i9 ∧ i9 < (l1.len : Int) ∧
   ∃ n18 : Int, w14.cell? ((a17.add (i9.toNat * 3)).add 2) = some (.int .i64 n18) ∧
   (C.ready_Queue_Put r6 prio16 n18 (fun r19 w20 =>
   l8 (IntKind.i64.wrap (i9 + (1 : Int))) w20) w14) ∧
   True)
   else
    (C.ready_Queue_Copy r6 (fun r21 w22 =>
   bif r21.isNone then
    (K false w22)
   else
    (∃ a23 : Addr, r21 = some a23 ∧
   C.ready_lines_Bits (some a23) (fun r24 r25 r26 r27 w28 =>
   Al w28 (.cells #[.int .u64 (0 : Int), .int .u64 (0 : Int), .int .u64 (0 : Int), .int .u64 (0 : Int)] 37) fun w29 =>
   St w29 (Addr.mk w28.heap.size 0 none) (.int .u64 r24) fun w30 =>
   St w30 ((Addr.mk w28.heap.size 0 none).add 1) (.int .u64 r25) fun w31 =>
   St w31 ((Addr.mk w28.heap.size 0 none).add 2) (.int .u64 r26) fun w32 =>
   St w32 ((Addr.mk w28.heap.size 0 none).add 3) (.int .u64 r27) fun w33 =>
   C.ready_Queue_Next r21 (fun r34 r35 w36 =>
   ∃ prio37 : Int, w36.cell? ((Addr.mk w.heap.size 0 none).add 1) = some (.int .i64 prio37) ∧
   ∃ n38 : Int, w36.cell? ((Addr.mk w.heap.size 0 none).add 2) = some (.int .i64 n38) ∧
   C.ready_Queue_Put r6 prio37 n38 (fun r39 w40 =>
   C.ready_Queue_Turn r6 (fun r41 w42 =>
   C.ready_Queue_Take r6 r34 (fun r43 w44 =>
   C.ready_Queue_Next r21 (fun r45 r46 w47 =>
   Dr w47 fun w48 =>
   ∃ a49 : Addr, r21 = some a49 ∧
   (∃ t50 : Int, w48.cell? (Addr.mk w28.heap.size 0 none) = some (.int .u64 t50) ∧
   ∃ t51 : Int, w48.cell? ((Addr.mk w28.heap.size 0 none).add 1) = some (.int .u64 t51) ∧
   ∃ t52 : Int, w48.cell? ((Addr.mk w28.heap.size 0 none).add 2) = some (.int .u64 t52) ∧
   ∃ t53 : Int, w48.cell? ((Addr.mk w28.heap.size 0 none).add 3) = some (.int .u64 t53) ∧
   (C.ready_lines_Bits (some a49) (fun r54 r55 r56 r57 w58 =>
   ∃ eq59 : Bool, EqB Try.prog .eql 37 (.tmp 67) (.tmp 71) (.agg #[.int .u64 t50, .int .u64 t51, .int .u64 t52, .int .u64 t53]) (.agg #[.int .u64 r54, .int .u64 r55, .int .u64 r56, .int .u64 r57]) eq59 ∧
   bif eq59 then
    (bif r45 == r34 then
    (bif r46 == r35 then
    ((C.law09_fixed  (fun r60 w61 =>
   K r60 w61) w58) ∧
   True)
   else
    ((K false w58) ∧
   True))
   else
    ((K false w58) ∧
   True))
   else
    ((K false w58) ∧
   True)) w48) ∧
   True) ∧
   (C.ready_lines_Bits (some a49) (fun r62 r63 r64 r65 w66 =>
   ∃ t67 : Int, w66.cell? (Addr.mk w28.heap.size 0 none) = some (.int .u64 t67) ∧
   ∃ t68 : Int, w66.cell? ((Addr.mk w28.heap.size 0 none).add 1) = some (.int .u64 t68) ∧
   ∃ t69 : Int, w66.cell? ((Addr.mk w28.heap.size 0 none).add 2) = some (.int .u64 t69) ∧
   ∃ t70 : Int, w66.cell? ((Addr.mk w28.heap.size 0 none).add 3) = some (.int .u64 t70) ∧
   ∃ eq71 : Bool, EqB Try.prog .eql 37 (.tmp 67) (.tmp 71) (.agg #[.int .u64 t67, .int .u64 t68, .int .u64 t69, .int .u64 t70]) (.agg #[.int .u64 r62, .int .u64 r63, .int .u64 r64, .int .u64 r65]) eq71 ∧
   bif eq71 then
    (bif r45 == r34 then
    (bif r46 == r35 then
    ((C.law09_fixed  (fun r72 w73 =>
   K r72 w73) w66) ∧
   True)
   else
    ((K false w66) ∧
   True))
   else
    ((K false w66) ∧
   True))
   else
    ((K false w66) ∧
   True)) w48) ∧
   True) w44) w42) w40) w36) w33) w22)) w13)) → k11 t12 w13) →
   (bif decide (i9 < (l1.len : Int)) then
    (k11 (decide (i9 < (40 : Int))) w10)
   else
    (k11 false w10))) → l8 i9 w10) →
   l8 (0 : Int) w7)) w5
set_option maxRecDepth 100000 in
theorem S.law09_ReadyApart_ok (l1 : Sl) (o2 : Int) (o3 : Int) (o4 : Int) (K : Bool → World → Prop) (w : World) (h : S.law09_ReadyApart l1 o2 o3 o4 K w) : C.law09_ReadyApart l1 o2 o3 o4 K w := by
  have e : fnV Try.prog Try.f8 (bodyOf Try.f8) (.t none (.u) (.t none (.u) (.t none (.t none (.u) (.t none (.t none (.u) (.u)) (.u))) (.t none (.t none (.u) (.t none (.t (some [(6, .c (.i .i64))]) (.t none (.t none (.r (some [(23, .c (.b))]) .done) (.t none (.u) (.u))) (.t none (.t none (.r none (.one 0 2046 (.one 1 1988 (.one 2 1984 (.one 3 1984 (.one 4 1984 (.one 5 1984 (.one 6 128 (.one 7 0 (.one 8 0 (.one 9 0 (.one 10 0 (.alt 11 (.done) (.none)))))))))))))) (.u)) (.u))) (.u)) (.u))) (.t none (.u) (.t none (.t none (.u) (.t none (.t none (.u) (.u)) (.u))) (.t none (.u) (.t none (.u) (.t none (.u) (.t none (.u) (.t none (.u) (.t none (.u) (.t none (.r none (.one 1 1 (.one 2 1 (.one 3 1 (.alt 0 (.alt 4 (.one 5 0 (.one 6 0 (.one 7 256 (.one 8 0 (.one 9 0 (.one 10 0 (.one 11 0 (.one 12 8192 (.one 13 0 (.one 14 0 (.one 15 0 (.one 16 0 (.alt 17 (.one 18 0 (.one 19 0 (.done))) (.none)))))))))))))) (.none)) (.alt 4 (.one 0 0 (.one 5 0 (.one 6 0 (.one 7 256 (.one 8 0 (.one 9 0 (.one 10 0 (.one 11 0 (.one 12 8192 (.one 13 0 (.one 14 0 (.one 15 0 (.one 16 0 (.alt 17 (.one 18 0 (.one 19 0 (.done))) (.none))))))))))))))) (.none))))))) (.u)))))))))))))) [(0, .c (.b))] [.slice l1.a l1.len l1.cap, .agg #[.int .i64 o2, .int .i64 o3, .int .i64 o4]] K w = S.law09_ReadyApart l1 o2 o3 o4 K w := by kernel_rfl
  exact okF_mk Try.func8 rfl (fn_sound names_ok follows_ok Try.func8 rfl (by kernel_rfl) (Eq.mpr e h))

/-- buttress/buttresslaw09.ReadyDoes -/
def S.law09_ReadyDoes (script1 : Sl) (K : Bool → World → Prop) (w : World) : Prop :=
  C.ready_New  (fun r2 w3 =>
   Al w3 (.cells #[.slice none 0 0] 55) fun w4 =>
   bif r2.isNone then
    (K false w4)
   else
    (∀ l5 : Option Addr → Int → World → Prop,
   (∀ (q6 : Option Addr) (i7 : Int) (w8 : World), (∀ k9 : Bool → World → Prop,
   (∀ (t10 : Bool) (w11 : World), (bif t10 then
    (∃ a12 : Addr, script1.a = some a12 ∧ 0 ≤ i7 ∧ i7 < (script1.len : Int) ∧
   ∃ t13 : Int, w11.cell? (a12.add (i7.toNat * 3)) = some (.int .i64 t13) ∧
   ∃ t14 : Int, w11.cell? ((a12.add (i7.toNat * 3)).add 1) = some (.int .i64 t14) ∧
   ∃ t15 : Int, w11.cell? ((a12.add (i7.toNat * 3)).add 2) = some (.int .i64 t15) ∧
   Al w11 (.cells #[.int .i64 (0 : Int), .int .i64 (0 : Int), .int .i64 (0 : Int)] 28) fun w16 =>
   St w16 (Addr.mk w11.heap.size 0 none) (.int .i64 t13) fun w17 =>
   St w17 ((Addr.mk w11.heap.size 0 none).add 1) (.int .i64 t14) fun w18 =>
   St w18 ((Addr.mk w11.heap.size 0 none).add 2) (.int .i64 t15) fun w19 =>
   ∃ kind20 : Int, w19.cell? (Addr.mk w11.heap.size 0 none) = some (.int .i64 kind20) ∧
   ∀ k21 : Option Addr → Int → Int → World → Prop,
   (∀ (q22 : Option Addr) (a23 : Int) (b24 : Int) (w25 : World), (C.ready_Queue_Next q22 (fun r26 r27 w28 =>
   C.ref09_Queue_Next (some (Addr.mk w3.heap.size 0 none)) (fun r29 r30 w31 =>
   Dr w31 fun w32 =>
   ∃ a33 : Addr, q22 = some a33 ∧
   ∃ n34 : Int, w32.cell? ((Addr.mk w11.heap.size 0 none).add 2) = some (.int .i64 n34) ∧
   (C.ready_lines_Where (some a33) n34 (fun r35 r36 w37 =>
   ∃ n38 : Int, w37.cell? ((Addr.mk w11.heap.size 0 none).add 2) = some (.int .i64 n38) ∧
   C.ref09_Queue_Where (some (Addr.mk w3.heap.size 0 none)) n38 (fun r39 r40 w41 =>
   Dr w41 fun w42 =>
   ∃ a43 : Addr, q22 = some a43 ∧
   ∃ prio44 : Int, w42.cell? ((Addr.mk w11.heap.size 0 none).add 1) = some (.int .i64 prio44) ∧
   (C.ready_lines_Line (some a43) prio44 (fun r45 w46 =>
   ∀ k47 : Bool → World → Prop,
   (∀ (t48 : Bool) (w49 : World), (bif t48 then
    (K false w49)
   else
    (∀ l50 : Int → World → Prop,
   (∀ (j51 : Int) (w52 : World), (bif decide (j51 < (r45.len : Int)) then
    (∃ a53 : Addr, r45.a = some a53 ∧ 0 ≤ j51 ∧ j51 < (r45.len : Int) ∧
   St w52 (a53.add (j51.toNat * 1)) (.int .i64 (99 : Int)) fun w54 =>
   l50 (IntKind.i64.wrap (j51 + (1 : Int))) w54)
   else
    (l5 q22 (IntKind.i64.wrap (i7 + (1 : Int))) w52)) → l50 j51 w52) →
   l50 (0 : Int) w49)) → k47 t48 w49) →
   (bif a23 != b24 then
    (k47 true w46)
   else
    (bif r26 != r29 then
    (k47 true w46)
   else
    (bif !(r27 == r30) then
    (k47 true w46)
   else
    (bif r35 != r39 then
    (k47 true w46)
   else
    (bif !(r36 == r40) then
    (k47 true w46)
   else
    (∃ prio55 : Int, w46.cell? ((Addr.mk w11.heap.size 0 none).add 1) = some (.int .i64 prio55) ∧
   C.ref09_Queue_Line (some (Addr.mk w3.heap.size 0 none)) prio55 (fun r56 w57 =>
   C.ref09_Nums r45 r56 (fun r58 w59 =>
   bif !r58 then
    (k47 true w59)
   else
    (∃ a60 : Addr, q22 = some a60 ∧
   C.ready_lines_Bits (some a60) (fun r61 r62 r63 r64 w65 =>
   C.ref09_Queue_Bits (some (Addr.mk w3.heap.size 0 none)) (fun r66 r67 r68 r69 w70 =>
   ∃ eq71 : Bool, EqB Try.prog .neq 37 (.tmp 155) (.tmp 157) (.agg #[.int .u64 r61, .int .u64 r62, .int .u64 r63, .int .u64 r64]) (.agg #[.int .u64 r66, .int .u64 r67, .int .u64 r68, .int .u64 r69]) eq71 ∧
   k47 eq71 w70) w65) w59)) w57) w46))))))) w42) ∧
   True) w37) w32) ∧
   True) w28) w25) → k21 q22 a23 b24 w25) →
   (bif kind20 == (0 : Int) then
    (∃ prio72 : Int, w19.cell? ((Addr.mk w11.heap.size 0 none).add 1) = some (.int .i64 prio72) ∧
   ∃ n73 : Int, w19.cell? ((Addr.mk w11.heap.size 0 none).add 2) = some (.int .i64 n73) ∧
   C.ready_Queue_Put q6 prio72 n73 (fun r74 w75 =>
   ∃ prio76 : Int, w75.cell? ((Addr.mk w11.heap.size 0 none).add 1) = some (.int .i64 prio76) ∧
   ∃ n77 : Int, w75.cell? ((Addr.mk w11.heap.size 0 none).add 2) = some (.int .i64 n77) ∧
   C.ref09_Queue_Put (some (Addr.mk w3.heap.size 0 none)) prio76 n77 (fun r78 w79 =>
   k21 q6 r74 r78 w79) w75) w19)
   else
    (bif kind20 == (1 : Int) then
    (∃ n80 : Int, w19.cell? ((Addr.mk w11.heap.size 0 none).add 2) = some (.int .i64 n80) ∧
   C.ready_Queue_Take q6 n80 (fun r81 w82 =>
   ∃ n83 : Int, w82.cell? ((Addr.mk w11.heap.size 0 none).add 2) = some (.int .i64 n83) ∧
   C.ref09_Queue_Take (some (Addr.mk w3.heap.size 0 none)) n83 (fun r84 w85 =>
   k21 q6 r81 r84 w85) w82) w19)
   else
    (bif kind20 == (2 : Int) then
    (C.ready_Queue_Turn q6 (fun r86 w87 =>
   C.ref09_Queue_Turn (some (Addr.mk w3.heap.size 0 none)) (fun r88 w89 =>
   bif !(r86 == r88) then
    (K false w89)
   else
    (k21 q6 (0 : Int) (0 : Int) w89)) w87) w19)
   else
    (bif kind20 == (3 : Int) then
    (C.ready_Queue_Copy q6 (fun r90 w91 =>
   C.ready_Queue_Put q6 (200 : Int) (777 : Int) (fun r92 w93 =>
   ∃ n94 : Int, w93.cell? ((Addr.mk w11.heap.size 0 none).add 2) = some (.int .i64 n94) ∧
   C.ready_Queue_Take q6 n94 (fun r95 w96 =>
   bif r90.isNone then
    (K false w96)
   else
    (k21 r90 (0 : Int) (0 : Int) w96)) w93) w91) w19)
   else
    (k21 q6 (0 : Int) (0 : Int) w19))))))
   else
    (C.law09_fixed  (fun r97 w98 =>
   K r97 w98) w11)) → k9 t10 w11) →
   (bif decide (i7 < (script1.len : Int)) then
    (k9 (decide (i7 < (80 : Int))) w8)
   else
    (k9 false w8))) → l5 q6 i7 w8) →
   l5 r2 (0 : Int) w4)) w
set_option maxRecDepth 100000 in
theorem S.law09_ReadyDoes_ok (script1 : Sl) (K : Bool → World → Prop) (w : World) (h : S.law09_ReadyDoes script1 K w) : C.law09_ReadyDoes script1 K w := by
  have e : fnV Try.prog Try.f9 (bodyOf Try.f9) (.t none (.u) (.t none (.u) (.t none (.t none (.u) (.t none (.t none (.u) (.u)) (.u))) (.t none (.t none (.u) (.t none (.t (some [(3, .c (.p)), (5, .c (.i .i64))]) (.t none (.t none (.r (some [(33, .c (.b))]) .done) (.t none (.u) (.u))) (.t none (.t none (.t none (.u) (.t none (.u) (.t none (.t none (.u) (.t none (.t none (.u) (.t (some [(3, .c (.p)), (7, .c (.i .i64)), (8, .c (.i .i64))]) (.t none (.u) (.u)) (.t none (.u) (.t none (.t none (.u) (.u)) (.t none (.u) (.t none (.t none (.u) (.t none (.u) (.t none (.t none (.u) (.u)) (.u)))) (.t none (.u) (.t none (.t none (.u) (.t none (.u) (.t none (.u) (.t none (.u) (.t none (.u) (.t none (.t none (.u) (.u)) (.u))))))) (.u))))))))) (.u))) (.t none (.u) (.t none (.u) (.t none (.r none (.one 0 24 (.one 1 24 (.one 2 24 (.one 3 0 (.one 4 0 (.alt 5 (.one 6 0 (.one 7 256 (.one 8 512 (.one 9 0 (.one 10 0 (.done)))))) (.none)))))))) (.t none (.u) (.t none (.r none (.one 0 24 (.one 1 24 (.one 2 24 (.one 3 0 (.one 4 0 (.alt 5 (.one 6 0 (.done)) (.none)))))))) (.t none (.t none (.r (some [(159, .c (.b))]) .done) (.t none (.t none (.u) (.u)) (.u))) (.t none (.u) (.t none (.t (some [(20, .c (.i .i64))]) (.t none (.t none (.u) (.t none (.u) (.u))) (.t none (.t none (.u) (.u)) (.u))) (.u)) (.u)))))))))))) (.u)) (.u))) (.u)) (.u))) (.t none (.u) (.u)))))) [(0, .c (.b))] [.slice script1.a script1.len script1.cap] K w = S.law09_ReadyDoes script1 K w := by kernel_rfl
  exact okF_mk Try.func9 rfl (fn_sound names_ok follows_ok Try.func9 rfl (by kernel_rfl) (Eq.mpr e h))

/-- buttress/ready.New -/
def S.ready_New (K : Option Addr → World → Prop) (w : World) : Prop :=
  Al w (.map #[] 0) fun w1 =>
   Al w1 (.cells #[.slice none 0 0, .slice none 0 0, .slice none 0 0, .slice none 0 0, .slice none 0 0, .slice none 0 0, .slice none 0 0, .slice none 0 0, .slice none 0 0, .slice none 0 0, .slice none 0 0, .slice none 0 0, .slice none 0 0, .slice none 0 0, .slice none 0 0, .slice none 0 0, .slice none 0 0, .slice none 0 0, .slice none 0 0, .slice none 0 0, .slice none 0 0, .slice none 0 0, .slice none 0 0, .slice none 0 0, .slice none 0 0, .slice none 0 0, .slice none 0 0, .slice none 0 0, .slice none 0 0, .slice none 0 0, .slice none 0 0, .slice none 0 0, .slice none 0 0, .slice none 0 0, .slice none 0 0, .slice none 0 0, .slice none 0 0, .slice none 0 0, .slice none 0 0, .slice none 0 0, .slice none 0 0, .slice none 0 0, .slice none 0 0, .slice none 0 0, .slice none 0 0, .slice none 0 0, .slice none 0 0, .slice none 0 0, .slice none 0 0, .slice none 0 0, .slice none 0 0, .slice none 0 0, .slice none 0 0, .slice none 0 0, .slice none 0 0, .slice none 0 0, .slice none 0 0, .slice none 0 0, .slice none 0 0, .slice none 0 0, .slice none 0 0, .slice none 0 0, .slice none 0 0, .slice none 0 0, .slice none 0 0, .slice none 0 0, .slice none 0 0, .slice none 0 0, .slice none 0 0, .slice none 0 0, .slice none 0 0, .slice none 0 0, .slice none 0 0, .slice none 0 0, .slice none 0 0, .slice none 0 0, .slice none 0 0, .slice none 0 0, .slice none 0 0, .slice none 0 0, .slice none 0 0, .slice none 0 0, .slice none 0 0, .slice none 0 0, .slice none 0 0, .slice none 0 0, .slice none 0 0, .slice none 0 0, .slice none 0 0, .slice none 0 0, .slice none 0 0, .slice none 0 0, .slice none 0 0, .slice none 0 0, .slice none 0 0, .slice none 0 0, .slice none 0 0, .slice none 0 0, .slice none 0 0, .slice none 0 0, .slice none 0 0, .slice none 0 0, .slice none 0 0, .slice none 0 0, .slice none 0 0, .slice none 0 0, .slice none 0 0, .slice none 0 0, .slice none 0 0, .slice none 0 0, .slice none 0 0, .slice none 0 0, .slice none 0 0, .slice none 0 0, .slice none 0 0, .slice none 0 0, .slice none 0 0, .slice none 0 0, .slice none 0 0, .slice none 0 0, .slice none 0 0, .slice none 0 0, .slice none 0 0, .slice none 0 0, .slice none 0 0, .slice none 0 0, .slice none 0 0, .slice none 0 0, .slice none 0 0, .slice none 0 0, .slice none 0 0, .slice none 0 0, .slice none 0 0, .slice none 0 0, .slice none 0 0, .slice none 0 0, .slice none 0 0, .slice none 0 0, .slice none 0 0, .slice none 0 0, .slice none 0 0, .slice none 0 0, .slice none 0 0, .slice none 0 0, .slice none 0 0, .slice none 0 0, .slice none 0 0, .slice none 0 0, .slice none 0 0, .slice none 0 0, .slice none 0 0, .slice none 0 0, .slice none 0 0, .slice none 0 0, .slice none 0 0, .slice none 0 0, .slice none 0 0, .slice none 0 0, .slice none 0 0, .slice none 0 0, .slice none 0 0, .slice none 0 0, .slice none 0 0, .slice none 0 0, .slice none 0 0, .slice none 0 0, .slice none 0 0, .slice none 0 0, .slice none 0 0, .slice none 0 0, .slice none 0 0, .slice none 0 0, .slice none 0 0, .slice none 0 0, .slice none 0 0, .slice none 0 0, .slice none 0 0, .slice none 0 0, .slice none 0 0, .slice none 0 0, .slice none 0 0, .slice none 0 0, .slice none 0 0, .slice none 0 0, .slice none 0 0, .slice none 0 0, .slice none 0 0, .slice none 0 0, .slice none 0 0, .slice none 0 0, .slice none 0 0, .slice none 0 0, .slice none 0 0, .slice none 0 0, .slice none 0 0, .slice none 0 0, .slice none 0 0, .slice none 0 0, .slice none 0 0, .slice none 0 0, .slice none 0 0, .slice none 0 0, .slice none 0 0, .slice none 0 0, .slice none 0 0, .slice none 0 0, .slice none 0 0, .slice none 0 0, .slice none 0 0, .slice none 0 0, .slice none 0 0, .slice none 0 0, .slice none 0 0, .slice none 0 0, .slice none 0 0, .slice none 0 0, .slice none 0 0, .slice none 0 0, .slice none 0 0, .slice none 0 0, .slice none 0 0, .slice none 0 0, .slice none 0 0, .slice none 0 0, .slice none 0 0, .slice none 0 0, .slice none 0 0, .slice none 0 0, .slice none 0 0, .slice none 0 0, .slice none 0 0, .slice none 0 0, .slice none 0 0, .slice none 0 0, .slice none 0 0, .slice none 0 0, .slice none 0 0, .slice none 0 0, .slice none 0 0, .slice none 0 0, .slice none 0 0, .slice none 0 0, .slice none 0 0, .slice none 0 0, .slice none 0 0, .slice none 0 0, .slice none 0 0, .slice none 0 0, .slice none 0 0, .slice none 0 0, .slice none 0 0, .slice none 0 0, .slice none 0 0, .slice none 0 0, .slice none 0 0, .slice none 0 0, .map (some w.heap.size), .int .u64 (0 : Int), .int .u64 (0 : Int), .int .u64 (0 : Int), .int .u64 (0 : Int)] 41) fun w2 =>
   K (some (Addr.mk w1.heap.size 0 none)) w2
set_option maxRecDepth 100000 in
theorem S.ready_New_ok (K : Option Addr → World → Prop) (w : World) (h : S.ready_New  K w) : C.ready_New  K w := by
  have e : fnV Try.prog Try.f10 (bodyOf Try.f10) (.t none (.u) (.t none (.u) (.u))) [(0, .c (.p))] [] K w = S.ready_New  K w := by kernel_rfl
  exact okF_mk Try.func10 rfl (fn_sound names_ok follows_ok Try.func10 rfl (by kernel_rfl) (Eq.mpr e h))

/-- (*buttress/ready.Queue).Put -/
def S.ready_Queue_Put (q1 : Option Addr) (prio2 : Int) (n3 : Int) (K : Int → World → Prop) (w : World) : Prop :=
  ∀ k4 : Bool → World → Prop,
   (∀ (t5 : Bool) (w6 : World), (bif t5 then
    (K (1 : Int) w6)
   else
    (∃ a7 : Addr, q1 = some a7 ∧
   ∃ by8 : Option Nat, w6.cell? (a7.add 256) = some (.map by8) ∧
   ∃ t9 : Int, ∃ is10 : Bool, LkB Try.prog 34 (.map by8) (.int .i64 n3) (.int .i64 t9) is10 w6 ∧
   bif is10 then
    (K (90 : Int) w6)
   else
    (Dr w6 fun w11 =>
   ∃ a12 : Addr, q1 = some a12 ∧
   0 ≤ prio2 ∧ prio2 < (256 : Int) ∧
   ∃ t13 : Sl, w11.cell? (a12.add (prio2.toNat * 1)) = some (.slice t13.a t13.len t13.cap) ∧
   ∃ a14 : Addr, q1 = some a14 ∧
   (Al w11 (.cells #[.int .i64 n3] 3) fun w15 =>
   (∃ (t16 : Sl) (w17 : World), AppR Try.prog [32, 32] 32 (.slice t13.a t13.len t13.cap) (.slice (some (Addr.mk w11.heap.size 0 none)) 1 1) w15 t16 w17 ∧
   0 ≤ prio2 ∧ prio2 < (256 : Int) ∧
   (St w17 (a14.add (prio2.toNat * 1)) (.slice t16.a t16.len t16.cap) fun w18 =>
   ∃ a19 : Addr, q1 = some a19 ∧
   ∃ by20 : Option Nat, w18.cell? (a19.add 256) = some (.map by20) ∧
   ∃ w21 : World, UpdR Try.prog 34 (.map by20) (.int .i64 n3) (.int .i64 prio2) w18 w21 ∧
   ∃ a22 : Addr, q1 = some a22 ∧
   C.ready_lines_note (some a22) prio2 (fun w23 =>
   K (0 : Int) w23) w21) ∧
   True) ∧
   True) ∧
   True))) → k4 t5 w6) →
   (bif decide (prio2 < (0 : Int)) then
    (k4 true w)
   else
    (k4 (decide (prio2 ≥ (256 : Int))) w))
set_option maxRecDepth 100000 in
theorem S.ready_Queue_Put_ok (q1 : Option Addr) (prio2 : Int) (n3 : Int) (K : Int → World → Prop) (w : World) (h : S.ready_Queue_Put q1 prio2 n3 K w) : C.ready_Queue_Put q1 prio2 n3 K w := by
  have e : fnV Try.prog Try.f11 (bodyOf Try.f11) (.t none (.u) (.t none (.t none (.r (some [(14, .c (.b))]) .done) (.t none (.t none (.u) (.u)) (.u))) (.t none (.t none (.u) (.t none (.u) (.t none (.t none (.u) (.u)) (.u)))) (.t none (.r none (.one 0 4094 (.one 1 32764 (.one 2 30216 (.one 3 30320 (.one 4 30208 (.one 5 30208 (.one 6 30208 (.one 7 30208 (.one 8 30208 (.one 9 28672 (.one 12 3072 (.one 13 3072 (.one 14 3072 (.alt 10 (.alt 11 (.one 15 0 (.alt 16 (.done) (.none))) (.none)) (.none)))))))))))))))) (.t none (.u) (.t none (.u) (.t none (.u) (.u)))))))) [(0, .c (.i .i64))] [.pointer q1, .int .i64 prio2, .int .i64 n3] K w = S.ready_Queue_Put q1 prio2 n3 K w := by kernel_rfl
  exact okF_mk Try.func11 rfl (fn_sound names_ok follows_ok Try.func11 rfl (by kernel_rfl) (Eq.mpr e h))

/-- (*buttress/ready.Queue).Next -/
def S.ready_Queue_Next (q1 : Option Addr) (K : Int → Bool → World → Prop) (w : World) : Prop :=
  ∃ a2 : Addr, q1 = some a2 ∧
   ∃ b3 : Int, w.cell? (a2.add 257) = some (.int .u64 b3) ∧
   ∃ b4 : Int, w.cell? ((a2.add 257).add 1) = some (.int .u64 b4) ∧
   ∃ b5 : Int, w.cell? ((a2.add 257).add 2) = some (.int .u64 b5) ∧
   ∃ b6 : Int, w.cell? ((a2.add 257).add 3) = some (.int .u64 b6) ∧
   C.words_Top b3 b4 b5 b6 (fun r7 w8 =>
   bif decide (r7 < (0 : Int)) then
    (K (0 : Int) false w8)
   else
    (∃ a9 : Addr, q1 = some a9 ∧
   0 ≤ r7 ∧ r7 < (256 : Int) ∧
   ∃ t10 : Sl, w8.cell? (a9.add (r7.toNat * 1)) = some (.slice t10.a t10.len t10.cap) ∧
   ∃ a11 : Addr, t10.a = some a11 ∧ 0 ≤ (0 : Int) ∧ (0 : Int) < (t10.len : Int) ∧
   ∃ t12 : Int, w8.cell? (a11.add ((0 : Int).toNat * 1)) = some (.int .i64 t12) ∧
   K t12 true w8)) w
set_option maxRecDepth 100000 in
theorem S.ready_Queue_Next_ok (q1 : Option Addr) (K : Int → Bool → World → Prop) (w : World) (h : S.ready_Queue_Next q1 K w) : C.ready_Queue_Next q1 K w := by
  have e : fnV Try.prog Try.f12 (bodyOf Try.f12) (.t none (.u) (.t none (.u) (.t none (.t none (.u) (.t none (.t none (.u) (.u)) (.u))) (.t none (.u) (.u))))) [(0, .c (.i .i64)), (1, .c (.b))] [.pointer q1] K w = S.ready_Queue_Next q1 K w := by kernel_rfl
  exact okF_mk Try.func12 rfl (fn_sound names_ok follows_ok Try.func12 rfl (by kernel_rfl) (Eq.mpr e h))

/-- (*buttress/ready.lines).Where -/
def S.ready_lines_Where (q1 : Option Addr) (n2 : Int) (K : Int → Bool → World → Prop) (w : World) : Prop :=
  ∃ a3 : Addr, q1 = some a3 ∧
   ∃ by4 : Option Nat, w.cell? (a3.add 256) = some (.map by4) ∧
   ∃ t5 : Int, ∃ is6 : Bool, LkB Try.prog 34 (.map by4) (.int .i64 n2) (.int .i64 t5) is6 w ∧
   K t5 is6 w
set_option maxRecDepth 100000 in
theorem S.ready_lines_Where_ok (q1 : Option Addr) (n2 : Int) (K : Int → Bool → World → Prop) (w : World) (h : S.ready_lines_Where q1 n2 K w) : C.ready_lines_Where q1 n2 K w := by
  have e : fnV Try.prog Try.f13 (bodyOf Try.f13) (.t none (.u) (.t none (.u) (.t none (.u) (.u)))) [(0, .c (.i .i64)), (1, .c (.b))] [.pointer q1, .int .i64 n2] K w = S.ready_lines_Where q1 n2 K w := by kernel_rfl
  exact okF_mk Try.func13 rfl (fn_sound names_ok follows_ok Try.func13 rfl (by kernel_rfl) (Eq.mpr e h))

/-- (*buttress/ready.Queue).Take -/
def S.ready_Queue_Take (q1 : Option Addr) (n2 : Int) (K : Int → World → Prop) (w : World) : Prop :=
  Al w (.cells #[.int .i64 n2] 3) fun w3 =>
   Dr w3 fun w4 =>
   ∃ a5 : Addr, q1 = some a5 ∧
   ∃ by6 : Option Nat, w4.cell? (a5.add 256) = some (.map by6) ∧
   ∃ t7 : Int, w4.cell? (Addr.mk w.heap.size 0 none) = some (.int .i64 t7) ∧
   (∃ t8 : Int, ∃ is9 : Bool, LkB Try.prog 34 (.map by6) (.int .i64 t7) (.int .i64 t8) is9 w4 ∧
   bif !is9 then
    (K (91 : Int) w4)
   else
    (Dr w4 fun w10 =>
   ∃ a11 : Addr, q1 = some a11 ∧
   0 ≤ t8 ∧ t8 < (256 : Int) ∧
   ∃ t12 : Sl, w10.cell? (a11.add (t8.toNat * 1)) = some (.slice t12.a t12.len t12.cap) ∧
   ∃ a13 : Addr, q1 = some a13 ∧
   (C.slices_DeleteFunc_int_int t12 (.func (.func 31) #[] #[.pointer (some (Addr.mk w.heap.size 0 none))]) (fun r14 w15 =>
   0 ≤ t8 ∧ t8 < (256 : Int) ∧
   (St w15 (a13.add (t8.toNat * 1)) (.slice r14.a r14.len r14.cap) fun w16 =>
   Dr w16 fun w17 =>
   ∃ a18 : Addr, q1 = some a18 ∧
   ∃ by19 : Option Nat, w17.cell? (a18.add 256) = some (.map by19) ∧
   ∃ t20 : Int, w17.cell? (Addr.mk w.heap.size 0 none) = some (.int .i64 t20) ∧
   (∃ w21 : World, DelR Try.prog [34, 3] 0 (.map by19) (.int .i64 t20) w17 w21 ∧
   ∃ a22 : Addr, q1 = some a22 ∧
   C.ready_lines_note (some a22) t8 (fun w23 =>
   K (0 : Int) w23) w21) ∧
   True) ∧
   True) w10) ∧
   True)) ∧
   True
set_option maxRecDepth 100000 in
theorem S.ready_Queue_Take_ok (q1 : Option Addr) (n2 : Int) (K : Int → World → Prop) (w : World) (h : S.ready_Queue_Take q1 n2 K w) : C.ready_Queue_Take q1 n2 K w := by
  have e : fnV Try.prog Try.f14 (bodyOf Try.f14) (.t none (.u) (.t none (.r none (.one 0 32 (.one 1 32 (.one 2 32 (.one 3 32 (.one 4 32 (.one 5 0 (.alt 6 (.one 7 0 (.one 8 512 (.one 9 1024 (.one 10 0 (.one 11 0 (.done)))))) (.none))))))))) (.t none (.t none (.u) (.t none (.t none (.u) (.u)) (.u))) (.t none (.r none (.one 0 2046 (.one 1 16380 (.one 2 14856 (.one 3 14960 (.one 4 14848 (.one 5 14848 (.one 6 14848 (.one 7 14848 (.one 8 14848 (.one 9 14336 (.one 11 1024 (.one 12 1024 (.one 13 1024 (.alt 10 (.one 14 0 (.alt 15 (.done) (.none))) (.none)))))))))))))))) (.t none (.r none (.one 0 32 (.one 1 32 (.one 2 32 (.one 3 32 (.one 4 32 (.one 5 0 (.alt 6 (.done) (.none))))))))) (.t none (.u) (.t none (.u) (.u)))))))) [(0, .c (.i .i64))] [.pointer q1, .int .i64 n2] K w = S.ready_Queue_Take q1 n2 K w := by kernel_rfl
  exact okF_mk Try.func14 rfl (fn_sound names_ok follows_ok Try.func14 rfl (by kernel_rfl) (Eq.mpr e h))

/-- (*buttress/ready.lines).Bits -/
def S.ready_lines_Bits (q1 : Option Addr) (K : Int → Int → Int → Int → World → Prop) (w : World) : Prop :=
  Al w (.cells #[.int .u64 (0 : Int), .int .u64 (0 : Int), .int .u64 (0 : Int), .int .u64 (0 : Int)] 37) fun w2 =>
   ∃ a3 : Addr, q1 = some a3 ∧
   ∃ b4 : Int, w2.cell? (a3.add 257) = some (.int .u64 b4) ∧
   ∃ b5 : Int, w2.cell? ((a3.add 257).add 1) = some (.int .u64 b5) ∧
   ∃ b6 : Int, w2.cell? ((a3.add 257).add 2) = some (.int .u64 b6) ∧
   ∃ b7 : Int, w2.cell? ((a3.add 257).add 3) = some (.int .u64 b7) ∧
   St w2 (Addr.mk w.heap.size 0 none) (.int .u64 b4) fun w8 =>
   St w8 ((Addr.mk w.heap.size 0 none).add 1) (.int .u64 b5) fun w9 =>
   St w9 ((Addr.mk w.heap.size 0 none).add 2) (.int .u64 b6) fun w10 =>
   St w10 ((Addr.mk w.heap.size 0 none).add 3) (.int .u64 b7) fun w11 =>
   ∃ r12 : Int, w11.cell? (Addr.mk w.heap.size 0 none) = some (.int .u64 r12) ∧
   ∃ r13 : Int, w11.cell? ((Addr.mk w.heap.size 0 none).add 1) = some (.int .u64 r13) ∧
   ∃ r14 : Int, w11.cell? ((Addr.mk w.heap.size 0 none).add 2) = some (.int .u64 r14) ∧
   ∃ r15 : Int, w11.cell? ((Addr.mk w.heap.size 0 none).add 3) = some (.int .u64 r15) ∧
   K r12 r13 r14 r15 w11
set_option maxRecDepth 100000 in
theorem S.ready_lines_Bits_ok (q1 : Option Addr) (K : Int → Int → Int → Int → World → Prop) (w : World) (h : S.ready_lines_Bits q1 K w) : C.ready_lines_Bits q1 K w := by
  have e : fnV Try.prog Try.f15 (bodyOf Try.f15) (.t none (.u) (.t none (.u) (.u))) [(0, .a [.i .u64, .i .u64, .i .u64, .i .u64])] [.pointer q1] K w = S.ready_lines_Bits q1 K w := by kernel_rfl
  exact okF_mk Try.func15 rfl (fn_sound names_ok follows_ok Try.func15 rfl (by kernel_rfl) (Eq.mpr e h))

/-- buttress/buttresslaw09.fixed -/
def S.law09_fixed (K : Bool → World → Prop) (w : World) : Prop :=
  C.ready_New  (fun r1 w2 =>
   bif r1.isNone then
    (K false w2)
   else
    (C.ready_Queue_Put r1 (3 : Int) (7 : Int) (fun r3 w4 =>
   C.ready_Queue_Put r1 (5 : Int) (8 : Int) (fun r5 w6 =>
   C.ready_Queue_Put r1 (5 : Int) (9 : Int) (fun r7 w8 =>
   C.ready_Queue_Next r1 (fun r9 r10 w11 =>
   C.ready_Queue_Turn r1 (fun r12 w13 =>
   C.ready_Queue_Next r1 (fun r14 r15 w16 =>
   C.ready_Queue_Take r1 (9 : Int) (fun r17 w18 =>
   C.ready_Queue_Take r1 (8 : Int) (fun r19 w20 =>
   C.ready_Queue_Next r1 (fun r21 r22 w23 =>
   bif r3 == (0 : Int) then
    (bif r5 == (0 : Int) then
    (bif r7 == (0 : Int) then
    (bif r9 == (8 : Int) then
    (bif r10 then
    (bif r12 then
    (bif r14 == (9 : Int) then
    (bif r15 then
    (bif r17 == (0 : Int) then
    (bif r19 == (0 : Int) then
    (bif r21 == (7 : Int) then
    (bif r22 then
    (C.ready_Queue_Put r1 (4 : Int) (7 : Int) (fun r24 w25 =>
   bif r24 == (90 : Int) then
    (C.ready_Queue_Put r1 (256 : Int) (1 : Int) (fun r26 w27 =>
   bif r26 == (1 : Int) then
    (C.ready_Queue_Take r1 (8 : Int) (fun r28 w29 =>
   K (r28 == (91 : Int)) w29) w27)
   else
    (K false w27)) w25)
   else
    (K false w25)) w23)
   else
    (K false w23))
   else
    (K false w23))
   else
    (K false w23))
   else
    (K false w23))
   else
    (K false w23))
   else
    (K false w23))
   else
    (K false w23))
   else
    (K false w23))
   else
    (K false w23))
   else
    (K false w23))
   else
    (K false w23))
   else
    (K false w23)) w20) w18) w16) w13) w11) w8) w6) w4) w2)) w
set_option maxRecDepth 100000 in
theorem S.law09_fixed_ok (K : Bool → World → Prop) (w : World) (h : S.law09_fixed  K w) : C.law09_fixed  K w := by
  have e : fnV Try.prog Try.f16 (bodyOf Try.f16) (.t none (.u) (.t none (.u) (.t none (.t none (.u) (.t none (.t none (.u) (.u)) (.u))) (.t none (.u) (.t none (.u) (.t none (.u) (.t none (.u) (.t none (.u) (.t none (.u) (.t none (.u) (.u))))))))))) [(0, .c (.b))] [] K w = S.law09_fixed  K w := by kernel_rfl
  exact okF_mk Try.func16 rfl (fn_sound names_ok follows_ok Try.func16 rfl (by kernel_rfl) (Eq.mpr e h))

/-- (*buttress/ready.lines).Line -/
def S.ready_lines_Line (q1 : Option Addr) (prio2 : Int) (K : Sl → World → Prop) (w : World) : Prop :=
  ∀ k3 : Bool → World → Prop,
   (∀ (t4 : Bool) (w5 : World), (bif t4 then
    (K ⟨none, 0, 0⟩ w5)
   else
    (∃ a6 : Addr, q1 = some a6 ∧
   0 ≤ prio2 ∧ prio2 < (256 : Int) ∧
   ∃ t7 : Sl, w5.cell? (a6.add (prio2.toNat * 1)) = some (.slice t7.a t7.len t7.cap) ∧
   C.slices_Clone_int_int t7 (fun r8 w9 =>
   K r8 w9) w5)) → k3 t4 w5) →
   (bif decide (prio2 < (0 : Int)) then
    (k3 true w)
   else
    (k3 (decide (prio2 ≥ (256 : Int))) w))
set_option maxRecDepth 100000 in
theorem S.ready_lines_Line_ok (q1 : Option Addr) (prio2 : Int) (K : Sl → World → Prop) (w : World) (h : S.ready_lines_Line q1 prio2 K w) : C.ready_lines_Line q1 prio2 K w := by
  have e : fnV Try.prog Try.f17 (bodyOf Try.f17) (.t none (.u) (.t none (.t none (.r (some [(10, .c (.b))]) .done) (.t none (.t none (.u) (.u)) (.u))) (.t none (.u) (.u)))) [(0, .c (.s))] [.pointer q1, .int .i64 prio2] K w = S.ready_lines_Line q1 prio2 K w := by kernel_rfl
  exact okF_mk Try.func17 rfl (fn_sound names_ok follows_ok Try.func17 rfl (by kernel_rfl) (Eq.mpr e h))

/-- (*buttress/ready.Queue).Turn -/
def S.ready_Queue_Turn (q1 : Option Addr) (K : Bool → World → Prop) (w : World) : Prop :=
  ∃ a2 : Addr, q1 = some a2 ∧
   ∃ b3 : Int, w.cell? (a2.add 257) = some (.int .u64 b3) ∧
   ∃ b4 : Int, w.cell? ((a2.add 257).add 1) = some (.int .u64 b4) ∧
   ∃ b5 : Int, w.cell? ((a2.add 257).add 2) = some (.int .u64 b5) ∧
   ∃ b6 : Int, w.cell? ((a2.add 257).add 3) = some (.int .u64 b6) ∧
   C.words_Top b3 b4 b5 b6 (fun r7 w8 =>
   bif decide (r7 < (0 : Int)) then
    (K false w8)
   else
    (∃ a9 : Addr, q1 = some a9 ∧
   0 ≤ r7 ∧ r7 < (256 : Int) ∧
   ∃ t10 : Sl, w8.cell? (a9.add (r7.toNat * 1)) = some (.slice t10.a t10.len t10.cap) ∧
   Dr w8 fun w11 =>
   0 ≤ (1 : Int) ∧ (1 : Int) ≤ (t10.len : Int) ∧
   ∃ a12 : Addr, t10.a = some a12 ∧ 0 ≤ (0 : Int) ∧ (0 : Int) < (t10.len : Int) ∧
   ∃ a13 : Addr, q1 = some a13 ∧
   (C.slices_Clone_int_int ⟨slA t10.a ((1 : Int).toNat) t10.cap 1, t10.len - ((1 : Int).toNat), t10.cap - ((1 : Int).toNat)⟩ (fun r14 w15 =>
   ∃ t16 : Int, w15.cell? (a12.add ((0 : Int).toNat * 1)) = some (.int .i64 t16) ∧
   (Al w15 (.cells #[.int .i64 t16] 3) fun w17 =>
   (∃ (t18 : Sl) (w19 : World), AppR Try.prog [32, 32] 32 (.slice r14.a r14.len r14.cap) (.slice (some (Addr.mk w15.heap.size 0 none)) 1 1) w17 t18 w19 ∧
   0 ≤ r7 ∧ r7 < (256 : Int) ∧
   (St w19 (a13.add (r7.toNat * 1)) (.slice t18.a t18.len t18.cap) fun w20 =>
   K true w20) ∧
   True) ∧
   True) ∧
   True) w11) ∧
   (∃ t21 : Int, w11.cell? (a12.add ((0 : Int).toNat * 1)) = some (.int .i64 t21) ∧
   (C.slices_Clone_int_int ⟨slA t10.a ((1 : Int).toNat) t10.cap 1, t10.len - ((1 : Int).toNat), t10.cap - ((1 : Int).toNat)⟩ (fun r22 w23 =>
   (Al w23 (.cells #[.int .i64 t21] 3) fun w24 =>
   (∃ (t25 : Sl) (w26 : World), AppR Try.prog [32, 32] 32 (.slice r22.a r22.len r22.cap) (.slice (some (Addr.mk w23.heap.size 0 none)) 1 1) w24 t25 w26 ∧
   0 ≤ r7 ∧ r7 < (256 : Int) ∧
   (St w26 (a13.add (r7.toNat * 1)) (.slice t25.a t25.len t25.cap) fun w27 =>
   K true w27) ∧
   True) ∧
   True) ∧
   True) w11) ∧
   (Al w11 (.cells #[.int .i64 t21] 3) fun w28 =>
   (C.slices_Clone_int_int ⟨slA t10.a ((1 : Int).toNat) t10.cap 1, t10.len - ((1 : Int).toNat), t10.cap - ((1 : Int).toNat)⟩ (fun r29 w30 =>
   (∃ (t31 : Sl) (w32 : World), AppR Try.prog [32, 32] 32 (.slice r29.a r29.len r29.cap) (.slice (some (Addr.mk w11.heap.size 0 none)) 1 1) w30 t31 w32 ∧
   0 ≤ r7 ∧ r7 < (256 : Int) ∧
   (St w32 (a13.add (r7.toNat * 1)) (.slice t31.a t31.len t31.cap) fun w33 =>
   K true w33) ∧
   True) ∧
   True) w28) ∧
   True) ∧
   True) ∧
   True)) w
set_option maxRecDepth 100000 in
theorem S.ready_Queue_Turn_ok (q1 : Option Addr) (K : Bool → World → Prop) (w : World) (h : S.ready_Queue_Turn q1 K w) : C.ready_Queue_Turn q1 K w := by
  have e : fnV Try.prog Try.f18 (bodyOf Try.f18) (.t none (.u) (.t none (.u) (.t none (.t none (.u) (.t none (.t none (.u) (.u)) (.u))) (.t none (.u) (.t none (.r none (.one 0 1022 (.one 1 8188 (.one 2 7648 (.one 3 7648 (.one 5 7184 (.one 6 7184 (.one 10 912 (.one 11 912 (.one 12 912 (.alt 4 (.one 7 0 (.alt 8 (.alt 9 (.one 13 0 (.alt 14 (.done) (.none))) (.none)) (.none))) (.alt 7 (.alt 4 (.alt 8 (.alt 9 (.one 13 0 (.alt 14 (.done) (.none))) (.none)) (.none)) (.alt 8 (.alt 4 (.alt 9 (.one 13 0 (.alt 14 (.done) (.none))) (.none)) (.none)) (.none))) (.none))))))))))))) (.t none (.u) (.u))))))) [(0, .c (.b))] [.pointer q1] K w = S.ready_Queue_Turn q1 K w := by kernel_rfl
  exact okF_mk Try.func18 rfl (fn_sound names_ok follows_ok Try.func18 rfl (by kernel_rfl) (Eq.mpr e h))

/-- buttress/buttressref09.Nums -/
def S.ref09_Nums (a1 : Sl) (b2 : Sl) (K : Bool → World → Prop) (w : World) : Prop :=
  bif (a1.len : Int) != (b2.len : Int) then
    (K false w)
   else
    (∀ l3 : Int → World → Prop,
   (∀ (i4 : Int) (w5 : World), (bif decide (i4 < (a1.len : Int)) then
    (Dr w5 fun w6 =>
   ∃ a7 : Addr, a1.a = some a7 ∧ 0 ≤ i4 ∧ i4 < (a1.len : Int) ∧
   ∃ t8 : Int, w6.cell? (a7.add (i4.toNat * 1)) = some (.int .i64 t8) ∧
   ∃ a9 : Addr, b2.a = some a9 ∧ 0 ≤ i4 ∧ i4 < (b2.len : Int) ∧
   ∃ t10 : Int, w6.cell? (a9.add (i4.toNat * 1)) = some (.int .i64 t10) ∧
   bif t8 != t10 then
    (K false w6)
   else
    (l3 (IntKind.i64.wrap (i4 + (1 : Int))) w6))
   else
    (K true w5)) → l3 i4 w5) →
   l3 (0 : Int) w)
set_option maxRecDepth 100000 in
theorem S.ref09_Nums_ok (a1 : Sl) (b2 : Sl) (K : Bool → World → Prop) (w : World) (h : S.ref09_Nums a1 b2 K w) : C.ref09_Nums a1 b2 K w := by
  have e : fnV Try.prog Try.f19 (bodyOf Try.f19) (.t none (.u) (.t none (.t none (.u) (.t none (.t none (.u) (.u)) (.u))) (.t none (.t none (.u) (.t none (.t (some [(5, .c (.i .i64))]) (.t none (.t none (.u) (.t none (.u) (.u))) (.t none (.t none (.t none (.r none (.one 0 242 (.one 1 240 (.one 2 240 (.one 3 240 (.one 4 32 (.one 5 0 (.one 6 0 (.one 7 0 (.one 8 0 (.done))))))))))) (.t none (.t none (.u) (.u)) (.u))) (.u)) (.u))) (.u)) (.u))) (.t none (.u) (.u))))) [(0, .c (.b))] [.slice a1.a a1.len a1.cap, .slice b2.a b2.len b2.cap] K w = S.ref09_Nums a1 b2 K w := by kernel_rfl
  exact okF_mk Try.func19 rfl (fn_sound names_ok follows_ok Try.func19 rfl (by kernel_rfl) (Eq.mpr e h))

/-- (*buttress/ready.Queue).Copy -/
def S.ready_Queue_Copy (q1 : Option Addr) (K : Option Addr → World → Prop) (w : World) : Prop :=
  C.ready_New  (fun r2 w3 =>
   ∃ a4 : Addr, q1 = some a4 ∧
   ∃ by5 : Option Nat, w3.cell? (a4.add 256) = some (.map by5) ∧
   ∃ (it6 : Addr) (w7 : World), RangeR Try.prog 34 (.map by5) w3 it6 w7 ∧
   ∀ l8 : World → Prop,
   (∀ (w9 : World), (∃ (more10 : Bool) (l11 : List Value) (w12 : World), NextR Try.prog (.pointer (some it6)) false 0 w9 more10 l11 w12 ∧
   bif more10 then
    (∃ key13 : Int, ∃ val14 : Int, EntryR Try.prog (.pointer (some it6)) (.int .i64 key13) (.int .i64 val14) w12 ∧
   ∃ a15 : Addr, r2 = some a15 ∧
   ∃ by16 : Option Nat, w12.cell? (a15.add 256) = some (.map by16) ∧
   ∃ w17 : World, UpdR Try.prog 34 (.map by16) (.int .i64 key13) (.int .i64 val14) w12 w17 ∧
   l8 w17)
   else
    (∃ a18 : Addr, q1 = some a18 ∧
   ∃ l19 : Array Value, l19.size = 256 ∧ (∀ i20, i20 < 256 → w12.cell? (a18.add i20) = l19[i20]?) ∧
   ∀ l21 : Int → World → Prop,
   (∀ (t22 : Int) (w23 : World), (bif decide (t22 < (256 : Int)) then
    (0 ≤ t22 ∧ t22 < (256 : Int) ∧
   ∃ t24 : Sl, l19[t22.toNat * 1]? = some (.slice t24.a t24.len t24.cap) ∧
   Dr w23 fun w25 =>
   ∃ a26 : Addr, r2 = some a26 ∧
   (C.slices_Clone_int_int t24 (fun r27 w28 =>
   0 ≤ t22 ∧ t22 < (256 : Int) ∧
   (St w28 (a26.add (t22.toNat * 1)) (.slice r27.a r27.len r27.cap) fun w29 =>
   l21 (IntKind.i64.wrap (t22 + (1 : Int))) w29) ∧
   True) w25) ∧
   True)
   else
    (∃ a30 : Addr, q1 = some a30 ∧
   ∃ b31 : Int, w23.cell? (a30.add 257) = some (.int .u64 b31) ∧
   ∃ b32 : Int, w23.cell? ((a30.add 257).add 1) = some (.int .u64 b32) ∧
   ∃ b33 : Int, w23.cell? ((a30.add 257).add 2) = some (.int .u64 b33) ∧
   ∃ b34 : Int, w23.cell? ((a30.add 257).add 3) = some (.int .u64 b34) ∧
   ∃ a35 : Addr, r2 = some a35 ∧
   St w23 (a35.add 257) (.int .u64 b31) fun w36 =>
   St w36 ((a35.add 257).add 1) (.int .u64 b32) fun w37 =>
   St w37 ((a35.add 257).add 2) (.int .u64 b33) fun w38 =>
   St w38 ((a35.add 257).add 3) (.int .u64 b34) fun w39 =>
   K r2 w39)) → l21 t22 w23) →
   l21 (0 : Int) w12)) → l8 w9) →
   l8 w7) w
set_option maxRecDepth 100000 in
theorem S.ready_Queue_Copy_ok (q1 : Option Addr) (K : Option Addr → World → Prop) (w : World) (h : S.ready_Queue_Copy q1 K w) : C.ready_Queue_Copy q1 K w := by
  have e : fnV Try.prog Try.f20 (bodyOf Try.f20) (.t none (.u) (.t none (.u) (.t none (.t none (.u) (.t none (.t (some []) (.t none (.u) (.t none (.t none (.u) (.u)) (.t none (.t none (.u) (.u)) (.u)))) (.u)) (.u))) (.t none (.t none (.u) (.t none (.t (some [(32, .c (.i .i64))]) (.t none (.u) (.t none (.t none (.u) (.u)) (.t none (.t none (.t none (.u) (.r none (.one 0 14 (.one 1 124 (.one 2 112 (.one 4 8 (.one 5 8 (.one 6 8 (.alt 3 (.one 7 0 (.alt 8 (.done) (.none))) (.none)))))))))) (.u)) (.u)))) (.u)) (.u))) (.t none (.u) (.t none (.u) (.u))))))) [(0, .c (.p))] [.pointer q1] K w = S.ready_Queue_Copy q1 K w := by kernel_rfl
  exact okF_mk Try.func20 rfl (fn_sound names_ok follows_ok Try.func20 rfl (by kernel_rfl) (Eq.mpr e h))

/-- (*buttress/buttressref09.Queue).Put -/
def S.ref09_Queue_Put (q1 : Option Addr) (prio2 : Int) (n3 : Int) (K : Int → World → Prop) (w : World) : Prop :=
  ∀ k4 : Bool → World → Prop,
   (∀ (t5 : Bool) (w6 : World), (bif t5 then
    (K (1 : Int) w6)
   else
    (C.ref09_Queue_Where q1 n3 (fun r7 r8 w9 =>
   bif r8 then
    (K (90 : Int) w9)
   else
    (∃ a10 : Addr, q1 = some a10 ∧
   ∃ l11 : Sl, w9.cell? a10 = some (.slice l11.a l11.len l11.cap) ∧
   Al w9 (.cells #[.int .i64 prio2, .int .i64 n3] 63) fun w12 =>
   ∃ (t13 : Sl) (w14 : World), AppR Try.prog [53, 53] 53 (.slice l11.a l11.len l11.cap) (.slice (some (Addr.mk w9.heap.size 0 none)) 1 1) w12 t13 w14 ∧
   ∃ a15 : Addr, q1 = some a15 ∧
   St w14 a15 (.slice t13.a t13.len t13.cap) fun w16 =>
   K (0 : Int) w16)) w6)) → k4 t5 w6) →
   (bif decide (prio2 < (0 : Int)) then
    (k4 true w)
   else
    (k4 (decide (prio2 > (255 : Int))) w))
set_option maxRecDepth 100000 in
theorem S.ref09_Queue_Put_ok (q1 : Option Addr) (prio2 : Int) (n3 : Int) (K : Int → World → Prop) (w : World) (h : S.ref09_Queue_Put q1 prio2 n3 K w) : C.ref09_Queue_Put q1 prio2 n3 K w := by
  have e : fnV Try.prog Try.f21 (bodyOf Try.f21) (.t none (.u) (.t none (.t none (.r (some [(14, .c (.b))]) .done) (.t none (.t none (.u) (.u)) (.u))) (.t none (.u) (.t none (.t none (.u) (.t none (.t none (.u) (.u)) (.u))) (.t none (.u) (.t none (.u) (.u))))))) [(0, .c (.i .i64))] [.pointer q1, .int .i64 prio2, .int .i64 n3] K w = S.ref09_Queue_Put q1 prio2 n3 K w := by kernel_rfl
  exact okF_mk Try.func21 rfl (fn_sound names_ok follows_ok Try.func21 rfl (by kernel_rfl) (Eq.mpr e h))

/-- (*buttress/buttressref09.Queue).Take -/
def S.ref09_Queue_Take (q1 : Option Addr) (n2 : Int) (K : Int → World → Prop) (w : World) : Prop :=
  Al w (.cells #[] 63) fun w3 =>
   ∀ l4 : Sl → Int → World → Prop,
   (∀ (l5 : Sl) (i6 : Int) (w7 : World), (∃ a8 : Addr, q1 = some a8 ∧
   ∃ l9 : Sl, w7.cell? a8 = some (.slice l9.a l9.len l9.cap) ∧
   bif decide (i6 < (l9.len : Int)) then
    (∃ a10 : Addr, q1 = some a10 ∧
   ∃ l11 : Sl, w7.cell? a10 = some (.slice l11.a l11.len l11.cap) ∧
   ∃ a12 : Addr, l11.a = some a12 ∧ 0 ≤ i6 ∧ i6 < (l11.len : Int) ∧
   ∃ n13 : Int, w7.cell? ((a12.add (i6.toNat * 2)).add 1) = some (.int .i64 n13) ∧
   bif n13 != n2 then
    (∃ a14 : Addr, q1 = some a14 ∧
   ∃ l15 : Sl, w7.cell? a14 = some (.slice l15.a l15.len l15.cap) ∧
   ∃ a16 : Addr, l15.a = some a16 ∧ 0 ≤ i6 ∧ i6 < (l15.len : Int) ∧
   ∃ t17 : Int, w7.cell? (a16.add (i6.toNat * 2)) = some (.int .i64 t17) ∧
   ∃ t18 : Int, w7.cell? ((a16.add (i6.toNat * 2)).add 1) = some (.int .i64 t18) ∧
   Al w7 (.cells #[.int .i64 t17, .int .i64 t18] 63) fun w19 =>
   ∃ (t20 : Sl) (w21 : World), AppR Try.prog [53, 53] 53 (.slice l5.a l5.len l5.cap) (.slice (some (Addr.mk w7.heap.size 0 none)) 1 1) w19 t20 w21 ∧
   l4 t20 (IntKind.i64.wrap (i6 + (1 : Int))) w21)
   else
    (l4 l5 (IntKind.i64.wrap (i6 + (1 : Int))) w7))
   else
    (∃ a22 : Addr, q1 = some a22 ∧
   ∃ l23 : Sl, w7.cell? a22 = some (.slice l23.a l23.len l23.cap) ∧
   bif (l5.len : Int) == (l23.len : Int) then
    (K (91 : Int) w7)
   else
    (∃ a24 : Addr, q1 = some a24 ∧
   St w7 a24 (.slice l5.a l5.len l5.cap) fun w25 =>
   K (0 : Int) w25))) → l4 l5 i6 w7) →
   l4 ⟨some (Addr.mk w.heap.size 0 none), 0, 0⟩ (0 : Int) w3
set_option maxRecDepth 100000 in
theorem S.ref09_Queue_Take_ok (q1 : Option Addr) (n2 : Int) (K : Int → World → Prop) (w : World) (h : S.ref09_Queue_Take q1 n2 K w) : C.ref09_Queue_Take q1 n2 K w := by
  have e : fnV Try.prog Try.f22 (bodyOf Try.f22) (.t none (.u) (.t none (.u) (.t none (.t none (.u) (.t none (.t (some [(5, .c (.s)), (6, .c (.i .i64))]) (.t none (.t none (.u) (.t none (.u) (.u))) (.t none (.t none (.t none (.u) (.t none (.u) (.u))) (.u)) (.u))) (.u)) (.u))) (.t none (.t none (.u) (.t none (.t none (.u) (.u)) (.u))) (.t none (.u) (.t none (.u) (.u))))))) [(0, .c (.i .i64))] [.pointer q1, .int .i64 n2] K w = S.ref09_Queue_Take q1 n2 K w := by kernel_rfl
  exact okF_mk Try.func22 rfl (fn_sound names_ok follows_ok Try.func22 rfl (by kernel_rfl) (Eq.mpr e h))

/-- (*buttress/buttressref09.Queue).Turn -/
def S.ref09_Queue_Turn (q1 : Option Addr) (K : Bool → World → Prop) (w : World) : Prop :=
  C.ref09_Queue_Next q1 (fun r2 r3 w4 =>
   bif !r3 then
    (K false w4)
   else
    (C.ref09_Queue_Where q1 r2 (fun r5 r6 w7 =>
   C.ref09_Queue_Take q1 r2 (fun r8 w9 =>
   C.ref09_Queue_Put q1 r5 r2 (fun r10 w11 =>
   K true w11) w9) w7) w4)) w
set_option maxRecDepth 100000 in
theorem S.ref09_Queue_Turn_ok (q1 : Option Addr) (K : Bool → World → Prop) (w : World) (h : S.ref09_Queue_Turn q1 K w) : C.ref09_Queue_Turn q1 K w := by
  have e : fnV Try.prog Try.f23 (bodyOf Try.f23) (.t none (.u) (.t none (.u) (.t none (.t none (.u) (.t none (.t none (.u) (.u)) (.u))) (.t none (.u) (.t none (.u) (.t none (.u) (.t none (.u) (.u)))))))) [(0, .c (.b))] [.pointer q1] K w = S.ref09_Queue_Turn q1 K w := by kernel_rfl
  exact okF_mk Try.func23 rfl (fn_sound names_ok follows_ok Try.func23 rfl (by kernel_rfl) (Eq.mpr e h))

/-- (*buttress/buttressref09.Queue).Next -/
def S.ref09_Queue_Next (q1 : Option Addr) (K : Int → Bool → World → Prop) (w : World) : Prop :=
  ∀ l2 : Int → World → Prop,
   (∀ (prio3 : Int) (w4 : World), (bif decide (prio3 ≥ (0 : Int)) then
    (C.ref09_Queue_Line q1 prio3 (fun r5 w6 =>
   bif decide ((r5.len : Int) > (0 : Int)) then
    (∃ a7 : Addr, r5.a = some a7 ∧ 0 ≤ (0 : Int) ∧ (0 : Int) < (r5.len : Int) ∧
   ∃ t8 : Int, w6.cell? (a7.add ((0 : Int).toNat * 1)) = some (.int .i64 t8) ∧
   K t8 true w6)
   else
    (l2 (IntKind.i64.wrap (prio3 - (1 : Int))) w6)) w4)
   else
    (K (0 : Int) false w4)) → l2 prio3 w4) →
   l2 (255 : Int) w
set_option maxRecDepth 100000 in
theorem S.ref09_Queue_Next_ok (q1 : Option Addr) (K : Int → Bool → World → Prop) (w : World) (h : S.ref09_Queue_Next q1 K w) : C.ref09_Queue_Next q1 K w := by
  have e : fnV Try.prog Try.f24 (bodyOf Try.f24) (.t none (.u) (.t none (.t none (.u) (.t none (.t (some [(4, .c (.i .i64))]) (.t none (.t none (.u) (.t none (.u) (.u))) (.t none (.t none (.t none (.u) (.t none (.u) (.t none (.t none (.u) (.u)) (.u)))) (.u)) (.u))) (.u)) (.u))) (.t none (.u) (.u)))) [(0, .c (.i .i64)), (1, .c (.b))] [.pointer q1] K w = S.ref09_Queue_Next q1 K w := by kernel_rfl
  exact okF_mk Try.func24 rfl (fn_sound names_ok follows_ok Try.func24 rfl (by kernel_rfl) (Eq.mpr e h))

/-- (*buttress/buttressref09.Queue).Where -/
def S.ref09_Queue_Where (q1 : Option Addr) (n2 : Int) (K : Int → Bool → World → Prop) (w : World) : Prop :=
  ∀ l3 : Int → World → Prop,
   (∀ (i4 : Int) (w5 : World), (∃ a6 : Addr, q1 = some a6 ∧
   ∃ l7 : Sl, w5.cell? a6 = some (.slice l7.a l7.len l7.cap) ∧
   bif decide (i4 < (l7.len : Int)) then
    (∃ a8 : Addr, q1 = some a8 ∧
   ∃ l9 : Sl, w5.cell? a8 = some (.slice l9.a l9.len l9.cap) ∧
   ∃ a10 : Addr, l9.a = some a10 ∧ 0 ≤ i4 ∧ i4 < (l9.len : Int) ∧
   ∃ n11 : Int, w5.cell? ((a10.add (i4.toNat * 2)).add 1) = some (.int .i64 n11) ∧
   bif n11 == n2 then
    (∃ a12 : Addr, q1 = some a12 ∧
   ∃ l13 : Sl, w5.cell? a12 = some (.slice l13.a l13.len l13.cap) ∧
   ∃ a14 : Addr, l13.a = some a14 ∧ 0 ≤ i4 ∧ i4 < (l13.len : Int) ∧
   ∃ prio15 : Int, w5.cell? (a14.add (i4.toNat * 2)) = some (.int .i64 prio15) ∧
   K prio15 true w5)
   else
    (l3 (IntKind.i64.wrap (i4 + (1 : Int))) w5))
   else
    (K (0 : Int) false w5)) → l3 i4 w5) →
   l3 (0 : Int) w
set_option maxRecDepth 100000 in
theorem S.ref09_Queue_Where_ok (q1 : Option Addr) (n2 : Int) (K : Int → Bool → World → Prop) (w : World) (h : S.ref09_Queue_Where q1 n2 K w) : C.ref09_Queue_Where q1 n2 K w := by
  have e : fnV Try.prog Try.f25 (bodyOf Try.f25) (.t none (.u) (.t none (.t none (.u) (.t none (.t (some [(6, .c (.i .i64))]) (.t none (.t none (.u) (.t none (.u) (.u))) (.t none (.t none (.t none (.u) (.t none (.t none (.u) (.u)) (.u))) (.u)) (.u))) (.u)) (.u))) (.t none (.u) (.u)))) [(0, .c (.i .i64)), (1, .c (.b))] [.pointer q1, .int .i64 n2] K w = S.ref09_Queue_Where q1 n2 K w := by kernel_rfl
  exact okF_mk Try.func25 rfl (fn_sound names_ok follows_ok Try.func25 rfl (by kernel_rfl) (Eq.mpr e h))

/-- (*buttress/buttressref09.Queue).Line -/
def S.ref09_Queue_Line (q1 : Option Addr) (prio2 : Int) (K : Sl → World → Prop) (w : World) : Prop :=
  Al w (.cells #[] 3) fun w3 =>
   ∀ l4 : Sl → Int → World → Prop,
   (∀ (out5 : Sl) (i6 : Int) (w7 : World), (∃ a8 : Addr, q1 = some a8 ∧
   ∃ l9 : Sl, w7.cell? a8 = some (.slice l9.a l9.len l9.cap) ∧
   bif decide (i6 < (l9.len : Int)) then
    (∃ a10 : Addr, q1 = some a10 ∧
   ∃ l11 : Sl, w7.cell? a10 = some (.slice l11.a l11.len l11.cap) ∧
   ∃ a12 : Addr, l11.a = some a12 ∧ 0 ≤ i6 ∧ i6 < (l11.len : Int) ∧
   ∃ prio13 : Int, w7.cell? (a12.add (i6.toNat * 2)) = some (.int .i64 prio13) ∧
   bif prio13 == prio2 then
    (∃ a14 : Addr, q1 = some a14 ∧
   ∃ l15 : Sl, w7.cell? a14 = some (.slice l15.a l15.len l15.cap) ∧
   ∃ a16 : Addr, l15.a = some a16 ∧ 0 ≤ i6 ∧ i6 < (l15.len : Int) ∧
   ∃ n17 : Int, w7.cell? ((a16.add (i6.toNat * 2)).add 1) = some (.int .i64 n17) ∧
   Al w7 (.cells #[.int .i64 n17] 3) fun w18 =>
   ∃ (t19 : Sl) (w20 : World), AppR Try.prog [32, 32] 32 (.slice out5.a out5.len out5.cap) (.slice (some (Addr.mk w7.heap.size 0 none)) 1 1) w18 t19 w20 ∧
   l4 t19 (IntKind.i64.wrap (i6 + (1 : Int))) w20)
   else
    (l4 out5 (IntKind.i64.wrap (i6 + (1 : Int))) w7))
   else
    (K out5 w7)) → l4 out5 i6 w7) →
   l4 ⟨some (Addr.mk w.heap.size 0 none), 0, 0⟩ (0 : Int) w3
set_option maxRecDepth 100000 in
theorem S.ref09_Queue_Line_ok (q1 : Option Addr) (prio2 : Int) (K : Sl → World → Prop) (w : World) (h : S.ref09_Queue_Line q1 prio2 K w) : C.ref09_Queue_Line q1 prio2 K w := by
  have e : fnV Try.prog Try.f26 (bodyOf Try.f26) (.t none (.u) (.t none (.u) (.t none (.t none (.u) (.t none (.t (some [(5, .c (.s)), (6, .c (.i .i64))]) (.t none (.t none (.u) (.t none (.u) (.u))) (.t none (.t none (.t none (.u) (.t none (.u) (.u))) (.u)) (.u))) (.u)) (.u))) (.t none (.u) (.u))))) [(0, .c (.s))] [.pointer q1, .int .i64 prio2] K w = S.ref09_Queue_Line q1 prio2 K w := by kernel_rfl
  exact okF_mk Try.func26 rfl (fn_sound names_ok follows_ok Try.func26 rfl (by kernel_rfl) (Eq.mpr e h))

/-- (*buttress/buttressref09.Queue).Bits -/
def S.ref09_Queue_Bits (q1 : Option Addr) (K : Int → Int → Int → Int → World → Prop) (w : World) : Prop :=
  Al w (.cells #[.int .u64 (0 : Int), .int .u64 (0 : Int), .int .u64 (0 : Int), .int .u64 (0 : Int)] 37) fun w2 =>
   Al w2 (.cells #[.int .u64 (0 : Int), .int .u64 (0 : Int), .int .u64 (0 : Int), .int .u64 (0 : Int)] 37) fun w3 =>
   St w3 (Addr.mk w2.heap.size 0 none) (.int .u64 (0 : Int)) fun w4 =>
   St w4 ((Addr.mk w2.heap.size 0 none).add 1) (.int .u64 (0 : Int)) fun w5 =>
   St w5 ((Addr.mk w2.heap.size 0 none).add 2) (.int .u64 (0 : Int)) fun w6 =>
   St w6 ((Addr.mk w2.heap.size 0 none).add 3) (.int .u64 (0 : Int)) fun w7 =>
   ∀ l8 : Int → World → Prop,
   (∀ (i9 : Int) (w10 : World), (∃ a11 : Addr, q1 = some a11 ∧
   ∃ l12 : Sl, w10.cell? a11 = some (.slice l12.a l12.len l12.cap) ∧
   bif decide (i9 < (l12.len : Int)) then
    (Dr w10 fun w13 =>
   ∃ t14 : Int, w13.cell? (Addr.mk w2.heap.size 0 none) = some (.int .u64 t14) ∧
   ∃ t15 : Int, w13.cell? ((Addr.mk w2.heap.size 0 none).add 1) = some (.int .u64 t15) ∧
   ∃ t16 : Int, w13.cell? ((Addr.mk w2.heap.size 0 none).add 2) = some (.int .u64 t16) ∧
   ∃ t17 : Int, w13.cell? ((Addr.mk w2.heap.size 0 none).add 3) = some (.int .u64 t17) ∧
   ∃ a18 : Addr, q1 = some a18 ∧
   ∃ l19 : Sl, w13.cell? a18 = some (.slice l19.a l19.len l19.cap) ∧
   ∃ a20 : Addr, l19.a = some a20 ∧ 0 ≤ i9 ∧ i9 < (l19.len : Int) ∧
   ∃ prio21 : Int, w13.cell? (a20.add (i9.toNat * 2)) = some (.int .i64 prio21) ∧
   (C.ref01_Set t14 t15 t16 t17 prio21 true (fun r22 r23 r24 r25 r26 w27 =>
   (St w27 (Addr.mk w2.heap.size 0 none) (.int .u64 r22) fun w28 =>
   St w28 ((Addr.mk w2.heap.size 0 none).add 1) (.int .u64 r23) fun w29 =>
   St w29 ((Addr.mk w2.heap.size 0 none).add 2) (.int .u64 r24) fun w30 =>
   St w30 ((Addr.mk w2.heap.size 0 none).add 3) (.int .u64 r25) fun w31 =>
   l8 (IntKind.i64.wrap (i9 + (1 : Int))) w31) ∧
   True) w13) ∧
   True)
   else
    (∃ t32 : Int, w10.cell? (Addr.mk w2.heap.size 0 none) = some (.int .u64 t32) ∧
   ∃ t33 : Int, w10.cell? ((Addr.mk w2.heap.size 0 none).add 1) = some (.int .u64 t33) ∧
   ∃ t34 : Int, w10.cell? ((Addr.mk w2.heap.size 0 none).add 2) = some (.int .u64 t34) ∧
   ∃ t35 : Int, w10.cell? ((Addr.mk w2.heap.size 0 none).add 3) = some (.int .u64 t35) ∧
   St w10 (Addr.mk w.heap.size 0 none) (.int .u64 t32) fun w36 =>
   St w36 ((Addr.mk w.heap.size 0 none).add 1) (.int .u64 t33) fun w37 =>
   St w37 ((Addr.mk w.heap.size 0 none).add 2) (.int .u64 t34) fun w38 =>
   St w38 ((Addr.mk w.heap.size 0 none).add 3) (.int .u64 t35) fun w39 =>
   ∃ r40 : Int, w39.cell? (Addr.mk w.heap.size 0 none) = some (.int .u64 r40) ∧
   ∃ r41 : Int, w39.cell? ((Addr.mk w.heap.size 0 none).add 1) = some (.int .u64 r41) ∧
   ∃ r42 : Int, w39.cell? ((Addr.mk w.heap.size 0 none).add 2) = some (.int .u64 r42) ∧
   ∃ r43 : Int, w39.cell? ((Addr.mk w.heap.size 0 none).add 3) = some (.int .u64 r43) ∧
   K r40 r41 r42 r43 w39)) → l8 i9 w10) →
   l8 (0 : Int) w7
set_option maxRecDepth 100000 in
theorem S.ref09_Queue_Bits_ok (q1 : Option Addr) (K : Int → Int → Int → Int → World → Prop) (w : World) (h : S.ref09_Queue_Bits q1 K w) : C.ref09_Queue_Bits q1 K w := by
  have e : fnV Try.prog Try.f27 (bodyOf Try.f27) (.t none (.u) (.t none (.u) (.t none (.t none (.u) (.t none (.t (some [(4, .c (.i .i64))]) (.t none (.t none (.u) (.t none (.u) (.u))) (.t none (.t none (.r none (.one 0 510 (.one 1 32 (.one 2 32 (.one 3 32 (.one 4 32 (.one 5 0 (.one 6 0 (.one 7 0 (.one 8 0 (.alt 9 (.one 10 0 (.one 11 4096 (.one 12 8192 (.alt 13 (.done) (.none))))) (.none)))))))))))) (.u)) (.u))) (.u)) (.u))) (.t none (.u) (.u))))) [(0, .a [.i .u64, .i .u64, .i .u64, .i .u64])] [.pointer q1] K w = S.ref09_Queue_Bits q1 K w := by kernel_rfl
  exact okF_mk Try.func27 rfl (fn_sound names_ok follows_ok Try.func27 rfl (by kernel_rfl) (Eq.mpr e h))

/-- (*buttress/ready.lines).note -/
def S.ready_lines_note (q1 : Option Addr) (prio2 : Int) (K : World → Prop) (w : World) : Prop :=
  Dr w fun w3 =>
   ∃ a4 : Addr, q1 = some a4 ∧
   ∃ b5 : Int, w3.cell? (a4.add 257) = some (.int .u64 b5) ∧
   ∃ b6 : Int, w3.cell? ((a4.add 257).add 1) = some (.int .u64 b6) ∧
   ∃ b7 : Int, w3.cell? ((a4.add 257).add 2) = some (.int .u64 b7) ∧
   ∃ b8 : Int, w3.cell? ((a4.add 257).add 3) = some (.int .u64 b8) ∧
   ∃ a9 : Addr, q1 = some a9 ∧
   0 ≤ prio2 ∧ prio2 < (256 : Int) ∧
   ∃ t10 : Sl, w3.cell? (a9.add (prio2.toNat * 1)) = some (.slice t10.a t10.len t10.cap) ∧
   (C.words_Set b5 b6 b7 b8 prio2 (decide ((t10.len : Int) > (0 : Int))) (fun r11 r12 r13 r14 r15 w16 =>
   ∃ a17 : Addr, q1 = some a17 ∧
   (St w16 (a17.add 257) (.int .u64 r11) fun w18 =>
   St w18 ((a17.add 257).add 1) (.int .u64 r12) fun w19 =>
   St w19 ((a17.add 257).add 2) (.int .u64 r13) fun w20 =>
   St w20 ((a17.add 257).add 3) (.int .u64 r14) fun w21 =>
   K w21) ∧
   True) w3) ∧
   True
set_option maxRecDepth 100000 in
theorem S.ready_lines_note_ok (q1 : Option Addr) (prio2 : Int) (K : World → Prop) (w : World) (h : S.ready_lines_note q1 prio2 K w) : C.ready_lines_note q1 prio2 K w := by
  have e : fnV Try.prog Try.f28 (bodyOf Try.f28) (.r none (.one 0 262142 (.one 1 16352 (.one 2 16352 (.one 3 16352 (.one 4 16352 (.one 5 16320 (.one 6 128 (.one 7 768 (.one 8 0 (.one 9 0 (.one 10 0 (.one 11 0 (.one 12 0 (.one 13 0 (.alt 14 (.one 15 0 (.one 16 131072 (.one 17 1835008 (.one 18 0 (.one 19 0 (.alt 20 (.done) (.none))))))) (.none))))))))))))))))) [] [.pointer q1, .int .i64 prio2] K w = S.ready_lines_note q1 prio2 K w := by kernel_rfl
  exact okF_mk Try.func28 rfl (fn_sound names_ok follows_ok Try.func28 rfl (by kernel_rfl) (Eq.mpr e h))

/-- buttress/words.Top -/
def S.words_Top (b1 : Int) (b2 : Int) (b3 : Int) (b4 : Int) (K : Int → World → Prop) (w : World) : Prop :=
  Al w (.cells #[.int .u64 b1, .int .u64 b2, .int .u64 b3, .int .u64 b4] 37) fun w5 =>
   ∀ l6 : Int → World → Prop,
   (∀ (t7 : Int) (w8 : World), (bif decide (t7 < (4 : Int)) then
    (0 ≤ IntKind.i64.wrap ((3 : Int) - t7) ∧ IntKind.i64.wrap ((3 : Int) - t7) < (4 : Int) ∧
   ∃ t9 : Int, w8.cell? ((Addr.mk w.heap.size 0 none).add ((IntKind.i64.wrap ((3 : Int) - t7)).toNat * 1)) = some (.int .u64 t9) ∧
   bif t9 != (0 : Int) then
    (0 ≤ IntKind.i64.wrap ((3 : Int) - t7) ∧ IntKind.i64.wrap ((3 : Int) - t7) < (4 : Int) ∧
   ∃ t10 : Int, w8.cell? ((Addr.mk w.heap.size 0 none).add ((IntKind.i64.wrap ((3 : Int) - t7)).toNat * 1)) = some (.int .u64 t10) ∧
   C.math_bits_Len64 t10 (fun r11 w12 =>
   K (IntKind.i64.wrap ((IntKind.i64.wrap ((IntKind.i64.wrap ((IntKind.i64.wrap ((3 : Int) - t7)) * (64 : Int))) + r11)) - (1 : Int))) w12) w8)
   else
    (l6 (IntKind.i64.wrap (t7 + (1 : Int))) w8))
   else
    (K (-1 : Int) w8)) → l6 t7 w8) →
   l6 (0 : Int) w5
set_option maxRecDepth 100000 in
theorem S.words_Top_ok (b1 : Int) (b2 : Int) (b3 : Int) (b4 : Int) (K : Int → World → Prop) (w : World) (h : S.words_Top b1 b2 b3 b4 K w) : C.words_Top b1 b2 b3 b4 K w := by
  have e : fnV Try.prog Try.f29 (bodyOf Try.f29) (.t none (.u) (.t none (.t none (.u) (.t none (.t (some [(5, .c (.i .i64))]) (.t none (.u) (.t none (.t none (.u) (.u)) (.t none (.t none (.t none (.u) (.t none (.u) (.t none (.u) (.t none (.t none (.u) (.u)) (.u))))) (.u)) (.u)))) (.u)) (.u))) (.t none (.u) (.u)))) [(0, .c (.i .i64))] [.agg #[.int .u64 b1, .int .u64 b2, .int .u64 b3, .int .u64 b4]] K w = S.words_Top b1 b2 b3 b4 K w := by kernel_rfl
  exact okF_mk Try.func29 rfl (fn_sound names_ok follows_ok Try.func29 rfl (by kernel_rfl) (Eq.mpr e h))

/-- slices.DeleteFunc[[]int,int] -/
def S.slices_DeleteFunc_int_int (s1 : Sl) (del2 : Value) (K : Sl → World → Prop) (w : World) : Prop :=
  C.slices_IndexFunc_int_int s1 del2 (fun r3 w4 =>
   bif r3 == (-1 : Int) then
    (K s1 w4)
   else
    (∀ l5 : Int → Int → World → Prop,
   (∀ (i6 : Int) (j7 : Int) (w8 : World), (bif decide (j7 < (s1.len : Int)) then
    (∃ a9 : Addr, s1.a = some a9 ∧ 0 ≤ j7 ∧ j7 < (s1.len : Int) ∧
   ∃ t10 : Int, w8.cell? (a9.add (j7.toNat * 1)) = some (.int .i64 t10) ∧
   CallV Try.prog (del2) [.int .i64 t10] w8 fun enw12 w12 => ∃ r11 : Bool, enw12 = .returned (.bool r11) ∧
   bif !r11 then
    (∃ a13 : Addr, s1.a = some a13 ∧ 0 ≤ i6 ∧ i6 < (s1.len : Int) ∧
   St w12 (a13.add (i6.toNat * 1)) (.int .i64 t10) fun w14 =>
   l5 (IntKind.i64.wrap (i6 + (1 : Int))) (IntKind.i64.wrap (j7 + (1 : Int))) w14)
   else
    (l5 i6 (IntKind.i64.wrap (j7 + (1 : Int))) w12))
   else
    (0 ≤ i6 ∧ i6 ≤ (s1.len : Int) ∧
   ∃ w15 : World, ClearR Try.prog [32] 0 (.slice (slA s1.a i6.toNat s1.cap 1) (s1.len - i6.toNat) (s1.cap - i6.toNat)) w8 w15 ∧
   0 ≤ i6 ∧ i6 ≤ (s1.cap : Int) ∧
   K ⟨slA s1.a 0 s1.cap 1, i6.toNat - 0, s1.cap - 0⟩ w15)) → l5 i6 j7 w8) →
   l5 r3 (IntKind.i64.wrap (r3 + (1 : Int))) w4)) w
set_option maxRecDepth 100000 in
theorem S.slices_DeleteFunc_int_int_ok (s1 : Sl) (del2 : Value) (K : Sl → World → Prop) (w : World) (h : S.slices_DeleteFunc_int_int s1 del2 K w) : C.slices_DeleteFunc_int_int s1 del2 K w := by
  have e : fnV Try.prog Try.f30 (bodyOf Try.f30) (.t none (.u) (.t none (.u) (.t none (.t none (.u) (.t none (.t none (.u) (.u)) (.u))) (.t none (.t none (.u) (.t none (.t (some [(5, .c (.i .i64)), (6, .c (.i .i64))]) (.t none (.t none (.u) (.t none (.u) (.u))) (.t none (.t none (.t none (.u) (.t none (.u) (.t none (.t none (.u) (.u)) (.u)))) (.u)) (.u))) (.u)) (.u))) (.t none (.u) (.t none (.u) (.u))))))) [(0, .c (.s))] [.slice s1.a s1.len s1.cap, del2] K w = S.slices_DeleteFunc_int_int s1 del2 K w := by kernel_rfl
  exact okF_mk Try.func30 rfl (fn_sound names_ok follows_ok Try.func30 rfl (by kernel_rfl) (Eq.mpr e h))

/-- (*buttress/ready.Queue).Take$1 -/
def S.ready_Queue_Take_1 (x1 : Int) (t2 : Addr) (K : Bool → World → Prop) (w : World) : Prop :=
  ∃ t3 : Int, w.cell? t2 = some (.int .i64 t3) ∧
   K (x1 == t3) w
set_option maxRecDepth 100000 in
theorem S.ready_Queue_Take_1_ok (x1 : Int) (t2 : Addr) (K : Bool → World → Prop) (w : World) (h : S.ready_Queue_Take_1 x1 t2 K w) : C.ready_Queue_Take_1 x1 t2 K w := by
  have e : fnV Try.prog Try.f31 (bodyOf Try.f31) (.t none (.u) (.t none (.u) (.u))) [(0, .c (.b))] [.int .i64 x1, .pointer (some t2)] K w = S.ready_Queue_Take_1 x1 t2 K w := by kernel_rfl
  exact okF_mk Try.func31 rfl (fn_sound names_ok follows_ok Try.func31 rfl (by kernel_rfl) (Eq.mpr e h))

/-- slices.Clone[[]int,int] -/
def S.slices_Clone_int_int (s1 : Sl) (K : Sl → World → Prop) (w : World) : Prop :=
  bif s1.a.isNone then
    (K ⟨none, 0, 0⟩ w)
   else
    (Al w (.cells #[] 3) fun w2 =>
   ∃ (t3 : Sl) (w4 : World), AppR Try.prog [32, 32] 32 (.slice (some (Addr.mk w.heap.size 0 none)) 0 0) (.slice s1.a s1.len s1.cap) w2 t3 w4 ∧
   K t3 w4)
set_option maxRecDepth 100000 in
theorem S.slices_Clone_int_int_ok (s1 : Sl) (K : Sl → World → Prop) (w : World) (h : S.slices_Clone_int_int s1 K w) : C.slices_Clone_int_int s1 K w := by
  have e : fnV Try.prog Try.f32 (bodyOf Try.f32) (.t none (.u) (.t none (.t none (.u) (.t none (.t none (.u) (.u)) (.u))) (.t none (.u) (.u)))) [(0, .c (.s))] [.slice s1.a s1.len s1.cap] K w = S.slices_Clone_int_int s1 K w := by kernel_rfl
  exact okF_mk Try.func32 rfl (fn_sound names_ok follows_ok Try.func32 rfl (by kernel_rfl) (Eq.mpr e h))

/-- buttress/buttressref01.Set -/
def S.ref01_Set (b1 : Int) (b2 : Int) (b3 : Int) (b4 : Int) (n5 : Int) (is6 : Bool) (K : Int → Int → Int → Int → Int → World → Prop) (w : World) : Prop :=
  Al w (.cells #[.int .u64 b1, .int .u64 b2, .int .u64 b3, .int .u64 b4] 37) fun w7 =>
   Al w7 (.cells #[.int .u64 (0 : Int), .int .u64 (0 : Int), .int .u64 (0 : Int), .int .u64 (0 : Int)] 37) fun w8 =>
   ∀ k9 : Bool → World → Prop,
   (∀ (t10 : Bool) (w11 : World), (bif t10 then
    (St w11 (Addr.mk w7.heap.size 0 none) (.int .u64 (0 : Int)) fun w12 =>
   St w12 ((Addr.mk w7.heap.size 0 none).add 1) (.int .u64 (0 : Int)) fun w13 =>
   St w13 ((Addr.mk w7.heap.size 0 none).add 2) (.int .u64 (0 : Int)) fun w14 =>
   St w14 ((Addr.mk w7.heap.size 0 none).add 3) (.int .u64 (0 : Int)) fun w15 =>
   ∃ r16 : Int, w15.cell? (Addr.mk w7.heap.size 0 none) = some (.int .u64 r16) ∧
   ∃ r17 : Int, w15.cell? ((Addr.mk w7.heap.size 0 none).add 1) = some (.int .u64 r17) ∧
   ∃ r18 : Int, w15.cell? ((Addr.mk w7.heap.size 0 none).add 2) = some (.int .u64 r18) ∧
   ∃ r19 : Int, w15.cell? ((Addr.mk w7.heap.size 0 none).add 3) = some (.int .u64 r19) ∧
   K r16 r17 r18 r19 (1 : Int) w15)
   else
    (∃ t20 : Int, w11.cell? (Addr.mk w.heap.size 0 none) = some (.int .u64 t20) ∧
   ∃ t21 : Int, w11.cell? ((Addr.mk w.heap.size 0 none).add 1) = some (.int .u64 t21) ∧
   ∃ t22 : Int, w11.cell? ((Addr.mk w.heap.size 0 none).add 2) = some (.int .u64 t22) ∧
   ∃ t23 : Int, w11.cell? ((Addr.mk w.heap.size 0 none).add 3) = some (.int .u64 t23) ∧
   Al w11 (.cells #[.int .u64 (0 : Int), .int .u64 (0 : Int), .int .u64 (0 : Int), .int .u64 (0 : Int)] 37) fun w24 =>
   St w24 (Addr.mk w11.heap.size 0 none) (.int .u64 t20) fun w25 =>
   St w25 ((Addr.mk w11.heap.size 0 none).add 1) (.int .u64 t21) fun w26 =>
   St w26 ((Addr.mk w11.heap.size 0 none).add 2) (.int .u64 t22) fun w27 =>
   St w27 ((Addr.mk w11.heap.size 0 none).add 3) (.int .u64 t23) fun w28 =>
   ∀ k29 : Bool → World → Prop,
   (∀ (t30 : Bool) (w31 : World), (∀ k32 : World → Prop,
   (∀ (w33 : World), (∀ k34 : Bool → World → Prop,
   (∀ (t35 : Bool) (w36 : World), (bif t35 then
    (Dr w36 fun w37 =>
   (64 : Int) ≠ 0 ∧
   (64 : Int) ≠ 0 ∧
   0 ≤ IntKind.i64.wrap (n5.tdiv (64 : Int)) ∧ IntKind.i64.wrap (n5.tdiv (64 : Int)) < (4 : Int) ∧
   (64 : Int) ≠ 0 ∧
   (∃ t38 : Int, w37.cell? ((Addr.mk w.heap.size 0 none).add ((IntKind.i64.wrap (n5.tdiv (64 : Int))).toNat * 1)) = some (.int .u64 t38) ∧
   (C.ref01_Two (n5.tmod (64 : Int)) (fun r39 w40 =>
   0 ≤ IntKind.i64.wrap (n5.tdiv (64 : Int)) ∧ IntKind.i64.wrap (n5.tdiv (64 : Int)) < (4 : Int) ∧
   (St w40 ((Addr.mk w11.heap.size 0 none).add ((IntKind.i64.wrap (n5.tdiv (64 : Int))).toNat * 1)) (.int .u64 (IntKind.u64.wrap (t38 - r39))) fun w41 =>
   ∃ t42 : Int, w41.cell? (Addr.mk w11.heap.size 0 none) = some (.int .u64 t42) ∧
   ∃ t43 : Int, w41.cell? ((Addr.mk w11.heap.size 0 none).add 1) = some (.int .u64 t43) ∧
   ∃ t44 : Int, w41.cell? ((Addr.mk w11.heap.size 0 none).add 2) = some (.int .u64 t44) ∧
   ∃ t45 : Int, w41.cell? ((Addr.mk w11.heap.size 0 none).add 3) = some (.int .u64 t45) ∧
   St w41 (Addr.mk w7.heap.size 0 none) (.int .u64 t42) fun w46 =>
   St w46 ((Addr.mk w7.heap.size 0 none).add 1) (.int .u64 t43) fun w47 =>
   St w47 ((Addr.mk w7.heap.size 0 none).add 2) (.int .u64 t44) fun w48 =>
   St w48 ((Addr.mk w7.heap.size 0 none).add 3) (.int .u64 t45) fun w49 =>
   ∃ r50 : Int, w49.cell? (Addr.mk w7.heap.size 0 none) = some (.int .u64 r50) ∧
   ∃ r51 : Int, w49.cell? ((Addr.mk w7.heap.size 0 none).add 1) = some (.int .u64 r51) ∧
   ∃ r52 : Int, w49.cell? ((Addr.mk w7.heap.size 0 none).add 2) = some (.int .u64 r52) ∧
   ∃ r53 : Int, w49.cell? ((Addr.mk w7.heap.size 0 none).add 3) = some (.int .u64 r53) ∧
   K r50 r51 r52 r53 (0 : Int) w49) ∧
   True) w37) ∧
   True) ∧
   (C.ref01_Two (n5.tmod (64 : Int)) (fun r54 w55 =>
   ∃ t56 : Int, w55.cell? ((Addr.mk w.heap.size 0 none).add ((IntKind.i64.wrap (n5.tdiv (64 : Int))).toNat * 1)) = some (.int .u64 t56) ∧
   0 ≤ IntKind.i64.wrap (n5.tdiv (64 : Int)) ∧ IntKind.i64.wrap (n5.tdiv (64 : Int)) < (4 : Int) ∧
   (St w55 ((Addr.mk w11.heap.size 0 none).add ((IntKind.i64.wrap (n5.tdiv (64 : Int))).toNat * 1)) (.int .u64 (IntKind.u64.wrap (t56 - r54))) fun w57 =>
   ∃ t58 : Int, w57.cell? (Addr.mk w11.heap.size 0 none) = some (.int .u64 t58) ∧
   ∃ t59 : Int, w57.cell? ((Addr.mk w11.heap.size 0 none).add 1) = some (.int .u64 t59) ∧
   ∃ t60 : Int, w57.cell? ((Addr.mk w11.heap.size 0 none).add 2) = some (.int .u64 t60) ∧
   ∃ t61 : Int, w57.cell? ((Addr.mk w11.heap.size 0 none).add 3) = some (.int .u64 t61) ∧
   St w57 (Addr.mk w7.heap.size 0 none) (.int .u64 t58) fun w62 =>
   St w62 ((Addr.mk w7.heap.size 0 none).add 1) (.int .u64 t59) fun w63 =>
   St w63 ((Addr.mk w7.heap.size 0 none).add 2) (.int .u64 t60) fun w64 =>
   St w64 ((Addr.mk w7.heap.size 0 none).add 3) (.int .u64 t61) fun w65 =>
   ∃ r66 : Int, w65.cell? (Addr.mk w7.heap.size 0 none) = some (.int .u64 r66) ∧
   ∃ r67 : Int, w65.cell? ((Addr.mk w7.heap.size 0 none).add 1) = some (.int .u64 r67) ∧
   ∃ r68 : Int, w65.cell? ((Addr.mk w7.heap.size 0 none).add 2) = some (.int .u64 r68) ∧
   ∃ r69 : Int, w65.cell? ((Addr.mk w7.heap.size 0 none).add 3) = some (.int .u64 r69) ∧
   K r66 r67 r68 r69 (0 : Int) w65) ∧
   True) w37) ∧
   True)
   else
    (∃ t70 : Int, w36.cell? (Addr.mk w11.heap.size 0 none) = some (.int .u64 t70) ∧
   ∃ t71 : Int, w36.cell? ((Addr.mk w11.heap.size 0 none).add 1) = some (.int .u64 t71) ∧
   ∃ t72 : Int, w36.cell? ((Addr.mk w11.heap.size 0 none).add 2) = some (.int .u64 t72) ∧
   ∃ t73 : Int, w36.cell? ((Addr.mk w11.heap.size 0 none).add 3) = some (.int .u64 t73) ∧
   St w36 (Addr.mk w7.heap.size 0 none) (.int .u64 t70) fun w74 =>
   St w74 ((Addr.mk w7.heap.size 0 none).add 1) (.int .u64 t71) fun w75 =>
   St w75 ((Addr.mk w7.heap.size 0 none).add 2) (.int .u64 t72) fun w76 =>
   St w76 ((Addr.mk w7.heap.size 0 none).add 3) (.int .u64 t73) fun w77 =>
   ∃ r78 : Int, w77.cell? (Addr.mk w7.heap.size 0 none) = some (.int .u64 r78) ∧
   ∃ r79 : Int, w77.cell? ((Addr.mk w7.heap.size 0 none).add 1) = some (.int .u64 r79) ∧
   ∃ r80 : Int, w77.cell? ((Addr.mk w7.heap.size 0 none).add 2) = some (.int .u64 r80) ∧
   ∃ r81 : Int, w77.cell? ((Addr.mk w7.heap.size 0 none).add 3) = some (.int .u64 r81) ∧
   K r78 r79 r80 r81 (0 : Int) w77)) → k34 t35 w36) →
   (bif !is6 then
    (∃ t82 : Int, w33.cell? (Addr.mk w.heap.size 0 none) = some (.int .u64 t82) ∧
   ∃ t83 : Int, w33.cell? ((Addr.mk w.heap.size 0 none).add 1) = some (.int .u64 t83) ∧
   ∃ t84 : Int, w33.cell? ((Addr.mk w.heap.size 0 none).add 2) = some (.int .u64 t84) ∧
   ∃ t85 : Int, w33.cell? ((Addr.mk w.heap.size 0 none).add 3) = some (.int .u64 t85) ∧
   C.ref01_Has t82 t83 t84 t85 n5 (fun r86 w87 =>
   k34 r86 w87) w33)
   else
    (k34 false w33))) → k32 w33) →
   (bif t30 then
    (Dr w31 fun w88 =>
   (64 : Int) ≠ 0 ∧
   (64 : Int) ≠ 0 ∧
   0 ≤ IntKind.i64.wrap (n5.tdiv (64 : Int)) ∧ IntKind.i64.wrap (n5.tdiv (64 : Int)) < (4 : Int) ∧
   (64 : Int) ≠ 0 ∧
   (∃ t89 : Int, w88.cell? ((Addr.mk w.heap.size 0 none).add ((IntKind.i64.wrap (n5.tdiv (64 : Int))).toNat * 1)) = some (.int .u64 t89) ∧
   (C.ref01_Two (n5.tmod (64 : Int)) (fun r90 w91 =>
   0 ≤ IntKind.i64.wrap (n5.tdiv (64 : Int)) ∧ IntKind.i64.wrap (n5.tdiv (64 : Int)) < (4 : Int) ∧
   (St w91 ((Addr.mk w11.heap.size 0 none).add ((IntKind.i64.wrap (n5.tdiv (64 : Int))).toNat * 1)) (.int .u64 (IntKind.u64.wrap (t89 + r90))) fun w92 =>
   k32 w92) ∧
   True) w88) ∧
   True) ∧
   (C.ref01_Two (n5.tmod (64 : Int)) (fun r93 w94 =>
   ∃ t95 : Int, w94.cell? ((Addr.mk w.heap.size 0 none).add ((IntKind.i64.wrap (n5.tdiv (64 : Int))).toNat * 1)) = some (.int .u64 t95) ∧
   0 ≤ IntKind.i64.wrap (n5.tdiv (64 : Int)) ∧ IntKind.i64.wrap (n5.tdiv (64 : Int)) < (4 : Int) ∧
   (St w94 ((Addr.mk w11.heap.size 0 none).add ((IntKind.i64.wrap (n5.tdiv (64 : Int))).toNat * 1)) (.int .u64 (IntKind.u64.wrap (t95 + r93))) fun w96 =>
   k32 w96) ∧
   True) w88) ∧
   True)
   else
    (k32 w31))) → k29 t30 w31) →
   (bif is6 then
    (∃ t97 : Int, w28.cell? (Addr.mk w.heap.size 0 none) = some (.int .u64 t97) ∧
   ∃ t98 : Int, w28.cell? ((Addr.mk w.heap.size 0 none).add 1) = some (.int .u64 t98) ∧
   ∃ t99 : Int, w28.cell? ((Addr.mk w.heap.size 0 none).add 2) = some (.int .u64 t99) ∧
   ∃ t100 : Int, w28.cell? ((Addr.mk w.heap.size 0 none).add 3) = some (.int .u64 t100) ∧
   C.ref01_Has t97 t98 t99 t100 n5 (fun r101 w102 =>
   k29 (!r101) w102) w28)
   else
    (k29 false w28)))) → k9 t10 w11) →
   (bif decide (n5 < (0 : Int)) then
    (k9 true w8)
   else
    (k9 (decide (n5 > (255 : Int))) w8))
set_option maxRecDepth 100000 in
theorem S.ref01_Set_ok (b1 : Int) (b2 : Int) (b3 : Int) (b4 : Int) (n5 : Int) (is6 : Bool) (K : Int → Int → Int → Int → Int → World → Prop) (w : World) (h : S.ref01_Set b1 b2 b3 b4 n5 is6 K w) : C.ref01_Set b1 b2 b3 b4 n5 is6 K w := by
  have e : fnV Try.prog Try.f33 (bodyOf Try.f33) (.t none (.u) (.t none (.t none (.r (some [(14, .c (.b))]) .done) (.t none (.t none (.u) (.u)) (.u))) (.t none (.u) (.t none (.t none (.r (some [(23, .c (.b))]) .done) (.t (some []) (.r none (.one 0 1020 (.one 1 1020 (.one 2 448 (.one 3 448 (.one 4 448 (.one 6 32 (.one 7 32 (.alt 5 (.alt 8 (.one 9 0 (.one 10 0 (.alt 11 (.done) (.none)))) (.none)) (.alt 8 (.one 5 0 (.one 9 0 (.one 10 0 (.alt 11 (.done) (.none))))) (.none))))))))))) (.u))) (.t none (.t none (.r (some [(41, .c (.b))]) .done) (.t none (.r none (.one 0 1020 (.one 1 1020 (.one 2 448 (.one 3 448 (.one 4 448 (.one 6 32 (.one 7 32 (.alt 5 (.alt 8 (.one 9 0 (.one 10 0 (.alt 11 (.done) (.none)))) (.none)) (.alt 8 (.one 5 0 (.one 9 0 (.one 10 0 (.alt 11 (.done) (.none))))) (.none))))))))))) (.u))) (.t none (.u) (.u))))))) [(0, .a [.i .u64, .i .u64, .i .u64, .i .u64]), (1, .c (.i .i64))] [.agg #[.int .u64 b1, .int .u64 b2, .int .u64 b3, .int .u64 b4], .int .i64 n5, .bool is6] K w = S.ref01_Set b1 b2 b3 b4 n5 is6 K w := by kernel_rfl
  exact okF_mk Try.func33 rfl (fn_sound names_ok follows_ok Try.func33 rfl (by kernel_rfl) (Eq.mpr e h))

/-- buttress/words.Set -/
def S.words_Set (b1 : Int) (b2 : Int) (b3 : Int) (b4 : Int) (n5 : Int) (on6 : Bool) (K : Int → Int → Int → Int → Int → World → Prop) (w : World) : Prop :=
  Al w (.cells #[.int .u64 b1, .int .u64 b2, .int .u64 b3, .int .u64 b4] 37) fun w7 =>
   Al w7 (.cells #[.int .u64 (0 : Int), .int .u64 (0 : Int), .int .u64 (0 : Int), .int .u64 (0 : Int)] 37) fun w8 =>
   C.words_is n5 (fun r9 w10 =>
   bif !r9 then
    (St w10 (Addr.mk w7.heap.size 0 none) (.int .u64 (0 : Int)) fun w11 =>
   St w11 ((Addr.mk w7.heap.size 0 none).add 1) (.int .u64 (0 : Int)) fun w12 =>
   St w12 ((Addr.mk w7.heap.size 0 none).add 2) (.int .u64 (0 : Int)) fun w13 =>
   St w13 ((Addr.mk w7.heap.size 0 none).add 3) (.int .u64 (0 : Int)) fun w14 =>
   ∃ r15 : Int, w14.cell? (Addr.mk w7.heap.size 0 none) = some (.int .u64 r15) ∧
   ∃ r16 : Int, w14.cell? ((Addr.mk w7.heap.size 0 none).add 1) = some (.int .u64 r16) ∧
   ∃ r17 : Int, w14.cell? ((Addr.mk w7.heap.size 0 none).add 2) = some (.int .u64 r17) ∧
   ∃ r18 : Int, w14.cell? ((Addr.mk w7.heap.size 0 none).add 3) = some (.int .u64 r18) ∧
   K r15 r16 r17 r18 (1 : Int) w14)
   else
    (Dr w10 fun w19 =>
   (64 : Int) ≠ 0 ∧
   0 ≤ IntKind.i64.wrap (n5.tdiv (64 : Int)) ∧ IntKind.i64.wrap (n5.tdiv (64 : Int)) < (4 : Int) ∧
   ∃ t20 : Int, w19.cell? ((Addr.mk w.heap.size 0 none).add ((IntKind.i64.wrap (n5.tdiv (64 : Int))).toNat * 1)) = some (.int .u64 t20) ∧
   (64 : Int) ≠ 0 ∧
   0 ≤ (n5.tmod (64 : Int)) ∧
   0 ≤ IntKind.i64.wrap (n5.tdiv (64 : Int)) ∧ IntKind.i64.wrap (n5.tdiv (64 : Int)) < (4 : Int) ∧
   (St w19 ((Addr.mk w.heap.size 0 none).add ((IntKind.i64.wrap (n5.tdiv (64 : Int))).toNat * 1)) (.int .u64 (andNotI .u64 t20 (shlI .u64 (1 : Int) (n5.tmod (64 : Int))))) fun w21 =>
   bif on6 then
    (Dr w21 fun w22 =>
   (64 : Int) ≠ 0 ∧
   0 ≤ IntKind.i64.wrap (n5.tdiv (64 : Int)) ∧ IntKind.i64.wrap (n5.tdiv (64 : Int)) < (4 : Int) ∧
   ∃ t23 : Int, w22.cell? ((Addr.mk w.heap.size 0 none).add ((IntKind.i64.wrap (n5.tdiv (64 : Int))).toNat * 1)) = some (.int .u64 t23) ∧
   (64 : Int) ≠ 0 ∧
   0 ≤ (n5.tmod (64 : Int)) ∧
   0 ≤ IntKind.i64.wrap (n5.tdiv (64 : Int)) ∧ IntKind.i64.wrap (n5.tdiv (64 : Int)) < (4 : Int) ∧
   (St w22 ((Addr.mk w.heap.size 0 none).add ((IntKind.i64.wrap (n5.tdiv (64 : Int))).toNat * 1)) (.int .u64 (orI .u64 t23 (shlI .u64 (1 : Int) (n5.tmod (64 : Int))))) fun w24 =>
   ∃ t25 : Int, w24.cell? (Addr.mk w.heap.size 0 none) = some (.int .u64 t25) ∧
   ∃ t26 : Int, w24.cell? ((Addr.mk w.heap.size 0 none).add 1) = some (.int .u64 t26) ∧
   ∃ t27 : Int, w24.cell? ((Addr.mk w.heap.size 0 none).add 2) = some (.int .u64 t27) ∧
   ∃ t28 : Int, w24.cell? ((Addr.mk w.heap.size 0 none).add 3) = some (.int .u64 t28) ∧
   St w24 (Addr.mk w7.heap.size 0 none) (.int .u64 t25) fun w29 =>
   St w29 ((Addr.mk w7.heap.size 0 none).add 1) (.int .u64 t26) fun w30 =>
   St w30 ((Addr.mk w7.heap.size 0 none).add 2) (.int .u64 t27) fun w31 =>
   St w31 ((Addr.mk w7.heap.size 0 none).add 3) (.int .u64 t28) fun w32 =>
   ∃ r33 : Int, w32.cell? (Addr.mk w7.heap.size 0 none) = some (.int .u64 r33) ∧
   ∃ r34 : Int, w32.cell? ((Addr.mk w7.heap.size 0 none).add 1) = some (.int .u64 r34) ∧
   ∃ r35 : Int, w32.cell? ((Addr.mk w7.heap.size 0 none).add 2) = some (.int .u64 r35) ∧
   ∃ r36 : Int, w32.cell? ((Addr.mk w7.heap.size 0 none).add 3) = some (.int .u64 r36) ∧
   K r33 r34 r35 r36 (0 : Int) w32) ∧
   True)
   else
    (∃ t37 : Int, w21.cell? (Addr.mk w.heap.size 0 none) = some (.int .u64 t37) ∧
   ∃ t38 : Int, w21.cell? ((Addr.mk w.heap.size 0 none).add 1) = some (.int .u64 t38) ∧
   ∃ t39 : Int, w21.cell? ((Addr.mk w.heap.size 0 none).add 2) = some (.int .u64 t39) ∧
   ∃ t40 : Int, w21.cell? ((Addr.mk w.heap.size 0 none).add 3) = some (.int .u64 t40) ∧
   St w21 (Addr.mk w7.heap.size 0 none) (.int .u64 t37) fun w41 =>
   St w41 ((Addr.mk w7.heap.size 0 none).add 1) (.int .u64 t38) fun w42 =>
   St w42 ((Addr.mk w7.heap.size 0 none).add 2) (.int .u64 t39) fun w43 =>
   St w43 ((Addr.mk w7.heap.size 0 none).add 3) (.int .u64 t40) fun w44 =>
   ∃ r45 : Int, w44.cell? (Addr.mk w7.heap.size 0 none) = some (.int .u64 r45) ∧
   ∃ r46 : Int, w44.cell? ((Addr.mk w7.heap.size 0 none).add 1) = some (.int .u64 r46) ∧
   ∃ r47 : Int, w44.cell? ((Addr.mk w7.heap.size 0 none).add 2) = some (.int .u64 r47) ∧
   ∃ r48 : Int, w44.cell? ((Addr.mk w7.heap.size 0 none).add 3) = some (.int .u64 r48) ∧
   K r45 r46 r47 r48 (0 : Int) w44)) ∧
   True)) w8
set_option maxRecDepth 100000 in
theorem S.words_Set_ok (b1 : Int) (b2 : Int) (b3 : Int) (b4 : Int) (n5 : Int) (on6 : Bool) (K : Int → Int → Int → Int → Int → World → Prop) (w : World) (h : S.words_Set b1 b2 b3 b4 n5 on6 K w) : C.words_Set b1 b2 b3 b4 n5 on6 K w := by
  have e : fnV Try.prog Try.f34 (bodyOf Try.f34) (.t none (.u) (.t none (.t none (.u) (.t none (.t none (.u) (.u)) (.u))) (.t none (.r none (.one 0 112 (.one 1 112 (.one 2 112 (.one 3 112 (.one 4 0 (.one 5 0 (.one 6 0 (.one 7 0 (.one 8 0 (.alt 9 (.done) (.none)))))))))))) (.t none (.t none (.u) (.t none (.r none (.one 0 112 (.one 1 112 (.one 2 112 (.one 3 112 (.one 4 0 (.one 5 0 (.one 6 0 (.one 7 0 (.one 8 0 (.alt 9 (.done) (.none)))))))))))) (.u))) (.t none (.u) (.u)))))) [(0, .a [.i .u64, .i .u64, .i .u64, .i .u64]), (1, .c (.i .i64))] [.agg #[.int .u64 b1, .int .u64 b2, .int .u64 b3, .int .u64 b4], .int .i64 n5, .bool on6] K w = S.words_Set b1 b2 b3 b4 n5 on6 K w := by kernel_rfl
  exact okF_mk Try.func34 rfl (fn_sound names_ok follows_ok Try.func34 rfl (by kernel_rfl) (Eq.mpr e h))

/-- math/bits.Len64 -/
def S.math_bits_Len64 (x1 : Int) (K : Int → World → Prop) (w : World) : Prop :=
  ∀ k2 : Int → Int → World → Prop,
   (∀ (x3 : Int) (n4 : Int) (w5 : World), (∀ k6 : Int → Int → World → Prop,
   (∀ (x7 : Int) (n8 : Int) (w9 : World), (∀ k10 : Int → Int → World → Prop,
   (∀ (x11 : Int) (n12 : Int) (w13 : World), (∃ b14 : Int, StrAt ⟨#[0, 1, 2, 2, 3, 3, 3, 3, 4, 4, 4, 4, 4, 4, 4, 4, 5, 5, 5, 5, 5, 5, 5, 5, 5, 5, 5, 5, 5, 5, 5, 5, 6, 6, 6, 6, 6, 6, 6, 6, 6, 6, 6, 6, 6, 6, 6, 6, 6, 6, 6, 6, 6, 6, 6, 6, 6, 6, 6, 6, 6, 6, 6, 6, 7, 7, 7, 7, 7, 7, 7, 7, 7, 7, 7, 7, 7, 7, 7, 7, 7, 7, 7, 7, 7, 7, 7, 7, 7, 7, 7, 7, 7, 7, 7, 7, 7, 7, 7, 7, 7, 7, 7, 7, 7, 7, 7, 7, 7, 7, 7, 7, 7, 7, 7, 7, 7, 7, 7, 7, 7, 7, 7, 7, 7, 7, 7, 7, 8, 8, 8, 8, 8, 8, 8, 8, 8, 8, 8, 8, 8, 8, 8, 8, 8, 8, 8, 8, 8, 8, 8, 8, 8, 8, 8, 8, 8, 8, 8, 8, 8, 8, 8, 8, 8, 8, 8, 8, 8, 8, 8, 8, 8, 8, 8, 8, 8, 8, 8, 8, 8, 8, 8, 8, 8, 8, 8, 8, 8, 8, 8, 8, 8, 8, 8, 8, 8, 8, 8, 8, 8, 8, 8, 8, 8, 8, 8, 8, 8, 8, 8, 8, 8, 8, 8, 8, 8, 8, 8, 8, 8, 8, 8, 8, 8, 8, 8, 8, 8, 8, 8, 8, 8, 8, 8, 8, 8, 8, 8, 8, 8, 8, 8, 8, 8, 8, 8, 8, 8, 8, 8, 8, 8, 8, 8, 8]⟩ (IntKind.u8.wrap x11) b14 ∧
   K (IntKind.i64.wrap (n12 + (IntKind.i64.wrap b14))) w13) → k10 x11 n12 w13) →
   (bif decide (x7 ≥ (256 : Int)) then
    (0 ≤ (8 : Int) ∧
   k10 (shrI .u64 x7 (8 : Int)) (IntKind.i64.wrap (n8 + (8 : Int))) w9)
   else
    (k10 x7 n8 w9))) → k6 x7 n8 w9) →
   (bif decide (x3 ≥ (65536 : Int)) then
    (0 ≤ (16 : Int) ∧
   k6 (shrI .u64 x3 (16 : Int)) (IntKind.i64.wrap (n4 + (16 : Int))) w5)
   else
    (k6 x3 n4 w5))) → k2 x3 n4 w5) →
   (bif decide (x1 ≥ (4294967296 : Int)) then
    (0 ≤ (32 : Int) ∧
   k2 (shrI .u64 x1 (32 : Int)) (32 : Int) w)
   else
    (k2 x1 (0 : Int) w))
set_option maxRecDepth 100000 in
theorem S.math_bits_Len64_ok (x1 : Int) (K : Int → World → Prop) (w : World) (h : S.math_bits_Len64 x1 K w) : C.math_bits_Len64 x1 K w := by
  have e : fnV Try.prog Try.f35 (bodyOf Try.f35) (.t none (.u) (.t none (.t none (.u) (.t (some [(0, .c (.i .u64)), (2, .c (.i .i64))]) (.t none (.u) (.u)) (.u))) (.t none (.t none (.u) (.t (some [(0, .c (.i .u64)), (2, .c (.i .i64))]) (.t none (.u) (.u)) (.u))) (.t none (.t none (.u) (.t (some [(0, .c (.i .u64)), (2, .c (.i .i64))]) (.t none (.u) (.u)) (.u))) (.t none (.u) (.u)))))) [(0, .c (.i .i64))] [.int .u64 x1] K w = S.math_bits_Len64 x1 K w := by kernel_rfl
  exact okF_mk Try.func35 rfl (fn_sound names_ok follows_ok Try.func35 rfl (by kernel_rfl) (Eq.mpr e h))

/-- slices.IndexFunc[[]int,int] -/
def S.slices_IndexFunc_int_int (s1 : Sl) (f2 : Value) (K : Int → World → Prop) (w : World) : Prop :=
  ∀ l3 : Int → World → Prop,
   (∀ (t4 : Int) (w5 : World), (bif decide (t4 < (s1.len : Int)) then
    (∃ a6 : Addr, s1.a = some a6 ∧ 0 ≤ t4 ∧ t4 < (s1.len : Int) ∧
   ∃ t7 : Int, w5.cell? (a6.add (t4.toNat * 1)) = some (.int .i64 t7) ∧
   CallV Try.prog (f2) [.int .i64 t7] w5 fun enw9 w9 => ∃ r8 : Bool, enw9 = .returned (.bool r8) ∧
   bif r8 then
    (K t4 w9)
   else
    (l3 (IntKind.i64.wrap (t4 + (1 : Int))) w9))
   else
    (K (-1 : Int) w5)) → l3 t4 w5) →
   l3 (0 : Int) w
set_option maxRecDepth 100000 in
theorem S.slices_IndexFunc_int_int_ok (s1 : Sl) (f2 : Value) (K : Int → World → Prop) (w : World) (h : S.slices_IndexFunc_int_int s1 f2 K w) : C.slices_IndexFunc_int_int s1 f2 K w := by
  have e : fnV Try.prog Try.f36 (bodyOf Try.f36) (.t none (.u) (.t none (.t none (.u) (.t none (.t (some [(8, .c (.i .i64))]) (.t none (.u) (.t none (.t none (.u) (.u)) (.t none (.t none (.t none (.u) (.t none (.u) (.t none (.t none (.u) (.u)) (.u)))) (.u)) (.u)))) (.u)) (.u))) (.t none (.u) (.u)))) [(0, .c (.i .i64))] [.slice s1.a s1.len s1.cap, f2] K w = S.slices_IndexFunc_int_int s1 f2 K w := by kernel_rfl
  exact okF_mk Try.func36 rfl (fn_sound names_ok follows_ok Try.func36 rfl (by kernel_rfl) (Eq.mpr e h))

/-- buttress/buttressref01.Has -/
def S.ref01_Has (b1 : Int) (b2 : Int) (b3 : Int) (b4 : Int) (n5 : Int) (K : Bool → World → Prop) (w : World) : Prop :=
  Al w (.cells #[.int .u64 b1, .int .u64 b2, .int .u64 b3, .int .u64 b4] 37) fun w6 =>
   bif decide (n5 ≥ (0 : Int)) then
    (bif decide (n5 < (256 : Int)) then
    ((64 : Int) ≠ 0 ∧
   0 ≤ IntKind.i64.wrap (n5.tdiv (64 : Int)) ∧ IntKind.i64.wrap (n5.tdiv (64 : Int)) < (4 : Int) ∧
   ∃ t7 : Int, w6.cell? ((Addr.mk w.heap.size 0 none).add ((IntKind.i64.wrap (n5.tdiv (64 : Int))).toNat * 1)) = some (.int .u64 t7) ∧
   (64 : Int) ≠ 0 ∧
   C.ref01_Bit t7 (n5.tmod (64 : Int)) (fun r8 w9 =>
   K r8 w9) w6)
   else
    (K false w6))
   else
    (K false w6)
set_option maxRecDepth 100000 in
theorem S.ref01_Has_ok (b1 : Int) (b2 : Int) (b3 : Int) (b4 : Int) (n5 : Int) (K : Bool → World → Prop) (w : World) (h : S.ref01_Has b1 b2 b3 b4 n5 K w) : C.ref01_Has b1 b2 b3 b4 n5 K w := by
  have e : fnV Try.prog Try.f37 (bodyOf Try.f37) (.t none (.u) (.t none (.u) (.u))) [(0, .c (.b))] [.agg #[.int .u64 b1, .int .u64 b2, .int .u64 b3, .int .u64 b4], .int .i64 n5] K w = S.ref01_Has b1 b2 b3 b4 n5 K w := by kernel_rfl
  exact okF_mk Try.func37 rfl (fn_sound names_ok follows_ok Try.func37 rfl (by kernel_rfl) (Eq.mpr e h))

/-- buttress/buttressref01.Two -/
def S.ref01_Two (n1 : Int) (K : Int → World → Prop) (w : World) : Prop :=
  ∀ l2 : Int → Int → World → Prop,
   (∀ (p3 : Int) (i4 : Int) (w5 : World), (bif decide (i4 < n1) then
    (l2 (IntKind.u64.wrap ((2 : Int) * p3)) (IntKind.i64.wrap (i4 + (1 : Int))) w5)
   else
    (K p3 w5)) → l2 p3 i4 w5) →
   l2 (1 : Int) (0 : Int) w
set_option maxRecDepth 100000 in
theorem S.ref01_Two_ok (n1 : Int) (K : Int → World → Prop) (w : World) (h : S.ref01_Two n1 K w) : C.ref01_Two n1 K w := by
  have e : fnV Try.prog Try.f38 (bodyOf Try.f38) (.t none (.u) (.t none (.u) (.t none (.t none (.u) (.t none (.t (some [(3, .c (.i .u64)), (4, .c (.i .i64))]) (.t none (.t none (.u) (.t none (.u) (.u))) (.t none (.t none (.u) (.u)) (.u))) (.u)) (.u))) (.t none (.u) (.u))))) [(0, .c (.i .u64))] [.int .i64 n1] K w = S.ref01_Two n1 K w := by kernel_rfl
  exact okF_mk Try.func38 rfl (fn_sound names_ok follows_ok Try.func38 rfl (by kernel_rfl) (Eq.mpr e h))

/-- buttress/words.is -/
def S.words_is (n1 : Int) (K : Bool → World → Prop) (w : World) : Prop :=
  bif decide (n1 ≥ (0 : Int)) then
    (K (decide (n1 < (256 : Int))) w)
   else
    (K false w)
set_option maxRecDepth 100000 in
theorem S.words_is_ok (n1 : Int) (K : Bool → World → Prop) (w : World) (h : S.words_is n1 K w) : C.words_is n1 K w := by
  have e : fnV Try.prog Try.f39 (bodyOf Try.f39) (.t none (.u) (.t none (.u) (.u))) [(0, .c (.b))] [.int .i64 n1] K w = S.words_is n1 K w := by kernel_rfl
  exact okF_mk Try.func39 rfl (fn_sound names_ok follows_ok Try.func39 rfl (by kernel_rfl) (Eq.mpr e h))

/-- buttress/buttressref01.Bit -/
def S.ref01_Bit (v1 : Int) (n2 : Int) (K : Bool → World → Prop) (w : World) : Prop :=
  C.ref01_Two n2 (fun r3 w4 =>
   r3 ≠ 0 ∧
   (2 : Int) ≠ 0 ∧
   K (((IntKind.u64.wrap (v1.tdiv r3)).tmod (2 : Int)) == (1 : Int)) w4) w
set_option maxRecDepth 100000 in
theorem S.ref01_Bit_ok (v1 : Int) (n2 : Int) (K : Bool → World → Prop) (w : World) (h : S.ref01_Bit v1 n2 K w) : C.ref01_Bit v1 n2 K w := by
  have e : fnV Try.prog Try.f40 (bodyOf Try.f40) (.t none (.u) (.t none (.u) (.u))) [(0, .c (.b))] [.int .u64 v1, .int .i64 n2] K w = S.ref01_Bit v1 n2 K w := by kernel_rfl
  exact okF_mk Try.func40 rfl (fn_sound names_ok follows_ok Try.func40 rfl (by kernel_rfl) (Eq.mpr e h))
end Go.Proofs.Ytimicibeljkjnaa
