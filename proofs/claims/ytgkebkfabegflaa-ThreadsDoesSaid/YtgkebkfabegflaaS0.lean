/- The functions' texts, and that a call comes to them. Printed by a program of mine (gen.py). -/
import Derived.Test.YtgkebkfabegflaaC
set_option linter.unusedVariables false
namespace Go.Proofs.Ytgkebkfabegflaa
open Go Go.Vc Go.Proofs

/-- buttress/buttresslaw10.ThreadsTurns -/
def S.law10_ThreadsTurns (n1 : Int) (prio2 : Int) (K : Bool → World → Prop) (w : World) : Prop :=
  C.threads_New (2 : Int) (fun r3 r4 w5 =>
   ∀ k6 : Bool → World → Prop,
   (∀ (t7 : Bool) (w8 : World), (bif t7 then
    (K false w8)
   else
    (∀ l9 : Int → World → Prop,
   (∀ (i10 : Int) (w11 : World), (bif decide (i10 < (IntKind.i64.wrap ((1 : Int) + (andI .i64 n1 (7 : Int))))) then
    (C.threads_Threads_Make r3 (andI .i64 prio2 (255 : Int)) (1 : Int) (fun r12 r13 w14 =>
   ∀ k15 : Bool → World → Prop,
   (∀ (t16 : Bool) (w17 : World), (bif t16 then
    (K false w17)
   else
    (l9 (IntKind.i64.wrap (i10 + (1 : Int))) w17)) → k15 t16 w17) →
   (bif r13 != (0 : Int) then
    (k15 true w14)
   else
    (bif r12 != i10 then
    (k15 true w14)
   else
    (C.threads_Threads_Resume r3 i10 (fun r18 w19 =>
   k15 (r18 != (0 : Int)) w19) w14)))) w11)
   else
    (C.threads_Threads_Pick r3 (1 : Int) (fun r20 r21 w22 =>
   ∀ l23 : Int → World → Prop,
   (∀ (i24 : Int) (w25 : World), (bif decide (i24 < (100 : Int)) then
    (C.threads_Threads_Runs r3 (1 : Int) (fun r26 r27 w28 =>
   ∀ k29 : Bool → World → Prop,
   (∀ (t30 : Bool) (w31 : World), (bif t30 then
    (K false w31)
   else
    (l23 (IntKind.i64.wrap (i24 + (1 : Int))) w31)) → k29 t30 w31) →
   (bif !r27 then
    (k29 true w28)
   else
    ((5 : Int) ≠ 0 ∧
   (IntKind.i64.wrap ((1 : Int) + (andI .i64 n1 (7 : Int)))) ≠ 0 ∧
   bif r26 != ((IntKind.i64.wrap (i24.tdiv (5 : Int))).tmod (IntKind.i64.wrap ((1 : Int) + (andI .i64 n1 (7 : Int))))) then
    (k29 true w28)
   else
    (C.threads_Threads_Tick r3 (1 : Int) (fun r32 w33 =>
   k29 (!r32) w33) w28)))) w25)
   else
    (C.threads_Threads_Runs r3 (0 : Int) (fun r34 r35 w36 =>
   bif !r35 then
    (C.threads_Threads_Tick r3 (0 : Int) (fun r37 w38 =>
   bif !r37 then
    (C.law10_fixed  (fun r39 w40 =>
   K r39 w40) w38)
   else
    (K false w38)) w36)
   else
    (K false w36)) w25)) → l23 i24 w25) →
   l23 (0 : Int) w22) w11)) → l9 i10 w11) →
   l9 (0 : Int) w8)) → k6 t7 w8) →
   (bif r3.isNone then
    (k6 true w5)
   else
    (k6 (r4 != (0 : Int)) w5))) w
set_option maxRecDepth 100000 in
theorem S.law10_ThreadsTurns_ok (n1 : Int) (prio2 : Int) (K : Bool → World → Prop) (w : World) (h : S.law10_ThreadsTurns n1 prio2 K w) : C.law10_ThreadsTurns n1 prio2 K w := by
  have e : fnV Try.prog Try.f3 (bodyOf Try.f3) (.t none (.u) (.t none (.u) (.t none (.u) (.t none (.t none (.r (some [(31, .c (.b))]) .done) (.t none (.t none (.u) (.u)) (.u))) (.t none (.t none (.u) (.t none (.t (some [(9, .c (.i .i64))]) (.t none (.t none (.u) (.t none (.u) (.u))) (.t none (.t none (.t none (.u) (.t none (.r (some [(55, .c (.b))]) .done) (.t none (.t none (.u) (.u)) (.u)))) (.u)) (.u))) (.u)) (.u))) (.t none (.u) (.t none (.t none (.u) (.t none (.t (some [(12, .c (.i .i64))]) (.t none (.t none (.u) (.t none (.u) (.u))) (.t none (.t none (.t none (.u) (.t none (.r (some [(81, .c (.b))]) .done) (.t none (.t none (.u) (.u)) (.u)))) (.u)) (.u))) (.u)) (.u))) (.t none (.u) (.t none (.u) (.u)))))))))) [(0, .c (.b))] [.int .i64 n1, .int .i64 prio2] K w = S.law10_ThreadsTurns n1 prio2 K w := by kernel_rfl
  exact okF_mk Try.func3 rfl (fn_sound names_ok follows_ok Try.func3 rfl (by kernel_rfl) (Eq.mpr e h))

/-- buttress/buttresslaw10.ThreadsGreater -/
def S.law10_ThreadsGreater (prio1 : Int) (ticks2 : Int) (K : Bool → World → Prop) (w : World) : Prop :=
  C.threads_New (1 : Int) (fun r3 r4 w5 =>
   ∀ k6 : Bool → World → Prop,
   (∀ (t7 : Bool) (w8 : World), (bif t7 then
    (K false w8)
   else
    (C.threads_Threads_Make r3 (andI .i64 prio1 (127 : Int)) (0 : Int) (fun r9 r10 w11 =>
   C.threads_Threads_Make r3 (IntKind.i64.wrap ((andI .i64 prio1 (127 : Int)) + (1 : Int))) (0 : Int) (fun r12 r13 w14 =>
   C.threads_Threads_Resume r3 (0 : Int) (fun r15 w16 =>
   C.threads_Threads_Pick r3 (0 : Int) (fun r17 r18 w19 =>
   ∀ l20 : Int → World → Prop,
   (∀ (i21 : Int) (w22 : World), (bif decide (i21 < (andI .i64 ticks2 (3 : Int))) then
    (C.threads_Threads_Tick r3 (0 : Int) (fun r23 w24 =>
   l20 (IntKind.i64.wrap (i21 + (1 : Int))) w24) w22)
   else
    (C.threads_Threads_Resume r3 (1 : Int) (fun r25 w26 =>
   C.threads_Threads_Runs r3 (0 : Int) (fun r27 r28 w29 =>
   C.threads_Threads_Pick r3 (0 : Int) (fun r30 r31 w32 =>
   C.threads_Threads_Get r3 (0 : Int) (fun r33 r34 r35 r36 r37 r38 r39 r40 r41 r42 r43 r44 r45 w46 =>
   Al w46 (.cells #[.int .i64 (0 : Int), .int .i64 (0 : Int), .int .i64 (0 : Int), .int .i64 (0 : Int), .int .u64 (0 : Int), .int .u64 (0 : Int), .int .u64 (0 : Int), .int .u64 (0 : Int), .int .u64 (0 : Int), .int .u64 (0 : Int), .int .u64 (0 : Int), .int .u64 (0 : Int)] 37) fun w47 =>
   StL w47 (Addr.mk w46.heap.size 0 none) 0 [.int .i64 r33, .int .i64 r34, .int .i64 r35, .int .i64 r36, .int .u64 r37, .int .u64 r38, .int .u64 r39, .int .u64 r40, .int .u64 r41, .int .u64 r42, .int .u64 r43, .int .u64 r44] fun w48 =>
   bif r27 == (0 : Int) then
    (bif r30 == (1 : Int) then
    (bif r31 then
    (bif r45 == (0 : Int) then
    (∃ state49 : Int, w48.cell? (Addr.mk w46.heap.size 0 none) = some (.int .i64 state49) ∧
   bif state49 == (1 : Int) then
    (∃ left50 : Int, w48.cell? ((Addr.mk w46.heap.size 0 none).add 3) = some (.int .i64 left50) ∧
   bif left50 == (IntKind.i64.wrap ((5 : Int) - (andI .i64 ticks2 (3 : Int)))) then
    (C.threads_Threads_Line r3 (0 : Int) (andI .i64 prio1 (127 : Int)) (fun r51 w52 =>
   Al w52 (.cells #[.int .i64 (0 : Int)] 3) fun w53 =>
   C.ref09_Nums r51 ⟨some (Addr.mk w52.heap.size 0 none), 1, 1⟩ (fun r54 w55 =>
   bif r54 then
    (C.law10_fixed  (fun r56 w57 =>
   K r56 w57) w55)
   else
    (K false w55)) w53) w48)
   else
    (K false w48))
   else
    (K false w48))
   else
    (K false w48))
   else
    (K false w48))
   else
    (K false w48))
   else
    (K false w48)) w32) w29) w26) w22)) → l20 i21 w22) →
   l20 (0 : Int) w19) w16) w14) w11) w8)) → k6 t7 w8) →
   (bif r3.isNone then
    (k6 true w5)
   else
    (k6 (r4 != (0 : Int)) w5))) w
set_option maxRecDepth 100000 in
theorem S.law10_ThreadsGreater_ok (prio1 : Int) (ticks2 : Int) (K : Bool → World → Prop) (w : World) (h : S.law10_ThreadsGreater prio1 ticks2 K w) : C.law10_ThreadsGreater prio1 ticks2 K w := by
  have e : fnV Try.prog Try.f4 (bodyOf Try.f4) (.t none (.u) (.t none (.u) (.t none (.t none (.r (some [(25, .c (.b))]) .done) (.t none (.t none (.u) (.u)) (.u))) (.t none (.u) (.t none (.u) (.t none (.u) (.t none (.u) (.t none (.u) (.t none (.t none (.u) (.t none (.t (some [(9, .c (.i .i64))]) (.t none (.t none (.u) (.t none (.u) (.u))) (.t none (.t none (.u) (.u)) (.u))) (.u)) (.u))) (.t none (.u) (.t none (.u) (.t none (.u) (.t none (.u) (.t none (.u) (.u))))))))))))))) [(0, .c (.b))] [.int .i64 prio1, .int .i64 ticks2] K w = S.law10_ThreadsGreater prio1 ticks2 K w := by kernel_rfl
  exact okF_mk Try.func4 rfl (fn_sound names_ok follows_ok Try.func4 rfl (by kernel_rfl) (Eq.mpr e h))

/-- buttress/buttresslaw10.ThreadsFull -/
def S.law10_ThreadsFull (cores1 : Int) (prio2 : Int) (K : Bool → World → Prop) (w : World) : Prop :=
  C.threads_New (IntKind.i64.wrap ((1 : Int) + (andI .i64 cores1 (7 : Int)))) (fun r3 r4 w5 =>
   ∀ k6 : Bool → World → Prop,
   (∀ (t7 : Bool) (w8 : World), (bif t7 then
    (K false w8)
   else
    (∀ l9 : Int → World → Prop,
   (∀ (i10 : Int) (w11 : World), (bif decide (i10 < (64 : Int)) then
    ((IntKind.i64.wrap ((1 : Int) + (andI .i64 cores1 (7 : Int)))) ≠ 0 ∧
   C.threads_Threads_Make r3 (andI .i64 prio2 (255 : Int)) (i10.tmod (IntKind.i64.wrap ((1 : Int) + (andI .i64 cores1 (7 : Int))))) (fun r12 r13 w14 =>
   C.threads_Threads_Get r3 i10 (fun r15 r16 r17 r18 r19 r20 r21 r22 r23 r24 r25 r26 r27 w28 =>
   Al w28 (.cells #[.int .i64 (0 : Int), .int .i64 (0 : Int), .int .i64 (0 : Int), .int .i64 (0 : Int), .int .u64 (0 : Int), .int .u64 (0 : Int), .int .u64 (0 : Int), .int .u64 (0 : Int), .int .u64 (0 : Int), .int .u64 (0 : Int), .int .u64 (0 : Int), .int .u64 (0 : Int)] 37) fun w29 =>
   StL w29 (Addr.mk w28.heap.size 0 none) 0 [.int .i64 r15, .int .i64 r16, .int .i64 r17, .int .i64 r18, .int .u64 r19, .int .u64 r20, .int .u64 r21, .int .u64 r22, .int .u64 r23, .int .u64 r24, .int .u64 r25, .int .u64 r26] fun w30 =>
   ∀ k31 : Bool → World → Prop,
   (∀ (t32 : Bool) (w33 : World), (bif t32 then
    (K false w33)
   else
    (l9 (IntKind.i64.wrap (i10 + (1 : Int))) w33)) → k31 t32 w33) →
   (Dr w30 fun w34 =>
   bif r13 != (0 : Int) then
    (k31 true w34)
   else
    (bif r12 != i10 then
    (k31 true w34)
   else
    (bif r27 != (0 : Int) then
    (k31 true w34)
   else
    (LdL w34 (Addr.mk w28.heap.size 0 none) 0 [.i .i64, .i .i64, .i .i64, .i .i64, .i .u64, .i .u64, .i .u64, .i .u64, .i .u64, .i .u64, .i .u64, .i .u64] fun (t35 : Int) (t36 : Int) (t37 : Int) (t38 : Int) (t39 : Int) (t40 : Int) (t41 : Int) (t42 : Int) (t43 : Int) (t44 : Int) (t45 : Int) (t46 : Int) =>
   (IntKind.i64.wrap ((1 : Int) + (andI .i64 cores1 (7 : Int)))) ≠ 0 ∧
   ∃ eq47 : Bool, EqB Try.prog .neq 37 (.tmp 65) (.tmp 70) (.agg #[.int .i64 t35, .int .i64 t36, .int .i64 t37, .int .i64 t38, .int .u64 t39, .int .u64 t40, .int .u64 t41, .int .u64 t42, .int .u64 t43, .int .u64 t44, .int .u64 t45, .int .u64 t46]) (.agg #[.int .i64 (0 : Int), .int .i64 (andI .i64 prio2 (255 : Int)), .int .i64 (i10.tmod (IntKind.i64.wrap ((1 : Int) + (andI .i64 cores1 (7 : Int))))), .int .i64 (5 : Int), .int .u64 (0 : Int), .int .u64 (0 : Int), .int .u64 (0 : Int), .int .u64 (0 : Int), .int .u64 (0 : Int), .int .u64 (0 : Int), .int .u64 (0 : Int), .int .u64 (0 : Int)]) eq47 ∧
   k31 eq47 w34))))) w14) w11)
   else
    (C.threads_Threads_Make r3 (andI .i64 prio2 (255 : Int)) (0 : Int) (fun r48 r49 w50 =>
   C.threads_Threads_Get r3 (64 : Int) (fun r51 r52 r53 r54 r55 r56 r57 r58 r59 r60 r61 r62 r63 w64 =>
   Al w64 (.cells #[.int .i64 (0 : Int), .int .i64 (0 : Int), .int .i64 (0 : Int), .int .i64 (0 : Int), .int .u64 (0 : Int), .int .u64 (0 : Int), .int .u64 (0 : Int), .int .u64 (0 : Int), .int .u64 (0 : Int), .int .u64 (0 : Int), .int .u64 (0 : Int), .int .u64 (0 : Int)] 37) fun w65 =>
   StL w65 (Addr.mk w64.heap.size 0 none) 0 [.int .i64 r51, .int .i64 r52, .int .i64 r53, .int .i64 r54, .int .u64 r55, .int .u64 r56, .int .u64 r57, .int .u64 r58, .int .u64 r59, .int .u64 r60, .int .u64 r61, .int .u64 r62] fun w66 =>
   bif r49 == (2 : Int) then
    (bif r63 == (100 : Int) then
    (C.law10_fixed  (fun r67 w68 =>
   K r67 w68) w66)
   else
    (K false w66))
   else
    (K false w66)) w50) w11)) → l9 i10 w11) →
   l9 (0 : Int) w8)) → k6 t7 w8) →
   (bif r3.isNone then
    (k6 true w5)
   else
    (k6 (r4 != (0 : Int)) w5))) w
set_option maxRecDepth 100000 in
theorem S.law10_ThreadsFull_ok (cores1 : Int) (prio2 : Int) (K : Bool → World → Prop) (w : World) (h : S.law10_ThreadsFull cores1 prio2 K w) : C.law10_ThreadsFull cores1 prio2 K w := by
  have e : fnV Try.prog Try.f5 (bodyOf Try.f5) (.t none (.u) (.t none (.u) (.t none (.u) (.t none (.t none (.r (some [(33, .c (.b))]) .done) (.t none (.t none (.u) (.u)) (.u))) (.t none (.t none (.u) (.t none (.t (some [(9, .c (.i .i64))]) (.t none (.t none (.u) (.t none (.u) (.u))) (.t none (.t none (.t none (.u) (.t none (.u) (.t none (.r (some [(72, .c (.b))]) (.one 0 0 (.one 1 0 (.one 2 0 (.one 3 16 (.one 4 0 (.one 5 0 (.one 6 0 (.one 7 0 (.one 8 0 (.one 9 0 (.one 10 0 (.one 11 0 (.one 12 253952 (.one 13 114688 (.one 14 32768 (.one 15 0 (.one 16 0 (.one 17 0 (.one 18 0 (.one 19 0 (.done)))))))))))))))))))))) (.t none (.t none (.u) (.u)) (.u))))) (.u)) (.u))) (.u)) (.u))) (.t none (.u) (.t none (.u) (.t none (.u) (.u))))))))) [(0, .c (.b))] [.int .i64 cores1, .int .i64 prio2] K w = S.law10_ThreadsFull cores1 prio2 K w := by kernel_rfl
  exact okF_mk Try.func5 rfl (fn_sound names_ok follows_ok Try.func5 rfl (by kernel_rfl) (Eq.mpr e h))

/-- buttress/buttresslaw10.ThreadsWaits -/
def S.law10_ThreadsWaits (prio1 : Int) (how2 : Int) (K : Bool → World → Prop) (w : World) : Prop :=
  C.threads_New (1 : Int) (fun r3 r4 w5 =>
   ∀ k6 : Bool → World → Prop,
   (∀ (t7 : Bool) (w8 : World), (bif t7 then
    (K false w8)
   else
    (∀ l9 : Int → World → Prop,
   (∀ (i10 : Int) (w11 : World), (bif decide (i10 < (2 : Int)) then
    (C.threads_Threads_Make r3 (andI .i64 prio1 (255 : Int)) (0 : Int) (fun r12 r13 w14 =>
   C.threads_Threads_Resume r3 i10 (fun r15 w16 =>
   l9 (IntKind.i64.wrap (i10 + (1 : Int))) w16) w14) w11)
   else
    (C.threads_Threads_Pick r3 (0 : Int) (fun r17 r18 w19 =>
   ∀ k20 : Int → World → Prop,
   (∀ (f21 : Int) (w22 : World), (C.threads_Threads_Runs r3 (0 : Int) (fun r23 r24 w25 =>
   C.threads_Threads_Line r3 (0 : Int) (andI .i64 prio1 (255 : Int)) (fun r26 w27 =>
   C.threads_Threads_Resume r3 r17 (fun r28 w29 =>
   C.threads_Threads_Get r3 r17 (fun r30 r31 r32 r33 r34 r35 r36 r37 r38 r39 r40 r41 r42 w43 =>
   Al w43 (.cells #[.int .i64 (0 : Int), .int .i64 (0 : Int), .int .i64 (0 : Int), .int .i64 (0 : Int), .int .u64 (0 : Int), .int .u64 (0 : Int), .int .u64 (0 : Int), .int .u64 (0 : Int), .int .u64 (0 : Int), .int .u64 (0 : Int), .int .u64 (0 : Int), .int .u64 (0 : Int)] 37) fun w44 =>
   StL w44 (Addr.mk w43.heap.size 0 none) 0 [.int .i64 r30, .int .i64 r31, .int .i64 r32, .int .i64 r33, .int .u64 r34, .int .u64 r35, .int .u64 r36, .int .u64 r37, .int .u64 r38, .int .u64 r39, .int .u64 r40, .int .u64 r41] fun w45 =>
   bif r18 then
    (bif r17 == (0 : Int) then
    (bif f21 == (0 : Int) then
    (bif !r24 then
    (Al w45 (.cells #[.int .i64 (1 : Int)] 3) fun w46 =>
   C.ref09_Nums r26 ⟨some (Addr.mk w45.heap.size 0 none), 1, 1⟩ (fun r47 w48 =>
   bif r47 then
    (bif r28 == (0 : Int) then
    (∃ state49 : Int, w48.cell? (Addr.mk w43.heap.size 0 none) = some (.int .i64 state49) ∧
   bif state49 == (1 : Int) then
    (C.threads_Threads_Line r3 (0 : Int) (andI .i64 prio1 (255 : Int)) (fun r50 w51 =>
   Al w51 (.cells #[.int .i64 (1 : Int), .int .i64 (0 : Int)] 3) fun w52 =>
   C.ref09_Nums r50 ⟨some (Addr.mk w51.heap.size 0 none), 2, 2⟩ (fun r53 w54 =>
   bif r53 then
    (C.law10_fixed  (fun r55 w56 =>
   K r55 w56) w54)
   else
    (K false w54)) w52) w48)
   else
    (K false w48))
   else
    (K false w48))
   else
    (K false w48)) w46)
   else
    (K false w45))
   else
    (K false w45))
   else
    (K false w45))
   else
    (K false w45)) w29) w27) w25) w22) → k20 f21 w22) →
   (bif (andI .i64 how2 (1 : Int)) == (0 : Int) then
    (C.threads_Threads_Block r3 r17 (fun r57 w58 =>
   k20 r57 w58) w19)
   else
    (C.threads_Threads_Suspend r3 r17 (fun r59 w60 =>
   k20 r59 w60) w19))) w11)) → l9 i10 w11) →
   l9 (0 : Int) w8)) → k6 t7 w8) →
   (bif r3.isNone then
    (k6 true w5)
   else
    (k6 (r4 != (0 : Int)) w5))) w
set_option maxRecDepth 100000 in
theorem S.law10_ThreadsWaits_ok (prio1 : Int) (how2 : Int) (K : Bool → World → Prop) (w : World) (h : S.law10_ThreadsWaits prio1 how2 K w) : C.law10_ThreadsWaits prio1 how2 K w := by
  have e : fnV Try.prog Try.f6 (bodyOf Try.f6) (.t none (.u) (.t none (.u) (.t none (.t none (.r (some [(27, .c (.b))]) .done) (.t none (.t none (.u) (.u)) (.u))) (.t none (.u) (.t none (.t none (.u) (.t none (.t (some [(8, .c (.i .i64))]) (.t none (.t none (.u) (.t none (.u) (.u))) (.t none (.t none (.t none (.u) (.u)) (.u)) (.u))) (.u)) (.u))) (.t none (.u) (.t none (.u) (.t none (.t none (.u) (.t (some [(11, .c (.i .i64))]) (.u) (.u))) (.t none (.u) (.t none (.u) (.t none (.u) (.t none (.u) (.t none (.u) (.u)))))))))))))) [(0, .c (.b))] [.int .i64 prio1, .int .i64 how2] K w = S.law10_ThreadsWaits prio1 how2 K w := by kernel_rfl
  exact okF_mk Try.func6 rfl (fn_sound names_ok follows_ok Try.func6 rfl (by kernel_rfl) (Eq.mpr e h))

/-- buttress/buttresslaw10.ThreadsMoves -/
def S.law10_ThreadsMoves (prio1 : Int) (i2 : Int) (v3 : Int) (K : Bool → World → Prop) (w : World) : Prop :=
  C.threads_New (2 : Int) (fun r4 r5 w6 =>
   ∀ k7 : Bool → World → Prop,
   (∀ (t8 : Bool) (w9 : World), (bif t8 then
    (K false w9)
   else
    (C.threads_Threads_Make r4 (andI .i64 prio1 (255 : Int)) (0 : Int) (fun r10 r11 w12 =>
   C.threads_Threads_Reg r4 (0 : Int) (andI .i64 i2 (7 : Int)) v3 (fun r13 w14 =>
   C.threads_Threads_Resume r4 (0 : Int) (fun r15 w16 =>
   C.threads_Threads_Pick r4 (0 : Int) (fun r17 r18 w19 =>
   C.threads_Threads_Core r4 (0 : Int) (1 : Int) (fun r20 w21 =>
   C.threads_Threads_Runs r4 (0 : Int) (fun r22 r23 w24 =>
   C.threads_Threads_Runs r4 (1 : Int) (fun r25 r26 w27 =>
   C.threads_Threads_Get r4 (0 : Int) (fun r28 r29 r30 r31 r32 r33 r34 r35 r36 r37 r38 r39 r40 w41 =>
   Al w41 (.cells #[.int .i64 (0 : Int), .int .i64 (0 : Int), .int .i64 (0 : Int), .int .i64 (0 : Int), .int .u64 (0 : Int), .int .u64 (0 : Int), .int .u64 (0 : Int), .int .u64 (0 : Int), .int .u64 (0 : Int), .int .u64 (0 : Int), .int .u64 (0 : Int), .int .u64 (0 : Int)] 37) fun w42 =>
   StL w42 (Addr.mk w41.heap.size 0 none) 0 [.int .i64 r28, .int .i64 r29, .int .i64 r30, .int .i64 r31, .int .u64 r32, .int .u64 r33, .int .u64 r34, .int .u64 r35, .int .u64 r36, .int .u64 r37, .int .u64 r38, .int .u64 r39] fun w43 =>
   C.threads_Threads_Line r4 (1 : Int) (andI .i64 prio1 (255 : Int)) (fun r44 w45 =>
   C.threads_Threads_Pick r4 (1 : Int) (fun r46 r47 w48 =>
   bif r13 == (0 : Int) then
    (bif r20 == (0 : Int) then
    (bif !r23 then
    (bif !r26 then
    (bif r40 == (0 : Int) then
    (∃ core49 : Int, w48.cell? ((Addr.mk w41.heap.size 0 none).add 2) = some (.int .i64 core49) ∧
   bif core49 == (1 : Int) then
    (∃ prio50 : Int, w48.cell? ((Addr.mk w41.heap.size 0 none).add 1) = some (.int .i64 prio50) ∧
   bif prio50 == (andI .i64 prio1 (255 : Int)) then
    (0 ≤ andI .i64 i2 (7 : Int) ∧ andI .i64 i2 (7 : Int) < (8 : Int) ∧
   ∃ t51 : Int, w48.cell? (((Addr.mk w41.heap.size 0 none).add 4).add ((andI .i64 i2 (7 : Int)).toNat * 1)) = some (.int .u64 t51) ∧
   bif t51 == v3 then
    (∃ state52 : Int, w48.cell? (Addr.mk w41.heap.size 0 none) = some (.int .i64 state52) ∧
   bif state52 == (1 : Int) then
    (Al w48 (.cells #[.int .i64 (0 : Int)] 3) fun w53 =>
   C.ref09_Nums r44 ⟨some (Addr.mk w48.heap.size 0 none), 1, 1⟩ (fun r54 w55 =>
   bif r54 then
    (C.threads_Threads_Line r4 (0 : Int) (andI .i64 prio1 (255 : Int)) (fun r56 w57 =>
   bif (r56.len : Int) == (0 : Int) then
    (bif r46 == (0 : Int) then
    (bif r47 then
    (C.law10_fixed  (fun r58 w59 =>
   K r58 w59) w57)
   else
    (K false w57))
   else
    (K false w57))
   else
    (K false w57)) w55)
   else
    (K false w55)) w53)
   else
    (K false w48))
   else
    (K false w48))
   else
    (K false w48))
   else
    (K false w48))
   else
    (K false w48))
   else
    (K false w48))
   else
    (K false w48))
   else
    (K false w48))
   else
    (K false w48)) w45) w43) w27) w24) w21) w19) w16) w14) w12) w9)) → k7 t8 w9) →
   (bif r4.isNone then
    (k7 true w6)
   else
    (k7 (r5 != (0 : Int)) w6))) w
set_option maxRecDepth 100000 in
theorem S.law10_ThreadsMoves_ok (prio1 : Int) (i2 : Int) (v3 : Int) (K : Bool → World → Prop) (w : World) (h : S.law10_ThreadsMoves prio1 i2 v3 K w) : C.law10_ThreadsMoves prio1 i2 v3 K w := by
  have e : fnV Try.prog Try.f7 (bodyOf Try.f7) (.t none (.u) (.t none (.u) (.t none (.t none (.r (some [(30, .c (.b))]) .done) (.t none (.t none (.u) (.u)) (.u))) (.t none (.u) (.t none (.u) (.t none (.u) (.t none (.u) (.t none (.u) (.t none (.u) (.t none (.u) (.t none (.u) (.t none (.u) (.t none (.u) (.t none (.u) (.t none (.u) (.u)))))))))))))))) [(0, .c (.b))] [.int .i64 prio1, .int .i64 i2, .int .u64 v3] K w = S.law10_ThreadsMoves prio1 i2 v3 K w := by kernel_rfl
  exact okF_mk Try.func7 rfl (fn_sound names_ok follows_ok Try.func7 rfl (by kernel_rfl) (Eq.mpr e h))

/-- buttress/buttresslaw10.ThreadsPick -/
def S.law10_ThreadsPick (cores1 : Int) (core2 : Int) (script3 : Sl) (K : Bool → World → Prop) (w : World) : Prop :=
  C.threads_New (IntKind.i64.wrap ((1 : Int) + (andI .i64 cores1 (7 : Int)))) (fun r4 r5 w6 =>
   ∀ k7 : Bool → World → Prop,
   (∀ (t8 : Bool) (w9 : World), (bif t8 then
    (K false w9)
   else
    (∀ l10 : Int → Int → World → Prop,
   (∀ (made11 : Int) (i12 : Int) (w13 : World), (∀ k14 : Bool → World → Prop,
   (∀ (t15 : Bool) (w16 : World), (bif t15 then
    (∃ a17 : Addr, script3.a = some a17 ∧ 0 ≤ i12 ∧ i12 < (script3.len : Int) ∧
   LdL w16 (a17.add (i12.toNat * 5)) 0 [.i .i64, .i .i64, .i .i64, .i .i64, .i .u64] fun (t18 : Int) (t19 : Int) (t20 : Int) (t21 : Int) (t22 : Int) =>
   Al w16 (.cells #[.int .i64 (0 : Int), .int .i64 (0 : Int), .int .i64 (0 : Int), .int .i64 (0 : Int), .int .u64 (0 : Int)] 48) fun w23 =>
   StL w23 (Addr.mk w16.heap.size 0 none) 0 [.int .i64 t18, .int .i64 t19, .int .i64 t20, .int .i64 t21, .int .u64 t22] fun w24 =>
   ∃ kind25 : Int, w24.cell? (Addr.mk w16.heap.size 0 none) = some (.int .i64 kind25) ∧
   bif kind25 == (0 : Int) then
    (∃ n26 : Int, w24.cell? ((Addr.mk w16.heap.size 0 none).add 3) = some (.int .i64 n26) ∧
   ∃ core27 : Int, w24.cell? ((Addr.mk w16.heap.size 0 none).add 2) = some (.int .i64 core27) ∧
   C.threads_Threads_Make r4 n26 core27 (fun r28 r29 w30 =>
   bif r29 == (0 : Int) then
    (l10 (IntKind.i64.wrap (made11 + (1 : Int))) (IntKind.i64.wrap (i12 + (1 : Int))) w30)
   else
    (l10 made11 (IntKind.i64.wrap (i12 + (1 : Int))) w30)) w24)
   else
    (LdL w24 (Addr.mk w16.heap.size 0 none) 0 [.i .i64, .i .i64, .i .i64, .i .i64, .i .u64] fun (kind31 : Int) (kind32 : Int) (kind33 : Int) (kind34 : Int) (kind35 : Int) =>
   C.law10_done r4 kind31 kind32 kind33 kind34 kind35 (fun w36 =>
   l10 made11 (IntKind.i64.wrap (i12 + (1 : Int))) w36) w24))
   else
    ((IntKind.i64.wrap ((1 : Int) + (andI .i64 cores1 (7 : Int)))) ≠ 0 ∧
   C.threads_Threads_Pick r4 ((andI .i64 core2 (65535 : Int)).tmod (IntKind.i64.wrap ((1 : Int) + (andI .i64 cores1 (7 : Int))))) (fun r37 r38 w39 =>
   ∀ l40 : Int → Bool → Int → World → Prop,
   (∀ (running41 : Int) (ready42 : Bool) (i43 : Int) (w44 : World), (bif decide (i43 < made11) then
    (C.threads_Threads_Get r4 i43 (fun r45 r46 r47 r48 r49 r50 r51 r52 r53 r54 r55 r56 r57 w58 =>
   Al w58 (.cells #[.int .i64 (0 : Int), .int .i64 (0 : Int), .int .i64 (0 : Int), .int .i64 (0 : Int), .int .u64 (0 : Int), .int .u64 (0 : Int), .int .u64 (0 : Int), .int .u64 (0 : Int), .int .u64 (0 : Int), .int .u64 (0 : Int), .int .u64 (0 : Int), .int .u64 (0 : Int)] 37) fun w59 =>
   StL w59 (Addr.mk w58.heap.size 0 none) 0 [.int .i64 r45, .int .i64 r46, .int .i64 r47, .int .i64 r48, .int .u64 r49, .int .u64 r50, .int .u64 r51, .int .u64 r52, .int .u64 r53, .int .u64 r54, .int .u64 r55, .int .u64 r56] fun w60 =>
   C.threads_Threads_Get r4 r37 (fun r61 r62 r63 r64 r65 r66 r67 r68 r69 r70 r71 r72 r73 w74 =>
   Al w74 (.cells #[.int .i64 (0 : Int), .int .i64 (0 : Int), .int .i64 (0 : Int), .int .i64 (0 : Int), .int .u64 (0 : Int), .int .u64 (0 : Int), .int .u64 (0 : Int), .int .u64 (0 : Int), .int .u64 (0 : Int), .int .u64 (0 : Int), .int .u64 (0 : Int), .int .u64 (0 : Int)] 37) fun w75 =>
   StL w75 (Addr.mk w74.heap.size 0 none) 0 [.int .i64 r61, .int .i64 r62, .int .i64 r63, .int .i64 r64, .int .u64 r65, .int .u64 r66, .int .u64 r67, .int .u64 r68, .int .u64 r69, .int .u64 r70, .int .u64 r71, .int .u64 r72] fun w76 =>
   bif r57 != (0 : Int) then
    (K false w76)
   else
    (∃ core77 : Int, w76.cell? ((Addr.mk w58.heap.size 0 none).add 2) = some (.int .i64 core77) ∧
   bif core77 != ((andI .i64 core2 (65535 : Int)).tmod (IntKind.i64.wrap ((1 : Int) + (andI .i64 cores1 (7 : Int))))) then
    (l40 running41 ready42 (IntKind.i64.wrap (i43 + (1 : Int))) w76)
   else
    (∃ state78 : Int, w76.cell? (Addr.mk w58.heap.size 0 none) = some (.int .i64 state78) ∧
   ∀ k79 : Int → World → Prop,
   (∀ (running80 : Int) (w81 : World), (∀ k82 : Bool → World → Prop,
   (∀ (ready83 : Bool) (w84 : World), (∀ k85 : Bool → World → Prop,
   (∀ (t86 : Bool) (w87 : World), (bif t86 then
    (K false w87)
   else
    (l40 running80 ready83 (IntKind.i64.wrap (i43 + (1 : Int))) w87)) → k85 t86 w87) →
   (∃ state88 : Int, w84.cell? (Addr.mk w58.heap.size 0 none) = some (.int .i64 state88) ∧
   bif state88 == (1 : Int) then
    (bif !r38 then
    (k85 true w84)
   else
    (∃ prio89 : Int, w84.cell? ((Addr.mk w58.heap.size 0 none).add 1) = some (.int .i64 prio89) ∧
   ∃ prio90 : Int, w84.cell? ((Addr.mk w74.heap.size 0 none).add 1) = some (.int .i64 prio90) ∧
   bif decide (prio89 > prio90) then
    (k85 true w84)
   else
    (∃ state91 : Int, w84.cell? (Addr.mk w58.heap.size 0 none) = some (.int .i64 state91) ∧
   bif state91 == (2 : Int) then
    (k85 (i43 != r37) w84)
   else
    (k85 false w84))))
   else
    (∃ state92 : Int, w84.cell? (Addr.mk w58.heap.size 0 none) = some (.int .i64 state92) ∧
   bif state92 == (2 : Int) then
    (k85 (i43 != r37) w84)
   else
    (k85 false w84)))) → k82 ready83 w84) →
   (bif ready42 then
    (k82 true w81)
   else
    (∃ state93 : Int, w81.cell? (Addr.mk w58.heap.size 0 none) = some (.int .i64 state93) ∧
   k82 (state93 == (1 : Int)) w81))) → k79 running80 w81) →
   (bif state78 == (2 : Int) then
    (k79 (IntKind.i64.wrap (running41 + (1 : Int))) w76)
   else
    (k79 running41 w76))))) w60) w44)
   else
    (bif (running41 == (1 : Int)) == r38 then
    (bif decide (running41 ≤ (1 : Int)) then
    (bif r38 then
    (C.law10_fixed  (fun r94 w95 =>
   K r94 w95) w44)
   else
    (bif !ready42 then
    (C.law10_fixed  (fun r96 w97 =>
   K r96 w97) w44)
   else
    (K false w44)))
   else
    (K false w44))
   else
    (K false w44))) → l40 running41 ready42 i43 w44) →
   l40 (0 : Int) false (0 : Int) w39) w16)) → k14 t15 w16) →
   (bif decide (i12 < (script3.len : Int)) then
    (k14 (decide (i12 < (60 : Int))) w13)
   else
    (k14 false w13))) → l10 made11 i12 w13) →
   l10 (0 : Int) (0 : Int) w9)) → k7 t8 w9) →
   (bif r4.isNone then
    (k7 true w6)
   else
    (k7 (r5 != (0 : Int)) w6))) w
set_option maxRecDepth 100000 in
theorem S.law10_ThreadsPick_ok (cores1 : Int) (core2 : Int) (script3 : Sl) (K : Bool → World → Prop) (w : World) (h : S.law10_ThreadsPick cores1 core2 script3 K w) : C.law10_ThreadsPick cores1 core2 script3 K w := by
  have e : fnV Try.prog Try.f8 (bodyOf Try.f8) (.t none (.u) (.t none (.u) (.t none (.u) (.t none (.t none (.r (some [(38, .c (.b))]) .done) (.t none (.t none (.u) (.u)) (.u))) (.t none (.u) (.t none (.t none (.u) (.t none (.t (some [(10, .c (.i .i64)), (11, .c (.i .i64))]) (.t none (.t none (.r (some [(46, .c (.b))]) .done) (.t none (.u) (.u))) (.t none (.t none (.t none (.u) (.t none (.u) (.t none (.t none (.u) (.t none (.u) (.t none (.u) (.u)))) (.u)))) (.u)) (.u))) (.u)) (.u))) (.t none (.u) (.t none (.u) (.t none (.u) (.t none (.t none (.u) (.t none (.t (some [(18, .c (.i .i64)), (19, .c (.b)), (20, .c (.i .i64))]) (.t none (.t none (.u) (.t none (.u) (.u))) (.t none (.t none (.t none (.u) (.t none (.u) (.t none (.t none (.u) (.t none (.t none (.u) (.u)) (.u))) (.t none (.t none (.u) (.t none (.u) (.u))) (.t none (.t none (.u) (.t (some [(18, .c (.i .i64))]) (.u) (.u))) (.t none (.r (some [(19, .c (.b))]) .done) (.t none (.r (some [(139, .c (.b))]) .done) (.t none (.t none (.u) (.u)) (.u))))))))) (.u)) (.u))) (.u)) (.u))) (.t none (.u) (.u)))))))))))) [(0, .c (.b))] [.int .i64 cores1, .int .i64 core2, .slice script3.a script3.len script3.cap] K w = S.law10_ThreadsPick cores1 core2 script3 K w := by kernel_rfl
  exact okF_mk Try.func8 rfl (fn_sound names_ok follows_ok Try.func8 rfl (by kernel_rfl) (Eq.mpr e h))

/-- buttress/buttresslaw10.ThreadsNone -/
def S.law10_ThreadsNone (script1 : Sl) (o2 : Int) (o3 : Int) (o4 : Int) (o5 : Int) (o6 : Int) (K : Bool → World → Prop) (w : World) : Prop :=
  Al w (.cells #[.int .i64 o2, .int .i64 o3, .int .i64 o4, .int .i64 o5, .int .u64 o6] 48) fun w7 =>
   C.threads_New (2 : Int) (fun r8 r9 w10 =>
   ∀ k11 : Bool → World → Prop,
   (∀ (t12 : Bool) (w13 : World), (bif t12 then
    (K false w13)
   else
    (∀ l14 : Int → World → Prop,
   (∀ (i15 : Int) (w16 : World), (∀ k17 : Bool → World → Prop,
   (∀ (t18 : Bool) (w19 : World), (bif t18 then
    (∃ a20 : Addr, script1.a = some a20 ∧ 0 ≤ i15 ∧ i15 < (script1.len : Int) ∧
   LdL w19 (a20.add (i15.toNat * 5)) 0 [.i .i64, .i .i64, .i .i64, .i .i64, .i .u64] fun (t21 : Int) (t22 : Int) (t23 : Int) (t24 : Int) (t25 : Int) =>
   C.law10_done r8 t21 t22 t23 t24 t25 (fun w26 =>
   l14 (IntKind.i64.wrap (i15 + (1 : Int))) w26) w19)
   else
    (Dr w19 fun w27 =>
   ∃ id28 : Int, w27.cell? ((Addr.mk w.heap.size 0 none).add 1) = some (.int .i64 id28) ∧
   ∃ id29 : Int, w27.cell? ((Addr.mk w.heap.size 0 none).add 1) = some (.int .i64 id29) ∧
   ∃ id30 : Int, w27.cell? ((Addr.mk w.heap.size 0 none).add 1) = some (.int .i64 id30) ∧
   (C.threads_Threads_Resume r8 id28 (fun r31 w32 =>
   w32.cell? ((Addr.mk w.heap.size 0 none).add 1) = some (.int .i64 id30) ∧
   w32.cell? ((Addr.mk w.heap.size 0 none).add 1) = some (.int .i64 id29) ∧
   (C.threads_Threads_Suspend r8 id29 (fun r33 w34 =>
   w34.cell? ((Addr.mk w.heap.size 0 none).add 1) = some (.int .i64 id30) ∧
   (C.threads_Threads_Block r8 id30 (fun r35 w36 =>
   Dr w36 fun w37 =>
   ∃ id38 : Int, w37.cell? ((Addr.mk w.heap.size 0 none).add 1) = some (.int .i64 id38) ∧
   ∃ id39 : Int, w37.cell? ((Addr.mk w.heap.size 0 none).add 1) = some (.int .i64 id39) ∧
   ∃ id40 : Int, w37.cell? ((Addr.mk w.heap.size 0 none).add 1) = some (.int .i64 id40) ∧
   ∃ v41 : Int, w37.cell? ((Addr.mk w.heap.size 0 none).add 4) = some (.int .u64 v41) ∧
   (C.threads_Threads_Prio r8 id38 (5 : Int) (fun r42 w43 =>
   w43.cell? ((Addr.mk w.heap.size 0 none).add 4) = some (.int .u64 v41) ∧
   w43.cell? ((Addr.mk w.heap.size 0 none).add 1) = some (.int .i64 id40) ∧
   w43.cell? ((Addr.mk w.heap.size 0 none).add 1) = some (.int .i64 id39) ∧
   (C.threads_Threads_Core r8 id39 (1 : Int) (fun r44 w45 =>
   w45.cell? ((Addr.mk w.heap.size 0 none).add 4) = some (.int .u64 v41) ∧
   w45.cell? ((Addr.mk w.heap.size 0 none).add 1) = some (.int .i64 id40) ∧
   (C.threads_Threads_Reg r8 id40 (0 : Int) v41 (fun r46 w47 =>
   ∃ id48 : Int, w47.cell? ((Addr.mk w.heap.size 0 none).add 1) = some (.int .i64 id48) ∧
   C.threads_Threads_Get r8 id48 (fun r49 r50 r51 r52 r53 r54 r55 r56 r57 r58 r59 r60 r61 w62 =>
   Al w62 (.cells #[.int .i64 (0 : Int), .int .i64 (0 : Int), .int .i64 (0 : Int), .int .i64 (0 : Int), .int .u64 (0 : Int), .int .u64 (0 : Int), .int .u64 (0 : Int), .int .u64 (0 : Int), .int .u64 (0 : Int), .int .u64 (0 : Int), .int .u64 (0 : Int), .int .u64 (0 : Int)] 37) fun w63 =>
   StL w63 (Addr.mk w62.heap.size 0 none) 0 [.int .i64 r49, .int .i64 r50, .int .i64 r51, .int .i64 r52, .int .u64 r53, .int .u64 r54, .int .u64 r55, .int .u64 r56, .int .u64 r57, .int .u64 r58, .int .u64 r59, .int .u64 r60] fun w64 =>
   ∃ core65 : Int, w64.cell? ((Addr.mk w.heap.size 0 none).add 2) = some (.int .i64 core65) ∧
   C.threads_Threads_Pick r8 core65 (fun r66 r67 w68 =>
   bif r31 == (100 : Int) then
    (bif r33 == (100 : Int) then
    (bif r35 == (100 : Int) then
    (bif r42 == (100 : Int) then
    (bif r44 == (100 : Int) then
    (bif r46 == (100 : Int) then
    (bif r61 == (100 : Int) then
    (bif !r67 then
    (∃ core69 : Int, w68.cell? ((Addr.mk w.heap.size 0 none).add 2) = some (.int .i64 core69) ∧
   C.threads_Threads_Yield r8 core69 (fun r70 w71 =>
   bif !r70 then
    (∃ core72 : Int, w71.cell? ((Addr.mk w.heap.size 0 none).add 2) = some (.int .i64 core72) ∧
   C.threads_Threads_Tick r8 core72 (fun r73 w74 =>
   bif !r73 then
    (C.law10_fixed  (fun r75 w76 =>
   K r75 w76) w74)
   else
    (K false w74)) w71)
   else
    (K false w71)) w68)
   else
    (K false w68))
   else
    (K false w68))
   else
    (K false w68))
   else
    (K false w68))
   else
    (K false w68))
   else
    (K false w68))
   else
    (K false w68))
   else
    (K false w68)) w64) w47) w45) ∧
   True) w43) ∧
   True) w37) ∧
   True) w34) ∧
   True) w32) ∧
   True) w27) ∧
   True)) → k17 t18 w19) →
   (bif decide (i15 < (script1.len : Int)) then
    (k17 (decide (i15 < (60 : Int))) w16)
   else
    (k17 false w16))) → l14 i15 w16) →
   l14 (0 : Int) w13)) → k11 t12 w13) →
   (bif r8.isNone then
    (k11 true w10)
   else
    (k11 (r9 != (0 : Int)) w10))) w7
set_option maxRecDepth 100000 in
theorem S.law10_ThreadsNone_ok (script1 : Sl) (o2 : Int) (o3 : Int) (o4 : Int) (o5 : Int) (o6 : Int) (K : Bool → World → Prop) (w : World) (h : S.law10_ThreadsNone script1 o2 o3 o4 o5 o6 K w) : C.law10_ThreadsNone script1 o2 o3 o4 o5 o6 K w := by
  have e : fnV Try.prog Try.f9 (bodyOf Try.f9) (.t none (.u) (.t none (.u) (.t none (.t none (.r (some [(28, .c (.b))]) .done) (.t none (.t none (.u) (.u)) (.u))) (.t none (.t none (.u) (.t none (.t (some [(7, .c (.i .i64))]) (.t none (.t none (.r (some [(36, .c (.b))]) .done) (.t none (.u) (.u))) (.t none (.t none (.u) (.u)) (.u))) (.u)) (.u))) (.t none (.r none (.one 0 1910 (.one 1 1904 (.one 2 1904 (.one 4 1896 (.one 5 1800 (.one 8 1736 (.one 9 200 (.hold 6 1032 30591 (.hold 10 136 30719 (.alt 3 (.alt 7 (.alt 11 (.one 12 0 (.one 13 0 (.one 14 0 (.done)))) (.none)) (.none)) (.none)))))))))))) (.t none (.r none (.one 0 8054 (.one 1 8048 (.one 2 8048 (.one 4 8040 (.one 5 7944 (.one 8 7880 (.one 9 6344 (.one 11 1224 (.hold 6 5128 122751 (.hold 10 4232 122879 (.hold 12 136 122879 (.alt 3 (.alt 7 (.alt 13 (.one 14 0 (.one 15 0 (.one 16 0 (.done)))) (.none)) (.none)) (.none)))))))))))))) (.t none (.u) (.t none (.u) (.t none (.u) (.t none (.u) (.u))))))))))) [(0, .c (.b))] [.slice script1.a script1.len script1.cap, .agg #[.int .i64 o2, .int .i64 o3, .int .i64 o4, .int .i64 o5, .int .u64 o6]] K w = S.law10_ThreadsNone script1 o2 o3 o4 o5 o6 K w := by kernel_rfl
  exact okF_mk Try.func9 rfl (fn_sound names_ok follows_ok Try.func9 rfl (by kernel_rfl) (Eq.mpr e h))

/-- buttress/buttresslaw10.ThreadsDoes -/
def S.law10_ThreadsDoes (cores1 : Int) (script2 : Sl) (K : Bool → World → Prop) (w : World) : Prop :=
  C.threads_New (IntKind.i64.wrap ((1 : Int) + (andI .i64 cores1 (7 : Int)))) (fun r3 r4 w5 =>
   C.ref10_New (IntKind.i64.wrap ((1 : Int) + (andI .i64 cores1 (7 : Int)))) (fun r6 r7 w8 =>
   ∀ k9 : Bool → World → Prop,
   (∀ (t10 : Bool) (w11 : World), (bif t10 then
    (K false w11)
   else
    (∀ l12 : Option Addr → Int → World → Prop,
   (∀ (t13 : Option Addr) (i14 : Int) (w15 : World), (∀ k16 : Bool → World → Prop,
   (∀ (t17 : Bool) (w18 : World), (bif t17 then
    (∃ a19 : Addr, script2.a = some a19 ∧ 0 ≤ i14 ∧ i14 < (script2.len : Int) ∧
   LdL w18 (a19.add (i14.toNat * 5)) 0 [.i .i64, .i .i64, .i .i64, .i .i64, .i .u64] fun (t20 : Int) (t21 : Int) (t22 : Int) (t23 : Int) (t24 : Int) =>
   Al w18 (.cells #[.int .i64 (0 : Int), .int .i64 (0 : Int), .int .i64 (0 : Int), .int .i64 (0 : Int), .int .u64 (0 : Int)] 48) fun w25 =>
   StL w25 (Addr.mk w18.heap.size 0 none) 0 [.int .i64 t20, .int .i64 t21, .int .i64 t22, .int .i64 t23, .int .u64 t24] fun w26 =>
   ∃ kind27 : Int, w26.cell? (Addr.mk w18.heap.size 0 none) = some (.int .i64 kind27) ∧
   ∀ k28 : Option Addr → World → Prop,
   (∀ (t29 : Option Addr) (w30 : World), (LdL w30 (Addr.mk w18.heap.size 0 none) 0 [.i .i64, .i .i64, .i .i64, .i .i64, .i .u64] fun (kind31 : Int) (kind32 : Int) (kind33 : Int) (kind34 : Int) (kind35 : Int) =>
   C.law10_same t29 r6 kind31 kind32 kind33 kind34 kind35 (fun r36 w37 =>
   bif !r36 then
    (K false w37)
   else
    (∀ l38 : Int → World → Prop,
   (∀ (id39 : Int) (w40 : World), (∃ a41 : Addr, r6 = some a41 ∧
   ∃ l42 : Sl, w40.cell? a41 = some (.slice l42.a l42.len l42.cap) ∧
   bif decide (id39 ≤ (l42.len : Int)) then
    (C.threads_Threads_Get t29 id39 (fun r43 r44 r45 r46 r47 r48 r49 r50 r51 r52 r53 r54 r55 w56 =>
   Al w56 (.cells #[.int .i64 (0 : Int), .int .i64 (0 : Int), .int .i64 (0 : Int), .int .i64 (0 : Int), .int .u64 (0 : Int), .int .u64 (0 : Int), .int .u64 (0 : Int), .int .u64 (0 : Int), .int .u64 (0 : Int), .int .u64 (0 : Int), .int .u64 (0 : Int), .int .u64 (0 : Int)] 37) fun w57 =>
   StL w57 (Addr.mk w56.heap.size 0 none) 0 [.int .i64 r43, .int .i64 r44, .int .i64 r45, .int .i64 r46, .int .u64 r47, .int .u64 r48, .int .u64 r49, .int .u64 r50, .int .u64 r51, .int .u64 r52, .int .u64 r53, .int .u64 r54] fun w58 =>
   C.ref10_Threads_Get r6 id39 (fun r59 r60 r61 r62 r63 r64 r65 r66 r67 r68 r69 r70 r71 w72 =>
   Al w72 (.cells #[.int .i64 (0 : Int), .int .i64 (0 : Int), .int .i64 (0 : Int), .int .i64 (0 : Int), .int .u64 (0 : Int), .int .u64 (0 : Int), .int .u64 (0 : Int), .int .u64 (0 : Int), .int .u64 (0 : Int), .int .u64 (0 : Int), .int .u64 (0 : Int), .int .u64 (0 : Int)] 37) fun w73 =>
   StL w73 (Addr.mk w72.heap.size 0 none) 0 [.int .i64 r59, .int .i64 r60, .int .i64 r61, .int .i64 r62, .int .u64 r63, .int .u64 r64, .int .u64 r65, .int .u64 r66, .int .u64 r67, .int .u64 r68, .int .u64 r69, .int .u64 r70] fun w74 =>
   ∀ k75 : Bool → World → Prop,
   (∀ (t76 : Bool) (w77 : World), (bif t76 then
    (K false w77)
   else
    (l38 (IntKind.i64.wrap (id39 + (1 : Int))) w77)) → k75 t76 w77) →
   (LdL w74 (Addr.mk w56.heap.size 0 none) 0 [.i .i64, .i .i64, .i .i64, .i .i64, .i .u64, .i .u64, .i .u64, .i .u64, .i .u64, .i .u64, .i .u64, .i .u64] fun (t78 : Int) (t79 : Int) (t80 : Int) (t81 : Int) (t82 : Int) (t83 : Int) (t84 : Int) (t85 : Int) (t86 : Int) (t87 : Int) (t88 : Int) (t89 : Int) =>
   LdL w74 (Addr.mk w72.heap.size 0 none) 0 [.i .i64, .i .i64, .i .i64, .i .i64, .i .u64, .i .u64, .i .u64, .i .u64, .i .u64, .i .u64, .i .u64, .i .u64] fun (t90 : Int) (t91 : Int) (t92 : Int) (t93 : Int) (t94 : Int) (t95 : Int) (t96 : Int) (t97 : Int) (t98 : Int) (t99 : Int) (t100 : Int) (t101 : Int) =>
   ∃ eq102 : Bool, EqB Try.prog .neq 37 (.tmp 105) (.tmp 106) (.agg #[.int .i64 t78, .int .i64 t79, .int .i64 t80, .int .i64 t81, .int .u64 t82, .int .u64 t83, .int .u64 t84, .int .u64 t85, .int .u64 t86, .int .u64 t87, .int .u64 t88, .int .u64 t89]) (.agg #[.int .i64 t90, .int .i64 t91, .int .i64 t92, .int .i64 t93, .int .u64 t94, .int .u64 t95, .int .u64 t96, .int .u64 t97, .int .u64 t98, .int .u64 t99, .int .u64 t100, .int .u64 t101]) eq102 ∧
   bif eq102 then
    (k75 true w74)
   else
    (k75 (r55 != r71) w74))) w58) w40)
   else
    (∃ core103 : Int, w40.cell? ((Addr.mk w18.heap.size 0 none).add 2) = some (.int .i64 core103) ∧
   C.threads_Threads_Runs t29 core103 (fun r104 r105 w106 =>
   ∃ core107 : Int, w106.cell? ((Addr.mk w18.heap.size 0 none).add 2) = some (.int .i64 core107) ∧
   C.ref10_Threads_Runs r6 core107 (fun r108 r109 w110 =>
   ∀ k111 : Bool → World → Prop,
   (∀ (t112 : Bool) (w113 : World), (bif t112 then
    (K false w113)
   else
    (l12 t29 (IntKind.i64.wrap (i14 + (1 : Int))) w113)) → k111 t112 w113) →
   (Dr w110 fun w114 =>
   bif r104 != r108 then
    ((((k111 true w114) ∧
   True) ∧
   True) ∧
   ((((k111 true w114) ∧
   True) ∧
   True) ∧
   ((((k111 true w114) ∧
   True) ∧
   True) ∧
   True) ∧
   True) ∧
   ((((k111 true w114) ∧
   True) ∧
   True) ∧
   ((((k111 true w114) ∧
   True) ∧
   True) ∧
   True) ∧
   True) ∧
   True)
   else
    (bif !(r105 == r109) then
    ((((k111 true w114) ∧
   True) ∧
   True) ∧
   ((((k111 true w114) ∧
   True) ∧
   True) ∧
   ((((k111 true w114) ∧
   True) ∧
   True) ∧
   True) ∧
   True) ∧
   ((((k111 true w114) ∧
   True) ∧
   True) ∧
   ((((k111 true w114) ∧
   True) ∧
   True) ∧
   True) ∧
   True) ∧
   True)
   else
    (∃ core115 : Int, w114.cell? ((Addr.mk w18.heap.size 0 none).add 2) = some (.int .i64 core115) ∧
   ∃ n116 : Int, w114.cell? ((Addr.mk w18.heap.size 0 none).add 3) = some (.int .i64 n116) ∧
   (C.threads_Threads_Line t29 core115 n116 (fun r117 w118 =>
   ∃ core119 : Int, w118.cell? ((Addr.mk w18.heap.size 0 none).add 2) = some (.int .i64 core119) ∧
   ∃ n120 : Int, w118.cell? ((Addr.mk w18.heap.size 0 none).add 3) = some (.int .i64 n120) ∧
   (C.ref10_Threads_Line r6 core119 n120 (fun r121 w122 =>
   (C.ref09_Nums r117 r121 (fun r123 w124 =>
   k111 (!r123) w124) w122) ∧
   True) w118) ∧
   True) w114) ∧
   (∃ core125 : Int, w114.cell? ((Addr.mk w18.heap.size 0 none).add 2) = some (.int .i64 core125) ∧
   (C.threads_Threads_Line t29 core115 n116 (fun r126 w127 =>
   ∃ n128 : Int, w127.cell? ((Addr.mk w18.heap.size 0 none).add 3) = some (.int .i64 n128) ∧
   (C.ref10_Threads_Line r6 core125 n128 (fun r129 w130 =>
   (C.ref09_Nums r126 r129 (fun r131 w132 =>
   k111 (!r131) w132) w130) ∧
   True) w127) ∧
   True) w114) ∧
   (∃ n133 : Int, w114.cell? ((Addr.mk w18.heap.size 0 none).add 3) = some (.int .i64 n133) ∧
   (C.threads_Threads_Line t29 core115 n116 (fun r134 w135 =>
   (C.ref10_Threads_Line r6 core125 n133 (fun r136 w137 =>
   (C.ref09_Nums r134 r136 (fun r138 w139 =>
   k111 (!r138) w139) w137) ∧
   True) w135) ∧
   True) w114) ∧
   True) ∧
   True) ∧
   (∃ n140 : Int, w114.cell? ((Addr.mk w18.heap.size 0 none).add 3) = some (.int .i64 n140) ∧
   (C.threads_Threads_Line t29 core115 n116 (fun r141 w142 =>
   ∃ core143 : Int, w142.cell? ((Addr.mk w18.heap.size 0 none).add 2) = some (.int .i64 core143) ∧
   (C.ref10_Threads_Line r6 core143 n140 (fun r144 w145 =>
   (C.ref09_Nums r141 r144 (fun r146 w147 =>
   k111 (!r146) w147) w145) ∧
   True) w142) ∧
   True) w114) ∧
   (∃ core148 : Int, w114.cell? ((Addr.mk w18.heap.size 0 none).add 2) = some (.int .i64 core148) ∧
   (C.threads_Threads_Line t29 core115 n116 (fun r149 w150 =>
   (C.ref10_Threads_Line r6 core148 n140 (fun r151 w152 =>
   (C.ref09_Nums r149 r151 (fun r153 w154 =>
   k111 (!r153) w154) w152) ∧
   True) w150) ∧
   True) w114) ∧
   True) ∧
   True) ∧
   True)))) w106) w40)) → l38 id39 w40) →
   l38 (0 : Int) w37)) w30) → k28 t29 w30) →
   (bif kind27 == (10 : Int) then
    (C.threads_Threads_Copy t13 (fun r155 w156 =>
   ∃ id157 : Int, w156.cell? ((Addr.mk w18.heap.size 0 none).add 1) = some (.int .i64 id157) ∧
   C.threads_Threads_Suspend t13 id157 (fun r158 w159 =>
   C.threads_Threads_Make t13 (1 : Int) (0 : Int) (fun r160 r161 w162 =>
   C.threads_Threads_Pick t13 (0 : Int) (fun r163 r164 w165 =>
   bif r155.isNone then
    (K false w165)
   else
    (k28 r155 w165)) w162) w159) w156) w26)
   else
    (k28 t13 w26)))
   else
    (C.law10_fixed  (fun r166 w167 =>
   K r166 w167) w18)) → k16 t17 w18) →
   (bif decide (i14 < (script2.len : Int)) then
    (k16 (decide (i14 < (80 : Int))) w15)
   else
    (k16 false w15))) → l12 t13 i14 w15) →
   l12 r3 (0 : Int) w11)) → k9 t10 w11) →
   (bif r3.isNone then
    (k9 true w8)
   else
    (bif r6.isNone then
    (k9 true w8)
   else
    (bif r4 != (0 : Int) then
    (k9 true w8)
   else
    (k9 (r7 != (0 : Int)) w8))))) w5) w
set_option maxRecDepth 100000 in
theorem S.law10_ThreadsDoes_ok (cores1 : Int) (script2 : Sl) (K : Bool → World → Prop) (w : World) (h : S.law10_ThreadsDoes cores1 script2 K w) : C.law10_ThreadsDoes cores1 script2 K w := by
  have e : fnV Try.prog Try.f10 (bodyOf Try.f10) (.t none (.u) (.t none (.u) (.t none (.u) (.t none (.t none (.r (some [(48, .c (.b))]) .done) (.t none (.t none (.u) (.u)) (.u))) (.t none (.t none (.u) (.t none (.t (some [(5, .c (.p)), (9, .c (.i .i64))]) (.t none (.t none (.r (some [(56, .c (.b))]) .done) (.t none (.u) (.u))) (.t none (.t none (.t none (.u) (.t none (.t none (.u) (.t (some [(5, .c (.p))]) (.t none (.u) (.t none (.u) (.t none (.u) (.t none (.u) (.t none (.u) (.t none (.u) (.t none (.t none (.u) (.u)) (.u)))))))) (.u))) (.t none (.t none (.u) (.t none (.t none (.u) (.u)) (.u))) (.t none (.t none (.u) (.t none (.t (some [(12, .c (.i .i64))]) (.t none (.t none (.u) (.t none (.u) (.u))) (.t none (.t none (.t none (.u) (.t none (.u) (.t none (.r (some [(112, .c (.b))]) .done) (.t none (.t none (.u) (.u)) (.u))))) (.u)) (.u))) (.u)) (.u))) (.t none (.u) (.t none (.u) (.t none (.r (some [(150, .c (.b))]) (.one 0 2 (.one 1 0 (.one 2 0 (.one 3 0 (.one 4 32 (.one 5 0 (.one 6 0 (.one 7 0 (.one 8 0 (.one 9 1031168 (.one 10 1028096 (.one 11 1028096 (.one 12 1015808 (.one 13 1015808 (.one 15 999424 (.one 16 802816 (.one 18 147456 (.alt 14 (.one 17 524288 (.one 19 0 (.alt 20 (.alt 21 (.one 22 0 (.one 23 0 (.done))) (.none)) (.none)))) (.alt 17 (.alt 14 (.one 19 0 (.alt 20 (.alt 21 (.one 22 0 (.one 23 0 (.done))) (.none)) (.none))) (.alt 19 (.alt 14 (.alt 20 (.alt 21 (.one 22 0 (.one 23 0 (.done))) (.none)) (.none)) (.none)) (.none))) (.alt 19 (.alt 14 (.one 17 0 (.alt 20 (.alt 21 (.one 22 0 (.one 23 0 (.done))) (.none)) (.none))) (.alt 17 (.alt 14 (.alt 20 (.alt 21 (.one 22 0 (.one 23 0 (.done))) (.none)) (.none)) (.none)) (.none))) (.none)))))))))))))))))))))) (.t none (.t none (.u) (.u)) (.u))))))))) (.u)) (.u))) (.u)) (.u))) (.t none (.u) (.u))))))) [(0, .c (.b))] [.int .i64 cores1, .slice script2.a script2.len script2.cap] K w = S.law10_ThreadsDoes cores1 script2 K w := by kernel_rfl
  exact okF_mk Try.func10 rfl (fn_sound names_ok follows_ok Try.func10 rfl (by kernel_rfl) (Eq.mpr e h))

/-- buttress/buttresslaw10.fixed -/
def S.law10_fixed (K : Bool → World → Prop) (w : World) : Prop :=
  C.threads_New (1 : Int) (fun r1 r2 w3 =>
   ∀ k4 : Bool → World → Prop,
   (∀ (t5 : Bool) (w6 : World), (bif t5 then
    (K false w6)
   else
    (∀ l7 : Int → World → Prop,
   (∀ (i8 : Int) (w9 : World), (bif decide (i8 < (3 : Int)) then
    ((2 : Int) ≠ 0 ∧
   C.threads_Threads_Make r1 (IntKind.i64.wrap ((5 : Int) + (IntKind.i64.wrap (i8.tdiv (2 : Int))))) (0 : Int) (fun r10 r11 w12 =>
   l7 (IntKind.i64.wrap (i8 + (1 : Int))) w12) w9)
   else
    (C.threads_Threads_Resume r1 (0 : Int) (fun r13 w14 =>
   C.threads_Threads_Resume r1 (1 : Int) (fun r15 w16 =>
   C.threads_Threads_Pick r1 (0 : Int) (fun r17 r18 w19 =>
   ∀ l20 : Int → World → Prop,
   (∀ (k21 : Int) (w22 : World), (bif decide (k21 < (5 : Int)) then
    (C.threads_Threads_Tick r1 (0 : Int) (fun r23 w24 =>
   l20 (IntKind.i64.wrap (k21 + (1 : Int))) w24) w22)
   else
    (C.threads_Threads_Runs r1 (0 : Int) (fun r25 r26 w27 =>
   C.threads_Threads_Resume r1 (2 : Int) (fun r28 w29 =>
   C.threads_Threads_Pick r1 (0 : Int) (fun r30 r31 w32 =>
   C.threads_Threads_Get r1 (2 : Int) (fun r33 r34 r35 r36 r37 r38 r39 r40 r41 r42 r43 r44 r45 w46 =>
   Al w46 (.cells #[.int .i64 (0 : Int), .int .i64 (0 : Int), .int .i64 (0 : Int), .int .i64 (0 : Int), .int .u64 (0 : Int), .int .u64 (0 : Int), .int .u64 (0 : Int), .int .u64 (0 : Int), .int .u64 (0 : Int), .int .u64 (0 : Int), .int .u64 (0 : Int), .int .u64 (0 : Int)] 37) fun w47 =>
   StL w47 (Addr.mk w46.heap.size 0 none) 0 [.int .i64 r33, .int .i64 r34, .int .i64 r35, .int .i64 r36, .int .u64 r37, .int .u64 r38, .int .u64 r39, .int .u64 r40, .int .u64 r41, .int .u64 r42, .int .u64 r43, .int .u64 r44] fun w48 =>
   C.threads_Threads_Resume r1 (2 : Int) (fun r49 w50 =>
   C.threads_Threads_Block r1 (2 : Int) (fun r51 w52 =>
   C.threads_Threads_Get r1 (3 : Int) (fun r53 r54 r55 r56 r57 r58 r59 r60 r61 r62 r63 r64 r65 w66 =>
   Al w66 (.cells #[.int .i64 (0 : Int), .int .i64 (0 : Int), .int .i64 (0 : Int), .int .i64 (0 : Int), .int .u64 (0 : Int), .int .u64 (0 : Int), .int .u64 (0 : Int), .int .u64 (0 : Int), .int .u64 (0 : Int), .int .u64 (0 : Int), .int .u64 (0 : Int), .int .u64 (0 : Int)] 37) fun w67 =>
   StL w67 (Addr.mk w66.heap.size 0 none) 0 [.int .i64 r53, .int .i64 r54, .int .i64 r55, .int .i64 r56, .int .u64 r57, .int .u64 r58, .int .u64 r59, .int .u64 r60, .int .u64 r61, .int .u64 r62, .int .u64 r63, .int .u64 r64] fun w68 =>
   C.threads_New (9 : Int) (fun r69 r70 w71 =>
   C.threads_Threads_Make r1 (256 : Int) (0 : Int) (fun r72 r73 w74 =>
   bif r13 == (0 : Int) then
    (bif r15 == (0 : Int) then
    (bif r17 == (0 : Int) then
    (bif r18 then
    (bif r25 == (1 : Int) then
    (bif r26 then
    (bif r28 == (0 : Int) then
    (bif r30 == (2 : Int) then
    (bif r31 then
    (∃ state75 : Int, w74.cell? (Addr.mk w46.heap.size 0 none) = some (.int .i64 state75) ∧
   bif state75 == (2 : Int) then
    (bif r45 == (0 : Int) then
    (bif r49 == (101 : Int) then
    (bif r51 == (0 : Int) then
    (bif r65 == (100 : Int) then
    (bif r70 == (1 : Int) then
    (bif r73 == (1 : Int) then
    (C.threads_Threads_Line r1 (0 : Int) (5 : Int) (fun r76 w77 =>
   Al w77 (.cells #[.int .i64 (0 : Int), .int .i64 (1 : Int)] 3) fun w78 =>
   C.ref09_Nums r76 ⟨some (Addr.mk w77.heap.size 0 none), 2, 2⟩ (fun r79 w80 =>
   K r79 w80) w78) w74)
   else
    (K false w74))
   else
    (K false w74))
   else
    (K false w74))
   else
    (K false w74))
   else
    (K false w74))
   else
    (K false w74))
   else
    (K false w74))
   else
    (K false w74))
   else
    (K false w74))
   else
    (K false w74))
   else
    (K false w74))
   else
    (K false w74))
   else
    (K false w74))
   else
    (K false w74))
   else
    (K false w74))
   else
    (K false w74)) w71) w68) w52) w50) w48) w32) w29) w27) w22)) → l20 k21 w22) →
   l20 (0 : Int) w19) w16) w14) w9)) → l7 i8 w9) →
   l7 (0 : Int) w6)) → k4 t5 w6) →
   (bif r1.isNone then
    (k4 true w3)
   else
    (k4 (r2 != (0 : Int)) w3))) w
set_option maxRecDepth 100000 in
theorem S.law10_fixed_ok (K : Bool → World → Prop) (w : World) (h : S.law10_fixed  K w) : C.law10_fixed  K w := by
  have e : fnV Try.prog Try.f17 (bodyOf Try.f17) (.t none (.u) (.t none (.u) (.t none (.t none (.r (some [(33, .c (.b))]) .done) (.t none (.t none (.u) (.u)) (.u))) (.t none (.t none (.u) (.t none (.t (some [(3, .c (.i .i64))]) (.t none (.t none (.u) (.t none (.u) (.u))) (.t none (.t none (.u) (.u)) (.u))) (.u)) (.u))) (.t none (.u) (.t none (.u) (.t none (.t none (.u) (.t none (.t (some [(8, .c (.i .i64))]) (.t none (.t none (.u) (.t none (.u) (.u))) (.t none (.t none (.u) (.u)) (.u))) (.u)) (.u))) (.t none (.u) (.t none (.u) (.t none (.u) (.t none (.u) (.t none (.u) (.t none (.u) (.t none (.u) (.t none (.u) (.t none (.u) (.t none (.u) (.u)))))))))))))))))) [(0, .c (.b))] [] K w = S.law10_fixed  K w := by kernel_rfl
  exact okF_mk Try.func17 rfl (fn_sound names_ok follows_ok Try.func17 rfl (by kernel_rfl) (Eq.mpr e h))

/-- buttress/buttresslaw10.done -/
def S.law10_done (t1 : Option Addr) (o2 : Int) (o3 : Int) (o4 : Int) (o5 : Int) (o6 : Int) (K : World → Prop) (w : World) : Prop :=
  Al w (.cells #[.int .i64 o2, .int .i64 o3, .int .i64 o4, .int .i64 o5, .int .u64 o6] 48) fun w7 =>
   ∃ kind8 : Int, w7.cell? (Addr.mk w.heap.size 0 none) = some (.int .i64 kind8) ∧
   bif kind8 == (2 : Int) then
    (∃ id9 : Int, w7.cell? ((Addr.mk w.heap.size 0 none).add 1) = some (.int .i64 id9) ∧
   C.threads_Threads_Resume t1 id9 (fun r10 w11 =>
   K w11) w7)
   else
    (bif kind8 == (3 : Int) then
    (∃ id12 : Int, w7.cell? ((Addr.mk w.heap.size 0 none).add 1) = some (.int .i64 id12) ∧
   C.threads_Threads_Suspend t1 id12 (fun r13 w14 =>
   K w14) w7)
   else
    (bif kind8 == (4 : Int) then
    (∃ id15 : Int, w7.cell? ((Addr.mk w.heap.size 0 none).add 1) = some (.int .i64 id15) ∧
   C.threads_Threads_Block t1 id15 (fun r16 w17 =>
   K w17) w7)
   else
    (bif kind8 == (5 : Int) then
    (∃ id18 : Int, w7.cell? ((Addr.mk w.heap.size 0 none).add 1) = some (.int .i64 id18) ∧
   ∃ n19 : Int, w7.cell? ((Addr.mk w.heap.size 0 none).add 3) = some (.int .i64 n19) ∧
   C.threads_Threads_Prio t1 id18 n19 (fun r20 w21 =>
   K w21) w7)
   else
    (bif kind8 == (6 : Int) then
    (∃ id22 : Int, w7.cell? ((Addr.mk w.heap.size 0 none).add 1) = some (.int .i64 id22) ∧
   ∃ core23 : Int, w7.cell? ((Addr.mk w.heap.size 0 none).add 2) = some (.int .i64 core23) ∧
   C.threads_Threads_Core t1 id22 core23 (fun r24 w25 =>
   K w25) w7)
   else
    (bif kind8 == (7 : Int) then
    (∃ core26 : Int, w7.cell? ((Addr.mk w.heap.size 0 none).add 2) = some (.int .i64 core26) ∧
   C.threads_Threads_Pick t1 core26 (fun r27 r28 w29 =>
   K w29) w7)
   else
    (bif kind8 == (8 : Int) then
    (∃ core30 : Int, w7.cell? ((Addr.mk w.heap.size 0 none).add 2) = some (.int .i64 core30) ∧
   C.threads_Threads_Yield t1 core30 (fun r31 w32 =>
   K w32) w7)
   else
    (bif kind8 == (9 : Int) then
    (∃ core33 : Int, w7.cell? ((Addr.mk w.heap.size 0 none).add 2) = some (.int .i64 core33) ∧
   C.threads_Threads_Tick t1 core33 (fun r34 w35 =>
   K w35) w7)
   else
    (K w7))))))))
set_option maxRecDepth 100000 in
theorem S.law10_done_ok (t1 : Option Addr) (o2 : Int) (o3 : Int) (o4 : Int) (o5 : Int) (o6 : Int) (K : World → Prop) (w : World) (h : S.law10_done t1 o2 o3 o4 o5 o6 K w) : C.law10_done t1 o2 o3 o4 o5 o6 K w := by
  have e : fnV Try.prog Try.f25 (bodyOf Try.f25) (.t none (.u) (.t none (.u) (.t none (.t none (.u) (.t none (.u) (.t none (.u) (.t none (.u) (.t none (.u) (.t none (.u) (.t none (.u) (.t none (.u) (.t none (.u) (.t none (.u) (.t none (.u) (.t none (.u) (.t none (.u) (.t none (.u) (.t none (.u) (.t none (.u) (.u))))))))))))))))) (.u)))) [] [.pointer t1, .agg #[.int .i64 o2, .int .i64 o3, .int .i64 o4, .int .i64 o5, .int .u64 o6]] K w = S.law10_done t1 o2 o3 o4 o5 o6 K w := by kernel_rfl
  exact okF_mk Try.func25 rfl (fn_sound names_ok follows_ok Try.func25 rfl (by kernel_rfl) (Eq.mpr e h))

/-- buttress/buttresslaw10.same -/
def S.law10_same (t1 : Option Addr) (k2 : Option Addr) (o3 : Int) (o4 : Int) (o5 : Int) (o6 : Int) (o7 : Int) (K : Bool → World → Prop) (w : World) : Prop :=
  Al w (.cells #[.int .i64 o3, .int .i64 o4, .int .i64 o5, .int .i64 o6, .int .u64 o7] 48) fun w8 =>
   ∃ kind9 : Int, w8.cell? (Addr.mk w.heap.size 0 none) = some (.int .i64 kind9) ∧
   bif kind9 == (0 : Int) then
    (∃ n10 : Int, w8.cell? ((Addr.mk w.heap.size 0 none).add 3) = some (.int .i64 n10) ∧
   ∃ core11 : Int, w8.cell? ((Addr.mk w.heap.size 0 none).add 2) = some (.int .i64 core11) ∧
   C.threads_Threads_Make t1 n10 core11 (fun r12 r13 w14 =>
   ∃ n15 : Int, w14.cell? ((Addr.mk w.heap.size 0 none).add 3) = some (.int .i64 n15) ∧
   ∃ core16 : Int, w14.cell? ((Addr.mk w.heap.size 0 none).add 2) = some (.int .i64 core16) ∧
   C.ref10_Threads_Make k2 n15 core16 (fun r17 r18 w19 =>
   bif r12 == r17 then
    (K (r13 == r18) w19)
   else
    (K false w19)) w14) w8)
   else
    (bif kind9 == (1 : Int) then
    (∃ id20 : Int, w8.cell? ((Addr.mk w.heap.size 0 none).add 1) = some (.int .i64 id20) ∧
   ∃ n21 : Int, w8.cell? ((Addr.mk w.heap.size 0 none).add 3) = some (.int .i64 n21) ∧
   ∃ v22 : Int, w8.cell? ((Addr.mk w.heap.size 0 none).add 4) = some (.int .u64 v22) ∧
   C.threads_Threads_Reg t1 id20 n21 v22 (fun r23 w24 =>
   ∃ id25 : Int, w24.cell? ((Addr.mk w.heap.size 0 none).add 1) = some (.int .i64 id25) ∧
   ∃ n26 : Int, w24.cell? ((Addr.mk w.heap.size 0 none).add 3) = some (.int .i64 n26) ∧
   ∃ v27 : Int, w24.cell? ((Addr.mk w.heap.size 0 none).add 4) = some (.int .u64 v27) ∧
   C.ref10_Threads_Reg k2 id25 n26 v27 (fun r28 w29 =>
   K (r23 == r28) w29) w24) w8)
   else
    (bif kind9 == (2 : Int) then
    (∃ id30 : Int, w8.cell? ((Addr.mk w.heap.size 0 none).add 1) = some (.int .i64 id30) ∧
   C.threads_Threads_Resume t1 id30 (fun r31 w32 =>
   ∃ id33 : Int, w32.cell? ((Addr.mk w.heap.size 0 none).add 1) = some (.int .i64 id33) ∧
   C.ref10_Threads_Resume k2 id33 (fun r34 w35 =>
   K (r31 == r34) w35) w32) w8)
   else
    (bif kind9 == (3 : Int) then
    (∃ id36 : Int, w8.cell? ((Addr.mk w.heap.size 0 none).add 1) = some (.int .i64 id36) ∧
   C.threads_Threads_Suspend t1 id36 (fun r37 w38 =>
   ∃ id39 : Int, w38.cell? ((Addr.mk w.heap.size 0 none).add 1) = some (.int .i64 id39) ∧
   C.ref10_Threads_Suspend k2 id39 (fun r40 w41 =>
   K (r37 == r40) w41) w38) w8)
   else
    (bif kind9 == (4 : Int) then
    (∃ id42 : Int, w8.cell? ((Addr.mk w.heap.size 0 none).add 1) = some (.int .i64 id42) ∧
   C.threads_Threads_Block t1 id42 (fun r43 w44 =>
   ∃ id45 : Int, w44.cell? ((Addr.mk w.heap.size 0 none).add 1) = some (.int .i64 id45) ∧
   C.ref10_Threads_Block k2 id45 (fun r46 w47 =>
   K (r43 == r46) w47) w44) w8)
   else
    (bif kind9 == (5 : Int) then
    (∃ id48 : Int, w8.cell? ((Addr.mk w.heap.size 0 none).add 1) = some (.int .i64 id48) ∧
   ∃ n49 : Int, w8.cell? ((Addr.mk w.heap.size 0 none).add 3) = some (.int .i64 n49) ∧
   C.threads_Threads_Prio t1 id48 n49 (fun r50 w51 =>
   ∃ id52 : Int, w51.cell? ((Addr.mk w.heap.size 0 none).add 1) = some (.int .i64 id52) ∧
   ∃ n53 : Int, w51.cell? ((Addr.mk w.heap.size 0 none).add 3) = some (.int .i64 n53) ∧
   C.ref10_Threads_Prio k2 id52 n53 (fun r54 w55 =>
   K (r50 == r54) w55) w51) w8)
   else
    (bif kind9 == (6 : Int) then
    (∃ id56 : Int, w8.cell? ((Addr.mk w.heap.size 0 none).add 1) = some (.int .i64 id56) ∧
   ∃ core57 : Int, w8.cell? ((Addr.mk w.heap.size 0 none).add 2) = some (.int .i64 core57) ∧
   C.threads_Threads_Core t1 id56 core57 (fun r58 w59 =>
   ∃ id60 : Int, w59.cell? ((Addr.mk w.heap.size 0 none).add 1) = some (.int .i64 id60) ∧
   ∃ core61 : Int, w59.cell? ((Addr.mk w.heap.size 0 none).add 2) = some (.int .i64 core61) ∧
   C.ref10_Threads_Core k2 id60 core61 (fun r62 w63 =>
   K (r58 == r62) w63) w59) w8)
   else
    (bif kind9 == (7 : Int) then
    (∃ core64 : Int, w8.cell? ((Addr.mk w.heap.size 0 none).add 2) = some (.int .i64 core64) ∧
   C.threads_Threads_Pick t1 core64 (fun r65 r66 w67 =>
   ∃ core68 : Int, w67.cell? ((Addr.mk w.heap.size 0 none).add 2) = some (.int .i64 core68) ∧
   C.ref10_Threads_Pick k2 core68 (fun r69 r70 w71 =>
   bif r65 == r69 then
    (K (r66 == r70) w71)
   else
    (K false w71)) w67) w8)
   else
    (bif kind9 == (8 : Int) then
    (∃ core72 : Int, w8.cell? ((Addr.mk w.heap.size 0 none).add 2) = some (.int .i64 core72) ∧
   C.threads_Threads_Yield t1 core72 (fun r73 w74 =>
   ∃ core75 : Int, w74.cell? ((Addr.mk w.heap.size 0 none).add 2) = some (.int .i64 core75) ∧
   C.ref10_Threads_Yield k2 core75 (fun r76 w77 =>
   K (r73 == r76) w77) w74) w8)
   else
    (bif kind9 == (9 : Int) then
    (∃ core78 : Int, w8.cell? ((Addr.mk w.heap.size 0 none).add 2) = some (.int .i64 core78) ∧
   C.threads_Threads_Tick t1 core78 (fun r79 w80 =>
   ∃ core81 : Int, w80.cell? ((Addr.mk w.heap.size 0 none).add 2) = some (.int .i64 core81) ∧
   C.ref10_Threads_Tick k2 core81 (fun r82 w83 =>
   K (r79 == r82) w83) w80) w8)
   else
    (K true w8))))))))))
set_option maxRecDepth 100000 in
theorem S.law10_same_ok (t1 : Option Addr) (k2 : Option Addr) (o3 : Int) (o4 : Int) (o5 : Int) (o6 : Int) (o7 : Int) (K : Bool → World → Prop) (w : World) (h : S.law10_same t1 k2 o3 o4 o5 o6 o7 K w) : C.law10_same t1 k2 o3 o4 o5 o6 o7 K w := by
  have e : fnV Try.prog Try.f30 (bodyOf Try.f30) (.t none (.u) (.t none (.t none (.u) (.t none (.t none (.u) (.t none (.t none (.u) (.t none (.u) (.t none (.u) (.u)))) (.t none (.u) (.t none (.t none (.u) (.t none (.u) (.u))) (.t none (.u) (.t none (.t none (.u) (.t none (.u) (.u))) (.t none (.u) (.t none (.t none (.u) (.t none (.u) (.u))) (.t none (.u) (.t none (.t none (.u) (.t none (.u) (.u))) (.t none (.u) (.t none (.t none (.u) (.t none (.u) (.u))) (.t none (.u) (.t none (.t none (.u) (.t none (.u) (.u))) (.t none (.u) (.t none (.t none (.u) (.t none (.u) (.t none (.u) (.u)))) (.t none (.u) (.t none (.t none (.u) (.t none (.u) (.u))) (.t none (.u) (.t none (.t none (.u) (.t none (.u) (.u))) (.u))))))))))))))))))))) (.u))) (.t none (.u) (.u)))) [(0, .c (.b))] [.pointer t1, .pointer k2, .agg #[.int .i64 o3, .int .i64 o4, .int .i64 o5, .int .i64 o6, .int .u64 o7]] K w = S.law10_same t1 k2 o3 o4 o5 o6 o7 K w := by kernel_rfl
  exact okF_mk Try.func30 rfl (fn_sound names_ok follows_ok Try.func30 rfl (by kernel_rfl) (Eq.mpr e h))
end Go.Proofs.Ytgkebkfabegflaa
