/- The functions' texts, and that a call comes to them. Printed by a program of mine (gen.py). -/
import Derived.Test.YtgkebkfabegflaaC
set_option linter.unusedVariables false
namespace Go.Proofs.Ytgkebkfabegflaa
open Go Go.Vc Go.Proofs

/-- slices.Repeat[[]int,int] -/
def S.slices_Repeat_int_int (x1 : Sl) (count2 : Int) (K : Sl → World → Prop) (w : World) : Prop :=
  ∀ k3 : World → Prop,
   (∀ (w4 : World), (C.math_bits_Mul (IntKind.u64.wrap (x1.len : Int)) (IntKind.u64.wrap count2) (fun r5 r6 w7 =>
   ∀ k8 : Bool → World → Prop,
   (∀ (t9 : Bool) (w10 : World), (∀ k11 : World → Prop,
   (∀ (w12 : World), (∃ (t13 : Sl) (w14 : World), MkSlR Try.prog 41 (.int .i64 (IntKind.i64.wrap r6)) (.int .i64 (IntKind.i64.wrap r6)) w12 t13 w14 ∧
   ∃ (n15 : Int) (w16 : World), CopyR Try.prog [41, 41] 3 (.slice t13.a t13.len t13.cap) (.slice x1.a x1.len x1.cap) w14 n15 w16 ∧
   ∀ l17 : Int → World → Prop,
   (∀ (n18 : Int) (w19 : World), (bif decide (n18 < (t13.len : Int)) then
    (Dr w19 fun w20 =>
   0 ≤ n18 ∧ n18 ≤ (t13.len : Int) ∧
   0 ≤ n18 ∧ n18 ≤ (t13.cap : Int) ∧
   (∃ (n21 : Int) (w22 : World), CopyR Try.prog [41, 41] 3 (.slice (slA t13.a n18.toNat t13.cap 1) (t13.len - n18.toNat) (t13.cap - n18.toNat)) (.slice (slA t13.a 0 t13.cap 1) (n18.toNat - 0) (t13.cap - 0)) w20 n21 w22 ∧
   l17 (IntKind.i64.wrap (n18 + n21)) w22) ∧
   True)
   else
    (K t13 w19)) → l17 n18 w19) →
   l17 n15 w16) → k11 w12) →
   (bif t9 then
    (False)
   else
    (k11 w10))) → k8 t9 w10) →
   (bif decide (r5 > (0 : Int)) then
    (k8 true w7)
   else
    (k8 (decide (r6 > (9223372036854775807 : Int))) w7))) w4) → k3 w4) →
   (bif decide (count2 < (0 : Int)) then
    (False)
   else
    (k3 w))
set_option maxRecDepth 100000 in
theorem S.slices_Repeat_int_int_ok (x1 : Sl) (count2 : Int) (K : Sl → World → Prop) (w : World) (h : S.slices_Repeat_int_int x1 count2 K w) : C.slices_Repeat_int_int x1 count2 K w := by
  have e : fnV Try.prog Try.f34 (bodyOf Try.f34) (.t none (.u) (.t none (.t none (.u) (.t (some []) (.u) (.u))) (.t none (.u) (.t none (.t none (.r (some [(26, .c (.b))]) .done) (.t (some []) (.u) (.u))) (.t none (.u) (.t none (.u) (.t none (.t none (.t (some [(8, .c (.i .i64))]) (.t none (.t none (.u) (.t none (.u) (.u))) (.t none (.r none (.one 0 254 (.one 1 116 (.one 2 112 (.one 3 112 (.one 4 32 (.one 5 0 (.one 6 0 (.alt 7 (.one 8 0 (.one 9 0 (.done))) (.none)))))))))) (.u))) (.u)) (.u)) (.t none (.u) (.u))))))))) [(0, .c (.s))] [.slice x1.a x1.len x1.cap, .int .i64 count2] K w = S.slices_Repeat_int_int x1 count2 K w := by kernel_rfl
  exact okF_mk Try.func34 rfl (fn_sound names_ok follows_ok Try.func34 rfl (by kernel_rfl) (Eq.mpr e h))

/-- slices.Clone[[]buttress/api.Thread,buttress/api.Thread] -/
def S.slices_Clone_api_Thread_api_Thread (s1 : Sl) (K : Sl → World → Prop) (w : World) : Prop :=
  bif s1.a.isNone then
    (K ⟨none, 0, 0⟩ w)
   else
    (Al w (.cells #[] 37) fun w2 =>
   ∃ (t3 : Sl) (w4 : World), AppR Try.prog [57, 57] 57 (.slice (some (Addr.mk w.heap.size 0 none)) 0 0) (.slice s1.a s1.len s1.cap) w2 t3 w4 ∧
   K t3 w4)
set_option maxRecDepth 100000 in
theorem S.slices_Clone_api_Thread_api_Thread_ok (s1 : Sl) (K : Sl → World → Prop) (w : World) (h : S.slices_Clone_api_Thread_api_Thread s1 K w) : C.slices_Clone_api_Thread_api_Thread s1 K w := by
  have e : fnV Try.prog Try.f45 (bodyOf Try.f45) (.t none (.u) (.t none (.t none (.u) (.t none (.t none (.u) (.u)) (.u))) (.t none (.u) (.u)))) [(0, .c (.s))] [.slice s1.a s1.len s1.cap] K w = S.slices_Clone_api_Thread_api_Thread s1 K w := by kernel_rfl
  exact okF_mk Try.func45 rfl (fn_sound names_ok follows_ok Try.func45 rfl (by kernel_rfl) (Eq.mpr e h))

/-- slices.Clone[[]int,int] -/
def S.slices_Clone_int_int (s1 : Sl) (K : Sl → World → Prop) (w : World) : Prop :=
  bif s1.a.isNone then
    (K ⟨none, 0, 0⟩ w)
   else
    (Al w (.cells #[] 3) fun w2 =>
   ∃ (t3 : Sl) (w4 : World), AppR Try.prog [41, 41] 41 (.slice (some (Addr.mk w.heap.size 0 none)) 0 0) (.slice s1.a s1.len s1.cap) w2 t3 w4 ∧
   K t3 w4)
set_option maxRecDepth 100000 in
theorem S.slices_Clone_int_int_ok (s1 : Sl) (K : Sl → World → Prop) (w : World) (h : S.slices_Clone_int_int s1 K w) : C.slices_Clone_int_int s1 K w := by
  have e : fnV Try.prog Try.f46 (bodyOf Try.f46) (.t none (.u) (.t none (.t none (.u) (.t none (.t none (.u) (.u)) (.u))) (.t none (.u) (.u)))) [(0, .c (.s))] [.slice s1.a s1.len s1.cap] K w = S.slices_Clone_int_int s1 K w := by kernel_rfl
  exact okF_mk Try.func46 rfl (fn_sound names_ok follows_ok Try.func46 rfl (by kernel_rfl) (Eq.mpr e h))

/-- slices.IndexFunc[[]buttress/api.Errno,buttress/api.Errno] -/
def S.slices_IndexFunc_api_Errno_api_Errno (s1 : Sl) (f2 : Value) (K : Int → World → Prop) (w : World) : Prop :=
  ∀ l3 : Int → World → Prop,
   (∀ (t4 : Int) (w5 : World), (bif decide (t4 < (s1.len : Int)) then
    (∃ a6 : Addr, s1.a = some a6 ∧ 0 ≤ t4 ∧ t4 < (s1.len : Int) ∧
   ∃ t7 : Int, w5.cell? (a6.add (t4.toNat * 1)) = some (.int .i64 t7) ∧
   CallV Try.prog (f2) [.int .i64 t7] w5 fun enw9 w9 => ∃ r8 : Bool, enw9 = .returned (.bool r8) ∧
   bif r8 then
    (K t4 w9)
   else
    (l3 (IntKind.i64.wrap (t4 + (1 : Int))) w9))
   else
    (K (-1 : Int) w5)) → l3 t4 w5) →
   l3 (0 : Int) w
set_option maxRecDepth 100000 in
theorem S.slices_IndexFunc_api_Errno_api_Errno_ok (s1 : Sl) (f2 : Value) (K : Int → World → Prop) (w : World) (h : S.slices_IndexFunc_api_Errno_api_Errno s1 f2 K w) : C.slices_IndexFunc_api_Errno_api_Errno s1 f2 K w := by
  have e : fnV Try.prog Try.f65 (bodyOf Try.f65) (.t none (.u) (.t none (.t none (.u) (.t none (.t (some [(8, .c (.i .i64))]) (.t none (.u) (.t none (.t none (.u) (.u)) (.t none (.t none (.t none (.u) (.t none (.u) (.t none (.t none (.u) (.u)) (.u)))) (.u)) (.u)))) (.u)) (.u))) (.t none (.u) (.u)))) [(0, .c (.i .i64))] [.slice s1.a s1.len s1.cap, f2] K w = S.slices_IndexFunc_api_Errno_api_Errno s1 f2 K w := by kernel_rfl
  exact okF_mk Try.func65 rfl (fn_sound names_ok follows_ok Try.func65 rfl (by kernel_rfl) (Eq.mpr e h))

/-- slices.DeleteFunc[[]int,int] -/
def S.slices_DeleteFunc_int_int (s1 : Sl) (del2 : Value) (K : Sl → World → Prop) (w : World) : Prop :=
  C.slices_IndexFunc_int_int s1 del2 (fun r3 w4 =>
   bif r3 == (-1 : Int) then
    (K s1 w4)
   else
    (∀ l5 : Int → Int → World → Prop,
   (∀ (i6 : Int) (j7 : Int) (w8 : World), (bif decide (j7 < (s1.len : Int)) then
    (∃ a9 : Addr, s1.a = some a9 ∧ 0 ≤ j7 ∧ j7 < (s1.len : Int) ∧
   ∃ t10 : Int, w8.cell? (a9.add (j7.toNat * 1)) = some (.int .i64 t10) ∧
   CallV Try.prog (del2) [.int .i64 t10] w8 fun enw12 w12 => ∃ r11 : Bool, enw12 = .returned (.bool r11) ∧
   bif !r11 then
    (∃ a13 : Addr, s1.a = some a13 ∧ 0 ≤ i6 ∧ i6 < (s1.len : Int) ∧
   St w12 (a13.add (i6.toNat * 1)) (.int .i64 t10) fun w14 =>
   l5 (IntKind.i64.wrap (i6 + (1 : Int))) (IntKind.i64.wrap (j7 + (1 : Int))) w14)
   else
    (l5 i6 (IntKind.i64.wrap (j7 + (1 : Int))) w12))
   else
    (0 ≤ i6 ∧ i6 ≤ (s1.len : Int) ∧
   ∃ w15 : World, ClearR Try.prog [41] 0 (.slice (slA s1.a i6.toNat s1.cap 1) (s1.len - i6.toNat) (s1.cap - i6.toNat)) w8 w15 ∧
   0 ≤ i6 ∧ i6 ≤ (s1.cap : Int) ∧
   K ⟨slA s1.a 0 s1.cap 1, i6.toNat - 0, s1.cap - 0⟩ w15)) → l5 i6 j7 w8) →
   l5 r3 (IntKind.i64.wrap (r3 + (1 : Int))) w4)) w
set_option maxRecDepth 100000 in
theorem S.slices_DeleteFunc_int_int_ok (s1 : Sl) (del2 : Value) (K : Sl → World → Prop) (w : World) (h : S.slices_DeleteFunc_int_int s1 del2 K w) : C.slices_DeleteFunc_int_int s1 del2 K w := by
  have e : fnV Try.prog Try.f75 (bodyOf Try.f75) (.t none (.u) (.t none (.u) (.t none (.t none (.u) (.t none (.t none (.u) (.u)) (.u))) (.t none (.t none (.u) (.t none (.t (some [(5, .c (.i .i64)), (6, .c (.i .i64))]) (.t none (.t none (.u) (.t none (.u) (.u))) (.t none (.t none (.t none (.u) (.t none (.u) (.t none (.t none (.u) (.u)) (.u)))) (.u)) (.u))) (.u)) (.u))) (.t none (.u) (.t none (.u) (.u))))))) [(0, .c (.s))] [.slice s1.a s1.len s1.cap, del2] K w = S.slices_DeleteFunc_int_int s1 del2 K w := by kernel_rfl
  exact okF_mk Try.func75 rfl (fn_sound names_ok follows_ok Try.func75 rfl (by kernel_rfl) (Eq.mpr e h))

/-- slices.IndexFunc[[]int,int] -/
def S.slices_IndexFunc_int_int (s1 : Sl) (f2 : Value) (K : Int → World → Prop) (w : World) : Prop :=
  ∀ l3 : Int → World → Prop,
   (∀ (t4 : Int) (w5 : World), (bif decide (t4 < (s1.len : Int)) then
    (∃ a6 : Addr, s1.a = some a6 ∧ 0 ≤ t4 ∧ t4 < (s1.len : Int) ∧
   ∃ t7 : Int, w5.cell? (a6.add (t4.toNat * 1)) = some (.int .i64 t7) ∧
   CallV Try.prog (f2) [.int .i64 t7] w5 fun enw9 w9 => ∃ r8 : Bool, enw9 = .returned (.bool r8) ∧
   bif r8 then
    (K t4 w9)
   else
    (l3 (IntKind.i64.wrap (t4 + (1 : Int))) w9))
   else
    (K (-1 : Int) w5)) → l3 t4 w5) →
   l3 (0 : Int) w
set_option maxRecDepth 100000 in
theorem S.slices_IndexFunc_int_int_ok (s1 : Sl) (f2 : Value) (K : Int → World → Prop) (w : World) (h : S.slices_IndexFunc_int_int s1 f2 K w) : C.slices_IndexFunc_int_int s1 f2 K w := by
  have e : fnV Try.prog Try.f80 (bodyOf Try.f80) (.t none (.u) (.t none (.t none (.u) (.t none (.t (some [(8, .c (.i .i64))]) (.t none (.u) (.t none (.t none (.u) (.u)) (.t none (.t none (.t none (.u) (.t none (.u) (.t none (.t none (.u) (.u)) (.u)))) (.u)) (.u)))) (.u)) (.u))) (.t none (.u) (.u)))) [(0, .c (.i .i64))] [.slice s1.a s1.len s1.cap, f2] K w = S.slices_IndexFunc_int_int s1 f2 K w := by kernel_rfl
  exact okF_mk Try.func80 rfl (fn_sound names_ok follows_ok Try.func80 rfl (by kernel_rfl) (Eq.mpr e h))

/-- buttress/threads.New -/
def S.threads_New (cores1 : Int) (K : Option Addr → Int → World → Prop) (w : World) : Prop :=
  ∀ k2 : Bool → World → Prop,
   (∀ (t3 : Bool) (w4 : World), (bif t3 then
    (K none (1 : Int) w4)
   else
    (Al w4 (.cells #[.int .i64 (-1 : Int)] 3) fun w5 =>
   C.slices_Repeat_int_int ⟨some (Addr.mk w4.heap.size 0 none), 1, 1⟩ cores1 (fun r6 w7 =>
   Al w7 (.cells #[.slice none 0 0, .slice none 0 0, .slice r6.a r6.len r6.cap] 65) fun w8 =>
   ∀ l9 : Int → World → Prop,
   (∀ (t10 : Int) (w11 : World), (bif decide (t10 < cores1) then
    (Dr w11 fun w12 =>
   ∃ a13 : Addr, some (Addr.mk w7.heap.size 0 none) = some a13 ∧
   ∃ q14 : Sl, w12.cell? (a13.add 1) = some (.slice q14.a q14.len q14.cap) ∧
   (C.ready_New  (fun r15 w16 =>
   w16.cell? (a13.add 1) = some (.slice q14.a q14.len q14.cap) ∧
   (Al w16 (.cells #[.pointer r15] 66) fun w17 =>
   (∃ (t18 : Sl) (w19 : World), AppR Try.prog [63, 63] 63 (.slice q14.a q14.len q14.cap) (.slice (some (Addr.mk w16.heap.size 0 none)) 1 1) w17 t18 w19 ∧
   ∃ a20 : Addr, some (Addr.mk w7.heap.size 0 none) = some a20 ∧
   (St w19 (a20.add 1) (.slice t18.a t18.len t18.cap) fun w21 =>
   l9 (IntKind.i64.wrap (t10 + (1 : Int))) w21) ∧
   True) ∧
   True) ∧
   True) w12) ∧
   True)
   else
    (K (some (Addr.mk w7.heap.size 0 none)) (0 : Int) w11)) → l9 t10 w11) →
   l9 (0 : Int) w8) w5)) → k2 t3 w4) →
   (bif decide (cores1 < (1 : Int)) then
    (k2 true w)
   else
    (k2 (decide (cores1 > (8 : Int))) w))
set_option maxRecDepth 100000 in
theorem S.threads_New_ok (cores1 : Int) (K : Option Addr → Int → World → Prop) (w : World) (h : S.threads_New cores1 K w) : C.threads_New cores1 K w := by
  have e : fnV Try.prog Try.f11 (bodyOf Try.f11) (.t none (.u) (.t none (.t none (.r (some [(10, .c (.b))]) .done) (.t none (.t none (.u) (.u)) (.u))) (.t none (.u) (.t none (.t none (.u) (.t none (.t (some [(17, .c (.i .i64))]) (.t none (.u) (.t none (.t none (.u) (.u)) (.t none (.t none (.r none (.one 0 254 (.one 1 96 (.one 2 96 (.one 3 96 (.hold 4 96 895 (.alt 5 (.alt 6 (.alt 7 (.one 8 0 (.one 9 0 (.alt 10 (.done) (.none)))) (.none)) (.none)) (.none)))))))) (.u)) (.u)))) (.u)) (.u))) (.t none (.u) (.u)))))) [(0, .c (.p)), (1, .c (.i .i64))] [.int .i64 cores1] K w = S.threads_New cores1 K w := by kernel_rfl
  exact okF_mk Try.func11 rfl (fn_sound names_ok follows_ok Try.func11 rfl (by kernel_rfl) (Eq.mpr e h))

/-- (*buttress/threads.Threads).Make -/
def S.threads_Threads_Make (t1 : Option Addr) (p2 : Int) (core3 : Int) (K : Int → Int → World → Prop) (w : World) : Prop :=
  ∀ k4 : Bool → World → Prop,
   (∀ (t5 : Bool) (w6 : World), (bif t5 then
    (K (0 : Int) (1 : Int) w6)
   else
    (∃ a7 : Addr, t1 = some a7 ∧
   ∃ l8 : Sl, w6.cell? a7 = some (.slice l8.a l8.len l8.cap) ∧
   bif decide ((l8.len : Int) ≥ (64 : Int)) then
    (K (0 : Int) (2 : Int) w6)
   else
    (∃ a9 : Addr, t1 = some a9 ∧
   ∃ l10 : Sl, w6.cell? a9 = some (.slice l10.a l10.len l10.cap) ∧
   Al w6 (.cells #[.int .i64 (0 : Int), .int .i64 p2, .int .i64 core3, .int .i64 (5 : Int), .int .u64 (0 : Int), .int .u64 (0 : Int), .int .u64 (0 : Int), .int .u64 (0 : Int), .int .u64 (0 : Int), .int .u64 (0 : Int), .int .u64 (0 : Int), .int .u64 (0 : Int)] 37) fun w11 =>
   ∃ (t12 : Sl) (w13 : World), AppR Try.prog [57, 57] 57 (.slice l10.a l10.len l10.cap) (.slice (some (Addr.mk w6.heap.size 0 none)) 1 1) w11 t12 w13 ∧
   ∃ a14 : Addr, t1 = some a14 ∧
   St w13 a14 (.slice t12.a t12.len t12.cap) fun w15 =>
   ∃ a16 : Addr, t1 = some a16 ∧
   ∃ l17 : Sl, w15.cell? a16 = some (.slice l17.a l17.len l17.cap) ∧
   K (IntKind.i64.wrap ((l17.len : Int) - (1 : Int))) (0 : Int) w15))) → k4 t5 w6) →
   (C.threads_prio p2 (fun r18 w19 =>
   bif !r18 then
    (k4 true w19)
   else
    (C.threads_Threads_core t1 core3 (fun r20 w21 =>
   k4 (!r20) w21) w19)) w)
set_option maxRecDepth 100000 in
theorem S.threads_Threads_Make_ok (t1 : Option Addr) (p2 : Int) (core3 : Int) (K : Int → Int → World → Prop) (w : World) (h : S.threads_Threads_Make t1 p2 core3 K w) : C.threads_Threads_Make t1 p2 core3 K w := by
  have e : fnV Try.prog Try.f12 (bodyOf Try.f12) (.t none (.u) (.t none (.t none (.t none (.r (some [(8, .c (.b))]) .done) (.t none (.t none (.u) (.u)) (.t none (.u) (.t none (.t none (.u) (.u)) (.u))))) (.u)) (.t none (.u) (.t none (.u) (.u))))) [(0, .c (.i .i64)), (1, .c (.i .i64))] [.pointer t1, .int .i64 p2, .int .i64 core3] K w = S.threads_Threads_Make t1 p2 core3 K w := by kernel_rfl
  exact okF_mk Try.func12 rfl (fn_sound names_ok follows_ok Try.func12 rfl (by kernel_rfl) (Eq.mpr e h))

/-- (*buttress/threads.Threads).Resume -/
def S.threads_Threads_Resume (t1 : Option Addr) (id2 : Int) (K : Int → World → Prop) (w : World) : Prop :=
  C.threads_Threads_one t1 id2 (fun r3 w4 =>
   bif r3.isNone then
    (K (100 : Int) w4)
   else
    (∀ k5 : Bool → World → Prop,
   (∀ (t6 : Bool) (w7 : World), (bif t6 then
    (K (101 : Int) w7)
   else
    (C.threads_Threads_lineUp t1 id2 (fun w8 =>
   K (0 : Int) w8) w7)) → k5 t6 w7) →
   (∃ a9 : Addr, r3 = some a9 ∧
   ∃ state10 : Int, w4.cell? a9 = some (.int .i64 state10) ∧
   bif state10 == (1 : Int) then
    (k5 true w4)
   else
    (∃ a11 : Addr, r3 = some a11 ∧
   ∃ state12 : Int, w4.cell? a11 = some (.int .i64 state12) ∧
   k5 (state12 == (2 : Int)) w4)))) w
set_option maxRecDepth 100000 in
theorem S.threads_Threads_Resume_ok (t1 : Option Addr) (id2 : Int) (K : Int → World → Prop) (w : World) (h : S.threads_Threads_Resume t1 id2 K w) : C.threads_Threads_Resume t1 id2 K w := by
  have e : fnV Try.prog Try.f13 (bodyOf Try.f13) (.t none (.u) (.t none (.u) (.t none (.t none (.t none (.u) (.t none (.t none (.u) (.u)) (.t none (.r (some [(12, .c (.b))]) .done) (.t none (.t none (.u) (.u)) (.u))))) (.u)) (.t none (.u) (.t none (.u) (.u)))))) [(0, .c (.i .i64))] [.pointer t1, .int .i64 id2] K w = S.threads_Threads_Resume t1 id2 K w := by kernel_rfl
  exact okF_mk Try.func13 rfl (fn_sound names_ok follows_ok Try.func13 rfl (by kernel_rfl) (Eq.mpr e h))

/-- (*buttress/threads.Threads).Pick -/
def S.threads_Threads_Pick (t1 : Option Addr) (core2 : Int) (K : Int → Bool → World → Prop) (w : World) : Prop :=
  C.threads_Threads_core t1 core2 (fun r3 w4 =>
   bif !r3 then
    (K (0 : Int) false w4)
   else
    (C.threads_Threads_Runs t1 core2 (fun r5 r6 w7 =>
   ∃ a8 : Addr, t1 = some a8 ∧
   ∃ q9 : Sl, w7.cell? (a8.add 1) = some (.slice q9.a q9.len q9.cap) ∧
   ∃ a10 : Addr, q9.a = some a10 ∧ 0 ≤ core2 ∧ core2 < (q9.len : Int) ∧
   ∃ t11 : Option Addr, w7.cell? (a10.add (core2.toNat * 1)) = some (.pointer t11) ∧
   C.ready_Queue_Next t11 (fun r12 r13 w14 =>
   ∀ k15 : Bool → World → Prop,
   (∀ (t16 : Bool) (w17 : World), (bif t16 then
    (K r5 r6 w17)
   else
    (∀ k18 : World → Prop,
   (∀ (w19 : World), (C.threads_Threads_leave t1 r12 (2 : Int) (fun w20 =>
   ∃ a21 : Addr, t1 = some a21 ∧
   ∃ runs22 : Sl, w20.cell? (a21.add 2) = some (.slice runs22.a runs22.len runs22.cap) ∧
   ∃ a23 : Addr, runs22.a = some a23 ∧ 0 ≤ core2 ∧ core2 < (runs22.len : Int) ∧
   St w20 (a23.add (core2.toNat * 1)) (.int .i64 r12) fun w24 =>
   K r12 true w24) w19) → k18 w19) →
   (bif r6 then
    (C.threads_Threads_leave t1 r5 (1 : Int) (fun w25 =>
   C.threads_Threads_lineUp t1 r5 (fun w26 =>
   k18 w26) w25) w17)
   else
    (k18 w17)))) → k15 t16 w17) →
   (Dr w14 fun w27 =>
   bif !r13 then
    (k15 true w27)
   else
    (bif r6 then
    (∃ a28 : Addr, t1 = some a28 ∧
   ∃ l29 : Sl, w27.cell? a28 = some (.slice l29.a l29.len l29.cap) ∧
   ∃ a30 : Addr, l29.a = some a30 ∧ 0 ≤ r12 ∧ r12 < (l29.len : Int) ∧
   ∃ prio31 : Int, w27.cell? ((a30.add (r12.toNat * 12)).add 1) = some (.int .i64 prio31) ∧
   ∃ a32 : Addr, t1 = some a32 ∧
   ∃ l33 : Sl, w27.cell? a32 = some (.slice l33.a l33.len l33.cap) ∧
   ∃ a34 : Addr, l33.a = some a34 ∧ 0 ≤ r5 ∧ r5 < (l33.len : Int) ∧
   ∃ prio35 : Int, w27.cell? ((a34.add (r5.toNat * 12)).add 1) = some (.int .i64 prio35) ∧
   k15 (decide (prio31 ≤ prio35)) w27)
   else
    (k15 false w27)))) w7) w4)) w
set_option maxRecDepth 100000 in
theorem S.threads_Threads_Pick_ok (t1 : Option Addr) (core2 : Int) (K : Int → Bool → World → Prop) (w : World) (h : S.threads_Threads_Pick t1 core2 K w) : C.threads_Threads_Pick t1 core2 K w := by
  have e : fnV Try.prog Try.f14 (bodyOf Try.f14) (.t none (.u) (.t none (.t none (.u) (.t none (.t none (.u) (.u)) (.u))) (.t none (.u) (.t none (.u) (.t none (.t none (.r (some [(54, .c (.b))]) (.one 0 0 (.one 1 0 (.one 2 0 (.one 3 0 (.one 4 0 (.one 5 2089472 (.one 6 2089472 (.one 7 2089472 (.one 8 2089472 (.one 9 2088960 (.one 10 2088960 (.one 11 2088960 (.one 12 2088960 (.one 13 131072 (.one 14 131072 (.one 15 131072 (.one 16 131072 (.one 17 0 (.one 18 0 (.one 19 0 (.one 20 0 (.one 21 0 (.one 22 0 (.one 23 0 (.done)))))))))))))))))))))))))) (.t none (.t none (.u) (.u)) (.u))) (.t none (.t none (.u) (.t (some []) (.t none (.u) (.u)) (.u))) (.t none (.u) (.t none (.u) (.t none (.u) (.u)))))))))) [(0, .c (.i .i64)), (1, .c (.b))] [.pointer t1, .int .i64 core2] K w = S.threads_Threads_Pick t1 core2 K w := by kernel_rfl
  exact okF_mk Try.func14 rfl (fn_sound names_ok follows_ok Try.func14 rfl (by kernel_rfl) (Eq.mpr e h))

/-- (*buttress/threads.Threads).Runs -/
def S.threads_Threads_Runs (t1 : Option Addr) (core2 : Int) (K : Int → Bool → World → Prop) (w : World) : Prop :=
  ∀ k3 : Bool → World → Prop,
   (∀ (t4 : Bool) (w5 : World), (bif t4 then
    (K (0 : Int) false w5)
   else
    (∃ a6 : Addr, t1 = some a6 ∧
   ∃ runs7 : Sl, w5.cell? (a6.add 2) = some (.slice runs7.a runs7.len runs7.cap) ∧
   ∃ a8 : Addr, runs7.a = some a8 ∧ 0 ≤ core2 ∧ core2 < (runs7.len : Int) ∧
   ∃ t9 : Int, w5.cell? (a8.add (core2.toNat * 1)) = some (.int .i64 t9) ∧
   K t9 true w5)) → k3 t4 w5) →
   (C.threads_Threads_core t1 core2 (fun r10 w11 =>
   bif !r10 then
    (k3 true w11)
   else
    (∃ a12 : Addr, t1 = some a12 ∧
   ∃ runs13 : Sl, w11.cell? (a12.add 2) = some (.slice runs13.a runs13.len runs13.cap) ∧
   ∃ a14 : Addr, runs13.a = some a14 ∧ 0 ≤ core2 ∧ core2 < (runs13.len : Int) ∧
   ∃ t15 : Int, w11.cell? (a14.add (core2.toNat * 1)) = some (.int .i64 t15) ∧
   k3 (t15 == (-1 : Int)) w11)) w)
set_option maxRecDepth 100000 in
theorem S.threads_Threads_Runs_ok (t1 : Option Addr) (core2 : Int) (K : Int → Bool → World → Prop) (w : World) (h : S.threads_Threads_Runs t1 core2 K w) : C.threads_Threads_Runs t1 core2 K w := by
  have e : fnV Try.prog Try.f15 (bodyOf Try.f15) (.t none (.u) (.t none (.t none (.r (some [(19, .c (.b))]) .done) (.t none (.t none (.u) (.u)) (.u))) (.t none (.u) (.u)))) [(0, .c (.i .i64)), (1, .c (.b))] [.pointer t1, .int .i64 core2] K w = S.threads_Threads_Runs t1 core2 K w := by kernel_rfl
  exact okF_mk Try.func15 rfl (fn_sound names_ok follows_ok Try.func15 rfl (by kernel_rfl) (Eq.mpr e h))

/-- (*buttress/threads.Threads).Tick -/
def S.threads_Threads_Tick (t1 : Option Addr) (core2 : Int) (K : Bool → World → Prop) (w : World) : Prop :=
  C.threads_Threads_Runs t1 core2 (fun r3 r4 w5 =>
   bif !r4 then
    (K false w5)
   else
    (∃ a6 : Addr, t1 = some a6 ∧
   ∃ l7 : Sl, w5.cell? a6 = some (.slice l7.a l7.len l7.cap) ∧
   ∃ a8 : Addr, l7.a = some a8 ∧ 0 ≤ r3 ∧ r3 < (l7.len : Int) ∧
   ∃ left9 : Int, w5.cell? ((a8.add (r3.toNat * 12)).add 3) = some (.int .i64 left9) ∧
   ∃ a10 : Addr, l7.a = some a10 ∧ 0 ≤ r3 ∧ r3 < (l7.len : Int) ∧
   St w5 ((a10.add (r3.toNat * 12)).add 3) (.int .i64 (IntKind.i64.wrap (left9 - (1 : Int)))) fun w11 =>
   ∃ a12 : Addr, t1 = some a12 ∧
   ∃ l13 : Sl, w11.cell? a12 = some (.slice l13.a l13.len l13.cap) ∧
   ∃ a14 : Addr, l13.a = some a14 ∧ 0 ≤ r3 ∧ r3 < (l13.len : Int) ∧
   ∃ left15 : Int, w11.cell? ((a14.add (r3.toNat * 12)).add 3) = some (.int .i64 left15) ∧
   bif decide (left15 ≤ (0 : Int)) then
    (C.threads_Threads_Yield t1 core2 (fun r16 w17 =>
   K true w17) w11)
   else
    (K true w11))) w
set_option maxRecDepth 100000 in
theorem S.threads_Threads_Tick_ok (t1 : Option Addr) (core2 : Int) (K : Bool → World → Prop) (w : World) (h : S.threads_Threads_Tick t1 core2 K w) : C.threads_Threads_Tick t1 core2 K w := by
  have e : fnV Try.prog Try.f16 (bodyOf Try.f16) (.t none (.u) (.t none (.u) (.t none (.t none (.u) (.t none (.t none (.u) (.u)) (.u))) (.t none (.u) (.t none (.t none (.u) (.t none (.u) (.u))) (.t none (.u) (.u))))))) [(0, .c (.b))] [.pointer t1, .int .i64 core2] K w = S.threads_Threads_Tick t1 core2 K w := by kernel_rfl
  exact okF_mk Try.func16 rfl (fn_sound names_ok follows_ok Try.func16 rfl (by kernel_rfl) (Eq.mpr e h))

/-- (*buttress/threads.Threads).Get -/
def S.threads_Threads_Get (t1 : Option Addr) (id2 : Int) (K : Int → Int → Int → Int → Int → Int → Int → Int → Int → Int → Int → Int → Int → World → Prop) (w : World) : Prop :=
  Al w (.cells #[.int .i64 (0 : Int), .int .i64 (0 : Int), .int .i64 (0 : Int), .int .i64 (0 : Int), .int .u64 (0 : Int), .int .u64 (0 : Int), .int .u64 (0 : Int), .int .u64 (0 : Int), .int .u64 (0 : Int), .int .u64 (0 : Int), .int .u64 (0 : Int), .int .u64 (0 : Int)] 37) fun w3 =>
   C.threads_Threads_one t1 id2 (fun r4 w5 =>
   bif r4.isNone then
    (StL w5 (Addr.mk w.heap.size 0 none) 0 [.int .i64 (0 : Int), .int .i64 (0 : Int), .int .i64 (0 : Int), .int .i64 (0 : Int), .int .u64 (0 : Int), .int .u64 (0 : Int), .int .u64 (0 : Int), .int .u64 (0 : Int), .int .u64 (0 : Int), .int .u64 (0 : Int), .int .u64 (0 : Int), .int .u64 (0 : Int)] fun w6 =>
   LdL w6 (Addr.mk w.heap.size 0 none) 0 [.i .i64, .i .i64, .i .i64, .i .i64, .i .u64, .i .u64, .i .u64, .i .u64, .i .u64, .i .u64, .i .u64, .i .u64] fun (r7 : Int) (r8 : Int) (r9 : Int) (r10 : Int) (r11 : Int) (r12 : Int) (r13 : Int) (r14 : Int) (r15 : Int) (r16 : Int) (r17 : Int) (r18 : Int) =>
   K r7 r8 r9 r10 r11 r12 r13 r14 r15 r16 r17 r18 (100 : Int) w6)
   else
    (∃ a19 : Addr, r4 = some a19 ∧
   LdL w5 a19 0 [.i .i64, .i .i64, .i .i64, .i .i64, .i .u64, .i .u64, .i .u64, .i .u64, .i .u64, .i .u64, .i .u64, .i .u64] fun (t20 : Int) (t21 : Int) (t22 : Int) (t23 : Int) (t24 : Int) (t25 : Int) (t26 : Int) (t27 : Int) (t28 : Int) (t29 : Int) (t30 : Int) (t31 : Int) =>
   StL w5 (Addr.mk w.heap.size 0 none) 0 [.int .i64 t20, .int .i64 t21, .int .i64 t22, .int .i64 t23, .int .u64 t24, .int .u64 t25, .int .u64 t26, .int .u64 t27, .int .u64 t28, .int .u64 t29, .int .u64 t30, .int .u64 t31] fun w32 =>
   LdL w32 (Addr.mk w.heap.size 0 none) 0 [.i .i64, .i .i64, .i .i64, .i .i64, .i .u64, .i .u64, .i .u64, .i .u64, .i .u64, .i .u64, .i .u64, .i .u64] fun (r33 : Int) (r34 : Int) (r35 : Int) (r36 : Int) (r37 : Int) (r38 : Int) (r39 : Int) (r40 : Int) (r41 : Int) (r42 : Int) (r43 : Int) (r44 : Int) =>
   K r33 r34 r35 r36 r37 r38 r39 r40 r41 r42 r43 r44 (0 : Int) w32)) w3
set_option maxRecDepth 100000 in
theorem S.threads_Threads_Get_ok (t1 : Option Addr) (id2 : Int) (K : Int → Int → Int → Int → Int → Int → Int → Int → Int → Int → Int → Int → Int → World → Prop) (w : World) (h : S.threads_Threads_Get t1 id2 K w) : C.threads_Threads_Get t1 id2 K w := by
  have e : fnV Try.prog Try.f18 (bodyOf Try.f18) (.t none (.u) (.t none (.u) (.t none (.t none (.u) (.t none (.t none (.u) (.u)) (.u))) (.t none (.u) (.u))))) [(0, .a [.i .i64, .i .i64, .i .i64, .i .i64, .i .u64, .i .u64, .i .u64, .i .u64, .i .u64, .i .u64, .i .u64, .i .u64]), (1, .c (.i .i64))] [.pointer t1, .int .i64 id2] K w = S.threads_Threads_Get t1 id2 K w := by kernel_rfl
  exact okF_mk Try.func18 rfl (fn_sound names_ok follows_ok Try.func18 rfl (by kernel_rfl) (Eq.mpr e h))

/-- (*buttress/threads.Threads).Line -/
def S.threads_Threads_Line (t1 : Option Addr) (core2 : Int) (p3 : Int) (K : Sl → World → Prop) (w : World) : Prop :=
  C.threads_Threads_core t1 core2 (fun r4 w5 =>
   bif !r4 then
    (K ⟨none, 0, 0⟩ w5)
   else
    (∃ a6 : Addr, t1 = some a6 ∧
   ∃ q7 : Sl, w5.cell? (a6.add 1) = some (.slice q7.a q7.len q7.cap) ∧
   ∃ a8 : Addr, q7.a = some a8 ∧ 0 ≤ core2 ∧ core2 < (q7.len : Int) ∧
   ∃ t9 : Option Addr, w5.cell? (a8.add (core2.toNat * 1)) = some (.pointer t9) ∧
   ∃ a10 : Addr, t9 = some a10 ∧
   C.ready_lines_Line (some a10) p3 (fun r11 w12 =>
   K r11 w12) w5)) w
set_option maxRecDepth 100000 in
theorem S.threads_Threads_Line_ok (t1 : Option Addr) (core2 : Int) (p3 : Int) (K : Sl → World → Prop) (w : World) (h : S.threads_Threads_Line t1 core2 p3 K w) : C.threads_Threads_Line t1 core2 p3 K w := by
  have e : fnV Try.prog Try.f20 (bodyOf Try.f20) (.t none (.u) (.t none (.t none (.u) (.t none (.t none (.u) (.u)) (.u))) (.t none (.u) (.u)))) [(0, .c (.s))] [.pointer t1, .int .i64 core2, .int .i64 p3] K w = S.threads_Threads_Line t1 core2 p3 K w := by kernel_rfl
  exact okF_mk Try.func20 rfl (fn_sound names_ok follows_ok Try.func20 rfl (by kernel_rfl) (Eq.mpr e h))

/-- (*buttress/threads.Threads).Block -/
def S.threads_Threads_Block (t1 : Option Addr) (id2 : Int) (K : Int → World → Prop) (w : World) : Prop :=
  C.threads_Threads_one t1 id2 (fun r3 w4 =>
   bif r3.isNone then
    (K (100 : Int) w4)
   else
    (∃ a5 : Addr, r3 = some a5 ∧
   ∃ state6 : Int, w4.cell? a5 = some (.int .i64 state6) ∧
   bif state6 != (2 : Int) then
    (K (101 : Int) w4)
   else
    (C.threads_Threads_leave t1 id2 (3 : Int) (fun w7 =>
   K (0 : Int) w7) w4))) w
set_option maxRecDepth 100000 in
theorem S.threads_Threads_Block_ok (t1 : Option Addr) (id2 : Int) (K : Int → World → Prop) (w : World) (h : S.threads_Threads_Block t1 id2 K w) : C.threads_Threads_Block t1 id2 K w := by
  have e : fnV Try.prog Try.f21 (bodyOf Try.f21) (.t none (.u) (.t none (.u) (.t none (.t none (.t none (.u) (.t none (.t none (.u) (.u)) (.t none (.u) (.t none (.t none (.u) (.u)) (.u))))) (.u)) (.t none (.u) (.t none (.u) (.u)))))) [(0, .c (.i .i64))] [.pointer t1, .int .i64 id2] K w = S.threads_Threads_Block t1 id2 K w := by kernel_rfl
  exact okF_mk Try.func21 rfl (fn_sound names_ok follows_ok Try.func21 rfl (by kernel_rfl) (Eq.mpr e h))

/-- (*buttress/threads.Threads).Suspend -/
def S.threads_Threads_Suspend (t1 : Option Addr) (id2 : Int) (K : Int → World → Prop) (w : World) : Prop :=
  C.threads_Threads_one t1 id2 (fun r3 w4 =>
   bif r3.isNone then
    (K (100 : Int) w4)
   else
    (∃ a5 : Addr, r3 = some a5 ∧
   ∃ state6 : Int, w4.cell? a5 = some (.int .i64 state6) ∧
   bif state6 == (0 : Int) then
    (K (101 : Int) w4)
   else
    (C.threads_Threads_leave t1 id2 (0 : Int) (fun w7 =>
   K (0 : Int) w7) w4))) w
set_option maxRecDepth 100000 in
theorem S.threads_Threads_Suspend_ok (t1 : Option Addr) (id2 : Int) (K : Int → World → Prop) (w : World) (h : S.threads_Threads_Suspend t1 id2 K w) : C.threads_Threads_Suspend t1 id2 K w := by
  have e : fnV Try.prog Try.f22 (bodyOf Try.f22) (.t none (.u) (.t none (.u) (.t none (.t none (.t none (.u) (.t none (.t none (.u) (.u)) (.t none (.u) (.t none (.t none (.u) (.u)) (.u))))) (.u)) (.t none (.u) (.t none (.u) (.u)))))) [(0, .c (.i .i64))] [.pointer t1, .int .i64 id2] K w = S.threads_Threads_Suspend t1 id2 K w := by kernel_rfl
  exact okF_mk Try.func22 rfl (fn_sound names_ok follows_ok Try.func22 rfl (by kernel_rfl) (Eq.mpr e h))

/-- (*buttress/threads.Threads).Reg -/
def S.threads_Threads_Reg (t1 : Option Addr) (id2 : Int) (i3 : Int) (v4 : Int) (K : Int → World → Prop) (w : World) : Prop :=
  C.threads_Threads_one t1 id2 (fun r5 w6 =>
   ∀ k7 : Int → World → Prop,
   (∀ (e8 : Int) (w9 : World), (bif e8 != (0 : Int) then
    (K e8 w9)
   else
    (∃ a10 : Addr, r5 = some a10 ∧
   0 ≤ i3 ∧ i3 < (8 : Int) ∧
   St w9 ((a10.add 4).add (i3.toNat * 1)) (.int .u64 v4) fun w11 =>
   K (0 : Int) w11)) → k7 e8 w9) →
   (C.threads_when r5.isNone (100 : Int) (fun r12 w13 =>
   bif decide (i3 < (0 : Int)) then
    (C.threads_when true (1 : Int) (fun r14 w15 =>
   Al w15 (.cells #[.int .i64 r12, .int .i64 r14] 23) fun w16 =>
   C.threads_first ⟨some (Addr.mk w15.heap.size 0 none), 2, 2⟩ (fun r17 w18 =>
   k7 r17 w18) w16) w13)
   else
    (C.threads_when (decide (i3 ≥ (8 : Int))) (1 : Int) (fun r19 w20 =>
   Al w20 (.cells #[.int .i64 r12, .int .i64 r19] 23) fun w21 =>
   C.threads_first ⟨some (Addr.mk w20.heap.size 0 none), 2, 2⟩ (fun r22 w23 =>
   k7 r22 w23) w21) w13)) w6)) w
set_option maxRecDepth 100000 in
theorem S.threads_Threads_Reg_ok (t1 : Option Addr) (id2 : Int) (i3 : Int) (v4 : Int) (K : Int → World → Prop) (w : World) (h : S.threads_Threads_Reg t1 id2 i3 v4 K w) : C.threads_Threads_Reg t1 id2 i3 v4 K w := by
  have e : fnV Try.prog Try.f23 (bodyOf Try.f23) (.t none (.u) (.t none (.u) (.t none (.t none (.r (some [(10, .c (.i .i64))]) .done) (.t none (.u) (.t none (.t none (.u) (.u)) (.u)))) (.t none (.u) (.t none (.u) (.u)))))) [(0, .c (.i .i64))] [.pointer t1, .int .i64 id2, .int .i64 i3, .int .u64 v4] K w = S.threads_Threads_Reg t1 id2 i3 v4 K w := by kernel_rfl
  exact okF_mk Try.func23 rfl (fn_sound names_ok follows_ok Try.func23 rfl (by kernel_rfl) (Eq.mpr e h))

/-- (*buttress/threads.Threads).Core -/
def S.threads_Threads_Core (t1 : Option Addr) (id2 : Int) (core3 : Int) (K : Int → World → Prop) (w : World) : Prop :=
  C.threads_Threads_one t1 id2 (fun r4 w5 =>
   C.threads_when r4.isNone (100 : Int) (fun r6 w7 =>
   C.threads_Threads_core t1 core3 (fun r8 w9 =>
   C.threads_when (!r8) (1 : Int) (fun r10 w11 =>
   Al w11 (.cells #[.int .i64 r6, .int .i64 r10] 23) fun w12 =>
   C.threads_first ⟨some (Addr.mk w11.heap.size 0 none), 2, 2⟩ (fun r13 w14 =>
   ∀ k15 : Bool → World → Prop,
   (∀ (t16 : Bool) (w17 : World), (bif t16 then
    (K r13 w17)
   else
    (∀ k18 : Bool → World → Prop,
   (∀ (lines19 : Bool) (w20 : World), (∃ a21 : Addr, r4 = some a21 ∧
   ∃ state22 : Int, w20.cell? a21 = some (.int .i64 state22) ∧
   C.threads_Threads_leave t1 id2 state22 (fun w23 =>
   ∃ a24 : Addr, r4 = some a24 ∧
   St w23 (a24.add 2) (.int .i64 core3) fun w25 =>
   bif lines19 then
    (C.threads_Threads_lineUp t1 id2 (fun w26 =>
   K (0 : Int) w26) w25)
   else
    (K (0 : Int) w25)) w20) → k18 lines19 w20) →
   (∃ a27 : Addr, r4 = some a27 ∧
   ∃ state28 : Int, w17.cell? a27 = some (.int .i64 state28) ∧
   bif state28 == (1 : Int) then
    (k18 true w17)
   else
    (∃ a29 : Addr, r4 = some a29 ∧
   ∃ state30 : Int, w17.cell? a29 = some (.int .i64 state30) ∧
   k18 (state30 == (2 : Int)) w17)))) → k15 t16 w17) →
   (bif r13 != (0 : Int) then
    (k15 true w14)
   else
    (∃ a31 : Addr, r4 = some a31 ∧
   ∃ core32 : Int, w14.cell? (a31.add 2) = some (.int .i64 core32) ∧
   k15 (core32 == core3) w14))) w12) w9) w7) w5) w
set_option maxRecDepth 100000 in
theorem S.threads_Threads_Core_ok (t1 : Option Addr) (id2 : Int) (core3 : Int) (K : Int → World → Prop) (w : World) (h : S.threads_Threads_Core t1 id2 core3 K w) : C.threads_Threads_Core t1 id2 core3 K w := by
  have e : fnV Try.prog Try.f24 (bodyOf Try.f24) (.t none (.u) (.t none (.u) (.t none (.t none (.u) (.t none (.r (some [(32, .c (.b))]) .done) (.t none (.t none (.u) (.u)) (.u)))) (.t none (.r (some [(9, .c (.b))]) .done) (.t none (.u) (.t none (.u) (.t none (.t none (.u) (.t none (.u) (.u))) (.t none (.u) (.u))))))))) [(0, .c (.i .i64))] [.pointer t1, .int .i64 id2, .int .i64 core3] K w = S.threads_Threads_Core t1 id2 core3 K w := by kernel_rfl
  exact okF_mk Try.func24 rfl (fn_sound names_ok follows_ok Try.func24 rfl (by kernel_rfl) (Eq.mpr e h))

/-- (*buttress/threads.Threads).Prio -/
def S.threads_Threads_Prio (t1 : Option Addr) (id2 : Int) (p3 : Int) (K : Int → World → Prop) (w : World) : Prop :=
  C.threads_Threads_one t1 id2 (fun r4 w5 =>
   C.threads_when r4.isNone (100 : Int) (fun r6 w7 =>
   C.threads_prio p3 (fun r8 w9 =>
   C.threads_when (!r8) (1 : Int) (fun r10 w11 =>
   Al w11 (.cells #[.int .i64 r6, .int .i64 r10] 23) fun w12 =>
   C.threads_first ⟨some (Addr.mk w11.heap.size 0 none), 2, 2⟩ (fun r13 w14 =>
   bif r13 != (0 : Int) then
    (K r13 w14)
   else
    (∃ a15 : Addr, r4 = some a15 ∧
   ∃ state16 : Int, w14.cell? a15 = some (.int .i64 state16) ∧
   bif state16 != (1 : Int) then
    (∃ a17 : Addr, r4 = some a17 ∧
   St w14 (a17.add 1) (.int .i64 p3) fun w18 =>
   K (0 : Int) w18)
   else
    (C.threads_Threads_leave t1 id2 (1 : Int) (fun w19 =>
   ∃ a20 : Addr, r4 = some a20 ∧
   St w19 (a20.add 1) (.int .i64 p3) fun w21 =>
   C.threads_Threads_lineUp t1 id2 (fun w22 =>
   K (0 : Int) w22) w21) w14))) w12) w9) w7) w5) w
set_option maxRecDepth 100000 in
theorem S.threads_Threads_Prio_ok (t1 : Option Addr) (id2 : Int) (p3 : Int) (K : Int → World → Prop) (w : World) (h : S.threads_Threads_Prio t1 id2 p3 K w) : C.threads_Threads_Prio t1 id2 p3 K w := by
  have e : fnV Try.prog Try.f26 (bodyOf Try.f26) (.t none (.u) (.t none (.u) (.t none (.t none (.u) (.t none (.u) (.t none (.t none (.u) (.u)) (.u)))) (.t none (.t none (.u) (.t none (.t none (.u) (.t none (.u) (.u))) (.u))) (.t none (.u) (.t none (.u) (.t none (.u) (.t none (.u) (.u))))))))) [(0, .c (.i .i64))] [.pointer t1, .int .i64 id2, .int .i64 p3] K w = S.threads_Threads_Prio t1 id2 p3 K w := by kernel_rfl
  exact okF_mk Try.func26 rfl (fn_sound names_ok follows_ok Try.func26 rfl (by kernel_rfl) (Eq.mpr e h))

/-- (*buttress/threads.Threads).Yield -/
def S.threads_Threads_Yield (t1 : Option Addr) (core2 : Int) (K : Bool → World → Prop) (w : World) : Prop :=
  C.threads_Threads_Runs t1 core2 (fun r3 r4 w5 =>
   bif !r4 then
    (K false w5)
   else
    (∃ a6 : Addr, t1 = some a6 ∧
   ∃ l7 : Sl, w5.cell? a6 = some (.slice l7.a l7.len l7.cap) ∧
   ∃ a8 : Addr, l7.a = some a8 ∧ 0 ≤ r3 ∧ r3 < (l7.len : Int) ∧
   St w5 ((a8.add (r3.toNat * 12)).add 3) (.int .i64 (5 : Int)) fun w9 =>
   C.threads_Threads_leave t1 r3 (1 : Int) (fun w10 =>
   C.threads_Threads_lineUp t1 r3 (fun w11 =>
   C.threads_Threads_Pick t1 core2 (fun r12 r13 w14 =>
   K true w14) w11) w10) w9)) w
set_option maxRecDepth 100000 in
theorem S.threads_Threads_Yield_ok (t1 : Option Addr) (core2 : Int) (K : Bool → World → Prop) (w : World) (h : S.threads_Threads_Yield t1 core2 K w) : C.threads_Threads_Yield t1 core2 K w := by
  have e : fnV Try.prog Try.f27 (bodyOf Try.f27) (.t none (.u) (.t none (.u) (.t none (.t none (.u) (.t none (.t none (.u) (.u)) (.u))) (.t none (.u) (.t none (.u) (.t none (.u) (.t none (.u) (.t none (.u) (.u))))))))) [(0, .c (.b))] [.pointer t1, .int .i64 core2] K w = S.threads_Threads_Yield t1 core2 K w := by kernel_rfl
  exact okF_mk Try.func27 rfl (fn_sound names_ok follows_ok Try.func27 rfl (by kernel_rfl) (Eq.mpr e h))

/-- (*buttress/threads.Threads).Copy -/
def S.threads_Threads_Copy (t1 : Option Addr) (K : Option Addr → World → Prop) (w : World) : Prop :=
  Dr w fun w2 =>
   ∃ a3 : Addr, t1 = some a3 ∧
   ∃ l4 : Sl, w2.cell? a3 = some (.slice l4.a l4.len l4.cap) ∧
   ∃ a5 : Addr, t1 = some a5 ∧
   ∃ runs6 : Sl, w2.cell? (a5.add 2) = some (.slice runs6.a runs6.len runs6.cap) ∧
   (C.slices_Clone_api_Thread_api_Thread l4 (fun r7 w8 =>
   w8.cell? (a5.add 2) = some (.slice runs6.a runs6.len runs6.cap) ∧
   (C.slices_Clone_int_int runs6 (fun r9 w10 =>
   (Al w10 (.cells #[.slice r7.a r7.len r7.cap, .slice none 0 0, .slice r9.a r9.len r9.cap] 65) fun w11 =>
   ∃ a12 : Addr, t1 = some a12 ∧
   ∃ q13 : Sl, w11.cell? (a12.add 1) = some (.slice q13.a q13.len q13.cap) ∧
   ∀ l14 : Int → World → Prop,
   (∀ (t15 : Int) (w16 : World), (bif decide (t15 < (q13.len : Int)) then
    (∃ a17 : Addr, q13.a = some a17 ∧ 0 ≤ t15 ∧ t15 < (q13.len : Int) ∧
   ∃ t18 : Option Addr, w16.cell? (a17.add (t15.toNat * 1)) = some (.pointer t18) ∧
   Dr w16 fun w19 =>
   ∃ a20 : Addr, some (Addr.mk w10.heap.size 0 none) = some a20 ∧
   ∃ q21 : Sl, w19.cell? (a20.add 1) = some (.slice q21.a q21.len q21.cap) ∧
   (C.ready_Queue_Copy t18 (fun r22 w23 =>
   w23.cell? (a20.add 1) = some (.slice q21.a q21.len q21.cap) ∧
   (Al w23 (.cells #[.pointer r22] 66) fun w24 =>
   (∃ (t25 : Sl) (w26 : World), AppR Try.prog [63, 63] 63 (.slice q21.a q21.len q21.cap) (.slice (some (Addr.mk w23.heap.size 0 none)) 1 1) w24 t25 w26 ∧
   ∃ a27 : Addr, some (Addr.mk w10.heap.size 0 none) = some a27 ∧
   (St w26 (a27.add 1) (.slice t25.a t25.len t25.cap) fun w28 =>
   l14 (IntKind.i64.wrap (t15 + (1 : Int))) w28) ∧
   True) ∧
   True) ∧
   True) w19) ∧
   True)
   else
    (K (some (Addr.mk w10.heap.size 0 none)) w16)) → l14 t15 w16) →
   l14 (0 : Int) w11) ∧
   True) w8) ∧
   True) w2) ∧
   True
set_option maxRecDepth 100000 in
theorem S.threads_Threads_Copy_ok (t1 : Option Addr) (K : Option Addr → World → Prop) (w : World) (h : S.threads_Threads_Copy t1 K w) : C.threads_Threads_Copy t1 K w := by
  have e : fnV Try.prog Try.f29 (bodyOf Try.f29) (.t none (.u) (.t none (.r none (.one 0 480 (.one 1 480 (.one 2 480 (.one 3 480 (.one 5 16 (.one 6 16 (.one 7 16 (.hold 8 16 5631 (.alt 4 (.alt 9 (.one 10 0 (.alt 11 (.one 12 0 (.done)) (.none))) (.none)) (.none))))))))))) (.t none (.t none (.u) (.t none (.t (some [(23, .c (.i .i64))]) (.t none (.u) (.t none (.t none (.u) (.u)) (.t none (.t none (.t none (.u) (.r none (.one 0 510 (.one 1 224 (.one 2 224 (.one 3 224 (.one 5 16 (.hold 4 192 1791 (.alt 6 (.alt 7 (.alt 8 (.one 9 0 (.one 10 0 (.alt 11 (.done) (.none)))) (.none)) (.none)) (.none)))))))))) (.u)) (.u)))) (.u)) (.u))) (.t none (.u) (.u))))) [(0, .c (.p))] [.pointer t1] K w = S.threads_Threads_Copy t1 K w := by kernel_rfl
  exact okF_mk Try.func29 rfl (fn_sound names_ok follows_ok Try.func29 rfl (by kernel_rfl) (Eq.mpr e h))

/-- buttress/threads.prio -/
def S.threads_prio (n1 : Int) (K : Bool → World → Prop) (w : World) : Prop :=
  bif decide (n1 ≥ (0 : Int)) then
    (K (decide (n1 < (256 : Int))) w)
   else
    (K false w)
set_option maxRecDepth 100000 in
theorem S.threads_prio_ok (n1 : Int) (K : Bool → World → Prop) (w : World) (h : S.threads_prio n1 K w) : C.threads_prio n1 K w := by
  have e : fnV Try.prog Try.f36 (bodyOf Try.f36) (.t none (.u) (.t none (.u) (.u))) [(0, .c (.b))] [.int .i64 n1] K w = S.threads_prio n1 K w := by kernel_rfl
  exact okF_mk Try.func36 rfl (fn_sound names_ok follows_ok Try.func36 rfl (by kernel_rfl) (Eq.mpr e h))

/-- (*buttress/threads.Threads).core -/
def S.threads_Threads_core (t1 : Option Addr) (n2 : Int) (K : Bool → World → Prop) (w : World) : Prop :=
  bif decide (n2 ≥ (0 : Int)) then
    (∃ a3 : Addr, t1 = some a3 ∧
   ∃ q4 : Sl, w.cell? (a3.add 1) = some (.slice q4.a q4.len q4.cap) ∧
   K (decide (n2 < (q4.len : Int))) w)
   else
    (K false w)
set_option maxRecDepth 100000 in
theorem S.threads_Threads_core_ok (t1 : Option Addr) (n2 : Int) (K : Bool → World → Prop) (w : World) (h : S.threads_Threads_core t1 n2 K w) : C.threads_Threads_core t1 n2 K w := by
  have e : fnV Try.prog Try.f37 (bodyOf Try.f37) (.t none (.u) (.t none (.u) (.u))) [(0, .c (.b))] [.pointer t1, .int .i64 n2] K w = S.threads_Threads_core t1 n2 K w := by kernel_rfl
  exact okF_mk Try.func37 rfl (fn_sound names_ok follows_ok Try.func37 rfl (by kernel_rfl) (Eq.mpr e h))

/-- (*buttress/threads.Threads).one -/
def S.threads_Threads_one (t1 : Option Addr) (id2 : Int) (K : Option Addr → World → Prop) (w : World) : Prop :=
  ∀ k3 : Bool → World → Prop,
   (∀ (t4 : Bool) (w5 : World), (bif t4 then
    (K none w5)
   else
    (∃ a6 : Addr, t1 = some a6 ∧
   ∃ l7 : Sl, w5.cell? a6 = some (.slice l7.a l7.len l7.cap) ∧
   ∃ a8 : Addr, l7.a = some a8 ∧ 0 ≤ id2 ∧ id2 < (l7.len : Int) ∧
   K (some (a8.add (id2.toNat * 12))) w5)) → k3 t4 w5) →
   (bif decide (id2 < (0 : Int)) then
    (k3 true w)
   else
    (∃ a9 : Addr, t1 = some a9 ∧
   ∃ l10 : Sl, w.cell? a9 = some (.slice l10.a l10.len l10.cap) ∧
   k3 (decide (id2 ≥ (l10.len : Int))) w))
set_option maxRecDepth 100000 in
theorem S.threads_Threads_one_ok (t1 : Option Addr) (id2 : Int) (K : Option Addr → World → Prop) (w : World) (h : S.threads_Threads_one t1 id2 K w) : C.threads_Threads_one t1 id2 K w := by
  have e : fnV Try.prog Try.f38 (bodyOf Try.f38) (.t none (.u) (.t none (.t none (.r (some [(15, .c (.b))]) .done) (.t none (.t none (.u) (.u)) (.u))) (.t none (.u) (.u)))) [(0, .c (.p))] [.pointer t1, .int .i64 id2] K w = S.threads_Threads_one t1 id2 K w := by kernel_rfl
  exact okF_mk Try.func38 rfl (fn_sound names_ok follows_ok Try.func38 rfl (by kernel_rfl) (Eq.mpr e h))

/-- (*buttress/threads.Threads).lineUp -/
def S.threads_Threads_lineUp (t1 : Option Addr) (id2 : Int) (K : World → Prop) (w : World) : Prop :=
  C.threads_Threads_one t1 id2 (fun r3 w4 =>
   ∃ a5 : Addr, r3 = some a5 ∧
   St w4 a5 (.int .i64 (1 : Int)) fun w6 =>
   Dr w6 fun w7 =>
   ∃ a8 : Addr, t1 = some a8 ∧
   ∃ q9 : Sl, w7.cell? (a8.add 1) = some (.slice q9.a q9.len q9.cap) ∧
   ∃ a10 : Addr, r3 = some a10 ∧
   ∃ core11 : Int, w7.cell? (a10.add 2) = some (.int .i64 core11) ∧
   ∃ a12 : Addr, q9.a = some a12 ∧ 0 ≤ core11 ∧ core11 < (q9.len : Int) ∧
   ∃ t13 : Option Addr, w7.cell? (a12.add (core11.toNat * 1)) = some (.pointer t13) ∧
   ∃ a14 : Addr, r3 = some a14 ∧
   ∃ prio15 : Int, w7.cell? (a14.add 1) = some (.int .i64 prio15) ∧
   (C.ready_Queue_Put t13 prio15 id2 (fun r16 w17 =>
   K w17) w7) ∧
   True) w
set_option maxRecDepth 100000 in
theorem S.threads_Threads_lineUp_ok (t1 : Option Addr) (id2 : Int) (K : World → Prop) (w : World) (h : S.threads_Threads_lineUp t1 id2 K w) : C.threads_Threads_lineUp t1 id2 K w := by
  have e : fnV Try.prog Try.f39 (bodyOf Try.f39) (.t none (.u) (.t none (.u) (.r none (.one 0 31984 (.one 1 31984 (.one 2 31984 (.one 3 31984 (.one 4 31744 (.one 5 31744 (.one 6 31744 (.one 7 31744 (.one 8 31744 (.one 9 31744 (.one 10 16384 (.one 11 16384 (.one 12 16384 (.one 13 16384 (.one 14 0 (.alt 15 (.done) (.none)))))))))))))))))))) [] [.pointer t1, .int .i64 id2] K w = S.threads_Threads_lineUp t1 id2 K w := by kernel_rfl
  exact okF_mk Try.func39 rfl (fn_sound names_ok follows_ok Try.func39 rfl (by kernel_rfl) (Eq.mpr e h))

/-- (*buttress/threads.Threads).leave -/
def S.threads_Threads_leave (t1 : Option Addr) (id2 : Int) (state3 : Int) (K : World → Prop) (w : World) : Prop :=
  C.threads_Threads_one t1 id2 (fun r4 w5 =>
   ∃ a6 : Addr, r4 = some a6 ∧
   ∃ state7 : Int, w5.cell? a6 = some (.int .i64 state7) ∧
   ∀ k8 : World → Prop,
   (∀ (w9 : World), (∃ a10 : Addr, r4 = some a10 ∧
   St w9 a10 (.int .i64 state3) fun w11 =>
   K w11) → k8 w9) →
   (bif state7 == (1 : Int) then
    (Dr w5 fun w12 =>
   ∃ a13 : Addr, t1 = some a13 ∧
   ∃ q14 : Sl, w12.cell? (a13.add 1) = some (.slice q14.a q14.len q14.cap) ∧
   ∃ a15 : Addr, r4 = some a15 ∧
   ∃ core16 : Int, w12.cell? (a15.add 2) = some (.int .i64 core16) ∧
   ∃ a17 : Addr, q14.a = some a17 ∧ 0 ≤ core16 ∧ core16 < (q14.len : Int) ∧
   ∃ t18 : Option Addr, w12.cell? (a17.add (core16.toNat * 1)) = some (.pointer t18) ∧
   (C.ready_Queue_Take t18 id2 (fun r19 w20 =>
   k8 w20) w12) ∧
   True)
   else
    (bif state7 == (2 : Int) then
    (Dr w5 fun w21 =>
   ∃ a22 : Addr, t1 = some a22 ∧
   ∃ runs23 : Sl, w21.cell? (a22.add 2) = some (.slice runs23.a runs23.len runs23.cap) ∧
   ∃ a24 : Addr, r4 = some a24 ∧
   ∃ core25 : Int, w21.cell? (a24.add 2) = some (.int .i64 core25) ∧
   ∃ a26 : Addr, runs23.a = some a26 ∧ 0 ≤ core25 ∧ core25 < (runs23.len : Int) ∧
   (St w21 (a26.add (core25.toNat * 1)) (.int .i64 (-1 : Int)) fun w27 =>
   k8 w27) ∧
   True)
   else
    (k8 w5)))) w
set_option maxRecDepth 100000 in
theorem S.threads_Threads_leave_ok (t1 : Option Addr) (id2 : Int) (state3 : Int) (K : World → Prop) (w : World) (h : S.threads_Threads_leave t1 id2 state3 K w) : C.threads_Threads_leave t1 id2 state3 K w := by
  have e : fnV Try.prog Try.f41 (bodyOf Try.f41) (.t none (.u) (.t none (.t none (.u) (.t none (.t none (.u) (.t (some []) (.r none (.one 0 1264 (.one 1 1264 (.one 2 1264 (.one 3 1264 (.one 4 1024 (.one 5 1024 (.one 6 1024 (.one 7 1024 (.one 8 1024 (.one 9 1024 (.one 10 0 (.alt 11 (.done) (.none)))))))))))))) (.t none (.u) (.t none (.r none (.one 0 240 (.one 1 240 (.one 2 240 (.one 3 240 (.one 4 0 (.one 5 0 (.one 6 0 (.one 7 0 (.one 8 0 (.alt 9 (.done) (.none)))))))))))) (.u))))) (.u))) (.u))) [] [.pointer t1, .int .i64 id2, .int .i64 state3] K w = S.threads_Threads_leave t1 id2 state3 K w := by kernel_rfl
  exact okF_mk Try.func41 rfl (fn_sound names_ok follows_ok Try.func41 rfl (by kernel_rfl) (Eq.mpr e h))

/-- buttress/threads.first -/
def S.threads_first (l1 : Sl) (K : Int → World → Prop) (w : World) : Prop :=
  C.slices_IndexFunc_api_Errno_api_Errno l1 (.func (.func 66) #[] #[]) (fun r2 w3 =>
   bif decide (r2 < (0 : Int)) then
    (K (0 : Int) w3)
   else
    (∃ a4 : Addr, l1.a = some a4 ∧ 0 ≤ r2 ∧ r2 < (l1.len : Int) ∧
   ∃ t5 : Int, w3.cell? (a4.add (r2.toNat * 1)) = some (.int .i64 t5) ∧
   K t5 w3)) w
set_option maxRecDepth 100000 in
theorem S.threads_first_ok (l1 : Sl) (K : Int → World → Prop) (w : World) (h : S.threads_first l1 K w) : C.threads_first l1 K w := by
  have e : fnV Try.prog Try.f43 (bodyOf Try.f43) (.t none (.u) (.t none (.u) (.t none (.t none (.u) (.t none (.t none (.u) (.u)) (.u))) (.t none (.u) (.u))))) [(0, .c (.i .i64))] [.slice l1.a l1.len l1.cap] K w = S.threads_first l1 K w := by kernel_rfl
  exact okF_mk Try.func43 rfl (fn_sound names_ok follows_ok Try.func43 rfl (by kernel_rfl) (Eq.mpr e h))

/-- buttress/threads.when -/
def S.threads_when (so1 : Bool) (e2 : Int) (K : Int → World → Prop) (w : World) : Prop :=
  bif so1 then
    (K e2 w)
   else
    (K (0 : Int) w)
set_option maxRecDepth 100000 in
theorem S.threads_when_ok (so1 : Bool) (e2 : Int) (K : Int → World → Prop) (w : World) (h : S.threads_when so1 e2 K w) : C.threads_when so1 e2 K w := by
  have e : fnV Try.prog Try.f44 (bodyOf Try.f44) (.t none (.u) (.t none (.t none (.u) (.t none (.t none (.u) (.u)) (.u))) (.t none (.u) (.u)))) [(0, .c (.i .i64))] [.bool so1, .int .i64 e2] K w = S.threads_when so1 e2 K w := by kernel_rfl
  exact okF_mk Try.func44 rfl (fn_sound names_ok follows_ok Try.func44 rfl (by kernel_rfl) (Eq.mpr e h))

/-- buttress/threads.first$1 -/
def S.threads_first_1 (e1 : Int) (K : Bool → World → Prop) (w : World) : Prop :=
  K (e1 != (0 : Int)) w
set_option maxRecDepth 100000 in
theorem S.threads_first_1_ok (e1 : Int) (K : Bool → World → Prop) (w : World) (h : S.threads_first_1 e1 K w) : C.threads_first_1 e1 K w := by
  have e : fnV Try.prog Try.f66 (bodyOf Try.f66) (.t none (.u) (.t none (.u) (.u))) [(0, .c (.b))] [.int .i64 e1] K w = S.threads_first_1 e1 K w := by kernel_rfl
  exact okF_mk Try.func66 rfl (fn_sound names_ok follows_ok Try.func66 rfl (by kernel_rfl) (Eq.mpr e h))
end Go.Proofs.Ytgkebkfabegflaa
