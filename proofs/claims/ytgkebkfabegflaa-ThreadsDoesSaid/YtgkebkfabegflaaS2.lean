/- The functions' texts, and that a call comes to them. Printed by a program of mine (gen.py). -/
import Derived.Test.YtgkebkfabegflaaC
set_option linter.unusedVariables false
namespace Go.Proofs.Ytgkebkfabegflaa
open Go Go.Vc Go.Proofs

/-- buttress/buttressref10.New -/
def S.ref10_New (cores1 : Int) (K : Option Addr → Int → World → Prop) (w : World) : Prop :=
  ∀ k2 : Bool → World → Prop,
   (∀ (t3 : Bool) (w4 : World), (bif t3 then
    (K none (1 : Int) w4)
   else
    (Al w4 (.cells #[.slice none 0 0, .slice none 0 0] 60) fun w5 =>
   ∀ l6 : Int → World → Prop,
   (∀ (i7 : Int) (w8 : World), (bif decide (i7 < cores1) then
    (∃ a9 : Addr, some (Addr.mk w4.heap.size 0 none) = some a9 ∧
   ∃ q10 : Sl, w8.cell? (a9.add 1) = some (.slice q10.a q10.len q10.cap) ∧
   Al w8 (.cells #[.slice none 0 0] 87) fun w11 =>
   Al w11 (.cells #[.pointer (some (Addr.mk w8.heap.size 0 none))] 84) fun w12 =>
   ∃ (t13 : Sl) (w14 : World), AppR Try.prog [58, 58] 58 (.slice q10.a q10.len q10.cap) (.slice (some (Addr.mk w11.heap.size 0 none)) 1 1) w12 t13 w14 ∧
   ∃ a15 : Addr, some (Addr.mk w4.heap.size 0 none) = some a15 ∧
   St w14 (a15.add 1) (.slice t13.a t13.len t13.cap) fun w16 =>
   l6 (IntKind.i64.wrap (i7 + (1 : Int))) w16)
   else
    (K (some (Addr.mk w4.heap.size 0 none)) (0 : Int) w8)) → l6 i7 w8) →
   l6 (0 : Int) w5)) → k2 t3 w4) →
   (bif decide (cores1 < (1 : Int)) then
    (k2 true w)
   else
    (k2 (decide (cores1 > (8 : Int))) w))
set_option maxRecDepth 100000 in
theorem S.ref10_New_ok (cores1 : Int) (K : Option Addr → Int → World → Prop) (w : World) (h : S.ref10_New cores1 K w) : C.ref10_New cores1 K w := by
  have e : fnV Try.prog Try.f28 (bodyOf Try.f28) (.t none (.u) (.t none (.t none (.r (some [(11, .c (.b))]) .done) (.t none (.t none (.u) (.u)) (.u))) (.t none (.u) (.t none (.t none (.u) (.t none (.t (some [(5, .c (.i .i64))]) (.t none (.t none (.u) (.t none (.u) (.u))) (.t none (.t none (.u) (.u)) (.u))) (.u)) (.u))) (.t none (.u) (.u)))))) [(0, .c (.p)), (1, .c (.i .i64))] [.int .i64 cores1] K w = S.ref10_New cores1 K w := by kernel_rfl
  exact okF_mk Try.func28 rfl (fn_sound names_ok follows_ok Try.func28 rfl (by kernel_rfl) (Eq.mpr e h))

/-- (*buttress/buttressref10.Threads).Get -/
def S.ref10_Threads_Get (t1 : Option Addr) (id2 : Int) (K : Int → Int → Int → Int → Int → Int → Int → Int → Int → Int → Int → Int → Int → World → Prop) (w : World) : Prop :=
  Al w (.cells #[.int .i64 (0 : Int), .int .i64 (0 : Int), .int .i64 (0 : Int), .int .i64 (0 : Int), .int .u64 (0 : Int), .int .u64 (0 : Int), .int .u64 (0 : Int), .int .u64 (0 : Int), .int .u64 (0 : Int), .int .u64 (0 : Int), .int .u64 (0 : Int), .int .u64 (0 : Int)] 37) fun w3 =>
   C.ref10_Threads_is t1 id2 (fun r4 w5 =>
   bif !r4 then
    (StL w5 (Addr.mk w.heap.size 0 none) 0 [.int .i64 (0 : Int), .int .i64 (0 : Int), .int .i64 (0 : Int), .int .i64 (0 : Int), .int .u64 (0 : Int), .int .u64 (0 : Int), .int .u64 (0 : Int), .int .u64 (0 : Int), .int .u64 (0 : Int), .int .u64 (0 : Int), .int .u64 (0 : Int), .int .u64 (0 : Int)] fun w6 =>
   LdL w6 (Addr.mk w.heap.size 0 none) 0 [.i .i64, .i .i64, .i .i64, .i .i64, .i .u64, .i .u64, .i .u64, .i .u64, .i .u64, .i .u64, .i .u64, .i .u64] fun (r7 : Int) (r8 : Int) (r9 : Int) (r10 : Int) (r11 : Int) (r12 : Int) (r13 : Int) (r14 : Int) (r15 : Int) (r16 : Int) (r17 : Int) (r18 : Int) =>
   K r7 r8 r9 r10 r11 r12 r13 r14 r15 r16 r17 r18 (100 : Int) w6)
   else
    (∃ a19 : Addr, t1 = some a19 ∧
   ∃ l20 : Sl, w5.cell? a19 = some (.slice l20.a l20.len l20.cap) ∧
   ∃ a21 : Addr, l20.a = some a21 ∧ 0 ≤ id2 ∧ id2 < (l20.len : Int) ∧
   LdL w5 (a21.add (id2.toNat * 12)) 0 [.i .i64, .i .i64, .i .i64, .i .i64, .i .u64, .i .u64, .i .u64, .i .u64, .i .u64, .i .u64, .i .u64, .i .u64] fun (t22 : Int) (t23 : Int) (t24 : Int) (t25 : Int) (t26 : Int) (t27 : Int) (t28 : Int) (t29 : Int) (t30 : Int) (t31 : Int) (t32 : Int) (t33 : Int) =>
   StL w5 (Addr.mk w.heap.size 0 none) 0 [.int .i64 t22, .int .i64 t23, .int .i64 t24, .int .i64 t25, .int .u64 t26, .int .u64 t27, .int .u64 t28, .int .u64 t29, .int .u64 t30, .int .u64 t31, .int .u64 t32, .int .u64 t33] fun w34 =>
   LdL w34 (Addr.mk w.heap.size 0 none) 0 [.i .i64, .i .i64, .i .i64, .i .i64, .i .u64, .i .u64, .i .u64, .i .u64, .i .u64, .i .u64, .i .u64, .i .u64] fun (r35 : Int) (r36 : Int) (r37 : Int) (r38 : Int) (r39 : Int) (r40 : Int) (r41 : Int) (r42 : Int) (r43 : Int) (r44 : Int) (r45 : Int) (r46 : Int) =>
   K r35 r36 r37 r38 r39 r40 r41 r42 r43 r44 r45 r46 (0 : Int) w34)) w3
set_option maxRecDepth 100000 in
theorem S.ref10_Threads_Get_ok (t1 : Option Addr) (id2 : Int) (K : Int → Int → Int → Int → Int → Int → Int → Int → Int → Int → Int → Int → Int → World → Prop) (w : World) (h : S.ref10_Threads_Get t1 id2 K w) : C.ref10_Threads_Get t1 id2 K w := by
  have e : fnV Try.prog Try.f31 (bodyOf Try.f31) (.t none (.u) (.t none (.t none (.u) (.t none (.t none (.u) (.u)) (.u))) (.t none (.u) (.u)))) [(0, .a [.i .i64, .i .i64, .i .i64, .i .i64, .i .u64, .i .u64, .i .u64, .i .u64, .i .u64, .i .u64, .i .u64, .i .u64]), (1, .c (.i .i64))] [.pointer t1, .int .i64 id2] K w = S.ref10_Threads_Get t1 id2 K w := by kernel_rfl
  exact okF_mk Try.func31 rfl (fn_sound names_ok follows_ok Try.func31 rfl (by kernel_rfl) (Eq.mpr e h))

/-- (*buttress/buttressref10.Threads).Runs -/
def S.ref10_Threads_Runs (t1 : Option Addr) (core2 : Int) (K : Int → Bool → World → Prop) (w : World) : Prop :=
  ∀ l3 : Int → World → Prop,
   (∀ (i4 : Int) (w5 : World), (∃ a6 : Addr, t1 = some a6 ∧
   ∃ l7 : Sl, w5.cell? a6 = some (.slice l7.a l7.len l7.cap) ∧
   bif decide (i4 < (l7.len : Int)) then
    (∀ k8 : Bool → World → Prop,
   (∀ (t9 : Bool) (w10 : World), (bif t9 then
    (K i4 true w10)
   else
    (l3 (IntKind.i64.wrap (i4 + (1 : Int))) w10)) → k8 t9 w10) →
   (∃ a11 : Addr, t1 = some a11 ∧
   ∃ l12 : Sl, w5.cell? a11 = some (.slice l12.a l12.len l12.cap) ∧
   ∃ a13 : Addr, l12.a = some a13 ∧ 0 ≤ i4 ∧ i4 < (l12.len : Int) ∧
   ∃ state14 : Int, w5.cell? (a13.add (i4.toNat * 12)) = some (.int .i64 state14) ∧
   bif state14 == (2 : Int) then
    (∃ a15 : Addr, t1 = some a15 ∧
   ∃ l16 : Sl, w5.cell? a15 = some (.slice l16.a l16.len l16.cap) ∧
   ∃ a17 : Addr, l16.a = some a17 ∧ 0 ≤ i4 ∧ i4 < (l16.len : Int) ∧
   ∃ core18 : Int, w5.cell? ((a17.add (i4.toNat * 12)).add 2) = some (.int .i64 core18) ∧
   k8 (core18 == core2) w5)
   else
    (k8 false w5)))
   else
    (K (0 : Int) false w5)) → l3 i4 w5) →
   l3 (0 : Int) w
set_option maxRecDepth 100000 in
theorem S.ref10_Threads_Runs_ok (t1 : Option Addr) (core2 : Int) (K : Int → Bool → World → Prop) (w : World) (h : S.ref10_Threads_Runs t1 core2 K w) : C.ref10_Threads_Runs t1 core2 K w := by
  have e : fnV Try.prog Try.f32 (bodyOf Try.f32) (.t none (.u) (.t none (.t none (.u) (.t none (.t (some [(6, .c (.i .i64))]) (.t none (.t none (.u) (.t none (.u) (.u))) (.t none (.t none (.t none (.r (some [(36, .c (.b))]) .done) (.t none (.t none (.u) (.u)) (.u))) (.u)) (.u))) (.u)) (.u))) (.t none (.u) (.u)))) [(0, .c (.i .i64)), (1, .c (.b))] [.pointer t1, .int .i64 core2] K w = S.ref10_Threads_Runs t1 core2 K w := by kernel_rfl
  exact okF_mk Try.func32 rfl (fn_sound names_ok follows_ok Try.func32 rfl (by kernel_rfl) (Eq.mpr e h))

/-- (*buttress/buttressref10.Threads).Line -/
def S.ref10_Threads_Line (t1 : Option Addr) (core2 : Int) (p3 : Int) (K : Sl → World → Prop) (w : World) : Prop :=
  C.ref10_Threads_core t1 core2 (fun r4 w5 =>
   bif !r4 then
    (K ⟨none, 0, 0⟩ w5)
   else
    (∃ a6 : Addr, t1 = some a6 ∧
   ∃ q7 : Sl, w5.cell? (a6.add 1) = some (.slice q7.a q7.len q7.cap) ∧
   ∃ a8 : Addr, q7.a = some a8 ∧ 0 ≤ core2 ∧ core2 < (q7.len : Int) ∧
   ∃ t9 : Option Addr, w5.cell? (a8.add (core2.toNat * 1)) = some (.pointer t9) ∧
   C.ref09_Queue_Line t9 p3 (fun r10 w11 =>
   K r10 w11) w5)) w
set_option maxRecDepth 100000 in
theorem S.ref10_Threads_Line_ok (t1 : Option Addr) (core2 : Int) (p3 : Int) (K : Sl → World → Prop) (w : World) (h : S.ref10_Threads_Line t1 core2 p3 K w) : C.ref10_Threads_Line t1 core2 p3 K w := by
  have e : fnV Try.prog Try.f33 (bodyOf Try.f33) (.t none (.u) (.t none (.t none (.u) (.t none (.t none (.u) (.u)) (.u))) (.t none (.u) (.u)))) [(0, .c (.s))] [.pointer t1, .int .i64 core2, .int .i64 p3] K w = S.ref10_Threads_Line t1 core2 p3 K w := by kernel_rfl
  exact okF_mk Try.func33 rfl (fn_sound names_ok follows_ok Try.func33 rfl (by kernel_rfl) (Eq.mpr e h))

/-- (*buttress/buttressref10.Threads).Make -/
def S.ref10_Threads_Make (t1 : Option Addr) (p2 : Int) (core3 : Int) (K : Int → Int → World → Prop) (w : World) : Prop :=
  ∀ k4 : Bool → World → Prop,
   (∀ (t5 : Bool) (w6 : World), (bif t5 then
    (K (0 : Int) (1 : Int) w6)
   else
    (∃ a7 : Addr, t1 = some a7 ∧
   ∃ l8 : Sl, w6.cell? a7 = some (.slice l8.a l8.len l8.cap) ∧
   bif decide ((l8.len : Int) ≥ (64 : Int)) then
    (K (0 : Int) (2 : Int) w6)
   else
    (∃ a9 : Addr, t1 = some a9 ∧
   ∃ l10 : Sl, w6.cell? a9 = some (.slice l10.a l10.len l10.cap) ∧
   Al w6 (.cells #[.int .i64 (0 : Int), .int .i64 p2, .int .i64 core3, .int .i64 (5 : Int), .int .u64 (0 : Int), .int .u64 (0 : Int), .int .u64 (0 : Int), .int .u64 (0 : Int), .int .u64 (0 : Int), .int .u64 (0 : Int), .int .u64 (0 : Int), .int .u64 (0 : Int)] 37) fun w11 =>
   ∃ (t12 : Sl) (w13 : World), AppR Try.prog [57, 57] 57 (.slice l10.a l10.len l10.cap) (.slice (some (Addr.mk w6.heap.size 0 none)) 1 1) w11 t12 w13 ∧
   ∃ a14 : Addr, t1 = some a14 ∧
   St w13 a14 (.slice t12.a t12.len t12.cap) fun w15 =>
   ∃ a16 : Addr, t1 = some a16 ∧
   ∃ l17 : Sl, w15.cell? a16 = some (.slice l17.a l17.len l17.cap) ∧
   K (IntKind.i64.wrap ((l17.len : Int) - (1 : Int))) (0 : Int) w15))) → k4 t5 w6) →
   (C.ref10_prio p2 (fun r18 w19 =>
   bif !r18 then
    (k4 true w19)
   else
    (C.ref10_Threads_core t1 core3 (fun r20 w21 =>
   k4 (!r20) w21) w19)) w)
set_option maxRecDepth 100000 in
theorem S.ref10_Threads_Make_ok (t1 : Option Addr) (p2 : Int) (core3 : Int) (K : Int → Int → World → Prop) (w : World) (h : S.ref10_Threads_Make t1 p2 core3 K w) : C.ref10_Threads_Make t1 p2 core3 K w := by
  have e : fnV Try.prog Try.f48 (bodyOf Try.f48) (.t none (.u) (.t none (.t none (.r (some [(16, .c (.b))]) .done) (.t none (.t none (.u) (.u)) (.u))) (.t none (.t none (.u) (.t none (.t none (.u) (.u)) (.u))) (.t none (.u) (.t none (.u) (.u)))))) [(0, .c (.i .i64)), (1, .c (.i .i64))] [.pointer t1, .int .i64 p2, .int .i64 core3] K w = S.ref10_Threads_Make t1 p2 core3 K w := by kernel_rfl
  exact okF_mk Try.func48 rfl (fn_sound names_ok follows_ok Try.func48 rfl (by kernel_rfl) (Eq.mpr e h))

/-- (*buttress/buttressref10.Threads).Reg -/
def S.ref10_Threads_Reg (t1 : Option Addr) (id2 : Int) (i3 : Int) (v4 : Int) (K : Int → World → Prop) (w : World) : Prop :=
  C.ref10_Threads_is t1 id2 (fun r5 w6 =>
   bif !r5 then
    (K (100 : Int) w6)
   else
    (∀ k7 : Bool → World → Prop,
   (∀ (t8 : Bool) (w9 : World), (bif t8 then
    (K (1 : Int) w9)
   else
    (∃ a10 : Addr, t1 = some a10 ∧
   ∃ l11 : Sl, w9.cell? a10 = some (.slice l11.a l11.len l11.cap) ∧
   ∃ a12 : Addr, l11.a = some a12 ∧ 0 ≤ id2 ∧ id2 < (l11.len : Int) ∧
   0 ≤ i3 ∧ i3 < (8 : Int) ∧
   St w9 (((a12.add (id2.toNat * 12)).add 4).add (i3.toNat * 1)) (.int .u64 v4) fun w13 =>
   K (0 : Int) w13)) → k7 t8 w9) →
   (bif decide (i3 < (0 : Int)) then
    (k7 true w6)
   else
    (k7 (decide (i3 > (7 : Int))) w6)))) w
set_option maxRecDepth 100000 in
theorem S.ref10_Threads_Reg_ok (t1 : Option Addr) (id2 : Int) (i3 : Int) (v4 : Int) (K : Int → World → Prop) (w : World) (h : S.ref10_Threads_Reg t1 id2 i3 v4 K w) : C.ref10_Threads_Reg t1 id2 i3 v4 K w := by
  have e : fnV Try.prog Try.f49 (bodyOf Try.f49) (.t none (.u) (.t none (.t none (.u) (.t none (.t none (.u) (.u)) (.u))) (.t none (.t none (.r (some [(18, .c (.b))]) .done) (.t none (.t none (.u) (.u)) (.u))) (.t none (.u) (.t none (.u) (.u)))))) [(0, .c (.i .i64))] [.pointer t1, .int .i64 id2, .int .i64 i3, .int .u64 v4] K w = S.ref10_Threads_Reg t1 id2 i3 v4 K w := by kernel_rfl
  exact okF_mk Try.func49 rfl (fn_sound names_ok follows_ok Try.func49 rfl (by kernel_rfl) (Eq.mpr e h))

/-- (*buttress/buttressref10.Threads).Resume -/
def S.ref10_Threads_Resume (t1 : Option Addr) (id2 : Int) (K : Int → World → Prop) (w : World) : Prop :=
  C.ref10_Threads_is t1 id2 (fun r3 w4 =>
   bif !r3 then
    (K (100 : Int) w4)
   else
    (∀ k5 : Bool → World → Prop,
   (∀ (t6 : Bool) (w7 : World), (bif t6 then
    (K (101 : Int) w7)
   else
    (C.ref10_Threads_up t1 id2 (fun w8 =>
   K (0 : Int) w8) w7)) → k5 t6 w7) →
   (∃ a9 : Addr, t1 = some a9 ∧
   ∃ l10 : Sl, w4.cell? a9 = some (.slice l10.a l10.len l10.cap) ∧
   ∃ a11 : Addr, l10.a = some a11 ∧ 0 ≤ id2 ∧ id2 < (l10.len : Int) ∧
   ∃ state12 : Int, w4.cell? (a11.add (id2.toNat * 12)) = some (.int .i64 state12) ∧
   bif state12 == (1 : Int) then
    (k5 true w4)
   else
    (∃ a13 : Addr, t1 = some a13 ∧
   ∃ l14 : Sl, w4.cell? a13 = some (.slice l14.a l14.len l14.cap) ∧
   ∃ a15 : Addr, l14.a = some a15 ∧ 0 ≤ id2 ∧ id2 < (l14.len : Int) ∧
   ∃ state16 : Int, w4.cell? (a15.add (id2.toNat * 12)) = some (.int .i64 state16) ∧
   k5 (state16 == (2 : Int)) w4)))) w
set_option maxRecDepth 100000 in
theorem S.ref10_Threads_Resume_ok (t1 : Option Addr) (id2 : Int) (K : Int → World → Prop) (w : World) (h : S.ref10_Threads_Resume t1 id2 K w) : C.ref10_Threads_Resume t1 id2 K w := by
  have e : fnV Try.prog Try.f50 (bodyOf Try.f50) (.t none (.u) (.t none (.t none (.u) (.t none (.t none (.u) (.u)) (.u))) (.t none (.t none (.r (some [(28, .c (.b))]) .done) (.t none (.t none (.u) (.u)) (.u))) (.t none (.u) (.t none (.u) (.u)))))) [(0, .c (.i .i64))] [.pointer t1, .int .i64 id2] K w = S.ref10_Threads_Resume t1 id2 K w := by kernel_rfl
  exact okF_mk Try.func50 rfl (fn_sound names_ok follows_ok Try.func50 rfl (by kernel_rfl) (Eq.mpr e h))

/-- (*buttress/buttressref10.Threads).Suspend -/
def S.ref10_Threads_Suspend (t1 : Option Addr) (id2 : Int) (K : Int → World → Prop) (w : World) : Prop :=
  C.ref10_Threads_is t1 id2 (fun r3 w4 =>
   bif !r3 then
    (K (100 : Int) w4)
   else
    (∃ a5 : Addr, t1 = some a5 ∧
   ∃ l6 : Sl, w4.cell? a5 = some (.slice l6.a l6.len l6.cap) ∧
   ∃ a7 : Addr, l6.a = some a7 ∧ 0 ≤ id2 ∧ id2 < (l6.len : Int) ∧
   ∃ state8 : Int, w4.cell? (a7.add (id2.toNat * 12)) = some (.int .i64 state8) ∧
   bif state8 == (0 : Int) then
    (K (101 : Int) w4)
   else
    (C.ref10_Threads_out t1 id2 (fun w9 =>
   ∃ a10 : Addr, t1 = some a10 ∧
   ∃ l11 : Sl, w9.cell? a10 = some (.slice l11.a l11.len l11.cap) ∧
   ∃ a12 : Addr, l11.a = some a12 ∧ 0 ≤ id2 ∧ id2 < (l11.len : Int) ∧
   St w9 (a12.add (id2.toNat * 12)) (.int .i64 (0 : Int)) fun w13 =>
   K (0 : Int) w13) w4))) w
set_option maxRecDepth 100000 in
theorem S.ref10_Threads_Suspend_ok (t1 : Option Addr) (id2 : Int) (K : Int → World → Prop) (w : World) (h : S.ref10_Threads_Suspend t1 id2 K w) : C.ref10_Threads_Suspend t1 id2 K w := by
  have e : fnV Try.prog Try.f51 (bodyOf Try.f51) (.t none (.u) (.t none (.t none (.u) (.t none (.t none (.u) (.u)) (.u))) (.t none (.t none (.u) (.t none (.t none (.u) (.u)) (.u))) (.t none (.u) (.t none (.u) (.t none (.u) (.u))))))) [(0, .c (.i .i64))] [.pointer t1, .int .i64 id2] K w = S.ref10_Threads_Suspend t1 id2 K w := by kernel_rfl
  exact okF_mk Try.func51 rfl (fn_sound names_ok follows_ok Try.func51 rfl (by kernel_rfl) (Eq.mpr e h))

/-- (*buttress/buttressref10.Threads).Block -/
def S.ref10_Threads_Block (t1 : Option Addr) (id2 : Int) (K : Int → World → Prop) (w : World) : Prop :=
  C.ref10_Threads_is t1 id2 (fun r3 w4 =>
   bif !r3 then
    (K (100 : Int) w4)
   else
    (∃ a5 : Addr, t1 = some a5 ∧
   ∃ l6 : Sl, w4.cell? a5 = some (.slice l6.a l6.len l6.cap) ∧
   ∃ a7 : Addr, l6.a = some a7 ∧ 0 ≤ id2 ∧ id2 < (l6.len : Int) ∧
   ∃ state8 : Int, w4.cell? (a7.add (id2.toNat * 12)) = some (.int .i64 state8) ∧
   bif state8 != (2 : Int) then
    (K (101 : Int) w4)
   else
    (∃ a9 : Addr, t1 = some a9 ∧
   ∃ l10 : Sl, w4.cell? a9 = some (.slice l10.a l10.len l10.cap) ∧
   ∃ a11 : Addr, l10.a = some a11 ∧ 0 ≤ id2 ∧ id2 < (l10.len : Int) ∧
   St w4 (a11.add (id2.toNat * 12)) (.int .i64 (3 : Int)) fun w12 =>
   K (0 : Int) w12))) w
set_option maxRecDepth 100000 in
theorem S.ref10_Threads_Block_ok (t1 : Option Addr) (id2 : Int) (K : Int → World → Prop) (w : World) (h : S.ref10_Threads_Block t1 id2 K w) : C.ref10_Threads_Block t1 id2 K w := by
  have e : fnV Try.prog Try.f52 (bodyOf Try.f52) (.t none (.u) (.t none (.t none (.u) (.t none (.t none (.u) (.u)) (.u))) (.t none (.t none (.u) (.t none (.t none (.u) (.u)) (.u))) (.t none (.u) (.t none (.u) (.u)))))) [(0, .c (.i .i64))] [.pointer t1, .int .i64 id2] K w = S.ref10_Threads_Block t1 id2 K w := by kernel_rfl
  exact okF_mk Try.func52 rfl (fn_sound names_ok follows_ok Try.func52 rfl (by kernel_rfl) (Eq.mpr e h))

/-- (*buttress/buttressref10.Threads).Prio -/
def S.ref10_Threads_Prio (t1 : Option Addr) (id2 : Int) (p3 : Int) (K : Int → World → Prop) (w : World) : Prop :=
  C.ref10_Threads_is t1 id2 (fun r4 w5 =>
   bif !r4 then
    (K (100 : Int) w5)
   else
    (C.ref10_prio p3 (fun r6 w7 =>
   bif !r6 then
    (K (1 : Int) w7)
   else
    (C.ref10_Threads_out t1 id2 (fun w8 =>
   ∃ a9 : Addr, t1 = some a9 ∧
   ∃ l10 : Sl, w8.cell? a9 = some (.slice l10.a l10.len l10.cap) ∧
   ∃ a11 : Addr, l10.a = some a11 ∧ 0 ≤ id2 ∧ id2 < (l10.len : Int) ∧
   St w8 ((a11.add (id2.toNat * 12)).add 1) (.int .i64 p3) fun w12 =>
   ∃ a13 : Addr, t1 = some a13 ∧
   ∃ l14 : Sl, w12.cell? a13 = some (.slice l14.a l14.len l14.cap) ∧
   ∃ a15 : Addr, l14.a = some a15 ∧ 0 ≤ id2 ∧ id2 < (l14.len : Int) ∧
   ∃ state16 : Int, w12.cell? (a15.add (id2.toNat * 12)) = some (.int .i64 state16) ∧
   bif state16 == (1 : Int) then
    (C.ref10_Threads_up t1 id2 (fun w17 =>
   K (0 : Int) w17) w12)
   else
    (K (0 : Int) w12)) w7)) w5)) w
set_option maxRecDepth 100000 in
theorem S.ref10_Threads_Prio_ok (t1 : Option Addr) (id2 : Int) (p3 : Int) (K : Int → World → Prop) (w : World) (h : S.ref10_Threads_Prio t1 id2 p3 K w) : C.ref10_Threads_Prio t1 id2 p3 K w := by
  have e : fnV Try.prog Try.f53 (bodyOf Try.f53) (.t none (.u) (.t none (.t none (.u) (.t none (.t none (.u) (.u)) (.u))) (.t none (.t none (.u) (.t none (.t none (.u) (.u)) (.u))) (.t none (.u) (.t none (.u) (.t none (.t none (.u) (.t none (.u) (.u))) (.t none (.u) (.u)))))))) [(0, .c (.i .i64))] [.pointer t1, .int .i64 id2, .int .i64 p3] K w = S.ref10_Threads_Prio t1 id2 p3 K w := by kernel_rfl
  exact okF_mk Try.func53 rfl (fn_sound names_ok follows_ok Try.func53 rfl (by kernel_rfl) (Eq.mpr e h))

/-- (*buttress/buttressref10.Threads).Core -/
def S.ref10_Threads_Core (t1 : Option Addr) (id2 : Int) (core3 : Int) (K : Int → World → Prop) (w : World) : Prop :=
  C.ref10_Threads_is t1 id2 (fun r4 w5 =>
   bif !r4 then
    (K (100 : Int) w5)
   else
    (C.ref10_Threads_core t1 core3 (fun r6 w7 =>
   bif !r6 then
    (K (1 : Int) w7)
   else
    (∃ a8 : Addr, t1 = some a8 ∧
   ∃ l9 : Sl, w7.cell? a8 = some (.slice l9.a l9.len l9.cap) ∧
   ∃ a10 : Addr, l9.a = some a10 ∧ 0 ≤ id2 ∧ id2 < (l9.len : Int) ∧
   ∃ core11 : Int, w7.cell? ((a10.add (id2.toNat * 12)).add 2) = some (.int .i64 core11) ∧
   bif core11 == core3 then
    (K (0 : Int) w7)
   else
    (C.ref10_Threads_out t1 id2 (fun w12 =>
   ∃ a13 : Addr, t1 = some a13 ∧
   ∃ l14 : Sl, w12.cell? a13 = some (.slice l14.a l14.len l14.cap) ∧
   ∃ a15 : Addr, l14.a = some a15 ∧ 0 ≤ id2 ∧ id2 < (l14.len : Int) ∧
   St w12 ((a15.add (id2.toNat * 12)).add 2) (.int .i64 core3) fun w16 =>
   ∀ k17 : Bool → World → Prop,
   (∀ (t18 : Bool) (w19 : World), (bif t18 then
    (C.ref10_Threads_up t1 id2 (fun w20 =>
   K (0 : Int) w20) w19)
   else
    (K (0 : Int) w19)) → k17 t18 w19) →
   (∃ a21 : Addr, t1 = some a21 ∧
   ∃ l22 : Sl, w16.cell? a21 = some (.slice l22.a l22.len l22.cap) ∧
   ∃ a23 : Addr, l22.a = some a23 ∧ 0 ≤ id2 ∧ id2 < (l22.len : Int) ∧
   ∃ state24 : Int, w16.cell? (a23.add (id2.toNat * 12)) = some (.int .i64 state24) ∧
   bif state24 == (1 : Int) then
    (k17 true w16)
   else
    (∃ a25 : Addr, t1 = some a25 ∧
   ∃ l26 : Sl, w16.cell? a25 = some (.slice l26.a l26.len l26.cap) ∧
   ∃ a27 : Addr, l26.a = some a27 ∧ 0 ≤ id2 ∧ id2 < (l26.len : Int) ∧
   ∃ state28 : Int, w16.cell? (a27.add (id2.toNat * 12)) = some (.int .i64 state28) ∧
   k17 (state28 == (2 : Int)) w16))) w7))) w5)) w
set_option maxRecDepth 100000 in
theorem S.ref10_Threads_Core_ok (t1 : Option Addr) (id2 : Int) (core3 : Int) (K : Int → World → Prop) (w : World) (h : S.ref10_Threads_Core t1 id2 core3 K w) : C.ref10_Threads_Core t1 id2 core3 K w := by
  have e : fnV Try.prog Try.f54 (bodyOf Try.f54) (.t none (.u) (.t none (.t none (.u) (.t none (.t none (.u) (.u)) (.u))) (.t none (.t none (.u) (.t none (.t none (.u) (.u)) (.u))) (.t none (.t none (.u) (.t none (.t none (.u) (.u)) (.u))) (.t none (.u) (.t none (.u) (.t none (.t none (.r (some [(55, .c (.b))]) .done) (.t none (.u) (.u))) (.t none (.u) (.u))))))))) [(0, .c (.i .i64))] [.pointer t1, .int .i64 id2, .int .i64 core3] K w = S.ref10_Threads_Core t1 id2 core3 K w := by kernel_rfl
  exact okF_mk Try.func54 rfl (fn_sound names_ok follows_ok Try.func54 rfl (by kernel_rfl) (Eq.mpr e h))

/-- (*buttress/buttressref10.Threads).Pick -/
def S.ref10_Threads_Pick (t1 : Option Addr) (core2 : Int) (K : Int → Bool → World → Prop) (w : World) : Prop :=
  C.ref10_Threads_core t1 core2 (fun r3 w4 =>
   bif !r3 then
    (K (0 : Int) false w4)
   else
    (C.ref10_Threads_Runs t1 core2 (fun r5 r6 w7 =>
   ∃ a8 : Addr, t1 = some a8 ∧
   ∃ q9 : Sl, w7.cell? (a8.add 1) = some (.slice q9.a q9.len q9.cap) ∧
   ∃ a10 : Addr, q9.a = some a10 ∧ 0 ≤ core2 ∧ core2 < (q9.len : Int) ∧
   ∃ t11 : Option Addr, w7.cell? (a10.add (core2.toNat * 1)) = some (.pointer t11) ∧
   C.ref09_Queue_Next t11 (fun r12 r13 w14 =>
   ∀ k15 : Bool → World → Prop,
   (∀ (t16 : Bool) (w17 : World), (∀ k18 : World → Prop,
   (∀ (w19 : World), (C.ref10_Threads_Runs t1 core2 (fun r20 r21 w22 =>
   K r20 r21 w22) w19) → k18 w19) →
   (bif t16 then
    (∀ k23 : World → Prop,
   (∀ (w24 : World), (C.ref10_Threads_out t1 r12 (fun w25 =>
   ∃ a26 : Addr, t1 = some a26 ∧
   ∃ l27 : Sl, w25.cell? a26 = some (.slice l27.a l27.len l27.cap) ∧
   ∃ a28 : Addr, l27.a = some a28 ∧ 0 ≤ r12 ∧ r12 < (l27.len : Int) ∧
   St w25 (a28.add (r12.toNat * 12)) (.int .i64 (2 : Int)) fun w29 =>
   k18 w29) w24) → k23 w24) →
   (bif r6 then
    (C.ref10_Threads_up t1 r5 (fun w30 =>
   k23 w30) w17)
   else
    (k23 w17)))
   else
    (k18 w17))) → k15 t16 w17) →
   (Dr w14 fun w31 =>
   bif r13 then
    (bif !r6 then
    (k15 true w31)
   else
    (∃ a32 : Addr, t1 = some a32 ∧
   ∃ l33 : Sl, w31.cell? a32 = some (.slice l33.a l33.len l33.cap) ∧
   ∃ a34 : Addr, l33.a = some a34 ∧ 0 ≤ r12 ∧ r12 < (l33.len : Int) ∧
   ∃ prio35 : Int, w31.cell? ((a34.add (r12.toNat * 12)).add 1) = some (.int .i64 prio35) ∧
   ∃ a36 : Addr, t1 = some a36 ∧
   ∃ l37 : Sl, w31.cell? a36 = some (.slice l37.a l37.len l37.cap) ∧
   ∃ a38 : Addr, l37.a = some a38 ∧ 0 ≤ r5 ∧ r5 < (l37.len : Int) ∧
   ∃ prio39 : Int, w31.cell? ((a38.add (r5.toNat * 12)).add 1) = some (.int .i64 prio39) ∧
   k15 (decide (prio35 > prio39)) w31))
   else
    (k15 false w31))) w7) w4)) w
set_option maxRecDepth 100000 in
theorem S.ref10_Threads_Pick_ok (t1 : Option Addr) (core2 : Int) (K : Int → Bool → World → Prop) (w : World) (h : S.ref10_Threads_Pick t1 core2 K w) : C.ref10_Threads_Pick t1 core2 K w := by
  have e : fnV Try.prog Try.f55 (bodyOf Try.f55) (.t none (.u) (.t none (.t none (.u) (.t none (.t none (.u) (.u)) (.u))) (.t none (.u) (.t none (.u) (.t none (.t none (.r (some [(54, .c (.b))]) (.one 0 0 (.one 1 0 (.one 2 0 (.one 3 0 (.one 4 0 (.one 5 2089472 (.one 6 2089472 (.one 7 2089472 (.one 8 2089472 (.one 9 2088960 (.one 10 2088960 (.one 11 2088960 (.one 12 2088960 (.one 13 131072 (.one 14 131072 (.one 15 131072 (.one 16 131072 (.one 17 0 (.one 18 0 (.one 19 0 (.one 20 0 (.one 21 0 (.one 22 0 (.one 23 0 (.done)))))))))))))))))))))))))) (.t (some []) (.t none (.t none (.u) (.t (some []) (.u) (.u))) (.t none (.u) (.u))) (.u))) (.t none (.u) (.u))))))) [(0, .c (.i .i64)), (1, .c (.b))] [.pointer t1, .int .i64 core2] K w = S.ref10_Threads_Pick t1 core2 K w := by kernel_rfl
  exact okF_mk Try.func55 rfl (fn_sound names_ok follows_ok Try.func55 rfl (by kernel_rfl) (Eq.mpr e h))

/-- (*buttress/buttressref10.Threads).Yield -/
def S.ref10_Threads_Yield (t1 : Option Addr) (core2 : Int) (K : Bool → World → Prop) (w : World) : Prop :=
  C.ref10_Threads_Runs t1 core2 (fun r3 r4 w5 =>
   bif !r4 then
    (K false w5)
   else
    (∃ a6 : Addr, t1 = some a6 ∧
   ∃ l7 : Sl, w5.cell? a6 = some (.slice l7.a l7.len l7.cap) ∧
   ∃ a8 : Addr, l7.a = some a8 ∧ 0 ≤ r3 ∧ r3 < (l7.len : Int) ∧
   St w5 ((a8.add (r3.toNat * 12)).add 3) (.int .i64 (5 : Int)) fun w9 =>
   C.ref10_Threads_up t1 r3 (fun w10 =>
   C.ref10_Threads_Pick t1 core2 (fun r11 r12 w13 =>
   K true w13) w10) w9)) w
set_option maxRecDepth 100000 in
theorem S.ref10_Threads_Yield_ok (t1 : Option Addr) (core2 : Int) (K : Bool → World → Prop) (w : World) (h : S.ref10_Threads_Yield t1 core2 K w) : C.ref10_Threads_Yield t1 core2 K w := by
  have e : fnV Try.prog Try.f56 (bodyOf Try.f56) (.t none (.u) (.t none (.u) (.t none (.t none (.u) (.t none (.t none (.u) (.u)) (.u))) (.t none (.u) (.t none (.u) (.t none (.u) (.t none (.u) (.u)))))))) [(0, .c (.b))] [.pointer t1, .int .i64 core2] K w = S.ref10_Threads_Yield t1 core2 K w := by kernel_rfl
  exact okF_mk Try.func56 rfl (fn_sound names_ok follows_ok Try.func56 rfl (by kernel_rfl) (Eq.mpr e h))

/-- (*buttress/buttressref10.Threads).Tick -/
def S.ref10_Threads_Tick (t1 : Option Addr) (core2 : Int) (K : Bool → World → Prop) (w : World) : Prop :=
  C.ref10_Threads_Runs t1 core2 (fun r3 r4 w5 =>
   bif !r4 then
    (K false w5)
   else
    (Dr w5 fun w6 =>
   ∃ a7 : Addr, t1 = some a7 ∧
   ∃ l8 : Sl, w6.cell? a7 = some (.slice l8.a l8.len l8.cap) ∧
   ∃ a9 : Addr, t1 = some a9 ∧
   ∃ l10 : Sl, w6.cell? a9 = some (.slice l10.a l10.len l10.cap) ∧
   ∃ a11 : Addr, l10.a = some a11 ∧ 0 ≤ r3 ∧ r3 < (l10.len : Int) ∧
   ∃ left12 : Int, w6.cell? ((a11.add (r3.toNat * 12)).add 3) = some (.int .i64 left12) ∧
   ∃ a13 : Addr, l8.a = some a13 ∧ 0 ≤ r3 ∧ r3 < (l8.len : Int) ∧
   (St w6 ((a13.add (r3.toNat * 12)).add 3) (.int .i64 (IntKind.i64.wrap (left12 - (1 : Int)))) fun w14 =>
   ∃ a15 : Addr, t1 = some a15 ∧
   ∃ l16 : Sl, w14.cell? a15 = some (.slice l16.a l16.len l16.cap) ∧
   ∃ a17 : Addr, l16.a = some a17 ∧ 0 ≤ r3 ∧ r3 < (l16.len : Int) ∧
   ∃ left18 : Int, w14.cell? ((a17.add (r3.toNat * 12)).add 3) = some (.int .i64 left18) ∧
   bif left18 == (0 : Int) then
    (C.ref10_Threads_Yield t1 core2 (fun r19 w20 =>
   K true w20) w14)
   else
    (K true w14)) ∧
   True)) w
set_option maxRecDepth 100000 in
theorem S.ref10_Threads_Tick_ok (t1 : Option Addr) (core2 : Int) (K : Bool → World → Prop) (w : World) (h : S.ref10_Threads_Tick t1 core2 K w) : C.ref10_Threads_Tick t1 core2 K w := by
  have e : fnV Try.prog Try.f57 (bodyOf Try.f57) (.t none (.u) (.t none (.u) (.t none (.t none (.u) (.t none (.t none (.u) (.u)) (.u))) (.t none (.r none (.one 0 16368 (.one 1 16368 (.one 2 16368 (.one 3 16368 (.one 4 16352 (.one 5 512 (.one 6 512 (.one 7 512 (.one 8 512 (.one 9 0 (.one 10 0 (.one 11 0 (.one 12 0 (.one 13 0 (.one 14 0 (.one 15 0 (.alt 16 (.done) (.none))))))))))))))))))) (.t none (.t none (.u) (.t none (.u) (.u))) (.t none (.u) (.u))))))) [(0, .c (.b))] [.pointer t1, .int .i64 core2] K w = S.ref10_Threads_Tick t1 core2 K w := by kernel_rfl
  exact okF_mk Try.func57 rfl (fn_sound names_ok follows_ok Try.func57 rfl (by kernel_rfl) (Eq.mpr e h))

/-- (*buttress/buttressref10.Threads).is -/
def S.ref10_Threads_is (t1 : Option Addr) (id2 : Int) (K : Bool → World → Prop) (w : World) : Prop :=
  bif decide (id2 ≥ (0 : Int)) then
    (∃ a3 : Addr, t1 = some a3 ∧
   ∃ l4 : Sl, w.cell? a3 = some (.slice l4.a l4.len l4.cap) ∧
   K (decide (id2 < (l4.len : Int))) w)
   else
    (K false w)
set_option maxRecDepth 100000 in
theorem S.ref10_Threads_is_ok (t1 : Option Addr) (id2 : Int) (K : Bool → World → Prop) (w : World) (h : S.ref10_Threads_is t1 id2 K w) : C.ref10_Threads_is t1 id2 K w := by
  have e : fnV Try.prog Try.f58 (bodyOf Try.f58) (.t none (.u) (.t none (.u) (.u))) [(0, .c (.b))] [.pointer t1, .int .i64 id2] K w = S.ref10_Threads_is t1 id2 K w := by kernel_rfl
  exact okF_mk Try.func58 rfl (fn_sound names_ok follows_ok Try.func58 rfl (by kernel_rfl) (Eq.mpr e h))

/-- (*buttress/buttressref10.Threads).core -/
def S.ref10_Threads_core (t1 : Option Addr) (n2 : Int) (K : Bool → World → Prop) (w : World) : Prop :=
  bif decide (n2 ≥ (0 : Int)) then
    (∃ a3 : Addr, t1 = some a3 ∧
   ∃ q4 : Sl, w.cell? (a3.add 1) = some (.slice q4.a q4.len q4.cap) ∧
   K (decide (n2 < (q4.len : Int))) w)
   else
    (K false w)
set_option maxRecDepth 100000 in
theorem S.ref10_Threads_core_ok (t1 : Option Addr) (n2 : Int) (K : Bool → World → Prop) (w : World) (h : S.ref10_Threads_core t1 n2 K w) : C.ref10_Threads_core t1 n2 K w := by
  have e : fnV Try.prog Try.f59 (bodyOf Try.f59) (.t none (.u) (.t none (.u) (.u))) [(0, .c (.b))] [.pointer t1, .int .i64 n2] K w = S.ref10_Threads_core t1 n2 K w := by kernel_rfl
  exact okF_mk Try.func59 rfl (fn_sound names_ok follows_ok Try.func59 rfl (by kernel_rfl) (Eq.mpr e h))

/-- buttress/buttressref10.prio -/
def S.ref10_prio (n1 : Int) (K : Bool → World → Prop) (w : World) : Prop :=
  bif decide (n1 ≥ (0 : Int)) then
    (K (decide (n1 ≤ (255 : Int))) w)
   else
    (K false w)
set_option maxRecDepth 100000 in
theorem S.ref10_prio_ok (n1 : Int) (K : Bool → World → Prop) (w : World) (h : S.ref10_prio n1 K w) : C.ref10_prio n1 K w := by
  have e : fnV Try.prog Try.f67 (bodyOf Try.f67) (.t none (.u) (.t none (.u) (.u))) [(0, .c (.b))] [.int .i64 n1] K w = S.ref10_prio n1 K w := by kernel_rfl
  exact okF_mk Try.func67 rfl (fn_sound names_ok follows_ok Try.func67 rfl (by kernel_rfl) (Eq.mpr e h))

/-- (*buttress/buttressref10.Threads).up -/
def S.ref10_Threads_up (t1 : Option Addr) (id2 : Int) (K : World → Prop) (w : World) : Prop :=
  ∃ a3 : Addr, t1 = some a3 ∧
   ∃ l4 : Sl, w.cell? a3 = some (.slice l4.a l4.len l4.cap) ∧
   ∃ a5 : Addr, l4.a = some a5 ∧ 0 ≤ id2 ∧ id2 < (l4.len : Int) ∧
   St w (a5.add (id2.toNat * 12)) (.int .i64 (1 : Int)) fun w6 =>
   Dr w6 fun w7 =>
   ∃ a8 : Addr, t1 = some a8 ∧
   ∃ q9 : Sl, w7.cell? (a8.add 1) = some (.slice q9.a q9.len q9.cap) ∧
   ∃ a10 : Addr, t1 = some a10 ∧
   ∃ l11 : Sl, w7.cell? a10 = some (.slice l11.a l11.len l11.cap) ∧
   ∃ a12 : Addr, l11.a = some a12 ∧ 0 ≤ id2 ∧ id2 < (l11.len : Int) ∧
   ∃ core13 : Int, w7.cell? ((a12.add (id2.toNat * 12)).add 2) = some (.int .i64 core13) ∧
   ∃ a14 : Addr, q9.a = some a14 ∧ 0 ≤ core13 ∧ core13 < (q9.len : Int) ∧
   ∃ t15 : Option Addr, w7.cell? (a14.add (core13.toNat * 1)) = some (.pointer t15) ∧
   ∃ a16 : Addr, t1 = some a16 ∧
   ∃ l17 : Sl, w7.cell? a16 = some (.slice l17.a l17.len l17.cap) ∧
   ∃ a18 : Addr, l17.a = some a18 ∧ 0 ≤ id2 ∧ id2 < (l17.len : Int) ∧
   ∃ prio19 : Int, w7.cell? ((a18.add (id2.toNat * 12)).add 1) = some (.int .i64 prio19) ∧
   (C.ref09_Queue_Put t15 prio19 id2 (fun r20 w21 =>
   K w21) w7) ∧
   True
set_option maxRecDepth 100000 in
theorem S.ref10_Threads_up_ok (t1 : Option Addr) (id2 : Int) (K : World → Prop) (w : World) (h : S.ref10_Threads_up t1 id2 K w) : C.ref10_Threads_up t1 id2 K w := by
  have e : fnV Try.prog Try.f68 (bodyOf Try.f68) (.t none (.u) (.r none (.one 0 8376304 (.one 1 8376304 (.one 2 8376304 (.one 3 8376304 (.one 4 8372480 (.one 5 8372480 (.one 6 8372480 (.one 7 8372480 (.one 8 8372224 (.one 9 8372224 (.one 10 8372224 (.one 11 8372224 (.one 12 8372224 (.one 13 8372224 (.one 14 4456448 (.one 15 4456448 (.one 16 4456448 (.one 17 4456448 (.one 18 4194304 (.one 19 4194304 (.one 20 4194304 (.one 21 4194304 (.one 22 0 (.alt 23 (.done) (.none))))))))))))))))))))))))))) [] [.pointer t1, .int .i64 id2] K w = S.ref10_Threads_up t1 id2 K w := by kernel_rfl
  exact okF_mk Try.func68 rfl (fn_sound names_ok follows_ok Try.func68 rfl (by kernel_rfl) (Eq.mpr e h))

/-- (*buttress/buttressref10.Threads).out -/
def S.ref10_Threads_out (t1 : Option Addr) (id2 : Int) (K : World → Prop) (w : World) : Prop :=
  Dr w fun w3 =>
   ∃ a4 : Addr, t1 = some a4 ∧
   ∃ q5 : Sl, w3.cell? (a4.add 1) = some (.slice q5.a q5.len q5.cap) ∧
   ∃ a6 : Addr, t1 = some a6 ∧
   ∃ l7 : Sl, w3.cell? a6 = some (.slice l7.a l7.len l7.cap) ∧
   ∃ a8 : Addr, l7.a = some a8 ∧ 0 ≤ id2 ∧ id2 < (l7.len : Int) ∧
   ∃ core9 : Int, w3.cell? ((a8.add (id2.toNat * 12)).add 2) = some (.int .i64 core9) ∧
   ∃ a10 : Addr, q5.a = some a10 ∧ 0 ≤ core9 ∧ core9 < (q5.len : Int) ∧
   ∃ t11 : Option Addr, w3.cell? (a10.add (core9.toNat * 1)) = some (.pointer t11) ∧
   (C.ref09_Queue_Take t11 id2 (fun r12 w13 =>
   K w13) w3) ∧
   True
set_option maxRecDepth 100000 in
theorem S.ref10_Threads_out_ok (t1 : Option Addr) (id2 : Int) (K : World → Prop) (w : World) (h : S.ref10_Threads_out t1 id2 K w) : C.ref10_Threads_out t1 id2 K w := by
  have e : fnV Try.prog Try.f69 (bodyOf Try.f69) (.r none (.one 0 20464 (.one 1 20464 (.one 2 20464 (.one 3 20464 (.one 4 16640 (.one 5 16640 (.one 6 16640 (.one 7 16640 (.one 8 16384 (.one 9 16384 (.one 10 16384 (.one 11 16384 (.one 12 16384 (.one 13 16384 (.one 14 0 (.alt 15 (.done) (.none)))))))))))))))))) [] [.pointer t1, .int .i64 id2] K w = S.ref10_Threads_out t1 id2 K w := by kernel_rfl
  exact okF_mk Try.func69 rfl (fn_sound names_ok follows_ok Try.func69 rfl (by kernel_rfl) (Eq.mpr e h))
end Go.Proofs.Ytgkebkfabegflaa
