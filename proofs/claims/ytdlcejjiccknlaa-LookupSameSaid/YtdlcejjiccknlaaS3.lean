/- The functions' texts, and that a call comes to them. Printed by a program of mine (gen.py). -/
import Derived.Test.YtdlcejjiccknlaaC
set_option linter.unusedVariables false
namespace Go.Proofs.Ytdlcejjiccknlaa
open Go Go.Vc Go.Proofs

/-- (*buttress/buttressref05.Nodes).Is -/
def S.ref05_Nodes_Is (n1 : Option Addr) (s2 : Int) (s3 : Int) (K : Bool → World → Prop) (w : World) : Prop :=
  Al w (.cells #[.int .i64 s2, .int .i64 s3] 49) fun w4 =>
   Dr w4 fun w5 =>
   ∃ node6 : Int, w5.cell? (Addr.mk w.heap.size 0 none) = some (.int .i64 node6) ∧
   bif decide (node6 ≥ (0 : Int)) then
    (∃ node7 : Int, w5.cell? (Addr.mk w.heap.size 0 none) = some (.int .i64 node7) ∧
   ∃ a8 : Addr, n1 = some a8 ∧
   ∃ l9 : Sl, w5.cell? a8 = some (.slice l9.a l9.len l9.cap) ∧
   bif decide (node7 < (l9.len : Int)) then
    (∃ i10 : Int, w5.cell? ((Addr.mk w.heap.size 0 none).add 1) = some (.int .i64 i10) ∧
   bif decide (i10 ≥ (0 : Int)) then
    (∃ i11 : Int, w5.cell? ((Addr.mk w.heap.size 0 none).add 1) = some (.int .i64 i11) ∧
   ∃ a12 : Addr, n1 = some a12 ∧
   ∃ l13 : Sl, w5.cell? a12 = some (.slice l13.a l13.len l13.cap) ∧
   ∃ node14 : Int, w5.cell? (Addr.mk w.heap.size 0 none) = some (.int .i64 node14) ∧
   ∃ a15 : Addr, l13.a = some a15 ∧ 0 ≤ node14 ∧ node14 < (l13.len : Int) ∧
   ∃ t16 : Sl, w5.cell? (a15.add (node14.toNat * 1)) = some (.slice t16.a t16.len t16.cap) ∧
   K (decide (i11 < (t16.len : Int))) w5)
   else
    (K false w5))
   else
    (K false w5))
   else
    (K false w5)
set_option maxRecDepth 100000 in
theorem S.ref05_Nodes_Is_ok (n1 : Option Addr) (s2 : Int) (s3 : Int) (K : Bool → World → Prop) (w : World) (h : S.ref05_Nodes_Is n1 s2 s3 K w) : C.ref05_Nodes_Is n1 s2 s3 K w := by
  have e : fnV Try.prog Try.f28 (bodyOf Try.f28) (.t none (.u) (.t none (.r none (.one 0 0 (.one 1 0 (.one 2 0 (.one 3 0 (.one 4 1984 (.one 5 1984 (.one 6 0 (.one 7 0 (.one 8 0 (.one 9 0 (.one 10 0 (.one 11 0 (.one 12 0 (.one 13 0 (.one 14 0 (.one 15 0 (.one 16 0 (.one 17 0 (.one 18 0 (.one 19 1071644672 (.one 20 1071644672 (.one 21 100663296 (.one 22 100663296 (.one 23 100663296 (.one 24 100663296 (.one 25 0 (.one 26 0 (.one 27 0 (.one 28 0 (.one 29 0 (.one 30 0 (.one 31 0 (.one 32 0 (.done))))))))))))))))))))))))))))))))))) (.u))) [(0, .c (.b))] [.pointer n1, .agg #[.int .i64 s2, .int .i64 s3]] K w = S.ref05_Nodes_Is n1 s2 s3 K w := by kernel_rfl
  exact okF_mk Try.func28 rfl (fn_sound names_ok follows_ok Try.func28 rfl (by kernel_rfl) (Eq.mpr e h))

/-- (*buttress/buttressref05.Nodes).Get -/
def S.ref05_Nodes_Get (n1 : Option Addr) (s2 : Int) (s3 : Int) (K : Int → Int → Int → Int → Int → Int → Int → World → Prop) (w : World) : Prop :=
  Al w (.cells #[.int .i64 s2, .int .i64 s3] 49) fun w4 =>
   Al w4 (.cells #[.int .i64 (0 : Int), .int .i64 (0 : Int), .int .i64 (0 : Int), .int .u64 (0 : Int), .int .u64 (0 : Int), .int .i64 (0 : Int)] 38) fun w5 =>
   LdL w5 (Addr.mk w.heap.size 0 none) 0 [.i .i64, .i .i64] fun (t6 : Int) (t7 : Int) =>
   C.ref05_Nodes_Is n1 t6 t7 (fun r8 w9 =>
   bif !r8 then
    (StL w9 (Addr.mk w4.heap.size 0 none) 0 [.int .i64 (0 : Int), .int .i64 (0 : Int), .int .i64 (0 : Int), .int .u64 (0 : Int), .int .u64 (0 : Int), .int .i64 (0 : Int)] fun w10 =>
   LdL w10 (Addr.mk w4.heap.size 0 none) 0 [.i .i64, .i .i64, .i .i64, .i .u64, .i .u64, .i .i64] fun (r11 : Int) (r12 : Int) (r13 : Int) (r14 : Int) (r15 : Int) (r16 : Int) =>
   K r11 r12 r13 r14 r15 r16 (50 : Int) w10)
   else
    (Dr w9 fun w17 =>
   ∃ a18 : Addr, n1 = some a18 ∧
   ∃ l19 : Sl, w17.cell? a18 = some (.slice l19.a l19.len l19.cap) ∧
   ∃ node20 : Int, w17.cell? (Addr.mk w.heap.size 0 none) = some (.int .i64 node20) ∧
   ∃ a21 : Addr, l19.a = some a21 ∧ 0 ≤ node20 ∧ node20 < (l19.len : Int) ∧
   ∃ t22 : Sl, w17.cell? (a21.add (node20.toNat * 1)) = some (.slice t22.a t22.len t22.cap) ∧
   ∃ i23 : Int, w17.cell? ((Addr.mk w.heap.size 0 none).add 1) = some (.int .i64 i23) ∧
   ∃ a24 : Addr, t22.a = some a24 ∧ 0 ≤ i23 ∧ i23 < (t22.len : Int) ∧
   LdL w17 (a24.add (i23.toNat * 6)) 0 [.i .i64, .i .i64, .i .i64, .i .u64, .i .u64, .i .i64] fun (t25 : Int) (t26 : Int) (t27 : Int) (t28 : Int) (t29 : Int) (t30 : Int) =>
   (StL w17 (Addr.mk w4.heap.size 0 none) 0 [.int .i64 t25, .int .i64 t26, .int .i64 t27, .int .u64 t28, .int .u64 t29, .int .i64 t30] fun w31 =>
   LdL w31 (Addr.mk w4.heap.size 0 none) 0 [.i .i64, .i .i64, .i .i64, .i .u64, .i .u64, .i .i64] fun (r32 : Int) (r33 : Int) (r34 : Int) (r35 : Int) (r36 : Int) (r37 : Int) =>
   K r32 r33 r34 r35 r36 r37 (0 : Int) w31) ∧
   True)) w5
set_option maxRecDepth 100000 in
theorem S.ref05_Nodes_Get_ok (n1 : Option Addr) (s2 : Int) (s3 : Int) (K : Int → Int → Int → Int → Int → Int → Int → World → Prop) (w : World) (h : S.ref05_Nodes_Get n1 s2 s3 K w) : C.ref05_Nodes_Get n1 s2 s3 K w := by
  have e : fnV Try.prog Try.f30 (bodyOf Try.f30) (.t none (.u) (.t none (.t none (.u) (.t none (.t none (.u) (.u)) (.u))) (.t none (.r none (.one 0 816 (.one 1 816 (.one 2 816 (.one 3 816 (.one 4 768 (.one 5 768 (.one 6 768 (.one 7 768 (.one 8 0 (.one 9 0 (.one 10 0 (.one 11 0 (.alt 12 (.one 13 0 (.done)) (.none))))))))))))))) (.u)))) [(0, .a [.i .i64, .i .i64, .i .i64, .i .u64, .i .u64, .i .i64]), (1, .c (.i .i64))] [.pointer n1, .agg #[.int .i64 s2, .int .i64 s3]] K w = S.ref05_Nodes_Get n1 s2 s3 K w := by kernel_rfl
  exact okF_mk Try.func30 rfl (fn_sound names_ok follows_ok Try.func30 rfl (by kernel_rfl) (Eq.mpr e h))

/-- buttress/buttressref05.Same -/
def S.ref05_Same (a1 : Sl) (b2 : Sl) (K : Bool → World → Prop) (w : World) : Prop :=
  bif (a1.len : Int) != (b2.len : Int) then
    (K false w)
   else
    (∀ l3 : Int → World → Prop,
   (∀ (i4 : Int) (w5 : World), (bif decide (i4 < (a1.len : Int)) then
    (Dr w5 fun w6 =>
   ∃ a7 : Addr, a1.a = some a7 ∧ 0 ≤ i4 ∧ i4 < (a1.len : Int) ∧
   LdL w6 (a7.add (i4.toNat * 8)) 0 [.i .i64, .i .i64, .i .i64, .i .i64, .i .i64, .i .u64, .i .u64, .i .i64] fun (t8 : Int) (t9 : Int) (t10 : Int) (t11 : Int) (t12 : Int) (t13 : Int) (t14 : Int) (t15 : Int) =>
   ∃ a16 : Addr, b2.a = some a16 ∧ 0 ≤ i4 ∧ i4 < (b2.len : Int) ∧
   LdL w6 (a16.add (i4.toNat * 8)) 0 [.i .i64, .i .i64, .i .i64, .i .i64, .i .i64, .i .u64, .i .u64, .i .i64] fun (t17 : Int) (t18 : Int) (t19 : Int) (t20 : Int) (t21 : Int) (t22 : Int) (t23 : Int) (t24 : Int) =>
   ∃ eq25 : Bool, EqB Try.prog .neq 70 (.tmp 20) (.tmp 24) (.agg #[.int .i64 t8, .int .i64 t9, .int .i64 t10, .int .i64 t11, .int .i64 t12, .int .u64 t13, .int .u64 t14, .int .i64 t15]) (.agg #[.int .i64 t17, .int .i64 t18, .int .i64 t19, .int .i64 t20, .int .i64 t21, .int .u64 t22, .int .u64 t23, .int .i64 t24]) eq25 ∧
   bif eq25 then
    (K false w6)
   else
    (l3 (IntKind.i64.wrap (i4 + (1 : Int))) w6))
   else
    (K true w5)) → l3 i4 w5) →
   l3 (0 : Int) w)
set_option maxRecDepth 100000 in
theorem S.ref05_Same_ok (a1 : Sl) (b2 : Sl) (K : Bool → World → Prop) (w : World) (h : S.ref05_Same a1 b2 K w) : C.ref05_Same a1 b2 K w := by
  have e : fnV Try.prog Try.f38 (bodyOf Try.f38) (.t none (.u) (.t none (.t none (.u) (.t none (.t none (.u) (.u)) (.u))) (.t none (.t none (.u) (.t none (.t (some [(5, .c (.i .i64))]) (.t none (.t none (.u) (.t none (.u) (.u))) (.t none (.t none (.t none (.r none (.one 0 242 (.one 1 240 (.one 2 240 (.one 3 240 (.one 4 32 (.one 5 0 (.one 6 0 (.one 7 0 (.one 8 0 (.done))))))))))) (.t none (.t none (.u) (.u)) (.u))) (.u)) (.u))) (.u)) (.u))) (.t none (.u) (.u))))) [(0, .c (.b))] [.slice a1.a a1.len a1.cap, .slice b2.a b2.len b2.cap] K w = S.ref05_Same a1 b2 K w := by kernel_rfl
  exact okF_mk Try.func38 rfl (fn_sound names_ok follows_ok Try.func38 rfl (by kernel_rfl) (Eq.mpr e h))

/-- (*buttress/buttressref05.Nodes).Size -/
def S.ref05_Nodes_Size (n1 : Option Addr) (node2 : Int) (K : Int → Bool → World → Prop) (w : World) : Prop :=
  ∀ k3 : Bool → World → Prop,
   (∀ (t4 : Bool) (w5 : World), (bif t4 then
    (K (0 : Int) false w5)
   else
    (∀ l6 : Int → World → Prop,
   (∀ (bits7 : Int) (w8 : World), (bif decide (bits7 < (8 : Int)) then
    (∀ k9 : Bool → World → Prop,
   (∀ (t10 : Bool) (w11 : World), (bif t10 then
    (K bits7 true w11)
   else
    (l6 (IntKind.i64.wrap (bits7 + (1 : Int))) w11)) → k9 t10 w11) →
   (Dr w8 fun w12 =>
   ∃ a13 : Addr, n1 = some a13 ∧
   (∃ l14 : Sl, w12.cell? a13 = some (.slice l14.a l14.len l14.cap) ∧
   ∃ a15 : Addr, l14.a = some a15 ∧ 0 ≤ node2 ∧ node2 < (l14.len : Int) ∧
   (∃ t16 : Sl, w12.cell? (a15.add (node2.toNat * 1)) = some (.slice t16.a t16.len t16.cap) ∧
   (C.ref01_Two bits7 (fun r17 w18 =>
   k9 ((t16.len : Int) == (IntKind.i64.wrap r17)) w18) w12) ∧
   True) ∧
   (C.ref01_Two bits7 (fun r19 w20 =>
   ∃ t21 : Sl, w20.cell? (a15.add (node2.toNat * 1)) = some (.slice t21.a t21.len t21.cap) ∧
   k9 ((t21.len : Int) == (IntKind.i64.wrap r19)) w20) w12) ∧
   True) ∧
   (C.ref01_Two bits7 (fun r22 w23 =>
   ∃ l24 : Sl, w23.cell? a13 = some (.slice l24.a l24.len l24.cap) ∧
   ∃ a25 : Addr, l24.a = some a25 ∧ 0 ≤ node2 ∧ node2 < (l24.len : Int) ∧
   ∃ t26 : Sl, w23.cell? (a25.add (node2.toNat * 1)) = some (.slice t26.a t26.len t26.cap) ∧
   k9 ((t26.len : Int) == (IntKind.i64.wrap r22)) w23) w12) ∧
   True))
   else
    (K (8 : Int) true w8)) → l6 bits7 w8) →
   l6 (1 : Int) w5)) → k3 t4 w5) →
   (bif decide (node2 < (0 : Int)) then
    (k3 true w)
   else
    (∃ a27 : Addr, n1 = some a27 ∧
   ∃ l28 : Sl, w.cell? a27 = some (.slice l28.a l28.len l28.cap) ∧
   bif decide (node2 ≥ (l28.len : Int)) then
    (k3 true w)
   else
    (∃ a29 : Addr, n1 = some a29 ∧
   ∃ l30 : Sl, w.cell? a29 = some (.slice l30.a l30.len l30.cap) ∧
   ∃ a31 : Addr, l30.a = some a31 ∧ 0 ≤ node2 ∧ node2 < (l30.len : Int) ∧
   ∃ t32 : Sl, w.cell? (a31.add (node2.toNat * 1)) = some (.slice t32.a t32.len t32.cap) ∧
   k3 ((t32.len : Int) == (0 : Int)) w)))
set_option maxRecDepth 100000 in
theorem S.ref05_Nodes_Size_ok (n1 : Option Addr) (node2 : Int) (K : Int → Bool → World → Prop) (w : World) (h : S.ref05_Nodes_Size n1 node2 K w) : C.ref05_Nodes_Size n1 node2 K w := by
  have e : fnV Try.prog Try.f42 (bodyOf Try.f42) (.t none (.u) (.t none (.t none (.r (some [(28, .c (.b))]) .done) (.t none (.t none (.u) (.u)) (.u))) (.t none (.t none (.u) (.t none (.t (some [(6, .c (.i .i64))]) (.t none (.t none (.u) (.t none (.u) (.u))) (.t none (.t none (.t none (.r (some [(44, .c (.b))]) (.one 0 1808 (.one 1 1808 (.one 2 1808 (.one 4 1800 (.one 8 232 (.alt 3 (.one 5 1536 (.alt 6 (.one 7 1536 (.alt 9 (.one 10 0 (.one 11 0 (.done))) (.none))) (.alt 9 (.one 6 1024 (.one 7 1024 (.one 10 0 (.one 11 0 (.done))))) (.none)))) (.alt 9 (.one 3 1024 (.one 5 1024 (.one 6 1024 (.one 7 1024 (.one 10 0 (.one 11 0 (.done))))))) (.none))))))))) (.t none (.t none (.u) (.u)) (.u))) (.u)) (.u))) (.u)) (.u))) (.t none (.u) (.u))))) [(0, .c (.i .i64)), (1, .c (.b))] [.pointer n1, .int .i64 node2] K w = S.ref05_Nodes_Size n1 node2 K w := by kernel_rfl
  exact okF_mk Try.func42 rfl (fn_sound names_ok follows_ok Try.func42 rfl (by kernel_rfl) (Eq.mpr e h))

/-- (*buttress/buttressref05.Nodes).Held -/
def S.ref05_Nodes_Held (n1 : Option Addr) (K : Sl → World → Prop) (w : World) : Prop :=
  Al w (.cells #[] 70) fun w2 =>
   ∀ l3 : Sl → Int → World → Prop,
   (∀ (out4 : Sl) (i5 : Int) (w6 : World), (∃ a7 : Addr, n1 = some a7 ∧
   ∃ l8 : Sl, w6.cell? a7 = some (.slice l8.a l8.len l8.cap) ∧
   bif decide (i5 < (l8.len : Int)) then
    (∀ l9 : Sl → Int → World → Prop,
   (∀ (out10 : Sl) (k11 : Int) (w12 : World), (∃ a13 : Addr, n1 = some a13 ∧
   ∃ l14 : Sl, w12.cell? a13 = some (.slice l14.a l14.len l14.cap) ∧
   ∃ a15 : Addr, l14.a = some a15 ∧ 0 ≤ i5 ∧ i5 < (l14.len : Int) ∧
   ∃ t16 : Sl, w12.cell? (a15.add (i5.toNat * 1)) = some (.slice t16.a t16.len t16.cap) ∧
   bif decide (k11 < (t16.len : Int)) then
    (∃ a17 : Addr, n1 = some a17 ∧
   ∃ l18 : Sl, w12.cell? a17 = some (.slice l18.a l18.len l18.cap) ∧
   ∃ a19 : Addr, l18.a = some a19 ∧ 0 ≤ i5 ∧ i5 < (l18.len : Int) ∧
   ∃ t20 : Sl, w12.cell? (a19.add (i5.toNat * 1)) = some (.slice t20.a t20.len t20.cap) ∧
   ∃ a21 : Addr, t20.a = some a21 ∧ 0 ≤ k11 ∧ k11 < (t20.len : Int) ∧
   ∃ kind22 : Int, w12.cell? (a21.add (k11.toNat * 6)) = some (.int .i64 kind22) ∧
   bif kind22 != (0 : Int) then
    (∃ a23 : Addr, n1 = some a23 ∧
   ∃ l24 : Sl, w12.cell? a23 = some (.slice l24.a l24.len l24.cap) ∧
   ∃ a25 : Addr, l24.a = some a25 ∧ 0 ≤ i5 ∧ i5 < (l24.len : Int) ∧
   ∃ t26 : Sl, w12.cell? (a25.add (i5.toNat * 1)) = some (.slice t26.a t26.len t26.cap) ∧
   ∃ a27 : Addr, t26.a = some a27 ∧ 0 ≤ k11 ∧ k11 < (t26.len : Int) ∧
   LdL w12 (a27.add (k11.toNat * 6)) 0 [.i .i64, .i .i64, .i .i64, .i .u64, .i .u64, .i .i64] fun (t28 : Int) (t29 : Int) (t30 : Int) (t31 : Int) (t32 : Int) (t33 : Int) =>
   Al w12 (.cells #[.int .i64 i5, .int .i64 k11, .int .i64 t28, .int .i64 t29, .int .i64 t30, .int .u64 t31, .int .u64 t32, .int .i64 t33] 70) fun w34 =>
   ∃ (t35 : Sl) (w36 : World), AppR Try.prog [33, 33] 33 (.slice out10.a out10.len out10.cap) (.slice (some (Addr.mk w12.heap.size 0 none)) 1 1) w34 t35 w36 ∧
   l9 t35 (IntKind.i64.wrap (k11 + (1 : Int))) w36)
   else
    (l9 out10 (IntKind.i64.wrap (k11 + (1 : Int))) w12))
   else
    (l3 out10 (IntKind.i64.wrap (i5 + (1 : Int))) w12)) → l9 out10 k11 w12) →
   l9 out4 (0 : Int) w6)
   else
    (K out4 w6)) → l3 out4 i5 w6) →
   l3 ⟨some (Addr.mk w.heap.size 0 none), 0, 0⟩ (0 : Int) w2
set_option maxRecDepth 100000 in
theorem S.ref05_Nodes_Held_ok (n1 : Option Addr) (K : Sl → World → Prop) (w : World) (h : S.ref05_Nodes_Held n1 K w) : C.ref05_Nodes_Held n1 K w := by
  have e : fnV Try.prog Try.f43 (bodyOf Try.f43) (.t none (.u) (.t none (.u) (.t none (.t none (.u) (.t none (.t (some [(3, .c (.s)), (4, .c (.i .i64))]) (.t none (.t none (.u) (.t none (.u) (.u))) (.t none (.t none (.t none (.u) (.t none (.t (some [(3, .c (.s)), (5, .c (.i .i64))]) (.t none (.t none (.u) (.t none (.u) (.u))) (.t none (.t none (.t none (.u) (.t none (.u) (.u))) (.u)) (.u))) (.u)) (.u))) (.u)) (.u))) (.u)) (.u))) (.t none (.u) (.u))))) [(0, .c (.s))] [.pointer n1] K w = S.ref05_Nodes_Held n1 K w := by kernel_rfl
  exact okF_mk Try.func43 rfl (fn_sound names_ok follows_ok Try.func43 rfl (by kernel_rfl) (Eq.mpr e h))

/-- (*buttress/buttressref05.Nodes).Make -/
def S.ref05_Nodes_Make (n1 : Option Addr) (bits2 : Int) (K : Int → Int → World → Prop) (w : World) : Prop :=
  ∀ k3 : Bool → World → Prop,
   (∀ (t4 : Bool) (w5 : World), (bif t4 then
    (K (0 : Int) (1 : Int) w5)
   else
    (∃ a6 : Addr, n1 = some a6 ∧
   ∃ l7 : Sl, w5.cell? a6 = some (.slice l7.a l7.len l7.cap) ∧
   bif decide ((l7.len : Int) ≥ (64 : Int)) then
    (K (0 : Int) (2 : Int) w5)
   else
    (∀ k8 : World → Prop,
   (∀ (w9 : World), (∃ a10 : Addr, n1 = some a10 ∧
   ∃ l11 : Sl, w9.cell? a10 = some (.slice l11.a l11.len l11.cap) ∧
   K (IntKind.i64.wrap ((l11.len : Int) - (1 : Int))) (0 : Int) w9) → k8 w9) →
   (Dr w5 fun w12 =>
   ∃ a13 : Addr, n1 = some a13 ∧
   (∃ l14 : Sl, w12.cell? a13 = some (.slice l14.a l14.len l14.cap) ∧
   (C.ref01_Two bits2 (fun r15 w16 =>
   (∃ (t17 : Sl) (w18 : World), MkSlR Try.prog 94 (.int .i64 (IntKind.i64.wrap r15)) (.int .i64 (IntKind.i64.wrap r15)) w16 t17 w18 ∧
   (Al w18 (.cells #[.slice t17.a t17.len t17.cap] 94) fun w19 =>
   (∃ (t20 : Sl) (w21 : World), AppR Try.prog [74, 74] 74 (.slice l14.a l14.len l14.cap) (.slice (some (Addr.mk w18.heap.size 0 none)) 1 1) w19 t20 w21 ∧
   ∃ a22 : Addr, n1 = some a22 ∧
   (St w21 a22 (.slice t20.a t20.len t20.cap) fun w23 =>
   k8 w23) ∧
   True) ∧
   True) ∧
   True) ∧
   True) w12) ∧
   True) ∧
   (C.ref01_Two bits2 (fun r24 w25 =>
   (∃ l26 : Sl, w25.cell? a13 = some (.slice l26.a l26.len l26.cap) ∧
   (∃ (t27 : Sl) (w28 : World), MkSlR Try.prog 94 (.int .i64 (IntKind.i64.wrap r24)) (.int .i64 (IntKind.i64.wrap r24)) w25 t27 w28 ∧
   (Al w28 (.cells #[.slice t27.a t27.len t27.cap] 94) fun w29 =>
   (∃ (t30 : Sl) (w31 : World), AppR Try.prog [74, 74] 74 (.slice l26.a l26.len l26.cap) (.slice (some (Addr.mk w28.heap.size 0 none)) 1 1) w29 t30 w31 ∧
   ∃ a32 : Addr, n1 = some a32 ∧
   (St w31 a32 (.slice t30.a t30.len t30.cap) fun w33 =>
   k8 w33) ∧
   True) ∧
   True) ∧
   True) ∧
   True) ∧
   (∃ (t34 : Sl) (w35 : World), MkSlR Try.prog 94 (.int .i64 (IntKind.i64.wrap r24)) (.int .i64 (IntKind.i64.wrap r24)) w25 t34 w35 ∧
   ∃ l36 : Sl, w35.cell? a13 = some (.slice l36.a l36.len l36.cap) ∧
   (Al w35 (.cells #[.slice t34.a t34.len t34.cap] 94) fun w37 =>
   (∃ (t38 : Sl) (w39 : World), AppR Try.prog [74, 74] 74 (.slice l36.a l36.len l36.cap) (.slice (some (Addr.mk w35.heap.size 0 none)) 1 1) w37 t38 w39 ∧
   ∃ a40 : Addr, n1 = some a40 ∧
   (St w39 a40 (.slice t38.a t38.len t38.cap) fun w41 =>
   k8 w41) ∧
   True) ∧
   True) ∧
   True) ∧
   True) w12) ∧
   True)))) → k3 t4 w5) →
   (bif decide (bits2 < (1 : Int)) then
    (k3 true w)
   else
    (k3 (decide (bits2 > (8 : Int))) w))
set_option maxRecDepth 100000 in
theorem S.ref05_Nodes_Make_ok (n1 : Option Addr) (bits2 : Int) (K : Int → Int → World → Prop) (w : World) (h : S.ref05_Nodes_Make n1 bits2 K w) : C.ref05_Nodes_Make n1 bits2 K w := by
  have e : fnV Try.prog Try.f47 (bodyOf Try.f47) (.t none (.u) (.t none (.t none (.r (some [(11, .c (.b))]) .done) (.t none (.t none (.u) (.u)) (.u))) (.t none (.t none (.u) (.t none (.t none (.u) (.u)) (.u))) (.t none (.r (some []) (.one 0 2046 (.one 1 992 (.one 2 992 (.one 3 992 (.one 5 16 (.alt 4 (.alt 6 (.one 7 0 (.alt 8 (.alt 9 (.alt 10 (.one 11 0 (.one 12 0 (.alt 13 (.done) (.none)))) (.none)) (.none)) (.none))) (.none)) (.alt 6 (.one 7 16 (.alt 4 (.alt 8 (.alt 9 (.alt 10 (.one 11 0 (.one 12 0 (.alt 13 (.done) (.none)))) (.none)) (.none)) (.none)) (.alt 8 (.one 4 512 (.alt 9 (.alt 10 (.one 11 0 (.one 12 0 (.alt 13 (.done) (.none)))) (.none)) (.none))) (.none)))) (.none))))))))) (.t none (.u) (.u)))))) [(0, .c (.i .i64)), (1, .c (.i .i64))] [.pointer n1, .int .i64 bits2] K w = S.ref05_Nodes_Make n1 bits2 K w := by kernel_rfl
  exact okF_mk Try.func47 rfl (fn_sound names_ok follows_ok Try.func47 rfl (by kernel_rfl) (Eq.mpr e h))

/-- (*buttress/buttressref05.Nodes).Put -/
def S.ref05_Nodes_Put (n1 : Option Addr) (s2 : Int) (s3 : Int) (c4 : Int) (c5 : Int) (c6 : Int) (c7 : Int) (c8 : Int) (c9 : Int) (K : Int → World → Prop) (w : World) : Prop :=
  Al w (.cells #[.int .i64 s2, .int .i64 s3] 49) fun w10 =>
   Al w10 (.cells #[.int .i64 c4, .int .i64 c5, .int .i64 c6, .int .u64 c7, .int .u64 c8, .int .i64 c9] 38) fun w11 =>
   LdL w11 (Addr.mk w.heap.size 0 none) 0 [.i .i64, .i .i64] fun (t12 : Int) (t13 : Int) =>
   C.ref05_Nodes_Is n1 t12 t13 (fun r14 w15 =>
   bif !r14 then
    (K (50 : Int) w15)
   else
    (LdL w15 (Addr.mk w10.heap.size 0 none) 0 [.i .i64, .i .i64, .i .i64, .i .u64, .i .u64, .i .i64] fun (t16 : Int) (t17 : Int) (t18 : Int) (t19 : Int) (t20 : Int) (t21 : Int) =>
   C.ref04_Check t16 t17 t18 t19 t20 t21 (fun r22 w23 =>
   bif r22 != (0 : Int) then
    (K r22 w23)
   else
    (∃ kind24 : Int, w23.cell? (Addr.mk w10.heap.size 0 none) = some (.int .i64 kind24) ∧
   bif kind24 == (0 : Int) then
    (K (1 : Int) w23)
   else
    (Dr w23 fun w25 =>
   ∃ a26 : Addr, n1 = some a26 ∧
   ∃ l27 : Sl, w25.cell? a26 = some (.slice l27.a l27.len l27.cap) ∧
   ∃ node28 : Int, w25.cell? (Addr.mk w.heap.size 0 none) = some (.int .i64 node28) ∧
   ∃ a29 : Addr, l27.a = some a29 ∧ 0 ≤ node28 ∧ node28 < (l27.len : Int) ∧
   ∃ t30 : Sl, w25.cell? (a29.add (node28.toNat * 1)) = some (.slice t30.a t30.len t30.cap) ∧
   ∃ i31 : Int, w25.cell? ((Addr.mk w.heap.size 0 none).add 1) = some (.int .i64 i31) ∧
   ∃ a32 : Addr, t30.a = some a32 ∧ 0 ≤ i31 ∧ i31 < (t30.len : Int) ∧
   ∃ kind33 : Int, w25.cell? (a32.add (i31.toNat * 6)) = some (.int .i64 kind33) ∧
   bif kind33 != (0 : Int) then
    (K (51 : Int) w25)
   else
    (Dr w25 fun w34 =>
   ∃ a35 : Addr, n1 = some a35 ∧
   ∃ l36 : Sl, w34.cell? a35 = some (.slice l36.a l36.len l36.cap) ∧
   ∃ node37 : Int, w34.cell? (Addr.mk w.heap.size 0 none) = some (.int .i64 node37) ∧
   ∃ a38 : Addr, l36.a = some a38 ∧ 0 ≤ node37 ∧ node37 < (l36.len : Int) ∧
   ∃ t39 : Sl, w34.cell? (a38.add (node37.toNat * 1)) = some (.slice t39.a t39.len t39.cap) ∧
   ∃ i40 : Int, w34.cell? ((Addr.mk w.heap.size 0 none).add 1) = some (.int .i64 i40) ∧
   LdL w34 (Addr.mk w10.heap.size 0 none) 0 [.i .i64, .i .i64, .i .i64, .i .u64, .i .u64, .i .i64] fun (kind41 : Int) (kind42 : Int) (kind43 : Int) (kind44 : Int) (kind45 : Int) (kind46 : Int) =>
   ∃ a47 : Addr, t39.a = some a47 ∧ 0 ≤ i40 ∧ i40 < (t39.len : Int) ∧
   (StL w34 (a47.add (i40.toNat * 6)) 0 [.int .i64 kind41, .int .i64 kind42, .int .i64 kind43, .int .u64 kind44, .int .u64 kind45, .int .i64 kind46] fun w48 =>
   K (0 : Int) w48) ∧
   True)))) w15)) w11
set_option maxRecDepth 100000 in
theorem S.ref05_Nodes_Put_ok (n1 : Option Addr) (s2 : Int) (s3 : Int) (c4 : Int) (c5 : Int) (c6 : Int) (c7 : Int) (c8 : Int) (c9 : Int) (K : Int → World → Prop) (w : World) (h : S.ref05_Nodes_Put n1 s2 s3 c4 c5 c6 c7 c8 c9 K w) : C.ref05_Nodes_Put n1 s2 s3 c4 c5 c6 c7 c8 c9 K w := by
  have e : fnV Try.prog Try.f48 (bodyOf Try.f48) (.t none (.u) (.t none (.t none (.u) (.t none (.t none (.u) (.u)) (.u))) (.t none (.u) (.t none (.t none (.u) (.t none (.t none (.u) (.u)) (.u))) (.t none (.t none (.u) (.t none (.t none (.u) (.u)) (.u))) (.t none (.t none (.r none (.one 0 816 (.one 1 816 (.one 2 816 (.one 3 816 (.one 4 768 (.one 5 768 (.one 6 768 (.one 7 768 (.one 8 0 (.one 9 0 (.one 10 0 (.one 11 0 (.one 12 0 (.one 13 0 (.done)))))))))))))))) (.t none (.t none (.u) (.u)) (.u))) (.t none (.r none (.one 0 1840 (.one 1 1840 (.one 2 1840 (.one 3 1840 (.one 4 1792 (.one 5 1792 (.one 6 1792 (.one 7 1792 (.one 8 1024 (.one 9 1024 (.one 10 0 (.one 11 0 (.alt 12 (.done) (.none))))))))))))))) (.t none (.u) (.u))))))))) [(0, .c (.i .i64))] [.pointer n1, .agg #[.int .i64 s2, .int .i64 s3], .agg #[.int .i64 c4, .int .i64 c5, .int .i64 c6, .int .u64 c7, .int .u64 c8, .int .i64 c9]] K w = S.ref05_Nodes_Put n1 s2 s3 c4 c5 c6 c7 c8 c9 K w := by kernel_rfl
  exact okF_mk Try.func48 rfl (fn_sound names_ok follows_ok Try.func48 rfl (by kernel_rfl) (Eq.mpr e h))

/-- (*buttress/buttressref05.Nodes).Drop -/
def S.ref05_Nodes_Drop (n1 : Option Addr) (node2 : Int) (K : Int → World → Prop) (w : World) : Prop :=
  C.ref05_Nodes_Size n1 node2 (fun r3 r4 w5 =>
   bif !r4 then
    (K (50 : Int) w5)
   else
    (∀ l6 : Int → World → Prop,
   (∀ (i7 : Int) (w8 : World), (∃ a9 : Addr, n1 = some a9 ∧
   ∃ l10 : Sl, w8.cell? a9 = some (.slice l10.a l10.len l10.cap) ∧
   ∃ a11 : Addr, l10.a = some a11 ∧ 0 ≤ node2 ∧ node2 < (l10.len : Int) ∧
   ∃ t12 : Sl, w8.cell? (a11.add (node2.toNat * 1)) = some (.slice t12.a t12.len t12.cap) ∧
   bif decide (i7 < (t12.len : Int)) then
    (∃ a13 : Addr, n1 = some a13 ∧
   ∃ l14 : Sl, w8.cell? a13 = some (.slice l14.a l14.len l14.cap) ∧
   ∃ a15 : Addr, l14.a = some a15 ∧ 0 ≤ node2 ∧ node2 < (l14.len : Int) ∧
   ∃ t16 : Sl, w8.cell? (a15.add (node2.toNat * 1)) = some (.slice t16.a t16.len t16.cap) ∧
   ∃ a17 : Addr, t16.a = some a17 ∧ 0 ≤ i7 ∧ i7 < (t16.len : Int) ∧
   ∃ kind18 : Int, w8.cell? (a17.add (i7.toNat * 6)) = some (.int .i64 kind18) ∧
   bif kind18 != (0 : Int) then
    (K (51 : Int) w8)
   else
    (l6 (IntKind.i64.wrap (i7 + (1 : Int))) w8))
   else
    (∃ a19 : Addr, n1 = some a19 ∧
   ∃ l20 : Sl, w8.cell? a19 = some (.slice l20.a l20.len l20.cap) ∧
   ∃ a21 : Addr, l20.a = some a21 ∧ 0 ≤ node2 ∧ node2 < (l20.len : Int) ∧
   St w8 (a21.add (node2.toNat * 1)) (.slice none 0 0) fun w22 =>
   K (0 : Int) w22)) → l6 i7 w8) →
   l6 (0 : Int) w5)) w
set_option maxRecDepth 100000 in
theorem S.ref05_Nodes_Drop_ok (n1 : Option Addr) (node2 : Int) (K : Int → World → Prop) (w : World) (h : S.ref05_Nodes_Drop n1 node2 K w) : C.ref05_Nodes_Drop n1 node2 K w := by
  have e : fnV Try.prog Try.f66 (bodyOf Try.f66) (.t none (.u) (.t none (.u) (.t none (.t none (.u) (.t none (.t none (.u) (.u)) (.u))) (.t none (.t none (.u) (.t none (.t (some [(7, .c (.i .i64))]) (.t none (.t none (.u) (.t none (.u) (.u))) (.t none (.t none (.t none (.u) (.t none (.t none (.u) (.u)) (.u))) (.u)) (.u))) (.u)) (.u))) (.t none (.u) (.t none (.u) (.u))))))) [(0, .c (.i .i64))] [.pointer n1, .int .i64 node2] K w = S.ref05_Nodes_Drop n1 node2 K w := by kernel_rfl
  exact okF_mk Try.func66 rfl (fn_sound names_ok follows_ok Try.func66 rfl (by kernel_rfl) (Eq.mpr e h))

/-- (*buttress/buttressref05.Nodes).Take -/
def S.ref05_Nodes_Take (n1 : Option Addr) (s2 : Int) (s3 : Int) (K : Int → Int → Int → Int → Int → Int → Int → World → Prop) (w : World) : Prop :=
  Al w (.cells #[.int .i64 s2, .int .i64 s3] 49) fun w4 =>
   Al w4 (.cells #[.int .i64 (0 : Int), .int .i64 (0 : Int), .int .i64 (0 : Int), .int .u64 (0 : Int), .int .u64 (0 : Int), .int .i64 (0 : Int)] 38) fun w5 =>
   LdL w5 (Addr.mk w.heap.size 0 none) 0 [.i .i64, .i .i64] fun (t6 : Int) (t7 : Int) =>
   C.ref05_Nodes_Is n1 t6 t7 (fun r8 w9 =>
   bif !r8 then
    (StL w9 (Addr.mk w4.heap.size 0 none) 0 [.int .i64 (0 : Int), .int .i64 (0 : Int), .int .i64 (0 : Int), .int .u64 (0 : Int), .int .u64 (0 : Int), .int .i64 (0 : Int)] fun w10 =>
   LdL w10 (Addr.mk w4.heap.size 0 none) 0 [.i .i64, .i .i64, .i .i64, .i .u64, .i .u64, .i .i64] fun (r11 : Int) (r12 : Int) (r13 : Int) (r14 : Int) (r15 : Int) (r16 : Int) =>
   K r11 r12 r13 r14 r15 r16 (50 : Int) w10)
   else
    (Dr w9 fun w17 =>
   ∃ a18 : Addr, n1 = some a18 ∧
   ∃ l19 : Sl, w17.cell? a18 = some (.slice l19.a l19.len l19.cap) ∧
   ∃ node20 : Int, w17.cell? (Addr.mk w.heap.size 0 none) = some (.int .i64 node20) ∧
   ∃ a21 : Addr, l19.a = some a21 ∧ 0 ≤ node20 ∧ node20 < (l19.len : Int) ∧
   ∃ t22 : Sl, w17.cell? (a21.add (node20.toNat * 1)) = some (.slice t22.a t22.len t22.cap) ∧
   ∃ i23 : Int, w17.cell? ((Addr.mk w.heap.size 0 none).add 1) = some (.int .i64 i23) ∧
   ∃ a24 : Addr, t22.a = some a24 ∧ 0 ≤ i23 ∧ i23 < (t22.len : Int) ∧
   LdL w17 (a24.add (i23.toNat * 6)) 0 [.i .i64, .i .i64, .i .i64, .i .u64, .i .u64, .i .i64] fun (t25 : Int) (t26 : Int) (t27 : Int) (t28 : Int) (t29 : Int) (t30 : Int) =>
   (Al w17 (.cells #[.int .i64 (0 : Int), .int .i64 (0 : Int), .int .i64 (0 : Int), .int .u64 (0 : Int), .int .u64 (0 : Int), .int .i64 (0 : Int)] 38) fun w31 =>
   (StL w31 (Addr.mk w17.heap.size 0 none) 0 [.int .i64 t25, .int .i64 t26, .int .i64 t27, .int .u64 t28, .int .u64 t29, .int .i64 t30] fun w32 =>
   ∃ kind33 : Int, w32.cell? (Addr.mk w17.heap.size 0 none) = some (.int .i64 kind33) ∧
   bif kind33 == (0 : Int) then
    (StL w32 (Addr.mk w4.heap.size 0 none) 0 [.int .i64 (0 : Int), .int .i64 (0 : Int), .int .i64 (0 : Int), .int .u64 (0 : Int), .int .u64 (0 : Int), .int .i64 (0 : Int)] fun w34 =>
   LdL w34 (Addr.mk w4.heap.size 0 none) 0 [.i .i64, .i .i64, .i .i64, .i .u64, .i .u64, .i .i64] fun (r35 : Int) (r36 : Int) (r37 : Int) (r38 : Int) (r39 : Int) (r40 : Int) =>
   K r35 r36 r37 r38 r39 r40 (52 : Int) w34)
   else
    (Dr w32 fun w41 =>
   ∃ a42 : Addr, n1 = some a42 ∧
   ∃ l43 : Sl, w41.cell? a42 = some (.slice l43.a l43.len l43.cap) ∧
   ∃ node44 : Int, w41.cell? (Addr.mk w.heap.size 0 none) = some (.int .i64 node44) ∧
   ∃ a45 : Addr, l43.a = some a45 ∧ 0 ≤ node44 ∧ node44 < (l43.len : Int) ∧
   ∃ t46 : Sl, w41.cell? (a45.add (node44.toNat * 1)) = some (.slice t46.a t46.len t46.cap) ∧
   ∃ i47 : Int, w41.cell? ((Addr.mk w.heap.size 0 none).add 1) = some (.int .i64 i47) ∧
   ∃ a48 : Addr, t46.a = some a48 ∧ 0 ≤ i47 ∧ i47 < (t46.len : Int) ∧
   (StL w41 (a48.add (i47.toNat * 6)) 0 [.int .i64 (0 : Int), .int .i64 (0 : Int), .int .i64 (0 : Int), .int .u64 (0 : Int), .int .u64 (0 : Int), .int .i64 (0 : Int)] fun w49 =>
   LdL w49 (Addr.mk w17.heap.size 0 none) 0 [.i .i64, .i .i64, .i .i64, .i .u64, .i .u64, .i .i64] fun (kind50 : Int) (kind51 : Int) (kind52 : Int) (kind53 : Int) (kind54 : Int) (kind55 : Int) =>
   StL w49 (Addr.mk w4.heap.size 0 none) 0 [.int .i64 kind50, .int .i64 kind51, .int .i64 kind52, .int .u64 kind53, .int .u64 kind54, .int .i64 kind55] fun w56 =>
   LdL w56 (Addr.mk w4.heap.size 0 none) 0 [.i .i64, .i .i64, .i .i64, .i .u64, .i .u64, .i .i64] fun (r57 : Int) (r58 : Int) (r59 : Int) (r60 : Int) (r61 : Int) (r62 : Int) =>
   K r57 r58 r59 r60 r61 r62 (0 : Int) w56) ∧
   True)) ∧
   True) ∧
   True)) w5
set_option maxRecDepth 100000 in
theorem S.ref05_Nodes_Take_ok (n1 : Option Addr) (s2 : Int) (s3 : Int) (K : Int → Int → Int → Int → Int → Int → Int → World → Prop) (w : World) (h : S.ref05_Nodes_Take n1 s2 s3 K w) : C.ref05_Nodes_Take n1 s2 s3 K w := by
  have e : fnV Try.prog Try.f67 (bodyOf Try.f67) (.t none (.u) (.t none (.t none (.u) (.t none (.t none (.u) (.u)) (.u))) (.t none (.r none (.one 0 4912 (.one 1 4912 (.one 2 4912 (.one 3 4912 (.one 4 4864 (.one 5 4864 (.one 6 4864 (.one 7 4864 (.one 8 4096 (.one 9 4096 (.one 10 4096 (.one 11 4096 (.alt 12 (.alt 13 (.done) (.none)) (.none))))))))))))))) (.t none (.t none (.u) (.t none (.t none (.u) (.u)) (.u))) (.t none (.r none (.one 0 1840 (.one 1 1840 (.one 2 1840 (.one 3 1840 (.one 4 1792 (.one 5 1792 (.one 6 1792 (.one 7 1792 (.one 8 1024 (.one 9 1024 (.one 10 0 (.one 11 0 (.alt 12 (.done) (.none))))))))))))))) (.t none (.u) (.u))))))) [(0, .a [.i .i64, .i .i64, .i .i64, .i .u64, .i .u64, .i .i64]), (1, .c (.i .i64))] [.pointer n1, .agg #[.int .i64 s2, .int .i64 s3]] K w = S.ref05_Nodes_Take n1 s2 s3 K w := by kernel_rfl
  exact okF_mk Try.func67 rfl (fn_sound names_ok follows_ok Try.func67 rfl (by kernel_rfl) (Eq.mpr e h))

/-- (*buttress/buttressref05.Nodes).Move -/
def S.ref05_Nodes_Move (n1 : Option Addr) (from2 : Int) (from3 : Int) (to4 : Int) (to5 : Int) (K : Int → World → Prop) (w : World) : Prop :=
  Al w (.cells #[.int .i64 from2, .int .i64 from3] 49) fun w6 =>
   Al w6 (.cells #[.int .i64 to4, .int .i64 to5] 49) fun w7 =>
   ∀ k8 : Bool → World → Prop,
   (∀ (t9 : Bool) (w10 : World), (bif t9 then
    (K (50 : Int) w10)
   else
    (Dr w10 fun w11 =>
   ∃ a12 : Addr, n1 = some a12 ∧
   ∃ l13 : Sl, w11.cell? a12 = some (.slice l13.a l13.len l13.cap) ∧
   ∃ node14 : Int, w11.cell? (Addr.mk w.heap.size 0 none) = some (.int .i64 node14) ∧
   ∃ a15 : Addr, l13.a = some a15 ∧ 0 ≤ node14 ∧ node14 < (l13.len : Int) ∧
   ∃ t16 : Sl, w11.cell? (a15.add (node14.toNat * 1)) = some (.slice t16.a t16.len t16.cap) ∧
   ∃ i17 : Int, w11.cell? ((Addr.mk w.heap.size 0 none).add 1) = some (.int .i64 i17) ∧
   ∃ a18 : Addr, t16.a = some a18 ∧ 0 ≤ i17 ∧ i17 < (t16.len : Int) ∧
   ∃ kind19 : Int, w11.cell? (a18.add (i17.toNat * 6)) = some (.int .i64 kind19) ∧
   bif kind19 == (0 : Int) then
    (K (52 : Int) w11)
   else
    (Dr w11 fun w20 =>
   ∃ a21 : Addr, n1 = some a21 ∧
   ∃ l22 : Sl, w20.cell? a21 = some (.slice l22.a l22.len l22.cap) ∧
   ∃ node23 : Int, w20.cell? (Addr.mk w6.heap.size 0 none) = some (.int .i64 node23) ∧
   ∃ a24 : Addr, l22.a = some a24 ∧ 0 ≤ node23 ∧ node23 < (l22.len : Int) ∧
   ∃ t25 : Sl, w20.cell? (a24.add (node23.toNat * 1)) = some (.slice t25.a t25.len t25.cap) ∧
   ∃ i26 : Int, w20.cell? ((Addr.mk w6.heap.size 0 none).add 1) = some (.int .i64 i26) ∧
   ∃ a27 : Addr, t25.a = some a27 ∧ 0 ≤ i26 ∧ i26 < (t25.len : Int) ∧
   ∃ kind28 : Int, w20.cell? (a27.add (i26.toNat * 6)) = some (.int .i64 kind28) ∧
   bif kind28 != (0 : Int) then
    (K (51 : Int) w20)
   else
    (Dr w20 fun w29 =>
   ∃ a30 : Addr, n1 = some a30 ∧
   ∃ l31 : Sl, w29.cell? a30 = some (.slice l31.a l31.len l31.cap) ∧
   ∃ node32 : Int, w29.cell? (Addr.mk w6.heap.size 0 none) = some (.int .i64 node32) ∧
   ∃ a33 : Addr, l31.a = some a33 ∧ 0 ≤ node32 ∧ node32 < (l31.len : Int) ∧
   ∃ t34 : Sl, w29.cell? (a33.add (node32.toNat * 1)) = some (.slice t34.a t34.len t34.cap) ∧
   ∃ i35 : Int, w29.cell? ((Addr.mk w6.heap.size 0 none).add 1) = some (.int .i64 i35) ∧
   ∃ a36 : Addr, n1 = some a36 ∧
   ∃ l37 : Sl, w29.cell? a36 = some (.slice l37.a l37.len l37.cap) ∧
   ∃ node38 : Int, w29.cell? (Addr.mk w.heap.size 0 none) = some (.int .i64 node38) ∧
   ∃ a39 : Addr, l37.a = some a39 ∧ 0 ≤ node38 ∧ node38 < (l37.len : Int) ∧
   ∃ t40 : Sl, w29.cell? (a39.add (node38.toNat * 1)) = some (.slice t40.a t40.len t40.cap) ∧
   ∃ i41 : Int, w29.cell? ((Addr.mk w.heap.size 0 none).add 1) = some (.int .i64 i41) ∧
   ∃ a42 : Addr, t40.a = some a42 ∧ 0 ≤ i41 ∧ i41 < (t40.len : Int) ∧
   LdL w29 (a42.add (i41.toNat * 6)) 0 [.i .i64, .i .i64, .i .i64, .i .u64, .i .u64, .i .i64] fun (t43 : Int) (t44 : Int) (t45 : Int) (t46 : Int) (t47 : Int) (t48 : Int) =>
   ∃ a49 : Addr, t34.a = some a49 ∧ 0 ≤ i35 ∧ i35 < (t34.len : Int) ∧
   (StL w29 (a49.add (i35.toNat * 6)) 0 [.int .i64 t43, .int .i64 t44, .int .i64 t45, .int .u64 t46, .int .u64 t47, .int .i64 t48] fun w50 =>
   Dr w50 fun w51 =>
   ∃ a52 : Addr, n1 = some a52 ∧
   ∃ l53 : Sl, w51.cell? a52 = some (.slice l53.a l53.len l53.cap) ∧
   ∃ node54 : Int, w51.cell? (Addr.mk w.heap.size 0 none) = some (.int .i64 node54) ∧
   ∃ a55 : Addr, l53.a = some a55 ∧ 0 ≤ node54 ∧ node54 < (l53.len : Int) ∧
   ∃ t56 : Sl, w51.cell? (a55.add (node54.toNat * 1)) = some (.slice t56.a t56.len t56.cap) ∧
   ∃ i57 : Int, w51.cell? ((Addr.mk w.heap.size 0 none).add 1) = some (.int .i64 i57) ∧
   ∃ a58 : Addr, t56.a = some a58 ∧ 0 ≤ i57 ∧ i57 < (t56.len : Int) ∧
   (StL w51 (a58.add (i57.toNat * 6)) 0 [.int .i64 (0 : Int), .int .i64 (0 : Int), .int .i64 (0 : Int), .int .u64 (0 : Int), .int .u64 (0 : Int), .int .i64 (0 : Int)] fun w59 =>
   K (0 : Int) w59) ∧
   True) ∧
   True)))) → k8 t9 w10) →
   (LdL w7 (Addr.mk w.heap.size 0 none) 0 [.i .i64, .i .i64] fun (node60 : Int) (node61 : Int) =>
   C.ref05_Nodes_Is n1 node60 node61 (fun r62 w63 =>
   bif !r62 then
    (k8 true w63)
   else
    (LdL w63 (Addr.mk w6.heap.size 0 none) 0 [.i .i64, .i .i64] fun (node64 : Int) (node65 : Int) =>
   C.ref05_Nodes_Is n1 node64 node65 (fun r66 w67 =>
   k8 (!r66) w67) w63)) w7)
set_option maxRecDepth 100000 in
theorem S.ref05_Nodes_Move_ok (n1 : Option Addr) (from2 : Int) (from3 : Int) (to4 : Int) (to5 : Int) (K : Int → World → Prop) (w : World) (h : S.ref05_Nodes_Move n1 from2 from3 to4 to5 K w) : C.ref05_Nodes_Move n1 from2 from3 to4 to5 K w := by
  have e : fnV Try.prog Try.f68 (bodyOf Try.f68) (.t none (.u) (.t none (.t none (.r (some [(16, .c (.b))]) .done) (.t none (.t none (.u) (.u)) (.u))) (.t none (.t none (.r none (.one 0 816 (.one 1 816 (.one 2 816 (.one 3 816 (.one 4 768 (.one 5 768 (.one 6 768 (.one 7 768 (.one 8 0 (.one 9 0 (.one 10 0 (.one 11 0 (.one 12 0 (.one 13 0 (.done)))))))))))))))) (.t none (.t none (.u) (.u)) (.u))) (.t none (.t none (.r none (.one 0 816 (.one 1 816 (.one 2 816 (.one 3 816 (.one 4 768 (.one 5 768 (.one 6 768 (.one 7 768 (.one 8 0 (.one 9 0 (.one 10 0 (.one 11 0 (.one 12 0 (.one 13 0 (.done)))))))))))))))) (.t none (.t none (.u) (.u)) (.u))) (.t none (.r none (.one 0 4194096 (.one 1 4194096 (.one 2 4194096 (.one 3 4194096 (.one 4 4194048 (.one 5 4194048 (.one 6 4194048 (.one 7 4194048 (.one 8 4193280 (.one 9 4193280 (.one 10 835584 (.one 11 835584 (.one 12 835584 (.one 13 835584 (.one 14 786432 (.one 15 786432 (.one 16 786432 (.one 17 786432 (.one 18 0 (.one 19 0 (.one 20 0 (.one 21 0 (.one 22 0 (.alt 23 (.done) (.none)))))))))))))))))))))))))) (.t none (.r none (.one 0 1840 (.one 1 1840 (.one 2 1840 (.one 3 1840 (.one 4 1792 (.one 5 1792 (.one 6 1792 (.one 7 1792 (.one 8 1024 (.one 9 1024 (.one 10 0 (.one 11 0 (.alt 12 (.done) (.none))))))))))))))) (.t none (.u) (.u)))))))) [(0, .c (.i .i64))] [.pointer n1, .agg #[.int .i64 from2, .int .i64 from3], .agg #[.int .i64 to4, .int .i64 to5]] K w = S.ref05_Nodes_Move n1 from2 from3 to4 to5 K w := by kernel_rfl
  exact okF_mk Try.func68 rfl (fn_sound names_ok follows_ok Try.func68 rfl (by kernel_rfl) (Eq.mpr e h))

/-- (*buttress/buttressref05.Nodes).Swap -/
def S.ref05_Nodes_Swap (n1 : Option Addr) (a2 : Int) (a3 : Int) (b4 : Int) (b5 : Int) (K : Int → World → Prop) (w : World) : Prop :=
  Al w (.cells #[.int .i64 a2, .int .i64 a3] 49) fun w6 =>
   Al w6 (.cells #[.int .i64 b4, .int .i64 b5] 49) fun w7 =>
   ∀ k8 : Bool → World → Prop,
   (∀ (t9 : Bool) (w10 : World), (bif t9 then
    (K (50 : Int) w10)
   else
    (∀ k11 : Addr → Addr → World → Prop,
   (∀ (x12 : Addr) (y13 : Addr) (w14 : World), (Dr w14 fun w15 =>
   ∃ a16 : Addr, n1 = some a16 ∧
   ∃ l17 : Sl, w15.cell? a16 = some (.slice l17.a l17.len l17.cap) ∧
   ∃ node18 : Int, w15.cell? (Addr.mk w.heap.size 0 none) = some (.int .i64 node18) ∧
   ∃ a19 : Addr, l17.a = some a19 ∧ 0 ≤ node18 ∧ node18 < (l17.len : Int) ∧
   ∃ t20 : Sl, w15.cell? (a19.add (node18.toNat * 1)) = some (.slice t20.a t20.len t20.cap) ∧
   ∃ i21 : Int, w15.cell? ((Addr.mk w.heap.size 0 none).add 1) = some (.int .i64 i21) ∧
   LdL w15 y13 0 [.i .i64, .i .i64, .i .i64, .i .u64, .i .u64, .i .i64] fun (t22 : Int) (t23 : Int) (t24 : Int) (t25 : Int) (t26 : Int) (t27 : Int) =>
   ∃ a28 : Addr, t20.a = some a28 ∧ 0 ≤ i21 ∧ i21 < (t20.len : Int) ∧
   (StL w15 (a28.add (i21.toNat * 6)) 0 [.int .i64 t22, .int .i64 t23, .int .i64 t24, .int .u64 t25, .int .u64 t26, .int .i64 t27] fun w29 =>
   Dr w29 fun w30 =>
   ∃ a31 : Addr, n1 = some a31 ∧
   ∃ l32 : Sl, w30.cell? a31 = some (.slice l32.a l32.len l32.cap) ∧
   ∃ node33 : Int, w30.cell? (Addr.mk w6.heap.size 0 none) = some (.int .i64 node33) ∧
   ∃ a34 : Addr, l32.a = some a34 ∧ 0 ≤ node33 ∧ node33 < (l32.len : Int) ∧
   ∃ t35 : Sl, w30.cell? (a34.add (node33.toNat * 1)) = some (.slice t35.a t35.len t35.cap) ∧
   ∃ i36 : Int, w30.cell? ((Addr.mk w6.heap.size 0 none).add 1) = some (.int .i64 i36) ∧
   LdL w30 x12 0 [.i .i64, .i .i64, .i .i64, .i .u64, .i .u64, .i .i64] fun (t37 : Int) (t38 : Int) (t39 : Int) (t40 : Int) (t41 : Int) (t42 : Int) =>
   ∃ a43 : Addr, t35.a = some a43 ∧ 0 ≤ i36 ∧ i36 < (t35.len : Int) ∧
   (StL w30 (a43.add (i36.toNat * 6)) 0 [.int .i64 t37, .int .i64 t38, .int .i64 t39, .int .u64 t40, .int .u64 t41, .int .i64 t42] fun w44 =>
   K (0 : Int) w44) ∧
   True) ∧
   True) → k11 x12 y13 w14) →
   (Dr w10 fun w45 =>
   ∃ a46 : Addr, n1 = some a46 ∧
   ∃ l47 : Sl, w45.cell? a46 = some (.slice l47.a l47.len l47.cap) ∧
   ∃ node48 : Int, w45.cell? (Addr.mk w.heap.size 0 none) = some (.int .i64 node48) ∧
   ∃ a49 : Addr, l47.a = some a49 ∧ 0 ≤ node48 ∧ node48 < (l47.len : Int) ∧
   ∃ t50 : Sl, w45.cell? (a49.add (node48.toNat * 1)) = some (.slice t50.a t50.len t50.cap) ∧
   ∃ i51 : Int, w45.cell? ((Addr.mk w.heap.size 0 none).add 1) = some (.int .i64 i51) ∧
   ∃ a52 : Addr, t50.a = some a52 ∧ 0 ≤ i51 ∧ i51 < (t50.len : Int) ∧
   LdL w45 (a52.add (i51.toNat * 6)) 0 [.i .i64, .i .i64, .i .i64, .i .u64, .i .u64, .i .i64] fun (t53 : Int) (t54 : Int) (t55 : Int) (t56 : Int) (t57 : Int) (t58 : Int) =>
   ∃ a59 : Addr, n1 = some a59 ∧
   ∃ l60 : Sl, w45.cell? a59 = some (.slice l60.a l60.len l60.cap) ∧
   ∃ node61 : Int, w45.cell? (Addr.mk w6.heap.size 0 none) = some (.int .i64 node61) ∧
   ∃ a62 : Addr, l60.a = some a62 ∧ 0 ≤ node61 ∧ node61 < (l60.len : Int) ∧
   ∃ t63 : Sl, w45.cell? (a62.add (node61.toNat * 1)) = some (.slice t63.a t63.len t63.cap) ∧
   ∃ i64 : Int, w45.cell? ((Addr.mk w6.heap.size 0 none).add 1) = some (.int .i64 i64) ∧
   ∃ a65 : Addr, t63.a = some a65 ∧ 0 ≤ i64 ∧ i64 < (t63.len : Int) ∧
   LdL w45 (a65.add (i64.toNat * 6)) 0 [.i .i64, .i .i64, .i .i64, .i .u64, .i .u64, .i .i64] fun (t66 : Int) (t67 : Int) (t68 : Int) (t69 : Int) (t70 : Int) (t71 : Int) =>
   (Al w45 (.cells #[.int .i64 (0 : Int), .int .i64 (0 : Int), .int .i64 (0 : Int), .int .u64 (0 : Int), .int .u64 (0 : Int), .int .i64 (0 : Int)] 38) fun w72 =>
   (Al w72 (.cells #[.int .i64 (0 : Int), .int .i64 (0 : Int), .int .i64 (0 : Int), .int .u64 (0 : Int), .int .u64 (0 : Int), .int .i64 (0 : Int)] 38) fun w73 =>
   (StL w73 (Addr.mk w45.heap.size 0 none) 0 [.int .i64 t53, .int .i64 t54, .int .i64 t55, .int .u64 t56, .int .u64 t57, .int .i64 t58] fun w74 =>
   HdL w74 (a65.add (i64.toNat * 6)) 0 [.int .i64 t66, .int .i64 t67, .int .i64 t68, .int .u64 t69, .int .u64 t70, .int .i64 t71] (
   w74.cell? ((Addr.mk w6.heap.size 0 none).add 1) = some (.int .i64 i64) ∧
   w74.cell? (a62.add (node61.toNat * 1)) = some (.slice t63.a t63.len t63.cap) ∧
   w74.cell? (Addr.mk w6.heap.size 0 none) = some (.int .i64 node61) ∧
   w74.cell? a59 = some (.slice l60.a l60.len l60.cap) ∧
   (StL w74 (Addr.mk w72.heap.size 0 none) 0 [.int .i64 t66, .int .i64 t67, .int .i64 t68, .int .u64 t69, .int .u64 t70, .int .i64 t71] fun w75 =>
   k11 (Addr.mk w45.heap.size 0 none) (Addr.mk w72.heap.size 0 none) w75) ∧
   True)) ∧
   True) ∧
   True) ∧
   (Al w45 (.cells #[.int .i64 (0 : Int), .int .i64 (0 : Int), .int .i64 (0 : Int), .int .u64 (0 : Int), .int .u64 (0 : Int), .int .i64 (0 : Int)] 38) fun w76 =>
   (Al w76 (.cells #[.int .i64 (0 : Int), .int .i64 (0 : Int), .int .i64 (0 : Int), .int .u64 (0 : Int), .int .u64 (0 : Int), .int .i64 (0 : Int)] 38) fun w77 =>
   (StL w77 (Addr.mk w76.heap.size 0 none) 0 [.int .i64 t53, .int .i64 t54, .int .i64 t55, .int .u64 t56, .int .u64 t57, .int .i64 t58] fun w78 =>
   HdL w78 (a65.add (i64.toNat * 6)) 0 [.int .i64 t66, .int .i64 t67, .int .i64 t68, .int .u64 t69, .int .u64 t70, .int .i64 t71] (
   w78.cell? ((Addr.mk w6.heap.size 0 none).add 1) = some (.int .i64 i64) ∧
   w78.cell? (a62.add (node61.toNat * 1)) = some (.slice t63.a t63.len t63.cap) ∧
   w78.cell? (Addr.mk w6.heap.size 0 none) = some (.int .i64 node61) ∧
   w78.cell? a59 = some (.slice l60.a l60.len l60.cap) ∧
   (StL w78 (Addr.mk w45.heap.size 0 none) 0 [.int .i64 t66, .int .i64 t67, .int .i64 t68, .int .u64 t69, .int .u64 t70, .int .i64 t71] fun w79 =>
   k11 (Addr.mk w76.heap.size 0 none) (Addr.mk w45.heap.size 0 none) w79) ∧
   True)) ∧
   True) ∧
   True) ∧
   True))) → k8 t9 w10) →
   (LdL w7 (Addr.mk w.heap.size 0 none) 0 [.i .i64, .i .i64] fun (node80 : Int) (node81 : Int) =>
   C.ref05_Nodes_Is n1 node80 node81 (fun r82 w83 =>
   bif !r82 then
    (k8 true w83)
   else
    (LdL w83 (Addr.mk w6.heap.size 0 none) 0 [.i .i64, .i .i64] fun (node84 : Int) (node85 : Int) =>
   C.ref05_Nodes_Is n1 node84 node85 (fun r86 w87 =>
   k8 (!r86) w87) w83)) w7)
set_option maxRecDepth 100000 in
theorem S.ref05_Nodes_Swap_ok (n1 : Option Addr) (a2 : Int) (a3 : Int) (b4 : Int) (b5 : Int) (K : Int → World → Prop) (w : World) (h : S.ref05_Nodes_Swap n1 a2 a3 b4 b5 K w) : C.ref05_Nodes_Swap n1 a2 a3 b4 b5 K w := by
  have e : fnV Try.prog Try.f69 (bodyOf Try.f69) (.t none (.u) (.t none (.t none (.r (some [(18, .c (.b))]) .done) (.t none (.t none (.u) (.u)) (.u))) (.t none (.r (some [(7, .c (.q)), (8, .c (.q))]) (.one 0 67105584 (.one 1 67105584 (.one 2 67105584 (.one 3 67105584 (.one 4 67105536 (.one 5 67105536 (.one 6 67105536 (.one 7 67105536 (.one 8 67104768 (.one 9 67104768 (.one 10 67104768 (.one 11 67104768 (.one 12 120782848 (.one 13 120782848 (.one 14 120782848 (.one 16 120619008 (.one 20 118390784 (.hold 15 119668736 134217727 (.hold 17 119537664 134217727 (.one 18 119537664 (.hold 19 119537664 134217727 (.hold 21 117440512 134217727 (.one 22 117440512 (.hold 23 117440512 134217727 (.alt 24 (.alt 25 (.alt 26 (.alt 27 (.done) (.none)) (.none)) (.none)) (.alt 25 (.alt 24 (.alt 26 (.alt 27 (.done) (.none)) (.none)) (.none)) (.none)))))))))))))))))))))))))))) (.t none (.r none (.one 0 1840 (.one 1 1840 (.one 2 1840 (.one 3 1840 (.one 4 1792 (.one 5 1792 (.one 6 1792 (.one 7 1792 (.one 8 1024 (.one 9 1024 (.one 10 0 (.one 11 0 (.alt 12 (.done) (.none))))))))))))))) (.t none (.r none (.one 0 1840 (.one 1 1840 (.one 2 1840 (.one 3 1840 (.one 4 1792 (.one 5 1792 (.one 6 1792 (.one 7 1792 (.one 8 1024 (.one 9 1024 (.one 10 0 (.one 11 0 (.alt 12 (.done) (.none))))))))))))))) (.t none (.u) (.u))))))) [(0, .c (.i .i64))] [.pointer n1, .agg #[.int .i64 a2, .int .i64 a3], .agg #[.int .i64 b4, .int .i64 b5]] K w = S.ref05_Nodes_Swap n1 a2 a3 b4 b5 K w := by kernel_rfl
  exact okF_mk Try.func69 rfl (fn_sound names_ok follows_ok Try.func69 rfl (by kernel_rfl) (Eq.mpr e h))
end Go.Proofs.Ytdlcejjiccknlaa
