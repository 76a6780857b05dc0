/- The functions' texts, and that a call comes to them. Printed by a program of mine (gen.py). -/
import Derived.Test.YtgkebkfabegflaaC
set_option linter.unusedVariables false
namespace Go.Proofs.Ytgkebkfabegflaa
open Go Go.Vc Go.Proofs

/-- math/bits.Mul -/
def S.math_bits_Mul (x1 : Int) (y2 : Int) (K : Int → Int → World → Prop) (w : World) : Prop :=
  C.math_bits_Mul64 x1 y2 (fun r3 r4 w5 =>
   K r3 r4 w5) w
set_option maxRecDepth 100000 in
theorem S.math_bits_Mul_ok (x1 : Int) (y2 : Int) (K : Int → Int → World → Prop) (w : World) (h : S.math_bits_Mul x1 y2 K w) : C.math_bits_Mul x1 y2 K w := by
  have e : fnV Try.prog Try.f61 (bodyOf Try.f61) (.t none (.u) (.t none (.t none (.t none (.u) (.t none (.u) (.u))) (.u)) (.t none (.u) (.t none (.u) (.u))))) [(0, .c (.i .u64)), (1, .c (.i .u64))] [.int .u64 x1, .int .u64 y2] K w = S.math_bits_Mul x1 y2 K w := by kernel_rfl
  exact okF_mk Try.func61 rfl (fn_sound names_ok follows_ok Try.func61 rfl (by kernel_rfl) (Eq.mpr e h))

/-- math/bits.Mul32 -/
def S.math_bits_Mul32 (x1 : Int) (y2 : Int) (K : Int → Int → World → Prop) (w : World) : Prop :=
  0 ≤ (32 : Int) ∧
   K (IntKind.u32.wrap (shrI .u64 (IntKind.u64.wrap ((IntKind.u64.wrap x1) * (IntKind.u64.wrap y2))) (32 : Int))) (IntKind.u32.wrap (IntKind.u64.wrap ((IntKind.u64.wrap x1) * (IntKind.u64.wrap y2)))) w
set_option maxRecDepth 100000 in
theorem S.math_bits_Mul32_ok (x1 : Int) (y2 : Int) (K : Int → Int → World → Prop) (w : World) (h : S.math_bits_Mul32 x1 y2 K w) : C.math_bits_Mul32 x1 y2 K w := by
  have e : fnV Try.prog Try.f71 (bodyOf Try.f71) (.t none (.u) (.t none (.u) (.t none (.u) (.u)))) [(0, .c (.i .u32)), (1, .c (.i .u32))] [.int .u32 x1, .int .u32 y2] K w = S.math_bits_Mul32 x1 y2 K w := by kernel_rfl
  exact okF_mk Try.func71 rfl (fn_sound names_ok follows_ok Try.func71 rfl (by kernel_rfl) (Eq.mpr e h))

/-- math/bits.Mul64 -/
def S.math_bits_Mul64 (x1 : Int) (y2 : Int) (K : Int → Int → World → Prop) (w : World) : Prop :=
  0 ≤ (32 : Int) ∧
   0 ≤ (32 : Int) ∧
   0 ≤ (32 : Int) ∧
   0 ≤ (32 : Int) ∧
   0 ≤ (32 : Int) ∧
   K (IntKind.u64.wrap ((IntKind.u64.wrap ((IntKind.u64.wrap ((shrI .u64 x1 (32 : Int)) * (shrI .u64 y2 (32 : Int)))) + (shrI .u64 (IntKind.u64.wrap ((IntKind.u64.wrap ((shrI .u64 x1 (32 : Int)) * (andI .u64 y2 (4294967295 : Int)))) + (shrI .u64 (IntKind.u64.wrap ((andI .u64 x1 (4294967295 : Int)) * (andI .u64 y2 (4294967295 : Int)))) (32 : Int)))) (32 : Int)))) + (shrI .u64 (IntKind.u64.wrap ((andI .u64 (IntKind.u64.wrap ((IntKind.u64.wrap ((shrI .u64 x1 (32 : Int)) * (andI .u64 y2 (4294967295 : Int)))) + (shrI .u64 (IntKind.u64.wrap ((andI .u64 x1 (4294967295 : Int)) * (andI .u64 y2 (4294967295 : Int)))) (32 : Int)))) (4294967295 : Int)) + (IntKind.u64.wrap ((andI .u64 x1 (4294967295 : Int)) * (shrI .u64 y2 (32 : Int)))))) (32 : Int)))) (IntKind.u64.wrap (x1 * y2)) w
set_option maxRecDepth 100000 in
theorem S.math_bits_Mul64_ok (x1 : Int) (y2 : Int) (K : Int → Int → World → Prop) (w : World) (h : S.math_bits_Mul64 x1 y2 K w) : C.math_bits_Mul64 x1 y2 K w := by
  have e : fnV Try.prog Try.f72 (bodyOf Try.f72) (.t none (.u) (.t none (.u) (.t none (.u) (.t none (.u) (.t none (.u) (.t none (.u) (.t none (.u) (.t none (.u) (.t none (.u) (.t none (.u) (.t none (.u) (.t none (.u) (.u))))))))))))) [(0, .c (.i .u64)), (1, .c (.i .u64))] [.int .u64 x1, .int .u64 y2] K w = S.math_bits_Mul64 x1 y2 K w := by kernel_rfl
  exact okF_mk Try.func72 rfl (fn_sound names_ok follows_ok Try.func72 rfl (by kernel_rfl) (Eq.mpr e h))

/-- math/bits.Len64 -/
def S.math_bits_Len64 (x1 : Int) (K : Int → World → Prop) (w : World) : Prop :=
  ∀ k2 : Int → Int → World → Prop,
   (∀ (x3 : Int) (n4 : Int) (w5 : World), (∀ k6 : Int → Int → World → Prop,
   (∀ (x7 : Int) (n8 : Int) (w9 : World), (∀ k10 : Int → Int → World → Prop,
   (∀ (x11 : Int) (n12 : Int) (w13 : World), (∃ b14 : Int, StrAt ⟨#[0, 1, 2, 2, 3, 3, 3, 3, 4, 4, 4, 4, 4, 4, 4, 4, 5, 5, 5, 5, 5, 5, 5, 5, 5, 5, 5, 5, 5, 5, 5, 5, 6, 6, 6, 6, 6, 6, 6, 6, 6, 6, 6, 6, 6, 6, 6, 6, 6, 6, 6, 6, 6, 6, 6, 6, 6, 6, 6, 6, 6, 6, 6, 6, 7, 7, 7, 7, 7, 7, 7, 7, 7, 7, 7, 7, 7, 7, 7, 7, 7, 7, 7, 7, 7, 7, 7, 7, 7, 7, 7, 7, 7, 7, 7, 7, 7, 7, 7, 7, 7, 7, 7, 7, 7, 7, 7, 7, 7, 7, 7, 7, 7, 7, 7, 7, 7, 7, 7, 7, 7, 7, 7, 7, 7, 7, 7, 7, 8, 8, 8, 8, 8, 8, 8, 8, 8, 8, 8, 8, 8, 8, 8, 8, 8, 8, 8, 8, 8, 8, 8, 8, 8, 8, 8, 8, 8, 8, 8, 8, 8, 8, 8, 8, 8, 8, 8, 8, 8, 8, 8, 8, 8, 8, 8, 8, 8, 8, 8, 8, 8, 8, 8, 8, 8, 8, 8, 8, 8, 8, 8, 8, 8, 8, 8, 8, 8, 8, 8, 8, 8, 8, 8, 8, 8, 8, 8, 8, 8, 8, 8, 8, 8, 8, 8, 8, 8, 8, 8, 8, 8, 8, 8, 8, 8, 8, 8, 8, 8, 8, 8, 8, 8, 8, 8, 8, 8, 8, 8, 8, 8, 8, 8, 8, 8, 8, 8, 8, 8, 8, 8, 8, 8, 8, 8, 8]⟩ (IntKind.u8.wrap x11) b14 ∧
   K (IntKind.i64.wrap (n12 + (IntKind.i64.wrap b14))) w13) → k10 x11 n12 w13) →
   (bif decide (x7 ≥ (256 : Int)) then
    (0 ≤ (8 : Int) ∧
   k10 (shrI .u64 x7 (8 : Int)) (IntKind.i64.wrap (n8 + (8 : Int))) w9)
   else
    (k10 x7 n8 w9))) → k6 x7 n8 w9) →
   (bif decide (x3 ≥ (65536 : Int)) then
    (0 ≤ (16 : Int) ∧
   k6 (shrI .u64 x3 (16 : Int)) (IntKind.i64.wrap (n4 + (16 : Int))) w5)
   else
    (k6 x3 n4 w5))) → k2 x3 n4 w5) →
   (bif decide (x1 ≥ (4294967296 : Int)) then
    (0 ≤ (32 : Int) ∧
   k2 (shrI .u64 x1 (32 : Int)) (32 : Int) w)
   else
    (k2 x1 (0 : Int) w))
set_option maxRecDepth 100000 in
theorem S.math_bits_Len64_ok (x1 : Int) (K : Int → World → Prop) (w : World) (h : S.math_bits_Len64 x1 K w) : C.math_bits_Len64 x1 K w := by
  have e : fnV Try.prog Try.f74 (bodyOf Try.f74) (.t none (.u) (.t none (.t none (.u) (.t (some [(0, .c (.i .u64)), (2, .c (.i .i64))]) (.t none (.u) (.u)) (.u))) (.t none (.t none (.u) (.t (some [(0, .c (.i .u64)), (2, .c (.i .i64))]) (.t none (.u) (.u)) (.u))) (.t none (.t none (.u) (.t (some [(0, .c (.i .u64)), (2, .c (.i .i64))]) (.t none (.u) (.u)) (.u))) (.t none (.u) (.u)))))) [(0, .c (.i .i64))] [.int .u64 x1] K w = S.math_bits_Len64 x1 K w := by kernel_rfl
  exact okF_mk Try.func74 rfl (fn_sound names_ok follows_ok Try.func74 rfl (by kernel_rfl) (Eq.mpr e h))

/-- buttress/ready.New -/
def S.ready_New (K : Option Addr → World → Prop) (w : World) : Prop :=
  Al w (.map #[] 0) fun w1 =>
   Al w1 (.cells #[.slice none 0 0, .slice none 0 0, .slice none 0 0, .slice none 0 0, .slice none 0 0, .slice none 0 0, .slice none 0 0, .slice none 0 0, .slice none 0 0, .slice none 0 0, .slice none 0 0, .slice none 0 0, .slice none 0 0, .slice none 0 0, .slice none 0 0, .slice none 0 0, .slice none 0 0, .slice none 0 0, .slice none 0 0, .slice none 0 0, .slice none 0 0, .slice none 0 0, .slice none 0 0, .slice none 0 0, .slice none 0 0, .slice none 0 0, .slice none 0 0, .slice none 0 0, .slice none 0 0, .slice none 0 0, .slice none 0 0, .slice none 0 0, .slice none 0 0, .slice none 0 0, .slice none 0 0, .slice none 0 0, .slice none 0 0, .slice none 0 0, .slice none 0 0, .slice none 0 0, .slice none 0 0, .slice none 0 0, .slice none 0 0, .slice none 0 0, .slice none 0 0, .slice none 0 0, .slice none 0 0, .slice none 0 0, .slice none 0 0, .slice none 0 0, .slice none 0 0, .slice none 0 0, .slice none 0 0, .slice none 0 0, .slice none 0 0, .slice none 0 0, .slice none 0 0, .slice none 0 0, .slice none 0 0, .slice none 0 0, .slice none 0 0, .slice none 0 0, .slice none 0 0, .slice none 0 0, .slice none 0 0, .slice none 0 0, .slice none 0 0, .slice none 0 0, .slice none 0 0, .slice none 0 0, .slice none 0 0, .slice none 0 0, .slice none 0 0, .slice none 0 0, .slice none 0 0, .slice none 0 0, .slice none 0 0, .slice none 0 0, .slice none 0 0, .slice none 0 0, .slice none 0 0, .slice none 0 0, .slice none 0 0, .slice none 0 0, .slice none 0 0, .slice none 0 0, .slice none 0 0, .slice none 0 0, .slice none 0 0, .slice none 0 0, .slice none 0 0, .slice none 0 0, .slice none 0 0, .slice none 0 0, .slice none 0 0, .slice none 0 0, .slice none 0 0, .slice none 0 0, .slice none 0 0, .slice none 0 0, .slice none 0 0, .slice none 0 0, .slice none 0 0, .slice none 0 0, .slice none 0 0, .slice none 0 0, .slice none 0 0, .slice none 0 0, .slice none 0 0, .slice none 0 0, .slice none 0 0, .slice none 0 0, .slice none 0 0, .slice none 0 0, .slice none 0 0, .slice none 0 0, .slice none 0 0, .slice none 0 0, .slice none 0 0, .slice none 0 0, .slice none 0 0, .slice none 0 0, .slice none 0 0, .slice none 0 0, .slice none 0 0, .slice none 0 0, .slice none 0 0, .slice none 0 0, .slice none 0 0, .slice none 0 0, .slice none 0 0, .slice none 0 0, .slice none 0 0, .slice none 0 0, .slice none 0 0, .slice none 0 0, .slice none 0 0, .slice none 0 0, .slice none 0 0, .slice none 0 0, .slice none 0 0, .slice none 0 0, .slice none 0 0, .slice none 0 0, .slice none 0 0, .slice none 0 0, .slice none 0 0, .slice none 0 0, .slice none 0 0, .slice none 0 0, .slice none 0 0, .slice none 0 0, .slice none 0 0, .slice none 0 0, .slice none 0 0, .slice none 0 0, .slice none 0 0, .slice none 0 0, .slice none 0 0, .slice none 0 0, .slice none 0 0, .slice none 0 0, .slice none 0 0, .slice none 0 0, .slice none 0 0, .slice none 0 0, .slice none 0 0, .slice none 0 0, .slice none 0 0, .slice none 0 0, .slice none 0 0, .slice none 0 0, .slice none 0 0, .slice none 0 0, .slice none 0 0, .slice none 0 0, .slice none 0 0, .slice none 0 0, .slice none 0 0, .slice none 0 0, .slice none 0 0, .slice none 0 0, .slice none 0 0, .slice none 0 0, .slice none 0 0, .slice none 0 0, .slice none 0 0, .slice none 0 0, .slice none 0 0, .slice none 0 0, .slice none 0 0, .slice none 0 0, .slice none 0 0, .slice none 0 0, .slice none 0 0, .slice none 0 0, .slice none 0 0, .slice none 0 0, .slice none 0 0, .slice none 0 0, .slice none 0 0, .slice none 0 0, .slice none 0 0, .slice none 0 0, .slice none 0 0, .slice none 0 0, .slice none 0 0, .slice none 0 0, .slice none 0 0, .slice none 0 0, .slice none 0 0, .slice none 0 0, .slice none 0 0, .slice none 0 0, .slice none 0 0, .slice none 0 0, .slice none 0 0, .slice none 0 0, .slice none 0 0, .slice none 0 0, .slice none 0 0, .slice none 0 0, .slice none 0 0, .slice none 0 0, .slice none 0 0, .slice none 0 0, .slice none 0 0, .slice none 0 0, .slice none 0 0, .slice none 0 0, .slice none 0 0, .slice none 0 0, .slice none 0 0, .slice none 0 0, .slice none 0 0, .slice none 0 0, .slice none 0 0, .slice none 0 0, .slice none 0 0, .slice none 0 0, .slice none 0 0, .slice none 0 0, .slice none 0 0, .slice none 0 0, .slice none 0 0, .slice none 0 0, .slice none 0 0, .slice none 0 0, .slice none 0 0, .slice none 0 0, .slice none 0 0, .slice none 0 0, .slice none 0 0, .slice none 0 0, .slice none 0 0, .slice none 0 0, .map (some w.heap.size), .int .u64 (0 : Int), .int .u64 (0 : Int), .int .u64 (0 : Int), .int .u64 (0 : Int)] 81) fun w2 =>
   K (some (Addr.mk w1.heap.size 0 none)) w2
set_option maxRecDepth 100000 in
theorem S.ready_New_ok (K : Option Addr → World → Prop) (w : World) (h : S.ready_New  K w) : C.ready_New  K w := by
  have e : fnV Try.prog Try.f35 (bodyOf Try.f35) (.t none (.u) (.t none (.u) (.u))) [(0, .c (.p))] [] K w = S.ready_New  K w := by kernel_rfl
  exact okF_mk Try.func35 rfl (fn_sound names_ok follows_ok Try.func35 rfl (by kernel_rfl) (Eq.mpr e h))

/-- (*buttress/ready.Queue).Next -/
def S.ready_Queue_Next (q1 : Option Addr) (K : Int → Bool → World → Prop) (w : World) : Prop :=
  ∃ a2 : Addr, q1 = some a2 ∧
   LdL w (a2.add 257) 0 [.i .u64, .i .u64, .i .u64, .i .u64] fun (b3 : Int) (b4 : Int) (b5 : Int) (b6 : Int) =>
   C.words_Top b3 b4 b5 b6 (fun r7 w8 =>
   bif decide (r7 < (0 : Int)) then
    (K (0 : Int) false w8)
   else
    (∃ a9 : Addr, q1 = some a9 ∧
   0 ≤ r7 ∧ r7 < (256 : Int) ∧
   ∃ t10 : Sl, w8.cell? (a9.add (r7.toNat * 1)) = some (.slice t10.a t10.len t10.cap) ∧
   ∃ a11 : Addr, t10.a = some a11 ∧ 0 ≤ (0 : Int) ∧ (0 : Int) < (t10.len : Int) ∧
   ∃ t12 : Int, w8.cell? (a11.add ((0 : Int).toNat * 1)) = some (.int .i64 t12) ∧
   K t12 true w8)) w
set_option maxRecDepth 100000 in
theorem S.ready_Queue_Next_ok (q1 : Option Addr) (K : Int → Bool → World → Prop) (w : World) (h : S.ready_Queue_Next q1 K w) : C.ready_Queue_Next q1 K w := by
  have e : fnV Try.prog Try.f40 (bodyOf Try.f40) (.t none (.u) (.t none (.u) (.t none (.t none (.u) (.t none (.t none (.u) (.u)) (.u))) (.t none (.u) (.u))))) [(0, .c (.i .i64)), (1, .c (.b))] [.pointer q1] K w = S.ready_Queue_Next q1 K w := by kernel_rfl
  exact okF_mk Try.func40 rfl (fn_sound names_ok follows_ok Try.func40 rfl (by kernel_rfl) (Eq.mpr e h))

/-- (*buttress/ready.lines).Line -/
def S.ready_lines_Line (q1 : Option Addr) (prio2 : Int) (K : Sl → World → Prop) (w : World) : Prop :=
  ∀ k3 : Bool → World → Prop,
   (∀ (t4 : Bool) (w5 : World), (bif t4 then
    (K ⟨none, 0, 0⟩ w5)
   else
    (∃ a6 : Addr, q1 = some a6 ∧
   0 ≤ prio2 ∧ prio2 < (256 : Int) ∧
   ∃ t7 : Sl, w5.cell? (a6.add (prio2.toNat * 1)) = some (.slice t7.a t7.len t7.cap) ∧
   C.slices_Clone_int_int t7 (fun r8 w9 =>
   K r8 w9) w5)) → k3 t4 w5) →
   (bif decide (prio2 < (0 : Int)) then
    (k3 true w)
   else
    (k3 (decide (prio2 ≥ (256 : Int))) w))
set_option maxRecDepth 100000 in
theorem S.ready_lines_Line_ok (q1 : Option Addr) (prio2 : Int) (K : Sl → World → Prop) (w : World) (h : S.ready_lines_Line q1 prio2 K w) : C.ready_lines_Line q1 prio2 K w := by
  have e : fnV Try.prog Try.f42 (bodyOf Try.f42) (.t none (.u) (.t none (.t none (.r (some [(10, .c (.b))]) .done) (.t none (.t none (.u) (.u)) (.u))) (.t none (.u) (.u)))) [(0, .c (.s))] [.pointer q1, .int .i64 prio2] K w = S.ready_lines_Line q1 prio2 K w := by kernel_rfl
  exact okF_mk Try.func42 rfl (fn_sound names_ok follows_ok Try.func42 rfl (by kernel_rfl) (Eq.mpr e h))

/-- (*buttress/ready.Queue).Copy -/
def S.ready_Queue_Copy (q1 : Option Addr) (K : Option Addr → World → Prop) (w : World) : Prop :=
  C.ready_New  (fun r2 w3 =>
   ∃ a4 : Addr, q1 = some a4 ∧
   ∃ by5 : Option Nat, w3.cell? (a4.add 256) = some (.map by5) ∧
   ∃ (it6 : Addr) (w7 : World), RangeR Try.prog 75 (.map by5) w3 it6 w7 ∧
   ∀ l8 : World → Prop,
   (∀ (w9 : World), (∃ (more10 : Bool) (l11 : List Value) (w12 : World), NextR Try.prog (.pointer (some it6)) false 0 w9 more10 l11 w12 ∧
   bif more10 then
    (∃ key13 : Int, ∃ val14 : Int, EntryR Try.prog (.pointer (some it6)) (.int .i64 key13) (.int .i64 val14) w12 ∧
   ∃ a15 : Addr, r2 = some a15 ∧
   ∃ by16 : Option Nat, w12.cell? (a15.add 256) = some (.map by16) ∧
   ∃ w17 : World, UpdR Try.prog 75 (.map by16) (.int .i64 key13) (.int .i64 val14) w12 w17 ∧
   l8 w17)
   else
    (∃ a18 : Addr, q1 = some a18 ∧
   ∃ l19 : Array Value, l19.size = 256 ∧ (∀ i20, i20 < 256 → w12.cell? (a18.add i20) = l19[i20]?) ∧
   ∀ l21 : Int → World → Prop,
   (∀ (t22 : Int) (w23 : World), (bif decide (t22 < (256 : Int)) then
    (0 ≤ t22 ∧ t22 < (256 : Int) ∧
   ∃ t24 : Sl, l19[t22.toNat * 1]? = some (.slice t24.a t24.len t24.cap) ∧
   Dr w23 fun w25 =>
   ∃ a26 : Addr, r2 = some a26 ∧
   (C.slices_Clone_int_int t24 (fun r27 w28 =>
   0 ≤ t22 ∧ t22 < (256 : Int) ∧
   (St w28 (a26.add (t22.toNat * 1)) (.slice r27.a r27.len r27.cap) fun w29 =>
   l21 (IntKind.i64.wrap (t22 + (1 : Int))) w29) ∧
   True) w25) ∧
   True)
   else
    (∃ a30 : Addr, q1 = some a30 ∧
   LdL w23 (a30.add 257) 0 [.i .u64, .i .u64, .i .u64, .i .u64] fun (b31 : Int) (b32 : Int) (b33 : Int) (b34 : Int) =>
   ∃ a35 : Addr, r2 = some a35 ∧
   StL w23 (a35.add 257) 0 [.int .u64 b31, .int .u64 b32, .int .u64 b33, .int .u64 b34] fun w36 =>
   K r2 w36)) → l21 t22 w23) →
   l21 (0 : Int) w12)) → l8 w9) →
   l8 w7) w
set_option maxRecDepth 100000 in
theorem S.ready_Queue_Copy_ok (q1 : Option Addr) (K : Option Addr → World → Prop) (w : World) (h : S.ready_Queue_Copy q1 K w) : C.ready_Queue_Copy q1 K w := by
  have e : fnV Try.prog Try.f47 (bodyOf Try.f47) (.t none (.u) (.t none (.u) (.t none (.t none (.u) (.t none (.t (some []) (.t none (.u) (.t none (.t none (.u) (.u)) (.t none (.t none (.u) (.u)) (.u)))) (.u)) (.u))) (.t none (.t none (.u) (.t none (.t (some [(32, .c (.i .i64))]) (.t none (.u) (.t none (.t none (.u) (.u)) (.t none (.t none (.t none (.u) (.r none (.one 0 14 (.one 1 124 (.one 2 112 (.one 4 8 (.one 5 8 (.one 6 8 (.alt 3 (.one 7 0 (.alt 8 (.done) (.none))) (.none)))))))))) (.u)) (.u)))) (.u)) (.u))) (.t none (.u) (.t none (.u) (.u))))))) [(0, .c (.p))] [.pointer q1] K w = S.ready_Queue_Copy q1 K w := by kernel_rfl
  exact okF_mk Try.func47 rfl (fn_sound names_ok follows_ok Try.func47 rfl (by kernel_rfl) (Eq.mpr e h))

/-- (*buttress/ready.Queue).Put -/
def S.ready_Queue_Put (q1 : Option Addr) (prio2 : Int) (n3 : Int) (K : Int → World → Prop) (w : World) : Prop :=
  ∀ k4 : Bool → World → Prop,
   (∀ (t5 : Bool) (w6 : World), (bif t5 then
    (K (1 : Int) w6)
   else
    (∃ a7 : Addr, q1 = some a7 ∧
   ∃ by8 : Option Nat, w6.cell? (a7.add 256) = some (.map by8) ∧
   ∃ t9 : Int, ∃ is10 : Bool, LkB Try.prog 75 (.map by8) (.int .i64 n3) (.int .i64 t9) is10 w6 ∧
   bif is10 then
    (K (90 : Int) w6)
   else
    (Dr w6 fun w11 =>
   ∃ a12 : Addr, q1 = some a12 ∧
   0 ≤ prio2 ∧ prio2 < (256 : Int) ∧
   ∃ t13 : Sl, w11.cell? (a12.add (prio2.toNat * 1)) = some (.slice t13.a t13.len t13.cap) ∧
   ∃ a14 : Addr, q1 = some a14 ∧
   (Al w11 (.cells #[.int .i64 n3] 3) fun w15 =>
   (∃ (t16 : Sl) (w17 : World), AppR Try.prog [41, 41] 41 (.slice t13.a t13.len t13.cap) (.slice (some (Addr.mk w11.heap.size 0 none)) 1 1) w15 t16 w17 ∧
   0 ≤ prio2 ∧ prio2 < (256 : Int) ∧
   (St w17 (a14.add (prio2.toNat * 1)) (.slice t16.a t16.len t16.cap) fun w18 =>
   ∃ a19 : Addr, q1 = some a19 ∧
   ∃ by20 : Option Nat, w18.cell? (a19.add 256) = some (.map by20) ∧
   ∃ w21 : World, UpdR Try.prog 75 (.map by20) (.int .i64 n3) (.int .i64 prio2) w18 w21 ∧
   ∃ a22 : Addr, q1 = some a22 ∧
   C.ready_lines_note (some a22) prio2 (fun w23 =>
   K (0 : Int) w23) w21) ∧
   True) ∧
   True) ∧
   True))) → k4 t5 w6) →
   (bif decide (prio2 < (0 : Int)) then
    (k4 true w)
   else
    (k4 (decide (prio2 ≥ (256 : Int))) w))
set_option maxRecDepth 100000 in
theorem S.ready_Queue_Put_ok (q1 : Option Addr) (prio2 : Int) (n3 : Int) (K : Int → World → Prop) (w : World) (h : S.ready_Queue_Put q1 prio2 n3 K w) : C.ready_Queue_Put q1 prio2 n3 K w := by
  have e : fnV Try.prog Try.f62 (bodyOf Try.f62) (.t none (.u) (.t none (.t none (.r (some [(14, .c (.b))]) .done) (.t none (.t none (.u) (.u)) (.u))) (.t none (.t none (.u) (.t none (.u) (.t none (.t none (.u) (.u)) (.u)))) (.t none (.r none (.one 0 4094 (.one 1 32764 (.one 2 30216 (.one 3 30320 (.one 4 30208 (.one 5 30208 (.one 6 30208 (.one 7 30208 (.one 8 30208 (.one 9 28672 (.one 12 3072 (.one 13 3072 (.one 14 3072 (.alt 10 (.alt 11 (.one 15 0 (.alt 16 (.done) (.none))) (.none)) (.none)))))))))))))))) (.t none (.u) (.t none (.u) (.t none (.u) (.u)))))))) [(0, .c (.i .i64))] [.pointer q1, .int .i64 prio2, .int .i64 n3] K w = S.ready_Queue_Put q1 prio2 n3 K w := by kernel_rfl
  exact okF_mk Try.func62 rfl (fn_sound names_ok follows_ok Try.func62 rfl (by kernel_rfl) (Eq.mpr e h))

/-- (*buttress/ready.Queue).Take -/
def S.ready_Queue_Take (q1 : Option Addr) (n2 : Int) (K : Int → World → Prop) (w : World) : Prop :=
  Al w (.cells #[.int .i64 n2] 3) fun w3 =>
   Dr w3 fun w4 =>
   ∃ a5 : Addr, q1 = some a5 ∧
   ∃ by6 : Option Nat, w4.cell? (a5.add 256) = some (.map by6) ∧
   ∃ t7 : Int, w4.cell? (Addr.mk w.heap.size 0 none) = some (.int .i64 t7) ∧
   (∃ t8 : Int, ∃ is9 : Bool, LkB Try.prog 75 (.map by6) (.int .i64 t7) (.int .i64 t8) is9 w4 ∧
   bif !is9 then
    (K (91 : Int) w4)
   else
    (Dr w4 fun w10 =>
   ∃ a11 : Addr, q1 = some a11 ∧
   0 ≤ t8 ∧ t8 < (256 : Int) ∧
   ∃ t12 : Sl, w10.cell? (a11.add (t8.toNat * 1)) = some (.slice t12.a t12.len t12.cap) ∧
   ∃ a13 : Addr, q1 = some a13 ∧
   (C.slices_DeleteFunc_int_int t12 (.func (.func 76) #[] #[.pointer (some (Addr.mk w.heap.size 0 none))]) (fun r14 w15 =>
   0 ≤ t8 ∧ t8 < (256 : Int) ∧
   (St w15 (a13.add (t8.toNat * 1)) (.slice r14.a r14.len r14.cap) fun w16 =>
   Dr w16 fun w17 =>
   ∃ a18 : Addr, q1 = some a18 ∧
   ∃ by19 : Option Nat, w17.cell? (a18.add 256) = some (.map by19) ∧
   ∃ t20 : Int, w17.cell? (Addr.mk w.heap.size 0 none) = some (.int .i64 t20) ∧
   (∃ w21 : World, DelR Try.prog [75, 3] 0 (.map by19) (.int .i64 t20) w17 w21 ∧
   ∃ a22 : Addr, q1 = some a22 ∧
   C.ready_lines_note (some a22) t8 (fun w23 =>
   K (0 : Int) w23) w21) ∧
   True) ∧
   True) w10) ∧
   True)) ∧
   True
set_option maxRecDepth 100000 in
theorem S.ready_Queue_Take_ok (q1 : Option Addr) (n2 : Int) (K : Int → World → Prop) (w : World) (h : S.ready_Queue_Take q1 n2 K w) : C.ready_Queue_Take q1 n2 K w := by
  have e : fnV Try.prog Try.f64 (bodyOf Try.f64) (.t none (.u) (.t none (.r none (.one 0 32 (.one 1 32 (.one 2 32 (.one 3 32 (.one 4 32 (.one 5 0 (.alt 6 (.one 7 0 (.one 8 512 (.one 9 1024 (.one 10 0 (.one 11 0 (.done)))))) (.none))))))))) (.t none (.t none (.u) (.t none (.t none (.u) (.u)) (.u))) (.t none (.r none (.one 0 2046 (.one 1 16380 (.one 2 14856 (.one 3 14960 (.one 4 14848 (.one 5 14848 (.one 6 14848 (.one 7 14848 (.one 8 14848 (.one 9 14336 (.one 11 1024 (.one 12 1024 (.one 13 1024 (.alt 10 (.one 14 0 (.alt 15 (.done) (.none))) (.none)))))))))))))))) (.t none (.r none (.one 0 32 (.one 1 32 (.one 2 32 (.one 3 32 (.one 4 32 (.one 5 0 (.alt 6 (.done) (.none))))))))) (.t none (.u) (.t none (.u) (.u)))))))) [(0, .c (.i .i64))] [.pointer q1, .int .i64 n2] K w = S.ready_Queue_Take q1 n2 K w := by kernel_rfl
  exact okF_mk Try.func64 rfl (fn_sound names_ok follows_ok Try.func64 rfl (by kernel_rfl) (Eq.mpr e h))

/-- (*buttress/ready.lines).note -/
def S.ready_lines_note (q1 : Option Addr) (prio2 : Int) (K : World → Prop) (w : World) : Prop :=
  Dr w fun w3 =>
   ∃ a4 : Addr, q1 = some a4 ∧
   LdL w3 (a4.add 257) 0 [.i .u64, .i .u64, .i .u64, .i .u64] fun (b5 : Int) (b6 : Int) (b7 : Int) (b8 : Int) =>
   ∃ a9 : Addr, q1 = some a9 ∧
   0 ≤ prio2 ∧ prio2 < (256 : Int) ∧
   ∃ t10 : Sl, w3.cell? (a9.add (prio2.toNat * 1)) = some (.slice t10.a t10.len t10.cap) ∧
   (C.words_Set b5 b6 b7 b8 prio2 (decide ((t10.len : Int) > (0 : Int))) (fun r11 r12 r13 r14 r15 w16 =>
   ∃ a17 : Addr, q1 = some a17 ∧
   (StL w16 (a17.add 257) 0 [.int .u64 r11, .int .u64 r12, .int .u64 r13, .int .u64 r14] fun w18 =>
   K w18) ∧
   True) w3) ∧
   True
set_option maxRecDepth 100000 in
theorem S.ready_lines_note_ok (q1 : Option Addr) (prio2 : Int) (K : World → Prop) (w : World) (h : S.ready_lines_note q1 prio2 K w) : C.ready_lines_note q1 prio2 K w := by
  have e : fnV Try.prog Try.f73 (bodyOf Try.f73) (.r none (.one 0 262142 (.one 1 16352 (.one 2 16352 (.one 3 16352 (.one 4 16352 (.one 5 16320 (.one 6 128 (.one 7 768 (.one 8 0 (.one 9 0 (.one 10 0 (.one 11 0 (.one 12 0 (.one 13 0 (.alt 14 (.one 15 0 (.one 16 131072 (.one 17 1835008 (.one 18 0 (.one 19 0 (.alt 20 (.done) (.none))))))) (.none))))))))))))))))) [] [.pointer q1, .int .i64 prio2] K w = S.ready_lines_note q1 prio2 K w := by kernel_rfl
  exact okF_mk Try.func73 rfl (fn_sound names_ok follows_ok Try.func73 rfl (by kernel_rfl) (Eq.mpr e h))

/-- (*buttress/ready.Queue).Take$1 -/
def S.ready_Queue_Take_1 (x1 : Int) (t2 : Addr) (K : Bool → World → Prop) (w : World) : Prop :=
  ∃ t3 : Int, w.cell? t2 = some (.int .i64 t3) ∧
   K (x1 == t3) w
set_option maxRecDepth 100000 in
theorem S.ready_Queue_Take_1_ok (x1 : Int) (t2 : Addr) (K : Bool → World → Prop) (w : World) (h : S.ready_Queue_Take_1 x1 t2 K w) : C.ready_Queue_Take_1 x1 t2 K w := by
  have e : fnV Try.prog Try.f76 (bodyOf Try.f76) (.t none (.u) (.t none (.u) (.u))) [(0, .c (.b))] [.int .i64 x1, .pointer (some t2)] K w = S.ready_Queue_Take_1 x1 t2 K w := by kernel_rfl
  exact okF_mk Try.func76 rfl (fn_sound names_ok follows_ok Try.func76 rfl (by kernel_rfl) (Eq.mpr e h))

/-- buttress/buttressref09.Nums -/
def S.ref09_Nums (a1 : Sl) (b2 : Sl) (K : Bool → World → Prop) (w : World) : Prop :=
  bif (a1.len : Int) != (b2.len : Int) then
    (K false w)
   else
    (∀ l3 : Int → World → Prop,
   (∀ (i4 : Int) (w5 : World), (bif decide (i4 < (a1.len : Int)) then
    (Dr w5 fun w6 =>
   ∃ a7 : Addr, a1.a = some a7 ∧ 0 ≤ i4 ∧ i4 < (a1.len : Int) ∧
   ∃ t8 : Int, w6.cell? (a7.add (i4.toNat * 1)) = some (.int .i64 t8) ∧
   ∃ a9 : Addr, b2.a = some a9 ∧ 0 ≤ i4 ∧ i4 < (b2.len : Int) ∧
   ∃ t10 : Int, w6.cell? (a9.add (i4.toNat * 1)) = some (.int .i64 t10) ∧
   bif t8 != t10 then
    (K false w6)
   else
    (l3 (IntKind.i64.wrap (i4 + (1 : Int))) w6))
   else
    (K true w5)) → l3 i4 w5) →
   l3 (0 : Int) w)
set_option maxRecDepth 100000 in
theorem S.ref09_Nums_ok (a1 : Sl) (b2 : Sl) (K : Bool → World → Prop) (w : World) (h : S.ref09_Nums a1 b2 K w) : C.ref09_Nums a1 b2 K w := by
  have e : fnV Try.prog Try.f19 (bodyOf Try.f19) (.t none (.u) (.t none (.t none (.u) (.t none (.t none (.u) (.u)) (.u))) (.t none (.t none (.u) (.t none (.t (some [(5, .c (.i .i64))]) (.t none (.t none (.u) (.t none (.u) (.u))) (.t none (.t none (.t none (.r none (.one 0 242 (.one 1 240 (.one 2 240 (.one 3 240 (.one 4 32 (.one 5 0 (.one 6 0 (.one 7 0 (.one 8 0 (.done))))))))))) (.t none (.t none (.u) (.u)) (.u))) (.u)) (.u))) (.u)) (.u))) (.t none (.u) (.u))))) [(0, .c (.b))] [.slice a1.a a1.len a1.cap, .slice b2.a b2.len b2.cap] K w = S.ref09_Nums a1 b2 K w := by kernel_rfl
  exact okF_mk Try.func19 rfl (fn_sound names_ok follows_ok Try.func19 rfl (by kernel_rfl) (Eq.mpr e h))

/-- (*buttress/buttressref09.Queue).Line -/
def S.ref09_Queue_Line (q1 : Option Addr) (prio2 : Int) (K : Sl → World → Prop) (w : World) : Prop :=
  Al w (.cells #[] 3) fun w3 =>
   ∀ l4 : Sl → Int → World → Prop,
   (∀ (out5 : Sl) (i6 : Int) (w7 : World), (∃ a8 : Addr, q1 = some a8 ∧
   ∃ l9 : Sl, w7.cell? a8 = some (.slice l9.a l9.len l9.cap) ∧
   bif decide (i6 < (l9.len : Int)) then
    (∃ a10 : Addr, q1 = some a10 ∧
   ∃ l11 : Sl, w7.cell? a10 = some (.slice l11.a l11.len l11.cap) ∧
   ∃ a12 : Addr, l11.a = some a12 ∧ 0 ≤ i6 ∧ i6 < (l11.len : Int) ∧
   ∃ prio13 : Int, w7.cell? (a12.add (i6.toNat * 2)) = some (.int .i64 prio13) ∧
   bif prio13 == prio2 then
    (∃ a14 : Addr, q1 = some a14 ∧
   ∃ l15 : Sl, w7.cell? a14 = some (.slice l15.a l15.len l15.cap) ∧
   ∃ a16 : Addr, l15.a = some a16 ∧ 0 ≤ i6 ∧ i6 < (l15.len : Int) ∧
   ∃ n17 : Int, w7.cell? ((a16.add (i6.toNat * 2)).add 1) = some (.int .i64 n17) ∧
   Al w7 (.cells #[.int .i64 n17] 3) fun w18 =>
   ∃ (t19 : Sl) (w20 : World), AppR Try.prog [41, 41] 41 (.slice out5.a out5.len out5.cap) (.slice (some (Addr.mk w7.heap.size 0 none)) 1 1) w18 t19 w20 ∧
   l4 t19 (IntKind.i64.wrap (i6 + (1 : Int))) w20)
   else
    (l4 out5 (IntKind.i64.wrap (i6 + (1 : Int))) w7))
   else
    (K out5 w7)) → l4 out5 i6 w7) →
   l4 ⟨some (Addr.mk w.heap.size 0 none), 0, 0⟩ (0 : Int) w3
set_option maxRecDepth 100000 in
theorem S.ref09_Queue_Line_ok (q1 : Option Addr) (prio2 : Int) (K : Sl → World → Prop) (w : World) (h : S.ref09_Queue_Line q1 prio2 K w) : C.ref09_Queue_Line q1 prio2 K w := by
  have e : fnV Try.prog Try.f60 (bodyOf Try.f60) (.t none (.u) (.t none (.u) (.t none (.t none (.u) (.t none (.t (some [(5, .c (.s)), (6, .c (.i .i64))]) (.t none (.t none (.u) (.t none (.u) (.u))) (.t none (.t none (.t none (.u) (.t none (.u) (.u))) (.u)) (.u))) (.u)) (.u))) (.t none (.u) (.u))))) [(0, .c (.s))] [.pointer q1, .int .i64 prio2] K w = S.ref09_Queue_Line q1 prio2 K w := by kernel_rfl
  exact okF_mk Try.func60 rfl (fn_sound names_ok follows_ok Try.func60 rfl (by kernel_rfl) (Eq.mpr e h))

/-- (*buttress/buttressref09.Queue).Next -/
def S.ref09_Queue_Next (q1 : Option Addr) (K : Int → Bool → World → Prop) (w : World) : Prop :=
  ∀ l2 : Int → World → Prop,
   (∀ (prio3 : Int) (w4 : World), (bif decide (prio3 ≥ (0 : Int)) then
    (C.ref09_Queue_Line q1 prio3 (fun r5 w6 =>
   bif decide ((r5.len : Int) > (0 : Int)) then
    (∃ a7 : Addr, r5.a = some a7 ∧ 0 ≤ (0 : Int) ∧ (0 : Int) < (r5.len : Int) ∧
   ∃ t8 : Int, w6.cell? (a7.add ((0 : Int).toNat * 1)) = some (.int .i64 t8) ∧
   K t8 true w6)
   else
    (l2 (IntKind.i64.wrap (prio3 - (1 : Int))) w6)) w4)
   else
    (K (0 : Int) false w4)) → l2 prio3 w4) →
   l2 (255 : Int) w
set_option maxRecDepth 100000 in
theorem S.ref09_Queue_Next_ok (q1 : Option Addr) (K : Int → Bool → World → Prop) (w : World) (h : S.ref09_Queue_Next q1 K w) : C.ref09_Queue_Next q1 K w := by
  have e : fnV Try.prog Try.f70 (bodyOf Try.f70) (.t none (.u) (.t none (.t none (.u) (.t none (.t (some [(4, .c (.i .i64))]) (.t none (.t none (.u) (.t none (.u) (.u))) (.t none (.t none (.t none (.u) (.t none (.u) (.t none (.t none (.u) (.u)) (.u)))) (.u)) (.u))) (.u)) (.u))) (.t none (.u) (.u)))) [(0, .c (.i .i64)), (1, .c (.b))] [.pointer q1] K w = S.ref09_Queue_Next q1 K w := by kernel_rfl
  exact okF_mk Try.func70 rfl (fn_sound names_ok follows_ok Try.func70 rfl (by kernel_rfl) (Eq.mpr e h))

/-- (*buttress/buttressref09.Queue).Put -/
def S.ref09_Queue_Put (q1 : Option Addr) (prio2 : Int) (n3 : Int) (K : Int → World → Prop) (w : World) : Prop :=
  ∀ k4 : Bool → World → Prop,
   (∀ (t5 : Bool) (w6 : World), (bif t5 then
    (K (1 : Int) w6)
   else
    (C.ref09_Queue_Where q1 n3 (fun r7 r8 w9 =>
   bif r8 then
    (K (90 : Int) w9)
   else
    (∃ a10 : Addr, q1 = some a10 ∧
   ∃ l11 : Sl, w9.cell? a10 = some (.slice l11.a l11.len l11.cap) ∧
   Al w9 (.cells #[.int .i64 prio2, .int .i64 n3] 99) fun w12 =>
   ∃ (t13 : Sl) (w14 : World), AppR Try.prog [85, 85] 85 (.slice l11.a l11.len l11.cap) (.slice (some (Addr.mk w9.heap.size 0 none)) 1 1) w12 t13 w14 ∧
   ∃ a15 : Addr, q1 = some a15 ∧
   St w14 a15 (.slice t13.a t13.len t13.cap) fun w16 =>
   K (0 : Int) w16)) w6)) → k4 t5 w6) →
   (bif decide (prio2 < (0 : Int)) then
    (k4 true w)
   else
    (k4 (decide (prio2 > (255 : Int))) w))
set_option maxRecDepth 100000 in
theorem S.ref09_Queue_Put_ok (q1 : Option Addr) (prio2 : Int) (n3 : Int) (K : Int → World → Prop) (w : World) (h : S.ref09_Queue_Put q1 prio2 n3 K w) : C.ref09_Queue_Put q1 prio2 n3 K w := by
  have e : fnV Try.prog Try.f77 (bodyOf Try.f77) (.t none (.u) (.t none (.t none (.r (some [(14, .c (.b))]) .done) (.t none (.t none (.u) (.u)) (.u))) (.t none (.u) (.t none (.t none (.u) (.t none (.t none (.u) (.u)) (.u))) (.t none (.u) (.t none (.u) (.u))))))) [(0, .c (.i .i64))] [.pointer q1, .int .i64 prio2, .int .i64 n3] K w = S.ref09_Queue_Put q1 prio2 n3 K w := by kernel_rfl
  exact okF_mk Try.func77 rfl (fn_sound names_ok follows_ok Try.func77 rfl (by kernel_rfl) (Eq.mpr e h))

/-- (*buttress/buttressref09.Queue).Take -/
def S.ref09_Queue_Take (q1 : Option Addr) (n2 : Int) (K : Int → World → Prop) (w : World) : Prop :=
  Al w (.cells #[] 99) fun w3 =>
   ∀ l4 : Sl → Int → World → Prop,
   (∀ (l5 : Sl) (i6 : Int) (w7 : World), (∃ a8 : Addr, q1 = some a8 ∧
   ∃ l9 : Sl, w7.cell? a8 = some (.slice l9.a l9.len l9.cap) ∧
   bif decide (i6 < (l9.len : Int)) then
    (∃ a10 : Addr, q1 = some a10 ∧
   ∃ l11 : Sl, w7.cell? a10 = some (.slice l11.a l11.len l11.cap) ∧
   ∃ a12 : Addr, l11.a = some a12 ∧ 0 ≤ i6 ∧ i6 < (l11.len : Int) ∧
   ∃ n13 : Int, w7.cell? ((a12.add (i6.toNat * 2)).add 1) = some (.int .i64 n13) ∧
   bif n13 != n2 then
    (∃ a14 : Addr, q1 = some a14 ∧
   ∃ l15 : Sl, w7.cell? a14 = some (.slice l15.a l15.len l15.cap) ∧
   ∃ a16 : Addr, l15.a = some a16 ∧ 0 ≤ i6 ∧ i6 < (l15.len : Int) ∧
   LdL w7 (a16.add (i6.toNat * 2)) 0 [.i .i64, .i .i64] fun (t17 : Int) (t18 : Int) =>
   Al w7 (.cells #[.int .i64 t17, .int .i64 t18] 99) fun w19 =>
   ∃ (t20 : Sl) (w21 : World), AppR Try.prog [85, 85] 85 (.slice l5.a l5.len l5.cap) (.slice (some (Addr.mk w7.heap.size 0 none)) 1 1) w19 t20 w21 ∧
   l4 t20 (IntKind.i64.wrap (i6 + (1 : Int))) w21)
   else
    (l4 l5 (IntKind.i64.wrap (i6 + (1 : Int))) w7))
   else
    (∃ a22 : Addr, q1 = some a22 ∧
   ∃ l23 : Sl, w7.cell? a22 = some (.slice l23.a l23.len l23.cap) ∧
   bif (l5.len : Int) == (l23.len : Int) then
    (K (91 : Int) w7)
   else
    (∃ a24 : Addr, q1 = some a24 ∧
   St w7 a24 (.slice l5.a l5.len l5.cap) fun w25 =>
   K (0 : Int) w25))) → l4 l5 i6 w7) →
   l4 ⟨some (Addr.mk w.heap.size 0 none), 0, 0⟩ (0 : Int) w3
set_option maxRecDepth 100000 in
theorem S.ref09_Queue_Take_ok (q1 : Option Addr) (n2 : Int) (K : Int → World → Prop) (w : World) (h : S.ref09_Queue_Take q1 n2 K w) : C.ref09_Queue_Take q1 n2 K w := by
  have e : fnV Try.prog Try.f78 (bodyOf Try.f78) (.t none (.u) (.t none (.u) (.t none (.t none (.u) (.t none (.t (some [(5, .c (.s)), (6, .c (.i .i64))]) (.t none (.t none (.u) (.t none (.u) (.u))) (.t none (.t none (.t none (.u) (.t none (.u) (.u))) (.u)) (.u))) (.u)) (.u))) (.t none (.t none (.u) (.t none (.t none (.u) (.u)) (.u))) (.t none (.u) (.t none (.u) (.u))))))) [(0, .c (.i .i64))] [.pointer q1, .int .i64 n2] K w = S.ref09_Queue_Take q1 n2 K w := by kernel_rfl
  exact okF_mk Try.func78 rfl (fn_sound names_ok follows_ok Try.func78 rfl (by kernel_rfl) (Eq.mpr e h))

/-- (*buttress/buttressref09.Queue).Where -/
def S.ref09_Queue_Where (q1 : Option Addr) (n2 : Int) (K : Int → Bool → World → Prop) (w : World) : Prop :=
  ∀ l3 : Int → World → Prop,
   (∀ (i4 : Int) (w5 : World), (∃ a6 : Addr, q1 = some a6 ∧
   ∃ l7 : Sl, w5.cell? a6 = some (.slice l7.a l7.len l7.cap) ∧
   bif decide (i4 < (l7.len : Int)) then
    (∃ a8 : Addr, q1 = some a8 ∧
   ∃ l9 : Sl, w5.cell? a8 = some (.slice l9.a l9.len l9.cap) ∧
   ∃ a10 : Addr, l9.a = some a10 ∧ 0 ≤ i4 ∧ i4 < (l9.len : Int) ∧
   ∃ n11 : Int, w5.cell? ((a10.add (i4.toNat * 2)).add 1) = some (.int .i64 n11) ∧
   bif n11 == n2 then
    (∃ a12 : Addr, q1 = some a12 ∧
   ∃ l13 : Sl, w5.cell? a12 = some (.slice l13.a l13.len l13.cap) ∧
   ∃ a14 : Addr, l13.a = some a14 ∧ 0 ≤ i4 ∧ i4 < (l13.len : Int) ∧
   ∃ prio15 : Int, w5.cell? (a14.add (i4.toNat * 2)) = some (.int .i64 prio15) ∧
   K prio15 true w5)
   else
    (l3 (IntKind.i64.wrap (i4 + (1 : Int))) w5))
   else
    (K (0 : Int) false w5)) → l3 i4 w5) →
   l3 (0 : Int) w
set_option maxRecDepth 100000 in
theorem S.ref09_Queue_Where_ok (q1 : Option Addr) (n2 : Int) (K : Int → Bool → World → Prop) (w : World) (h : S.ref09_Queue_Where q1 n2 K w) : C.ref09_Queue_Where q1 n2 K w := by
  have e : fnV Try.prog Try.f81 (bodyOf Try.f81) (.t none (.u) (.t none (.t none (.u) (.t none (.t (some [(6, .c (.i .i64))]) (.t none (.t none (.u) (.t none (.u) (.u))) (.t none (.t none (.t none (.u) (.t none (.t none (.u) (.u)) (.u))) (.u)) (.u))) (.u)) (.u))) (.t none (.u) (.u)))) [(0, .c (.i .i64)), (1, .c (.b))] [.pointer q1, .int .i64 n2] K w = S.ref09_Queue_Where q1 n2 K w := by kernel_rfl
  exact okF_mk Try.func81 rfl (fn_sound names_ok follows_ok Try.func81 rfl (by kernel_rfl) (Eq.mpr e h))
end Go.Proofs.Ytgkebkfabegflaa
