/- The functions' texts, and that a call comes to them. Printed by a program of mine (gen.py). -/
import Derived.Test.YtmfbhjfkagnahaaC
set_option linter.unusedVariables false
namespace Go.Proofs.Ytmfbhjfkagnahaa
open Go Go.Vc Go.Proofs

/-- maps.Keys[map[int]buttress/api.Page,int,buttress/api.Page] -/
def S.maps_Keys_map_int_api_Page_int_api_Page (m1 : Option Nat) (K : Value → World → Prop) (w : World) : Prop :=
  Al w (.cells #[.map m1] 94) fun w2 =>
   K (.func (.func 90) #[] #[.pointer (some (Addr.mk w.heap.size 0 none))]) w2
set_option maxRecDepth 100000 in
theorem S.maps_Keys_map_int_api_Page_int_api_Page_ok (m1 : Option Nat) (K : Value → World → Prop) (w : World) (h : S.maps_Keys_map_int_api_Page_int_api_Page m1 K w) : C.maps_Keys_map_int_api_Page_int_api_Page m1 K w := by
  have e : fnV Try.prog Try.f84 (bodyOf Try.f84) (.t none (.u) (.t none (.u) (.u))) [(0, .c (.v))] [.map m1] K w = S.maps_Keys_map_int_api_Page_int_api_Page m1 K w := by kernel_rfl
  exact okF_mk Try.func84 rfl (fn_sound names_ok follows_ok Try.func84 rfl (by kernel_rfl) (Eq.mpr e h))

/-- maps.Keys[map[int]buttress/api.Page,int,buttress/api.Page]$1 -/
def S.maps_Keys_map_int_api_Page_int_api_Page__1 (yield1 : Value) (t2 : Addr) (K : World → Prop) (w : World) : Prop :=
  ∃ t3 : Option Nat, w.cell? t2 = some (.map t3) ∧
   ∃ (it4 : Addr) (w5 : World), RangeR Try.prog 94 (.map t3) w it4 w5 ∧
   ∀ l6 : World → Prop,
   (∀ (w7 : World), (∃ (more8 : Bool) (l9 : List Value) (w10 : World), NextR Try.prog (.pointer (some it4)) false 0 w7 more8 l9 w10 ∧
   bif more8 then
    (∃ key11 : Int, ∃ val12 : Value, EntryR Try.prog (.pointer (some it4)) (.int .i64 key11) (val12) w10 ∧
   CallV Try.prog (yield1) [.int .i64 key11] w10 fun enw14 w14 => ∃ r13 : Bool, enw14 = .returned (.bool r13) ∧
   bif !r13 then
    (K w14)
   else
    (l6 w14))
   else
    (K w10)) → l6 w7) →
   l6 w5
set_option maxRecDepth 100000 in
theorem S.maps_Keys_map_int_api_Page_int_api_Page__1_ok (yield1 : Value) (t2 : Addr) (K : World → Prop) (w : World) (h : S.maps_Keys_map_int_api_Page_int_api_Page__1 yield1 t2 K w) : C.maps_Keys_map_int_api_Page_int_api_Page__1 yield1 t2 K w := by
  have e : fnV Try.prog Try.f90 (bodyOf Try.f90) (.t none (.u) (.t none (.t (some []) (.t none (.u) (.t none (.t none (.u) (.u)) (.t none (.t none (.u) (.t none (.u) (.t none (.u) (.u)))) (.u)))) (.u)) (.u))) [] [yield1, .pointer (some t2)] K w = S.maps_Keys_map_int_api_Page_int_api_Page__1 yield1 t2 K w := by kernel_rfl
  exact okF_mk Try.func90 rfl (fn_sound names_ok follows_ok Try.func90 rfl (by kernel_rfl) (Eq.mpr e h))

/-- math/bits.Len -/
def S.math_bits_Len (x1 : Int) (K : Int → World → Prop) (w : World) : Prop :=
  C.math_bits_Len64 x1 (fun r2 w3 =>
   K r2 w3) w
set_option maxRecDepth 100000 in
theorem S.math_bits_Len_ok (x1 : Int) (K : Int → World → Prop) (w : World) (h : S.math_bits_Len x1 K w) : C.math_bits_Len x1 K w := by
  have e : fnV Try.prog Try.f96 (bodyOf Try.f96) (.t none (.u) (.t none (.t none (.t none (.u) (.u)) (.u)) (.t none (.u) (.u)))) [(0, .c (.i .i64))] [.int .u64 x1] K w = S.math_bits_Len x1 K w := by kernel_rfl
  exact okF_mk Try.func96 rfl (fn_sound names_ok follows_ok Try.func96 rfl (by kernel_rfl) (Eq.mpr e h))

/-- math/bits.Len32 -/
def S.math_bits_Len32 (x1 : Int) (K : Int → World → Prop) (w : World) : Prop :=
  ∀ k2 : Int → Int → World → Prop,
   (∀ (x3 : Int) (n4 : Int) (w5 : World), (∀ k6 : Int → Int → World → Prop,
   (∀ (x7 : Int) (n8 : Int) (w9 : World), (∃ b10 : Int, StrAt ⟨#[0, 1, 2, 2, 3, 3, 3, 3, 4, 4, 4, 4, 4, 4, 4, 4, 5, 5, 5, 5, 5, 5, 5, 5, 5, 5, 5, 5, 5, 5, 5, 5, 6, 6, 6, 6, 6, 6, 6, 6, 6, 6, 6, 6, 6, 6, 6, 6, 6, 6, 6, 6, 6, 6, 6, 6, 6, 6, 6, 6, 6, 6, 6, 6, 7, 7, 7, 7, 7, 7, 7, 7, 7, 7, 7, 7, 7, 7, 7, 7, 7, 7, 7, 7, 7, 7, 7, 7, 7, 7, 7, 7, 7, 7, 7, 7, 7, 7, 7, 7, 7, 7, 7, 7, 7, 7, 7, 7, 7, 7, 7, 7, 7, 7, 7, 7, 7, 7, 7, 7, 7, 7, 7, 7, 7, 7, 7, 7, 8, 8, 8, 8, 8, 8, 8, 8, 8, 8, 8, 8, 8, 8, 8, 8, 8, 8, 8, 8, 8, 8, 8, 8, 8, 8, 8, 8, 8, 8, 8, 8, 8, 8, 8, 8, 8, 8, 8, 8, 8, 8, 8, 8, 8, 8, 8, 8, 8, 8, 8, 8, 8, 8, 8, 8, 8, 8, 8, 8, 8, 8, 8, 8, 8, 8, 8, 8, 8, 8, 8, 8, 8, 8, 8, 8, 8, 8, 8, 8, 8, 8, 8, 8, 8, 8, 8, 8, 8, 8, 8, 8, 8, 8, 8, 8, 8, 8, 8, 8, 8, 8, 8, 8, 8, 8, 8, 8, 8, 8, 8, 8, 8, 8, 8, 8, 8, 8, 8, 8, 8, 8, 8, 8, 8, 8, 8, 8]⟩ (IntKind.u8.wrap x7) b10 ∧
   K (IntKind.i64.wrap (n8 + (IntKind.i64.wrap b10))) w9) → k6 x7 n8 w9) →
   (bif decide (x3 ≥ (256 : Int)) then
    (0 ≤ (8 : Int) ∧
   k6 (shrI .u32 x3 (8 : Int)) (IntKind.i64.wrap (n4 + (8 : Int))) w5)
   else
    (k6 x3 n4 w5))) → k2 x3 n4 w5) →
   (bif decide (x1 ≥ (65536 : Int)) then
    (0 ≤ (16 : Int) ∧
   k2 (shrI .u32 x1 (16 : Int)) (16 : Int) w)
   else
    (k2 x1 (0 : Int) w))
set_option maxRecDepth 100000 in
theorem S.math_bits_Len32_ok (x1 : Int) (K : Int → World → Prop) (w : World) (h : S.math_bits_Len32 x1 K w) : C.math_bits_Len32 x1 K w := by
  have e : fnV Try.prog Try.f106 (bodyOf Try.f106) (.t none (.u) (.t none (.t none (.u) (.t (some [(0, .c (.i .u32)), (2, .c (.i .i64))]) (.t none (.u) (.u)) (.u))) (.t none (.t none (.u) (.t (some [(0, .c (.i .u32)), (2, .c (.i .i64))]) (.t none (.u) (.u)) (.u))) (.t none (.u) (.u))))) [(0, .c (.i .i64))] [.int .u32 x1] K w = S.math_bits_Len32 x1 K w := by kernel_rfl
  exact okF_mk Try.func106 rfl (fn_sound names_ok follows_ok Try.func106 rfl (by kernel_rfl) (Eq.mpr e h))

/-- math/bits.Len64 -/
def S.math_bits_Len64 (x1 : Int) (K : Int → World → Prop) (w : World) : Prop :=
  ∀ k2 : Int → Int → World → Prop,
   (∀ (x3 : Int) (n4 : Int) (w5 : World), (∀ k6 : Int → Int → World → Prop,
   (∀ (x7 : Int) (n8 : Int) (w9 : World), (∀ k10 : Int → Int → World → Prop,
   (∀ (x11 : Int) (n12 : Int) (w13 : World), (∃ b14 : Int, StrAt ⟨#[0, 1, 2, 2, 3, 3, 3, 3, 4, 4, 4, 4, 4, 4, 4, 4, 5, 5, 5, 5, 5, 5, 5, 5, 5, 5, 5, 5, 5, 5, 5, 5, 6, 6, 6, 6, 6, 6, 6, 6, 6, 6, 6, 6, 6, 6, 6, 6, 6, 6, 6, 6, 6, 6, 6, 6, 6, 6, 6, 6, 6, 6, 6, 6, 7, 7, 7, 7, 7, 7, 7, 7, 7, 7, 7, 7, 7, 7, 7, 7, 7, 7, 7, 7, 7, 7, 7, 7, 7, 7, 7, 7, 7, 7, 7, 7, 7, 7, 7, 7, 7, 7, 7, 7, 7, 7, 7, 7, 7, 7, 7, 7, 7, 7, 7, 7, 7, 7, 7, 7, 7, 7, 7, 7, 7, 7, 7, 7, 8, 8, 8, 8, 8, 8, 8, 8, 8, 8, 8, 8, 8, 8, 8, 8, 8, 8, 8, 8, 8, 8, 8, 8, 8, 8, 8, 8, 8, 8, 8, 8, 8, 8, 8, 8, 8, 8, 8, 8, 8, 8, 8, 8, 8, 8, 8, 8, 8, 8, 8, 8, 8, 8, 8, 8, 8, 8, 8, 8, 8, 8, 8, 8, 8, 8, 8, 8, 8, 8, 8, 8, 8, 8, 8, 8, 8, 8, 8, 8, 8, 8, 8, 8, 8, 8, 8, 8, 8, 8, 8, 8, 8, 8, 8, 8, 8, 8, 8, 8, 8, 8, 8, 8, 8, 8, 8, 8, 8, 8, 8, 8, 8, 8, 8, 8, 8, 8, 8, 8, 8, 8, 8, 8, 8, 8, 8, 8]⟩ (IntKind.u8.wrap x11) b14 ∧
   K (IntKind.i64.wrap (n12 + (IntKind.i64.wrap b14))) w13) → k10 x11 n12 w13) →
   (bif decide (x7 ≥ (256 : Int)) then
    (0 ≤ (8 : Int) ∧
   k10 (shrI .u64 x7 (8 : Int)) (IntKind.i64.wrap (n8 + (8 : Int))) w9)
   else
    (k10 x7 n8 w9))) → k6 x7 n8 w9) →
   (bif decide (x3 ≥ (65536 : Int)) then
    (0 ≤ (16 : Int) ∧
   k6 (shrI .u64 x3 (16 : Int)) (IntKind.i64.wrap (n4 + (16 : Int))) w5)
   else
    (k6 x3 n4 w5))) → k2 x3 n4 w5) →
   (bif decide (x1 ≥ (4294967296 : Int)) then
    (0 ≤ (32 : Int) ∧
   k2 (shrI .u64 x1 (32 : Int)) (32 : Int) w)
   else
    (k2 x1 (0 : Int) w))
set_option maxRecDepth 100000 in
theorem S.math_bits_Len64_ok (x1 : Int) (K : Int → World → Prop) (w : World) (h : S.math_bits_Len64 x1 K w) : C.math_bits_Len64 x1 K w := by
  have e : fnV Try.prog Try.f107 (bodyOf Try.f107) (.t none (.u) (.t none (.t none (.u) (.t (some [(0, .c (.i .u64)), (2, .c (.i .i64))]) (.t none (.u) (.u)) (.u))) (.t none (.t none (.u) (.t (some [(0, .c (.i .u64)), (2, .c (.i .i64))]) (.t none (.u) (.u)) (.u))) (.t none (.t none (.u) (.t (some [(0, .c (.i .u64)), (2, .c (.i .i64))]) (.t none (.u) (.u)) (.u))) (.t none (.u) (.u)))))) [(0, .c (.i .i64))] [.int .u64 x1] K w = S.math_bits_Len64 x1 K w := by kernel_rfl
  exact okF_mk Try.func107 rfl (fn_sound names_ok follows_ok Try.func107 rfl (by kernel_rfl) (Eq.mpr e h))

/-- buttress/buttressref07.Same -/
def S.ref07_Same (a1 : Sl) (b2 : Sl) (K : Bool → World → Prop) (w : World) : Prop :=
  bif (a1.len : Int) != (b2.len : Int) then
    (K false w)
   else
    (∀ l3 : Int → World → Prop,
   (∀ (i4 : Int) (w5 : World), (bif decide (i4 < (a1.len : Int)) then
    (Dr w5 fun w6 =>
   ∃ a7 : Addr, a1.a = some a7 ∧ 0 ≤ i4 ∧ i4 < (a1.len : Int) ∧
   LdL w6 (a7.add (i4.toNat * 2)) 0 [.i .i64, .i .i64] fun (t8 : Int) (t9 : Int) =>
   ∃ a10 : Addr, b2.a = some a10 ∧ 0 ≤ i4 ∧ i4 < (b2.len : Int) ∧
   LdL w6 (a10.add (i4.toNat * 2)) 0 [.i .i64, .i .i64] fun (t11 : Int) (t12 : Int) =>
   ∃ eq13 : Bool, EqB Try.prog .neq 29 (.tmp 20) (.tmp 24) (.agg #[.int .i64 t8, .int .i64 t9]) (.agg #[.int .i64 t11, .int .i64 t12]) eq13 ∧
   bif eq13 then
    (K false w6)
   else
    (l3 (IntKind.i64.wrap (i4 + (1 : Int))) w6))
   else
    (K true w5)) → l3 i4 w5) →
   l3 (0 : Int) w)
set_option maxRecDepth 100000 in
theorem S.ref07_Same_ok (a1 : Sl) (b2 : Sl) (K : Bool → World → Prop) (w : World) (h : S.ref07_Same a1 b2 K w) : C.ref07_Same a1 b2 K w := by
  have e : fnV Try.prog Try.f24 (bodyOf Try.f24) (.t none (.u) (.t none (.t none (.u) (.t none (.t none (.u) (.u)) (.u))) (.t none (.t none (.u) (.t none (.t (some [(5, .c (.i .i64))]) (.t none (.t none (.u) (.t none (.u) (.u))) (.t none (.t none (.t none (.r none (.one 0 242 (.one 1 240 (.one 2 240 (.one 3 240 (.one 4 32 (.one 5 0 (.one 6 0 (.one 7 0 (.one 8 0 (.done))))))))))) (.t none (.t none (.u) (.u)) (.u))) (.u)) (.u))) (.u)) (.u))) (.t none (.u) (.u))))) [(0, .c (.b))] [.slice a1.a a1.len a1.cap, .slice b2.a b2.len b2.cap] K w = S.ref07_Same a1 b2 K w := by kernel_rfl
  exact okF_mk Try.func24 rfl (fn_sound names_ok follows_ok Try.func24 rfl (by kernel_rfl) (Eq.mpr e h))

/-- (*buttress/buttressref07.Tree).Parent -/
def S.ref07_Tree_Parent (t1 : Option Addr) (s2 : Int) (s3 : Int) (K : Int → Int → Bool → World → Prop) (w : World) : Prop :=
  Al w (.cells #[.int .i64 s2, .int .i64 s3] 29) fun w4 =>
   Al w4 (.cells #[.int .i64 (0 : Int), .int .i64 (0 : Int)] 29) fun w5 =>
   LdL w5 (Addr.mk w.heap.size 0 none) 0 [.i .i64, .i .i64] fun (t6 : Int) (t7 : Int) =>
   C.ref07_Tree_place t1 t6 t7 (fun r8 w9 =>
   ∀ l10 : Int → Int → World → Prop,
   (∀ (best11 : Int) (k12 : Int) (w13 : World), (bif decide (k12 < r8) then
    (Dr w13 fun w14 =>
   ∃ a15 : Addr, t1 = some a15 ∧
   ∃ d16 : Sl, w14.cell? (a15.add 1) = some (.slice d16.a d16.len d16.cap) ∧
   ∃ a17 : Addr, d16.a = some a17 ∧ 0 ≤ k12 ∧ k12 < (d16.len : Int) ∧
   ∃ t18 : Int, w14.cell? (a17.add (k12.toNat * 1)) = some (.int .i64 t18) ∧
   ∃ a19 : Addr, t1 = some a19 ∧
   ∃ d20 : Sl, w14.cell? (a19.add 1) = some (.slice d20.a d20.len d20.cap) ∧
   ∃ a21 : Addr, d20.a = some a21 ∧ 0 ≤ r8 ∧ r8 < (d20.len : Int) ∧
   ∃ t22 : Int, w14.cell? (a21.add (r8.toNat * 1)) = some (.int .i64 t22) ∧
   bif t18 == (IntKind.i64.wrap (t22 - (1 : Int))) then
    (l10 k12 (IntKind.i64.wrap (k12 + (1 : Int))) w14)
   else
    (l10 best11 (IntKind.i64.wrap (k12 + (1 : Int))) w14))
   else
    (bif decide (best11 < (0 : Int)) then
    (StL w13 (Addr.mk w4.heap.size 0 none) 0 [.int .i64 (0 : Int), .int .i64 (0 : Int)] fun w23 =>
   LdL w23 (Addr.mk w4.heap.size 0 none) 0 [.i .i64, .i .i64] fun (r24 : Int) (r25 : Int) =>
   K r24 r25 false w23)
   else
    (∃ a26 : Addr, t1 = some a26 ∧
   ∃ s27 : Sl, w13.cell? a26 = some (.slice s27.a s27.len s27.cap) ∧
   ∃ a28 : Addr, s27.a = some a28 ∧ 0 ≤ best11 ∧ best11 < (s27.len : Int) ∧
   LdL w13 (a28.add (best11.toNat * 2)) 0 [.i .i64, .i .i64] fun (t29 : Int) (t30 : Int) =>
   StL w13 (Addr.mk w4.heap.size 0 none) 0 [.int .i64 t29, .int .i64 t30] fun w31 =>
   LdL w31 (Addr.mk w4.heap.size 0 none) 0 [.i .i64, .i .i64] fun (r32 : Int) (r33 : Int) =>
   K r32 r33 true w31))) → l10 best11 k12 w13) →
   l10 (-1 : Int) (0 : Int) w9) w5
set_option maxRecDepth 100000 in
theorem S.ref07_Tree_Parent_ok (t1 : Option Addr) (s2 : Int) (s3 : Int) (K : Int → Int → Bool → World → Prop) (w : World) (h : S.ref07_Tree_Parent t1 s2 s3 K w) : C.ref07_Tree_Parent t1 s2 s3 K w := by
  have e : fnV Try.prog Try.f31 (bodyOf Try.f31) (.t none (.u) (.t none (.u) (.t none (.t none (.u) (.t none (.t (some [(7, .c (.i .i64)), (8, .c (.i .i64))]) (.t none (.t none (.u) (.t none (.u) (.u))) (.t none (.t none (.t none (.r none (.one 0 32656 (.one 1 32656 (.one 2 32656 (.one 3 32656 (.one 4 32640 (.one 5 32640 (.one 6 32640 (.one 7 2048 (.one 8 2048 (.one 9 2048 (.one 10 2048 (.one 11 0 (.one 12 0 (.one 13 0 (.one 14 0 (.one 15 0 (.done)))))))))))))))))) (.t none (.u) (.u))) (.u)) (.u))) (.u)) (.u))) (.t none (.t none (.u) (.t none (.t none (.u) (.u)) (.u))) (.t none (.u) (.u)))))) [(0, .a [.i .i64, .i .i64]), (1, .c (.b))] [.pointer t1, .agg #[.int .i64 s2, .int .i64 s3]] K w = S.ref07_Tree_Parent t1 s2 s3 K w := by kernel_rfl
  exact okF_mk Try.func31 rfl (fn_sound names_ok follows_ok Try.func31 rfl (by kernel_rfl) (Eq.mpr e h))

/-- (*buttress/buttressref07.Tree).Under -/
def S.ref07_Tree_Under (t1 : Option Addr) (s2 : Int) (s3 : Int) (K : Sl → World → Prop) (w : World) : Prop :=
  Al w (.cells #[.int .i64 s2, .int .i64 s3] 29) fun w4 =>
   LdL w4 (Addr.mk w.heap.size 0 none) 0 [.i .i64, .i .i64] fun (t5 : Int) (t6 : Int) =>
   C.ref07_Tree_place t1 t5 t6 (fun r7 w8 =>
   bif decide (r7 < (0 : Int)) then
    (K ⟨none, 0, 0⟩ w8)
   else
    (Dr w8 fun w9 =>
   ∃ a10 : Addr, t1 = some a10 ∧
   ∃ s11 : Sl, w9.cell? a10 = some (.slice s11.a s11.len s11.cap) ∧
   (Al w9 (.cells #[] 29) fun w12 =>
   (C.ref07_Tree_end t1 r7 (fun r13 w14 =>
   w14.cell? a10 = some (.slice s11.a s11.len s11.cap) ∧
   0 ≤ r13 ∧ r13 ≤ (s11.cap : Int) ∧
   0 ≤ IntKind.i64.wrap (r7 + (1 : Int)) ∧ IntKind.i64.wrap (r7 + (1 : Int)) ≤ (r13.toNat : Int) ∧
   (∃ (t15 : Sl) (w16 : World), AppR Try.prog [25, 25] 25 (.slice (some (Addr.mk w9.heap.size 0 none)) 0 0) (.slice (slA s11.a ((IntKind.i64.wrap (r7 + (1 : Int))).toNat) s11.cap 2) (r13.toNat - ((IntKind.i64.wrap (r7 + (1 : Int))).toNat)) (s11.cap - ((IntKind.i64.wrap (r7 + (1 : Int))).toNat))) w14 t15 w16 ∧
   K t15 w16) ∧
   True) w12) ∧
   True) ∧
   (C.ref07_Tree_end t1 r7 (fun r17 w18 =>
   w18.cell? a10 = some (.slice s11.a s11.len s11.cap) ∧
   0 ≤ r17 ∧ r17 ≤ (s11.cap : Int) ∧
   0 ≤ IntKind.i64.wrap (r7 + (1 : Int)) ∧ IntKind.i64.wrap (r7 + (1 : Int)) ≤ (r17.toNat : Int) ∧
   (Al w18 (.cells #[] 29) fun w19 =>
   (∃ (t20 : Sl) (w21 : World), AppR Try.prog [25, 25] 25 (.slice (some (Addr.mk w18.heap.size 0 none)) 0 0) (.slice (slA s11.a ((IntKind.i64.wrap (r7 + (1 : Int))).toNat) s11.cap 2) (r17.toNat - ((IntKind.i64.wrap (r7 + (1 : Int))).toNat)) (s11.cap - ((IntKind.i64.wrap (r7 + (1 : Int))).toNat))) w19 t20 w21 ∧
   K t20 w21) ∧
   True) ∧
   True) w9) ∧
   True)) w4
set_option maxRecDepth 100000 in
theorem S.ref07_Tree_Under_ok (t1 : Option Addr) (s2 : Int) (s3 : Int) (K : Sl → World → Prop) (w : World) (h : S.ref07_Tree_Under t1 s2 s3 K w) : C.ref07_Tree_Under t1 s2 s3 K w := by
  have e : fnV Try.prog Try.f32 (bodyOf Try.f32) (.t none (.u) (.t none (.u) (.t none (.t none (.u) (.t none (.t none (.u) (.u)) (.u))) (.t none (.r none (.one 1 993 (.one 2 993 (.one 3 993 (.one 5 913 (.one 6 913 (.one 7 273 (.one 8 17 (.hold 4 513 6143 (.alt 0 (.alt 9 (.one 10 0 (.alt 11 (.one 12 0 (.done)) (.none))) (.none)) (.alt 9 (.one 10 1 (.alt 0 (.alt 11 (.one 12 0 (.done)) (.none)) (.none))) (.none)))))))))))) (.u))))) [(0, .c (.s))] [.pointer t1, .agg #[.int .i64 s2, .int .i64 s3]] K w = S.ref07_Tree_Under t1 s2 s3 K w := by kernel_rfl
  exact okF_mk Try.func32 rfl (fn_sound names_ok follows_ok Try.func32 rfl (by kernel_rfl) (Eq.mpr e h))

/-- (*buttress/buttressref07.Tree).Root -/
def S.ref07_Tree_Root (t1 : Option Addr) (s2 : Int) (s3 : Int) (K : Int → World → Prop) (w : World) : Prop :=
  Al w (.cells #[.int .i64 s2, .int .i64 s3] 29) fun w4 =>
   LdL w4 (Addr.mk w.heap.size 0 none) 0 [.i .i64, .i .i64] fun (t5 : Int) (t6 : Int) =>
   C.ref07_Tree_place t1 t5 t6 (fun r7 w8 =>
   bif decide (r7 ≥ (0 : Int)) then
    (K (70 : Int) w8)
   else
    (Dr w8 fun w9 =>
   ∃ a10 : Addr, t1 = some a10 ∧
   ∃ s11 : Sl, w9.cell? a10 = some (.slice s11.a s11.len s11.cap) ∧
   LdL w9 (Addr.mk w.heap.size 0 none) 0 [.i .i64, .i .i64] fun (t12 : Int) (t13 : Int) =>
   (C.ref07_Tree_put t1 (s11.len : Int) t12 t13 (0 : Int) (fun w14 =>
   K (0 : Int) w14) w9) ∧
   True)) w4
set_option maxRecDepth 100000 in
theorem S.ref07_Tree_Root_ok (t1 : Option Addr) (s2 : Int) (s3 : Int) (K : Int → World → Prop) (w : World) (h : S.ref07_Tree_Root t1 s2 s3 K w) : C.ref07_Tree_Root t1 s2 s3 K w := by
  have e : fnV Try.prog Try.f62 (bodyOf Try.f62) (.t none (.u) (.t none (.t none (.u) (.t none (.t none (.u) (.u)) (.u))) (.t none (.r none (.one 0 126 (.one 1 64 (.one 2 64 (.one 3 64 (.one 4 64 (.one 5 64 (.one 6 0 (.alt 7 (.done) (.none)))))))))) (.t none (.u) (.u))))) [(0, .c (.i .i64))] [.pointer t1, .agg #[.int .i64 s2, .int .i64 s3]] K w = S.ref07_Tree_Root t1 s2 s3 K w := by kernel_rfl
  exact okF_mk Try.func62 rfl (fn_sound names_ok follows_ok Try.func62 rfl (by kernel_rfl) (Eq.mpr e h))

/-- (*buttress/buttressref07.Tree).Add -/
def S.ref07_Tree_Add (t1 : Option Addr) (parent2 : Int) (parent3 : Int) (s4 : Int) (s5 : Int) (K : Int → World → Prop) (w : World) : Prop :=
  Al w (.cells #[.int .i64 parent2, .int .i64 parent3] 29) fun w6 =>
   Al w6 (.cells #[.int .i64 s4, .int .i64 s5] 29) fun w7 =>
   LdL w7 (Addr.mk w.heap.size 0 none) 0 [.i .i64, .i .i64] fun (t8 : Int) (t9 : Int) =>
   C.ref07_Tree_place t1 t8 t9 (fun r10 w11 =>
   bif decide (r10 < (0 : Int)) then
    (K (71 : Int) w11)
   else
    (LdL w11 (Addr.mk w6.heap.size 0 none) 0 [.i .i64, .i .i64] fun (t12 : Int) (t13 : Int) =>
   C.ref07_Tree_place t1 t12 t13 (fun r14 w15 =>
   bif decide (r14 ≥ (0 : Int)) then
    (K (70 : Int) w15)
   else
    (Dr w15 fun w16 =>
   LdL w16 (Addr.mk w6.heap.size 0 none) 0 [.i .i64, .i .i64] fun (t17 : Int) (t18 : Int) =>
   ∃ a19 : Addr, t1 = some a19 ∧
   ∃ d20 : Sl, w16.cell? (a19.add 1) = some (.slice d20.a d20.len d20.cap) ∧
   ∃ a21 : Addr, d20.a = some a21 ∧ 0 ≤ r10 ∧ r10 < (d20.len : Int) ∧
   ∃ t22 : Int, w16.cell? (a21.add (r10.toNat * 1)) = some (.int .i64 t22) ∧
   (C.ref07_Tree_put t1 (IntKind.i64.wrap (r10 + (1 : Int))) t17 t18 (IntKind.i64.wrap (t22 + (1 : Int))) (fun w23 =>
   K (0 : Int) w23) w16) ∧
   True)) w11)) w7
set_option maxRecDepth 100000 in
theorem S.ref07_Tree_Add_ok (t1 : Option Addr) (parent2 : Int) (parent3 : Int) (s4 : Int) (s5 : Int) (K : Int → World → Prop) (w : World) (h : S.ref07_Tree_Add t1 parent2 parent3 s4 s5 K w) : C.ref07_Tree_Add t1 parent2 parent3 s4 s5 K w := by
  have e : fnV Try.prog Try.f63 (bodyOf Try.f63) (.t none (.u) (.t none (.u) (.t none (.t none (.u) (.t none (.t none (.u) (.u)) (.u))) (.t none (.t none (.u) (.t none (.t none (.u) (.u)) (.u))) (.t none (.r none (.one 0 4094 (.one 1 4088 (.one 2 4088 (.one 3 4080 (.one 4 256 (.one 5 256 (.one 6 256 (.one 7 256 (.one 8 0 (.one 9 0 (.one 10 0 (.one 11 0 (.alt 12 (.done) (.none))))))))))))))) (.t none (.u) (.u))))))) [(0, .c (.i .i64))] [.pointer t1, .agg #[.int .i64 parent2, .int .i64 parent3], .agg #[.int .i64 s4, .int .i64 s5]] K w = S.ref07_Tree_Add t1 parent2 parent3 s4 s5 K w := by kernel_rfl
  exact okF_mk Try.func63 rfl (fn_sound names_ok follows_ok Try.func63 rfl (by kernel_rfl) (Eq.mpr e h))

/-- (*buttress/buttressref07.Tree).Take -/
def S.ref07_Tree_Take (t1 : Option Addr) (s2 : Int) (s3 : Int) (K : Int → World → Prop) (w : World) : Prop :=
  Al w (.cells #[.int .i64 s2, .int .i64 s3] 29) fun w4 =>
   LdL w4 (Addr.mk w.heap.size 0 none) 0 [.i .i64, .i .i64] fun (t5 : Int) (t6 : Int) =>
   C.ref07_Tree_place t1 t5 t6 (fun r7 w8 =>
   bif decide (r7 < (0 : Int)) then
    (K (71 : Int) w8)
   else
    (C.ref07_Tree_end t1 r7 (fun r9 w10 =>
   Al w10 (.cells #[] 29) fun w11 =>
   Al w11 (.cells #[] 3) fun w12 =>
   ∀ l13 : Sl → Sl → Int → World → Prop,
   (∀ (l14 : Sl) (d15 : Sl) (k16 : Int) (w17 : World), (∃ a18 : Addr, t1 = some a18 ∧
   ∃ s19 : Sl, w17.cell? a18 = some (.slice s19.a s19.len s19.cap) ∧
   bif decide (k16 < (s19.len : Int)) then
    (bif k16 == r7 then
    (l13 l14 d15 (IntKind.i64.wrap (k16 + (1 : Int))) w17)
   else
    (∃ a20 : Addr, t1 = some a20 ∧
   ∃ d21 : Sl, w17.cell? (a20.add 1) = some (.slice d21.a d21.len d21.cap) ∧
   ∃ a22 : Addr, d21.a = some a22 ∧ 0 ≤ k16 ∧ k16 < (d21.len : Int) ∧
   ∃ t23 : Int, w17.cell? (a22.add (k16.toNat * 1)) = some (.int .i64 t23) ∧
   ∀ k24 : Bool → World → Prop,
   (∀ (t25 : Bool) (w26 : World), (∀ k27 : Int → World → Prop,
   (∀ (depth28 : Int) (w29 : World), (∃ a30 : Addr, t1 = some a30 ∧
   ∃ s31 : Sl, w29.cell? a30 = some (.slice s31.a s31.len s31.cap) ∧
   ∃ a32 : Addr, s31.a = some a32 ∧ 0 ≤ k16 ∧ k16 < (s31.len : Int) ∧
   LdL w29 (a32.add (k16.toNat * 2)) 0 [.i .i64, .i .i64] fun (t33 : Int) (t34 : Int) =>
   Al w29 (.cells #[.int .i64 t33, .int .i64 t34] 29) fun w35 =>
   ∃ (t36 : Sl) (w37 : World), AppR Try.prog [25, 25] 25 (.slice l14.a l14.len l14.cap) (.slice (some (Addr.mk w29.heap.size 0 none)) 1 1) w35 t36 w37 ∧
   Al w37 (.cells #[.int .i64 depth28] 3) fun w38 =>
   ∃ (t39 : Sl) (w40 : World), AppR Try.prog [43, 43] 43 (.slice d15.a d15.len d15.cap) (.slice (some (Addr.mk w37.heap.size 0 none)) 1 1) w38 t39 w40 ∧
   l13 t36 t39 (IntKind.i64.wrap (k16 + (1 : Int))) w40) → k27 depth28 w29) →
   (bif t25 then
    (k27 (IntKind.i64.wrap (t23 - (1 : Int))) w26)
   else
    (k27 t23 w26))) → k24 t25 w26) →
   (bif decide (k16 > r7) then
    (k24 (decide (k16 < r9)) w17)
   else
    (k24 false w17))))
   else
    (∃ a41 : Addr, t1 = some a41 ∧
   St w17 a41 (.slice l14.a l14.len l14.cap) fun w42 =>
   ∃ a43 : Addr, t1 = some a43 ∧
   St w42 (a43.add 1) (.slice d15.a d15.len d15.cap) fun w44 =>
   K (0 : Int) w44)) → l13 l14 d15 k16 w17) →
   l13 ⟨some (Addr.mk w10.heap.size 0 none), 0, 0⟩ ⟨some (Addr.mk w11.heap.size 0 none), 0, 0⟩ (0 : Int) w12) w8)) w4
set_option maxRecDepth 100000 in
theorem S.ref07_Tree_Take_ok (t1 : Option Addr) (s2 : Int) (s3 : Int) (K : Int → World → Prop) (w : World) (h : S.ref07_Tree_Take t1 s2 s3 K w) : C.ref07_Tree_Take t1 s2 s3 K w := by
  have e : fnV Try.prog Try.f64 (bodyOf Try.f64) (.t none (.u) (.t none (.u) (.t none (.t none (.u) (.t none (.t none (.u) (.u)) (.u))) (.t none (.u) (.t none (.t none (.u) (.t none (.t (some [(7, .c (.s)), (8, .c (.s)), (9, .c (.i .i64))]) (.t none (.t none (.u) (.t none (.u) (.u))) (.t none (.t none (.t none (.t none (.u) (.t none (.u) (.u))) (.t none (.u) (.t none (.t none (.r (some [(47, .c (.b))]) .done) (.t (some [(10, .c (.i .i64))]) (.u) (.u))) (.t none (.u) (.u))))) (.u)) (.u))) (.u)) (.u))) (.t none (.u) (.t none (.u) (.t none (.u) (.u))))))))) [(0, .c (.i .i64))] [.pointer t1, .agg #[.int .i64 s2, .int .i64 s3]] K w = S.ref07_Tree_Take t1 s2 s3 K w := by kernel_rfl
  exact okF_mk Try.func64 rfl (fn_sound names_ok follows_ok Try.func64 rfl (by kernel_rfl) (Eq.mpr e h))

/-- (*buttress/buttressref07.Tree).Move -/
def S.ref07_Tree_Move (t1 : Option Addr) (from2 : Int) (from3 : Int) (to4 : Int) (to5 : Int) (K : Int → World → Prop) (w : World) : Prop :=
  Al w (.cells #[.int .i64 from2, .int .i64 from3] 29) fun w6 =>
   Al w6 (.cells #[.int .i64 to4, .int .i64 to5] 29) fun w7 =>
   LdL w7 (Addr.mk w.heap.size 0 none) 0 [.i .i64, .i .i64] fun (t8 : Int) (t9 : Int) =>
   C.ref07_Tree_place t1 t8 t9 (fun r10 w11 =>
   bif decide (r10 < (0 : Int)) then
    (K (71 : Int) w11)
   else
    (LdL w11 (Addr.mk w6.heap.size 0 none) 0 [.i .i64, .i .i64] fun (t12 : Int) (t13 : Int) =>
   C.ref07_Tree_place t1 t12 t13 (fun r14 w15 =>
   bif decide (r14 ≥ (0 : Int)) then
    (K (70 : Int) w15)
   else
    (Dr w15 fun w16 =>
   ∃ a17 : Addr, t1 = some a17 ∧
   ∃ s18 : Sl, w16.cell? a17 = some (.slice s18.a s18.len s18.cap) ∧
   LdL w16 (Addr.mk w6.heap.size 0 none) 0 [.i .i64, .i .i64] fun (t19 : Int) (t20 : Int) =>
   ∃ a21 : Addr, s18.a = some a21 ∧ 0 ≤ r10 ∧ r10 < (s18.len : Int) ∧
   (StL w16 (a21.add (r10.toNat * 2)) 0 [.int .i64 t19, .int .i64 t20] fun w22 =>
   K (0 : Int) w22) ∧
   True)) w11)) w7
set_option maxRecDepth 100000 in
theorem S.ref07_Tree_Move_ok (t1 : Option Addr) (from2 : Int) (from3 : Int) (to4 : Int) (to5 : Int) (K : Int → World → Prop) (w : World) (h : S.ref07_Tree_Move t1 from2 from3 to4 to5 K w) : C.ref07_Tree_Move t1 from2 from3 to4 to5 K w := by
  have e : fnV Try.prog Try.f65 (bodyOf Try.f65) (.t none (.u) (.t none (.u) (.t none (.t none (.u) (.t none (.t none (.u) (.u)) (.u))) (.t none (.t none (.u) (.t none (.t none (.u) (.u)) (.u))) (.t none (.r none (.one 0 48 (.one 1 48 (.one 2 48 (.one 3 48 (.one 4 32 (.one 5 0 (.one 6 0 (.alt 7 (.done) (.none)))))))))) (.t none (.u) (.u))))))) [(0, .c (.i .i64))] [.pointer t1, .agg #[.int .i64 from2, .int .i64 from3], .agg #[.int .i64 to4, .int .i64 to5]] K w = S.ref07_Tree_Move t1 from2 from3 to4 to5 K w := by kernel_rfl
  exact okF_mk Try.func65 rfl (fn_sound names_ok follows_ok Try.func65 rfl (by kernel_rfl) (Eq.mpr e h))

/-- (*buttress/buttressref07.Tree).place -/
def S.ref07_Tree_place (t1 : Option Addr) (s2 : Int) (s3 : Int) (K : Int → World → Prop) (w : World) : Prop :=
  Al w (.cells #[.int .i64 s2, .int .i64 s3] 29) fun w4 =>
   ∀ l5 : Int → World → Prop,
   (∀ (i6 : Int) (w7 : World), (∃ a8 : Addr, t1 = some a8 ∧
   ∃ s9 : Sl, w7.cell? a8 = some (.slice s9.a s9.len s9.cap) ∧
   bif decide (i6 < (s9.len : Int)) then
    (Dr w7 fun w10 =>
   ∃ a11 : Addr, t1 = some a11 ∧
   ∃ s12 : Sl, w10.cell? a11 = some (.slice s12.a s12.len s12.cap) ∧
   ∃ a13 : Addr, s12.a = some a13 ∧ 0 ≤ i6 ∧ i6 < (s12.len : Int) ∧
   LdL w10 (a13.add (i6.toNat * 2)) 0 [.i .i64, .i .i64] fun (t14 : Int) (t15 : Int) =>
   LdL w10 (Addr.mk w.heap.size 0 none) 0 [.i .i64, .i .i64] fun (t16 : Int) (t17 : Int) =>
   ∃ eq18 : Bool, EqB Try.prog .eql 29 (.tmp 21) (.tmp 22) (.agg #[.int .i64 t14, .int .i64 t15]) (.agg #[.int .i64 t16, .int .i64 t17]) eq18 ∧
   bif eq18 then
    (K i6 w10)
   else
    (l5 (IntKind.i64.wrap (i6 + (1 : Int))) w10))
   else
    (K (-1 : Int) w7)) → l5 i6 w7) →
   l5 (0 : Int) w4
set_option maxRecDepth 100000 in
theorem S.ref07_Tree_place_ok (t1 : Option Addr) (s2 : Int) (s3 : Int) (K : Int → World → Prop) (w : World) (h : S.ref07_Tree_place t1 s2 s3 K w) : C.ref07_Tree_place t1 s2 s3 K w := by
  have e : fnV Try.prog Try.f66 (bodyOf Try.f66) (.t none (.u) (.t none (.t none (.u) (.t none (.t (some [(5, .c (.i .i64))]) (.t none (.t none (.u) (.t none (.u) (.u))) (.t none (.t none (.t none (.r none (.one 0 144 (.one 1 144 (.one 2 144 (.one 3 144 (.one 4 128 (.one 5 128 (.one 6 128 (.one 7 0 (.one 8 0 (.done))))))))))) (.t none (.t none (.u) (.u)) (.u))) (.u)) (.u))) (.u)) (.u))) (.t none (.u) (.u)))) [(0, .c (.i .i64))] [.pointer t1, .agg #[.int .i64 s2, .int .i64 s3]] K w = S.ref07_Tree_place t1 s2 s3 K w := by kernel_rfl
  exact okF_mk Try.func66 rfl (fn_sound names_ok follows_ok Try.func66 rfl (by kernel_rfl) (Eq.mpr e h))

/-- (*buttress/buttressref07.Tree).end -/
def S.ref07_Tree_end (t1 : Option Addr) (i2 : Int) (K : Int → World → Prop) (w : World) : Prop :=
  ∀ l3 : Int → World → Prop,
   (∀ (k4 : Int) (w5 : World), (∃ a6 : Addr, t1 = some a6 ∧
   ∃ s7 : Sl, w5.cell? a6 = some (.slice s7.a s7.len s7.cap) ∧
   bif decide (k4 < (s7.len : Int)) then
    (Dr w5 fun w8 =>
   ∃ a9 : Addr, t1 = some a9 ∧
   ∃ d10 : Sl, w8.cell? (a9.add 1) = some (.slice d10.a d10.len d10.cap) ∧
   ∃ a11 : Addr, d10.a = some a11 ∧ 0 ≤ k4 ∧ k4 < (d10.len : Int) ∧
   ∃ t12 : Int, w8.cell? (a11.add (k4.toNat * 1)) = some (.int .i64 t12) ∧
   ∃ a13 : Addr, t1 = some a13 ∧
   ∃ d14 : Sl, w8.cell? (a13.add 1) = some (.slice d14.a d14.len d14.cap) ∧
   ∃ a15 : Addr, d14.a = some a15 ∧ 0 ≤ i2 ∧ i2 < (d14.len : Int) ∧
   ∃ t16 : Int, w8.cell? (a15.add (i2.toNat * 1)) = some (.int .i64 t16) ∧
   bif decide (t12 ≤ t16) then
    (K k4 w8)
   else
    (l3 (IntKind.i64.wrap (k4 + (1 : Int))) w8))
   else
    (∃ a17 : Addr, t1 = some a17 ∧
   ∃ s18 : Sl, w5.cell? a17 = some (.slice s18.a s18.len s18.cap) ∧
   K (s18.len : Int) w5)) → l3 k4 w5) →
   l3 (IntKind.i64.wrap (i2 + (1 : Int))) w
set_option maxRecDepth 100000 in
theorem S.ref07_Tree_end_ok (t1 : Option Addr) (i2 : Int) (K : Int → World → Prop) (w : World) (h : S.ref07_Tree_end t1 i2 K w) : C.ref07_Tree_end t1 i2 K w := by
  have e : fnV Try.prog Try.f67 (bodyOf Try.f67) (.t none (.u) (.t none (.t none (.u) (.t none (.t (some [(5, .c (.i .i64))]) (.t none (.t none (.u) (.t none (.u) (.u))) (.t none (.t none (.t none (.r none (.one 0 16272 (.one 1 16272 (.one 2 16272 (.one 3 16272 (.one 4 16256 (.one 5 16256 (.one 6 16256 (.one 7 2048 (.one 8 2048 (.one 9 2048 (.one 10 2048 (.one 11 0 (.one 12 0 (.one 13 0 (.one 14 0 (.done))))))))))))))))) (.t none (.t none (.u) (.u)) (.u))) (.u)) (.u))) (.u)) (.u))) (.t none (.u) (.u)))) [(0, .c (.i .i64))] [.pointer t1, .int .i64 i2] K w = S.ref07_Tree_end t1 i2 K w := by kernel_rfl
  exact okF_mk Try.func67 rfl (fn_sound names_ok follows_ok Try.func67 rfl (by kernel_rfl) (Eq.mpr e h))

/-- (*buttress/buttressref07.Tree).put -/
def S.ref07_Tree_put (t1 : Option Addr) (at2 : Int) (s3 : Int) (s4 : Int) (depth5 : Int) (K : World → Prop) (w : World) : Prop :=
  Al w (.cells #[.int .i64 s3, .int .i64 s4] 29) fun w6 =>
   Al w6 (.cells #[] 29) fun w7 =>
   Al w7 (.cells #[] 3) fun w8 =>
   ∀ l9 : Sl → Sl → Int → World → Prop,
   (∀ (l10 : Sl) (d11 : Sl) (i12 : Int) (w13 : World), (∃ a14 : Addr, t1 = some a14 ∧
   ∃ s15 : Sl, w13.cell? a14 = some (.slice s15.a s15.len s15.cap) ∧
   bif decide (i12 ≤ (s15.len : Int)) then
    (∀ k16 : Sl → Sl → World → Prop,
   (∀ (l17 : Sl) (d18 : Sl) (w19 : World), (∃ a20 : Addr, t1 = some a20 ∧
   ∃ s21 : Sl, w19.cell? a20 = some (.slice s21.a s21.len s21.cap) ∧
   bif decide (i12 < (s21.len : Int)) then
    (∃ a22 : Addr, t1 = some a22 ∧
   ∃ s23 : Sl, w19.cell? a22 = some (.slice s23.a s23.len s23.cap) ∧
   ∃ a24 : Addr, s23.a = some a24 ∧ 0 ≤ i12 ∧ i12 < (s23.len : Int) ∧
   LdL w19 (a24.add (i12.toNat * 2)) 0 [.i .i64, .i .i64] fun (t25 : Int) (t26 : Int) =>
   Al w19 (.cells #[.int .i64 t25, .int .i64 t26] 29) fun w27 =>
   ∃ (t28 : Sl) (w29 : World), AppR Try.prog [25, 25] 25 (.slice l17.a l17.len l17.cap) (.slice (some (Addr.mk w19.heap.size 0 none)) 1 1) w27 t28 w29 ∧
   ∃ a30 : Addr, t1 = some a30 ∧
   ∃ d31 : Sl, w29.cell? (a30.add 1) = some (.slice d31.a d31.len d31.cap) ∧
   ∃ a32 : Addr, d31.a = some a32 ∧ 0 ≤ i12 ∧ i12 < (d31.len : Int) ∧
   ∃ t33 : Int, w29.cell? (a32.add (i12.toNat * 1)) = some (.int .i64 t33) ∧
   Al w29 (.cells #[.int .i64 t33] 3) fun w34 =>
   ∃ (t35 : Sl) (w36 : World), AppR Try.prog [43, 43] 43 (.slice d18.a d18.len d18.cap) (.slice (some (Addr.mk w29.heap.size 0 none)) 1 1) w34 t35 w36 ∧
   l9 t28 t35 (IntKind.i64.wrap (i12 + (1 : Int))) w36)
   else
    (l9 l17 d18 (IntKind.i64.wrap (i12 + (1 : Int))) w19)) → k16 l17 d18 w19) →
   (bif i12 == at2 then
    (LdL w13 (Addr.mk w.heap.size 0 none) 0 [.i .i64, .i .i64] fun (t37 : Int) (t38 : Int) =>
   Al w13 (.cells #[.int .i64 t37, .int .i64 t38] 29) fun w39 =>
   ∃ (t40 : Sl) (w41 : World), AppR Try.prog [25, 25] 25 (.slice l10.a l10.len l10.cap) (.slice (some (Addr.mk w13.heap.size 0 none)) 1 1) w39 t40 w41 ∧
   Al w41 (.cells #[.int .i64 depth5] 3) fun w42 =>
   ∃ (t43 : Sl) (w44 : World), AppR Try.prog [43, 43] 43 (.slice d11.a d11.len d11.cap) (.slice (some (Addr.mk w41.heap.size 0 none)) 1 1) w42 t43 w44 ∧
   k16 t40 t43 w44)
   else
    (k16 l10 d11 w13)))
   else
    (∃ a45 : Addr, t1 = some a45 ∧
   St w13 a45 (.slice l10.a l10.len l10.cap) fun w46 =>
   ∃ a47 : Addr, t1 = some a47 ∧
   St w46 (a47.add 1) (.slice d11.a d11.len d11.cap) fun w48 =>
   K w48)) → l9 l10 d11 i12 w13) →
   l9 ⟨some (Addr.mk w6.heap.size 0 none), 0, 0⟩ ⟨some (Addr.mk w7.heap.size 0 none), 0, 0⟩ (0 : Int) w8
set_option maxRecDepth 100000 in
theorem S.ref07_Tree_put_ok (t1 : Option Addr) (at2 : Int) (s3 : Int) (s4 : Int) (depth5 : Int) (K : World → Prop) (w : World) (h : S.ref07_Tree_put t1 at2 s3 s4 depth5 K w) : C.ref07_Tree_put t1 at2 s3 s4 depth5 K w := by
  have e : fnV Try.prog Try.f81 (bodyOf Try.f81) (.t none (.u) (.t none (.u) (.t none (.t none (.u) (.t none (.t (some [(8, .c (.s)), (9, .c (.s)), (10, .c (.i .i64))]) (.t none (.t none (.u) (.t none (.u) (.u))) (.t none (.t none (.t none (.t none (.u) (.t (some [(8, .c (.s)), (9, .c (.s))]) (.t none (.u) (.u)) (.u))) (.t none (.u) (.t none (.t none (.u) (.u)) (.u)))) (.u)) (.u))) (.u)) (.u))) (.t none (.u) (.u))))) [] [.pointer t1, .int .i64 at2, .agg #[.int .i64 s3, .int .i64 s4], .int .i64 depth5] K w = S.ref07_Tree_put t1 at2 s3 s4 depth5 K w := by kernel_rfl
  exact okF_mk Try.func81 rfl (fn_sound names_ok follows_ok Try.func81 rfl (by kernel_rfl) (Eq.mpr e h))

/-- buttress/buttressref09.Nums -/
def S.ref09_Nums (a1 : Sl) (b2 : Sl) (K : Bool → World → Prop) (w : World) : Prop :=
  bif (a1.len : Int) != (b2.len : Int) then
    (K false w)
   else
    (∀ l3 : Int → World → Prop,
   (∀ (i4 : Int) (w5 : World), (bif decide (i4 < (a1.len : Int)) then
    (Dr w5 fun w6 =>
   ∃ a7 : Addr, a1.a = some a7 ∧ 0 ≤ i4 ∧ i4 < (a1.len : Int) ∧
   ∃ t8 : Int, w6.cell? (a7.add (i4.toNat * 1)) = some (.int .i64 t8) ∧
   ∃ a9 : Addr, b2.a = some a9 ∧ 0 ≤ i4 ∧ i4 < (b2.len : Int) ∧
   ∃ t10 : Int, w6.cell? (a9.add (i4.toNat * 1)) = some (.int .i64 t10) ∧
   bif t8 != t10 then
    (K false w6)
   else
    (l3 (IntKind.i64.wrap (i4 + (1 : Int))) w6))
   else
    (K true w5)) → l3 i4 w5) →
   l3 (0 : Int) w)
set_option maxRecDepth 100000 in
theorem S.ref09_Nums_ok (a1 : Sl) (b2 : Sl) (K : Bool → World → Prop) (w : World) (h : S.ref09_Nums a1 b2 K w) : C.ref09_Nums a1 b2 K w := by
  have e : fnV Try.prog Try.f54 (bodyOf Try.f54) (.t none (.u) (.t none (.t none (.u) (.t none (.t none (.u) (.u)) (.u))) (.t none (.t none (.u) (.t none (.t (some [(5, .c (.i .i64))]) (.t none (.t none (.u) (.t none (.u) (.u))) (.t none (.t none (.t none (.r none (.one 0 242 (.one 1 240 (.one 2 240 (.one 3 240 (.one 4 32 (.one 5 0 (.one 6 0 (.one 7 0 (.one 8 0 (.done))))))))))) (.t none (.t none (.u) (.u)) (.u))) (.u)) (.u))) (.u)) (.u))) (.t none (.u) (.u))))) [(0, .c (.b))] [.slice a1.a a1.len a1.cap, .slice b2.a b2.len b2.cap] K w = S.ref09_Nums a1 b2 K w := by kernel_rfl
  exact okF_mk Try.func54 rfl (fn_sound names_ok follows_ok Try.func54 rfl (by kernel_rfl) (Eq.mpr e h))
end Go.Proofs.Ytmfbhjfkagnahaa
