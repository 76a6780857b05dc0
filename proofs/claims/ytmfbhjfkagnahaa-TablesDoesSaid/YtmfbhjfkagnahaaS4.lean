/- The functions' texts, and that a call comes to them. Printed by a program of mine (gen.py). -/
import Derived.Test.YtmfbhjfkagnahaaC
set_option linter.unusedVariables false
namespace Go.Proofs.Ytmfbhjfkagnahaa
open Go Go.Vc Go.Proofs

/-- (*slices.xorshift).Next -/
def S.slices_xorshift_Next (r1 : Option Addr) (K : Int → World → Prop) (w : World) : Prop :=
  Dr w fun w2 =>
   ∃ a3 : Addr, r1 = some a3 ∧
   ∃ t4 : Int, w2.cell? a3 = some (.int .u64 t4) ∧
   ∃ a5 : Addr, r1 = some a5 ∧
   ∃ t6 : Int, w2.cell? a5 = some (.int .u64 t6) ∧
   0 ≤ (13 : Int) ∧
   ∃ a7 : Addr, r1 = some a7 ∧
   (St w2 a7 (.int .u64 (xorI .u64 t4 (shlI .u64 t6 (13 : Int)))) fun w8 =>
   Dr w8 fun w9 =>
   ∃ a10 : Addr, r1 = some a10 ∧
   ∃ t11 : Int, w9.cell? a10 = some (.int .u64 t11) ∧
   ∃ a12 : Addr, r1 = some a12 ∧
   ∃ t13 : Int, w9.cell? a12 = some (.int .u64 t13) ∧
   0 ≤ (7 : Int) ∧
   ∃ a14 : Addr, r1 = some a14 ∧
   (St w9 a14 (.int .u64 (xorI .u64 t11 (shrI .u64 t13 (7 : Int)))) fun w15 =>
   Dr w15 fun w16 =>
   ∃ a17 : Addr, r1 = some a17 ∧
   ∃ t18 : Int, w16.cell? a17 = some (.int .u64 t18) ∧
   ∃ a19 : Addr, r1 = some a19 ∧
   ∃ t20 : Int, w16.cell? a19 = some (.int .u64 t20) ∧
   0 ≤ (17 : Int) ∧
   ∃ a21 : Addr, r1 = some a21 ∧
   (St w16 a21 (.int .u64 (xorI .u64 t18 (shlI .u64 t20 (17 : Int)))) fun w22 =>
   ∃ a23 : Addr, r1 = some a23 ∧
   ∃ t24 : Int, w22.cell? a23 = some (.int .u64 t24) ∧
   K t24 w22) ∧
   True) ∧
   True) ∧
   True
set_option maxRecDepth 100000 in
theorem S.slices_xorshift_Next_ok (r1 : Option Addr) (K : Int → World → Prop) (w : World) (h : S.slices_xorshift_Next r1 K w) : C.slices_xorshift_Next r1 K w := by
  have e : fnV Try.prog Try.f110 (bodyOf Try.f110) (.t none (.u) (.t none (.r none (.one 0 120 (.one 1 120 (.one 2 120 (.one 3 0 (.one 4 0 (.one 5 0 (.one 6 0 (.one 7 0 (.one 8 0 (.alt 9 (.done) (.none)))))))))))) (.t none (.r none (.one 0 120 (.one 1 120 (.one 2 120 (.one 3 0 (.one 4 0 (.one 5 0 (.one 6 0 (.one 7 0 (.one 8 0 (.alt 9 (.done) (.none)))))))))))) (.t none (.r none (.one 0 120 (.one 1 120 (.one 2 120 (.one 3 0 (.one 4 0 (.one 5 0 (.one 6 0 (.one 7 0 (.one 8 0 (.alt 9 (.done) (.none)))))))))))) (.t none (.u) (.u)))))) [(0, .c (.i .u64))] [.pointer r1] K w = S.slices_xorshift_Next r1 K w := by kernel_rfl
  exact okF_mk Try.func110 rfl (fn_sound names_ok follows_ok Try.func110 rfl (by kernel_rfl) (Eq.mpr e h))

/-- slices.medianAdjacentOrdered[int] -/
def S.slices_medianAdjacentOrdered_int (data1 : Sl) (a2 : Int) (swaps3 : Option Addr) (K : Int → World → Prop) (w : World) : Prop :=
  C.slices_medianOrdered_int data1 (IntKind.i64.wrap (a2 - (1 : Int))) a2 (IntKind.i64.wrap (a2 + (1 : Int))) swaps3 (fun r4 w5 =>
   K r4 w5) w
set_option maxRecDepth 100000 in
theorem S.slices_medianAdjacentOrdered_int_ok (data1 : Sl) (a2 : Int) (swaps3 : Option Addr) (K : Int → World → Prop) (w : World) (h : S.slices_medianAdjacentOrdered_int data1 a2 swaps3 K w) : C.slices_medianAdjacentOrdered_int data1 a2 swaps3 K w := by
  have e : fnV Try.prog Try.f111 (bodyOf Try.f111) (.t none (.u) (.t none (.u) (.u))) [(0, .c (.i .i64))] [.slice data1.a data1.len data1.cap, .int .i64 a2, .pointer swaps3] K w = S.slices_medianAdjacentOrdered_int data1 a2 swaps3 K w := by kernel_rfl
  exact okF_mk Try.func111 rfl (fn_sound names_ok follows_ok Try.func111 rfl (by kernel_rfl) (Eq.mpr e h))

/-- slices.medianOrdered[int] -/
def S.slices_medianOrdered_int (data1 : Sl) (a2 : Int) (b3 : Int) (c4 : Int) (swaps5 : Option Addr) (K : Int → World → Prop) (w : World) : Prop :=
  C.slices_order2Ordered_int data1 a2 b3 swaps5 (fun r6 r7 w8 =>
   C.slices_order2Ordered_int data1 r7 c4 swaps5 (fun r9 r10 w11 =>
   C.slices_order2Ordered_int data1 r6 r9 swaps5 (fun r12 r13 w14 =>
   K r13 w14) w11) w8) w
set_option maxRecDepth 100000 in
theorem S.slices_medianOrdered_int_ok (data1 : Sl) (a2 : Int) (b3 : Int) (c4 : Int) (swaps5 : Option Addr) (K : Int → World → Prop) (w : World) (h : S.slices_medianOrdered_int data1 a2 b3 c4 swaps5 K w) : C.slices_medianOrdered_int data1 a2 b3 c4 swaps5 K w := by
  have e : fnV Try.prog Try.f112 (bodyOf Try.f112) (.t none (.u) (.t none (.u) (.t none (.u) (.t none (.u) (.t none (.u) (.u)))))) [(0, .c (.i .i64))] [.slice data1.a data1.len data1.cap, .int .i64 a2, .int .i64 b3, .int .i64 c4, .pointer swaps5] K w = S.slices_medianOrdered_int data1 a2 b3 c4 swaps5 K w := by kernel_rfl
  exact okF_mk Try.func112 rfl (fn_sound names_ok follows_ok Try.func112 rfl (by kernel_rfl) (Eq.mpr e h))

/-- slices.order2Ordered[int] -/
def S.slices_order2Ordered_int (data1 : Sl) (a2 : Int) (b3 : Int) (swaps4 : Option Addr) (K : Int → Int → World → Prop) (w : World) : Prop :=
  Dr w fun w5 =>
   ∃ a6 : Addr, data1.a = some a6 ∧ 0 ≤ b3 ∧ b3 < (data1.len : Int) ∧
   ∃ t7 : Int, w5.cell? (a6.add (b3.toNat * 1)) = some (.int .i64 t7) ∧
   ∃ a8 : Addr, data1.a = some a8 ∧ 0 ≤ a2 ∧ a2 < (data1.len : Int) ∧
   ∃ t9 : Int, w5.cell? (a8.add (a2.toNat * 1)) = some (.int .i64 t9) ∧
   (C.cmp_Less_int t7 t9 (fun r10 w11 =>
   bif r10 then
    (∃ a12 : Addr, swaps4 = some a12 ∧
   ∃ t13 : Int, w11.cell? a12 = some (.int .i64 t13) ∧
   ∃ a14 : Addr, swaps4 = some a14 ∧
   St w11 a14 (.int .i64 (IntKind.i64.wrap (t13 + (1 : Int)))) fun w15 =>
   K b3 a2 w15)
   else
    (K a2 b3 w11)) w5) ∧
   True
set_option maxRecDepth 100000 in
theorem S.slices_order2Ordered_int_ok (data1 : Sl) (a2 : Int) (b3 : Int) (swaps4 : Option Addr) (K : Int → Int → World → Prop) (w : World) (h : S.slices_order2Ordered_int data1 a2 b3 swaps4 K w) : C.slices_order2Ordered_int data1 a2 b3 swaps4 K w := by
  have e : fnV Try.prog Try.f114 (bodyOf Try.f114) (.t none (.u) (.t none (.t none (.r none (.one 0 242 (.one 1 240 (.one 2 240 (.one 3 240 (.one 4 32 (.one 5 0 (.one 6 0 (.one 7 0 (.alt 8 (.done) (.none))))))))))) (.t none (.t none (.u) (.t none (.u) (.u))) (.u))) (.t none (.u) (.u)))) [(0, .c (.i .i64)), (1, .c (.i .i64))] [.slice data1.a data1.len data1.cap, .int .i64 a2, .int .i64 b3, .pointer swaps4] K w = S.slices_order2Ordered_int data1 a2 b3 swaps4 K w := by kernel_rfl
  exact okF_mk Try.func114 rfl (fn_sound names_ok follows_ok Try.func114 rfl (by kernel_rfl) (Eq.mpr e h))

/-- buttress/tables.New -/
def S.tables_New (K : Option Addr → World → Prop) (w : World) : Prop :=
  Al w (.cells #[.int .i64 (0 : Int), .map none, .int .i64 (0 : Int), .map none, .int .i64 (0 : Int), .map none, .int .i64 (0 : Int), .map none, .int .i64 (0 : Int), .map none, .int .i64 (0 : Int), .map none, .int .i64 (0 : Int), .map none, .int .i64 (0 : Int), .map none, .int .i64 (0 : Int), .map none, .int .i64 (0 : Int), .map none, .int .i64 (0 : Int), .map none, .int .i64 (0 : Int), .map none, .int .i64 (0 : Int), .map none, .int .i64 (0 : Int), .map none, .int .i64 (0 : Int), .map none, .int .i64 (0 : Int), .map none, .int .i64 (0 : Int), .map none, .int .i64 (0 : Int), .map none, .int .i64 (0 : Int), .map none, .int .i64 (0 : Int), .map none, .int .i64 (0 : Int), .map none, .int .i64 (0 : Int), .map none, .int .i64 (0 : Int), .map none, .int .i64 (0 : Int), .map none, .int .i64 (0 : Int), .map none, .int .i64 (0 : Int), .map none, .int .i64 (0 : Int), .map none, .int .i64 (0 : Int), .map none, .int .i64 (0 : Int), .map none, .int .i64 (0 : Int), .map none, .int .i64 (0 : Int), .map none, .int .i64 (0 : Int), .map none, .int .i64 (0 : Int), .map none, .int .i64 (0 : Int), .map none, .int .i64 (0 : Int), .map none, .int .i64 (0 : Int), .map none, .int .i64 (0 : Int), .map none, .int .i64 (0 : Int), .map none, .int .i64 (0 : Int), .map none, .int .i64 (0 : Int), .map none, .int .i64 (0 : Int), .map none, .int .i64 (0 : Int), .map none, .int .i64 (0 : Int), .map none, .int .i64 (0 : Int), .map none, .int .i64 (0 : Int), .map none, .int .i64 (0 : Int), .map none, .int .i64 (0 : Int), .map none, .int .i64 (0 : Int), .map none, .int .i64 (0 : Int), .map none, .int .i64 (0 : Int), .map none, .int .i64 (0 : Int), .map none, .int .i64 (0 : Int), .map none, .int .i64 (0 : Int), .map none, .int .i64 (0 : Int), .map none, .int .i64 (0 : Int), .map none, .int .i64 (0 : Int), .map none, .int .i64 (0 : Int), .map none, .int .i64 (0 : Int), .map none, .int .i64 (0 : Int), .map none, .int .i64 (0 : Int), .map none, .int .i64 (0 : Int), .map none, .int .i64 (0 : Int), .map none, .int .i64 (0 : Int), .map none, .int .i64 (0 : Int), .map none] 99) fun w1 =>
   K (some (Addr.mk w.heap.size 0 none)) w1
set_option maxRecDepth 100000 in
theorem S.tables_New_ok (K : Option Addr → World → Prop) (w : World) (h : S.tables_New  K w) : C.tables_New  K w := by
  have e : fnV Try.prog Try.f33 (bodyOf Try.f33) (.t none (.u) (.t none (.u) (.u))) [(0, .c (.p))] [] K w = S.tables_New  K w := by kernel_rfl
  exact okF_mk Try.func33 rfl (fn_sound names_ok follows_ok Try.func33 rfl (by kernel_rfl) (Eq.mpr e h))

/-- (*buttress/tables.Space).Table -/
def S.tables_Space_Table (s1 : Option Addr) (i2 : Int) (n3 : Int) (K : Int → World → Prop) (w : World) : Prop :=
  Al w (.cells #[.int .i64 n3] 3) fun w4 =>
   ∀ k5 : Bool → World → Prop,
   (∀ (t6 : Bool) (w7 : World), (bif t6 then
    (K (1 : Int) w7)
   else
    (∀ k8 : Bool → World → Prop,
   (∀ (t9 : Bool) (w10 : World), (bif t9 then
    (K (140 : Int) w10)
   else
    (Dr w10 fun w11 =>
   ∃ t12 : Int, w11.cell? (Addr.mk w.heap.size 0 none) = some (.int .i64 t12) ∧
   ∃ a13 : Addr, s1 = some a13 ∧
   (Al w11 (.map #[] 0) fun w14 =>
   0 ≤ i2 ∧ i2 < (64 : Int) ∧
   (StL w14 (a13.add (i2.toNat * 2)) 0 [.int .i64 t12, .map (some w11.heap.size)] fun w15 =>
   K (0 : Int) w15) ∧
   True) ∧
   True)) → k8 t9 w10) →
   (∃ a16 : Addr, s1 = some a16 ∧
   0 ≤ i2 ∧ i2 < (64 : Int) ∧
   ∃ p17 : Option Nat, w7.cell? ((a16.add (i2.toNat * 2)).add 1) = some (.map p17) ∧
   bif !p17.isNone then
    (k8 true w7)
   else
    (∃ a18 : Addr, s1 = some a18 ∧
   C.slices_ContainsFunc_tables_table_tables_table ⟨slA (some a18) 0 64 2, 64 - 0, 64 - 0⟩ (.func (.func 69) #[] #[.pointer (some (Addr.mk w.heap.size 0 none))]) (fun r19 w20 =>
   k8 r19 w20) w7)))) → k5 t6 w7) →
   (C.tables_place i2 (fun r21 w22 =>
   bif !r21 then
    (k5 true w22)
   else
    (∃ t23 : Int, w22.cell? (Addr.mk w.heap.size 0 none) = some (.int .i64 t23) ∧
   k5 (decide (t23 < (0 : Int))) w22)) w4)
set_option maxRecDepth 100000 in
theorem S.tables_Space_Table_ok (s1 : Option Addr) (i2 : Int) (n3 : Int) (K : Int → World → Prop) (w : World) (h : S.tables_Space_Table s1 i2 n3 K w) : C.tables_Space_Table s1 i2 n3 K w := by
  have e : fnV Try.prog Try.f34 (bodyOf Try.f34) (.t none (.u) (.t none (.t none (.r (some [(14, .c (.b))]) .done) (.t none (.t none (.u) (.u)) (.u))) (.t none (.u) (.t none (.t none (.r (some [(31, .c (.b))]) .done) (.t none (.t none (.u) (.u)) (.u))) (.t none (.r none (.one 0 30 (.one 1 124 (.one 2 104 (.one 5 24 (.one 6 24 (.alt 3 (.one 4 0 (.one 7 0 (.alt 8 (.done) (.none)))) (.none)))))))) (.t none (.u) (.u))))))) [(0, .c (.i .i64))] [.pointer s1, .int .i64 i2, .int .i64 n3] K w = S.tables_Space_Table s1 i2 n3 K w := by kernel_rfl
  exact okF_mk Try.func34 rfl (fn_sound names_ok follows_ok Try.func34 rfl (by kernel_rfl) (Eq.mpr e h))

/-- (*buttress/tables.Space).Drop -/
def S.tables_Space_Drop (s1 : Option Addr) (i2 : Int) (K : Sl → Int → World → Prop) (w : World) : Prop :=
  C.tables_place i2 (fun r3 w4 =>
   bif !r3 then
    (K ⟨none, 0, 0⟩ (1 : Int) w4)
   else
    (∃ a5 : Addr, s1 = some a5 ∧
   0 ≤ i2 ∧ i2 < (64 : Int) ∧
   ∃ p6 : Option Nat, w4.cell? ((a5.add (i2.toNat * 2)).add 1) = some (.map p6) ∧
   bif p6.isNone then
    (K ⟨none, 0, 0⟩ (141 : Int) w4)
   else
    (∃ a7 : Addr, s1 = some a7 ∧
   0 ≤ i2 ∧ i2 < (64 : Int) ∧
   LdL w4 (a7.add (i2.toNat * 2)) 0 [.i .i64, .m] fun (t8 : Int) (t9 : Option Nat) =>
   C.tables_table_laid t8 t9 (fun r10 w11 =>
   ∃ a12 : Addr, s1 = some a12 ∧
   0 ≤ i2 ∧ i2 < (64 : Int) ∧
   StL w11 (a12.add (i2.toNat * 2)) 0 [.int .i64 (0 : Int), .map none] fun w13 =>
   K r10 (0 : Int) w13) w4))) w
set_option maxRecDepth 100000 in
theorem S.tables_Space_Drop_ok (s1 : Option Addr) (i2 : Int) (K : Sl → Int → World → Prop) (w : World) (h : S.tables_Space_Drop s1 i2 K w) : C.tables_Space_Drop s1 i2 K w := by
  have e : fnV Try.prog Try.f35 (bodyOf Try.f35) (.t none (.u) (.t none (.t none (.t none (.u) (.t none (.t none (.u) (.u)) (.t none (.u) (.t none (.t none (.u) (.u)) (.u))))) (.u)) (.t none (.u) (.t none (.u) (.t none (.u) (.u)))))) [(0, .c (.s)), (1, .c (.i .i64))] [.pointer s1, .int .i64 i2] K w = S.tables_Space_Drop s1 i2 K w := by kernel_rfl
  exact okF_mk Try.func35 rfl (fn_sound names_ok follows_ok Try.func35 rfl (by kernel_rfl) (Eq.mpr e h))

/-- (*buttress/tables.Space).Map -/
def S.tables_Space_Map (s1 : Option Addr) (n2 : Int) (p3 : Int) (p4 : Int) (K : Int → World → Prop) (w : World) : Prop :=
  Al w (.cells #[.int .i64 p3, .int .i64 p4] 51) fun w5 =>
   ∀ k6 : Bool → World → Prop,
   (∀ (t7 : Bool) (w8 : World), (bif t7 then
    (K (1 : Int) w8)
   else
    (C.tables_Space_of s1 n2 (fun r9 r10 w11 =>
   bif !r10 then
    (K (141 : Int) w11)
   else
    (∃ a12 : Addr, r9 = some a12 ∧
   ∃ p13 : Option Nat, w11.cell? (a12.add 1) = some (.map p13) ∧
   ∃ t14 : Int, ∃ t15 : Int, ∃ is16 : Bool, LkB Try.prog 94 (.map p13) (.int .i64 n2) (.agg #[.int .i64 t14, .int .i64 t15]) is16 w11 ∧
   Al w11 (.cells #[.int .i64 (0 : Int), .int .i64 (0 : Int)] 51) fun w17 =>
   StL w17 (Addr.mk w11.heap.size 0 none) 0 [.int .i64 t14, .int .i64 t15] fun w18 =>
   bif is16 then
    (K (140 : Int) w18)
   else
    (Dr w18 fun w19 =>
   ∃ a20 : Addr, r9 = some a20 ∧
   ∃ p21 : Option Nat, w19.cell? (a20.add 1) = some (.map p21) ∧
   LdL w19 (Addr.mk w.heap.size 0 none) 0 [.i .i64, .i .i64] fun (t22 : Int) (t23 : Int) =>
   (∃ w24 : World, UpdR Try.prog 94 (.map p21) (.int .i64 n2) (.agg #[.int .i64 t22, .int .i64 t23]) w19 w24 ∧
   K (0 : Int) w24) ∧
   True))) w8)) → k6 t7 w8) →
   (C.tables_page n2 (fun r25 w26 =>
   bif !r25 then
    (k6 true w26)
   else
    (∃ frame27 : Int, w26.cell? (Addr.mk w.heap.size 0 none) = some (.int .i64 frame27) ∧
   bif decide (frame27 < (0 : Int)) then
    (k6 true w26)
   else
    (∃ rights28 : Int, w26.cell? ((Addr.mk w.heap.size 0 none).add 1) = some (.int .i64 rights28) ∧
   C.tables_rights rights28 (fun r29 w30 =>
   k6 (!r29) w30) w26))) w5)
set_option maxRecDepth 100000 in
theorem S.tables_Space_Map_ok (s1 : Option Addr) (n2 : Int) (p3 : Int) (p4 : Int) (K : Int → World → Prop) (w : World) (h : S.tables_Space_Map s1 n2 p3 p4 K w) : C.tables_Space_Map s1 n2 p3 p4 K w := by
  have e : fnV Try.prog Try.f36 (bodyOf Try.f36) (.t none (.u) (.t none (.t none (.r (some [(24, .c (.b))]) .done) (.t none (.t none (.u) (.u)) (.u))) (.t none (.u) (.t none (.t none (.u) (.t none (.t none (.u) (.u)) (.u))) (.t none (.t none (.u) (.t none (.u) (.t none (.t none (.u) (.u)) (.u)))) (.t none (.r none (.one 0 48 (.one 1 48 (.one 2 48 (.one 3 48 (.one 4 32 (.one 5 0 (.alt 6 (.done) (.none))))))))) (.t none (.u) (.u)))))))) [(0, .c (.i .i64))] [.pointer s1, .int .i64 n2, .agg #[.int .i64 p3, .int .i64 p4]] K w = S.tables_Space_Map s1 n2 p3 p4 K w := by kernel_rfl
  exact okF_mk Try.func36 rfl (fn_sound names_ok follows_ok Try.func36 rfl (by kernel_rfl) (Eq.mpr e h))

/-- (*buttress/tables.Space).Unmap -/
def S.tables_Space_Unmap (s1 : Option Addr) (n2 : Int) (K : Int → Int → Int → World → Prop) (w : World) : Prop :=
  Al w (.cells #[.int .i64 (0 : Int), .int .i64 (0 : Int)] 51) fun w3 =>
   C.tables_page n2 (fun r4 w5 =>
   bif !r4 then
    (StL w5 (Addr.mk w.heap.size 0 none) 0 [.int .i64 (0 : Int), .int .i64 (0 : Int)] fun w6 =>
   LdL w6 (Addr.mk w.heap.size 0 none) 0 [.i .i64, .i .i64] fun (r7 : Int) (r8 : Int) =>
   K r7 r8 (1 : Int) w6)
   else
    (C.tables_Space_Walk s1 n2 (fun r9 r10 r11 w12 =>
   Al w12 (.cells #[.int .i64 (0 : Int), .int .i64 (0 : Int)] 51) fun w13 =>
   StL w13 (Addr.mk w12.heap.size 0 none) 0 [.int .i64 r9, .int .i64 r10] fun w14 =>
   bif !r11 then
    (StL w14 (Addr.mk w.heap.size 0 none) 0 [.int .i64 (0 : Int), .int .i64 (0 : Int)] fun w15 =>
   LdL w15 (Addr.mk w.heap.size 0 none) 0 [.i .i64, .i .i64] fun (r16 : Int) (r17 : Int) =>
   K r16 r17 (141 : Int) w15)
   else
    (C.tables_Space_of s1 n2 (fun r18 r19 w20 =>
   ∃ a21 : Addr, r18 = some a21 ∧
   ∃ p22 : Option Nat, w20.cell? (a21.add 1) = some (.map p22) ∧
   ∃ w23 : World, DelR Try.prog [94, 3] 0 (.map p22) (.int .i64 n2) w20 w23 ∧
   LdL w23 (Addr.mk w12.heap.size 0 none) 0 [.i .i64, .i .i64] fun (t24 : Int) (t25 : Int) =>
   StL w23 (Addr.mk w.heap.size 0 none) 0 [.int .i64 t24, .int .i64 t25] fun w26 =>
   LdL w26 (Addr.mk w.heap.size 0 none) 0 [.i .i64, .i .i64] fun (r27 : Int) (r28 : Int) =>
   K r27 r28 (0 : Int) w26) w14)) w5)) w3
set_option maxRecDepth 100000 in
theorem S.tables_Space_Unmap_ok (s1 : Option Addr) (n2 : Int) (K : Int → Int → Int → World → Prop) (w : World) (h : S.tables_Space_Unmap s1 n2 K w) : C.tables_Space_Unmap s1 n2 K w := by
  have e : fnV Try.prog Try.f37 (bodyOf Try.f37) (.t none (.u) (.t none (.t none (.u) (.t none (.t none (.u) (.u)) (.u))) (.t none (.u) (.t none (.t none (.u) (.t none (.t none (.u) (.u)) (.u))) (.t none (.u) (.t none (.u) (.t none (.u) (.u)))))))) [(0, .a [.i .i64, .i .i64]), (1, .c (.i .i64))] [.pointer s1, .int .i64 n2] K w = S.tables_Space_Unmap s1 n2 K w := by kernel_rfl
  exact okF_mk Try.func37 rfl (fn_sound names_ok follows_ok Try.func37 rfl (by kernel_rfl) (Eq.mpr e h))

/-- (*buttress/tables.Space).Pages -/
def S.tables_Space_Pages (s1 : Option Addr) (K : Sl → World → Prop) (w : World) : Prop :=
  ∃ a2 : Addr, s1 = some a2 ∧
   ∃ t3 : Array Value, t3.size = 128 ∧ (∀ i4, i4 < 128 → w.cell? (a2.add i4) = t3[i4]?) ∧
   ∀ l5 : Sl → Int → World → Prop,
   (∀ (out6 : Sl) (t7 : Int) (w8 : World), (bif decide (t7 < (64 : Int)) then
    (0 ≤ t7 ∧ t7 < (64 : Int) ∧
   ∃ t9 : Int, t3[t7.toNat * 2 + 0]? = some (.int .i64 t9) ∧
   ∃ t10 : Option Nat, t3[t7.toNat * 2 + 1]? = some (.map t10) ∧
   Al w8 (.cells #[.int .i64 (0 : Int), .map none] 96) fun w11 =>
   StL w11 (Addr.mk w8.heap.size 0 none) 0 [.int .i64 t9, .map t10] fun w12 =>
   LdL w12 (Addr.mk w8.heap.size 0 none) 0 [.i .i64, .m] fun (t13 : Int) (t14 : Option Nat) =>
   C.tables_table_laid t13 t14 (fun r15 w16 =>
   ∃ (t17 : Sl) (w18 : World), AppR Try.prog [57, 57] 57 (.slice out6.a out6.len out6.cap) (.slice r15.a r15.len r15.cap) w16 t17 w18 ∧
   l5 t17 (IntKind.i64.wrap (t7 + (1 : Int))) w18) w12)
   else
    (K out6 w8)) → l5 out6 t7 w8) →
   l5 ⟨none, 0, 0⟩ (0 : Int) w
set_option maxRecDepth 100000 in
theorem S.tables_Space_Pages_ok (s1 : Option Addr) (K : Sl → World → Prop) (w : World) (h : S.tables_Space_Pages s1 K w) : C.tables_Space_Pages s1 K w := by
  have e : fnV Try.prog Try.f38 (bodyOf Try.f38) (.t none (.u) (.t none (.u) (.t none (.t none (.u) (.t none (.t (some [(3, .c (.s)), (10, .c (.i .i64))]) (.t none (.u) (.t none (.t none (.u) (.u)) (.t none (.t none (.t none (.u) (.u)) (.u)) (.u)))) (.u)) (.u))) (.t none (.u) (.u))))) [(0, .c (.s))] [.pointer s1] K w = S.tables_Space_Pages s1 K w := by kernel_rfl
  exact okF_mk Try.func38 rfl (fn_sound names_ok follows_ok Try.func38 rfl (by kernel_rfl) (Eq.mpr e h))

/-- (*buttress/tables.Space).Has -/
def S.tables_Space_Has (s1 : Option Addr) (i2 : Int) (K : Int → Bool → World → Prop) (w : World) : Prop :=
  ∀ k3 : Bool → World → Prop,
   (∀ (t4 : Bool) (w5 : World), (bif t4 then
    (K (0 : Int) false w5)
   else
    (∃ a6 : Addr, s1 = some a6 ∧
   0 ≤ i2 ∧ i2 < (64 : Int) ∧
   ∃ n7 : Int, w5.cell? (a6.add (i2.toNat * 2)) = some (.int .i64 n7) ∧
   K n7 true w5)) → k3 t4 w5) →
   (C.tables_place i2 (fun r8 w9 =>
   bif !r8 then
    (k3 true w9)
   else
    (∃ a10 : Addr, s1 = some a10 ∧
   0 ≤ i2 ∧ i2 < (64 : Int) ∧
   ∃ p11 : Option Nat, w9.cell? ((a10.add (i2.toNat * 2)).add 1) = some (.map p11) ∧
   k3 p11.isNone w9)) w)
set_option maxRecDepth 100000 in
theorem S.tables_Space_Has_ok (s1 : Option Addr) (i2 : Int) (K : Int → Bool → World → Prop) (w : World) (h : S.tables_Space_Has s1 i2 K w) : C.tables_Space_Has s1 i2 K w := by
  have e : fnV Try.prog Try.f39 (bodyOf Try.f39) (.t none (.u) (.t none (.t none (.r (some [(18, .c (.b))]) .done) (.t none (.t none (.u) (.u)) (.u))) (.t none (.u) (.u)))) [(0, .c (.i .i64)), (1, .c (.b))] [.pointer s1, .int .i64 i2] K w = S.tables_Space_Has s1 i2 K w := by kernel_rfl
  exact okF_mk Try.func39 rfl (fn_sound names_ok follows_ok Try.func39 rfl (by kernel_rfl) (Eq.mpr e h))

/-- (*buttress/tables.Space).Walk -/
def S.tables_Space_Walk (s1 : Option Addr) (n2 : Int) (K : Int → Int → Bool → World → Prop) (w : World) : Prop :=
  Al w (.cells #[.int .i64 (0 : Int), .int .i64 (0 : Int)] 51) fun w3 =>
   C.tables_page n2 (fun r4 w5 =>
   bif !r4 then
    (StL w5 (Addr.mk w.heap.size 0 none) 0 [.int .i64 (0 : Int), .int .i64 (0 : Int)] fun w6 =>
   LdL w6 (Addr.mk w.heap.size 0 none) 0 [.i .i64, .i .i64] fun (r7 : Int) (r8 : Int) =>
   K r7 r8 false w6)
   else
    (C.tables_Space_of s1 n2 (fun r9 r10 w11 =>
   ∃ a12 : Addr, r9 = some a12 ∧
   ∃ p13 : Option Nat, w11.cell? (a12.add 1) = some (.map p13) ∧
   ∃ t14 : Int, ∃ t15 : Int, ∃ is16 : Bool, LkB Try.prog 94 (.map p13) (.int .i64 n2) (.agg #[.int .i64 t14, .int .i64 t15]) is16 w11 ∧
   Al w11 (.cells #[.int .i64 (0 : Int), .int .i64 (0 : Int)] 51) fun w17 =>
   StL w17 (Addr.mk w11.heap.size 0 none) 0 [.int .i64 t14, .int .i64 t15] fun w18 =>
   LdL w18 (Addr.mk w11.heap.size 0 none) 0 [.i .i64, .i .i64] fun (t19 : Int) (t20 : Int) =>
   StL w18 (Addr.mk w.heap.size 0 none) 0 [.int .i64 t19, .int .i64 t20] fun w21 =>
   LdL w21 (Addr.mk w.heap.size 0 none) 0 [.i .i64, .i .i64] fun (r22 : Int) (r23 : Int) =>
   K r22 r23 is16 w21) w5)) w3
set_option maxRecDepth 100000 in
theorem S.tables_Space_Walk_ok (s1 : Option Addr) (n2 : Int) (K : Int → Int → Bool → World → Prop) (w : World) (h : S.tables_Space_Walk s1 n2 K w) : C.tables_Space_Walk s1 n2 K w := by
  have e : fnV Try.prog Try.f40 (bodyOf Try.f40) (.t none (.u) (.t none (.t none (.u) (.t none (.t none (.u) (.u)) (.u))) (.t none (.u) (.t none (.u) (.t none (.u) (.u)))))) [(0, .a [.i .i64, .i .i64]), (1, .c (.b))] [.pointer s1, .int .i64 n2] K w = S.tables_Space_Walk s1 n2 K w := by kernel_rfl
  exact okF_mk Try.func40 rfl (fn_sound names_ok follows_ok Try.func40 rfl (by kernel_rfl) (Eq.mpr e h))

/-- (*buttress/tables.Space).Rights -/
def S.tables_Space_Rights (s1 : Option Addr) (n2 : Int) (r3 : Int) (K : Int → World → Prop) (w : World) : Prop :=
  ∀ k4 : Bool → World → Prop,
   (∀ (t5 : Bool) (w6 : World), (bif t5 then
    (K (1 : Int) w6)
   else
    (C.tables_Space_Walk s1 n2 (fun r7 r8 r9 w10 =>
   Al w10 (.cells #[.int .i64 (0 : Int), .int .i64 (0 : Int)] 51) fun w11 =>
   StL w11 (Addr.mk w10.heap.size 0 none) 0 [.int .i64 r7, .int .i64 r8] fun w12 =>
   bif !r9 then
    (K (141 : Int) w12)
   else
    (C.tables_Space_of s1 n2 (fun r13 r14 w15 =>
   St w15 ((Addr.mk w10.heap.size 0 none).add 1) (.int .i64 r3) fun w16 =>
   Dr w16 fun w17 =>
   ∃ a18 : Addr, r13 = some a18 ∧
   ∃ p19 : Option Nat, w17.cell? (a18.add 1) = some (.map p19) ∧
   LdL w17 (Addr.mk w10.heap.size 0 none) 0 [.i .i64, .i .i64] fun (t20 : Int) (t21 : Int) =>
   (∃ w22 : World, UpdR Try.prog 94 (.map p19) (.int .i64 n2) (.agg #[.int .i64 t20, .int .i64 t21]) w17 w22 ∧
   K (0 : Int) w22) ∧
   True) w12)) w6)) → k4 t5 w6) →
   (C.tables_page n2 (fun r23 w24 =>
   bif !r23 then
    (k4 true w24)
   else
    (C.tables_rights r3 (fun r25 w26 =>
   k4 (!r25) w26) w24)) w)
set_option maxRecDepth 100000 in
theorem S.tables_Space_Rights_ok (s1 : Option Addr) (n2 : Int) (r3 : Int) (K : Int → World → Prop) (w : World) (h : S.tables_Space_Rights s1 n2 r3 K w) : C.tables_Space_Rights s1 n2 r3 K w := by
  have e : fnV Try.prog Try.f42 (bodyOf Try.f42) (.t none (.u) (.t none (.t none (.r (some [(18, .c (.b))]) .done) (.t none (.t none (.u) (.u)) (.u))) (.t none (.u) (.t none (.t none (.u) (.t none (.t none (.u) (.u)) (.u))) (.t none (.u) (.t none (.u) (.t none (.r none (.one 0 48 (.one 1 48 (.one 2 48 (.one 3 48 (.one 4 32 (.one 5 0 (.alt 6 (.done) (.none))))))))) (.t none (.u) (.u))))))))) [(0, .c (.i .i64))] [.pointer s1, .int .i64 n2, .int .i64 r3] K w = S.tables_Space_Rights s1 n2 r3 K w := by kernel_rfl
  exact okF_mk Try.func42 rfl (fn_sound names_ok follows_ok Try.func42 rfl (by kernel_rfl) (Eq.mpr e h))

/-- (*buttress/tables.Space).Frames -/
def S.tables_Space_Frames (s1 : Option Addr) (frame2 : Int) (K : Sl → World → Prop) (w : World) : Prop :=
  C.tables_Space_Pages s1 (fun r3 w4 =>
   ∀ l5 : Sl → Int → World → Prop,
   (∀ (out6 : Sl) (t7 : Int) (w8 : World), (bif decide (t7 < (r3.len : Int)) then
    (∃ a9 : Addr, r3.a = some a9 ∧ 0 ≤ t7 ∧ t7 < (r3.len : Int) ∧
   LdL w8 (a9.add (t7.toNat * 3)) 0 [.i .i64, .i .i64, .i .i64] fun (t10 : Int) (t11 : Int) (t12 : Int) =>
   Al w8 (.cells #[.int .i64 (0 : Int), .int .i64 (0 : Int), .int .i64 (0 : Int)] 67) fun w13 =>
   StL w13 (Addr.mk w8.heap.size 0 none) 0 [.int .i64 t10, .int .i64 t11, .int .i64 t12] fun w14 =>
   ∃ frame15 : Int, w14.cell? ((Addr.mk w8.heap.size 0 none).add 1) = some (.int .i64 frame15) ∧
   bif frame15 == frame2 then
    (∃ at16 : Int, w14.cell? (Addr.mk w8.heap.size 0 none) = some (.int .i64 at16) ∧
   Al w14 (.cells #[.int .i64 at16] 3) fun w17 =>
   ∃ (t18 : Sl) (w19 : World), AppR Try.prog [43, 43] 43 (.slice out6.a out6.len out6.cap) (.slice (some (Addr.mk w14.heap.size 0 none)) 1 1) w17 t18 w19 ∧
   l5 t18 (IntKind.i64.wrap (t7 + (1 : Int))) w19)
   else
    (l5 out6 (IntKind.i64.wrap (t7 + (1 : Int))) w14))
   else
    (K out6 w8)) → l5 out6 t7 w8) →
   l5 ⟨none, 0, 0⟩ (0 : Int) w4) w
set_option maxRecDepth 100000 in
theorem S.tables_Space_Frames_ok (s1 : Option Addr) (frame2 : Int) (K : Sl → World → Prop) (w : World) (h : S.tables_Space_Frames s1 frame2 K w) : C.tables_Space_Frames s1 frame2 K w := by
  have e : fnV Try.prog Try.f44 (bodyOf Try.f44) (.t none (.u) (.t none (.u) (.t none (.t none (.u) (.t none (.t (some [(5, .c (.s)), (11, .c (.i .i64))]) (.t none (.u) (.t none (.t none (.u) (.u)) (.t none (.t none (.t none (.u) (.t none (.u) (.t none (.u) (.u)))) (.u)) (.u)))) (.u)) (.u))) (.t none (.u) (.u))))) [(0, .c (.s))] [.pointer s1, .int .i64 frame2] K w = S.tables_Space_Frames s1 frame2 K w := by kernel_rfl
  exact okF_mk Try.func44 rfl (fn_sound names_ok follows_ok Try.func44 rfl (by kernel_rfl) (Eq.mpr e h))

/-- (*buttress/tables.Space).Copy -/
def S.tables_Space_Copy (s1 : Option Addr) (K : Option Addr → World → Prop) (w : World) : Prop :=
  Al w (.cells #[.int .i64 (0 : Int), .map none, .int .i64 (0 : Int), .map none, .int .i64 (0 : Int), .map none, .int .i64 (0 : Int), .map none, .int .i64 (0 : Int), .map none, .int .i64 (0 : Int), .map none, .int .i64 (0 : Int), .map none, .int .i64 (0 : Int), .map none, .int .i64 (0 : Int), .map none, .int .i64 (0 : Int), .map none, .int .i64 (0 : Int), .map none, .int .i64 (0 : Int), .map none, .int .i64 (0 : Int), .map none, .int .i64 (0 : Int), .map none, .int .i64 (0 : Int), .map none, .int .i64 (0 : Int), .map none, .int .i64 (0 : Int), .map none, .int .i64 (0 : Int), .map none, .int .i64 (0 : Int), .map none, .int .i64 (0 : Int), .map none, .int .i64 (0 : Int), .map none, .int .i64 (0 : Int), .map none, .int .i64 (0 : Int), .map none, .int .i64 (0 : Int), .map none, .int .i64 (0 : Int), .map none, .int .i64 (0 : Int), .map none, .int .i64 (0 : Int), .map none, .int .i64 (0 : Int), .map none, .int .i64 (0 : Int), .map none, .int .i64 (0 : Int), .map none, .int .i64 (0 : Int), .map none, .int .i64 (0 : Int), .map none, .int .i64 (0 : Int), .map none, .int .i64 (0 : Int), .map none, .int .i64 (0 : Int), .map none, .int .i64 (0 : Int), .map none, .int .i64 (0 : Int), .map none, .int .i64 (0 : Int), .map none, .int .i64 (0 : Int), .map none, .int .i64 (0 : Int), .map none, .int .i64 (0 : Int), .map none, .int .i64 (0 : Int), .map none, .int .i64 (0 : Int), .map none, .int .i64 (0 : Int), .map none, .int .i64 (0 : Int), .map none, .int .i64 (0 : Int), .map none, .int .i64 (0 : Int), .map none, .int .i64 (0 : Int), .map none, .int .i64 (0 : Int), .map none, .int .i64 (0 : Int), .map none, .int .i64 (0 : Int), .map none, .int .i64 (0 : Int), .map none, .int .i64 (0 : Int), .map none, .int .i64 (0 : Int), .map none, .int .i64 (0 : Int), .map none, .int .i64 (0 : Int), .map none, .int .i64 (0 : Int), .map none, .int .i64 (0 : Int), .map none, .int .i64 (0 : Int), .map none, .int .i64 (0 : Int), .map none, .int .i64 (0 : Int), .map none, .int .i64 (0 : Int), .map none, .int .i64 (0 : Int), .map none, .int .i64 (0 : Int), .map none] 99) fun w2 =>
   ∃ a3 : Addr, s1 = some a3 ∧
   ∃ t4 : Array Value, t4.size = 128 ∧ (∀ i5, i5 < 128 → w2.cell? (a3.add i5) = t4[i5]?) ∧
   ∀ l6 : Int → World → Prop,
   (∀ (t7 : Int) (w8 : World), (bif decide (t7 < (64 : Int)) then
    (0 ≤ t7 ∧ t7 < (64 : Int) ∧
   ∃ t9 : Int, t4[t7.toNat * 2 + 0]? = some (.int .i64 t9) ∧
   ∃ t10 : Option Nat, t4[t7.toNat * 2 + 1]? = some (.map t10) ∧
   Al w8 (.cells #[.int .i64 (0 : Int), .map none] 96) fun w11 =>
   StL w11 (Addr.mk w8.heap.size 0 none) 0 [.int .i64 t9, .map t10] fun w12 =>
   Dr w12 fun w13 =>
   ∃ p14 : Option Nat, w13.cell? ((Addr.mk w8.heap.size 0 none).add 1) = some (.map p14) ∧
   ∃ a15 : Addr, some (Addr.mk w.heap.size 0 none) = some a15 ∧
   ∃ n16 : Int, w13.cell? (Addr.mk w8.heap.size 0 none) = some (.int .i64 n16) ∧
   (C.maps_Clone_map_int_api_Page_int_api_Page p14 (fun r17 w18 =>
   w18.cell? (Addr.mk w8.heap.size 0 none) = some (.int .i64 n16) ∧
   0 ≤ t7 ∧ t7 < (64 : Int) ∧
   (StL w18 (a15.add (t7.toNat * 2)) 0 [.int .i64 n16, .map r17] fun w19 =>
   l6 (IntKind.i64.wrap (t7 + (1 : Int))) w19) ∧
   True) w13) ∧
   True)
   else
    (K (some (Addr.mk w.heap.size 0 none)) w8)) → l6 t7 w8) →
   l6 (0 : Int) w2
set_option maxRecDepth 100000 in
theorem S.tables_Space_Copy_ok (s1 : Option Addr) (K : Option Addr → World → Prop) (w : World) (h : S.tables_Space_Copy s1 K w) : C.tables_Space_Copy s1 K w := by
  have e : fnV Try.prog Try.f50 (bodyOf Try.f50) (.t none (.u) (.t none (.u) (.t none (.t none (.u) (.t none (.t (some [(12, .c (.i .i64))]) (.t none (.u) (.t none (.t none (.u) (.u)) (.t none (.t none (.t none (.u) (.r none (.one 0 254 (.one 1 1020 (.one 2 880 (.one 4 776 (.one 5 776 (.one 8 200 (.one 9 200 (.hold 3 64 2047 (.alt 6 (.one 7 0 (.one 10 0 (.alt 11 (.done) (.none)))) (.none)))))))))))) (.u)) (.u)))) (.u)) (.u))) (.t none (.u) (.u))))) [(0, .c (.p))] [.pointer s1] K w = S.tables_Space_Copy s1 K w := by kernel_rfl
  exact okF_mk Try.func50 rfl (fn_sound names_ok follows_ok Try.func50 rfl (by kernel_rfl) (Eq.mpr e h))

/-- buttress/tables.place -/
def S.tables_place (i1 : Int) (K : Bool → World → Prop) (w : World) : Prop :=
  bif decide (i1 ≥ (0 : Int)) then
    (K (decide (i1 < (64 : Int))) w)
   else
    (K false w)
set_option maxRecDepth 100000 in
theorem S.tables_place_ok (i1 : Int) (K : Bool → World → Prop) (w : World) (h : S.tables_place i1 K w) : C.tables_place i1 K w := by
  have e : fnV Try.prog Try.f68 (bodyOf Try.f68) (.t none (.u) (.t none (.u) (.u))) [(0, .c (.b))] [.int .i64 i1] K w = S.tables_place i1 K w := by kernel_rfl
  exact okF_mk Try.func68 rfl (fn_sound names_ok follows_ok Try.func68 rfl (by kernel_rfl) (Eq.mpr e h))

/-- (*buttress/tables.Space).Table$1 -/
def S.tables_Space_Table_1 (t1 : Int) (t2 : Option Nat) (t3 : Addr) (K : Bool → World → Prop) (w : World) : Prop :=
  Al w (.cells #[.int .i64 t1, .map t2] 96) fun w4 =>
   ∃ p5 : Option Nat, w4.cell? ((Addr.mk w.heap.size 0 none).add 1) = some (.map p5) ∧
   bif !p5.isNone then
    (∃ n6 : Int, w4.cell? (Addr.mk w.heap.size 0 none) = some (.int .i64 n6) ∧
   ∃ t7 : Int, w4.cell? t3 = some (.int .i64 t7) ∧
   K (n6 == t7) w4)
   else
    (K false w4)
set_option maxRecDepth 100000 in
theorem S.tables_Space_Table_1_ok (t1 : Int) (t2 : Option Nat) (t3 : Addr) (K : Bool → World → Prop) (w : World) (h : S.tables_Space_Table_1 t1 t2 t3 K w) : C.tables_Space_Table_1 t1 t2 t3 K w := by
  have e : fnV Try.prog Try.f69 (bodyOf Try.f69) (.t none (.u) (.t none (.u) (.u))) [(0, .c (.b))] [.agg #[.int .i64 t1, .map t2], .pointer (some t3)] K w = S.tables_Space_Table_1 t1 t2 t3 K w := by kernel_rfl
  exact okF_mk Try.func69 rfl (fn_sound names_ok follows_ok Try.func69 rfl (by kernel_rfl) (Eq.mpr e h))

/-- (buttress/tables.table).laid -/
def S.tables_table_laid (t1 : Int) (t2 : Option Nat) (K : Sl → World → Prop) (w : World) : Prop :=
  Al w (.cells #[.int .i64 t1, .map t2] 96) fun w3 =>
   ∃ p4 : Option Nat, w3.cell? ((Addr.mk w.heap.size 0 none).add 1) = some (.map p4) ∧
   C.maps_Keys_map_int_api_Page_int_api_Page p4 (fun r5 w6 =>
   C.slices_Sorted_int r5 (fun r7 w8 =>
   ∀ l9 : Sl → Int → World → Prop,
   (∀ (out10 : Sl) (t11 : Int) (w12 : World), (bif decide (t11 < (r7.len : Int)) then
    (∃ a13 : Addr, r7.a = some a13 ∧ 0 ≤ t11 ∧ t11 < (r7.len : Int) ∧
   ∃ t14 : Int, w12.cell? (a13.add (t11.toNat * 1)) = some (.int .i64 t14) ∧
   ∃ p15 : Option Nat, w12.cell? ((Addr.mk w.heap.size 0 none).add 1) = some (.map p15) ∧
   ∃ t16 : Int, ∃ t17 : Int, Lk1 Try.prog 94 (.map p15) (.int .i64 t14) (.agg #[.int .i64 t16, .int .i64 t17]) w12 ∧
   Al w12 (.cells #[.int .i64 t14, .int .i64 t16, .int .i64 t17] 67) fun w18 =>
   ∃ (t19 : Sl) (w20 : World), AppR Try.prog [57, 57] 57 (.slice out10.a out10.len out10.cap) (.slice (some (Addr.mk w12.heap.size 0 none)) 1 1) w18 t19 w20 ∧
   l9 t19 (IntKind.i64.wrap (t11 + (1 : Int))) w20)
   else
    (K out10 w12)) → l9 out10 t11 w12) →
   l9 ⟨none, 0, 0⟩ (0 : Int) w8) w6) w3
set_option maxRecDepth 100000 in
theorem S.tables_table_laid_ok (t1 : Int) (t2 : Option Nat) (K : Sl → World → Prop) (w : World) (h : S.tables_table_laid t1 t2 K w) : C.tables_table_laid t1 t2 K w := by
  have e : fnV Try.prog Try.f71 (bodyOf Try.f71) (.t none (.u) (.t none (.u) (.t none (.t none (.u) (.t none (.t (some [(3, .c (.s)), (11, .c (.i .i64))]) (.t none (.u) (.t none (.t none (.u) (.u)) (.t none (.t none (.t none (.u) (.u)) (.u)) (.u)))) (.u)) (.u))) (.t none (.u) (.u))))) [(0, .c (.s))] [.agg #[.int .i64 t1, .map t2]] K w = S.tables_table_laid t1 t2 K w := by kernel_rfl
  exact okF_mk Try.func71 rfl (fn_sound names_ok follows_ok Try.func71 rfl (by kernel_rfl) (Eq.mpr e h))

/-- buttress/tables.page -/
def S.tables_page (n1 : Int) (K : Bool → World → Prop) (w : World) : Prop :=
  bif decide (n1 ≥ (0 : Int)) then
    (K (decide (n1 < (4096 : Int))) w)
   else
    (K false w)
set_option maxRecDepth 100000 in
theorem S.tables_page_ok (n1 : Int) (K : Bool → World → Prop) (w : World) (h : S.tables_page n1 K w) : C.tables_page n1 K w := by
  have e : fnV Try.prog Try.f72 (bodyOf Try.f72) (.t none (.u) (.t none (.u) (.u))) [(0, .c (.b))] [.int .i64 n1] K w = S.tables_page n1 K w := by kernel_rfl
  exact okF_mk Try.func72 rfl (fn_sound names_ok follows_ok Try.func72 rfl (by kernel_rfl) (Eq.mpr e h))

/-- buttress/tables.rights -/
def S.tables_rights (n1 : Int) (K : Bool → World → Prop) (w : World) : Prop :=
  bif decide (n1 ≥ (0 : Int)) then
    (K (decide (n1 ≤ (7 : Int))) w)
   else
    (K false w)
set_option maxRecDepth 100000 in
theorem S.tables_rights_ok (n1 : Int) (K : Bool → World → Prop) (w : World) (h : S.tables_rights n1 K w) : C.tables_rights n1 K w := by
  have e : fnV Try.prog Try.f73 (bodyOf Try.f73) (.t none (.u) (.t none (.u) (.u))) [(0, .c (.b))] [.int .i64 n1] K w = S.tables_rights n1 K w := by kernel_rfl
  exact okF_mk Try.func73 rfl (fn_sound names_ok follows_ok Try.func73 rfl (by kernel_rfl) (Eq.mpr e h))

/-- (*buttress/tables.Space).of -/
def S.tables_Space_of (s1 : Option Addr) (n2 : Int) (K : Option Addr → Bool → World → Prop) (w : World) : Prop :=
  C.words_Field (IntKind.u64.wrap n2) (6 : Int) (6 : Int) (fun r3 r4 w5 =>
   Dr w5 fun w6 =>
   ∃ a7 : Addr, s1 = some a7 ∧
   0 ≤ r3 ∧ r3 < (64 : Int) ∧
   ∃ a8 : Addr, s1 = some a8 ∧
   0 ≤ r3 ∧ r3 < (64 : Int) ∧
   ∃ p9 : Option Nat, w6.cell? ((a8.add (r3.toNat * 2)).add 1) = some (.map p9) ∧
   K (some (a7.add (r3.toNat * 2))) (!p9.isNone) w6) w
set_option maxRecDepth 100000 in
theorem S.tables_Space_of_ok (s1 : Option Addr) (n2 : Int) (K : Option Addr → Bool → World → Prop) (w : World) (h : S.tables_Space_of s1 n2 K w) : C.tables_Space_of s1 n2 K w := by
  have e : fnV Try.prog Try.f74 (bodyOf Try.f74) (.t none (.u) (.t none (.u) (.t none (.r none (.one 0 8162 (.one 1 8172 (.one 2 8160 (.one 3 8160 (.one 4 8160 (.one 5 8256 (.one 6 8576 (.one 7 8192 (.one 8 8192 (.one 9 8192 (.one 10 8192 (.one 11 8192 (.one 12 8192 (.one 13 0 (.one 14 0 (.done))))))))))))))))) (.u)))) [(0, .c (.p)), (1, .c (.b))] [.pointer s1, .int .i64 n2] K w = S.tables_Space_of s1 n2 K w := by kernel_rfl
  exact okF_mk Try.func74 rfl (fn_sound names_ok follows_ok Try.func74 rfl (by kernel_rfl) (Eq.mpr e h))
end Go.Proofs.Ytmfbhjfkagnahaa
