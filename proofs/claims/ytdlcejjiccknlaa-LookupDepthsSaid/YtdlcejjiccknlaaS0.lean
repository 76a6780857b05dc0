/- The functions' texts, and that a call comes to them. Printed by a program of mine (gen.py). -/
import Derived.Test.YtdlcejjiccknlaaC
set_option linter.unusedVariables false
namespace Go.Proofs.Ytdlcejjiccknlaa
open Go Go.Vc Go.Proofs

/-- buttress/caps.Check -/
def S.caps_Check (c1 : Int) (c2 : Int) (c3 : Int) (c4 : Int) (c5 : Int) (c6 : Int) (K : Int → World → Prop) (w : World) : Prop :=
  Al w (.cells #[.int .i64 c1, .int .i64 c2, .int .i64 c3, .int .u64 c4, .int .u64 c5, .int .i64 c6] 38) fun w7 =>
   ∀ k8 : Bool → World → Prop,
   (∀ (right9 : Bool) (w10 : World), (LdL w10 (Addr.mk w.heap.size 0 none) 0 [.i .i64, .i .i64, .i .i64, .i .u64, .i .u64, .i .i64] fun (t11 : Int) (t12 : Int) (t13 : Int) (t14 : Int) (t15 : Int) (t16 : Int) =>
   ∃ eq17 : Bool, EqB Try.prog .eql 38 (.tmp 35) (.tmp 36) (.agg #[.int .i64 t11, .int .i64 t12, .int .i64 t13, .int .u64 t14, .int .u64 t15, .int .i64 t16]) (.agg #[.int .i64 (0 : Int), .int .i64 (0 : Int), .int .i64 (0 : Int), .int .u64 (0 : Int), .int .u64 (0 : Int), .int .i64 (0 : Int)]) eq17 ∧
   bif eq17 then
    (K (0 : Int) w10)
   else
    (∀ k18 : Bool → World → Prop,
   (∀ (t19 : Bool) (w20 : World), (bif t19 then
    (K (40 : Int) w20)
   else
    (∀ k21 : Bool → World → Prop,
   (∀ (t22 : Bool) (w23 : World), (bif t22 then
    (bif t22 then
    (K (40 : Int) w23)
   else
    (K (0 : Int) w23))
   else
    (∃ bits24 : Int, w23.cell? ((Addr.mk w.heap.size 0 none).add 5) = some (.int .i64 bits24) ∧
   bif bits24 != (0 : Int) then
    (∃ kind25 : Int, w23.cell? (Addr.mk w.heap.size 0 none) = some (.int .i64 kind25) ∧
   bif kind25 != (2 : Int) then
    (K (40 : Int) w23)
   else
    (K (0 : Int) w23))
   else
    (K (0 : Int) w23))) → k21 t22 w23) →
   (∃ badge26 : Int, w20.cell? ((Addr.mk w.heap.size 0 none).add 3) = some (.int .u64 badge26) ∧
   bif badge26 != (0 : Int) then
    (∃ kind27 : Int, w20.cell? (Addr.mk w.heap.size 0 none) = some (.int .i64 kind27) ∧
   C.caps_badged kind27 (fun r28 w29 =>
   k21 (!r28) w29) w20)
   else
    (k21 false w20)))) → k18 t19 w20) →
   (bif !right9 then
    (k18 (!right9) w10)
   else
    (∃ kind30 : Int, w10.cell? (Addr.mk w.heap.size 0 none) = some (.int .i64 kind30) ∧
   C.caps_limited kind30 (fun r31 w32 =>
   bif !r31 then
    (∃ rights33 : Int, w32.cell? ((Addr.mk w.heap.size 0 none).add 2) = some (.int .i64 rights33) ∧
   k18 (rights33 != (7 : Int)) w32)
   else
    (k18 false w32)) w10)))) → k8 right9 w10) →
   (∃ kind34 : Int, w7.cell? (Addr.mk w.heap.size 0 none) = some (.int .i64 kind34) ∧
   bif decide (kind34 > (0 : Int)) then
    (∃ kind35 : Int, w7.cell? (Addr.mk w.heap.size 0 none) = some (.int .i64 kind35) ∧
   bif decide (kind35 < (10 : Int)) then
    (∃ obj36 : Int, w7.cell? ((Addr.mk w.heap.size 0 none).add 1) = some (.int .i64 obj36) ∧
   bif decide (obj36 ≥ (0 : Int)) then
    (∃ obj37 : Int, w7.cell? ((Addr.mk w.heap.size 0 none).add 1) = some (.int .i64 obj37) ∧
   bif decide (obj37 < (2147483648 : Int)) then
    (∃ rights38 : Int, w7.cell? ((Addr.mk w.heap.size 0 none).add 2) = some (.int .i64 rights38) ∧
   C.caps_rights rights38 (fun r39 w40 =>
   bif r39 then
    (∃ guard41 : Int, w40.cell? ((Addr.mk w.heap.size 0 none).add 4) = some (.int .u64 guard41) ∧
   ∃ bits42 : Int, w40.cell? ((Addr.mk w.heap.size 0 none).add 5) = some (.int .i64 bits42) ∧
   C.caps_guard guard41 bits42 (fun r43 w44 =>
   k8 r43 w44) w40)
   else
    (k8 false w40)) w7)
   else
    (k8 false w7))
   else
    (k8 false w7))
   else
    (k8 false w7))
   else
    (k8 false w7))
set_option maxRecDepth 100000 in
theorem S.caps_Check_ok (c1 : Int) (c2 : Int) (c3 : Int) (c4 : Int) (c5 : Int) (c6 : Int) (K : Int → World → Prop) (w : World) (h : S.caps_Check c1 c2 c3 c4 c5 c6 K w) : C.caps_Check c1 c2 c3 c4 c5 c6 K w := by
  have e : fnV Try.prog Try.f58 (bodyOf Try.f58) (.t none (.u) (.t none (.r (some [(3, .c (.b))]) .done) (.t none (.t none (.t none (.u) (.t none (.t none (.u) (.u)) (.t none (.t none (.u) (.t (some [(38, .c (.b))]) (.u) (.u))) (.t none (.t none (.u) (.u)) (.t none (.t none (.r (some [(50, .c (.b))]) .done) (.t none (.u) (.u))) (.t none (.t none (.u) (.u)) (.u))))))) (.u)) (.t none (.u) (.u))))) [(0, .c (.i .i64))] [.agg #[.int .i64 c1, .int .i64 c2, .int .i64 c3, .int .u64 c4, .int .u64 c5, .int .i64 c6]] K w = S.caps_Check c1 c2 c3 c4 c5 c6 K w := by kernel_rfl
  exact okF_mk Try.func58 rfl (fn_sound names_ok follows_ok Try.func58 rfl (by kernel_rfl) (Eq.mpr e h))

/-- buttress/caps.rights -/
def S.caps_rights (n1 : Int) (K : Bool → World → Prop) (w : World) : Prop :=
  bif decide (n1 ≥ (0 : Int)) then
    (K (decide (n1 ≤ (7 : Int))) w)
   else
    (K false w)
set_option maxRecDepth 100000 in
theorem S.caps_rights_ok (n1 : Int) (K : Bool → World → Prop) (w : World) (h : S.caps_rights n1 K w) : C.caps_rights n1 K w := by
  have e : fnV Try.prog Try.f72 (bodyOf Try.f72) (.t none (.u) (.t none (.u) (.u))) [(0, .c (.b))] [.int .i64 n1] K w = S.caps_rights n1 K w := by kernel_rfl
  exact okF_mk Try.func72 rfl (fn_sound names_ok follows_ok Try.func72 rfl (by kernel_rfl) (Eq.mpr e h))

/-- buttress/caps.guard -/
def S.caps_guard (g1 : Int) (bits2 : Int) (K : Bool → World → Prop) (w : World) : Prop :=
  C.words_Mask bits2 (fun r3 r4 w5 =>
   bif r4 == (0 : Int) then
    (K ((andNotI .u64 g1 r3) == (0 : Int)) w5)
   else
    (K false w5)) w
set_option maxRecDepth 100000 in
theorem S.caps_guard_ok (g1 : Int) (bits2 : Int) (K : Bool → World → Prop) (w : World) (h : S.caps_guard g1 bits2 K w) : C.caps_guard g1 bits2 K w := by
  have e : fnV Try.prog Try.f73 (bodyOf Try.f73) (.t none (.u) (.t none (.u) (.t none (.u) (.u)))) [(0, .c (.b))] [.int .u64 g1, .int .i64 bits2] K w = S.caps_guard g1 bits2 K w := by kernel_rfl
  exact okF_mk Try.func73 rfl (fn_sound names_ok follows_ok Try.func73 rfl (by kernel_rfl) (Eq.mpr e h))

/-- buttress/caps.limited -/
def S.caps_limited (kind1 : Int) (K : Bool → World → Prop) (w : World) : Prop :=
  bif kind1 == (4 : Int) then
    (K true w)
   else
    (bif kind1 == (5 : Int) then
    (K true w)
   else
    (K (kind1 == (6 : Int)) w))
set_option maxRecDepth 100000 in
theorem S.caps_limited_ok (kind1 : Int) (K : Bool → World → Prop) (w : World) (h : S.caps_limited kind1 K w) : C.caps_limited kind1 K w := by
  have e : fnV Try.prog Try.f74 (bodyOf Try.f74) (.t none (.u) (.t none (.u) (.u))) [(0, .c (.b))] [.int .i64 kind1] K w = S.caps_limited kind1 K w := by kernel_rfl
  exact okF_mk Try.func74 rfl (fn_sound names_ok follows_ok Try.func74 rfl (by kernel_rfl) (Eq.mpr e h))

/-- buttress/caps.badged -/
def S.caps_badged (kind1 : Int) (K : Bool → World → Prop) (w : World) : Prop :=
  bif kind1 == (4 : Int) then
    (K true w)
   else
    (K (kind1 == (5 : Int)) w)
set_option maxRecDepth 100000 in
theorem S.caps_badged_ok (kind1 : Int) (K : Bool → World → Prop) (w : World) (h : S.caps_badged kind1 K w) : C.caps_badged kind1 K w := by
  have e : fnV Try.prog Try.f75 (bodyOf Try.f75) (.t none (.u) (.t none (.u) (.u))) [(0, .c (.b))] [.int .i64 kind1] K w = S.caps_badged kind1 K w := by kernel_rfl
  exact okF_mk Try.func75 rfl (fn_sound names_ok follows_ok Try.func75 rfl (by kernel_rfl) (Eq.mpr e h))

/-- cmp.Or[int] -/
def S.cmp_Or_int (vals1 : Sl) (K : Int → World → Prop) (w : World) : Prop :=
  ∀ l2 : Int → World → Prop,
   (∀ (t3 : Int) (w4 : World), (bif decide (t3 < (vals1.len : Int)) then
    (∃ a5 : Addr, vals1.a = some a5 ∧ 0 ≤ t3 ∧ t3 < (vals1.len : Int) ∧
   ∃ t6 : Int, w4.cell? (a5.add (t3.toNat * 1)) = some (.int .i64 t6) ∧
   bif t6 != (0 : Int) then
    (K t6 w4)
   else
    (l2 (IntKind.i64.wrap (t3 + (1 : Int))) w4))
   else
    (K (0 : Int) w4)) → l2 t3 w4) →
   l2 (0 : Int) w
set_option maxRecDepth 100000 in
theorem S.cmp_Or_int_ok (vals1 : Sl) (K : Int → World → Prop) (w : World) (h : S.cmp_Or_int vals1 K w) : C.cmp_Or_int vals1 K w := by
  have e : fnV Try.prog Try.f79 (bodyOf Try.f79) (.t none (.u) (.t none (.u) (.t none (.t none (.u) (.t none (.t (some [(8, .c (.i .i64))]) (.t none (.u) (.t none (.t none (.u) (.u)) (.t none (.t none (.t none (.u) (.t none (.u) (.t none (.t none (.u) (.u)) (.u)))) (.u)) (.u)))) (.u)) (.u))) (.t none (.u) (.u))))) [(0, .c (.i .i64))] [.slice vals1.a vals1.len vals1.cap] K w = S.cmp_Or_int vals1 K w := by kernel_rfl
  exact okF_mk Try.func79 rfl (fn_sound names_ok follows_ok Try.func79 rfl (by kernel_rfl) (Eq.mpr e h))

/-- cmp.Compare[int] -/
def S.cmp_Compare_int (x1 : Int) (y2 : Int) (K : Int → World → Prop) (w : World) : Prop :=
  C.cmp_isNaN_int x1 (fun r3 w4 =>
   C.cmp_isNaN_int y2 (fun r5 w6 =>
   bif r3 then
    (bif r5 then
    (K (0 : Int) w6)
   else
    (K (-1 : Int) w6))
   else
    (bif r5 then
    (K (1 : Int) w6)
   else
    (bif decide (x1 < y2) then
    (K (-1 : Int) w6)
   else
    (bif decide (x1 > y2) then
    (K (1 : Int) w6)
   else
    (K (0 : Int) w6))))) w4) w
set_option maxRecDepth 100000 in
theorem S.cmp_Compare_int_ok (x1 : Int) (y2 : Int) (K : Int → World → Prop) (w : World) (h : S.cmp_Compare_int x1 y2 K w) : C.cmp_Compare_int x1 y2 K w := by
  have e : fnV Try.prog Try.f80 (bodyOf Try.f80) (.t none (.u) (.t none (.u) (.t none (.u) (.t none (.t none (.u) (.t none (.t none (.t none (.u) (.t none (.t none (.u) (.u)) (.u))) (.t none (.u) (.u))) (.u))) (.t none (.t none (.u) (.t none (.t none (.u) (.u)) (.u))) (.t none (.t none (.u) (.t none (.t none (.u) (.u)) (.u))) (.t none (.t none (.u) (.t none (.t none (.u) (.u)) (.u))) (.t none (.u) (.u))))))))) [(0, .c (.i .i64))] [.int .i64 x1, .int .i64 y2] K w = S.cmp_Compare_int x1 y2 K w := by kernel_rfl
  exact okF_mk Try.func80 rfl (fn_sound names_ok follows_ok Try.func80 rfl (by kernel_rfl) (Eq.mpr e h))

/-- cmp.isNaN[int] -/
def S.cmp_isNaN_int (x1 : Int) (K : Bool → World → Prop) (w : World) : Prop :=
  K (x1 != x1) w
set_option maxRecDepth 100000 in
theorem S.cmp_isNaN_int_ok (x1 : Int) (K : Bool → World → Prop) (w : World) (h : S.cmp_isNaN_int x1 K w) : C.cmp_isNaN_int x1 K w := by
  have e : fnV Try.prog Try.f88 (bodyOf Try.f88) (.t none (.u) (.t none (.u) (.u))) [(0, .c (.b))] [.int .i64 x1] K w = S.cmp_isNaN_int x1 K w := by kernel_rfl
  exact okF_mk Try.func88 rfl (fn_sound names_ok follows_ok Try.func88 rfl (by kernel_rfl) (Eq.mpr e h))

/-- buttress/buttresslaw05.SlotsFull -/
def S.law05_SlotsFull (bits1 : Int) (drop2 : Int) (K : Bool → World → Prop) (w : World) : Prop :=
  C.slots_New  (fun r3 w4 =>
   bif r3.isNone then
    (K false w4)
   else
    (∀ l5 : Int → World → Prop,
   (∀ (i6 : Int) (w7 : World), (bif decide (i6 < (64 : Int)) then
    (C.slots_Nodes_Make r3 (IntKind.i64.wrap ((1 : Int) + (andI .i64 bits1 (7 : Int)))) (fun r8 r9 w10 =>
   ∀ k11 : Bool → World → Prop,
   (∀ (t12 : Bool) (w13 : World), (bif t12 then
    (K false w13)
   else
    (l5 (IntKind.i64.wrap (i6 + (1 : Int))) w13)) → k11 t12 w13) →
   (bif r9 != (0 : Int) then
    (k11 true w10)
   else
    (bif r8 != i6 then
    (k11 true w10)
   else
    (0 ≤ (andI .i64 i6 (31 : Int)) ∧
   bif (andI .i64 (shrI .i64 drop2 (andI .i64 i6 (31 : Int))) (1 : Int)) == (1 : Int) then
    (C.slots_Nodes_Drop r3 r8 (fun r14 w15 =>
   k11 (r14 != (0 : Int)) w15) w10)
   else
    (k11 false w10))))) w7)
   else
    (C.slots_Nodes_Make r3 (IntKind.i64.wrap ((1 : Int) + (andI .i64 bits1 (7 : Int)))) (fun r16 r17 w18 =>
   ∀ l19 : Int → World → Prop,
   (∀ (i20 : Int) (w21 : World), (bif decide (i20 < (64 : Int)) then
    (C.slots_Nodes_Size r3 i20 (fun r22 r23 w24 =>
   ∀ k25 : Bool → World → Prop,
   (∀ (t26 : Bool) (w27 : World), (bif t26 then
    (K false w27)
   else
    (l19 (IntKind.i64.wrap (i20 + (1 : Int))) w27)) → k25 t26 w27) →
   (0 ≤ (andI .i64 i20 (31 : Int)) ∧
   bif !(r23 == ((andI .i64 (shrI .i64 drop2 (andI .i64 i20 (31 : Int))) (1 : Int)) == (0 : Int))) then
    (k25 true w24)
   else
    (bif r23 then
    (k25 (r22 != (IntKind.i64.wrap ((1 : Int) + (andI .i64 bits1 (7 : Int))))) w24)
   else
    (k25 false w24)))) w21)
   else
    (bif r17 == (2 : Int) then
    (C.law05_fixed  (fun r28 w29 =>
   K r28 w29) w21)
   else
    (K false w21))) → l19 i20 w21) →
   l19 (0 : Int) w18) w7)) → l5 i6 w7) →
   l5 (0 : Int) w4)) w
set_option maxRecDepth 100000 in
theorem S.law05_SlotsFull_ok (bits1 : Int) (drop2 : Int) (K : Bool → World → Prop) (w : World) (h : S.law05_SlotsFull bits1 drop2 K w) : C.law05_SlotsFull bits1 drop2 K w := by
  have e : fnV Try.prog Try.f3 (bodyOf Try.f3) (.t none (.u) (.t none (.u) (.t none (.t none (.u) (.t none (.t none (.u) (.u)) (.u))) (.t none (.u) (.t none (.t none (.u) (.t none (.t (some [(7, .c (.i .i64))]) (.t none (.t none (.u) (.t none (.u) (.u))) (.t none (.t none (.t none (.u) (.t none (.r (some [(51, .c (.b))]) .done) (.t none (.t none (.u) (.u)) (.u)))) (.u)) (.u))) (.u)) (.u))) (.t none (.u) (.t none (.t none (.u) (.t none (.t (some [(12, .c (.i .i64))]) (.t none (.t none (.u) (.t none (.u) (.u))) (.t none (.t none (.t none (.u) (.t none (.r (some [(83, .c (.b))]) .done) (.t none (.t none (.u) (.u)) (.u)))) (.u)) (.u))) (.u)) (.u))) (.t none (.u) (.u))))))))) [(0, .c (.b))] [.int .i64 bits1, .int .i64 drop2] K w = S.law05_SlotsFull bits1 drop2 K w := by kernel_rfl
  exact okF_mk Try.func3 rfl (fn_sound names_ok follows_ok Try.func3 rfl (by kernel_rfl) (Eq.mpr e h))

/-- buttress/buttresslaw05.SlotsKeeps -/
def S.law05_SlotsKeeps (script1 : Sl) (K : Bool → World → Prop) (w : World) : Prop :=
  C.slots_New  (fun r2 w3 =>
   bif r2.isNone then
    (K false w3)
   else
    (∀ l4 : Int → Int → World → Prop,
   (∀ (had5 : Int) (i6 : Int) (w7 : World), (∀ k8 : Bool → World → Prop,
   (∀ (t9 : Bool) (w10 : World), (bif t9 then
    (∃ a11 : Addr, script1.a = some a11 ∧ 0 ≤ i6 ∧ i6 < (script1.len : Int) ∧
   LdL w10 (a11.add (i6.toNat * 12)) 0 [.i .i64, .i .i64, .i .i64, .i .i64, .i .i64, .i .i64, .i .i64, .i .i64, .i .i64, .i .u64, .i .u64, .i .i64] fun (t12 : Int) (t13 : Int) (t14 : Int) (t15 : Int) (t16 : Int) (t17 : Int) (t18 : Int) (t19 : Int) (t20 : Int) (t21 : Int) (t22 : Int) (t23 : Int) =>
   Al w10 (.cells #[.int .i64 (0 : Int), .int .i64 (0 : Int), .int .i64 (0 : Int), .int .i64 (0 : Int), .int .i64 (0 : Int), .int .i64 (0 : Int), .int .i64 (0 : Int), .int .i64 (0 : Int), .int .i64 (0 : Int), .int .u64 (0 : Int), .int .u64 (0 : Int), .int .i64 (0 : Int)] 62) fun w24 =>
   StL w24 (Addr.mk w10.heap.size 0 none) 0 [.int .i64 t12, .int .i64 t13, .int .i64 t14, .int .i64 t15, .int .i64 t16, .int .i64 t17, .int .i64 t18, .int .i64 t19, .int .i64 t20, .int .u64 t21, .int .u64 t22, .int .i64 t23] fun w25 =>
   ∃ kind26 : Int, w25.cell? (Addr.mk w10.heap.size 0 none) = some (.int .i64 kind26) ∧
   ∀ k27 : Int → World → Prop,
   (∀ (had28 : Int) (w29 : World), (C.slots_Nodes_Held r2 (fun r30 w31 =>
   bif (r30.len : Int) != had28 then
    (K false w31)
   else
    (l4 had28 (IntKind.i64.wrap (i6 + (1 : Int))) w31)) w29) → k27 had28 w29) →
   (bif kind26 == (0 : Int) then
    (∃ n32 : Int, w25.cell? ((Addr.mk w10.heap.size 0 none).add 1) = some (.int .i64 n32) ∧
   C.slots_Nodes_Make r2 n32 (fun r33 r34 w35 =>
   k27 had5 w35) w25)
   else
    (bif kind26 == (1 : Int) then
    (∃ n36 : Int, w25.cell? ((Addr.mk w10.heap.size 0 none).add 1) = some (.int .i64 n36) ∧
   C.slots_Nodes_Drop r2 n36 (fun r37 w38 =>
   k27 had5 w38) w25)
   else
    (bif kind26 == (2 : Int) then
    (LdL w25 ((Addr.mk w10.heap.size 0 none).add 2) 0 [.i .i64, .i .i64] fun (a39 : Int) (a40 : Int) =>
   LdL w25 ((Addr.mk w10.heap.size 0 none).add 6) 0 [.i .i64, .i .i64, .i .i64, .i .u64, .i .u64, .i .i64] fun (c41 : Int) (c42 : Int) (c43 : Int) (c44 : Int) (c45 : Int) (c46 : Int) =>
   C.slots_Nodes_Put r2 a39 a40 c41 c42 c43 c44 c45 c46 (fun r47 w48 =>
   bif r47 == (0 : Int) then
    (k27 (IntKind.i64.wrap (had5 + (1 : Int))) w48)
   else
    (k27 had5 w48)) w25)
   else
    (bif kind26 == (3 : Int) then
    (LdL w25 ((Addr.mk w10.heap.size 0 none).add 2) 0 [.i .i64, .i .i64] fun (a49 : Int) (a50 : Int) =>
   C.slots_Nodes_Get r2 a49 a50 (fun r51 r52 r53 r54 r55 r56 r57 w58 =>
   Al w58 (.cells #[.int .i64 (0 : Int), .int .i64 (0 : Int), .int .i64 (0 : Int), .int .u64 (0 : Int), .int .u64 (0 : Int), .int .i64 (0 : Int)] 38) fun w59 =>
   StL w59 (Addr.mk w58.heap.size 0 none) 0 [.int .i64 r51, .int .i64 r52, .int .i64 r53, .int .u64 r54, .int .u64 r55, .int .i64 r56] fun w60 =>
   LdL w60 ((Addr.mk w10.heap.size 0 none).add 2) 0 [.i .i64, .i .i64] fun (a61 : Int) (a62 : Int) =>
   C.slots_Nodes_Take r2 a61 a62 (fun r63 r64 r65 r66 r67 r68 r69 w70 =>
   Al w70 (.cells #[.int .i64 (0 : Int), .int .i64 (0 : Int), .int .i64 (0 : Int), .int .u64 (0 : Int), .int .u64 (0 : Int), .int .i64 (0 : Int)] 38) fun w71 =>
   StL w71 (Addr.mk w70.heap.size 0 none) 0 [.int .i64 r63, .int .i64 r64, .int .i64 r65, .int .u64 r66, .int .u64 r67, .int .i64 r68] fun w72 =>
   LdL w72 (Addr.mk w70.heap.size 0 none) 0 [.i .i64, .i .i64, .i .i64, .i .u64, .i .u64, .i .i64] fun (t73 : Int) (t74 : Int) (t75 : Int) (t76 : Int) (t77 : Int) (t78 : Int) =>
   LdL w72 (Addr.mk w58.heap.size 0 none) 0 [.i .i64, .i .i64, .i .i64, .i .u64, .i .u64, .i .i64] fun (t79 : Int) (t80 : Int) (t81 : Int) (t82 : Int) (t83 : Int) (t84 : Int) =>
   ∃ eq85 : Bool, EqB Try.prog .neq 38 (.tmp 83) (.tmp 84) (.agg #[.int .i64 t73, .int .i64 t74, .int .i64 t75, .int .u64 t76, .int .u64 t77, .int .i64 t78]) (.agg #[.int .i64 t79, .int .i64 t80, .int .i64 t81, .int .u64 t82, .int .u64 t83, .int .i64 t84]) eq85 ∧
   bif eq85 then
    (K false w72)
   else
    (bif r69 == (0 : Int) then
    (k27 (IntKind.i64.wrap (had5 - (1 : Int))) w72)
   else
    (k27 had5 w72))) w60) w25)
   else
    (bif kind26 == (4 : Int) then
    (LdL w25 ((Addr.mk w10.heap.size 0 none).add 2) 0 [.i .i64, .i .i64] fun (a86 : Int) (a87 : Int) =>
   C.slots_Nodes_Get r2 a86 a87 (fun r88 r89 r90 r91 r92 r93 r94 w95 =>
   Al w95 (.cells #[.int .i64 (0 : Int), .int .i64 (0 : Int), .int .i64 (0 : Int), .int .u64 (0 : Int), .int .u64 (0 : Int), .int .i64 (0 : Int)] 38) fun w96 =>
   StL w96 (Addr.mk w95.heap.size 0 none) 0 [.int .i64 r88, .int .i64 r89, .int .i64 r90, .int .u64 r91, .int .u64 r92, .int .i64 r93] fun w97 =>
   LdL w97 ((Addr.mk w10.heap.size 0 none).add 2) 0 [.i .i64, .i .i64] fun (a98 : Int) (a99 : Int) =>
   LdL w97 ((Addr.mk w10.heap.size 0 none).add 4) 0 [.i .i64, .i .i64] fun (b100 : Int) (b101 : Int) =>
   C.slots_Nodes_Move r2 a98 a99 b100 b101 (fun r102 w103 =>
   LdL w103 ((Addr.mk w10.heap.size 0 none).add 4) 0 [.i .i64, .i .i64] fun (b104 : Int) (b105 : Int) =>
   C.slots_Nodes_Get r2 b104 b105 (fun r106 r107 r108 r109 r110 r111 r112 w113 =>
   Al w113 (.cells #[.int .i64 (0 : Int), .int .i64 (0 : Int), .int .i64 (0 : Int), .int .u64 (0 : Int), .int .u64 (0 : Int), .int .i64 (0 : Int)] 38) fun w114 =>
   StL w114 (Addr.mk w113.heap.size 0 none) 0 [.int .i64 r106, .int .i64 r107, .int .i64 r108, .int .u64 r109, .int .u64 r110, .int .i64 r111] fun w115 =>
   bif r102 == (0 : Int) then
    (LdL w115 (Addr.mk w113.heap.size 0 none) 0 [.i .i64, .i .i64, .i .i64, .i .u64, .i .u64, .i .i64] fun (t116 : Int) (t117 : Int) (t118 : Int) (t119 : Int) (t120 : Int) (t121 : Int) =>
   LdL w115 (Addr.mk w95.heap.size 0 none) 0 [.i .i64, .i .i64, .i .i64, .i .u64, .i .u64, .i .i64] fun (t122 : Int) (t123 : Int) (t124 : Int) (t125 : Int) (t126 : Int) (t127 : Int) =>
   ∃ eq128 : Bool, EqB Try.prog .neq 38 (.tmp 115) (.tmp 116) (.agg #[.int .i64 t116, .int .i64 t117, .int .i64 t118, .int .u64 t119, .int .u64 t120, .int .i64 t121]) (.agg #[.int .i64 t122, .int .i64 t123, .int .i64 t124, .int .u64 t125, .int .u64 t126, .int .i64 t127]) eq128 ∧
   bif eq128 then
    (K false w115)
   else
    (k27 had5 w115))
   else
    (k27 had5 w115)) w103) w97) w25)
   else
    (bif kind26 == (5 : Int) then
    (LdL w25 ((Addr.mk w10.heap.size 0 none).add 2) 0 [.i .i64, .i .i64] fun (a129 : Int) (a130 : Int) =>
   C.slots_Nodes_Get r2 a129 a130 (fun r131 r132 r133 r134 r135 r136 r137 w138 =>
   Al w138 (.cells #[.int .i64 (0 : Int), .int .i64 (0 : Int), .int .i64 (0 : Int), .int .u64 (0 : Int), .int .u64 (0 : Int), .int .i64 (0 : Int)] 38) fun w139 =>
   StL w139 (Addr.mk w138.heap.size 0 none) 0 [.int .i64 r131, .int .i64 r132, .int .i64 r133, .int .u64 r134, .int .u64 r135, .int .i64 r136] fun w140 =>
   LdL w140 ((Addr.mk w10.heap.size 0 none).add 4) 0 [.i .i64, .i .i64] fun (b141 : Int) (b142 : Int) =>
   C.slots_Nodes_Get r2 b141 b142 (fun r143 r144 r145 r146 r147 r148 r149 w150 =>
   Al w150 (.cells #[.int .i64 (0 : Int), .int .i64 (0 : Int), .int .i64 (0 : Int), .int .u64 (0 : Int), .int .u64 (0 : Int), .int .i64 (0 : Int)] 38) fun w151 =>
   StL w151 (Addr.mk w150.heap.size 0 none) 0 [.int .i64 r143, .int .i64 r144, .int .i64 r145, .int .u64 r146, .int .u64 r147, .int .i64 r148] fun w152 =>
   LdL w152 ((Addr.mk w10.heap.size 0 none).add 2) 0 [.i .i64, .i .i64] fun (a153 : Int) (a154 : Int) =>
   LdL w152 ((Addr.mk w10.heap.size 0 none).add 4) 0 [.i .i64, .i .i64] fun (b155 : Int) (b156 : Int) =>
   C.slots_Nodes_Swap r2 a153 a154 b155 b156 (fun r157 w158 =>
   LdL w158 ((Addr.mk w10.heap.size 0 none).add 2) 0 [.i .i64, .i .i64] fun (a159 : Int) (a160 : Int) =>
   C.slots_Nodes_Get r2 a159 a160 (fun r161 r162 r163 r164 r165 r166 r167 w168 =>
   Al w168 (.cells #[.int .i64 (0 : Int), .int .i64 (0 : Int), .int .i64 (0 : Int), .int .u64 (0 : Int), .int .u64 (0 : Int), .int .i64 (0 : Int)] 38) fun w169 =>
   StL w169 (Addr.mk w168.heap.size 0 none) 0 [.int .i64 r161, .int .i64 r162, .int .i64 r163, .int .u64 r164, .int .u64 r165, .int .i64 r166] fun w170 =>
   LdL w170 ((Addr.mk w10.heap.size 0 none).add 4) 0 [.i .i64, .i .i64] fun (b171 : Int) (b172 : Int) =>
   C.slots_Nodes_Get r2 b171 b172 (fun r173 r174 r175 r176 r177 r178 r179 w180 =>
   Al w180 (.cells #[.int .i64 (0 : Int), .int .i64 (0 : Int), .int .i64 (0 : Int), .int .u64 (0 : Int), .int .u64 (0 : Int), .int .i64 (0 : Int)] 38) fun w181 =>
   StL w181 (Addr.mk w180.heap.size 0 none) 0 [.int .i64 r173, .int .i64 r174, .int .i64 r175, .int .u64 r176, .int .u64 r177, .int .i64 r178] fun w182 =>
   bif r157 == (0 : Int) then
    (LdL w182 (Addr.mk w138.heap.size 0 none) 0 [.i .i64, .i .i64, .i .i64, .i .u64, .i .u64, .i .i64] fun (t183 : Int) (t184 : Int) (t185 : Int) (t186 : Int) (t187 : Int) (t188 : Int) =>
   LdL w182 (Addr.mk w180.heap.size 0 none) 0 [.i .i64, .i .i64, .i .i64, .i .u64, .i .u64, .i .i64] fun (t189 : Int) (t190 : Int) (t191 : Int) (t192 : Int) (t193 : Int) (t194 : Int) =>
   ∃ eq195 : Bool, EqB Try.prog .neq 38 (.tmp 158) (.tmp 159) (.agg #[.int .i64 t183, .int .i64 t184, .int .i64 t185, .int .u64 t186, .int .u64 t187, .int .i64 t188]) (.agg #[.int .i64 t189, .int .i64 t190, .int .i64 t191, .int .u64 t192, .int .u64 t193, .int .i64 t194]) eq195 ∧
   bif eq195 then
    (K false w182)
   else
    (LdL w182 (Addr.mk w150.heap.size 0 none) 0 [.i .i64, .i .i64, .i .i64, .i .u64, .i .u64, .i .i64] fun (t196 : Int) (t197 : Int) (t198 : Int) (t199 : Int) (t200 : Int) (t201 : Int) =>
   LdL w182 (Addr.mk w168.heap.size 0 none) 0 [.i .i64, .i .i64, .i .i64, .i .u64, .i .u64, .i .i64] fun (t202 : Int) (t203 : Int) (t204 : Int) (t205 : Int) (t206 : Int) (t207 : Int) =>
   ∃ eq208 : Bool, EqB Try.prog .neq 38 (.tmp 162) (.tmp 163) (.agg #[.int .i64 t196, .int .i64 t197, .int .i64 t198, .int .u64 t199, .int .u64 t200, .int .i64 t201]) (.agg #[.int .i64 t202, .int .i64 t203, .int .i64 t204, .int .u64 t205, .int .u64 t206, .int .i64 t207]) eq208 ∧
   bif eq208 then
    (K false w182)
   else
    (k27 had5 w182)))
   else
    (k27 had5 w182)) w170) w158) w152) w140) w25)
   else
    (k27 had5 w25))))))))
   else
    (C.law05_fixed  (fun r209 w210 =>
   K r209 w210) w10)) → k8 t9 w10) →
   (bif decide (i6 < (script1.len : Int)) then
    (k8 (decide (i6 < (80 : Int))) w7)
   else
    (k8 false w7))) → l4 had5 i6 w7) →
   l4 (0 : Int) (0 : Int) w3)) w
set_option maxRecDepth 100000 in
theorem S.law05_SlotsKeeps_ok (script1 : Sl) (K : Bool → World → Prop) (w : World) (h : S.law05_SlotsKeeps script1 K w) : C.law05_SlotsKeeps script1 K w := by
  have e : fnV Try.prog Try.f9 (bodyOf Try.f9) (.t none (.u) (.t none (.u) (.t none (.t none (.u) (.t none (.t none (.u) (.u)) (.u))) (.t none (.u) (.t none (.t none (.u) (.t none (.t (some [(4, .c (.i .i64)), (5, .c (.i .i64))]) (.t none (.t none (.r (some [(35, .c (.b))]) .done) (.t none (.u) (.u))) (.t none (.t none (.t none (.u) (.t none (.t none (.u) (.t none (.t none (.u) (.t (some [(4, .c (.i .i64))]) (.u) (.t none (.u) (.t none (.u) (.t none (.u) (.t none (.t none (.u) (.t none (.u) (.u))) (.t none (.u) (.t none (.t none (.u) (.t none (.u) (.t none (.t none (.u) (.t none (.t none (.u) (.u)) (.u))) (.t none (.u) (.t none (.u) (.u)))))) (.t none (.u) (.t none (.t none (.u) (.t none (.u) (.t none (.u) (.t none (.u) (.t none (.t none (.u) (.u)) (.u)))))) (.t none (.u) (.t none (.t none (.u) (.t none (.u) (.t none (.u) (.t none (.u) (.t none (.u) (.t none (.u) (.t none (.t none (.u) (.u)) (.u)))))))) (.u))))))))))))) (.u))) (.t none (.u) (.t none (.t none (.u) (.u)) (.u))))) (.u)) (.u))) (.u)) (.u))) (.t none (.u) (.u))))))) [(0, .c (.b))] [.slice script1.a script1.len script1.cap] K w = S.law05_SlotsKeeps script1 K w := by kernel_rfl
  exact okF_mk Try.func9 rfl (fn_sound names_ok follows_ok Try.func9 rfl (by kernel_rfl) (Eq.mpr e h))

/-- buttress/buttresslaw05.SlotsSwaps -/
def S.law05_SlotsSwaps (l1 : Sl) (a2 : Int) (a3 : Int) (b4 : Int) (b5 : Int) (K : Bool → World → Prop) (w : World) : Prop :=
  Al w (.cells #[.int .i64 a2, .int .i64 a3] 49) fun w6 =>
   Al w6 (.cells #[.int .i64 b4, .int .i64 b5] 49) fun w7 =>
   C.law05_two  (fun r8 w9 =>
   bif r8.isNone then
    (K false w9)
   else
    (∀ l10 : Int → World → Prop,
   (∀ (i11 : Int) (w12 : World), (∀ k13 : Bool → World → Prop,
   (∀ (t14 : Bool) (w15 : World), (bif t14 then
    (Dr w15 fun w16 =>
   ∃ a17 : Addr, l1.a = some a17 ∧ 0 ≤ i11 ∧ i11 < (l1.len : Int) ∧
   LdL w16 ((a17.add (i11.toNat * 12)).add 2) 0 [.i .i64, .i .i64] fun (a18 : Int) (a19 : Int) =>
   ∃ a20 : Addr, l1.a = some a20 ∧ 0 ≤ i11 ∧ i11 < (l1.len : Int) ∧
   LdL w16 ((a20.add (i11.toNat * 12)).add 6) 0 [.i .i64, .i .i64, .i .i64, .i .u64, .i .u64, .i .i64] fun (c21 : Int) (c22 : Int) (c23 : Int) (c24 : Int) (c25 : Int) (c26 : Int) =>
   (C.slots_Nodes_Put r8 a18 a19 c21 c22 c23 c24 c25 c26 (fun r27 w28 =>
   l10 (IntKind.i64.wrap (i11 + (1 : Int))) w28) w16) ∧
   True)
   else
    (∀ k29 : Addr → Addr → World → Prop,
   (∀ (x30 : Addr) (y31 : Addr) (w32 : World), (C.slots_Nodes_Held r8 (fun r33 w34 =>
   ∀ k35 : Int → Int → World → Prop,
   (∀ (e36 : Int) (f37 : Int) (w38 : World), (LdL w38 x30 0 [.i .i64, .i .i64] fun (t39 : Int) (t40 : Int) =>
   LdL w38 x30 0 [.i .i64, .i .i64] fun (t41 : Int) (t42 : Int) =>
   C.slots_Nodes_Swap r8 t39 t40 t41 t42 (fun r43 w44 =>
   bif e36 == (0 : Int) then
    (bif f37 == (0 : Int) then
    (bif r43 == (0 : Int) then
    (C.slots_Nodes_Held r8 (fun r45 w46 =>
   C.ref05_Same r45 r33 (fun r47 w48 =>
   bif r47 then
    (C.law05_fixed  (fun r49 w50 =>
   K r49 w50) w48)
   else
    (K false w48)) w46) w44)
   else
    (K false w44))
   else
    (K false w44))
   else
    (K false w44)) w38) → k35 e36 f37 w38) →
   (Dr w34 fun w51 =>
   LdL w51 x30 0 [.i .i64, .i .i64] fun (t52 : Int) (t53 : Int) =>
   LdL w51 y31 0 [.i .i64, .i .i64] fun (t54 : Int) (t55 : Int) =>
   (C.slots_Nodes_Swap r8 t52 t53 t54 t55 (fun r56 w57 =>
   LdL w57 y31 0 [.i .i64, .i .i64] fun (t58 : Int) (t59 : Int) =>
   LdL w57 x30 0 [.i .i64, .i .i64] fun (t60 : Int) (t61 : Int) =>
   (C.slots_Nodes_Swap r8 t58 t59 t60 t61 (fun r62 w63 =>
   k35 r56 r62 w63) w57) ∧
   True) w51) ∧
   (LdL w51 y31 0 [.i .i64, .i .i64] fun (t64 : Int) (t65 : Int) =>
   (C.slots_Nodes_Swap r8 t52 t53 t54 t55 (fun r66 w67 =>
   LdL w67 x30 0 [.i .i64, .i .i64] fun (t68 : Int) (t69 : Int) =>
   (C.slots_Nodes_Swap r8 t64 t65 t68 t69 (fun r70 w71 =>
   k35 r66 r70 w71) w67) ∧
   True) w51) ∧
   (LdL w51 x30 0 [.i .i64, .i .i64] fun (t72 : Int) (t73 : Int) =>
   (C.slots_Nodes_Swap r8 t52 t53 t54 t55 (fun r74 w75 =>
   (C.slots_Nodes_Swap r8 t64 t65 t72 t73 (fun r76 w77 =>
   k35 r74 r76 w77) w75) ∧
   True) w51) ∧
   True) ∧
   True) ∧
   (LdL w51 x30 0 [.i .i64, .i .i64] fun (t78 : Int) (t79 : Int) =>
   (C.slots_Nodes_Swap r8 t52 t53 t54 t55 (fun r80 w81 =>
   LdL w81 y31 0 [.i .i64, .i .i64] fun (t82 : Int) (t83 : Int) =>
   (C.slots_Nodes_Swap r8 t82 t83 t78 t79 (fun r84 w85 =>
   k35 r80 r84 w85) w81) ∧
   True) w51) ∧
   (LdL w51 y31 0 [.i .i64, .i .i64] fun (t86 : Int) (t87 : Int) =>
   (C.slots_Nodes_Swap r8 t52 t53 t54 t55 (fun r88 w89 =>
   (C.slots_Nodes_Swap r8 t86 t87 t78 t79 (fun r90 w91 =>
   k35 r88 r90 w91) w89) ∧
   True) w51) ∧
   True) ∧
   True) ∧
   True)) w32) → k29 x30 y31 w32) →
   (Dr w15 fun w92 =>
   ∃ node93 : Int, w92.cell? (Addr.mk w.heap.size 0 none) = some (.int .i64 node93) ∧
   ∃ i94 : Int, w92.cell? ((Addr.mk w.heap.size 0 none).add 1) = some (.int .i64 i94) ∧
   (∃ node95 : Int, w92.cell? (Addr.mk w6.heap.size 0 none) = some (.int .i64 node95) ∧
   (∃ i96 : Int, w92.cell? ((Addr.mk w6.heap.size 0 none).add 1) = some (.int .i64 i96) ∧
   (Al w92 (.cells #[.int .i64 (0 : Int), .int .i64 (0 : Int)] 49) fun w97 =>
   (Al w97 (.cells #[.int .i64 (0 : Int), .int .i64 (0 : Int)] 49) fun w98 =>
   (StL w98 (Addr.mk w92.heap.size 0 none) 0 [.int .i64 (andI .i64 node93 (1 : Int)), .int .i64 (andI .i64 i94 (3 : Int))] fun w99 =>
   (StL w99 (Addr.mk w97.heap.size 0 none) 0 [.int .i64 (andI .i64 node95 (1 : Int)), .int .i64 (andI .i64 i96 (3 : Int))] fun w100 =>
   k29 (Addr.mk w92.heap.size 0 none) (Addr.mk w97.heap.size 0 none) w100) ∧
   True) ∧
   True) ∧
   True) ∧
   (Al w92 (.cells #[.int .i64 (0 : Int), .int .i64 (0 : Int)] 49) fun w101 =>
   (Al w101 (.cells #[.int .i64 (0 : Int), .int .i64 (0 : Int)] 49) fun w102 =>
   (StL w102 (Addr.mk w101.heap.size 0 none) 0 [.int .i64 (andI .i64 node93 (1 : Int)), .int .i64 (andI .i64 i94 (3 : Int))] fun w103 =>
   (StL w103 (Addr.mk w92.heap.size 0 none) 0 [.int .i64 (andI .i64 node95 (1 : Int)), .int .i64 (andI .i64 i96 (3 : Int))] fun w104 =>
   k29 (Addr.mk w101.heap.size 0 none) (Addr.mk w92.heap.size 0 none) w104) ∧
   True) ∧
   True) ∧
   True) ∧
   True) ∧
   (Al w92 (.cells #[.int .i64 (0 : Int), .int .i64 (0 : Int)] 49) fun w105 =>
   (∃ i106 : Int, w105.cell? ((Addr.mk w6.heap.size 0 none).add 1) = some (.int .i64 i106) ∧
   (Al w105 (.cells #[.int .i64 (0 : Int), .int .i64 (0 : Int)] 49) fun w107 =>
   (StL w107 (Addr.mk w92.heap.size 0 none) 0 [.int .i64 (andI .i64 node93 (1 : Int)), .int .i64 (andI .i64 i94 (3 : Int))] fun w108 =>
   (StL w108 (Addr.mk w105.heap.size 0 none) 0 [.int .i64 (andI .i64 node95 (1 : Int)), .int .i64 (andI .i64 i106 (3 : Int))] fun w109 =>
   k29 (Addr.mk w92.heap.size 0 none) (Addr.mk w105.heap.size 0 none) w109) ∧
   True) ∧
   True) ∧
   True) ∧
   (Al w105 (.cells #[.int .i64 (0 : Int), .int .i64 (0 : Int)] 49) fun w110 =>
   (∃ i111 : Int, w110.cell? ((Addr.mk w6.heap.size 0 none).add 1) = some (.int .i64 i111) ∧
   (StL w110 (Addr.mk w92.heap.size 0 none) 0 [.int .i64 (andI .i64 node93 (1 : Int)), .int .i64 (andI .i64 i94 (3 : Int))] fun w112 =>
   (StL w112 (Addr.mk w105.heap.size 0 none) 0 [.int .i64 (andI .i64 node95 (1 : Int)), .int .i64 (andI .i64 i111 (3 : Int))] fun w113 =>
   k29 (Addr.mk w92.heap.size 0 none) (Addr.mk w105.heap.size 0 none) w113) ∧
   True) ∧
   True) ∧
   (StL w110 (Addr.mk w92.heap.size 0 none) 0 [.int .i64 (andI .i64 node93 (1 : Int)), .int .i64 (andI .i64 i94 (3 : Int))] fun w114 =>
   ∃ i115 : Int, w114.cell? ((Addr.mk w6.heap.size 0 none).add 1) = some (.int .i64 i115) ∧
   (StL w114 (Addr.mk w105.heap.size 0 none) 0 [.int .i64 (andI .i64 node95 (1 : Int)), .int .i64 (andI .i64 i115 (3 : Int))] fun w116 =>
   k29 (Addr.mk w92.heap.size 0 none) (Addr.mk w105.heap.size 0 none) w116) ∧
   True) ∧
   True) ∧
   True) ∧
   (Al w92 (.cells #[.int .i64 (0 : Int), .int .i64 (0 : Int)] 49) fun w117 =>
   (∃ i118 : Int, w117.cell? ((Addr.mk w6.heap.size 0 none).add 1) = some (.int .i64 i118) ∧
   (Al w117 (.cells #[.int .i64 (0 : Int), .int .i64 (0 : Int)] 49) fun w119 =>
   (StL w119 (Addr.mk w117.heap.size 0 none) 0 [.int .i64 (andI .i64 node93 (1 : Int)), .int .i64 (andI .i64 i94 (3 : Int))] fun w120 =>
   (StL w120 (Addr.mk w92.heap.size 0 none) 0 [.int .i64 (andI .i64 node95 (1 : Int)), .int .i64 (andI .i64 i118 (3 : Int))] fun w121 =>
   k29 (Addr.mk w117.heap.size 0 none) (Addr.mk w92.heap.size 0 none) w121) ∧
   True) ∧
   True) ∧
   True) ∧
   (Al w117 (.cells #[.int .i64 (0 : Int), .int .i64 (0 : Int)] 49) fun w122 =>
   (∃ i123 : Int, w122.cell? ((Addr.mk w6.heap.size 0 none).add 1) = some (.int .i64 i123) ∧
   (StL w122 (Addr.mk w117.heap.size 0 none) 0 [.int .i64 (andI .i64 node93 (1 : Int)), .int .i64 (andI .i64 i94 (3 : Int))] fun w124 =>
   (StL w124 (Addr.mk w92.heap.size 0 none) 0 [.int .i64 (andI .i64 node95 (1 : Int)), .int .i64 (andI .i64 i123 (3 : Int))] fun w125 =>
   k29 (Addr.mk w117.heap.size 0 none) (Addr.mk w92.heap.size 0 none) w125) ∧
   True) ∧
   True) ∧
   (StL w122 (Addr.mk w117.heap.size 0 none) 0 [.int .i64 (andI .i64 node93 (1 : Int)), .int .i64 (andI .i64 i94 (3 : Int))] fun w126 =>
   ∃ i127 : Int, w126.cell? ((Addr.mk w6.heap.size 0 none).add 1) = some (.int .i64 i127) ∧
   (StL w126 (Addr.mk w92.heap.size 0 none) 0 [.int .i64 (andI .i64 node95 (1 : Int)), .int .i64 (andI .i64 i127 (3 : Int))] fun w128 =>
   k29 (Addr.mk w117.heap.size 0 none) (Addr.mk w92.heap.size 0 none) w128) ∧
   True) ∧
   True) ∧
   True) ∧
   True) ∧
   (∃ i129 : Int, w92.cell? ((Addr.mk w6.heap.size 0 none).add 1) = some (.int .i64 i129) ∧
   (∃ node130 : Int, w92.cell? (Addr.mk w6.heap.size 0 none) = some (.int .i64 node130) ∧
   (Al w92 (.cells #[.int .i64 (0 : Int), .int .i64 (0 : Int)] 49) fun w131 =>
   (Al w131 (.cells #[.int .i64 (0 : Int), .int .i64 (0 : Int)] 49) fun w132 =>
   (StL w132 (Addr.mk w92.heap.size 0 none) 0 [.int .i64 (andI .i64 node93 (1 : Int)), .int .i64 (andI .i64 i94 (3 : Int))] fun w133 =>
   (StL w133 (Addr.mk w131.heap.size 0 none) 0 [.int .i64 (andI .i64 node130 (1 : Int)), .int .i64 (andI .i64 i129 (3 : Int))] fun w134 =>
   k29 (Addr.mk w92.heap.size 0 none) (Addr.mk w131.heap.size 0 none) w134) ∧
   True) ∧
   True) ∧
   True) ∧
   (Al w92 (.cells #[.int .i64 (0 : Int), .int .i64 (0 : Int)] 49) fun w135 =>
   (Al w135 (.cells #[.int .i64 (0 : Int), .int .i64 (0 : Int)] 49) fun w136 =>
   (StL w136 (Addr.mk w135.heap.size 0 none) 0 [.int .i64 (andI .i64 node93 (1 : Int)), .int .i64 (andI .i64 i94 (3 : Int))] fun w137 =>
   (StL w137 (Addr.mk w92.heap.size 0 none) 0 [.int .i64 (andI .i64 node130 (1 : Int)), .int .i64 (andI .i64 i129 (3 : Int))] fun w138 =>
   k29 (Addr.mk w135.heap.size 0 none) (Addr.mk w92.heap.size 0 none) w138) ∧
   True) ∧
   True) ∧
   True) ∧
   True) ∧
   (Al w92 (.cells #[.int .i64 (0 : Int), .int .i64 (0 : Int)] 49) fun w139 =>
   (∃ node140 : Int, w139.cell? (Addr.mk w6.heap.size 0 none) = some (.int .i64 node140) ∧
   (Al w139 (.cells #[.int .i64 (0 : Int), .int .i64 (0 : Int)] 49) fun w141 =>
   (StL w141 (Addr.mk w92.heap.size 0 none) 0 [.int .i64 (andI .i64 node93 (1 : Int)), .int .i64 (andI .i64 i94 (3 : Int))] fun w142 =>
   (StL w142 (Addr.mk w139.heap.size 0 none) 0 [.int .i64 (andI .i64 node140 (1 : Int)), .int .i64 (andI .i64 i129 (3 : Int))] fun w143 =>
   k29 (Addr.mk w92.heap.size 0 none) (Addr.mk w139.heap.size 0 none) w143) ∧
   True) ∧
   True) ∧
   True) ∧
   (Al w139 (.cells #[.int .i64 (0 : Int), .int .i64 (0 : Int)] 49) fun w144 =>
   (∃ node145 : Int, w144.cell? (Addr.mk w6.heap.size 0 none) = some (.int .i64 node145) ∧
   (StL w144 (Addr.mk w92.heap.size 0 none) 0 [.int .i64 (andI .i64 node93 (1 : Int)), .int .i64 (andI .i64 i94 (3 : Int))] fun w146 =>
   (StL w146 (Addr.mk w139.heap.size 0 none) 0 [.int .i64 (andI .i64 node145 (1 : Int)), .int .i64 (andI .i64 i129 (3 : Int))] fun w147 =>
   k29 (Addr.mk w92.heap.size 0 none) (Addr.mk w139.heap.size 0 none) w147) ∧
   True) ∧
   True) ∧
   (StL w144 (Addr.mk w92.heap.size 0 none) 0 [.int .i64 (andI .i64 node93 (1 : Int)), .int .i64 (andI .i64 i94 (3 : Int))] fun w148 =>
   ∃ node149 : Int, w148.cell? (Addr.mk w6.heap.size 0 none) = some (.int .i64 node149) ∧
   (StL w148 (Addr.mk w139.heap.size 0 none) 0 [.int .i64 (andI .i64 node149 (1 : Int)), .int .i64 (andI .i64 i129 (3 : Int))] fun w150 =>
   k29 (Addr.mk w92.heap.size 0 none) (Addr.mk w139.heap.size 0 none) w150) ∧
   True) ∧
   True) ∧
   True) ∧
   (Al w92 (.cells #[.int .i64 (0 : Int), .int .i64 (0 : Int)] 49) fun w151 =>
   (∃ node152 : Int, w151.cell? (Addr.mk w6.heap.size 0 none) = some (.int .i64 node152) ∧
   (Al w151 (.cells #[.int .i64 (0 : Int), .int .i64 (0 : Int)] 49) fun w153 =>
   (StL w153 (Addr.mk w151.heap.size 0 none) 0 [.int .i64 (andI .i64 node93 (1 : Int)), .int .i64 (andI .i64 i94 (3 : Int))] fun w154 =>
   (StL w154 (Addr.mk w92.heap.size 0 none) 0 [.int .i64 (andI .i64 node152 (1 : Int)), .int .i64 (andI .i64 i129 (3 : Int))] fun w155 =>
   k29 (Addr.mk w151.heap.size 0 none) (Addr.mk w92.heap.size 0 none) w155) ∧
   True) ∧
   True) ∧
   True) ∧
   (Al w151 (.cells #[.int .i64 (0 : Int), .int .i64 (0 : Int)] 49) fun w156 =>
   (∃ node157 : Int, w156.cell? (Addr.mk w6.heap.size 0 none) = some (.int .i64 node157) ∧
   (StL w156 (Addr.mk w151.heap.size 0 none) 0 [.int .i64 (andI .i64 node93 (1 : Int)), .int .i64 (andI .i64 i94 (3 : Int))] fun w158 =>
   (StL w158 (Addr.mk w92.heap.size 0 none) 0 [.int .i64 (andI .i64 node157 (1 : Int)), .int .i64 (andI .i64 i129 (3 : Int))] fun w159 =>
   k29 (Addr.mk w151.heap.size 0 none) (Addr.mk w92.heap.size 0 none) w159) ∧
   True) ∧
   True) ∧
   (StL w156 (Addr.mk w151.heap.size 0 none) 0 [.int .i64 (andI .i64 node93 (1 : Int)), .int .i64 (andI .i64 i94 (3 : Int))] fun w160 =>
   ∃ node161 : Int, w160.cell? (Addr.mk w6.heap.size 0 none) = some (.int .i64 node161) ∧
   (StL w160 (Addr.mk w92.heap.size 0 none) 0 [.int .i64 (andI .i64 node161 (1 : Int)), .int .i64 (andI .i64 i129 (3 : Int))] fun w162 =>
   k29 (Addr.mk w151.heap.size 0 none) (Addr.mk w92.heap.size 0 none) w162) ∧
   True) ∧
   True) ∧
   True) ∧
   True) ∧
   (Al w92 (.cells #[.int .i64 (0 : Int), .int .i64 (0 : Int)] 49) fun w163 =>
   (∃ node164 : Int, w163.cell? (Addr.mk w6.heap.size 0 none) = some (.int .i64 node164) ∧
   (∃ i165 : Int, w163.cell? ((Addr.mk w6.heap.size 0 none).add 1) = some (.int .i64 i165) ∧
   (Al w163 (.cells #[.int .i64 (0 : Int), .int .i64 (0 : Int)] 49) fun w166 =>
   (StL w166 (Addr.mk w92.heap.size 0 none) 0 [.int .i64 (andI .i64 node93 (1 : Int)), .int .i64 (andI .i64 i94 (3 : Int))] fun w167 =>
   (StL w167 (Addr.mk w163.heap.size 0 none) 0 [.int .i64 (andI .i64 node164 (1 : Int)), .int .i64 (andI .i64 i165 (3 : Int))] fun w168 =>
   k29 (Addr.mk w92.heap.size 0 none) (Addr.mk w163.heap.size 0 none) w168) ∧
   True) ∧
   True) ∧
   True) ∧
   (Al w163 (.cells #[.int .i64 (0 : Int), .int .i64 (0 : Int)] 49) fun w169 =>
   (∃ i170 : Int, w169.cell? ((Addr.mk w6.heap.size 0 none).add 1) = some (.int .i64 i170) ∧
   (StL w169 (Addr.mk w92.heap.size 0 none) 0 [.int .i64 (andI .i64 node93 (1 : Int)), .int .i64 (andI .i64 i94 (3 : Int))] fun w171 =>
   (StL w171 (Addr.mk w163.heap.size 0 none) 0 [.int .i64 (andI .i64 node164 (1 : Int)), .int .i64 (andI .i64 i170 (3 : Int))] fun w172 =>
   k29 (Addr.mk w92.heap.size 0 none) (Addr.mk w163.heap.size 0 none) w172) ∧
   True) ∧
   True) ∧
   (StL w169 (Addr.mk w92.heap.size 0 none) 0 [.int .i64 (andI .i64 node93 (1 : Int)), .int .i64 (andI .i64 i94 (3 : Int))] fun w173 =>
   ∃ i174 : Int, w173.cell? ((Addr.mk w6.heap.size 0 none).add 1) = some (.int .i64 i174) ∧
   (StL w173 (Addr.mk w163.heap.size 0 none) 0 [.int .i64 (andI .i64 node164 (1 : Int)), .int .i64 (andI .i64 i174 (3 : Int))] fun w175 =>
   k29 (Addr.mk w92.heap.size 0 none) (Addr.mk w163.heap.size 0 none) w175) ∧
   True) ∧
   True) ∧
   True) ∧
   (∃ i176 : Int, w163.cell? ((Addr.mk w6.heap.size 0 none).add 1) = some (.int .i64 i176) ∧
   (∃ node177 : Int, w163.cell? (Addr.mk w6.heap.size 0 none) = some (.int .i64 node177) ∧
   (Al w163 (.cells #[.int .i64 (0 : Int), .int .i64 (0 : Int)] 49) fun w178 =>
   (StL w178 (Addr.mk w92.heap.size 0 none) 0 [.int .i64 (andI .i64 node93 (1 : Int)), .int .i64 (andI .i64 i94 (3 : Int))] fun w179 =>
   (StL w179 (Addr.mk w163.heap.size 0 none) 0 [.int .i64 (andI .i64 node177 (1 : Int)), .int .i64 (andI .i64 i176 (3 : Int))] fun w180 =>
   k29 (Addr.mk w92.heap.size 0 none) (Addr.mk w163.heap.size 0 none) w180) ∧
   True) ∧
   True) ∧
   True) ∧
   (Al w163 (.cells #[.int .i64 (0 : Int), .int .i64 (0 : Int)] 49) fun w181 =>
   (∃ node182 : Int, w181.cell? (Addr.mk w6.heap.size 0 none) = some (.int .i64 node182) ∧
   (StL w181 (Addr.mk w92.heap.size 0 none) 0 [.int .i64 (andI .i64 node93 (1 : Int)), .int .i64 (andI .i64 i94 (3 : Int))] fun w183 =>
   (StL w183 (Addr.mk w163.heap.size 0 none) 0 [.int .i64 (andI .i64 node182 (1 : Int)), .int .i64 (andI .i64 i176 (3 : Int))] fun w184 =>
   k29 (Addr.mk w92.heap.size 0 none) (Addr.mk w163.heap.size 0 none) w184) ∧
   True) ∧
   True) ∧
   (StL w181 (Addr.mk w92.heap.size 0 none) 0 [.int .i64 (andI .i64 node93 (1 : Int)), .int .i64 (andI .i64 i94 (3 : Int))] fun w185 =>
   ∃ node186 : Int, w185.cell? (Addr.mk w6.heap.size 0 none) = some (.int .i64 node186) ∧
   (StL w185 (Addr.mk w163.heap.size 0 none) 0 [.int .i64 (andI .i64 node186 (1 : Int)), .int .i64 (andI .i64 i176 (3 : Int))] fun w187 =>
   k29 (Addr.mk w92.heap.size 0 none) (Addr.mk w163.heap.size 0 none) w187) ∧
   True) ∧
   True) ∧
   True) ∧
   (Al w163 (.cells #[.int .i64 (0 : Int), .int .i64 (0 : Int)] 49) fun w188 =>
   (∃ node189 : Int, w188.cell? (Addr.mk w6.heap.size 0 none) = some (.int .i64 node189) ∧
   (∃ i190 : Int, w188.cell? ((Addr.mk w6.heap.size 0 none).add 1) = some (.int .i64 i190) ∧
   (StL w188 (Addr.mk w92.heap.size 0 none) 0 [.int .i64 (andI .i64 node93 (1 : Int)), .int .i64 (andI .i64 i94 (3 : Int))] fun w191 =>
   (StL w191 (Addr.mk w163.heap.size 0 none) 0 [.int .i64 (andI .i64 node189 (1 : Int)), .int .i64 (andI .i64 i190 (3 : Int))] fun w192 =>
   k29 (Addr.mk w92.heap.size 0 none) (Addr.mk w163.heap.size 0 none) w192) ∧
   True) ∧
   True) ∧
   (StL w188 (Addr.mk w92.heap.size 0 none) 0 [.int .i64 (andI .i64 node93 (1 : Int)), .int .i64 (andI .i64 i94 (3 : Int))] fun w193 =>
   ∃ i194 : Int, w193.cell? ((Addr.mk w6.heap.size 0 none).add 1) = some (.int .i64 i194) ∧
   (StL w193 (Addr.mk w163.heap.size 0 none) 0 [.int .i64 (andI .i64 node189 (1 : Int)), .int .i64 (andI .i64 i194 (3 : Int))] fun w195 =>
   k29 (Addr.mk w92.heap.size 0 none) (Addr.mk w163.heap.size 0 none) w195) ∧
   True) ∧
   True) ∧
   (∃ i196 : Int, w188.cell? ((Addr.mk w6.heap.size 0 none).add 1) = some (.int .i64 i196) ∧
   (∃ node197 : Int, w188.cell? (Addr.mk w6.heap.size 0 none) = some (.int .i64 node197) ∧
   (StL w188 (Addr.mk w92.heap.size 0 none) 0 [.int .i64 (andI .i64 node93 (1 : Int)), .int .i64 (andI .i64 i94 (3 : Int))] fun w198 =>
   (StL w198 (Addr.mk w163.heap.size 0 none) 0 [.int .i64 (andI .i64 node197 (1 : Int)), .int .i64 (andI .i64 i196 (3 : Int))] fun w199 =>
   k29 (Addr.mk w92.heap.size 0 none) (Addr.mk w163.heap.size 0 none) w199) ∧
   True) ∧
   True) ∧
   (StL w188 (Addr.mk w92.heap.size 0 none) 0 [.int .i64 (andI .i64 node93 (1 : Int)), .int .i64 (andI .i64 i94 (3 : Int))] fun w200 =>
   ∃ node201 : Int, w200.cell? (Addr.mk w6.heap.size 0 none) = some (.int .i64 node201) ∧
   (StL w200 (Addr.mk w163.heap.size 0 none) 0 [.int .i64 (andI .i64 node201 (1 : Int)), .int .i64 (andI .i64 i196 (3 : Int))] fun w202 =>
   k29 (Addr.mk w92.heap.size 0 none) (Addr.mk w163.heap.size 0 none) w202) ∧
   True) ∧
   True) ∧
   (StL w188 (Addr.mk w92.heap.size 0 none) 0 [.int .i64 (andI .i64 node93 (1 : Int)), .int .i64 (andI .i64 i94 (3 : Int))] fun w203 =>
   ∃ node204 : Int, w203.cell? (Addr.mk w6.heap.size 0 none) = some (.int .i64 node204) ∧
   ∃ i205 : Int, w203.cell? ((Addr.mk w6.heap.size 0 none).add 1) = some (.int .i64 i205) ∧
   (StL w203 (Addr.mk w163.heap.size 0 none) 0 [.int .i64 (andI .i64 node204 (1 : Int)), .int .i64 (andI .i64 i205 (3 : Int))] fun w206 =>
   k29 (Addr.mk w92.heap.size 0 none) (Addr.mk w163.heap.size 0 none) w206) ∧
   True) ∧
   True) ∧
   True) ∧
   (Al w92 (.cells #[.int .i64 (0 : Int), .int .i64 (0 : Int)] 49) fun w207 =>
   (∃ node208 : Int, w207.cell? (Addr.mk w6.heap.size 0 none) = some (.int .i64 node208) ∧
   (∃ i209 : Int, w207.cell? ((Addr.mk w6.heap.size 0 none).add 1) = some (.int .i64 i209) ∧
   (Al w207 (.cells #[.int .i64 (0 : Int), .int .i64 (0 : Int)] 49) fun w210 =>
   (StL w210 (Addr.mk w207.heap.size 0 none) 0 [.int .i64 (andI .i64 node93 (1 : Int)), .int .i64 (andI .i64 i94 (3 : Int))] fun w211 =>
   (StL w211 (Addr.mk w92.heap.size 0 none) 0 [.int .i64 (andI .i64 node208 (1 : Int)), .int .i64 (andI .i64 i209 (3 : Int))] fun w212 =>
   k29 (Addr.mk w207.heap.size 0 none) (Addr.mk w92.heap.size 0 none) w212) ∧
   True) ∧
   True) ∧
   True) ∧
   (Al w207 (.cells #[.int .i64 (0 : Int), .int .i64 (0 : Int)] 49) fun w213 =>
   (∃ i214 : Int, w213.cell? ((Addr.mk w6.heap.size 0 none).add 1) = some (.int .i64 i214) ∧
   (StL w213 (Addr.mk w207.heap.size 0 none) 0 [.int .i64 (andI .i64 node93 (1 : Int)), .int .i64 (andI .i64 i94 (3 : Int))] fun w215 =>
   (StL w215 (Addr.mk w92.heap.size 0 none) 0 [.int .i64 (andI .i64 node208 (1 : Int)), .int .i64 (andI .i64 i214 (3 : Int))] fun w216 =>
   k29 (Addr.mk w207.heap.size 0 none) (Addr.mk w92.heap.size 0 none) w216) ∧
   True) ∧
   True) ∧
   (StL w213 (Addr.mk w207.heap.size 0 none) 0 [.int .i64 (andI .i64 node93 (1 : Int)), .int .i64 (andI .i64 i94 (3 : Int))] fun w217 =>
   ∃ i218 : Int, w217.cell? ((Addr.mk w6.heap.size 0 none).add 1) = some (.int .i64 i218) ∧
   (StL w217 (Addr.mk w92.heap.size 0 none) 0 [.int .i64 (andI .i64 node208 (1 : Int)), .int .i64 (andI .i64 i218 (3 : Int))] fun w219 =>
   k29 (Addr.mk w207.heap.size 0 none) (Addr.mk w92.heap.size 0 none) w219) ∧
   True) ∧
   True) ∧
   True) ∧
   (∃ i220 : Int, w207.cell? ((Addr.mk w6.heap.size 0 none).add 1) = some (.int .i64 i220) ∧
   (∃ node221 : Int, w207.cell? (Addr.mk w6.heap.size 0 none) = some (.int .i64 node221) ∧
   (Al w207 (.cells #[.int .i64 (0 : Int), .int .i64 (0 : Int)] 49) fun w222 =>
   (StL w222 (Addr.mk w207.heap.size 0 none) 0 [.int .i64 (andI .i64 node93 (1 : Int)), .int .i64 (andI .i64 i94 (3 : Int))] fun w223 =>
   (StL w223 (Addr.mk w92.heap.size 0 none) 0 [.int .i64 (andI .i64 node221 (1 : Int)), .int .i64 (andI .i64 i220 (3 : Int))] fun w224 =>
   k29 (Addr.mk w207.heap.size 0 none) (Addr.mk w92.heap.size 0 none) w224) ∧
   True) ∧
   True) ∧
   True) ∧
   (Al w207 (.cells #[.int .i64 (0 : Int), .int .i64 (0 : Int)] 49) fun w225 =>
   (∃ node226 : Int, w225.cell? (Addr.mk w6.heap.size 0 none) = some (.int .i64 node226) ∧
   (StL w225 (Addr.mk w207.heap.size 0 none) 0 [.int .i64 (andI .i64 node93 (1 : Int)), .int .i64 (andI .i64 i94 (3 : Int))] fun w227 =>
   (StL w227 (Addr.mk w92.heap.size 0 none) 0 [.int .i64 (andI .i64 node226 (1 : Int)), .int .i64 (andI .i64 i220 (3 : Int))] fun w228 =>
   k29 (Addr.mk w207.heap.size 0 none) (Addr.mk w92.heap.size 0 none) w228) ∧
   True) ∧
   True) ∧
   (StL w225 (Addr.mk w207.heap.size 0 none) 0 [.int .i64 (andI .i64 node93 (1 : Int)), .int .i64 (andI .i64 i94 (3 : Int))] fun w229 =>
   ∃ node230 : Int, w229.cell? (Addr.mk w6.heap.size 0 none) = some (.int .i64 node230) ∧
   (StL w229 (Addr.mk w92.heap.size 0 none) 0 [.int .i64 (andI .i64 node230 (1 : Int)), .int .i64 (andI .i64 i220 (3 : Int))] fun w231 =>
   k29 (Addr.mk w207.heap.size 0 none) (Addr.mk w92.heap.size 0 none) w231) ∧
   True) ∧
   True) ∧
   True) ∧
   (Al w207 (.cells #[.int .i64 (0 : Int), .int .i64 (0 : Int)] 49) fun w232 =>
   (∃ node233 : Int, w232.cell? (Addr.mk w6.heap.size 0 none) = some (.int .i64 node233) ∧
   (∃ i234 : Int, w232.cell? ((Addr.mk w6.heap.size 0 none).add 1) = some (.int .i64 i234) ∧
   (StL w232 (Addr.mk w207.heap.size 0 none) 0 [.int .i64 (andI .i64 node93 (1 : Int)), .int .i64 (andI .i64 i94 (3 : Int))] fun w235 =>
   (StL w235 (Addr.mk w92.heap.size 0 none) 0 [.int .i64 (andI .i64 node233 (1 : Int)), .int .i64 (andI .i64 i234 (3 : Int))] fun w236 =>
   k29 (Addr.mk w207.heap.size 0 none) (Addr.mk w92.heap.size 0 none) w236) ∧
   True) ∧
   True) ∧
   (StL w232 (Addr.mk w207.heap.size 0 none) 0 [.int .i64 (andI .i64 node93 (1 : Int)), .int .i64 (andI .i64 i94 (3 : Int))] fun w237 =>
   ∃ i238 : Int, w237.cell? ((Addr.mk w6.heap.size 0 none).add 1) = some (.int .i64 i238) ∧
   (StL w237 (Addr.mk w92.heap.size 0 none) 0 [.int .i64 (andI .i64 node233 (1 : Int)), .int .i64 (andI .i64 i238 (3 : Int))] fun w239 =>
   k29 (Addr.mk w207.heap.size 0 none) (Addr.mk w92.heap.size 0 none) w239) ∧
   True) ∧
   True) ∧
   (∃ i240 : Int, w232.cell? ((Addr.mk w6.heap.size 0 none).add 1) = some (.int .i64 i240) ∧
   (∃ node241 : Int, w232.cell? (Addr.mk w6.heap.size 0 none) = some (.int .i64 node241) ∧
   (StL w232 (Addr.mk w207.heap.size 0 none) 0 [.int .i64 (andI .i64 node93 (1 : Int)), .int .i64 (andI .i64 i94 (3 : Int))] fun w242 =>
   (StL w242 (Addr.mk w92.heap.size 0 none) 0 [.int .i64 (andI .i64 node241 (1 : Int)), .int .i64 (andI .i64 i240 (3 : Int))] fun w243 =>
   k29 (Addr.mk w207.heap.size 0 none) (Addr.mk w92.heap.size 0 none) w243) ∧
   True) ∧
   True) ∧
   (StL w232 (Addr.mk w207.heap.size 0 none) 0 [.int .i64 (andI .i64 node93 (1 : Int)), .int .i64 (andI .i64 i94 (3 : Int))] fun w244 =>
   ∃ node245 : Int, w244.cell? (Addr.mk w6.heap.size 0 none) = some (.int .i64 node245) ∧
   (StL w244 (Addr.mk w92.heap.size 0 none) 0 [.int .i64 (andI .i64 node245 (1 : Int)), .int .i64 (andI .i64 i240 (3 : Int))] fun w246 =>
   k29 (Addr.mk w207.heap.size 0 none) (Addr.mk w92.heap.size 0 none) w246) ∧
   True) ∧
   True) ∧
   (StL w232 (Addr.mk w207.heap.size 0 none) 0 [.int .i64 (andI .i64 node93 (1 : Int)), .int .i64 (andI .i64 i94 (3 : Int))] fun w247 =>
   ∃ node248 : Int, w247.cell? (Addr.mk w6.heap.size 0 none) = some (.int .i64 node248) ∧
   ∃ i249 : Int, w247.cell? ((Addr.mk w6.heap.size 0 none).add 1) = some (.int .i64 i249) ∧
   (StL w247 (Addr.mk w92.heap.size 0 none) 0 [.int .i64 (andI .i64 node248 (1 : Int)), .int .i64 (andI .i64 i249 (3 : Int))] fun w250 =>
   k29 (Addr.mk w207.heap.size 0 none) (Addr.mk w92.heap.size 0 none) w250) ∧
   True) ∧
   True) ∧
   True) ∧
   True))) → k13 t14 w15) →
   (bif decide (i11 < (l1.len : Int)) then
    (k13 (decide (i11 < (20 : Int))) w12)
   else
    (k13 false w12))) → l10 i11 w12) →
   l10 (0 : Int) w9)) w7
set_option maxRecDepth 100000 in
theorem S.law05_SlotsSwaps_ok (l1 : Sl) (a2 : Int) (a3 : Int) (b4 : Int) (b5 : Int) (K : Bool → World → Prop) (w : World) (h : S.law05_SlotsSwaps l1 a2 a3 b4 b5 K w) : C.law05_SlotsSwaps l1 a2 a3 b4 b5 K w := by
  have e : fnV Try.prog Try.f10 (bodyOf Try.f10) (.t none (.u) (.t none (.u) (.t none (.t none (.u) (.t none (.t none (.u) (.u)) (.u))) (.t none (.t none (.u) (.t none (.t (some [(8, .c (.i .i64))]) (.t none (.t none (.r (some [(25, .c (.b))]) .done) (.t none (.u) (.u))) (.t none (.t none (.r none (.one 0 2046 (.one 1 1988 (.one 2 1984 (.one 3 1984 (.one 4 1984 (.one 5 1984 (.one 6 128 (.one 7 0 (.one 8 0 (.one 9 0 (.one 10 0 (.alt 11 (.done) (.none)))))))))))))) (.u)) (.u))) (.u)) (.u))) (.t none (.r (some [(9, .c (.q)), (10, .c (.q))]) (.one 0 65464 (.one 1 65464 (.one 2 65464 (.one 3 65408 (.one 4 65408 (.one 5 65408 (.one 6 65408 (.one 7 121856 (.one 10 115456 (.alt 8 (.one 9 120832 (.alt 11 (.one 12 114688 (.one 13 114688 (.alt 14 (.alt 15 (.alt 16 (.alt 17 (.done) (.none)) (.none)) (.none)) (.alt 15 (.alt 14 (.alt 16 (.alt 17 (.done) (.none)) (.none)) (.none)) (.none))))) (.alt 14 (.alt 11 (.one 12 98304 (.one 13 98304 (.alt 15 (.alt 16 (.alt 17 (.done) (.none)) (.none)) (.none)))) (.alt 15 (.alt 11 (.one 12 65536 (.one 13 65536 (.alt 16 (.alt 17 (.done) (.none)) (.none)))) (.alt 16 (.one 11 0 (.one 12 0 (.one 13 0 (.alt 17 (.done) (.none))))) (.none))) (.none))) (.alt 15 (.alt 11 (.one 12 81920 (.one 13 81920 (.alt 14 (.alt 16 (.alt 17 (.done) (.none)) (.none)) (.none)))) (.alt 14 (.alt 11 (.one 12 65536 (.one 13 65536 (.alt 16 (.alt 17 (.done) (.none)) (.none)))) (.alt 16 (.one 11 0 (.one 12 0 (.one 13 0 (.alt 17 (.done) (.none))))) (.none))) (.none))) (.none))))) (.alt 11 (.one 12 115456 (.alt 8 (.one 9 114688 (.one 13 114688 (.alt 14 (.alt 15 (.alt 16 (.alt 17 (.done) (.none)) (.none)) (.none)) (.alt 15 (.alt 14 (.alt 16 (.alt 17 (.done) (.none)) (.none)) (.none)) (.none))))) (.alt 14 (.alt 8 (.one 9 98304 (.one 13 98304 (.alt 15 (.alt 16 (.alt 17 (.done) (.none)) (.none)) (.none)))) (.alt 15 (.alt 8 (.one 9 65536 (.one 13 65536 (.alt 16 (.alt 17 (.done) (.none)) (.none)))) (.alt 16 (.one 8 0 (.one 9 0 (.one 13 0 (.alt 17 (.done) (.none))))) (.none))) (.none))) (.alt 15 (.alt 8 (.one 9 81920 (.one 13 81920 (.alt 14 (.alt 16 (.alt 17 (.done) (.none)) (.none)) (.none)))) (.alt 14 (.alt 8 (.one 9 65536 (.one 13 65536 (.alt 16 (.alt 17 (.done) (.none)) (.none)))) (.alt 16 (.one 8 0 (.one 9 0 (.one 13 0 (.alt 17 (.done) (.none))))) (.none))) (.none))) (.none))))) (.alt 14 (.alt 8 (.one 9 104448 (.alt 11 (.one 12 98304 (.one 13 98304 (.alt 15 (.alt 16 (.alt 17 (.done) (.none)) (.none)) (.none)))) (.alt 15 (.alt 11 (.one 12 65536 (.one 13 65536 (.alt 16 (.alt 17 (.done) (.none)) (.none)))) (.alt 16 (.one 11 0 (.one 12 0 (.one 13 0 (.alt 17 (.done) (.none))))) (.none))) (.none)))) (.alt 11 (.one 12 99072 (.alt 8 (.one 9 98304 (.one 13 98304 (.alt 15 (.alt 16 (.alt 17 (.done) (.none)) (.none)) (.none)))) (.alt 15 (.alt 8 (.one 9 65536 (.one 13 65536 (.alt 16 (.alt 17 (.done) (.none)) (.none)))) (.alt 16 (.one 8 0 (.one 9 0 (.one 13 0 (.alt 17 (.done) (.none))))) (.none))) (.none)))) (.alt 15 (.alt 8 (.one 9 71680 (.alt 11 (.one 12 65536 (.one 13 65536 (.alt 16 (.alt 17 (.done) (.none)) (.none)))) (.alt 16 (.one 11 0 (.one 12 0 (.one 13 0 (.alt 17 (.done) (.none))))) (.none)))) (.alt 11 (.one 12 66304 (.alt 8 (.one 9 65536 (.one 13 65536 (.alt 16 (.alt 17 (.done) (.none)) (.none)))) (.alt 16 (.one 8 0 (.one 9 0 (.one 13 0 (.alt 17 (.done) (.none))))) (.none)))) (.alt 16 (.one 8 6144 (.one 9 6144 (.one 11 0 (.one 12 0 (.one 13 0 (.alt 17 (.done) (.none))))))) (.none)))) (.none)))) (.alt 15 (.alt 8 (.one 9 88064 (.alt 11 (.one 12 81920 (.one 13 81920 (.alt 14 (.alt 16 (.alt 17 (.done) (.none)) (.none)) (.none)))) (.alt 14 (.alt 11 (.one 12 65536 (.one 13 65536 (.alt 16 (.alt 17 (.done) (.none)) (.none)))) (.alt 16 (.one 11 0 (.one 12 0 (.one 13 0 (.alt 17 (.done) (.none))))) (.none))) (.none)))) (.alt 11 (.one 12 82688 (.alt 8 (.one 9 81920 (.one 13 81920 (.alt 14 (.alt 16 (.alt 17 (.done) (.none)) (.none)) (.none)))) (.alt 14 (.alt 8 (.one 9 65536 (.one 13 65536 (.alt 16 (.alt 17 (.done) (.none)) (.none)))) (.alt 16 (.one 8 0 (.one 9 0 (.one 13 0 (.alt 17 (.done) (.none))))) (.none))) (.none)))) (.alt 14 (.alt 8 (.one 9 71680 (.alt 11 (.one 12 65536 (.one 13 65536 (.alt 16 (.alt 17 (.done) (.none)) (.none)))) (.alt 16 (.one 11 0 (.one 12 0 (.one 13 0 (.alt 17 (.done) (.none))))) (.none)))) (.alt 11 (.one 12 66304 (.alt 8 (.one 9 65536 (.one 13 65536 (.alt 16 (.alt 17 (.done) (.none)) (.none)))) (.alt 16 (.one 8 0 (.one 9 0 (.one 13 0 (.alt 17 (.done) (.none))))) (.none)))) (.alt 16 (.one 8 6144 (.one 9 6144 (.one 11 0 (.one 12 0 (.one 13 0 (.alt 17 (.done) (.none))))))) (.none)))) (.none)))) (.none))))))))))))))) (.t none (.u) (.t none (.r (some [(12, .c (.i .i64)), (13, .c (.i .i64))]) (.one 0 118 (.one 1 116 (.one 2 112 (.one 4 104 (.alt 3 (.one 5 64 (.one 6 0 (.alt 7 (.one 8 0 (.one 9 0 (.done))) (.none)))) (.alt 5 (.alt 3 (.one 6 0 (.alt 7 (.one 8 0 (.one 9 0 (.done))) (.none))) (.alt 6 (.alt 3 (.alt 7 (.one 8 0 (.one 9 0 (.done))) (.none)) (.none)) (.none))) (.alt 6 (.alt 3 (.one 5 0 (.alt 7 (.one 8 0 (.one 9 0 (.done))) (.none))) (.alt 5 (.alt 3 (.alt 7 (.one 8 0 (.one 9 0 (.done))) (.none)) (.none)) (.none))) (.none))))))))) (.t none (.u) (.t none (.u) (.u)))))))))) [(0, .c (.b))] [.slice l1.a l1.len l1.cap, .agg #[.int .i64 a2, .int .i64 a3], .agg #[.int .i64 b4, .int .i64 b5]] K w = S.law05_SlotsSwaps l1 a2 a3 b4 b5 K w := by kernel_rfl
  exact okF_mk Try.func10 rfl (fn_sound names_ok follows_ok Try.func10 rfl (by kernel_rfl) (Eq.mpr e h))

/-- buttress/buttresslaw05.SlotsMoves -/
def S.law05_SlotsMoves (l1 : Sl) (a2 : Int) (a3 : Int) (b4 : Int) (b5 : Int) (K : Bool → World → Prop) (w : World) : Prop :=
  Al w (.cells #[.int .i64 a2, .int .i64 a3] 49) fun w6 =>
   Al w6 (.cells #[.int .i64 b4, .int .i64 b5] 49) fun w7 =>
   C.law05_two  (fun r8 w9 =>
   bif r8.isNone then
    (K false w9)
   else
    (∀ l10 : Int → World → Prop,
   (∀ (i11 : Int) (w12 : World), (∀ k13 : Bool → World → Prop,
   (∀ (t14 : Bool) (w15 : World), (bif t14 then
    (Dr w15 fun w16 =>
   ∃ a17 : Addr, l1.a = some a17 ∧ 0 ≤ i11 ∧ i11 < (l1.len : Int) ∧
   LdL w16 ((a17.add (i11.toNat * 12)).add 2) 0 [.i .i64, .i .i64] fun (a18 : Int) (a19 : Int) =>
   ∃ a20 : Addr, l1.a = some a20 ∧ 0 ≤ i11 ∧ i11 < (l1.len : Int) ∧
   LdL w16 ((a20.add (i11.toNat * 12)).add 6) 0 [.i .i64, .i .i64, .i .i64, .i .u64, .i .u64, .i .i64] fun (c21 : Int) (c22 : Int) (c23 : Int) (c24 : Int) (c25 : Int) (c26 : Int) =>
   (C.slots_Nodes_Put r8 a18 a19 c21 c22 c23 c24 c25 c26 (fun r27 w28 =>
   l10 (IntKind.i64.wrap (i11 + (1 : Int))) w28) w16) ∧
   True)
   else
    (∀ k29 : Addr → Addr → World → Prop,
   (∀ (x30 : Addr) (y31 : Addr) (w32 : World), (C.slots_Nodes_Held r8 (fun r33 w34 =>
   LdL w34 x30 0 [.i .i64, .i .i64] fun (t35 : Int) (t36 : Int) =>
   C.slots_Nodes_Get r8 t35 t36 (fun r37 r38 r39 r40 r41 r42 r43 w44 =>
   Al w44 (.cells #[.int .i64 (0 : Int), .int .i64 (0 : Int), .int .i64 (0 : Int), .int .u64 (0 : Int), .int .u64 (0 : Int), .int .i64 (0 : Int)] 38) fun w45 =>
   StL w45 (Addr.mk w44.heap.size 0 none) 0 [.int .i64 r37, .int .i64 r38, .int .i64 r39, .int .u64 r40, .int .u64 r41, .int .i64 r42] fun w46 =>
   LdL w46 x30 0 [.i .i64, .i .i64] fun (t47 : Int) (t48 : Int) =>
   LdL w46 y31 0 [.i .i64, .i .i64] fun (t49 : Int) (t50 : Int) =>
   C.slots_Nodes_Move r8 t47 t48 t49 t50 (fun r51 w52 =>
   bif r51 != (0 : Int) then
    (C.slots_Nodes_Held r8 (fun r53 w54 =>
   C.ref05_Same r53 r33 (fun r55 w56 =>
   bif r55 then
    (C.law05_fixed  (fun r57 w58 =>
   K r57 w58) w56)
   else
    (K false w56)) w54) w52)
   else
    (LdL w52 x30 0 [.i .i64, .i .i64] fun (t59 : Int) (t60 : Int) =>
   C.slots_Nodes_Get r8 t59 t60 (fun r61 r62 r63 r64 r65 r66 r67 w68 =>
   Al w68 (.cells #[.int .i64 (0 : Int), .int .i64 (0 : Int), .int .i64 (0 : Int), .int .u64 (0 : Int), .int .u64 (0 : Int), .int .i64 (0 : Int)] 38) fun w69 =>
   StL w69 (Addr.mk w68.heap.size 0 none) 0 [.int .i64 r61, .int .i64 r62, .int .i64 r63, .int .u64 r64, .int .u64 r65, .int .i64 r66] fun w70 =>
   LdL w70 y31 0 [.i .i64, .i .i64] fun (t71 : Int) (t72 : Int) =>
   C.slots_Nodes_Get r8 t71 t72 (fun r73 r74 r75 r76 r77 r78 r79 w80 =>
   Al w80 (.cells #[.int .i64 (0 : Int), .int .i64 (0 : Int), .int .i64 (0 : Int), .int .u64 (0 : Int), .int .u64 (0 : Int), .int .i64 (0 : Int)] 38) fun w81 =>
   StL w81 (Addr.mk w80.heap.size 0 none) 0 [.int .i64 r73, .int .i64 r74, .int .i64 r75, .int .u64 r76, .int .u64 r77, .int .i64 r78] fun w82 =>
   LdL w82 y31 0 [.i .i64, .i .i64] fun (t83 : Int) (t84 : Int) =>
   LdL w82 x30 0 [.i .i64, .i .i64] fun (t85 : Int) (t86 : Int) =>
   C.slots_Nodes_Move r8 t83 t84 t85 t86 (fun r87 w88 =>
   ∃ kind89 : Int, w88.cell? (Addr.mk w44.heap.size 0 none) = some (.int .i64 kind89) ∧
   bif kind89 != (0 : Int) then
    (LdL w88 (Addr.mk w68.heap.size 0 none) 0 [.i .i64, .i .i64, .i .i64, .i .u64, .i .u64, .i .i64] fun (t90 : Int) (t91 : Int) (t92 : Int) (t93 : Int) (t94 : Int) (t95 : Int) =>
   ∃ eq96 : Bool, EqB Try.prog .eql 38 (.tmp 100) (.tmp 101) (.agg #[.int .i64 t90, .int .i64 t91, .int .i64 t92, .int .u64 t93, .int .u64 t94, .int .i64 t95]) (.agg #[.int .i64 (0 : Int), .int .i64 (0 : Int), .int .i64 (0 : Int), .int .u64 (0 : Int), .int .u64 (0 : Int), .int .i64 (0 : Int)]) eq96 ∧
   bif eq96 then
    (LdL w88 (Addr.mk w80.heap.size 0 none) 0 [.i .i64, .i .i64, .i .i64, .i .u64, .i .u64, .i .i64] fun (t97 : Int) (t98 : Int) (t99 : Int) (t100 : Int) (t101 : Int) (t102 : Int) =>
   LdL w88 (Addr.mk w44.heap.size 0 none) 0 [.i .i64, .i .i64, .i .i64, .i .u64, .i .u64, .i .i64] fun (kind103 : Int) (kind104 : Int) (kind105 : Int) (kind106 : Int) (kind107 : Int) (kind108 : Int) =>
   ∃ eq109 : Bool, EqB Try.prog .eql 38 (.tmp 105) (.tmp 106) (.agg #[.int .i64 t97, .int .i64 t98, .int .i64 t99, .int .u64 t100, .int .u64 t101, .int .i64 t102]) (.agg #[.int .i64 kind103, .int .i64 kind104, .int .i64 kind105, .int .u64 kind106, .int .u64 kind107, .int .i64 kind108]) eq109 ∧
   bif eq109 then
    (bif r87 == (0 : Int) then
    (C.slots_Nodes_Held r8 (fun r110 w111 =>
   C.ref05_Same r110 r33 (fun r112 w113 =>
   bif r112 then
    (C.law05_fixed  (fun r114 w115 =>
   K r114 w115) w113)
   else
    (K false w113)) w111) w88)
   else
    (K false w88))
   else
    (K false w88))
   else
    (K false w88))
   else
    (K false w88)) w82) w70) w52)) w46) w34) w32) → k29 x30 y31 w32) →
   (Dr w15 fun w116 =>
   ∃ node117 : Int, w116.cell? (Addr.mk w.heap.size 0 none) = some (.int .i64 node117) ∧
   ∃ i118 : Int, w116.cell? ((Addr.mk w.heap.size 0 none).add 1) = some (.int .i64 i118) ∧
   (∃ node119 : Int, w116.cell? (Addr.mk w6.heap.size 0 none) = some (.int .i64 node119) ∧
   (∃ i120 : Int, w116.cell? ((Addr.mk w6.heap.size 0 none).add 1) = some (.int .i64 i120) ∧
   (Al w116 (.cells #[.int .i64 (0 : Int), .int .i64 (0 : Int)] 49) fun w121 =>
   (Al w121 (.cells #[.int .i64 (0 : Int), .int .i64 (0 : Int)] 49) fun w122 =>
   (StL w122 (Addr.mk w116.heap.size 0 none) 0 [.int .i64 (andI .i64 node117 (1 : Int)), .int .i64 (andI .i64 i118 (3 : Int))] fun w123 =>
   (StL w123 (Addr.mk w121.heap.size 0 none) 0 [.int .i64 (andI .i64 node119 (1 : Int)), .int .i64 (andI .i64 i120 (3 : Int))] fun w124 =>
   k29 (Addr.mk w116.heap.size 0 none) (Addr.mk w121.heap.size 0 none) w124) ∧
   True) ∧
   True) ∧
   True) ∧
   (Al w116 (.cells #[.int .i64 (0 : Int), .int .i64 (0 : Int)] 49) fun w125 =>
   (Al w125 (.cells #[.int .i64 (0 : Int), .int .i64 (0 : Int)] 49) fun w126 =>
   (StL w126 (Addr.mk w125.heap.size 0 none) 0 [.int .i64 (andI .i64 node117 (1 : Int)), .int .i64 (andI .i64 i118 (3 : Int))] fun w127 =>
   (StL w127 (Addr.mk w116.heap.size 0 none) 0 [.int .i64 (andI .i64 node119 (1 : Int)), .int .i64 (andI .i64 i120 (3 : Int))] fun w128 =>
   k29 (Addr.mk w125.heap.size 0 none) (Addr.mk w116.heap.size 0 none) w128) ∧
   True) ∧
   True) ∧
   True) ∧
   True) ∧
   (Al w116 (.cells #[.int .i64 (0 : Int), .int .i64 (0 : Int)] 49) fun w129 =>
   (∃ i130 : Int, w129.cell? ((Addr.mk w6.heap.size 0 none).add 1) = some (.int .i64 i130) ∧
   (Al w129 (.cells #[.int .i64 (0 : Int), .int .i64 (0 : Int)] 49) fun w131 =>
   (StL w131 (Addr.mk w116.heap.size 0 none) 0 [.int .i64 (andI .i64 node117 (1 : Int)), .int .i64 (andI .i64 i118 (3 : Int))] fun w132 =>
   (StL w132 (Addr.mk w129.heap.size 0 none) 0 [.int .i64 (andI .i64 node119 (1 : Int)), .int .i64 (andI .i64 i130 (3 : Int))] fun w133 =>
   k29 (Addr.mk w116.heap.size 0 none) (Addr.mk w129.heap.size 0 none) w133) ∧
   True) ∧
   True) ∧
   True) ∧
   (Al w129 (.cells #[.int .i64 (0 : Int), .int .i64 (0 : Int)] 49) fun w134 =>
   (∃ i135 : Int, w134.cell? ((Addr.mk w6.heap.size 0 none).add 1) = some (.int .i64 i135) ∧
   (StL w134 (Addr.mk w116.heap.size 0 none) 0 [.int .i64 (andI .i64 node117 (1 : Int)), .int .i64 (andI .i64 i118 (3 : Int))] fun w136 =>
   (StL w136 (Addr.mk w129.heap.size 0 none) 0 [.int .i64 (andI .i64 node119 (1 : Int)), .int .i64 (andI .i64 i135 (3 : Int))] fun w137 =>
   k29 (Addr.mk w116.heap.size 0 none) (Addr.mk w129.heap.size 0 none) w137) ∧
   True) ∧
   True) ∧
   (StL w134 (Addr.mk w116.heap.size 0 none) 0 [.int .i64 (andI .i64 node117 (1 : Int)), .int .i64 (andI .i64 i118 (3 : Int))] fun w138 =>
   ∃ i139 : Int, w138.cell? ((Addr.mk w6.heap.size 0 none).add 1) = some (.int .i64 i139) ∧
   (StL w138 (Addr.mk w129.heap.size 0 none) 0 [.int .i64 (andI .i64 node119 (1 : Int)), .int .i64 (andI .i64 i139 (3 : Int))] fun w140 =>
   k29 (Addr.mk w116.heap.size 0 none) (Addr.mk w129.heap.size 0 none) w140) ∧
   True) ∧
   True) ∧
   True) ∧
   (Al w116 (.cells #[.int .i64 (0 : Int), .int .i64 (0 : Int)] 49) fun w141 =>
   (∃ i142 : Int, w141.cell? ((Addr.mk w6.heap.size 0 none).add 1) = some (.int .i64 i142) ∧
   (Al w141 (.cells #[.int .i64 (0 : Int), .int .i64 (0 : Int)] 49) fun w143 =>
   (StL w143 (Addr.mk w141.heap.size 0 none) 0 [.int .i64 (andI .i64 node117 (1 : Int)), .int .i64 (andI .i64 i118 (3 : Int))] fun w144 =>
   (StL w144 (Addr.mk w116.heap.size 0 none) 0 [.int .i64 (andI .i64 node119 (1 : Int)), .int .i64 (andI .i64 i142 (3 : Int))] fun w145 =>
   k29 (Addr.mk w141.heap.size 0 none) (Addr.mk w116.heap.size 0 none) w145) ∧
   True) ∧
   True) ∧
   True) ∧
   (Al w141 (.cells #[.int .i64 (0 : Int), .int .i64 (0 : Int)] 49) fun w146 =>
   (∃ i147 : Int, w146.cell? ((Addr.mk w6.heap.size 0 none).add 1) = some (.int .i64 i147) ∧
   (StL w146 (Addr.mk w141.heap.size 0 none) 0 [.int .i64 (andI .i64 node117 (1 : Int)), .int .i64 (andI .i64 i118 (3 : Int))] fun w148 =>
   (StL w148 (Addr.mk w116.heap.size 0 none) 0 [.int .i64 (andI .i64 node119 (1 : Int)), .int .i64 (andI .i64 i147 (3 : Int))] fun w149 =>
   k29 (Addr.mk w141.heap.size 0 none) (Addr.mk w116.heap.size 0 none) w149) ∧
   True) ∧
   True) ∧
   (StL w146 (Addr.mk w141.heap.size 0 none) 0 [.int .i64 (andI .i64 node117 (1 : Int)), .int .i64 (andI .i64 i118 (3 : Int))] fun w150 =>
   ∃ i151 : Int, w150.cell? ((Addr.mk w6.heap.size 0 none).add 1) = some (.int .i64 i151) ∧
   (StL w150 (Addr.mk w116.heap.size 0 none) 0 [.int .i64 (andI .i64 node119 (1 : Int)), .int .i64 (andI .i64 i151 (3 : Int))] fun w152 =>
   k29 (Addr.mk w141.heap.size 0 none) (Addr.mk w116.heap.size 0 none) w152) ∧
   True) ∧
   True) ∧
   True) ∧
   True) ∧
   (∃ i153 : Int, w116.cell? ((Addr.mk w6.heap.size 0 none).add 1) = some (.int .i64 i153) ∧
   (∃ node154 : Int, w116.cell? (Addr.mk w6.heap.size 0 none) = some (.int .i64 node154) ∧
   (Al w116 (.cells #[.int .i64 (0 : Int), .int .i64 (0 : Int)] 49) fun w155 =>
   (Al w155 (.cells #[.int .i64 (0 : Int), .int .i64 (0 : Int)] 49) fun w156 =>
   (StL w156 (Addr.mk w116.heap.size 0 none) 0 [.int .i64 (andI .i64 node117 (1 : Int)), .int .i64 (andI .i64 i118 (3 : Int))] fun w157 =>
   (StL w157 (Addr.mk w155.heap.size 0 none) 0 [.int .i64 (andI .i64 node154 (1 : Int)), .int .i64 (andI .i64 i153 (3 : Int))] fun w158 =>
   k29 (Addr.mk w116.heap.size 0 none) (Addr.mk w155.heap.size 0 none) w158) ∧
   True) ∧
   True) ∧
   True) ∧
   (Al w116 (.cells #[.int .i64 (0 : Int), .int .i64 (0 : Int)] 49) fun w159 =>
   (Al w159 (.cells #[.int .i64 (0 : Int), .int .i64 (0 : Int)] 49) fun w160 =>
   (StL w160 (Addr.mk w159.heap.size 0 none) 0 [.int .i64 (andI .i64 node117 (1 : Int)), .int .i64 (andI .i64 i118 (3 : Int))] fun w161 =>
   (StL w161 (Addr.mk w116.heap.size 0 none) 0 [.int .i64 (andI .i64 node154 (1 : Int)), .int .i64 (andI .i64 i153 (3 : Int))] fun w162 =>
   k29 (Addr.mk w159.heap.size 0 none) (Addr.mk w116.heap.size 0 none) w162) ∧
   True) ∧
   True) ∧
   True) ∧
   True) ∧
   (Al w116 (.cells #[.int .i64 (0 : Int), .int .i64 (0 : Int)] 49) fun w163 =>
   (∃ node164 : Int, w163.cell? (Addr.mk w6.heap.size 0 none) = some (.int .i64 node164) ∧
   (Al w163 (.cells #[.int .i64 (0 : Int), .int .i64 (0 : Int)] 49) fun w165 =>
   (StL w165 (Addr.mk w116.heap.size 0 none) 0 [.int .i64 (andI .i64 node117 (1 : Int)), .int .i64 (andI .i64 i118 (3 : Int))] fun w166 =>
   (StL w166 (Addr.mk w163.heap.size 0 none) 0 [.int .i64 (andI .i64 node164 (1 : Int)), .int .i64 (andI .i64 i153 (3 : Int))] fun w167 =>
   k29 (Addr.mk w116.heap.size 0 none) (Addr.mk w163.heap.size 0 none) w167) ∧
   True) ∧
   True) ∧
   True) ∧
   (Al w163 (.cells #[.int .i64 (0 : Int), .int .i64 (0 : Int)] 49) fun w168 =>
   (∃ node169 : Int, w168.cell? (Addr.mk w6.heap.size 0 none) = some (.int .i64 node169) ∧
   (StL w168 (Addr.mk w116.heap.size 0 none) 0 [.int .i64 (andI .i64 node117 (1 : Int)), .int .i64 (andI .i64 i118 (3 : Int))] fun w170 =>
   (StL w170 (Addr.mk w163.heap.size 0 none) 0 [.int .i64 (andI .i64 node169 (1 : Int)), .int .i64 (andI .i64 i153 (3 : Int))] fun w171 =>
   k29 (Addr.mk w116.heap.size 0 none) (Addr.mk w163.heap.size 0 none) w171) ∧
   True) ∧
   True) ∧
   (StL w168 (Addr.mk w116.heap.size 0 none) 0 [.int .i64 (andI .i64 node117 (1 : Int)), .int .i64 (andI .i64 i118 (3 : Int))] fun w172 =>
   ∃ node173 : Int, w172.cell? (Addr.mk w6.heap.size 0 none) = some (.int .i64 node173) ∧
   (StL w172 (Addr.mk w163.heap.size 0 none) 0 [.int .i64 (andI .i64 node173 (1 : Int)), .int .i64 (andI .i64 i153 (3 : Int))] fun w174 =>
   k29 (Addr.mk w116.heap.size 0 none) (Addr.mk w163.heap.size 0 none) w174) ∧
   True) ∧
   True) ∧
   True) ∧
   (Al w116 (.cells #[.int .i64 (0 : Int), .int .i64 (0 : Int)] 49) fun w175 =>
   (∃ node176 : Int, w175.cell? (Addr.mk w6.heap.size 0 none) = some (.int .i64 node176) ∧
   (Al w175 (.cells #[.int .i64 (0 : Int), .int .i64 (0 : Int)] 49) fun w177 =>
   (StL w177 (Addr.mk w175.heap.size 0 none) 0 [.int .i64 (andI .i64 node117 (1 : Int)), .int .i64 (andI .i64 i118 (3 : Int))] fun w178 =>
   (StL w178 (Addr.mk w116.heap.size 0 none) 0 [.int .i64 (andI .i64 node176 (1 : Int)), .int .i64 (andI .i64 i153 (3 : Int))] fun w179 =>
   k29 (Addr.mk w175.heap.size 0 none) (Addr.mk w116.heap.size 0 none) w179) ∧
   True) ∧
   True) ∧
   True) ∧
   (Al w175 (.cells #[.int .i64 (0 : Int), .int .i64 (0 : Int)] 49) fun w180 =>
   (∃ node181 : Int, w180.cell? (Addr.mk w6.heap.size 0 none) = some (.int .i64 node181) ∧
   (StL w180 (Addr.mk w175.heap.size 0 none) 0 [.int .i64 (andI .i64 node117 (1 : Int)), .int .i64 (andI .i64 i118 (3 : Int))] fun w182 =>
   (StL w182 (Addr.mk w116.heap.size 0 none) 0 [.int .i64 (andI .i64 node181 (1 : Int)), .int .i64 (andI .i64 i153 (3 : Int))] fun w183 =>
   k29 (Addr.mk w175.heap.size 0 none) (Addr.mk w116.heap.size 0 none) w183) ∧
   True) ∧
   True) ∧
   (StL w180 (Addr.mk w175.heap.size 0 none) 0 [.int .i64 (andI .i64 node117 (1 : Int)), .int .i64 (andI .i64 i118 (3 : Int))] fun w184 =>
   ∃ node185 : Int, w184.cell? (Addr.mk w6.heap.size 0 none) = some (.int .i64 node185) ∧
   (StL w184 (Addr.mk w116.heap.size 0 none) 0 [.int .i64 (andI .i64 node185 (1 : Int)), .int .i64 (andI .i64 i153 (3 : Int))] fun w186 =>
   k29 (Addr.mk w175.heap.size 0 none) (Addr.mk w116.heap.size 0 none) w186) ∧
   True) ∧
   True) ∧
   True) ∧
   True) ∧
   (Al w116 (.cells #[.int .i64 (0 : Int), .int .i64 (0 : Int)] 49) fun w187 =>
   (∃ node188 : Int, w187.cell? (Addr.mk w6.heap.size 0 none) = some (.int .i64 node188) ∧
   (∃ i189 : Int, w187.cell? ((Addr.mk w6.heap.size 0 none).add 1) = some (.int .i64 i189) ∧
   (Al w187 (.cells #[.int .i64 (0 : Int), .int .i64 (0 : Int)] 49) fun w190 =>
   (StL w190 (Addr.mk w116.heap.size 0 none) 0 [.int .i64 (andI .i64 node117 (1 : Int)), .int .i64 (andI .i64 i118 (3 : Int))] fun w191 =>
   (StL w191 (Addr.mk w187.heap.size 0 none) 0 [.int .i64 (andI .i64 node188 (1 : Int)), .int .i64 (andI .i64 i189 (3 : Int))] fun w192 =>
   k29 (Addr.mk w116.heap.size 0 none) (Addr.mk w187.heap.size 0 none) w192) ∧
   True) ∧
   True) ∧
   True) ∧
   (Al w187 (.cells #[.int .i64 (0 : Int), .int .i64 (0 : Int)] 49) fun w193 =>
   (∃ i194 : Int, w193.cell? ((Addr.mk w6.heap.size 0 none).add 1) = some (.int .i64 i194) ∧
   (StL w193 (Addr.mk w116.heap.size 0 none) 0 [.int .i64 (andI .i64 node117 (1 : Int)), .int .i64 (andI .i64 i118 (3 : Int))] fun w195 =>
   (StL w195 (Addr.mk w187.heap.size 0 none) 0 [.int .i64 (andI .i64 node188 (1 : Int)), .int .i64 (andI .i64 i194 (3 : Int))] fun w196 =>
   k29 (Addr.mk w116.heap.size 0 none) (Addr.mk w187.heap.size 0 none) w196) ∧
   True) ∧
   True) ∧
   (StL w193 (Addr.mk w116.heap.size 0 none) 0 [.int .i64 (andI .i64 node117 (1 : Int)), .int .i64 (andI .i64 i118 (3 : Int))] fun w197 =>
   ∃ i198 : Int, w197.cell? ((Addr.mk w6.heap.size 0 none).add 1) = some (.int .i64 i198) ∧
   (StL w197 (Addr.mk w187.heap.size 0 none) 0 [.int .i64 (andI .i64 node188 (1 : Int)), .int .i64 (andI .i64 i198 (3 : Int))] fun w199 =>
   k29 (Addr.mk w116.heap.size 0 none) (Addr.mk w187.heap.size 0 none) w199) ∧
   True) ∧
   True) ∧
   True) ∧
   (∃ i200 : Int, w187.cell? ((Addr.mk w6.heap.size 0 none).add 1) = some (.int .i64 i200) ∧
   (∃ node201 : Int, w187.cell? (Addr.mk w6.heap.size 0 none) = some (.int .i64 node201) ∧
   (Al w187 (.cells #[.int .i64 (0 : Int), .int .i64 (0 : Int)] 49) fun w202 =>
   (StL w202 (Addr.mk w116.heap.size 0 none) 0 [.int .i64 (andI .i64 node117 (1 : Int)), .int .i64 (andI .i64 i118 (3 : Int))] fun w203 =>
   (StL w203 (Addr.mk w187.heap.size 0 none) 0 [.int .i64 (andI .i64 node201 (1 : Int)), .int .i64 (andI .i64 i200 (3 : Int))] fun w204 =>
   k29 (Addr.mk w116.heap.size 0 none) (Addr.mk w187.heap.size 0 none) w204) ∧
   True) ∧
   True) ∧
   True) ∧
   (Al w187 (.cells #[.int .i64 (0 : Int), .int .i64 (0 : Int)] 49) fun w205 =>
   (∃ node206 : Int, w205.cell? (Addr.mk w6.heap.size 0 none) = some (.int .i64 node206) ∧
   (StL w205 (Addr.mk w116.heap.size 0 none) 0 [.int .i64 (andI .i64 node117 (1 : Int)), .int .i64 (andI .i64 i118 (3 : Int))] fun w207 =>
   (StL w207 (Addr.mk w187.heap.size 0 none) 0 [.int .i64 (andI .i64 node206 (1 : Int)), .int .i64 (andI .i64 i200 (3 : Int))] fun w208 =>
   k29 (Addr.mk w116.heap.size 0 none) (Addr.mk w187.heap.size 0 none) w208) ∧
   True) ∧
   True) ∧
   (StL w205 (Addr.mk w116.heap.size 0 none) 0 [.int .i64 (andI .i64 node117 (1 : Int)), .int .i64 (andI .i64 i118 (3 : Int))] fun w209 =>
   ∃ node210 : Int, w209.cell? (Addr.mk w6.heap.size 0 none) = some (.int .i64 node210) ∧
   (StL w209 (Addr.mk w187.heap.size 0 none) 0 [.int .i64 (andI .i64 node210 (1 : Int)), .int .i64 (andI .i64 i200 (3 : Int))] fun w211 =>
   k29 (Addr.mk w116.heap.size 0 none) (Addr.mk w187.heap.size 0 none) w211) ∧
   True) ∧
   True) ∧
   True) ∧
   (Al w187 (.cells #[.int .i64 (0 : Int), .int .i64 (0 : Int)] 49) fun w212 =>
   (∃ node213 : Int, w212.cell? (Addr.mk w6.heap.size 0 none) = some (.int .i64 node213) ∧
   (∃ i214 : Int, w212.cell? ((Addr.mk w6.heap.size 0 none).add 1) = some (.int .i64 i214) ∧
   (StL w212 (Addr.mk w116.heap.size 0 none) 0 [.int .i64 (andI .i64 node117 (1 : Int)), .int .i64 (andI .i64 i118 (3 : Int))] fun w215 =>
   (StL w215 (Addr.mk w187.heap.size 0 none) 0 [.int .i64 (andI .i64 node213 (1 : Int)), .int .i64 (andI .i64 i214 (3 : Int))] fun w216 =>
   k29 (Addr.mk w116.heap.size 0 none) (Addr.mk w187.heap.size 0 none) w216) ∧
   True) ∧
   True) ∧
   (StL w212 (Addr.mk w116.heap.size 0 none) 0 [.int .i64 (andI .i64 node117 (1 : Int)), .int .i64 (andI .i64 i118 (3 : Int))] fun w217 =>
   ∃ i218 : Int, w217.cell? ((Addr.mk w6.heap.size 0 none).add 1) = some (.int .i64 i218) ∧
   (StL w217 (Addr.mk w187.heap.size 0 none) 0 [.int .i64 (andI .i64 node213 (1 : Int)), .int .i64 (andI .i64 i218 (3 : Int))] fun w219 =>
   k29 (Addr.mk w116.heap.size 0 none) (Addr.mk w187.heap.size 0 none) w219) ∧
   True) ∧
   True) ∧
   (∃ i220 : Int, w212.cell? ((Addr.mk w6.heap.size 0 none).add 1) = some (.int .i64 i220) ∧
   (∃ node221 : Int, w212.cell? (Addr.mk w6.heap.size 0 none) = some (.int .i64 node221) ∧
   (StL w212 (Addr.mk w116.heap.size 0 none) 0 [.int .i64 (andI .i64 node117 (1 : Int)), .int .i64 (andI .i64 i118 (3 : Int))] fun w222 =>
   (StL w222 (Addr.mk w187.heap.size 0 none) 0 [.int .i64 (andI .i64 node221 (1 : Int)), .int .i64 (andI .i64 i220 (3 : Int))] fun w223 =>
   k29 (Addr.mk w116.heap.size 0 none) (Addr.mk w187.heap.size 0 none) w223) ∧
   True) ∧
   True) ∧
   (StL w212 (Addr.mk w116.heap.size 0 none) 0 [.int .i64 (andI .i64 node117 (1 : Int)), .int .i64 (andI .i64 i118 (3 : Int))] fun w224 =>
   ∃ node225 : Int, w224.cell? (Addr.mk w6.heap.size 0 none) = some (.int .i64 node225) ∧
   (StL w224 (Addr.mk w187.heap.size 0 none) 0 [.int .i64 (andI .i64 node225 (1 : Int)), .int .i64 (andI .i64 i220 (3 : Int))] fun w226 =>
   k29 (Addr.mk w116.heap.size 0 none) (Addr.mk w187.heap.size 0 none) w226) ∧
   True) ∧
   True) ∧
   (StL w212 (Addr.mk w116.heap.size 0 none) 0 [.int .i64 (andI .i64 node117 (1 : Int)), .int .i64 (andI .i64 i118 (3 : Int))] fun w227 =>
   ∃ node228 : Int, w227.cell? (Addr.mk w6.heap.size 0 none) = some (.int .i64 node228) ∧
   ∃ i229 : Int, w227.cell? ((Addr.mk w6.heap.size 0 none).add 1) = some (.int .i64 i229) ∧
   (StL w227 (Addr.mk w187.heap.size 0 none) 0 [.int .i64 (andI .i64 node228 (1 : Int)), .int .i64 (andI .i64 i229 (3 : Int))] fun w230 =>
   k29 (Addr.mk w116.heap.size 0 none) (Addr.mk w187.heap.size 0 none) w230) ∧
   True) ∧
   True) ∧
   True) ∧
   (Al w116 (.cells #[.int .i64 (0 : Int), .int .i64 (0 : Int)] 49) fun w231 =>
   (∃ node232 : Int, w231.cell? (Addr.mk w6.heap.size 0 none) = some (.int .i64 node232) ∧
   (∃ i233 : Int, w231.cell? ((Addr.mk w6.heap.size 0 none).add 1) = some (.int .i64 i233) ∧
   (Al w231 (.cells #[.int .i64 (0 : Int), .int .i64 (0 : Int)] 49) fun w234 =>
   (StL w234 (Addr.mk w231.heap.size 0 none) 0 [.int .i64 (andI .i64 node117 (1 : Int)), .int .i64 (andI .i64 i118 (3 : Int))] fun w235 =>
   (StL w235 (Addr.mk w116.heap.size 0 none) 0 [.int .i64 (andI .i64 node232 (1 : Int)), .int .i64 (andI .i64 i233 (3 : Int))] fun w236 =>
   k29 (Addr.mk w231.heap.size 0 none) (Addr.mk w116.heap.size 0 none) w236) ∧
   True) ∧
   True) ∧
   True) ∧
   (Al w231 (.cells #[.int .i64 (0 : Int), .int .i64 (0 : Int)] 49) fun w237 =>
   (∃ i238 : Int, w237.cell? ((Addr.mk w6.heap.size 0 none).add 1) = some (.int .i64 i238) ∧
   (StL w237 (Addr.mk w231.heap.size 0 none) 0 [.int .i64 (andI .i64 node117 (1 : Int)), .int .i64 (andI .i64 i118 (3 : Int))] fun w239 =>
   (StL w239 (Addr.mk w116.heap.size 0 none) 0 [.int .i64 (andI .i64 node232 (1 : Int)), .int .i64 (andI .i64 i238 (3 : Int))] fun w240 =>
   k29 (Addr.mk w231.heap.size 0 none) (Addr.mk w116.heap.size 0 none) w240) ∧
   True) ∧
   True) ∧
   (StL w237 (Addr.mk w231.heap.size 0 none) 0 [.int .i64 (andI .i64 node117 (1 : Int)), .int .i64 (andI .i64 i118 (3 : Int))] fun w241 =>
   ∃ i242 : Int, w241.cell? ((Addr.mk w6.heap.size 0 none).add 1) = some (.int .i64 i242) ∧
   (StL w241 (Addr.mk w116.heap.size 0 none) 0 [.int .i64 (andI .i64 node232 (1 : Int)), .int .i64 (andI .i64 i242 (3 : Int))] fun w243 =>
   k29 (Addr.mk w231.heap.size 0 none) (Addr.mk w116.heap.size 0 none) w243) ∧
   True) ∧
   True) ∧
   True) ∧
   (∃ i244 : Int, w231.cell? ((Addr.mk w6.heap.size 0 none).add 1) = some (.int .i64 i244) ∧
   (∃ node245 : Int, w231.cell? (Addr.mk w6.heap.size 0 none) = some (.int .i64 node245) ∧
   (Al w231 (.cells #[.int .i64 (0 : Int), .int .i64 (0 : Int)] 49) fun w246 =>
   (StL w246 (Addr.mk w231.heap.size 0 none) 0 [.int .i64 (andI .i64 node117 (1 : Int)), .int .i64 (andI .i64 i118 (3 : Int))] fun w247 =>
   (StL w247 (Addr.mk w116.heap.size 0 none) 0 [.int .i64 (andI .i64 node245 (1 : Int)), .int .i64 (andI .i64 i244 (3 : Int))] fun w248 =>
   k29 (Addr.mk w231.heap.size 0 none) (Addr.mk w116.heap.size 0 none) w248) ∧
   True) ∧
   True) ∧
   True) ∧
   (Al w231 (.cells #[.int .i64 (0 : Int), .int .i64 (0 : Int)] 49) fun w249 =>
   (∃ node250 : Int, w249.cell? (Addr.mk w6.heap.size 0 none) = some (.int .i64 node250) ∧
   (StL w249 (Addr.mk w231.heap.size 0 none) 0 [.int .i64 (andI .i64 node117 (1 : Int)), .int .i64 (andI .i64 i118 (3 : Int))] fun w251 =>
   (StL w251 (Addr.mk w116.heap.size 0 none) 0 [.int .i64 (andI .i64 node250 (1 : Int)), .int .i64 (andI .i64 i244 (3 : Int))] fun w252 =>
   k29 (Addr.mk w231.heap.size 0 none) (Addr.mk w116.heap.size 0 none) w252) ∧
   True) ∧
   True) ∧
   (StL w249 (Addr.mk w231.heap.size 0 none) 0 [.int .i64 (andI .i64 node117 (1 : Int)), .int .i64 (andI .i64 i118 (3 : Int))] fun w253 =>
   ∃ node254 : Int, w253.cell? (Addr.mk w6.heap.size 0 none) = some (.int .i64 node254) ∧
   (StL w253 (Addr.mk w116.heap.size 0 none) 0 [.int .i64 (andI .i64 node254 (1 : Int)), .int .i64 (andI .i64 i244 (3 : Int))] fun w255 =>
   k29 (Addr.mk w231.heap.size 0 none) (Addr.mk w116.heap.size 0 none) w255) ∧
   True) ∧
   True) ∧
   True) ∧
   (Al w231 (.cells #[.int .i64 (0 : Int), .int .i64 (0 : Int)] 49) fun w256 =>
   (∃ node257 : Int, w256.cell? (Addr.mk w6.heap.size 0 none) = some (.int .i64 node257) ∧
   (∃ i258 : Int, w256.cell? ((Addr.mk w6.heap.size 0 none).add 1) = some (.int .i64 i258) ∧
   (StL w256 (Addr.mk w231.heap.size 0 none) 0 [.int .i64 (andI .i64 node117 (1 : Int)), .int .i64 (andI .i64 i118 (3 : Int))] fun w259 =>
   (StL w259 (Addr.mk w116.heap.size 0 none) 0 [.int .i64 (andI .i64 node257 (1 : Int)), .int .i64 (andI .i64 i258 (3 : Int))] fun w260 =>
   k29 (Addr.mk w231.heap.size 0 none) (Addr.mk w116.heap.size 0 none) w260) ∧
   True) ∧
   True) ∧
   (StL w256 (Addr.mk w231.heap.size 0 none) 0 [.int .i64 (andI .i64 node117 (1 : Int)), .int .i64 (andI .i64 i118 (3 : Int))] fun w261 =>
   ∃ i262 : Int, w261.cell? ((Addr.mk w6.heap.size 0 none).add 1) = some (.int .i64 i262) ∧
   (StL w261 (Addr.mk w116.heap.size 0 none) 0 [.int .i64 (andI .i64 node257 (1 : Int)), .int .i64 (andI .i64 i262 (3 : Int))] fun w263 =>
   k29 (Addr.mk w231.heap.size 0 none) (Addr.mk w116.heap.size 0 none) w263) ∧
   True) ∧
   True) ∧
   (∃ i264 : Int, w256.cell? ((Addr.mk w6.heap.size 0 none).add 1) = some (.int .i64 i264) ∧
   (∃ node265 : Int, w256.cell? (Addr.mk w6.heap.size 0 none) = some (.int .i64 node265) ∧
   (StL w256 (Addr.mk w231.heap.size 0 none) 0 [.int .i64 (andI .i64 node117 (1 : Int)), .int .i64 (andI .i64 i118 (3 : Int))] fun w266 =>
   (StL w266 (Addr.mk w116.heap.size 0 none) 0 [.int .i64 (andI .i64 node265 (1 : Int)), .int .i64 (andI .i64 i264 (3 : Int))] fun w267 =>
   k29 (Addr.mk w231.heap.size 0 none) (Addr.mk w116.heap.size 0 none) w267) ∧
   True) ∧
   True) ∧
   (StL w256 (Addr.mk w231.heap.size 0 none) 0 [.int .i64 (andI .i64 node117 (1 : Int)), .int .i64 (andI .i64 i118 (3 : Int))] fun w268 =>
   ∃ node269 : Int, w268.cell? (Addr.mk w6.heap.size 0 none) = some (.int .i64 node269) ∧
   (StL w268 (Addr.mk w116.heap.size 0 none) 0 [.int .i64 (andI .i64 node269 (1 : Int)), .int .i64 (andI .i64 i264 (3 : Int))] fun w270 =>
   k29 (Addr.mk w231.heap.size 0 none) (Addr.mk w116.heap.size 0 none) w270) ∧
   True) ∧
   True) ∧
   (StL w256 (Addr.mk w231.heap.size 0 none) 0 [.int .i64 (andI .i64 node117 (1 : Int)), .int .i64 (andI .i64 i118 (3 : Int))] fun w271 =>
   ∃ node272 : Int, w271.cell? (Addr.mk w6.heap.size 0 none) = some (.int .i64 node272) ∧
   ∃ i273 : Int, w271.cell? ((Addr.mk w6.heap.size 0 none).add 1) = some (.int .i64 i273) ∧
   (StL w271 (Addr.mk w116.heap.size 0 none) 0 [.int .i64 (andI .i64 node272 (1 : Int)), .int .i64 (andI .i64 i273 (3 : Int))] fun w274 =>
   k29 (Addr.mk w231.heap.size 0 none) (Addr.mk w116.heap.size 0 none) w274) ∧
   True) ∧
   True) ∧
   True) ∧
   True))) → k13 t14 w15) →
   (bif decide (i11 < (l1.len : Int)) then
    (k13 (decide (i11 < (20 : Int))) w12)
   else
    (k13 false w12))) → l10 i11 w12) →
   l10 (0 : Int) w9)) w7
set_option maxRecDepth 100000 in
theorem S.law05_SlotsMoves_ok (l1 : Sl) (a2 : Int) (a3 : Int) (b4 : Int) (b5 : Int) (K : Bool → World → Prop) (w : World) (h : S.law05_SlotsMoves l1 a2 a3 b4 b5 K w) : C.law05_SlotsMoves l1 a2 a3 b4 b5 K w := by
  have e : fnV Try.prog Try.f11 (bodyOf Try.f11) (.t none (.u) (.t none (.u) (.t none (.t none (.u) (.t none (.t none (.u) (.u)) (.u))) (.t none (.t none (.u) (.t none (.t (some [(8, .c (.i .i64))]) (.t none (.t none (.r (some [(30, .c (.b))]) .done) (.t none (.u) (.u))) (.t none (.t none (.r none (.one 0 2046 (.one 1 1988 (.one 2 1984 (.one 3 1984 (.one 4 1984 (.one 5 1984 (.one 6 128 (.one 7 0 (.one 8 0 (.one 9 0 (.one 10 0 (.alt 11 (.done) (.none)))))))))))))) (.u)) (.u))) (.u)) (.u))) (.t none (.r (some [(9, .c (.q)), (10, .c (.q))]) (.one 0 65464 (.one 1 65464 (.one 2 65464 (.one 3 65408 (.one 4 65408 (.one 5 65408 (.one 6 65408 (.one 7 121856 (.one 10 115456 (.alt 8 (.one 9 120832 (.alt 11 (.one 12 114688 (.one 13 114688 (.alt 14 (.alt 15 (.alt 16 (.alt 17 (.done) (.none)) (.none)) (.none)) (.alt 15 (.alt 14 (.alt 16 (.alt 17 (.done) (.none)) (.none)) (.none)) (.none))))) (.alt 14 (.alt 11 (.one 12 98304 (.one 13 98304 (.alt 15 (.alt 16 (.alt 17 (.done) (.none)) (.none)) (.none)))) (.alt 15 (.alt 11 (.one 12 65536 (.one 13 65536 (.alt 16 (.alt 17 (.done) (.none)) (.none)))) (.alt 16 (.one 11 0 (.one 12 0 (.one 13 0 (.alt 17 (.done) (.none))))) (.none))) (.none))) (.alt 15 (.alt 11 (.one 12 81920 (.one 13 81920 (.alt 14 (.alt 16 (.alt 17 (.done) (.none)) (.none)) (.none)))) (.alt 14 (.alt 11 (.one 12 65536 (.one 13 65536 (.alt 16 (.alt 17 (.done) (.none)) (.none)))) (.alt 16 (.one 11 0 (.one 12 0 (.one 13 0 (.alt 17 (.done) (.none))))) (.none))) (.none))) (.none))))) (.alt 11 (.one 12 115456 (.alt 8 (.one 9 114688 (.one 13 114688 (.alt 14 (.alt 15 (.alt 16 (.alt 17 (.done) (.none)) (.none)) (.none)) (.alt 15 (.alt 14 (.alt 16 (.alt 17 (.done) (.none)) (.none)) (.none)) (.none))))) (.alt 14 (.alt 8 (.one 9 98304 (.one 13 98304 (.alt 15 (.alt 16 (.alt 17 (.done) (.none)) (.none)) (.none)))) (.alt 15 (.alt 8 (.one 9 65536 (.one 13 65536 (.alt 16 (.alt 17 (.done) (.none)) (.none)))) (.alt 16 (.one 8 0 (.one 9 0 (.one 13 0 (.alt 17 (.done) (.none))))) (.none))) (.none))) (.alt 15 (.alt 8 (.one 9 81920 (.one 13 81920 (.alt 14 (.alt 16 (.alt 17 (.done) (.none)) (.none)) (.none)))) (.alt 14 (.alt 8 (.one 9 65536 (.one 13 65536 (.alt 16 (.alt 17 (.done) (.none)) (.none)))) (.alt 16 (.one 8 0 (.one 9 0 (.one 13 0 (.alt 17 (.done) (.none))))) (.none))) (.none))) (.none))))) (.alt 14 (.alt 8 (.one 9 104448 (.alt 11 (.one 12 98304 (.one 13 98304 (.alt 15 (.alt 16 (.alt 17 (.done) (.none)) (.none)) (.none)))) (.alt 15 (.alt 11 (.one 12 65536 (.one 13 65536 (.alt 16 (.alt 17 (.done) (.none)) (.none)))) (.alt 16 (.one 11 0 (.one 12 0 (.one 13 0 (.alt 17 (.done) (.none))))) (.none))) (.none)))) (.alt 11 (.one 12 99072 (.alt 8 (.one 9 98304 (.one 13 98304 (.alt 15 (.alt 16 (.alt 17 (.done) (.none)) (.none)) (.none)))) (.alt 15 (.alt 8 (.one 9 65536 (.one 13 65536 (.alt 16 (.alt 17 (.done) (.none)) (.none)))) (.alt 16 (.one 8 0 (.one 9 0 (.one 13 0 (.alt 17 (.done) (.none))))) (.none))) (.none)))) (.alt 15 (.alt 8 (.one 9 71680 (.alt 11 (.one 12 65536 (.one 13 65536 (.alt 16 (.alt 17 (.done) (.none)) (.none)))) (.alt 16 (.one 11 0 (.one 12 0 (.one 13 0 (.alt 17 (.done) (.none))))) (.none)))) (.alt 11 (.one 12 66304 (.alt 8 (.one 9 65536 (.one 13 65536 (.alt 16 (.alt 17 (.done) (.none)) (.none)))) (.alt 16 (.one 8 0 (.one 9 0 (.one 13 0 (.alt 17 (.done) (.none))))) (.none)))) (.alt 16 (.one 8 6144 (.one 9 6144 (.one 11 0 (.one 12 0 (.one 13 0 (.alt 17 (.done) (.none))))))) (.none)))) (.none)))) (.alt 15 (.alt 8 (.one 9 88064 (.alt 11 (.one 12 81920 (.one 13 81920 (.alt 14 (.alt 16 (.alt 17 (.done) (.none)) (.none)) (.none)))) (.alt 14 (.alt 11 (.one 12 65536 (.one 13 65536 (.alt 16 (.alt 17 (.done) (.none)) (.none)))) (.alt 16 (.one 11 0 (.one 12 0 (.one 13 0 (.alt 17 (.done) (.none))))) (.none))) (.none)))) (.alt 11 (.one 12 82688 (.alt 8 (.one 9 81920 (.one 13 81920 (.alt 14 (.alt 16 (.alt 17 (.done) (.none)) (.none)) (.none)))) (.alt 14 (.alt 8 (.one 9 65536 (.one 13 65536 (.alt 16 (.alt 17 (.done) (.none)) (.none)))) (.alt 16 (.one 8 0 (.one 9 0 (.one 13 0 (.alt 17 (.done) (.none))))) (.none))) (.none)))) (.alt 14 (.alt 8 (.one 9 71680 (.alt 11 (.one 12 65536 (.one 13 65536 (.alt 16 (.alt 17 (.done) (.none)) (.none)))) (.alt 16 (.one 11 0 (.one 12 0 (.one 13 0 (.alt 17 (.done) (.none))))) (.none)))) (.alt 11 (.one 12 66304 (.alt 8 (.one 9 65536 (.one 13 65536 (.alt 16 (.alt 17 (.done) (.none)) (.none)))) (.alt 16 (.one 8 0 (.one 9 0 (.one 13 0 (.alt 17 (.done) (.none))))) (.none)))) (.alt 16 (.one 8 6144 (.one 9 6144 (.one 11 0 (.one 12 0 (.one 13 0 (.alt 17 (.done) (.none))))))) (.none)))) (.none)))) (.none))))))))))))))) (.t none (.u) (.t none (.u) (.t none (.u) (.t none (.t none (.u) (.t none (.t none (.u) (.u)) (.u))) (.t none (.u) (.t none (.u) (.t none (.u) (.t none (.u) (.u)))))))))))))) [(0, .c (.b))] [.slice l1.a l1.len l1.cap, .agg #[.int .i64 a2, .int .i64 a3], .agg #[.int .i64 b4, .int .i64 b5]] K w = S.law05_SlotsMoves l1 a2 a3 b4 b5 K w := by kernel_rfl
  exact okF_mk Try.func11 rfl (fn_sound names_ok follows_ok Try.func11 rfl (by kernel_rfl) (Eq.mpr e h))

/-- buttress/buttresslaw05.SlotsDrops -/
def S.law05_SlotsDrops (l1 : Sl) (k2 : Int) (K : Bool → World → Prop) (w : World) : Prop :=
  C.law05_two  (fun r3 w4 =>
   bif r3.isNone then
    (K false w4)
   else
    (∀ l5 : Int → World → Prop,
   (∀ (i6 : Int) (w7 : World), (∀ k8 : Bool → World → Prop,
   (∀ (t9 : Bool) (w10 : World), (bif t9 then
    (Dr w10 fun w11 =>
   ∃ a12 : Addr, l1.a = some a12 ∧ 0 ≤ i6 ∧ i6 < (l1.len : Int) ∧
   LdL w11 ((a12.add (i6.toNat * 12)).add 2) 0 [.i .i64, .i .i64] fun (a13 : Int) (a14 : Int) =>
   ∃ a15 : Addr, l1.a = some a15 ∧ 0 ≤ i6 ∧ i6 < (l1.len : Int) ∧
   LdL w11 ((a15.add (i6.toNat * 12)).add 6) 0 [.i .i64, .i .i64, .i .i64, .i .u64, .i .u64, .i .i64] fun (c16 : Int) (c17 : Int) (c18 : Int) (c19 : Int) (c20 : Int) (c21 : Int) =>
   (C.slots_Nodes_Put r3 a13 a14 c16 c17 c18 c19 c20 c21 (fun r22 w23 =>
   l5 (IntKind.i64.wrap (i6 + (1 : Int))) w23) w11) ∧
   True)
   else
    (C.slots_Nodes_Held r3 (fun r24 w25 =>
   ∀ l26 : Int → Int → World → Prop,
   (∀ (had27 : Int) (i28 : Int) (w29 : World), (bif decide (i28 < (r24.len : Int)) then
    (∃ a30 : Addr, r24.a = some a30 ∧ 0 ≤ i28 ∧ i28 < (r24.len : Int) ∧
   ∃ node31 : Int, w29.cell? (a30.add (i28.toNat * 8)) = some (.int .i64 node31) ∧
   bif node31 == (andI .i64 k2 (1 : Int)) then
    (l26 (IntKind.i64.wrap (had27 + (1 : Int))) (IntKind.i64.wrap (i28 + (1 : Int))) w29)
   else
    (l26 had27 (IntKind.i64.wrap (i28 + (1 : Int))) w29))
   else
    (C.slots_Nodes_Drop r3 (andI .i64 k2 (1 : Int)) (fun r32 w33 =>
   C.slots_Nodes_Size r3 (andI .i64 k2 (1 : Int)) (fun r34 r35 w36 =>
   C.slots_Nodes_Size r3 (xorI .i64 (andI .i64 k2 (1 : Int)) (1 : Int)) (fun r37 r38 w39 =>
   bif (r32 == (0 : Int)) == (had27 == (0 : Int)) then
    (bif r35 == (decide (had27 > (0 : Int))) then
    (bif r38 then
    (C.slots_Nodes_Held r3 (fun r40 w41 =>
   C.ref05_Same r40 r24 (fun r42 w43 =>
   bif r42 then
    (C.law05_fixed  (fun r44 w45 =>
   K r44 w45) w43)
   else
    (K false w43)) w41) w39)
   else
    (K false w39))
   else
    (K false w39))
   else
    (K false w39)) w36) w33) w29)) → l26 had27 i28 w29) →
   l26 (0 : Int) (0 : Int) w25) w10)) → k8 t9 w10) →
   (bif decide (i6 < (l1.len : Int)) then
    (k8 (decide (i6 < (20 : Int))) w7)
   else
    (k8 false w7))) → l5 i6 w7) →
   l5 (0 : Int) w4)) w
set_option maxRecDepth 100000 in
theorem S.law05_SlotsDrops_ok (l1 : Sl) (k2 : Int) (K : Bool → World → Prop) (w : World) (h : S.law05_SlotsDrops l1 k2 K w) : C.law05_SlotsDrops l1 k2 K w := by
  have e : fnV Try.prog Try.f12 (bodyOf Try.f12) (.t none (.u) (.t none (.u) (.t none (.t none (.u) (.t none (.t none (.u) (.u)) (.u))) (.t none (.t none (.u) (.t none (.t (some [(6, .c (.i .i64))]) (.t none (.t none (.r (some [(25, .c (.b))]) .done) (.t none (.u) (.u))) (.t none (.t none (.r none (.one 0 2046 (.one 1 1988 (.one 2 1984 (.one 3 1984 (.one 4 1984 (.one 5 1984 (.one 6 128 (.one 7 0 (.one 8 0 (.one 9 0 (.one 10 0 (.alt 11 (.done) (.none)))))))))))))) (.u)) (.u))) (.u)) (.u))) (.t none (.u) (.t none (.t none (.u) (.t none (.t (some [(8, .c (.i .i64)), (9, .c (.i .i64))]) (.t none (.t none (.u) (.t none (.u) (.u))) (.t none (.t none (.t none (.u) (.t none (.u) (.u))) (.u)) (.u))) (.u)) (.u))) (.t none (.u) (.t none (.u) (.t none (.u) (.t none (.u) (.u))))))))))) [(0, .c (.b))] [.slice l1.a l1.len l1.cap, .int .i64 k2] K w = S.law05_SlotsDrops l1 k2 K w := by kernel_rfl
  exact okF_mk Try.func12 rfl (fn_sound names_ok follows_ok Try.func12 rfl (by kernel_rfl) (Eq.mpr e h))
end Go.Proofs.Ytdlcejjiccknlaa
