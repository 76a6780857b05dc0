/- The functions' texts, and that a call comes to them. Printed by a program of mine (gen.py). -/
import Derived.Test.YtdlcejjiccknlaaC
set_option linter.unusedVariables false
namespace Go.Proofs.Ytdlcejjiccknlaa
open Go Go.Vc Go.Proofs

/-- buttress/caps.Check -/
def S.caps_Check (c1 : Int) (c2 : Int) (c3 : Int) (c4 : Int) (c5 : Int) (c6 : Int) (K : Int → World → Prop) (w : World) : Prop :=
  Al w (.cells #[.int .i64 c1, .int .i64 c2, .int .i64 c3, .int .u64 c4, .int .u64 c5, .int .i64 c6] 38) fun w7 =>
   ∀ k8 : Bool → World → Prop,
   (∀ (right9 : Bool) (w10 : World), (LdL w10 (Addr.mk w.heap.size 0 none) 0 [.i .i64, .i .i64, .i .i64, .i .u64, .i .u64, .i .i64] fun (t11 : Int) (t12 : Int) (t13 : Int) (t14 : Int) (t15 : Int) (t16 : Int) =>
   ∃ eq17 : Bool, EqB Try.prog .eql 38 (.tmp 35) (.tmp 36) (.agg #[.int .i64 t11, .int .i64 t12, .int .i64 t13, .int .u64 t14, .int .u64 t15, .int .i64 t16]) (.agg #[.int .i64 (0 : Int), .int .i64 (0 : Int), .int .i64 (0 : Int), .int .u64 (0 : Int), .int .u64 (0 : Int), .int .i64 (0 : Int)]) eq17 ∧
   bif eq17 then
    (K (0 : Int) w10)
   else
    (∀ k18 : Bool → World → Prop,
   (∀ (t19 : Bool) (w20 : World), (bif t19 then
    (K (40 : Int) w20)
   else
    (∀ k21 : Bool → World → Prop,
   (∀ (t22 : Bool) (w23 : World), (bif t22 then
    (bif t22 then
    (K (40 : Int) w23)
   else
    (K (0 : Int) w23))
   else
    (∃ bits24 : Int, w23.cell? ((Addr.mk w.heap.size 0 none).add 5) = some (.int .i64 bits24) ∧
   bif bits24 != (0 : Int) then
    (∃ kind25 : Int, w23.cell? (Addr.mk w.heap.size 0 none) = some (.int .i64 kind25) ∧
   bif kind25 != (2 : Int) then
    (K (40 : Int) w23)
   else
    (K (0 : Int) w23))
   else
    (K (0 : Int) w23))) → k21 t22 w23) →
   (∃ badge26 : Int, w20.cell? ((Addr.mk w.heap.size 0 none).add 3) = some (.int .u64 badge26) ∧
   bif badge26 != (0 : Int) then
    (∃ kind27 : Int, w20.cell? (Addr.mk w.heap.size 0 none) = some (.int .i64 kind27) ∧
   C.caps_badged kind27 (fun r28 w29 =>
   k21 (!r28) w29) w20)
   else
    (k21 false w20)))) → k18 t19 w20) →
   (bif !right9 then
    (k18 (!right9) w10)
   else
    (∃ kind30 : Int, w10.cell? (Addr.mk w.heap.size 0 none) = some (.int .i64 kind30) ∧
   C.caps_limited kind30 (fun r31 w32 =>
   bif !r31 then
    (∃ rights33 : Int, w32.cell? ((Addr.mk w.heap.size 0 none).add 2) = some (.int .i64 rights33) ∧
   k18 (rights33 != (7 : Int)) w32)
   else
    (k18 false w32)) w10)))) → k8 right9 w10) →
   (∃ kind34 : Int, w7.cell? (Addr.mk w.heap.size 0 none) = some (.int .i64 kind34) ∧
   bif decide (kind34 > (0 : Int)) then
    (∃ kind35 : Int, w7.cell? (Addr.mk w.heap.size 0 none) = some (.int .i64 kind35) ∧
   bif decide (kind35 < (10 : Int)) then
    (∃ obj36 : Int, w7.cell? ((Addr.mk w.heap.size 0 none).add 1) = some (.int .i64 obj36) ∧
   bif decide (obj36 ≥ (0 : Int)) then
    (∃ obj37 : Int, w7.cell? ((Addr.mk w.heap.size 0 none).add 1) = some (.int .i64 obj37) ∧
   bif decide (obj37 < (2147483648 : Int)) then
    (∃ rights38 : Int, w7.cell? ((Addr.mk w.heap.size 0 none).add 2) = some (.int .i64 rights38) ∧
   C.caps_rights rights38 (fun r39 w40 =>
   bif r39 then
    (∃ guard41 : Int, w40.cell? ((Addr.mk w.heap.size 0 none).add 4) = some (.int .u64 guard41) ∧
   ∃ bits42 : Int, w40.cell? ((Addr.mk w.heap.size 0 none).add 5) = some (.int .i64 bits42) ∧
   C.caps_guard guard41 bits42 (fun r43 w44 =>
   k8 r43 w44) w40)
   else
    (k8 false w40)) w7)
   else
    (k8 false w7))
   else
    (k8 false w7))
   else
    (k8 false w7))
   else
    (k8 false w7))
set_option maxRecDepth 100000 in
theorem S.caps_Check_ok (c1 : Int) (c2 : Int) (c3 : Int) (c4 : Int) (c5 : Int) (c6 : Int) (K : Int → World → Prop) (w : World) (h : S.caps_Check c1 c2 c3 c4 c5 c6 K w) : C.caps_Check c1 c2 c3 c4 c5 c6 K w := by
  have e : fnV Try.prog Try.f58 (bodyOf Try.f58) (.t none (.u) (.t none (.r (some [(3, .c (.b))]) .done) (.t none (.t none (.t none (.u) (.t none (.t none (.u) (.u)) (.t none (.t none (.u) (.t (some [(38, .c (.b))]) (.u) (.u))) (.t none (.t none (.u) (.u)) (.t none (.t none (.r (some [(50, .c (.b))]) .done) (.t none (.u) (.u))) (.t none (.t none (.u) (.u)) (.u))))))) (.u)) (.t none (.u) (.u))))) [(0, .c (.i .i64))] [.agg #[.int .i64 c1, .int .i64 c2, .int .i64 c3, .int .u64 c4, .int .u64 c5, .int .i64 c6]] K w = S.caps_Check c1 c2 c3 c4 c5 c6 K w := by kernel_rfl
  exact okF_mk Try.func58 rfl (fn_sound names_ok follows_ok Try.func58 rfl (by kernel_rfl) (Eq.mpr e h))

/-- buttress/caps.rights -/
def S.caps_rights (n1 : Int) (K : Bool → World → Prop) (w : World) : Prop :=
  bif decide (n1 ≥ (0 : Int)) then
    (K (decide (n1 ≤ (7 : Int))) w)
   else
    (K false w)
set_option maxRecDepth 100000 in
theorem S.caps_rights_ok (n1 : Int) (K : Bool → World → Prop) (w : World) (h : S.caps_rights n1 K w) : C.caps_rights n1 K w := by
  have e : fnV Try.prog Try.f72 (bodyOf Try.f72) (.t none (.u) (.t none (.u) (.u))) [(0, .c (.b))] [.int .i64 n1] K w = S.caps_rights n1 K w := by kernel_rfl
  exact okF_mk Try.func72 rfl (fn_sound names_ok follows_ok Try.func72 rfl (by kernel_rfl) (Eq.mpr e h))

/-- buttress/caps.guard -/
def S.caps_guard (g1 : Int) (bits2 : Int) (K : Bool → World → Prop) (w : World) : Prop :=
  C.words_Mask bits2 (fun r3 r4 w5 =>
   bif r4 == (0 : Int) then
    (K ((andNotI .u64 g1 r3) == (0 : Int)) w5)
   else
    (K false w5)) w
set_option maxRecDepth 100000 in
theorem S.caps_guard_ok (g1 : Int) (bits2 : Int) (K : Bool → World → Prop) (w : World) (h : S.caps_guard g1 bits2 K w) : C.caps_guard g1 bits2 K w := by
  have e : fnV Try.prog Try.f73 (bodyOf Try.f73) (.t none (.u) (.t none (.u) (.t none (.u) (.u)))) [(0, .c (.b))] [.int .u64 g1, .int .i64 bits2] K w = S.caps_guard g1 bits2 K w := by kernel_rfl
  exact okF_mk Try.func73 rfl (fn_sound names_ok follows_ok Try.func73 rfl (by kernel_rfl) (Eq.mpr e h))

/-- buttress/caps.limited -/
def S.caps_limited (kind1 : Int) (K : Bool → World → Prop) (w : World) : Prop :=
  bif kind1 == (4 : Int) then
    (K true w)
   else
    (bif kind1 == (5 : Int) then
    (K true w)
   else
    (K (kind1 == (6 : Int)) w))
set_option maxRecDepth 100000 in
theorem S.caps_limited_ok (kind1 : Int) (K : Bool → World → Prop) (w : World) (h : S.caps_limited kind1 K w) : C.caps_limited kind1 K w := by
  have e : fnV Try.prog Try.f74 (bodyOf Try.f74) (.t none (.u) (.t none (.u) (.u))) [(0, .c (.b))] [.int .i64 kind1] K w = S.caps_limited kind1 K w := by kernel_rfl
  exact okF_mk Try.func74 rfl (fn_sound names_ok follows_ok Try.func74 rfl (by kernel_rfl) (Eq.mpr e h))

/-- buttress/caps.badged -/
def S.caps_badged (kind1 : Int) (K : Bool → World → Prop) (w : World) : Prop :=
  bif kind1 == (4 : Int) then
    (K true w)
   else
    (K (kind1 == (5 : Int)) w)
set_option maxRecDepth 100000 in
theorem S.caps_badged_ok (kind1 : Int) (K : Bool → World → Prop) (w : World) (h : S.caps_badged kind1 K w) : C.caps_badged kind1 K w := by
  have e : fnV Try.prog Try.f75 (bodyOf Try.f75) (.t none (.u) (.t none (.u) (.u))) [(0, .c (.b))] [.int .i64 kind1] K w = S.caps_badged kind1 K w := by kernel_rfl
  exact okF_mk Try.func75 rfl (fn_sound names_ok follows_ok Try.func75 rfl (by kernel_rfl) (Eq.mpr e h))

/-- cmp.Or[int] -/
def S.cmp_Or_int (vals1 : Sl) (K : Int → World → Prop) (w : World) : Prop :=
  ∀ l2 : Int → World → Prop,
   (∀ (t3 : Int) (w4 : World), (bif decide (t3 < (vals1.len : Int)) then
    (∃ a5 : Addr, vals1.a = some a5 ∧ 0 ≤ t3 ∧ t3 < (vals1.len : Int) ∧
   ∃ t6 : Int, w4.cell? (a5.add (t3.toNat * 1)) = some (.int .i64 t6) ∧
   bif t6 != (0 : Int) then
    (K t6 w4)
   else
    (l2 (IntKind.i64.wrap (t3 + (1 : Int))) w4))
   else
    (K (0 : Int) w4)) → l2 t3 w4) →
   l2 (0 : Int) w
set_option maxRecDepth 100000 in
theorem S.cmp_Or_int_ok (vals1 : Sl) (K : Int → World → Prop) (w : World) (h : S.cmp_Or_int vals1 K w) : C.cmp_Or_int vals1 K w := by
  have e : fnV Try.prog Try.f79 (bodyOf Try.f79) (.t none (.u) (.t none (.u) (.t none (.t none (.u) (.t none (.t (some [(8, .c (.i .i64))]) (.t none (.u) (.t none (.t none (.u) (.u)) (.t none (.t none (.t none (.u) (.t none (.u) (.t none (.t none (.u) (.u)) (.u)))) (.u)) (.u)))) (.u)) (.u))) (.t none (.u) (.u))))) [(0, .c (.i .i64))] [.slice vals1.a vals1.len vals1.cap] K w = S.cmp_Or_int vals1 K w := by kernel_rfl
  exact okF_mk Try.func79 rfl (fn_sound names_ok follows_ok Try.func79 rfl (by kernel_rfl) (Eq.mpr e h))

/-- cmp.Compare[int] -/
def S.cmp_Compare_int (x1 : Int) (y2 : Int) (K : Int → World → Prop) (w : World) : Prop :=
  C.cmp_isNaN_int x1 (fun r3 w4 =>
   C.cmp_isNaN_int y2 (fun r5 w6 =>
   bif r3 then
    (bif r5 then
    (K (0 : Int) w6)
   else
    (K (-1 : Int) w6))
   else
    (bif r5 then
    (K (1 : Int) w6)
   else
    (bif decide (x1 < y2) then
    (K (-1 : Int) w6)
   else
    (bif decide (x1 > y2) then
    (K (1 : Int) w6)
   else
    (K (0 : Int) w6))))) w4) w
set_option maxRecDepth 100000 in
theorem S.cmp_Compare_int_ok (x1 : Int) (y2 : Int) (K : Int → World → Prop) (w : World) (h : S.cmp_Compare_int x1 y2 K w) : C.cmp_Compare_int x1 y2 K w := by
  have e : fnV Try.prog Try.f80 (bodyOf Try.f80) (.t none (.u) (.t none (.u) (.t none (.u) (.t none (.t none (.u) (.t none (.t none (.t none (.u) (.t none (.t none (.u) (.u)) (.u))) (.t none (.u) (.u))) (.u))) (.t none (.t none (.u) (.t none (.t none (.u) (.u)) (.u))) (.t none (.t none (.u) (.t none (.t none (.u) (.u)) (.u))) (.t none (.t none (.u) (.t none (.t none (.u) (.u)) (.u))) (.t none (.u) (.u))))))))) [(0, .c (.i .i64))] [.int .i64 x1, .int .i64 y2] K w = S.cmp_Compare_int x1 y2 K w := by kernel_rfl
  exact okF_mk Try.func80 rfl (fn_sound names_ok follows_ok Try.func80 rfl (by kernel_rfl) (Eq.mpr e h))

/-- cmp.isNaN[int] -/
def S.cmp_isNaN_int (x1 : Int) (K : Bool → World → Prop) (w : World) : Prop :=
  K (x1 != x1) w
set_option maxRecDepth 100000 in
theorem S.cmp_isNaN_int_ok (x1 : Int) (K : Bool → World → Prop) (w : World) (h : S.cmp_isNaN_int x1 K w) : C.cmp_isNaN_int x1 K w := by
  have e : fnV Try.prog Try.f88 (bodyOf Try.f88) (.t none (.u) (.t none (.u) (.u))) [(0, .c (.b))] [.int .i64 x1] K w = S.cmp_isNaN_int x1 K w := by kernel_rfl
  exact okF_mk Try.func88 rfl (fn_sound names_ok follows_ok Try.func88 rfl (by kernel_rfl) (Eq.mpr e h))

/-- buttress/buttresslaw05.SlotsFull -/
def S.law05_SlotsFull (bits1 : Int) (drop2 : Int) (K : Bool → World → Prop) (w : World) : Prop :=
  C.slots_New  (fun r3 w4 =>
   bif r3.isNone then
    (K false w4)
   else
    (∀ l5 : Int → World → Prop,
   (∀ (i6 : Int) (w7 : World), (bif decide (i6 < (64 : Int)) then
    (C.slots_Nodes_Make r3 (IntKind.i64.wrap ((1 : Int) + (andI .i64 bits1 (7 : Int)))) (fun r8 r9 w10 =>
   ∀ k11 : Bool → World → Prop,
   (∀ (t12 : Bool) (w13 : World), (bif t12 then
    (K false w13)
   else
    (l5 (IntKind.i64.wrap (i6 + (1 : Int))) w13)) → k11 t12 w13) →
   (bif r9 != (0 : Int) then
    (k11 true w10)
   else
    (bif r8 != i6 then
    (k11 true w10)
   else
    (0 ≤ (andI .i64 i6 (31 : Int)) ∧
   bif (andI .i64 (shrI .i64 drop2 (andI .i64 i6 (31 : Int))) (1 : Int)) == (1 : Int) then
    (C.slots_Nodes_Drop r3 r8 (fun r14 w15 =>
   k11 (r14 != (0 : Int)) w15) w10)
   else
    (k11 false w10))))) w7)
   else
    (C.slots_Nodes_Make r3 (IntKind.i64.wrap ((1 : Int) + (andI .i64 bits1 (7 : Int)))) (fun r16 r17 w18 =>
   ∀ l19 : Int → World → Prop,
   (∀ (i20 : Int) (w21 : World), (bif decide (i20 < (64 : Int)) then
    (C.slots_Nodes_Size r3 i20 (fun r22 r23 w24 =>
   ∀ k25 : Bool → World → Prop,
   (∀ (t26 : Bool) (w27 : World), (bif t26 then
    (K false w27)
   else
    (l19 (IntKind.i64.wrap (i20 + (1 : Int))) w27)) → k25 t26 w27) →
   (0 ≤ (andI .i64 i20 (31 : Int)) ∧
   bif !(r23 == ((andI .i64 (shrI .i64 drop2 (andI .i64 i20 (31 : Int))) (1 : Int)) == (0 : Int))) then
    (k25 true w24)
   else
    (bif r23 then
    (k25 (r22 != (IntKind.i64.wrap ((1 : Int) + (andI .i64 bits1 (7 : Int))))) w24)
   else
    (k25 false w24)))) w21)
   else
    (bif r17 == (2 : Int) then
    (C.law05_fixed  (fun r28 w29 =>
   K r28 w29) w21)
   else
    (K false w21))) → l19 i20 w21) →
   l19 (0 : Int) w18) w7)) → l5 i6 w7) →
   l5 (0 : Int) w4)) w
set_option maxRecDepth 100000 in
theorem S.law05_SlotsFull_ok (bits1 : Int) (drop2 : Int) (K : Bool → World → Prop) (w : World) (h : S.law05_SlotsFull bits1 drop2 K w) : C.law05_SlotsFull bits1 drop2 K w := by
  have e : fnV Try.prog Try.f3 (bodyOf Try.f3) (.t none (.u) (.t none (.u) (.t none (.t none (.u) (.t none (.t none (.u) (.u)) (.u))) (.t none (.u) (.t none (.t none (.u) (.t none (.t (some [(7, .c (.i .i64))]) (.t none (.t none (.u) (.t none (.u) (.u))) (.t none (.t none (.t none (.u) (.t none (.r (some [(51, .c (.b))]) .done) (.t none (.t none (.u) (.u)) (.u)))) (.u)) (.u))) (.u)) (.u))) (.t none (.u) (.t none (.t none (.u) (.t none (.t (some [(12, .c (.i .i64))]) (.t none (.t none (.u) (.t none (.u) (.u))) (.t none (.t none (.t none (.u) (.t none (.r (some [(83, .c (.b))]) .done) (.t none (.t none (.u) (.u)) (.u)))) (.u)) (.u))) (.u)) (.u))) (.t none (.u) (.u))))))))) [(0, .c (.b))] [.int .i64 bits1, .int .i64 drop2] K w = S.law05_SlotsFull bits1 drop2 K w := by kernel_rfl
  exact okF_mk Try.func3 rfl (fn_sound names_ok follows_ok Try.func3 rfl (by kernel_rfl) (Eq.mpr e h))

/-- buttress/buttresslaw05.SlotsKeeps -/
def S.law05_SlotsKeeps (script1 : Sl) (K : Bool → World → Prop) (w : World) : Prop :=
  C.slots_New  (fun r2 w3 =>
   bif r2.isNone then
    (K false w3)
   else
    (∀ l4 : Int → Int → World → Prop,
   (∀ (had5 : Int) (i6 : Int) (w7 : World), (∀ k8 : Bool → World → Prop,
   (∀ (t9 : Bool) (w10 : World), (bif t9 then
    (∃ a11 : Addr, script1.a = some a11 ∧ 0 ≤ i6 ∧ i6 < (script1.len : Int) ∧
   LdL w10 (a11.add (i6.toNat * 12)) 0 [.i .i64, .i .i64, .i .i64, .i .i64, .i .i64, .i .i64, .i .i64, .i .i64, .i .i64, .i .u64, .i .u64, .i .i64] fun (t12 : Int) (t13 : Int) (t14 : Int) (t15 : Int) (t16 : Int) (t17 : Int) (t18 : Int) (t19 : Int) (t20 : Int) (t21 : Int) (t22 : Int) (t23 : Int) =>
   Al w10 (.cells #[.int .i64 (0 : Int), .int .i64 (0 : Int), .int .i64 (0 : Int), .int .i64 (0 : Int), .int .i64 (0 : Int), .int .i64 (0 : Int), .int .i64 (0 : Int), .int .i64 (0 : Int), .int .i64 (0 : Int), .int .u64 (0 : Int), .int .u64 (0 : Int), .int .i64 (0 : Int)] 62) fun w24 =>
   StL w24 (Addr.mk w10.heap.size 0 none) 0 [.int .i64 t12, .int .i64 t13, .int .i64 t14, .int .i64 t15, .int .i64 t16, .int .i64 t17, .int .i64 t18, .int .i64 t19, .int .i64 t20, .int .u64 t21, .int .u64 t22, .int .i64 t23] fun w25 =>
   ∃ kind26 : Int, w25.cell? (Addr.mk w10.heap.size 0 none) = some (.int .i64 kind26) ∧
   ∀ k27 : Int → World → Prop,
   (∀ (had28 : Int) (w29 : World), (C.slots_Nodes_Held r2 (fun r30 w31 =>
   bif (r30.len : Int) != had28 then
    (K false w31)
   else
    (l4 had28 (IntKind.i64.wrap (i6 + (1 : Int))) w31)) w29) → k27 had28 w29) →
   (bif kind26 == (0 : Int) then
    (∃ n32 : Int, w25.cell? ((Addr.mk w10.heap.size 0 none).add 1) = some (.int .i64 n32) ∧
   C.slots_Nodes_Make r2 n32 (fun r33 r34 w35 =>
   k27 had5 w35) w25)
   else
    (bif kind26 == (1 : Int) then
    (∃ n36 : Int, w25.cell? ((Addr.mk w10.heap.size 0 none).add 1) = some (.int .i64 n36) ∧
   C.slots_Nodes_Drop r2 n36 (fun r37 w38 =>
   k27 had5 w38) w25)
   else
    (bif kind26 == (2 : Int) then
    (LdL w25 ((Addr.mk w10.heap.size 0 none).add 2) 0 [.i .i64, .i .i64] fun (a39 : Int) (a40 : Int) =>
   LdL w25 ((Addr.mk w10.heap.size 0 none).add 6) 0 [.i .i64, .i .i64, .i .i64, .i .u64, .i .u64, .i .i64] fun (c41 : Int) (c42 : Int) (c43 : Int) (c44 : Int) (c45 : Int) (c46 : Int) =>
   C.slots_Nodes_Put r2 a39 a40 c41 c42 c43 c44 c45 c46 (fun r47 w48 =>
   bif r47 == (0 : Int) then
    (k27 (IntKind.i64.wrap (had5 + (1 : Int))) w48)
   else
    (k27 had5 w48)) w25)
   else
    (bif kind26 == (3 : Int) then
    (LdL w25 ((Addr.mk w10.heap.size 0 none).add 2) 0 [.i .i64, .i .i64] fun (a49 : Int) (a50 : Int) =>
   C.slots_Nodes_Get r2 a49 a50 (fun r51 r52 r53 r54 r55 r56 r57 w58 =>
   Al w58 (.cells #[.int .i64 (0 : Int), .int .i64 (0 : Int), .int .i64 (0 : Int), .int .u64 (0 : Int), .int .u64 (0 : Int), .int .i64 (0 : Int)] 38) fun w59 =>
   StL w59 (Addr.mk w58.heap.size 0 none) 0 [.int .i64 r51, .int .i64 r52, .int .i64 r53, .int .u64 r54, .int .u64 r55, .int .i64 r56] fun w60 =>
   LdL w60 ((Addr.mk w10.heap.size 0 none).add 2) 0 [.i .i64, .i .i64] fun (a61 : Int) (a62 : Int) =>
   C.slots_Nodes_Take r2 a61 a62 (fun r63 r64 r65 r66 r67 r68 r69 w70 =>
   Al w70 (.cells #[.int .i64 (0 : Int), .int .i64 (0 : Int), .int .i64 (0 : Int), .int .u64 (0 : Int), .int .u64 (0 : Int), .int .i64 (0 : Int)] 38) fun w71 =>
   StL w71 (Addr.mk w70.heap.size 0 none) 0 [.int .i64 r63, .int .i64 r64, .int .i64 r65, .int .u64 r66, .int .u64 r67, .int .i64 r68] fun w72 =>
   LdL w72 (Addr.mk w70.heap.size 0 none) 0 [.i .i64, .i .i64, .i .i64, .i .u64, .i .u64, .i .i64] fun (t73 : Int) (t74 : Int) (t75 : Int) (t76 : Int) (t77 : Int) (t78 : Int) =>
   LdL w72 (Addr.mk w58.heap.size 0 none) 0 [.i .i64, .i .i64, .i .i64, .i .u64, .i .u64, .i .i64] fun (t79 : Int) (t80 : Int) (t81 : Int) (t82 : Int) (t83 : Int) (t84 : Int) =>
   ∃ eq85 : Bool, EqB Try.prog .neq 38 (.tmp 83) (.tmp 84) (.agg #[.int .i64 t73, .int .i64 t74, .int .i64 t75, .int .u64 t76, .int .u64 t77, .int .i64 t78]) (.agg #[.int .i64 t79, .int .i64 t80, .int .i64 t81, .int .u64 t82, .int .u64 t83, .int .i64 t84]) eq85 ∧
   bif eq85 then
    (K false w72)
   else
    (bif r69 == (0 : Int) then
    (k27 (IntKind.i64.wrap (had5 - (1 : Int))) w72)
   else
    (k27 had5 w72))) w60) w25)
   else
    (bif kind26 == (4 : Int) then
    (LdL w25 ((Addr.mk w10.heap.size 0 none).add 2) 0 [.i .i64, .i .i64] fun (a86 : Int) (a87 : Int) =>
   C.slots_Nodes_Get r2 a86 a87 (fun r88 r89 r90 r91 r92 r93 r94 w95 =>
   Al w95 (.cells #[.int .i64 (0 : Int), .int .i64 (0 : Int), .int .i64 (0 : Int), .int .u64 (0 : Int), .int .u64 (0 : Int), .int .i64 (0 : Int)] 38) fun w96 =>
   StL w96 (Addr.mk w95.heap.size 0 none) 0 [.int .i64 r88, .int .i64 r89, .int .i64 r90, .int .u64 r91, .int .u64 r92, .int .i64 r93] fun w97 =>
   LdL w97 ((Addr.mk w10.heap.size 0 none).add 2) 0 [.i .i64, .i .i64] fun (a98 : Int) (a99 : Int) =>
   LdL w97 ((Addr.mk w10.heap.size 0 none).add 4) 0 [.i .i64, .i .i64] fun (b100 : Int) (b101 : Int) =>
   C.slots_Nodes_Move r2 a98 a99 b100 b101 (fun r102 w103 =>
   LdL w103 ((Addr.mk w10.heap.size 0 none).add 4) 0 [.i .i64, .i .i64] fun (b104 : Int) (b105 : Int) =>
   C.slots_Nodes_Get r2 b104 b105 (fun r106 r107 r108 r109 r110 r111 r112 w113 =>
   Al w113 (.cells #[.int .i64 (0 : Int), .int .i64 (0 : Int), .int .i64 (0 : Int), .int .u64 (0 : Int), .int .u64 (0 : Int), .int .i64 (0 : Int)] 38) fun w114 =>
   StL w114 (Addr.mk w113.heap.size 0 none) 0 [.int .i64 r106, .int .i64 r107, .int .i64 r108, .int .u64 r109, .int .u64 r110, .int .i64 r111] fun w115 =>
   bif r102 == (0 : Int) then
    (LdL w115 (Addr.mk w113.heap.size 0 none) 0 [.i .i64, .i .i64, .i .i64, .i .u64, .i .u64, .i .i64] fun (t116 : Int) (t117 : Int) (t118 : Int) (t119 : Int) (t120 : Int) (t121 : Int) =>
   LdL w115 (Addr.mk w95.heap.size 0 none) 0 [.i .i64, .i .i64, .i .i64, .i .u64, .i .u64, .i .i64] fun (t122 : Int) (t123 : Int) (t124 : Int) (t125 : Int) (t126 : Int) (t127 : Int) =>
   ∃ eq128 : Bool, EqB Try.prog .neq 38 (.tmp 115) (.tmp 116) (.agg #[.int .i64 t116, .int .i64 t117, .int .i64 t118, .int .u64 t119, .int .u64 t120, .int .i64 t121]) (.agg #[.int .i64 t122, .int .i64 t123, .int .i64 t124, .int .u64 t125, .int .u64 t126, .int .i64 t127]) eq128 ∧
   bif eq128 then
    (K false w115)
   else
    (k27 had5 w115))
   else
    (k27 had5 w115)) w103) w97) w25)
   else
    (bif kind26 == (5 : Int) then
    (LdL w25 ((Addr.mk w10.heap.size 0 none).add 2) 0 [.i .i64, .i .i64] fun (a129 : Int) (a130 : Int) =>
   C.slots_Nodes_Get r2 a129 a130 (fun r131 r132 r133 r134 r135 r136 r137 w138 =>
   Al w138 (.cells #[.int .i64 (0 : Int), .int .i64 (0 : Int), .int .i64 (0 : Int), .int .u64 (0 : Int), .int .u64 (0 : Int), .int .i64 (0 : Int)] 38) fun w139 =>
   StL w139 (Addr.mk w138.heap.size 0 none) 0 [.int .i64 r131, .int .i64 r132, .int .i64 r133, .int .u64 r134, .int .u64 r135, .int .i64 r136] fun w140 =>
   LdL w140 ((Addr.mk w10.heap.size 0 none).add 4) 0 [.i .i64, .i .i64] fun (b141 : Int) (b142 : Int) =>
   C.slots_Nodes_Get r2 b141 b142 (fun r143 r144 r145 r146 r147 r148 r149 w150 =>
   Al w150 (.cells #[.int .i64 (0 : Int), .int .i64 (0 : Int), .int .i64 (0 : Int), .int .u64 (0 : Int), .int .u64 (0 : Int), .int .i64 (0 : Int)] 38) fun w151 =>
   StL w151 (Addr.mk w150.heap.size 0 none) 0 [.int .i64 r143, .int .i64 r144, .int .i64 r145, .int .u64 r146, .int .u64 r147, .int .i64 r148] fun w152 =>
   LdL w152 ((Addr.mk w10.heap.size 0 none).add 2) 0 [.i .i64, .i .i64] fun (a153 : Int) (a154 : Int) =>
   LdL w152 ((Addr.mk w10.heap.size 0 none).add 4) 0 [.i .i64, .i .i64] fun (b155 : Int) (b156 : Int) =>
   C.slots_Nodes_Swap r2 a153 a154 b155 b156 (fun r157 w158 =>
   LdL w158 ((Addr.mk w10.heap.size 0 none).add 2) 0 [.i .i64, .i .i64] fun (a159 : Int) (a160 : Int) =>
   C.slots_Nodes_Get r2 a159 a160 (fun r161 r162 r163 r164 r165 r166 r167 w168 =>
   Al w168 (.cells #[.int .i64 (0 : Int), .int .i64 (0 : Int), .int .i64 (0 : Int), .int .u64 (0 : Int), .int .u64 (0 : Int), .int .i64 (0 : Int)] 38) fun w169 =>
   StL w169 (Addr.mk w168.heap.size 0 none) 0 [.int .i64 r161, .int .i64 r162, .int .i64 r163, .int .u64 r164, .int .u64 r165, .int .i64 r166] fun w170 =>
   LdL w170 ((Addr.mk w10.heap.size 0 none).add 4) 0 [.i .i64, .i .i64] fun (b171 : Int) (b172 : Int) =>
   C.slots_Nodes_Get r2 b171 b172 (fun r173 r174 r175 r176 r177 r178 r179 w180 =>
   Al w180 (.cells #[.int .i64 (0 : Int), .int .i64 (0 : Int), .int .i64 (0 : Int), .int .u64 (0 : Int), .int .u64 (0 : Int), .int .i64 (0 : Int)] 38) fun w181 =>
   StL w181 (Addr.mk w180.heap.size 0 none) 0 [.int .i64 r173, .int .i64 r174, .int .i64 r175, .int .u64 r176, .int .u64 r177, .int .i64 r178] fun w182 =>
   bif r157 == (0 : Int) then
    (LdL w182 (Addr.mk w138.heap.size 0 none) 0 [.i .i64, .i .i64, .i .i64, .i .u64, .i .u64, .i .i64] fun (t183 : Int) (t184 : Int) (t185 : Int) (t186 : Int) (t187 : Int) (t188 : Int) =>
   LdL w182 (Addr.mk w180.heap.size 0 none) 0 [.i .i64, .i .i64, .i .i64, .i .u64, .i .u64, .i .i64] fun (t189 : Int) (t190 : Int) (t191 : Int) (t192 : Int) (t193 : Int) (t194 : Int) =>
   ∃ eq195 : Bool, EqB Try.prog .neq 38 (.tmp 158) (.tmp 159) (.agg #[.int .i64 t183, .int .i64 t184, .int .i64 t185, .int .u64 t186, .int .u64 t187, .int .i64 t188]) (.agg #[.int .i64 t189, .int .i64 t190, .int .i64 t191, .int .u64 t192, .int .u64 t193, .int .i64 t194]) eq195 ∧
   bif eq195 then
    (K false w182)
   else
    (LdL w182 (Addr.mk w150.heap.size 0 none) 0 [.i .i64, .i .i64, .i .i64, .i .u64, .i .u64, .i .i64] fun (t196 : Int) (t197 : Int) (t198 : Int) (t199 : Int) (t200 : Int) (t201 : Int) =>
   LdL w182 (Addr.mk w168.heap.size 0 none) 0 [.i .i64, .i .i64, .i .i64, .i .u64, .i .u64, .i .i64] fun (t202 : Int) (t203 : Int) (t204 : Int) (t205 : Int) (t206 : Int) (t207 : Int) =>
   ∃ eq208 : Bool, EqB Try.prog .neq 38 (.tmp 162) (.tmp 163) (.agg #[.int .i64 t196, .int .i64 t197, .int .i64 t198, .int .u64 t199, .int .u64 t200, .int .i64 t201]) (.agg #[.int .i64 t202, .int .i64 t203, .int .i64 t204, .int .u64 t205, .int .u64 t206, .int .i64 t207]) eq208 ∧
   bif eq208 then
    (K false w182)
   else
    (k27 had5 w182)))
   else
    (k27 had5 w182)) w170) w158) w152) w140) w25)
   else
    (k27 had5 w25))))))))
   else
    (C.law05_fixed  (fun r209 w210 =>
   K r209 w210) w10)) → k8 t9 w10) →
   (bif decide (i6 < (script1.len : Int)) then
    (k8 (decide (i6 < (80 : Int))) w7)
   else
    (k8 false w7))) → l4 had5 i6 w7) →
   l4 (0 : Int) (0 : Int) w3)) w
set_option maxRecDepth 100000 in
theorem S.law05_SlotsKeeps_ok (script1 : Sl) (K : Bool → World → Prop) (w : World) (h : S.law05_SlotsKeeps script1 K w) : C.law05_SlotsKeeps script1 K w := by
  have e : fnV Try.prog Try.f9 (bodyOf Try.f9) (.t none (.u) (.t none (.u) (.t none (.t none (.u) (.t none (.t none (.u) (.u)) (.u))) (.t none (.u) (.t none (.t none (.u) (.t none (.t (some [(4, .c (.i .i64)), (5, .c (.i .i64))]) (.t none (.t none (.r (some [(35, .c (.b))]) .done) (.t none (.u) (.u))) (.t none (.t none (.t none (.u) (.t none (.t none (.u) (.t none (.t none (.u) (.t (some [(4, .c (.i .i64))]) (.u) (.t none (.u) (.t none (.u) (.t none (.u) (.t none (.t none (.u) (.t none (.u) (.u))) (.t none (.u) (.t none (.t none (.u) (.t none (.u) (.t none (.t none (.u) (.t none (.t none (.u) (.u)) (.u))) (.t none (.u) (.t none (.u) (.u)))))) (.t none (.u) (.t none (.t none (.u) (.t none (.u) (.t none (.u) (.t none (.u) (.t none (.t none (.u) (.u)) (.u)))))) (.t none (.u) (.t none (.t none (.u) (.t none (.u) (.t none (.u) (.t none (.u) (.t none (.u) (.t none (.u) (.t none (.t none (.u) (.u)) (.u)))))))) (.u))))))))))))) (.u))) (.t none (.u) (.t none (.t none (.u) (.u)) (.u))))) (.u)) (.u))) (.u)) (.u))) (.t none (.u) (.u))))))) [(0, .c (.b))] [.slice script1.a script1.len script1.cap] K w = S.law05_SlotsKeeps script1 K w := by kernel_rfl
  exact okF_mk Try.func9 rfl (fn_sound names_ok follows_ok Try.func9 rfl (by kernel_rfl) (Eq.mpr e h))

/-- buttress/buttresslaw05.SlotsSwaps -/
def S.law05_SlotsSwaps (l1 : Sl) (a2 : Int) (a3 : Int) (b4 : Int) (b5 : Int) (K : Bool → World → Prop) (w : World) : Prop :=
  Al w (.cells #[.int .i64 a2, .int .i64 a3] 49) fun w6 =>
   Al w6 (.cells #[.int .i64 b4, .int .i64 b5] 49) fun w7 =>
   C.law05_two  (fun r8 w9 =>
   bif r8.isNone then
    (K false w9)
   else
    (∀ l10 : Int → World → Prop,
   (∀ (i11 : Int) (w12 : World), (∀ k13 : Bool → World → Prop,
   (∀ (t14 : Bool) (w15 : World), (bif t14 then
    (Dr w15 fun w16 =>
   ∃ a17 : Addr, l1.a = some a17 ∧ 0 ≤ i11 ∧ i11 < (l1.len : Int) ∧
   LdL w16 ((a17.add (i11.toNat * 12)).add 2) 0 [.i .i64, .i .i64] fun (a18 : Int) (a19 : Int) =>
   ∃ a20 : Addr, l1.a = some a20 ∧ 0 ≤ i11 ∧ i11 < (l1.len : Int) ∧
   LdL w16 ((a20.add (i11.toNat * 12)).add 6) 0 [.i .i64, .i .i64, .i .i64, .i .u64, .i .u64, .i .i64] fun (c21 : Int) (c22 : Int) (c23 : Int) (c24 : Int) (c25 : Int) (c26 : Int) =>
   (C.slots_Nodes_Put r8 a18 a19 c21 c22 c23 c24 c25 c26 (fun r27 w28 =>
   l10 (IntKind.i64.wrap (i11 + (1 : Int))) w28) w16) ∧
   True)
   else
    (∀ k29 : Addr → Addr → World → Prop,
   (∀ (x30 : Addr) (y31 : Addr) (w32 : World), (C.slots_Nodes_Held r8 (fun r33 w34 =>
   Dr w34 fun w35 =>
   LdL w35 x30 0 [.i .i64, .i .i64] fun (t36 : Int) (t37 : Int) =>
   LdL w35 y31 0 [.i .i64, .i .i64] fun (t38 : Int) (t39 : Int) =>
   LdL w35 y31 0 [.i .i64, .i .i64] fun (t40 : Int) (t41 : Int) =>
   LdL w35 x30 0 [.i .i64, .i .i64] fun (t42 : Int) (t43 : Int) =>
   (C.slots_Nodes_Swap r8 t36 t37 t38 t39 (fun r44 w45 =>
   HdL w45 x30 0 [.int .i64 t42, .int .i64 t43] (
   HdL w45 y31 0 [.int .i64 t40, .int .i64 t41] (
   (C.slots_Nodes_Swap r8 t40 t41 t42 t43 (fun r46 w47 =>
   LdL w47 x30 0 [.i .i64, .i .i64] fun (t48 : Int) (t49 : Int) =>
   LdL w47 x30 0 [.i .i64, .i .i64] fun (t50 : Int) (t51 : Int) =>
   C.slots_Nodes_Swap r8 t48 t49 t50 t51 (fun r52 w53 =>
   bif r44 == (0 : Int) then
    (bif r46 == (0 : Int) then
    (bif r52 == (0 : Int) then
    (C.slots_Nodes_Held r8 (fun r54 w55 =>
   C.ref05_Same r54 r33 (fun r56 w57 =>
   bif r56 then
    (C.law05_fixed  (fun r58 w59 =>
   K r58 w59) w57)
   else
    (K false w57)) w55) w53)
   else
    (K false w53))
   else
    (K false w53))
   else
    (K false w53)) w47) w45) ∧
   True))) w35) ∧
   True) w32) → k29 x30 y31 w32) →
   (Dr w15 fun w60 =>
   ∃ node61 : Int, w60.cell? (Addr.mk w.heap.size 0 none) = some (.int .i64 node61) ∧
   ∃ i62 : Int, w60.cell? ((Addr.mk w.heap.size 0 none).add 1) = some (.int .i64 i62) ∧
   ∃ node63 : Int, w60.cell? (Addr.mk w6.heap.size 0 none) = some (.int .i64 node63) ∧
   ∃ i64 : Int, w60.cell? ((Addr.mk w6.heap.size 0 none).add 1) = some (.int .i64 i64) ∧
   (Al w60 (.cells #[.int .i64 (0 : Int), .int .i64 (0 : Int)] 49) fun w65 =>
   (Al w65 (.cells #[.int .i64 (0 : Int), .int .i64 (0 : Int)] 49) fun w66 =>
   (StL w66 (Addr.mk w60.heap.size 0 none) 0 [.int .i64 (andI .i64 node61 (1 : Int)), .int .i64 (andI .i64 i62 (3 : Int))] fun w67 =>
   w67.cell? ((Addr.mk w6.heap.size 0 none).add 1) = some (.int .i64 i64) ∧
   w67.cell? (Addr.mk w6.heap.size 0 none) = some (.int .i64 node63) ∧
   (StL w67 (Addr.mk w65.heap.size 0 none) 0 [.int .i64 (andI .i64 node63 (1 : Int)), .int .i64 (andI .i64 i64 (3 : Int))] fun w68 =>
   k29 (Addr.mk w60.heap.size 0 none) (Addr.mk w65.heap.size 0 none) w68) ∧
   True) ∧
   True) ∧
   True) ∧
   (Al w60 (.cells #[.int .i64 (0 : Int), .int .i64 (0 : Int)] 49) fun w69 =>
   (Al w69 (.cells #[.int .i64 (0 : Int), .int .i64 (0 : Int)] 49) fun w70 =>
   (StL w70 (Addr.mk w69.heap.size 0 none) 0 [.int .i64 (andI .i64 node61 (1 : Int)), .int .i64 (andI .i64 i62 (3 : Int))] fun w71 =>
   w71.cell? ((Addr.mk w6.heap.size 0 none).add 1) = some (.int .i64 i64) ∧
   w71.cell? (Addr.mk w6.heap.size 0 none) = some (.int .i64 node63) ∧
   (StL w71 (Addr.mk w60.heap.size 0 none) 0 [.int .i64 (andI .i64 node63 (1 : Int)), .int .i64 (andI .i64 i64 (3 : Int))] fun w72 =>
   k29 (Addr.mk w69.heap.size 0 none) (Addr.mk w60.heap.size 0 none) w72) ∧
   True) ∧
   True) ∧
   True) ∧
   True))) → k13 t14 w15) →
   (bif decide (i11 < (l1.len : Int)) then
    (k13 (decide (i11 < (20 : Int))) w12)
   else
    (k13 false w12))) → l10 i11 w12) →
   l10 (0 : Int) w9)) w7
set_option maxRecDepth 100000 in
theorem S.law05_SlotsSwaps_ok (l1 : Sl) (a2 : Int) (a3 : Int) (b4 : Int) (b5 : Int) (K : Bool → World → Prop) (w : World) (h : S.law05_SlotsSwaps l1 a2 a3 b4 b5 K w) : C.law05_SlotsSwaps l1 a2 a3 b4 b5 K w := by
  have e : fnV Try.prog Try.f10 (bodyOf Try.f10) (.t none (.u) (.t none (.u) (.t none (.t none (.u) (.t none (.t none (.u) (.u)) (.u))) (.t none (.t none (.u) (.t none (.t (some [(8, .c (.i .i64))]) (.t none (.t none (.r (some [(25, .c (.b))]) .done) (.t none (.u) (.u))) (.t none (.t none (.r none (.one 0 2046 (.one 1 1988 (.one 2 1984 (.one 3 1984 (.one 4 1984 (.one 5 1984 (.one 6 128 (.one 7 0 (.one 8 0 (.one 9 0 (.one 10 0 (.alt 11 (.done) (.none)))))))))))))) (.u)) (.u))) (.u)) (.u))) (.t none (.r (some [(9, .c (.q)), (10, .c (.q))]) (.one 0 65464 (.one 1 65464 (.one 2 65464 (.one 3 65408 (.one 4 65408 (.one 5 65408 (.one 6 65408 (.one 7 121856 (.one 10 115456 (.hold 8 120832 131071 (.one 9 120832 (.hold 11 114688 131071 (.one 12 114688 (.one 13 114688 (.alt 14 (.alt 15 (.alt 16 (.alt 17 (.done) (.none)) (.none)) (.none)) (.alt 15 (.alt 14 (.alt 16 (.alt 17 (.done) (.none)) (.none)) (.none)) (.none)))))))))))))))))) (.t none (.u) (.t none (.r none (.one 0 118 (.one 1 116 (.one 2 112 (.one 4 104 (.hold 5 72 895 (.hold 6 8 895 (.alt 3 (.alt 7 (.one 8 0 (.one 9 0 (.done))) (.none)) (.none))))))))) (.t none (.u) (.t none (.u) (.u)))))))))) [(0, .c (.b))] [.slice l1.a l1.len l1.cap, .agg #[.int .i64 a2, .int .i64 a3], .agg #[.int .i64 b4, .int .i64 b5]] K w = S.law05_SlotsSwaps l1 a2 a3 b4 b5 K w := by kernel_rfl
  exact okF_mk Try.func10 rfl (fn_sound names_ok follows_ok Try.func10 rfl (by kernel_rfl) (Eq.mpr e h))

/-- buttress/buttresslaw05.SlotsMoves -/
def S.law05_SlotsMoves (l1 : Sl) (a2 : Int) (a3 : Int) (b4 : Int) (b5 : Int) (K : Bool → World → Prop) (w : World) : Prop :=
  Al w (.cells #[.int .i64 a2, .int .i64 a3] 49) fun w6 =>
   Al w6 (.cells #[.int .i64 b4, .int .i64 b5] 49) fun w7 =>
   C.law05_two  (fun r8 w9 =>
   bif r8.isNone then
    (K false w9)
   else
    (∀ l10 : Int → World → Prop,
   (∀ (i11 : Int) (w12 : World), (∀ k13 : Bool → World → Prop,
   (∀ (t14 : Bool) (w15 : World), (bif t14 then
    (Dr w15 fun w16 =>
   ∃ a17 : Addr, l1.a = some a17 ∧ 0 ≤ i11 ∧ i11 < (l1.len : Int) ∧
   LdL w16 ((a17.add (i11.toNat * 12)).add 2) 0 [.i .i64, .i .i64] fun (a18 : Int) (a19 : Int) =>
   ∃ a20 : Addr, l1.a = some a20 ∧ 0 ≤ i11 ∧ i11 < (l1.len : Int) ∧
   LdL w16 ((a20.add (i11.toNat * 12)).add 6) 0 [.i .i64, .i .i64, .i .i64, .i .u64, .i .u64, .i .i64] fun (c21 : Int) (c22 : Int) (c23 : Int) (c24 : Int) (c25 : Int) (c26 : Int) =>
   (C.slots_Nodes_Put r8 a18 a19 c21 c22 c23 c24 c25 c26 (fun r27 w28 =>
   l10 (IntKind.i64.wrap (i11 + (1 : Int))) w28) w16) ∧
   True)
   else
    (∀ k29 : Addr → Addr → World → Prop,
   (∀ (x30 : Addr) (y31 : Addr) (w32 : World), (C.slots_Nodes_Held r8 (fun r33 w34 =>
   LdL w34 x30 0 [.i .i64, .i .i64] fun (t35 : Int) (t36 : Int) =>
   C.slots_Nodes_Get r8 t35 t36 (fun r37 r38 r39 r40 r41 r42 r43 w44 =>
   Al w44 (.cells #[.int .i64 (0 : Int), .int .i64 (0 : Int), .int .i64 (0 : Int), .int .u64 (0 : Int), .int .u64 (0 : Int), .int .i64 (0 : Int)] 38) fun w45 =>
   StL w45 (Addr.mk w44.heap.size 0 none) 0 [.int .i64 r37, .int .i64 r38, .int .i64 r39, .int .u64 r40, .int .u64 r41, .int .i64 r42] fun w46 =>
   LdL w46 x30 0 [.i .i64, .i .i64] fun (t47 : Int) (t48 : Int) =>
   LdL w46 y31 0 [.i .i64, .i .i64] fun (t49 : Int) (t50 : Int) =>
   C.slots_Nodes_Move r8 t47 t48 t49 t50 (fun r51 w52 =>
   bif r51 != (0 : Int) then
    (C.slots_Nodes_Held r8 (fun r53 w54 =>
   C.ref05_Same r53 r33 (fun r55 w56 =>
   bif r55 then
    (C.law05_fixed  (fun r57 w58 =>
   K r57 w58) w56)
   else
    (K false w56)) w54) w52)
   else
    (LdL w52 x30 0 [.i .i64, .i .i64] fun (t59 : Int) (t60 : Int) =>
   C.slots_Nodes_Get r8 t59 t60 (fun r61 r62 r63 r64 r65 r66 r67 w68 =>
   Al w68 (.cells #[.int .i64 (0 : Int), .int .i64 (0 : Int), .int .i64 (0 : Int), .int .u64 (0 : Int), .int .u64 (0 : Int), .int .i64 (0 : Int)] 38) fun w69 =>
   StL w69 (Addr.mk w68.heap.size 0 none) 0 [.int .i64 r61, .int .i64 r62, .int .i64 r63, .int .u64 r64, .int .u64 r65, .int .i64 r66] fun w70 =>
   LdL w70 y31 0 [.i .i64, .i .i64] fun (t71 : Int) (t72 : Int) =>
   C.slots_Nodes_Get r8 t71 t72 (fun r73 r74 r75 r76 r77 r78 r79 w80 =>
   Al w80 (.cells #[.int .i64 (0 : Int), .int .i64 (0 : Int), .int .i64 (0 : Int), .int .u64 (0 : Int), .int .u64 (0 : Int), .int .i64 (0 : Int)] 38) fun w81 =>
   StL w81 (Addr.mk w80.heap.size 0 none) 0 [.int .i64 r73, .int .i64 r74, .int .i64 r75, .int .u64 r76, .int .u64 r77, .int .i64 r78] fun w82 =>
   LdL w82 y31 0 [.i .i64, .i .i64] fun (t83 : Int) (t84 : Int) =>
   LdL w82 x30 0 [.i .i64, .i .i64] fun (t85 : Int) (t86 : Int) =>
   C.slots_Nodes_Move r8 t83 t84 t85 t86 (fun r87 w88 =>
   ∃ kind89 : Int, w88.cell? (Addr.mk w44.heap.size 0 none) = some (.int .i64 kind89) ∧
   bif kind89 != (0 : Int) then
    (LdL w88 (Addr.mk w68.heap.size 0 none) 0 [.i .i64, .i .i64, .i .i64, .i .u64, .i .u64, .i .i64] fun (t90 : Int) (t91 : Int) (t92 : Int) (t93 : Int) (t94 : Int) (t95 : Int) =>
   ∃ eq96 : Bool, EqB Try.prog .eql 38 (.tmp 100) (.tmp 101) (.agg #[.int .i64 t90, .int .i64 t91, .int .i64 t92, .int .u64 t93, .int .u64 t94, .int .i64 t95]) (.agg #[.int .i64 (0 : Int), .int .i64 (0 : Int), .int .i64 (0 : Int), .int .u64 (0 : Int), .int .u64 (0 : Int), .int .i64 (0 : Int)]) eq96 ∧
   bif eq96 then
    (LdL w88 (Addr.mk w80.heap.size 0 none) 0 [.i .i64, .i .i64, .i .i64, .i .u64, .i .u64, .i .i64] fun (t97 : Int) (t98 : Int) (t99 : Int) (t100 : Int) (t101 : Int) (t102 : Int) =>
   LdL w88 (Addr.mk w44.heap.size 0 none) 0 [.i .i64, .i .i64, .i .i64, .i .u64, .i .u64, .i .i64] fun (kind103 : Int) (kind104 : Int) (kind105 : Int) (kind106 : Int) (kind107 : Int) (kind108 : Int) =>
   ∃ eq109 : Bool, EqB Try.prog .eql 38 (.tmp 105) (.tmp 106) (.agg #[.int .i64 t97, .int .i64 t98, .int .i64 t99, .int .u64 t100, .int .u64 t101, .int .i64 t102]) (.agg #[.int .i64 kind103, .int .i64 kind104, .int .i64 kind105, .int .u64 kind106, .int .u64 kind107, .int .i64 kind108]) eq109 ∧
   bif eq109 then
    (bif r87 == (0 : Int) then
    (C.slots_Nodes_Held r8 (fun r110 w111 =>
   C.ref05_Same r110 r33 (fun r112 w113 =>
   bif r112 then
    (C.law05_fixed  (fun r114 w115 =>
   K r114 w115) w113)
   else
    (K false w113)) w111) w88)
   else
    (K false w88))
   else
    (K false w88))
   else
    (K false w88))
   else
    (K false w88)) w82) w70) w52)) w46) w34) w32) → k29 x30 y31 w32) →
   (Dr w15 fun w116 =>
   ∃ node117 : Int, w116.cell? (Addr.mk w.heap.size 0 none) = some (.int .i64 node117) ∧
   ∃ i118 : Int, w116.cell? ((Addr.mk w.heap.size 0 none).add 1) = some (.int .i64 i118) ∧
   ∃ node119 : Int, w116.cell? (Addr.mk w6.heap.size 0 none) = some (.int .i64 node119) ∧
   ∃ i120 : Int, w116.cell? ((Addr.mk w6.heap.size 0 none).add 1) = some (.int .i64 i120) ∧
   (Al w116 (.cells #[.int .i64 (0 : Int), .int .i64 (0 : Int)] 49) fun w121 =>
   (Al w121 (.cells #[.int .i64 (0 : Int), .int .i64 (0 : Int)] 49) fun w122 =>
   (StL w122 (Addr.mk w116.heap.size 0 none) 0 [.int .i64 (andI .i64 node117 (1 : Int)), .int .i64 (andI .i64 i118 (3 : Int))] fun w123 =>
   w123.cell? ((Addr.mk w6.heap.size 0 none).add 1) = some (.int .i64 i120) ∧
   w123.cell? (Addr.mk w6.heap.size 0 none) = some (.int .i64 node119) ∧
   (StL w123 (Addr.mk w121.heap.size 0 none) 0 [.int .i64 (andI .i64 node119 (1 : Int)), .int .i64 (andI .i64 i120 (3 : Int))] fun w124 =>
   k29 (Addr.mk w116.heap.size 0 none) (Addr.mk w121.heap.size 0 none) w124) ∧
   True) ∧
   True) ∧
   True) ∧
   (Al w116 (.cells #[.int .i64 (0 : Int), .int .i64 (0 : Int)] 49) fun w125 =>
   (Al w125 (.cells #[.int .i64 (0 : Int), .int .i64 (0 : Int)] 49) fun w126 =>
   (StL w126 (Addr.mk w125.heap.size 0 none) 0 [.int .i64 (andI .i64 node117 (1 : Int)), .int .i64 (andI .i64 i118 (3 : Int))] fun w127 =>
   w127.cell? ((Addr.mk w6.heap.size 0 none).add 1) = some (.int .i64 i120) ∧
   w127.cell? (Addr.mk w6.heap.size 0 none) = some (.int .i64 node119) ∧
   (StL w127 (Addr.mk w116.heap.size 0 none) 0 [.int .i64 (andI .i64 node119 (1 : Int)), .int .i64 (andI .i64 i120 (3 : Int))] fun w128 =>
   k29 (Addr.mk w125.heap.size 0 none) (Addr.mk w116.heap.size 0 none) w128) ∧
   True) ∧
   True) ∧
   True) ∧
   True))) → k13 t14 w15) →
   (bif decide (i11 < (l1.len : Int)) then
    (k13 (decide (i11 < (20 : Int))) w12)
   else
    (k13 false w12))) → l10 i11 w12) →
   l10 (0 : Int) w9)) w7
set_option maxRecDepth 100000 in
theorem S.law05_SlotsMoves_ok (l1 : Sl) (a2 : Int) (a3 : Int) (b4 : Int) (b5 : Int) (K : Bool → World → Prop) (w : World) (h : S.law05_SlotsMoves l1 a2 a3 b4 b5 K w) : C.law05_SlotsMoves l1 a2 a3 b4 b5 K w := by
  have e : fnV Try.prog Try.f11 (bodyOf Try.f11) (.t none (.u) (.t none (.u) (.t none (.t none (.u) (.t none (.t none (.u) (.u)) (.u))) (.t none (.t none (.u) (.t none (.t (some [(8, .c (.i .i64))]) (.t none (.t none (.r (some [(30, .c (.b))]) .done) (.t none (.u) (.u))) (.t none (.t none (.r none (.one 0 2046 (.one 1 1988 (.one 2 1984 (.one 3 1984 (.one 4 1984 (.one 5 1984 (.one 6 128 (.one 7 0 (.one 8 0 (.one 9 0 (.one 10 0 (.alt 11 (.done) (.none)))))))))))))) (.u)) (.u))) (.u)) (.u))) (.t none (.r (some [(9, .c (.q)), (10, .c (.q))]) (.one 0 65464 (.one 1 65464 (.one 2 65464 (.one 3 65408 (.one 4 65408 (.one 5 65408 (.one 6 65408 (.one 7 121856 (.one 10 115456 (.hold 8 120832 131071 (.one 9 120832 (.hold 11 114688 131071 (.one 12 114688 (.one 13 114688 (.alt 14 (.alt 15 (.alt 16 (.alt 17 (.done) (.none)) (.none)) (.none)) (.alt 15 (.alt 14 (.alt 16 (.alt 17 (.done) (.none)) (.none)) (.none)) (.none)))))))))))))))))) (.t none (.u) (.t none (.u) (.t none (.u) (.t none (.t none (.u) (.t none (.t none (.u) (.u)) (.u))) (.t none (.u) (.t none (.u) (.t none (.u) (.t none (.u) (.u)))))))))))))) [(0, .c (.b))] [.slice l1.a l1.len l1.cap, .agg #[.int .i64 a2, .int .i64 a3], .agg #[.int .i64 b4, .int .i64 b5]] K w = S.law05_SlotsMoves l1 a2 a3 b4 b5 K w := by kernel_rfl
  exact okF_mk Try.func11 rfl (fn_sound names_ok follows_ok Try.func11 rfl (by kernel_rfl) (Eq.mpr e h))

/-- buttress/buttresslaw05.SlotsDrops -/
def S.law05_SlotsDrops (l1 : Sl) (k2 : Int) (K : Bool → World → Prop) (w : World) : Prop :=
  C.law05_two  (fun r3 w4 =>
   bif r3.isNone then
    (K false w4)
   else
    (∀ l5 : Int → World → Prop,
   (∀ (i6 : Int) (w7 : World), (∀ k8 : Bool → World → Prop,
   (∀ (t9 : Bool) (w10 : World), (bif t9 then
    (Dr w10 fun w11 =>
   ∃ a12 : Addr, l1.a = some a12 ∧ 0 ≤ i6 ∧ i6 < (l1.len : Int) ∧
   LdL w11 ((a12.add (i6.toNat * 12)).add 2) 0 [.i .i64, .i .i64] fun (a13 : Int) (a14 : Int) =>
   ∃ a15 : Addr, l1.a = some a15 ∧ 0 ≤ i6 ∧ i6 < (l1.len : Int) ∧
   LdL w11 ((a15.add (i6.toNat * 12)).add 6) 0 [.i .i64, .i .i64, .i .i64, .i .u64, .i .u64, .i .i64] fun (c16 : Int) (c17 : Int) (c18 : Int) (c19 : Int) (c20 : Int) (c21 : Int) =>
   (C.slots_Nodes_Put r3 a13 a14 c16 c17 c18 c19 c20 c21 (fun r22 w23 =>
   l5 (IntKind.i64.wrap (i6 + (1 : Int))) w23) w11) ∧
   True)
   else
    (C.slots_Nodes_Held r3 (fun r24 w25 =>
   ∀ l26 : Int → Int → World → Prop,
   (∀ (had27 : Int) (i28 : Int) (w29 : World), (bif decide (i28 < (r24.len : Int)) then
    (∃ a30 : Addr, r24.a = some a30 ∧ 0 ≤ i28 ∧ i28 < (r24.len : Int) ∧
   ∃ node31 : Int, w29.cell? (a30.add (i28.toNat * 8)) = some (.int .i64 node31) ∧
   bif node31 == (andI .i64 k2 (1 : Int)) then
    (l26 (IntKind.i64.wrap (had27 + (1 : Int))) (IntKind.i64.wrap (i28 + (1 : Int))) w29)
   else
    (l26 had27 (IntKind.i64.wrap (i28 + (1 : Int))) w29))
   else
    (C.slots_Nodes_Drop r3 (andI .i64 k2 (1 : Int)) (fun r32 w33 =>
   C.slots_Nodes_Size r3 (andI .i64 k2 (1 : Int)) (fun r34 r35 w36 =>
   C.slots_Nodes_Size r3 (xorI .i64 (andI .i64 k2 (1 : Int)) (1 : Int)) (fun r37 r38 w39 =>
   bif (r32 == (0 : Int)) == (had27 == (0 : Int)) then
    (bif r35 == (decide (had27 > (0 : Int))) then
    (bif r38 then
    (C.slots_Nodes_Held r3 (fun r40 w41 =>
   C.ref05_Same r40 r24 (fun r42 w43 =>
   bif r42 then
    (C.law05_fixed  (fun r44 w45 =>
   K r44 w45) w43)
   else
    (K false w43)) w41) w39)
   else
    (K false w39))
   else
    (K false w39))
   else
    (K false w39)) w36) w33) w29)) → l26 had27 i28 w29) →
   l26 (0 : Int) (0 : Int) w25) w10)) → k8 t9 w10) →
   (bif decide (i6 < (l1.len : Int)) then
    (k8 (decide (i6 < (20 : Int))) w7)
   else
    (k8 false w7))) → l5 i6 w7) →
   l5 (0 : Int) w4)) w
set_option maxRecDepth 100000 in
theorem S.law05_SlotsDrops_ok (l1 : Sl) (k2 : Int) (K : Bool → World → Prop) (w : World) (h : S.law05_SlotsDrops l1 k2 K w) : C.law05_SlotsDrops l1 k2 K w := by
  have e : fnV Try.prog Try.f12 (bodyOf Try.f12) (.t none (.u) (.t none (.u) (.t none (.t none (.u) (.t none (.t none (.u) (.u)) (.u))) (.t none (.t none (.u) (.t none (.t (some [(6, .c (.i .i64))]) (.t none (.t none (.r (some [(25, .c (.b))]) .done) (.t none (.u) (.u))) (.t none (.t none (.r none (.one 0 2046 (.one 1 1988 (.one 2 1984 (.one 3 1984 (.one 4 1984 (.one 5 1984 (.one 6 128 (.one 7 0 (.one 8 0 (.one 9 0 (.one 10 0 (.alt 11 (.done) (.none)))))))))))))) (.u)) (.u))) (.u)) (.u))) (.t none (.u) (.t none (.t none (.u) (.t none (.t (some [(8, .c (.i .i64)), (9, .c (.i .i64))]) (.t none (.t none (.u) (.t none (.u) (.u))) (.t none (.t none (.t none (.u) (.t none (.u) (.u))) (.u)) (.u))) (.u)) (.u))) (.t none (.u) (.t none (.u) (.t none (.u) (.t none (.u) (.u))))))))))) [(0, .c (.b))] [.slice l1.a l1.len l1.cap, .int .i64 k2] K w = S.law05_SlotsDrops l1 k2 K w := by kernel_rfl
  exact okF_mk Try.func12 rfl (fn_sound names_ok follows_ok Try.func12 rfl (by kernel_rfl) (Eq.mpr e h))

/-- buttress/buttresslaw05.SlotsOrder -/
def S.law05_SlotsOrder (l1 : Sl) (K : Bool → World → Prop) (w : World) : Prop :=
  C.law05_two  (fun r2 w3 =>
   bif r2.isNone then
    (K false w3)
   else
    (∀ l4 : Int → World → Prop,
   (∀ (i5 : Int) (w6 : World), (∀ k7 : Bool → World → Prop,
   (∀ (t8 : Bool) (w9 : World), (bif t8 then
    (Dr w9 fun w10 =>
   ∃ a11 : Addr, l1.a = some a11 ∧ 0 ≤ i5 ∧ i5 < (l1.len : Int) ∧
   LdL w10 ((a11.add (i5.toNat * 12)).add 2) 0 [.i .i64, .i .i64] fun (a12 : Int) (a13 : Int) =>
   ∃ a14 : Addr, l1.a = some a14 ∧ 0 ≤ i5 ∧ i5 < (l1.len : Int) ∧
   LdL w10 ((a14.add (i5.toNat * 12)).add 6) 0 [.i .i64, .i .i64, .i .i64, .i .u64, .i .u64, .i .i64] fun (c15 : Int) (c16 : Int) (c17 : Int) (c18 : Int) (c19 : Int) (c20 : Int) =>
   (C.slots_Nodes_Put r2 a12 a13 c15 c16 c17 c18 c19 c20 (fun r21 w22 =>
   l4 (IntKind.i64.wrap (i5 + (1 : Int))) w22) w10) ∧
   True)
   else
    (C.slots_Nodes_Held r2 (fun r23 w24 =>
   ∀ l25 : Int → World → Prop,
   (∀ (i26 : Int) (w27 : World), (bif decide (i26 < (r23.len : Int)) then
    (∃ a28 : Addr, r23.a = some a28 ∧ 0 ≤ i26 ∧ i26 < (r23.len : Int) ∧
   LdL w27 (a28.add (i26.toNat * 8)) 0 [.i .i64, .i .i64] fun (at29 : Int) (at30 : Int) =>
   C.slots_Nodes_Get r2 at29 at30 (fun r31 r32 r33 r34 r35 r36 r37 w38 =>
   Al w38 (.cells #[.int .i64 (0 : Int), .int .i64 (0 : Int), .int .i64 (0 : Int), .int .u64 (0 : Int), .int .u64 (0 : Int), .int .i64 (0 : Int)] 38) fun w39 =>
   StL w39 (Addr.mk w38.heap.size 0 none) 0 [.int .i64 r31, .int .i64 r32, .int .i64 r33, .int .u64 r34, .int .u64 r35, .int .i64 r36] fun w40 =>
   ∀ k41 : Bool → World → Prop,
   (∀ (t42 : Bool) (w43 : World), (bif t42 then
    (K false w43)
   else
    (∀ k44 : Bool → World → Prop,
   (∀ (t45 : Bool) (w46 : World), (bif t45 then
    (K false w46)
   else
    (l25 (IntKind.i64.wrap (i26 + (1 : Int))) w46)) → k44 t45 w46) →
   (Dr w43 fun w47 =>
   bif decide (i26 > (0 : Int)) then
    (∃ a48 : Addr, r23.a = some a48 ∧ 0 ≤ i26 ∧ i26 < (r23.len : Int) ∧
   ∃ node49 : Int, w47.cell? (a48.add (i26.toNat * 8)) = some (.int .i64 node49) ∧
   ∃ a50 : Addr, r23.a = some a50 ∧ 0 ≤ IntKind.i64.wrap (i26 - (1 : Int)) ∧ IntKind.i64.wrap (i26 - (1 : Int)) < (r23.len : Int) ∧
   ∃ node51 : Int, w47.cell? (a50.add ((IntKind.i64.wrap (i26 - (1 : Int))).toNat * 8)) = some (.int .i64 node51) ∧
   bif decide (node49 < node51) then
    (k44 true w47)
   else
    (∃ a52 : Addr, r23.a = some a52 ∧ 0 ≤ i26 ∧ i26 < (r23.len : Int) ∧
   ∃ node53 : Int, w47.cell? (a52.add (i26.toNat * 8)) = some (.int .i64 node53) ∧
   ∃ a54 : Addr, r23.a = some a54 ∧ 0 ≤ IntKind.i64.wrap (i26 - (1 : Int)) ∧ IntKind.i64.wrap (i26 - (1 : Int)) < (r23.len : Int) ∧
   ∃ node55 : Int, w47.cell? (a54.add ((IntKind.i64.wrap (i26 - (1 : Int))).toNat * 8)) = some (.int .i64 node55) ∧
   bif node53 == node55 then
    (∃ a56 : Addr, r23.a = some a56 ∧ 0 ≤ i26 ∧ i26 < (r23.len : Int) ∧
   ∃ i57 : Int, w47.cell? ((a56.add (i26.toNat * 8)).add 1) = some (.int .i64 i57) ∧
   ∃ a58 : Addr, r23.a = some a58 ∧ 0 ≤ IntKind.i64.wrap (i26 - (1 : Int)) ∧ IntKind.i64.wrap (i26 - (1 : Int)) < (r23.len : Int) ∧
   ∃ i59 : Int, w47.cell? ((a58.add ((IntKind.i64.wrap (i26 - (1 : Int))).toNat * 8)).add 1) = some (.int .i64 i59) ∧
   k44 (decide (i57 ≤ i59)) w47)
   else
    (k44 false w47)))
   else
    (k44 false w47)))) → k41 t42 w43) →
   (Dr w40 fun w60 =>
   bif r37 != (0 : Int) then
    (k41 true w60)
   else
    (LdL w60 (Addr.mk w38.heap.size 0 none) 0 [.i .i64, .i .i64, .i .i64, .i .u64, .i .u64, .i .i64] fun (t61 : Int) (t62 : Int) (t63 : Int) (t64 : Int) (t65 : Int) (t66 : Int) =>
   ∃ a67 : Addr, r23.a = some a67 ∧ 0 ≤ i26 ∧ i26 < (r23.len : Int) ∧
   LdL w60 ((a67.add (i26.toNat * 8)).add 2) 0 [.i .i64, .i .i64, .i .i64, .i .u64, .i .u64, .i .i64] fun (c68 : Int) (c69 : Int) (c70 : Int) (c71 : Int) (c72 : Int) (c73 : Int) =>
   ∃ eq74 : Bool, EqB Try.prog .neq 38 (.tmp 55) (.tmp 60) (.agg #[.int .i64 t61, .int .i64 t62, .int .i64 t63, .int .u64 t64, .int .u64 t65, .int .i64 t66]) (.agg #[.int .i64 c68, .int .i64 c69, .int .i64 c70, .int .u64 c71, .int .u64 c72, .int .i64 c73]) eq74 ∧
   bif eq74 then
    (k41 true w60)
   else
    (∃ kind75 : Int, w60.cell? (Addr.mk w38.heap.size 0 none) = some (.int .i64 kind75) ∧
   k41 (kind75 == (0 : Int)) w60)))) w27)
   else
    (bif decide ((r23.len : Int) ≤ (8 : Int)) then
    (C.law05_fixed  (fun r76 w77 =>
   K r76 w77) w27)
   else
    (K false w27))) → l25 i26 w27) →
   l25 (0 : Int) w24) w9)) → k7 t8 w9) →
   (bif decide (i5 < (l1.len : Int)) then
    (k7 (decide (i5 < (20 : Int))) w6)
   else
    (k7 false w6))) → l4 i5 w6) →
   l4 (0 : Int) w3)) w
set_option maxRecDepth 100000 in
theorem S.law05_SlotsOrder_ok (l1 : Sl) (K : Bool → World → Prop) (w : World) (h : S.law05_SlotsOrder l1 K w) : C.law05_SlotsOrder l1 K w := by
  have e : fnV Try.prog Try.f13 (bodyOf Try.f13) (.t none (.u) (.t none (.u) (.t none (.t none (.u) (.t none (.t none (.u) (.u)) (.u))) (.t none (.t none (.u) (.t none (.t (some [(4, .c (.i .i64))]) (.t none (.t none (.r (some [(19, .c (.b))]) .done) (.t none (.u) (.u))) (.t none (.t none (.r none (.one 0 2046 (.one 1 1988 (.one 2 1984 (.one 3 1984 (.one 4 1984 (.one 5 1984 (.one 6 128 (.one 7 0 (.one 8 0 (.one 9 0 (.one 10 0 (.alt 11 (.done) (.none)))))))))))))) (.u)) (.u))) (.u)) (.u))) (.t none (.u) (.t none (.t none (.u) (.t none (.t (some [(6, .c (.i .i64))]) (.t none (.t none (.u) (.t none (.u) (.u))) (.t none (.t none (.t none (.u) (.t none (.t none (.r (some [(67, .c (.b))]) (.one 0 0 (.one 1 0 (.one 2 0 (.one 3 496 (.one 4 32 (.one 5 0 (.one 6 0 (.one 7 0 (.one 8 0 (.one 9 0 (.one 10 0 (.one 11 0 (.one 12 0 (.one 13 0 (.one 14 0 (.one 15 0 (.done)))))))))))))))))) (.t none (.t none (.u) (.u)) (.u))) (.t none (.r (some [(117, .c (.b))]) (.one 0 0 (.one 1 0 (.one 2 0 (.one 3 65040 (.one 4 65024 (.one 5 65024 (.one 6 65024 (.one 7 65024 (.one 8 65024 (.one 9 3072 (.one 10 0 (.one 11 0 (.one 12 0 (.one 13 0 (.one 14 0 (.one 15 0 (.one 16 0 (.one 17 0 (.one 18 2131230720 (.one 19 2130706432 (.one 20 2130706432 (.one 21 2130706432 (.one 22 2130706432 (.one 23 2130706432 (.one 24 100663296 (.one 25 0 (.one 26 0 (.one 27 0 (.one 28 0 (.one 29 0 (.one 30 0 (.one 31 0 (.one 32 0 (.one 33 69836168232960 (.one 34 69818988363776 (.one 35 69818988363776 (.one 36 69818988363776 (.one 37 69818988363776 (.one 38 69818988363776 (.one 39 3298534883328 (.one 40 0 (.one 41 0 (.one 42 0 (.one 43 0 (.one 44 0 (.one 45 0 (.one 46 0 (.one 47 0 (.one 48 0 (.one 49 0 (.done)))))))))))))))))))))))))))))))))))))))))))))))))))) (.t none (.t none (.u) (.u)) (.u))))) (.u)) (.u))) (.u)) (.u))) (.t none (.u) (.u)))))))) [(0, .c (.b))] [.slice l1.a l1.len l1.cap] K w = S.law05_SlotsOrder l1 K w := by kernel_rfl
  exact okF_mk Try.func13 rfl (fn_sound names_ok follows_ok Try.func13 rfl (by kernel_rfl) (Eq.mpr e h))

/-- buttress/buttresslaw05.SlotsNone -/
def S.law05_SlotsNone (l1 : Sl) (node2 : Int) (i3 : Int) (K : Bool → World → Prop) (w : World) : Prop :=
  C.law05_two  (fun r4 w5 =>
   bif r4.isNone then
    (K false w5)
   else
    (∀ l6 : Int → World → Prop,
   (∀ (k7 : Int) (w8 : World), (∀ k9 : Bool → World → Prop,
   (∀ (t10 : Bool) (w11 : World), (bif t10 then
    (Dr w11 fun w12 =>
   ∃ a13 : Addr, l1.a = some a13 ∧ 0 ≤ k7 ∧ k7 < (l1.len : Int) ∧
   LdL w12 ((a13.add (k7.toNat * 12)).add 2) 0 [.i .i64, .i .i64] fun (a14 : Int) (a15 : Int) =>
   ∃ a16 : Addr, l1.a = some a16 ∧ 0 ≤ k7 ∧ k7 < (l1.len : Int) ∧
   LdL w12 ((a16.add (k7.toNat * 12)).add 6) 0 [.i .i64, .i .i64, .i .i64, .i .u64, .i .u64, .i .i64] fun (c17 : Int) (c18 : Int) (c19 : Int) (c20 : Int) (c21 : Int) (c22 : Int) =>
   (C.slots_Nodes_Put r4 a14 a15 c17 c18 c19 c20 c21 c22 (fun r23 w24 =>
   l6 (IntKind.i64.wrap (k7 + (1 : Int))) w24) w12) ∧
   True)
   else
    (C.slots_Nodes_Held r4 (fun r25 w26 =>
   Al w26 (.cells #[.int .i64 (0 : Int), .int .i64 (0 : Int)] 49) fun w27 =>
   StL w27 (Addr.mk w26.heap.size 0 none) 0 [.int .i64 (andI .i64 node2 (1 : Int)), .int .i64 (IntKind.i64.wrap ((4 : Int) + (andI .i64 i3 (65535 : Int))))] fun w28 =>
   ∀ k29 : World → Prop,
   (∀ (w30 : World), (LdL w30 (Addr.mk w26.heap.size 0 none) 0 [.i .i64, .i .i64] fun (t31 : Int) (t32 : Int) =>
   C.slots_Nodes_Get r4 t31 t32 (fun r33 r34 r35 r36 r37 r38 r39 w40 =>
   Al w40 (.cells #[.int .i64 (0 : Int), .int .i64 (0 : Int), .int .i64 (0 : Int), .int .u64 (0 : Int), .int .u64 (0 : Int), .int .i64 (0 : Int)] 38) fun w41 =>
   StL w41 (Addr.mk w40.heap.size 0 none) 0 [.int .i64 r33, .int .i64 r34, .int .i64 r35, .int .u64 r36, .int .u64 r37, .int .i64 r38] fun w42 =>
   LdL w42 (Addr.mk w26.heap.size 0 none) 0 [.i .i64, .i .i64] fun (t43 : Int) (t44 : Int) =>
   C.slots_Nodes_Take r4 t43 t44 (fun r45 r46 r47 r48 r49 r50 r51 w52 =>
   Al w52 (.cells #[.int .i64 (0 : Int), .int .i64 (0 : Int), .int .i64 (0 : Int), .int .u64 (0 : Int), .int .u64 (0 : Int), .int .i64 (0 : Int)] 38) fun w53 =>
   StL w53 (Addr.mk w52.heap.size 0 none) 0 [.int .i64 r45, .int .i64 r46, .int .i64 r47, .int .u64 r48, .int .u64 r49, .int .i64 r50] fun w54 =>
   Dr w54 fun w55 =>
   LdL w55 (Addr.mk w26.heap.size 0 none) 0 [.i .i64, .i .i64] fun (t56 : Int) (t57 : Int) =>
   LdL w55 (Addr.mk w26.heap.size 0 none) 0 [.i .i64, .i .i64] fun (t58 : Int) (t59 : Int) =>
   LdL w55 (Addr.mk w26.heap.size 0 none) 0 [.i .i64, .i .i64] fun (t60 : Int) (t61 : Int) =>
   LdL w55 (Addr.mk w26.heap.size 0 none) 0 [.i .i64, .i .i64] fun (t62 : Int) (t63 : Int) =>
   (C.law05_thread  (fun r64 r65 r66 r67 r68 r69 w70 =>
   HdL w70 (Addr.mk w26.heap.size 0 none) 0 [.int .i64 t62, .int .i64 t63] (
   HdL w70 (Addr.mk w26.heap.size 0 none) 0 [.int .i64 t60, .int .i64 t61] (
   HdL w70 (Addr.mk w26.heap.size 0 none) 0 [.int .i64 t58, .int .i64 t59] (
   HdL w70 (Addr.mk w26.heap.size 0 none) 0 [.int .i64 t56, .int .i64 t57] (
   (C.slots_Nodes_Put r4 t56 t57 r64 r65 r66 r67 r68 r69 (fun r71 w72 =>
   HdL w72 (Addr.mk w26.heap.size 0 none) 0 [.int .i64 t62, .int .i64 t63] (
   HdL w72 (Addr.mk w26.heap.size 0 none) 0 [.int .i64 t60, .int .i64 t61] (
   HdL w72 (Addr.mk w26.heap.size 0 none) 0 [.int .i64 t58, .int .i64 t59] (
   (C.slots_Nodes_Move r4 t58 t59 (0 : Int) (0 : Int) (fun r73 w74 =>
   HdL w74 (Addr.mk w26.heap.size 0 none) 0 [.int .i64 t62, .int .i64 t63] (
   HdL w74 (Addr.mk w26.heap.size 0 none) 0 [.int .i64 t60, .int .i64 t61] (
   (C.slots_Nodes_Move r4 (0 : Int) (0 : Int) t60 t61 (fun r75 w76 =>
   HdL w76 (Addr.mk w26.heap.size 0 none) 0 [.int .i64 t62, .int .i64 t63] (
   (C.slots_Nodes_Swap r4 (0 : Int) (0 : Int) t62 t63 (fun r77 w78 =>
   LdL w78 (Addr.mk w40.heap.size 0 none) 0 [.i .i64, .i .i64, .i .i64, .i .u64, .i .u64, .i .i64] fun (t79 : Int) (t80 : Int) (t81 : Int) (t82 : Int) (t83 : Int) (t84 : Int) =>
   ∃ eq85 : Bool, EqB Try.prog .eql 38 (.tmp 87) (.tmp 88) (.agg #[.int .i64 t79, .int .i64 t80, .int .i64 t81, .int .u64 t82, .int .u64 t83, .int .i64 t84]) (.agg #[.int .i64 (0 : Int), .int .i64 (0 : Int), .int .i64 (0 : Int), .int .u64 (0 : Int), .int .u64 (0 : Int), .int .i64 (0 : Int)]) eq85 ∧
   bif eq85 then
    (bif r39 == (50 : Int) then
    (bif r51 == (50 : Int) then
    (bif r71 == (50 : Int) then
    (bif r73 == (50 : Int) then
    (bif r75 == (50 : Int) then
    (bif r77 == (50 : Int) then
    (C.slots_Nodes_Held r4 (fun r86 w87 =>
   C.ref05_Same r86 r25 (fun r88 w89 =>
   bif r88 then
    (C.slots_New  (fun r90 w91 =>
   bif !r90.isNone then
    (C.law05_fixed  (fun r92 w93 =>
   K r92 w93) w91)
   else
    (K false w91)) w89)
   else
    (K false w89)) w87) w78)
   else
    (K false w78))
   else
    (K false w78))
   else
    (K false w78))
   else
    (K false w78))
   else
    (K false w78))
   else
    (K false w78))
   else
    (K false w78)) w76) ∧
   True)) w74) ∧
   True))) w72) ∧
   True)))) w70) ∧
   True))))) w55) ∧
   True) w42) w30) → k29 w30) →
   (bif decide (i3 < (0 : Int)) then
    (StL w28 (Addr.mk w26.heap.size 0 none) 0 [.int .i64 (IntKind.i64.wrap ((2 : Int) + (andI .i64 node2 (65535 : Int)))), .int .i64 (0 : Int)] fun w94 =>
   k29 w94)
   else
    (k29 w28))) w11)) → k9 t10 w11) →
   (bif decide (k7 < (l1.len : Int)) then
    (k9 (decide (k7 < (20 : Int))) w8)
   else
    (k9 false w8))) → l6 k7 w8) →
   l6 (0 : Int) w5)) w
set_option maxRecDepth 100000 in
theorem S.law05_SlotsNone_ok (l1 : Sl) (node2 : Int) (i3 : Int) (K : Bool → World → Prop) (w : World) (h : S.law05_SlotsNone l1 node2 i3 K w) : C.law05_SlotsNone l1 node2 i3 K w := by
  have e : fnV Try.prog Try.f14 (bodyOf Try.f14) (.t none (.u) (.t none (.u) (.t none (.t none (.u) (.t none (.t none (.u) (.u)) (.u))) (.t none (.t none (.u) (.t none (.t (some [(8, .c (.i .i64))]) (.t none (.t none (.r (some [(30, .c (.b))]) .done) (.t none (.u) (.u))) (.t none (.t none (.r none (.one 0 2046 (.one 1 1988 (.one 2 1984 (.one 3 1984 (.one 4 1984 (.one 5 1984 (.one 6 128 (.one 7 0 (.one 8 0 (.one 9 0 (.one 10 0 (.alt 11 (.done) (.none)))))))))))))) (.u)) (.u))) (.u)) (.u))) (.t none (.u) (.t none (.u) (.t none (.t none (.u) (.t (some []) (.u) (.u))) (.t none (.u) (.t none (.u) (.t none (.r none (.one 0 30582 (.one 4 30574 (.one 6 30510 (.one 8 30382 (.one 9 29870 (.one 12 27822 (.one 13 19630 (.hold 1 17444 1013623 (.hold 5 17420 1013631 (.hold 10 16524 1013759 (.hold 14 2188 1015807 (.alt 2 (.alt 3 (.alt 7 (.alt 11 (.alt 15 (.one 16 0 (.one 17 0 (.one 18 0 (.one 19 0 (.done))))) (.none)) (.none)) (.none)) (.none)) (.none)))))))))))))) (.t none (.u) (.u)))))))))))) [(0, .c (.b))] [.slice l1.a l1.len l1.cap, .int .i64 node2, .int .i64 i3] K w = S.law05_SlotsNone l1 node2 i3 K w := by kernel_rfl
  exact okF_mk Try.func14 rfl (fn_sound names_ok follows_ok Try.func14 rfl (by kernel_rfl) (Eq.mpr e h))

/-- buttress/buttresslaw05.SlotsDoes -/
def S.law05_SlotsDoes (script1 : Sl) (K : Bool → World → Prop) (w : World) : Prop :=
  C.slots_New  (fun r2 w3 =>
   Al w3 (.cells #[.slice none 0 0] 76) fun w4 =>
   bif r2.isNone then
    (K false w4)
   else
    (∀ l5 : Option Addr → Int → World → Prop,
   (∀ (n6 : Option Addr) (i7 : Int) (w8 : World), (∀ k9 : Bool → World → Prop,
   (∀ (t10 : Bool) (w11 : World), (bif t10 then
    (∃ a12 : Addr, script1.a = some a12 ∧ 0 ≤ i7 ∧ i7 < (script1.len : Int) ∧
   LdL w11 (a12.add (i7.toNat * 12)) 0 [.i .i64, .i .i64, .i .i64, .i .i64, .i .i64, .i .i64, .i .i64, .i .i64, .i .i64, .i .u64, .i .u64, .i .i64] fun (t13 : Int) (t14 : Int) (t15 : Int) (t16 : Int) (t17 : Int) (t18 : Int) (t19 : Int) (t20 : Int) (t21 : Int) (t22 : Int) (t23 : Int) (t24 : Int) =>
   Al w11 (.cells #[.int .i64 (0 : Int), .int .i64 (0 : Int), .int .i64 (0 : Int), .int .i64 (0 : Int), .int .i64 (0 : Int), .int .i64 (0 : Int), .int .i64 (0 : Int), .int .i64 (0 : Int), .int .i64 (0 : Int), .int .u64 (0 : Int), .int .u64 (0 : Int), .int .i64 (0 : Int)] 62) fun w25 =>
   StL w25 (Addr.mk w11.heap.size 0 none) 0 [.int .i64 t13, .int .i64 t14, .int .i64 t15, .int .i64 t16, .int .i64 t17, .int .i64 t18, .int .i64 t19, .int .i64 t20, .int .i64 t21, .int .u64 t22, .int .u64 t23, .int .i64 t24] fun w26 =>
   ∃ kind27 : Int, w26.cell? (Addr.mk w11.heap.size 0 none) = some (.int .i64 kind27) ∧
   ∀ k28 : Option Addr → World → Prop,
   (∀ (n29 : Option Addr) (w30 : World), (LdL w30 (Addr.mk w11.heap.size 0 none) 0 [.i .i64, .i .i64, .i .i64, .i .i64, .i .i64, .i .i64, .i .i64, .i .i64, .i .i64, .i .u64, .i .u64, .i .i64] fun (kind31 : Int) (kind32 : Int) (kind33 : Int) (kind34 : Int) (kind35 : Int) (kind36 : Int) (kind37 : Int) (kind38 : Int) (kind39 : Int) (kind40 : Int) (kind41 : Int) (kind42 : Int) =>
   C.law05_same n29 (some (Addr.mk w3.heap.size 0 none)) kind31 kind32 kind33 kind34 kind35 kind36 kind37 kind38 kind39 kind40 kind41 kind42 (fun r43 w44 =>
   bif !r43 then
    (K false w44)
   else
    (LdL w44 ((Addr.mk w11.heap.size 0 none).add 2) 0 [.i .i64, .i .i64] fun (a45 : Int) (a46 : Int) =>
   C.slots_Nodes_Get n29 a45 a46 (fun r47 r48 r49 r50 r51 r52 r53 w54 =>
   Al w54 (.cells #[.int .i64 (0 : Int), .int .i64 (0 : Int), .int .i64 (0 : Int), .int .u64 (0 : Int), .int .u64 (0 : Int), .int .i64 (0 : Int)] 38) fun w55 =>
   StL w55 (Addr.mk w54.heap.size 0 none) 0 [.int .i64 r47, .int .i64 r48, .int .i64 r49, .int .u64 r50, .int .u64 r51, .int .i64 r52] fun w56 =>
   LdL w56 ((Addr.mk w11.heap.size 0 none).add 2) 0 [.i .i64, .i .i64] fun (a57 : Int) (a58 : Int) =>
   C.ref05_Nodes_Get (some (Addr.mk w3.heap.size 0 none)) a57 a58 (fun r59 r60 r61 r62 r63 r64 r65 w66 =>
   Al w66 (.cells #[.int .i64 (0 : Int), .int .i64 (0 : Int), .int .i64 (0 : Int), .int .u64 (0 : Int), .int .u64 (0 : Int), .int .i64 (0 : Int)] 38) fun w67 =>
   StL w67 (Addr.mk w66.heap.size 0 none) 0 [.int .i64 r59, .int .i64 r60, .int .i64 r61, .int .u64 r62, .int .u64 r63, .int .i64 r64] fun w68 =>
   ∃ n69 : Int, w68.cell? ((Addr.mk w11.heap.size 0 none).add 1) = some (.int .i64 n69) ∧
   C.slots_Nodes_Size n29 n69 (fun r70 r71 w72 =>
   ∃ n73 : Int, w72.cell? ((Addr.mk w11.heap.size 0 none).add 1) = some (.int .i64 n73) ∧
   C.ref05_Nodes_Size (some (Addr.mk w3.heap.size 0 none)) n73 (fun r74 r75 w76 =>
   C.slots_Nodes_Held n29 (fun r77 w78 =>
   ∀ k79 : Bool → World → Prop,
   (∀ (t80 : Bool) (w81 : World), (bif t80 then
    (K false w81)
   else
    (∀ l82 : Int → World → Prop,
   (∀ (j83 : Int) (w84 : World), (bif decide (j83 < (r77.len : Int)) then
    (∃ a85 : Addr, r77.a = some a85 ∧ 0 ≤ j83 ∧ j83 < (r77.len : Int) ∧
   St w84 (((a85.add (j83.toNat * 8)).add 2).add 1) (.int .i64 (99 : Int)) fun w86 =>
   l82 (IntKind.i64.wrap (j83 + (1 : Int))) w86)
   else
    (l5 n29 (IntKind.i64.wrap (i7 + (1 : Int))) w84)) → l82 j83 w84) →
   l82 (0 : Int) w81)) → k79 t80 w81) →
   (LdL w78 (Addr.mk w54.heap.size 0 none) 0 [.i .i64, .i .i64, .i .i64, .i .u64, .i .u64, .i .i64] fun (t87 : Int) (t88 : Int) (t89 : Int) (t90 : Int) (t91 : Int) (t92 : Int) =>
   LdL w78 (Addr.mk w66.heap.size 0 none) 0 [.i .i64, .i .i64, .i .i64, .i .u64, .i .u64, .i .i64] fun (t93 : Int) (t94 : Int) (t95 : Int) (t96 : Int) (t97 : Int) (t98 : Int) =>
   ∃ eq99 : Bool, EqB Try.prog .neq 38 (.tmp 89) (.tmp 90) (.agg #[.int .i64 t87, .int .i64 t88, .int .i64 t89, .int .u64 t90, .int .u64 t91, .int .i64 t92]) (.agg #[.int .i64 t93, .int .i64 t94, .int .i64 t95, .int .u64 t96, .int .u64 t97, .int .i64 t98]) eq99 ∧
   bif eq99 then
    (k79 true w78)
   else
    (bif r53 != r65 then
    (k79 true w78)
   else
    (bif r70 != r74 then
    (k79 true w78)
   else
    (bif !(r71 == r75) then
    (k79 true w78)
   else
    (C.ref05_Nodes_Held (some (Addr.mk w3.heap.size 0 none)) (fun r100 w101 =>
   C.ref05_Same r77 r100 (fun r102 w103 =>
   k79 (!r102) w103) w101) w78)))))) w76) w72) w68) w56) w44)) w30) → k28 n29 w30) →
   (bif kind27 == (6 : Int) then
    (C.slots_Nodes_Copy n6 (fun r104 w105 =>
   C.slots_Nodes_Make n6 (3 : Int) (fun r106 r107 w108 =>
   C.law05_thread  (fun r109 r110 r111 r112 r113 r114 w115 =>
   C.slots_Nodes_Put n6 (0 : Int) (0 : Int) r109 r110 r111 r112 r113 r114 (fun r116 w117 =>
   C.slots_Nodes_Take n6 (0 : Int) (1 : Int) (fun r118 r119 r120 r121 r122 r123 r124 w125 =>
   bif r104.isNone then
    (K false w125)
   else
    (k28 r104 w125)) w117) w115) w108) w105) w26)
   else
    (k28 n6 w26)))
   else
    (C.law05_fixed  (fun r126 w127 =>
   K r126 w127) w11)) → k9 t10 w11) →
   (bif decide (i7 < (script1.len : Int)) then
    (k9 (decide (i7 < (80 : Int))) w8)
   else
    (k9 false w8))) → l5 n6 i7 w8) →
   l5 r2 (0 : Int) w4)) w
set_option maxRecDepth 100000 in
theorem S.law05_SlotsDoes_ok (script1 : Sl) (K : Bool → World → Prop) (w : World) (h : S.law05_SlotsDoes script1 K w) : C.law05_SlotsDoes script1 K w := by
  have e : fnV Try.prog Try.f15 (bodyOf Try.f15) (.t none (.u) (.t none (.u) (.t none (.t none (.u) (.t none (.t none (.u) (.u)) (.u))) (.t none (.t none (.u) (.t none (.t (some [(3, .c (.p)), (5, .c (.i .i64))]) (.t none (.t none (.r (some [(30, .c (.b))]) .done) (.t none (.u) (.u))) (.t none (.t none (.t none (.u) (.t none (.t none (.u) (.t (some [(3, .c (.p))]) (.t none (.u) (.t none (.u) (.t none (.u) (.t none (.u) (.t none (.u) (.t none (.u) (.t none (.t none (.u) (.u)) (.u)))))))) (.u))) (.t none (.t none (.u) (.t none (.t none (.u) (.u)) (.u))) (.t none (.u) (.t none (.u) (.t none (.u) (.t none (.u) (.t none (.u) (.t none (.t none (.r (some [(113, .c (.b))]) .done) (.t none (.t none (.u) (.u)) (.u))) (.t none (.u) (.t none (.t (some [(17, .c (.i .i64))]) (.t none (.t none (.u) (.t none (.u) (.u))) (.t none (.t none (.u) (.u)) (.u))) (.u)) (.u)))))))))))) (.u)) (.u))) (.u)) (.u))) (.t none (.u) (.u)))))) [(0, .c (.b))] [.slice script1.a script1.len script1.cap] K w = S.law05_SlotsDoes script1 K w := by kernel_rfl
  exact okF_mk Try.func15 rfl (fn_sound names_ok follows_ok Try.func15 rfl (by kernel_rfl) (Eq.mpr e h))

/-- buttress/buttresslaw05.fixed -/
def S.law05_fixed (K : Bool → World → Prop) (w : World) : Prop :=
  C.slots_New  (fun r1 w2 =>
   bif r1.isNone then
    (K false w2)
   else
    (C.slots_Nodes_Make r1 (1 : Int) (fun r3 r4 w5 =>
   Al w5 (.cells #[.int .i64 (0 : Int), .int .i64 (0 : Int)] 49) fun w6 =>
   Al w6 (.cells #[.int .i64 (0 : Int), .int .i64 (0 : Int)] 49) fun w7 =>
   StL w7 (Addr.mk w5.heap.size 0 none) 0 [.int .i64 (0 : Int), .int .i64 (1 : Int)] fun w8 =>
   StL w8 (Addr.mk w6.heap.size 0 none) 0 [.int .i64 (0 : Int), .int .i64 (0 : Int)] fun w9 =>
   ∀ k10 : Int → World → Prop,
   (∀ (b11 : Int) (w12 : World), (LdL w12 (Addr.mk w5.heap.size 0 none) 0 [.i .i64, .i .i64] fun (t13 : Int) (t14 : Int) =>
   LdL w12 (Addr.mk w6.heap.size 0 none) 0 [.i .i64, .i .i64] fun (t15 : Int) (t16 : Int) =>
   C.slots_Nodes_Move r1 t13 t14 t15 t16 (fun r17 w18 =>
   LdL w18 (Addr.mk w5.heap.size 0 none) 0 [.i .i64, .i .i64] fun (t19 : Int) (t20 : Int) =>
   C.slots_Nodes_Get r1 t19 t20 (fun r21 r22 r23 r24 r25 r26 r27 w28 =>
   Al w28 (.cells #[.int .i64 (0 : Int), .int .i64 (0 : Int), .int .i64 (0 : Int), .int .u64 (0 : Int), .int .u64 (0 : Int), .int .i64 (0 : Int)] 38) fun w29 =>
   StL w29 (Addr.mk w28.heap.size 0 none) 0 [.int .i64 r21, .int .i64 r22, .int .i64 r23, .int .u64 r24, .int .u64 r25, .int .i64 r26] fun w30 =>
   LdL w30 (Addr.mk w6.heap.size 0 none) 0 [.i .i64, .i .i64] fun (t31 : Int) (t32 : Int) =>
   C.slots_Nodes_Get r1 t31 t32 (fun r33 r34 r35 r36 r37 r38 r39 w40 =>
   Al w40 (.cells #[.int .i64 (0 : Int), .int .i64 (0 : Int), .int .i64 (0 : Int), .int .u64 (0 : Int), .int .u64 (0 : Int), .int .i64 (0 : Int)] 38) fun w41 =>
   StL w41 (Addr.mk w40.heap.size 0 none) 0 [.int .i64 r33, .int .i64 r34, .int .i64 r35, .int .u64 r36, .int .u64 r37, .int .i64 r38] fun w42 =>
   C.slots_Nodes_Drop r1 (0 : Int) (fun r43 w44 =>
   LdL w44 (Addr.mk w5.heap.size 0 none) 0 [.i .i64, .i .i64] fun (t45 : Int) (t46 : Int) =>
   LdL w44 (Addr.mk w6.heap.size 0 none) 0 [.i .i64, .i .i64] fun (t47 : Int) (t48 : Int) =>
   C.slots_Nodes_Swap r1 t45 t46 t47 t48 (fun r49 w50 =>
   LdL w50 (Addr.mk w5.heap.size 0 none) 0 [.i .i64, .i .i64] fun (t51 : Int) (t52 : Int) =>
   C.slots_Nodes_Take r1 t51 t52 (fun r53 r54 r55 r56 r57 r58 r59 w60 =>
   Al w60 (.cells #[.int .i64 (0 : Int), .int .i64 (0 : Int), .int .i64 (0 : Int), .int .u64 (0 : Int), .int .u64 (0 : Int), .int .i64 (0 : Int)] 38) fun w61 =>
   StL w61 (Addr.mk w60.heap.size 0 none) 0 [.int .i64 r53, .int .i64 r54, .int .i64 r55, .int .u64 r56, .int .u64 r57, .int .i64 r58] fun w62 =>
   LdL w62 (Addr.mk w5.heap.size 0 none) 0 [.i .i64, .i .i64] fun (t63 : Int) (t64 : Int) =>
   C.slots_Nodes_Take r1 t63 t64 (fun r65 r66 r67 r68 r69 r70 r71 w72 =>
   Al w72 (.cells #[.int .i64 (0 : Int), .int .i64 (0 : Int), .int .i64 (0 : Int), .int .u64 (0 : Int), .int .u64 (0 : Int), .int .i64 (0 : Int)] 38) fun w73 =>
   StL w73 (Addr.mk w72.heap.size 0 none) 0 [.int .i64 r65, .int .i64 r66, .int .i64 r67, .int .u64 r68, .int .u64 r69, .int .i64 r70] fun w74 =>
   C.slots_Nodes_Drop r1 (0 : Int) (fun r75 w76 =>
   LdL w76 (Addr.mk w6.heap.size 0 none) 0 [.i .i64, .i .i64] fun (t77 : Int) (t78 : Int) =>
   C.slots_Nodes_Get r1 t77 t78 (fun r79 r80 r81 r82 r83 r84 r85 w86 =>
   Al w86 (.cells #[.int .i64 (0 : Int), .int .i64 (0 : Int), .int .i64 (0 : Int), .int .u64 (0 : Int), .int .u64 (0 : Int), .int .i64 (0 : Int)] 38) fun w87 =>
   StL w87 (Addr.mk w86.heap.size 0 none) 0 [.int .i64 r79, .int .i64 r80, .int .i64 r81, .int .u64 r82, .int .u64 r83, .int .i64 r84] fun w88 =>
   C.slots_Nodes_Size r1 (0 : Int) (fun r89 r90 w91 =>
   Dr w91 fun w92 =>
   bif r3 == (0 : Int) then
    (bif r4 == (0 : Int) then
    (bif b11 == (0 : Int) then
    (bif r17 == (0 : Int) then
    (LdL w92 (Addr.mk w28.heap.size 0 none) 0 [.i .i64, .i .i64, .i .i64, .i .u64, .i .u64, .i .i64] fun (t93 : Int) (t94 : Int) (t95 : Int) (t96 : Int) (t97 : Int) (t98 : Int) =>
   ∃ eq99 : Bool, EqB Try.prog .eql 38 (.tmp 99) (.tmp 100) (.agg #[.int .i64 t93, .int .i64 t94, .int .i64 t95, .int .u64 t96, .int .u64 t97, .int .i64 t98]) (.agg #[.int .i64 (0 : Int), .int .i64 (0 : Int), .int .i64 (0 : Int), .int .u64 (0 : Int), .int .u64 (0 : Int), .int .i64 (0 : Int)]) eq99 ∧
   bif eq99 then
    (bif r27 == (0 : Int) then
    ((LdL w92 (Addr.mk w40.heap.size 0 none) 0 [.i .i64, .i .i64, .i .i64, .i .u64, .i .u64, .i .i64] fun (t100 : Int) (t101 : Int) (t102 : Int) (t103 : Int) (t104 : Int) (t105 : Int) =>
   (C.law05_thread  (fun r106 r107 r108 r109 r110 r111 w112 =>
   ∃ eq113 : Bool, EqB Try.prog .eql 38 (.tmp 108) (.tmp 109) (.agg #[.int .i64 t100, .int .i64 t101, .int .i64 t102, .int .u64 t103, .int .u64 t104, .int .i64 t105]) (.agg #[.int .i64 r106, .int .i64 r107, .int .i64 r108, .int .u64 r109, .int .u64 r110, .int .i64 r111]) eq113 ∧
   bif eq113 then
    (bif r39 == (0 : Int) then
    (bif r43 == (51 : Int) then
    (bif r49 == (0 : Int) then
    ((LdL w112 (Addr.mk w60.heap.size 0 none) 0 [.i .i64, .i .i64, .i .i64, .i .u64, .i .u64, .i .i64] fun (t114 : Int) (t115 : Int) (t116 : Int) (t117 : Int) (t118 : Int) (t119 : Int) =>
   (C.law05_thread  (fun r120 r121 r122 r123 r124 r125 w126 =>
   ∃ eq127 : Bool, EqB Try.prog .eql 38 (.tmp 125) (.tmp 126) (.agg #[.int .i64 t114, .int .i64 t115, .int .i64 t116, .int .u64 t117, .int .u64 t118, .int .i64 t119]) (.agg #[.int .i64 r120, .int .i64 r121, .int .i64 r122, .int .u64 r123, .int .u64 r124, .int .i64 r125]) eq127 ∧
   bif eq127 then
    (bif r59 == (0 : Int) then
    (bif r71 == (52 : Int) then
    (bif r75 == (0 : Int) then
    (bif r85 == (50 : Int) then
    (K (!r90) w126)
   else
    (K false w126))
   else
    (K false w126))
   else
    (K false w126))
   else
    (K false w126))
   else
    (K false w126)) w112) ∧
   True) ∧
   (C.law05_thread  (fun r128 r129 r130 r131 r132 r133 w134 =>
   LdL w134 (Addr.mk w60.heap.size 0 none) 0 [.i .i64, .i .i64, .i .i64, .i .u64, .i .u64, .i .i64] fun (t135 : Int) (t136 : Int) (t137 : Int) (t138 : Int) (t139 : Int) (t140 : Int) =>
   ∃ eq141 : Bool, EqB Try.prog .eql 38 (.tmp 125) (.tmp 126) (.agg #[.int .i64 t135, .int .i64 t136, .int .i64 t137, .int .u64 t138, .int .u64 t139, .int .i64 t140]) (.agg #[.int .i64 r128, .int .i64 r129, .int .i64 r130, .int .u64 r131, .int .u64 r132, .int .i64 r133]) eq141 ∧
   bif eq141 then
    (bif r59 == (0 : Int) then
    (bif r71 == (52 : Int) then
    (bif r75 == (0 : Int) then
    (bif r85 == (50 : Int) then
    (K (!r90) w134)
   else
    (K false w134))
   else
    (K false w134))
   else
    (K false w134))
   else
    (K false w134))
   else
    (K false w134)) w112) ∧
   True)
   else
    (((K false w112) ∧
   True) ∧
   (K false w112) ∧
   True))
   else
    (((K false w112) ∧
   True) ∧
   (K false w112) ∧
   True))
   else
    (((K false w112) ∧
   True) ∧
   (K false w112) ∧
   True))
   else
    (((K false w112) ∧
   True) ∧
   (K false w112) ∧
   True)) w92) ∧
   True) ∧
   (C.law05_thread  (fun r142 r143 r144 r145 r146 r147 w148 =>
   LdL w148 (Addr.mk w40.heap.size 0 none) 0 [.i .i64, .i .i64, .i .i64, .i .u64, .i .u64, .i .i64] fun (t149 : Int) (t150 : Int) (t151 : Int) (t152 : Int) (t153 : Int) (t154 : Int) =>
   ∃ eq155 : Bool, EqB Try.prog .eql 38 (.tmp 108) (.tmp 109) (.agg #[.int .i64 t149, .int .i64 t150, .int .i64 t151, .int .u64 t152, .int .u64 t153, .int .i64 t154]) (.agg #[.int .i64 r142, .int .i64 r143, .int .i64 r144, .int .u64 r145, .int .u64 r146, .int .i64 r147]) eq155 ∧
   bif eq155 then
    (bif r39 == (0 : Int) then
    (bif r43 == (51 : Int) then
    (bif r49 == (0 : Int) then
    ((LdL w148 (Addr.mk w60.heap.size 0 none) 0 [.i .i64, .i .i64, .i .i64, .i .u64, .i .u64, .i .i64] fun (t156 : Int) (t157 : Int) (t158 : Int) (t159 : Int) (t160 : Int) (t161 : Int) =>
   (C.law05_thread  (fun r162 r163 r164 r165 r166 r167 w168 =>
   ∃ eq169 : Bool, EqB Try.prog .eql 38 (.tmp 125) (.tmp 126) (.agg #[.int .i64 t156, .int .i64 t157, .int .i64 t158, .int .u64 t159, .int .u64 t160, .int .i64 t161]) (.agg #[.int .i64 r162, .int .i64 r163, .int .i64 r164, .int .u64 r165, .int .u64 r166, .int .i64 r167]) eq169 ∧
   bif eq169 then
    (bif r59 == (0 : Int) then
    (bif r71 == (52 : Int) then
    (bif r75 == (0 : Int) then
    (bif r85 == (50 : Int) then
    (K (!r90) w168)
   else
    (K false w168))
   else
    (K false w168))
   else
    (K false w168))
   else
    (K false w168))
   else
    (K false w168)) w148) ∧
   True) ∧
   (C.law05_thread  (fun r170 r171 r172 r173 r174 r175 w176 =>
   LdL w176 (Addr.mk w60.heap.size 0 none) 0 [.i .i64, .i .i64, .i .i64, .i .u64, .i .u64, .i .i64] fun (t177 : Int) (t178 : Int) (t179 : Int) (t180 : Int) (t181 : Int) (t182 : Int) =>
   ∃ eq183 : Bool, EqB Try.prog .eql 38 (.tmp 125) (.tmp 126) (.agg #[.int .i64 t177, .int .i64 t178, .int .i64 t179, .int .u64 t180, .int .u64 t181, .int .i64 t182]) (.agg #[.int .i64 r170, .int .i64 r171, .int .i64 r172, .int .u64 r173, .int .u64 r174, .int .i64 r175]) eq183 ∧
   bif eq183 then
    (bif r59 == (0 : Int) then
    (bif r71 == (52 : Int) then
    (bif r75 == (0 : Int) then
    (bif r85 == (50 : Int) then
    (K (!r90) w176)
   else
    (K false w176))
   else
    (K false w176))
   else
    (K false w176))
   else
    (K false w176))
   else
    (K false w176)) w148) ∧
   True)
   else
    (((K false w148) ∧
   True) ∧
   (K false w148) ∧
   True))
   else
    (((K false w148) ∧
   True) ∧
   (K false w148) ∧
   True))
   else
    (((K false w148) ∧
   True) ∧
   (K false w148) ∧
   True))
   else
    (((K false w148) ∧
   True) ∧
   (K false w148) ∧
   True)) w92) ∧
   True)
   else
    (((((K false w92) ∧
   True) ∧
   (K false w92) ∧
   True) ∧
   True) ∧
   (((K false w92) ∧
   True) ∧
   (K false w92) ∧
   True) ∧
   True))
   else
    (((((K false w92) ∧
   True) ∧
   (K false w92) ∧
   True) ∧
   True) ∧
   (((K false w92) ∧
   True) ∧
   (K false w92) ∧
   True) ∧
   True))
   else
    (((((K false w92) ∧
   True) ∧
   (K false w92) ∧
   True) ∧
   True) ∧
   (((K false w92) ∧
   True) ∧
   (K false w92) ∧
   True) ∧
   True))
   else
    (((((K false w92) ∧
   True) ∧
   (K false w92) ∧
   True) ∧
   True) ∧
   (((K false w92) ∧
   True) ∧
   (K false w92) ∧
   True) ∧
   True))
   else
    (((((K false w92) ∧
   True) ∧
   (K false w92) ∧
   True) ∧
   True) ∧
   (((K false w92) ∧
   True) ∧
   (K false w92) ∧
   True) ∧
   True))
   else
    (((((K false w92) ∧
   True) ∧
   (K false w92) ∧
   True) ∧
   True) ∧
   (((K false w92) ∧
   True) ∧
   (K false w92) ∧
   True) ∧
   True)) w88) w76) w74) w62) w50) w44) w42) w30) w18) w12) → k10 b11 w12) →
   (Dr w9 fun w184 =>
   (LdL w184 (Addr.mk w5.heap.size 0 none) 0 [.i .i64, .i .i64] fun (t185 : Int) (t186 : Int) =>
   (C.law05_thread  (fun r187 r188 r189 r190 r191 r192 w193 =>
   (C.slots_Nodes_Put r1 t185 t186 r187 r188 r189 r190 r191 r192 (fun r194 w195 =>
   k10 r194 w195) w193) ∧
   True) w184) ∧
   True) ∧
   (C.law05_thread  (fun r196 r197 r198 r199 r200 r201 w202 =>
   LdL w202 (Addr.mk w5.heap.size 0 none) 0 [.i .i64, .i .i64] fun (t203 : Int) (t204 : Int) =>
   (C.slots_Nodes_Put r1 t203 t204 r196 r197 r198 r199 r200 r201 (fun r205 w206 =>
   k10 r205 w206) w202) ∧
   True) w184) ∧
   True)) w2)) w
set_option maxRecDepth 100000 in
theorem S.law05_fixed_ok (K : Bool → World → Prop) (w : World) (h : S.law05_fixed  K w) : C.law05_fixed  K w := by
  have e : fnV Try.prog Try.f22 (bodyOf Try.f22) (.t none (.u) (.t none (.u) (.t none (.t none (.u) (.t none (.t none (.u) (.u)) (.u))) (.t none (.u) (.t none (.u) (.t none (.r (some [(6, .c (.i .i64))]) (.one 0 6 (.alt 1 (.alt 2 (.alt 3 (.one 4 0 (.done)) (.none)) (.none)) (.alt 2 (.one 1 0 (.alt 3 (.one 4 0 (.done)) (.none))) (.none))))) (.t none (.u) (.t none (.u) (.t none (.u) (.t none (.u) (.t none (.u) (.t none (.u) (.t none (.u) (.t none (.u) (.t none (.u) (.t none (.u) (.t none (.r none (.one 0 0 (.one 1 0 (.one 2 0 (.one 3 0 (.one 4 0 (.one 5 0 (.one 6 0 (.one 7 0 (.one 8 0 (.one 9 0 (.one 10 0 (.one 11 0 (.one 12 0 (.one 13 0 (.one 14 0 (.one 15 65536 (.one 16 0 (.one 17 0 (.one 18 0 (.one 19 0 (.one 20 0 (.one 21 0 (.one 22 0 (.one 23 0 (.alt 24 (.alt 25 (.one 26 0 (.one 27 0 (.one 28 0 (.one 29 0 (.one 30 0 (.one 31 0 (.one 32 0 (.one 33 0 (.one 34 0 (.one 35 0 (.one 36 0 (.one 37 0 (.one 38 0 (.one 39 0 (.one 40 0 (.alt 41 (.alt 42 (.one 43 0 (.one 44 0 (.one 45 0 (.one 46 0 (.one 47 0 (.one 48 0 (.one 49 0 (.one 50 0 (.one 51 0 (.one 52 0 (.one 53 0 (.one 54 0 (.one 55 0 (.one 56 0 (.one 57 0 (.one 58 0 (.one 59 0 (.one 60 0 (.one 61 0 (.one 62 0 (.one 63 0 (.one 64 0 (.one 65 0 (.done)))))))))))))))))))))))) (.none)) (.alt 42 (.one 41 0 (.one 43 0 (.one 44 0 (.one 45 0 (.one 46 0 (.one 47 0 (.one 48 0 (.one 49 0 (.one 50 0 (.one 51 0 (.one 52 0 (.one 53 0 (.one 54 0 (.one 55 0 (.one 56 0 (.one 57 0 (.one 58 0 (.one 59 0 (.one 60 0 (.one 61 0 (.one 62 0 (.one 63 0 (.one 64 0 (.one 65 0 (.done))))))))))))))))))))))))) (.none)))))))))))))))))) (.none)) (.alt 25 (.one 24 0 (.one 26 0 (.one 27 0 (.one 28 0 (.one 29 0 (.one 30 0 (.one 31 0 (.one 32 0 (.one 33 0 (.one 34 0 (.one 35 0 (.one 36 0 (.one 37 0 (.one 38 0 (.one 39 0 (.one 40 0 (.alt 41 (.alt 42 (.one 43 0 (.one 44 0 (.one 45 0 (.one 46 0 (.one 47 0 (.one 48 0 (.one 49 0 (.one 50 0 (.one 51 0 (.one 52 0 (.one 53 0 (.one 54 0 (.one 55 0 (.one 56 0 (.one 57 0 (.one 58 0 (.one 59 0 (.one 60 0 (.one 61 0 (.one 62 0 (.one 63 0 (.one 64 0 (.one 65 0 (.done)))))))))))))))))))))))) (.none)) (.alt 42 (.one 41 0 (.one 43 0 (.one 44 0 (.one 45 0 (.one 46 0 (.one 47 0 (.one 48 0 (.one 49 0 (.one 50 0 (.one 51 0 (.one 52 0 (.one 53 0 (.one 54 0 (.one 55 0 (.one 56 0 (.one 57 0 (.one 58 0 (.one 59 0 (.one 60 0 (.one 61 0 (.one 62 0 (.one 63 0 (.one 64 0 (.one 65 0 (.done))))))))))))))))))))))))) (.none))))))))))))))))))) (.none)))))))))))))))))))))))))))) (.u)))))))))))))))))) [(0, .c (.b))] [] K w = S.law05_fixed  K w := by kernel_rfl
  exact okF_mk Try.func22 rfl (fn_sound names_ok follows_ok Try.func22 rfl (by kernel_rfl) (Eq.mpr e h))

/-- buttress/buttresslaw05.two -/
def S.law05_two (K : Option Addr → World → Prop) (w : World) : Prop :=
  C.slots_New  (fun r1 w2 =>
   bif r1.isNone then
    (K none w2)
   else
    (C.slots_Nodes_Make r1 (2 : Int) (fun r3 r4 w5 =>
   C.slots_Nodes_Make r1 (2 : Int) (fun r6 r7 w8 =>
   K r1 w8) w5) w2)) w
set_option maxRecDepth 100000 in
theorem S.law05_two_ok (K : Option Addr → World → Prop) (w : World) (h : S.law05_two  K w) : C.law05_two  K w := by
  have e : fnV Try.prog Try.f37 (bodyOf Try.f37) (.t none (.u) (.t none (.u) (.t none (.t none (.u) (.t none (.t none (.u) (.u)) (.u))) (.t none (.u) (.t none (.u) (.t none (.u) (.u))))))) [(0, .c (.p))] [] K w = S.law05_two  K w := by kernel_rfl
  exact okF_mk Try.func37 rfl (fn_sound names_ok follows_ok Try.func37 rfl (by kernel_rfl) (Eq.mpr e h))

/-- buttress/buttresslaw05.thread -/
def S.law05_thread (K : Int → Int → Int → Int → Int → Int → World → Prop) (w : World) : Prop :=
  Al w (.cells #[.int .i64 (0 : Int), .int .i64 (0 : Int), .int .i64 (0 : Int), .int .u64 (0 : Int), .int .u64 (0 : Int), .int .i64 (0 : Int)] 38) fun w1 =>
   StL w1 (Addr.mk w.heap.size 0 none) 0 [.int .i64 (3 : Int), .int .i64 (1 : Int), .int .i64 (7 : Int), .int .u64 (0 : Int), .int .u64 (0 : Int), .int .i64 (0 : Int)] fun w2 =>
   LdL w2 (Addr.mk w.heap.size 0 none) 0 [.i .i64, .i .i64, .i .i64, .i .u64, .i .u64, .i .i64] fun (r3 : Int) (r4 : Int) (r5 : Int) (r6 : Int) (r7 : Int) (r8 : Int) =>
   K r3 r4 r5 r6 r7 r8 w2
set_option maxRecDepth 100000 in
theorem S.law05_thread_ok (K : Int → Int → Int → Int → Int → Int → World → Prop) (w : World) (h : S.law05_thread  K w) : C.law05_thread  K w := by
  have e : fnV Try.prog Try.f39 (bodyOf Try.f39) (.t none (.u) (.t none (.u) (.u))) [(0, .a [.i .i64, .i .i64, .i .i64, .i .u64, .i .u64, .i .i64])] [] K w = S.law05_thread  K w := by kernel_rfl
  exact okF_mk Try.func39 rfl (fn_sound names_ok follows_ok Try.func39 rfl (by kernel_rfl) (Eq.mpr e h))

/-- buttress/buttresslaw05.same -/
def S.law05_same (n1 : Option Addr) (k2 : Option Addr) (o3 : Int) (o4 : Int) (o5 : Int) (o6 : Int) (o7 : Int) (o8 : Int) (o9 : Int) (o10 : Int) (o11 : Int) (o12 : Int) (o13 : Int) (o14 : Int) (K : Bool → World → Prop) (w : World) : Prop :=
  Al w (.cells #[.int .i64 o3, .int .i64 o4, .int .i64 o5, .int .i64 o6, .int .i64 o7, .int .i64 o8, .int .i64 o9, .int .i64 o10, .int .i64 o11, .int .u64 o12, .int .u64 o13, .int .i64 o14] 62) fun w15 =>
   ∃ kind16 : Int, w15.cell? (Addr.mk w.heap.size 0 none) = some (.int .i64 kind16) ∧
   bif kind16 == (0 : Int) then
    (∃ n17 : Int, w15.cell? ((Addr.mk w.heap.size 0 none).add 1) = some (.int .i64 n17) ∧
   C.slots_Nodes_Make n1 n17 (fun r18 r19 w20 =>
   ∃ n21 : Int, w20.cell? ((Addr.mk w.heap.size 0 none).add 1) = some (.int .i64 n21) ∧
   C.ref05_Nodes_Make k2 n21 (fun r22 r23 w24 =>
   bif r18 == r22 then
    (K (r19 == r23) w24)
   else
    (K false w24)) w20) w15)
   else
    (bif kind16 == (1 : Int) then
    (∃ n25 : Int, w15.cell? ((Addr.mk w.heap.size 0 none).add 1) = some (.int .i64 n25) ∧
   C.slots_Nodes_Drop n1 n25 (fun r26 w27 =>
   ∃ n28 : Int, w27.cell? ((Addr.mk w.heap.size 0 none).add 1) = some (.int .i64 n28) ∧
   C.ref05_Nodes_Drop k2 n28 (fun r29 w30 =>
   K (r26 == r29) w30) w27) w15)
   else
    (bif kind16 == (2 : Int) then
    (LdL w15 ((Addr.mk w.heap.size 0 none).add 2) 0 [.i .i64, .i .i64] fun (a31 : Int) (a32 : Int) =>
   LdL w15 ((Addr.mk w.heap.size 0 none).add 6) 0 [.i .i64, .i .i64, .i .i64, .i .u64, .i .u64, .i .i64] fun (c33 : Int) (c34 : Int) (c35 : Int) (c36 : Int) (c37 : Int) (c38 : Int) =>
   C.slots_Nodes_Put n1 a31 a32 c33 c34 c35 c36 c37 c38 (fun r39 w40 =>
   LdL w40 ((Addr.mk w.heap.size 0 none).add 2) 0 [.i .i64, .i .i64] fun (a41 : Int) (a42 : Int) =>
   LdL w40 ((Addr.mk w.heap.size 0 none).add 6) 0 [.i .i64, .i .i64, .i .i64, .i .u64, .i .u64, .i .i64] fun (c43 : Int) (c44 : Int) (c45 : Int) (c46 : Int) (c47 : Int) (c48 : Int) =>
   C.ref05_Nodes_Put k2 a41 a42 c43 c44 c45 c46 c47 c48 (fun r49 w50 =>
   K (r39 == r49) w50) w40) w15)
   else
    (bif kind16 == (3 : Int) then
    (LdL w15 ((Addr.mk w.heap.size 0 none).add 2) 0 [.i .i64, .i .i64] fun (a51 : Int) (a52 : Int) =>
   C.slots_Nodes_Take n1 a51 a52 (fun r53 r54 r55 r56 r57 r58 r59 w60 =>
   Al w60 (.cells #[.int .i64 (0 : Int), .int .i64 (0 : Int), .int .i64 (0 : Int), .int .u64 (0 : Int), .int .u64 (0 : Int), .int .i64 (0 : Int)] 38) fun w61 =>
   StL w61 (Addr.mk w60.heap.size 0 none) 0 [.int .i64 r53, .int .i64 r54, .int .i64 r55, .int .u64 r56, .int .u64 r57, .int .i64 r58] fun w62 =>
   LdL w62 ((Addr.mk w.heap.size 0 none).add 2) 0 [.i .i64, .i .i64] fun (a63 : Int) (a64 : Int) =>
   C.ref05_Nodes_Take k2 a63 a64 (fun r65 r66 r67 r68 r69 r70 r71 w72 =>
   Al w72 (.cells #[.int .i64 (0 : Int), .int .i64 (0 : Int), .int .i64 (0 : Int), .int .u64 (0 : Int), .int .u64 (0 : Int), .int .i64 (0 : Int)] 38) fun w73 =>
   StL w73 (Addr.mk w72.heap.size 0 none) 0 [.int .i64 r65, .int .i64 r66, .int .i64 r67, .int .u64 r68, .int .u64 r69, .int .i64 r70] fun w74 =>
   LdL w74 (Addr.mk w60.heap.size 0 none) 0 [.i .i64, .i .i64, .i .i64, .i .u64, .i .u64, .i .i64] fun (t75 : Int) (t76 : Int) (t77 : Int) (t78 : Int) (t79 : Int) (t80 : Int) =>
   LdL w74 (Addr.mk w72.heap.size 0 none) 0 [.i .i64, .i .i64, .i .i64, .i .u64, .i .u64, .i .i64] fun (t81 : Int) (t82 : Int) (t83 : Int) (t84 : Int) (t85 : Int) (t86 : Int) =>
   ∃ eq87 : Bool, EqB Try.prog .eql 38 (.tmp 89) (.tmp 90) (.agg #[.int .i64 t75, .int .i64 t76, .int .i64 t77, .int .u64 t78, .int .u64 t79, .int .i64 t80]) (.agg #[.int .i64 t81, .int .i64 t82, .int .i64 t83, .int .u64 t84, .int .u64 t85, .int .i64 t86]) eq87 ∧
   bif eq87 then
    (K (r59 == r71) w74)
   else
    (K false w74)) w62) w15)
   else
    (bif kind16 == (4 : Int) then
    (LdL w15 ((Addr.mk w.heap.size 0 none).add 2) 0 [.i .i64, .i .i64] fun (a88 : Int) (a89 : Int) =>
   LdL w15 ((Addr.mk w.heap.size 0 none).add 4) 0 [.i .i64, .i .i64] fun (b90 : Int) (b91 : Int) =>
   C.slots_Nodes_Move n1 a88 a89 b90 b91 (fun r92 w93 =>
   LdL w93 ((Addr.mk w.heap.size 0 none).add 2) 0 [.i .i64, .i .i64] fun (a94 : Int) (a95 : Int) =>
   LdL w93 ((Addr.mk w.heap.size 0 none).add 4) 0 [.i .i64, .i .i64] fun (b96 : Int) (b97 : Int) =>
   C.ref05_Nodes_Move k2 a94 a95 b96 b97 (fun r98 w99 =>
   K (r92 == r98) w99) w93) w15)
   else
    (bif kind16 == (5 : Int) then
    (LdL w15 ((Addr.mk w.heap.size 0 none).add 2) 0 [.i .i64, .i .i64] fun (a100 : Int) (a101 : Int) =>
   LdL w15 ((Addr.mk w.heap.size 0 none).add 4) 0 [.i .i64, .i .i64] fun (b102 : Int) (b103 : Int) =>
   C.slots_Nodes_Swap n1 a100 a101 b102 b103 (fun r104 w105 =>
   LdL w105 ((Addr.mk w.heap.size 0 none).add 2) 0 [.i .i64, .i .i64] fun (a106 : Int) (a107 : Int) =>
   LdL w105 ((Addr.mk w.heap.size 0 none).add 4) 0 [.i .i64, .i .i64] fun (b108 : Int) (b109 : Int) =>
   C.ref05_Nodes_Swap k2 a106 a107 b108 b109 (fun r110 w111 =>
   K (r104 == r110) w111) w105) w15)
   else
    (K true w15))))))
set_option maxRecDepth 100000 in
theorem S.law05_same_ok (n1 : Option Addr) (k2 : Option Addr) (o3 : Int) (o4 : Int) (o5 : Int) (o6 : Int) (o7 : Int) (o8 : Int) (o9 : Int) (o10 : Int) (o11 : Int) (o12 : Int) (o13 : Int) (o14 : Int) (K : Bool → World → Prop) (w : World) (h : S.law05_same n1 k2 o3 o4 o5 o6 o7 o8 o9 o10 o11 o12 o13 o14 K w) : C.law05_same n1 k2 o3 o4 o5 o6 o7 o8 o9 o10 o11 o12 o13 o14 K w := by
  have e : fnV Try.prog Try.f41 (bodyOf Try.f41) (.t none (.u) (.t none (.t none (.u) (.t none (.t none (.u) (.t none (.t none (.u) (.t none (.u) (.t none (.u) (.u)))) (.t none (.u) (.t none (.t none (.u) (.t none (.u) (.u))) (.t none (.u) (.t none (.t none (.u) (.t none (.u) (.u))) (.t none (.u) (.t none (.t none (.u) (.t none (.u) (.t none (.u) (.u)))) (.t none (.u) (.t none (.t none (.u) (.t none (.u) (.u))) (.t none (.u) (.t none (.t none (.u) (.t none (.u) (.u))) (.u))))))))))))) (.u))) (.t none (.u) (.u)))) [(0, .c (.b))] [.pointer n1, .pointer k2, .agg #[.int .i64 o3, .int .i64 o4, .int .i64 o5, .int .i64 o6, .int .i64 o7, .int .i64 o8, .int .i64 o9, .int .i64 o10, .int .i64 o11, .int .u64 o12, .int .u64 o13, .int .i64 o14]] K w = S.law05_same n1 k2 o3 o4 o5 o6 o7 o8 o9 o10 o11 o12 o13 o14 K w := by kernel_rfl
  exact okF_mk Try.func41 rfl (fn_sound names_ok follows_ok Try.func41 rfl (by kernel_rfl) (Eq.mpr e h))
end Go.Proofs.Ytdlcejjiccknlaa
