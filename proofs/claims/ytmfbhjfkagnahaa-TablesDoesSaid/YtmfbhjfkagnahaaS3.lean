/- The functions' texts, and that a call comes to them. Printed by a program of mine (gen.py). -/
import Derived.Test.YtmfbhjfkagnahaaC
set_option linter.unusedVariables false
namespace Go.Proofs.Ytmfbhjfkagnahaa
open Go Go.Vc Go.Proofs

/-- buttress/buttressref09.Nums -/
def S.ref09_Nums (a1 : Sl) (b2 : Sl) (K : Bool → World → Prop) (w : World) : Prop :=
  bif (a1.len : Int) != (b2.len : Int) then
    (K false w)
   else
    (∀ l3 : Int → World → Prop,
   (∀ (i4 : Int) (w5 : World), (bif decide (i4 < (a1.len : Int)) then
    (Dr w5 fun w6 =>
   ∃ a7 : Addr, a1.a = some a7 ∧ 0 ≤ i4 ∧ i4 < (a1.len : Int) ∧
   ∃ t8 : Int, w6.cell? (a7.add (i4.toNat * 1)) = some (.int .i64 t8) ∧
   ∃ a9 : Addr, b2.a = some a9 ∧ 0 ≤ i4 ∧ i4 < (b2.len : Int) ∧
   ∃ t10 : Int, w6.cell? (a9.add (i4.toNat * 1)) = some (.int .i64 t10) ∧
   bif t8 != t10 then
    (K false w6)
   else
    (l3 (IntKind.i64.wrap (i4 + (1 : Int))) w6))
   else
    (K true w5)) → l3 i4 w5) →
   l3 (0 : Int) w)
set_option maxRecDepth 100000 in
theorem S.ref09_Nums_ok (a1 : Sl) (b2 : Sl) (K : Bool → World → Prop) (w : World) (h : S.ref09_Nums a1 b2 K w) : C.ref09_Nums a1 b2 K w := by
  have e : fnV Try.prog Try.f54 (bodyOf Try.f54) (.t none (.u) (.t none (.t none (.u) (.t none (.t none (.u) (.u)) (.u))) (.t none (.t none (.u) (.t none (.t (some [(5, .c (.i .i64))]) (.t none (.t none (.u) (.t none (.u) (.u))) (.t none (.t none (.t none (.r none (.one 0 242 (.one 1 240 (.one 2 240 (.one 3 240 (.one 4 32 (.one 5 0 (.one 6 0 (.one 7 0 (.one 8 0 (.done))))))))))) (.t none (.t none (.u) (.u)) (.u))) (.u)) (.u))) (.u)) (.u))) (.t none (.u) (.u))))) [(0, .c (.b))] [.slice a1.a a1.len a1.cap, .slice b2.a b2.len b2.cap] K w = S.ref09_Nums a1 b2 K w := by kernel_rfl
  exact okF_mk Try.func54 rfl (fn_sound names_ok follows_ok Try.func54 rfl (by kernel_rfl) (Eq.mpr e h))

/-- buttress/buttressref14.Same -/
def S.ref14_Same (a1 : Sl) (b2 : Sl) (K : Bool → World → Prop) (w : World) : Prop :=
  bif (a1.len : Int) != (b2.len : Int) then
    (K false w)
   else
    (∀ l3 : Int → World → Prop,
   (∀ (i4 : Int) (w5 : World), (bif decide (i4 < (a1.len : Int)) then
    (Dr w5 fun w6 =>
   ∃ a7 : Addr, a1.a = some a7 ∧ 0 ≤ i4 ∧ i4 < (a1.len : Int) ∧
   LdL w6 (a7.add (i4.toNat * 3)) 0 [.i .i64, .i .i64, .i .i64] fun (t8 : Int) (t9 : Int) (t10 : Int) =>
   ∃ a11 : Addr, b2.a = some a11 ∧ 0 ≤ i4 ∧ i4 < (b2.len : Int) ∧
   LdL w6 (a11.add (i4.toNat * 3)) 0 [.i .i64, .i .i64, .i .i64] fun (t12 : Int) (t13 : Int) (t14 : Int) =>
   ∃ eq15 : Bool, EqB Try.prog .neq 67 (.tmp 20) (.tmp 24) (.agg #[.int .i64 t8, .int .i64 t9, .int .i64 t10]) (.agg #[.int .i64 t12, .int .i64 t13, .int .i64 t14]) eq15 ∧
   bif eq15 then
    (K false w6)
   else
    (l3 (IntKind.i64.wrap (i4 + (1 : Int))) w6))
   else
    (K true w5)) → l3 i4 w5) →
   l3 (0 : Int) w)
set_option maxRecDepth 100000 in
theorem S.ref14_Same_ok (a1 : Sl) (b2 : Sl) (K : Bool → World → Prop) (w : World) (h : S.ref14_Same a1 b2 K w) : C.ref14_Same a1 b2 K w := by
  have e : fnV Try.prog Try.f43 (bodyOf Try.f43) (.t none (.u) (.t none (.t none (.u) (.t none (.t none (.u) (.u)) (.u))) (.t none (.t none (.u) (.t none (.t (some [(5, .c (.i .i64))]) (.t none (.t none (.u) (.t none (.u) (.u))) (.t none (.t none (.t none (.r none (.one 0 242 (.one 1 240 (.one 2 240 (.one 3 240 (.one 4 32 (.one 5 0 (.one 6 0 (.one 7 0 (.one 8 0 (.done))))))))))) (.t none (.t none (.u) (.u)) (.u))) (.u)) (.u))) (.u)) (.u))) (.t none (.u) (.u))))) [(0, .c (.b))] [.slice a1.a a1.len a1.cap, .slice b2.a b2.len b2.cap] K w = S.ref14_Same a1 b2 K w := by kernel_rfl
  exact okF_mk Try.func43 rfl (fn_sound names_ok follows_ok Try.func43 rfl (by kernel_rfl) (Eq.mpr e h))

/-- (*buttress/buttressref14.Space).Table -/
def S.ref14_Space_Table (s1 : Option Addr) (i2 : Int) (n3 : Int) (K : Int → World → Prop) (w : World) : Prop :=
  ∀ k4 : Bool → World → Prop,
   (∀ (t5 : Bool) (w6 : World), (bif t5 then
    (K (1 : Int) w6)
   else
    (∀ l7 : Int → World → Prop,
   (∀ (k8 : Int) (w9 : World), (∃ a10 : Addr, s1 = some a10 ∧
   ∃ t11 : Sl, w9.cell? a10 = some (.slice t11.a t11.len t11.cap) ∧
   bif decide (k8 < (t11.len : Int)) then
    (∀ k12 : Bool → World → Prop,
   (∀ (t13 : Bool) (w14 : World), (bif t13 then
    (K (140 : Int) w14)
   else
    (l7 (IntKind.i64.wrap (k8 + (1 : Int))) w14)) → k12 t13 w14) →
   (∃ a15 : Addr, s1 = some a15 ∧
   ∃ t16 : Sl, w9.cell? a15 = some (.slice t16.a t16.len t16.cap) ∧
   ∃ a17 : Addr, t16.a = some a17 ∧ 0 ≤ k8 ∧ k8 < (t16.len : Int) ∧
   ∃ i18 : Int, w9.cell? (a17.add (k8.toNat * 2)) = some (.int .i64 i18) ∧
   bif i18 == i2 then
    (k12 true w9)
   else
    (∃ a19 : Addr, s1 = some a19 ∧
   ∃ t20 : Sl, w9.cell? a19 = some (.slice t20.a t20.len t20.cap) ∧
   ∃ a21 : Addr, t20.a = some a21 ∧ 0 ≤ k8 ∧ k8 < (t20.len : Int) ∧
   ∃ n22 : Int, w9.cell? ((a21.add (k8.toNat * 2)).add 1) = some (.int .i64 n22) ∧
   k12 (n22 == n3) w9)))
   else
    (∃ a23 : Addr, s1 = some a23 ∧
   ∃ t24 : Sl, w9.cell? a23 = some (.slice t24.a t24.len t24.cap) ∧
   Al w9 (.cells #[.int .i64 i2, .int .i64 n3] 107) fun w25 =>
   ∃ (t26 : Sl) (w27 : World), AppR Try.prog [78, 78] 78 (.slice t24.a t24.len t24.cap) (.slice (some (Addr.mk w9.heap.size 0 none)) 1 1) w25 t26 w27 ∧
   ∃ a28 : Addr, s1 = some a28 ∧
   St w27 a28 (.slice t26.a t26.len t26.cap) fun w29 =>
   K (0 : Int) w29)) → l7 k8 w9) →
   l7 (0 : Int) w6)) → k4 t5 w6) →
   (bif decide (i2 < (0 : Int)) then
    (k4 true w)
   else
    (bif decide (i2 > (63 : Int)) then
    (k4 true w)
   else
    (k4 (decide (n3 < (0 : Int))) w)))
set_option maxRecDepth 100000 in
theorem S.ref14_Space_Table_ok (s1 : Option Addr) (i2 : Int) (n3 : Int) (K : Int → World → Prop) (w : World) (h : S.ref14_Space_Table s1 i2 n3 K w) : C.ref14_Space_Table s1 i2 n3 K w := by
  have e : fnV Try.prog Try.f45 (bodyOf Try.f45) (.t none (.u) (.t none (.t none (.r (some [(17, .c (.b))]) .done) (.t none (.t none (.u) (.u)) (.u))) (.t none (.t none (.u) (.t none (.t (some [(7, .c (.i .i64))]) (.t none (.t none (.u) (.t none (.u) (.u))) (.t none (.t none (.t none (.r (some [(48, .c (.b))]) .done) (.t none (.t none (.u) (.u)) (.u))) (.u)) (.u))) (.u)) (.u))) (.t none (.u) (.t none (.u) (.u)))))) [(0, .c (.i .i64))] [.pointer s1, .int .i64 i2, .int .i64 n3] K w = S.ref14_Space_Table s1 i2 n3 K w := by kernel_rfl
  exact okF_mk Try.func45 rfl (fn_sound names_ok follows_ok Try.func45 rfl (by kernel_rfl) (Eq.mpr e h))

/-- (*buttress/buttressref14.Space).Drop -/
def S.ref14_Space_Drop (s1 : Option Addr) (i2 : Int) (K : Sl → Int → World → Prop) (w : World) : Prop :=
  ∀ k3 : Bool → World → Prop,
   (∀ (t4 : Bool) (w5 : World), (bif t4 then
    (K ⟨none, 0, 0⟩ (1 : Int) w5)
   else
    (C.ref14_Space_Has s1 i2 (fun r6 r7 w8 =>
   bif !r7 then
    (K ⟨none, 0, 0⟩ (141 : Int) w8)
   else
    (C.ref14_Space_Pages s1 (fun r9 w10 =>
   Al w10 (.cells #[] 67) fun w11 =>
   Al w11 (.cells #[] 67) fun w12 =>
   Al w12 (.cells #[] 107) fun w13 =>
   ∀ l14 : Sl → Sl → Int → World → Prop,
   (∀ (out15 : Sl) (rest16 : Sl) (k17 : Int) (w18 : World), (bif decide (k17 < (r9.len : Int)) then
    (∃ a19 : Addr, r9.a = some a19 ∧ 0 ≤ k17 ∧ k17 < (r9.len : Int) ∧
   ∃ at20 : Int, w18.cell? (a19.add (k17.toNat * 3)) = some (.int .i64 at20) ∧
   (64 : Int) ≠ 0 ∧
   bif (IntKind.i64.wrap (at20.tdiv (64 : Int))) == i2 then
    (∃ a21 : Addr, r9.a = some a21 ∧ 0 ≤ k17 ∧ k17 < (r9.len : Int) ∧
   LdL w18 (a21.add (k17.toNat * 3)) 0 [.i .i64, .i .i64, .i .i64] fun (t22 : Int) (t23 : Int) (t24 : Int) =>
   Al w18 (.cells #[.int .i64 t22, .int .i64 t23, .int .i64 t24] 67) fun w25 =>
   ∃ (t26 : Sl) (w27 : World), AppR Try.prog [57, 57] 57 (.slice out15.a out15.len out15.cap) (.slice (some (Addr.mk w18.heap.size 0 none)) 1 1) w25 t26 w27 ∧
   l14 t26 rest16 (IntKind.i64.wrap (k17 + (1 : Int))) w27)
   else
    (∃ a28 : Addr, r9.a = some a28 ∧ 0 ≤ k17 ∧ k17 < (r9.len : Int) ∧
   LdL w18 (a28.add (k17.toNat * 3)) 0 [.i .i64, .i .i64, .i .i64] fun (t29 : Int) (t30 : Int) (t31 : Int) =>
   Al w18 (.cells #[.int .i64 t29, .int .i64 t30, .int .i64 t31] 67) fun w32 =>
   ∃ (t33 : Sl) (w34 : World), AppR Try.prog [57, 57] 57 (.slice rest16.a rest16.len rest16.cap) (.slice (some (Addr.mk w18.heap.size 0 none)) 1 1) w32 t33 w34 ∧
   l14 out15 t33 (IntKind.i64.wrap (k17 + (1 : Int))) w34))
   else
    (∀ l35 : Sl → Int → World → Prop,
   (∀ (tabs36 : Sl) (k37 : Int) (w38 : World), (∃ a39 : Addr, s1 = some a39 ∧
   ∃ t40 : Sl, w38.cell? a39 = some (.slice t40.a t40.len t40.cap) ∧
   bif decide (k37 < (t40.len : Int)) then
    (∃ a41 : Addr, s1 = some a41 ∧
   ∃ t42 : Sl, w38.cell? a41 = some (.slice t42.a t42.len t42.cap) ∧
   ∃ a43 : Addr, t42.a = some a43 ∧ 0 ≤ k37 ∧ k37 < (t42.len : Int) ∧
   ∃ i44 : Int, w38.cell? (a43.add (k37.toNat * 2)) = some (.int .i64 i44) ∧
   bif i44 != i2 then
    (∃ a45 : Addr, s1 = some a45 ∧
   ∃ t46 : Sl, w38.cell? a45 = some (.slice t46.a t46.len t46.cap) ∧
   ∃ a47 : Addr, t46.a = some a47 ∧ 0 ≤ k37 ∧ k37 < (t46.len : Int) ∧
   LdL w38 (a47.add (k37.toNat * 2)) 0 [.i .i64, .i .i64] fun (t48 : Int) (t49 : Int) =>
   Al w38 (.cells #[.int .i64 t48, .int .i64 t49] 107) fun w50 =>
   ∃ (t51 : Sl) (w52 : World), AppR Try.prog [78, 78] 78 (.slice tabs36.a tabs36.len tabs36.cap) (.slice (some (Addr.mk w38.heap.size 0 none)) 1 1) w50 t51 w52 ∧
   l35 t51 (IntKind.i64.wrap (k37 + (1 : Int))) w52)
   else
    (l35 tabs36 (IntKind.i64.wrap (k37 + (1 : Int))) w38))
   else
    (∃ a53 : Addr, s1 = some a53 ∧
   St w38 (a53.add 1) (.slice rest16.a rest16.len rest16.cap) fun w54 =>
   ∃ a55 : Addr, s1 = some a55 ∧
   St w54 a55 (.slice tabs36.a tabs36.len tabs36.cap) fun w56 =>
   K out15 (0 : Int) w56)) → l35 tabs36 k37 w38) →
   l35 ⟨some (Addr.mk w12.heap.size 0 none), 0, 0⟩ (0 : Int) w18)) → l14 out15 rest16 k17 w18) →
   l14 ⟨some (Addr.mk w10.heap.size 0 none), 0, 0⟩ ⟨some (Addr.mk w11.heap.size 0 none), 0, 0⟩ (0 : Int) w13) w8)) w5)) → k3 t4 w5) →
   (bif decide (i2 < (0 : Int)) then
    (k3 true w)
   else
    (k3 (decide (i2 > (63 : Int))) w))
set_option maxRecDepth 100000 in
theorem S.ref14_Space_Drop_ok (s1 : Option Addr) (i2 : Int) (K : Sl → Int → World → Prop) (w : World) (h : S.ref14_Space_Drop s1 i2 K w) : C.ref14_Space_Drop s1 i2 K w := by
  have e : fnV Try.prog Try.f46 (bodyOf Try.f46) (.t none (.u) (.t none (.t none (.r (some [(19, .c (.b))]) .done) (.t none (.t none (.u) (.u)) (.u))) (.t none (.u) (.t none (.t none (.u) (.t none (.t none (.u) (.u)) (.u))) (.t none (.u) (.t none (.t none (.u) (.t none (.t (some [(9, .c (.s)), (10, .c (.s)), (12, .c (.i .i64))]) (.t none (.t none (.u) (.t none (.u) (.u))) (.t none (.t none (.t none (.u) (.t none (.u) (.u))) (.u)) (.u))) (.u)) (.u))) (.t none (.t none (.u) (.t none (.t (some [(11, .c (.s)), (13, .c (.i .i64))]) (.t none (.t none (.u) (.t none (.u) (.u))) (.t none (.t none (.t none (.u) (.t none (.u) (.u))) (.u)) (.u))) (.u)) (.u))) (.t none (.u) (.t none (.u) (.t none (.u) (.u))))))))))) [(0, .c (.s)), (1, .c (.i .i64))] [.pointer s1, .int .i64 i2] K w = S.ref14_Space_Drop s1 i2 K w := by kernel_rfl
  exact okF_mk Try.func46 rfl (fn_sound names_ok follows_ok Try.func46 rfl (by kernel_rfl) (Eq.mpr e h))

/-- (*buttress/buttressref14.Space).Map -/
def S.ref14_Space_Map (s1 : Option Addr) (n2 : Int) (p3 : Int) (p4 : Int) (K : Int → World → Prop) (w : World) : Prop :=
  Al w (.cells #[.int .i64 p3, .int .i64 p4] 51) fun w5 =>
   ∀ k6 : Bool → World → Prop,
   (∀ (t7 : Bool) (w8 : World), (bif t7 then
    (K (1 : Int) w8)
   else
    ((64 : Int) ≠ 0 ∧
   C.ref14_Space_Has s1 (IntKind.i64.wrap (n2.tdiv (64 : Int))) (fun r9 r10 w11 =>
   bif !r10 then
    (K (141 : Int) w11)
   else
    (C.ref14_Space_place s1 n2 (fun r12 w13 =>
   bif decide (r12 ≥ (0 : Int)) then
    (K (140 : Int) w13)
   else
    (Dr w13 fun w14 =>
   ∃ a15 : Addr, s1 = some a15 ∧
   ∃ p16 : Sl, w14.cell? (a15.add 1) = some (.slice p16.a p16.len p16.cap) ∧
   LdL w14 (Addr.mk w.heap.size 0 none) 0 [.i .i64, .i .i64] fun (t17 : Int) (t18 : Int) =>
   (Al w14 (.cells #[.int .i64 n2, .int .i64 t17, .int .i64 t18] 67) fun w19 =>
   (∃ (t20 : Sl) (w21 : World), AppR Try.prog [57, 57] 57 (.slice p16.a p16.len p16.cap) (.slice (some (Addr.mk w14.heap.size 0 none)) 1 1) w19 t20 w21 ∧
   ∃ a22 : Addr, s1 = some a22 ∧
   (St w21 (a22.add 1) (.slice t20.a t20.len t20.cap) fun w23 =>
   K (0 : Int) w23) ∧
   True) ∧
   True) ∧
   True)) w11)) w8)) → k6 t7 w8) →
   (bif decide (n2 < (0 : Int)) then
    (k6 true w5)
   else
    (bif decide (n2 > (4095 : Int)) then
    (k6 true w5)
   else
    (∃ frame24 : Int, w5.cell? (Addr.mk w.heap.size 0 none) = some (.int .i64 frame24) ∧
   bif decide (frame24 < (0 : Int)) then
    (k6 true w5)
   else
    (∃ rights25 : Int, w5.cell? ((Addr.mk w.heap.size 0 none).add 1) = some (.int .i64 rights25) ∧
   bif decide (rights25 < (0 : Int)) then
    (k6 true w5)
   else
    (∃ rights26 : Int, w5.cell? ((Addr.mk w.heap.size 0 none).add 1) = some (.int .i64 rights26) ∧
   k6 (decide (rights26 > (7 : Int))) w5)))))
set_option maxRecDepth 100000 in
theorem S.ref14_Space_Map_ok (s1 : Option Addr) (n2 : Int) (p3 : Int) (p4 : Int) (K : Int → World → Prop) (w : World) (h : S.ref14_Space_Map s1 n2 p3 p4 K w) : C.ref14_Space_Map s1 n2 p3 p4 K w := by
  have e : fnV Try.prog Try.f47 (bodyOf Try.f47) (.t none (.u) (.t none (.t none (.r (some [(29, .c (.b))]) .done) (.t none (.t none (.u) (.u)) (.u))) (.t none (.u) (.t none (.t none (.u) (.t none (.t none (.u) (.u)) (.u))) (.t none (.t none (.u) (.t none (.t none (.u) (.u)) (.u))) (.t none (.r none (.one 0 1022 (.one 1 480 (.one 2 480 (.one 3 480 (.one 4 480 (.one 5 64 (.one 6 0 (.one 7 0 (.alt 8 (.alt 9 (.one 10 0 (.one 11 0 (.alt 12 (.done) (.none)))) (.none)) (.none))))))))))) (.t none (.u) (.u)))))))) [(0, .c (.i .i64))] [.pointer s1, .int .i64 n2, .agg #[.int .i64 p3, .int .i64 p4]] K w = S.ref14_Space_Map s1 n2 p3 p4 K w := by kernel_rfl
  exact okF_mk Try.func47 rfl (fn_sound names_ok follows_ok Try.func47 rfl (by kernel_rfl) (Eq.mpr e h))

/-- (*buttress/buttressref14.Space).Rights -/
def S.ref14_Space_Rights (s1 : Option Addr) (n2 : Int) (r3 : Int) (K : Int → World → Prop) (w : World) : Prop :=
  ∀ k4 : Bool → World → Prop,
   (∀ (t5 : Bool) (w6 : World), (bif t5 then
    (K (1 : Int) w6)
   else
    (C.ref14_Space_place s1 n2 (fun r7 w8 =>
   bif decide (r7 < (0 : Int)) then
    (K (141 : Int) w8)
   else
    (∃ a9 : Addr, s1 = some a9 ∧
   ∃ p10 : Sl, w8.cell? (a9.add 1) = some (.slice p10.a p10.len p10.cap) ∧
   ∃ a11 : Addr, p10.a = some a11 ∧ 0 ≤ r7 ∧ r7 < (p10.len : Int) ∧
   St w8 (((a11.add (r7.toNat * 3)).add 1).add 1) (.int .i64 r3) fun w12 =>
   K (0 : Int) w12)) w6)) → k4 t5 w6) →
   (bif decide (n2 < (0 : Int)) then
    (k4 true w)
   else
    (bif decide (n2 > (4095 : Int)) then
    (k4 true w)
   else
    (bif decide (r3 < (0 : Int)) then
    (k4 true w)
   else
    (k4 (decide (r3 > (7 : Int))) w))))
set_option maxRecDepth 100000 in
theorem S.ref14_Space_Rights_ok (s1 : Option Addr) (n2 : Int) (r3 : Int) (K : Int → World → Prop) (w : World) (h : S.ref14_Space_Rights s1 n2 r3 K w) : C.ref14_Space_Rights s1 n2 r3 K w := by
  have e : fnV Try.prog Try.f48 (bodyOf Try.f48) (.t none (.u) (.t none (.t none (.r (some [(21, .c (.b))]) .done) (.t none (.t none (.u) (.u)) (.u))) (.t none (.u) (.t none (.t none (.u) (.t none (.t none (.u) (.u)) (.u))) (.t none (.u) (.t none (.u) (.u))))))) [(0, .c (.i .i64))] [.pointer s1, .int .i64 n2, .int .i64 r3] K w = S.ref14_Space_Rights s1 n2 r3 K w := by kernel_rfl
  exact okF_mk Try.func48 rfl (fn_sound names_ok follows_ok Try.func48 rfl (by kernel_rfl) (Eq.mpr e h))

/-- (*buttress/buttressref14.Space).Unmap -/
def S.ref14_Space_Unmap (s1 : Option Addr) (n2 : Int) (K : Int → Int → Int → World → Prop) (w : World) : Prop :=
  Al w (.cells #[.int .i64 (0 : Int), .int .i64 (0 : Int)] 51) fun w3 =>
   ∀ k4 : Bool → World → Prop,
   (∀ (t5 : Bool) (w6 : World), (bif t5 then
    (StL w6 (Addr.mk w.heap.size 0 none) 0 [.int .i64 (0 : Int), .int .i64 (0 : Int)] fun w7 =>
   LdL w7 (Addr.mk w.heap.size 0 none) 0 [.i .i64, .i .i64] fun (r8 : Int) (r9 : Int) =>
   K r8 r9 (1 : Int) w7)
   else
    (C.ref14_Space_place s1 n2 (fun r10 w11 =>
   Al w11 (.cells #[] 67) fun w12 =>
   bif decide (r10 < (0 : Int)) then
    (StL w12 (Addr.mk w.heap.size 0 none) 0 [.int .i64 (0 : Int), .int .i64 (0 : Int)] fun w13 =>
   LdL w13 (Addr.mk w.heap.size 0 none) 0 [.i .i64, .i .i64] fun (r14 : Int) (r15 : Int) =>
   K r14 r15 (141 : Int) w13)
   else
    (∃ a16 : Addr, s1 = some a16 ∧
   ∃ p17 : Sl, w12.cell? (a16.add 1) = some (.slice p17.a p17.len p17.cap) ∧
   ∃ a18 : Addr, p17.a = some a18 ∧ 0 ≤ r10 ∧ r10 < (p17.len : Int) ∧
   LdL w12 ((a18.add (r10.toNat * 3)).add 1) 0 [.i .i64, .i .i64] fun (p19 : Int) (p20 : Int) =>
   Al w12 (.cells #[.int .i64 (0 : Int), .int .i64 (0 : Int)] 51) fun w21 =>
   StL w21 (Addr.mk w12.heap.size 0 none) 0 [.int .i64 p19, .int .i64 p20] fun w22 =>
   ∀ l23 : Sl → Int → World → Prop,
   (∀ (rest24 : Sl) (i25 : Int) (w26 : World), (∃ a27 : Addr, s1 = some a27 ∧
   ∃ p28 : Sl, w26.cell? (a27.add 1) = some (.slice p28.a p28.len p28.cap) ∧
   bif decide (i25 < (p28.len : Int)) then
    (bif i25 != r10 then
    (∃ a29 : Addr, s1 = some a29 ∧
   ∃ p30 : Sl, w26.cell? (a29.add 1) = some (.slice p30.a p30.len p30.cap) ∧
   ∃ a31 : Addr, p30.a = some a31 ∧ 0 ≤ i25 ∧ i25 < (p30.len : Int) ∧
   LdL w26 (a31.add (i25.toNat * 3)) 0 [.i .i64, .i .i64, .i .i64] fun (t32 : Int) (t33 : Int) (t34 : Int) =>
   Al w26 (.cells #[.int .i64 t32, .int .i64 t33, .int .i64 t34] 67) fun w35 =>
   ∃ (t36 : Sl) (w37 : World), AppR Try.prog [57, 57] 57 (.slice rest24.a rest24.len rest24.cap) (.slice (some (Addr.mk w26.heap.size 0 none)) 1 1) w35 t36 w37 ∧
   l23 t36 (IntKind.i64.wrap (i25 + (1 : Int))) w37)
   else
    (l23 rest24 (IntKind.i64.wrap (i25 + (1 : Int))) w26))
   else
    (∃ a38 : Addr, s1 = some a38 ∧
   St w26 (a38.add 1) (.slice rest24.a rest24.len rest24.cap) fun w39 =>
   LdL w39 (Addr.mk w12.heap.size 0 none) 0 [.i .i64, .i .i64] fun (t40 : Int) (t41 : Int) =>
   StL w39 (Addr.mk w.heap.size 0 none) 0 [.int .i64 t40, .int .i64 t41] fun w42 =>
   LdL w42 (Addr.mk w.heap.size 0 none) 0 [.i .i64, .i .i64] fun (r43 : Int) (r44 : Int) =>
   K r43 r44 (0 : Int) w42)) → l23 rest24 i25 w26) →
   l23 ⟨some (Addr.mk w11.heap.size 0 none), 0, 0⟩ (0 : Int) w22)) w6)) → k4 t5 w6) →
   (bif decide (n2 < (0 : Int)) then
    (k4 true w3)
   else
    (k4 (decide (n2 > (4095 : Int))) w3))
set_option maxRecDepth 100000 in
theorem S.ref14_Space_Unmap_ok (s1 : Option Addr) (n2 : Int) (K : Int → Int → Int → World → Prop) (w : World) (h : S.ref14_Space_Unmap s1 n2 K w) : C.ref14_Space_Unmap s1 n2 K w := by
  have e : fnV Try.prog Try.f49 (bodyOf Try.f49) (.t none (.u) (.t none (.t none (.r (some [(15, .c (.b))]) .done) (.t none (.t none (.u) (.u)) (.u))) (.t none (.u) (.t none (.t none (.u) (.t none (.t none (.u) (.u)) (.u))) (.t none (.u) (.t none (.t none (.u) (.t none (.t (some [(7, .c (.s)), (9, .c (.i .i64))]) (.t none (.t none (.u) (.t none (.u) (.u))) (.t none (.t none (.t none (.u) (.t none (.u) (.u))) (.u)) (.u))) (.u)) (.u))) (.t none (.u) (.t none (.u) (.u))))))))) [(0, .a [.i .i64, .i .i64]), (1, .c (.i .i64))] [.pointer s1, .int .i64 n2] K w = S.ref14_Space_Unmap s1 n2 K w := by kernel_rfl
  exact okF_mk Try.func49 rfl (fn_sound names_ok follows_ok Try.func49 rfl (by kernel_rfl) (Eq.mpr e h))

/-- (*buttress/buttressref14.Space).Walk -/
def S.ref14_Space_Walk (s1 : Option Addr) (n2 : Int) (K : Int → Int → Bool → World → Prop) (w : World) : Prop :=
  Al w (.cells #[.int .i64 (0 : Int), .int .i64 (0 : Int)] 51) fun w3 =>
   C.ref14_Space_place s1 n2 (fun r4 w5 =>
   bif decide (r4 < (0 : Int)) then
    (StL w5 (Addr.mk w.heap.size 0 none) 0 [.int .i64 (0 : Int), .int .i64 (0 : Int)] fun w6 =>
   LdL w6 (Addr.mk w.heap.size 0 none) 0 [.i .i64, .i .i64] fun (r7 : Int) (r8 : Int) =>
   K r7 r8 false w6)
   else
    (∃ a9 : Addr, s1 = some a9 ∧
   ∃ p10 : Sl, w5.cell? (a9.add 1) = some (.slice p10.a p10.len p10.cap) ∧
   ∃ a11 : Addr, p10.a = some a11 ∧ 0 ≤ r4 ∧ r4 < (p10.len : Int) ∧
   LdL w5 ((a11.add (r4.toNat * 3)).add 1) 0 [.i .i64, .i .i64] fun (p12 : Int) (p13 : Int) =>
   StL w5 (Addr.mk w.heap.size 0 none) 0 [.int .i64 p12, .int .i64 p13] fun w14 =>
   LdL w14 (Addr.mk w.heap.size 0 none) 0 [.i .i64, .i .i64] fun (r15 : Int) (r16 : Int) =>
   K r15 r16 true w14)) w3
set_option maxRecDepth 100000 in
theorem S.ref14_Space_Walk_ok (s1 : Option Addr) (n2 : Int) (K : Int → Int → Bool → World → Prop) (w : World) (h : S.ref14_Space_Walk s1 n2 K w) : C.ref14_Space_Walk s1 n2 K w := by
  have e : fnV Try.prog Try.f51 (bodyOf Try.f51) (.t none (.u) (.t none (.u) (.t none (.t none (.u) (.t none (.t none (.u) (.u)) (.u))) (.t none (.u) (.u))))) [(0, .a [.i .i64, .i .i64]), (1, .c (.b))] [.pointer s1, .int .i64 n2] K w = S.ref14_Space_Walk s1 n2 K w := by kernel_rfl
  exact okF_mk Try.func51 rfl (fn_sound names_ok follows_ok Try.func51 rfl (by kernel_rfl) (Eq.mpr e h))

/-- (*buttress/buttressref14.Space).Has -/
def S.ref14_Space_Has (s1 : Option Addr) (i2 : Int) (K : Int → Bool → World → Prop) (w : World) : Prop :=
  ∀ l3 : Int → World → Prop,
   (∀ (k4 : Int) (w5 : World), (∃ a6 : Addr, s1 = some a6 ∧
   ∃ t7 : Sl, w5.cell? a6 = some (.slice t7.a t7.len t7.cap) ∧
   bif decide (k4 < (t7.len : Int)) then
    (∃ a8 : Addr, s1 = some a8 ∧
   ∃ t9 : Sl, w5.cell? a8 = some (.slice t9.a t9.len t9.cap) ∧
   ∃ a10 : Addr, t9.a = some a10 ∧ 0 ≤ k4 ∧ k4 < (t9.len : Int) ∧
   ∃ i11 : Int, w5.cell? (a10.add (k4.toNat * 2)) = some (.int .i64 i11) ∧
   bif i11 == i2 then
    (∃ a12 : Addr, s1 = some a12 ∧
   ∃ t13 : Sl, w5.cell? a12 = some (.slice t13.a t13.len t13.cap) ∧
   ∃ a14 : Addr, t13.a = some a14 ∧ 0 ≤ k4 ∧ k4 < (t13.len : Int) ∧
   ∃ n15 : Int, w5.cell? ((a14.add (k4.toNat * 2)).add 1) = some (.int .i64 n15) ∧
   K n15 true w5)
   else
    (l3 (IntKind.i64.wrap (k4 + (1 : Int))) w5))
   else
    (K (0 : Int) false w5)) → l3 k4 w5) →
   l3 (0 : Int) w
set_option maxRecDepth 100000 in
theorem S.ref14_Space_Has_ok (s1 : Option Addr) (i2 : Int) (K : Int → Bool → World → Prop) (w : World) (h : S.ref14_Space_Has s1 i2 K w) : C.ref14_Space_Has s1 i2 K w := by
  have e : fnV Try.prog Try.f52 (bodyOf Try.f52) (.t none (.u) (.t none (.t none (.u) (.t none (.t (some [(6, .c (.i .i64))]) (.t none (.t none (.u) (.t none (.u) (.u))) (.t none (.t none (.t none (.u) (.t none (.t none (.u) (.u)) (.u))) (.u)) (.u))) (.u)) (.u))) (.t none (.u) (.u)))) [(0, .c (.i .i64)), (1, .c (.b))] [.pointer s1, .int .i64 i2] K w = S.ref14_Space_Has s1 i2 K w := by kernel_rfl
  exact okF_mk Try.func52 rfl (fn_sound names_ok follows_ok Try.func52 rfl (by kernel_rfl) (Eq.mpr e h))

/-- (*buttress/buttressref14.Space).Pages -/
def S.ref14_Space_Pages (s1 : Option Addr) (K : Sl → World → Prop) (w : World) : Prop :=
  Al w (.cells #[] 67) fun w2 =>
   ∀ l3 : Sl → Int → World → Prop,
   (∀ (out4 : Sl) (n5 : Int) (w6 : World), (∀ k7 : Bool → World → Prop,
   (∀ (t8 : Bool) (w9 : World), (bif t8 then
    (∀ l10 : Sl → Int → World → Prop,
   (∀ (out11 : Sl) (k12 : Int) (w13 : World), (∃ a14 : Addr, s1 = some a14 ∧
   ∃ p15 : Sl, w13.cell? (a14.add 1) = some (.slice p15.a p15.len p15.cap) ∧
   bif decide (k12 < (p15.len : Int)) then
    (∃ a16 : Addr, s1 = some a16 ∧
   ∃ p17 : Sl, w13.cell? (a16.add 1) = some (.slice p17.a p17.len p17.cap) ∧
   ∃ a18 : Addr, p17.a = some a18 ∧ 0 ≤ k12 ∧ k12 < (p17.len : Int) ∧
   ∃ at19 : Int, w13.cell? (a18.add (k12.toNat * 3)) = some (.int .i64 at19) ∧
   bif at19 == n5 then
    (∃ a20 : Addr, s1 = some a20 ∧
   ∃ p21 : Sl, w13.cell? (a20.add 1) = some (.slice p21.a p21.len p21.cap) ∧
   ∃ a22 : Addr, p21.a = some a22 ∧ 0 ≤ k12 ∧ k12 < (p21.len : Int) ∧
   LdL w13 (a22.add (k12.toNat * 3)) 0 [.i .i64, .i .i64, .i .i64] fun (t23 : Int) (t24 : Int) (t25 : Int) =>
   Al w13 (.cells #[.int .i64 t23, .int .i64 t24, .int .i64 t25] 67) fun w26 =>
   ∃ (t27 : Sl) (w28 : World), AppR Try.prog [57, 57] 57 (.slice out11.a out11.len out11.cap) (.slice (some (Addr.mk w13.heap.size 0 none)) 1 1) w26 t27 w28 ∧
   l10 t27 (IntKind.i64.wrap (k12 + (1 : Int))) w28)
   else
    (l10 out11 (IntKind.i64.wrap (k12 + (1 : Int))) w13))
   else
    (l3 out11 (IntKind.i64.wrap (n5 + (1 : Int))) w13)) → l10 out11 k12 w13) →
   l10 out4 (0 : Int) w9)
   else
    (K out4 w9)) → k7 t8 w9) →
   (bif decide (n5 < (4096 : Int)) then
    (∃ a29 : Addr, s1 = some a29 ∧
   ∃ p30 : Sl, w6.cell? (a29.add 1) = some (.slice p30.a p30.len p30.cap) ∧
   k7 (decide ((out4.len : Int) < (p30.len : Int))) w6)
   else
    (k7 false w6))) → l3 out4 n5 w6) →
   l3 ⟨some (Addr.mk w.heap.size 0 none), 0, 0⟩ (0 : Int) w2
set_option maxRecDepth 100000 in
theorem S.ref14_Space_Pages_ok (s1 : Option Addr) (K : Sl → World → Prop) (w : World) (h : S.ref14_Space_Pages s1 K w) : C.ref14_Space_Pages s1 K w := by
  have e : fnV Try.prog Try.f53 (bodyOf Try.f53) (.t none (.u) (.t none (.u) (.t none (.t none (.u) (.t none (.t (some [(3, .c (.s)), (4, .c (.i .i64))]) (.t none (.t none (.r (some [(18, .c (.b))]) .done) (.t none (.u) (.u))) (.t none (.t none (.t none (.u) (.t none (.t (some [(3, .c (.s)), (5, .c (.i .i64))]) (.t none (.t none (.u) (.t none (.u) (.u))) (.t none (.t none (.t none (.u) (.t none (.u) (.u))) (.u)) (.u))) (.u)) (.u))) (.u)) (.u))) (.u)) (.u))) (.t none (.u) (.u))))) [(0, .c (.s))] [.pointer s1] K w = S.ref14_Space_Pages s1 K w := by kernel_rfl
  exact okF_mk Try.func53 rfl (fn_sound names_ok follows_ok Try.func53 rfl (by kernel_rfl) (Eq.mpr e h))

/-- (*buttress/buttressref14.Space).Frames -/
def S.ref14_Space_Frames (s1 : Option Addr) (frame2 : Int) (K : Sl → World → Prop) (w : World) : Prop :=
  C.ref14_Space_Pages s1 (fun r3 w4 =>
   Al w4 (.cells #[] 3) fun w5 =>
   ∀ l6 : Sl → Int → World → Prop,
   (∀ (out7 : Sl) (k8 : Int) (w9 : World), (bif decide (k8 < (r3.len : Int)) then
    (∃ a10 : Addr, r3.a = some a10 ∧ 0 ≤ k8 ∧ k8 < (r3.len : Int) ∧
   ∃ frame11 : Int, w9.cell? ((a10.add (k8.toNat * 3)).add 1) = some (.int .i64 frame11) ∧
   bif frame11 == frame2 then
    (∃ a12 : Addr, r3.a = some a12 ∧ 0 ≤ k8 ∧ k8 < (r3.len : Int) ∧
   ∃ at13 : Int, w9.cell? (a12.add (k8.toNat * 3)) = some (.int .i64 at13) ∧
   Al w9 (.cells #[.int .i64 at13] 3) fun w14 =>
   ∃ (t15 : Sl) (w16 : World), AppR Try.prog [43, 43] 43 (.slice out7.a out7.len out7.cap) (.slice (some (Addr.mk w9.heap.size 0 none)) 1 1) w14 t15 w16 ∧
   l6 t15 (IntKind.i64.wrap (k8 + (1 : Int))) w16)
   else
    (l6 out7 (IntKind.i64.wrap (k8 + (1 : Int))) w9))
   else
    (K out7 w9)) → l6 out7 k8 w9) →
   l6 ⟨some (Addr.mk w4.heap.size 0 none), 0, 0⟩ (0 : Int) w5) w
set_option maxRecDepth 100000 in
theorem S.ref14_Space_Frames_ok (s1 : Option Addr) (frame2 : Int) (K : Sl → World → Prop) (w : World) (h : S.ref14_Space_Frames s1 frame2 K w) : C.ref14_Space_Frames s1 frame2 K w := by
  have e : fnV Try.prog Try.f55 (bodyOf Try.f55) (.t none (.u) (.t none (.u) (.t none (.t none (.u) (.t none (.t (some [(6, .c (.s)), (7, .c (.i .i64))]) (.t none (.t none (.u) (.t none (.u) (.u))) (.t none (.t none (.t none (.u) (.t none (.u) (.u))) (.u)) (.u))) (.u)) (.u))) (.t none (.u) (.u))))) [(0, .c (.s))] [.pointer s1, .int .i64 frame2] K w = S.ref14_Space_Frames s1 frame2 K w := by kernel_rfl
  exact okF_mk Try.func55 rfl (fn_sound names_ok follows_ok Try.func55 rfl (by kernel_rfl) (Eq.mpr e h))

/-- (*buttress/buttressref14.Space).place -/
def S.ref14_Space_place (s1 : Option Addr) (n2 : Int) (K : Int → World → Prop) (w : World) : Prop :=
  ∀ l3 : Int → World → Prop,
   (∀ (k4 : Int) (w5 : World), (∃ a6 : Addr, s1 = some a6 ∧
   ∃ p7 : Sl, w5.cell? (a6.add 1) = some (.slice p7.a p7.len p7.cap) ∧
   bif decide (k4 < (p7.len : Int)) then
    (∃ a8 : Addr, s1 = some a8 ∧
   ∃ p9 : Sl, w5.cell? (a8.add 1) = some (.slice p9.a p9.len p9.cap) ∧
   ∃ a10 : Addr, p9.a = some a10 ∧ 0 ≤ k4 ∧ k4 < (p9.len : Int) ∧
   ∃ at11 : Int, w5.cell? (a10.add (k4.toNat * 3)) = some (.int .i64 at11) ∧
   bif at11 == n2 then
    (K k4 w5)
   else
    (l3 (IntKind.i64.wrap (k4 + (1 : Int))) w5))
   else
    (K (-1 : Int) w5)) → l3 k4 w5) →
   l3 (0 : Int) w
set_option maxRecDepth 100000 in
theorem S.ref14_Space_place_ok (s1 : Option Addr) (n2 : Int) (K : Int → World → Prop) (w : World) (h : S.ref14_Space_place s1 n2 K w) : C.ref14_Space_place s1 n2 K w := by
  have e : fnV Try.prog Try.f75 (bodyOf Try.f75) (.t none (.u) (.t none (.t none (.u) (.t none (.t (some [(5, .c (.i .i64))]) (.t none (.t none (.u) (.t none (.u) (.u))) (.t none (.t none (.t none (.u) (.t none (.t none (.u) (.u)) (.u))) (.u)) (.u))) (.u)) (.u))) (.t none (.u) (.u)))) [(0, .c (.i .i64))] [.pointer s1, .int .i64 n2] K w = S.ref14_Space_place s1 n2 K w := by kernel_rfl
  exact okF_mk Try.func75 rfl (fn_sound names_ok follows_ok Try.func75 rfl (by kernel_rfl) (Eq.mpr e h))

/-- slices.Insert[[]buttress/tree.leaf,buttress/tree.leaf] -/
def S.slices_Insert_tree_leaf_tree_leaf (s1 : Sl) (i2 : Int) (v3 : Sl) (K : Sl → World → Prop) (w : World) : Prop :=
  0 ≤ i2 ∧ i2 ≤ (s1.len : Int) ∧
   bif (v3.len : Int) == (0 : Int) then
    (K s1 w)
   else
    (bif i2 == (s1.len : Int) then
    (∃ (t4 : Sl) (w5 : World), AppR Try.prog [84, 84] 84 (.slice s1.a s1.len s1.cap) (.slice v3.a v3.len v3.cap) w t4 w5 ∧
   K t4 w5)
   else
    (bif decide ((IntKind.i64.wrap ((s1.len : Int) + (v3.len : Int))) > (s1.cap : Int)) then
    (0 ≤ i2 ∧ i2 ≤ (s1.cap : Int) ∧
   ∃ (t6 : Sl) (w7 : World), AppR Try.prog [84, 3] 84 (.slice (slA s1.a 0 s1.cap 3) (i2.toNat - 0) (s1.cap - 0)) (.int .i64 (IntKind.i64.wrap ((IntKind.i64.wrap ((s1.len : Int) + (v3.len : Int))) - i2))) w t6 w7 ∧
   0 ≤ i2 ∧ i2 ≤ (t6.len : Int) ∧
   ∃ (n8 : Int) (w9 : World), CopyR Try.prog [84, 84] 3 (.slice (slA t6.a i2.toNat t6.cap 3) (t6.len - i2.toNat) (t6.cap - i2.toNat)) (.slice v3.a v3.len v3.cap) w7 n8 w9 ∧
   Dr w9 fun w10 =>
   0 ≤ IntKind.i64.wrap (i2 + (v3.len : Int)) ∧ IntKind.i64.wrap (i2 + (v3.len : Int)) ≤ (t6.len : Int) ∧
   0 ≤ i2 ∧ i2 ≤ (s1.len : Int) ∧
   (∃ (n11 : Int) (w12 : World), CopyR Try.prog [84, 84] 3 (.slice (slA t6.a ((IntKind.i64.wrap (i2 + (v3.len : Int))).toNat) t6.cap 3) (t6.len - ((IntKind.i64.wrap (i2 + (v3.len : Int))).toNat)) (t6.cap - ((IntKind.i64.wrap (i2 + (v3.len : Int))).toNat))) (.slice (slA s1.a i2.toNat s1.cap 3) (s1.len - i2.toNat) (s1.cap - i2.toNat)) w10 n11 w12 ∧
   K t6 w12) ∧
   True)
   else
    (0 ≤ IntKind.i64.wrap ((s1.len : Int) + (v3.len : Int)) ∧ IntKind.i64.wrap ((s1.len : Int) + (v3.len : Int)) ≤ (s1.cap : Int) ∧
   0 ≤ IntKind.i64.wrap (i2 + (v3.len : Int)) ∧ IntKind.i64.wrap (i2 + (v3.len : Int)) ≤ ((((IntKind.i64.wrap ((s1.len : Int) + (v3.len : Int))).toNat) - 0 : Nat) : Int) ∧
   ∃ r13 : Bool, ∃ w14 : World, ExtR Try.prog 79 #[.slice v3.a v3.len v3.cap, .slice (slA (slA s1.a 0 s1.cap 3) ((IntKind.i64.wrap (i2 + (v3.len : Int))).toNat) (s1.cap - 0) 3) ((((IntKind.i64.wrap ((s1.len : Int) + (v3.len : Int))).toNat) - 0) - ((IntKind.i64.wrap (i2 + (v3.len : Int))).toNat)) ((s1.cap - 0) - ((IntKind.i64.wrap (i2 + (v3.len : Int))).toNat))] w (.bool r13) w14 ∧
   bif !r13 then
    (Dr w14 fun w15 =>
   0 ≤ IntKind.i64.wrap (i2 + (v3.len : Int)) ∧ IntKind.i64.wrap (i2 + (v3.len : Int)) ≤ ((((IntKind.i64.wrap ((s1.len : Int) + (v3.len : Int))).toNat) - 0 : Nat) : Int) ∧
   0 ≤ i2 ∧ i2 ≤ ((((IntKind.i64.wrap ((s1.len : Int) + (v3.len : Int))).toNat) - 0 : Nat) : Int) ∧
   (∃ (n16 : Int) (w17 : World), CopyR Try.prog [84, 84] 3 (.slice (slA (slA s1.a 0 s1.cap 3) ((IntKind.i64.wrap (i2 + (v3.len : Int))).toNat) (s1.cap - 0) 3) ((((IntKind.i64.wrap ((s1.len : Int) + (v3.len : Int))).toNat) - 0) - ((IntKind.i64.wrap (i2 + (v3.len : Int))).toNat)) ((s1.cap - 0) - ((IntKind.i64.wrap (i2 + (v3.len : Int))).toNat))) (.slice (slA (slA s1.a 0 s1.cap 3) i2.toNat (s1.cap - 0) 3) ((((IntKind.i64.wrap ((s1.len : Int) + (v3.len : Int))).toNat) - 0) - i2.toNat) ((s1.cap - 0) - i2.toNat)) w15 n16 w17 ∧
   0 ≤ i2 ∧ i2 ≤ ((((IntKind.i64.wrap ((s1.len : Int) + (v3.len : Int))).toNat) - 0 : Nat) : Int) ∧
   ∃ (n18 : Int) (w19 : World), CopyR Try.prog [84, 84] 3 (.slice (slA (slA s1.a 0 s1.cap 3) i2.toNat (s1.cap - 0) 3) ((((IntKind.i64.wrap ((s1.len : Int) + (v3.len : Int))).toNat) - 0) - i2.toNat) ((s1.cap - 0) - i2.toNat)) (.slice v3.a v3.len v3.cap) w17 n18 w19 ∧
   K ⟨slA s1.a 0 s1.cap 3, ((IntKind.i64.wrap ((s1.len : Int) + (v3.len : Int))).toNat) - 0, s1.cap - 0⟩ w19) ∧
   True)
   else
    (0 ≤ (s1.len : Int) ∧ (s1.len : Int) ≤ ((((IntKind.i64.wrap ((s1.len : Int) + (v3.len : Int))).toNat) - 0 : Nat) : Int) ∧
   ∃ (n20 : Int) (w21 : World), CopyR Try.prog [84, 84] 3 (.slice (slA (slA s1.a 0 s1.cap 3) ((s1.len : Int).toNat) (s1.cap - 0) 3) ((((IntKind.i64.wrap ((s1.len : Int) + (v3.len : Int))).toNat) - 0) - ((s1.len : Int).toNat)) ((s1.cap - 0) - ((s1.len : Int).toNat))) (.slice v3.a v3.len v3.cap) w14 n20 w21 ∧
   0 ≤ i2 ∧ i2 ≤ ((((IntKind.i64.wrap ((s1.len : Int) + (v3.len : Int))).toNat) - 0 : Nat) : Int) ∧
   C.slices_rotateRight_tree_leaf ⟨slA (slA s1.a 0 s1.cap 3) i2.toNat (s1.cap - 0) 3, (((IntKind.i64.wrap ((s1.len : Int) + (v3.len : Int))).toNat) - 0) - i2.toNat, (s1.cap - 0) - i2.toNat⟩ (v3.len : Int) (fun w22 =>
   K ⟨slA s1.a 0 s1.cap 3, ((IntKind.i64.wrap ((s1.len : Int) + (v3.len : Int))).toNat) - 0, s1.cap - 0⟩ w22) w21))))
set_option maxRecDepth 100000 in
theorem S.slices_Insert_tree_leaf_tree_leaf_ok (s1 : Sl) (i2 : Int) (v3 : Sl) (K : Sl → World → Prop) (w : World) (h : S.slices_Insert_tree_leaf_tree_leaf s1 i2 v3 K w) : C.slices_Insert_tree_leaf_tree_leaf s1 i2 v3 K w := by
  have e : fnV Try.prog Try.f59 (bodyOf Try.f59) (.t none (.u) (.t none (.u) (.t none (.u) (.t none (.t none (.u) (.t none (.t none (.u) (.u)) (.u))) (.t none (.u) (.t none (.t none (.u) (.t none (.t none (.u) (.u)) (.u))) (.t none (.t none (.u) (.t none (.t none (.u) (.t none (.u) (.t none (.r none (.one 0 238 (.one 1 228 (.one 2 224 (.one 3 224 (.one 4 224 (.one 5 64 (.one 6 0 (.one 7 0 (.alt 8 (.done) (.none))))))))))) (.t none (.u) (.u))))) (.u))) (.t none (.u) (.t none (.t none (.u) (.t none (.t none (.r none (.one 0 238 (.one 1 228 (.one 2 224 (.one 3 224 (.one 4 224 (.one 5 64 (.one 6 0 (.one 7 0 (.alt 8 (.done) (.none))))))))))) (.t none (.u) (.t none (.u) (.u)))) (.u))) (.t none (.u) (.t none (.u) (.t none (.u) (.u))))))))))))) [(0, .c (.s))] [.slice s1.a s1.len s1.cap, .int .i64 i2, .slice v3.a v3.len v3.cap] K w = S.slices_Insert_tree_leaf_tree_leaf s1 i2 v3 K w := by kernel_rfl
  exact okF_mk Try.func59 rfl (fn_sound names_ok follows_ok Try.func59 rfl (by kernel_rfl) (Eq.mpr e h))

/-- slices.Delete[[]buttress/tree.leaf,buttress/tree.leaf] -/
def S.slices_Delete_tree_leaf_tree_leaf (s1 : Sl) (i2 : Int) (j3 : Int) (K : Sl → World → Prop) (w : World) : Prop :=
  0 ≤ (s1.len : Int) ∧ (s1.len : Int) ≤ (s1.cap : Int) ∧
   0 ≤ j3 ∧ j3 ≤ (((s1.len : Int).toNat : Nat) : Int) ∧
   0 ≤ i2 ∧ i2 ≤ (j3.toNat : Int) ∧
   bif i2 == j3 then
    (K s1 w)
   else
    (Dr w fun w4 =>
   0 ≤ i2 ∧ i2 ≤ (s1.cap : Int) ∧
   0 ≤ j3 ∧ j3 ≤ (s1.len : Int) ∧
   (∃ (t5 : Sl) (w6 : World), AppR Try.prog [84, 84] 84 (.slice (slA s1.a 0 s1.cap 3) (i2.toNat - 0) (s1.cap - 0)) (.slice (slA s1.a j3.toNat s1.cap 3) (s1.len - j3.toNat) (s1.cap - j3.toNat)) w4 t5 w6 ∧
   0 ≤ (s1.len : Int) ∧ (s1.len : Int) ≤ (t5.cap : Int) ∧
   0 ≤ (t5.len : Int) ∧ (t5.len : Int) ≤ (((s1.len : Int).toNat : Nat) : Int) ∧
   ∃ w7 : World, ClearR Try.prog [84] 0 (.slice (slA t5.a ((t5.len : Int).toNat) t5.cap 3) (((s1.len : Int).toNat) - ((t5.len : Int).toNat)) (t5.cap - ((t5.len : Int).toNat))) w6 w7 ∧
   K t5 w7) ∧
   True)
set_option maxRecDepth 100000 in
theorem S.slices_Delete_tree_leaf_tree_leaf_ok (s1 : Sl) (i2 : Int) (j3 : Int) (K : Sl → World → Prop) (w : World) (h : S.slices_Delete_tree_leaf_tree_leaf s1 i2 j3 K w) : C.slices_Delete_tree_leaf_tree_leaf s1 i2 j3 K w := by
  have e : fnV Try.prog Try.f60 (bodyOf Try.f60) (.t none (.u) (.t none (.u) (.t none (.t none (.u) (.t none (.t none (.u) (.u)) (.u))) (.t none (.u) (.t none (.r none (.one 0 58 (.one 1 56 (.one 2 56 (.one 3 16 (.one 4 0 (.one 5 0 (.alt 6 (.one 7 0 (.done)) (.none))))))))) (.t none (.u) (.t none (.u) (.u)))))))) [(0, .c (.s))] [.slice s1.a s1.len s1.cap, .int .i64 i2, .int .i64 j3] K w = S.slices_Delete_tree_leaf_tree_leaf s1 i2 j3 K w := by kernel_rfl
  exact okF_mk Try.func60 rfl (fn_sound names_ok follows_ok Try.func60 rfl (by kernel_rfl) (Eq.mpr e h))

/-- slices.Clone[[]buttress/tree.leaf,buttress/tree.leaf] -/
def S.slices_Clone_tree_leaf_tree_leaf (s1 : Sl) (K : Sl → World → Prop) (w : World) : Prop :=
  bif s1.a.isNone then
    (K ⟨none, 0, 0⟩ w)
   else
    (Al w (.cells #[] 90) fun w2 =>
   ∃ (t3 : Sl) (w4 : World), AppR Try.prog [84, 84] 84 (.slice (some (Addr.mk w.heap.size 0 none)) 0 0) (.slice s1.a s1.len s1.cap) w2 t3 w4 ∧
   K t3 w4)
set_option maxRecDepth 100000 in
theorem S.slices_Clone_tree_leaf_tree_leaf_ok (s1 : Sl) (K : Sl → World → Prop) (w : World) (h : S.slices_Clone_tree_leaf_tree_leaf s1 K w) : C.slices_Clone_tree_leaf_tree_leaf s1 K w := by
  have e : fnV Try.prog Try.f61 (bodyOf Try.f61) (.t none (.u) (.t none (.t none (.u) (.t none (.t none (.u) (.u)) (.u))) (.t none (.u) (.u)))) [(0, .c (.s))] [.slice s1.a s1.len s1.cap] K w = S.slices_Clone_tree_leaf_tree_leaf s1 K w := by kernel_rfl
  exact okF_mk Try.func61 rfl (fn_sound names_ok follows_ok Try.func61 rfl (by kernel_rfl) (Eq.mpr e h))

/-- slices.ContainsFunc[[]buttress/tables.table,buttress/tables.table] -/
def S.slices_ContainsFunc_tables_table_tables_table (s1 : Sl) (f2 : Value) (K : Bool → World → Prop) (w : World) : Prop :=
  C.slices_IndexFunc_tables_table_tables_table s1 f2 (fun r3 w4 =>
   K (decide (r3 ≥ (0 : Int))) w4) w
set_option maxRecDepth 100000 in
theorem S.slices_ContainsFunc_tables_table_tables_table_ok (s1 : Sl) (f2 : Value) (K : Bool → World → Prop) (w : World) (h : S.slices_ContainsFunc_tables_table_tables_table s1 f2 K w) : C.slices_ContainsFunc_tables_table_tables_table s1 f2 K w := by
  have e : fnV Try.prog Try.f70 (bodyOf Try.f70) (.t none (.u) (.t none (.u) (.u))) [(0, .c (.b))] [.slice s1.a s1.len s1.cap, f2] K w = S.slices_ContainsFunc_tables_table_tables_table s1 f2 K w := by kernel_rfl
  exact okF_mk Try.func70 rfl (fn_sound names_ok follows_ok Try.func70 rfl (by kernel_rfl) (Eq.mpr e h))

/-- slices.IndexFunc[[]buttress/tree.leaf,buttress/tree.leaf] -/
def S.slices_IndexFunc_tree_leaf_tree_leaf (s1 : Sl) (f2 : Value) (K : Int → World → Prop) (w : World) : Prop :=
  ∀ l3 : Int → World → Prop,
   (∀ (t4 : Int) (w5 : World), (bif decide (t4 < (s1.len : Int)) then
    (∃ a6 : Addr, s1.a = some a6 ∧ 0 ≤ t4 ∧ t4 < (s1.len : Int) ∧
   LdL w5 (a6.add (t4.toNat * 3)) 0 [.i .i64, .i .i64, .i .i64] fun (t7 : Int) (t8 : Int) (t9 : Int) =>
   CallV Try.prog (f2) [.agg #[.int .i64 t7, .int .i64 t8, .int .i64 t9]] w5 fun enw11 w11 => ∃ r10 : Bool, enw11 = .returned (.bool r10) ∧
   bif r10 then
    (K t4 w11)
   else
    (l3 (IntKind.i64.wrap (t4 + (1 : Int))) w11))
   else
    (K (-1 : Int) w5)) → l3 t4 w5) →
   l3 (0 : Int) w
set_option maxRecDepth 100000 in
theorem S.slices_IndexFunc_tree_leaf_tree_leaf_ok (s1 : Sl) (f2 : Value) (K : Int → World → Prop) (w : World) (h : S.slices_IndexFunc_tree_leaf_tree_leaf s1 f2 K w) : C.slices_IndexFunc_tree_leaf_tree_leaf s1 f2 K w := by
  have e : fnV Try.prog Try.f77 (bodyOf Try.f77) (.t none (.u) (.t none (.t none (.u) (.t none (.t (some [(8, .c (.i .i64))]) (.t none (.u) (.t none (.t none (.u) (.u)) (.t none (.t none (.t none (.u) (.t none (.u) (.t none (.t none (.u) (.u)) (.u)))) (.u)) (.u)))) (.u)) (.u))) (.t none (.u) (.u)))) [(0, .c (.i .i64))] [.slice s1.a s1.len s1.cap, f2] K w = S.slices_IndexFunc_tree_leaf_tree_leaf s1 f2 K w := by kernel_rfl
  exact okF_mk Try.func77 rfl (fn_sound names_ok follows_ok Try.func77 rfl (by kernel_rfl) (Eq.mpr e h))

/-- slices.rotateRight[buttress/tree.leaf] -/
def S.slices_rotateRight_tree_leaf (s1 : Sl) (r2 : Int) (K : World → Prop) (w : World) : Prop :=
  C.slices_rotateLeft_tree_leaf s1 (IntKind.i64.wrap ((s1.len : Int) - r2)) (fun w3 =>
   K w3) w
set_option maxRecDepth 100000 in
theorem S.slices_rotateRight_tree_leaf_ok (s1 : Sl) (r2 : Int) (K : World → Prop) (w : World) (h : S.slices_rotateRight_tree_leaf s1 r2 K w) : C.slices_rotateRight_tree_leaf s1 r2 K w := by
  have e : fnV Try.prog Try.f80 (bodyOf Try.f80) (.u) [] [.slice s1.a s1.len s1.cap, .int .i64 r2] K w = S.slices_rotateRight_tree_leaf s1 r2 K w := by kernel_rfl
  exact okF_mk Try.func80 rfl (fn_sound names_ok follows_ok Try.func80 rfl (by kernel_rfl) (Eq.mpr e h))

/-- slices.IndexFunc[[]buttress/tables.table,buttress/tables.table] -/
def S.slices_IndexFunc_tables_table_tables_table (s1 : Sl) (f2 : Value) (K : Int → World → Prop) (w : World) : Prop :=
  ∀ l3 : Int → World → Prop,
   (∀ (t4 : Int) (w5 : World), (bif decide (t4 < (s1.len : Int)) then
    (∃ a6 : Addr, s1.a = some a6 ∧ 0 ≤ t4 ∧ t4 < (s1.len : Int) ∧
   LdL w5 (a6.add (t4.toNat * 2)) 0 [.i .i64, .m] fun (t7 : Int) (t8 : Option Nat) =>
   CallV Try.prog (f2) [.agg #[.int .i64 t7, .map t8]] w5 fun enw10 w10 => ∃ r9 : Bool, enw10 = .returned (.bool r9) ∧
   bif r9 then
    (K t4 w10)
   else
    (l3 (IntKind.i64.wrap (t4 + (1 : Int))) w10))
   else
    (K (-1 : Int) w5)) → l3 t4 w5) →
   l3 (0 : Int) w
set_option maxRecDepth 100000 in
theorem S.slices_IndexFunc_tables_table_tables_table_ok (s1 : Sl) (f2 : Value) (K : Int → World → Prop) (w : World) (h : S.slices_IndexFunc_tables_table_tables_table s1 f2 K w) : C.slices_IndexFunc_tables_table_tables_table s1 f2 K w := by
  have e : fnV Try.prog Try.f82 (bodyOf Try.f82) (.t none (.u) (.t none (.t none (.u) (.t none (.t (some [(8, .c (.i .i64))]) (.t none (.u) (.t none (.t none (.u) (.u)) (.t none (.t none (.t none (.u) (.t none (.u) (.t none (.t none (.u) (.u)) (.u)))) (.u)) (.u)))) (.u)) (.u))) (.t none (.u) (.u)))) [(0, .c (.i .i64))] [.slice s1.a s1.len s1.cap, f2] K w = S.slices_IndexFunc_tables_table_tables_table s1 f2 K w := by kernel_rfl
  exact okF_mk Try.func82 rfl (fn_sound names_ok follows_ok Try.func82 rfl (by kernel_rfl) (Eq.mpr e h))

/-- slices.Sorted[int] -/
def S.slices_Sorted_int (seq1 : Value) (K : Sl → World → Prop) (w : World) : Prop :=
  C.slices_Collect_int seq1 (fun r2 w3 =>
   C.slices_Sort_int_int r2 (fun w4 =>
   K r2 w4) w3) w
set_option maxRecDepth 100000 in
theorem S.slices_Sorted_int_ok (seq1 : Value) (K : Sl → World → Prop) (w : World) (h : S.slices_Sorted_int seq1 K w) : C.slices_Sorted_int seq1 K w := by
  have e : fnV Try.prog Try.f83 (bodyOf Try.f83) (.t none (.u) (.t none (.u) (.t none (.u) (.t none (.u) (.u))))) [(0, .c (.s))] [seq1] K w = S.slices_Sorted_int seq1 K w := by kernel_rfl
  exact okF_mk Try.func83 rfl (fn_sound names_ok follows_ok Try.func83 rfl (by kernel_rfl) (Eq.mpr e h))

/-- slices.rotateLeft[buttress/tree.leaf] -/
def S.slices_rotateLeft_tree_leaf (s1 : Sl) (r2 : Int) (K : World → Prop) (w : World) : Prop :=
  0 ≤ r2 ∧ r2 ≤ (s1.cap : Int) ∧
   C.slices_Reverse_tree_leaf_tree_leaf ⟨slA s1.a 0 s1.cap 3, r2.toNat - 0, s1.cap - 0⟩ (fun w3 =>
   0 ≤ r2 ∧ r2 ≤ (s1.len : Int) ∧
   C.slices_Reverse_tree_leaf_tree_leaf ⟨slA s1.a r2.toNat s1.cap 3, s1.len - r2.toNat, s1.cap - r2.toNat⟩ (fun w4 =>
   C.slices_Reverse_tree_leaf_tree_leaf s1 (fun w5 =>
   K w5) w4) w3) w
set_option maxRecDepth 100000 in
theorem S.slices_rotateLeft_tree_leaf_ok (s1 : Sl) (r2 : Int) (K : World → Prop) (w : World) (h : S.slices_rotateLeft_tree_leaf s1 r2 K w) : C.slices_rotateLeft_tree_leaf s1 r2 K w := by
  have e : fnV Try.prog Try.f87 (bodyOf Try.f87) (.t none (.u) (.t none (.u) (.u))) [] [.slice s1.a s1.len s1.cap, .int .i64 r2] K w = S.slices_rotateLeft_tree_leaf s1 r2 K w := by kernel_rfl
  exact okF_mk Try.func87 rfl (fn_sound names_ok follows_ok Try.func87 rfl (by kernel_rfl) (Eq.mpr e h))

/-- slices.Collect[int] -/
def S.slices_Collect_int (seq1 : Value) (K : Sl → World → Prop) (w : World) : Prop :=
  C.slices_AppendSeq_int_int ⟨none, 0, 0⟩ seq1 (fun r2 w3 =>
   K r2 w3) w
set_option maxRecDepth 100000 in
theorem S.slices_Collect_int_ok (seq1 : Value) (K : Sl → World → Prop) (w : World) (h : S.slices_Collect_int seq1 K w) : C.slices_Collect_int seq1 K w := by
  have e : fnV Try.prog Try.f88 (bodyOf Try.f88) (.t none (.u) (.t none (.u) (.u))) [(0, .c (.s))] [seq1] K w = S.slices_Collect_int seq1 K w := by kernel_rfl
  exact okF_mk Try.func88 rfl (fn_sound names_ok follows_ok Try.func88 rfl (by kernel_rfl) (Eq.mpr e h))

/-- slices.Sort[[]int,int] -/
def S.slices_Sort_int_int (x1 : Sl) (K : World → Prop) (w : World) : Prop :=
  C.math_bits_Len (IntKind.u64.wrap (x1.len : Int)) (fun r2 w3 =>
   C.slices_pdqsortOrdered_int x1 (0 : Int) (x1.len : Int) r2 (fun w4 =>
   K w4) w3) w
set_option maxRecDepth 100000 in
theorem S.slices_Sort_int_int_ok (x1 : Sl) (K : World → Prop) (w : World) (h : S.slices_Sort_int_int x1 K w) : C.slices_Sort_int_int x1 K w := by
  have e : fnV Try.prog Try.f89 (bodyOf Try.f89) (.t none (.u) (.u)) [] [.slice x1.a x1.len x1.cap] K w = S.slices_Sort_int_int x1 K w := by kernel_rfl
  exact okF_mk Try.func89 rfl (fn_sound names_ok follows_ok Try.func89 rfl (by kernel_rfl) (Eq.mpr e h))

/-- slices.Reverse[[]buttress/tree.leaf,buttress/tree.leaf] -/
def S.slices_Reverse_tree_leaf_tree_leaf (s1 : Sl) (K : World → Prop) (w : World) : Prop :=
  ∀ l2 : Int → Int → World → Prop,
   (∀ (i3 : Int) (j4 : Int) (w5 : World), (bif decide (i3 < j4) then
    (Dr w5 fun w6 =>
   ∃ a7 : Addr, s1.a = some a7 ∧ 0 ≤ j4 ∧ j4 < (s1.len : Int) ∧
   LdL w6 (a7.add (j4.toNat * 3)) 0 [.i .i64, .i .i64, .i .i64] fun (t8 : Int) (t9 : Int) (t10 : Int) =>
   ∃ a11 : Addr, s1.a = some a11 ∧ 0 ≤ i3 ∧ i3 < (s1.len : Int) ∧
   LdL w6 (a11.add (i3.toNat * 3)) 0 [.i .i64, .i .i64, .i .i64] fun (t12 : Int) (t13 : Int) (t14 : Int) =>
   ∃ a15 : Addr, s1.a = some a15 ∧ 0 ≤ i3 ∧ i3 < (s1.len : Int) ∧
   (StL w6 (a15.add (i3.toNat * 3)) 0 [.int .i64 t8, .int .i64 t9, .int .i64 t10] fun w16 =>
   ∃ a17 : Addr, s1.a = some a17 ∧ 0 ≤ j4 ∧ j4 < (s1.len : Int) ∧
   (StL w16 (a17.add (j4.toNat * 3)) 0 [.int .i64 t12, .int .i64 t13, .int .i64 t14] fun w18 =>
   l2 (IntKind.i64.wrap (i3 + (1 : Int))) (IntKind.i64.wrap (j4 - (1 : Int))) w18) ∧
   True) ∧
   True)
   else
    (K w5)) → l2 i3 j4 w5) →
   l2 (0 : Int) (IntKind.i64.wrap ((s1.len : Int) - (1 : Int))) w
set_option maxRecDepth 100000 in
theorem S.slices_Reverse_tree_leaf_tree_leaf_ok (s1 : Sl) (K : World → Prop) (w : World) (h : S.slices_Reverse_tree_leaf_tree_leaf s1 K w) : C.slices_Reverse_tree_leaf_tree_leaf s1 K w := by
  have e : fnV Try.prog Try.f93 (bodyOf Try.f93) (.t none (.u) (.t none (.t (some [(2, .c (.i .i64)), (3, .c (.i .i64))]) (.t none (.t none (.u) (.t none (.u) (.u))) (.t none (.t none (.r none (.one 0 4094 (.one 1 4092 (.one 2 16376 (.one 3 16368 (.one 4 3872 (.one 5 3840 (.one 6 3840 (.one 7 3840 (.one 8 512 (.one 9 0 (.one 10 0 (.one 11 0 (.one 12 0 (.alt 13 (.one 14 0 (.alt 15 (.done) (.none))) (.none)))))))))))))))) (.u)) (.u))) (.u)) (.u))) [] [.slice s1.a s1.len s1.cap] K w = S.slices_Reverse_tree_leaf_tree_leaf s1 K w := by kernel_rfl
  exact okF_mk Try.func93 rfl (fn_sound names_ok follows_ok Try.func93 rfl (by kernel_rfl) (Eq.mpr e h))

/-- slices.pdqsortOrdered[int] -/
def S.slices_pdqsortOrdered_int (data1 : Sl) (a2 : Int) (b3 : Int) (limit4 : Int) (K : World → Prop) (w : World) : Prop :=
  ∀ l5 : Int → Int → Int → Bool → Bool → World → Prop,
   (∀ (a6 : Int) (b7 : Int) (limit8 : Int) (wasBalanced9 : Bool) (wasPartitioned10 : Bool) (w11 : World), (bif decide ((IntKind.i64.wrap (b7 - a6)) ≤ (12 : Int)) then
    (C.slices_insertionSortOrdered_int data1 a6 b7 (fun w12 =>
   K w12) w11)
   else
    (bif limit8 == (0 : Int) then
    (C.slices_heapSortOrdered_int data1 a6 b7 (fun w13 =>
   K w13) w11)
   else
    (∀ k14 : Int → World → Prop,
   (∀ (limit15 : Int) (w16 : World), (C.slices_choosePivotOrdered_int data1 a6 b7 (fun r17 r18 w19 =>
   ∀ k20 : Int → Int → World → Prop,
   (∀ (pivot21 : Int) (hint22 : Int) (w23 : World), (∀ k24 : Bool → World → Prop,
   (∀ (t25 : Bool) (w26 : World), (∀ k27 : World → Prop,
   (∀ (w28 : World), (∀ k29 : Bool → World → Prop,
   (∀ (t30 : Bool) (w31 : World), (bif t30 then
    (C.slices_partitionEqualOrdered_int data1 a6 b7 pivot21 (fun r32 w33 =>
   l5 r32 b7 limit15 wasBalanced9 wasPartitioned10 w33) w31)
   else
    (C.slices_partitionOrdered_int data1 a6 b7 pivot21 (fun r34 r35 w36 =>
   (8 : Int) ≠ 0 ∧
   bif decide ((IntKind.i64.wrap (r34 - a6)) < (IntKind.i64.wrap (b7 - r34))) then
    (C.slices_pdqsortOrdered_int data1 a6 r34 limit15 (fun w37 =>
   l5 (IntKind.i64.wrap (r34 + (1 : Int))) b7 limit15 (decide ((IntKind.i64.wrap (r34 - a6)) ≥ (IntKind.i64.wrap ((IntKind.i64.wrap (b7 - a6)).tdiv (8 : Int))))) r35 w37) w36)
   else
    (C.slices_pdqsortOrdered_int data1 (IntKind.i64.wrap (r34 + (1 : Int))) b7 limit15 (fun w38 =>
   l5 a6 r34 limit15 (decide ((IntKind.i64.wrap (b7 - r34)) ≥ (IntKind.i64.wrap ((IntKind.i64.wrap (b7 - a6)).tdiv (8 : Int))))) r35 w38) w36)) w31)) → k29 t30 w31) →
   (Dr w28 fun w39 =>
   bif decide (a6 > (0 : Int)) then
    (∃ a40 : Addr, data1.a = some a40 ∧ 0 ≤ IntKind.i64.wrap (a6 - (1 : Int)) ∧ IntKind.i64.wrap (a6 - (1 : Int)) < (data1.len : Int) ∧
   ∃ t41 : Int, w39.cell? (a40.add ((IntKind.i64.wrap (a6 - (1 : Int))).toNat * 1)) = some (.int .i64 t41) ∧
   ∃ a42 : Addr, data1.a = some a42 ∧ 0 ≤ pivot21 ∧ pivot21 < (data1.len : Int) ∧
   ∃ t43 : Int, w39.cell? (a42.add (pivot21.toNat * 1)) = some (.int .i64 t43) ∧
   (C.cmp_Less_int t41 t43 (fun r44 w45 =>
   k29 (!r44) w45) w39) ∧
   True)
   else
    ((k29 false w39) ∧
   True))) → k27 w28) →
   (bif t25 then
    (C.slices_partialInsertionSortOrdered_int data1 a6 b7 (fun r46 w47 =>
   bif r46 then
    (K w47)
   else
    (k27 w47)) w26)
   else
    (k27 w26))) → k24 t25 w26) →
   (bif wasBalanced9 then
    (bif wasPartitioned10 then
    (k24 (hint22 == (1 : Int)) w23)
   else
    (k24 false w23))
   else
    (k24 false w23))) → k20 pivot21 hint22 w23) →
   (bif r18 == (2 : Int) then
    (C.slices_reverseRangeOrdered_int data1 a6 b7 (fun w48 =>
   k20 (IntKind.i64.wrap ((IntKind.i64.wrap (b7 - (1 : Int))) - (IntKind.i64.wrap (r17 - a6)))) (1 : Int) w48) w19)
   else
    (k20 r17 r18 w19))) w16) → k14 limit15 w16) →
   (bif !wasBalanced9 then
    (C.slices_breakPatternsOrdered_int data1 a6 b7 (fun w49 =>
   k14 (IntKind.i64.wrap (limit8 - (1 : Int))) w49) w11)
   else
    (k14 limit8 w11))))) → l5 a6 b7 limit8 wasBalanced9 wasPartitioned10 w11) →
   l5 a2 b3 limit4 true true w
set_option maxRecDepth 100000 in
theorem S.slices_pdqsortOrdered_int_ok (data1 : Sl) (a2 : Int) (b3 : Int) (limit4 : Int) (K : World → Prop) (w : World) (h : S.slices_pdqsortOrdered_int data1 a2 b3 limit4 K w) : C.slices_pdqsortOrdered_int data1 a2 b3 limit4 K w := by
  have e : fnV Try.prog Try.f95 (bodyOf Try.f95) (.t none (.u) (.t none (.u) (.t none (.t (some [(1, .c (.i .i64)), (2, .c (.i .i64)), (3, .c (.i .i64)), (8, .c (.b)), (9, .c (.b))]) (.t none (.t none (.u) (.t none (.t none (.u) (.t none (.t none (.u) (.u)) (.u))) (.t none (.t none (.u) (.t none (.t none (.u) (.u)) (.u))) (.t none (.t none (.u) (.t (some [(3, .c (.i .i64))]) (.t none (.u) (.u)) (.u))) (.t none (.u) (.t none (.t none (.u) (.t (some [(11, .c (.i .i64)), (12, .c (.i .i64))]) (.t none (.u) (.t none (.u) (.u))) (.u))) (.t none (.t none (.r (some [(68, .c (.b))]) .done) (.t (some []) (.t none (.u) (.t none (.u) (.u))) (.u))) (.t none (.t none (.r (some [(87, .c (.b))]) (.one 0 0 (.one 1 0 (.one 2 0 (.one 3 3888 (.one 4 3840 (.one 5 3840 (.one 6 3840 (.one 7 3840 (.one 8 512 (.one 9 0 (.one 10 0 (.one 11 0 (.alt 12 (.one 13 0 (.one 14 0 (.done))) (.none))))))))))))))) (.t none (.t none (.u) (.t none (.u) (.u))) (.u))) (.t none (.u) (.t none (.u) (.t none (.u) (.t none (.u) (.t none (.u) (.t none (.t none (.u) (.t none (.u) (.u))) (.t none (.u) (.t none (.u) (.u))))))))))))))))) (.u)) (.u)) (.u)))) [] [.slice data1.a data1.len data1.cap, .int .i64 a2, .int .i64 b3, .int .i64 limit4] K w = S.slices_pdqsortOrdered_int data1 a2 b3 limit4 K w := by kernel_rfl
  exact okF_mk Try.func95 rfl (fn_sound names_ok follows_ok Try.func95 rfl (by kernel_rfl) (Eq.mpr e h))

/-- slices.insertionSortOrdered[int] -/
def S.slices_insertionSortOrdered_int (data1 : Sl) (a2 : Int) (b3 : Int) (K : World → Prop) (w : World) : Prop :=
  ∀ l4 : Int → World → Prop,
   (∀ (i5 : Int) (w6 : World), (bif decide (i5 < b3) then
    (∀ l7 : Int → World → Prop,
   (∀ (j8 : Int) (w9 : World), (∀ k10 : Bool → World → Prop,
   (∀ (t11 : Bool) (w12 : World), (bif t11 then
    (Dr w12 fun w13 =>
   ∃ a14 : Addr, data1.a = some a14 ∧ 0 ≤ IntKind.i64.wrap (j8 - (1 : Int)) ∧ IntKind.i64.wrap (j8 - (1 : Int)) < (data1.len : Int) ∧
   ∃ t15 : Int, w13.cell? (a14.add ((IntKind.i64.wrap (j8 - (1 : Int))).toNat * 1)) = some (.int .i64 t15) ∧
   ∃ a16 : Addr, data1.a = some a16 ∧ 0 ≤ j8 ∧ j8 < (data1.len : Int) ∧
   ∃ t17 : Int, w13.cell? (a16.add (j8.toNat * 1)) = some (.int .i64 t17) ∧
   ∃ a18 : Addr, data1.a = some a18 ∧ 0 ≤ j8 ∧ j8 < (data1.len : Int) ∧
   (St w13 (a18.add (j8.toNat * 1)) (.int .i64 t15) fun w19 =>
   ∃ a20 : Addr, data1.a = some a20 ∧ 0 ≤ IntKind.i64.wrap (j8 - (1 : Int)) ∧ IntKind.i64.wrap (j8 - (1 : Int)) < (data1.len : Int) ∧
   (St w19 (a20.add ((IntKind.i64.wrap (j8 - (1 : Int))).toNat * 1)) (.int .i64 t17) fun w21 =>
   l7 (IntKind.i64.wrap (j8 - (1 : Int))) w21) ∧
   True) ∧
   True)
   else
    (l4 (IntKind.i64.wrap (i5 + (1 : Int))) w12)) → k10 t11 w12) →
   (Dr w9 fun w22 =>
   bif decide (j8 > a2) then
    (∃ a23 : Addr, data1.a = some a23 ∧ 0 ≤ j8 ∧ j8 < (data1.len : Int) ∧
   ∃ t24 : Int, w22.cell? (a23.add (j8.toNat * 1)) = some (.int .i64 t24) ∧
   ∃ a25 : Addr, data1.a = some a25 ∧ 0 ≤ IntKind.i64.wrap (j8 - (1 : Int)) ∧ IntKind.i64.wrap (j8 - (1 : Int)) < (data1.len : Int) ∧
   ∃ t26 : Int, w22.cell? (a25.add ((IntKind.i64.wrap (j8 - (1 : Int))).toNat * 1)) = some (.int .i64 t26) ∧
   (C.cmp_Less_int t24 t26 (fun r27 w28 =>
   k10 r27 w28) w22) ∧
   True)
   else
    ((k10 false w22) ∧
   True))) → l7 j8 w9) →
   l7 i5 w6)
   else
    (K w6)) → l4 i5 w6) →
   l4 (IntKind.i64.wrap (a2 + (1 : Int))) w
set_option maxRecDepth 100000 in
theorem S.slices_insertionSortOrdered_int_ok (data1 : Sl) (a2 : Int) (b3 : Int) (K : World → Prop) (w : World) (h : S.slices_insertionSortOrdered_int data1 a2 b3 K w) : C.slices_insertionSortOrdered_int data1 a2 b3 K w := by
  have e : fnV Try.prog Try.f97 (bodyOf Try.f97) (.t none (.u) (.t none (.t (some [(6, .c (.i .i64))]) (.t none (.t none (.u) (.t none (.u) (.u))) (.t none (.t none (.t none (.u) (.t none (.t (some [(7, .c (.i .i64))]) (.t none (.t none (.r (some [(30, .c (.b))]) (.one 0 2 (.one 1 0 (.one 2 0 (.one 3 0 (.one 4 7968 (.one 5 7936 (.one 6 7936 (.one 7 7936 (.one 8 1536 (.one 9 0 (.one 10 0 (.one 11 0 (.one 12 0 (.alt 13 (.one 14 0 (.done)) (.none)))))))))))))))) (.t none (.u) (.u))) (.t none (.t none (.r none (.one 0 16382 (.one 1 16380 (.one 2 65528 (.one 3 65504 (.one 4 65504 (.one 5 15552 (.one 6 15360 (.one 7 15360 (.one 8 15360 (.one 9 15360 (.one 10 2048 (.one 11 0 (.one 12 0 (.one 13 0 (.one 14 0 (.alt 15 (.one 16 0 (.alt 17 (.done) (.none))) (.none)))))))))))))))))) (.u)) (.u))) (.u)) (.u))) (.u)) (.u))) (.u)) (.u))) [] [.slice data1.a data1.len data1.cap, .int .i64 a2, .int .i64 b3] K w = S.slices_insertionSortOrdered_int data1 a2 b3 K w := by kernel_rfl
  exact okF_mk Try.func97 rfl (fn_sound names_ok follows_ok Try.func97 rfl (by kernel_rfl) (Eq.mpr e h))

/-- slices.heapSortOrdered[int] -/
def S.slices_heapSortOrdered_int (data1 : Sl) (a2 : Int) (b3 : Int) (K : World → Prop) (w : World) : Prop :=
  (2 : Int) ≠ 0 ∧
   ∀ l4 : Int → World → Prop,
   (∀ (i5 : Int) (w6 : World), (bif decide (i5 ≥ (0 : Int)) then
    (C.slices_siftDownOrdered_int data1 i5 (IntKind.i64.wrap (b3 - a2)) a2 (fun w7 =>
   l4 (IntKind.i64.wrap (i5 - (1 : Int))) w7) w6)
   else
    (∀ l8 : Int → World → Prop,
   (∀ (i9 : Int) (w10 : World), (bif decide (i9 ≥ (0 : Int)) then
    (Dr w10 fun w11 =>
   ∃ a12 : Addr, data1.a = some a12 ∧ 0 ≤ IntKind.i64.wrap (a2 + i9) ∧ IntKind.i64.wrap (a2 + i9) < (data1.len : Int) ∧
   ∃ t13 : Int, w11.cell? (a12.add ((IntKind.i64.wrap (a2 + i9)).toNat * 1)) = some (.int .i64 t13) ∧
   ∃ a14 : Addr, data1.a = some a14 ∧ 0 ≤ a2 ∧ a2 < (data1.len : Int) ∧
   ∃ t15 : Int, w11.cell? (a14.add (a2.toNat * 1)) = some (.int .i64 t15) ∧
   ∃ a16 : Addr, data1.a = some a16 ∧ 0 ≤ a2 ∧ a2 < (data1.len : Int) ∧
   (St w11 (a16.add (a2.toNat * 1)) (.int .i64 t13) fun w17 =>
   ∃ a18 : Addr, data1.a = some a18 ∧ 0 ≤ IntKind.i64.wrap (a2 + i9) ∧ IntKind.i64.wrap (a2 + i9) < (data1.len : Int) ∧
   (St w17 (a18.add ((IntKind.i64.wrap (a2 + i9)).toNat * 1)) (.int .i64 t15) fun w19 =>
   C.slices_siftDownOrdered_int data1 (0 : Int) i9 a2 (fun w20 =>
   l8 (IntKind.i64.wrap (i9 - (1 : Int))) w20) w19) ∧
   True) ∧
   True)
   else
    (K w10)) → l8 i9 w10) →
   l8 (IntKind.i64.wrap ((IntKind.i64.wrap (b3 - a2)) - (1 : Int))) w6)) → l4 i5 w6) →
   l4 (IntKind.i64.wrap ((IntKind.i64.wrap ((IntKind.i64.wrap (b3 - a2)) - (1 : Int))).tdiv (2 : Int))) w
set_option maxRecDepth 100000 in
theorem S.slices_heapSortOrdered_int_ok (data1 : Sl) (a2 : Int) (b3 : Int) (K : World → Prop) (w : World) (h : S.slices_heapSortOrdered_int data1 a2 b3 K w) : C.slices_heapSortOrdered_int data1 a2 b3 K w := by
  have e : fnV Try.prog Try.f98 (bodyOf Try.f98) (.t none (.u) (.t none (.u) (.t none (.u) (.t none (.t none (.u) (.t none (.t (some [(9, .c (.i .i64))]) (.t none (.t none (.u) (.t none (.u) (.u))) (.t none (.t none (.u) (.u)) (.u))) (.u)) (.u))) (.t none (.u) (.t none (.t (some [(10, .c (.i .i64))]) (.t none (.t none (.u) (.t none (.u) (.u))) (.t none (.t none (.t none (.r none (.one 0 65534 (.one 1 65532 (.one 2 262136 (.one 3 262096 (.one 4 262080 (.one 5 262080 (.one 6 62336 (.one 7 61696 (.one 8 61440 (.one 9 61440 (.one 10 61440 (.one 11 61440 (.one 12 8192 (.one 13 0 (.one 14 0 (.one 15 0 (.one 16 0 (.alt 17 (.one 18 0 (.alt 19 (.done) (.none))) (.none)))))))))))))))))))) (.u)) (.u)) (.u))) (.u)) (.u))))))) [] [.slice data1.a data1.len data1.cap, .int .i64 a2, .int .i64 b3] K w = S.slices_heapSortOrdered_int data1 a2 b3 K w := by kernel_rfl
  exact okF_mk Try.func98 rfl (fn_sound names_ok follows_ok Try.func98 rfl (by kernel_rfl) (Eq.mpr e h))

/-- slices.breakPatternsOrdered[int] -/
def S.slices_breakPatternsOrdered_int (data1 : Sl) (a2 : Int) (b3 : Int) (K : World → Prop) (w : World) : Prop :=
  bif decide ((IntKind.i64.wrap (b3 - a2)) ≥ (8 : Int)) then
    (Al w (.cells #[.int .u64 (0 : Int)] 141) fun w4 =>
   St w4 (Addr.mk w.heap.size 0 none) (.int .u64 (IntKind.u64.wrap (IntKind.i64.wrap (b3 - a2)))) fun w5 =>
   C.slices_nextPowerOfTwo (IntKind.i64.wrap (b3 - a2)) (fun r6 w7 =>
   (4 : Int) ≠ 0 ∧
   ∀ l8 : Int → World → Prop,
   (∀ (idx9 : Int) (w10 : World), ((4 : Int) ≠ 0 ∧
   bif decide (idx9 ≤ (IntKind.i64.wrap ((IntKind.i64.wrap (a2 + (IntKind.i64.wrap ((IntKind.i64.wrap ((IntKind.i64.wrap (b3 - a2)).tdiv (4 : Int))) * (2 : Int))))) + (1 : Int)))) then
    (C.slices_xorshift_Next (some (Addr.mk w.heap.size 0 none)) (fun r11 w12 =>
   ∀ k13 : Int → World → Prop,
   (∀ (other14 : Int) (w15 : World), (Dr w15 fun w16 =>
   ∃ a17 : Addr, data1.a = some a17 ∧ 0 ≤ IntKind.i64.wrap (a2 + other14) ∧ IntKind.i64.wrap (a2 + other14) < (data1.len : Int) ∧
   ∃ t18 : Int, w16.cell? (a17.add ((IntKind.i64.wrap (a2 + other14)).toNat * 1)) = some (.int .i64 t18) ∧
   ∃ a19 : Addr, data1.a = some a19 ∧ 0 ≤ idx9 ∧ idx9 < (data1.len : Int) ∧
   ∃ t20 : Int, w16.cell? (a19.add (idx9.toNat * 1)) = some (.int .i64 t20) ∧
   ∃ a21 : Addr, data1.a = some a21 ∧ 0 ≤ idx9 ∧ idx9 < (data1.len : Int) ∧
   (St w16 (a21.add (idx9.toNat * 1)) (.int .i64 t18) fun w22 =>
   ∃ a23 : Addr, data1.a = some a23 ∧ 0 ≤ IntKind.i64.wrap (a2 + other14) ∧ IntKind.i64.wrap (a2 + other14) < (data1.len : Int) ∧
   (St w22 (a23.add ((IntKind.i64.wrap (a2 + other14)).toNat * 1)) (.int .i64 t20) fun w24 =>
   l8 (IntKind.i64.wrap (idx9 + (1 : Int))) w24) ∧
   True) ∧
   True) → k13 other14 w15) →
   (bif decide ((IntKind.i64.wrap (andI .u64 r11 (IntKind.u64.wrap (r6 - (1 : Int))))) ≥ (IntKind.i64.wrap (b3 - a2))) then
    (k13 (IntKind.i64.wrap ((IntKind.i64.wrap (andI .u64 r11 (IntKind.u64.wrap (r6 - (1 : Int))))) - (IntKind.i64.wrap (b3 - a2)))) w12)
   else
    (k13 (IntKind.i64.wrap (andI .u64 r11 (IntKind.u64.wrap (r6 - (1 : Int))))) w12))) w10)
   else
    (K w10)) → l8 idx9 w10) →
   l8 (IntKind.i64.wrap ((IntKind.i64.wrap (a2 + (IntKind.i64.wrap ((IntKind.i64.wrap ((IntKind.i64.wrap (b3 - a2)).tdiv (4 : Int))) * (2 : Int))))) - (1 : Int))) w7) w5)
   else
    (K w)
set_option maxRecDepth 100000 in
theorem S.slices_breakPatternsOrdered_int_ok (data1 : Sl) (a2 : Int) (b3 : Int) (K : World → Prop) (w : World) (h : S.slices_breakPatternsOrdered_int data1 a2 b3 K w) : C.slices_breakPatternsOrdered_int data1 a2 b3 K w := by
  have e : fnV Try.prog Try.f99 (bodyOf Try.f99) (.t none (.u) (.t none (.u) (.t none (.t none (.u) (.t none (.u) (.t none (.u) (.t none (.t (some [(9, .c (.i .i64))]) (.t none (.t none (.u) (.t none (.u) (.u))) (.t none (.t none (.t none (.u) (.t none (.t none (.u) (.t (some [(10, .c (.i .i64))]) (.u) (.u))) (.r none (.one 0 65534 (.one 1 65532 (.one 2 262136 (.one 3 262096 (.one 4 262080 (.one 5 262080 (.one 6 62336 (.one 7 61696 (.one 8 61440 (.one 9 61440 (.one 10 61440 (.one 11 61440 (.one 12 8192 (.one 13 0 (.one 14 0 (.one 15 0 (.one 16 0 (.alt 17 (.one 18 0 (.alt 19 (.done) (.none))) (.none)))))))))))))))))))))) (.u)) (.u))) (.u)) (.u))))) (.u)))) [] [.slice data1.a data1.len data1.cap, .int .i64 a2, .int .i64 b3] K w = S.slices_breakPatternsOrdered_int data1 a2 b3 K w := by kernel_rfl
  exact okF_mk Try.func99 rfl (fn_sound names_ok follows_ok Try.func99 rfl (by kernel_rfl) (Eq.mpr e h))

/-- slices.choosePivotOrdered[int] -/
def S.slices_choosePivotOrdered_int (data1 : Sl) (a2 : Int) (b3 : Int) (K : Int → Int → World → Prop) (w : World) : Prop :=
  Al w (.cells #[.int .i64 (0 : Int)] 3) fun w4 =>
   (4 : Int) ≠ 0 ∧
   (4 : Int) ≠ 0 ∧
   (4 : Int) ≠ 0 ∧
   ∀ k5 : Int → World → Prop,
   (∀ (j6 : Int) (w7 : World), (∃ t8 : Int, w7.cell? (Addr.mk w.heap.size 0 none) = some (.int .i64 t8) ∧
   bif t8 == (0 : Int) then
    (K j6 (1 : Int) w7)
   else
    (bif t8 == (12 : Int) then
    (K j6 (2 : Int) w7)
   else
    (K j6 (0 : Int) w7))) → k5 j6 w7) →
   (bif decide ((IntKind.i64.wrap (b3 - a2)) ≥ (8 : Int)) then
    (bif decide ((IntKind.i64.wrap (b3 - a2)) ≥ (50 : Int)) then
    (C.slices_medianAdjacentOrdered_int data1 (IntKind.i64.wrap (a2 + (IntKind.i64.wrap ((IntKind.i64.wrap ((IntKind.i64.wrap (b3 - a2)).tdiv (4 : Int))) * (1 : Int))))) (some (Addr.mk w.heap.size 0 none)) (fun r9 w10 =>
   C.slices_medianAdjacentOrdered_int data1 (IntKind.i64.wrap (a2 + (IntKind.i64.wrap ((IntKind.i64.wrap ((IntKind.i64.wrap (b3 - a2)).tdiv (4 : Int))) * (2 : Int))))) (some (Addr.mk w.heap.size 0 none)) (fun r11 w12 =>
   C.slices_medianAdjacentOrdered_int data1 (IntKind.i64.wrap (a2 + (IntKind.i64.wrap ((IntKind.i64.wrap ((IntKind.i64.wrap (b3 - a2)).tdiv (4 : Int))) * (3 : Int))))) (some (Addr.mk w.heap.size 0 none)) (fun r13 w14 =>
   C.slices_medianOrdered_int data1 r9 r11 r13 (some (Addr.mk w.heap.size 0 none)) (fun r15 w16 =>
   k5 r15 w16) w14) w12) w10) w4)
   else
    (C.slices_medianOrdered_int data1 (IntKind.i64.wrap (a2 + (IntKind.i64.wrap ((IntKind.i64.wrap ((IntKind.i64.wrap (b3 - a2)).tdiv (4 : Int))) * (1 : Int))))) (IntKind.i64.wrap (a2 + (IntKind.i64.wrap ((IntKind.i64.wrap ((IntKind.i64.wrap (b3 - a2)).tdiv (4 : Int))) * (2 : Int))))) (IntKind.i64.wrap (a2 + (IntKind.i64.wrap ((IntKind.i64.wrap ((IntKind.i64.wrap (b3 - a2)).tdiv (4 : Int))) * (3 : Int))))) (some (Addr.mk w.heap.size 0 none)) (fun r17 w18 =>
   k5 r17 w18) w4))
   else
    (k5 (IntKind.i64.wrap (a2 + (IntKind.i64.wrap ((IntKind.i64.wrap ((IntKind.i64.wrap (b3 - a2)).tdiv (4 : Int))) * (2 : Int))))) w4))
set_option maxRecDepth 100000 in
theorem S.slices_choosePivotOrdered_int_ok (data1 : Sl) (a2 : Int) (b3 : Int) (K : Int → Int → World → Prop) (w : World) (h : S.slices_choosePivotOrdered_int data1 a2 b3 K w) : C.slices_choosePivotOrdered_int data1 a2 b3 K w := by
  have e : fnV Try.prog Try.f100 (bodyOf Try.f100) (.t none (.u) (.t none (.u) (.t none (.u) (.t none (.u) (.t none (.u) (.t none (.u) (.t none (.t none (.u) (.t (some [(11, .c (.i .i64))]) (.t none (.t none (.u) (.t none (.t none (.u) (.t none (.u) (.u))) (.u))) (.u)) (.u))) (.t none (.u) (.t none (.t none (.u) (.t none (.t none (.u) (.u)) (.t none (.u) (.t none (.t none (.u) (.u)) (.t none (.u) (.u)))))) (.u)))))))))) [(0, .c (.i .i64)), (1, .c (.i .i64))] [.slice data1.a data1.len data1.cap, .int .i64 a2, .int .i64 b3] K w = S.slices_choosePivotOrdered_int data1 a2 b3 K w := by kernel_rfl
  exact okF_mk Try.func100 rfl (fn_sound names_ok follows_ok Try.func100 rfl (by kernel_rfl) (Eq.mpr e h))

/-- slices.reverseRangeOrdered[int] -/
def S.slices_reverseRangeOrdered_int (data1 : Sl) (a2 : Int) (b3 : Int) (K : World → Prop) (w : World) : Prop :=
  ∀ l4 : Int → Int → World → Prop,
   (∀ (i5 : Int) (j6 : Int) (w7 : World), (bif decide (i5 < j6) then
    (Dr w7 fun w8 =>
   ∃ a9 : Addr, data1.a = some a9 ∧ 0 ≤ j6 ∧ j6 < (data1.len : Int) ∧
   ∃ t10 : Int, w8.cell? (a9.add (j6.toNat * 1)) = some (.int .i64 t10) ∧
   ∃ a11 : Addr, data1.a = some a11 ∧ 0 ≤ i5 ∧ i5 < (data1.len : Int) ∧
   ∃ t12 : Int, w8.cell? (a11.add (i5.toNat * 1)) = some (.int .i64 t12) ∧
   ∃ a13 : Addr, data1.a = some a13 ∧ 0 ≤ i5 ∧ i5 < (data1.len : Int) ∧
   (St w8 (a13.add (i5.toNat * 1)) (.int .i64 t10) fun w14 =>
   ∃ a15 : Addr, data1.a = some a15 ∧ 0 ≤ j6 ∧ j6 < (data1.len : Int) ∧
   (St w14 (a15.add (j6.toNat * 1)) (.int .i64 t12) fun w16 =>
   l4 (IntKind.i64.wrap (i5 + (1 : Int))) (IntKind.i64.wrap (j6 - (1 : Int))) w16) ∧
   True) ∧
   True)
   else
    (K w7)) → l4 i5 j6 w7) →
   l4 a2 (IntKind.i64.wrap (b3 - (1 : Int))) w
set_option maxRecDepth 100000 in
theorem S.slices_reverseRangeOrdered_int_ok (data1 : Sl) (a2 : Int) (b3 : Int) (K : World → Prop) (w : World) (h : S.slices_reverseRangeOrdered_int data1 a2 b3 K w) : C.slices_reverseRangeOrdered_int data1 a2 b3 K w := by
  have e : fnV Try.prog Try.f101 (bodyOf Try.f101) (.t none (.u) (.t none (.u) (.t none (.t (some [(6, .c (.i .i64)), (7, .c (.i .i64))]) (.t none (.t none (.u) (.t none (.u) (.u))) (.t none (.t none (.r none (.one 0 4094 (.one 1 4092 (.one 2 16376 (.one 3 16368 (.one 4 3872 (.one 5 3840 (.one 6 3840 (.one 7 3840 (.one 8 512 (.one 9 0 (.one 10 0 (.one 11 0 (.one 12 0 (.alt 13 (.one 14 0 (.alt 15 (.done) (.none))) (.none)))))))))))))))) (.t none (.u) (.u))) (.u))) (.u)) (.u)))) [] [.slice data1.a data1.len data1.cap, .int .i64 a2, .int .i64 b3] K w = S.slices_reverseRangeOrdered_int data1 a2 b3 K w := by kernel_rfl
  exact okF_mk Try.func101 rfl (fn_sound names_ok follows_ok Try.func101 rfl (by kernel_rfl) (Eq.mpr e h))

/-- slices.partialInsertionSortOrdered[int] -/
def S.slices_partialInsertionSortOrdered_int (data1 : Sl) (a2 : Int) (b3 : Int) (K : Bool → World → Prop) (w : World) : Prop :=
  ∀ l4 : Int → Int → World → Prop,
   (∀ (i5 : Int) (j6 : Int) (w7 : World), (bif decide (j6 < (5 : Int)) then
    (∀ k8 : Int → World → Prop,
   (∀ (i9 : Int) (w10 : World), (bif i9 == b3 then
    (K true w10)
   else
    (bif decide ((IntKind.i64.wrap (b3 - a2)) < (50 : Int)) then
    (K false w10)
   else
    (Dr w10 fun w11 =>
   ∃ a12 : Addr, data1.a = some a12 ∧ 0 ≤ IntKind.i64.wrap (i9 - (1 : Int)) ∧ IntKind.i64.wrap (i9 - (1 : Int)) < (data1.len : Int) ∧
   ∃ t13 : Int, w11.cell? (a12.add ((IntKind.i64.wrap (i9 - (1 : Int))).toNat * 1)) = some (.int .i64 t13) ∧
   ∃ a14 : Addr, data1.a = some a14 ∧ 0 ≤ i9 ∧ i9 < (data1.len : Int) ∧
   ∃ t15 : Int, w11.cell? (a14.add (i9.toNat * 1)) = some (.int .i64 t15) ∧
   ∃ a16 : Addr, data1.a = some a16 ∧ 0 ≤ i9 ∧ i9 < (data1.len : Int) ∧
   (St w11 (a16.add (i9.toNat * 1)) (.int .i64 t13) fun w17 =>
   ∃ a18 : Addr, data1.a = some a18 ∧ 0 ≤ IntKind.i64.wrap (i9 - (1 : Int)) ∧ IntKind.i64.wrap (i9 - (1 : Int)) < (data1.len : Int) ∧
   (St w17 (a18.add ((IntKind.i64.wrap (i9 - (1 : Int))).toNat * 1)) (.int .i64 t15) fun w19 =>
   ∀ k20 : World → Prop,
   (∀ (w21 : World), (bif decide ((IntKind.i64.wrap (b3 - i9)) ≥ (2 : Int)) then
    (∀ l22 : Int → World → Prop,
   (∀ (j23 : Int) (w24 : World), (bif decide (j23 < b3) then
    (Dr w24 fun w25 =>
   ∃ a26 : Addr, data1.a = some a26 ∧ 0 ≤ j23 ∧ j23 < (data1.len : Int) ∧
   ∃ t27 : Int, w25.cell? (a26.add (j23.toNat * 1)) = some (.int .i64 t27) ∧
   ∃ a28 : Addr, data1.a = some a28 ∧ 0 ≤ IntKind.i64.wrap (j23 - (1 : Int)) ∧ IntKind.i64.wrap (j23 - (1 : Int)) < (data1.len : Int) ∧
   ∃ t29 : Int, w25.cell? (a28.add ((IntKind.i64.wrap (j23 - (1 : Int))).toNat * 1)) = some (.int .i64 t29) ∧
   (C.cmp_Less_int t27 t29 (fun r30 w31 =>
   bif !r30 then
    (l4 i9 (IntKind.i64.wrap (j6 + (1 : Int))) w31)
   else
    (Dr w31 fun w32 =>
   ∃ a33 : Addr, data1.a = some a33 ∧ 0 ≤ IntKind.i64.wrap (j23 - (1 : Int)) ∧ IntKind.i64.wrap (j23 - (1 : Int)) < (data1.len : Int) ∧
   ∃ t34 : Int, w32.cell? (a33.add ((IntKind.i64.wrap (j23 - (1 : Int))).toNat * 1)) = some (.int .i64 t34) ∧
   ∃ a35 : Addr, data1.a = some a35 ∧ 0 ≤ j23 ∧ j23 < (data1.len : Int) ∧
   ∃ t36 : Int, w32.cell? (a35.add (j23.toNat * 1)) = some (.int .i64 t36) ∧
   ∃ a37 : Addr, data1.a = some a37 ∧ 0 ≤ j23 ∧ j23 < (data1.len : Int) ∧
   (St w32 (a37.add (j23.toNat * 1)) (.int .i64 t34) fun w38 =>
   ∃ a39 : Addr, data1.a = some a39 ∧ 0 ≤ IntKind.i64.wrap (j23 - (1 : Int)) ∧ IntKind.i64.wrap (j23 - (1 : Int)) < (data1.len : Int) ∧
   (St w38 (a39.add ((IntKind.i64.wrap (j23 - (1 : Int))).toNat * 1)) (.int .i64 t36) fun w40 =>
   l22 (IntKind.i64.wrap (j23 + (1 : Int))) w40) ∧
   True) ∧
   True)) w25) ∧
   True)
   else
    (l4 i9 (IntKind.i64.wrap (j6 + (1 : Int))) w24)) → l22 j23 w24) →
   l22 (IntKind.i64.wrap (i9 + (1 : Int))) w21)
   else
    (l4 i9 (IntKind.i64.wrap (j6 + (1 : Int))) w21)) → k20 w21) →
   (bif decide ((IntKind.i64.wrap (i9 - a2)) ≥ (2 : Int)) then
    (∀ l41 : Int → World → Prop,
   (∀ (j42 : Int) (w43 : World), (bif decide (j42 ≥ (1 : Int)) then
    (Dr w43 fun w44 =>
   ∃ a45 : Addr, data1.a = some a45 ∧ 0 ≤ j42 ∧ j42 < (data1.len : Int) ∧
   ∃ t46 : Int, w44.cell? (a45.add (j42.toNat * 1)) = some (.int .i64 t46) ∧
   ∃ a47 : Addr, data1.a = some a47 ∧ 0 ≤ IntKind.i64.wrap (j42 - (1 : Int)) ∧ IntKind.i64.wrap (j42 - (1 : Int)) < (data1.len : Int) ∧
   ∃ t48 : Int, w44.cell? (a47.add ((IntKind.i64.wrap (j42 - (1 : Int))).toNat * 1)) = some (.int .i64 t48) ∧
   (C.cmp_Less_int t46 t48 (fun r49 w50 =>
   bif !r49 then
    (k20 w50)
   else
    (Dr w50 fun w51 =>
   ∃ a52 : Addr, data1.a = some a52 ∧ 0 ≤ IntKind.i64.wrap (j42 - (1 : Int)) ∧ IntKind.i64.wrap (j42 - (1 : Int)) < (data1.len : Int) ∧
   ∃ t53 : Int, w51.cell? (a52.add ((IntKind.i64.wrap (j42 - (1 : Int))).toNat * 1)) = some (.int .i64 t53) ∧
   ∃ a54 : Addr, data1.a = some a54 ∧ 0 ≤ j42 ∧ j42 < (data1.len : Int) ∧
   ∃ t55 : Int, w51.cell? (a54.add (j42.toNat * 1)) = some (.int .i64 t55) ∧
   ∃ a56 : Addr, data1.a = some a56 ∧ 0 ≤ j42 ∧ j42 < (data1.len : Int) ∧
   (St w51 (a56.add (j42.toNat * 1)) (.int .i64 t53) fun w57 =>
   ∃ a58 : Addr, data1.a = some a58 ∧ 0 ≤ IntKind.i64.wrap (j42 - (1 : Int)) ∧ IntKind.i64.wrap (j42 - (1 : Int)) < (data1.len : Int) ∧
   (St w57 (a58.add ((IntKind.i64.wrap (j42 - (1 : Int))).toNat * 1)) (.int .i64 t55) fun w59 =>
   l41 (IntKind.i64.wrap (j42 - (1 : Int))) w59) ∧
   True) ∧
   True)) w44) ∧
   True)
   else
    (k20 w43)) → l41 j42 w43) →
   l41 (IntKind.i64.wrap (i9 - (1 : Int))) w19)
   else
    (k20 w19))) ∧
   True) ∧
   True))) → k8 i9 w10) →
   (∀ l60 : Int → World → Prop,
   (∀ (i61 : Int) (w62 : World), (Dr w62 fun w63 =>
   bif decide (i61 < b3) then
    (∃ a64 : Addr, data1.a = some a64 ∧ 0 ≤ i61 ∧ i61 < (data1.len : Int) ∧
   ∃ t65 : Int, w63.cell? (a64.add (i61.toNat * 1)) = some (.int .i64 t65) ∧
   ∃ a66 : Addr, data1.a = some a66 ∧ 0 ≤ IntKind.i64.wrap (i61 - (1 : Int)) ∧ IntKind.i64.wrap (i61 - (1 : Int)) < (data1.len : Int) ∧
   ∃ t67 : Int, w63.cell? (a66.add ((IntKind.i64.wrap (i61 - (1 : Int))).toNat * 1)) = some (.int .i64 t67) ∧
   (C.cmp_Less_int t65 t67 (fun r68 w69 =>
   bif !r68 then
    (l60 (IntKind.i64.wrap (i61 + (1 : Int))) w69)
   else
    (k8 i61 w69)) w63) ∧
   True)
   else
    ((k8 i61 w63) ∧
   True)) → l60 i61 w62) →
   l60 i5 w7))
   else
    (K false w7)) → l4 i5 j6 w7) →
   l4 (IntKind.i64.wrap (a2 + (1 : Int))) (0 : Int) w
set_option maxRecDepth 100000 in
theorem S.slices_partialInsertionSortOrdered_int_ok (data1 : Sl) (a2 : Int) (b3 : Int) (K : Bool → World → Prop) (w : World) (h : S.slices_partialInsertionSortOrdered_int data1 a2 b3 K w) : C.slices_partialInsertionSortOrdered_int data1 a2 b3 K w := by
  have e : fnV Try.prog Try.f102 (bodyOf Try.f102) (.t none (.u) (.t none (.u) (.t none (.t none (.u) (.t none (.t (some [(7, .c (.i .i64)), (8, .c (.i .i64))]) (.t none (.t none (.u) (.t none (.u) (.u))) (.t none (.t none (.t none (.t (some [(7, .c (.i .i64))]) (.t (some [(7, .c (.i .i64))]) (.t none (.t none (.r none (.one 0 2 (.one 1 0 (.one 2 0 (.one 3 0 (.one 4 7968 (.one 5 7936 (.one 6 7936 (.one 7 7936 (.one 8 1536 (.one 9 0 (.one 10 0 (.one 11 0 (.one 12 0 (.alt 13 (.one 14 0 (.one 15 0 (.done))) (.none)))))))))))))))) (.t none (.u) (.u))) (.t none (.u) (.u))) (.u)) (.u)) (.t none (.t none (.u) (.t none (.t none (.u) (.u)) (.u))) (.t none (.t none (.u) (.t none (.t none (.u) (.u)) (.u))) (.t none (.r none (.one 0 16382 (.one 1 16380 (.one 2 65528 (.one 3 65504 (.one 4 65504 (.one 5 15552 (.one 6 15360 (.one 7 15360 (.one 8 15360 (.one 9 15360 (.one 10 2048 (.one 11 0 (.one 12 0 (.one 13 0 (.one 14 0 (.alt 15 (.one 16 0 (.alt 17 (.done) (.none))) (.none)))))))))))))))))) (.t none (.t none (.u) (.t (some []) (.t none (.u) (.t none (.t (some [(9, .c (.i .i64))]) (.t none (.t none (.u) (.t none (.u) (.u))) (.t none (.t none (.t none (.t none (.r none (.one 0 498 (.one 1 496 (.one 2 496 (.one 3 496 (.one 4 96 (.one 5 0 (.one 6 0 (.one 7 0 (.one 8 0 (.alt 9 (.one 10 0 (.done)) (.none)))))))))))) (.t none (.u) (.u))) (.r none (.one 0 16382 (.one 1 16380 (.one 2 65528 (.one 3 65504 (.one 4 65504 (.one 5 15552 (.one 6 15360 (.one 7 15360 (.one 8 15360 (.one 9 15360 (.one 10 2048 (.one 11 0 (.one 12 0 (.one 13 0 (.one 14 0 (.alt 15 (.one 16 0 (.alt 17 (.done) (.none))) (.none))))))))))))))))))) (.u)) (.u))) (.u)) (.u))) (.u))) (.t none (.u) (.t none (.t none (.u) (.t none (.t (some [(10, .c (.i .i64))]) (.t none (.t none (.u) (.t none (.u) (.u))) (.t none (.t none (.t none (.t none (.r none (.one 0 498 (.one 1 496 (.one 2 496 (.one 3 496 (.one 4 96 (.one 5 0 (.one 6 0 (.one 7 0 (.one 8 0 (.alt 9 (.one 10 0 (.done)) (.none)))))))))))) (.t none (.u) (.u))) (.r none (.one 0 16382 (.one 1 16380 (.one 2 65528 (.one 3 65504 (.one 4 65504 (.one 5 15552 (.one 6 15360 (.one 7 15360 (.one 8 15360 (.one 9 15360 (.one 10 2048 (.one 11 0 (.one 12 0 (.one 13 0 (.one 14 0 (.alt 15 (.one 16 0 (.alt 17 (.done) (.none))) (.none))))))))))))))))))) (.u)) (.u))) (.u)) (.u))) (.u)))))))) (.u)) (.u))) (.u)) (.u))) (.t none (.u) (.u))))) [(0, .c (.b))] [.slice data1.a data1.len data1.cap, .int .i64 a2, .int .i64 b3] K w = S.slices_partialInsertionSortOrdered_int data1 a2 b3 K w := by kernel_rfl
  exact okF_mk Try.func102 rfl (fn_sound names_ok follows_ok Try.func102 rfl (by kernel_rfl) (Eq.mpr e h))

/-- slices.partitionEqualOrdered[int] -/
def S.slices_partitionEqualOrdered_int (data1 : Sl) (a2 : Int) (b3 : Int) (pivot4 : Int) (K : Int → World → Prop) (w : World) : Prop :=
  Dr w fun w5 =>
   ∃ a6 : Addr, data1.a = some a6 ∧ 0 ≤ pivot4 ∧ pivot4 < (data1.len : Int) ∧
   ∃ t7 : Int, w5.cell? (a6.add (pivot4.toNat * 1)) = some (.int .i64 t7) ∧
   ∃ a8 : Addr, data1.a = some a8 ∧ 0 ≤ a2 ∧ a2 < (data1.len : Int) ∧
   ∃ t9 : Int, w5.cell? (a8.add (a2.toNat * 1)) = some (.int .i64 t9) ∧
   ∃ a10 : Addr, data1.a = some a10 ∧ 0 ≤ a2 ∧ a2 < (data1.len : Int) ∧
   (St w5 (a10.add (a2.toNat * 1)) (.int .i64 t7) fun w11 =>
   ∃ a12 : Addr, data1.a = some a12 ∧ 0 ≤ pivot4 ∧ pivot4 < (data1.len : Int) ∧
   (St w11 (a12.add (pivot4.toNat * 1)) (.int .i64 t9) fun w13 =>
   ∀ l14 : Int → Int → World → Prop,
   (∀ (i15 : Int) (j16 : Int) (w17 : World), (∀ k18 : Int → World → Prop,
   (∀ (i19 : Int) (w20 : World), (∀ k21 : Int → World → Prop,
   (∀ (j22 : Int) (w23 : World), (bif decide (i19 > j22) then
    (K i19 w23)
   else
    (Dr w23 fun w24 =>
   ∃ a25 : Addr, data1.a = some a25 ∧ 0 ≤ j22 ∧ j22 < (data1.len : Int) ∧
   ∃ t26 : Int, w24.cell? (a25.add (j22.toNat * 1)) = some (.int .i64 t26) ∧
   ∃ a27 : Addr, data1.a = some a27 ∧ 0 ≤ i19 ∧ i19 < (data1.len : Int) ∧
   ∃ t28 : Int, w24.cell? (a27.add (i19.toNat * 1)) = some (.int .i64 t28) ∧
   ∃ a29 : Addr, data1.a = some a29 ∧ 0 ≤ i19 ∧ i19 < (data1.len : Int) ∧
   (St w24 (a29.add (i19.toNat * 1)) (.int .i64 t26) fun w30 =>
   ∃ a31 : Addr, data1.a = some a31 ∧ 0 ≤ j22 ∧ j22 < (data1.len : Int) ∧
   (St w30 (a31.add (j22.toNat * 1)) (.int .i64 t28) fun w32 =>
   l14 (IntKind.i64.wrap (i19 + (1 : Int))) (IntKind.i64.wrap (j22 - (1 : Int))) w32) ∧
   True) ∧
   True)) → k21 j22 w23) →
   (∀ l33 : Int → World → Prop,
   (∀ (j34 : Int) (w35 : World), (Dr w35 fun w36 =>
   bif decide (i19 ≤ j34) then
    (∃ a37 : Addr, data1.a = some a37 ∧ 0 ≤ a2 ∧ a2 < (data1.len : Int) ∧
   ∃ t38 : Int, w36.cell? (a37.add (a2.toNat * 1)) = some (.int .i64 t38) ∧
   ∃ a39 : Addr, data1.a = some a39 ∧ 0 ≤ j34 ∧ j34 < (data1.len : Int) ∧
   ∃ t40 : Int, w36.cell? (a39.add (j34.toNat * 1)) = some (.int .i64 t40) ∧
   (C.cmp_Less_int t38 t40 (fun r41 w42 =>
   bif r41 then
    (l33 (IntKind.i64.wrap (j34 - (1 : Int))) w42)
   else
    (k21 j34 w42)) w36) ∧
   True)
   else
    ((k21 j34 w36) ∧
   True)) → l33 j34 w35) →
   l33 j16 w20)) → k18 i19 w20) →
   (∀ l43 : Int → World → Prop,
   (∀ (i44 : Int) (w45 : World), (Dr w45 fun w46 =>
   bif decide (i44 ≤ j16) then
    (∃ a47 : Addr, data1.a = some a47 ∧ 0 ≤ a2 ∧ a2 < (data1.len : Int) ∧
   ∃ t48 : Int, w46.cell? (a47.add (a2.toNat * 1)) = some (.int .i64 t48) ∧
   ∃ a49 : Addr, data1.a = some a49 ∧ 0 ≤ i44 ∧ i44 < (data1.len : Int) ∧
   ∃ t50 : Int, w46.cell? (a49.add (i44.toNat * 1)) = some (.int .i64 t50) ∧
   (C.cmp_Less_int t48 t50 (fun r51 w52 =>
   bif !r51 then
    (l43 (IntKind.i64.wrap (i44 + (1 : Int))) w52)
   else
    (k18 i44 w52)) w46) ∧
   True)
   else
    ((k18 i44 w46) ∧
   True)) → l43 i44 w45) →
   l43 i15 w17)) → l14 i15 j16 w17) →
   l14 (IntKind.i64.wrap (a2 + (1 : Int))) (IntKind.i64.wrap (b3 - (1 : Int))) w13) ∧
   True) ∧
   True
set_option maxRecDepth 100000 in
theorem S.slices_partitionEqualOrdered_int_ok (data1 : Sl) (a2 : Int) (b3 : Int) (pivot4 : Int) (K : Int → World → Prop) (w : World) (h : S.slices_partitionEqualOrdered_int data1 a2 b3 pivot4 K w) : C.slices_partitionEqualOrdered_int data1 a2 b3 pivot4 K w := by
  have e : fnV Try.prog Try.f104 (bodyOf Try.f104) (.t none (.u) (.t none (.r none (.one 0 4094 (.one 1 4092 (.one 2 16376 (.one 3 16368 (.one 4 3872 (.one 5 3840 (.one 6 3840 (.one 7 3840 (.one 8 512 (.one 9 0 (.one 10 0 (.one 11 0 (.one 12 0 (.alt 13 (.one 14 0 (.alt 15 (.done) (.none))) (.none)))))))))))))))) (.t none (.u) (.t none (.t none (.t (some [(9, .c (.i .i64)), (10, .c (.i .i64))]) (.t none (.t none (.t (some [(9, .c (.i .i64))]) (.t (some [(9, .c (.i .i64))]) (.t none (.t none (.r none (.one 0 2 (.one 1 0 (.one 2 0 (.one 3 0 (.one 4 3872 (.one 5 3840 (.one 6 3840 (.one 7 3840 (.one 8 512 (.one 9 0 (.one 10 0 (.one 11 0 (.alt 12 (.one 13 0 (.one 14 0 (.done))) (.none))))))))))))))) (.t none (.u) (.u))) (.t none (.u) (.u))) (.u)) (.u)) (.t none (.t (some [(10, .c (.i .i64))]) (.t (some [(10, .c (.i .i64))]) (.t none (.t none (.r none (.one 0 2 (.one 1 0 (.one 2 0 (.one 3 0 (.one 4 3872 (.one 5 3840 (.one 6 3840 (.one 7 3840 (.one 8 512 (.one 9 0 (.one 10 0 (.one 11 0 (.alt 12 (.one 13 0 (.done)) (.none))))))))))))))) (.t none (.u) (.u))) (.t none (.u) (.u))) (.u)) (.u)) (.t none (.t none (.u) (.t none (.u) (.u))) (.t none (.r none (.one 0 4094 (.one 1 4092 (.one 2 16376 (.one 3 16368 (.one 4 3872 (.one 5 3840 (.one 6 3840 (.one 7 3840 (.one 8 512 (.one 9 0 (.one 10 0 (.one 11 0 (.one 12 0 (.alt 13 (.one 14 0 (.alt 15 (.done) (.none))) (.none)))))))))))))))) (.t none (.u) (.u)))))) (.u)) (.u)) (.u)) (.t none (.u) (.u)))))) [(0, .c (.i .i64))] [.slice data1.a data1.len data1.cap, .int .i64 a2, .int .i64 b3, .int .i64 pivot4] K w = S.slices_partitionEqualOrdered_int data1 a2 b3 pivot4 K w := by kernel_rfl
  exact okF_mk Try.func104 rfl (fn_sound names_ok follows_ok Try.func104 rfl (by kernel_rfl) (Eq.mpr e h))

/-- slices.partitionOrdered[int] -/
def S.slices_partitionOrdered_int (data1 : Sl) (a2 : Int) (b3 : Int) (pivot4 : Int) (K : Int → Bool → World → Prop) (w : World) : Prop :=
  Dr w fun w5 =>
   ∃ a6 : Addr, data1.a = some a6 ∧ 0 ≤ pivot4 ∧ pivot4 < (data1.len : Int) ∧
   ∃ t7 : Int, w5.cell? (a6.add (pivot4.toNat * 1)) = some (.int .i64 t7) ∧
   ∃ a8 : Addr, data1.a = some a8 ∧ 0 ≤ a2 ∧ a2 < (data1.len : Int) ∧
   ∃ t9 : Int, w5.cell? (a8.add (a2.toNat * 1)) = some (.int .i64 t9) ∧
   ∃ a10 : Addr, data1.a = some a10 ∧ 0 ≤ a2 ∧ a2 < (data1.len : Int) ∧
   (St w5 (a10.add (a2.toNat * 1)) (.int .i64 t7) fun w11 =>
   ∃ a12 : Addr, data1.a = some a12 ∧ 0 ≤ pivot4 ∧ pivot4 < (data1.len : Int) ∧
   (St w11 (a12.add (pivot4.toNat * 1)) (.int .i64 t9) fun w13 =>
   ∀ k14 : Int → World → Prop,
   (∀ (i15 : Int) (w16 : World), (∀ k17 : Int → World → Prop,
   (∀ (j18 : Int) (w19 : World), (bif decide (i15 > j18) then
    (Dr w19 fun w20 =>
   ∃ a21 : Addr, data1.a = some a21 ∧ 0 ≤ a2 ∧ a2 < (data1.len : Int) ∧
   ∃ t22 : Int, w20.cell? (a21.add (a2.toNat * 1)) = some (.int .i64 t22) ∧
   ∃ a23 : Addr, data1.a = some a23 ∧ 0 ≤ j18 ∧ j18 < (data1.len : Int) ∧
   ∃ t24 : Int, w20.cell? (a23.add (j18.toNat * 1)) = some (.int .i64 t24) ∧
   ∃ a25 : Addr, data1.a = some a25 ∧ 0 ≤ j18 ∧ j18 < (data1.len : Int) ∧
   (St w20 (a25.add (j18.toNat * 1)) (.int .i64 t22) fun w26 =>
   ∃ a27 : Addr, data1.a = some a27 ∧ 0 ≤ a2 ∧ a2 < (data1.len : Int) ∧
   (St w26 (a27.add (a2.toNat * 1)) (.int .i64 t24) fun w28 =>
   K j18 true w28) ∧
   True) ∧
   True)
   else
    (Dr w19 fun w29 =>
   ∃ a30 : Addr, data1.a = some a30 ∧ 0 ≤ j18 ∧ j18 < (data1.len : Int) ∧
   ∃ t31 : Int, w29.cell? (a30.add (j18.toNat * 1)) = some (.int .i64 t31) ∧
   ∃ a32 : Addr, data1.a = some a32 ∧ 0 ≤ i15 ∧ i15 < (data1.len : Int) ∧
   ∃ t33 : Int, w29.cell? (a32.add (i15.toNat * 1)) = some (.int .i64 t33) ∧
   ∃ a34 : Addr, data1.a = some a34 ∧ 0 ≤ i15 ∧ i15 < (data1.len : Int) ∧
   (St w29 (a34.add (i15.toNat * 1)) (.int .i64 t31) fun w35 =>
   ∃ a36 : Addr, data1.a = some a36 ∧ 0 ≤ j18 ∧ j18 < (data1.len : Int) ∧
   (St w35 (a36.add (j18.toNat * 1)) (.int .i64 t33) fun w37 =>
   ∀ l38 : Int → Int → World → Prop,
   (∀ (i39 : Int) (j40 : Int) (w41 : World), (∀ k42 : Int → World → Prop,
   (∀ (i43 : Int) (w44 : World), (∀ k45 : Int → World → Prop,
   (∀ (j46 : Int) (w47 : World), (bif decide (i43 > j46) then
    (Dr w47 fun w48 =>
   ∃ a49 : Addr, data1.a = some a49 ∧ 0 ≤ a2 ∧ a2 < (data1.len : Int) ∧
   ∃ t50 : Int, w48.cell? (a49.add (a2.toNat * 1)) = some (.int .i64 t50) ∧
   ∃ a51 : Addr, data1.a = some a51 ∧ 0 ≤ j46 ∧ j46 < (data1.len : Int) ∧
   ∃ t52 : Int, w48.cell? (a51.add (j46.toNat * 1)) = some (.int .i64 t52) ∧
   ∃ a53 : Addr, data1.a = some a53 ∧ 0 ≤ j46 ∧ j46 < (data1.len : Int) ∧
   (St w48 (a53.add (j46.toNat * 1)) (.int .i64 t50) fun w54 =>
   ∃ a55 : Addr, data1.a = some a55 ∧ 0 ≤ a2 ∧ a2 < (data1.len : Int) ∧
   (St w54 (a55.add (a2.toNat * 1)) (.int .i64 t52) fun w56 =>
   K j46 false w56) ∧
   True) ∧
   True)
   else
    (Dr w47 fun w57 =>
   ∃ a58 : Addr, data1.a = some a58 ∧ 0 ≤ j46 ∧ j46 < (data1.len : Int) ∧
   ∃ t59 : Int, w57.cell? (a58.add (j46.toNat * 1)) = some (.int .i64 t59) ∧
   ∃ a60 : Addr, data1.a = some a60 ∧ 0 ≤ i43 ∧ i43 < (data1.len : Int) ∧
   ∃ t61 : Int, w57.cell? (a60.add (i43.toNat * 1)) = some (.int .i64 t61) ∧
   ∃ a62 : Addr, data1.a = some a62 ∧ 0 ≤ i43 ∧ i43 < (data1.len : Int) ∧
   (St w57 (a62.add (i43.toNat * 1)) (.int .i64 t59) fun w63 =>
   ∃ a64 : Addr, data1.a = some a64 ∧ 0 ≤ j46 ∧ j46 < (data1.len : Int) ∧
   (St w63 (a64.add (j46.toNat * 1)) (.int .i64 t61) fun w65 =>
   l38 (IntKind.i64.wrap (i43 + (1 : Int))) (IntKind.i64.wrap (j46 - (1 : Int))) w65) ∧
   True) ∧
   True)) → k45 j46 w47) →
   (∀ l66 : Int → World → Prop,
   (∀ (j67 : Int) (w68 : World), (Dr w68 fun w69 =>
   bif decide (i43 ≤ j67) then
    (∃ a70 : Addr, data1.a = some a70 ∧ 0 ≤ j67 ∧ j67 < (data1.len : Int) ∧
   ∃ t71 : Int, w69.cell? (a70.add (j67.toNat * 1)) = some (.int .i64 t71) ∧
   ∃ a72 : Addr, data1.a = some a72 ∧ 0 ≤ a2 ∧ a2 < (data1.len : Int) ∧
   ∃ t73 : Int, w69.cell? (a72.add (a2.toNat * 1)) = some (.int .i64 t73) ∧
   (C.cmp_Less_int t71 t73 (fun r74 w75 =>
   bif !r74 then
    (l66 (IntKind.i64.wrap (j67 - (1 : Int))) w75)
   else
    (k45 j67 w75)) w69) ∧
   True)
   else
    ((k45 j67 w69) ∧
   True)) → l66 j67 w68) →
   l66 j40 w44)) → k42 i43 w44) →
   (∀ l76 : Int → World → Prop,
   (∀ (i77 : Int) (w78 : World), (Dr w78 fun w79 =>
   bif decide (i77 ≤ j40) then
    (∃ a80 : Addr, data1.a = some a80 ∧ 0 ≤ i77 ∧ i77 < (data1.len : Int) ∧
   ∃ t81 : Int, w79.cell? (a80.add (i77.toNat * 1)) = some (.int .i64 t81) ∧
   ∃ a82 : Addr, data1.a = some a82 ∧ 0 ≤ a2 ∧ a2 < (data1.len : Int) ∧
   ∃ t83 : Int, w79.cell? (a82.add (a2.toNat * 1)) = some (.int .i64 t83) ∧
   (C.cmp_Less_int t81 t83 (fun r84 w85 =>
   bif r84 then
    (l76 (IntKind.i64.wrap (i77 + (1 : Int))) w85)
   else
    (k42 i77 w85)) w79) ∧
   True)
   else
    ((k42 i77 w79) ∧
   True)) → l76 i77 w78) →
   l76 i39 w41)) → l38 i39 j40 w41) →
   l38 (IntKind.i64.wrap (i15 + (1 : Int))) (IntKind.i64.wrap (j18 - (1 : Int))) w37) ∧
   True) ∧
   True)) → k17 j18 w19) →
   (∀ l86 : Int → World → Prop,
   (∀ (j87 : Int) (w88 : World), (Dr w88 fun w89 =>
   bif decide (i15 ≤ j87) then
    (∃ a90 : Addr, data1.a = some a90 ∧ 0 ≤ j87 ∧ j87 < (data1.len : Int) ∧
   ∃ t91 : Int, w89.cell? (a90.add (j87.toNat * 1)) = some (.int .i64 t91) ∧
   ∃ a92 : Addr, data1.a = some a92 ∧ 0 ≤ a2 ∧ a2 < (data1.len : Int) ∧
   ∃ t93 : Int, w89.cell? (a92.add (a2.toNat * 1)) = some (.int .i64 t93) ∧
   (C.cmp_Less_int t91 t93 (fun r94 w95 =>
   bif !r94 then
    (l86 (IntKind.i64.wrap (j87 - (1 : Int))) w95)
   else
    (k17 j87 w95)) w89) ∧
   True)
   else
    ((k17 j87 w89) ∧
   True)) → l86 j87 w88) →
   l86 (IntKind.i64.wrap (b3 - (1 : Int))) w16)) → k14 i15 w16) →
   (∀ l96 : Int → World → Prop,
   (∀ (i97 : Int) (w98 : World), (Dr w98 fun w99 =>
   bif decide (i97 ≤ (IntKind.i64.wrap (b3 - (1 : Int)))) then
    (∃ a100 : Addr, data1.a = some a100 ∧ 0 ≤ i97 ∧ i97 < (data1.len : Int) ∧
   ∃ t101 : Int, w99.cell? (a100.add (i97.toNat * 1)) = some (.int .i64 t101) ∧
   ∃ a102 : Addr, data1.a = some a102 ∧ 0 ≤ a2 ∧ a2 < (data1.len : Int) ∧
   ∃ t103 : Int, w99.cell? (a102.add (a2.toNat * 1)) = some (.int .i64 t103) ∧
   (C.cmp_Less_int t101 t103 (fun r104 w105 =>
   bif r104 then
    (l96 (IntKind.i64.wrap (i97 + (1 : Int))) w105)
   else
    (k14 i97 w105)) w99) ∧
   True)
   else
    ((k14 i97 w99) ∧
   True)) → l96 i97 w98) →
   l96 (IntKind.i64.wrap (a2 + (1 : Int))) w13)) ∧
   True) ∧
   True
set_option maxRecDepth 100000 in
theorem S.slices_partitionOrdered_int_ok (data1 : Sl) (a2 : Int) (b3 : Int) (pivot4 : Int) (K : Int → Bool → World → Prop) (w : World) (h : S.slices_partitionOrdered_int data1 a2 b3 pivot4 K w) : C.slices_partitionOrdered_int data1 a2 b3 pivot4 K w := by
  have e : fnV Try.prog Try.f105 (bodyOf Try.f105) (.t none (.u) (.t none (.r none (.one 0 4094 (.one 1 4092 (.one 2 16376 (.one 3 16368 (.one 4 3872 (.one 5 3840 (.one 6 3840 (.one 7 3840 (.one 8 512 (.one 9 0 (.one 10 0 (.one 11 0 (.one 12 0 (.alt 13 (.one 14 0 (.alt 15 (.done) (.none))) (.none)))))))))))))))) (.t none (.u) (.t none (.t (some [(10, .c (.i .i64))]) (.t (some [(10, .c (.i .i64))]) (.t none (.t none (.r none (.one 0 2 (.one 1 0 (.one 2 0 (.one 3 0 (.one 4 3872 (.one 5 3840 (.one 6 3840 (.one 7 3840 (.one 8 512 (.one 9 0 (.one 10 0 (.one 11 0 (.alt 12 (.one 13 0 (.done)) (.none))))))))))))))) (.t none (.u) (.u))) (.t none (.u) (.u))) (.u)) (.u)) (.t none (.t (some [(11, .c (.i .i64))]) (.t (some [(11, .c (.i .i64))]) (.t none (.t none (.r none (.one 0 2 (.one 1 0 (.one 2 0 (.one 3 0 (.one 4 3872 (.one 5 3840 (.one 6 3840 (.one 7 3840 (.one 8 512 (.one 9 0 (.one 10 0 (.one 11 0 (.alt 12 (.one 13 0 (.one 14 0 (.done))) (.none))))))))))))))) (.t none (.u) (.u))) (.t none (.u) (.u))) (.u)) (.u)) (.t none (.t none (.u) (.t none (.t none (.r none (.one 0 4094 (.one 1 4092 (.one 2 16376 (.one 3 16368 (.one 4 3872 (.one 5 3840 (.one 6 3840 (.one 7 3840 (.one 8 512 (.one 9 0 (.one 10 0 (.one 11 0 (.one 12 0 (.alt 13 (.one 14 0 (.alt 15 (.done) (.none))) (.none)))))))))))))))) (.t none (.u) (.u))) (.u))) (.t none (.r none (.one 0 4094 (.one 1 4092 (.one 2 16376 (.one 3 16368 (.one 4 3872 (.one 5 3840 (.one 6 3840 (.one 7 3840 (.one 8 512 (.one 9 0 (.one 10 0 (.one 11 0 (.one 12 0 (.alt 13 (.one 14 0 (.alt 15 (.done) (.none))) (.none)))))))))))))))) (.t none (.u) (.t none (.u) (.t none (.t none (.t (some [(10, .c (.i .i64)), (11, .c (.i .i64))]) (.t none (.t none (.t (some [(10, .c (.i .i64))]) (.t (some [(10, .c (.i .i64))]) (.t none (.t none (.r none (.one 0 2 (.one 1 0 (.one 2 0 (.one 3 0 (.one 4 3872 (.one 5 3840 (.one 6 3840 (.one 7 3840 (.one 8 512 (.one 9 0 (.one 10 0 (.one 11 0 (.alt 12 (.one 13 0 (.done)) (.none))))))))))))))) (.t none (.u) (.u))) (.t none (.u) (.u))) (.u)) (.u)) (.t none (.t (some [(11, .c (.i .i64))]) (.t (some [(11, .c (.i .i64))]) (.t none (.t none (.r none (.one 0 2 (.one 1 0 (.one 2 0 (.one 3 0 (.one 4 3872 (.one 5 3840 (.one 6 3840 (.one 7 3840 (.one 8 512 (.one 9 0 (.one 10 0 (.one 11 0 (.alt 12 (.one 13 0 (.one 14 0 (.done))) (.none))))))))))))))) (.t none (.u) (.u))) (.t none (.u) (.u))) (.u)) (.u)) (.t none (.t none (.u) (.t none (.u) (.u))) (.t none (.r none (.one 0 4094 (.one 1 4092 (.one 2 16376 (.one 3 16368 (.one 4 3872 (.one 5 3840 (.one 6 3840 (.one 7 3840 (.one 8 512 (.one 9 0 (.one 10 0 (.one 11 0 (.one 12 0 (.alt 13 (.one 14 0 (.alt 15 (.done) (.none))) (.none)))))))))))))))) (.t none (.u) (.u)))))) (.u)) (.u)) (.u)) (.t none (.r none (.one 0 4094 (.one 1 4092 (.one 2 16376 (.one 3 16368 (.one 4 3872 (.one 5 3840 (.one 6 3840 (.one 7 3840 (.one 8 512 (.one 9 0 (.one 10 0 (.one 11 0 (.one 12 0 (.alt 13 (.one 14 0 (.alt 15 (.done) (.none))) (.none)))))))))))))))) (.t none (.u) (.u))))))))))))) [(0, .c (.i .i64)), (1, .c (.b))] [.slice data1.a data1.len data1.cap, .int .i64 a2, .int .i64 b3, .int .i64 pivot4] K w = S.slices_partitionOrdered_int data1 a2 b3 pivot4 K w := by kernel_rfl
  exact okF_mk Try.func105 rfl (fn_sound names_ok follows_ok Try.func105 rfl (by kernel_rfl) (Eq.mpr e h))

/-- slices.siftDownOrdered[int] -/
def S.slices_siftDownOrdered_int (data1 : Sl) (lo2 : Int) (hi3 : Int) (first4 : Int) (K : World → Prop) (w : World) : Prop :=
  ∀ l5 : Int → World → Prop,
   (∀ (root6 : Int) (w7 : World), (bif decide ((IntKind.i64.wrap ((IntKind.i64.wrap ((2 : Int) * root6)) + (1 : Int))) ≥ hi3) then
    (K w7)
   else
    (∀ k8 : Bool → World → Prop,
   (∀ (t9 : Bool) (w10 : World), (∀ k11 : Int → World → Prop,
   (∀ (child12 : Int) (w13 : World), (Dr w13 fun w14 =>
   ∃ a15 : Addr, data1.a = some a15 ∧ 0 ≤ IntKind.i64.wrap (first4 + root6) ∧ IntKind.i64.wrap (first4 + root6) < (data1.len : Int) ∧
   ∃ t16 : Int, w14.cell? (a15.add ((IntKind.i64.wrap (first4 + root6)).toNat * 1)) = some (.int .i64 t16) ∧
   ∃ a17 : Addr, data1.a = some a17 ∧ 0 ≤ IntKind.i64.wrap (first4 + child12) ∧ IntKind.i64.wrap (first4 + child12) < (data1.len : Int) ∧
   ∃ t18 : Int, w14.cell? (a17.add ((IntKind.i64.wrap (first4 + child12)).toNat * 1)) = some (.int .i64 t18) ∧
   (C.cmp_Less_int t16 t18 (fun r19 w20 =>
   bif !r19 then
    (K w20)
   else
    (Dr w20 fun w21 =>
   ∃ a22 : Addr, data1.a = some a22 ∧ 0 ≤ IntKind.i64.wrap (first4 + child12) ∧ IntKind.i64.wrap (first4 + child12) < (data1.len : Int) ∧
   ∃ t23 : Int, w21.cell? (a22.add ((IntKind.i64.wrap (first4 + child12)).toNat * 1)) = some (.int .i64 t23) ∧
   ∃ a24 : Addr, data1.a = some a24 ∧ 0 ≤ IntKind.i64.wrap (first4 + root6) ∧ IntKind.i64.wrap (first4 + root6) < (data1.len : Int) ∧
   ∃ t25 : Int, w21.cell? (a24.add ((IntKind.i64.wrap (first4 + root6)).toNat * 1)) = some (.int .i64 t25) ∧
   ∃ a26 : Addr, data1.a = some a26 ∧ 0 ≤ IntKind.i64.wrap (first4 + root6) ∧ IntKind.i64.wrap (first4 + root6) < (data1.len : Int) ∧
   (St w21 (a26.add ((IntKind.i64.wrap (first4 + root6)).toNat * 1)) (.int .i64 t23) fun w27 =>
   ∃ a28 : Addr, data1.a = some a28 ∧ 0 ≤ IntKind.i64.wrap (first4 + child12) ∧ IntKind.i64.wrap (first4 + child12) < (data1.len : Int) ∧
   (St w27 (a28.add ((IntKind.i64.wrap (first4 + child12)).toNat * 1)) (.int .i64 t25) fun w29 =>
   l5 child12 w29) ∧
   True) ∧
   True)) w14) ∧
   True) → k11 child12 w13) →
   (bif t9 then
    (k11 (IntKind.i64.wrap ((IntKind.i64.wrap ((IntKind.i64.wrap ((2 : Int) * root6)) + (1 : Int))) + (1 : Int))) w10)
   else
    (k11 (IntKind.i64.wrap ((IntKind.i64.wrap ((2 : Int) * root6)) + (1 : Int))) w10))) → k8 t9 w10) →
   (Dr w7 fun w30 =>
   bif decide ((IntKind.i64.wrap ((IntKind.i64.wrap ((IntKind.i64.wrap ((2 : Int) * root6)) + (1 : Int))) + (1 : Int))) < hi3) then
    (∃ a31 : Addr, data1.a = some a31 ∧ 0 ≤ IntKind.i64.wrap (first4 + (IntKind.i64.wrap ((IntKind.i64.wrap ((2 : Int) * root6)) + (1 : Int)))) ∧ IntKind.i64.wrap (first4 + (IntKind.i64.wrap ((IntKind.i64.wrap ((2 : Int) * root6)) + (1 : Int)))) < (data1.len : Int) ∧
   ∃ t32 : Int, w30.cell? (a31.add ((IntKind.i64.wrap (first4 + (IntKind.i64.wrap ((IntKind.i64.wrap ((2 : Int) * root6)) + (1 : Int))))).toNat * 1)) = some (.int .i64 t32) ∧
   ∃ a33 : Addr, data1.a = some a33 ∧ 0 ≤ IntKind.i64.wrap ((IntKind.i64.wrap (first4 + (IntKind.i64.wrap ((IntKind.i64.wrap ((2 : Int) * root6)) + (1 : Int))))) + (1 : Int)) ∧ IntKind.i64.wrap ((IntKind.i64.wrap (first4 + (IntKind.i64.wrap ((IntKind.i64.wrap ((2 : Int) * root6)) + (1 : Int))))) + (1 : Int)) < (data1.len : Int) ∧
   ∃ t34 : Int, w30.cell? (a33.add ((IntKind.i64.wrap ((IntKind.i64.wrap (first4 + (IntKind.i64.wrap ((IntKind.i64.wrap ((2 : Int) * root6)) + (1 : Int))))) + (1 : Int))).toNat * 1)) = some (.int .i64 t34) ∧
   (C.cmp_Less_int t32 t34 (fun r35 w36 =>
   k8 r35 w36) w30) ∧
   True)
   else
    ((k8 false w30) ∧
   True)))) → l5 root6 w7) →
   l5 lo2 w
set_option maxRecDepth 100000 in
theorem S.slices_siftDownOrdered_int_ok (data1 : Sl) (lo2 : Int) (hi3 : Int) (first4 : Int) (K : World → Prop) (w : World) (h : S.slices_siftDownOrdered_int data1 lo2 hi3 first4 K w) : C.slices_siftDownOrdered_int data1 lo2 hi3 first4 K w := by
  have e : fnV Try.prog Try.f108 (bodyOf Try.f108) (.t none (.u) (.t none (.t (some [(8, .c (.i .i64))]) (.t none (.t none (.u) (.t none (.t none (.u) (.t none (.u) (.u))) (.t none (.t none (.r (some [(36, .c (.b))]) (.one 0 4 (.one 1 4 (.one 2 0 (.one 3 0 (.one 4 0 (.one 5 260544 (.one 6 260224 (.one 7 260096 (.one 8 260096 (.one 9 260096 (.one 10 260096 (.one 11 61440 (.one 12 8192 (.one 13 0 (.one 14 0 (.one 15 0 (.one 16 0 (.one 17 0 (.alt 18 (.one 19 0 (.done)) (.none))))))))))))))))))))) (.t (some [(9, .c (.i .i64))]) (.u) (.u))) (.t none (.t none (.r none (.one 0 4046 (.one 1 4036 (.one 2 4032 (.one 3 4032 (.one 4 4032 (.one 5 4032 (.one 6 896 (.one 7 256 (.one 8 0 (.one 9 0 (.one 10 0 (.one 11 0 (.alt 12 (.one 13 0 (.done)) (.none))))))))))))))) (.t none (.u) (.u))) (.t none (.r none (.one 0 1048574 (.one 1 1048564 (.one 2 1048560 (.one 3 1048560 (.one 4 4194272 (.one 5 4194112 (.one 6 4194048 (.one 7 4194048 (.one 8 1035776 (.one 9 1033216 (.one 10 1032192 (.one 11 1032192 (.one 12 1032192 (.one 13 1032192 (.one 14 229376 (.one 15 65536 (.one 16 0 (.one 17 0 (.one 18 0 (.one 19 0 (.one 20 0 (.alt 21 (.one 22 0 (.alt 23 (.done) (.none))) (.none)))))))))))))))))))))))) (.u)))))) (.u)) (.u)) (.u))) [] [.slice data1.a data1.len data1.cap, .int .i64 lo2, .int .i64 hi3, .int .i64 first4] K w = S.slices_siftDownOrdered_int data1 lo2 hi3 first4 K w := by kernel_rfl
  exact okF_mk Try.func108 rfl (fn_sound names_ok follows_ok Try.func108 rfl (by kernel_rfl) (Eq.mpr e h))

/-- slices.nextPowerOfTwo -/
def S.slices_nextPowerOfTwo (length1 : Int) (K : Int → World → Prop) (w : World) : Prop :=
  C.math_bits_Len (IntKind.u64.wrap length1) (fun r2 w3 =>
   0 ≤ r2 ∧
   K (shlI .u64 (1 : Int) r2) w3) w
set_option maxRecDepth 100000 in
theorem S.slices_nextPowerOfTwo_ok (length1 : Int) (K : Int → World → Prop) (w : World) (h : S.slices_nextPowerOfTwo length1 K w) : C.slices_nextPowerOfTwo length1 K w := by
  have e : fnV Try.prog Try.f109 (bodyOf Try.f109) (.t none (.u) (.t none (.u) (.u))) [(0, .c (.i .u64))] [.int .i64 length1] K w = S.slices_nextPowerOfTwo length1 K w := by kernel_rfl
  exact okF_mk Try.func109 rfl (fn_sound names_ok follows_ok Try.func109 rfl (by kernel_rfl) (Eq.mpr e h))
end Go.Proofs.Ytmfbhjfkagnahaa
