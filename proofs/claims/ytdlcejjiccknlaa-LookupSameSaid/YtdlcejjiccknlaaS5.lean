/- The functions' texts, and that a call comes to them. Printed by a program of mine (gen.py). -/
import Derived.Test.YtdlcejjiccknlaaC
set_option linter.unusedVariables false
namespace Go.Proofs.Ytdlcejjiccknlaa
open Go Go.Vc Go.Proofs

/-- buttress/slots.New -/
def S.slots_New (K : Option Addr → World → Prop) (w : World) : Prop :=
  Al w (.map #[] 0) fun w1 =>
   Al w1 (.cells #[.slice none 0 0, .map (some w.heap.size)] 84) fun w2 =>
   K (some (Addr.mk w1.heap.size 0 none)) w2
set_option maxRecDepth 100000 in
theorem S.slots_New_ok (K : Option Addr → World → Prop) (w : World) (h : S.slots_New  K w) : C.slots_New  K w := by
  have e : fnV Try.prog Try.f18 (bodyOf Try.f18) (.t none (.u) (.t none (.u) (.u))) [(0, .c (.p))] [] K w = S.slots_New  K w := by kernel_rfl
  exact okF_mk Try.func18 rfl (fn_sound names_ok follows_ok Try.func18 rfl (by kernel_rfl) (Eq.mpr e h))

/-- (*buttress/slots.Nodes).Make -/
def S.slots_Nodes_Make (n1 : Option Addr) (bits2 : Int) (K : Int → Int → World → Prop) (w : World) : Prop :=
  ∀ k3 : Bool → World → Prop,
   (∀ (t4 : Bool) (w5 : World), (bif t4 then
    (K (0 : Int) (1 : Int) w5)
   else
    (∃ a6 : Addr, n1 = some a6 ∧
   ∃ bits7 : Sl, w5.cell? a6 = some (.slice bits7.a bits7.len bits7.cap) ∧
   bif decide ((bits7.len : Int) ≥ (64 : Int)) then
    (K (0 : Int) (2 : Int) w5)
   else
    (∃ a8 : Addr, n1 = some a8 ∧
   ∃ bits9 : Sl, w5.cell? a8 = some (.slice bits9.a bits9.len bits9.cap) ∧
   Al w5 (.cells #[.int .i64 bits2] 3) fun w10 =>
   ∃ (t11 : Sl) (w12 : World), AppR Try.prog [32, 32] 32 (.slice bits9.a bits9.len bits9.cap) (.slice (some (Addr.mk w5.heap.size 0 none)) 1 1) w10 t11 w12 ∧
   ∃ a13 : Addr, n1 = some a13 ∧
   St w12 a13 (.slice t11.a t11.len t11.cap) fun w14 =>
   ∃ a15 : Addr, n1 = some a15 ∧
   ∃ bits16 : Sl, w14.cell? a15 = some (.slice bits16.a bits16.len bits16.cap) ∧
   K (IntKind.i64.wrap ((bits16.len : Int) - (1 : Int))) (0 : Int) w14))) → k3 t4 w5) →
   (bif decide (bits2 < (1 : Int)) then
    (k3 true w)
   else
    (k3 (decide (bits2 > (8 : Int))) w))
set_option maxRecDepth 100000 in
theorem S.slots_Nodes_Make_ok (n1 : Option Addr) (bits2 : Int) (K : Int → Int → World → Prop) (w : World) (h : S.slots_Nodes_Make n1 bits2 K w) : C.slots_Nodes_Make n1 bits2 K w := by
  have e : fnV Try.prog Try.f19 (bodyOf Try.f19) (.t none (.u) (.t none (.t none (.t none (.r (some [(6, .c (.b))]) .done) (.t none (.t none (.u) (.u)) (.t none (.u) (.t none (.t none (.u) (.u)) (.u))))) (.u)) (.t none (.u) (.t none (.u) (.u))))) [(0, .c (.i .i64)), (1, .c (.i .i64))] [.pointer n1, .int .i64 bits2] K w = S.slots_Nodes_Make n1 bits2 K w := by kernel_rfl
  exact okF_mk Try.func19 rfl (fn_sound names_ok follows_ok Try.func19 rfl (by kernel_rfl) (Eq.mpr e h))

/-- (*buttress/slots.Nodes).Drop -/
def S.slots_Nodes_Drop (n1 : Option Addr) (node2 : Int) (K : Int → World → Prop) (w : World) : Prop :=
  C.slots_Nodes_Size n1 node2 (fun r3 r4 w5 =>
   bif !r4 then
    (K (50 : Int) w5)
   else
    (∃ a6 : Addr, n1 = some a6 ∧
   ∃ held7 : Option Nat, w5.cell? (a6.add 1) = some (.map held7) ∧
   ∃ (it8 : Addr) (w9 : World), RangeR Try.prog 82 (.map held7) w5 it8 w9 ∧
   ∀ l10 : World → Prop,
   (∀ (w11 : World), (∃ (more12 : Bool) (l13 : List Value) (w14 : World), NextR Try.prog (.pointer (some it8)) false 0 w11 more12 l13 w14 ∧
   bif more12 then
    (∃ key15 : Int, ∃ key16 : Int, ∃ val17 : Value, EntryR Try.prog (.pointer (some it8)) (.agg #[.int .i64 key15, .int .i64 key16]) (val17) w14 ∧
   Al w14 (.cells #[.int .i64 (0 : Int), .int .i64 (0 : Int)] 49) fun w18 =>
   StL w18 (Addr.mk w14.heap.size 0 none) 0 [.int .i64 key15, .int .i64 key16] fun w19 =>
   ∃ node20 : Int, w19.cell? (Addr.mk w14.heap.size 0 none) = some (.int .i64 node20) ∧
   bif node20 == node2 then
    (K (51 : Int) w19)
   else
    (l10 w19))
   else
    (∃ a21 : Addr, n1 = some a21 ∧
   ∃ bits22 : Sl, w14.cell? a21 = some (.slice bits22.a bits22.len bits22.cap) ∧
   ∃ a23 : Addr, bits22.a = some a23 ∧ 0 ≤ node2 ∧ node2 < (bits22.len : Int) ∧
   St w14 (a23.add (node2.toNat * 1)) (.int .i64 (-1 : Int)) fun w24 =>
   K (0 : Int) w24)) → l10 w11) →
   l10 w9)) w
set_option maxRecDepth 100000 in
theorem S.slots_Nodes_Drop_ok (n1 : Option Addr) (node2 : Int) (K : Int → World → Prop) (w : World) (h : S.slots_Nodes_Drop n1 node2 K w) : C.slots_Nodes_Drop n1 node2 K w := by
  have e : fnV Try.prog Try.f20 (bodyOf Try.f20) (.t none (.u) (.t none (.t none (.u) (.t none (.u) (.t none (.t none (.u) (.u)) (.u)))) (.t none (.t none (.u) (.t none (.t (some []) (.t none (.u) (.t none (.t none (.u) (.u)) (.t none (.t none (.u) (.t none (.u) (.t none (.t none (.u) (.u)) (.u)))) (.u)))) (.u)) (.u))) (.t none (.u) (.t none (.u) (.u)))))) [(0, .c (.i .i64))] [.pointer n1, .int .i64 node2] K w = S.slots_Nodes_Drop n1 node2 K w := by kernel_rfl
  exact okF_mk Try.func20 rfl (fn_sound names_ok follows_ok Try.func20 rfl (by kernel_rfl) (Eq.mpr e h))

/-- (*buttress/slots.Nodes).Size -/
def S.slots_Nodes_Size (n1 : Option Addr) (node2 : Int) (K : Int → Bool → World → Prop) (w : World) : Prop :=
  ∀ k3 : Bool → World → Prop,
   (∀ (t4 : Bool) (w5 : World), (bif t4 then
    (K (0 : Int) false w5)
   else
    (∃ a6 : Addr, n1 = some a6 ∧
   ∃ bits7 : Sl, w5.cell? a6 = some (.slice bits7.a bits7.len bits7.cap) ∧
   ∃ a8 : Addr, bits7.a = some a8 ∧ 0 ≤ node2 ∧ node2 < (bits7.len : Int) ∧
   ∃ t9 : Int, w5.cell? (a8.add (node2.toNat * 1)) = some (.int .i64 t9) ∧
   K t9 true w5)) → k3 t4 w5) →
   (bif decide (node2 < (0 : Int)) then
    (k3 true w)
   else
    (∃ a10 : Addr, n1 = some a10 ∧
   ∃ bits11 : Sl, w.cell? a10 = some (.slice bits11.a bits11.len bits11.cap) ∧
   bif decide (node2 ≥ (bits11.len : Int)) then
    (k3 true w)
   else
    (∃ a12 : Addr, n1 = some a12 ∧
   ∃ bits13 : Sl, w.cell? a12 = some (.slice bits13.a bits13.len bits13.cap) ∧
   ∃ a14 : Addr, bits13.a = some a14 ∧ 0 ≤ node2 ∧ node2 < (bits13.len : Int) ∧
   ∃ t15 : Int, w.cell? (a14.add (node2.toNat * 1)) = some (.int .i64 t15) ∧
   k3 (t15 == (-1 : Int)) w)))
set_option maxRecDepth 100000 in
theorem S.slots_Nodes_Size_ok (n1 : Option Addr) (node2 : Int) (K : Int → Bool → World → Prop) (w : World) (h : S.slots_Nodes_Size n1 node2 K w) : C.slots_Nodes_Size n1 node2 K w := by
  have e : fnV Try.prog Try.f21 (bodyOf Try.f21) (.t none (.u) (.t none (.t none (.r (some [(26, .c (.b))]) .done) (.t none (.t none (.u) (.u)) (.u))) (.t none (.u) (.u)))) [(0, .c (.i .i64)), (1, .c (.b))] [.pointer n1, .int .i64 node2] K w = S.slots_Nodes_Size n1 node2 K w := by kernel_rfl
  exact okF_mk Try.func21 rfl (fn_sound names_ok follows_ok Try.func21 rfl (by kernel_rfl) (Eq.mpr e h))

/-- (*buttress/slots.Nodes).Put -/
def S.slots_Nodes_Put (n1 : Option Addr) (s2 : Int) (s3 : Int) (c4 : Int) (c5 : Int) (c6 : Int) (c7 : Int) (c8 : Int) (c9 : Int) (K : Int → World → Prop) (w : World) : Prop :=
  Al w (.cells #[.int .i64 s2, .int .i64 s3] 49) fun w10 =>
   Al w10 (.cells #[.int .i64 c4, .int .i64 c5, .int .i64 c6, .int .u64 c7, .int .u64 c8, .int .i64 c9] 38) fun w11 =>
   LdL w11 (Addr.mk w10.heap.size 0 none) 0 [.i .i64, .i .i64, .i .i64, .i .u64, .i .u64, .i .i64] fun (t12 : Int) (t13 : Int) (t14 : Int) (t15 : Int) (t16 : Int) (t17 : Int) =>
   C.caps_Check t12 t13 t14 t15 t16 t17 (fun r18 w19 =>
   ∀ k20 : Bool → World → Prop,
   (∀ (had21 : Bool) (w22 : World), (LdL w22 (Addr.mk w.heap.size 0 none) 0 [.i .i64, .i .i64] fun (t23 : Int) (t24 : Int) =>
   C.slots_Nodes_there n1 t23 t24 (fun r25 w26 =>
   bif !r25 then
    (K (50 : Int) w26)
   else
    (bif r18 != (0 : Int) then
    (K r18 w26)
   else
    (∃ kind27 : Int, w26.cell? (Addr.mk w10.heap.size 0 none) = some (.int .i64 kind27) ∧
   bif kind27 == (0 : Int) then
    (K (1 : Int) w26)
   else
    (bif had21 then
    (K (51 : Int) w26)
   else
    (Dr w26 fun w28 =>
   ∃ a29 : Addr, n1 = some a29 ∧
   ∃ held30 : Option Nat, w28.cell? (a29.add 1) = some (.map held30) ∧
   LdL w28 (Addr.mk w.heap.size 0 none) 0 [.i .i64, .i .i64] fun (t31 : Int) (t32 : Int) =>
   LdL w28 (Addr.mk w10.heap.size 0 none) 0 [.i .i64, .i .i64, .i .i64, .i .u64, .i .u64, .i .i64] fun (kind33 : Int) (kind34 : Int) (kind35 : Int) (kind36 : Int) (kind37 : Int) (kind38 : Int) =>
   (∃ w39 : World, UpdR Try.prog 82 (.map held30) (.agg #[.int .i64 t31, .int .i64 t32]) (.agg #[.int .i64 kind33, .int .i64 kind34, .int .i64 kind35, .int .u64 kind36, .int .u64 kind37, .int .i64 kind38]) w28 w39 ∧
   K (0 : Int) w39) ∧
   True))))) w22) → k20 had21 w22) →
   (Dr w19 fun w40 =>
   ∃ a41 : Addr, n1 = some a41 ∧
   ∃ held42 : Option Nat, w40.cell? (a41.add 1) = some (.map held42) ∧
   LdL w40 (Addr.mk w.heap.size 0 none) 0 [.i .i64, .i .i64] fun (t43 : Int) (t44 : Int) =>
   (∃ t45 : Int, ∃ t46 : Int, ∃ t47 : Int, ∃ t48 : Int, ∃ t49 : Int, ∃ t50 : Int, ∃ is51 : Bool, LkB Try.prog 82 (.map held42) (.agg #[.int .i64 t43, .int .i64 t44]) (.agg #[.int .i64 t45, .int .i64 t46, .int .i64 t47, .int .u64 t48, .int .u64 t49, .int .i64 t50]) is51 w40 ∧
   (Al w40 (.cells #[.int .i64 (0 : Int), .int .i64 (0 : Int), .int .i64 (0 : Int), .int .u64 (0 : Int), .int .u64 (0 : Int), .int .i64 (0 : Int)] 38) fun w52 =>
   (StL w52 (Addr.mk w40.heap.size 0 none) 0 [.int .i64 t45, .int .i64 t46, .int .i64 t47, .int .u64 t48, .int .u64 t49, .int .i64 t50] fun w53 =>
   k20 is51 w53) ∧
   True) ∧
   True) ∧
   (Al w40 (.cells #[.int .i64 (0 : Int), .int .i64 (0 : Int), .int .i64 (0 : Int), .int .u64 (0 : Int), .int .u64 (0 : Int), .int .i64 (0 : Int)] 38) fun w54 =>
   (∃ t55 : Int, ∃ t56 : Int, ∃ t57 : Int, ∃ t58 : Int, ∃ t59 : Int, ∃ t60 : Int, ∃ is61 : Bool, LkB Try.prog 82 (.map held42) (.agg #[.int .i64 t43, .int .i64 t44]) (.agg #[.int .i64 t55, .int .i64 t56, .int .i64 t57, .int .u64 t58, .int .u64 t59, .int .i64 t60]) is61 w54 ∧
   (StL w54 (Addr.mk w40.heap.size 0 none) 0 [.int .i64 t55, .int .i64 t56, .int .i64 t57, .int .u64 t58, .int .u64 t59, .int .i64 t60] fun w62 =>
   k20 is61 w62) ∧
   True) ∧
   True) ∧
   True)) w11
set_option maxRecDepth 100000 in
theorem S.slots_Nodes_Put_ok (n1 : Option Addr) (s2 : Int) (s3 : Int) (c4 : Int) (c5 : Int) (c6 : Int) (c7 : Int) (c8 : Int) (c9 : Int) (K : Int → World → Prop) (w : World) (h : S.slots_Nodes_Put n1 s2 s3 c4 c5 c6 c7 c8 c9 K w) : C.slots_Nodes_Put n1 s2 s3 c4 c5 c6 c7 c8 c9 K w := by
  have e : fnV Try.prog Try.f31 (bodyOf Try.f31) (.t none (.u) (.t none (.u) (.t none (.r (some [(9, .c (.b))]) (.one 0 528 (.one 1 528 (.one 2 528 (.one 3 528 (.one 4 512 (.alt 5 (.one 6 512 (.one 7 768 (.one 8 1536 (.alt 9 (.alt 10 (.one 11 0 (.done)) (.none)) (.none))))) (.alt 9 (.alt 5 (.one 6 0 (.one 7 256 (.one 8 1024 (.alt 10 (.one 11 0 (.done)) (.none))))) (.none)) (.none))))))))) (.t none (.t none (.t none (.u) (.t none (.t none (.u) (.u)) (.t none (.u) (.t none (.t none (.u) (.u)) (.t none (.u) (.t none (.t none (.u) (.u)) (.t none (.u) (.t none (.t none (.u) (.u)) (.u))))))))) (.u)) (.t none (.r none (.one 0 48 (.one 1 48 (.one 2 48 (.one 3 48 (.one 4 32 (.one 5 0 (.alt 6 (.done) (.none))))))))) (.t none (.u) (.u))))))) [(0, .c (.i .i64))] [.pointer n1, .agg #[.int .i64 s2, .int .i64 s3], .agg #[.int .i64 c4, .int .i64 c5, .int .i64 c6, .int .u64 c7, .int .u64 c8, .int .i64 c9]] K w = S.slots_Nodes_Put n1 s2 s3 c4 c5 c6 c7 c8 c9 K w := by kernel_rfl
  exact okF_mk Try.func31 rfl (fn_sound names_ok follows_ok Try.func31 rfl (by kernel_rfl) (Eq.mpr e h))

/-- (*buttress/slots.Nodes).Get -/
def S.slots_Nodes_Get (n1 : Option Addr) (s2 : Int) (s3 : Int) (K : Int → Int → Int → Int → Int → Int → Int → World → Prop) (w : World) : Prop :=
  Al w (.cells #[.int .i64 s2, .int .i64 s3] 49) fun w4 =>
   Al w4 (.cells #[.int .i64 (0 : Int), .int .i64 (0 : Int), .int .i64 (0 : Int), .int .u64 (0 : Int), .int .u64 (0 : Int), .int .i64 (0 : Int)] 38) fun w5 =>
   LdL w5 (Addr.mk w.heap.size 0 none) 0 [.i .i64, .i .i64] fun (t6 : Int) (t7 : Int) =>
   C.slots_Nodes_there n1 t6 t7 (fun r8 w9 =>
   bif !r8 then
    (StL w9 (Addr.mk w4.heap.size 0 none) 0 [.int .i64 (0 : Int), .int .i64 (0 : Int), .int .i64 (0 : Int), .int .u64 (0 : Int), .int .u64 (0 : Int), .int .i64 (0 : Int)] fun w10 =>
   LdL w10 (Addr.mk w4.heap.size 0 none) 0 [.i .i64, .i .i64, .i .i64, .i .u64, .i .u64, .i .i64] fun (r11 : Int) (r12 : Int) (r13 : Int) (r14 : Int) (r15 : Int) (r16 : Int) =>
   K r11 r12 r13 r14 r15 r16 (50 : Int) w10)
   else
    (Dr w9 fun w17 =>
   ∃ a18 : Addr, n1 = some a18 ∧
   ∃ held19 : Option Nat, w17.cell? (a18.add 1) = some (.map held19) ∧
   LdL w17 (Addr.mk w.heap.size 0 none) 0 [.i .i64, .i .i64] fun (t20 : Int) (t21 : Int) =>
   (∃ t22 : Int, ∃ t23 : Int, ∃ t24 : Int, ∃ t25 : Int, ∃ t26 : Int, ∃ t27 : Int, Lk1 Try.prog 82 (.map held19) (.agg #[.int .i64 t20, .int .i64 t21]) (.agg #[.int .i64 t22, .int .i64 t23, .int .i64 t24, .int .u64 t25, .int .u64 t26, .int .i64 t27]) w17 ∧
   (StL w17 (Addr.mk w4.heap.size 0 none) 0 [.int .i64 t22, .int .i64 t23, .int .i64 t24, .int .u64 t25, .int .u64 t26, .int .i64 t27] fun w28 =>
   LdL w28 (Addr.mk w4.heap.size 0 none) 0 [.i .i64, .i .i64, .i .i64, .i .u64, .i .u64, .i .i64] fun (r29 : Int) (r30 : Int) (r31 : Int) (r32 : Int) (r33 : Int) (r34 : Int) =>
   K r29 r30 r31 r32 r33 r34 (0 : Int) w28) ∧
   True) ∧
   True)) w5
set_option maxRecDepth 100000 in
theorem S.slots_Nodes_Get_ok (n1 : Option Addr) (s2 : Int) (s3 : Int) (K : Int → Int → Int → Int → Int → Int → Int → World → Prop) (w : World) (h : S.slots_Nodes_Get n1 s2 s3 K w) : C.slots_Nodes_Get n1 s2 s3 K w := by
  have e : fnV Try.prog Try.f32 (bodyOf Try.f32) (.t none (.u) (.t none (.t none (.u) (.t none (.t none (.u) (.u)) (.u))) (.t none (.r none (.one 0 16 (.one 1 16 (.one 2 16 (.one 3 16 (.one 4 0 (.alt 5 (.alt 6 (.one 7 0 (.done)) (.none)) (.none)))))))) (.u)))) [(0, .a [.i .i64, .i .i64, .i .i64, .i .u64, .i .u64, .i .i64]), (1, .c (.i .i64))] [.pointer n1, .agg #[.int .i64 s2, .int .i64 s3]] K w = S.slots_Nodes_Get n1 s2 s3 K w := by kernel_rfl
  exact okF_mk Try.func32 rfl (fn_sound names_ok follows_ok Try.func32 rfl (by kernel_rfl) (Eq.mpr e h))

/-- (*buttress/slots.Nodes).Take -/
def S.slots_Nodes_Take (n1 : Option Addr) (s2 : Int) (s3 : Int) (K : Int → Int → Int → Int → Int → Int → Int → World → Prop) (w : World) : Prop :=
  Al w (.cells #[.int .i64 s2, .int .i64 s3] 49) fun w4 =>
   Al w4 (.cells #[.int .i64 (0 : Int), .int .i64 (0 : Int), .int .i64 (0 : Int), .int .u64 (0 : Int), .int .u64 (0 : Int), .int .i64 (0 : Int)] 38) fun w5 =>
   ∀ k6 : Addr → Bool → World → Prop,
   (∀ (c7 : Addr) (had8 : Bool) (w9 : World), (LdL w9 (Addr.mk w.heap.size 0 none) 0 [.i .i64, .i .i64] fun (t10 : Int) (t11 : Int) =>
   C.slots_Nodes_there n1 t10 t11 (fun r12 w13 =>
   bif !r12 then
    (StL w13 (Addr.mk w4.heap.size 0 none) 0 [.int .i64 (0 : Int), .int .i64 (0 : Int), .int .i64 (0 : Int), .int .u64 (0 : Int), .int .u64 (0 : Int), .int .i64 (0 : Int)] fun w14 =>
   LdL w14 (Addr.mk w4.heap.size 0 none) 0 [.i .i64, .i .i64, .i .i64, .i .u64, .i .u64, .i .i64] fun (r15 : Int) (r16 : Int) (r17 : Int) (r18 : Int) (r19 : Int) (r20 : Int) =>
   K r15 r16 r17 r18 r19 r20 (50 : Int) w14)
   else
    (bif !had8 then
    (StL w13 (Addr.mk w4.heap.size 0 none) 0 [.int .i64 (0 : Int), .int .i64 (0 : Int), .int .i64 (0 : Int), .int .u64 (0 : Int), .int .u64 (0 : Int), .int .i64 (0 : Int)] fun w21 =>
   LdL w21 (Addr.mk w4.heap.size 0 none) 0 [.i .i64, .i .i64, .i .i64, .i .u64, .i .u64, .i .i64] fun (r22 : Int) (r23 : Int) (r24 : Int) (r25 : Int) (r26 : Int) (r27 : Int) =>
   K r22 r23 r24 r25 r26 r27 (52 : Int) w21)
   else
    (Dr w13 fun w28 =>
   ∃ a29 : Addr, n1 = some a29 ∧
   ∃ held30 : Option Nat, w28.cell? (a29.add 1) = some (.map held30) ∧
   LdL w28 (Addr.mk w.heap.size 0 none) 0 [.i .i64, .i .i64] fun (t31 : Int) (t32 : Int) =>
   (∃ w33 : World, DelR Try.prog [82, 49] 0 (.map held30) (.agg #[.int .i64 t31, .int .i64 t32]) w28 w33 ∧
   LdL w33 c7 0 [.i .i64, .i .i64, .i .i64, .i .u64, .i .u64, .i .i64] fun (t34 : Int) (t35 : Int) (t36 : Int) (t37 : Int) (t38 : Int) (t39 : Int) =>
   StL w33 (Addr.mk w4.heap.size 0 none) 0 [.int .i64 t34, .int .i64 t35, .int .i64 t36, .int .u64 t37, .int .u64 t38, .int .i64 t39] fun w40 =>
   LdL w40 (Addr.mk w4.heap.size 0 none) 0 [.i .i64, .i .i64, .i .i64, .i .u64, .i .u64, .i .i64] fun (r41 : Int) (r42 : Int) (r43 : Int) (r44 : Int) (r45 : Int) (r46 : Int) =>
   K r41 r42 r43 r44 r45 r46 (0 : Int) w40) ∧
   True))) w9) → k6 c7 had8 w9) →
   (Dr w5 fun w47 =>
   ∃ a48 : Addr, n1 = some a48 ∧
   ∃ held49 : Option Nat, w47.cell? (a48.add 1) = some (.map held49) ∧
   LdL w47 (Addr.mk w.heap.size 0 none) 0 [.i .i64, .i .i64] fun (t50 : Int) (t51 : Int) =>
   (∃ t52 : Int, ∃ t53 : Int, ∃ t54 : Int, ∃ t55 : Int, ∃ t56 : Int, ∃ t57 : Int, ∃ is58 : Bool, LkB Try.prog 82 (.map held49) (.agg #[.int .i64 t50, .int .i64 t51]) (.agg #[.int .i64 t52, .int .i64 t53, .int .i64 t54, .int .u64 t55, .int .u64 t56, .int .i64 t57]) is58 w47 ∧
   (Al w47 (.cells #[.int .i64 (0 : Int), .int .i64 (0 : Int), .int .i64 (0 : Int), .int .u64 (0 : Int), .int .u64 (0 : Int), .int .i64 (0 : Int)] 38) fun w59 =>
   (StL w59 (Addr.mk w47.heap.size 0 none) 0 [.int .i64 t52, .int .i64 t53, .int .i64 t54, .int .u64 t55, .int .u64 t56, .int .i64 t57] fun w60 =>
   k6 (Addr.mk w47.heap.size 0 none) is58 w60) ∧
   True) ∧
   True) ∧
   (Al w47 (.cells #[.int .i64 (0 : Int), .int .i64 (0 : Int), .int .i64 (0 : Int), .int .u64 (0 : Int), .int .u64 (0 : Int), .int .i64 (0 : Int)] 38) fun w61 =>
   (∃ t62 : Int, ∃ t63 : Int, ∃ t64 : Int, ∃ t65 : Int, ∃ t66 : Int, ∃ t67 : Int, ∃ is68 : Bool, LkB Try.prog 82 (.map held49) (.agg #[.int .i64 t50, .int .i64 t51]) (.agg #[.int .i64 t62, .int .i64 t63, .int .i64 t64, .int .u64 t65, .int .u64 t66, .int .i64 t67]) is68 w61 ∧
   (StL w61 (Addr.mk w47.heap.size 0 none) 0 [.int .i64 t62, .int .i64 t63, .int .i64 t64, .int .u64 t65, .int .u64 t66, .int .i64 t67] fun w69 =>
   k6 (Addr.mk w47.heap.size 0 none) is68 w69) ∧
   True) ∧
   True) ∧
   True)
set_option maxRecDepth 100000 in
theorem S.slots_Nodes_Take_ok (n1 : Option Addr) (s2 : Int) (s3 : Int) (K : Int → Int → Int → Int → Int → Int → Int → World → Prop) (w : World) (h : S.slots_Nodes_Take n1 s2 s3 K w) : C.slots_Nodes_Take n1 s2 s3 K w := by
  have e : fnV Try.prog Try.f33 (bodyOf Try.f33) (.t none (.u) (.t none (.r (some [(6, .c (.q)), (7, .c (.b))]) (.one 0 528 (.one 1 528 (.one 2 528 (.one 3 528 (.one 4 512 (.alt 5 (.one 6 512 (.one 7 768 (.one 8 1536 (.alt 9 (.alt 10 (.one 11 0 (.done)) (.none)) (.none))))) (.alt 9 (.alt 5 (.one 6 0 (.one 7 256 (.one 8 1024 (.alt 10 (.one 11 0 (.done)) (.none))))) (.none)) (.none))))))))) (.t none (.t none (.t none (.u) (.t none (.t none (.u) (.u)) (.t none (.u) (.t none (.t none (.u) (.u)) (.u))))) (.u)) (.t none (.r none (.one 0 16 (.one 1 16 (.one 2 16 (.one 3 16 (.one 4 0 (.alt 5 (.done) (.none)))))))) (.t none (.u) (.u)))))) [(0, .a [.i .i64, .i .i64, .i .i64, .i .u64, .i .u64, .i .i64]), (1, .c (.i .i64))] [.pointer n1, .agg #[.int .i64 s2, .int .i64 s3]] K w = S.slots_Nodes_Take n1 s2 s3 K w := by kernel_rfl
  exact okF_mk Try.func33 rfl (fn_sound names_ok follows_ok Try.func33 rfl (by kernel_rfl) (Eq.mpr e h))

/-- (*buttress/slots.Nodes).Move -/
def S.slots_Nodes_Move (n1 : Option Addr) (from2 : Int) (from3 : Int) (to4 : Int) (to5 : Int) (K : Int → World → Prop) (w : World) : Prop :=
  Al w (.cells #[.int .i64 from2, .int .i64 from3] 49) fun w6 =>
   Al w6 (.cells #[.int .i64 to4, .int .i64 to5] 49) fun w7 =>
   ∀ k8 : Addr → Bool → World → Prop,
   (∀ (c9 : Addr) (had10 : Bool) (w11 : World), (∀ k12 : Bool → World → Prop,
   (∀ (full13 : Bool) (w14 : World), (∀ k15 : Bool → World → Prop,
   (∀ (t16 : Bool) (w17 : World), (bif t16 then
    (K (50 : Int) w17)
   else
    (bif !had10 then
    (K (52 : Int) w17)
   else
    (bif full13 then
    (K (51 : Int) w17)
   else
    (Dr w17 fun w18 =>
   ∃ a19 : Addr, n1 = some a19 ∧
   ∃ held20 : Option Nat, w18.cell? (a19.add 1) = some (.map held20) ∧
   LdL w18 (Addr.mk w.heap.size 0 none) 0 [.i .i64, .i .i64] fun (t21 : Int) (t22 : Int) =>
   (∃ w23 : World, DelR Try.prog [82, 49] 0 (.map held20) (.agg #[.int .i64 t21, .int .i64 t22]) w18 w23 ∧
   Dr w23 fun w24 =>
   ∃ a25 : Addr, n1 = some a25 ∧
   ∃ held26 : Option Nat, w24.cell? (a25.add 1) = some (.map held26) ∧
   LdL w24 (Addr.mk w6.heap.size 0 none) 0 [.i .i64, .i .i64] fun (t27 : Int) (t28 : Int) =>
   LdL w24 c9 0 [.i .i64, .i .i64, .i .i64, .i .u64, .i .u64, .i .i64] fun (t29 : Int) (t30 : Int) (t31 : Int) (t32 : Int) (t33 : Int) (t34 : Int) =>
   (∃ w35 : World, UpdR Try.prog 82 (.map held26) (.agg #[.int .i64 t27, .int .i64 t28]) (.agg #[.int .i64 t29, .int .i64 t30, .int .i64 t31, .int .u64 t32, .int .u64 t33, .int .i64 t34]) w24 w35 ∧
   K (0 : Int) w35) ∧
   True) ∧
   True)))) → k15 t16 w17) →
   (LdL w14 (Addr.mk w.heap.size 0 none) 0 [.i .i64, .i .i64] fun (t36 : Int) (t37 : Int) =>
   C.slots_Nodes_there n1 t36 t37 (fun r38 w39 =>
   bif !r38 then
    (k15 true w39)
   else
    (LdL w39 (Addr.mk w6.heap.size 0 none) 0 [.i .i64, .i .i64] fun (t40 : Int) (t41 : Int) =>
   C.slots_Nodes_there n1 t40 t41 (fun r42 w43 =>
   k15 (!r42) w43) w39)) w14)) → k12 full13 w14) →
   (Dr w11 fun w44 =>
   ∃ a45 : Addr, n1 = some a45 ∧
   ∃ held46 : Option Nat, w44.cell? (a45.add 1) = some (.map held46) ∧
   LdL w44 (Addr.mk w6.heap.size 0 none) 0 [.i .i64, .i .i64] fun (t47 : Int) (t48 : Int) =>
   (∃ t49 : Int, ∃ t50 : Int, ∃ t51 : Int, ∃ t52 : Int, ∃ t53 : Int, ∃ t54 : Int, ∃ is55 : Bool, LkB Try.prog 82 (.map held46) (.agg #[.int .i64 t47, .int .i64 t48]) (.agg #[.int .i64 t49, .int .i64 t50, .int .i64 t51, .int .u64 t52, .int .u64 t53, .int .i64 t54]) is55 w44 ∧
   (Al w44 (.cells #[.int .i64 (0 : Int), .int .i64 (0 : Int), .int .i64 (0 : Int), .int .u64 (0 : Int), .int .u64 (0 : Int), .int .i64 (0 : Int)] 38) fun w56 =>
   (StL w56 (Addr.mk w44.heap.size 0 none) 0 [.int .i64 t49, .int .i64 t50, .int .i64 t51, .int .u64 t52, .int .u64 t53, .int .i64 t54] fun w57 =>
   k12 is55 w57) ∧
   True) ∧
   True) ∧
   (Al w44 (.cells #[.int .i64 (0 : Int), .int .i64 (0 : Int), .int .i64 (0 : Int), .int .u64 (0 : Int), .int .u64 (0 : Int), .int .i64 (0 : Int)] 38) fun w58 =>
   (∃ t59 : Int, ∃ t60 : Int, ∃ t61 : Int, ∃ t62 : Int, ∃ t63 : Int, ∃ t64 : Int, ∃ is65 : Bool, LkB Try.prog 82 (.map held46) (.agg #[.int .i64 t47, .int .i64 t48]) (.agg #[.int .i64 t59, .int .i64 t60, .int .i64 t61, .int .u64 t62, .int .u64 t63, .int .i64 t64]) is65 w58 ∧
   (StL w58 (Addr.mk w44.heap.size 0 none) 0 [.int .i64 t59, .int .i64 t60, .int .i64 t61, .int .u64 t62, .int .u64 t63, .int .i64 t64] fun w66 =>
   k12 is65 w66) ∧
   True) ∧
   True) ∧
   True)) → k8 c9 had10 w11) →
   (Dr w7 fun w67 =>
   ∃ a68 : Addr, n1 = some a68 ∧
   ∃ held69 : Option Nat, w67.cell? (a68.add 1) = some (.map held69) ∧
   LdL w67 (Addr.mk w.heap.size 0 none) 0 [.i .i64, .i .i64] fun (t70 : Int) (t71 : Int) =>
   (∃ t72 : Int, ∃ t73 : Int, ∃ t74 : Int, ∃ t75 : Int, ∃ t76 : Int, ∃ t77 : Int, ∃ is78 : Bool, LkB Try.prog 82 (.map held69) (.agg #[.int .i64 t70, .int .i64 t71]) (.agg #[.int .i64 t72, .int .i64 t73, .int .i64 t74, .int .u64 t75, .int .u64 t76, .int .i64 t77]) is78 w67 ∧
   (Al w67 (.cells #[.int .i64 (0 : Int), .int .i64 (0 : Int), .int .i64 (0 : Int), .int .u64 (0 : Int), .int .u64 (0 : Int), .int .i64 (0 : Int)] 38) fun w79 =>
   (StL w79 (Addr.mk w67.heap.size 0 none) 0 [.int .i64 t72, .int .i64 t73, .int .i64 t74, .int .u64 t75, .int .u64 t76, .int .i64 t77] fun w80 =>
   k8 (Addr.mk w67.heap.size 0 none) is78 w80) ∧
   True) ∧
   True) ∧
   (Al w67 (.cells #[.int .i64 (0 : Int), .int .i64 (0 : Int), .int .i64 (0 : Int), .int .u64 (0 : Int), .int .u64 (0 : Int), .int .i64 (0 : Int)] 38) fun w81 =>
   (∃ t82 : Int, ∃ t83 : Int, ∃ t84 : Int, ∃ t85 : Int, ∃ t86 : Int, ∃ t87 : Int, ∃ is88 : Bool, LkB Try.prog 82 (.map held69) (.agg #[.int .i64 t70, .int .i64 t71]) (.agg #[.int .i64 t82, .int .i64 t83, .int .i64 t84, .int .u64 t85, .int .u64 t86, .int .i64 t87]) is88 w81 ∧
   (StL w81 (Addr.mk w67.heap.size 0 none) 0 [.int .i64 t82, .int .i64 t83, .int .i64 t84, .int .u64 t85, .int .u64 t86, .int .i64 t87] fun w89 =>
   k8 (Addr.mk w67.heap.size 0 none) is88 w89) ∧
   True) ∧
   True) ∧
   True)
set_option maxRecDepth 100000 in
theorem S.slots_Nodes_Move_ok (n1 : Option Addr) (from2 : Int) (from3 : Int) (to4 : Int) (to5 : Int) (K : Int → World → Prop) (w : World) (h : S.slots_Nodes_Move n1 from2 from3 to4 to5 K w) : C.slots_Nodes_Move n1 from2 from3 to4 to5 K w := by
  have e : fnV Try.prog Try.f34 (bodyOf Try.f34) (.t none (.u) (.t none (.r (some [(7, .c (.q)), (8, .c (.b))]) (.one 0 528 (.one 1 528 (.one 2 528 (.one 3 528 (.one 4 512 (.alt 5 (.one 6 512 (.one 7 768 (.one 8 1536 (.alt 9 (.alt 10 (.one 11 0 (.done)) (.none)) (.none))))) (.alt 9 (.alt 5 (.one 6 0 (.one 7 256 (.one 8 1024 (.alt 10 (.one 11 0 (.done)) (.none))))) (.none)) (.none))))))))) (.t none (.r (some [(10, .c (.b))]) (.one 0 528 (.one 1 528 (.one 2 528 (.one 3 528 (.one 4 512 (.alt 5 (.one 6 512 (.one 7 768 (.one 8 1536 (.alt 9 (.alt 10 (.one 11 0 (.done)) (.none)) (.none))))) (.alt 9 (.alt 5 (.one 6 0 (.one 7 256 (.one 8 1024 (.alt 10 (.one 11 0 (.done)) (.none))))) (.none)) (.none))))))))) (.t none (.t none (.t none (.r (some [(29, .c (.b))]) .done) (.t none (.t none (.u) (.u)) (.t none (.u) (.t none (.t none (.u) (.u)) (.t none (.u) (.t none (.t none (.u) (.u)) (.u))))))) (.u)) (.t none (.r none (.one 0 16 (.one 1 16 (.one 2 16 (.one 3 16 (.one 4 0 (.alt 5 (.done) (.none)))))))) (.t none (.r none (.one 0 48 (.one 1 48 (.one 2 48 (.one 3 48 (.one 4 32 (.one 5 0 (.alt 6 (.done) (.none))))))))) (.t none (.u) (.u)))))))) [(0, .c (.i .i64))] [.pointer n1, .agg #[.int .i64 from2, .int .i64 from3], .agg #[.int .i64 to4, .int .i64 to5]] K w = S.slots_Nodes_Move n1 from2 from3 to4 to5 K w := by kernel_rfl
  exact okF_mk Try.func34 rfl (fn_sound names_ok follows_ok Try.func34 rfl (by kernel_rfl) (Eq.mpr e h))

/-- (*buttress/slots.Nodes).Swap -/
def S.slots_Nodes_Swap (n1 : Option Addr) (a2 : Int) (a3 : Int) (b4 : Int) (b5 : Int) (K : Int → World → Prop) (w : World) : Prop :=
  Al w (.cells #[.int .i64 a2, .int .i64 a3] 49) fun w6 =>
   Al w6 (.cells #[.int .i64 b4, .int .i64 b5] 49) fun w7 =>
   ∀ k8 : Bool → World → Prop,
   (∀ (t9 : Bool) (w10 : World), (bif t9 then
    (K (50 : Int) w10)
   else
    (∀ k11 : Addr → Bool → World → Prop,
   (∀ (x12 : Addr) (p13 : Bool) (w14 : World), (∀ k15 : Addr → Bool → World → Prop,
   (∀ (y16 : Addr) (q17 : Bool) (w18 : World), (LdL w18 (Addr.mk w.heap.size 0 none) 0 [.i .i64, .i .i64] fun (t19 : Int) (t20 : Int) =>
   LdL w18 y16 0 [.i .i64, .i .i64, .i .i64, .i .u64, .i .u64, .i .i64] fun (t21 : Int) (t22 : Int) (t23 : Int) (t24 : Int) (t25 : Int) (t26 : Int) =>
   C.slots_Nodes_set n1 t19 t20 t21 t22 t23 t24 t25 t26 q17 (fun w27 =>
   LdL w27 (Addr.mk w6.heap.size 0 none) 0 [.i .i64, .i .i64] fun (t28 : Int) (t29 : Int) =>
   LdL w27 x12 0 [.i .i64, .i .i64, .i .i64, .i .u64, .i .u64, .i .i64] fun (t30 : Int) (t31 : Int) (t32 : Int) (t33 : Int) (t34 : Int) (t35 : Int) =>
   C.slots_Nodes_set n1 t28 t29 t30 t31 t32 t33 t34 t35 p13 (fun w36 =>
   K (0 : Int) w36) w27) w18) → k15 y16 q17 w18) →
   (Dr w14 fun w37 =>
   ∃ a38 : Addr, n1 = some a38 ∧
   ∃ held39 : Option Nat, w37.cell? (a38.add 1) = some (.map held39) ∧
   LdL w37 (Addr.mk w6.heap.size 0 none) 0 [.i .i64, .i .i64] fun (t40 : Int) (t41 : Int) =>
   (∃ t42 : Int, ∃ t43 : Int, ∃ t44 : Int, ∃ t45 : Int, ∃ t46 : Int, ∃ t47 : Int, ∃ is48 : Bool, LkB Try.prog 82 (.map held39) (.agg #[.int .i64 t40, .int .i64 t41]) (.agg #[.int .i64 t42, .int .i64 t43, .int .i64 t44, .int .u64 t45, .int .u64 t46, .int .i64 t47]) is48 w37 ∧
   (Al w37 (.cells #[.int .i64 (0 : Int), .int .i64 (0 : Int), .int .i64 (0 : Int), .int .u64 (0 : Int), .int .u64 (0 : Int), .int .i64 (0 : Int)] 38) fun w49 =>
   (StL w49 (Addr.mk w37.heap.size 0 none) 0 [.int .i64 t42, .int .i64 t43, .int .i64 t44, .int .u64 t45, .int .u64 t46, .int .i64 t47] fun w50 =>
   k15 (Addr.mk w37.heap.size 0 none) is48 w50) ∧
   True) ∧
   True) ∧
   (Al w37 (.cells #[.int .i64 (0 : Int), .int .i64 (0 : Int), .int .i64 (0 : Int), .int .u64 (0 : Int), .int .u64 (0 : Int), .int .i64 (0 : Int)] 38) fun w51 =>
   (∃ t52 : Int, ∃ t53 : Int, ∃ t54 : Int, ∃ t55 : Int, ∃ t56 : Int, ∃ t57 : Int, ∃ is58 : Bool, LkB Try.prog 82 (.map held39) (.agg #[.int .i64 t40, .int .i64 t41]) (.agg #[.int .i64 t52, .int .i64 t53, .int .i64 t54, .int .u64 t55, .int .u64 t56, .int .i64 t57]) is58 w51 ∧
   (StL w51 (Addr.mk w37.heap.size 0 none) 0 [.int .i64 t52, .int .i64 t53, .int .i64 t54, .int .u64 t55, .int .u64 t56, .int .i64 t57] fun w59 =>
   k15 (Addr.mk w37.heap.size 0 none) is58 w59) ∧
   True) ∧
   True) ∧
   True)) → k11 x12 p13 w14) →
   (Dr w10 fun w60 =>
   ∃ a61 : Addr, n1 = some a61 ∧
   ∃ held62 : Option Nat, w60.cell? (a61.add 1) = some (.map held62) ∧
   LdL w60 (Addr.mk w.heap.size 0 none) 0 [.i .i64, .i .i64] fun (t63 : Int) (t64 : Int) =>
   (∃ t65 : Int, ∃ t66 : Int, ∃ t67 : Int, ∃ t68 : Int, ∃ t69 : Int, ∃ t70 : Int, ∃ is71 : Bool, LkB Try.prog 82 (.map held62) (.agg #[.int .i64 t63, .int .i64 t64]) (.agg #[.int .i64 t65, .int .i64 t66, .int .i64 t67, .int .u64 t68, .int .u64 t69, .int .i64 t70]) is71 w60 ∧
   (Al w60 (.cells #[.int .i64 (0 : Int), .int .i64 (0 : Int), .int .i64 (0 : Int), .int .u64 (0 : Int), .int .u64 (0 : Int), .int .i64 (0 : Int)] 38) fun w72 =>
   (StL w72 (Addr.mk w60.heap.size 0 none) 0 [.int .i64 t65, .int .i64 t66, .int .i64 t67, .int .u64 t68, .int .u64 t69, .int .i64 t70] fun w73 =>
   k11 (Addr.mk w60.heap.size 0 none) is71 w73) ∧
   True) ∧
   True) ∧
   (Al w60 (.cells #[.int .i64 (0 : Int), .int .i64 (0 : Int), .int .i64 (0 : Int), .int .u64 (0 : Int), .int .u64 (0 : Int), .int .i64 (0 : Int)] 38) fun w74 =>
   (∃ t75 : Int, ∃ t76 : Int, ∃ t77 : Int, ∃ t78 : Int, ∃ t79 : Int, ∃ t80 : Int, ∃ is81 : Bool, LkB Try.prog 82 (.map held62) (.agg #[.int .i64 t63, .int .i64 t64]) (.agg #[.int .i64 t75, .int .i64 t76, .int .i64 t77, .int .u64 t78, .int .u64 t79, .int .i64 t80]) is81 w74 ∧
   (StL w74 (Addr.mk w60.heap.size 0 none) 0 [.int .i64 t75, .int .i64 t76, .int .i64 t77, .int .u64 t78, .int .u64 t79, .int .i64 t80] fun w82 =>
   k11 (Addr.mk w60.heap.size 0 none) is81 w82) ∧
   True) ∧
   True) ∧
   True))) → k8 t9 w10) →
   (LdL w7 (Addr.mk w.heap.size 0 none) 0 [.i .i64, .i .i64] fun (t83 : Int) (t84 : Int) =>
   C.slots_Nodes_there n1 t83 t84 (fun r85 w86 =>
   bif !r85 then
    (k8 true w86)
   else
    (LdL w86 (Addr.mk w6.heap.size 0 none) 0 [.i .i64, .i .i64] fun (t87 : Int) (t88 : Int) =>
   C.slots_Nodes_there n1 t87 t88 (fun r89 w90 =>
   k8 (!r89) w90) w86)) w7)
set_option maxRecDepth 100000 in
theorem S.slots_Nodes_Swap_ok (n1 : Option Addr) (a2 : Int) (a3 : Int) (b4 : Int) (b5 : Int) (K : Int → World → Prop) (w : World) (h : S.slots_Nodes_Swap n1 a2 a3 b4 b5 K w) : C.slots_Nodes_Swap n1 a2 a3 b4 b5 K w := by
  have e : fnV Try.prog Try.f35 (bodyOf Try.f35) (.t none (.u) (.t none (.t none (.r (some [(20, .c (.b))]) .done) (.t none (.t none (.u) (.u)) (.u))) (.t none (.r (some [(7, .c (.q)), (8, .c (.b))]) (.one 0 528 (.one 1 528 (.one 2 528 (.one 3 528 (.one 4 512 (.alt 5 (.one 6 512 (.one 7 768 (.one 8 1536 (.alt 9 (.alt 10 (.one 11 0 (.done)) (.none)) (.none))))) (.alt 9 (.alt 5 (.one 6 0 (.one 7 256 (.one 8 1024 (.alt 10 (.one 11 0 (.done)) (.none))))) (.none)) (.none))))))))) (.t none (.r (some [(9, .c (.q)), (10, .c (.b))]) (.one 0 528 (.one 1 528 (.one 2 528 (.one 3 528 (.one 4 512 (.alt 5 (.one 6 512 (.one 7 768 (.one 8 1536 (.alt 9 (.alt 10 (.one 11 0 (.done)) (.none)) (.none))))) (.alt 9 (.alt 5 (.one 6 0 (.one 7 256 (.one 8 1024 (.alt 10 (.one 11 0 (.done)) (.none))))) (.none)) (.none))))))))) (.t none (.u) (.t none (.u) (.t none (.u) (.u)))))))) [(0, .c (.i .i64))] [.pointer n1, .agg #[.int .i64 a2, .int .i64 a3], .agg #[.int .i64 b4, .int .i64 b5]] K w = S.slots_Nodes_Swap n1 a2 a3 b4 b5 K w := by kernel_rfl
  exact okF_mk Try.func35 rfl (fn_sound names_ok follows_ok Try.func35 rfl (by kernel_rfl) (Eq.mpr e h))

/-- (*buttress/slots.Nodes).Held -/
def S.slots_Nodes_Held (n1 : Option Addr) (K : Sl → World → Prop) (w : World) : Prop :=
  ∃ a2 : Addr, n1 = some a2 ∧
   ∃ held3 : Option Nat, w.cell? (a2.add 1) = some (.map held3) ∧
   C.maps_Keys_map_api_Slot_api_Cap_api_Slot_api_Cap held3 (fun r4 w5 =>
   C.slices_SortedFunc_api_Slot r4 (.func (.func 63) #[] #[]) (fun r6 w7 =>
   ∀ l8 : Sl → Int → World → Prop,
   (∀ (out9 : Sl) (t10 : Int) (w11 : World), (bif decide (t10 < (r6.len : Int)) then
    (∃ a12 : Addr, r6.a = some a12 ∧ 0 ≤ t10 ∧ t10 < (r6.len : Int) ∧
   LdL w11 (a12.add (t10.toNat * 2)) 0 [.i .i64, .i .i64] fun (t13 : Int) (t14 : Int) =>
   Al w11 (.cells #[.int .i64 (0 : Int), .int .i64 (0 : Int)] 49) fun w15 =>
   StL w15 (Addr.mk w11.heap.size 0 none) 0 [.int .i64 t13, .int .i64 t14] fun w16 =>
   Dr w16 fun w17 =>
   ∃ a18 : Addr, n1 = some a18 ∧
   ∃ held19 : Option Nat, w17.cell? (a18.add 1) = some (.map held19) ∧
   LdL w17 (Addr.mk w11.heap.size 0 none) 0 [.i .i64, .i .i64] fun (t20 : Int) (t21 : Int) =>
   LdL w17 (Addr.mk w11.heap.size 0 none) 0 [.i .i64, .i .i64] fun (t22 : Int) (t23 : Int) =>
   (∃ t24 : Int, ∃ t25 : Int, ∃ t26 : Int, ∃ t27 : Int, ∃ t28 : Int, ∃ t29 : Int, Lk1 Try.prog 82 (.map held19) (.agg #[.int .i64 t20, .int .i64 t21]) (.agg #[.int .i64 t24, .int .i64 t25, .int .i64 t26, .int .u64 t27, .int .u64 t28, .int .i64 t29]) w17 ∧
   HdL w17 (Addr.mk w11.heap.size 0 none) 0 [.int .i64 t22, .int .i64 t23] (
   (Al w17 (.cells #[.int .i64 t22, .int .i64 t23, .int .i64 t24, .int .i64 t25, .int .i64 t26, .int .u64 t27, .int .u64 t28, .int .i64 t29] 70) fun w30 =>
   (∃ (t31 : Sl) (w32 : World), AppR Try.prog [33, 33] 33 (.slice out9.a out9.len out9.cap) (.slice (some (Addr.mk w17.heap.size 0 none)) 1 1) w30 t31 w32 ∧
   l8 t31 (IntKind.i64.wrap (t10 + (1 : Int))) w32) ∧
   True) ∧
   True)) ∧
   True)
   else
    (K out9 w11)) → l8 out9 t10 w11) →
   l8 ⟨none, 0, 0⟩ (0 : Int) w7) w5) w
set_option maxRecDepth 100000 in
theorem S.slots_Nodes_Held_ok (n1 : Option Addr) (K : Sl → World → Prop) (w : World) (h : S.slots_Nodes_Held n1 K w) : C.slots_Nodes_Held n1 K w := by
  have e : fnV Try.prog Try.f36 (bodyOf Try.f36) (.t none (.u) (.t none (.u) (.t none (.t none (.u) (.t none (.t (some [(3, .c (.s)), (13, .c (.i .i64))]) (.t none (.u) (.t none (.t none (.u) (.u)) (.t none (.t none (.t none (.u) (.r none (.one 0 1022 (.one 2 66 (.one 3 66 (.one 4 66 (.one 5 66 (.one 6 2 (.hold 1 128 2559 (.alt 7 (.one 8 0 (.alt 9 (.alt 10 (.one 11 0 (.done)) (.none)) (.none))) (.none))))))))))) (.u)) (.u)))) (.u)) (.u))) (.t none (.u) (.u))))) [(0, .c (.s))] [.pointer n1] K w = S.slots_Nodes_Held n1 K w := by kernel_rfl
  exact okF_mk Try.func36 rfl (fn_sound names_ok follows_ok Try.func36 rfl (by kernel_rfl) (Eq.mpr e h))

/-- (*buttress/slots.Nodes).Copy -/
def S.slots_Nodes_Copy (n1 : Option Addr) (K : Option Addr → World → Prop) (w : World) : Prop :=
  Dr w fun w2 =>
   ∃ a3 : Addr, n1 = some a3 ∧
   ∃ bits4 : Sl, w2.cell? a3 = some (.slice bits4.a bits4.len bits4.cap) ∧
   ∃ a5 : Addr, n1 = some a5 ∧
   ∃ held6 : Option Nat, w2.cell? (a5.add 1) = some (.map held6) ∧
   (C.slices_Clone_int_int bits4 (fun r7 w8 =>
   w8.cell? (a5.add 1) = some (.map held6) ∧
   (C.maps_Clone_map_api_Slot_api_Cap_api_Slot_api_Cap held6 (fun r9 w10 =>
   (Al w10 (.cells #[.slice r7.a r7.len r7.cap, .map r9] 84) fun w11 =>
   K (some (Addr.mk w10.heap.size 0 none)) w11) ∧
   True) w8) ∧
   True) w2) ∧
   True
set_option maxRecDepth 100000 in
theorem S.slots_Nodes_Copy_ok (n1 : Option Addr) (K : Option Addr → World → Prop) (w : World) (h : S.slots_Nodes_Copy n1 K w) : C.slots_Nodes_Copy n1 K w := by
  have e : fnV Try.prog Try.f40 (bodyOf Try.f40) (.t none (.u) (.t none (.r none (.one 0 480 (.one 1 480 (.one 2 480 (.one 3 480 (.one 5 16 (.one 6 16 (.one 7 16 (.hold 8 16 5631 (.alt 4 (.alt 9 (.one 10 0 (.alt 11 (.one 12 0 (.done)) (.none))) (.none)) (.none))))))))))) (.u))) [(0, .c (.p))] [.pointer n1] K w = S.slots_Nodes_Copy n1 K w := by kernel_rfl
  exact okF_mk Try.func40 rfl (fn_sound names_ok follows_ok Try.func40 rfl (by kernel_rfl) (Eq.mpr e h))

/-- (*buttress/slots.Nodes).there -/
def S.slots_Nodes_there (n1 : Option Addr) (s2 : Int) (s3 : Int) (K : Bool → World → Prop) (w : World) : Prop :=
  Al w (.cells #[.int .i64 s2, .int .i64 s3] 49) fun w4 =>
   ∃ node5 : Int, w4.cell? (Addr.mk w.heap.size 0 none) = some (.int .i64 node5) ∧
   C.slots_Nodes_Size n1 node5 (fun r6 r7 w8 =>
   Dr w8 fun w9 =>
   bif r7 then
    (∃ i10 : Int, w9.cell? ((Addr.mk w.heap.size 0 none).add 1) = some (.int .i64 i10) ∧
   bif decide (i10 ≥ (0 : Int)) then
    (∃ i11 : Int, w9.cell? ((Addr.mk w.heap.size 0 none).add 1) = some (.int .i64 i11) ∧
   0 ≤ r6 ∧
   K (decide (i11 < (shlI .i64 (1 : Int) r6))) w9)
   else
    (K false w9))
   else
    (K false w9)) w4
set_option maxRecDepth 100000 in
theorem S.slots_Nodes_there_ok (n1 : Option Addr) (s2 : Int) (s3 : Int) (K : Bool → World → Prop) (w : World) (h : S.slots_Nodes_there n1 s2 s3 K w) : C.slots_Nodes_there n1 s2 s3 K w := by
  have e : fnV Try.prog Try.f59 (bodyOf Try.f59) (.t none (.u) (.t none (.u) (.t none (.r none (.one 0 0 (.one 1 0 (.one 2 0 (.one 3 0 (.one 4 0 (.one 5 0 (.one 6 0 (.one 7 1536 (.one 8 1536 (.one 9 0 (.one 10 0 (.one 11 0 (.one 12 0 (.one 13 0 (.done)))))))))))))))) (.u)))) [(0, .c (.b))] [.pointer n1, .agg #[.int .i64 s2, .int .i64 s3]] K w = S.slots_Nodes_there n1 s2 s3 K w := by kernel_rfl
  exact okF_mk Try.func59 rfl (fn_sound names_ok follows_ok Try.func59 rfl (by kernel_rfl) (Eq.mpr e h))

/-- (*buttress/slots.Nodes).set -/
def S.slots_Nodes_set (n1 : Option Addr) (s2 : Int) (s3 : Int) (c4 : Int) (c5 : Int) (c6 : Int) (c7 : Int) (c8 : Int) (c9 : Int) (is10 : Bool) (K : World → Prop) (w : World) : Prop :=
  Al w (.cells #[.int .i64 s2, .int .i64 s3] 49) fun w11 =>
   Al w11 (.cells #[.int .i64 c4, .int .i64 c5, .int .i64 c6, .int .u64 c7, .int .u64 c8, .int .i64 c9] 38) fun w12 =>
   bif is10 then
    (Dr w12 fun w13 =>
   ∃ a14 : Addr, n1 = some a14 ∧
   ∃ held15 : Option Nat, w13.cell? (a14.add 1) = some (.map held15) ∧
   LdL w13 (Addr.mk w.heap.size 0 none) 0 [.i .i64, .i .i64] fun (t16 : Int) (t17 : Int) =>
   LdL w13 (Addr.mk w11.heap.size 0 none) 0 [.i .i64, .i .i64, .i .i64, .i .u64, .i .u64, .i .i64] fun (t18 : Int) (t19 : Int) (t20 : Int) (t21 : Int) (t22 : Int) (t23 : Int) =>
   (∃ w24 : World, UpdR Try.prog 82 (.map held15) (.agg #[.int .i64 t16, .int .i64 t17]) (.agg #[.int .i64 t18, .int .i64 t19, .int .i64 t20, .int .u64 t21, .int .u64 t22, .int .i64 t23]) w13 w24 ∧
   K w24) ∧
   True)
   else
    (Dr w12 fun w25 =>
   ∃ a26 : Addr, n1 = some a26 ∧
   ∃ held27 : Option Nat, w25.cell? (a26.add 1) = some (.map held27) ∧
   LdL w25 (Addr.mk w.heap.size 0 none) 0 [.i .i64, .i .i64] fun (t28 : Int) (t29 : Int) =>
   (∃ w30 : World, DelR Try.prog [82, 49] 0 (.map held27) (.agg #[.int .i64 t28, .int .i64 t29]) w25 w30 ∧
   K w30) ∧
   True)
set_option maxRecDepth 100000 in
theorem S.slots_Nodes_set_ok (n1 : Option Addr) (s2 : Int) (s3 : Int) (c4 : Int) (c5 : Int) (c6 : Int) (c7 : Int) (c8 : Int) (c9 : Int) (is10 : Bool) (K : World → Prop) (w : World) (h : S.slots_Nodes_set n1 s2 s3 c4 c5 c6 c7 c8 c9 is10 K w) : C.slots_Nodes_set n1 s2 s3 c4 c5 c6 c7 c8 c9 is10 K w := by
  have e : fnV Try.prog Try.f60 (bodyOf Try.f60) (.t none (.u) (.t none (.t none (.u) (.t none (.t none (.r none (.one 0 48 (.one 1 48 (.one 2 48 (.one 3 48 (.one 4 32 (.one 5 0 (.alt 6 (.done) (.none))))))))) (.u)) (.u))) (.r none (.one 0 16 (.one 1 16 (.one 2 16 (.one 3 16 (.one 4 0 (.alt 5 (.done) (.none)))))))))) [] [.pointer n1, .agg #[.int .i64 s2, .int .i64 s3], .agg #[.int .i64 c4, .int .i64 c5, .int .i64 c6, .int .u64 c7, .int .u64 c8, .int .i64 c9], .bool is10] K w = S.slots_Nodes_set n1 s2 s3 c4 c5 c6 c7 c8 c9 is10 K w := by kernel_rfl
  exact okF_mk Try.func60 rfl (fn_sound names_ok follows_ok Try.func60 rfl (by kernel_rfl) (Eq.mpr e h))

/-- buttress/slots.order -/
def S.slots_order (a1 : Int) (a2 : Int) (b3 : Int) (b4 : Int) (K : Int → World → Prop) (w : World) : Prop :=
  Al w (.cells #[.int .i64 a1, .int .i64 a2] 49) fun w5 =>
   Al w5 (.cells #[.int .i64 b3, .int .i64 b4] 49) fun w6 =>
   Dr w6 fun w7 =>
   ∃ node8 : Int, w7.cell? (Addr.mk w.heap.size 0 none) = some (.int .i64 node8) ∧
   ∃ node9 : Int, w7.cell? (Addr.mk w5.heap.size 0 none) = some (.int .i64 node9) ∧
   ∃ i10 : Int, w7.cell? ((Addr.mk w.heap.size 0 none).add 1) = some (.int .i64 i10) ∧
   ∃ i11 : Int, w7.cell? ((Addr.mk w5.heap.size 0 none).add 1) = some (.int .i64 i11) ∧
   (C.cmp_Compare_int node8 node9 (fun r12 w13 =>
   w13.cell? ((Addr.mk w5.heap.size 0 none).add 1) = some (.int .i64 i11) ∧
   w13.cell? ((Addr.mk w.heap.size 0 none).add 1) = some (.int .i64 i10) ∧
   (C.cmp_Compare_int i10 i11 (fun r14 w15 =>
   (Al w15 (.cells #[.int .i64 r12, .int .i64 r14] 3) fun w16 =>
   (C.cmp_Or_int ⟨some (Addr.mk w15.heap.size 0 none), 2, 2⟩ (fun r17 w18 =>
   K r17 w18) w16) ∧
   True) ∧
   True) w13) ∧
   True) w7) ∧
   True
set_option maxRecDepth 100000 in
theorem S.slots_order_ok (a1 : Int) (a2 : Int) (b3 : Int) (b4 : Int) (K : Int → World → Prop) (w : World) (h : S.slots_order a1 a2 b3 b4 K w) : C.slots_order a1 a2 b3 b4 K w := by
  have e : fnV Try.prog Try.f63 (bodyOf Try.f63) (.t none (.u) (.t none (.r none (.one 0 492 (.one 1 492 (.one 2 480 (.one 3 480 (.one 5 400 (.one 7 80 (.hold 6 272 4607 (.hold 8 16 4607 (.alt 4 (.alt 9 (.alt 10 (.alt 11 (.one 12 0 (.done)) (.none)) (.none)) (.none)) (.none))))))))))) (.u))) [(0, .c (.i .i64))] [.agg #[.int .i64 a1, .int .i64 a2], .agg #[.int .i64 b3, .int .i64 b4]] K w = S.slots_order a1 a2 b3 b4 K w := by kernel_rfl
  exact okF_mk Try.func63 rfl (fn_sound names_ok follows_ok Try.func63 rfl (by kernel_rfl) (Eq.mpr e h))
end Go.Proofs.Ytdlcejjiccknlaa
