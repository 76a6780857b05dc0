/- The functions' texts, and that a call comes to them. Printed by a program of mine (gen.py). -/
import Derived.Test.YtdlcejjiccknlaaC
set_option linter.unusedVariables false
namespace Go.Proofs.Ytdlcejjiccknlaa
open Go Go.Vc Go.Proofs

/-- buttress/lookup.Address -/
def S.lookup_Address (n1 : Option Addr) (root2 : Int) (root3 : Int) (root4 : Int) (root5 : Int) (root6 : Int) (root7 : Int) (way8 : Sl) (K : Int → Int → Int → World → Prop) (w : World) : Prop :=
  Al w (.cells #[.int .i64 root2, .int .i64 root3, .int .i64 root4, .int .u64 root5, .int .u64 root6, .int .i64 root7] 38) fun w9 =>
   bif (way8.len : Int) == (0 : Int) then
    (K (0 : Int) (0 : Int) (1 : Int) w9)
   else
    (Dr w9 fun w10 =>
   LdL w10 (Addr.mk w.heap.size 0 none) 0 [.i .i64, .i .i64, .i .i64, .i .u64, .i .u64, .i .i64] fun (t11 : Int) (t12 : Int) (t13 : Int) (t14 : Int) (t15 : Int) (t16 : Int) =>
   (Al w10 (.cells #[.int .i64 (0 : Int), .int .i64 (0 : Int), .int .i64 (0 : Int), .int .u64 (0 : Int), .int .u64 (0 : Int), .int .i64 (0 : Int)] 38) fun w17 =>
   (StL w17 (Addr.mk w10.heap.size 0 none) 0 [.int .i64 t11, .int .i64 t12, .int .i64 t13, .int .u64 t14, .int .u64 t15, .int .i64 t16] fun w18 =>
   ∀ l19 : Int → Int → Int → World → Prop,
   (∀ (addr20 : Int) (depth21 : Int) (t22 : Int) (w23 : World), (bif decide (t22 < (way8.len : Int)) then
    (∃ a24 : Addr, way8.a = some a24 ∧ 0 ≤ t22 ∧ t22 < (way8.len : Int) ∧
   ∃ t25 : Int, w23.cell? (a24.add (t22.toNat * 1)) = some (.int .i64 t25) ∧
   LdL w23 (Addr.mk w10.heap.size 0 none) 0 [.i .i64, .i .i64, .i .i64, .i .u64, .i .u64, .i .i64] fun (t26 : Int) (t27 : Int) (t28 : Int) (t29 : Int) (t30 : Int) (t31 : Int) =>
   C.lookup_node n1 t26 t27 t28 t29 t30 t31 (fun r32 r33 w34 =>
   bif !r33 then
    (K (0 : Int) (0 : Int) (60 : Int) w34)
   else
    (∀ k35 : Bool → World → Prop,
   (∀ (t36 : Bool) (w37 : World), (bif t36 then
    (K (0 : Int) (0 : Int) (50 : Int) w37)
   else
    (∃ bits38 : Int, w37.cell? ((Addr.mk w10.heap.size 0 none).add 5) = some (.int .i64 bits38) ∧
   bif decide ((IntKind.i64.wrap ((IntKind.i64.wrap (depth21 + bits38)) + r32)) > (64 : Int)) then
    (K (0 : Int) (0 : Int) (62 : Int) w37)
   else
    (∃ bits39 : Int, w37.cell? ((Addr.mk w10.heap.size 0 none).add 5) = some (.int .i64 bits39) ∧
   Dr w37 fun w40 =>
   ∃ bits41 : Int, w40.cell? ((Addr.mk w10.heap.size 0 none).add 5) = some (.int .i64 bits41) ∧
   0 ≤ (IntKind.i64.wrap (bits41 + r32)) ∧
   ∃ guard42 : Int, w40.cell? ((Addr.mk w10.heap.size 0 none).add 4) = some (.int .u64 guard42) ∧
   0 ≤ r32 ∧
   ∃ obj43 : Int, w40.cell? ((Addr.mk w10.heap.size 0 none).add 1) = some (.int .i64 obj43) ∧
   C.slots_Nodes_Get n1 obj43 t25 (fun r44 r45 r46 r47 r48 r49 r50 w51 =>
   StL w51 (Addr.mk w10.heap.size 0 none) 0 [.int .i64 r44, .int .i64 r45, .int .i64 r46, .int .u64 r47, .int .u64 r48, .int .i64 r49] fun w52 =>
   l19 (orI .u64 (orI .u64 (shlI .u64 addr20 (IntKind.i64.wrap (bits41 + r32))) (shlI .u64 guard42 r32)) (IntKind.u64.wrap t25)) (IntKind.i64.wrap (depth21 + (IntKind.i64.wrap (bits39 + r32)))) (IntKind.i64.wrap (t22 + (1 : Int))) w52) w40))) → k35 t36 w37) →
   (bif decide (t25 < (0 : Int)) then
    (k35 true w34)
   else
    (0 ≤ r32 ∧
   k35 (decide (t25 ≥ (shlI .i64 (1 : Int) r32))) w34)))) w23)
   else
    (K addr20 depth21 (0 : Int) w23)) → l19 addr20 depth21 t22 w23) →
   l19 (0 : Int) (0 : Int) (0 : Int) w18) ∧
   True) ∧
   True)
set_option maxRecDepth 100000 in
theorem S.lookup_Address_ok (n1 : Option Addr) (root2 : Int) (root3 : Int) (root4 : Int) (root5 : Int) (root6 : Int) (root7 : Int) (way8 : Sl) (K : Int → Int → Int → World → Prop) (w : World) (h : S.lookup_Address n1 root2 root3 root4 root5 root6 root7 way8 K w) : C.lookup_Address n1 root2 root3 root4 root5 root6 root7 way8 K w := by
  have e : fnV Try.prog Try.f24 (bodyOf Try.f24) (.t none (.u) (.t none (.t none (.u) (.t none (.t none (.u) (.u)) (.u))) (.t none (.u) (.t none (.r none (.one 0 6 (.alt 1 (.one 2 0 (.alt 3 (.done) (.none))) (.none)))) (.t none (.t none (.u) (.t none (.t (some [(9, .c (.i .u64)), (10, .c (.i .i64)), (22, .c (.i .i64))]) (.t none (.u) (.t none (.t none (.u) (.u)) (.t none (.t none (.t none (.u) (.t none (.u) (.t none (.t none (.t none (.u) (.t none (.t none (.u) (.u)) (.t none (.r (some [(35, .c (.b))]) .done) (.t none (.t none (.u) (.u)) (.t none (.u) (.t none (.t none (.u) (.u)) (.u))))))) (.u)) (.t none (.u) (.t none (.r none (.one 0 7134 (.one 1 7112 (.one 2 7112 (.one 3 7104 (.one 4 7104 (.one 5 7104 (.one 6 6400 (.one 7 6400 (.one 8 6144 (.one 9 6144 (.one 10 6144 (.one 11 0 (.one 12 0 (.one 13 0 (.one 14 0 (.done))))))))))))))))) (.u)))))) (.u)) (.u)))) (.u)) (.u))) (.t none (.u) (.u))))))) [(0, .c (.i .u64)), (1, .c (.i .i64)), (2, .c (.i .i64))] [.pointer n1, .agg #[.int .i64 root2, .int .i64 root3, .int .i64 root4, .int .u64 root5, .int .u64 root6, .int .i64 root7], .slice way8.a way8.len way8.cap] K w = S.lookup_Address n1 root2 root3 root4 root5 root6 root7 way8 K w := by kernel_rfl
  exact okF_mk Try.func24 rfl (fn_sound names_ok follows_ok Try.func24 rfl (by kernel_rfl) (Eq.mpr e h))

/-- buttress/lookup.Slot -/
def S.lookup_Slot (n1 : Option Addr) (root2 : Int) (root3 : Int) (root4 : Int) (root5 : Int) (root6 : Int) (root7 : Int) (addr8 : Int) (depth9 : Int) (K : Int → Int → Int → World → Prop) (w : World) : Prop :=
  Al w (.cells #[.int .i64 root2, .int .i64 root3, .int .i64 root4, .int .u64 root5, .int .u64 root6, .int .i64 root7] 38) fun w10 =>
   Al w10 (.cells #[.int .i64 (0 : Int), .int .i64 (0 : Int)] 49) fun w11 =>
   ∀ k12 : Bool → World → Prop,
   (∀ (t13 : Bool) (w14 : World), (bif t13 then
    (StL w14 (Addr.mk w10.heap.size 0 none) 0 [.int .i64 (0 : Int), .int .i64 (0 : Int)] fun w15 =>
   LdL w15 (Addr.mk w10.heap.size 0 none) 0 [.i .i64, .i .i64] fun (r16 : Int) (r17 : Int) =>
   K r16 r17 (1 : Int) w15)
   else
    (Al w14 (.cells #[.int .u64 addr8, .int .i64 depth9] 91) fun w18 =>
   LdL w18 (Addr.mk w.heap.size 0 none) 0 [.i .i64, .i .i64, .i .i64, .i .u64, .i .u64, .i .i64] fun (t19 : Int) (t20 : Int) (t21 : Int) (t22 : Int) (t23 : Int) (t24 : Int) =>
   Al w18 (.cells #[.int .i64 (0 : Int), .int .i64 (0 : Int), .int .i64 (0 : Int), .int .u64 (0 : Int), .int .u64 (0 : Int), .int .i64 (0 : Int)] 38) fun w25 =>
   StL w25 (Addr.mk w18.heap.size 0 none) 0 [.int .i64 t19, .int .i64 t20, .int .i64 t21, .int .u64 t22, .int .u64 t23, .int .i64 t24] fun w26 =>
   ∀ l27 : Addr → World → Prop,
   (∀ (c28 : Addr) (w29 : World), (LdL w29 c28 0 [.i .i64, .i .i64, .i .i64, .i .u64, .i .u64, .i .i64] fun (t30 : Int) (t31 : Int) (t32 : Int) (t33 : Int) (t34 : Int) (t35 : Int) =>
   C.lookup_step n1 t30 t31 t32 t33 t34 t35 (.func (.func 54) #[.pointer (some (Addr.mk w14.heap.size 0 none))] #[]) (fun r36 r37 r38 w39 =>
   Al w39 (.cells #[.int .i64 (0 : Int), .int .i64 (0 : Int)] 49) fun w40 =>
   StL w40 (Addr.mk w39.heap.size 0 none) 0 [.int .i64 r36, .int .i64 r37] fun w41 =>
   ∀ k42 : Bool → World → Prop,
   (∀ (t43 : Bool) (w44 : World), (bif t43 then
    (LdL w44 (Addr.mk w39.heap.size 0 none) 0 [.i .i64, .i .i64] fun (t45 : Int) (t46 : Int) =>
   StL w44 (Addr.mk w10.heap.size 0 none) 0 [.int .i64 t45, .int .i64 t46] fun w47 =>
   LdL w47 (Addr.mk w10.heap.size 0 none) 0 [.i .i64, .i .i64] fun (r48 : Int) (r49 : Int) =>
   K r48 r49 r38 w47)
   else
    (LdL w44 (Addr.mk w39.heap.size 0 none) 0 [.i .i64, .i .i64] fun (t50 : Int) (t51 : Int) =>
   C.slots_Nodes_Get n1 t50 t51 (fun r52 r53 r54 r55 r56 r57 r58 w59 =>
   StL w59 c28 0 [.int .i64 r52, .int .i64 r53, .int .i64 r54, .int .u64 r55, .int .u64 r56, .int .i64 r57] fun w60 =>
   ∃ kind61 : Int, w60.cell? c28 = some (.int .i64 kind61) ∧
   bif kind61 != (2 : Int) then
    (StL w60 (Addr.mk w10.heap.size 0 none) 0 [.int .i64 (0 : Int), .int .i64 (0 : Int)] fun w62 =>
   LdL w62 (Addr.mk w10.heap.size 0 none) 0 [.i .i64, .i .i64] fun (r63 : Int) (r64 : Int) =>
   K r63 r64 (62 : Int) w62)
   else
    (LdL w60 c28 0 [.i .i64, .i .i64, .i .i64, .i .u64, .i .u64, .i .i64] fun (kind65 : Int) (kind66 : Int) (kind67 : Int) (kind68 : Int) (kind69 : Int) (kind70 : Int) =>
   Al w60 (.cells #[.int .i64 (0 : Int), .int .i64 (0 : Int), .int .i64 (0 : Int), .int .u64 (0 : Int), .int .u64 (0 : Int), .int .i64 (0 : Int)] 38) fun w71 =>
   StL w71 (Addr.mk w60.heap.size 0 none) 0 [.int .i64 kind65, .int .i64 kind66, .int .i64 kind67, .int .u64 kind68, .int .u64 kind69, .int .i64 kind70] fun w72 =>
   l27 (Addr.mk w60.heap.size 0 none) w72)) w44)) → k42 t43 w44) →
   (bif r38 != (0 : Int) then
    (k42 true w41)
   else
    (∃ a73 : Addr, some (Addr.mk w14.heap.size 0 none) = some a73 ∧
   ∃ left74 : Int, w41.cell? (a73.add 1) = some (.int .i64 left74) ∧
   k42 (left74 == (0 : Int)) w41))) w29) → l27 c28 w29) →
   l27 (Addr.mk w18.heap.size 0 none) w26)) → k12 t13 w14) →
   (bif decide (depth9 < (1 : Int)) then
    (k12 true w11)
   else
    (k12 (decide (depth9 > (64 : Int))) w11))
set_option maxRecDepth 100000 in
theorem S.lookup_Slot_ok (n1 : Option Addr) (root2 : Int) (root3 : Int) (root4 : Int) (root5 : Int) (root6 : Int) (root7 : Int) (addr8 : Int) (depth9 : Int) (K : Int → Int → Int → World → Prop) (w : World) (h : S.lookup_Slot n1 root2 root3 root4 root5 root6 root7 addr8 depth9 K w) : C.lookup_Slot n1 root2 root3 root4 root5 root6 root7 addr8 depth9 K w := by
  have e : fnV Try.prog Try.f27 (bodyOf Try.f27) (.t none (.u) (.t none (.t none (.r (some [(19, .c (.b))]) .done) (.t none (.t none (.u) (.u)) (.u))) (.t none (.u) (.t none (.u) (.t none (.t (some [(11, .c (.q))]) (.t none (.t none (.t none (.u) (.t none (.t none (.r (some [(42, .c (.b))]) .done) (.t none (.t none (.u) (.u)) (.u))) (.t none (.u) (.t none (.u) (.t none (.t none (.u) (.u)) (.u)))))) (.u)) (.t none (.u) (.u))) (.u)) (.u)))))) [(0, .a [.i .i64, .i .i64]), (1, .c (.i .i64))] [.pointer n1, .agg #[.int .i64 root2, .int .i64 root3, .int .i64 root4, .int .u64 root5, .int .u64 root6, .int .i64 root7], .int .u64 addr8, .int .i64 depth9] K w = S.lookup_Slot n1 root2 root3 root4 root5 root6 root7 addr8 depth9 K w := by kernel_rfl
  exact okF_mk Try.func27 rfl (fn_sound names_ok follows_ok Try.func27 rfl (by kernel_rfl) (Eq.mpr e h))

/-- buttress/lookup.Cap -/
def S.lookup_Cap (n1 : Option Addr) (root2 : Int) (root3 : Int) (root4 : Int) (root5 : Int) (root6 : Int) (root7 : Int) (addr8 : Int) (depth9 : Int) (K : Int → Int → Int → Int → Int → Int → Int → World → Prop) (w : World) : Prop :=
  Al w (.cells #[.int .i64 root2, .int .i64 root3, .int .i64 root4, .int .u64 root5, .int .u64 root6, .int .i64 root7] 38) fun w10 =>
   Al w10 (.cells #[.int .i64 (0 : Int), .int .i64 (0 : Int), .int .i64 (0 : Int), .int .u64 (0 : Int), .int .u64 (0 : Int), .int .i64 (0 : Int)] 38) fun w11 =>
   LdL w11 (Addr.mk w.heap.size 0 none) 0 [.i .i64, .i .i64, .i .i64, .i .u64, .i .u64, .i .i64] fun (t12 : Int) (t13 : Int) (t14 : Int) (t15 : Int) (t16 : Int) (t17 : Int) =>
   C.lookup_Slot n1 t12 t13 t14 t15 t16 t17 addr8 depth9 (fun r18 r19 r20 w21 =>
   Al w21 (.cells #[.int .i64 (0 : Int), .int .i64 (0 : Int)] 49) fun w22 =>
   StL w22 (Addr.mk w21.heap.size 0 none) 0 [.int .i64 r18, .int .i64 r19] fun w23 =>
   bif r20 != (0 : Int) then
    (StL w23 (Addr.mk w10.heap.size 0 none) 0 [.int .i64 (0 : Int), .int .i64 (0 : Int), .int .i64 (0 : Int), .int .u64 (0 : Int), .int .u64 (0 : Int), .int .i64 (0 : Int)] fun w24 =>
   LdL w24 (Addr.mk w10.heap.size 0 none) 0 [.i .i64, .i .i64, .i .i64, .i .u64, .i .u64, .i .i64] fun (r25 : Int) (r26 : Int) (r27 : Int) (r28 : Int) (r29 : Int) (r30 : Int) =>
   K r25 r26 r27 r28 r29 r30 r20 w24)
   else
    (LdL w23 (Addr.mk w21.heap.size 0 none) 0 [.i .i64, .i .i64] fun (t31 : Int) (t32 : Int) =>
   C.slots_Nodes_Get n1 t31 t32 (fun r33 r34 r35 r36 r37 r38 r39 w40 =>
   StL w40 (Addr.mk w10.heap.size 0 none) 0 [.int .i64 r33, .int .i64 r34, .int .i64 r35, .int .u64 r36, .int .u64 r37, .int .i64 r38] fun w41 =>
   LdL w41 (Addr.mk w10.heap.size 0 none) 0 [.i .i64, .i .i64, .i .i64, .i .u64, .i .u64, .i .i64] fun (r42 : Int) (r43 : Int) (r44 : Int) (r45 : Int) (r46 : Int) (r47 : Int) =>
   K r42 r43 r44 r45 r46 r47 r39 w41) w23)) w11
set_option maxRecDepth 100000 in
theorem S.lookup_Cap_ok (n1 : Option Addr) (root2 : Int) (root3 : Int) (root4 : Int) (root5 : Int) (root6 : Int) (root7 : Int) (addr8 : Int) (depth9 : Int) (K : Int → Int → Int → Int → Int → Int → Int → World → Prop) (w : World) (h : S.lookup_Cap n1 root2 root3 root4 root5 root6 root7 addr8 depth9 K w) : C.lookup_Cap n1 root2 root3 root4 root5 root6 root7 addr8 depth9 K w := by
  have e : fnV Try.prog Try.f45 (bodyOf Try.f45) (.t none (.u) (.t none (.u) (.t none (.t none (.u) (.t none (.t none (.u) (.u)) (.u))) (.t none (.u) (.u))))) [(0, .a [.i .i64, .i .i64, .i .i64, .i .u64, .i .u64, .i .i64]), (1, .c (.i .i64))] [.pointer n1, .agg #[.int .i64 root2, .int .i64 root3, .int .i64 root4, .int .u64 root5, .int .u64 root6, .int .i64 root7], .int .u64 addr8, .int .i64 depth9] K w = S.lookup_Cap n1 root2 root3 root4 root5 root6 root7 addr8 depth9 K w := by kernel_rfl
  exact okF_mk Try.func45 rfl (fn_sound names_ok follows_ok Try.func45 rfl (by kernel_rfl) (Eq.mpr e h))

/-- buttress/lookup.node -/
def S.lookup_node (n1 : Option Addr) (c2 : Int) (c3 : Int) (c4 : Int) (c5 : Int) (c6 : Int) (c7 : Int) (K : Int → Bool → World → Prop) (w : World) : Prop :=
  Al w (.cells #[.int .i64 c2, .int .i64 c3, .int .i64 c4, .int .u64 c5, .int .u64 c6, .int .i64 c7] 38) fun w8 =>
   ∀ k9 : Bool → World → Prop,
   (∀ (t10 : Bool) (w11 : World), (bif t10 then
    (K (0 : Int) false w11)
   else
    (∃ obj12 : Int, w11.cell? ((Addr.mk w.heap.size 0 none).add 1) = some (.int .i64 obj12) ∧
   C.slots_Nodes_Size n1 obj12 (fun r13 r14 w15 =>
   K r13 r14 w15) w11)) → k9 t10 w11) →
   (∃ kind16 : Int, w8.cell? (Addr.mk w.heap.size 0 none) = some (.int .i64 kind16) ∧
   bif kind16 != (2 : Int) then
    (k9 true w8)
   else
    (LdL w8 (Addr.mk w.heap.size 0 none) 0 [.i .i64, .i .i64, .i .i64, .i .u64, .i .u64, .i .i64] fun (kind17 : Int) (kind18 : Int) (kind19 : Int) (kind20 : Int) (kind21 : Int) (kind22 : Int) =>
   C.caps_Check kind17 kind18 kind19 kind20 kind21 kind22 (fun r23 w24 =>
   k9 (r23 != (0 : Int)) w24) w8))
set_option maxRecDepth 100000 in
theorem S.lookup_node_ok (n1 : Option Addr) (c2 : Int) (c3 : Int) (c4 : Int) (c5 : Int) (c6 : Int) (c7 : Int) (K : Int → Bool → World → Prop) (w : World) (h : S.lookup_node n1 c2 c3 c4 c5 c6 c7 K w) : C.lookup_node n1 c2 c3 c4 c5 c6 c7 K w := by
  have e : fnV Try.prog Try.f49 (bodyOf Try.f49) (.t none (.u) (.t none (.t none (.r (some [(13, .c (.b))]) .done) (.t none (.t none (.u) (.u)) (.u))) (.t none (.u) (.u)))) [(0, .c (.i .i64)), (1, .c (.b))] [.pointer n1, .agg #[.int .i64 c2, .int .i64 c3, .int .i64 c4, .int .u64 c5, .int .u64 c6, .int .i64 c7]] K w = S.lookup_node n1 c2 c3 c4 c5 c6 c7 K w := by kernel_rfl
  exact okF_mk Try.func49 rfl (fn_sound names_ok follows_ok Try.func49 rfl (by kernel_rfl) (Eq.mpr e h))

/-- buttress/lookup.step -/
def S.lookup_step (n1 : Option Addr) (c2 : Int) (c3 : Int) (c4 : Int) (c5 : Int) (c6 : Int) (c7 : Int) (next8 : Value) (K : Int → Int → Int → World → Prop) (w : World) : Prop :=
  Al w (.cells #[.int .i64 c2, .int .i64 c3, .int .i64 c4, .int .u64 c5, .int .u64 c6, .int .i64 c7] 38) fun w9 =>
   Al w9 (.cells #[.int .i64 (0 : Int), .int .i64 (0 : Int)] 49) fun w10 =>
   LdL w10 (Addr.mk w.heap.size 0 none) 0 [.i .i64, .i .i64, .i .i64, .i .u64, .i .u64, .i .i64] fun (t11 : Int) (t12 : Int) (t13 : Int) (t14 : Int) (t15 : Int) (t16 : Int) =>
   C.lookup_node n1 t11 t12 t13 t14 t15 t16 (fun r17 r18 w19 =>
   bif !r18 then
    (StL w19 (Addr.mk w9.heap.size 0 none) 0 [.int .i64 (0 : Int), .int .i64 (0 : Int)] fun w20 =>
   LdL w20 (Addr.mk w9.heap.size 0 none) 0 [.i .i64, .i .i64] fun (r21 : Int) (r22 : Int) =>
   K r21 r22 (60 : Int) w20)
   else
    (∃ bits23 : Int, w19.cell? ((Addr.mk w.heap.size 0 none).add 5) = some (.int .i64 bits23) ∧
   CallV Try.prog (next8) [.int .i64 bits23] w19 fun enw26 w26 => ∃ r24 : Int, ∃ r25 : Bool, enw26 = .returned (.tuple #[.int .u64 r24, .bool r25]) ∧
   ∀ k27 : Bool → World → Prop,
   (∀ (t28 : Bool) (w29 : World), (bif t28 then
    (StL w29 (Addr.mk w9.heap.size 0 none) 0 [.int .i64 (0 : Int), .int .i64 (0 : Int)] fun w30 =>
   LdL w30 (Addr.mk w9.heap.size 0 none) 0 [.i .i64, .i .i64] fun (r31 : Int) (r32 : Int) =>
   K r31 r32 (61 : Int) w30)
   else
    (CallV Try.prog (next8) [.int .i64 r17] w29 fun enw35 w35 => ∃ r33 : Int, ∃ r34 : Bool, enw35 = .returned (.tuple #[.int .u64 r33, .bool r34]) ∧
   bif !r34 then
    (StL w35 (Addr.mk w9.heap.size 0 none) 0 [.int .i64 (0 : Int), .int .i64 (0 : Int)] fun w36 =>
   LdL w36 (Addr.mk w9.heap.size 0 none) 0 [.i .i64, .i .i64] fun (r37 : Int) (r38 : Int) =>
   K r37 r38 (62 : Int) w36)
   else
    (∃ obj39 : Int, w35.cell? ((Addr.mk w.heap.size 0 none).add 1) = some (.int .i64 obj39) ∧
   StL w35 (Addr.mk w9.heap.size 0 none) 0 [.int .i64 obj39, .int .i64 (IntKind.i64.wrap r33)] fun w40 =>
   LdL w40 (Addr.mk w9.heap.size 0 none) 0 [.i .i64, .i .i64] fun (r41 : Int) (r42 : Int) =>
   K r41 r42 (0 : Int) w40))) → k27 t28 w29) →
   (bif !r25 then
    (k27 true w26)
   else
    (∃ guard43 : Int, w26.cell? ((Addr.mk w.heap.size 0 none).add 4) = some (.int .u64 guard43) ∧
   k27 (r24 != guard43) w26)))) w10
set_option maxRecDepth 100000 in
theorem S.lookup_step_ok (n1 : Option Addr) (c2 : Int) (c3 : Int) (c4 : Int) (c5 : Int) (c6 : Int) (c7 : Int) (next8 : Value) (K : Int → Int → Int → World → Prop) (w : World) (h : S.lookup_step n1 c2 c3 c4 c5 c6 c7 next8 K w) : C.lookup_step n1 c2 c3 c4 c5 c6 c7 next8 K w := by
  have e : fnV Try.prog Try.f53 (bodyOf Try.f53) (.t none (.u) (.t none (.u) (.t none (.t none (.u) (.t none (.t none (.u) (.u)) (.u))) (.t none (.t none (.u) (.t none (.r (some [(37, .c (.b))]) .done) (.t none (.t none (.u) (.u)) (.u)))) (.t none (.u) (.t none (.t none (.u) (.t none (.t none (.u) (.u)) (.u))) (.t none (.u) (.u)))))))) [(0, .a [.i .i64, .i .i64]), (1, .c (.i .i64))] [.pointer n1, .agg #[.int .i64 c2, .int .i64 c3, .int .i64 c4, .int .u64 c5, .int .u64 c6, .int .i64 c7], next8] K w = S.lookup_step n1 c2 c3 c4 c5 c6 c7 next8 K w := by kernel_rfl
  exact okF_mk Try.func53 rfl (fn_sound names_ok follows_ok Try.func53 rfl (by kernel_rfl) (Eq.mpr e h))

/-- (*buttress/lookup.reader).next -/
def S.lookup_reader_next (r1 : Option Addr) (n2 : Int) (K : Int → Bool → World → Prop) (w : World) : Prop :=
  ∃ a3 : Addr, r1 = some a3 ∧
   ∃ left4 : Int, w.cell? (a3.add 1) = some (.int .i64 left4) ∧
   bif decide (n2 > left4) then
    (K (0 : Int) false w)
   else
    (∃ a5 : Addr, r1 = some a5 ∧
   ∃ left6 : Int, w.cell? (a5.add 1) = some (.int .i64 left6) ∧
   ∃ a7 : Addr, r1 = some a7 ∧
   St w (a7.add 1) (.int .i64 (IntKind.i64.wrap (left6 - n2))) fun w8 =>
   Dr w8 fun w9 =>
   ∃ a10 : Addr, r1 = some a10 ∧
   ∃ addr11 : Int, w9.cell? a10 = some (.int .u64 addr11) ∧
   ∃ a12 : Addr, r1 = some a12 ∧
   ∃ left13 : Int, w9.cell? (a12.add 1) = some (.int .i64 left13) ∧
   (C.words_Field addr11 left13 n2 (fun r14 r15 w16 =>
   K r14 true w16) w9) ∧
   True)
set_option maxRecDepth 100000 in
theorem S.lookup_reader_next_ok (r1 : Option Addr) (n2 : Int) (K : Int → Bool → World → Prop) (w : World) (h : S.lookup_reader_next r1 n2 K w) : C.lookup_reader_next r1 n2 K w := by
  have e : fnV Try.prog Try.f54 (bodyOf Try.f54) (.t none (.u) (.t none (.t none (.u) (.t none (.t none (.u) (.u)) (.u))) (.t none (.u) (.t none (.r none (.one 0 496 (.one 1 496 (.one 2 496 (.one 3 496 (.one 4 256 (.one 5 256 (.one 6 256 (.one 7 256 (.one 8 0 (.alt 9 (.one 10 0 (.one 11 4096 (.one 12 8192 (.one 13 0 (.one 14 0 (.done)))))) (.none)))))))))))) (.t none (.u) (.u)))))) [(0, .c (.i .u64)), (1, .c (.b))] [.pointer r1, .int .i64 n2] K w = S.lookup_reader_next r1 n2 K w := by kernel_rfl
  exact okF_mk Try.func54 rfl (fn_sound names_ok follows_ok Try.func54 rfl (by kernel_rfl) (Eq.mpr e h))

/-- maps.Keys[map[buttress/api.Slot]buttress/api.Cap,buttress/api.Slot,buttress/api.Cap] -/
def S.maps_Keys_map_api_Slot_api_Cap_api_Slot_api_Cap (m1 : Option Nat) (K : Value → World → Prop) (w : World) : Prop :=
  Al w (.cells #[.map m1] 82) fun w2 =>
   K (.func (.func 78) #[] #[.pointer (some (Addr.mk w.heap.size 0 none))]) w2
set_option maxRecDepth 100000 in
theorem S.maps_Keys_map_api_Slot_api_Cap_api_Slot_api_Cap_ok (m1 : Option Nat) (K : Value → World → Prop) (w : World) (h : S.maps_Keys_map_api_Slot_api_Cap_api_Slot_api_Cap m1 K w) : C.maps_Keys_map_api_Slot_api_Cap_api_Slot_api_Cap m1 K w := by
  have e : fnV Try.prog Try.f62 (bodyOf Try.f62) (.t none (.u) (.t none (.u) (.u))) [(0, .c (.v))] [.map m1] K w = S.maps_Keys_map_api_Slot_api_Cap_api_Slot_api_Cap m1 K w := by kernel_rfl
  exact okF_mk Try.func62 rfl (fn_sound names_ok follows_ok Try.func62 rfl (by kernel_rfl) (Eq.mpr e h))

/-- maps.Clone[map[buttress/api.Slot]buttress/api.Cap,buttress/api.Slot,buttress/api.Cap] -/
def S.maps_Clone_map_api_Slot_api_Cap_api_Slot_api_Cap (m1 : Option Nat) (K : Option Nat → World → Prop) (w : World) : Prop :=
  bif m1.isNone then
    (K none w)
   else
    (False)
set_option maxRecDepth 100000 in
theorem S.maps_Clone_map_api_Slot_api_Cap_api_Slot_api_Cap_ok (m1 : Option Nat) (K : Option Nat → World → Prop) (w : World) (h : S.maps_Clone_map_api_Slot_api_Cap_api_Slot_api_Cap m1 K w) : C.maps_Clone_map_api_Slot_api_Cap_api_Slot_api_Cap m1 K w := by
  have e : fnV Try.prog Try.f65 (bodyOf Try.f65) (.t none (.u) (.t none (.t none (.u) (.t none (.t none (.u) (.u)) (.u))) (.t none (.u) (.u)))) [(0, .c (.m))] [.map m1] K w = S.maps_Clone_map_api_Slot_api_Cap_api_Slot_api_Cap m1 K w := by kernel_rfl
  exact okF_mk Try.func65 rfl (fn_sound names_ok follows_ok Try.func65 rfl (by kernel_rfl) (Eq.mpr e h))

/-- maps.Keys[map[buttress/api.Slot]buttress/api.Cap,buttress/api.Slot,buttress/api.Cap]$1 -/
def S.maps_Keys_map_api_Slot_api_Cap_api_Slot_api_Cap__1 (yield1 : Value) (t2 : Addr) (K : World → Prop) (w : World) : Prop :=
  ∃ t3 : Option Nat, w.cell? t2 = some (.map t3) ∧
   ∃ (it4 : Addr) (w5 : World), RangeR Try.prog 82 (.map t3) w it4 w5 ∧
   ∀ l6 : World → Prop,
   (∀ (w7 : World), (∃ (more8 : Bool) (l9 : List Value) (w10 : World), NextR Try.prog (.pointer (some it4)) false 0 w7 more8 l9 w10 ∧
   bif more8 then
    (∃ key11 : Int, ∃ key12 : Int, ∃ val13 : Value, EntryR Try.prog (.pointer (some it4)) (.agg #[.int .i64 key11, .int .i64 key12]) (val13) w10 ∧
   Al w10 (.cells #[.int .i64 (0 : Int), .int .i64 (0 : Int)] 49) fun w14 =>
   StL w14 (Addr.mk w10.heap.size 0 none) 0 [.int .i64 key11, .int .i64 key12] fun w15 =>
   LdL w15 (Addr.mk w10.heap.size 0 none) 0 [.i .i64, .i .i64] fun (t16 : Int) (t17 : Int) =>
   CallV Try.prog (yield1) [.agg #[.int .i64 t16, .int .i64 t17]] w15 fun enw19 w19 => ∃ r18 : Bool, enw19 = .returned (.bool r18) ∧
   bif !r18 then
    (K w19)
   else
    (l6 w19))
   else
    (K w10)) → l6 w7) →
   l6 w5
set_option maxRecDepth 100000 in
theorem S.maps_Keys_map_api_Slot_api_Cap_api_Slot_api_Cap__1_ok (yield1 : Value) (t2 : Addr) (K : World → Prop) (w : World) (h : S.maps_Keys_map_api_Slot_api_Cap_api_Slot_api_Cap__1 yield1 t2 K w) : C.maps_Keys_map_api_Slot_api_Cap_api_Slot_api_Cap__1 yield1 t2 K w := by
  have e : fnV Try.prog Try.f78 (bodyOf Try.f78) (.t none (.u) (.t none (.t (some []) (.t none (.u) (.t none (.t none (.u) (.u)) (.t none (.t none (.u) (.t none (.u) (.t none (.u) (.u)))) (.u)))) (.u)) (.u))) [] [yield1, .pointer (some t2)] K w = S.maps_Keys_map_api_Slot_api_Cap_api_Slot_api_Cap__1 yield1 t2 K w := by kernel_rfl
  exact okF_mk Try.func78 rfl (fn_sound names_ok follows_ok Try.func78 rfl (by kernel_rfl) (Eq.mpr e h))

/-- math/bits.Len -/
def S.math_bits_Len (x1 : Int) (K : Int → World → Prop) (w : World) : Prop :=
  C.math_bits_Len64 x1 (fun r2 w3 =>
   K r2 w3) w
set_option maxRecDepth 100000 in
theorem S.math_bits_Len_ok (x1 : Int) (K : Int → World → Prop) (w : World) (h : S.math_bits_Len x1 K w) : C.math_bits_Len x1 K w := by
  have e : fnV Try.prog Try.f87 (bodyOf Try.f87) (.t none (.u) (.t none (.t none (.t none (.u) (.u)) (.u)) (.t none (.u) (.u)))) [(0, .c (.i .i64))] [.int .u64 x1] K w = S.math_bits_Len x1 K w := by kernel_rfl
  exact okF_mk Try.func87 rfl (fn_sound names_ok follows_ok Try.func87 rfl (by kernel_rfl) (Eq.mpr e h))

/-- math/bits.Len32 -/
def S.math_bits_Len32 (x1 : Int) (K : Int → World → Prop) (w : World) : Prop :=
  ∀ k2 : Int → Int → World → Prop,
   (∀ (x3 : Int) (n4 : Int) (w5 : World), (∀ k6 : Int → Int → World → Prop,
   (∀ (x7 : Int) (n8 : Int) (w9 : World), (∃ b10 : Int, StrAt ⟨#[0, 1, 2, 2, 3, 3, 3, 3, 4, 4, 4, 4, 4, 4, 4, 4, 5, 5, 5, 5, 5, 5, 5, 5, 5, 5, 5, 5, 5, 5, 5, 5, 6, 6, 6, 6, 6, 6, 6, 6, 6, 6, 6, 6, 6, 6, 6, 6, 6, 6, 6, 6, 6, 6, 6, 6, 6, 6, 6, 6, 6, 6, 6, 6, 7, 7, 7, 7, 7, 7, 7, 7, 7, 7, 7, 7, 7, 7, 7, 7, 7, 7, 7, 7, 7, 7, 7, 7, 7, 7, 7, 7, 7, 7, 7, 7, 7, 7, 7, 7, 7, 7, 7, 7, 7, 7, 7, 7, 7, 7, 7, 7, 7, 7, 7, 7, 7, 7, 7, 7, 7, 7, 7, 7, 7, 7, 7, 7, 8, 8, 8, 8, 8, 8, 8, 8, 8, 8, 8, 8, 8, 8, 8, 8, 8, 8, 8, 8, 8, 8, 8, 8, 8, 8, 8, 8, 8, 8, 8, 8, 8, 8, 8, 8, 8, 8, 8, 8, 8, 8, 8, 8, 8, 8, 8, 8, 8, 8, 8, 8, 8, 8, 8, 8, 8, 8, 8, 8, 8, 8, 8, 8, 8, 8, 8, 8, 8, 8, 8, 8, 8, 8, 8, 8, 8, 8, 8, 8, 8, 8, 8, 8, 8, 8, 8, 8, 8, 8, 8, 8, 8, 8, 8, 8, 8, 8, 8, 8, 8, 8, 8, 8, 8, 8, 8, 8, 8, 8, 8, 8, 8, 8, 8, 8, 8, 8, 8, 8, 8, 8, 8, 8, 8, 8, 8, 8]⟩ (IntKind.u8.wrap x7) b10 ∧
   K (IntKind.i64.wrap (n8 + (IntKind.i64.wrap b10))) w9) → k6 x7 n8 w9) →
   (bif decide (x3 ≥ (256 : Int)) then
    (0 ≤ (8 : Int) ∧
   k6 (shrI .u32 x3 (8 : Int)) (IntKind.i64.wrap (n4 + (8 : Int))) w5)
   else
    (k6 x3 n4 w5))) → k2 x3 n4 w5) →
   (bif decide (x1 ≥ (65536 : Int)) then
    (0 ≤ (16 : Int) ∧
   k2 (shrI .u32 x1 (16 : Int)) (16 : Int) w)
   else
    (k2 x1 (0 : Int) w))
set_option maxRecDepth 100000 in
theorem S.math_bits_Len32_ok (x1 : Int) (K : Int → World → Prop) (w : World) (h : S.math_bits_Len32 x1 K w) : C.math_bits_Len32 x1 K w := by
  have e : fnV Try.prog Try.f97 (bodyOf Try.f97) (.t none (.u) (.t none (.t none (.u) (.t (some [(0, .c (.i .u32)), (2, .c (.i .i64))]) (.t none (.u) (.u)) (.u))) (.t none (.t none (.u) (.t (some [(0, .c (.i .u32)), (2, .c (.i .i64))]) (.t none (.u) (.u)) (.u))) (.t none (.u) (.u))))) [(0, .c (.i .i64))] [.int .u32 x1] K w = S.math_bits_Len32 x1 K w := by kernel_rfl
  exact okF_mk Try.func97 rfl (fn_sound names_ok follows_ok Try.func97 rfl (by kernel_rfl) (Eq.mpr e h))

/-- math/bits.Len64 -/
def S.math_bits_Len64 (x1 : Int) (K : Int → World → Prop) (w : World) : Prop :=
  ∀ k2 : Int → Int → World → Prop,
   (∀ (x3 : Int) (n4 : Int) (w5 : World), (∀ k6 : Int → Int → World → Prop,
   (∀ (x7 : Int) (n8 : Int) (w9 : World), (∀ k10 : Int → Int → World → Prop,
   (∀ (x11 : Int) (n12 : Int) (w13 : World), (∃ b14 : Int, StrAt ⟨#[0, 1, 2, 2, 3, 3, 3, 3, 4, 4, 4, 4, 4, 4, 4, 4, 5, 5, 5, 5, 5, 5, 5, 5, 5, 5, 5, 5, 5, 5, 5, 5, 6, 6, 6, 6, 6, 6, 6, 6, 6, 6, 6, 6, 6, 6, 6, 6, 6, 6, 6, 6, 6, 6, 6, 6, 6, 6, 6, 6, 6, 6, 6, 6, 7, 7, 7, 7, 7, 7, 7, 7, 7, 7, 7, 7, 7, 7, 7, 7, 7, 7, 7, 7, 7, 7, 7, 7, 7, 7, 7, 7, 7, 7, 7, 7, 7, 7, 7, 7, 7, 7, 7, 7, 7, 7, 7, 7, 7, 7, 7, 7, 7, 7, 7, 7, 7, 7, 7, 7, 7, 7, 7, 7, 7, 7, 7, 7, 8, 8, 8, 8, 8, 8, 8, 8, 8, 8, 8, 8, 8, 8, 8, 8, 8, 8, 8, 8, 8, 8, 8, 8, 8, 8, 8, 8, 8, 8, 8, 8, 8, 8, 8, 8, 8, 8, 8, 8, 8, 8, 8, 8, 8, 8, 8, 8, 8, 8, 8, 8, 8, 8, 8, 8, 8, 8, 8, 8, 8, 8, 8, 8, 8, 8, 8, 8, 8, 8, 8, 8, 8, 8, 8, 8, 8, 8, 8, 8, 8, 8, 8, 8, 8, 8, 8, 8, 8, 8, 8, 8, 8, 8, 8, 8, 8, 8, 8, 8, 8, 8, 8, 8, 8, 8, 8, 8, 8, 8, 8, 8, 8, 8, 8, 8, 8, 8, 8, 8, 8, 8, 8, 8, 8, 8, 8, 8]⟩ (IntKind.u8.wrap x11) b14 ∧
   K (IntKind.i64.wrap (n12 + (IntKind.i64.wrap b14))) w13) → k10 x11 n12 w13) →
   (bif decide (x7 ≥ (256 : Int)) then
    (0 ≤ (8 : Int) ∧
   k10 (shrI .u64 x7 (8 : Int)) (IntKind.i64.wrap (n8 + (8 : Int))) w9)
   else
    (k10 x7 n8 w9))) → k6 x7 n8 w9) →
   (bif decide (x3 ≥ (65536 : Int)) then
    (0 ≤ (16 : Int) ∧
   k6 (shrI .u64 x3 (16 : Int)) (IntKind.i64.wrap (n4 + (16 : Int))) w5)
   else
    (k6 x3 n4 w5))) → k2 x3 n4 w5) →
   (bif decide (x1 ≥ (4294967296 : Int)) then
    (0 ≤ (32 : Int) ∧
   k2 (shrI .u64 x1 (32 : Int)) (32 : Int) w)
   else
    (k2 x1 (0 : Int) w))
set_option maxRecDepth 100000 in
theorem S.math_bits_Len64_ok (x1 : Int) (K : Int → World → Prop) (w : World) (h : S.math_bits_Len64 x1 K w) : C.math_bits_Len64 x1 K w := by
  have e : fnV Try.prog Try.f98 (bodyOf Try.f98) (.t none (.u) (.t none (.t none (.u) (.t (some [(0, .c (.i .u64)), (2, .c (.i .i64))]) (.t none (.u) (.u)) (.u))) (.t none (.t none (.u) (.t (some [(0, .c (.i .u64)), (2, .c (.i .i64))]) (.t none (.u) (.u)) (.u))) (.t none (.t none (.u) (.t (some [(0, .c (.i .u64)), (2, .c (.i .i64))]) (.t none (.u) (.u)) (.u))) (.t none (.u) (.u)))))) [(0, .c (.i .i64))] [.int .u64 x1] K w = S.math_bits_Len64 x1 K w := by kernel_rfl
  exact okF_mk Try.func98 rfl (fn_sound names_ok follows_ok Try.func98 rfl (by kernel_rfl) (Eq.mpr e h))

/-- buttress/buttressref01.Two -/
def S.ref01_Two (n1 : Int) (K : Int → World → Prop) (w : World) : Prop :=
  ∀ l2 : Int → Int → World → Prop,
   (∀ (p3 : Int) (i4 : Int) (w5 : World), (bif decide (i4 < n1) then
    (l2 (IntKind.u64.wrap ((2 : Int) * p3)) (IntKind.i64.wrap (i4 + (1 : Int))) w5)
   else
    (K p3 w5)) → l2 p3 i4 w5) →
   l2 (1 : Int) (0 : Int) w
set_option maxRecDepth 100000 in
theorem S.ref01_Two_ok (n1 : Int) (K : Int → World → Prop) (w : World) (h : S.ref01_Two n1 K w) : C.ref01_Two n1 K w := by
  have e : fnV Try.prog Try.f51 (bodyOf Try.f51) (.t none (.u) (.t none (.u) (.t none (.t none (.u) (.t none (.t (some [(3, .c (.i .u64)), (4, .c (.i .i64))]) (.t none (.t none (.u) (.t none (.u) (.u))) (.t none (.t none (.u) (.u)) (.u))) (.u)) (.u))) (.t none (.u) (.u))))) [(0, .c (.i .u64))] [.int .i64 n1] K w = S.ref01_Two n1 K w := by kernel_rfl
  exact okF_mk Try.func51 rfl (fn_sound names_ok follows_ok Try.func51 rfl (by kernel_rfl) (Eq.mpr e h))

/-- buttress/buttressref01.Bit -/
def S.ref01_Bit (v1 : Int) (n2 : Int) (K : Bool → World → Prop) (w : World) : Prop :=
  C.ref01_Two n2 (fun r3 w4 =>
   r3 ≠ 0 ∧
   (2 : Int) ≠ 0 ∧
   K (((IntKind.u64.wrap (v1.tdiv r3)).tmod (2 : Int)) == (1 : Int)) w4) w
set_option maxRecDepth 100000 in
theorem S.ref01_Bit_ok (v1 : Int) (n2 : Int) (K : Bool → World → Prop) (w : World) (h : S.ref01_Bit v1 n2 K w) : C.ref01_Bit v1 n2 K w := by
  have e : fnV Try.prog Try.f52 (bodyOf Try.f52) (.t none (.u) (.t none (.u) (.u))) [(0, .c (.b))] [.int .u64 v1, .int .i64 n2] K w = S.ref01_Bit v1 n2 K w := by kernel_rfl
  exact okF_mk Try.func52 rfl (fn_sound names_ok follows_ok Try.func52 rfl (by kernel_rfl) (Eq.mpr e h))

/-- buttress/buttressref04.Check -/
def S.ref04_Check (c1 : Int) (c2 : Int) (c3 : Int) (c4 : Int) (c5 : Int) (c6 : Int) (K : Int → World → Prop) (w : World) : Prop :=
  Al w (.cells #[.int .i64 c1, .int .i64 c2, .int .i64 c3, .int .u64 c4, .int .u64 c5, .int .i64 c6] 38) fun w7 =>
   ∀ k8 : Bool → World → Prop,
   (∀ (t9 : Bool) (w10 : World), (bif t9 then
    (K (0 : Int) w10)
   else
    (∀ k11 : Bool → World → Prop,
   (∀ (t12 : Bool) (w13 : World), (bif t12 then
    (K (40 : Int) w13)
   else
    (∀ k14 : Bool → World → Prop,
   (∀ (t15 : Bool) (w16 : World), (bif t15 then
    (K (40 : Int) w16)
   else
    (∃ kind17 : Int, w16.cell? (Addr.mk w.heap.size 0 none) = some (.int .i64 kind17) ∧
   bif kind17 != (2 : Int) then
    (∃ guard18 : Int, w16.cell? ((Addr.mk w.heap.size 0 none).add 4) = some (.int .u64 guard18) ∧
   bif decide (guard18 > (0 : Int)) then
    (K (40 : Int) w16)
   else
    (∃ bits19 : Int, w16.cell? ((Addr.mk w.heap.size 0 none).add 5) = some (.int .i64 bits19) ∧
   bif bits19 != (0 : Int) then
    (K (40 : Int) w16)
   else
    (∃ guard20 : Int, w16.cell? ((Addr.mk w.heap.size 0 none).add 4) = some (.int .u64 guard20) ∧
   ∃ bits21 : Int, w16.cell? ((Addr.mk w.heap.size 0 none).add 5) = some (.int .i64 bits21) ∧
   C.ref04_guard guard20 bits21 (fun r22 w23 =>
   bif !r22 then
    (K (40 : Int) w23)
   else
    (K (0 : Int) w23)) w16)))
   else
    (∃ guard24 : Int, w16.cell? ((Addr.mk w.heap.size 0 none).add 4) = some (.int .u64 guard24) ∧
   ∃ bits25 : Int, w16.cell? ((Addr.mk w.heap.size 0 none).add 5) = some (.int .i64 bits25) ∧
   C.ref04_guard guard24 bits25 (fun r26 w27 =>
   bif !r26 then
    (K (40 : Int) w27)
   else
    (K (0 : Int) w27)) w16))) → k14 t15 w16) →
   (∃ kind28 : Int, w13.cell? (Addr.mk w.heap.size 0 none) = some (.int .i64 kind28) ∧
   C.ref04_limited kind28 (fun r29 w30 =>
   bif !r29 then
    (∃ rights31 : Int, w30.cell? ((Addr.mk w.heap.size 0 none).add 2) = some (.int .i64 rights31) ∧
   bif rights31 != (7 : Int) then
    (k14 true w30)
   else
    (∃ kind32 : Int, w30.cell? (Addr.mk w.heap.size 0 none) = some (.int .i64 kind32) ∧
   C.ref04_badged kind32 (fun r33 w34 =>
   bif !r33 then
    (∃ badge35 : Int, w34.cell? ((Addr.mk w.heap.size 0 none).add 3) = some (.int .u64 badge35) ∧
   k14 (decide (badge35 > (0 : Int))) w34)
   else
    (k14 false w34)) w30))
   else
    (∃ kind36 : Int, w30.cell? (Addr.mk w.heap.size 0 none) = some (.int .i64 kind36) ∧
   C.ref04_badged kind36 (fun r37 w38 =>
   bif !r37 then
    (∃ badge39 : Int, w38.cell? ((Addr.mk w.heap.size 0 none).add 3) = some (.int .u64 badge39) ∧
   k14 (decide (badge39 > (0 : Int))) w38)
   else
    (k14 false w38)) w30)) w13))) → k11 t12 w13) →
   (∃ kind40 : Int, w10.cell? (Addr.mk w.heap.size 0 none) = some (.int .i64 kind40) ∧
   bif decide (kind40 < (1 : Int)) then
    (k11 true w10)
   else
    (∃ kind41 : Int, w10.cell? (Addr.mk w.heap.size 0 none) = some (.int .i64 kind41) ∧
   bif decide (kind41 > (9 : Int)) then
    (k11 true w10)
   else
    (∃ obj42 : Int, w10.cell? ((Addr.mk w.heap.size 0 none).add 1) = some (.int .i64 obj42) ∧
   bif decide (obj42 < (0 : Int)) then
    (k11 true w10)
   else
    (∃ obj43 : Int, w10.cell? ((Addr.mk w.heap.size 0 none).add 1) = some (.int .i64 obj43) ∧
   bif decide (obj43 > (2147483647 : Int)) then
    (k11 true w10)
   else
    (∃ rights44 : Int, w10.cell? ((Addr.mk w.heap.size 0 none).add 2) = some (.int .i64 rights44) ∧
   bif decide (rights44 < (0 : Int)) then
    (k11 true w10)
   else
    (∃ rights45 : Int, w10.cell? ((Addr.mk w.heap.size 0 none).add 2) = some (.int .i64 rights45) ∧
   k11 (decide (rights45 > (7 : Int))) w10)))))))) → k8 t9 w10) →
   (∃ kind46 : Int, w7.cell? (Addr.mk w.heap.size 0 none) = some (.int .i64 kind46) ∧
   bif kind46 == (0 : Int) then
    (LdL w7 (Addr.mk w.heap.size 0 none) 0 [.i .i64, .i .i64, .i .i64, .i .u64, .i .u64, .i .i64] fun (kind47 : Int) (kind48 : Int) (kind49 : Int) (kind50 : Int) (kind51 : Int) (kind52 : Int) =>
   ∃ eq53 : Bool, EqB Try.prog .eql 38 (.tmp 7) (.tmp 8) (.agg #[.int .i64 kind47, .int .i64 kind48, .int .i64 kind49, .int .u64 kind50, .int .u64 kind51, .int .i64 kind52]) (.agg #[.int .i64 (0 : Int), .int .i64 (0 : Int), .int .i64 (0 : Int), .int .u64 (0 : Int), .int .u64 (0 : Int), .int .i64 (0 : Int)]) eq53 ∧
   k8 eq53 w7)
   else
    (k8 false w7))
set_option maxRecDepth 100000 in
theorem S.ref04_Check_ok (c1 : Int) (c2 : Int) (c3 : Int) (c4 : Int) (c5 : Int) (c6 : Int) (K : Int → World → Prop) (w : World) (h : S.ref04_Check c1 c2 c3 c4 c5 c6 K w) : C.ref04_Check c1 c2 c3 c4 c5 c6 K w := by
  have e : fnV Try.prog Try.f29 (bodyOf Try.f29) (.t none (.u) (.t none (.t none (.r (some [(10, .c (.b))]) .done) (.t none (.t none (.u) (.u)) (.u))) (.t none (.t none (.r (some [(38, .c (.b))]) .done) (.t none (.t none (.u) (.u)) (.u))) (.t none (.t none (.r (some [(58, .c (.b))]) .done) (.t none (.t none (.u) (.u)) (.u))) (.t none (.t none (.u) (.t none (.t none (.u) (.u)) (.u))) (.t none (.u) (.u))))))) [(0, .c (.i .i64))] [.agg #[.int .i64 c1, .int .i64 c2, .int .i64 c3, .int .u64 c4, .int .u64 c5, .int .i64 c6]] K w = S.ref04_Check c1 c2 c3 c4 c5 c6 K w := by kernel_rfl
  exact okF_mk Try.func29 rfl (fn_sound names_ok follows_ok Try.func29 rfl (by kernel_rfl) (Eq.mpr e h))

/-- buttress/buttressref04.limited -/
def S.ref04_limited (kind1 : Int) (K : Bool → World → Prop) (w : World) : Prop :=
  bif kind1 == (4 : Int) then
    (K true w)
   else
    (bif kind1 == (5 : Int) then
    (K true w)
   else
    (K (kind1 == (6 : Int)) w))
set_option maxRecDepth 100000 in
theorem S.ref04_limited_ok (kind1 : Int) (K : Bool → World → Prop) (w : World) (h : S.ref04_limited kind1 K w) : C.ref04_limited kind1 K w := by
  have e : fnV Try.prog Try.f55 (bodyOf Try.f55) (.t none (.u) (.t none (.u) (.u))) [(0, .c (.b))] [.int .i64 kind1] K w = S.ref04_limited kind1 K w := by kernel_rfl
  exact okF_mk Try.func55 rfl (fn_sound names_ok follows_ok Try.func55 rfl (by kernel_rfl) (Eq.mpr e h))

/-- buttress/buttressref04.badged -/
def S.ref04_badged (kind1 : Int) (K : Bool → World → Prop) (w : World) : Prop :=
  bif kind1 == (4 : Int) then
    (K true w)
   else
    (K (kind1 == (5 : Int)) w)
set_option maxRecDepth 100000 in
theorem S.ref04_badged_ok (kind1 : Int) (K : Bool → World → Prop) (w : World) (h : S.ref04_badged kind1 K w) : C.ref04_badged kind1 K w := by
  have e : fnV Try.prog Try.f56 (bodyOf Try.f56) (.t none (.u) (.t none (.u) (.u))) [(0, .c (.b))] [.int .i64 kind1] K w = S.ref04_badged kind1 K w := by kernel_rfl
  exact okF_mk Try.func56 rfl (fn_sound names_ok follows_ok Try.func56 rfl (by kernel_rfl) (Eq.mpr e h))

/-- buttress/buttressref04.guard -/
def S.ref04_guard (g1 : Int) (bits2 : Int) (K : Bool → World → Prop) (w : World) : Prop :=
  bif decide (bits2 ≥ (0 : Int)) then
    (bif decide (bits2 ≤ (64 : Int)) then
    (bif bits2 == (64 : Int) then
    (K true w)
   else
    (C.ref01_Two bits2 (fun r3 w4 =>
   K (decide (g1 < r3)) w4) w))
   else
    (K false w))
   else
    (K false w)
set_option maxRecDepth 100000 in
theorem S.ref04_guard_ok (g1 : Int) (bits2 : Int) (K : Bool → World → Prop) (w : World) (h : S.ref04_guard g1 bits2 K w) : C.ref04_guard g1 bits2 K w := by
  have e : fnV Try.prog Try.f57 (bodyOf Try.f57) (.t none (.u) (.t none (.u) (.u))) [(0, .c (.b))] [.int .u64 g1, .int .i64 bits2] K w = S.ref04_guard g1 bits2 K w := by kernel_rfl
  exact okF_mk Try.func57 rfl (fn_sound names_ok follows_ok Try.func57 rfl (by kernel_rfl) (Eq.mpr e h))
end Go.Proofs.Ytdlcejjiccknlaa
