/- The functions' texts, and that a call comes to them. Printed by a program of mine (gen.py). -/
import Derived.Test.YtdlcejjiccknlaaC
set_option linter.unusedVariables false
namespace Go.Proofs.Ytdlcejjiccknlaa
open Go Go.Vc Go.Proofs

/-- buttress/buttressref06.Address -/
def S.ref06_Address (n1 : Option Addr) (root2 : Int) (root3 : Int) (root4 : Int) (root5 : Int) (root6 : Int) (root7 : Int) (way8 : Sl) (K : Int → Int → Int → World → Prop) (w : World) : Prop :=
  Al w (.cells #[.int .i64 root2, .int .i64 root3, .int .i64 root4, .int .u64 root5, .int .u64 root6, .int .i64 root7] 38) fun w9 =>
   Dr w9 fun w10 =>
   LdL w10 (Addr.mk w.heap.size 0 none) 0 [.i .i64, .i .i64, .i .i64, .i .u64, .i .u64, .i .i64] fun (t11 : Int) (t12 : Int) (t13 : Int) (t14 : Int) (t15 : Int) (t16 : Int) =>
   (Al w10 (.cells #[.int .i64 (0 : Int), .int .i64 (0 : Int), .int .i64 (0 : Int), .int .u64 (0 : Int), .int .u64 (0 : Int), .int .i64 (0 : Int)] 38) fun w17 =>
   (StL w17 (Addr.mk w10.heap.size 0 none) 0 [.int .i64 t11, .int .i64 t12, .int .i64 t13, .int .u64 t14, .int .u64 t15, .int .i64 t16] fun w18 =>
   ∀ l19 : Int → Int → Int → World → Prop,
   (∀ (addr20 : Int) (depth21 : Int) (k22 : Int) (w23 : World), (bif decide (k22 < (way8.len : Int)) then
    (LdL w23 (Addr.mk w10.heap.size 0 none) 0 [.i .i64, .i .i64, .i .i64, .i .u64, .i .u64, .i .i64] fun (t24 : Int) (t25 : Int) (t26 : Int) (t27 : Int) (t28 : Int) (t29 : Int) =>
   C.ref06_node n1 t24 t25 t26 t27 t28 t29 (fun r30 r31 w32 =>
   bif !r31 then
    (K (0 : Int) (0 : Int) (60 : Int) w32)
   else
    (∀ k33 : Bool → World → Prop,
   (∀ (t34 : Bool) (w35 : World), (bif t34 then
    (K (0 : Int) (0 : Int) (50 : Int) w35)
   else
    (∃ bits36 : Int, w35.cell? ((Addr.mk w10.heap.size 0 none).add 5) = some (.int .i64 bits36) ∧
   ∀ l37 : Int → Int → Int → World → Prop,
   (∀ (addr38 : Int) (depth39 : Int) (i40 : Int) (w41 : World), (∀ k42 : Bool → World → Prop,
   (∀ (t43 : Bool) (w44 : World), (bif t43 then
    (∃ guard45 : Int, w44.cell? ((Addr.mk w10.heap.size 0 none).add 4) = some (.int .u64 guard45) ∧
   C.ref01_Bit guard45 i40 (fun r46 w47 =>
   bif r46 then
    (l37 (IntKind.u64.wrap ((IntKind.u64.wrap ((2 : Int) * addr38)) + (1 : Int))) (IntKind.i64.wrap (depth39 + (1 : Int))) (IntKind.i64.wrap (i40 - (1 : Int))) w47)
   else
    (l37 (IntKind.u64.wrap ((2 : Int) * addr38)) (IntKind.i64.wrap (depth39 + (1 : Int))) (IntKind.i64.wrap (i40 - (1 : Int))) w47)) w44)
   else
    (∀ k48 : Int → World → Prop,
   (∀ (addr49 : Int) (w50 : World), (bif decide ((IntKind.i64.wrap (depth39 + r30)) > (64 : Int)) then
    (K (0 : Int) (0 : Int) (62 : Int) w50)
   else
    (Dr w50 fun w51 =>
   ∃ obj52 : Int, w51.cell? ((Addr.mk w10.heap.size 0 none).add 1) = some (.int .i64 obj52) ∧
   ∃ a53 : Addr, way8.a = some a53 ∧ 0 ≤ k22 ∧ k22 < (way8.len : Int) ∧
   ∃ t54 : Int, w51.cell? (a53.add (k22.toNat * 1)) = some (.int .i64 t54) ∧
   (C.ref05_Nodes_Get n1 obj52 t54 (fun r55 r56 r57 r58 r59 r60 r61 w62 =>
   (StL w62 (Addr.mk w10.heap.size 0 none) 0 [.int .i64 r55, .int .i64 r56, .int .i64 r57, .int .u64 r58, .int .u64 r59, .int .i64 r60] fun w63 =>
   l19 addr49 (IntKind.i64.wrap (depth39 + r30)) (IntKind.i64.wrap (k22 + (1 : Int))) w63) ∧
   True) w51) ∧
   True)) → k48 addr49 w50) →
   (Dr w44 fun w64 =>
   ∃ a65 : Addr, way8.a = some a65 ∧ 0 ≤ k22 ∧ k22 < (way8.len : Int) ∧
   (C.ref01_Two r30 (fun r66 w67 =>
   ∃ t68 : Int, w67.cell? (a65.add (k22.toNat * 1)) = some (.int .i64 t68) ∧
   k48 (IntKind.u64.wrap ((IntKind.u64.wrap (addr38 * r66)) + (IntKind.u64.wrap t68))) w67) w64) ∧
   (∃ t69 : Int, w64.cell? (a65.add (k22.toNat * 1)) = some (.int .i64 t69) ∧
   (C.ref01_Two r30 (fun r70 w71 =>
   k48 (IntKind.u64.wrap ((IntKind.u64.wrap (addr38 * r70)) + (IntKind.u64.wrap t69))) w71) w64) ∧
   True) ∧
   True))) → k42 t43 w44) →
   (bif decide (i40 ≥ (0 : Int)) then
    (k42 (decide (depth39 ≤ (64 : Int))) w41)
   else
    (k42 false w41))) → l37 addr38 depth39 i40 w41) →
   l37 addr20 depth21 (IntKind.i64.wrap (bits36 - (1 : Int))) w35)) → k33 t34 w35) →
   (Dr w32 fun w72 =>
   ∃ a73 : Addr, way8.a = some a73 ∧ 0 ≤ k22 ∧ k22 < (way8.len : Int) ∧
   ∃ t74 : Int, w72.cell? (a73.add (k22.toNat * 1)) = some (.int .i64 t74) ∧
   bif decide (t74 < (0 : Int)) then
    (((k33 true w72) ∧
   True) ∧
   (k33 true w72) ∧
   True)
   else
    (∃ a75 : Addr, way8.a = some a75 ∧ 0 ≤ k22 ∧ k22 < (way8.len : Int) ∧
   (∃ t76 : Int, w72.cell? (a75.add (k22.toNat * 1)) = some (.int .i64 t76) ∧
   (C.ref01_Two r30 (fun r77 w78 =>
   k33 (decide (t76 ≥ (IntKind.i64.wrap r77))) w78) w72) ∧
   True) ∧
   (C.ref01_Two r30 (fun r79 w80 =>
   ∃ t81 : Int, w80.cell? (a75.add (k22.toNat * 1)) = some (.int .i64 t81) ∧
   k33 (decide (t81 ≥ (IntKind.i64.wrap r79))) w80) w72) ∧
   True)))) w23)
   else
    (bif (way8.len : Int) == (0 : Int) then
    (K (0 : Int) (0 : Int) (1 : Int) w23)
   else
    (K addr20 depth21 (0 : Int) w23))) → l19 addr20 depth21 k22 w23) →
   l19 (0 : Int) (0 : Int) (0 : Int) w18) ∧
   True) ∧
   True
set_option maxRecDepth 100000 in
theorem S.ref06_Address_ok (n1 : Option Addr) (root2 : Int) (root3 : Int) (root4 : Int) (root5 : Int) (root6 : Int) (root7 : Int) (way8 : Sl) (K : Int → Int → Int → World → Prop) (w : World) (h : S.ref06_Address n1 root2 root3 root4 root5 root6 root7 way8 K w) : C.ref06_Address n1 root2 root3 root4 root5 root6 root7 way8 K w := by
  have e : fnV Try.prog Try.f25 (bodyOf Try.f25) (.t none (.u) (.t none (.r none (.one 0 14 (.alt 1 (.one 2 0 (.one 3 0 (.alt 4 (.done) (.none)))) (.none)))) (.t none (.t none (.u) (.t none (.t (some [(9, .c (.i .u64)), (10, .c (.i .i64)), (12, .c (.i .i64))]) (.t none (.t none (.u) (.t none (.u) (.u))) (.t none (.t none (.t none (.u) (.t none (.t none (.u) (.t none (.t none (.u) (.u)) (.u))) (.t none (.t none (.r (some [(45, .c (.b))]) (.one 0 2 (.one 1 0 (.one 2 0 (.one 3 0 (.one 4 0 (.one 5 0 (.one 6 7296 (.one 7 7168 (.one 8 7168 (.one 10 512 (.alt 9 (.alt 11 (.one 12 0 (.one 13 0 (.one 14 0 (.done)))) (.none)) (.alt 11 (.one 9 4096 (.one 12 0 (.one 13 0 (.one 14 0 (.done))))) (.none)))))))))))))) (.t none (.t none (.u) (.u)) (.u))) (.t none (.t none (.u) (.t none (.t (some [(9, .c (.i .u64)), (10, .c (.i .i64)), (15, .c (.i .i64))]) (.t none (.t none (.r (some [(54, .c (.b))]) .done) (.t none (.u) (.u))) (.t none (.t none (.t none (.u) (.t none (.t none (.u) (.t none (.u) (.u))) (.u))) (.u)) (.u))) (.u)) (.u))) (.t none (.r (some [(9, .c (.i .u64))]) (.one 0 502 (.one 1 496 (.one 4 44 (.one 5 12 (.one 6 12 (.alt 2 (.one 3 384 (.one 7 0 (.one 8 0 (.one 9 0 (.one 10 0 (.done)))))) (.alt 7 (.one 8 12 (.alt 2 (.one 3 0 (.one 9 0 (.one 10 0 (.done)))) (.none))) (.none))))))))) (.t none (.u) (.t none (.t none (.u) (.t none (.t none (.u) (.u)) (.u))) (.r none (.one 0 254 (.one 1 120 (.one 2 120 (.one 3 16 (.one 4 0 (.one 5 0 (.one 6 0 (.one 7 0 (.alt 8 (.one 9 0 (.one 10 2048 (.one 11 4096 (.alt 12 (.done) (.none))))) (.none)))))))))))))))))) (.u)) (.u))) (.u)) (.u))) (.t none (.t none (.u) (.t none (.t none (.u) (.u)) (.u))) (.t none (.u) (.u)))))) [(0, .c (.i .u64)), (1, .c (.i .i64)), (2, .c (.i .i64))] [.pointer n1, .agg #[.int .i64 root2, .int .i64 root3, .int .i64 root4, .int .u64 root5, .int .u64 root6, .int .i64 root7], .slice way8.a way8.len way8.cap] K w = S.ref06_Address n1 root2 root3 root4 root5 root6 root7 way8 K w := by kernel_rfl
  exact okF_mk Try.func25 rfl (fn_sound names_ok follows_ok Try.func25 rfl (by kernel_rfl) (Eq.mpr e h))

/-- buttress/buttressref06.Slot -/
def S.ref06_Slot (n1 : Option Addr) (root2 : Int) (root3 : Int) (root4 : Int) (root5 : Int) (root6 : Int) (root7 : Int) (addr8 : Int) (depth9 : Int) (K : Int → Int → Int → World → Prop) (w : World) : Prop :=
  Al w (.cells #[.int .i64 root2, .int .i64 root3, .int .i64 root4, .int .u64 root5, .int .u64 root6, .int .i64 root7] 38) fun w10 =>
   Al w10 (.cells #[.int .i64 (0 : Int), .int .i64 (0 : Int)] 49) fun w11 =>
   ∀ k12 : Bool → World → Prop,
   (∀ (t13 : Bool) (w14 : World), (bif t13 then
    (StL w14 (Addr.mk w10.heap.size 0 none) 0 [.int .i64 (0 : Int), .int .i64 (0 : Int)] fun w15 =>
   LdL w15 (Addr.mk w10.heap.size 0 none) 0 [.i .i64, .i .i64] fun (r16 : Int) (r17 : Int) =>
   K r16 r17 (1 : Int) w15)
   else
    (LdL w14 (Addr.mk w.heap.size 0 none) 0 [.i .i64, .i .i64, .i .i64, .i .u64, .i .u64, .i .i64] fun (t18 : Int) (t19 : Int) (t20 : Int) (t21 : Int) (t22 : Int) (t23 : Int) =>
   Al w14 (.cells #[.int .i64 (0 : Int), .int .i64 (0 : Int), .int .i64 (0 : Int), .int .u64 (0 : Int), .int .u64 (0 : Int), .int .i64 (0 : Int)] 38) fun w24 =>
   StL w24 (Addr.mk w14.heap.size 0 none) 0 [.int .i64 t18, .int .i64 t19, .int .i64 t20, .int .u64 t21, .int .u64 t22, .int .i64 t23] fun w25 =>
   ∀ l26 : Int → World → Prop,
   (∀ (at27 : Int) (w28 : World), (LdL w28 (Addr.mk w14.heap.size 0 none) 0 [.i .i64, .i .i64, .i .i64, .i .u64, .i .u64, .i .i64] fun (t29 : Int) (t30 : Int) (t31 : Int) (t32 : Int) (t33 : Int) (t34 : Int) =>
   C.ref06_node n1 t29 t30 t31 t32 t33 t34 (fun r35 r36 w37 =>
   bif !r36 then
    (StL w37 (Addr.mk w10.heap.size 0 none) 0 [.int .i64 (0 : Int), .int .i64 (0 : Int)] fun w38 =>
   LdL w38 (Addr.mk w10.heap.size 0 none) 0 [.i .i64, .i .i64] fun (r39 : Int) (r40 : Int) =>
   K r39 r40 (60 : Int) w38)
   else
    (∀ k41 : Bool → World → Prop,
   (∀ (t42 : Bool) (w43 : World), (bif t42 then
    (StL w43 (Addr.mk w10.heap.size 0 none) 0 [.int .i64 (0 : Int), .int .i64 (0 : Int)] fun w44 =>
   LdL w44 (Addr.mk w10.heap.size 0 none) 0 [.i .i64, .i .i64] fun (r45 : Int) (r46 : Int) =>
   K r45 r46 (61 : Int) w44)
   else
    (∃ bits47 : Int, w43.cell? ((Addr.mk w14.heap.size 0 none).add 5) = some (.int .i64 bits47) ∧
   bif decide ((IntKind.i64.wrap ((IntKind.i64.wrap (at27 + bits47)) + r35)) > depth9) then
    (StL w43 (Addr.mk w10.heap.size 0 none) 0 [.int .i64 (0 : Int), .int .i64 (0 : Int)] fun w48 =>
   LdL w48 (Addr.mk w10.heap.size 0 none) 0 [.i .i64, .i .i64] fun (r49 : Int) (r50 : Int) =>
   K r49 r50 (62 : Int) w48)
   else
    (∀ k51 : Addr → World → Prop,
   (∀ (s52 : Addr) (w53 : World), (bif (IntKind.i64.wrap ((IntKind.i64.wrap (at27 + bits47)) + r35)) == depth9 then
    (LdL w53 s52 0 [.i .i64, .i .i64] fun (t54 : Int) (t55 : Int) =>
   StL w53 (Addr.mk w10.heap.size 0 none) 0 [.int .i64 t54, .int .i64 t55] fun w56 =>
   LdL w56 (Addr.mk w10.heap.size 0 none) 0 [.i .i64, .i .i64] fun (r57 : Int) (r58 : Int) =>
   K r57 r58 (0 : Int) w56)
   else
    (LdL w53 s52 0 [.i .i64, .i .i64] fun (t59 : Int) (t60 : Int) =>
   C.ref05_Nodes_Get n1 t59 t60 (fun r61 r62 r63 r64 r65 r66 r67 w68 =>
   Al w68 (.cells #[.int .i64 (0 : Int), .int .i64 (0 : Int), .int .i64 (0 : Int), .int .u64 (0 : Int), .int .u64 (0 : Int), .int .i64 (0 : Int)] 38) fun w69 =>
   StL w69 (Addr.mk w68.heap.size 0 none) 0 [.int .i64 r61, .int .i64 r62, .int .i64 r63, .int .u64 r64, .int .u64 r65, .int .i64 r66] fun w70 =>
   ∃ kind71 : Int, w70.cell? (Addr.mk w68.heap.size 0 none) = some (.int .i64 kind71) ∧
   bif kind71 != (2 : Int) then
    (StL w70 (Addr.mk w10.heap.size 0 none) 0 [.int .i64 (0 : Int), .int .i64 (0 : Int)] fun w72 =>
   LdL w72 (Addr.mk w10.heap.size 0 none) 0 [.i .i64, .i .i64] fun (r73 : Int) (r74 : Int) =>
   K r73 r74 (62 : Int) w72)
   else
    (LdL w70 (Addr.mk w68.heap.size 0 none) 0 [.i .i64, .i .i64, .i .i64, .i .u64, .i .u64, .i .i64] fun (kind75 : Int) (kind76 : Int) (kind77 : Int) (kind78 : Int) (kind79 : Int) (kind80 : Int) =>
   StL w70 (Addr.mk w14.heap.size 0 none) 0 [.int .i64 kind75, .int .i64 kind76, .int .i64 kind77, .int .u64 kind78, .int .u64 kind79, .int .i64 kind80] fun w81 =>
   l26 (IntKind.i64.wrap ((IntKind.i64.wrap (at27 + bits47)) + r35)) w81)) w53)) → k51 s52 w53) →
   (Dr w43 fun w82 =>
   (∃ obj83 : Int, w82.cell? ((Addr.mk w14.heap.size 0 none).add 1) = some (.int .i64 obj83) ∧
   (C.ref06_bits addr8 depth9 (IntKind.i64.wrap (at27 + bits47)) r35 (fun r84 w85 =>
   (Al w85 (.cells #[.int .i64 (0 : Int), .int .i64 (0 : Int)] 49) fun w86 =>
   (StL w86 (Addr.mk w85.heap.size 0 none) 0 [.int .i64 obj83, .int .i64 (IntKind.i64.wrap r84)] fun w87 =>
   k51 (Addr.mk w85.heap.size 0 none) w87) ∧
   True) ∧
   True) w82) ∧
   (Al w82 (.cells #[.int .i64 (0 : Int), .int .i64 (0 : Int)] 49) fun w88 =>
   (C.ref06_bits addr8 depth9 (IntKind.i64.wrap (at27 + bits47)) r35 (fun r89 w90 =>
   (StL w90 (Addr.mk w82.heap.size 0 none) 0 [.int .i64 obj83, .int .i64 (IntKind.i64.wrap r89)] fun w91 =>
   k51 (Addr.mk w82.heap.size 0 none) w91) ∧
   True) w88) ∧
   True) ∧
   True) ∧
   (C.ref06_bits addr8 depth9 (IntKind.i64.wrap (at27 + bits47)) r35 (fun r92 w93 =>
   ∃ obj94 : Int, w93.cell? ((Addr.mk w14.heap.size 0 none).add 1) = some (.int .i64 obj94) ∧
   (Al w93 (.cells #[.int .i64 (0 : Int), .int .i64 (0 : Int)] 49) fun w95 =>
   (StL w95 (Addr.mk w93.heap.size 0 none) 0 [.int .i64 obj94, .int .i64 (IntKind.i64.wrap r92)] fun w96 =>
   k51 (Addr.mk w93.heap.size 0 none) w96) ∧
   True) ∧
   True) w82) ∧
   (Al w82 (.cells #[.int .i64 (0 : Int), .int .i64 (0 : Int)] 49) fun w97 =>
   (∃ obj98 : Int, w97.cell? ((Addr.mk w14.heap.size 0 none).add 1) = some (.int .i64 obj98) ∧
   (C.ref06_bits addr8 depth9 (IntKind.i64.wrap (at27 + bits47)) r35 (fun r99 w100 =>
   (StL w100 (Addr.mk w82.heap.size 0 none) 0 [.int .i64 obj98, .int .i64 (IntKind.i64.wrap r99)] fun w101 =>
   k51 (Addr.mk w82.heap.size 0 none) w101) ∧
   True) w97) ∧
   True) ∧
   (C.ref06_bits addr8 depth9 (IntKind.i64.wrap (at27 + bits47)) r35 (fun r102 w103 =>
   ∃ obj104 : Int, w103.cell? ((Addr.mk w14.heap.size 0 none).add 1) = some (.int .i64 obj104) ∧
   (StL w103 (Addr.mk w82.heap.size 0 none) 0 [.int .i64 obj104, .int .i64 (IntKind.i64.wrap r102)] fun w105 =>
   k51 (Addr.mk w82.heap.size 0 none) w105) ∧
   True) w97) ∧
   True) ∧
   True)))) → k41 t42 w43) →
   (Dr w37 fun w106 =>
   ∃ bits107 : Int, w106.cell? ((Addr.mk w14.heap.size 0 none).add 5) = some (.int .i64 bits107) ∧
   bif decide ((IntKind.i64.wrap (at27 + bits107)) > depth9) then
    ((k41 true w106) ∧
   ((k41 true w106) ∧
   True) ∧
   True)
   else
    (∃ bits108 : Int, w106.cell? ((Addr.mk w14.heap.size 0 none).add 5) = some (.int .i64 bits108) ∧
   (C.ref06_bits addr8 depth9 at27 bits108 (fun r109 w110 =>
   ∃ guard111 : Int, w110.cell? ((Addr.mk w14.heap.size 0 none).add 4) = some (.int .u64 guard111) ∧
   k41 (r109 != guard111) w110) w106) ∧
   (∃ guard112 : Int, w106.cell? ((Addr.mk w14.heap.size 0 none).add 4) = some (.int .u64 guard112) ∧
   (C.ref06_bits addr8 depth9 at27 bits108 (fun r113 w114 =>
   k41 (r113 != guard112) w114) w106) ∧
   True) ∧
   True)))) w28) → l26 at27 w28) →
   l26 (0 : Int) w25)) → k12 t13 w14) →
   (bif decide (depth9 < (1 : Int)) then
    (k12 true w11)
   else
    (k12 (decide (depth9 > (64 : Int))) w11))
set_option maxRecDepth 100000 in
theorem S.ref06_Slot_ok (n1 : Option Addr) (root2 : Int) (root3 : Int) (root4 : Int) (root5 : Int) (root6 : Int) (root7 : Int) (addr8 : Int) (depth9 : Int) (K : Int → Int → Int → World → Prop) (w : World) (h : S.ref06_Slot n1 root2 root3 root4 root5 root6 root7 addr8 depth9 K w) : C.ref06_Slot n1 root2 root3 root4 root5 root6 root7 addr8 depth9 K w := by
  have e : fnV Try.prog Try.f44 (bodyOf Try.f44) (.t none (.u) (.t none (.t none (.r (some [(22, .c (.b))]) .done) (.t none (.t none (.u) (.u)) (.u))) (.t none (.u) (.t none (.t (some [(11, .c (.i .i64))]) (.t none (.t none (.u) (.t none (.t none (.u) (.t none (.t none (.u) (.u)) (.u))) (.t none (.t none (.r (some [(50, .c (.b))]) (.one 0 22 (.one 1 16 (.one 2 16 (.one 3 16 (.one 4 0 (.one 5 0 (.one 6 0 (.one 7 28416 (.one 8 28160 (.one 9 27648 (.one 10 24576 (.one 11 24576 (.one 13 4096 (.alt 12 (.one 14 0 (.one 15 0 (.one 16 0 (.done)))) (.alt 14 (.alt 12 (.one 15 0 (.one 16 0 (.done))) (.none)) (.none))))))))))))))))) (.t none (.t none (.u) (.u)) (.u))) (.t none (.u) (.t none (.t none (.u) (.t none (.t none (.u) (.u)) (.u))) (.t none (.r (some [(14, .c (.q))]) (.one 0 764 (.one 2 570 (.one 3 562 (.one 4 546 (.one 5 514 (.alt 1 (.alt 6 (.one 7 512 (.one 8 512 (.alt 9 (.alt 10 (.done) (.none)) (.none)))) (.alt 9 (.alt 6 (.one 7 0 (.one 8 0 (.alt 10 (.done) (.none)))) (.none)) (.none))) (.alt 6 (.one 1 640 (.one 7 512 (.one 8 512 (.alt 9 (.alt 10 (.done) (.none)) (.none))))) (.alt 9 (.alt 1 (.alt 6 (.one 7 0 (.one 8 0 (.alt 10 (.done) (.none)))) (.none)) (.alt 6 (.one 1 128 (.one 7 0 (.one 8 0 (.alt 10 (.done) (.none))))) (.none))) (.none)))))))))) (.t none (.u) (.t none (.t none (.u) (.t none (.t none (.u) (.u)) (.u))) (.t none (.u) (.t none (.t none (.u) (.t none (.t none (.u) (.u)) (.u))) (.u))))))))))) (.u)) (.u)) (.u))))) [(0, .a [.i .i64, .i .i64]), (1, .c (.i .i64))] [.pointer n1, .agg #[.int .i64 root2, .int .i64 root3, .int .i64 root4, .int .u64 root5, .int .u64 root6, .int .i64 root7], .int .u64 addr8, .int .i64 depth9] K w = S.ref06_Slot n1 root2 root3 root4 root5 root6 root7 addr8 depth9 K w := by kernel_rfl
  exact okF_mk Try.func44 rfl (fn_sound names_ok follows_ok Try.func44 rfl (by kernel_rfl) (Eq.mpr e h))

/-- buttress/buttressref06.Cap -/
def S.ref06_Cap (n1 : Option Addr) (root2 : Int) (root3 : Int) (root4 : Int) (root5 : Int) (root6 : Int) (root7 : Int) (addr8 : Int) (depth9 : Int) (K : Int → Int → Int → Int → Int → Int → Int → World → Prop) (w : World) : Prop :=
  Al w (.cells #[.int .i64 root2, .int .i64 root3, .int .i64 root4, .int .u64 root5, .int .u64 root6, .int .i64 root7] 38) fun w10 =>
   Al w10 (.cells #[.int .i64 (0 : Int), .int .i64 (0 : Int), .int .i64 (0 : Int), .int .u64 (0 : Int), .int .u64 (0 : Int), .int .i64 (0 : Int)] 38) fun w11 =>
   LdL w11 (Addr.mk w.heap.size 0 none) 0 [.i .i64, .i .i64, .i .i64, .i .u64, .i .u64, .i .i64] fun (t12 : Int) (t13 : Int) (t14 : Int) (t15 : Int) (t16 : Int) (t17 : Int) =>
   C.ref06_Slot n1 t12 t13 t14 t15 t16 t17 addr8 depth9 (fun r18 r19 r20 w21 =>
   Al w21 (.cells #[.int .i64 (0 : Int), .int .i64 (0 : Int)] 49) fun w22 =>
   StL w22 (Addr.mk w21.heap.size 0 none) 0 [.int .i64 r18, .int .i64 r19] fun w23 =>
   bif r20 != (0 : Int) then
    (StL w23 (Addr.mk w10.heap.size 0 none) 0 [.int .i64 (0 : Int), .int .i64 (0 : Int), .int .i64 (0 : Int), .int .u64 (0 : Int), .int .u64 (0 : Int), .int .i64 (0 : Int)] fun w24 =>
   LdL w24 (Addr.mk w10.heap.size 0 none) 0 [.i .i64, .i .i64, .i .i64, .i .u64, .i .u64, .i .i64] fun (r25 : Int) (r26 : Int) (r27 : Int) (r28 : Int) (r29 : Int) (r30 : Int) =>
   K r25 r26 r27 r28 r29 r30 r20 w24)
   else
    (LdL w23 (Addr.mk w21.heap.size 0 none) 0 [.i .i64, .i .i64] fun (t31 : Int) (t32 : Int) =>
   C.ref05_Nodes_Get n1 t31 t32 (fun r33 r34 r35 r36 r37 r38 r39 w40 =>
   StL w40 (Addr.mk w10.heap.size 0 none) 0 [.int .i64 r33, .int .i64 r34, .int .i64 r35, .int .u64 r36, .int .u64 r37, .int .i64 r38] fun w41 =>
   LdL w41 (Addr.mk w10.heap.size 0 none) 0 [.i .i64, .i .i64, .i .i64, .i .u64, .i .u64, .i .i64] fun (r42 : Int) (r43 : Int) (r44 : Int) (r45 : Int) (r46 : Int) (r47 : Int) =>
   K r42 r43 r44 r45 r46 r47 r39 w41) w23)) w11
set_option maxRecDepth 100000 in
theorem S.ref06_Cap_ok (n1 : Option Addr) (root2 : Int) (root3 : Int) (root4 : Int) (root5 : Int) (root6 : Int) (root7 : Int) (addr8 : Int) (depth9 : Int) (K : Int → Int → Int → Int → Int → Int → Int → World → Prop) (w : World) (h : S.ref06_Cap n1 root2 root3 root4 root5 root6 root7 addr8 depth9 K w) : C.ref06_Cap n1 root2 root3 root4 root5 root6 root7 addr8 depth9 K w := by
  have e : fnV Try.prog Try.f46 (bodyOf Try.f46) (.t none (.u) (.t none (.u) (.t none (.t none (.u) (.t none (.t none (.u) (.u)) (.u))) (.t none (.u) (.u))))) [(0, .a [.i .i64, .i .i64, .i .i64, .i .u64, .i .u64, .i .i64]), (1, .c (.i .i64))] [.pointer n1, .agg #[.int .i64 root2, .int .i64 root3, .int .i64 root4, .int .u64 root5, .int .u64 root6, .int .i64 root7], .int .u64 addr8, .int .i64 depth9] K w = S.ref06_Cap n1 root2 root3 root4 root5 root6 root7 addr8 depth9 K w := by kernel_rfl
  exact okF_mk Try.func46 rfl (fn_sound names_ok follows_ok Try.func46 rfl (by kernel_rfl) (Eq.mpr e h))

/-- buttress/buttressref06.node -/
def S.ref06_node (n1 : Option Addr) (c2 : Int) (c3 : Int) (c4 : Int) (c5 : Int) (c6 : Int) (c7 : Int) (K : Int → Bool → World → Prop) (w : World) : Prop :=
  Al w (.cells #[.int .i64 c2, .int .i64 c3, .int .i64 c4, .int .u64 c5, .int .u64 c6, .int .i64 c7] 38) fun w8 =>
   ∃ obj9 : Int, w8.cell? ((Addr.mk w.heap.size 0 none).add 1) = some (.int .i64 obj9) ∧
   C.ref05_Nodes_Size n1 obj9 (fun r10 r11 w12 =>
   ∃ kind13 : Int, w12.cell? (Addr.mk w.heap.size 0 none) = some (.int .i64 kind13) ∧
   bif kind13 != (2 : Int) then
    (K (0 : Int) false w12)
   else
    (LdL w12 (Addr.mk w.heap.size 0 none) 0 [.i .i64, .i .i64, .i .i64, .i .u64, .i .u64, .i .i64] fun (kind14 : Int) (kind15 : Int) (kind16 : Int) (kind17 : Int) (kind18 : Int) (kind19 : Int) =>
   C.ref04_Check kind14 kind15 kind16 kind17 kind18 kind19 (fun r20 w21 =>
   bif r20 != (0 : Int) then
    (K (0 : Int) false w21)
   else
    (bif !r11 then
    (K (0 : Int) false w21)
   else
    (K r10 true w21))) w12)) w8
set_option maxRecDepth 100000 in
theorem S.ref06_node_ok (n1 : Option Addr) (c2 : Int) (c3 : Int) (c4 : Int) (c5 : Int) (c6 : Int) (c7 : Int) (K : Int → Bool → World → Prop) (w : World) (h : S.ref06_node n1 c2 c3 c4 c5 c6 c7 K w) : C.ref06_node n1 c2 c3 c4 c5 c6 c7 K w := by
  have e : fnV Try.prog Try.f50 (bodyOf Try.f50) (.t none (.u) (.t none (.u) (.t none (.t none (.u) (.t none (.t none (.u) (.u)) (.u))) (.t none (.u) (.u))))) [(0, .c (.i .i64)), (1, .c (.b))] [.pointer n1, .agg #[.int .i64 c2, .int .i64 c3, .int .i64 c4, .int .u64 c5, .int .u64 c6, .int .i64 c7]] K w = S.ref06_node n1 c2 c3 c4 c5 c6 c7 K w := by kernel_rfl
  exact okF_mk Try.func50 rfl (fn_sound names_ok follows_ok Try.func50 rfl (by kernel_rfl) (Eq.mpr e h))

/-- buttress/buttressref06.bits -/
def S.ref06_bits (addr1 : Int) (depth2 : Int) (from3 : Int) (n4 : Int) (K : Int → World → Prop) (w : World) : Prop :=
  ∀ l5 : Int → Int → World → Prop,
   (∀ (v6 : Int) (i7 : Int) (w8 : World), (bif decide (i7 < (IntKind.i64.wrap (from3 + n4))) then
    (C.ref01_Bit addr1 (IntKind.i64.wrap ((IntKind.i64.wrap (depth2 - (1 : Int))) - i7)) (fun r9 w10 =>
   bif r9 then
    (l5 (IntKind.u64.wrap ((IntKind.u64.wrap ((2 : Int) * v6)) + (1 : Int))) (IntKind.i64.wrap (i7 + (1 : Int))) w10)
   else
    (l5 (IntKind.u64.wrap ((2 : Int) * v6)) (IntKind.i64.wrap (i7 + (1 : Int))) w10)) w8)
   else
    (K v6 w8)) → l5 v6 i7 w8) →
   l5 (0 : Int) from3 w
set_option maxRecDepth 100000 in
theorem S.ref06_bits_ok (addr1 : Int) (depth2 : Int) (from3 : Int) (n4 : Int) (K : Int → World → Prop) (w : World) (h : S.ref06_bits addr1 depth2 from3 n4 K w) : C.ref06_bits addr1 depth2 from3 n4 K w := by
  have e : fnV Try.prog Try.f70 (bodyOf Try.f70) (.t none (.u) (.t none (.u) (.t none (.t none (.u) (.t none (.t (some [(9, .c (.i .u64)), (10, .c (.i .i64))]) (.t none (.t none (.u) (.t none (.u) (.u))) (.t none (.t none (.t none (.u) (.t none (.u) (.t none (.u) (.u)))) (.u)) (.u))) (.u)) (.u))) (.t none (.u) (.u))))) [(0, .c (.i .u64))] [.int .u64 addr1, .int .i64 depth2, .int .i64 from3, .int .i64 n4] K w = S.ref06_bits addr1 depth2 from3 n4 K w := by kernel_rfl
  exact okF_mk Try.func70 rfl (fn_sound names_ok follows_ok Try.func70 rfl (by kernel_rfl) (Eq.mpr e h))

/-- slices.SortedFunc[buttress/api.Slot] -/
def S.slices_SortedFunc_api_Slot (seq1 : Value) (cmp2 : Value) (K : Sl → World → Prop) (w : World) : Prop :=
  C.slices_Collect_api_Slot seq1 (fun r3 w4 =>
   C.slices_SortFunc_api_Slot_api_Slot r3 cmp2 (fun w5 =>
   K r3 w5) w4) w
set_option maxRecDepth 100000 in
theorem S.slices_SortedFunc_api_Slot_ok (seq1 : Value) (cmp2 : Value) (K : Sl → World → Prop) (w : World) (h : S.slices_SortedFunc_api_Slot seq1 cmp2 K w) : C.slices_SortedFunc_api_Slot seq1 cmp2 K w := by
  have e : fnV Try.prog Try.f61 (bodyOf Try.f61) (.t none (.u) (.t none (.u) (.t none (.u) (.t none (.u) (.u))))) [(0, .c (.s))] [seq1, cmp2] K w = S.slices_SortedFunc_api_Slot seq1 cmp2 K w := by kernel_rfl
  exact okF_mk Try.func61 rfl (fn_sound names_ok follows_ok Try.func61 rfl (by kernel_rfl) (Eq.mpr e h))

/-- slices.Clone[[]int,int] -/
def S.slices_Clone_int_int (s1 : Sl) (K : Sl → World → Prop) (w : World) : Prop :=
  bif s1.a.isNone then
    (K ⟨none, 0, 0⟩ w)
   else
    (Al w (.cells #[] 3) fun w2 =>
   ∃ (t3 : Sl) (w4 : World), AppR Try.prog [32, 32] 32 (.slice (some (Addr.mk w.heap.size 0 none)) 0 0) (.slice s1.a s1.len s1.cap) w2 t3 w4 ∧
   K t3 w4)
set_option maxRecDepth 100000 in
theorem S.slices_Clone_int_int_ok (s1 : Sl) (K : Sl → World → Prop) (w : World) (h : S.slices_Clone_int_int s1 K w) : C.slices_Clone_int_int s1 K w := by
  have e : fnV Try.prog Try.f64 (bodyOf Try.f64) (.t none (.u) (.t none (.t none (.u) (.t none (.t none (.u) (.u)) (.u))) (.t none (.u) (.u)))) [(0, .c (.s))] [.slice s1.a s1.len s1.cap] K w = S.slices_Clone_int_int s1 K w := by kernel_rfl
  exact okF_mk Try.func64 rfl (fn_sound names_ok follows_ok Try.func64 rfl (by kernel_rfl) (Eq.mpr e h))

/-- slices.Collect[buttress/api.Slot] -/
def S.slices_Collect_api_Slot (seq1 : Value) (K : Sl → World → Prop) (w : World) : Prop :=
  C.slices_AppendSeq_api_Slot_api_Slot ⟨none, 0, 0⟩ seq1 (fun r2 w3 =>
   K r2 w3) w
set_option maxRecDepth 100000 in
theorem S.slices_Collect_api_Slot_ok (seq1 : Value) (K : Sl → World → Prop) (w : World) (h : S.slices_Collect_api_Slot seq1 K w) : C.slices_Collect_api_Slot seq1 K w := by
  have e : fnV Try.prog Try.f76 (bodyOf Try.f76) (.t none (.u) (.t none (.u) (.u))) [(0, .c (.s))] [seq1] K w = S.slices_Collect_api_Slot seq1 K w := by kernel_rfl
  exact okF_mk Try.func76 rfl (fn_sound names_ok follows_ok Try.func76 rfl (by kernel_rfl) (Eq.mpr e h))

/-- slices.SortFunc[[]buttress/api.Slot,buttress/api.Slot] -/
def S.slices_SortFunc_api_Slot_api_Slot (x1 : Sl) (cmp2 : Value) (K : World → Prop) (w : World) : Prop :=
  C.math_bits_Len (IntKind.u64.wrap (x1.len : Int)) (fun r3 w4 =>
   C.slices_pdqsortCmpFunc_api_Slot x1 (0 : Int) (x1.len : Int) r3 cmp2 (fun w5 =>
   K w5) w4) w
set_option maxRecDepth 100000 in
theorem S.slices_SortFunc_api_Slot_api_Slot_ok (x1 : Sl) (cmp2 : Value) (K : World → Prop) (w : World) (h : S.slices_SortFunc_api_Slot_api_Slot x1 cmp2 K w) : C.slices_SortFunc_api_Slot_api_Slot x1 cmp2 K w := by
  have e : fnV Try.prog Try.f77 (bodyOf Try.f77) (.t none (.u) (.u)) [] [.slice x1.a x1.len x1.cap, cmp2] K w = S.slices_SortFunc_api_Slot_api_Slot x1 cmp2 K w := by kernel_rfl
  exact okF_mk Try.func77 rfl (fn_sound names_ok follows_ok Try.func77 rfl (by kernel_rfl) (Eq.mpr e h))

/-- slices.pdqsortCmpFunc[buttress/api.Slot] -/
def S.slices_pdqsortCmpFunc_api_Slot (data1 : Sl) (a2 : Int) (b3 : Int) (limit4 : Int) (cmp5 : Value) (K : World → Prop) (w : World) : Prop :=
  ∀ l6 : Int → Int → Int → Bool → Bool → World → Prop,
   (∀ (a7 : Int) (b8 : Int) (limit9 : Int) (wasBalanced10 : Bool) (wasPartitioned11 : Bool) (w12 : World), (bif decide ((IntKind.i64.wrap (b8 - a7)) ≤ (12 : Int)) then
    (C.slices_insertionSortCmpFunc_api_Slot data1 a7 b8 cmp5 (fun w13 =>
   K w13) w12)
   else
    (bif limit9 == (0 : Int) then
    (C.slices_heapSortCmpFunc_api_Slot data1 a7 b8 cmp5 (fun w14 =>
   K w14) w12)
   else
    (∀ k15 : Int → World → Prop,
   (∀ (limit16 : Int) (w17 : World), (C.slices_choosePivotCmpFunc_api_Slot data1 a7 b8 cmp5 (fun r18 r19 w20 =>
   ∀ k21 : Int → Int → World → Prop,
   (∀ (pivot22 : Int) (hint23 : Int) (w24 : World), (∀ k25 : Bool → World → Prop,
   (∀ (t26 : Bool) (w27 : World), (∀ k28 : World → Prop,
   (∀ (w29 : World), (∀ k30 : Bool → World → Prop,
   (∀ (t31 : Bool) (w32 : World), (bif t31 then
    (C.slices_partitionEqualCmpFunc_api_Slot data1 a7 b8 pivot22 cmp5 (fun r33 w34 =>
   l6 r33 b8 limit16 wasBalanced10 wasPartitioned11 w34) w32)
   else
    (C.slices_partitionCmpFunc_api_Slot data1 a7 b8 pivot22 cmp5 (fun r35 r36 w37 =>
   (8 : Int) ≠ 0 ∧
   bif decide ((IntKind.i64.wrap (r35 - a7)) < (IntKind.i64.wrap (b8 - r35))) then
    (C.slices_pdqsortCmpFunc_api_Slot data1 a7 r35 limit16 cmp5 (fun w38 =>
   l6 (IntKind.i64.wrap (r35 + (1 : Int))) b8 limit16 (decide ((IntKind.i64.wrap (r35 - a7)) ≥ (IntKind.i64.wrap ((IntKind.i64.wrap (b8 - a7)).tdiv (8 : Int))))) r36 w38) w37)
   else
    (C.slices_pdqsortCmpFunc_api_Slot data1 (IntKind.i64.wrap (r35 + (1 : Int))) b8 limit16 cmp5 (fun w39 =>
   l6 a7 r35 limit16 (decide ((IntKind.i64.wrap (b8 - r35)) ≥ (IntKind.i64.wrap ((IntKind.i64.wrap (b8 - a7)).tdiv (8 : Int))))) r36 w39) w37)) w32)) → k30 t31 w32) →
   (Dr w29 fun w40 =>
   bif decide (a7 > (0 : Int)) then
    (∃ a41 : Addr, data1.a = some a41 ∧ 0 ≤ IntKind.i64.wrap (a7 - (1 : Int)) ∧ IntKind.i64.wrap (a7 - (1 : Int)) < (data1.len : Int) ∧
   LdL w40 (a41.add ((IntKind.i64.wrap (a7 - (1 : Int))).toNat * 2)) 0 [.i .i64, .i .i64] fun (t42 : Int) (t43 : Int) =>
   ∃ a44 : Addr, data1.a = some a44 ∧ 0 ≤ pivot22 ∧ pivot22 < (data1.len : Int) ∧
   LdL w40 (a44.add (pivot22.toNat * 2)) 0 [.i .i64, .i .i64] fun (t45 : Int) (t46 : Int) =>
   (CallV Try.prog (cmp5) [.agg #[.int .i64 t42, .int .i64 t43], .agg #[.int .i64 t45, .int .i64 t46]] w40 fun enw48 w48 => ∃ r47 : Int, enw48 = .returned (.int .i64 r47) ∧
   k30 (!(decide (r47 < (0 : Int)))) w48) ∧
   True)
   else
    ((k30 false w40) ∧
   True))) → k28 w29) →
   (bif t26 then
    (C.slices_partialInsertionSortCmpFunc_api_Slot data1 a7 b8 cmp5 (fun r49 w50 =>
   bif r49 then
    (K w50)
   else
    (k28 w50)) w27)
   else
    (k28 w27))) → k25 t26 w27) →
   (bif wasBalanced10 then
    (bif wasPartitioned11 then
    (k25 (hint23 == (1 : Int)) w24)
   else
    (k25 false w24))
   else
    (k25 false w24))) → k21 pivot22 hint23 w24) →
   (bif r19 == (2 : Int) then
    (C.slices_reverseRangeCmpFunc_api_Slot data1 a7 b8 cmp5 (fun w51 =>
   k21 (IntKind.i64.wrap ((IntKind.i64.wrap (b8 - (1 : Int))) - (IntKind.i64.wrap (r18 - a7)))) (1 : Int) w51) w20)
   else
    (k21 r18 r19 w20))) w17) → k15 limit16 w17) →
   (bif !wasBalanced10 then
    (C.slices_breakPatternsCmpFunc_api_Slot data1 a7 b8 cmp5 (fun w52 =>
   k15 (IntKind.i64.wrap (limit9 - (1 : Int))) w52) w12)
   else
    (k15 limit9 w12))))) → l6 a7 b8 limit9 wasBalanced10 wasPartitioned11 w12) →
   l6 a2 b3 limit4 true true w
set_option maxRecDepth 100000 in
theorem S.slices_pdqsortCmpFunc_api_Slot_ok (data1 : Sl) (a2 : Int) (b3 : Int) (limit4 : Int) (cmp5 : Value) (K : World → Prop) (w : World) (h : S.slices_pdqsortCmpFunc_api_Slot data1 a2 b3 limit4 cmp5 K w) : C.slices_pdqsortCmpFunc_api_Slot data1 a2 b3 limit4 cmp5 K w := by
  have e : fnV Try.prog Try.f86 (bodyOf Try.f86) (.t none (.u) (.t none (.u) (.t none (.t (some [(1, .c (.i .i64)), (2, .c (.i .i64)), (3, .c (.i .i64)), (10, .c (.b)), (11, .c (.b))]) (.t none (.t none (.u) (.t none (.t none (.u) (.t none (.t none (.u) (.u)) (.u))) (.t none (.t none (.u) (.t none (.t none (.u) (.u)) (.u))) (.t none (.t none (.u) (.t (some [(3, .c (.i .i64))]) (.t none (.u) (.u)) (.u))) (.t none (.u) (.t none (.t none (.u) (.t (some [(13, .c (.i .i64)), (14, .c (.i .i64))]) (.t none (.u) (.t none (.u) (.u))) (.u))) (.t none (.t none (.r (some [(75, .c (.b))]) .done) (.t (some []) (.t none (.u) (.t none (.u) (.u))) (.u))) (.t none (.t none (.r (some [(97, .c (.b))]) (.one 0 0 (.one 1 0 (.one 2 0 (.one 3 8176 (.one 4 7776 (.one 5 7680 (.one 6 7680 (.one 7 7680 (.one 8 7680 (.one 9 1024 (.one 10 0 (.one 11 0 (.one 12 0 (.alt 13 (.one 14 0 (.one 15 0 (.one 16 0 (.done)))) (.none)))))))))))))))) (.t none (.t none (.u) (.t none (.u) (.u))) (.u))) (.t none (.u) (.t none (.u) (.t none (.u) (.t none (.u) (.t none (.u) (.t none (.t none (.u) (.t none (.u) (.u))) (.t none (.u) (.t none (.u) (.u))))))))))))))))) (.u)) (.u)) (.u)))) [] [.slice data1.a data1.len data1.cap, .int .i64 a2, .int .i64 b3, .int .i64 limit4, cmp5] K w = S.slices_pdqsortCmpFunc_api_Slot data1 a2 b3 limit4 cmp5 K w := by kernel_rfl
  exact okF_mk Try.func86 rfl (fn_sound names_ok follows_ok Try.func86 rfl (by kernel_rfl) (Eq.mpr e h))

/-- slices.insertionSortCmpFunc[buttress/api.Slot] -/
def S.slices_insertionSortCmpFunc_api_Slot (data1 : Sl) (a2 : Int) (b3 : Int) (cmp4 : Value) (K : World → Prop) (w : World) : Prop :=
  ∀ l5 : Int → World → Prop,
   (∀ (i6 : Int) (w7 : World), (bif decide (i6 < b3) then
    (∀ l8 : Int → World → Prop,
   (∀ (j9 : Int) (w10 : World), (∀ k11 : Bool → World → Prop,
   (∀ (t12 : Bool) (w13 : World), (bif t12 then
    (Dr w13 fun w14 =>
   ∃ a15 : Addr, data1.a = some a15 ∧ 0 ≤ IntKind.i64.wrap (j9 - (1 : Int)) ∧ IntKind.i64.wrap (j9 - (1 : Int)) < (data1.len : Int) ∧
   LdL w14 (a15.add ((IntKind.i64.wrap (j9 - (1 : Int))).toNat * 2)) 0 [.i .i64, .i .i64] fun (t16 : Int) (t17 : Int) =>
   ∃ a18 : Addr, data1.a = some a18 ∧ 0 ≤ j9 ∧ j9 < (data1.len : Int) ∧
   LdL w14 (a18.add (j9.toNat * 2)) 0 [.i .i64, .i .i64] fun (t19 : Int) (t20 : Int) =>
   ∃ a21 : Addr, data1.a = some a21 ∧ 0 ≤ j9 ∧ j9 < (data1.len : Int) ∧
   (StL w14 (a21.add (j9.toNat * 2)) 0 [.int .i64 t16, .int .i64 t17] fun w22 =>
   ∃ a23 : Addr, data1.a = some a23 ∧ 0 ≤ IntKind.i64.wrap (j9 - (1 : Int)) ∧ IntKind.i64.wrap (j9 - (1 : Int)) < (data1.len : Int) ∧
   (StL w22 (a23.add ((IntKind.i64.wrap (j9 - (1 : Int))).toNat * 2)) 0 [.int .i64 t19, .int .i64 t20] fun w24 =>
   l8 (IntKind.i64.wrap (j9 - (1 : Int))) w24) ∧
   True) ∧
   True)
   else
    (l5 (IntKind.i64.wrap (i6 + (1 : Int))) w13)) → k11 t12 w13) →
   (Dr w10 fun w25 =>
   bif decide (j9 > a2) then
    (∃ a26 : Addr, data1.a = some a26 ∧ 0 ≤ j9 ∧ j9 < (data1.len : Int) ∧
   LdL w25 (a26.add (j9.toNat * 2)) 0 [.i .i64, .i .i64] fun (t27 : Int) (t28 : Int) =>
   ∃ a29 : Addr, data1.a = some a29 ∧ 0 ≤ IntKind.i64.wrap (j9 - (1 : Int)) ∧ IntKind.i64.wrap (j9 - (1 : Int)) < (data1.len : Int) ∧
   LdL w25 (a29.add ((IntKind.i64.wrap (j9 - (1 : Int))).toNat * 2)) 0 [.i .i64, .i .i64] fun (t30 : Int) (t31 : Int) =>
   (CallV Try.prog (cmp4) [.agg #[.int .i64 t27, .int .i64 t28], .agg #[.int .i64 t30, .int .i64 t31]] w25 fun enw33 w33 => ∃ r32 : Int, enw33 = .returned (.int .i64 r32) ∧
   k11 (decide (r32 < (0 : Int))) w33) ∧
   True)
   else
    ((k11 false w25) ∧
   True))) → l8 j9 w10) →
   l8 i6 w7)
   else
    (K w7)) → l5 i6 w7) →
   l5 (IntKind.i64.wrap (a2 + (1 : Int))) w
set_option maxRecDepth 100000 in
theorem S.slices_insertionSortCmpFunc_api_Slot_ok (data1 : Sl) (a2 : Int) (b3 : Int) (cmp4 : Value) (K : World → Prop) (w : World) (h : S.slices_insertionSortCmpFunc_api_Slot data1 a2 b3 cmp4 K w) : C.slices_insertionSortCmpFunc_api_Slot data1 a2 b3 cmp4 K w := by
  have e : fnV Try.prog Try.f89 (bodyOf Try.f89) (.t none (.u) (.t none (.t (some [(8, .c (.i .i64))]) (.t none (.t none (.u) (.t none (.u) (.u))) (.t none (.t none (.t none (.u) (.t none (.t (some [(9, .c (.i .i64))]) (.t none (.t none (.r (some [(34, .c (.b))]) (.one 0 2 (.one 1 0 (.one 2 0 (.one 3 0 (.one 4 16352 (.one 5 15936 (.one 6 15872 (.one 7 15872 (.one 8 15872 (.one 9 3072 (.one 10 0 (.one 11 0 (.one 12 0 (.one 13 0 (.alt 14 (.one 15 0 (.one 16 0 (.done))) (.none))))))))))))))))) (.t none (.u) (.u))) (.t none (.t none (.r none (.one 0 16382 (.one 1 16380 (.one 2 65528 (.one 3 65504 (.one 4 65504 (.one 5 15552 (.one 6 15360 (.one 7 15360 (.one 8 15360 (.one 9 15360 (.one 10 2048 (.one 11 0 (.one 12 0 (.one 13 0 (.one 14 0 (.alt 15 (.one 16 0 (.alt 17 (.done) (.none))) (.none)))))))))))))))))) (.u)) (.u))) (.u)) (.u))) (.u)) (.u))) (.u)) (.u))) [] [.slice data1.a data1.len data1.cap, .int .i64 a2, .int .i64 b3, cmp4] K w = S.slices_insertionSortCmpFunc_api_Slot data1 a2 b3 cmp4 K w := by kernel_rfl
  exact okF_mk Try.func89 rfl (fn_sound names_ok follows_ok Try.func89 rfl (by kernel_rfl) (Eq.mpr e h))

/-- slices.heapSortCmpFunc[buttress/api.Slot] -/
def S.slices_heapSortCmpFunc_api_Slot (data1 : Sl) (a2 : Int) (b3 : Int) (cmp4 : Value) (K : World → Prop) (w : World) : Prop :=
  (2 : Int) ≠ 0 ∧
   ∀ l5 : Int → World → Prop,
   (∀ (i6 : Int) (w7 : World), (bif decide (i6 ≥ (0 : Int)) then
    (C.slices_siftDownCmpFunc_api_Slot data1 i6 (IntKind.i64.wrap (b3 - a2)) a2 cmp4 (fun w8 =>
   l5 (IntKind.i64.wrap (i6 - (1 : Int))) w8) w7)
   else
    (∀ l9 : Int → World → Prop,
   (∀ (i10 : Int) (w11 : World), (bif decide (i10 ≥ (0 : Int)) then
    (Dr w11 fun w12 =>
   ∃ a13 : Addr, data1.a = some a13 ∧ 0 ≤ IntKind.i64.wrap (a2 + i10) ∧ IntKind.i64.wrap (a2 + i10) < (data1.len : Int) ∧
   LdL w12 (a13.add ((IntKind.i64.wrap (a2 + i10)).toNat * 2)) 0 [.i .i64, .i .i64] fun (t14 : Int) (t15 : Int) =>
   ∃ a16 : Addr, data1.a = some a16 ∧ 0 ≤ a2 ∧ a2 < (data1.len : Int) ∧
   LdL w12 (a16.add (a2.toNat * 2)) 0 [.i .i64, .i .i64] fun (t17 : Int) (t18 : Int) =>
   ∃ a19 : Addr, data1.a = some a19 ∧ 0 ≤ a2 ∧ a2 < (data1.len : Int) ∧
   (StL w12 (a19.add (a2.toNat * 2)) 0 [.int .i64 t14, .int .i64 t15] fun w20 =>
   ∃ a21 : Addr, data1.a = some a21 ∧ 0 ≤ IntKind.i64.wrap (a2 + i10) ∧ IntKind.i64.wrap (a2 + i10) < (data1.len : Int) ∧
   (StL w20 (a21.add ((IntKind.i64.wrap (a2 + i10)).toNat * 2)) 0 [.int .i64 t17, .int .i64 t18] fun w22 =>
   C.slices_siftDownCmpFunc_api_Slot data1 (0 : Int) i10 a2 cmp4 (fun w23 =>
   l9 (IntKind.i64.wrap (i10 - (1 : Int))) w23) w22) ∧
   True) ∧
   True)
   else
    (K w11)) → l9 i10 w11) →
   l9 (IntKind.i64.wrap ((IntKind.i64.wrap (b3 - a2)) - (1 : Int))) w7)) → l5 i6 w7) →
   l5 (IntKind.i64.wrap ((IntKind.i64.wrap ((IntKind.i64.wrap (b3 - a2)) - (1 : Int))).tdiv (2 : Int))) w
set_option maxRecDepth 100000 in
theorem S.slices_heapSortCmpFunc_api_Slot_ok (data1 : Sl) (a2 : Int) (b3 : Int) (cmp4 : Value) (K : World → Prop) (w : World) (h : S.slices_heapSortCmpFunc_api_Slot data1 a2 b3 cmp4 K w) : C.slices_heapSortCmpFunc_api_Slot data1 a2 b3 cmp4 K w := by
  have e : fnV Try.prog Try.f90 (bodyOf Try.f90) (.t none (.u) (.t none (.u) (.t none (.u) (.t none (.t none (.u) (.t none (.t (some [(11, .c (.i .i64))]) (.t none (.t none (.u) (.t none (.u) (.u))) (.t none (.t none (.u) (.u)) (.u))) (.u)) (.u))) (.t none (.u) (.t none (.t (some [(12, .c (.i .i64))]) (.t none (.t none (.u) (.t none (.u) (.u))) (.t none (.t none (.t none (.r none (.one 0 65534 (.one 1 65532 (.one 2 262136 (.one 3 262096 (.one 4 262080 (.one 5 262080 (.one 6 62336 (.one 7 61696 (.one 8 61440 (.one 9 61440 (.one 10 61440 (.one 11 61440 (.one 12 8192 (.one 13 0 (.one 14 0 (.one 15 0 (.one 16 0 (.alt 17 (.one 18 0 (.alt 19 (.done) (.none))) (.none)))))))))))))))))))) (.u)) (.u)) (.u))) (.u)) (.u))))))) [] [.slice data1.a data1.len data1.cap, .int .i64 a2, .int .i64 b3, cmp4] K w = S.slices_heapSortCmpFunc_api_Slot data1 a2 b3 cmp4 K w := by kernel_rfl
  exact okF_mk Try.func90 rfl (fn_sound names_ok follows_ok Try.func90 rfl (by kernel_rfl) (Eq.mpr e h))

/-- slices.breakPatternsCmpFunc[buttress/api.Slot] -/
def S.slices_breakPatternsCmpFunc_api_Slot (data1 : Sl) (a2 : Int) (b3 : Int) (cmp4 : Value) (K : World → Prop) (w : World) : Prop :=
  bif decide ((IntKind.i64.wrap (b3 - a2)) ≥ (8 : Int)) then
    (Al w (.cells #[.int .u64 (0 : Int)] 129) fun w5 =>
   St w5 (Addr.mk w.heap.size 0 none) (.int .u64 (IntKind.u64.wrap (IntKind.i64.wrap (b3 - a2)))) fun w6 =>
   C.slices_nextPowerOfTwo (IntKind.i64.wrap (b3 - a2)) (fun r7 w8 =>
   (4 : Int) ≠ 0 ∧
   ∀ l9 : Int → World → Prop,
   (∀ (idx10 : Int) (w11 : World), ((4 : Int) ≠ 0 ∧
   bif decide (idx10 ≤ (IntKind.i64.wrap ((IntKind.i64.wrap (a2 + (IntKind.i64.wrap ((IntKind.i64.wrap ((IntKind.i64.wrap (b3 - a2)).tdiv (4 : Int))) * (2 : Int))))) + (1 : Int)))) then
    (C.slices_xorshift_Next (some (Addr.mk w.heap.size 0 none)) (fun r12 w13 =>
   ∀ k14 : Int → World → Prop,
   (∀ (other15 : Int) (w16 : World), (Dr w16 fun w17 =>
   ∃ a18 : Addr, data1.a = some a18 ∧ 0 ≤ IntKind.i64.wrap (a2 + other15) ∧ IntKind.i64.wrap (a2 + other15) < (data1.len : Int) ∧
   LdL w17 (a18.add ((IntKind.i64.wrap (a2 + other15)).toNat * 2)) 0 [.i .i64, .i .i64] fun (t19 : Int) (t20 : Int) =>
   ∃ a21 : Addr, data1.a = some a21 ∧ 0 ≤ idx10 ∧ idx10 < (data1.len : Int) ∧
   LdL w17 (a21.add (idx10.toNat * 2)) 0 [.i .i64, .i .i64] fun (t22 : Int) (t23 : Int) =>
   ∃ a24 : Addr, data1.a = some a24 ∧ 0 ≤ idx10 ∧ idx10 < (data1.len : Int) ∧
   (StL w17 (a24.add (idx10.toNat * 2)) 0 [.int .i64 t19, .int .i64 t20] fun w25 =>
   ∃ a26 : Addr, data1.a = some a26 ∧ 0 ≤ IntKind.i64.wrap (a2 + other15) ∧ IntKind.i64.wrap (a2 + other15) < (data1.len : Int) ∧
   (StL w25 (a26.add ((IntKind.i64.wrap (a2 + other15)).toNat * 2)) 0 [.int .i64 t22, .int .i64 t23] fun w27 =>
   l9 (IntKind.i64.wrap (idx10 + (1 : Int))) w27) ∧
   True) ∧
   True) → k14 other15 w16) →
   (bif decide ((IntKind.i64.wrap (andI .u64 r12 (IntKind.u64.wrap (r7 - (1 : Int))))) ≥ (IntKind.i64.wrap (b3 - a2))) then
    (k14 (IntKind.i64.wrap ((IntKind.i64.wrap (andI .u64 r12 (IntKind.u64.wrap (r7 - (1 : Int))))) - (IntKind.i64.wrap (b3 - a2)))) w13)
   else
    (k14 (IntKind.i64.wrap (andI .u64 r12 (IntKind.u64.wrap (r7 - (1 : Int))))) w13))) w11)
   else
    (K w11)) → l9 idx10 w11) →
   l9 (IntKind.i64.wrap ((IntKind.i64.wrap (a2 + (IntKind.i64.wrap ((IntKind.i64.wrap ((IntKind.i64.wrap (b3 - a2)).tdiv (4 : Int))) * (2 : Int))))) - (1 : Int))) w8) w6)
   else
    (K w)
set_option maxRecDepth 100000 in
theorem S.slices_breakPatternsCmpFunc_api_Slot_ok (data1 : Sl) (a2 : Int) (b3 : Int) (cmp4 : Value) (K : World → Prop) (w : World) (h : S.slices_breakPatternsCmpFunc_api_Slot data1 a2 b3 cmp4 K w) : C.slices_breakPatternsCmpFunc_api_Slot data1 a2 b3 cmp4 K w := by
  have e : fnV Try.prog Try.f91 (bodyOf Try.f91) (.t none (.u) (.t none (.u) (.t none (.t none (.u) (.t none (.u) (.t none (.u) (.t none (.t (some [(11, .c (.i .i64))]) (.t none (.t none (.u) (.t none (.u) (.u))) (.t none (.t none (.t none (.u) (.t none (.t none (.u) (.t (some [(12, .c (.i .i64))]) (.u) (.u))) (.r none (.one 0 65534 (.one 1 65532 (.one 2 262136 (.one 3 262096 (.one 4 262080 (.one 5 262080 (.one 6 62336 (.one 7 61696 (.one 8 61440 (.one 9 61440 (.one 10 61440 (.one 11 61440 (.one 12 8192 (.one 13 0 (.one 14 0 (.one 15 0 (.one 16 0 (.alt 17 (.one 18 0 (.alt 19 (.done) (.none))) (.none)))))))))))))))))))))) (.u)) (.u))) (.u)) (.u))))) (.u)))) [] [.slice data1.a data1.len data1.cap, .int .i64 a2, .int .i64 b3, cmp4] K w = S.slices_breakPatternsCmpFunc_api_Slot data1 a2 b3 cmp4 K w := by kernel_rfl
  exact okF_mk Try.func91 rfl (fn_sound names_ok follows_ok Try.func91 rfl (by kernel_rfl) (Eq.mpr e h))

/-- slices.choosePivotCmpFunc[buttress/api.Slot] -/
def S.slices_choosePivotCmpFunc_api_Slot (data1 : Sl) (a2 : Int) (b3 : Int) (cmp4 : Value) (K : Int → Int → World → Prop) (w : World) : Prop :=
  Al w (.cells #[.int .i64 (0 : Int)] 3) fun w5 =>
   (4 : Int) ≠ 0 ∧
   (4 : Int) ≠ 0 ∧
   (4 : Int) ≠ 0 ∧
   ∀ k6 : Int → World → Prop,
   (∀ (j7 : Int) (w8 : World), (∃ t9 : Int, w8.cell? (Addr.mk w.heap.size 0 none) = some (.int .i64 t9) ∧
   bif t9 == (0 : Int) then
    (K j7 (1 : Int) w8)
   else
    (bif t9 == (12 : Int) then
    (K j7 (2 : Int) w8)
   else
    (K j7 (0 : Int) w8))) → k6 j7 w8) →
   (bif decide ((IntKind.i64.wrap (b3 - a2)) ≥ (8 : Int)) then
    (bif decide ((IntKind.i64.wrap (b3 - a2)) ≥ (50 : Int)) then
    (C.slices_medianAdjacentCmpFunc_api_Slot data1 (IntKind.i64.wrap (a2 + (IntKind.i64.wrap ((IntKind.i64.wrap ((IntKind.i64.wrap (b3 - a2)).tdiv (4 : Int))) * (1 : Int))))) (some (Addr.mk w.heap.size 0 none)) cmp4 (fun r10 w11 =>
   C.slices_medianAdjacentCmpFunc_api_Slot data1 (IntKind.i64.wrap (a2 + (IntKind.i64.wrap ((IntKind.i64.wrap ((IntKind.i64.wrap (b3 - a2)).tdiv (4 : Int))) * (2 : Int))))) (some (Addr.mk w.heap.size 0 none)) cmp4 (fun r12 w13 =>
   C.slices_medianAdjacentCmpFunc_api_Slot data1 (IntKind.i64.wrap (a2 + (IntKind.i64.wrap ((IntKind.i64.wrap ((IntKind.i64.wrap (b3 - a2)).tdiv (4 : Int))) * (3 : Int))))) (some (Addr.mk w.heap.size 0 none)) cmp4 (fun r14 w15 =>
   C.slices_medianCmpFunc_api_Slot data1 r10 r12 r14 (some (Addr.mk w.heap.size 0 none)) cmp4 (fun r16 w17 =>
   k6 r16 w17) w15) w13) w11) w5)
   else
    (C.slices_medianCmpFunc_api_Slot data1 (IntKind.i64.wrap (a2 + (IntKind.i64.wrap ((IntKind.i64.wrap ((IntKind.i64.wrap (b3 - a2)).tdiv (4 : Int))) * (1 : Int))))) (IntKind.i64.wrap (a2 + (IntKind.i64.wrap ((IntKind.i64.wrap ((IntKind.i64.wrap (b3 - a2)).tdiv (4 : Int))) * (2 : Int))))) (IntKind.i64.wrap (a2 + (IntKind.i64.wrap ((IntKind.i64.wrap ((IntKind.i64.wrap (b3 - a2)).tdiv (4 : Int))) * (3 : Int))))) (some (Addr.mk w.heap.size 0 none)) cmp4 (fun r18 w19 =>
   k6 r18 w19) w5))
   else
    (k6 (IntKind.i64.wrap (a2 + (IntKind.i64.wrap ((IntKind.i64.wrap ((IntKind.i64.wrap (b3 - a2)).tdiv (4 : Int))) * (2 : Int))))) w5))
set_option maxRecDepth 100000 in
theorem S.slices_choosePivotCmpFunc_api_Slot_ok (data1 : Sl) (a2 : Int) (b3 : Int) (cmp4 : Value) (K : Int → Int → World → Prop) (w : World) (h : S.slices_choosePivotCmpFunc_api_Slot data1 a2 b3 cmp4 K w) : C.slices_choosePivotCmpFunc_api_Slot data1 a2 b3 cmp4 K w := by
  have e : fnV Try.prog Try.f92 (bodyOf Try.f92) (.t none (.u) (.t none (.u) (.t none (.u) (.t none (.u) (.t none (.u) (.t none (.u) (.t none (.t none (.u) (.t (some [(13, .c (.i .i64))]) (.t none (.t none (.u) (.t none (.t none (.u) (.t none (.u) (.u))) (.u))) (.u)) (.u))) (.t none (.u) (.t none (.t none (.u) (.t none (.t none (.u) (.u)) (.t none (.u) (.t none (.t none (.u) (.u)) (.t none (.u) (.u)))))) (.u)))))))))) [(0, .c (.i .i64)), (1, .c (.i .i64))] [.slice data1.a data1.len data1.cap, .int .i64 a2, .int .i64 b3, cmp4] K w = S.slices_choosePivotCmpFunc_api_Slot data1 a2 b3 cmp4 K w := by kernel_rfl
  exact okF_mk Try.func92 rfl (fn_sound names_ok follows_ok Try.func92 rfl (by kernel_rfl) (Eq.mpr e h))

/-- slices.reverseRangeCmpFunc[buttress/api.Slot] -/
def S.slices_reverseRangeCmpFunc_api_Slot (data1 : Sl) (a2 : Int) (b3 : Int) (cmp4 : Value) (K : World → Prop) (w : World) : Prop :=
  ∀ l5 : Int → Int → World → Prop,
   (∀ (i6 : Int) (j7 : Int) (w8 : World), (bif decide (i6 < j7) then
    (Dr w8 fun w9 =>
   ∃ a10 : Addr, data1.a = some a10 ∧ 0 ≤ j7 ∧ j7 < (data1.len : Int) ∧
   LdL w9 (a10.add (j7.toNat * 2)) 0 [.i .i64, .i .i64] fun (t11 : Int) (t12 : Int) =>
   ∃ a13 : Addr, data1.a = some a13 ∧ 0 ≤ i6 ∧ i6 < (data1.len : Int) ∧
   LdL w9 (a13.add (i6.toNat * 2)) 0 [.i .i64, .i .i64] fun (t14 : Int) (t15 : Int) =>
   ∃ a16 : Addr, data1.a = some a16 ∧ 0 ≤ i6 ∧ i6 < (data1.len : Int) ∧
   (StL w9 (a16.add (i6.toNat * 2)) 0 [.int .i64 t11, .int .i64 t12] fun w17 =>
   ∃ a18 : Addr, data1.a = some a18 ∧ 0 ≤ j7 ∧ j7 < (data1.len : Int) ∧
   (StL w17 (a18.add (j7.toNat * 2)) 0 [.int .i64 t14, .int .i64 t15] fun w19 =>
   l5 (IntKind.i64.wrap (i6 + (1 : Int))) (IntKind.i64.wrap (j7 - (1 : Int))) w19) ∧
   True) ∧
   True)
   else
    (K w8)) → l5 i6 j7 w8) →
   l5 a2 (IntKind.i64.wrap (b3 - (1 : Int))) w
set_option maxRecDepth 100000 in
theorem S.slices_reverseRangeCmpFunc_api_Slot_ok (data1 : Sl) (a2 : Int) (b3 : Int) (cmp4 : Value) (K : World → Prop) (w : World) (h : S.slices_reverseRangeCmpFunc_api_Slot data1 a2 b3 cmp4 K w) : C.slices_reverseRangeCmpFunc_api_Slot data1 a2 b3 cmp4 K w := by
  have e : fnV Try.prog Try.f93 (bodyOf Try.f93) (.t none (.u) (.t none (.u) (.t none (.t (some [(8, .c (.i .i64)), (9, .c (.i .i64))]) (.t none (.t none (.u) (.t none (.u) (.u))) (.t none (.t none (.r none (.one 0 4094 (.one 1 4092 (.one 2 16376 (.one 3 16368 (.one 4 3872 (.one 5 3840 (.one 6 3840 (.one 7 3840 (.one 8 512 (.one 9 0 (.one 10 0 (.one 11 0 (.one 12 0 (.alt 13 (.one 14 0 (.alt 15 (.done) (.none))) (.none)))))))))))))))) (.t none (.u) (.u))) (.u))) (.u)) (.u)))) [] [.slice data1.a data1.len data1.cap, .int .i64 a2, .int .i64 b3, cmp4] K w = S.slices_reverseRangeCmpFunc_api_Slot data1 a2 b3 cmp4 K w := by kernel_rfl
  exact okF_mk Try.func93 rfl (fn_sound names_ok follows_ok Try.func93 rfl (by kernel_rfl) (Eq.mpr e h))

/-- slices.partialInsertionSortCmpFunc[buttress/api.Slot] -/
def S.slices_partialInsertionSortCmpFunc_api_Slot (data1 : Sl) (a2 : Int) (b3 : Int) (cmp4 : Value) (K : Bool → World → Prop) (w : World) : Prop :=
  ∀ l5 : Int → Int → World → Prop,
   (∀ (i6 : Int) (j7 : Int) (w8 : World), (bif decide (j7 < (5 : Int)) then
    (∀ k9 : Int → World → Prop,
   (∀ (i10 : Int) (w11 : World), (bif i10 == b3 then
    (K true w11)
   else
    (bif decide ((IntKind.i64.wrap (b3 - a2)) < (50 : Int)) then
    (K false w11)
   else
    (Dr w11 fun w12 =>
   ∃ a13 : Addr, data1.a = some a13 ∧ 0 ≤ IntKind.i64.wrap (i10 - (1 : Int)) ∧ IntKind.i64.wrap (i10 - (1 : Int)) < (data1.len : Int) ∧
   LdL w12 (a13.add ((IntKind.i64.wrap (i10 - (1 : Int))).toNat * 2)) 0 [.i .i64, .i .i64] fun (t14 : Int) (t15 : Int) =>
   ∃ a16 : Addr, data1.a = some a16 ∧ 0 ≤ i10 ∧ i10 < (data1.len : Int) ∧
   LdL w12 (a16.add (i10.toNat * 2)) 0 [.i .i64, .i .i64] fun (t17 : Int) (t18 : Int) =>
   ∃ a19 : Addr, data1.a = some a19 ∧ 0 ≤ i10 ∧ i10 < (data1.len : Int) ∧
   (StL w12 (a19.add (i10.toNat * 2)) 0 [.int .i64 t14, .int .i64 t15] fun w20 =>
   ∃ a21 : Addr, data1.a = some a21 ∧ 0 ≤ IntKind.i64.wrap (i10 - (1 : Int)) ∧ IntKind.i64.wrap (i10 - (1 : Int)) < (data1.len : Int) ∧
   (StL w20 (a21.add ((IntKind.i64.wrap (i10 - (1 : Int))).toNat * 2)) 0 [.int .i64 t17, .int .i64 t18] fun w22 =>
   ∀ k23 : World → Prop,
   (∀ (w24 : World), (bif decide ((IntKind.i64.wrap (b3 - i10)) ≥ (2 : Int)) then
    (∀ l25 : Int → World → Prop,
   (∀ (j26 : Int) (w27 : World), (bif decide (j26 < b3) then
    (Dr w27 fun w28 =>
   ∃ a29 : Addr, data1.a = some a29 ∧ 0 ≤ j26 ∧ j26 < (data1.len : Int) ∧
   LdL w28 (a29.add (j26.toNat * 2)) 0 [.i .i64, .i .i64] fun (t30 : Int) (t31 : Int) =>
   ∃ a32 : Addr, data1.a = some a32 ∧ 0 ≤ IntKind.i64.wrap (j26 - (1 : Int)) ∧ IntKind.i64.wrap (j26 - (1 : Int)) < (data1.len : Int) ∧
   LdL w28 (a32.add ((IntKind.i64.wrap (j26 - (1 : Int))).toNat * 2)) 0 [.i .i64, .i .i64] fun (t33 : Int) (t34 : Int) =>
   (CallV Try.prog (cmp4) [.agg #[.int .i64 t30, .int .i64 t31], .agg #[.int .i64 t33, .int .i64 t34]] w28 fun enw36 w36 => ∃ r35 : Int, enw36 = .returned (.int .i64 r35) ∧
   bif !(decide (r35 < (0 : Int))) then
    (l5 i10 (IntKind.i64.wrap (j7 + (1 : Int))) w36)
   else
    (Dr w36 fun w37 =>
   ∃ a38 : Addr, data1.a = some a38 ∧ 0 ≤ IntKind.i64.wrap (j26 - (1 : Int)) ∧ IntKind.i64.wrap (j26 - (1 : Int)) < (data1.len : Int) ∧
   LdL w37 (a38.add ((IntKind.i64.wrap (j26 - (1 : Int))).toNat * 2)) 0 [.i .i64, .i .i64] fun (t39 : Int) (t40 : Int) =>
   ∃ a41 : Addr, data1.a = some a41 ∧ 0 ≤ j26 ∧ j26 < (data1.len : Int) ∧
   LdL w37 (a41.add (j26.toNat * 2)) 0 [.i .i64, .i .i64] fun (t42 : Int) (t43 : Int) =>
   ∃ a44 : Addr, data1.a = some a44 ∧ 0 ≤ j26 ∧ j26 < (data1.len : Int) ∧
   (StL w37 (a44.add (j26.toNat * 2)) 0 [.int .i64 t39, .int .i64 t40] fun w45 =>
   ∃ a46 : Addr, data1.a = some a46 ∧ 0 ≤ IntKind.i64.wrap (j26 - (1 : Int)) ∧ IntKind.i64.wrap (j26 - (1 : Int)) < (data1.len : Int) ∧
   (StL w45 (a46.add ((IntKind.i64.wrap (j26 - (1 : Int))).toNat * 2)) 0 [.int .i64 t42, .int .i64 t43] fun w47 =>
   l25 (IntKind.i64.wrap (j26 + (1 : Int))) w47) ∧
   True) ∧
   True)) ∧
   True)
   else
    (l5 i10 (IntKind.i64.wrap (j7 + (1 : Int))) w27)) → l25 j26 w27) →
   l25 (IntKind.i64.wrap (i10 + (1 : Int))) w24)
   else
    (l5 i10 (IntKind.i64.wrap (j7 + (1 : Int))) w24)) → k23 w24) →
   (bif decide ((IntKind.i64.wrap (i10 - a2)) ≥ (2 : Int)) then
    (∀ l48 : Int → World → Prop,
   (∀ (j49 : Int) (w50 : World), (bif decide (j49 ≥ (1 : Int)) then
    (Dr w50 fun w51 =>
   ∃ a52 : Addr, data1.a = some a52 ∧ 0 ≤ j49 ∧ j49 < (data1.len : Int) ∧
   LdL w51 (a52.add (j49.toNat * 2)) 0 [.i .i64, .i .i64] fun (t53 : Int) (t54 : Int) =>
   ∃ a55 : Addr, data1.a = some a55 ∧ 0 ≤ IntKind.i64.wrap (j49 - (1 : Int)) ∧ IntKind.i64.wrap (j49 - (1 : Int)) < (data1.len : Int) ∧
   LdL w51 (a55.add ((IntKind.i64.wrap (j49 - (1 : Int))).toNat * 2)) 0 [.i .i64, .i .i64] fun (t56 : Int) (t57 : Int) =>
   (CallV Try.prog (cmp4) [.agg #[.int .i64 t53, .int .i64 t54], .agg #[.int .i64 t56, .int .i64 t57]] w51 fun enw59 w59 => ∃ r58 : Int, enw59 = .returned (.int .i64 r58) ∧
   bif !(decide (r58 < (0 : Int))) then
    (k23 w59)
   else
    (Dr w59 fun w60 =>
   ∃ a61 : Addr, data1.a = some a61 ∧ 0 ≤ IntKind.i64.wrap (j49 - (1 : Int)) ∧ IntKind.i64.wrap (j49 - (1 : Int)) < (data1.len : Int) ∧
   LdL w60 (a61.add ((IntKind.i64.wrap (j49 - (1 : Int))).toNat * 2)) 0 [.i .i64, .i .i64] fun (t62 : Int) (t63 : Int) =>
   ∃ a64 : Addr, data1.a = some a64 ∧ 0 ≤ j49 ∧ j49 < (data1.len : Int) ∧
   LdL w60 (a64.add (j49.toNat * 2)) 0 [.i .i64, .i .i64] fun (t65 : Int) (t66 : Int) =>
   ∃ a67 : Addr, data1.a = some a67 ∧ 0 ≤ j49 ∧ j49 < (data1.len : Int) ∧
   (StL w60 (a67.add (j49.toNat * 2)) 0 [.int .i64 t62, .int .i64 t63] fun w68 =>
   ∃ a69 : Addr, data1.a = some a69 ∧ 0 ≤ IntKind.i64.wrap (j49 - (1 : Int)) ∧ IntKind.i64.wrap (j49 - (1 : Int)) < (data1.len : Int) ∧
   (StL w68 (a69.add ((IntKind.i64.wrap (j49 - (1 : Int))).toNat * 2)) 0 [.int .i64 t65, .int .i64 t66] fun w70 =>
   l48 (IntKind.i64.wrap (j49 - (1 : Int))) w70) ∧
   True) ∧
   True)) ∧
   True)
   else
    (k23 w50)) → l48 j49 w50) →
   l48 (IntKind.i64.wrap (i10 - (1 : Int))) w22)
   else
    (k23 w22))) ∧
   True) ∧
   True))) → k9 i10 w11) →
   (∀ l71 : Int → World → Prop,
   (∀ (i72 : Int) (w73 : World), (Dr w73 fun w74 =>
   bif decide (i72 < b3) then
    (∃ a75 : Addr, data1.a = some a75 ∧ 0 ≤ i72 ∧ i72 < (data1.len : Int) ∧
   LdL w74 (a75.add (i72.toNat * 2)) 0 [.i .i64, .i .i64] fun (t76 : Int) (t77 : Int) =>
   ∃ a78 : Addr, data1.a = some a78 ∧ 0 ≤ IntKind.i64.wrap (i72 - (1 : Int)) ∧ IntKind.i64.wrap (i72 - (1 : Int)) < (data1.len : Int) ∧
   LdL w74 (a78.add ((IntKind.i64.wrap (i72 - (1 : Int))).toNat * 2)) 0 [.i .i64, .i .i64] fun (t79 : Int) (t80 : Int) =>
   (CallV Try.prog (cmp4) [.agg #[.int .i64 t76, .int .i64 t77], .agg #[.int .i64 t79, .int .i64 t80]] w74 fun enw82 w82 => ∃ r81 : Int, enw82 = .returned (.int .i64 r81) ∧
   bif !(decide (r81 < (0 : Int))) then
    (l71 (IntKind.i64.wrap (i72 + (1 : Int))) w82)
   else
    (k9 i72 w82)) ∧
   True)
   else
    ((k9 i72 w74) ∧
   True)) → l71 i72 w73) →
   l71 i6 w8))
   else
    (K false w8)) → l5 i6 j7 w8) →
   l5 (IntKind.i64.wrap (a2 + (1 : Int))) (0 : Int) w
set_option maxRecDepth 100000 in
theorem S.slices_partialInsertionSortCmpFunc_api_Slot_ok (data1 : Sl) (a2 : Int) (b3 : Int) (cmp4 : Value) (K : Bool → World → Prop) (w : World) (h : S.slices_partialInsertionSortCmpFunc_api_Slot data1 a2 b3 cmp4 K w) : C.slices_partialInsertionSortCmpFunc_api_Slot data1 a2 b3 cmp4 K w := by
  have e : fnV Try.prog Try.f94 (bodyOf Try.f94) (.t none (.u) (.t none (.u) (.t none (.t none (.u) (.t none (.t (some [(9, .c (.i .i64)), (10, .c (.i .i64))]) (.t none (.t none (.u) (.t none (.u) (.u))) (.t none (.t none (.t none (.t (some [(9, .c (.i .i64))]) (.t (some [(9, .c (.i .i64))]) (.t none (.t none (.r none (.one 0 2 (.one 1 0 (.one 2 0 (.one 3 0 (.one 4 16352 (.one 5 15936 (.one 6 15872 (.one 7 15872 (.one 8 15872 (.one 9 3072 (.one 10 0 (.one 11 0 (.one 12 0 (.one 13 0 (.alt 14 (.one 15 0 (.one 16 0 (.one 17 0 (.done)))) (.none))))))))))))))))) (.t none (.u) (.u))) (.t none (.u) (.u))) (.u)) (.u)) (.t none (.t none (.u) (.t none (.t none (.u) (.u)) (.u))) (.t none (.t none (.u) (.t none (.t none (.u) (.u)) (.u))) (.t none (.r none (.one 0 16382 (.one 1 16380 (.one 2 65528 (.one 3 65504 (.one 4 65504 (.one 5 15552 (.one 6 15360 (.one 7 15360 (.one 8 15360 (.one 9 15360 (.one 10 2048 (.one 11 0 (.one 12 0 (.one 13 0 (.one 14 0 (.alt 15 (.one 16 0 (.alt 17 (.done) (.none))) (.none)))))))))))))))))) (.t none (.t none (.u) (.t (some []) (.t none (.u) (.t none (.t (some [(11, .c (.i .i64))]) (.t none (.t none (.u) (.t none (.u) (.u))) (.t none (.t none (.t none (.t none (.r none (.one 0 1022 (.one 1 996 (.one 2 992 (.one 3 992 (.one 4 992 (.one 5 192 (.one 6 0 (.one 7 0 (.one 8 0 (.one 9 0 (.alt 10 (.one 11 0 (.one 12 0 (.done))) (.none))))))))))))) (.t none (.u) (.u))) (.r none (.one 0 16382 (.one 1 16380 (.one 2 65528 (.one 3 65504 (.one 4 65504 (.one 5 15552 (.one 6 15360 (.one 7 15360 (.one 8 15360 (.one 9 15360 (.one 10 2048 (.one 11 0 (.one 12 0 (.one 13 0 (.one 14 0 (.alt 15 (.one 16 0 (.alt 17 (.done) (.none))) (.none))))))))))))))))))) (.u)) (.u))) (.u)) (.u))) (.u))) (.t none (.u) (.t none (.t none (.u) (.t none (.t (some [(12, .c (.i .i64))]) (.t none (.t none (.u) (.t none (.u) (.u))) (.t none (.t none (.t none (.t none (.r none (.one 0 1022 (.one 1 996 (.one 2 992 (.one 3 992 (.one 4 992 (.one 5 192 (.one 6 0 (.one 7 0 (.one 8 0 (.one 9 0 (.alt 10 (.one 11 0 (.one 12 0 (.done))) (.none))))))))))))) (.t none (.u) (.u))) (.r none (.one 0 16382 (.one 1 16380 (.one 2 65528 (.one 3 65504 (.one 4 65504 (.one 5 15552 (.one 6 15360 (.one 7 15360 (.one 8 15360 (.one 9 15360 (.one 10 2048 (.one 11 0 (.one 12 0 (.one 13 0 (.one 14 0 (.alt 15 (.one 16 0 (.alt 17 (.done) (.none))) (.none))))))))))))))))))) (.u)) (.u))) (.u)) (.u))) (.u)))))))) (.u)) (.u))) (.u)) (.u))) (.t none (.u) (.u))))) [(0, .c (.b))] [.slice data1.a data1.len data1.cap, .int .i64 a2, .int .i64 b3, cmp4] K w = S.slices_partialInsertionSortCmpFunc_api_Slot data1 a2 b3 cmp4 K w := by kernel_rfl
  exact okF_mk Try.func94 rfl (fn_sound names_ok follows_ok Try.func94 rfl (by kernel_rfl) (Eq.mpr e h))

/-- slices.partitionEqualCmpFunc[buttress/api.Slot] -/
def S.slices_partitionEqualCmpFunc_api_Slot (data1 : Sl) (a2 : Int) (b3 : Int) (pivot4 : Int) (cmp5 : Value) (K : Int → World → Prop) (w : World) : Prop :=
  Dr w fun w6 =>
   ∃ a7 : Addr, data1.a = some a7 ∧ 0 ≤ pivot4 ∧ pivot4 < (data1.len : Int) ∧
   LdL w6 (a7.add (pivot4.toNat * 2)) 0 [.i .i64, .i .i64] fun (t8 : Int) (t9 : Int) =>
   ∃ a10 : Addr, data1.a = some a10 ∧ 0 ≤ a2 ∧ a2 < (data1.len : Int) ∧
   LdL w6 (a10.add (a2.toNat * 2)) 0 [.i .i64, .i .i64] fun (t11 : Int) (t12 : Int) =>
   ∃ a13 : Addr, data1.a = some a13 ∧ 0 ≤ a2 ∧ a2 < (data1.len : Int) ∧
   (StL w6 (a13.add (a2.toNat * 2)) 0 [.int .i64 t8, .int .i64 t9] fun w14 =>
   ∃ a15 : Addr, data1.a = some a15 ∧ 0 ≤ pivot4 ∧ pivot4 < (data1.len : Int) ∧
   (StL w14 (a15.add (pivot4.toNat * 2)) 0 [.int .i64 t11, .int .i64 t12] fun w16 =>
   ∀ l17 : Int → Int → World → Prop,
   (∀ (i18 : Int) (j19 : Int) (w20 : World), (∀ k21 : Int → World → Prop,
   (∀ (i22 : Int) (w23 : World), (∀ k24 : Int → World → Prop,
   (∀ (j25 : Int) (w26 : World), (bif decide (i22 > j25) then
    (K i22 w26)
   else
    (Dr w26 fun w27 =>
   ∃ a28 : Addr, data1.a = some a28 ∧ 0 ≤ j25 ∧ j25 < (data1.len : Int) ∧
   LdL w27 (a28.add (j25.toNat * 2)) 0 [.i .i64, .i .i64] fun (t29 : Int) (t30 : Int) =>
   ∃ a31 : Addr, data1.a = some a31 ∧ 0 ≤ i22 ∧ i22 < (data1.len : Int) ∧
   LdL w27 (a31.add (i22.toNat * 2)) 0 [.i .i64, .i .i64] fun (t32 : Int) (t33 : Int) =>
   ∃ a34 : Addr, data1.a = some a34 ∧ 0 ≤ i22 ∧ i22 < (data1.len : Int) ∧
   (StL w27 (a34.add (i22.toNat * 2)) 0 [.int .i64 t29, .int .i64 t30] fun w35 =>
   ∃ a36 : Addr, data1.a = some a36 ∧ 0 ≤ j25 ∧ j25 < (data1.len : Int) ∧
   (StL w35 (a36.add (j25.toNat * 2)) 0 [.int .i64 t32, .int .i64 t33] fun w37 =>
   l17 (IntKind.i64.wrap (i22 + (1 : Int))) (IntKind.i64.wrap (j25 - (1 : Int))) w37) ∧
   True) ∧
   True)) → k24 j25 w26) →
   (∀ l38 : Int → World → Prop,
   (∀ (j39 : Int) (w40 : World), (Dr w40 fun w41 =>
   bif decide (i22 ≤ j39) then
    (∃ a42 : Addr, data1.a = some a42 ∧ 0 ≤ a2 ∧ a2 < (data1.len : Int) ∧
   LdL w41 (a42.add (a2.toNat * 2)) 0 [.i .i64, .i .i64] fun (t43 : Int) (t44 : Int) =>
   ∃ a45 : Addr, data1.a = some a45 ∧ 0 ≤ j39 ∧ j39 < (data1.len : Int) ∧
   LdL w41 (a45.add (j39.toNat * 2)) 0 [.i .i64, .i .i64] fun (t46 : Int) (t47 : Int) =>
   (CallV Try.prog (cmp5) [.agg #[.int .i64 t43, .int .i64 t44], .agg #[.int .i64 t46, .int .i64 t47]] w41 fun enw49 w49 => ∃ r48 : Int, enw49 = .returned (.int .i64 r48) ∧
   bif decide (r48 < (0 : Int)) then
    (l38 (IntKind.i64.wrap (j39 - (1 : Int))) w49)
   else
    (k24 j39 w49)) ∧
   True)
   else
    ((k24 j39 w41) ∧
   True)) → l38 j39 w40) →
   l38 j19 w23)) → k21 i22 w23) →
   (∀ l50 : Int → World → Prop,
   (∀ (i51 : Int) (w52 : World), (Dr w52 fun w53 =>
   bif decide (i51 ≤ j19) then
    (∃ a54 : Addr, data1.a = some a54 ∧ 0 ≤ a2 ∧ a2 < (data1.len : Int) ∧
   LdL w53 (a54.add (a2.toNat * 2)) 0 [.i .i64, .i .i64] fun (t55 : Int) (t56 : Int) =>
   ∃ a57 : Addr, data1.a = some a57 ∧ 0 ≤ i51 ∧ i51 < (data1.len : Int) ∧
   LdL w53 (a57.add (i51.toNat * 2)) 0 [.i .i64, .i .i64] fun (t58 : Int) (t59 : Int) =>
   (CallV Try.prog (cmp5) [.agg #[.int .i64 t55, .int .i64 t56], .agg #[.int .i64 t58, .int .i64 t59]] w53 fun enw61 w61 => ∃ r60 : Int, enw61 = .returned (.int .i64 r60) ∧
   bif !(decide (r60 < (0 : Int))) then
    (l50 (IntKind.i64.wrap (i51 + (1 : Int))) w61)
   else
    (k21 i51 w61)) ∧
   True)
   else
    ((k21 i51 w53) ∧
   True)) → l50 i51 w52) →
   l50 i18 w20)) → l17 i18 j19 w20) →
   l17 (IntKind.i64.wrap (a2 + (1 : Int))) (IntKind.i64.wrap (b3 - (1 : Int))) w16) ∧
   True) ∧
   True
set_option maxRecDepth 100000 in
theorem S.slices_partitionEqualCmpFunc_api_Slot_ok (data1 : Sl) (a2 : Int) (b3 : Int) (pivot4 : Int) (cmp5 : Value) (K : Int → World → Prop) (w : World) (h : S.slices_partitionEqualCmpFunc_api_Slot data1 a2 b3 pivot4 cmp5 K w) : C.slices_partitionEqualCmpFunc_api_Slot data1 a2 b3 pivot4 cmp5 K w := by
  have e : fnV Try.prog Try.f95 (bodyOf Try.f95) (.t none (.u) (.t none (.r none (.one 0 4094 (.one 1 4092 (.one 2 16376 (.one 3 16368 (.one 4 3872 (.one 5 3840 (.one 6 3840 (.one 7 3840 (.one 8 512 (.one 9 0 (.one 10 0 (.one 11 0 (.one 12 0 (.alt 13 (.one 14 0 (.alt 15 (.done) (.none))) (.none)))))))))))))))) (.t none (.u) (.t none (.t none (.t (some [(11, .c (.i .i64)), (12, .c (.i .i64))]) (.t none (.t none (.t (some [(11, .c (.i .i64))]) (.t (some [(11, .c (.i .i64))]) (.t none (.t none (.r none (.one 0 2 (.one 1 0 (.one 2 0 (.one 3 0 (.one 4 8160 (.one 5 7744 (.one 6 7680 (.one 7 7680 (.one 8 7680 (.one 9 1024 (.one 10 0 (.one 11 0 (.one 12 0 (.alt 13 (.one 14 0 (.one 15 0 (.one 16 0 (.done)))) (.none)))))))))))))))) (.t none (.u) (.u))) (.t none (.u) (.u))) (.u)) (.u)) (.t none (.t (some [(12, .c (.i .i64))]) (.t (some [(12, .c (.i .i64))]) (.t none (.t none (.r none (.one 0 2 (.one 1 0 (.one 2 0 (.one 3 0 (.one 4 8160 (.one 5 7744 (.one 6 7680 (.one 7 7680 (.one 8 7680 (.one 9 1024 (.one 10 0 (.one 11 0 (.one 12 0 (.alt 13 (.one 14 0 (.one 15 0 (.done))) (.none)))))))))))))))) (.t none (.u) (.u))) (.t none (.u) (.u))) (.u)) (.u)) (.t none (.t none (.u) (.t none (.u) (.u))) (.t none (.r none (.one 0 4094 (.one 1 4092 (.one 2 16376 (.one 3 16368 (.one 4 3872 (.one 5 3840 (.one 6 3840 (.one 7 3840 (.one 8 512 (.one 9 0 (.one 10 0 (.one 11 0 (.one 12 0 (.alt 13 (.one 14 0 (.alt 15 (.done) (.none))) (.none)))))))))))))))) (.t none (.u) (.u)))))) (.u)) (.u)) (.u)) (.t none (.u) (.u)))))) [(0, .c (.i .i64))] [.slice data1.a data1.len data1.cap, .int .i64 a2, .int .i64 b3, .int .i64 pivot4, cmp5] K w = S.slices_partitionEqualCmpFunc_api_Slot data1 a2 b3 pivot4 cmp5 K w := by kernel_rfl
  exact okF_mk Try.func95 rfl (fn_sound names_ok follows_ok Try.func95 rfl (by kernel_rfl) (Eq.mpr e h))

/-- slices.partitionCmpFunc[buttress/api.Slot] -/
def S.slices_partitionCmpFunc_api_Slot (data1 : Sl) (a2 : Int) (b3 : Int) (pivot4 : Int) (cmp5 : Value) (K : Int → Bool → World → Prop) (w : World) : Prop :=
  Dr w fun w6 =>
   ∃ a7 : Addr, data1.a = some a7 ∧ 0 ≤ pivot4 ∧ pivot4 < (data1.len : Int) ∧
   LdL w6 (a7.add (pivot4.toNat * 2)) 0 [.i .i64, .i .i64] fun (t8 : Int) (t9 : Int) =>
   ∃ a10 : Addr, data1.a = some a10 ∧ 0 ≤ a2 ∧ a2 < (data1.len : Int) ∧
   LdL w6 (a10.add (a2.toNat * 2)) 0 [.i .i64, .i .i64] fun (t11 : Int) (t12 : Int) =>
   ∃ a13 : Addr, data1.a = some a13 ∧ 0 ≤ a2 ∧ a2 < (data1.len : Int) ∧
   (StL w6 (a13.add (a2.toNat * 2)) 0 [.int .i64 t8, .int .i64 t9] fun w14 =>
   ∃ a15 : Addr, data1.a = some a15 ∧ 0 ≤ pivot4 ∧ pivot4 < (data1.len : Int) ∧
   (StL w14 (a15.add (pivot4.toNat * 2)) 0 [.int .i64 t11, .int .i64 t12] fun w16 =>
   ∀ k17 : Int → World → Prop,
   (∀ (i18 : Int) (w19 : World), (∀ k20 : Int → World → Prop,
   (∀ (j21 : Int) (w22 : World), (bif decide (i18 > j21) then
    (Dr w22 fun w23 =>
   ∃ a24 : Addr, data1.a = some a24 ∧ 0 ≤ a2 ∧ a2 < (data1.len : Int) ∧
   LdL w23 (a24.add (a2.toNat * 2)) 0 [.i .i64, .i .i64] fun (t25 : Int) (t26 : Int) =>
   ∃ a27 : Addr, data1.a = some a27 ∧ 0 ≤ j21 ∧ j21 < (data1.len : Int) ∧
   LdL w23 (a27.add (j21.toNat * 2)) 0 [.i .i64, .i .i64] fun (t28 : Int) (t29 : Int) =>
   ∃ a30 : Addr, data1.a = some a30 ∧ 0 ≤ j21 ∧ j21 < (data1.len : Int) ∧
   (StL w23 (a30.add (j21.toNat * 2)) 0 [.int .i64 t25, .int .i64 t26] fun w31 =>
   ∃ a32 : Addr, data1.a = some a32 ∧ 0 ≤ a2 ∧ a2 < (data1.len : Int) ∧
   (StL w31 (a32.add (a2.toNat * 2)) 0 [.int .i64 t28, .int .i64 t29] fun w33 =>
   K j21 true w33) ∧
   True) ∧
   True)
   else
    (Dr w22 fun w34 =>
   ∃ a35 : Addr, data1.a = some a35 ∧ 0 ≤ j21 ∧ j21 < (data1.len : Int) ∧
   LdL w34 (a35.add (j21.toNat * 2)) 0 [.i .i64, .i .i64] fun (t36 : Int) (t37 : Int) =>
   ∃ a38 : Addr, data1.a = some a38 ∧ 0 ≤ i18 ∧ i18 < (data1.len : Int) ∧
   LdL w34 (a38.add (i18.toNat * 2)) 0 [.i .i64, .i .i64] fun (t39 : Int) (t40 : Int) =>
   ∃ a41 : Addr, data1.a = some a41 ∧ 0 ≤ i18 ∧ i18 < (data1.len : Int) ∧
   (StL w34 (a41.add (i18.toNat * 2)) 0 [.int .i64 t36, .int .i64 t37] fun w42 =>
   ∃ a43 : Addr, data1.a = some a43 ∧ 0 ≤ j21 ∧ j21 < (data1.len : Int) ∧
   (StL w42 (a43.add (j21.toNat * 2)) 0 [.int .i64 t39, .int .i64 t40] fun w44 =>
   ∀ l45 : Int → Int → World → Prop,
   (∀ (i46 : Int) (j47 : Int) (w48 : World), (∀ k49 : Int → World → Prop,
   (∀ (i50 : Int) (w51 : World), (∀ k52 : Int → World → Prop,
   (∀ (j53 : Int) (w54 : World), (bif decide (i50 > j53) then
    (Dr w54 fun w55 =>
   ∃ a56 : Addr, data1.a = some a56 ∧ 0 ≤ a2 ∧ a2 < (data1.len : Int) ∧
   LdL w55 (a56.add (a2.toNat * 2)) 0 [.i .i64, .i .i64] fun (t57 : Int) (t58 : Int) =>
   ∃ a59 : Addr, data1.a = some a59 ∧ 0 ≤ j53 ∧ j53 < (data1.len : Int) ∧
   LdL w55 (a59.add (j53.toNat * 2)) 0 [.i .i64, .i .i64] fun (t60 : Int) (t61 : Int) =>
   ∃ a62 : Addr, data1.a = some a62 ∧ 0 ≤ j53 ∧ j53 < (data1.len : Int) ∧
   (StL w55 (a62.add (j53.toNat * 2)) 0 [.int .i64 t57, .int .i64 t58] fun w63 =>
   ∃ a64 : Addr, data1.a = some a64 ∧ 0 ≤ a2 ∧ a2 < (data1.len : Int) ∧
   (StL w63 (a64.add (a2.toNat * 2)) 0 [.int .i64 t60, .int .i64 t61] fun w65 =>
   K j53 false w65) ∧
   True) ∧
   True)
   else
    (Dr w54 fun w66 =>
   ∃ a67 : Addr, data1.a = some a67 ∧ 0 ≤ j53 ∧ j53 < (data1.len : Int) ∧
   LdL w66 (a67.add (j53.toNat * 2)) 0 [.i .i64, .i .i64] fun (t68 : Int) (t69 : Int) =>
   ∃ a70 : Addr, data1.a = some a70 ∧ 0 ≤ i50 ∧ i50 < (data1.len : Int) ∧
   LdL w66 (a70.add (i50.toNat * 2)) 0 [.i .i64, .i .i64] fun (t71 : Int) (t72 : Int) =>
   ∃ a73 : Addr, data1.a = some a73 ∧ 0 ≤ i50 ∧ i50 < (data1.len : Int) ∧
   (StL w66 (a73.add (i50.toNat * 2)) 0 [.int .i64 t68, .int .i64 t69] fun w74 =>
   ∃ a75 : Addr, data1.a = some a75 ∧ 0 ≤ j53 ∧ j53 < (data1.len : Int) ∧
   (StL w74 (a75.add (j53.toNat * 2)) 0 [.int .i64 t71, .int .i64 t72] fun w76 =>
   l45 (IntKind.i64.wrap (i50 + (1 : Int))) (IntKind.i64.wrap (j53 - (1 : Int))) w76) ∧
   True) ∧
   True)) → k52 j53 w54) →
   (∀ l77 : Int → World → Prop,
   (∀ (j78 : Int) (w79 : World), (Dr w79 fun w80 =>
   bif decide (i50 ≤ j78) then
    (∃ a81 : Addr, data1.a = some a81 ∧ 0 ≤ j78 ∧ j78 < (data1.len : Int) ∧
   LdL w80 (a81.add (j78.toNat * 2)) 0 [.i .i64, .i .i64] fun (t82 : Int) (t83 : Int) =>
   ∃ a84 : Addr, data1.a = some a84 ∧ 0 ≤ a2 ∧ a2 < (data1.len : Int) ∧
   LdL w80 (a84.add (a2.toNat * 2)) 0 [.i .i64, .i .i64] fun (t85 : Int) (t86 : Int) =>
   (CallV Try.prog (cmp5) [.agg #[.int .i64 t82, .int .i64 t83], .agg #[.int .i64 t85, .int .i64 t86]] w80 fun enw88 w88 => ∃ r87 : Int, enw88 = .returned (.int .i64 r87) ∧
   bif !(decide (r87 < (0 : Int))) then
    (l77 (IntKind.i64.wrap (j78 - (1 : Int))) w88)
   else
    (k52 j78 w88)) ∧
   True)
   else
    ((k52 j78 w80) ∧
   True)) → l77 j78 w79) →
   l77 j47 w51)) → k49 i50 w51) →
   (∀ l89 : Int → World → Prop,
   (∀ (i90 : Int) (w91 : World), (Dr w91 fun w92 =>
   bif decide (i90 ≤ j47) then
    (∃ a93 : Addr, data1.a = some a93 ∧ 0 ≤ i90 ∧ i90 < (data1.len : Int) ∧
   LdL w92 (a93.add (i90.toNat * 2)) 0 [.i .i64, .i .i64] fun (t94 : Int) (t95 : Int) =>
   ∃ a96 : Addr, data1.a = some a96 ∧ 0 ≤ a2 ∧ a2 < (data1.len : Int) ∧
   LdL w92 (a96.add (a2.toNat * 2)) 0 [.i .i64, .i .i64] fun (t97 : Int) (t98 : Int) =>
   (CallV Try.prog (cmp5) [.agg #[.int .i64 t94, .int .i64 t95], .agg #[.int .i64 t97, .int .i64 t98]] w92 fun enw100 w100 => ∃ r99 : Int, enw100 = .returned (.int .i64 r99) ∧
   bif decide (r99 < (0 : Int)) then
    (l89 (IntKind.i64.wrap (i90 + (1 : Int))) w100)
   else
    (k49 i90 w100)) ∧
   True)
   else
    ((k49 i90 w92) ∧
   True)) → l89 i90 w91) →
   l89 i46 w48)) → l45 i46 j47 w48) →
   l45 (IntKind.i64.wrap (i18 + (1 : Int))) (IntKind.i64.wrap (j21 - (1 : Int))) w44) ∧
   True) ∧
   True)) → k20 j21 w22) →
   (∀ l101 : Int → World → Prop,
   (∀ (j102 : Int) (w103 : World), (Dr w103 fun w104 =>
   bif decide (i18 ≤ j102) then
    (∃ a105 : Addr, data1.a = some a105 ∧ 0 ≤ j102 ∧ j102 < (data1.len : Int) ∧
   LdL w104 (a105.add (j102.toNat * 2)) 0 [.i .i64, .i .i64] fun (t106 : Int) (t107 : Int) =>
   ∃ a108 : Addr, data1.a = some a108 ∧ 0 ≤ a2 ∧ a2 < (data1.len : Int) ∧
   LdL w104 (a108.add (a2.toNat * 2)) 0 [.i .i64, .i .i64] fun (t109 : Int) (t110 : Int) =>
   (CallV Try.prog (cmp5) [.agg #[.int .i64 t106, .int .i64 t107], .agg #[.int .i64 t109, .int .i64 t110]] w104 fun enw112 w112 => ∃ r111 : Int, enw112 = .returned (.int .i64 r111) ∧
   bif !(decide (r111 < (0 : Int))) then
    (l101 (IntKind.i64.wrap (j102 - (1 : Int))) w112)
   else
    (k20 j102 w112)) ∧
   True)
   else
    ((k20 j102 w104) ∧
   True)) → l101 j102 w103) →
   l101 (IntKind.i64.wrap (b3 - (1 : Int))) w19)) → k17 i18 w19) →
   (∀ l113 : Int → World → Prop,
   (∀ (i114 : Int) (w115 : World), (Dr w115 fun w116 =>
   bif decide (i114 ≤ (IntKind.i64.wrap (b3 - (1 : Int)))) then
    (∃ a117 : Addr, data1.a = some a117 ∧ 0 ≤ i114 ∧ i114 < (data1.len : Int) ∧
   LdL w116 (a117.add (i114.toNat * 2)) 0 [.i .i64, .i .i64] fun (t118 : Int) (t119 : Int) =>
   ∃ a120 : Addr, data1.a = some a120 ∧ 0 ≤ a2 ∧ a2 < (data1.len : Int) ∧
   LdL w116 (a120.add (a2.toNat * 2)) 0 [.i .i64, .i .i64] fun (t121 : Int) (t122 : Int) =>
   (CallV Try.prog (cmp5) [.agg #[.int .i64 t118, .int .i64 t119], .agg #[.int .i64 t121, .int .i64 t122]] w116 fun enw124 w124 => ∃ r123 : Int, enw124 = .returned (.int .i64 r123) ∧
   bif decide (r123 < (0 : Int)) then
    (l113 (IntKind.i64.wrap (i114 + (1 : Int))) w124)
   else
    (k17 i114 w124)) ∧
   True)
   else
    ((k17 i114 w116) ∧
   True)) → l113 i114 w115) →
   l113 (IntKind.i64.wrap (a2 + (1 : Int))) w16)) ∧
   True) ∧
   True
set_option maxRecDepth 100000 in
theorem S.slices_partitionCmpFunc_api_Slot_ok (data1 : Sl) (a2 : Int) (b3 : Int) (pivot4 : Int) (cmp5 : Value) (K : Int → Bool → World → Prop) (w : World) (h : S.slices_partitionCmpFunc_api_Slot data1 a2 b3 pivot4 cmp5 K w) : C.slices_partitionCmpFunc_api_Slot data1 a2 b3 pivot4 cmp5 K w := by
  have e : fnV Try.prog Try.f96 (bodyOf Try.f96) (.t none (.u) (.t none (.r none (.one 0 4094 (.one 1 4092 (.one 2 16376 (.one 3 16368 (.one 4 3872 (.one 5 3840 (.one 6 3840 (.one 7 3840 (.one 8 512 (.one 9 0 (.one 10 0 (.one 11 0 (.one 12 0 (.alt 13 (.one 14 0 (.alt 15 (.done) (.none))) (.none)))))))))))))))) (.t none (.u) (.t none (.t (some [(12, .c (.i .i64))]) (.t (some [(12, .c (.i .i64))]) (.t none (.t none (.r none (.one 0 2 (.one 1 0 (.one 2 0 (.one 3 0 (.one 4 8160 (.one 5 7744 (.one 6 7680 (.one 7 7680 (.one 8 7680 (.one 9 1024 (.one 10 0 (.one 11 0 (.one 12 0 (.alt 13 (.one 14 0 (.one 15 0 (.done))) (.none)))))))))))))))) (.t none (.u) (.u))) (.t none (.u) (.u))) (.u)) (.u)) (.t none (.t (some [(13, .c (.i .i64))]) (.t (some [(13, .c (.i .i64))]) (.t none (.t none (.r none (.one 0 2 (.one 1 0 (.one 2 0 (.one 3 0 (.one 4 8160 (.one 5 7744 (.one 6 7680 (.one 7 7680 (.one 8 7680 (.one 9 1024 (.one 10 0 (.one 11 0 (.one 12 0 (.alt 13 (.one 14 0 (.one 15 0 (.one 16 0 (.done)))) (.none)))))))))))))))) (.t none (.u) (.u))) (.t none (.u) (.u))) (.u)) (.u)) (.t none (.t none (.u) (.t none (.t none (.r none (.one 0 4094 (.one 1 4092 (.one 2 16376 (.one 3 16368 (.one 4 3872 (.one 5 3840 (.one 6 3840 (.one 7 3840 (.one 8 512 (.one 9 0 (.one 10 0 (.one 11 0 (.one 12 0 (.alt 13 (.one 14 0 (.alt 15 (.done) (.none))) (.none)))))))))))))))) (.t none (.u) (.u))) (.u))) (.t none (.r none (.one 0 4094 (.one 1 4092 (.one 2 16376 (.one 3 16368 (.one 4 3872 (.one 5 3840 (.one 6 3840 (.one 7 3840 (.one 8 512 (.one 9 0 (.one 10 0 (.one 11 0 (.one 12 0 (.alt 13 (.one 14 0 (.alt 15 (.done) (.none))) (.none)))))))))))))))) (.t none (.u) (.t none (.u) (.t none (.t none (.t (some [(12, .c (.i .i64)), (13, .c (.i .i64))]) (.t none (.t none (.t (some [(12, .c (.i .i64))]) (.t (some [(12, .c (.i .i64))]) (.t none (.t none (.r none (.one 0 2 (.one 1 0 (.one 2 0 (.one 3 0 (.one 4 8160 (.one 5 7744 (.one 6 7680 (.one 7 7680 (.one 8 7680 (.one 9 1024 (.one 10 0 (.one 11 0 (.one 12 0 (.alt 13 (.one 14 0 (.one 15 0 (.done))) (.none)))))))))))))))) (.t none (.u) (.u))) (.t none (.u) (.u))) (.u)) (.u)) (.t none (.t (some [(13, .c (.i .i64))]) (.t (some [(13, .c (.i .i64))]) (.t none (.t none (.r none (.one 0 2 (.one 1 0 (.one 2 0 (.one 3 0 (.one 4 8160 (.one 5 7744 (.one 6 7680 (.one 7 7680 (.one 8 7680 (.one 9 1024 (.one 10 0 (.one 11 0 (.one 12 0 (.alt 13 (.one 14 0 (.one 15 0 (.one 16 0 (.done)))) (.none)))))))))))))))) (.t none (.u) (.u))) (.t none (.u) (.u))) (.u)) (.u)) (.t none (.t none (.u) (.t none (.u) (.u))) (.t none (.r none (.one 0 4094 (.one 1 4092 (.one 2 16376 (.one 3 16368 (.one 4 3872 (.one 5 3840 (.one 6 3840 (.one 7 3840 (.one 8 512 (.one 9 0 (.one 10 0 (.one 11 0 (.one 12 0 (.alt 13 (.one 14 0 (.alt 15 (.done) (.none))) (.none)))))))))))))))) (.t none (.u) (.u)))))) (.u)) (.u)) (.u)) (.t none (.r none (.one 0 4094 (.one 1 4092 (.one 2 16376 (.one 3 16368 (.one 4 3872 (.one 5 3840 (.one 6 3840 (.one 7 3840 (.one 8 512 (.one 9 0 (.one 10 0 (.one 11 0 (.one 12 0 (.alt 13 (.one 14 0 (.alt 15 (.done) (.none))) (.none)))))))))))))))) (.t none (.u) (.u))))))))))))) [(0, .c (.i .i64)), (1, .c (.b))] [.slice data1.a data1.len data1.cap, .int .i64 a2, .int .i64 b3, .int .i64 pivot4, cmp5] K w = S.slices_partitionCmpFunc_api_Slot data1 a2 b3 pivot4 cmp5 K w := by kernel_rfl
  exact okF_mk Try.func96 rfl (fn_sound names_ok follows_ok Try.func96 rfl (by kernel_rfl) (Eq.mpr e h))

/-- slices.siftDownCmpFunc[buttress/api.Slot] -/
def S.slices_siftDownCmpFunc_api_Slot (data1 : Sl) (lo2 : Int) (hi3 : Int) (first4 : Int) (cmp5 : Value) (K : World → Prop) (w : World) : Prop :=
  ∀ l6 : Int → World → Prop,
   (∀ (root7 : Int) (w8 : World), (bif decide ((IntKind.i64.wrap ((IntKind.i64.wrap ((2 : Int) * root7)) + (1 : Int))) ≥ hi3) then
    (K w8)
   else
    (∀ k9 : Bool → World → Prop,
   (∀ (t10 : Bool) (w11 : World), (∀ k12 : Int → World → Prop,
   (∀ (child13 : Int) (w14 : World), (Dr w14 fun w15 =>
   ∃ a16 : Addr, data1.a = some a16 ∧ 0 ≤ IntKind.i64.wrap (first4 + root7) ∧ IntKind.i64.wrap (first4 + root7) < (data1.len : Int) ∧
   LdL w15 (a16.add ((IntKind.i64.wrap (first4 + root7)).toNat * 2)) 0 [.i .i64, .i .i64] fun (t17 : Int) (t18 : Int) =>
   ∃ a19 : Addr, data1.a = some a19 ∧ 0 ≤ IntKind.i64.wrap (first4 + child13) ∧ IntKind.i64.wrap (first4 + child13) < (data1.len : Int) ∧
   LdL w15 (a19.add ((IntKind.i64.wrap (first4 + child13)).toNat * 2)) 0 [.i .i64, .i .i64] fun (t20 : Int) (t21 : Int) =>
   (CallV Try.prog (cmp5) [.agg #[.int .i64 t17, .int .i64 t18], .agg #[.int .i64 t20, .int .i64 t21]] w15 fun enw23 w23 => ∃ r22 : Int, enw23 = .returned (.int .i64 r22) ∧
   bif !(decide (r22 < (0 : Int))) then
    (K w23)
   else
    (Dr w23 fun w24 =>
   ∃ a25 : Addr, data1.a = some a25 ∧ 0 ≤ IntKind.i64.wrap (first4 + child13) ∧ IntKind.i64.wrap (first4 + child13) < (data1.len : Int) ∧
   LdL w24 (a25.add ((IntKind.i64.wrap (first4 + child13)).toNat * 2)) 0 [.i .i64, .i .i64] fun (t26 : Int) (t27 : Int) =>
   ∃ a28 : Addr, data1.a = some a28 ∧ 0 ≤ IntKind.i64.wrap (first4 + root7) ∧ IntKind.i64.wrap (first4 + root7) < (data1.len : Int) ∧
   LdL w24 (a28.add ((IntKind.i64.wrap (first4 + root7)).toNat * 2)) 0 [.i .i64, .i .i64] fun (t29 : Int) (t30 : Int) =>
   ∃ a31 : Addr, data1.a = some a31 ∧ 0 ≤ IntKind.i64.wrap (first4 + root7) ∧ IntKind.i64.wrap (first4 + root7) < (data1.len : Int) ∧
   (StL w24 (a31.add ((IntKind.i64.wrap (first4 + root7)).toNat * 2)) 0 [.int .i64 t26, .int .i64 t27] fun w32 =>
   ∃ a33 : Addr, data1.a = some a33 ∧ 0 ≤ IntKind.i64.wrap (first4 + child13) ∧ IntKind.i64.wrap (first4 + child13) < (data1.len : Int) ∧
   (StL w32 (a33.add ((IntKind.i64.wrap (first4 + child13)).toNat * 2)) 0 [.int .i64 t29, .int .i64 t30] fun w34 =>
   l6 child13 w34) ∧
   True) ∧
   True)) ∧
   True) → k12 child13 w14) →
   (bif t10 then
    (k12 (IntKind.i64.wrap ((IntKind.i64.wrap ((IntKind.i64.wrap ((2 : Int) * root7)) + (1 : Int))) + (1 : Int))) w11)
   else
    (k12 (IntKind.i64.wrap ((IntKind.i64.wrap ((2 : Int) * root7)) + (1 : Int))) w11))) → k9 t10 w11) →
   (Dr w8 fun w35 =>
   bif decide ((IntKind.i64.wrap ((IntKind.i64.wrap ((IntKind.i64.wrap ((2 : Int) * root7)) + (1 : Int))) + (1 : Int))) < hi3) then
    (∃ a36 : Addr, data1.a = some a36 ∧ 0 ≤ IntKind.i64.wrap (first4 + (IntKind.i64.wrap ((IntKind.i64.wrap ((2 : Int) * root7)) + (1 : Int)))) ∧ IntKind.i64.wrap (first4 + (IntKind.i64.wrap ((IntKind.i64.wrap ((2 : Int) * root7)) + (1 : Int)))) < (data1.len : Int) ∧
   LdL w35 (a36.add ((IntKind.i64.wrap (first4 + (IntKind.i64.wrap ((IntKind.i64.wrap ((2 : Int) * root7)) + (1 : Int))))).toNat * 2)) 0 [.i .i64, .i .i64] fun (t37 : Int) (t38 : Int) =>
   ∃ a39 : Addr, data1.a = some a39 ∧ 0 ≤ IntKind.i64.wrap ((IntKind.i64.wrap (first4 + (IntKind.i64.wrap ((IntKind.i64.wrap ((2 : Int) * root7)) + (1 : Int))))) + (1 : Int)) ∧ IntKind.i64.wrap ((IntKind.i64.wrap (first4 + (IntKind.i64.wrap ((IntKind.i64.wrap ((2 : Int) * root7)) + (1 : Int))))) + (1 : Int)) < (data1.len : Int) ∧
   LdL w35 (a39.add ((IntKind.i64.wrap ((IntKind.i64.wrap (first4 + (IntKind.i64.wrap ((IntKind.i64.wrap ((2 : Int) * root7)) + (1 : Int))))) + (1 : Int))).toNat * 2)) 0 [.i .i64, .i .i64] fun (t40 : Int) (t41 : Int) =>
   (CallV Try.prog (cmp5) [.agg #[.int .i64 t37, .int .i64 t38], .agg #[.int .i64 t40, .int .i64 t41]] w35 fun enw43 w43 => ∃ r42 : Int, enw43 = .returned (.int .i64 r42) ∧
   k9 (decide (r42 < (0 : Int))) w43) ∧
   True)
   else
    ((k9 false w35) ∧
   True)))) → l6 root7 w8) →
   l6 lo2 w
set_option maxRecDepth 100000 in
theorem S.slices_siftDownCmpFunc_api_Slot_ok (data1 : Sl) (lo2 : Int) (hi3 : Int) (first4 : Int) (cmp5 : Value) (K : World → Prop) (w : World) (h : S.slices_siftDownCmpFunc_api_Slot data1 lo2 hi3 first4 cmp5 K w) : C.slices_siftDownCmpFunc_api_Slot data1 lo2 hi3 first4 cmp5 K w := by
  have e : fnV Try.prog Try.f99 (bodyOf Try.f99) (.t none (.u) (.t none (.t (some [(10, .c (.i .i64))]) (.t none (.t none (.u) (.t none (.t none (.u) (.t none (.u) (.u))) (.t none (.t none (.r (some [(40, .c (.b))]) (.one 0 4 (.one 1 4 (.one 2 0 (.one 3 0 (.one 4 0 (.one 5 524224 (.one 6 521088 (.one 7 520448 (.one 8 520192 (.one 9 520192 (.one 10 520192 (.one 11 520192 (.one 12 122880 (.one 13 16384 (.one 14 0 (.one 15 0 (.one 16 0 (.one 17 0 (.one 18 0 (.alt 19 (.one 20 0 (.one 21 0 (.done))) (.none)))))))))))))))))))))) (.t (some [(11, .c (.i .i64))]) (.u) (.u))) (.t none (.t none (.r none (.one 0 8190 (.one 1 8092 (.one 2 8072 (.one 3 8064 (.one 4 8064 (.one 5 8064 (.one 6 8064 (.one 7 1792 (.one 8 512 (.one 9 0 (.one 10 0 (.one 11 0 (.one 12 0 (.alt 13 (.one 14 0 (.one 15 0 (.done))) (.none)))))))))))))))) (.t none (.u) (.u))) (.t none (.r none (.one 0 1048574 (.one 1 1048564 (.one 2 1048560 (.one 3 1048560 (.one 4 4194272 (.one 5 4194112 (.one 6 4194048 (.one 7 4194048 (.one 8 1035776 (.one 9 1033216 (.one 10 1032192 (.one 11 1032192 (.one 12 1032192 (.one 13 1032192 (.one 14 229376 (.one 15 65536 (.one 16 0 (.one 17 0 (.one 18 0 (.one 19 0 (.one 20 0 (.alt 21 (.one 22 0 (.alt 23 (.done) (.none))) (.none)))))))))))))))))))))))) (.u)))))) (.u)) (.u)) (.u))) [] [.slice data1.a data1.len data1.cap, .int .i64 lo2, .int .i64 hi3, .int .i64 first4, cmp5] K w = S.slices_siftDownCmpFunc_api_Slot data1 lo2 hi3 first4 cmp5 K w := by kernel_rfl
  exact okF_mk Try.func99 rfl (fn_sound names_ok follows_ok Try.func99 rfl (by kernel_rfl) (Eq.mpr e h))

/-- slices.nextPowerOfTwo -/
def S.slices_nextPowerOfTwo (length1 : Int) (K : Int → World → Prop) (w : World) : Prop :=
  C.math_bits_Len (IntKind.u64.wrap length1) (fun r2 w3 =>
   0 ≤ r2 ∧
   K (shlI .u64 (1 : Int) r2) w3) w
set_option maxRecDepth 100000 in
theorem S.slices_nextPowerOfTwo_ok (length1 : Int) (K : Int → World → Prop) (w : World) (h : S.slices_nextPowerOfTwo length1 K w) : C.slices_nextPowerOfTwo length1 K w := by
  have e : fnV Try.prog Try.f100 (bodyOf Try.f100) (.t none (.u) (.t none (.u) (.u))) [(0, .c (.i .u64))] [.int .i64 length1] K w = S.slices_nextPowerOfTwo length1 K w := by kernel_rfl
  exact okF_mk Try.func100 rfl (fn_sound names_ok follows_ok Try.func100 rfl (by kernel_rfl) (Eq.mpr e h))

/-- (*slices.xorshift).Next -/
def S.slices_xorshift_Next (r1 : Option Addr) (K : Int → World → Prop) (w : World) : Prop :=
  Dr w fun w2 =>
   ∃ a3 : Addr, r1 = some a3 ∧
   ∃ t4 : Int, w2.cell? a3 = some (.int .u64 t4) ∧
   ∃ a5 : Addr, r1 = some a5 ∧
   ∃ t6 : Int, w2.cell? a5 = some (.int .u64 t6) ∧
   0 ≤ (13 : Int) ∧
   ∃ a7 : Addr, r1 = some a7 ∧
   (St w2 a7 (.int .u64 (xorI .u64 t4 (shlI .u64 t6 (13 : Int)))) fun w8 =>
   Dr w8 fun w9 =>
   ∃ a10 : Addr, r1 = some a10 ∧
   ∃ t11 : Int, w9.cell? a10 = some (.int .u64 t11) ∧
   ∃ a12 : Addr, r1 = some a12 ∧
   ∃ t13 : Int, w9.cell? a12 = some (.int .u64 t13) ∧
   0 ≤ (7 : Int) ∧
   ∃ a14 : Addr, r1 = some a14 ∧
   (St w9 a14 (.int .u64 (xorI .u64 t11 (shrI .u64 t13 (7 : Int)))) fun w15 =>
   Dr w15 fun w16 =>
   ∃ a17 : Addr, r1 = some a17 ∧
   ∃ t18 : Int, w16.cell? a17 = some (.int .u64 t18) ∧
   ∃ a19 : Addr, r1 = some a19 ∧
   ∃ t20 : Int, w16.cell? a19 = some (.int .u64 t20) ∧
   0 ≤ (17 : Int) ∧
   ∃ a21 : Addr, r1 = some a21 ∧
   (St w16 a21 (.int .u64 (xorI .u64 t18 (shlI .u64 t20 (17 : Int)))) fun w22 =>
   ∃ a23 : Addr, r1 = some a23 ∧
   ∃ t24 : Int, w22.cell? a23 = some (.int .u64 t24) ∧
   K t24 w22) ∧
   True) ∧
   True) ∧
   True
set_option maxRecDepth 100000 in
theorem S.slices_xorshift_Next_ok (r1 : Option Addr) (K : Int → World → Prop) (w : World) (h : S.slices_xorshift_Next r1 K w) : C.slices_xorshift_Next r1 K w := by
  have e : fnV Try.prog Try.f101 (bodyOf Try.f101) (.t none (.u) (.t none (.r none (.one 0 120 (.one 1 120 (.one 2 120 (.one 3 0 (.one 4 0 (.one 5 0 (.one 6 0 (.one 7 0 (.one 8 0 (.alt 9 (.done) (.none)))))))))))) (.t none (.r none (.one 0 120 (.one 1 120 (.one 2 120 (.one 3 0 (.one 4 0 (.one 5 0 (.one 6 0 (.one 7 0 (.one 8 0 (.alt 9 (.done) (.none)))))))))))) (.t none (.r none (.one 0 120 (.one 1 120 (.one 2 120 (.one 3 0 (.one 4 0 (.one 5 0 (.one 6 0 (.one 7 0 (.one 8 0 (.alt 9 (.done) (.none)))))))))))) (.t none (.u) (.u)))))) [(0, .c (.i .u64))] [.pointer r1] K w = S.slices_xorshift_Next r1 K w := by kernel_rfl
  exact okF_mk Try.func101 rfl (fn_sound names_ok follows_ok Try.func101 rfl (by kernel_rfl) (Eq.mpr e h))

/-- slices.medianAdjacentCmpFunc[buttress/api.Slot] -/
def S.slices_medianAdjacentCmpFunc_api_Slot (data1 : Sl) (a2 : Int) (swaps3 : Option Addr) (cmp4 : Value) (K : Int → World → Prop) (w : World) : Prop :=
  C.slices_medianCmpFunc_api_Slot data1 (IntKind.i64.wrap (a2 - (1 : Int))) a2 (IntKind.i64.wrap (a2 + (1 : Int))) swaps3 cmp4 (fun r5 w6 =>
   K r5 w6) w
set_option maxRecDepth 100000 in
theorem S.slices_medianAdjacentCmpFunc_api_Slot_ok (data1 : Sl) (a2 : Int) (swaps3 : Option Addr) (cmp4 : Value) (K : Int → World → Prop) (w : World) (h : S.slices_medianAdjacentCmpFunc_api_Slot data1 a2 swaps3 cmp4 K w) : C.slices_medianAdjacentCmpFunc_api_Slot data1 a2 swaps3 cmp4 K w := by
  have e : fnV Try.prog Try.f102 (bodyOf Try.f102) (.t none (.u) (.t none (.u) (.u))) [(0, .c (.i .i64))] [.slice data1.a data1.len data1.cap, .int .i64 a2, .pointer swaps3, cmp4] K w = S.slices_medianAdjacentCmpFunc_api_Slot data1 a2 swaps3 cmp4 K w := by kernel_rfl
  exact okF_mk Try.func102 rfl (fn_sound names_ok follows_ok Try.func102 rfl (by kernel_rfl) (Eq.mpr e h))

/-- slices.medianCmpFunc[buttress/api.Slot] -/
def S.slices_medianCmpFunc_api_Slot (data1 : Sl) (a2 : Int) (b3 : Int) (c4 : Int) (swaps5 : Option Addr) (cmp6 : Value) (K : Int → World → Prop) (w : World) : Prop :=
  C.slices_order2CmpFunc_api_Slot data1 a2 b3 swaps5 cmp6 (fun r7 r8 w9 =>
   C.slices_order2CmpFunc_api_Slot data1 r8 c4 swaps5 cmp6 (fun r10 r11 w12 =>
   C.slices_order2CmpFunc_api_Slot data1 r7 r10 swaps5 cmp6 (fun r13 r14 w15 =>
   K r14 w15) w12) w9) w
set_option maxRecDepth 100000 in
theorem S.slices_medianCmpFunc_api_Slot_ok (data1 : Sl) (a2 : Int) (b3 : Int) (c4 : Int) (swaps5 : Option Addr) (cmp6 : Value) (K : Int → World → Prop) (w : World) (h : S.slices_medianCmpFunc_api_Slot data1 a2 b3 c4 swaps5 cmp6 K w) : C.slices_medianCmpFunc_api_Slot data1 a2 b3 c4 swaps5 cmp6 K w := by
  have e : fnV Try.prog Try.f103 (bodyOf Try.f103) (.t none (.u) (.t none (.u) (.t none (.u) (.t none (.u) (.t none (.u) (.u)))))) [(0, .c (.i .i64))] [.slice data1.a data1.len data1.cap, .int .i64 a2, .int .i64 b3, .int .i64 c4, .pointer swaps5, cmp6] K w = S.slices_medianCmpFunc_api_Slot data1 a2 b3 c4 swaps5 cmp6 K w := by kernel_rfl
  exact okF_mk Try.func103 rfl (fn_sound names_ok follows_ok Try.func103 rfl (by kernel_rfl) (Eq.mpr e h))

/-- slices.order2CmpFunc[buttress/api.Slot] -/
def S.slices_order2CmpFunc_api_Slot (data1 : Sl) (a2 : Int) (b3 : Int) (swaps4 : Option Addr) (cmp5 : Value) (K : Int → Int → World → Prop) (w : World) : Prop :=
  Dr w fun w6 =>
   ∃ a7 : Addr, data1.a = some a7 ∧ 0 ≤ b3 ∧ b3 < (data1.len : Int) ∧
   LdL w6 (a7.add (b3.toNat * 2)) 0 [.i .i64, .i .i64] fun (t8 : Int) (t9 : Int) =>
   ∃ a10 : Addr, data1.a = some a10 ∧ 0 ≤ a2 ∧ a2 < (data1.len : Int) ∧
   LdL w6 (a10.add (a2.toNat * 2)) 0 [.i .i64, .i .i64] fun (t11 : Int) (t12 : Int) =>
   (CallV Try.prog (cmp5) [.agg #[.int .i64 t8, .int .i64 t9], .agg #[.int .i64 t11, .int .i64 t12]] w6 fun enw14 w14 => ∃ r13 : Int, enw14 = .returned (.int .i64 r13) ∧
   bif decide (r13 < (0 : Int)) then
    (∃ a15 : Addr, swaps4 = some a15 ∧
   ∃ t16 : Int, w14.cell? a15 = some (.int .i64 t16) ∧
   ∃ a17 : Addr, swaps4 = some a17 ∧
   St w14 a17 (.int .i64 (IntKind.i64.wrap (t16 + (1 : Int)))) fun w18 =>
   K b3 a2 w18)
   else
    (K a2 b3 w14)) ∧
   True
set_option maxRecDepth 100000 in
theorem S.slices_order2CmpFunc_api_Slot_ok (data1 : Sl) (a2 : Int) (b3 : Int) (swaps4 : Option Addr) (cmp5 : Value) (K : Int → Int → World → Prop) (w : World) (h : S.slices_order2CmpFunc_api_Slot data1 a2 b3 swaps4 cmp5 K w) : C.slices_order2CmpFunc_api_Slot data1 a2 b3 swaps4 cmp5 K w := by
  have e : fnV Try.prog Try.f104 (bodyOf Try.f104) (.t none (.u) (.t none (.t none (.r none (.one 0 510 (.one 1 484 (.one 2 480 (.one 3 480 (.one 4 480 (.one 5 64 (.one 6 0 (.one 7 0 (.one 8 0 (.alt 9 (.one 10 0 (.done)) (.none)))))))))))) (.t none (.t none (.u) (.t none (.u) (.u))) (.u))) (.t none (.u) (.u)))) [(0, .c (.i .i64)), (1, .c (.i .i64))] [.slice data1.a data1.len data1.cap, .int .i64 a2, .int .i64 b3, .pointer swaps4, cmp5] K w = S.slices_order2CmpFunc_api_Slot data1 a2 b3 swaps4 cmp5 K w := by kernel_rfl
  exact okF_mk Try.func104 rfl (fn_sound names_ok follows_ok Try.func104 rfl (by kernel_rfl) (Eq.mpr e h))
end Go.Proofs.Ytdlcejjiccknlaa
