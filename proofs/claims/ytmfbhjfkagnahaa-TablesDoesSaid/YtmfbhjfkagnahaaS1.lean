/- The functions' texts, and that a call comes to them. Printed by a program of mine (gen.py). -/
import Derived.Test.YtmfbhjfkagnahaaC
set_option linter.unusedVariables false
namespace Go.Proofs.Ytmfbhjfkagnahaa
open Go Go.Vc Go.Proofs

/-- buttress/buttresslaw14.TablesOnly -/
def S.law14_TablesOnly (script1 : Sl) (page2 : Int) (p3 : Int) (p4 : Int) (K : Bool → World → Prop) (w : World) : Prop :=
  Al w (.cells #[.int .i64 p3, .int .i64 p4] 51) fun w5 =>
   C.tables_New  (fun r6 w7 =>
   bif r6.isNone then
    (K false w7)
   else
    (∀ l8 : Int → World → Prop,
   (∀ (i9 : Int) (w10 : World), (∀ k11 : Bool → World → Prop,
   (∀ (t12 : Bool) (w13 : World), (bif t12 then
    (∃ a14 : Addr, script1.a = some a14 ∧ 0 ≤ i9 ∧ i9 < (script1.len : Int) ∧
   LdL w13 (a14.add (i9.toNat * 5)) 0 [.i .i64, .i .i64, .i .i64, .i .i64, .i .i64] fun (t15 : Int) (t16 : Int) (t17 : Int) (t18 : Int) (t19 : Int) =>
   Al w13 (.cells #[.int .i64 (0 : Int), .int .i64 (0 : Int), .int .i64 (0 : Int), .int .i64 (0 : Int), .int .i64 (0 : Int)] 55) fun w20 =>
   StL w20 (Addr.mk w13.heap.size 0 none) 0 [.int .i64 t15, .int .i64 t16, .int .i64 t17, .int .i64 t18, .int .i64 t19] fun w21 =>
   ∃ kind22 : Int, w21.cell? (Addr.mk w13.heap.size 0 none) = some (.int .i64 kind22) ∧
   bif kind22 == (0 : Int) then
    (∃ at23 : Int, w21.cell? ((Addr.mk w13.heap.size 0 none).add 1) = some (.int .i64 at23) ∧
   ∃ n24 : Int, w21.cell? ((Addr.mk w13.heap.size 0 none).add 2) = some (.int .i64 n24) ∧
   C.tables_Space_Table r6 at23 n24 (fun r25 w26 =>
   l8 (IntKind.i64.wrap (i9 + (1 : Int))) w26) w21)
   else
    (bif kind22 == (1 : Int) then
    (∃ at27 : Int, w21.cell? ((Addr.mk w13.heap.size 0 none).add 1) = some (.int .i64 at27) ∧
   C.tables_Space_Drop r6 at27 (fun r28 r29 w30 =>
   l8 (IntKind.i64.wrap (i9 + (1 : Int))) w30) w21)
   else
    (bif kind22 == (2 : Int) then
    (∃ at31 : Int, w21.cell? ((Addr.mk w13.heap.size 0 none).add 1) = some (.int .i64 at31) ∧
   LdL w21 ((Addr.mk w13.heap.size 0 none).add 3) 0 [.i .i64, .i .i64] fun (p32 : Int) (p33 : Int) =>
   C.tables_Space_Map r6 at31 p32 p33 (fun r34 w35 =>
   l8 (IntKind.i64.wrap (i9 + (1 : Int))) w35) w21)
   else
    (bif kind22 == (4 : Int) then
    (∃ at36 : Int, w21.cell? ((Addr.mk w13.heap.size 0 none).add 1) = some (.int .i64 at36) ∧
   C.tables_Space_Unmap r6 at36 (fun r37 r38 r39 w40 =>
   l8 (IntKind.i64.wrap (i9 + (1 : Int))) w40) w21)
   else
    (l8 (IntKind.i64.wrap (i9 + (1 : Int))) w21)))))
   else
    (C.tables_Space_Pages r6 (fun r41 w42 =>
   ∀ l43 : Int → World → Prop,
   (∀ (i44 : Int) (w45 : World), (bif decide (i44 < (r41.len : Int)) then
    (∃ a46 : Addr, r41.a = some a46 ∧ 0 ≤ i44 ∧ i44 < (r41.len : Int) ∧
   ∃ at47 : Int, w45.cell? (a46.add (i44.toNat * 3)) = some (.int .i64 at47) ∧
   (64 : Int) ≠ 0 ∧
   C.tables_Space_Has r6 (IntKind.i64.wrap (at47.tdiv (64 : Int))) (fun r48 r49 w50 =>
   ∃ a51 : Addr, r41.a = some a51 ∧ 0 ≤ i44 ∧ i44 < (r41.len : Int) ∧
   ∃ at52 : Int, w50.cell? (a51.add (i44.toNat * 3)) = some (.int .i64 at52) ∧
   C.tables_Space_Walk r6 at52 (fun r53 r54 r55 w56 =>
   Al w56 (.cells #[.int .i64 (0 : Int), .int .i64 (0 : Int)] 51) fun w57 =>
   StL w57 (Addr.mk w56.heap.size 0 none) 0 [.int .i64 r53, .int .i64 r54] fun w58 =>
   ∀ k59 : Bool → World → Prop,
   (∀ (t60 : Bool) (w61 : World), (bif t60 then
    (K false w61)
   else
    (l43 (IntKind.i64.wrap (i44 + (1 : Int))) w61)) → k59 t60 w61) →
   (Dr w58 fun w62 =>
   bif !r49 then
    (k59 true w62)
   else
    (bif !r55 then
    (k59 true w62)
   else
    (LdL w62 (Addr.mk w56.heap.size 0 none) 0 [.i .i64, .i .i64] fun (t63 : Int) (t64 : Int) =>
   ∃ a65 : Addr, r41.a = some a65 ∧ 0 ≤ i44 ∧ i44 < (r41.len : Int) ∧
   LdL w62 ((a65.add (i44.toNat * 3)).add 1) 0 [.i .i64, .i .i64] fun (p66 : Int) (p67 : Int) =>
   ∃ eq68 : Bool, EqB Try.prog .neq 51 (.tmp 111) (.tmp 116) (.agg #[.int .i64 t63, .int .i64 t64]) (.agg #[.int .i64 p66, .int .i64 p67]) eq68 ∧
   bif eq68 then
    (k59 true w62)
   else
    (bif decide (i44 > (0 : Int)) then
    (∃ a69 : Addr, r41.a = some a69 ∧ 0 ≤ i44 ∧ i44 < (r41.len : Int) ∧
   ∃ at70 : Int, w62.cell? (a69.add (i44.toNat * 3)) = some (.int .i64 at70) ∧
   ∃ a71 : Addr, r41.a = some a71 ∧ 0 ≤ IntKind.i64.wrap (i44 - (1 : Int)) ∧ IntKind.i64.wrap (i44 - (1 : Int)) < (r41.len : Int) ∧
   ∃ at72 : Int, w62.cell? (a71.add ((IntKind.i64.wrap (i44 - (1 : Int))).toNat * 3)) = some (.int .i64 at72) ∧
   k59 (decide (at70 ≤ at72)) w62)
   else
    (k59 false w62)))))) w50) w45)
   else
    (∃ frame73 : Int, w45.cell? (Addr.mk w.heap.size 0 none) = some (.int .i64 frame73) ∧
   ∃ rights74 : Int, w45.cell? ((Addr.mk w.heap.size 0 none).add 1) = some (.int .i64 rights74) ∧
   Al w45 (.cells #[.int .i64 (0 : Int), .int .i64 (0 : Int)] 51) fun w75 =>
   StL w75 (Addr.mk w45.heap.size 0 none) 0 [.int .i64 (andI .i64 frame73 (65535 : Int)), .int .i64 (andI .i64 rights74 (7 : Int))] fun w76 =>
   (64 : Int) ≠ 0 ∧
   C.tables_Space_Drop r6 (IntKind.i64.wrap ((andI .i64 page2 (4095 : Int)).tdiv (64 : Int))) (fun r77 r78 w79 =>
   C.tables_Space_Walk r6 (andI .i64 page2 (4095 : Int)) (fun r80 r81 r82 w83 =>
   Al w83 (.cells #[.int .i64 (0 : Int), .int .i64 (0 : Int)] 51) fun w84 =>
   StL w84 (Addr.mk w83.heap.size 0 none) 0 [.int .i64 r80, .int .i64 r81] fun w85 =>
   Dr w85 fun w86 =>
   (64 : Int) ≠ 0 ∧
   LdL w86 (Addr.mk w45.heap.size 0 none) 0 [.i .i64, .i .i64] fun (t87 : Int) (t88 : Int) =>
   (C.tables_Space_Table r6 (IntKind.i64.wrap ((andI .i64 page2 (4095 : Int)).tdiv (64 : Int))) (1048576 : Int) (fun r89 w90 =>
   HdL w90 (Addr.mk w45.heap.size 0 none) 0 [.int .i64 t87, .int .i64 t88] (
   (C.tables_Space_Map r6 (andI .i64 page2 (4095 : Int)) t87 t88 (fun r91 w92 =>
   C.tables_Space_Walk r6 (andI .i64 page2 (4095 : Int)) (fun r93 r94 r95 w96 =>
   Al w96 (.cells #[.int .i64 (0 : Int), .int .i64 (0 : Int)] 51) fun w97 =>
   StL w97 (Addr.mk w96.heap.size 0 none) 0 [.int .i64 r93, .int .i64 r94] fun w98 =>
   C.tables_Space_Unmap r6 (andI .i64 page2 (4095 : Int)) (fun r99 r100 r101 w102 =>
   Al w102 (.cells #[.int .i64 (0 : Int), .int .i64 (0 : Int)] 51) fun w103 =>
   StL w103 (Addr.mk w102.heap.size 0 none) 0 [.int .i64 r99, .int .i64 r100] fun w104 =>
   C.tables_Space_Walk r6 (andI .i64 page2 (4095 : Int)) (fun r105 r106 r107 w108 =>
   Al w108 (.cells #[.int .i64 (0 : Int), .int .i64 (0 : Int)] 51) fun w109 =>
   StL w109 (Addr.mk w108.heap.size 0 none) 0 [.int .i64 r105, .int .i64 r106] fun w110 =>
   bif r89 == (140 : Int) then
    (bif !r82 then
    (bif r91 == (141 : Int) then
    (C.law14_fixed  (fun r111 w112 =>
   K r111 w112) w110)
   else
    (K false w110))
   else
    (K false w110))
   else
    (bif !r82 then
    (bif r89 == (0 : Int) then
    (bif r91 == (0 : Int) then
    (LdL w110 (Addr.mk w96.heap.size 0 none) 0 [.i .i64, .i .i64] fun (t113 : Int) (t114 : Int) =>
   LdL w110 (Addr.mk w45.heap.size 0 none) 0 [.i .i64, .i .i64] fun (t115 : Int) (t116 : Int) =>
   ∃ eq117 : Bool, EqB Try.prog .eql 51 (.tmp 204) (.tmp 205) (.agg #[.int .i64 t113, .int .i64 t114]) (.agg #[.int .i64 t115, .int .i64 t116]) eq117 ∧
   bif eq117 then
    (bif r95 then
    (LdL w110 (Addr.mk w102.heap.size 0 none) 0 [.i .i64, .i .i64] fun (t118 : Int) (t119 : Int) =>
   LdL w110 (Addr.mk w45.heap.size 0 none) 0 [.i .i64, .i .i64] fun (t120 : Int) (t121 : Int) =>
   ∃ eq122 : Bool, EqB Try.prog .eql 51 (.tmp 212) (.tmp 213) (.agg #[.int .i64 t118, .int .i64 t119]) (.agg #[.int .i64 t120, .int .i64 t121]) eq122 ∧
   bif eq122 then
    (bif r101 == (0 : Int) then
    (bif !r107 then
    (C.law14_fixed  (fun r123 w124 =>
   K r123 w124) w110)
   else
    (K false w110))
   else
    (K false w110))
   else
    (K false w110))
   else
    (K false w110))
   else
    (K false w110))
   else
    (K false w110))
   else
    (K false w110))
   else
    (K false w110))) w104) w98) w92) w90) ∧
   True)) w86) ∧
   True) w79) w76)) → l43 i44 w45) →
   l43 (0 : Int) w42) w13)) → k11 t12 w13) →
   (bif decide (i9 < (script1.len : Int)) then
    (k11 (decide (i9 < (60 : Int))) w10)
   else
    (k11 false w10))) → l8 i9 w10) →
   l8 (0 : Int) w7)) w5
set_option maxRecDepth 100000 in
theorem S.law14_TablesOnly_ok (script1 : Sl) (page2 : Int) (p3 : Int) (p4 : Int) (K : Bool → World → Prop) (w : World) (h : S.law14_TablesOnly script1 page2 p3 p4 K w) : C.law14_TablesOnly script1 page2 p3 p4 K w := by
  have e : fnV Try.prog Try.f10 (bodyOf Try.f10) (.t none (.u) (.t none (.u) (.t none (.t none (.u) (.t none (.t none (.u) (.u)) (.u))) (.t none (.t none (.u) (.t none (.t (some [(8, .c (.i .i64))]) (.t none (.t none (.r (some [(38, .c (.b))]) .done) (.t none (.u) (.u))) (.t none (.t none (.t none (.u) (.t none (.u) (.t none (.t none (.u) (.t none (.u) (.t none (.u) (.t none (.u) (.t none (.u) (.t none (.u) (.t none (.u) (.t none (.u) (.u))))))))) (.u)))) (.u)) (.u))) (.u)) (.u))) (.t none (.u) (.t none (.t none (.u) (.t none (.t (some [(11, .c (.i .i64))]) (.t none (.t none (.u) (.t none (.u) (.u))) (.t none (.t none (.t none (.u) (.t none (.u) (.t none (.r (some [(136, .c (.b))]) (.one 0 0 (.one 1 0 (.one 2 0 (.one 3 0 (.one 4 0 (.one 5 0 (.one 6 0 (.one 7 7936 (.one 8 512 (.one 9 0 (.one 10 0 (.one 11 0 (.one 12 0 (.one 13 0 (.one 14 0 (.one 15 0 (.one 16 0 (.one 17 0 (.one 18 0 (.one 19 1058013184 (.one 20 1056964608 (.one 21 1056964608 (.one 22 1056964608 (.one 23 1056964608 (.one 24 100663296 (.one 25 0 (.one 26 0 (.one 27 0 (.one 28 0 (.one 29 0 (.one 30 0 (.one 31 0 (.one 32 0 (.done))))))))))))))))))))))))))))))))))) (.t none (.t none (.u) (.u)) (.u))))) (.u)) (.u))) (.u)) (.u))) (.t none (.u) (.t none (.u) (.t none (.u) (.t none (.u) (.t none (.r none (.one 0 118 (.one 1 112 (.one 2 112 (.one 4 104 (.one 5 72 (.hold 6 8 895 (.alt 3 (.alt 7 (.one 8 0 (.one 9 0 (.done))) (.none)) (.none))))))))) (.t none (.u) (.t none (.u) (.t none (.u) (.t none (.t none (.u) (.t none (.t none (.u) (.u)) (.u))) (.t none (.u) (.u))))))))))))))))) [(0, .c (.b))] [.slice script1.a script1.len script1.cap, .int .i64 page2, .agg #[.int .i64 p3, .int .i64 p4]] K w = S.law14_TablesOnly script1 page2 p3 p4 K w := by kernel_rfl
  exact okF_mk Try.func10 rfl (fn_sound names_ok follows_ok Try.func10 rfl (by kernel_rfl) (Eq.mpr e h))

/-- buttress/buttresslaw14.TablesApart -/
def S.law14_TablesApart (script1 : Sl) (o2 : Int) (o3 : Int) (o4 : Int) (o5 : Int) (o6 : Int) (K : Bool → World → Prop) (w : World) : Prop :=
  Al w (.cells #[.int .i64 o2, .int .i64 o3, .int .i64 o4, .int .i64 o5, .int .i64 o6] 55) fun w7 =>
   C.tables_New  (fun r8 w9 =>
   bif r8.isNone then
    (K false w9)
   else
    (∀ l10 : Int → World → Prop,
   (∀ (i11 : Int) (w12 : World), (∀ k13 : Bool → World → Prop,
   (∀ (t14 : Bool) (w15 : World), (bif t14 then
    (Dr w15 fun w16 =>
   ∃ a17 : Addr, script1.a = some a17 ∧ 0 ≤ i11 ∧ i11 < (script1.len : Int) ∧
   ∃ at18 : Int, w16.cell? ((a17.add (i11.toNat * 5)).add 1) = some (.int .i64 at18) ∧
   ∃ a19 : Addr, script1.a = some a19 ∧ 0 ≤ i11 ∧ i11 < (script1.len : Int) ∧
   ∃ n20 : Int, w16.cell? ((a19.add (i11.toNat * 5)).add 2) = some (.int .i64 n20) ∧
   (C.tables_Space_Table r8 (andI .i64 at18 (63 : Int)) n20 (fun r21 w22 =>
   Dr w22 fun w23 =>
   ∃ a24 : Addr, script1.a = some a24 ∧ 0 ≤ i11 ∧ i11 < (script1.len : Int) ∧
   ∃ at25 : Int, w23.cell? ((a24.add (i11.toNat * 5)).add 1) = some (.int .i64 at25) ∧
   ∃ a26 : Addr, script1.a = some a26 ∧ 0 ≤ i11 ∧ i11 < (script1.len : Int) ∧
   LdL w23 ((a26.add (i11.toNat * 5)).add 3) 0 [.i .i64, .i .i64] fun (p27 : Int) (p28 : Int) =>
   (C.tables_Space_Map r8 (andI .i64 at25 (4095 : Int)) p27 p28 (fun r29 w30 =>
   l10 (IntKind.i64.wrap (i11 + (1 : Int))) w30) w23) ∧
   True) w16) ∧
   True)
   else
    (C.tables_Space_Pages r8 (fun r31 w32 =>
   ∃ at33 : Int, w32.cell? ((Addr.mk w.heap.size 0 none).add 1) = some (.int .i64 at33) ∧
   C.tables_Space_Unmap r8 (andI .i64 at33 (4095 : Int)) (fun r34 r35 r36 w37 =>
   ∃ n38 : Int, w37.cell? ((Addr.mk w.heap.size 0 none).add 2) = some (.int .i64 n38) ∧
   C.tables_Space_Rights r8 (xorI .i64 (andI .i64 at33 (4095 : Int)) (1 : Int)) (andI .i64 n38 (7 : Int)) (fun r39 w40 =>
   C.tables_Space_Pages r8 (fun r41 w42 =>
   ∀ l43 : Int → Int → World → Prop,
   (∀ (j44 : Int) (i45 : Int) (w46 : World), (bif decide (i45 < (r31.len : Int)) then
    (∃ a47 : Addr, r31.a = some a47 ∧ 0 ≤ i45 ∧ i45 < (r31.len : Int) ∧
   ∃ at48 : Int, w46.cell? (a47.add (i45.toNat * 3)) = some (.int .i64 at48) ∧
   bif at48 == (andI .i64 at33 (4095 : Int)) then
    (l43 j44 (IntKind.i64.wrap (i45 + (1 : Int))) w46)
   else
    (∀ k49 : Bool → World → Prop,
   (∀ (t50 : Bool) (w51 : World), (bif t50 then
    (K false w51)
   else
    (l43 (IntKind.i64.wrap (j44 + (1 : Int))) (IntKind.i64.wrap (i45 + (1 : Int))) w51)) → k49 t50 w51) →
   (Dr w46 fun w52 =>
   bif decide (j44 ≥ (r41.len : Int)) then
    (k49 true w52)
   else
    (∃ a53 : Addr, r41.a = some a53 ∧ 0 ≤ j44 ∧ j44 < (r41.len : Int) ∧
   ∃ at54 : Int, w52.cell? (a53.add (j44.toNat * 3)) = some (.int .i64 at54) ∧
   ∃ a55 : Addr, r31.a = some a55 ∧ 0 ≤ i45 ∧ i45 < (r31.len : Int) ∧
   ∃ at56 : Int, w52.cell? (a55.add (i45.toNat * 3)) = some (.int .i64 at56) ∧
   bif at54 != at56 then
    (k49 true w52)
   else
    (∃ a57 : Addr, r41.a = some a57 ∧ 0 ≤ j44 ∧ j44 < (r41.len : Int) ∧
   ∃ frame58 : Int, w52.cell? ((a57.add (j44.toNat * 3)).add 1) = some (.int .i64 frame58) ∧
   ∃ a59 : Addr, r31.a = some a59 ∧ 0 ≤ i45 ∧ i45 < (r31.len : Int) ∧
   ∃ frame60 : Int, w52.cell? ((a59.add (i45.toNat * 3)).add 1) = some (.int .i64 frame60) ∧
   bif frame58 != frame60 then
    (k49 true w52)
   else
    (∃ a61 : Addr, r31.a = some a61 ∧ 0 ≤ i45 ∧ i45 < (r31.len : Int) ∧
   ∃ at62 : Int, w52.cell? (a61.add (i45.toNat * 3)) = some (.int .i64 at62) ∧
   bif at62 != (xorI .i64 (andI .i64 at33 (4095 : Int)) (1 : Int)) then
    (∃ a63 : Addr, r41.a = some a63 ∧ 0 ≤ j44 ∧ j44 < (r41.len : Int) ∧
   LdL w52 (a63.add (j44.toNat * 3)) 0 [.i .i64, .i .i64, .i .i64] fun (t64 : Int) (t65 : Int) (t66 : Int) =>
   ∃ a67 : Addr, r31.a = some a67 ∧ 0 ≤ i45 ∧ i45 < (r31.len : Int) ∧
   LdL w52 (a67.add (i45.toNat * 3)) 0 [.i .i64, .i .i64, .i .i64] fun (t68 : Int) (t69 : Int) (t70 : Int) =>
   ∃ eq71 : Bool, EqB Try.prog .neq 67 (.tmp 129) (.tmp 133) (.agg #[.int .i64 t64, .int .i64 t65, .int .i64 t66]) (.agg #[.int .i64 t68, .int .i64 t69, .int .i64 t70]) eq71 ∧
   bif eq71 then
    (k49 true w52)
   else
    (∃ a72 : Addr, r31.a = some a72 ∧ 0 ≤ i45 ∧ i45 < (r31.len : Int) ∧
   ∃ at73 : Int, w52.cell? (a72.add (i45.toNat * 3)) = some (.int .i64 at73) ∧
   bif at73 == (xorI .i64 (andI .i64 at33 (4095 : Int)) (1 : Int)) then
    (∃ a74 : Addr, r41.a = some a74 ∧ 0 ≤ j44 ∧ j44 < (r41.len : Int) ∧
   ∃ rights75 : Int, w52.cell? (((a74.add (j44.toNat * 3)).add 1).add 1) = some (.int .i64 rights75) ∧
   ∃ n76 : Int, w52.cell? ((Addr.mk w.heap.size 0 none).add 2) = some (.int .i64 n76) ∧
   k49 (rights75 != (andI .i64 n76 (7 : Int))) w52)
   else
    (k49 false w52)))
   else
    (∃ a77 : Addr, r31.a = some a77 ∧ 0 ≤ i45 ∧ i45 < (r31.len : Int) ∧
   ∃ at78 : Int, w52.cell? (a77.add (i45.toNat * 3)) = some (.int .i64 at78) ∧
   bif at78 == (xorI .i64 (andI .i64 at33 (4095 : Int)) (1 : Int)) then
    (∃ a79 : Addr, r41.a = some a79 ∧ 0 ≤ j44 ∧ j44 < (r41.len : Int) ∧
   ∃ rights80 : Int, w52.cell? (((a79.add (j44.toNat * 3)).add 1).add 1) = some (.int .i64 rights80) ∧
   ∃ n81 : Int, w52.cell? ((Addr.mk w.heap.size 0 none).add 2) = some (.int .i64 n81) ∧
   k49 (rights80 != (andI .i64 n81 (7 : Int))) w52)
   else
    (k49 false w52))))))))
   else
    ((64 : Int) ≠ 0 ∧
   C.tables_Space_Drop r8 (IntKind.i64.wrap ((andI .i64 at33 (4095 : Int)).tdiv (64 : Int))) (fun r82 r83 w84 =>
   C.tables_Space_Pages r8 (fun r85 w86 =>
   ∀ l87 : Int → Int → World → Prop,
   (∀ (k88 : Int) (i89 : Int) (w90 : World), (bif decide (i89 < (r41.len : Int)) then
    (∃ a91 : Addr, r41.a = some a91 ∧ 0 ≤ i89 ∧ i89 < (r41.len : Int) ∧
   ∃ at92 : Int, w90.cell? (a91.add (i89.toNat * 3)) = some (.int .i64 at92) ∧
   (64 : Int) ≠ 0 ∧
   (64 : Int) ≠ 0 ∧
   bif (IntKind.i64.wrap (at92.tdiv (64 : Int))) == (IntKind.i64.wrap ((andI .i64 at33 (4095 : Int)).tdiv (64 : Int))) then
    (l87 k88 (IntKind.i64.wrap (i89 + (1 : Int))) w90)
   else
    (∀ k93 : Bool → World → Prop,
   (∀ (t94 : Bool) (w95 : World), (bif t94 then
    (K false w95)
   else
    (l87 (IntKind.i64.wrap (k88 + (1 : Int))) (IntKind.i64.wrap (i89 + (1 : Int))) w95)) → k93 t94 w95) →
   (Dr w90 fun w96 =>
   bif decide (k88 ≥ (r85.len : Int)) then
    (k93 true w96)
   else
    (∃ a97 : Addr, r85.a = some a97 ∧ 0 ≤ k88 ∧ k88 < (r85.len : Int) ∧
   LdL w96 (a97.add (k88.toNat * 3)) 0 [.i .i64, .i .i64, .i .i64] fun (t98 : Int) (t99 : Int) (t100 : Int) =>
   ∃ a101 : Addr, r41.a = some a101 ∧ 0 ≤ i89 ∧ i89 < (r41.len : Int) ∧
   LdL w96 (a101.add (i89.toNat * 3)) 0 [.i .i64, .i .i64, .i .i64] fun (t102 : Int) (t103 : Int) (t104 : Int) =>
   ∃ eq105 : Bool, EqB Try.prog .neq 67 (.tmp 190) (.tmp 194) (.agg #[.int .i64 t98, .int .i64 t99, .int .i64 t100]) (.agg #[.int .i64 t102, .int .i64 t103, .int .i64 t104]) eq105 ∧
   k93 eq105 w96))))
   else
    (bif j44 == (r41.len : Int) then
    (bif k88 == (r85.len : Int) then
    (C.law14_fixed  (fun r106 w107 =>
   K r106 w107) w90)
   else
    (K false w90))
   else
    (K false w90))) → l87 k88 i89 w90) →
   l87 (0 : Int) (0 : Int) w86) w84) w46)) → l43 j44 i45 w46) →
   l43 (0 : Int) (0 : Int) w42) w40) w37) w32) w15)) → k13 t14 w15) →
   (bif decide (i11 < (script1.len : Int)) then
    (k13 (decide (i11 < (40 : Int))) w12)
   else
    (k13 false w12))) → l10 i11 w12) →
   l10 (0 : Int) w9)) w7
set_option maxRecDepth 100000 in
theorem S.law14_TablesApart_ok (script1 : Sl) (o2 : Int) (o3 : Int) (o4 : Int) (o5 : Int) (o6 : Int) (K : Bool → World → Prop) (w : World) (h : S.law14_TablesApart script1 o2 o3 o4 o5 o6 K w) : C.law14_TablesApart script1 o2 o3 o4 o5 o6 K w := by
  have e : fnV Try.prog Try.f11 (bodyOf Try.f11) (.t none (.u) (.t none (.u) (.t none (.t none (.u) (.t none (.t none (.u) (.u)) (.u))) (.t none (.t none (.u) (.t none (.t (some [(6, .c (.i .i64))]) (.t none (.t none (.r (some [(25, .c (.b))]) .done) (.t none (.u) (.u))) (.t none (.t none (.t none (.r none (.one 0 4094 (.one 1 3972 (.one 2 3968 (.one 3 3968 (.one 4 3968 (.one 5 3968 (.one 6 3968 (.one 7 256 (.one 8 0 (.one 9 0 (.one 10 0 (.one 11 0 (.alt 12 (.done) (.none))))))))))))))) (.r none (.one 0 4094 (.one 1 3972 (.one 2 3968 (.one 3 3968 (.one 4 3968 (.one 5 3968 (.one 6 3968 (.one 7 256 (.one 8 0 (.one 9 0 (.one 10 0 (.one 11 0 (.alt 12 (.done) (.none)))))))))))))))) (.u)) (.u))) (.u)) (.u))) (.t none (.u) (.t none (.u) (.t none (.u) (.t none (.u) (.t none (.u) (.t none (.u) (.t none (.t none (.u) (.t none (.t (some [(10, .c (.i .i64)), (11, .c (.i .i64))]) (.t none (.t none (.u) (.t none (.u) (.u))) (.t none (.t none (.t none (.t none (.u) (.t none (.u) (.u))) (.t none (.t none (.r (some [(158, .c (.b))]) (.one 0 6 (.one 1 0 (.one 2 0 (.one 3 0 (.one 4 0 (.one 5 31808 (.one 6 31744 (.one 7 31744 (.one 8 31744 (.one 9 31744 (.one 10 2048 (.one 11 0 (.one 12 0 (.one 13 0 (.one 14 0 (.one 15 0 (.one 16 0 (.one 17 0 (.one 18 1057488896 (.one 19 1056964608 (.one 20 1056964608 (.one 21 1056964608 (.one 22 1056964608 (.one 23 1056964608 (.one 24 33554432 (.one 25 0 (.one 26 0 (.one 27 0 (.one 28 0 (.one 29 0 (.one 30 0 (.one 31 0 (.one 32 0 (.one 33 841813590016 (.one 34 824633720832 (.one 35 824633720832 (.one 36 824633720832 (.one 37 824633720832 (.one 38 0 (.one 39 0 (.one 40 0 (.one 41 0 (.one 42 1064327255687168 (.one 43 1055531162664960 (.one 44 1055531162664960 (.one 45 1055531162664960 (.one 46 140737488355328 (.one 47 0 (.one 48 0 (.one 49 0 (.one 50 0 (.one 51 0 (.one 52 0 (.one 53 0 (.one 54 1765411053929234432 (.one 55 1729382256910270464 (.one 56 1729382256910270464 (.one 57 1729382256910270464 (.one 58 1729382256910270464 (.one 59 0 (.one 60 0 (.one 61 0 (.one 62 0 (.one 63 4150517416584649113600 (.one 64 4132070672510939561984 (.one 65 4132070672510939561984 (.one 66 4132070672510939561984 (.one 67 4132070672510939561984 (.one 68 4132070672510939561984 (.one 69 0 (.one 70 0 (.one 71 0 (.one 72 0 (.one 73 0 (.one 74 0 (.done))))))))))))))))))))))))))))))))))))))))))))))))))))))))))))))))))))))))))))) (.t none (.t none (.u) (.u)) (.u))) (.u))) (.u)) (.u))) (.u)) (.u))) (.t none (.u) (.t none (.u) (.t none (.u) (.t none (.t none (.u) (.t none (.t (some [(13, .c (.i .i64)), (14, .c (.i .i64))]) (.t none (.t none (.u) (.t none (.u) (.u))) (.t none (.t none (.t none (.t none (.u) (.t none (.u) (.u))) (.t none (.t none (.r (some [(196, .c (.b))]) (.one 0 6 (.one 1 0 (.one 2 0 (.one 3 0 (.one 4 0 (.one 5 7744 (.one 6 7680 (.one 7 7680 (.one 8 7680 (.one 9 1024 (.one 10 0 (.one 11 0 (.one 12 0 (.one 13 0 (.one 14 0 (.done))))))))))))))))) (.t none (.t none (.u) (.u)) (.u))) (.u))) (.u)) (.u))) (.u)) (.u))) (.t none (.u) (.u))))))))))))))))) [(0, .c (.b))] [.slice script1.a script1.len script1.cap, .agg #[.int .i64 o2, .int .i64 o3, .int .i64 o4, .int .i64 o5, .int .i64 o6]] K w = S.law14_TablesApart script1 o2 o3 o4 o5 o6 K w := by kernel_rfl
  exact okF_mk Try.func11 rfl (fn_sound names_ok follows_ok Try.func11 rfl (by kernel_rfl) (Eq.mpr e h))

/-- buttress/buttresslaw14.TablesDrops -/
def S.law14_TablesDrops (l1 : Sl) (k2 : Int) (K : Bool → World → Prop) (w : World) : Prop :=
  C.tables_New  (fun r3 w4 =>
   bif r3.isNone then
    (K false w4)
   else
    (∀ l5 : Int → World → Prop,
   (∀ (i6 : Int) (w7 : World), (bif decide (i6 < (3 : Int)) then
    (C.tables_Space_Table r3 i6 (IntKind.i64.wrap ((10 : Int) + i6)) (fun r8 w9 =>
   l5 (IntKind.i64.wrap (i6 + (1 : Int))) w9) w7)
   else
    (∀ l10 : Int → World → Prop,
   (∀ (i11 : Int) (w12 : World), (∀ k13 : Bool → World → Prop,
   (∀ (t14 : Bool) (w15 : World), (bif t14 then
    (Dr w15 fun w16 =>
   ∃ a17 : Addr, l1.a = some a17 ∧ 0 ≤ i11 ∧ i11 < (l1.len : Int) ∧
   ∃ at18 : Int, w16.cell? ((a17.add (i11.toNat * 5)).add 1) = some (.int .i64 at18) ∧
   (192 : Int) ≠ 0 ∧
   ∃ a19 : Addr, l1.a = some a19 ∧ 0 ≤ i11 ∧ i11 < (l1.len : Int) ∧
   LdL w16 ((a19.add (i11.toNat * 5)).add 3) 0 [.i .i64, .i .i64] fun (p20 : Int) (p21 : Int) =>
   (C.tables_Space_Map r3 ((andI .i64 at18 (65535 : Int)).tmod (192 : Int)) p20 p21 (fun r22 w23 =>
   l10 (IntKind.i64.wrap (i11 + (1 : Int))) w23) w16) ∧
   True)
   else
    ((3 : Int) ≠ 0 ∧
   Al w15 (.cells #[] 67) fun w24 =>
   Al w24 (.cells #[] 67) fun w25 =>
   C.tables_Space_Pages r3 (fun r26 w27 =>
   ∀ l28 : Sl → Sl → Int → World → Prop,
   (∀ (own29 : Sl) (rest30 : Sl) (i31 : Int) (w32 : World), (bif decide (i31 < (r26.len : Int)) then
    (∃ a33 : Addr, r26.a = some a33 ∧ 0 ≤ i31 ∧ i31 < (r26.len : Int) ∧
   ∃ at34 : Int, w32.cell? (a33.add (i31.toNat * 3)) = some (.int .i64 at34) ∧
   (64 : Int) ≠ 0 ∧
   bif (IntKind.i64.wrap (at34.tdiv (64 : Int))) == ((andI .i64 k2 (65535 : Int)).tmod (3 : Int)) then
    (∃ a35 : Addr, r26.a = some a35 ∧ 0 ≤ i31 ∧ i31 < (r26.len : Int) ∧
   LdL w32 (a35.add (i31.toNat * 3)) 0 [.i .i64, .i .i64, .i .i64] fun (t36 : Int) (t37 : Int) (t38 : Int) =>
   Al w32 (.cells #[.int .i64 t36, .int .i64 t37, .int .i64 t38] 67) fun w39 =>
   ∃ (t40 : Sl) (w41 : World), AppR Try.prog [57, 57] 57 (.slice own29.a own29.len own29.cap) (.slice (some (Addr.mk w32.heap.size 0 none)) 1 1) w39 t40 w41 ∧
   l28 t40 rest30 (IntKind.i64.wrap (i31 + (1 : Int))) w41)
   else
    (∃ a42 : Addr, r26.a = some a42 ∧ 0 ≤ i31 ∧ i31 < (r26.len : Int) ∧
   LdL w32 (a42.add (i31.toNat * 3)) 0 [.i .i64, .i .i64, .i .i64] fun (t43 : Int) (t44 : Int) (t45 : Int) =>
   Al w32 (.cells #[.int .i64 t43, .int .i64 t44, .int .i64 t45] 67) fun w46 =>
   ∃ (t47 : Sl) (w48 : World), AppR Try.prog [57, 57] 57 (.slice rest30.a rest30.len rest30.cap) (.slice (some (Addr.mk w32.heap.size 0 none)) 1 1) w46 t47 w48 ∧
   l28 own29 t47 (IntKind.i64.wrap (i31 + (1 : Int))) w48))
   else
    (C.tables_Space_Drop r3 ((andI .i64 k2 (65535 : Int)).tmod (3 : Int)) (fun r49 r50 w51 =>
   C.tables_Space_Table r3 ((andI .i64 k2 (65535 : Int)).tmod (3 : Int)) (IntKind.i64.wrap ((10 : Int) + ((andI .i64 k2 (65535 : Int)).tmod (3 : Int)))) (fun r52 w53 =>
   C.tables_Space_Has r3 ((andI .i64 k2 (65535 : Int)).tmod (3 : Int)) (fun r54 r55 w56 =>
   bif r50 == (0 : Int) then
    (C.ref14_Same r49 own29 (fun r57 w58 =>
   bif r57 then
    (C.tables_Space_Pages r3 (fun r59 w60 =>
   C.ref14_Same r59 rest30 (fun r61 w62 =>
   bif r61 then
    (bif r52 == (0 : Int) then
    (bif r55 then
    (bif r54 == (IntKind.i64.wrap ((10 : Int) + ((andI .i64 k2 (65535 : Int)).tmod (3 : Int)))) then
    (C.law14_fixed  (fun r63 w64 =>
   K r63 w64) w62)
   else
    (K false w62))
   else
    (K false w62))
   else
    (K false w62))
   else
    (K false w62)) w60) w58)
   else
    (K false w58)) w56)
   else
    (K false w56)) w53) w51) w32)) → l28 own29 rest30 i31 w32) →
   l28 ⟨some (Addr.mk w15.heap.size 0 none), 0, 0⟩ ⟨some (Addr.mk w24.heap.size 0 none), 0, 0⟩ (0 : Int) w27) w25)) → k13 t14 w15) →
   (bif decide (i11 < (l1.len : Int)) then
    (k13 (decide (i11 < (40 : Int))) w12)
   else
    (k13 false w12))) → l10 i11 w12) →
   l10 (0 : Int) w7)) → l5 i6 w7) →
   l5 (0 : Int) w4)) w
set_option maxRecDepth 100000 in
theorem S.law14_TablesDrops_ok (l1 : Sl) (k2 : Int) (K : Bool → World → Prop) (w : World) (h : S.law14_TablesDrops l1 k2 K w) : C.law14_TablesDrops l1 k2 K w := by
  have e : fnV Try.prog Try.f12 (bodyOf Try.f12) (.t none (.u) (.t none (.u) (.t none (.t none (.u) (.t none (.t none (.u) (.u)) (.u))) (.t none (.t none (.u) (.t none (.t (some [(6, .c (.i .i64))]) (.t none (.t none (.u) (.t none (.u) (.u))) (.t none (.t none (.u) (.u)) (.u))) (.u)) (.u))) (.t none (.t none (.u) (.t none (.t (some [(7, .c (.i .i64))]) (.t none (.t none (.r (some [(37, .c (.b))]) .done) (.t none (.u) (.u))) (.t none (.t none (.r none (.one 0 8190 (.one 1 7940 (.one 2 7936 (.one 3 7936 (.one 4 7936 (.one 5 7936 (.one 6 7936 (.one 7 7936 (.one 8 512 (.one 9 0 (.one 10 0 (.one 11 0 (.one 12 0 (.alt 13 (.done) (.none)))))))))))))))) (.u)) (.u))) (.u)) (.u))) (.t none (.u) (.t none (.u) (.t none (.t none (.u) (.t none (.t (some [(9, .c (.s)), (10, .c (.s)), (12, .c (.i .i64))]) (.t none (.t none (.u) (.t none (.u) (.u))) (.t none (.t none (.t none (.u) (.t none (.u) (.u))) (.u)) (.u))) (.u)) (.u))) (.t none (.u) (.t none (.u) (.t none (.u) (.t none (.u) (.u))))))))))))) [(0, .c (.b))] [.slice l1.a l1.len l1.cap, .int .i64 k2] K w = S.law14_TablesDrops l1 k2 K w := by kernel_rfl
  exact okF_mk Try.func12 rfl (fn_sound names_ok follows_ok Try.func12 rfl (by kernel_rfl) (Eq.mpr e h))

/-- buttress/buttresslaw14.TablesFrames -/
def S.law14_TablesFrames (l1 : Sl) (frame2 : Int) (K : Bool → World → Prop) (w : World) : Prop :=
  C.tables_New  (fun r3 w4 =>
   bif r3.isNone then
    (K false w4)
   else
    (∀ l5 : Int → World → Prop,
   (∀ (i6 : Int) (w7 : World), (bif decide (i6 < (3 : Int)) then
    (C.tables_Space_Table r3 i6 (IntKind.i64.wrap ((10 : Int) + i6)) (fun r8 w9 =>
   l5 (IntKind.i64.wrap (i6 + (1 : Int))) w9) w7)
   else
    (∀ l10 : Int → World → Prop,
   (∀ (i11 : Int) (w12 : World), (∀ k13 : Bool → World → Prop,
   (∀ (t14 : Bool) (w15 : World), (bif t14 then
    (Dr w15 fun w16 =>
   ∃ a17 : Addr, l1.a = some a17 ∧ 0 ≤ i11 ∧ i11 < (l1.len : Int) ∧
   ∃ at18 : Int, w16.cell? ((a17.add (i11.toNat * 5)).add 1) = some (.int .i64 at18) ∧
   (192 : Int) ≠ 0 ∧
   ∃ a19 : Addr, l1.a = some a19 ∧ 0 ≤ i11 ∧ i11 < (l1.len : Int) ∧
   LdL w16 ((a19.add (i11.toNat * 5)).add 3) 0 [.i .i64, .i .i64] fun (p20 : Int) (p21 : Int) =>
   (C.tables_Space_Map r3 ((andI .i64 at18 (65535 : Int)).tmod (192 : Int)) p20 p21 (fun r22 w23 =>
   l10 (IntKind.i64.wrap (i11 + (1 : Int))) w23) w16) ∧
   True)
   else
    (C.tables_Space_Frames r3 frame2 (fun r24 w25 =>
   ∀ l26 : Int → Int → World → Prop,
   (∀ (n27 : Int) (p28 : Int) (w29 : World), (bif decide (p28 < (192 : Int)) then
    (C.tables_Space_Walk r3 p28 (fun r30 r31 r32 w33 =>
   Al w33 (.cells #[.int .i64 (0 : Int), .int .i64 (0 : Int)] 51) fun w34 =>
   StL w34 (Addr.mk w33.heap.size 0 none) 0 [.int .i64 r30, .int .i64 r31] fun w35 =>
   ∀ k36 : Bool → World → Prop,
   (∀ (t37 : Bool) (w38 : World), (bif t37 then
    (∀ k39 : Bool → World → Prop,
   (∀ (t40 : Bool) (w41 : World), (bif t40 then
    (K false w41)
   else
    (l26 (IntKind.i64.wrap (n27 + (1 : Int))) (IntKind.i64.wrap (p28 + (1 : Int))) w41)) → k39 t40 w41) →
   (bif decide (n27 ≥ (r24.len : Int)) then
    (k39 true w38)
   else
    (∃ a42 : Addr, r24.a = some a42 ∧ 0 ≤ n27 ∧ n27 < (r24.len : Int) ∧
   ∃ t43 : Int, w38.cell? (a42.add (n27.toNat * 1)) = some (.int .i64 t43) ∧
   k39 (t43 != p28) w38)))
   else
    (l26 n27 (IntKind.i64.wrap (p28 + (1 : Int))) w38)) → k36 t37 w38) →
   (bif r32 then
    (∃ frame44 : Int, w35.cell? (Addr.mk w33.heap.size 0 none) = some (.int .i64 frame44) ∧
   k36 (frame44 == frame2) w35)
   else
    (k36 false w35))) w29)
   else
    (bif n27 != (r24.len : Int) then
    (K false w29)
   else
    (∀ l45 : Int → World → Prop,
   (∀ (i46 : Int) (w47 : World), (bif decide (i46 < (r24.len : Int)) then
    (∃ a48 : Addr, r24.a = some a48 ∧ 0 ≤ i46 ∧ i46 < (r24.len : Int) ∧
   ∃ t49 : Int, w47.cell? (a48.add (i46.toNat * 1)) = some (.int .i64 t49) ∧
   C.tables_Space_Unmap r3 t49 (fun r50 r51 r52 w53 =>
   Al w53 (.cells #[.int .i64 (0 : Int), .int .i64 (0 : Int)] 51) fun w54 =>
   StL w54 (Addr.mk w53.heap.size 0 none) 0 [.int .i64 r50, .int .i64 r51] fun w55 =>
   ∀ k56 : Bool → World → Prop,
   (∀ (t57 : Bool) (w58 : World), (bif t57 then
    (K false w58)
   else
    (l45 (IntKind.i64.wrap (i46 + (1 : Int))) w58)) → k56 t57 w58) →
   (bif r52 != (0 : Int) then
    (k56 true w55)
   else
    (∃ frame59 : Int, w55.cell? (Addr.mk w53.heap.size 0 none) = some (.int .i64 frame59) ∧
   k56 (frame59 != frame2) w55))) w47)
   else
    (C.tables_Space_Frames r3 frame2 (fun r60 w61 =>
   bif (r60.len : Int) == (0 : Int) then
    (C.law14_fixed  (fun r62 w63 =>
   K r62 w63) w61)
   else
    (K false w61)) w47)) → l45 i46 w47) →
   l45 (0 : Int) w29))) → l26 n27 p28 w29) →
   l26 (0 : Int) (0 : Int) w25) w15)) → k13 t14 w15) →
   (bif decide (i11 < (l1.len : Int)) then
    (k13 (decide (i11 < (40 : Int))) w12)
   else
    (k13 false w12))) → l10 i11 w12) →
   l10 (0 : Int) w7)) → l5 i6 w7) →
   l5 (0 : Int) w4)) w
set_option maxRecDepth 100000 in
theorem S.law14_TablesFrames_ok (l1 : Sl) (frame2 : Int) (K : Bool → World → Prop) (w : World) (h : S.law14_TablesFrames l1 frame2 K w) : C.law14_TablesFrames l1 frame2 K w := by
  have e : fnV Try.prog Try.f13 (bodyOf Try.f13) (.t none (.u) (.t none (.u) (.t none (.t none (.u) (.t none (.t none (.u) (.u)) (.u))) (.t none (.t none (.u) (.t none (.t (some [(6, .c (.i .i64))]) (.t none (.t none (.u) (.t none (.u) (.u))) (.t none (.t none (.u) (.u)) (.u))) (.u)) (.u))) (.t none (.t none (.u) (.t none (.t (some [(7, .c (.i .i64))]) (.t none (.t none (.r (some [(35, .c (.b))]) .done) (.t none (.u) (.u))) (.t none (.t none (.r none (.one 0 8190 (.one 1 7940 (.one 2 7936 (.one 3 7936 (.one 4 7936 (.one 5 7936 (.one 6 7936 (.one 7 7936 (.one 8 512 (.one 9 0 (.one 10 0 (.one 11 0 (.one 12 0 (.alt 13 (.done) (.none)))))))))))))))) (.u)) (.u))) (.u)) (.u))) (.t none (.u) (.t none (.t none (.u) (.t none (.t (some [(9, .c (.i .i64)), (10, .c (.i .i64))]) (.t none (.t none (.u) (.t none (.u) (.u))) (.t none (.t none (.t none (.u) (.t none (.r (some [(71, .c (.b))]) .done) (.t none (.t none (.t none (.r (some [(83, .c (.b))]) .done) (.t none (.t none (.u) (.u)) (.u))) (.u)) (.u)))) (.u)) (.u))) (.u)) (.u))) (.t none (.t none (.u) (.t none (.t none (.u) (.u)) (.u))) (.t none (.t none (.u) (.t none (.t (some [(13, .c (.i .i64))]) (.t none (.t none (.u) (.t none (.u) (.u))) (.t none (.t none (.t none (.u) (.t none (.r (some [(112, .c (.b))]) .done) (.t none (.t none (.u) (.u)) (.u)))) (.u)) (.u))) (.u)) (.u))) (.t none (.u) (.u))))))))))) [(0, .c (.b))] [.slice l1.a l1.len l1.cap, .int .i64 frame2] K w = S.law14_TablesFrames l1 frame2 K w := by kernel_rfl
  exact okF_mk Try.func13 rfl (fn_sound names_ok follows_ok Try.func13 rfl (by kernel_rfl) (Eq.mpr e h))

/-- buttress/buttresslaw14.TablesRights -/
def S.law14_TablesRights (page1 : Int) (p2 : Int) (p3 : Int) (r4 : Int) (K : Bool → World → Prop) (w : World) : Prop :=
  Al w (.cells #[.int .i64 p2, .int .i64 p3] 51) fun w5 =>
   C.tables_New  (fun r6 w7 =>
   bif r6.isNone then
    (K false w7)
   else
    (Dr w7 fun w8 =>
   ∃ frame9 : Int, w8.cell? (Addr.mk w.heap.size 0 none) = some (.int .i64 frame9) ∧
   ∃ rights10 : Int, w8.cell? ((Addr.mk w.heap.size 0 none).add 1) = some (.int .i64 rights10) ∧
   (Al w8 (.cells #[.int .i64 (0 : Int), .int .i64 (0 : Int)] 51) fun w11 =>
   (StL w11 (Addr.mk w8.heap.size 0 none) 0 [.int .i64 (andI .i64 frame9 (65535 : Int)), .int .i64 (andI .i64 rights10 (7 : Int))] fun w12 =>
   Dr w12 fun w13 =>
   (64 : Int) ≠ 0 ∧
   LdL w13 (Addr.mk w8.heap.size 0 none) 0 [.i .i64, .i .i64] fun (t14 : Int) (t15 : Int) =>
   (C.tables_Space_Table r6 (IntKind.i64.wrap ((andI .i64 page1 (4095 : Int)).tdiv (64 : Int))) (7 : Int) (fun r16 w17 =>
   HdL w17 (Addr.mk w8.heap.size 0 none) 0 [.int .i64 t14, .int .i64 t15] (
   (C.tables_Space_Map r6 (andI .i64 page1 (4095 : Int)) t14 t15 (fun r18 w19 =>
   (C.tables_Space_Rights r6 (andI .i64 page1 (4095 : Int)) (andI .i64 r4 (7 : Int)) (fun r20 w21 =>
   C.tables_Space_Walk r6 (andI .i64 page1 (4095 : Int)) (fun r22 r23 r24 w25 =>
   Al w25 (.cells #[.int .i64 (0 : Int), .int .i64 (0 : Int)] 51) fun w26 =>
   StL w26 (Addr.mk w25.heap.size 0 none) 0 [.int .i64 r22, .int .i64 r23] fun w27 =>
   ∃ rights28 : Int, w27.cell? ((Addr.mk w8.heap.size 0 none).add 1) = some (.int .i64 rights28) ∧
   C.tables_Space_Rights r6 (andI .i64 page1 (4095 : Int)) rights28 (fun r29 w30 =>
   C.tables_Space_Walk r6 (andI .i64 page1 (4095 : Int)) (fun r31 r32 r33 w34 =>
   Al w34 (.cells #[.int .i64 (0 : Int), .int .i64 (0 : Int)] 51) fun w35 =>
   StL w35 (Addr.mk w34.heap.size 0 none) 0 [.int .i64 r31, .int .i64 r32] fun w36 =>
   C.tables_Space_Rights r6 (xorI .i64 (andI .i64 page1 (4095 : Int)) (1 : Int)) (andI .i64 r4 (7 : Int)) (fun r37 w38 =>
   bif r16 == (0 : Int) then
    (bif r18 == (0 : Int) then
    (bif r20 == (0 : Int) then
    (bif r24 then
    (LdL w38 (Addr.mk w25.heap.size 0 none) 0 [.i .i64, .i .i64] fun (t39 : Int) (t40 : Int) =>
   ∃ frame41 : Int, w38.cell? (Addr.mk w8.heap.size 0 none) = some (.int .i64 frame41) ∧
   ∃ eq42 : Bool, EqB Try.prog .eql 51 (.tmp 81) (.tmp 86) (.agg #[.int .i64 t39, .int .i64 t40]) (.agg #[.int .i64 frame41, .int .i64 (andI .i64 r4 (7 : Int))]) eq42 ∧
   bif eq42 then
    (bif r29 == (0 : Int) then
    (bif r33 then
    (LdL w38 (Addr.mk w34.heap.size 0 none) 0 [.i .i64, .i .i64] fun (t43 : Int) (t44 : Int) =>
   LdL w38 (Addr.mk w8.heap.size 0 none) 0 [.i .i64, .i .i64] fun (frame45 : Int) (frame46 : Int) =>
   ∃ eq47 : Bool, EqB Try.prog .eql 51 (.tmp 97) (.tmp 98) (.agg #[.int .i64 t43, .int .i64 t44]) (.agg #[.int .i64 frame45, .int .i64 frame46]) eq47 ∧
   bif eq47 then
    (bif r37 == (141 : Int) then
    (C.tables_Space_Pages r6 (fun r48 w49 =>
   bif (r48.len : Int) == (1 : Int) then
    (C.law14_fixed  (fun r50 w51 =>
   K r50 w51) w49)
   else
    (K false w49)) w38)
   else
    (K false w38))
   else
    (K false w38))
   else
    (K false w38))
   else
    (K false w38))
   else
    (K false w38))
   else
    (K false w38))
   else
    (K false w38))
   else
    (K false w38))
   else
    (K false w38)) w36) w30) w27) w21) w19) ∧
   True) w17) ∧
   True)) w13) ∧
   True) ∧
   True) ∧
   True)) w5
set_option maxRecDepth 100000 in
theorem S.law14_TablesRights_ok (page1 : Int) (p2 : Int) (p3 : Int) (r4 : Int) (K : Bool → World → Prop) (w : World) (h : S.law14_TablesRights page1 p2 p3 r4 K w) : C.law14_TablesRights page1 p2 p3 r4 K w := by
  have e : fnV Try.prog Try.f14 (bodyOf Try.f14) (.t none (.u) (.t none (.u) (.t none (.t none (.u) (.t none (.t none (.u) (.u)) (.u))) (.t none (.r none (.one 0 1020 (.one 1 1020 (.one 2 1760 (.one 3 1760 (.one 4 1760 (.one 5 1536 (.one 6 1536 (.one 7 1536 (.one 8 1536 (.alt 9 (.one 10 0 (.alt 11 (.done) (.none))) (.none)))))))))))) (.t none (.r none (.one 0 3958 (.one 1 3952 (.one 2 3952 (.one 4 3944 (.one 5 3912 (.one 8 3784 (.one 9 3272 (.one 10 200 (.one 11 200 (.hold 6 8 61311 (.alt 3 (.alt 7 (.alt 12 (.one 13 0 (.one 14 0 (.one 15 0 (.done)))) (.none)) (.none)) (.none))))))))))))) (.t none (.u) (.t none (.u) (.t none (.u) (.t none (.u) (.t none (.u) (.u))))))))))) [(0, .c (.b))] [.int .i64 page1, .agg #[.int .i64 p2, .int .i64 p3], .int .i64 r4] K w = S.law14_TablesRights page1 p2 p3 r4 K w := by kernel_rfl
  exact okF_mk Try.func14 rfl (fn_sound names_ok follows_ok Try.func14 rfl (by kernel_rfl) (Eq.mpr e h))

/-- buttress/buttresslaw14.TablesFull -/
def S.law14_TablesFull (first1 : Int) (K : Bool → World → Prop) (w : World) : Prop :=
  C.tables_New  (fun r2 w3 =>
   bif r2.isNone then
    (K false w3)
   else
    (∀ l4 : Int → World → Prop,
   (∀ (i5 : Int) (w6 : World), (bif decide (i5 < (64 : Int)) then
    (∀ k7 : Bool → World → Prop,
   (∀ (t8 : Bool) (w9 : World), (bif t8 then
    (K false w9)
   else
    (l4 (IntKind.i64.wrap (i5 + (1 : Int))) w9)) → k7 t8 w9) →
   (C.tables_Space_Table r2 i5 (IntKind.i64.wrap ((andI .i64 first1 (65535 : Int)) + i5)) (fun r10 w11 =>
   bif r10 != (0 : Int) then
    (k7 true w11)
   else
    (C.tables_Space_Table r2 i5 (IntKind.i64.wrap ((andI .i64 first1 (65535 : Int)) + (100 : Int))) (fun r12 w13 =>
   bif r12 != (140 : Int) then
    (k7 true w13)
   else
    (bif decide (i5 < (63 : Int)) then
    (C.tables_Space_Table r2 (IntKind.i64.wrap (i5 + (1 : Int))) (IntKind.i64.wrap ((andI .i64 first1 (65535 : Int)) + i5)) (fun r14 w15 =>
   k7 (r14 != (140 : Int)) w15) w13)
   else
    (k7 false w13))) w11)) w6))
   else
    (C.tables_Space_Has r2 (64 : Int) (fun r16 r17 w18 =>
   C.tables_Space_Has r2 (63 : Int) (fun r19 r20 w21 =>
   bif !r17 then
    (bif r20 then
    (bif r19 == (IntKind.i64.wrap ((andI .i64 first1 (65535 : Int)) + (63 : Int))) then
    (C.tables_Space_Table r2 (64 : Int) (IntKind.i64.wrap ((andI .i64 first1 (65535 : Int)) + (200 : Int))) (fun r22 w23 =>
   bif r22 == (1 : Int) then
    (C.law14_fixed  (fun r24 w25 =>
   K r24 w25) w23)
   else
    (K false w23)) w21)
   else
    (K false w21))
   else
    (K false w21))
   else
    (K false w21)) w18) w6)) → l4 i5 w6) →
   l4 (0 : Int) w3)) w
set_option maxRecDepth 100000 in
theorem S.law14_TablesFull_ok (first1 : Int) (K : Bool → World → Prop) (w : World) (h : S.law14_TablesFull first1 K w) : C.law14_TablesFull first1 K w := by
  have e : fnV Try.prog Try.f15 (bodyOf Try.f15) (.t none (.u) (.t none (.u) (.t none (.t none (.u) (.t none (.t none (.u) (.u)) (.u))) (.t none (.t none (.u) (.t none (.t (some [(5, .c (.i .i64))]) (.t none (.t none (.u) (.t none (.u) (.u))) (.t none (.t none (.t none (.r (some [(47, .c (.b))]) .done) (.t none (.t none (.u) (.u)) (.u))) (.u)) (.u))) (.u)) (.u))) (.t none (.u) (.t none (.u) (.t none (.u) (.u)))))))) [(0, .c (.b))] [.int .i64 first1] K w = S.law14_TablesFull first1 K w := by kernel_rfl
  exact okF_mk Try.func15 rfl (fn_sound names_ok follows_ok Try.func15 rfl (by kernel_rfl) (Eq.mpr e h))

/-- buttress/buttresslaw14.TablesDoes -/
def S.law14_TablesDoes (script1 : Sl) (K : Bool → World → Prop) (w : World) : Prop :=
  C.tables_New  (fun r2 w3 =>
   Al w3 (.cells #[.slice none 0 0, .slice none 0 0] 80) fun w4 =>
   bif r2.isNone then
    (K false w4)
   else
    (∀ l5 : Option Addr → Int → World → Prop,
   (∀ (s6 : Option Addr) (i7 : Int) (w8 : World), (∀ k9 : Bool → World → Prop,
   (∀ (t10 : Bool) (w11 : World), (bif t10 then
    (∃ a12 : Addr, script1.a = some a12 ∧ 0 ≤ i7 ∧ i7 < (script1.len : Int) ∧
   LdL w11 (a12.add (i7.toNat * 5)) 0 [.i .i64, .i .i64, .i .i64, .i .i64, .i .i64] fun (t13 : Int) (t14 : Int) (t15 : Int) (t16 : Int) (t17 : Int) =>
   Al w11 (.cells #[.int .i64 (0 : Int), .int .i64 (0 : Int), .int .i64 (0 : Int), .int .i64 (0 : Int), .int .i64 (0 : Int)] 55) fun w18 =>
   StL w18 (Addr.mk w11.heap.size 0 none) 0 [.int .i64 t13, .int .i64 t14, .int .i64 t15, .int .i64 t16, .int .i64 t17] fun w19 =>
   Al w19 (.cells #[.int .i64 (0 : Int), .int .i64 (0 : Int)] 51) fun w20 =>
   Al w20 (.cells #[.int .i64 (0 : Int), .int .i64 (0 : Int)] 51) fun w21 =>
   StL w21 (Addr.mk w19.heap.size 0 none) 0 [.int .i64 (0 : Int), .int .i64 (0 : Int)] fun w22 =>
   StL w22 (Addr.mk w20.heap.size 0 none) 0 [.int .i64 (0 : Int), .int .i64 (0 : Int)] fun w23 =>
   Al w23 (.cells #[] 67) fun w24 =>
   Al w24 (.cells #[] 67) fun w25 =>
   ∃ kind26 : Int, w25.cell? (Addr.mk w11.heap.size 0 none) = some (.int .i64 kind26) ∧
   ∀ k27 : Option Addr → Int → Int → Sl → Sl → World → Prop,
   (∀ (s28 : Option Addr) (e29 : Int) (f30 : Int) (l31 : Sl) (m32 : Sl) (w33 : World), (∃ at34 : Int, w33.cell? ((Addr.mk w11.heap.size 0 none).add 1) = some (.int .i64 at34) ∧
   C.tables_Space_Walk s28 at34 (fun r35 r36 r37 w38 =>
   Al w38 (.cells #[.int .i64 (0 : Int), .int .i64 (0 : Int)] 51) fun w39 =>
   StL w39 (Addr.mk w38.heap.size 0 none) 0 [.int .i64 r35, .int .i64 r36] fun w40 =>
   ∃ at41 : Int, w40.cell? ((Addr.mk w11.heap.size 0 none).add 1) = some (.int .i64 at41) ∧
   C.ref14_Space_Walk (some (Addr.mk w3.heap.size 0 none)) at41 (fun r42 r43 r44 w45 =>
   Al w45 (.cells #[.int .i64 (0 : Int), .int .i64 (0 : Int)] 51) fun w46 =>
   StL w46 (Addr.mk w45.heap.size 0 none) 0 [.int .i64 r42, .int .i64 r43] fun w47 =>
   ∃ at48 : Int, w47.cell? ((Addr.mk w11.heap.size 0 none).add 1) = some (.int .i64 at48) ∧
   C.tables_Space_Has s28 at48 (fun r49 r50 w51 =>
   ∃ at52 : Int, w51.cell? ((Addr.mk w11.heap.size 0 none).add 1) = some (.int .i64 at52) ∧
   C.ref14_Space_Has (some (Addr.mk w3.heap.size 0 none)) at52 (fun r53 r54 w55 =>
   ∀ k56 : Bool → World → Prop,
   (∀ (t57 : Bool) (w58 : World), (bif t57 then
    (K false w58)
   else
    (l5 s28 (IntKind.i64.wrap (i7 + (1 : Int))) w58)) → k56 t57 w58) →
   (Dr w55 fun w59 =>
   bif e29 != f30 then
    ((((((((k56 true w59) ∧
   True) ∧
   True) ∧
   ((((k56 true w59) ∧
   True) ∧
   True) ∧
   True) ∧
   True) ∧
   True) ∧
   True) ∧
   True) ∧
   True)
   else
    (LdL w59 (Addr.mk w19.heap.size 0 none) 0 [.i .i64, .i .i64] fun (t60 : Int) (t61 : Int) =>
   LdL w59 (Addr.mk w20.heap.size 0 none) 0 [.i .i64, .i .i64] fun (t62 : Int) (t63 : Int) =>
   ∃ eq64 : Bool, EqB Try.prog .neq 51 (.tmp 166) (.tmp 167) (.agg #[.int .i64 t60, .int .i64 t61]) (.agg #[.int .i64 t62, .int .i64 t63]) eq64 ∧
   bif eq64 then
    ((((((((k56 true w59) ∧
   True) ∧
   True) ∧
   ((((k56 true w59) ∧
   True) ∧
   True) ∧
   True) ∧
   True) ∧
   True) ∧
   True) ∧
   True) ∧
   True)
   else
    ((C.ref14_Same l31 m32 (fun r65 w66 =>
   bif !r65 then
    (((((((k56 true w66) ∧
   True) ∧
   True) ∧
   ((((k56 true w66) ∧
   True) ∧
   True) ∧
   True) ∧
   True) ∧
   True) ∧
   True) ∧
   True)
   else
    (LdL w66 (Addr.mk w38.heap.size 0 none) 0 [.i .i64, .i .i64] fun (t67 : Int) (t68 : Int) =>
   LdL w66 (Addr.mk w45.heap.size 0 none) 0 [.i .i64, .i .i64] fun (t69 : Int) (t70 : Int) =>
   ∃ eq71 : Bool, EqB Try.prog .neq 51 (.tmp 177) (.tmp 178) (.agg #[.int .i64 t67, .int .i64 t68]) (.agg #[.int .i64 t69, .int .i64 t70]) eq71 ∧
   bif eq71 then
    (((((((k56 true w66) ∧
   True) ∧
   True) ∧
   ((((k56 true w66) ∧
   True) ∧
   True) ∧
   True) ∧
   True) ∧
   True) ∧
   True) ∧
   True)
   else
    (bif !(r37 == r44) then
    (((((((k56 true w66) ∧
   True) ∧
   True) ∧
   ((((k56 true w66) ∧
   True) ∧
   True) ∧
   True) ∧
   True) ∧
   True) ∧
   True) ∧
   True)
   else
    (bif r49 != r53 then
    (((((((k56 true w66) ∧
   True) ∧
   True) ∧
   ((((k56 true w66) ∧
   True) ∧
   True) ∧
   True) ∧
   True) ∧
   True) ∧
   True) ∧
   True)
   else
    (bif !(r50 == r54) then
    (((((((k56 true w66) ∧
   True) ∧
   True) ∧
   ((((k56 true w66) ∧
   True) ∧
   True) ∧
   True) ∧
   True) ∧
   True) ∧
   True) ∧
   True)
   else
    ((C.tables_Space_Pages s28 (fun r72 w73 =>
   (C.ref14_Space_Pages (some (Addr.mk w3.heap.size 0 none)) (fun r74 w75 =>
   (C.ref14_Same r72 r74 (fun r76 w77 =>
   bif !r76 then
    ((((k56 true w77) ∧
   True) ∧
   True) ∧
   ((((k56 true w77) ∧
   True) ∧
   True) ∧
   True) ∧
   True)
   else
    (∃ frame78 : Int, w77.cell? ((Addr.mk w11.heap.size 0 none).add 3) = some (.int .i64 frame78) ∧
   (C.tables_Space_Frames s28 frame78 (fun r79 w80 =>
   ∃ frame81 : Int, w80.cell? ((Addr.mk w11.heap.size 0 none).add 3) = some (.int .i64 frame81) ∧
   (C.ref14_Space_Frames (some (Addr.mk w3.heap.size 0 none)) frame81 (fun r82 w83 =>
   (C.ref09_Nums r79 r82 (fun r84 w85 =>
   k56 (!r84) w85) w83) ∧
   True) w80) ∧
   True) w77) ∧
   (∃ frame86 : Int, w77.cell? ((Addr.mk w11.heap.size 0 none).add 3) = some (.int .i64 frame86) ∧
   (C.tables_Space_Frames s28 frame78 (fun r87 w88 =>
   (C.ref14_Space_Frames (some (Addr.mk w3.heap.size 0 none)) frame86 (fun r89 w90 =>
   (C.ref09_Nums r87 r89 (fun r91 w92 =>
   k56 (!r91) w92) w90) ∧
   True) w88) ∧
   True) w77) ∧
   True) ∧
   True)) w75) ∧
   True) w73) ∧
   True) w66) ∧
   True)))))) w59) ∧
   True)))) w51) w47) w40) w33) → k27 s28 e29 f30 l31 m32 w33) →
   (bif kind26 == (0 : Int) then
    (∃ at93 : Int, w25.cell? ((Addr.mk w11.heap.size 0 none).add 1) = some (.int .i64 at93) ∧
   ∃ n94 : Int, w25.cell? ((Addr.mk w11.heap.size 0 none).add 2) = some (.int .i64 n94) ∧
   C.tables_Space_Table s6 at93 n94 (fun r95 w96 =>
   ∃ at97 : Int, w96.cell? ((Addr.mk w11.heap.size 0 none).add 1) = some (.int .i64 at97) ∧
   ∃ n98 : Int, w96.cell? ((Addr.mk w11.heap.size 0 none).add 2) = some (.int .i64 n98) ∧
   C.ref14_Space_Table (some (Addr.mk w3.heap.size 0 none)) at97 n98 (fun r99 w100 =>
   k27 s6 r95 r99 ⟨some (Addr.mk w23.heap.size 0 none), 0, 0⟩ ⟨some (Addr.mk w24.heap.size 0 none), 0, 0⟩ w100) w96) w25)
   else
    (bif kind26 == (1 : Int) then
    (∃ at101 : Int, w25.cell? ((Addr.mk w11.heap.size 0 none).add 1) = some (.int .i64 at101) ∧
   C.tables_Space_Drop s6 at101 (fun r102 r103 w104 =>
   ∃ at105 : Int, w104.cell? ((Addr.mk w11.heap.size 0 none).add 1) = some (.int .i64 at105) ∧
   C.ref14_Space_Drop (some (Addr.mk w3.heap.size 0 none)) at105 (fun r106 r107 w108 =>
   k27 s6 r103 r107 r102 r106 w108) w104) w25)
   else
    (bif kind26 == (2 : Int) then
    (∃ at109 : Int, w25.cell? ((Addr.mk w11.heap.size 0 none).add 1) = some (.int .i64 at109) ∧
   LdL w25 ((Addr.mk w11.heap.size 0 none).add 3) 0 [.i .i64, .i .i64] fun (p110 : Int) (p111 : Int) =>
   C.tables_Space_Map s6 at109 p110 p111 (fun r112 w113 =>
   ∃ at114 : Int, w113.cell? ((Addr.mk w11.heap.size 0 none).add 1) = some (.int .i64 at114) ∧
   LdL w113 ((Addr.mk w11.heap.size 0 none).add 3) 0 [.i .i64, .i .i64] fun (p115 : Int) (p116 : Int) =>
   C.ref14_Space_Map (some (Addr.mk w3.heap.size 0 none)) at114 p115 p116 (fun r117 w118 =>
   k27 s6 r112 r117 ⟨some (Addr.mk w23.heap.size 0 none), 0, 0⟩ ⟨some (Addr.mk w24.heap.size 0 none), 0, 0⟩ w118) w113) w25)
   else
    (bif kind26 == (3 : Int) then
    (∃ at119 : Int, w25.cell? ((Addr.mk w11.heap.size 0 none).add 1) = some (.int .i64 at119) ∧
   ∃ n120 : Int, w25.cell? ((Addr.mk w11.heap.size 0 none).add 2) = some (.int .i64 n120) ∧
   C.tables_Space_Rights s6 at119 n120 (fun r121 w122 =>
   ∃ at123 : Int, w122.cell? ((Addr.mk w11.heap.size 0 none).add 1) = some (.int .i64 at123) ∧
   ∃ n124 : Int, w122.cell? ((Addr.mk w11.heap.size 0 none).add 2) = some (.int .i64 n124) ∧
   C.ref14_Space_Rights (some (Addr.mk w3.heap.size 0 none)) at123 n124 (fun r125 w126 =>
   k27 s6 r121 r125 ⟨some (Addr.mk w23.heap.size 0 none), 0, 0⟩ ⟨some (Addr.mk w24.heap.size 0 none), 0, 0⟩ w126) w122) w25)
   else
    (bif kind26 == (4 : Int) then
    (∃ at127 : Int, w25.cell? ((Addr.mk w11.heap.size 0 none).add 1) = some (.int .i64 at127) ∧
   C.tables_Space_Unmap s6 at127 (fun r128 r129 r130 w131 =>
   StL w131 (Addr.mk w19.heap.size 0 none) 0 [.int .i64 r128, .int .i64 r129] fun w132 =>
   ∃ at133 : Int, w132.cell? ((Addr.mk w11.heap.size 0 none).add 1) = some (.int .i64 at133) ∧
   C.ref14_Space_Unmap (some (Addr.mk w3.heap.size 0 none)) at133 (fun r134 r135 r136 w137 =>
   StL w137 (Addr.mk w20.heap.size 0 none) 0 [.int .i64 r134, .int .i64 r135] fun w138 =>
   k27 s6 r130 r136 ⟨some (Addr.mk w23.heap.size 0 none), 0, 0⟩ ⟨some (Addr.mk w24.heap.size 0 none), 0, 0⟩ w138) w132) w25)
   else
    (bif kind26 == (5 : Int) then
    (C.tables_Space_Copy s6 (fun r139 w140 =>
   C.tables_Space_Drop s6 (0 : Int) (fun r141 r142 w143 =>
   ∃ at144 : Int, w143.cell? ((Addr.mk w11.heap.size 0 none).add 1) = some (.int .i64 at144) ∧
   C.tables_Space_Unmap s6 at144 (fun r145 r146 r147 w148 =>
   bif r139.isNone then
    (K false w148)
   else
    (k27 r139 (0 : Int) (0 : Int) ⟨some (Addr.mk w23.heap.size 0 none), 0, 0⟩ ⟨some (Addr.mk w24.heap.size 0 none), 0, 0⟩ w148)) w143) w140) w25)
   else
    (k27 s6 (0 : Int) (0 : Int) ⟨some (Addr.mk w23.heap.size 0 none), 0, 0⟩ ⟨some (Addr.mk w24.heap.size 0 none), 0, 0⟩ w25))))))))
   else
    (C.law14_fixed  (fun r149 w150 =>
   K r149 w150) w11)) → k9 t10 w11) →
   (bif decide (i7 < (script1.len : Int)) then
    (k9 (decide (i7 < (60 : Int))) w8)
   else
    (k9 false w8))) → l5 s6 i7 w8) →
   l5 r2 (0 : Int) w4)) w
set_option maxRecDepth 100000 in
theorem S.law14_TablesDoes_ok (script1 : Sl) (K : Bool → World → Prop) (w : World) (h : S.law14_TablesDoes script1 K w) : C.law14_TablesDoes script1 K w := by
  have e : fnV Try.prog Try.f16 (bodyOf Try.f16) (.t none (.u) (.t none (.u) (.t none (.t none (.u) (.t none (.t none (.u) (.u)) (.u))) (.t none (.t none (.u) (.t none (.t (some [(3, .c (.p)), (5, .c (.i .i64))]) (.t none (.t none (.r (some [(34, .c (.b))]) .done) (.t none (.u) (.u))) (.t none (.t none (.t none (.u) (.t none (.u) (.t none (.u) (.t none (.t none (.u) (.t none (.t none (.u) (.t (some [(3, .c (.p)), (7, .c (.i .i64)), (8, .c (.i .i64)), (11, .c (.s)), (12, .c (.s))]) (.t none (.u) (.u)) (.t none (.u) (.t none (.t none (.u) (.u)) (.t none (.u) (.t none (.t none (.u) (.u)) (.t none (.u) (.t none (.t none (.u) (.u)) (.t none (.u) (.t none (.t none (.u) (.u)) (.t none (.u) (.t none (.t none (.u) (.t none (.u) (.t none (.u) (.t none (.u) (.t none (.u) (.t none (.t none (.u) (.u)) (.u))))))) (.u))))))))))))) (.u))) (.t none (.u) (.t none (.u) (.t none (.u) (.t none (.u) (.t none (.r (some [(217, .c (.b))]) (.one 0 2 (.one 1 0 (.one 2 0 (.one 3 0 (.one 4 32 (.one 5 0 (.one 6 0 (.one 7 0 (.one 8 0 (.one 9 1024 (.one 10 0 (.alt 11 (.one 12 0 (.one 13 0 (.one 14 0 (.one 15 65536 (.one 16 0 (.one 17 0 (.one 18 0 (.one 19 0 (.one 20 2097152 (.one 21 0 (.one 22 0 (.one 23 0 (.one 24 0 (.one 25 67108864 (.one 26 0 (.one 27 0 (.one 28 0 (.one 29 0 (.one 30 2147483648 (.one 31 0 (.one 32 0 (.one 33 0 (.one 34 0 (.one 35 137438953472 (.one 37 68719476736 (.alt 36 (.alt 38 (.alt 39 (.one 40 0 (.one 41 0 (.one 42 0 (.one 43 4345269952970752 (.one 44 4222124650659840 (.one 45 4222124650659840 (.one 46 4222124650659840 (.one 48 4081387162304512 (.one 49 140737488355328 (.one 50 140737488355328 (.alt 47 (.one 51 0 (.alt 52 (.alt 53 (.one 54 0 (.one 55 0 (.done))) (.none)) (.none))) (.alt 51 (.alt 47 (.alt 52 (.alt 53 (.one 54 0 (.one 55 0 (.done))) (.none)) (.none)) (.none)) (.none))))))))))))) (.none)) (.none)) (.none))))))))))))))))))))))))))) (.none)))))))))))))) (.t none (.t none (.u) (.u)) (.u))))))))))) (.u)) (.u))) (.u)) (.u))) (.t none (.u) (.u)))))) [(0, .c (.b))] [.slice script1.a script1.len script1.cap] K w = S.law14_TablesDoes script1 K w := by kernel_rfl
  exact okF_mk Try.func16 rfl (fn_sound names_ok follows_ok Try.func16 rfl (by kernel_rfl) (Eq.mpr e h))

/-- buttress/buttresslaw14.fixed -/
def S.law14_fixed (K : Bool → World → Prop) (w : World) : Prop :=
  C.tables_New  (fun r1 w2 =>
   bif r1.isNone then
    (K false w2)
   else
    (Al w2 (.cells #[.int .i64 (0 : Int), .int .i64 (0 : Int)] 51) fun w3 =>
   StL w3 (Addr.mk w2.heap.size 0 none) 0 [.int .i64 (5 : Int), .int .i64 (1 : Int)] fun w4 =>
   LdL w4 (Addr.mk w2.heap.size 0 none) 0 [.i .i64, .i .i64] fun (t5 : Int) (t6 : Int) =>
   C.tables_Space_Map r1 (3 : Int) t5 t6 (fun r7 w8 =>
   Dr w8 fun w9 =>
   LdL w9 (Addr.mk w2.heap.size 0 none) 0 [.i .i64, .i .i64] fun (t10 : Int) (t11 : Int) =>
   (C.tables_Space_Table r1 (0 : Int) (9 : Int) (fun r12 w13 =>
   HdL w13 (Addr.mk w2.heap.size 0 none) 0 [.int .i64 t10, .int .i64 t11] (
   (C.tables_Space_Map r1 (3 : Int) t10 t11 (fun r14 w15 =>
   C.tables_Space_Walk r1 (3 : Int) (fun r16 r17 r18 w19 =>
   Al w19 (.cells #[.int .i64 (0 : Int), .int .i64 (0 : Int)] 51) fun w20 =>
   StL w20 (Addr.mk w19.heap.size 0 none) 0 [.int .i64 r16, .int .i64 r17] fun w21 =>
   LdL w21 (Addr.mk w2.heap.size 0 none) 0 [.i .i64, .i .i64] fun (t22 : Int) (t23 : Int) =>
   C.tables_Space_Map r1 (3 : Int) t22 t23 (fun r24 w25 =>
   C.tables_Space_Table r1 (1 : Int) (9 : Int) (fun r26 w27 =>
   C.tables_Space_Rights r1 (3 : Int) (3 : Int) (fun r28 w29 =>
   C.tables_Space_Has r1 (0 : Int) (fun r30 r31 w32 =>
   C.tables_Space_Frames r1 (5 : Int) (fun r33 w34 =>
   C.tables_Space_Drop r1 (0 : Int) (fun r35 r36 w37 =>
   C.tables_Space_Walk r1 (3 : Int) (fun r38 r39 r40 w41 =>
   Al w41 (.cells #[.int .i64 (0 : Int), .int .i64 (0 : Int)] 51) fun w42 =>
   StL w42 (Addr.mk w41.heap.size 0 none) 0 [.int .i64 r38, .int .i64 r39] fun w43 =>
   C.tables_Space_Unmap r1 (3 : Int) (fun r44 r45 r46 w47 =>
   Al w47 (.cells #[.int .i64 (0 : Int), .int .i64 (0 : Int)] 51) fun w48 =>
   StL w48 (Addr.mk w47.heap.size 0 none) 0 [.int .i64 r44, .int .i64 r45] fun w49 =>
   bif r7 == (141 : Int) then
    (bif r12 == (0 : Int) then
    (bif r14 == (0 : Int) then
    (LdL w49 (Addr.mk w19.heap.size 0 none) 0 [.i .i64, .i .i64] fun (t50 : Int) (t51 : Int) =>
   LdL w49 (Addr.mk w2.heap.size 0 none) 0 [.i .i64, .i .i64] fun (t52 : Int) (t53 : Int) =>
   ∃ eq54 : Bool, EqB Try.prog .eql 51 (.tmp 77) (.tmp 78) (.agg #[.int .i64 t50, .int .i64 t51]) (.agg #[.int .i64 t52, .int .i64 t53]) eq54 ∧
   bif eq54 then
    (bif r18 then
    (bif r24 == (140 : Int) then
    (bif r26 == (140 : Int) then
    (bif r28 == (0 : Int) then
    (bif r30 == (9 : Int) then
    (bif r31 then
    (Al w49 (.cells #[.int .i64 (3 : Int)] 3) fun w55 =>
   C.ref09_Nums r33 ⟨some (Addr.mk w49.heap.size 0 none), 1, 1⟩ (fun r56 w57 =>
   bif r56 then
    (Al w57 (.cells #[.int .i64 (3 : Int), .int .i64 (5 : Int), .int .i64 (3 : Int)] 67) fun w58 =>
   C.ref14_Same r35 ⟨some (Addr.mk w57.heap.size 0 none), 1, 1⟩ (fun r59 w60 =>
   bif r59 then
    (bif r36 == (0 : Int) then
    (bif !r40 then
    (bif r46 == (141 : Int) then
    (LdL w60 (Addr.mk w2.heap.size 0 none) 0 [.i .i64, .i .i64] fun (t61 : Int) (t62 : Int) =>
   C.tables_Space_Map r1 (4096 : Int) t61 t62 (fun r63 w64 =>
   K (r63 == (1 : Int)) w64) w60)
   else
    (K false w60))
   else
    (K false w60))
   else
    (K false w60))
   else
    (K false w60)) w58)
   else
    (K false w57)) w55)
   else
    (K false w49))
   else
    (K false w49))
   else
    (K false w49))
   else
    (K false w49))
   else
    (K false w49))
   else
    (K false w49))
   else
    (K false w49))
   else
    (K false w49))
   else
    (K false w49))
   else
    (K false w49)) w43) w37) w34) w32) w29) w27) w25) w21) w15) w13) ∧
   True)) w9) ∧
   True) w4)) w
set_option maxRecDepth 100000 in
theorem S.law14_fixed_ok (K : Bool → World → Prop) (w : World) (h : S.law14_fixed  K w) : C.law14_fixed  K w := by
  have e : fnV Try.prog Try.f41 (bodyOf Try.f41) (.t none (.u) (.t none (.u) (.t none (.t none (.u) (.t none (.t none (.u) (.u)) (.u))) (.t none (.u) (.t none (.u) (.t none (.r none (.one 0 12 (.one 2 10 (.hold 3 2 111 (.alt 1 (.alt 4 (.one 5 0 (.one 6 0 (.done))) (.none)) (.none)))))) (.t none (.u) (.t none (.u) (.t none (.u) (.t none (.u) (.t none (.u) (.t none (.u) (.t none (.u) (.t none (.u) (.t none (.u) (.u)))))))))))))))) [(0, .c (.b))] [] K w = S.law14_fixed  K w := by kernel_rfl
  exact okF_mk Try.func41 rfl (fn_sound names_ok follows_ok Try.func41 rfl (by kernel_rfl) (Eq.mpr e h))
end Go.Proofs.Ytmfbhjfkagnahaa
