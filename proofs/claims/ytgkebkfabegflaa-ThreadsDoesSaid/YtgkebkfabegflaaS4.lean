/- The functions' texts, and that a call comes to them. Printed by a program of mine (gen.py). -/
import Derived.Test.YtgkebkfabegflaaC
set_option linter.unusedVariables false
namespace Go.Proofs.Ytgkebkfabegflaa
open Go Go.Vc Go.Proofs

/-- buttress/words.Top -/
def S.words_Top (b1 : Int) (b2 : Int) (b3 : Int) (b4 : Int) (K : Int → World → Prop) (w : World) : Prop :=
  Al w (.cells #[.int .u64 b1, .int .u64 b2, .int .u64 b3, .int .u64 b4] 77) fun w5 =>
   ∀ l6 : Int → World → Prop,
   (∀ (t7 : Int) (w8 : World), (bif decide (t7 < (4 : Int)) then
    (0 ≤ IntKind.i64.wrap ((3 : Int) - t7) ∧ IntKind.i64.wrap ((3 : Int) - t7) < (4 : Int) ∧
   ∃ t9 : Int, w8.cell? ((Addr.mk w.heap.size 0 none).add ((IntKind.i64.wrap ((3 : Int) - t7)).toNat * 1)) = some (.int .u64 t9) ∧
   bif t9 != (0 : Int) then
    (0 ≤ IntKind.i64.wrap ((3 : Int) - t7) ∧ IntKind.i64.wrap ((3 : Int) - t7) < (4 : Int) ∧
   ∃ t10 : Int, w8.cell? ((Addr.mk w.heap.size 0 none).add ((IntKind.i64.wrap ((3 : Int) - t7)).toNat * 1)) = some (.int .u64 t10) ∧
   C.math_bits_Len64 t10 (fun r11 w12 =>
   K (IntKind.i64.wrap ((IntKind.i64.wrap ((IntKind.i64.wrap ((IntKind.i64.wrap ((3 : Int) - t7)) * (64 : Int))) + r11)) - (1 : Int))) w12) w8)
   else
    (l6 (IntKind.i64.wrap (t7 + (1 : Int))) w8))
   else
    (K (-1 : Int) w8)) → l6 t7 w8) →
   l6 (0 : Int) w5
set_option maxRecDepth 100000 in
theorem S.words_Top_ok (b1 : Int) (b2 : Int) (b3 : Int) (b4 : Int) (K : Int → World → Prop) (w : World) (h : S.words_Top b1 b2 b3 b4 K w) : C.words_Top b1 b2 b3 b4 K w := by
  have e : fnV Try.prog Try.f63 (bodyOf Try.f63) (.t none (.u) (.t none (.t none (.u) (.t none (.t (some [(5, .c (.i .i64))]) (.t none (.u) (.t none (.t none (.u) (.u)) (.t none (.t none (.t none (.u) (.t none (.u) (.t none (.u) (.t none (.t none (.u) (.u)) (.u))))) (.u)) (.u)))) (.u)) (.u))) (.t none (.u) (.u)))) [(0, .c (.i .i64))] [.agg #[.int .u64 b1, .int .u64 b2, .int .u64 b3, .int .u64 b4]] K w = S.words_Top b1 b2 b3 b4 K w := by kernel_rfl
  exact okF_mk Try.func63 rfl (fn_sound names_ok follows_ok Try.func63 rfl (by kernel_rfl) (Eq.mpr e h))

/-- buttress/words.Set -/
def S.words_Set (b1 : Int) (b2 : Int) (b3 : Int) (b4 : Int) (n5 : Int) (on6 : Bool) (K : Int → Int → Int → Int → Int → World → Prop) (w : World) : Prop :=
  Al w (.cells #[.int .u64 b1, .int .u64 b2, .int .u64 b3, .int .u64 b4] 77) fun w7 =>
   Al w7 (.cells #[.int .u64 (0 : Int), .int .u64 (0 : Int), .int .u64 (0 : Int), .int .u64 (0 : Int)] 77) fun w8 =>
   C.words_is n5 (fun r9 w10 =>
   bif !r9 then
    (StL w10 (Addr.mk w7.heap.size 0 none) 0 [.int .u64 (0 : Int), .int .u64 (0 : Int), .int .u64 (0 : Int), .int .u64 (0 : Int)] fun w11 =>
   LdL w11 (Addr.mk w7.heap.size 0 none) 0 [.i .u64, .i .u64, .i .u64, .i .u64] fun (r12 : Int) (r13 : Int) (r14 : Int) (r15 : Int) =>
   K r12 r13 r14 r15 (1 : Int) w11)
   else
    (Dr w10 fun w16 =>
   (64 : Int) ≠ 0 ∧
   0 ≤ IntKind.i64.wrap (n5.tdiv (64 : Int)) ∧ IntKind.i64.wrap (n5.tdiv (64 : Int)) < (4 : Int) ∧
   ∃ t17 : Int, w16.cell? ((Addr.mk w.heap.size 0 none).add ((IntKind.i64.wrap (n5.tdiv (64 : Int))).toNat * 1)) = some (.int .u64 t17) ∧
   (64 : Int) ≠ 0 ∧
   0 ≤ (n5.tmod (64 : Int)) ∧
   0 ≤ IntKind.i64.wrap (n5.tdiv (64 : Int)) ∧ IntKind.i64.wrap (n5.tdiv (64 : Int)) < (4 : Int) ∧
   (St w16 ((Addr.mk w.heap.size 0 none).add ((IntKind.i64.wrap (n5.tdiv (64 : Int))).toNat * 1)) (.int .u64 (andNotI .u64 t17 (shlI .u64 (1 : Int) (n5.tmod (64 : Int))))) fun w18 =>
   bif on6 then
    (Dr w18 fun w19 =>
   (64 : Int) ≠ 0 ∧
   0 ≤ IntKind.i64.wrap (n5.tdiv (64 : Int)) ∧ IntKind.i64.wrap (n5.tdiv (64 : Int)) < (4 : Int) ∧
   ∃ t20 : Int, w19.cell? ((Addr.mk w.heap.size 0 none).add ((IntKind.i64.wrap (n5.tdiv (64 : Int))).toNat * 1)) = some (.int .u64 t20) ∧
   (64 : Int) ≠ 0 ∧
   0 ≤ (n5.tmod (64 : Int)) ∧
   0 ≤ IntKind.i64.wrap (n5.tdiv (64 : Int)) ∧ IntKind.i64.wrap (n5.tdiv (64 : Int)) < (4 : Int) ∧
   (St w19 ((Addr.mk w.heap.size 0 none).add ((IntKind.i64.wrap (n5.tdiv (64 : Int))).toNat * 1)) (.int .u64 (orI .u64 t20 (shlI .u64 (1 : Int) (n5.tmod (64 : Int))))) fun w21 =>
   LdL w21 (Addr.mk w.heap.size 0 none) 0 [.i .u64, .i .u64, .i .u64, .i .u64] fun (t22 : Int) (t23 : Int) (t24 : Int) (t25 : Int) =>
   StL w21 (Addr.mk w7.heap.size 0 none) 0 [.int .u64 t22, .int .u64 t23, .int .u64 t24, .int .u64 t25] fun w26 =>
   LdL w26 (Addr.mk w7.heap.size 0 none) 0 [.i .u64, .i .u64, .i .u64, .i .u64] fun (r27 : Int) (r28 : Int) (r29 : Int) (r30 : Int) =>
   K r27 r28 r29 r30 (0 : Int) w26) ∧
   True)
   else
    (LdL w18 (Addr.mk w.heap.size 0 none) 0 [.i .u64, .i .u64, .i .u64, .i .u64] fun (t31 : Int) (t32 : Int) (t33 : Int) (t34 : Int) =>
   StL w18 (Addr.mk w7.heap.size 0 none) 0 [.int .u64 t31, .int .u64 t32, .int .u64 t33, .int .u64 t34] fun w35 =>
   LdL w35 (Addr.mk w7.heap.size 0 none) 0 [.i .u64, .i .u64, .i .u64, .i .u64] fun (r36 : Int) (r37 : Int) (r38 : Int) (r39 : Int) =>
   K r36 r37 r38 r39 (0 : Int) w35)) ∧
   True)) w8
set_option maxRecDepth 100000 in
theorem S.words_Set_ok (b1 : Int) (b2 : Int) (b3 : Int) (b4 : Int) (n5 : Int) (on6 : Bool) (K : Int → Int → Int → Int → Int → World → Prop) (w : World) (h : S.words_Set b1 b2 b3 b4 n5 on6 K w) : C.words_Set b1 b2 b3 b4 n5 on6 K w := by
  have e : fnV Try.prog Try.f79 (bodyOf Try.f79) (.t none (.u) (.t none (.t none (.u) (.t none (.t none (.u) (.u)) (.u))) (.t none (.r none (.one 0 112 (.one 1 112 (.one 2 112 (.one 3 112 (.one 4 0 (.one 5 0 (.one 6 0 (.one 7 0 (.one 8 0 (.alt 9 (.done) (.none)))))))))))) (.t none (.t none (.u) (.t none (.r none (.one 0 112 (.one 1 112 (.one 2 112 (.one 3 112 (.one 4 0 (.one 5 0 (.one 6 0 (.one 7 0 (.one 8 0 (.alt 9 (.done) (.none)))))))))))) (.u))) (.t none (.u) (.u)))))) [(0, .a [.i .u64, .i .u64, .i .u64, .i .u64]), (1, .c (.i .i64))] [.agg #[.int .u64 b1, .int .u64 b2, .int .u64 b3, .int .u64 b4], .int .i64 n5, .bool on6] K w = S.words_Set b1 b2 b3 b4 n5 on6 K w := by kernel_rfl
  exact okF_mk Try.func79 rfl (fn_sound names_ok follows_ok Try.func79 rfl (by kernel_rfl) (Eq.mpr e h))

/-- buttress/words.is -/
def S.words_is (n1 : Int) (K : Bool → World → Prop) (w : World) : Prop :=
  bif decide (n1 ≥ (0 : Int)) then
    (K (decide (n1 < (256 : Int))) w)
   else
    (K false w)
set_option maxRecDepth 100000 in
theorem S.words_is_ok (n1 : Int) (K : Bool → World → Prop) (w : World) (h : S.words_is n1 K w) : C.words_is n1 K w := by
  have e : fnV Try.prog Try.f82 (bodyOf Try.f82) (.t none (.u) (.t none (.u) (.u))) [(0, .c (.b))] [.int .i64 n1] K w = S.words_is n1 K w := by kernel_rfl
  exact okF_mk Try.func82 rfl (fn_sound names_ok follows_ok Try.func82 rfl (by kernel_rfl) (Eq.mpr e h))
end Go.Proofs.Ytgkebkfabegflaa
