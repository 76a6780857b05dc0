/- The functions' texts, and that a call comes to them. Printed by a program of mine (gen.py). -/
import Derived.Test.YtdlcejjiccknlaaC
set_option linter.unusedVariables false
namespace Go.Proofs.Ytdlcejjiccknlaa
open Go Go.Vc Go.Proofs

/-- buttress/words.Field -/
def S.words_Field (v1 : Int) (at2 : Int) (n3 : Int) (K : Int → Int → World → Prop) (w : World) : Prop :=
  C.words_there at2 n3 (fun r4 w5 =>
   bif !r4 then
    (K (0 : Int) (1 : Int) w5)
   else
    (Dr w5 fun w6 =>
   0 ≤ at2 ∧
   (C.words_low n3 (fun r7 w8 =>
   K (andI .u64 (shrI .u64 v1 at2) r7) (0 : Int) w8) w6) ∧
   True)) w
set_option maxRecDepth 100000 in
theorem S.words_Field_ok (v1 : Int) (at2 : Int) (n3 : Int) (K : Int → Int → World → Prop) (w : World) (h : S.words_Field v1 at2 n3 K w) : C.words_Field v1 at2 n3 K w := by
  have e : fnV Try.prog Try.f71 (bodyOf Try.f71) (.t none (.u) (.t none (.t none (.u) (.t none (.t none (.u) (.u)) (.u))) (.t none (.r none (.one 0 26 (.one 1 24 (.one 2 24 (.one 3 0 (.alt 4 (.one 5 0 (.one 6 0 (.one 7 0 (.done)))) (.none))))))) (.u)))) [(0, .c (.i .u64)), (1, .c (.i .i64))] [.int .u64 v1, .int .i64 at2, .int .i64 n3] K w = S.words_Field v1 at2 n3 K w := by kernel_rfl
  exact okF_mk Try.func71 rfl (fn_sound names_ok follows_ok Try.func71 rfl (by kernel_rfl) (Eq.mpr e h))

/-- buttress/words.there -/
def S.words_there (at1 : Int) (n2 : Int) (K : Bool → World → Prop) (w : World) : Prop :=
  bif decide (at1 ≥ (0 : Int)) then
    (bif decide (n2 ≥ (0 : Int)) then
    (bif decide (at1 ≤ (64 : Int)) then
    (K (decide (n2 ≤ (IntKind.i64.wrap ((64 : Int) - at1)))) w)
   else
    (K false w))
   else
    (K false w))
   else
    (K false w)
set_option maxRecDepth 100000 in
theorem S.words_there_ok (at1 : Int) (n2 : Int) (K : Bool → World → Prop) (w : World) (h : S.words_there at1 n2 K w) : C.words_there at1 n2 K w := by
  have e : fnV Try.prog Try.f82 (bodyOf Try.f82) (.t none (.u) (.t none (.u) (.u))) [(0, .c (.b))] [.int .i64 at1, .int .i64 n2] K w = S.words_there at1 n2 K w := by kernel_rfl
  exact okF_mk Try.func82 rfl (fn_sound names_ok follows_ok Try.func82 rfl (by kernel_rfl) (Eq.mpr e h))

/-- buttress/words.low -/
def S.words_low (n1 : Int) (K : Int → World → Prop) (w : World) : Prop :=
  0 ≤ n1 ∧
   K (IntKind.u64.wrap ((shlI .u64 (1 : Int) n1) - (1 : Int))) w
set_option maxRecDepth 100000 in
theorem S.words_low_ok (n1 : Int) (K : Int → World → Prop) (w : World) (h : S.words_low n1 K w) : C.words_low n1 K w := by
  have e : fnV Try.prog Try.f83 (bodyOf Try.f83) (.t none (.u) (.t none (.u) (.u))) [(0, .c (.i .u64))] [.int .i64 n1] K w = S.words_low n1 K w := by kernel_rfl
  exact okF_mk Try.func83 rfl (fn_sound names_ok follows_ok Try.func83 rfl (by kernel_rfl) (Eq.mpr e h))

/-- buttress/words.Mask -/
def S.words_Mask (n1 : Int) (K : Int → Int → World → Prop) (w : World) : Prop :=
  ∀ k2 : Bool → World → Prop,
   (∀ (t3 : Bool) (w4 : World), (bif t3 then
    (K (0 : Int) (1 : Int) w4)
   else
    (C.words_low n1 (fun r5 w6 =>
   K r5 (0 : Int) w6) w4)) → k2 t3 w4) →
   (bif decide (n1 < (0 : Int)) then
    (k2 true w)
   else
    (k2 (decide (n1 > (64 : Int))) w))
set_option maxRecDepth 100000 in
theorem S.words_Mask_ok (n1 : Int) (K : Int → Int → World → Prop) (w : World) (h : S.words_Mask n1 K w) : C.words_Mask n1 K w := by
  have e : fnV Try.prog Try.f84 (bodyOf Try.f84) (.t none (.u) (.t none (.t none (.r (some [(9, .c (.b))]) .done) (.t none (.t none (.u) (.u)) (.u))) (.t none (.u) (.u)))) [(0, .c (.i .u64)), (1, .c (.i .i64))] [.int .i64 n1] K w = S.words_Mask n1 K w := by kernel_rfl
  exact okF_mk Try.func84 rfl (fn_sound names_ok follows_ok Try.func84 rfl (by kernel_rfl) (Eq.mpr e h))
end Go.Proofs.Ytdlcejjiccknlaa
