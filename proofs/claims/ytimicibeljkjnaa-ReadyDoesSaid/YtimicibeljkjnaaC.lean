/- Calls of the program's functions, by name. Printed by a program of mine (gen.py). -/
import Derived.Test.YtimicibeljkjnaaProg
import Derived.Test.YtimicibeljkjnaaVc
set_option linter.unusedVariables false
namespace Go.Proofs.Ytimicibeljkjnaa
open Go Go.Vc Go.Proofs

def bodyOf (f : Func) : Code := f.body.getD .skip
theorem okF_mk {P : Program} {f : FuncId} {fn : Func} {c : Code} {p : Prop} (hf : P.funcs[f]? = some fn) (hb : fn.body = some c) (h : p) : okF P f p := by
  unfold okF; rw [hf]; simp only [hb]; exact h
theorem okF_out {P : Program} {f : FuncId} {p : Prop} (h : okF P f p) : p := by
  unfold okF at h; split at h <;> first | exact h.elim | (split at h <;> first | exact h.elim | exact h)
theorem names_ok : ∀ (f : Nat) (fn : Func), Try.prog.funcs[f]? = some fn → (fn.name == "runtime.NumGoroutine") = false := by
  have h : Try.prog.funcs.toList.all (fun fn => !(fn.name == "runtime.NumGoroutine")) = true := by kernel_rfl
  intro f fn hf
  have := List.all_eq_true.1 h fn (by rw [Array.mem_toList_iff]; exact Array.mem_of_getElem? hf)
  simpa using this
theorem follows_ok : Try.prog.follows .mixedOrders = true := by kernel_rfl

/-- buttress/buttresslaw09.ReadyFirst -/
def C.law09_ReadyFirst (l1 : Sl) (K : Bool → World → Prop) (w : World) : Prop :=
  okF Try.prog 3 (Calls Try.prog 3 #[.slice l1.a l1.len l1.cap] w fun en w' => ∃ r2 : Bool, en = .returned (.bool r2) ∧ K r2 w')

/-- buttress/buttresslaw09.ReadyTurns -/
def C.law09_ReadyTurns (l1 : Sl) (prio2 : Int) (K : Bool → World → Prop) (w : World) : Prop :=
  okF Try.prog 4 (Calls Try.prog 4 #[.slice l1.a l1.len l1.cap, .int .i64 prio2] w fun en w' => ∃ r3 : Bool, en = .returned (.bool r3) ∧ K r3 w')

/-- buttress/buttresslaw09.ReadyTakes -/
def C.law09_ReadyTakes (l1 : Sl) (n2 : Int) (K : Bool → World → Prop) (w : World) : Prop :=
  okF Try.prog 5 (Calls Try.prog 5 #[.slice l1.a l1.len l1.cap, .int .i64 n2] w fun en w' => ∃ r3 : Bool, en = .returned (.bool r3) ∧ K r3 w')

/-- buttress/buttresslaw09.ReadyLines -/
def C.law09_ReadyLines (l1 : Sl) (o2 : Int) (o3 : Int) (o4 : Int) (p5 : Int) (K : Bool → World → Prop) (w : World) : Prop :=
  okF Try.prog 6 (Calls Try.prog 6 #[.slice l1.a l1.len l1.cap, .agg #[.int .i64 o2, .int .i64 o3, .int .i64 o4], .int .i64 p5] w fun en w' => ∃ r6 : Bool, en = .returned (.bool r6) ∧ K r6 w')

/-- buttress/buttresslaw09.ReadyBits -/
def C.law09_ReadyBits (l1 : Sl) (K : Bool → World → Prop) (w : World) : Prop :=
  okF Try.prog 7 (Calls Try.prog 7 #[.slice l1.a l1.len l1.cap] w fun en w' => ∃ r2 : Bool, en = .returned (.bool r2) ∧ K r2 w')

/-- buttress/buttresslaw09.ReadyApart -/
def C.law09_ReadyApart (l1 : Sl) (o2 : Int) (o3 : Int) (o4 : Int) (K : Bool → World → Prop) (w : World) : Prop :=
  okF Try.prog 8 (Calls Try.prog 8 #[.slice l1.a l1.len l1.cap, .agg #[.int .i64 o2, .int .i64 o3, .int .i64 o4]] w fun en w' => ∃ r5 : Bool, en = .returned (.bool r5) ∧ K r5 w')

/-- buttress/buttresslaw09.ReadyDoes -/
def C.law09_ReadyDoes (script1 : Sl) (K : Bool → World → Prop) (w : World) : Prop :=
  okF Try.prog 9 (Calls Try.prog 9 #[.slice script1.a script1.len script1.cap] w fun en w' => ∃ r2 : Bool, en = .returned (.bool r2) ∧ K r2 w')

/-- buttress/ready.New -/
def C.ready_New (K : Option Addr → World → Prop) (w : World) : Prop :=
  okF Try.prog 10 (Calls Try.prog 10 #[] w fun en w' => ∃ r1 : Option Addr, en = .returned (.pointer r1) ∧ K r1 w')

/-- (*buttress/ready.Queue).Put -/
def C.ready_Queue_Put (q1 : Option Addr) (prio2 : Int) (n3 : Int) (K : Int → World → Prop) (w : World) : Prop :=
  okF Try.prog 11 (Calls Try.prog 11 #[.pointer q1, .int .i64 prio2, .int .i64 n3] w fun en w' => ∃ r4 : Int, en = .returned (.int .i64 r4) ∧ K r4 w')

/-- (*buttress/ready.Queue).Next -/
def C.ready_Queue_Next (q1 : Option Addr) (K : Int → Bool → World → Prop) (w : World) : Prop :=
  okF Try.prog 12 (Calls Try.prog 12 #[.pointer q1] w fun en w' => ∃ r2 : Int, ∃ r3 : Bool, en = .returned (.tuple #[.int .i64 r2, .bool r3]) ∧ K r2 r3 w')

/-- (*buttress/ready.lines).Where -/
def C.ready_lines_Where (q1 : Option Addr) (n2 : Int) (K : Int → Bool → World → Prop) (w : World) : Prop :=
  okF Try.prog 13 (Calls Try.prog 13 #[.pointer q1, .int .i64 n2] w fun en w' => ∃ r3 : Int, ∃ r4 : Bool, en = .returned (.tuple #[.int .i64 r3, .bool r4]) ∧ K r3 r4 w')

/-- (*buttress/ready.Queue).Take -/
def C.ready_Queue_Take (q1 : Option Addr) (n2 : Int) (K : Int → World → Prop) (w : World) : Prop :=
  okF Try.prog 14 (Calls Try.prog 14 #[.pointer q1, .int .i64 n2] w fun en w' => ∃ r3 : Int, en = .returned (.int .i64 r3) ∧ K r3 w')

/-- (*buttress/ready.lines).Bits -/
def C.ready_lines_Bits (q1 : Option Addr) (K : Int → Int → Int → Int → World → Prop) (w : World) : Prop :=
  okF Try.prog 15 (Calls Try.prog 15 #[.pointer q1] w fun en w' => ∃ r2 : Int, ∃ r3 : Int, ∃ r4 : Int, ∃ r5 : Int, en = .returned (.agg #[.int .u64 r2, .int .u64 r3, .int .u64 r4, .int .u64 r5]) ∧ K r2 r3 r4 r5 w')

/-- buttress/buttresslaw09.fixed -/
def C.law09_fixed (K : Bool → World → Prop) (w : World) : Prop :=
  okF Try.prog 16 (Calls Try.prog 16 #[] w fun en w' => ∃ r1 : Bool, en = .returned (.bool r1) ∧ K r1 w')

/-- (*buttress/ready.lines).Line -/
def C.ready_lines_Line (q1 : Option Addr) (prio2 : Int) (K : Sl → World → Prop) (w : World) : Prop :=
  okF Try.prog 17 (Calls Try.prog 17 #[.pointer q1, .int .i64 prio2] w fun en w' => ∃ r3 : Sl, en = .returned (.slice r3.a r3.len r3.cap) ∧ K r3 w')

/-- (*buttress/ready.Queue).Turn -/
def C.ready_Queue_Turn (q1 : Option Addr) (K : Bool → World → Prop) (w : World) : Prop :=
  okF Try.prog 18 (Calls Try.prog 18 #[.pointer q1] w fun en w' => ∃ r2 : Bool, en = .returned (.bool r2) ∧ K r2 w')

/-- buttress/buttressref09.Nums -/
def C.ref09_Nums (a1 : Sl) (b2 : Sl) (K : Bool → World → Prop) (w : World) : Prop :=
  okF Try.prog 19 (Calls Try.prog 19 #[.slice a1.a a1.len a1.cap, .slice b2.a b2.len b2.cap] w fun en w' => ∃ r3 : Bool, en = .returned (.bool r3) ∧ K r3 w')

/-- (*buttress/ready.Queue).Copy -/
def C.ready_Queue_Copy (q1 : Option Addr) (K : Option Addr → World → Prop) (w : World) : Prop :=
  okF Try.prog 20 (Calls Try.prog 20 #[.pointer q1] w fun en w' => ∃ r2 : Option Addr, en = .returned (.pointer r2) ∧ K r2 w')

/-- (*buttress/buttressref09.Queue).Put -/
def C.ref09_Queue_Put (q1 : Option Addr) (prio2 : Int) (n3 : Int) (K : Int → World → Prop) (w : World) : Prop :=
  okF Try.prog 21 (Calls Try.prog 21 #[.pointer q1, .int .i64 prio2, .int .i64 n3] w fun en w' => ∃ r4 : Int, en = .returned (.int .i64 r4) ∧ K r4 w')

/-- (*buttress/buttressref09.Queue).Take -/
def C.ref09_Queue_Take (q1 : Option Addr) (n2 : Int) (K : Int → World → Prop) (w : World) : Prop :=
  okF Try.prog 22 (Calls Try.prog 22 #[.pointer q1, .int .i64 n2] w fun en w' => ∃ r3 : Int, en = .returned (.int .i64 r3) ∧ K r3 w')

/-- (*buttress/buttressref09.Queue).Turn -/
def C.ref09_Queue_Turn (q1 : Option Addr) (K : Bool → World → Prop) (w : World) : Prop :=
  okF Try.prog 23 (Calls Try.prog 23 #[.pointer q1] w fun en w' => ∃ r2 : Bool, en = .returned (.bool r2) ∧ K r2 w')

/-- (*buttress/buttressref09.Queue).Next -/
def C.ref09_Queue_Next (q1 : Option Addr) (K : Int → Bool → World → Prop) (w : World) : Prop :=
  okF Try.prog 24 (Calls Try.prog 24 #[.pointer q1] w fun en w' => ∃ r2 : Int, ∃ r3 : Bool, en = .returned (.tuple #[.int .i64 r2, .bool r3]) ∧ K r2 r3 w')

/-- (*buttress/buttressref09.Queue).Where -/
def C.ref09_Queue_Where (q1 : Option Addr) (n2 : Int) (K : Int → Bool → World → Prop) (w : World) : Prop :=
  okF Try.prog 25 (Calls Try.prog 25 #[.pointer q1, .int .i64 n2] w fun en w' => ∃ r3 : Int, ∃ r4 : Bool, en = .returned (.tuple #[.int .i64 r3, .bool r4]) ∧ K r3 r4 w')

/-- (*buttress/buttressref09.Queue).Line -/
def C.ref09_Queue_Line (q1 : Option Addr) (prio2 : Int) (K : Sl → World → Prop) (w : World) : Prop :=
  okF Try.prog 26 (Calls Try.prog 26 #[.pointer q1, .int .i64 prio2] w fun en w' => ∃ r3 : Sl, en = .returned (.slice r3.a r3.len r3.cap) ∧ K r3 w')

/-- (*buttress/buttressref09.Queue).Bits -/
def C.ref09_Queue_Bits (q1 : Option Addr) (K : Int → Int → Int → Int → World → Prop) (w : World) : Prop :=
  okF Try.prog 27 (Calls Try.prog 27 #[.pointer q1] w fun en w' => ∃ r2 : Int, ∃ r3 : Int, ∃ r4 : Int, ∃ r5 : Int, en = .returned (.agg #[.int .u64 r2, .int .u64 r3, .int .u64 r4, .int .u64 r5]) ∧ K r2 r3 r4 r5 w')

/-- (*buttress/ready.lines).note -/
def C.ready_lines_note (q1 : Option Addr) (prio2 : Int) (K : World → Prop) (w : World) : Prop :=
  okF Try.prog 28 (Calls Try.prog 28 #[.pointer q1, .int .i64 prio2] w fun en w' => en = .returned (.tuple #[]) ∧ K w')

/-- buttress/words.Top -/
def C.words_Top (b1 : Int) (b2 : Int) (b3 : Int) (b4 : Int) (K : Int → World → Prop) (w : World) : Prop :=
  okF Try.prog 29 (Calls Try.prog 29 #[.agg #[.int .u64 b1, .int .u64 b2, .int .u64 b3, .int .u64 b4]] w fun en w' => ∃ r5 : Int, en = .returned (.int .i64 r5) ∧ K r5 w')

/-- slices.DeleteFunc[[]int,int] -/
def C.slices_DeleteFunc_int_int (s1 : Sl) (del2 : Value) (K : Sl → World → Prop) (w : World) : Prop :=
  okF Try.prog 30 (Calls Try.prog 30 #[.slice s1.a s1.len s1.cap, del2] w fun en w' => ∃ r3 : Sl, en = .returned (.slice r3.a r3.len r3.cap) ∧ K r3 w')

/-- (*buttress/ready.Queue).Take$1 -/
def C.ready_Queue_Take_1 (x1 : Int) (a2 : Addr) (K : Bool → World → Prop) (w : World) : Prop :=
  okF Try.prog 31 (Calls Try.prog 31 #[.int .i64 x1, .pointer (some a2)] w fun en w' => ∃ r3 : Bool, en = .returned (.bool r3) ∧ K r3 w')

/-- slices.Clone[[]int,int] -/
def C.slices_Clone_int_int (s1 : Sl) (K : Sl → World → Prop) (w : World) : Prop :=
  okF Try.prog 32 (Calls Try.prog 32 #[.slice s1.a s1.len s1.cap] w fun en w' => ∃ r2 : Sl, en = .returned (.slice r2.a r2.len r2.cap) ∧ K r2 w')

/-- buttress/buttressref01.Set -/
def C.ref01_Set (b1 : Int) (b2 : Int) (b3 : Int) (b4 : Int) (n5 : Int) (is6 : Bool) (K : Int → Int → Int → Int → Int → World → Prop) (w : World) : Prop :=
  okF Try.prog 33 (Calls Try.prog 33 #[.agg #[.int .u64 b1, .int .u64 b2, .int .u64 b3, .int .u64 b4], .int .i64 n5, .bool is6] w fun en w' => ∃ r7 : Int, ∃ r8 : Int, ∃ r9 : Int, ∃ r10 : Int, ∃ r11 : Int, en = .returned (.tuple #[.agg #[.int .u64 r7, .int .u64 r8, .int .u64 r9, .int .u64 r10], .int .i64 r11]) ∧ K r7 r8 r9 r10 r11 w')

/-- buttress/words.Set -/
def C.words_Set (b1 : Int) (b2 : Int) (b3 : Int) (b4 : Int) (n5 : Int) (on6 : Bool) (K : Int → Int → Int → Int → Int → World → Prop) (w : World) : Prop :=
  okF Try.prog 34 (Calls Try.prog 34 #[.agg #[.int .u64 b1, .int .u64 b2, .int .u64 b3, .int .u64 b4], .int .i64 n5, .bool on6] w fun en w' => ∃ r7 : Int, ∃ r8 : Int, ∃ r9 : Int, ∃ r10 : Int, ∃ r11 : Int, en = .returned (.tuple #[.agg #[.int .u64 r7, .int .u64 r8, .int .u64 r9, .int .u64 r10], .int .i64 r11]) ∧ K r7 r8 r9 r10 r11 w')

/-- math/bits.Len64 -/
def C.math_bits_Len64 (x1 : Int) (K : Int → World → Prop) (w : World) : Prop :=
  okF Try.prog 35 (Calls Try.prog 35 #[.int .u64 x1] w fun en w' => ∃ r2 : Int, en = .returned (.int .i64 r2) ∧ K r2 w')

/-- slices.IndexFunc[[]int,int] -/
def C.slices_IndexFunc_int_int (s1 : Sl) (f2 : Value) (K : Int → World → Prop) (w : World) : Prop :=
  okF Try.prog 36 (Calls Try.prog 36 #[.slice s1.a s1.len s1.cap, f2] w fun en w' => ∃ r3 : Int, en = .returned (.int .i64 r3) ∧ K r3 w')

/-- buttress/buttressref01.Has -/
def C.ref01_Has (b1 : Int) (b2 : Int) (b3 : Int) (b4 : Int) (n5 : Int) (K : Bool → World → Prop) (w : World) : Prop :=
  okF Try.prog 37 (Calls Try.prog 37 #[.agg #[.int .u64 b1, .int .u64 b2, .int .u64 b3, .int .u64 b4], .int .i64 n5] w fun en w' => ∃ r6 : Bool, en = .returned (.bool r6) ∧ K r6 w')

/-- buttress/buttressref01.Two -/
def C.ref01_Two (n1 : Int) (K : Int → World → Prop) (w : World) : Prop :=
  okF Try.prog 38 (Calls Try.prog 38 #[.int .i64 n1] w fun en w' => ∃ r2 : Int, en = .returned (.int .u64 r2) ∧ K r2 w')

/-- buttress/words.is -/
def C.words_is (n1 : Int) (K : Bool → World → Prop) (w : World) : Prop :=
  okF Try.prog 39 (Calls Try.prog 39 #[.int .i64 n1] w fun en w' => ∃ r2 : Bool, en = .returned (.bool r2) ∧ K r2 w')

/-- buttress/buttressref01.Bit -/
def C.ref01_Bit (v1 : Int) (n2 : Int) (K : Bool → World → Prop) (w : World) : Prop :=
  okF Try.prog 40 (Calls Try.prog 40 #[.int .u64 v1, .int .i64 n2] w fun en w' => ∃ r3 : Bool, en = .returned (.bool r3) ∧ K r3 w')
end Go.Proofs.Ytimicibeljkjnaa
