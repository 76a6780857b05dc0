/- Calls of the program's functions, by name. Printed by a program of mine (gen.py). -/
import Derived.Test.YtgkebkfabegflaaProg
import Derived.Test.YtgkebkfabegflaaVc
set_option linter.unusedVariables false
namespace Go.Proofs.Ytgkebkfabegflaa
open Go Go.Vc Go.Proofs

def bodyOf (f : Func) : Code := f.body.getD .skip
theorem okF_mk {P : Program} {f : FuncId} {fn : Func} {c : Code} {p : Prop} (hf : P.funcs[f]? = some fn) (hb : fn.body = some c) (h : p) : okF P f p := by
  unfold okF; rw [hf]; simp only [hb]; exact h
theorem okF_out {P : Program} {f : FuncId} {p : Prop} (h : okF P f p) : p := by
  unfold okF at h; split at h <;> first | exact h.elim | (split at h <;> first | exact h.elim | exact h)
theorem names_ok : ∀ (f : Nat) (fn : Func), Try.prog.funcs[f]? = some fn → (fn.name == "runtime.NumGoroutine") = false := by
  have h : Try.prog.funcs.toList.all (fun fn => !(fn.name == "runtime.NumGoroutine")) = true := by kernel_rfl
  intro f fn hf
  have := List.all_eq_true.1 h fn (by rw [Array.mem_toList_iff]; exact Array.mem_of_getElem? hf)
  simpa using this
theorem follows_ok : Try.prog.follows .mixedOrders = true := by kernel_rfl

/-- buttress/buttresslaw10.ThreadsTurns -/
def C.law10_ThreadsTurns (n1 : Int) (prio2 : Int) (K : Bool → World → Prop) (w : World) : Prop :=
  okF Try.prog 3 (Calls Try.prog 3 #[.int .i64 n1, .int .i64 prio2] w fun en w' => ∃ r3 : Bool, en = .returned (.bool r3) ∧ K r3 w')

/-- buttress/buttresslaw10.ThreadsGreater -/
def C.law10_ThreadsGreater (prio1 : Int) (ticks2 : Int) (K : Bool → World → Prop) (w : World) : Prop :=
  okF Try.prog 4 (Calls Try.prog 4 #[.int .i64 prio1, .int .i64 ticks2] w fun en w' => ∃ r3 : Bool, en = .returned (.bool r3) ∧ K r3 w')

/-- buttress/buttresslaw10.ThreadsFull -/
def C.law10_ThreadsFull (cores1 : Int) (prio2 : Int) (K : Bool → World → Prop) (w : World) : Prop :=
  okF Try.prog 5 (Calls Try.prog 5 #[.int .i64 cores1, .int .i64 prio2] w fun en w' => ∃ r3 : Bool, en = .returned (.bool r3) ∧ K r3 w')

/-- buttress/buttresslaw10.ThreadsWaits -/
def C.law10_ThreadsWaits (prio1 : Int) (how2 : Int) (K : Bool → World → Prop) (w : World) : Prop :=
  okF Try.prog 6 (Calls Try.prog 6 #[.int .i64 prio1, .int .i64 how2] w fun en w' => ∃ r3 : Bool, en = .returned (.bool r3) ∧ K r3 w')

/-- buttress/buttresslaw10.ThreadsMoves -/
def C.law10_ThreadsMoves (prio1 : Int) (i2 : Int) (v3 : Int) (K : Bool → World → Prop) (w : World) : Prop :=
  okF Try.prog 7 (Calls Try.prog 7 #[.int .i64 prio1, .int .i64 i2, .int .u64 v3] w fun en w' => ∃ r4 : Bool, en = .returned (.bool r4) ∧ K r4 w')

/-- buttress/buttresslaw10.ThreadsPick -/
def C.law10_ThreadsPick (cores1 : Int) (core2 : Int) (script3 : Sl) (K : Bool → World → Prop) (w : World) : Prop :=
  okF Try.prog 8 (Calls Try.prog 8 #[.int .i64 cores1, .int .i64 core2, .slice script3.a script3.len script3.cap] w fun en w' => ∃ r4 : Bool, en = .returned (.bool r4) ∧ K r4 w')

/-- buttress/buttresslaw10.ThreadsNone -/
def C.law10_ThreadsNone (script1 : Sl) (o2 : Int) (o3 : Int) (o4 : Int) (o5 : Int) (o6 : Int) (K : Bool → World → Prop) (w : World) : Prop :=
  okF Try.prog 9 (Calls Try.prog 9 #[.slice script1.a script1.len script1.cap, .agg #[.int .i64 o2, .int .i64 o3, .int .i64 o4, .int .i64 o5, .int .u64 o6]] w fun en w' => ∃ r7 : Bool, en = .returned (.bool r7) ∧ K r7 w')

/-- buttress/buttresslaw10.ThreadsDoes -/
def C.law10_ThreadsDoes (cores1 : Int) (script2 : Sl) (K : Bool → World → Prop) (w : World) : Prop :=
  okF Try.prog 10 (Calls Try.prog 10 #[.int .i64 cores1, .slice script2.a script2.len script2.cap] w fun en w' => ∃ r3 : Bool, en = .returned (.bool r3) ∧ K r3 w')

/-- buttress/threads.New -/
def C.threads_New (cores1 : Int) (K : Option Addr → Int → World → Prop) (w : World) : Prop :=
  okF Try.prog 11 (Calls Try.prog 11 #[.int .i64 cores1] w fun en w' => ∃ r2 : Option Addr, ∃ r3 : Int, en = .returned (.tuple #[.pointer r2, .int .i64 r3]) ∧ K r2 r3 w')

/-- (*buttress/threads.Threads).Make -/
def C.threads_Threads_Make (t1 : Option Addr) (p2 : Int) (core3 : Int) (K : Int → Int → World → Prop) (w : World) : Prop :=
  okF Try.prog 12 (Calls Try.prog 12 #[.pointer t1, .int .i64 p2, .int .i64 core3] w fun en w' => ∃ r4 : Int, ∃ r5 : Int, en = .returned (.tuple #[.int .i64 r4, .int .i64 r5]) ∧ K r4 r5 w')

/-- (*buttress/threads.Threads).Resume -/
def C.threads_Threads_Resume (t1 : Option Addr) (id2 : Int) (K : Int → World → Prop) (w : World) : Prop :=
  okF Try.prog 13 (Calls Try.prog 13 #[.pointer t1, .int .i64 id2] w fun en w' => ∃ r3 : Int, en = .returned (.int .i64 r3) ∧ K r3 w')

/-- (*buttress/threads.Threads).Pick -/
def C.threads_Threads_Pick (t1 : Option Addr) (core2 : Int) (K : Int → Bool → World → Prop) (w : World) : Prop :=
  okF Try.prog 14 (Calls Try.prog 14 #[.pointer t1, .int .i64 core2] w fun en w' => ∃ r3 : Int, ∃ r4 : Bool, en = .returned (.tuple #[.int .i64 r3, .bool r4]) ∧ K r3 r4 w')

/-- (*buttress/threads.Threads).Runs -/
def C.threads_Threads_Runs (t1 : Option Addr) (core2 : Int) (K : Int → Bool → World → Prop) (w : World) : Prop :=
  okF Try.prog 15 (Calls Try.prog 15 #[.pointer t1, .int .i64 core2] w fun en w' => ∃ r3 : Int, ∃ r4 : Bool, en = .returned (.tuple #[.int .i64 r3, .bool r4]) ∧ K r3 r4 w')

/-- (*buttress/threads.Threads).Tick -/
def C.threads_Threads_Tick (t1 : Option Addr) (core2 : Int) (K : Bool → World → Prop) (w : World) : Prop :=
  okF Try.prog 16 (Calls Try.prog 16 #[.pointer t1, .int .i64 core2] w fun en w' => ∃ r3 : Bool, en = .returned (.bool r3) ∧ K r3 w')

/-- buttress/buttresslaw10.fixed -/
def C.law10_fixed (K : Bool → World → Prop) (w : World) : Prop :=
  okF Try.prog 17 (Calls Try.prog 17 #[] w fun en w' => ∃ r1 : Bool, en = .returned (.bool r1) ∧ K r1 w')

/-- (*buttress/threads.Threads).Get -/
def C.threads_Threads_Get (t1 : Option Addr) (id2 : Int) (K : Int → Int → Int → Int → Int → Int → Int → Int → Int → Int → Int → Int → Int → World → Prop) (w : World) : Prop :=
  okF Try.prog 18 (Calls Try.prog 18 #[.pointer t1, .int .i64 id2] w fun en w' => ∃ r3 : Int, ∃ r4 : Int, ∃ r5 : Int, ∃ r6 : Int, ∃ r7 : Int, ∃ r8 : Int, ∃ r9 : Int, ∃ r10 : Int, ∃ r11 : Int, ∃ r12 : Int, ∃ r13 : Int, ∃ r14 : Int, ∃ r15 : Int, en = .returned (.tuple #[.agg #[.int .i64 r3, .int .i64 r4, .int .i64 r5, .int .i64 r6, .int .u64 r7, .int .u64 r8, .int .u64 r9, .int .u64 r10, .int .u64 r11, .int .u64 r12, .int .u64 r13, .int .u64 r14], .int .i64 r15]) ∧ K r3 r4 r5 r6 r7 r8 r9 r10 r11 r12 r13 r14 r15 w')

/-- buttress/buttressref09.Nums -/
def C.ref09_Nums (a1 : Sl) (b2 : Sl) (K : Bool → World → Prop) (w : World) : Prop :=
  okF Try.prog 19 (Calls Try.prog 19 #[.slice a1.a a1.len a1.cap, .slice b2.a b2.len b2.cap] w fun en w' => ∃ r3 : Bool, en = .returned (.bool r3) ∧ K r3 w')

/-- (*buttress/threads.Threads).Line -/
def C.threads_Threads_Line (t1 : Option Addr) (core2 : Int) (p3 : Int) (K : Sl → World → Prop) (w : World) : Prop :=
  okF Try.prog 20 (Calls Try.prog 20 #[.pointer t1, .int .i64 core2, .int .i64 p3] w fun en w' => ∃ r4 : Sl, en = .returned (.slice r4.a r4.len r4.cap) ∧ K r4 w')

/-- (*buttress/threads.Threads).Block -/
def C.threads_Threads_Block (t1 : Option Addr) (id2 : Int) (K : Int → World → Prop) (w : World) : Prop :=
  okF Try.prog 21 (Calls Try.prog 21 #[.pointer t1, .int .i64 id2] w fun en w' => ∃ r3 : Int, en = .returned (.int .i64 r3) ∧ K r3 w')

/-- (*buttress/threads.Threads).Suspend -/
def C.threads_Threads_Suspend (t1 : Option Addr) (id2 : Int) (K : Int → World → Prop) (w : World) : Prop :=
  okF Try.prog 22 (Calls Try.prog 22 #[.pointer t1, .int .i64 id2] w fun en w' => ∃ r3 : Int, en = .returned (.int .i64 r3) ∧ K r3 w')

/-- (*buttress/threads.Threads).Reg -/
def C.threads_Threads_Reg (t1 : Option Addr) (id2 : Int) (i3 : Int) (v4 : Int) (K : Int → World → Prop) (w : World) : Prop :=
  okF Try.prog 23 (Calls Try.prog 23 #[.pointer t1, .int .i64 id2, .int .i64 i3, .int .u64 v4] w fun en w' => ∃ r5 : Int, en = .returned (.int .i64 r5) ∧ K r5 w')

/-- (*buttress/threads.Threads).Core -/
def C.threads_Threads_Core (t1 : Option Addr) (id2 : Int) (core3 : Int) (K : Int → World → Prop) (w : World) : Prop :=
  okF Try.prog 24 (Calls Try.prog 24 #[.pointer t1, .int .i64 id2, .int .i64 core3] w fun en w' => ∃ r4 : Int, en = .returned (.int .i64 r4) ∧ K r4 w')

/-- buttress/buttresslaw10.done -/
def C.law10_done (t1 : Option Addr) (o2 : Int) (o3 : Int) (o4 : Int) (o5 : Int) (o6 : Int) (K : World → Prop) (w : World) : Prop :=
  okF Try.prog 25 (Calls Try.prog 25 #[.pointer t1, .agg #[.int .i64 o2, .int .i64 o3, .int .i64 o4, .int .i64 o5, .int .u64 o6]] w fun en w' => en = .returned (.tuple #[]) ∧ K w')

/-- (*buttress/threads.Threads).Prio -/
def C.threads_Threads_Prio (t1 : Option Addr) (id2 : Int) (p3 : Int) (K : Int → World → Prop) (w : World) : Prop :=
  okF Try.prog 26 (Calls Try.prog 26 #[.pointer t1, .int .i64 id2, .int .i64 p3] w fun en w' => ∃ r4 : Int, en = .returned (.int .i64 r4) ∧ K r4 w')

/-- (*buttress/threads.Threads).Yield -/
def C.threads_Threads_Yield (t1 : Option Addr) (core2 : Int) (K : Bool → World → Prop) (w : World) : Prop :=
  okF Try.prog 27 (Calls Try.prog 27 #[.pointer t1, .int .i64 core2] w fun en w' => ∃ r3 : Bool, en = .returned (.bool r3) ∧ K r3 w')

/-- buttress/buttressref10.New -/
def C.ref10_New (cores1 : Int) (K : Option Addr → Int → World → Prop) (w : World) : Prop :=
  okF Try.prog 28 (Calls Try.prog 28 #[.int .i64 cores1] w fun en w' => ∃ r2 : Option Addr, ∃ r3 : Int, en = .returned (.tuple #[.pointer r2, .int .i64 r3]) ∧ K r2 r3 w')

/-- (*buttress/threads.Threads).Copy -/
def C.threads_Threads_Copy (t1 : Option Addr) (K : Option Addr → World → Prop) (w : World) : Prop :=
  okF Try.prog 29 (Calls Try.prog 29 #[.pointer t1] w fun en w' => ∃ r2 : Option Addr, en = .returned (.pointer r2) ∧ K r2 w')

/-- buttress/buttresslaw10.same -/
def C.law10_same (t1 : Option Addr) (k2 : Option Addr) (o3 : Int) (o4 : Int) (o5 : Int) (o6 : Int) (o7 : Int) (K : Bool → World → Prop) (w : World) : Prop :=
  okF Try.prog 30 (Calls Try.prog 30 #[.pointer t1, .pointer k2, .agg #[.int .i64 o3, .int .i64 o4, .int .i64 o5, .int .i64 o6, .int .u64 o7]] w fun en w' => ∃ r8 : Bool, en = .returned (.bool r8) ∧ K r8 w')

/-- (*buttress/buttressref10.Threads).Get -/
def C.ref10_Threads_Get (t1 : Option Addr) (id2 : Int) (K : Int → Int → Int → Int → Int → Int → Int → Int → Int → Int → Int → Int → Int → World → Prop) (w : World) : Prop :=
  okF Try.prog 31 (Calls Try.prog 31 #[.pointer t1, .int .i64 id2] w fun en w' => ∃ r3 : Int, ∃ r4 : Int, ∃ r5 : Int, ∃ r6 : Int, ∃ r7 : Int, ∃ r8 : Int, ∃ r9 : Int, ∃ r10 : Int, ∃ r11 : Int, ∃ r12 : Int, ∃ r13 : Int, ∃ r14 : Int, ∃ r15 : Int, en = .returned (.tuple #[.agg #[.int .i64 r3, .int .i64 r4, .int .i64 r5, .int .i64 r6, .int .u64 r7, .int .u64 r8, .int .u64 r9, .int .u64 r10, .int .u64 r11, .int .u64 r12, .int .u64 r13, .int .u64 r14], .int .i64 r15]) ∧ K r3 r4 r5 r6 r7 r8 r9 r10 r11 r12 r13 r14 r15 w')

/-- (*buttress/buttressref10.Threads).Runs -/
def C.ref10_Threads_Runs (t1 : Option Addr) (core2 : Int) (K : Int → Bool → World → Prop) (w : World) : Prop :=
  okF Try.prog 32 (Calls Try.prog 32 #[.pointer t1, .int .i64 core2] w fun en w' => ∃ r3 : Int, ∃ r4 : Bool, en = .returned (.tuple #[.int .i64 r3, .bool r4]) ∧ K r3 r4 w')

/-- (*buttress/buttressref10.Threads).Line -/
def C.ref10_Threads_Line (t1 : Option Addr) (core2 : Int) (p3 : Int) (K : Sl → World → Prop) (w : World) : Prop :=
  okF Try.prog 33 (Calls Try.prog 33 #[.pointer t1, .int .i64 core2, .int .i64 p3] w fun en w' => ∃ r4 : Sl, en = .returned (.slice r4.a r4.len r4.cap) ∧ K r4 w')

/-- slices.Repeat[[]int,int] -/
def C.slices_Repeat_int_int (x1 : Sl) (count2 : Int) (K : Sl → World → Prop) (w : World) : Prop :=
  okF Try.prog 34 (Calls Try.prog 34 #[.slice x1.a x1.len x1.cap, .int .i64 count2] w fun en w' => ∃ r3 : Sl, en = .returned (.slice r3.a r3.len r3.cap) ∧ K r3 w')

/-- buttress/ready.New -/
def C.ready_New (K : Option Addr → World → Prop) (w : World) : Prop :=
  okF Try.prog 35 (Calls Try.prog 35 #[] w fun en w' => ∃ r1 : Option Addr, en = .returned (.pointer r1) ∧ K r1 w')

/-- buttress/threads.prio -/
def C.threads_prio (n1 : Int) (K : Bool → World → Prop) (w : World) : Prop :=
  okF Try.prog 36 (Calls Try.prog 36 #[.int .i64 n1] w fun en w' => ∃ r2 : Bool, en = .returned (.bool r2) ∧ K r2 w')

/-- (*buttress/threads.Threads).core -/
def C.threads_Threads_core (t1 : Option Addr) (n2 : Int) (K : Bool → World → Prop) (w : World) : Prop :=
  okF Try.prog 37 (Calls Try.prog 37 #[.pointer t1, .int .i64 n2] w fun en w' => ∃ r3 : Bool, en = .returned (.bool r3) ∧ K r3 w')

/-- (*buttress/threads.Threads).one -/
def C.threads_Threads_one (t1 : Option Addr) (id2 : Int) (K : Option Addr → World → Prop) (w : World) : Prop :=
  okF Try.prog 38 (Calls Try.prog 38 #[.pointer t1, .int .i64 id2] w fun en w' => ∃ r3 : Option Addr, en = .returned (.pointer r3) ∧ K r3 w')

/-- (*buttress/threads.Threads).lineUp -/
def C.threads_Threads_lineUp (t1 : Option Addr) (id2 : Int) (K : World → Prop) (w : World) : Prop :=
  okF Try.prog 39 (Calls Try.prog 39 #[.pointer t1, .int .i64 id2] w fun en w' => en = .returned (.tuple #[]) ∧ K w')

/-- (*buttress/ready.Queue).Next -/
def C.ready_Queue_Next (q1 : Option Addr) (K : Int → Bool → World → Prop) (w : World) : Prop :=
  okF Try.prog 40 (Calls Try.prog 40 #[.pointer q1] w fun en w' => ∃ r2 : Int, ∃ r3 : Bool, en = .returned (.tuple #[.int .i64 r2, .bool r3]) ∧ K r2 r3 w')

/-- (*buttress/threads.Threads).leave -/
def C.threads_Threads_leave (t1 : Option Addr) (id2 : Int) (state3 : Int) (K : World → Prop) (w : World) : Prop :=
  okF Try.prog 41 (Calls Try.prog 41 #[.pointer t1, .int .i64 id2, .int .i64 state3] w fun en w' => en = .returned (.tuple #[]) ∧ K w')

/-- (*buttress/ready.lines).Line -/
def C.ready_lines_Line (q1 : Option Addr) (prio2 : Int) (K : Sl → World → Prop) (w : World) : Prop :=
  okF Try.prog 42 (Calls Try.prog 42 #[.pointer q1, .int .i64 prio2] w fun en w' => ∃ r3 : Sl, en = .returned (.slice r3.a r3.len r3.cap) ∧ K r3 w')

/-- buttress/threads.first -/
def C.threads_first (l1 : Sl) (K : Int → World → Prop) (w : World) : Prop :=
  okF Try.prog 43 (Calls Try.prog 43 #[.slice l1.a l1.len l1.cap] w fun en w' => ∃ r2 : Int, en = .returned (.int .i64 r2) ∧ K r2 w')

/-- buttress/threads.when -/
def C.threads_when (so1 : Bool) (e2 : Int) (K : Int → World → Prop) (w : World) : Prop :=
  okF Try.prog 44 (Calls Try.prog 44 #[.bool so1, .int .i64 e2] w fun en w' => ∃ r3 : Int, en = .returned (.int .i64 r3) ∧ K r3 w')

/-- slices.Clone[[]buttress/api.Thread,buttress/api.Thread] -/
def C.slices_Clone_api_Thread_api_Thread (s1 : Sl) (K : Sl → World → Prop) (w : World) : Prop :=
  okF Try.prog 45 (Calls Try.prog 45 #[.slice s1.a s1.len s1.cap] w fun en w' => ∃ r2 : Sl, en = .returned (.slice r2.a r2.len r2.cap) ∧ K r2 w')

/-- slices.Clone[[]int,int] -/
def C.slices_Clone_int_int (s1 : Sl) (K : Sl → World → Prop) (w : World) : Prop :=
  okF Try.prog 46 (Calls Try.prog 46 #[.slice s1.a s1.len s1.cap] w fun en w' => ∃ r2 : Sl, en = .returned (.slice r2.a r2.len r2.cap) ∧ K r2 w')

/-- (*buttress/ready.Queue).Copy -/
def C.ready_Queue_Copy (q1 : Option Addr) (K : Option Addr → World → Prop) (w : World) : Prop :=
  okF Try.prog 47 (Calls Try.prog 47 #[.pointer q1] w fun en w' => ∃ r2 : Option Addr, en = .returned (.pointer r2) ∧ K r2 w')

/-- (*buttress/buttressref10.Threads).Make -/
def C.ref10_Threads_Make (t1 : Option Addr) (p2 : Int) (core3 : Int) (K : Int → Int → World → Prop) (w : World) : Prop :=
  okF Try.prog 48 (Calls Try.prog 48 #[.pointer t1, .int .i64 p2, .int .i64 core3] w fun en w' => ∃ r4 : Int, ∃ r5 : Int, en = .returned (.tuple #[.int .i64 r4, .int .i64 r5]) ∧ K r4 r5 w')

/-- (*buttress/buttressref10.Threads).Reg -/
def C.ref10_Threads_Reg (t1 : Option Addr) (id2 : Int) (i3 : Int) (v4 : Int) (K : Int → World → Prop) (w : World) : Prop :=
  okF Try.prog 49 (Calls Try.prog 49 #[.pointer t1, .int .i64 id2, .int .i64 i3, .int .u64 v4] w fun en w' => ∃ r5 : Int, en = .returned (.int .i64 r5) ∧ K r5 w')

/-- (*buttress/buttressref10.Threads).Resume -/
def C.ref10_Threads_Resume (t1 : Option Addr) (id2 : Int) (K : Int → World → Prop) (w : World) : Prop :=
  okF Try.prog 50 (Calls Try.prog 50 #[.pointer t1, .int .i64 id2] w fun en w' => ∃ r3 : Int, en = .returned (.int .i64 r3) ∧ K r3 w')

/-- (*buttress/buttressref10.Threads).Suspend -/
def C.ref10_Threads_Suspend (t1 : Option Addr) (id2 : Int) (K : Int → World → Prop) (w : World) : Prop :=
  okF Try.prog 51 (Calls Try.prog 51 #[.pointer t1, .int .i64 id2] w fun en w' => ∃ r3 : Int, en = .returned (.int .i64 r3) ∧ K r3 w')

/-- (*buttress/buttressref10.Threads).Block -/
def C.ref10_Threads_Block (t1 : Option Addr) (id2 : Int) (K : Int → World → Prop) (w : World) : Prop :=
  okF Try.prog 52 (Calls Try.prog 52 #[.pointer t1, .int .i64 id2] w fun en w' => ∃ r3 : Int, en = .returned (.int .i64 r3) ∧ K r3 w')

/-- (*buttress/buttressref10.Threads).Prio -/
def C.ref10_Threads_Prio (t1 : Option Addr) (id2 : Int) (p3 : Int) (K : Int → World → Prop) (w : World) : Prop :=
  okF Try.prog 53 (Calls Try.prog 53 #[.pointer t1, .int .i64 id2, .int .i64 p3] w fun en w' => ∃ r4 : Int, en = .returned (.int .i64 r4) ∧ K r4 w')

/-- (*buttress/buttressref10.Threads).Core -/
def C.ref10_Threads_Core (t1 : Option Addr) (id2 : Int) (core3 : Int) (K : Int → World → Prop) (w : World) : Prop :=
  okF Try.prog 54 (Calls Try.prog 54 #[.pointer t1, .int .i64 id2, .int .i64 core3] w fun en w' => ∃ r4 : Int, en = .returned (.int .i64 r4) ∧ K r4 w')

/-- (*buttress/buttressref10.Threads).Pick -/
def C.ref10_Threads_Pick (t1 : Option Addr) (core2 : Int) (K : Int → Bool → World → Prop) (w : World) : Prop :=
  okF Try.prog 55 (Calls Try.prog 55 #[.pointer t1, .int .i64 core2] w fun en w' => ∃ r3 : Int, ∃ r4 : Bool, en = .returned (.tuple #[.int .i64 r3, .bool r4]) ∧ K r3 r4 w')

/-- (*buttress/buttressref10.Threads).Yield -/
def C.ref10_Threads_Yield (t1 : Option Addr) (core2 : Int) (K : Bool → World → Prop) (w : World) : Prop :=
  okF Try.prog 56 (Calls Try.prog 56 #[.pointer t1, .int .i64 core2] w fun en w' => ∃ r3 : Bool, en = .returned (.bool r3) ∧ K r3 w')

/-- (*buttress/buttressref10.Threads).Tick -/
def C.ref10_Threads_Tick (t1 : Option Addr) (core2 : Int) (K : Bool → World → Prop) (w : World) : Prop :=
  okF Try.prog 57 (Calls Try.prog 57 #[.pointer t1, .int .i64 core2] w fun en w' => ∃ r3 : Bool, en = .returned (.bool r3) ∧ K r3 w')

/-- (*buttress/buttressref10.Threads).is -/
def C.ref10_Threads_is (t1 : Option Addr) (id2 : Int) (K : Bool → World → Prop) (w : World) : Prop :=
  okF Try.prog 58 (Calls Try.prog 58 #[.pointer t1, .int .i64 id2] w fun en w' => ∃ r3 : Bool, en = .returned (.bool r3) ∧ K r3 w')

/-- (*buttress/buttressref10.Threads).core -/
def C.ref10_Threads_core (t1 : Option Addr) (n2 : Int) (K : Bool → World → Prop) (w : World) : Prop :=
  okF Try.prog 59 (Calls Try.prog 59 #[.pointer t1, .int .i64 n2] w fun en w' => ∃ r3 : Bool, en = .returned (.bool r3) ∧ K r3 w')

/-- (*buttress/buttressref09.Queue).Line -/
def C.ref09_Queue_Line (q1 : Option Addr) (prio2 : Int) (K : Sl → World → Prop) (w : World) : Prop :=
  okF Try.prog 60 (Calls Try.prog 60 #[.pointer q1, .int .i64 prio2] w fun en w' => ∃ r3 : Sl, en = .returned (.slice r3.a r3.len r3.cap) ∧ K r3 w')

/-- math/bits.Mul -/
def C.math_bits_Mul (x1 : Int) (y2 : Int) (K : Int → Int → World → Prop) (w : World) : Prop :=
  okF Try.prog 61 (Calls Try.prog 61 #[.int .u64 x1, .int .u64 y2] w fun en w' => ∃ r3 : Int, ∃ r4 : Int, en = .returned (.tuple #[.int .u64 r3, .int .u64 r4]) ∧ K r3 r4 w')

/-- (*buttress/ready.Queue).Put -/
def C.ready_Queue_Put (q1 : Option Addr) (prio2 : Int) (n3 : Int) (K : Int → World → Prop) (w : World) : Prop :=
  okF Try.prog 62 (Calls Try.prog 62 #[.pointer q1, .int .i64 prio2, .int .i64 n3] w fun en w' => ∃ r4 : Int, en = .returned (.int .i64 r4) ∧ K r4 w')

/-- buttress/words.Top -/
def C.words_Top (b1 : Int) (b2 : Int) (b3 : Int) (b4 : Int) (K : Int → World → Prop) (w : World) : Prop :=
  okF Try.prog 63 (Calls Try.prog 63 #[.agg #[.int .u64 b1, .int .u64 b2, .int .u64 b3, .int .u64 b4]] w fun en w' => ∃ r5 : Int, en = .returned (.int .i64 r5) ∧ K r5 w')

/-- (*buttress/ready.Queue).Take -/
def C.ready_Queue_Take (q1 : Option Addr) (n2 : Int) (K : Int → World → Prop) (w : World) : Prop :=
  okF Try.prog 64 (Calls Try.prog 64 #[.pointer q1, .int .i64 n2] w fun en w' => ∃ r3 : Int, en = .returned (.int .i64 r3) ∧ K r3 w')

/-- slices.IndexFunc[[]buttress/api.Errno,buttress/api.Errno] -/
def C.slices_IndexFunc_api_Errno_api_Errno (s1 : Sl) (f2 : Value) (K : Int → World → Prop) (w : World) : Prop :=
  okF Try.prog 65 (Calls Try.prog 65 #[.slice s1.a s1.len s1.cap, f2] w fun en w' => ∃ r3 : Int, en = .returned (.int .i64 r3) ∧ K r3 w')

/-- buttress/threads.first$1 -/
def C.threads_first_1 (e1 : Int) (K : Bool → World → Prop) (w : World) : Prop :=
  okF Try.prog 66 (Calls Try.prog 66 #[.int .i64 e1] w fun en w' => ∃ r2 : Bool, en = .returned (.bool r2) ∧ K r2 w')

/-- buttress/buttressref10.prio -/
def C.ref10_prio (n1 : Int) (K : Bool → World → Prop) (w : World) : Prop :=
  okF Try.prog 67 (Calls Try.prog 67 #[.int .i64 n1] w fun en w' => ∃ r2 : Bool, en = .returned (.bool r2) ∧ K r2 w')

/-- (*buttress/buttressref10.Threads).up -/
def C.ref10_Threads_up (t1 : Option Addr) (id2 : Int) (K : World → Prop) (w : World) : Prop :=
  okF Try.prog 68 (Calls Try.prog 68 #[.pointer t1, .int .i64 id2] w fun en w' => en = .returned (.tuple #[]) ∧ K w')

/-- (*buttress/buttressref10.Threads).out -/
def C.ref10_Threads_out (t1 : Option Addr) (id2 : Int) (K : World → Prop) (w : World) : Prop :=
  okF Try.prog 69 (Calls Try.prog 69 #[.pointer t1, .int .i64 id2] w fun en w' => en = .returned (.tuple #[]) ∧ K w')

/-- (*buttress/buttressref09.Queue).Next -/
def C.ref09_Queue_Next (q1 : Option Addr) (K : Int → Bool → World → Prop) (w : World) : Prop :=
  okF Try.prog 70 (Calls Try.prog 70 #[.pointer q1] w fun en w' => ∃ r2 : Int, ∃ r3 : Bool, en = .returned (.tuple #[.int .i64 r2, .bool r3]) ∧ K r2 r3 w')

/-- math/bits.Mul32 -/
def C.math_bits_Mul32 (x1 : Int) (y2 : Int) (K : Int → Int → World → Prop) (w : World) : Prop :=
  okF Try.prog 71 (Calls Try.prog 71 #[.int .u32 x1, .int .u32 y2] w fun en w' => ∃ r3 : Int, ∃ r4 : Int, en = .returned (.tuple #[.int .u32 r3, .int .u32 r4]) ∧ K r3 r4 w')

/-- math/bits.Mul64 -/
def C.math_bits_Mul64 (x1 : Int) (y2 : Int) (K : Int → Int → World → Prop) (w : World) : Prop :=
  okF Try.prog 72 (Calls Try.prog 72 #[.int .u64 x1, .int .u64 y2] w fun en w' => ∃ r3 : Int, ∃ r4 : Int, en = .returned (.tuple #[.int .u64 r3, .int .u64 r4]) ∧ K r3 r4 w')

/-- (*buttress/ready.lines).note -/
def C.ready_lines_note (q1 : Option Addr) (prio2 : Int) (K : World → Prop) (w : World) : Prop :=
  okF Try.prog 73 (Calls Try.prog 73 #[.pointer q1, .int .i64 prio2] w fun en w' => en = .returned (.tuple #[]) ∧ K w')

/-- math/bits.Len64 -/
def C.math_bits_Len64 (x1 : Int) (K : Int → World → Prop) (w : World) : Prop :=
  okF Try.prog 74 (Calls Try.prog 74 #[.int .u64 x1] w fun en w' => ∃ r2 : Int, en = .returned (.int .i64 r2) ∧ K r2 w')

/-- slices.DeleteFunc[[]int,int] -/
def C.slices_DeleteFunc_int_int (s1 : Sl) (del2 : Value) (K : Sl → World → Prop) (w : World) : Prop :=
  okF Try.prog 75 (Calls Try.prog 75 #[.slice s1.a s1.len s1.cap, del2] w fun en w' => ∃ r3 : Sl, en = .returned (.slice r3.a r3.len r3.cap) ∧ K r3 w')

/-- (*buttress/ready.Queue).Take$1 -/
def C.ready_Queue_Take_1 (x1 : Int) (a2 : Addr) (K : Bool → World → Prop) (w : World) : Prop :=
  okF Try.prog 76 (Calls Try.prog 76 #[.int .i64 x1, .pointer (some a2)] w fun en w' => ∃ r3 : Bool, en = .returned (.bool r3) ∧ K r3 w')

/-- (*buttress/buttressref09.Queue).Put -/
def C.ref09_Queue_Put (q1 : Option Addr) (prio2 : Int) (n3 : Int) (K : Int → World → Prop) (w : World) : Prop :=
  okF Try.prog 77 (Calls Try.prog 77 #[.pointer q1, .int .i64 prio2, .int .i64 n3] w fun en w' => ∃ r4 : Int, en = .returned (.int .i64 r4) ∧ K r4 w')

/-- (*buttress/buttressref09.Queue).Take -/
def C.ref09_Queue_Take (q1 : Option Addr) (n2 : Int) (K : Int → World → Prop) (w : World) : Prop :=
  okF Try.prog 78 (Calls Try.prog 78 #[.pointer q1, .int .i64 n2] w fun en w' => ∃ r3 : Int, en = .returned (.int .i64 r3) ∧ K r3 w')

/-- buttress/words.Set -/
def C.words_Set (b1 : Int) (b2 : Int) (b3 : Int) (b4 : Int) (n5 : Int) (on6 : Bool) (K : Int → Int → Int → Int → Int → World → Prop) (w : World) : Prop :=
  okF Try.prog 79 (Calls Try.prog 79 #[.agg #[.int .u64 b1, .int .u64 b2, .int .u64 b3, .int .u64 b4], .int .i64 n5, .bool on6] w fun en w' => ∃ r7 : Int, ∃ r8 : Int, ∃ r9 : Int, ∃ r10 : Int, ∃ r11 : Int, en = .returned (.tuple #[.agg #[.int .u64 r7, .int .u64 r8, .int .u64 r9, .int .u64 r10], .int .i64 r11]) ∧ K r7 r8 r9 r10 r11 w')

/-- slices.IndexFunc[[]int,int] -/
def C.slices_IndexFunc_int_int (s1 : Sl) (f2 : Value) (K : Int → World → Prop) (w : World) : Prop :=
  okF Try.prog 80 (Calls Try.prog 80 #[.slice s1.a s1.len s1.cap, f2] w fun en w' => ∃ r3 : Int, en = .returned (.int .i64 r3) ∧ K r3 w')

/-- (*buttress/buttressref09.Queue).Where -/
def C.ref09_Queue_Where (q1 : Option Addr) (n2 : Int) (K : Int → Bool → World → Prop) (w : World) : Prop :=
  okF Try.prog 81 (Calls Try.prog 81 #[.pointer q1, .int .i64 n2] w fun en w' => ∃ r3 : Int, ∃ r4 : Bool, en = .returned (.tuple #[.int .i64 r3, .bool r4]) ∧ K r3 r4 w')

/-- buttress/words.is -/
def C.words_is (n1 : Int) (K : Bool → World → Prop) (w : World) : Prop :=
  okF Try.prog 82 (Calls Try.prog 82 #[.int .i64 n1] w fun en w' => ∃ r2 : Bool, en = .returned (.bool r2) ∧ K r2 w')
end Go.Proofs.Ytgkebkfabegflaa
