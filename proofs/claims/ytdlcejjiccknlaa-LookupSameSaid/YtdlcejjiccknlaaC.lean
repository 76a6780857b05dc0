/- Calls of the program's functions, by name. Printed by a program of mine (gen.py). -/
import Derived.Test.YtdlcejjiccknlaaProg
import Derived.Test.YtdlcejjiccknlaaVc
set_option linter.unusedVariables false
namespace Go.Proofs.Ytdlcejjiccknlaa
open Go Go.Vc Go.Proofs

def bodyOf (f : Func) : Code := f.body.getD .skip
theorem okF_mk {P : Program} {f : FuncId} {fn : Func} {c : Code} {p : Prop} (hf : P.funcs[f]? = some fn) (hb : fn.body = some c) (h : p) : okF P f p := by
  unfold okF; rw [hf]; simp only [hb]; exact h
theorem okF_out {P : Program} {f : FuncId} {p : Prop} (h : okF P f p) : p := by
  unfold okF at h; split at h <;> first | exact h.elim | (split at h <;> first | exact h.elim | exact h)
theorem names_ok : ∀ (f : Nat) (fn : Func), Try.prog.funcs[f]? = some fn → (fn.name == "runtime.NumGoroutine") = false := by
  have h : Try.prog.funcs.toList.all (fun fn => !(fn.name == "runtime.NumGoroutine")) = true := by kernel_rfl
  intro f fn hf
  have := List.all_eq_true.1 h fn (by rw [Array.mem_toList_iff]; exact Array.mem_of_getElem? hf)
  simpa using this
theorem follows_ok : Try.prog.follows .mixedOrders = true := by kernel_rfl

/-- buttress/buttresslaw05.SlotsFull -/
def C.law05_SlotsFull (bits1 : Int) (drop2 : Int) (K : Bool → World → Prop) (w : World) : Prop :=
  okF Try.prog 3 (Calls Try.prog 3 #[.int .i64 bits1, .int .i64 drop2] w fun en w' => ∃ r3 : Bool, en = .returned (.bool r3) ∧ K r3 w')

/-- buttress/buttresslaw06.LookupWays -/
def C.law06_LookupWays (b1 : Sl) (b2 : Sl) (root3 : Int) (root4 : Int) (root5 : Int) (root6 : Int) (root7 : Int) (root8 : Int) (way9 : Sl) (K : Bool → World → Prop) (w : World) : Prop :=
  okF Try.prog 4 (Calls Try.prog 4 #[.agg #[.slice b1.a b1.len b1.cap, .slice b2.a b2.len b2.cap], .agg #[.int .i64 root3, .int .i64 root4, .int .i64 root5, .int .u64 root6, .int .u64 root7, .int .i64 root8], .slice way9.a way9.len way9.cap] w fun en w' => ∃ r10 : Bool, en = .returned (.bool r10) ∧ K r10 w')

/-- buttress/buttresslaw06.LookupOnly -/
def C.law06_LookupOnly (b1 : Sl) (b2 : Sl) (o3 : Int) (o4 : Int) (o5 : Int) (o6 : Int) (o7 : Int) (o8 : Int) (o9 : Int) (o10 : Int) (K : Bool → World → Prop) (w : World) : Prop :=
  okF Try.prog 5 (Calls Try.prog 5 #[.agg #[.slice b1.a b1.len b1.cap, .slice b2.a b2.len b2.cap], .agg #[.int .i64 o3, .int .i64 o4, .int .i64 o5, .int .u64 o6, .int .u64 o7, .int .i64 o8, .int .u64 o9, .int .i64 o10]] w fun en w' => ∃ r11 : Bool, en = .returned (.bool r11) ∧ K r11 w')

/-- buttress/buttresslaw06.LookupHigh -/
def C.law06_LookupHigh (b1 : Sl) (b2 : Sl) (o3 : Int) (o4 : Int) (o5 : Int) (o6 : Int) (o7 : Int) (o8 : Int) (o9 : Int) (o10 : Int) (more11 : Int) (K : Bool → World → Prop) (w : World) : Prop :=
  okF Try.prog 6 (Calls Try.prog 6 #[.agg #[.slice b1.a b1.len b1.cap, .slice b2.a b2.len b2.cap], .agg #[.int .i64 o3, .int .i64 o4, .int .i64 o5, .int .u64 o6, .int .u64 o7, .int .i64 o8, .int .u64 o9, .int .i64 o10], .int .u64 more11] w fun en w' => ∃ r12 : Bool, en = .returned (.bool r12) ∧ K r12 w')

/-- buttress/buttresslaw06.LookupFree -/
def C.law06_LookupFree (bits1 : Int) (addr2 : Int) (depth3 : Int) (K : Bool → World → Prop) (w : World) : Prop :=
  okF Try.prog 7 (Calls Try.prog 7 #[.int .i64 bits1, .int .u64 addr2, .int .i64 depth3] w fun en w' => ∃ r4 : Bool, en = .returned (.bool r4) ∧ K r4 w')

/-- buttress/buttresslaw06.LookupDepths -/
def C.law06_LookupDepths (b1 : Sl) (b2 : Sl) (o3 : Int) (o4 : Int) (o5 : Int) (o6 : Int) (o7 : Int) (o8 : Int) (o9 : Int) (o10 : Int) (K : Bool → World → Prop) (w : World) : Prop :=
  okF Try.prog 8 (Calls Try.prog 8 #[.agg #[.slice b1.a b1.len b1.cap, .slice b2.a b2.len b2.cap], .agg #[.int .i64 o3, .int .i64 o4, .int .i64 o5, .int .u64 o6, .int .u64 o7, .int .i64 o8, .int .u64 o9, .int .i64 o10]] w fun en w' => ∃ r11 : Bool, en = .returned (.bool r11) ∧ K r11 w')

/-- buttress/buttresslaw05.SlotsKeeps -/
def C.law05_SlotsKeeps (script1 : Sl) (K : Bool → World → Prop) (w : World) : Prop :=
  okF Try.prog 9 (Calls Try.prog 9 #[.slice script1.a script1.len script1.cap] w fun en w' => ∃ r2 : Bool, en = .returned (.bool r2) ∧ K r2 w')

/-- buttress/buttresslaw05.SlotsSwaps -/
def C.law05_SlotsSwaps (l1 : Sl) (a2 : Int) (a3 : Int) (b4 : Int) (b5 : Int) (K : Bool → World → Prop) (w : World) : Prop :=
  okF Try.prog 10 (Calls Try.prog 10 #[.slice l1.a l1.len l1.cap, .agg #[.int .i64 a2, .int .i64 a3], .agg #[.int .i64 b4, .int .i64 b5]] w fun en w' => ∃ r6 : Bool, en = .returned (.bool r6) ∧ K r6 w')

/-- buttress/buttresslaw05.SlotsMoves -/
def C.law05_SlotsMoves (l1 : Sl) (a2 : Int) (a3 : Int) (b4 : Int) (b5 : Int) (K : Bool → World → Prop) (w : World) : Prop :=
  okF Try.prog 11 (Calls Try.prog 11 #[.slice l1.a l1.len l1.cap, .agg #[.int .i64 a2, .int .i64 a3], .agg #[.int .i64 b4, .int .i64 b5]] w fun en w' => ∃ r6 : Bool, en = .returned (.bool r6) ∧ K r6 w')

/-- buttress/buttresslaw05.SlotsDrops -/
def C.law05_SlotsDrops (l1 : Sl) (k2 : Int) (K : Bool → World → Prop) (w : World) : Prop :=
  okF Try.prog 12 (Calls Try.prog 12 #[.slice l1.a l1.len l1.cap, .int .i64 k2] w fun en w' => ∃ r3 : Bool, en = .returned (.bool r3) ∧ K r3 w')

/-- buttress/buttresslaw05.SlotsOrder -/
def C.law05_SlotsOrder (l1 : Sl) (K : Bool → World → Prop) (w : World) : Prop :=
  okF Try.prog 13 (Calls Try.prog 13 #[.slice l1.a l1.len l1.cap] w fun en w' => ∃ r2 : Bool, en = .returned (.bool r2) ∧ K r2 w')

/-- buttress/buttresslaw05.SlotsNone -/
def C.law05_SlotsNone (l1 : Sl) (node2 : Int) (i3 : Int) (K : Bool → World → Prop) (w : World) : Prop :=
  okF Try.prog 14 (Calls Try.prog 14 #[.slice l1.a l1.len l1.cap, .int .i64 node2, .int .i64 i3] w fun en w' => ∃ r4 : Bool, en = .returned (.bool r4) ∧ K r4 w')

/-- buttress/buttresslaw05.SlotsDoes -/
def C.law05_SlotsDoes (script1 : Sl) (K : Bool → World → Prop) (w : World) : Prop :=
  okF Try.prog 15 (Calls Try.prog 15 #[.slice script1.a script1.len script1.cap] w fun en w' => ∃ r2 : Bool, en = .returned (.bool r2) ∧ K r2 w')

/-- buttress/buttresslaw06.LookupSlots -/
def C.law06_LookupSlots (b1 : Sl) (b2 : Sl) (o3 : Int) (o4 : Int) (o5 : Int) (o6 : Int) (o7 : Int) (o8 : Int) (o9 : Int) (o10 : Int) (K : Bool → World → Prop) (w : World) : Prop :=
  okF Try.prog 16 (Calls Try.prog 16 #[.agg #[.slice b1.a b1.len b1.cap, .slice b2.a b2.len b2.cap], .agg #[.int .i64 o3, .int .i64 o4, .int .i64 o5, .int .u64 o6, .int .u64 o7, .int .i64 o8, .int .u64 o9, .int .i64 o10]] w fun en w' => ∃ r11 : Bool, en = .returned (.bool r11) ∧ K r11 w')

/-- buttress/buttresslaw06.LookupSame -/
def C.law06_LookupSame (b1 : Sl) (b2 : Sl) (o3 : Int) (o4 : Int) (o5 : Int) (o6 : Int) (o7 : Int) (o8 : Int) (o9 : Int) (o10 : Int) (c11 : Int) (c12 : Int) (c13 : Int) (c14 : Int) (c15 : Int) (c16 : Int) (K : Bool → World → Prop) (w : World) : Prop :=
  okF Try.prog 17 (Calls Try.prog 17 #[.agg #[.slice b1.a b1.len b1.cap, .slice b2.a b2.len b2.cap], .agg #[.int .i64 o3, .int .i64 o4, .int .i64 o5, .int .u64 o6, .int .u64 o7, .int .i64 o8, .int .u64 o9, .int .i64 o10], .agg #[.int .i64 c11, .int .i64 c12, .int .i64 c13, .int .u64 c14, .int .u64 c15, .int .i64 c16]] w fun en w' => ∃ r17 : Bool, en = .returned (.bool r17) ∧ K r17 w')

/-- buttress/slots.New -/
def C.slots_New (K : Option Addr → World → Prop) (w : World) : Prop :=
  okF Try.prog 18 (Calls Try.prog 18 #[] w fun en w' => ∃ r1 : Option Addr, en = .returned (.pointer r1) ∧ K r1 w')

/-- (*buttress/slots.Nodes).Make -/
def C.slots_Nodes_Make (n1 : Option Addr) (bits2 : Int) (K : Int → Int → World → Prop) (w : World) : Prop :=
  okF Try.prog 19 (Calls Try.prog 19 #[.pointer n1, .int .i64 bits2] w fun en w' => ∃ r3 : Int, ∃ r4 : Int, en = .returned (.tuple #[.int .i64 r3, .int .i64 r4]) ∧ K r3 r4 w')

/-- (*buttress/slots.Nodes).Drop -/
def C.slots_Nodes_Drop (n1 : Option Addr) (node2 : Int) (K : Int → World → Prop) (w : World) : Prop :=
  okF Try.prog 20 (Calls Try.prog 20 #[.pointer n1, .int .i64 node2] w fun en w' => ∃ r3 : Int, en = .returned (.int .i64 r3) ∧ K r3 w')

/-- (*buttress/slots.Nodes).Size -/
def C.slots_Nodes_Size (n1 : Option Addr) (node2 : Int) (K : Int → Bool → World → Prop) (w : World) : Prop :=
  okF Try.prog 21 (Calls Try.prog 21 #[.pointer n1, .int .i64 node2] w fun en w' => ∃ r3 : Int, ∃ r4 : Bool, en = .returned (.tuple #[.int .i64 r3, .bool r4]) ∧ K r3 r4 w')

/-- buttress/buttresslaw05.fixed -/
def C.law05_fixed (K : Bool → World → Prop) (w : World) : Prop :=
  okF Try.prog 22 (Calls Try.prog 22 #[] w fun en w' => ∃ r1 : Bool, en = .returned (.bool r1) ∧ K r1 w')

/-- buttress/buttresslaw06.built -/
def C.law06_built (b1 : Sl) (b2 : Sl) (K : Option Addr → Option Addr → World → Prop) (w : World) : Prop :=
  okF Try.prog 23 (Calls Try.prog 23 #[.agg #[.slice b1.a b1.len b1.cap, .slice b2.a b2.len b2.cap]] w fun en w' => ∃ r3 : Option Addr, ∃ r4 : Option Addr, en = .returned (.tuple #[.pointer r3, .pointer r4]) ∧ K r3 r4 w')

/-- buttress/lookup.Address -/
def C.lookup_Address (n1 : Option Addr) (root2 : Int) (root3 : Int) (root4 : Int) (root5 : Int) (root6 : Int) (root7 : Int) (way8 : Sl) (K : Int → Int → Int → World → Prop) (w : World) : Prop :=
  okF Try.prog 24 (Calls Try.prog 24 #[.pointer n1, .agg #[.int .i64 root2, .int .i64 root3, .int .i64 root4, .int .u64 root5, .int .u64 root6, .int .i64 root7], .slice way8.a way8.len way8.cap] w fun en w' => ∃ r9 : Int, ∃ r10 : Int, ∃ r11 : Int, en = .returned (.tuple #[.int .u64 r9, .int .i64 r10, .int .i64 r11]) ∧ K r9 r10 r11 w')

/-- buttress/buttressref06.Address -/
def C.ref06_Address (n1 : Option Addr) (root2 : Int) (root3 : Int) (root4 : Int) (root5 : Int) (root6 : Int) (root7 : Int) (way8 : Sl) (K : Int → Int → Int → World → Prop) (w : World) : Prop :=
  okF Try.prog 25 (Calls Try.prog 25 #[.pointer n1, .agg #[.int .i64 root2, .int .i64 root3, .int .i64 root4, .int .u64 root5, .int .u64 root6, .int .i64 root7], .slice way8.a way8.len way8.cap] w fun en w' => ∃ r9 : Int, ∃ r10 : Int, ∃ r11 : Int, en = .returned (.tuple #[.int .u64 r9, .int .i64 r10, .int .i64 r11]) ∧ K r9 r10 r11 w')

/-- buttress/buttresslaw06.fixed -/
def C.law06_fixed (K : Bool → World → Prop) (w : World) : Prop :=
  okF Try.prog 26 (Calls Try.prog 26 #[] w fun en w' => ∃ r1 : Bool, en = .returned (.bool r1) ∧ K r1 w')

/-- buttress/lookup.Slot -/
def C.lookup_Slot (n1 : Option Addr) (root2 : Int) (root3 : Int) (root4 : Int) (root5 : Int) (root6 : Int) (root7 : Int) (addr8 : Int) (depth9 : Int) (K : Int → Int → Int → World → Prop) (w : World) : Prop :=
  okF Try.prog 27 (Calls Try.prog 27 #[.pointer n1, .agg #[.int .i64 root2, .int .i64 root3, .int .i64 root4, .int .u64 root5, .int .u64 root6, .int .i64 root7], .int .u64 addr8, .int .i64 depth9] w fun en w' => ∃ r10 : Int, ∃ r11 : Int, ∃ r12 : Int, en = .returned (.tuple #[.agg #[.int .i64 r10, .int .i64 r11], .int .i64 r12]) ∧ K r10 r11 r12 w')

/-- (*buttress/buttressref05.Nodes).Is -/
def C.ref05_Nodes_Is (n1 : Option Addr) (s2 : Int) (s3 : Int) (K : Bool → World → Prop) (w : World) : Prop :=
  okF Try.prog 28 (Calls Try.prog 28 #[.pointer n1, .agg #[.int .i64 s2, .int .i64 s3]] w fun en w' => ∃ r4 : Bool, en = .returned (.bool r4) ∧ K r4 w')

/-- buttress/buttressref04.Check -/
def C.ref04_Check (c1 : Int) (c2 : Int) (c3 : Int) (c4 : Int) (c5 : Int) (c6 : Int) (K : Int → World → Prop) (w : World) : Prop :=
  okF Try.prog 29 (Calls Try.prog 29 #[.agg #[.int .i64 c1, .int .i64 c2, .int .i64 c3, .int .u64 c4, .int .u64 c5, .int .i64 c6]] w fun en w' => ∃ r7 : Int, en = .returned (.int .i64 r7) ∧ K r7 w')

/-- (*buttress/buttressref05.Nodes).Get -/
def C.ref05_Nodes_Get (n1 : Option Addr) (s2 : Int) (s3 : Int) (K : Int → Int → Int → Int → Int → Int → Int → World → Prop) (w : World) : Prop :=
  okF Try.prog 30 (Calls Try.prog 30 #[.pointer n1, .agg #[.int .i64 s2, .int .i64 s3]] w fun en w' => ∃ r4 : Int, ∃ r5 : Int, ∃ r6 : Int, ∃ r7 : Int, ∃ r8 : Int, ∃ r9 : Int, ∃ r10 : Int, en = .returned (.tuple #[.agg #[.int .i64 r4, .int .i64 r5, .int .i64 r6, .int .u64 r7, .int .u64 r8, .int .i64 r9], .int .i64 r10]) ∧ K r4 r5 r6 r7 r8 r9 r10 w')

/-- (*buttress/slots.Nodes).Put -/
def C.slots_Nodes_Put (n1 : Option Addr) (s2 : Int) (s3 : Int) (c4 : Int) (c5 : Int) (c6 : Int) (c7 : Int) (c8 : Int) (c9 : Int) (K : Int → World → Prop) (w : World) : Prop :=
  okF Try.prog 31 (Calls Try.prog 31 #[.pointer n1, .agg #[.int .i64 s2, .int .i64 s3], .agg #[.int .i64 c4, .int .i64 c5, .int .i64 c6, .int .u64 c7, .int .u64 c8, .int .i64 c9]] w fun en w' => ∃ r10 : Int, en = .returned (.int .i64 r10) ∧ K r10 w')

/-- (*buttress/slots.Nodes).Get -/
def C.slots_Nodes_Get (n1 : Option Addr) (s2 : Int) (s3 : Int) (K : Int → Int → Int → Int → Int → Int → Int → World → Prop) (w : World) : Prop :=
  okF Try.prog 32 (Calls Try.prog 32 #[.pointer n1, .agg #[.int .i64 s2, .int .i64 s3]] w fun en w' => ∃ r4 : Int, ∃ r5 : Int, ∃ r6 : Int, ∃ r7 : Int, ∃ r8 : Int, ∃ r9 : Int, ∃ r10 : Int, en = .returned (.tuple #[.agg #[.int .i64 r4, .int .i64 r5, .int .i64 r6, .int .u64 r7, .int .u64 r8, .int .i64 r9], .int .i64 r10]) ∧ K r4 r5 r6 r7 r8 r9 r10 w')

/-- (*buttress/slots.Nodes).Take -/
def C.slots_Nodes_Take (n1 : Option Addr) (s2 : Int) (s3 : Int) (K : Int → Int → Int → Int → Int → Int → Int → World → Prop) (w : World) : Prop :=
  okF Try.prog 33 (Calls Try.prog 33 #[.pointer n1, .agg #[.int .i64 s2, .int .i64 s3]] w fun en w' => ∃ r4 : Int, ∃ r5 : Int, ∃ r6 : Int, ∃ r7 : Int, ∃ r8 : Int, ∃ r9 : Int, ∃ r10 : Int, en = .returned (.tuple #[.agg #[.int .i64 r4, .int .i64 r5, .int .i64 r6, .int .u64 r7, .int .u64 r8, .int .i64 r9], .int .i64 r10]) ∧ K r4 r5 r6 r7 r8 r9 r10 w')

/-- (*buttress/slots.Nodes).Move -/
def C.slots_Nodes_Move (n1 : Option Addr) (from2 : Int) (from3 : Int) (to4 : Int) (to5 : Int) (K : Int → World → Prop) (w : World) : Prop :=
  okF Try.prog 34 (Calls Try.prog 34 #[.pointer n1, .agg #[.int .i64 from2, .int .i64 from3], .agg #[.int .i64 to4, .int .i64 to5]] w fun en w' => ∃ r6 : Int, en = .returned (.int .i64 r6) ∧ K r6 w')

/-- (*buttress/slots.Nodes).Swap -/
def C.slots_Nodes_Swap (n1 : Option Addr) (a2 : Int) (a3 : Int) (b4 : Int) (b5 : Int) (K : Int → World → Prop) (w : World) : Prop :=
  okF Try.prog 35 (Calls Try.prog 35 #[.pointer n1, .agg #[.int .i64 a2, .int .i64 a3], .agg #[.int .i64 b4, .int .i64 b5]] w fun en w' => ∃ r6 : Int, en = .returned (.int .i64 r6) ∧ K r6 w')

/-- (*buttress/slots.Nodes).Held -/
def C.slots_Nodes_Held (n1 : Option Addr) (K : Sl → World → Prop) (w : World) : Prop :=
  okF Try.prog 36 (Calls Try.prog 36 #[.pointer n1] w fun en w' => ∃ r2 : Sl, en = .returned (.slice r2.a r2.len r2.cap) ∧ K r2 w')

/-- buttress/buttresslaw05.two -/
def C.law05_two (K : Option Addr → World → Prop) (w : World) : Prop :=
  okF Try.prog 37 (Calls Try.prog 37 #[] w fun en w' => ∃ r1 : Option Addr, en = .returned (.pointer r1) ∧ K r1 w')

/-- buttress/buttressref05.Same -/
def C.ref05_Same (a1 : Sl) (b2 : Sl) (K : Bool → World → Prop) (w : World) : Prop :=
  okF Try.prog 38 (Calls Try.prog 38 #[.slice a1.a a1.len a1.cap, .slice b2.a b2.len b2.cap] w fun en w' => ∃ r3 : Bool, en = .returned (.bool r3) ∧ K r3 w')

/-- buttress/buttresslaw05.thread -/
def C.law05_thread (K : Int → Int → Int → Int → Int → Int → World → Prop) (w : World) : Prop :=
  okF Try.prog 39 (Calls Try.prog 39 #[] w fun en w' => ∃ r1 : Int, ∃ r2 : Int, ∃ r3 : Int, ∃ r4 : Int, ∃ r5 : Int, ∃ r6 : Int, en = .returned (.agg #[.int .i64 r1, .int .i64 r2, .int .i64 r3, .int .u64 r4, .int .u64 r5, .int .i64 r6]) ∧ K r1 r2 r3 r4 r5 r6 w')

/-- (*buttress/slots.Nodes).Copy -/
def C.slots_Nodes_Copy (n1 : Option Addr) (K : Option Addr → World → Prop) (w : World) : Prop :=
  okF Try.prog 40 (Calls Try.prog 40 #[.pointer n1] w fun en w' => ∃ r2 : Option Addr, en = .returned (.pointer r2) ∧ K r2 w')

/-- buttress/buttresslaw05.same -/
def C.law05_same (n1 : Option Addr) (k2 : Option Addr) (o3 : Int) (o4 : Int) (o5 : Int) (o6 : Int) (o7 : Int) (o8 : Int) (o9 : Int) (o10 : Int) (o11 : Int) (o12 : Int) (o13 : Int) (o14 : Int) (K : Bool → World → Prop) (w : World) : Prop :=
  okF Try.prog 41 (Calls Try.prog 41 #[.pointer n1, .pointer k2, .agg #[.int .i64 o3, .int .i64 o4, .int .i64 o5, .int .i64 o6, .int .i64 o7, .int .i64 o8, .int .i64 o9, .int .i64 o10, .int .i64 o11, .int .u64 o12, .int .u64 o13, .int .i64 o14]] w fun en w' => ∃ r15 : Bool, en = .returned (.bool r15) ∧ K r15 w')

/-- (*buttress/buttressref05.Nodes).Size -/
def C.ref05_Nodes_Size (n1 : Option Addr) (node2 : Int) (K : Int → Bool → World → Prop) (w : World) : Prop :=
  okF Try.prog 42 (Calls Try.prog 42 #[.pointer n1, .int .i64 node2] w fun en w' => ∃ r3 : Int, ∃ r4 : Bool, en = .returned (.tuple #[.int .i64 r3, .bool r4]) ∧ K r3 r4 w')

/-- (*buttress/buttressref05.Nodes).Held -/
def C.ref05_Nodes_Held (n1 : Option Addr) (K : Sl → World → Prop) (w : World) : Prop :=
  okF Try.prog 43 (Calls Try.prog 43 #[.pointer n1] w fun en w' => ∃ r2 : Sl, en = .returned (.slice r2.a r2.len r2.cap) ∧ K r2 w')

/-- buttress/buttressref06.Slot -/
def C.ref06_Slot (n1 : Option Addr) (root2 : Int) (root3 : Int) (root4 : Int) (root5 : Int) (root6 : Int) (root7 : Int) (addr8 : Int) (depth9 : Int) (K : Int → Int → Int → World → Prop) (w : World) : Prop :=
  okF Try.prog 44 (Calls Try.prog 44 #[.pointer n1, .agg #[.int .i64 root2, .int .i64 root3, .int .i64 root4, .int .u64 root5, .int .u64 root6, .int .i64 root7], .int .u64 addr8, .int .i64 depth9] w fun en w' => ∃ r10 : Int, ∃ r11 : Int, ∃ r12 : Int, en = .returned (.tuple #[.agg #[.int .i64 r10, .int .i64 r11], .int .i64 r12]) ∧ K r10 r11 r12 w')

/-- buttress/lookup.Cap -/
def C.lookup_Cap (n1 : Option Addr) (root2 : Int) (root3 : Int) (root4 : Int) (root5 : Int) (root6 : Int) (root7 : Int) (addr8 : Int) (depth9 : Int) (K : Int → Int → Int → Int → Int → Int → Int → World → Prop) (w : World) : Prop :=
  okF Try.prog 45 (Calls Try.prog 45 #[.pointer n1, .agg #[.int .i64 root2, .int .i64 root3, .int .i64 root4, .int .u64 root5, .int .u64 root6, .int .i64 root7], .int .u64 addr8, .int .i64 depth9] w fun en w' => ∃ r10 : Int, ∃ r11 : Int, ∃ r12 : Int, ∃ r13 : Int, ∃ r14 : Int, ∃ r15 : Int, ∃ r16 : Int, en = .returned (.tuple #[.agg #[.int .i64 r10, .int .i64 r11, .int .i64 r12, .int .u64 r13, .int .u64 r14, .int .i64 r15], .int .i64 r16]) ∧ K r10 r11 r12 r13 r14 r15 r16 w')

/-- buttress/buttressref06.Cap -/
def C.ref06_Cap (n1 : Option Addr) (root2 : Int) (root3 : Int) (root4 : Int) (root5 : Int) (root6 : Int) (root7 : Int) (addr8 : Int) (depth9 : Int) (K : Int → Int → Int → Int → Int → Int → Int → World → Prop) (w : World) : Prop :=
  okF Try.prog 46 (Calls Try.prog 46 #[.pointer n1, .agg #[.int .i64 root2, .int .i64 root3, .int .i64 root4, .int .u64 root5, .int .u64 root6, .int .i64 root7], .int .u64 addr8, .int .i64 depth9] w fun en w' => ∃ r10 : Int, ∃ r11 : Int, ∃ r12 : Int, ∃ r13 : Int, ∃ r14 : Int, ∃ r15 : Int, ∃ r16 : Int, en = .returned (.tuple #[.agg #[.int .i64 r10, .int .i64 r11, .int .i64 r12, .int .u64 r13, .int .u64 r14, .int .i64 r15], .int .i64 r16]) ∧ K r10 r11 r12 r13 r14 r15 r16 w')

/-- (*buttress/buttressref05.Nodes).Make -/
def C.ref05_Nodes_Make (n1 : Option Addr) (bits2 : Int) (K : Int → Int → World → Prop) (w : World) : Prop :=
  okF Try.prog 47 (Calls Try.prog 47 #[.pointer n1, .int .i64 bits2] w fun en w' => ∃ r3 : Int, ∃ r4 : Int, en = .returned (.tuple #[.int .i64 r3, .int .i64 r4]) ∧ K r3 r4 w')

/-- (*buttress/buttressref05.Nodes).Put -/
def C.ref05_Nodes_Put (n1 : Option Addr) (s2 : Int) (s3 : Int) (c4 : Int) (c5 : Int) (c6 : Int) (c7 : Int) (c8 : Int) (c9 : Int) (K : Int → World → Prop) (w : World) : Prop :=
  okF Try.prog 48 (Calls Try.prog 48 #[.pointer n1, .agg #[.int .i64 s2, .int .i64 s3], .agg #[.int .i64 c4, .int .i64 c5, .int .i64 c6, .int .u64 c7, .int .u64 c8, .int .i64 c9]] w fun en w' => ∃ r10 : Int, en = .returned (.int .i64 r10) ∧ K r10 w')

/-- buttress/lookup.node -/
def C.lookup_node (n1 : Option Addr) (c2 : Int) (c3 : Int) (c4 : Int) (c5 : Int) (c6 : Int) (c7 : Int) (K : Int → Bool → World → Prop) (w : World) : Prop :=
  okF Try.prog 49 (Calls Try.prog 49 #[.pointer n1, .agg #[.int .i64 c2, .int .i64 c3, .int .i64 c4, .int .u64 c5, .int .u64 c6, .int .i64 c7]] w fun en w' => ∃ r8 : Int, ∃ r9 : Bool, en = .returned (.tuple #[.int .i64 r8, .bool r9]) ∧ K r8 r9 w')

/-- buttress/buttressref06.node -/
def C.ref06_node (n1 : Option Addr) (c2 : Int) (c3 : Int) (c4 : Int) (c5 : Int) (c6 : Int) (c7 : Int) (K : Int → Bool → World → Prop) (w : World) : Prop :=
  okF Try.prog 50 (Calls Try.prog 50 #[.pointer n1, .agg #[.int .i64 c2, .int .i64 c3, .int .i64 c4, .int .u64 c5, .int .u64 c6, .int .i64 c7]] w fun en w' => ∃ r8 : Int, ∃ r9 : Bool, en = .returned (.tuple #[.int .i64 r8, .bool r9]) ∧ K r8 r9 w')

/-- buttress/buttressref01.Two -/
def C.ref01_Two (n1 : Int) (K : Int → World → Prop) (w : World) : Prop :=
  okF Try.prog 51 (Calls Try.prog 51 #[.int .i64 n1] w fun en w' => ∃ r2 : Int, en = .returned (.int .u64 r2) ∧ K r2 w')

/-- buttress/buttressref01.Bit -/
def C.ref01_Bit (v1 : Int) (n2 : Int) (K : Bool → World → Prop) (w : World) : Prop :=
  okF Try.prog 52 (Calls Try.prog 52 #[.int .u64 v1, .int .i64 n2] w fun en w' => ∃ r3 : Bool, en = .returned (.bool r3) ∧ K r3 w')

/-- buttress/lookup.step -/
def C.lookup_step (n1 : Option Addr) (c2 : Int) (c3 : Int) (c4 : Int) (c5 : Int) (c6 : Int) (c7 : Int) (next8 : Value) (K : Int → Int → Int → World → Prop) (w : World) : Prop :=
  okF Try.prog 53 (Calls Try.prog 53 #[.pointer n1, .agg #[.int .i64 c2, .int .i64 c3, .int .i64 c4, .int .u64 c5, .int .u64 c6, .int .i64 c7], next8] w fun en w' => ∃ r9 : Int, ∃ r10 : Int, ∃ r11 : Int, en = .returned (.tuple #[.agg #[.int .i64 r9, .int .i64 r10], .int .i64 r11]) ∧ K r9 r10 r11 w')

/-- (*buttress/lookup.reader).next -/
def C.lookup_reader_next (r1 : Option Addr) (n2 : Int) (K : Int → Bool → World → Prop) (w : World) : Prop :=
  okF Try.prog 54 (Calls Try.prog 54 #[.pointer r1, .int .i64 n2] w fun en w' => ∃ r3 : Int, ∃ r4 : Bool, en = .returned (.tuple #[.int .u64 r3, .bool r4]) ∧ K r3 r4 w')

/-- buttress/buttressref04.limited -/
def C.ref04_limited (kind1 : Int) (K : Bool → World → Prop) (w : World) : Prop :=
  okF Try.prog 55 (Calls Try.prog 55 #[.int .i64 kind1] w fun en w' => ∃ r2 : Bool, en = .returned (.bool r2) ∧ K r2 w')

/-- buttress/buttressref04.badged -/
def C.ref04_badged (kind1 : Int) (K : Bool → World → Prop) (w : World) : Prop :=
  okF Try.prog 56 (Calls Try.prog 56 #[.int .i64 kind1] w fun en w' => ∃ r2 : Bool, en = .returned (.bool r2) ∧ K r2 w')

/-- buttress/buttressref04.guard -/
def C.ref04_guard (g1 : Int) (bits2 : Int) (K : Bool → World → Prop) (w : World) : Prop :=
  okF Try.prog 57 (Calls Try.prog 57 #[.int .u64 g1, .int .i64 bits2] w fun en w' => ∃ r3 : Bool, en = .returned (.bool r3) ∧ K r3 w')

/-- buttress/caps.Check -/
def C.caps_Check (c1 : Int) (c2 : Int) (c3 : Int) (c4 : Int) (c5 : Int) (c6 : Int) (K : Int → World → Prop) (w : World) : Prop :=
  okF Try.prog 58 (Calls Try.prog 58 #[.agg #[.int .i64 c1, .int .i64 c2, .int .i64 c3, .int .u64 c4, .int .u64 c5, .int .i64 c6]] w fun en w' => ∃ r7 : Int, en = .returned (.int .i64 r7) ∧ K r7 w')

/-- (*buttress/slots.Nodes).there -/
def C.slots_Nodes_there (n1 : Option Addr) (s2 : Int) (s3 : Int) (K : Bool → World → Prop) (w : World) : Prop :=
  okF Try.prog 59 (Calls Try.prog 59 #[.pointer n1, .agg #[.int .i64 s2, .int .i64 s3]] w fun en w' => ∃ r4 : Bool, en = .returned (.bool r4) ∧ K r4 w')

/-- (*buttress/slots.Nodes).set -/
def C.slots_Nodes_set (n1 : Option Addr) (s2 : Int) (s3 : Int) (c4 : Int) (c5 : Int) (c6 : Int) (c7 : Int) (c8 : Int) (c9 : Int) (is10 : Bool) (K : World → Prop) (w : World) : Prop :=
  okF Try.prog 60 (Calls Try.prog 60 #[.pointer n1, .agg #[.int .i64 s2, .int .i64 s3], .agg #[.int .i64 c4, .int .i64 c5, .int .i64 c6, .int .u64 c7, .int .u64 c8, .int .i64 c9], .bool is10] w fun en w' => en = .returned (.tuple #[]) ∧ K w')

/-- slices.SortedFunc[buttress/api.Slot] -/
def C.slices_SortedFunc_api_Slot (seq1 : Value) (cmp2 : Value) (K : Sl → World → Prop) (w : World) : Prop :=
  okF Try.prog 61 (Calls Try.prog 61 #[seq1, cmp2] w fun en w' => ∃ r3 : Sl, en = .returned (.slice r3.a r3.len r3.cap) ∧ K r3 w')

/-- maps.Keys[map[buttress/api.Slot]buttress/api.Cap,buttress/api.Slot,buttress/api.Cap] -/
def C.maps_Keys_map_api_Slot_api_Cap_api_Slot_api_Cap (m1 : Option Nat) (K : Value → World → Prop) (w : World) : Prop :=
  okF Try.prog 62 (Calls Try.prog 62 #[.map m1] w fun en w' => ∃ r2 : Value, en = .returned (r2) ∧ K r2 w')

/-- buttress/slots.order -/
def C.slots_order (a1 : Int) (a2 : Int) (b3 : Int) (b4 : Int) (K : Int → World → Prop) (w : World) : Prop :=
  okF Try.prog 63 (Calls Try.prog 63 #[.agg #[.int .i64 a1, .int .i64 a2], .agg #[.int .i64 b3, .int .i64 b4]] w fun en w' => ∃ r5 : Int, en = .returned (.int .i64 r5) ∧ K r5 w')

/-- slices.Clone[[]int,int] -/
def C.slices_Clone_int_int (s1 : Sl) (K : Sl → World → Prop) (w : World) : Prop :=
  okF Try.prog 64 (Calls Try.prog 64 #[.slice s1.a s1.len s1.cap] w fun en w' => ∃ r2 : Sl, en = .returned (.slice r2.a r2.len r2.cap) ∧ K r2 w')

/-- maps.Clone[map[buttress/api.Slot]buttress/api.Cap,buttress/api.Slot,buttress/api.Cap] -/
def C.maps_Clone_map_api_Slot_api_Cap_api_Slot_api_Cap (m1 : Option Nat) (K : Option Nat → World → Prop) (w : World) : Prop :=
  okF Try.prog 65 (Calls Try.prog 65 #[.map m1] w fun en w' => ∃ r2 : Option Nat, en = .returned (.map r2) ∧ K r2 w')

/-- (*buttress/buttressref05.Nodes).Drop -/
def C.ref05_Nodes_Drop (n1 : Option Addr) (node2 : Int) (K : Int → World → Prop) (w : World) : Prop :=
  okF Try.prog 66 (Calls Try.prog 66 #[.pointer n1, .int .i64 node2] w fun en w' => ∃ r3 : Int, en = .returned (.int .i64 r3) ∧ K r3 w')

/-- (*buttress/buttressref05.Nodes).Take -/
def C.ref05_Nodes_Take (n1 : Option Addr) (s2 : Int) (s3 : Int) (K : Int → Int → Int → Int → Int → Int → Int → World → Prop) (w : World) : Prop :=
  okF Try.prog 67 (Calls Try.prog 67 #[.pointer n1, .agg #[.int .i64 s2, .int .i64 s3]] w fun en w' => ∃ r4 : Int, ∃ r5 : Int, ∃ r6 : Int, ∃ r7 : Int, ∃ r8 : Int, ∃ r9 : Int, ∃ r10 : Int, en = .returned (.tuple #[.agg #[.int .i64 r4, .int .i64 r5, .int .i64 r6, .int .u64 r7, .int .u64 r8, .int .i64 r9], .int .i64 r10]) ∧ K r4 r5 r6 r7 r8 r9 r10 w')

/-- (*buttress/buttressref05.Nodes).Move -/
def C.ref05_Nodes_Move (n1 : Option Addr) (from2 : Int) (from3 : Int) (to4 : Int) (to5 : Int) (K : Int → World → Prop) (w : World) : Prop :=
  okF Try.prog 68 (Calls Try.prog 68 #[.pointer n1, .agg #[.int .i64 from2, .int .i64 from3], .agg #[.int .i64 to4, .int .i64 to5]] w fun en w' => ∃ r6 : Int, en = .returned (.int .i64 r6) ∧ K r6 w')

/-- (*buttress/buttressref05.Nodes).Swap -/
def C.ref05_Nodes_Swap (n1 : Option Addr) (a2 : Int) (a3 : Int) (b4 : Int) (b5 : Int) (K : Int → World → Prop) (w : World) : Prop :=
  okF Try.prog 69 (Calls Try.prog 69 #[.pointer n1, .agg #[.int .i64 a2, .int .i64 a3], .agg #[.int .i64 b4, .int .i64 b5]] w fun en w' => ∃ r6 : Int, en = .returned (.int .i64 r6) ∧ K r6 w')

/-- buttress/buttressref06.bits -/
def C.ref06_bits (addr1 : Int) (depth2 : Int) (from3 : Int) (n4 : Int) (K : Int → World → Prop) (w : World) : Prop :=
  okF Try.prog 70 (Calls Try.prog 70 #[.int .u64 addr1, .int .i64 depth2, .int .i64 from3, .int .i64 n4] w fun en w' => ∃ r5 : Int, en = .returned (.int .u64 r5) ∧ K r5 w')

/-- buttress/words.Field -/
def C.words_Field (v1 : Int) (at2 : Int) (n3 : Int) (K : Int → Int → World → Prop) (w : World) : Prop :=
  okF Try.prog 71 (Calls Try.prog 71 #[.int .u64 v1, .int .i64 at2, .int .i64 n3] w fun en w' => ∃ r4 : Int, ∃ r5 : Int, en = .returned (.tuple #[.int .u64 r4, .int .i64 r5]) ∧ K r4 r5 w')

/-- buttress/caps.rights -/
def C.caps_rights (n1 : Int) (K : Bool → World → Prop) (w : World) : Prop :=
  okF Try.prog 72 (Calls Try.prog 72 #[.int .i64 n1] w fun en w' => ∃ r2 : Bool, en = .returned (.bool r2) ∧ K r2 w')

/-- buttress/caps.guard -/
def C.caps_guard (g1 : Int) (bits2 : Int) (K : Bool → World → Prop) (w : World) : Prop :=
  okF Try.prog 73 (Calls Try.prog 73 #[.int .u64 g1, .int .i64 bits2] w fun en w' => ∃ r3 : Bool, en = .returned (.bool r3) ∧ K r3 w')

/-- buttress/caps.limited -/
def C.caps_limited (kind1 : Int) (K : Bool → World → Prop) (w : World) : Prop :=
  okF Try.prog 74 (Calls Try.prog 74 #[.int .i64 kind1] w fun en w' => ∃ r2 : Bool, en = .returned (.bool r2) ∧ K r2 w')

/-- buttress/caps.badged -/
def C.caps_badged (kind1 : Int) (K : Bool → World → Prop) (w : World) : Prop :=
  okF Try.prog 75 (Calls Try.prog 75 #[.int .i64 kind1] w fun en w' => ∃ r2 : Bool, en = .returned (.bool r2) ∧ K r2 w')

/-- slices.Collect[buttress/api.Slot] -/
def C.slices_Collect_api_Slot (seq1 : Value) (K : Sl → World → Prop) (w : World) : Prop :=
  okF Try.prog 76 (Calls Try.prog 76 #[seq1] w fun en w' => ∃ r2 : Sl, en = .returned (.slice r2.a r2.len r2.cap) ∧ K r2 w')

/-- slices.SortFunc[[]buttress/api.Slot,buttress/api.Slot] -/
def C.slices_SortFunc_api_Slot_api_Slot (x1 : Sl) (cmp2 : Value) (K : World → Prop) (w : World) : Prop :=
  okF Try.prog 77 (Calls Try.prog 77 #[.slice x1.a x1.len x1.cap, cmp2] w fun en w' => en = .returned (.tuple #[]) ∧ K w')

/-- maps.Keys[map[buttress/api.Slot]buttress/api.Cap,buttress/api.Slot,buttress/api.Cap]$1 -/
def C.maps_Keys_map_api_Slot_api_Cap_api_Slot_api_Cap__1 (yield1 : Value) (a2 : Addr) (K : World → Prop) (w : World) : Prop :=
  okF Try.prog 78 (Calls Try.prog 78 #[yield1, .pointer (some a2)] w fun en w' => en = .returned (.tuple #[]) ∧ K w')

/-- cmp.Or[int] -/
def C.cmp_Or_int (vals1 : Sl) (K : Int → World → Prop) (w : World) : Prop :=
  okF Try.prog 79 (Calls Try.prog 79 #[.slice vals1.a vals1.len vals1.cap] w fun en w' => ∃ r2 : Int, en = .returned (.int .i64 r2) ∧ K r2 w')

/-- cmp.Compare[int] -/
def C.cmp_Compare_int (x1 : Int) (y2 : Int) (K : Int → World → Prop) (w : World) : Prop :=
  okF Try.prog 80 (Calls Try.prog 80 #[.int .i64 x1, .int .i64 y2] w fun en w' => ∃ r3 : Int, en = .returned (.int .i64 r3) ∧ K r3 w')

/-- buttress/words.there -/
def C.words_there (at1 : Int) (n2 : Int) (K : Bool → World → Prop) (w : World) : Prop :=
  okF Try.prog 82 (Calls Try.prog 82 #[.int .i64 at1, .int .i64 n2] w fun en w' => ∃ r3 : Bool, en = .returned (.bool r3) ∧ K r3 w')

/-- buttress/words.low -/
def C.words_low (n1 : Int) (K : Int → World → Prop) (w : World) : Prop :=
  okF Try.prog 83 (Calls Try.prog 83 #[.int .i64 n1] w fun en w' => ∃ r2 : Int, en = .returned (.int .u64 r2) ∧ K r2 w')

/-- buttress/words.Mask -/
def C.words_Mask (n1 : Int) (K : Int → Int → World → Prop) (w : World) : Prop :=
  okF Try.prog 84 (Calls Try.prog 84 #[.int .i64 n1] w fun en w' => ∃ r2 : Int, ∃ r3 : Int, en = .returned (.tuple #[.int .u64 r2, .int .i64 r3]) ∧ K r2 r3 w')

/-- slices.AppendSeq[[]buttress/api.Slot,buttress/api.Slot] -/
def C.slices_AppendSeq_api_Slot_api_Slot (s1 : Sl) (seq2 : Value) (K : Sl → World → Prop) (w : World) : Prop :=
  okF Try.prog 85 (Calls Try.prog 85 #[.slice s1.a s1.len s1.cap, seq2] w fun en w' => ∃ r3 : Sl, en = .returned (.slice r3.a r3.len r3.cap) ∧ K r3 w')

/-- slices.pdqsortCmpFunc[buttress/api.Slot] -/
def C.slices_pdqsortCmpFunc_api_Slot (data1 : Sl) (a2 : Int) (b3 : Int) (limit4 : Int) (cmp5 : Value) (K : World → Prop) (w : World) : Prop :=
  okF Try.prog 86 (Calls Try.prog 86 #[.slice data1.a data1.len data1.cap, .int .i64 a2, .int .i64 b3, .int .i64 limit4, cmp5] w fun en w' => en = .returned (.tuple #[]) ∧ K w')

/-- math/bits.Len -/
def C.math_bits_Len (x1 : Int) (K : Int → World → Prop) (w : World) : Prop :=
  okF Try.prog 87 (Calls Try.prog 87 #[.int .u64 x1] w fun en w' => ∃ r2 : Int, en = .returned (.int .i64 r2) ∧ K r2 w')

/-- cmp.isNaN[int] -/
def C.cmp_isNaN_int (x1 : Int) (K : Bool → World → Prop) (w : World) : Prop :=
  okF Try.prog 88 (Calls Try.prog 88 #[.int .i64 x1] w fun en w' => ∃ r2 : Bool, en = .returned (.bool r2) ∧ K r2 w')

/-- slices.insertionSortCmpFunc[buttress/api.Slot] -/
def C.slices_insertionSortCmpFunc_api_Slot (data1 : Sl) (a2 : Int) (b3 : Int) (cmp4 : Value) (K : World → Prop) (w : World) : Prop :=
  okF Try.prog 89 (Calls Try.prog 89 #[.slice data1.a data1.len data1.cap, .int .i64 a2, .int .i64 b3, cmp4] w fun en w' => en = .returned (.tuple #[]) ∧ K w')

/-- slices.heapSortCmpFunc[buttress/api.Slot] -/
def C.slices_heapSortCmpFunc_api_Slot (data1 : Sl) (a2 : Int) (b3 : Int) (cmp4 : Value) (K : World → Prop) (w : World) : Prop :=
  okF Try.prog 90 (Calls Try.prog 90 #[.slice data1.a data1.len data1.cap, .int .i64 a2, .int .i64 b3, cmp4] w fun en w' => en = .returned (.tuple #[]) ∧ K w')

/-- slices.breakPatternsCmpFunc[buttress/api.Slot] -/
def C.slices_breakPatternsCmpFunc_api_Slot (data1 : Sl) (a2 : Int) (b3 : Int) (cmp4 : Value) (K : World → Prop) (w : World) : Prop :=
  okF Try.prog 91 (Calls Try.prog 91 #[.slice data1.a data1.len data1.cap, .int .i64 a2, .int .i64 b3, cmp4] w fun en w' => en = .returned (.tuple #[]) ∧ K w')

/-- slices.choosePivotCmpFunc[buttress/api.Slot] -/
def C.slices_choosePivotCmpFunc_api_Slot (data1 : Sl) (a2 : Int) (b3 : Int) (cmp4 : Value) (K : Int → Int → World → Prop) (w : World) : Prop :=
  okF Try.prog 92 (Calls Try.prog 92 #[.slice data1.a data1.len data1.cap, .int .i64 a2, .int .i64 b3, cmp4] w fun en w' => ∃ r5 : Int, ∃ r6 : Int, en = .returned (.tuple #[.int .i64 r5, .int .i64 r6]) ∧ K r5 r6 w')

/-- slices.reverseRangeCmpFunc[buttress/api.Slot] -/
def C.slices_reverseRangeCmpFunc_api_Slot (data1 : Sl) (a2 : Int) (b3 : Int) (cmp4 : Value) (K : World → Prop) (w : World) : Prop :=
  okF Try.prog 93 (Calls Try.prog 93 #[.slice data1.a data1.len data1.cap, .int .i64 a2, .int .i64 b3, cmp4] w fun en w' => en = .returned (.tuple #[]) ∧ K w')

/-- slices.partialInsertionSortCmpFunc[buttress/api.Slot] -/
def C.slices_partialInsertionSortCmpFunc_api_Slot (data1 : Sl) (a2 : Int) (b3 : Int) (cmp4 : Value) (K : Bool → World → Prop) (w : World) : Prop :=
  okF Try.prog 94 (Calls Try.prog 94 #[.slice data1.a data1.len data1.cap, .int .i64 a2, .int .i64 b3, cmp4] w fun en w' => ∃ r5 : Bool, en = .returned (.bool r5) ∧ K r5 w')

/-- slices.partitionEqualCmpFunc[buttress/api.Slot] -/
def C.slices_partitionEqualCmpFunc_api_Slot (data1 : Sl) (a2 : Int) (b3 : Int) (pivot4 : Int) (cmp5 : Value) (K : Int → World → Prop) (w : World) : Prop :=
  okF Try.prog 95 (Calls Try.prog 95 #[.slice data1.a data1.len data1.cap, .int .i64 a2, .int .i64 b3, .int .i64 pivot4, cmp5] w fun en w' => ∃ r6 : Int, en = .returned (.int .i64 r6) ∧ K r6 w')

/-- slices.partitionCmpFunc[buttress/api.Slot] -/
def C.slices_partitionCmpFunc_api_Slot (data1 : Sl) (a2 : Int) (b3 : Int) (pivot4 : Int) (cmp5 : Value) (K : Int → Bool → World → Prop) (w : World) : Prop :=
  okF Try.prog 96 (Calls Try.prog 96 #[.slice data1.a data1.len data1.cap, .int .i64 a2, .int .i64 b3, .int .i64 pivot4, cmp5] w fun en w' => ∃ r6 : Int, ∃ r7 : Bool, en = .returned (.tuple #[.int .i64 r6, .bool r7]) ∧ K r6 r7 w')

/-- math/bits.Len32 -/
def C.math_bits_Len32 (x1 : Int) (K : Int → World → Prop) (w : World) : Prop :=
  okF Try.prog 97 (Calls Try.prog 97 #[.int .u32 x1] w fun en w' => ∃ r2 : Int, en = .returned (.int .i64 r2) ∧ K r2 w')

/-- math/bits.Len64 -/
def C.math_bits_Len64 (x1 : Int) (K : Int → World → Prop) (w : World) : Prop :=
  okF Try.prog 98 (Calls Try.prog 98 #[.int .u64 x1] w fun en w' => ∃ r2 : Int, en = .returned (.int .i64 r2) ∧ K r2 w')

/-- slices.siftDownCmpFunc[buttress/api.Slot] -/
def C.slices_siftDownCmpFunc_api_Slot (data1 : Sl) (lo2 : Int) (hi3 : Int) (first4 : Int) (cmp5 : Value) (K : World → Prop) (w : World) : Prop :=
  okF Try.prog 99 (Calls Try.prog 99 #[.slice data1.a data1.len data1.cap, .int .i64 lo2, .int .i64 hi3, .int .i64 first4, cmp5] w fun en w' => en = .returned (.tuple #[]) ∧ K w')

/-- slices.nextPowerOfTwo -/
def C.slices_nextPowerOfTwo (length1 : Int) (K : Int → World → Prop) (w : World) : Prop :=
  okF Try.prog 100 (Calls Try.prog 100 #[.int .i64 length1] w fun en w' => ∃ r2 : Int, en = .returned (.int .u64 r2) ∧ K r2 w')

/-- (*slices.xorshift).Next -/
def C.slices_xorshift_Next (r1 : Option Addr) (K : Int → World → Prop) (w : World) : Prop :=
  okF Try.prog 101 (Calls Try.prog 101 #[.pointer r1] w fun en w' => ∃ r2 : Int, en = .returned (.int .u64 r2) ∧ K r2 w')

/-- slices.medianAdjacentCmpFunc[buttress/api.Slot] -/
def C.slices_medianAdjacentCmpFunc_api_Slot (data1 : Sl) (a2 : Int) (swaps3 : Option Addr) (cmp4 : Value) (K : Int → World → Prop) (w : World) : Prop :=
  okF Try.prog 102 (Calls Try.prog 102 #[.slice data1.a data1.len data1.cap, .int .i64 a2, .pointer swaps3, cmp4] w fun en w' => ∃ r5 : Int, en = .returned (.int .i64 r5) ∧ K r5 w')

/-- slices.medianCmpFunc[buttress/api.Slot] -/
def C.slices_medianCmpFunc_api_Slot (data1 : Sl) (a2 : Int) (b3 : Int) (c4 : Int) (swaps5 : Option Addr) (cmp6 : Value) (K : Int → World → Prop) (w : World) : Prop :=
  okF Try.prog 103 (Calls Try.prog 103 #[.slice data1.a data1.len data1.cap, .int .i64 a2, .int .i64 b3, .int .i64 c4, .pointer swaps5, cmp6] w fun en w' => ∃ r7 : Int, en = .returned (.int .i64 r7) ∧ K r7 w')

/-- slices.order2CmpFunc[buttress/api.Slot] -/
def C.slices_order2CmpFunc_api_Slot (data1 : Sl) (a2 : Int) (b3 : Int) (swaps4 : Option Addr) (cmp5 : Value) (K : Int → Int → World → Prop) (w : World) : Prop :=
  okF Try.prog 104 (Calls Try.prog 104 #[.slice data1.a data1.len data1.cap, .int .i64 a2, .int .i64 b3, .pointer swaps4, cmp5] w fun en w' => ∃ r6 : Int, ∃ r7 : Int, en = .returned (.tuple #[.int .i64 r6, .int .i64 r7]) ∧ K r6 r7 w')
end Go.Proofs.Ytdlcejjiccknlaa
