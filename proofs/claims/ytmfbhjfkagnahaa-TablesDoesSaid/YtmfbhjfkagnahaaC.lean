/- Calls of the program's functions, by name. Printed by a program of mine (gen.py). -/
import Derived.Test.YtmfbhjfkagnahaaProg
import Derived.Test.YtmfbhjfkagnahaaVc
set_option linter.unusedVariables false
namespace Go.Proofs.Ytmfbhjfkagnahaa
open Go Go.Vc Go.Proofs

def bodyOf (f : Func) : Code := f.body.getD .skip
theorem okF_mk {P : Program} {f : FuncId} {fn : Func} {c : Code} {p : Prop} (hf : P.funcs[f]? = some fn) (hb : fn.body = some c) (h : p) : okF P f p := by
  unfold okF; rw [hf]; simp only [hb]; exact h
theorem okF_out {P : Program} {f : FuncId} {p : Prop} (h : okF P f p) : p := by
  unfold okF at h; split at h <;> first | exact h.elim | (split at h <;> first | exact h.elim | exact h)
theorem names_ok : ∀ (f : Nat) (fn : Func), Try.prog.funcs[f]? = some fn → (fn.name == "runtime.NumGoroutine") = false := by
  have h : Try.prog.funcs.toList.all (fun fn => !(fn.name == "runtime.NumGoroutine")) = true := by kernel_rfl
  intro f fn hf
  have := List.all_eq_true.1 h fn (by rw [Array.mem_toList_iff]; exact Array.mem_of_getElem? hf)
  simpa using this
theorem follows_ok : Try.prog.follows .mixedOrders = true := by kernel_rfl

/-- buttress/buttresslaw07.TreeUnder -/
def C.law07_TreeUnder (script1 : Sl) (K : Bool → World → Prop) (w : World) : Prop :=
  okF Try.prog 3 (Calls Try.prog 3 #[.slice script1.a script1.len script1.cap] w fun en w' => ∃ r2 : Bool, en = .returned (.bool r2) ∧ K r2 w')

/-- buttress/buttresslaw07.TreeMoves -/
def C.law07_TreeMoves (script1 : Sl) (n2 : Int) (K : Bool → World → Prop) (w : World) : Prop :=
  okF Try.prog 4 (Calls Try.prog 4 #[.slice script1.a script1.len script1.cap, .int .i64 n2] w fun en w' => ∃ r3 : Bool, en = .returned (.bool r3) ∧ K r3 w')

/-- buttress/buttresslaw07.TreeAdds -/
def C.law07_TreeAdds (script1 : Sl) (n2 : Int) (K : Bool → World → Prop) (w : World) : Prop :=
  okF Try.prog 5 (Calls Try.prog 5 #[.slice script1.a script1.len script1.cap, .int .i64 n2] w fun en w' => ∃ r3 : Bool, en = .returned (.bool r3) ∧ K r3 w')

/-- buttress/buttresslaw07.TreeRoots -/
def C.law07_TreeRoots (script1 : Sl) (K : Bool → World → Prop) (w : World) : Prop :=
  okF Try.prog 6 (Calls Try.prog 6 #[.slice script1.a script1.len script1.cap] w fun en w' => ∃ r2 : Bool, en = .returned (.bool r2) ∧ K r2 w')

/-- buttress/buttresslaw07.TreeNone -/
def C.law07_TreeNone (script1 : Sl) (s2 : Int) (s3 : Int) (K : Bool → World → Prop) (w : World) : Prop :=
  okF Try.prog 7 (Calls Try.prog 7 #[.slice script1.a script1.len script1.cap, .agg #[.int .i64 s2, .int .i64 s3]] w fun en w' => ∃ r4 : Bool, en = .returned (.bool r4) ∧ K r4 w')

/-- buttress/buttresslaw07.TreeDoes -/
def C.law07_TreeDoes (script1 : Sl) (K : Bool → World → Prop) (w : World) : Prop :=
  okF Try.prog 8 (Calls Try.prog 8 #[.slice script1.a script1.len script1.cap] w fun en w' => ∃ r2 : Bool, en = .returned (.bool r2) ∧ K r2 w')

/-- buttress/buttresslaw07.TreeTakes -/
def C.law07_TreeTakes (script1 : Sl) (n2 : Int) (K : Bool → World → Prop) (w : World) : Prop :=
  okF Try.prog 9 (Calls Try.prog 9 #[.slice script1.a script1.len script1.cap, .int .i64 n2] w fun en w' => ∃ r3 : Bool, en = .returned (.bool r3) ∧ K r3 w')

/-- buttress/buttresslaw14.TablesOnly -/
def C.law14_TablesOnly (script1 : Sl) (page2 : Int) (p3 : Int) (p4 : Int) (K : Bool → World → Prop) (w : World) : Prop :=
  okF Try.prog 10 (Calls Try.prog 10 #[.slice script1.a script1.len script1.cap, .int .i64 page2, .agg #[.int .i64 p3, .int .i64 p4]] w fun en w' => ∃ r5 : Bool, en = .returned (.bool r5) ∧ K r5 w')

/-- buttress/buttresslaw14.TablesApart -/
def C.law14_TablesApart (script1 : Sl) (o2 : Int) (o3 : Int) (o4 : Int) (o5 : Int) (o6 : Int) (K : Bool → World → Prop) (w : World) : Prop :=
  okF Try.prog 11 (Calls Try.prog 11 #[.slice script1.a script1.len script1.cap, .agg #[.int .i64 o2, .int .i64 o3, .int .i64 o4, .int .i64 o5, .int .i64 o6]] w fun en w' => ∃ r7 : Bool, en = .returned (.bool r7) ∧ K r7 w')

/-- buttress/buttresslaw14.TablesDrops -/
def C.law14_TablesDrops (l1 : Sl) (k2 : Int) (K : Bool → World → Prop) (w : World) : Prop :=
  okF Try.prog 12 (Calls Try.prog 12 #[.slice l1.a l1.len l1.cap, .int .i64 k2] w fun en w' => ∃ r3 : Bool, en = .returned (.bool r3) ∧ K r3 w')

/-- buttress/buttresslaw14.TablesFrames -/
def C.law14_TablesFrames (l1 : Sl) (frame2 : Int) (K : Bool → World → Prop) (w : World) : Prop :=
  okF Try.prog 13 (Calls Try.prog 13 #[.slice l1.a l1.len l1.cap, .int .i64 frame2] w fun en w' => ∃ r3 : Bool, en = .returned (.bool r3) ∧ K r3 w')

/-- buttress/buttresslaw14.TablesRights -/
def C.law14_TablesRights (page1 : Int) (p2 : Int) (p3 : Int) (r4 : Int) (K : Bool → World → Prop) (w : World) : Prop :=
  okF Try.prog 14 (Calls Try.prog 14 #[.int .i64 page1, .agg #[.int .i64 p2, .int .i64 p3], .int .i64 r4] w fun en w' => ∃ r5 : Bool, en = .returned (.bool r5) ∧ K r5 w')

/-- buttress/buttresslaw14.TablesFull -/
def C.law14_TablesFull (first1 : Int) (K : Bool → World → Prop) (w : World) : Prop :=
  okF Try.prog 15 (Calls Try.prog 15 #[.int .i64 first1] w fun en w' => ∃ r2 : Bool, en = .returned (.bool r2) ∧ K r2 w')

/-- buttress/buttresslaw14.TablesDoes -/
def C.law14_TablesDoes (script1 : Sl) (K : Bool → World → Prop) (w : World) : Prop :=
  okF Try.prog 16 (Calls Try.prog 16 #[.slice script1.a script1.len script1.cap] w fun en w' => ∃ r2 : Bool, en = .returned (.bool r2) ∧ K r2 w')

/-- buttress/buttresslaw07.laid -/
def C.law07_laid (script1 : Sl) (K : Option Addr → World → Prop) (w : World) : Prop :=
  okF Try.prog 17 (Calls Try.prog 17 #[.slice script1.a script1.len script1.cap] w fun en w' => ∃ r2 : Option Addr, en = .returned (.pointer r2) ∧ K r2 w')

/-- (*buttress/tree.Tree).All -/
def C.tree_Tree_All (t1 : Option Addr) (K : Sl → World → Prop) (w : World) : Prop :=
  okF Try.prog 18 (Calls Try.prog 18 #[.pointer t1] w fun en w' => ∃ r2 : Sl, en = .returned (.slice r2.a r2.len r2.cap) ∧ K r2 w')

/-- (*buttress/tree.Tree).Under -/
def C.tree_Tree_Under (t1 : Option Addr) (s2 : Int) (s3 : Int) (K : Sl → World → Prop) (w : World) : Prop :=
  okF Try.prog 19 (Calls Try.prog 19 #[.pointer t1, .agg #[.int .i64 s2, .int .i64 s3]] w fun en w' => ∃ r4 : Sl, en = .returned (.slice r4.a r4.len r4.cap) ∧ K r4 w')

/-- (*buttress/tree.Tree).Parent -/
def C.tree_Tree_Parent (t1 : Option Addr) (s2 : Int) (s3 : Int) (K : Int → Int → Bool → World → Prop) (w : World) : Prop :=
  okF Try.prog 20 (Calls Try.prog 20 #[.pointer t1, .agg #[.int .i64 s2, .int .i64 s3]] w fun en w' => ∃ r4 : Int, ∃ r5 : Int, ∃ r6 : Bool, en = .returned (.tuple #[.agg #[.int .i64 r4, .int .i64 r5], .bool r6]) ∧ K r4 r5 r6 w')

/-- buttress/buttresslaw07.among -/
def C.law07_among (l1 : Sl) (s2 : Int) (s3 : Int) (K : Bool → World → Prop) (w : World) : Prop :=
  okF Try.prog 21 (Calls Try.prog 21 #[.slice l1.a l1.len l1.cap, .agg #[.int .i64 s2, .int .i64 s3]] w fun en w' => ∃ r4 : Bool, en = .returned (.bool r4) ∧ K r4 w')

/-- buttress/buttresslaw07.fixed -/
def C.law07_fixed (K : Bool → World → Prop) (w : World) : Prop :=
  okF Try.prog 22 (Calls Try.prog 22 #[] w fun en w' => ∃ r1 : Bool, en = .returned (.bool r1) ∧ K r1 w')

/-- (*buttress/tree.Tree).Move -/
def C.tree_Tree_Move (t1 : Option Addr) (from2 : Int) (from3 : Int) (to4 : Int) (to5 : Int) (K : Int → World → Prop) (w : World) : Prop :=
  okF Try.prog 23 (Calls Try.prog 23 #[.pointer t1, .agg #[.int .i64 from2, .int .i64 from3], .agg #[.int .i64 to4, .int .i64 to5]] w fun en w' => ∃ r6 : Int, en = .returned (.int .i64 r6) ∧ K r6 w')

/-- buttress/buttressref07.Same -/
def C.ref07_Same (a1 : Sl) (b2 : Sl) (K : Bool → World → Prop) (w : World) : Prop :=
  okF Try.prog 24 (Calls Try.prog 24 #[.slice a1.a a1.len a1.cap, .slice b2.a b2.len b2.cap] w fun en w' => ∃ r3 : Bool, en = .returned (.bool r3) ∧ K r3 w')

/-- (*buttress/tree.Tree).Add -/
def C.tree_Tree_Add (t1 : Option Addr) (parent2 : Int) (parent3 : Int) (s4 : Int) (s5 : Int) (K : Int → World → Prop) (w : World) : Prop :=
  okF Try.prog 25 (Calls Try.prog 25 #[.pointer t1, .agg #[.int .i64 parent2, .int .i64 parent3], .agg #[.int .i64 s4, .int .i64 s5]] w fun en w' => ∃ r6 : Int, en = .returned (.int .i64 r6) ∧ K r6 w')

/-- (*buttress/tree.Tree).Take -/
def C.tree_Tree_Take (t1 : Option Addr) (s2 : Int) (s3 : Int) (K : Int → World → Prop) (w : World) : Prop :=
  okF Try.prog 26 (Calls Try.prog 26 #[.pointer t1, .agg #[.int .i64 s2, .int .i64 s3]] w fun en w' => ∃ r4 : Int, en = .returned (.int .i64 r4) ∧ K r4 w')

/-- buttress/tree.New -/
def C.tree_New (K : Option Addr → World → Prop) (w : World) : Prop :=
  okF Try.prog 27 (Calls Try.prog 27 #[] w fun en w' => ∃ r1 : Option Addr, en = .returned (.pointer r1) ∧ K r1 w')

/-- (*buttress/tree.Tree).Copy -/
def C.tree_Tree_Copy (t1 : Option Addr) (K : Option Addr → World → Prop) (w : World) : Prop :=
  okF Try.prog 28 (Calls Try.prog 28 #[.pointer t1] w fun en w' => ∃ r2 : Option Addr, en = .returned (.pointer r2) ∧ K r2 w')

/-- (*buttress/tree.Tree).Root -/
def C.tree_Tree_Root (t1 : Option Addr) (s2 : Int) (s3 : Int) (K : Int → World → Prop) (w : World) : Prop :=
  okF Try.prog 29 (Calls Try.prog 29 #[.pointer t1, .agg #[.int .i64 s2, .int .i64 s3]] w fun en w' => ∃ r4 : Int, en = .returned (.int .i64 r4) ∧ K r4 w')

/-- buttress/buttresslaw07.same -/
def C.law07_same (t1 : Option Addr) (k2 : Option Addr) (o3 : Int) (o4 : Int) (o5 : Int) (o6 : Int) (o7 : Int) (K : Bool → World → Prop) (w : World) : Prop :=
  okF Try.prog 30 (Calls Try.prog 30 #[.pointer t1, .pointer k2, .agg #[.int .i64 o3, .int .i64 o4, .int .i64 o5, .int .i64 o6, .int .i64 o7]] w fun en w' => ∃ r8 : Bool, en = .returned (.bool r8) ∧ K r8 w')

/-- (*buttress/buttressref07.Tree).Parent -/
def C.ref07_Tree_Parent (t1 : Option Addr) (s2 : Int) (s3 : Int) (K : Int → Int → Bool → World → Prop) (w : World) : Prop :=
  okF Try.prog 31 (Calls Try.prog 31 #[.pointer t1, .agg #[.int .i64 s2, .int .i64 s3]] w fun en w' => ∃ r4 : Int, ∃ r5 : Int, ∃ r6 : Bool, en = .returned (.tuple #[.agg #[.int .i64 r4, .int .i64 r5], .bool r6]) ∧ K r4 r5 r6 w')

/-- (*buttress/buttressref07.Tree).Under -/
def C.ref07_Tree_Under (t1 : Option Addr) (s2 : Int) (s3 : Int) (K : Sl → World → Prop) (w : World) : Prop :=
  okF Try.prog 32 (Calls Try.prog 32 #[.pointer t1, .agg #[.int .i64 s2, .int .i64 s3]] w fun en w' => ∃ r4 : Sl, en = .returned (.slice r4.a r4.len r4.cap) ∧ K r4 w')

/-- buttress/tables.New -/
def C.tables_New (K : Option Addr → World → Prop) (w : World) : Prop :=
  okF Try.prog 33 (Calls Try.prog 33 #[] w fun en w' => ∃ r1 : Option Addr, en = .returned (.pointer r1) ∧ K r1 w')

/-- (*buttress/tables.Space).Table -/
def C.tables_Space_Table (s1 : Option Addr) (i2 : Int) (n3 : Int) (K : Int → World → Prop) (w : World) : Prop :=
  okF Try.prog 34 (Calls Try.prog 34 #[.pointer s1, .int .i64 i2, .int .i64 n3] w fun en w' => ∃ r4 : Int, en = .returned (.int .i64 r4) ∧ K r4 w')

/-- (*buttress/tables.Space).Drop -/
def C.tables_Space_Drop (s1 : Option Addr) (i2 : Int) (K : Sl → Int → World → Prop) (w : World) : Prop :=
  okF Try.prog 35 (Calls Try.prog 35 #[.pointer s1, .int .i64 i2] w fun en w' => ∃ r3 : Sl, ∃ r4 : Int, en = .returned (.tuple #[.slice r3.a r3.len r3.cap, .int .i64 r4]) ∧ K r3 r4 w')

/-- (*buttress/tables.Space).Map -/
def C.tables_Space_Map (s1 : Option Addr) (n2 : Int) (p3 : Int) (p4 : Int) (K : Int → World → Prop) (w : World) : Prop :=
  okF Try.prog 36 (Calls Try.prog 36 #[.pointer s1, .int .i64 n2, .agg #[.int .i64 p3, .int .i64 p4]] w fun en w' => ∃ r5 : Int, en = .returned (.int .i64 r5) ∧ K r5 w')

/-- (*buttress/tables.Space).Unmap -/
def C.tables_Space_Unmap (s1 : Option Addr) (n2 : Int) (K : Int → Int → Int → World → Prop) (w : World) : Prop :=
  okF Try.prog 37 (Calls Try.prog 37 #[.pointer s1, .int .i64 n2] w fun en w' => ∃ r3 : Int, ∃ r4 : Int, ∃ r5 : Int, en = .returned (.tuple #[.agg #[.int .i64 r3, .int .i64 r4], .int .i64 r5]) ∧ K r3 r4 r5 w')

/-- (*buttress/tables.Space).Pages -/
def C.tables_Space_Pages (s1 : Option Addr) (K : Sl → World → Prop) (w : World) : Prop :=
  okF Try.prog 38 (Calls Try.prog 38 #[.pointer s1] w fun en w' => ∃ r2 : Sl, en = .returned (.slice r2.a r2.len r2.cap) ∧ K r2 w')

/-- (*buttress/tables.Space).Has -/
def C.tables_Space_Has (s1 : Option Addr) (i2 : Int) (K : Int → Bool → World → Prop) (w : World) : Prop :=
  okF Try.prog 39 (Calls Try.prog 39 #[.pointer s1, .int .i64 i2] w fun en w' => ∃ r3 : Int, ∃ r4 : Bool, en = .returned (.tuple #[.int .i64 r3, .bool r4]) ∧ K r3 r4 w')

/-- (*buttress/tables.Space).Walk -/
def C.tables_Space_Walk (s1 : Option Addr) (n2 : Int) (K : Int → Int → Bool → World → Prop) (w : World) : Prop :=
  okF Try.prog 40 (Calls Try.prog 40 #[.pointer s1, .int .i64 n2] w fun en w' => ∃ r3 : Int, ∃ r4 : Int, ∃ r5 : Bool, en = .returned (.tuple #[.agg #[.int .i64 r3, .int .i64 r4], .bool r5]) ∧ K r3 r4 r5 w')

/-- buttress/buttresslaw14.fixed -/
def C.law14_fixed (K : Bool → World → Prop) (w : World) : Prop :=
  okF Try.prog 41 (Calls Try.prog 41 #[] w fun en w' => ∃ r1 : Bool, en = .returned (.bool r1) ∧ K r1 w')

/-- (*buttress/tables.Space).Rights -/
def C.tables_Space_Rights (s1 : Option Addr) (n2 : Int) (r3 : Int) (K : Int → World → Prop) (w : World) : Prop :=
  okF Try.prog 42 (Calls Try.prog 42 #[.pointer s1, .int .i64 n2, .int .i64 r3] w fun en w' => ∃ r4 : Int, en = .returned (.int .i64 r4) ∧ K r4 w')

/-- buttress/buttressref14.Same -/
def C.ref14_Same (a1 : Sl) (b2 : Sl) (K : Bool → World → Prop) (w : World) : Prop :=
  okF Try.prog 43 (Calls Try.prog 43 #[.slice a1.a a1.len a1.cap, .slice b2.a b2.len b2.cap] w fun en w' => ∃ r3 : Bool, en = .returned (.bool r3) ∧ K r3 w')

/-- (*buttress/tables.Space).Frames -/
def C.tables_Space_Frames (s1 : Option Addr) (frame2 : Int) (K : Sl → World → Prop) (w : World) : Prop :=
  okF Try.prog 44 (Calls Try.prog 44 #[.pointer s1, .int .i64 frame2] w fun en w' => ∃ r3 : Sl, en = .returned (.slice r3.a r3.len r3.cap) ∧ K r3 w')

/-- (*buttress/buttressref14.Space).Table -/
def C.ref14_Space_Table (s1 : Option Addr) (i2 : Int) (n3 : Int) (K : Int → World → Prop) (w : World) : Prop :=
  okF Try.prog 45 (Calls Try.prog 45 #[.pointer s1, .int .i64 i2, .int .i64 n3] w fun en w' => ∃ r4 : Int, en = .returned (.int .i64 r4) ∧ K r4 w')

/-- (*buttress/buttressref14.Space).Drop -/
def C.ref14_Space_Drop (s1 : Option Addr) (i2 : Int) (K : Sl → Int → World → Prop) (w : World) : Prop :=
  okF Try.prog 46 (Calls Try.prog 46 #[.pointer s1, .int .i64 i2] w fun en w' => ∃ r3 : Sl, ∃ r4 : Int, en = .returned (.tuple #[.slice r3.a r3.len r3.cap, .int .i64 r4]) ∧ K r3 r4 w')

/-- (*buttress/buttressref14.Space).Map -/
def C.ref14_Space_Map (s1 : Option Addr) (n2 : Int) (p3 : Int) (p4 : Int) (K : Int → World → Prop) (w : World) : Prop :=
  okF Try.prog 47 (Calls Try.prog 47 #[.pointer s1, .int .i64 n2, .agg #[.int .i64 p3, .int .i64 p4]] w fun en w' => ∃ r5 : Int, en = .returned (.int .i64 r5) ∧ K r5 w')

/-- (*buttress/buttressref14.Space).Rights -/
def C.ref14_Space_Rights (s1 : Option Addr) (n2 : Int) (r3 : Int) (K : Int → World → Prop) (w : World) : Prop :=
  okF Try.prog 48 (Calls Try.prog 48 #[.pointer s1, .int .i64 n2, .int .i64 r3] w fun en w' => ∃ r4 : Int, en = .returned (.int .i64 r4) ∧ K r4 w')

/-- (*buttress/buttressref14.Space).Unmap -/
def C.ref14_Space_Unmap (s1 : Option Addr) (n2 : Int) (K : Int → Int → Int → World → Prop) (w : World) : Prop :=
  okF Try.prog 49 (Calls Try.prog 49 #[.pointer s1, .int .i64 n2] w fun en w' => ∃ r3 : Int, ∃ r4 : Int, ∃ r5 : Int, en = .returned (.tuple #[.agg #[.int .i64 r3, .int .i64 r4], .int .i64 r5]) ∧ K r3 r4 r5 w')

/-- (*buttress/tables.Space).Copy -/
def C.tables_Space_Copy (s1 : Option Addr) (K : Option Addr → World → Prop) (w : World) : Prop :=
  okF Try.prog 50 (Calls Try.prog 50 #[.pointer s1] w fun en w' => ∃ r2 : Option Addr, en = .returned (.pointer r2) ∧ K r2 w')

/-- (*buttress/buttressref14.Space).Walk -/
def C.ref14_Space_Walk (s1 : Option Addr) (n2 : Int) (K : Int → Int → Bool → World → Prop) (w : World) : Prop :=
  okF Try.prog 51 (Calls Try.prog 51 #[.pointer s1, .int .i64 n2] w fun en w' => ∃ r3 : Int, ∃ r4 : Int, ∃ r5 : Bool, en = .returned (.tuple #[.agg #[.int .i64 r3, .int .i64 r4], .bool r5]) ∧ K r3 r4 r5 w')

/-- (*buttress/buttressref14.Space).Has -/
def C.ref14_Space_Has (s1 : Option Addr) (i2 : Int) (K : Int → Bool → World → Prop) (w : World) : Prop :=
  okF Try.prog 52 (Calls Try.prog 52 #[.pointer s1, .int .i64 i2] w fun en w' => ∃ r3 : Int, ∃ r4 : Bool, en = .returned (.tuple #[.int .i64 r3, .bool r4]) ∧ K r3 r4 w')

/-- (*buttress/buttressref14.Space).Pages -/
def C.ref14_Space_Pages (s1 : Option Addr) (K : Sl → World → Prop) (w : World) : Prop :=
  okF Try.prog 53 (Calls Try.prog 53 #[.pointer s1] w fun en w' => ∃ r2 : Sl, en = .returned (.slice r2.a r2.len r2.cap) ∧ K r2 w')

/-- buttress/buttressref09.Nums -/
def C.ref09_Nums (a1 : Sl) (b2 : Sl) (K : Bool → World → Prop) (w : World) : Prop :=
  okF Try.prog 54 (Calls Try.prog 54 #[.slice a1.a a1.len a1.cap, .slice b2.a b2.len b2.cap] w fun en w' => ∃ r3 : Bool, en = .returned (.bool r3) ∧ K r3 w')

/-- (*buttress/buttressref14.Space).Frames -/
def C.ref14_Space_Frames (s1 : Option Addr) (frame2 : Int) (K : Sl → World → Prop) (w : World) : Prop :=
  okF Try.prog 55 (Calls Try.prog 55 #[.pointer s1, .int .i64 frame2] w fun en w' => ∃ r3 : Sl, en = .returned (.slice r3.a r3.len r3.cap) ∧ K r3 w')

/-- buttress/tree.slotsOf -/
def C.tree_slotsOf (l1 : Sl) (K : Sl → World → Prop) (w : World) : Prop :=
  okF Try.prog 56 (Calls Try.prog 56 #[.slice l1.a l1.len l1.cap] w fun en w' => ∃ r2 : Sl, en = .returned (.slice r2.a r2.len r2.cap) ∧ K r2 w')

/-- (*buttress/tree.Tree).place -/
def C.tree_Tree_place (t1 : Option Addr) (s2 : Int) (s3 : Int) (K : Int → World → Prop) (w : World) : Prop :=
  okF Try.prog 57 (Calls Try.prog 57 #[.pointer t1, .agg #[.int .i64 s2, .int .i64 s3]] w fun en w' => ∃ r4 : Int, en = .returned (.int .i64 r4) ∧ K r4 w')

/-- (*buttress/tree.Tree).end -/
def C.tree_Tree_end (t1 : Option Addr) (i2 : Int) (K : Int → World → Prop) (w : World) : Prop :=
  okF Try.prog 58 (Calls Try.prog 58 #[.pointer t1, .int .i64 i2] w fun en w' => ∃ r3 : Int, en = .returned (.int .i64 r3) ∧ K r3 w')

/-- slices.Insert[[]buttress/tree.leaf,buttress/tree.leaf] -/
def C.slices_Insert_tree_leaf_tree_leaf (s1 : Sl) (i2 : Int) (v3 : Sl) (K : Sl → World → Prop) (w : World) : Prop :=
  okF Try.prog 59 (Calls Try.prog 59 #[.slice s1.a s1.len s1.cap, .int .i64 i2, .slice v3.a v3.len v3.cap] w fun en w' => ∃ r4 : Sl, en = .returned (.slice r4.a r4.len r4.cap) ∧ K r4 w')

/-- slices.Delete[[]buttress/tree.leaf,buttress/tree.leaf] -/
def C.slices_Delete_tree_leaf_tree_leaf (s1 : Sl) (i2 : Int) (j3 : Int) (K : Sl → World → Prop) (w : World) : Prop :=
  okF Try.prog 60 (Calls Try.prog 60 #[.slice s1.a s1.len s1.cap, .int .i64 i2, .int .i64 j3] w fun en w' => ∃ r4 : Sl, en = .returned (.slice r4.a r4.len r4.cap) ∧ K r4 w')

/-- slices.Clone[[]buttress/tree.leaf,buttress/tree.leaf] -/
def C.slices_Clone_tree_leaf_tree_leaf (s1 : Sl) (K : Sl → World → Prop) (w : World) : Prop :=
  okF Try.prog 61 (Calls Try.prog 61 #[.slice s1.a s1.len s1.cap] w fun en w' => ∃ r2 : Sl, en = .returned (.slice r2.a r2.len r2.cap) ∧ K r2 w')

/-- (*buttress/buttressref07.Tree).Root -/
def C.ref07_Tree_Root (t1 : Option Addr) (s2 : Int) (s3 : Int) (K : Int → World → Prop) (w : World) : Prop :=
  okF Try.prog 62 (Calls Try.prog 62 #[.pointer t1, .agg #[.int .i64 s2, .int .i64 s3]] w fun en w' => ∃ r4 : Int, en = .returned (.int .i64 r4) ∧ K r4 w')

/-- (*buttress/buttressref07.Tree).Add -/
def C.ref07_Tree_Add (t1 : Option Addr) (parent2 : Int) (parent3 : Int) (s4 : Int) (s5 : Int) (K : Int → World → Prop) (w : World) : Prop :=
  okF Try.prog 63 (Calls Try.prog 63 #[.pointer t1, .agg #[.int .i64 parent2, .int .i64 parent3], .agg #[.int .i64 s4, .int .i64 s5]] w fun en w' => ∃ r6 : Int, en = .returned (.int .i64 r6) ∧ K r6 w')

/-- (*buttress/buttressref07.Tree).Take -/
def C.ref07_Tree_Take (t1 : Option Addr) (s2 : Int) (s3 : Int) (K : Int → World → Prop) (w : World) : Prop :=
  okF Try.prog 64 (Calls Try.prog 64 #[.pointer t1, .agg #[.int .i64 s2, .int .i64 s3]] w fun en w' => ∃ r4 : Int, en = .returned (.int .i64 r4) ∧ K r4 w')

/-- (*buttress/buttressref07.Tree).Move -/
def C.ref07_Tree_Move (t1 : Option Addr) (from2 : Int) (from3 : Int) (to4 : Int) (to5 : Int) (K : Int → World → Prop) (w : World) : Prop :=
  okF Try.prog 65 (Calls Try.prog 65 #[.pointer t1, .agg #[.int .i64 from2, .int .i64 from3], .agg #[.int .i64 to4, .int .i64 to5]] w fun en w' => ∃ r6 : Int, en = .returned (.int .i64 r6) ∧ K r6 w')

/-- (*buttress/buttressref07.Tree).place -/
def C.ref07_Tree_place (t1 : Option Addr) (s2 : Int) (s3 : Int) (K : Int → World → Prop) (w : World) : Prop :=
  okF Try.prog 66 (Calls Try.prog 66 #[.pointer t1, .agg #[.int .i64 s2, .int .i64 s3]] w fun en w' => ∃ r4 : Int, en = .returned (.int .i64 r4) ∧ K r4 w')

/-- (*buttress/buttressref07.Tree).end -/
def C.ref07_Tree_end (t1 : Option Addr) (i2 : Int) (K : Int → World → Prop) (w : World) : Prop :=
  okF Try.prog 67 (Calls Try.prog 67 #[.pointer t1, .int .i64 i2] w fun en w' => ∃ r3 : Int, en = .returned (.int .i64 r3) ∧ K r3 w')

/-- buttress/tables.place -/
def C.tables_place (i1 : Int) (K : Bool → World → Prop) (w : World) : Prop :=
  okF Try.prog 68 (Calls Try.prog 68 #[.int .i64 i1] w fun en w' => ∃ r2 : Bool, en = .returned (.bool r2) ∧ K r2 w')

/-- (*buttress/tables.Space).Table$1 -/
def C.tables_Space_Table_1 (t1 : Int) (t2 : Option Nat) (a3 : Addr) (K : Bool → World → Prop) (w : World) : Prop :=
  okF Try.prog 69 (Calls Try.prog 69 #[.agg #[.int .i64 t1, .map t2], .pointer (some a3)] w fun en w' => ∃ r4 : Bool, en = .returned (.bool r4) ∧ K r4 w')

/-- slices.ContainsFunc[[]buttress/tables.table,buttress/tables.table] -/
def C.slices_ContainsFunc_tables_table_tables_table (s1 : Sl) (f2 : Value) (K : Bool → World → Prop) (w : World) : Prop :=
  okF Try.prog 70 (Calls Try.prog 70 #[.slice s1.a s1.len s1.cap, f2] w fun en w' => ∃ r3 : Bool, en = .returned (.bool r3) ∧ K r3 w')

/-- (buttress/tables.table).laid -/
def C.tables_table_laid (t1 : Int) (t2 : Option Nat) (K : Sl → World → Prop) (w : World) : Prop :=
  okF Try.prog 71 (Calls Try.prog 71 #[.agg #[.int .i64 t1, .map t2]] w fun en w' => ∃ r3 : Sl, en = .returned (.slice r3.a r3.len r3.cap) ∧ K r3 w')

/-- buttress/tables.page -/
def C.tables_page (n1 : Int) (K : Bool → World → Prop) (w : World) : Prop :=
  okF Try.prog 72 (Calls Try.prog 72 #[.int .i64 n1] w fun en w' => ∃ r2 : Bool, en = .returned (.bool r2) ∧ K r2 w')

/-- buttress/tables.rights -/
def C.tables_rights (n1 : Int) (K : Bool → World → Prop) (w : World) : Prop :=
  okF Try.prog 73 (Calls Try.prog 73 #[.int .i64 n1] w fun en w' => ∃ r2 : Bool, en = .returned (.bool r2) ∧ K r2 w')

/-- (*buttress/tables.Space).of -/
def C.tables_Space_of (s1 : Option Addr) (n2 : Int) (K : Option Addr → Bool → World → Prop) (w : World) : Prop :=
  okF Try.prog 74 (Calls Try.prog 74 #[.pointer s1, .int .i64 n2] w fun en w' => ∃ r3 : Option Addr, ∃ r4 : Bool, en = .returned (.tuple #[.pointer r3, .bool r4]) ∧ K r3 r4 w')

/-- (*buttress/buttressref14.Space).place -/
def C.ref14_Space_place (s1 : Option Addr) (n2 : Int) (K : Int → World → Prop) (w : World) : Prop :=
  okF Try.prog 75 (Calls Try.prog 75 #[.pointer s1, .int .i64 n2] w fun en w' => ∃ r3 : Int, en = .returned (.int .i64 r3) ∧ K r3 w')

/-- maps.Clone[map[int]buttress/api.Page,int,buttress/api.Page] -/
def C.maps_Clone_map_int_api_Page_int_api_Page (m1 : Option Nat) (K : Option Nat → World → Prop) (w : World) : Prop :=
  okF Try.prog 76 (Calls Try.prog 76 #[.map m1] w fun en w' => ∃ r2 : Option Nat, en = .returned (.map r2) ∧ K r2 w')

/-- slices.IndexFunc[[]buttress/tree.leaf,buttress/tree.leaf] -/
def C.slices_IndexFunc_tree_leaf_tree_leaf (s1 : Sl) (f2 : Value) (K : Int → World → Prop) (w : World) : Prop :=
  okF Try.prog 77 (Calls Try.prog 77 #[.slice s1.a s1.len s1.cap, f2] w fun en w' => ∃ r3 : Int, en = .returned (.int .i64 r3) ∧ K r3 w')

/-- (*buttress/tree.Tree).place$1 -/
def C.tree_Tree_place_1 (x1 : Int) (x2 : Int) (x3 : Int) (a4 : Addr) (K : Bool → World → Prop) (w : World) : Prop :=
  okF Try.prog 78 (Calls Try.prog 78 #[.agg #[.int .i64 x1, .int .i64 x2, .int .i64 x3], .pointer (some a4)] w fun en w' => ∃ r5 : Bool, en = .returned (.bool r5) ∧ K r5 w')

/-- slices.rotateRight[buttress/tree.leaf] -/
def C.slices_rotateRight_tree_leaf (s1 : Sl) (r2 : Int) (K : World → Prop) (w : World) : Prop :=
  okF Try.prog 80 (Calls Try.prog 80 #[.slice s1.a s1.len s1.cap, .int .i64 r2] w fun en w' => en = .returned (.tuple #[]) ∧ K w')

/-- (*buttress/buttressref07.Tree).put -/
def C.ref07_Tree_put (t1 : Option Addr) (at2 : Int) (s3 : Int) (s4 : Int) (depth5 : Int) (K : World → Prop) (w : World) : Prop :=
  okF Try.prog 81 (Calls Try.prog 81 #[.pointer t1, .int .i64 at2, .agg #[.int .i64 s3, .int .i64 s4], .int .i64 depth5] w fun en w' => en = .returned (.tuple #[]) ∧ K w')

/-- slices.IndexFunc[[]buttress/tables.table,buttress/tables.table] -/
def C.slices_IndexFunc_tables_table_tables_table (s1 : Sl) (f2 : Value) (K : Int → World → Prop) (w : World) : Prop :=
  okF Try.prog 82 (Calls Try.prog 82 #[.slice s1.a s1.len s1.cap, f2] w fun en w' => ∃ r3 : Int, en = .returned (.int .i64 r3) ∧ K r3 w')

/-- slices.Sorted[int] -/
def C.slices_Sorted_int (seq1 : Value) (K : Sl → World → Prop) (w : World) : Prop :=
  okF Try.prog 83 (Calls Try.prog 83 #[seq1] w fun en w' => ∃ r2 : Sl, en = .returned (.slice r2.a r2.len r2.cap) ∧ K r2 w')

/-- maps.Keys[map[int]buttress/api.Page,int,buttress/api.Page] -/
def C.maps_Keys_map_int_api_Page_int_api_Page (m1 : Option Nat) (K : Value → World → Prop) (w : World) : Prop :=
  okF Try.prog 84 (Calls Try.prog 84 #[.map m1] w fun en w' => ∃ r2 : Value, en = .returned (r2) ∧ K r2 w')

/-- buttress/words.Field -/
def C.words_Field (v1 : Int) (at2 : Int) (n3 : Int) (K : Int → Int → World → Prop) (w : World) : Prop :=
  okF Try.prog 85 (Calls Try.prog 85 #[.int .u64 v1, .int .i64 at2, .int .i64 n3] w fun en w' => ∃ r4 : Int, ∃ r5 : Int, en = .returned (.tuple #[.int .u64 r4, .int .i64 r5]) ∧ K r4 r5 w')

/-- slices.rotateLeft[buttress/tree.leaf] -/
def C.slices_rotateLeft_tree_leaf (s1 : Sl) (r2 : Int) (K : World → Prop) (w : World) : Prop :=
  okF Try.prog 87 (Calls Try.prog 87 #[.slice s1.a s1.len s1.cap, .int .i64 r2] w fun en w' => en = .returned (.tuple #[]) ∧ K w')

/-- slices.Collect[int] -/
def C.slices_Collect_int (seq1 : Value) (K : Sl → World → Prop) (w : World) : Prop :=
  okF Try.prog 88 (Calls Try.prog 88 #[seq1] w fun en w' => ∃ r2 : Sl, en = .returned (.slice r2.a r2.len r2.cap) ∧ K r2 w')

/-- slices.Sort[[]int,int] -/
def C.slices_Sort_int_int (x1 : Sl) (K : World → Prop) (w : World) : Prop :=
  okF Try.prog 89 (Calls Try.prog 89 #[.slice x1.a x1.len x1.cap] w fun en w' => en = .returned (.tuple #[]) ∧ K w')

/-- maps.Keys[map[int]buttress/api.Page,int,buttress/api.Page]$1 -/
def C.maps_Keys_map_int_api_Page_int_api_Page__1 (yield1 : Value) (a2 : Addr) (K : World → Prop) (w : World) : Prop :=
  okF Try.prog 90 (Calls Try.prog 90 #[yield1, .pointer (some a2)] w fun en w' => en = .returned (.tuple #[]) ∧ K w')

/-- buttress/words.there -/
def C.words_there (at1 : Int) (n2 : Int) (K : Bool → World → Prop) (w : World) : Prop :=
  okF Try.prog 91 (Calls Try.prog 91 #[.int .i64 at1, .int .i64 n2] w fun en w' => ∃ r3 : Bool, en = .returned (.bool r3) ∧ K r3 w')

/-- buttress/words.low -/
def C.words_low (n1 : Int) (K : Int → World → Prop) (w : World) : Prop :=
  okF Try.prog 92 (Calls Try.prog 92 #[.int .i64 n1] w fun en w' => ∃ r2 : Int, en = .returned (.int .u64 r2) ∧ K r2 w')

/-- slices.Reverse[[]buttress/tree.leaf,buttress/tree.leaf] -/
def C.slices_Reverse_tree_leaf_tree_leaf (s1 : Sl) (K : World → Prop) (w : World) : Prop :=
  okF Try.prog 93 (Calls Try.prog 93 #[.slice s1.a s1.len s1.cap] w fun en w' => en = .returned (.tuple #[]) ∧ K w')

/-- slices.AppendSeq[[]int,int] -/
def C.slices_AppendSeq_int_int (s1 : Sl) (seq2 : Value) (K : Sl → World → Prop) (w : World) : Prop :=
  okF Try.prog 94 (Calls Try.prog 94 #[.slice s1.a s1.len s1.cap, seq2] w fun en w' => ∃ r3 : Sl, en = .returned (.slice r3.a r3.len r3.cap) ∧ K r3 w')

/-- slices.pdqsortOrdered[int] -/
def C.slices_pdqsortOrdered_int (data1 : Sl) (a2 : Int) (b3 : Int) (limit4 : Int) (K : World → Prop) (w : World) : Prop :=
  okF Try.prog 95 (Calls Try.prog 95 #[.slice data1.a data1.len data1.cap, .int .i64 a2, .int .i64 b3, .int .i64 limit4] w fun en w' => en = .returned (.tuple #[]) ∧ K w')

/-- math/bits.Len -/
def C.math_bits_Len (x1 : Int) (K : Int → World → Prop) (w : World) : Prop :=
  okF Try.prog 96 (Calls Try.prog 96 #[.int .u64 x1] w fun en w' => ∃ r2 : Int, en = .returned (.int .i64 r2) ∧ K r2 w')

/-- slices.insertionSortOrdered[int] -/
def C.slices_insertionSortOrdered_int (data1 : Sl) (a2 : Int) (b3 : Int) (K : World → Prop) (w : World) : Prop :=
  okF Try.prog 97 (Calls Try.prog 97 #[.slice data1.a data1.len data1.cap, .int .i64 a2, .int .i64 b3] w fun en w' => en = .returned (.tuple #[]) ∧ K w')

/-- slices.heapSortOrdered[int] -/
def C.slices_heapSortOrdered_int (data1 : Sl) (a2 : Int) (b3 : Int) (K : World → Prop) (w : World) : Prop :=
  okF Try.prog 98 (Calls Try.prog 98 #[.slice data1.a data1.len data1.cap, .int .i64 a2, .int .i64 b3] w fun en w' => en = .returned (.tuple #[]) ∧ K w')

/-- slices.breakPatternsOrdered[int] -/
def C.slices_breakPatternsOrdered_int (data1 : Sl) (a2 : Int) (b3 : Int) (K : World → Prop) (w : World) : Prop :=
  okF Try.prog 99 (Calls Try.prog 99 #[.slice data1.a data1.len data1.cap, .int .i64 a2, .int .i64 b3] w fun en w' => en = .returned (.tuple #[]) ∧ K w')

/-- slices.choosePivotOrdered[int] -/
def C.slices_choosePivotOrdered_int (data1 : Sl) (a2 : Int) (b3 : Int) (K : Int → Int → World → Prop) (w : World) : Prop :=
  okF Try.prog 100 (Calls Try.prog 100 #[.slice data1.a data1.len data1.cap, .int .i64 a2, .int .i64 b3] w fun en w' => ∃ r4 : Int, ∃ r5 : Int, en = .returned (.tuple #[.int .i64 r4, .int .i64 r5]) ∧ K r4 r5 w')

/-- slices.reverseRangeOrdered[int] -/
def C.slices_reverseRangeOrdered_int (data1 : Sl) (a2 : Int) (b3 : Int) (K : World → Prop) (w : World) : Prop :=
  okF Try.prog 101 (Calls Try.prog 101 #[.slice data1.a data1.len data1.cap, .int .i64 a2, .int .i64 b3] w fun en w' => en = .returned (.tuple #[]) ∧ K w')

/-- slices.partialInsertionSortOrdered[int] -/
def C.slices_partialInsertionSortOrdered_int (data1 : Sl) (a2 : Int) (b3 : Int) (K : Bool → World → Prop) (w : World) : Prop :=
  okF Try.prog 102 (Calls Try.prog 102 #[.slice data1.a data1.len data1.cap, .int .i64 a2, .int .i64 b3] w fun en w' => ∃ r4 : Bool, en = .returned (.bool r4) ∧ K r4 w')

/-- cmp.Less[int] -/
def C.cmp_Less_int (x1 : Int) (y2 : Int) (K : Bool → World → Prop) (w : World) : Prop :=
  okF Try.prog 103 (Calls Try.prog 103 #[.int .i64 x1, .int .i64 y2] w fun en w' => ∃ r3 : Bool, en = .returned (.bool r3) ∧ K r3 w')

/-- slices.partitionEqualOrdered[int] -/
def C.slices_partitionEqualOrdered_int (data1 : Sl) (a2 : Int) (b3 : Int) (pivot4 : Int) (K : Int → World → Prop) (w : World) : Prop :=
  okF Try.prog 104 (Calls Try.prog 104 #[.slice data1.a data1.len data1.cap, .int .i64 a2, .int .i64 b3, .int .i64 pivot4] w fun en w' => ∃ r5 : Int, en = .returned (.int .i64 r5) ∧ K r5 w')

/-- slices.partitionOrdered[int] -/
def C.slices_partitionOrdered_int (data1 : Sl) (a2 : Int) (b3 : Int) (pivot4 : Int) (K : Int → Bool → World → Prop) (w : World) : Prop :=
  okF Try.prog 105 (Calls Try.prog 105 #[.slice data1.a data1.len data1.cap, .int .i64 a2, .int .i64 b3, .int .i64 pivot4] w fun en w' => ∃ r5 : Int, ∃ r6 : Bool, en = .returned (.tuple #[.int .i64 r5, .bool r6]) ∧ K r5 r6 w')

/-- math/bits.Len32 -/
def C.math_bits_Len32 (x1 : Int) (K : Int → World → Prop) (w : World) : Prop :=
  okF Try.prog 106 (Calls Try.prog 106 #[.int .u32 x1] w fun en w' => ∃ r2 : Int, en = .returned (.int .i64 r2) ∧ K r2 w')

/-- math/bits.Len64 -/
def C.math_bits_Len64 (x1 : Int) (K : Int → World → Prop) (w : World) : Prop :=
  okF Try.prog 107 (Calls Try.prog 107 #[.int .u64 x1] w fun en w' => ∃ r2 : Int, en = .returned (.int .i64 r2) ∧ K r2 w')

/-- slices.siftDownOrdered[int] -/
def C.slices_siftDownOrdered_int (data1 : Sl) (lo2 : Int) (hi3 : Int) (first4 : Int) (K : World → Prop) (w : World) : Prop :=
  okF Try.prog 108 (Calls Try.prog 108 #[.slice data1.a data1.len data1.cap, .int .i64 lo2, .int .i64 hi3, .int .i64 first4] w fun en w' => en = .returned (.tuple #[]) ∧ K w')

/-- slices.nextPowerOfTwo -/
def C.slices_nextPowerOfTwo (length1 : Int) (K : Int → World → Prop) (w : World) : Prop :=
  okF Try.prog 109 (Calls Try.prog 109 #[.int .i64 length1] w fun en w' => ∃ r2 : Int, en = .returned (.int .u64 r2) ∧ K r2 w')

/-- (*slices.xorshift).Next -/
def C.slices_xorshift_Next (r1 : Option Addr) (K : Int → World → Prop) (w : World) : Prop :=
  okF Try.prog 110 (Calls Try.prog 110 #[.pointer r1] w fun en w' => ∃ r2 : Int, en = .returned (.int .u64 r2) ∧ K r2 w')

/-- slices.medianAdjacentOrdered[int] -/
def C.slices_medianAdjacentOrdered_int (data1 : Sl) (a2 : Int) (swaps3 : Option Addr) (K : Int → World → Prop) (w : World) : Prop :=
  okF Try.prog 111 (Calls Try.prog 111 #[.slice data1.a data1.len data1.cap, .int .i64 a2, .pointer swaps3] w fun en w' => ∃ r4 : Int, en = .returned (.int .i64 r4) ∧ K r4 w')

/-- slices.medianOrdered[int] -/
def C.slices_medianOrdered_int (data1 : Sl) (a2 : Int) (b3 : Int) (c4 : Int) (swaps5 : Option Addr) (K : Int → World → Prop) (w : World) : Prop :=
  okF Try.prog 112 (Calls Try.prog 112 #[.slice data1.a data1.len data1.cap, .int .i64 a2, .int .i64 b3, .int .i64 c4, .pointer swaps5] w fun en w' => ∃ r6 : Int, en = .returned (.int .i64 r6) ∧ K r6 w')

/-- cmp.isNaN[int] -/
def C.cmp_isNaN_int (x1 : Int) (K : Bool → World → Prop) (w : World) : Prop :=
  okF Try.prog 113 (Calls Try.prog 113 #[.int .i64 x1] w fun en w' => ∃ r2 : Bool, en = .returned (.bool r2) ∧ K r2 w')

/-- slices.order2Ordered[int] -/
def C.slices_order2Ordered_int (data1 : Sl) (a2 : Int) (b3 : Int) (swaps4 : Option Addr) (K : Int → Int → World → Prop) (w : World) : Prop :=
  okF Try.prog 114 (Calls Try.prog 114 #[.slice data1.a data1.len data1.cap, .int .i64 a2, .int .i64 b3, .pointer swaps4] w fun en w' => ∃ r5 : Int, ∃ r6 : Int, en = .returned (.tuple #[.int .i64 r5, .int .i64 r6]) ∧ K r5 r6 w')
end Go.Proofs.Ytmfbhjfkagnahaa
