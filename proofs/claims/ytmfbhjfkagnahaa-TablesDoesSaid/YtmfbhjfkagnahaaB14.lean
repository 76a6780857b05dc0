/- Tables of layer 14: where they lie. -/
import Derived.Test.YtmfbhjfkagnahaaA14
import Derived.Test.YtmfbhjfkagnahaaKS
import Derived.Test.YtmfbhjfkagnahaaC
set_option linter.unusedVariables false
set_option linter.unusedSimpArgs false
set_option maxRecDepth 8000
namespace Go.Proofs.Ytmfbhjfkagnahaa
open Go Go.Vc Go.Proofs

def pgV (p : Pg) : Value := .agg #[.int .i64 p.1, .int .i64 p.2]
def tcE : EncT (Option (Int × Nat)) := ⟨2, fun o => [.int .i64 ((o.map (·.1)).getD 0), .map (o.map (·.2))], fun _ => rfl, fun x v h => by
  simp only [List.mem_cons, List.not_mem_nil, or_false] at h
  rcases h with rfl | rfl <;> rfl, by decide⟩
def laidE : EncT (Int × Pg) := ⟨3, fun o => [.int .i64 o.1, .int .i64 o.2.1, .int .i64 o.2.2], fun _ => rfl, fun x v h => by
  simp only [List.mem_cons, List.not_mem_nil, or_false] at h
  rcases h with rfl | rfl | rfl <;> rfl, by decide⟩
abbrev pmA (m : Nat) (M : Pgs) : Asn := MapA (Value.int .i64) pgV m M
def tcs (tb : Nat → Option Int) (mb : Nat → Nat) : List (Option (Int × Nat)) := (List.range 64).map fun i => (tb i).map fun n => (n, mb i)
def tabA (tb : Nat → Option Int) (mb : Nat → Nat) (M : Nat → Pgs) (i : Nat) : Asn := if (tb i).isSome = true then pmA (mb i) (M i) else PureA True
def SpcA (b : Nat) (m : Spc) : Asn := ExA fun x : (Nat → Nat) × (Nat → Pgs) => StarA (PureA (SOk m ∧ ∀ i, (x.2 i).Perm (tabP m.pg i)) :: BlkA b ((tcs m.tb x.1).flatMap tcE.enc) :: (List.range 64).map (tabA m.tb x.1 x.2))
section
variable {B : Nat} {w0 w : World} {R L : List Asn} {b : Nat} {m : Spc}
theorem _root_.Go.Vc.Own.spc (h : Own B w0 w (SpcA b m :: R)) : ∃ (mb : Nat → Nat) (M : Nat → Pgs), SOk m ∧ (∀ i, (M i).Perm (tabP m.pg i)) ∧ Own B w0 w (BlkA b ((tcs m.tb mb).flatMap tcE.enc) :: ((List.range 64).map (tabA m.tb mb M) ++ R)) := by
  obtain ⟨⟨mb, M⟩, h⟩ := h.ex
  obtain ⟨⟨h1, h2⟩, h⟩ := Own.pure h.star
  exact ⟨mb, M, h1, h2, h⟩
theorem _root_.Go.Vc.Own.mk_spc {mb : Nat → Nat} {M : Nat → Pgs} (h1 : SOk m) (h2 : ∀ i, (M i).Perm (tabP m.pg i)) (h : Own B w0 w (BlkA b ((tcs m.tb mb).flatMap tcE.enc) :: ((List.range 64).map (tabA m.tb mb M) ++ R))) : Own B w0 w (SpcA b m :: R) :=
  Own.mk_ex (mb, M) (Own.mk_star (Own.mk_pure ⟨h1, h2⟩ h))
theorem tabs_get {f : Nat → Asn} {i : Nat} (hi : i < 64) (A : Asn) : (A :: ((List.range 64).map f ++ R))[i + 1]? = some (f i) := by
  rw [List.getElem?_cons_succ, List.getElem?_append_left (by simp; exact hi), List.getElem?_map, List.getElem?_range hi]; rfl
theorem tabs_set {f g : Nat → Asn} {A : Asn} {i : Nat} (hi : i < 64) (h : ∀ j, j < 64 → g j = if j = i then A else f j) (A0 : Asn) : (A0 :: ((List.range 64).map f ++ R)).set (i + 1) A = A0 :: ((List.range 64).map g ++ R) := by
  rw [List.set_cons_succ, List.set_append_left _ _ (by simp; exact hi)]
  congr 2
  apply List.ext_getElem?
  intro j
  rw [List.getElem?_set, List.getElem?_map, List.getElem?_map]
  by_cases hj : j < 64
  · rw [List.getElem?_range hj]
    by_cases e : i = j
    · subst e; rw [if_pos rfl, if_pos (by simp; exact hi)]; simp only [Option.map_some]; rw [h i hi, if_pos rfl]
    · rw [if_neg e]; simp only [Option.map_some]; rw [h j hj, if_neg fun e2 => e e2.symm]
  · rw [List.getElem?_eq_none (show (List.range 64).length ≤ j by simp; omega), if_neg (by omega)]; rfl
theorem tcs_get {tb : Nat → Option Int} {mb : Nat → Nat} {i : Nat} (hi : i < 64) : (tcs tb mb)[i]? = some ((tb i).map fun n => (n, mb i)) := by
  unfold tcs
  rw [List.getElem?_map, List.getElem?_range hi]; rfl
theorem tcs_len {tb : Nat → Option Int} {mb : Nat → Nat} : (tcs tb mb).length = 64 := by unfold tcs; simp
theorem tcs_set {tb : Nat → Option Int} {mb : Nat → Nat} {i : Nat} (hi : i < 64) (v : Option Int) (r : Nat) : (tcs tb mb).set i (v.map fun n => (n, r)) = tcs (upT tb i v) (fun j => if j = i then r else mb j) := by
  apply List.ext_getElem?
  intro j
  rw [List.getElem?_set]
  by_cases hj : j < 64
  · rw [tcs_get hj, tcs_get hj]
    unfold upT
    by_cases e : i = j
    · subst e; rw [if_pos rfl, if_pos (by rw [tcs_len]; exact hi), if_pos rfl, if_pos rfl]
    · rw [if_neg e, if_neg fun e2 => e e2.symm, if_neg fun e2 => e e2.symm]
  · rw [List.getElem?_eq_none (show (tcs _ _).length ≤ j by rw [tcs_len]; omega), List.getElem?_eq_none (show (tcs _ _).length ≤ j by rw [tcs_len]; omega), if_neg (by omega)]
theorem tcell_n {tb : Nat → Option Int} {mb : Nat → Nat} {i : Nat} (hi : i < 64) : ((tcs tb mb).flatMap tcE.enc)[i * 2]? = some (.int .i64 ((tb i).getD 0)) := by
  have := flat_get tcE (tcs tb mb) i 0 _ (tcs_get hi) (by decide)
  rw [show i * tcE.z + 0 = i * 2 from rfl] at this
  rw [this]
  cases tb i <;> rfl
theorem tcell_p {tb : Nat → Option Int} {mb : Nat → Nat} {i : Nat} (hi : i < 64) : ((tcs tb mb).flatMap tcE.enc)[i * 2 + 1]? = some (.map ((tb i).map fun _ => mb i)) := by
  have := flat_get tcE (tcs tb mb) i 1 _ (tcs_get hi) (by decide)
  rw [show i * tcE.z + 1 = i * 2 + 1 from rfl] at this
  rw [this]
  cases tb i <;> rfl
end
theorem SOk.none_tab {m : Spc} (h : SOk m) {i : Nat} (hi : m.tb i = none) : tabP m.pg i = [] := by
  unfold tabP
  rw [List.filter_eq_nil_iff]
  intro x hx e
  have := (h.bnd x hx).2.2
  simp only [beq_iff_eq] at e
  rw [e, hi] at this
  cases this
end Go.Proofs.Ytmfbhjfkagnahaa
