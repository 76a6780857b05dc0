/- Laws of layer 10: who waits; who is greater. -/
import Derived.Test.YtgkebkfabegflaaTH8
import Derived.Test.YtgkebkfabegflaaC
set_option linter.unusedVariables false
set_option linter.unusedSimpArgs false
set_option maxRecDepth 8000
namespace Go.Proofs.Ytgkebkfabegflaa
open Go Go.Vc Go.Proofs

theorem and127 {n : Int} : ∃ q : Nat, andI .i64 n (127 : Int) = (q : Int) ∧ q < 128 := by
  have h : ∃ p : Nat, p ≤ 127 ∧ andI .i64 n (127 : Int) = (p : Int) := by
    unfold andI
    have hle : (BitVec.ofInt IntKind.i64.bits n &&& BitVec.ofInt IntKind.i64.bits (127 : Int)).toNat ≤ 127 := by
      rw [BitVec.toNat_and]
      refine Nat.le_trans Nat.and_le_right ?_
      have : (BitVec.ofInt IntKind.i64.bits (127 : Int)).toNat = 127 := by decide
      omega
    exact ⟨_, hle, wr (by omega) (by omega)⟩
  obtain ⟨p, hp, e⟩ := h
  exact ⟨p, e, by omega⟩
theorem and3 {n : Int} : ∃ q : Nat, andI .i64 n (3 : Int) = (q : Int) ∧ q < 4 := by
  have h : ∃ p : Nat, p ≤ 3 ∧ andI .i64 n (3 : Int) = (p : Int) := by
    unfold andI
    have hle : (BitVec.ofInt IntKind.i64.bits n &&& BitVec.ofInt IntKind.i64.bits (3 : Int)).toNat ≤ 3 := by
      rw [BitVec.toNat_and]
      refine Nat.le_trans Nat.and_le_right ?_
      have : (BitVec.ofInt IntKind.i64.bits (3 : Int)).toNat = 3 := by decide
      omega
    exact ⟨_, hle, wr (by omega) (by omega)⟩
  obtain ⟨p, hp, e⟩ := h
  exact ⟨p, e, by omega⟩
def wa1 (p : Nat) : Mt := ((newM 1).make p 0).lineUp 0
def wa2 (p : Nat) : Mt := ((wa1 p).make p 0).lineUp 1
def wa3 (p : Nat) : Mt := (wa2 p).pickC 0
def wOne (m : Mt) (s : Int) (p : Nat) : Bool := m.isT 0 && (m.th 0).st == s && m.runs? 0 == none && m.isC 0 && lineI (m.q 0) p == [1] && (m.lineUp 0).isT 0 && ((m.lineUp 0).th 0).st == 1 && (m.lineUp 0).isC 0 && lineI ((m.lineUp 0).q 0) p == [1, 0]
def waitsB (p : Nat) : Bool := (wa3 p).runs? 0 == some 0 && ((wa3 p).isT 0 && ((wa3 p).th 0).st == 2) && (wOne ((wa3 p).leave 0 3) 3 p && wOne ((wa3 p).leave 0 0) 0 p)
set_option maxRecDepth 100000 in
theorem waits_all : (List.range 256).all waitsB = true := by kernel_rfl
def gr3 (p : Nat) : Mt := (((((newM 1).make p 0).make ((p + 1 : Nat) : Int) 0).lineUp 0).pickC 0)
def greaterB (p t : Nat) : Bool := (tickN t (gr3 p)).isT 1 && ((tickN t (gr3 p)).th 1).st == 0 && ((tickN t (gr3 p)).lineUp 1).runs? 0 == some 0 && (((tickN t (gr3 p)).lineUp 1).pickC 0).runs? 0 == some 1 &&
  (((tickN t (gr3 p)).lineUp 1).pickC 0).isT 0 && ((((tickN t (gr3 p)).lineUp 1).pickC 0).th 0).st == 1 && ((((tickN t (gr3 p)).lineUp 1).pickC 0).th 0).le == 5 - (t : Int) && (((tickN t (gr3 p)).lineUp 1).pickC 0).isC 0 &&
  lineI ((((tickN t (gr3 p)).lineUp 1).pickC 0).q 0) p == [0]
set_option maxRecDepth 100000 in
theorem greater_all : (List.range 128).all (fun p => (List.range 4).all fun t => greaterB p t) = true := by kernel_rfl

end Go.Proofs.Ytgkebkfabegflaa
