/- Laws of layer 10: turns at one prio (begun). -/
import Derived.Test.YtgkebkfabegflaaTH10
import Derived.Test.YtgkebkfabegflaaC
set_option linter.unusedVariables false
set_option linter.unusedSimpArgs false
set_option maxRecDepth 8000
namespace Go.Proofs.Ytgkebkfabegflaa
open Go Go.Vc Go.Proofs

/-- Where all that wait have one prio, the next one is the first. -/
theorem next_uni {Q : Qs} {p : Nat} (hp : p < 256) (h : ∀ x ∈ Q, x.1 = p) : nextR Q = Q.head?.map (·.2) := by
  have hline : ∀ q, lineOf Q q = if q = p then Q.map (·.2) else [] := fun q => by
    unfold lineOf
    by_cases e : q = p
    · rw [if_pos e, List.filter_eq_self.2 fun x hx => by simpa [e] using h x hx]
    · rw [if_neg e, List.filter_eq_nil_iff.2 fun x hx => by simp; rw [h x hx]; exact fun e2 => e e2.symm]; rfl
  cases Q with
  | nil =>
    have : topO ([] : Qs) = none := topB_none_mk fun q hq => by unfold some1 lineOf; rfl
    unfold nextR; rw [this]; rfl
  | cons x Q =>
    have hx := h x (by simp)
    have : topO (x :: Q) = some p := topB_at hp (by unfold some1; rw [hline, if_pos rfl]; rfl) fun q h1 h2 => by unfold some1; rw [hline, if_neg (by omega)]; rfl
    unfold nextR
    rw [this]
    simp only [Option.bind_some]
    rw [hline, if_pos rfl]; rfl
def Mt.lineUpH (m : Mt) (n : Int) : Mt := (m.setTh n { m.th n with st := 1 }).setQ (m.th n).co (m.q (m.th n).co ++ [((m.th n).pr.toNat, n)])
def Mt.pickH (m : Mt) (c : Int) : Mt := if m.isC c then (match (m.q c).head?.map (·.2) with
  | none => m
  | some n => if m.run c = -1 then (m.leave n 2).setR c n else
    if (m.th n).pr ≤ (m.th (m.run c)).pr then m else (((m.leave (m.run c) 1).lineUp (m.run c)).leave n 2).setR c n) else m
theorem lineUp_H {m : Mt} {n : Int} {p : Nat} (hp : p < 256) (h1 : (m.th n).pr = (p : Int)) (h2 : wh (m.q (m.th n).co) n = none) : m.lineUp n = m.lineUpH n := by
  unfold Mt.lineUp Mt.lineUpH putR
  rw [if_neg (by omega), h2]
theorem pick_H {m : Mt} {c : Int} {p : Nat} (hp : p < 256) (h : (m.q c).map (·.1) = List.replicate (m.q c).length p) : m.pickC c = m.pickH c := by
  have e := next_uni (Q := m.q c) hp fun x hx => by
    have : x.1 ∈ (m.q c).map (·.1) := List.mem_map.2 ⟨x, hx, rfl⟩
    rw [h] at this
    exact (List.mem_replicate.1 this).2
  unfold Mt.pickC Mt.pick Mt.pickH
  rw [e]
  cases (m.q c).head?.map (·.2) <;> rfl
def maM (p i : Nat) : Mt := ⟨(List.range i).map fun j => ⟨1, (p : Int), 1, 5, fun _ => 0⟩, [[], (List.range i).map fun (j : Nat) => (p, Int.ofNat j)], [-1, -1]⟩
def tuM (N p r l : Nat) : Mt := ⟨(List.range N).map fun j => ⟨if j = r then 2 else 1, (p : Int), 1, if j = r then (l : Int) else 5, fun _ => 0⟩, [[], (List.range (N - 1)).map fun (k : Nat) => (p, Int.ofNat ((r + 1 + k) % N))], [-1, (r : Int)]⟩
theorem eight {N : Nat} (h1 : 1 ≤ N) (h8 : N ≤ 8) : N = 1 ∨ N = 2 ∨ N = 3 ∨ N = 4 ∨ N = 5 ∨ N = 6 ∨ N = 7 ∨ N = 8 := by omega
theorem seven {r : Nat} (h : r < 8) : r = 0 ∨ r = 1 ∨ r = 2 ∨ r = 3 ∨ r = 4 ∨ r = 5 ∨ r = 6 ∨ r = 7 := by omega
set_option maxRecDepth 100000 in
theorem ma_step {p i : Nat} (hp : p < 256) (hi : i < 8) : ((maM p i).make (p : Int) 1).lineUp (i : Int) = maM p (i + 1) := by
  rcases seven hi with rfl | rfl | rfl | rfl | rfl | rfl | rfl | rfl <;>
  · rw [lineUp_H hp (by kernel_rfl) (by kernel_rfl)]
    kernel_rfl
set_option maxRecDepth 100000 in
theorem ma_pick {p N : Nat} (hp : p < 256) (h1 : 1 ≤ N) (h8 : N ≤ 8) : (maM p N).pickC 1 = tuM N p 0 5 := by
  rcases eight h1 h8 with rfl | rfl | rfl | rfl | rfl | rfl | rfl | rfl <;>
  · rw [pick_H hp (by kernel_rfl)]
    kernel_rfl
set_option maxRecDepth 100000 in
theorem tu_down {N p r l : Nat} (h1 : 1 ≤ N) (h8 : N ≤ 8) (hr : r < N) (hl : 2 ≤ l) (hl5 : l ≤ 5) : (tuM N p r l).tick 1 = tuM N p r (l - 1) := by
  have e : l = 2 ∨ l = 3 ∨ l = 4 ∨ l = 5 := by omega
  rcases e with rfl | rfl | rfl | rfl <;> rcases eight h1 h8 with rfl | rfl | rfl | rfl | rfl | rfl | rfl | rfl <;> rcases seven (show r < 8 by omega) with rfl | rfl | rfl | rfl | rfl | rfl | rfl | rfl <;> first | omega | rfl
def tu0 (N p r : Nat) : Mt := ((((tuM N p r 1).setTh (r : Int) { (tuM N p r 1).th (r : Int) with le := 0 }).setTh (r : Int) { ((tuM N p r 1).setTh (r : Int) { (tuM N p r 1).th (r : Int) with le := 0 }).th (r : Int) with le := 5 }).leave (r : Int) 1)
set_option maxRecDepth 100000 in
theorem tu_a {N p r : Nat} (h1 : 1 ≤ N) (h8 : N ≤ 8) (hr : r < N) : (tuM N p r 1).tick 1 = ((tu0 N p r).lineUp (r : Int)).pickC 1 := by
  rcases eight h1 h8 with rfl | rfl | rfl | rfl | rfl | rfl | rfl | rfl <;> rcases seven (show r < 8 by omega) with rfl | rfl | rfl | rfl | rfl | rfl | rfl | rfl <;> first | omega | kernel_rfl
set_option maxRecDepth 100000 in
theorem tu_b {N p r : Nat} (hp : p < 256) (h1 : 1 ≤ N) (h8 : N ≤ 8) (hr : r < N) : ((tu0 N p r).lineUp (r : Int)).pickC 1 = tuM N p ((r + 1) % N) 5 := by
  rcases eight h1 h8 with rfl | rfl | rfl | rfl | rfl | rfl | rfl | rfl <;> rcases seven (show r < 8 by omega) with rfl | rfl | rfl | rfl | rfl | rfl | rfl | rfl <;>
    first
    | omega
    | (rw [lineUp_H hp (by kernel_rfl) (by kernel_rfl), pick_H hp (by kernel_rfl)]
       kernel_rfl)
theorem tu_turn {N p r : Nat} (hp : p < 256) (h1 : 1 ≤ N) (h8 : N ≤ 8) (hr : r < N) : (tuM N p r 1).tick 1 = tuM N p ((r + 1) % N) 5 := (tu_a h1 h8 hr).trans (tu_b hp h1 h8 hr)
end Go.Proofs.Ytgkebkfabegflaa
