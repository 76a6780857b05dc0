/- Nodes of slots: what their calls come to. -/
import Derived.Test.YtdlcejjiccknlaaV
import Derived.Test.YtdlcejjiccknlaaS5
set_option linter.unusedVariables false
set_option linter.unusedSimpArgs false
set_option maxRecDepth 8000
namespace Go.Proofs.Ytdlcejjiccknlaa
open Go Go.Vc Go.Proofs

abbrev Slot := Int × Int
abbrev Hs := Slot → Option Cap
abbrev slV (s : Sl) : Value := .slice s.a s.len s.cap
/-- A node's bits. -/
def sizeN (bits : List Int) (n : Int) : Option Int := if n < 0 then none else match bits[n.toNat]? with | some z => if z = -1 then none else some z | none => none
def thereB (bits : List Int) (s : Slot) : Bool := match sizeN bits s.1 with | some z => decide (0 ≤ s.2 ∧ s.2 < 2 ^ z.toNat) | none => false
structure NOk (bits : List Int) (H : Hs) : Prop where
  few : bits.length ≤ 64
  rng : ∀ z ∈ bits, z = -1 ∨ (1 ≤ z ∧ z ≤ 8)
  held : ∀ s c, H s = some c → thereB bits s = true ∧ capErr c = 0 ∧ c.kind ≠ 0 ∧ CapR c
def updH (H : Hs) (s : Slot) (o : Option Cap) : Hs := fun k => if k = s then o else H k
structure Nx where
  s : Sl
  m : Nat
  M : List (Slot × Cap)
abbrev slotsA (m : Nat) (M : List (Slot × Cap)) : Asn := MapA encPair encCap m M
/-- Nodes at a block. -/
def NodesA (b : Nat) (bits : List Int) (H : Hs) : Asn := ExA fun x : Nx => StarA [PureA (NOk bits H ∧ ∀ k, mget x.M k = H k), BlkA b [slV x.s, .map (some x.m)], SlT intE x.s bits, slotsA x.m x.M]

theorem sizeN_some {bits : List Int} {n z : Int} (h : sizeN bits n = some z) : 0 ≤ n ∧ bits[n.toNat]? = some z ∧ z ≠ -1 := by
  unfold sizeN at h
  split at h
  · cases h
  · split at h
    · split at h
      · cases h
      · cases h; exact ⟨by omega, by assumption, by assumption⟩
    · cases h
theorem sizeN_rng {bits : List Int} {H : Hs} (hk : NOk bits H) {n z : Int} (h : sizeN bits n = some z) : 1 ≤ z ∧ z ≤ 8 := by
  obtain ⟨_, h2, h3⟩ := sizeN_some h
  rcases hk.rng z (List.mem_of_getElem? h2) with e | e
  · exact absurd e h3
  · exact e
theorem keySlot : KeyOk Try.prog 49 encPair :=
  keyOk_pair Try.underlying49 Try.underlying3 Try.underlying3 (by decide) (by decide) rfl rfl (fun a b c d => by kernel_rfl)
theorem zeroCapV (w : World) : (zeroValue 38).run Try.prog w = .ok (encCap zeroCap) w := Try.zeroValue38 w

section
variable {B : Nat} {w0 w : World} {R L : List Asn} {b : Nat} {bits : List Int} {H : Hs}
theorem _root_.Go.Vc.Own.nodes (h : Own B w0 w (NodesA b bits H :: R)) : ∃ x : Nx, NOk bits H ∧ (∀ k, mget x.M k = H k) ∧ Own B w0 w (BlkA b [slV x.s, .map (some x.m)] :: SlT intE x.s bits :: slotsA x.m x.M :: R) := by
  obtain ⟨x, h⟩ := h.ex
  obtain ⟨⟨h1, h2⟩, h⟩ := Own.pure h.star
  exact ⟨x, h1, h2, h⟩
theorem _root_.Go.Vc.Own.mk_nodes {s : Sl} {m : Nat} {M : List (Slot × Cap)} (h1 : NOk bits H) (h2 : ∀ k, mget M k = H k) (h : Own B w0 w (BlkA b [slV s, .map (some m)] :: SlT intE s bits :: slotsA m M :: R)) : Own B w0 w (NodesA b bits H :: R) :=
  Own.mk_ex ⟨s, m, M⟩ (Own.mk_star (Own.mk_pure ⟨h1, h2⟩ h))
theorem _root_.Go.Vc.Own.nok (h : Own B w0 w (NodesA b bits H :: R)) : NOk bits H := by obtain ⟨_, h, _⟩ := h.nodes; exact h

theorem slots_New_spec {K : Option Addr → World → Prop} (h : Own B w0 w R) (hK : ∀ b w', Own B w0 w' (NodesA b [] (fun _ => none) :: R) → K (some ⟨b, 0, none⟩) w') : C.slots_New K w := by
  apply S.slots_New_ok
  unfold S.slots_New
  refine h.alMap encPair encCap fun w1 h => ?_
  refine h.al fun w2 h => ?_
  refine hK _ w2 (Own.mk_nodes (s := ⟨none, 0, 0⟩) (m := w.heap.size) (M := []) ⟨by simp, by simp, fun s c h => by cases h⟩ (fun k => rfl) ?_)
  exact (Own.nilS h).perm (List.Perm.swap _ _ _)

theorem slots_Nodes_Size_spec {n : Int} {K : Int → Bool → World → Prop} (h : Own B w0 w L) (i : Nat) (hi : L[i]? = some (NodesA b bits H)) (hK : K ((sizeN bits n).getD 0) (sizeN bits n).isSome w) : C.slots_Nodes_Size (some ⟨b, 0, none⟩) n K w := by
  apply S.slots_Nodes_Size_ok
  unfold S.slots_Nodes_Size
  obtain ⟨x, hk, hM, h⟩ := (h.take i hi).nodes
  have hlen := h.len 1 rfl
  intro k3 hk3
  by_cases h0 : n < 0
  · rw [show decide (n < 0) = true from by simpa using h0, cond_true]
    apply hk3
    rw [cond_true]
    have : sizeN bits n = none := by unfold sizeN; rw [if_pos h0]
    rw [this] at hK; exact hK
  rw [show decide (n < 0) = false from by simpa using h0, cond_false]
  refine ⟨_, rfl, x.s, h.ld0 0 rfl rfl, ?_⟩
  by_cases h1 : (x.s.len : Int) ≤ n
  · rw [show decide (n ≥ (x.s.len : Int)) = true from by simpa using h1, cond_true]
    apply hk3
    rw [cond_true]
    have : sizeN bits n = none := by
      unfold sizeN
      rw [if_neg h0, List.getElem?_eq_none (by omega)]
    rw [this] at hK; exact hK
  rw [show decide (n ≥ (x.s.len : Int)) = false from by simpa using h1, cond_false]
  have hz : bits[n.toNat]? = some bits[n.toNat] := List.getElem?_eq_getElem (by omega)
  obtain ⟨a, ha, hc⟩ := h.getI 1 rfl hz
  refine ⟨_, rfl, x.s, h.ld0 0 rfl rfl, a, ha, by omega, by omega, _, hc, ?_⟩
  apply hk3
  by_cases e : bits[n.toNat] = -1
  · rw [show (bits[n.toNat] == -1) = true from by simpa using e, cond_true]
    have : sizeN bits n = none := by unfold sizeN; rw [if_neg h0, hz]; simp [e]
    rw [this] at hK; exact hK
  · rw [show (bits[n.toNat] == -1) = false from by simpa using e, cond_false]
    have : sizeN bits n = some bits[n.toNat] := by unfold sizeN; rw [if_neg h0, hz]; simp [e]
    rw [this] at hK
    exact ⟨_, rfl, x.s, h.ld0 0 rfl rfl, a, ha, by omega, by omega, _, hc, hK⟩

theorem shl_two (z : Nat) (hz : z ≤ 62) : shlI .i64 1 (z : Int) = ((2 ^ z : Nat) : Int) := by
  unfold shlI
  rw [Int.toNat_natCast, show IntKind.i64.bits = 64 from rfl, Nat.min_eq_left (by omega), Int.one_mul, show ((2 : Int) ^ z) = ((2 ^ z : Nat) : Int) from by simp]
  have hp : (2 : Nat) ^ 62 = 4611686018427387904 := by decide
  have : 2 ^ z ≤ 2 ^ 62 := Nat.pow_le_pow_right (by omega) hz
  rw [hp] at this
  generalize 2 ^ z = y at *
  exact wr (by omega) (by omega)
theorem slots_Nodes_there_spec {s : Slot} {K : Bool → World → Prop} (h : Own B w0 w L) (i : Nat) (hi : L[i]? = some (NodesA b bits H)) (hK : ∀ w', Own B w0 w' L → K (thereB bits s) w') : C.slots_Nodes_there (some ⟨b, 0, none⟩) s.1 s.2 K w := by
  apply S.slots_Nodes_there_ok
  unfold S.slots_Nodes_there
  have hk := (h.take i hi).nok
  refine h.al fun w1 h => ?_
  refine ⟨s.1, h.ld0 0 rfl rfl, ?_⟩
  refine slots_Nodes_Size_spec h (i + 1) (by simpa using hi) ?_
  refine h.dr fun w2 h => ?_
  cases hz : sizeN bits s.1 with
  | none =>
    rw [Option.isSome_none, cond_false]
    have : thereB bits s = false := by unfold thereB; rw [hz]
    rw [← this]; exact hK w2 h.drop
  | some z =>
    have hr := sizeN_rng hk hz
    rw [Option.isSome_some, cond_true, Option.getD_some]
    refine ⟨s.2, h.ld 0 rfl rfl, ?_⟩
    have hth : thereB bits s = decide (0 ≤ s.2 ∧ s.2 < 2 ^ z.toNat) := by unfold thereB; rw [hz]
    by_cases e : 0 ≤ s.2
    · rw [show decide (s.2 ≥ 0) = true from by simpa using e, cond_true]
      refine ⟨s.2, h.ld 0 rfl rfl, by omega, ?_⟩
      obtain ⟨y, rfl⟩ := Int.eq_ofNat_of_zero_le (by omega : 0 ≤ z)
      rw [shl_two y (by omega)]
      have : decide (s.2 < ((2 ^ y : Nat) : Int)) = thereB bits s := by
        rw [hth, decide_eq_decide, Int.toNat_natCast, show ((2 : Int) ^ y) = ((2 ^ y : Nat) : Int) from by simp]
        exact ⟨fun h => ⟨e, h⟩, fun h => h.2⟩
      rw [this]; exact hK w2 h.drop
    · rw [show decide (s.2 ≥ 0) = false from by simpa using e, cond_false]
      have : thereB bits s = false := by rw [hth, decide_eq_false]; rintro ⟨h1, _⟩; exact e h1
      rw [← this]; exact hK w2 h.drop
end
end Go.Proofs.Ytdlcejjiccknlaa
