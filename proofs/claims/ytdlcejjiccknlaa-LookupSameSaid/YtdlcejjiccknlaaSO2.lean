/- The library's sort of slots. -/
import Derived.Test.YtdlcejjiccknlaaSO
import Derived.Test.YtdlcejjiccknlaaC
set_option linter.unusedVariables false
set_option linter.unusedSimpArgs false
set_option maxRecDepth 8000
namespace Go.Proofs.Ytdlcejjiccknlaa
open Go Go.Vc Go.Proofs Go.Shelf

def slotE : EncT Slot := ⟨2, pairC, fun _ => rfl, fun x v h => by
  simp only [pairC, List.mem_cons, List.not_mem_nil, or_false] at h
  rcases h with rfl | rfl <;> rfl, by decide⟩
theorem flat_at {α : Type} [Inhabited α] (enc : α → List Value) (k : Nat) (hk : ∀ x, (enc x).length = k) (k0 : 0 < k) : ∀ (l : List α) (t : Nat), t < l.length * k → (l.flatMap enc)[t]? = some (enc (l.toArray[t / k]!))[t % k]!
  | [], t, h => by simp at h
  | x :: l, t, h => by
    rw [List.flatMap_cons]
    by_cases e : t < k
    · rw [List.getElem?_append_left (by rw [hk]; exact e), Nat.div_eq_of_lt e, Nat.mod_eq_of_lt e]
      have : t < (enc x).length := by rw [hk]; exact e
      rw [List.getElem?_eq_getElem this]
      congr 1
      simp [this]
    · obtain ⟨u, rfl⟩ : ∃ u, t = k + u := ⟨t - k, by omega⟩
      have hu : u < l.length * k := by
        rw [List.length_cons, Nat.add_mul, Nat.one_mul] at h; omega
      rw [List.getElem?_append_right (by rw [hk]; omega), hk, show k + u - k = u from by omega, flat_at enc k hk k0 l u hu]
      rw [Nat.add_comm k u, Nat.add_div_right _ k0, Nat.add_mod_right]
      have hq : u / k < l.length := Nat.div_lt_of_lt_mul (by rw [Nat.mul_comm]; exact hu)
      congr 3
      simp [hq]
theorem flatK_list {α : Type} [Inhabited α] (enc : α → List Value) (k : Nat) (hk : ∀ x, (enc x).length = k) (k0 : 0 < k) (l : List α) : Go.Sort.flatK enc k l.toArray = (l.flatMap enc).toArray := by
  have hl : (l.flatMap enc).length = l.length * k := by
    clear k0
    induction l with
    | nil => simp
    | cons x l ih => rw [List.flatMap_cons, List.length_append, ih, hk, List.length_cons, Nat.add_mul]; omega
  refine Go.Sort.ext_get! (by rw [Go.Sort.size_flatK]; simp only [List.size_toArray]; exact hl.symm) fun t ht => ?_
  rw [Go.Sort.size_flatK] at ht
  rw [Go.Sort.get_flatK _ _ _ _ ht]
  have := flat_at enc k hk k0 l t (by simpa using ht)
  simp [List.getElem!_eq_getElem?_getD, this]
def leS (x y : Slot) : Bool := !(Go.Proofs.ltOf cmpS) y x
/-- Slots, in order. -/
def sortS (xs : List Slot) : List Slot := xs.mergeSort leS

section
variable {B : Nat} {w0 w : World} {R L : List Asn}
theorem SortFunc_spec {s : Sl} {xs : List Slot} {K : World → Prop} (h : Vc.Own B w0 w (SlT slotE s xs :: R)) (hsz : xs.length < 4611686018427387904) (hK : ∀ w', Vc.Own B w0 w' (SlT slotE s (sortS xs) :: R) → K w') :
    C.slices_SortFunc_api_Slot_api_Slot s (.func (.func 63) #[] #[]) K w := by
  have hs := h.slO 0 rfl
  have hlen := h.len 0 rfl
  unfold C.slices_SortFunc_api_Slot_api_Slot
  refine okF_mk Try.func77 rfl ?_
  obtain ⟨a, n, cap⟩ := s
  dsimp only at hlen
  subst hlen
  cases hs with
  | nil ha hl hc hcs =>
    dsimp only at ha hl hc
    subst ha; subst hc
    have : xs = [] := List.eq_nil_of_length_eq_zero hl
    subst this
    refine (AnyF.slices_SortFunc_none Try.sortFuncA none 0 _ w).mono ?_
    rintro e w' ⟨rfl, rfl⟩
    exact ⟨rfl, hK _ (by rw [show sortS [] = [] from List.mergeSort_nil]; exact h)⟩
  | mk b o l ha hb hl hc hcs =>
    dsimp only at ha hl hc hcs
    subst ha
    obtain ⟨t, ht⟩ := hb
    have hblk : b < w.heap.size := (Array.getElem?_eq_some_iff.1 ht).1
    have hfl : ∀ ys : List Slot, Go.Sort.flatK pairC 2 ys.toArray = (ys.flatMap pairC).toArray := flatK_list pairC 2 (fun _ => rfl) (by decide)
    have hfl2 : ∀ ys : List Slot, (ys.flatMap pairC).length = ys.length * 2 := fun ys => flat_len slotE ys
    have hcap : xs.length * 2 ≤ cap * 2 := Nat.mul_le_mul_right 2 hl
    have hc : o + cap * 2 ≤ l.length := hc
    have hH : Go.Sort.HoldsK pairC 2 w b o xs.toArray := by
      unfold Go.Sort.HoldsK
      rw [hfl]
      intro j hj
      have hj : j < xs.length * 2 := by rw [← hfl2]; simpa using hj
      have hcj : (xs.flatMap pairC)[j]? = l[o + j]? := by
        have hcs : xs.flatMap pairC = (l.drop o).take (xs.length * 2) := hcs
        rw [hcs, List.getElem?_take, if_pos hj, List.getElem?_drop]
      have hjl : j < (xs.flatMap pairC).length := by rw [hfl2]; exact hj
      refine ⟨?_, ?_⟩
      · have h1 : l[o + j]? = some (xs.flatMap pairC)[j] := by rw [← hcj, List.getElem?_eq_getElem hjl]
        rw [cell_of ht h1]
        simp only [id, List.getElem!_toArray, List.getElem!_eq_getElem?_getD, List.getElem?_eq_getElem hjl, Option.getD_some]
      · simp [World.frozen?, ht]
    refine (AnyQ.slices_SortFunc_total Try.sortFuncA 2 Try.isAgg49 Try.sizeOf49 pairC (fun _ => rfl) slotE.one cmpS swoS 63 #[] b o cap xs.toArray w (enters_of Try.func63 (by kernel_rfl) rfl) (cmpLays b o _ w) hH hblk (by simpa using hsz) totS).mono ?_
    rintro e w' ⟨rfl, q, os, hw'⟩
    refine ⟨rfl, hK _ ?_⟩
    have hperm : (sortS xs).Perm xs := List.mergeSort_perm _ _
    have hsl : (sortS xs).length = xs.length := hperm.length_eq
    have hw' : w' = Go.Sort.grow (Go.Sort.mapBlock (Go.Sort.ahead w q) b (Go.Sort.putCells id o ((sortS xs).flatMap pairC).toArray)) os := by
      rw [hw', ← hfl]; rfl
    have hheap : w'.heap = (w.heap.modify b (Go.Sort.onCells (Go.Sort.putCells id o ((sortS xs).flatMap pairC).toArray))) ++ os := by rw [hw']; rfl
    have hu : Upd (fun k => k = b) w w' := by
      refine ⟨by rw [hw']; rfl, by rw [hw']; rfl, by rw [hw']; rfl, by rw [hheap]; simp, fun k hk hn => ?_⟩
      rw [hheap, Array.getElem?_append_left (by simpa using hk), Array.getElem?_modify, if_neg (fun e => hn e.symm)]
    have hblk' : w'.heap[b]? = some (.cells (Go.Sort.putCells id o ((sortS xs).flatMap pairC).toArray ⟨l⟩) t) := by
      rw [hheap, Array.getElem?_append_left (by simpa using hblk), Array.getElem?_modify, if_pos rfl, ht]
      rfl
    refine h.step fun G hA hG => ?_
    have hGb : G b := hA.1 _ rfl
    refine ⟨hu.mono fun k _ e => by rw [e]; exact hGb, G, ⟨hA.1, hsl.symm, ?_⟩, fun k hk => ⟨.inl hk, by have := (hG k hk).2; have := hu.size; omega⟩⟩
    refine .mk b o (Go.Sort.putCells id o ((sortS xs).flatMap pairC).toArray ⟨l⟩).toList rfl ⟨t, hblk'⟩ hl ?_ ?_
    · show o + cap * 2 ≤ _
      rw [Array.length_toList]
      unfold Go.Sort.putCells
      rw [Array.size_mapIdx]; exact hc
    · show (sortS xs).flatMap pairC = (List.drop o _).take (xs.length * 2)
      refine List.ext_getElem? fun j => ?_
      rw [List.getElem?_take]
      by_cases hj : j < xs.length * 2
      · rw [if_pos hj, List.getElem?_drop]
        have hjs : j < ((sortS xs).flatMap pairC).length := by rw [hfl2, hsl]; exact hj
        have hoj : o + j < l.length := by omega
        unfold Go.Sort.putCells
        rw [Array.toList_mapIdx, List.getElem?_mapIdx, List.getElem?_eq_getElem hjs, show (Array.mk l).toList[o + j]? = some (l[o + j]'hoj) from List.getElem?_eq_getElem hoj, Option.map_some, if_pos ⟨by omega, by simp only [List.size_toArray]; omega⟩, show o + j - o = j from by omega]
        simp only [id, List.getElem!_toArray, List.getElem!_eq_getElem?_getD, List.getElem?_eq_getElem hjs, Option.getD_some]
      · rw [if_neg hj, List.getElem?_eq_none (by rw [hfl2, hsl]; omega)]
end
end Go.Proofs.Ytdlcejjiccknlaa
