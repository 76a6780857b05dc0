/- The document's nodes of slots. -/
import Derived.Test.YtdlcejjiccknlaaRF
import Derived.Test.YtdlcejjiccknlaaS3
set_option linter.unusedVariables false
set_option linter.unusedSimpArgs false
set_option maxRecDepth 8000
namespace Go.Proofs.Ytdlcejjiccknlaa
open Go Go.Vc Go.Proofs

def rowOf (H : Hs) (n : Nat) (z : Int) : List Cap := if z = -1 then [] else (List.range (2 ^ z.toNat)).map fun k : Nat => (H ((n : Int), (k : Int))).getD zeroCap
def rowsOf (bits : List Int) (H : Hs) : List (List Cap) := bits.mapIdx fun i z => rowOf H i z
def RNodesA (b : Nat) (bits : List Int) (H : Hs) : Asn := ExA fun x : Sl × List Sl => StarA [PureA (NOk bits H), BlkA b [slV x.1], SlT slE x.1 x.2, RowsA capE x.2 (rowsOf bits H)]

theorem ldCap {w : World} {a : Addr} {x : Cap} {f : Int → Int → Int → Int → Int → Int → Prop} (g : ∀ c v, (capE.enc x)[c]? = some v → w.cell? (a.add c) = some v) (hf : f x.kind x.obj x.rights x.badge x.guard x.bits) :
    LdL w a 0 [.i .i64, .i .i64, .i .i64, .i .u64, .i .u64, .i .i64] f := ⟨_, g 0 _ rfl, _, g 1 _ rfl, _, g 2 _ rfl, _, g 3 _ rfl, _, g 4 _ rfl, _, g 5 _ rfl, hf⟩
theorem rows_len (bits : List Int) (H : Hs) : (rowsOf bits H).length = bits.length := by unfold rowsOf; simp
theorem rows_get {bits : List Int} {H : Hs} {n : Nat} {z : Int} (h : bits[n]? = some z) : (rowsOf bits H)[n]? = some (rowOf H n z) := by
  unfold rowsOf; rw [List.getElem?_mapIdx, h]; rfl
theorem row_len {H : Hs} {n : Nat} {z : Int} (h : z ≠ -1) : (rowOf H n z).length = 2 ^ z.toNat := by unfold rowOf; rw [if_neg h]; simp
theorem row_get {H : Hs} {n k : Nat} {z : Int} (h : z ≠ -1) (hk : k < 2 ^ z.toNat) : (rowOf H n z)[k]? = some ((H ((n : Int), (k : Int))).getD zeroCap) := by
  unfold rowOf; rw [if_neg h, List.getElem?_map, List.getElem?_range hk]; rfl
theorem there_some {bits : List Int} {s : Slot} (h : thereB bits s = true) : ∃ (n k : Nat) (z : Int), s = ((n : Int), (k : Int)) ∧ bits[n]? = some z ∧ z ≠ -1 ∧ k < 2 ^ z.toNat := by
  unfold thereB at h
  cases hz : sizeN bits s.1 with
  | none => rw [hz] at h; cases h
  | some z =>
    rw [hz] at h
    obtain ⟨h1, h2, h3⟩ := sizeN_some hz
    simp only [decide_eq_true_eq] at h
    rw [show ((2 : Int) ^ z.toNat) = ((2 ^ z.toNat : Nat) : Int) from by simp] at h
    refine ⟨s.1.toNat, s.2.toNat, z, ?_, h2, h3, by omega⟩
    rw [Int.toNat_of_nonneg h1, Int.toNat_of_nonneg h.1]
theorem there_nat {bits : List Int} {n k : Nat} {z : Int} (h : bits[n]? = some z) (hz : z ≠ -1) : thereB bits ((n : Int), (k : Int)) = decide (k < 2 ^ z.toNat) := by
  unfold thereB sizeN
  simp only [Int.toNat_natCast, h, if_neg hz]
  rw [if_neg (by omega)]
  simp only [decide_eq_decide]
  rw [show ((2 : Int) ^ z.toNat) = ((2 ^ z.toNat : Nat) : Int) from by simp]
  omega
theorem rows_upd {bits : List Int} {H : Hs} {n k : Nat} {z : Int} (h : bits[n]? = some z) (hz : z ≠ -1) (hk : k < 2 ^ z.toNat) (o : Option Cap) : rowsOf bits (updH H ((n : Int), (k : Int)) o) = (rowsOf bits H).set n ((rowOf H n z).set k (o.getD zeroCap)) := by
  apply List.ext_getElem?
  intro i
  rw [List.getElem?_set]
  unfold rowsOf
  rw [List.getElem?_mapIdx, List.getElem?_mapIdx]
  by_cases e : n = i
  · subst e
    have hl := (List.getElem?_eq_some_iff.1 h).1
    rw [if_pos rfl, if_pos (by simpa using hl), h]
    simp only [Option.map_some, Option.some.injEq]
    apply List.ext_getElem?
    intro j
    rw [List.getElem?_set]
    unfold rowOf
    rw [if_neg hz, if_neg hz, List.getElem?_map, List.getElem?_map]
    by_cases e2 : k = j
    · subst e2
      rw [if_pos rfl, if_pos (by simpa using hk), List.getElem?_range hk]
      simp [updH]
    · rw [if_neg e2]
      have h0 : updH H ((n : Int), (k : Int)) o ((n : Int), ((j : Nat) : Int)) = H ((n : Int), ((j : Nat) : Int)) := by
        unfold updH; rw [if_neg]; intro hc; simp only [Prod.mk.injEq] at hc; omega
      rcases Nat.lt_or_ge j (2 ^ z.toNat) with hj | hj
      · rw [List.getElem?_range hj]; simp only [Option.map_some]; rw [h0]
      · rw [List.getElem?_eq_none (by simpa using hj)]; rfl
  · rw [if_neg e]
    cases hb : bits[i]? with
    | none => rfl
    | some y =>
      simp only [Option.map_some, Option.some.injEq]
      unfold rowOf
      split
      · rfl
      · apply List.map_congr_left
        intro j _
        unfold updH; rw [if_neg]; intro hc; simp only [Prod.mk.injEq] at hc; omega

section
variable {B : Nat} {w0 w : World} {R L : List Asn} {b : Nat} {bits : List Int} {H : Hs}
theorem _root_.Go.Vc.Own.rnodes (h : Own B w0 w (RNodesA b bits H :: R)) : ∃ s ss, NOk bits H ∧ ss.length = bits.length ∧ Own B w0 w (RowsA capE ss (rowsOf bits H) :: BlkA b [slV s] :: SlT slE s ss :: R) := by
  obtain ⟨x, h⟩ := h.ex
  obtain ⟨h1, h⟩ := Own.pure h.star
  have h2 : Own B w0 w (RowsA capE x.2 (rowsOf bits H) :: BlkA b [slV x.1] :: SlT slE x.1 x.2 :: R) := h.up2
  exact ⟨x.1, x.2, h1, by rw [h2.rowsO.1, rows_len], h2⟩
theorem _root_.Go.Vc.Own.mk_rnodes {s : Sl} {ss : List Sl} (h1 : NOk bits H) (h : Own B w0 w (RowsA capE ss (rowsOf bits H) :: BlkA b [slV s] :: SlT slE s ss :: R)) : Own B w0 w (RNodesA b bits H :: R) :=
  Own.mk_ex (s, ss) (Own.mk_star (Own.mk_pure h1 (h.sub : Own B w0 w (BlkA b [slV s] :: SlT slE s ss :: RowsA capE ss (rowsOf bits H) :: R))))
theorem _root_.Go.Vc.Own.rnok (h : Own B w0 w (RNodesA b bits H :: R)) : NOk bits H := by obtain ⟨_, _, h, _⟩ := h.rnodes; exact h

theorem ref05_Is_spec {s : Slot} {K : Bool → World → Prop} (h : Own B w0 w (RNodesA b bits H :: R)) (hK : ∀ w', Own B w0 w' (RNodesA b bits H :: R) → K (thereB bits s) w') : C.ref05_Nodes_Is (some ⟨b, 0, none⟩) s.1 s.2 K w := by
  apply S.ref05_Nodes_Is_ok
  unfold S.ref05_Nodes_Is
  obtain ⟨sl, ss, hk, hsl, h⟩ := h.rnodes
  refine h.al fun w1 h => ?_
  refine h.dr fun w h => ?_
  have hlen := h.lenc sl
  have fin : Own B w0 w (RNodesA b bits H :: R) := Own.mk_rnodes (s := sl) (ss := ss) hk h.sub
  have hF : thereB bits s = false → K false w := fun e => by rw [← e]; exact hK _ fin
  (repeat (first | (refine h.al fun w h => ?_) | (refine h.dr fun w h => ?_) | (refine h.lc_2 rfl ?_) | (refine h.lc_6 rfl ?_) | (refine ⟨_, h.ldc rfl, ?_⟩) | (refine ⟨_, h.ldd rfl, ?_⟩) | (refine h.hd rfl ?_) | (refine ⟨h.ldc rfl, ?_⟩) | (refine ⟨h.ldd rfl, ?_⟩) | (refine h.stLc rfl rfl fun w h => ?_) | (refine exs ?_) | (refine _root_.Go.Vc.a2 ?_) | (refine h.stc rfl rfl fun w h => ?_) | (refine h.std rfl rfl fun w h => ?_)))
  refine cdec (fun e1 => ?_) (fun e1 => hF (by unfold thereB sizeN; rw [if_pos (by omega)]))
  (repeat (first | (refine h.al fun w h => ?_) | (refine h.dr fun w h => ?_) | (refine h.lc_2 rfl ?_) | (refine h.lc_6 rfl ?_) | (refine ⟨_, h.ldc rfl, ?_⟩) | (refine ⟨_, h.ldd rfl, ?_⟩) | (refine h.hd rfl ?_) | (refine ⟨h.ldc rfl, ?_⟩) | (refine ⟨h.ldd rfl, ?_⟩) | (refine h.stLc rfl rfl fun w h => ?_) | (refine exs ?_) | (refine _root_.Go.Vc.a2 ?_) | (refine h.stc rfl rfl fun w h => ?_) | (refine h.std rfl rfl fun w h => ?_)))
  refine cdec (fun e2 => ?_) (fun e2 => hF (by unfold thereB sizeN; rw [if_neg (by omega), List.getElem?_eq_none (by omega)]))
  obtain ⟨n, hn⟩ := Int.eq_ofNat_of_zero_le (show 0 ≤ s.1 by omega)
  have hnl : n < bits.length := by omega
  have hb : bits[n]? = some bits[n] := List.getElem?_eq_getElem hnl
  obtain ⟨sn, hss⟩ : ∃ sn, ss[n]? = some sn := ⟨_, List.getElem?_eq_getElem (by omega)⟩
  generalize bits[n] = z at hb
  have hrl := (h.drop.sub : Own B w0 w (RowsA capE ss (rowsOf bits H) :: BlkA b [slV sl] :: SlT slE sl ss :: R)).row_len hss (rows_get hb)
  (repeat (first | (refine h.al fun w h => ?_) | (refine h.dr fun w h => ?_) | (refine h.lc_2 rfl ?_) | (refine h.lc_6 rfl ?_) | (refine ⟨_, h.ldc rfl, ?_⟩) | (refine ⟨_, h.ldd rfl, ?_⟩) | (refine h.hd rfl ?_) | (refine ⟨h.ldc rfl, ?_⟩) | (refine ⟨h.ldd rfl, ?_⟩) | (refine h.stLc rfl rfl fun w h => ?_) | (refine exs ?_) | (refine _root_.Go.Vc.a2 ?_) | (refine h.stc rfl rfl fun w h => ?_) | (refine h.std rfl rfl fun w h => ?_)))
  refine cdec (fun e3 => ?_) (fun e3 => ?_)
  · (repeat (first | (refine h.al fun w h => ?_) | (refine h.dr fun w h => ?_) | (refine h.lc_2 rfl ?_) | (refine h.lc_6 rfl ?_) | (refine ⟨_, h.ldc rfl, ?_⟩) | (refine ⟨_, h.ldd rfl, ?_⟩) | (refine h.hd rfl ?_) | (refine ⟨h.ldc rfl, ?_⟩) | (refine ⟨h.ldd rfl, ?_⟩) | (refine h.stLc rfl rfl fun w h => ?_) | (refine exs ?_) | (refine _root_.Go.Vc.a2 ?_) | (refine h.stc rfl rfl fun w h => ?_) | (refine h.std rfl rfl fun w h => ?_)))
    refine h.ixc hn hss fun a ha hc0 hc => ?_
    refine ⟨_, hc0 _ rfl, ?_⟩
    obtain ⟨k, hk2⟩ := Int.eq_ofNat_of_zero_le (show 0 ≤ s.2 by omega)
    have hs : s = ((n : Int), (k : Int)) := by rw [← hn, ← hk2]
    have ht : thereB bits s = decide (s.2 < (sn.len : Int)) := by
      rw [hs, hrl]
      by_cases hz : z = -1
      · have hg : thereB bits ((n : Int), (k : Int)) = false := by unfold thereB sizeN; simp only [Int.toNat_natCast, hb, if_pos hz]; rw [if_neg (by omega)]
        rw [hg]; unfold rowOf; rw [if_pos hz]; simp
      · rw [there_nat hb hz, row_len hz, decide_eq_decide]; exact Int.ofNat_lt.symm
    rw [← ht]; exact hK _ fin
  · exact hF (by
      have hs2 : s.2 < 0 := by omega
      unfold thereB; split
      · rw [decide_eq_false]; omega
      · rfl)
theorem ref05_Get_spec {s : Slot} {K : Int → Int → Int → Int → Int → Int → Int → World → Prop} (h : Own B w0 w (RNodesA b bits H :: R))
    (hK : ∀ w' c e, (c, e) = getN bits H s → CapR c → Own B w0 w' (RNodesA b bits H :: R) → K c.kind c.obj c.rights c.badge c.guard c.bits e w') : C.ref05_Nodes_Get (some ⟨b, 0, none⟩) s.1 s.2 K w := by
  apply S.ref05_Nodes_Get_ok
  unfold S.ref05_Nodes_Get
  have hk := h.rnok
  (repeat (first | (refine h.al fun w h => ?_) | (refine h.dr fun w h => ?_) | (refine h.lc_2 rfl ?_) | (refine h.lc_6 rfl ?_) | (refine ⟨_, h.ldc rfl, ?_⟩) | (refine ⟨_, h.ldd rfl, ?_⟩) | (refine h.hd rfl ?_) | (refine ⟨h.ldc rfl, ?_⟩) | (refine ⟨h.ldd rfl, ?_⟩) | (refine h.stLc rfl rfl fun w h => ?_) | (refine exs ?_) | (refine _root_.Go.Vc.a2 ?_) | (refine h.stc rfl rfl fun w h => ?_) | (refine h.std rfl rfl fun w h => ?_)))
  refine ref05_Is_spec (s := s) h.up2 fun w h => ?_
  unfold getN at hK
  refine cnb (fun e => ?_) (fun e => ?_)
  · (repeat (first | (refine h.al fun w h => ?_) | (refine h.dr fun w h => ?_) | (refine h.lc_2 rfl ?_) | (refine h.lc_6 rfl ?_) | (refine ⟨_, h.ldc rfl, ?_⟩) | (refine ⟨_, h.ldd rfl, ?_⟩) | (refine h.hd rfl ?_) | (refine ⟨h.ldc rfl, ?_⟩) | (refine ⟨h.ldd rfl, ?_⟩) | (refine h.stLc rfl rfl fun w h => ?_) | (refine exs ?_) | (refine _root_.Go.Vc.a2 ?_) | (refine h.stc rfl rfl fun w h => ?_) | (refine h.std rfl rfl fun w h => ?_)))
    exact hK _ zeroCap 50 (by rw [if_pos e]) ⟨by decide, by decide, by decide, by decide⟩ h.sub
  · rw [if_neg (by rw [e]; decide)] at hK
    obtain ⟨n, k, z, rfl, hb, hz, hkl⟩ := there_some e
    obtain ⟨sl, ss, _, hsl, h⟩ := h.rnodes
    obtain ⟨sn, hss⟩ : ∃ sn, ss[n]? = some sn := ⟨_, List.getElem?_eq_getElem (by have := (List.getElem?_eq_some_iff.1 hb).1; omega)⟩
    (repeat (first | (refine h.al fun w h => ?_) | (refine h.dr fun w h => ?_) | (refine h.lc_2 rfl ?_) | (refine h.lc_6 rfl ?_) | (refine ⟨_, h.ldc rfl, ?_⟩) | (refine ⟨_, h.ldd rfl, ?_⟩) | (refine h.hd rfl ?_) | (refine ⟨h.ldc rfl, ?_⟩) | (refine ⟨h.ldd rfl, ?_⟩) | (refine h.stLc rfl rfl fun w h => ?_) | (refine exs ?_) | (refine _root_.Go.Vc.a2 ?_) | (refine h.stc rfl rfl fun w h => ?_) | (refine h.std rfl rfl fun w h => ?_)))
    refine h.ixc rfl hss fun a ha hc0 hc => ?_
    refine ⟨_, hc0 _ rfl, ?_⟩
    (repeat (first | (refine h.al fun w h => ?_) | (refine h.dr fun w h => ?_) | (refine h.lc_2 rfl ?_) | (refine h.lc_6 rfl ?_) | (refine ⟨_, h.ldc rfl, ?_⟩) | (refine ⟨_, h.ldd rfl, ?_⟩) | (refine h.hd rfl ?_) | (refine ⟨h.ldc rfl, ?_⟩) | (refine ⟨h.ldd rfl, ?_⟩) | (refine h.stLc rfl rfl fun w h => ?_) | (refine exs ?_) | (refine _root_.Go.Vc.a2 ?_) | (refine h.stc rfl rfl fun w h => ?_) | (refine h.std rfl rfl fun w h => ?_)))
    refine h.rget hss (rows_get hb) rfl (row_get hz hkl) fun a2 ha2 hd0 hd => ?_
    have hcR := hk.capR ((n : Int), (k : Int))
    generalize hcc : (H ((n : Int), (k : Int))).getD zeroCap = c at hd hd0 hcR hK
    refine ldCap hd ?_
    refine _root_.Go.Vc.a2 ?_
    (repeat (first | (refine h.al fun w h => ?_) | (refine h.dr fun w h => ?_) | (refine h.lc_2 rfl ?_) | (refine h.lc_6 rfl ?_) | (refine ⟨_, h.ldc rfl, ?_⟩) | (refine ⟨_, h.ldd rfl, ?_⟩) | (refine h.hd rfl ?_) | (refine ⟨h.ldc rfl, ?_⟩) | (refine ⟨h.ldd rfl, ?_⟩) | (refine h.stLc rfl rfl fun w h => ?_) | (refine exs ?_) | (refine _root_.Go.Vc.a2 ?_) | (refine h.stc rfl rfl fun w h => ?_) | (refine h.std rfl rfl fun w h => ?_)))
    exact hK _ c 0 rfl hcR (Own.mk_rnodes (s := sl) (ss := ss) hk h.sub)
end
end Go.Proofs.Ytdlcejjiccknlaa
