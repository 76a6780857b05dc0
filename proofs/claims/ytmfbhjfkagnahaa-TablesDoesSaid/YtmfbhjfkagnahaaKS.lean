/- A map's keys, sorted: the library's contracts, in this engine's words. -/
import Derived.Test.YtmfbhjfkagnahaaM
import Derived.Shelf.SlIterI.Nil
import Derived.Shelf.SortM.Plain
import Derived.Shelf.SortM.SortNone
import Derived.Test.YtmfbhjfkagnahaaC
set_option linter.unusedVariables false
set_option linter.unusedSimpArgs false
set_option maxRecDepth 8000
namespace Go.Proofs.Ytmfbhjfkagnahaa
open Go Go.Vc Go.Proofs
open Go.WideElems (Fit rd rg pl)

/-- A map's block, as the kit tells it. -/
theorem mapR_owns {P : Program} {k : TypeId} (hk : P.underlying k = some (.int .i64)) {V : Type} {encV : V → Value} {w : World} {m : Nat} {M : List (Int × V)} (h : MapR (Value.int .i64) encV w m M) (hwf : ∀ x ∈ M, (Lit.int .i64 x.1).wf = true) (hsz : M.length ≤ maxLen) :
    ∃ D0 : DataW Unit, w.ownsMap P k (fun _ => some (.nil, [])) m M.length D0 ∧ (intKeys D0).Perm (M.map (·.1)) ∧ Maps.size D0 = M.length := by
  obtain ⟨es, c, hb, hmap, hborn, hlt⟩ := h.ex
  have hlen : es.toList.length = M.length := by have := congrArg List.length hmap; simpa using this
  have hkeys : es.toList.map (·.key) = M.map (fun p => Value.int .i64 p.1) := by
    have := congrArg (List.map (·.1)) hmap
    rw [List.map_map, List.map_map] at this
    exact this
  have hread : ∀ x ∈ es.toList, ∃ a : Int, x.key = .int .i64 a ∧ (Lit.int .i64 a).wf = true := fun x hx => by
    have : x.key ∈ es.toList.map (·.key) := List.mem_map.2 ⟨x, hx, rfl⟩
    rw [hkeys] at this
    obtain ⟨p, hp, e⟩ := List.mem_map.1 this
    exact ⟨p.1, e.symm, hwf p hp⟩
  have hrd : ∀ x ∈ es.toList, ∀ a : Int, x.key = .int .i64 a → (Lit.int .i64 a).wf = true → rd (H := Unit) P k (fun _ => some (.nil, [])) x = some (.int .i64 a, .nil) := fun x hx a e hw => by
    have hko : keyOf P k x.key = some (.int .i64 a) := by
      unfold keyOf mapKey
      rw [hk, e]
      simp [hw]
    unfold rd
    rw [hko]; rfl
  refine ⟨.map ((es.toList.map (rg P k fun _ => some (.nil, []))).foldr DataW.insert []), ⟨es, c, hb, ⟨?_, ⟨hlt, hborn, ?_⟩, fun x hx => ?_⟩, ?_, rfl⟩, ?_, ?_⟩
  · have : es.size = M.length := by simpa using hlen
    rw [this]; exact hsz
  · rw [hkeys]
    have : M.map (fun p => Value.int .i64 p.1) = (M.map (·.1)).map (Value.int .i64) := by rw [List.map_map]; rfl
    rw [this]
    exact List.Pairwise.map _ (fun a b hab e => hab (by cases e; rfl)) h.nodup
  · obtain ⟨a, e, hw⟩ := hread x hx
    exact ⟨_, hrd x hx a e hw⟩
  · have : es.size = M.length := by simpa using hlen
    omega
  · show (((es.toList.map (rg P k fun _ => some (.nil, []))).foldr DataW.insert []).map fun p => _root_.Go.intOf p.1).Perm _
    refine ((Go.WideShapes.sorted_perm _).map _).trans ?_
    rw [List.map_map]
    have : es.toList.map ((fun p : Lit × DataW Unit => _root_.Go.intOf p.1) ∘ rg P k fun _ => some (.nil, [])) = M.map (·.1) := by
      have e1 : es.toList.map ((fun p : Lit × DataW Unit => _root_.Go.intOf p.1) ∘ rg P k fun _ => some (.nil, [])) = es.toList.map (fun x => match x.key with | .int _ a => a | _ => 0) := by
        refine List.map_congr_left fun x hx => ?_
        obtain ⟨a, e, hw⟩ := hread x hx
        show _root_.Go.intOf (rg P k _ x).1 = _
        unfold rg
        rw [hrd x hx a e hw, e]; rfl
      rw [e1]
      have e2 := congrArg (List.map fun v : Value => match v with | .int _ a => a | _ => (0 : Int)) hkeys
      rw [List.map_map, List.map_map] at e2
      exact e2
    rw [this]
  · show ((es.toList.map (rg P k fun _ => some (.nil, []))).foldr DataW.insert []).length = _
    rw [(Go.WideShapes.sorted_perm _).length_eq, List.length_map]; exact hlen
/-- A row that the kit says is owned, as a slice of this engine. -/
theorem ownsRow_own {B : Nat} {w0 w w' : World} {R : List Asn} {t : TypeId} {v : Value} {xs : List Int} (h : Own B w0 w R) (hb : RowKit.Below w.heap.size w w') (hr : w'.ownsRow w.heap.size t 1 v xs.length (xs.map (Value.int .i64))) :
    ∃ s : Sl, v = .slice s.a s.len s.cap ∧ Own B w0 w' (SlT intE s xs :: R) := by
  have hu : Upd No w w' := ⟨hb.os, hb.tape, hb.output, hb.size, fun k hk _ => hb.block k hk⟩
  have hfl : xs.flatMap intE.enc = xs.map (Value.int .i64) := by
    clear hr
    induction xs with
    | nil => rfl
    | cons x xs ih => rw [List.flatMap_cons, ih]; rfl
  rcases hr.2 with ⟨rfl, hz⟩ | ⟨g, cap, cur, rfl, hbase, hgb, r1, r2, r3, r4⟩
  · have : xs = [] := List.eq_nil_of_length_eq_zero hz
    subst this
    exact ⟨⟨none, 0, 0⟩, rfl, (h.same hu).nilS⟩
  · refine ⟨⟨some ⟨g, 0, none⟩, xs.length, cap⟩, rfl, h.new (A' := SlT intE ⟨some ⟨g, 0, none⟩, xs.length, cap⟩ xs) (G' := fun k => k = g) hu ⟨fun a ha => ?_, rfl, ?_⟩ fun k e => ?_⟩
    · cases ha; rfl
    · refine .mk g 0 cur.toList rfl ⟨t, hgb⟩ r1 ?_ ?_
      · show 0 + cap * 1 ≤ cur.toList.length
        rw [Array.length_toList]; omega
      · rw [hfl, List.drop_zero]; exact r4.symm
    · subst e
      exact ⟨hbase, (Array.getElem?_eq_some_iff.1 hgb).1⟩
end Go.Proofs.Ytmfbhjfkagnahaa
