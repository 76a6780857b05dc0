/- The document's answer on tables: what it holds; what its small calls come to. -/
import Derived.Test.YtmfbhjfkagnahaaK14
import Derived.Test.YtmfbhjfkagnahaaS3
set_option linter.unusedVariables false
set_option linter.unusedSimpArgs false
set_option maxRecDepth 8000
namespace Go.Proofs.Ytmfbhjfkagnahaa
open Go Go.Vc Go.Proofs Go.Shelf

def slV (s : Sl) : Value := .slice s.a s.len s.cap
def tabE : EncT (Int × Int) := ⟨2, fun o => [.int .i64 o.1, .int .i64 o.2], fun _ => rfl, fun x v h => by
  simp only [List.mem_cons, List.not_mem_nil, or_false] at h
  rcases h with rfl | rfl <;> rfl, by decide⟩
abbrev Tbs := List (Int × Int)
structure Rel14 (m : Spc) (T : Tbs) (P : Pgs) : Prop where
  ok : SOk m
  pg : P.Perm m.pg
  nd : (T.map (·.1)).Nodup
  tb : ∀ i n, (i, n) ∈ T ↔ m.at i = some n
def RspA (b : Nat) (m : Spc) : Asn := ExA fun x : (Sl × Sl) × Tbs × Pgs => StarA [PureA (Rel14 m x.2.1 x.2.2), BlkA b [slV x.1.1, slV x.1.2], SlT tabE x.1.1 x.2.1, SlT laidE x.1.2 x.2.2]
theorem pigeon14 : ∀ (n : Nat) (l : List Int), l.Nodup → (∀ x ∈ l, 0 ≤ x ∧ x < (n : Int)) → l.length ≤ n
  | 0, l, _, h => by
    cases l with
    | nil => simp
    | cons a l => have := h a (by simp); omega
  | n + 1, l, hn, h => by
    have h1 := pigeon14 n (l.filter fun x => x != (n : Int)) (hn.sublist List.filter_sublist) fun x hx => by
      have h2 := List.mem_filter.1 hx
      have h3 := h x h2.1
      have h4 : x ≠ (n : Int) := by simpa using h2.2
      omega
    have h2 : l.length ≤ (l.filter fun x => x != (n : Int)).length + 1 := by
      clear h1 h
      induction l with
      | nil => simp
      | cons a l ih =>
        rw [List.nodup_cons] at hn
        by_cases e : a = (n : Int)
        · have : l.filter (fun x => x != (n : Int)) = l := by
            rw [List.filter_eq_self]
            intro x hx
            have : x ≠ (n : Int) := fun e2 => hn.1 (by rw [e, ← e2]; exact hx)
            simpa using this
          rw [List.filter_cons_of_neg (by simp [e]), this, List.length_cons]
          exact Nat.le_refl _
        · rw [List.filter_cons_of_pos (by simpa using e), List.length_cons, List.length_cons]
          have := ih hn.2
          omega
    omega
section
variable {B : Nat} {w0 w : World} {R L : List Asn} {b : Nat} {m : Spc} {T : Tbs} {P : Pgs}
theorem SOk.atOut (h : SOk m) {i n : Int} (e : m.at i = some n) : 0 ≤ i ∧ i < 64 ∧ m.tb i.toNat = some n := by
  unfold Spc.at at e
  split at e
  · cases e
  · have := h.few i.toNat (by rw [e]; rfl)
    exact ⟨by omega, by omega, e⟩
theorem SOk.atIn {i n : Int} (h0 : 0 ≤ i) (e : m.tb i.toNat = some n) : m.at i = some n := by unfold Spc.at; rw [if_neg (by omega)]; exact e
theorem Rel14.tlen (h : Rel14 m T P) : T.length ≤ 64 := by
  have := pigeon14 64 (T.map (·.1)) h.nd fun x hx => by
    obtain ⟨⟨i, n⟩, hy, e⟩ := List.mem_map.1 hx
    have := h.ok.atOut ((h.tb i n).1 hy)
    have e : i = x := e
    omega
  simpa using this
theorem Rel14.plen (h : Rel14 m T P) : P.length ≤ 4096 := by rw [h.pg.length_eq]; exact h.ok.keylen
theorem Rel14.knd (h : Rel14 m T P) : (P.map (·.1)).Nodup := (h.pg.map _).nodup_iff.2 h.ok.srt.nodup
theorem Rel14.look (h : Rel14 m T P) {k : Int} {v : Pg} (hm : (k, v) ∈ P) : look m.pg k = some v := h.ok.srt.look (h.pg.mem_iff.1 hm)
theorem _root_.Go.Vc.Own.rsp (h : Own B w0 w (RspA b m :: R)) : ∃ sT sP T P, Rel14 m T P ∧ Own B w0 w (BlkA b [slV sT, slV sP] :: SlT tabE sT T :: SlT laidE sP P :: R) := by
  obtain ⟨⟨⟨sT, sP⟩, T, P⟩, h⟩ := h.ex
  obtain ⟨h1, h⟩ := Own.pure h.star
  exact ⟨sT, sP, T, P, h1, h⟩
theorem _root_.Go.Vc.Own.mk_rsp {sT sP : Sl} (h1 : Rel14 m T P) (h : Own B w0 w (BlkA b [slV sT, slV sP] :: SlT tabE sT T :: SlT laidE sP P :: R)) : Own B w0 w (RspA b m :: R) :=
  Own.mk_ex ((sT, sP), T, P) (Own.mk_star (Own.mk_pure h1 h))
theorem Rel14.new : Rel14 newS [] [] := ⟨SOk.new, List.Perm.refl _, by simp, fun i n => ⟨fun h => by simp at h, fun h => by have := SOk.new.atOut h; simp [newS] at this⟩⟩
theorem rHas_spec {i : Int} {K : Int → Bool → World → Prop} (h : Own B w0 w (RspA b m :: R)) (hK : K ((m.at i).getD 0) (m.at i).isSome w) : C.ref14_Space_Has (some ⟨b, 0, none⟩) i K w := by
  apply S.ref14_Space_Has_ok
  unfold S.ref14_Space_Has
  obtain ⟨sT, sP, T, P, hr, h⟩ := h.rsp
  have hl := h.lenc sT
  have htl := hr.tlen
  intro l3 hl3
  have loop : ∀ (j k : Nat), k + j = T.length → (∀ x ∈ T.take k, x.1 ≠ i) → l3 (k : Int) w := by
    intro j
    induction j with
    | zero =>
      intro k hk hno
      apply hl3
      refine ⟨_, rfl, sT, h.ldc rfl, cdecF (by omega) ?_⟩
      have e : m.at i = none := by
        cases e : m.at i with
        | none => rfl
        | some n => exact absurd rfl (hno (i, n) (by rw [List.take_of_length_le (by omega)]; exact (hr.tb i n).2 e))
      rw [e] at hK; exact hK
    | succ j ih =>
      intro k hk hno
      apply hl3
      have hx : T[k]? = some T[k] := List.getElem?_eq_getElem (by omega)
      refine ⟨_, rfl, sT, h.ldc rfl, cdecT (by omega) ⟨_, rfl, sT, h.ldc rfl, ?_⟩⟩
      refine h.ixc (s := sT) (i := (k : Int)) (j := k) rfl hx fun a ha h0 hc => ⟨_, h0 _ rfl, ?_⟩
      refine ceq (fun e => ?_) (fun e => ?_)
      · refine ⟨_, rfl, sT, h.ldc rfl, ?_⟩
        refine h.ixc (s := sT) (i := (k : Int)) (j := k) rfl hx fun a ha h0 hc => ⟨_, hc 1 _ rfl, ?_⟩
        have e2 : m.at i = some T[k].2 := (hr.tb i _).1 (by rw [← e]; exact List.getElem_mem _)
        rw [e2] at hK; exact hK
      · rw [show IntKind.i64.wrap ((k : Int) + 1) = ((k + 1 : Nat) : Int) from by rw [wr (by omega) (by omega)]; omega]
        refine ih (k + 1) (by omega) fun x hx2 => ?_
        rw [List.take_add_one, hx, Option.toList_some, List.mem_append, List.mem_singleton] at hx2
        rcases hx2 with h1 | h1
        · exact hno x h1
        · rw [h1]; exact e
  exact loop T.length 0 (by omega) (fun x hx => by simp at hx)
theorem app1_tab {s : Sl} {ys : Tbs} {y : Int × Int} {c : Nat} {L : List Asn} {k : Sl → World → Prop} [I : SlIn s L (Int × Int) tabE ys] [J : Pick (SlT tabE s ys) L R] (h : Own B w0 w (BlkA c [.int .i64 y.1, .int .i64 y.2] :: L)) (hbig : ys.length ≤ 1000000000)
    (hk : ∀ s' w', s'.len = ys.length + 1 → Own B w0 w' (SlT tabE s' (ys ++ [y]) :: R) → k s' w') :
    ∃ s' w', AppR Try.prog [78, 78] 78 (.slice s.a s.len s.cap) (.slice (some (Addr.mk c 0 none)) 1 1) w s' w' ∧ k s' w' :=
  Own.app1c (E := tabE) (y := y) Try.underlying78 (show Try.prog.info? 107 = some Try.t107 from by kernel_rfl) (zv := (Try.t107.zero).get (by kernel_rfl)) (by kernel_rfl) (by kernel_rfl) (by kernel_rfl) (by decide) h (by
    have e : Try.t107.bytes = 16 := by kernel_rfl
    rw [e]; omega) hk
theorem at_up {i j : Int} {v : Option Int} (hi : 0 ≤ i) : (⟨upT m.tb i.toNat v, m.pg⟩ : Spc).at j = if j = i then v else m.at j := by
  unfold Spc.at upT
  by_cases hj : j < 0
  · rw [if_pos hj, if_neg (by omega), if_pos hj]
  · rw [if_neg hj]
    by_cases e : j = i
    · rw [if_pos e, e]; simp
    · simp only
      rw [if_neg (by omega), if_neg e, if_neg hj]
theorem rTable_spec {i n : Int} {K : Int → World → Prop} (h : Own B w0 w (RspA b m :: R)) (hK : ∀ w', Own B w0 w' (RspA b (m.tableR i n).2 :: R) → K (m.tableR i n).1 w') : C.ref14_Space_Table (some ⟨b, 0, none⟩) i n K w := by
  apply S.ref14_Space_Table_ok
  unfold S.ref14_Space_Table
  obtain ⟨sT, sP, T, P, hr, h⟩ := h.rsp
  have hl := h.lenc sT
  have htl := hr.tlen
  have hok := hr.ok.table i n
  unfold Spc.tableR at hK hok
  intro k4 hk4
  have bad : ¬ (0 ≤ i ∧ i < 64 ∧ 0 ≤ n) → k4 true w := fun e => by
    rw [if_pos e] at hK; exact hk4 _ _ (cbT rfl (hK w (Own.mk_rsp hr h)))
  refine cdec (fun e => bad fun hh => by omega) (fun e1 => ?_)
  refine cdec (fun e => bad fun hh => by omega) (fun e2 => ?_)
  by_cases e3 : n < 0
  · rw [decide_eq_true e3]; exact bad fun hh => by omega
  rw [decide_eq_false e3]
  have hi : 0 ≤ i ∧ i < 64 := by omega
  rw [if_neg (fun hh => hh ⟨hi.1, hi.2, by omega⟩)] at hK hok
  refine hk4 _ _ (cbF rfl ?_)
  have full : ∀ (K2 : Bool → World → Prop) , (∀ t w', (bif t then K 140 w' else False) → K2 t w') → ((m.tb i.toNat).isSome = true ∨ ((List.range 64).any fun j => m.tb j == some n) = true) → K2 true w := fun K2 h2 e => by
    rw [if_pos e] at hK
    exact h2 true w (cbT rfl (hK w (Own.mk_rsp hr h)))
  intro l7 hl7
  have loop : ∀ (j k : Nat), k + j = T.length → (∀ x ∈ T.take k, x.1 ≠ i ∧ x.2 ≠ n) → l7 (k : Int) w := by
    intro j
    induction j with
    | zero =>
      intro k hk hno
      rw [List.take_of_length_le (by omega)] at hno
      apply hl7
      refine ⟨_, rfl, sT, h.ldc rfl, cdecF (by omega) ?_⟩
      have hfree : m.tb i.toNat = none := by
        cases e : m.tb i.toNat with
        | none => rfl
        | some v => exact absurd rfl (hno (i, v) ((hr.tb i v).2 (SOk.atIn hi.1 e))).1
      have hany : ¬ ((List.range 64).any fun j => m.tb j == some n) = true := fun e => by
        obtain ⟨j, _, e⟩ := List.any_eq_true.1 e
        have e : m.tb j = some n := by simpa using e
        exact absurd rfl (hno ((j : Int), n) ((hr.tb _ n).2 (SOk.atIn (by omega) (by rw [Int.toNat_natCast]; exact e)))).2
      rw [if_neg (by rw [hfree]; simpa using hany)] at hK hok
      refine ⟨_, rfl, sT, h.ldc rfl, ?_⟩
      refine h.al fun w2 h => ?_
      generalize w.heap.size = d at h ⊢
      refine app1_tab (s := sT) (ys := T) (y := (i, n)) h (by omega) fun s' w hs' h => ?_
      refine ⟨_, rfl, ?_⟩
      have h := h.up1
      refine h.stc rfl rfl fun w h => ?_
      refine hK w (Own.mk_rsp (sT := s') (sP := sP) (T := T ++ [(i, n)]) (P := P) ⟨hok, hr.pg, ?_, fun j x => ?_⟩ h)
      · rw [List.map_append, List.nodup_append]
        refine ⟨hr.nd, by simp, fun x hx y hy e => ?_⟩
        simp only [List.map_cons, List.map_nil, List.mem_singleton] at hy
        obtain ⟨z, hz, e2⟩ := List.mem_map.1 hx
        exact (hno z hz).1 (by rw [e2, e, hy])
      · rw [List.mem_append, List.mem_singleton, at_up hi.1]
        by_cases e : j = i
        · rw [if_pos e]
          constructor
          · rintro (h1 | h1)
            · exact absurd e (hno _ h1).1
            · cases h1; rfl
          · intro h1; cases h1; exact .inr (by rw [e])
        · rw [if_neg e, hr.tb]
          exact ⟨fun h1 => h1.resolve_right fun h2 => e (by cases h2; rfl), .inl⟩
    | succ j ih =>
      intro k hk hno
      apply hl7
      have hx : T[k]? = some T[k] := List.getElem?_eq_getElem (by omega)
      have hmem : T[k] ∈ T := List.getElem_mem _
      refine ⟨_, rfl, sT, h.ldc rfl, cdecT (by omega) ?_⟩
      intro k12 hk12
      have fl : ((m.tb i.toNat).isSome = true ∨ ((List.range 64).any fun j => m.tb j == some n) = true) → k12 true w := fun e => by
        refine hk12 _ _ (cbT rfl ?_)
        rw [if_pos e] at hK
        exact hK w (Own.mk_rsp hr h)
      refine ⟨_, rfl, sT, h.ldc rfl, ?_⟩
      refine h.ixc (s := sT) (i := (k : Int)) (j := k) rfl hx fun a ha h0 hc => ⟨_, h0 _ rfl, ?_⟩
      have hat := hr.ok.atOut ((hr.tb T[k].1 T[k].2).1 hmem)
      refine ceq (fun e => fl (.inl (by rw [← e, hat.2.2]; rfl))) (fun e => ?_)
      refine ⟨_, rfl, sT, h.ldc rfl, ?_⟩
      refine h.ixc (s := sT) (i := (k : Int)) (j := k) rfl hx fun a ha h0 hc => ⟨_, hc 1 _ rfl, ?_⟩
      by_cases e5 : T[k].2 = n
      · rw [show (T[k].2 == n) = true from by simpa using e5]
        exact fl (.inr (List.any_eq_true.2 ⟨T[k].1.toNat, List.mem_range.2 (by omega), by rw [hat.2.2, e5]; simp⟩))
      · rw [show (T[k].2 == n) = false from by simpa using e5]
        refine hk12 _ _ (cbF rfl ?_)
        rw [show IntKind.i64.wrap ((k : Int) + 1) = ((k + 1 : Nat) : Int) from by rw [wr (by omega) (by omega)]; omega]
        refine ih (k + 1) (by omega) fun x hx2 => ?_
        rw [List.take_add_one, hx, Option.toList_some, List.mem_append, List.mem_singleton] at hx2
        rcases hx2 with h1 | h1
        · exact hno x h1
        · rw [h1]; exact ⟨e, e5⟩
  exact loop T.length 0 (by omega) (fun x hx => by simp at hx)
/-- Where a page is. -/
theorem place_o {n : Int} {sT sP : Sl} {K : Int → World → Prop} (hr : Rel14 m T P) (h : Own B w0 w (BlkA b [slV sT, slV sP] :: SlT tabE sT T :: SlT laidE sP P :: R)) (hK0 : look m.pg n = none → K (-1) w) (hK1 : ∀ (k : Nat) (v : Pg), P[k]? = some (n, v) → look m.pg n = some v → K (k : Int) w) : C.ref14_Space_place (some ⟨b, 0, none⟩) n K w := by
  apply S.ref14_Space_place_ok
  unfold S.ref14_Space_place
  have hl := h.lenc sP
  have hpl := hr.plen
  intro l3 hl3
  have loop : ∀ (j k : Nat), k + j = P.length → (∀ x ∈ P.take k, x.1 ≠ n) → l3 (k : Int) w := by
    intro j
    induction j with
    | zero =>
      intro k hk hno
      rw [List.take_of_length_le (by omega)] at hno
      apply hl3
      refine ⟨_, rfl, sP, h.ldd rfl, cdecF (by omega) (hK0 (look_none.2 fun x hx => hno x (hr.pg.mem_iff.2 hx)))⟩
    | succ j ih =>
      intro k hk hno
      apply hl3
      have hx : P[k]? = some P[k] := List.getElem?_eq_getElem (by omega)
      refine ⟨_, rfl, sP, h.ldd rfl, cdecT (by omega) ⟨_, rfl, sP, h.ldd rfl, ?_⟩⟩
      refine h.ixc (s := sP) (i := (k : Int)) (j := k) rfl hx fun a ha h0 hc => ⟨_, h0 _ rfl, ?_⟩
      refine ceq (fun e => ?_) (fun e => ?_)
      · refine hK1 k P[k].2 (by rw [hx, ← e]) ?_
        exact hr.look (by rw [← e]; exact List.getElem_mem _)
      · rw [show IntKind.i64.wrap ((k : Int) + 1) = ((k + 1 : Nat) : Int) from by rw [wr (by omega) (by omega)]; omega]
        refine ih (k + 1) (by omega) fun x hx2 => ?_
        rw [List.take_add_one, hx, Option.toList_some, List.mem_append, List.mem_singleton] at hx2
        rcases hx2 with h1 | h1
        · exact hno x h1
        · rw [h1]; exact e
  exact loop P.length 0 (by omega) (fun x hx => by simp at hx)
end
end Go.Proofs.Ytmfbhjfkagnahaa
