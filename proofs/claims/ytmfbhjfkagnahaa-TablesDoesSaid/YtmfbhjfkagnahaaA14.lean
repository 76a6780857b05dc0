/- Tables of layer 14: what they are, plainly: pages in order. -/
import Derived.Test.YtmfbhjfkagnahaaM
import Derived.Test.YtmfbhjfkagnahaaC
set_option linter.unusedVariables false
set_option linter.unusedSimpArgs false
set_option maxRecDepth 8000
namespace Go.Proofs.Ytmfbhjfkagnahaa
open Go Go.Vc Go.Proofs

abbrev Pg := Int × Int
abbrev Pgs := List (Int × Pg)
/-- In order, each once. -/
def Srt (P : Pgs) : Prop := P.Pairwise fun x y => x.1 < y.1
def look : Pgs → Int → Option Pg
  | [], _ => none
  | x :: P, k => if x.1 = k then some x.2 else look P k
def insS : Pgs → Int → Pg → Pgs
  | [], k, v => [(k, v)]
  | x :: P, k, v => if k < x.1 then (k, v) :: x :: P else if x.1 = k then (k, v) :: P else x :: insS P k v
def delS (P : Pgs) (k : Int) : Pgs := P.filter fun x => x.1 != k
theorem look_mem {P : Pgs} {k : Int} {v : Pg} (h : look P k = some v) : (k, v) ∈ P := by
  induction P with
  | nil => simp [look] at h
  | cons x P ih =>
    simp only [look] at h
    split at h
    · rename_i e; cases h; rw [← e]; exact List.mem_cons_self
    · exact List.mem_cons_of_mem _ (ih h)
theorem look_none {P : Pgs} {k : Int} : look P k = none ↔ ∀ x ∈ P, x.1 ≠ k := by
  induction P with
  | nil => simp [look]
  | cons x P ih =>
    simp only [look, List.mem_cons, forall_eq_or_imp]
    split
    · rename_i e; simp [e]
    · rename_i e; rw [ih]; simp [e]
theorem Srt.inj {P : Pgs} (h : Srt P) {x y : Int × Pg} (hx : x ∈ P) (hy : y ∈ P) (e : x.1 = y.1) : x = y := by
  induction P with
  | nil => simp at hx
  | cons a P ih =>
    have h := List.pairwise_cons.1 h
    rcases List.mem_cons.1 hx with hx | hx
    · rcases List.mem_cons.1 hy with hy | hy
      · rw [hx, hy]
      · have := h.1 y hy; rw [hx] at e; omega
    · rcases List.mem_cons.1 hy with hy | hy
      · have := h.1 x hx; rw [hy] at e; omega
      · exact ih h.2 hx hy
theorem Srt.look {P : Pgs} (h : Srt P) {k : Int} {v : Pg} (hm : (k, v) ∈ P) : look P k = some v := by
  cases e : Go.Proofs.Ytmfbhjfkagnahaa.look P k with
  | none => exact absurd rfl (look_none.1 e _ hm)
  | some u => have := h.inj (look_mem e) hm rfl; cases this; rfl
theorem Srt.look_iff {P : Pgs} (h : Srt P) {k : Int} {v : Pg} : Go.Proofs.Ytmfbhjfkagnahaa.look P k = some v ↔ (k, v) ∈ P := ⟨look_mem, h.look⟩
theorem Srt.sub {P Q : Pgs} (h : Srt P) (hs : Q.Sublist P) : Srt Q := List.Pairwise.sublist hs h
theorem Srt.filter {P : Pgs} (h : Srt P) (f : Int × Pg → Bool) : Srt (P.filter f) := h.sub List.filter_sublist
theorem Srt.nodup {P : Pgs} (h : Srt P) : (P.map (·.1)).Nodup := by
  unfold List.Nodup
  rw [List.pairwise_map]
  exact h.imp fun hab e => by omega
theorem ins_mem {P : Pgs} (h : Srt P) {k : Int} {v : Pg} (x : Int × Pg) : x ∈ insS P k v ↔ x = (k, v) ∨ (x ∈ P ∧ x.1 ≠ k) := by
  induction P with
  | nil => simp [insS]
  | cons a P ih =>
    have h := List.pairwise_cons.1 h
    simp only [insS]
    split
    · rename_i e
      rw [List.mem_cons]
      constructor
      · rintro (h1 | h1)
        · exact .inl h1
        · refine .inr ⟨h1, ?_⟩
          rcases List.mem_cons.1 h1 with h2 | h2
          · rw [h2]; omega
          · have := h.1 x h2; omega
      · rintro (h1 | h1)
        · exact .inl h1
        · exact .inr h1.1
    · rename_i e
      split
      · rename_i e2
        rw [List.mem_cons, List.mem_cons]
        constructor
        · rintro (h1 | h1)
          · exact .inl h1
          · have := h.1 x h1; exact .inr ⟨.inr h1, by omega⟩
        · rintro (h1 | ⟨h1 | h1, h2⟩)
          · exact .inl h1
          · rw [h1] at h2; exact absurd e2 h2
          · exact .inr h1
      · rename_i e2
        rw [List.mem_cons, List.mem_cons, ih h.2]
        constructor
        · rintro (h1 | h1 | h1)
          · rw [h1]; exact .inr ⟨.inl rfl, e2⟩
          · exact .inl h1
          · exact .inr ⟨.inr h1.1, h1.2⟩
        · rintro (h1 | ⟨h1 | h1, h2⟩)
          · exact .inr (.inl h1)
          · exact .inl h1
          · exact .inr (.inr ⟨h1, h2⟩)
theorem ins_srt {P : Pgs} (h : Srt P) (k : Int) (v : Pg) : Srt (insS P k v) := by
  induction P with
  | nil => simp [insS, Srt]
  | cons a P ih =>
    have h' := List.pairwise_cons.1 h
    simp only [insS]
    split
    · rename_i e
      refine List.pairwise_cons.2 ⟨fun x hx => ?_, h⟩
      show k < x.1
      rcases List.mem_cons.1 hx with h2 | h2
      · rw [h2]; exact e
      · have := h'.1 x h2; omega
    · split
      · rename_i e2
        refine List.pairwise_cons.2 ⟨fun x hx => ?_, h'.2⟩
        show k < x.1
        rw [← e2]; exact h'.1 x hx
      · rename_i e e2
        refine List.pairwise_cons.2 ⟨fun x hx => ?_, ih h'.2⟩
        rcases (ins_mem (k := k) (v := v) h'.2 x).1 hx with h1 | h1
        · rw [h1]; show a.1 < k; omega
        · exact h'.1 x h1.1
theorem del_mem {P : Pgs} {k : Int} (x : Int × Pg) : x ∈ delS P k ↔ x ∈ P ∧ x.1 ≠ k := by unfold delS; rw [List.mem_filter]; simp
/-- Two in order with the same in them are the same. -/
theorem srt_ext {P Q : Pgs} (hP : Srt P) (hQ : Srt Q) (h : ∀ x, x ∈ P ↔ x ∈ Q) : P = Q := by
  refine List.Perm.eq_of_pairwise (le := fun x y => x.1 ≤ y.1 ∧ (x.1 = y.1 → x = y)) ?_ ?_ ?_ ?_
  · intro a b _ _ h1 h2
    exact h1.2 (by omega)
  · exact hP.imp fun h => ⟨by omega, fun e => by omega⟩
  · exact hQ.imp fun h => ⟨by omega, fun e => by omega⟩
  · refine (List.perm_ext_iff_of_nodup ?_ ?_).2 h
    · exact hP.imp fun h e => by rw [e] at h; omega
    · exact hQ.imp fun h e => by rw [e] at h; omega
theorem look_ins {P : Pgs} (h : Srt P) (k : Int) (v : Pg) (x : Int) : look (insS P k v) x = if x = k then some v else look P x := by
  have hs := ins_srt h k v
  by_cases e : x = k
  · subst e; rw [if_pos rfl]; exact hs.look ((ins_mem h _).2 (.inl rfl))
  · rw [if_neg e]
    cases e2 : look P x with
    | none =>
      refine look_none.2 fun y hy => ?_
      rcases (ins_mem h y).1 hy with h1 | h1
      · rw [h1]; exact fun e3 => e e3.symm
      · exact look_none.1 e2 y h1.1
    | some u => exact hs.look ((ins_mem h _).2 (.inr ⟨look_mem e2, e⟩))
theorem look_del {P : Pgs} (h : Srt P) (k x : Int) : look (delS P k) x = if x = k then none else look P x := by
  have hs : Srt (delS P k) := h.filter _
  by_cases e : x = k
  · subst e; rw [if_pos rfl]; exact look_none.2 fun y hy => ((del_mem y).1 hy).2
  · rw [if_neg e]
    cases e2 : look P x with
    | none => exact look_none.2 fun y hy => look_none.1 e2 y ((del_mem y).1 hy).1
    | some u => exact hs.look ((del_mem _).2 ⟨look_mem e2, e⟩)
theorem look_filter {P : Pgs} (h : Srt P) (f : Int × Pg → Bool) (x : Int) : look (P.filter f) x = (look P x).filter fun v => f (x, v) := by
  have hs := h.filter f
  cases e2 : look P x with
  | none => exact look_none.2 fun y hy => look_none.1 e2 y (List.mem_filter.1 hy).1
  | some u =>
    rw [Option.filter_some]
    by_cases e : f (x, u) = true
    · rw [if_pos e]; exact hs.look (List.mem_filter.2 ⟨look_mem e2, e⟩)
    · rw [if_neg e]
      refine look_none.2 fun y hy e3 => ?_
      obtain ⟨h1, h2⟩ := List.mem_filter.1 hy
      have : y = (x, u) := h.inj h1 (look_mem e2) e3
      rw [this] at h2; exact e h2

/-- The space: each table's number, all pages in order. -/
structure Spc where
  tb : Nat → Option Int
  pg : Pgs
structure SOk (m : Spc) : Prop where
  srt : Srt m.pg
  bnd : ∀ x ∈ m.pg, 0 ≤ x.1 ∧ x.1 < 4096 ∧ (m.tb (x.1.toNat / 64)).isSome = true
  few : ∀ i, (m.tb i).isSome = true → i < 64
/-- A table's pages. -/
def tabP (P : Pgs) (i : Nat) : Pgs := P.filter fun x => x.1.toNat / 64 == i
def Spc.at (m : Spc) (i : Int) : Option Int := if i < 0 then none else m.tb i.toNat
def upT (tb : Nat → Option Int) (i : Nat) (v : Option Int) : Nat → Option Int := fun j => if j = i then v else tb j
def Spc.tableR (m : Spc) (i n : Int) : Int × Spc := if ¬ (0 ≤ i ∧ i < 64 ∧ 0 ≤ n) then (1, m) else
  if (m.tb i.toNat).isSome = true ∨ (List.range 64).any (fun j => m.tb j == some n) = true then (140, m) else (0, { m with tb := upT m.tb i.toNat (some n) })
def Spc.dropR (m : Spc) (i : Int) : Pgs × Int × Spc := if ¬ (0 ≤ i ∧ i < 64) then ([], 1, m) else if m.tb i.toNat = none then ([], 141, m) else
  (tabP m.pg i.toNat, 0, ⟨upT m.tb i.toNat none, m.pg.filter fun x => x.1.toNat / 64 != i.toNat⟩)
def Spc.mapR (m : Spc) (k : Int) (p : Pg) : Int × Spc := if ¬ (0 ≤ k ∧ k < 4096 ∧ 0 ≤ p.1 ∧ 0 ≤ p.2 ∧ p.2 ≤ 7) then (1, m) else if m.tb (k.toNat / 64) = none then (141, m) else
  if (look m.pg k).isSome = true then (140, m) else (0, { m with pg := insS m.pg k p })
def Spc.rightsR (m : Spc) (k r : Int) : Int × Spc := if ¬ (0 ≤ k ∧ k < 4096 ∧ 0 ≤ r ∧ r ≤ 7) then (1, m) else match look m.pg k with
  | none => (141, m)
  | some p => (0, { m with pg := insS m.pg k (p.1, r) })
def Spc.unmapR (m : Spc) (k : Int) : Pg × Int × Spc := if ¬ (0 ≤ k ∧ k < 4096) then ((0, 0), 1, m) else match look m.pg k with
  | none => ((0, 0), 141, m)
  | some p => (p, 0, { m with pg := delS m.pg k })
def newS : Spc := ⟨fun _ => none, []⟩
section
variable {m : Spc}
theorem SOk.new : SOk newS := ⟨List.Pairwise.nil, fun x h => by simp [newS] at h, fun i h => by simp [newS] at h⟩
theorem SOk.out (h : SOk m) {k : Int} (hk : ¬ (0 ≤ k ∧ k < 4096)) : look m.pg k = none := look_none.2 fun x hx e => by
  have := h.bnd x hx
  rw [e] at this; exact hk ⟨this.1, this.2.1⟩
theorem SOk.tab (h : SOk m) {k : Int} {p : Pg} (hl : look m.pg k = some p) : 0 ≤ k ∧ k < 4096 ∧ (m.tb (k.toNat / 64)).isSome = true := h.bnd _ (look_mem hl)
theorem SOk.table (h : SOk m) (i n : Int) : SOk (m.tableR i n).2 := by
  unfold Spc.tableR
  split
  · exact h
  · rename_i h1
    have h1 := Decidable.not_not.1 h1
    split
    · exact h
    · refine ⟨h.srt, fun x hx => ?_, fun j hj => ?_⟩
      · have := h.bnd x hx
        refine ⟨this.1, this.2.1, ?_⟩
        show (upT m.tb i.toNat (some n) (x.1.toNat / 64)).isSome = true
        unfold upT
        split
        · rfl
        · exact this.2.2
      · have hj : (upT m.tb i.toNat (some n) j).isSome = true := hj
        unfold upT at hj
        split at hj
        · omega
        · exact h.few j hj
theorem SOk.drop (h : SOk m) (i : Int) : SOk (m.dropR i).2.2 := by
  unfold Spc.dropR
  split
  · exact h
  · split
    · exact h
    · refine ⟨h.srt.filter _, fun x hx => ?_, fun j hj => ?_⟩
      · obtain ⟨h1, h2⟩ := List.mem_filter.1 hx
        have := h.bnd x h1
        refine ⟨this.1, this.2.1, ?_⟩
        show (upT m.tb i.toNat none (x.1.toNat / 64)).isSome = true
        unfold upT
        rw [if_neg (by simpa using h2)]
        exact this.2.2
      · have hj : (upT m.tb i.toNat none j).isSome = true := hj
        unfold upT at hj
        split at hj
        · cases hj
        · exact h.few j hj
theorem SOk.ins (h : SOk m) {k : Int} (hk : 0 ≤ k ∧ k < 4096) (ht : (m.tb (k.toNat / 64)).isSome = true) (p : Pg) : SOk { m with pg := insS m.pg k p } := by
  refine ⟨ins_srt h.srt k p, fun x hx => ?_, h.few⟩
  rcases (ins_mem h.srt x).1 hx with h1 | h1
  · rw [h1]; exact ⟨hk.1, hk.2, ht⟩
  · exact h.bnd x h1.1
theorem SOk.map (h : SOk m) (k : Int) (p : Pg) : SOk (m.mapR k p).2 := by
  unfold Spc.mapR
  split
  · exact h
  · rename_i h1
    have h1 := Decidable.not_not.1 h1
    split
    · exact h
    · rename_i h2
      split
      · exact h
      · exact h.ins ⟨h1.1, h1.2.1⟩ (Option.isSome_iff_ne_none.2 h2) p
theorem SOk.rights (h : SOk m) (k r : Int) : SOk (m.rightsR k r).2 := by
  unfold Spc.rightsR
  split
  · exact h
  · rename_i h1
    have h1 := Decidable.not_not.1 h1
    cases e : look m.pg k with
    | none => exact h
    | some p => exact h.ins ⟨h1.1, h1.2.1⟩ (h.tab e).2.2 _
theorem SOk.unmap (h : SOk m) (k : Int) : SOk (m.unmapR k).2.2 := by
  unfold Spc.unmapR
  split
  · exact h
  · cases e : look m.pg k with
    | none => exact h
    | some p => exact ⟨h.srt.filter _, fun x hx => h.bnd x (List.mem_filter.1 hx).1, h.few⟩
/-- A table's pages, of a space turned. -/
theorem tab_ins {P : Pgs} (h : Srt P) (k : Int) (p : Pg) (i : Nat) : tabP (insS P k p) i = if k.toNat / 64 = i then insS (tabP P i) k p else tabP P i := by
  have hs : Srt (tabP (insS P k p) i) := (ins_srt h k p).filter _
  have ht : Srt (tabP P i) := h.filter _
  split
  · rename_i e
    refine srt_ext hs (ins_srt ht k p) fun x => ?_
    rw [ins_mem ht]
    unfold tabP
    rw [List.mem_filter, List.mem_filter, ins_mem h]
    simp only [beq_iff_eq]
    constructor
    · rintro ⟨h1 | h1, h2⟩
      · exact .inl h1
      · exact .inr ⟨⟨h1.1, h2⟩, h1.2⟩
    · rintro (h1 | ⟨⟨h1, h2⟩, h3⟩)
      · exact ⟨.inl h1, by rw [h1]; exact e⟩
      · exact ⟨.inr ⟨h1, h3⟩, h2⟩
  · rename_i e
    refine srt_ext hs ht fun x => ?_
    unfold tabP
    rw [List.mem_filter, List.mem_filter, ins_mem h]
    simp only [beq_iff_eq]
    constructor
    · rintro ⟨h1 | h1, h2⟩
      · rw [h1] at h2; exact absurd h2 e
      · exact ⟨h1.1, h2⟩
    · rintro ⟨h1, h2⟩
      exact ⟨.inr ⟨h1, fun e2 => by rw [e2] at h2; exact e h2⟩, h2⟩
theorem tab_del {P : Pgs} (k : Int) (i : Nat) : tabP (delS P k) i = delS (tabP P i) k := by
  unfold tabP delS
  rw [List.filter_filter, List.filter_filter]
  congr 1
  funext x
  exact Bool.and_comm _ _
theorem tab_del_ne {P : Pgs} {k : Int} {i : Nat} (e : k.toNat / 64 ≠ i) : tabP (delS P k) i = tabP P i := by
  rw [tab_del]
  unfold delS
  rw [List.filter_eq_self]
  intro x hx
  obtain ⟨_, h2⟩ := List.mem_filter.1 hx
  simp only [beq_iff_eq] at h2
  simp only [bne_iff_ne, ne_eq]
  intro e2
  rw [e2] at h2; exact e h2
theorem tab_drop {P : Pgs} {i j : Nat} (e : j ≠ i) : tabP (P.filter fun x => x.1.toNat / 64 != i) j = tabP P j := by
  unfold tabP
  rw [List.filter_filter]
  refine List.filter_congr fun x _ => ?_
  by_cases h : x.1.toNat / 64 = j
  · simp [h, e]
  · simp [h]
/-- All pages, table by table. -/
theorem tabs_all (h : SOk m) : (List.range 64).flatMap (tabP m.pg) = m.pg := by
  have key : ∀ n, (List.range n).flatMap (tabP m.pg) = m.pg.filter fun x => decide (x.1.toNat / 64 < n) := fun n => by
    induction n with
    | zero => simp
    | succ n ih =>
      rw [List.range_succ, List.flatMap_append, ih]
      simp only [List.flatMap_cons, List.flatMap_nil, List.append_nil]
      refine srt_ext ?_ (h.srt.filter _) fun x => ?_
      · refine List.pairwise_append.2 ⟨h.srt.filter _, h.srt.filter _, fun x hx y hy => ?_⟩
        obtain ⟨hx1, hx2⟩ := List.mem_filter.1 hx
        obtain ⟨hy1, hy2⟩ := List.mem_filter.1 hy
        simp only [decide_eq_true_eq] at hx2
        simp only [beq_iff_eq] at hy2
        have := h.bnd x hx1
        have := h.bnd y hy1
        omega
      · unfold tabP
        rw [List.mem_append, List.mem_filter, List.mem_filter, List.mem_filter]
        simp only [decide_eq_true_eq, beq_iff_eq]
        constructor
        · rintro (h1 | h1)
          · exact ⟨h1.1, by omega⟩
          · exact ⟨h1.1, by omega⟩
        · rintro ⟨h1, h2⟩
          by_cases e : x.1.toNat / 64 = n
          · exact .inr ⟨h1, e⟩
          · exact .inl ⟨h1, by omega⟩
  rw [key 64, List.filter_eq_self]
  intro x hx
  have := h.bnd x hx
  simp only [decide_eq_true_eq]; omega
end
/-- A map's list against one in order. -/
theorem look_perm {M S : Pgs} (hp : M.Perm S) (hS : Srt S) (k : Int) : mget M k = look S k := by
  have hn : (M.map (·.1)).Nodup := (hp.map _).nodup_iff.2 hS.nodup
  cases e : mget M k with
  | some v => exact (hS.look (hp.mem_iff.1 (mget_mem e))).symm
  | none =>
    refine (look_none.2 fun x hx e2 => ?_).symm
    exact mget_none.1 e (List.mem_map.2 ⟨x, hp.mem_iff.2 hx, e2⟩)
theorem mem_iff_mget {M : Pgs} (hn : (M.map (·.1)).Nodup) {k : Int} {v : Pg} : (k, v) ∈ M ↔ mget M k = some v := by
  refine ⟨fun h => ?_, mget_mem⟩
  cases e : mget M k with
  | none => exact absurd (List.mem_map.2 ⟨_, h, rfl⟩) (mget_none.1 e)
  | some u =>
    have h2 := mget_mem e
    have : ∀ (M : Pgs), (M.map (·.1)).Nodup → (k, v) ∈ M → (k, u) ∈ M → v = u := fun M => by
      induction M with
      | nil => intro _ h; simp at h
      | cons a M ih =>
        intro hn h1 h2
        rw [List.map_cons, List.nodup_cons] at hn
        rcases List.mem_cons.1 h1 with h1 | h1
        · rcases List.mem_cons.1 h2 with h2 | h2
          · have := h1.trans h2.symm; cases this; rfl
          · exact absurd (List.mem_map.2 ⟨_, h2, by rw [← h1]⟩) hn.1
        · rcases List.mem_cons.1 h2 with h2 | h2
          · exact absurd (List.mem_map.2 ⟨_, h1, by rw [← h2]⟩) hn.1
          · exact ih hn.2 h1 h2
    rw [this M hn h h2]
theorem nodup_of_keys {M : Pgs} (h : (M.map (·.1)).Nodup) : M.Nodup := List.Pairwise.of_map _ (fun a b h e => h (by rw [e])) h
theorem aput_perm {M S : Pgs} (hp : M.Perm S) (hS : Srt S) (k : Int) (v : Pg) : (aput M k v).Perm (insS S k v) := by
  have hn : (M.map (·.1)).Nodup := (hp.map _).nodup_iff.2 hS.nodup
  have hn2 := nodup_aput hn k v
  have hS2 := ins_srt hS k v
  refine (List.perm_ext_iff_of_nodup (nodup_of_keys hn2) (nodup_of_keys hS2.nodup)).2 fun x => ?_
  obtain ⟨a, b⟩ := x
  rw [mem_iff_mget hn2, mget_aput, ← hS2.look_iff, look_ins hS, look_perm hp hS]
  by_cases e : k = a
  · rw [if_pos e, if_pos e.symm]
  · rw [if_neg e, if_neg fun h => e h.symm]
theorem adel_perm {M S : Pgs} (hp : M.Perm S) (hS : Srt S) (k : Int) : (adel M k).Perm (delS S k) := by
  have hn : (M.map (·.1)).Nodup := (hp.map _).nodup_iff.2 hS.nodup
  have hn2 := nodup_adel hn k
  have hS2 : Srt (delS S k) := hS.filter _
  refine (List.perm_ext_iff_of_nodup (nodup_of_keys hn2) (nodup_of_keys hS2.nodup)).2 fun x => ?_
  obtain ⟨a, b⟩ := x
  rw [mem_iff_mget hn2, mget_adel hn, ← hS2.look_iff, look_del hS, look_perm hp hS]
  by_cases e : k = a
  · rw [if_pos e, if_pos e.symm]
  · rw [if_neg e, if_neg fun h => e h.symm]
end Go.Proofs.Ytmfbhjfkagnahaa
