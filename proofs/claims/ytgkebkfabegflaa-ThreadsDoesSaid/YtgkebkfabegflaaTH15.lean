/- Laws of layer 10: of threads that are not there nothing is done. -/
import Derived.Test.YtgkebkfabegflaaTH14
import Derived.Test.YtgkebkfabegflaaS0
set_option linter.unusedVariables false
set_option linter.unusedSimpArgs false
set_option maxRecDepth 8000
namespace Go.Proofs.Ytgkebkfabegflaa
open Go Go.Vc Go.Proofs

abbrev Op10 := (Int × Int) × Int × Int × Int
def op10E : EncT Op10 := ⟨5, fun o => [.int .i64 o.1.1, .int .i64 o.1.2, .int .i64 o.2.1, .int .i64 o.2.2.1, .int .u64 o.2.2.2], fun _ => rfl, fun x v h => by
  simp only [List.mem_cons, List.not_mem_nil, or_false] at h
  rcases h with rfl | rfl | rfl | rfl | rfl <;> rfl, by decide⟩
theorem ldOp10 {w : World} {a : Addr} {x : Op10} {f : Int → Int → Int → Int → Int → Prop} (g : ∀ c v, (op10E.enc x)[c]? = some v → w.cell? (a.add c) = some v) (hf : f x.1.1 x.1.2 x.2.1 x.2.2.1 x.2.2.2) : LdL w a 0 [.i .i64, .i .i64, .i .i64, .i .i64, .i .u64] f :=
  ⟨_, g 0 _ rfl, _, g 1 _ rfl, _, g 2 _ rfl, _, g 3 _ rfl, _, g 4 _ rfl, hf⟩
def op10Good (o : Op10) : Prop := True
theorem op10Dec : ∀ cs, Fits [.int .i64, .int .i64, .int .i64, .int .i64, .int .u64] cs → ∃ x, cs = op10E.enc x ∧ op10Good x := fun cs h0 => by
  obtain ⟨_, _, rfl, ⟨a, rfl, _⟩, h1⟩ := h0.cons_out
  obtain ⟨_, _, rfl, ⟨b, rfl, _⟩, h2⟩ := h1.cons_out
  obtain ⟨_, _, rfl, ⟨c, rfl, _⟩, h3⟩ := h2.cons_out
  obtain ⟨_, _, rfl, ⟨d, rfl, _⟩, h4⟩ := h3.cons_out
  obtain ⟨_, _, rfl, ⟨e, rfl, _⟩, h5⟩ := h4.cons_out
  obtain rfl := h5.nil_out
  exact ⟨((a, b), c, d, e), rfl, trivial⟩
section
variable {B : Nat} {w0 w : World} {R L : List Asn} {b : Nat} {m : Mt}
/-- A call that makes no thread. -/
def Mt.done (m : Mt) (k n c p : Int) : Mt := if k = 2 then (m.resumeR n).2 else if k = 3 then (m.suspendR n).2 else if k = 4 then (m.blockR n).2 else if k = 5 then (m.prioR n p).2 else if k = 6 then (m.coreR n c).2 else
  if k = 7 then m.pickC c else if k = 8 then m.yield c else if k = 9 then m.tick c else m
theorem InvX.done (hi : InvX (-1) m) (k n c p : Int) : InvX (-1) (m.done k n c p) := by
  unfold Mt.done
  split
  · exact hi.resume n
  split
  · exact hi.suspend n
  split
  · exact hi.block n
  split
  · exact hi.prio n p
  split
  · exact hi.core n c
  split
  · exact hi.pickC c
  split
  · exact hi.yield c
  split
  · exact hi.tick c
  · exact hi
theorem law10_done_spec {k n c p v : Int} {K : World → Prop} (hi : InvX (-1) m) (h : Own B w0 w (ThrA b m :: R)) (hK : ∀ w', Own B w0 w' (ThrA b (m.done k n c p) :: R) → K w') : C.law10_done (some ⟨b, 0, none⟩) k n c p v K w := by
  apply S.law10_done_ok
  unfold S.law10_done
  have hm := hi.ok
  refine h.al fun w1 h => ?_
  generalize w.heap.size = d at h ⊢
  have h : Own B w0 w1 (ThrA b m :: BlkA d [.int .i64 k, .int .i64 n, .int .i64 c, .int .i64 p, .int .u64 v] :: R) := h.up1
  unfold Mt.done at hK
  refine ⟨_, h.ldc rfl, ?_⟩
  refine ceq (fun e => ?_) (fun e => ?_)
  · rw [if_pos e] at hK; exact ⟨_, h.ldd rfl, resume_g hm h fun w h => hK w h.rm1⟩
  rw [if_neg e] at hK
  refine ceq (fun e => ?_) (fun e => ?_)
  · rw [if_pos e] at hK; exact ⟨_, h.ldd rfl, suspend_g hm h fun w h => hK w h.rm1⟩
  rw [if_neg e] at hK
  refine ceq (fun e => ?_) (fun e => ?_)
  · rw [if_pos e] at hK; exact ⟨_, h.ldd rfl, block_g hm h fun w h => hK w h.rm1⟩
  rw [if_neg e] at hK
  refine ceq (fun e => ?_) (fun e => ?_)
  · rw [if_pos e] at hK; exact ⟨_, h.ldd rfl, _, h.ldd rfl, prio_g hm h fun w h => hK w h.rm1⟩
  rw [if_neg e] at hK
  refine ceq (fun e => ?_) (fun e => ?_)
  · rw [if_pos e] at hK; exact ⟨_, h.ldd rfl, _, h.ldd rfl, core_g hm h fun w h => hK w h.rm1⟩
  rw [if_neg e] at hK
  refine ceq (fun e => ?_) (fun e => ?_)
  · rw [if_pos e] at hK; exact ⟨_, h.ldd rfl, thr_Pick_spec hm h fun w h => hK w h.rm1⟩
  rw [if_neg e] at hK
  refine ceq (fun e => ?_) (fun e => ?_)
  · rw [if_pos e] at hK; exact ⟨_, h.ldd rfl, thr_Yield_spec hm h fun w h => hK w h.rm1⟩
  rw [if_neg e] at hK
  refine ceq (fun e => ?_) (fun e => ?_)
  · rw [if_pos e] at hK; exact ⟨_, h.ldd rfl, thr_Tick_spec hm h fun w h => hK w h.rm1⟩
  rw [if_neg e] at hK
  exact hK w1 h.rm1
theorem newM_isF {c : Nat} {k : Int} : (newM c).isT k = false := by
  cases e : (newM c).isT k with
  | false => rfl
  | true => exact absurd e newM_isT
theorem newM_pick {c : Nat} {k : Int} : (newM c).pickC k = newM c := by
  have : nextR ((newM c).q k) = none := by rw [newM_q]; kernel_rfl
  unfold Mt.pickC Mt.pick
  rw [this]
  split <;> rfl
theorem newM_runs {c : Nat} {k : Int} : (newM c).runs? k = none := by
  unfold Mt.runs?
  rw [newM_run, if_neg (fun h => h.2 rfl)]
theorem newM_done {c : Nat} {k n d p : Int} : (newM c).done k n d p = newM c := by
  unfold Mt.done Mt.resumeR Mt.suspendR Mt.blockR Mt.prioR Mt.coreR Mt.yield Mt.tick
  rw [newM_isF, newM_pick, newM_runs]
  simp
theorem law10_ThreadsNone_spec {s1 : Sl} {ops : List Op10} {k n c p v : Int} {K : Bool → World → Prop} (hi : Inp op10E w0 s1 ops) (hg : ∀ x ∈ ops, op10Good x) (w1 : (Lit.int .i64 k).wf = true) (w2 : (Lit.int .i64 n).wf = true) (w3 : (Lit.int .i64 c).wf = true) (w4 : (Lit.int .i64 p).wf = true) (w5 : (Lit.int .u64 v).wf = true) (h : Own w0.heap.size w0 w []) (hK : ∀ w', Own w0.heap.size w0 w' [] → K true w') : C.law10_ThreadsNone s1 k n c p v K w := by
  apply S.law10_ThreadsNone_ok
  unfold S.law10_ThreadsNone
  have hlen := hi.len
  have inv : InvX (-1) (newM 2) := newM_inv (by decide)
  have hm := inv.ok
  refine h.al fun w2 h => ?_
  generalize w.heap.size = d at h ⊢
  refine thr_New_spec h (fun e => absurd ⟨by decide, by decide⟩ e) fun c2 hc2 _ _ b w h => ?_
  obtain rfl : c2 = 2 := by omega
  intro k11 hk11
  refine cbF rfl (hk11 _ _ (cbF (by decide) ?_))
  intro l14 hl14
  have nF : ∀ k, (newM 2).isT k = false := fun k => newM_isF
  have nR : ∀ k, (newM 2).runs? k = none := fun k => newM_runs
  have nP : ∀ k, (newM 2).pickC k = newM 2 := fun k => newM_pick
  have nY : ∀ k, (newM 2).yield k = newM 2 := fun k => by unfold Mt.yield; rw [nR]
  have nT : ∀ k, (newM 2).tick k = newM 2 := fun k => by unfold Mt.tick; rw [nR]
  have loop : ∀ (m i : Nat) (w : World), i + m = 61 → i ≤ 60 → i ≤ ops.length → Own w0.heap.size w0 w [ThrA b (newM 2), BlkA d [.int .i64 k, .int .i64 n, .int .i64 c, .int .i64 p, .int .u64 v]] → l14 (i : Int) w := by
    intro m
    induction m with
    | zero => intro i w h1 h2; omega
    | succ m ih =>
      intro i w him hi60 hil h
      apply hl14
      intro k17 hk17
      have exit_ : k17 false w := by
        refine hk17 _ _ (cbF rfl ?_)
        refine h.dr fun w h => ?_
        refine ⟨_, h.ldd rfl, _, h.ldd rfl, _, h.ldd rfl, Go.Vc.a2 ?_⟩
        refine resume_g (m := newM 2) hm h fun w h => ?_
        have e1 : (newM 2).resumeR n = (100, newM 2) := by unfold Mt.resumeR; rw [nF, if_pos rfl]
        rw [e1] at h ⊢
        refine ⟨h.ldd rfl, h.ldd rfl, Go.Vc.a2 ?_⟩
        refine suspend_g (m := newM 2) hm h fun w h => ?_
        have e2 : (newM 2).suspendR n = (100, newM 2) := by unfold Mt.suspendR; rw [nF, if_pos rfl]
        rw [e2] at h ⊢
        refine ⟨h.ldd rfl, Go.Vc.a2 ?_⟩
        refine block_g (m := newM 2) hm h fun w h => ?_
        have e3 : (newM 2).blockR n = (100, newM 2) := by unfold Mt.blockR; rw [nF, if_pos rfl]
        rw [e3] at h ⊢
        refine h.dr fun w h => ?_
        refine ⟨_, h.ldd rfl, _, h.ldd rfl, _, h.ldd rfl, _, h.ldd rfl, Go.Vc.a2 ?_⟩
        refine prio_g (m := newM 2) hm h fun w h => ?_
        have e4 : (newM 2).prioR n 5 = (100, newM 2) := by unfold Mt.prioR; rw [nF, if_pos rfl]
        rw [e4] at h ⊢
        refine ⟨h.ldd rfl, h.ldd rfl, h.ldd rfl, Go.Vc.a2 ?_⟩
        refine core_g (m := newM 2) hm h fun w h => ?_
        have e5 : (newM 2).coreR n 1 = (100, newM 2) := by unfold Mt.coreR; rw [nF, if_pos rfl]
        rw [e5] at h ⊢
        refine ⟨h.ldd rfl, h.ldd rfl, Go.Vc.a2 ?_⟩
        refine reg_g (m := newM 2) hm h fun w h => ?_
        have e6 : (newM 2).regR n 0 v = (100, newM 2) := by unfold Mt.regR; rw [nF, if_pos rfl]
        rw [e6] at h ⊢
        refine ⟨_, h.ldd rfl, ?_⟩
        refine thr_Get_spec h fun w t et h => ?_
        rw [nF]
        refine h.al fun w2 h => ?_
        generalize w.heap.size = g at h ⊢
        refine h.stLc rfl rfl fun w h => ?_
        (dsimp only [putAt, List.set_cons_zero, List.set_cons_succ] at h)
        refine ⟨_, h.ldd rfl, ?_⟩
        refine thr_Pick_spec hm (h.pick (A := ThrA b (newM 2))) fun w h => ?_
        rw [nP] at h ⊢
        rw [nR]
        refine ceqT rfl (ceqT rfl (ceqT rfl (ceqT rfl (ceqT rfl (ceqT rfl (ceqT rfl (cbT rfl ?_)))))))
        refine ⟨_, h.ldd rfl, ?_⟩
        refine thr_Yield_spec hm h fun w h => ?_
        rw [nY] at h; rw [nR]
        refine cbT rfl ⟨_, h.ldd rfl, ?_⟩
        refine thr_Tick_spec hm h fun w h => ?_
        rw [nT] at h; rw [nR]
        refine cbT rfl ?_
        exact law10_fixed_spec h fun w h => hK _ h.sub
      refine cdec (fun e1 => ?_) (fun e1 => exit_)
      by_cases e2 : (i : Int) < 60
      case neg => rw [decide_eq_false e2]; exact exit_
      rw [decide_eq_true e2]
      have hlt : i < ops.length := by omega
      obtain ⟨o, ho⟩ : ∃ o, ops[i]? = some o := ⟨_, List.getElem?_eq_getElem hlt⟩
      have hr2 : Rd op10E w0.heap.size w0 [ThrA b (newM 2), BlkA d [.int .i64 k, .int .i64 n, .int .i64 c, .int .i64 p, .int .u64 v]] s1 ops := hi.rd _
      refine hk17 _ _ (cbT rfl ?_)
      refine hr2.ix h rfl ho fun a ha h0 hc => ?_
      refine ldOp10 hc ?_
      refine law10_done_spec inv h fun w h => ?_
      rw [newM_done] at h
      rw [show IntKind.i64.wrap ((i : Int) + 1) = ((i + 1 : Nat) : Int) from by rw [wr (by omega) (by omega)]; omega]
      exact ih (i + 1) w (by omega) (by omega) (by omega) h
  exact loop 61 0 w (by omega) (by omega) (by omega) h
end
end Go.Proofs.Ytgkebkfabegflaa
