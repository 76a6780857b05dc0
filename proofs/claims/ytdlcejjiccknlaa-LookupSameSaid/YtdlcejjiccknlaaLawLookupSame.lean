/- LookupSame returns true, whatever it is given, and its arguments read as they did: the row, out of the contract. -/
import Derived.Test.YtdlcejjiccknlaaRows
import Derived.Test.YtdlcejjiccknlaaLS
import Derived.WalkKit
import Derived.ProofKit
import Derived.OpenShut
import Derived.ShutString
import Derived.ChangeOld
import Derived.Below
import Derived.SizedLaws
import Derived.Carry
set_option linter.unusedVariables false
namespace Go.Proofs.Ytdlcejjiccknlaa.lookupSame
open Go Go.Vc Go.ChangeShapes Go.WideShapes Go.ChangeAt Go.RowKit
theorem own : ownKnob Try.prog.godebug = none := by kernel_rfl
theorem laidOut : laidOutB Try.prog = true := by kernel_rfl
set_option maxRecDepth 100000 in
theorem lifted (os : Os) (started : os.Started) (H : Type) (enc : TypeId × Value → H) :
    ReturnsInHanded {} Try.checked os 17 .any (Rows.lookupSameSpec.pre6 enc Try.prog Try.f17 Rows.lookupSameRow.domain false) (Rows.lookupSameSpec.post enc Try.prog Try.f17 false true false false) := by
  refine returnsInHanded_of_change_sized (C := Try.checked) own started (by kernel_rfl) Try.func17
    (ChangeSpec.witness6 (enc := enc) (C := Try.checked) false ⟨#[], #[.agg #[.slice none 0 0, .slice none 0 0], .agg #[.int .i64 0, .int .i64 0, .int .i64 0, .int .u64 0, .int .u64 0, .int .i64 0, .int .u64 0, .int .i64 0], .agg #[.int .i64 0, .int .i64 0, .int .i64 0, .int .u64 0, .int .u64 0, .int .i64 0]], []⟩ 8 (by kernel_rfl) (by kernel_rfl) (by kernel_rfl) (by kernel_rfl)) ?_
  intro W base args ds gs before hval0 hW hcnd hsz0 _
  have hval : ∀ (j : Nat) t v, Try.f17.params[j]? = some t → args[j]? = some v → Value.okWide Try.prog W .any base t v := hval0
  have hW' := hW
  obtain ⟨p, q, hA0, hV, rfl, hfz, hnd⟩ := hW
  have hA : DataW.TrodAll enc Try.prog W 0 (fun _ => true) true Try.f17.params.toList args.toList ds p := hA0
  rw [Try.params17] at hA hval
  obtain ⟨v0, vs0, d0, ds0, p0, q0, hargs, rfl, rfl, h0, r0⟩ := trodAll_cons hA
  obtain ⟨v1, vs1, d1, ds1, p1, q1, rfl, rfl, rfl, h1, r1⟩ := trodAll_cons r0
  obtain ⟨v2, vs2, d2, ds2, p2, q2, rfl, rfl, rfl, h2, r2⟩ := trodAll_cons r1
  obtain ⟨rfl, rfl, rfl⟩ := trodAll_nil r2
  obtain rfl : args = #[v0, v1, v2] := by cases args; simp_all
  obtain ⟨rfl, rfl⟩ := trodVars_none hV
  have k0 := h0
  have lt0 : ∀ x ∈ p0, x.block < W.heap.size := by obtain ⟨m, hm⟩ := k0; exact DataW.trod_lt m _ _ _ hm
  obtain ⟨s0_0, s0_1, sd0_0, sd0_1, sp0_0, sp0_1, rfl, sh0_0, sh0_1⟩ := agg2s_of Try.underlying35 Try.underlying32 Try.underlying33 rfl rfl (by kernel_rfl) (by kernel_rfl) (by kernel_rfl) (hval 0 35 v0 rfl rfl) h0
  obtain ⟨xs0_0, hi0_0, hg0_0⟩ := inp_of (E := intE) (ks := [.int .i64]) (d := 9) Try.underlying32 (by kernel_rfl) (by kernel_rfl) intDec6 sh0_0
  obtain ⟨xs0_1, hi0_1, hg0_1⟩ := inp_of (E := heldE) (ks := [.int .i64, .int .i64, .int .i64, .int .i64, .int .i64, .int .u64, .int .u64, .int .i64]) (d := 9) Try.underlying33 (by kernel_rfl) (by kernel_rfl) heldDec sh0_1
  have k1 := h1
  have lt1 : ∀ x ∈ p1, x.block < W.heap.size := by obtain ⟨m, hm⟩ := k1; exact DataW.trod_lt m _ _ _ hm
  obtain ⟨cs1, rfl, hf1_0⟩ := agg_of (d := 9) (ks := [.int .i64, .int .i64, .int .i64, .int .u64, .int .u64, .int .i64, .int .u64, .int .i64]) (by kernel_rfl) (hval 1 47 v1 rfl rfl) (by kernel_rfl) h1
  obtain ⟨x1_0, cs1_0, rfl, ⟨y1_0, rfl, w1_0⟩, hf1_1⟩ := hf1_0.cons_out
  obtain ⟨x1_1, cs1_1, rfl, ⟨y1_1, rfl, w1_1⟩, hf1_2⟩ := hf1_1.cons_out
  obtain ⟨x1_2, cs1_2, rfl, ⟨y1_2, rfl, w1_2⟩, hf1_3⟩ := hf1_2.cons_out
  obtain ⟨x1_3, cs1_3, rfl, ⟨y1_3, rfl, w1_3⟩, hf1_4⟩ := hf1_3.cons_out
  obtain ⟨x1_4, cs1_4, rfl, ⟨y1_4, rfl, w1_4⟩, hf1_5⟩ := hf1_4.cons_out
  obtain ⟨x1_5, cs1_5, rfl, ⟨y1_5, rfl, w1_5⟩, hf1_6⟩ := hf1_5.cons_out
  obtain ⟨x1_6, cs1_6, rfl, ⟨y1_6, rfl, w1_6⟩, hf1_7⟩ := hf1_6.cons_out
  obtain ⟨x1_7, cs1_7, rfl, ⟨y1_7, rfl, w1_7⟩, hf1_8⟩ := hf1_7.cons_out
  obtain rfl := hf1_8.nil_out
  have k2 := h2
  have lt2 : ∀ x ∈ p2, x.block < W.heap.size := by obtain ⟨m, hm⟩ := k2; exact DataW.trod_lt m _ _ _ hm
  obtain ⟨cs2, rfl, hf2_0⟩ := agg_of (d := 9) (ks := [.int .i64, .int .i64, .int .i64, .int .u64, .int .u64, .int .i64]) (by kernel_rfl) (hval 2 38 v2 rfl rfl) (by kernel_rfl) h2
  obtain ⟨x2_0, cs2_0, rfl, ⟨y2_0, rfl, w2_0⟩, hf2_1⟩ := hf2_0.cons_out
  obtain ⟨x2_1, cs2_1, rfl, ⟨y2_1, rfl, w2_1⟩, hf2_2⟩ := hf2_1.cons_out
  obtain ⟨x2_2, cs2_2, rfl, ⟨y2_2, rfl, w2_2⟩, hf2_3⟩ := hf2_2.cons_out
  obtain ⟨x2_3, cs2_3, rfl, ⟨y2_3, rfl, w2_3⟩, hf2_4⟩ := hf2_3.cons_out
  obtain ⟨x2_4, cs2_4, rfl, ⟨y2_4, rfl, w2_4⟩, hf2_5⟩ := hf2_4.cons_out
  obtain ⟨x2_5, cs2_5, rfl, ⟨y2_5, rfl, w2_5⟩, hf2_6⟩ := hf2_5.cons_out
  obtain rfl := hf2_6.nil_out
  clear hA0 hval0 hsz0
  have hw := law06_LookupSame_spec (K := fun r w' => r = true ∧ Below W.heap.size W w') hi0_0 hg0_0 hi0_1 hg0_1 w1_0 w1_1 w1_2 w1_3 w1_4 w1_5 w1_6 w1_7 w2_0 w2_1 w2_2 w2_3 w2_4 w2_5 (Own.start W) fun w' h => ⟨rfl, h.below⟩
  refine Calls.mono (okF_out hw) fun e W' he => ?_
  obtain ⟨r, he, hr, bel⟩ := he
  subst hr
  subst he
  exact ⟨_, rfl, _, _, _, [], _, [], hW', trodAll_mk1 (shut_bool Try.underlying4 _), (trodAll_cons_mk (Below.trod laidOut (by kernel_rfl) (of_decide_eq_true (by kernel_rfl)) k0 bel lt0) (trodAll_cons_mk (Below.trod laidOut (by kernel_rfl) (of_decide_eq_true (by kernel_rfl)) k1 bel lt1) (trodAll_cons_mk (Below.trod laidOut (by kernel_rfl) (of_decide_eq_true (by kernel_rfl)) k2 bel lt2) trodAll_mk0))), rfl, bel.frame _, fun h => by cases h⟩
theorem over : Rows.lookupSameRow.holds Try.pinned (OpenSpec.ofChange Rows.lookupSameSpec) :=
  OpenClaim.holds_of_wide 17 Try.f17 rfl rfl rfl rfl rfl rfl rfl ⟨rfl, rfl, rfl, rfl, rfl⟩ rfl rfl rfl rfl rfl (by kernel_rfl) Try.func17 (by kernel_rfl)
    (of_decide_eq_true (by kernel_rfl)) (by unfold Func.isWrapper; first | (rw [if_pos (by decide +kernel)]; kernel_rfl) | (rw [if_neg (by decide +kernel)]; exact ⟨rfl, rfl⟩))
    (fun os started H enc _ => lifted os started H enc)
theorem proved : Rows.LookupSameSaid := over
end Go.Proofs.Ytdlcejjiccknlaa.lookupSame
namespace Go.Proofs.Ytdlcejjiccknlaa
/-- The row, under a short name, for the claim. -/
theorem lookupSame_holds : Rows.LookupSameSaid := lookupSame.proved
#print axioms lookupSame_holds
end Go.Proofs.Ytdlcejjiccknlaa
