/- The document's addresses, more: the address of a way. -/
import Derived.Test.YtdlcejjiccknlaaRL
import Derived.Test.YtdlcejjiccknlaaS4
set_option linter.unusedVariables false
set_option linter.unusedSimpArgs false
set_option maxRecDepth 8000
namespace Go.Proofs.Ytdlcejjiccknlaa
open Go Go.Vc Go.Proofs

theorem div_step (g m : Nat) : g / 2 ^ m = 2 * (g / 2 ^ (m + 1)) + g / 2 ^ m % 2 := by
  rw [Nat.pow_succ, ← Nat.div_div_eq_div_mul]; omega
section
variable {B : Nat} {w0 w : World} {R L : List Asn} {b : Nat} {bits : List Int} {H : Hs}
theorem ref06_Address_spec {root : Cap} {way : List Int} {ws : Sl} {K : Int → Int → Int → World → Prop} (hc : CapR root) (hr : Rd intE B w0 (RNodesA b bits H :: R) ws way) (hlen : way.length ≤ 1000) (h : Own B w0 w (RNodesA b bits H :: R))
    (hK : ∀ w', Own B w0 w' (RNodesA b bits H :: R) → K ((wayT bits H root way).1 : Int) ((wayT bits H root way).2.1 : Int) (wayT bits H root way).2.2 w') :
    C.ref06_Address (some ⟨b, 0, none⟩) root.kind root.obj root.rights root.badge root.guard root.bits ws K w := by
  apply S.ref06_Address_ok
  unfold S.ref06_Address
  have hk := h.rnok
  have hwl := hr.len
  refine h.al fun w1 h => ?_
  refine h.dr fun w2 h => ?_
  refine h.lc_6 rfl ?_
  (repeat (first | (refine h.al fun w h => ?_) | (refine h.dr fun w h => ?_) | (refine h.lc_2 rfl ?_) | (refine h.lc_6 rfl ?_) | (refine ⟨_, h.ldc rfl, ?_⟩) | (refine ⟨_, h.ldd rfl, ?_⟩) | (refine h.hd rfl ?_) | (refine ⟨h.ldc rfl, ?_⟩) | (refine ⟨h.ldd rfl, ?_⟩) | (refine h.stLc rfl rfl fun w h => ?_) | (refine exs ?_) | (refine _root_.Go.Vc.a2 ?_) | (refine h.stc rfl rfl fun w h => ?_) | (refine h.std rfl rfl fun w h => ?_)))
  (dsimp only [putAt, List.set_cons_zero, List.set_cons_succ] at h)
  intro l hl
  have loop : ∀ (rest : List Int) (j a d : Nat) (c : Cap) (w' : World), way.drop j = rest → j ≤ way.length → a < 2 ^ d → d ≤ 64 → CapR c →
      Own B w0 w' (RNodesA b bits H :: BlkA w2.heap.size c.cells :: R) → (way ≠ [] → wayN bits H rest c a d = wayN bits H way root 0 0) → (way = [] → a = 0 ∧ d = 0) → l (a : Int) (d : Int) (j : Int) w' := by
    intro rest
    induction rest with
    | nil =>
      intro j a d c w' hj hjl ha hd hcR h heq h00
      have : way.length ≤ j := by have := congrArg List.length hj; simp at this; omega
      apply hl
      refine cdecF (by omega) ?_
      refine ceq (fun e => ?_) (fun e => ?_)
      · have hw : way = [] := List.eq_nil_of_length_eq_zero (by omega)
        have hs : wayT bits H root way = (0, 0, 1) := by unfold wayT; rw [if_pos hw]
        rw [hs] at hK
        exact hK _ h.sub
      · have hne : way ≠ [] := fun hn => by subst hn; exact e (by simp at hwl; omega)
        have hs : wayT bits H root way = wayN bits H way root 0 0 := by unfold wayT; rw [if_neg hne]
        rw [hs, ← heq hne] at hK
        exact hK _ h.sub
    | cons i rest ih =>
      intro j a d c w' hj hjl ha hd hcR h heq h00
      have hjl2 : j < way.length := by have := congrArg List.length hj; simp at this; omega
      have hne : way ≠ [] := fun hn => by subst hn; simp at hjl2
      have hT : wayT bits H root way = wayN bits H way root 0 0 := by unfold wayT; rw [if_neg hne]
      have heq := heq hne
      rw [hT] at hK
      have hx : way[j]? = some i := by
        have := congrArg (fun l => l[0]?) hj
        simpa using this
      have hj2 : way.drop (j + 1) = rest := by rw [← List.drop_drop, hj]; rfl
      apply hl
      refine cdecT (by omega) ?_
      (repeat (first | (refine h.al fun w h => ?_) | (refine h.dr fun w h => ?_) | (refine h.lc_2 rfl ?_) | (refine h.lc_6 rfl ?_) | (refine ⟨_, h.ldc rfl, ?_⟩) | (refine ⟨_, h.ldd rfl, ?_⟩) | (refine h.hd rfl ?_) | (refine ⟨h.ldc rfl, ?_⟩) | (refine ⟨h.ldd rfl, ?_⟩) | (refine h.stLc rfl rfl fun w h => ?_) | (refine exs ?_) | (refine _root_.Go.Vc.a2 ?_) | (refine h.stc rfl rfl fun w h => ?_) | (refine h.std rfl rfl fun w h => ?_)))
      refine ref06_node_spec hcR h fun w h => ?_
      cases hn : nodeN bits c with
      | none =>
        have hs : wayN bits H (i :: rest) c a d = (0, 0, 60) := by rw [wayN, hn]
        rw [← heq, hs] at hK
        refine cbT rfl ?_
        exact hK _ h.sub
      | some z =>
        obtain ⟨hk2, he, hz⟩ := nodeN_some hn
        obtain ⟨g1, g2, g3⟩ := node_guard hk2 he
        obtain ⟨z1, z2⟩ := sizeN_rng hk hz
        have hsz := hz
        obtain ⟨cb, hcb⟩ := Int.eq_ofNat_of_zero_le g1
        obtain ⟨zz, rfl⟩ := Int.eq_ofNat_of_zero_le (show 0 ≤ z by omega)
        obtain ⟨g, hg⟩ := Int.eq_ofNat_of_zero_le hcR.g0
        have hgR := hcR.g1
        have hgo : c.bits.toNat = cb := by omega
        have hgg : c.guard.toNat = g := by omega
        have hs := wayN.eq_2 bits H c a d i rest
        rw [hn] at hs
        simp only [hgo, hgg, Int.toNat_natCast] at hs
        rw [show ((2 : Int) ^ zz) = ((2 ^ zz : Nat) : Int) from by simp] at hs
        have hgl : g < 2 ^ cb := by rw [hgo, hg, show ((2 : Int) ^ cb) = ((2 ^ cb : Nat) : Int) from by simp] at g3; exact Int.ofNat_lt.1 g3
        have ez : (some (zz : Int)).getD 0 = (zz : Int) := rfl
        have hpz : 2 ^ zz ≤ 2 ^ 8 := Nat.pow_le_pow_right (by omega) (by omega)
        have hwz : IntKind.i64.wrap ((2 ^ zz : Nat) : Int) = ((2 ^ zz : Nat) : Int) := wr (Int.le_trans (by decide) (Int.natCast_nonneg _)) (by omega)
        refine cbF rfl ?_
        rw [ez]
        intro k hk3
        have bad : (i < 0 ∨ ((2 ^ zz : Nat) : Int) ≤ i) → ∀ w, Own B w0 w (RNodesA b bits H :: BlkA w2.heap.size c.cells :: R) → k true w := fun hb w h => by
          rw [if_pos hb] at hs
          rw [← heq, hs] at hK
          apply hk3
          refine cbT rfl ?_
          exact hK _ h.sub
        have good : ¬ (i < 0 ∨ ((2 ^ zz : Nat) : Int) ≤ i) → ∀ w, Own B w0 w (RNodesA b bits H :: BlkA w2.heap.size c.cells :: R) → k false w := fun hb w h => by
          rw [if_neg hb] at hs
          obtain ⟨ii, rfl⟩ := Int.eq_ofNat_of_zero_le (show 0 ≤ i by omega)
          apply hk3
          refine cbF rfl ?_
          (repeat (first | (refine h.al fun w h => ?_) | (refine h.dr fun w h => ?_) | (refine h.lc_2 rfl ?_) | (refine h.lc_6 rfl ?_) | (refine ⟨_, h.ldc rfl, ?_⟩) | (refine ⟨_, h.ldd rfl, ?_⟩) | (refine h.hd rfl ?_) | (refine ⟨h.ldc rfl, ?_⟩) | (refine ⟨h.ldd rfl, ?_⟩) | (refine h.stLc rfl rfl fun w h => ?_) | (refine exs ?_) | (refine _root_.Go.Vc.a2 ?_) | (refine h.stc rfl rfl fun w h => ?_) | (refine h.std rfl rfl fun w h => ?_)))
          intro l37 hl37
          rw [hcb, show IntKind.i64.wrap ((cb : Int) - 1) = (cb : Int) - 1 from wr (by omega) (by omega)]
          have end_ : ∀ (t : Nat) (A : Int), d + t ≤ 65 → (d + cb ≤ 64 → t = cb ∧ A = ((a * 2 ^ cb + g : Nat) : Int)) → (64 < d + cb → 64 < d + t + zz) → ∀ (k48 : Int → World → Prop),
              (∀ (addr49 : Int) (w50 : World), (bif decide ((IntKind.i64.wrap (((d + t : Nat) : Int) + (zz : Int))) > (64 : Int)) then K 0 0 62 w50
                else Dr w50 fun w51 => ∃ obj52 : Int, w51.cell? ((Addr.mk w2.heap.size 0 none).add 1) = some (.int .i64 obj52) ∧ ∃ a53 : Addr, ws.a = some a53 ∧ 0 ≤ (j : Int) ∧ (j : Int) < (ws.len : Int) ∧
                  ∃ t54 : Int, w51.cell? (a53.add ((j : Int).toNat * 1)) = some (.int .i64 t54) ∧ (C.ref05_Nodes_Get (some (Addr.mk b 0 none)) obj52 t54 (fun r55 r56 r57 r58 r59 r60 r61 w62 =>
                    (StL w62 (Addr.mk w2.heap.size 0 none) 0 [.int .i64 r55, .int .i64 r56, .int .i64 r57, .int .u64 r58, .int .u64 r59, .int .i64 r60] fun w63 =>
                      l addr49 (IntKind.i64.wrap (((d + t : Nat) : Int) + (zz : Int))) (IntKind.i64.wrap ((j : Int) + 1)) w63) ∧ True) w51) ∧ True) → k48 addr49 w50) →
              ∀ w, (Own B w0 w (RNodesA b bits H :: BlkA w2.heap.size c.cells :: R)) → k48 (IntKind.u64.wrap ((IntKind.u64.wrap (A * ((2 ^ zz : Nat) : Int))) + (IntKind.u64.wrap (ii : Int)))) w := by
            intro t A h65 hex hov k48 hk48 w h
            apply hk48
            rw [show IntKind.i64.wrap (((d + t : Nat) : Int) + (zz : Int)) = ((d + t + zz : Nat) : Int) from by rw [wr (by omega) (by omega)]; omega]
            refine cdec (fun e1 => ?_) (fun e1 => ?_)
            · rw [if_pos (by omega)] at hs
              rw [← heq, hs] at hK
              exact hK _ h.sub
            · have hdc : d + cb ≤ 64 := by omega
              obtain ⟨rfl, rfl⟩ := hex hdc
              rw [if_neg (by omega)] at hs
              have h2 : a * 2 ^ t + g < 2 ^ (d + t) := lt_mul_pow (m := 0) ha hgl
              have h3 : (a * 2 ^ t + g) * 2 ^ zz + ii < 2 ^ (d + t + zz) := lt_mul_pow (m := 0) h2 (by omega)
              have h4 : 2 ^ (d + t + zz) ≤ 2 ^ 64 := Nat.pow_le_pow_right (by omega) (by omega)
              have e64 : (2 : Nat) ^ 64 = 18446744073709551616 := by decide
              have hval : (a * 2 ^ t + g) * 2 ^ zz + ii = a * 2 ^ (t + zz) + g * 2 ^ zz + ii := by rw [Nat.add_mul, Nat.mul_assoc, ← Nat.pow_add]
              have hmul : ((a * 2 ^ t + g : Nat) : Int) * ((2 ^ zz : Nat) : Int) = (((a * 2 ^ t + g) * 2 ^ zz : Nat) : Int) := by rw [Int.natCast_mul]
              rw [hmul]
              generalize hq : (a * 2 ^ t + g) * 2 ^ zz = q at *
              rw [show IntKind.u64.wrap (q : Int) = (q : Int) from wru (by omega) (by omega), show IntKind.u64.wrap (ii : Int) = (ii : Int) from wru (by omega) (by omega),
                show IntKind.u64.wrap ((q : Int) + (ii : Int)) = ((q + ii : Nat) : Int) from by rw [wru (by omega) (by omega)]; omega]
              have hrm : Rd intE B w0 (RNodesA b bits H :: BlkA w2.heap.size c.cells :: R) ws way := hr.more
              (repeat (first | (refine h.al fun w h => ?_) | (refine h.dr fun w h => ?_) | (refine h.lc_2 rfl ?_) | (refine h.lc_6 rfl ?_) | (refine ⟨_, h.ldc rfl, ?_⟩) | (refine ⟨_, h.ldd rfl, ?_⟩) | (refine h.hd rfl ?_) | (refine ⟨h.ldc rfl, ?_⟩) | (refine ⟨h.ldd rfl, ?_⟩) | (refine h.stLc rfl rfl fun w h => ?_) | (refine exs ?_) | (refine _root_.Go.Vc.a2 ?_) | (refine h.stc rfl rfl fun w h => ?_) | (refine h.std rfl rfl fun w h => ?_)))
              refine hrm.ix h rfl hx fun a' ha' h0 hc' => ?_
              refine ⟨_, h0 _ rfl, ?_⟩
              (repeat (first | (refine h.al fun w h => ?_) | (refine h.dr fun w h => ?_) | (refine h.lc_2 rfl ?_) | (refine h.lc_6 rfl ?_) | (refine ⟨_, h.ldc rfl, ?_⟩) | (refine ⟨_, h.ldd rfl, ?_⟩) | (refine h.hd rfl ?_) | (refine ⟨h.ldc rfl, ?_⟩) | (refine ⟨h.ldd rfl, ?_⟩) | (refine h.stLc rfl rfl fun w h => ?_) | (refine exs ?_) | (refine _root_.Go.Vc.a2 ?_) | (refine h.stc rfl rfl fun w h => ?_) | (refine h.std rfl rfl fun w h => ?_)))
              refine ref05_Get_spec (s := (c.obj, (ii : Int))) h fun w c' e' hg' hcR' h => ?_
              have hth : thereB bits (c.obj, (ii : Int)) = true := by
                unfold thereB
                simp only [hsz]
                rw [decide_eq_true_iff, Int.toNat_natCast, show ((2 : Int) ^ zz) = ((2 ^ zz : Nat) : Int) from by simp]
                omega
              unfold getN at hg'
              rw [if_neg (by rw [hth]; decide)] at hg'
              cases hg'
              (repeat (first | (refine h.al fun w h => ?_) | (refine h.dr fun w h => ?_) | (refine h.lc_2 rfl ?_) | (refine h.lc_6 rfl ?_) | (refine ⟨_, h.ldc rfl, ?_⟩) | (refine ⟨_, h.ldd rfl, ?_⟩) | (refine h.hd rfl ?_) | (refine ⟨h.ldc rfl, ?_⟩) | (refine ⟨h.ldd rfl, ?_⟩) | (refine h.stLc rfl rfl fun w h => ?_) | (refine exs ?_) | (refine _root_.Go.Vc.a2 ?_) | (refine h.stc rfl rfl fun w h => ?_) | (refine h.std rfl rfl fun w h => ?_)))
              (dsimp only [putAt, List.set_cons_zero, List.set_cons_succ] at h)
              rw [show IntKind.i64.wrap ((j : Int) + 1) = ((j + 1 : Nat) : Int) from by rw [wr (by omega) (by omega)]; omega]
              refine ih (j + 1) _ _ _ _ hj2 (by omega) h3 (by omega) hcR' h.sub (fun _ => ?_) (fun hn => absurd hn hne)
              rw [← heq, hs, hval]; rfl
          have inner : ∀ (m t : Nat) (A : Int), t + m = cb → d + t ≤ 65 → (d + t ≤ 64 → A = ((a * 2 ^ t + g / 2 ^ (cb - t) : Nat) : Int)) → l37 A ((d + t : Nat) : Int) ((cb : Int) - 1 - (t : Int)) w := by
            intro m
            induction m with
            | zero =>
              intro t A ht h65 hA
              obtain rfl : t = cb := by omega
              apply hl37
              intro k42 hk42
              refine cdecF (by omega) ?_
              · apply hk42
                refine cbF rfl ?_
                intro k48 hk48
                have fin := end_ t A h65 (fun hd => ⟨rfl, by have := hA (by omega); rw [this, Nat.sub_self, Nat.pow_zero, Nat.div_one]⟩) (fun hd => by omega) k48 hk48
                have hrm : Rd intE B w0 (RNodesA b bits H :: BlkA w2.heap.size c.cells :: R) ws way := hr.more
                (repeat' (first | exact trivial | (refine ref01_Two_spec (by omega) ?_) | (exact fin _ h) | (refine hrm.ix h rfl hx fun a' ha' h0 hc' => ?_) | (refine ⟨_, h0 _ rfl, ?_⟩) | (refine h.al fun w h => ?_) | (refine h.dr fun w h => ?_) | (refine h.lc_2 rfl ?_) | (refine h.lc_6 rfl ?_) | (refine ⟨_, h.ldc rfl, ?_⟩) | (refine ⟨_, h.ldd rfl, ?_⟩) | (refine h.hd rfl ?_) | (refine ⟨h.ldc rfl, ?_⟩) | (refine ⟨h.ldd rfl, ?_⟩) | (refine h.stLc rfl rfl fun w h => ?_) | (refine exs ?_) | (refine _root_.Go.Vc.a2 ?_) | (refine h.stc rfl rfl fun w h => ?_) | (refine h.std rfl rfl fun w h => ?_) | (refine And.intro ?_ ?_)))
            | succ m ihm =>
              intro t A ht h65 hA
              apply hl37
              intro k42 hk42
              refine cdecT (by omega) ?_
              by_cases h64 : d + t ≤ 64
              · rw [decide_eq_true (by omega)]
                apply hk42
                refine cbT rfl ?_
                (repeat (first | (refine h.al fun w h => ?_) | (refine h.dr fun w h => ?_) | (refine h.lc_2 rfl ?_) | (refine h.lc_6 rfl ?_) | (refine ⟨_, h.ldc rfl, ?_⟩) | (refine ⟨_, h.ldd rfl, ?_⟩) | (refine h.hd rfl ?_) | (refine ⟨h.ldc rfl, ?_⟩) | (refine ⟨h.ldd rfl, ?_⟩) | (refine h.stLc rfl rfl fun w h => ?_) | (refine exs ?_) | (refine _root_.Go.Vc.a2 ?_) | (refine h.stc rfl rfl fun w h => ?_) | (refine h.std rfl rfl fun w h => ?_)))
                rw [hg, show (cb : Int) - 1 - (t : Int) = ((cb - (t + 1) : Nat) : Int) from by omega]
                refine ref01_Bit_spec (by omega) (by omega) ?_
                have hA' := hA h64
                have hstep := div_step g (cb - (t + 1))
                rw [show cb - (t + 1) + 1 = cb - t from by omega] at hstep
                have e1 : IntKind.i64.wrap (((d + t : Nat) : Int) + 1) = ((d + (t + 1) : Nat) : Int) := by rw [wr (by omega) (by omega)]; omega
                have e2 : IntKind.i64.wrap (((cb - (t + 1) : Nat) : Int) - 1) = (cb : Int) - 1 - ((t + 1 : Nat) : Int) := by rw [wr (by omega) (by omega)]; omega
                rw [e1, e2]
                have hlt : g / 2 ^ (cb - t) < 2 ^ t := by
                  rw [Nat.div_lt_iff_lt_mul (Nat.two_pow_pos _), ← Nat.pow_add]
                  rw [show t + (cb - t) = cb from by omega]; exact hgl
                have hv : a * 2 ^ t + g / 2 ^ (cb - t) < 2 ^ (d + t) := lt_mul_pow (m := 0) ha hlt
                have hbit : g / 2 ^ (cb - (t + 1)) % 2 < 2 := Nat.mod_lt _ (by decide)
                have hnext : d + (t + 1) ≤ 64 → 2 * (a * 2 ^ t + g / 2 ^ (cb - t)) + 1 < 2 ^ 64 := fun hd => by
                  have : 2 ^ (d + (t + 1)) ≤ 2 ^ 64 := Nat.pow_le_pow_right (by omega) hd
                  rw [← Nat.add_assoc, Nat.pow_succ] at this
                  omega
                have hval : a * 2 ^ (t + 1) + g / 2 ^ (cb - (t + 1)) = 2 * (a * 2 ^ t + g / 2 ^ (cb - t)) + g / 2 ^ (cb - (t + 1)) % 2 := by
                  rw [Nat.pow_succ, ← Nat.mul_assoc]; omega
                generalize g / 2 ^ (cb - (t + 1)) % 2 = bt at *
                generalize a * 2 ^ t + g / 2 ^ (cb - t) = v at *
                have e64 : (2 : Nat) ^ 64 = 18446744073709551616 := by decide
                refine cdec (fun e => ?_) (fun e => ?_)
                · refine ihm (t + 1) _ (by omega) (by omega) fun hd => ?_
                  have := hnext hd
                  rw [hval, hA', e, show IntKind.u64.wrap (2 * (v : Int)) = ((2 * v : Nat) : Int) from by rw [wru (by omega) (by omega)]; omega,
                    show IntKind.u64.wrap (((2 * v : Nat) : Int) + 1) = ((2 * v + 1 : Nat) : Int) from by rw [wru (by omega) (by omega)]; omega]
                · refine ihm (t + 1) _ (by omega) (by omega) fun hd => ?_
                  have := hnext hd
                  have hb0 : bt = 0 := by omega
                  rw [hval, hA', hb0, show IntKind.u64.wrap (2 * (v : Int)) = ((2 * v : Nat) : Int) from by rw [wru (by omega) (by omega)]; omega, Nat.add_zero]
              · rw [decide_eq_false (by omega)]
                apply hk42
                refine cbF rfl ?_
                intro k48 hk48
                have fin := end_ t A h65 (fun hd => absurd hd (by omega)) (fun hd => by omega) k48 hk48
                have hrm : Rd intE B w0 (RNodesA b bits H :: BlkA w2.heap.size c.cells :: R) ws way := hr.more
                (repeat' (first | exact trivial | (refine ref01_Two_spec (by omega) ?_) | (exact fin _ h) | (refine hrm.ix h rfl hx fun a' ha' h0 hc' => ?_) | (refine ⟨_, h0 _ rfl, ?_⟩) | (refine h.al fun w h => ?_) | (refine h.dr fun w h => ?_) | (refine h.lc_2 rfl ?_) | (refine h.lc_6 rfl ?_) | (refine ⟨_, h.ldc rfl, ?_⟩) | (refine ⟨_, h.ldd rfl, ?_⟩) | (refine h.hd rfl ?_) | (refine ⟨h.ldc rfl, ?_⟩) | (refine ⟨h.ldd rfl, ?_⟩) | (refine h.stLc rfl rfl fun w h => ?_) | (refine exs ?_) | (refine _root_.Go.Vc.a2 ?_) | (refine h.stc rfl rfl fun w h => ?_) | (refine h.std rfl rfl fun w h => ?_) | (refine And.intro ?_ ?_)))
          have hin := inner cb 0 (a : Int) (by omega) (by omega) (fun _ => by rw [Nat.pow_zero, Nat.mul_one, Nat.sub_zero, Nat.div_eq_of_lt hgl, Nat.add_zero])
          rw [Nat.add_zero, show (cb : Int) - 1 - ((0 : Nat) : Int) = (cb : Int) - 1 from by omega] at hin
          exact hin
        have kd : ∀ w, Own B w0 w (RNodesA b bits H :: BlkA w2.heap.size c.cells :: R) → ¬ i < 0 → k (decide (i ≥ IntKind.i64.wrap ((2 ^ zz : Nat) : Int))) w := fun w h hi => by
          rw [hwz]
          by_cases e : ((2 ^ zz : Nat) : Int) ≤ i
          · rw [decide_eq_true e]; exact bad (.inr e) _ h
          · rw [decide_eq_false e]; exact good (by omega) _ h
        have hrm : Rd intE B w0 (RNodesA b bits H :: BlkA w2.heap.size c.cells :: R) ws way := hr.more
        (repeat (first | (refine h.al fun w h => ?_) | (refine h.dr fun w h => ?_) | (refine h.lc_2 rfl ?_) | (refine h.lc_6 rfl ?_) | (refine ⟨_, h.ldc rfl, ?_⟩) | (refine ⟨_, h.ldd rfl, ?_⟩) | (refine h.hd rfl ?_) | (refine ⟨h.ldc rfl, ?_⟩) | (refine ⟨h.ldd rfl, ?_⟩) | (refine h.stLc rfl rfl fun w h => ?_) | (refine exs ?_) | (refine _root_.Go.Vc.a2 ?_) | (refine h.stc rfl rfl fun w h => ?_) | (refine h.std rfl rfl fun w h => ?_)))
        refine hrm.ix h rfl hx fun a' ha' h0 hc' => ?_
        refine ⟨_, h0 _ rfl, ?_⟩
        refine cdec (fun e => ?_) (fun e => ?_)
        · have := bad (.inl e) _ h
          (repeat' (first | exact trivial | (exact this) | (refine h.al fun w h => ?_) | (refine h.dr fun w h => ?_) | (refine h.lc_2 rfl ?_) | (refine h.lc_6 rfl ?_) | (refine ⟨_, h.ldc rfl, ?_⟩) | (refine ⟨_, h.ldd rfl, ?_⟩) | (refine h.hd rfl ?_) | (refine ⟨h.ldc rfl, ?_⟩) | (refine ⟨h.ldd rfl, ?_⟩) | (refine h.stLc rfl rfl fun w h => ?_) | (refine exs ?_) | (refine _root_.Go.Vc.a2 ?_) | (refine h.stc rfl rfl fun w h => ?_) | (refine h.std rfl rfl fun w h => ?_) | (refine And.intro ?_ ?_)))
        · (repeat' (first | exact trivial | (refine ref01_Two_spec (by omega) ?_) | (exact kd _ h e) | (refine hrm.ix h rfl hx fun a' ha' h0 hc' => ?_) | (refine ⟨_, h0 _ rfl, ?_⟩) | (refine h.al fun w h => ?_) | (refine h.dr fun w h => ?_) | (refine h.lc_2 rfl ?_) | (refine h.lc_6 rfl ?_) | (refine ⟨_, h.ldc rfl, ?_⟩) | (refine ⟨_, h.ldd rfl, ?_⟩) | (refine h.hd rfl ?_) | (refine ⟨h.ldc rfl, ?_⟩) | (refine ⟨h.ldd rfl, ?_⟩) | (refine h.stLc rfl rfl fun w h => ?_) | (refine exs ?_) | (refine _root_.Go.Vc.a2 ?_) | (refine h.stc rfl rfl fun w h => ?_) | (refine h.std rfl rfl fun w h => ?_) | (refine And.intro ?_ ?_)))
  exact loop way 0 0 0 root _ rfl (by omega) (by simp) (by omega) hc h.sub (fun _ => rfl) (fun _ => ⟨rfl, rfl⟩)
end
end Go.Proofs.Ytdlcejjiccknlaa
