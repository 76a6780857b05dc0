/- Addresses, more: what is in a slot; the address of a way. -/
import Derived.Test.YtdlcejjiccknlaaLK3
import Derived.Test.YtdlcejjiccknlaaS2
set_option linter.unusedVariables false
set_option linter.unusedSimpArgs false
set_option maxRecDepth 8000
namespace Go.Proofs.Ytdlcejjiccknlaa
open Go Go.Vc Go.Proofs

def getN (bits : List Int) (H : Hs) (s : Slot) : Cap × Int := if thereB bits s = false then (zeroCap, 50) else ((H s).getD zeroCap, 0)
def capT (bits : List Int) (H : Hs) (root : Cap) (addr : Nat) (depth : Int) : Cap × Int :=
  if (slotT bits H root addr depth).2 ≠ 0 then (zeroCap, (slotT bits H root addr depth).2) else getN bits H (slotT bits H root addr depth).1
def wayN (bits : List Int) (H : Hs) : List Int → Cap → Nat → Nat → Nat × Nat × Int
  | [], _, a, d => (a, d, 0)
  | i :: way, c, a, d => match nodeN bits c with
    | none => (0, 0, 60)
    | some z => if i < 0 ∨ 2 ^ z.toNat ≤ i then (0, 0, 50) else if 64 < d + c.bits.toNat + z.toNat then (0, 0, 62)
      else wayN bits H way ((H (c.obj, i)).getD zeroCap) (a * 2 ^ (c.bits.toNat + z.toNat) + c.guard.toNat * 2 ^ z.toNat + i.toNat) (d + c.bits.toNat + z.toNat)
def wayT (bits : List Int) (H : Hs) (root : Cap) (way : List Int) : Nat × Nat × Int := if way = [] then (0, 0, 1) else wayN bits H way root 0 0

theorem lt_mul_pow {a d k g m : Nat} (ha : a < 2 ^ d) (hg : g < 2 ^ k) : a * 2 ^ k + g < 2 ^ (d + k) := by
  rw [Nat.pow_add]
  have : (a + 1) * 2 ^ k ≤ 2 ^ d * 2 ^ k := Nat.mul_le_mul_right _ ha
  rw [Nat.succ_mul] at this
  omega
theorem shl_u {a k d : Nat} (ha : a < 2 ^ d) (hd : d + k ≤ 64) : shlI .u64 (a : Int) (k : Int) = ((a * 2 ^ k : Nat) : Int) := by
  unfold shlI
  rw [Int.toNat_natCast, show IntKind.u64.bits = 64 from rfl, Nat.min_eq_left (by omega), show ((2 : Int) ^ k) = ((2 ^ k : Nat) : Int) from by simp, ← Int.natCast_mul, wrap_u64, Nat.mod_eq_of_lt]
  have := lt_mul_pow (m := 0) ha (Nat.two_pow_pos k)
  have h2 : 2 ^ (d + k) ≤ 2 ^ 64 := Nat.pow_le_pow_right (by omega) hd
  omega
theorem or_u (x y : Nat) (hx : x < 2 ^ 64) (hy : y < 2 ^ 64) : orI .u64 (x : Int) (y : Int) = ((x ||| y : Nat) : Int) := by
  unfold orI
  rw [bv_of, bv_of]
  have : (BitVec.ofNat 64 x ||| BitVec.ofNat 64 y).toNat = x ||| y := by rw [BitVec.toNat_or, BitVec.toNat_ofNat, BitVec.toNat_ofNat, Nat.mod_eq_of_lt hx, Nat.mod_eq_of_lt hy]
  show IntKind.u64.wrap (((BitVec.ofNat 64 x ||| BitVec.ofNat 64 y).toNat : Nat) : Int) = _
  rw [this, wrap_u64, Nat.mod_eq_of_lt (Nat.or_lt_two_pow hx hy)]
theorem or_add {x y k : Nat} (hy : y < 2 ^ k) : x * 2 ^ k ||| y = x * 2 ^ k + y := by
  rw [← Nat.shiftLeft_eq, Nat.shiftLeft_add_eq_or_of_lt hy]
theorem way_val {a d cb z g i : Nat} (ha : a < 2 ^ d) (hg : g < 2 ^ cb) (hi : i < 2 ^ z) (hd : d + cb + z ≤ 64) :
    orI .u64 (orI .u64 (shlI .u64 (a : Int) ((cb + z : Nat) : Int)) (shlI .u64 (g : Int) (z : Int))) (IntKind.u64.wrap (i : Int)) = ((a * 2 ^ (cb + z) + g * 2 ^ z + i : Nat) : Int) := by
  have h0 : ∀ {x n : Nat}, x < 2 ^ n → n ≤ 64 → x < 2 ^ 64 := fun hx hn => Nat.lt_of_lt_of_le hx (Nat.pow_le_pow_right (by omega) hn)
  have h1 : a * 2 ^ (cb + z) < 2 ^ 64 := h0 (n := d + (cb + z)) (by have := lt_mul_pow (m := 0) ha (Nat.two_pow_pos (cb + z)); omega) (by omega)
  have h2 : g * 2 ^ z < 2 ^ (cb + z) := by have := lt_mul_pow (m := 0) hg (Nat.two_pow_pos z); omega
  rw [shl_u ha (by omega), shl_u hg (by omega), or_u _ _ h1 (h0 h2 (by omega)), wrap_u64, Nat.mod_eq_of_lt (h0 hi (by omega))]
  rw [or_add h2]
  have h3 : a * 2 ^ (cb + z) + g * 2 ^ z < 2 ^ 64 := h0 (n := d + (cb + z)) (lt_mul_pow (m := 0) ha h2) (by omega)
  rw [or_u _ _ h3 (h0 hi (by omega))]
  have h4 : a * 2 ^ (cb + z) + g * 2 ^ z = (a * 2 ^ cb + g) * 2 ^ z := by rw [Nat.pow_add, Nat.add_mul, Nat.mul_assoc]
  rw [h4, or_add hi]

section
variable {B : Nat} {w0 w : World} {R L : List Asn} {b rb : Nat} {bits : List Int} {H : Hs}
theorem slots_Get_n {s : Slot} {K : Int → Int → Int → Int → Int → Int → Int → World → Prop} (h : Own B w0 w L) (i : Nat) (hi : L[i]? = some (NodesA b bits H))
    (hK : ∀ w' c e, (c, e) = getN bits H s → CapR c → Own B w0 w' L → K c.kind c.obj c.rights c.badge c.guard c.bits e w') : C.slots_Nodes_Get (some ⟨b, 0, none⟩) s.1 s.2 K w := by
  have hk := (h.take i hi).nok
  refine slots_Nodes_Get_spec h i hi (fun hn w h => ?_) (fun ht w c hc h => ?_)
  · exact hK w zeroCap 50 (by unfold getN; rw [if_pos hn]) ⟨by decide, by decide, by decide, by decide⟩ h
  · exact hK w c 0 (by unfold getN; rw [if_neg (by rw [ht]; decide), hc]) (by rw [hc]; exact hk.capR s) h
theorem lookup_Cap_spec {addr : Nat} {depth : Int} {root : Cap} {K : Int → Int → Int → Int → Int → Int → Int → World → Prop} (hc : CapR root) (ha : addr < 2 ^ 64) (h : Own B w0 w (NodesA b bits H :: R))
    (hK : ∀ w' c e, (c, e) = capT bits H root addr depth → CapR c → Own B w0 w' (NodesA b bits H :: R) → K c.kind c.obj c.rights c.badge c.guard c.bits e w') :
    C.lookup_Cap (some ⟨b, 0, none⟩) root.kind root.obj root.rights root.badge root.guard root.bits (addr : Int) depth K w := by
  apply S.lookup_Cap_ok
  unfold S.lookup_Cap
  (repeat (first | (refine h.al fun w h => ?_) | (refine h.dr fun w h => ?_) | (refine h.lc_2 rfl ?_) | (refine h.lc_6 rfl ?_) | (refine ⟨_, h.ldc rfl, ?_⟩) | (refine ⟨_, h.ldd rfl, ?_⟩) | (refine h.hd rfl ?_) | (refine ⟨h.ldc rfl, ?_⟩) | (refine ⟨h.ldd rfl, ?_⟩) | (refine h.stLc rfl rfl fun w h => ?_) | (refine exs ?_) | (refine _root_.Go.Vc.a2 ?_) | (refine h.stc rfl rfl fun w h => ?_) | (refine h.std rfl rfl fun w h => ?_)))
  refine lookup_Slot_spec hc ha h.up2 fun w h => ?_
  unfold capT at hK
  generalize slotT bits H root addr depth = st at h hK ⊢
  obtain ⟨s, e⟩ := st
  simp only at hK ⊢
  (repeat (first | (refine h.al fun w h => ?_) | (refine h.dr fun w h => ?_) | (refine h.lc_2 rfl ?_) | (refine h.lc_6 rfl ?_) | (refine ⟨_, h.ldc rfl, ?_⟩) | (refine ⟨_, h.ldd rfl, ?_⟩) | (refine h.hd rfl ?_) | (refine ⟨h.ldc rfl, ?_⟩) | (refine ⟨h.ldd rfl, ?_⟩) | (refine h.stLc rfl rfl fun w h => ?_) | (refine exs ?_) | (refine _root_.Go.Vc.a2 ?_) | (refine h.stc rfl rfl fun w h => ?_) | (refine h.std rfl rfl fun w h => ?_)))
  refine cne (fun he => ?_) (fun he => ?_)
  · (repeat (first | (refine h.al fun w h => ?_) | (refine h.dr fun w h => ?_) | (refine h.lc_2 rfl ?_) | (refine h.lc_6 rfl ?_) | (refine ⟨_, h.ldc rfl, ?_⟩) | (refine ⟨_, h.ldd rfl, ?_⟩) | (refine h.hd rfl ?_) | (refine ⟨h.ldc rfl, ?_⟩) | (refine ⟨h.ldd rfl, ?_⟩) | (refine h.stLc rfl rfl fun w h => ?_) | (refine exs ?_) | (refine _root_.Go.Vc.a2 ?_) | (refine h.stc rfl rfl fun w h => ?_) | (refine h.std rfl rfl fun w h => ?_)))
    exact hK _ zeroCap e (by rw [if_pos he]) ⟨by decide, by decide, by decide, by decide⟩ h.sub
  · rw [if_neg (by omega)] at hK
    (repeat (first | (refine h.al fun w h => ?_) | (refine h.dr fun w h => ?_) | (refine h.lc_2 rfl ?_) | (refine h.lc_6 rfl ?_) | (refine ⟨_, h.ldc rfl, ?_⟩) | (refine ⟨_, h.ldd rfl, ?_⟩) | (refine h.hd rfl ?_) | (refine ⟨h.ldc rfl, ?_⟩) | (refine ⟨h.ldd rfl, ?_⟩) | (refine h.stLc rfl rfl fun w h => ?_) | (refine exs ?_) | (refine _root_.Go.Vc.a2 ?_) | (refine h.stc rfl rfl fun w h => ?_) | (refine h.std rfl rfl fun w h => ?_)))
    refine slots_Get_n (s := s) h 1 rfl fun w c e hg hcR h => ?_
    (repeat (first | (refine h.al fun w h => ?_) | (refine h.dr fun w h => ?_) | (refine h.lc_2 rfl ?_) | (refine h.lc_6 rfl ?_) | (refine ⟨_, h.ldc rfl, ?_⟩) | (refine ⟨_, h.ldd rfl, ?_⟩) | (refine h.hd rfl ?_) | (refine ⟨h.ldc rfl, ?_⟩) | (refine ⟨h.ldd rfl, ?_⟩) | (refine h.stLc rfl rfl fun w h => ?_) | (refine exs ?_) | (refine _root_.Go.Vc.a2 ?_) | (refine h.stc rfl rfl fun w h => ?_) | (refine h.std rfl rfl fun w h => ?_)))
    exact hK _ c e hg hcR h.sub

theorem lookup_Address_spec {root : Cap} {way : List Int} {ws : Sl} {K : Int → Int → Int → World → Prop} (hc : CapR root) (hr : Rd intE B w0 (NodesA b bits H :: R) ws way) (hlen : way.length ≤ 1000) (h : Own B w0 w (NodesA b bits H :: R))
    (hK : ∀ w', Own B w0 w' (NodesA b bits H :: R) → K ((wayT bits H root way).1 : Int) ((wayT bits H root way).2.1 : Int) (wayT bits H root way).2.2 w') :
    C.lookup_Address (some ⟨b, 0, none⟩) root.kind root.obj root.rights root.badge root.guard root.bits ws K w := by
  apply S.lookup_Address_ok
  unfold S.lookup_Address
  have hk := h.nok
  have hwl := hr.len
  have hget : ∀ w', Own B w0 w' (NodesA b bits H :: R) → ∀ (j : Nat) (x : Int), way[j]? = some x → ∃ a, ws.a = some a ∧ w'.cell? (a.add (j * 1)) = some (.int .i64 x) := fun w' h j x hx => by
    obtain ⟨a, ha, h0, _⟩ := hr.got w' h j j x rfl hx
    exact ⟨a, ha, h0 _ rfl⟩
  refine h.al fun w1 h => ?_
  refine ceq (fun e => ?_) (fun e => ?_)
  · have hw : way = [] := List.eq_nil_of_length_eq_zero (by omega)
    have hs : wayT bits H root way = (0, 0, 1) := by unfold wayT; rw [if_pos hw]
    rw [hs] at hK
    exact hK _ h.sub
  have hs : wayT bits H root way = wayN bits H way root 0 0 := by
    unfold wayT; rw [if_neg]; intro hn; subst hn; exact e (by simp at hwl; omega)
  rw [hs] at hK
  refine h.dr fun w2 h => ?_
  refine h.lc_6 rfl ?_
  refine a2 ?_
  refine h.al fun w3 h => ?_
  refine a2 ?_
  (repeat (first | (refine h.al fun w h => ?_) | (refine h.dr fun w h => ?_) | (refine h.lc_2 rfl ?_) | (refine h.lc_6 rfl ?_) | (refine ⟨_, h.ldc rfl, ?_⟩) | (refine ⟨_, h.ldd rfl, ?_⟩) | (refine h.hd rfl ?_) | (refine ⟨h.ldc rfl, ?_⟩) | (refine ⟨h.ldd rfl, ?_⟩) | (refine h.stLc rfl rfl fun w h => ?_) | (refine exs ?_) | (refine _root_.Go.Vc.a2 ?_) | (refine h.stc rfl rfl fun w h => ?_) | (refine h.std rfl rfl fun w h => ?_)))
  (dsimp only [putAt, List.set_cons_zero, List.set_cons_succ] at h)
  intro l hl
  have loop : ∀ (rest : List Int) (j a d : Nat) (c : Cap) (w' : World), way.drop j = rest → j ≤ way.length → a < 2 ^ d → d ≤ 64 → CapR c →
      Own B w0 w' (NodesA b bits H :: BlkA w2.heap.size c.cells :: R) → wayN bits H rest c a d = wayN bits H way root 0 0 → l (a : Int) (d : Int) (j : Int) w' := by
    intro rest
    induction rest with
    | nil =>
      intro j a d c w' hj hjl ha hd hcR h heq
      have : way.length ≤ j := by have := congrArg List.length hj; simp at this; omega
      apply hl
      refine cdecF (by omega) ?_
      rw [← heq] at hK
      exact hK _ h.sub
    | cons i rest ih =>
      intro j a d c w' hj hjl ha hd hcR h heq
      have hjl2 : j < way.length := by have := congrArg List.length hj; simp at this; omega
      have hx : way[j]? = some i := by
        have := congrArg (fun l => l[0]?) hj
        simpa using this
      have hj2 : way.drop (j + 1) = rest := by rw [← List.drop_drop, hj]; rfl
      apply hl
      refine cdecT (by omega) ?_
      obtain ⟨ad, had, hcell⟩ := hget w' h.sub j i hx
      refine ⟨ad, had, by omega, by omega, i, hcell, ?_⟩
      refine h.lc_6 rfl ?_
      refine lookup_node_spec hcR h 0 rfl fun w h => ?_
      cases hn : nodeN bits c with
      | none =>
        have hs : wayN bits H (i :: rest) c a d = (0, 0, 60) := by rw [wayN, hn]
        rw [← heq, hs] at hK
        refine cbT rfl ?_
        exact hK _ h.sub
      | some z =>
        obtain ⟨hk2, he, hz⟩ := nodeN_some hn
        obtain ⟨g1, g2, g3⟩ := node_guard hk2 he
        obtain ⟨z1, z2⟩ := sizeN_rng hk hz
        have hsz := hz
        obtain ⟨cb, hcb⟩ := Int.eq_ofNat_of_zero_le g1
        obtain ⟨zz, rfl⟩ := Int.eq_ofNat_of_zero_le (show 0 ≤ z by omega)
        obtain ⟨g, hg⟩ := Int.eq_ofNat_of_zero_le hcR.g0
        have hgo : c.bits.toNat = cb := by omega
        have hgg : c.guard.toNat = g := by omega
        have hs := wayN.eq_2 bits H c a d i rest
        rw [hn] at hs
        simp only [hgo, hgg, Int.toNat_natCast] at hs
        rw [show ((2 : Int) ^ zz) = ((2 ^ zz : Nat) : Int) from by simp] at hs
        have hgl : g < 2 ^ cb := by rw [hgo, hg, show ((2 : Int) ^ cb) = ((2 ^ cb : Nat) : Int) from by simp] at g3; exact Int.ofNat_lt.1 g3
        refine cbF rfl ?_
        intro k hk3
        have bad : (i < 0 ∨ ((2 ^ zz : Nat) : Int) ≤ i) → k true w := fun hb => by
          rw [if_pos hb] at hs
          rw [← heq, hs] at hK
          apply hk3
          refine cbT rfl ?_
          exact hK _ h.sub
        refine cdec (fun e1 => bad (.inl e1)) (fun e1 => ⟨?_, ?_⟩)
        · show (0 : Int) ≤ (zz : Int); omega
        have e0 : (some (zz : Int)).getD 0 = (zz : Int) := rfl
        rw [e0, shl_two zz (by omega)]
        by_cases e2 : ((2 ^ zz : Nat) : Int) ≤ i
        · rw [decide_eq_true e2]; exact bad (.inr e2)
        rw [decide_eq_false (by exact e2)]
        rw [if_neg (by omega)] at hs
        apply hk3
        refine cbF rfl ?_
        refine ⟨_, h.ldd rfl, ?_⟩
        rw [e0, hcb, show IntKind.i64.wrap ((d : Int) + (cb : Int)) = ((d + cb : Nat) : Int) from by rw [wr (by omega) (by omega)]; omega,
          show IntKind.i64.wrap (((d + cb : Nat) : Int) + (zz : Int)) = ((d + cb + zz : Nat) : Int) from by rw [wr (by omega) (by omega)]; omega]
        refine cdec (fun e3 => ?_) (fun e3 => ?_)
        · rw [if_pos (by omega)] at hs
          rw [← heq, hs] at hK
          exact hK _ h.sub
        rw [if_neg (by omega)] at hs
        refine ⟨_, h.ldd rfl, ?_⟩
        refine h.dr fun w h => ?_
        refine ⟨_, h.ldd rfl, ?_⟩
        rw [hcb, show IntKind.i64.wrap ((cb : Int) + (zz : Int)) = ((cb + zz : Nat) : Int) from by rw [wr (by omega) (by omega)]; omega]
        refine ⟨by omega, _, h.ldd rfl, by omega, _, h.ldd rfl, ?_⟩
        obtain ⟨ii, rfl⟩ := Int.eq_ofNat_of_zero_le (show 0 ≤ i by omega)
        refine slots_Get_n (s := (c.obj, (ii : Int))) h 0 rfl fun w c' e' hg' hcR' h => ?_
        have hth : thereB bits (c.obj, (ii : Int)) = true := by
          unfold thereB
          simp only [hsz]
          rw [decide_eq_true_iff, Int.toNat_natCast, show ((2 : Int) ^ zz) = ((2 ^ zz : Nat) : Int) from by simp]
          omega
        unfold getN at hg'
        rw [if_neg (by rw [hth]; decide)] at hg'
        cases hg'
        (repeat (first | (refine h.al fun w h => ?_) | (refine h.dr fun w h => ?_) | (refine h.lc_2 rfl ?_) | (refine h.lc_6 rfl ?_) | (refine ⟨_, h.ldc rfl, ?_⟩) | (refine ⟨_, h.ldd rfl, ?_⟩) | (refine h.hd rfl ?_) | (refine ⟨h.ldc rfl, ?_⟩) | (refine ⟨h.ldd rfl, ?_⟩) | (refine h.stLc rfl rfl fun w h => ?_) | (refine exs ?_) | (refine _root_.Go.Vc.a2 ?_) | (refine h.stc rfl rfl fun w h => ?_) | (refine h.std rfl rfl fun w h => ?_)))
        (dsimp only [putAt, List.set_cons_zero, List.set_cons_succ] at h)
        rw [hg, way_val ha hgl (by omega) (by omega), show IntKind.i64.wrap ((d : Int) + ((cb + zz : Nat) : Int)) = ((d + cb + zz : Nat) : Int) from by rw [wr (by omega) (by omega)]; omega,
          show IntKind.i64.wrap ((j : Int) + 1) = ((j + 1 : Nat) : Int) from by rw [wr (by omega) (by omega)]; omega]
        refine ih (j + 1) _ _ _ _ hj2 (by omega) ?_ (by omega) hcR' h.sub ?_
        · have h2 : g * 2 ^ zz + ii < 2 ^ (cb + zz) := lt_mul_pow (m := 0) hgl (by omega)
          have := lt_mul_pow (m := 0) ha h2
          rw [← Nat.add_assoc, ← Nat.add_assoc] at this
          exact this
        · rw [← heq, hs]; rfl
  exact loop way 0 0 0 root _ rfl (by omega) (by simp) (by omega) hc h.sub rfl
end
end Go.Proofs.Ytdlcejjiccknlaa
