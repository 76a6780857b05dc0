/- What the row rests on: the declarations that it needs, out of my texts (part 3). -/
import Derived.Test.YtogmbmdbgkopjaaGreatZs2
set_option linter.unusedVariables false
set_option linter.unusedSimpArgs false
set_option linter.unusedSectionVars false
section
set_option maxRecDepth 8000
namespace Go.Proofs.YtogmbmdbgkopjaaGreat.Sl
open Go Go.Vc Go.Proofs
structure Cap where
 kind:Int
 obj:Int
 rights:Int
 badge:Int
 guard:Int
 bits:Int
deriving DecidableEq
abbrev Cap.cells (c:Cap):List Value:=[.int .i64 c.kind, .int .i64 c.obj, .int .i64 c.rights, .int .u64 c.badge, .int .u64 c.guard, .int .i64 c.bits]
def encCap (c:Cap):Value:= .agg ⟨c.cells⟩
def zeroCap:Cap:=⟨0,0,0,0,0,0⟩
structure CapR (c:Cap):Prop where
 b0:0≤c.badge
 b1:c.badge<18446744073709551616
 g0:0≤c.guard
 g1:c.guard<18446744073709551616
def guardB (g bits:Int):Bool:=decide (0≤bits/\bits≤64/\g<2^bits.toNat)
def limitedB (k:Int):Bool:=k==4||k==5||k==6
def badgedB (k:Int):Bool:=k==4||k==5
def capBad (c:Cap):Bool:=
 !(decide (0<c.kind)&&decide (c.kind<10)&&decide (0≤c.obj)&&decide (c.obj<2147483648)&&(decide (0≤c.rights)&&decide (c.rights≤7))&&guardB c.guard c.bits)
  ||(!limitedB c.kind&&c.rights !=7)||(c.badge !=0&& !badgedB c.kind)||(c.bits !=0&&c.kind !=2)
def capErr (c:Cap):Int:=if c=zeroCap then 0 else if capBad c then 40 else 0
theorem wrap_u64 (z:Nat):IntKind.u64.wrap (z:Int)=((z%2^64:Nat):Int):=by
 have e1:(2:Int)^64=18446744073709551616:=by decide
 have e2:(2:Nat)^64=18446744073709551616:=by decide
 simp only[IntKind.wrap,IntKind.bits,IntKind.signed,e1,e2,Bool.false_and,Bool.false_eq_true,if_false];omega
theorem low_val (n:Nat) (hn:n≤64):IntKind.u64.wrap (shlI .u64 1 (n:Int)-1)=((2^n-1:Nat):Int):=by
 have e2:(2:Nat)^64=18446744073709551616:=by decide
 have hp:0<2^n:=Nat.two_pow_pos n;unfold shlI;rw[Int.toNat_natCast,show IntKind.u64.bits=64 from rfl,Nat.min_eq_left hn,Int.one_mul,show ((2:Int)^n)=((2^n:Nat):Int) from by simp,wrap_u64];by_cases e:n=64
 ·subst e
  rw[e2];rfl
 ·have hlt:2^n<2^64:=Nat.pow_lt_pow_right (by omega) (by omega)
  rw[Nat.mod_eq_of_lt hlt,show (((2^n:Nat):Int)-1)=((2^n-1:Nat):Int) from by omega,wrap_u64,Nat.mod_eq_of_lt (by omega)]
theorem bv_of (z:Nat):BitVec.ofInt IntKind.u64.bits (z:Int)=BitVec.ofNat 64 z:=by
 apply BitVec.eq_of_toNat_eq;simp[IntKind.bits,BitVec.toNat_ofInt]
theorem and_low (v n:Nat) (hv:v<2^64) (hn:n≤64):andI .u64 (v:Int) ((2^n-1:Nat):Int)=((v%2^n:Nat):Int):=by
 have hp:0<2^n:=Nat.two_pow_pos n;have hle:2^n≤2^64:=Nat.pow_le_pow_right (by omega) hn;unfold andI;rw[bv_of,bv_of]
 have h1:(BitVec.ofNat 64 v &&& BitVec.ofNat 64 (2^n-1)).toNat=v%2^n:=by
  rw[BitVec.toNat_and,BitVec.toNat_ofNat,BitVec.toNat_ofNat,Nat.mod_eq_of_lt hv,Nat.mod_eq_of_lt (by omega),Nat.and_two_pow_sub_one_eq_mod]
 show IntKind.u64.wrap (((BitVec.ofNat 64 v &&& BitVec.ofNat 64 (2^n-1)).toNat:Nat):Int)=_;rw[h1,wrap_u64,Nat.mod_eq_of_lt (Nat.lt_of_le_of_lt (Nat.mod_le _ _) hv)]
theorem andNot_low (v n:Nat) (hv:v<2^64) (hn:n≤64):(andNotI .u64 (v:Int) ((2^n-1:Nat):Int)==0)=decide (v<2^n):=by
 have hp:0<2^n:=Nat.two_pow_pos n;have hle:2^n≤2^64:=Nat.pow_le_pow_right (by omega) hn;unfold andNotI;rw[bv_of,bv_of];have hgl:∀(z j:Nat),j<64->(BitVec.ofNat 64 z).getLsbD j=z.testBit j:=fun z j hj=>by rw[BitVec.getLsbD_ofNat];simp[hj]
 have hbit:∀j,j<64->(BitVec.ofNat 64 v &&& ~~~ BitVec.ofNat 64 (2^n-1)).toNat.testBit j=(v.testBit j&& !decide (j<n)):=fun j hj=>by
  rw[BitVec.testBit_toNat,BitVec.getLsbD_and,BitVec.getLsbD_not,hgl _ _ hj,hgl _ _ hj,Nat.testBit_two_pow_sub_one];simp[hj]
 have hlt:=(BitVec.ofNat 64 v &&& ~~~ BitVec.ofNat 64 (2^n-1)).isLt;show (IntKind.u64.wrap (((BitVec.ofNat 64 v &&& ~~~ BitVec.ofNat 64 (2^n-1)).toNat:Nat):Int)==0)=_;generalize hz:(BitVec.ofNat 64 v &&& ~~~ BitVec.ofNat 64 (2^n-1)).toNat=z at hbit hlt;rw[wrap_u64,Nat.mod_eq_of_lt hlt];rw[Bool.eq_iff_iff];simp only[beq_iff_eq,decide_eq_true_eq];constructor
 ·intro h0
  have h0:z=0:=by omega
  subst h0;refine Nat.lt_pow_two_of_testBit v fun i hi=>?_
  by_cases h64:i<64
  ·have:=hbit i h64
   rw[Nat.zero_testBit] at this;simp only[show ¬i<n from by omega,decide_false,Bool.not_false,Bool.and_true] at this;exact this.symm
  ·exact Nat.testBit_lt_two_pow (Nat.lt_of_lt_of_le hv (Nat.pow_le_pow_right (by omega) (by omega)))
 ·intro hvn
  have:z=0:=by
   apply Nat.eq_of_testBit_eq;intro i;rw[Nat.zero_testBit];by_cases h64:i<64
   ·rw[hbit i h64]
    by_cases hin:i<n
    ·simp[hin]
    ·rw[Nat.testBit_lt_two_pow (Nat.lt_of_lt_of_le hvn (Nat.pow_le_pow_right (by omega) (by omega)))];rfl
   ·exact Nat.testBit_lt_two_pow (Nat.lt_of_lt_of_le hlt (Nat.pow_le_pow_right (by omega) (by omega)))
  omega
theorem shr_nat (x k:Nat) (hk:k≤64):shrI .u64 (x:Int) (k:Int)=((x / 2^k:Nat):Int):=by
 unfold shrI;rw[Int.toNat_natCast,show IntKind.u64.bits=64 from rfl,Nat.min_eq_left hk];rw[show ((2:Int)^k)=((2^k:Nat):Int) from by simp];rw[Int.fdiv_eq_ediv_of_nonneg _ (Int.natCast_nonneg _)];simp
section
variable {B:Nat} {w0 w:World} {R:List Asn}
theorem words_low_spec {n:Nat} {K:Int->World->Prop} (hn:n≤64) (h:K ((2^n-1:Nat):Int) w):C.qbV (n:Int) K w:=by
 apply S.qbV0;unfold S.qbV;rw[low_val n hn];exact ⟨by omega,h⟩
theorem words_Mask_spec {n:Int} {K:Int->Int->World->Prop} (h1:¬(0≤n/\n≤64)->K 0 1 w) (h2:∀k:Nat,n=(k:Int)->k≤64->K ((2^k-1:Nat):Int) 0 w):C.qcE n K w:=by
 apply S.qcE0;unfold S.qcE;intro k2 hk2;by_cases e:n<0
 ·rw[show decide (n<0)=true from by simpa using e,cond_true]
  apply hk2;rw[cond_true];exact h1 (by omega)
 ·rw[show decide (n<0)=false from by simpa using e,cond_false]
  apply hk2;by_cases e2:n>64
  ·rw[show decide (n>64)=true from by simpa using e2,cond_true];exact h1 (by omega)
  ·rw[show decide (n>64)=false from by simpa using e2,cond_false]
   obtain ⟨k,rfl⟩:=Int.eq_ofNat_of_zero_le (by omega:0≤n);exact words_low_spec (by omega) (h2 k rfl (by omega))
theorem caps_guard_spec {g bits:Int} {K:Bool->World->Prop} (h0:0≤g) (h1:g<18446744073709551616) (h:K (guardB g bits) w):C.qcC g bits K w:=by
 apply S.qcC0;unfold S.qcC;have e2:(2:Nat)^64=18446744073709551616:=by decide
 refine words_Mask_spec (fun hn=>?_) (fun k hk hk2=>?_)
 ·rw[show ((1:Int)==0)=false from rfl,cond_false]
  have:guardB g bits=false:=by unfold guardB;rw[decide_eq_false];rintro ⟨h1,h2,_⟩;exact hn ⟨h1,h2⟩
  rw[this] at h;exact h
 ·subst hk
  rw[show ((0:Int)==0)=true from rfl,cond_true];obtain ⟨v,rfl⟩:=Int.eq_ofNat_of_zero_le h0;rw[andNot_low v k (by omega) hk2]
  have:guardB (v:Int) (k:Int)=decide (v<2^k):=by
   unfold guardB;rw[decide_eq_decide,Int.toNat_natCast,show ((2:Int)^k)=((2^k:Nat):Int) from by simp];omega
  rw[this] at h;exact h
theorem caps_rights_spec {n:Int} {K:Bool->World->Prop} (h:K (decide (0≤n)&&decide (n≤7)) w):C.qcl n K w:=by
 apply S.qcl0;unfold S.qcl;by_cases e:0≤n
 ·rw[show decide (n≥0)=true from by simpa using e,cond_true]
  rw[show decide (0≤n)=true from by simpa using e,Bool.true_and] at h;exact h
 ·rw[show decide (n≥0)=false from by simpa using e,cond_false]
  rw[show decide (0≤n)=false from by simpa using e,Bool.false_and] at h;exact h
theorem caps_limited_spec {k:Int} {K:Bool->World->Prop} (h:K (limitedB k) w):C.qca k K w:=by
 apply S.qca0;unfold S.qca;unfold limitedB at h;cases h4:k==4 with
 |true=>rw[cond_true];rw[h4] at h;exact h
 |false=>
  rw[cond_false];cases h5:k==5 with
  |true=>rw[cond_true];rw[h4,h5] at h;exact h
  |false=>rw[cond_false];rw[h4,h5] at h;exact h
theorem caps_badged_spec {k:Int} {K:Bool->World->Prop} (h:K (badgedB k) w):C.qcm k K w:=by
 apply S.qcm0;unfold S.qcm;unfold badgedB at h;cases h4:k==4 with
 |true=>rw[cond_true];rw[h4] at h;exact h
 |false=>rw[cond_false];rw[h4] at h;exact h
theorem capX (a b:Cap):eqX Tryz.prog 9 42 a.cells b.cells=some (decide (a=b)):=by
 have h:eqX Tryz.prog 9 42 a.cells b.cells=some (a.kind==b.kind&&(a.obj==b.obj&&(a.rights==b.rights&&(a.badge==b.badge&&(a.guard==b.guard&&(a.bits==b.bits&&true)))))):=by kernel_rfl
 rw[h];congr 1;rw[Bool.eq_iff_iff];simp only[Bool.and_true,Bool.and_eq_true,beq_iff_eq,decide_eq_true_eq];cases a;cases b;simp only[Cap.mk.injEq]
theorem capEq {x y:Operand} (a b:Cap):EqB Tryz.prog .eql 42 x y (.agg ⟨a.cells⟩) (.agg ⟨b.cells⟩) (decide (a=b)):=eqB_x (by kernel_rfl) (by kernel_rfl) (by kernel_rfl) (capX a b)
theorem caps_Check_spec {c:Cap} {K:Int->World->Prop} (h:Own B w0 w R) (hc:CapR c) (hK:∀w',Own B w0 w' R->K (capErr c) w'):C.qck c.kind c.obj c.rights c.badge c.guard c.bits K w:=by
 apply S.qck0;unfold S.qck;refine h.al fun w1 h=>?_
 have hcell:∀w',Own B w0 w' (BlkA w.heap.size c.cells::R)->Own B w0 w' (BlkA w.heap.size c.cells::R):=fun _ h=>h
 have h:Own B w0 w1 (BlkA w.heap.size c.cells::R):=h;simp only[add_mk,Nat.zero_add];intro k8 hk8
 have fin:k8 (decide (0<c.kind)&&decide (c.kind<10)&&decide (0≤c.obj)&&decide (c.obj<2147483648)&&(decide (0≤c.rights)&&decide (c.rights≤7))&&guardB c.guard c.bits) w1:=by
  generalize hr:(decide (0<c.kind)&&decide (c.kind<10)&&decide (0≤c.obj)&&decide (c.obj<2147483648)&&(decide (0≤c.rights)&&decide (c.rights≤7))&&guardB c.guard c.bits)=right;apply hk8;refine h.ld_6 0 rfl rfl ?_;refine ⟨_,capEq c zeroCap, ?_⟩;have hb:capBad c=(!right||(!limitedB c.kind&&c.rights !=7)||(c.badge !=0&& !badgedB c.kind)||(c.bits !=0&&c.kind !=2)):=by unfold capBad;rw[hr]
  have hE:=hK w1 h.drop;unfold capErr at hE;by_cases e:c=zeroCap
  ·rw[decide_eq_true e,cond_true];rw[if_pos e] at hE;exact hE
  rw[decide_eq_false e,cond_false];rw[if_neg e,hb] at hE;intro k18 hk18
  have rest:(!right||(!limitedB c.kind&&c.rights !=7))=false->k18 false w1:=by
   intro h0;rw[h0,Bool.false_or] at hE;apply hk18;rw[cond_false];intro k21 hk21;refine ⟨c.badge,h.ld0 0 rfl rfl, ?_⟩
   have last:(c.badge !=0&& !badgedB c.kind)=false->k21 false w1:=by
    intro h1;rw[h1,Bool.false_or] at hE;apply hk21;rw[cond_false];refine ⟨c.bits,h.ld0 0 rfl rfl, ?_⟩;cases hbits:c.bits !=0 with
    |false=>rw[cond_false];rw[hbits,Bool.false_and,if_neg (by simp)] at hE;exact hE
    |true=>
     rw[cond_true];rw[hbits,Bool.true_and] at hE;refine ⟨c.kind,h.ld0 0 rfl rfl, ?_⟩;cases hk:c.kind !=2 with
     |true=>rw[cond_true];rw[hk,if_pos rfl] at hE;exact hE
     |false=>rw[cond_false];rw[hk,if_neg (by simp)] at hE;exact hE
   cases hbad:c.badge !=0 with
   |false=>rw[cond_false];exact last (by rw[hbad];rfl)
   |true=>
    rw[cond_true];refine ⟨c.kind,h.ld0 0 rfl rfl, ?_⟩;refine caps_badged_spec ?_;cases hbg:badgedB c.kind with
    |true=>exact last (by rw[hbg];simp)
    |false=>
     apply hk21;rw[Bool.not_false,cond_true,cond_true];rw[hbad,hbg] at hE;simpa using hE
  cases hright:right with
  |false=>
   rw[Bool.not_false,cond_true];apply hk18;rw[cond_true];rw[hright] at hE;simpa using hE
  |true=>
   rw[Bool.not_true,cond_false];refine ⟨c.kind,h.ld0 0 rfl rfl, ?_⟩;refine caps_limited_spec ?_;cases hlim:limitedB c.kind with
   |true=>rw[Bool.not_true,cond_false];exact rest (by rw[hright,hlim];simp)
   |false=>
    rw[Bool.not_false,cond_true];refine ⟨c.rights,h.ld0 0 rfl rfl, ?_⟩;cases hr7:c.rights !=7 with
    |false=>exact rest (by rw[hright,hr7];simp)
    |true=>
     apply hk18;rw[cond_true];rw[hright,hlim,hr7] at hE;simpa using hE
 refine ⟨c.kind,h.ld0 0 rfl rfl, ?_⟩;by_cases e1:0<c.kind
 ·rw[show decide (c.kind>0)=true from by simpa using e1,cond_true]
  refine ⟨c.kind,h.ld0 0 rfl rfl, ?_⟩;by_cases e2:c.kind<10
  ·rw[show decide (c.kind<10)=true from by simpa using e2,cond_true]
   refine ⟨c.obj,h.ld0 0 rfl rfl, ?_⟩;by_cases e3:0≤c.obj
   ·rw[show decide (c.obj≥0)=true from by simpa using e3,cond_true]
    refine ⟨c.obj,h.ld0 0 rfl rfl, ?_⟩;by_cases e4:c.obj<2147483648
    ·rw[show decide (c.obj<2147483648)=true from by simpa using e4,cond_true]
     refine ⟨c.rights,h.ld0 0 rfl rfl, ?_⟩;refine caps_rights_spec ?_;cases e5:(decide (0≤c.rights)&&decide (c.rights≤7)) with
     |false=>
      rw[cond_false];simpa [e5] using fin
     |true=>
      rw[cond_true];refine ⟨c.guard,h.ld0 0 rfl rfl,c.bits,h.ld0 0 rfl rfl, ?_⟩;refine caps_guard_spec hc.g0 hc.g1 ?_;rw[show decide (0<c.kind)=true from by simpa using e1,show decide (c.kind<10)=true from by simpa using e2,show decide (0≤c.obj)=true from by simpa using e3,show decide (c.obj<2147483648)=true from by simpa using e4,e5] at fin;simpa using fin
    ·rw[show decide (c.obj<2147483648)=false from by simpa using e4,cond_false]
     rw[show decide (c.obj<2147483648)=false from by simpa using e4] at fin;simpa using fin
   ·rw[show decide (c.obj≥0)=false from by simpa using e3,cond_false]
    rw[show decide (0≤c.obj)=false from by simpa using e3] at fin;simpa using fin
  ·rw[show decide (c.kind<10)=false from by simpa using e2,cond_false]
   rw[show decide (c.kind<10)=false from by simpa using e2] at fin;simpa using fin
 ·rw[show decide (c.kind>0)=false from by simpa using e1,cond_false]
  rw[show decide (0<c.kind)=false from by simpa using e1] at fin;simpa using fin
end
end Go.Proofs.YtogmbmdbgkopjaaGreat.Sl
end
section
set_option maxRecDepth 100000
namespace Go.Proofs.YtogmbmdbgkopjaaGreat
open Go Go.Vc Go.Proofs
def S.qcz (K:Option Addr->World->Prop) (w:World):Prop:=Al w (.map #[] 0) fun w1=>Al w1 (.cells #[.slice none 0 0, .map (some w.heap.size)] 182) fun w2=>K (some (Addr.mk w1.heap.size 0 none)) w2
theorem S.qcz0 (K:Option Addr->World->Prop) (w:World) (h:S.qcz K w):C.qcz K w:=
 okS Tryz.func41 (.t none (.u) (.t none (.u) (.u))) [(0, .c (.p))] [] K rfl (by kernel_rfl) (by kernel_rfl) h
def S.qaR (n1:Option Addr) (bits2:Int) (K:Int->Int->World->Prop) (w:World):Prop:=∀k3:Bool->World->Prop,(∀(t4:Bool) (w5:World),(bif t4 then (K (0:Int) (1:Int) w5) else (∃a6,n1=some a6/\∃bits7:Sl,w5.cell? a6=some (.slice bits7.a bits7.len bits7.cap)/\bif decide ((bits7.len:Int)≥(64:Int)) then (K (0:Int) (2:Int) w5) else (∃a8,n1=some a8/\∃bits9:Sl,w5.cell? a8=some (.slice bits9.a bits9.len bits9.cap)/\Al w5 (.cells #[.int .i64 bits2] 3) fun w10=>∃(t11:Sl) (w12:World),AppR Tryz.prog [26,26] 26 (.slice bits9.a bits9.len bits9.cap) (.slice (some (Addr.mk w5.heap.size 0 none)) 1 1) w10 t11 w12/\∃a13,n1=some a13/\St w12 a13 (.slice t11.a t11.len t11.cap) fun w14=>∃a15,n1=some a15/\∃bits16:Sl,w14.cell? a15=some (.slice bits16.a bits16.len bits16.cap)/\K (IntKind.i64.wrap ((bits16.len:Int)-(1:Int))) (0:Int) w14)))->k3 t4 w5)->(bif decide (bits2<(1:Int)) then (k3 true w) else (k3 (decide (bits2>(8:Int))) w))
theorem S.qaR0 (n1:Option Addr) (bits2:Int) (K:Int->Int->World->Prop) (w:World) (h:S.qaR n1 bits2 K w):C.qaR n1 bits2 K w:=
 okS Tryz.func46 (.t none (.u) (.t none (.t none (.t none (.r (some [(6, .c (.b))]) .done) (.t none (.t none (.u) (.u)) (.t none (.u) (.t none (.t none (.u) (.u)) (.u))))) (.u)) (.t none (.u) (.t none (.u) (.u))))) [(0, .c (.i .i64)),(1, .c (.i .i64))] [.pointer n1, .int .i64 bits2] K rfl (by kernel_rfl) (by kernel_rfl) h
def S.qaS (n1:Option Addr) (K:Sl->World->Prop) (w:World):Prop:=∃a2,n1=some a2/\∃held3,w.cell? (a2.add 1)=some (.map held3)/\C.qb held3 (fun r4 w5=>C.qz r4 (.func (.func 116) #[] #[]) (fun r6 w7=>∀l8:Sl->Int->World->Prop,(∀(out9:Sl) (t10:Int) (w11:World),(bif decide (t10<(r6.len:Int)) then (∃a12,r6.a=some a12/\0≤t10/\t10<(r6.len:Int)/\LdL w11 (a12.add (t10.toNat*2)) 0 [.i .i64, .i .i64] fun (t13:Int) (t14:Int)=>Al w11 (.cells #[.int .i64 0, .int .i64 0] 40) fun w15=>StL w15 (Addr.mk w11.heap.size 0 none) 0 [.int .i64 t13, .int .i64 t14] fun w16=>Dr w16 fun w17=>∃a18,n1=some a18/\∃held19,w17.cell? (a18.add 1)=some (.map held19)/\LdL w17 (Addr.mk w11.heap.size 0 none) 0 [.i .i64, .i .i64] fun (t20:Int) (t21:Int)=>LdL w17 (Addr.mk w11.heap.size 0 none) 0 [.i .i64, .i .i64] fun (t22:Int) (t23:Int)=>(∃t24,∃t25,∃t26,∃t27,∃t28,∃t29,Lk1 Tryz.prog 180 (.map held19) (.agg #[.int .i64 t20, .int .i64 t21]) (.agg #[.int .i64 t24, .int .i64 t25, .int .i64 t26, .int .u64 t27, .int .u64 t28, .int .i64 t29]) w17/\HdL w17 (Addr.mk w11.heap.size 0 none) 0 [.int .i64 t22, .int .i64 t23] ((Al w17 (.cells #[.int .i64 t22, .int .i64 t23, .int .i64 t24, .int .i64 t25, .int .i64 t26, .int .u64 t27, .int .u64 t28, .int .i64 t29] 44) fun w30=>(∃(t31:Sl) (w32:World),AppR Tryz.prog [29,29] 29 (.slice out9.a out9.len out9.cap) (.slice (some (Addr.mk w17.heap.size 0 none)) 1 1) w30 t31 w32/\l8 t31 (IntKind.i64.wrap (t10+(1:Int))) w32)/\True)/\True))/\True) else (K out9 w11))->l8 out9 t10 w11)->l8 ⟨none,0,0⟩ (0:Int) w7) w5) w
theorem S.qaS0 (n1:Option Addr) (K:Sl->World->Prop) (w:World) (h:S.qaS n1 K w):C.qaS n1 K w:=
 okS Tryz.func51 (.t none (.u) (.t none (.u) (.t none (.t none (.u) (.t none (.t (some [(3, .c (.s)),(13, .c (.i .i64))]) (.t none (.u) (.t none (.t none (.u) (.u)) (.t none (.t none (.t none (.u) (.r none (.one 0 1022 (.one 2 66 (.one 3 66 (.one 4 66 (.one 5 66 (.one 6 2 (.hold 1 128 2559 (.alt 7 (.one 8 0 (.alt 9 (.alt 10 (.one 11 0 (.done)) (.none)) (.none))) (.none))))))))))) (.u)) (.u)))) (.u)) (.u))) (.t none (.u) (.u))))) [(0, .c (.s))] [.pointer n1] K rfl (by kernel_rfl) (by kernel_rfl) h
def S.qbo (n1:Option Addr) (s2:Int) (s3:Int) (c4:Int) (c5:Int) (c6:Int) (c7:Int) (c8:Int) (c9:Int) (K:Int->World->Prop) (w:World):Prop:=Al w (.cells #[.int .i64 s2, .int .i64 s3] 40) fun w10=>Al w10 (.cells #[.int .i64 c4, .int .i64 c5, .int .i64 c6, .int .u64 c7, .int .u64 c8, .int .i64 c9] 42) fun w11=>LdL w11 (Addr.mk w10.heap.size 0 none) 0 [.i .i64, .i .i64, .i .i64, .i .u64, .i .u64, .i .i64] fun (t12:Int) (t13:Int) (t14:Int) (t15:Int) (t16:Int) (t17:Int)=>C.qck t12 t13 t14 t15 t16 t17 (fun r18 w19=>∀k20:Bool->World->Prop,(∀(had21:Bool) (w22:World),(LdL w22 (Addr.mk w.heap.size 0 none) 0 [.i .i64, .i .i64] fun (t23:Int) (t24:Int)=>C.qM n1 t23 t24 (fun r25 w26=>bif !r25 then (K (50:Int) w26) else (bif r18 !=(0:Int) then (K r18 w26) else (∃kind27,w26.cell? (Addr.mk w10.heap.size 0 none)=some (.int .i64 kind27)/\bif kind27==(0:Int) then (K (1:Int) w26) else (bif had21 then (K (51:Int) w26) else (Dr w26 fun w28=>∃a29,n1=some a29/\∃held30,w28.cell? (a29.add 1)=some (.map held30)/\LdL w28 (Addr.mk w.heap.size 0 none) 0 [.i .i64, .i .i64] fun (t31:Int) (t32:Int)=>LdL w28 (Addr.mk w10.heap.size 0 none) 0 [.i .i64, .i .i64, .i .i64, .i .u64, .i .u64, .i .i64] fun (kind33:Int) (kind34:Int) (kind35:Int) (kind36:Int) (kind37:Int) (kind38:Int)=>(∃w39:World,UpdR Tryz.prog 180 (.map held30) (.agg #[.int .i64 t31, .int .i64 t32]) (.agg #[.int .i64 kind33, .int .i64 kind34, .int .i64 kind35, .int .u64 kind36, .int .u64 kind37, .int .i64 kind38]) w28 w39/\K (0:Int) w39)/\True))))) w22)->k20 had21 w22)->(Dr w19 fun w40=>∃a41,n1=some a41/\∃held42,w40.cell? (a41.add 1)=some (.map held42)/\LdL w40 (Addr.mk w.heap.size 0 none) 0 [.i .i64, .i .i64] fun (t43:Int) (t44:Int)=>(∃t45,∃t46,∃t47,∃t48,∃t49,∃t50,∃is51,LkB Tryz.prog 180 (.map held42) (.agg #[.int .i64 t43, .int .i64 t44]) (.agg #[.int .i64 t45, .int .i64 t46, .int .i64 t47, .int .u64 t48, .int .u64 t49, .int .i64 t50]) is51 w40/\(Al w40 (.cells #[.int .i64 0, .int .i64 0, .int .i64 0, .int .u64 0, .int .u64 0, .int .i64 0] 42) fun w52=>(StL w52 (Addr.mk w40.heap.size 0 none) 0 [.int .i64 t45, .int .i64 t46, .int .i64 t47, .int .u64 t48, .int .u64 t49, .int .i64 t50] fun w53=>k20 is51 w53)/\True)/\True)/\(Al w40 (.cells #[.int .i64 0, .int .i64 0, .int .i64 0, .int .u64 0, .int .u64 0, .int .i64 0] 42) fun w54=>(∃t55,∃t56,∃t57,∃t58,∃t59,∃t60,∃is61,LkB Tryz.prog 180 (.map held42) (.agg #[.int .i64 t43, .int .i64 t44]) (.agg #[.int .i64 t55, .int .i64 t56, .int .i64 t57, .int .u64 t58, .int .u64 t59, .int .i64 t60]) is61 w54/\(StL w54 (Addr.mk w40.heap.size 0 none) 0 [.int .i64 t55, .int .i64 t56, .int .i64 t57, .int .u64 t58, .int .u64 t59, .int .i64 t60] fun w62=>k20 is61 w62)/\True)/\True)/\True)) w11
theorem S.qbo0 (n1:Option Addr) (s2:Int) (s3:Int) (c4:Int) (c5:Int) (c6:Int) (c7:Int) (c8:Int) (c9:Int) (K:Int->World->Prop) (w:World) (h:S.qbo n1 s2 s3 c4 c5 c6 c7 c8 c9 K w):C.qbo n1 s2 s3 c4 c5 c6 c7 c8 c9 K w:=
 okS Tryz.func106 (.t none (.u) (.t none (.u) (.t none (.r (some [(9, .c (.b))]) (.one 0 528 (.one 1 528 (.one 2 528 (.one 3 528 (.one 4 512 (.alt 5 (.one 6 512 (.one 7 768 (.one 8 1536 (.alt 9 (.alt 10 (.one 11 0 (.done)) (.none)) (.none))))) (.alt 9 (.alt 5 (.one 6 0 (.one 7 256 (.one 8 1024 (.alt 10 (.one 11 0 (.done)) (.none))))) (.none)) (.none))))))))) (.t none (.t none (.t none (.u) (.t none (.t none (.u) (.u)) (.t none (.u) (.t none (.t none (.u) (.u)) (.t none (.u) (.t none (.t none (.u) (.u)) (.t none (.u) (.t none (.t none (.u) (.u)) (.u))))))))) (.u)) (.t none (.r none (.one 0 48 (.one 1 48 (.one 2 48 (.one 3 48 (.one 4 32 (.one 5 0 (.alt 6 (.done) (.none))))))))) (.t none (.u) (.u))))))) [(0, .c (.i .i64))] [.pointer n1, .agg #[.int .i64 s2, .int .i64 s3], .agg #[.int .i64 c4, .int .i64 c5, .int .i64 c6, .int .u64 c7, .int .u64 c8, .int .i64 c9]] K rfl (by kernel_rfl) (by kernel_rfl) h
def S.qcG (a1:Int) (a2:Int) (b3:Int) (b4:Int) (K:Int->World->Prop) (w:World):Prop:=Al w (.cells #[.int .i64 a1, .int .i64 a2] 40) fun w5=>Al w5 (.cells #[.int .i64 b3, .int .i64 b4] 40) fun w6=>Dr w6 fun w7=>∃node8,w7.cell? (Addr.mk w.heap.size 0 none)=some (.int .i64 node8)/\∃node9,w7.cell? (Addr.mk w5.heap.size 0 none)=some (.int .i64 node9)/\∃i10,w7.cell? ((Addr.mk w.heap.size 0 none).add 1)=some (.int .i64 i10)/\∃i11,w7.cell? ((Addr.mk w5.heap.size 0 none).add 1)=some (.int .i64 i11)/\(C.qbp node8 node9 (fun r12 w13=>w13.cell? ((Addr.mk w5.heap.size 0 none).add 1)=some (.int .i64 i11)/\w13.cell? ((Addr.mk w.heap.size 0 none).add 1)=some (.int .i64 i10)/\(C.qbp i10 i11 (fun r14 w15=>(Al w15 (.cells #[.int .i64 r12, .int .i64 r14] 3) fun w16=>(C.qcA ⟨some (Addr.mk w15.heap.size 0 none),2,2⟩ (fun r17 w18=>K r17 w18) w16)/\True)/\True) w13)/\True) w7)/\True
theorem S.qcG0 (a1:Int) (a2:Int) (b3:Int) (b4:Int) (K:Int->World->Prop) (w:World) (h:S.qcG a1 a2 b3 b4 K w):C.qcG a1 a2 b3 b4 K w:=
 okS Tryz.func116 (.t none (.u) (.t none (.r none (.one 0 492 (.one 1 492 (.one 2 480 (.one 3 480 (.one 5 400 (.one 7 80 (.hold 6 272 4607 (.hold 8 16 4607 (.alt 4 (.alt 9 (.alt 10 (.alt 11 (.one 12 0 (.done)) (.none)) (.none)) (.none)) (.none))))))))))) (.u))) [(0, .c (.i .i64))] [.agg #[.int .i64 a1, .int .i64 a2], .agg #[.int .i64 b3, .int .i64 b4]] K rfl (by kernel_rfl) (by kernel_rfl) h
def S.qM (n1:Option Addr) (s2:Int) (s3:Int) (K:Bool->World->Prop) (w:World):Prop:=Al w (.cells #[.int .i64 s2, .int .i64 s3] 40) fun w4=>∃node5,w4.cell? (Addr.mk w.heap.size 0 none)=some (.int .i64 node5)/\C.qaU n1 node5 (fun r6 r7 w8=>Dr w8 fun w9=>bif r7 then (∃i10,w9.cell? ((Addr.mk w.heap.size 0 none).add 1)=some (.int .i64 i10)/\bif decide (i10≥(0:Int)) then (∃i11,w9.cell? ((Addr.mk w.heap.size 0 none).add 1)=some (.int .i64 i11)/\0≤r6/\K (decide (i11<(shlI .i64 (1:Int) r6))) w9) else (K false w9)) else (K false w9)) w4
theorem S.qM0 (n1:Option Addr) (s2:Int) (s3:Int) (K:Bool->World->Prop) (w:World) (h:S.qM n1 s2 s3 K w):C.qM n1 s2 s3 K w:=
 okS Tryz.func189 (.t none (.u) (.t none (.u) (.t none (.r none (.one 0 0 (.one 1 0 (.one 2 0 (.one 3 0 (.one 4 0 (.one 5 0 (.one 6 0 (.one 7 1536 (.one 8 1536 (.one 9 0 (.one 10 0 (.one 11 0 (.one 12 0 (.one 13 0 (.done)))))))))))))))) (.u)))) [(0, .c (.b))] [.pointer n1, .agg #[.int .i64 s2, .int .i64 s3]] K rfl (by kernel_rfl) (by kernel_rfl) h
def S.qL (n1:Option Addr) (s2:Int) (s3:Int) (K:Int->Int->Int->Int->Int->Int->Int->World->Prop) (w:World):Prop:=Al w (.cells #[.int .i64 s2, .int .i64 s3] 40) fun w4=>Al w4 (.cells #[.int .i64 0, .int .i64 0, .int .i64 0, .int .u64 0, .int .u64 0, .int .i64 0] 42) fun w5=>LdL w5 (Addr.mk w.heap.size 0 none) 0 [.i .i64, .i .i64] fun (t6:Int) (t7:Int)=>C.qM n1 t6 t7 (fun r8 w9=>bif !r8 then (StL w9 (Addr.mk w4.heap.size 0 none) 0 [.int .i64 0, .int .i64 0, .int .i64 0, .int .u64 0, .int .u64 0, .int .i64 0] fun w10=>LdL w10 (Addr.mk w4.heap.size 0 none) 0 [.i .i64, .i .i64, .i .i64, .i .u64, .i .u64, .i .i64] fun (r11:Int) (r12:Int) (r13:Int) (r14:Int) (r15:Int) (r16:Int)=>K r11 r12 r13 r14 r15 r16 (50:Int) w10) else (Dr w9 fun w17=>∃a18,n1=some a18/\∃held19,w17.cell? (a18.add 1)=some (.map held19)/\LdL w17 (Addr.mk w.heap.size 0 none) 0 [.i .i64, .i .i64] fun (t20:Int) (t21:Int)=>(∃t22,∃t23,∃t24,∃t25,∃t26,∃t27,Lk1 Tryz.prog 180 (.map held19) (.agg #[.int .i64 t20, .int .i64 t21]) (.agg #[.int .i64 t22, .int .i64 t23, .int .i64 t24, .int .u64 t25, .int .u64 t26, .int .i64 t27]) w17/\(StL w17 (Addr.mk w4.heap.size 0 none) 0 [.int .i64 t22, .int .i64 t23, .int .i64 t24, .int .u64 t25, .int .u64 t26, .int .i64 t27] fun w28=>LdL w28 (Addr.mk w4.heap.size 0 none) 0 [.i .i64, .i .i64, .i .i64, .i .u64, .i .u64, .i .i64] fun (r29:Int) (r30:Int) (r31:Int) (r32:Int) (r33:Int) (r34:Int)=>K r29 r30 r31 r32 r33 r34 (0:Int) w28)/\True)/\True)) w5
theorem S.qL0 (n1:Option Addr) (s2:Int) (s3:Int) (K:Int->Int->Int->Int->Int->Int->Int->World->Prop) (w:World) (h:S.qL n1 s2 s3 K w):C.qL n1 s2 s3 K w:=
 okS Tryz.func200 (.t none (.u) (.t none (.t none (.u) (.t none (.t none (.u) (.u)) (.u))) (.t none (.r none (.one 0 16 (.one 1 16 (.one 2 16 (.one 3 16 (.one 4 0 (.alt 5 (.alt 6 (.one 7 0 (.done)) (.none)) (.none)))))))) (.u)))) [(0, .a [.i .i64, .i .i64, .i .i64, .i .u64, .i .u64, .i .i64]),(1, .c (.i .i64))] [.pointer n1, .agg #[.int .i64 s2, .int .i64 s3]] K rfl (by kernel_rfl) (by kernel_rfl) h
def S.qbw (n1:Option Addr) (from2:Int) (from3:Int) (to4:Int) (to5:Int) (K:Int->World->Prop) (w:World):Prop:=Al w (.cells #[.int .i64 from2, .int .i64 from3] 40) fun w6=>Al w6 (.cells #[.int .i64 to4, .int .i64 to5] 40) fun w7=>∀k8:Addr->Bool->World->Prop,(∀(c9:Addr) (had10:Bool) (w11:World),(∀k12:Bool->World->Prop,(∀(full13:Bool) (w14:World),(∀k15:Bool->World->Prop,(∀(t16:Bool) (w17:World),(bif t16 then (K (50:Int) w17) else (bif !had10 then (K (52:Int) w17) else (bif full13 then (K (51:Int) w17) else (Dr w17 fun w18=>∃a19,n1=some a19/\∃held20,w18.cell? (a19.add 1)=some (.map held20)/\LdL w18 (Addr.mk w.heap.size 0 none) 0 [.i .i64, .i .i64] fun (t21:Int) (t22:Int)=>(∃w23:World,DelR Tryz.prog [180,40] 0 (.map held20) (.agg #[.int .i64 t21, .int .i64 t22]) w18 w23/\Dr w23 fun w24=>∃a25,n1=some a25/\∃held26,w24.cell? (a25.add 1)=some (.map held26)/\LdL w24 (Addr.mk w6.heap.size 0 none) 0 [.i .i64, .i .i64] fun (t27:Int) (t28:Int)=>LdL w24 c9 0 [.i .i64, .i .i64, .i .i64, .i .u64, .i .u64, .i .i64] fun (t29:Int) (t30:Int) (t31:Int) (t32:Int) (t33:Int) (t34:Int)=>(∃w35:World,UpdR Tryz.prog 180 (.map held26) (.agg #[.int .i64 t27, .int .i64 t28]) (.agg #[.int .i64 t29, .int .i64 t30, .int .i64 t31, .int .u64 t32, .int .u64 t33, .int .i64 t34]) w24 w35/\K (0:Int) w35)/\True)/\True))))->k15 t16 w17)->(LdL w14 (Addr.mk w.heap.size 0 none) 0 [.i .i64, .i .i64] fun (t36:Int) (t37:Int)=>C.qM n1 t36 t37 (fun r38 w39=>bif !r38 then (k15 true w39) else (LdL w39 (Addr.mk w6.heap.size 0 none) 0 [.i .i64, .i .i64] fun (t40:Int) (t41:Int)=>C.qM n1 t40 t41 (fun r42 w43=>k15 (!r42) w43) w39)) w14))->k12 full13 w14)->(Dr w11 fun w44=>∃a45,n1=some a45/\∃held46,w44.cell? (a45.add 1)=some (.map held46)/\LdL w44 (Addr.mk w6.heap.size 0 none) 0 [.i .i64, .i .i64] fun (t47:Int) (t48:Int)=>(∃t49,∃t50,∃t51,∃t52,∃t53,∃t54,∃is55,LkB Tryz.prog 180 (.map held46) (.agg #[.int .i64 t47, .int .i64 t48]) (.agg #[.int .i64 t49, .int .i64 t50, .int .i64 t51, .int .u64 t52, .int .u64 t53, .int .i64 t54]) is55 w44/\(Al w44 (.cells #[.int .i64 0, .int .i64 0, .int .i64 0, .int .u64 0, .int .u64 0, .int .i64 0] 42) fun w56=>(StL w56 (Addr.mk w44.heap.size 0 none) 0 [.int .i64 t49, .int .i64 t50, .int .i64 t51, .int .u64 t52, .int .u64 t53, .int .i64 t54] fun w57=>k12 is55 w57)/\True)/\True)/\(Al w44 (.cells #[.int .i64 0, .int .i64 0, .int .i64 0, .int .u64 0, .int .u64 0, .int .i64 0] 42) fun w58=>(∃t59,∃t60,∃t61,∃t62,∃t63,∃t64,∃is65,LkB Tryz.prog 180 (.map held46) (.agg #[.int .i64 t47, .int .i64 t48]) (.agg #[.int .i64 t59, .int .i64 t60, .int .i64 t61, .int .u64 t62, .int .u64 t63, .int .i64 t64]) is65 w58/\(StL w58 (Addr.mk w44.heap.size 0 none) 0 [.int .i64 t59, .int .i64 t60, .int .i64 t61, .int .u64 t62, .int .u64 t63, .int .i64 t64] fun w66=>k12 is65 w66)/\True)/\True)/\True))->k8 c9 had10 w11)->(Dr w7 fun w67=>∃a68,n1=some a68/\∃held69,w67.cell? (a68.add 1)=some (.map held69)/\LdL w67 (Addr.mk w.heap.size 0 none) 0 [.i .i64, .i .i64] fun (t70:Int) (t71:Int)=>(∃t72,∃t73,∃t74,∃t75,∃t76,∃t77,∃is78,LkB Tryz.prog 180 (.map held69) (.agg #[.int .i64 t70, .int .i64 t71]) (.agg #[.int .i64 t72, .int .i64 t73, .int .i64 t74, .int .u64 t75, .int .u64 t76, .int .i64 t77]) is78 w67/\(Al w67 (.cells #[.int .i64 0, .int .i64 0, .int .i64 0, .int .u64 0, .int .u64 0, .int .i64 0] 42) fun w79=>(StL w79 (Addr.mk w67.heap.size 0 none) 0 [.int .i64 t72, .int .i64 t73, .int .i64 t74, .int .u64 t75, .int .u64 t76, .int .i64 t77] fun w80=>k8 (Addr.mk w67.heap.size 0 none) is78 w80)/\True)/\True)/\(Al w67 (.cells #[.int .i64 0, .int .i64 0, .int .i64 0, .int .u64 0, .int .u64 0, .int .i64 0] 42) fun w81=>(∃t82,∃t83,∃t84,∃t85,∃t86,∃t87,∃is88,LkB Tryz.prog 180 (.map held69) (.agg #[.int .i64 t70, .int .i64 t71]) (.agg #[.int .i64 t82, .int .i64 t83, .int .i64 t84, .int .u64 t85, .int .u64 t86, .int .i64 t87]) is88 w81/\(StL w81 (Addr.mk w67.heap.size 0 none) 0 [.int .i64 t82, .int .i64 t83, .int .i64 t84, .int .u64 t85, .int .u64 t86, .int .i64 t87] fun w89=>k8 (Addr.mk w67.heap.size 0 none) is88 w89)/\True)/\True)/\True)
theorem S.qbw0 (n1:Option Addr) (from2:Int) (from3:Int) (to4:Int) (to5:Int) (K:Int->World->Prop) (w:World) (h:S.qbw n1 from2 from3 to4 to5 K w):C.qbw n1 from2 from3 to4 to5 K w:=
 okS Tryz.func206 (.t none (.u) (.t none (.r (some [(7, .c (.q)),(8, .c (.b))]) (.one 0 528 (.one 1 528 (.one 2 528 (.one 3 528 (.one 4 512 (.alt 5 (.one 6 512 (.one 7 768 (.one 8 1536 (.alt 9 (.alt 10 (.one 11 0 (.done)) (.none)) (.none))))) (.alt 9 (.alt 5 (.one 6 0 (.one 7 256 (.one 8 1024 (.alt 10 (.one 11 0 (.done)) (.none))))) (.none)) (.none))))))))) (.t none (.r (some [(10, .c (.b))]) (.one 0 528 (.one 1 528 (.one 2 528 (.one 3 528 (.one 4 512 (.alt 5 (.one 6 512 (.one 7 768 (.one 8 1536 (.alt 9 (.alt 10 (.one 11 0 (.done)) (.none)) (.none))))) (.alt 9 (.alt 5 (.one 6 0 (.one 7 256 (.one 8 1024 (.alt 10 (.one 11 0 (.done)) (.none))))) (.none)) (.none))))))))) (.t none (.t none (.t none (.r (some [(29, .c (.b))]) .done) (.t none (.t none (.u) (.u)) (.t none (.u) (.t none (.t none (.u) (.u)) (.t none (.u) (.t none (.t none (.u) (.u)) (.u))))))) (.u)) (.t none (.r none (.one 0 16 (.one 1 16 (.one 2 16 (.one 3 16 (.one 4 0 (.alt 5 (.done) (.none)))))))) (.t none (.r none (.one 0 48 (.one 1 48 (.one 2 48 (.one 3 48 (.one 4 32 (.one 5 0 (.alt 6 (.done) (.none))))))))) (.t none (.u) (.u)))))))) [(0, .c (.i .i64))] [.pointer n1, .agg #[.int .i64 from2, .int .i64 from3], .agg #[.int .i64 to4, .int .i64 to5]] K rfl (by kernel_rfl) (by kernel_rfl) h
def S.qaU (n1:Option Addr) (node2:Int) (K:Int->Bool->World->Prop) (w:World):Prop:=∀k3:Bool->World->Prop,(∀(t4:Bool) (w5:World),(bif t4 then (K (0:Int) false w5) else (∃a6,n1=some a6/\∃bits7:Sl,w5.cell? a6=some (.slice bits7.a bits7.len bits7.cap)/\∃a8,bits7.a=some a8/\0≤node2/\node2<(bits7.len:Int)/\∃t9,w5.cell? (a8.add (node2.toNat*1))=some (.int .i64 t9)/\K t9 true w5))->k3 t4 w5)->(bif decide (node2<(0:Int)) then (k3 true w) else (∃a10,n1=some a10/\∃bits11:Sl,w.cell? a10=some (.slice bits11.a bits11.len bits11.cap)/\bif decide (node2≥(bits11.len:Int)) then (k3 true w) else (∃a12,n1=some a12/\∃bits13:Sl,w.cell? a12=some (.slice bits13.a bits13.len bits13.cap)/\∃a14,bits13.a=some a14/\0≤node2/\node2<(bits13.len:Int)/\∃t15,w.cell? (a14.add (node2.toNat*1))=some (.int .i64 t15)/\k3 (t15==(-1:Int)) w)))
theorem S.qaU0 (n1:Option Addr) (node2:Int) (K:Int->Bool->World->Prop) (w:World) (h:S.qaU n1 node2 K w):C.qaU n1 node2 K w:=
 okS Tryz.func264 (.t none (.u) (.t none (.t none (.r (some [(26, .c (.b))]) .done) (.t none (.t none (.u) (.u)) (.u))) (.t none (.u) (.u)))) [(0, .c (.i .i64)),(1, .c (.b))] [.pointer n1, .int .i64 node2] K rfl (by kernel_rfl) (by kernel_rfl) h
def S.qaW (n1:Option Addr) (s2:Int) (s3:Int) (K:Int->Int->Int->Int->Int->Int->Int->World->Prop) (w:World):Prop:=Al w (.cells #[.int .i64 s2, .int .i64 s3] 40) fun w4=>Al w4 (.cells #[.int .i64 0, .int .i64 0, .int .i64 0, .int .u64 0, .int .u64 0, .int .i64 0] 42) fun w5=>∀k6:Addr->Bool->World->Prop,(∀(c7:Addr) (had8:Bool) (w9:World),(LdL w9 (Addr.mk w.heap.size 0 none) 0 [.i .i64, .i .i64] fun (t10:Int) (t11:Int)=>C.qM n1 t10 t11 (fun r12 w13=>bif !r12 then (StL w13 (Addr.mk w4.heap.size 0 none) 0 [.int .i64 0, .int .i64 0, .int .i64 0, .int .u64 0, .int .u64 0, .int .i64 0] fun w14=>LdL w14 (Addr.mk w4.heap.size 0 none) 0 [.i .i64, .i .i64, .i .i64, .i .u64, .i .u64, .i .i64] fun (r15:Int) (r16:Int) (r17:Int) (r18:Int) (r19:Int) (r20:Int)=>K r15 r16 r17 r18 r19 r20 (50:Int) w14) else (bif !had8 then (StL w13 (Addr.mk w4.heap.size 0 none) 0 [.int .i64 0, .int .i64 0, .int .i64 0, .int .u64 0, .int .u64 0, .int .i64 0] fun w21=>LdL w21 (Addr.mk w4.heap.size 0 none) 0 [.i .i64, .i .i64, .i .i64, .i .u64, .i .u64, .i .i64] fun (r22:Int) (r23:Int) (r24:Int) (r25:Int) (r26:Int) (r27:Int)=>K r22 r23 r24 r25 r26 r27 (52:Int) w21) else (Dr w13 fun w28=>∃a29,n1=some a29/\∃held30,w28.cell? (a29.add 1)=some (.map held30)/\LdL w28 (Addr.mk w.heap.size 0 none) 0 [.i .i64, .i .i64] fun (t31:Int) (t32:Int)=>(∃w33:World,DelR Tryz.prog [180,40] 0 (.map held30) (.agg #[.int .i64 t31, .int .i64 t32]) w28 w33/\LdL w33 c7 0 [.i .i64, .i .i64, .i .i64, .i .u64, .i .u64, .i .i64] fun (t34:Int) (t35:Int) (t36:Int) (t37:Int) (t38:Int) (t39:Int)=>StL w33 (Addr.mk w4.heap.size 0 none) 0 [.int .i64 t34, .int .i64 t35, .int .i64 t36, .int .u64 t37, .int .u64 t38, .int .i64 t39] fun w40=>LdL w40 (Addr.mk w4.heap.size 0 none) 0 [.i .i64, .i .i64, .i .i64, .i .u64, .i .u64, .i .i64] fun (r41:Int) (r42:Int) (r43:Int) (r44:Int) (r45:Int) (r46:Int)=>K r41 r42 r43 r44 r45 r46 (0:Int) w40)/\True))) w9)->k6 c7 had8 w9)->(Dr w5 fun w47=>∃a48,n1=some a48/\∃held49,w47.cell? (a48.add 1)=some (.map held49)/\LdL w47 (Addr.mk w.heap.size 0 none) 0 [.i .i64, .i .i64] fun (t50:Int) (t51:Int)=>(∃t52,∃t53,∃t54,∃t55,∃t56,∃t57,∃is58,LkB Tryz.prog 180 (.map held49) (.agg #[.int .i64 t50, .int .i64 t51]) (.agg #[.int .i64 t52, .int .i64 t53, .int .i64 t54, .int .u64 t55, .int .u64 t56, .int .i64 t57]) is58 w47/\(Al w47 (.cells #[.int .i64 0, .int .i64 0, .int .i64 0, .int .u64 0, .int .u64 0, .int .i64 0] 42) fun w59=>(StL w59 (Addr.mk w47.heap.size 0 none) 0 [.int .i64 t52, .int .i64 t53, .int .i64 t54, .int .u64 t55, .int .u64 t56, .int .i64 t57] fun w60=>k6 (Addr.mk w47.heap.size 0 none) is58 w60)/\True)/\True)/\(Al w47 (.cells #[.int .i64 0, .int .i64 0, .int .i64 0, .int .u64 0, .int .u64 0, .int .i64 0] 42) fun w61=>(∃t62,∃t63,∃t64,∃t65,∃t66,∃t67,∃is68,LkB Tryz.prog 180 (.map held49) (.agg #[.int .i64 t50, .int .i64 t51]) (.agg #[.int .i64 t62, .int .i64 t63, .int .i64 t64, .int .u64 t65, .int .u64 t66, .int .i64 t67]) is68 w61/\(StL w61 (Addr.mk w47.heap.size 0 none) 0 [.int .i64 t62, .int .i64 t63, .int .i64 t64, .int .u64 t65, .int .u64 t66, .int .i64 t67] fun w69=>k6 (Addr.mk w47.heap.size 0 none) is68 w69)/\True)/\True)/\True)
theorem S.qaW0 (n1:Option Addr) (s2:Int) (s3:Int) (K:Int->Int->Int->Int->Int->Int->Int->World->Prop) (w:World) (h:S.qaW n1 s2 s3 K w):C.qaW n1 s2 s3 K w:=
 okS Tryz.func285 (.t none (.u) (.t none (.r (some [(6, .c (.q)),(7, .c (.b))]) (.one 0 528 (.one 1 528 (.one 2 528 (.one 3 528 (.one 4 512 (.alt 5 (.one 6 512 (.one 7 768 (.one 8 1536 (.alt 9 (.alt 10 (.one 11 0 (.done)) (.none)) (.none))))) (.alt 9 (.alt 5 (.one 6 0 (.one 7 256 (.one 8 1024 (.alt 10 (.one 11 0 (.done)) (.none))))) (.none)) (.none))))))))) (.t none (.t none (.t none (.u) (.t none (.t none (.u) (.u)) (.t none (.u) (.t none (.t none (.u) (.u)) (.u))))) (.u)) (.t none (.r none (.one 0 16 (.one 1 16 (.one 2 16 (.one 3 16 (.one 4 0 (.alt 5 (.done) (.none)))))))) (.t none (.u) (.u)))))) [(0, .a [.i .i64, .i .i64, .i .i64, .i .u64, .i .u64, .i .i64]),(1, .c (.i .i64))] [.pointer n1, .agg #[.int .i64 s2, .int .i64 s3]] K rfl (by kernel_rfl) (by kernel_rfl) h
def S.qbL (K:Option Addr->World->Prop) (w:World):Prop:=Al w (.cells #[.int .i64 0, .map none, .int .i64 0, .map none, .int .i64 0, .map none, .int .i64 0, .map none, .int .i64 0, .map none, .int .i64 0, .map none, .int .i64 0, .map none, .int .i64 0, .map none, .int .i64 0, .map none, .int .i64 0, .map none, .int .i64 0, .map none, .int .i64 0, .map none, .int .i64 0, .map none, .int .i64 0, .map none, .int .i64 0, .map none, .int .i64 0, .map none, .int .i64 0, .map none, .int .i64 0, .map none, .int .i64 0, .map none, .int .i64 0, .map none, .int .i64 0, .map none, .int .i64 0, .map none, .int .i64 0, .map none, .int .i64 0, .map none, .int .i64 0, .map none, .int .i64 0, .map none, .int .i64 0, .map none, .int .i64 0, .map none, .int .i64 0, .map none, .int .i64 0, .map none, .int .i64 0, .map none, .int .i64 0, .map none, .int .i64 0, .map none, .int .i64 0, .map none, .int .i64 0, .map none, .int .i64 0, .map none, .int .i64 0, .map none, .int .i64 0, .map none, .int .i64 0, .map none, .int .i64 0, .map none, .int .i64 0, .map none, .int .i64 0, .map none, .int .i64 0, .map none, .int .i64 0, .map none, .int .i64 0, .map none, .int .i64 0, .map none, .int .i64 0, .map none, .int .i64 0, .map none, .int .i64 0, .map none, .int .i64 0, .map none, .int .i64 0, .map none, .int .i64 0, .map none, .int .i64 0, .map none, .int .i64 0, .map none, .int .i64 0, .map none, .int .i64 0, .map none, .int .i64 0, .map none, .int .i64 0, .map none, .int .i64 0, .map none, .int .i64 0, .map none, .int .i64 0, .map none, .int .i64 0, .map none, .int .i64 0, .map none, .int .i64 0, .map none] 191) fun w1=>K (some (Addr.mk w.heap.size 0 none)) w1
theorem S.qbL0 (K:Option Addr->World->Prop) (w:World) (h:S.qbL K w):C.qbL K w:=
 okS Tryz.func43 (.t none (.u) (.t none (.u) (.u))) [(0, .c (.p))] [] K rfl (by kernel_rfl) (by kernel_rfl) h
def S.qap (s1:Option Addr) (K:Sl->World->Prop) (w:World):Prop:=∃a2,s1=some a2/\∃t3:Array Value,t3.size=128/\(∀i4,i4<128->w.cell? (a2.add i4)=t3[i4]?)/\∀l5:Sl->Int->World->Prop,(∀(out6:Sl) (t7:Int) (w8:World),(bif decide (t7<(64:Int)) then (0≤t7/\t7<(64:Int)/\∃t9,(t3:Array Value)[t7.toNat*2+0]?=some (.int .i64 t9)/\∃t10,(t3:Array Value)[t7.toNat*2+1]?=some (.map t10)/\Al w8 (.cells #[.int .i64 0, .map none] 188) fun w11=>StL w11 (Addr.mk w8.heap.size 0 none) 0 [.int .i64 t9, .map t10] fun w12=>LdL w12 (Addr.mk w8.heap.size 0 none) 0 [.i .i64, .m] fun (t13:Int) (t14:Option Nat)=>C.qF t13 t14 (fun r15 w16=>∃(t17:Sl) (w18:World),AppR Tryz.prog [56,56] 56 (.slice out6.a out6.len out6.cap) (.slice r15.a r15.len r15.cap) w16 t17 w18/\l5 t17 (IntKind.i64.wrap (t7+(1:Int))) w18) w12) else (K out6 w8))->l5 out6 t7 w8)->l5 ⟨none,0,0⟩ (0:Int) w
theorem S.qap0 (s1:Option Addr) (K:Sl->World->Prop) (w:World) (h:S.qap s1 K w):C.qap s1 K w:=
 okS Tryz.func58 (.t none (.u) (.t none (.u) (.t none (.t none (.u) (.t none (.t (some [(3, .c (.s)),(10, .c (.i .i64))]) (.t none (.u) (.t none (.t none (.u) (.u)) (.t none (.t none (.t none (.u) (.u)) (.u)) (.u)))) (.u)) (.u))) (.t none (.u) (.u))))) [(0, .c (.s))] [.pointer s1] K rfl (by kernel_rfl) (by kernel_rfl) h
def S.qF (t1:Int) (t2:Option Nat) (K:Sl->World->Prop) (w:World):Prop:=Al w (.cells #[.int .i64 t1, .map t2] 188) fun w3=>∃p4,w3.cell? ((Addr.mk w.heap.size 0 none).add 1)=some (.map p4)/\C.qH p4 (fun r5 w6=>C.qcs r5 (fun r7 w8=>∀l9:Sl->Int->World->Prop,(∀(out10:Sl) (t11:Int) (w12:World),(bif decide (t11<(r7.len:Int)) then (∃a13,r7.a=some a13/\0≤t11/\t11<(r7.len:Int)/\∃t14,w12.cell? (a13.add (t11.toNat*1))=some (.int .i64 t14)/\∃p15,w12.cell? ((Addr.mk w.heap.size 0 none).add 1)=some (.map p15)/\∃t16,∃t17,Lk1 Tryz.prog 186 (.map p15) (.int .i64 t14) (.agg #[.int .i64 t16, .int .i64 t17]) w12/\Al w12 (.cells #[.int .i64 t14, .int .i64 t16, .int .i64 t17] 61) fun w18=>∃(t19:Sl) (w20:World),AppR Tryz.prog [56,56] 56 (.slice out10.a out10.len out10.cap) (.slice (some (Addr.mk w12.heap.size 0 none)) 1 1) w18 t19 w20/\l9 t19 (IntKind.i64.wrap (t11+(1:Int))) w20) else (K out10 w12))->l9 out10 t11 w12)->l9 ⟨none,0,0⟩ (0:Int) w8) w6) w3
theorem S.qF0 (t1:Int) (t2:Option Nat) (K:Sl->World->Prop) (w:World) (h:S.qF t1 t2 K w):C.qF t1 t2 K w:=
 okS Tryz.func136 (.t none (.u) (.t none (.u) (.t none (.t none (.u) (.t none (.t (some [(3, .c (.s)),(11, .c (.i .i64))]) (.t none (.u) (.t none (.t none (.u) (.u)) (.t none (.t none (.t none (.u) (.u)) (.u)) (.u)))) (.u)) (.u))) (.t none (.u) (.u))))) [(0, .c (.s))] [.agg #[.int .i64 t1, .map t2]] K rfl (by kernel_rfl) (by kernel_rfl) h
def S.qaQ (s1:Option Addr) (i2:Int) (n3:Int) (K:Int->World->Prop) (w:World):Prop:=Al w (.cells #[.int .i64 n3] 3) fun w4=>∀k5:Bool->World->Prop,(∀(t6:Bool) (w7:World),(bif t6 then (K (1:Int) w7) else (∀k8:Bool->World->Prop,(∀(t9:Bool) (w10:World),(bif t9 then (K (140:Int) w10) else (Dr w10 fun w11=>∃t12,w11.cell? (Addr.mk w.heap.size 0 none)=some (.int .i64 t12)/\∃a13,s1=some a13/\(Al w11 (.map #[] 0) fun w14=>0≤i2/\i2<(64:Int)/\(StL w14 (a13.add (i2.toNat*2)) 0 [.int .i64 t12, .map (some w11.heap.size)] fun w15=>K (0:Int) w15)/\True)/\True))->k8 t9 w10)->(∃a16,s1=some a16/\0≤i2/\i2<(64:Int)/\∃p17,w7.cell? ((a16.add (i2.toNat*2)).add 1)=some (.map p17)/\bif !p17.isNone then (k8 true w7) else (∃a18,s1=some a18/\C.qd ⟨slA (some a18) 0 64 2,64-0,64-0⟩ (.func (.func 300) #[] #[.pointer (some (Addr.mk w.heap.size 0 none))]) (fun r19 w20=>k8 r19 w20) w7))))->k5 t6 w7)->(C.qbI i2 (fun r21 w22=>bif !r21 then (k5 true w22) else (∃t23,w22.cell? (Addr.mk w.heap.size 0 none)=some (.int .i64 t23)/\k5 (decide (t23<(0:Int))) w22)) w4)
theorem S.qaQ0 (s1:Option Addr) (i2:Int) (n3:Int) (K:Int->World->Prop) (w:World) (h:S.qaQ s1 i2 n3 K w):C.qaQ s1 i2 n3 K w:=
 okS Tryz.func221 (.t none (.u) (.t none (.t none (.r (some [(14, .c (.b))]) .done) (.t none (.t none (.u) (.u)) (.u))) (.t none (.u) (.t none (.t none (.r (some [(31, .c (.b))]) .done) (.t none (.t none (.u) (.u)) (.u))) (.t none (.r none (.one 0 30 (.one 1 124 (.one 2 104 (.one 5 24 (.one 6 24 (.alt 3 (.one 4 0 (.one 7 0 (.alt 8 (.done) (.none)))) (.none)))))))) (.t none (.u) (.u))))))) [(0, .c (.i .i64))] [.pointer s1, .int .i64 i2, .int .i64 n3] K rfl (by kernel_rfl) (by kernel_rfl) h
def S.qaT (s1:Option Addr) (n2:Int) (p3:Int) (p4:Int) (K:Int->World->Prop) (w:World):Prop:=Al w (.cells #[.int .i64 p3, .int .i64 p4] 59) fun w5=>∀k6:Bool->World->Prop,(∀(t7:Bool) (w8:World),(bif t7 then (K (1:Int) w8) else (C.qaK s1 n2 (fun r9 r10 w11=>bif !r10 then (K (141:Int) w11) else (∃a12,r9=some a12/\∃p13,w11.cell? (a12.add 1)=some (.map p13)/\∃t14,∃t15,∃is16,LkB Tryz.prog 186 (.map p13) (.int .i64 n2) (.agg #[.int .i64 t14, .int .i64 t15]) is16 w11/\Al w11 (.cells #[.int .i64 0, .int .i64 0] 59) fun w17=>StL w17 (Addr.mk w11.heap.size 0 none) 0 [.int .i64 t14, .int .i64 t15] fun w18=>bif is16 then (K (140:Int) w18) else (Dr w18 fun w19=>∃a20,r9=some a20/\∃p21,w19.cell? (a20.add 1)=some (.map p21)/\LdL w19 (Addr.mk w.heap.size 0 none) 0 [.i .i64, .i .i64] fun (t22:Int) (t23:Int)=>(∃w24:World,UpdR Tryz.prog 186 (.map p21) (.int .i64 n2) (.agg #[.int .i64 t22, .int .i64 t23]) w19 w24/\K (0:Int) w24)/\True))) w8))->k6 t7 w8)->(C.qbX n2 (fun r25 w26=>bif !r25 then (k6 true w26) else (∃frame27,w26.cell? (Addr.mk w.heap.size 0 none)=some (.int .i64 frame27)/\bif decide (frame27<(0:Int)) then (k6 true w26) else (∃rights28,w26.cell? ((Addr.mk w.heap.size 0 none).add 1)=some (.int .i64 rights28)/\C.qci rights28 (fun r29 w30=>k6 (!r29) w30) w26))) w5)
theorem S.qaT0 (s1:Option Addr) (n2:Int) (p3:Int) (p4:Int) (K:Int->World->Prop) (w:World) (h:S.qaT s1 n2 p3 p4 K w):C.qaT s1 n2 p3 p4 K w:=
 okS Tryz.func222 (.t none (.u) (.t none (.t none (.r (some [(24, .c (.b))]) .done) (.t none (.t none (.u) (.u)) (.u))) (.t none (.u) (.t none (.t none (.u) (.t none (.t none (.u) (.u)) (.u))) (.t none (.t none (.u) (.t none (.u) (.t none (.t none (.u) (.u)) (.u)))) (.t none (.r none (.one 0 48 (.one 1 48 (.one 2 48 (.one 3 48 (.one 4 32 (.one 5 0 (.alt 6 (.done) (.none))))))))) (.t none (.u) (.u)))))))) [(0, .c (.i .i64))] [.pointer s1, .int .i64 n2, .agg #[.int .i64 p3, .int .i64 p4]] K rfl (by kernel_rfl) (by kernel_rfl) h
def S.qag (s1:Option Addr) (n2:Int) (K:Int->Int->Int->World->Prop) (w:World):Prop:=Al w (.cells #[.int .i64 0, .int .i64 0] 59) fun w3=>C.qbX n2 (fun r4 w5=>bif !r4 then (StL w5 (Addr.mk w.heap.size 0 none) 0 [.int .i64 0, .int .i64 0] fun w6=>LdL w6 (Addr.mk w.heap.size 0 none) 0 [.i .i64, .i .i64] fun (r7:Int) (r8:Int)=>K r7 r8 (1:Int) w6) else (C.qbl s1 n2 (fun r9 r10 r11 w12=>Al w12 (.cells #[.int .i64 0, .int .i64 0] 59) fun w13=>StL w13 (Addr.mk w12.heap.size 0 none) 0 [.int .i64 r9, .int .i64 r10] fun w14=>bif !r11 then (StL w14 (Addr.mk w.heap.size 0 none) 0 [.int .i64 0, .int .i64 0] fun w15=>LdL w15 (Addr.mk w.heap.size 0 none) 0 [.i .i64, .i .i64] fun (r16:Int) (r17:Int)=>K r16 r17 (141:Int) w15) else (C.qaK s1 n2 (fun r18 r19 w20=>∃a21,r18=some a21/\∃p22,w20.cell? (a21.add 1)=some (.map p22)/\∃w23:World,DelR Tryz.prog [186,3] 0 (.map p22) (.int .i64 n2) w20 w23/\LdL w23 (Addr.mk w12.heap.size 0 none) 0 [.i .i64, .i .i64] fun (t24:Int) (t25:Int)=>StL w23 (Addr.mk w.heap.size 0 none) 0 [.int .i64 t24, .int .i64 t25] fun w26=>LdL w26 (Addr.mk w.heap.size 0 none) 0 [.i .i64, .i .i64] fun (r27:Int) (r28:Int)=>K r27 r28 (0:Int) w26) w14)) w5)) w3
theorem S.qag0 (s1:Option Addr) (n2:Int) (K:Int->Int->Int->World->Prop) (w:World) (h:S.qag s1 n2 K w):C.qag s1 n2 K w:=
 okS Tryz.func223 (.t none (.u) (.t none (.t none (.u) (.t none (.t none (.u) (.u)) (.u))) (.t none (.u) (.t none (.t none (.u) (.t none (.t none (.u) (.u)) (.u))) (.t none (.u) (.t none (.u) (.t none (.u) (.u)))))))) [(0, .a [.i .i64, .i .i64]),(1, .c (.i .i64))] [.pointer s1, .int .i64 n2] K rfl (by kernel_rfl) (by kernel_rfl) h
def S.qbI (i1:Int) (K:Bool->World->Prop) (w:World):Prop:=bif decide (i1≥(0:Int)) then (K (decide (i1<(64:Int))) w) else (K false w)
theorem S.qbI0 (i1:Int) (K:Bool->World->Prop) (w:World) (h:S.qbI i1 K w):C.qbI i1 K w:=
 okS Tryz.func299 (.t none (.u) (.t none (.u) (.u))) [(0, .c (.b))] [.int .i64 i1] K rfl (by kernel_rfl) (by kernel_rfl) h
def S.qaX (t1:Int) (t2:Option Nat) (t3:Addr) (K:Bool->World->Prop) (w:World):Prop:=Al w (.cells #[.int .i64 t1, .map t2] 188) fun w4=>∃p5,w4.cell? ((Addr.mk w.heap.size 0 none).add 1)=some (.map p5)/\bif !p5.isNone then (∃n6,w4.cell? (Addr.mk w.heap.size 0 none)=some (.int .i64 n6)/\∃t7,w4.cell? t3=some (.int .i64 t7)/\K (n6==t7) w4) else (K false w4)
theorem S.qaX0 (t1:Int) (t2:Option Nat) (t3:Addr) (K:Bool->World->Prop) (w:World) (h:S.qaX t1 t2 t3 K w):C.qaX t1 t2 t3 K w:=
 okS Tryz.func300 (.t none (.u) (.t none (.u) (.u))) [(0, .c (.b))] [.agg #[.int .i64 t1, .map t2], .pointer (some t3)] K rfl (by kernel_rfl) (by kernel_rfl) h
def S.qbX (n1:Int) (K:Bool->World->Prop) (w:World):Prop:=bif decide (n1≥(0:Int)) then (K (decide (n1<(4096:Int))) w) else (K false w)
theorem S.qbX0 (n1:Int) (K:Bool->World->Prop) (w:World) (h:S.qbX n1 K w):C.qbX n1 K w:=
 okS Tryz.func302 (.t none (.u) (.t none (.u) (.u))) [(0, .c (.b))] [.int .i64 n1] K rfl (by kernel_rfl) (by kernel_rfl) h
def S.qci (n1:Int) (K:Bool->World->Prop) (w:World):Prop:=bif decide (n1≥(0:Int)) then (K (decide (n1≤(7:Int))) w) else (K false w)
theorem S.qci0 (n1:Int) (K:Bool->World->Prop) (w:World) (h:S.qci n1 K w):C.qci n1 K w:=
 okS Tryz.func303 (.t none (.u) (.t none (.u) (.u))) [(0, .c (.b))] [.int .i64 n1] K rfl (by kernel_rfl) (by kernel_rfl) h
def S.qaK (s1:Option Addr) (n2:Int) (K:Option Addr->Bool->World->Prop) (w:World):Prop:=C.qbB (IntKind.u64.wrap n2) (6:Int) (6:Int) (fun r3 r4 w5=>Dr w5 fun w6=>∃a7,s1=some a7/\0≤r3/\r3<(64:Int)/\∃a8,s1=some a8/\0≤r3/\r3<(64:Int)/\∃p9,w6.cell? ((a8.add (r3.toNat*2)).add 1)=some (.map p9)/\K (some (a7.add (r3.toNat*2))) (!p9.isNone) w6) w
theorem S.qaK0 (s1:Option Addr) (n2:Int) (K:Option Addr->Bool->World->Prop) (w:World) (h:S.qaK s1 n2 K w):C.qaK s1 n2 K w:=
 okS Tryz.func304 (.t none (.u) (.t none (.u) (.t none (.r none (.one 0 8162 (.one 1 8172 (.one 2 8160 (.one 3 8160 (.one 4 8160 (.one 5 8256 (.one 6 8576 (.one 7 8192 (.one 8 8192 (.one 9 8192 (.one 10 8192 (.one 11 8192 (.one 12 8192 (.one 13 0 (.one 14 0 (.done))))))))))))))))) (.u)))) [(0, .c (.p)),(1, .c (.b))] [.pointer s1, .int .i64 n2] K rfl (by kernel_rfl) (by kernel_rfl) h
def S.qbl (s1:Option Addr) (n2:Int) (K:Int->Int->Bool->World->Prop) (w:World):Prop:=Al w (.cells #[.int .i64 0, .int .i64 0] 59) fun w3=>C.qbX n2 (fun r4 w5=>bif !r4 then (StL w5 (Addr.mk w.heap.size 0 none) 0 [.int .i64 0, .int .i64 0] fun w6=>LdL w6 (Addr.mk w.heap.size 0 none) 0 [.i .i64, .i .i64] fun (r7:Int) (r8:Int)=>K r7 r8 false w6) else (C.qaK s1 n2 (fun r9 r10 w11=>∃a12,r9=some a12/\∃p13,w11.cell? (a12.add 1)=some (.map p13)/\∃t14,∃t15,∃is16,LkB Tryz.prog 186 (.map p13) (.int .i64 n2) (.agg #[.int .i64 t14, .int .i64 t15]) is16 w11/\Al w11 (.cells #[.int .i64 0, .int .i64 0] 59) fun w17=>StL w17 (Addr.mk w11.heap.size 0 none) 0 [.int .i64 t14, .int .i64 t15] fun w18=>LdL w18 (Addr.mk w11.heap.size 0 none) 0 [.i .i64, .i .i64] fun (t19:Int) (t20:Int)=>StL w18 (Addr.mk w.heap.size 0 none) 0 [.int .i64 t19, .int .i64 t20] fun w21=>LdL w21 (Addr.mk w.heap.size 0 none) 0 [.i .i64, .i .i64] fun (r22:Int) (r23:Int)=>K r22 r23 is16 w21) w5)) w3
theorem S.qbl0 (s1:Option Addr) (n2:Int) (K:Int->Int->Bool->World->Prop) (w:World) (h:S.qbl s1 n2 K w):C.qbl s1 n2 K w:=
 okS Tryz.func305 (.t none (.u) (.t none (.t none (.u) (.t none (.t none (.u) (.u)) (.u))) (.t none (.u) (.t none (.u) (.t none (.u) (.u)))))) [(0, .a [.i .i64, .i .i64]),(1, .c (.b))] [.pointer s1, .int .i64 n2] K rfl (by kernel_rfl) (by kernel_rfl) h
def S.qaE (s1:Option Addr) (frame2:Int) (K:Sl->World->Prop) (w:World):Prop:=C.qap s1 (fun r3 w4=>∀l5:Sl->Int->World->Prop,(∀(out6:Sl) (t7:Int) (w8:World),(bif decide (t7<(r3.len:Int)) then (∃a9,r3.a=some a9/\0≤t7/\t7<(r3.len:Int)/\LdL w8 (a9.add (t7.toNat*3)) 0 [.i .i64, .i .i64, .i .i64] fun (t10:Int) (t11:Int) (t12:Int)=>Al w8 (.cells #[.int .i64 0, .int .i64 0, .int .i64 0] 61) fun w13=>StL w13 (Addr.mk w8.heap.size 0 none) 0 [.int .i64 t10, .int .i64 t11, .int .i64 t12] fun w14=>∃frame15,w14.cell? ((Addr.mk w8.heap.size 0 none).add 1)=some (.int .i64 frame15)/\bif frame15==frame2 then (∃at16,w14.cell? (Addr.mk w8.heap.size 0 none)=some (.int .i64 at16)/\Al w14 (.cells #[.int .i64 at16] 3) fun w17=>∃(t18:Sl) (w19:World),AppR Tryz.prog [26,26] 26 (.slice out6.a out6.len out6.cap) (.slice (some (Addr.mk w14.heap.size 0 none)) 1 1) w17 t18 w19/\l5 t18 (IntKind.i64.wrap (t7+(1:Int))) w19) else (l5 out6 (IntKind.i64.wrap (t7+(1:Int))) w14)) else (K out6 w8))->l5 out6 t7 w8)->l5 ⟨none,0,0⟩ (0:Int) w4) w
theorem S.qaE0 (s1:Option Addr) (frame2:Int) (K:Sl->World->Prop) (w:World) (h:S.qaE s1 frame2 K w):C.qaE s1 frame2 K w:=
 okS Tryz.func336 (.t none (.u) (.t none (.u) (.t none (.t none (.u) (.t none (.t (some [(5, .c (.s)),(11, .c (.i .i64))]) (.t none (.u) (.t none (.t none (.u) (.u)) (.t none (.t none (.t none (.u) (.t none (.u) (.t none (.u) (.u)))) (.u)) (.u)))) (.u)) (.u))) (.t none (.u) (.u))))) [(0, .c (.s))] [.pointer s1, .int .i64 frame2] K rfl (by kernel_rfl) (by kernel_rfl) h
def S.qbz (s1:Option Addr) (i2:Int) (K:Int->Bool->World->Prop) (w:World):Prop:=∀k3:Bool->World->Prop,(∀(t4:Bool) (w5:World),(bif t4 then (K (0:Int) false w5) else (∃a6,s1=some a6/\0≤i2/\i2<(64:Int)/\∃n7,w5.cell? (a6.add (i2.toNat*2))=some (.int .i64 n7)/\K n7 true w5))->k3 t4 w5)->(C.qbI i2 (fun r8 w9=>bif !r8 then (k3 true w9) else (∃a10,s1=some a10/\0≤i2/\i2<(64:Int)/\∃p11,w9.cell? ((a10.add (i2.toNat*2)).add 1)=some (.map p11)/\k3 p11.isNone w9)) w)
theorem S.qbz0 (s1:Option Addr) (i2:Int) (K:Int->Bool->World->Prop) (w:World) (h:S.qbz s1 i2 K w):C.qbz s1 i2 K w:=
 okS Tryz.func337 (.t none (.u) (.t none (.t none (.r (some [(18, .c (.b))]) .done) (.t none (.t none (.u) (.u)) (.u))) (.t none (.u) (.u)))) [(0, .c (.i .i64)),(1, .c (.b))] [.pointer s1, .int .i64 i2] K rfl (by kernel_rfl) (by kernel_rfl) h
def S.qbm (s1:Option Addr) (i2:Int) (K:Sl->Int->World->Prop) (w:World):Prop:=C.qbI i2 (fun r3 w4=>bif !r3 then (K ⟨none,0,0⟩ (1:Int) w4) else (∃a5,s1=some a5/\0≤i2/\i2<(64:Int)/\∃p6,w4.cell? ((a5.add (i2.toNat*2)).add 1)=some (.map p6)/\bif p6.isNone then (K ⟨none,0,0⟩ (141:Int) w4) else (∃a7,s1=some a7/\0≤i2/\i2<(64:Int)/\LdL w4 (a7.add (i2.toNat*2)) 0 [.i .i64, .m] fun (t8:Int) (t9:Option Nat)=>C.qF t8 t9 (fun r10 w11=>∃a12,s1=some a12/\0≤i2/\i2<(64:Int)/\StL w11 (a12.add (i2.toNat*2)) 0 [.int .i64 0, .map none] fun w13=>K r10 (0:Int) w13) w4))) w
theorem S.qbm0 (s1:Option Addr) (i2:Int) (K:Sl->Int->World->Prop) (w:World) (h:S.qbm s1 i2 K w):C.qbm s1 i2 K w:=
 okS Tryz.func338 (.t none (.u) (.t none (.t none (.t none (.u) (.t none (.t none (.u) (.u)) (.t none (.u) (.t none (.t none (.u) (.u)) (.u))))) (.u)) (.t none (.u) (.t none (.u) (.t none (.u) (.u)))))) [(0, .c (.s)),(1, .c (.i .i64))] [.pointer s1, .int .i64 i2] K rfl (by kernel_rfl) (by kernel_rfl) h
end Go.Proofs.YtogmbmdbgkopjaaGreat
end
section
set_option maxRecDepth 8000
namespace Go.Proofs.YtogmbmdbgkopjaaGreat.Sl
open Go Go.Vc Go.Proofs
abbrev Slot:=Int × Int
abbrev Hs:=Slot->Option Cap
abbrev slV (s:Sl):Value:= .slice s.a s.len s.cap
def sizeN (bits:List Int) (n:Int):Option Int:=if n<0 then none else match bits[n.toNat]? with|some z=>if z= -1 then none else some z|none=>none
def thereB (bits:List Int) (s:Slot):Bool:=match sizeN bits s.1 with|some z=>decide (0≤s.2/\s.2<2^z.toNat)|none=>false
structure NOk (bits:List Int) (H:Hs):Prop where
 few:bits.length≤64
 rng:∀z∈bits,z= -1∨(1≤z/\z≤8)
 held:∀s c,H s=some c->thereB bits s=true/\capErr c=0/\c.kind≠0/\CapR c
def updH (H:Hs) (s:Slot) (o:Option Cap):Hs:=fun k=>if k=s then o else H k
structure Nx where
 s:Sl
 m:Nat
 M:List (Slot × Cap)
abbrev slotsA (m:Nat) (M:List (Slot × Cap)):Asn:=MapA encPair encCap m M
def NodesA (b:Nat) (bits:List Int) (H:Hs):Asn:=ExA fun x:Nx=>StarA [PureA (NOk bits H/\∀k,mget x.M k=H k),BlkA b [slV x.s, .map (some x.m)],SlT intE x.s bits,slotsA x.m x.M]
theorem sizeN_some {bits:List Int} {n z:Int} (h:sizeN bits n=some z):0≤n/\bits[n.toNat]?=some z/\z≠ -1:=by
 unfold sizeN at h;split at h
 ·cases h
 ·split at h
  ·split at h
   ·cases h
   ·cases h;exact ⟨by omega,by assumption,by assumption⟩
  ·cases h
theorem sizeN_rng {bits:List Int} {H:Hs} (hk:NOk bits H) {n z:Int} (h:sizeN bits n=some z):1≤z/\z≤8:=by
 obtain ⟨_,h2,h3⟩:=sizeN_some h;rcases hk.rng z (List.mem_of_getElem? h2) with e|e
 ·exact absurd e h3
 ·exact e
theorem keySlot:KeyOk Tryz.prog 40 encPair:=
 keyOk_pair Tryz.underlying40 Tryz.underlying3 Tryz.underlying3 (by decide) (by decide) rfl rfl (fun a b c d=>by kernel_rfl)
theorem zeroCapV (w:World):(zeroValue 42).run Tryz.prog w= .ok (encCap zeroCap) w:=Tryz.zeroValue42 w
section
variable {B:Nat} {w0 w:World} {R L:List Asn} {b:Nat} {bits:List Int} {H:Hs}
theorem _root_.Go.Vc.Own.nodes (h:Own B w0 w (NodesA b bits H::R)):∃x:Nx,NOk bits H/\(∀k,mget x.M k=H k)/\Own B w0 w (BlkA b [slV x.s, .map (some x.m)]::SlT intE x.s bits::slotsA x.m x.M::R):=by
 obtain ⟨x,h⟩:=h.ex;obtain ⟨⟨h1,h2⟩,h⟩:=Own.pure h.star;exact ⟨x,h1,h2,h⟩
theorem _root_.Go.Vc.Own.mk_nodes {s:Sl} {m:Nat} {M:List (Slot × Cap)} (h1:NOk bits H) (h2:∀k,mget M k=H k) (h:Own B w0 w (BlkA b [slV s, .map (some m)]::SlT intE s bits::slotsA m M::R)):Own B w0 w (NodesA b bits H::R):=
 Own.mk_ex ⟨s,m,M⟩ (Own.mk_star (Own.mk_pure ⟨h1,h2⟩ h))
theorem _root_.Go.Vc.Own.nok (h:Own B w0 w (NodesA b bits H::R)):NOk bits H:=by obtain ⟨_,h,_⟩:=h.nodes;exact h
theorem slots_New_spec {K:Option Addr->World->Prop} (h:Own B w0 w R) (hK:∀b w',Own B w0 w' (NodesA b [] (fun _=>none)::R)->K (some ⟨b,0,none⟩) w'):C.qcz K w:=by
 apply S.qcz0;unfold S.qcz;refine h.alMap encPair encCap fun w1 h=>?_
 refine h.al fun w2 h=>?_
 refine hK _ w2 (Own.mk_nodes (s:=⟨none,0,0⟩) (m:=w.heap.size) (M:=[]) ⟨by simp,by simp,fun s c h=>by cases h⟩ (fun k=>rfl) ?_);exact (Own.nilS h).perm (List.Perm.swap _ _ _)
theorem slots_Nodes_Size_spec {n:Int} {K:Int->Bool->World->Prop} (h:Own B w0 w L) (i:Nat) (hi:L[i]?=some (NodesA b bits H)) (hK:K ((sizeN bits n).getD 0) (sizeN bits n).isSome w):C.qaU (some ⟨b,0,none⟩) n K w:=by
 apply S.qaU0;unfold S.qaU;obtain ⟨x,hk,hM,h⟩:=(h.take i hi).nodes;have hlen:=h.len 1 rfl;intro k3 hk3;by_cases h0:n<0
 ·rw[show decide (n<0)=true from by simpa using h0,cond_true]
  apply hk3;rw[cond_true];have:sizeN bits n=none:=by unfold sizeN;rw[if_pos h0]
  rw[this] at hK;exact hK
 rw[show decide (n<0)=false from by simpa using h0,cond_false];refine ⟨_,rfl,x.s,h.ld0 0 rfl rfl, ?_⟩;by_cases h1:(x.s.len:Int)≤n
 ·rw[show decide (n≥(x.s.len:Int))=true from by simpa using h1,cond_true]
  apply hk3;rw[cond_true]
  have:sizeN bits n=none:=by
   unfold sizeN;rw[if_neg h0,List.getElem?_eq_none (by omega)]
  rw[this] at hK;exact hK
 rw[show decide (n≥(x.s.len:Int))=false from by simpa using h1,cond_false];have hz:bits[n.toNat]?=some bits[n.toNat]:=gE (by omega);obtain ⟨a,ha,hc⟩:=h.getI 1 rfl hz;refine ⟨_,rfl,x.s,h.ld0 0 rfl rfl,a,ha,by omega,by omega,_,hc, ?_⟩;apply hk3;by_cases e:bits[n.toNat]= -1
 ·rw[show (bits[n.toNat]== -1)=true from by simpa using e,cond_true]
  have:sizeN bits n=none:=by unfold sizeN;rw[if_neg h0,hz];simp[e]
  rw[this] at hK;exact hK
 ·rw[show (bits[n.toNat]== -1)=false from by simpa using e,cond_false]
  have:sizeN bits n=some bits[n.toNat]:=by unfold sizeN;rw[if_neg h0,hz];simp[e]
  rw[this] at hK;exact ⟨_,rfl,x.s,h.ld0 0 rfl rfl,a,ha,by omega,by omega,_,hc,hK⟩
theorem shl_two (z:Nat) (hz:z≤62):shlI .i64 1 (z:Int)=((2^z:Nat):Int):=by
 unfold shlI;rw[Int.toNat_natCast,show IntKind.i64.bits=64 from rfl,Nat.min_eq_left (by omega),Int.one_mul,show ((2:Int)^z)=((2^z:Nat):Int) from by simp];have hp:(2:Nat)^62=4611686018427387904:=by decide
 have:2^z≤2^62:=Nat.pow_le_pow_right (by omega) hz;rw[hp] at this;generalize 2^z=y at*
 exact wr (by omega) (by omega)
theorem slots_Nodes_there_spec {s:Slot} {K:Bool->World->Prop} (h:Own B w0 w L) (i:Nat) (hi:L[i]?=some (NodesA b bits H)) (hK:∀w',Own B w0 w' L->K (thereB bits s) w'):C.qM (some ⟨b,0,none⟩) s.1 s.2 K w:=by
 apply S.qM0;unfold S.qM;have hk:=(h.take i hi).nok;refine h.al fun w1 h=>?_
 refine ⟨s.1,h.ld0 0 rfl rfl, ?_⟩;refine slots_Nodes_Size_spec h (i+1) (by simpa using hi) ?_;refine h.dr fun w2 h=>?_
 cases hz:sizeN bits s.1 with
 |none=>
  rw[Option.isSome_none,cond_false];have:thereB bits s=false:=by unfold thereB;rw[hz]
  rw[←this];exact hK w2 h.drop
 |some z=>
  have hr:=sizeN_rng hk hz;rw[Option.isSome_some,cond_true,Option.getD_some];refine ⟨s.2,h.ld 0 rfl rfl, ?_⟩;have hth:thereB bits s=decide (0≤s.2/\s.2<2^z.toNat):=by unfold thereB;rw[hz]
  by_cases e:0≤s.2
  ·rw[show decide (s.2≥0)=true from by simpa using e,cond_true]
   refine ⟨s.2,h.ld 0 rfl rfl,by omega, ?_⟩;obtain ⟨y,rfl⟩:=Int.eq_ofNat_of_zero_le (by omega:0≤z);rw[shl_two y (by omega)]
   have:decide (s.2<((2^y:Nat):Int))=thereB bits s:=by
    rw[hth,decide_eq_decide,Int.toNat_natCast,show ((2:Int)^y)=((2^y:Nat):Int) from by simp];exact ⟨fun h=>⟨e,h⟩,fun h=>h.2⟩
   rw[this];exact hK w2 h.drop
  ·rw[show decide (s.2≥0)=false from by simpa using e,cond_false]
   have:thereB bits s=false:=by rw[hth,decide_eq_false];rintro ⟨h1,_⟩;exact e h1
   rw[←this];exact hK w2 h.drop
end
theorem app1_intsV {B:Nat} {w0 w:World} {L:List Asn} {s:Sl} {xs:List Int} {y:Int} {c:Nat} {k:Sl->World->Prop} (h:Own B w0 w (BlkA c [.int .i64 y]::L)) (i:Nat) (hL:L[i]?=some (SlT intE s xs))
  (hbig:xs.length≤1000000000000) (hk:∀s' w',s'.len=xs.length+1->Own B w0 w' (L.set i (SlT intE s' (xs++ [y])))->k s' w'):
  ∃s' w',AppR Tryz.prog [26,26] 26 (.slice s.a s.len s.cap) (.slice (some (Addr.mk c 0 none)) 1 1) w s' w'/\k s' w':=
 Own.app1 (E:=intE) (y:=y) Tryz.underlying26 (show Tryz.prog.info? 3=some Tryz.t3 from by kernel_rfl) (zv:= .int .i64 0) (by kernel_rfl) (by kernel_rfl) rfl (by decide) h i hL (by
  have e:Tryz.t3.bytes=8:=by kernel_rfl
  rw[e];omega) hk
def makeN (bits:List Int) (z:Int):Int × Int × List Int:=if z<1∨8<z then (0,1,bits) else if 64≤bits.length then (0,2,bits) else ((bits.length:Int),0,bits++ [z])
theorem sizeN_append {bits:List Int} {n z y:Int} (h:sizeN bits n=some z):sizeN (bits++ [y]) n=some z:=by
 obtain ⟨h1,h2,h3⟩:=sizeN_some h;unfold sizeN;rw[if_neg (by omega),List.getElem?_append_left (List.getElem?_eq_some_iff.1 h2).1,h2];simp[h3]
theorem there_append {bits:List Int} {s:Slot} {y:Int} (h:thereB bits s=true):thereB (bits++ [y]) s=true:=by
 unfold thereB at h⊢;cases hz:sizeN bits s.1 with
 |none=>rw[hz] at h;cases h
 |some z=>rw[hz] at h;rw[sizeN_append hz];exact h
theorem NOk.make {bits:List Int} {H:Hs} (h:NOk bits H) {z:Int} (h1:1≤z) (h2:z≤8) (hf:bits.length<64):NOk (bits++ [z]) H:=by
 refine ⟨by simp;omega,fun y hy=>?_,fun s c hs=>?_⟩
 ·rcases List.mem_append.1 hy with hy|hy
  ·exact h.rng y hy
  ·simp only[List.mem_singleton] at hy;subst hy;exact .inr ⟨h1,h2⟩
 ·obtain ⟨g1,g2⟩:=h.held s c hs
  exact ⟨there_append g1,g2⟩
section
variable {B:Nat} {w0 w:World} {R L:List Asn} {b:Nat} {bits:List Int} {H:Hs}
theorem slots_Nodes_Make_spec {z:Int} {K:Int->Int->World->Prop} (h:Own B w0 w (NodesA b bits H::R)) (hK:∀w',Own B w0 w' (NodesA b (makeN bits z).2.2 H::R)->K (makeN bits z).1 (makeN bits z).2.1 w'):C.qaR (some ⟨b,0,none⟩) z K w:=by
 apply S.qaR0;unfold S.qaR;intro k3 hk3;by_cases h0:z<1
 ·rw[show decide (z<1)=true from by simpa using h0,cond_true]
  apply hk3;rw[cond_true];have e:makeN bits z=(0,1,bits):=by unfold makeN;rw[if_pos (.inl h0)]
  rw[e] at hK;exact hK w h
 rw[show decide (z<1)=false from by simpa using h0,cond_false];apply hk3;by_cases h1:8<z
 ·rw[show decide (z>8)=true from by simpa using h1,cond_true]
  have e:makeN bits z=(0,1,bits):=by unfold makeN;rw[if_pos (.inr h1)]
  rw[e] at hK;exact hK w h
 rw[show decide (z>8)=false from by simpa using h1,cond_false];obtain ⟨x,hk,hM,h⟩:=h.nodes;have hlen:=h.len 1 rfl;have hfew:=hk.few;refine ⟨_,rfl,x.s,h.ld0 0 rfl rfl, ?_⟩;by_cases h2:64≤bits.length
 ·rw[show decide ((x.s.len:Int)≥64)=true from by simp;omega,cond_true]
  have e:makeN bits z=(0,2,bits):=by unfold makeN;rw[if_neg (by omega),if_pos h2]
  rw[e] at hK;exact hK w (Own.mk_nodes hk hM h)
 ·rw[show decide ((x.s.len:Int)≥64)=false from by simp;omega,cond_false]
  have e:makeN bits z=((bits.length:Int),0,bits++ [z]):=by unfold makeN;rw[if_neg (by omega),if_neg h2]
  rw[e] at hK;refine ⟨_,rfl,x.s,h.ld0 0 rfl rfl, ?_⟩;refine h.al fun w1 h=>?_
  refine app1_intsV h 1 rfl (by omega) fun s' w2 hs' h=>?_
  refine ⟨_,rfl, ?_⟩;refine h.st 0 rfl rfl rfl fun w3 h=>?_
  refine ⟨_,rfl,s',h.ld0 0 rfl rfl, ?_⟩;have e2:IntKind.i64.wrap ((s'.len:Int)-1)=(bits.length:Int):=by rw[wr (by omega) (by omega)];omega
  rw[e2];exact hK w3 (Own.mk_nodes (s:=s') (hk.make (by omega) (by omega) (by omega)) hM h)
theorem slots_Nodes_Get_spec {s:Slot} {K:Int->Int->Int->Int->Int->Int->Int->World->Prop} (h:Own B w0 w L) (i:Nat) (hi:L[i]?=some (NodesA b bits H))
  (h1:thereB bits s=false->∀w',Own B w0 w' L->K 0 0 0 0 0 0 50 w')
  (h2:thereB bits s=true->∀w' c,c=(H s).getD zeroCap->Own B w0 w' L->K c.kind c.obj c.rights c.badge c.guard c.bits 0 w'):C.qL (some ⟨b,0,none⟩) s.1 s.2 K w:=by
 apply S.qL0;unfold S.qL;refine h.al fun w1 h=>?_
 refine h.al fun w2 h=>?_
 refine h.ld_2 1 rfl rfl ?_;refine slots_Nodes_there_spec h (i+2) (by simpa using hi) fun w3 h=>?_
 cases ht:thereB bits s with
 |false=>
  rw[Bool.not_false,cond_true];refine h.stL 0 rfl rfl rfl fun w4 h=>?_
  refine h.ld_6 0 rfl rfl ?_;exact h1 ht w4 h.drop.drop
 |true=>
  rw[Bool.not_true,cond_false];refine h.dr fun w4 h=>?_
  have hn:Own B w0 w4 (NodesA b bits H::(BlkA w1.heap.size [.int .i64 0, .int .i64 0, .int .i64 0, .int .u64 0, .int .u64 0, .int .i64 0]::BlkA w.heap.size [.int .i64 s.1, .int .i64 s.2]::L).eraseIdx (i+2)):=h.take (i+2) (by simpa using hi);obtain ⟨x,hk,hM,hn⟩:=hn.nodes;refine ⟨_,rfl,some x.m,hn.ld 0 rfl rfl, ?_⟩;refine h.ld_2 1 rfl rfl ?_
  have hl:Lk1 Tryz.prog 180 (.map (some x.m)) (encPair s) (encCap ((H s).getD zeroCap)) w4:=by
   cases hs:H s with
   |none=>exact (hn.mlook0 Tryz.underlying180 keySlot zeroCapV 2 rfl (by rw[hM,hs])).2
   |some c=>exact (hn.mlook Tryz.underlying180 keySlot 2 rfl (by rw[hM,hs];rfl)).2
  generalize hc:(H s).getD zeroCap=c at hl;refine ⟨⟨c.kind,c.obj,c.rights,c.badge,c.guard,c.bits,hl, ?_,trivial⟩,trivial⟩;refine h.stL 0 rfl rfl rfl fun w5 h=>?_
  refine h.ld_6 0 rfl rfl ?_;exact h2 ht w5 c hc.symm h.drop.drop
theorem look2 {s:Slot} {m:Nat} {M:List (Slot × Cap)} {k:Addr->Bool->World->Prop} (h:Own B w0 w L) (i:Nat) (hi:L[i]?=some (slotsA m M)) (o:Option Cap) (ho:mget M s=o)
  (hk:∀w',Own B w0 w' (BlkA w.heap.size (o.getD zeroCap).cells::L)->k ⟨w.heap.size,0,none⟩ o.isSome w'):
  (∃t52:Int,∃t53:Int,∃t54:Int,∃t55:Int,∃t56:Int,∃t57:Int,∃is58:Bool,LkB Tryz.prog 180 (.map (some m)) (.agg #[.int .i64 s.1, .int .i64 s.2]) (.agg #[.int .i64 t52, .int .i64 t53, .int .i64 t54, .int .u64 t55, .int .u64 t56, .int .i64 t57]) is58 w/\
  (Al w (.cells #[.int .i64 (0:Int), .int .i64 (0:Int), .int .i64 (0:Int), .int .u64 (0:Int), .int .u64 (0:Int), .int .i64 (0:Int)] 42) fun w59=>
  (StL w59 (Addr.mk w.heap.size 0 none) 0 [.int .i64 t52, .int .i64 t53, .int .i64 t54, .int .u64 t55, .int .u64 t56, .int .i64 t57] fun w60=>
  k (Addr.mk w.heap.size 0 none) is58 w60)/\
  True)/\
  True)/\
  (Al w (.cells #[.int .i64 (0:Int), .int .i64 (0:Int), .int .i64 (0:Int), .int .u64 (0:Int), .int .u64 (0:Int), .int .i64 (0:Int)] 42) fun w61=>
  (∃t62:Int,∃t63:Int,∃t64:Int,∃t65:Int,∃t66:Int,∃t67:Int,∃is68:Bool,LkB Tryz.prog 180 (.map (some m)) (.agg #[.int .i64 s.1, .int .i64 s.2]) (.agg #[.int .i64 t62, .int .i64 t63, .int .i64 t64, .int .u64 t65, .int .u64 t66, .int .i64 t67]) is68 w61/\
  (StL w61 (Addr.mk w.heap.size 0 none) 0 [.int .i64 t62, .int .i64 t63, .int .i64 t64, .int .u64 t65, .int .u64 t66, .int .i64 t67] fun w69=>
  k (Addr.mk w.heap.size 0 none) is68 w69)/\
  True)/\
  True)/\
  True:=by
 have hl:∀(w':World) (L':List Asn) (j:Nat),Own B w0 w' L'->L'[j]?=some (slotsA m M)->LkB Tryz.prog 180 (.map (some m)) (encPair s) (encCap (o.getD zeroCap)) o.isSome w':=by
  intro w' L' j h hj;cases o with
  |none=>exact (h.mlook0 Tryz.underlying180 keySlot zeroCapV j hj ho).1
  |some c=>exact (h.mlook Tryz.underlying180 keySlot j hj ho).1
 generalize hc:o.getD zeroCap=c at hl hk;refine ⟨⟨c.kind,c.obj,c.rights,c.badge,c.guard,c.bits,o.isSome,hl w L i h hi, ?_,trivial⟩, ?_,trivial⟩
 ·refine h.al fun w2 h=>⟨?_,trivial⟩
  refine h.stL 0 rfl rfl rfl fun w3 h=>?_
  exact hk w3 h
 ·refine h.al fun w2 h=>⟨⟨c.kind,c.obj,c.rights,c.badge,c.guard,c.bits,o.isSome,hl w2 _ (i+1) h (by simpa using hi), ?_,trivial⟩,trivial⟩
  refine h.stL 0 rfl rfl rfl fun w3 h=>?_
  exact hk w3 h
end
theorem NOk.put {bits:List Int} {H:Hs} (h:NOk bits H) {s:Slot} {c:Cap} (h1:thereB bits s=true) (h2:capErr c=0) (h3:c.kind≠0) (h4:CapR c):NOk bits (updH H s (some c)):=by
 refine ⟨h.few,h.rng,fun s' c' hs=>?_⟩;unfold updH at hs;split at hs
 ·rename_i e;subst e;cases hs;exact ⟨h1,h2,h3,h4⟩
 ·exact h.held s' c' hs
theorem NOk.del {bits:List Int} {H:Hs} (h:NOk bits H) (s:Slot):NOk bits (updH H s none):=by
 refine ⟨h.few,h.rng,fun s' c' hs=>?_⟩;unfold updH at hs;split at hs
 ·cases hs
 ·exact h.held s' c' hs
theorem mget_updH {M:List (Slot × Cap)} {H:Hs} (h:∀k,mget M k=H k) (s:Slot) (c:Cap):∀k,mget (aput M s c) k=updH H s (some c) k:=fun k=>by
 rw[mget_aput,h k];unfold updH;by_cases e:s=k
 ·subst e;simp
 ·have:¬k=s:=fun h=>e h.symm
  rw[if_neg e,if_neg this]
theorem mget_delH {M:List (Slot × Cap)} {H:Hs} (hn:(M.map (·.1)).Nodup) (h:∀k,mget M k=H k) (s:Slot):∀k,mget (adel M s) k=updH H s none k:=fun k=>by
 rw[mget_adel hn,h k];unfold updH;by_cases e:s=k
 ·subst e;simp
 ·have:¬k=s:=fun h=>e h.symm
  rw[if_neg e,if_neg this]
theorem _root_.Go.Vc.Own.mnodup {B:Nat} {w0 w:World} {L:List Asn} {m:Nat} {M:List (Slot × Cap)} (h:Own B w0 w L) (i:Nat) (hi:L[i]?=some (slotsA m M)):(M.map (·.1)).Nodup:=(h.take i hi).head fun _ h=>h.2.nodup
def putN (bits:List Int) (H:Hs) (s:Slot) (c:Cap):Int × Hs:=
 if thereB bits s=false then (50,H) else if capErr c≠0 then (capErr c,H) else if c.kind=0 then (1,H) else if (H s).isSome then (51,H) else (0,updH H s (some c))
section
variable {B:Nat} {w0 w:World} {R L:List Asn} {b:Nat} {bits:List Int} {H:Hs}
theorem slots_Nodes_Put_spec {s:Slot} {c:Cap} {K:Int->World->Prop} (hc:CapR c) (h:Own B w0 w (NodesA b bits H::R)) (hK:∀w',Own B w0 w' (NodesA b bits (putN bits H s c).2::R)->K (putN bits H s c).1 w'):
  C.qbo (some ⟨b,0,none⟩) s.1 s.2 c.kind c.obj c.rights c.badge c.guard c.bits K w:=by
 apply S.qbo0;unfold S.qbo;refine h.al fun w1 h=>?_
 refine h.al fun w2 h=>?_
 have h:Own B w0 w2 (BlkA w1.heap.size c.cells::BlkA w.heap.size [.int .i64 s.1, .int .i64 s.2]::NodesA b bits H::R):=h;refine h.ld_6 0 rfl rfl ?_;refine caps_Check_spec h hc fun w3 h=>?_
 intro k20 hk20;refine h.dr fun w4 h=>?_
 have h:Own B w0 w4 (NodesA b bits H::BlkA w1.heap.size c.cells::BlkA w.heap.size [.int .i64 s.1, .int .i64 s.2]::R):=h.take 2 rfl;have hn:=h;obtain ⟨x,hk,hM,h⟩:=h.nodes;refine ⟨_,rfl,some x.m,h.ld 0 rfl rfl, ?_⟩;refine h.ld_2 4 rfl rfl ?_;refine look2 (k:=fun _ b w=>k20 b w) h 2 rfl (H s) (hM s) fun w5 h=>?_
 apply hk20;have h:Own B w0 w5 (NodesA b bits H::BlkA w1.heap.size c.cells::BlkA w.heap.size [.int .i64 s.1, .int .i64 s.2]::R):=Own.mk_nodes hk hM h.drop;refine h.ld_2 2 rfl rfl ?_;refine slots_Nodes_there_spec h 0 rfl fun w6 h=>?_
 have fail:∀e:Int,putN bits H s c=(e,H)->K e w6:=fun e he=>by
  rw[he] at hK;have h1:Own B w0 w6 (BlkA w.heap.size [.int .i64 s.1, .int .i64 s.2]::NodesA b bits H::BlkA w1.heap.size c.cells::R):=h.take 2 rfl;exact hK w6 ((h1.drop.perm (List.Perm.swap _ _ _)).drop)
 cases ht:thereB bits s with
 |false=>
  rw[Bool.not_false,cond_true];exact fail 50 (by unfold putN;rw[if_pos ht])
 |true=>
  have ht':¬thereB bits s=false:=by rw[ht];decide
  rw[Bool.not_true,cond_false];by_cases e1:capErr c=0
  ·rw[show (capErr c !=0)=false from by simpa using e1,cond_false]
   refine ⟨c.kind,h.ld0 1 rfl rfl, ?_⟩;by_cases e2:c.kind=0
   ·rw[show (c.kind==0)=true from by simpa using e2,cond_true]
    exact fail 1 (by unfold putN;rw[if_neg ht',if_neg (by simpa using e1),if_pos e2])
   ·rw[show (c.kind==0)=false from by simpa using e2,cond_false]
    cases e3:(H s).isSome with
    |true=>
     rw[cond_true];exact fail 51 (by unfold putN;rw[if_neg ht',if_neg (by simpa using e1),if_neg e2,if_pos e3])
    |false=>
     rw[cond_false];have ep:putN bits H s c=(0,updH H s (some c)):=by unfold putN;rw[if_neg ht',if_neg (by simpa using e1),if_neg e2,if_neg (by rw[e3];decide)]
     rw[ep] at hK;refine h.dr fun w7 h=>?_
     obtain ⟨x,hk,hM,h⟩:=h.nodes;refine ⟨_,rfl,some x.m,h.ld 0 rfl rfl, ?_⟩;refine h.ld_2 4 rfl rfl ?_;refine h.ld_6 3 rfl rfl ?_;refine ⟨?_,trivial⟩;refine h.mput (enc:=encPair) (encV:=encCap) (k:=s) (v:=c) Tryz.underlying180 keySlot 2 rfl fun w8 h=>?_
     have h1:=Own.mk_nodes (hk.put ht e1 e2 hc) (mget_updH hM s c) h;have h2:Own B w0 w8 (BlkA w.heap.size [.int .i64 s.1, .int .i64 s.2]::NodesA b bits (updH H s (some c))::BlkA w1.heap.size c.cells::R):=h1.take 2 rfl;exact hK w8 ((h2.drop.perm (List.Perm.swap _ _ _)).drop)
  ·rw[show (capErr c !=0)=true from by simpa using e1,cond_true]
   exact fail (capErr c) (by unfold putN;rw[if_neg ht',if_pos e1])
theorem slots_Nodes_Take_spec {s:Slot} {K:Int->Int->Int->Int->Int->Int->Int->World->Prop} (h:Own B w0 w (NodesA b bits H::R))
  (h1:thereB bits s=false->∀w',Own B w0 w' (NodesA b bits H::R)->K 0 0 0 0 0 0 50 w')
  (h2:thereB bits s=true->H s=none->∀w',Own B w0 w' (NodesA b bits H::R)->K 0 0 0 0 0 0 52 w')
  (h3:thereB bits s=true->∀c,H s=some c->∀w',Own B w0 w' (NodesA b bits (updH H s none)::R)->K c.kind c.obj c.rights c.badge c.guard c.bits 0 w'):C.qaW (some ⟨b,0,none⟩) s.1 s.2 K w:=by
 apply S.qaW0;unfold S.qaW;refine h.al fun w1 h=>?_
 refine h.al fun w2 h=>?_
 have h:Own B w0 w2 (BlkA w1.heap.size zeroCap.cells::BlkA w.heap.size [.int .i64 s.1, .int .i64 s.2]::NodesA b bits H::R):=h;intro k6 hk6;refine h.dr fun w3 h=>?_
 have h:Own B w0 w3 (NodesA b bits H::BlkA w1.heap.size zeroCap.cells::BlkA w.heap.size [.int .i64 s.1, .int .i64 s.2]::R):=h.take 2 rfl;obtain ⟨x,hk,hM,h⟩:=h.nodes;refine ⟨_,rfl,some x.m,h.ld 0 rfl rfl, ?_⟩;refine h.ld_2 4 rfl rfl ?_;refine look2 (k:=fun a b w=>k6 a b w) h 2 rfl (H s) (hM s) fun w4 h=>?_
 apply hk6
 have h:Own B w0 w4 (NodesA b bits H::BlkA w1.heap.size zeroCap.cells::BlkA w.heap.size [.int .i64 s.1, .int .i64 s.2]::BlkA w3.heap.size ((H s).getD zeroCap).cells::R):=by
  have h5:=Own.mk_nodes hk hM h.drop;have h6:Own B w0 w4 (BlkA w3.heap.size ((H s).getD zeroCap).cells::BlkA b [slV x.s, .map (some x.m)]::SlT intE x.s bits::slotsA x.m x.M::(BlkA w1.heap.size zeroCap.cells::BlkA w.heap.size [.int .i64 s.1, .int .i64 s.2]::R)):=h
  have h7:Own B w0 w4 (BlkA b [slV x.s, .map (some x.m)]::SlT intE x.s bits::slotsA x.m x.M::(BlkA w1.heap.size zeroCap.cells::BlkA w.heap.size [.int .i64 s.1, .int .i64 s.2]::BlkA w3.heap.size ((H s).getD zeroCap).cells::R)):=by
   refine h6.perm ?_
   have p:∀(a b c d e f:Asn) (R:List Asn),(a::b::c::d::e::f::R).Perm (b::c::d::e::f::a::R):=fun a b c d e f R=>by
    refine (List.Perm.swap _ _ _).trans (List.Perm.cons _ ?_);refine (List.Perm.swap _ _ _).trans (List.Perm.cons _ ?_);refine (List.Perm.swap _ _ _).trans (List.Perm.cons _ ?_);refine (List.Perm.swap _ _ _).trans (List.Perm.cons _ ?_);exact List.Perm.swap _ _ _
   exact p _ _ _ _ _ _ _
  exact Own.mk_nodes hk hM h7
 have fin:∀w' H',Own B w0 w' (NodesA b bits H'::BlkA w1.heap.size zeroCap.cells::BlkA w.heap.size [.int .i64 s.1, .int .i64 s.2]::BlkA w3.heap.size ((H s).getD zeroCap).cells::R)->Own B w0 w' (NodesA b bits H'::R):=fun w' H' h=>by
  have g1:Own B w0 w' (BlkA w1.heap.size zeroCap.cells::NodesA b bits H'::BlkA w.heap.size [.int .i64 s.1, .int .i64 s.2]::BlkA w3.heap.size ((H s).getD zeroCap).cells::R):=h.perm (List.Perm.swap _ _ _);exact ((g1.drop.perm (List.Perm.swap _ _ _)).drop.perm (List.Perm.swap _ _ _)).drop
 refine h.ld_2 2 rfl rfl ?_;refine slots_Nodes_there_spec h 0 rfl fun w5 h=>?_
 cases ht:thereB bits s with
 |false=>
  rw[Bool.not_false,cond_true];refine h.stL 1 rfl rfl rfl fun w6 h=>?_
  refine h.ld_6 1 rfl rfl ?_;exact h1 ht w6 (fin _ _ h)
 |true=>
  rw[Bool.not_true,cond_false];cases hs:H s with
  |none=>
   rw[Option.isSome_none,Bool.not_false,cond_true];refine h.stL 1 rfl rfl rfl fun w6 h=>?_
   refine h.ld_6 1 rfl rfl ?_;exact h2 ht hs w6 (fin _ _ h)
  |some c=>
   rw[Option.isSome_some,Bool.not_true,cond_false];refine h.dr fun w6 h=>?_
   obtain ⟨x,hk,hM,h⟩:=h.nodes;have hnd:=h.mnodup 2 rfl;refine ⟨_,rfl,some x.m,h.ld 0 rfl rfl, ?_⟩;refine h.ld_2 4 rfl rfl ?_;refine ⟨?_,trivial⟩;refine h.mdel (enc:=encPair) (encV:=encCap) (k:=s) Tryz.underlying180 keySlot 2 rfl fun w7 h=>?_
   have h:=Own.mk_nodes (hk.del s) (mget_delH hnd hM s) h;have hcell:((H s).getD zeroCap).cells=c.cells:=by rw[hs];rfl
   rw[hcell] at h fin;refine h.ld_6 3 rfl rfl ?_;refine h.stL 1 rfl rfl rfl fun w8 h=>?_
   refine h.ld_6 1 rfl rfl ?_;have h:Own B w0 w8 (NodesA b bits (updH H s none)::BlkA w1.heap.size c.cells::BlkA w.heap.size [.int .i64 s.1, .int .i64 s.2]::BlkA w3.heap.size c.cells::R):=h;have g1:Own B w0 w8 (BlkA w1.heap.size c.cells::NodesA b bits (updH H s none)::BlkA w.heap.size [.int .i64 s.1, .int .i64 s.2]::BlkA w3.heap.size c.cells::R):=h.perm (List.Perm.swap _ _ _);exact h3 ht c hs w8 (((g1.drop.perm (List.Perm.swap _ _ _)).drop.perm (List.Perm.swap _ _ _)).drop)
end
section
variable {B:Nat} {w0 w:World} {R L:List Asn} {b:Nat} {bits:List Int} {H:Hs}
def moveN (bits:List Int) (H:Hs) (f t:Slot):Int × Hs:=
 if thereB bits f=false∨thereB bits t=false then (50,H) else match H f with|none=>(52,H)|some c=>if (H t).isSome then (51,H) else (0,updH (updH H f none) t (some c))
theorem slots_Nodes_Move_spec {f t:Slot} {K:Int->World->Prop} (h:Own B w0 w (NodesA b bits H::R)) (hK:∀w',Own B w0 w' (NodesA b bits (moveN bits H f t).2::R)->K (moveN bits H f t).1 w'):
  C.qbw (some ⟨b,0,none⟩) f.1 f.2 t.1 t.2 K w:=by
 apply S.qbw0;unfold S.qbw;refine h.al fun w1 h=>?_
 refine h.al fun w2 h=>?_
 have h:Own B w0 w2 (NodesA b bits H::BlkA w1.heap.size [.int .i64 t.1, .int .i64 t.2]::BlkA w.heap.size [.int .i64 f.1, .int .i64 f.2]::R):=h.take 2 rfl;intro k8 hk8;refine h.dr fun w3 h=>?_
 obtain ⟨x,hk,hM,h⟩:=h.nodes;refine ⟨_,rfl,some x.m,h.ld 0 rfl rfl, ?_⟩;refine h.ld_2 4 rfl rfl ?_;refine look2 (k:=fun a b w=>k8 a b w) h 2 rfl (H f) (hM f) fun w4 h=>?_
 apply hk8;intro k12 hk12
 have h:Own B w0 w4 (BlkA w3.heap.size ((H f).getD zeroCap).cells::NodesA b bits H::BlkA w1.heap.size [.int .i64 t.1, .int .i64 t.2]::BlkA w.heap.size [.int .i64 f.1, .int .i64 f.2]::R):=by
  have p:∀(a b c d:Asn) (R:List Asn),(a::b::c::d::R).Perm (b::c::d::a::R):=fun a b c d R=>by
   refine (List.Perm.swap _ _ _).trans (List.Perm.cons _ ?_);refine (List.Perm.swap _ _ _).trans (List.Perm.cons _ ?_);exact List.Perm.swap _ _ _
  have q:∀(a b c d:Asn) (R:List Asn),(a::b::c::d::R).Perm (a::d::b::c::R):=fun a b c d R=>by
   refine List.Perm.cons _ ?_;refine (List.Perm.cons _ (List.Perm.swap _ _ _)).trans ?_;exact List.Perm.swap _ _ _
  have h5:=Own.mk_nodes hk hM (h.perm (p _ _ _ _ _));exact h5.perm (List.Perm.swap _ _ _)
 refine h.dr fun w5 h=>?_
 have h:=h.perm (List.Perm.swap _ _ _);obtain ⟨x,hk,hM,h⟩:=h.nodes;refine ⟨_,rfl,some x.m,h.ld 0 rfl rfl, ?_⟩;refine h.ld_2 4 rfl rfl ?_;refine look2 (k:=fun a b w=>k12 b w) h 2 rfl (H t) (hM t) fun w6 h=>?_
 apply hk12;have h:Own B w0 w6 (NodesA b bits H::BlkA w3.heap.size ((H f).getD zeroCap).cells::BlkA w1.heap.size [.int .i64 t.1, .int .i64 t.2]::BlkA w.heap.size [.int .i64 f.1, .int .i64 f.2]::R):=Own.mk_nodes hk hM h.drop
 have fin:∀w' H',Own B w0 w' (NodesA b bits H'::BlkA w3.heap.size ((H f).getD zeroCap).cells::BlkA w1.heap.size [.int .i64 t.1, .int .i64 t.2]::BlkA w.heap.size [.int .i64 f.1, .int .i64 f.2]::R)->Own B w0 w' (NodesA b bits H'::R):=fun w' H' h=>by
  have g1:Own B w0 w' (BlkA w3.heap.size ((H f).getD zeroCap).cells::NodesA b bits H'::BlkA w1.heap.size [.int .i64 t.1, .int .i64 t.2]::BlkA w.heap.size [.int .i64 f.1, .int .i64 f.2]::R):=h.perm (List.Perm.swap _ _ _);exact ((g1.drop.perm (List.Perm.swap _ _ _)).drop.perm (List.Perm.swap _ _ _)).drop
 intro k15 hk15
 have none':∀w',(thereB bits f=false∨thereB bits t=false)->Own B w0 w' (NodesA b bits H::BlkA w3.heap.size ((H f).getD zeroCap).cells::BlkA w1.heap.size [.int .i64 t.1, .int .i64 t.2]::BlkA w.heap.size [.int .i64 f.1, .int .i64 f.2]::R)->k15 true w':=fun w' hn h=>by
  apply hk15;rw[cond_true];have e:moveN bits H f t=(50,H):=by unfold moveN;rw[if_pos hn]
  rw[e] at hK;exact hK w' (fin _ _ h)
 refine h.ld_2 3 rfl rfl ?_;refine slots_Nodes_there_spec h 0 rfl fun w7 h=>?_
 cases hf:thereB bits f with
 |false=>rw[Bool.not_false,cond_true];exact none' w7 (.inl hf) h
 |true=>
  rw[Bool.not_true,cond_false];refine h.ld_2 2 rfl rfl ?_;refine slots_Nodes_there_spec h 0 rfl fun w8 h=>?_
  cases ht:thereB bits t with
  |false=>exact none' w8 (.inr ht) h
  |true=>
   rw[Bool.not_true];apply hk15;rw[cond_false];have hn:¬(thereB bits f=false∨thereB bits t=false):=by rw[hf,ht];decide
   cases hs:H f with
   |none=>
    rw[Option.isSome_none,Bool.not_false,cond_true];have e:moveN bits H f t=(52,H):=by unfold moveN;rw[if_neg hn,hs]
    rw[e] at hK;exact hK w8 (fin _ _ h)
   |some c=>
    rw[Option.isSome_some,Bool.not_true,cond_false];cases hto:(H t).isSome with
    |true=>
     rw[cond_true];have e:moveN bits H f t=(51,H):=by unfold moveN;rw[if_neg hn,hs];simp only[hto,if_true]
     rw[e] at hK;exact hK w8 (fin _ _ h)
    |false=>
     rw[cond_false];have e:moveN bits H f t=(0,updH (updH H f none) t (some c)):=by unfold moveN;rw[if_neg hn,hs];simp[hto]
     rw[e] at hK;have hcell:((H f).getD zeroCap).cells=c.cells:=by rw[hs];rfl
     rw[hcell] at h fin;refine h.dr fun w9 h=>?_
     obtain ⟨x,hk,hM,h⟩:=h.nodes;have hnd:=h.mnodup 2 rfl;obtain ⟨g1,g2,g3,g4⟩:=hk.held f c hs;refine ⟨_,rfl,some x.m,h.ld 0 rfl rfl, ?_⟩;refine h.ld_2 5 rfl rfl ?_;refine ⟨?_,trivial⟩;refine h.mdel (enc:=encPair) (encV:=encCap) (k:=f) Tryz.underlying180 keySlot 2 rfl fun w10 h=>?_
     refine h.dr fun w11 h=>?_
     refine ⟨_,rfl,some x.m,h.ld 0 rfl rfl, ?_⟩;refine h.ld_2 4 rfl rfl ?_;refine h.ld_6 3 rfl rfl ?_;refine ⟨?_,trivial⟩;refine h.mput (enc:=encPair) (encV:=encCap) (k:=t) (v:=c) Tryz.underlying180 keySlot 2 rfl fun w12 h=>?_
     exact hK w12 (fin _ _ (Own.mk_nodes ((hk.del f).put ht g2 g3 g4) (mget_updH (mget_delH hnd hM f) t c) h))
end
theorem mem_erase' {α:Type}:∀{l:List α} {j:Nat} {k q:α},l.Nodup->l[j]?=some k->(q∈l.eraseIdx j↔q∈l/\q≠k)
 | [],j,k,q,_,h=>by simp at h
 |a::l,0,k,q,hn,h=>by
  simp only[List.getElem?_cons_zero,Option.some.injEq] at h;subst h;rw[List.nodup_cons] at hn;rw[List.eraseIdx_cons_zero,List.mem_cons];constructor
  ·intro hq;exact ⟨.inr hq,fun e=>hn.1 (e▸hq)⟩
  ·rintro ⟨hq|hq,hne⟩
   ·exact absurd hq hne
   ·exact hq
 |a::l,j+1,k,q,hn,h=>by
  rw[List.nodup_cons] at hn;rw[List.getElem?_cons_succ] at h;have hak:a≠k:=fun e=>hn.1 (e▸List.mem_of_getElem? h)
  rw[List.eraseIdx_cons_succ,List.mem_cons,List.mem_cons,mem_erase' hn.2 h];constructor
  ·rintro (rfl|⟨h1,h2⟩)
   ·exact ⟨.inl rfl,hak⟩
   ·exact ⟨.inr h1,h2⟩
  ·rintro ⟨rfl|h1,h2⟩
   ·exact .inl rfl
   ·exact .inr ⟨h1,h2⟩
def busyN (H:Hs) (n:Int):Prop:=∃i c,H (n,i)=some c
theorem sizeN_set {bits:List Int} {n k:Int} (hn:0≤n) (h:k≠n):sizeN (bits.set n.toNat (-1)) k=sizeN bits k:=by
 unfold sizeN;by_cases e:k<0
 ·rw[if_pos e,if_pos e]
 ·rw[if_neg e,if_neg e,List.getElem?_set,if_neg (by omega)]
theorem NOk.drop {bits:List Int} {H:Hs} (h:NOk bits H) {n:Int} (hn:0≤n) (hb:¬busyN H n):NOk (bits.set n.toNat (-1)) H:=by
 refine ⟨by rw[List.length_set];exact h.few,fun z hz=>?_,fun s c hs=>?_⟩
 ·rcases List.mem_or_eq_of_mem_set hz with hz|hz
  ·exact h.rng z hz
  ·exact .inl hz
 ·obtain ⟨g1,g2⟩:=h.held s c hs
  refine ⟨?_,g2⟩;have hne:s.1≠n:=fun e=>hb ⟨s.2,c,by rw[←e];exact hs⟩
  unfold thereB;rw[sizeN_set hn hne];exact g1
end Go.Proofs.YtogmbmdbgkopjaaGreat.Sl
end
section
set_option maxRecDepth 100000
namespace Go.Proofs.YtogmbmdbgkopjaaGreat
open Go Go.Vc Go.Proofs
def S.qcn (n1:Option Addr) (root2:Int) (root3:Int) (root4:Int) (root5:Int) (root6:Int) (root7:Int) (addr8:Int) (depth9:Int) (K:Int->Int->Int->World->Prop) (w:World):Prop:=Al w (.cells #[.int .i64 root2, .int .i64 root3, .int .i64 root4, .int .u64 root5, .int .u64 root6, .int .i64 root7] 42) fun w10=>Al w10 (.cells #[.int .i64 0, .int .i64 0] 40) fun w11=>∀k12:Bool->World->Prop,(∀(t13:Bool) (w14:World),(bif t13 then (StL w14 (Addr.mk w10.heap.size 0 none) 0 [.int .i64 0, .int .i64 0] fun w15=>LdL w15 (Addr.mk w10.heap.size 0 none) 0 [.i .i64, .i .i64] fun (r16:Int) (r17:Int)=>K r16 r17 (1:Int) w15) else (Al w14 (.cells #[.int .u64 addr8, .int .i64 depth9] 392) fun w18=>LdL w18 (Addr.mk w.heap.size 0 none) 0 [.i .i64, .i .i64, .i .i64, .i .u64, .i .u64, .i .i64] fun (t19:Int) (t20:Int) (t21:Int) (t22:Int) (t23:Int) (t24:Int)=>Al w18 (.cells #[.int .i64 0, .int .i64 0, .int .i64 0, .int .u64 0, .int .u64 0, .int .i64 0] 42) fun w25=>StL w25 (Addr.mk w18.heap.size 0 none) 0 [.int .i64 t19, .int .i64 t20, .int .i64 t21, .int .u64 t22, .int .u64 t23, .int .i64 t24] fun w26=>∀l27:Addr->World->Prop,(∀(c28:Addr) (w29:World),(LdL w29 c28 0 [.i .i64, .i .i64, .i .i64, .i .u64, .i .u64, .i .i64] fun (t30:Int) (t31:Int) (t32:Int) (t33:Int) (t34:Int) (t35:Int)=>C.qcv n1 t30 t31 t32 t33 t34 t35 (.func (.func 327) #[.pointer (some (Addr.mk w14.heap.size 0 none))] #[]) (fun r36 r37 r38 w39=>Al w39 (.cells #[.int .i64 0, .int .i64 0] 40) fun w40=>StL w40 (Addr.mk w39.heap.size 0 none) 0 [.int .i64 r36, .int .i64 r37] fun w41=>∀k42:Bool->World->Prop,(∀(t43:Bool) (w44:World),(bif t43 then (LdL w44 (Addr.mk w39.heap.size 0 none) 0 [.i .i64, .i .i64] fun (t45:Int) (t46:Int)=>StL w44 (Addr.mk w10.heap.size 0 none) 0 [.int .i64 t45, .int .i64 t46] fun w47=>LdL w47 (Addr.mk w10.heap.size 0 none) 0 [.i .i64, .i .i64] fun (r48:Int) (r49:Int)=>K r48 r49 r38 w47) else (LdL w44 (Addr.mk w39.heap.size 0 none) 0 [.i .i64, .i .i64] fun (t50:Int) (t51:Int)=>C.qL n1 t50 t51 (fun r52 r53 r54 r55 r56 r57 r58 w59=>StL w59 c28 0 [.int .i64 r52, .int .i64 r53, .int .i64 r54, .int .u64 r55, .int .u64 r56, .int .i64 r57] fun w60=>∃kind61,w60.cell? c28=some (.int .i64 kind61)/\bif kind61 !=(2:Int) then (StL w60 (Addr.mk w10.heap.size 0 none) 0 [.int .i64 0, .int .i64 0] fun w62=>LdL w62 (Addr.mk w10.heap.size 0 none) 0 [.i .i64, .i .i64] fun (r63:Int) (r64:Int)=>K r63 r64 (62:Int) w62) else (LdL w60 c28 0 [.i .i64, .i .i64, .i .i64, .i .u64, .i .u64, .i .i64] fun (kind65:Int) (kind66:Int) (kind67:Int) (kind68:Int) (kind69:Int) (kind70:Int)=>Al w60 (.cells #[.int .i64 0, .int .i64 0, .int .i64 0, .int .u64 0, .int .u64 0, .int .i64 0] 42) fun w71=>StL w71 (Addr.mk w60.heap.size 0 none) 0 [.int .i64 kind65, .int .i64 kind66, .int .i64 kind67, .int .u64 kind68, .int .u64 kind69, .int .i64 kind70] fun w72=>l27 (Addr.mk w60.heap.size 0 none) w72)) w44))->k42 t43 w44)->(bif r38 !=(0:Int) then (k42 true w41) else (∃a73,some (Addr.mk w14.heap.size 0 none)=some a73/\∃left74,w41.cell? (a73.add 1)=some (.int .i64 left74)/\k42 (left74==(0:Int)) w41))) w29)->l27 c28 w29)->l27 (Addr.mk w18.heap.size 0 none) w26))->k12 t13 w14)->(bif decide (depth9<(1:Int)) then (k12 true w11) else (k12 (decide (depth9>(64:Int))) w11))
theorem S.qcn0 (n1:Option Addr) (root2:Int) (root3:Int) (root4:Int) (root5:Int) (root6:Int) (root7:Int) (addr8:Int) (depth9:Int) (K:Int->Int->Int->World->Prop) (w:World) (h:S.qcn n1 root2 root3 root4 root5 root6 root7 addr8 depth9 K w):C.qcn n1 root2 root3 root4 root5 root6 root7 addr8 depth9 K w:=
 okS Tryz.func275 (.t none (.u) (.t none (.t none (.r (some [(19, .c (.b))]) .done) (.t none (.t none (.u) (.u)) (.u))) (.t none (.u) (.t none (.u) (.t none (.t (some [(11, .c (.q))]) (.t none (.t none (.t none (.u) (.t none (.t none (.r (some [(42, .c (.b))]) .done) (.t none (.t none (.u) (.u)) (.u))) (.t none (.u) (.t none (.u) (.t none (.t none (.u) (.u)) (.u)))))) (.u)) (.t none (.u) (.u))) (.u)) (.u)))))) [(0, .a [.i .i64, .i .i64]),(1, .c (.i .i64))] [.pointer n1, .agg #[.int .i64 root2, .int .i64 root3, .int .i64 root4, .int .u64 root5, .int .u64 root6, .int .i64 root7], .int .u64 addr8, .int .i64 depth9] K rfl (by kernel_rfl) (by kernel_rfl) h
def S.qcv (n1:Option Addr) (c2:Int) (c3:Int) (c4:Int) (c5:Int) (c6:Int) (c7:Int) (next8:Value) (K:Int->Int->Int->World->Prop) (w:World):Prop:=Al w (.cells #[.int .i64 c2, .int .i64 c3, .int .i64 c4, .int .u64 c5, .int .u64 c6, .int .i64 c7] 42) fun w9=>Al w9 (.cells #[.int .i64 0, .int .i64 0] 40) fun w10=>LdL w10 (Addr.mk w.heap.size 0 none) 0 [.i .i64, .i .i64, .i .i64, .i .u64, .i .u64, .i .i64] fun (t11:Int) (t12:Int) (t13:Int) (t14:Int) (t15:Int) (t16:Int)=>C.qcw n1 t11 t12 t13 t14 t15 t16 (fun r17 r18 w19=>bif !r18 then (StL w19 (Addr.mk w9.heap.size 0 none) 0 [.int .i64 0, .int .i64 0] fun w20=>LdL w20 (Addr.mk w9.heap.size 0 none) 0 [.i .i64, .i .i64] fun (r21:Int) (r22:Int)=>K r21 r22 (60:Int) w20) else (∃bits23,w19.cell? ((Addr.mk w.heap.size 0 none).add 5)=some (.int .i64 bits23)/\CallV Tryz.prog (next8) [.int .i64 bits23] w19 fun enw26 w26=>∃r24,∃r25,enw26= .returned (.tuple #[.int .u64 r24, .bool r25])/\∀k27:Bool->World->Prop,(∀(t28:Bool) (w29:World),(bif t28 then (StL w29 (Addr.mk w9.heap.size 0 none) 0 [.int .i64 0, .int .i64 0] fun w30=>LdL w30 (Addr.mk w9.heap.size 0 none) 0 [.i .i64, .i .i64] fun (r31:Int) (r32:Int)=>K r31 r32 (61:Int) w30) else (CallV Tryz.prog (next8) [.int .i64 r17] w29 fun enw35 w35=>∃r33,∃r34,enw35= .returned (.tuple #[.int .u64 r33, .bool r34])/\bif !r34 then (StL w35 (Addr.mk w9.heap.size 0 none) 0 [.int .i64 0, .int .i64 0] fun w36=>LdL w36 (Addr.mk w9.heap.size 0 none) 0 [.i .i64, .i .i64] fun (r37:Int) (r38:Int)=>K r37 r38 (62:Int) w36) else (∃obj39,w35.cell? ((Addr.mk w.heap.size 0 none).add 1)=some (.int .i64 obj39)/\StL w35 (Addr.mk w9.heap.size 0 none) 0 [.int .i64 obj39, .int .i64 (IntKind.i64.wrap r33)] fun w40=>LdL w40 (Addr.mk w9.heap.size 0 none) 0 [.i .i64, .i .i64] fun (r41:Int) (r42:Int)=>K r41 r42 (0:Int) w40)))->k27 t28 w29)->(bif !r25 then (k27 true w26) else (∃guard43,w26.cell? ((Addr.mk w.heap.size 0 none).add 4)=some (.int .u64 guard43)/\k27 (r24 !=guard43) w26)))) w10
theorem S.qcv0 (n1:Option Addr) (c2:Int) (c3:Int) (c4:Int) (c5:Int) (c6:Int) (c7:Int) (next8:Value) (K:Int->Int->Int->World->Prop) (w:World) (h:S.qcv n1 c2 c3 c4 c5 c6 c7 next8 K w):C.qcv n1 c2 c3 c4 c5 c6 c7 next8 K w:=
 okS Tryz.func326 (.t none (.u) (.t none (.u) (.t none (.t none (.u) (.t none (.t none (.u) (.u)) (.u))) (.t none (.t none (.u) (.t none (.r (some [(37, .c (.b))]) .done) (.t none (.t none (.u) (.u)) (.u)))) (.t none (.u) (.t none (.t none (.u) (.t none (.t none (.u) (.u)) (.u))) (.t none (.u) (.u)))))))) [(0, .a [.i .i64, .i .i64]),(1, .c (.i .i64))] [.pointer n1, .agg #[.int .i64 c2, .int .i64 c3, .int .i64 c4, .int .u64 c5, .int .u64 c6, .int .i64 c7],next8] K rfl (by kernel_rfl) (by kernel_rfl) h
def S.qby (r1:Option Addr) (n2:Int) (K:Int->Bool->World->Prop) (w:World):Prop:=∃a3,r1=some a3/\∃left4,w.cell? (a3.add 1)=some (.int .i64 left4)/\bif decide (n2>left4) then (K (0:Int) false w) else (∃a5,r1=some a5/\∃left6,w.cell? (a5.add 1)=some (.int .i64 left6)/\∃a7,r1=some a7/\St w (a7.add 1) (.int .i64 (IntKind.i64.wrap (left6-n2))) fun w8=>Dr w8 fun w9=>∃a10,r1=some a10/\∃addr11,w9.cell? a10=some (.int .u64 addr11)/\∃a12,r1=some a12/\∃left13,w9.cell? (a12.add 1)=some (.int .i64 left13)/\(C.qbB addr11 left13 n2 (fun r14 r15 w16=>K r14 true w16) w9)/\True)
theorem S.qby0 (r1:Option Addr) (n2:Int) (K:Int->Bool->World->Prop) (w:World) (h:S.qby r1 n2 K w):C.qby r1 n2 K w:=
 okS Tryz.func327 (.t none (.u) (.t none (.t none (.u) (.t none (.t none (.u) (.u)) (.u))) (.t none (.u) (.t none (.r none (.one 0 496 (.one 1 496 (.one 2 496 (.one 3 496 (.one 4 256 (.one 5 256 (.one 6 256 (.one 7 256 (.one 8 0 (.alt 9 (.one 10 0 (.one 11 4096 (.one 12 8192 (.one 13 0 (.one 14 0 (.done)))))) (.none)))))))))))) (.t none (.u) (.u)))))) [(0, .c (.i .u64)),(1, .c (.b))] [.pointer r1, .int .i64 n2] K rfl (by kernel_rfl) (by kernel_rfl) h
def S.qcw (n1:Option Addr) (c2:Int) (c3:Int) (c4:Int) (c5:Int) (c6:Int) (c7:Int) (K:Int->Bool->World->Prop) (w:World):Prop:=Al w (.cells #[.int .i64 c2, .int .i64 c3, .int .i64 c4, .int .u64 c5, .int .u64 c6, .int .i64 c7] 42) fun w8=>∀k9:Bool->World->Prop,(∀(t10:Bool) (w11:World),(bif t10 then (K (0:Int) false w11) else (∃obj12,w11.cell? ((Addr.mk w.heap.size 0 none).add 1)=some (.int .i64 obj12)/\C.qaU n1 obj12 (fun r13 r14 w15=>K r13 r14 w15) w11))->k9 t10 w11)->(∃kind16,w8.cell? (Addr.mk w.heap.size 0 none)=some (.int .i64 kind16)/\bif kind16 !=(2:Int) then (k9 true w8) else (LdL w8 (Addr.mk w.heap.size 0 none) 0 [.i .i64, .i .i64, .i .i64, .i .u64, .i .u64, .i .i64] fun (kind17:Int) (kind18:Int) (kind19:Int) (kind20:Int) (kind21:Int) (kind22:Int)=>C.qck kind17 kind18 kind19 kind20 kind21 kind22 (fun r23 w24=>k9 (r23 !=(0:Int)) w24) w8))
theorem S.qcw0 (n1:Option Addr) (c2:Int) (c3:Int) (c4:Int) (c5:Int) (c6:Int) (c7:Int) (K:Int->Bool->World->Prop) (w:World) (h:S.qcw n1 c2 c3 c4 c5 c6 c7 K w):C.qcw n1 c2 c3 c4 c5 c6 c7 K w:=
 okS Tryz.func356 (.t none (.u) (.t none (.t none (.r (some [(13, .c (.b))]) .done) (.t none (.t none (.u) (.u)) (.u))) (.t none (.u) (.u)))) [(0, .c (.i .i64)),(1, .c (.b))] [.pointer n1, .agg #[.int .i64 c2, .int .i64 c3, .int .i64 c4, .int .u64 c5, .int .u64 c6, .int .i64 c7]] K rfl (by kernel_rfl) (by kernel_rfl) h
def S.qb (m1:Option Nat) (K:Value->World->Prop) (w:World):Prop:=Al w (.cells #[.map m1] 180) fun w2=>K (.func (.func 196) #[] #[.pointer (some (Addr.mk w.heap.size 0 none))]) w2
theorem S.qb0 (m1:Option Nat) (K:Value->World->Prop) (w:World) (h:S.qb m1 K w):C.qb m1 K w:=
 okS Tryz.func115 (.t none (.u) (.t none (.u) (.u))) [(0, .c (.v))] [.map m1] K rfl (by kernel_rfl) (by kernel_rfl) h
def S.qcd (x1:Int) (y2:Int) (K:Int->Int->World->Prop) (w:World):Prop:=C.qbZ x1 y2 (fun r3 r4 w5=>K r3 r4 w5) w
theorem S.qcd0 (x1:Int) (y2:Int) (K:Int->Int->World->Prop) (w:World) (h:S.qcd x1 y2 K w):C.qcd x1 y2 K w:=
 okS Tryz.func187 (.t none (.u) (.t none (.t none (.t none (.u) (.t none (.u) (.u))) (.u)) (.t none (.u) (.t none (.u) (.u))))) [(0, .c (.i .u64)),(1, .c (.i .u64))] [.int .u64 x1, .int .u64 y2] K rfl (by kernel_rfl) (by kernel_rfl) h
def S.qbZ (x1:Int) (y2:Int) (K:Int->Int->World->Prop) (w:World):Prop:=0≤(32:Int)/\0≤(32:Int)/\0≤(32:Int)/\0≤(32:Int)/\0≤(32:Int)/\K (IntKind.u64.wrap ((IntKind.u64.wrap ((IntKind.u64.wrap ((shrI .u64 x1 (32:Int))*(shrI .u64 y2 (32:Int))))+(shrI .u64 (IntKind.u64.wrap ((IntKind.u64.wrap ((shrI .u64 x1 (32:Int))*(andI .u64 y2 (4294967295:Int))))+(shrI .u64 (IntKind.u64.wrap ((andI .u64 x1 (4294967295:Int))*(andI .u64 y2 (4294967295:Int)))) (32:Int)))) (32:Int))))+(shrI .u64 (IntKind.u64.wrap ((andI .u64 (IntKind.u64.wrap ((IntKind.u64.wrap ((shrI .u64 x1 (32:Int))*(andI .u64 y2 (4294967295:Int))))+(shrI .u64 (IntKind.u64.wrap ((andI .u64 x1 (4294967295:Int))*(andI .u64 y2 (4294967295:Int)))) (32:Int)))) (4294967295:Int))+(IntKind.u64.wrap ((andI .u64 x1 (4294967295:Int))*(shrI .u64 y2 (32:Int)))))) (32:Int)))) (IntKind.u64.wrap (x1*y2)) w
theorem S.qbZ0 (x1:Int) (y2:Int) (K:Int->Int->World->Prop) (w:World) (h:S.qbZ x1 y2 K w):C.qbZ x1 y2 K w:=
 okS Tryz.func259 (.t none (.u) (.t none (.u) (.t none (.u) (.t none (.u) (.t none (.u) (.t none (.u) (.t none (.u) (.t none (.u) (.t none (.u) (.t none (.u) (.t none (.u) (.t none (.u) (.u))))))))))))) [(0, .c (.i .u64)),(1, .c (.i .u64))] [.int .u64 x1, .int .u64 y2] K rfl (by kernel_rfl) (by kernel_rfl) h
def S.qbG (x1:Int) (K:Int->World->Prop) (w:World):Prop:=∀k2:Int->Int->World->Prop,(∀(x3:Int) (n4:Int) (w5:World),(∀k6:Int->Int->World->Prop,(∀(x7:Int) (n8:Int) (w9:World),(∀k10:Int->Int->World->Prop,(∀(x11:Int) (n12:Int) (w13:World),(∃b14,StrAt ⟨#[0,1,2,2,3,3,3,3,4,4,4,4,4,4,4,4,5,5,5,5,5,5,5,5,5,5,5,5,5,5,5,5,6,6,6,6,6,6,6,6,6,6,6,6,6,6,6,6,6,6,6,6,6,6,6,6,6,6,6,6,6,6,6,6,7,7,7,7,7,7,7,7,7,7,7,7,7,7,7,7,7,7,7,7,7,7,7,7,7,7,7,7,7,7,7,7,7,7,7,7,7,7,7,7,7,7,7,7,7,7,7,7,7,7,7,7,7,7,7,7,7,7,7,7,7,7,7,7,8,8,8,8,8,8,8,8,8,8,8,8,8,8,8,8,8,8,8,8,8,8,8,8,8,8,8,8,8,8,8,8,8,8,8,8,8,8,8,8,8,8,8,8,8,8,8,8,8,8,8,8,8,8,8,8,8,8,8,8,8,8,8,8,8,8,8,8,8,8,8,8,8,8,8,8,8,8,8,8,8,8,8,8,8,8,8,8,8,8,8,8,8,8,8,8,8,8,8,8,8,8,8,8,8,8,8,8,8,8,8,8,8,8,8,8,8,8,8,8,8,8,8,8,8,8,8,8]⟩ (IntKind.u8.wrap x11) b14/\K (IntKind.i64.wrap (n12+(IntKind.i64.wrap b14))) w13)->k10 x11 n12 w13)->(bif decide (x7≥(256:Int)) then (0≤(8:Int)/\k10 (shrI .u64 x7 (8:Int)) (IntKind.i64.wrap (n8+(8:Int))) w9) else (k10 x7 n8 w9)))->k6 x7 n8 w9)->(bif decide (x3≥(65536:Int)) then (0≤(16:Int)/\k6 (shrI .u64 x3 (16:Int)) (IntKind.i64.wrap (n4+(16:Int))) w5) else (k6 x3 n4 w5)))->k2 x3 n4 w5)->(bif decide (x1≥(4294967296:Int)) then (0≤(32:Int)/\k2 (shrI .u64 x1 (32:Int)) (32:Int) w) else (k2 x1 (0:Int) w))
theorem S.qbG0 (x1:Int) (K:Int->World->Prop) (w:World) (h:S.qbG x1 K w):C.qbG x1 K w:=
 okS Tryz.func268 (.t none (.u) (.t none (.t none (.u) (.t (some [(0, .c (.i .u64)),(2, .c (.i .i64))]) (.t none (.u) (.u)) (.u))) (.t none (.t none (.u) (.t (some [(0, .c (.i .u64)),(2, .c (.i .i64))]) (.t none (.u) (.u)) (.u))) (.t none (.t none (.u) (.t (some [(0, .c (.i .u64)),(2, .c (.i .i64))]) (.t none (.u) (.u)) (.u))) (.t none (.u) (.u)))))) [(0, .c (.i .i64))] [.int .u64 x1] K rfl (by kernel_rfl) (by kernel_rfl) h
def S.qas (n1:Option Addr) (badge2:Int) (K:Int->Int->Bool->World->Prop) (w:World):Prop:=∃a3,n1=some a3/\∃l4:Sl,w.cell? (a3.add 2)=some (.slice l4.a l4.len l4.cap)/\bif decide ((l4.len:Int)>(0:Int)) then (∃a5,n1=some a5/\∃l6:Sl,w.cell? (a5.add 2)=some (.slice l6.a l6.len l6.cap)/\∃a7,l6.a=some a7/\0≤(0:Int)/\(0:Int)<(l6.len:Int)/\∃t8,w.cell? (a7.add ((0:Int).toNat*1))=some (.int .i64 t8)/\∃a9,n1=some a9/\∃l10:Sl,w.cell? (a9.add 2)=some (.slice l10.a l10.len l10.cap)/\C.qak l10 (0:Int) (1:Int) (fun r11 w12=>∃a13,n1=some a13/\St w12 (a13.add 2) (.slice r11.a r11.len r11.cap) fun w14=>K t8 badge2 true w14) w) else (∃a15,n1=some a15/\∃word16,w.cell? a15=some (.int .u64 word16)/\∃a17,n1=some a17/\St w a17 (.int .u64 (orI .u64 word16 badge2)) fun w18=>∃a19,n1=some a19/\St w18 (a19.add 1) (.bool true) fun w20=>K (0:Int) (0:Int) false w20)
theorem S.qas0 (n1:Option Addr) (badge2:Int) (K:Int->Int->Bool->World->Prop) (w:World) (h:S.qas n1 badge2 K w):C.qas n1 badge2 K w:=
 okS Tryz.func147 (.t none (.u) (.t none (.t none (.u) (.t none (.t none (.u) (.t none (.u) (.t none (.u) (.u)))) (.u))) (.t none (.u) (.t none (.u) (.u))))) [(0, .c (.i .i64)),(1, .c (.i .u64)),(2, .c (.b))] [.pointer n1, .int .u64 badge2] K rfl (by kernel_rfl) (by kernel_rfl) h
def S.qaP (n1:Option Addr) (who2:Int) (waits3:Bool) (K:Int->Bool->Int->World->Prop) (w:World):Prop:=∃a4,n1=some a4/\∃l5:Sl,w.cell? (a4.add 2)=some (.slice l5.a l5.len l5.cap)/\C.qaa l5 who2 (fun r6 w7=>bif r6 then (K (0:Int) false (120:Int) w7) else (∃a8,n1=some a8/\∃is9,w7.cell? (a8.add 1)=some (.bool is9)/\bif is9 then (∃a10,n1=some a10/\∃word11,w7.cell? a10=some (.int .u64 word11)/\∃a12,n1=some a12/\St w7 a12 (.int .u64 0) fun w13=>∃a14,n1=some a14/\St w13 (a14.add 1) (.bool false) fun w15=>K word11 true (0:Int) w15) else (bif waits3 then (∃a16,n1=some a16/\∃l17:Sl,w7.cell? (a16.add 2)=some (.slice l17.a l17.len l17.cap)/\Al w7 (.cells #[.int .i64 who2] 3) fun w18=>∃(t19:Sl) (w20:World),AppR Tryz.prog [26,26] 26 (.slice l17.a l17.len l17.cap) (.slice (some (Addr.mk w7.heap.size 0 none)) 1 1) w18 t19 w20/\∃a21,n1=some a21/\St w20 (a21.add 2) (.slice t19.a t19.len t19.cap) fun w22=>K (0:Int) false (0:Int) w22) else (K (0:Int) false (0:Int) w7)))) w
theorem S.qaP0 (n1:Option Addr) (who2:Int) (waits3:Bool) (K:Int->Bool->Int->World->Prop) (w:World) (h:S.qaP n1 who2 waits3 K w):C.qaP n1 who2 waits3 K w:=
 okS Tryz.func220 (.t none (.u) (.t none (.t none (.t none (.u) (.t none (.t none (.u) (.u)) (.t none (.u) (.t none (.t none (.u) (.t none (.u) (.t none (.u) (.u)))) (.t none (.u) (.t none (.u) (.u))))))) (.u)) (.t none (.u) (.u)))) [(0, .c (.i .u64)),(1, .c (.b)),(2, .c (.i .i64))] [.pointer n1, .int .i64 who2, .bool waits3] K rfl (by kernel_rfl) (by kernel_rfl) h
def S.qcD (K:Option Addr->World->Prop) (w:World):Prop:=Al w (.cells #[.int .u64 0, .bool false, .slice none 0 0] 251) fun w1=>K (some (Addr.mk w.heap.size 0 none)) w1
theorem S.qcD0 (K:Option Addr->World->Prop) (w:World) (h:S.qcD K w):C.qcD K w:=
 okS Tryz.func283 (.t none (.u) (.t none (.u) (.u))) [(0, .c (.p))] [] K rfl (by kernel_rfl) (by kernel_rfl) h
def S.qau (n1:Option Addr) (who2:Int) (K:Bool->World->Prop) (w:World):Prop:=Al w (.cells #[.int .i64 who2] 3) fun w3=>∃a4,n1=some a4/\∃l5:Sl,w3.cell? (a4.add 2)=some (.slice l5.a l5.len l5.cap)/\∃a6,n1=some a6/\∃l7:Sl,w3.cell? (a6.add 2)=some (.slice l7.a l7.len l7.cap)/\C.qC l7 (.func (.func 341) #[] #[.pointer (some (Addr.mk w.heap.size 0 none))]) (fun r8 w9=>∃a10,n1=some a10/\St w9 (a10.add 2) (.slice r8.a r8.len r8.cap) fun w11=>∃a12,n1=some a12/\∃l13:Sl,w11.cell? (a12.add 2)=some (.slice l13.a l13.len l13.cap)/\K (decide ((l13.len:Int)<(l5.len:Int))) w11) w3
theorem S.qau0 (n1:Option Addr) (who2:Int) (K:Bool->World->Prop) (w:World) (h:S.qau n1 who2 K w):C.qau n1 who2 K w:=
 okS Tryz.func293 (.t none (.u) (.t none (.u) (.t none (.u) (.t none (.u) (.u))))) [(0, .c (.b))] [.pointer n1, .int .i64 who2] K rfl (by kernel_rfl) (by kernel_rfl) h
def S.qax (x1:Int) (t2:Addr) (K:Bool->World->Prop) (w:World):Prop:=∃t3,w.cell? t2=some (.int .i64 t3)/\K (x1==t3) w
theorem S.qax0 (x1:Int) (t2:Addr) (K:Bool->World->Prop) (w:World) (h:S.qax x1 t2 K w):C.qax x1 t2 K w:=
 okS Tryz.func341 (.t none (.u) (.t none (.u) (.u))) [(0, .c (.b))] [.int .i64 x1, .pointer (some t2)] K rfl (by kernel_rfl) (by kernel_rfl) h
end Go.Proofs.YtogmbmdbgkopjaaGreat
end
section
set_option maxRecDepth 8000
namespace Go.Proofs.YtogmbmdbgkopjaaGreat.Sl
open Go Go.Vc Go.Proofs
def nodeN (bits:List Int) (c:Cap):Option Int:=if c.kind≠2 then none else if capErr c≠0 then none else sizeN bits c.obj
def stepN (bits:List Int) (addr:Nat) (c:Cap) (left:Nat):Int × Slot × Nat:=
 match nodeN bits c with
 |none=>(60,(0,0),left)
 |some z=>
  if left<c.bits.toNat then (61,(0,0),left)
  else if ((addr / 2^(left-c.bits.toNat)%2^c.bits.toNat:Nat):Int)≠c.guard then (61,(0,0),left)
  else if left-c.bits.toNat<z.toNat then (62,(0,0),left)
  else (0,(c.obj,((addr / 2^(left-c.bits.toNat-z.toNat)%2^z.toNat:Nat):Int)),left-c.bits.toNat-z.toNat)
def slotN (bits:List Int) (H:Hs) (addr:Nat):Nat->Cap->Nat->Slot × Int
 |0,_,_=>((0,0),62)
 |f+1,c,left=>
  if (stepN bits addr c left).1≠0 then ((0,0),(stepN bits addr c left).1)
  else if (stepN bits addr c left).2.2=0 then ((stepN bits addr c left).2.1,0)
  else if ((H (stepN bits addr c left).2.1).getD zeroCap).kind≠2 then ((0,0),62)
  else slotN bits H addr f ((H (stepN bits addr c left).2.1).getD zeroCap) (stepN bits addr c left).2.2
def slotT (bits:List Int) (H:Hs) (root:Cap) (addr:Nat) (depth:Int):Slot × Int:=
 if depth<1∨64<depth then ((0,0),1) else slotN bits H addr depth.toNat root depth.toNat
theorem nodeN_some {bits:List Int} {c:Cap} {z:Int} (h:nodeN bits c=some z):c.kind=2/\capErr c=0/\sizeN bits c.obj=some z:=by
 unfold nodeN at h;split at h
 ·cases h
 ·split at h
  ·cases h
  ·exact ⟨by omega,by omega,h⟩
theorem node_guard {c:Cap} (h1:c.kind=2) (h2:capErr c=0):0≤c.bits/\c.bits≤64/\c.guard<2^c.bits.toNat:=by
 unfold capErr at h2;split at h2
 ·rename_i e;rw[e] at h1;cases h1
 ·split at h2
  ·cases h2
  ·rename_i e
   unfold capBad at e;simp only[Bool.or_eq_true,not_or,Bool.not_eq_true,Bool.not_eq_false',Bool.and_eq_true] at e;have:=e.1.1.1.2;unfold guardB at this;simpa using this
section
variable {B:Nat} {w0 w:World} {R L:List Asn} {b rb:Nat} {bits:List Int} {H:Hs}
theorem words_there_spec {a n:Nat} {K:Bool->World->Prop} (ha:a+n≤64) (h:K true w):C.qbJ (a:Int) (n:Int) K w:=by
 apply S.qbJ0;unfold S.qbJ;refine cdecT (by omega) (cdecT (by omega) (cdecT (by omega) ?_));rw[wr (by omega) (by omega),decide_eq_true (by omega)];exact h
theorem words_Field_spec {v a n:Nat} {K:Int->Int->World->Prop} (hv:v<2^64) (hn:a+n≤64) (h:Own B w0 w L) (hK:∀w',Own B w0 w' L->K ((v / 2^a%2^n:Nat):Int) 0 w'):C.qbB (v:Int) (a:Int) (n:Int) K w:=by
 apply S.qbB0;unfold S.qbB;refine words_there_spec hn ?_;refine cbF rfl ?_
 (repeat (first|(refine h.al fun w h=>?_)|(refine h.dr fun w h=>?_)|(refine h.lc_2 rfl ?_)|(refine h.lc_6 rfl ?_)|(refine ⟨_,h.ldc rfl, ?_⟩)|(refine ⟨_,h.ldd rfl, ?_⟩)|(refine h.hd rfl ?_)|(refine ⟨h.ldc rfl, ?_⟩)|(refine ⟨h.ldd rfl, ?_⟩)|(refine h.stLc rfl rfl fun w h=>?_)|(refine exs ?_)|(refine _root_.Go.Vc.a2 ?_)|(refine h.stc rfl rfl fun w h=>?_)|(refine h.std rfl rfl fun w h=>?_)))
 refine ⟨by omega,a2 ?_⟩;refine words_low_spec (by omega) ?_;rw[shr_nat v a (by omega),and_low _ n (Nat.lt_of_le_of_lt (Nat.div_le_self _ _) hv) (by omega)];exact hK _ h
theorem lookup_next_spec {addr left n:Nat} {K:Int->Bool->World->Prop} (ha:addr<2^64) (hl:left≤64) (h:Own B w0 w (BlkA rb [.int .u64 (addr:Int), .int .i64 (left:Int)]::R)) (hn:n≤64)
  (h1:left<n->∀w',Own B w0 w' (BlkA rb [.int .u64 (addr:Int), .int .i64 (left:Int)]::R)->K 0 false w')
  (h2:n≤left->∀w',Own B w0 w' (BlkA rb [.int .u64 (addr:Int), .int .i64 ((left-n:Nat):Int)]::R)->K ((addr / 2^(left-n)%2^n:Nat):Int) true w'):
  C.qby (some ⟨rb,0,none⟩) (n:Int) K w:=by
 apply S.qby0;unfold S.qby
 (repeat (first|(refine h.al fun w h=>?_)|(refine h.dr fun w h=>?_)|(refine h.lc_2 rfl ?_)|(refine h.lc_6 rfl ?_)|(refine ⟨_,h.ldc rfl, ?_⟩)|(refine ⟨_,h.ldd rfl, ?_⟩)|(refine h.hd rfl ?_)|(refine ⟨h.ldc rfl, ?_⟩)|(refine ⟨h.ldd rfl, ?_⟩)|(refine h.stLc rfl rfl fun w h=>?_)|(refine exs ?_)|(refine _root_.Go.Vc.a2 ?_)|(refine h.stc rfl rfl fun w h=>?_)|(refine h.std rfl rfl fun w h=>?_)))
 refine cdec (fun e=>h1 (by omega) _ h) (fun e=>?_);have e2:IntKind.i64.wrap ((left:Int)-(n:Int))=((left-n:Nat):Int):=by rw[wr (by omega) (by omega)];omega
 (repeat (first|(refine h.al fun w h=>?_)|(refine h.dr fun w h=>?_)|(refine h.lc_2 rfl ?_)|(refine h.lc_6 rfl ?_)|(refine ⟨_,h.ldc rfl, ?_⟩)|(refine ⟨_,h.ldd rfl, ?_⟩)|(refine h.hd rfl ?_)|(refine ⟨h.ldc rfl, ?_⟩)|(refine ⟨h.ldd rfl, ?_⟩)|(refine h.stLc rfl rfl fun w h=>?_)|(refine exs ?_)|(refine _root_.Go.Vc.a2 ?_)|(refine h.stc rfl rfl fun w h=>?_)|(refine h.std rfl rfl fun w h=>?_)))
 rw[e2] at h⊢;refine words_Field_spec ha (by omega) h fun w h=>?_
 exact h2 (by omega) _ h
theorem lookup_node_spec {c:Cap} {K:Int->Bool->World->Prop} (hc:CapR c) (h:Own B w0 w L) (i:Nat) (hi:L[i]?=some (NodesA b bits H)) (hK:∀w',Own B w0 w' L->K ((nodeN bits c).getD 0) (nodeN bits c).isSome w'):C.qcw (some ⟨b,0,none⟩) c.kind c.obj c.rights c.badge c.guard c.bits K w:=by
 apply S.qcw0;unfold S.qcw;unfold nodeN at hK;refine h.al fun w1 h=>?_
 have h:Own B w0 w1 (BlkA w.heap.size c.cells::L):=h;intro k hk
 (repeat (first|(refine h.al fun w h=>?_)|(refine h.dr fun w h=>?_)|(refine h.lc_2 rfl ?_)|(refine h.lc_6 rfl ?_)|(refine ⟨_,h.ldc rfl, ?_⟩)|(refine ⟨_,h.ldd rfl, ?_⟩)|(refine h.hd rfl ?_)|(refine ⟨h.ldc rfl, ?_⟩)|(refine ⟨h.ldd rfl, ?_⟩)|(refine h.stLc rfl rfl fun w h=>?_)|(refine exs ?_)|(refine _root_.Go.Vc.a2 ?_)|(refine h.stc rfl rfl fun w h=>?_)|(refine h.std rfl rfl fun w h=>?_)))
 refine cne (fun e=>?_) (fun e=>?_)
 ·apply hk
  rw[if_pos e] at hK;exact hK _ h.drop
 ·rw[if_neg (by omega)] at hK
  (repeat (first|(refine h.al fun w h=>?_)|(refine h.dr fun w h=>?_)|(refine h.lc_2 rfl ?_)|(refine h.lc_6 rfl ?_)|(refine ⟨_,h.ldc rfl, ?_⟩)|(refine ⟨_,h.ldd rfl, ?_⟩)|(refine h.hd rfl ?_)|(refine ⟨h.ldc rfl, ?_⟩)|(refine ⟨h.ldd rfl, ?_⟩)|(refine h.stLc rfl rfl fun w h=>?_)|(refine exs ?_)|(refine _root_.Go.Vc.a2 ?_)|(refine h.stc rfl rfl fun w h=>?_)|(refine h.std rfl rfl fun w h=>?_)))
  refine caps_Check_spec h hc fun w h=>?_
  apply hk;refine cne (fun e=>?_) (fun e=>?_)
  ·rw[if_pos e] at hK
   exact hK _ h.drop
  ·rw[if_neg (by omega)] at hK
   (repeat (first|(refine h.al fun w h=>?_)|(refine h.dr fun w h=>?_)|(refine h.lc_2 rfl ?_)|(refine h.lc_6 rfl ?_)|(refine ⟨_,h.ldc rfl, ?_⟩)|(refine ⟨_,h.ldd rfl, ?_⟩)|(refine h.hd rfl ?_)|(refine ⟨h.ldc rfl, ?_⟩)|(refine ⟨h.ldd rfl, ?_⟩)|(refine h.stLc rfl rfl fun w h=>?_)|(refine exs ?_)|(refine _root_.Go.Vc.a2 ?_)|(refine h.stc rfl rfl fun w h=>?_)|(refine h.std rfl rfl fun w h=>?_)))
   exact slots_Nodes_Size_spec h (i+1) (by simpa using hi) (hK _ h.drop)
end
theorem mod_small (x n:Nat) (hn:n≤8):x%2^n<256:=by
 have h1:0<2^n:=Nat.two_pow_pos n;have h2:2^n≤2^8:=Nat.pow_le_pow_right (by omega) hn;have:=Nat.mod_lt x h1;omega
section
variable {B:Nat} {w0 w:World} {R L:List Asn} {b rb:Nat} {bits:List Int} {H:Hs}
theorem lookup_step_spec {addr left:Nat} {c:Cap} {K:Int->Int->Int->World->Prop} (hc:CapR c) (ha:addr<2^64) (hl:left≤64)
  (h:Own B w0 w (NodesA b bits H::BlkA rb [.int .u64 (addr:Int), .int .i64 (left:Int)]::R))
  (h1:(stepN bits addr c left).1≠0->∀w' l',Own B w0 w' (NodesA b bits H::BlkA rb [.int .u64 (addr:Int), .int .i64 l']::R)->K 0 0 (stepN bits addr c left).1 w')
  (h2:(stepN bits addr c left).1=0->∀w',Own B w0 w' (NodesA b bits H::BlkA rb [.int .u64 (addr:Int), .int .i64 ((stepN bits addr c left).2.2:Int)]::R)->K (stepN bits addr c left).2.1.1 (stepN bits addr c left).2.1.2 0 w'):
  C.qcv (some ⟨b,0,none⟩) c.kind c.obj c.rights c.badge c.guard c.bits (.func (.func 327) #[.pointer (some ⟨rb,0,none⟩)] #[]) K w:=by
 apply S.qcv0;unfold S.qcv;have hk:=h.nok
 (repeat (first|(refine h.al fun w h=>?_)|(refine h.dr fun w h=>?_)|(refine h.lc_2 rfl ?_)|(refine h.lc_6 rfl ?_)|(refine ⟨_,h.ldc rfl, ?_⟩)|(refine ⟨_,h.ldd rfl, ?_⟩)|(refine h.hd rfl ?_)|(refine ⟨h.ldc rfl, ?_⟩)|(refine ⟨h.ldd rfl, ?_⟩)|(refine h.stLc rfl rfl fun w h=>?_)|(refine exs ?_)|(refine _root_.Go.Vc.a2 ?_)|(refine h.stc rfl rfl fun w h=>?_)|(refine h.std rfl rfl fun w h=>?_)))
 refine lookup_node_spec hc h 2 rfl fun w h=>?_
 cases hn:nodeN bits c with
 |none=>
  have hs:stepN bits addr c left=(60,(0,0),left):=by unfold stepN;rw[hn]
  rw[hs] at h1;refine cbT rfl ?_
  (repeat (first|(refine h.al fun w h=>?_)|(refine h.dr fun w h=>?_)|(refine h.lc_2 rfl ?_)|(refine h.lc_6 rfl ?_)|(refine ⟨_,h.ldc rfl, ?_⟩)|(refine ⟨_,h.ldd rfl, ?_⟩)|(refine h.hd rfl ?_)|(refine ⟨h.ldc rfl, ?_⟩)|(refine ⟨h.ldd rfl, ?_⟩)|(refine h.stLc rfl rfl fun w h=>?_)|(refine exs ?_)|(refine _root_.Go.Vc.a2 ?_)|(refine h.stc rfl rfl fun w h=>?_)|(refine h.std rfl rfl fun w h=>?_)))
  exact h1 (by simp) _ (left:Int) h.sub
 |some z=>
  obtain ⟨hk2,he,hz⟩:=nodeN_some hn;obtain ⟨g1,g2,g3⟩:=node_guard hk2 he;obtain ⟨z1,z2⟩:=sizeN_rng hk hz;obtain ⟨cb,hcb⟩:=Int.eq_ofNat_of_zero_le g1;obtain ⟨zz,rfl⟩:=Int.eq_ofNat_of_zero_le (show 0≤z by omega);refine cbF rfl ?_
  (repeat (first|(refine h.al fun w h=>?_)|(refine h.dr fun w h=>?_)|(refine h.lc_2 rfl ?_)|(refine h.lc_6 rfl ?_)|(refine ⟨_,h.ldc rfl, ?_⟩)|(refine ⟨_,h.ldd rfl, ?_⟩)|(refine h.hd rfl ?_)|(refine ⟨h.ldc rfl, ?_⟩)|(refine ⟨h.ldd rfl, ?_⟩)|(refine h.stLc rfl rfl fun w h=>?_)|(refine exs ?_)|(refine _root_.Go.Vc.a2 ?_)|(refine h.stc rfl rfl fun w h=>?_)|(refine h.std rfl rfl fun w h=>?_)))
  refine callV_mk ?_;have hgoN:c.bits.toNat=cb:=by omega
  rw[hcb];refine lookup_next_spec ha hl h.up3 (by omega) (fun e w h=>?_) (fun e w h=>?_)
  ·have hs:stepN bits addr c left=(61,(0,0),left):=by unfold stepN;rw[hn];simp only[hgoN];rw[if_pos e]
   rw[hs] at h1;intro k hk';refine cbT rfl ?_;apply hk';refine cbT rfl ?_
   (repeat (first|(refine h.al fun w h=>?_)|(refine h.dr fun w h=>?_)|(refine h.lc_2 rfl ?_)|(refine h.lc_6 rfl ?_)|(refine ⟨_,h.ldc rfl, ?_⟩)|(refine ⟨_,h.ldd rfl, ?_⟩)|(refine h.hd rfl ?_)|(refine ⟨h.ldc rfl, ?_⟩)|(refine ⟨h.ldd rfl, ?_⟩)|(refine h.stLc rfl rfl fun w h=>?_)|(refine exs ?_)|(refine _root_.Go.Vc.a2 ?_)|(refine h.stc rfl rfl fun w h=>?_)|(refine h.std rfl rfl fun w h=>?_)))
   exact h1 (by simp) _ (left:Int) h.sub
  ·intro k hk'
   refine cbF rfl ?_
   (repeat (first|(refine h.al fun w h=>?_)|(refine h.dr fun w h=>?_)|(refine h.lc_2 rfl ?_)|(refine h.lc_6 rfl ?_)|(refine ⟨_,h.ldc rfl, ?_⟩)|(refine ⟨_,h.ldd rfl, ?_⟩)|(refine h.hd rfl ?_)|(refine ⟨h.ldc rfl, ?_⟩)|(refine ⟨h.ldd rfl, ?_⟩)|(refine h.stLc rfl rfl fun w h=>?_)|(refine exs ?_)|(refine _root_.Go.Vc.a2 ?_)|(refine h.stc rfl rfl fun w h=>?_)|(refine h.std rfl rfl fun w h=>?_)))
   apply hk';refine cne (fun e2=>?_) (fun e2=>?_)
   ·have hs:stepN bits addr c left=(61,(0,0),left):=by unfold stepN;rw[hn];simp only[hgoN];rw[if_neg (by omega),if_pos e2]
    rw[hs] at h1
    (repeat (first|(refine h.al fun w h=>?_)|(refine h.dr fun w h=>?_)|(refine h.lc_2 rfl ?_)|(refine h.lc_6 rfl ?_)|(refine ⟨_,h.ldc rfl, ?_⟩)|(refine ⟨_,h.ldd rfl, ?_⟩)|(refine h.hd rfl ?_)|(refine ⟨h.ldc rfl, ?_⟩)|(refine ⟨h.ldd rfl, ?_⟩)|(refine h.stLc rfl rfl fun w h=>?_)|(refine exs ?_)|(refine _root_.Go.Vc.a2 ?_)|(refine h.stc rfl rfl fun w h=>?_)|(refine h.std rfl rfl fun w h=>?_)))
    exact h1 (by simp) _ ((left-cb:Nat):Int) h.sub
   ·refine callV_mk ?_
    refine lookup_next_spec ha (by omega) h (by omega) (fun e3 w h=>?_) (fun e3 w h=>?_)
    ·have hs:stepN bits addr c left=(62,(0,0),left):=by unfold stepN;rw[hn];simp only[hgoN];rw[if_neg (by omega),if_neg (by omega),if_pos (by omega)]
     rw[hs] at h1;refine cbT rfl ?_
     (repeat (first|(refine h.al fun w h=>?_)|(refine h.dr fun w h=>?_)|(refine h.lc_2 rfl ?_)|(refine h.lc_6 rfl ?_)|(refine ⟨_,h.ldc rfl, ?_⟩)|(refine ⟨_,h.ldd rfl, ?_⟩)|(refine h.hd rfl ?_)|(refine ⟨h.ldc rfl, ?_⟩)|(refine ⟨h.ldd rfl, ?_⟩)|(refine h.stLc rfl rfl fun w h=>?_)|(refine exs ?_)|(refine _root_.Go.Vc.a2 ?_)|(refine h.stc rfl rfl fun w h=>?_)|(refine h.std rfl rfl fun w h=>?_)))
     exact h1 (by simp) _ ((left-cb:Nat):Int) h.sub
    ·have hs:stepN bits addr c left=(0,(c.obj,((addr / 2^(left-cb-zz)%2^zz:Nat):Int)),left-cb-zz):=by
      unfold stepN;rw[hn];simp only[hgoN,Int.toNat_natCast];rw[if_neg (by omega),if_neg (by omega),if_neg (by omega)]
     rw[hs] at h2;refine cbF rfl ?_;have:=mod_small (addr / 2^(left-cb-zz)) zz (by omega);rw[wr (by omega) (by omega)]
     (repeat (first|(refine h.al fun w h=>?_)|(refine h.dr fun w h=>?_)|(refine h.lc_2 rfl ?_)|(refine h.lc_6 rfl ?_)|(refine ⟨_,h.ldc rfl, ?_⟩)|(refine ⟨_,h.ldd rfl, ?_⟩)|(refine h.hd rfl ?_)|(refine ⟨h.ldc rfl, ?_⟩)|(refine ⟨h.ldd rfl, ?_⟩)|(refine h.stLc rfl rfl fun w h=>?_)|(refine exs ?_)|(refine _root_.Go.Vc.a2 ?_)|(refine h.stc rfl rfl fun w h=>?_)|(refine h.std rfl rfl fun w h=>?_)))
     exact h2 rfl _ h.sub
end
theorem there_of_step {bits:List Int} {addr left:Nat} {c:Cap} (hb:∀z∈bits,z= -1∨(1≤z/\z≤8)) (h:(stepN bits addr c left).1=0):
  thereB bits (stepN bits addr c left).2.1=true/\(stepN bits addr c left).2.2<left:=by
 unfold stepN at h⊢;cases hn:nodeN bits c with
 |none=>rw[hn] at h;simp at h
 |some z=>
  rw[hn] at h;obtain ⟨hk2,he,hz⟩:=nodeN_some hn;simp only at h⊢;obtain ⟨_,hz2,hz3⟩:=sizeN_some hz
  have hzr:1≤z/\z≤8:=by
   rcases hb z (List.mem_of_getElem? hz2) with e|e
   ·exact absurd e hz3
   ·exact e
  by_cases e1:left<c.bits.toNat
  ·rw[if_pos e1] at h;simp at h
  rw[if_neg e1] at h⊢;by_cases e2:((addr / 2^(left-c.bits.toNat)%2^c.bits.toNat:Nat):Int)≠c.guard
  ·rw[if_pos e2] at h;simp at h
  rw[if_neg e2] at h⊢;by_cases e3:left-c.bits.toNat<z.toNat
  ·rw[if_pos e3] at h;simp at h
  rw[if_neg e3];refine ⟨?_,by show left-c.bits.toNat-z.toNat<left;omega⟩;unfold thereB;simp only[hz];rw[decide_eq_true_iff];have hm:addr / 2^(left-c.bits.toNat-z.toNat)%2^z.toNat<2^z.toNat:=Nat.mod_lt _ (Nat.two_pow_pos _);refine ⟨Int.natCast_nonneg _, ?_⟩;rw[show ((2:Int)^z.toNat)=((2^z.toNat:Nat):Int) from by simp];exact Int.ofNat_lt.2 hm
theorem NOk.capR {bits:List Int} {H:Hs} (h:NOk bits H) (s:Slot):CapR ((H s).getD zeroCap):=by
 cases hs:H s with
 |none=>exact ⟨by decide,by decide,by decide,by decide⟩
 |some c=>exact (h.held s c hs).2.2.2
section
variable {B:Nat} {w0 w:World} {R L:List Asn} {b rb:Nat} {bits:List Int} {H:Hs}
theorem lookup_Slot_spec {addr:Nat} {depth:Int} {root:Cap} {K:Int->Int->Int->World->Prop} (hc:CapR root) (ha:addr<2^64) (h:Own B w0 w (NodesA b bits H::R))
  (hK:∀w',Own B w0 w' (NodesA b bits H::R)->K (slotT bits H root addr depth).1.1 (slotT bits H root addr depth).1.2 (slotT bits H root addr depth).2 w'):
  C.qcn (some ⟨b,0,none⟩) root.kind root.obj root.rights root.badge root.guard root.bits (addr:Int) depth K w:=by
 apply S.qcn0;unfold S.qcn;have hk:=h.nok;refine h.al fun w1 h=>?_
 refine h.al fun w2 h=>?_
 intro k hk12
 have hT:(depth<1∨64<depth)->k true w2:=fun e=>by
  have hs:slotT bits H root addr depth=((0,0),1):=by unfold slotT;rw[if_pos e]
  rw[hs] at hK;apply hk12;refine cbT rfl ?_
  (repeat (first|(refine h.al fun w h=>?_)|(refine h.dr fun w h=>?_)|(refine h.lc_2 rfl ?_)|(refine h.lc_6 rfl ?_)|(refine ⟨_,h.ldc rfl, ?_⟩)|(refine ⟨_,h.ldd rfl, ?_⟩)|(refine h.hd rfl ?_)|(refine ⟨h.ldc rfl, ?_⟩)|(refine ⟨h.ldd rfl, ?_⟩)|(refine h.stLc rfl rfl fun w h=>?_)|(refine exs ?_)|(refine _root_.Go.Vc.a2 ?_)|(refine h.stc rfl rfl fun w h=>?_)|(refine h.std rfl rfl fun w h=>?_)))
  exact hK _ h.sub
 refine cdec (fun e=>hT (.inl e)) (fun e=>?_);by_cases e2:64<depth
 ·rw[decide_eq_true (by omega)];exact hT (.inr e2)
 rw[decide_eq_false (by omega)];have hs:slotT bits H root addr depth=slotN bits H addr depth.toNat root depth.toNat:=by unfold slotT;rw[if_neg (by omega)]
 rw[hs] at hK;obtain ⟨d,rfl⟩:=Int.eq_ofNat_of_zero_le (show 0≤depth by omega);rw[Int.toNat_natCast] at hK;apply hk12;refine cbF rfl ?_;refine h.al fun w3 h=>?_
 (repeat (first|(refine h.al fun w h=>?_)|(refine h.dr fun w h=>?_)|(refine h.lc_2 rfl ?_)|(refine h.lc_6 rfl ?_)|(refine ⟨_,h.ldc rfl, ?_⟩)|(refine ⟨_,h.ldd rfl, ?_⟩)|(refine h.hd rfl ?_)|(refine ⟨h.ldc rfl, ?_⟩)|(refine ⟨h.ldd rfl, ?_⟩)|(refine h.stLc rfl rfl fun w h=>?_)|(refine exs ?_)|(refine _root_.Go.Vc.a2 ?_)|(refine h.stc rfl rfl fun w h=>?_)|(refine h.std rfl rfl fun w h=>?_)))
 intro l hl
 have loop:∀(f left:Nat) (c:Cap) (cb:Nat) (w':World),1≤left->left≤f->left≤64->CapR c->
   Own B w0 w' (NodesA b bits H::BlkA w2.heap.size [.int .u64 (addr:Int), .int .i64 (left:Int)]::BlkA cb c.cells::BlkA w1.heap.size [.int .i64 0, .int .i64 0]::R)->
   slotN bits H addr f c left=slotN bits H addr d root d->l ⟨cb,0,none⟩ w':=by
  intro f
  induction f with
  |zero=>intro left c cb w' h1 h2;omega
  |succ f ih=>
   intro left c cb w' h1 h2 h64 hc h heq;apply hl
   (repeat (first|(refine h.al fun w h=>?_)|(refine h.dr fun w h=>?_)|(refine h.lc_2 rfl ?_)|(refine h.lc_6 rfl ?_)|(refine ⟨_,h.ldc rfl, ?_⟩)|(refine ⟨_,h.ldd rfl, ?_⟩)|(refine h.hd rfl ?_)|(refine ⟨h.ldc rfl, ?_⟩)|(refine ⟨h.ldd rfl, ?_⟩)|(refine h.stLc rfl rfl fun w h=>?_)|(refine exs ?_)|(refine _root_.Go.Vc.a2 ?_)|(refine h.stc rfl rfl fun w h=>?_)|(refine h.std rfl rfl fun w h=>?_)))
   refine lookup_step_spec hc ha h64 h (fun he w l' h=>?_) (fun he w h=>?_)
   ·(repeat (first|(refine h.al fun w h=>?_)|(refine h.dr fun w h=>?_)|(refine h.lc_2 rfl ?_)|(refine h.lc_6 rfl ?_)|(refine ⟨_,h.ldc rfl, ?_⟩)|(refine ⟨_,h.ldd rfl, ?_⟩)|(refine h.hd rfl ?_)|(refine ⟨h.ldc rfl, ?_⟩)|(refine ⟨h.ldd rfl, ?_⟩)|(refine h.stLc rfl rfl fun w h=>?_)|(refine exs ?_)|(refine _root_.Go.Vc.a2 ?_)|(refine h.stc rfl rfl fun w h=>?_)|(refine h.std rfl rfl fun w h=>?_)))
    intro k hk;refine cneT he ?_;apply hk;refine cbT rfl ?_
    (repeat (first|(refine h.al fun w h=>?_)|(refine h.dr fun w h=>?_)|(refine h.lc_2 rfl ?_)|(refine h.lc_6 rfl ?_)|(refine ⟨_,h.ldc rfl, ?_⟩)|(refine ⟨_,h.ldd rfl, ?_⟩)|(refine h.hd rfl ?_)|(refine ⟨h.ldc rfl, ?_⟩)|(refine ⟨h.ldd rfl, ?_⟩)|(refine h.stLc rfl rfl fun w h=>?_)|(refine exs ?_)|(refine _root_.Go.Vc.a2 ?_)|(refine h.stc rfl rfl fun w h=>?_)|(refine h.std rfl rfl fun w h=>?_)))
    have hs:slotN bits H addr (f+1) c left=((0,0),(stepN bits addr c left).1):=by rw[slotN,if_pos he]
    rw[←heq,hs] at hK;exact hK _ h.sub
   ·obtain ⟨ht,hlt⟩:=there_of_step hk.rng he
    generalize hst:stepN bits addr c left=st at he ht hlt h⊢;obtain ⟨er,s,left'⟩:=st;simp only at he ht hlt h⊢;subst he
    (repeat (first|(refine h.al fun w h=>?_)|(refine h.dr fun w h=>?_)|(refine h.lc_2 rfl ?_)|(refine h.lc_6 rfl ?_)|(refine ⟨_,h.ldc rfl, ?_⟩)|(refine ⟨_,h.ldd rfl, ?_⟩)|(refine h.hd rfl ?_)|(refine ⟨h.ldc rfl, ?_⟩)|(refine ⟨h.ldd rfl, ?_⟩)|(refine h.stLc rfl rfl fun w h=>?_)|(refine exs ?_)|(refine _root_.Go.Vc.a2 ?_)|(refine h.stc rfl rfl fun w h=>?_)|(refine h.std rfl rfl fun w h=>?_)))
    intro k hk2;refine cneF rfl ?_
    (repeat (first|(refine h.al fun w h=>?_)|(refine h.dr fun w h=>?_)|(refine h.lc_2 rfl ?_)|(refine h.lc_6 rfl ?_)|(refine ⟨_,h.ldc rfl, ?_⟩)|(refine ⟨_,h.ldd rfl, ?_⟩)|(refine h.hd rfl ?_)|(refine ⟨h.ldc rfl, ?_⟩)|(refine ⟨h.ldd rfl, ?_⟩)|(refine h.stLc rfl rfl fun w h=>?_)|(refine exs ?_)|(refine _root_.Go.Vc.a2 ?_)|(refine h.stc rfl rfl fun w h=>?_)|(refine h.std rfl rfl fun w h=>?_)))
    by_cases hz:left'=0
    ·rw[show ((left':Int)==0)=true from by simpa using hz]
     apply hk2;refine cbT rfl ?_
     (repeat (first|(refine h.al fun w h=>?_)|(refine h.dr fun w h=>?_)|(refine h.lc_2 rfl ?_)|(refine h.lc_6 rfl ?_)|(refine ⟨_,h.ldc rfl, ?_⟩)|(refine ⟨_,h.ldd rfl, ?_⟩)|(refine h.hd rfl ?_)|(refine ⟨h.ldc rfl, ?_⟩)|(refine ⟨h.ldd rfl, ?_⟩)|(refine h.stLc rfl rfl fun w h=>?_)|(refine exs ?_)|(refine _root_.Go.Vc.a2 ?_)|(refine h.stc rfl rfl fun w h=>?_)|(refine h.std rfl rfl fun w h=>?_)))
     have hs:slotN bits H addr (f+1) c left=(s,0):=by rw[slotN,hst,if_neg (by simp),if_pos hz]
     rw[←heq,hs] at hK;exact hK _ h.sub
    ·rw[show ((left':Int)==0)=false from by simpa using hz]
     apply hk2;refine cbF rfl ?_
     (repeat (first|(refine h.al fun w h=>?_)|(refine h.dr fun w h=>?_)|(refine h.lc_2 rfl ?_)|(refine h.lc_6 rfl ?_)|(refine ⟨_,h.ldc rfl, ?_⟩)|(refine ⟨_,h.ldd rfl, ?_⟩)|(refine h.hd rfl ?_)|(refine ⟨h.ldc rfl, ?_⟩)|(refine ⟨h.ldd rfl, ?_⟩)|(refine h.stLc rfl rfl fun w h=>?_)|(refine exs ?_)|(refine _root_.Go.Vc.a2 ?_)|(refine h.stc rfl rfl fun w h=>?_)|(refine h.std rfl rfl fun w h=>?_)))
     refine slots_Nodes_Get_spec (s:=s) h 1 rfl (fun hn=>by rw[ht] at hn;cases hn) fun _ w c' hc' h=>?_
     have hcR:CapR c':=by rw[hc'];exact hk.capR s
     (repeat (first|(refine h.al fun w h=>?_)|(refine h.dr fun w h=>?_)|(refine h.lc_2 rfl ?_)|(refine h.lc_6 rfl ?_)|(refine ⟨_,h.ldc rfl, ?_⟩)|(refine ⟨_,h.ldd rfl, ?_⟩)|(refine h.hd rfl ?_)|(refine ⟨h.ldc rfl, ?_⟩)|(refine ⟨h.ldd rfl, ?_⟩)|(refine h.stLc rfl rfl fun w h=>?_)|(refine exs ?_)|(refine _root_.Go.Vc.a2 ?_)|(refine h.stc rfl rfl fun w h=>?_)|(refine h.std rfl rfl fun w h=>?_)))
     refine cne (fun e3=>?_) (fun e3=>?_)
     ·(repeat (first|(refine h.al fun w h=>?_)|(refine h.dr fun w h=>?_)|(refine h.lc_2 rfl ?_)|(refine h.lc_6 rfl ?_)|(refine ⟨_,h.ldc rfl, ?_⟩)|(refine ⟨_,h.ldd rfl, ?_⟩)|(refine h.hd rfl ?_)|(refine ⟨h.ldc rfl, ?_⟩)|(refine ⟨h.ldd rfl, ?_⟩)|(refine h.stLc rfl rfl fun w h=>?_)|(refine exs ?_)|(refine _root_.Go.Vc.a2 ?_)|(refine h.stc rfl rfl fun w h=>?_)|(refine h.std rfl rfl fun w h=>?_)))
      have hs:slotN bits H addr (f+1) c left=((0,0),62):=by rw[slotN,hst,if_neg (by simp),if_neg hz,if_pos (by simpa [hc'] using e3)]
      rw[←heq,hs] at hK;exact hK _ h.sub
     ·(repeat (first|(refine h.al fun w h=>?_)|(refine h.dr fun w h=>?_)|(refine h.lc_2 rfl ?_)|(refine h.lc_6 rfl ?_)|(refine ⟨_,h.ldc rfl, ?_⟩)|(refine ⟨_,h.ldd rfl, ?_⟩)|(refine h.hd rfl ?_)|(refine ⟨h.ldc rfl, ?_⟩)|(refine ⟨h.ldd rfl, ?_⟩)|(refine h.stLc rfl rfl fun w h=>?_)|(refine exs ?_)|(refine _root_.Go.Vc.a2 ?_)|(refine h.stc rfl rfl fun w h=>?_)|(refine h.std rfl rfl fun w h=>?_)))
      (dsimp only[putAt,List.set_cons_zero,List.set_cons_succ] at h)
      refine ih left' c' _ _ (by omega) (by omega) (by omega) hcR h.sub ?_;rw[←heq];rw[slotN,hst,if_neg (by simp),if_neg hz,if_neg (by simpa [hc'] using e3),hc']
 (dsimp only[putAt,List.set_cons_zero,List.set_cons_succ] at h)
 exact loop d d root _ _ (by omega) (by omega) (by omega) hc h.sub rfl
end
def getN (bits:List Int) (H:Hs) (s:Slot):Cap × Int:=if thereB bits s=false then (zeroCap,50) else ((H s).getD zeroCap,0)
theorem lt_mul_pow {a d k g m:Nat} (ha:a<2^d) (hg:g<2^k):a*2^k+g<2^(d+k):=by
 rw[Nat.pow_add];have:(a+1)*2^k≤2^d*2^k:=Nat.mul_le_mul_right _ ha;rw[Nat.succ_mul] at this;omega
theorem shl_u {a k d:Nat} (ha:a<2^d) (hd:d+k≤64):shlI .u64 (a:Int) (k:Int)=((a*2^k:Nat):Int):=by
 unfold shlI;rw[Int.toNat_natCast,show IntKind.u64.bits=64 from rfl,Nat.min_eq_left (by omega),show ((2:Int)^k)=((2^k:Nat):Int) from by simp,←Int.natCast_mul,wrap_u64,Nat.mod_eq_of_lt];have:=lt_mul_pow (m:=0) ha (Nat.two_pow_pos k);have h2:2^(d+k)≤2^64:=Nat.pow_le_pow_right (by omega) hd;omega
section
variable {B:Nat} {w0 w:World} {R L:List Asn} {b rb:Nat} {bits:List Int} {H:Hs}
theorem slots_Get_n {s:Slot} {K:Int->Int->Int->Int->Int->Int->Int->World->Prop} (h:Own B w0 w L) (i:Nat) (hi:L[i]?=some (NodesA b bits H))
  (hK:∀w' c e,(c,e)=getN bits H s->CapR c->Own B w0 w' L->K c.kind c.obj c.rights c.badge c.guard c.bits e w'):C.qL (some ⟨b,0,none⟩) s.1 s.2 K w:=by
 have hk:=(h.take i hi).nok;refine slots_Nodes_Get_spec h i hi (fun hn w h=>?_) (fun ht w c hc h=>?_)
 ·exact hK w zeroCap 50 (by unfold getN;rw[if_pos hn]) ⟨by decide,by decide,by decide,by decide⟩ h
 ·exact hK w c 0 (by unfold getN;rw[if_neg (by rw[ht];decide),hc]) (by rw[hc];exact hk.capR s) h
end
end Go.Proofs.YtogmbmdbgkopjaaGreat.Sl
end
section
set_option maxRecDepth 100000
namespace Go.Proofs.YtogmbmdbgkopjaaGreat
open Go Go.Vc Go.Proofs
def S.qcF (K:Option Addr->World->Prop) (w:World):Prop:=Al w (.cells #[.slice none 0 0] 185) fun w1=>K (some (Addr.mk w.heap.size 0 none)) w1
theorem S.qcF0 (K:Option Addr->World->Prop) (w:World) (h:S.qcF K w):C.qcF K w:=
 okS Tryz.func42 (.t none (.u) (.t none (.u) (.u))) [(0, .c (.p))] [] K rfl (by kernel_rfl) (by kernel_rfl) h
def S.qcc (t1:Option Addr) (K:Sl->World->Prop) (w:World):Prop:=∃a2,t1=some a2/\∃l3:Sl,w.cell? a2=some (.slice l3.a l3.len l3.cap)/\C.qbu l3 (fun r4 w5=>K r4 w5) w
theorem S.qcc0 (t1:Option Addr) (K:Sl->World->Prop) (w:World) (h:S.qcc t1 K w):C.qcc t1 K w:=
 okS Tryz.func79 (.t none (.u) (.t none (.u) (.u))) [(0, .c (.s))] [.pointer t1] K rfl (by kernel_rfl) (by kernel_rfl) h
def S.qbR (t1:Option Addr) (s2:Int) (s3:Int) (K:Int->World->Prop) (w:World):Prop:=Al w (.cells #[.int .i64 s2, .int .i64 s3] 40) fun w4=>LdL w4 (Addr.mk w.heap.size 0 none) 0 [.i .i64, .i .i64] fun (t5:Int) (t6:Int)=>C.qK t1 t5 t6 (fun r7 w8=>bif decide (r7≥(0:Int)) then (K (70:Int) w8) else (Dr w8 fun w9=>∃a10,t1=some a10/\∃l11:Sl,w9.cell? a10=some (.slice l11.a l11.len l11.cap)/\LdL w9 (Addr.mk w.heap.size 0 none) 0 [.i .i64, .i .i64] fun (t12:Int) (t13:Int)=>(Al w9 (.cells #[.int .i64 t12, .int .i64 t13, .int .i64 0] 282) fun w14=>(∃(t15:Sl) (w16:World),AppR Tryz.prog [183,183] 183 (.slice l11.a l11.len l11.cap) (.slice (some (Addr.mk w9.heap.size 0 none)) 1 1) w14 t15 w16/\∃a17,t1=some a17/\(St w16 a17 (.slice t15.a t15.len t15.cap) fun w18=>K (0:Int) w18)/\True)/\True)/\True)) w4
theorem S.qbR0 (t1:Option Addr) (s2:Int) (s3:Int) (K:Int->World->Prop) (w:World) (h:S.qbR t1 s2 s3 K w):C.qbR t1 s2 s3 K w:=
 okS Tryz.func107 (.t none (.u) (.t none (.t none (.u) (.t none (.t none (.u) (.u)) (.u))) (.t none (.r none (.one 0 510 (.one 1 224 (.one 2 224 (.one 3 224 (.one 4 224 (.one 5 0 (.one 6 0 (.alt 7 (.alt 8 (.one 9 0 (.one 10 0 (.alt 11 (.done) (.none)))) (.none)) (.none)))))))))) (.t none (.u) (.u))))) [(0, .c (.i .i64))] [.pointer t1, .agg #[.int .i64 s2, .int .i64 s3]] K rfl (by kernel_rfl) (by kernel_rfl) h
def S.qbu (l1:Sl) (K:Sl->World->Prop) (w:World):Prop:=∀l2:Sl->Int->World->Prop,(∀(out3:Sl) (t4:Int) (w5:World),(bif decide (t4<(l1.len:Int)) then (∃a6,l1.a=some a6/\0≤t4/\t4<(l1.len:Int)/\LdL w5 (a6.add (t4.toNat*3)) 0 [.i .i64, .i .i64, .i .i64] fun (t7:Int) (t8:Int) (t9:Int)=>Al w5 (.cells #[.int .i64 0, .int .i64 0, .int .i64 0] 282) fun w10=>StL w10 (Addr.mk w5.heap.size 0 none) 0 [.int .i64 t7, .int .i64 t8, .int .i64 t9] fun w11=>LdL w11 (Addr.mk w5.heap.size 0 none) 0 [.i .i64, .i .i64] fun (s12:Int) (s13:Int)=>Al w11 (.cells #[.int .i64 s12, .int .i64 s13] 40) fun w14=>∃(t15:Sl) (w16:World),AppR Tryz.prog [79,79] 79 (.slice out3.a out3.len out3.cap) (.slice (some (Addr.mk w11.heap.size 0 none)) 1 1) w14 t15 w16/\l2 t15 (IntKind.i64.wrap (t4+(1:Int))) w16) else (K out3 w5))->l2 out3 t4 w5)->l2 ⟨none,0,0⟩ (0:Int) w
theorem S.qbu0 (l1:Sl) (K:Sl->World->Prop) (w:World) (h:S.qbu l1 K w):C.qbu l1 K w:=
 okS Tryz.func149 (.t none (.u) (.t none (.u) (.t none (.t none (.u) (.t none (.t (some [(3, .c (.s)),(8, .c (.i .i64))]) (.t none (.u) (.t none (.t none (.u) (.u)) (.t none (.t none (.t none (.u) (.u)) (.u)) (.u)))) (.u)) (.u))) (.t none (.u) (.u))))) [(0, .c (.s))] [.slice l1.a l1.len l1.cap] K rfl (by kernel_rfl) (by kernel_rfl) h
def S.qK (t1:Option Addr) (s2:Int) (s3:Int) (K:Int->World->Prop) (w:World):Prop:=Al w (.cells #[.int .i64 s2, .int .i64 s3] 40) fun w4=>∃a5,t1=some a5/\∃l6:Sl,w4.cell? a5=some (.slice l6.a l6.len l6.cap)/\C.qn l6 (.func (.func 266) #[] #[.pointer (some (Addr.mk w.heap.size 0 none))]) (fun r7 w8=>K r7 w8) w4
theorem S.qK0 (t1:Option Addr) (s2:Int) (s3:Int) (K:Int->World->Prop) (w:World) (h:S.qK t1 s2 s3 K w):C.qK t1 s2 s3 K w:=
 okS Tryz.func190 (.t none (.u) (.t none (.u) (.u))) [(0, .c (.i .i64))] [.pointer t1, .agg #[.int .i64 s2, .int .i64 s3]] K rfl (by kernel_rfl) (by kernel_rfl) h
def S.qbS (t1:Option Addr) (from2:Int) (from3:Int) (to4:Int) (to5:Int) (K:Int->World->Prop) (w:World):Prop:=Al w (.cells #[.int .i64 from2, .int .i64 from3] 40) fun w6=>Al w6 (.cells #[.int .i64 to4, .int .i64 to5] 40) fun w7=>LdL w7 (Addr.mk w.heap.size 0 none) 0 [.i .i64, .i .i64] fun (t8:Int) (t9:Int)=>C.qK t1 t8 t9 (fun r10 w11=>bif decide (r10<(0:Int)) then (K (71:Int) w11) else (LdL w11 (Addr.mk w6.heap.size 0 none) 0 [.i .i64, .i .i64] fun (t12:Int) (t13:Int)=>C.qK t1 t12 t13 (fun r14 w15=>bif decide (r14≥(0:Int)) then (K (70:Int) w15) else (Dr w15 fun w16=>∃a17,t1=some a17/\∃l18:Sl,w16.cell? a17=some (.slice l18.a l18.len l18.cap)/\LdL w16 (Addr.mk w6.heap.size 0 none) 0 [.i .i64, .i .i64] fun (t19:Int) (t20:Int)=>∃a21,l18.a=some a21/\0≤r10/\r10<(l18.len:Int)/\(StL w16 (a21.add (r10.toNat*3)) 0 [.int .i64 t19, .int .i64 t20] fun w22=>K (0:Int) w22)/\True)) w11)) w7
theorem S.qbS0 (t1:Option Addr) (from2:Int) (from3:Int) (to4:Int) (to5:Int) (K:Int->World->Prop) (w:World) (h:S.qbS t1 from2 from3 to4 to5 K w):C.qbS t1 from2 from3 to4 to5 K w:=
 okS Tryz.func207 (.t none (.u) (.t none (.u) (.t none (.t none (.t none (.u) (.t none (.t none (.u) (.u)) (.t none (.u) (.t none (.t none (.u) (.u)) (.u))))) (.u)) (.t none (.r none (.one 0 48 (.one 1 48 (.one 2 48 (.one 3 48 (.one 4 32 (.one 5 0 (.one 6 0 (.one 7 0 (.alt 8 (.done) (.none))))))))))) (.t none (.u) (.u)))))) [(0, .c (.i .i64))] [.pointer t1, .agg #[.int .i64 from2, .int .i64 from3], .agg #[.int .i64 to4, .int .i64 to5]] K rfl (by kernel_rfl) (by kernel_rfl) h
def S.qbF (t1:Option Addr) (s2:Int) (s3:Int) (K:Sl->World->Prop) (w:World):Prop:=Al w (.cells #[.int .i64 s2, .int .i64 s3] 40) fun w4=>LdL w4 (Addr.mk w.heap.size 0 none) 0 [.i .i64, .i .i64] fun (t5:Int) (t6:Int)=>C.qK t1 t5 t6 (fun r7 w8=>bif decide (r7<(0:Int)) then (K ⟨none,0,0⟩ w8) else (Dr w8 fun w9=>∃a10,t1=some a10/\∃l11:Sl,w9.cell? a10=some (.slice l11.a l11.len l11.cap)/\(C.qbO t1 r7 (fun r12 w13=>w13.cell? a10=some (.slice l11.a l11.len l11.cap)/\0≤r12/\r12≤(l11.cap:Int)/\0≤IntKind.i64.wrap (r7+(1:Int))/\IntKind.i64.wrap (r7+(1:Int))≤(r12.toNat:Int)/\(C.qbu ⟨slA l11.a ((IntKind.i64.wrap (r7+(1:Int))).toNat) l11.cap 3,r12.toNat-((IntKind.i64.wrap (r7+(1:Int))).toNat),l11.cap-((IntKind.i64.wrap (r7+(1:Int))).toNat)⟩ (fun r14 w15=>K r14 w15) w13)/\True) w9)/\True)) w4
theorem S.qbF0 (t1:Option Addr) (s2:Int) (s3:Int) (K:Sl->World->Prop) (w:World) (h:S.qbF t1 s2 s3 K w):C.qbF t1 s2 s3 K w:=
 okS Tryz.func209 (.t none (.u) (.t none (.u) (.t none (.t none (.u) (.t none (.t none (.u) (.u)) (.u))) (.t none (.r none (.one 0 496 (.one 1 496 (.one 2 496 (.one 4 456 (.one 5 456 (.one 6 136 (.one 7 8 (.hold 3 256 3071 (.alt 8 (.one 9 0 (.alt 10 (.one 11 0 (.done)) (.none))) (.none))))))))))) (.u))))) [(0, .c (.s))] [.pointer t1, .agg #[.int .i64 s2, .int .i64 s3]] K rfl (by kernel_rfl) (by kernel_rfl) h
def S.qbC (x1:Int) (x2:Int) (x3:Int) (t4:Addr) (K:Bool->World->Prop) (w:World):Prop:=Al w (.cells #[.int .i64 x1, .int .i64 x2, .int .i64 x3] 282) fun w5=>LdL w5 (Addr.mk w.heap.size 0 none) 0 [.i .i64, .i .i64] fun (s6:Int) (s7:Int)=>LdL w5 t4 0 [.i .i64, .i .i64] fun (t8:Int) (t9:Int)=>∃eq10,EqB Tryz.prog .eql 40 (.tmp 5) (.tmp 6) (.agg #[.int .i64 s6, .int .i64 s7]) (.agg #[.int .i64 t8, .int .i64 t9]) eq10/\K eq10 w5
theorem S.qbC0 (x1:Int) (x2:Int) (x3:Int) (t4:Addr) (K:Bool->World->Prop) (w:World) (h:S.qbC x1 x2 x3 t4 K w):C.qbC x1 x2 x3 t4 K w:=
 okS Tryz.func266 (.t none (.u) (.t none (.u) (.u))) [(0, .c (.b))] [.agg #[.int .i64 x1, .int .i64 x2, .int .i64 x3], .pointer (some t4)] K rfl (by kernel_rfl) (by kernel_rfl) h
def S.qch (t1:Option Addr) (parent2:Int) (parent3:Int) (s4:Int) (s5:Int) (K:Int->World->Prop) (w:World):Prop:=Al w (.cells #[.int .i64 parent2, .int .i64 parent3] 40) fun w6=>Al w6 (.cells #[.int .i64 s4, .int .i64 s5] 40) fun w7=>LdL w7 (Addr.mk w.heap.size 0 none) 0 [.i .i64, .i .i64] fun (t8:Int) (t9:Int)=>C.qK t1 t8 t9 (fun r10 w11=>bif decide (r10<(0:Int)) then (K (71:Int) w11) else (LdL w11 (Addr.mk w6.heap.size 0 none) 0 [.i .i64, .i .i64] fun (t12:Int) (t13:Int)=>C.qK t1 t12 t13 (fun r14 w15=>bif decide (r14≥(0:Int)) then (K (70:Int) w15) else (Dr w15 fun w16=>∃a17,t1=some a17/\∃l18:Sl,w16.cell? a17=some (.slice l18.a l18.len l18.cap)/\LdL w16 (Addr.mk w6.heap.size 0 none) 0 [.i .i64, .i .i64] fun (t19:Int) (t20:Int)=>∃a21,t1=some a21/\∃l22:Sl,w16.cell? a21=some (.slice l22.a l22.len l22.cap)/\∃a23,l22.a=some a23/\0≤r10/\r10<(l22.len:Int)/\∃depth24,w16.cell? ((a23.add (r10.toNat*3)).add 2)=some (.int .i64 depth24)/\(Al w16 (.cells #[.int .i64 t19, .int .i64 t20, .int .i64 (IntKind.i64.wrap (depth24+(1:Int)))] 282) fun w25=>(C.ql l18 (IntKind.i64.wrap (r10+(1:Int))) ⟨some (Addr.mk w16.heap.size 0 none),1,1⟩ (fun r26 w27=>∃a28,t1=some a28/\(St w27 a28 (.slice r26.a r26.len r26.cap) fun w29=>K (0:Int) w29)/\True) w25)/\True)/\True)) w11)) w7
theorem S.qch0 (t1:Option Addr) (parent2:Int) (parent3:Int) (s4:Int) (s5:Int) (K:Int->World->Prop) (w:World) (h:S.qch t1 parent2 parent3 s4 s5 K w):C.qch t1 parent2 parent3 s4 s5 K w:=
 okS Tryz.func281 (.t none (.u) (.t none (.u) (.t none (.t none (.t none (.u) (.t none (.t none (.u) (.u)) (.t none (.u) (.t none (.t none (.u) (.u)) (.u))))) (.u)) (.t none (.r none (.one 0 1048574 (.one 1 524256 (.one 2 524256 (.one 3 524256 (.one 4 524256 (.one 5 524160 (.one 6 524160 (.one 7 130816 (.one 8 4096 (.one 9 4096 (.one 10 4096 (.one 11 4096 (.one 12 0 (.one 13 0 (.one 14 0 (.one 15 0 (.one 16 0 (.one 17 0 (.alt 18 (.alt 19 (.one 20 0 (.one 21 0 (.alt 22 (.done) (.none)))) (.none)) (.none))))))))))))))))))))) (.t none (.u) (.u)))))) [(0, .c (.i .i64))] [.pointer t1, .agg #[.int .i64 parent2, .int .i64 parent3], .agg #[.int .i64 s4, .int .i64 s5]] K rfl (by kernel_rfl) (by kernel_rfl) h
def S.qbU (t1:Option Addr) (s2:Int) (s3:Int) (K:Int->World->Prop) (w:World):Prop:=Al w (.cells #[.int .i64 s2, .int .i64 s3] 40) fun w4=>LdL w4 (Addr.mk w.heap.size 0 none) 0 [.i .i64, .i .i64] fun (t5:Int) (t6:Int)=>C.qK t1 t5 t6 (fun r7 w8=>bif decide (r7<(0:Int)) then (K (71:Int) w8) else (Dr w8 fun w9=>∃a10,t1=some a10/\∃l11:Sl,w9.cell? a10=some (.slice l11.a l11.len l11.cap)/\(C.qbO t1 r7 (fun r12 w13=>w13.cell? a10=some (.slice l11.a l11.len l11.cap)/\0≤r12/\r12≤(l11.cap:Int)/\0≤IntKind.i64.wrap (r7+(1:Int))/\IntKind.i64.wrap (r7+(1:Int))≤(r12.toNat:Int)/\∀l14:Int->World->Prop,(∀(t15:Int) (w16:World),(bif decide (t15<((r12.toNat-((IntKind.i64.wrap (r7+(1:Int))).toNat):Nat):Int)) then (∃a17,slA l11.a ((IntKind.i64.wrap (r7+(1:Int))).toNat) l11.cap 3=some a17/\0≤t15/\t15<((r12.toNat-((IntKind.i64.wrap (r7+(1:Int))).toNat):Nat):Int)/\∃depth18,w16.cell? ((a17.add (t15.toNat*3)).add 2)=some (.int .i64 depth18)/\∃a19,slA l11.a ((IntKind.i64.wrap (r7+(1:Int))).toNat) l11.cap 3=some a19/\0≤t15/\t15<((r12.toNat-((IntKind.i64.wrap (r7+(1:Int))).toNat):Nat):Int)/\St w16 ((a19.add (t15.toNat*3)).add 2) (.int .i64 (IntKind.i64.wrap (depth18-(1:Int)))) fun w20=>l14 (IntKind.i64.wrap (t15+(1:Int))) w20) else (∃a21,t1=some a21/\∃l22:Sl,w16.cell? a21=some (.slice l22.a l22.len l22.cap)/\C.qm l22 r7 (IntKind.i64.wrap (r7+(1:Int))) (fun r23 w24=>∃a25,t1=some a25/\St w24 a25 (.slice r23.a r23.len r23.cap) fun w26=>K (0:Int) w26) w16))->l14 t15 w16)->l14 (0:Int) w13) w9)/\True)) w4
theorem S.qbU0 (t1:Option Addr) (s2:Int) (s3:Int) (K:Int->World->Prop) (w:World) (h:S.qbU t1 s2 s3 K w):C.qbU t1 s2 s3 K w:=
 okS Tryz.func284 (.t none (.u) (.t none (.u) (.t none (.t none (.u) (.t none (.t none (.u) (.u)) (.u))) (.t none (.r none (.one 0 496 (.one 1 496 (.one 2 496 (.one 4 456 (.one 5 456 (.one 6 136 (.one 7 8 (.hold 3 256 2047 (.alt 8 (.one 9 0 (.one 10 0 (.done))) (.none))))))))))) (.t none (.t none (.u) (.t none (.t (some [(25, .c (.i .i64))]) (.t none (.u) (.t none (.t none (.u) (.u)) (.t none (.t none (.t none (.u) (.u)) (.u)) (.u)))) (.u)) (.u))) (.t none (.u) (.t none (.u) (.u)))))))) [(0, .c (.i .i64))] [.pointer t1, .agg #[.int .i64 s2, .int .i64 s3]] K rfl (by kernel_rfl) (by kernel_rfl) h
def S.qbO (t1:Option Addr) (i2:Int) (K:Int->World->Prop) (w:World):Prop:=∀l3:Int->World->Prop,(∀(k4:Int) (w5:World),(Dr w5 fun w6=>∃a7,t1=some a7/\∃l8:Sl,w6.cell? a7=some (.slice l8.a l8.len l8.cap)/\bif decide (k4<(l8.len:Int)) then (∃a9,t1=some a9/\∃l10:Sl,w6.cell? a9=some (.slice l10.a l10.len l10.cap)/\∃a11,l10.a=some a11/\0≤k4/\k4<(l10.len:Int)/\∃depth12,w6.cell? ((a11.add (k4.toNat*3)).add 2)=some (.int .i64 depth12)/\∃a13,t1=some a13/\∃l14:Sl,w6.cell? a13=some (.slice l14.a l14.len l14.cap)/\∃a15,l14.a=some a15/\0≤i2/\i2<(l14.len:Int)/\∃depth16,w6.cell? ((a15.add (i2.toNat*3)).add 2)=some (.int .i64 depth16)/\bif decide (depth12>depth16) then (l3 (IntKind.i64.wrap (k4+(1:Int))) w6) else (K k4 w6)) else (K k4 w6))->l3 k4 w5)->l3 (IntKind.i64.wrap (i2+(1:Int))) w
theorem S.qbO0 (t1:Option Addr) (i2:Int) (K:Int->World->Prop) (w:World) (h:S.qbO t1 i2 K w):C.qbO t1 i2 K w:=
 okS Tryz.func290 (.t none (.u) (.t none (.u) (.t none (.t none (.t (some [(5, .c (.i .i64))]) (.t none (.t none (.r none (.one 0 62 (.one 1 0 (.one 2 0 (.one 3 0 (.one 4 0 (.one 5 0 (.one 6 0 (.one 7 0 (.one 8 16715776 (.one 9 16715776 (.one 10 16715776 (.one 11 16715776 (.one 12 16711680 (.one 13 16711680 (.one 14 16711680 (.one 15 16711680 (.one 16 1048576 (.one 17 1048576 (.one 18 1048576 (.one 19 1048576 (.one 20 0 (.one 21 0 (.one 22 0 (.one 23 0 (.one 24 0 (.one 25 0 (.done)))))))))))))))))))))))))))) (.t none (.u) (.u))) (.t none (.u) (.u))) (.u)) (.u)) (.t none (.u) (.u))))) [(0, .c (.i .i64))] [.pointer t1, .int .i64 i2] K rfl (by kernel_rfl) (by kernel_rfl) h
def S.qbM (u1:Int) (u2:Int) (u3:Int) (kind4:Int) (bits5:Int) (n6:Int) (K:Sl->Int->Int->Int->Int->World->Prop) (w:World):Prop:=Al w (.cells #[.int .u64 u1, .int .i64 u2, .int .u64 u3] 86) fun w7=>Al w7 (.cells #[.int .u64 0, .int .i64 0, .int .u64 0] 86) fun w8=>LdL w8 (Addr.mk w.heap.size 0 none) 0 [.i .u64, .i .i64, .i .u64] fun (t9:Int) (t10:Int) (t11:Int)=>C.qcg t9 t10 t11 (fun r12 w13=>C.qcq kind4 bits5 (fun r14 r15 w16=>bif r12 !=(0:Int) then (StL w16 (Addr.mk w7.heap.size 0 none) 0 [.int .u64 0, .int .i64 0, .int .u64 0] fun w17=>LdL w17 (Addr.mk w7.heap.size 0 none) 0 [.i .u64, .i .i64, .i .u64] fun (r18:Int) (r19:Int) (r20:Int)=>K ⟨none,0,0⟩ r18 r19 r20 r12 w17) else (bif r15 !=(0:Int) then (StL w16 (Addr.mk w7.heap.size 0 none) 0 [.int .u64 0, .int .i64 0, .int .u64 0] fun w21=>LdL w21 (Addr.mk w7.heap.size 0 none) 0 [.i .u64, .i .i64, .i .u64] fun (r22:Int) (r23:Int) (r24:Int)=>K ⟨none,0,0⟩ r22 r23 r24 r15 w21) else (∀k25:Bool->World->Prop,(∀(t26:Bool) (w27:World),(bif t26 then (StL w27 (Addr.mk w7.heap.size 0 none) 0 [.int .u64 0, .int .i64 0, .int .u64 0] fun w28=>LdL w28 (Addr.mk w7.heap.size 0 none) 0 [.i .u64, .i .i64, .i .u64] fun (r29:Int) (r30:Int) (r31:Int)=>K ⟨none,0,0⟩ r29 r30 r31 (1:Int) w28) else (∃base32,w27.cell? (Addr.mk w.heap.size 0 none)=some (.int .u64 base32)/\∃used33,w27.cell? ((Addr.mk w.heap.size 0 none).add 2)=some (.int .u64 used33)/\C.qcL (IntKind.u64.wrap (base32+used33)) r14 (fun r34 r35 w36=>Dr w36 fun w37=>∃base38,w37.cell? (Addr.mk w.heap.size 0 none)=some (.int .u64 base38)/\∃bits39,w37.cell? ((Addr.mk w.heap.size 0 none).add 1)=some (.int .i64 bits39)/\0≤bits39/\0≤r14/\bif decide ((IntKind.u64.wrap (r34+(shlI .u64 (IntKind.u64.wrap n6) r14)))>(IntKind.u64.wrap (base38+(shlI .u64 (1:Int) bits39)))) then (StL w37 (Addr.mk w7.heap.size 0 none) 0 [.int .u64 0, .int .i64 0, .int .u64 0] fun w40=>LdL w40 (Addr.mk w7.heap.size 0 none) 0 [.i .u64, .i .i64, .i .u64] fun (r41:Int) (r42:Int) (r43:Int)=>K ⟨none,0,0⟩ r41 r42 r43 (81:Int) w40) else (∀l44:Int->Sl->Int->World->Prop,(∀(at45:Int) (out46:Sl) (t47:Int) (w48:World),(bif decide (t47<n6) then (Al w48 (.cells #[.int .u64 at45] 31) fun w49=>∃(t50:Sl) (w51:World),AppR Tryz.prog [240,240] 240 (.slice out46.a out46.len out46.cap) (.slice (some (Addr.mk w48.heap.size 0 none)) 1 1) w49 t50 w51/\0≤r14/\l44 (IntKind.u64.wrap (at45+(shlI .u64 (1:Int) r14))) t50 (IntKind.i64.wrap (t47+(1:Int))) w51) else (∃base52,w48.cell? (Addr.mk w.heap.size 0 none)=some (.int .u64 base52)/\St w48 ((Addr.mk w.heap.size 0 none).add 2) (.int .u64 (IntKind.u64.wrap (at45-base52))) fun w53=>Dr w53 fun w54=>LdL w54 (Addr.mk w.heap.size 0 none) 0 [.i .u64, .i .i64, .i .u64] fun (base55:Int) (base56:Int) (base57:Int)=>(StL w54 (Addr.mk w7.heap.size 0 none) 0 [.int .u64 base55, .int .i64 base56, .int .u64 base57] fun w58=>LdL w58 (Addr.mk w7.heap.size 0 none) 0 [.i .u64, .i .i64, .i .u64] fun (r59:Int) (r60:Int) (r61:Int)=>K out46 r59 r60 r61 (0:Int) w58)/\True))->l44 at45 out46 t47 w48)->l44 r34 ⟨none,0,0⟩ (0:Int) w37)) w27))->k25 t26 w27)->(bif decide (n6<(1:Int)) then (k25 true w16) else (k25 (decide (n6>(64:Int))) w16))))) w13) w8
theorem S.qbM0 (u1:Int) (u2:Int) (u3:Int) (kind4:Int) (bits5:Int) (n6:Int) (K:Sl->Int->Int->Int->Int->World->Prop) (w:World) (h:S.qbM u1 u2 u3 kind4 bits5 n6 K w):C.qbM u1 u2 u3 kind4 bits5 n6 K w:=
 okS Tryz.func201 (.t none (.u) (.t none (.u) (.t none (.u) (.t none (.t none (.t none (.u) (.t none (.t none (.u) (.u)) (.t none (.u) (.t none (.t none (.u) (.u)) (.t none (.r (some [(36, .c (.b))]) .done) (.t none (.t none (.u) (.u)) (.u))))))) (.u)) (.t none (.u) (.t none (.r none (.one 0 28 (.one 1 28 (.one 2 0 (.one 3 0 (.one 4 0 (.one 5 0 (.one 6 0 (.done))))))))) (.t none (.t none (.u) (.t none (.t none (.u) (.u)) (.u))) (.t none (.u) (.t none (.t none (.u) (.t none (.t (some [(14, .c (.i .u64)),(17, .c (.s)),(70, .c (.i .i64))]) (.t none (.u) (.t none (.t none (.u) (.u)) (.t none (.t none (.t none (.u) (.u)) (.u)) (.u)))) (.u)) (.u))) (.t none (.u) (.t none (.r none (.one 0 2 (.one 1 4 (.one 2 0 (.alt 3 (.one 4 0 (.done)) (.none)))))) (.u)))))))))))) [(0, .c (.s)),(1, .a [.i .u64, .i .i64, .i .u64]),(2, .c (.i .i64))] [.agg #[.int .u64 u1, .int .i64 u2, .int .u64 u3], .int .i64 kind4, .int .i64 bits5, .int .i64 n6] K rfl (by kernel_rfl) (by kernel_rfl) h
def S.qce (u1:Int) (u2:Int) (u3:Int) (K:Int->Int->Int->World->Prop) (w:World):Prop:=Al w (.cells #[.int .u64 u1, .int .i64 u2, .int .u64 u3] 86) fun w4=>Al w4 (.cells #[.int .u64 0, .int .i64 0, .int .u64 0] 86) fun w5=>St w5 ((Addr.mk w.heap.size 0 none).add 2) (.int .u64 0) fun w6=>LdL w6 (Addr.mk w.heap.size 0 none) 0 [.i .u64, .i .i64, .i .u64] fun (t7:Int) (t8:Int) (t9:Int)=>StL w6 (Addr.mk w4.heap.size 0 none) 0 [.int .u64 t7, .int .i64 t8, .int .u64 t9] fun w10=>LdL w10 (Addr.mk w4.heap.size 0 none) 0 [.i .u64, .i .i64, .i .u64] fun (r11:Int) (r12:Int) (r13:Int)=>K r11 r12 r13 w10
theorem S.qce0 (u1:Int) (u2:Int) (u3:Int) (K:Int->Int->Int->World->Prop) (w:World) (h:S.qce u1 u2 u3 K w):C.qce u1 u2 u3 K w:=
 okS Tryz.func211 (.t none (.u) (.t none (.u) (.t none (.u) (.u)))) [(0, .a [.i .u64, .i .i64, .i .u64])] [.agg #[.int .u64 u1, .int .i64 u2, .int .u64 u3]] K rfl (by kernel_rfl) (by kernel_rfl) h
def S.qcg (u1:Int) (u2:Int) (u3:Int) (K:Int->World->Prop) (w:World):Prop:=Al w (.cells #[.int .u64 u1, .int .i64 u2, .int .u64 u3] 86) fun w4=>∀k5:Bool->World->Prop,(∀(t6:Bool) (w7:World),(bif t6 then (K (1:Int) w7) else (∃base8,w7.cell? (Addr.mk w.heap.size 0 none)=some (.int .u64 base8)/\∃bits9,w7.cell? ((Addr.mk w.heap.size 0 none).add 1)=some (.int .i64 bits9)/\C.qcL base8 bits9 (fun r10 r11 w12=>Dr w12 fun w13=>bif r11 !=(0:Int) then (K (1:Int) w13) else (∃base14,w13.cell? (Addr.mk w.heap.size 0 none)=some (.int .u64 base14)/\bif r10 !=base14 then (K (1:Int) w13) else (∃used15,w13.cell? ((Addr.mk w.heap.size 0 none).add 2)=some (.int .u64 used15)/\∃bits16,w13.cell? ((Addr.mk w.heap.size 0 none).add 1)=some (.int .i64 bits16)/\0≤bits16/\bif decide (used15>(shlI .u64 (1:Int) bits16)) then (K (1:Int) w13) else (K (0:Int) w13)))) w7))->k5 t6 w7)->(∃bits17,w4.cell? ((Addr.mk w.heap.size 0 none).add 1)=some (.int .i64 bits17)/\bif decide (bits17<(0:Int)) then (k5 true w4) else (∃bits18,w4.cell? ((Addr.mk w.heap.size 0 none).add 1)=some (.int .i64 bits18)/\bif decide (bits18>(20:Int)) then (k5 true w4) else (∃base19,w4.cell? (Addr.mk w.heap.size 0 none)=some (.int .u64 base19)/\k5 (decide (base19>(1099511627776:Int))) w4)))
theorem S.qcg0 (u1:Int) (u2:Int) (u3:Int) (K:Int->World->Prop) (w:World) (h:S.qcg u1 u2 u3 K w):C.qcg u1 u2 u3 K w:=
 okS Tryz.func276 (.t none (.u) (.t none (.t none (.r (some [(17, .c (.b))]) .done) (.t none (.t none (.u) (.u)) (.u))) (.t none (.u) (.t none (.t none (.r none (.one 0 0 (.one 1 0 (.one 2 0 (.one 3 48 (.one 4 0 (.one 5 0 (.one 6 0 (.one 7 0 (.one 8 0 (.one 9 14336 (.one 10 14336 (.one 11 0 (.one 12 0 (.one 13 0 (.one 14 0 (.one 15 0 (.done)))))))))))))))))) (.t none (.t none (.u) (.u)) (.u))) (.t none (.u) (.u)))))) [(0, .c (.i .i64))] [.agg #[.int .u64 u1, .int .i64 u2, .int .u64 u3]] K rfl (by kernel_rfl) (by kernel_rfl) h
def S.qcq (kind1:Int) (bits2:Int) (K:Int->Int->World->Prop) (w:World):Prop:=bif kind1==(1:Int) then (C.qbq bits2 (4:Int) (20:Int) (0:Int) (fun r3 r4 w5=>K r3 r4 w5) w) else (bif kind1==(2:Int) then (C.qbq bits2 (1:Int) (8:Int) (2:Int) (fun r6 r7 w8=>K r6 r7 w8) w) else (∀k9:Bool->World->Prop,(∀(t10:Bool) (w11:World),(bif t10 then (K (0:Int) (80:Int) w11) else (C.qbP (fun r12 r13 r14 r15 r16 r17 r18 r19 r20 r21 w22=>0≤kind1/\kind1<(10:Int)/\∃t23,(#[.int .i64 r12, .int .i64 r13, .int .i64 r14, .int .i64 r15, .int .i64 r16, .int .i64 r17, .int .i64 r18, .int .i64 r19, .int .i64 r20, .int .i64 r21]:Array Value)[kind1.toNat*1]?=some (.int .i64 t23)/\K t23 (0:Int) w22) w11))->k9 t10 w11)->(bif decide (kind1<(0:Int)) then (k9 true w) else (bif decide (kind1≥(10:Int)) then (k9 true w) else (C.qbP (fun r24 r25 r26 r27 r28 r29 r30 r31 r32 r33 w34=>0≤kind1/\kind1<(10:Int)/\∃t35,(#[.int .i64 r24, .int .i64 r25, .int .i64 r26, .int .i64 r27, .int .i64 r28, .int .i64 r29, .int .i64 r30, .int .i64 r31, .int .i64 r32, .int .i64 r33]:Array Value)[kind1.toNat*1]?=some (.int .i64 t35)/\k9 (t35==(0:Int)) w34) w)))))
theorem S.qcq0 (kind1:Int) (bits2:Int) (K:Int->Int->World->Prop) (w:World) (h:S.qcq kind1 bits2 K w):C.qcq kind1 bits2 K w:=
 okS Tryz.func277 (.t none (.u) (.t none (.t none (.u) (.t none (.t none (.u) (.t none (.t none (.u) (.u)) (.t none (.u) (.t none (.t none (.u) (.u)) (.u))))) (.u))) (.t none (.t none (.r (some [(30, .c (.b))]) .done) (.t none (.t none (.u) (.u)) (.u))) (.t none (.u) (.u))))) [(0, .c (.i .i64)),(1, .c (.i .i64))] [.int .i64 kind1, .int .i64 bits2] K rfl (by kernel_rfl) (by kernel_rfl) h
def S.qbq (n1:Int) (from2:Int) (to3:Int) (add4:Int) (K:Int->Int->World->Prop) (w:World):Prop:=∀k5:Bool->World->Prop,(∀(t6:Bool) (w7:World),(bif t6 then (K (0:Int) (1:Int) w7) else (K (IntKind.i64.wrap (n1+add4)) (0:Int) w7))->k5 t6 w7)->(bif decide (n1<from2) then (k5 true w) else (k5 (decide (n1>to3)) w))
theorem S.qbq0 (n1:Int) (from2:Int) (to3:Int) (add4:Int) (K:Int->Int->World->Prop) (w:World) (h:S.qbq n1 from2 to3 add4 K w):C.qbq n1 from2 to3 add4 K w:=
 okS Tryz.func328 (.t none (.u) (.t none (.t none (.r (some [(17, .c (.b))]) .done) (.t none (.t none (.u) (.u)) (.u))) (.t none (.u) (.u)))) [(0, .c (.i .i64)),(1, .c (.i .i64))] [.int .i64 n1, .int .i64 from2, .int .i64 to3, .int .i64 add4] K rfl (by kernel_rfl) (by kernel_rfl) h
def S.qbP (K:Int->Int->Int->Int->Int->Int->Int->Int->Int->Int->World->Prop) (w:World):Prop:=Al w (.cells #[.int .i64 0, .int .i64 0, .int .i64 0, .int .i64 0, .int .i64 0, .int .i64 0, .int .i64 0, .int .i64 0, .int .i64 0, .int .i64 0] 395) fun w1=>StL w1 (Addr.mk w.heap.size 0 none) 0 [.int .i64 0, .int .i64 0, .int .i64 0, .int .i64 5, .int .i64 2, .int .i64 2, .int .i64 6, .int .i64 6, .int .i64 6, .int .i64 0] fun w2=>LdL w2 (Addr.mk w.heap.size 0 none) 0 [.i .i64, .i .i64, .i .i64, .i .i64, .i .i64, .i .i64, .i .i64, .i .i64, .i .i64, .i .i64] fun (r3:Int) (r4:Int) (r5:Int) (r6:Int) (r7:Int) (r8:Int) (r9:Int) (r10:Int) (r11:Int) (r12:Int)=>K r3 r4 r5 r6 r7 r8 r9 r10 r11 r12 w2
theorem S.qbP0 (K:Int->Int->Int->Int->Int->Int->Int->Int->Int->Int->World->Prop) (w:World) (h:S.qbP K w):C.qbP K w:=
 okS Tryz.func329 (.t none (.u) (.t none (.u) (.u))) [(0, .a [.i .i64, .i .i64, .i .i64, .i .i64, .i .i64, .i .i64, .i .i64, .i .i64, .i .i64, .i .i64])] [] K rfl (by kernel_rfl) (by kernel_rfl) h
end Go.Proofs.YtogmbmdbgkopjaaGreat
end
section
set_option maxRecDepth 8000
namespace Go.Proofs.YtogmbmdbgkopjaaGreat
open Go Go.Vc Go.Proofs
structure Unt where
 base:Nat
 bits:Nat
 used:Nat
deriving DecidableEq
def zU:Unt:=⟨0,0,0⟩
def untE:EncT Unt:=⟨3,fun u=>[.int .u64 (u.base:Int), .int .i64 (u.bits:Int), .int .u64 (u.used:Int)],fun _=>rfl,fun x v h=>by
 simp only[List.mem_cons,List.not_mem_nil,or_false] at h;rcases h with rfl|rfl|rfl<;>rfl,by decide⟩
def wE:EncT Nat:=⟨1,fun x=>[.int .u64 (x:Int)],fun _=>rfl,fun x v h=>by
 simp only[List.mem_cons,List.not_mem_nil,or_false] at h;subst h;rfl,by decide⟩
structure UOk (u:Unt):Prop where
 bits:u.bits≤20
 top:u.base+2^u.bits≤2^20
 dvd:u.base%2^u.bits=0
 used:u.used≤2^u.bits
def upN (v n:Nat):Nat:=(v+(2^n-1)) / 2^n*2^n
def sizeK (kind bits:Int):Int × Int:=
 if kind=1 then (if 4≤bits/\bits≤20 then (bits,0) else (0,1))
 else if kind=2 then (if 1≤bits/\bits≤8 then (bits+2,0) else (0,1))
 else if kind=3 then (5,0) else if kind=4∨kind=5 then (2,0) else if kind=6∨kind=7∨kind=8 then (6,0) else (0,80)
def placeU (u:Unt) (kind bits n:Int):List Nat × Unt × Int:=
 if (sizeK kind bits).2≠0 then ([],zU,(sizeK kind bits).2) else if n<1∨64<n then ([],zU,1)
 else if u.base+2^u.bits<upN (u.base+u.used) (sizeK kind bits).1.toNat+n.toNat*2^(sizeK kind bits).1.toNat then ([],zU,81)
 else ((List.range n.toNat).map fun i=>upN (u.base+u.used) (sizeK kind bits).1.toNat+i*2^(sizeK kind bits).1.toNat,
  { u with used:=upN (u.base+u.used) (sizeK kind bits).1.toNat+n.toNat*2^(sizeK kind bits).1.toNat-u.base},0)
theorem sizeK_le {kind bits:Int}:0≤(sizeK kind bits).1/\(sizeK kind bits).1≤20:=by
 unfold sizeK
 repeat' split
 all_goals (dsimp only;omega)
theorem upN_le (v n:Nat):v≤upN v n/\upN v n<v+2^n:=by
 unfold upN;have hp:0<2^n:=Nat.two_pow_pos n;have h1:=Nat.div_add_mod (v+(2^n-1)) (2^n);have h2:=Nat.mod_lt (v+(2^n-1)) hp;rw[Nat.mul_comm] at h1;omega
theorem upN_self {v n:Nat} (h:v%2^n=0):upN v n=v:=by
 have hp:0<2^n:=Nat.two_pow_pos n;have h1:=upN_le v n;have h2:upN v n%2^n=0:=by unfold upN;exact Nat.mul_mod_left _ _
 obtain ⟨a,ha⟩:=Nat.dvd_of_mod_eq_zero h;obtain ⟨c,hc⟩:=Nat.dvd_of_mod_eq_zero h2;rw[hc,ha] at h1;have h3:a≤c:=Nat.le_of_mul_le_mul_left h1.1 hp;have h4:c<a+1:=Nat.lt_of_mul_lt_mul_left (a:=2^n) (by rw[Nat.mul_add];omega);rw[hc,ha,show c=a from by omega]
theorem andNot_val (v n:Nat) (hv:v<2^64) (hn:n≤64):andNotI .u64 (v:Int) ((2^n-1:Nat):Int)=((v / 2^n*2^n:Nat):Int):=by
 have hp:0<2^n:=Nat.two_pow_pos n;have hle:2^n≤2^64:=Nat.pow_le_pow_right (by omega) hn;unfold andNotI;rw[Sl.bv_of,Sl.bv_of];have hgl:∀(z j:Nat),j<64->(BitVec.ofNat 64 z).getLsbD j=z.testBit j:=fun z j hj=>by rw[BitVec.getLsbD_ofNat];simp[hj]
 have hbit:∀j,j<64->(BitVec.ofNat 64 v &&& ~~~ BitVec.ofNat 64 (2^n-1)).toNat.testBit j=(v.testBit j&& !decide (j<n)):=fun j hj=>by
  rw[BitVec.testBit_toNat,BitVec.getLsbD_and,BitVec.getLsbD_not,hgl _ _ hj,hgl _ _ hj,Nat.testBit_two_pow_sub_one];simp[hj]
 have hlt:=(BitVec.ofNat 64 v &&& ~~~ BitVec.ofNat 64 (2^n-1)).isLt;show IntKind.u64.wrap (((BitVec.ofNat 64 v &&& ~~~ BitVec.ofNat 64 (2^n-1)).toNat:Nat):Int)=_;generalize hz:(BitVec.ofNat 64 v &&& ~~~ BitVec.ofNat 64 (2^n-1)).toNat=z at hbit hlt;rw[Sl.wrap_u64,Nat.mod_eq_of_lt hlt];congr 1;have hdm:v / 2^n*2^n≤v:=Nat.div_mul_le_self _ _;apply Nat.eq_of_testBit_eq;intro i;by_cases h64:i<64
 ·rw[hbit i h64,Nat.testBit_mul_two_pow,Nat.testBit_div_two_pow]
  by_cases hin:i<n
  ·simp[hin];omega
  ·simp[hin,Nat.sub_add_cancel (Nat.le_of_not_lt hin)];intro _;omega
 ·rw[Nat.testBit_lt_two_pow (Nat.lt_of_lt_of_le hlt (Nat.pow_le_pow_right (by omega) (by omega))),Nat.testBit_lt_two_pow (Nat.lt_of_lt_of_le (Nat.lt_of_le_of_lt hdm hv) (Nat.pow_le_pow_right (by omega) (by omega)))]
section
variable {B:Nat} {w0 w:World} {R L:List Asn}
theorem add64_run (x y:Nat) (w:World):ExtR Tryz.prog 331 #[.int .u64 (x:Int), .int .u64 (y:Int), .int .u64 (0:Int)] w (.tuple #[.int .u64 (((x+y)%18446744073709551616:Nat):Int), .int .u64 (((x+y) / 18446744073709551616:Nat):Int)]) w:=by
 unfold ExtR;rw[run_callFunc_extern Tryz.func331 (by kernel_rfl) (by kernel_rfl) (by kernel_rfl) (e:=add64Entry) (by kernel_rfl),run_add64 (x:Int) (y:Int) 0 (by omega) (by omega) (by omega) (by omega)];simp only[Result.andThen,Int.add_zero];congr 5
theorem words_Up_spec {v n:Nat} {K:Int->Int->World->Prop} (hv:v<2^62) (hn:n≤60) (h:K ((upN v n:Nat):Int) 0 w):C.qcL (v:Int) (n:Int) K w:=by
 apply S.qcL0;unfold S.qcL;have e62:(2:Nat)^62=4611686018427387904:=by decide
 have hle:2^n≤2^60:=Nat.pow_le_pow_right (by omega) hn;have e60:(2:Nat)^60=1152921504606846976:=by decide
 intro k hk;refine cdecF (by omega) ?_;apply hk;rw[decide_eq_false (by omega)];refine cbF rfl ?_;refine Sl.words_low_spec (by omega) ?_;refine ⟨_,_,w,add64_run v (2^n-1) w, ?_⟩;rw[Nat.div_eq_of_lt (by omega),Nat.mod_eq_of_lt (by omega)];refine cneF rfl ?_;have h64:(2:Nat)^64=18446744073709551616:=by decide
 rw[andNot_val _ _ (by omega) (by omega)];exact h
theorem between_spec {n a c d:Int} {K:Int->Int->World->Prop} (hb:a≤n/\n≤c->0≤n+d/\n+d≤1000) (h:K (if a≤n/\n≤c then n+d else 0) (if a≤n/\n≤c then 0 else 1) w):C.qbq n a c d K w:=by
 apply S.qbq0;unfold S.qbq;intro k hk;refine cdec (fun e=>?_) (fun e=>?_)
 ·apply hk
  rw[if_neg (by omega),if_neg (by omega)] at h;exact cbT rfl h
 ·apply hk
  by_cases e2:n>c
  ·rw[decide_eq_true e2]
   rw[if_neg (by omega),if_neg (by omega)] at h;exact cbT rfl h
  ·rw[decide_eq_false e2]
   have:=hb (by omega);rw[if_pos (by omega),if_pos (by omega)] at h;rw[wr (by omega) (by omega)];exact cbF rfl h
theorem sizes_spec {K:Int->Int->Int->Int->Int->Int->Int->Int->Int->Int->World->Prop} (h:Own B w0 w R) (hK:∀w',Own B w0 w' R->K 0 0 0 5 2 2 6 6 6 0 w'):C.qbP K w:=by
 apply S.qbP0;unfold S.qbP;refine h.al fun w1 h=>?_
 generalize w.heap.size=c at h⊢;refine h.stLc rfl rfl fun w h=>?_
 (try dsimp only[putAt,List.set_cons_zero,List.set_cons_succ] at h)
 refine h.lc_10 rfl ?_;exact hK w h.drop
theorem Size_spec {kind bits:Int} {K:Int->Int->World->Prop} (h:Own B w0 w R) (hK:∀w',Own B w0 w' R->K (sizeK kind bits).1 (sizeK kind bits).2 w'):C.qcq kind bits K w:=by
 apply S.qcq0;unfold S.qcq;unfold sizeK at hK;refine ceq (fun e=>?_) (fun e=>?_)
 ·rw[if_pos e] at hK
  refine between_spec (by omega) ?_;have:=hK w h;split at this
  ·rename_i hb
   rw[if_pos hb,if_pos hb,Int.add_zero];exact this
  ·rename_i hb
   rw[if_neg hb,if_neg hb];exact this
 rw[if_neg e] at hK;refine ceq (fun e2=>?_) (fun e2=>?_)
 ·rw[if_pos e2] at hK
  refine between_spec (by omega) ?_;have:=hK w h;split at this
  ·rename_i hb
   rw[if_pos hb,if_pos hb];exact this
  ·rename_i hb
   rw[if_neg hb,if_neg hb];exact this
 rw[if_neg e2] at hK;intro k hk;refine cdec (fun e3=>?_) (fun e3=>?_)
 ·rw[if_neg (by omega),if_neg (by omega),if_neg (by omega)] at hK
  apply hk;exact cbT rfl (hK w h)
 refine cdec (fun e4=>?_) (fun e4=>?_)
 ·rw[if_neg (by omega),if_neg (by omega),if_neg (by omega)] at hK
  apply hk;exact cbT rfl (hK w h)
 refine sizes_spec h fun w h=>?_
 refine ⟨by omega,by omega, ?_⟩;have hk2:kind=0∨kind=3∨kind=4∨kind=5∨kind=6∨kind=7∨kind=8∨kind=9:=by omega
 have fin:∀z:Int,(#[.int .i64 0, .int .i64 0, .int .i64 0, .int .i64 5, .int .i64 2, .int .i64 2, .int .i64 6, .int .i64 6, .int .i64 6, .int .i64 0]:Array Value)[kind.toNat*1]?=some (.int .i64 z)->z≠0->
   (∀w',Own B w0 w' R->K z 0 w')->k (z==0) w:=fun z hz z0 hK=>by
  rw[show (z==0)=false from by simpa using z0];apply hk;refine cbF rfl ?_;refine sizes_spec h fun w h=>?_
  exact ⟨by omega,by omega,z,hz,hK w h⟩
 have fin0:(∀w',Own B w0 w' R->K 0 80 w')->k ((0:Int)==0) w:=fun hK=>by
  apply hk;exact cbT rfl (hK w h)
 rcases hk2 with rfl|rfl|rfl|rfl|rfl|rfl|rfl|rfl
 ·exact ⟨0,rfl,fin0 hK⟩
 ·exact ⟨5,rfl,fin 5 rfl (by decide) hK⟩
 ·exact ⟨2,rfl,fin 2 rfl (by decide) hK⟩
 ·exact ⟨2,rfl,fin 2 rfl (by decide) hK⟩
 ·exact ⟨6,rfl,fin 6 rfl (by decide) hK⟩
 ·exact ⟨6,rfl,fin 6 rfl (by decide) hK⟩
 ·exact ⟨6,rfl,fin 6 rfl (by decide) hK⟩
 ·exact ⟨0,rfl,fin0 hK⟩
theorem shl1 {n:Nat} (hn:n≤62):shlI .u64 1 (n:Int)=((2^n:Nat):Int):=by
 have:=Sl.shl_u (a:=1) (k:=n) (d:=1) (by decide) (by omega);rw[Nat.one_mul] at this;exact this
theorem UOk.room {u:Unt} (hu:UOk u):2^u.bits≤2^20/\u.base≤2^20/\u.used≤2^20:=by
 have h1:=hu.top;have h2:=hu.used;have h3:0<2^u.bits:=Nat.two_pow_pos _;omega
theorem Check_spec {u:Unt} {K:Int->World->Prop} (hu:UOk u) (h:Own B w0 w R) (hK:∀w',Own B w0 w' R->K 0 w'):C.qcg (u.base:Int) (u.bits:Int) (u.used:Int) K w:=by
 apply S.qcg0;unfold S.qcg;obtain ⟨r1,r2,r3⟩:=hu.room;have e20:(2:Nat)^20=1048576:=by decide
 have hb:=hu.bits;have e62:(2:Nat)^62=4611686018427387904:=by decide
 refine h.al fun w1 h=>?_
 generalize w.heap.size=c at h⊢;intro k hk;refine ⟨_,h.ldd rfl,cdecF (by omega) ?_⟩;refine ⟨_,h.ldd rfl,cdecF (by omega) ?_⟩;refine ⟨_,h.ldc rfl, ?_⟩;apply hk;rw[decide_eq_false (by omega)];refine cbF rfl ?_;refine ⟨_,h.ldc rfl,_,h.ldd rfl, ?_⟩;refine words_Up_spec (by omega) (by omega) ?_;refine h.dr fun w h=>?_
 refine cneF rfl ?_;refine ⟨_,h.ldc rfl, ?_⟩;rw[upN_self hu.dvd];refine cneF rfl ?_;refine ⟨_,h.ldd rfl,_,h.ldd rfl,by omega, ?_⟩;rw[shl1 (by omega)];have:=hu.used;refine cdecF (by omega) ?_;exact hK _ h.drop
theorem app1_w {s:Sl} {ys:List Nat} {y:Nat} {c:Nat} {L:List Asn} {k:Sl->World->Prop} [I:SlIn s L Nat wE ys] [J:Pick (SlT wE s ys) L R] (h:Own B w0 w (BlkA c [.int .u64 (y:Int)]::L)) (hbig:ys.length≤1000000000)
  (hk:∀s' w',s'.len=ys.length+1->Own B w0 w' (SlT wE s' (ys++ [y])::R)->k s' w'):
  ∃s' w',AppR Tryz.prog [240,240] 240 (.slice s.a s.len s.cap) (.slice (some (Addr.mk c 0 none)) 1 1) w s' w'/\k s' w':=
 Own.app1c (E:=wE) (y:=y) Tryz.underlying240 (show Tryz.prog.info? 31=some Tryz.t31 from by kernel_rfl) (zv:= .int .u64 0) (by kernel_rfl) (by kernel_rfl) rfl (by decide) h (by
  have e:Tryz.t31.bytes=8:=by kernel_rfl
  rw[e];omega) hk
theorem Place_spec {u:Unt} {kind bits n:Int} {K:Sl->Int->Int->Int->Int->World->Prop} (hu:UOk u) (h:Own B w0 w R)
  (hK:∀s w',Own B w0 w' (SlT wE s (placeU u kind bits n).1::R)->K s ((placeU u kind bits n).2.1.base:Int) ((placeU u kind bits n).2.1.bits:Int) ((placeU u kind bits n).2.1.used:Int) (placeU u kind bits n).2.2 w'):C.qbM (u.base:Int) (u.bits:Int) (u.used:Int) kind bits n K w:=by
 apply S.qbM0;unfold S.qbM;obtain ⟨r1,r2,r3⟩:=hu.room;have e20:(2:Nat)^20=1048576:=by decide
 have hb:=hu.bits;have e62:(2:Nat)^62=4611686018427387904:=by decide
 refine h.al fun w1 h=>?_
 generalize w.heap.size=c at h⊢;refine h.al fun w2 h=>?_
 generalize w1.heap.size=d at h⊢;refine h.lc_3 rfl ?_;refine Check_spec hu h fun w h=>?_
 refine Size_spec h fun w h=>?_
 refine cneF rfl ?_;unfold placeU at hK;have hs:=sizeK_le (kind:=kind) (bits:=bits);generalize sizeK kind bits=sz at hK hs⊢;obtain ⟨z,e⟩:=sz;dsimp only at hK hs⊢;obtain ⟨m,rfl⟩:=Int.eq_ofNat_of_zero_le hs.1;rw[Int.toNat_natCast] at hK;have hz2:2^m≤2^20:=Nat.pow_le_pow_right (by omega) (by omega)
 have bad:∀(q:Int) (w:World),(∀s w',Own B w0 w' (SlT wE s []::R)->K s 0 0 0 q w')->Own B w0 w (BlkA d [.int .u64 0, .int .i64 0, .int .u64 0]::BlkA c [.int .u64 (u.base:Int), .int .i64 (u.bits:Int), .int .u64 (u.used:Int)]::R)->
   StL w (Addr.mk d 0 none) 0 [.int .u64 (0:Int), .int .i64 (0:Int), .int .u64 (0:Int)] fun w17=>LdL w17 (Addr.mk d 0 none) 0 [.i .u64, .i .i64, .i .u64] fun (r18:Int) (r19:Int) (r20:Int)=>K ⟨none,0,0⟩ r18 r19 r20 q w17:=fun q w hK h=>by
  refine h.stLc rfl rfl fun w h=>?_
  (try dsimp only[putAt,List.set_cons_zero,List.set_cons_succ] at h)
  refine h.lc_3 rfl ?_;exact hK _ w (Own.nilS h.drop.drop)
 by_cases he:e≠0
 ·rw[if_pos he] at hK
  refine cneT he ?_;exact bad e w hK h
 rw[if_neg he] at hK;refine cneF (by omega) ?_;intro k hk;by_cases hn:n<1∨64<n
 ·rw[if_pos hn] at hK
  have:k true w:=by
   apply hk;refine cbT rfl ?_;exact bad 1 w hK h
  refine cdec (fun e1=>this) (fun e1=>?_);rw[decide_eq_true (by omega)];exact this
 rw[if_neg hn] at hK;obtain ⟨n,rfl⟩:=Int.eq_ofNat_of_zero_le (show 0≤n by omega);rw[Int.toNat_natCast] at hK;refine cdecF (by omega) ?_;rw[decide_eq_false (by omega)];apply hk;refine cbF rfl ?_;refine ⟨_,h.ldc rfl,_,h.ldd rfl, ?_⟩
 have hw:IntKind.u64.wrap ((u.base:Int)+(u.used:Int))=((u.base+u.used:Nat):Int):=by
  have:=Sl.wrap_u64 (u.base+u.used);rw[Nat.mod_eq_of_lt (by omega)] at this;rw[←this];congr 1
 rw[hw];have hup:=upN_le (u.base+u.used) m;refine words_Up_spec (by omega) (by omega) ?_;refine h.dr fun w h=>?_
 refine ⟨_,h.ldc rfl,_,h.ldd rfl,by omega,by omega, ?_⟩;generalize upN (u.base+u.used) m=q at hK hup⊢;have hnw:IntKind.u64.wrap (n:Int)=(n:Int):=by rw[Sl.wrap_u64,Nat.mod_eq_of_lt (by omega)]
 have hnm:n*2^m≤64*2^20:=Nat.mul_le_mul (by omega) hz2
 have w1:IntKind.u64.wrap ((q:Int)+shlI .u64 (IntKind.u64.wrap (n:Int)) (m:Int))=((q+n*2^m:Nat):Int):=by
  rw[hnw,Sl.shl_u (a:=n) (k:=m) (d:=7) (by omega) (by omega),←Int.natCast_add,Sl.wrap_u64,Nat.mod_eq_of_lt (by omega)]
 have w2:IntKind.u64.wrap ((u.base:Int)+shlI .u64 1 (u.bits:Int))=((u.base+2^u.bits:Nat):Int):=by
  rw[shl1 (by omega),←Int.natCast_add,Sl.wrap_u64,Nat.mod_eq_of_lt (by omega)]
 rw[w1,w2];by_cases hfit:u.base+2^u.bits<q+n*2^m
 ·rw[if_pos hfit] at hK
  refine cdecT (by omega) ?_;exact bad 81 w hK h
 rw[if_neg hfit] at hK;refine cdecF (by omega) ?_;intro l hl
 have loop:∀(r j:Nat) (o:Sl) (w:World),j+r=n->Own B w0 w (SlT wE o ((List.range j).map fun i=>q+i*2^m)::BlkA d [.int .u64 0, .int .i64 0, .int .u64 0]::BlkA c [.int .u64 (u.base:Int), .int .i64 (u.bits:Int), .int .u64 (u.used:Int)]::R)->l ((q+j*2^m:Nat):Int) o (j:Int) w:=by
  intro r
  induction r with
  |zero=>
   intro j o w hj h;have hj:j=n:=by omega
   subst hj;apply hl;refine cdecF (by omega) ?_;refine ⟨_,h.ldc rfl, ?_⟩
   have e3:IntKind.u64.wrap (((q+j*2^m:Nat):Int)-(u.base:Int))=((q+j*2^m-u.base:Nat):Int):=by
    rw[show (((q+j*2^m:Nat):Int)-(u.base:Int))=((q+j*2^m-u.base:Nat):Int) from by omega,Sl.wrap_u64,Nat.mod_eq_of_lt (by omega)]
   rw[e3];refine h.std rfl rfl fun w h=>?_
   refine h.dr fun w h=>?_
   (try dsimp only[putAt,List.set_cons_zero,List.set_cons_succ] at h)
   refine h.lc_3 rfl ⟨?_,trivial⟩;refine h.stLc rfl rfl fun w h=>?_
   (try dsimp only[putAt,List.set_cons_zero,List.set_cons_succ] at h)
   refine h.lc_3 rfl ?_;exact hK _ w h.rm1.rm1
  |succ r ih=>
   intro j o w hj h;have hjm:(j+1)*2^m≤n*2^m:=Nat.mul_le_mul_right _ (by omega);apply hl;refine cdecT (by omega) ?_;refine h.al fun w2 h=>?_
   generalize w.heap.size=g at h⊢;refine app1_w (s:=o) (y:=q+j*2^m) h (by simp;omega) fun o' w ho' h=>⟨by omega, ?_⟩
   have e4:IntKind.u64.wrap (((q+j*2^m:Nat):Int)+shlI .u64 1 (m:Int))=((q+(j+1)*2^m:Nat):Int):=by
    rw[shl1 (by omega),←Int.natCast_add,Sl.wrap_u64,Nat.mod_eq_of_lt (by rw[Nat.add_mul] at hjm;omega)];rw[Nat.add_mul,Nat.one_mul,Nat.add_assoc]
   rw[e4,show IntKind.i64.wrap ((j:Int)+1)=((j+1:Nat):Int) from by rw[wr (by omega) (by omega)];omega];refine ih (j+1) o' w (by omega) ?_;rw[List.range_succ,List.map_append];exact h
 have:=loop n 0 ⟨none,0,0⟩ w (by omega) (Own.nilS h);rw[Nat.zero_mul,Nat.add_zero] at this;exact this
theorem Reset_spec {u:Unt} {K:Int->Int->Int->World->Prop} (h:Own B w0 w R) (hK:∀w',Own B w0 w' R->K (u.base:Int) (u.bits:Int) 0 w'):C.qce (u.base:Int) (u.bits:Int) (u.used:Int) K w:=by
 apply S.qce0;unfold S.qce;refine h.al fun w1 h=>?_
 generalize w.heap.size=c at h⊢;refine h.al fun w2 h=>?_
 generalize w1.heap.size=d at h⊢;refine h.std rfl rfl fun w h=>?_
 (try dsimp only[putAt,List.set_cons_zero,List.set_cons_succ] at h)
 refine h.lc_3 rfl ?_;refine h.stLc rfl rfl fun w h=>?_
 (try dsimp only[putAt,List.set_cons_zero,List.set_cons_succ] at h)
 refine h.lc_3 rfl ?_;exact hK w h.drop.drop
theorem UOk.place {u:Unt} (hu:UOk u) {kind bits n:Int} (h:(placeU u kind bits n).2.2=0):1≤n/\n≤64/\UOk (placeU u kind bits n).2.1/\(placeU u kind bits n).1.length=n.toNat/\(sizeK kind bits).2=0/\
  ∀a∈(placeU u kind bits n).1,a%2^(sizeK kind bits).1.toNat=0/\a+2^(sizeK kind bits).1.toNat≤2^20:=by
 unfold placeU at*
 have hs:=sizeK_le (kind:=kind) (bits:=bits);generalize sizeK kind bits=sz at*
 split at h
 ·rename_i h0;exact absurd h h0
 rename_i h0;rw[if_neg h0];split at h
 ·cases h
 rename_i h1;rw[if_neg h1];split at h
 ·cases h
 rename_i h2;rw[if_neg h2];have hup:=upN_le (u.base+u.used) sz.1.toNat;have ht:=hu.top;refine ⟨by omega,by omega,⟨hu.bits,hu.top,hu.dvd, ?_⟩,by simp,by omega,fun a ha=>?_⟩
 ·dsimp only;omega
 ·obtain ⟨i,hi,rfl⟩:=List.mem_map.1 ha
  rw[List.mem_range] at hi;have hm:(i+1)*2^sz.1.toNat≤n.toNat*2^sz.1.toNat:=Nat.mul_le_mul_right _ (by omega);rw[Nat.add_mul,Nat.one_mul] at hm;refine ⟨?_,by omega⟩;rw[Nat.add_mul_mod_self_right];unfold upN;exact Nat.mul_mod_left _ _
end
end Go.Proofs.YtogmbmdbgkopjaaGreat
end
section
set_option maxRecDepth 100000
namespace Go.Proofs.YtogmbmdbgkopjaaGreat
open Go Go.Vc Go.Proofs
def S.qU (s1:Sl) (f2:Value) (K:Bool->World->Prop) (w:World):Prop:=C.qp s1 f2 (fun r3 w4=>K (decide (r3≥(0:Int))) w4) w
theorem S.qU0 (s1:Sl) (f2:Value) (K:Bool->World->Prop) (w:World) (h:S.qU s1 f2 K w):C.qU s1 f2 K w:=
 okS Tryz.func103 (.t none (.u) (.t none (.u) (.u))) [(0, .c (.b))] [.slice s1.a s1.len s1.cap,f2] K rfl (by kernel_rfl) (by kernel_rfl) h
def S.qaj (x1:Sl) (count2:Int) (K:Sl->World->Prop) (w:World):Prop:=∀k3:World->Prop,(∀(w4:World),(C.qcd (IntKind.u64.wrap (x1.len:Int)) (IntKind.u64.wrap count2) (fun r5 r6 w7=>∀k8:Bool->World->Prop,(∀(t9:Bool) (w10:World),(∀k11:World->Prop,(∀(w12:World),(∃(t13:Sl) (w14:World),MkSlR Tryz.prog 26 (.int .i64 (IntKind.i64.wrap r6)) (.int .i64 (IntKind.i64.wrap r6)) w12 t13 w14/\∃(n15:Int) (w16:World),CopyR Tryz.prog [26,26] 3 (.slice t13.a t13.len t13.cap) (.slice x1.a x1.len x1.cap) w14 n15 w16/\∀l17:Int->World->Prop,(∀(n18:Int) (w19:World),(bif decide (n18<(t13.len:Int)) then (Dr w19 fun w20=>0≤n18/\n18≤(t13.len:Int)/\0≤n18/\n18≤(t13.cap:Int)/\(∃(n21:Int) (w22:World),CopyR Tryz.prog [26,26] 3 (.slice (slA t13.a n18.toNat t13.cap 1) (t13.len-n18.toNat) (t13.cap-n18.toNat)) (.slice (slA t13.a 0 t13.cap 1) (n18.toNat-0) (t13.cap-0)) w20 n21 w22/\l17 (IntKind.i64.wrap (n18+n21)) w22)/\True) else (K t13 w19))->l17 n18 w19)->l17 n15 w16)->k11 w12)->(bif t9 then (False) else (k11 w10)))->k8 t9 w10)->(bif decide (r5>(0:Int)) then (k8 true w7) else (k8 (decide (r6>(9223372036854775807:Int))) w7))) w4)->k3 w4)->(bif decide (count2<(0:Int)) then (False) else (k3 w))
theorem S.qaj0 (x1:Sl) (count2:Int) (K:Sl->World->Prop) (w:World) (h:S.qaj x1 count2 K w):C.qaj x1 count2 K w:=
 okS Tryz.func104 (.t none (.u) (.t none (.t none (.u) (.t (some []) (.u) (.u))) (.t none (.u) (.t none (.t none (.r (some [(26, .c (.b))]) .done) (.t (some []) (.u) (.u))) (.t none (.u) (.t none (.u) (.t none (.t none (.t (some [(8, .c (.i .i64))]) (.t none (.t none (.u) (.t none (.u) (.u))) (.t none (.r none (.one 0 254 (.one 1 116 (.one 2 112 (.one 3 112 (.one 4 32 (.one 5 0 (.one 6 0 (.alt 7 (.one 8 0 (.one 9 0 (.done))) (.none)))))))))) (.u))) (.u)) (.u)) (.t none (.u) (.u))))))))) [(0, .c (.s))] [.slice x1.a x1.len x1.cap, .int .i64 count2] K rfl (by kernel_rfl) (by kernel_rfl) h
def S.qz (seq1:Value) (cmp2:Value) (K:Sl->World->Prop) (w:World):Prop:=C.qao seq1 (fun r3 w4=>C.qbH r3 cmp2 (fun w5=>K r3 w5) w4) w
theorem S.qz0 (seq1:Value) (cmp2:Value) (K:Sl->World->Prop) (w:World) (h:S.qz seq1 cmp2 K w):C.qz seq1 cmp2 K w:=
 okS Tryz.func114 (.t none (.u) (.t none (.u) (.t none (.u) (.t none (.u) (.u))))) [(0, .c (.s))] [seq1,cmp2] K rfl (by kernel_rfl) (by kernel_rfl) h
def S.qp (s1:Sl) (f2:Value) (K:Int->World->Prop) (w:World):Prop:=∀l3:Int->World->Prop,(∀(t4:Int) (w5:World),(bif decide (t4<(s1.len:Int)) then (∃a6,s1.a=some a6/\0≤t4/\t4<(s1.len:Int)/\∃t7,w5.cell? (a6.add (t4.toNat*1))=some (.int .i64 t7)/\CallV Tryz.prog (f2) [.int .i64 t7] w5 fun enw9 w9=>∃r8,enw9= .returned (.bool r8)/\bif r8 then (K t4 w9) else (l3 (IntKind.i64.wrap (t4+(1:Int))) w9)) else (K (-1:Int) w5))->l3 t4 w5)->l3 (0:Int) w
theorem S.qp0 (s1:Sl) (f2:Value) (K:Int->World->Prop) (w:World) (h:S.qp s1 f2 K w):C.qp s1 f2 K w:=
 okS Tryz.func186 (.t none (.u) (.t none (.t none (.u) (.t none (.t (some [(8, .c (.i .i64))]) (.t none (.u) (.t none (.t none (.u) (.u)) (.t none (.t none (.t none (.u) (.t none (.u) (.t none (.t none (.u) (.u)) (.u)))) (.u)) (.u)))) (.u)) (.u))) (.t none (.u) (.u)))) [(0, .c (.i .i64))] [.slice s1.a s1.len s1.cap,f2] K rfl (by kernel_rfl) (by kernel_rfl) h
def S.qao (seq1:Value) (K:Sl->World->Prop) (w:World):Prop:=C.qct ⟨none,0,0⟩ seq1 (fun r2 w3=>K r2 w3) w
theorem S.qao0 (seq1:Value) (K:Sl->World->Prop) (w:World) (h:S.qao seq1 K w):C.qao seq1 K w:=
 okS Tryz.func194 (.t none (.u) (.t none (.u) (.u))) [(0, .c (.s))] [seq1] K rfl (by kernel_rfl) (by kernel_rfl) h
def S.qy (s1:Sl) (K:Value->World->Prop) (w:World):Prop:=Al w (.cells #[.slice s1.a s1.len s1.cap] 79) fun w2=>K (.func (.func 291) #[] #[.pointer (some (Addr.mk w.heap.size 0 none))]) w2
theorem S.qy0 (s1:Sl) (K:Value->World->Prop) (w:World) (h:S.qy s1 K w):C.qy s1 K w:=
 okS Tryz.func210 (.t none (.u) (.t none (.u) (.u))) [(0, .c (.v))] [.slice s1.a s1.len s1.cap] K rfl (by kernel_rfl) (by kernel_rfl) h
def S.qak (s1:Sl) (i2:Int) (j3:Int) (K:Sl->World->Prop) (w:World):Prop:=0≤(s1.len:Int)/\(s1.len:Int)≤(s1.cap:Int)/\0≤j3/\j3≤(((s1.len:Int).toNat:Nat):Int)/\0≤i2/\i2≤(j3.toNat:Int)/\bif i2==j3 then (K s1 w) else (Dr w fun w4=>0≤i2/\i2≤(s1.cap:Int)/\0≤j3/\j3≤(s1.len:Int)/\(∃(t5:Sl) (w6:World),AppR Tryz.prog [26,26] 26 (.slice (slA s1.a 0 s1.cap 1) (i2.toNat-0) (s1.cap-0)) (.slice (slA s1.a j3.toNat s1.cap 1) (s1.len-j3.toNat) (s1.cap-j3.toNat)) w4 t5 w6/\0≤(s1.len:Int)/\(s1.len:Int)≤(t5.cap:Int)/\0≤(t5.len:Int)/\(t5.len:Int)≤(((s1.len:Int).toNat:Nat):Int)/\∃w7:World,ClearR Tryz.prog [26] 0 (.slice (slA t5.a ((t5.len:Int).toNat) t5.cap 1) (((s1.len:Int).toNat)-((t5.len:Int).toNat)) (t5.cap-((t5.len:Int).toNat))) w6 w7/\K t5 w7)/\True)
theorem S.qak0 (s1:Sl) (i2:Int) (j3:Int) (K:Sl->World->Prop) (w:World) (h:S.qak s1 i2 j3 K w):C.qak s1 i2 j3 K w:=
 okS Tryz.func236 (.t none (.u) (.t none (.u) (.t none (.t none (.u) (.t none (.t none (.u) (.u)) (.u))) (.t none (.u) (.t none (.r none (.one 0 58 (.one 1 56 (.one 2 56 (.one 3 16 (.one 4 0 (.one 5 0 (.alt 6 (.one 7 0 (.done)) (.none))))))))) (.t none (.u) (.t none (.u) (.u)))))))) [(0, .c (.s))] [.slice s1.a s1.len s1.cap, .int .i64 i2, .int .i64 j3] K rfl (by kernel_rfl) (by kernel_rfl) h
def S.qn (s1:Sl) (f2:Value) (K:Int->World->Prop) (w:World):Prop:=∀l3:Int->World->Prop,(∀(t4:Int) (w5:World),(bif decide (t4<(s1.len:Int)) then (∃a6,s1.a=some a6/\0≤t4/\t4<(s1.len:Int)/\LdL w5 (a6.add (t4.toNat*3)) 0 [.i .i64, .i .i64, .i .i64] fun (t7:Int) (t8:Int) (t9:Int)=>CallV Tryz.prog (f2) [.agg #[.int .i64 t7, .int .i64 t8, .int .i64 t9]] w5 fun enw11 w11=>∃r10,enw11= .returned (.bool r10)/\bif r10 then (K t4 w11) else (l3 (IntKind.i64.wrap (t4+(1:Int))) w11)) else (K (-1:Int) w5))->l3 t4 w5)->l3 (0:Int) w
theorem S.qn0 (s1:Sl) (f2:Value) (K:Int->World->Prop) (w:World) (h:S.qn s1 f2 K w):C.qn s1 f2 K w:=
 okS Tryz.func265 (.t none (.u) (.t none (.t none (.u) (.t none (.t (some [(8, .c (.i .i64))]) (.t none (.u) (.t none (.t none (.u) (.u)) (.t none (.t none (.t none (.u) (.t none (.u) (.t none (.t none (.u) (.u)) (.u)))) (.u)) (.u)))) (.u)) (.u))) (.t none (.u) (.u)))) [(0, .c (.i .i64))] [.slice s1.a s1.len s1.cap,f2] K rfl (by kernel_rfl) (by kernel_rfl) h
def S.qC (s1:Sl) (del2:Value) (K:Sl->World->Prop) (w:World):Prop:=C.qp s1 del2 (fun r3 w4=>bif r3==(-1:Int) then (K s1 w4) else (∀l5:Int->Int->World->Prop,(∀(i6:Int) (j7:Int) (w8:World),(bif decide (j7<(s1.len:Int)) then (∃a9,s1.a=some a9/\0≤j7/\j7<(s1.len:Int)/\∃t10,w8.cell? (a9.add (j7.toNat*1))=some (.int .i64 t10)/\CallV Tryz.prog (del2) [.int .i64 t10] w8 fun enw12 w12=>∃r11,enw12= .returned (.bool r11)/\bif !r11 then (∃a13,s1.a=some a13/\0≤i6/\i6<(s1.len:Int)/\St w12 (a13.add (i6.toNat*1)) (.int .i64 t10) fun w14=>l5 (IntKind.i64.wrap (i6+(1:Int))) (IntKind.i64.wrap (j7+(1:Int))) w14) else (l5 i6 (IntKind.i64.wrap (j7+(1:Int))) w12)) else (0≤i6/\i6≤(s1.len:Int)/\∃w15:World,ClearR Tryz.prog [26] 0 (.slice (slA s1.a i6.toNat s1.cap 1) (s1.len-i6.toNat) (s1.cap-i6.toNat)) w8 w15/\0≤i6/\i6≤(s1.cap:Int)/\K ⟨slA s1.a 0 s1.cap 1,i6.toNat-0,s1.cap-0⟩ w15))->l5 i6 j7 w8)->l5 r3 (IntKind.i64.wrap (r3+(1:Int))) w4)) w
theorem S.qC0 (s1:Sl) (del2:Value) (K:Sl->World->Prop) (w:World) (h:S.qC s1 del2 K w):C.qC s1 del2 K w:=
 okS Tryz.func269 (.t none (.u) (.t none (.u) (.t none (.t none (.u) (.t none (.t none (.u) (.u)) (.u))) (.t none (.t none (.u) (.t none (.t (some [(5, .c (.i .i64)),(6, .c (.i .i64))]) (.t none (.t none (.u) (.t none (.u) (.u))) (.t none (.t none (.t none (.u) (.t none (.u) (.t none (.t none (.u) (.u)) (.u)))) (.u)) (.u))) (.u)) (.u))) (.t none (.u) (.t none (.u) (.u))))))) [(0, .c (.s))] [.slice s1.a s1.len s1.cap,del2] K rfl (by kernel_rfl) (by kernel_rfl) h
def S.qj (s1:Sl) (f2:Value) (K:Bool->World->Prop) (w:World):Prop:=C.qq s1 f2 (fun r3 w4=>K (decide (r3≥(0:Int))) w4) w
theorem S.qj0 (s1:Sl) (f2:Value) (K:Bool->World->Prop) (w:World) (h:S.qj s1 f2 K w):C.qj s1 f2 K w:=
 okS Tryz.func280 (.t none (.u) (.t none (.u) (.u))) [(0, .c (.b))] [.slice s1.a s1.len s1.cap,f2] K rfl (by kernel_rfl) (by kernel_rfl) h
def S.qk (s1:Sl) (f2:Value) (K:Bool->World->Prop) (w:World):Prop:=C.qr s1 f2 (fun r3 w4=>K (decide (r3≥(0:Int))) w4) w
theorem S.qk0 (s1:Sl) (f2:Value) (K:Bool->World->Prop) (w:World) (h:S.qk s1 f2 K w):C.qk s1 f2 K w:=
 okS Tryz.func286 (.t none (.u) (.t none (.u) (.u))) [(0, .c (.b))] [.slice s1.a s1.len s1.cap,f2] K rfl (by kernel_rfl) (by kernel_rfl) h
def S.qaa (s1:Sl) (v2:Int) (K:Bool->World->Prop) (w:World):Prop:=C.qav s1 v2 (fun r3 w4=>K (decide (r3≥(0:Int))) w4) w
theorem S.qaa0 (s1:Sl) (v2:Int) (K:Bool->World->Prop) (w:World) (h:S.qaa s1 v2 K w):C.qaa s1 v2 K w:=
 okS Tryz.func298 (.t none (.u) (.t none (.u) (.u))) [(0, .c (.b))] [.slice s1.a s1.len s1.cap, .int .i64 v2] K rfl (by kernel_rfl) (by kernel_rfl) h
def S.qd (s1:Sl) (f2:Value) (K:Bool->World->Prop) (w:World):Prop:=C.qi s1 f2 (fun r3 w4=>K (decide (r3≥(0:Int))) w4) w
theorem S.qd0 (s1:Sl) (f2:Value) (K:Bool->World->Prop) (w:World) (h:S.qd s1 f2 K w):C.qd s1 f2 K w:=
 okS Tryz.func301 (.t none (.u) (.t none (.u) (.u))) [(0, .c (.b))] [.slice s1.a s1.len s1.cap,f2] K rfl (by kernel_rfl) (by kernel_rfl) h
def S.qt (s1:Sl) (f2:Value) (K:Int->World->Prop) (w:World):Prop:=∀l3:Int->World->Prop,(∀(t4:Int) (w5:World),(bif decide (t4<(s1.len:Int)) then (∃a6,s1.a=some a6/\0≤t4/\t4<(s1.len:Int)/\∃t7,w5.cell? (a6.add (t4.toNat*1))=some (.int .i64 t7)/\CallV Tryz.prog (f2) [.int .i64 t7] w5 fun enw9 w9=>∃r8,enw9= .returned (.bool r8)/\bif r8 then (K t4 w9) else (l3 (IntKind.i64.wrap (t4+(1:Int))) w9)) else (K (-1:Int) w5))->l3 t4 w5)->l3 (0:Int) w
theorem S.qt0 (s1:Sl) (f2:Value) (K:Int->World->Prop) (w:World) (h:S.qt s1 f2 K w):C.qt s1 f2 K w:=
 okS Tryz.func311 (.t none (.u) (.t none (.t none (.u) (.t none (.t (some [(8, .c (.i .i64))]) (.t none (.u) (.t none (.t none (.u) (.u)) (.t none (.t none (.t none (.u) (.t none (.u) (.t none (.t none (.u) (.u)) (.u)))) (.u)) (.u)))) (.u)) (.u))) (.t none (.u) (.u)))) [(0, .c (.i .i64))] [.slice s1.a s1.len s1.cap,f2] K rfl (by kernel_rfl) (by kernel_rfl) h
def S.qq (s1:Sl) (f2:Value) (K:Int->World->Prop) (w:World):Prop:=∀l3:Int->World->Prop,(∀(t4:Int) (w5:World),(bif decide (t4<(s1.len:Int)) then (∃a6,s1.a=some a6/\0≤t4/\t4<(s1.len:Int)/\LdL w5 (a6.add (t4.toNat*2)) 0 [.i .i64, .i .i64] fun (t7:Int) (t8:Int)=>CallV Tryz.prog (f2) [.agg #[.int .i64 t7, .int .i64 t8]] w5 fun enw10 w10=>∃r9,enw10= .returned (.bool r9)/\bif r9 then (K t4 w10) else (l3 (IntKind.i64.wrap (t4+(1:Int))) w10)) else (K (-1:Int) w5))->l3 t4 w5)->l3 (0:Int) w
theorem S.qq0 (s1:Sl) (f2:Value) (K:Int->World->Prop) (w:World) (h:S.qq s1 f2 K w):C.qq s1 f2 K w:=
 okS Tryz.func332 (.t none (.u) (.t none (.t none (.u) (.t none (.t (some [(8, .c (.i .i64))]) (.t none (.u) (.t none (.t none (.u) (.u)) (.t none (.t none (.t none (.u) (.t none (.u) (.t none (.t none (.u) (.u)) (.u)))) (.u)) (.u)))) (.u)) (.u))) (.t none (.u) (.u)))) [(0, .c (.i .i64))] [.slice s1.a s1.len s1.cap,f2] K rfl (by kernel_rfl) (by kernel_rfl) h
def S.ql (s1:Sl) (i2:Int) (v3:Sl) (K:Sl->World->Prop) (w:World):Prop:=0≤i2/\i2≤(s1.len:Int)/\bif (v3.len:Int)==(0:Int) then (K s1 w) else (bif i2==(s1.len:Int) then (∃(t4:Sl) (w5:World),AppR Tryz.prog [183,183] 183 (.slice s1.a s1.len s1.cap) (.slice v3.a v3.len v3.cap) w t4 w5/\K t4 w5) else (bif decide ((IntKind.i64.wrap ((s1.len:Int)+(v3.len:Int)))>(s1.cap:Int)) then (0≤i2/\i2≤(s1.cap:Int)/\∃(t6:Sl) (w7:World),AppR Tryz.prog [183,3] 183 (.slice (slA s1.a 0 s1.cap 3) (i2.toNat-0) (s1.cap-0)) (.int .i64 (IntKind.i64.wrap ((IntKind.i64.wrap ((s1.len:Int)+(v3.len:Int)))-i2))) w t6 w7/\0≤i2/\i2≤(t6.len:Int)/\∃(n8:Int) (w9:World),CopyR Tryz.prog [183,183] 3 (.slice (slA t6.a i2.toNat t6.cap 3) (t6.len-i2.toNat) (t6.cap-i2.toNat)) (.slice v3.a v3.len v3.cap) w7 n8 w9/\Dr w9 fun w10=>0≤IntKind.i64.wrap (i2+(v3.len:Int))/\IntKind.i64.wrap (i2+(v3.len:Int))≤(t6.len:Int)/\0≤i2/\i2≤(s1.len:Int)/\(∃(n11:Int) (w12:World),CopyR Tryz.prog [183,183] 3 (.slice (slA t6.a ((IntKind.i64.wrap (i2+(v3.len:Int))).toNat) t6.cap 3) (t6.len-((IntKind.i64.wrap (i2+(v3.len:Int))).toNat)) (t6.cap-((IntKind.i64.wrap (i2+(v3.len:Int))).toNat))) (.slice (slA s1.a i2.toNat s1.cap 3) (s1.len-i2.toNat) (s1.cap-i2.toNat)) w10 n11 w12/\K t6 w12)/\True) else (0≤IntKind.i64.wrap ((s1.len:Int)+(v3.len:Int))/\IntKind.i64.wrap ((s1.len:Int)+(v3.len:Int))≤(s1.cap:Int)/\0≤IntKind.i64.wrap (i2+(v3.len:Int))/\IntKind.i64.wrap (i2+(v3.len:Int))≤((((IntKind.i64.wrap ((s1.len:Int)+(v3.len:Int))).toNat)-0:Nat):Int)/\∃r13,∃w14:World,ExtR Tryz.prog 357 #[.slice v3.a v3.len v3.cap, .slice (slA (slA s1.a 0 s1.cap 3) ((IntKind.i64.wrap (i2+(v3.len:Int))).toNat) (s1.cap-0) 3) ((((IntKind.i64.wrap ((s1.len:Int)+(v3.len:Int))).toNat)-0)-((IntKind.i64.wrap (i2+(v3.len:Int))).toNat)) ((s1.cap-0)-((IntKind.i64.wrap (i2+(v3.len:Int))).toNat))] w (.bool r13) w14/\bif !r13 then (Dr w14 fun w15=>0≤IntKind.i64.wrap (i2+(v3.len:Int))/\IntKind.i64.wrap (i2+(v3.len:Int))≤((((IntKind.i64.wrap ((s1.len:Int)+(v3.len:Int))).toNat)-0:Nat):Int)/\0≤i2/\i2≤((((IntKind.i64.wrap ((s1.len:Int)+(v3.len:Int))).toNat)-0:Nat):Int)/\(∃(n16:Int) (w17:World),CopyR Tryz.prog [183,183] 3 (.slice (slA (slA s1.a 0 s1.cap 3) ((IntKind.i64.wrap (i2+(v3.len:Int))).toNat) (s1.cap-0) 3) ((((IntKind.i64.wrap ((s1.len:Int)+(v3.len:Int))).toNat)-0)-((IntKind.i64.wrap (i2+(v3.len:Int))).toNat)) ((s1.cap-0)-((IntKind.i64.wrap (i2+(v3.len:Int))).toNat))) (.slice (slA (slA s1.a 0 s1.cap 3) i2.toNat (s1.cap-0) 3) ((((IntKind.i64.wrap ((s1.len:Int)+(v3.len:Int))).toNat)-0)-i2.toNat) ((s1.cap-0)-i2.toNat)) w15 n16 w17/\0≤i2/\i2≤((((IntKind.i64.wrap ((s1.len:Int)+(v3.len:Int))).toNat)-0:Nat):Int)/\∃(n18:Int) (w19:World),CopyR Tryz.prog [183,183] 3 (.slice (slA (slA s1.a 0 s1.cap 3) i2.toNat (s1.cap-0) 3) ((((IntKind.i64.wrap ((s1.len:Int)+(v3.len:Int))).toNat)-0)-i2.toNat) ((s1.cap-0)-i2.toNat)) (.slice v3.a v3.len v3.cap) w17 n18 w19/\K ⟨slA s1.a 0 s1.cap 3,((IntKind.i64.wrap ((s1.len:Int)+(v3.len:Int))).toNat)-0,s1.cap-0⟩ w19)/\True) else (0≤(s1.len:Int)/\(s1.len:Int)≤((((IntKind.i64.wrap ((s1.len:Int)+(v3.len:Int))).toNat)-0:Nat):Int)/\∃(n20:Int) (w21:World),CopyR Tryz.prog [183,183] 3 (.slice (slA (slA s1.a 0 s1.cap 3) ((s1.len:Int).toNat) (s1.cap-0) 3) ((((IntKind.i64.wrap ((s1.len:Int)+(v3.len:Int))).toNat)-0)-((s1.len:Int).toNat)) ((s1.cap-0)-((s1.len:Int).toNat))) (.slice v3.a v3.len v3.cap) w14 n20 w21/\0≤i2/\i2≤((((IntKind.i64.wrap ((s1.len:Int)+(v3.len:Int))).toNat)-0:Nat):Int)/\C.qcQ ⟨slA (slA s1.a 0 s1.cap 3) i2.toNat (s1.cap-0) 3,(((IntKind.i64.wrap ((s1.len:Int)+(v3.len:Int))).toNat)-0)-i2.toNat,(s1.cap-0)-i2.toNat⟩ (v3.len:Int) (fun w22=>K ⟨slA s1.a 0 s1.cap 3,((IntKind.i64.wrap ((s1.len:Int)+(v3.len:Int))).toNat)-0,s1.cap-0⟩ w22) w21))))
theorem S.ql0 (s1:Sl) (i2:Int) (v3:Sl) (K:Sl->World->Prop) (w:World) (h:S.ql s1 i2 v3 K w):C.ql s1 i2 v3 K w:=
 okS Tryz.func333 (.t none (.u) (.t none (.u) (.t none (.u) (.t none (.t none (.u) (.t none (.t none (.u) (.u)) (.u))) (.t none (.u) (.t none (.t none (.u) (.t none (.t none (.u) (.u)) (.u))) (.t none (.t none (.u) (.t none (.t none (.u) (.t none (.u) (.t none (.r none (.one 0 238 (.one 1 228 (.one 2 224 (.one 3 224 (.one 4 224 (.one 5 64 (.one 6 0 (.one 7 0 (.alt 8 (.done) (.none))))))))))) (.t none (.u) (.u))))) (.u))) (.t none (.u) (.t none (.t none (.u) (.t none (.t none (.r none (.one 0 238 (.one 1 228 (.one 2 224 (.one 3 224 (.one 4 224 (.one 5 64 (.one 6 0 (.one 7 0 (.alt 8 (.done) (.none))))))))))) (.t none (.u) (.t none (.u) (.u)))) (.u))) (.t none (.u) (.t none (.u) (.t none (.u) (.u))))))))))))) [(0, .c (.s))] [.slice s1.a s1.len s1.cap, .int .i64 i2, .slice v3.a v3.len v3.cap] K rfl (by kernel_rfl) (by kernel_rfl) h
def S.qm (s1:Sl) (i2:Int) (j3:Int) (K:Sl->World->Prop) (w:World):Prop:=0≤(s1.len:Int)/\(s1.len:Int)≤(s1.cap:Int)/\0≤j3/\j3≤(((s1.len:Int).toNat:Nat):Int)/\0≤i2/\i2≤(j3.toNat:Int)/\bif i2==j3 then (K s1 w) else (Dr w fun w4=>0≤i2/\i2≤(s1.cap:Int)/\0≤j3/\j3≤(s1.len:Int)/\(∃(t5:Sl) (w6:World),AppR Tryz.prog [183,183] 183 (.slice (slA s1.a 0 s1.cap 3) (i2.toNat-0) (s1.cap-0)) (.slice (slA s1.a j3.toNat s1.cap 3) (s1.len-j3.toNat) (s1.cap-j3.toNat)) w4 t5 w6/\0≤(s1.len:Int)/\(s1.len:Int)≤(t5.cap:Int)/\0≤(t5.len:Int)/\(t5.len:Int)≤(((s1.len:Int).toNat:Nat):Int)/\∃w7:World,ClearR Tryz.prog [183] 0 (.slice (slA t5.a ((t5.len:Int).toNat) t5.cap 3) (((s1.len:Int).toNat)-((t5.len:Int).toNat)) (t5.cap-((t5.len:Int).toNat))) w6 w7/\K t5 w7)/\True)
theorem S.qm0 (s1:Sl) (i2:Int) (j3:Int) (K:Sl->World->Prop) (w:World) (h:S.qm s1 i2 j3 K w):C.qm s1 i2 j3 K w:=
 okS Tryz.func334 (.t none (.u) (.t none (.u) (.t none (.t none (.u) (.t none (.t none (.u) (.u)) (.u))) (.t none (.u) (.t none (.r none (.one 0 58 (.one 1 56 (.one 2 56 (.one 3 16 (.one 4 0 (.one 5 0 (.alt 6 (.one 7 0 (.done)) (.none))))))))) (.t none (.u) (.t none (.u) (.u)))))))) [(0, .c (.s))] [.slice s1.a s1.len s1.cap, .int .i64 i2, .int .i64 j3] K rfl (by kernel_rfl) (by kernel_rfl) h
def S.qr (s1:Sl) (f2:Value) (K:Int->World->Prop) (w:World):Prop:=∀l3:Int->World->Prop,(∀(t4:Int) (w5:World),(bif decide (t4<(s1.len:Int)) then (∃a6,s1.a=some a6/\0≤t4/\t4<(s1.len:Int)/\LdL w5 (a6.add (t4.toNat*8)) 0 [.i .i64, .i .i64, .i .i64, .i .i64, .i .i64, .i .u64, .i .u64, .i .i64] fun (t7:Int) (t8:Int) (t9:Int) (t10:Int) (t11:Int) (t12:Int) (t13:Int) (t14:Int)=>CallV Tryz.prog (f2) [.agg #[.int .i64 t7, .int .i64 t8, .int .i64 t9, .int .i64 t10, .int .i64 t11, .int .u64 t12, .int .u64 t13, .int .i64 t14]] w5 fun enw16 w16=>∃r15,enw16= .returned (.bool r15)/\bif r15 then (K t4 w16) else (l3 (IntKind.i64.wrap (t4+(1:Int))) w16)) else (K (-1:Int) w5))->l3 t4 w5)->l3 (0:Int) w
theorem S.qr0 (s1:Sl) (f2:Value) (K:Int->World->Prop) (w:World) (h:S.qr s1 f2 K w):C.qr s1 f2 K w:=
 okS Tryz.func335 (.t none (.u) (.t none (.t none (.u) (.t none (.t (some [(8, .c (.i .i64))]) (.t none (.u) (.t none (.t none (.u) (.u)) (.t none (.t none (.t none (.u) (.t none (.u) (.t none (.t none (.u) (.u)) (.u)))) (.u)) (.u)))) (.u)) (.u))) (.t none (.u) (.u)))) [(0, .c (.i .i64))] [.slice s1.a s1.len s1.cap,f2] K rfl (by kernel_rfl) (by kernel_rfl) h
def S.qf (s1:Sl) (del2:Value) (K:Sl->World->Prop) (w:World):Prop:=C.qc s1 del2 (fun r3 w4=>bif r3==(-1:Int) then (K s1 w4) else (∀l5:Int->Int->World->Prop,(∀(i6:Int) (j7:Int) (w8:World),(bif decide (j7<(s1.len:Int)) then (∃a9,s1.a=some a9/\0≤j7/\j7<(s1.len:Int)/\LdL w8 (a9.add (j7.toNat*8)) 0 [.i .i64, .i .i64, .i .u64, .i .u64, .i .u64, .i .u64, .i .u64, .b] fun (t10:Int) (t11:Int) (t12:Int) (t13:Int) (t14:Int) (t15:Int) (t16:Int) (t17:Bool)=>Al w8 (.cells #[.int .i64 0, .int .i64 0, .int .u64 0, .int .u64 0, .int .u64 0, .int .u64 0, .int .u64 0, .bool false] 225) fun w18=>StL w18 (Addr.mk w8.heap.size 0 none) 0 [.int .i64 t10, .int .i64 t11, .int .u64 t12, .int .u64 t13, .int .u64 t14, .int .u64 t15, .int .u64 t16, .bool t17] fun w19=>LdL w19 (Addr.mk w8.heap.size 0 none) 0 [.i .i64, .i .i64, .i .u64, .i .u64, .i .u64, .i .u64, .i .u64, .b] fun (t20:Int) (t21:Int) (t22:Int) (t23:Int) (t24:Int) (t25:Int) (t26:Int) (t27:Bool)=>CallV Tryz.prog (del2) [.agg #[.int .i64 t20, .int .i64 t21, .int .u64 t22, .int .u64 t23, .int .u64 t24, .int .u64 t25, .int .u64 t26, .bool t27]] w19 fun enw29 w29=>∃r28,enw29= .returned (.bool r28)/\bif !r28 then (LdL w29 (Addr.mk w8.heap.size 0 none) 0 [.i .i64, .i .i64, .i .u64, .i .u64, .i .u64, .i .u64, .i .u64, .b] fun (t30:Int) (t31:Int) (t32:Int) (t33:Int) (t34:Int) (t35:Int) (t36:Int) (t37:Bool)=>∃a38,s1.a=some a38/\0≤i6/\i6<(s1.len:Int)/\StL w29 (a38.add (i6.toNat*8)) 0 [.int .i64 t30, .int .i64 t31, .int .u64 t32, .int .u64 t33, .int .u64 t34, .int .u64 t35, .int .u64 t36, .bool t37] fun w39=>l5 (IntKind.i64.wrap (i6+(1:Int))) (IntKind.i64.wrap (j7+(1:Int))) w39) else (l5 i6 (IntKind.i64.wrap (j7+(1:Int))) w29)) else (0≤i6/\i6≤(s1.len:Int)/\∃w40:World,ClearR Tryz.prog [218] 0 (.slice (slA s1.a i6.toNat s1.cap 8) (s1.len-i6.toNat) (s1.cap-i6.toNat)) w8 w40/\0≤i6/\i6≤(s1.cap:Int)/\K ⟨slA s1.a 0 s1.cap 8,i6.toNat-0,s1.cap-0⟩ w40))->l5 i6 j7 w8)->l5 r3 (IntKind.i64.wrap (r3+(1:Int))) w4)) w
theorem S.qf0 (s1:Sl) (del2:Value) (K:Sl->World->Prop) (w:World) (h:S.qf s1 del2 K w):C.qf s1 del2 K w:=
 okS Tryz.func339 (.t none (.u) (.t none (.u) (.t none (.t none (.u) (.t none (.t none (.u) (.u)) (.u))) (.t none (.t none (.u) (.t none (.t (some [(5, .c (.i .i64)),(6, .c (.i .i64))]) (.t none (.t none (.u) (.t none (.u) (.u))) (.t none (.t none (.t none (.u) (.t none (.u) (.t none (.t none (.u) (.u)) (.u)))) (.u)) (.u))) (.u)) (.u))) (.t none (.u) (.t none (.u) (.u))))))) [(0, .c (.s))] [.slice s1.a s1.len s1.cap,del2] K rfl (by kernel_rfl) (by kernel_rfl) h
def S.qe (s1:Sl) (f2:Value) (K:Bool->World->Prop) (w:World):Prop:=C.qc s1 f2 (fun r3 w4=>K (decide (r3≥(0:Int))) w4) w
theorem S.qe0 (s1:Sl) (f2:Value) (K:Bool->World->Prop) (w:World) (h:S.qe s1 f2 K w):C.qe s1 f2 K w:=
 okS Tryz.func342 (.t none (.u) (.t none (.u) (.u))) [(0, .c (.b))] [.slice s1.a s1.len s1.cap,f2] K rfl (by kernel_rfl) (by kernel_rfl) h
def S.qh (s1:Sl) (i2:Int) (j3:Int) (K:Sl->World->Prop) (w:World):Prop:=0≤(s1.len:Int)/\(s1.len:Int)≤(s1.cap:Int)/\0≤j3/\j3≤(((s1.len:Int).toNat:Nat):Int)/\0≤i2/\i2≤(j3.toNat:Int)/\bif i2==j3 then (K s1 w) else (Dr w fun w4=>0≤i2/\i2≤(s1.cap:Int)/\0≤j3/\j3≤(s1.len:Int)/\(∃(t5:Sl) (w6:World),AppR Tryz.prog [218,218] 218 (.slice (slA s1.a 0 s1.cap 8) (i2.toNat-0) (s1.cap-0)) (.slice (slA s1.a j3.toNat s1.cap 8) (s1.len-j3.toNat) (s1.cap-j3.toNat)) w4 t5 w6/\0≤(s1.len:Int)/\(s1.len:Int)≤(t5.cap:Int)/\0≤(t5.len:Int)/\(t5.len:Int)≤(((s1.len:Int).toNat:Nat):Int)/\∃w7:World,ClearR Tryz.prog [218] 0 (.slice (slA t5.a ((t5.len:Int).toNat) t5.cap 8) (((s1.len:Int).toNat)-((t5.len:Int).toNat)) (t5.cap-((t5.len:Int).toNat))) w6 w7/\K t5 w7)/\True)
theorem S.qh0 (s1:Sl) (i2:Int) (j3:Int) (K:Sl->World->Prop) (w:World) (h:S.qh s1 i2 j3 K w):C.qh s1 i2 j3 K w:=
 okS Tryz.func344 (.t none (.u) (.t none (.u) (.t none (.t none (.u) (.t none (.t none (.u) (.u)) (.u))) (.t none (.u) (.t none (.r none (.one 0 58 (.one 1 56 (.one 2 56 (.one 3 16 (.one 4 0 (.one 5 0 (.alt 6 (.one 7 0 (.done)) (.none))))))))) (.t none (.u) (.t none (.u) (.u)))))))) [(0, .c (.s))] [.slice s1.a s1.len s1.cap, .int .i64 i2, .int .i64 j3] K rfl (by kernel_rfl) (by kernel_rfl) h
def S.qav (s1:Sl) (v2:Int) (K:Int->World->Prop) (w:World):Prop:=∀l3:Int->World->Prop,(∀(t4:Int) (w5:World),(bif decide (t4<(s1.len:Int)) then (∃a6,s1.a=some a6/\0≤t4/\t4<(s1.len:Int)/\∃t7,w5.cell? (a6.add (t4.toNat*1))=some (.int .i64 t7)/\bif v2==t7 then (K t4 w5) else (l3 (IntKind.i64.wrap (t4+(1:Int))) w5)) else (K (-1:Int) w5))->l3 t4 w5)->l3 (0:Int) w
theorem S.qav0 (s1:Sl) (v2:Int) (K:Int->World->Prop) (w:World) (h:S.qav s1 v2 K w):C.qav s1 v2 K w:=
 okS Tryz.func345 (.t none (.u) (.t none (.t none (.u) (.t none (.t (some [(8, .c (.i .i64))]) (.t none (.u) (.t none (.t none (.u) (.u)) (.t none (.t none (.t none (.u) (.t none (.u) (.t none (.t none (.u) (.u)) (.u)))) (.u)) (.u)))) (.u)) (.u))) (.t none (.u) (.u)))) [(0, .c (.i .i64))] [.slice s1.a s1.len s1.cap, .int .i64 v2] K rfl (by kernel_rfl) (by kernel_rfl) h
def S.qi (s1:Sl) (f2:Value) (K:Int->World->Prop) (w:World):Prop:=∀l3:Int->World->Prop,(∀(t4:Int) (w5:World),(bif decide (t4<(s1.len:Int)) then (∃a6,s1.a=some a6/\0≤t4/\t4<(s1.len:Int)/\LdL w5 (a6.add (t4.toNat*2)) 0 [.i .i64, .m] fun (t7:Int) (t8:Option Nat)=>CallV Tryz.prog (f2) [.agg #[.int .i64 t7, .map t8]] w5 fun enw10 w10=>∃r9,enw10= .returned (.bool r9)/\bif r9 then (K t4 w10) else (l3 (IntKind.i64.wrap (t4+(1:Int))) w10)) else (K (-1:Int) w5))->l3 t4 w5)->l3 (0:Int) w
theorem S.qi0 (s1:Sl) (f2:Value) (K:Int->World->Prop) (w:World) (h:S.qi s1 f2 K w):C.qi s1 f2 K w:=
 okS Tryz.func346 (.t none (.u) (.t none (.t none (.u) (.t none (.t (some [(8, .c (.i .i64))]) (.t none (.u) (.t none (.t none (.u) (.u)) (.t none (.t none (.t none (.u) (.t none (.u) (.t none (.t none (.u) (.u)) (.u)))) (.u)) (.u)))) (.u)) (.u))) (.t none (.u) (.u)))) [(0, .c (.i .i64))] [.slice s1.a s1.len s1.cap,f2] K rfl (by kernel_rfl) (by kernel_rfl) h
def S.qc (s1:Sl) (f2:Value) (K:Int->World->Prop) (w:World):Prop:=∀l3:Int->World->Prop,(∀(t4:Int) (w5:World),(bif decide (t4<(s1.len:Int)) then (∃a6,s1.a=some a6/\0≤t4/\t4<(s1.len:Int)/\LdL w5 (a6.add (t4.toNat*8)) 0 [.i .i64, .i .i64, .i .u64, .i .u64, .i .u64, .i .u64, .i .u64, .b] fun (t7:Int) (t8:Int) (t9:Int) (t10:Int) (t11:Int) (t12:Int) (t13:Int) (t14:Bool)=>CallV Tryz.prog (f2) [.agg #[.int .i64 t7, .int .i64 t8, .int .u64 t9, .int .u64 t10, .int .u64 t11, .int .u64 t12, .int .u64 t13, .bool t14]] w5 fun enw16 w16=>∃r15,enw16= .returned (.bool r15)/\bif r15 then (K t4 w16) else (l3 (IntKind.i64.wrap (t4+(1:Int))) w16)) else (K (-1:Int) w5))->l3 t4 w5)->l3 (0:Int) w
theorem S.qc0 (s1:Sl) (f2:Value) (K:Int->World->Prop) (w:World) (h:S.qc s1 f2 K w):C.qc s1 f2 K w:=
 okS Tryz.func359 (.t none (.u) (.t none (.t none (.u) (.t none (.t (some [(8, .c (.i .i64))]) (.t none (.u) (.t none (.t none (.u) (.u)) (.t none (.t none (.t none (.u) (.t none (.u) (.t none (.t none (.u) (.u)) (.u)))) (.u)) (.u)))) (.u)) (.u))) (.t none (.u) (.u)))) [(0, .c (.i .i64))] [.slice s1.a s1.len s1.cap,f2] K rfl (by kernel_rfl) (by kernel_rfl) h
end Go.Proofs.YtogmbmdbgkopjaaGreat
end
section
set_option maxRecDepth 8000
namespace Go.Proofs.YtogmbmdbgkopjaaGreat
open Go Go.Vc Go.Proofs
structure Msg where
 label:Int
 w0:Int
 w1:Int
 w2:Int
 w3:Int
 badge:Int
 calls:Bool
deriving DecidableEq
structure Wt where
 who:Int
 m:Msg
deriving DecidableEq
def wtE:EncT Wt:=⟨8,fun o=>[.int .i64 o.who, .int .i64 o.m.label, .int .u64 o.m.w0, .int .u64 o.m.w1, .int .u64 o.m.w2, .int .u64 o.m.w3, .int .u64 o.m.badge, .bool o.m.calls],fun _=>rfl,fun x v h=>by
 simp only[List.mem_cons,List.not_mem_nil,or_false] at h;rcases h with rfl|rfl|rfl|rfl|rfl|rfl|rfl|rfl<;>rfl,by decide⟩
theorem ldWt {w:World} {a:Addr} {x:Wt} {f:Int->Int->Int->Int->Int->Int->Int->Bool->Prop} (g:∀c v,(wtE.enc x)[c]?=some v->w.cell? (a.add c)=some v) (hf:f x.who x.m.label x.m.w0 x.m.w1 x.m.w2 x.m.w3 x.m.badge x.m.calls):
  LdL w a 0 [.i .i64, .i .i64, .i .u64, .i .u64, .i .u64, .i .u64, .i .u64, .b] f:=⟨_,g 0 _ rfl,_,g 1 _ rfl,_,g 2 _ rfl,_,g 3 _ rfl,_,g 4 _ rfl,_,g 5 _ rfl,_,g 6 _ rfl,_,g 7 _ rfl,hf⟩
theorem infoWt:Tryz.prog.info? 225=some Tryz.t225:=by kernel_rfl
theorem bytesWt:Tryz.t225.bytes=64:=by kernel_rfl
def zMsg:Msg:=⟨0,0,0,0,0,0,false⟩
def zWt:Wt:=⟨0,zMsg⟩
theorem zeroWt (w:World):(zeroValue 225).run Tryz.prog w= .ok (.agg ⟨wtE.enc zWt⟩) w:=Tryz.zeroValue225 w
def idxI {α:Type} (p:α->Bool) (xs:List α):Int:=match xs.findIdx? p with|some i=>(i:Int)|none=> -1
theorem idxI_pos {α:Type} (p:α->Bool) (xs:List α):decide (idxI p xs≥0)=xs.any p:=by
 unfold idxI;cases h:xs.findIdx? p with
 |none=>
  rw[List.findIdx?_eq_none_iff] at h;have:xs.any p=false:=by rw[List.any_eq_false];intro x hx;simp[h x hx]
  rw[this];rfl
 |some i=>
  obtain ⟨hi,hp,_⟩:=List.findIdx?_eq_some_iff_getElem.1 h;have:xs.any p=true:=List.any_eq_true.2 ⟨_,List.getElem_mem hi,hp⟩;rw[this];simp
section
variable {B:Nat} {w0 w:World} {R L:List Asn} {s:Sl} {xs:List Wt}
theorem IndexFunc_wt {p:Wt->Bool} {f:Value} {K:Int->World->Prop} [I:SlIn s L Wt wtE xs] (h:Own B w0 w L) (hbig:xs.length≤1000000000)
  (hf:∀(y:Wt) (w:World) (Q:Bool->World->Prop),Own B w0 w L->(∀w',Own B w0 w' L->Q (p y) w')->CallV Tryz.prog f [.agg ⟨wtE.enc y⟩] w fun en w'=>∃r:Bool,en= .returned (.bool r)/\Q r w')
  (hK:∀w',Own B w0 w' L->K (idxI p xs) w'):C.qc s f K w:=by
 apply S.qc0;unfold S.qc;have hlen:=h.lenc s;intro l hl
 have loop:∀(rest:List Wt) (j:Nat) (w:World),xs.drop j=rest->j≤xs.length->(∀i,i<j->∀y,xs[i]?=some y->p y=false)->Own B w0 w L->l (j:Int) w:=by
  intro rest
  induction rest with
  |nil=>
   intro j w hj hjl hno h;have:xs.length≤j:=by have:=congrArg List.length hj;simp at this;omega
   apply hl;refine cdecF (by omega) ?_
   have hn:xs.findIdx? p=none:=by
    rw[List.findIdx?_eq_none_iff];intro y hy;obtain ⟨i,hi⟩:=List.mem_iff_getElem?.1 hy;exact hno i (by have:=(List.getElem?_eq_some_iff.1 hi).1;omega) y hi
   have e:idxI p xs= -1:=by unfold idxI;rw[hn]
   rw[←e];exact hK _ h
  |cons y rest ih=>
   intro j w hj hjl hno h;have hjl2:j<xs.length:=by have:=congrArg List.length hj;simp at this;omega
   have hx:xs[j]?=some y:=by
    have:=congrArg (fun l=>l[0]?) hj;simpa using this
   apply hl;refine cdecT (by omega) ?_;refine h.ixc rfl hx fun a ha h0 hc=>?_
   refine ldWt hc ?_;refine hf y w _ h fun w h=>?_
   cases hp:p y with
   |true=>
    refine cbT rfl ?_
    have hn:xs.findIdx? p=some j:=by
     rw[List.findIdx?_eq_some_iff_getElem];refine ⟨hjl2, ?_,fun i hi=>?_⟩
     ·rw[gE hjl2] at hx;cases hx;exact hp
     ·have:=hno i hi xs[i] (gE (by omega))
      simp[this]
    have e:idxI p xs=(j:Int):=by unfold idxI;rw[hn]
    rw[←e];exact hK _ h
   |false=>
    refine cbF rfl ?_;rw[wr (by omega) (by omega)];refine ih (j+1) w (by rw[←List.drop_drop,hj];rfl) (by omega) (fun i hi z hz=>?_) h;by_cases e:i=j
    ·subst e;rw[hx] at hz;cases hz;exact hp
    ·exact hno i (by omega) z hz
 exact loop xs 0 w rfl (by omega) (fun i hi=>by omega) h
theorem ContainsFunc_wt {p:Wt->Bool} {f:Value} {K:Bool->World->Prop} [I:SlIn s L Wt wtE xs] (h:Own B w0 w L) (hbig:xs.length≤1000000000)
  (hf:∀(y:Wt) (w:World) (Q:Bool->World->Prop),Own B w0 w L->(∀w',Own B w0 w' L->Q (p y) w')->CallV Tryz.prog f [.agg ⟨wtE.enc y⟩] w fun en w'=>∃r:Bool,en= .returned (.bool r)/\Q r w')
  (hK:∀w',Own B w0 w' L->K (xs.any p) w'):C.qe s f K w:=by
 apply S.qe0;unfold S.qe;refine IndexFunc_wt h hbig hf fun w h=>?_
 rw[idxI_pos];exact hK w h
theorem app1_wt {y:Wt} {c:Nat} {k:Sl->World->Prop} [I:SlIn s L Wt wtE xs] [J:Pick (SlT wtE s xs) L R] (h:Own B w0 w (BlkA c (wtE.enc y)::L)) (hbig:xs.length≤1000000000)
  (hk:∀s' w',s'.len=xs.length+1->Own B w0 w' (SlT wtE s' (xs++ [y])::R)->k s' w'):
  ∃s' w',AppR Tryz.prog [218,218] 218 (.slice s.a s.len s.cap) (.slice (some (Addr.mk c 0 none)) 1 1) w s' w'/\k s' w':=
 Own.app1c (E:=wtE) (y:=y) Tryz.underlying218 infoWt (zv:= .agg ⟨wtE.enc zWt⟩) (by kernel_rfl) (by kernel_rfl) rfl (by decide) h (by rw[bytesWt];omega) hk
theorem del_list {α:Type} {xs:List α} {i j:Nat} {z:α} (hij:i<j) (hj:j≤xs.length):
  List.take (i+(xs.length-j)) (List.take (i+(xs.length-j)) (xs.take i++xs.drop j++xs.drop (i+(xs.length-j)))++List.replicate ((xs.take i++xs.drop j++xs.drop (i+(xs.length-j))).length-(i+(xs.length-j))) z)=xs.take i++xs.drop j:=by
 have hl2:(xs.take i++xs.drop j).length=i+(xs.length-j):=by simp;omega
 rw[List.take_append_of_le_length (by simp;omega),List.take_take,Nat.min_self,←hl2,List.take_left]
theorem Delete_wt {i j:Nat} {K:Sl->World->Prop} (h:Own B w0 w (SlT wtE s xs::R)) (hij:i<j) (hj:j≤xs.length) (hbig:xs.length≤1000000000)
  (hK:∀s' w',Own B w0 w' (SlT wtE s' (xs.take i++xs.drop j)::R)->K s' w'):C.qh s (i:Int) (j:Int) K w:=by
 apply S.qh0;unfold S.qh;have hlen:=h.lenc s;have hcap:=h.slRaw.le_cap;refine ⟨by omega,by omega,by omega,by omega,by omega,by omega, ?_⟩;refine ceqF (by omega) ?_;refine h.dr fun w h=>?_
 refine ⟨by omega,by omega,by omega,by omega,a2 ?_⟩;simp only[Int.toNat_natCast];refine h.appDel (E:=wtE) Tryz.underlying218 infoWt (by kernel_rfl) (by omega) hj (by omega) fun w h=>?_
 dsimp only;refine ⟨by omega,by omega,by omega,by omega, ?_⟩;refine Own.clear (E:=wtE) (z0:=zWt) (n:=i+(xs.length-j)) Tryz.underlying218 zeroWt rfl h 0 rfl (by simp;omega) fun w h=>?_
 have hp:=h.pre 0 rfl (n:=i+(xs.length-j)) (by simp;omega);refine hK _ w ?_;rw[del_list hij hj] at hp;exact hp
theorem filter_take_wt (xs:List Wt) (q:Wt->Bool) (j:Nat) (x:Wt) (hx:xs[j]?=some x):(xs.take (j+1)).filter q=(xs.take j).filter q++if q x then [x] else []:=by
 rw[List.take_add_one,hx,List.filter_append];congr 1;simp only[Option.toList_some,List.filter_cons,List.filter_nil]
theorem DeleteFunc_wt {fv:Value} {p:Wt->Bool} {K:Sl->World->Prop} (h:Own B w0 w (SlT wtE s xs::L)) (hbig:xs.length≤1000000000)
  (hf:∀(N:List Asn) (y:Wt) (w:World) (Q:Bool->World->Prop),Own B w0 w (N++L)->(∀w',Own B w0 w' (N++L)->Q (p y) w')->CallV Tryz.prog fv [.agg ⟨wtE.enc y⟩] w fun en w'=>∃r:Bool,en= .returned (.bool r)/\Q r w')
  (hK:∀s' w',Own B w0 w' (SlT wtE s' (xs.filter fun x=> !p x)::L)->K s' w'):C.qf s fv K w:=by
 apply S.qf0;unfold S.qf;have hlen:=h.lenc s;have hspot:=(h.slO 0 rfl).spot;refine IndexFunc_wt h hbig (fun y w Q h hQ=>hf [SlT wtE s xs] y w Q h hQ) fun w1 h=>?_
 unfold idxI;cases hfi:xs.findIdx? p with
 |none=>
  refine cbT rfl ?_
  have:xs.filter (fun x=> !p x)=xs:=by
   rw[List.filter_eq_self];intro x hx;rw[List.findIdx?_eq_none_iff] at hfi;simp[hfi x hx]
  have h2:=hK s w1;rw[this] at h2;exact h2 h
 |some i0=>
  obtain ⟨hi0,hp0,hbefore⟩:=List.findIdx?_eq_some_iff_getElem.1 hfi;refine cbF (by simp) ?_;intro l hl;have hcap:=(h.slO 0 rfl).le_cap
  have key:∀(m j q:Nat) (ys:List Wt) (w:World),j+m=xs.length->ys.length=xs.length->ys.take q=(xs.take j).filter (fun x=> !p x)->q<j->q≤ys.length->ys.drop j=xs.drop j->
    Own B w0 w (SlT wtE s ys::L)->l (q:Int) (j:Int) w:=by
   intro m
   induction m with
   |zero=>
    intro j q ys w hj hys hq hqj hqy hd h;apply hl;refine cdecF (by omega) ?_;refine ⟨by omega,by omega, ?_⟩;rw[Int.toNat_natCast];refine Own.clear (E:=wtE) (z0:=zWt) (n:=q) Tryz.underlying218 zeroWt rfl h 0 rfl (by omega) fun w2 h=>?_
    refine ⟨by omega,by omega, ?_⟩;have h3:=h.pre 0 rfl (n:=q) (by simp;omega)
    have e1:(ys.take q++List.replicate (ys.length-q) zWt).take q=xs.filter (fun x=> !p x):=by
     rw[List.take_append_of_le_length (by simp;omega),List.take_take,Nat.min_self,hq,List.take_of_length_le (by omega)]
    rw[e1] at h3;rw[slA0 _ _ _ hspot];exact hK _ _ h3
   |succ m ih=>
    intro j q ys w hj hys hq hqj hqy hd h;have hjlt:j<xs.length:=by omega
    have hyj:ys[j]?=some xs[j]:=by
     have:=congrArg (fun l=>l[0]?) hd;simp only[List.getElem?_drop,Nat.add_zero] at this;rw[this,gE hjlt]
    apply hl;refine cdecT (by omega) ?_;refine h.ixc (s:=s) rfl hyj fun a ha h0 hc=>?_
    refine ldWt hc ?_;have hft:=filter_take_wt xs (fun x=> !p x) j _ (gE hjlt)
    have hd1:∀zs:List Wt,zs.drop j=xs.drop j->zs.drop (j+1)=xs.drop (j+1):=fun zs hz=>by
     rw[←List.drop_drop (i:=1) (j:=j),←List.drop_drop (i:=1) (j:=j),hz]
    generalize xs[j]=x at hyj hft hc;refine h.al fun w' h=>?_
    generalize w.heap.size=d at h⊢;refine h.stLc rfl rfl fun w h=>?_
    (dsimp only[putAt,List.set_cons_zero,List.set_cons_succ] at h)
    refine h.lc_8 rfl ?_;refine hf [BlkA d (wtE.enc x),SlT wtE s ys] x w _ h fun w h=>?_
    have h:Own B w0 w (BlkA d (wtE.enc x)::SlT wtE s ys::L):=h;rw[show IntKind.i64.wrap ((j:Int)+1)=((j+1:Nat):Int) from by rw[wr (by omega) (by omega)];omega];cases hp:p x with
    |true=>
     refine cbF rfl ?_;refine ih (j+1) q ys w (by omega) hys ?_ (by omega) hqy (hd1 ys hd) h.drop;rw[hq,hft,hp];simp
    |false=>
     refine cbT rfl ?_;refine h.lc_8 rfl ?_;refine ⟨a,ha,by omega,by omega, ?_⟩;refine h.up1.stELc (s:=s) x rfl (by omega) ha fun w h=>?_
     rw[show IntKind.i64.wrap ((q:Int)+1)=((q+1:Nat):Int) from by rw[wr (by omega) (by omega)];omega];refine ih (j+1) (q+1) (ys.set q x) w (by omega) (by simpa using hys) ?_ (by omega) (by simp;omega) ?_ h.rm1
     ·rw[hft,hp,List.take_add_one,List.getElem?_set_self (by omega),List.take_set_of_le (Nat.le_refl _),hq];simp
     ·rw[List.drop_set_of_lt (by omega)];exact hd1 ys hd
  have h0:xs.take i0=(xs.take (i0+1)).filter (fun x=> !p x):=by
   rw[filter_take_wt xs _ i0 _ (gE hi0),hp0];simp only[Bool.not_true,if_false,List.append_nil,Bool.false_eq_true]
   symm
   rw[List.filter_eq_self];intro x hx;obtain ⟨q,hq⟩:=List.mem_iff_getElem?.1 hx;rw[List.getElem?_take] at hq;split at hq
   ·rename_i hlt
    have:=hbefore q hlt;rw[gE (by omega)] at hq;cases hq;simpa using this
   ·cases hq
  rw[show IntKind.i64.wrap (((i0:Nat):Int)+1)=((i0+1:Nat):Int) from by rw[wr (by omega) (by omega)];omega];exact key (xs.length-(i0+1)) (i0+1) i0 xs w1 (by omega) rfl h0 (by omega) (by omega) rfl h
end
structure Ept where
 l:List Wt
 sends:Bool
deriving DecidableEq
structure Met where
 is:Bool
 frm:Int
 to:Int
 m:Msg
deriving DecidableEq
def noMet:Met:=⟨false,0,0,zMsg⟩
def Ept.there (p:Ept) (n:Int):Bool:=p.l.any fun o=>o.who==n
def Ept.first (p:Ept) (s:Bool):Option Wt × Ept:=match p.l with
 | []=>(none,p)
 |o::r=>if p.sends=s then (some o,{ p with l:=r}) else (none,p)
def Ept.send (p:Ept) (n:Int) (m:Msg) (waits:Bool):Met × Int × Ept:=
 if p.there n then (noMet,110,p) else match p.first false with
 |(some o,p')=>(⟨true,n,o.who,m⟩,0,p')
 |(none,_)=>(noMet,0,if waits then ⟨p.l++ [⟨n,m⟩],true⟩ else p)
def Ept.recv (p:Ept) (n:Int) (waits:Bool):Met × Int × Ept:=
 if p.there n then (noMet,110,p) else match p.first true with
 |(some o,p')=>(⟨true,o.who,n,o.m⟩,0,p')
 |(none,_)=>(noMet,0,if waits then ⟨p.l++ [⟨n,zMsg⟩],false⟩ else p)
def Ept.cancel (p:Ept) (n:Int):Ept:={ p with l:=p.l.filter fun o=> !(o.who==n)}
def EndA (b:Nat) (p:Ept):Asn:=ExA fun s:Sl=>StarA [PureA (p.l.length≤1000000),BlkA b [.slice s.a s.len s.cap, .bool p.sends],SlT wtE s p.l]
section
variable {B:Nat} {w0 w:World} {R L:List Asn} {b:Nat} {p:Ept}
theorem _root_.Go.Vc.Own.endp (h:Own B w0 w (EndA b p::R)):∃s:Sl,p.l.length≤1000000/\Own B w0 w (BlkA b [.slice s.a s.len s.cap, .bool p.sends]::SlT wtE s p.l::R):=by
 obtain ⟨s,h⟩:=h.ex;obtain ⟨h1,h⟩:=Own.pure h.star;exact ⟨s,h1,h⟩
theorem _root_.Go.Vc.Own.mk_endp {s:Sl} (h1:p.l.length≤1000000) (h:Own B w0 w (BlkA b [.slice s.a s.len s.cap, .bool p.sends]::SlT wtE s p.l::R)):Own B w0 w (EndA b p::R):=
 Own.mk_ex s (Own.mk_star (Own.mk_pure h1 h))
theorem tailLd {N:List Asn} {c o:Nat} {l:List Value} {v:Value} (h:Own B w0 w (N++BlkA c l::L)) (hv:l[o]?=some v):w.cell? ⟨c,o,none⟩=some v:=by
 exact Own.ld0 (b:=c) (o:=o) (l:=l) h N.length (by rw[List.getElem?_append_right (Nat.le_refl _),Nat.sub_self];rfl) hv
theorem endpoint_New_spec {K:Option Addr->World->Prop} (h:Own B w0 w R) (hK:∀b w',Own B w0 w' (EndA b ⟨[],false⟩::R)->K (some ⟨b,0,none⟩) w'):C.qcr K w:=by
 apply S.qcr0;unfold S.qcr;refine h.al fun w1 h=>?_
 exact hK _ w1 (Own.mk_endp (s:=⟨none,0,0⟩) (by simp) ((Own.nilS h).perm (List.Perm.swap _ _ _)))
theorem endpoint_there_spec {n:Int} {K:Bool->World->Prop} (h:Own B w0 w (EndA b p::R)) (hK:∀w',Own B w0 w' (EndA b p::R)->K (p.there n) w'):C.qI (some ⟨b,0,none⟩) n K w:=by
 apply S.qI0;unfold S.qI;obtain ⟨s,hl,h⟩:=h.endp;refine h.al fun w1 h=>?_
 generalize w.heap.size=c at h⊢;refine ⟨_,rfl,s,h.ldc rfl, ?_⟩;refine ContainsFunc_wt (s:=s) (xs:=p.l) (p:=fun o=>o.who==n) h (by omega) (fun y w Q h hQ=>?_) fun w h=>?_
 ·refine callV_mk ?_
  show C.qab y.who y.m.label y.m.w0 y.m.w1 y.m.w2 y.m.w3 y.m.badge y.m.calls ⟨c,0,none⟩ Q w;apply S.qab0;unfold S.qab;refine h.al fun w1 h=>?_
  generalize w.heap.size=d at h⊢;exact ⟨_,h.ldc rfl,_,h.ldc rfl,hQ _ h.drop⟩
 ·exact hK w (Own.mk_endp (s:=s) hl h.sub)
theorem endpoint_first_spec {t:Bool} {K:Int->Int->Int->Int->Int->Int->Int->Bool->Bool->World->Prop} (h:Own B w0 w (EndA b p::R))
  (hK:∀w' o,o=((p.first t).1.getD zWt)->Own B w0 w' (EndA b (p.first t).2::R)->K o.who o.m.label o.m.w0 o.m.w1 o.m.w2 o.m.w3 o.m.badge o.m.calls (p.first t).1.isSome w'):C.qJ (some ⟨b,0,none⟩) t K w:=by
 apply S.qJ0;unfold S.qJ;obtain ⟨s,hl,h⟩:=h.endp;have hlen:=h.lenc s;refine h.al fun w1 h=>?_
 generalize w.heap.size=c at h⊢;intro k4 hk4
 have no:∀w,(p.first t)=(none,p)->Own B w0 w (BlkA c [.int .i64 0, .int .i64 0, .int .u64 0, .int .u64 0, .int .u64 0, .int .u64 0, .int .u64 0, .bool false]::BlkA b [.slice s.a s.len s.cap, .bool p.sends]::SlT wtE s p.l::R)->k4 true w:=fun w e h=>by
  rw[e] at hK;apply hk4;refine cbT rfl ?_;refine h.stLc rfl rfl fun w h=>?_
  (try dsimp only[putAt,List.set_cons_zero,List.set_cons_succ] at h)
  refine h.lc_8 rfl ?_;exact hK w zWt rfl (Own.mk_endp (s:=s) hl h.sub)
 refine ⟨_,rfl,s,h.ldc rfl, ?_⟩;cases hp:p.l with
 |nil=>
  have e:p.first t=(none,p):=by unfold Ept.first;rw[hp]
  rw[hp] at hlen;refine ceqT (by simp at hlen;omega) ?_;exact no _ e h
 |cons o r=>
  rw[hp] at hlen;simp only[List.length_cons] at hlen;refine ceqF (by omega) ?_;refine ⟨_,rfl,p.sends,h.ldc rfl, ?_⟩;by_cases e:p.sends=t
  ·have ef:p.first t=(some o,{ p with l:=r}):=by unfold Ept.first;rw[hp];simp[e]
   rw[ef] at hK;rw[show (!(p.sends==t))=false from by simp[e]];apply hk4;refine cbF rfl ?_;refine ⟨_,rfl,s,h.ldc rfl, ?_⟩;have h0:p.l[0]?=some o:=by rw[hp];rfl
   refine h.ixc (s:=s) (i:=0) (j:=0) rfl h0 fun a ha hc0 hc=>ldWt hc ?_
   (repeat (first|(refine h.al fun w h=>?_)|(refine h.dr fun w h=>?_)|(refine h.lc_2 rfl ?_)|(refine h.lc_6 rfl ?_)|(refine ⟨_,h.ldc rfl, ?_⟩)|(refine ⟨_,h.ldd rfl, ?_⟩)|(refine h.hd rfl ?_)|(refine ⟨h.ldc rfl, ?_⟩)|(refine ⟨h.ldd rfl, ?_⟩)|(refine h.stLc rfl rfl fun w h=>?_)|(refine exs ?_)|(refine _root_.Go.Vc.a2 ?_)|(refine h.stc rfl rfl fun w h=>?_)|(refine h.std rfl rfl fun w h=>?_)))
   (try dsimp only[putAt,List.set_cons_zero,List.set_cons_succ] at h)
   (repeat (first|(refine h.al fun w h=>?_)|(refine h.dr fun w h=>?_)|(refine h.lc_2 rfl ?_)|(refine h.lc_6 rfl ?_)|(refine ⟨_,h.ldc rfl, ?_⟩)|(refine ⟨_,h.ldd rfl, ?_⟩)|(refine h.hd rfl ?_)|(refine ⟨h.ldc rfl, ?_⟩)|(refine ⟨h.ldd rfl, ?_⟩)|(refine h.stLc rfl rfl fun w h=>?_)|(refine exs ?_)|(refine _root_.Go.Vc.a2 ?_)|(refine h.stc rfl rfl fun w h=>?_)|(refine h.std rfl rfl fun w h=>?_)))
   rw[hp] at h;refine Delete_wt (i:=0) (j:=1) (h.pick (A:=SlT wtE s (o::r))) (by omega) (by simp) (by rw[hp] at hl;simp at hl⊢;omega) fun s' w h=>?_
   (repeat (first|(refine h.al fun w h=>?_)|(refine h.dr fun w h=>?_)|(refine h.lc_2 rfl ?_)|(refine h.lc_6 rfl ?_)|(refine ⟨_,h.ldc rfl, ?_⟩)|(refine ⟨_,h.ldd rfl, ?_⟩)|(refine h.hd rfl ?_)|(refine ⟨h.ldc rfl, ?_⟩)|(refine ⟨h.ldd rfl, ?_⟩)|(refine h.stLc rfl rfl fun w h=>?_)|(refine exs ?_)|(refine _root_.Go.Vc.a2 ?_)|(refine h.stc rfl rfl fun w h=>?_)|(refine h.std rfl rfl fun w h=>?_)))
   (try dsimp only[putAt,List.set_cons_zero,List.set_cons_succ] at h)
   (repeat (first|(refine h.al fun w h=>?_)|(refine h.dr fun w h=>?_)|(refine h.lc_2 rfl ?_)|(refine h.lc_6 rfl ?_)|(refine ⟨_,h.ldc rfl, ?_⟩)|(refine ⟨_,h.ldd rfl, ?_⟩)|(refine h.hd rfl ?_)|(refine ⟨h.ldc rfl, ?_⟩)|(refine ⟨h.ldd rfl, ?_⟩)|(refine h.stLc rfl rfl fun w h=>?_)|(refine exs ?_)|(refine _root_.Go.Vc.a2 ?_)|(refine h.stc rfl rfl fun w h=>?_)|(refine h.std rfl rfl fun w h=>?_)))
   (try dsimp only[putAt,List.set_cons_zero,List.set_cons_succ] at h)
   (repeat (first|(refine h.al fun w h=>?_)|(refine h.dr fun w h=>?_)|(refine h.lc_2 rfl ?_)|(refine h.lc_6 rfl ?_)|(refine ⟨_,h.ldc rfl, ?_⟩)|(refine ⟨_,h.ldd rfl, ?_⟩)|(refine h.hd rfl ?_)|(refine ⟨h.ldc rfl, ?_⟩)|(refine ⟨h.ldd rfl, ?_⟩)|(refine h.stLc rfl rfl fun w h=>?_)|(refine exs ?_)|(refine _root_.Go.Vc.a2 ?_)|(refine h.stc rfl rfl fun w h=>?_)|(refine h.std rfl rfl fun w h=>?_)))
   have h:Own B w0 _ (SlT wtE s' r::_):=h;have h:Own B w0 _ (BlkA b [.slice s'.a s'.len s'.cap, .bool p.sends]::SlT wtE s' r::R):=h.sub;refine hK _ o rfl (Own.mk_endp (s:=s') (by rw[hp] at hl;simp at hl⊢;omega) h)
  ·have ef:p.first t=(none,p):=by unfold Ept.first;rw[hp];simp[e]
   rw[show (!(p.sends==t))=true from by simp[e]];exact no _ ef h
end
section
variable {B:Nat} {w0 w:World} {R L:List Asn} {b:Nat} {p:Ept}
theorem endpoint_wait_spec {o:Wt} {t:Bool} {K:World->Prop} (hbig:p.l.length<1000000) (h:Own B w0 w (EndA b p::R)) (hK:∀w',Own B w0 w' (EndA b ⟨p.l++ [o],t⟩::R)->K w'):
  C.qT (some ⟨b,0,none⟩) o.who o.m.label o.m.w0 o.m.w1 o.m.w2 o.m.w3 o.m.badge o.m.calls t K w:=by
 apply S.qT0;unfold S.qT;obtain ⟨s,hl,h⟩:=h.endp;refine h.al fun w1 h=>?_
 generalize w.heap.size=c at h⊢;refine h.dr fun w h=>?_
 refine ⟨_,rfl,s,h.ldc rfl, ?_⟩;refine h.lc_8 rfl ⟨?_,trivial⟩;refine h.al fun w2 h=>⟨?_,trivial⟩
 generalize w.heap.size=d at h⊢;refine app1_wt (s:=s) (y:=o) h (by omega) fun s' w hs' h=>⟨_,rfl, ?_⟩
 refine ⟨?_,trivial⟩;refine h.stc rfl rfl fun w h=>⟨_,rfl, ?_⟩
 refine ⟨?_,trivial⟩;refine h.stc rfl rfl fun w h=>?_
 (try dsimp only[putAt,List.set_cons_zero,List.set_cons_succ] at h)
 exact hK w (Own.mk_endp (s:=s') (by simp;omega) h.sub)
theorem endpoint_Send_spec {n:Int} {m:Msg} {wt:Bool} {K:Bool->Int->Int->Int->Int->Int->Int->Int->Int->Bool->Int->World->Prop} (hbig:p.l.length<1000000) (h:Own B w0 w (EndA b p::R))
  (hK:∀w' x,x=(p.send n m wt).1->Own B w0 w' (EndA b (p.send n m wt).2.2::R)->K x.is x.frm x.to x.m.label x.m.w0 x.m.w1 x.m.w2 x.m.w3 x.m.badge x.m.calls (p.send n m wt).2.1 w'):
  C.qQ (some ⟨b,0,none⟩) n m.label m.w0 m.w1 m.w2 m.w3 m.badge m.calls wt K w:=by
 apply S.qQ0;unfold S.qQ;refine h.al fun w1 h=>?_
 generalize w.heap.size=c at h⊢;refine h.al fun w2 h=>?_
 generalize w1.heap.size=d at h⊢;refine endpoint_there_spec (n:=n) h.up2 fun w h=>?_
 unfold Ept.send at hK;cases ht:p.there n with
 |true=>
  rw[ht] at hK;simp only[if_true] at hK;refine cbT rfl ?_
  (repeat (first|(refine h.al fun w h=>?_)|(refine h.dr fun w h=>?_)|(refine h.lc_2 rfl ?_)|(refine h.lc_6 rfl ?_)|(refine ⟨_,h.ldc rfl, ?_⟩)|(refine ⟨_,h.ldd rfl, ?_⟩)|(refine h.hd rfl ?_)|(refine ⟨h.ldc rfl, ?_⟩)|(refine ⟨h.ldd rfl, ?_⟩)|(refine h.stLc rfl rfl fun w h=>?_)|(refine exs ?_)|(refine _root_.Go.Vc.a2 ?_)|(refine h.stc rfl rfl fun w h=>?_)|(refine h.std rfl rfl fun w h=>?_)))
  exact hK _ noMet rfl h.sub
 |false=>
  rw[ht] at hK;simp only[Bool.false_eq_true,if_false] at hK;refine cbF rfl ?_;refine endpoint_first_spec (t:=false) h fun w o ho h=>?_
  refine h.al fun w3 h=>?_
  generalize w.heap.size=e at h⊢;refine h.stLc rfl rfl fun w h=>?_
  (try dsimp only[putAt,List.set_cons_zero,List.set_cons_succ] at h)
  cases hf:p.first false with
  |mk x p'=>
   rw[hf] at hK h ho;dsimp only at hK h ho;cases x with
   |some o'=>
    have ho:o=o':=ho;subst ho;refine cbT rfl ?_
    (repeat (first|(refine h.al fun w h=>?_)|(refine h.dr fun w h=>?_)|(refine h.lc_2 rfl ?_)|(refine h.lc_6 rfl ?_)|(refine ⟨_,h.ldc rfl, ?_⟩)|(refine ⟨_,h.ldd rfl, ?_⟩)|(refine h.hd rfl ?_)|(refine ⟨h.ldc rfl, ?_⟩)|(refine ⟨h.ldd rfl, ?_⟩)|(refine h.stLc rfl rfl fun w h=>?_)|(refine exs ?_)|(refine _root_.Go.Vc.a2 ?_)|(refine h.stc rfl rfl fun w h=>?_)|(refine h.std rfl rfl fun w h=>?_)))
    (try dsimp only[putAt,List.set_cons_zero,List.set_cons_succ] at h)
    (repeat (first|(refine h.al fun w h=>?_)|(refine h.dr fun w h=>?_)|(refine h.lc_2 rfl ?_)|(refine h.lc_6 rfl ?_)|(refine ⟨_,h.ldc rfl, ?_⟩)|(refine ⟨_,h.ldd rfl, ?_⟩)|(refine h.hd rfl ?_)|(refine ⟨h.ldc rfl, ?_⟩)|(refine ⟨h.ldd rfl, ?_⟩)|(refine h.stLc rfl rfl fun w h=>?_)|(refine exs ?_)|(refine _root_.Go.Vc.a2 ?_)|(refine h.stc rfl rfl fun w h=>?_)|(refine h.std rfl rfl fun w h=>?_)))
    exact hK _ _ rfl (show Own B w0 _ (EndA b p'::R) from h.sub)
   |none=>
    have hp':p'=p:=by
     unfold Ept.first at hf
     split at hf
     ·cases hf;rfl
     ·split at hf
      ·cases hf
      ·cases hf;rfl
    rw[hp'] at h;refine cbF rfl ?_;cases wt with
    |true=>
     refine cbT rfl ?_
     (repeat (first|(refine h.al fun w h=>?_)|(refine h.dr fun w h=>?_)|(refine h.lc_2 rfl ?_)|(refine h.lc_6 rfl ?_)|(refine ⟨_,h.ldc rfl, ?_⟩)|(refine ⟨_,h.ldd rfl, ?_⟩)|(refine h.hd rfl ?_)|(refine ⟨h.ldc rfl, ?_⟩)|(refine ⟨h.ldd rfl, ?_⟩)|(refine h.stLc rfl rfl fun w h=>?_)|(refine exs ?_)|(refine _root_.Go.Vc.a2 ?_)|(refine h.stc rfl rfl fun w h=>?_)|(refine h.std rfl rfl fun w h=>?_)))
     refine endpoint_wait_spec (o:=⟨n,m⟩) (t:=true) hbig h.up1 fun w h=>?_
     (repeat (first|(refine h.al fun w h=>?_)|(refine h.dr fun w h=>?_)|(refine h.lc_2 rfl ?_)|(refine h.lc_6 rfl ?_)|(refine ⟨_,h.ldc rfl, ?_⟩)|(refine ⟨_,h.ldd rfl, ?_⟩)|(refine h.hd rfl ?_)|(refine ⟨h.ldc rfl, ?_⟩)|(refine ⟨h.ldd rfl, ?_⟩)|(refine h.stLc rfl rfl fun w h=>?_)|(refine exs ?_)|(refine _root_.Go.Vc.a2 ?_)|(refine h.stc rfl rfl fun w h=>?_)|(refine h.std rfl rfl fun w h=>?_)))
     exact hK _ noMet rfl (show Own B w0 _ (EndA b ⟨p.l++ [⟨n,m⟩],true⟩::R) from h.sub)
    |false=>
     refine cbF rfl ?_
     (repeat (first|(refine h.al fun w h=>?_)|(refine h.dr fun w h=>?_)|(refine h.lc_2 rfl ?_)|(refine h.lc_6 rfl ?_)|(refine ⟨_,h.ldc rfl, ?_⟩)|(refine ⟨_,h.ldd rfl, ?_⟩)|(refine h.hd rfl ?_)|(refine ⟨h.ldc rfl, ?_⟩)|(refine ⟨h.ldd rfl, ?_⟩)|(refine h.stLc rfl rfl fun w h=>?_)|(refine exs ?_)|(refine _root_.Go.Vc.a2 ?_)|(refine h.stc rfl rfl fun w h=>?_)|(refine h.std rfl rfl fun w h=>?_)))
     exact hK _ noMet rfl (show Own B w0 _ (EndA b p::R) from h.sub)
end
theorem infoInt:Tryz.prog.info? 3=some Tryz.t3:=by kernel_rfl
theorem bytesInt:Tryz.t3.bytes=8:=by kernel_rfl
section
variable {B:Nat} {w0 w:World} {R L:List Asn} {s:Sl} {xs:List Int}
theorem Index_int {v:Int} {K:Int->World->Prop} [I:SlIn s L Int intE xs] (h:Own B w0 w L) (hbig:xs.length≤1000000000) (hK:∀w',Own B w0 w' L->K (idxI (fun x=>v==x) xs) w'):C.qav s v K w:=by
 apply S.qav0;unfold S.qav;have hlen:=h.lenc s;intro l hl
 have loop:∀(m j:Nat) (w:World),j+m=xs.length->(∀i,i<j->∀y,xs[i]?=some y->(v==y)=false)->Own B w0 w L->l (j:Int) w:=by
  intro m
  induction m with
  |zero=>
   intro j w hj hno h;apply hl;refine cdecF (by omega) ?_
   have hn:xs.findIdx? (fun x=>v==x)=none:=by
    rw[List.findIdx?_eq_none_iff];intro y hy;obtain ⟨i,hi⟩:=List.mem_iff_getElem?.1 hy;exact hno i (by have:=(List.getElem?_eq_some_iff.1 hi).1;omega) y hi
   have e:idxI (fun x=>v==x) xs= -1:=by unfold idxI;rw[hn]
   rw[←e];exact hK _ h
  |succ m ih=>
   intro j w hj hno h;have hx:xs[j]?=some xs[j]:=gE (by omega);apply hl;refine cdecT (by omega) ?_;refine h.ixc (s:=s) rfl hx fun a ha h0 hc=>⟨_,h0 _ rfl, ?_⟩
   cases hp:(v==xs[j]) with
   |true=>
    refine cbT rfl ?_
    have hn:xs.findIdx? (fun x=>v==x)=some j:=by
     rw[List.findIdx?_eq_some_iff_getElem];refine ⟨by omega,hp,fun i hi=>?_⟩;have:=hno i hi xs[i] (gE (by omega));simp[this]
    have e:idxI (fun x=>v==x) xs=(j:Int):=by unfold idxI;rw[hn]
    rw[←e];exact hK _ h
   |false=>
    refine cbF rfl ?_;rw[wr (by omega) (by omega)];refine ih (j+1) w (by omega) (fun i hi z hz=>?_) h;by_cases e:i=j
    ·subst e;rw[hx] at hz;cases hz;exact hp
    ·exact hno i (by omega) z hz
 exact loop xs.length 0 w (by omega) (fun i hi=>by omega) h
theorem Contains_int {v:Int} {K:Bool->World->Prop} [I:SlIn s L Int intE xs] (h:Own B w0 w L) (hbig:xs.length≤1000000000) (hK:∀w',Own B w0 w' L->K (xs.any fun x=>v==x) w'):C.qaa s v K w:=by
 apply S.qaa0;unfold S.qaa;refine Index_int h hbig fun w h=>?_
 rw[idxI_pos];exact hK w h
theorem app1_int {y:Int} {c:Nat} {k:Sl->World->Prop} [I:SlIn s L Int intE xs] [J:Pick (SlT intE s xs) L R] (h:Own B w0 w (BlkA c [.int .i64 y]::L)) (hbig:xs.length≤1000000000)
  (hk:∀s' w',s'.len=xs.length+1->Own B w0 w' (SlT intE s' (xs++ [y])::R)->k s' w'):
  ∃s' w',AppR Tryz.prog [26,26] 26 (.slice s.a s.len s.cap) (.slice (some (Addr.mk c 0 none)) 1 1) w s' w'/\k s' w':=
 Own.app1c (E:=intE) (y:=y) Tryz.underlying26 infoInt (zv:= .int .i64 0) (by kernel_rfl) (by kernel_rfl) rfl (by decide) h (by rw[bytesInt];omega) hk
theorem Delete_int {i j:Nat} {K:Sl->World->Prop} (h:Own B w0 w (SlT intE s xs::R)) (hij:i<j) (hj:j≤xs.length) (hbig:xs.length≤1000000000)
  (hK:∀s' w',Own B w0 w' (SlT intE s' (xs.take i++xs.drop j)::R)->K s' w'):C.qak s (i:Int) (j:Int) K w:=by
 apply S.qak0;unfold S.qak;have hlen:=h.lenc s;have hcap:=h.slRaw.le_cap;refine ⟨by omega,by omega,by omega,by omega,by omega,by omega, ?_⟩;refine ceqF (by omega) ?_;refine h.dr fun w h=>?_
 refine ⟨by omega,by omega,by omega,by omega,a2 ?_⟩;simp only[Int.toNat_natCast];refine h.appDel (E:=intE) Tryz.underlying26 infoInt (by kernel_rfl) (by omega) hj (by omega) fun w h=>?_
 dsimp only;refine ⟨by omega,by omega,by omega,by omega, ?_⟩;refine h.clear (P:=Tryz.prog) (T:=26) (t:=0) (n:=i+(xs.length-j)) (zv:= .int .i64 0) (z0:=0) Tryz.underlying26 (fun w=>Tryz.zeroValue3 w) rfl 0 rfl (by simp;omega) fun w h=>?_
 have hp:=h.pre 0 rfl (n:=i+(xs.length-j)) (by simp;omega);refine hK _ w ?_;rw[del_list hij hj] at hp;exact hp
end
section
variable {B:Nat} {w0 w:World} {R L:List Asn} {b:Nat} {p:Ept}
theorem endpoint_Recv_spec {n:Int} {wt:Bool} {K:Bool->Int->Int->Int->Int->Int->Int->Int->Int->Bool->Int->World->Prop} (hbig:p.l.length<1000000) (h:Own B w0 w (EndA b p::R))
  (hK:∀w' x,x=(p.recv n wt).1->Own B w0 w' (EndA b (p.recv n wt).2.2::R)->K x.is x.frm x.to x.m.label x.m.w0 x.m.w1 x.m.w2 x.m.w3 x.m.badge x.m.calls (p.recv n wt).2.1 w'):
  C.qR (some ⟨b,0,none⟩) n wt K w:=by
 apply S.qR0;unfold S.qR;refine h.al fun w1 h=>?_
 generalize w.heap.size=c at h⊢;refine endpoint_there_spec (n:=n) h.up1 fun w h=>?_
 unfold Ept.recv at hK;cases ht:p.there n with
 |true=>
  rw[ht] at hK;simp only[if_true] at hK;refine cbT rfl ?_;refine h.stLc rfl rfl fun w h=>?_
  (try dsimp only[putAt,List.set_cons_zero,List.set_cons_succ] at h)
  refine h.lc_10 rfl ?_;exact hK _ noMet rfl h.sub
 |false=>
  rw[ht] at hK;simp only[Bool.false_eq_true,if_false] at hK;refine cbF rfl ?_;refine endpoint_first_spec (t:=true) h fun w o ho h=>?_
  refine h.al fun w3 h=>?_
  generalize w.heap.size=e at h⊢;refine h.stLc rfl rfl fun w h=>?_
  (try dsimp only[putAt,List.set_cons_zero,List.set_cons_succ] at h)
  cases hf:p.first true with
  |mk x p'=>
   rw[hf] at hK h ho;dsimp only at hK h ho;cases x with
   |some o'=>
    have ho:o=o':=ho;subst ho;refine cbT rfl ?_;refine ⟨_,h.ldc rfl, ?_⟩;refine h.lc_7 rfl ?_;refine h.stLc rfl rfl fun w h=>?_
    (try dsimp only[putAt,List.set_cons_zero,List.set_cons_succ] at h)
    refine h.lc_10 rfl ?_;exact hK _ ⟨true,o.who,n,o.m⟩ rfl (show Own B w0 _ (EndA b p'::R) from h.sub)
   |none=>
    have hp':p'=p:=by
     unfold Ept.first at hf
     split at hf
     ·cases hf;rfl
     ·split at hf
      ·cases hf
      ·cases hf;rfl
    rw[hp'] at h;refine cbF rfl ?_;cases wt with
    |true=>
     refine cbT rfl ?_;refine endpoint_wait_spec (o:=⟨n,zMsg⟩) (t:=false) hbig h.up1 fun w h=>?_
     refine h.stLc rfl rfl fun w h=>?_
     (try dsimp only[putAt,List.set_cons_zero,List.set_cons_succ] at h)
     refine h.lc_10 rfl ?_;exact hK _ noMet rfl (show Own B w0 _ (EndA b ⟨p.l++ [⟨n,zMsg⟩],false⟩::R) from h.sub)
    |false=>
     refine cbF rfl ?_;refine h.stLc rfl rfl fun w h=>?_
     (try dsimp only[putAt,List.set_cons_zero,List.set_cons_succ] at h)
     refine h.lc_10 rfl ?_;exact hK _ noMet rfl (show Own B w0 _ (EndA b p::R) from h.sub)
theorem endpoint_Cancel_spec {n:Int} {K:Bool->World->Prop} (h:Own B w0 w (EndA b p::R)) (hK:∀r w',Own B w0 w' (EndA b (p.cancel n)::R)->K r w'):C.qV (some ⟨b,0,none⟩) n K w:=by
 apply S.qV0;unfold S.qV;obtain ⟨s,hl,h⟩:=h.endp;refine h.al fun w1 h=>?_
 generalize w.heap.size=c at h⊢;refine ⟨_,rfl,s,h.ldc rfl,_,rfl,s,h.ldc rfl, ?_⟩;refine DeleteFunc_wt (p:=fun o=>o.who==n) h.up2 (by omega) (fun N y w Q h hQ=>?_) fun s' w h=>?_
 ·refine callV_mk ?_
  show C.qZ y.who y.m.label y.m.w0 y.m.w1 y.m.w2 y.m.w3 y.m.badge y.m.calls ⟨c,0,none⟩ Q w;apply S.qZ0;unfold S.qZ;refine h.al fun w1 h=>?_
  generalize w.heap.size=d at h⊢;exact ⟨_,h.ldc rfl,_,tailLd (N:=BlkA d _::N) h rfl,hQ _ h.drop⟩
 ·refine ⟨_,rfl, ?_⟩
  refine h.stc rfl rfl fun w h=>?_
  (try dsimp only[putAt,List.set_cons_zero,List.set_cons_succ] at h)
  refine ⟨_,rfl,s',h.ldc rfl, ?_⟩;exact hK _ w (Own.mk_endp (s:=s') (p:=p.cancel n) (Nat.le_trans (List.length_filter_le _ _) hl) (show Own B w0 w (BlkA b [.slice s'.a s'.len s'.cap, .bool p.sends]::SlT wtE s' (p.l.filter fun o=> !(o.who==n))::R) from h.sub))
end
structure Nte where
 word:Int
 is:Bool
 l:List Int
deriving DecidableEq
def Nte.signal (n:Nte) (badge:Int):Option Int × Nte:=match n.l with
 |x::r=>(some x,{ n with l:=r})
 | []=>(none,⟨orI .u64 n.word badge,true,[]⟩)
def Nte.wait (n:Nte) (who:Int) (waits:Bool):(Int × Bool × Int)× Nte:=
 if n.l.any (fun x=>who==x) then ((0,false,120),n)
 else if n.is then ((n.word,true,0),{ n with word:=0,is:=false})
 else ((0,false,0),if waits then { n with l:=n.l++ [who]} else n)
def Nte.cancel (n:Nte) (who:Int):Nte:={ n with l:=n.l.filter fun x=> !(x==who)}
def NoteA (b:Nat) (n:Nte):Asn:=ExA fun s:Sl=>StarA [PureA (n.l.length≤1000000),BlkA b [.int .u64 n.word, .bool n.is, .slice s.a s.len s.cap],SlT intE s n.l]
section
variable {B:Nat} {w0 w:World} {R L:List Asn} {b:Nat} {n:Nte}
theorem _root_.Go.Vc.Own.note (h:Own B w0 w (NoteA b n::R)):∃s:Sl,n.l.length≤1000000/\Own B w0 w (BlkA b [.int .u64 n.word, .bool n.is, .slice s.a s.len s.cap]::SlT intE s n.l::R):=by
 obtain ⟨s,h⟩:=h.ex;obtain ⟨h1,h⟩:=Own.pure h.star;exact ⟨s,h1,h⟩
theorem _root_.Go.Vc.Own.mk_note {s:Sl} {wd:Int} {is:Bool} {l:List Int} (h1:l.length≤1000000) (h:Own B w0 w (BlkA b [.int .u64 wd, .bool is, .slice s.a s.len s.cap]::SlT intE s l::R)):Own B w0 w (NoteA b ⟨wd,is,l⟩::R):=
 Own.mk_ex s (Own.mk_star (Own.mk_pure h1 h))
theorem notify_New_spec {K:Option Addr->World->Prop} (h:Own B w0 w R) (hK:∀b w',Own B w0 w' (NoteA b ⟨0,false,[]⟩::R)->K (some ⟨b,0,none⟩) w'):C.qcD K w:=by
 apply S.qcD0;unfold S.qcD;refine h.al fun w1 h=>?_
 exact hK _ w1 (Own.mk_note (s:=⟨none,0,0⟩) (by simp) ((Own.nilS h).perm (List.Perm.swap _ _ _)))
theorem notify_Signal_spec {g:Int} {K:Int->Int->Bool->World->Prop} (h:Own B w0 w (NoteA b n::R))
  (hK:∀w',Own B w0 w' (NoteA b (n.signal g).2::R)->K ((n.signal g).1.getD 0) (if (n.signal g).1.isSome then g else 0) (n.signal g).1.isSome w'):C.qas (some ⟨b,0,none⟩) g K w:=by
 apply S.qas0;unfold S.qas;obtain ⟨s,hl,h⟩:=h.note;have hlen:=h.lenc s;unfold Nte.signal at hK;refine ⟨_,rfl,s,h.ldc rfl, ?_⟩;cases hn:n.l with
 |nil=>
  rw[hn] at hK hlen;refine cdecF (by simp at hlen;omega) ?_;refine ⟨_,rfl,_,h.ldc rfl,_,rfl, ?_⟩;refine h.stc rfl rfl fun w h=>⟨_,rfl, ?_⟩
  refine h.stc rfl rfl fun w h=>?_
  (try dsimp only[putAt,List.set_cons_zero,List.set_cons_succ] at h)
  rw[hn] at h;exact hK w (Own.mk_note (s:=s) (by simp) h)
 |cons x r=>
  rw[hn] at hK hlen;simp only[List.length_cons] at hlen;refine cdecT (by omega) ?_;refine ⟨_,rfl,s,h.ldc rfl, ?_⟩;have h0:n.l[0]?=some x:=by rw[hn];rfl
  refine h.ixc (s:=s) (i:=0) (j:=0) rfl h0 fun a ha hc0 hc=>⟨_,hc0 _ rfl, ?_⟩
  refine ⟨_,rfl,s,h.ldc rfl, ?_⟩;rw[hn] at h;refine Delete_int (i:=0) (j:=1) h.up1 (by omega) (by simp) (by rw[hn] at hl;simp at hl⊢;omega) fun s' w h=>⟨_,rfl, ?_⟩
  refine h.stc rfl rfl fun w h=>?_
  (try dsimp only[putAt,List.set_cons_zero,List.set_cons_succ] at h)
  have h:Own B w0 w (SlT intE s' r::_):=h;exact hK w (Own.mk_note (s:=s') (by rw[hn] at hl;simp at hl⊢;omega) h.sub)
theorem notify_Wait_spec {who:Int} {wt:Bool} {K:Int->Bool->Int->World->Prop} (hbig:n.l.length<1000000) (h:Own B w0 w (NoteA b n::R))
  (hK:∀w',Own B w0 w' (NoteA b (n.wait who wt).2::R)->K (n.wait who wt).1.1 (n.wait who wt).1.2.1 (n.wait who wt).1.2.2 w'):C.qaP (some ⟨b,0,none⟩) who wt K w:=by
 apply S.qaP0;unfold S.qaP;obtain ⟨s,hl,h⟩:=h.note;unfold Nte.wait at hK;refine ⟨_,rfl,s,h.ldc rfl, ?_⟩;refine Contains_int (s:=s) (xs:=n.l) h (by omega) fun w h=>?_
 cases ht:(n.l.any fun x=>who==x) with
 |true=>
  rw[ht] at hK;exact cbT rfl (hK w (Own.mk_note (s:=s) hl h))
 |false=>
  rw[ht] at hK;refine cbF rfl ⟨_,rfl,_,h.ldc rfl, ?_⟩;cases hi:n.is with
  |true=>
   rw[hi] at hK;refine cbT rfl ⟨_,rfl,_,h.ldc rfl,_,rfl, ?_⟩;refine h.stc rfl rfl fun w h=>⟨_,rfl, ?_⟩
   refine h.stc rfl rfl fun w h=>?_
   (try dsimp only[putAt,List.set_cons_zero,List.set_cons_succ] at h)
   exact hK w (Own.mk_note (s:=s) hl h)
  |false=>
   rw[hi] at hK;refine cbF rfl ?_;cases wt with
   |true=>
    refine cbT rfl ⟨_,rfl,s,h.ldc rfl, ?_⟩;refine h.al fun w2 h=>?_
    generalize w.heap.size=d at h⊢;refine app1_int (s:=s) (y:=who) h (by omega) fun s' w hs' h=>⟨_,rfl, ?_⟩
    refine h.stc rfl rfl fun w h=>?_
    (try dsimp only[putAt,List.set_cons_zero,List.set_cons_succ] at h)
    exact hK w (Own.mk_note (s:=s') (by simp;omega) (by rw[hi] at h;exact h.sub))
   |false=>
    refine cbF rfl ?_;exact hK w (Own.mk_note (s:=s) hl h)
end
end Go.Proofs.YtogmbmdbgkopjaaGreat
end
section
set_option maxRecDepth 8000
namespace Go.Proofs.YtogmbmdbgkopjaaGreat.Th
open Go Go.Vc Go.Proofs
theorem words_is_spec {n:Int} {K:Bool->World->Prop} {w:World} (h:K (decide (0≤n/\n<256)) w):C.qcO n K w:=by
 apply S.qcO0;unfold S.qcO;by_cases h0:0≤n
 ·have e:decide (n≥0)=true:=by simpa using h0
  have e2:decide (0≤n/\n<256)=decide (n<256):=by simp[h0]
  rw[e,cond_true];rw[e2] at h;exact h
 ·have e:decide (n≥0)=false:=by simpa using h0
  have e2:decide (0≤n/\n<256)=false:=by simp[h0]
  rw[e,cond_false];rw[e2] at h;exact h
def set1 (b:Int) (i:Nat) (on:Bool):Int:=if on then orI .u64 (andNotI .u64 b (shlI .u64 1 i)) (shlI .u64 1 i) else andNotI .u64 b (shlI .u64 1 i)
def setBits (l:List Int) (n:Nat) (on:Bool):List Int:=l.set (n / 64) (set1 (l.getD (n / 64) 0) (n%64) on)
theorem words_Set_spec {B:Nat} {w0 w:World} {R:List Asn} {b1 b2 b3 b4 n:Int} {on:Bool} {K:Int->Int->Int->Int->Int->World->Prop} (h:Own B w0 w R) (hn0:0≤n) (hn:n<256)
  (hK:∀r1 r2 r3 r4 w',Own B w0 w' R->[r1,r2,r3,r4]=setBits [b1,b2,b3,b4] n.toNat on->K r1 r2 r3 r4 0 w'):C.qcK b1 b2 b3 b4 n on K w:=by
 apply S.qcK0;unfold S.qcK;refine h.al fun w7 h=>?_
 refine h.al fun w8 h=>?_
 apply words_is_spec;rw[show decide (0≤n/\n<256)=true from by simp[hn0,hn]];simp only[Bool.not_true,cond_false];refine h.dr fun w9 h=>?_
 obtain ⟨m,rfl⟩:=Int.eq_ofNat_of_zero_le hn0
 have hq:IntKind.i64.wrap (((m:Nat):Int).tdiv 64)=((m / 64:Nat):Int):=by
  rw[Int.tdiv_eq_ediv_of_nonneg (by omega),wr (by omega) (by omega)];omega
 have hr:((m:Nat):Int).tmod 64=((m%64:Nat):Int):=by
  rw[Int.tmod_eq_emod_of_nonneg (by omega)];omega
 have hq4:m / 64<4:=by omega
 simp only[Int.toNat_natCast] at hK;rw[hq,hr];generalize hQ:m / 64=q at*
 generalize hr':m%64=r at*
 have hq5:q=0∨q=1∨q=2∨q=3:=by omega
 clear hq hq4;rcases hq5 with rfl|rfl|rfl|rfl<;>
 ·refine ⟨by decide,by decide,by decide,_,h.ld 1 rfl rfl,by decide,by omega,by decide,by decide, ?_,trivial⟩
  refine h.std rfl rfl fun w10 h=>?_
  cases on
  ·rw[cond_false]
   refine h.lc_4 rfl ?_;refine h.stLc rfl rfl fun w11 h=>?_
   refine h.lc_4 rfl ?_;refine hK _ _ _ _ _ h.drop.drop ?_;simp only[setBits,hQ,hr'];rfl
  ·rw[cond_true]
   refine h.dr fun w11 h=>?_
   refine ⟨by decide,by decide,by decide,_,h.ld 1 rfl rfl,by decide,by omega,by decide,by decide, ?_,trivial⟩;refine h.std rfl rfl fun w10 h=>?_
   refine h.lc_4 rfl ?_;refine h.stLc rfl rfl fun w11 h=>?_
   refine h.lc_4 rfl ?_;refine hK _ _ _ _ _ h.drop.drop ?_;simp only[setBits,hQ,hr'];rfl
def len64 (x:Nat):Nat:=if x=0 then 0 else x.log2+1
theorem len64_eq {x n:Nat} (h1:x<2^n) (h2:n=0∨2^(n-1)≤x):len64 x=n:=by
 unfold len64;rcases h2 with rfl|h2
 ·have:x=0:=by simpa using h1
  rw[if_pos this]
 ·by_cases hn:n=0
  ·subst hn;have:x=0:=by simpa using h1
   rw[if_pos this]
  ·have hp:0<2^(n-1):=Nat.two_pow_pos _
   rw[if_neg (by omega),(Nat.log2_eq_iff (by omega)).2 ⟨h2,by rw[Nat.sub_add_cancel (by omega)];exact h1⟩];omega
theorem len64_out (x:Nat):x<2^len64 x/\(len64 x=0∨2^(len64 x-1)≤x):=by
 unfold len64;by_cases h:x=0
 ·subst h;simp
 ·rw[if_neg h]
  have:=(Nat.log2_eq_iff h).1 rfl;exact ⟨this.2, .inr this.1⟩
theorem len64_div {x k:Nat} (h:2^k≤x):len64 (x / 2^k)+k=len64 x:=by
 obtain ⟨h1,h2⟩:=len64_out (x / 2^k);have hp:0<2^k:=Nat.two_pow_pos _;have hd:1≤x / 2^k:=(Nat.one_le_div_iff hp).2 h
 symm
 apply len64_eq
 ·rw[Nat.pow_add];exact (Nat.div_lt_iff_lt_mul hp).1 h1
 ·right
  rcases h2 with h2|h2
  ·rw[h2] at h1;omega
  ·have h3:len64 (x / 2^k)≠0:=fun e=>by rw[e] at h1;omega
   rw[show len64 (x / 2^k)+k-1=(len64 (x / 2^k)-1)+k from by omega,Nat.pow_add];exact (Nat.le_div_iff_mul_le hp).1 h2
theorem len64_le {x n:Nat} (h:x<2^n):len64 x≤n:=by
 rcases (len64_out x).2 with h1|h1
 ·omega
 ·have h2:2^(len64 x-1)<2^n:=Nat.lt_of_le_of_lt h1 h
  have:=(Nat.pow_lt_pow_iff_right (by omega:1<2)).1 h2;omega
theorem str_tab (x:Nat) (h:x<256):StrAt ⟨#[0,1,2,2,3,3,3,3,4,4,4,4,4,4,4,4,5,5,5,5,5,5,5,5,5,5,5,5,5,5,5,5,6,6,6,6,6,6,6,6,6,6,6,6,6,6,6,6,6,6,6,6,6,6,6,6,6,6,6,6,6,6,6,6,7,7,7,7,7,7,7,7,7,7,7,7,7,7,7,7,7,7,7,7,7,7,7,7,7,7,7,7,7,7,7,7,7,7,7,7,7,7,7,7,7,7,7,7,7,7,7,7,7,7,7,7,7,7,7,7,7,7,7,7,7,7,7,7,8,8,8,8,8,8,8,8,8,8,8,8,8,8,8,8,8,8,8,8,8,8,8,8,8,8,8,8,8,8,8,8,8,8,8,8,8,8,8,8,8,8,8,8,8,8,8,8,8,8,8,8,8,8,8,8,8,8,8,8,8,8,8,8,8,8,8,8,8,8,8,8,8,8,8,8,8,8,8,8,8,8,8,8,8,8,8,8,8,8,8,8,8,8,8,8,8,8,8,8,8,8,8,8,8,8,8,8,8,8,8,8,8,8,8,8,8,8,8,8,8,8,8,8,8,8,8,8]⟩ (x:Int) ((len64 x:Nat):Int):=by
 have hc:(List.range 256).all (fun x=>((⟨#[0,1,2,2,3,3,3,3,4,4,4,4,4,4,4,4,5,5,5,5,5,5,5,5,5,5,5,5,5,5,5,5,6,6,6,6,6,6,6,6,6,6,6,6,6,6,6,6,6,6,6,6,6,6,6,6,6,6,6,6,6,6,6,6,7,7,7,7,7,7,7,7,7,7,7,7,7,7,7,7,7,7,7,7,7,7,7,7,7,7,7,7,7,7,7,7,7,7,7,7,7,7,7,7,7,7,7,7,7,7,7,7,7,7,7,7,7,7,7,7,7,7,7,7,7,7,7,7,8,8,8,8,8,8,8,8,8,8,8,8,8,8,8,8,8,8,8,8,8,8,8,8,8,8,8,8,8,8,8,8,8,8,8,8,8,8,8,8,8,8,8,8,8,8,8,8,8,8,8,8,8,8,8,8,8,8,8,8,8,8,8,8,8,8,8,8,8,8,8,8,8,8,8,8,8,8,8,8,8,8,8,8,8,8,8,8,8,8,8,8,8,8,8,8,8,8,8,8,8,8,8,8,8,8,8,8,8,8,8,8,8,8,8,8,8,8,8,8,8,8,8,8,8,8,8,8]⟩:ByteArray)[x]?).map UInt8.toNat==some (len64 x))=true:=by kernel_rfl
 have:=List.all_eq_true.1 hc x (List.mem_range.2 h);have:=eq_of_beq this;obtain ⟨u,h1,h2⟩:=Option.map_eq_some_iff.1 this;exact ⟨by omega,u,by rw[Int.toNat_natCast];exact h1,by rw[h2]⟩
theorem shr_nat (x k:Nat) (hk:k≤64):shrI .u64 (x:Int) (k:Int)=((x / 2^k:Nat):Int):=by
 unfold shrI;rw[Int.toNat_natCast,show IntKind.u64.bits=64 from rfl,Nat.min_eq_left hk];rw[show ((2:Int)^k)=((2^k:Nat):Int) from by simp];rw[Int.fdiv_eq_ediv_of_nonneg _ (Int.natCast_nonneg _)];simp
theorem wr8 {x:Int} (h1:0≤x) (h2:x<256):IntKind.u8.wrap x=x:=by
 have e1:(2:Int)^8=256:=by decide
 simp only[IntKind.wrap,IntKind.bits,IntKind.signed,e1,Bool.false_and,Bool.false_eq_true,if_false];omega
theorem math_bits_Len64_spec {x:Nat} {K:Int->World->Prop} {w:World} (hx:x<2^64) (h:K ((len64 x:Nat):Int) w):C.qbG (x:Int) K w:=by
 apply S.qbG0;unfold S.qbG;intro k2 h2
 have hk2:∀(y n:Nat),y<2^32->len64 y+n=len64 x->n≤32->k2 (y:Int) (n:Int) w:=by
  intro y n hy hn hle;apply h2;intro k6 h6
  have hk6:∀(y n:Nat),y<2^16->len64 y+n=len64 x->n≤48->k6 (y:Int) (n:Int) w:=by
   intro y n hy hn hle;apply h6;intro k10 h10
   have hk10:∀(y n:Nat),y<2^8->len64 y+n=len64 x->n≤56->k10 (y:Int) (n:Int) w:=by
    intro y n hy hn hle;apply h10;have hl:=len64_le hy;rw[wr8 (by omega) (by omega)];refine ⟨_,str_tab y hy, ?_⟩;rw[wr (x:=((len64 y:Nat):Int)) (by omega) (by omega),wr (by omega) (by omega)];rw[show (n:Int)+((len64 y:Nat):Int)=((len64 x:Nat):Int) from by omega];exact h
   by_cases hc:y≥256
   ·rw[show decide ((y:Int)≥256)=true from by simp;omega,cond_true]
    refine ⟨by decide, ?_⟩;rw[wr (by omega) (by omega),show (8:Int)=((8:Nat):Int) from rfl,shr_nat y 8 (by omega)];refine hk10 (y / 2^8) (n+8) ?_ ?_ (by omega)
    ·have:y<2^8*2^8:=by simpa using hy
     exact Nat.div_lt_of_lt_mul this
    ·have:=len64_div (x:=y) (k:=8) (by simpa using hc);omega
   ·rw[show decide ((y:Int)≥256)=false from by simp;omega,cond_false]
    exact hk10 y n (by simp;omega) hn (by omega)
  by_cases hc:y≥65536
  ·rw[show decide ((y:Int)≥65536)=true from by simp;omega,cond_true]
   refine ⟨by decide, ?_⟩;rw[wr (by omega) (by omega),show (16:Int)=((16:Nat):Int) from rfl,shr_nat y 16 (by omega)];refine hk6 (y / 2^16) (n+16) ?_ ?_ (by omega)
   ·have:y<2^16*2^16:=by simpa using hy
    exact Nat.div_lt_of_lt_mul this
   ·have:=len64_div (x:=y) (k:=16) (by simpa using hc);omega
  ·rw[show decide ((y:Int)≥65536)=false from by simp;omega,cond_false]
   exact hk6 y n (by simp;omega) hn (by omega)
 by_cases hc:x≥4294967296
 ·rw[show decide ((x:Int)≥4294967296)=true from by simp;omega,cond_true]
  refine ⟨by decide, ?_⟩;rw[show (32:Int)=((32:Nat):Int) from rfl,shr_nat x 32 (by omega)];refine hk2 (x / 2^32) 32 ?_ ?_ (by omega)
  ·have:x<2^32*2^32:=by simpa using hx
   exact Nat.div_lt_of_lt_mul this
  ·have:=len64_div (x:=x) (k:=32) (by simpa using hc);omega
 ·rw[show decide ((x:Int)≥4294967296)=false from by simp;omega,cond_false]
  exact hk2 x 0 (by simp;omega) (by omega) (by omega)
theorem set1_bits (x i:Nat) (on:Bool) (hx:x<2^64) (hi:i<64):∃y:Nat,set1 (x:Int) i on=(y:Int)/\y<2^64/\∀j,j<64->y.testBit j=if j=i then on else x.testBit j:=by
 have hs:shlI .u64 1 (i:Int)=((2^i:Nat):Int):=by
  unfold shlI;rw[Int.toNat_natCast,show IntKind.u64.bits=64 from rfl,Nat.min_eq_left (by omega),Int.one_mul,show ((2:Int)^i)=((2^i:Nat):Int) from by simp];have hp:(2:Nat)^64=18446744073709551616:=by decide
  have:2^i<2^64:=Nat.pow_lt_pow_right (by omega) hi;rw[hp] at this;generalize 2^i=y at*
  exact wru (Int.natCast_nonneg _) (by omega)
 have hbv:∀z:Nat,BitVec.ofInt IntKind.u64.bits (z:Int)=BitVec.ofNat 64 z:=fun z=>by
  apply BitVec.eq_of_toNat_eq;simp[IntKind.bits,BitVec.toNat_ofInt]
 have hwrap:∀z:BitVec 64,IntKind.u64.wrap ((z.toNat:Nat):Int)=((z.toNat:Nat):Int):=fun z=>by
  have hp:(2:Nat)^64=18446744073709551616:=by decide
  have:=z.isLt;rw[hp] at this;exact wru (by omega) (by omega)
 have hand:andNotI .u64 (x:Int) ((2^i:Nat):Int)=(((BitVec.ofNat 64 x &&& ~~~ BitVec.ofNat 64 (2^i)).toNat:Nat):Int):=by
  unfold andNotI;rw[hbv,hbv];exact hwrap _
 have hgl:∀(z j:Nat),j<64->(BitVec.ofNat 64 z).getLsbD j=z.testBit j:=fun z j hj=>by rw[BitVec.getLsbD_ofNat];simp[hj]
 have htb:∀j,(2^i).testBit j=decide (j=i):=fun j=>by
  rw[Nat.testBit_two_pow];exact decide_eq_decide.2 ⟨fun h=>h.symm,fun h=>h.symm⟩
 unfold set1;rw[hs,hand];cases on with
 |false=>
  refine ⟨_,rfl,(BitVec.ofNat 64 x &&& ~~~ BitVec.ofNat 64 (2^i)).isLt,fun j hj=>?_⟩;rw[BitVec.testBit_toNat,BitVec.getLsbD_and,BitVec.getLsbD_not,hgl _ _ hj,hgl _ _ hj,htb];by_cases e:j=i<;>simp[e,hj]
 |true=>
  refine ⟨(BitVec.ofNat 64 (BitVec.ofNat 64 x &&& ~~~ BitVec.ofNat 64 (2^i)).toNat ||| BitVec.ofNat 64 (2^i)).toNat, ?_,BitVec.isLt _,fun j hj=>?_⟩
  ·simp only[if_true];unfold orI;rw[hbv,hbv];exact hwrap _
  ·rw[BitVec.testBit_toNat,BitVec.getLsbD_or,BitVec.ofNat_toNat,BitVec.setWidth_eq,BitVec.getLsbD_and,BitVec.getLsbD_not,hgl _ _ hj,hgl _ _ hj,htb]
   by_cases e:j=i<;>simp[e,hj]
def BitsOk (f:Nat->Bool) (ws:List Int):Prop:=ws.length=4/\∀j,j<4->∃x:Nat,ws[j]?=some (x:Int)/\x<2^64/\∀i,i<64->x.testBit i=f (64*j+i)
theorem BitsOk.uniq {f:Nat->Bool} {ws ws':List Int} (h:BitsOk f ws) (h':BitsOk f ws'):ws=ws':=by
 apply List.ext_getElem?;intro j;by_cases hj:j<4
 ·obtain ⟨x,h1,h2,h3⟩:=h.2 j hj
  obtain ⟨y,h4,h5,h6⟩:=h'.2 j hj;rw[h1,h4];congr 2;apply Nat.eq_of_testBit_eq;intro i;by_cases hi:i<64
  ·rw[h3 i hi,h6 i hi]
  ·rw[Nat.testBit_lt_two_pow (Nat.lt_of_lt_of_le h2 (Nat.pow_le_pow_right (by omega) (by omega))),Nat.testBit_lt_two_pow (Nat.lt_of_lt_of_le h5 (Nat.pow_le_pow_right (by omega) (by omega)))]
 ·rw[List.getElem?_eq_none (by rw[h.1];omega),List.getElem?_eq_none (by rw[h'.1];omega)]
theorem BitsOk.congr {f g:Nat->Bool} {ws:List Int} (h:BitsOk f ws) (hfg:∀i,i<256->f i=g i):BitsOk g ws:=
 ⟨h.1,fun j hj=>by obtain ⟨x,h1,h2,h3⟩:=h.2 j hj;exact ⟨x,h1,h2,fun i hi=>by rw[h3 i hi,hfg _ (by omega)]⟩⟩
theorem BitsOk.set {f:Nat->Bool} {ws:List Int} (h:BitsOk f ws) {n:Nat} (hn:n<256) (on:Bool):BitsOk (fun i=>if i=n then on else f i) (setBits ws n on):=by
 unfold setBits;refine ⟨by simpa using h.1,fun j hj=>?_⟩;obtain ⟨x,h1,h2,h3⟩:=h.2 j hj;by_cases e:n / 64=j
 ·subst e
  obtain ⟨y,h4,h5,h6⟩:=set1_bits x (n%64) on h2 (by omega);refine ⟨y, ?_,h5,fun i hi=>?_⟩
  ·rw[List.getElem?_set_self (by rw[h.1];exact hj),List.getD_eq_getElem?_getD,h1]
   simp only[Option.getD_some,h4]
  ·rw[h6 i hi,h3 i hi]
   show _=if 64*(n / 64)+i=n then on else f (64*(n / 64)+i)
   by_cases e:i=n%64
   ·rw[if_pos e,if_pos (by omega)]
   ·rw[if_neg e,if_neg (by omega)]
 ·refine ⟨x,by rw[List.getElem?_set_ne e];exact h1,h2,fun i hi=>?_⟩
  rw[h3 i hi];show _=if 64*j+i=n then on else f (64*j+i)
  rw[if_neg (by omega)]
theorem BitsOk.zero:BitsOk (fun _=>false) [0,0,0,0]:=by
 refine ⟨rfl,fun j hj=>⟨0, ?_,by decide,fun i _=>by simp⟩⟩
 match j,hj with
 |0,_|1,_|2,_|3,_=>rfl
end Go.Proofs.YtogmbmdbgkopjaaGreat.Th
end
