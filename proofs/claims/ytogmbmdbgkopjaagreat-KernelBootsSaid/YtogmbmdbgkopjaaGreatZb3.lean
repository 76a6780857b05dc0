/- What the row rests on: the declarations that it needs, out of my texts (part 3). -/
import Derived.Test.YtogmbmdbgkopjaaGreatZb2
set_option linter.unusedVariables false
set_option linter.unusedSimpArgs false
set_option linter.unusedSectionVars false
section
set_option maxRecDepth 100000
namespace Go.Proofs.YtogmbmdbgkopjaaGreat
open Go Go.Vc Go.Proofs
theorem S.qdj0 {a b c d K w}:Fr (C.qdj a b c d K w) (Al w (.cells #[.y a, .y b, .y c, .y d] 293) fun a=>∀b:Int->Pw,(∀(a:Int) (c:World),(bif decide (a<4) then (0≤IntKind.i64.wrap (3-a)/\IntKind.i64.wrap (3-a)<4/\∃d,c.cell? ((Addr.mk w.heap.size 0 none).add ((IntKind.i64.wrap (3-a)).toNat*1))=some (.y d)/\bif d !=0 then (0≤IntKind.i64.wrap (3-a)/\IntKind.i64.wrap (3-a)<4/\∃b,c.cell? ((Addr.mk w.heap.size 0 none).add ((IntKind.i64.wrap (3-a)).toNat*1))=some (.y b)/\C.qbV b (fun b c=>K (IntKind.i64.wrap ((IntKind.i64.wrap ((IntKind.i64.wrap ((IntKind.i64.wrap (3-a))*64))+b))-1)) c) c) else (b (IntKind.i64.wrap (a+1)) c)) else (K (-1) c))->b a c)->b 0 a):=okT Tryz.func192 (.v (.y (.v (.x (.t (some [(5,.c (.i .i64))]) (.v (.y .w (.x (.x (.v (.v (.v (.x .w)))))))) .u))) .w))
theorem S.qdm0 {a b K w}:Fr (C.qdm a b K w) (∀c:Bool->Pw,(∀(d:Bool) (e:World),(bif d then (K 0 1 e) else (C.qcl b (fun b c=>∃d,∃e,∃f:World,ExtR Tryz.prog 331 #[.y a, .y b, .y 0] c (.tuple #[.y d, .y e]) f/\bif e !=0 then (K 0 2 f) else (K (andNotI .u64 d b) 0 f)) e))->c d e)->(bif decide (b<0) then (c true w) else (c (decide (b≥64)) w))):=okT Tryz.func278 (.v (.y .g37 .g45))
theorem S.qdd0 {a K w}:Fr (C.qdd a K w) (∀b:Bool->Pw,(∀(c:Bool) (d:World),(bif c then (K 0 1 d) else (C.qcl a (fun a b=>K a 0 b) d))->b c d)->(bif decide (a<0) then (b true w) else (b (decide (a>64)) w))):=okT Tryz.func315 .g32
theorem S.qdl0 {a b c d e f K w}:Fr (C.qdl a b c d e f K w) (Al w (.cells #[.y a, .y b, .y c, .y d] 293) fun a=>Al a (.cells #[.y 0, .y 0, .y 0, .y 0] 293) fun b=>C.qdp e (fun b c=>bif !b then (StL c (.mk a.heap.size 0 none) 0 [.y 0, .y 0, .y 0, .y 0] fun b=>LdL b (.mk a.heap.size 0 none) 0 [.u, .u, .u, .u] fun (a c d e:Int)=>K a c d e 1 b) else (Dr c fun b=>(64:Int)≠0/\0≤IntKind.i64.wrap (e.tdiv 64)/\IntKind.i64.wrap (e.tdiv 64)<4/\∃c,b.cell? ((Addr.mk w.heap.size 0 none).add ((IntKind.i64.wrap (e.tdiv 64)).toNat*1))=some (.y c)/\(64:Int)≠0/\0≤(e.tmod 64)/\0≤IntKind.i64.wrap (e.tdiv 64)/\IntKind.i64.wrap (e.tdiv 64)<4/\(St b ((Addr.mk w.heap.size 0 none).add ((IntKind.i64.wrap (e.tdiv 64)).toNat*1)) (.y (andNotI .u64 c (shlI .u64 1 (e.tmod 64)))) fun b=>bif f then (Dr b fun b=>(64:Int)≠0/\0≤IntKind.i64.wrap (e.tdiv 64)/\IntKind.i64.wrap (e.tdiv 64)<4/\∃c,b.cell? ((Addr.mk w.heap.size 0 none).add ((IntKind.i64.wrap (e.tdiv 64)).toNat*1))=some (.y c)/\(64:Int)≠0/\0≤(e.tmod 64)/\0≤IntKind.i64.wrap (e.tdiv 64)/\IntKind.i64.wrap (e.tdiv 64)<4/\(St b ((Addr.mk w.heap.size 0 none).add ((IntKind.i64.wrap (e.tdiv 64)).toNat*1)) (.y (orI .u64 c (shlI .u64 1 (e.tmod 64)))) fun b=>LdL b (.mk w.heap.size 0 none) 0 [.u, .u, .u, .u] fun (c d e f:Int)=>StL b (.mk a.heap.size 0 none) 0 [.y c, .y d, .y e, .y f] fun b=>LdL b (.mk a.heap.size 0 none) 0 [.u, .u, .u, .u] fun (a c d e:Int)=>K a c d e 0 b)/\True) else (LdL b (.mk w.heap.size 0 none) 0 [.u, .u, .u, .u] fun (c d e f:Int)=>StL b (.mk a.heap.size 0 none) 0 [.y c, .y d, .y e, .y f] fun b=>LdL b (.mk a.heap.size 0 none) 0 [.u, .u, .u, .u] fun (a c d e:Int)=>K a c d e 0 b))/\True)) b):=okT Tryz.func316 (.v (.y (.v (.x .w)) (.y .g10 (.y (.v (.x .g10)) .w))))
theorem S.qcl0 {a K w}:Fr (C.qcl a K w) (0≤a/\K (IntKind.u64.wrap ((shlI .u64 1 a)-1)) w):=okT Tryz.func330 (.v .w)
theorem S.qbN0 {a b c K w}:Fr (C.qbN a b c K w) (C.qbY b c (fun d e=>bif !d then (K 0 1 e) else (Dr e fun d=>0≤b/\(C.qcl c (fun c d=>K (andI .u64 (shrI .u64 a b) c) 0 d) d)/\True)) w):=okT Tryz.func347 (.v (.y (.v (.x .w)) (.x (.z (.o 0 26 (.o 1 24 (.o 2 24 (.o 3 0 (.e 4 (.o 5 0 (.o 6 0 (.o 7 0 .done))))))))))))
theorem S.qdp0 {a K w}:Fr (C.qdp a K w) (bif decide (a≥0) then (K (decide (a<256)) w) else (K false w)):=okT Tryz.func350 (.v .w)
theorem S.qbY0 {a b K w}:Fr (C.qbY a b K w) (bif decide (a≥0) then (bif decide (b≥0) then (bif decide (a≤64) then (K (decide (b≤(IntKind.i64.wrap (64-a)))) w) else (K false w)) else (K false w)) else (K false w)):=okT Tryz.func360 (.v .w)
end Go.Proofs.YtogmbmdbgkopjaaGreat
end
section
set_option maxRecDepth 8000
namespace Go.Proofs.YtogmbmdbgkopjaaGreat.Sl
open Go Go.Vc Go.Proofs
structure Cap where
 kind:Int
 obj:Int
 rights:Int
 badge:Int
 guard:Int
 bits:Int
deriving DecidableEq
abbrev Cap.cells (c:Cap):List Value:=[.z c.kind, .z c.obj, .z c.rights, .y c.badge, .y c.guard, .z c.bits]
def encCap (c:Cap):Value:= .agg ⟨c.cells⟩
def zeroCap:Cap:=⟨0,0,0,0,0,0⟩
def capE:EncT Cap:=⟨6,Cap.cells,fun _=>rfl,fun x v h=>by
 simp only[Cap.cells,List.mem_cons,List.not_mem_nil,or_false] at h;rcases h with rfl|rfl|rfl|rfl|rfl|rfl<;>rfl,by decide⟩
structure CapR (c:Cap):Prop where
 b0:0≤c.badge
 b1:c.badge<18446744073709551616
 g0:0≤c.guard
 g1:c.guard<18446744073709551616
def guardB (g bits:Int):Bool:=decide (0≤bits/\bits≤64/\g<2^bits.toNat)
def limitedB (k:Int):Bool:=k==4||k==5||k==6
def badgedB (k:Int):Bool:=k==4||k==5
def capBad (c:Cap):Bool:=
 !(decide (0<c.kind)&&decide (c.kind<10)&&decide (0≤c.obj)&&decide (c.obj<2147483648)&&(decide (0≤c.rights)&&decide (c.rights≤7))&&guardB c.guard c.bits)
  ||(!limitedB c.kind&&c.rights !=7)||(c.badge !=0&& !badgedB c.kind)||(c.bits !=0&&c.kind !=2)
def capErr (c:Cap):Int:=if c=zeroCap then 0 else if capBad c then 40 else 0
theorem wrap_u64 (z:Nat):IntKind.u64.wrap (z:Int)=((z%2^64:Nat):Int):=by
 have e1:(2:Int)^64=18446744073709551616:=by decide
 have e2:(2:Nat)^64=18446744073709551616:=by decide
 simp only[IntKind.wrap,IntKind.bits,IntKind.signed,e1,e2,Bool.false_and,Bool.false_eq_true,if_false];omega
theorem low_val (n:Nat) (hn:n≤64):IntKind.u64.wrap (shlI .u64 1 (n:Int)-1)=((2^n-1:Nat):Int):=by
 have e2:(2:Nat)^64=18446744073709551616:=by decide
 have hp:0<2^n:=Nat.two_pow_pos n;unfold shlI;rw[Int.toNat_natCast,show IntKind.u64.bits=64 from rfl,Nat.min_eq_left hn,Int.one_mul,show ((2:Int)^n)=((2^n:Nat):Int) from by simp,wrap_u64];by_cases e:n=64
 ·subst e
  rw[e2];rfl
 ·have hlt:2^n<2^64:=Nat.pow_lt_pow_right (by omega) (by omega)
  rw[Nat.mod_eq_of_lt hlt,show (((2^n:Nat):Int)-1)=((2^n-1:Nat):Int) from by omega,wrap_u64,Nat.mod_eq_of_lt (by omega)]
theorem bv_of (z:Nat):BitVec.ofInt IntKind.u64.bits (z:Int)=BitVec.ofNat 64 z:=by
 apply BitVec.eq_of_toNat_eq;simp[IntKind.bits,BitVec.toNat_ofInt]
theorem and_low (v n:Nat) (hv:v<2^64) (hn:n≤64):andI .u64 (v:Int) ((2^n-1:Nat):Int)=((v%2^n:Nat):Int):=by
 have hp:0<2^n:=Nat.two_pow_pos n;have hle:2^n≤2^64:=Nat.pow_le_pow_right (by omega) hn;unfold andI;rw[bv_of,bv_of]
 have h1:(BitVec.ofNat 64 v &&& BitVec.ofNat 64 (2^n-1)).toNat=v%2^n:=by
  rw[BitVec.toNat_and,BitVec.toNat_ofNat,BitVec.toNat_ofNat,Nat.mod_eq_of_lt hv,Nat.mod_eq_of_lt (by omega),Nat.and_two_pow_sub_one_eq_mod]
 show IntKind.u64.wrap (((BitVec.ofNat 64 v &&& BitVec.ofNat 64 (2^n-1)).toNat:Nat):Int)=_;rw[h1,wrap_u64,Nat.mod_eq_of_lt (Nat.lt_of_le_of_lt (Nat.mod_le _ _) hv)]
theorem andNot_low (v n:Nat) (hv:v<2^64) (hn:n≤64):(andNotI .u64 (v:Int) ((2^n-1:Nat):Int)==0)=decide (v<2^n):=by
 have hp:0<2^n:=Nat.two_pow_pos n;have hle:2^n≤2^64:=Nat.pow_le_pow_right (by omega) hn;unfold andNotI;rw[bv_of,bv_of];have hgl:∀(z j:Nat),j<64->(BitVec.ofNat 64 z).getLsbD j=z.testBit j:=fun z j hj=>by rw[BitVec.getLsbD_ofNat];simp[hj]
 have hbit:∀j,j<64->(BitVec.ofNat 64 v &&& ~~~ BitVec.ofNat 64 (2^n-1)).toNat.testBit j=(v.testBit j&& !decide (j<n)):=fun j hj=>by
  rw[BitVec.testBit_toNat,BitVec.getLsbD_and,BitVec.getLsbD_not,hgl _ _ hj,hgl _ _ hj,Nat.testBit_two_pow_sub_one];simp[hj]
 have hlt:=(BitVec.ofNat 64 v &&& ~~~ BitVec.ofNat 64 (2^n-1)).isLt;show (IntKind.u64.wrap (((BitVec.ofNat 64 v &&& ~~~ BitVec.ofNat 64 (2^n-1)).toNat:Nat):Int)==0)=_;generalize hz:(BitVec.ofNat 64 v &&& ~~~ BitVec.ofNat 64 (2^n-1)).toNat=z at hbit hlt;rw[wrap_u64,Nat.mod_eq_of_lt hlt];rw[Bool.eq_iff_iff];simp only[beq_iff_eq,decide_eq_true_eq];constructor
 ·intro h0
  have h0:z=0:=by omega
  subst h0;refine Nat.lt_pow_two_of_testBit v fun i hi=>?_
  by_cases h64:i<64
  ·have:=hbit i h64
   rw[Nat.zero_testBit] at this;simp only[show ¬i<n from by omega,decide_false,Bool.not_false,Bool.and_true] at this;exact this.symm
  ·exact Nat.testBit_lt_two_pow (Nat.lt_of_lt_of_le hv (Nat.pow_le_pow_right (by omega) (by omega)))
 ·intro hvn
  have:z=0:=by
   apply Nat.eq_of_testBit_eq;intro i;rw[Nat.zero_testBit];by_cases h64:i<64
   ·rw[hbit i h64]
    by_cases hin:i<n
    ·simp[hin]
    ·rw[Nat.testBit_lt_two_pow (Nat.lt_of_lt_of_le hvn (Nat.pow_le_pow_right (by omega) (by omega)))];rfl
   ·exact Nat.testBit_lt_two_pow (Nat.lt_of_lt_of_le hlt (Nat.pow_le_pow_right (by omega) (by omega)))
  omega
theorem shr_nat (x k:Nat) (hk:k≤64):shrI .u64 (x:Int) (k:Int)=((x / 2^k:Nat):Int):=by
 unfold shrI;rw[Int.toNat_natCast,show IntKind.u64.bits=64 from rfl,Nat.min_eq_left hk];rw[show ((2:Int)^k)=((2^k:Nat):Int) from by simp];rw[Int.fdiv_eq_ediv_of_nonneg _ (Int.natCast_nonneg _)];simp
section
variable {B:Nat} {w0 w:World} {R:List Asn}
theorem words_low_spec {n:Nat} {K:Int->Pw} (hn:n≤64) (h:K ((2^n-1:Nat):Int) w):C.qcl (n:Int) K w:=by
 apply S.qcl0;rw[low_val n hn];exact ⟨by omega,h⟩
theorem words_Mask_spec {n:Int} {K:Int->Int->Pw} (h1:¬(0≤n/\n≤64)->K 0 1 w) (h2:∀k:Nat,n=(k:Int)->k≤64->K ((2^k-1:Nat):Int) 0 w):C.qdd n K w:=by
 apply S.qdd0;intro k2 hk2;by_cases e:n<0
 ·rw[show decide (n<0)=true from by simpa using e,cond_true]
  apply hk2;rw[cond_true];exact h1 (by omega)
 ·rw[show decide (n<0)=false from by simpa using e,cond_false]
  apply hk2;by_cases e2:n>64
  ·rw[show decide (n>64)=true from by simpa using e2,cond_true];exact h1 (by omega)
  ·rw[show decide (n>64)=false from by simpa using e2,cond_false]
   obtain ⟨k,rfl⟩:=Int.eq_ofNat_of_zero_le (by omega:0≤n);exact words_low_spec (by omega) (h2 k rfl (by omega))
theorem caps_guard_spec {g bits:Int} {K:Bool->Pw} (h0:0≤g) (h1:g<18446744073709551616) (h:K (guardB g bits) w):C.qdb g bits K w:=by
 apply S.qdb0;have e2:(2:Nat)^64=18446744073709551616:=by decide
 refine words_Mask_spec (fun hn=>?_) (fun k hk hk2=>?_)
 ·rw[show ((1:Int)==0)=false from rfl,cond_false]
  have:guardB g bits=false:=by unfold guardB;rw[decide_eq_false];rintro ⟨h1,h2,_⟩;exact hn ⟨h1,h2⟩
  rw[this] at h;exact h
 ·subst hk
  rw[show ((0:Int)==0)=true from rfl,cond_true];obtain ⟨v,rfl⟩:=Int.eq_ofNat_of_zero_le h0;rw[andNot_low v k (by omega) hk2]
  have:guardB (v:Int) (k:Int)=decide (v<2^k):=by
   unfold guardB;rw[decide_eq_decide,Int.toNat_natCast,show ((2:Int)^k)=((2^k:Nat):Int) from by simp];omega
  rw[this] at h;exact h
theorem caps_rights_spec {n:Int} {K:Bool->Pw} (h:K (decide (0≤n)&&decide (n≤7)) w):C.qcE n K w:=by
 apply S.qcE0;by_cases e:0≤n
 ·rw[show decide (n≥0)=true from by simpa using e,cond_true]
  rw[show decide (0≤n)=true from by simpa using e,Bool.true_and] at h;exact h
 ·rw[show decide (n≥0)=false from by simpa using e,cond_false]
  rw[show decide (0≤n)=false from by simpa using e,Bool.false_and] at h;exact h
theorem caps_limited_spec {k:Int} {K:Bool->Pw} (h:K (limitedB k) w):C.qcs k K w:=by
 apply S.qcs0;unfold limitedB at h;cases h4:k==4 with
 |true=>rw[cond_true];rw[h4] at h;exact h
 |false=>
  rw[cond_false];cases h5:k==5 with
  |true=>rw[cond_true];rw[h4,h5] at h;exact h
  |false=>rw[cond_false];rw[h4,h5] at h;exact h
theorem caps_badged_spec {k:Int} {K:Bool->Pw} (h:K (badgedB k) w):C.qcF k K w:=by
 apply S.qcF0;unfold badgedB at h;cases h4:k==4 with
 |true=>rw[cond_true];rw[h4] at h;exact h
 |false=>rw[cond_false];rw[h4] at h;exact h
theorem capX (a b:Cap):eqX Tryz.prog 9 42 a.cells b.cells=some (decide (a=b)):=by
 have h:eqX Tryz.prog 9 42 a.cells b.cells=some (a.kind==b.kind&&(a.obj==b.obj&&(a.rights==b.rights&&(a.badge==b.badge&&(a.guard==b.guard&&(a.bits==b.bits&&true)))))):=by kernel_rfl
 rw[h];congr 1;rw[Bool.eq_iff_iff];simp only[Bool.and_true,Bool.and_eq_true,beq_iff_eq,decide_eq_true_eq];cases a;cases b;simp only[Cap.mk.injEq]
theorem capEq {x y:Operand} (a b:Cap):EqB Tryz.prog .eql 42 x y (.agg ⟨a.cells⟩) (.agg ⟨b.cells⟩) (decide (a=b)):=eqB_x (by kernel_rfl) (by kernel_rfl) (by kernel_rfl) (capX a b)
theorem caps_Check_spec {c:Cap} {K:Int->Pw} (h:Own B w0 w R) (hc:CapR c) (hK:∀w',Own B w0 w' R->K (capErr c) w'):C.qcD c.kind c.obj c.rights c.badge c.guard c.bits K w:=by
 apply S.qcD0;refine h.al fun w1 h=>?_
 have hcell:∀w',Own B w0 w' (BlkA w.heap.size c.cells::R)->Own B w0 w' (BlkA w.heap.size c.cells::R):=fun _ h=>h
 have h:Own B w0 w1 (BlkA w.heap.size c.cells::R):=h;simp only[add_mk,Nat.zero_add];intro k8 hk8
 have fin:k8 (decide (0<c.kind)&&decide (c.kind<10)&&decide (0≤c.obj)&&decide (c.obj<2147483648)&&(decide (0≤c.rights)&&decide (c.rights≤7))&&guardB c.guard c.bits) w1:=by
  generalize hr:(decide (0<c.kind)&&decide (c.kind<10)&&decide (0≤c.obj)&&decide (c.obj<2147483648)&&(decide (0≤c.rights)&&decide (c.rights≤7))&&guardB c.guard c.bits)=right;apply hk8;refine h.ld_6 0 rfl rfl ?_;refine ⟨_,capEq c zeroCap,?_⟩;have hb:capBad c=(!right||(!limitedB c.kind&&c.rights !=7)||(c.badge !=0&& !badgedB c.kind)||(c.bits !=0&&c.kind !=2)):=by unfold capBad;rw[hr]
  have hE:=hK w1 h.drop;unfold capErr at hE;by_cases e:c=zeroCap
  ·rw[decide_eq_true e,cond_true];rw[if_pos e] at hE;exact hE
  rw[decide_eq_false e,cond_false];rw[if_neg e,hb] at hE;intro k18 hk18
  have rest:(!right||(!limitedB c.kind&&c.rights !=7))=false->k18 false w1:=by
   intro h0;rw[h0,Bool.false_or] at hE;apply hk18;rw[cond_false];intro k21 hk21;refine ⟨c.badge,h.ld0 0 rfl rfl,?_⟩
   have last:(c.badge !=0&& !badgedB c.kind)=false->k21 false w1:=by
    intro h1;rw[h1,Bool.false_or] at hE;apply hk21;rw[cond_false];refine ⟨c.bits,h.ld0 0 rfl rfl,?_⟩;cases hbits:c.bits !=0 with
    |false=>rw[cond_false];rw[hbits,Bool.false_and,if_neg (by simp)] at hE;exact hE
    |true=>
     rw[cond_true];rw[hbits,Bool.true_and] at hE;refine ⟨c.kind,h.ld0 0 rfl rfl,?_⟩;cases hk:c.kind !=2 with
     |true=>rw[cond_true];rw[hk,if_pos rfl] at hE;exact hE
     |false=>rw[cond_false];rw[hk,if_neg (by simp)] at hE;exact hE
   cases hbad:c.badge !=0 with
   |false=>rw[cond_false];exact last (by rw[hbad];rfl)
   |true=>
    rw[cond_true];refine ⟨c.kind,h.ld0 0 rfl rfl,?_⟩;refine caps_badged_spec ?_;cases hbg:badgedB c.kind with
    |true=>exact last (by rw[hbg];simp)
    |false=>
     apply hk21;rw[Bool.not_false,cond_true,cond_true];rw[hbad,hbg] at hE;simpa using hE
  cases hright:right with
  |false=>
   rw[Bool.not_false,cond_true];apply hk18;rw[cond_true];rw[hright] at hE;simpa using hE
  |true=>
   rw[Bool.not_true,cond_false];refine ⟨c.kind,h.ld0 0 rfl rfl,?_⟩;refine caps_limited_spec ?_;cases hlim:limitedB c.kind with
   |true=>rw[Bool.not_true,cond_false];exact rest (by rw[hright,hlim];simp)
   |false=>
    rw[Bool.not_false,cond_true];refine ⟨c.rights,h.ld0 0 rfl rfl,?_⟩;cases hr7:c.rights !=7 with
    |false=>exact rest (by rw[hright,hr7];simp)
    |true=>
     apply hk18;rw[cond_true];rw[hright,hlim,hr7] at hE;simpa using hE
 refine ⟨c.kind,h.ld0 0 rfl rfl,?_⟩;by_cases e1:0<c.kind
 ·rw[show decide (c.kind>0)=true from by simpa using e1,cond_true]
  refine ⟨c.kind,h.ld0 0 rfl rfl,?_⟩;by_cases e2:c.kind<10
  ·rw[show decide (c.kind<10)=true from by simpa using e2,cond_true]
   refine ⟨c.obj,h.ld0 0 rfl rfl,?_⟩;by_cases e3:0≤c.obj
   ·rw[show decide (c.obj≥0)=true from by simpa using e3,cond_true]
    refine ⟨c.obj,h.ld0 0 rfl rfl,?_⟩;by_cases e4:c.obj<2147483648
    ·rw[show decide (c.obj<2147483648)=true from by simpa using e4,cond_true]
     refine ⟨c.rights,h.ld0 0 rfl rfl,?_⟩;refine caps_rights_spec ?_;cases e5:(decide (0≤c.rights)&&decide (c.rights≤7)) with
     |false=>
      rw[cond_false];simpa [e5] using fin
     |true=>
      rw[cond_true];refine ⟨c.guard,h.ld0 0 rfl rfl,c.bits,h.ld0 0 rfl rfl,?_⟩;refine caps_guard_spec hc.g0 hc.g1 ?_;rw[show decide (0<c.kind)=true from by simpa using e1,show decide (c.kind<10)=true from by simpa using e2,show decide (0≤c.obj)=true from by simpa using e3,show decide (c.obj<2147483648)=true from by simpa using e4,e5] at fin;simpa using fin
    ·rw[show decide (c.obj<2147483648)=false from by simpa using e4,cond_false]
     rw[show decide (c.obj<2147483648)=false from by simpa using e4] at fin;simpa using fin
   ·rw[show decide (c.obj≥0)=false from by simpa using e3,cond_false]
    rw[show decide (0≤c.obj)=false from by simpa using e3] at fin;simpa using fin
  ·rw[show decide (c.kind<10)=false from by simpa using e2,cond_false]
   rw[show decide (c.kind<10)=false from by simpa using e2] at fin;simpa using fin
 ·rw[show decide (c.kind>0)=false from by simpa using e1,cond_false]
  rw[show decide (0<c.kind)=false from by simpa using e1] at fin;simpa using fin
end
end Go.Proofs.YtogmbmdbgkopjaaGreat.Sl
end
section
set_option maxRecDepth 100000
namespace Go.Proofs.YtogmbmdbgkopjaaGreat
open Go Go.Vc Go.Proofs
theorem S.qcX0 {K w}:Fr (C.qcX K w) (Al w (.map #[] 0) fun a=>Al a (.cells #[.slice none 0 0, .map (some w.heap.size)] 182) fun b=>K (some (.mk a.heap.size 0 none)) b):=okT Tryz.func41 (.v .w)
theorem S.qaX0 {a b K w}:Fr (C.qaX a b K w) (∀c:Bool->Pw,(∀(d:Bool) (e:World),(bif d then (K 0 1 e) else (∃c,a=some c/\∃d:Sl,e.cell? c=some (.slice d.a d.len d.cap)/\bif decide ((d.len:Int)≥64) then (K 0 2 e) else (∃c,a=some c/\∃d:Sl,e.cell? c=some (.slice d.a d.len d.cap)/\Al e (.cells #[.z b] 3) fun b=>∃c f,AppR Tryz.prog [26,26] 26 (.slice d.a d.len d.cap) (.slice (some (.mk e.heap.size 0 none)) 1 1) b c f/\∃b,a=some b/\St f b (.slice c.a c.len c.cap) fun b=>∃c,a=some c/\∃a:Sl,b.cell? c=some (.slice a.a a.len a.cap)/\K (IntKind.i64.wrap ((a.len:Int)-1)) 0 b)))->c d e)->(bif decide (b<1) then (c true w) else (c (decide (b>8)) w))):=okT Tryz.func46 (.v (.y (.x (.y (.r (some [(6,.c .b)]) .done) (.y .w (.v (.x .w))))) (.v .w)))
theorem S.qaY0 {a K w}:Fr (C.qaY a K w) (∃b,a=some b/\∃c,w.cell? (b.add 1)=some (.map c)/\C.qb c (fun b c=>C.qy b (.func (.func 116) #[] #[]) (fun b c=>∀d:Sl->Int->Pw,(∀(c:Sl) (e:Int) (f:World),(bif decide (e<(b.len:Int)) then (∃g,b.a=some g/\0≤e/\e<(b.len:Int)/\LdL f (g.add (e.toNat*2)) 0 [.o, .o] fun (b g:Int)=>Al f (.cells #[.z 0, .z 0] 40) fun h=>StL h (.mk f.heap.size 0 none) 0 [.z b, .z g] fun b=>Dr b fun b=>∃g,a=some g/\∃a,b.cell? (g.add 1)=some (.map a)/\LdL b (.mk f.heap.size 0 none) 0 [.o, .o] fun (g h:Int)=>LdL b (.mk f.heap.size 0 none) 0 [.o, .o] fun (i j:Int)=>(∃k,∃l,∃m,∃n,∃o,∃p,Lk1 Tryz.prog 180 (.map a) (.agg #[.z g, .z h]) (.agg #[.z k, .z l, .z m, .y n, .y o, .z p]) b/\HdL b (.mk f.heap.size 0 none) 0 [.z i, .z j] ((Al b (.cells #[.z i, .z j, .z k, .z l, .z m, .y n, .y o, .z p] 44) fun a=>(∃f g,AppR Tryz.prog [29,29] 29 (.slice c.a c.len c.cap) (.slice (some (.mk b.heap.size 0 none)) 1 1) a f g/\d f (IntKind.i64.wrap (e+1)) g)/\True)/\True))/\True) else (K c f))->d c e f)->d ⟨none,0,0⟩ 0 c) c) w):=okT Tryz.func51 (.v (.v (.y (.v (.x (.t (some [(3,.c .s),(13,.c (.i .i64))]) (.v (.y .w (.x (.x (.v (.z (.o 0 1022 (.o 2 66 (.o 3 66 (.o 4 66 (.o 5 66 (.o 6 2 (.hold 1 128 2559 (.e 7 (.o 8 0 (.e 9 (.e 10 (.o 11 0 .done)))))))))))))))))) .u))) .w)))
theorem S.qbw0 {a b c d e f g h i K w}:Fr (C.qbw a b c d e f g h i K w) (Al w (.cells #[.z b, .z c] 40) fun b=>Al b (.cells #[.z d, .z e, .z f, .y g, .y h, .z i] 42) fun c=>LdL c (.mk b.heap.size 0 none) 0 [.o, .o, .o, .u, .u, .o] fun (d e f g h i:Int)=>C.qcD d e f g h i (fun c d=>∀e:Bool->Pw,(∀(d:Bool) (f:World),(LdL f (.mk w.heap.size 0 none) 0 [.o, .o] fun (e g:Int)=>C.qN a e g (fun e f=>bif !e then (K 50 f) else (bif c !=0 then (K c f) else (∃c,f.cell? (Addr.mk b.heap.size 0 none)=some (.z c)/\bif c==0 then (K 1 f) else (bif d then (K 51 f) else (Dr f fun c=>∃d,a=some d/\∃a,c.cell? (d.add 1)=some (.map a)/\LdL c (.mk w.heap.size 0 none) 0 [.o, .o] fun (d e:Int)=>LdL c (.mk b.heap.size 0 none) 0 [.o, .o, .o, .u, .u, .o] fun (b f g h i j:Int)=>(∃k:World,UpdR Tryz.prog 180 (.map a) (.agg #[.z d, .z e]) (.agg #[.z b, .z f, .z g, .y h, .y i, .z j]) c k/\K 0 k)/\True))))) f)->e d f)->(Dr d fun b=>∃c,a=some c/\∃a,b.cell? (c.add 1)=some (.map a)/\LdL b (.mk w.heap.size 0 none) 0 [.o, .o] fun (c d:Int)=>(∃f,∃g,∃h,∃i,∃j,∃k,∃l,LkB Tryz.prog 180 (.map a) (.agg #[.z c, .z d]) (.agg #[.z f, .z g, .z h, .y i, .y j, .z k]) l b/\(Al b (.cells #[.z 0, .z 0, .z 0, .y 0, .y 0, .z 0] 42) fun a=>(StL a (.mk b.heap.size 0 none) 0 [.z f, .z g, .z h, .y i, .y j, .z k] fun a=>e l a)/\True)/\True)/\(Al b (.cells #[.z 0, .z 0, .z 0, .y 0, .y 0, .z 0] 42) fun f=>(∃g,∃h,∃i,∃j,∃k,∃l,∃m,LkB Tryz.prog 180 (.map a) (.agg #[.z c, .z d]) (.agg #[.z g, .z h, .z i, .y j, .y k, .z l]) m f/\(StL f (.mk b.heap.size 0 none) 0 [.z g, .z h, .z i, .y j, .y k, .z l] fun a=>e m a)/\True)/\True)/\True)) c):=okT Tryz.func106 (.v (.v (.y (.r (some [(9,.c .b)]) .g5) (.y (.x (.v (.y .w (.v .g40)))) .g19))))
def S.qdf (a1:Int) (a2:Int) (b3:Int) (b4:Int) (K:Int->Pw) (w:World):Prop:=Al w (.cells #[.z a1, .z a2] 40) fun w5=>Al w5 (.cells #[.z b3, .z b4] 40) fun w6=>Dr w6 fun w7=>∃node8,w7.cell? (Addr.mk w.heap.size 0 none)=some (.z node8)/\∃node9,w7.cell? (Addr.mk w5.heap.size 0 none)=some (.z node9)/\∃i10,w7.cell? ((Addr.mk w.heap.size 0 none).add 1)=some (.z i10)/\∃i11,w7.cell? ((Addr.mk w5.heap.size 0 none).add 1)=some (.z i11)/\(C.qbx node8 node9 (fun r12 w13=>w13.cell? ((Addr.mk w5.heap.size 0 none).add 1)=some (.z i11)/\w13.cell? ((Addr.mk w.heap.size 0 none).add 1)=some (.z i10)/\(C.qbx i10 i11 (fun r14 w15=>(Al w15 (.cells #[.z r12, .z r14] 3) fun w16=>(C.qcZ ⟨some (Addr.mk w15.heap.size 0 none),2,2⟩ (fun r17 w18=>K r17 w18) w16)/\True)/\True) w13)/\True) w7)/\True
theorem S.qdf0 (a1:Int) (a2:Int) (b3:Int) (b4:Int) (K:Int->Pw) (w:World) (h:S.qdf a1 a2 b3 b4 K w):C.qdf a1 a2 b3 b4 K w:=
 okS Tryz.func116 (.t none (.u) (.t none (.r none (.one 0 492 (.one 1 492 (.one 2 480 (.one 3 480 (.one 5 400 (.one 7 80 (.hold 6 272 4607 (.hold 8 16 4607 (.alt 4 (.alt 9 (.alt 10 (.alt 11 (.one 12 0 (.done)) (.none)) (.none)) (.none)) (.none))))))))))) (.u))) [(0, .c (.i .i64))] [.agg #[.z a1, .z a2], .agg #[.z b3, .z b4]] K rfl (by kernel_rfl) (by kernel_rfl) h
theorem S.qN0 {a b c K w}:Fr (C.qN a b c K w) (Al w (.cells #[.z b, .z c] 40) fun b=>∃c,b.cell? (Addr.mk w.heap.size 0 none)=some (.z c)/\C.qbc a c (fun a b c=>Dr c fun c=>bif b then (∃b,c.cell? ((Addr.mk w.heap.size 0 none).add 1)=some (.z b)/\bif decide (b≥0) then (∃b,c.cell? ((Addr.mk w.heap.size 0 none).add 1)=some (.z b)/\0≤a/\K (decide (b<(shlI .i64 1 a))) c) else (K false c)) else (K false c)) b):=okT Tryz.func189 (.v (.v (.x (.z (.o 0 0 (.o 1 0 (.o 2 0 (.o 3 0 (.o 4 0 (.o 5 0 (.o 6 0 (.o 7 1536 (.o 8 1536 .g34)))))))))))))
theorem S.qL0 {a b c K w}:Fr (C.qL a b c K w) (Al w (.cells #[.z b, .z c] 40) fun b=>Al b (.cells #[.z 0, .z 0, .z 0, .y 0, .y 0, .z 0] 42) fun c=>LdL c (.mk w.heap.size 0 none) 0 [.o, .o] fun (d e:Int)=>C.qN a d e (fun c d=>bif !c then (StL d (.mk b.heap.size 0 none) 0 [.z 0, .z 0, .z 0, .y 0, .y 0, .z 0] fun a=>LdL a (.mk b.heap.size 0 none) 0 [.o, .o, .o, .u, .u, .o] fun (b c d e f g:Int)=>K b c d e f g 50 a) else (Dr d fun c=>∃d,a=some d/\∃a,c.cell? (d.add 1)=some (.map a)/\LdL c (.mk w.heap.size 0 none) 0 [.o, .o] fun (d e:Int)=>(∃f,∃g,∃h,∃i,∃j,∃k,Lk1 Tryz.prog 180 (.map a) (.agg #[.z d, .z e]) (.agg #[.z f, .z g, .z h, .y i, .y j, .z k]) c/\(StL c (.mk b.heap.size 0 none) 0 [.z f, .z g, .z h, .y i, .y j, .z k] fun a=>LdL a (.mk b.heap.size 0 none) 0 [.o, .o, .o, .u, .u, .o] fun (b c d e f g:Int)=>K b c d e f g 0 a)/\True)/\True)) c):=okT Tryz.func200 (.v (.y (.v (.x .w)) (.x (.z (.o 0 16 (.o 1 16 (.o 2 16 (.o 3 16 (.o 4 0 (.e 5 (.e 6 (.o 7 0 .done))))))))))))
theorem S.qbG0 {a b c d e K w}:Fr (C.qbG a b c d e K w) (Al w (.cells #[.z b, .z c] 40) fun b=>Al b (.cells #[.z d, .z e] 40) fun c=>∀d:Addr->Bool->Pw,(∀(c:Addr) (e:Bool) (f:World),(∀d:Bool->Pw,(∀(f:Bool) (g:World),(∀d:Bool->Pw,(∀(g:Bool) (h:World),(bif g then (K 50 h) else (bif !e then (K 52 h) else (bif f then (K 51 h) else (Dr h fun d=>∃e,a=some e/\∃f,d.cell? (e.add 1)=some (.map f)/\LdL d (.mk w.heap.size 0 none) 0 [.o, .o] fun (e g:Int)=>(∃h:World,DelR Tryz.prog [180,40] 0 (.map f) (.agg #[.z e, .z g]) d h/\Dr h fun d=>∃e,a=some e/\∃a,d.cell? (e.add 1)=some (.map a)/\LdL d (.mk b.heap.size 0 none) 0 [.o, .o] fun (b e:Int)=>LdL d c 0 [.o, .o, .o, .u, .u, .o] fun (c f g h i j:Int)=>(∃k:World,UpdR Tryz.prog 180 (.map a) (.agg #[.z b, .z e]) (.agg #[.z c, .z f, .z g, .y h, .y i, .z j]) d k/\K 0 k)/\True)/\True))))->d g h)->(LdL g (.mk w.heap.size 0 none) 0 [.o, .o] fun (c e:Int)=>C.qN a c e (fun c e=>bif !c then (d true e) else (LdL e (.mk b.heap.size 0 none) 0 [.o, .o] fun (b c:Int)=>C.qN a b c (fun a b=>d (!a) b) e)) g))->d f g)->(Dr f fun c=>∃e,a=some e/\∃a,c.cell? (e.add 1)=some (.map a)/\LdL c (.mk b.heap.size 0 none) 0 [.o, .o] fun (b e:Int)=>(∃f,∃g,∃h,∃i,∃j,∃k,∃l,LkB Tryz.prog 180 (.map a) (.agg #[.z b, .z e]) (.agg #[.z f, .z g, .z h, .y i, .y j, .z k]) l c/\(Al c (.cells #[.z 0, .z 0, .z 0, .y 0, .y 0, .z 0] 42) fun a=>(StL a (.mk c.heap.size 0 none) 0 [.z f, .z g, .z h, .y i, .y j, .z k] fun a=>d l a)/\True)/\True)/\(Al c (.cells #[.z 0, .z 0, .z 0, .y 0, .y 0, .z 0] 42) fun f=>(∃g,∃h,∃i,∃j,∃k,∃l,∃m,LkB Tryz.prog 180 (.map a) (.agg #[.z b, .z e]) (.agg #[.z g, .z h, .z i, .y j, .y k, .z l]) m f/\(StL f (.mk c.heap.size 0 none) 0 [.z g, .z h, .z i, .y j, .y k, .z l] fun a=>d m a)/\True)/\True)/\True))->d c e f)->(Dr c fun b=>∃c,a=some c/\∃a,b.cell? (c.add 1)=some (.map a)/\LdL b (.mk w.heap.size 0 none) 0 [.o, .o] fun (c e:Int)=>(∃f,∃g,∃h,∃i,∃j,∃k,∃l,LkB Tryz.prog 180 (.map a) (.agg #[.z c, .z e]) (.agg #[.z f, .z g, .z h, .y i, .y j, .z k]) l b/\(Al b (.cells #[.z 0, .z 0, .z 0, .y 0, .y 0, .z 0] 42) fun a=>(StL a (.mk b.heap.size 0 none) 0 [.z f, .z g, .z h, .y i, .y j, .z k] fun a=>d (.mk b.heap.size 0 none) l a)/\True)/\True)/\(Al b (.cells #[.z 0, .z 0, .z 0, .y 0, .y 0, .z 0] 42) fun f=>(∃g,∃h,∃i,∃j,∃k,∃l,∃m,LkB Tryz.prog 180 (.map a) (.agg #[.z c, .z e]) (.agg #[.z g, .z h, .z i, .y j, .y k, .z l]) m f/\(StL f (.mk b.heap.size 0 none) 0 [.z g, .z h, .z i, .y j, .y k, .z l] fun a=>d (.mk b.heap.size 0 none) m a)/\True)/\True)/\True)):=okT Tryz.func206 (.v (.y (.r (some [(7,.c .q),(8,.c .b)]) .g5) (.y (.r (some [(10,.c .b)]) .g5) (.y (.x (.y (.r (some [(29,.c .b)]) .done) .g40)) (.y .g25 .g19)))))
theorem S.qbc0 {a b K w}:Fr (C.qbc a b K w) (∀c:Bool->Pw,(∀(d:Bool) (e:World),(bif d then (K 0 false e) else (∃c,a=some c/\∃a:Sl,e.cell? c=some (.slice a.a a.len a.cap)/\∃c,a.a=some c/\0≤b/\b<(a.len:Int)/\∃a,e.cell? (c.add (b.toNat*1))=some (.z a)/\K a true e))->c d e)->(bif decide (b<0) then (c true w) else (∃d,a=some d/\∃e:Sl,w.cell? d=some (.slice e.a e.len e.cap)/\bif decide (b≥(e.len:Int)) then (c true w) else (∃d,a=some d/\∃a:Sl,w.cell? d=some (.slice a.a a.len a.cap)/\∃d,a.a=some d/\0≤b/\b<(a.len:Int)/\∃a,w.cell? (d.add (b.toNat*1))=some (.z a)/\c (a==(-1)) w)))):=okT Tryz.func264 (.v (.y (.y .g47 (.x .w)) .w))
theorem S.qbe0 {a b c K w}:Fr (C.qbe a b c K w) (Al w (.cells #[.z b, .z c] 40) fun b=>Al b (.cells #[.z 0, .z 0, .z 0, .y 0, .y 0, .z 0] 42) fun c=>∀d:Addr->Bool->Pw,(∀(c:Addr) (e:Bool) (f:World),(LdL f (.mk w.heap.size 0 none) 0 [.o, .o] fun (d g:Int)=>C.qN a d g (fun d f=>bif !d then (StL f (.mk b.heap.size 0 none) 0 [.z 0, .z 0, .z 0, .y 0, .y 0, .z 0] fun a=>LdL a (.mk b.heap.size 0 none) 0 [.o, .o, .o, .u, .u, .o] fun (b c d e f g:Int)=>K b c d e f g 50 a) else (bif !e then (StL f (.mk b.heap.size 0 none) 0 [.z 0, .z 0, .z 0, .y 0, .y 0, .z 0] fun a=>LdL a (.mk b.heap.size 0 none) 0 [.o, .o, .o, .u, .u, .o] fun (b c d e f g:Int)=>K b c d e f g 52 a) else (Dr f fun d=>∃e,a=some e/\∃a,d.cell? (e.add 1)=some (.map a)/\LdL d (.mk w.heap.size 0 none) 0 [.o, .o] fun (e f:Int)=>(∃g:World,DelR Tryz.prog [180,40] 0 (.map a) (.agg #[.z e, .z f]) d g/\LdL g c 0 [.o, .o, .o, .u, .u, .o] fun (a c d e f h:Int)=>StL g (.mk b.heap.size 0 none) 0 [.z a, .z c, .z d, .y e, .y f, .z h] fun a=>LdL a (.mk b.heap.size 0 none) 0 [.o, .o, .o, .u, .u, .o] fun (b c d e f g:Int)=>K b c d e f g 0 a)/\True))) f)->d c e f)->(Dr c fun b=>∃c,a=some c/\∃a,b.cell? (c.add 1)=some (.map a)/\LdL b (.mk w.heap.size 0 none) 0 [.o, .o] fun (c e:Int)=>(∃f,∃g,∃h,∃i,∃j,∃k,∃l,LkB Tryz.prog 180 (.map a) (.agg #[.z c, .z e]) (.agg #[.z f, .z g, .z h, .y i, .y j, .z k]) l b/\(Al b (.cells #[.z 0, .z 0, .z 0, .y 0, .y 0, .z 0] 42) fun a=>(StL a (.mk b.heap.size 0 none) 0 [.z f, .z g, .z h, .y i, .y j, .z k] fun a=>d (.mk b.heap.size 0 none) l a)/\True)/\True)/\(Al b (.cells #[.z 0, .z 0, .z 0, .y 0, .y 0, .z 0] 42) fun f=>(∃g,∃h,∃i,∃j,∃k,∃l,∃m,LkB Tryz.prog 180 (.map a) (.agg #[.z c, .z e]) (.agg #[.z g, .z h, .z i, .y j, .y k, .z l]) m f/\(StL f (.mk b.heap.size 0 none) 0 [.z g, .z h, .z i, .y j, .y k, .z l] fun a=>d (.mk b.heap.size 0 none) m a)/\True)/\True)/\True)):=okT Tryz.func285 (.v (.y (.r (some [(6,.c .q),(7,.c .b)]) .g5) (.y .g48 .g23)))
theorem S.qbZ0 {K w}:Fr (C.qbZ K w) (Al w (.cells #[.z 0, .map none, .z 0, .map none, .z 0, .map none, .z 0, .map none, .z 0, .map none, .z 0, .map none, .z 0, .map none, .z 0, .map none, .z 0, .map none, .z 0, .map none, .z 0, .map none, .z 0, .map none, .z 0, .map none, .z 0, .map none, .z 0, .map none, .z 0, .map none, .z 0, .map none, .z 0, .map none, .z 0, .map none, .z 0, .map none, .z 0, .map none, .z 0, .map none, .z 0, .map none, .z 0, .map none, .z 0, .map none, .z 0, .map none, .z 0, .map none, .z 0, .map none, .z 0, .map none, .z 0, .map none, .z 0, .map none, .z 0, .map none, .z 0, .map none, .z 0, .map none, .z 0, .map none, .z 0, .map none, .z 0, .map none, .z 0, .map none, .z 0, .map none, .z 0, .map none, .z 0, .map none, .z 0, .map none, .z 0, .map none, .z 0, .map none, .z 0, .map none, .z 0, .map none, .z 0, .map none, .z 0, .map none, .z 0, .map none, .z 0, .map none, .z 0, .map none, .z 0, .map none, .z 0, .map none, .z 0, .map none, .z 0, .map none, .z 0, .map none, .z 0, .map none, .z 0, .map none, .z 0, .map none, .z 0, .map none, .z 0, .map none, .z 0, .map none, .z 0, .map none, .z 0, .map none] 191) fun a=>K (some (.mk w.heap.size 0 none)) a):=okT Tryz.func43 (.v .w)
theorem S.qas0 {a K w}:Fr (C.qas a K w) (∃b,a=some b/\∃a:Array Value,a.size=128/\(∀c,c<128->w.cell? (b.add c)=a[c]?)/\∀b:Sl->Int->Pw,(∀(c:Sl) (d:Int) (e:World),(bif decide (d<64) then (0≤d/\d<64/\∃f,(a:Array Value)[d.toNat*2+0]?=some (.z f)/\∃g,(a:Array Value)[d.toNat*2+1]?=some (.map g)/\Al e (.cells #[.z 0, .map none] 188) fun a=>StL a (.mk e.heap.size 0 none) 0 [.z f, .map g] fun a=>LdL a (.mk e.heap.size 0 none) 0 [.o, .m] fun (e:Int) (f:Option Nat)=>C.qE e f (fun a e=>∃f g,AppR Tryz.prog [56,56] 56 (.slice c.a c.len c.cap) (.slice a.a a.len a.cap) e f g/\b f (IntKind.i64.wrap (d+1)) g) a) else (K c e))->b c d e)->b ⟨none,0,0⟩ 0 w):=okT Tryz.func58 (.v (.v (.y (.v (.x (.t (some [(3,.c .s),(10,.c (.i .i64))]) .g52 .u))) .w)))
theorem S.qE0 {a b K w}:Fr (C.qE a b K w) (Al w (.cells #[.z a, .map b] 188) fun a=>∃b,a.cell? ((Addr.mk w.heap.size 0 none).add 1)=some (.map b)/\C.qG b (fun a b=>C.qcM a (fun a b=>∀c:Sl->Int->Pw,(∀(b:Sl) (d:Int) (e:World),(bif decide (d<(a.len:Int)) then (∃f,a.a=some f/\0≤d/\d<(a.len:Int)/\∃a,e.cell? (f.add (d.toNat*1))=some (.z a)/\∃f,e.cell? ((Addr.mk w.heap.size 0 none).add 1)=some (.map f)/\∃g,∃h,Lk1 Tryz.prog 186 (.map f) (.z a) (.agg #[.z g, .z h]) e/\Al e (.cells #[.z a, .z g, .z h] 61) fun a=>∃f g,AppR Tryz.prog [56,56] 56 (.slice b.a b.len b.cap) (.slice (some (.mk e.heap.size 0 none)) 1 1) a f g/\c f (IntKind.i64.wrap (d+1)) g) else (K b e))->c b d e)->c ⟨none,0,0⟩ 0 b) b) a):=okT Tryz.func136 (.v (.v (.y (.v (.x (.t (some [(3,.c .s),(11,.c (.i .i64))]) .g52 .u))) .w)))
theorem S.qaW0 {a b c K w}:Fr (C.qaW a b c K w) (Al w (.cells #[.z c] 3) fun c=>∀d:Bool->Pw,(∀(c:Bool) (e:World),(bif c then (K 1 e) else (∀c:Bool->Pw,(∀(d:Bool) (e:World),(bif d then (K 140 e) else (Dr e fun c=>∃d,c.cell? (Addr.mk w.heap.size 0 none)=some (.z d)/\∃e,a=some e/\(Al c (.map #[] 0) fun a=>0≤b/\b<64/\(StL a (e.add (b.toNat*2)) 0 [.z d, .map (some c.heap.size)] fun a=>K 0 a)/\True)/\True))->c d e)->(∃d,a=some d/\0≤b/\b<64/\∃f,e.cell? ((d.add (b.toNat*2)).add 1)=some (.map f)/\bif !f.isNone then (c true e) else (∃b,a=some b/\C.qd ⟨slA (some b) 0 64 2,64-0,64-0⟩ (.func (.func 300) #[] #[.pointer (some (.mk w.heap.size 0 none))]) (fun a b=>c a b) e))))->d c e)->(C.qbX b (fun a b=>bif !a then (d true b) else (∃a,b.cell? (Addr.mk w.heap.size 0 none)=some (.z a)/\d (decide (a<0)) b)) c)):=okT Tryz.func221 (.v (.y .g37 (.v (.y (.y (.r (some [(31,.c .b)]) .done) (.x .w)) (.y (.z (.o 0 30 (.o 1 124 (.o 2 104 (.o 5 24 (.o 6 24 (.e 3 (.o 4 0 (.o 7 0 (.e 8 .done)))))))))) .w)))))
theorem S.qbb0 {a b c d K w}:Fr (C.qbb a b c d K w) (Al w (.cells #[.z c, .z d] 59) fun c=>∀d:Bool->Pw,(∀(c:Bool) (e:World),(bif c then (K 1 e) else (C.qaP a b (fun a c d=>bif !c then (K 141 d) else (∃c,a=some c/\∃e,d.cell? (c.add 1)=some (.map e)/\∃c,∃f,∃g,LkB Tryz.prog 186 (.map e) (.z b) (.agg #[.z c, .z f]) g d/\Al d (.cells #[.z 0, .z 0] 59) fun e=>StL e (.mk d.heap.size 0 none) 0 [.z c, .z f] fun c=>bif g then (K 140 c) else (Dr c fun c=>∃d,a=some d/\∃a,c.cell? (d.add 1)=some (.map a)/\LdL c (.mk w.heap.size 0 none) 0 [.o, .o] fun (d e:Int)=>(∃f:World,UpdR Tryz.prog 186 (.map a) (.z b) (.agg #[.z d, .z e]) c f/\K 0 f)/\True))) e))->d c e)->(C.qcn b (fun a b=>bif !a then (d true b) else (∃a,b.cell? (Addr.mk w.heap.size 0 none)=some (.z a)/\bif decide (a<0) then (d true b) else (∃a,b.cell? ((Addr.mk w.heap.size 0 none).add 1)=some (.z a)/\C.qcB a (fun a b=>d (!a) b) b))) c)):=okT Tryz.func222 (.v (.y (.y (.r (some [(24,.c .b)]) .done) (.x .w)) (.v (.y (.v (.x .w)) (.y (.v (.v (.x .w))) .g19)))))
theorem S.qai0 {a b K w}:Fr (C.qai a b K w) (Al w (.cells #[.z 0, .z 0] 59) fun c=>C.qcn b (fun c d=>bif !c then (StL d (.mk w.heap.size 0 none) 0 [.z 0, .z 0] fun a=>LdL a (.mk w.heap.size 0 none) 0 [.o, .o] fun (b c:Int)=>K b c 1 a) else (C.qbt a b (fun c d e f=>Al f (.cells #[.z 0, .z 0] 59) fun g=>StL g (.mk f.heap.size 0 none) 0 [.z c, .z d] fun c=>bif !e then (StL c (.mk w.heap.size 0 none) 0 [.z 0, .z 0] fun a=>LdL a (.mk w.heap.size 0 none) 0 [.o, .o] fun (b c:Int)=>K b c 141 a) else (C.qaP a b (fun a _ d=>∃c,a=some c/\∃a,d.cell? (c.add 1)=some (.map a)/\∃c:World,DelR Tryz.prog [186,3] 0 (.map a) (.z b) d c/\LdL c (.mk f.heap.size 0 none) 0 [.o, .o] fun (a b:Int)=>StL c (.mk w.heap.size 0 none) 0 [.z a, .z b] fun a=>LdL a (.mk w.heap.size 0 none) 0 [.o, .o] fun (b c:Int)=>K b c 0 a) c)) d)) c):=okT Tryz.func223 (.v (.y (.v (.x .w)) .g39))
theorem S.qbX0 {a K w}:Fr (C.qbX a K w) (bif decide (a≥0) then (K (decide (a<64)) w) else (K false w)):=okT Tryz.func299 (.v .w)
theorem S.qbf0 {a b c K w}:Fr (C.qbf a b c K w) (Al w (.cells #[.z a, .map b] 188) fun a=>∃b,a.cell? ((Addr.mk w.heap.size 0 none).add 1)=some (.map b)/\bif !b.isNone then (∃b,a.cell? (Addr.mk w.heap.size 0 none)=some (.z b)/\∃d,a.cell? c=some (.z d)/\K (b==d) a) else (K false a)):=okT Tryz.func300 (.v .w)
theorem S.qcn0 {a K w}:Fr (C.qcn a K w) (bif decide (a≥0) then (K (decide (a<4096)) w) else (K false w)):=okT Tryz.func302 (.v .w)
theorem S.qcB0 {a K w}:Fr (C.qcB a K w) (bif decide (a≥0) then (K (decide (a≤7)) w) else (K false w)):=okT Tryz.func303 (.v .w)
theorem S.qaP0 {a b K w}:Fr (C.qaP a b K w) (C.qbN (IntKind.u64.wrap b) 6 6 (fun b _ d=>Dr d fun c=>∃d,a=some d/\0≤b/\b<64/\∃e,a=some e/\0≤b/\b<64/\∃a,c.cell? ((e.add (b.toNat*2)).add 1)=some (.map a)/\K (some (d.add (b.toNat*2))) (!a.isNone) c) w):=okT Tryz.func304 (.v (.v (.x (.z (.o 0 8162 (.o 1 8172 (.o 2 8160 (.o 3 8160 (.o 4 8160 (.o 5 8256 (.o 6 8576 (.o 7 8192 (.o 8 8192 (.o 9 8192 (.o 10 8192 (.o 11 8192 (.o 12 8192 (.o 13 0 (.o 14 0 .done)))))))))))))))))))
theorem S.qbt0 {a b K w}:Fr (C.qbt a b K w) (Al w (.cells #[.z 0, .z 0] 59) fun c=>C.qcn b (fun c d=>bif !c then (StL d (.mk w.heap.size 0 none) 0 [.z 0, .z 0] fun a=>LdL a (.mk w.heap.size 0 none) 0 [.o, .o] fun (b c:Int)=>K b c false a) else (C.qaP a b (fun a _ d=>∃c,a=some c/\∃a,d.cell? (c.add 1)=some (.map a)/\∃c,∃e,∃f,LkB Tryz.prog 186 (.map a) (.z b) (.agg #[.z c, .z e]) f d/\Al d (.cells #[.z 0, .z 0] 59) fun a=>StL a (.mk d.heap.size 0 none) 0 [.z c, .z e] fun a=>LdL a (.mk d.heap.size 0 none) 0 [.o, .o] fun (b c:Int)=>StL a (.mk w.heap.size 0 none) 0 [.z b, .z c] fun a=>LdL a (.mk w.heap.size 0 none) 0 [.o, .o] fun (b c:Int)=>K b c f a) d)) c):=okT Tryz.func305 .g39
theorem S.qaJ0 {a b K w}:Fr (C.qaJ a b K w) (C.qas a (fun a c=>∀d:Sl->Int->Pw,(∀(c:Sl) (e:Int) (f:World),(bif decide (e<(a.len:Int)) then (∃g,a.a=some g/\0≤e/\e<(a.len:Int)/\LdL f (g.add (e.toNat*3)) 0 [.o, .o, .o] fun (a g h:Int)=>Al f (.cells #[.z 0, .z 0, .z 0] 61) fun i=>StL i (.mk f.heap.size 0 none) 0 [.z a, .z g, .z h] fun a=>∃g,a.cell? ((Addr.mk f.heap.size 0 none).add 1)=some (.z g)/\bif g==b then (∃b,a.cell? (Addr.mk f.heap.size 0 none)=some (.z b)/\Al a (.cells #[.z b] 3) fun b=>∃f g,AppR Tryz.prog [26,26] 26 (.slice c.a c.len c.cap) (.slice (some (.mk a.heap.size 0 none)) 1 1) b f g/\d f (IntKind.i64.wrap (e+1)) g) else (d c (IntKind.i64.wrap (e+1)) a)) else (K c f))->d c e f)->d ⟨none,0,0⟩ 0 c) w):=okT Tryz.func336 (.v (.v (.y (.v (.x (.t (some [(5,.c .s),(11,.c (.i .i64))]) (.v (.y .w (.x (.x (.v (.v .w)))))) .u))) .w)))
theorem S.qbM0 {a b K w}:Fr (C.qbM a b K w) (∀c:Bool->Pw,(∀(d:Bool) (e:World),(bif d then (K 0 false e) else (∃c,a=some c/\0≤b/\b<64/\∃a,e.cell? (c.add (b.toNat*2))=some (.z a)/\K a true e))->c d e)->(C.qbX b (fun d e=>bif !d then (c true e) else (∃d,a=some d/\0≤b/\b<64/\∃a,e.cell? ((d.add (b.toNat*2)).add 1)=some (.map a)/\c a.isNone e)) w)):=okT Tryz.func337 (.v (.y (.y (.r (some [(18,.c .b)]) .done) (.x .w)) .w))
theorem S.qbv0 {a b K w}:Fr (C.qbv a b K w) (C.qbX b (fun c d=>bif !c then (K ⟨none,0,0⟩ 1 d) else (∃c,a=some c/\0≤b/\b<64/\∃e,d.cell? ((c.add (b.toNat*2)).add 1)=some (.map e)/\bif e.isNone then (K ⟨none,0,0⟩ 141 d) else (∃c,a=some c/\0≤b/\b<64/\LdL d (c.add (b.toNat*2)) 0 [.o, .m] fun (c:Int) (e:Option Nat)=>C.qE c e (fun c d=>∃e,a=some e/\0≤b/\b<64/\StL d (e.add (b.toNat*2)) 0 [.z 0, .map none] fun a=>K c 0 a) d))) w):=okT Tryz.func338 (.v (.y .g48 (.v (.v .w))))
end Go.Proofs.YtogmbmdbgkopjaaGreat
end
section
set_option maxRecDepth 8000
namespace Go.Proofs.YtogmbmdbgkopjaaGreat.Sl
open Go Go.Vc Go.Proofs
abbrev Slot:=Int × Int
abbrev Hs:=Slot->Option Cap
abbrev slV (s:Sl):Value:= .slice s.a s.len s.cap
def sizeN (bits:List Int) (n:Int):Option Int:=if n<0 then none else match bits[n.toNat]? with|some z=>if z= -1 then none else some z|none=>none
def thereB (bits:List Int) (s:Slot):Bool:=match sizeN bits s.1 with|some z=>decide (0≤s.2/\s.2<2^z.toNat)|none=>false
structure NOk (bits:List Int) (H:Hs):Prop where
 few:bits.length≤64
 rng:∀z∈bits,z= -1∨(1≤z/\z≤8)
 held:∀s c,H s=some c->thereB bits s=true/\capErr c=0/\c.kind≠0/\CapR c
def updH (H:Hs) (s:Slot) (o:Option Cap):Hs:=fun k=>if k=s then o else H k
structure Nx where
 s:Sl
 m:Nat
 M:List (Slot × Cap)
abbrev slotsA (m:Nat) (M:List (Slot × Cap)):Asn:=MapA encPair encCap m M
def NodesA (b:Nat) (bits:List Int) (H:Hs):Asn:=ExA fun x:Nx=>StarA [PureA (NOk bits H/\∀k,mget x.M k=H k),BlkA b [slV x.s, .map (some x.m)],SlT intE x.s bits,slotsA x.m x.M]
theorem sizeN_some {bits:List Int} {n z:Int} (h:sizeN bits n=some z):0≤n/\bits[n.toNat]?=some z/\z≠ -1:=by
 unfold sizeN at h;split at h
 ·cases h
 ·split at h
  ·split at h
   ·cases h
   ·cases h;exact ⟨by omega,by assumption,by assumption⟩
  ·cases h
theorem sizeN_rng {bits:List Int} {H:Hs} (hk:NOk bits H) {n z:Int} (h:sizeN bits n=some z):1≤z/\z≤8:=by
 obtain ⟨_,h2,h3⟩:=sizeN_some h;rcases hk.rng z (List.mem_of_getElem? h2) with e|e
 ·exact absurd e h3
 ·exact e
theorem keySlot:KeyOk Tryz.prog 40 encPair:=
 keyOk_pair Tryz.underlying40 Tryz.underlying3 Tryz.underlying3 (by decide) (by decide) rfl rfl (fun a b c d=>by kernel_rfl)
theorem zeroCapV (w:World):(zeroValue 42).run Tryz.prog w= .ok (encCap zeroCap) w:=Tryz.zeroValue42 w
section
variable {B:Nat} {w0 w:World} {R L:List Asn} {b:Nat} {bits:List Int} {H:Hs}
theorem _root_.Go.Vc.Own.nodes (h:Own B w0 w (NodesA b bits H::R)):∃x:Nx,NOk bits H/\(∀k,mget x.M k=H k)/\Own B w0 w (BlkA b [slV x.s, .map (some x.m)]::SlT intE x.s bits::slotsA x.m x.M::R):=by
 obtain ⟨x,h⟩:=h.ex;obtain ⟨⟨h1,h2⟩,h⟩:=Own.pure h.star;exact ⟨x,h1,h2,h⟩
theorem _root_.Go.Vc.Own.mk_nodes {s:Sl} {m:Nat} {M:List (Slot × Cap)} (h1:NOk bits H) (h2:∀k,mget M k=H k) (h:Own B w0 w (BlkA b [slV s, .map (some m)]::SlT intE s bits::slotsA m M::R)):Own B w0 w (NodesA b bits H::R):=
 Own.mk_ex ⟨s,m,M⟩ (Own.mk_star (Own.mk_pure ⟨h1,h2⟩ h))
theorem _root_.Go.Vc.Own.nok (h:Own B w0 w (NodesA b bits H::R)):NOk bits H:=by obtain ⟨_,h,_⟩:=h.nodes;exact h
theorem slots_New_spec {K:Option Addr->Pw} (h:Own B w0 w R) (hK:∀b w',Own B w0 w' (NodesA b [] (fun _=>none)::R)->K (some ⟨b,0,none⟩) w'):C.qcX K w:=by
 apply S.qcX0;refine h.alMap encPair encCap fun w1 h=>?_
 refine h.al fun w2 h=>?_
 refine hK _ w2 (Own.mk_nodes (s:=⟨none,0,0⟩) (m:=w.heap.size) (M:=[]) ⟨by simp,by simp,fun s c h=>by cases h⟩ (fun k=>rfl) ?_);exact (Own.nilS h).perm (List.Perm.swap _ _ _)
theorem slots_Nodes_Size_spec {n:Int} {K:Int->Bool->Pw} (h:Own B w0 w L) (i:Nat) (hi:L[i]?=some (NodesA b bits H)) (hK:K ((sizeN bits n).getD 0) (sizeN bits n).isSome w):C.qbc (some ⟨b,0,none⟩) n K w:=by
 apply S.qbc0;obtain ⟨x,hk,hM,h⟩:=(h.take i hi).nodes;have hlen:=h.len 1 rfl;intro k3 hk3;by_cases h0:n<0
 ·rw[show decide (n<0)=true from by simpa using h0,cond_true]
  apply hk3;rw[cond_true];have:sizeN bits n=none:=by unfold sizeN;rw[if_pos h0]
  rw[this] at hK;exact hK
 rw[show decide (n<0)=false from by simpa using h0,cond_false];refine ⟨_,rfl,x.s,h.ld0 0 rfl rfl,?_⟩;by_cases h1:(x.s.len:Int)≤n
 ·rw[show decide (n≥(x.s.len:Int))=true from by simpa using h1,cond_true]
  apply hk3;rw[cond_true]
  have:sizeN bits n=none:=by
   unfold sizeN;rw[if_neg h0,List.getElem?_eq_none (by omega)]
  rw[this] at hK;exact hK
 rw[show decide (n≥(x.s.len:Int))=false from by simpa using h1,cond_false];have hz:bits[n.toNat]?=some bits[n.toNat]:=gE (by omega);obtain ⟨a,ha,hc⟩:=h.getI 1 rfl hz;refine ⟨_,rfl,x.s,h.ld0 0 rfl rfl,a,ha,by omega,by omega,_,hc,?_⟩;apply hk3;by_cases e:bits[n.toNat]= -1
 ·rw[show (bits[n.toNat]== -1)=true from by simpa using e,cond_true]
  have:sizeN bits n=none:=by unfold sizeN;rw[if_neg h0,hz];simp[e]
  rw[this] at hK;exact hK
 ·rw[show (bits[n.toNat]== -1)=false from by simpa using e,cond_false]
  have:sizeN bits n=some bits[n.toNat]:=by unfold sizeN;rw[if_neg h0,hz];simp[e]
  rw[this] at hK;exact ⟨_,rfl,x.s,h.ld0 0 rfl rfl,a,ha,by omega,by omega,_,hc,hK⟩
theorem shl_two (z:Nat) (hz:z≤62):shlI .i64 1 (z:Int)=((2^z:Nat):Int):=by
 unfold shlI;rw[Int.toNat_natCast,show IntKind.i64.bits=64 from rfl,Nat.min_eq_left (by omega),Int.one_mul,show ((2:Int)^z)=((2^z:Nat):Int) from by simp];have hp:(2:Nat)^62=4611686018427387904:=by decide
 have:2^z≤2^62:=Nat.pow_le_pow_right (by omega) hz;rw[hp] at this;generalize 2^z=y at*
 exact wr (by omega) (by omega)
theorem slots_Nodes_there_spec {s:Slot} {K:Bool->Pw} (h:Own B w0 w L) (i:Nat) (hi:L[i]?=some (NodesA b bits H)) (hK:∀w',Own B w0 w' L->K (thereB bits s) w'):C.qN (some ⟨b,0,none⟩) s.1 s.2 K w:=by
 apply S.qN0;have hk:=(h.take i hi).nok;refine h.al fun w1 h=>?_
 refine ⟨s.1,h.ld0 0 rfl rfl,?_⟩;refine slots_Nodes_Size_spec h (i+1) (by simpa using hi) ?_;refine h.dr fun w2 h=>?_
 cases hz:sizeN bits s.1 with
 |none=>
  rw[Option.isSome_none,cond_false];have:thereB bits s=false:=by unfold thereB;rw[hz]
  rw[←this];exact hK w2 h.drop
 |some z=>
  have hr:=sizeN_rng hk hz;rw[Option.isSome_some,cond_true,Option.getD_some];refine ⟨s.2,h.ld 0 rfl rfl,?_⟩;have hth:thereB bits s=decide (0≤s.2/\s.2<2^z.toNat):=by unfold thereB;rw[hz]
  by_cases e:0≤s.2
  ·rw[show decide (s.2≥0)=true from by simpa using e,cond_true]
   refine ⟨s.2,h.ld 0 rfl rfl,by omega,?_⟩;obtain ⟨y,rfl⟩:=Int.eq_ofNat_of_zero_le (by omega:0≤z);rw[shl_two y (by omega)]
   have:decide (s.2<((2^y:Nat):Int))=thereB bits s:=by
    rw[hth,decide_eq_decide,Int.toNat_natCast,show ((2:Int)^y)=((2^y:Nat):Int) from by simp];exact ⟨fun h=>⟨e,h⟩,fun h=>h.2⟩
   rw[this];exact hK w2 h.drop
  ·rw[show decide (s.2≥0)=false from by simpa using e,cond_false]
   have:thereB bits s=false:=by rw[hth,decide_eq_false];rintro ⟨h1,_⟩;exact e h1
   rw[←this];exact hK w2 h.drop
end
theorem app1_intsV {B:Nat} {w0 w:World} {L:List Asn} {s:Sl} {xs:List Int} {y:Int} {c:Nat} {k:Sl->Pw} (h:Own B w0 w (BlkA c [.z y]::L)) (i:Nat) (hL:L[i]?=some (SlT intE s xs))
  (hbig:xs.length≤1000000000000) (hk:∀s' w',s'.len=xs.length+1->Own B w0 w' (L.set i (SlT intE s' (xs++ [y])))->k s' w'):
  ∃s' w',AppR Tryz.prog [26,26] 26 (.slice s.a s.len s.cap) (.slice (some (Addr.mk c 0 none)) 1 1) w s' w'/\k s' w':=
 Own.app1 (E:=intE) (y:=y) Tryz.underlying26 (show Tryz.prog.info? 3=some Tryz.t3 from by kernel_rfl) (zv:= .z 0) (by kernel_rfl) (by kernel_rfl) rfl (by decide) h i hL (by
  have e:Tryz.t3.bytes=8:=by kernel_rfl
  rw[e];omega) hk
def makeN (bits:List Int) (z:Int):Int × Int × List Int:=if z<1∨8<z then (0,1,bits) else if 64≤bits.length then (0,2,bits) else ((bits.length:Int),0,bits++ [z])
theorem sizeN_append {bits:List Int} {n z y:Int} (h:sizeN bits n=some z):sizeN (bits++ [y]) n=some z:=by
 obtain ⟨h1,h2,h3⟩:=sizeN_some h;unfold sizeN;rw[if_neg (by omega),List.getElem?_append_left (List.getElem?_eq_some_iff.1 h2).1,h2];simp[h3]
theorem there_append {bits:List Int} {s:Slot} {y:Int} (h:thereB bits s=true):thereB (bits++ [y]) s=true:=by
 unfold thereB at h⊢;cases hz:sizeN bits s.1 with
 |none=>rw[hz] at h;cases h
 |some z=>rw[hz] at h;rw[sizeN_append hz];exact h
theorem NOk.make {bits:List Int} {H:Hs} (h:NOk bits H) {z:Int} (h1:1≤z) (h2:z≤8) (hf:bits.length<64):NOk (bits++ [z]) H:=by
 refine ⟨by simp;omega,fun y hy=>?_,fun s c hs=>?_⟩
 ·rcases List.mem_append.1 hy with hy|hy
  ·exact h.rng y hy
  ·simp only[List.mem_singleton] at hy;subst hy;exact .inr ⟨h1,h2⟩
 ·obtain ⟨g1,g2⟩:=h.held s c hs
  exact ⟨there_append g1,g2⟩
section
variable {B:Nat} {w0 w:World} {R L:List Asn} {b:Nat} {bits:List Int} {H:Hs}
theorem slots_Nodes_Make_spec {z:Int} {K:Int->Int->Pw} (h:Own B w0 w (NodesA b bits H::R)) (hK:∀w',Own B w0 w' (NodesA b (makeN bits z).2.2 H::R)->K (makeN bits z).1 (makeN bits z).2.1 w'):C.qaX (some ⟨b,0,none⟩) z K w:=by
 apply S.qaX0;intro k3 hk3;by_cases h0:z<1
 ·rw[show decide (z<1)=true from by simpa using h0,cond_true]
  apply hk3;rw[cond_true];have e:makeN bits z=(0,1,bits):=by unfold makeN;rw[if_pos (.inl h0)]
  rw[e] at hK;exact hK w h
 rw[show decide (z<1)=false from by simpa using h0,cond_false];apply hk3;by_cases h1:8<z
 ·rw[show decide (z>8)=true from by simpa using h1,cond_true]
  have e:makeN bits z=(0,1,bits):=by unfold makeN;rw[if_pos (.inr h1)]
  rw[e] at hK;exact hK w h
 rw[show decide (z>8)=false from by simpa using h1,cond_false];obtain ⟨x,hk,hM,h⟩:=h.nodes;have hlen:=h.len 1 rfl;have hfew:=hk.few;refine ⟨_,rfl,x.s,h.ld0 0 rfl rfl,?_⟩;by_cases h2:64≤bits.length
 ·rw[show decide ((x.s.len:Int)≥64)=true from by simp;omega,cond_true]
  have e:makeN bits z=(0,2,bits):=by unfold makeN;rw[if_neg (by omega),if_pos h2]
  rw[e] at hK;exact hK w (Own.mk_nodes hk hM h)
 ·rw[show decide ((x.s.len:Int)≥64)=false from by simp;omega,cond_false]
  have e:makeN bits z=((bits.length:Int),0,bits++ [z]):=by unfold makeN;rw[if_neg (by omega),if_neg h2]
  rw[e] at hK;refine ⟨_,rfl,x.s,h.ld0 0 rfl rfl,?_⟩;refine h.al fun w1 h=>?_
  refine app1_intsV h 1 rfl (by omega) fun s' w2 hs' h=>?_
  refine ⟨_,rfl,?_⟩;refine h.st 0 rfl rfl rfl fun w3 h=>?_
  refine ⟨_,rfl,s',h.ld0 0 rfl rfl,?_⟩;have e2:IntKind.i64.wrap ((s'.len:Int)-1)=(bits.length:Int):=by rw[wr (by omega) (by omega)];omega
  rw[e2];exact hK w3 (Own.mk_nodes (s:=s') (hk.make (by omega) (by omega) (by omega)) hM h)
theorem slots_Nodes_Get_spec {s:Slot} {K:Int->Int->Int->Int->Int->Int->Int->Pw} (h:Own B w0 w L) (i:Nat) (hi:L[i]?=some (NodesA b bits H))
  (h1:thereB bits s=false->∀w',Own B w0 w' L->K 0 0 0 0 0 0 50 w')
  (h2:thereB bits s=true->∀w' c,c=(H s).getD zeroCap->Own B w0 w' L->K c.kind c.obj c.rights c.badge c.guard c.bits 0 w'):C.qL (some ⟨b,0,none⟩) s.1 s.2 K w:=by
 apply S.qL0;refine h.al fun w1 h=>?_
 refine h.al fun w2 h=>?_
 refine h.ld_2 1 rfl rfl ?_;refine slots_Nodes_there_spec h (i+2) (by simpa using hi) fun w3 h=>?_
 cases ht:thereB bits s with
 |false=>
  rw[Bool.not_false,cond_true];refine h.stL 0 rfl rfl rfl fun w4 h=>?_
  refine h.ld_6 0 rfl rfl ?_;exact h1 ht w4 h.drop.drop
 |true=>
  rw[Bool.not_true,cond_false];refine h.dr fun w4 h=>?_
  have hn:Own B w0 w4 (NodesA b bits H::(BlkA w1.heap.size [.z 0, .z 0, .z 0, .y 0, .y 0, .z 0]::BlkA w.heap.size [.z s.1, .z s.2]::L).eraseIdx (i+2)):=h.take (i+2) (by simpa using hi);obtain ⟨x,hk,hM,hn⟩:=hn.nodes;refine ⟨_,rfl,some x.m,hn.ld 0 rfl rfl,?_⟩;refine h.ld_2 1 rfl rfl ?_
  have hl:Lk1 Tryz.prog 180 (.map (some x.m)) (encPair s) (encCap ((H s).getD zeroCap)) w4:=by
   cases hs:H s with
   |none=>exact (hn.mlook0 Tryz.underlying180 keySlot zeroCapV 2 rfl (by rw[hM,hs])).2
   |some c=>exact (hn.mlook Tryz.underlying180 keySlot 2 rfl (by rw[hM,hs];rfl)).2
  generalize hc:(H s).getD zeroCap=c at hl;refine ⟨⟨c.kind,c.obj,c.rights,c.badge,c.guard,c.bits,hl,?_,trivial⟩,trivial⟩;refine h.stL 0 rfl rfl rfl fun w5 h=>?_
  refine h.ld_6 0 rfl rfl ?_;exact h2 ht w5 c hc.symm h.drop.drop
theorem look2 {s:Slot} {m:Nat} {M:List (Slot × Cap)} {k:Addr->Bool->Pw} (h:Own B w0 w L) (i:Nat) (hi:L[i]?=some (slotsA m M)) (o:Option Cap) (ho:mget M s=o)
  (hk:∀w',Own B w0 w' (BlkA w.heap.size (o.getD zeroCap).cells::L)->k ⟨w.heap.size,0,none⟩ o.isSome w'):
  (∃t52:Int,∃t53:Int,∃t54:Int,∃t55:Int,∃t56:Int,∃t57:Int,∃is58:Bool,LkB Tryz.prog 180 (.map (some m)) (.agg #[.z s.1, .z s.2]) (.agg #[.z t52, .z t53, .z t54, .y t55, .y t56, .z t57]) is58 w/\
  (Al w (.cells #[.z (0:Int), .z (0:Int), .z (0:Int), .y (0:Int), .y (0:Int), .z (0:Int)] 42) fun w59=>
  (StL w59 (Addr.mk w.heap.size 0 none) 0 [.z t52, .z t53, .z t54, .y t55, .y t56, .z t57] fun w60=>
  k (Addr.mk w.heap.size 0 none) is58 w60)/\
  True)/\
  True)/\
  (Al w (.cells #[.z (0:Int), .z (0:Int), .z (0:Int), .y (0:Int), .y (0:Int), .z (0:Int)] 42) fun w61=>
  (∃t62:Int,∃t63:Int,∃t64:Int,∃t65:Int,∃t66:Int,∃t67:Int,∃is68:Bool,LkB Tryz.prog 180 (.map (some m)) (.agg #[.z s.1, .z s.2]) (.agg #[.z t62, .z t63, .z t64, .y t65, .y t66, .z t67]) is68 w61/\
  (StL w61 (Addr.mk w.heap.size 0 none) 0 [.z t62, .z t63, .z t64, .y t65, .y t66, .z t67] fun w69=>
  k (Addr.mk w.heap.size 0 none) is68 w69)/\
  True)/\
  True)/\
  True:=by
 have hl:∀(w':World) (L':List Asn) (j:Nat),Own B w0 w' L'->L'[j]?=some (slotsA m M)->LkB Tryz.prog 180 (.map (some m)) (encPair s) (encCap (o.getD zeroCap)) o.isSome w':=by
  intro w' L' j h hj;cases o with
  |none=>exact (h.mlook0 Tryz.underlying180 keySlot zeroCapV j hj ho).1
  |some c=>exact (h.mlook Tryz.underlying180 keySlot j hj ho).1
 generalize hc:o.getD zeroCap=c at hl hk;refine ⟨⟨c.kind,c.obj,c.rights,c.badge,c.guard,c.bits,o.isSome,hl w L i h hi,?_,trivial⟩,?_,trivial⟩
 ·refine h.al fun w2 h=>⟨?_,trivial⟩
  refine h.stL 0 rfl rfl rfl fun w3 h=>?_
  exact hk w3 h
 ·refine h.al fun w2 h=>⟨⟨c.kind,c.obj,c.rights,c.badge,c.guard,c.bits,o.isSome,hl w2 _ (i+1) h (by simpa using hi),?_,trivial⟩,trivial⟩
  refine h.stL 0 rfl rfl rfl fun w3 h=>?_
  exact hk w3 h
end
theorem NOk.put {bits:List Int} {H:Hs} (h:NOk bits H) {s:Slot} {c:Cap} (h1:thereB bits s=true) (h2:capErr c=0) (h3:c.kind≠0) (h4:CapR c):NOk bits (updH H s (some c)):=by
 refine ⟨h.few,h.rng,fun s' c' hs=>?_⟩;unfold updH at hs;split at hs
 ·rename_i e;subst e;cases hs;exact ⟨h1,h2,h3,h4⟩
 ·exact h.held s' c' hs
theorem NOk.del {bits:List Int} {H:Hs} (h:NOk bits H) (s:Slot):NOk bits (updH H s none):=by
 refine ⟨h.few,h.rng,fun s' c' hs=>?_⟩;unfold updH at hs;split at hs
 ·cases hs
 ·exact h.held s' c' hs
theorem mget_updH {M:List (Slot × Cap)} {H:Hs} (h:∀k,mget M k=H k) (s:Slot) (c:Cap):∀k,mget (aput M s c) k=updH H s (some c) k:=fun k=>by
 rw[mget_aput,h k];unfold updH;by_cases e:s=k
 ·subst e;simp
 ·have:¬k=s:=fun h=>e h.symm
  rw[if_neg e,if_neg this]
theorem mget_delH {M:List (Slot × Cap)} {H:Hs} (hn:(M.map (·.1)).Nodup) (h:∀k,mget M k=H k) (s:Slot):∀k,mget (adel M s) k=updH H s none k:=fun k=>by
 rw[mget_adel hn,h k];unfold updH;by_cases e:s=k
 ·subst e;simp
 ·have:¬k=s:=fun h=>e h.symm
  rw[if_neg e,if_neg this]
theorem _root_.Go.Vc.Own.mnodup {B:Nat} {w0 w:World} {L:List Asn} {m:Nat} {M:List (Slot × Cap)} (h:Own B w0 w L) (i:Nat) (hi:L[i]?=some (slotsA m M)):(M.map (·.1)).Nodup:=(h.take i hi).head fun _ h=>h.2.nodup
def putN (bits:List Int) (H:Hs) (s:Slot) (c:Cap):Int × Hs:=
 if thereB bits s=false then (50,H) else if capErr c≠0 then (capErr c,H) else if c.kind=0 then (1,H) else if (H s).isSome then (51,H) else (0,updH H s (some c))
section
variable {B:Nat} {w0 w:World} {R L:List Asn} {b:Nat} {bits:List Int} {H:Hs}
theorem slots_Nodes_Put_spec {s:Slot} {c:Cap} {K:Int->Pw} (hc:CapR c) (h:Own B w0 w (NodesA b bits H::R)) (hK:∀w',Own B w0 w' (NodesA b bits (putN bits H s c).2::R)->K (putN bits H s c).1 w'):
  C.qbw (some ⟨b,0,none⟩) s.1 s.2 c.kind c.obj c.rights c.badge c.guard c.bits K w:=by
 apply S.qbw0;refine h.al fun w1 h=>?_
 refine h.al fun w2 h=>?_
 have h:Own B w0 w2 (BlkA w1.heap.size c.cells::BlkA w.heap.size [.z s.1, .z s.2]::NodesA b bits H::R):=h;refine h.ld_6 0 rfl rfl ?_;refine caps_Check_spec h hc fun w3 h=>?_
 intro k20 hk20;refine h.dr fun w4 h=>?_
 have h:Own B w0 w4 (NodesA b bits H::BlkA w1.heap.size c.cells::BlkA w.heap.size [.z s.1, .z s.2]::R):=h.take 2 rfl;have hn:=h;obtain ⟨x,hk,hM,h⟩:=h.nodes;refine ⟨_,rfl,some x.m,h.ld 0 rfl rfl,?_⟩;refine h.ld_2 4 rfl rfl ?_;refine look2 (k:=fun _ b w=>k20 b w) h 2 rfl (H s) (hM s) fun w5 h=>?_
 apply hk20;have h:Own B w0 w5 (NodesA b bits H::BlkA w1.heap.size c.cells::BlkA w.heap.size [.z s.1, .z s.2]::R):=Own.mk_nodes hk hM h.drop;refine h.ld_2 2 rfl rfl ?_;refine slots_Nodes_there_spec h 0 rfl fun w6 h=>?_
 have fail:∀e:Int,putN bits H s c=(e,H)->K e w6:=fun e he=>by
  rw[he] at hK;have h1:Own B w0 w6 (BlkA w.heap.size [.z s.1, .z s.2]::NodesA b bits H::BlkA w1.heap.size c.cells::R):=h.take 2 rfl;exact hK w6 ((h1.drop.perm (List.Perm.swap _ _ _)).drop)
 cases ht:thereB bits s with
 |false=>
  rw[Bool.not_false,cond_true];exact fail 50 (by unfold putN;rw[if_pos ht])
 |true=>
  have ht':¬thereB bits s=false:=by rw[ht];decide
  rw[Bool.not_true,cond_false];by_cases e1:capErr c=0
  ·rw[show (capErr c !=0)=false from by simpa using e1,cond_false]
   refine ⟨c.kind,h.ld0 1 rfl rfl,?_⟩;by_cases e2:c.kind=0
   ·rw[show (c.kind==0)=true from by simpa using e2,cond_true]
    exact fail 1 (by unfold putN;rw[if_neg ht',if_neg (by simpa using e1),if_pos e2])
   ·rw[show (c.kind==0)=false from by simpa using e2,cond_false]
    cases e3:(H s).isSome with
    |true=>
     rw[cond_true];exact fail 51 (by unfold putN;rw[if_neg ht',if_neg (by simpa using e1),if_neg e2,if_pos e3])
    |false=>
     rw[cond_false];have ep:putN bits H s c=(0,updH H s (some c)):=by unfold putN;rw[if_neg ht',if_neg (by simpa using e1),if_neg e2,if_neg (by rw[e3];decide)]
     rw[ep] at hK;refine h.dr fun w7 h=>?_
     obtain ⟨x,hk,hM,h⟩:=h.nodes;refine ⟨_,rfl,some x.m,h.ld 0 rfl rfl,?_⟩;refine h.ld_2 4 rfl rfl ?_;refine h.ld_6 3 rfl rfl ?_;refine ⟨?_,trivial⟩;refine h.mput (enc:=encPair) (encV:=encCap) (k:=s) (v:=c) Tryz.underlying180 keySlot 2 rfl fun w8 h=>?_
     have h1:=Own.mk_nodes (hk.put ht e1 e2 hc) (mget_updH hM s c) h;have h2:Own B w0 w8 (BlkA w.heap.size [.z s.1, .z s.2]::NodesA b bits (updH H s (some c))::BlkA w1.heap.size c.cells::R):=h1.take 2 rfl;exact hK w8 ((h2.drop.perm (List.Perm.swap _ _ _)).drop)
  ·rw[show (capErr c !=0)=true from by simpa using e1,cond_true]
   exact fail (capErr c) (by unfold putN;rw[if_neg ht',if_pos e1])
theorem slots_Nodes_Take_spec {s:Slot} {K:Int->Int->Int->Int->Int->Int->Int->Pw} (h:Own B w0 w (NodesA b bits H::R))
  (h1:thereB bits s=false->∀w',Own B w0 w' (NodesA b bits H::R)->K 0 0 0 0 0 0 50 w')
  (h2:thereB bits s=true->H s=none->∀w',Own B w0 w' (NodesA b bits H::R)->K 0 0 0 0 0 0 52 w')
  (h3:thereB bits s=true->∀c,H s=some c->∀w',Own B w0 w' (NodesA b bits (updH H s none)::R)->K c.kind c.obj c.rights c.badge c.guard c.bits 0 w'):C.qbe (some ⟨b,0,none⟩) s.1 s.2 K w:=by
 apply S.qbe0;refine h.al fun w1 h=>?_
 refine h.al fun w2 h=>?_
 have h:Own B w0 w2 (BlkA w1.heap.size zeroCap.cells::BlkA w.heap.size [.z s.1, .z s.2]::NodesA b bits H::R):=h;intro k6 hk6;refine h.dr fun w3 h=>?_
 have h:Own B w0 w3 (NodesA b bits H::BlkA w1.heap.size zeroCap.cells::BlkA w.heap.size [.z s.1, .z s.2]::R):=h.take 2 rfl;obtain ⟨x,hk,hM,h⟩:=h.nodes;refine ⟨_,rfl,some x.m,h.ld 0 rfl rfl,?_⟩;refine h.ld_2 4 rfl rfl ?_;refine look2 (k:=fun a b w=>k6 a b w) h 2 rfl (H s) (hM s) fun w4 h=>?_
 apply hk6
 have h:Own B w0 w4 (NodesA b bits H::BlkA w1.heap.size zeroCap.cells::BlkA w.heap.size [.z s.1, .z s.2]::BlkA w3.heap.size ((H s).getD zeroCap).cells::R):=by
  have h5:=Own.mk_nodes hk hM h.drop;have h6:Own B w0 w4 (BlkA w3.heap.size ((H s).getD zeroCap).cells::BlkA b [slV x.s, .map (some x.m)]::SlT intE x.s bits::slotsA x.m x.M::(BlkA w1.heap.size zeroCap.cells::BlkA w.heap.size [.z s.1, .z s.2]::R)):=h
  have h7:Own B w0 w4 (BlkA b [slV x.s, .map (some x.m)]::SlT intE x.s bits::slotsA x.m x.M::(BlkA w1.heap.size zeroCap.cells::BlkA w.heap.size [.z s.1, .z s.2]::BlkA w3.heap.size ((H s).getD zeroCap).cells::R)):=by
   refine h6.perm ?_
   have p:∀(a b c d e f:Asn) (R:List Asn),(a::b::c::d::e::f::R).Perm (b::c::d::e::f::a::R):=fun a b c d e f R=>by
    refine (List.Perm.swap _ _ _).trans (List.Perm.cons _ ?_);refine (List.Perm.swap _ _ _).trans (List.Perm.cons _ ?_);refine (List.Perm.swap _ _ _).trans (List.Perm.cons _ ?_);refine (List.Perm.swap _ _ _).trans (List.Perm.cons _ ?_);exact List.Perm.swap _ _ _
   exact p _ _ _ _ _ _ _
  exact Own.mk_nodes hk hM h7
 have fin:∀w' H',Own B w0 w' (NodesA b bits H'::BlkA w1.heap.size zeroCap.cells::BlkA w.heap.size [.z s.1, .z s.2]::BlkA w3.heap.size ((H s).getD zeroCap).cells::R)->Own B w0 w' (NodesA b bits H'::R):=fun w' H' h=>by
  have g1:Own B w0 w' (BlkA w1.heap.size zeroCap.cells::NodesA b bits H'::BlkA w.heap.size [.z s.1, .z s.2]::BlkA w3.heap.size ((H s).getD zeroCap).cells::R):=h.perm (List.Perm.swap _ _ _);exact ((g1.drop.perm (List.Perm.swap _ _ _)).drop.perm (List.Perm.swap _ _ _)).drop
 refine h.ld_2 2 rfl rfl ?_;refine slots_Nodes_there_spec h 0 rfl fun w5 h=>?_
 cases ht:thereB bits s with
 |false=>
  rw[Bool.not_false,cond_true];refine h.stL 1 rfl rfl rfl fun w6 h=>?_
  refine h.ld_6 1 rfl rfl ?_;exact h1 ht w6 (fin _ _ h)
 |true=>
  rw[Bool.not_true,cond_false];cases hs:H s with
  |none=>
   rw[Option.isSome_none,Bool.not_false,cond_true];refine h.stL 1 rfl rfl rfl fun w6 h=>?_
   refine h.ld_6 1 rfl rfl ?_;exact h2 ht hs w6 (fin _ _ h)
  |some c=>
   rw[Option.isSome_some,Bool.not_true,cond_false];refine h.dr fun w6 h=>?_
   obtain ⟨x,hk,hM,h⟩:=h.nodes;have hnd:=h.mnodup 2 rfl;refine ⟨_,rfl,some x.m,h.ld 0 rfl rfl,?_⟩;refine h.ld_2 4 rfl rfl ?_;refine ⟨?_,trivial⟩;refine h.mdel (enc:=encPair) (encV:=encCap) (k:=s) Tryz.underlying180 keySlot 2 rfl fun w7 h=>?_
   have h:=Own.mk_nodes (hk.del s) (mget_delH hnd hM s) h;have hcell:((H s).getD zeroCap).cells=c.cells:=by rw[hs];rfl
   rw[hcell] at h fin;refine h.ld_6 3 rfl rfl ?_;refine h.stL 1 rfl rfl rfl fun w8 h=>?_
   refine h.ld_6 1 rfl rfl ?_;have h:Own B w0 w8 (NodesA b bits (updH H s none)::BlkA w1.heap.size c.cells::BlkA w.heap.size [.z s.1, .z s.2]::BlkA w3.heap.size c.cells::R):=h;have g1:Own B w0 w8 (BlkA w1.heap.size c.cells::NodesA b bits (updH H s none)::BlkA w.heap.size [.z s.1, .z s.2]::BlkA w3.heap.size c.cells::R):=h.perm (List.Perm.swap _ _ _);exact h3 ht c hs w8 (((g1.drop.perm (List.Perm.swap _ _ _)).drop.perm (List.Perm.swap _ _ _)).drop)
end
section
variable {B:Nat} {w0 w:World} {R L:List Asn} {b:Nat} {bits:List Int} {H:Hs}
def moveN (bits:List Int) (H:Hs) (f t:Slot):Int × Hs:=
 if thereB bits f=false∨thereB bits t=false then (50,H) else match H f with|none=>(52,H)|some c=>if (H t).isSome then (51,H) else (0,updH (updH H f none) t (some c))
theorem slots_Nodes_Move_spec {f t:Slot} {K:Int->Pw} (h:Own B w0 w (NodesA b bits H::R)) (hK:∀w',Own B w0 w' (NodesA b bits (moveN bits H f t).2::R)->K (moveN bits H f t).1 w'):
  C.qbG (some ⟨b,0,none⟩) f.1 f.2 t.1 t.2 K w:=by
 apply S.qbG0;refine h.al fun w1 h=>?_
 refine h.al fun w2 h=>?_
 have h:Own B w0 w2 (NodesA b bits H::BlkA w1.heap.size [.z t.1, .z t.2]::BlkA w.heap.size [.z f.1, .z f.2]::R):=h.take 2 rfl;intro k8 hk8;refine h.dr fun w3 h=>?_
 obtain ⟨x,hk,hM,h⟩:=h.nodes;refine ⟨_,rfl,some x.m,h.ld 0 rfl rfl,?_⟩;refine h.ld_2 4 rfl rfl ?_;refine look2 (k:=fun a b w=>k8 a b w) h 2 rfl (H f) (hM f) fun w4 h=>?_
 apply hk8;intro k12 hk12
 have h:Own B w0 w4 (BlkA w3.heap.size ((H f).getD zeroCap).cells::NodesA b bits H::BlkA w1.heap.size [.z t.1, .z t.2]::BlkA w.heap.size [.z f.1, .z f.2]::R):=by
  have p:∀(a b c d:Asn) (R:List Asn),(a::b::c::d::R).Perm (b::c::d::a::R):=fun a b c d R=>by
   refine (List.Perm.swap _ _ _).trans (List.Perm.cons _ ?_);refine (List.Perm.swap _ _ _).trans (List.Perm.cons _ ?_);exact List.Perm.swap _ _ _
  have q:∀(a b c d:Asn) (R:List Asn),(a::b::c::d::R).Perm (a::d::b::c::R):=fun a b c d R=>by
   refine List.Perm.cons _ ?_;refine (List.Perm.cons _ (List.Perm.swap _ _ _)).trans ?_;exact List.Perm.swap _ _ _
  have h5:=Own.mk_nodes hk hM (h.perm (p _ _ _ _ _));exact h5.perm (List.Perm.swap _ _ _)
 refine h.dr fun w5 h=>?_
 have h:=h.perm (List.Perm.swap _ _ _);obtain ⟨x,hk,hM,h⟩:=h.nodes;refine ⟨_,rfl,some x.m,h.ld 0 rfl rfl,?_⟩;refine h.ld_2 4 rfl rfl ?_;refine look2 (k:=fun a b w=>k12 b w) h 2 rfl (H t) (hM t) fun w6 h=>?_
 apply hk12;have h:Own B w0 w6 (NodesA b bits H::BlkA w3.heap.size ((H f).getD zeroCap).cells::BlkA w1.heap.size [.z t.1, .z t.2]::BlkA w.heap.size [.z f.1, .z f.2]::R):=Own.mk_nodes hk hM h.drop
 have fin:∀w' H',Own B w0 w' (NodesA b bits H'::BlkA w3.heap.size ((H f).getD zeroCap).cells::BlkA w1.heap.size [.z t.1, .z t.2]::BlkA w.heap.size [.z f.1, .z f.2]::R)->Own B w0 w' (NodesA b bits H'::R):=fun w' H' h=>by
  have g1:Own B w0 w' (BlkA w3.heap.size ((H f).getD zeroCap).cells::NodesA b bits H'::BlkA w1.heap.size [.z t.1, .z t.2]::BlkA w.heap.size [.z f.1, .z f.2]::R):=h.perm (List.Perm.swap _ _ _);exact ((g1.drop.perm (List.Perm.swap _ _ _)).drop.perm (List.Perm.swap _ _ _)).drop
 intro k15 hk15
 have none':∀w',(thereB bits f=false∨thereB bits t=false)->Own B w0 w' (NodesA b bits H::BlkA w3.heap.size ((H f).getD zeroCap).cells::BlkA w1.heap.size [.z t.1, .z t.2]::BlkA w.heap.size [.z f.1, .z f.2]::R)->k15 true w':=fun w' hn h=>by
  apply hk15;rw[cond_true];have e:moveN bits H f t=(50,H):=by unfold moveN;rw[if_pos hn]
  rw[e] at hK;exact hK w' (fin _ _ h)
 refine h.ld_2 3 rfl rfl ?_;refine slots_Nodes_there_spec h 0 rfl fun w7 h=>?_
 cases hf:thereB bits f with
 |false=>rw[Bool.not_false,cond_true];exact none' w7 (.inl hf) h
 |true=>
  rw[Bool.not_true,cond_false];refine h.ld_2 2 rfl rfl ?_;refine slots_Nodes_there_spec h 0 rfl fun w8 h=>?_
  cases ht:thereB bits t with
  |false=>exact none' w8 (.inr ht) h
  |true=>
   rw[Bool.not_true];apply hk15;rw[cond_false];have hn:¬(thereB bits f=false∨thereB bits t=false):=by rw[hf,ht];decide
   cases hs:H f with
   |none=>
    rw[Option.isSome_none,Bool.not_false,cond_true];have e:moveN bits H f t=(52,H):=by unfold moveN;rw[if_neg hn,hs]
    rw[e] at hK;exact hK w8 (fin _ _ h)
   |some c=>
    rw[Option.isSome_some,Bool.not_true,cond_false];cases hto:(H t).isSome with
    |true=>
     rw[cond_true];have e:moveN bits H f t=(51,H):=by unfold moveN;rw[if_neg hn,hs];simp only[hto,if_true]
     rw[e] at hK;exact hK w8 (fin _ _ h)
    |false=>
     rw[cond_false];have e:moveN bits H f t=(0,updH (updH H f none) t (some c)):=by unfold moveN;rw[if_neg hn,hs];simp[hto]
     rw[e] at hK;have hcell:((H f).getD zeroCap).cells=c.cells:=by rw[hs];rfl
     rw[hcell] at h fin;refine h.dr fun w9 h=>?_
     obtain ⟨x,hk,hM,h⟩:=h.nodes;have hnd:=h.mnodup 2 rfl;obtain ⟨g1,g2,g3,g4⟩:=hk.held f c hs;refine ⟨_,rfl,some x.m,h.ld 0 rfl rfl,?_⟩;refine h.ld_2 5 rfl rfl ?_;refine ⟨?_,trivial⟩;refine h.mdel (enc:=encPair) (encV:=encCap) (k:=f) Tryz.underlying180 keySlot 2 rfl fun w10 h=>?_
     refine h.dr fun w11 h=>?_
     refine ⟨_,rfl,some x.m,h.ld 0 rfl rfl,?_⟩;refine h.ld_2 4 rfl rfl ?_;refine h.ld_6 3 rfl rfl ?_;refine ⟨?_,trivial⟩;refine h.mput (enc:=encPair) (encV:=encCap) (k:=t) (v:=c) Tryz.underlying180 keySlot 2 rfl fun w12 h=>?_
     exact hK w12 (fin _ _ (Own.mk_nodes ((hk.del f).put ht g2 g3 g4) (mget_updH (mget_delH hnd hM f) t c) h))
end
theorem mem_erase' {α:Type}:∀{l:List α} {j:Nat} {k q:α},l.Nodup->l[j]?=some k->(q∈l.eraseIdx j↔q∈l/\q≠k)
 | [],j,k,q,_,h=>by simp at h
 |a::l,0,k,q,hn,h=>by
  simp only[List.getElem?_cons_zero,Option.some.injEq] at h;subst h;rw[List.nodup_cons] at hn;rw[List.eraseIdx_cons_zero,List.mem_cons];constructor
  ·intro hq;exact ⟨.inr hq,fun e=>hn.1 (e▸hq)⟩
  ·rintro ⟨hq|hq,hne⟩
   ·exact absurd hq hne
   ·exact hq
 |a::l,j+1,k,q,hn,h=>by
  rw[List.nodup_cons] at hn;rw[List.getElem?_cons_succ] at h;have hak:a≠k:=fun e=>hn.1 (e▸List.mem_of_getElem? h)
  rw[List.eraseIdx_cons_succ,List.mem_cons,List.mem_cons,mem_erase' hn.2 h];constructor
  ·rintro (rfl|⟨h1,h2⟩)
   ·exact ⟨.inl rfl,hak⟩
   ·exact ⟨.inr h1,h2⟩
  ·rintro ⟨rfl|h1,h2⟩
   ·exact .inl rfl
   ·exact .inr ⟨h1,h2⟩
end Go.Proofs.YtogmbmdbgkopjaaGreat.Sl
end
section
set_option maxRecDepth 100000
namespace Go.Proofs.YtogmbmdbgkopjaaGreat
open Go Go.Vc Go.Proofs
theorem S.qcG0 {a b c d e f g h i K w}:Fr (C.qcG a b c d e f g h i K w) (Al w (.cells #[.z b, .z c, .z d, .y e, .y f, .z g] 42) fun b=>Al b (.cells #[.z 0, .z 0] 40) fun c=>∀d:Bool->Pw,(∀(c:Bool) (e:World),(bif c then (StL e (.mk b.heap.size 0 none) 0 [.z 0, .z 0] fun a=>LdL a (.mk b.heap.size 0 none) 0 [.o, .o] fun (b c:Int)=>K b c 1 a) else (Al e (.cells #[.y h, .z i] 392) fun c=>LdL c (.mk w.heap.size 0 none) 0 [.o, .o, .o, .u, .u, .o] fun (d f g h i j:Int)=>Al c (.cells #[.z 0, .z 0, .z 0, .y 0, .y 0, .z 0] 42) fun k=>StL k (.mk c.heap.size 0 none) 0 [.z d, .z f, .z g, .y h, .y i, .z j] fun d=>∀f:Addr->Pw,(∀(c:Addr) (d:World),(LdL d c 0 [.o, .o, .o, .u, .u, .o] fun (g h i j k l:Int)=>C.qcR a g h i j k l (.func (.func 327) #[.pointer (some (.mk e.heap.size 0 none))] #[]) (fun d g h i=>Al i (.cells #[.z 0, .z 0] 40) fun j=>StL j (.mk i.heap.size 0 none) 0 [.z d, .z g] fun d=>∀g:Bool->Pw,(∀(d:Bool) (e:World),(bif d then (LdL e (.mk i.heap.size 0 none) 0 [.o, .o] fun (a c:Int)=>StL e (.mk b.heap.size 0 none) 0 [.z a, .z c] fun a=>LdL a (.mk b.heap.size 0 none) 0 [.o, .o] fun (b c:Int)=>K b c h a) else (LdL e (.mk i.heap.size 0 none) 0 [.o, .o] fun (d g:Int)=>C.qL a d g (fun a d e g h i _ k=>StL k c 0 [.z a, .z d, .z e, .y g, .y h, .z i] fun a=>∃d,a.cell? c=some (.z d)/\bif d !=2 then (StL a (.mk b.heap.size 0 none) 0 [.z 0, .z 0] fun a=>LdL a (.mk b.heap.size 0 none) 0 [.o, .o] fun (b c:Int)=>K b c 62 a) else (LdL a c 0 [.o, .o, .o, .u, .u, .o] fun (b c d e g h:Int)=>Al a (.cells #[.z 0, .z 0, .z 0, .y 0, .y 0, .z 0] 42) fun i=>StL i (.mk a.heap.size 0 none) 0 [.z b, .z c, .z d, .y e, .y g, .z h] fun b=>f (.mk a.heap.size 0 none) b)) e))->g d e)->(bif h !=0 then (g true d) else (∃a,some (Addr.mk e.heap.size 0 none)=some a/\∃b,d.cell? (a.add 1)=some (.z b)/\g (b==0) d))) d)->f c d)->f (.mk c.heap.size 0 none) d))->d c e)->(bif decide (i<1) then (d true c) else (d (decide (i>64)) c))):=okT Tryz.func275 (.v (.y (.y (.r (some [(19,.c .b)]) .done) (.x .w)) (.v (.v (.x (.t (some [(11,.c .q)]) (.y (.x (.v (.y (.y (.r (some [(42,.c .b)]) .done) (.x .w)) (.v (.v (.x .w)))))) .w) .u))))))
theorem S.qcR0 {a b c d e f g h K w}:Fr (C.qcR a b c d e f g h K w) (Al w (.cells #[.z b, .z c, .z d, .y e, .y f, .z g] 42) fun b=>Al b (.cells #[.z 0, .z 0] 40) fun c=>LdL c (.mk w.heap.size 0 none) 0 [.o, .o, .o, .u, .u, .o] fun (d e f g i j:Int)=>C.qcS a d e f g i j (fun a c d=>bif !c then (StL d (.mk b.heap.size 0 none) 0 [.z 0, .z 0] fun a=>LdL a (.mk b.heap.size 0 none) 0 [.o, .o] fun (b c:Int)=>K b c 60 a) else (∃c,d.cell? ((Addr.mk w.heap.size 0 none).add 5)=some (.z c)/\CallV Tryz.prog (h) [.z c] d fun c d=>∃e,∃f,c= .returned (.tuple #[.y e, .bool f])/\∀c:Bool->Pw,(∀(d:Bool) (e:World),(bif d then (StL e (.mk b.heap.size 0 none) 0 [.z 0, .z 0] fun a=>LdL a (.mk b.heap.size 0 none) 0 [.o, .o] fun (b c:Int)=>K b c 61 a) else (CallV Tryz.prog (h) [.z a] e fun a c=>∃d,∃e,a= .returned (.tuple #[.y d, .bool e])/\bif !e then (StL c (.mk b.heap.size 0 none) 0 [.z 0, .z 0] fun a=>LdL a (.mk b.heap.size 0 none) 0 [.o, .o] fun (b c:Int)=>K b c 62 a) else (∃a,c.cell? ((Addr.mk w.heap.size 0 none).add 1)=some (.z a)/\StL c (.mk b.heap.size 0 none) 0 [.z a, .z (IntKind.i64.wrap d)] fun a=>LdL a (.mk b.heap.size 0 none) 0 [.o, .o] fun (b c:Int)=>K b c 0 a)))->c d e)->(bif !f then (c true d) else (∃a,d.cell? ((Addr.mk w.heap.size 0 none).add 4)=some (.y a)/\c (e !=a) d)))) c):=okT Tryz.func326 (.v (.v (.y (.v (.x .w)) (.y (.v (.y (.r (some [(37,.c .b)]) .done) (.x .w))) .g51))))
theorem S.qbL0 {a b K w}:Fr (C.qbL a b K w) (∃c,a=some c/\∃d,w.cell? (c.add 1)=some (.z d)/\bif decide (b>d) then (K 0 false w) else (∃c,a=some c/\∃d,w.cell? (c.add 1)=some (.z d)/\∃c,a=some c/\St w (c.add 1) (.z (IntKind.i64.wrap (d-b))) fun c=>Dr c fun c=>∃d,a=some d/\∃e,c.cell? d=some (.y e)/\∃d,a=some d/\∃a,c.cell? (d.add 1)=some (.z a)/\(C.qbN e a b (fun a _ c=>K a true c) c)/\True)):=okT Tryz.func327 (.v (.y (.v (.x .w)) (.v (.y (.z (.o 0 496 (.o 1 496 (.o 2 496 (.o 3 496 (.o 4 256 (.o 5 256 (.o 6 256 (.o 7 256 (.o 8 0 (.e 9 (.o 10 0 (.o 11 4096 (.o 12 8192 (.o 13 0 (.o 14 0 .done)))))))))))))))) .w))))
theorem S.qcS0 {a b c d e f g K w}:Fr (C.qcS a b c d e f g K w) (Al w (.cells #[.z b, .z c, .z d, .y e, .y f, .z g] 42) fun b=>∀c:Bool->Pw,(∀(b:Bool) (d:World),(bif b then (K 0 false d) else (∃b,d.cell? ((Addr.mk w.heap.size 0 none).add 1)=some (.z b)/\C.qbc a b (fun a b c=>K a b c) d))->c b d)->(∃a,b.cell? (Addr.mk w.heap.size 0 none)=some (.z a)/\bif a !=2 then (c true b) else (LdL b (.mk w.heap.size 0 none) 0 [.o, .o, .o, .u, .u, .o] fun (a d e f g h:Int)=>C.qcD a d e f g h (fun a b=>c (a !=0) b) b))):=okT Tryz.func356 (.v (.y (.y (.r (some [(13,.c .b)]) .done) (.x .w)) .w))
theorem S.qb0 {a K w}:Fr (C.qb a K w) (Al w (.cells #[.map a] 180) fun a=>K (.func (.func 196) #[] #[.pointer (some (.mk w.heap.size 0 none))]) a):=okT Tryz.func115 (.v .w)
theorem S.qcv0 {a b K w}:Fr (C.qcv a b K w) (C.qcr a b (fun a b c=>K a b c) w):=okT Tryz.func187 (.v (.y (.x (.v .w)) (.v .w)))
theorem S.qcr0 {a b K w}:Fr (C.qcr a b K w) ((0:Int)≤32/\(0:Int)≤32/\(0:Int)≤32/\(0:Int)≤32/\(0:Int)≤32/\K (IntKind.u64.wrap ((IntKind.u64.wrap ((IntKind.u64.wrap ((shrI .u64 a 32)*(shrI .u64 b 32)))+(shrI .u64 (IntKind.u64.wrap ((IntKind.u64.wrap ((shrI .u64 a 32)*(andI .u64 b 4294967295)))+(shrI .u64 (IntKind.u64.wrap ((andI .u64 a 4294967295)*(andI .u64 b 4294967295))) 32))) 32)))+(shrI .u64 (IntKind.u64.wrap ((andI .u64 (IntKind.u64.wrap ((IntKind.u64.wrap ((shrI .u64 a 32)*(andI .u64 b 4294967295)))+(shrI .u64 (IntKind.u64.wrap ((andI .u64 a 4294967295)*(andI .u64 b 4294967295))) 32))) 4294967295)+(IntKind.u64.wrap ((andI .u64 a 4294967295)*(shrI .u64 b 32))))) 32))) (IntKind.u64.wrap (a*b)) w):=okT Tryz.func259 .g30
theorem S.qbV0 {a K w}:Fr (C.qbV a K w) (∀b:Int->Int->Pw,(∀(a c:Int) (d:World),(∀b:Int->Int->Pw,(∀(a c:Int) (d:World),(∀b:Int->Int->Pw,(∀(a c:Int) (d:World),(∃b,StrAt ⟨#[0,1,2,2,3,3,3,3,4,4,4,4,4,4,4,4,5,5,5,5,5,5,5,5,5,5,5,5,5,5,5,5,6,6,6,6,6,6,6,6,6,6,6,6,6,6,6,6,6,6,6,6,6,6,6,6,6,6,6,6,6,6,6,6,7,7,7,7,7,7,7,7,7,7,7,7,7,7,7,7,7,7,7,7,7,7,7,7,7,7,7,7,7,7,7,7,7,7,7,7,7,7,7,7,7,7,7,7,7,7,7,7,7,7,7,7,7,7,7,7,7,7,7,7,7,7,7,7,8,8,8,8,8,8,8,8,8,8,8,8,8,8,8,8,8,8,8,8,8,8,8,8,8,8,8,8,8,8,8,8,8,8,8,8,8,8,8,8,8,8,8,8,8,8,8,8,8,8,8,8,8,8,8,8,8,8,8,8,8,8,8,8,8,8,8,8,8,8,8,8,8,8,8,8,8,8,8,8,8,8,8,8,8,8,8,8,8,8,8,8,8,8,8,8,8,8,8,8,8,8,8,8,8,8,8,8,8,8,8,8,8,8,8,8,8,8,8,8,8,8,8,8,8,8,8,8]⟩ (IntKind.u8.wrap a) b/\K (IntKind.i64.wrap (c+(IntKind.i64.wrap b))) d)->b a c d)->(bif decide (a≥256) then ((0:Int)≤8/\b (shrI .u64 a 8) (IntKind.i64.wrap (c+8)) d) else (b a c d)))->b a c d)->(bif decide (a≥65536) then ((0:Int)≤16/\b (shrI .u64 a 16) (IntKind.i64.wrap (c+16)) d) else (b a c d)))->b a c d)->(bif decide (a≥4294967296) then ((0:Int)≤32/\b (shrI .u64 a 32) 32 w) else (b a 0 w))):=okT Tryz.func268 (.v (.y .g28 (.y .g28 (.y .g28 .w))))
theorem S.qaw0 {a b K w}:Fr (C.qaw a b K w) (∃c,a=some c/\∃d:Sl,w.cell? (c.add 2)=some (.slice d.a d.len d.cap)/\bif decide ((d.len:Int)>0) then (∃c,a=some c/\∃d:Sl,w.cell? (c.add 2)=some (.slice d.a d.len d.cap)/\∃c,d.a=some c/\(0:Int)≤0/\0<(d.len:Int)/\∃d,w.cell? (c.add ((0:Int).toNat*1))=some (.z d)/\∃c,a=some c/\∃e:Sl,w.cell? (c.add 2)=some (.slice e.a e.len e.cap)/\C.qal e 0 1 (fun c e=>∃f,a=some f/\St e (f.add 2) (.slice c.a c.len c.cap) fun a=>K d b true a) w) else (∃c,a=some c/\∃d,w.cell? c=some (.y d)/\∃c,a=some c/\St w c (.y (orI .u64 d b)) fun b=>∃c,a=some c/\St b (c.add 1) (.bool true) fun a=>K 0 0 false a)):=okT Tryz.func147 (.v (.y (.v (.x (.v (.v .w)))) (.v .w)))
theorem S.qaV0 {a b c K w}:Fr (C.qaV a b c K w) (∃d,a=some d/\∃e:Sl,w.cell? (d.add 2)=some (.slice e.a e.len e.cap)/\C.qab e b (fun d e=>bif d then (K 0 false 120 e) else (∃d,a=some d/\∃f,e.cell? (d.add 1)=some (.bool f)/\bif f then (∃b,a=some b/\∃c,e.cell? b=some (.y c)/\∃b,a=some b/\St e b (.y 0) fun b=>∃d,a=some d/\St b (d.add 1) (.bool false) fun a=>K c true 0 a) else (bif c then (∃c,a=some c/\∃d:Sl,e.cell? (c.add 2)=some (.slice d.a d.len d.cap)/\Al e (.cells #[.z b] 3) fun b=>∃c f,AppR Tryz.prog [26,26] 26 (.slice d.a d.len d.cap) (.slice (some (.mk e.heap.size 0 none)) 1 1) b c f/\∃b,a=some b/\St f (b.add 2) (.slice c.a c.len c.cap) fun a=>K 0 false 0 a) else (K 0 false 0 e)))) w):=okT Tryz.func220 (.v (.y (.x (.v (.y .w (.v (.y (.v (.v .w)) (.v .w)))))) .w))
theorem S.qdc0 {K w}:Fr (C.qdc K w) (Al w (.cells #[.y 0, .bool false, .slice none 0 0] 251) fun a=>K (some (.mk w.heap.size 0 none)) a):=okT Tryz.func283 (.v .w)
theorem S.qay0 {a b K w}:Fr (C.qay a b K w) (Al w (.cells #[.z b] 3) fun b=>∃c,a=some c/\∃d:Sl,b.cell? (c.add 2)=some (.slice d.a d.len d.cap)/\∃c,a=some c/\∃e:Sl,b.cell? (c.add 2)=some (.slice e.a e.len e.cap)/\C.qB e (.func (.func 341) #[] #[.pointer (some (.mk w.heap.size 0 none))]) (fun b c=>∃e,a=some e/\St c (e.add 2) (.slice b.a b.len b.cap) fun b=>∃c,a=some c/\∃a:Sl,b.cell? (c.add 2)=some (.slice a.a a.len a.cap)/\K (decide ((a.len:Int)<(d.len:Int))) b) b):=okT Tryz.func293 (.v (.v (.v .w)))
theorem S.qaB0 {a b K w}:Fr (C.qaB a b K w) (∃c,w.cell? b=some (.z c)/\K (a==c) w):=okT Tryz.func341 (.v .w)
end Go.Proofs.YtogmbmdbgkopjaaGreat
end
section
set_option maxRecDepth 8000
namespace Go.Proofs.YtogmbmdbgkopjaaGreat.Sl
open Go Go.Vc Go.Proofs
def nodeN (bits:List Int) (c:Cap):Option Int:=if c.kind≠2 then none else if capErr c≠0 then none else sizeN bits c.obj
def stepN (bits:List Int) (addr:Nat) (c:Cap) (left:Nat):Int × Slot × Nat:=
 match nodeN bits c with
 |none=>(60,(0,0),left)
 |some z=>
  if left<c.bits.toNat then (61,(0,0),left)
  else if ((addr / 2^(left-c.bits.toNat)%2^c.bits.toNat:Nat):Int)≠c.guard then (61,(0,0),left)
  else if left-c.bits.toNat<z.toNat then (62,(0,0),left)
  else (0,(c.obj,((addr / 2^(left-c.bits.toNat-z.toNat)%2^z.toNat:Nat):Int)),left-c.bits.toNat-z.toNat)
def slotN (bits:List Int) (H:Hs) (addr:Nat):Nat->Cap->Nat->Slot × Int
 |0,_,_=>((0,0),62)
 |f+1,c,left=>
  if (stepN bits addr c left).1≠0 then ((0,0),(stepN bits addr c left).1)
  else if (stepN bits addr c left).2.2=0 then ((stepN bits addr c left).2.1,0)
  else if ((H (stepN bits addr c left).2.1).getD zeroCap).kind≠2 then ((0,0),62)
  else slotN bits H addr f ((H (stepN bits addr c left).2.1).getD zeroCap) (stepN bits addr c left).2.2
def slotT (bits:List Int) (H:Hs) (root:Cap) (addr:Nat) (depth:Int):Slot × Int:=
 if depth<1∨64<depth then ((0,0),1) else slotN bits H addr depth.toNat root depth.toNat
theorem nodeN_some {bits:List Int} {c:Cap} {z:Int} (h:nodeN bits c=some z):c.kind=2/\capErr c=0/\sizeN bits c.obj=some z:=by
 unfold nodeN at h;split at h
 ·cases h
 ·split at h
  ·cases h
  ·exact ⟨by omega,by omega,h⟩
theorem node_guard {c:Cap} (h1:c.kind=2) (h2:capErr c=0):0≤c.bits/\c.bits≤64/\c.guard<2^c.bits.toNat:=by
 unfold capErr at h2;split at h2
 ·rename_i e;rw[e] at h1;cases h1
 ·split at h2
  ·cases h2
  ·rename_i e
   unfold capBad at e;simp only[Bool.or_eq_true,not_or,Bool.not_eq_true,Bool.not_eq_false',Bool.and_eq_true] at e;have:=e.1.1.1.2;unfold guardB at this;simpa using this
section
variable {B:Nat} {w0 w:World} {R L:List Asn} {b rb:Nat} {bits:List Int} {H:Hs}
theorem words_there_spec {a n:Nat} {K:Bool->Pw} (ha:a+n≤64) (h:K true w):C.qbY (a:Int) (n:Int) K w:=by
 apply S.qbY0;refine cdecT (by omega) (cdecT (by omega) (cdecT (by omega) ?_));rw[wr (by omega) (by omega),decide_eq_true (by omega)];exact h
theorem words_Field_spec {v a n:Nat} {K:Int->Int->Pw} (hv:v<2^64) (hn:a+n≤64) (h:Own B w0 w L) (hK:∀w',Own B w0 w' L->K ((v / 2^a%2^n:Nat):Int) 0 w'):C.qbN (v:Int) (a:Int) (n:Int) K w:=by
 apply S.qbN0;refine words_there_spec hn ?_;refine cbF rfl ?_
 repeat refine h.dr fun w h=>?_
 refine ⟨by omega,a2 ?_⟩;refine words_low_spec (by omega) ?_;rw[shr_nat v a (by omega),and_low _ n (Nat.lt_of_le_of_lt (Nat.div_le_self _ _) hv) (by omega)];exact hK _ h
theorem lookup_next_spec {addr left n:Nat} {K:Int->Bool->Pw} (ha:addr<2^64) (hl:left≤64) (h:Own B w0 w (BlkA rb [.y (addr:Int), .z (left:Int)]::R)) (hn:n≤64)
  (h1:left<n->∀w',Own B w0 w' (BlkA rb [.y (addr:Int), .z (left:Int)]::R)->K 0 false w')
  (h2:n≤left->∀w',Own B w0 w' (BlkA rb [.y (addr:Int), .z ((left-n:Nat):Int)]::R)->K ((addr / 2^(left-n)%2^n:Nat):Int) true w'):
  C.qbL (some ⟨rb,0,none⟩) (n:Int) K w:=by
 apply S.qbL0
 repeat first|refine ⟨_,h.ldc rfl,?_⟩|refine exs ?_
 refine cdec (fun e=>h1 (by omega) _ h) (fun e=>?_);have e2:IntKind.i64.wrap ((left:Int)-(n:Int))=((left-n:Nat):Int):=by rw[wr (by omega) (by omega)];omega
 repeat first|refine h.dr fun w h=>?_|refine ⟨_,h.ldc rfl,?_⟩|refine exs ?_|refine _root_.Go.Vc.a2 ?_|refine h.stc rfl rfl fun w h=>?_
 rw[e2] at h⊢;refine words_Field_spec ha (by omega) h fun w h=>?_
 exact h2 (by omega) _ h
theorem lookup_node_spec {c:Cap} {K:Int->Bool->Pw} (hc:CapR c) (h:Own B w0 w L) (i:Nat) (hi:L[i]?=some (NodesA b bits H)) (hK:∀w',Own B w0 w' L->K ((nodeN bits c).getD 0) (nodeN bits c).isSome w'):C.qcS (some ⟨b,0,none⟩) c.kind c.obj c.rights c.badge c.guard c.bits K w:=by
 apply S.qcS0;unfold nodeN at hK;refine h.al fun w1 h=>?_
 have h:Own B w0 w1 (BlkA w.heap.size c.cells::L):=h;intro k hk
 (refine ⟨_,h.ldc rfl,?_⟩)
 refine cne (fun e=>?_) (fun e=>?_)
 ·apply hk
  rw[if_pos e] at hK;exact hK _ h.drop
 ·rw[if_neg (by omega)] at hK
  repeat refine h.lc_2 rfl ?_
  refine caps_Check_spec h hc fun w h=>?_
  apply hk;refine cne (fun e=>?_) (fun e=>?_)
  ·rw[if_pos e] at hK
   exact hK _ h.drop
  ·rw[if_neg (by omega)] at hK
   (refine ⟨_,h.ldc rfl,?_⟩)
   exact slots_Nodes_Size_spec h (i+1) (by simpa using hi) (hK _ h.drop)
end
theorem mod_small (x n:Nat) (hn:n≤8):x%2^n<256:=by
 have h1:0<2^n:=Nat.two_pow_pos n;have h2:2^n≤2^8:=Nat.pow_le_pow_right (by omega) hn;have:=Nat.mod_lt x h1;omega
section
variable {B:Nat} {w0 w:World} {R L:List Asn} {b rb:Nat} {bits:List Int} {H:Hs}
theorem lookup_step_spec {addr left:Nat} {c:Cap} {K:Int->Int->Int->Pw} (hc:CapR c) (ha:addr<2^64) (hl:left≤64)
  (h:Own B w0 w (NodesA b bits H::BlkA rb [.y (addr:Int), .z (left:Int)]::R))
  (h1:(stepN bits addr c left).1≠0->∀w' l',Own B w0 w' (NodesA b bits H::BlkA rb [.y (addr:Int), .z l']::R)->K 0 0 (stepN bits addr c left).1 w')
  (h2:(stepN bits addr c left).1=0->∀w',Own B w0 w' (NodesA b bits H::BlkA rb [.y (addr:Int), .z ((stepN bits addr c left).2.2:Int)]::R)->K (stepN bits addr c left).2.1.1 (stepN bits addr c left).2.1.2 0 w'):
  C.qcR (some ⟨b,0,none⟩) c.kind c.obj c.rights c.badge c.guard c.bits (.func (.func 327) #[.pointer (some ⟨rb,0,none⟩)] #[]) K w:=by
 apply S.qcR0;have hk:=h.nok
 repeat first|refine h.al fun w h=>?_|refine h.lc_2 rfl ?_
 refine lookup_node_spec hc h 2 rfl fun w h=>?_
 cases hn:nodeN bits c with
 |none=>
  have hs:stepN bits addr c left=(60,(0,0),left):=by unfold stepN;rw[hn]
  rw[hs] at h1;refine cbT rfl ?_
  repeat first|refine h.lc_2 rfl ?_|refine h.stLc rfl rfl fun w h=>?_
  exact h1 (by simp) _ (left:Int) h.sub
 |some z=>
  obtain ⟨hk2,he,hz⟩:=nodeN_some hn;obtain ⟨g1,g2,g3⟩:=node_guard hk2 he;obtain ⟨z1,z2⟩:=sizeN_rng hk hz;obtain ⟨cb,hcb⟩:=Int.eq_ofNat_of_zero_le g1;obtain ⟨zz,rfl⟩:=Int.eq_ofNat_of_zero_le (show 0≤z by omega);refine cbF rfl ?_
  (refine ⟨_,h.ldc rfl,?_⟩)
  refine callV_mk ?_;have hgoN:c.bits.toNat=cb:=by omega
  rw[hcb];refine lookup_next_spec ha hl h.up3 (by omega) (fun e w h=>?_) (fun e w h=>?_)
  ·have hs:stepN bits addr c left=(61,(0,0),left):=by unfold stepN;rw[hn];simp only[hgoN];rw[if_pos e]
   rw[hs] at h1;intro k hk';refine cbT rfl ?_;apply hk';refine cbT rfl ?_
   repeat first|refine h.lc_2 rfl ?_|refine h.stLc rfl rfl fun w h=>?_
   exact h1 (by simp) _ (left:Int) h.sub
  ·intro k hk'
   refine cbF rfl ?_
   (refine ⟨_,h.ldc rfl,?_⟩)
   apply hk';refine cne (fun e2=>?_) (fun e2=>?_)
   ·have hs:stepN bits addr c left=(61,(0,0),left):=by unfold stepN;rw[hn];simp only[hgoN];rw[if_neg (by omega),if_pos e2]
    rw[hs] at h1
    repeat first|refine h.lc_2 rfl ?_|refine h.stLc rfl rfl fun w h=>?_
    exact h1 (by simp) _ ((left-cb:Nat):Int) h.sub
   ·refine callV_mk ?_
    refine lookup_next_spec ha (by omega) h (by omega) (fun e3 w h=>?_) (fun e3 w h=>?_)
    ·have hs:stepN bits addr c left=(62,(0,0),left):=by unfold stepN;rw[hn];simp only[hgoN];rw[if_neg (by omega),if_neg (by omega),if_pos (by omega)]
     rw[hs] at h1;refine cbT rfl ?_
     repeat first|refine h.lc_2 rfl ?_|refine h.stLc rfl rfl fun w h=>?_
     exact h1 (by simp) _ ((left-cb:Nat):Int) h.sub
    ·have hs:stepN bits addr c left=(0,(c.obj,((addr / 2^(left-cb-zz)%2^zz:Nat):Int)),left-cb-zz):=by
      unfold stepN;rw[hn];simp only[hgoN,Int.toNat_natCast];rw[if_neg (by omega),if_neg (by omega),if_neg (by omega)]
     rw[hs] at h2;refine cbF rfl ?_;have:=mod_small (addr / 2^(left-cb-zz)) zz (by omega);rw[wr (by omega) (by omega)]
     repeat first|refine h.lc_2 rfl ?_|refine ⟨_,h.ldc rfl,?_⟩|refine h.stLc rfl rfl fun w h=>?_
     exact h2 rfl _ h.sub
end
theorem there_of_step {bits:List Int} {addr left:Nat} {c:Cap} (hb:∀z∈bits,z= -1∨(1≤z/\z≤8)) (h:(stepN bits addr c left).1=0):
  thereB bits (stepN bits addr c left).2.1=true/\(stepN bits addr c left).2.2<left:=by
 unfold stepN at h⊢;cases hn:nodeN bits c with
 |none=>rw[hn] at h;simp at h
 |some z=>
  rw[hn] at h;obtain ⟨hk2,he,hz⟩:=nodeN_some hn;simp only at h⊢;obtain ⟨_,hz2,hz3⟩:=sizeN_some hz
  have hzr:1≤z/\z≤8:=by
   rcases hb z (List.mem_of_getElem? hz2) with e|e
   ·exact absurd e hz3
   ·exact e
  by_cases e1:left<c.bits.toNat
  ·rw[if_pos e1] at h;simp at h
  rw[if_neg e1] at h⊢;by_cases e2:((addr / 2^(left-c.bits.toNat)%2^c.bits.toNat:Nat):Int)≠c.guard
  ·rw[if_pos e2] at h;simp at h
  rw[if_neg e2] at h⊢;by_cases e3:left-c.bits.toNat<z.toNat
  ·rw[if_pos e3] at h;simp at h
  rw[if_neg e3];refine ⟨?_,by show left-c.bits.toNat-z.toNat<left;omega⟩;unfold thereB;simp only[hz];rw[decide_eq_true_iff];have hm:addr / 2^(left-c.bits.toNat-z.toNat)%2^z.toNat<2^z.toNat:=Nat.mod_lt _ (Nat.two_pow_pos _);refine ⟨Int.natCast_nonneg _,?_⟩;rw[show ((2:Int)^z.toNat)=((2^z.toNat:Nat):Int) from by simp];exact Int.ofNat_lt.2 hm
theorem NOk.capR {bits:List Int} {H:Hs} (h:NOk bits H) (s:Slot):CapR ((H s).getD zeroCap):=by
 cases hs:H s with
 |none=>exact ⟨by decide,by decide,by decide,by decide⟩
 |some c=>exact (h.held s c hs).2.2.2
section
variable {B:Nat} {w0 w:World} {R L:List Asn} {b rb:Nat} {bits:List Int} {H:Hs}
theorem lookup_Slot_spec {addr:Nat} {depth:Int} {root:Cap} {K:Int->Int->Int->Pw} (hc:CapR root) (ha:addr<2^64) (h:Own B w0 w (NodesA b bits H::R))
  (hK:∀w',Own B w0 w' (NodesA b bits H::R)->K (slotT bits H root addr depth).1.1 (slotT bits H root addr depth).1.2 (slotT bits H root addr depth).2 w'):
  C.qcG (some ⟨b,0,none⟩) root.kind root.obj root.rights root.badge root.guard root.bits (addr:Int) depth K w:=by
 apply S.qcG0;have hk:=h.nok;refine h.al fun w1 h=>?_
 refine h.al fun w2 h=>?_
 intro k hk12
 have hT:(depth<1∨64<depth)->k true w2:=fun e=>by
  have hs:slotT bits H root addr depth=((0,0),1):=by unfold slotT;rw[if_pos e]
  rw[hs] at hK;apply hk12;refine cbT rfl ?_
  repeat first|refine h.lc_2 rfl ?_|refine h.stLc rfl rfl fun w h=>?_
  exact hK _ h.sub
 refine cdec (fun e=>hT (.inl e)) (fun e=>?_);by_cases e2:64<depth
 ·rw[decide_eq_true (by omega)];exact hT (.inr e2)
 rw[decide_eq_false (by omega)];have hs:slotT bits H root addr depth=slotN bits H addr depth.toNat root depth.toNat:=by unfold slotT;rw[if_neg (by omega)]
 rw[hs] at hK;obtain ⟨d,rfl⟩:=Int.eq_ofNat_of_zero_le (show 0≤depth by omega);rw[Int.toNat_natCast] at hK;apply hk12;refine cbF rfl ?_;refine h.al fun w3 h=>?_
 repeat first|refine h.al fun w h=>?_|refine h.lc_2 rfl ?_|refine h.stLc rfl rfl fun w h=>?_
 intro l hl
 have loop:∀(f left:Nat) (c:Cap) (cb:Nat) (w':World),1≤left->left≤f->left≤64->CapR c->
   Own B w0 w' (NodesA b bits H::BlkA w2.heap.size [.y (addr:Int), .z (left:Int)]::BlkA cb c.cells::BlkA w1.heap.size [.z 0, .z 0]::R)->
   slotN bits H addr f c left=slotN bits H addr d root d->l ⟨cb,0,none⟩ w':=by
  intro f
  induction f with
  |zero=>intro left c cb w' h1 h2;omega
  |succ f ih=>
   intro left c cb w' h1 h2 h64 hc h heq;apply hl
   repeat refine h.lc_2 rfl ?_
   refine lookup_step_spec hc ha h64 h (fun he w l' h=>?_) (fun he w h=>?_)
   ·(repeat first|refine h.al fun w h=>?_|refine h.stLc rfl rfl fun w h=>?_)
    intro k hk;refine cneT he ?_;apply hk;refine cbT rfl ?_
    repeat first|refine h.lc_2 rfl ?_|refine h.stLc rfl rfl fun w h=>?_
    have hs:slotN bits H addr (f+1) c left=((0,0),(stepN bits addr c left).1):=by rw[slotN,if_pos he]
    rw[←heq,hs] at hK;exact hK _ h.sub
   ·obtain ⟨ht,hlt⟩:=there_of_step hk.rng he
    generalize hst:stepN bits addr c left=st at he ht hlt h⊢;obtain ⟨er,s,left'⟩:=st;simp only at he ht hlt h⊢;subst he
    repeat first|refine h.al fun w h=>?_|refine h.stLc rfl rfl fun w h=>?_
    intro k hk2;refine cneF rfl ?_
    repeat first|refine ⟨_,h.ldc rfl,?_⟩|refine exs ?_
    by_cases hz:left'=0
    ·rw[show ((left':Int)==0)=true from by simpa using hz]
     apply hk2;refine cbT rfl ?_
     repeat first|refine h.lc_2 rfl ?_|refine h.stLc rfl rfl fun w h=>?_
     have hs:slotN bits H addr (f+1) c left=(s,0):=by rw[slotN,hst,if_neg (by simp),if_pos hz]
     rw[←heq,hs] at hK;exact hK _ h.sub
    ·rw[show ((left':Int)==0)=false from by simpa using hz]
     apply hk2;refine cbF rfl ?_
     (refine h.lc_2 rfl ?_)
     refine slots_Nodes_Get_spec (s:=s) h 1 rfl (fun hn=>by rw[ht] at hn;cases hn) fun _ w c' hc' h=>?_
     have hcR:CapR c':=by rw[hc'];exact hk.capR s
     repeat first|refine ⟨_,h.ldc rfl,?_⟩|refine h.stLc rfl rfl fun w h=>?_
     refine cne (fun e3=>?_) (fun e3=>?_)
     ·(repeat first|refine h.lc_2 rfl ?_|refine h.stLc rfl rfl fun w h=>?_)
      have hs:slotN bits H addr (f+1) c left=((0,0),62):=by rw[slotN,hst,if_neg (by simp),if_neg hz,if_pos (by simpa [hc'] using e3)]
      rw[←heq,hs] at hK;exact hK _ h.sub
     ·(repeat first|refine h.al fun w h=>?_|refine h.lc_2 rfl ?_|refine h.stLc rfl rfl fun w h=>?_)
      (try dsimp only[putAt,List.set_cons_zero,List.set_cons_succ] at h)
      refine ih left' c' _ _ (by omega) (by omega) (by omega) hcR h.sub ?_;rw[←heq];rw[slotN,hst,if_neg (by simp),if_neg hz,if_neg (by simpa [hc'] using e3),hc']
 (try dsimp only[putAt,List.set_cons_zero,List.set_cons_succ] at h)
 exact loop d d root _ _ (by omega) (by omega) (by omega) hc h.sub rfl
end
def getN (bits:List Int) (H:Hs) (s:Slot):Cap × Int:=if thereB bits s=false then (zeroCap,50) else ((H s).getD zeroCap,0)
theorem lt_mul_pow {a d k g m:Nat} (ha:a<2^d) (hg:g<2^k):a*2^k+g<2^(d+k):=by
 rw[Nat.pow_add];have:(a+1)*2^k≤2^d*2^k:=Nat.mul_le_mul_right _ ha;rw[Nat.succ_mul] at this;omega
theorem shl_u {a k d:Nat} (ha:a<2^d) (hd:d+k≤64):shlI .u64 (a:Int) (k:Int)=((a*2^k:Nat):Int):=by
 unfold shlI;rw[Int.toNat_natCast,show IntKind.u64.bits=64 from rfl,Nat.min_eq_left (by omega),show ((2:Int)^k)=((2^k:Nat):Int) from by simp,←Int.natCast_mul,wrap_u64,Nat.mod_eq_of_lt];have:=lt_mul_pow (m:=0) ha (Nat.two_pow_pos k);have h2:2^(d+k)≤2^64:=Nat.pow_le_pow_right (by omega) hd;omega
section
variable {B:Nat} {w0 w:World} {R L:List Asn} {b rb:Nat} {bits:List Int} {H:Hs}
theorem slots_Get_n {s:Slot} {K:Int->Int->Int->Int->Int->Int->Int->Pw} (h:Own B w0 w L) (i:Nat) (hi:L[i]?=some (NodesA b bits H))
  (hK:∀w' c e,(c,e)=getN bits H s->CapR c->Own B w0 w' L->K c.kind c.obj c.rights c.badge c.guard c.bits e w'):C.qL (some ⟨b,0,none⟩) s.1 s.2 K w:=by
 have hk:=(h.take i hi).nok;refine slots_Nodes_Get_spec h i hi (fun hn w h=>?_) (fun ht w c hc h=>?_)
 ·exact hK w zeroCap 50 (by unfold getN;rw[if_pos hn]) ⟨by decide,by decide,by decide,by decide⟩ h
 ·exact hK w c 0 (by unfold getN;rw[if_neg (by rw[ht];decide),hc]) (by rw[hc];exact hk.capR s) h
end
end Go.Proofs.YtogmbmdbgkopjaaGreat.Sl
end
section
set_option maxRecDepth 100000
namespace Go.Proofs.YtogmbmdbgkopjaaGreat
open Go Go.Vc Go.Proofs
theorem S.qde0 {K w}:Fr (C.qde K w) (Al w (.cells #[.slice none 0 0] 185) fun a=>K (some (.mk w.heap.size 0 none)) a):=okT Tryz.func42 (.v .w)
theorem S.qcu0 {a K w}:Fr (C.qcu a K w) (∃b,a=some b/\∃a:Sl,w.cell? b=some (.slice a.a a.len a.cap)/\C.qbE a (fun a b=>K a b) w):=okT Tryz.func79 (.v .w)
theorem S.qcf0 {a b c K w}:Fr (C.qcf a b c K w) (Al w (.cells #[.z b, .z c] 40) fun b=>LdL b (.mk w.heap.size 0 none) 0 [.o, .o] fun (c d:Int)=>C.qK a c d (fun b c=>bif decide (b≥0) then (K 70 c) else (Dr c fun b=>∃c,a=some c/\∃d:Sl,b.cell? c=some (.slice d.a d.len d.cap)/\LdL b (.mk w.heap.size 0 none) 0 [.o, .o] fun (c e:Int)=>(Al b (.cells #[.z c, .z e, .z 0] 282) fun c=>(∃e f,AppR Tryz.prog [183,183] 183 (.slice d.a d.len d.cap) (.slice (some (.mk b.heap.size 0 none)) 1 1) c e f/\∃b,a=some b/\(St f b (.slice e.a e.len e.cap) fun a=>K 0 a)/\True)/\True)/\True)) b):=okT Tryz.func107 (.v (.y (.v (.x .w)) (.y (.z (.o 0 510 (.o 1 224 (.o 2 224 (.o 3 224 (.o 4 224 (.o 5 0 (.o 6 0 (.e 7 (.e 8 (.o 9 0 (.o 10 0 (.e 11 .done))))))))))))) .w)))
theorem S.qbE0 {a K w}:Fr (C.qbE a K w) (∀b:Sl->Int->Pw,(∀(c:Sl) (d:Int) (e:World),(bif decide (d<(a.len:Int)) then (∃f,a.a=some f/\0≤d/\d<(a.len:Int)/\LdL e (f.add (d.toNat*3)) 0 [.o, .o, .o] fun (a f g:Int)=>Al e (.cells #[.z 0, .z 0, .z 0] 282) fun h=>StL h (.mk e.heap.size 0 none) 0 [.z a, .z f, .z g] fun a=>LdL a (.mk e.heap.size 0 none) 0 [.o, .o] fun (e f:Int)=>Al a (.cells #[.z e, .z f] 40) fun e=>∃f g,AppR Tryz.prog [79,79] 79 (.slice c.a c.len c.cap) (.slice (some (.mk a.heap.size 0 none)) 1 1) e f g/\b f (IntKind.i64.wrap (d+1)) g) else (K c e))->b c d e)->b ⟨none,0,0⟩ 0 w):=okT Tryz.func149 (.v (.v (.y (.v (.x (.t (some [(3,.c .s),(8,.c (.i .i64))]) .g52 .u))) .w)))
theorem S.qK0 {a b c K w}:Fr (C.qK a b c K w) (Al w (.cells #[.z b, .z c] 40) fun b=>∃c,a=some c/\∃a:Sl,b.cell? c=some (.slice a.a a.len a.cap)/\C.qn a (.func (.func 266) #[] #[.pointer (some (.mk w.heap.size 0 none))]) (fun a b=>K a b) b):=okT Tryz.func190 (.v .w)
theorem S.qcg0 {a b c d e K w}:Fr (C.qcg a b c d e K w) (Al w (.cells #[.z b, .z c] 40) fun b=>Al b (.cells #[.z d, .z e] 40) fun c=>LdL c (.mk w.heap.size 0 none) 0 [.o, .o] fun (d e:Int)=>C.qK a d e (fun c d=>bif decide (c<0) then (K 71 d) else (LdL d (.mk b.heap.size 0 none) 0 [.o, .o] fun (e f:Int)=>C.qK a e f (fun d e=>bif decide (d≥0) then (K 70 e) else (Dr e fun d=>∃e,a=some e/\∃a:Sl,d.cell? e=some (.slice a.a a.len a.cap)/\LdL d (.mk b.heap.size 0 none) 0 [.o, .o] fun (b e:Int)=>∃f,a.a=some f/\0≤c/\c<(a.len:Int)/\(StL d (f.add (c.toNat*3)) 0 [.z b, .z e] fun a=>K 0 a)/\True)) d)) c):=okT Tryz.func207 (.v (.v (.y .g48 (.y (.z (.o 0 48 (.o 1 48 (.o 2 48 (.o 3 48 (.o 4 32 (.o 5 0 .g49))))))) .w))))
theorem S.qbT0 {a b c K w}:Fr (C.qbT a b c K w) (Al w (.cells #[.z b, .z c] 40) fun b=>LdL b (.mk w.heap.size 0 none) 0 [.o, .o] fun (c d:Int)=>C.qK a c d (fun b c=>bif decide (b<0) then (K ⟨none,0,0⟩ c) else (Dr c fun c=>∃d,a=some d/\∃e:Sl,c.cell? d=some (.slice e.a e.len e.cap)/\(C.qcd a b (fun a c=>c.cell? d=some (.slice e.a e.len e.cap)/\0≤a/\a≤(e.cap:Int)/\0≤IntKind.i64.wrap (b+1)/\IntKind.i64.wrap (b+1)≤(a.toNat:Int)/\(C.qbE ⟨slA e.a ((IntKind.i64.wrap (b+1)).toNat) e.cap 3,a.toNat-((IntKind.i64.wrap (b+1)).toNat),e.cap-((IntKind.i64.wrap (b+1)).toNat)⟩ (fun a b=>K a b) c)/\True) c)/\True)) b):=okT Tryz.func209 (.v (.v (.y (.v (.x .w)) (.x (.z (.o 0 496 (.o 1 496 (.o 2 496 (.o 4 456 (.o 5 456 (.o 6 136 (.o 7 8 (.hold 3 256 3071 (.e 8 (.o 9 0 (.e 10 (.o 11 0 .done)))))))))))))))))
theorem S.qbP0 {a b c d K w}:Fr (C.qbP a b c d K w) (Al w (.cells #[.z a, .z b, .z c] 282) fun a=>LdL a (.mk w.heap.size 0 none) 0 [.o, .o] fun (b c:Int)=>LdL a d 0 [.o, .o] fun (d e:Int)=>∃f,EqB Tryz.prog .eql 40 (.tmp 5) (.tmp 6) (.agg #[.z b, .z c]) (.agg #[.z d, .z e]) f/\K f a):=okT Tryz.func266 (.v .w)
theorem S.qcA0 {a b c d e K w}:Fr (C.qcA a b c d e K w) (Al w (.cells #[.z b, .z c] 40) fun b=>Al b (.cells #[.z d, .z e] 40) fun c=>LdL c (.mk w.heap.size 0 none) 0 [.o, .o] fun (d e:Int)=>C.qK a d e (fun c d=>bif decide (c<0) then (K 71 d) else (LdL d (.mk b.heap.size 0 none) 0 [.o, .o] fun (e f:Int)=>C.qK a e f (fun d e=>bif decide (d≥0) then (K 70 e) else (Dr e fun d=>∃e,a=some e/\∃f:Sl,d.cell? e=some (.slice f.a f.len f.cap)/\LdL d (.mk b.heap.size 0 none) 0 [.o, .o] fun (b e:Int)=>∃g,a=some g/\∃h:Sl,d.cell? g=some (.slice h.a h.len h.cap)/\∃g,h.a=some g/\0≤c/\c<(h.len:Int)/\∃h,d.cell? ((g.add (c.toNat*3)).add 2)=some (.z h)/\(Al d (.cells #[.z b, .z e, .z (IntKind.i64.wrap (h+1))] 282) fun b=>(C.ql f (IntKind.i64.wrap (c+1)) ⟨some (.mk d.heap.size 0 none),1,1⟩ (fun b c=>∃d,a=some d/\(St c d (.slice b.a b.len b.cap) fun a=>K 0 a)/\True) b)/\True)/\True)) d)) c):=okT Tryz.func281 (.v (.v (.y .g48 (.y (.z (.o 0 1048574 (.o 1 524256 (.o 2 524256 (.o 3 524256 (.o 4 524256 (.o 5 524160 (.o 6 524160 (.o 7 130816 (.o 8 4096 (.o 9 4096 (.o 10 4096 (.o 11 4096 (.o 12 0 (.o 13 0 (.o 14 0 (.o 15 0 (.o 16 0 (.o 17 0 (.e 18 (.e 19 (.o 20 0 (.o 21 0 (.e 22 .done)))))))))))))))))))))))) .w))))
theorem S.qck0 {a b c K w}:Fr (C.qck a b c K w) (Al w (.cells #[.z b, .z c] 40) fun b=>LdL b (.mk w.heap.size 0 none) 0 [.o, .o] fun (c d:Int)=>C.qK a c d (fun b c=>bif decide (b<0) then (K 71 c) else (Dr c fun c=>∃d,a=some d/\∃e:Sl,c.cell? d=some (.slice e.a e.len e.cap)/\(C.qcd a b (fun c f=>f.cell? d=some (.slice e.a e.len e.cap)/\0≤c/\c≤(e.cap:Int)/\0≤IntKind.i64.wrap (b+1)/\IntKind.i64.wrap (b+1)≤(c.toNat:Int)/\∀d:Int->Pw,(∀(f:Int) (g:World),(bif decide (f<((c.toNat-((IntKind.i64.wrap (b+1)).toNat):Nat):Int)) then (∃a,slA e.a ((IntKind.i64.wrap (b+1)).toNat) e.cap 3=some a/\0≤f/\f<((c.toNat-((IntKind.i64.wrap (b+1)).toNat):Nat):Int)/\∃h,g.cell? ((a.add (f.toNat*3)).add 2)=some (.z h)/\∃a,slA e.a ((IntKind.i64.wrap (b+1)).toNat) e.cap 3=some a/\0≤f/\f<((c.toNat-((IntKind.i64.wrap (b+1)).toNat):Nat):Int)/\St g ((a.add (f.toNat*3)).add 2) (.z (IntKind.i64.wrap (h-1))) fun a=>d (IntKind.i64.wrap (f+1)) a) else (∃c,a=some c/\∃d:Sl,g.cell? c=some (.slice d.a d.len d.cap)/\C.qm d b (IntKind.i64.wrap (b+1)) (fun b c=>∃d,a=some d/\St c d (.slice b.a b.len b.cap) fun a=>K 0 a) g))->d f g)->d 0 f) c)/\True)) b):=okT Tryz.func284 (.v (.v (.y (.v (.x .w)) (.y (.z (.o 0 496 (.o 1 496 (.o 2 496 (.o 4 456 (.o 5 456 (.o 6 136 (.o 7 8 (.hold 3 256 2047 (.e 8 (.o 9 0 (.o 10 0 .done)))))))))))) (.y (.v (.x (.t (some [(25,.c (.i .i64))]) .g52 .u))) (.v .w))))))
theorem S.qcd0 {a b K w}:Fr (C.qcd a b K w) (∀c:Int->Pw,(∀(d:Int) (e:World),(Dr e fun e=>∃f,a=some f/\∃g:Sl,e.cell? f=some (.slice g.a g.len g.cap)/\bif decide (d<(g.len:Int)) then (∃f,a=some f/\∃g:Sl,e.cell? f=some (.slice g.a g.len g.cap)/\∃f,g.a=some f/\0≤d/\d<(g.len:Int)/\∃g,e.cell? ((f.add (d.toNat*3)).add 2)=some (.z g)/\∃f,a=some f/\∃a:Sl,e.cell? f=some (.slice a.a a.len a.cap)/\∃f,a.a=some f/\0≤b/\b<(a.len:Int)/\∃a,e.cell? ((f.add (b.toNat*3)).add 2)=some (.z a)/\bif decide (g>a) then (c (IntKind.i64.wrap (d+1)) e) else (K d e)) else (K d e))->c d e)->c (IntKind.i64.wrap (b+1)) w):=okT Tryz.func290 (.v (.v (.y (.x (.t (some [(5,.c (.i .i64))]) (.y (.y (.z (.o 0 62 (.o 1 0 (.o 2 0 (.o 3 0 (.o 4 0 (.o 5 0 (.o 6 0 (.o 7 0 (.o 8 16715776 (.o 9 16715776 (.o 10 16715776 (.o 11 16715776 (.o 12 16711680 (.o 13 16711680 (.o 14 16711680 (.o 15 16711680 (.o 16 1048576 (.o 17 1048576 (.o 18 1048576 (.o 19 1048576 (.o 20 0 (.o 21 0 (.o 22 0 (.o 23 0 (.o 24 0 (.o 25 0 .done))))))))))))))))))))))))))) .w) .w) .u)) .w)))
theorem S.qcb0 {a b c d e f K w}:Fr (C.qcb a b c d e f K w) (Al w (.cells #[.y a, .z b, .y c] 86) fun a=>Al a (.cells #[.y 0, .z 0, .y 0] 86) fun b=>LdL b (.mk w.heap.size 0 none) 0 [.u, .o, .u] fun (c g h:Int)=>C.qcz c g h (fun b c=>C.qcK d e (fun c d e=>bif b !=0 then (StL e (.mk a.heap.size 0 none) 0 [.y 0, .z 0, .y 0] fun c=>LdL c (.mk a.heap.size 0 none) 0 [.u, .o, .u] fun (a d e:Int)=>K ⟨none,0,0⟩ a d e b c) else (bif d !=0 then (StL e (.mk a.heap.size 0 none) 0 [.y 0, .z 0, .y 0] fun b=>LdL b (.mk a.heap.size 0 none) 0 [.u, .o, .u] fun (a c e:Int)=>K ⟨none,0,0⟩ a c e d b) else (∀b:Bool->Pw,(∀(d:Bool) (e:World),(bif d then (StL e (.mk a.heap.size 0 none) 0 [.y 0, .z 0, .y 0] fun b=>LdL b (.mk a.heap.size 0 none) 0 [.u, .o, .u] fun (a c d:Int)=>K ⟨none,0,0⟩ a c d 1 b) else (∃b,e.cell? (Addr.mk w.heap.size 0 none)=some (.y b)/\∃d,e.cell? ((Addr.mk w.heap.size 0 none).add 2)=some (.y d)/\C.qdm (IntKind.u64.wrap (b+d)) c (fun b _ e=>Dr e fun d=>∃e,d.cell? (Addr.mk w.heap.size 0 none)=some (.y e)/\∃g,d.cell? ((Addr.mk w.heap.size 0 none).add 1)=some (.z g)/\0≤g/\0≤c/\bif decide ((IntKind.u64.wrap (b+(shlI .u64 (IntKind.u64.wrap f) c)))>(IntKind.u64.wrap (e+(shlI .u64 1 g)))) then (StL d (.mk a.heap.size 0 none) 0 [.y 0, .z 0, .y 0] fun b=>LdL b (.mk a.heap.size 0 none) 0 [.u, .o, .u] fun (a c d:Int)=>K ⟨none,0,0⟩ a c d 81 b) else (∀e:Int->Sl->Int->Pw,(∀(b:Int) (d:Sl) (g:Int) (h:World),(bif decide (g<f) then (Al h (.cells #[.y b] 31) fun a=>∃f i,AppR Tryz.prog [240,240] 240 (.slice d.a d.len d.cap) (.slice (some (.mk h.heap.size 0 none)) 1 1) a f i/\0≤c/\e (IntKind.u64.wrap (b+(shlI .u64 1 c))) f (IntKind.i64.wrap (g+1)) i) else (∃c,h.cell? (Addr.mk w.heap.size 0 none)=some (.y c)/\St h ((Addr.mk w.heap.size 0 none).add 2) (.y (IntKind.u64.wrap (b-c))) fun b=>Dr b fun b=>LdL b (.mk w.heap.size 0 none) 0 [.u, .o, .u] fun (c e f:Int)=>(StL b (.mk a.heap.size 0 none) 0 [.y c, .z e, .y f] fun b=>LdL b (.mk a.heap.size 0 none) 0 [.u, .o, .u] fun (a c e:Int)=>K d a c e 0 b)/\True))->e b d g h)->e b ⟨none,0,0⟩ 0 d)) e))->b d e)->(bif decide (f<1) then (b true e) else (b (decide (f>64)) e))))) c) b):=okT Tryz.func201 (.v (.v (.v (.y (.x (.v (.y .w (.v (.y .w (.y (.r (some [(36,.c .b)]) .done) (.x .w))))))) (.v (.y (.z (.o 0 28 (.o 1 28 (.o 2 0 (.o 3 0 (.o 4 0 (.o 5 0 (.o 6 0 .done)))))))) (.y (.v (.x .w)) (.v (.y (.v (.x (.t (some [(14,.c (.i .u64)),(17,.c .s),(70,.c (.i .i64))]) .g52 .u))) (.v (.x (.z (.o 0 2 (.o 1 4 (.o 2 0 (.e 3 (.o 4 0 .done)))))))))))))))))
theorem S.qcw0 {a b c K w}:Fr (C.qcw a b c K w) (Al w (.cells #[.y a, .z b, .y c] 86) fun a=>Al a (.cells #[.y 0, .z 0, .y 0] 86) fun b=>St b ((Addr.mk w.heap.size 0 none).add 2) (.y 0) fun b=>LdL b (.mk w.heap.size 0 none) 0 [.u, .o, .u] fun (c d e:Int)=>StL b (.mk a.heap.size 0 none) 0 [.y c, .z d, .y e] fun b=>LdL b (.mk a.heap.size 0 none) 0 [.u, .o, .u] fun (a c d:Int)=>K a c d b):=okT Tryz.func211 (.v (.v .w))
theorem S.qcz0 {a b c K w}:Fr (C.qcz a b c K w) (Al w (.cells #[.y a, .z b, .y c] 86) fun a=>∀b:Bool->Pw,(∀(a:Bool) (c:World),(bif a then (K 1 c) else (∃a,c.cell? (Addr.mk w.heap.size 0 none)=some (.y a)/\∃b,c.cell? ((Addr.mk w.heap.size 0 none).add 1)=some (.z b)/\C.qdm a b (fun a b c=>Dr c fun c=>bif b !=0 then (K 1 c) else (∃b,c.cell? (Addr.mk w.heap.size 0 none)=some (.y b)/\bif a !=b then (K 1 c) else (∃a,c.cell? ((Addr.mk w.heap.size 0 none).add 2)=some (.y a)/\∃b,c.cell? ((Addr.mk w.heap.size 0 none).add 1)=some (.z b)/\0≤b/\bif decide (a>(shlI .u64 1 b)) then (K 1 c) else (K 0 c)))) c))->b a c)->(∃c,a.cell? ((Addr.mk w.heap.size 0 none).add 1)=some (.z c)/\bif decide (c<0) then (b true a) else (∃c,a.cell? ((Addr.mk w.heap.size 0 none).add 1)=some (.z c)/\bif decide (c>20) then (b true a) else (∃c,a.cell? (Addr.mk w.heap.size 0 none)=some (.y c)/\b (decide (c>1099511627776)) a)))):=okT Tryz.func276 (.v (.y (.y (.r (some [(17,.c .b)]) .done) (.x .w)) (.v (.y (.y (.z (.o 0 0 (.o 1 0 (.o 2 0 (.o 3 48 (.o 4 0 (.o 5 0 (.o 6 0 (.o 7 0 (.o 8 0 (.o 9 14336 (.o 10 14336 (.o 11 0 (.o 12 0 (.o 13 0 (.o 14 0 (.o 15 0 .done))))))))))))))))) (.x .w)) .w))))
theorem S.qcK0 {a b K w}:Fr (C.qcK a b K w) (bif a==1 then (C.qby b 4 20 0 (fun a b c=>K a b c) w) else (bif a==2 then (C.qby b 1 8 2 (fun a b c=>K a b c) w) else (∀b:Bool->Pw,(∀(c:Bool) (d:World),(bif c then (K 0 80 d) else (C.qce (fun b c d e f g h i j k l=>0≤a/\a<10/\∃m,(#[.z b, .z c, .z d, .z e, .z f, .z g, .z h, .z i, .z j, .z k]:Array Value)[a.toNat*1]?=some (.z m)/\K m 0 l) d))->b c d)->(bif decide (a<0) then (b true w) else (bif decide (a≥10) then (b true w) else (C.qce (fun c d e f g h i j k l m=>0≤a/\a<10/\∃n,(#[.z c, .z d, .z e, .z f, .z g, .z h, .z i, .z j, .z k, .z l]:Array Value)[a.toNat*1]?=some (.z n)/\b (n==0) m) w)))))):=okT Tryz.func277 (.v (.y (.v .g48) (.y (.y (.r (some [(30,.c .b)]) .done) (.x .w)) .w)))
theorem S.qby0 {a b c d K w}:Fr (C.qby a b c d K w) (∀e:Bool->Pw,(∀(b:Bool) (c:World),(bif b then (K 0 1 c) else (K (IntKind.i64.wrap (a+d)) 0 c))->e b c)->(bif decide (a<b) then (e true w) else (e (decide (a>c)) w))):=okT Tryz.func328 (.v (.y (.y (.r (some [(17,.c .b)]) .done) (.x .w)) .w))
theorem S.qce0 {K w}:Fr (C.qce K w) (Al w (.cells #[.z 0, .z 0, .z 0, .z 0, .z 0, .z 0, .z 0, .z 0, .z 0, .z 0] 395) fun a=>StL a (.mk w.heap.size 0 none) 0 [.z 0, .z 0, .z 0, .z 5, .z 2, .z 2, .z 6, .z 6, .z 6, .z 0] fun a=>LdL a (.mk w.heap.size 0 none) 0 [.o, .o, .o, .o, .o, .o, .o, .o, .o, .o] fun (b c d e f g h i j k:Int)=>K b c d e f g h i j k a):=okT Tryz.func329 (.v .w)
end Go.Proofs.YtogmbmdbgkopjaaGreat
end
section
set_option maxRecDepth 8000
namespace Go.Proofs.YtogmbmdbgkopjaaGreat
open Go Go.Vc Go.Proofs
structure Unt where
 base:Nat
 bits:Nat
 used:Nat
deriving DecidableEq
def zU:Unt:=⟨0,0,0⟩
def untE:EncT Unt:=⟨3,fun u=>[.y (u.base:Int), .z (u.bits:Int), .y (u.used:Int)],fun _=>rfl,fun x v h=>by
 simp only[List.mem_cons,List.not_mem_nil,or_false] at h;rcases h with rfl|rfl|rfl<;>rfl,by decide⟩
def wE:EncT Nat:=⟨1,fun x=>[.y (x:Int)],fun _=>rfl,fun x v h=>by
 simp only[List.mem_cons,List.not_mem_nil,or_false] at h;subst h;rfl,by decide⟩
structure UOk (u:Unt):Prop where
 bits:u.bits≤20
 top:u.base+2^u.bits≤2^20
 dvd:u.base%2^u.bits=0
 used:u.used≤2^u.bits
def upN (v n:Nat):Nat:=(v+(2^n-1)) / 2^n*2^n
def sizeK (kind bits:Int):Int × Int:=
 if kind=1 then (if 4≤bits/\bits≤20 then (bits,0) else (0,1))
 else if kind=2 then (if 1≤bits/\bits≤8 then (bits+2,0) else (0,1))
 else if kind=3 then (5,0) else if kind=4∨kind=5 then (2,0) else if kind=6∨kind=7∨kind=8 then (6,0) else (0,80)
def placeU (u:Unt) (kind bits n:Int):List Nat × Unt × Int:=
 if (sizeK kind bits).2≠0 then ([],zU,(sizeK kind bits).2) else if n<1∨64<n then ([],zU,1)
 else if u.base+2^u.bits<upN (u.base+u.used) (sizeK kind bits).1.toNat+n.toNat*2^(sizeK kind bits).1.toNat then ([],zU,81)
 else ((List.range n.toNat).map fun i=>upN (u.base+u.used) (sizeK kind bits).1.toNat+i*2^(sizeK kind bits).1.toNat,
  { u with used:=upN (u.base+u.used) (sizeK kind bits).1.toNat+n.toNat*2^(sizeK kind bits).1.toNat-u.base},0)
theorem sizeK_le {kind bits:Int}:0≤(sizeK kind bits).1/\(sizeK kind bits).1≤20:=by
 unfold sizeK
 repeat' split
 all_goals (dsimp only;omega)
theorem upN_le (v n:Nat):v≤upN v n/\upN v n<v+2^n:=by
 unfold upN;have hp:0<2^n:=Nat.two_pow_pos n;have h1:=Nat.div_add_mod (v+(2^n-1)) (2^n);have h2:=Nat.mod_lt (v+(2^n-1)) hp;rw[Nat.mul_comm] at h1;omega
theorem upN_self {v n:Nat} (h:v%2^n=0):upN v n=v:=by
 have hp:0<2^n:=Nat.two_pow_pos n;have h1:=upN_le v n;have h2:upN v n%2^n=0:=by unfold upN;exact Nat.mul_mod_left _ _
 obtain ⟨a,ha⟩:=Nat.dvd_of_mod_eq_zero h;obtain ⟨c,hc⟩:=Nat.dvd_of_mod_eq_zero h2;rw[hc,ha] at h1;have h3:a≤c:=Nat.le_of_mul_le_mul_left h1.1 hp;have h4:c<a+1:=Nat.lt_of_mul_lt_mul_left (a:=2^n) (by rw[Nat.mul_add];omega);rw[hc,ha,show c=a from by omega]
theorem andNot_val (v n:Nat) (hv:v<2^64) (hn:n≤64):andNotI .u64 (v:Int) ((2^n-1:Nat):Int)=((v / 2^n*2^n:Nat):Int):=by
 have hp:0<2^n:=Nat.two_pow_pos n;have hle:2^n≤2^64:=Nat.pow_le_pow_right (by omega) hn;unfold andNotI;rw[Sl.bv_of,Sl.bv_of];have hgl:∀(z j:Nat),j<64->(BitVec.ofNat 64 z).getLsbD j=z.testBit j:=fun z j hj=>by rw[BitVec.getLsbD_ofNat];simp[hj]
 have hbit:∀j,j<64->(BitVec.ofNat 64 v &&& ~~~ BitVec.ofNat 64 (2^n-1)).toNat.testBit j=(v.testBit j&& !decide (j<n)):=fun j hj=>by
  rw[BitVec.testBit_toNat,BitVec.getLsbD_and,BitVec.getLsbD_not,hgl _ _ hj,hgl _ _ hj,Nat.testBit_two_pow_sub_one];simp[hj]
 have hlt:=(BitVec.ofNat 64 v &&& ~~~ BitVec.ofNat 64 (2^n-1)).isLt;show IntKind.u64.wrap (((BitVec.ofNat 64 v &&& ~~~ BitVec.ofNat 64 (2^n-1)).toNat:Nat):Int)=_;generalize hz:(BitVec.ofNat 64 v &&& ~~~ BitVec.ofNat 64 (2^n-1)).toNat=z at hbit hlt;rw[Sl.wrap_u64,Nat.mod_eq_of_lt hlt];congr 1;have hdm:v / 2^n*2^n≤v:=Nat.div_mul_le_self _ _;apply Nat.eq_of_testBit_eq;intro i;by_cases h64:i<64
 ·rw[hbit i h64,Nat.testBit_mul_two_pow,Nat.testBit_div_two_pow]
  by_cases hin:i<n
  ·simp[hin];omega
  ·simp[hin,Nat.sub_add_cancel (Nat.le_of_not_lt hin)];intro _;omega
 ·rw[Nat.testBit_lt_two_pow (Nat.lt_of_lt_of_le hlt (Nat.pow_le_pow_right (by omega) (by omega))),Nat.testBit_lt_two_pow (Nat.lt_of_lt_of_le (Nat.lt_of_le_of_lt hdm hv) (Nat.pow_le_pow_right (by omega) (by omega)))]
section
variable {B:Nat} {w0 w:World} {R L:List Asn}
theorem add64_run (x y:Nat) (w:World):ExtR Tryz.prog 331 #[.y (x:Int), .y (y:Int), .y (0:Int)] w (.tuple #[.y (((x+y)%18446744073709551616:Nat):Int), .y (((x+y) / 18446744073709551616:Nat):Int)]) w:=by
 unfold ExtR;rw[run_callFunc_extern Tryz.func331 (by kernel_rfl) (by kernel_rfl) (by kernel_rfl) (e:=add64Entry) (by kernel_rfl),run_add64 (x:Int) (y:Int) 0 (by omega) (by omega) (by omega) (by omega)];simp only[Result.andThen,Int.add_zero];congr 5
theorem words_Up_spec {v n:Nat} {K:Int->Int->Pw} (hv:v<2^62) (hn:n≤60) (h:K ((upN v n:Nat):Int) 0 w):C.qdm (v:Int) (n:Int) K w:=by
 apply S.qdm0;have e62:(2:Nat)^62=4611686018427387904:=by decide
 have hle:2^n≤2^60:=Nat.pow_le_pow_right (by omega) hn;have e60:(2:Nat)^60=1152921504606846976:=by decide
 intro k hk;refine cdecF (by omega) ?_;apply hk;rw[decide_eq_false (by omega)];refine cbF rfl ?_;refine Sl.words_low_spec (by omega) ?_;refine ⟨_,_,w,add64_run v (2^n-1) w,?_⟩;rw[Nat.div_eq_of_lt (by omega),Nat.mod_eq_of_lt (by omega)];refine cneF rfl ?_;have h64:(2:Nat)^64=18446744073709551616:=by decide
 rw[andNot_val _ _ (by omega) (by omega)];exact h
theorem between_spec {n a c d:Int} {K:Int->Int->Pw} (hb:a≤n/\n≤c->0≤n+d/\n+d≤1000) (h:K (if a≤n/\n≤c then n+d else 0) (if a≤n/\n≤c then 0 else 1) w):C.qby n a c d K w:=by
 apply S.qby0;intro k hk;refine cdec (fun e=>?_) (fun e=>?_)
 ·apply hk
  rw[if_neg (by omega),if_neg (by omega)] at h;exact cbT rfl h
 ·apply hk
  by_cases e2:n>c
  ·rw[decide_eq_true e2]
   rw[if_neg (by omega),if_neg (by omega)] at h;exact cbT rfl h
  ·rw[decide_eq_false e2]
   have:=hb (by omega);rw[if_pos (by omega),if_pos (by omega)] at h;rw[wr (by omega) (by omega)];exact cbF rfl h
theorem sizes_spec {K:Int->Int->Int->Int->Int->Int->Int->Int->Int->Int->Pw} (h:Own B w0 w R) (hK:∀w',Own B w0 w' R->K 0 0 0 5 2 2 6 6 6 0 w'):C.qce K w:=by
 apply S.qce0;refine h.al fun w1 h=>?_
 generalize w.heap.size=c at h⊢;refine h.stLc rfl rfl fun w h=>?_
 (try dsimp only[putAt,List.set_cons_zero,List.set_cons_succ] at h)
 refine h.lc_10 rfl ?_;exact hK w h.drop
theorem Size_spec {kind bits:Int} {K:Int->Int->Pw} (h:Own B w0 w R) (hK:∀w',Own B w0 w' R->K (sizeK kind bits).1 (sizeK kind bits).2 w'):C.qcK kind bits K w:=by
 apply S.qcK0;unfold sizeK at hK;refine ceq (fun e=>?_) (fun e=>?_)
 ·rw[if_pos e] at hK
  refine between_spec (by omega) ?_;have:=hK w h;split at this
  ·rename_i hb
   rw[if_pos hb,if_pos hb,Int.add_zero];exact this
  ·rename_i hb
   rw[if_neg hb,if_neg hb];exact this
 rw[if_neg e] at hK;refine ceq (fun e2=>?_) (fun e2=>?_)
 ·rw[if_pos e2] at hK
  refine between_spec (by omega) ?_;have:=hK w h;split at this
  ·rename_i hb
   rw[if_pos hb,if_pos hb];exact this
  ·rename_i hb
   rw[if_neg hb,if_neg hb];exact this
 rw[if_neg e2] at hK;intro k hk;refine cdec (fun e3=>?_) (fun e3=>?_)
 ·rw[if_neg (by omega),if_neg (by omega),if_neg (by omega)] at hK
  apply hk;exact cbT rfl (hK w h)
 refine cdec (fun e4=>?_) (fun e4=>?_)
 ·rw[if_neg (by omega),if_neg (by omega),if_neg (by omega)] at hK
  apply hk;exact cbT rfl (hK w h)
 refine sizes_spec h fun w h=>?_
 refine ⟨by omega,by omega,?_⟩;have hk2:kind=0∨kind=3∨kind=4∨kind=5∨kind=6∨kind=7∨kind=8∨kind=9:=by omega
 have fin:∀z:Int,(#[.z 0, .z 0, .z 0, .z 5, .z 2, .z 2, .z 6, .z 6, .z 6, .z 0]:Array Value)[kind.toNat*1]?=some (.z z)->z≠0->
   (∀w',Own B w0 w' R->K z 0 w')->k (z==0) w:=fun z hz z0 hK=>by
  rw[show (z==0)=false from by simpa using z0];apply hk;refine cbF rfl ?_;refine sizes_spec h fun w h=>?_
  exact ⟨by omega,by omega,z,hz,hK w h⟩
 have fin0:(∀w',Own B w0 w' R->K 0 80 w')->k ((0:Int)==0) w:=fun hK=>by
  apply hk;exact cbT rfl (hK w h)
 rcases hk2 with rfl|rfl|rfl|rfl|rfl|rfl|rfl|rfl
 ·exact ⟨0,rfl,fin0 hK⟩
 ·exact ⟨5,rfl,fin 5 rfl (by decide) hK⟩
 ·exact ⟨2,rfl,fin 2 rfl (by decide) hK⟩
 ·exact ⟨2,rfl,fin 2 rfl (by decide) hK⟩
 ·exact ⟨6,rfl,fin 6 rfl (by decide) hK⟩
 ·exact ⟨6,rfl,fin 6 rfl (by decide) hK⟩
 ·exact ⟨6,rfl,fin 6 rfl (by decide) hK⟩
 ·exact ⟨0,rfl,fin0 hK⟩
theorem shl1 {n:Nat} (hn:n≤62):shlI .u64 1 (n:Int)=((2^n:Nat):Int):=by
 have:=Sl.shl_u (a:=1) (k:=n) (d:=1) (by decide) (by omega);rw[Nat.one_mul] at this;exact this
theorem UOk.room {u:Unt} (hu:UOk u):2^u.bits≤2^20/\u.base≤2^20/\u.used≤2^20:=by
 have h1:=hu.top;have h2:=hu.used;have h3:0<2^u.bits:=Nat.two_pow_pos _;omega
theorem Check_spec {u:Unt} {K:Int->Pw} (hu:UOk u) (h:Own B w0 w R) (hK:∀w',Own B w0 w' R->K 0 w'):C.qcz (u.base:Int) (u.bits:Int) (u.used:Int) K w:=by
 apply S.qcz0;obtain ⟨r1,r2,r3⟩:=hu.room;have e20:(2:Nat)^20=1048576:=by decide
 have hb:=hu.bits;have e62:(2:Nat)^62=4611686018427387904:=by decide
 refine h.al fun w1 h=>?_
 generalize w.heap.size=c at h⊢;intro k hk;refine ⟨_,h.ldd rfl,cdecF (by omega) ?_⟩;refine ⟨_,h.ldd rfl,cdecF (by omega) ?_⟩;refine ⟨_,h.ldc rfl,?_⟩;apply hk;rw[decide_eq_false (by omega)];refine cbF rfl ?_;refine ⟨_,h.ldc rfl,_,h.ldd rfl,?_⟩;refine words_Up_spec (by omega) (by omega) ?_;refine h.dr fun w h=>?_
 refine cneF rfl ?_;refine ⟨_,h.ldc rfl,?_⟩;rw[upN_self hu.dvd];refine cneF rfl ?_;refine ⟨_,h.ldd rfl,_,h.ldd rfl,by omega,?_⟩;rw[shl1 (by omega)];have:=hu.used;refine cdecF (by omega) ?_;exact hK _ h.drop
theorem app1_w {s:Sl} {ys:List Nat} {y:Nat} {c:Nat} {L:List Asn} {k:Sl->Pw} [I:SlIn s L Nat wE ys] [J:Pick (SlT wE s ys) L R] (h:Own B w0 w (BlkA c [.y (y:Int)]::L)) (hbig:ys.length≤1000000000)
  (hk:∀s' w',s'.len=ys.length+1->Own B w0 w' (SlT wE s' (ys++ [y])::R)->k s' w'):
  ∃s' w',AppR Tryz.prog [240,240] 240 (.slice s.a s.len s.cap) (.slice (some (Addr.mk c 0 none)) 1 1) w s' w'/\k s' w':=
 Own.app1c (E:=wE) (y:=y) Tryz.underlying240 (show Tryz.prog.info? 31=some Tryz.t31 from by kernel_rfl) (zv:= .y 0) (by kernel_rfl) (by kernel_rfl) rfl (by decide) h (by
  have e:Tryz.t31.bytes=8:=by kernel_rfl
  rw[e];omega) hk
theorem Place_spec {u:Unt} {kind bits n:Int} {K:Sl->Int->Int->Int->Int->Pw} (hu:UOk u) (h:Own B w0 w R)
  (hK:∀s w',Own B w0 w' (SlT wE s (placeU u kind bits n).1::R)->K s ((placeU u kind bits n).2.1.base:Int) ((placeU u kind bits n).2.1.bits:Int) ((placeU u kind bits n).2.1.used:Int) (placeU u kind bits n).2.2 w'):C.qcb (u.base:Int) (u.bits:Int) (u.used:Int) kind bits n K w:=by
 apply S.qcb0;obtain ⟨r1,r2,r3⟩:=hu.room;have e20:(2:Nat)^20=1048576:=by decide
 have hb:=hu.bits;have e62:(2:Nat)^62=4611686018427387904:=by decide
 refine h.al fun w1 h=>?_
 generalize w.heap.size=c at h⊢;refine h.al fun w2 h=>?_
 generalize w1.heap.size=d at h⊢;refine h.lc_3 rfl ?_;refine Check_spec hu h fun w h=>?_
 refine Size_spec h fun w h=>?_
 refine cneF rfl ?_;unfold placeU at hK;have hs:=sizeK_le (kind:=kind) (bits:=bits);generalize sizeK kind bits=sz at hK hs⊢;obtain ⟨z,e⟩:=sz;dsimp only at hK hs⊢;obtain ⟨m,rfl⟩:=Int.eq_ofNat_of_zero_le hs.1;rw[Int.toNat_natCast] at hK;have hz2:2^m≤2^20:=Nat.pow_le_pow_right (by omega) (by omega)
 have bad:∀(q:Int) (w:World),(∀s w',Own B w0 w' (SlT wE s []::R)->K s 0 0 0 q w')->Own B w0 w (BlkA d [.y 0, .z 0, .y 0]::BlkA c [.y (u.base:Int), .z (u.bits:Int), .y (u.used:Int)]::R)->
   StL w (Addr.mk d 0 none) 0 [.y (0:Int), .z (0:Int), .y (0:Int)] fun w17=>LdL w17 (Addr.mk d 0 none) 0 [.u, .o, .u] fun (r18:Int) (r19:Int) (r20:Int)=>K ⟨none,0,0⟩ r18 r19 r20 q w17:=fun q w hK h=>by
  refine h.stLc rfl rfl fun w h=>?_
  (try dsimp only[putAt,List.set_cons_zero,List.set_cons_succ] at h)
  refine h.lc_3 rfl ?_;exact hK _ w (Own.nilS h.drop.drop)
 by_cases he:e≠0
 ·rw[if_pos he] at hK
  refine cneT he ?_;exact bad e w hK h
 rw[if_neg he] at hK;refine cneF (by omega) ?_;intro k hk;by_cases hn:n<1∨64<n
 ·rw[if_pos hn] at hK
  have:k true w:=by
   apply hk;refine cbT rfl ?_;exact bad 1 w hK h
  refine cdec (fun e1=>this) (fun e1=>?_);rw[decide_eq_true (by omega)];exact this
 rw[if_neg hn] at hK;obtain ⟨n,rfl⟩:=Int.eq_ofNat_of_zero_le (show 0≤n by omega);rw[Int.toNat_natCast] at hK;refine cdecF (by omega) ?_;rw[decide_eq_false (by omega)];apply hk;refine cbF rfl ?_;refine ⟨_,h.ldc rfl,_,h.ldd rfl,?_⟩
 have hw:IntKind.u64.wrap ((u.base:Int)+(u.used:Int))=((u.base+u.used:Nat):Int):=by
  have:=Sl.wrap_u64 (u.base+u.used);rw[Nat.mod_eq_of_lt (by omega)] at this;rw[←this];congr 1
 rw[hw];have hup:=upN_le (u.base+u.used) m;refine words_Up_spec (by omega) (by omega) ?_;refine h.dr fun w h=>?_
 refine ⟨_,h.ldc rfl,_,h.ldd rfl,by omega,by omega,?_⟩;generalize upN (u.base+u.used) m=q at hK hup⊢;have hnw:IntKind.u64.wrap (n:Int)=(n:Int):=by rw[Sl.wrap_u64,Nat.mod_eq_of_lt (by omega)]
 have hnm:n*2^m≤64*2^20:=Nat.mul_le_mul (by omega) hz2
 have w1:IntKind.u64.wrap ((q:Int)+shlI .u64 (IntKind.u64.wrap (n:Int)) (m:Int))=((q+n*2^m:Nat):Int):=by
  rw[hnw,Sl.shl_u (a:=n) (k:=m) (d:=7) (by omega) (by omega),←Int.natCast_add,Sl.wrap_u64,Nat.mod_eq_of_lt (by omega)]
 have w2:IntKind.u64.wrap ((u.base:Int)+shlI .u64 1 (u.bits:Int))=((u.base+2^u.bits:Nat):Int):=by
  rw[shl1 (by omega),←Int.natCast_add,Sl.wrap_u64,Nat.mod_eq_of_lt (by omega)]
 rw[w1,w2];by_cases hfit:u.base+2^u.bits<q+n*2^m
 ·rw[if_pos hfit] at hK
  refine cdecT (by omega) ?_;exact bad 81 w hK h
 rw[if_neg hfit] at hK;refine cdecF (by omega) ?_;intro l hl
 have loop:∀(r j:Nat) (o:Sl) (w:World),j+r=n->Own B w0 w (SlT wE o ((List.range j).map fun i=>q+i*2^m)::BlkA d [.y 0, .z 0, .y 0]::BlkA c [.y (u.base:Int), .z (u.bits:Int), .y (u.used:Int)]::R)->l ((q+j*2^m:Nat):Int) o (j:Int) w:=by
  intro r
  induction r with
  |zero=>
   intro j o w hj h;have hj:j=n:=by omega
   subst hj;apply hl;refine cdecF (by omega) ?_;refine ⟨_,h.ldc rfl,?_⟩
   have e3:IntKind.u64.wrap (((q+j*2^m:Nat):Int)-(u.base:Int))=((q+j*2^m-u.base:Nat):Int):=by
    rw[show (((q+j*2^m:Nat):Int)-(u.base:Int))=((q+j*2^m-u.base:Nat):Int) from by omega,Sl.wrap_u64,Nat.mod_eq_of_lt (by omega)]
   rw[e3];refine h.std rfl rfl fun w h=>?_
   refine h.dr fun w h=>?_
   (try dsimp only[putAt,List.set_cons_zero,List.set_cons_succ] at h)
   refine h.lc_3 rfl ⟨?_,trivial⟩;refine h.stLc rfl rfl fun w h=>?_
   (try dsimp only[putAt,List.set_cons_zero,List.set_cons_succ] at h)
   refine h.lc_3 rfl ?_;exact hK _ w h.rm1.rm1
  |succ r ih=>
   intro j o w hj h;have hjm:(j+1)*2^m≤n*2^m:=Nat.mul_le_mul_right _ (by omega);apply hl;refine cdecT (by omega) ?_;refine h.al fun w2 h=>?_
   generalize w.heap.size=g at h⊢;refine app1_w (s:=o) (y:=q+j*2^m) h (by simp;omega) fun o' w ho' h=>⟨by omega,?_⟩
   have e4:IntKind.u64.wrap (((q+j*2^m:Nat):Int)+shlI .u64 1 (m:Int))=((q+(j+1)*2^m:Nat):Int):=by
    rw[shl1 (by omega),←Int.natCast_add,Sl.wrap_u64,Nat.mod_eq_of_lt (by rw[Nat.add_mul] at hjm;omega)];rw[Nat.add_mul,Nat.one_mul,Nat.add_assoc]
   rw[e4,show IntKind.i64.wrap ((j:Int)+1)=((j+1:Nat):Int) from by rw[wr (by omega) (by omega)];omega];refine ih (j+1) o' w (by omega) ?_;rw[List.range_succ,List.map_append];exact h
 have:=loop n 0 ⟨none,0,0⟩ w (by omega) (Own.nilS h);rw[Nat.zero_mul,Nat.add_zero] at this;exact this
theorem Reset_spec {u:Unt} {K:Int->Int->Int->Pw} (h:Own B w0 w R) (hK:∀w',Own B w0 w' R->K (u.base:Int) (u.bits:Int) 0 w'):C.qcw (u.base:Int) (u.bits:Int) (u.used:Int) K w:=by
 apply S.qcw0;refine h.al fun w1 h=>?_
 generalize w.heap.size=c at h⊢;refine h.al fun w2 h=>?_
 generalize w1.heap.size=d at h⊢;refine h.std rfl rfl fun w h=>?_
 (try dsimp only[putAt,List.set_cons_zero,List.set_cons_succ] at h)
 refine h.lc_3 rfl ?_;refine h.stLc rfl rfl fun w h=>?_
 (try dsimp only[putAt,List.set_cons_zero,List.set_cons_succ] at h)
 refine h.lc_3 rfl ?_;exact hK w h.drop.drop
theorem UOk.place {u:Unt} (hu:UOk u) {kind bits n:Int} (h:(placeU u kind bits n).2.2=0):1≤n/\n≤64/\UOk (placeU u kind bits n).2.1/\(placeU u kind bits n).1.length=n.toNat/\(sizeK kind bits).2=0/\
  ∀a∈(placeU u kind bits n).1,a%2^(sizeK kind bits).1.toNat=0/\a+2^(sizeK kind bits).1.toNat≤2^20:=by
 unfold placeU at*
 have hs:=sizeK_le (kind:=kind) (bits:=bits);generalize sizeK kind bits=sz at*
 split at h
 ·rename_i h0;exact absurd h h0
 rename_i h0;rw[if_neg h0];split at h
 ·cases h
 rename_i h1;rw[if_neg h1];split at h
 ·cases h
 rename_i h2;rw[if_neg h2];have hup:=upN_le (u.base+u.used) sz.1.toNat;have ht:=hu.top;refine ⟨by omega,by omega,⟨hu.bits,hu.top,hu.dvd,?_⟩,by simp,by omega,fun a ha=>?_⟩
 ·dsimp only;omega
 ·obtain ⟨i,hi,rfl⟩:=List.mem_map.1 ha
  rw[List.mem_range] at hi;have hm:(i+1)*2^sz.1.toNat≤n.toNat*2^sz.1.toNat:=Nat.mul_le_mul_right _ (by omega);rw[Nat.add_mul,Nat.one_mul] at hm;refine ⟨?_,by omega⟩;rw[Nat.add_mul_mod_self_right];unfold upN;exact Nat.mul_mod_left _ _
end
end Go.Proofs.YtogmbmdbgkopjaaGreat
end
section
set_option maxRecDepth 100000
namespace Go.Proofs.YtogmbmdbgkopjaaGreat
open Go Go.Vc Go.Proofs
theorem S.qV0 {a b K w}:Fr (C.qV a b K w) (C.qo a b (fun a b=>K (decide (a≥0)) b) w):=okT Tryz.func103 (.v .w)
theorem S.qak0 {a b K w}:Fr (C.qak a b K w) (∀c:Pw,(∀d:World,(C.qcv (IntKind.u64.wrap (a.len:Int)) (IntKind.u64.wrap b) (fun b c d=>∀e:Bool->Pw,(∀(b:Bool) (d:World),(∀e:Pw,(∀b:World,(∃(d:Sl) (e:World),MkSlR Tryz.prog 26 (.z (IntKind.i64.wrap c)) (.z (IntKind.i64.wrap c)) b d e/\∃(b:Int) (c:World),CopyR Tryz.prog [26,26] 3 (.slice d.a d.len d.cap) (.slice a.a a.len a.cap) e b c/\∀a:Int->Pw,(∀(b:Int) (c:World),(bif decide (b<(d.len:Int)) then (Dr c fun c=>0≤b/\b≤(d.len:Int)/\0≤b/\b≤(d.cap:Int)/\(∃(e:Int) (f:World),CopyR Tryz.prog [26,26] 3 (.slice (slA d.a b.toNat d.cap 1) (d.len-b.toNat) (d.cap-b.toNat)) (.slice (slA d.a 0 d.cap 1) (b.toNat-0) (d.cap-0)) c e f/\a (IntKind.i64.wrap (b+e)) f)/\True) else (K d c))->a b c)->a b c)->e b)->(bif b then (False) else (e d)))->e b d)->(bif decide (b>0) then (e true d) else (e (decide (c>9223372036854775807)) d))) d)->c d)->(bif decide (b<0) then (False) else (c w))):=okT Tryz.func104 (.v (.y .g50 (.v (.y (.y .g47 (.t (some []) .u .u)) (.v (.v (.y (.x (.t (some [(8,.c (.i .i64))]) (.y (.v .w) (.x (.z (.o 0 254 (.o 1 116 (.o 2 112 (.o 3 112 (.o 4 32 (.o 5 0 (.o 6 0 (.e 7 (.o 8 0 (.o 9 0 .done))))))))))))) .u)) .w)))))))
theorem S.qy0 {a b K w}:Fr (C.qy a b K w) (C.qap a (fun a c=>C.qbW a b (fun b=>K a b) c) w):=okT Tryz.func114 (.v (.v (.v .w)))
theorem S.qo0 {a b K w}:Fr (C.qo a b K w) (∀c:Int->Pw,(∀(d:Int) (e:World),(bif decide (d<(a.len:Int)) then (∃f,a.a=some f/\0≤d/\d<(a.len:Int)/\∃a,e.cell? (f.add (d.toNat*1))=some (.z a)/\CallV Tryz.prog (b) [.z a] e fun a b=>∃e,a= .returned (.bool e)/\bif e then (K d b) else (c (IntKind.i64.wrap (d+1)) b)) else (K (-1) e))->c d e)->c 0 w):=okT Tryz.func186 .g14
theorem S.qap0 {a K w}:Fr (C.qap a K w) (C.qcN ⟨none,0,0⟩ a (fun a b=>K a b) w):=okT Tryz.func194 (.v .w)
theorem S.qx0 {a K w}:Fr (C.qx a K w) (Al w (.cells #[.slice a.a a.len a.cap] 79) fun a=>K (.func (.func 291) #[] #[.pointer (some (.mk w.heap.size 0 none))]) a):=okT Tryz.func210 (.v .w)
theorem S.qal0 {a b c K w}:Fr (C.qal a b c K w) (0≤(a.len:Int)/\(a.len:Int)≤(a.cap:Int)/\0≤c/\c≤(((a.len:Int).toNat:Nat):Int)/\0≤b/\b≤(c.toNat:Int)/\bif b==c then (K a w) else (Dr w fun d=>0≤b/\b≤(a.cap:Int)/\0≤c/\c≤(a.len:Int)/\(∃e f,AppR Tryz.prog [26,26] 26 (.slice (slA a.a 0 a.cap 1) (b.toNat-0) (a.cap-0)) (.slice (slA a.a c.toNat a.cap 1) (a.len-c.toNat) (a.cap-c.toNat)) d e f/\0≤(a.len:Int)/\(a.len:Int)≤(e.cap:Int)/\0≤(e.len:Int)/\(e.len:Int)≤(((a.len:Int).toNat:Nat):Int)/\∃b:World,ClearR Tryz.prog [26] 0 (.slice (slA e.a ((e.len:Int).toNat) e.cap 1) (((a.len:Int).toNat)-((e.len:Int).toNat)) (e.cap-((e.len:Int).toNat))) f b/\K e b)/\True)):=okT Tryz.func236 .g9
theorem S.qn0 {a b K w}:Fr (C.qn a b K w) (∀c:Int->Pw,(∀(d:Int) (e:World),(bif decide (d<(a.len:Int)) then (∃f,a.a=some f/\0≤d/\d<(a.len:Int)/\LdL e (f.add (d.toNat*3)) 0 [.o, .o, .o] fun (a f g:Int)=>CallV Tryz.prog (b) [.agg #[.z a, .z f, .z g]] e fun a b=>∃e,a= .returned (.bool e)/\bif e then (K d b) else (c (IntKind.i64.wrap (d+1)) b)) else (K (-1) e))->c d e)->c 0 w):=okT Tryz.func265 .g14
theorem S.qB0 {a b K w}:Fr (C.qB a b K w) (C.qo a b (fun c d=>bif c==(-1) then (K a d) else (∀e:Int->Int->Pw,(∀(c d:Int) (f:World),(bif decide (d<(a.len:Int)) then (∃g,a.a=some g/\0≤d/\d<(a.len:Int)/\∃h,f.cell? (g.add (d.toNat*1))=some (.z h)/\CallV Tryz.prog (b) [.z h] f fun b f=>∃g,b= .returned (.bool g)/\bif !g then (∃b,a.a=some b/\0≤c/\c<(a.len:Int)/\St f (b.add (c.toNat*1)) (.z h) fun a=>e (IntKind.i64.wrap (c+1)) (IntKind.i64.wrap (d+1)) a) else (e c (IntKind.i64.wrap (d+1)) f)) else (0≤c/\c≤(a.len:Int)/\∃b:World,ClearR Tryz.prog [26] 0 (.slice (slA a.a c.toNat a.cap 1) (a.len-c.toNat) (a.cap-c.toNat)) f b/\0≤c/\c≤(a.cap:Int)/\K ⟨slA a.a 0 a.cap 1,c.toNat-0,a.cap-0⟩ b))->e c d f)->e c (IntKind.i64.wrap (c+1)) d)) w):=okT Tryz.func269 .g7
theorem S.qj0 {a b K w}:Fr (C.qj a b K w) (C.qq a b (fun a b=>K (decide (a≥0)) b) w):=okT Tryz.func280 (.v .w)
theorem S.qk0 {a b K w}:Fr (C.qk a b K w) (C.qr a b (fun a b=>K (decide (a≥0)) b) w):=okT Tryz.func286 (.v .w)
theorem S.qab0 {a b K w}:Fr (C.qab a b K w) (C.qaz a b (fun a b=>K (decide (a≥0)) b) w):=okT Tryz.func298 (.v .w)
theorem S.qd0 {a b K w}:Fr (C.qd a b K w) (C.qi a b (fun a b=>K (decide (a≥0)) b) w):=okT Tryz.func301 (.v .w)
theorem S.qt0 {a b K w}:Fr (C.qt a b K w) (∀c:Int->Pw,(∀(d:Int) (e:World),(bif decide (d<(a.len:Int)) then (∃f,a.a=some f/\0≤d/\d<(a.len:Int)/\∃a,e.cell? (f.add (d.toNat*1))=some (.z a)/\CallV Tryz.prog (b) [.z a] e fun a b=>∃e,a= .returned (.bool e)/\bif e then (K d b) else (c (IntKind.i64.wrap (d+1)) b)) else (K (-1) e))->c d e)->c 0 w):=okT Tryz.func311 .g14
theorem S.qq0 {a b K w}:Fr (C.qq a b K w) (∀c:Int->Pw,(∀(d:Int) (e:World),(bif decide (d<(a.len:Int)) then (∃f,a.a=some f/\0≤d/\d<(a.len:Int)/\LdL e (f.add (d.toNat*2)) 0 [.o, .o] fun (a f:Int)=>CallV Tryz.prog (b) [.agg #[.z a, .z f]] e fun a b=>∃e,a= .returned (.bool e)/\bif e then (K d b) else (c (IntKind.i64.wrap (d+1)) b)) else (K (-1) e))->c d e)->c 0 w):=okT Tryz.func332 .g14
theorem S.ql0 {a b c K w}:Fr (C.ql a b c K w) (0≤b/\b≤(a.len:Int)/\bif (c.len:Int)==0 then (K a w) else (bif b==(a.len:Int) then (∃b d,AppR Tryz.prog [183,183] 183 (.slice a.a a.len a.cap) (.slice c.a c.len c.cap) w b d/\K b d) else (bif decide ((IntKind.i64.wrap ((a.len:Int)+(c.len:Int)))>(a.cap:Int)) then (0≤b/\b≤(a.cap:Int)/\∃d e,AppR Tryz.prog [183,3] 183 (.slice (slA a.a 0 a.cap 3) (b.toNat-0) (a.cap-0)) (.z (IntKind.i64.wrap ((IntKind.i64.wrap ((a.len:Int)+(c.len:Int)))-b))) w d e/\0≤b/\b≤(d.len:Int)/\∃(f:Int) (g:World),CopyR Tryz.prog [183,183] 3 (.slice (slA d.a b.toNat d.cap 3) (d.len-b.toNat) (d.cap-b.toNat)) (.slice c.a c.len c.cap) e f g/\Dr g fun e=>0≤IntKind.i64.wrap (b+(c.len:Int))/\IntKind.i64.wrap (b+(c.len:Int))≤(d.len:Int)/\0≤b/\b≤(a.len:Int)/\(∃(f:Int) (g:World),CopyR Tryz.prog [183,183] 3 (.slice (slA d.a ((IntKind.i64.wrap (b+(c.len:Int))).toNat) d.cap 3) (d.len-((IntKind.i64.wrap (b+(c.len:Int))).toNat)) (d.cap-((IntKind.i64.wrap (b+(c.len:Int))).toNat))) (.slice (slA a.a b.toNat a.cap 3) (a.len-b.toNat) (a.cap-b.toNat)) e f g/\K d g)/\True) else (0≤IntKind.i64.wrap ((a.len:Int)+(c.len:Int))/\IntKind.i64.wrap ((a.len:Int)+(c.len:Int))≤(a.cap:Int)/\0≤IntKind.i64.wrap (b+(c.len:Int))/\IntKind.i64.wrap (b+(c.len:Int))≤((((IntKind.i64.wrap ((a.len:Int)+(c.len:Int))).toNat)-0:Nat):Int)/\∃d,∃e:World,ExtR Tryz.prog 357 #[.slice c.a c.len c.cap, .slice (slA (slA a.a 0 a.cap 3) ((IntKind.i64.wrap (b+(c.len:Int))).toNat) (a.cap-0) 3) ((((IntKind.i64.wrap ((a.len:Int)+(c.len:Int))).toNat)-0)-((IntKind.i64.wrap (b+(c.len:Int))).toNat)) ((a.cap-0)-((IntKind.i64.wrap (b+(c.len:Int))).toNat))] w (.bool d) e/\bif !d then (Dr e fun d=>0≤IntKind.i64.wrap (b+(c.len:Int))/\IntKind.i64.wrap (b+(c.len:Int))≤((((IntKind.i64.wrap ((a.len:Int)+(c.len:Int))).toNat)-0:Nat):Int)/\0≤b/\b≤((((IntKind.i64.wrap ((a.len:Int)+(c.len:Int))).toNat)-0:Nat):Int)/\(∃(e:Int) (f:World),CopyR Tryz.prog [183,183] 3 (.slice (slA (slA a.a 0 a.cap 3) ((IntKind.i64.wrap (b+(c.len:Int))).toNat) (a.cap-0) 3) ((((IntKind.i64.wrap ((a.len:Int)+(c.len:Int))).toNat)-0)-((IntKind.i64.wrap (b+(c.len:Int))).toNat)) ((a.cap-0)-((IntKind.i64.wrap (b+(c.len:Int))).toNat))) (.slice (slA (slA a.a 0 a.cap 3) b.toNat (a.cap-0) 3) ((((IntKind.i64.wrap ((a.len:Int)+(c.len:Int))).toNat)-0)-b.toNat) ((a.cap-0)-b.toNat)) d e f/\0≤b/\b≤((((IntKind.i64.wrap ((a.len:Int)+(c.len:Int))).toNat)-0:Nat):Int)/\∃(d:Int) (e:World),CopyR Tryz.prog [183,183] 3 (.slice (slA (slA a.a 0 a.cap 3) b.toNat (a.cap-0) 3) ((((IntKind.i64.wrap ((a.len:Int)+(c.len:Int))).toNat)-0)-b.toNat) ((a.cap-0)-b.toNat)) (.slice c.a c.len c.cap) f d e/\K ⟨slA a.a 0 a.cap 3,((IntKind.i64.wrap ((a.len:Int)+(c.len:Int))).toNat)-0,a.cap-0⟩ e)/\True) else (0≤(a.len:Int)/\(a.len:Int)≤((((IntKind.i64.wrap ((a.len:Int)+(c.len:Int))).toNat)-0:Nat):Int)/\∃(d:Int) (f:World),CopyR Tryz.prog [183,183] 3 (.slice (slA (slA a.a 0 a.cap 3) ((a.len:Int).toNat) (a.cap-0) 3) ((((IntKind.i64.wrap ((a.len:Int)+(c.len:Int))).toNat)-0)-((a.len:Int).toNat)) ((a.cap-0)-((a.len:Int).toNat))) (.slice c.a c.len c.cap) e d f/\0≤b/\b≤((((IntKind.i64.wrap ((a.len:Int)+(c.len:Int))).toNat)-0:Nat):Int)/\C.qdr ⟨slA (slA a.a 0 a.cap 3) b.toNat (a.cap-0) 3,(((IntKind.i64.wrap ((a.len:Int)+(c.len:Int))).toNat)-0)-b.toNat,(a.cap-0)-b.toNat⟩ (c.len:Int) (fun b=>K ⟨slA a.a 0 a.cap 3,((IntKind.i64.wrap ((a.len:Int)+(c.len:Int))).toNat)-0,a.cap-0⟩ b) f))))):=okT Tryz.func333 (.v (.v (.v (.y (.v (.x .w)) (.v (.y (.v (.x .w)) (.y (.v (.x (.v (.v (.y .g12 .w))))) (.v (.y (.v (.x (.y .g12 (.v .w)))) (.v (.v .w)))))))))))
theorem S.qm0 {a b c K w}:Fr (C.qm a b c K w) (0≤(a.len:Int)/\(a.len:Int)≤(a.cap:Int)/\0≤c/\c≤(((a.len:Int).toNat:Nat):Int)/\0≤b/\b≤(c.toNat:Int)/\bif b==c then (K a w) else (Dr w fun d=>0≤b/\b≤(a.cap:Int)/\0≤c/\c≤(a.len:Int)/\(∃e f,AppR Tryz.prog [183,183] 183 (.slice (slA a.a 0 a.cap 3) (b.toNat-0) (a.cap-0)) (.slice (slA a.a c.toNat a.cap 3) (a.len-c.toNat) (a.cap-c.toNat)) d e f/\0≤(a.len:Int)/\(a.len:Int)≤(e.cap:Int)/\0≤(e.len:Int)/\(e.len:Int)≤(((a.len:Int).toNat:Nat):Int)/\∃b:World,ClearR Tryz.prog [183] 0 (.slice (slA e.a ((e.len:Int).toNat) e.cap 3) (((a.len:Int).toNat)-((e.len:Int).toNat)) (e.cap-((e.len:Int).toNat))) f b/\K e b)/\True)):=okT Tryz.func334 .g9
theorem S.qr0 {a b K w}:Fr (C.qr a b K w) (∀c:Int->Pw,(∀(d:Int) (e:World),(bif decide (d<(a.len:Int)) then (∃f,a.a=some f/\0≤d/\d<(a.len:Int)/\LdL e (f.add (d.toNat*8)) 0 [.o, .o, .o, .o, .o, .u, .u, .o] fun (a f g h i j k l:Int)=>CallV Tryz.prog (b) [.agg #[.z a, .z f, .z g, .z h, .z i, .y j, .y k, .z l]] e fun a b=>∃e,a= .returned (.bool e)/\bif e then (K d b) else (c (IntKind.i64.wrap (d+1)) b)) else (K (-1) e))->c d e)->c 0 w):=okT Tryz.func335 .g14
theorem S.qf0 {a b K w}:Fr (C.qf a b K w) (C.qc a b (fun c d=>bif c==(-1) then (K a d) else (∀e:Int->Int->Pw,(∀(c d:Int) (f:World),(bif decide (d<(a.len:Int)) then (∃g,a.a=some g/\0≤d/\d<(a.len:Int)/\LdL f (g.add (d.toNat*8)) 0 [.o, .o, .u, .u, .u, .u, .u, .b] fun (g h i j k l m:Int) (n:Bool)=>Al f (.cells #[.z 0, .z 0, .y 0, .y 0, .y 0, .y 0, .y 0, .bool false] 225) fun o=>StL o (.mk f.heap.size 0 none) 0 [.z g, .z h, .y i, .y j, .y k, .y l, .y m, .bool n] fun g=>LdL g (.mk f.heap.size 0 none) 0 [.o, .o, .u, .u, .u, .u, .u, .b] fun (h i j k l m n:Int) (o:Bool)=>CallV Tryz.prog (b) [.agg #[.z h, .z i, .y j, .y k, .y l, .y m, .y n, .bool o]] g fun b g=>∃h,b= .returned (.bool h)/\bif !h then (LdL g (.mk f.heap.size 0 none) 0 [.o, .o, .u, .u, .u, .u, .u, .b] fun (b f h i j k l:Int) (m:Bool)=>∃n,a.a=some n/\0≤c/\c<(a.len:Int)/\StL g (n.add (c.toNat*8)) 0 [.z b, .z f, .y h, .y i, .y j, .y k, .y l, .bool m] fun a=>e (IntKind.i64.wrap (c+1)) (IntKind.i64.wrap (d+1)) a) else (e c (IntKind.i64.wrap (d+1)) g)) else (0≤c/\c≤(a.len:Int)/\∃b:World,ClearR Tryz.prog [218] 0 (.slice (slA a.a c.toNat a.cap 8) (a.len-c.toNat) (a.cap-c.toNat)) f b/\0≤c/\c≤(a.cap:Int)/\K ⟨slA a.a 0 a.cap 8,c.toNat-0,a.cap-0⟩ b))->e c d f)->e c (IntKind.i64.wrap (c+1)) d)) w):=okT Tryz.func339 .g7
theorem S.qe0 {a b K w}:Fr (C.qe a b K w) (C.qc a b (fun a b=>K (decide (a≥0)) b) w):=okT Tryz.func342 (.v .w)
theorem S.qh0 {a b c K w}:Fr (C.qh a b c K w) (0≤(a.len:Int)/\(a.len:Int)≤(a.cap:Int)/\0≤c/\c≤(((a.len:Int).toNat:Nat):Int)/\0≤b/\b≤(c.toNat:Int)/\bif b==c then (K a w) else (Dr w fun d=>0≤b/\b≤(a.cap:Int)/\0≤c/\c≤(a.len:Int)/\(∃e f,AppR Tryz.prog [218,218] 218 (.slice (slA a.a 0 a.cap 8) (b.toNat-0) (a.cap-0)) (.slice (slA a.a c.toNat a.cap 8) (a.len-c.toNat) (a.cap-c.toNat)) d e f/\0≤(a.len:Int)/\(a.len:Int)≤(e.cap:Int)/\0≤(e.len:Int)/\(e.len:Int)≤(((a.len:Int).toNat:Nat):Int)/\∃b:World,ClearR Tryz.prog [218] 0 (.slice (slA e.a ((e.len:Int).toNat) e.cap 8) (((a.len:Int).toNat)-((e.len:Int).toNat)) (e.cap-((e.len:Int).toNat))) f b/\K e b)/\True)):=okT Tryz.func344 .g9
theorem S.qaz0 {a b K w}:Fr (C.qaz a b K w) (∀c:Int->Pw,(∀(d:Int) (e:World),(bif decide (d<(a.len:Int)) then (∃f,a.a=some f/\0≤d/\d<(a.len:Int)/\∃a,e.cell? (f.add (d.toNat*1))=some (.z a)/\bif b==a then (K d e) else (c (IntKind.i64.wrap (d+1)) e)) else (K (-1) e))->c d e)->c 0 w):=okT Tryz.func345 .g14
theorem S.qi0 {a b K w}:Fr (C.qi a b K w) (∀c:Int->Pw,(∀(d:Int) (e:World),(bif decide (d<(a.len:Int)) then (∃f,a.a=some f/\0≤d/\d<(a.len:Int)/\LdL e (f.add (d.toNat*2)) 0 [.o, .m] fun (a:Int) (f:Option Nat)=>CallV Tryz.prog (b) [.agg #[.z a, .map f]] e fun a b=>∃e,a= .returned (.bool e)/\bif e then (K d b) else (c (IntKind.i64.wrap (d+1)) b)) else (K (-1) e))->c d e)->c 0 w):=okT Tryz.func346 .g14
theorem S.qc0 {a b K w}:Fr (C.qc a b K w) (∀c:Int->Pw,(∀(d:Int) (e:World),(bif decide (d<(a.len:Int)) then (∃f,a.a=some f/\0≤d/\d<(a.len:Int)/\LdL e (f.add (d.toNat*8)) 0 [.o, .o, .u, .u, .u, .u, .u, .b] fun (a f g h i j k:Int) (l:Bool)=>CallV Tryz.prog (b) [.agg #[.z a, .z f, .y g, .y h, .y i, .y j, .y k, .bool l]] e fun a b=>∃e,a= .returned (.bool e)/\bif e then (K d b) else (c (IntKind.i64.wrap (d+1)) b)) else (K (-1) e))->c d e)->c 0 w):=okT Tryz.func359 .g14
end Go.Proofs.YtogmbmdbgkopjaaGreat
end
section
set_option maxRecDepth 8000
namespace Go.Proofs.YtogmbmdbgkopjaaGreat
open Go Go.Vc Go.Proofs
structure Msg where
 label:Int
 w0:Int
 w1:Int
 w2:Int
 w3:Int
 badge:Int
 calls:Bool
deriving DecidableEq
structure Wt where
 who:Int
 m:Msg
deriving DecidableEq
def wtE:EncT Wt:=⟨8,fun o=>[.z o.who, .z o.m.label, .y o.m.w0, .y o.m.w1, .y o.m.w2, .y o.m.w3, .y o.m.badge, .bool o.m.calls],fun _=>rfl,fun x v h=>by
 simp only[List.mem_cons,List.not_mem_nil,or_false] at h;rcases h with rfl|rfl|rfl|rfl|rfl|rfl|rfl|rfl<;>rfl,by decide⟩
theorem ldWt {w:World} {a:Addr} {x:Wt} {f:Int->Int->Int->Int->Int->Int->Int->Bool->Prop} (g:∀c v,(wtE.enc x)[c]?=some v->w.cell? (a.add c)=some v) (hf:f x.who x.m.label x.m.w0 x.m.w1 x.m.w2 x.m.w3 x.m.badge x.m.calls):
  LdL w a 0 [.o, .o, .u, .u, .u, .u, .u, .b] f:=⟨_,g 0 _ rfl,_,g 1 _ rfl,_,g 2 _ rfl,_,g 3 _ rfl,_,g 4 _ rfl,_,g 5 _ rfl,_,g 6 _ rfl,_,g 7 _ rfl,hf⟩
theorem infoWt:Tryz.prog.info? 225=some Tryz.t225:=by kernel_rfl
theorem bytesWt:Tryz.t225.bytes=64:=by kernel_rfl
def zMsg:Msg:=⟨0,0,0,0,0,0,false⟩
def zWt:Wt:=⟨0,zMsg⟩
theorem zeroWt (w:World):(zeroValue 225).run Tryz.prog w= .ok (.agg ⟨wtE.enc zWt⟩) w:=Tryz.zeroValue225 w
def idxI {α:Type} (p:α->Bool) (xs:List α):Int:=match xs.findIdx? p with|some i=>(i:Int)|none=> -1
theorem idxI_pos {α:Type} (p:α->Bool) (xs:List α):decide (idxI p xs≥0)=xs.any p:=by
 unfold idxI;cases h:xs.findIdx? p with
 |none=>
  rw[List.findIdx?_eq_none_iff] at h;have:xs.any p=false:=by rw[List.any_eq_false];intro x hx;simp[h x hx]
  rw[this];rfl
 |some i=>
  obtain ⟨hi,hp,_⟩:=List.findIdx?_eq_some_iff_getElem.1 h;have:xs.any p=true:=List.any_eq_true.2 ⟨_,List.getElem_mem hi,hp⟩;rw[this];simp
section
variable {B:Nat} {w0 w:World} {R L:List Asn} {s:Sl} {xs:List Wt}
theorem IndexFunc_wt {p:Wt->Bool} {f:Value} {K:Int->Pw} [I:SlIn s L Wt wtE xs] (h:Own B w0 w L) (hbig:xs.length≤1000000000)
  (hf:∀(y:Wt) (w:World) (Q:Bool->Pw),Own B w0 w L->(∀w',Own B w0 w' L->Q (p y) w')->CallV Tryz.prog f [.agg ⟨wtE.enc y⟩] w fun en w'=>∃r:Bool,en= .returned (.bool r)/\Q r w')
  (hK:∀w',Own B w0 w' L->K (idxI p xs) w'):C.qc s f K w:=by
 apply S.qc0;have hlen:=h.lenc s;intro l hl
 have loop:∀(rest:List Wt) (j:Nat) (w:World),xs.drop j=rest->j≤xs.length->(∀i,i<j->∀y,xs[i]?=some y->p y=false)->Own B w0 w L->l (j:Int) w:=by
  intro rest
  induction rest with
  |nil=>
   intro j w hj hjl hno h;have:xs.length≤j:=by have:=congrArg List.length hj;simp at this;omega
   apply hl;refine cdecF (by omega) ?_
   have hn:xs.findIdx? p=none:=by
    rw[List.findIdx?_eq_none_iff];intro y hy;obtain ⟨i,hi⟩:=List.mem_iff_getElem?.1 hy;exact hno i (by have:=(List.getElem?_eq_some_iff.1 hi).1;omega) y hi
   have e:idxI p xs= -1:=by unfold idxI;rw[hn]
   rw[←e];exact hK _ h
  |cons y rest ih=>
   intro j w hj hjl hno h;have hjl2:j<xs.length:=by have:=congrArg List.length hj;simp at this;omega
   have hx:xs[j]?=some y:=by
    have:=congrArg (fun l=>l[0]?) hj;simpa using this
   apply hl;refine cdecT (by omega) ?_;refine h.ixc rfl hx fun a ha h0 hc=>?_
   refine ldWt hc ?_;refine hf y w _ h fun w h=>?_
   cases hp:p y with
   |true=>
    refine cbT rfl ?_
    have hn:xs.findIdx? p=some j:=by
     rw[List.findIdx?_eq_some_iff_getElem];refine ⟨hjl2,?_,fun i hi=>?_⟩
     ·rw[gE hjl2] at hx;cases hx;exact hp
     ·have:=hno i hi xs[i] (gE (by omega))
      simp[this]
    have e:idxI p xs=(j:Int):=by unfold idxI;rw[hn]
    rw[←e];exact hK _ h
   |false=>
    refine cbF rfl ?_;rw[wr (by omega) (by omega)];refine ih (j+1) w (by rw[←List.drop_drop,hj];rfl) (by omega) (fun i hi z hz=>?_) h;by_cases e:i=j
    ·subst e;rw[hx] at hz;cases hz;exact hp
    ·exact hno i (by omega) z hz
 exact loop xs 0 w rfl (by omega) (fun i hi=>by omega) h
theorem ContainsFunc_wt {p:Wt->Bool} {f:Value} {K:Bool->Pw} [I:SlIn s L Wt wtE xs] (h:Own B w0 w L) (hbig:xs.length≤1000000000)
  (hf:∀(y:Wt) (w:World) (Q:Bool->Pw),Own B w0 w L->(∀w',Own B w0 w' L->Q (p y) w')->CallV Tryz.prog f [.agg ⟨wtE.enc y⟩] w fun en w'=>∃r:Bool,en= .returned (.bool r)/\Q r w')
  (hK:∀w',Own B w0 w' L->K (xs.any p) w'):C.qe s f K w:=by
 apply S.qe0;refine IndexFunc_wt h hbig hf fun w h=>?_
 rw[idxI_pos];exact hK w h
theorem app1_wt {y:Wt} {c:Nat} {k:Sl->Pw} [I:SlIn s L Wt wtE xs] [J:Pick (SlT wtE s xs) L R] (h:Own B w0 w (BlkA c (wtE.enc y)::L)) (hbig:xs.length≤1000000000)
  (hk:∀s' w',s'.len=xs.length+1->Own B w0 w' (SlT wtE s' (xs++ [y])::R)->k s' w'):
  ∃s' w',AppR Tryz.prog [218,218] 218 (.slice s.a s.len s.cap) (.slice (some (Addr.mk c 0 none)) 1 1) w s' w'/\k s' w':=
 Own.app1c (E:=wtE) (y:=y) Tryz.underlying218 infoWt (zv:= .agg ⟨wtE.enc zWt⟩) (by kernel_rfl) (by kernel_rfl) rfl (by decide) h (by rw[bytesWt];omega) hk
theorem del_list {α:Type} {xs:List α} {i j:Nat} {z:α} (hij:i<j) (hj:j≤xs.length):
  List.take (i+(xs.length-j)) (List.take (i+(xs.length-j)) (xs.take i++xs.drop j++xs.drop (i+(xs.length-j)))++List.replicate ((xs.take i++xs.drop j++xs.drop (i+(xs.length-j))).length-(i+(xs.length-j))) z)=xs.take i++xs.drop j:=by
 have hl2:(xs.take i++xs.drop j).length=i+(xs.length-j):=by simp;omega
 rw[List.take_append_of_le_length (by simp;omega),List.take_take,Nat.min_self,←hl2,List.take_left]
theorem Delete_wt {i j:Nat} {K:Sl->Pw} (h:Own B w0 w (SlT wtE s xs::R)) (hij:i<j) (hj:j≤xs.length) (hbig:xs.length≤1000000000)
  (hK:∀s' w',Own B w0 w' (SlT wtE s' (xs.take i++xs.drop j)::R)->K s' w'):C.qh s (i:Int) (j:Int) K w:=by
 apply S.qh0;have hlen:=h.lenc s;have hcap:=h.slRaw.le_cap;refine ⟨by omega,by omega,by omega,by omega,by omega,by omega,?_⟩;refine ceqF (by omega) ?_;refine h.dr fun w h=>?_
 refine ⟨by omega,by omega,by omega,by omega,a2 ?_⟩;simp only[Int.toNat_natCast];refine h.appDel (E:=wtE) Tryz.underlying218 infoWt (by kernel_rfl) (by omega) hj (by omega) fun w h=>?_
 dsimp only;refine ⟨by omega,by omega,by omega,by omega,?_⟩;refine Own.clear (E:=wtE) (z0:=zWt) (n:=i+(xs.length-j)) Tryz.underlying218 zeroWt rfl h 0 rfl (by simp;omega) fun w h=>?_
 have hp:=h.pre 0 rfl (n:=i+(xs.length-j)) (by simp;omega);refine hK _ w ?_;rw[del_list hij hj] at hp;exact hp
theorem filter_take_wt (xs:List Wt) (q:Wt->Bool) (j:Nat) (x:Wt) (hx:xs[j]?=some x):(xs.take (j+1)).filter q=(xs.take j).filter q++if q x then [x] else []:=by
 rw[List.take_add_one,hx,List.filter_append];congr 1;simp only[Option.toList_some,List.filter_cons,List.filter_nil]
theorem DeleteFunc_wt {fv:Value} {p:Wt->Bool} {K:Sl->Pw} (h:Own B w0 w (SlT wtE s xs::L)) (hbig:xs.length≤1000000000)
  (hf:∀(N:List Asn) (y:Wt) (w:World) (Q:Bool->Pw),Own B w0 w (N++L)->(∀w',Own B w0 w' (N++L)->Q (p y) w')->CallV Tryz.prog fv [.agg ⟨wtE.enc y⟩] w fun en w'=>∃r:Bool,en= .returned (.bool r)/\Q r w')
  (hK:∀s' w',Own B w0 w' (SlT wtE s' (xs.filter fun x=> !p x)::L)->K s' w'):C.qf s fv K w:=by
 apply S.qf0;have hlen:=h.lenc s;have hspot:=(h.slO 0 rfl).spot;refine IndexFunc_wt h hbig (fun y w Q h hQ=>hf [SlT wtE s xs] y w Q h hQ) fun w1 h=>?_
 unfold idxI;cases hfi:xs.findIdx? p with
 |none=>
  refine cbT rfl ?_
  have:xs.filter (fun x=> !p x)=xs:=by
   rw[List.filter_eq_self];intro x hx;rw[List.findIdx?_eq_none_iff] at hfi;simp[hfi x hx]
  have h2:=hK s w1;rw[this] at h2;exact h2 h
 |some i0=>
  obtain ⟨hi0,hp0,hbefore⟩:=List.findIdx?_eq_some_iff_getElem.1 hfi;refine cbF (by simp) ?_;intro l hl;have hcap:=(h.slO 0 rfl).le_cap
  have key:∀(m j q:Nat) (ys:List Wt) (w:World),j+m=xs.length->ys.length=xs.length->ys.take q=(xs.take j).filter (fun x=> !p x)->q<j->q≤ys.length->ys.drop j=xs.drop j->
    Own B w0 w (SlT wtE s ys::L)->l (q:Int) (j:Int) w:=by
   intro m
   induction m with
   |zero=>
    intro j q ys w hj hys hq hqj hqy hd h;apply hl;refine cdecF (by omega) ?_;refine ⟨by omega,by omega,?_⟩;rw[Int.toNat_natCast];refine Own.clear (E:=wtE) (z0:=zWt) (n:=q) Tryz.underlying218 zeroWt rfl h 0 rfl (by omega) fun w2 h=>?_
    refine ⟨by omega,by omega,?_⟩;have h3:=h.pre 0 rfl (n:=q) (by simp;omega)
    have e1:(ys.take q++List.replicate (ys.length-q) zWt).take q=xs.filter (fun x=> !p x):=by
     rw[List.take_append_of_le_length (by simp;omega),List.take_take,Nat.min_self,hq,List.take_of_length_le (by omega)]
    rw[e1] at h3;rw[slA0 _ _ _ hspot];exact hK _ _ h3
   |succ m ih=>
    intro j q ys w hj hys hq hqj hqy hd h;have hjlt:j<xs.length:=by omega
    have hyj:ys[j]?=some xs[j]:=by
     have:=congrArg (fun l=>l[0]?) hd;simp only[List.getElem?_drop,Nat.add_zero] at this;rw[this,gE hjlt]
    apply hl;refine cdecT (by omega) ?_;refine h.ixc (s:=s) rfl hyj fun a ha h0 hc=>?_
    refine ldWt hc ?_;have hft:=filter_take_wt xs (fun x=> !p x) j _ (gE hjlt)
    have hd1:∀zs:List Wt,zs.drop j=xs.drop j->zs.drop (j+1)=xs.drop (j+1):=fun zs hz=>by
     rw[←List.drop_drop (i:=1) (j:=j),←List.drop_drop (i:=1) (j:=j),hz]
    generalize xs[j]=x at hyj hft hc;refine h.al fun w' h=>?_
    generalize w.heap.size=d at h⊢;refine h.stLc rfl rfl fun w h=>?_
    (try dsimp only[putAt,List.set_cons_zero,List.set_cons_succ] at h)
    refine h.lc_8 rfl ?_;refine hf [BlkA d (wtE.enc x),SlT wtE s ys] x w _ h fun w h=>?_
    have h:Own B w0 w (BlkA d (wtE.enc x)::SlT wtE s ys::L):=h;rw[show IntKind.i64.wrap ((j:Int)+1)=((j+1:Nat):Int) from by rw[wr (by omega) (by omega)];omega];cases hp:p x with
    |true=>
     refine cbF rfl ?_;refine ih (j+1) q ys w (by omega) hys ?_ (by omega) hqy (hd1 ys hd) h.drop;rw[hq,hft,hp];simp
    |false=>
     refine cbT rfl ?_;refine h.lc_8 rfl ?_;refine ⟨a,ha,by omega,by omega,?_⟩;refine h.up1.stELc (s:=s) x rfl (by omega) ha fun w h=>?_
     rw[show IntKind.i64.wrap ((q:Int)+1)=((q+1:Nat):Int) from by rw[wr (by omega) (by omega)];omega];refine ih (j+1) (q+1) (ys.set q x) w (by omega) (by simpa using hys) ?_ (by omega) (by simp;omega) ?_ h.rm1
     ·rw[hft,hp,List.take_add_one,List.getElem?_set_self (by omega),List.take_set_of_le (Nat.le_refl _),hq];simp
     ·rw[List.drop_set_of_lt (by omega)];exact hd1 ys hd
  have h0:xs.take i0=(xs.take (i0+1)).filter (fun x=> !p x):=by
   rw[filter_take_wt xs _ i0 _ (gE hi0),hp0];simp only[Bool.not_true,if_false,List.append_nil,Bool.false_eq_true]
   symm
   rw[List.filter_eq_self];intro x hx;obtain ⟨q,hq⟩:=List.mem_iff_getElem?.1 hx;rw[List.getElem?_take] at hq;split at hq
   ·rename_i hlt
    have:=hbefore q hlt;rw[gE (by omega)] at hq;cases hq;simpa using this
   ·cases hq
  rw[show IntKind.i64.wrap (((i0:Nat):Int)+1)=((i0+1:Nat):Int) from by rw[wr (by omega) (by omega)];omega];exact key (xs.length-(i0+1)) (i0+1) i0 xs w1 (by omega) rfl h0 (by omega) (by omega) rfl h
end
structure Ept where
 l:List Wt
 sends:Bool
deriving DecidableEq
structure Met where
 is:Bool
 frm:Int
 to:Int
 m:Msg
deriving DecidableEq
def noMet:Met:=⟨false,0,0,zMsg⟩
def Ept.there (p:Ept) (n:Int):Bool:=p.l.any fun o=>o.who==n
def Ept.first (p:Ept) (s:Bool):Option Wt × Ept:=match p.l with
 | []=>(none,p)
 |o::r=>if p.sends=s then (some o,{ p with l:=r}) else (none,p)
def Ept.send (p:Ept) (n:Int) (m:Msg) (waits:Bool):Met × Int × Ept:=
 if p.there n then (noMet,110,p) else match p.first false with
 |(some o,p')=>(⟨true,n,o.who,m⟩,0,p')
 |(none,_)=>(noMet,0,if waits then ⟨p.l++ [⟨n,m⟩],true⟩ else p)
def Ept.recv (p:Ept) (n:Int) (waits:Bool):Met × Int × Ept:=
 if p.there n then (noMet,110,p) else match p.first true with
 |(some o,p')=>(⟨true,o.who,n,o.m⟩,0,p')
 |(none,_)=>(noMet,0,if waits then ⟨p.l++ [⟨n,zMsg⟩],false⟩ else p)
def Ept.cancel (p:Ept) (n:Int):Ept:={ p with l:=p.l.filter fun o=> !(o.who==n)}
def EndA (b:Nat) (p:Ept):Asn:=ExA fun s:Sl=>StarA [PureA (p.l.length≤1000000),BlkA b [.slice s.a s.len s.cap, .bool p.sends],SlT wtE s p.l]
section
variable {B:Nat} {w0 w:World} {R L:List Asn} {b:Nat} {p:Ept}
theorem _root_.Go.Vc.Own.endp (h:Own B w0 w (EndA b p::R)):∃s:Sl,p.l.length≤1000000/\Own B w0 w (BlkA b [.slice s.a s.len s.cap, .bool p.sends]::SlT wtE s p.l::R):=by
 obtain ⟨s,h⟩:=h.ex;obtain ⟨h1,h⟩:=Own.pure h.star;exact ⟨s,h1,h⟩
theorem _root_.Go.Vc.Own.mk_endp {s:Sl} (h1:p.l.length≤1000000) (h:Own B w0 w (BlkA b [.slice s.a s.len s.cap, .bool p.sends]::SlT wtE s p.l::R)):Own B w0 w (EndA b p::R):=
 Own.mk_ex s (Own.mk_star (Own.mk_pure h1 h))
theorem tailLd {N:List Asn} {c o:Nat} {l:List Value} {v:Value} (h:Own B w0 w (N++BlkA c l::L)) (hv:l[o]?=some v):w.cell? ⟨c,o,none⟩=some v:=by
 exact Own.ld0 (b:=c) (o:=o) (l:=l) h N.length (by rw[List.getElem?_append_right (Nat.le_refl _),Nat.sub_self];rfl) hv
theorem endpoint_New_spec {K:Option Addr->Pw} (h:Own B w0 w R) (hK:∀b w',Own B w0 w' (EndA b ⟨[],false⟩::R)->K (some ⟨b,0,none⟩) w'):C.qcL K w:=by
 apply S.qcL0;refine h.al fun w1 h=>?_
 exact hK _ w1 (Own.mk_endp (s:=⟨none,0,0⟩) (by simp) ((Own.nilS h).perm (List.Perm.swap _ _ _)))
theorem endpoint_there_spec {n:Int} {K:Bool->Pw} (h:Own B w0 w (EndA b p::R)) (hK:∀w',Own B w0 w' (EndA b p::R)->K (p.there n) w'):C.qI (some ⟨b,0,none⟩) n K w:=by
 apply S.qI0;obtain ⟨s,hl,h⟩:=h.endp;refine h.al fun w1 h=>?_
 generalize w.heap.size=c at h⊢;refine ⟨_,rfl,s,h.ldc rfl,?_⟩;refine ContainsFunc_wt (s:=s) (xs:=p.l) (p:=fun o=>o.who==n) h (by omega) (fun y w Q h hQ=>?_) fun w h=>?_
 ·refine callV_mk ?_
  show C.qad y.who y.m.label y.m.w0 y.m.w1 y.m.w2 y.m.w3 y.m.badge y.m.calls ⟨c,0,none⟩ Q w;apply S.qad0;refine h.al fun w1 h=>?_
  generalize w.heap.size=d at h⊢;exact ⟨_,h.ldc rfl,_,h.ldc rfl,hQ _ h.drop⟩
 ·exact hK w (Own.mk_endp (s:=s) hl h.sub)
theorem endpoint_first_spec {t:Bool} {K:Int->Int->Int->Int->Int->Int->Int->Bool->Bool->Pw} (h:Own B w0 w (EndA b p::R))
  (hK:∀w' o,o=((p.first t).1.getD zWt)->Own B w0 w' (EndA b (p.first t).2::R)->K o.who o.m.label o.m.w0 o.m.w1 o.m.w2 o.m.w3 o.m.badge o.m.calls (p.first t).1.isSome w'):C.qJ (some ⟨b,0,none⟩) t K w:=by
 apply S.qJ0;obtain ⟨s,hl,h⟩:=h.endp;have hlen:=h.lenc s;refine h.al fun w1 h=>?_
 generalize w.heap.size=c at h⊢;intro k4 hk4
 have no:∀w,(p.first t)=(none,p)->Own B w0 w (BlkA c [.z 0, .z 0, .y 0, .y 0, .y 0, .y 0, .y 0, .bool false]::BlkA b [.slice s.a s.len s.cap, .bool p.sends]::SlT wtE s p.l::R)->k4 true w:=fun w e h=>by
  rw[e] at hK;apply hk4;refine cbT rfl ?_;refine h.stLc rfl rfl fun w h=>?_
  (try dsimp only[putAt,List.set_cons_zero,List.set_cons_succ] at h)
  refine h.lc_8 rfl ?_;exact hK w zWt rfl (Own.mk_endp (s:=s) hl h.sub)
 refine ⟨_,rfl,s,h.ldc rfl,?_⟩;cases hp:p.l with
 |nil=>
  have e:p.first t=(none,p):=by unfold Ept.first;rw[hp]
  rw[hp] at hlen;refine ceqT (by simp at hlen;omega) ?_;exact no _ e h
 |cons o r=>
  rw[hp] at hlen;simp only[List.length_cons] at hlen;refine ceqF (by omega) ?_;refine ⟨_,rfl,p.sends,h.ldc rfl,?_⟩;by_cases e:p.sends=t
  ·have ef:p.first t=(some o,{ p with l:=r}):=by unfold Ept.first;rw[hp];simp[e]
   rw[ef] at hK;rw[show (!(p.sends==t))=false from by simp[e]];apply hk4;refine cbF rfl ?_;refine ⟨_,rfl,s,h.ldc rfl,?_⟩;have h0:p.l[0]?=some o:=by rw[hp];rfl
   refine h.ixc (s:=s) (i:=0) (j:=0) rfl h0 fun a ha hc0 hc=>ldWt hc ?_
   repeat first|refine h.al fun w h=>?_|refine ⟨_,h.ldc rfl,?_⟩|refine h.stLc rfl rfl fun w h=>?_|refine exs ?_
   (try dsimp only[putAt,List.set_cons_zero,List.set_cons_succ] at h)
   rw[hp] at h;refine Delete_wt (i:=0) (j:=1) (h.pick (A:=SlT wtE s (o::r))) (by omega) (by simp) (by rw[hp] at hl;simp at hl⊢;omega) fun s' w h=>?_
   repeat first|refine h.lc_2 rfl ?_|refine h.stLc rfl rfl fun w h=>?_|refine exs ?_|refine h.stc rfl rfl fun w h=>?_
   (try dsimp only[putAt,List.set_cons_zero,List.set_cons_succ] at h)
   (try dsimp only[putAt,List.set_cons_zero,List.set_cons_succ] at h)
   have h:Own B w0 _ (SlT wtE s' r::_):=h;have h:Own B w0 _ (BlkA b [.slice s'.a s'.len s'.cap, .bool p.sends]::SlT wtE s' r::R):=h.sub;refine hK _ o rfl (Own.mk_endp (s:=s') (by rw[hp] at hl;simp at hl⊢;omega) h)
  ·have ef:p.first t=(none,p):=by unfold Ept.first;rw[hp];simp[e]
   rw[show (!(p.sends==t))=true from by simp[e]];exact no _ ef h
end
section
variable {B:Nat} {w0 w:World} {R L:List Asn} {b:Nat} {p:Ept}
theorem endpoint_wait_spec {o:Wt} {t:Bool} {K:Pw} (hbig:p.l.length<1000000) (h:Own B w0 w (EndA b p::R)) (hK:∀w',Own B w0 w' (EndA b ⟨p.l++ [o],t⟩::R)->K w'):
  C.qT (some ⟨b,0,none⟩) o.who o.m.label o.m.w0 o.m.w1 o.m.w2 o.m.w3 o.m.badge o.m.calls t K w:=by
 apply S.qT0;obtain ⟨s,hl,h⟩:=h.endp;refine h.al fun w1 h=>?_
 generalize w.heap.size=c at h⊢;refine h.dr fun w h=>?_
 refine ⟨_,rfl,s,h.ldc rfl,?_⟩;refine h.lc_8 rfl ⟨?_,trivial⟩;refine h.al fun w2 h=>⟨?_,trivial⟩
 generalize w.heap.size=d at h⊢;refine app1_wt (s:=s) (y:=o) h (by omega) fun s' w hs' h=>⟨_,rfl,?_⟩
 refine ⟨?_,trivial⟩;refine h.stc rfl rfl fun w h=>⟨_,rfl,?_⟩
 refine ⟨?_,trivial⟩;refine h.stc rfl rfl fun w h=>?_
 (try dsimp only[putAt,List.set_cons_zero,List.set_cons_succ] at h)
 exact hK w (Own.mk_endp (s:=s') (by simp;omega) h.sub)
theorem endpoint_Send_spec {n:Int} {m:Msg} {wt:Bool} {K:Bool->Int->Int->Int->Int->Int->Int->Int->Int->Bool->Int->Pw} (hbig:p.l.length<1000000) (h:Own B w0 w (EndA b p::R))
  (hK:∀w' x,x=(p.send n m wt).1->Own B w0 w' (EndA b (p.send n m wt).2.2::R)->K x.is x.frm x.to x.m.label x.m.w0 x.m.w1 x.m.w2 x.m.w3 x.m.badge x.m.calls (p.send n m wt).2.1 w'):
  C.qQ (some ⟨b,0,none⟩) n m.label m.w0 m.w1 m.w2 m.w3 m.badge m.calls wt K w:=by
 apply S.qQ0;refine h.al fun w1 h=>?_
 generalize w.heap.size=c at h⊢;refine h.al fun w2 h=>?_
 generalize w1.heap.size=d at h⊢;refine endpoint_there_spec (n:=n) h.up2 fun w h=>?_
 unfold Ept.send at hK;cases ht:p.there n with
 |true=>
  rw[ht] at hK;simp only[if_true] at hK;refine cbT rfl ?_
  repeat first|refine h.lc_2 rfl ?_|refine h.stLc rfl rfl fun w h=>?_
  exact hK _ noMet rfl h.sub
 |false=>
  rw[ht] at hK;simp only[Bool.false_eq_true,if_false] at hK;refine cbF rfl ?_;refine endpoint_first_spec (t:=false) h fun w o ho h=>?_
  refine h.al fun w3 h=>?_
  generalize w.heap.size=e at h⊢;refine h.stLc rfl rfl fun w h=>?_
  (try dsimp only[putAt,List.set_cons_zero,List.set_cons_succ] at h)
  cases hf:p.first false with
  |mk x p'=>
   rw[hf] at hK h ho;dsimp only at hK h ho;cases x with
   |some o'=>
    have ho:o=o':=ho;subst ho;refine cbT rfl ?_
    repeat first|refine h.lc_2 rfl ?_|refine ⟨_,h.ldc rfl,?_⟩|refine h.stLc rfl rfl fun w h=>?_
    (try dsimp only[putAt,List.set_cons_zero,List.set_cons_succ] at h)
    exact hK _ _ rfl (show Own B w0 _ (EndA b p'::R) from h.sub)
   |none=>
    have hp':p'=p:=by
     unfold Ept.first at hf
     split at hf
     ·cases hf;rfl
     ·split at hf
      ·cases hf
      ·cases hf;rfl
    rw[hp'] at h;refine cbF rfl ?_;cases wt with
    |true=>
     refine cbT rfl ?_
     repeat first|refine h.lc_2 rfl ?_|refine ⟨_,h.ldc rfl,?_⟩
     refine endpoint_wait_spec (o:=⟨n,m⟩) (t:=true) hbig h.up1 fun w h=>?_
     repeat first|refine h.lc_2 rfl ?_|refine h.stLc rfl rfl fun w h=>?_
     exact hK _ noMet rfl (show Own B w0 _ (EndA b ⟨p.l++ [⟨n,m⟩],true⟩::R) from h.sub)
    |false=>
     refine cbF rfl ?_
     repeat first|refine h.lc_2 rfl ?_|refine h.stLc rfl rfl fun w h=>?_
     exact hK _ noMet rfl (show Own B w0 _ (EndA b p::R) from h.sub)
end
theorem infoInt:Tryz.prog.info? 3=some Tryz.t3:=by kernel_rfl
theorem bytesInt:Tryz.t3.bytes=8:=by kernel_rfl
section
variable {B:Nat} {w0 w:World} {R L:List Asn} {s:Sl} {xs:List Int}
theorem Index_int {v:Int} {K:Int->Pw} [I:SlIn s L Int intE xs] (h:Own B w0 w L) (hbig:xs.length≤1000000000) (hK:∀w',Own B w0 w' L->K (idxI (fun x=>v==x) xs) w'):C.qaz s v K w:=by
 apply S.qaz0;have hlen:=h.lenc s;intro l hl
 have loop:∀(m j:Nat) (w:World),j+m=xs.length->(∀i,i<j->∀y,xs[i]?=some y->(v==y)=false)->Own B w0 w L->l (j:Int) w:=by
  intro m
  induction m with
  |zero=>
   intro j w hj hno h;apply hl;refine cdecF (by omega) ?_
   have hn:xs.findIdx? (fun x=>v==x)=none:=by
    rw[List.findIdx?_eq_none_iff];intro y hy;obtain ⟨i,hi⟩:=List.mem_iff_getElem?.1 hy;exact hno i (by have:=(List.getElem?_eq_some_iff.1 hi).1;omega) y hi
   have e:idxI (fun x=>v==x) xs= -1:=by unfold idxI;rw[hn]
   rw[←e];exact hK _ h
  |succ m ih=>
   intro j w hj hno h;have hx:xs[j]?=some xs[j]:=gE (by omega);apply hl;refine cdecT (by omega) ?_;refine h.ixc (s:=s) rfl hx fun a ha h0 hc=>⟨_,h0 _ rfl,?_⟩
   cases hp:(v==xs[j]) with
   |true=>
    refine cbT rfl ?_
    have hn:xs.findIdx? (fun x=>v==x)=some j:=by
     rw[List.findIdx?_eq_some_iff_getElem];refine ⟨by omega,hp,fun i hi=>?_⟩;have:=hno i hi xs[i] (gE (by omega));simp[this]
    have e:idxI (fun x=>v==x) xs=(j:Int):=by unfold idxI;rw[hn]
    rw[←e];exact hK _ h
   |false=>
    refine cbF rfl ?_;rw[wr (by omega) (by omega)];refine ih (j+1) w (by omega) (fun i hi z hz=>?_) h;by_cases e:i=j
    ·subst e;rw[hx] at hz;cases hz;exact hp
    ·exact hno i (by omega) z hz
 exact loop xs.length 0 w (by omega) (fun i hi=>by omega) h
theorem Contains_int {v:Int} {K:Bool->Pw} [I:SlIn s L Int intE xs] (h:Own B w0 w L) (hbig:xs.length≤1000000000) (hK:∀w',Own B w0 w' L->K (xs.any fun x=>v==x) w'):C.qab s v K w:=by
 apply S.qab0;refine Index_int h hbig fun w h=>?_
 rw[idxI_pos];exact hK w h
theorem app1_int {y:Int} {c:Nat} {k:Sl->Pw} [I:SlIn s L Int intE xs] [J:Pick (SlT intE s xs) L R] (h:Own B w0 w (BlkA c [.z y]::L)) (hbig:xs.length≤1000000000)
  (hk:∀s' w',s'.len=xs.length+1->Own B w0 w' (SlT intE s' (xs++ [y])::R)->k s' w'):
  ∃s' w',AppR Tryz.prog [26,26] 26 (.slice s.a s.len s.cap) (.slice (some (Addr.mk c 0 none)) 1 1) w s' w'/\k s' w':=
 Own.app1c (E:=intE) (y:=y) Tryz.underlying26 infoInt (zv:= .z 0) (by kernel_rfl) (by kernel_rfl) rfl (by decide) h (by rw[bytesInt];omega) hk
theorem Delete_int {i j:Nat} {K:Sl->Pw} (h:Own B w0 w (SlT intE s xs::R)) (hij:i<j) (hj:j≤xs.length) (hbig:xs.length≤1000000000)
  (hK:∀s' w',Own B w0 w' (SlT intE s' (xs.take i++xs.drop j)::R)->K s' w'):C.qal s (i:Int) (j:Int) K w:=by
 apply S.qal0;have hlen:=h.lenc s;have hcap:=h.slRaw.le_cap;refine ⟨by omega,by omega,by omega,by omega,by omega,by omega,?_⟩;refine ceqF (by omega) ?_;refine h.dr fun w h=>?_
 refine ⟨by omega,by omega,by omega,by omega,a2 ?_⟩;simp only[Int.toNat_natCast];refine h.appDel (E:=intE) Tryz.underlying26 infoInt (by kernel_rfl) (by omega) hj (by omega) fun w h=>?_
 dsimp only;refine ⟨by omega,by omega,by omega,by omega,?_⟩;refine h.clear (P:=Tryz.prog) (T:=26) (t:=0) (n:=i+(xs.length-j)) (zv:= .z 0) (z0:=0) Tryz.underlying26 (fun w=>Tryz.zeroValue3 w) rfl 0 rfl (by simp;omega) fun w h=>?_
 have hp:=h.pre 0 rfl (n:=i+(xs.length-j)) (by simp;omega);refine hK _ w ?_;rw[del_list hij hj] at hp;exact hp
end
section
variable {B:Nat} {w0 w:World} {R L:List Asn} {b:Nat} {p:Ept}
theorem endpoint_Recv_spec {n:Int} {wt:Bool} {K:Bool->Int->Int->Int->Int->Int->Int->Int->Int->Bool->Int->Pw} (hbig:p.l.length<1000000) (h:Own B w0 w (EndA b p::R))
  (hK:∀w' x,x=(p.recv n wt).1->Own B w0 w' (EndA b (p.recv n wt).2.2::R)->K x.is x.frm x.to x.m.label x.m.w0 x.m.w1 x.m.w2 x.m.w3 x.m.badge x.m.calls (p.recv n wt).2.1 w'):
  C.qR (some ⟨b,0,none⟩) n wt K w:=by
 apply S.qR0;refine h.al fun w1 h=>?_
 generalize w.heap.size=c at h⊢;refine endpoint_there_spec (n:=n) h.up1 fun w h=>?_
 unfold Ept.recv at hK;cases ht:p.there n with
 |true=>
  rw[ht] at hK;simp only[if_true] at hK;refine cbT rfl ?_;refine h.stLc rfl rfl fun w h=>?_
  (try dsimp only[putAt,List.set_cons_zero,List.set_cons_succ] at h)
  refine h.lc_10 rfl ?_;exact hK _ noMet rfl h.sub
 |false=>
  rw[ht] at hK;simp only[Bool.false_eq_true,if_false] at hK;refine cbF rfl ?_;refine endpoint_first_spec (t:=true) h fun w o ho h=>?_
  refine h.al fun w3 h=>?_
  generalize w.heap.size=e at h⊢;refine h.stLc rfl rfl fun w h=>?_
  (try dsimp only[putAt,List.set_cons_zero,List.set_cons_succ] at h)
  cases hf:p.first true with
  |mk x p'=>
   rw[hf] at hK h ho;dsimp only at hK h ho;cases x with
   |some o'=>
    have ho:o=o':=ho;subst ho;refine cbT rfl ?_;refine ⟨_,h.ldc rfl,?_⟩;refine h.lc_7 rfl ?_;refine h.stLc rfl rfl fun w h=>?_
    (try dsimp only[putAt,List.set_cons_zero,List.set_cons_succ] at h)
    refine h.lc_10 rfl ?_;exact hK _ ⟨true,o.who,n,o.m⟩ rfl (show Own B w0 _ (EndA b p'::R) from h.sub)
   |none=>
    have hp':p'=p:=by
     unfold Ept.first at hf
     split at hf
     ·cases hf;rfl
     ·split at hf
      ·cases hf
      ·cases hf;rfl
    rw[hp'] at h;refine cbF rfl ?_;cases wt with
    |true=>
     refine cbT rfl ?_;refine endpoint_wait_spec (o:=⟨n,zMsg⟩) (t:=false) hbig h.up1 fun w h=>?_
     refine h.stLc rfl rfl fun w h=>?_
     (try dsimp only[putAt,List.set_cons_zero,List.set_cons_succ] at h)
     refine h.lc_10 rfl ?_;exact hK _ noMet rfl (show Own B w0 _ (EndA b ⟨p.l++ [⟨n,zMsg⟩],false⟩::R) from h.sub)
    |false=>
     refine cbF rfl ?_;refine h.stLc rfl rfl fun w h=>?_
     (try dsimp only[putAt,List.set_cons_zero,List.set_cons_succ] at h)
     refine h.lc_10 rfl ?_;exact hK _ noMet rfl (show Own B w0 _ (EndA b p::R) from h.sub)
theorem endpoint_Cancel_spec {n:Int} {K:Bool->Pw} (h:Own B w0 w (EndA b p::R)) (hK:∀r w',Own B w0 w' (EndA b (p.cancel n)::R)->K r w'):C.qW (some ⟨b,0,none⟩) n K w:=by
 apply S.qW0;obtain ⟨s,hl,h⟩:=h.endp;refine h.al fun w1 h=>?_
 generalize w.heap.size=c at h⊢;refine ⟨_,rfl,s,h.ldc rfl,_,rfl,s,h.ldc rfl,?_⟩;refine DeleteFunc_wt (p:=fun o=>o.who==n) h.up2 (by omega) (fun N y w Q h hQ=>?_) fun s' w h=>?_
 ·refine callV_mk ?_
  show C.qaa y.who y.m.label y.m.w0 y.m.w1 y.m.w2 y.m.w3 y.m.badge y.m.calls ⟨c,0,none⟩ Q w;apply S.qaa0;refine h.al fun w1 h=>?_
  generalize w.heap.size=d at h⊢;exact ⟨_,h.ldc rfl,_,tailLd (N:=BlkA d _::N) h rfl,hQ _ h.drop⟩
 ·refine ⟨_,rfl,?_⟩
  refine h.stc rfl rfl fun w h=>?_
  (try dsimp only[putAt,List.set_cons_zero,List.set_cons_succ] at h)
  refine ⟨_,rfl,s',h.ldc rfl,?_⟩;exact hK _ w (Own.mk_endp (s:=s') (p:=p.cancel n) (Nat.le_trans (List.length_filter_le _ _) hl) (show Own B w0 w (BlkA b [.slice s'.a s'.len s'.cap, .bool p.sends]::SlT wtE s' (p.l.filter fun o=> !(o.who==n))::R) from h.sub))
end
structure Nte where
 word:Int
 is:Bool
 l:List Int
deriving DecidableEq
def Nte.signal (n:Nte) (badge:Int):Option Int × Nte:=match n.l with
 |x::r=>(some x,{ n with l:=r})
 | []=>(none,⟨orI .u64 n.word badge,true,[]⟩)
def Nte.wait (n:Nte) (who:Int) (waits:Bool):(Int × Bool × Int)× Nte:=
 if n.l.any (fun x=>who==x) then ((0,false,120),n)
 else if n.is then ((n.word,true,0),{ n with word:=0,is:=false})
 else ((0,false,0),if waits then { n with l:=n.l++ [who]} else n)
def Nte.cancel (n:Nte) (who:Int):Nte:={ n with l:=n.l.filter fun x=> !(x==who)}
def NoteA (b:Nat) (n:Nte):Asn:=ExA fun s:Sl=>StarA [PureA (n.l.length≤1000000),BlkA b [.y n.word, .bool n.is, .slice s.a s.len s.cap],SlT intE s n.l]
section
variable {B:Nat} {w0 w:World} {R L:List Asn} {b:Nat} {n:Nte}
theorem _root_.Go.Vc.Own.note (h:Own B w0 w (NoteA b n::R)):∃s:Sl,n.l.length≤1000000/\Own B w0 w (BlkA b [.y n.word, .bool n.is, .slice s.a s.len s.cap]::SlT intE s n.l::R):=by
 obtain ⟨s,h⟩:=h.ex;obtain ⟨h1,h⟩:=Own.pure h.star;exact ⟨s,h1,h⟩
theorem _root_.Go.Vc.Own.mk_note {s:Sl} {wd:Int} {is:Bool} {l:List Int} (h1:l.length≤1000000) (h:Own B w0 w (BlkA b [.y wd, .bool is, .slice s.a s.len s.cap]::SlT intE s l::R)):Own B w0 w (NoteA b ⟨wd,is,l⟩::R):=
 Own.mk_ex s (Own.mk_star (Own.mk_pure h1 h))
theorem notify_New_spec {K:Option Addr->Pw} (h:Own B w0 w R) (hK:∀b w',Own B w0 w' (NoteA b ⟨0,false,[]⟩::R)->K (some ⟨b,0,none⟩) w'):C.qdc K w:=by
 apply S.qdc0;refine h.al fun w1 h=>?_
 exact hK _ w1 (Own.mk_note (s:=⟨none,0,0⟩) (by simp) ((Own.nilS h).perm (List.Perm.swap _ _ _)))
theorem notify_Signal_spec {g:Int} {K:Int->Int->Bool->Pw} (h:Own B w0 w (NoteA b n::R))
  (hK:∀w',Own B w0 w' (NoteA b (n.signal g).2::R)->K ((n.signal g).1.getD 0) (if (n.signal g).1.isSome then g else 0) (n.signal g).1.isSome w'):C.qaw (some ⟨b,0,none⟩) g K w:=by
 apply S.qaw0;obtain ⟨s,hl,h⟩:=h.note;have hlen:=h.lenc s;unfold Nte.signal at hK;refine ⟨_,rfl,s,h.ldc rfl,?_⟩;cases hn:n.l with
 |nil=>
  rw[hn] at hK hlen;refine cdecF (by simp at hlen;omega) ?_;refine ⟨_,rfl,_,h.ldc rfl,_,rfl,?_⟩;refine h.stc rfl rfl fun w h=>⟨_,rfl,?_⟩
  refine h.stc rfl rfl fun w h=>?_
  (try dsimp only[putAt,List.set_cons_zero,List.set_cons_succ] at h)
  rw[hn] at h;exact hK w (Own.mk_note (s:=s) (by simp) h)
 |cons x r=>
  rw[hn] at hK hlen;simp only[List.length_cons] at hlen;refine cdecT (by omega) ?_;refine ⟨_,rfl,s,h.ldc rfl,?_⟩;have h0:n.l[0]?=some x:=by rw[hn];rfl
  refine h.ixc (s:=s) (i:=0) (j:=0) rfl h0 fun a ha hc0 hc=>⟨_,hc0 _ rfl,?_⟩
  refine ⟨_,rfl,s,h.ldc rfl,?_⟩;rw[hn] at h;refine Delete_int (i:=0) (j:=1) h.up1 (by omega) (by simp) (by rw[hn] at hl;simp at hl⊢;omega) fun s' w h=>⟨_,rfl,?_⟩
  refine h.stc rfl rfl fun w h=>?_
  (try dsimp only[putAt,List.set_cons_zero,List.set_cons_succ] at h)
  have h:Own B w0 w (SlT intE s' r::_):=h;exact hK w (Own.mk_note (s:=s') (by rw[hn] at hl;simp at hl⊢;omega) h.sub)
theorem notify_Wait_spec {who:Int} {wt:Bool} {K:Int->Bool->Int->Pw} (hbig:n.l.length<1000000) (h:Own B w0 w (NoteA b n::R))
  (hK:∀w',Own B w0 w' (NoteA b (n.wait who wt).2::R)->K (n.wait who wt).1.1 (n.wait who wt).1.2.1 (n.wait who wt).1.2.2 w'):C.qaV (some ⟨b,0,none⟩) who wt K w:=by
 apply S.qaV0;obtain ⟨s,hl,h⟩:=h.note;unfold Nte.wait at hK;refine ⟨_,rfl,s,h.ldc rfl,?_⟩;refine Contains_int (s:=s) (xs:=n.l) h (by omega) fun w h=>?_
 cases ht:(n.l.any fun x=>who==x) with
 |true=>
  rw[ht] at hK;exact cbT rfl (hK w (Own.mk_note (s:=s) hl h))
 |false=>
  rw[ht] at hK;refine cbF rfl ⟨_,rfl,_,h.ldc rfl,?_⟩;cases hi:n.is with
  |true=>
   rw[hi] at hK;refine cbT rfl ⟨_,rfl,_,h.ldc rfl,_,rfl,?_⟩;refine h.stc rfl rfl fun w h=>⟨_,rfl,?_⟩
   refine h.stc rfl rfl fun w h=>?_
   (try dsimp only[putAt,List.set_cons_zero,List.set_cons_succ] at h)
   exact hK w (Own.mk_note (s:=s) hl h)
  |false=>
   rw[hi] at hK;refine cbF rfl ?_;cases wt with
   |true=>
    refine cbT rfl ⟨_,rfl,s,h.ldc rfl,?_⟩;refine h.al fun w2 h=>?_
    generalize w.heap.size=d at h⊢;refine app1_int (s:=s) (y:=who) h (by omega) fun s' w hs' h=>⟨_,rfl,?_⟩
    refine h.stc rfl rfl fun w h=>?_
    (try dsimp only[putAt,List.set_cons_zero,List.set_cons_succ] at h)
    exact hK w (Own.mk_note (s:=s') (by simp;omega) (by rw[hi] at h;exact h.sub))
   |false=>
    refine cbF rfl ?_;exact hK w (Own.mk_note (s:=s) hl h)
end
end Go.Proofs.YtogmbmdbgkopjaaGreat
end
