/- What the row rests on: the declarations that it needs, out of my texts (part 4). -/
import Derived.Test.YtogmbmdbgkopjaaGreatZb3
set_option linter.unusedVariables false
set_option linter.unusedSimpArgs false
set_option linter.unusedSectionVars false
section
set_option maxRecDepth 8000
namespace Go.Proofs.YtogmbmdbgkopjaaGreat.Th
open Go Go.Vc Go.Proofs
theorem words_is_spec {n:Int} {K:Bool->Pw} {w:World} (h:K (decide (0≤n/\n<256)) w):C.qdp n K w:=by
 apply S.qdp0;by_cases h0:0≤n
 ·have e:decide (n≥0)=true:=by simpa using h0
  have e2:decide (0≤n/\n<256)=decide (n<256):=by simp[h0]
  rw[e,cond_true];rw[e2] at h;exact h
 ·have e:decide (n≥0)=false:=by simpa using h0
  have e2:decide (0≤n/\n<256)=false:=by simp[h0]
  rw[e,cond_false];rw[e2] at h;exact h
def set1 (b:Int) (i:Nat) (on:Bool):Int:=if on then orI .u64 (andNotI .u64 b (shlI .u64 1 i)) (shlI .u64 1 i) else andNotI .u64 b (shlI .u64 1 i)
def setBits (l:List Int) (n:Nat) (on:Bool):List Int:=l.set (n / 64) (set1 (l.getD (n / 64) 0) (n%64) on)
theorem words_Set_spec {B:Nat} {w0 w:World} {R:List Asn} {b1 b2 b3 b4 n:Int} {on:Bool} {K:Int->Int->Int->Int->Int->Pw} (h:Own B w0 w R) (hn0:0≤n) (hn:n<256)
  (hK:∀r1 r2 r3 r4 w',Own B w0 w' R->[r1,r2,r3,r4]=setBits [b1,b2,b3,b4] n.toNat on->K r1 r2 r3 r4 0 w'):C.qdl b1 b2 b3 b4 n on K w:=by
 apply S.qdl0;refine h.al fun w7 h=>?_
 refine h.al fun w8 h=>?_
 apply words_is_spec;rw[show decide (0≤n/\n<256)=true from by simp[hn0,hn]];simp only[Bool.not_true,cond_false];refine h.dr fun w9 h=>?_
 obtain ⟨m,rfl⟩:=Int.eq_ofNat_of_zero_le hn0
 have hq:IntKind.i64.wrap (((m:Nat):Int).tdiv 64)=((m / 64:Nat):Int):=by
  rw[Int.tdiv_eq_ediv_of_nonneg (by omega),wr (by omega) (by omega)];omega
 have hr:((m:Nat):Int).tmod 64=((m%64:Nat):Int):=by
  rw[Int.tmod_eq_emod_of_nonneg (by omega)];omega
 have hq4:m / 64<4:=by omega
 simp only[Int.toNat_natCast] at hK;rw[hq,hr];generalize hQ:m / 64=q at*
 generalize hr':m%64=r at*
 have hq5:q=0∨q=1∨q=2∨q=3:=by omega
 clear hq hq4;rcases hq5 with rfl|rfl|rfl|rfl<;>
 ·refine ⟨by decide,by decide,by decide,_,h.ld 1 rfl rfl,by decide,by omega,by decide,by decide,?_,trivial⟩
  refine h.std rfl rfl fun w10 h=>?_
  cases on
  ·rw[cond_false]
   refine h.lc_4 rfl ?_;refine h.stLc rfl rfl fun w11 h=>?_
   refine h.lc_4 rfl ?_;refine hK _ _ _ _ _ h.drop.drop ?_;simp only[setBits,hQ,hr'];rfl
  ·rw[cond_true]
   refine h.dr fun w11 h=>?_
   refine ⟨by decide,by decide,by decide,_,h.ld 1 rfl rfl,by decide,by omega,by decide,by decide,?_,trivial⟩;refine h.std rfl rfl fun w10 h=>?_
   refine h.lc_4 rfl ?_;refine h.stLc rfl rfl fun w11 h=>?_
   refine h.lc_4 rfl ?_;refine hK _ _ _ _ _ h.drop.drop ?_;simp only[setBits,hQ,hr'];rfl
def len64 (x:Nat):Nat:=if x=0 then 0 else x.log2+1
theorem len64_eq {x n:Nat} (h1:x<2^n) (h2:n=0∨2^(n-1)≤x):len64 x=n:=by
 unfold len64;rcases h2 with rfl|h2
 ·have:x=0:=by simpa using h1
  rw[if_pos this]
 ·by_cases hn:n=0
  ·subst hn;have:x=0:=by simpa using h1
   rw[if_pos this]
  ·have hp:0<2^(n-1):=Nat.two_pow_pos _
   rw[if_neg (by omega),(Nat.log2_eq_iff (by omega)).2 ⟨h2,by rw[Nat.sub_add_cancel (by omega)];exact h1⟩];omega
theorem len64_out (x:Nat):x<2^len64 x/\(len64 x=0∨2^(len64 x-1)≤x):=by
 unfold len64;by_cases h:x=0
 ·subst h;simp
 ·rw[if_neg h]
  have:=(Nat.log2_eq_iff h).1 rfl;exact ⟨this.2, .inr this.1⟩
theorem len64_div {x k:Nat} (h:2^k≤x):len64 (x / 2^k)+k=len64 x:=by
 obtain ⟨h1,h2⟩:=len64_out (x / 2^k);have hp:0<2^k:=Nat.two_pow_pos _;have hd:1≤x / 2^k:=(Nat.one_le_div_iff hp).2 h
 symm
 apply len64_eq
 ·rw[Nat.pow_add];exact (Nat.div_lt_iff_lt_mul hp).1 h1
 ·right
  rcases h2 with h2|h2
  ·rw[h2] at h1;omega
  ·have h3:len64 (x / 2^k)≠0:=fun e=>by rw[e] at h1;omega
   rw[show len64 (x / 2^k)+k-1=(len64 (x / 2^k)-1)+k from by omega,Nat.pow_add];exact (Nat.le_div_iff_mul_le hp).1 h2
theorem len64_le {x n:Nat} (h:x<2^n):len64 x≤n:=by
 rcases (len64_out x).2 with h1|h1
 ·omega
 ·have h2:2^(len64 x-1)<2^n:=Nat.lt_of_le_of_lt h1 h
  have:=(Nat.pow_lt_pow_iff_right (by omega:1<2)).1 h2;omega
theorem str_tab (x:Nat) (h:x<256):StrAt ⟨#[0,1,2,2,3,3,3,3,4,4,4,4,4,4,4,4,5,5,5,5,5,5,5,5,5,5,5,5,5,5,5,5,6,6,6,6,6,6,6,6,6,6,6,6,6,6,6,6,6,6,6,6,6,6,6,6,6,6,6,6,6,6,6,6,7,7,7,7,7,7,7,7,7,7,7,7,7,7,7,7,7,7,7,7,7,7,7,7,7,7,7,7,7,7,7,7,7,7,7,7,7,7,7,7,7,7,7,7,7,7,7,7,7,7,7,7,7,7,7,7,7,7,7,7,7,7,7,7,8,8,8,8,8,8,8,8,8,8,8,8,8,8,8,8,8,8,8,8,8,8,8,8,8,8,8,8,8,8,8,8,8,8,8,8,8,8,8,8,8,8,8,8,8,8,8,8,8,8,8,8,8,8,8,8,8,8,8,8,8,8,8,8,8,8,8,8,8,8,8,8,8,8,8,8,8,8,8,8,8,8,8,8,8,8,8,8,8,8,8,8,8,8,8,8,8,8,8,8,8,8,8,8,8,8,8,8,8,8,8,8,8,8,8,8,8,8,8,8,8,8,8,8,8,8,8,8]⟩ (x:Int) ((len64 x:Nat):Int):=by
 have hc:(List.range 256).all (fun x=>((⟨#[0,1,2,2,3,3,3,3,4,4,4,4,4,4,4,4,5,5,5,5,5,5,5,5,5,5,5,5,5,5,5,5,6,6,6,6,6,6,6,6,6,6,6,6,6,6,6,6,6,6,6,6,6,6,6,6,6,6,6,6,6,6,6,6,7,7,7,7,7,7,7,7,7,7,7,7,7,7,7,7,7,7,7,7,7,7,7,7,7,7,7,7,7,7,7,7,7,7,7,7,7,7,7,7,7,7,7,7,7,7,7,7,7,7,7,7,7,7,7,7,7,7,7,7,7,7,7,7,8,8,8,8,8,8,8,8,8,8,8,8,8,8,8,8,8,8,8,8,8,8,8,8,8,8,8,8,8,8,8,8,8,8,8,8,8,8,8,8,8,8,8,8,8,8,8,8,8,8,8,8,8,8,8,8,8,8,8,8,8,8,8,8,8,8,8,8,8,8,8,8,8,8,8,8,8,8,8,8,8,8,8,8,8,8,8,8,8,8,8,8,8,8,8,8,8,8,8,8,8,8,8,8,8,8,8,8,8,8,8,8,8,8,8,8,8,8,8,8,8,8,8,8,8,8,8,8]⟩:ByteArray)[x]?).map UInt8.toNat==some (len64 x))=true:=by kernel_rfl
 have:=List.all_eq_true.1 hc x (List.mem_range.2 h);have:=eq_of_beq this;obtain ⟨u,h1,h2⟩:=Option.map_eq_some_iff.1 this;exact ⟨by omega,u,by rw[Int.toNat_natCast];exact h1,by rw[h2]⟩
theorem shr_nat (x k:Nat) (hk:k≤64):shrI .u64 (x:Int) (k:Int)=((x / 2^k:Nat):Int):=by
 unfold shrI;rw[Int.toNat_natCast,show IntKind.u64.bits=64 from rfl,Nat.min_eq_left hk];rw[show ((2:Int)^k)=((2^k:Nat):Int) from by simp];rw[Int.fdiv_eq_ediv_of_nonneg _ (Int.natCast_nonneg _)];simp
theorem wr8 {x:Int} (h1:0≤x) (h2:x<256):IntKind.u8.wrap x=x:=by
 have e1:(2:Int)^8=256:=by decide
 simp only[IntKind.wrap,IntKind.bits,IntKind.signed,e1,Bool.false_and,Bool.false_eq_true,if_false];omega
theorem math_bits_Len64_spec {x:Nat} {K:Int->Pw} {w:World} (hx:x<2^64) (h:K ((len64 x:Nat):Int) w):C.qbV (x:Int) K w:=by
 apply S.qbV0;intro k2 h2
 have hk2:∀(y n:Nat),y<2^32->len64 y+n=len64 x->n≤32->k2 (y:Int) (n:Int) w:=by
  intro y n hy hn hle;apply h2;intro k6 h6
  have hk6:∀(y n:Nat),y<2^16->len64 y+n=len64 x->n≤48->k6 (y:Int) (n:Int) w:=by
   intro y n hy hn hle;apply h6;intro k10 h10
   have hk10:∀(y n:Nat),y<2^8->len64 y+n=len64 x->n≤56->k10 (y:Int) (n:Int) w:=by
    intro y n hy hn hle;apply h10;have hl:=len64_le hy;rw[wr8 (by omega) (by omega)];refine ⟨_,str_tab y hy,?_⟩;rw[wr (x:=((len64 y:Nat):Int)) (by omega) (by omega),wr (by omega) (by omega)];rw[show (n:Int)+((len64 y:Nat):Int)=((len64 x:Nat):Int) from by omega];exact h
   by_cases hc:y≥256
   ·rw[show decide ((y:Int)≥256)=true from by simp;omega,cond_true]
    refine ⟨by decide,?_⟩;rw[wr (by omega) (by omega),show (8:Int)=((8:Nat):Int) from rfl,shr_nat y 8 (by omega)];refine hk10 (y / 2^8) (n+8) ?_ ?_ (by omega)
    ·have:y<2^8*2^8:=by simpa using hy
     exact Nat.div_lt_of_lt_mul this
    ·have:=len64_div (x:=y) (k:=8) (by simpa using hc);omega
   ·rw[show decide ((y:Int)≥256)=false from by simp;omega,cond_false]
    exact hk10 y n (by simp;omega) hn (by omega)
  by_cases hc:y≥65536
  ·rw[show decide ((y:Int)≥65536)=true from by simp;omega,cond_true]
   refine ⟨by decide,?_⟩;rw[wr (by omega) (by omega),show (16:Int)=((16:Nat):Int) from rfl,shr_nat y 16 (by omega)];refine hk6 (y / 2^16) (n+16) ?_ ?_ (by omega)
   ·have:y<2^16*2^16:=by simpa using hy
    exact Nat.div_lt_of_lt_mul this
   ·have:=len64_div (x:=y) (k:=16) (by simpa using hc);omega
  ·rw[show decide ((y:Int)≥65536)=false from by simp;omega,cond_false]
   exact hk6 y n (by simp;omega) hn (by omega)
 by_cases hc:x≥4294967296
 ·rw[show decide ((x:Int)≥4294967296)=true from by simp;omega,cond_true]
  refine ⟨by decide,?_⟩;rw[show (32:Int)=((32:Nat):Int) from rfl,shr_nat x 32 (by omega)];refine hk2 (x / 2^32) 32 ?_ ?_ (by omega)
  ·have:x<2^32*2^32:=by simpa using hx
   exact Nat.div_lt_of_lt_mul this
  ·have:=len64_div (x:=x) (k:=32) (by simpa using hc);omega
 ·rw[show decide ((x:Int)≥4294967296)=false from by simp;omega,cond_false]
  exact hk2 x 0 (by simp;omega) (by omega) (by omega)
theorem set1_bits (x i:Nat) (on:Bool) (hx:x<2^64) (hi:i<64):∃y:Nat,set1 (x:Int) i on=(y:Int)/\y<2^64/\∀j,j<64->y.testBit j=if j=i then on else x.testBit j:=by
 have hs:shlI .u64 1 (i:Int)=((2^i:Nat):Int):=by
  unfold shlI;rw[Int.toNat_natCast,show IntKind.u64.bits=64 from rfl,Nat.min_eq_left (by omega),Int.one_mul,show ((2:Int)^i)=((2^i:Nat):Int) from by simp];have hp:(2:Nat)^64=18446744073709551616:=by decide
  have:2^i<2^64:=Nat.pow_lt_pow_right (by omega) hi;rw[hp] at this;generalize 2^i=y at*
  exact wru (Int.natCast_nonneg _) (by omega)
 have hbv:∀z:Nat,BitVec.ofInt IntKind.u64.bits (z:Int)=BitVec.ofNat 64 z:=fun z=>by
  apply BitVec.eq_of_toNat_eq;simp[IntKind.bits,BitVec.toNat_ofInt]
 have hwrap:∀z:BitVec 64,IntKind.u64.wrap ((z.toNat:Nat):Int)=((z.toNat:Nat):Int):=fun z=>by
  have hp:(2:Nat)^64=18446744073709551616:=by decide
  have:=z.isLt;rw[hp] at this;exact wru (by omega) (by omega)
 have hand:andNotI .u64 (x:Int) ((2^i:Nat):Int)=(((BitVec.ofNat 64 x &&& ~~~ BitVec.ofNat 64 (2^i)).toNat:Nat):Int):=by
  unfold andNotI;rw[hbv,hbv];exact hwrap _
 have hgl:∀(z j:Nat),j<64->(BitVec.ofNat 64 z).getLsbD j=z.testBit j:=fun z j hj=>by rw[BitVec.getLsbD_ofNat];simp[hj]
 have htb:∀j,(2^i).testBit j=decide (j=i):=fun j=>by
  rw[Nat.testBit_two_pow];exact decide_eq_decide.2 ⟨fun h=>h.symm,fun h=>h.symm⟩
 unfold set1;rw[hs,hand];cases on with
 |false=>
  refine ⟨_,rfl,(BitVec.ofNat 64 x &&& ~~~ BitVec.ofNat 64 (2^i)).isLt,fun j hj=>?_⟩;rw[BitVec.testBit_toNat,BitVec.getLsbD_and,BitVec.getLsbD_not,hgl _ _ hj,hgl _ _ hj,htb];by_cases e:j=i<;>simp[e,hj]
 |true=>
  refine ⟨(BitVec.ofNat 64 (BitVec.ofNat 64 x &&& ~~~ BitVec.ofNat 64 (2^i)).toNat ||| BitVec.ofNat 64 (2^i)).toNat,?_,BitVec.isLt _,fun j hj=>?_⟩
  ·simp only[if_true];unfold orI;rw[hbv,hbv];exact hwrap _
  ·rw[BitVec.testBit_toNat,BitVec.getLsbD_or,BitVec.ofNat_toNat,BitVec.setWidth_eq,BitVec.getLsbD_and,BitVec.getLsbD_not,hgl _ _ hj,hgl _ _ hj,htb]
   by_cases e:j=i<;>simp[e,hj]
def BitsOk (f:Nat->Bool) (ws:List Int):Prop:=ws.length=4/\∀j,j<4->∃x:Nat,ws[j]?=some (x:Int)/\x<2^64/\∀i,i<64->x.testBit i=f (64*j+i)
theorem BitsOk.congr {f g:Nat->Bool} {ws:List Int} (h:BitsOk f ws) (hfg:∀i,i<256->f i=g i):BitsOk g ws:=
 ⟨h.1,fun j hj=>by obtain ⟨x,h1,h2,h3⟩:=h.2 j hj;exact ⟨x,h1,h2,fun i hi=>by rw[h3 i hi,hfg _ (by omega)]⟩⟩
theorem BitsOk.set {f:Nat->Bool} {ws:List Int} (h:BitsOk f ws) {n:Nat} (hn:n<256) (on:Bool):BitsOk (fun i=>if i=n then on else f i) (setBits ws n on):=by
 unfold setBits;refine ⟨by simpa using h.1,fun j hj=>?_⟩;obtain ⟨x,h1,h2,h3⟩:=h.2 j hj;by_cases e:n / 64=j
 ·subst e
  obtain ⟨y,h4,h5,h6⟩:=set1_bits x (n%64) on h2 (by omega);refine ⟨y,?_,h5,fun i hi=>?_⟩
  ·rw[List.getElem?_set_self (by rw[h.1];exact hj),List.getD_eq_getElem?_getD,h1]
   simp only[Option.getD_some,h4]
  ·rw[h6 i hi,h3 i hi]
   show _=if 64*(n / 64)+i=n then on else f (64*(n / 64)+i)
   by_cases e:i=n%64
   ·rw[if_pos e,if_pos (by omega)]
   ·rw[if_neg e,if_neg (by omega)]
 ·refine ⟨x,by rw[List.getElem?_set_ne e];exact h1,h2,fun i hi=>?_⟩
  rw[h3 i hi];show _=if 64*j+i=n then on else f (64*j+i)
  rw[if_neg (by omega)]
theorem BitsOk.zero:BitsOk (fun _=>false) [0,0,0,0]:=by
 refine ⟨rfl,fun j hj=>⟨0,?_,by decide,fun i _=>by simp⟩⟩
 match j,hj with
 |0,_|1,_|2,_|3,_=>rfl
def topB (f:Nat->Bool):Nat->Option Nat
 |0=>none
 |n+1=>if f n then some n else topB f n
theorem topB_skip (f:Nat->Bool) (a:Nat):∀(d:Nat),(∀q,a≤q->q<a+d->f q=false)->topB f (a+d)=topB f a
 |0,_=>rfl
 |d+1,h=>by
  show topB f ((a+d)+1)=_;simp only[topB,h (a+d) (by omega) (by omega),Bool.false_eq_true,if_false];exact topB_skip f a d fun q h1 h2=>h q h1 (by omega)
theorem topB_at {f:Nat->Bool} {p n:Nat} (hp:p<n) (hf:f p=true) (h:∀q,p<q->q<n->f q=false):topB f n=some p:=by
 have:=topB_skip f (p+1) (n-(p+1)) fun q h1 h2=>h q (by omega) (by omega)
 rw[show p+1+(n-(p+1))=n from by omega] at this;rw[this];simp[topB,hf]
theorem topB_out {f:Nat->Bool}:∀{n p:Nat},topB f n=some p->p<n/\f p=true/\∀q,p<q->q<n->f q=false
 |n+1,p,h=>by
  simp only[topB] at h;split at h
  ·rename_i hf;cases h;exact ⟨by omega,hf,fun q h1 h2=>by omega⟩
  ·rename_i hf
   obtain ⟨h1,h2,h3⟩:=topB_out h;refine ⟨by omega,h2,fun q h4 h5=>?_⟩;by_cases e:q=n
   ·subst e;simpa using hf
   ·exact h3 q h4 (by omega)
def topI (f:Nat->Bool):Int:=match topB f 256 with|some p=>(p:Int)|none=> -1
theorem log2_top {x:Nat} (hx:x≠0):x.testBit x.log2=true/\∀j,x.log2<j->x.testBit j=false:=by
 have h:=(Nat.log2_eq_iff hx).1 rfl;refine ⟨?_,fun j hj=>Nat.testBit_lt_two_pow (Nat.lt_of_lt_of_le h.2 (Nat.pow_le_pow_right (by omega) hj))⟩;rw[Nat.testBit_eq_decide_div_mod_eq]
 have:x / 2^x.log2=1:=by
  apply Nat.div_eq_of_lt_le
  ·simpa using h.1
  ·have:=h.2;rw[Nat.pow_succ] at this;omega
 rw[this];rfl
theorem words_Top_spec {B:Nat} {w0 w:World} {R:List Asn} {b1 b2 b3 b4:Int} {f:Nat->Bool} {K:Int->Pw} (h:Own B w0 w R) (hb:BitsOk f [b1,b2,b3,b4])
  (hK:∀w',Own B w0 w' R->K (topI f) w'):C.qdj b1 b2 b3 b4 K w:=by
 apply S.qdj0;refine h.al fun w1 h=>?_
 intro l hl
 have key:∀(m t:Nat),t+m=4->topB f 256=topB f (64*m)->l (t:Int) w1:=by
  intro m
  induction m with
  |zero=>
   intro t ht hf;apply hl;rw[show decide ((t:Int)<4)=false from by simp;omega,cond_false];have:topI f= -1:=by unfold topI;rw[hf];rfl
   rw[←this];exact hK _ h.drop
  |succ m ih=>
   intro t ht hf;apply hl;rw[show decide ((t:Int)<4)=true from by simp;omega,cond_true];have hi:IntKind.i64.wrap (3-(t:Int))=(m:Int):=by rw[wr (by omega) (by omega)];omega
   rw[hi];obtain ⟨x,h1,h2,h3⟩:=hb.2 m (by omega)
   have hcell: [Value.int .u64 b1, .y b2, .y b3, .y b4][0+((m:Int).toNat*1)]?=some (.y (x:Int)):=by
    rw[Int.toNat_natCast,Nat.mul_one,Nat.zero_add];have:=congrArg (Option.map (Value.int .u64)) h1;rw[←List.getElem?_map] at this;exact this
   refine ⟨by omega,by omega,_,h.ld 0 rfl hcell,?_⟩;by_cases hx:x=0
   ·subst hx
    rw[show (((0:Nat):Int) !=0)=false from rfl,cond_false,wr (by omega) (by omega)]
    have h4:=ih (t+1) (by omega) (by
     rw[hf,show 64*(m+1)=64*m+64 from by omega];refine topB_skip f (64*m) 64 fun q h5 h6=>?_
     have:=h3 (q-64*m) (by omega);rw[show 64*m+(q-64*m)=q from by omega] at this;rw[←this];simp)
    exact h4
   ·rw[show ((x:Int) !=0)=true from by simp[hx],cond_true]
    refine ⟨by omega,by omega,_,h.ld 0 rfl hcell,?_⟩;apply math_bits_Len64_spec h2;obtain ⟨h4,h5⟩:=log2_top hx;have hlt:x.log2<64:=(Nat.log2_lt hx).2 h2
    have htop:topB f 256=some (64*m+x.log2):=by
     rw[hf];refine topB_at (by omega) (by rw[←h3 _ hlt];exact h4) fun q h6 h7=>?_
     have:=h3 (q-64*m) (by omega);rw[show 64*m+(q-64*m)=q from by omega] at this;rw[←this];exact h5 _ (by omega)
    have hl64:len64 x=x.log2+1:=by unfold len64;rw[if_neg hx]
    rw[hl64,wr (x:=(m:Int)*64) (by omega) (by omega),wr (x:=(m:Int)*64+((x.log2+1:Nat):Int)) (by omega) (by omega),wr (by omega) (by omega)];have:(m:Int)*64+((x.log2+1:Nat):Int)-1=topI f:=by unfold topI;rw[htop];simp;omega
    rw[this];exact hK _ h.drop
 exact key 4 0 rfl rfl
theorem app1_ints {B:Nat} {w0 w:World} {L:List Asn} {s:Sl} {xs:List Int} {y:Int} {c:Nat} {k:Sl->Pw} (h:Own B w0 w (BlkA c [.z y]::L)) (i:Nat) (hL:L[i]?=some (SlT intE s xs))
  (hbig:xs.length≤1000000000000) (hk:∀s' w',s'.len=xs.length+1->Own B w0 w' (L.set i (SlT intE s' (xs++ [y])))->k s' w'):
  ∃s' w',AppR Tryz.prog [26,26] 26 (.slice s.a s.len s.cap) (.slice (some (Addr.mk c 0 none)) 1 1) w s' w'/\k s' w':=
 Own.app1 (E:=intE) (y:=y) Tryz.underlying26 (show Tryz.prog.info? 3=some Tryz.t3 from by kernel_rfl) (zv:= .z 0) (by kernel_rfl) (by kernel_rfl) rfl (by decide) h i hL (by
  have e:Tryz.t3.bytes=8:=by kernel_rfl
  rw[e];omega) hk
def Tells (B:Nat) (w0:World) (L:List Asn) (fv:Value) (p:Int->Bool):Prop:=
 ∀(x:Int) (w:World) (Q:Bool->Pw),Own B w0 w L->(∀w',Own B w0 w' L->Q (p x) w')->CallV Tryz.prog fv [.z x] w fun en w'=>∃r:Bool,en= .returned (.bool r)/\Q r w'
theorem slices_IndexFunc_int_int_spec {B:Nat} {w0 w:World} {L:List Asn} {s:Sl} {xs:List Int} {fv:Value} {p:Int->Bool} {K:Int->Pw} (h:Own B w0 w L) (i:Nat) (hi:L[i]?=some (SlT intE s xs))
  (hbig:xs.length≤1000000000000) (hf:Tells B w0 L fv p)
  (hK:∀w',Own B w0 w' L->K (match xs.findIdx? p with|some j=>(j:Int)|none=> -1) w'):C.qo s fv K w:=by
 apply S.qo0;intro l hl;have hlen:=h.len i hi
 have key:∀(m j:Nat) (w:World),j+m=xs.length->(∀q,q<j->∀x,xs[q]?=some x->p x=false)->Own B w0 w L->l (j:Int) w:=by
  intro m
  induction m with
  |zero=>
   intro j w hj hno h;apply hl;rw[hlen,show decide ((j:Int)<(xs.length:Int))=false from by simp;omega,cond_false]
   have:xs.findIdx? p=none:=by
    rw[List.findIdx?_eq_none_iff];intro x hx;obtain ⟨q,hq⟩:=List.mem_iff_getElem?.1 hx;exact hno q (by have:=(List.getElem?_eq_some_iff.1 hq).1;omega) x hq
   have:=hK w h
   rwa [‹xs.findIdx? p=none›] at this
  |succ m ih=>
   intro j w hj hno h;apply hl;rw[hlen,show decide ((j:Int)<(xs.length:Int))=true from by simp;omega,cond_true];have hlt:j<xs.length:=by omega
   obtain ⟨a,ha,hc⟩:=h.getI i hi (gE hlt);refine ⟨a,ha,by omega,by omega,_,by rw[Int.toNat_natCast];exact hc,?_⟩;refine hf _ _ _ h fun w' h=>?_
   cases hp:p xs[j] with
   |true=>
    rw[cond_true]
    have:xs.findIdx? p=some j:=by
     rw[List.findIdx?_eq_some_iff_getElem];refine ⟨hlt,hp,fun q hq=>?_⟩;simp[hno q hq _ (gE (by omega))]
    have h2:=hK w' h
    rwa [this] at h2
   |false=>
    rw[cond_false,wr (by omega) (by omega)];refine ih (j+1) w' (by omega) (fun q hq x hx=>?_) h;by_cases e:q=j
    ·subst e;rw[gE hlt] at hx;cases hx;exact hp
    ·exact hno q (by omega) x hx
 exact key xs.length 0 w (by omega) (fun q hq=>by omega) h
theorem filter_take_succ (xs:List Int) (q:Int->Bool) (j:Nat) (x:Int) (hx:xs[j]?=some x):(xs.take (j+1)).filter q=(xs.take j).filter q++if q x then [x] else []:=by
 rw[List.take_add_one,hx,List.filter_append];congr 1;simp only[Option.toList_some,List.filter_cons,List.filter_nil]
theorem slices_DeleteFunc_int_int_spec {B:Nat} {w0 w:World} {L:List Asn} {s:Sl} {xs:List Int} {fv:Value} {p:Int->Bool} {K:Sl->Pw} (h:Own B w0 w L) (i:Nat) (hi:L[i]?=some (SlT intE s xs))
  (hbig:xs.length≤1000000000000) (hf:∀ys,ys.length=xs.length->Tells B w0 (L.set i (SlT intE s ys)) fv p)
  (hK:∀s' w',Own B w0 w' (L.set i (SlT intE s' (xs.filter fun x=> !p x)))->K s' w'):C.qB s fv K w:=by
 apply S.qB0
 have hself:∀A,L[i]?=some A->L.set i A=L:=by
  intro A hA;apply List.ext_getElem?;intro j;rw[List.getElem?_set];by_cases e:i=j
  ·subst e;rw[if_pos rfl,if_pos (lt_of_get hA),hA]
  ·simp[e]
 have hf0:Tells B w0 L fv p:=by have:=hf xs rfl;rwa [hself _ hi] at this
 have hlen:=h.len i hi;have hspot:=(h.slO i hi).spot;refine slices_IndexFunc_int_int_spec h i hi hbig hf0 fun w1 h=>?_
 cases hfi:xs.findIdx? p with
 |none=>
  rw[show ((-1:Int)== -1)=true from rfl,cond_true]
  have:xs.filter (fun x=> !p x)=xs:=by
   rw[List.filter_eq_self];intro x hx;rw[List.findIdx?_eq_none_iff] at hfi;simp[hfi x hx]
  have h2:=hK s w1;rw[this,hself _ hi] at h2;exact h2 h
 |some i0=>
  obtain ⟨hi0,hp0,hbefore⟩:=List.findIdx?_eq_some_iff_getElem.1 hfi;rw[show (((i0:Nat):Int)== -1)=false from by simp,cond_false];intro l hl;have hcap:=(h.slO i hi).le_cap
  have key:∀(m j q:Nat) (ys:List Int) (w:World),j+m=xs.length->ys.length=xs.length->ys.take q=(xs.take j).filter (fun x=> !p x)->q<j->q≤ys.length->ys.drop j=xs.drop j->
    Own B w0 w (L.set i (SlT intE s ys))->l (q:Int) (j:Int) w:=by
   intro m
   induction m with
   |zero=>
    intro j q ys w hj hys hq hqj hqy hd h;have hi':(L.set i (SlT intE s ys))[i]?=some (SlT intE s ys):=by rw[List.getElem?_set_self (lt_of_get hi)]
    apply hl;rw[hlen,show decide ((j:Int)<(xs.length:Int))=false from by simp;omega,cond_false];refine ⟨by omega,by omega,?_⟩;rw[Int.toNat_natCast,←hlen];have hn:q≤ys.length:=hqy;refine h.clear (P:=Tryz.prog) (T:=26) (t:=0) (zv:= .z 0) (z0:=0) Tryz.underlying26 (fun w=>Tryz.zeroValue3 w) rfl i hi' hn fun w2 h=>?_
    refine ⟨by omega,by omega,?_⟩;have hi2:=List.getElem?_set_self (a:=SlT intE s (ys.take q++List.replicate (ys.length-q) 0)) (lt_of_get hi');have h3:=h.pre i hi2 (n:=q) (by simp;omega);rw[slA0 _ _ _ hspot]
    have e1:(ys.take q++List.replicate (ys.length-q) 0).take q=xs.filter (fun x=> !p x):=by
     rw[List.take_append_of_le_length (by simp;omega),List.take_take,Nat.min_self,hq,List.take_of_length_le (by omega)]
    rw[e1] at h3;simp only[List.set_set] at h3;exact hK _ _ h3
   |succ m ih=>
    intro j q ys w hj hys hq hqj hqy hd h;have hi':(L.set i (SlT intE s ys))[i]?=some (SlT intE s ys):=by rw[List.getElem?_set_self (lt_of_get hi)]
    have hjlt:j<xs.length:=by omega
    have hyj:ys[j]?=some xs[j]:=by
     have:=congrArg (fun l=>l[0]?) hd;simp only[List.getElem?_drop,Nat.add_zero] at this;rw[this,gE hjlt]
    apply hl;rw[hlen,show decide ((j:Int)<(xs.length:Int))=true from by simp;omega,cond_true];obtain ⟨a,ha,hc⟩:=h.getI i hi' hyj;refine ⟨a,ha,by omega,by omega,_,by rw[Int.toNat_natCast];exact hc,?_⟩;refine hf ys hys _ _ _ h fun w2 h=>?_
    have hft:=filter_take_succ xs (fun x=> !p x) j _ (gE hjlt)
    have hd1:∀zs:List Int,zs.drop j=xs.drop j->zs.drop (j+1)=xs.drop (j+1):=fun zs hz=>by
     rw[←List.drop_drop (i:=1) (j:=j),←List.drop_drop (i:=1) (j:=j),hz]
    cases hp:p xs[j] with
    |true=>
     simp only[Bool.not_true,cond_false];rw[wr (by omega) (by omega)];refine ih (j+1) q ys w2 (by omega) hys ?_ (by omega) hqy (hd1 ys hd) h;rw[hq,hft,hp];simp
    |false=>
     simp only[Bool.not_false,cond_true];obtain ⟨b,o,hb,_⟩:=h.get i hi' hyj;rw[ha] at hb;cases hb;refine ⟨_,ha,by omega,by omega,?_⟩;rw[Int.toNat_natCast,add_mk];refine h.stE i hi' (j:=q) (by omega) xs[j] ha rfl fun w3 h=>?_
     simp only[List.set_set] at h;rw[wr (by omega) (by omega),wr (by omega) (by omega)];refine ih (j+1) (q+1) _ w3 (by omega) (by simpa using hys) ?_ (by omega) (by simp;omega) ?_ h
     ·rw[hft,hp]
      simp only[Bool.not_false,if_true];rw[List.take_add_one,List.getElem?_set_self (by omega),List.take_set_of_le (by omega),hq];rfl
     ·rw[List.drop_set_of_lt (by omega)]
      exact hd1 ys hd
  refine key (xs.length-(i0+1)) (i0+1) i0 xs w1 (by omega) rfl ?_ (by omega) (by omega) rfl (by rw[hself _ hi];exact h) |> fun h=>?_
  rw[show IntKind.i64.wrap ((i0:Int)+1)=((i0+1:Nat):Int) from by rw[wr (by omega) (by omega)];omega]
  ·exact h
  ·rw[filter_take_succ xs _ i0 _ (gE hi0),hp0]
   simp only[Bool.not_true,Bool.false_eq_true,if_false,List.append_nil]
   symm
   rw[List.filter_eq_self];intro x hx;obtain ⟨q,hq⟩:=List.mem_iff_getElem?.1 hx;rw[List.getElem?_take] at hq;split at hq
   ·rename_i hlt
    obtain ⟨h4,h5⟩:=List.getElem?_eq_some_iff.1 hq;have:=hbefore q hlt;rw[h5] at this;simpa using this
   ·cases hq
end Go.Proofs.YtogmbmdbgkopjaaGreat.Th
end
section
set_option maxRecDepth 8000
namespace Go.Proofs.YtogmbmdbgkopjaaGreat
open Go Go.Vc Go.Proofs
section
variable {B:Nat} {w0 w:World} {R L:List Asn} {b:Nat} {n:Nte}
theorem notify_Cancel_spec {who:Int} {K:Bool->Pw} (h:Own B w0 w (NoteA b n::R)) (hK:∀r w',Own B w0 w' (NoteA b (n.cancel who)::R)->K r w'):C.qay (some ⟨b,0,none⟩) who K w:=by
 apply S.qay0;obtain ⟨s,hl,h⟩:=h.note;refine h.al fun w1 h=>?_
 generalize w.heap.size=c at h⊢;refine ⟨_,rfl,s,h.ldc rfl,_,rfl,s,h.ldc rfl,?_⟩;refine Th.slices_DeleteFunc_int_int_spec (p:=fun x=>x==who) h 2 rfl (by omega) (fun ys hys x w Q h hQ=>?_) fun s' w h=>?_
 ·refine callV_mk ?_
  show C.qaB x ⟨c,0,none⟩ Q w;apply S.qaB0;have h2:Own B w0 w (BlkA c [.z who]::BlkA b [.y n.word, .bool n.is, .slice s.a s.len s.cap]::SlT intE s ys::R):=h;exact ⟨_,h2.ldc rfl,hQ _ h⟩
 ·have h:Own B w0 w (BlkA c [.z who]::BlkA b [.y n.word, .bool n.is, .slice s.a s.len s.cap]::SlT intE s' (n.l.filter fun x=> !(x==who))::R):=h
  refine ⟨_,rfl,?_⟩;refine h.stc rfl rfl fun w h=>?_
  (try dsimp only[putAt,List.set_cons_zero,List.set_cons_succ] at h)
  refine ⟨_,rfl,s',h.ldc rfl,?_⟩;exact hK _ w (Own.mk_note (s:=s') (Nat.le_trans (List.length_filter_le _ _) hl) (show Own B w0 w (BlkA b [.y n.word, .bool n.is, .slice s'.a s'.len s'.cap]::SlT intE s' (n.l.filter fun x=> !(x==who))::R) from h.sub))
end
end Go.Proofs.YtogmbmdbgkopjaaGreat
end
section
set_option maxRecDepth 100000
namespace Go.Proofs.YtogmbmdbgkopjaaGreat
open Go Go.Vc Go.Proofs
theorem S.qdq0 {a K w}:Fr (C.qdq a K w) (∀b:Bool->Pw,(∀(c:Bool) (d:World),(bif c then (K none 1 d) else (∃(b:Sl) (c:World),MkSlR Tryz.prog 198 (.z a) (.z a) d b c/\Al c (.cells #[.slice b.a b.len b.cap] 200) fun a=>K (some (.mk c.heap.size 0 none)) 0 a))->b c d)->(bif decide (a<1) then (b true w) else (b (decide (a>64)) w))):=okT Tryz.func45 .g32
theorem S.qca0 {a b K w}:Fr (C.qca a b K w) (∀c:Bool->Pw,(∀(d:Bool) (e:World),(bif d then (K none e) else (∃c,a=some c/\∃a:Sl,e.cell? c=some (.slice a.a a.len a.cap)/\∃c,a.a=some c/\0≤b/\b<(a.len:Int)/\K (some (c.add (b.toNat*3))) e))->c d e)->(bif decide (b<0) then (c true w) else (∃d,a=some d/\∃a:Sl,w.cell? d=some (.slice a.a a.len a.cap)/\c (decide (b≥(a.len:Int))) w))):=okT Tryz.func146 .g31
theorem S.qch0 {a b c d K w}:Fr (C.qch a b c d K w) (C.qca a b (fun a b=>bif a.isNone then (K 130 b) else (bif decide (c<0) then (K 1 b) else (∃e,a=some e/\∃f,b.cell? e=some (.z f)/\bif f !=0 then (K 131 b) else (∃e,a=some e/\StL b e 0 [.z 1, .z c, .y d] fun a=>K 0 a)))) w):=okT Tryz.func225 (.v (.v (.y (.x (.v .g40)) (.v .w))))
theorem S.qcx0 {a b K w}:Fr (C.qcx a b K w) (C.qca a b (fun a b=>bif a.isNone then (K 0 0 false 130 b) else (∃c,a=some c/\∃d,b.cell? c=some (.z d)/\bif d==3 then (∃c,a=some c/\St b c (.z 2) fun b=>Dr b fun b=>∃c,a=some c/\∃d,b.cell? (c.add 1)=some (.z d)/\∃c,a=some c/\∃a,b.cell? (c.add 2)=some (.y a)/\K d a true 0 b) else (bif d==2 then (∃c,a=some c/\St b c (.z 1) fun a=>K 0 0 false 0 a) else (K 0 0 false 0 b)))) w):=okT Tryz.func226 (.v (.v (.y (.v (.x .w)) (.y (.v (.x (.v (.y (.v (.x (.z (.o 0 240 (.o 1 240 (.o 2 240 (.o 3 240 (.o 4 256 (.o 5 256 (.o 6 256 (.o 7 256 (.o 8 0 (.o 9 0 (.o 10 0 (.o 11 0 .done))))))))))))))) (.v .w))))) .w))))
theorem S.qcm0 {a b c d K w}:Fr (C.qcm a b c d K w) (Al w (.cells #[.z a, .z b, .z c, .slice d.a d.len d.cap] 28) fun a=>LdL a (.mk w.heap.size 0 none) 0 [.o, .o, .o, .s] fun (b c d:Int) (e:Sl)=>C.qcI b c d e (fun a b=>bif !a then (K none 1 b) else (∀a:Option Addr->Pw,(∀(b:Option Addr) (c:World),(∃a,c.cell? (Addr.mk w.heap.size 0 none)=some (.z a)/\C.qcO a (fun a _ d=>∃c,b=some c/\St d (c.add 2) (.pointer a) fun a=>C.qdq 8 (fun a _ d=>∃c,b=some c/\St d (c.add 3) (.pointer a) fun a=>∃c,b=some c/\∃d,a.cell? c=some (.pointer d)/\C.qaX d 6 (fun _ _ d=>C.qF b 0 2 0 (fun a c=>C.qF b a 1 0 (fun a c=>∃d:Sl,c.cell? ((Addr.mk w.heap.size 0 none).add 3)=some (.slice d.a d.len d.cap)/\∀e:Int->Int->Pw,(∀(a c:Int) (f:World),(bif decide (c<(d.len:Int)) then (∃g,d.a=some g/\0≤c/\c<(d.len:Int)/\∃d,f.cell? (g.add (c.toNat*1))=some (.z d)/\∃g,b=some g/\∃h,f.cell? (g.add 2)=some (.pointer h)/\C.qC h d c (fun d _ g=>∃f,b=some f/\∃h,g.cell? (f.add 2)=some (.pointer h)/\C.qv h d (fun _ g=>∃f,b=some f/\∃h,g.cell? (f.add 2)=some (.pointer h)/\C.qD h c (fun _ _ h=>C.qF b a 3 d (fun a b=>e a (IntKind.i64.wrap (c+1)) b) h) g) g) f) else (C.qF b a 8 0 (fun a c=>∃d,c.cell? ((Addr.mk w.heap.size 0 none).add 2)=some (.z d)/\∀e:Int->Int->Pw,(∀(a c:Int) (f:World),(bif decide (c<d) then (C.qF b a 9 c (fun a b=>e a (IntKind.i64.wrap (c+1)) b) f) else (K b 0 f))->e a c f)->e a 0 c) f))->e a c f)->e a 0 c) c) d) a) a) c)->a b c)->(Dr b fun b=>∃c,b.cell? ((Addr.mk w.heap.size 0 none).add 1)=some (.z c)/\∃d,b.cell? (Addr.mk w.heap.size 0 none)=some (.z d)/\(C.qcX (fun b e=>e.cell? (Addr.mk w.heap.size 0 none)=some (.z d)/\e.cell? ((Addr.mk w.heap.size 0 none).add 1)=some (.z c)/\(C.qde (fun e f=>f.cell? (Addr.mk w.heap.size 0 none)=some (.z d)/\f.cell? ((Addr.mk w.heap.size 0 none).add 1)=some (.z c)/\(Al f (.cells #[.y 0, .z c, .y 0] 86) fun c=>(C.qbZ (fun c g=>g.cell? (Addr.mk w.heap.size 0 none)=some (.z d)/\(Al g (.cells #[.pointer c] 109) fun c=>(Al c (.cells #[.pointer b, .pointer e, .pointer none, .pointer none, .slice (some (.mk f.heap.size 0 none)) 1 1, .slice none 0 0, .slice none 0 0, .slice (some (.mk g.heap.size 0 none)) 1 1, .z 0, .z 0, .z 1, .z d] 117) fun b=>a (some (.mk c.heap.size 0 none)) b)/\True)/\True) c)/\True)/\(C.qbZ (fun f g=>g.cell? (Addr.mk w.heap.size 0 none)=some (.z d)/\g.cell? ((Addr.mk w.heap.size 0 none).add 1)=some (.z c)/\(Al g (.cells #[.y 0, .z c, .y 0] 86) fun c=>(Al c (.cells #[.pointer f] 109) fun f=>(Al f (.cells #[.pointer b, .pointer e, .pointer none, .pointer none, .slice (some (.mk g.heap.size 0 none)) 1 1, .slice none 0 0, .slice none 0 0, .slice (some (.mk c.heap.size 0 none)) 1 1, .z 0, .z 0, .z 1, .z d] 117) fun b=>a (some (.mk f.heap.size 0 none)) b)/\True)/\True)/\(Al g (.cells #[.pointer f] 109) fun f=>(Al f (.cells #[.y 0, .z c, .y 0] 86) fun c=>(Al c (.cells #[.pointer b, .pointer e, .pointer none, .pointer none, .slice (some (.mk f.heap.size 0 none)) 1 1, .slice none 0 0, .slice none 0 0, .slice (some (.mk g.heap.size 0 none)) 1 1, .z 0, .z 0, .z 1, .z d] 117) fun b=>a (some (.mk c.heap.size 0 none)) b)/\True)/\True)/\True) f)/\True) e)/\(Al e (.cells #[.y 0, .z c, .y 0] 86) fun c=>(C.qde (fun c f=>f.cell? (Addr.mk w.heap.size 0 none)=some (.z d)/\(C.qbZ (fun f g=>g.cell? (Addr.mk w.heap.size 0 none)=some (.z d)/\(Al g (.cells #[.pointer f] 109) fun f=>(Al f (.cells #[.pointer b, .pointer c, .pointer none, .pointer none, .slice (some (.mk e.heap.size 0 none)) 1 1, .slice none 0 0, .slice none 0 0, .slice (some (.mk g.heap.size 0 none)) 1 1, .z 0, .z 0, .z 1, .z d] 117) fun b=>a (some (.mk f.heap.size 0 none)) b)/\True)/\True) f)/\True) c)/\True)/\True) b)/\(Al b (.cells #[.y 0, .z c, .y 0] 86) fun c=>(C.qcX (fun c e=>e.cell? (Addr.mk w.heap.size 0 none)=some (.z d)/\(C.qde (fun e f=>f.cell? (Addr.mk w.heap.size 0 none)=some (.z d)/\(C.qbZ (fun f g=>g.cell? (Addr.mk w.heap.size 0 none)=some (.z d)/\(Al g (.cells #[.pointer f] 109) fun f=>(Al f (.cells #[.pointer c, .pointer e, .pointer none, .pointer none, .slice (some (.mk b.heap.size 0 none)) 1 1, .slice none 0 0, .slice none 0 0, .slice (some (.mk g.heap.size 0 none)) 1 1, .z 0, .z 0, .z 1, .z d] 117) fun b=>a (some (.mk f.heap.size 0 none)) b)/\True)/\True) f)/\True) e)/\True) c)/\True)/\True))) a):=okT Tryz.func14 (.v (.y (.v (.x .w)) (.y (.r (some [(4,.c .p)]) (.o 2 963 (.o 8 251 (.hold 3 707 6111 (.o 4 707 (.hold 9 227 6143 (.f 0 (.f 1 (.f 5 (.e 6 .g38) (.e 6 (.f 5 .g38 (.e 7 (.e 5 (.o 10 0 (.e 11 (.o 12 0 .done)))))))) (.e 5 .g35)) (.e 5 (.e 0 .g35))))))))) (.v (.v (.v (.v (.v (.y (.v (.x (.t (some [(5,.c (.i .i64)),(55,.c (.i .i64))]) (.v (.y .w (.x (.x (.v (.v (.v .w))))))) .u))) (.v (.y (.v (.x (.t (some [(5,.c (.i .i64)),(92,.c (.i .i64))]) .g52 .u))) .w)))))))))))
theorem S.qp0 {a K w}:Fr (C.qp a K w) (∃b,a=some b/\∃a,w.cell? b=some (.pointer a)/\C.qaY a (fun a b=>K a b) w):=okT Tryz.func15 (.v .w)
theorem S.qz0 {a b c d e f g h K w}:Fr (C.qz a b c d e f g h K w) (Al w (.cells #[.z c, .z d, .z e, .z f, .z g, .z h] 37) fun c=>Al c (.cells #[.z 0, .y 0, .z 0, .slice none 0 0] 34) fun d=>LdL d (.mk w.heap.size 0 none) 0 [.o, .o, .o, .o, .o, .o] fun (e f g h i j:Int)=>Al d (.cells #[.pointer a, .z b, .z 0, .z e, .z f, .z g, .z h, .z i, .z j, .z 0, .z 0, .z 0, .z 0, .z 0, .y 0, .y 0, .z 0, .z 0, .y 0, .z (-1), .slice none 0 0] 127) fun e=>∃f,a=some f/\∃g,e.cell? (f.add 2)=some (.pointer g)/\C.qD g b (fun e f g=>∃h,some (Addr.mk d.heap.size 0 none)=some h/\St g (h.add 2) (.z e) fun e=>∀g:Pw,(∀a:World,(∃b,some (Addr.mk d.heap.size 0 none)=some b/\LdL a (b.add 17) 0 [.o, .u, .o, .s] fun (b d e:Int) (f:Sl)=>StL a (.mk c.heap.size 0 none) 0 [.z b, .y d, .z e, .slice f.a f.len f.cap] fun a=>LdL a (.mk c.heap.size 0 none) 0 [.o, .u, .o, .s] fun (b c d:Int) (e:Sl)=>K b c d e a)->g a)->(bif !f then (∃a,some (Addr.mk d.heap.size 0 none)=some a/\St e (a.add 17) (.z 182) fun a=>g a) else (∀c:Bool->Pw,(∀(e:Bool) (f:World),(bif e then (∃a,some (Addr.mk d.heap.size 0 none)=some a/\St f (a.add 17) (.z 180) fun a=>g a) else (∃c,f.cell? (Addr.mk w.heap.size 0 none)=some (.z c)/\bif c==17 then (∃c,a=some c/\∃a,f.cell? (c.add 2)=some (.pointer a)/\C.qaj a b (fun _ b=>g b) f) else (C.qaQ (some (.mk d.heap.size 0 none)) (fun a b=>∃c,some (Addr.mk d.heap.size 0 none)=some c/\St b (c.add 17) (.z a) fun a=>g a) f)))->c e f)->(∃a,e.cell? (Addr.mk w.heap.size 0 none)=some (.z a)/\bif decide (a<0) then (c true e) else (∃a,e.cell? (Addr.mk w.heap.size 0 none)=some (.z a)/\c (decide (a≥18)) e))))) e):=okT Tryz.func16 (.v (.v (.v (.v (.y (.x (.v (.t (some []) .u (.y (.r (some [(42,.c .b)]) .done) (.v (.v .w)))))) .w)))))
theorem S.qaq0 {a b K w}:Fr (C.qaq a b K w) (∃c,a=some c/\∃a,w.cell? (c.add 2)=some (.pointer a)/\C.qO a b (fun a b c=>K a b c) w):=okT Tryz.func19 (.v .w)
theorem S.qar0 {a b K w}:Fr (C.qar a b K w) (Al w (.cells #[.z 0, .z 0, .z 0, .z 0, .y 0, .y 0, .y 0, .y 0, .y 0, .y 0, .y 0, .y 0] 53) fun c=>∃d,a=some d/\∃a,c.cell? (d.add 2)=some (.pointer a)/\C.qY a b (fun a b c d e f g h i j k l m n=>StL n (.mk w.heap.size 0 none) 0 [.z a, .z b, .z c, .z d, .y e, .y f, .y g, .y h, .y i, .y j, .y k, .y l] fun a=>LdL a (.mk w.heap.size 0 none) 0 [.o, .o, .o, .o, .u, .u, .u, .u, .u, .u, .u, .u] fun (b c d e f g h i j k l n:Int)=>K b c d e f g h i j k l n m a) c):=okT Tryz.func20 (.v .w)
theorem S.qaC0 {a b K w}:Fr (C.qaC a b K w) (∃c,a=some c/\∃d:Sl,w.cell? (c.add 7)=some (.slice d.a d.len d.cap)/\C.qaA d b (fun c d=>bif !c then (K ⟨none,0,0⟩ d) else (∃c,a=some c/\∃a:Sl,d.cell? (c.add 7)=some (.slice a.a a.len a.cap)/\∃c,a.a=some c/\0≤b/\b<(a.len:Int)/\∃a,d.cell? (c.add (b.toNat*1))=some (.pointer a)/\C.qas a (fun a b=>K a b) d)) w):=okT Tryz.func21 .g51
theorem S.qae0 {a K w}:Fr (C.qae a K w) (∃b,a=some b/\∃a,w.cell? (b.add 1)=some (.pointer a)/\C.qcu a (fun a b=>K a b) w):=okT Tryz.func29 (.v .w)
def S.qH (k1:Option Addr) (n2:Int) (K:Int->Int->Int->Bool->Pw) (w:World):Prop:=Al w (.cells #[.y 0, .z 0, .y 0] 86) fun w3=>∃a4,k1=some a4/\∃u5:Sl,w3.cell? (a4.add 4)=some (.slice u5.a u5.len u5.cap)/\C.qaN u5 n2 (fun r6 w7=>bif !r6 then (StL w7 (Addr.mk w.heap.size 0 none) 0 [.y 0, .z 0, .y 0] fun w8=>LdL w8 (Addr.mk w.heap.size 0 none) 0 [.u, .o, .u] fun (r9:Int) (r10:Int) (r11:Int)=>K r9 r10 r11 false w8) else (∃a12,k1=some a12/\∃u13:Sl,w7.cell? (a12.add 4)=some (.slice u13.a u13.len u13.cap)/\∃a14,u13.a=some a14/\0≤n2/\n2<(u13.len:Int)/\LdL w7 (a14.add (n2.toNat*3)) 0 [.u, .o, .u] fun (t15:Int) (t16:Int) (t17:Int)=>StL w7 (Addr.mk w.heap.size 0 none) 0 [.y t15, .z t16, .y t17] fun w18=>LdL w18 (Addr.mk w.heap.size 0 none) 0 [.u, .o, .u] fun (r19:Int) (r20:Int) (r21:Int)=>K r19 r20 r21 true w18)) w3
theorem S.qH0 (k1:Option Addr) (n2:Int) (K:Int->Int->Int->Bool->Pw) (w:World) (h:S.qH k1 n2 K w):C.qH k1 n2 K w:=
 okS Tryz.func30 (.t none (.u) (.t none (.t none (.u) (.t none (.t none (.u) (.u)) (.u))) (.t none (.u) (.u)))) [(0, .a [.u, .o, .u]),(1, .c (.b))] [.pointer k1, .z n2] K rfl (by kernel_rfl) (by kernel_rfl) h
theorem S.qcI0 {a b c d K w}:Fr (C.qcI a b c d K w) (Al w (.cells #[.z a, .z b, .z c, .slice d.a d.len d.cap] 28) fun a=>∀b:Bool->Pw,(∀(a:Bool) (c:World),(bif a then (∃a:Sl,c.cell? ((Addr.mk w.heap.size 0 none).add 3)=some (.slice a.a a.len a.cap)/\∃b,c.cell? (Addr.mk w.heap.size 0 none)=some (.z b)/\bif (a.len:Int)==b then (∃a:Sl,c.cell? ((Addr.mk w.heap.size 0 none).add 3)=some (.slice a.a a.len a.cap)/\C.qV a (.func (.func 102) #[] #[]) (fun a b=>K (!a) b) c) else (K false c)) else (K false c))->b a c)->(∃c,a.cell? (Addr.mk w.heap.size 0 none)=some (.z c)/\bif decide (c≥1) then (∃c,a.cell? (Addr.mk w.heap.size 0 none)=some (.z c)/\bif decide (c≤8) then (∃c,a.cell? ((Addr.mk w.heap.size 0 none).add 1)=some (.z c)/\bif decide (c≥4) then (∃c,a.cell? ((Addr.mk w.heap.size 0 none).add 1)=some (.z c)/\bif decide (c≤20) then (∃c,a.cell? ((Addr.mk w.heap.size 0 none).add 2)=some (.z c)/\bif decide (c≥0) then (∃c,a.cell? ((Addr.mk w.heap.size 0 none).add 2)=some (.z c)/\b (decide (c≤8)) a) else (b false a)) else (b false a)) else (b false a)) else (b false a)) else (b false a))):=okT Tryz.func40 (.v (.v (.y (.r (some [(4,.c .b)]) .done) .w)))
theorem S.qF0 {a b c d K w}:Fr (C.qF a b c d K w) (Al w (.cells #[.z 0, .z 0] 40) fun e=>StL e (.mk w.heap.size 0 none) 0 [.z 0, .z b] fun e=>Dr e fun e=>∃f,a=some f/\∃g,e.cell? f=some (.pointer g)/\LdL e (.mk w.heap.size 0 none) 0 [.o, .o] fun (f h:Int)=>(C.qbw g f h c d 7 0 0 0 (fun _ d=>Dr d fun c=>∃d,a=some d/\∃a,c.cell? (d.add 1)=some (.pointer a)/\LdL c (.mk w.heap.size 0 none) 0 [.o, .o] fun (d e:Int)=>(C.qcf a d e (fun _ c=>K (IntKind.i64.wrap (b+1)) c) c)/\True) e)/\True):=okT Tryz.func47 (.v (.v (.y .g13 .g23)))
theorem S.qaQ0 {a K w}:Fr (C.qaQ a K w) (∃b,a=some b/\∃c,w.cell? (b.add 3)=some (.z c)/\C.qcJ c (fun b c d=>Al d (.cells #[.z 0, .z 0] 213) fun e=>StL e (.mk d.heap.size 0 none) 0 [.z b, .z c] fun b=>∀c:Addr->Addr->Bool->Pw,(∀(b e:Addr) (f:Bool) (g:World),(∀c:Bool->Pw,(∀(d:Bool) (f:World),(bif d then (K 181 f) else (Dr f fun c=>LdL c b 0 [.o, .o] fun (b d:Int)=>∃f,a=some f/\LdL c e 0 [.o, .o, .o, .u, .u, .o] fun (g h i j k l:Int)=>(StL c (f.add 9) 0 [.z b, .z d] fun b=>HdL b e 0 [.z g, .z h, .z i, .y j, .y k, .z l] (∃c,a=some c/\(StL b (c.add 11) 0 [.z g, .z h, .z i, .y j, .y k, .z l] fun b=>Al b (.map #[] 0) fun c=>∃d:World,UpdR Tryz.prog 217 (.map (some b.heap.size)) (.z 0) (.func (.func 119) #[.pointer a] #[]) c d/\∃c:World,UpdR Tryz.prog 217 (.map (some b.heap.size)) (.z 1) (.func (.func 120) #[.pointer a] #[]) d c/\∃d:World,UpdR Tryz.prog 217 (.map (some b.heap.size)) (.z 2) (.func (.func 121) #[.pointer a] #[]) c d/\∃c:World,UpdR Tryz.prog 217 (.map (some b.heap.size)) (.z 3) (.func (.func 122) #[.pointer a] #[]) d c/\∃d:World,UpdR Tryz.prog 217 (.map (some b.heap.size)) (.z 4) (.func (.func 123) #[.pointer a] #[]) c d/\∃c:World,UpdR Tryz.prog 217 (.map (some b.heap.size)) (.z 5) (.func (.func 124) #[.pointer a] #[]) d c/\∃d:World,UpdR Tryz.prog 217 (.map (some b.heap.size)) (.z 6) (.func (.func 125) #[.pointer a] #[]) c d/\∃c:World,UpdR Tryz.prog 217 (.map (some b.heap.size)) (.z 7) (.func (.func 126) #[.pointer a] #[]) d c/\∃d:World,UpdR Tryz.prog 217 (.map (some b.heap.size)) (.z 8) (.func (.func 127) #[.pointer a] #[]) c d/\∃c:World,UpdR Tryz.prog 217 (.map (some b.heap.size)) (.z 9) (.func (.func 128) #[.pointer a] #[]) d c/\∃d:World,UpdR Tryz.prog 217 (.map (some b.heap.size)) (.z 10) (.func (.func 129) #[.pointer a] #[]) c d/\∃c:World,UpdR Tryz.prog 217 (.map (some b.heap.size)) (.z 11) (.func (.func 130) #[.pointer a] #[]) d c/\∃d:World,UpdR Tryz.prog 217 (.map (some b.heap.size)) (.z 12) (.func (.func 131) #[.pointer a] #[]) c d/\∃c:World,UpdR Tryz.prog 217 (.map (some b.heap.size)) (.z 13) (.func (.func 132) #[.pointer a] #[]) d c/\∃d:World,UpdR Tryz.prog 217 (.map (some b.heap.size)) (.z 14) (.func (.func 133) #[.pointer a] #[]) c d/\∃c:World,UpdR Tryz.prog 217 (.map (some b.heap.size)) (.z 15) (.func (.func 134) #[.pointer a] #[]) d c/\∃d:World,UpdR Tryz.prog 217 (.map (some b.heap.size)) (.z 16) (.func (.func 135) #[.pointer a] #[]) c d/\∃c,a=some c/\∃a,d.cell? (c.add 3)=some (.z a)/\∃c:Value,Lk1 Tryz.prog 217 (.map (some b.heap.size)) (.z a) (c) d/\CallV Tryz.prog (c) [] d fun a b=>∃c,a= .returned (.z c)/\K c b)/\True))/\True))->c d f)->(bif !f then (c true g) else (∃a,g.cell? (e.add 2)=some (.z a)/\∃b,g.cell? ((Addr.mk d.heap.size 0 none).add 1)=some (.z b)/\∃e,g.cell? ((Addr.mk d.heap.size 0 none).add 1)=some (.z e)/\c ((andI .i64 a b) !=e) g)))->c b e f g)->(Dr b fun b=>∃e,a=some e/\∃f,b.cell? e=some (.pointer f)/\∃e,a=some e/\∃a,b.cell? ((e.add 3).add 1)=some (.z a)/\∃e,b.cell? (Addr.mk d.heap.size 0 none)=some (.z e)/\(C.qa f a e (fun a b d e f g h i j k=>(Al k (.cells #[.z 0, .z 0] 40) fun l=>(Al l (.cells #[.z 0, .z 0, .z 0, .y 0, .y 0, .z 0] 42) fun m=>(StL m (.mk k.heap.size 0 none) 0 [.z a, .z b] fun a=>(StL a (.mk l.heap.size 0 none) 0 [.z d, .z e, .z f, .y g, .y h, .z i] fun a=>c (.mk k.heap.size 0 none) (.mk l.heap.size 0 none) j a)/\True)/\True)/\True)/\(Al k (.cells #[.z 0, .z 0, .z 0, .y 0, .y 0, .z 0] 42) fun l=>(Al l (.cells #[.z 0, .z 0] 40) fun m=>(StL m (.mk l.heap.size 0 none) 0 [.z a, .z b] fun a=>(StL a (.mk k.heap.size 0 none) 0 [.z d, .z e, .z f, .y g, .y h, .z i] fun a=>c (.mk l.heap.size 0 none) (.mk k.heap.size 0 none) j a)/\True)/\True)/\True)/\True) b)/\(Al b (.cells #[.z 0, .z 0] 40) fun d=>(C.qa f a e (fun a d e f g h i j k l=>(Al l (.cells #[.z 0, .z 0, .z 0, .y 0, .y 0, .z 0] 42) fun m=>(StL m (.mk b.heap.size 0 none) 0 [.z a, .z d] fun a=>(StL a (.mk l.heap.size 0 none) 0 [.z e, .z f, .z g, .y h, .y i, .z j] fun a=>c (.mk b.heap.size 0 none) (.mk l.heap.size 0 none) k a)/\True)/\True)/\True) d)/\(Al d (.cells #[.z 0, .z 0, .z 0, .y 0, .y 0, .z 0] 42) fun g=>(C.qa f a e (fun a e f g h i j k l m=>(StL m (.mk b.heap.size 0 none) 0 [.z a, .z e] fun a=>(StL a (.mk d.heap.size 0 none) 0 [.z f, .z g, .z h, .y i, .y j, .z k] fun a=>c (.mk b.heap.size 0 none) (.mk d.heap.size 0 none) l a)/\True)/\True) g)/\True)/\True)/\(Al b (.cells #[.z 0, .z 0, .z 0, .y 0, .y 0, .z 0] 42) fun d=>(C.qa f a e (fun a d e f g h i j k l=>(Al l (.cells #[.z 0, .z 0] 40) fun m=>(StL m (.mk l.heap.size 0 none) 0 [.z a, .z d] fun a=>(StL a (.mk b.heap.size 0 none) 0 [.z e, .z f, .z g, .y h, .y i, .z j] fun a=>c (.mk l.heap.size 0 none) (.mk b.heap.size 0 none) k a)/\True)/\True)/\True) d)/\(Al d (.cells #[.z 0, .z 0] 40) fun g=>(C.qa f a e (fun a e f g h i j k l m=>(StL m (.mk d.heap.size 0 none) 0 [.z a, .z e] fun a=>(StL a (.mk b.heap.size 0 none) 0 [.z f, .z g, .z h, .y i, .y j, .z k] fun a=>c (.mk d.heap.size 0 none) (.mk b.heap.size 0 none) l a)/\True)/\True) g)/\True)/\True)/\True)) w):=okT Tryz.func53 (.v (.v (.y (.r (some [(4,.c .q),(5,.c .q),(6,.c .b)]) (.o 0 198640 (.o 1 198640 (.o 2 198640 (.o 3 198640 (.o 4 198144 (.o 5 198144 (.o 6 198144 (.o 7 198144 (.o 8 198144 (.o 9 196608 (.o 10 196608 (.f 11 (.o 12 196608 (.o 13 245760 (.o 14 491520 (.o 15 983040 (.f 16 (.e 17 .g43) (.e 17 (.e 16 .g43))))))) (.f 16 (.f 11 (.o 12 131072 (.o 13 180224 (.o 14 425984 (.o 15 917504 (.e 17 .g43))))) (.e 17 .g16)) (.e 17 (.f 11 (.o 12 65536 (.o 13 114688 (.o 14 360448 (.o 15 851968 (.e 16 .g43))))) (.e 16 .g16))))))))))))))))) (.y (.y (.r (some [(41,.c .b)]) .done) (.x .w)) (.y (.z (.o 0 14 (.o 1 124 (.o 2 8 (.o 4 8 (.o 5 8 (.hold 3 64 511 (.e 6 .g46)))))))) (.v .w))))))
theorem S.qaA0 {a b K w}:Fr (C.qaA a b K w) (bif decide (b≥0) then (K (decide (b<(a.len:Int))) w) else (K false w)):=okT Tryz.func57 (.v .w)
theorem S.qac0 {a b c K w}:Fr (C.qac a b c K w) (∃d,a=some d/\∃e:Sl,w.cell? (d.add 6)=some (.slice e.a e.len e.cap)/\∃d,e.a=some d/\0≤b/\b<(e.len:Int)/\∃e,w.cell? (d.add (b.toNat*1))=some (.pointer e)/\C.qaw e c (fun b c d e=>bif !d then (K (-1) e) else (∃d,a=some d/\∃f,e.cell? (d.add 2)=some (.pointer f)/\C.qu f b 0 c (fun _ d=>∃c,a=some c/\∃a,d.cell? (c.add 2)=some (.pointer a)/\C.qv a b (fun _ c=>K b c) d) e)) w):=okT Tryz.func76 (.v .g39)
theorem S.qaN0 {a b K w}:Fr (C.qaN a b K w) (bif decide (b≥0) then (K (decide (b<(a.len:Int))) w) else (K false w)):=okT Tryz.func80 (.v .w)
theorem S.qcC0 {a K w}:Fr (C.qcC a K w) (bif decide (a<0) then (K true w) else (K (decide (a≥256)) w)):=okT Tryz.func102 (.v .w)
theorem S.qcJ0 {a K w}:Fr (C.qcJ a K w) (Al w (.cells #[.z 0, .z 0] 213) fun b=>Al b (.cells #[.z 0, .z 0, .z 0, .z 0, .z 0, .z 0, .z 0, .z 0, .z 0, .z 0, .z 0, .z 0, .z 0, .z 0, .z 0, .z 0, .z 0, .z 0, .z 0, .z 0, .z 0, .z 0, .z 0, .z 0, .z 0, .z 0, .z 0, .z 0, .z 0, .z 0, .z 0, .z 0, .z 0, .z 0, .z 0, .z 0] 307) fun c=>StL c (.mk b.heap.size 0 none) 0 [.z 1, .z 0, .z 0, .z 0, .z 0, .z 0, .z 0, .z 0, .z 0, .z 0, .z 3, .z 0, .z 3, .z 0, .z 3, .z 0, .z 4, .z 2, .z 4, .z 1, .z 5, .z 2, .z 5, .z 1, .z 7, .z 0, .z 6, .z 0, .z 8, .z 0, .z 9, .z 0, .z 9, .z 0, .z 0, .z 0] fun c=>0≤a/\a<18/\LdL c ((Addr.mk b.heap.size 0 none).add (a.toNat*2)) 0 [.o, .o] fun (a b:Int)=>StL c (.mk w.heap.size 0 none) 0 [.z a, .z b] fun a=>LdL a (.mk w.heap.size 0 none) 0 [.o, .o] fun (b c:Int)=>K b c a):=okT Tryz.func117 (.v (.v .w))
theorem S.qa0 {a b c K w}:Fr (C.qa a b c K w) (Al w (.cells #[.z 0, .z 0] 40) fun d=>Al d (.cells #[.z 0, .z 0, .z 0, .y 0, .y 0, .z 0] 42) fun e=>C.qag a b (fun b e f g=>Al g (.cells #[.z 0, .z 0] 40) fun h=>StL h (.mk g.heap.size 0 none) 0 [.z b, .z e] fun b=>∀e:Addr->Pw,(∀(a:Addr) (b:World),(Dr b fun b=>LdL b (.mk g.heap.size 0 none) 0 [.o, .o] fun (e g:Int)=>bif f then (∃f,b.cell? a=some (.z f)/\bif f !=0 then (bif c==0 then (LdL b a 0 [.o, .o, .o, .u, .u, .o] fun (c f h i j k:Int)=>((StL b (.mk w.heap.size 0 none) 0 [.z e, .z g] fun b=>HdL b a 0 [.z c, .z f, .z h, .y i, .y j, .z k] ((StL b (.mk d.heap.size 0 none) 0 [.z c, .z f, .z h, .y i, .y j, .z k] fun a=>LdL a (.mk w.heap.size 0 none) 0 [.o, .o] fun (b c:Int)=>LdL a (.mk d.heap.size 0 none) 0 [.o, .o, .o, .u, .u, .o] fun (d e f g h i:Int)=>K b c d e f g h i true a)/\True))/\True)/\(StL b (.mk w.heap.size 0 none) 0 [.z e, .z g] fun b=>HdL b a 0 [.z c, .z f, .z h, .y i, .y j, .z k] (((StL b (.mk d.heap.size 0 none) 0 [.z c, .z f, .z h, .y i, .y j, .z k] fun a=>LdL a (.mk w.heap.size 0 none) 0 [.o, .o] fun (b c:Int)=>LdL a (.mk d.heap.size 0 none) 0 [.o, .o, .o, .u, .u, .o] fun (d e f g h i:Int)=>K b c d e f g h i true a)/\True)/\(StL b (.mk d.heap.size 0 none) 0 [.z c, .z f, .z h, .y i, .y j, .z k] fun a=>LdL a (.mk w.heap.size 0 none) 0 [.o, .o] fun (b c:Int)=>LdL a (.mk d.heap.size 0 none) 0 [.o, .o, .o, .u, .u, .o] fun (d e f g h i:Int)=>K b c d e f g h i true a)/\True))/\True) else (LdL b a 0 [.o, .o, .o, .u, .u, .o] fun (f h i j k l:Int)=>(∃m,b.cell? a=some (.z m)/\(StL b (.mk w.heap.size 0 none) 0 [.z e, .z g] fun b=>HdL b a 0 [.z f, .z h, .z i, .y j, .y k, .z l] ((StL b (.mk d.heap.size 0 none) 0 [.z f, .z h, .z i, .y j, .y k, .z l] fun a=>LdL a (.mk w.heap.size 0 none) 0 [.o, .o] fun (b e:Int)=>LdL a (.mk d.heap.size 0 none) 0 [.o, .o, .o, .u, .u, .o] fun (d f g h i j:Int)=>K b e d f g h i j (m==c) a)/\True))/\True)/\(StL b (.mk w.heap.size 0 none) 0 [.z e, .z g] fun b=>HdL b a 0 [.z f, .z h, .z i, .y j, .y k, .z l] ((∃e,b.cell? a=some (.z e)/\(StL b (.mk d.heap.size 0 none) 0 [.z f, .z h, .z i, .y j, .y k, .z l] fun a=>LdL a (.mk w.heap.size 0 none) 0 [.o, .o] fun (b f:Int)=>LdL a (.mk d.heap.size 0 none) 0 [.o, .o, .o, .u, .u, .o] fun (d g h i j k:Int)=>K b f d g h i j k (e==c) a)/\True)/\(StL b (.mk d.heap.size 0 none) 0 [.z f, .z h, .z i, .y j, .y k, .z l] fun b=>∃e,b.cell? a=some (.z e)/\LdL b (.mk w.heap.size 0 none) 0 [.o, .o] fun (a f:Int)=>LdL b (.mk d.heap.size 0 none) 0 [.o, .o, .o, .u, .u, .o] fun (d g h i j k:Int)=>K a f d g h i j k (e==c) b)/\True))/\True)) else (LdL b a 0 [.o, .o, .o, .u, .u, .o] fun (c f h i j k:Int)=>((StL b (.mk w.heap.size 0 none) 0 [.z e, .z g] fun b=>HdL b a 0 [.z c, .z f, .z h, .y i, .y j, .z k] ((StL b (.mk d.heap.size 0 none) 0 [.z c, .z f, .z h, .y i, .y j, .z k] fun a=>LdL a (.mk w.heap.size 0 none) 0 [.o, .o] fun (b c:Int)=>LdL a (.mk d.heap.size 0 none) 0 [.o, .o, .o, .u, .u, .o] fun (d e f g h i:Int)=>K b c d e f g h i false a)/\True))/\True)/\(StL b (.mk w.heap.size 0 none) 0 [.z e, .z g] fun b=>HdL b a 0 [.z c, .z f, .z h, .y i, .y j, .z k] (((StL b (.mk d.heap.size 0 none) 0 [.z c, .z f, .z h, .y i, .y j, .z k] fun a=>LdL a (.mk w.heap.size 0 none) 0 [.o, .o] fun (b c:Int)=>LdL a (.mk d.heap.size 0 none) 0 [.o, .o, .o, .u, .u, .o] fun (d e f g h i:Int)=>K b c d e f g h i false a)/\True)/\(StL b (.mk d.heap.size 0 none) 0 [.z c, .z f, .z h, .y i, .y j, .z k] fun a=>LdL a (.mk w.heap.size 0 none) 0 [.o, .o] fun (b c:Int)=>LdL a (.mk d.heap.size 0 none) 0 [.o, .o, .o, .u, .u, .o] fun (d e f g h i:Int)=>K b c d e f g h i false a)/\True))/\True)) else (LdL b a 0 [.o, .o, .o, .u, .u, .o] fun (c f h i j k:Int)=>((StL b (.mk w.heap.size 0 none) 0 [.z e, .z g] fun b=>HdL b a 0 [.z c, .z f, .z h, .y i, .y j, .z k] ((StL b (.mk d.heap.size 0 none) 0 [.z c, .z f, .z h, .y i, .y j, .z k] fun a=>LdL a (.mk w.heap.size 0 none) 0 [.o, .o] fun (b c:Int)=>LdL a (.mk d.heap.size 0 none) 0 [.o, .o, .o, .u, .u, .o] fun (d e f g h i:Int)=>K b c d e f g h i false a)/\True))/\True)/\(StL b (.mk w.heap.size 0 none) 0 [.z e, .z g] fun b=>HdL b a 0 [.z c, .z f, .z h, .y i, .y j, .z k] (((StL b (.mk d.heap.size 0 none) 0 [.z c, .z f, .z h, .y i, .y j, .z k] fun a=>LdL a (.mk w.heap.size 0 none) 0 [.o, .o] fun (b c:Int)=>LdL a (.mk d.heap.size 0 none) 0 [.o, .o, .o, .u, .u, .o] fun (d e f g h i:Int)=>K b c d e f g h i false a)/\True)/\(StL b (.mk d.heap.size 0 none) 0 [.z c, .z f, .z h, .y i, .y j, .z k] fun a=>LdL a (.mk w.heap.size 0 none) 0 [.o, .o] fun (b c:Int)=>LdL a (.mk d.heap.size 0 none) 0 [.o, .o, .o, .u, .u, .o] fun (d e f g h i:Int)=>K b c d e f g h i false a)/\True))/\True))->e a b)->(Dr b fun b=>∃c,a=some c/\∃a,b.cell? c=some (.pointer a)/\LdL b (.mk g.heap.size 0 none) 0 [.o, .o] fun (c d:Int)=>(C.qL a c d (fun a b c d f g _ i=>(Al i (.cells #[.z 0, .z 0, .z 0, .y 0, .y 0, .z 0] 42) fun h=>(StL h (.mk i.heap.size 0 none) 0 [.z a, .z b, .z c, .y d, .y f, .z g] fun a=>e (.mk i.heap.size 0 none) a)/\True)/\True) b)/\(Al b (.cells #[.z 0, .z 0, .z 0, .y 0, .y 0, .z 0] 42) fun f=>(C.qL a c d (fun a c d f g h _ j=>(StL j (.mk b.heap.size 0 none) 0 [.z a, .z c, .z d, .y f, .y g, .z h] fun a=>e (.mk b.heap.size 0 none) a)/\True) f)/\True)/\True)) e):=okT Tryz.func118 (.v (.v (.y (.r (some [(11,.c .q)]) .g5) (.x (.z (.o 0 262142 (.o 2 2 (.o 3 2 (.o 4 2 (.o 5 2 (.o 6 2 (.o 7 2 (.o 8 2 (.o 9 2 (.o 10 2 (.o 11 2 (.o 12 802818 (.o 14 794626 (.hold 1 499712 1572863 (.f 13 (.o 15 786432 (.o 16 786432 (.o 17 786432 .g43))) (.e 18 (.f 13 (.o 15 524288 (.o 16 524288 (.o 17 524288 (.e 19 (.o 20 0 .done))))) (.e 19 (.o 13 0 (.o 15 0 (.o 16 0 (.o 17 0 (.o 20 0 .done))))))))))))))))))))))))))))
theorem S.qaD0 {a K w}:Fr (C.qaD a K w) (∃b,a=some b/\LdL w (b.add 3) 0 [.o, .o, .o, .o, .o, .o] fun (b c d e f g:Int)=>Al w (.cells #[.z 0, .z 0, .z 0, .z 0, .z 0, .z 0] 37) fun h=>StL h (.mk w.heap.size 0 none) 0 [.z b, .z c, .z d, .z e, .z f, .z g] fun b=>∀c:Sl->Addr->Int->Pw,(∀(b:Sl) (d:Addr) (e:Int) (f:World),(bif e !=0 then (K e f) else (∃c,f.cell? ((Addr.mk w.heap.size 0 none).add 5)=some (.z c)/\C.qam a c (fun c e f=>bif e !=0 then (K e f) else (∀e:Bool->Pw,(∀(f:Bool) (g:World),(bif f then (K 2 g) else (Dr g fun e=>∃f,a=some f/\∃g,e.cell? f=some (.pointer g)/\∃f,g=some f/\∃g:Sl,e.cell? (f.add 4)=some (.slice g.a g.len g.cap)/\∃f,a=some f/\∃h,e.cell? ((f.add 11).add 1)=some (.z h)/\LdL e d 0 [.u, .o, .u] fun (d f i:Int)=>∃j,g.a=some j/\0≤h/\h<(g.len:Int)/\(StL e (j.add (h.toNat*3)) 0 [.y d, .z f, .y i] fun d=>∀e:Int->Pw,(∀(d:Int) (f:World),(bif decide (d<(c.len:Int)) then (∃g,c.a=some g/\0≤d/\d<(c.len:Int)/\LdL f (g.add (d.toNat*2)) 0 [.o, .o] fun (c g:Int)=>Al f (.cells #[.z 0, .z 0] 40) fun h=>StL h (.mk f.heap.size 0 none) 0 [.z c, .z g] fun c=>Dr c fun c=>∃g,b.a=some g/\0≤d/\d<(b.len:Int)/\∃b,c.cell? (g.add (d.toNat*1))=some (.y b)/\LdL c (.mk f.heap.size 0 none) 0 [.o, .o] fun (g h:Int)=>∃i,c.cell? ((Addr.mk w.heap.size 0 none).add 3)=some (.z i)/\(C.qbr a b (fun b c=>c.cell? ((Addr.mk w.heap.size 0 none).add 3)=some (.z i)/\HdL c (.mk f.heap.size 0 none) 0 [.z g, .z h] ((C.qaL a g h i b 7 0 0 0 (fun a=>e (IntKind.i64.wrap (d+1)) a) c)/\True)) c)/\True) else (K 0 f))->e d f)->e 0 d)/\True))->e f g)->(Dr f fun b=>∃c,b.cell? ((Addr.mk w.heap.size 0 none).add 3)=some (.z c)/\bif c==2 then (∃c,a=some c/\∃d,b.cell? c=some (.pointer d)/\∃c,d=some c/\∃d,b.cell? (c.add 10)=some (.z d)/\∃c,b.cell? ((Addr.mk w.heap.size 0 none).add 5)=some (.z c)/\bif decide ((IntKind.i64.wrap (d+c))>64) then (e true b) else (∃c,b.cell? ((Addr.mk w.heap.size 0 none).add 3)=some (.z c)/\bif c==3 then (∃c,a=some c/\∃a,b.cell? c=some (.pointer a)/\∃c,a=some c/\∃a,b.cell? (c.add 11)=some (.z a)/\∃c,b.cell? ((Addr.mk w.heap.size 0 none).add 5)=some (.z c)/\e (decide ((IntKind.i64.wrap (a+c))>64)) b) else (e false b))) else (∃c,b.cell? ((Addr.mk w.heap.size 0 none).add 3)=some (.z c)/\bif c==3 then (∃c,a=some c/\∃a,b.cell? c=some (.pointer a)/\∃c,a=some c/\∃a,b.cell? (c.add 11)=some (.z a)/\∃c,b.cell? ((Addr.mk w.heap.size 0 none).add 5)=some (.z c)/\e (decide ((IntKind.i64.wrap (a+c))>64)) b) else (e false b))))) f))->c b d e f)->(Dr b fun b=>∃d,a=some d/\∃e,b.cell? d=some (.pointer e)/\∃d,e=some d/\∃e:Sl,b.cell? (d.add 4)=some (.slice e.a e.len e.cap)/\∃d,a=some d/\∃a,b.cell? ((d.add 11).add 1)=some (.z a)/\∃d,e.a=some d/\0≤a/\a<(e.len:Int)/\LdL b (d.add (a.toNat*3)) 0 [.u, .o, .u] fun (a d e:Int)=>∃f,b.cell? ((Addr.mk w.heap.size 0 none).add 3)=some (.z f)/\∃g,b.cell? ((Addr.mk w.heap.size 0 none).add 4)=some (.z g)/\∃h,b.cell? ((Addr.mk w.heap.size 0 none).add 5)=some (.z h)/\(C.qcb a d e f g h (fun a b d e f g=>(Al g (.cells #[.y 0, .z 0, .y 0] 86) fun h=>(StL h (.mk g.heap.size 0 none) 0 [.y b, .z d, .y e] fun b=>c a (.mk g.heap.size 0 none) f b)/\True)/\True) b)/\(Al b (.cells #[.y 0, .z 0, .y 0] 86) fun i=>(C.qcb a d e f g h (fun a d e f g h=>(StL h (.mk b.heap.size 0 none) 0 [.y d, .z e, .y f] fun d=>c a (.mk b.heap.size 0 none) g d)/\True) i)/\True)/\True)):=okT Tryz.func119 (.v (.v (.y (.r (some [(4,.c .s),(5,.c .q),(6,.c (.i .i64))]) (.o 0 34590592 (.o 1 34590592 (.o 2 34590592 (.o 3 34590592 (.o 4 34590592 (.o 5 34590592 (.o 6 34590592 (.o 7 34586624 (.o 8 34586624 (.o 9 34586624 (.o 10 34586624 (.o 11 34586624 (.o 12 34586624 (.o 13 34586624 (.o 14 34537472 (.o 15 34537472 (.o 16 34340864 (.o 17 34340864 (.o 18 33554432 (.o 19 33554432 (.f 20 (.o 21 33554432 (.o 22 58720256 (.o 23 117440512 (.o 24 234881024 (.e 25 (.o 26 0 (.e 27 (.o 28 0 .done)))))))) (.e 25 (.e 20 (.o 21 0 (.o 22 25165824 (.o 23 83886080 (.o 24 201326592 (.o 26 0 (.e 27 (.o 28 0 .done))))))))))))))))))))))))))))))) (.y (.v (.x .w)) (.v (.y (.v (.x .w)) (.y (.y (.r (some [(85,.c .b)]) (.o 0 0 (.o 1 0 (.o 2 0 (.o 3 0 (.o 4 6144 (.o 5 6144 (.o 6 6144 (.o 7 6144 (.o 8 6144 (.o 9 6144 (.o 10 6144 (.o 11 0 (.o 12 0 (.o 13 0 (.o 14 0 (.o 15 0 (.o 16 0 (.o 17 0 (.o 18 0 (.o 19 0 (.o 20 0 (.o 21 805306368 (.o 22 805306368 (.o 23 805306368 (.o 24 805306368 (.o 25 805306368 (.o 26 805306368 (.o 27 805306368 (.o 28 0 (.o 29 0 (.o 30 0 (.o 31 0 (.o 32 0 (.o 33 0 .done))))))))))))))))))))))))))))))))))) (.x .w)) (.y (.z (.o 0 8064 (.o 1 8064 (.o 2 8064 (.o 3 8064 (.o 4 8064 (.o 5 8064 (.o 6 8064 (.o 7 4096 (.o 8 4096 (.o 9 4096 (.o 10 4096 (.o 11 4096 (.o 12 0 (.o 13 0 (.e 14 .done)))))))))))))))) (.y (.v (.x (.t (some [(102,.c (.i .i64))]) (.v (.y .w (.x (.x (.v (.z (.o 0 2046 (.o 2 1010 (.o 4 490 (.o 5 74 (.o 6 10 (.o 7 10 (.o 8 10 (.hold 1 1544 2047 (.hold 3 512 2047 (.e 9 (.o 10 0 (.e 11 .done)))))))))))))))))) .u))) .w)))))))))
theorem S.qbk0 {a K w}:Fr (C.qbk a K w) (∃b,a=some b/\∃c,w.cell? (b.add 11)=some (.z c)/\bif c==1 then (K 181 w) else (C.qam a 1 (fun b c d=>bif c !=0 then (K c d) else (∀c:Int->Addr->Pw,(∀(d:Int) (e:Addr) (f:World),(bif d !=0 then (K d f) else (Dr f fun c=>∃d,b.a=some d/\(0:Int)≤0/\0<(b.len:Int)/\LdL c (d.add ((0:Int).toNat*2)) 0 [.o, .o] fun (b d:Int)=>LdL c e 0 [.o, .o, .o, .u, .u, .o] fun (e f g h i j:Int)=>(C.qaL a b d e f g h i j (fun a=>K 0 a) c)/\True))->c d e f)->(Dr d fun b=>∃d,a=some d/\LdL b (d.add 11) 0 [.o, .o, .o, .u, .u, .o] fun (d e f g h i:Int)=>∃j,a=some j/\∃k,b.cell? ((j.add 3).add 3)=some (.z k)/\∃j,a=some j/\∃a,b.cell? ((j.add 3).add 4)=some (.z a)/\(C.qda d e f g h i k (IntKind.u64.wrap a) (fun a b d e f g h i=>(Al i (.cells #[.z 0, .z 0, .z 0, .y 0, .y 0, .z 0] 42) fun j=>(StL j (.mk i.heap.size 0 none) 0 [.z a, .z b, .z d, .y e, .y f, .z g] fun a=>c h (.mk i.heap.size 0 none) a)/\True)/\True) b)/\(Al b (.cells #[.z 0, .z 0, .z 0, .y 0, .y 0, .z 0] 42) fun j=>(C.qda d e f g h i k (IntKind.u64.wrap a) (fun a d e f g h i j=>(StL j (.mk b.heap.size 0 none) 0 [.z a, .z d, .z e, .y f, .y g, .z h] fun a=>c i (.mk b.heap.size 0 none) a)/\True) j)/\True)/\True))) w)):=okT Tryz.func120 (.v (.y (.v (.x .w)) (.v (.y (.v (.x .w)) (.y (.r (some [(4,.c (.i .i64)),(5,.c .q)]) (.o 0 557040 (.o 1 557040 (.o 2 557040 (.o 3 557040 (.o 4 556544 (.o 5 556544 (.o 6 556544 (.o 7 556544 (.o 8 556544 (.o 9 524288 (.o 10 524288 (.o 11 524288 (.o 12 524288 (.o 13 524288 (.o 14 524288 (.f 15 (.o 16 524288 (.o 17 786432 (.o 18 1572864 (.e 19 (.e 20 (.o 21 0 .done)))))) (.e 19 (.e 15 (.o 16 0 (.o 17 262144 (.o 18 1048576 (.e 20 (.o 21 0 .done)))))))))))))))))))))))) (.y (.v (.x .w)) (.y (.z (.o 0 30 (.o 1 16 (.o 2 16 (.o 3 16 (.o 4 0 (.e 5 .done))))))) .w)))))))
theorem S.qbl0 {a K w}:Fr (C.qbl a K w) (C.qam a 1 (fun b c d=>bif c !=0 then (K c d) else (Dr d fun c=>∃d,a=some d/\∃e,c.cell? d=some (.pointer e)/\∃d,e=some d/\∃e,c.cell? d=some (.pointer e)/\∃d,a=some d/\LdL c (d.add 9) 0 [.o, .o] fun (d f:Int)=>∃g,b.a=some g/\(0:Int)≤0/\0<(b.len:Int)/\LdL c (g.add ((0:Int).toNat*2)) 0 [.o, .o] fun (g h:Int)=>(C.qbG e d f g h (fun _ d=>Dr d fun c=>∃d,a=some d/\∃e,c.cell? d=some (.pointer e)/\∃d,e=some d/\∃e,c.cell? (d.add 1)=some (.pointer e)/\∃d,a=some d/\LdL c (d.add 9) 0 [.o, .o] fun (a d:Int)=>∃f,b.a=some f/\(0:Int)≤0/\0<(b.len:Int)/\LdL c (f.add ((0:Int).toNat*2)) 0 [.o, .o] fun (b f:Int)=>(C.qcg e a d b f (fun _ b=>K 0 b) c)/\True) c)/\True)) w):=okT Tryz.func121 (.v (.v (.y (.v (.x .w)) (.y .g6 (.y .g6 .w)))))
theorem S.qaE0 {a K w}:Fr (C.qaE a K w) (∃b,a=some b/\∃c,w.cell? ((b.add 3).add 1)=some (.z c)/\bif c==0 then (K 181 w) else (∃b,a=some b/\LdL w (b.add 9) 0 [.o, .o] fun (b c:Int)=>C.qan a b c (fun a=>K 0 a) w)):=okT Tryz.func122 (.v .g53)
end Go.Proofs.YtogmbmdbgkopjaaGreat
end
section
set_option maxRecDepth 8000
namespace Go.Proofs.YtogmbmdbgkopjaaGreat
open Go Go.Vc Go.Proofs
structure Ln where
 is:Int
 note:Int
 badge:Int
deriving DecidableEq
def lnE:EncT Ln:=⟨3,fun o=>[.z o.is, .z o.note, .y o.badge],fun _=>rfl,fun x v h=>by
 simp only[List.mem_cons,List.not_mem_nil,or_false] at h;rcases h with rfl|rfl|rfl<;>rfl,by decide⟩
abbrev Lns:=List Ln
def lnAt (l:Lns) (n:Int):Option Ln:=if n<0 then none else l[n.toNat]?
def bindL (l:Lns) (n note badge:Int):Int × Lns:=match lnAt l n with
 |none=>(130,l)
 |some x=>if note<0 then (1,l) else if x.is≠0 then (131,l) else (0,l.set n.toNat ⟨1,note,badge⟩)
def ackL (l:Lns) (n:Int):(Option (Int × Int)× Int)× Lns:=match lnAt l n with
 |none=>((none,130),l)
 |some x=>if x.is=3 then ((some (x.note,x.badge),0),l.set n.toNat { x with is:=2})
  else if x.is=2 then ((none,0),l.set n.toNat { x with is:=1}) else ((none,0),l)
def LinesA (b:Nat) (l:Lns):Asn:=ExA fun s:Sl=>StarA [BlkA b [.slice s.a s.len s.cap],SlT lnE s l]
section
variable {B:Nat} {w0 w:World} {L:List Asn} {α:Type} {E:EncT α}
theorem _root_.Go.Vc.Own.elt0 {s:Sl} {xs:List α} [I:SlIn s L α E xs] {i:Int} {j:Nat} {x:α} {a:Addr} (h:Own B w0 w L) (hij:i=(j:Int)) (hj:xs[j]?=some x) (ha:s.a=some a):
  ∀v,(E.enc x)[0]?=some v->w.cell? (a.add (i.toNat*E.z))=some v:=by
 obtain ⟨a',ha',_,_,g⟩:=h.ixc (s:=s) (G:=fun a=>∀v,(E.enc x)[0]?=some v->w.cell? (a.add (i.toNat*E.z))=some v) hij hj (fun a _ h1 h2=>h1);rw[ha] at ha';cases ha';exact g
theorem _root_.Go.Vc.Own.eltc {s:Sl} {xs:List α} [I:SlIn s L α E xs] {i:Int} {j:Nat} {x:α} {a:Addr} (h:Own B w0 w L) (hij:i=(j:Int)) (hj:xs[j]?=some x) (ha:s.a=some a):
  ∀c v,(E.enc x)[c]?=some v->w.cell? ((a.add (i.toNat*E.z)).add c)=some v:=by
 obtain ⟨a',ha',_,_,g⟩:=h.ixc (s:=s) (G:=fun a=>∀c v,(E.enc x)[c]?=some v->w.cell? ((a.add (i.toNat*E.z)).add c)=some v) hij hj (fun a _ h1 h2=>h2);rw[ha] at ha';cases ha';exact g
end
section
variable {B:Nat} {w0 w:World} {R L:List Asn} {b:Nat} {l:Lns}
theorem _root_.Go.Vc.Own.lines (h:Own B w0 w (LinesA b l::R)):∃s:Sl,Own B w0 w (BlkA b [.slice s.a s.len s.cap]::SlT lnE s l::R):=by
 obtain ⟨s,h⟩:=h.ex;exact ⟨s,h.star⟩
theorem _root_.Go.Vc.Own.mk_lines {s:Sl} (h:Own B w0 w (BlkA b [.slice s.a s.len s.cap]::SlT lnE s l::R)):Own B w0 w (LinesA b l::R):=Own.mk_ex s (Own.mk_star h)
theorem mk_lns {L:List Asn} {n:Int} {k:Sl->Pw} (h:Own B w0 w L) (h0:0≤n) (hn:n≤1000000) (hk:∀s' w',s'.len=n.toNat->Own B w0 w' (SlT lnE s' (List.replicate n.toNat ⟨0,0,0⟩)::L)->k s' w'):
  ∃s' w',MkSlR Tryz.prog 198 (.z n) (.z n) w s' w'/\k s' w':=
 Own.mkSl (E:=lnE) (z0:=⟨0,0,0⟩) Tryz.underlying198 (show Tryz.prog.info? 246=some Tryz.t246 from by kernel_rfl) (zv:= .agg ⟨lnE.enc ⟨0,0,0⟩⟩) (by kernel_rfl) (by kernel_rfl) rfl h h0 (by
  have e:Tryz.t246.bytes=24:=by kernel_rfl
  rw[e];omega) (by omega) hk
theorem irq_New_spec {K:Option Addr->Int->Pw} (h:Own B w0 w R) (hK:∀b w',Own B w0 w' (LinesA b (List.replicate 8 ⟨0,0,0⟩)::R)->K (some ⟨b,0,none⟩) 0 w'):C.qdq 8 K w:=by
 apply S.qdq0;intro k2 hk2;refine cdecF (by decide) ?_;rw[show decide ((8:Int)>64)=false from by decide];apply hk2;refine cbF rfl ?_;refine mk_lns h (by decide) (by decide) fun s w hl h=>?_
 refine h.al fun w1 h=>?_
 exact hK _ w1 (Own.mk_lines (s:=s) h)
theorem irq_one_spec {n:Int} {K:Option Addr->Pw} {s:Sl} (h:Own B w0 w (BlkA b [.slice s.a s.len s.cap]::SlT lnE s l::R)) (h1:lnAt l n=none->K none w)
  (h2:∀x a,lnAt l n=some x->s.a=some a->0≤n->n<(l.length:Int)->l[n.toNat]?=some x->K (some (a.add (n.toNat*3))) w):C.qca (some ⟨b,0,none⟩) n K w:=by
 apply S.qca0;have hlen:=h.lenc s;intro k3 hk3;refine cdec (fun e=>?_) (fun e=>?_)
 ·apply hk3
  refine cbT rfl (h1 ?_);unfold lnAt;rw[if_pos e]
 refine ⟨_,rfl,s,h.ldc rfl,?_⟩;apply hk3;by_cases e2:(l.length:Int)≤n
 ·rw[decide_eq_true (by omega)]
  refine cbT rfl (h1 ?_);unfold lnAt;rw[if_neg e,List.getElem?_eq_none (by omega)]
 ·rw[decide_eq_false (by omega)]
  refine cbF rfl ?_;have hx:l[n.toNat]?=some l[n.toNat]:=gE (by omega);refine ⟨_,rfl,s,h.ldc rfl,?_⟩;refine h.ixc (s:=s) (i:=n) (j:=n.toNat) (by omega) hx fun a ha hc0 hc=>?_
  exact h2 _ a (by unfold lnAt;rw[if_neg e];exact hx) ha (by omega) (by omega) hx
theorem irq_Bind_spec {n note g:Int} {K:Int->Pw} (h:Own B w0 w (LinesA b l::R)) (hK:∀w',Own B w0 w' (LinesA b (bindL l n note g).2::R)->K (bindL l n note g).1 w'):C.qch (some ⟨b,0,none⟩) n note g K w:=by
 apply S.qch0;obtain ⟨s,h⟩:=h.lines;unfold bindL at hK;refine irq_one_spec h (fun e=>?_) (fun x a e ha h0 hlt hx=>?_)
 ·rw[e] at hK
  exact cbT rfl (hK _ (Own.mk_lines (s:=s) h))
 ·rw[e] at hK
  dsimp only at hK;refine cbF rfl ?_;refine cdec (fun e1=>?_) (fun e1=>?_)
  ·rw[if_pos e1] at hK
   exact hK _ (Own.mk_lines (s:=s) h)
  rw[if_neg e1] at hK;have hc:=h.up1.elt0 (s:=s) (i:=n) (j:=n.toNat) (by omega) hx ha;refine ⟨_,rfl,x.is,hc _ rfl,?_⟩;refine cne (fun e2=>?_) (fun e2=>?_)
  ·rw[if_pos e2] at hK
   exact hK _ (Own.mk_lines (s:=s) h)
  ·rw[if_neg (by omega)] at hK
   refine ⟨_,rfl,?_⟩;refine h.stELc (s:=s) (xs:=l) (i:=n) (j:=n.toNat) ⟨1,note,g⟩ (by omega) (by omega) ha fun w h=>?_
   exact hK _ (Own.mk_lines (s:=s) h.up1)
end
section
variable {B:Nat} {w0 w:World} {R L:List Asn} {b:Nat} {l:Lns}
theorem lnAt_get {n:Int} {x:Ln} (h:lnAt l n=some x):0≤n/\l[n.toNat]?=some x:=by
 unfold lnAt at h;split at h
 ·cases h
 ·exact ⟨by omega,h⟩
theorem stLn {s:Sl} {n:Int} {x:Ln} {a:Addr} {v:Int} {k:Pw} (h:Own B w0 w (BlkA b [.slice s.a s.len s.cap]::SlT lnE s l::R)) (h0:0≤n) (hx:l[n.toNat]?=some x) (ha:s.a=some a)
  (hk:∀w',Own B w0 w' (BlkA b [.slice s.a s.len s.cap]::SlT lnE s (l.set n.toNat { x with is:=v})::R)->k w'):St w (a.add (n.toNat*3)) (.z v) k:=by
 have e:(a.add (n.toNat*3))=(a.add (n.toNat*3)).add 0:=by
  rw[Addr.add_add];rfl
 rw[e];exact h.stFc (s:=s) (i:=n) (j:=n.toNat) (c:=0) { x with is:=v} (by omega) hx ha rfl (by decide) rfl fun w h=>hk w h.up1
theorem irq_Ack_spec {n:Int} {K:Int->Int->Bool->Int->Pw} (h:Own B w0 w (LinesA b l::R))
  (hK:∀w',Own B w0 w' (LinesA b (ackL l n).2::R)->K ((ackL l n).1.1.getD (0,0)).1 ((ackL l n).1.1.getD (0,0)).2 (ackL l n).1.1.isSome (ackL l n).1.2 w'):C.qcx (some ⟨b,0,none⟩) n K w:=by
 apply S.qcx0;obtain ⟨s,h⟩:=h.lines;unfold ackL at hK;refine irq_one_spec h (fun e=>?_) (fun x a e ha h0 hlt hx=>?_)
 ·rw[e] at hK
  exact cbT rfl (hK _ (Own.mk_lines (s:=s) h))
 ·rw[e] at hK
  dsimp only at hK;refine cbF rfl ?_;have hc:=h.up1.elt0 (s:=s) (i:=n) (j:=n.toNat) (by omega) hx ha;refine ⟨_,rfl,x.is,hc _ rfl,?_⟩;refine ceq (fun e1=>?_) (fun e1=>?_)
  ·rw[if_pos e1] at hK
   refine ⟨_,rfl,?_⟩;refine stLn h h0 hx ha fun w h=>?_
   refine h.dr fun w h=>?_
   have hc:=h.up1.eltc (s:=s) (i:=n) (j:=n.toNat) (x:={ x with is:=2}) (by omega) (by rw[List.getElem?_set_self (by omega)]) ha;exact ⟨_,rfl,_,hc 1 _ rfl,_,rfl,_,hc 2 _ rfl,hK w (Own.mk_lines (s:=s) h)⟩
  refine ceq (fun e2=>?_) (fun e2=>?_)
  ·rw[if_neg e1,if_pos e2] at hK
   refine ⟨_,rfl,?_⟩;refine stLn h h0 hx ha fun w h=>?_
   exact hK w (Own.mk_lines (s:=s) h)
  ·rw[if_neg e1,if_neg e2] at hK
   exact hK _ (Own.mk_lines (s:=s) h)
end
end Go.Proofs.YtogmbmdbgkopjaaGreat
end
section
set_option maxRecDepth 8000
namespace Go.Proofs.YtogmbmdbgkopjaaGreat.Sl
open Go Go.Vc Go.Proofs
def heldE:EncT (Slot × Cap):=⟨8,fun p=>[.z p.1.1, .z p.1.2, .z p.2.kind, .z p.2.obj, .z p.2.rights, .y p.2.badge, .y p.2.guard, .z p.2.bits],fun _=>rfl,fun x v h=>by
 simp only[List.mem_cons,List.not_mem_nil,or_false] at h;rcases h with rfl|rfl|rfl|rfl|rfl|rfl|rfl|rfl<;>rfl,by decide⟩
theorem andle (x:Int) (m:Nat) (hm:m<2^62):∃p:Nat,p≤m/\andI .i64 x (m:Int)=(p:Int):=by
 unfold andI;have e2:(2:Nat)^62=4611686018427387904:=by decide
 have hle:(BitVec.ofInt IntKind.i64.bits x &&& BitVec.ofInt IntKind.i64.bits (m:Int)).toNat≤m:=by
  rw[BitVec.toNat_and];refine Nat.le_trans Nat.and_le_right ?_;have:(BitVec.ofInt IntKind.i64.bits (m:Int)).toNat=m%2^64:=by simp[IntKind.bits,BitVec.toNat_ofInt]
  rw[this];exact Nat.mod_le _ _
 exact ⟨_,hle,wr (by omega) (by omega)⟩
end Go.Proofs.YtogmbmdbgkopjaaGreat.Sl
end
section
set_option maxRecDepth 8000
namespace Go.Proofs.YtogmbmdbgkopjaaGreat.Tr
open Go Go.Vc Go.Proofs
abbrev Slot:=Int × Int
abbrev Leaf:=Slot × Int
abbrev slV (s:Sl):Value:= .slice s.a s.len s.cap
def leafE:EncT Leaf:=⟨3,fun p=>[.z p.1.1, .z p.1.2, .z p.2],fun _=>rfl,fun x v h=>by
 simp only[List.mem_cons,List.not_mem_nil,or_false] at h;rcases h with rfl|rfl|rfl<;>rfl,by decide⟩
def slotE:EncT Slot:=⟨2,fun p=>[.z p.1, .z p.2],fun _=>rfl,fun x v h=>by
 simp only[List.mem_cons,List.not_mem_nil,or_false] at h;rcases h with rfl|rfl<;>rfl,by decide⟩
theorem ldLeaf {w:World} {a:Addr} {x:Leaf} {f:Int->Int->Int->Prop} (g:∀c v,(leafE.enc x)[c]?=some v->w.cell? (a.add c)=some v) (hf:f x.1.1 x.1.2 x.2):LdL w a 0 [.o, .o, .o] f:=⟨_,g 0 _ rfl,_,g 1 _ rfl,_,g 2 _ rfl,hf⟩
theorem ldSlot {w:World} {a:Addr} {x:Slot} {f:Int->Int->Prop} (g:∀c v,[Value.z x.1,Value.z x.2][c]?=some v->w.cell? (a.add c)=some v) (hf:f x.1 x.2):LdL w a 0 [.o, .o] f:=⟨_,g 0 _ rfl,_,g 1 _ rfl,hf⟩
theorem slotX (a c:Slot):eqX Tryz.prog 9 40 [.z a.1, .z a.2] [.z c.1, .z c.2]=some (decide (a=c)):=by
 have h:eqX Tryz.prog 9 40 [.z a.1, .z a.2] [.z c.1, .z c.2]=some (a.1==c.1&&(a.2==c.2&&true)):=by kernel_rfl
 rw[h];congr 1;rw[Bool.eq_iff_iff];simp only[Bool.and_true,Bool.and_eq_true,beq_iff_eq,decide_eq_true_eq];cases a;cases c;simp only[Prod.mk.injEq]
theorem slotEq {x y:Operand} (a c:Slot):EqB Tryz.prog .eql 40 x y (.agg #[.z a.1, .z a.2]) (.agg #[.z c.1, .z c.2]) (decide (a=c)):=eqB_x (by kernel_rfl) (by kernel_rfl) (by kernel_rfl) (slotX a c)
theorem infoLeaf:Tryz.prog.info? 282=some Tryz.t282:=by kernel_rfl
theorem bytesLeaf:Tryz.t282.bytes=24:=by kernel_rfl
def zLeaf:Leaf:=((0,0),0)
theorem zeroLeaf (w:World):(zeroValue 282).run Tryz.prog w= .ok (.agg ⟨leafE.enc zLeaf⟩) w:=Tryz.zeroValue282 w
def idxI {α:Type} (p:α->Bool) (xs:List α):Int:=match xs.findIdx? p with|some i=>(i:Int)|none=> -1
section
variable {B:Nat} {w0 w:World} {R L:List Asn} {s:Sl} {xs:List Leaf}
theorem IndexFunc_leaf {p:Leaf->Bool} {f:Value} {K:Int->Pw} [I:SlIn s L Leaf leafE xs] (h:Own B w0 w L) (hbig:xs.length≤1000000000)
  (hf:∀(y:Leaf) (w:World) (Q:Bool->Pw),Own B w0 w L->(∀w',Own B w0 w' L->Q (p y) w')->CallV Tryz.prog f [.agg #[.z y.1.1, .z y.1.2, .z y.2]] w fun en w'=>∃r:Bool,en= .returned (.bool r)/\Q r w')
  (hK:∀w',Own B w0 w' L->K (idxI p xs) w'):C.qn s f K w:=by
 apply S.qn0;have hlen:=h.lenc s;intro l hl
 have loop:∀(rest:List Leaf) (j:Nat) (w:World),xs.drop j=rest->j≤xs.length->(∀i,i<j->∀y,xs[i]?=some y->p y=false)->Own B w0 w L->l (j:Int) w:=by
  intro rest
  induction rest with
  |nil=>
   intro j w hj hjl hno h;have:xs.length≤j:=by have:=congrArg List.length hj;simp at this;omega
   apply hl;refine cdecF (by omega) ?_
   have hn:xs.findIdx? p=none:=by
    rw[List.findIdx?_eq_none_iff];intro y hy;obtain ⟨i,hi⟩:=List.mem_iff_getElem?.1 hy;exact hno i (by have:=(List.getElem?_eq_some_iff.1 hi).1;omega) y hi
   have e:idxI p xs= -1:=by unfold idxI;rw[hn]
   rw[←e];exact hK _ h
  |cons y rest ih=>
   intro j w hj hjl hno h;have hjl2:j<xs.length:=by have:=congrArg List.length hj;simp at this;omega
   have hx:xs[j]?=some y:=by
    have:=congrArg (fun l=>l[0]?) hj;simpa using this
   apply hl;refine cdecT (by omega) ?_;refine h.ixc rfl hx fun a ha h0 hc=>?_
   refine ldLeaf hc ?_;refine hf y w _ h fun w h=>?_
   cases hp:p y with
   |true=>
    refine cbT rfl ?_
    have hn:xs.findIdx? p=some j:=by
     rw[List.findIdx?_eq_some_iff_getElem];refine ⟨hjl2,?_,fun i hi=>?_⟩
     ·rw[gE hjl2] at hx;cases hx;exact hp
     ·have:=hno i hi xs[i] (gE (by omega))
      simp[this]
    have e:idxI p xs=(j:Int):=by unfold idxI;rw[hn]
    rw[←e];exact hK _ h
   |false=>
    refine cbF rfl ?_;rw[wr (by omega) (by omega)];refine ih (j+1) w (by rw[←List.drop_drop,hj];rfl) (by omega) (fun i hi z hz=>?_) h;by_cases e:i=j
    ·subst e;rw[hx] at hz;cases hz;exact hp
    ·exact hno i (by omega) z hz
 exact loop xs 0 w rfl (by omega) (fun i hi=>by omega) h
theorem app1_leaf {y:Leaf} {c:Nat} {k:Sl->Pw} [I:SlIn s L Leaf leafE xs] [J:Pick (SlT leafE s xs) L R] (h:Own B w0 w (BlkA c (leafE.enc y)::L)) (hbig:xs.length≤1000000000)
  (hk:∀s' w',s'.len=xs.length+1->Own B w0 w' (SlT leafE s' (xs++ [y])::R)->k s' w'):
  ∃s' w',AppR Tryz.prog [183,183] 183 (.slice s.a s.len s.cap) (.slice (some (Addr.mk c 0 none)) 1 1) w s' w'/\k s' w':=
 Own.app1c (E:=leafE) (y:=y) Tryz.underlying183 infoLeaf (zv:= .agg ⟨leafE.enc zLeaf⟩) (by kernel_rfl) (by kernel_rfl) rfl (by decide) h (by rw[bytesLeaf];omega) hk
theorem app1_slot {ys:List Slot} {y:Slot} {c:Nat} {k:Sl->Pw} [I:SlIn s L Slot slotE ys] [J:Pick (SlT slotE s ys) L R] (h:Own B w0 w (BlkA c (slotE.enc y)::L)) (hbig:ys.length≤1000000000)
  (hk:∀s' w',s'.len=ys.length+1->Own B w0 w' (SlT slotE s' (ys++ [y])::R)->k s' w'):
  ∃s' w',AppR Tryz.prog [79,79] 79 (.slice s.a s.len s.cap) (.slice (some (Addr.mk c 0 none)) 1 1) w s' w'/\k s' w':=
 Own.app1c (E:=slotE) (y:=y) Tryz.underlying79 (show Tryz.prog.info? 40=some Tryz.t40 from by kernel_rfl) (zv:= .agg ⟨slotE.enc (0,0)⟩) (by kernel_rfl) (by kernel_rfl) rfl (by decide) h (by
  have e:Tryz.t40.bytes=16:=by kernel_rfl
  rw[e];omega) hk
theorem del_list {α:Type} {xs:List α} {i j:Nat} {z:α} (hij:i<j) (hj:j≤xs.length):
  List.take (i+(xs.length-j)) (List.take (i+(xs.length-j)) (xs.take i++xs.drop j++xs.drop (i+(xs.length-j)))++List.replicate ((xs.take i++xs.drop j++xs.drop (i+(xs.length-j))).length-(i+(xs.length-j))) z)=xs.take i++xs.drop j:=by
 have hl2:(xs.take i++xs.drop j).length=i+(xs.length-j):=by simp;omega
 rw[List.take_append_of_le_length (by simp;omega),List.take_take,Nat.min_self,←hl2,List.take_left]
theorem Delete_leaf {i j:Nat} {K:Sl->Pw} (h:Own B w0 w (SlT leafE s xs::R)) (hij:i<j) (hj:j≤xs.length) (hbig:xs.length≤1000000000)
  (hK:∀s' w',Own B w0 w' (SlT leafE s' (xs.take i++xs.drop j)::R)->K s' w'):C.qm s (i:Int) (j:Int) K w:=by
 apply S.qm0;have hlen:=h.lenc s;have hcap:=h.slRaw.le_cap;refine ⟨by omega,by omega,by omega,by omega,by omega,by omega,?_⟩;refine ceqF (by omega) ?_;refine h.dr fun w h=>?_
 refine ⟨by omega,by omega,by omega,by omega,a2 ?_⟩;simp only[Int.toNat_natCast];refine h.appDel (E:=leafE) Tryz.underlying183 infoLeaf (by kernel_rfl) (by omega) hj (by omega) fun w h=>?_
 dsimp only;refine ⟨by omega,by omega,by omega,by omega,?_⟩;refine Own.clear (E:=leafE) (z0:=zLeaf) (n:=i+(xs.length-j)) Tryz.underlying183 zeroLeaf rfl h 0 rfl (by simp;omega) fun w h=>?_
 have hp:=h.pre 0 rfl (n:=i+(xs.length-j)) (by simp;omega);refine hK _ w ?_;rw[del_list hij hj] at hp;exact hp
end
theorem ins_list {α:Type} {xs:List α} {i:Nat} {y z:α} (hi:i<xs.length):
  (((xs.take i++List.replicate (xs.length+1-i) z).take i++ [y]++(xs.take i++List.replicate (xs.length+1-i) z).drop (i+ [y].length)).take (i+1)++xs.drop i++((xs.take i++List.replicate (xs.length+1-i) z).take i++ [y]++(xs.take i++List.replicate (xs.length+1-i) z).drop (i+ [y].length)).drop (i+1+(xs.drop i).length))=xs.take i++ [y]++xs.drop i:=by
 have h1:(xs.take i).length=i:=by simp;omega
 have h2:(xs.take i++List.replicate (xs.length+1-i) z).take i=xs.take i:=by rw[List.take_append_of_le_length (by omega),List.take_of_length_le (by omega)]
 have h3:(xs.take i++ [y]:List α).length=i+1:=by simp;omega
 rw[h2];generalize hX:(xs.take i++List.replicate (xs.length+1-i) z).drop (i+ [y].length)=X;have hXl:X.length=xs.length-i:=by rw[←hX];simp;omega
 have h4:(xs.take i++ [y]++X).drop (i+1+(xs.drop i).length)= []:=List.drop_eq_nil_of_le (by rw[List.length_append,h3,hXl];simp);rw[h4,List.append_nil,List.take_append_of_le_length (by omega),List.take_of_length_le (by omega)]
theorem ins_cells {α:Type} (E:EncT α) {xs:List α} {i:Nat} {y:α} (hi:i<xs.length) {junk:List Value} (hj:junk.length=1*E.z):
  putAt (putAt (xs.flatMap E.enc++junk) ((i+1)*E.z) ((xs.drop i).flatMap E.enc)) (i*E.z) (E.enc y)=(xs.take i++ [y]++xs.drop i).flatMap E.enc:=by
 have hF:=flat_len E xs;have hD:((xs.drop i).flatMap E.enc).length=(xs.length-i)*E.z:=by rw[flat_len,List.length_drop]
 have hT:((xs.take i).flatMap E.enc).length=i*E.z:=by rw[flat_len,List.length_take,Nat.min_eq_left (by omega)]
 have hsplit:xs.flatMap E.enc=(xs.take i).flatMap E.enc++(xs.drop i).flatMap E.enc:=by rw[←List.flatMap_append,List.take_append_drop]
 have hEy:=E.len y;have e1:xs.length*E.z=i*E.z+(xs.length-i)*E.z:=by rw[←Nat.add_mul];congr 1;omega
 have hl1:(putAt (xs.flatMap E.enc++junk) ((i+1)*E.z) ((xs.drop i).flatMap E.enc)).length=xs.length*E.z+E.z:=by
  rw[putAt_len (by rw[List.length_append,hF,hj,hD,Nat.succ_mul];omega),List.length_append,hF,hj];omega
 rw[List.flatMap_append,List.flatMap_append,List.flatMap_cons,List.flatMap_nil,List.append_nil];generalize hA:(xs.take i).flatMap E.enc=A at*
 generalize hB:(xs.drop i).flatMap E.enc=D at*
 generalize E.enc y=Y at*
 rw[hsplit] at hl1⊢;apply List.ext_getElem?;intro t;rw[putAt_get _ _ _ _ (by omega)];rw[putAt_get _ _ _ _ (by rw[List.length_append,List.length_append,hj,hD,hT,Nat.succ_mul];omega)];rw[Nat.succ_mul];by_cases c1:i*E.z≤t/\t<i*E.z+Y.length
 ·rw[if_pos c1,List.append_assoc,List.getElem?_append_right (by omega),List.getElem?_append_left (by omega),hT]
 ·rw[if_neg c1]
  by_cases c2:i*E.z+E.z≤t/\t<i*E.z+E.z+D.length
  ·rw[if_pos c2,List.getElem?_append_right (by rw[List.length_append];omega),List.length_append,hT,hEy]
  ·rw[if_neg c2]
   by_cases c3:t<i*E.z
   ·rw[List.append_assoc,List.getElem?_append_left (by omega),List.append_assoc,List.getElem?_append_left (by omega)]
   ·rw[List.getElem?_eq_none (by rw[List.length_append,List.length_append];omega),List.getElem?_eq_none (by rw[List.length_append,List.length_append];omega)]
section
variable {B:Nat} {w0 w:World} {R L:List Asn} {s:Sl} {xs:List Leaf}
theorem Insert_leaf {i c:Nat} {y:Leaf} {K:Sl->Pw} (h:Own B w0 w (SlT leafE s xs::BlkA c (leafE.enc y)::R)) (hi:i≤xs.length) (hbig:xs.length≤1000000000)
  (hK:∀s' w',Own B w0 w' (SlT leafE s' (xs.take i++ [y]++xs.drop i)::R)->K s' w'):C.ql s (i:Int) ⟨some ⟨c,0,none⟩,1,1⟩ K w:=by
 apply S.ql0;have hlen:=h.lenc s;have hcap:=h.slRaw.le_cap;refine ⟨by omega,by omega,?_⟩;refine cbF rfl ?_;refine ceq (fun e=>?_) (fun e=>?_)
 ·obtain rfl:i=xs.length:=by omega
  refine app1_leaf h.up1 hbig fun s' w hs' h=>?_
  rw[List.take_length,List.drop_length,List.append_nil] at hK;exact hK s' w h
 have hil:i<xs.length:=by omega
 dsimp only;have hspot:=h.slRaw.spot;have hdl:(xs.drop i).length=xs.length-i:=by simp
 rw[show IntKind.i64.wrap ((s.len:Int)+((1:Nat):Int))=((xs.length+1:Nat):Int) from by rw[wr (by omega) (by omega)];omega,
  show IntKind.i64.wrap ((i:Int)+((1:Nat):Int))=((i+1:Nat):Int) from by rw[wr (by omega) (by omega)];omega]
 obtain ⟨b,o,ha,hcells⟩:=h.get 0 rfl (gE hil)
 have hsrc:∀w,Own B w0 w (SlT leafE s xs::BlkA c (leafE.enc y)::R)->∀j v,((xs.drop i).flatMap leafE.enc)[j]?=some v->w.cell? ((Addr.mk b (o+i*3) none).add j)=some v:=fun w h j v hv=>by
  have hs:=h.slRaw
  have hj:(xs.flatMap leafE.enc)[i*3+j]?=some v:=by
   have e1:xs.flatMap leafE.enc=(xs.take i).flatMap leafE.enc++(xs.drop i).flatMap leafE.enc:=by rw[←List.flatMap_append,List.take_append_drop]
   have e2:((xs.take i).flatMap leafE.enc).length=i*3:=by rw[flat_len];show (xs.take i).length*3=_;simp;omega
   rw[e1,List.getElem?_append_right (by omega),e2,Nat.add_sub_cancel_left];exact hv
  obtain ⟨b',o',ha',hc'⟩:=hs.cell hj;rw[ha] at ha';simp only[Option.some.injEq,Addr.mk.injEq,and_true] at ha';rw[add_mk,ha'.1,ha'.2,Nat.add_assoc];exact hc'
 have hsrcY:∀w L,Own B w0 w (BlkA c (leafE.enc y)::L)->∀j v,(([y]:List Leaf).flatMap leafE.enc)[j]?=some v->w.cell? ((Addr.mk c 0 none).add j)=some v:=fun w L h j v hv=>by
  have:([y]:List Leaf).flatMap leafE.enc=leafE.enc y:=by simp
  rw[this] at hv;rw[add_mk,Nat.zero_add,(h.blk 0 rfl).cell];exact hv
 refine cdec (fun e2=>?_) (fun e2=>?_)
 ·refine ⟨by omega,by omega,?_⟩
  rw[show IntKind.i64.wrap (((xs.length+1:Nat):Int)-(i:Int))=((xs.length+1-i:Nat):Int) from by rw[wr (by omega) (by omega)];omega,Int.toNat_natCast];refine Own.appZ (E:=leafE) (z0:=zLeaf) (i:=i) (m:=xs.length+1-i) Tryz.underlying183 Tryz.underlying3 infoLeaf (zv:= .agg ⟨leafE.enc zLeaf⟩) (by kernel_rfl) (by kernel_rfl) rfl (by decide) h (by omega) (by omega) (by omega) (by rw[bytesLeaf];omega) fun t w ht htc h=>?_
  obtain ⟨b2,o2,ha2,_⟩:=h.get 0 rfl (gE (show i<(xs.take i++List.replicate (xs.length+1-i) zLeaf).length by simp;omega));refine ⟨by omega,by omega,?_⟩;rw[slA_some (z:=3) ha2 (show t.cap≠i by omega)];refine Own.copyT (E:=leafE) (p:=i) (zs:=[y]) Tryz.underlying183 infoLeaf (by kernel_rfl) h ha2 (by simp;omega) (by simp;omega) (hsrcY w _ h.up2) fun w h=>?_
  refine h.dr fun w h=>?_
  refine ⟨by omega,by omega,by omega,by omega,Go.Vc.a2 ?_⟩;rw[Int.toNat_natCast,slA_some (z:=3) ha2 (show t.cap≠i+1 by omega),slA_some (z:=3) ha (show s.cap≠i by omega)];refine Own.copyT (E:=leafE) (p:=i+1) (zs:=xs.drop i) Tryz.underlying183 infoLeaf (by kernel_rfl) h ha2 (by simp;omega) (by simp;omega) (hsrc w h.drop) fun w h=>?_
  rw[ins_list hil] at h;exact hK _ w h.rm1.rm1
 ·obtain ⟨junk,hj,h⟩:=h.grow (m:=1) (by omega) ha
  have h:Own B w0 w (SlA 3 ⟨s.a,xs.length+1,s.cap⟩ (xs.flatMap leafE.enc++junk)::BlkA c (leafE.enc y)::R):=h;have e0:Vc.slA s.a 0 s.cap 3=s.a:=slA0 _ _ _ hspot;have hF:(xs.flatMap leafE.enc).length=xs.length*3:=flat_len leafE xs;simp only[e0,Nat.sub_zero,Int.toNat_natCast];rw[slA_some (z:=3) ha (show s.cap≠i+1 by omega),slA_some (z:=3) ha (show s.cap≠i by omega)];refine ⟨by omega,by omega,by omega,by omega,false,w,?_,?_⟩
  ·exact h.up1.overlaps Tryz.func357 (by kernel_rfl) (by kernel_rfl) (by kernel_rfl) (tS:=183) (tR:=4) (by kernel_rfl) Tryz.underlying183 (size:=3) (fun w=>by rw[run_size infoLeaf w];rfl) ha (by
    intro hn;have:=congrArg List.length hn;rw[List.length_append,hF,hj] at this;simp at this;omega)
  refine cbT rfl ?_;refine h.dr fun w h=>?_
  refine ⟨by omega,by omega,by omega,by omega,Go.Vc.a2 ?_⟩
  refine h.copyA (z:=3) (p:=i+1) (ds:=(xs.drop i).flatMap leafE.enc) Tryz.underlying183 infoLeaf (by kernel_rfl) ha (by
   have:=flat_len leafE (xs.drop i);have hz:leafE.z=3:=rfl;rw[this,hz,hdl];congr 1;omega) (fun v hv=>by
   obtain ⟨x,_,hx⟩:=List.mem_flatMap.1 hv;exact leafE.one x v hx) (by rw[List.length_append,hF,hj];show _≤xs.length*3+1*3;omega) (fun j v hv=>by
   have hs:SlO 3 w ⟨s.a,xs.length+1,s.cap⟩ (xs.flatMap leafE.enc++junk):=h.head fun _ h=>h.2
   have hjj:(xs.flatMap leafE.enc++junk)[i*3+j]?=some v:=by
    have e1:xs.flatMap leafE.enc=(xs.take i).flatMap leafE.enc++(xs.drop i).flatMap leafE.enc:=by rw[←List.flatMap_append,List.take_append_drop]
    have e2:((xs.take i).flatMap leafE.enc).length=i*3:=by rw[flat_len];show (xs.take i).length*3=_;simp;omega
    have hjl:=(List.getElem?_eq_some_iff.1 hv).1;rw[e1,List.append_assoc,List.getElem?_append_right (by omega),e2,Nat.add_sub_cancel_left,List.getElem?_append_left hjl];exact hv
   obtain ⟨b',o',ha',hc'⟩:=hs.cell hjj;have ha':s.a=some ⟨b',o',none⟩:=ha';rw[ha] at ha';simp only[Option.some.injEq,Addr.mk.injEq,and_true] at ha';rw[add_mk,ha'.1,ha'.2,Nat.add_assoc];exact hc') fun w h=>?_
  refine ⟨by omega,by omega,?_⟩
  refine h.copyA (z:=3) (p:=i) (ds:=leafE.enc y) Tryz.underlying183 infoLeaf (by kernel_rfl) ha (by
   rw[leafE.len];show 3=_;rw[Nat.min_eq_left (by show 1≤_;omega)]) (fun v hv=>leafE.one y v hv) (by
   have hD:((xs.drop i).flatMap leafE.enc).length=(xs.length-i)*3:=by rw[←hdl];exact flat_len leafE _
   rw[putAt_len (by rw[List.length_append,hF,hj,hD];show _≤xs.length*3+1*3;omega),List.length_append,hF,hj];show _≤xs.length*3+1*3;omega) (fun j v hv=>by
   rw[add_mk,Nat.zero_add,(h.blk 1 rfl).cell];exact hv) fun w h=>?_
  have h2:Own B w0 w (SlT leafE ⟨s.a,xs.length+1,s.cap⟩ (xs.take i++ [y]++xs.drop i)::BlkA c (leafE.enc y)::R):=Own.ofA (by simp;omega) (ins_cells leafE hil hj) h;exact hK _ w h2.rm1
end
abbrev Tr:=List Leaf
def placeN (T:Tr) (s:Slot):Option Nat:=T.findIdx? fun x=>decide (x.1=s)
def dOf (T:Tr) (i:Nat):Int:=match T[i]? with|some x=>x.2|none=>0
def endN (T:Tr) (i:Nat):Nat:=i+1+((T.drop (i+1)).takeWhile fun x=>decide (dOf T i<x.2)).length
def wfD:Int->Tr->Prop
 |_,[]=>True
 |p,x::T=>0≤x.2/\x.2≤p+1/\wfD x.2 T
structure TOk (T:Tr):Prop where
 few:T.length≤1000000
 wf:wfD (-1) T
 nd:(T.map (·.1)).Nodup
def rootN (T:Tr) (s:Slot):Int × Tr:=match placeN T s with|some _=>(70,T)|none=>(0,T++ [(s,0)])
def addN (T:Tr) (p s:Slot):Int × Tr:=match placeN T p with
 |none=>(71,T)
 |some i=>match placeN T s with|some _=>(70,T)|none=>(0,T.take (i+1)++ [(s,dOf T i+1)]++T.drop (i+1))
def lift1 (l:Tr):Tr:=l.map fun x=>(x.1,x.2-1)
def takeN (T:Tr) (s:Slot):Int × Tr:=match placeN T s with
 |none=>(71,T)
 |some i=>(0,T.take i++(lift1 ((T.drop (i+1)).take (endN T i-(i+1)))++T.drop (endN T i)))
def moveN (T:Tr) (f t:Slot):Int × Tr:=match placeN T f with
 |none=>(71,T)
 |some i=>match placeN T t with|some _=>(70,T)|none=>(0,T.set i (t,dOf T i))
def underN (T:Tr) (s:Slot):List Slot:=match placeN T s with
 |none=>[]
 |some i=>((T.drop (i+1)).take (endN T i-(i+1))).map (·.1)
theorem wfD_rng:∀(T:Tr) (p:Int) (i:Nat) (x:Leaf), -1≤p->wfD p T->T[i]?=some x->0≤x.2/\x.2≤p+1+(i:Int)
 | [],_,i,x,_,_,h=>by simp at h
 |y::T,p,0,x,hp,hw,h=>by
  simp only[List.getElem?_cons_zero,Option.some.injEq] at h;subst h;exact ⟨hw.1,by have:=hw.2.1;omega⟩
 |y::T,p,i+1,x,hp,hw,h=>by
  rw[List.getElem?_cons_succ] at h;have h1:=hw.1;have h2:=hw.2.1;have:=wfD_rng T y.2 i x (by omega) hw.2.2 h;omega
theorem TOk.rng {T:Tr} (h:TOk T) {i:Nat} {x:Leaf} (hx:T[i]?=some x):0≤x.2/\x.2≤1000000:=by
 have h1:=wfD_rng T (-1) i x (by omega) h.wf hx;have h2:=(List.getElem?_eq_some_iff.1 hx).1;have h3:=h.few;omega
theorem place_some {T:Tr} {s:Slot} {i:Nat} (h:placeN T s=some i):∃x,T[i]?=some x/\x.1=s:=by
 unfold placeN at h;obtain ⟨h1,h2,_⟩:=List.findIdx?_eq_some_iff_getElem.1 h;exact ⟨T[i],gE h1,by simpa using h2⟩
theorem place_none {T:Tr} {s:Slot} (h:placeN T s=none):∀x∈T,x.1≠s:=by
 unfold placeN at h;rw[List.findIdx?_eq_none_iff] at h;intro x hx;simpa using h x hx
theorem dOf_get {T:Tr} {i:Nat} {x:Leaf} (h:T[i]?=some x):dOf T i=x.2:=by unfold dOf;rw[h]
theorem end_le (T:Tr) {i:Nat} (hi:i<T.length):i<endN T i/\endN T i≤T.length:=by
 unfold endN;have:((T.drop (i+1)).takeWhile fun x=>decide (dOf T i<x.2)).length≤(T.drop (i+1)).length:=(List.takeWhile_sublist _).length_le;rw[List.length_drop] at this;omega
theorem idx_place (T:Tr) (s:Slot):idxI (fun x:Leaf=>decide (x.1=s)) T=match placeN T s with|some i=>(i:Int)|none=> -1:=rfl
def TreeA (b:Nat) (T:Tr):Asn:=ExA fun s:Sl=>StarA [PureA (TOk T),BlkA b [slV s],SlT leafE s T]
section
variable {B:Nat} {w0 w:World} {R L:List Asn} {b:Nat} {T:Tr}
theorem _root_.Go.Vc.Own.tree (h:Own B w0 w (TreeA b T::R)):∃s,TOk T/\Own B w0 w (SlT leafE s T::BlkA b [slV s]::R):=by
 obtain ⟨s,h⟩:=h.ex;obtain ⟨h1,h⟩:=Own.pure h.star;exact ⟨s,h1,Own.up1 h⟩
theorem _root_.Go.Vc.Own.mk_tree {s:Sl} (h1:TOk T) (h:Own B w0 w (SlT leafE s T::BlkA b [slV s]::R)):Own B w0 w (TreeA b T::R):=
 Own.mk_ex s (Own.mk_star (Own.mk_pure h1 (Own.up1 h)))
theorem tree_New_spec {K:Option Addr->Pw} (h:Own B w0 w R) (hK:∀b w',Own B w0 w' (TreeA b []::R)->K (some ⟨b,0,none⟩) w'):C.qde K w:=by
 apply S.qde0;refine h.al fun w1 h=>?_
 exact hK _ w1 (Own.mk_tree (s:=⟨none,0,0⟩) ⟨by simp,trivial,by simp⟩ (Own.nilS h))
theorem tree_place_o {s:Sl} {x:Slot} {K:Int->Pw} (hT:TOk T) (h:Own B w0 w (SlT leafE s T::BlkA b [slV s]::R)) (hK:∀w',Own B w0 w' (SlT leafE s T::BlkA b [slV s]::R)->K (match placeN T x with|some i=>(i:Int)|none=> -1) w'):
  C.qK (some ⟨b,0,none⟩) x.1 x.2 K w:=by
 apply S.qK0;refine h.al fun w1 h=>?_
 generalize w.heap.size=c at h⊢
 repeat first|refine ⟨_,h.ldc rfl,?_⟩|refine exs ?_
 refine IndexFunc_leaf (L:=BlkA c [.z x.1, .z x.2]::SlT leafE s T::BlkA b [slV s]::R) (xs:=T) (p:=fun y=>decide (y.1=x)) h (by have:=hT.few;omega) (fun y w Q h hQ=>?_) fun w h=>?_
 ·refine callV_mk ?_
  have hA:C.qbP y.1.1 y.1.2 y.2 (Addr.mk c 0 none) Q w:=by
   apply S.qbP0
   repeat first|refine h.al fun w h=>?_|refine h.lc_2 rfl ?_
   refine ⟨_,slotEq y.1 x,?_⟩;exact hQ _ h.sub
  exact hA
 ·rw[idx_place]
  exact hK _ h.sub
theorem tree_end_o {s:Sl} {i:Nat} {K:Int->Pw} (hT:TOk T) (hi:i<T.length) (h:Own B w0 w (SlT leafE s T::BlkA b [slV s]::R)) (hK:∀w',Own B w0 w' (SlT leafE s T::BlkA b [slV s]::R)->K ((endN T i:Nat):Int) w'):
  C.qcd (some ⟨b,0,none⟩) (i:Int) K w:=by
 apply S.qcd0;have hlen:=h.lenc s;have hfew:=hT.few;obtain ⟨xi,hxi⟩:∃x,T[i]?=some x:=⟨_,gE hi⟩
 intro l hl
 have loop:∀(rest:Tr) (k:Nat) (w:World),T.drop k=rest->k≤T.length->i<k->k+(rest.takeWhile fun x=>decide (dOf T i<x.2)).length=endN T i->Own B w0 w (SlT leafE s T::BlkA b [slV s]::R)->l (k:Int) w:=by
  intro rest
  induction rest with
  |nil=>
   intro k w hk hkl hik he h;have:T.length≤k:=by have:=congrArg List.length hk;simp at this;omega
   apply hl
   repeat first|refine h.dr fun w h=>?_|refine ⟨_,h.ldc rfl,?_⟩|refine exs ?_
   refine cdecF (by omega) ?_;have:k=endN T i:=by simpa using he
   rw[this];exact hK _ h
  |cons y rest ih=>
   intro k w hk hkl hik he h;have hkl2:k<T.length:=by have:=congrArg List.length hk;simp at this;omega
   have hx:T[k]?=some y:=by
    have:=congrArg (fun l=>l[0]?) hk;simpa using this
   apply hl
   repeat first|refine h.dr fun w h=>?_|refine ⟨_,h.ldc rfl,?_⟩|refine exs ?_
   refine cdecT (by omega) ?_
   repeat first|refine ⟨_,h.ldc rfl,?_⟩|refine exs ?_
   refine h.ixc rfl hx fun a ha h0 hc=>⟨_,hc 2 _ rfl,?_⟩
   repeat first|refine ⟨_,h.ldc rfl,?_⟩|refine exs ?_
   refine h.ixc rfl hxi fun a ha h0 hc=>⟨_,hc 2 _ rfl,?_⟩
   refine cdec (fun e=>?_) (fun e=>?_)
   ·rw[wr (by omega) (by omega)]
    refine ih (k+1) _ (by rw[←List.drop_drop,hk];rfl) (by omega) (by omega) ?_ h;rw[List.takeWhile_cons_of_pos (by rw[dOf_get hxi];simpa using e)] at he;simp at he;omega
   ·rw[List.takeWhile_cons_of_neg (by rw[dOf_get hxi];simpa using e)] at he
    have:k=endN T i:=by simpa using he
    rw[this];exact hK _ h
 rw[show IntKind.i64.wrap ((i:Int)+1)=((i+1:Nat):Int) from by rw[wr (by omega) (by omega)];omega];exact loop _ (i+1) w rfl (by omega) (by omega) rfl h
theorem TOk.root {s:Slot} (hT:TOk T) (hl:T.length<1000000) (h:placeN T s=none):TOk (T++ [(s,0)]):=by
 refine ⟨by simp;omega,?_,?_⟩
 ·have:∀(T:Tr) (p:Int), -1≤p->wfD p T->wfD p (T++ [(s,0)]):=by
   intro T
   induction T with
   |nil=>intro p hp _;exact ⟨by simp,by show (0:Int)≤p+1;omega,trivial⟩
   |cons x T ih=>intro p hp hw;exact ⟨hw.1,hw.2.1,ih _ (by have:=hw.1;omega) hw.2.2⟩
  exact this T _ (by omega) hT.wf
 ·rw[List.map_append,List.map_cons,List.map_nil,List.nodup_append]
  refine ⟨hT.nd,by simp,fun a ha c hc=>?_⟩;simp only[List.mem_singleton] at hc;subst hc;obtain ⟨x,hx,rfl⟩:=List.mem_map.1 ha;exact place_none h x hx
theorem tree_Root_spec {s:Slot} {K:Int->Pw} (hl:T.length<1000000) (h:Own B w0 w (TreeA b T::R)) (hK:∀w',Own B w0 w' (TreeA b (rootN T s).2::R)->K (rootN T s).1 w'):C.qcf (some ⟨b,0,none⟩) s.1 s.2 K w:=by
 apply S.qcf0;obtain ⟨sl,hT,h⟩:=h.tree;unfold rootN at hK
 repeat first|refine h.al fun w h=>?_|refine h.lc_2 rfl ?_
 refine tree_place_o (x:=s) hT h.up2.up2 fun w h=>?_
 cases hp:placeN T s with
 |some i=>
  rw[hp] at hK;refine cdecT (by show (i:Int)≥0;omega) ?_;exact hK _ (Own.mk_tree hT h.rm2)
 |none=>
  rw[hp] at hK;refine cdecF (by decide) ?_
  repeat first|refine h.al fun w h=>?_|refine h.dr fun w h=>?_|refine h.lc_2 rfl ?_|refine ⟨_,h.ldc rfl,?_⟩|refine exs ?_|refine _root_.Go.Vc.a2 ?_
  refine app1_leaf (xs:=T) (y:=(s,0)) h (by omega) fun s' w hs' h=>?_
  repeat first|refine exs ?_|refine _root_.Go.Vc.a2 ?_|refine h.stc rfl rfl fun w h=>?_
  (try dsimp only[putAt,List.set_cons_zero,List.set_cons_succ] at h)
  exact hK _ (Own.mk_tree (s:=s') (hT.root hl hp) h.sub)
theorem wfD_app:∀(A:Tr) (p:Int) (Q:Tr),wfD p (A++Q)↔wfD p A/\wfD (match A.getLast? with|some x=>x.2|none=>p) Q
 | [],p,Q=>by simp[wfD]
 |x::A,p,Q=>by
  simp only[List.cons_append,wfD,wfD_app A x.2 Q];cases hA:A with
  |nil=>simp[wfD];constructor<;>(intro h;simp_all)
  |cons y A'=>
   rw[←hA];have:(x::A).getLast?=A.getLast?:=by rw[hA];simp
   rw[this];have h2:∃z,A.getLast?=some z:=by rw[hA];exact ⟨_,List.getLast?_eq_some_getLast (by simp)⟩
   obtain ⟨z,hz⟩:=h2;rw[hz];constructor
   ·rintro ⟨h1,h2,h3,h4⟩;exact ⟨⟨h1,h2,h3⟩,h4⟩
   ·rintro ⟨⟨h1,h2,h3⟩,h4⟩;exact ⟨h1,h2,h3,h4⟩
theorem wfD_mono {p q:Int} (hpq:p≤q):∀{T:Tr},wfD p T->wfD q T
 | [],_=>trivial
 |x::T,h=>⟨h.1,by have:=h.2.1;omega,h.2.2⟩
theorem last_take {T:Tr} {i:Nat} {x:Leaf} (h:T[i]?=some x):(T.take (i+1)).getLast?=some x:=by
 rw[List.getLast?_take,if_neg (by omega),show i+1-1=i from rfl,h];rfl
theorem TOk.add {p s:Slot} {i:Nat} (hT:TOk T) (hl:T.length<1000000) (hp:placeN T p=some i) (h:placeN T s=none):TOk (T.take (i+1)++ [(s,dOf T i+1)]++T.drop (i+1)):=by
 obtain ⟨x,hx,_⟩:=place_some hp;have hi:=(List.getElem?_eq_some_iff.1 hx).1;have hr:=hT.rng hx;refine ⟨by simp;omega,?_,?_⟩
 ·have hw:=hT.wf
  have e:T=T.take (i+1)++T.drop (i+1):=(List.take_append_drop _ _).symm;rw[e,wfD_app,last_take hx] at hw;rw[List.append_assoc,wfD_app,last_take hx];refine ⟨hw.1,?_⟩;rw[dOf_get hx];exact ⟨by show 0≤x.2+1;omega,Int.le_refl _,wfD_mono (by show x.2≤x.2+1;omega) hw.2⟩
 ·have hn:=hT.nd
  have e:T=T.take (i+1)++T.drop (i+1):=(List.take_append_drop _ _).symm;rw[e,List.map_append] at hn;rw[List.append_assoc,List.map_append,List.map_append]
  have hnot:s∉T.map (·.1):=fun hm=>by
   obtain ⟨y,hy,hys⟩:=List.mem_map.1 hm;exact place_none h y hy hys
  rw[e,List.map_append,List.mem_append,not_or] at hnot;rw[List.nodup_append] at hn⊢;refine ⟨hn.1,?_,fun a ha c hc=>?_⟩
  ·rw[List.map_cons,List.map_nil,List.singleton_append,List.nodup_cons]
   exact ⟨hnot.2,hn.2.1⟩
  ·rw[List.map_cons,List.map_nil,List.singleton_append,List.mem_cons] at hc
   rcases hc with rfl|hc
   ·intro e;subst e;exact hnot.1 ha
   ·exact hn.2.2 a ha c hc
theorem tree_Add_spec {p s:Slot} {K:Int->Pw} (hl:T.length<1000000) (h:Own B w0 w (TreeA b T::R)) (hK:∀w',Own B w0 w' (TreeA b (addN T p s).2::R)->K (addN T p s).1 w'):C.qcA (some ⟨b,0,none⟩) p.1 p.2 s.1 s.2 K w:=by
 apply S.qcA0;obtain ⟨sl,hT,h⟩:=h.tree;unfold addN at hK
 repeat first|refine h.al fun w h=>?_|refine h.lc_2 rfl ?_
 refine tree_place_o (x:=p) hT h.up3.up3 fun w h=>?_
 cases hp:placeN T p with
 |none=>
  rw[hp] at hK;refine cdecT (by decide) ?_;exact hK _ (Own.mk_tree hT h.rm3.rm2)
 |some i=>
  obtain ⟨x,hx,hxp⟩:=place_some hp;have hr:=hT.rng hx;have hi:=(List.getElem?_eq_some_iff.1 hx).1;rw[hp] at hK;refine cdecF (by show ¬(i:Int)<0;omega) ?_
  (refine h.lc_2 rfl ?_)
  refine tree_place_o (x:=s) hT h fun w h=>?_
  cases hs:placeN T s with
  |some j=>
   simp only[hs] at hK;refine cdecT (by show (j:Int)≥0;omega) ?_;exact hK _ (Own.mk_tree hT h.rm3.rm2)
  |none=>
   simp only[hs] at hK;refine cdecF (by decide) ?_
   repeat first|refine h.dr fun w h=>?_|refine h.lc_2 rfl ?_|refine ⟨_,h.ldc rfl,?_⟩|refine exs ?_
   refine h.ixc rfl hx fun a ha h0 hc=>⟨_,hc 2 _ rfl,?_⟩
   rw[show IntKind.i64.wrap (x.2+1)=dOf T i+1 from by rw[dOf_get hx,wr (by omega) (by omega)]]
   repeat first|refine h.al fun w h=>?_|refine _root_.Go.Vc.a2 ?_
   show C.ql sl (IntKind.i64.wrap ((i:Int)+1)) _ _ _;rw[show IntKind.i64.wrap ((i:Int)+1)=((i+1:Nat):Int) from by rw[wr (by omega) (by omega)];omega];refine Insert_leaf (y:=(s,dOf T i+1)) h.up1 (by omega) (by omega) fun s' w h=>?_
   repeat first|refine exs ?_|refine _root_.Go.Vc.a2 ?_|refine h.stc rfl rfl fun w h=>?_
   (try dsimp only[putAt,List.set_cons_zero,List.set_cons_succ] at h)
   exact hK _ (Own.mk_tree (s:=s') (hT.add hl hp hs) h.rm3.rm2)
theorem wfD_set {s:Slot}:∀(T:Tr) (p:Int) (i:Nat) (x:Leaf),T[i]?=some x->wfD p T->wfD p (T.set i (s,x.2))
 | [],_,_,_,h,_=>by simp at h
 |y::T,p,0,x,h,hw=>by
  simp only[List.getElem?_cons_zero,Option.some.injEq] at h;subst h;exact hw
 |y::T,p,i+1,x,h,hw=>⟨hw.1,hw.2.1,wfD_set T y.2 i x (by simpa using h) hw.2.2⟩
theorem nodup_set {α:Type}:∀(l:List α) (i:Nat) (s:α),l.Nodup->s∉l->(l.set i s).Nodup
 | [],_,_,_,_=>by simp
 |a::l,0,s,hn,hs=>by
  rw[List.set_cons_zero,List.nodup_cons];exact ⟨fun h=>hs (List.mem_cons_of_mem _ h),(List.nodup_cons.1 hn).2⟩
 |a::l,i+1,s,hn,hs=>by
  rw[List.set_cons_succ,List.nodup_cons];rw[List.mem_cons,not_or] at hs;refine ⟨fun h=>?_,nodup_set l i s (List.nodup_cons.1 hn).2 hs.2⟩;rcases List.mem_or_eq_of_mem_set h with h|h
  ·exact (List.nodup_cons.1 hn).1 h
  ·exact hs.1 h.symm
theorem TOk.move {f t:Slot} {i:Nat} (hT:TOk T) (hp:placeN T f=some i) (h:placeN T t=none):TOk (T.set i (t,dOf T i)):=by
 obtain ⟨x,hx,_⟩:=place_some hp;refine ⟨by rw[List.length_set];exact hT.few,by rw[dOf_get hx];exact wfD_set T _ i x hx hT.wf,?_⟩;rw[List.map_set];refine nodup_set _ _ _ hT.nd fun hm=>?_
 obtain ⟨y,hy,hys⟩:=List.mem_map.1 hm;exact place_none h y hy hys
theorem stSlot {s:Sl} {xs:List Leaf} {i:Nat} {a:Addr} {x:Leaf} {t:Slot} {k:Pw} (h:Own B w0 w (SlT leafE s xs::R)) (hx:xs[i]?=some x) (ha:s.a=some a) (hk:∀w',Own B w0 w' (SlT leafE s (xs.set i (t,x.2))::R)->k w'):StL w (a.add ((i:Int).toNat*3)) 0 [.z t.1, .z t.2] k:=by
 have hi:=(List.getElem?_eq_some_iff.1 hx).1;have e:∀(y:Leaf) (w:World) (k:Pw),St w ((a.add ((i:Int).toNat*3)).add 0) (.z t.1) (fun w'=>St w' ((a.add ((i:Int).toNat*3)).add 1) (.z t.2) k)->StL w (a.add ((i:Int).toNat*3)) 0 [.z t.1, .z t.2] k:=fun _ _ _ h=>h
 refine e x _ _ ?_;refine h.stFc (x:=x) (c:=0) ((t.1,x.1.2),x.2) rfl hx ha rfl (by decide) rfl fun w h=>?_
 refine h.stFc (x:=((t.1,x.1.2),x.2)) (c:=1) (t,x.2) rfl (by rw[List.getElem?_set,if_pos rfl,if_pos hi]) ha rfl (by decide) rfl fun w h=>?_
 rw[List.set_set] at h;exact hk w h
theorem tree_Move_spec {f t:Slot} {K:Int->Pw} (h:Own B w0 w (TreeA b T::R)) (hK:∀w',Own B w0 w' (TreeA b (moveN T f t).2::R)->K (moveN T f t).1 w'):C.qcg (some ⟨b,0,none⟩) f.1 f.2 t.1 t.2 K w:=by
 apply S.qcg0;obtain ⟨sl,hT,h⟩:=h.tree;unfold moveN at hK
 repeat first|refine h.al fun w h=>?_|refine h.lc_2 rfl ?_
 refine tree_place_o (x:=f) hT h.up3.up3 fun w h=>?_
 cases hp:placeN T f with
 |none=>
  rw[hp] at hK;refine cdecT (by decide) ?_;exact hK _ (Own.mk_tree hT h.rm3.rm2)
 |some i=>
  obtain ⟨x,hx,hxp⟩:=place_some hp;have hi:=(List.getElem?_eq_some_iff.1 hx).1;rw[hp] at hK;refine cdecF (by show ¬(i:Int)<0;omega) ?_
  (refine h.lc_2 rfl ?_)
  refine tree_place_o (x:=t) hT h fun w h=>?_
  cases hs:placeN T t with
  |some j=>
   simp only[hs] at hK;refine cdecT (by show (j:Int)≥0;omega) ?_;exact hK _ (Own.mk_tree hT h.rm3.rm2)
  |none=>
   simp only[hs] at hK;refine cdecF (by decide) ?_
   repeat first|refine h.dr fun w h=>?_|refine h.lc_2 rfl ?_|refine ⟨_,h.ldc rfl,?_⟩|refine exs ?_
   refine h.ixc rfl hx fun a ha h0 hc=>?_
   refine Go.Vc.a2 ?_;refine stSlot (t:=t) h hx ha fun w h=>?_
   have hm:=hT.move hp hs;rw[dOf_get hx] at hm hK;exact hK _ (Own.mk_tree (s:=sl) hm h.rm3.rm2)
end
theorem TOk.take {T:Tr} {s:Slot} {i:Nat} (hT:TOk T) (hp:placeN T s=some i):TOk (T.take i++(lift1 ((T.drop (i+1)).take (endN T i-(i+1)))++T.drop (endN T i))):=by
 obtain ⟨x,hx,_⟩:=place_some hp;have hi:=(List.getElem?_eq_some_iff.1 hx).1;obtain ⟨e1,e2⟩:=end_le T hi
 have hsub:(((T.take i++(lift1 ((T.drop (i+1)).take (endN T i-(i+1)))++T.drop (endN T i)))).map (·.1)).Sublist (T.map (·.1)):=by
  have h1:T=T.take i++(T.drop i):=(List.take_append_drop _ _).symm
  have h2:T.drop i=x::T.drop (i+1):=by
   rw[List.drop_eq_getElem_cons hi];rw[gE hi] at hx;cases hx;rfl
  have h3:T.drop (i+1)=(T.drop (i+1)).take (endN T i-(i+1))++T.drop (endN T i):=by
   have:=(List.take_append_drop (endN T i-(i+1)) (T.drop (i+1))).symm;rw[List.drop_drop,show i+1+(endN T i-(i+1))=endN T i from by omega] at this;exact this
  have h4:(lift1 ((T.drop (i+1)).take (endN T i-(i+1)))).map (·.1)=((T.drop (i+1)).take (endN T i-(i+1))).map (·.1):=by
   unfold lift1;rw[List.map_map];rfl
  rw[List.map_append,List.map_append,h4,←List.map_append,←h3]
  conv=>rhs;rw[h1,h2]
  rw[List.map_append,List.map_cons];exact (List.sublist_cons_self _ _).append_left _
 refine ⟨?_,?_,List.Nodup.sublist hsub hT.nd⟩
 ·have:=hsub.length_le
  rw[List.length_map,List.length_map] at this;have:=hT.few;omega
 ·
  have hw:=hT.wf;have h1:T=T.take i++(T.drop i):=(List.take_append_drop _ _).symm
  have h2:T.drop i=x::T.drop (i+1):=by
   rw[List.drop_eq_getElem_cons hi];rw[gE hi] at hx;cases hx;rfl
  have hd:=dOf_get hx;have hend:endN T i-(i+1)=((T.drop (i+1)).takeWhile fun y=>decide (x.2<y.2)).length:=by unfold endN;rw[hd];omega
  have hdrop:T.drop (endN T i)=(T.drop (i+1)).dropWhile fun y=>decide (x.2<y.2):=by
   have e:endN T i=i+1+((T.drop (i+1)).takeWhile fun y=>decide (x.2<y.2)).length:=by unfold endN;rw[hd]
   rw[e,←List.drop_drop]
   conv=>lhs;rw[←List.takeWhile_append_dropWhile (p:=fun y:Leaf=>decide (x.2<y.2)) (l:=T.drop (i+1))]
   rw[List.drop_left' (by rw[List.takeWhile_append_dropWhile])]
  have htake:(T.drop (i+1)).take (endN T i-(i+1))=(T.drop (i+1)).takeWhile fun y=>decide (x.2<y.2):=by
   rw[hend]
   conv=>lhs;rw[←List.takeWhile_append_dropWhile (p:=fun y:Leaf=>decide (x.2<y.2)) (l:=T.drop (i+1))]
   rw[List.take_left' (by rw[List.takeWhile_append_dropWhile])]
  rw[h1,h2,wfD_app] at hw;rw[htake,hdrop,wfD_app];refine ⟨hw.1,?_⟩;obtain ⟨_,hx0,hx1,hrest⟩:=hw;generalize (match (T.take i).getLast? with|some x=>x.2|none=> -1:Int)=q at hx1⊢;generalize T.drop (i+1)=D at hrest
  have key:∀(D:Tr) (p:Int),x.2≤p->wfD p D->wfD (p-1) (lift1 (D.takeWhile fun y=>decide (x.2<y.2))++D.dropWhile fun y=>decide (x.2<y.2)):=by
   intro D
   induction D with
   |nil=>intro p _ _;exact trivial
   |cons y D ih=>
    intro p hp hw;by_cases e:x.2<y.2
    ·rw[List.takeWhile_cons_of_pos (by simpa using e),List.dropWhile_cons_of_pos (by simpa using e)]
     exact ⟨by show 0≤y.2-1;omega,by show y.2-1≤p-1+1;have:=hw.2.1;omega,ih y.2 (by omega) hw.2.2⟩
    ·rw[List.takeWhile_cons_of_neg (by simpa using e),List.dropWhile_cons_of_neg (by simpa using e)]
     exact ⟨hw.1,by show y.2≤p-1+1;omega,hw.2.2⟩
  exact wfD_mono (by omega) (key D x.2 (Int.le_refl _) hrest)
section
variable {B:Nat} {w0 w:World} {R L:List Asn} {b:Nat} {T:Tr}
theorem slotsOf_spec {s:Sl} {xs:Tr} {K:Sl->Pw} (hr:Rd leafE B w0 L s xs) (hbig:xs.length≤1000000) (h:Own B w0 w L) (hK:∀s' w',Own B w0 w' (SlT slotE s' (xs.map (·.1))::L)->K s' w'):C.qbE s K w:=by
 apply S.qbE0;have hlen:=hr.len;intro l hl
 have loop:∀(rest:Tr) (j:Nat) (o:Sl) (w:World),xs.drop j=rest->j≤xs.length->Own B w0 w (SlT slotE o ((xs.take j).map (·.1))::L)->l o (j:Int) w:=by
  intro rest
  induction rest with
  |nil=>
   intro j o w hj hjl h;have:xs.length≤j:=by have:=congrArg List.length hj;simp at this;omega
   apply hl;refine cdecF (by omega) ?_;rw[List.take_of_length_le this] at h;exact hK _ _ h
  |cons x rest ih=>
   intro j o w hj hjl h;have hjl2:j<xs.length:=by have:=congrArg List.length hj;simp at this;omega
   have hx:xs[j]?=some x:=by
    have:=congrArg (fun l=>l[0]?) hj;simpa using this
   apply hl;refine cdecT (by omega) ?_;have hr2:Rd leafE B w0 (SlT slotE o ((xs.take j).map (·.1))::L) s xs:=hr.more;refine hr2.ix h rfl hx fun a ha h0 hc=>?_
   refine ldLeaf hc ?_;refine h.al fun w h=>?_
   refine h.stLc rfl rfl fun w h=>?_
   refine h.lc_2 rfl ?_;refine h.al fun w h=>?_
   have h:=h.rm1;refine app1_slot (ys:=((xs.take j).map fun y:Leaf=>y.1)) (y:=x.1) h (by simp;omega) fun o' w ho' h=>?_
   rw[show IntKind.i64.wrap ((j:Int)+1)=((j+1:Nat):Int) from by rw[wr (by omega) (by omega)];omega];refine ih (j+1) o' w (by rw[←List.drop_drop,hj];rfl) (by omega) ?_;rw[List.take_add_one,hx,List.map_append];exact h
 exact loop xs 0 ⟨none,0,0⟩ w rfl (by omega) (Own.nilS h)
theorem tree_All_spec {K:Sl->Pw} (h:Own B w0 w (TreeA b T::R)) (hK:∀s' w',Own B w0 w' (SlT slotE s' (T.map (·.1))::TreeA b T::R)->K s' w'):C.qcu (some ⟨b,0,none⟩) K w:=by
 apply S.qcu0;obtain ⟨sl,hT,h⟩:=h.tree;have hlen:=h.lenc sl
 (repeat (first|(refine h.al fun w h=>?_)|(refine h.dr fun w h=>?_)|(refine h.lc_2 rfl ?_)|(refine h.lc_6 rfl ?_)|(refine ⟨_,h.ldc rfl,?_⟩)|(refine ⟨_,h.ldd rfl,?_⟩)|(refine h.hd rfl ?_)|(refine ⟨h.ldc rfl,?_⟩)|(refine ⟨h.ldd rfl,?_⟩)|(refine h.stLc rfl rfl fun w h=>?_)|(refine exs ?_)|(refine _root_.Go.Vc.a2 ?_)|(refine h.stc rfl rfl fun w h=>?_)|(refine h.std rfl rfl fun w h=>?_)))
 refine slotsOf_spec (Rd.own hlen) hT.few h fun s' w h=>?_
 have h2:Own B w0 w (TreeA b T::SlT slotE s' (T.map (·.1))::R):=Own.mk_tree (s:=sl) hT h.up2.up2;exact hK _ _ h2.up1
theorem tree_Under_spec {s:Slot} {K:Sl->Pw} (h:Own B w0 w (TreeA b T::R)) (hK:∀s' w',Own B w0 w' (SlT slotE s' (underN T s)::TreeA b T::R)->K s' w'):C.qbT (some ⟨b,0,none⟩) s.1 s.2 K w:=by
 apply S.qbT0;obtain ⟨sl,hT,h⟩:=h.tree;have hlen:=h.lenc sl;have hcap:=h.slRaw.le_cap;have hfew:=hT.few;unfold underN at hK
 repeat first|refine h.al fun w h=>?_|refine h.lc_2 rfl ?_
 refine tree_place_o (x:=s) hT h.up2.up2 fun w h=>?_
 cases hp:placeN T s with
 |none=>
  rw[hp] at hK;refine cdecT (by decide) ?_;have h2:Own B w0 w (TreeA b T::R):=Own.mk_tree (s:=sl) hT h.rm2;exact hK _ w (Own.nilS h2)
 |some i=>
  obtain ⟨x,hx,hxp⟩:=place_some hp;have hi:=(List.getElem?_eq_some_iff.1 hx).1;obtain ⟨e1,e2⟩:=end_le T hi;rw[hp] at hK;refine cdecF (by show ¬(i:Int)<0;omega) ?_;have ew:IntKind.i64.wrap ((i:Int)+1)=((i+1:Nat):Int):=by rw[wr (by omega) (by omega)];omega
  have fin:∀w,Own B w0 w (SlT leafE sl T::BlkA b [slV sl]::R)->C.qbE ⟨Vc.slA sl.a (i+1) sl.cap 3,endN T i-(i+1),sl.cap-(i+1)⟩ K w:=fun w h=>by
   refine slotsOf_spec (Rd.part (s:=sl) (xs:=T) (E:=leafE) (p:=i+1) (n:=endN T i-(i+1)) (by omega)) (by simp;omega) h fun s' w h=>?_
   have h2:Own B w0 w (TreeA b T::SlT slotE s' _::R):=Own.mk_tree (s:=sl) hT h.up2.up2;exact hK _ _ h2.up1
  have h:=h.rm2
  repeat first|refine h.dr fun w h=>?_|refine ⟨_,h.ldc rfl,?_⟩|refine exs ?_|refine _root_.Go.Vc.a2 ?_
  refine tree_end_o hT hi h fun w h=>?_
  (refine ⟨h.ldc rfl,?_⟩)
  show _/\_/\0≤IntKind.i64.wrap ((i:Int)+1)/\IntKind.i64.wrap ((i:Int)+1)≤_/\C.qbE ⟨Vc.slA sl.a (IntKind.i64.wrap ((i:Int)+1)).toNat sl.cap 3,_-(IntKind.i64.wrap ((i:Int)+1)).toNat,sl.cap-(IntKind.i64.wrap ((i:Int)+1)).toNat⟩ _ _/\True;rw[ew];refine ⟨by omega,by omega,by omega,by simp only[Int.toNat_natCast];omega,Go.Vc.a2 ?_⟩;exact fin w h
end
def liftN (T:Tr) (i k:Nat):Tr:=T.take (i+1)++(lift1 ((T.drop (i+1)).take k)++T.drop (i+1+k))
theorem lift_len (T:Tr) (i k:Nat):(liftN T i k).length=T.length:=by unfold liftN lift1;simp;omega
theorem lift_get {T:Tr} {i k j:Nat} (hk:k≤j):(liftN T i k)[i+1+j]?=T[i+1+j]?:=by
 unfold liftN lift1;by_cases hl:i+1+k≤T.length
 ·have h1:(T.take (i+1)).length=i+1:=by simp;omega
  have h2:(((T.drop (i+1)).take k).map fun x:Leaf=>(x.1,x.2-1)).length=k:=by simp;omega
  rw[List.getElem?_append_right (by omega),h1,List.getElem?_append_right (by omega),h2,List.getElem?_drop];congr 1;omega
 ·rw[List.getElem?_eq_none (l:=T) (by omega),List.getElem?_eq_none]
  simp;omega
theorem lift_step {T:Tr} {i k:Nat} {x:Leaf} (hx:T[i+1+k]?=some x):(liftN T i k).set (i+1+k) (x.1,x.2-1)=liftN T i (k+1):=by
 have hl:=(List.getElem?_eq_some_iff.1 hx).1;unfold liftN lift1;have h1:(T.take (i+1)).length=i+1:=by simp;omega
 have h2:(((T.drop (i+1)).take k).map fun x:Leaf=>(x.1,x.2-1)).length=k:=by simp;omega
 rw[List.set_append_right _ _ (by omega),h1,List.set_append_right _ _ (by omega),h2,show i+1+k-(i+1)-k=0 from by omega]
 have h3:T.drop (i+1+k)=x::T.drop (i+1+(k+1)):=by
  rw[List.drop_eq_getElem_cons hl];rw[gE hl] at hx;cases hx;rfl
 have h4:(T.drop (i+1)).take (k+1)=(T.drop (i+1)).take k++ [x]:=by
  rw[List.take_add_one,List.getElem?_drop,hx];rfl
 rw[h3,h4,List.set_cons_zero,List.map_append,List.append_assoc];rfl
theorem lift_zero (T:Tr) (i:Nat):liftN T i 0=T:=by unfold liftN lift1;simp
section
variable {B:Nat} {w0 w:World} {R L:List Asn} {b:Nat} {T:Tr}
theorem tree_Take_spec {s:Slot} {K:Int->Pw} (h:Own B w0 w (TreeA b T::R)) (hK:∀w',Own B w0 w' (TreeA b (takeN T s).2::R)->K (takeN T s).1 w'):C.qck (some ⟨b,0,none⟩) s.1 s.2 K w:=by
 apply S.qck0;obtain ⟨sl,hT,h⟩:=h.tree;have hlen:=h.lenc sl;have hcap:=h.slRaw.le_cap;have hfew:=hT.few;unfold takeN at hK
 repeat first|refine h.al fun w h=>?_|refine h.lc_2 rfl ?_
 refine tree_place_o (x:=s) hT h.up2.up2 fun w h=>?_
 cases hp:placeN T s with
 |none=>
  rw[hp] at hK;refine cdecT (by decide) ?_;exact hK _ (Own.mk_tree (s:=sl) hT h.rm2)
 |some i=>
  obtain ⟨x,hx,hxp⟩:=place_some hp;have hi:=(List.getElem?_eq_some_iff.1 hx).1;obtain ⟨e1,e2⟩:=end_le T hi;rw[hp] at hK;simp only at hK;refine cdecF (by show ¬(i:Int)<0;omega) ?_;have ew:IntKind.i64.wrap ((i:Int)+1)=((i+1:Nat):Int):=by rw[wr (by omega) (by omega)];omega
  generalize hm:endN T i-(i+1)=m at*
  have fin:∀(l:Int->Pw),(∀(t15:Int) (w16:World),(bif decide (t15<(m:Int)) then
    (∃a17:Addr,Vc.slA sl.a (i+1) sl.cap 3=some a17/\0≤t15/\t15<(m:Int)/\∃depth18:Int,w16.cell? ((a17.add (t15.toNat*3)).add 2)=some (.z depth18)/\
     ∃a19:Addr,Vc.slA sl.a (i+1) sl.cap 3=some a19/\0≤t15/\t15<(m:Int)/\
     St w16 ((a19.add (t15.toNat*3)).add 2) (.z (IntKind.i64.wrap (depth18-(1:Int)))) fun w20=>l (IntKind.i64.wrap (t15+(1:Int))) w20)
    else
    (∃a21:Addr,some (Addr.mk b 0 none)=some a21/\∃l22:Sl,w16.cell? a21=some (.slice l22.a l22.len l22.cap)/\
     C.qm l22 (i:Int) (((i+1:Nat):Int)) (fun r23 w24=>∃a25:Addr,some (Addr.mk b 0 none)=some a25/\St w24 a25 (.slice r23.a r23.len r23.cap) fun w26=>K (0:Int) w26) w16))->l t15 w16)->
    ∀w,Own B w0 w (SlT leafE sl T::BlkA b [slV sl]::R)->l 0 w:=fun l hl w h=>by
   have loop:∀(n k:Nat) (w:World),k+n=m->Own B w0 w (SlT leafE sl (liftN T i k)::BlkA b [slV sl]::R)->l (k:Int) w:=by
    intro n
    induction n with
    |zero=>
     intro k w hk h;obtain rfl:k=m:=by omega
     apply hl;refine cdecF (by omega) ?_
     repeat first|refine ⟨_,h.ldc rfl,?_⟩|refine exs ?_
     refine Delete_leaf h (by omega) (by rw[lift_len];omega) (by rw[lift_len];omega) fun s' w h=>?_
     repeat first|refine exs ?_|refine h.stc rfl rfl fun w h=>?_
     (try dsimp only[putAt,List.set_cons_zero,List.set_cons_succ] at h)
     have hd:(liftN T i k).take i++(liftN T i k).drop (i+1)=T.take i++(lift1 ((T.drop (i+1)).take k)++T.drop (endN T i)):=by
      have h1:(T.take (i+1)).length=i+1:=by simp;omega
      have h2:(liftN T i k).take i=T.take i:=by
       unfold liftN;rw[List.take_append_of_le_length (by omega),List.take_take,Nat.min_eq_left (by omega)]
      have h3:(liftN T i k).drop (i+1)=lift1 ((T.drop (i+1)).take k)++T.drop (i+1+k):=by
       unfold liftN;rw[List.drop_left' h1]
      rw[h2,h3,show i+1+k=endN T i from by omega]
     rw[hd] at h;have hok:=hT.take hp;rw[hm] at hok;exact hK _ (Own.mk_tree (s:=s') hok h)
    |succ n ih=>
     intro k w hk h;obtain ⟨y,hy⟩:∃y,T[i+1+k]?=some y:=⟨_,gE (by omega)⟩
     have hy2:(liftN T i k)[i+1+k]?=some y:=by rw[lift_get (Nat.le_refl _)];exact hy
     have hyr:=hT.rng hy;apply hl;refine cdecT (by omega) ?_;obtain ⟨a,a0,ha0,ha,he⟩:=h.partA (s:=sl) (E:=leafE) (xs:=liftN T i k) (p:=i+1) (n:=m) (t:=k) (by rw[lift_len];omega) (by omega);have he:a.add (k*3)=a0.add (((i+1+k:Nat):Int).toNat*3):=by rw[Int.toNat_natCast];exact he
     obtain ⟨_,hc⟩:=h.ixa (s:=sl) (E:=leafE) (i:=((i+1+k:Nat):Int)) (j:=i+1+k) rfl hy2 ha0;have hc:w.cell? ((a0.add (((i+1+k:Nat):Int).toNat*3)).add 2)=some (.z y.2):=hc 2 _ rfl;refine ⟨a,ha,by omega,by omega,y.2,?_,a,ha,by omega,by omega,?_⟩
     ·rw[Int.toNat_natCast,he];exact hc
     ·rw[Int.toNat_natCast,he,wr (by omega) (by omega)]
      refine h.stFc (E:=leafE) (x:=y) (c:=2) (y.1,y.2-1) rfl hy2 ha0 rfl (by decide) rfl fun w h=>?_
      rw[lift_step hy] at h;rw[show IntKind.i64.wrap ((k:Int)+1)=((k+1:Nat):Int) from by rw[wr (by omega) (by omega)];omega];exact ih (k+1) w (by omega) h
   exact loop m 0 w (by omega) (by rw[lift_zero];exact h)
  have h:=h.rm2
  repeat first|refine h.dr fun w h=>?_|refine ⟨_,h.ldc rfl,?_⟩|refine exs ?_|refine _root_.Go.Vc.a2 ?_
  refine tree_end_o hT hi h fun w h=>?_
  (refine ⟨h.ldc rfl,?_⟩)
  dsimp only;rw[ew];refine ⟨by omega,by omega,by omega,by simp only[Int.toNat_natCast];omega,?_⟩;intro l hl;subst hm;exact fin l hl w h
end
end Go.Proofs.YtogmbmdbgkopjaaGreat.Tr
end
section
set_option maxRecDepth 100000
namespace Go.Proofs.YtogmbmdbgkopjaaGreat
open Go Go.Vc Go.Proofs
theorem S.qdi0 {K w}:Fr (C.qdi K w) (Al w (.map #[] 0) fun a=>Al a (.cells #[.slice none 0 0, .slice none 0 0, .slice none 0 0, .slice none 0 0, .slice none 0 0, .slice none 0 0, .slice none 0 0, .slice none 0 0, .slice none 0 0, .slice none 0 0, .slice none 0 0, .slice none 0 0, .slice none 0 0, .slice none 0 0, .slice none 0 0, .slice none 0 0, .slice none 0 0, .slice none 0 0, .slice none 0 0, .slice none 0 0, .slice none 0 0, .slice none 0 0, .slice none 0 0, .slice none 0 0, .slice none 0 0, .slice none 0 0, .slice none 0 0, .slice none 0 0, .slice none 0 0, .slice none 0 0, .slice none 0 0, .slice none 0 0, .slice none 0 0, .slice none 0 0, .slice none 0 0, .slice none 0 0, .slice none 0 0, .slice none 0 0, .slice none 0 0, .slice none 0 0, .slice none 0 0, .slice none 0 0, .slice none 0 0, .slice none 0 0, .slice none 0 0, .slice none 0 0, .slice none 0 0, .slice none 0 0, .slice none 0 0, .slice none 0 0, .slice none 0 0, .slice none 0 0, .slice none 0 0, .slice none 0 0, .slice none 0 0, .slice none 0 0, .slice none 0 0, .slice none 0 0, .slice none 0 0, .slice none 0 0, .slice none 0 0, .slice none 0 0, .slice none 0 0, .slice none 0 0, .slice none 0 0, .slice none 0 0, .slice none 0 0, .slice none 0 0, .slice none 0 0, .slice none 0 0, .slice none 0 0, .slice none 0 0, .slice none 0 0, .slice none 0 0, .slice none 0 0, .slice none 0 0, .slice none 0 0, .slice none 0 0, .slice none 0 0, .slice none 0 0, .slice none 0 0, .slice none 0 0, .slice none 0 0, .slice none 0 0, .slice none 0 0, .slice none 0 0, .slice none 0 0, .slice none 0 0, .slice none 0 0, .slice none 0 0, .slice none 0 0, .slice none 0 0, .slice none 0 0, .slice none 0 0, .slice none 0 0, .slice none 0 0, .slice none 0 0, .slice none 0 0, .slice none 0 0, .slice none 0 0, .slice none 0 0, .slice none 0 0, .slice none 0 0, .slice none 0 0, .slice none 0 0, .slice none 0 0, .slice none 0 0, .slice none 0 0, .slice none 0 0, .slice none 0 0, .slice none 0 0, .slice none 0 0, .slice none 0 0, .slice none 0 0, .slice none 0 0, .slice none 0 0, .slice none 0 0, .slice none 0 0, .slice none 0 0, .slice none 0 0, .slice none 0 0, .slice none 0 0, .slice none 0 0, .slice none 0 0, .slice none 0 0, .slice none 0 0, .slice none 0 0, .slice none 0 0, .slice none 0 0, .slice none 0 0, .slice none 0 0, .slice none 0 0, .slice none 0 0, .slice none 0 0, .slice none 0 0, .slice none 0 0, .slice none 0 0, .slice none 0 0, .slice none 0 0, .slice none 0 0, .slice none 0 0, .slice none 0 0, .slice none 0 0, .slice none 0 0, .slice none 0 0, .slice none 0 0, .slice none 0 0, .slice none 0 0, .slice none 0 0, .slice none 0 0, .slice none 0 0, .slice none 0 0, .slice none 0 0, .slice none 0 0, .slice none 0 0, .slice none 0 0, .slice none 0 0, .slice none 0 0, .slice none 0 0, .slice none 0 0, .slice none 0 0, .slice none 0 0, .slice none 0 0, .slice none 0 0, .slice none 0 0, .slice none 0 0, .slice none 0 0, .slice none 0 0, .slice none 0 0, .slice none 0 0, .slice none 0 0, .slice none 0 0, .slice none 0 0, .slice none 0 0, .slice none 0 0, .slice none 0 0, .slice none 0 0, .slice none 0 0, .slice none 0 0, .slice none 0 0, .slice none 0 0, .slice none 0 0, .slice none 0 0, .slice none 0 0, .slice none 0 0, .slice none 0 0, .slice none 0 0, .slice none 0 0, .slice none 0 0, .slice none 0 0, .slice none 0 0, .slice none 0 0, .slice none 0 0, .slice none 0 0, .slice none 0 0, .slice none 0 0, .slice none 0 0, .slice none 0 0, .slice none 0 0, .slice none 0 0, .slice none 0 0, .slice none 0 0, .slice none 0 0, .slice none 0 0, .slice none 0 0, .slice none 0 0, .slice none 0 0, .slice none 0 0, .slice none 0 0, .slice none 0 0, .slice none 0 0, .slice none 0 0, .slice none 0 0, .slice none 0 0, .slice none 0 0, .slice none 0 0, .slice none 0 0, .slice none 0 0, .slice none 0 0, .slice none 0 0, .slice none 0 0, .slice none 0 0, .slice none 0 0, .slice none 0 0, .slice none 0 0, .slice none 0 0, .slice none 0 0, .slice none 0 0, .slice none 0 0, .slice none 0 0, .slice none 0 0, .slice none 0 0, .slice none 0 0, .slice none 0 0, .slice none 0 0, .slice none 0 0, .slice none 0 0, .slice none 0 0, .slice none 0 0, .slice none 0 0, .slice none 0 0, .slice none 0 0, .slice none 0 0, .slice none 0 0, .slice none 0 0, .slice none 0 0, .slice none 0 0, .slice none 0 0, .slice none 0 0, .slice none 0 0, .slice none 0 0, .slice none 0 0, .slice none 0 0, .slice none 0 0, .slice none 0 0, .slice none 0 0, .map (some w.heap.size), .y 0, .y 0, .y 0, .y 0] 297) fun b=>K (some (.mk a.heap.size 0 none)) b):=okT Tryz.func105 (.v .w)
theorem S.qbB0 {a K w}:Fr (C.qbB a K w) (∃b,a=some b/\LdL w (b.add 257) 0 [.u, .u, .u, .u] fun (b c d e:Int)=>C.qdj b c d e (fun b c=>bif decide (b<0) then (K 0 false c) else (∃d,a=some d/\0≤b/\b<256/\∃a:Sl,c.cell? (d.add (b.toNat*1))=some (.slice a.a a.len a.cap)/\∃b,a.a=some b/\(0:Int)≤0/\0<(a.len:Int)/\∃a,c.cell? (b.add ((0:Int).toNat*1))=some (.z a)/\K a true c)) w):=okT Tryz.func112 .g45
theorem S.qbS0 {a b c K w}:Fr (C.qbS a b c K w) (∀d:Bool->Pw,(∀(e:Bool) (f:World),(bif e then (K 1 f) else (∃d,a=some d/\∃e,f.cell? (d.add 256)=some (.map e)/\∃d,∃g,LkB Tryz.prog 291 (.map e) (.z c) (.z d) g f/\bif g then (K 90 f) else (Dr f fun d=>∃e,a=some e/\0≤b/\b<256/\∃f:Sl,d.cell? (e.add (b.toNat*1))=some (.slice f.a f.len f.cap)/\∃e,a=some e/\(Al d (.cells #[.z c] 3) fun g=>(∃h i,AppR Tryz.prog [26,26] 26 (.slice f.a f.len f.cap) (.slice (some (.mk d.heap.size 0 none)) 1 1) g h i/\0≤b/\b<256/\(St i (e.add (b.toNat*1)) (.slice h.a h.len h.cap) fun d=>∃e,a=some e/\∃f,d.cell? (e.add 256)=some (.map f)/\∃e:World,UpdR Tryz.prog 291 (.map f) (.z c) (.z b) d e/\∃c,a=some c/\C.qbd (some c) b (fun a=>K 0 a) e)/\True)/\True)/\True)))->d e f)->(bif decide (b<0) then (d true w) else (d (decide (b≥256)) w))):=okT Tryz.func191 (.v (.y .g37 (.y (.v (.v (.x .w))) (.y (.z (.o 0 4094 (.o 1 32764 (.o 2 30216 (.o 3 30320 (.o 4 30208 (.o 5 30208 (.o 6 30208 (.o 7 30208 (.o 8 30208 (.o 9 28672 (.o 12 3072 (.o 13 3072 (.o 14 3072 (.e 10 (.e 11 (.o 15 0 (.e 16 .done)))))))))))))))))) (.v (.v .w))))))
theorem S.qbF0 {a b K w}:Fr (C.qbF a b K w) (Al w (.cells #[.z b] 3) fun b=>Dr b fun b=>∃c,a=some c/\∃d,b.cell? (c.add 256)=some (.map d)/\∃c,b.cell? (Addr.mk w.heap.size 0 none)=some (.z c)/\(∃e,∃f,LkB Tryz.prog 291 (.map d) (.z c) (.z e) f b/\bif !f then (K 91 b) else (Dr b fun b=>∃c,a=some c/\0≤e/\e<256/\∃d:Sl,b.cell? (c.add (e.toNat*1))=some (.slice d.a d.len d.cap)/\∃c,a=some c/\(C.qB d (.func (.func 270) #[] #[.pointer (some (.mk w.heap.size 0 none))]) (fun b d=>0≤e/\e<256/\(St d (c.add (e.toNat*1)) (.slice b.a b.len b.cap) fun b=>Dr b fun b=>∃c,a=some c/\∃d,b.cell? (c.add 256)=some (.map d)/\∃c,b.cell? (Addr.mk w.heap.size 0 none)=some (.z c)/\(∃f:World,DelR Tryz.prog [291,3] 0 (.map d) (.z c) b f/\∃b,a=some b/\C.qbd (some b) e (fun a=>K 0 a) f)/\True)/\True) b)/\True))/\True):=okT Tryz.func193 (.v (.y (.z (.o 0 32 (.o 1 32 (.o 2 32 (.o 3 32 (.o 4 32 (.o 5 0 (.e 6 (.o 7 0 (.o 8 512 (.o 9 1024 (.o 10 0 (.o 11 0 .done))))))))))))) (.y (.v (.x .w)) (.y (.z (.o 0 2046 (.o 1 16380 (.o 2 14856 (.o 3 14960 (.o 4 14848 (.o 5 14848 (.o 6 14848 (.o 7 14848 (.o 8 14848 (.o 9 14336 (.o 11 1024 (.o 12 1024 (.o 13 1024 (.e 10 (.o 14 0 (.e 15 .done))))))))))))))))) (.y (.z (.o 0 32 (.o 1 32 (.o 2 32 (.o 3 32 (.o 4 32 (.o 5 0 (.e 6 .done)))))))) (.v .w))))))
theorem S.qbd0 {a b K w}:Fr (C.qbd a b K w) (Dr w fun c=>∃d,a=some d/\LdL c (d.add 257) 0 [.u, .u, .u, .u] fun (d e f g:Int)=>∃h,a=some h/\0≤b/\b<256/\∃i:Sl,c.cell? (h.add (b.toNat*1))=some (.slice i.a i.len i.cap)/\(C.qdl d e f g b (decide ((i.len:Int)>0)) (fun b c d e _ g=>∃f,a=some f/\(StL g (f.add 257) 0 [.y b, .y c, .y d, .y e] fun a=>K a)/\True) c)/\True):=okT Tryz.func267 (.z (.o 0 262142 (.o 1 16352 (.o 2 16352 (.o 3 16352 (.o 4 16352 (.o 5 16320 (.o 6 128 (.o 7 768 (.o 8 0 (.o 9 0 (.o 10 0 (.o 11 0 (.o 12 0 (.o 13 0 (.e 14 (.o 15 0 (.o 16 131072 (.o 17 1835008 (.o 18 0 (.o 19 0 (.e 20 .done))))))))))))))))))))))
theorem S.qbK0 {a b K w}:Fr (C.qbK a b K w) (∃c,w.cell? b=some (.z c)/\K (a==c) w):=okT Tryz.func270 (.v .w)
theorem S.qcP0 {a K w}:Fr (C.qcP a K w) (∀b:Int->Int->Pw,(∀(c d:Int) (e:World),(bif decide (d<a) then (b (IntKind.u64.wrap (2*c)) (IntKind.i64.wrap (d+1)) e) else (K c e))->b c d e)->b 1 0 w):=okT Tryz.func137 (.v (.v (.y (.v (.x (.t (some [(3,.c (.i .u64)),(4,.c (.i .i64))]) (.y (.v .w) (.x .w)) .u))) .w)))
theorem S.qcQ0 {a b c d e f K w}:Fr (C.qcQ a b c d e f K w) (Al w (.cells #[.z a, .z b, .z c, .y d, .y e, .z f] 42) fun a=>∀b:Bool->Pw,(∀(a:Bool) (c:World),(bif a then (K 0 c) else (∀a:Bool->Pw,(∀(b:Bool) (c:World),(bif b then (K 40 c) else (∀a:Bool->Pw,(∀(b:Bool) (c:World),(bif b then (K 40 c) else (∃a,c.cell? (Addr.mk w.heap.size 0 none)=some (.z a)/\bif a !=2 then (∃a,c.cell? ((Addr.mk w.heap.size 0 none).add 4)=some (.y a)/\bif decide (a>0) then (K 40 c) else (∃a,c.cell? ((Addr.mk w.heap.size 0 none).add 5)=some (.z a)/\bif a !=0 then (K 40 c) else (∃a,c.cell? ((Addr.mk w.heap.size 0 none).add 4)=some (.y a)/\∃b,c.cell? ((Addr.mk w.heap.size 0 none).add 5)=some (.z b)/\C.qcH a b (fun a b=>bif !a then (K 40 b) else (K 0 b)) c))) else (∃a,c.cell? ((Addr.mk w.heap.size 0 none).add 4)=some (.y a)/\∃b,c.cell? ((Addr.mk w.heap.size 0 none).add 5)=some (.z b)/\C.qcH a b (fun a b=>bif !a then (K 40 b) else (K 0 b)) c)))->a b c)->(∃b,c.cell? (Addr.mk w.heap.size 0 none)=some (.z b)/\C.qcy b (fun b c=>bif !b then (∃b,c.cell? ((Addr.mk w.heap.size 0 none).add 2)=some (.z b)/\bif b !=7 then (a true c) else (∃b,c.cell? (Addr.mk w.heap.size 0 none)=some (.z b)/\C.qcq b (fun b c=>bif !b then (∃b,c.cell? ((Addr.mk w.heap.size 0 none).add 3)=some (.y b)/\a (decide (b>0)) c) else (a false c)) c)) else (∃b,c.cell? (Addr.mk w.heap.size 0 none)=some (.z b)/\C.qcq b (fun b c=>bif !b then (∃b,c.cell? ((Addr.mk w.heap.size 0 none).add 3)=some (.y b)/\a (decide (b>0)) c) else (a false c)) c)) c)))->a b c)->(∃b,c.cell? (Addr.mk w.heap.size 0 none)=some (.z b)/\bif decide (b<1) then (a true c) else (∃b,c.cell? (Addr.mk w.heap.size 0 none)=some (.z b)/\bif decide (b>9) then (a true c) else (∃b,c.cell? ((Addr.mk w.heap.size 0 none).add 1)=some (.z b)/\bif decide (b<0) then (a true c) else (∃b,c.cell? ((Addr.mk w.heap.size 0 none).add 1)=some (.z b)/\bif decide (b>2147483647) then (a true c) else (∃b,c.cell? ((Addr.mk w.heap.size 0 none).add 2)=some (.z b)/\bif decide (b<0) then (a true c) else (∃b,c.cell? ((Addr.mk w.heap.size 0 none).add 2)=some (.z b)/\a (decide (b>7)) c))))))))->b a c)->(∃c,a.cell? (Addr.mk w.heap.size 0 none)=some (.z c)/\bif c==0 then (LdL a (.mk w.heap.size 0 none) 0 [.o, .o, .o, .u, .u, .o] fun (c d e f g h:Int)=>∃i,EqB Tryz.prog .eql 42 (.tmp 7) (.tmp 8) (.agg #[.z c, .z d, .z e, .y f, .y g, .z h]) (.agg #[.z 0, .z 0, .z 0, .y 0, .y 0, .z 0]) i/\b i a) else (b false a))):=okT Tryz.func230 (.v (.y (.y (.r (some [(10,.c .b)]) .done) (.x .w)) (.y (.y (.r (some [(38,.c .b)]) .done) (.x .w)) (.y (.y (.r (some [(58,.c .b)]) .done) (.x .w)) (.y (.v (.x .w)) .w)))))
theorem S.qcq0 {a K w}:Fr (C.qcq a K w) (bif a==4 then (K true w) else (K (a==5) w)):=okT Tryz.func242 (.v .w)
theorem S.qcy0 {a K w}:Fr (C.qcy a K w) (bif a==4 then (K true w) else (bif a==5 then (K true w) else (K (a==6) w))):=okT Tryz.func243 (.v .w)
theorem S.qcH0 {a b K w}:Fr (C.qcH a b K w) (bif decide (b≥0) then (bif decide (b≤64) then (bif b==64 then (K true w) else (C.qcP b (fun b c=>K (decide (a<b)) c) w)) else (K false w)) else (K false w)):=okT Tryz.func309 (.v .w)
end Go.Proofs.YtogmbmdbgkopjaaGreat
end
section
set_option maxRecDepth 8000
namespace Go.Proofs.YtogmbmdbgkopjaaGreat.Th
open Go Go.Vc Go.Proofs
abbrev Qs:=List (Nat × Int)
def lineOf (L:Qs) (p:Nat):List Int:=(L.filter fun x=>x.1==p).map (·.2)
def wh (L:Qs) (n:Int):Option Nat:=(L.find? fun x=>x.2==n).map (·.1)
def some1 (L:Qs) (p:Nat):Bool:= !(lineOf L p).isEmpty
structure QOk (L:Qs):Prop where
 nodup:(L.map (·.2)).Nodup
 prio:∀x∈L,x.1<256
 few:L.length≤1000000
theorem four {α:Type} (ws:List α) (h:ws.length=4):∃a b c d,ws= [a,b,c,d]:=by
 rcases ws with _|⟨a,_|⟨b,_|⟨c,_|⟨d,_|⟨e,ws⟩⟩⟩⟩⟩
 ·simp at h
 ·simp at h
 ·simp at h
 ·simp at h
 ·exact ⟨a,b,c,d,rfl⟩
 ·simp at h
def slV (s:Sl):Value:= .slice s.a s.len s.cap
def qcells (sl:Nat->Sl) (m:Nat) (ws:List Int):List Value:=(List.range 256).map (fun p=>slV (sl p))++Value.map (some m)::ws.map (Value.int .u64)
def updF (sl:Nat->Sl) (p:Nat) (s:Sl):Nat->Sl:=fun q=>if q=p then s else sl q
theorem qcells_line {sl:Nat->Sl} {m:Nat} {ws:List Int} {p:Nat} (hp:p<256):(qcells sl m ws)[p]?=some (slV (sl p)):=by
 unfold qcells;rw[List.getElem?_append_left (by simpa using hp),List.getElem?_map,List.getElem?_range hp];rfl
theorem qcells_map {sl:Nat->Sl} {m:Nat} {ws:List Int}:(qcells sl m ws)[256]?=some (.map (some m)):=by
 unfold qcells;rw[List.getElem?_append_right (by simp)];simp
theorem qcells_word {sl:Nat->Sl} {m:Nat} {ws:List Int} (j:Nat):(qcells sl m ws)[257+j]?=(ws[j]?).map (Value.int .u64):=by
 unfold qcells;rw[List.getElem?_append_right (by simp;omega)];simp only[List.length_map,List.length_range];rw[show 257+j-256=j+1 from by omega,List.getElem?_cons_succ,List.getElem?_map]
theorem qcells_set {sl:Nat->Sl} {m:Nat} {ws:List Int} {p:Nat} (hp:p<256) (s:Sl):(qcells sl m ws).set p (slV s)=qcells (updF sl p s) m ws:=by
 unfold qcells;rw[List.set_append_left _ _ (by simpa using hp)];congr 1;apply List.ext_getElem?;intro i;rw[List.getElem?_set];simp only[List.getElem?_map,List.length_map,List.length_range];by_cases hi:i<256
 ·rw[List.getElem?_range hi]
  by_cases e:p=i
  ·subst e;simp[hp,updF]
  ·have e':¬i=p:=fun h=>e h.symm
   simp[e,e',updF]
 ·rw[List.getElem?_eq_none (l:=List.range 256) (by simpa using hi),if_neg (by omega)];rfl
theorem qcells_setw {sl:Nat->Sl} {m:Nat} {ws:List Int} (j:Nat) (x:Int):(qcells sl m ws).set (257+j) (.y x)=qcells sl m (ws.set j x):=by
 unfold qcells;rw[List.set_append_right _ _ (by simp;omega)];simp only[List.length_map,List.length_range];rw[show 257+j-256=j+1 from by omega,List.set_cons_succ,List.map_set]
def ByOk (L:Qs) (M:List (Int × Int)):Prop:=∀n,mget M n=(wh L n).map fun p:Nat=>(p:Int)
structure Qx where
 m:Nat
 M:List (Int × Int)
 sl:Nat->Sl
 ws:List Int
def linesA (sl:Nat->Sl) (L:Qs):List Asn:=(List.range 256).map fun p=>SlT intE (sl p) (lineOf L p)
abbrev mapA (m:Nat) (M:List (Int × Int)):Asn:=MapA (Value.int .i64) (Value.int .i64) m M
def QueueA (b:Nat) (L:Qs):Asn:=ExA fun x:Qx=>StarA (PureA (QOk L/\ByOk L x.M/\BitsOk (some1 L) x.ws)::BlkA b (qcells x.sl x.m x.ws)::mapA x.m x.M::linesA x.sl L)
section
variable {B:Nat} {w0 w:World} {R:List Asn} {b:Nat} {L:Qs}
theorem _root_.Go.Vc.Own.queue (h:Own B w0 w (QueueA b L::R)):∃x:Qx,QOk L/\ByOk L x.M/\BitsOk (some1 L) x.ws/\Own B w0 w (BlkA b (qcells x.sl x.m x.ws)::mapA x.m x.M::(linesA x.sl L++R)):=by
 obtain ⟨x,h⟩:=h.ex;have h:=h.star;obtain ⟨⟨h1,h2,h3⟩,h⟩:=Own.pure h;exact ⟨x,h1,h2,h3,h⟩
theorem _root_.Go.Vc.Own.mk_queue {m:Nat} {M:List (Int × Int)} {sl:Nat->Sl} {ws:List Int} (h1:QOk L) (h2:ByOk L M) (h3:BitsOk (some1 L) ws) (h:Own B w0 w (BlkA b (qcells sl m ws)::mapA m M::(linesA sl L++R))):Own B w0 w (QueueA b L::R):=
 Own.mk_ex ⟨m,M,sl,ws⟩ (Own.mk_star (Own.mk_pure ⟨h1,h2,h3⟩ h))
theorem lines_get {sl:Nat->Sl} {p:Nat} (hp:p<256) (A B:Asn) (R:List Asn):(A::B::(linesA sl L++R))[2+p]?=some (SlT intE (sl p) (lineOf L p)):=by
 rw[show 2+p=p+1+1 from by omega,List.getElem?_cons_succ,List.getElem?_cons_succ,List.getElem?_append_left (by simpa [linesA] using hp)];simp only[linesA,List.getElem?_map,List.getElem?_range hp,Option.map_some]
theorem lines_set {sl:Nat->Sl} {p:Nat} (hp:p<256) {s:Sl} {ns:List Int} {L':Qs} (hL:∀q,q<256->lineOf L' q=if q=p then ns else lineOf L q) (A B:Asn) (R:List Asn):
  (A::B::(linesA sl L++R)).set (2+p) (SlT intE s ns)=A::B::(linesA (updF sl p s) L'++R):=by
 rw[show 2+p=p+1+1 from by omega,List.set_cons_succ,List.set_cons_succ,List.set_append_left _ _ (by simpa [linesA] using hp)];congr 3;apply List.ext_getElem?;intro i;rw[List.getElem?_set];simp only[linesA,List.getElem?_map,List.length_map,List.length_range];by_cases hi:i<256
 ·rw[List.getElem?_range hi]
  by_cases e:p=i
  ·subst e;simp[hp,updF,hL p hp]
  ·have e':¬i=p:=fun h=>e h.symm
   simp[e,e',updF,hL i hi]
 ·rw[List.getElem?_eq_none (l:=List.range 256) (by simpa using hi),if_neg (by omega)];rfl
theorem ready_lines_note_spec {sl:Nat->Sl} {m:Nat} {ws:List Int} {p:Nat} {K:Pw} (h:Own B w0 w (BlkA b (qcells sl m ws)::R)) (hp:p<256) (hw:ws.length=4)
  (hK:∀w',Own B w0 w' (BlkA b (qcells sl m (setBits ws p (decide (0<(sl p).len))))::R)->K w'):C.qbd (some ⟨b,0,none⟩) (p:Int) K w:=by
 apply S.qbd0;obtain ⟨b1,b2,b3,b4,rfl⟩:=four ws hw;refine h.dr fun w1 h=>?_
 refine ⟨_,rfl,?_⟩;simp only[add_mk]
 have hwd:∀j v,([b1,b2,b3,b4].map (Value.int .u64))[j]?=some v->(qcells sl m [b1,b2,b3,b4])[257+j]?=some v:=fun j v hv=>by
  rw[qcells_word,←List.getElem?_map];exact hv
 refine ⟨_,h.ld0 0 rfl (hwd 0 _ rfl),_,h.ld0 0 rfl (hwd 1 _ rfl),_,h.ld0 0 rfl (hwd 2 _ rfl),_,h.ld0 0 rfl (hwd 3 _ rfl),_,rfl,by omega,by omega,?_⟩;simp only[add_mk,Int.toNat_natCast,Nat.mul_one,Nat.zero_add];refine ⟨sl p,h.ld0 0 rfl (qcells_line hp),?_,trivial⟩;refine words_Set_spec h (by omega) (by omega) fun r1 r2 r3 r4 w2 h hr=>?_
 refine ⟨_,rfl,?_,trivial⟩;simp only[add_mk,Nat.zero_add]
 have hlen:∀(ws:List Int) (j:Nat),j<ws.length->((qcells sl m ws)[257+j]?).isSome=true:=fun ws j hj=>by
  rw[qcells_word,gE hj];rfl
 refine h.st 0 rfl (hlen _ 0 (by simp)) rfl fun w3 h=>?_
 refine h.st 0 rfl (by rw[qcells_setw 0];exact hlen _ 1 (by simp)) rfl fun w4 h=>?_
 refine h.st 0 rfl (by rw[qcells_setw 0,qcells_setw 1];exact hlen _ 2 (by simp)) rfl fun w5 h=>?_
 refine h.st 0 rfl (by rw[qcells_setw 0,qcells_setw 1,qcells_setw 2];exact hlen _ 3 (by simp)) rfl fun w6 h=>?_
 have hd:decide (((sl p).len:Int)>0)=decide (0<(sl p).len):=by simp
 rw[hd,Int.toNat_natCast] at hr;refine hK _ ?_;rw[←hr]
 have e:((((qcells sl m [b1,b2,b3,b4]).set 257 (.y r1)).set 258 (.y r2)).set 259 (.y r3)).set 260 (.y r4)=qcells sl m [r1,r2,r3,r4]:=by
  rw[qcells_setw 0,qcells_setw 1,qcells_setw 2,qcells_setw 3];rfl
 rw[←e];exact h
theorem wh_mem {L:Qs} {n:Int} {p:Nat} (h:wh L n=some p):(p,n)∈L:=by
 unfold wh at h;obtain ⟨x,h1,rfl⟩:=Option.map_eq_some_iff.1 h;have h2:=List.find?_some h1;have h3:x.2=n:=by simpa using h2
 have:=List.mem_of_find?_eq_some h1;rw[←h3];exact this
theorem wh_none {L:Qs} {n:Int}:wh L n=none↔∀x∈L,x.2≠n:=by
 unfold wh;rw[Option.map_eq_none_iff,List.find?_eq_none];simp
theorem nodup_inj {L:Qs} (h:(L.map (·.2)).Nodup) {x y:Nat × Int} (hx:x∈L) (hy:y∈L) (e:x.2=y.2):x=y:=by
 induction L with
 |nil=>cases hx
 |cons a L ih=>
  simp only[List.map_cons,List.nodup_cons,List.mem_map,not_exists,not_and] at h;rcases List.mem_cons.1 hx with hx'|hx'
  ·rcases List.mem_cons.1 hy with hy'|hy'
   ·rw[hx',hy']
   ·rw[hx'] at e;exact absurd e.symm (h.1 y hy')
  ·rcases List.mem_cons.1 hy with hy'|hy'
   ·rw[hy'] at e;exact absurd e (h.1 x hx')
   ·exact ih h.2 hx' hy'
theorem wh_of_mem {L:Qs} (h:(L.map (·.2)).Nodup) {n:Int} {p:Nat} (hm:(p,n)∈L):wh L n=some p:=by
 cases hw:wh L n with
 |none=>exact absurd rfl (wh_none.1 hw _ hm)
 |some q=>have:=nodup_inj h (wh_mem hw) hm rfl;cases this;rfl
theorem mem_line {L:Qs} {p:Nat} {n:Int}:n∈lineOf L p↔(p,n)∈L:=by
 unfold lineOf;rw[List.mem_map];constructor
 ·rintro ⟨⟨a,b⟩,h1,h2⟩
  rw[List.mem_filter] at h1;have:a=p:=by simpa using h1.2
  subst this;have h2:b=n:=h2;subst h2;exact h1.1
 ·intro h;exact ⟨(p,n),List.mem_filter.2 ⟨h,by simp⟩,rfl⟩
theorem line_put (L:Qs) (p:Nat) (n:Int) (q:Nat):lineOf (L++ [(p,n)]) q=if q=p then lineOf L p++ [n] else lineOf L q:=by
 unfold lineOf;rw[List.filter_append,List.map_append];by_cases e:q=p
 ·subst e;simp
 ·have:(p==q)=false:=by simpa using fun h=>e h.symm
  simp[e,this]
theorem line_len (L:Qs) (p:Nat):(lineOf L p).length≤L.length:=by
 unfold lineOf;rw[List.length_map];exact List.length_filter_le _ _
theorem wh_put {L:Qs} {p:Nat} {n:Int} (hn:wh L n=none) (x:Int):wh (L++ [(p,n)]) x=if n=x then some p else wh L x:=by
 unfold wh;rw[List.find?_append];by_cases e:n=x
 ·subst e
  have:L.find? (fun y=>y.2==n)=none:=by have h:=hn;unfold wh at h;rwa [Option.map_eq_none_iff] at h
  rw[this];simp
 ·have:(n==x)=false:=by simpa using e
  rw[if_neg e];cases L.find? (fun y=>y.2==x)<;>simp[this]
theorem put_ok {L:Qs} {p:Nat} {n:Int} (h:QOk L) (hp:p<256) (hn:wh L n=none) (hf:L.length<1000000):QOk (L++ [(p,n)]):=by
 refine ⟨?_,fun x hx=>?_,by simp;omega⟩
 ·rw[List.map_append,List.nodup_append]
  refine ⟨h.nodup,by simp,fun a ha b hb=>?_⟩;simp only[List.map_cons,List.map_nil,List.mem_singleton] at hb;subst hb;obtain ⟨y,hy,rfl⟩:=List.mem_map.1 ha;exact wh_none.1 hn y hy
 ·rcases List.mem_append.1 hx with hx|hx
  ·exact h.prio x hx
  ·simp at hx;subst hx;exact hp
def putR (L:Qs) (p n:Int):Int × Qs:=if p<0∨256≤p then (1,L) else match wh L n with|some _=>(90,L)|none=>(0,L++ [(p.toNat,n)])
theorem ready_Queue_Put_spec {p n:Int} {K:Int->Pw} (h:Own B w0 w (QueueA b L::R)) (hf:L.length<1000000)
  (hK:∀w',Own B w0 w' (QueueA b (putR L p n).2::R)->K (putR L p n).1 w'):C.qbS (some ⟨b,0,none⟩) p n K w:=by
 apply S.qbS0;intro k hk;by_cases h0:p<0
 ·rw[show decide (p<0)=true from by simp[h0],cond_true]
  apply hk;rw[cond_true];have e:putR L p n=(1,L):=by unfold putR;rw[if_pos (.inl h0)]
  rw[e] at hK;exact hK w h
 rw[show decide (p<0)=false from by simp;omega,cond_false];apply hk;by_cases h1:256≤p
 ·rw[show decide (p≥256)=true from by simp;omega,cond_true]
  have e:putR L p n=(1,L):=by unfold putR;rw[if_pos (.inr h1)]
  rw[e] at hK;exact hK w h
 rw[show decide (p≥256)=false from by simp;omega,cond_false];obtain ⟨m,rfl⟩:=Int.eq_ofNat_of_zero_le (by omega:0≤p);have hm:m<256:=by omega
 have e:putR L (m:Int) n=match wh L n with|some _=>(90,L)|none=>(0,L++ [(m,n)]):=by
  unfold putR;rw[if_neg (by omega)];simp
 obtain ⟨x,hq,hby,hbits,h⟩:=h.queue;refine ⟨_,rfl,some x.m,h.ld 0 rfl qcells_map,?_⟩;cases hw:wh L n with
 |some q=>
  have hg:=hby n;rw[hw] at hg;refine ⟨(q:Int),true,(h.mlook Tryz.underlying291 (keyOk_int .i64 Tryz.underlying3) 1 rfl hg).1,?_⟩;rw[cond_true];rw[e,hw] at hK;exact hK w (h.mk_queue hq hby hbits)
 |none=>
  have hg:=hby n;rw[hw] at hg;refine ⟨0,false,(h.mlook0 Tryz.underlying291 (keyOk_int .i64 Tryz.underlying3) (fun w=>Tryz.zeroValue3 w) 1 rfl hg).1,?_⟩;rw[cond_false];rw[e,hw] at hK;refine h.dr fun w1 h=>?_
  refine ⟨_,rfl,by omega,by omega,?_⟩;simp only[add_mk,Int.toNat_natCast,Nat.mul_one,Nat.zero_add];refine ⟨x.sl m,h.ld0 0 rfl (qcells_line hm),_,rfl,h.al fun w2 h=>⟨?_,trivial⟩,trivial⟩;have hll:=line_len L m;refine app1_ints h (2+m) (lines_get hm _ _ _) (by omega) fun s' w3 hs' h=>?_
  rw[lines_set hm (line_put L m n · |> fun e=>fun _=>e) _ _ _] at h;refine ⟨by omega,by omega,?_,trivial⟩;simp only[add_mk,Nat.zero_add];refine h.st 0 rfl (by rw[qcells_line hm];rfl) rfl fun w4 h=>?_
  have h:Own B w0 w4 (BlkA b ((qcells x.sl x.m x.ws).set m (slV s'))::mapA x.m x.M::(linesA (updF x.sl m s') (L++ [(m,n)])++R)):=h;rw[qcells_set hm] at h;refine ⟨_,rfl,some x.m,h.ld 0 rfl qcells_map,?_⟩;refine h.mput Tryz.underlying291 (keyOk_int .i64 Tryz.underlying3) 1 rfl fun w5 h=>?_
  refine ⟨_,rfl,?_⟩;refine ready_lines_note_spec h hm hbits.1 fun w6 h=>?_
  refine hK w6 (Own.mk_queue (put_ok hq hm hw hf) ?_ ?_ h)
  ·intro y
   rw[mget_aput,wh_put hw,hby y];split<;>rfl
  ·have hlen:(updF x.sl m s' m).len=(lineOf L m).length+1:=by simp[updF,hs']
   rw[hlen,show decide (0<(lineOf L m).length+1)=true from by simp];refine (hbits.set hm true).congr fun i hi=>?_
   show (if i=m then true else some1 L i)=some1 (L++ [(m,n)]) i;unfold some1;rw[line_put];by_cases e:i=m
   ·simp[e]
   ·simp[e]
theorem linesP_get {sl:Nat->Sl} {p:Nat} (hp:p<256) (pre R:List Asn):(pre++(linesA sl L++R))[p+pre.length]?=some (SlT intE (sl p) (lineOf L p)):=by
 rw[Nat.add_comm,List.getElem?_append_right (by omega),Nat.add_sub_cancel_left,List.getElem?_append_left (by simpa [linesA] using hp)];simp only[linesA,List.getElem?_map,List.getElem?_range hp,Option.map_some]
theorem linesP_set {sl:Nat->Sl} {p:Nat} (hp:p<256) {s:Sl} {ns:List Int} {L':Qs} (hL:∀q,q<256->lineOf L' q=if q=p then ns else lineOf L q) (pre R:List Asn):
  (pre++(linesA sl L++R)).set (p+pre.length) (SlT intE s ns)=pre++(linesA (updF sl p s) L'++R):=by
 have h:=lines_set (L:=L) (L':=L') (sl:=sl) (s:=s) (ns:=ns) hp hL (PureA True) (PureA True) R;rw[show 2+p=p+1+1 from by omega,List.set_cons_succ,List.set_cons_succ] at h;rw[Nat.add_comm p pre.length,List.set_append_right _ _ (by omega),Nat.add_sub_cancel_left];congr 1;simp only[List.cons.injEq,true_and] at h;exact h
theorem ready_New_spec {K:Option Addr->Pw} (h:Own B w0 w R) (hK:∀b w',Own B w0 w' (QueueA b []::R)->K (some ⟨b,0,none⟩) w'):C.qdi K w:=by
 apply S.qdi0;refine h.alMap (Value.int .i64) (Value.int .i64) fun w1 h=>?_
 refine h.al fun w2 h=>?_
 refine hK _ w2 ?_
 have hlines:∀(n:Nat) (w:World) (R:List Asn),Own B w0 w R->Own B w0 w ((List.range n).map (fun p=>SlT intE ⟨none,0,0⟩ (lineOf [] p))++R):=by
  intro n
  induction n with
  |zero=>intro w R h;exact h
  |succ n ih=>
   intro w R h;rw[List.range_succ,List.map_append,List.append_assoc];exact ih w _ (Own.nilS h)
 have h:=h.blk_eq (l':=qcells (fun _=>⟨none,0,0⟩) w.heap.size [0,0,0,0]) (by kernel_rfl);refine Own.mk_queue (m:=w.heap.size) (M:=[]) (sl:=fun _=>⟨none,0,0⟩) (ws:=[0,0,0,0]) ⟨by simp,by simp,by simp⟩ (fun n=>rfl) (BitsOk.zero.congr fun i _=>rfl) ?_;exact ((hlines 256 w2 _ h).perm List.perm_middle).perm ((List.perm_middle).cons _)
theorem line_filter (L:Qs) (n:Int) (q:Nat):lineOf (L.filter fun x=>x.2 !=n) q=(lineOf L q).filter fun x=>x !=n:=by
 unfold lineOf;rw[List.filter_map,List.filter_filter,List.filter_filter];congr 1;apply List.filter_congr;intro x _;simp[Function.comp,Bool.and_comm]
theorem line_take {L:Qs} (h:(L.map (·.2)).Nodup) {n:Int} {p:Nat} (hw:wh L n=some p) (q:Nat):lineOf (L.filter fun x=>x.2 !=n) q=if q=p then (lineOf L p).filter (fun x=>x !=n) else lineOf L q:=by
 rw[line_filter];by_cases e:q=p
 ·subst e;simp
 ·rw[if_neg e,List.filter_eq_self]
  intro x hx;rw[mem_line] at hx;simp only[bne_iff_ne,ne_eq];intro e';subst e';have:=wh_of_mem h hx;rw[hw] at this;cases this;exact e rfl
theorem wh_take {L:Qs} (n x:Int):wh (L.filter fun y=>y.2 !=n) x=if n=x then none else wh L x:=by
 by_cases e:n=x
 ·subst e
  rw[if_pos rfl,wh_none];intro y hy;have:=(List.mem_filter.1 hy).2;simpa using this
 ·rw[if_neg e]
  unfold wh;congr 1;rw[List.find?_filter];congr 1;funext y;by_cases e2:y.2=x
  ·have:¬y.2=n:=fun h=>e (h.symm.trans e2)
   simp[e2,this];rw[e2] at this;exact this
  ·simp[e2]
def takeR (L:Qs) (n:Int):Int × Qs:=match wh L n with|some _=>(0,L.filter fun x=>x.2 !=n)|none=>(91,L)
theorem ready_Queue_Take_spec {n:Int} {K:Int->Pw} (h:Own B w0 w (QueueA b L::R))
  (hK:∀w',Own B w0 w' (QueueA b (takeR L n).2::R)->K (takeR L n).1 w'):C.qbF (some ⟨b,0,none⟩) n K w:=by
 apply S.qbF0;obtain ⟨x,hq,hby,hbits,h⟩:=h.queue;refine h.al fun w1 h=>?_
 refine h.dr fun w2 h=>?_
 refine ⟨_,rfl,some x.m,h.ld 1 rfl qcells_map,n,h.ld0 0 rfl rfl,?_,trivial⟩;cases hw:wh L n with
 |none=>
  have hg:=hby n;rw[hw] at hg;refine ⟨0,false,(h.mlook0 Tryz.underlying291 (keyOk_int .i64 Tryz.underlying3) (fun w=>Tryz.zeroValue3 w) 2 rfl hg).1,?_⟩;simp only[Bool.not_false,cond_true];have e:takeR L n=(91,L):=by unfold takeR;rw[hw]
  rw[e] at hK;exact hK w2 (h.drop.mk_queue hq hby hbits)
 |some p=>
  have hg:=hby n;rw[hw] at hg;have hp:p<256:=hq.prio _ (wh_mem hw);refine ⟨(p:Int),true,(h.mlook Tryz.underlying291 (keyOk_int .i64 Tryz.underlying3) 2 rfl hg).1,?_⟩;simp only[Bool.not_true,cond_false];have e:takeR L n=(0,L.filter fun x=>x.2 !=n):=by unfold takeR;rw[hw]
  rw[e] at hK;refine h.dr fun w3 h=>?_
  refine ⟨_,rfl,by omega,by omega,?_⟩;simp only[add_mk,Int.toNat_natCast,Nat.mul_one,Nat.zero_add];refine ⟨x.sl p,h.ld0 1 rfl (qcells_line hp),_,rfl,?_,trivial⟩;have hll:=line_len L p;have hfew:=hq.few;refine slices_DeleteFunc_int_int_spec (p:=fun y=>y==n) h (p+3) (linesP_get hp [_,_,_] R) (by omega) ?_ fun s' w4 h=>?_
  ·intro ys hys y w5 Q h hQ
   refine callV_mk ?_
   have hA:C.qbK y (Addr.mk w.heap.size 0 none) Q w5:=by
    apply S.qbK0;exact ⟨n,h.ld0 0 rfl rfl,hQ _ h⟩
   exact hA
  ·have h:Own B w0 w4 ([BlkA w.heap.size [.z n],BlkA b (qcells x.sl x.m x.ws),mapA x.m x.M]++(linesA (updF x.sl p s') (L.filter fun x=>x.2 !=n)++R)):=by
    have:=linesP_set (L:=L) (sl:=x.sl) hp (fun q _=>line_take hq.nodup hw q) [BlkA w.heap.size [.z n],BlkA b (qcells x.sl x.m x.ws),mapA x.m x.M] R (s:=s');rw[←this];exact h
   have hlen:=h.len (p+3) (linesP_get hp [_,_,_] R);have hMn:(x.M.map (·.1)).Nodup:=(h.take 2 rfl).head fun _ hG=>hG.2.nodup
   refine ⟨by omega,by omega,?_,trivial⟩;simp only[add_mk,Nat.zero_add];refine h.st 1 rfl (by rw[qcells_line hp];rfl) rfl fun w6 h=>?_
   have h:Own B w0 w6 (BlkA w.heap.size [.z n]::BlkA b ((qcells x.sl x.m x.ws).set p (slV s'))::mapA x.m x.M::(linesA (updF x.sl p s') (L.filter fun x=>x.2 !=n)++R)):=h;rw[qcells_set hp] at h;refine h.dr fun w7 h=>?_
   refine ⟨_,rfl,some x.m,h.ld 1 rfl qcells_map,n,h.ld0 0 rfl rfl,?_,trivial⟩;refine h.mdel Tryz.underlying291 (keyOk_int .i64 Tryz.underlying3) 2 rfl fun w8 h=>?_
   refine ⟨_,rfl,?_⟩;refine ready_lines_note_spec h.drop hp hbits.1 fun w9 h=>?_
   refine hK w9 (Own.mk_queue ⟨?_,fun y hy=>hq.prio y (List.mem_filter.1 hy).1,Nat.le_trans (List.length_filter_le _ _) hq.few⟩ ?_ ?_ h)
   ·exact List.Nodup.sublist (List.filter_sublist.map _) hq.nodup
   ·intro y
    rw[mget_adel hMn,wh_take,hby y];split<;>rfl
   ·rw[hlen]
    refine (hbits.set hp _).congr fun i hi=>?_
    show (if i=p then decide (0<(lineOf (L.filter fun x=>x.2 !=n) p).length) else some1 L i)=some1 (L.filter fun x=>x.2 !=n) i;unfold some1;by_cases e:i=p
    ·subst e
     rw[if_pos rfl];cases lineOf (L.filter fun x=>x.2 !=n) i<;>simp
    ·rw[if_neg e,line_take hq.nodup hw i,if_neg e]
def topO (L:Qs):Option Nat:=topB (some1 L) 256
def nextR (L:Qs):Option Int:=(topO L).bind fun p=>(lineOf L p).head?
theorem topO_out {L:Qs} {p:Nat} (h:topO L=some p):p<256/\∃n l,lineOf L p=n::l:=by
 obtain ⟨h1,h2,_⟩:=topB_out h;refine ⟨h1,?_⟩;unfold some1 at h2;cases hl:lineOf L p with
 |nil=>rw[hl] at h2;cases h2
 |cons n l=>exact ⟨n,l,rfl⟩
theorem ready_Queue_Next_spec {K:Int->Bool->Pw} (h:Own B w0 w (QueueA b L::R))
  (hK:∀w',Own B w0 w' (QueueA b L::R)->K ((nextR L).getD 0) (nextR L).isSome w'):C.qbB (some ⟨b,0,none⟩) K w:=by
 apply S.qbB0;obtain ⟨x,hq,hby,hbits,h⟩:=h.queue;obtain ⟨b1,b2,b3,b4,hws⟩:=four x.ws hbits.1
 have hwd:∀j v,([b1,b2,b3,b4].map (Value.int .u64))[j]?=some v->(qcells x.sl x.m x.ws)[257+j]?=some v:=fun j v hv=>by
  rw[qcells_word,←List.getElem?_map,hws];exact hv
 refine ⟨_,rfl,?_⟩;simp only[add_mk,Nat.zero_add];refine ⟨_,h.ld0 0 rfl (hwd 0 _ rfl),_,h.ld0 0 rfl (hwd 1 _ rfl),_,h.ld0 0 rfl (hwd 2 _ rfl),_,h.ld0 0 rfl (hwd 3 _ rfl),?_⟩;refine words_Top_spec h (by rw[←hws];exact hbits) fun w1 h=>?_
 unfold topI;cases ht:topB (some1 L) 256 with
 |none=>
  simp only;rw[show decide ((-1:Int)<0)=true from rfl,cond_true];have e:nextR L=none:=by unfold nextR topO;rw[ht];rfl
  rw[e] at hK;exact hK w1 (h.mk_queue hq hby hbits)
 |some p=>
  simp only;obtain ⟨hp,n,l,hl⟩:=topO_out ht;rw[show decide ((p:Int)<0)=false from by simp,cond_false];refine ⟨_,rfl,by omega,by omega,?_⟩;simp only[add_mk,Int.toNat_natCast,Nat.mul_one,Nat.zero_add];have hL:=linesP_get (L:=L) (sl:=x.sl) hp [BlkA b (qcells x.sl x.m x.ws),mapA x.m x.M] R;rw[hl] at hL;obtain ⟨a,ha,hc⟩:=h.getI (p+2) hL (j:=0) rfl;have hlen:=h.len (p+2) hL;refine ⟨x.sl p,h.ld0 0 rfl (qcells_line hp),a,ha,by omega,by rw[hlen];simp,n,hc,?_⟩;have e:nextR L=some n:=by unfold nextR topO;rw[ht];simp[hl]
  rw[e] at hK;exact hK w1 (h.mk_queue hq hby hbits)
def lineI (L:Qs) (p:Int):List Int:=if p<0∨256≤p then [] else lineOf L p.toNat
end
end Go.Proofs.YtogmbmdbgkopjaaGreat.Th
end
section
set_option maxRecDepth 100000
namespace Go.Proofs.YtogmbmdbgkopjaaGreat
open Go Go.Vc Go.Proofs
theorem S.qcO0 {a K w}:Fr (C.qcO a K w) (∀b:Bool->Pw,(∀(c:Bool) (d:World),(bif c then (K none 1 d) else (Al d (.cells #[.z (-1)] 3) fun b=>C.qak ⟨some (.mk d.heap.size 0 none),1,1⟩ a (fun b c=>Al c (.cells #[.slice none 0 0, .slice none 0 0, .slice b.a b.len b.cap] 195) fun b=>∀d:Int->Pw,(∀(b:Int) (e:World),(bif decide (b<a) then (Dr e fun a=>∃e,some (Addr.mk c.heap.size 0 none)=some e/\∃f:Sl,a.cell? (e.add 1)=some (.slice f.a f.len f.cap)/\(C.qdi (fun a g=>g.cell? (e.add 1)=some (.slice f.a f.len f.cap)/\(Al g (.cells #[.pointer a] 196) fun a=>(∃e h,AppR Tryz.prog [193,193] 193 (.slice f.a f.len f.cap) (.slice (some (.mk g.heap.size 0 none)) 1 1) a e h/\∃a,some (Addr.mk c.heap.size 0 none)=some a/\(St h (a.add 1) (.slice e.a e.len e.cap) fun a=>d (IntKind.i64.wrap (b+1)) a)/\True)/\True)/\True) a)/\True) else (K (some (.mk c.heap.size 0 none)) 0 e))->d b e)->d 0 b) b))->b c d)->(bif decide (a<1) then (b true w) else (b (decide (a>8)) w))):=okT Tryz.func44 (.v (.y (.y (.r (some [(10,.c .b)]) .done) (.x .w)) (.v (.y (.v (.x (.t (some [(17,.c (.i .i64))]) (.v (.y .w (.x (.x (.z (.o 0 254 (.o 1 96 (.o 2 96 (.o 3 96 (.hold 4 96 895 (.e 5 (.e 6 (.e 7 (.o 8 0 (.o 9 0 (.e 10 .done)))))))))))))))) .u))) .w))))
theorem S.qC0 {a b c K w}:Fr (C.qC a b c K w) (∀d:Bool->Pw,(∀(e:Bool) (f:World),(bif e then (K 0 1 f) else (∃d,a=some d/\∃e:Sl,f.cell? d=some (.slice e.a e.len e.cap)/\bif decide ((e.len:Int)≥64) then (K 0 2 f) else (∃d,a=some d/\∃e:Sl,f.cell? d=some (.slice e.a e.len e.cap)/\Al f (.cells #[.z 0, .z b, .z c, .z 5, .y 0, .y 0, .y 0, .y 0, .y 0, .y 0, .y 0, .y 0] 53) fun b=>∃c d,AppR Tryz.prog [149,149] 149 (.slice e.a e.len e.cap) (.slice (some (.mk f.heap.size 0 none)) 1 1) b c d/\∃b,a=some b/\St d b (.slice c.a c.len c.cap) fun b=>∃c,a=some c/\∃a:Sl,b.cell? c=some (.slice a.a a.len a.cap)/\K (IntKind.i64.wrap ((a.len:Int)-1)) 0 b)))->d e f)->(C.qcp b (fun b e=>bif !b then (d true e) else (C.qP a c (fun a b=>d (!a) b) e)) w)):=okT Tryz.func48 (.v (.y (.x (.y (.r (some [(8,.c .b)]) .done) (.y .w (.v (.x .w))))) (.v .w)))
theorem S.qv0 {a b K w}:Fr (C.qv a b K w) (C.qs a b (fun c d=>bif c.isNone then (K 100 d) else (∀e:Bool->Pw,(∀(c:Bool) (d:World),(bif c then (K 101 d) else (C.qw a b (fun a=>K 0 a) d))->e c d)->(∃a,c=some a/\∃b,d.cell? a=some (.z b)/\bif b==1 then (e true d) else (∃a,c=some a/\∃b,d.cell? a=some (.z b)/\e (b==2) d)))) w):=okT Tryz.func49 (.v (.v (.y (.x (.v (.y .w (.y (.r (some [(12,.c .b)]) .done) (.x .w))))) (.v .w))))
theorem S.qD0 {a b K w}:Fr (C.qD a b K w) (C.qP a b (fun c d=>bif !c then (K 0 false d) else (C.qO a b (fun c d e=>∃f,a=some f/\∃g:Sl,e.cell? (f.add 1)=some (.slice g.a g.len g.cap)/\∃f,g.a=some f/\0≤b/\b<(g.len:Int)/\∃g,e.cell? (f.add (b.toNat*1))=some (.pointer g)/\C.qbB g (fun e f g=>∀h:Bool->Pw,(∀(f:Bool) (g:World),(bif f then (K c d g) else (∀f:Pw,(∀c:World,(C.qg a e 2 (fun c=>∃d,a=some d/\∃a:Sl,c.cell? (d.add 2)=some (.slice a.a a.len a.cap)/\∃d,a.a=some d/\0≤b/\b<(a.len:Int)/\St c (d.add (b.toNat*1)) (.z e) fun a=>K e true a) c)->f c)->(bif d then (C.qg a c 1 (fun b=>C.qw a c (fun a=>f a) b) g) else (f g))))->h f g)->(Dr g fun b=>bif !f then (h true b) else (bif d then (∃d,a=some d/\∃f:Sl,b.cell? d=some (.slice f.a f.len f.cap)/\∃d,f.a=some d/\0≤e/\e<(f.len:Int)/\∃f,b.cell? ((d.add (e.toNat*12)).add 1)=some (.z f)/\∃d,a=some d/\∃a:Sl,b.cell? d=some (.slice a.a a.len a.cap)/\∃d,a.a=some d/\0≤c/\c<(a.len:Int)/\∃a,b.cell? ((d.add (c.toNat*12)).add 1)=some (.z a)/\h (decide (f≤a)) b) else (h false b)))) e) d)) w):=okT Tryz.func50 (.v (.y (.v (.x .w)) (.v (.v (.y (.y .g1 (.x .w)) (.y (.v (.t (some []) .w .u)) (.v (.v .w))))))))
theorem S.qaj0 {a b K w}:Fr (C.qaj a b K w) (C.qO a b (fun c d e=>bif !d then (K false e) else (∃d,a=some d/\∃f:Sl,e.cell? d=some (.slice f.a f.len f.cap)/\∃d,f.a=some d/\0≤c/\c<(f.len:Int)/\St e ((d.add (c.toNat*12)).add 3) (.z 5) fun d=>C.qg a c 1 (fun d=>C.qw a c (fun c=>C.qD a b (fun _ _ c=>K true c) c) d) d)) w):=okT Tryz.func52 (.v (.v (.y (.v (.x .w)) (.v (.v (.v (.v .w)))))))
theorem S.qO0 {a b K w}:Fr (C.qO a b K w) (∀c:Bool->Pw,(∀(d:Bool) (e:World),(bif d then (K 0 false e) else (∃c,a=some c/\∃a:Sl,e.cell? (c.add 2)=some (.slice a.a a.len a.cap)/\∃c,a.a=some c/\0≤b/\b<(a.len:Int)/\∃a,e.cell? (c.add (b.toNat*1))=some (.z a)/\K a true e))->c d e)->(C.qP a b (fun d e=>bif !d then (c true e) else (∃d,a=some d/\∃a:Sl,e.cell? (d.add 2)=some (.slice a.a a.len a.cap)/\∃d,a.a=some d/\0≤b/\b<(a.len:Int)/\∃a,e.cell? (d.add (b.toNat*1))=some (.z a)/\c (a==(-1)) e)) w)):=okT Tryz.func55 (.v (.y (.y (.r (some [(19,.c .b)]) .done) (.x .w)) .w))
theorem S.qY0 {a b K w}:Fr (C.qY a b K w) (Al w (.cells #[.z 0, .z 0, .z 0, .z 0, .y 0, .y 0, .y 0, .y 0, .y 0, .y 0, .y 0, .y 0] 53) fun c=>C.qs a b (fun a b=>bif a.isNone then (StL b (.mk w.heap.size 0 none) 0 [.z 0, .z 0, .z 0, .z 0, .y 0, .y 0, .y 0, .y 0, .y 0, .y 0, .y 0, .y 0] fun a=>LdL a (.mk w.heap.size 0 none) 0 [.o, .o, .o, .o, .u, .u, .u, .u, .u, .u, .u, .u] fun (b c d e f g h i j k l m:Int)=>K b c d e f g h i j k l m 100 a) else (∃c,a=some c/\LdL b c 0 [.o, .o, .o, .o, .u, .u, .u, .u, .u, .u, .u, .u] fun (a c d e f g h i j k l m:Int)=>StL b (.mk w.heap.size 0 none) 0 [.z a, .z c, .z d, .z e, .y f, .y g, .y h, .y i, .y j, .y k, .y l, .y m] fun a=>LdL a (.mk w.heap.size 0 none) 0 [.o, .o, .o, .o, .u, .u, .u, .u, .u, .u, .u, .u] fun (b c d e f g h i j k l m:Int)=>K b c d e f g h i j k l m 0 a)) c):=okT Tryz.func56 .g45
theorem S.qcp0 {a K w}:Fr (C.qcp a K w) (bif decide (a≥0) then (K (decide (a<256)) w) else (K false w)):=okT Tryz.func108 (.v .w)
theorem S.qP0 {a b K w}:Fr (C.qP a b K w) (bif decide (b≥0) then (∃c,a=some c/\∃a:Sl,w.cell? (c.add 1)=some (.slice a.a a.len a.cap)/\K (decide (b<(a.len:Int))) w) else (K false w)):=okT Tryz.func109 (.v .w)
theorem S.qs0 {a b K w}:Fr (C.qs a b K w) (∀c:Bool->Pw,(∀(d:Bool) (e:World),(bif d then (K none e) else (∃c,a=some c/\∃a:Sl,e.cell? c=some (.slice a.a a.len a.cap)/\∃c,a.a=some c/\0≤b/\b<(a.len:Int)/\K (some (c.add (b.toNat*12))) e))->c d e)->(bif decide (b<0) then (c true w) else (∃d,a=some d/\∃a:Sl,w.cell? d=some (.slice a.a a.len a.cap)/\c (decide (b≥(a.len:Int))) w))):=okT Tryz.func110 .g31
theorem S.qw0 {a b K w}:Fr (C.qw a b K w) (C.qs a b (fun c d=>∃e,c=some e/\St d e (.z 1) fun d=>Dr d fun d=>∃e,a=some e/\∃a:Sl,d.cell? (e.add 1)=some (.slice a.a a.len a.cap)/\∃e,c=some e/\∃f,d.cell? (e.add 2)=some (.z f)/\∃e,a.a=some e/\0≤f/\f<(a.len:Int)/\∃a,d.cell? (e.add (f.toNat*1))=some (.pointer a)/\∃e,c=some e/\∃c,d.cell? (e.add 1)=some (.z c)/\(C.qbS a c b (fun _ b=>K b) d)/\True) w):=okT Tryz.func111 (.v (.v (.z (.o 0 31984 (.o 1 31984 (.o 2 31984 (.o 3 31984 (.o 4 31744 (.o 5 31744 (.o 6 31744 (.o 7 31744 (.o 8 31744 (.o 9 31744 .g22)))))))))))))
theorem S.qg0 {a b c K w}:Fr (C.qg a b c K w) (C.qs a b (fun d e=>∃f,d=some f/\∃g,e.cell? f=some (.z g)/\∀f:Pw,(∀a:World,(∃b,d=some b/\St a b (.z c) fun a=>K a)->f a)->(bif g==1 then (Dr e fun c=>∃e,a=some e/\∃a:Sl,c.cell? (e.add 1)=some (.slice a.a a.len a.cap)/\∃e,d=some e/\∃d,c.cell? (e.add 2)=some (.z d)/\∃e,a.a=some e/\0≤d/\d<(a.len:Int)/\∃a,c.cell? (e.add (d.toNat*1))=some (.pointer a)/\(C.qbF a b (fun _ b=>f b) c)/\True) else (bif g==2 then (Dr e fun b=>∃c,a=some c/\∃a:Sl,b.cell? (c.add 2)=some (.slice a.a a.len a.cap)/\∃c,d=some c/\∃d,b.cell? (c.add 2)=some (.z d)/\∃c,a.a=some c/\0≤d/\d<(a.len:Int)/\(St b (c.add (d.toNat*1)) (.z (-1)) fun a=>f a)/\True) else (f e)))) w):=okT Tryz.func113 (.v (.x (.v (.x (.v (.t (some []) (.z (.o 0 1264 (.o 1 1264 (.o 2 1264 (.o 3 1264 (.o 4 1024 (.o 5 1024 (.o 6 1024 (.o 7 1024 (.o 8 1024 (.o 9 1024 (.o 10 0 (.e 11 .done))))))))))))) (.v (.x (.z (.o 0 240 (.o 1 240 (.o 2 240 (.o 3 240 .g29)))))))))))))
theorem S.qu0 {a b c d K w}:Fr (C.qu a b c d K w) (C.qs a b (fun a b=>∀e:Int->Pw,(∀(b:Int) (f:World),(bif b !=0 then (K b f) else (∃b,a=some b/\0≤c/\c<8/\St f ((b.add 4).add (c.toNat*1)) (.y d) fun a=>K 0 a))->e b f)->(C.qbh a.isNone 100 (fun a b=>bif decide (c<0) then (C.qbh true 1 (fun b c=>Al c (.cells #[.z a, .z b] 23) fun a=>C.qbg ⟨some (.mk c.heap.size 0 none),2,2⟩ (fun a b=>e a b) a) b) else (C.qbh (decide (c≥8)) 1 (fun b c=>Al c (.cells #[.z a, .z b] 23) fun a=>C.qbg ⟨some (.mk c.heap.size 0 none),2,2⟩ (fun a b=>e a b) a) b)) b)) w):=okT Tryz.func148 (.v (.v (.y (.y (.r (some [(10,.c (.i .i64))]) .done) (.v (.x .w))) (.v .w))))
theorem S.qA0 {a b K w}:Fr (C.qA a b K w) (C.qs a b (fun c d=>bif c.isNone then (K 100 d) else (∃e,c=some e/\∃c,d.cell? e=some (.z c)/\bif c==0 then (K 101 d) else (C.qg a b 0 (fun a=>K 0 a) d))) w):=okT Tryz.func214 .g36
theorem S.qax0 {a b c K w}:Fr (C.qax a b c K w) (C.qs a b (fun d e=>C.qbh d.isNone 100 (fun e f=>C.qcp c (fun f g=>C.qbh (!f) 1 (fun f g=>Al g (.cells #[.z e, .z f] 23) fun e=>C.qbg ⟨some (.mk g.heap.size 0 none),2,2⟩ (fun e f=>bif e !=0 then (K e f) else (∃e,d=some e/\∃g,f.cell? e=some (.z g)/\bif g !=1 then (∃a,d=some a/\St f (a.add 1) (.z c) fun a=>K 0 a) else (C.qg a b 1 (fun e=>∃f,d=some f/\St e (f.add 1) (.z c) fun c=>C.qw a b (fun a=>K 0 a) c) f))) e) g) f) e) w):=okT Tryz.func215 (.v (.v (.y (.v (.v (.x .w))) (.y (.v (.x (.v .w))) (.v (.v (.v .w)))))))
theorem S.qbg0 {a K w}:Fr (C.qbg a K w) (C.qt a (.func (.func 312) #[] #[]) (fun b c=>bif decide (b<0) then (K 0 c) else (∃d,a.a=some d/\0≤b/\b<(a.len:Int)/\∃a,c.cell? (d.add (b.toNat*1))=some (.z a)/\K a c)) w):=okT Tryz.func237 .g45
theorem S.qbh0 {a b K w}:Fr (C.qbh a b K w) (bif a then (K b w) else (K 0 w)):=okT Tryz.func238 .g51
theorem S.qX0 {a b K w}:Fr (C.qX a b K w) (C.qs a b (fun c d=>bif c.isNone then (K 100 d) else (∃e,c=some e/\∃c,d.cell? e=some (.z c)/\bif c !=2 then (K 101 d) else (C.qg a b 3 (fun a=>K 0 a) d))) w):=okT Tryz.func297 .g36
theorem S.qct0 {a K w}:Fr (C.qct a K w) (K (a !=0) w):=okT Tryz.func312 (.v .w)
end Go.Proofs.YtogmbmdbgkopjaaGreat
end
section
set_option maxRecDepth 8000
namespace Go.Proofs.YtogmbmdbgkopjaaGreat.Th
open Go Go.Vc Go.Proofs
structure Thd where
 st:Int
 pr:Int
 co:Int
 le:Int
 rg:Nat->Int
def thE:EncT Thd:=⟨12,fun t=>[.z t.st, .z t.pr, .z t.co, .z t.le, .y (t.rg 0), .y (t.rg 1), .y (t.rg 2), .y (t.rg 3), .y (t.rg 4), .y (t.rg 5), .y (t.rg 6), .y (t.rg 7)],fun _=>rfl,fun x v h=>by
 simp only[List.mem_cons,List.not_mem_nil,or_false] at h;rcases h with rfl|rfl|rfl|rfl|rfl|rfl|rfl|rfl|rfl|rfl|rfl|rfl<;>rfl,by decide⟩
def ptrE:EncT Nat:=⟨1,fun b=>[.pointer (some ⟨b,0,none⟩)],fun _=>rfl,fun x v h=>by simp at h;subst h;rfl,Nat.le_refl _⟩
structure Mt where
 ths:List Thd
 qs:List Qs
 runs:List Int
def ThrA (b:Nat) (m:Mt):Asn:=ExA fun p:(Sl × Sl × Sl)× List Nat=>StarA (PureA (p.2.length=m.qs.length)::BlkA b [slV p.1.1,slV p.1.2.1,slV p.1.2.2]::SlT thE p.1.1 m.ths::SlT ptrE p.1.2.1 p.2::SlT intE p.1.2.2 m.runs::List.zipWith QueueA p.2 m.qs)
theorem qz_set {b:Nat} {L':Qs}:∀(bs:List Nat) (qs:List Qs) (c:Nat),bs[c]?=some b->(List.zipWith QueueA bs qs).set c (QueueA b L')=List.zipWith QueueA bs (qs.set c L')
 | [],_,_,h=>by simp at h
 |_::_,[],c,_=>by simp
 |b0::bs,q::qs,0,h=>by simp at h;subst h;rfl
 |b0::bs,q::qs,c+1,h=>by simp[qz_set bs qs c (by simpa using h)]
section
variable {B:Nat} {w0 w:World} {R L:List Asn} {b:Nat} {m:Mt}
theorem _root_.Go.Vc.Own.thr (h:Own B w0 w (ThrA b m::R)):∃l q r bs,bs.length=m.qs.length/\Own B w0 w (BlkA b [slV l,slV q,slV r]::SlT thE l m.ths::SlT ptrE q bs::SlT intE r m.runs::(List.zipWith QueueA bs m.qs++R)):=by
 obtain ⟨⟨⟨l,q,r⟩,bs⟩,h⟩:=h.ex;obtain ⟨h1,h⟩:=Own.pure h.star;exact ⟨l,q,r,bs,h1,h⟩
theorem _root_.Go.Vc.Own.mk_thr {l q r:Sl} {bs:List Nat} (h1:bs.length=m.qs.length) (h:Own B w0 w (BlkA b [slV l,slV q,slV r]::SlT thE l m.ths::SlT ptrE q bs::SlT intE r m.runs::(List.zipWith QueueA bs m.qs++R))):Own B w0 w (ThrA b m::R):=
 Own.mk_ex ((l,q,r),bs) (Own.mk_star (Own.mk_pure h1 h))
theorem _root_.Go.Vc.Own.qout {A1 A2 A3 A4:Asn} {bs:List Nat} {qs:List Qs} {c b1:Nat} {Q:Qs} (hb:bs[c]?=some b1) (hq:qs[c]?=some Q) (h:Own B w0 w (A1::A2::A3::A4::(List.zipWith QueueA bs qs++R))):
  Own B w0 w (QueueA b1 Q::A1::A2::A3::A4::(List.zipWith QueueA bs qs++R).eraseIdx c):=by
 have h1:=(List.getElem?_eq_some_iff.1 hb).1;have h2:=(List.getElem?_eq_some_iff.1 hq).1
 have hz:(List.zipWith QueueA bs qs++R)[c]?=some (QueueA b1 Q):=by
  rw[List.getElem?_append_left (by simp;omega),List.getElem?_zipWith,hb,hq]
 exact h.take (c+4) (by simpa using hz)
theorem _root_.Go.Vc.Own.qin {A1 A2 A3 A4:Asn} {bs:List Nat} {qs:List Qs} {c b1:Nat} {Q:Qs} (hb:bs[c]?=some b1) (hc:c<qs.length) (h:Own B w0 w (QueueA b1 Q::A1::A2::A3::A4::(List.zipWith QueueA bs qs++R).eraseIdx c)):
  Own B w0 w (A1::A2::A3::A4::(List.zipWith QueueA bs (qs.set c Q)++R)):=by
 have h1:=(List.getElem?_eq_some_iff.1 hb).1
 have h2:Own B w0 w (QueueA b1 Q::(A1::A2::A3::A4::(List.zipWith QueueA bs qs++R)).eraseIdx (c+4)):=by
  simpa only[List.eraseIdx_cons_succ] using h
 have h3:=h2.put (by simp;omega);simp only[List.set_cons_succ] at h3;rw[List.set_append_left _ _ (by simp;omega),qz_set bs qs c hb] at h3;exact h3
def zTh:Thd:=⟨0,0,0,0,fun _=>0⟩
def Mt.th (m:Mt) (n:Int):Thd:=if n<0 then zTh else (m.ths[n.toNat]?).getD zTh
def Mt.q (m:Mt) (n:Int):Qs:=if n<0 then [] else (m.qs[n.toNat]?).getD []
def Mt.run (m:Mt) (n:Int):Int:=if n<0 then -1 else (m.runs[n.toNat]?).getD (-1)
def Mt.setTh (m:Mt) (n:Int) (t:Thd):Mt:={ m with ths:=m.ths.set n.toNat t}
def Mt.setQ (m:Mt) (n:Int) (Q:Qs):Mt:={ m with qs:=m.qs.set n.toNat Q}
def Mt.setR (m:Mt) (n v:Int):Mt:={ m with runs:=m.runs.set n.toNat v}
def Mt.isT (m:Mt) (n:Int):Bool:=decide (0≤n)&&decide (n<m.ths.length)
def Mt.isC (m:Mt) (n:Int):Bool:=decide (0≤n)&&decide (n<m.qs.length)
def Mt.lineUp (m:Mt) (n:Int):Mt:=(m.setTh n { m.th n with st:=1}).setQ (m.th n).co (putR (m.q (m.th n).co) (m.th n).pr n).2
def Mt.leave0 (m:Mt) (n:Int):Mt:=if (m.th n).st=1 then m.setQ (m.th n).co (takeR (m.q (m.th n).co) n).2 else if (m.th n).st=2 then m.setR (m.th n).co (-1) else m
def Mt.leave (m:Mt) (n s:Int):Mt:=(m.leave0 n).setTh n { m.th n with st:=s}
def Mt.pick (m:Mt) (c:Int):Mt:=match nextR (m.q c) with
 |none=>m
 |some n=>if m.run c= -1 then (m.leave n 2).setR c n else
  if (m.th n).pr≤(m.th (m.run c)).pr then m else (((m.leave (m.run c) 1).lineUp (m.run c)).leave n 2).setR c n
structure MOk (m:Mt):Prop where
 few:m.ths.length≤64
 cores:m.runs.length=m.qs.length
 most:m.qs.length≤8
 core:∀t∈m.ths,0≤t.co/\t.co<m.qs.length
 left:∀t∈m.ths,t.le=t.le
 run:∀n∈m.runs,n= -1∨(0≤n/\n<m.ths.length)
 line:∀Q∈m.qs,∀x∈Q,0≤x.2/\x.2<m.ths.length
theorem pigeon:∀(n:Nat) (l:List Int),l.Nodup->(∀x∈l,0≤x/\x<(n:Int))->l.length≤n
 |0,l,_,h=>by
  cases l with
  |nil=>simp
  |cons a l=>have:=h a (by simp);omega
 |n+1,l,hn,h=>by
  have h1:=pigeon n (l.filter fun x=>x !=(n:Int)) (hn.sublist List.filter_sublist) fun x hx=>by
   have h2:=List.mem_filter.1 hx;have h3:=h x h2.1;have h4:x≠(n:Int):=by simpa using h2.2
   omega
  have h2:l.length≤(l.filter fun x=>x !=(n:Int)).length+1:=by
   clear h1 h
   induction l with
   |nil=>simp
   |cons a l ih=>
    rw[List.nodup_cons] at hn;by_cases e:a=(n:Int)
    ·have:l.filter (fun x=>x !=(n:Int))=l:=by
      rw[List.filter_eq_self];intro x hx;have:x≠(n:Int):=fun e2=>hn.1 (by rw[e,←e2];exact hx)
      simpa using this
     rw[List.filter_cons_of_neg (by simp[e]),this,List.length_cons];exact Nat.le_refl _
    ·rw[List.filter_cons_of_pos (by simpa using e),List.length_cons,List.length_cons]
     have:=ih hn.2;omega
  omega
theorem th_get {n:Int} {t:Thd} (h0:0≤n) (h:m.ths[n.toNat]?=some t):m.th n=t:=by unfold Mt.th;rw[if_neg (by omega),h];rfl
theorem isT_get {n:Int} (h:m.isT n=true):0≤n/\n<m.ths.length/\m.ths[n.toNat]?=some (m.th n):=by
 unfold Mt.isT at h;simp only[Bool.and_eq_true,decide_eq_true_eq] at h;obtain ⟨h0,h1⟩:=h;refine ⟨h0,h1,?_⟩;have e:=gE (l:=m.ths) (i:=n.toNat) (by omega);rw[e,th_get h0 e]
theorem q_get {n:Int} (h0:0≤n) (h1:n<m.qs.length):m.qs[n.toNat]?=some (m.q n):=by
 have e:=gE (l:=m.qs) (i:=n.toNat) (by omega);unfold Mt.q;rw[if_neg (by omega),e];rfl
theorem r_get {n:Int} (h0:0≤n) (h1:n<m.runs.length):m.runs[n.toNat]?=some (m.run n):=by
 have e:=gE (l:=m.runs) (i:=n.toNat) (by omega);unfold Mt.run;rw[if_neg (by omega),e];rfl
theorem thr_prio_spec {n:Int} {K:Bool->Pw} (hK:K (decide (0≤n)&&decide (n<256)) w):C.qcp n K w:=by
 apply S.qcp0;refine cdec (fun e=>?_) (fun e=>?_)
 ·rw[decide_eq_true (show 0≤n from e),Bool.true_and] at hK;exact hK
 ·rw[decide_eq_false (show ¬0≤n from e),Bool.false_and] at hK;exact hK
theorem thr_when_spec {so:Bool} {e:Int} {K:Int->Pw} (hK:K (if so then e else 0) w):C.qbh so e K w:=by
 apply S.qbh0;cases so<;>exact hK
theorem thr_core_o {l q r:Sl} {bs:List Nat} {n:Int} {A2 A4:Asn} {K:Bool->Pw} (hb:bs.length=m.qs.length) (h:Own B w0 w (BlkA b [slV l,slV q,slV r]::A2::SlT ptrE q bs::A4::L)) (hK:K (m.isC n) w):C.qP (some ⟨b,0,none⟩) n K w:=by
 apply S.qP0;have hl:=h.lenc q;unfold Mt.isC at hK;refine cdec (fun e=>?_) (fun e=>?_)
 ·(repeat first|refine ⟨_,h.ldc rfl,?_⟩|refine exs ?_)
  rw[decide_eq_true (show 0≤n from e),Bool.true_and] at hK;rw[hl,hb];exact hK
 ·rw[decide_eq_false (show ¬0≤n from e),Bool.false_and] at hK;exact hK
theorem thr_one_o {l q r:Sl} {n:Int} {A3 A4:Asn} {K:Option Addr->Pw} (h:Own B w0 w (BlkA b [slV l,slV q,slV r]::SlT thE l m.ths::A3::A4::L)) (hK0:m.isT n=false->K none w) (hK1:∀a,m.isT n=true->l.a=some a->K (some (a.add (n.toNat*12))) w):C.qs (some ⟨b,0,none⟩) n K w:=by
 apply S.qs0;have hl:=h.lenc l;unfold Mt.isT at hK0 hK1;intro k hk;refine cdec (fun e=>?_) (fun e=>?_)
 ·refine hk _ _ (cbT rfl ?_)
  exact hK0 (by rw[decide_eq_false (show ¬0≤n by omega),Bool.false_and])
 ·(repeat first|refine ⟨_,h.ldc rfl,?_⟩|refine exs ?_)
  refine hk _ _ ?_;refine cdec (fun e2=>?_) (fun e2=>?_)
  ·exact hK0 (by rw[decide_eq_false (show ¬n<(m.ths.length:Int) by omega),Bool.and_false])
  ·(repeat first|refine ⟨_,h.ldc rfl,?_⟩|refine exs ?_)
   obtain ⟨x,hx⟩:∃x,m.ths[n.toNat]?=some x:=⟨_,gE (by omega)⟩
   refine h.ixc (s:=l) (j:=n.toNat) (by omega) hx fun a ha h0 hc=>?_
   exact hK1 a (by rw[decide_eq_true (show 0≤n by omega),decide_eq_true (show n<(m.ths.length:Int) by omega)];rfl) ha
end
section
variable {B:Nat} {w0 w:World} {R L:List Asn} {b:Nat} {m:Mt}
theorem MOk.setTh (hm:MOk m) {n:Int} {t:Thd} (h1:0≤t.co/\t.co<m.qs.length) (h2:t.le=t.le):MOk (m.setTh n t):=by
 unfold Mt.setTh;refine ⟨by rw[List.length_set];exact hm.few,hm.cores,hm.most,fun x hx=>?_,fun x hx=>rfl,by rw[List.length_set];exact hm.run,by rw[List.length_set];exact hm.line⟩;rcases List.mem_or_eq_of_mem_set hx with h|h
 ·exact hm.core x h
 ·rw[h];exact h1
theorem MOk.setQ (hm:MOk m) {n:Int} {Q:Qs} (h1:∀x∈Q,0≤x.2/\x.2<m.ths.length):MOk (m.setQ n Q):=by
 unfold Mt.setQ;refine ⟨hm.few,by rw[List.length_set];exact hm.cores,by rw[List.length_set];exact hm.most,by rw[List.length_set];exact hm.core,hm.left,hm.run,fun x hx=>?_⟩;rcases List.mem_or_eq_of_mem_set hx with h|h
 ·exact hm.line x h
 ·rw[h];exact h1
theorem MOk.setR (hm:MOk m) {n v:Int} (h1:v= -1∨(0≤v/\v<m.ths.length)):MOk (m.setR n v):=by
 unfold Mt.setR;refine ⟨hm.few,by rw[List.length_set];exact hm.cores,hm.most,hm.core,hm.left,fun x hx=>?_,hm.line⟩;rcases List.mem_or_eq_of_mem_set hx with h|h
 ·exact hm.run x h
 ·rw[h];exact h1
theorem MOk.qline (hm:MOk m) {c:Int}:∀x∈m.q c,0≤x.2/\x.2<m.ths.length:=fun x hx=>by
 unfold Mt.q at hx;split at hx
 ·simp at hx
 ·cases e:m.qs[c.toNat]? with
  |none=>rw[e] at hx;simp at hx
  |some Q=>rw[e] at hx;exact hm.line Q (List.mem_of_getElem? e) x hx
theorem MOk.th (hm:MOk m) {n:Int} (hn:m.isT n=true):(0≤(m.th n).co/\(m.th n).co<m.qs.length)/\((m.th n).le=(m.th n).le):=by
 have:=List.mem_of_getElem? (isT_get hn).2.2;exact ⟨hm.core _ this,hm.left _ this⟩
theorem putR_ids {Q:Qs} {p n:Int} {k:Int} (h:∀x∈Q,0≤x.2/\x.2<k) (hn:0≤n/\n<k):∀x∈(putR Q p n).2,0≤x.2/\x.2<k:=by
 unfold putR;split
 ·exact h
 ·split
  ·exact h
  ·intro x hx
   rcases List.mem_append.1 hx with h2|h2
   ·exact h x h2
   ·simp at h2;subst h2;exact hn
theorem takeR_ids {Q:Qs} {n:Int} {k:Int} (h:∀x∈Q,0≤x.2/\x.2<k):∀x∈(takeR Q n).2,0≤x.2/\x.2<k:=by
 unfold takeR;split
 ·exact fun x hx=>h x (List.mem_filter.1 hx).1
 ·exact h
theorem MOk.lineUp (hm:MOk m) {n:Int} (hn:m.isT n=true):MOk (m.lineUp n):=by
 have ht:=hm.th hn;have hb:=isT_get hn;unfold Mt.lineUp;refine (hm.setTh (t:={ m.th n with st:=1}) ht.1 ht.2).setQ ?_;have:(m.setTh n { m.th n with st:=1}).ths.length=m.ths.length:=by unfold Mt.setTh;simp
 rw[this];exact putR_ids hm.qline ⟨hb.1,hb.2.1⟩
theorem MOk.leave0 (hm:MOk m) {n:Int}:MOk (m.leave0 n):=by
 unfold Mt.leave0;split
 ·exact hm.setQ (takeR_ids hm.qline)
 ·split
  ·exact hm.setR (.inl rfl)
  ·exact hm
theorem leave0_len {n:Int}:(m.leave0 n).ths=m.ths/\(m.leave0 n).qs.length=m.qs.length:=by
 unfold Mt.leave0 Mt.setQ Mt.setR;split
 ·simp
 ·split<;>simp
theorem MOk.leave (hm:MOk m) {n s:Int} (hn:m.isT n=true):MOk (m.leave n s):=by
 have ht:=hm.th hn;unfold Mt.leave;refine hm.leave0.setTh (t:={ m.th n with st:=s}) ?_ ht.2;rw[leave0_len.2];exact ht.1
theorem ids_len {Q:Qs} {k:Nat} (hq:QOk Q) (h:∀x∈Q,0≤x.2/\x.2<(k:Int)):Q.length≤k:=by
 have:=pigeon k (Q.map (·.2)) hq.nodup fun x hx=>by
  obtain ⟨y,hy,e⟩:=List.mem_map.1 hx;rw[←e];exact h y hy
 simpa using this
theorem lineUp_isT {n k:Int}:(m.lineUp n).isT k=m.isT k:=by unfold Mt.lineUp Mt.isT Mt.setQ Mt.setTh;simp
theorem leave_isT {n s k:Int}:(m.leave n s).isT k=m.isT k:=by unfold Mt.leave Mt.isT Mt.setTh;simp[leave0_len.1]
theorem lineUp_isC {n k:Int}:(m.lineUp n).isC k=m.isC k:=by unfold Mt.lineUp Mt.isC Mt.setQ Mt.setTh;simp
theorem leave_isC {n s k:Int}:(m.leave n s).isC k=m.isC k:=by unfold Mt.leave Mt.isC Mt.setTh;simp[leave0_len.2]
theorem stTh {l:Sl} {A1 A3 A4:Asn} {ths:List Thd} {n:Int} {t t':Thd} {c:Nat} {v:Value} {a:Addr} {k:Pw} (h:Own B w0 w (A1::SlT thE l ths::A3::A4::L)) (h0:0≤n) (hx:ths[n.toNat]?=some t) (ha:l.a=some a)
  (he:thE.enc t'=(thE.enc t).set c v) (hc:c<12) (hv:v.oneCell'=true) (hk:∀w',Own B w0 w' (A1::SlT thE l (ths.set n.toNat t')::A3::A4::L)->k w'):St w ((a.add (n.toNat*12)).add c) v k:=
 Own.stFc (s:=l) (E:=thE) (xs:=ths) (i:=n) (j:=n.toNat) (c:=c) (x:=t) h t' (by omega) hx ha he hc hv fun w' h=>hk w' h.up1
theorem ldTh {l:Sl} {A1 A3 A4:Asn} {ths:List Thd} {n:Int} {t:Thd} {c:Nat} {v:Value} {a:Addr} (h:Own B w0 w (A1::SlT thE l ths::A3::A4::L)) (h0:0≤n) (hx:ths[n.toNat]?=some t) (ha:l.a=some a)
  (he:(thE.enc t)[c]?=some v):w.cell? ((a.add (n.toNat*12)).add c)=some v:=
 (h.ixa (s:=l) (E:=thE) (i:=n) (j:=n.toNat) (by omega) hx ha).2 c v he
theorem thr_lineUp_spec {n:Int} {K:Pw} (hm:MOk m) (hn:m.isT n=true) (h:Own B w0 w (ThrA b m::R)) (hK:∀w',Own B w0 w' (ThrA b (m.lineUp n)::R)->K w'):C.qw (some ⟨b,0,none⟩) n K w:=by
 apply S.qw0;obtain ⟨l,q,r,bs,hbs,h⟩:=h.thr;obtain ⟨n0,n1,hx⟩:=isT_get hn;obtain ⟨⟨c0,c1⟩,_⟩:=hm.th hn;obtain ⟨b1,hb1⟩:∃x,bs[(m.th n).co.toNat]?=some x:=⟨_,gE (by omega)⟩
 refine thr_one_o h (fun e=>by rw[hn] at e;cases e) fun a _ ha=>?_
 refine ⟨_,rfl,?_⟩;refine stTh (c:=0) (t':={ m.th n with st:=1}) h n0 hx ha rfl (by decide) rfl fun w h=>?_
 have hx2:(m.ths.set n.toNat { m.th n with st:=1})[n.toNat]?=some { m.th n with st:=1}:=by rw[List.getElem?_set,if_pos rfl,if_pos (by omega)]
 refine h.dr fun w h=>?_
 refine ⟨_,rfl,q,h.ldd rfl,_,rfl,_,ldTh (c:=2) h n0 hx2 ha rfl,?_⟩;refine h.ixc (s:=q) (j:=(m.th n).co.toNat) (by show (m.th n).co=_;omega) hb1 fun a2 ha2 h0 hc=>⟨_,h0 _ rfl,?_⟩
 refine ⟨_,rfl,_,ldTh (c:=1) h n0 hx2 ha rfl,Go.Vc.a2 ?_⟩;have h:=h.qout hb1 (q_get c0 c1);have hqok:QOk (m.q (m.th n).co):=by obtain ⟨_,e,_⟩:=h.queue;exact e
 have hlen:=ids_len hqok hm.qline;have hfew:=hm.few;refine ready_Queue_Put_spec h (by omega) fun w h=>?_
 have h:=h.qin (qs:=m.qs) hb1 (by omega);exact hK w (Own.mk_thr (m:=m.lineUp n) (bs:=bs) (by unfold Mt.lineUp Mt.setQ Mt.setTh;simpa using hbs) h)
theorem thr_leave_spec {n s:Int} {K:Pw} (hm:MOk m) (hn:m.isT n=true) (h:Own B w0 w (ThrA b m::R)) (hK:∀w',Own B w0 w' (ThrA b (m.leave n s)::R)->K w'):C.qg (some ⟨b,0,none⟩) n s K w:=by
 apply S.qg0;obtain ⟨l,q,r,bs,hbs,h⟩:=h.thr;obtain ⟨n0,n1,hx⟩:=isT_get hn;obtain ⟨⟨c0,c1⟩,_⟩:=hm.th hn;have hcr:=hm.cores;obtain ⟨b1,hb1⟩:∃x,bs[(m.th n).co.toNat]?=some x:=⟨_,gE (by omega)⟩
 refine thr_one_o h (fun e=>by rw[hn] at e;cases e) fun a _ ha=>?_
 refine ⟨_,rfl,_,ldTh (c:=0) h n0 hx ha rfl,?_⟩;intro k hk
 have fin:∀w,Own B w0 w (BlkA b [slV l,slV q,slV r]::SlT thE l m.ths::SlT ptrE q bs::SlT intE r (m.leave0 n).runs::(List.zipWith QueueA bs (m.leave0 n).qs++R))->k w:=fun w h=>by
  apply hk;refine ⟨_,rfl,?_⟩;refine stTh (c:=0) (t':={ m.th n with st:=s}) h n0 hx ha rfl (by decide) rfl fun w h=>?_
  refine hK w (Own.mk_thr (m:=m.leave n s) (l:=l) (q:=q) (r:=r) (bs:=bs) ?_ ?_)
  ·show bs.length=(m.leave0 n).qs.length
   rw[leave0_len.2];exact hbs
  ·have e:(m.leave n s).ths=m.ths.set n.toNat { m.th n with st:=s}:=by unfold Mt.leave Mt.setTh;rw[leave0_len.1]
   rw[e];exact h
 refine ceq (fun e=>?_) (fun e=>?_)
 ·have e1:m.leave0 n=m.setQ (m.th n).co (takeR (m.q (m.th n).co) n).2:=by unfold Mt.leave0;rw[if_pos e]
  rw[e1] at fin;refine h.dr fun w h=>?_
  refine ⟨_,rfl,q,h.ldd rfl,_,rfl,_,ldTh (c:=2) h n0 hx ha rfl,?_⟩;refine h.ixc (s:=q) (j:=(m.th n).co.toNat) (by show (m.th n).co=_;omega) hb1 fun a2 ha2 h0 hc=>⟨_,h0 _ rfl,Go.Vc.a2 ?_⟩
  have h:=h.qout hb1 (q_get c0 c1);refine ready_Queue_Take_spec h fun w h=>?_
  exact fin w (h.qin (qs:=m.qs) hb1 (by omega))
 refine ceq (fun e2=>?_) (fun e2=>?_)
 ·have e1:m.leave0 n=m.setR (m.th n).co (-1):=by unfold Mt.leave0;rw[if_neg e,if_pos e2]
  rw[e1] at fin;refine h.dr fun w h=>?_
  refine ⟨_,rfl,r,h.ldd rfl,_,rfl,_,ldTh (c:=2) h n0 hx ha rfl,?_⟩;refine h.ixc (s:=r) (j:=(m.th n).co.toNat) (by show (m.th n).co=_;omega) (r_get (m:=m) c0 (by omega)) fun a2 ha2 h0 hc=>Go.Vc.a2 ?_
  refine Own.stEc (s:=r) (E:=intE) (xs:=m.runs) (i:=(m.th n).co) (j:=(m.th n).co.toNat) h (-1) (by omega) (by omega) ha2 rfl fun w h=>?_
  exact fin w h.up3.up3.up3
 ·have e1:m.leave0 n=m:=by unfold Mt.leave0;rw[if_neg e,if_neg e2]
  rw[e1] at fin;exact fin w h
end
section
variable {B:Nat} {w0 w:World} {R L:List Asn} {b:Nat} {m:Mt}
def Mt.runs? (m:Mt) (c:Int):Option Int:=if m.isC c=true/\m.run c≠ -1 then some (m.run c) else none
theorem isC_iff {c:Int}:m.isC c=true↔0≤c/\c<m.qs.length:=by unfold Mt.isC;simp
theorem thr_Runs_spec {c:Int} {K:Int->Bool->Pw} (hm:MOk m) (h:Own B w0 w (ThrA b m::R)) (hK:∀w',Own B w0 w' (ThrA b m::R)->K ((m.runs? c).getD 0) (m.runs? c).isSome w'):C.qO (some ⟨b,0,none⟩) c K w:=by
 apply S.qO0;have hcr:=hm.cores;obtain ⟨l,q,r,bs,hbs,h⟩:=h.thr;intro k hk;refine thr_core_o hbs h ?_;unfold Mt.runs? at hK;cases hc:m.isC c with
 |false=>
  rw[if_neg (by rw[hc];simp)] at hK;refine cbT rfl (hk _ _ (cbT rfl ?_));exact hK w (Own.mk_thr hbs h)
 |true=>
  obtain ⟨c0,c1⟩:=isC_iff.1 hc;refine cbF rfl ?_
  repeat first|refine ⟨_,h.ldc rfl,?_⟩|refine exs ?_
  refine h.ixc (s:=r) (j:=c.toNat) (by omega) (r_get (m:=m) c0 (by omega)) fun a ha h0 hcc=>⟨_,h0 _ rfl,?_⟩
  refine hk _ _ ?_;refine ceq (fun e=>?_) (fun e=>?_)
  ·rw[if_neg (by simp[e])] at hK
   exact hK w (Own.mk_thr hbs h)
  ·rw[if_pos ⟨hc,e⟩] at hK
   repeat first|refine ⟨_,h.ldc rfl,?_⟩|refine exs ?_
   refine h.ixc (s:=r) (j:=c.toNat) (by omega) (r_get (m:=m) c0 (by omega)) fun a ha h0 hcc=>⟨_,h0 _ rfl,?_⟩
   exact hK w (Own.mk_thr hbs h)
theorem thr_Get_spec {n:Int} {K:Int->Int->Int->Int->Int->Int->Int->Int->Int->Int->Int->Int->Int->Pw} (h:Own B w0 w (ThrA b m::R))
  (hK:∀w' t,t=(if m.isT n then m.th n else zTh)->Own B w0 w' (ThrA b m::R)->K t.st t.pr t.co t.le (t.rg 0) (t.rg 1) (t.rg 2) (t.rg 3) (t.rg 4) (t.rg 5) (t.rg 6) (t.rg 7) (if m.isT n then 0 else 100) w'):C.qY (some ⟨b,0,none⟩) n K w:=by
 apply S.qY0;refine h.al fun w1 h=>?_
 generalize w.heap.size=c at h⊢;have h:Own B w0 w1 (ThrA b m::BlkA c [.z 0, .z 0, .z 0, .z 0, .y 0, .y 0, .y 0, .y 0, .y 0, .y 0, .y 0, .y 0]::R):=h.up1;obtain ⟨l,q,r,bs,hbs,h⟩:=h.thr;have back:∀{w:World} {cs:List Value},Own B w0 w (BlkA c cs::BlkA b [slV l,slV q,slV r]::SlT thE l m.ths::SlT ptrE q bs::SlT intE r m.runs::(List.zipWith QueueA bs m.qs++R))->Own B w0 w (ThrA b m::R):=fun h=>Own.mk_thr hbs h.drop
 have mid:∀{w:World} {A:Asn},Own B w0 w (BlkA b [slV l,slV q,slV r]::SlT thE l m.ths::SlT ptrE q bs::SlT intE r m.runs::(List.zipWith QueueA bs m.qs++A::R))->Own B w0 w (A::BlkA b [slV l,slV q,slV r]::SlT thE l m.ths::SlT ptrE q bs::SlT intE r m.runs::(List.zipWith QueueA bs m.qs++R)):=fun {w A} h=>by
  refine h.perm ?_;have:List.Perm (List.zipWith QueueA bs m.qs++A::R) (A::(List.zipWith QueueA bs m.qs++R)):=List.perm_middle;refine ((((this.cons _).cons _).cons _).cons _).trans ?_;exact (List.perm_middle (l₁:=[BlkA b [slV l,slV q,slV r],SlT thE l m.ths,SlT ptrE q bs,SlT intE r m.runs]))
 refine thr_one_o h (fun e=>?_) fun a e ha=>?_
 ·have h:=mid h
  refine cbT rfl ?_;refine h.stLc rfl rfl fun w h=>?_
  refine h.lc_12 rfl ?_;have:=hK w zTh (by rw[e];rfl) (back h);rw[e] at this;exact this
 ·obtain ⟨n0,n1,hx⟩:=isT_get e
  have hc:=(h.ixa (s:=l) (E:=thE) (i:=n) (j:=n.toNat) (by omega) hx ha).2;have h2:=mid h;refine cbF rfl ?_;refine ⟨_,rfl,?_⟩;refine ⟨_,hc 0 _ rfl,_,hc 1 _ rfl,_,hc 2 _ rfl,_,hc 3 _ rfl,_,hc 4 _ rfl,_,hc 5 _ rfl,_,hc 6 _ rfl,_,hc 7 _ rfl,_,hc 8 _ rfl,_,hc 9 _ rfl,_,hc 10 _ rfl,_,hc 11 _ rfl,?_⟩;refine h2.stLc rfl rfl fun w h=>?_
  refine h.lc_12 rfl ?_;have:=hK w (m.th n) (by rw[e];rfl) (back h);rw[e] at this;exact this
theorem thr_Resume_spec {n:Int} {K:Int->Pw} (hm:MOk m) (h:Own B w0 w (ThrA b m::R))
  (hK0:m.isT n=false->∀w',Own B w0 w' (ThrA b m::R)->K 100 w') (hK1:m.isT n=true->(m.th n).st=1∨(m.th n).st=2->∀w',Own B w0 w' (ThrA b m::R)->K 101 w')
  (hK2:m.isT n=true->(m.th n).st≠1->(m.th n).st≠2->∀w',Own B w0 w' (ThrA b (m.lineUp n)::R)->K 0 w'):C.qv (some ⟨b,0,none⟩) n K w:=by
 apply S.qv0;obtain ⟨l,q,r,bs,hbs,h⟩:=h.thr;refine thr_one_o h (fun e=>?_) fun a e ha=>?_
 ·refine cbT rfl ?_
  exact hK0 e w (Own.mk_thr hbs h)
 ·obtain ⟨n0,n1,hx⟩:=isT_get e
  refine cbF rfl ?_;intro k hk;refine ⟨_,rfl,_,ldTh (c:=0) h n0 hx ha rfl,?_⟩;refine ceq (fun e1=>?_) (fun e1=>?_)
  ·refine hk _ _ (cbT rfl ?_)
   exact hK1 e (.inl e1) w (Own.mk_thr hbs h)
  refine ⟨_,rfl,_,ldTh (c:=0) h n0 hx ha rfl,hk _ _ ?_⟩;refine ceq (fun e2=>?_) (fun e2=>?_)
  ·exact hK1 e (.inr e2) w (Own.mk_thr hbs h)
  ·refine thr_lineUp_spec hm e (Own.mk_thr hbs h) fun w h=>?_
   exact hK2 e e1 e2 w h
theorem thr_Block_spec {n:Int} {K:Int->Pw} (hm:MOk m) (h:Own B w0 w (ThrA b m::R))
  (hK0:m.isT n=false->∀w',Own B w0 w' (ThrA b m::R)->K 100 w') (hK1:m.isT n=true->(m.th n).st≠2->∀w',Own B w0 w' (ThrA b m::R)->K 101 w')
  (hK2:m.isT n=true->(m.th n).st=2->∀w',Own B w0 w' (ThrA b (m.leave n 3)::R)->K 0 w'):C.qX (some ⟨b,0,none⟩) n K w:=by
 apply S.qX0;obtain ⟨l,q,r,bs,hbs,h⟩:=h.thr;refine thr_one_o h (fun e=>?_) fun a e ha=>?_
 ·refine cbT rfl ?_
  exact hK0 e w (Own.mk_thr hbs h)
 ·obtain ⟨n0,n1,hx⟩:=isT_get e
  refine cbF rfl ?_;refine ⟨_,rfl,_,ldTh (c:=0) h n0 hx ha rfl,?_⟩;refine cne (fun e1=>?_) (fun e1=>?_)
  ·exact hK1 e e1 w (Own.mk_thr hbs h)
  ·refine thr_leave_spec hm e (Own.mk_thr hbs h) fun w h=>?_
   exact hK2 e e1 w h
theorem thr_Suspend_spec {n:Int} {K:Int->Pw} (hm:MOk m) (h:Own B w0 w (ThrA b m::R))
  (hK0:m.isT n=false->∀w',Own B w0 w' (ThrA b m::R)->K 100 w') (hK1:m.isT n=true->(m.th n).st=0->∀w',Own B w0 w' (ThrA b m::R)->K 101 w')
  (hK2:m.isT n=true->(m.th n).st≠0->∀w',Own B w0 w' (ThrA b (m.leave n 0)::R)->K 0 w'):C.qA (some ⟨b,0,none⟩) n K w:=by
 apply S.qA0;obtain ⟨l,q,r,bs,hbs,h⟩:=h.thr;refine thr_one_o h (fun e=>?_) fun a e ha=>?_
 ·refine cbT rfl ?_
  exact hK0 e w (Own.mk_thr hbs h)
 ·obtain ⟨n0,n1,hx⟩:=isT_get e
  refine cbF rfl ?_;refine ⟨_,rfl,_,ldTh (c:=0) h n0 hx ha rfl,?_⟩;refine ceq (fun e1=>?_) (fun e1=>?_)
  ·exact hK1 e e1 w (Own.mk_thr hbs h)
  ·refine thr_leave_spec hm e (Own.mk_thr hbs h) fun w h=>?_
   exact hK2 e e1 w h
end
section
variable {B:Nat} {w0 w:World} {R L:List Asn} {b:Nat} {m:Mt}
theorem next_mem {Q:Qs} {n:Int} (h:nextR Q=some n):∃x∈Q,x.2=n:=by
 unfold nextR at h;obtain ⟨p,hp,hl⟩:=Option.bind_eq_some_iff.1 h;have hm:=List.mem_of_head? hl;unfold lineOf at hm;obtain ⟨x,hx,e⟩:=List.mem_map.1 hm;exact ⟨x,(List.mem_filter.1 hx).1,e⟩
theorem _root_.Go.Vc.Own.qsame {A1 A2 A3 A4:Asn} {bs:List Nat} {c:Int} {b1:Nat} (hb:bs[c.toNat]?=some b1) (c0:0≤c) (c1:c<m.qs.length) (h:Own B w0 w (QueueA b1 (m.q c)::A1::A2::A3::A4::(List.zipWith QueueA bs m.qs++R).eraseIdx c.toNat)):
  Own B w0 w (A1::A2::A3::A4::(List.zipWith QueueA bs m.qs++R)):=by
 have h3:=h.qin (qs:=m.qs) hb (by omega)
 have e:m.qs.set c.toNat (m.q c)=m.qs:=by
  apply List.ext_getElem?;intro t;rw[List.getElem?_set];by_cases e:c.toNat=t
  ·subst e;rw[if_pos rfl,if_pos (by omega),q_get c0 c1]
  ·rw[if_neg e]
 rw[e] at h3;exact h3
def Mt.pickC (m:Mt) (c:Int):Mt:=if m.isC c then m.pick c else m
theorem setR_isC {n v k:Int}:(m.setR n v).isC k=m.isC k:=rfl
theorem setR_isT {n v k:Int}:(m.setR n v).isT k=m.isT k:=rfl
theorem MOk.runT (hm:MOk m) {c o:Int} (h:m.runs? c=some o):m.isC c=true/\m.run c=o/\o≠ -1/\m.isT o=true:=by
 unfold Mt.runs? at h;split at h
 ·rename_i hc
  cases h;obtain ⟨c0,c1⟩:=isC_iff.1 hc.1;have hcr:=hm.cores;have:=hm.run _ (List.mem_of_getElem? (r_get (m:=m) c0 (by omega)));refine ⟨hc.1,rfl,hc.2,?_⟩;rcases this with e|e
  ·exact absurd e hc.2
  ·unfold Mt.isT;simp;exact e
 ·cases h
theorem MOk.nextT (hm:MOk m) {c n:Int} (h:nextR (m.q c)=some n):0≤n/\m.isT n=true:=by
 obtain ⟨x,hx,e⟩:=next_mem h;have:=hm.qline x hx;rw[e] at this;refine ⟨this.1,?_⟩;unfold Mt.isT;simp;exact this
theorem thr_Pick_spec {c:Int} {K:Int->Bool->Pw} (hm:MOk m) (h:Own B w0 w (ThrA b m::R)) (hK:∀w',Own B w0 w' (ThrA b (m.pickC c)::R)->K (((m.pickC c).runs? c).getD 0) ((m.pickC c).runs? c).isSome w'):C.qD (some ⟨b,0,none⟩) c K w:=by
 apply S.qD0;have hcr:=hm.cores;obtain ⟨l,q,r,bs,hbs,h⟩:=h.thr;refine thr_core_o hbs h ?_;unfold Mt.pickC at hK;cases hc:m.isC c with
 |false=>
  rw[hc] at hK;have e:m.runs? c=none:=by unfold Mt.runs?;rw[if_neg (by rw[hc];simp)]
  refine cbT rfl ?_;have:=hK w (Own.mk_thr hbs h);simp only[Bool.false_eq_true,if_false,e] at this;exact this
 |true=>
  rw[hc] at hK;simp only[if_true] at hK;obtain ⟨c0,c1⟩:=isC_iff.1 hc;refine cbF rfl ?_;refine thr_Runs_spec (c:=c) hm (Own.mk_thr hbs h) fun w h=>?_
  obtain ⟨l,q,r,bs,hbs,h⟩:=h.thr;obtain ⟨b1,hb1⟩:∃x,bs[c.toNat]?=some x:=⟨_,gE (by omega)⟩
  refine ⟨_,rfl,q,h.ldd rfl,?_⟩;refine h.ixc (s:=q) (j:=c.toNat) (by omega) hb1 fun a2 ha2 h0 hcc=>⟨_,h0 _ rfl,?_⟩
  refine ready_Queue_Next_spec (h.qout hb1 (q_get c0 c1)) fun w h=>?_
  have h:=h.qsame hb1 c0 c1;intro k15 hk15;refine h.dr fun w h=>?_
  have stay:∀w,m.pick c=m->Own B w0 w (ThrA b m::R)->k15 true w:=fun w e h=>by
   rw[e] at hK;exact hk15 _ _ (cbT rfl (hK w h))
  cases hn:nextR (m.q c) with
  |none=>
   refine cbT rfl ?_;exact stay w (by unfold Mt.pick;rw[hn]) (Own.mk_thr hbs h)
  |some n=>
   rw[hn] at hk15;obtain ⟨n0,hnT⟩:=hm.nextT hn;obtain ⟨_,n1,hnx⟩:=isT_get hnT;refine cbF rfl ?_
   have fin:∀(m1:Mt) (w:World),MOk m1->m1.isT n=true->m1.isC c=true->m.pick c=(m1.leave n 2).setR c n->Own B w0 w (ThrA b m1::R)->
     C.qg (some ⟨b,0,none⟩) n 2 (fun w20=>
      ∃a21:Addr,some (⟨b,0,none⟩:Addr)=some a21/\
      ∃runs22:Sl,w20.cell? (a21.add 2)=some (.slice runs22.a runs22.len runs22.cap)/\
      ∃a23:Addr,runs22.a=some a23/\0≤c/\c<(runs22.len:Int)/\
      St w20 (a23.add (c.toNat*1)) (.z n) fun w24=>K n true w24) w:=fun m1 w hm1 hT1 hC1 hp h=>by
    refine thr_leave_spec hm1 hT1 h fun w h=>?_
    have hm2:=hm1.leave (s:=2) hT1;have hcr2:=hm2.cores;have hC2:(m1.leave n 2).isC c=true:=by rw[leave_isC];exact hC1
    obtain ⟨d0,d1⟩:=isC_iff.1 hC2;obtain ⟨l,q,r,bs,hbs,h⟩:=h.thr;refine ⟨_,rfl,r,h.ldd rfl,?_⟩;refine h.ixc (s:=r) (j:=c.toNat) (by omega) (r_get (m:=m1.leave n 2) c0 (by omega)) fun a ha h0 hcc=>?_
    refine Own.stEc (s:=r) (E:=intE) (xs:=(m1.leave n 2).runs) (i:=c) (j:=c.toNat) h n (by omega) (by omega) ha rfl fun w h=>?_
    have h2:Own B w0 w (ThrA b ((m1.leave n 2).setR c n)::R):=Own.mk_thr (m:=(m1.leave n 2).setR c n) hbs h.up3.up3.up3
    have hrun:((m1.leave n 2).setR c n).runs? c=some n:=by
     unfold Mt.runs?
     have e:((m1.leave n 2).setR c n).run c=n:=by
      unfold Mt.run Mt.setR;rw[if_neg (by omega)];simp only;rw[List.getElem?_set,if_pos rfl,if_pos (by omega)];rfl
     rw[e,if_pos ⟨by rw[setR_isC];exact hC2,by omega⟩]
    rw[hp] at hK;have:=hK w h2;rw[hrun] at this;exact this
   cases hr:m.runs? c with
   |none=>
    have hr1:m.run c= -1:=by
     unfold Mt.runs? at hr;split at hr
     ·cases hr
     ·rename_i hh
      by_cases e:m.run c= -1
      ·exact e
      ·exact absurd ⟨hc,e⟩ hh
    rw[hr] at hk15;refine cbF rfl (hk15 _ _ (cbF rfl ?_));intro k18 hk18;refine cbF rfl (hk18 _ ?_);exact fin m w hm hnT hc (by unfold Mt.pick;rw[hn];simp only;rw[if_pos hr1]) (Own.mk_thr hbs h)
   |some o=>
    obtain ⟨_,hro,ho1,hoT⟩:=hm.runT hr;obtain ⟨o0,o1,hox⟩:=isT_get hoT;rw[hr] at hk15;refine cbT rfl ?_;refine ⟨_,rfl,l,h.ldc rfl,?_⟩;refine h.ixc (s:=l) (i:=n) (j:=n.toNat) (by omega) hnx fun a ha h0 hcc=>⟨_,hcc 1 _ rfl,_,rfl,l,h.ldc rfl,?_⟩
    refine h.ixc (s:=l) (i:=o) (j:=o.toNat) (by omega) hox fun a ha h0 hcc=>⟨_,hcc 1 _ rfl,?_⟩
    refine (fun (hstay:(m.th n).pr≤(m.th o).pr->k15 true w) (hgo:¬(m.th n).pr≤(m.th o).pr->k15 false w)=>?_) ?_ ?_
    ·show k15 (decide ((m.th n).pr≤(m.th o).pr)) w
     by_cases e:(m.th n).pr≤(m.th o).pr
     ·rw[decide_eq_true e];exact hstay e
     ·rw[decide_eq_false e];exact hgo e
    ·intro e
     exact stay w (by unfold Mt.pick;rw[hn];simp only;rw[if_neg (by rw[hro];exact ho1),hro,if_pos e]) (Own.mk_thr hbs h)
    ·intro e
     refine hk15 _ _ (cbF rfl ?_);intro k18 hk18;refine cbT rfl ?_;refine thr_leave_spec hm hoT (Own.mk_thr hbs h) fun w h=>?_
     have hm2:=hm.leave (s:=1) hoT;have hT2:(m.leave o 1).isT o=true:=by rw[leave_isT];exact hoT
     refine thr_lineUp_spec hm2 hT2 h fun w h=>?_
     refine hk18 _ ?_
     exact fin ((m.leave o 1).lineUp o) w (hm2.lineUp hT2) (by rw[lineUp_isT,leave_isT];exact hnT) (by rw[lineUp_isC,leave_isC];exact hc) (by
      unfold Mt.pick;rw[hn];simp only;rw[if_neg (by rw[hro];exact ho1),hro,if_neg e]) h
end
end Go.Proofs.YtogmbmdbgkopjaaGreat.Th
end
