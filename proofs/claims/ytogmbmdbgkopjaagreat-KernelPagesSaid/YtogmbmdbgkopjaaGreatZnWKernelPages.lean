/- What the row rests on: the law, at the model and walked. -/
import Derived.Test.YtogmbmdbgkopjaaGreatZn8
set_option linter.unusedVariables false
set_option linter.unusedSimpArgs false
set_option linter.unusedSectionVars false
section
set_option maxRecDepth 8000
namespace Go.Proofs.YtogmbmdbgkopjaaGreat
open Go Go.Vc Go.Proofs
section
variable {N:Nat} {k:Ker} {d:Dng}
theorem freeK_yes {w:Int} {n:Nat} (h0:0≤w) (h1:w+n≤64) (h:∀i:Nat,i<n->k.H (0,w+(i:Int))=none):k.freeK w n=0:=by
 unfold Ker.freeK;rw[if_neg (by omega),if_neg];rw[List.any_eq_true];rintro ⟨i,hi,hc⟩;have hi:=List.mem_range.1 hi;unfold Ker.capAt at hc;rw[h i hi] at hc;simp only[Option.getD_none,ite_self] at hc;revert hc;decide
end
end Go.Proofs.YtogmbmdbgkopjaaGreat
end
section
set_option maxRecDepth 100000
namespace Go.Proofs.YtogmbmdbgkopjaaGreat
open Go Go.Vc Go.Proofs
def bk0:Ker:=Ker.bootK 1 12 0 [5]
theorem bk0_b:BOk 1 4 bk0:=(bootK_ok (c:=1) (bits:=12) (lines:=0) (prios:=[5]) (by decide) (by decide) (by decide) rfl (by decide)).1
end Go.Proofs.YtogmbmdbgkopjaaGreat
end
section
set_option maxRecDepth 8000
namespace Go.Proofs.YtogmbmdbgkopjaaGreat
open Go Go.Vc Go.Proofs
section
variable {B:Nat} {w0 w:World} {R L:List Asn}
theorem boot12 {lines:Nat} {s:Sl} {K:Option Addr->Int->World->Prop} (hl:lines≤8) (hs:s.len=1) (h:Vc.Own B w0 w (SlT intE s [5]::R))
  (hK:∀b w',Vc.Own B w0 w' (KerA b (Ker.bootK 1 12 lines [5])::R)->K (some ⟨b,0,none⟩) 0 w'):C.qH 1 12 (lines:Int) s K w:=by
 have hr:Ker.rightB 1 12 (lines:Int) [5]=true:=decide_eq_true ⟨by decide,by decide,by decide,by decide,by omega,by omega,rfl,by decide⟩;refine Boot_spec (s:=s) (prios:=[5]) h (by decide) (fun e=>by rw[hr] at e;cases e) fun _ b w h=>?_
 have h:Vc.Own B w0 w (KerA b (Ker.bootK 1 12 lines [5])::SlT intE s [5]::R):=by
  have e:(lines:Int).toNat=lines:=Int.toNat_natCast lines;rw[e] at h;exact h
 exact hK b w h.sub
end
end Go.Proofs.YtogmbmdbgkopjaaGreat
end
section
set_option maxRecDepth 100000
namespace Go.Proofs.YtogmbmdbgkopjaaGreat
open Go Go.Vc Go.Proofs
section
variable {N:Nat} {k:Ker} {d:Dng}
theorem do_asks {core cur:Int} {c:Call} (hr:(k.t.pickC core).runs? core=some cur) (h0:0≤c.ask) (h1:c.ask<17) (hb:k.heldB c.at_ (Ker.needK c.ask).1=true) (hg:andI .i64 (k.capAt c.at_).rights (Ker.needK c.ask).2=(Ker.needK c.ask).2):
  k.do core c=(k.setT (k.t.pickC core)).asks ⟨core,cur,c,(0,c.at_),k.capAt c.at_⟩:=by
 unfold Ker.do
 rw[hr];dsimp only;rw[if_neg (by omega),if_neg (by omega)];unfold Ker.asked;have h2:(k.setT (k.t.pickC core)).heldB c.at_ (Ker.needK c.ask).1=k.heldB c.at_ (Ker.needK c.ask).1:=rfl;have h3:(k.setT (k.t.pickC core)).capAt c.at_=k.capAt c.at_:=rfl;rw[h2,h3,if_neg (by rw[hb];decide),if_neg (by rw[hg];exact fun h=>h rfl)]
theorem mintC_badge {kind obj r g:Int} (hk:kind=4∨kind=5) (ho:0≤obj/\obj<2147483648) (hr:0≤r/\r≤7):Ker.mintC ⟨kind,obj,7,0,0,0⟩ r g=(⟨kind,obj,andI .i64 7 r,g,0,0⟩,0):=by
 have he:Sl.capErr ⟨kind,obj,7,0,0,0⟩=0:=capErr_new (by omega) ho;unfold Ker.mintC;rw[if_neg (by rw[he];exact fun h=>h rfl),if_neg (fun h=>h hr),if_neg]
 ·dsimp only
  have hl:Sl.limitedB kind=true:=by rcases hk with rfl|rfl<;>rfl
  rw[if_pos hl];by_cases e:g=0
  ·subst e;rfl
  ·rw[if_pos e]
 ·have hb:Sl.badgedB kind=true:=by rcases hk with rfl|rfl<;>rfl
  rintro (h|⟨_,h|h⟩)
  ·dsimp only at h;omega
  ·dsimp only at h;rw[hb] at h;cases h
  ·exact h rfl
theorem mint_yes (hk:KOk N k) {kind obj:Int} (hc:d.c=⟨kind,obj,7,0,0,0⟩) (hkd:kind=4∨kind=5) (ho:0≤obj/\obj<2147483648) (hr:0≤d.call.a/\d.call.a≤7) (hw:0≤d.call.with_/\d.call.with_<64) (hn:k.H (0,d.call.with_)=none):
  k.mint d=(0,{ k with H:=Sl.updH k.H (0,d.call.with_) (some ⟨kind,obj,andI .i64 7 d.call.a,IntKind.u64.wrap d.call.b,0,0⟩),T:=(Tr.addN k.T d.s (0,d.call.with_)).2}):=by
 have hm:=mintC_badge (g:=IntKind.u64.wrap d.call.b) hkd ho hr;have he:Sl.capErr ⟨kind,obj,7,0,0,0⟩=0:=capErr_new (by omega) ho;obtain ⟨m1,m2,m3,m4⟩:=mintC_ok (r:=d.call.a) (g:=IntKind.u64.wrap d.call.b) he (by rw[hm]);rw[hm] at m1 m2;unfold Ker.mint;rw[hc,hm];dsimp only;rw[if_neg (by omega),if_neg,if_neg (fun h=>h rfl)]
 ·unfold Ker.laid
  rw[hk.put (t:=(0,d.call.with_)) ⟨rfl,hw.1,hw.2⟩ hn m1 (by dsimp only;omega)]
 ·have:=freeK_yes (k:=k) (w:=d.call.with_) (n:=1) hw.1 (by omega) (fun i hi=>by
   obtain rfl:i=0:=by omega
   rw[show d.call.with_+((0:Nat):Int)=d.call.with_ from by omega];exact hn)
  rw[this];exact fun h=>h rfl
end
end Go.Proofs.YtogmbmdbgkopjaaGreat
end
section
set_option maxRecDepth 100000
namespace Go.Proofs.YtogmbmdbgkopjaaGreat.Th
open Go Go.Vc Go.Proofs Go.Proofs.YtogmbmdbgkopjaaGreat
def yuM (N p r:Nat):Mt:=⟨(List.range N).map fun j=>⟨if j=r then 2 else 1,(p:Int),0,5,fun _=>0⟩,[(List.range (N-1)).map fun (k:Nat)=>(p,Int.ofNat ((r+1+k)%N))],[(r:Int)]⟩
def yM (n p i:Nat) (e:Bool):Mt:=⟨(List.range (n+1)).map fun j=>⟨if j=0 then 2 else if j≤i then 1 else 0,if j≤i∨(e=true/\j=i+1) then (p:Int) else 0,0,5,fun _=>0⟩,[(List.range i).map fun (k:Nat)=>(p,Int.ofNat (k+1))],[0]⟩
theorem yfour {n:Nat} (h1:1≤n) (h4:n≤4):n=1∨n=2∨n=3∨n=4:=by omega
end Go.Proofs.YtogmbmdbgkopjaaGreat.Th
end
section
set_option maxRecDepth 100000
namespace Go.Proofs.YtogmbmdbgkopjaaGreat
open Go Go.Vc Go.Proofs
def yG (t:Th.Mt) (id:Int):Ker:=(((((Ker.newK 1 12).rootK 0 2 0).rootK 1 1 0).setT t).rootK 2 3 id).rootK 3 8 0
def yk0 (p:Nat):Ker:=yG (Th.yuM 1 p 0) 0
def yC (n:Nat):Call:=⟨0,1,20,3,0,(n:Int)⟩
def yB (n:Nat):Ker:=(bk0.do 0 (yC n)).2
theorem y1 {n p:Nat} (h1:1≤n) (h4:n≤4):(yk0 p).do 0 (yC n)=(⟨0,0, -1,[]⟩,(yB n).setT (Th.yM n p 0 false)):=by
 rcases Th.yfour h1 h4 with rfl|rfl|rfl|rfl<;>(show _=_;kernel_rfl)
def nc1:Call:=⟨0,1,20,4,0,1⟩
def nk1:Ker:=(bk0.do 0 nc1).2
theorem n1:(bk0.do 0 nc1).1=⟨0,0, -1,[]⟩:=by kernel_rfl
theorem nk1_ok:KOk 65 nk1:=bk0_b.ok.do (by decide) 0 nc1
def nk2 (r g:Int):Ker:={ nk1.setT (nk1.t.pickC 0) with H:=Sl.updH nk1.H (0,21) (some ⟨4,0,andI .i64 7 r,g,0,0⟩),T:=(Tr.addN nk1.T (0,20) (0,21)).2}
theorem n2 {r b:Int} (hr:0≤r/\r≤7):nk1.do 0 ⟨1,20,21,r,b,0⟩=(⟨0,0, -1,[]⟩,nk2 r (IntKind.u64.wrap b)):=by
 have h1:(nk1.t.pickC 0).runs? 0=some 0:=by kernel_rfl
 have h2:nk1.heldB 20 0=true:=by kernel_rfl
 have h3:nk1.capAt 20=⟨4,0,7,0,0,0⟩:=by kernel_rfl
 rw[do_asks (c:=⟨1,20,21,r,b,0⟩) h1 (by show (0:Int)≤1;decide) (by show (1:Int)<17;decide) h2 (by
  show andI .i64 (nk1.capAt 20).rights 0=0;rw[h3];kernel_rfl)]
 show (nk1.setT (nk1.t.pickC 0)).asks ⟨0,0,⟨1,20,21,r,b,0⟩,(0,20),nk1.capAt 20⟩=_;rw[h3]
 have h4:=mint_yes (k:=nk1.setT (nk1.t.pickC 0)) (d:=⟨0,0,⟨1,20,21,r,b,0⟩,(0,20),⟨4,0,7,0,0,0⟩⟩) (kind:=4) (obj:=0) (nk1_ok.pick 0) rfl (.inl rfl) (by decide) hr (by dsimp only;decide) (by
  show nk1.H (0,21)=none;kernel_rfl)
 show Ker.tell ((nk1.setT (nk1.t.pickC 0)).mint ⟨0,0,⟨1,20,21,r,b,0⟩,(0,20),⟨4,0,7,0,0,0⟩⟩).1 ((nk1.setT (nk1.t.pickC 0)).mint ⟨0,0,⟨1,20,21,r,b,0⟩,(0,20),⟨4,0,7,0,0,0⟩⟩).2=_;rw[h4];rfl
def qk1:Ker:=(bk0.do 0 ⟨0,1,20,4,0,1⟩).2
theorem q1:(bk0.do 0 ⟨0,1,20,4,0,1⟩).1=⟨0,0, -1,[]⟩:=by kernel_rfl
theorem qk1_ok:KOk 65 qk1:=bk0_b.ok.do (by decide) 0 ⟨0,1,20,4,0,1⟩
def qk2:Ker:=(qk1.do 0 ⟨0,1,21,3,0,1⟩).2
theorem q2:(qk1.do 0 ⟨0,1,21,3,0,1⟩).1=⟨0,0, -1,[]⟩:=by kernel_rfl
theorem qk2_ok:KOk 129 qk2:=qk1_ok.do (by decide) 0 ⟨0,1,21,3,0,1⟩
def qk3 (g:Int):Ker:={ qk2.setT (qk2.t.pickC 0) with H:=Sl.updH qk2.H (0,22) (some ⟨4,0,andI .i64 7 2,g,0,0⟩),T:=(Tr.addN qk2.T (0,20) (0,22)).2}
theorem q3 {b:Int}:qk2.do 0 ⟨1,20,22,2,b,0⟩=(⟨0,0, -1,[]⟩,qk3 (IntKind.u64.wrap b)):=by
 have h1:(qk2.t.pickC 0).runs? 0=some 0:=by kernel_rfl
 have h2:qk2.heldB 20 0=true:=by kernel_rfl
 have h3:qk2.capAt 20=⟨4,0,7,0,0,0⟩:=by kernel_rfl
 rw[do_asks (c:=⟨1,20,22,2,b,0⟩) h1 (by show (0:Int)≤1;decide) (by show (1:Int)<17;decide) h2 (by
  show andI .i64 (qk2.capAt 20).rights 0=0;rw[h3];kernel_rfl)]
 show (qk2.setT (qk2.t.pickC 0)).asks ⟨0,0,⟨1,20,22,2,b,0⟩,(0,20),qk2.capAt 20⟩=_;rw[h3]
 have h4:=mint_yes (k:=qk2.setT (qk2.t.pickC 0)) (d:=⟨0,0,⟨1,20,22,2,b,0⟩,(0,20),⟨4,0,7,0,0,0⟩⟩) (kind:=4) (obj:=0) (qk2_ok.pick 0) rfl (.inl rfl) (by decide) (by dsimp only;decide) (by dsimp only;decide) (by
  show qk2.H (0,22)=none;kernel_rfl)
 show Ker.tell ((qk2.setT (qk2.t.pickC 0)).mint ⟨0,0,⟨1,20,22,2,b,0⟩,(0,20),⟨4,0,7,0,0,0⟩⟩).1 ((qk2.setT (qk2.t.pickC 0)).mint ⟨0,0,⟨1,20,22,2,b,0⟩,(0,20),⟨4,0,7,0,0,0⟩⟩).2=_;rw[h4];rfl
section
variable (g:Int)
def qk4:Ker:=((qk3 g).do 0 ⟨7,21,0,5,0,0⟩).2
theorem q4:((qk3 g).do 0 ⟨7,21,0,5,0,0⟩).1=⟨0,0, -1,[]⟩:=by kernel_rfl
def qk5:Ker:=((qk4 g).do 0 ⟨5,21,0,0,0,0⟩).2
theorem q5:((qk4 g).do 0 ⟨5,21,0,0,0,0⟩).1=⟨0,0,1,[]⟩:=by kernel_rfl
def qk6:Ker:=((qk5 g).do 0 ⟨9,20,0,0,0,1⟩).2
theorem q6:((qk5 g).do 0 ⟨9,20,0,0,0,1⟩).1=⟨0,0, -1,[]⟩:=by kernel_rfl
theorem q7 (label word:Int):((qk6 g).do 0 ⟨8,22,0,label,word,0⟩).1=⟨0,0,0,[]⟩:=by kernel_rfl
end
theorem wrap64_shift {x:Int} (h1:9223372036854775808≤x) (h2:x<18446744073709551616):IntKind.i64.wrap x=x-18446744073709551616:=by
 unfold IntKind.wrap;have e1:(2:Int)^IntKind.i64.bits=18446744073709551616:=by decide
 have e2:(2:Int)^(IntKind.i64.bits-1)=9223372036854775808:=by decide
 have e3:IntKind.i64.signed=true:=rfl;dsimp only;rw[e1,e2,e3,Int.emod_eq_of_lt (by omega) h2];simp[h1]
theorem ofInt_wrap (x:BitVec 64):BitVec.ofInt 64 (IntKind.i64.wrap (x.toNat:Int))=x:=by
 apply BitVec.eq_of_toNat_eq;rw[BitVec.toNat_ofInt];have hx:=x.isLt;have e64:(2:Nat)^64=18446744073709551616:=by decide
 rw[e64] at hx⊢
 have hw:IntKind.i64.wrap (x.toNat:Int)=if (x.toNat:Int)<9223372036854775808 then (x.toNat:Int) else (x.toNat:Int)-18446744073709551616:=by
  by_cases h:(x.toNat:Int)<9223372036854775808
  ·rw[if_pos h,wr (by omega) h]
  ·rw[if_neg h]
   have:=wrap64_shift (x:=(x.toNat:Int)) (by omega) (by omega);exact this
 rw[hw];split
 ·omega
 ·omega
theorem andI_bv (x y:Int):BitVec.ofInt 64 (andI .i64 x y)=BitVec.ofInt 64 x &&& BitVec.ofInt 64 y:=by
 unfold andI;exact ofInt_wrap _
theorem and_turn (s r:Int):andI .i64 (andI .i64 7 (andI .i64 s 7)) (andI .i64 r 7)=andI .i64 (andI .i64 r s) 7:=by
 have h:BitVec.ofInt 64 (andI .i64 7 (andI .i64 s 7)) &&& BitVec.ofInt 64 (andI .i64 r 7)=BitVec.ofInt 64 (andI .i64 r s) &&& BitVec.ofInt 64 7:=by
  simp only[andI_bv];apply BitVec.eq_of_getLsbD_eq;intro i hi;simp only[BitVec.getLsbD_and];cases (BitVec.ofInt 64 7).getLsbD i<;>cases (BitVec.ofInt 64 s).getLsbD i<;>cases (BitVec.ofInt 64 r).getLsbD i<;>rfl
 show IntKind.i64.wrap _=IntKind.i64.wrap _;rw[show BitVec.ofInt IntKind.i64.bits (andI .i64 7 (andI .i64 s 7)) &&& BitVec.ofInt IntKind.i64.bits (andI .i64 r 7)=BitVec.ofInt IntKind.i64.bits (andI .i64 r s) &&& BitVec.ofInt IntKind.i64.bits 7 from h]
section
variable {N:Nat} {k:Ker} {d:Dng}
theorem mintC_plain {obj r:Int} (ho:0≤obj/\obj<2147483648) (hr:0≤r/\r≤7):Ker.mintC ⟨6,obj,7,0,0,0⟩ r 0=(⟨6,obj,andI .i64 7 r,0,0,0⟩,0):=by
 have he:Sl.capErr ⟨6,obj,7,0,0,0⟩=0:=capErr_new (by omega) ho;unfold Ker.mintC;rw[if_neg (by rw[he];exact fun h=>h rfl),if_neg (fun h=>h hr),if_neg]
 ·rfl
 ·rintro (h|⟨h,_⟩)
  ·dsimp only at h;omega
  ·exact h rfl
theorem mint_plain (hk:KOk N k) {obj:Int} (hc:d.c=⟨6,obj,7,0,0,0⟩) (ho:0≤obj/\obj<2147483648) (hr:0≤d.call.a/\d.call.a≤7) (hb:d.call.b=0) (hw:0≤d.call.with_/\d.call.with_<64) (hn:k.H (0,d.call.with_)=none):
  k.mint d=(0,{ k with H:=Sl.updH k.H (0,d.call.with_) (some ⟨6,obj,andI .i64 7 d.call.a,0,0,0⟩),T:=(Tr.addN k.T d.s (0,d.call.with_)).2}):=by
 have hm:=mintC_plain ho hr;have he:Sl.capErr ⟨6,obj,7,0,0,0⟩=0:=capErr_new (by omega) ho;obtain ⟨m1,m2,m3,m4⟩:=mintC_ok (r:=d.call.a) (g:=0) he (by rw[hm]);rw[hm] at m1 m2;have hw0:IntKind.u64.wrap 0=0:=by kernel_rfl
 unfold Ker.mint;rw[hc,hb,hw0,hm];dsimp only;rw[if_neg (by omega),if_neg,if_neg (fun h=>h rfl)]
 ·unfold Ker.laid
  rw[hk.put (t:=(0,d.call.with_)) ⟨rfl,hw.1,hw.2⟩ hn m1 (by dsimp only;omega)]
 ·have:=freeK_yes (k:=k) (w:=d.call.with_) (n:=1) hw.1 (by omega) (fun i hi=>by
   obtain rfl:i=0:=by omega
   rw[show d.call.with_+((0:Nat):Int)=d.call.with_ from by omega];exact hn)
  rw[this];exact fun h=>h rfl
end
def pk1:Ker:=(bk0.do 0 ⟨0,1,20,6,0,1⟩).2
theorem p1:(bk0.do 0 ⟨0,1,20,6,0,1⟩).1=⟨0,0, -1,[]⟩:=by kernel_rfl
theorem pk1_ok:KOk 65 pk1:=bk0_b.ok.do (by decide) 0 ⟨0,1,20,6,0,1⟩
def pk2:Ker:=(pk1.do 0 ⟨0,1,21,7,0,1⟩).2
theorem p2:(pk1.do 0 ⟨0,1,21,7,0,1⟩).1=⟨0,0, -1,[]⟩:=by kernel_rfl
theorem pk2_ok:KOk 129 pk2:=pk1_ok.do (by decide) 0 ⟨0,1,21,7,0,1⟩
def pk3:Ker:=(pk2.do 0 ⟨12,21,3,0,0,0⟩).2
theorem p3:(pk2.do 0 ⟨12,21,3,0,0,0⟩).1=⟨0,0, -1,[]⟩:=by kernel_rfl
theorem pk3_ok:KOk 193 pk3:=pk2_ok.do (by decide) 0 ⟨12,21,3,0,0,0⟩
def pk4 (s:Int):Ker:={ pk3.setT (pk3.t.pickC 0) with H:=Sl.updH pk3.H (0,22) (some ⟨6,0,andI .i64 7 s,0,0,0⟩),T:=(Tr.addN pk3.T (0,20) (0,22)).2}
theorem p4 {s:Int} (hs:0≤s/\s≤7):pk3.do 0 ⟨1,20,22,s,0,0⟩=(⟨0,0, -1,[]⟩,pk4 s):=by
 have h1:(pk3.t.pickC 0).runs? 0=some 0:=by kernel_rfl
 have h2:pk3.heldB 20 0=true:=by kernel_rfl
 have h3:pk3.capAt 20=⟨6,0,7,0,0,0⟩:=by kernel_rfl
 rw[do_asks (c:=⟨1,20,22,s,0,0⟩) h1 (by show (0:Int)≤1;decide) (by show (1:Int)<17;decide) h2 (by
  show andI .i64 (pk3.capAt 20).rights 0=0;rw[h3];kernel_rfl)]
 show (pk3.setT (pk3.t.pickC 0)).asks ⟨0,0,⟨1,20,22,s,0,0⟩,(0,20),pk3.capAt 20⟩=_;rw[h3]
 have h4:=mint_plain (k:=pk3.setT (pk3.t.pickC 0)) (d:=⟨0,0,⟨1,20,22,s,0,0⟩,(0,20),⟨6,0,7,0,0,0⟩⟩) (obj:=0) (pk3_ok.pick 0) rfl (by decide) hs rfl (by dsimp only;decide) (by
  show pk3.H (0,22)=none;kernel_rfl)
 show Ker.tell ((pk3.setT (pk3.t.pickC 0)).mint ⟨0,0,⟨1,20,22,s,0,0⟩,(0,20),⟨6,0,7,0,0,0⟩⟩).1 ((pk3.setT (pk3.t.pickC 0)).mint ⟨0,0,⟨1,20,22,s,0,0⟩,(0,20),⟨6,0,7,0,0,0⟩⟩).2=_;rw[h4];rfl
theorem pk4_ok {s:Int} (hs:0≤s/\s≤7):KOk 257 (pk4 s):=by
 have:=pk3_ok.do (by decide) 0 ⟨1,20,22,s,0,0⟩
 rw[p4 hs] at this;exact this
def pk5 (s:Int) (p:Nat) (v:Int):Ker:=((pk4 s).setT ((pk4 s).t.pickC 0)).setS 0 {(pk4 s).sAt 0 with pg:=[((p:Int),(0,v))]}
theorem p5 {s r:Int} {p:Nat} (hp:p≤63) (hr:0≤r/\r≤7):(pk4 s).do 0 ⟨13,22,3,(p:Int),r,0⟩=(⟨0,0, -1,[]⟩,pk5 s p (andI .i64 (andI .i64 7 s) r)):=by
 have h1:((pk4 s).t.pickC 0).runs? 0=some 0:=by kernel_rfl
 have h2:(pk4 s).heldB 22 6=true:=by kernel_rfl
 have h3:(pk4 s).capAt 22=⟨6,0,andI .i64 7 s,0,0,0⟩:=by kernel_rfl
 have ha:=and7 (andI .i64 7 s) r hr
 rw[do_asks (c:=⟨13,22,3,(p:Int),r,0⟩) h1 (by show (0:Int)≤13;decide) (by show (13:Int)<17;decide) h2 (by
  show andI .i64 ((pk4 s).capAt 22).rights 0=0;obtain ⟨q,hq,e⟩:=Sl.andle ((pk4 s).capAt 22).rights 0 (by decide);have:q=0:=by omega
  rw[this] at e;exact e)]
 show ((pk4 s).setT ((pk4 s).t.pickC 0)).asks ⟨0,0,⟨13,22,3,(p:Int),r,0⟩,(0,22),(pk4 s).capAt 22⟩=_;rw[h3];show ((pk4 s).setT ((pk4 s).t.pickC 0)).mapped ⟨0,0,⟨13,22,3,(p:Int),r,0⟩,(0,22),⟨6,0,andI .i64 7 s,0,0,0⟩⟩=_;unfold Ker.mapped;have h4:((pk4 s).setT ((pk4 s).t.pickC 0)).heldB 3 8=true:=by kernel_rfl
 have h5:(((pk4 s).setT ((pk4 s).t.pickC 0)).capAt 3).obj=0:=by kernel_rfl
 dsimp only;rw[if_neg (by rw[h4];decide),h5]
 have h6:((pk4 s).sAt 0).mapR (p:Int) (0,andI .i64 (andI .i64 7 s) r)=(0,{(pk4 s).sAt 0 with pg:=[((p:Int),(0,andI .i64 (andI .i64 7 s) r))]}):=by
  unfold Tb.Spc.mapR;rw[if_neg (fun h=>h ⟨by omega,by omega,Int.le_refl 0,ha.1,ha.2⟩)];have e0:(p:Int).toNat / 64=0:=by rw[Int.toNat_natCast];omega
  rw[e0];have e1:((pk4 s).sAt 0).tb 0=some 0:=by kernel_rfl
  have e2:((pk4 s).sAt 0).pg= []:=by kernel_rfl
  rw[e1,if_neg (by simp),e2];rfl
 have h7:((pk4 s).setT ((pk4 s).t.pickC 0)).sAt 0=(pk4 s).sAt 0:=rfl;rw[h7,h6];rfl
theorem pk5_ok {s r:Int} {p:Nat} (hs:0≤s/\s≤7) (hp:p≤63) (hr:0≤r/\r≤7):KOk 321 (pk5 s p (andI .i64 (andI .i64 7 s) r)):=by
 have:=(pk4_ok hs).do (by decide) 0 ⟨13,22,3,(p:Int),r,0⟩
 rw[p5 hp hr] at this;exact this
section
variable (s:Int) (p:Nat) (v:Int)
theorem pp5:(pk5 s p v).pagesR 0= [((p:Int),(0,v))]:=by kernel_rfl
def pk6:Ker:=((pk5 s p v).do 0 ⟨3,20,0,0,0,0⟩).2
theorem p6:((pk5 s p v).do 0 ⟨3,20,0,0,0,0⟩).1=⟨0,0, -1,[]⟩:=by kernel_rfl
def pk7:Ker:=(((pk6 s p v).setT ((pk6 s p v).t.pickC 0)).gone (0,22)).2
theorem p7:(pk6 s p v).do 0 ⟨3,22,0,0,0,0⟩=(⟨0,0, -1,[⟨0,(p:Int),0,v⟩]⟩,pk7 s p v):=by
 have h1:((pk6 s p v).t.pickC 0).runs? 0=some 0:=by kernel_rfl
 have h2:(pk6 s p v).heldB 22 0=true:=by kernel_rfl
 rw[do_asks (c:=⟨3,22,0,0,0,0⟩) h1 (by decide) (by decide) h2 (by
  show andI .i64 ((pk6 s p v).capAt 22).rights 0=0;obtain ⟨q,hq,e⟩:=Sl.andle ((pk6 s p v).capAt 22).rights 0 (by decide);have:q=0:=by omega
  rw[this] at e;exact e)]
 have h3:(((pk6 s p v).setT ((pk6 s p v).t.pickC 0)).gone (0,22)).1= [⟨0,(p:Int),0,v⟩]:=by kernel_rfl
 show (if (22:Int)=0 then Ker.tell 181 ((pk6 s p v).setT ((pk6 s p v).t.pickC 0)) else (⟨0,0, -1,(((pk6 s p v).setT ((pk6 s p v).t.pickC 0)).gone (0,22)).1⟩,(((pk6 s p v).setT ((pk6 s p v).t.pickC 0)).gone (0,22)).2))=_;rw[if_neg (by decide),h3];rfl
theorem pp7:(pk7 s p v).pagesR 0= []:=by kernel_rfl
end
end Go.Proofs.YtogmbmdbgkopjaaGreat
end
section
set_option maxRecDepth 8000
namespace Go.Proofs.YtogmbmdbgkopjaaGreat
open Go Go.Vc Go.Proofs
set_option maxHeartbeats 2000000 in
theorem law18_KernelPages_spec {w0 w:World} {page rights some_:Int} {K:Bool->World->Prop} (w1:(Lit.int .i64 page).wf=true) (w2:(Lit.int .i64 rights).wf=true) (w3:(Lit.int .i64 some_).wf=true) (h:Vc.Own w0.heap.size w0 w []) (hK:∀w',Vc.Own w0.heap.size w0 w' []->K true w'):C.qbG page rights some_ K w:=by
 apply S.qbG0;unfold S.qbG;have eturn:=and_turn some_ rights;obtain ⟨p,hp,ep⟩:=Sl.andle page 63 (by decide);obtain ⟨r,hr,er⟩:=Sl.andle rights 7 (by decide);obtain ⟨s,hs,es⟩:=Sl.andle some_ 7 (by decide);have ep:andI .i64 page 63=(p:Int):=ep;have er:andI .i64 rights 7=(r:Int):=er;have es:andI .i64 some_ 7=(s:Int):=es;rw[er,es] at eturn;rw[ep,er,es];generalize andI .i64 (andI .i64 rights some_) 7=v at eturn;clear ep er es w1 w2 w3;have hr:0≤(r:Int)/\(r:Int)≤7:=⟨by omega,by omega⟩
 have hs:0≤(s:Int)/\(s:Int)≤7:=⟨by omega,by omega⟩
 have k5:=pk5_ok hs hp hr
 have k6:KOk 385 (pk6 (s:Int) p (andI .i64 (andI .i64 7 (s:Int)) (r:Int))):=by
  have:=k5.do (by decide) 0 ⟨3,20,0,0,0,0⟩
  exact this
 refine h.al fun w1 h=>?_
 generalize w.heap.size=pb at h⊢;have h:=h.asSl (E:=intE) [5] rfl;refine boot12 (lines:=0) (s:=⟨some ⟨pb,0,none⟩,1,1⟩) (by decide) rfl h fun kb w h=>?_
 have h:Vc.Own w0.heap.size w0 w (KerA kb bk0::[]):=h;intro k8 hk8;refine cbF rfl (hk8 _ _ (cbF rfl ?_));refine h.al fun w1 h=>?_
 generalize w.heap.size=ab at h⊢;have h:Vc.Own w0.heap.size w0 w1 (KerA kb bk0::BlkA ab [.int .i64 0, .int .i64 1, .int .i64 20, .int .i64 6, .int .i64 0, .int .i64 1, .int .i64 0, .int .i64 1, .int .i64 21, .int .i64 7, .int .i64 0, .int .i64 1, .int .i64 12, .int .i64 21, .int .i64 3, .int .i64 0, .int .i64 0, .int .i64 0, .int .i64 1, .int .i64 20, .int .i64 22, .int .i64 (s:Int), .int .i64 0, .int .i64 0, .int .i64 13, .int .i64 22, .int .i64 3, .int .i64 (p:Int), .int .i64 (r:Int), .int .i64 0]::[]):=h.sub;revert h;generalize w1=w;intro h;intro l12 hl12;have h:Vc.Own w0.heap.size w0 w (KerA kb bk0::BlkA ab [.int .i64 0, .int .i64 1, .int .i64 20, .int .i64 6, .int .i64 0, .int .i64 1, .int .i64 0, .int .i64 1, .int .i64 21, .int .i64 7, .int .i64 0, .int .i64 1, .int .i64 12, .int .i64 21, .int .i64 3, .int .i64 0, .int .i64 0, .int .i64 0, .int .i64 1, .int .i64 20, .int .i64 22, .int .i64 (s:Int), .int .i64 0, .int .i64 0, .int .i64 13, .int .i64 22, .int .i64 3, .int .i64 (p:Int), .int .i64 (r:Int), .int .i64 0]::[]):=h;apply hl12;refine cdecT (by omega) ?_;refine ⟨_,rfl,by omega,by omega, ?_⟩;refine LdL_add (h.lc_6 (o:=0+(0:Int).toNat*6) rfl ?_);refine Do_spec (core:=0) (c:=⟨0,1,20,6,0,1⟩) bk0_b.ok (by decide) (by dsimp only;decide) (by dsimp only;decide) (h.pick (A:=KerA kb bk0)) fun fs0 w h=>?_
 rw[p1] at h⊢;dsimp only at h⊢;refine h.al fun w1 h=>?_
 generalize w.heap.size=e0 at h⊢;refine h.stLc rfl rfl fun w h=>?_
 (try dsimp only[putAt,List.set_cons_zero,List.set_cons_succ] at h)
 refine ⟨_,h.ldc rfl, ?_⟩;refine cneF rfl ?_;rw[show IntKind.i64.wrap ((0:Int)+1)=1 from by decide];have h:Vc.Own w0.heap.size w0 w (BlkA e0 [.int .i64 0, .int .u64 0, .int .i64 (-1), .slice fs0.a fs0.len fs0.cap]::SlT lneE fs0 []::KerA kb pk1::BlkA ab [.int .i64 0, .int .i64 1, .int .i64 20, .int .i64 6, .int .i64 0, .int .i64 1, .int .i64 0, .int .i64 1, .int .i64 21, .int .i64 7, .int .i64 0, .int .i64 1, .int .i64 12, .int .i64 21, .int .i64 3, .int .i64 0, .int .i64 0, .int .i64 0, .int .i64 1, .int .i64 20, .int .i64 22, .int .i64 (s:Int), .int .i64 0, .int .i64 0, .int .i64 13, .int .i64 22, .int .i64 3, .int .i64 (p:Int), .int .i64 (r:Int), .int .i64 0]::[]):=h;have h:Vc.Own w0.heap.size w0 w (KerA kb pk1::BlkA ab [.int .i64 0, .int .i64 1, .int .i64 20, .int .i64 6, .int .i64 0, .int .i64 1, .int .i64 0, .int .i64 1, .int .i64 21, .int .i64 7, .int .i64 0, .int .i64 1, .int .i64 12, .int .i64 21, .int .i64 3, .int .i64 0, .int .i64 0, .int .i64 0, .int .i64 1, .int .i64 20, .int .i64 22, .int .i64 (s:Int), .int .i64 0, .int .i64 0, .int .i64 13, .int .i64 22, .int .i64 3, .int .i64 (p:Int), .int .i64 (r:Int), .int .i64 0]::[]):=h.sub;have h:Vc.Own w0.heap.size w0 w (KerA kb pk1::BlkA ab [.int .i64 0, .int .i64 1, .int .i64 20, .int .i64 6, .int .i64 0, .int .i64 1, .int .i64 0, .int .i64 1, .int .i64 21, .int .i64 7, .int .i64 0, .int .i64 1, .int .i64 12, .int .i64 21, .int .i64 3, .int .i64 0, .int .i64 0, .int .i64 0, .int .i64 1, .int .i64 20, .int .i64 22, .int .i64 (s:Int), .int .i64 0, .int .i64 0, .int .i64 13, .int .i64 22, .int .i64 3, .int .i64 (p:Int), .int .i64 (r:Int), .int .i64 0]::[]):=h;apply hl12;refine cdecT (by omega) ?_;refine ⟨_,rfl,by omega,by omega, ?_⟩;refine LdL_add (h.lc_6 (o:=0+(1:Int).toNat*6) rfl ?_);refine Do_spec (core:=0) (c:=⟨0,1,21,7,0,1⟩) pk1_ok (by decide) (by dsimp only;decide) (by dsimp only;decide) (h.pick (A:=KerA kb pk1)) fun fs1 w h=>?_
 rw[p2] at h⊢;dsimp only at h⊢;refine h.al fun w1 h=>?_
 generalize w.heap.size=e1 at h⊢;refine h.stLc rfl rfl fun w h=>?_
 (try dsimp only[putAt,List.set_cons_zero,List.set_cons_succ] at h)
 refine ⟨_,h.ldc rfl, ?_⟩;refine cneF rfl ?_;rw[show IntKind.i64.wrap ((1:Int)+1)=2 from by decide];have h:Vc.Own w0.heap.size w0 w (BlkA e1 [.int .i64 0, .int .u64 0, .int .i64 (-1), .slice fs1.a fs1.len fs1.cap]::SlT lneE fs1 []::KerA kb pk2::BlkA ab [.int .i64 0, .int .i64 1, .int .i64 20, .int .i64 6, .int .i64 0, .int .i64 1, .int .i64 0, .int .i64 1, .int .i64 21, .int .i64 7, .int .i64 0, .int .i64 1, .int .i64 12, .int .i64 21, .int .i64 3, .int .i64 0, .int .i64 0, .int .i64 0, .int .i64 1, .int .i64 20, .int .i64 22, .int .i64 (s:Int), .int .i64 0, .int .i64 0, .int .i64 13, .int .i64 22, .int .i64 3, .int .i64 (p:Int), .int .i64 (r:Int), .int .i64 0]::[]):=h;have h:Vc.Own w0.heap.size w0 w (KerA kb pk2::BlkA ab [.int .i64 0, .int .i64 1, .int .i64 20, .int .i64 6, .int .i64 0, .int .i64 1, .int .i64 0, .int .i64 1, .int .i64 21, .int .i64 7, .int .i64 0, .int .i64 1, .int .i64 12, .int .i64 21, .int .i64 3, .int .i64 0, .int .i64 0, .int .i64 0, .int .i64 1, .int .i64 20, .int .i64 22, .int .i64 (s:Int), .int .i64 0, .int .i64 0, .int .i64 13, .int .i64 22, .int .i64 3, .int .i64 (p:Int), .int .i64 (r:Int), .int .i64 0]::[]):=h.sub;have h:Vc.Own w0.heap.size w0 w (KerA kb pk2::BlkA ab [.int .i64 0, .int .i64 1, .int .i64 20, .int .i64 6, .int .i64 0, .int .i64 1, .int .i64 0, .int .i64 1, .int .i64 21, .int .i64 7, .int .i64 0, .int .i64 1, .int .i64 12, .int .i64 21, .int .i64 3, .int .i64 0, .int .i64 0, .int .i64 0, .int .i64 1, .int .i64 20, .int .i64 22, .int .i64 (s:Int), .int .i64 0, .int .i64 0, .int .i64 13, .int .i64 22, .int .i64 3, .int .i64 (p:Int), .int .i64 (r:Int), .int .i64 0]::[]):=h;apply hl12;refine cdecT (by omega) ?_;refine ⟨_,rfl,by omega,by omega, ?_⟩;refine LdL_add (h.lc_6 (o:=0+(2:Int).toNat*6) rfl ?_);refine Do_spec (core:=0) (c:=⟨12,21,3,0,0,0⟩) pk2_ok (by decide) (by dsimp only;decide) (by dsimp only;decide) (h.pick (A:=KerA kb pk2)) fun fs2 w h=>?_
 rw[p3] at h⊢;dsimp only at h⊢;refine h.al fun w1 h=>?_
 generalize w.heap.size=e2 at h⊢;refine h.stLc rfl rfl fun w h=>?_
 (try dsimp only[putAt,List.set_cons_zero,List.set_cons_succ] at h)
 refine ⟨_,h.ldc rfl, ?_⟩;refine cneF rfl ?_;rw[show IntKind.i64.wrap ((2:Int)+1)=3 from by decide];have h:Vc.Own w0.heap.size w0 w (BlkA e2 [.int .i64 0, .int .u64 0, .int .i64 (-1), .slice fs2.a fs2.len fs2.cap]::SlT lneE fs2 []::KerA kb pk3::BlkA ab [.int .i64 0, .int .i64 1, .int .i64 20, .int .i64 6, .int .i64 0, .int .i64 1, .int .i64 0, .int .i64 1, .int .i64 21, .int .i64 7, .int .i64 0, .int .i64 1, .int .i64 12, .int .i64 21, .int .i64 3, .int .i64 0, .int .i64 0, .int .i64 0, .int .i64 1, .int .i64 20, .int .i64 22, .int .i64 (s:Int), .int .i64 0, .int .i64 0, .int .i64 13, .int .i64 22, .int .i64 3, .int .i64 (p:Int), .int .i64 (r:Int), .int .i64 0]::[]):=h;have h:Vc.Own w0.heap.size w0 w (KerA kb pk3::BlkA ab [.int .i64 0, .int .i64 1, .int .i64 20, .int .i64 6, .int .i64 0, .int .i64 1, .int .i64 0, .int .i64 1, .int .i64 21, .int .i64 7, .int .i64 0, .int .i64 1, .int .i64 12, .int .i64 21, .int .i64 3, .int .i64 0, .int .i64 0, .int .i64 0, .int .i64 1, .int .i64 20, .int .i64 22, .int .i64 (s:Int), .int .i64 0, .int .i64 0, .int .i64 13, .int .i64 22, .int .i64 3, .int .i64 (p:Int), .int .i64 (r:Int), .int .i64 0]::[]):=h.sub;have h:Vc.Own w0.heap.size w0 w (KerA kb pk3::BlkA ab [.int .i64 0, .int .i64 1, .int .i64 20, .int .i64 6, .int .i64 0, .int .i64 1, .int .i64 0, .int .i64 1, .int .i64 21, .int .i64 7, .int .i64 0, .int .i64 1, .int .i64 12, .int .i64 21, .int .i64 3, .int .i64 0, .int .i64 0, .int .i64 0, .int .i64 1, .int .i64 20, .int .i64 22, .int .i64 (s:Int), .int .i64 0, .int .i64 0, .int .i64 13, .int .i64 22, .int .i64 3, .int .i64 (p:Int), .int .i64 (r:Int), .int .i64 0]::[]):=h;apply hl12;refine cdecT (by omega) ?_;refine ⟨_,rfl,by omega,by omega, ?_⟩;refine LdL_add (h.lc_6 (o:=0+(3:Int).toNat*6) rfl ?_);refine Do_spec (core:=0) (c:=⟨1,20,22,(s:Int),0,0⟩) pk3_ok (by decide) (by dsimp only;decide) (by dsimp only;decide) (h.pick (A:=KerA kb pk3)) fun fs3 w h=>?_
 rw[p4 hs] at h⊢;dsimp only at h⊢;refine h.al fun w1 h=>?_
 generalize w.heap.size=e3 at h⊢;refine h.stLc rfl rfl fun w h=>?_
 (try dsimp only[putAt,List.set_cons_zero,List.set_cons_succ] at h)
 refine ⟨_,h.ldc rfl, ?_⟩;refine cneF rfl ?_;rw[show IntKind.i64.wrap ((3:Int)+1)=4 from by decide];have h:Vc.Own w0.heap.size w0 w (BlkA e3 [.int .i64 0, .int .u64 0, .int .i64 (-1), .slice fs3.a fs3.len fs3.cap]::SlT lneE fs3 []::KerA kb (pk4 (s:Int))::BlkA ab [.int .i64 0, .int .i64 1, .int .i64 20, .int .i64 6, .int .i64 0, .int .i64 1, .int .i64 0, .int .i64 1, .int .i64 21, .int .i64 7, .int .i64 0, .int .i64 1, .int .i64 12, .int .i64 21, .int .i64 3, .int .i64 0, .int .i64 0, .int .i64 0, .int .i64 1, .int .i64 20, .int .i64 22, .int .i64 (s:Int), .int .i64 0, .int .i64 0, .int .i64 13, .int .i64 22, .int .i64 3, .int .i64 (p:Int), .int .i64 (r:Int), .int .i64 0]::[]):=h;have h:Vc.Own w0.heap.size w0 w (KerA kb (pk4 (s:Int))::BlkA ab [.int .i64 0, .int .i64 1, .int .i64 20, .int .i64 6, .int .i64 0, .int .i64 1, .int .i64 0, .int .i64 1, .int .i64 21, .int .i64 7, .int .i64 0, .int .i64 1, .int .i64 12, .int .i64 21, .int .i64 3, .int .i64 0, .int .i64 0, .int .i64 0, .int .i64 1, .int .i64 20, .int .i64 22, .int .i64 (s:Int), .int .i64 0, .int .i64 0, .int .i64 13, .int .i64 22, .int .i64 3, .int .i64 (p:Int), .int .i64 (r:Int), .int .i64 0]::[]):=h.sub;have h:Vc.Own w0.heap.size w0 w (KerA kb (pk4 (s:Int))::BlkA ab [.int .i64 0, .int .i64 1, .int .i64 20, .int .i64 6, .int .i64 0, .int .i64 1, .int .i64 0, .int .i64 1, .int .i64 21, .int .i64 7, .int .i64 0, .int .i64 1, .int .i64 12, .int .i64 21, .int .i64 3, .int .i64 0, .int .i64 0, .int .i64 0, .int .i64 1, .int .i64 20, .int .i64 22, .int .i64 (s:Int), .int .i64 0, .int .i64 0, .int .i64 13, .int .i64 22, .int .i64 3, .int .i64 (p:Int), .int .i64 (r:Int), .int .i64 0]::[]):=h;apply hl12;refine cdecT (by omega) ?_;refine ⟨_,rfl,by omega,by omega, ?_⟩;refine LdL_add (h.lc_6 (o:=0+(4:Int).toNat*6) rfl ?_);refine Do_spec (core:=0) (c:=⟨13,22,3,(p:Int),(r:Int),0⟩) (pk4_ok hs) (by decide) (by dsimp only;decide) (by dsimp only;decide) (h.pick (A:=KerA kb (pk4 (s:Int)))) fun fs4 w h=>?_
 rw[p5 hp hr] at h⊢;dsimp only at h⊢;refine h.al fun w1 h=>?_
 generalize w.heap.size=e4 at h⊢;refine h.stLc rfl rfl fun w h=>?_
 (try dsimp only[putAt,List.set_cons_zero,List.set_cons_succ] at h)
 refine ⟨_,h.ldc rfl, ?_⟩;refine cneF rfl ?_;rw[show IntKind.i64.wrap ((4:Int)+1)=5 from by decide];have h:Vc.Own w0.heap.size w0 w (BlkA e4 [.int .i64 0, .int .u64 0, .int .i64 (-1), .slice fs4.a fs4.len fs4.cap]::SlT lneE fs4 []::KerA kb (pk5 (s:Int) p (andI .i64 (andI .i64 7 (s:Int)) (r:Int)))::BlkA ab [.int .i64 0, .int .i64 1, .int .i64 20, .int .i64 6, .int .i64 0, .int .i64 1, .int .i64 0, .int .i64 1, .int .i64 21, .int .i64 7, .int .i64 0, .int .i64 1, .int .i64 12, .int .i64 21, .int .i64 3, .int .i64 0, .int .i64 0, .int .i64 0, .int .i64 1, .int .i64 20, .int .i64 22, .int .i64 (s:Int), .int .i64 0, .int .i64 0, .int .i64 13, .int .i64 22, .int .i64 3, .int .i64 (p:Int), .int .i64 (r:Int), .int .i64 0]::[]):=h;have h:Vc.Own w0.heap.size w0 w (KerA kb (pk5 (s:Int) p (andI .i64 (andI .i64 7 (s:Int)) (r:Int)))::BlkA ab [.int .i64 0, .int .i64 1, .int .i64 20, .int .i64 6, .int .i64 0, .int .i64 1, .int .i64 0, .int .i64 1, .int .i64 21, .int .i64 7, .int .i64 0, .int .i64 1, .int .i64 12, .int .i64 21, .int .i64 3, .int .i64 0, .int .i64 0, .int .i64 0, .int .i64 1, .int .i64 20, .int .i64 22, .int .i64 (s:Int), .int .i64 0, .int .i64 0, .int .i64 13, .int .i64 22, .int .i64 3, .int .i64 (p:Int), .int .i64 (r:Int), .int .i64 0]::[]):=h.sub;apply hl12;refine cdecF (by omega) ?_;have h:Vc.Own w0.heap.size w0 w (KerA kb (pk5 (s:Int) p (andI .i64 (andI .i64 7 (s:Int)) (r:Int)))::[]):=h.sub;refine Pages_spec (n:=0) h fun ps w h=>?_
 rw[pp5] at h;have hl:=h.lenc ps;simp only[List.length_singleton] at hl;refine Do_spec (core:=0) (c:=⟨3,20,0,0,0,0⟩) k5 (by decide) (by dsimp only;decide) (by dsimp only;decide) (h.pick (A:=KerA kb (pk5 (s:Int) p (andI .i64 (andI .i64 7 (s:Int)) (r:Int))))) fun fa w h=>?_
 rw[p6 (s:Int) p (andI .i64 (andI .i64 7 (s:Int)) (r:Int))] at h⊢;dsimp only at h⊢;refine h.al fun w1 h=>?_
 generalize w.heap.size=oa at h⊢;refine h.stLc rfl rfl fun w h=>?_
 (try dsimp only[putAt,List.set_cons_zero,List.set_cons_succ] at h)
 have h:Vc.Own w0.heap.size w0 w (BlkA oa [.int .i64 0, .int .u64 0, .int .i64 (-1), .slice fa.a fa.len fa.cap]::SlT lneE fa []::KerA kb (pk6 (s:Int) p (andI .i64 (andI .i64 7 (s:Int)) (r:Int)))::_):=h;refine Do_spec (core:=0) (c:=⟨3,22,0,0,0,0⟩) k6 (by decide) (by dsimp only;decide) (by dsimp only;decide) (h.pick (A:=KerA kb (pk6 (s:Int) p (andI .i64 (andI .i64 7 (s:Int)) (r:Int))))) fun fb w h=>?_
 rw[p7 (s:Int) p (andI .i64 (andI .i64 7 (s:Int)) (r:Int))] at h⊢;dsimp only at h⊢;refine h.al fun w1 h=>?_
 generalize w.heap.size=ob at h⊢;refine h.stLc rfl rfl fun w h=>?_
 (try dsimp only[putAt,List.set_cons_zero,List.set_cons_succ] at h)
 have h:Vc.Own w0.heap.size w0 w (BlkA ob [.int .i64 0, .int .u64 0, .int .i64 (-1), .slice fb.a fb.len fb.cap]::SlT lneE fb [⟨0,(p:Int),0,(andI .i64 (andI .i64 7 (s:Int)) (r:Int))⟩]::KerA kb (pk7 (s:Int) p (andI .i64 (andI .i64 7 (s:Int)) (r:Int)))::_):=h;have hla:=h.lenc fa;have hlb:=h.lenc fb;simp only[List.length_singleton,List.length_nil] at hla hlb;refine ceqT (by omega) ?_;refine h.ixc (s:=ps) (i:=0) (j:=0) (x:=((p:Int),(0,(andI .i64 (andI .i64 7 (s:Int)) (r:Int))))) rfl rfl fun a ha h0 hc=>⟨_,h0 _ rfl, ?_⟩
 refine cbT (by simp) ?_
 refine h.ixc (s:=ps) (i:=0) (j:=0) (x:=((p:Int),(0,(andI .i64 (andI .i64 7 (s:Int)) (r:Int))))) rfl rfl fun a ha h0 hc=>⟨(andI .i64 (andI .i64 7 (s:Int)) (r:Int)),by
  rw[Addr.add_add];exact hc 2 _ rfl, ?_⟩
 refine ceqT eturn ?_;refine ⟨_,h.ldc rfl,cbT rfl ?_⟩;refine ⟨fa,h.ldd rfl, ?_⟩;refine ceqT (by omega) ?_;refine ⟨_,h.ldc rfl,cbT rfl ?_⟩;refine ⟨fb,h.ldd rfl, ?_⟩;refine ceqT (by omega) ?_;refine ⟨fb,h.ldd rfl, ?_⟩;refine h.ixc (s:=fb) (i:=0) (j:=0) (x:=⟨0,(p:Int),0,(andI .i64 (andI .i64 7 (s:Int)) (r:Int))⟩) rfl rfl fun a ha h0 hc=>⟨(p:Int),hc 1 _ rfl, ?_⟩
 refine cbT (by simp) ?_;refine Pages_spec (n:=0) (h.pick (A:=KerA kb (pk7 (s:Int) p (andI .i64 (andI .i64 7 (s:Int)) (r:Int))))) fun ps2 w h=>?_
 rw[pp7] at h;have hl2:=h.lenc ps2;simp only[List.length_nil] at hl2;refine ceqT (by omega) ?_;exact fixed_spec h fun w h=>hK w h.sub
end Go.Proofs.YtogmbmdbgkopjaaGreat
end
section
set_option maxRecDepth 100000
namespace Go.Proofs.YtogmbmdbgkopjaaGreat
open Go Go.Vc Go.Proofs
def ik0:Ker:=Ker.bootK 1 12 1 [5]
theorem ik0_b:BOk 1 5 ik0:=(bootK_ok (c:=1) (bits:=12) (lines:=1) (prios:=[5]) (by decide) (by decide) (by decide) rfl (by decide)).1
def ik1:Ker:=(ik0.do 0 ⟨0,1,20,5,0,1⟩).2
theorem i1:(ik0.do 0 ⟨0,1,20,5,0,1⟩).1=⟨0,0, -1,[]⟩:=by kernel_rfl
theorem ik1_ok:KOk 65 ik1:=ik0_b.ok.do (by decide) 0 ⟨0,1,20,5,0,1⟩
def ik2 (g:Int):Ker:={ ik1.setT (ik1.t.pickC 0) with H:=Sl.updH ik1.H (0,21) (some ⟨5,0,andI .i64 7 7,g,0,0⟩),T:=(Tr.addN ik1.T (0,20) (0,21)).2}
theorem i2 {b:Int}:ik1.do 0 ⟨1,20,21,7,b,0⟩=(⟨0,0, -1,[]⟩,ik2 (IntKind.u64.wrap b)):=by
 have h1:(ik1.t.pickC 0).runs? 0=some 0:=by kernel_rfl
 have h2:ik1.heldB 20 0=true:=by kernel_rfl
 have h3:ik1.capAt 20=⟨5,0,7,0,0,0⟩:=by kernel_rfl
 rw[do_asks (c:=⟨1,20,21,7,b,0⟩) h1 (by show (0:Int)≤1;decide) (by show (1:Int)<17;decide) h2 (by
  show andI .i64 (ik1.capAt 20).rights 0=0;rw[h3];kernel_rfl)]
 show (ik1.setT (ik1.t.pickC 0)).asks ⟨0,0,⟨1,20,21,7,b,0⟩,(0,20),ik1.capAt 20⟩=_;rw[h3]
 have h4:=mint_yes (k:=ik1.setT (ik1.t.pickC 0)) (d:=⟨0,0,⟨1,20,21,7,b,0⟩,(0,20),⟨5,0,7,0,0,0⟩⟩) (kind:=5) (obj:=0) (ik1_ok.pick 0) rfl (.inr rfl) (by decide) (by dsimp only;decide) (by dsimp only;decide) (by
  show ik1.H (0,21)=none;kernel_rfl)
 show Ker.tell ((ik1.setT (ik1.t.pickC 0)).mint ⟨0,0,⟨1,20,21,7,b,0⟩,(0,20),⟨5,0,7,0,0,0⟩⟩).1 ((ik1.setT (ik1.t.pickC 0)).mint ⟨0,0,⟨1,20,21,7,b,0⟩,(0,20),⟨5,0,7,0,0,0⟩⟩).2=_;rw[h4];rfl
section
variable (g:Int)
def ik3:Ker:=((ik2 g).do 0 ⟨15,4,21,0,0,0⟩).2
theorem i3:((ik2 g).do 0 ⟨15,4,21,0,0,0⟩).1=⟨0,0, -1,[]⟩:=by kernel_rfl
theorem i4:((ik3 g).do 0 ⟨11,20,0,0,0,1⟩).1=⟨0,0, -1,[]⟩:=by kernel_rfl
end
end Go.Proofs.YtogmbmdbgkopjaaGreat
end
