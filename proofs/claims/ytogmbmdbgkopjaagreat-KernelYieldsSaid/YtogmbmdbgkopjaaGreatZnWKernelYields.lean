/- What the row rests on: the law, at the model and walked. -/
import Derived.Test.YtogmbmdbgkopjaaGreatZn8
set_option linter.unusedVariables false
set_option linter.unusedSimpArgs false
set_option linter.unusedSectionVars false
section
set_option maxRecDepth 8000
namespace Go.Proofs.YtogmbmdbgkopjaaGreat
open Go Go.Vc Go.Proofs
section
variable {N:Nat} {k:Ker} {d:Dng}
theorem freeK_yes {w:Int} {n:Nat} (h0:0≤w) (h1:w+n≤64) (h:∀i:Nat,i<n->k.H (0,w+(i:Int))=none):k.freeK w n=0:=by
 unfold Ker.freeK;rw[if_neg (by omega),if_neg];rw[List.any_eq_true];rintro ⟨i,hi,hc⟩;have hi:=List.mem_range.1 hi;unfold Ker.capAt at hc;rw[h i hi] at hc;simp only[Option.getD_none,ite_self] at hc;revert hc;decide
end
end Go.Proofs.YtogmbmdbgkopjaaGreat
end
section
set_option maxRecDepth 100000
namespace Go.Proofs.YtogmbmdbgkopjaaGreat
open Go Go.Vc Go.Proofs
def bk0:Ker:=Ker.bootK 1 12 0 [5]
theorem bk0_b:BOk 1 4 bk0:=(bootK_ok (c:=1) (bits:=12) (lines:=0) (prios:=[5]) (by decide) (by decide) (by decide) rfl (by decide)).1
section
variable {N:Nat} {k:Ker} {d:Dng}
theorem do_asks {core cur:Int} {c:Call} (hr:(k.t.pickC core).runs? core=some cur) (h0:0≤c.ask) (h1:c.ask<17) (hb:k.heldB c.at_ (Ker.needK c.ask).1=true) (hg:andI .i64 (k.capAt c.at_).rights (Ker.needK c.ask).2=(Ker.needK c.ask).2):
  k.do core c=(k.setT (k.t.pickC core)).asks ⟨core,cur,c,(0,c.at_),k.capAt c.at_⟩:=by
 unfold Ker.do
 rw[hr];dsimp only;rw[if_neg (by omega),if_neg (by omega)];unfold Ker.asked;have h2:(k.setT (k.t.pickC core)).heldB c.at_ (Ker.needK c.ask).1=k.heldB c.at_ (Ker.needK c.ask).1:=rfl;have h3:(k.setT (k.t.pickC core)).capAt c.at_=k.capAt c.at_:=rfl;rw[h2,h3,if_neg (by rw[hb];decide),if_neg (by rw[hg];exact fun h=>h rfl)]
theorem mintC_badge {kind obj r g:Int} (hk:kind=4∨kind=5) (ho:0≤obj/\obj<2147483648) (hr:0≤r/\r≤7):Ker.mintC ⟨kind,obj,7,0,0,0⟩ r g=(⟨kind,obj,andI .i64 7 r,g,0,0⟩,0):=by
 have he:Sl.capErr ⟨kind,obj,7,0,0,0⟩=0:=capErr_new (by omega) ho;unfold Ker.mintC;rw[if_neg (by rw[he];exact fun h=>h rfl),if_neg (fun h=>h hr),if_neg]
 ·dsimp only
  have hl:Sl.limitedB kind=true:=by rcases hk with rfl|rfl<;>rfl
  rw[if_pos hl];by_cases e:g=0
  ·subst e;rfl
  ·rw[if_pos e]
 ·have hb:Sl.badgedB kind=true:=by rcases hk with rfl|rfl<;>rfl
  rintro (h|⟨_,h|h⟩)
  ·dsimp only at h;omega
  ·dsimp only at h;rw[hb] at h;cases h
  ·exact h rfl
theorem mint_yes (hk:KOk N k) {kind obj:Int} (hc:d.c=⟨kind,obj,7,0,0,0⟩) (hkd:kind=4∨kind=5) (ho:0≤obj/\obj<2147483648) (hr:0≤d.call.a/\d.call.a≤7) (hw:0≤d.call.with_/\d.call.with_<64) (hn:k.H (0,d.call.with_)=none):
  k.mint d=(0,{ k with H:=Sl.updH k.H (0,d.call.with_) (some ⟨kind,obj,andI .i64 7 d.call.a,IntKind.u64.wrap d.call.b,0,0⟩),T:=(Tr.addN k.T d.s (0,d.call.with_)).2}):=by
 have hm:=mintC_badge (g:=IntKind.u64.wrap d.call.b) hkd ho hr;have he:Sl.capErr ⟨kind,obj,7,0,0,0⟩=0:=capErr_new (by omega) ho;obtain ⟨m1,m2,m3,m4⟩:=mintC_ok (r:=d.call.a) (g:=IntKind.u64.wrap d.call.b) he (by rw[hm]);rw[hm] at m1 m2;unfold Ker.mint;rw[hc,hm];dsimp only;rw[if_neg (by omega),if_neg,if_neg (fun h=>h rfl)]
 ·unfold Ker.laid
  rw[hk.put (t:=(0,d.call.with_)) ⟨rfl,hw.1,hw.2⟩ hn m1 (by dsimp only;omega)]
 ·have:=freeK_yes (k:=k) (w:=d.call.with_) (n:=1) hw.1 (by omega) (fun i hi=>by
   obtain rfl:i=0:=by omega
   rw[show d.call.with_+((0:Nat):Int)=d.call.with_ from by omega];exact hn)
  rw[this];exact fun h=>h rfl
end
end Go.Proofs.YtogmbmdbgkopjaaGreat
end
section
set_option maxRecDepth 100000
namespace Go.Proofs.YtogmbmdbgkopjaaGreat.Th
open Go Go.Vc Go.Proofs Go.Proofs.YtogmbmdbgkopjaaGreat
theorem next_uni {Q:Qs} {p:Nat} (hp:p<256) (h:∀x∈Q,x.1=p):nextR Q=Q.head?.map (·.2):=by
 have hline:∀q,lineOf Q q=if q=p then Q.map (·.2) else []:=fun q=>by
  unfold lineOf;by_cases e:q=p
  ·rw[if_pos e,List.filter_eq_self.2 fun x hx=>by simpa [e] using h x hx]
  ·rw[if_neg e,List.filter_eq_nil_iff.2 fun x hx=>by simp;rw[h x hx];exact fun e2=>e e2.symm];rfl
 cases Q with
 |nil=>
  have:topO ([]:Qs)=none:=topB_none_mk fun q hq=>by unfold some1 lineOf;rfl
  unfold nextR;rw[this];rfl
 |cons x Q=>
  have hx:=h x (by simp);have:topO (x::Q)=some p:=topB_at hp (by unfold some1;rw[hline,if_pos rfl];rfl) fun q h1 h2=>by unfold some1;rw[hline,if_neg (by omega)];rfl
  unfold nextR;rw[this];simp only[Option.bind_some];rw[hline,if_pos rfl];rfl
def Mt.lineUpH (m:Mt) (n:Int):Mt:=(m.setTh n { m.th n with st:=1}).setQ (m.th n).co (m.q (m.th n).co++ [((m.th n).pr.toNat,n)])
def Mt.pickH (m:Mt) (c:Int):Mt:=if m.isC c then (match (m.q c).head?.map (·.2) with
 |none=>m
 |some n=>if m.run c= -1 then (m.leave n 2).setR c n else
  if (m.th n).pr≤(m.th (m.run c)).pr then m else (((m.leave (m.run c) 1).lineUp (m.run c)).leave n 2).setR c n) else m
theorem lineUp_H {m:Mt} {n:Int} {p:Nat} (hp:p<256) (h1:(m.th n).pr=(p:Int)) (h2:wh (m.q (m.th n).co) n=none):m.lineUp n=m.lineUpH n:=by
 unfold Mt.lineUp Mt.lineUpH putR;rw[if_neg (by omega),h2]
theorem pick_H {m:Mt} {c:Int} {p:Nat} (hp:p<256) (h:(m.q c).map (·.1)=List.replicate (m.q c).length p):m.pickC c=m.pickH c:=by
 have e:=next_uni (Q:=m.q c) hp fun x hx=>by
  have:x.1∈(m.q c).map (·.1):=List.mem_map.2 ⟨x,hx,rfl⟩;rw[h] at this;exact (List.mem_replicate.1 this).2
 unfold Mt.pickC Mt.pick Mt.pickH;rw[e];cases (m.q c).head?.map (·.2)<;>rfl
theorem pick_stay {m:Mt} {c:Int} {p:Nat} (hp:p<256) (hc:m.isC c=true) (hall:(m.q c).map (·.1)=List.replicate (m.q c).length p) (hr:decide (m.run c= -1)=false) (h1:((m.q c).head?.map fun x=>(m.th x.2).pr)=some (p:Int)) (h2:(m.th (m.run c)).pr=(p:Int)):m.pickC c=m:=by
 rw[pick_H hp hall];unfold Mt.pickH;rw[if_pos hc];cases hq:m.q c with
 |nil=>rfl
 |cons x r=>
  rw[hq] at h1;have h1:(m.th x.2).pr=(p:Int):=by simpa using h1
  dsimp only[List.head?_cons,Option.map_some];rw[if_neg (of_decide_eq_false hr),if_pos (by rw[h1,h2];exact Int.le_refl _)]
def yuM (N p r:Nat):Mt:=⟨(List.range N).map fun j=>⟨if j=r then 2 else 1,(p:Int),0,5,fun _=>0⟩,[(List.range (N-1)).map fun (k:Nat)=>(p,Int.ofNat ((r+1+k)%N))],[(r:Int)]⟩
def yM (n p i:Nat) (e:Bool):Mt:=⟨(List.range (n+1)).map fun j=>⟨if j=0 then 2 else if j≤i then 1 else 0,if j≤i∨(e=true/\j=i+1) then (p:Int) else 0,0,5,fun _=>0⟩,[(List.range i).map fun (k:Nat)=>(p,Int.ofNat (k+1))],[0]⟩
theorem y_boot {p:Nat} (hp:p<256):((((newM 1).makeR (p:Int) 0).2.2.resumeR ((newM 1).makeR (p:Int) 0).1).2.pickC 0)=yuM 1 p 0/\((newM 1).makeR (p:Int) 0).1=0:=by
 have hm:(newM 1).makeR (p:Int) 0=(0,0,(newM 1).make (p:Int) 0):=by
  unfold Mt.makeR;rw[if_neg (fun h=>h ⟨by omega,by omega,by kernel_rfl⟩),if_neg (by decide)];rfl
 rw[hm];refine ⟨?_,rfl⟩;have h1:(((newM 1).make (p:Int) 0).resumeR 0).2=((newM 1).make (p:Int) 0).lineUp 0:=by kernel_rfl
 show (((newM 1).make (p:Int) 0).resumeR 0).2.pickC 0=_;rw[h1,lineUp_H hp (by kernel_rfl) (by kernel_rfl),pick_H hp (by kernel_rfl)];kernel_rfl
theorem yfour {n:Nat} (h1:1≤n) (h4:n≤4):n=1∨n=2∨n=3∨n=4:=by omega
theorem ythree {i:Nat} (h:i<4):i=0∨i=1∨i=2∨i=3:=by omega
theorem y_stay0 {n p:Nat} {e:Bool} (h1:1≤n) (h4:n≤4):(yM n p 0 e).pickC 0=yM n p 0 e:=by
 rcases yfour h1 h4 with rfl|rfl|rfl|rfl<;>cases e<;>(show _=_;kernel_rfl)
theorem y_stay {n p i:Nat} {e:Bool} (hp:p<256) (h1:1≤n) (h4:n≤4) (hi:i≤n):(yM n p i e).pickC 0=yM n p i e:=by
 have hi5:i=0∨i=1∨i=2∨i=3∨i=4:=by omega
 rcases hi5 with rfl|hi5
 ·exact y_stay0 h1 h4
 rcases yfour h1 h4 with rfl|rfl|rfl|rfl<;>rcases hi5 with rfl|rfl|rfl|rfl<;>cases e<;>
  first
  |omega
  |exact pick_stay hp (by kernel_rfl) (by kernel_rfl) (by kernel_rfl) (by kernel_rfl) (by kernel_rfl)
theorem y_prio {n p i:Nat} (hp:p<256) (h1:1≤n) (h4:n≤4) (hi:i<n):(yM n p i false).prioR ((i:Int)+1) (p:Int)=(0,yM n p i true):=by
 have hT:(yM n p i false).isT ((i:Int)+1)=true:=by
  rcases yfour h1 h4 with rfl|rfl|rfl|rfl<;>rcases ythree (show i<4 by omega) with rfl|rfl|rfl|rfl<;>first|omega|kernel_rfl
 have hs:((yM n p i false).th ((i:Int)+1)).st=0:=by
  rcases yfour h1 h4 with rfl|rfl|rfl|rfl<;>rcases ythree (show i<4 by omega) with rfl|rfl|rfl|rfl<;>first|omega|kernel_rfl
 unfold Mt.prioR;rw[if_neg (by rw[hT];decide),if_neg (fun h=>h ⟨by omega,by omega⟩),if_neg (by rw[hs];decide)]
 have hfin:(yM n p i false).setTh ((i:Int)+1) {(yM n p i false).th ((i:Int)+1) with pr:=(p:Int)}=yM n p i true:=by
  clear hT hs;rcases yfour h1 h4 with rfl|rfl|rfl|rfl<;>rcases ythree (show i<4 by omega) with rfl|rfl|rfl|rfl<;>first|omega|kernel_rfl
 exact congrArg (Prod.mk 0) hfin
theorem y_resume {n p i:Nat} (hp:p<256) (h1:1≤n) (h4:n≤4) (hi:i<n):(yM n p i true).resumeR ((i:Int)+1)=(0,yM n p (i+1) false):=by
 have hT:(yM n p i true).isT ((i:Int)+1)=true:=by
  rcases yfour h1 h4 with rfl|rfl|rfl|rfl<;>rcases ythree (show i<4 by omega) with rfl|rfl|rfl|rfl<;>first|omega|kernel_rfl
 have hs:((yM n p i true).th ((i:Int)+1)).st=0:=by
  rcases yfour h1 h4 with rfl|rfl|rfl|rfl<;>rcases ythree (show i<4 by omega) with rfl|rfl|rfl|rfl<;>first|omega|kernel_rfl
 unfold Mt.resumeR;rw[if_neg (by rw[hT];decide),if_neg (by rw[hs];decide)]
 have hfin:(yM n p i true).lineUp ((i:Int)+1)=yM n p (i+1) false:=by
  clear hT hs
  rcases yfour h1 h4 with rfl|rfl|rfl|rfl<;>rcases ythree (show i<4 by omega) with rfl|rfl|rfl|rfl<;>
   first
   |omega
   |(rw[lineUp_H hp (by kernel_rfl) (by kernel_rfl)]
     kernel_rfl)
 exact congrArg (Prod.mk 0) hfin
theorem y_done {n p:Nat} (h1:1≤n) (h4:n≤4):yM n p n false=yuM (n+1) p 0:=by
 rcases yfour h1 h4 with rfl|rfl|rfl|rfl<;>kernel_rfl
theorem yfive {N:Nat} (h1:2≤N) (h5:N≤5):N=2∨N=3∨N=4∨N=5:=by omega
theorem yr {r:Nat} (h:r<5):r=0∨r=1∨r=2∨r=3∨r=4:=by omega
theorem u_stay {N p r:Nat} (hp:p<256) (h1:2≤N) (h5:N≤5) (hr:r<N):(yuM N p r).pickC 0=yuM N p r:=by
 rcases yfive h1 h5 with rfl|rfl|rfl|rfl<;>rcases yr (show r<5 by omega) with rfl|rfl|rfl|rfl|rfl<;>
  first
  |omega
  |exact pick_stay hp (by kernel_rfl) (by kernel_rfl) (by kernel_rfl) (by kernel_rfl) (by kernel_rfl)
def yu0 (N p r:Nat):Mt:=((yuM N p r).setTh (r:Int) {(yuM N p r).th (r:Int) with le:=5}).leave (r:Int) 1
theorem u_yield {N p r:Nat} (hp:p<256) (h1:2≤N) (h5:N≤5) (hr:r<N):(yuM N p r).yield 0=yuM N p ((r+1)%N):=by
 have ha:(yuM N p r).yield 0=((yu0 N p r).lineUp (r:Int)).pickC 0:=by
  rcases yfive h1 h5 with rfl|rfl|rfl|rfl<;>rcases yr (show r<5 by omega) with rfl|rfl|rfl|rfl|rfl<;>first|omega|kernel_rfl
 refine ha.trans ?_;clear ha
 rcases yfive h1 h5 with rfl|rfl|rfl|rfl<;>rcases yr (show r<5 by omega) with rfl|rfl|rfl|rfl|rfl<;>
  first
  |omega
  |(rw[lineUp_H hp (by kernel_rfl) (by kernel_rfl),pick_H hp (by kernel_rfl)]
    show _=_;kernel_rfl)
theorem u_runs {N p r:Nat} (h1:2≤N) (h5:N≤5) (hr:r<N):(yuM N p r).runs? 0=some (r:Int):=by
 rcases yfive h1 h5 with rfl|rfl|rfl|rfl<;>rcases yr (show r<5 by omega) with rfl|rfl|rfl|rfl|rfl<;>first|omega|kernel_rfl
theorem y_runs {n p i:Nat} {e:Bool} (h1:1≤n) (h4:n≤4) (hi:i≤n):(yM n p i e).runs? 0=some 0:=by
 rcases yfour h1 h4 with rfl|rfl|rfl|rfl<;>rcases yr (show i<5 by omega) with rfl|rfl|rfl|rfl|rfl<;>first|omega|kernel_rfl
end Go.Proofs.YtogmbmdbgkopjaaGreat.Th
end
section
set_option maxRecDepth 100000
namespace Go.Proofs.YtogmbmdbgkopjaaGreat
open Go Go.Vc Go.Proofs
def yG (t:Th.Mt) (id:Int):Ker:=(((((Ker.newK 1 12).rootK 0 2 0).rootK 1 1 0).setT t).rootK 2 3 id).rootK 3 8 0
def yk0 (p:Nat):Ker:=yG (Th.yuM 1 p 0) 0
theorem yboot {p:Nat} (hp:p<256):Ker.bootK 1 12 0 [(p:Int)]=yk0 p:=by
 obtain ⟨h1,h2⟩:=Th.y_boot hp;have h:Ker.bootK 1 12 0 [(p:Int)]=yG ((((Th.newM 1).makeR (p:Int) 0).2.2.resumeR ((Th.newM 1).makeR (p:Int) 0).1).2.pickC 0) ((Th.newM 1).makeR (p:Int) 0).1:=by kernel_rfl
 rw[h,h1,h2];rfl
def yC (n:Nat):Call:=⟨0,1,20,3,0,(n:Int)⟩
def yB (n:Nat):Ker:=(bk0.do 0 (yC n)).2
theorem y1 {n p:Nat} (h1:1≤n) (h4:n≤4):(yk0 p).do 0 (yC n)=(⟨0,0, -1,[]⟩,(yB n).setT (Th.yM n p 0 false)):=by
 rcases Th.yfour h1 h4 with rfl|rfl|rfl|rfl<;>(show _=_;kernel_rfl)
theorem yB_cap {n i:Nat} (h1:1≤n) (h4:n≤4) (hi:i<n):(yB n).capAt (20+(i:Int))=⟨3,(i:Int)+1,7,0,0,0⟩/\(yB n).heldB (20+(i:Int)) 3=true:=by
 rcases Th.yfour h1 h4 with rfl|rfl|rfl|rfl<;>rcases Th.ythree (show i<4 by omega) with rfl|rfl|rfl|rfl<;>first|omega|exact ⟨by kernel_rfl,by kernel_rfl⟩
theorem yM_st {n p i:Nat} (h1:1≤n) (h4:n≤4) (hi:i<n):((Th.yM n p i true).th ((i:Int)+1)).st=0:=by
 rcases Th.yfour h1 h4 with rfl|rfl|rfl|rfl<;>rcases Th.ythree (show i<4 by omega) with rfl|rfl|rfl|rfl<;>first|omega|(show _=_;kernel_rfl)
theorem and0 (x:Int):andI .i64 x 0=0:=by
 obtain ⟨q,hq,e⟩:=Sl.andle x 0 (by decide);have:q=0:=by omega
 rw[this] at e;exact e
theorem y7 {n p i:Nat} (hp:p<256) (h1:1≤n) (h4:n≤4) (hi:i<n):((yB n).setT (Th.yM n p i false)).do 0 ⟨7,20+(i:Int),0,(p:Int),0,0⟩=(⟨0,0, -1,[]⟩,(yB n).setT (Th.yM n p i true)):=by
 obtain ⟨c1,c2⟩:=yB_cap h1 h4 hi;have hs:=Th.y_stay (e:=false) hp h1 h4 (Nat.le_of_lt hi);have hr:=Th.y_runs (p:=p) (e:=false) h1 h4 (Nat.le_of_lt hi)
 have ha:=do_asks (k:=(yB n).setT (Th.yM n p i false)) (core:=0) (cur:=0) (c:=⟨7,20+(i:Int),0,(p:Int),0,0⟩) (by
  show ((Th.yM n p i false).pickC 0).runs? 0=some 0;rw[hs];exact hr) (by show (0:Int)≤7;decide) (by show (7:Int)<17;decide) c2 (and0 _)
 rw[ha];show Ker.tell (((Th.yM n p i false).pickC 0).prioR ((yB n).capAt (20+(i:Int))).obj (p:Int)).1 ((yB n).setT (((Th.yM n p i false).pickC 0).prioR ((yB n).capAt (20+(i:Int))).obj (p:Int)).2)=_;rw[hs,c1,show (Th.yM n p i false).prioR (⟨3,(i:Int)+1,7,0,0,0⟩:Cap).obj (p:Int)=_ from Th.y_prio hp h1 h4 hi];rfl
theorem y5 {n p i:Nat} (hp:p<256) (h1:1≤n) (h4:n≤4) (hi:i<n):((yB n).setT (Th.yM n p i true)).do 0 ⟨5,20+(i:Int),0,0,0,0⟩=(⟨0,0,(i:Int)+1,[]⟩,(yB n).setT (Th.yM n p (i+1) false)):=by
 obtain ⟨c1,c2⟩:=yB_cap h1 h4 hi;have hs:=Th.y_stay (e:=true) hp h1 h4 (Nat.le_of_lt hi);have hr:=Th.y_runs (p:=p) (e:=true) h1 h4 (Nat.le_of_lt hi);have hst:=yM_st (p:=p) h1 h4 hi
 have ha:=do_asks (k:=(yB n).setT (Th.yM n p i true)) (core:=0) (cur:=0) (c:=⟨5,20+(i:Int),0,0,0,0⟩) (by
  show ((Th.yM n p i true).pickC 0).runs? 0=some 0;rw[hs];exact hr) (by show (0:Int)≤5;decide) (by show (5:Int)<17;decide) c2 (and0 _)
 rw[ha];show Ker.tellW (((yB n).setT ((Th.yM n p i true).pickC 0)).resume ⟨0,0,⟨5,20+(i:Int),0,0,0,0⟩,(0,20+(i:Int)),(yB n).capAt (20+(i:Int))⟩)=_;rw[hs,c1];unfold Ker.resume;dsimp only
 rw[if_neg (fun h=>by
  have:((Th.yM n p i true).th ((i:Int)+1)).st=3:=h.2;rw[hst] at this;cases this)]
 unfold Ker.woken;show Ker.tellW ((((Th.yM n p i true).resumeR ((i:Int)+1)).1,if ((Th.yM n p i true).resumeR ((i:Int)+1)).1=0 then (i:Int)+1 else -1,((yB n).setT (Th.yM n p i true)).setT ((Th.yM n p i true).resumeR ((i:Int)+1)).2))=_;rw[Th.y_resume hp h1 h4 hi,if_pos rfl];rfl
theorem y17 {n p r:Nat} (hp:p<256) (h1:1≤n) (h4:n≤4) (hr:r<n+1):((yB n).setT (Th.yuM (n+1) p r)).do 0 ⟨17,0,0,0,0,0⟩=(⟨0,0, -1,[]⟩,(yB n).setT (Th.yuM (n+1) p ((r+1)%(n+1)))):=by
 have hs:=Th.u_stay (N:=n+1) (r:=r) hp (by omega) (by omega) hr;have hru:=Th.u_runs (N:=n+1) (p:=p) (r:=r) (by omega) (by omega) hr;have hy:=Th.u_yield (N:=n+1) (r:=r) hp (by omega) (by omega) hr;unfold Ker.do
 have e1:((yB n).setT (Th.yuM (n+1) p r)).t=Th.yuM (n+1) p r:=rfl;rw[e1,hs,hru];dsimp only;rw[if_neg (by omega),if_pos rfl,hy];rfl
end Go.Proofs.YtogmbmdbgkopjaaGreat
end
section
set_option maxRecDepth 8000
namespace Go.Proofs.YtogmbmdbgkopjaaGreat
open Go Go.Vc Go.Proofs
set_option maxHeartbeats 2000000 in
theorem law18_KernelYields_spec {w0 w:World} {n1 prio:Int} {K:Bool->World->Prop} (w1:(Lit.int .i64 n1).wf=true) (w2:(Lit.int .i64 prio).wf=true) (h:Vc.Own w0.heap.size w0 w []) (hK:∀w',Vc.Own w0.heap.size w0 w' []->K true w'):C.qbu n1 prio K w:=by
 apply S.qbu0;unfold S.qbu;obtain ⟨q,hq,eq⟩:=Sl.andle n1 3 (by decide);obtain ⟨p,hp,ep⟩:=Sl.andle prio 255 (by decide);have eq:andI .i64 n1 3=(q:Int):=eq;have ep:andI .i64 prio 255=(p:Int):=ep;have en:IntKind.i64.wrap (1+(q:Int))=((q+1:Nat):Int):=by rw[wr (by omega) (by omega)];omega
 have en2:IntKind.i64.wrap (((q+1:Nat):Int)+1)=((q+1+1:Nat):Int):=by rw[wr (by omega) (by omega)];omega
 rw[eq,ep,en,en2];obtain ⟨n,hn⟩:∃n,n=q+1:=⟨_,rfl⟩
 rw[←hn];have n1':1≤n:=by omega
 have n4:n≤4:=by omega
 have hp:p<256:=by omega
 clear hn eq ep en en2 w1 w2 hq
 have k0:KOk 1 (yk0 p):=by
  rw[←yboot hp];exact (bootK_ok (c:=1) (bits:=12) (lines:=0) (prios:=[(p:Int)]) (by decide) (by decide) (by decide) rfl (fun x hx=>by simp at hx;omega)).1.ok
 refine h.al fun w1 h=>?_
 generalize w.heap.size=pb at h⊢;have h:=h.asSl (E:=intE) [(p:Int)] rfl;have hrB:Ker.rightB 1 12 0 [(p:Int)]=true:=decide_eq_true ⟨by decide,by decide,by decide,by decide,by decide,by decide,rfl,fun x hx=>by simp at hx;omega⟩;refine Boot_spec (s:=⟨some ⟨pb,0,none⟩,1,1⟩) (prios:=[(p:Int)]) h (by simp) (fun e=>by rw[hrB] at e;cases e) fun _ kb w h=>?_
 have h:Vc.Own w0.heap.size w0 w (KerA kb (yk0 p)::SlT intE ⟨some ⟨pb,0,none⟩,1,1⟩ [(p:Int)]::[]):=by
  rw[←yboot hp];exact h
 have h:Vc.Own w0.heap.size w0 w (KerA kb (yk0 p)::[]):=h.sub;intro k7 hk7;refine cbF rfl (hk7 _ _ (cbF rfl ?_));refine Do_spec (core:=0) (c:=yC n) k0 (by decide) (by show (-9223372036854775808:Int)≤20;decide) (by show (20:Int)<9223372036854775808;decide) h fun f1 w h=>?_
 have k1:KOk 65 ((yB n).setT (Th.yM n p 0 false)):=by
  have:=k0.do (by decide) 0 (yC n)
  rw[y1 n1' n4] at this;exact this
 rw[y1 n1' n4] at h⊢;dsimp only at h⊢;refine h.al fun w1 h=>?_
 generalize w.heap.size=o1 at h⊢;refine h.stLc rfl rfl fun w h=>?_
 (try dsimp only[putAt,List.set_cons_zero,List.set_cons_succ] at h)
 have h:Vc.Own w0.heap.size w0 w (BlkA o1 [.int .i64 0, .int .u64 0, .int .i64 (-1), .slice f1.a f1.len f1.cap]::SlT lneE f1 []::KerA kb ((yB n).setT (Th.yM n p 0 false))::[]):=h;have h:Vc.Own w0.heap.size w0 w (KerA kb ((yB n).setT (Th.yM n p 0 false))::BlkA o1 [.int .i64 0, .int .u64 0, .int .i64 (-1), .slice f1.a f1.len f1.cap]::[]):=h.sub;intro l17 hl17
 have loop:∀(d i M:Nat) (w:World),i+d=n->M+128*d≤1000->KOk M ((yB n).setT (Th.yM n p i false))->Vc.Own w0.heap.size w0 w (KerA kb ((yB n).setT (Th.yM n p i false))::BlkA o1 [.int .i64 0, .int .u64 0, .int .i64 (-1), .slice f1.a f1.len f1.cap]::[])->l17 (i:Int) w:=by
  intro d
  induction d with
  |succ d ih=>
   intro i M w hi hM hk h;have hin:i<n:=by omega
   apply hl17;refine cdecT (by omega) ?_;rw[show IntKind.i64.wrap (20+(i:Int))=20+(i:Int) from wr (by omega) (by omega)];refine Do_spec (core:=0) (c:=⟨7,20+(i:Int),0,(p:Int),0,0⟩) hk (by omega) (by show (-9223372036854775808:Int)≤0;decide) (by show (0:Int)<9223372036854775808;decide) h fun fa w h=>?_
   have hk2:=hk.do (by omega) 0 ⟨7,20+(i:Int),0,(p:Int),0,0⟩
   rw[y7 hp n1' n4 hin] at h hk2⊢;dsimp only at h hk2⊢;refine h.al fun w1 h=>?_
   generalize w.heap.size=oa at h⊢;refine h.stLc rfl rfl fun w h=>?_
   (try dsimp only[putAt,List.set_cons_zero,List.set_cons_succ] at h)
   have h:Vc.Own w0.heap.size w0 w (BlkA oa [.int .i64 0, .int .u64 0, .int .i64 (-1), .slice fa.a fa.len fa.cap]::SlT lneE fa []::KerA kb ((yB n).setT (Th.yM n p i true))::_):=h;refine Do_spec (core:=0) (c:=⟨5,20+(i:Int),0,0,0,0⟩) hk2 (by omega) (by show (-9223372036854775808:Int)≤0;decide) (by show (0:Int)<9223372036854775808;decide) (h.pick (A:=KerA kb ((yB n).setT (Th.yM n p i true)))) fun fb w h=>?_
   have hk3:=hk2.do (by omega) 0 ⟨5,20+(i:Int),0,0,0,0⟩
   rw[y5 hp n1' n4 hin] at h hk3⊢;dsimp only at h hk3⊢;refine h.al fun w1 h=>?_
   generalize w.heap.size=ob at h⊢;refine h.stLc rfl rfl fun w h=>?_
   (try dsimp only[putAt,List.set_cons_zero,List.set_cons_succ] at h)
   have h:Vc.Own w0.heap.size w0 w (BlkA ob [.int .i64 0, .int .u64 0, .int .i64 ((i:Int)+1), .slice fb.a fb.len fb.cap]::SlT lneE fb []::KerA kb ((yB n).setT (Th.yM n p (i+1) false))::_):=h;intro k34 hk34;refine ⟨_,h.ldc rfl, ?_⟩;refine cneF rfl ⟨_,h.ldc rfl, ?_⟩;refine cneF rfl ⟨_,h.ldd rfl, ?_⟩;rw[show IntKind.i64.wrap ((i:Int)+1)=((i+1:Nat):Int) from by rw[wr (by omega) (by omega)];omega];rw[show ((i:Int)+1 !=((i+1:Nat):Int))=false from by simp];apply hk34;refine cbF rfl ?_;rw[show IntKind.i64.wrap ((i:Int)+1)=((i+1:Nat):Int) from by rw[wr (by omega) (by omega)];omega];exact ih (i+1) (M+64+64) w (by omega) (by omega) hk3 h.sub
  |zero=>
   intro i M w hi hM hk h;apply hl17;refine cdecF (by omega) ?_;have hin:i=n:=hi
   have h:Vc.Own w0.heap.size w0 w (KerA kb ((yB n).setT (Th.yuM (n+1) p 0))::BlkA o1 [.int .i64 0, .int .u64 0, .int .i64 (-1), .slice f1.a f1.len f1.cap]::[]):=by
    rw[hin,Th.y_done n1' n4] at h;exact h
   have hk:KOk M ((yB n).setT (Th.yuM (n+1) p 0)):=by
    rw[hin,Th.y_done n1' n4] at hk;exact hk
   intro l40 hl40
   have loop2:∀(d j M:Nat) (w:World),j+d=20->M+64*d≤3000->KOk M ((yB n).setT (Th.yuM (n+1) p (j%(n+1))))->Vc.Own w0.heap.size w0 w (KerA kb ((yB n).setT (Th.yuM (n+1) p (j%(n+1))))::BlkA o1 [.int .i64 0, .int .u64 0, .int .i64 (-1), .slice f1.a f1.len f1.cap]::[])->l40 (j:Int) w:=by
    intro d
    induction d with
    |succ d ih=>
     intro j M w hj hM hk h;have hlt:j%(n+1)<n+1:=Nat.mod_lt _ (by omega);have hru:=Th.u_runs (N:=n+1) (p:=p) (r:=j%(n+1)) (by omega) (by omega) hlt;apply hl40;refine cdecT (by omega) ?_;refine Runs_spec hk h fun w h=>?_
     rw[show (((yB n).setT (Th.yuM (n+1) p (j%(n+1)))).t.runs? 0)=some ((j%(n+1):Nat):Int) from hru];refine Do_spec (core:=0) (c:=⟨17,0,0,0,0,0⟩) hk (by omega) (by decide) (by decide) h fun fa w h=>?_
     have hk2:=hk.do (by omega) 0 ⟨17,0,0,0,0,0⟩
     rw[y17 hp n1' n4 hlt] at h hk2⊢;dsimp only at h hk2⊢;have em:(j%(n+1)+1)%(n+1)=(j+1)%(n+1):=by rw[Nat.add_mod,Nat.mod_mod,←Nat.add_mod]
     rw[em] at h hk2;refine h.al fun w1 h=>?_
     generalize w.heap.size=oa at h⊢;refine h.stLc rfl rfl fun w h=>?_
     (try dsimp only[putAt,List.set_cons_zero,List.set_cons_succ] at h)
     have h:Vc.Own w0.heap.size w0 w (BlkA oa [.int .i64 0, .int .u64 0, .int .i64 (-1), .slice fa.a fa.len fa.cap]::SlT lneE fa []::KerA kb ((yB n).setT (Th.yuM (n+1) p ((j+1)%(n+1))))::_):=h;intro k53 hk53;refine cbF rfl ⟨by omega, ?_⟩;refine cneF (show ((j%(n+1):Nat):Int)=(j:Int).tmod ((n+1:Nat):Int) from rfl) ?_;refine ⟨_,h.ldc rfl, ?_⟩;apply hk53;refine cbF rfl ?_;rw[show IntKind.i64.wrap ((j:Int)+1)=((j+1:Nat):Int) from by rw[wr (by omega) (by omega)];omega];exact ih (j+1) (M+64) w (by omega) (by omega) hk2 h.sub
    |zero=>
     intro j M w hj hM hk h;apply hl40;refine cdecF (by omega) ?_;refine ⟨_,h.ldc rfl,cbT rfl ?_⟩;exact fixed_spec h fun w h=>hK w h.sub
   refine loop2 20 0 M w (by omega) (by omega) ?_ ?_
   ·rw[Nat.zero_mod];exact hk
   ·rw[Nat.zero_mod];exact h
 exact loop n 0 65 w (by omega) (by omega) k1 h
end Go.Proofs.YtogmbmdbgkopjaaGreat
end
section
set_option maxRecDepth 100000
namespace Go.Proofs.YtogmbmdbgkopjaaGreat
open Go Go.Vc Go.Proofs
def nc1:Call:=⟨0,1,20,4,0,1⟩
def nk1:Ker:=(bk0.do 0 nc1).2
theorem n1:(bk0.do 0 nc1).1=⟨0,0, -1,[]⟩:=by kernel_rfl
theorem nk1_ok:KOk 65 nk1:=bk0_b.ok.do (by decide) 0 nc1
def nk2 (r g:Int):Ker:={ nk1.setT (nk1.t.pickC 0) with H:=Sl.updH nk1.H (0,21) (some ⟨4,0,andI .i64 7 r,g,0,0⟩),T:=(Tr.addN nk1.T (0,20) (0,21)).2}
theorem n2 {r b:Int} (hr:0≤r/\r≤7):nk1.do 0 ⟨1,20,21,r,b,0⟩=(⟨0,0, -1,[]⟩,nk2 r (IntKind.u64.wrap b)):=by
 have h1:(nk1.t.pickC 0).runs? 0=some 0:=by kernel_rfl
 have h2:nk1.heldB 20 0=true:=by kernel_rfl
 have h3:nk1.capAt 20=⟨4,0,7,0,0,0⟩:=by kernel_rfl
 rw[do_asks (c:=⟨1,20,21,r,b,0⟩) h1 (by show (0:Int)≤1;decide) (by show (1:Int)<17;decide) h2 (by
  show andI .i64 (nk1.capAt 20).rights 0=0;rw[h3];kernel_rfl)]
 show (nk1.setT (nk1.t.pickC 0)).asks ⟨0,0,⟨1,20,21,r,b,0⟩,(0,20),nk1.capAt 20⟩=_;rw[h3]
 have h4:=mint_yes (k:=nk1.setT (nk1.t.pickC 0)) (d:=⟨0,0,⟨1,20,21,r,b,0⟩,(0,20),⟨4,0,7,0,0,0⟩⟩) (kind:=4) (obj:=0) (nk1_ok.pick 0) rfl (.inl rfl) (by decide) hr (by dsimp only;decide) (by
  show nk1.H (0,21)=none;kernel_rfl)
 show Ker.tell ((nk1.setT (nk1.t.pickC 0)).mint ⟨0,0,⟨1,20,21,r,b,0⟩,(0,20),⟨4,0,7,0,0,0⟩⟩).1 ((nk1.setT (nk1.t.pickC 0)).mint ⟨0,0,⟨1,20,21,r,b,0⟩,(0,20),⟨4,0,7,0,0,0⟩⟩).2=_;rw[h4];rfl
def qk1:Ker:=(bk0.do 0 ⟨0,1,20,4,0,1⟩).2
theorem q1:(bk0.do 0 ⟨0,1,20,4,0,1⟩).1=⟨0,0, -1,[]⟩:=by kernel_rfl
theorem qk1_ok:KOk 65 qk1:=bk0_b.ok.do (by decide) 0 ⟨0,1,20,4,0,1⟩
def qk2:Ker:=(qk1.do 0 ⟨0,1,21,3,0,1⟩).2
theorem q2:(qk1.do 0 ⟨0,1,21,3,0,1⟩).1=⟨0,0, -1,[]⟩:=by kernel_rfl
theorem qk2_ok:KOk 129 qk2:=qk1_ok.do (by decide) 0 ⟨0,1,21,3,0,1⟩
def qk3 (g:Int):Ker:={ qk2.setT (qk2.t.pickC 0) with H:=Sl.updH qk2.H (0,22) (some ⟨4,0,andI .i64 7 2,g,0,0⟩),T:=(Tr.addN qk2.T (0,20) (0,22)).2}
theorem q3 {b:Int}:qk2.do 0 ⟨1,20,22,2,b,0⟩=(⟨0,0, -1,[]⟩,qk3 (IntKind.u64.wrap b)):=by
 have h1:(qk2.t.pickC 0).runs? 0=some 0:=by kernel_rfl
 have h2:qk2.heldB 20 0=true:=by kernel_rfl
 have h3:qk2.capAt 20=⟨4,0,7,0,0,0⟩:=by kernel_rfl
 rw[do_asks (c:=⟨1,20,22,2,b,0⟩) h1 (by show (0:Int)≤1;decide) (by show (1:Int)<17;decide) h2 (by
  show andI .i64 (qk2.capAt 20).rights 0=0;rw[h3];kernel_rfl)]
 show (qk2.setT (qk2.t.pickC 0)).asks ⟨0,0,⟨1,20,22,2,b,0⟩,(0,20),qk2.capAt 20⟩=_;rw[h3]
 have h4:=mint_yes (k:=qk2.setT (qk2.t.pickC 0)) (d:=⟨0,0,⟨1,20,22,2,b,0⟩,(0,20),⟨4,0,7,0,0,0⟩⟩) (kind:=4) (obj:=0) (qk2_ok.pick 0) rfl (.inl rfl) (by decide) (by dsimp only;decide) (by dsimp only;decide) (by
  show qk2.H (0,22)=none;kernel_rfl)
 show Ker.tell ((qk2.setT (qk2.t.pickC 0)).mint ⟨0,0,⟨1,20,22,2,b,0⟩,(0,20),⟨4,0,7,0,0,0⟩⟩).1 ((qk2.setT (qk2.t.pickC 0)).mint ⟨0,0,⟨1,20,22,2,b,0⟩,(0,20),⟨4,0,7,0,0,0⟩⟩).2=_;rw[h4];rfl
section
variable (g:Int)
def qk4:Ker:=((qk3 g).do 0 ⟨7,21,0,5,0,0⟩).2
theorem q4:((qk3 g).do 0 ⟨7,21,0,5,0,0⟩).1=⟨0,0, -1,[]⟩:=by kernel_rfl
def qk5:Ker:=((qk4 g).do 0 ⟨5,21,0,0,0,0⟩).2
theorem q5:((qk4 g).do 0 ⟨5,21,0,0,0,0⟩).1=⟨0,0,1,[]⟩:=by kernel_rfl
def qk6:Ker:=((qk5 g).do 0 ⟨9,20,0,0,0,1⟩).2
theorem q6:((qk5 g).do 0 ⟨9,20,0,0,0,1⟩).1=⟨0,0, -1,[]⟩:=by kernel_rfl
theorem q7 (label word:Int):((qk6 g).do 0 ⟨8,22,0,label,word,0⟩).1=⟨0,0,0,[]⟩:=by kernel_rfl
end
section
variable {N:Nat} {k:Ker} {d:Dng}
theorem mintC_plain {obj r:Int} (ho:0≤obj/\obj<2147483648) (hr:0≤r/\r≤7):Ker.mintC ⟨6,obj,7,0,0,0⟩ r 0=(⟨6,obj,andI .i64 7 r,0,0,0⟩,0):=by
 have he:Sl.capErr ⟨6,obj,7,0,0,0⟩=0:=capErr_new (by omega) ho;unfold Ker.mintC;rw[if_neg (by rw[he];exact fun h=>h rfl),if_neg (fun h=>h hr),if_neg]
 ·rfl
 ·rintro (h|⟨h,_⟩)
  ·dsimp only at h;omega
  ·exact h rfl
theorem mint_plain (hk:KOk N k) {obj:Int} (hc:d.c=⟨6,obj,7,0,0,0⟩) (ho:0≤obj/\obj<2147483648) (hr:0≤d.call.a/\d.call.a≤7) (hb:d.call.b=0) (hw:0≤d.call.with_/\d.call.with_<64) (hn:k.H (0,d.call.with_)=none):
  k.mint d=(0,{ k with H:=Sl.updH k.H (0,d.call.with_) (some ⟨6,obj,andI .i64 7 d.call.a,0,0,0⟩),T:=(Tr.addN k.T d.s (0,d.call.with_)).2}):=by
 have hm:=mintC_plain ho hr;have he:Sl.capErr ⟨6,obj,7,0,0,0⟩=0:=capErr_new (by omega) ho;obtain ⟨m1,m2,m3,m4⟩:=mintC_ok (r:=d.call.a) (g:=0) he (by rw[hm]);rw[hm] at m1 m2;have hw0:IntKind.u64.wrap 0=0:=by kernel_rfl
 unfold Ker.mint;rw[hc,hb,hw0,hm];dsimp only;rw[if_neg (by omega),if_neg,if_neg (fun h=>h rfl)]
 ·unfold Ker.laid
  rw[hk.put (t:=(0,d.call.with_)) ⟨rfl,hw.1,hw.2⟩ hn m1 (by dsimp only;omega)]
 ·have:=freeK_yes (k:=k) (w:=d.call.with_) (n:=1) hw.1 (by omega) (fun i hi=>by
   obtain rfl:i=0:=by omega
   rw[show d.call.with_+((0:Nat):Int)=d.call.with_ from by omega];exact hn)
  rw[this];exact fun h=>h rfl
end
def pk1:Ker:=(bk0.do 0 ⟨0,1,20,6,0,1⟩).2
theorem p1:(bk0.do 0 ⟨0,1,20,6,0,1⟩).1=⟨0,0, -1,[]⟩:=by kernel_rfl
theorem pk1_ok:KOk 65 pk1:=bk0_b.ok.do (by decide) 0 ⟨0,1,20,6,0,1⟩
def pk2:Ker:=(pk1.do 0 ⟨0,1,21,7,0,1⟩).2
theorem p2:(pk1.do 0 ⟨0,1,21,7,0,1⟩).1=⟨0,0, -1,[]⟩:=by kernel_rfl
theorem pk2_ok:KOk 129 pk2:=pk1_ok.do (by decide) 0 ⟨0,1,21,7,0,1⟩
def pk3:Ker:=(pk2.do 0 ⟨12,21,3,0,0,0⟩).2
theorem p3:(pk2.do 0 ⟨12,21,3,0,0,0⟩).1=⟨0,0, -1,[]⟩:=by kernel_rfl
theorem pk3_ok:KOk 193 pk3:=pk2_ok.do (by decide) 0 ⟨12,21,3,0,0,0⟩
def pk4 (s:Int):Ker:={ pk3.setT (pk3.t.pickC 0) with H:=Sl.updH pk3.H (0,22) (some ⟨6,0,andI .i64 7 s,0,0,0⟩),T:=(Tr.addN pk3.T (0,20) (0,22)).2}
theorem p4 {s:Int} (hs:0≤s/\s≤7):pk3.do 0 ⟨1,20,22,s,0,0⟩=(⟨0,0, -1,[]⟩,pk4 s):=by
 have h1:(pk3.t.pickC 0).runs? 0=some 0:=by kernel_rfl
 have h2:pk3.heldB 20 0=true:=by kernel_rfl
 have h3:pk3.capAt 20=⟨6,0,7,0,0,0⟩:=by kernel_rfl
 rw[do_asks (c:=⟨1,20,22,s,0,0⟩) h1 (by show (0:Int)≤1;decide) (by show (1:Int)<17;decide) h2 (by
  show andI .i64 (pk3.capAt 20).rights 0=0;rw[h3];kernel_rfl)]
 show (pk3.setT (pk3.t.pickC 0)).asks ⟨0,0,⟨1,20,22,s,0,0⟩,(0,20),pk3.capAt 20⟩=_;rw[h3]
 have h4:=mint_plain (k:=pk3.setT (pk3.t.pickC 0)) (d:=⟨0,0,⟨1,20,22,s,0,0⟩,(0,20),⟨6,0,7,0,0,0⟩⟩) (obj:=0) (pk3_ok.pick 0) rfl (by decide) hs rfl (by dsimp only;decide) (by
  show pk3.H (0,22)=none;kernel_rfl)
 show Ker.tell ((pk3.setT (pk3.t.pickC 0)).mint ⟨0,0,⟨1,20,22,s,0,0⟩,(0,20),⟨6,0,7,0,0,0⟩⟩).1 ((pk3.setT (pk3.t.pickC 0)).mint ⟨0,0,⟨1,20,22,s,0,0⟩,(0,20),⟨6,0,7,0,0,0⟩⟩).2=_;rw[h4];rfl
def pk5 (s:Int) (p:Nat) (v:Int):Ker:=((pk4 s).setT ((pk4 s).t.pickC 0)).setS 0 {(pk4 s).sAt 0 with pg:=[((p:Int),(0,v))]}
theorem p5 {s r:Int} {p:Nat} (hp:p≤63) (hr:0≤r/\r≤7):(pk4 s).do 0 ⟨13,22,3,(p:Int),r,0⟩=(⟨0,0, -1,[]⟩,pk5 s p (andI .i64 (andI .i64 7 s) r)):=by
 have h1:((pk4 s).t.pickC 0).runs? 0=some 0:=by kernel_rfl
 have h2:(pk4 s).heldB 22 6=true:=by kernel_rfl
 have h3:(pk4 s).capAt 22=⟨6,0,andI .i64 7 s,0,0,0⟩:=by kernel_rfl
 have ha:=and7 (andI .i64 7 s) r hr
 rw[do_asks (c:=⟨13,22,3,(p:Int),r,0⟩) h1 (by show (0:Int)≤13;decide) (by show (13:Int)<17;decide) h2 (by
  show andI .i64 ((pk4 s).capAt 22).rights 0=0;obtain ⟨q,hq,e⟩:=Sl.andle ((pk4 s).capAt 22).rights 0 (by decide);have:q=0:=by omega
  rw[this] at e;exact e)]
 show ((pk4 s).setT ((pk4 s).t.pickC 0)).asks ⟨0,0,⟨13,22,3,(p:Int),r,0⟩,(0,22),(pk4 s).capAt 22⟩=_;rw[h3];show ((pk4 s).setT ((pk4 s).t.pickC 0)).mapped ⟨0,0,⟨13,22,3,(p:Int),r,0⟩,(0,22),⟨6,0,andI .i64 7 s,0,0,0⟩⟩=_;unfold Ker.mapped;have h4:((pk4 s).setT ((pk4 s).t.pickC 0)).heldB 3 8=true:=by kernel_rfl
 have h5:(((pk4 s).setT ((pk4 s).t.pickC 0)).capAt 3).obj=0:=by kernel_rfl
 dsimp only;rw[if_neg (by rw[h4];decide),h5]
 have h6:((pk4 s).sAt 0).mapR (p:Int) (0,andI .i64 (andI .i64 7 s) r)=(0,{(pk4 s).sAt 0 with pg:=[((p:Int),(0,andI .i64 (andI .i64 7 s) r))]}):=by
  unfold Tb.Spc.mapR;rw[if_neg (fun h=>h ⟨by omega,by omega,Int.le_refl 0,ha.1,ha.2⟩)];have e0:(p:Int).toNat / 64=0:=by rw[Int.toNat_natCast];omega
  rw[e0];have e1:((pk4 s).sAt 0).tb 0=some 0:=by kernel_rfl
  have e2:((pk4 s).sAt 0).pg= []:=by kernel_rfl
  rw[e1,if_neg (by simp),e2];rfl
 have h7:((pk4 s).setT ((pk4 s).t.pickC 0)).sAt 0=(pk4 s).sAt 0:=rfl;rw[h7,h6];rfl
section
variable (s:Int) (p:Nat) (v:Int)
theorem p6:((pk5 s p v).do 0 ⟨3,20,0,0,0,0⟩).1=⟨0,0, -1,[]⟩:=by kernel_rfl
end
def ik0:Ker:=Ker.bootK 1 12 1 [5]
theorem ik0_b:BOk 1 5 ik0:=(bootK_ok (c:=1) (bits:=12) (lines:=1) (prios:=[5]) (by decide) (by decide) (by decide) rfl (by decide)).1
def ik1:Ker:=(ik0.do 0 ⟨0,1,20,5,0,1⟩).2
theorem i1:(ik0.do 0 ⟨0,1,20,5,0,1⟩).1=⟨0,0, -1,[]⟩:=by kernel_rfl
theorem ik1_ok:KOk 65 ik1:=ik0_b.ok.do (by decide) 0 ⟨0,1,20,5,0,1⟩
def ik2 (g:Int):Ker:={ ik1.setT (ik1.t.pickC 0) with H:=Sl.updH ik1.H (0,21) (some ⟨5,0,andI .i64 7 7,g,0,0⟩),T:=(Tr.addN ik1.T (0,20) (0,21)).2}
theorem i2 {b:Int}:ik1.do 0 ⟨1,20,21,7,b,0⟩=(⟨0,0, -1,[]⟩,ik2 (IntKind.u64.wrap b)):=by
 have h1:(ik1.t.pickC 0).runs? 0=some 0:=by kernel_rfl
 have h2:ik1.heldB 20 0=true:=by kernel_rfl
 have h3:ik1.capAt 20=⟨5,0,7,0,0,0⟩:=by kernel_rfl
 rw[do_asks (c:=⟨1,20,21,7,b,0⟩) h1 (by show (0:Int)≤1;decide) (by show (1:Int)<17;decide) h2 (by
  show andI .i64 (ik1.capAt 20).rights 0=0;rw[h3];kernel_rfl)]
 show (ik1.setT (ik1.t.pickC 0)).asks ⟨0,0,⟨1,20,21,7,b,0⟩,(0,20),ik1.capAt 20⟩=_;rw[h3]
 have h4:=mint_yes (k:=ik1.setT (ik1.t.pickC 0)) (d:=⟨0,0,⟨1,20,21,7,b,0⟩,(0,20),⟨5,0,7,0,0,0⟩⟩) (kind:=5) (obj:=0) (ik1_ok.pick 0) rfl (.inr rfl) (by decide) (by dsimp only;decide) (by dsimp only;decide) (by
  show ik1.H (0,21)=none;kernel_rfl)
 show Ker.tell ((ik1.setT (ik1.t.pickC 0)).mint ⟨0,0,⟨1,20,21,7,b,0⟩,(0,20),⟨5,0,7,0,0,0⟩⟩).1 ((ik1.setT (ik1.t.pickC 0)).mint ⟨0,0,⟨1,20,21,7,b,0⟩,(0,20),⟨5,0,7,0,0,0⟩⟩).2=_;rw[h4];rfl
section
variable (g:Int)
def ik3:Ker:=((ik2 g).do 0 ⟨15,4,21,0,0,0⟩).2
theorem i3:((ik2 g).do 0 ⟨15,4,21,0,0,0⟩).1=⟨0,0, -1,[]⟩:=by kernel_rfl
theorem i4:((ik3 g).do 0 ⟨11,20,0,0,0,1⟩).1=⟨0,0, -1,[]⟩:=by kernel_rfl
end
end Go.Proofs.YtogmbmdbgkopjaaGreat
end
