/- What the row rests on: the declarations that it needs, out of my texts (part 4). -/
import Derived.Test.YtlhljbbfckbjpaaGreatZe3
set_option linter.unusedVariables false
set_option linter.unusedSimpArgs false
set_option linter.unusedSectionVars false
section
set_option maxRecDepth 8000
namespace Go.Proofs.YtlhljbbfckbjpaaGreat
open Go Go.Vc Go.Proofs
structure FE where
 label:Int
 w0:Int
 w1:Int
 w2:Int
 w3:Int
 aB:Int
 calls:Bool
deriving DecidableEq
structure Wt where
 js:Int
 m:FE
deriving DecidableEq
def mw:cQ Wt:=⟨8,fun o=>[.z o.js, .z o.m.label, .y o.m.w0, .y o.m.w1, .y o.m.w2, .y o.m.w3, .y o.m.aB, .bool o.m.calls],fun _=>rfl,fun x v h=>by
 simp only[List.mem_cons,List.not_mem_nil,or_false] at h;rcases h with rfl|rfl|rfl|rfl|rfl|rfl|rfl|rfl<;>rfl,by decide⟩
theorem Hz {w:World} {a:Addr} {x:Wt} {f:Int->Int->Int->Int->Int->Int->Int->Bool->Prop} (g:∀c v,(mw.enc x)[c]?=some v->w.cell? (a.add c)=some v) (hf:f x.js x.m.label x.m.w0 x.m.w1 x.m.w2 x.m.w3 x.m.aB x.m.calls):
  az w a 0 [.o, .o, .u, .u, .u, .u, .u, .b] f:=⟨_,g 0 _ rfl,_,g 1 _ rfl,_,g 2 _ rfl,_,g 3 _ rfl,_,g 4 _ rfl,_,g 5 _ rfl,_,g 6 _ rfl,_,g 7 _ rfl,hf⟩
theorem D3:Tryz.prog.info? 357=some Tryz.t357:=by kernel_rfl
theorem F4:Tryz.t357.bytes=64:=by kernel_rfl
def Fy:FE:=⟨0,0,0,0,0,0,false⟩
def HW:Wt:=⟨0,Fy⟩
theorem FC (w:World):(zeroValue 357).run Tryz.prog w= .ok (.agg ⟨mw.enc HW⟩) w:=Tryz.zeroValue357 w
def cN {α:Type} (p:α->Bool) (xs:List α):Int:=match xs.findIdx? p with|some i=>(i:Int)|none=> -1
theorem iD {α:Type} (p:α->Bool) (xs:List α):decide (cN p xs≥0)=xs.any p:=by
 unfold cN;cases h:xs.findIdx? p with
 |none=>
  rw[List.findIdx?_eq_none_iff] at h;have:xs.any p=false:=by rw[List.any_eq_false];intro x hx;simp[h x hx]
  rw[this];rfl
 |some i=>
  obtain ⟨hi,hp,_⟩:=List.findIdx?_eq_some_iff_getElem.1 h;have:xs.any p=true:=List.any_eq_true.2 ⟨_,List.getElem_mem hi,hp⟩;rw[this];simp
section
variable {B:Nat} {w0 w:World} {R L:List aA} {s:Sl} {xs:List Wt}
theorem nJ {p:Wt->Bool} {f:Value} {K:Int->Pw} [I:bT s L Wt mw xs] (h:Ow B w0 w L) (hbig:xs.length≤1000000000)
  (hf:∀(y:Wt) (w:World) (Q:Bool->Pw),Ow B w0 w L->(∀w',Ow B w0 w' L->Q (p y) w')->bY Tryz.prog f [.agg ⟨mw.enc y⟩] w fun en w'=>∃r:Bool,en= .returned (.bool r)/\Q r w')
  (hK:∀w',Ow B w0 w' L->K (cN p xs) w'):C.qd s f K w:=by
 apply S.qd0;have hlen:=h.br s;intro l hl
 have loop:∀(rest:List Wt) (j:Nat) (w:World),xs.drop j=rest->j≤xs.length->(∀i,i<j->∀y,xs[i]?=some y->p y=false)->Ow B w0 w L->l (j:Int) w:=by
  intro rest
  induction rest with
  |nil=>
   intro j w hj hjl hno h;have:xs.length≤j:=by have:=congrArg List.length hj;simp at this;omega
   apply hl;refine aE om ?_
   have hn:xs.findIdx? p=none:=by
    rw[List.findIdx?_eq_none_iff];intro y hy;obtain ⟨i,hi⟩:=List.mem_iff_getElem?.1 hy;exact hno i (by have:=(List.getElem?_eq_some_iff.1 hi).1;omega) y hi
   have e:cN p xs= -1:=by unfold cN;rw[hn]
   rw[←e];exact hK _ h
  |cons y rest ih=>
   intro j w hj hjl hno h;have hjl2:j<xs.length:=by have:=congrArg List.length hj;simp at this;omega
   have hx:xs[j]?=some y:=by
    have:=congrArg (fun l=>l[0]?) hj;simpa using this
   apply hl;refine aR om ?_;refine h.dZ rfl hx fun a ha h0 hc=>?_
   refine Hz hc ?_;refine hf y w _ h fun w h=>?_
   cases hp:p y with
   |true=>
    refine bN rfl ?_
    have hn:xs.findIdx? p=some j:=by
     rw[List.findIdx?_eq_some_iff_getElem];refine ⟨hjl2, ?_,fun i hi=>?_⟩
     ·rw[gE hjl2] at hx;cases hx;exact hp
     ·have:=hno i hi xs[i] (gE om)
      simp[this]
    have e:cN p xs=(j:Int):=by unfold cN;rw[hn]
    rw[←e];exact hK _ h
   |false=>
    refine bD rfl ?_;rw[wr om om];refine ih (j+1) w (by rw[←List.drop_drop,hj];rfl) om (fun i hi z hz=>?_) h;by_cases e:i=j
    ·subst e;rw[hx] at hz;cases hz;exact hp
    ·exact hno i om z hz
 exact loop xs 0 w rfl om (fun i hi=>by omega) h
theorem ru {p:Wt->Bool} {f:Value} {K:Bool->Pw} [I:bT s L Wt mw xs] (h:Ow B w0 w L) (hbig:xs.length≤1000000000)
  (hf:∀(y:Wt) (w:World) (Q:Bool->Pw),Ow B w0 w L->(∀w',Ow B w0 w' L->Q (p y) w')->bY Tryz.prog f [.agg ⟨mw.enc y⟩] w fun en w'=>∃r:Bool,en= .returned (.bool r)/\Q r w')
  (hK:∀w',Ow B w0 w' L->K (xs.any p) w'):C.qg s f K w:=by
 apply S.qg0;refine nJ h hbig hf fun w h=>?_
 rw[iD];exact hK w h
theorem FV {y:Wt} {c:Nat} {k:Sl->Pw} [I:bT s L Wt mw xs] [J:dG (ah mw s xs) L R] (h:Ow B w0 w (aa c (mw.enc y)::L)) (hbig:xs.length≤1000000000)
  (hk:∀s' w',s'.len=xs.length+1->Ow B w0 w' (ah mw s' (xs++ [y])::R)->k s' w'):
  ∃s' w',bo Tryz.prog [388,388] 388 (.slice s.a s.len s.cap) (.slice (some (Addr.mk c 0 none)) 1 1) w s' w'/\k s' w':=
 Ow.fy (E:=mw) (y:=y) Tryz.underlying388 D3 (zv:= .agg ⟨mw.enc HW⟩) (by kernel_rfl) (by kernel_rfl) rfl (by decide) h (by rw[F4];omega) hk
theorem jx {α:Type} {xs:List α} {i j:Nat} {z:α} (hij:i<j) (hj:j≤xs.length):
  List.take (i+(xs.length-j)) (List.take (i+(xs.length-j)) (xs.take i++xs.drop j++xs.drop (i+(xs.length-j)))++List.replicate ((xs.take i++xs.drop j++xs.drop (i+(xs.length-j))).length-(i+(xs.length-j))) z)=xs.take i++xs.drop j:=by
 have hl2:(xs.take i++xs.drop j).length=i+(xs.length-j):=by simp;omega
 rw[List.take_append_of_le_length (by simp;omega),List.take_take,Nat.min_self,←hl2,List.take_left]
theorem By {i j:Nat} {K:Sl->Pw} (h:Ow B w0 w (ah mw s xs::R)) (hij:i<j) (hj:j≤xs.length) (hbig:xs.length≤1000000000)
  (hK:∀s' w',Ow B w0 w' (ah mw s' (xs.take i++xs.drop j)::R)->K s' w'):C.qj s (i:Int) (j:Int) K w:=by
 apply S.qj0;have hlen:=h.br s;have hcap:=h.jN.fo;refine ⟨om,om,om,om,om,om, ?_⟩;refine vN om ?_;refine h.dr fun w h=>?_
 refine ⟨om,om,om,om,a2 ?_⟩;simp only[Int.toNat_natCast];refine h.sw (E:=mw) Tryz.underlying388 D3 (by kernel_rfl) om hj om fun w h=>?_
 dsimp only;refine ⟨om,om,om,om, ?_⟩;refine Ow.clear (E:=mw) (z0:=HW) (n:=i+(xs.length-j)) Tryz.underlying388 FC rfl h 0 rfl (by simp;omega) fun w h=>?_
 have hp:=h.pre 0 rfl (n:=i+(xs.length-j)) (by simp;omega);refine hK _ w ?_;rw[jx hij hj] at hp;exact hp
theorem ly (xs:List Wt) (q:Wt->Bool) (j:Nat) (x:Wt) (hx:xs[j]?=some x):(xs.take (j+1)).filter q=(xs.take j).filter q++if q x then [x] else []:=by
 rw[List.take_add_one,hx,List.filter_append];congr 1;simp only[Option.toList_some,List.filter_cons,List.filter_nil]
theorem tQ {fv:Value} {p:Wt->Bool} {K:Sl->Pw} (h:Ow B w0 w (ah mw s xs::L)) (hbig:xs.length≤1000000000)
  (hf:∀(N:List aA) (y:Wt) (w:World) (Q:Bool->Pw),Ow B w0 w (N++L)->(∀w',Ow B w0 w' (N++L)->Q (p y) w')->bY Tryz.prog fv [.agg ⟨mw.enc y⟩] w fun en w'=>∃r:Bool,en= .returned (.bool r)/\Q r w')
  (hK:∀s' w',Ow B w0 w' (ah mw s' (xs.filter fun x=> !p x)::L)->K s' w'):C.qh s fv K w:=by
 apply S.qh0;have hlen:=h.br s;have hspot:=(h.vg 0 rfl).spot;refine nJ h hbig (fun y w Q h hQ=>hf [ah mw s xs] y w Q h hQ) fun w1 h=>?_
 unfold cN;cases hfi:xs.findIdx? p with
 |none=>
  refine bN rfl ?_
  have:xs.filter (fun x=> !p x)=xs:=by
   rw[List.filter_eq_self];intro x hx;rw[List.findIdx?_eq_none_iff] at hfi;simp[hfi x hx]
  have h2:=hK s w1;rw[this] at h2;exact h2 h
 |some i0=>
  obtain ⟨hi0,hp0,hbefore⟩:=List.findIdx?_eq_some_iff_getElem.1 hfi;refine bD (by simp) ?_;intro l hl;have hcap:=(h.vg 0 rfl).fo
  have key:∀(m j q:Nat) (ys:List Wt) (w:World),j+m=xs.length->ys.length=xs.length->ys.take q=(xs.take j).filter (fun x=> !p x)->q<j->q≤ys.length->ys.drop j=xs.drop j->
    Ow B w0 w (ah mw s ys::L)->l (q:Int) (j:Int) w:=by
   intro m
   induction m with
   |zero=>
    intro j q ys w hj hys hq hqj hqy hd h;apply hl;refine aE om ?_;refine ⟨om,om, ?_⟩;rw[Int.toNat_natCast];refine Ow.clear (E:=mw) (z0:=HW) (n:=q) Tryz.underlying388 FC rfl h 0 rfl om fun w2 h=>?_
    refine ⟨om,om, ?_⟩;have h3:=h.pre 0 rfl (n:=q) (by simp;omega)
    have e1:(ys.take q++List.replicate (ys.length-q) HW).take q=xs.filter (fun x=> !p x):=by
     rw[List.take_append_of_le_length (by simp;omega),List.take_take,Nat.min_self,hq,List.take_of_length_le om]
    rw[e1] at h3;rw[CU _ _ _ hspot];exact hK _ _ h3
   |succ m ih=>
    intro j q ys w hj hys hq hqj hqy hd h;have hjlt:j<xs.length:=by omega
    have hyj:ys[j]?=some xs[j]:=by
     have:=congrArg (fun l=>l[0]?) hd;simp only[List.getElem?_drop,Nat.add_zero] at this;rw[this,gE hjlt]
    apply hl;refine aR om ?_;refine h.dZ (s:=s) rfl hyj fun a ha h0 hc=>?_
    refine Hz hc ?_;have hft:=ly xs (fun x=> !p x) j _ (gE hjlt)
    have hd1:∀zs:List Wt,zs.drop j=xs.drop j->zs.drop (j+1)=xs.drop (j+1):=fun zs hz=>by
     rw[←List.drop_drop (i:=1) (j:=j),←List.drop_drop (i:=1) (j:=j),hz]
    generalize xs[j]=x at hyj hft hc;refine h.a fun d w' h=>?_;refine h.ax rfl rfl fun w h=>?_
    (try dsimp only[putAt,List.set_cons_zero,List.set_cons_succ] at h)
    refine h.Gl rfl ?_;refine hf [aa d (mw.enc x),ah mw s ys] x w _ h fun w h=>?_
    have h:Ow B w0 w (aa d (mw.enc x)::ah mw s ys::L):=h;rw[wI j om];cases hp:p x with
    |true=>
     refine bD rfl ?_;refine ih (j+1) q ys w om hys ?_ om hqy (hd1 ys hd) h.drop;rw[hq,hft,hp];simp
    |false=>
     refine bN rfl ?_;refine h.Gl rfl ?_;refine ⟨a,ha,om,om, ?_⟩;refine h.dz.yH (s:=s) x rfl om ha fun w h=>?_
     rw[wI q om];refine ih (j+1) (q+1) (ys.set q x) w om (by simpa using hys) ?_ om (by simp;omega) ?_ h.yy
     ·rw[hft,hp,List.take_add_one,List.getElem?_set_self om,List.take_set_of_le (Nat.le_refl _),hq];simp
     ·rw[List.drop_set_of_lt om];exact hd1 ys hd
  have h0:xs.take i0=(xs.take (i0+1)).filter (fun x=> !p x):=by
   rw[ly xs _ i0 _ (gE hi0),hp0];simp only[Bool.not_true,if_false,List.append_nil,Bool.false_eq_true]
   symm
   rw[List.filter_eq_self];intro x hx;obtain ⟨q,hq⟩:=List.mem_iff_getElem?.1 hx;rw[List.getElem?_take] at hq;split at hq
   ·rename_i hlt
    have:=hbefore q hlt;rw[gE om] at hq;cases hq;simpa using this
   ·cases hq
  rw[show IntKind.i64.wrap (((i0:Nat):Int)+1)=((i0+1:Nat):Int) from by rw[wr om om];omega];exact key (xs.length-(i0+1)) (i0+1) i0 xs w1 om rfl h0 om om rfl h
end
structure kI where
 l:List Wt
 lN:Bool
deriving DecidableEq
structure Met where
 is:Bool
 eS:Int
 to:Int
 m:FE
deriving DecidableEq
def mG:Met:=⟨false,0,0,Fy⟩
def kI.there (p:kI) (n:Int):Bool:=p.l.any fun o=>o.js==n
def kI.first (p:kI) (s:Bool):Option Wt × kI:=match p.l with
 | []=>(none,p)
 |o::r=>if p.lN=s then (some o,{ p with l:=r}) else (none,p)
def kI.send (p:kI) (n:Int) (m:FE) (waits:Bool):Met × Int × kI:=
 if p.there n then (mG,110,p) else match p.first false with
 |(some o,p')=>(⟨true,n,o.js,m⟩,0,p')
 |(none,_)=>(mG,0,if waits then ⟨p.l++ [⟨n,m⟩],true⟩ else p)
def kI.recv (p:kI) (n:Int) (waits:Bool):Met × Int × kI:=
 if p.there n then (mG,110,p) else match p.first true with
 |(some o,p')=>(⟨true,o.js,n,o.m⟩,0,p')
 |(none,_)=>(mG,0,if waits then ⟨p.l++ [⟨n,Fy⟩],false⟩ else p)
def kI.cancel (p:kI) (n:Int):kI:={ p with l:=p.l.filter fun o=> !(o.js==n)}
def cd (b:Nat) (p:kI):aA:=pV fun s:Sl=>bh [dX (p.l.length≤1000000),aa b [.slice s.a s.len s.cap, .bool p.lN],ah mw s p.l]
section
variable {B:Nat} {w0 w:World} {R L:List aA} {b:Nat} {p:kI}
theorem _root_.Go.Vc.Ow.Gb (h:Ow B w0 w (cd b p::R)):∃s:Sl,p.l.length≤1000000/\Ow B w0 w (aa b [.slice s.a s.len s.cap, .bool p.lN]::ah mw s p.l::R):=by
 obtain ⟨s,h⟩:=h.ex;obtain ⟨h1,h⟩:=Ow.pure h.star;exact ⟨s,h1,h⟩
theorem _root_.Go.Vc.Ow.mi {s:Sl} (h1:p.l.length≤1000000) (h:Ow B w0 w (aa b [.slice s.a s.len s.cap, .bool p.lN]::ah mw s p.l::R)):Ow B w0 w (cd b p::R):=
 Ow.eP s (Ow.aY (Ow.dN h1 h))
theorem HS {N:List aA} {c o:Nat} {l:List Value} {v:Value} (h:Ow B w0 w (N++aa c l::L)) (hv:l[o]?=some v):w.cell? ⟨c,o,none⟩=some v:=by
 exact Ow.jS (b:=c) (o:=o) (l:=l) h N.length (by rw[List.getElem?_append_right (Nat.le_refl _),Nat.sub_self];rfl) hv
theorem nR {K:Option Addr->Pw} (h:Ow B w0 w R) (hK:∀b w',Ow B w0 w' (cd b ⟨[],false⟩::R)->K (some ⟨b,0,none⟩) w'):C.qdh K w:=by
 apply S.qdh0;refine h.al fun w1 h=>?_
 exact hK _ w1 (Ow.mi (s:=⟨none,0,0⟩) (by simp) ((Ow.dK h).perm (List.Perm.swap _ _ _)))
theorem gY {n:Int} {K:Bool->Pw} (h:Ow B w0 w (cd b p::R)) (hK:∀w',Ow B w0 w' (cd b p::R)->K (p.there n) w'):C.qS (some ⟨b,0,none⟩) n K w:=by
 apply S.qS0;obtain ⟨s,hl,h⟩:=h.Gb;refine h.a fun c w1 h=>?_;refine ⟨_,rfl,s,h.aq rfl, ?_⟩;refine ru (s:=s) (xs:=p.l) (p:=fun o=>o.js==n) h om (fun y w Q h hQ=>?_) fun w h=>?_
 ·refine aP ?_
  show C.qal y.js y.m.label y.m.w0 y.m.w1 y.m.w2 y.m.w3 y.m.aB y.m.calls ⟨c,0,none⟩ Q w;apply S.qal0;refine h.a fun d w1 h=>?_;exact ⟨_,h.aq rfl,_,h.aq rfl,hQ _ h.drop⟩
 ·exact hK w (Ow.mi (s:=s) hl h.sub)
theorem gX {t:Bool} {K:Int->Int->Int->Int->Int->Int->Int->Bool->Bool->Pw} (h:Ow B w0 w (cd b p::R))
  (hK:∀w' o,o=((p.first t).1.getD HW)->Ow B w0 w' (cd b (p.first t).2::R)->K o.js o.m.label o.m.w0 o.m.w1 o.m.w2 o.m.w3 o.m.aB o.m.calls (p.first t).1.isSome w'):C.qT (some ⟨b,0,none⟩) t K w:=by
 apply S.qT0;obtain ⟨s,hl,h⟩:=h.Gb;have hlen:=h.br s;refine h.a fun c w1 h=>?_;intro k4 hk4
 have no:∀w,(p.first t)=(none,p)->Ow B w0 w (aa c [.z 0, .z 0, .y 0, .y 0, .y 0, .y 0, .y 0, .bool false]::aa b [.slice s.a s.len s.cap, .bool p.lN]::ah mw s p.l::R)->k4 true w:=fun w e h=>by
  rw[e] at hK;apply hk4;refine bN rfl ?_;refine h.ax rfl rfl fun w h=>?_
  (try dsimp only[putAt,List.set_cons_zero,List.set_cons_succ] at h)
  refine h.Gl rfl ?_;exact hK w HW rfl (Ow.mi (s:=s) hl h.sub)
 refine ⟨_,rfl,s,h.aq rfl, ?_⟩;cases hp:p.l with
 |nil=>
  have e:p.first t=(none,p):=by unfold kI.first;rw[hp]
  rw[hp] at hlen;refine rz (by simp at hlen;omega) ?_;exact no _ e h
 |cons o r=>
  rw[hp] at hlen;simp only[List.length_cons] at hlen;refine vN om ?_;refine ⟨_,rfl,p.lN,h.aq rfl, ?_⟩;by_cases e:p.lN=t
  ·have ef:p.first t=(some o,{ p with l:=r}):=by unfold kI.first;rw[hp];simp[e]
   rw[ef] at hK;rw[show (!(p.lN==t))=false from by simp[e]];apply hk4;refine bD rfl ?_;refine ⟨_,rfl,s,h.aq rfl, ?_⟩;have h0:p.l[0]?=some o:=by rw[hp];rfl
   refine h.dZ (s:=s) (i:=0) (j:=0) rfl h0 fun a ha hc0 hc=>Hz hc ?_
   (repeat (first|(refine h.al fun w h=>?_)|(refine h.dr fun w h=>?_)|(refine h.aL rfl ?_)|(refine h.aV rfl ?_)|(refine ⟨_,h.aq rfl, ?_⟩)|(refine ⟨_,h.ao rfl, ?_⟩)|(refine h.hd rfl ?_)|(refine ⟨h.aq rfl, ?_⟩)|(refine ⟨h.ao rfl, ?_⟩)|(refine h.ax rfl rfl fun w h=>?_)|(refine eC ?_)|(refine _root_.Go.Vc.a2 ?_)|(refine h.dy rfl rfl fun w h=>?_)|(refine h.cC rfl rfl fun w h=>?_)))
   (try dsimp only[putAt,List.set_cons_zero,List.set_cons_succ] at h)
   (repeat (first|(refine h.al fun w h=>?_)|(refine h.dr fun w h=>?_)|(refine h.aL rfl ?_)|(refine h.aV rfl ?_)|(refine ⟨_,h.aq rfl, ?_⟩)|(refine ⟨_,h.ao rfl, ?_⟩)|(refine h.hd rfl ?_)|(refine ⟨h.aq rfl, ?_⟩)|(refine ⟨h.ao rfl, ?_⟩)|(refine h.ax rfl rfl fun w h=>?_)|(refine eC ?_)|(refine _root_.Go.Vc.a2 ?_)|(refine h.dy rfl rfl fun w h=>?_)|(refine h.cC rfl rfl fun w h=>?_)))
   rw[hp] at h;refine By (i:=0) (j:=1) (h.pick (A:=ah mw s (o::r))) om (by simp) (by rw[hp] at hl;simp at hl⊢;omega) fun s' w h=>?_
   (repeat (first|(refine h.al fun w h=>?_)|(refine h.dr fun w h=>?_)|(refine h.aL rfl ?_)|(refine h.aV rfl ?_)|(refine ⟨_,h.aq rfl, ?_⟩)|(refine ⟨_,h.ao rfl, ?_⟩)|(refine h.hd rfl ?_)|(refine ⟨h.aq rfl, ?_⟩)|(refine ⟨h.ao rfl, ?_⟩)|(refine h.ax rfl rfl fun w h=>?_)|(refine eC ?_)|(refine _root_.Go.Vc.a2 ?_)|(refine h.dy rfl rfl fun w h=>?_)|(refine h.cC rfl rfl fun w h=>?_)))
   (try dsimp only[putAt,List.set_cons_zero,List.set_cons_succ] at h)
   (repeat (first|(refine h.al fun w h=>?_)|(refine h.dr fun w h=>?_)|(refine h.aL rfl ?_)|(refine h.aV rfl ?_)|(refine ⟨_,h.aq rfl, ?_⟩)|(refine ⟨_,h.ao rfl, ?_⟩)|(refine h.hd rfl ?_)|(refine ⟨h.aq rfl, ?_⟩)|(refine ⟨h.ao rfl, ?_⟩)|(refine h.ax rfl rfl fun w h=>?_)|(refine eC ?_)|(refine _root_.Go.Vc.a2 ?_)|(refine h.dy rfl rfl fun w h=>?_)|(refine h.cC rfl rfl fun w h=>?_)))
   (try dsimp only[putAt,List.set_cons_zero,List.set_cons_succ] at h)
   (repeat (first|(refine h.al fun w h=>?_)|(refine h.dr fun w h=>?_)|(refine h.aL rfl ?_)|(refine h.aV rfl ?_)|(refine ⟨_,h.aq rfl, ?_⟩)|(refine ⟨_,h.ao rfl, ?_⟩)|(refine h.hd rfl ?_)|(refine ⟨h.aq rfl, ?_⟩)|(refine ⟨h.ao rfl, ?_⟩)|(refine h.ax rfl rfl fun w h=>?_)|(refine eC ?_)|(refine _root_.Go.Vc.a2 ?_)|(refine h.dy rfl rfl fun w h=>?_)|(refine h.cC rfl rfl fun w h=>?_)))
   have h:Ow B w0 _ (ah mw s' r::_):=h;have h:Ow B w0 _ (aa b [.slice s'.a s'.len s'.cap, .bool p.lN]::ah mw s' r::R):=h.sub;refine hK _ o rfl (Ow.mi (s:=s') (by rw[hp] at hl;simp at hl⊢;omega) h)
  ·have ef:p.first t=(none,p):=by unfold kI.first;rw[hp];simp[e]
   rw[show (!(p.lN==t))=true from by simp[e]];exact no _ ef h
end
section
variable {B:Nat} {w0 w:World} {R L:List aA} {b:Nat} {p:kI}
theorem iz {o:Wt} {t:Bool} {K:Pw} (hbig:p.l.length<1000000) (h:Ow B w0 w (cd b p::R)) (hK:∀w',Ow B w0 w' (cd b ⟨p.l++ [o],t⟩::R)->K w'):
  C.qad (some ⟨b,0,none⟩) o.js o.m.label o.m.w0 o.m.w1 o.m.w2 o.m.w3 o.m.aB o.m.calls t K w:=by
 apply S.qad0;obtain ⟨s,hl,h⟩:=h.Gb;refine h.a fun c w1 h=>?_;refine h.dr fun w h=>?_
 refine ⟨_,rfl,s,h.aq rfl, ?_⟩;refine h.Gl rfl ⟨?_,trivial⟩;refine h.al fun w2 h=>⟨?_,trivial⟩
 generalize w.heap.size=d at h⊢;refine FV (s:=s) (y:=o) h om fun s' w hs' h=>⟨_,rfl, ?_⟩
 refine ⟨?_,trivial⟩;refine h.dy rfl rfl fun w h=>⟨_,rfl, ?_⟩
 refine ⟨?_,trivial⟩;refine h.dy rfl rfl fun w h=>?_
 (try dsimp only[putAt,List.set_cons_zero,List.set_cons_succ] at h)
 exact hK w (Ow.mi (s:=s') (by simp;omega) h.sub)
theorem iy {n:Int} {m:FE} {wt:Bool} {K:Bool->Int->Int->Int->Int->Int->Int->Int->Int->Bool->Int->Pw} (hbig:p.l.length<1000000) (h:Ow B w0 w (cd b p::R))
  (hK:∀w' x,x=(p.send n m wt).1->Ow B w0 w' (cd b (p.send n m wt).2.2::R)->K x.is x.eS x.to x.m.label x.m.w0 x.m.w1 x.m.w2 x.m.w3 x.m.aB x.m.calls (p.send n m wt).2.1 w'):
  C.qaa (some ⟨b,0,none⟩) n m.label m.w0 m.w1 m.w2 m.w3 m.aB m.calls wt K w:=by
 apply S.qaa0;refine h.a fun c w1 h=>?_;refine h.a fun d w2 h=>?_;refine gY (n:=n) h.nC fun w h=>?_
 unfold kI.send at hK;cases ht:p.there n with
 |true=>
  rw[ht] at hK;simp only[if_true] at hK;refine bN rfl ?_
  (repeat (first|(refine h.al fun w h=>?_)|(refine h.dr fun w h=>?_)|(refine h.aL rfl ?_)|(refine h.aV rfl ?_)|(refine ⟨_,h.aq rfl, ?_⟩)|(refine ⟨_,h.ao rfl, ?_⟩)|(refine h.hd rfl ?_)|(refine ⟨h.aq rfl, ?_⟩)|(refine ⟨h.ao rfl, ?_⟩)|(refine h.ax rfl rfl fun w h=>?_)|(refine eC ?_)|(refine _root_.Go.Vc.a2 ?_)|(refine h.dy rfl rfl fun w h=>?_)|(refine h.cC rfl rfl fun w h=>?_)))
  exact hK _ mG rfl h.sub
 |false=>
  rw[ht] at hK;simp only[Bool.false_eq_true,if_false] at hK;refine bD rfl ?_;refine gX (t:=false) h fun w o ho h=>?_
  refine h.a fun e w3 h=>?_;refine h.ax rfl rfl fun w h=>?_
  (try dsimp only[putAt,List.set_cons_zero,List.set_cons_succ] at h)
  cases hf:p.first false with
  |mk x p'=>
   rw[hf] at hK h ho;dsimp only at hK h ho;cases x with
   |some o'=>
    have ho:o=o':=ho;subst ho;refine bN rfl ?_
    (repeat (first|(refine h.al fun w h=>?_)|(refine h.dr fun w h=>?_)|(refine h.aL rfl ?_)|(refine h.aV rfl ?_)|(refine ⟨_,h.aq rfl, ?_⟩)|(refine ⟨_,h.ao rfl, ?_⟩)|(refine h.hd rfl ?_)|(refine ⟨h.aq rfl, ?_⟩)|(refine ⟨h.ao rfl, ?_⟩)|(refine h.ax rfl rfl fun w h=>?_)|(refine eC ?_)|(refine _root_.Go.Vc.a2 ?_)|(refine h.dy rfl rfl fun w h=>?_)|(refine h.cC rfl rfl fun w h=>?_)))
    (try dsimp only[putAt,List.set_cons_zero,List.set_cons_succ] at h)
    (repeat (first|(refine h.al fun w h=>?_)|(refine h.dr fun w h=>?_)|(refine h.aL rfl ?_)|(refine h.aV rfl ?_)|(refine ⟨_,h.aq rfl, ?_⟩)|(refine ⟨_,h.ao rfl, ?_⟩)|(refine h.hd rfl ?_)|(refine ⟨h.aq rfl, ?_⟩)|(refine ⟨h.ao rfl, ?_⟩)|(refine h.ax rfl rfl fun w h=>?_)|(refine eC ?_)|(refine _root_.Go.Vc.a2 ?_)|(refine h.dy rfl rfl fun w h=>?_)|(refine h.cC rfl rfl fun w h=>?_)))
    exact hK _ _ rfl (show Ow B w0 _ (cd b p'::R) from h.sub)
   |none=>
    have hp':p'=p:=by
     unfold kI.first at hf
     split at hf
     ·cases hf;rfl
     ·split at hf
      ·cases hf
      ·cases hf;rfl
    rw[hp'] at h;refine bD rfl ?_;cases wt with
    |true=>
     refine bN rfl ?_
     (repeat (first|(refine h.al fun w h=>?_)|(refine h.dr fun w h=>?_)|(refine h.aL rfl ?_)|(refine h.aV rfl ?_)|(refine ⟨_,h.aq rfl, ?_⟩)|(refine ⟨_,h.ao rfl, ?_⟩)|(refine h.hd rfl ?_)|(refine ⟨h.aq rfl, ?_⟩)|(refine ⟨h.ao rfl, ?_⟩)|(refine h.ax rfl rfl fun w h=>?_)|(refine eC ?_)|(refine _root_.Go.Vc.a2 ?_)|(refine h.dy rfl rfl fun w h=>?_)|(refine h.cC rfl rfl fun w h=>?_)))
     refine iz (o:=⟨n,m⟩) (t:=true) hbig h.dz fun w h=>?_
     (repeat (first|(refine h.al fun w h=>?_)|(refine h.dr fun w h=>?_)|(refine h.aL rfl ?_)|(refine h.aV rfl ?_)|(refine ⟨_,h.aq rfl, ?_⟩)|(refine ⟨_,h.ao rfl, ?_⟩)|(refine h.hd rfl ?_)|(refine ⟨h.aq rfl, ?_⟩)|(refine ⟨h.ao rfl, ?_⟩)|(refine h.ax rfl rfl fun w h=>?_)|(refine eC ?_)|(refine _root_.Go.Vc.a2 ?_)|(refine h.dy rfl rfl fun w h=>?_)|(refine h.cC rfl rfl fun w h=>?_)))
     exact hK _ mG rfl (show Ow B w0 _ (cd b ⟨p.l++ [⟨n,m⟩],true⟩::R) from h.sub)
    |false=>
     refine bD rfl ?_
     (repeat (first|(refine h.al fun w h=>?_)|(refine h.dr fun w h=>?_)|(refine h.aL rfl ?_)|(refine h.aV rfl ?_)|(refine ⟨_,h.aq rfl, ?_⟩)|(refine ⟨_,h.ao rfl, ?_⟩)|(refine h.hd rfl ?_)|(refine ⟨h.aq rfl, ?_⟩)|(refine ⟨h.ao rfl, ?_⟩)|(refine h.ax rfl rfl fun w h=>?_)|(refine eC ?_)|(refine _root_.Go.Vc.a2 ?_)|(refine h.dy rfl rfl fun w h=>?_)|(refine h.cC rfl rfl fun w h=>?_)))
     exact hK _ mG rfl (show Ow B w0 _ (cd b p::R) from h.sub)
end
end Go.Proofs.YtlhljbbfckbjpaaGreat
end
section
set_option maxRecDepth 100000
namespace Go.Proofs.YtlhljbbfckbjpaaGreat
open Go Go.Vc Go.Proofs
theorem S.qD0 {a K w}:Fr (C.qD a K w) (bif a.a.isNone then K ⟨none,0,0⟩ w else A2 w [] 76 fun b c=>∃d e,bo Tryz.prog [25,25] 25 (.slice (some b.p) 0 0) (.slice a.a a.len a.cap) c d e/\K d e):=aD Tryz.func31 .G3
theorem S.qam0 {a K w}:Fr (C.qam a K w) (∀b:Int->Int->Pw,(∀(c d:Int) (e:World),(bif decide (c<d) then Dr e fun f=>∃g,a.a=some g/\0≤d/\d<(a.len:Int)/\∃h,f.cell? (g.add (d.toNat*1))=some (.z h)/\∃g,a.a=some g/\0≤c/\c<(a.len:Int)/\∃i,f.cell? (g.add (c.toNat*1))=some (.z i)/\∃g,a.a=some g/\0≤c/\c<(a.len:Int)/\(St f (g.add (c.toNat*1)) (.z h) fun e=>∃f,a.a=some f/\0≤d/\d<(a.len:Int)/\(St e (f.add (d.toNat*1)) (.z i) fun a=>b (IntKind.i64.wrap (c+1)) (IntKind.i64.wrap (d-1)) a)/\True)/\True else K e)->b c d e)->b 0 (IntKind.i64.wrap ((a.len:Int)-1)) w):=aD Tryz.func49 (.v (.x (.t (some [(2,.c (.i .i64)),(3,.c (.i .i64))]) (.y (.v .w) (.x (.x (.z (.o 0 4094 (.o 1 4092 (.o 2 16376 (.o 3 16368 (.o 4 3872 (.o 5 3840 (.o 6 3840 (.o 7 3840 (.o 8 512 (.o 9 0 (.o 10 0 (.o 11 0 (.o 12 0 (.e 13 (.o 14 0 (.e 15 .done)))))))))))))))))))) .u)))
theorem S.qE0 {a K w}:Fr (C.qE a K w) (bif a.a.isNone then K ⟨none,0,0⟩ w else A2 w [] 153 fun b c=>∃d e,bo Tryz.prog [34,34] 34 (.slice (some b.p) 0 0) (.slice a.a a.len a.cap) c d e/\K d e):=aD Tryz.func72 .G3
theorem S.qp0 {a b K w}:Fr (C.qp a b K w) (∀c:Int->Pw,(∀(d:Int) (e:World),(bif decide (d<(a.len:Int)) then ∃f,a.a=some f/\0≤d/\d<(a.len:Int)/\∃a,e.cell? (f.add (d.toNat*1))=some (.pointer a)/\bY Tryz.prog (b) [.pointer a] e fun a b=>∃f,a= .returned (.bool f)/\bif f then K d b else c (IntKind.i64.wrap (d+1)) b else K (-1) e)->c d e)->c 0 w):=aD Tryz.func73 .g14
theorem S.qy0 {a b K w}:Fr (C.qy a b K w) (C.qs a b (fun a b=>K (decide (a≥0)) b) w):=aD Tryz.func85 (.v .w)
theorem S.qaw0 {a b K w}:Fr (C.qaw a b K w) (∀c:Pw,(∀d:World,(C.qcM (IntKind.u64.wrap (a.len:Int)) (IntKind.u64.wrap b) (fun b c d=>∀e:Bool->Pw,(∀(b:Bool) (d:World),(∀e:Pw,(∀b:World,(∃(d:Sl) (e:World),nK Tryz.prog 22 (.z (IntKind.i64.wrap c)) (.z (IntKind.i64.wrap c)) b d e/\∃(b:Int) (c:World),kz Tryz.prog [22,22] 3 (.slice d.a d.len d.cap) (.slice a.a a.len a.cap) e b c/\∀a:Int->Pw,(∀(b:Int) (c:World),(bif decide (b<(d.len:Int)) then Dr c fun e=>0≤b/\b≤(d.len:Int)/\0≤b/\b≤(d.cap:Int)/\(∃(c:Int) (f:World),kz Tryz.prog [22,22] 3 (.slice (dV d.a b.toNat d.cap 1) (d.len-b.toNat) (d.cap-b.toNat)) (.slice (dV d.a 0 d.cap 1) (b.toNat-0) (d.cap-0)) e c f/\a (IntKind.i64.wrap (b+c)) f)/\True else K d c)->a b c)->a b c)->e b)->(bif b then False else e d))->e b d)->(bif decide (b>0) then e true d else e (decide (c>9223372036854775807)) d)) d)->c d)->(bif decide (b<0) then False else c w)):=aD Tryz.func86 (.v (.y (.v (.t (some []) .u .u)) (.v (.y (.y (.r (some [(26,.c .b)]) .done) (.t (some []) .u .u)) (.v (.v (.y (.x (.t (some [(8,.c (.i .i64))]) (.y (.v .w) (.x (.z (.o 0 254 (.o 1 116 (.o 2 112 (.o 3 112 (.o 4 32 (.o 5 0 (.o 6 0 (.e 7 (.o 8 0 (.o 9 0 .done))))))))))))) .u)) .w)))))))
theorem S.qt0 {a b K w}:Fr (C.qt a b K w) (∀c:Int->Pw,(∀(d:Int) (e:World),(bif decide (d<(a.len:Int)) then ∃f,a.a=some f/\0≤d/\d<(a.len:Int)/\az e (f.add (d.toNat*3)) 0 [.o, .o, .o] fun (a f g:Int)=>bY Tryz.prog (b) [.agg #[.z a, .z f, .z g]] e fun a b=>∃f,a= .returned (.bool f)/\bif f then K d b else c (IntKind.i64.wrap (d+1)) b else K (-1) e)->c d e)->c 0 w):=aD Tryz.func100 .g14
theorem S.qB0 {a b c K w}:Fr (C.qB a b c K w) (0≤(a.len:Int)/\(a.len:Int)≤(a.cap:Int)/\0≤c/\c≤(((a.len:Int).toNat:Nat):Int)/\0≤b/\b≤(c.toNat:Int)/\bif b==c then K a w else Dr w fun d=>0≤b/\b≤(a.cap:Int)/\0≤c/\c≤(a.len:Int)/\(∃e f,bo Tryz.prog [34,34] 34 (.slice (dV a.a 0 a.cap 4) (b.toNat-0) (a.cap-0)) (.slice (dV a.a c.toNat a.cap 4) (a.len-c.toNat) (a.cap-c.toNat)) d e f/\0≤(a.len:Int)/\(a.len:Int)≤(e.cap:Int)/\0≤(e.len:Int)/\(e.len:Int)≤(((a.len:Int).toNat:Nat):Int)/\∃b:World,gP Tryz.prog [34] 0 (.slice (dV e.a ((e.len:Int).toNat) e.cap 4) (((a.len:Int).toNat)-((e.len:Int).toNat)) (e.cap-((e.len:Int).toNat))) f b/\K e b)/\True):=aD Tryz.func103 .g8
theorem S.qC0 {a b c K w}:Fr (C.qC a b c K w) (0≤(a.len:Int)/\(a.len:Int)≤(a.cap:Int)/\0≤c/\c≤(((a.len:Int).toNat:Nat):Int)/\0≤b/\b≤(c.toNat:Int)/\bif b==c then K a w else Dr w fun d=>0≤b/\b≤(a.cap:Int)/\0≤c/\c≤(a.len:Int)/\(∃e f,bo Tryz.prog [121,121] 121 (.slice (dV a.a 0 a.cap 3) (b.toNat-0) (a.cap-0)) (.slice (dV a.a c.toNat a.cap 3) (a.len-c.toNat) (a.cap-c.toNat)) d e f/\0≤(a.len:Int)/\(a.len:Int)≤(e.cap:Int)/\0≤(e.len:Int)/\(e.len:Int)≤(((a.len:Int).toNat:Nat):Int)/\∃b:World,gP Tryz.prog [121] 0 (.slice (dV e.a ((e.len:Int).toNat) e.cap 3) (((a.len:Int).toNat)-((e.len:Int).toNat)) (e.cap-((e.len:Int).toNat))) f b/\K e b)/\True):=aD Tryz.func105 .g8
theorem S.qax0 {a b c K w}:Fr (C.qax a b c K w) (0≤(a.len:Int)/\(a.len:Int)≤(a.cap:Int)/\0≤c/\c≤(((a.len:Int).toNat:Nat):Int)/\0≤b/\b≤(c.toNat:Int)/\bif b==c then K a w else Dr w fun d=>0≤b/\b≤(a.cap:Int)/\0≤c/\c≤(a.len:Int)/\(∃e f,bo Tryz.prog [22,22] 22 (.slice (dV a.a 0 a.cap 1) (b.toNat-0) (a.cap-0)) (.slice (dV a.a c.toNat a.cap 1) (a.len-c.toNat) (a.cap-c.toNat)) d e f/\0≤(a.len:Int)/\(a.len:Int)≤(e.cap:Int)/\0≤(e.len:Int)/\(e.len:Int)≤(((a.len:Int).toNat:Nat):Int)/\∃b:World,gP Tryz.prog [22] 0 (.slice (dV e.a ((e.len:Int).toNat) e.cap 1) (((a.len:Int).toNat)-((e.len:Int).toNat)) (e.cap-((e.len:Int).toNat))) f b/\K e b)/\True):=aD Tryz.func108 .g8
theorem S.qF0 {a b K w}:Fr (C.qF a b K w) (bif (a.len:Int) !=(b.len:Int) then K false w else ∀c:Int->Pw,(∀(d:Int) (e:World),(bif decide (d<(a.len:Int)) then Dr e fun f=>∃g,a.a=some g/\0≤d/\d<(a.len:Int)/\az f (g.add (d.toNat*4)) 0 [.o, .o, .o, .o] fun (a g h i:Int)=>∃j,b.a=some j/\0≤d/\d<(b.len:Int)/\az f (j.add (d.toNat*4)) 0 [.o, .o, .o, .o] fun (b j k l:Int)=>∃m,FM Tryz.prog .neq 153 (.tmp 19) (.tmp 23) (.agg #[.z a, .z g, .z h, .z i]) (.agg #[.z b, .z j, .z k, .z l]) m/\bif m then K false f else c (IntKind.i64.wrap (d+1)) f else K true e)->c d e)->c 0 w):=aD Tryz.func111 (.v (.y (.v (.x .w)) (.y (.v (.x (.t (some [(13,.c (.i .i64))]) (.v (.y .w (.x (.x (.v (.y (.z (.o 0 242 (.o 1 240 (.o 2 240 (.o 3 240 (.o 4 32 (.o 5 0 (.o 6 0 (.o 7 0 (.o 8 0 .done)))))))))) (.x .w))))))) .u))) .w)))
theorem S.qJ0 {a b K w}:Fr (C.qJ a b K w) (C.qaB a (fun a c=>C.qcn a b (fun b=>K a b) c) w):=aD Tryz.func112 (.v (.v (.v .w)))
theorem S.qs0 {a b K w}:Fr (C.qs a b K w) (∀c:Int->Pw,(∀(d:Int) (e:World),(bif decide (d<(a.len:Int)) then ∃f,a.a=some f/\0≤d/\d<(a.len:Int)/\∃a,e.cell? (f.add (d.toNat*1))=some (.z a)/\bY Tryz.prog (b) [.z a] e fun a b=>∃f,a= .returned (.bool f)/\bif f then K d b else c (IntKind.i64.wrap (d+1)) b else K (-1) e)->c d e)->c 0 w):=aD Tryz.func115 .g14
theorem S.qb0 {a b K w}:Fr (C.qb a b K w) (C.qe a b (fun a b=>K (decide (a≥0)) b) w):=aD Tryz.func123 (.v .w)
theorem S.qr0 {a b K w}:Fr (C.qr a b K w) (C.qu a b (fun c d=>bif c==(-1) then K a d else ∀e:Int->Int->Pw,(∀(c d:Int) (f:World),(bif decide (d<(a.len:Int)) then ∃g,a.a=some g/\0≤d/\d<(a.len:Int)/\az f (g.add (d.toNat*4)) 0 [.o, .o, .o, .o] fun (g h i j:Int)=>A2 f [.z 0, .z 0, .z 0, .z 0] 153 fun k l=>aH l k.p 0 [.z g, .z h, .z i, .z j] fun g=>az g k.p 0 [.o, .o, .o, .o] fun (h i j l:Int)=>bY Tryz.prog (b) [.agg #[.z h, .z i, .z j, .z l]] g fun b g=>∃h,b= .returned (.bool h)/\bif !h then az g k.p 0 [.o, .o, .o, .o] fun (b h i j:Int)=>∃k,a.a=some k/\0≤c/\c<(a.len:Int)/\aH g (k.add (c.toNat*4)) 0 [.z b, .z h, .z i, .z j] fun b=>e (IntKind.i64.wrap (c+1)) (IntKind.i64.wrap (d+1)) b else e c (IntKind.i64.wrap (d+1)) g else 0≤c/\c≤(a.len:Int)/\∃b:World,gP Tryz.prog [34] 0 (.slice (dV a.a c.toNat a.cap 4) (a.len-c.toNat) (a.cap-c.toNat)) f b/\0≤c/\c≤(a.cap:Int)/\K ⟨dV a.a 0 a.cap 4,c.toNat-0,a.cap-0⟩ b)->e c d f)->e c (IntKind.i64.wrap (c+1)) d) w):=aD Tryz.func129 .g6
theorem S.qz0 {a b K w}:Fr (C.qz a b K w) (∀c:Int->Pw,(∀(d:Int) (e:World),(bif decide (d<(a.len:Int)) then ∃f,a.a=some f/\0≤d/\d<(a.len:Int)/\∃a,e.cell? (f.add (d.toNat*1))=some (.z a)/\bY Tryz.prog (b) [.z a] e fun a b=>∃f,a= .returned (.bool f)/\bif f then K d b else c (IntKind.i64.wrap (d+1)) b else K (-1) e)->c d e)->c 0 w):=aD Tryz.func151 .g14
theorem S.qaB0 {a K w}:Fr (C.qaB a K w) (C.qdi ⟨none,0,0⟩ a (fun a b=>K a b) w):=aD Tryz.func153 (.v .w)
theorem S.qq0 {a b K w}:Fr (C.qq a b K w) (∀c:Int->Pw,(∀(d:Int) (e:World),(bif decide (d<(a.len:Int)) then ∃f,a.a=some f/\0≤d/\d<(a.len:Int)/\az e (f.add (d.toNat*3)) 0 [.o, .o, .o] fun (a f g:Int)=>bY Tryz.prog (b) [.agg #[.z a, .z f, .z g]] e fun a b=>∃f,a= .returned (.bool f)/\bif f then K d b else c (IntKind.i64.wrap (d+1)) b else K (-1) e)->c d e)->c 0 w):=aD Tryz.func165 .g14
theorem S.qL0 {a b K w}:Fr (C.qL a b K w) (C.qs a b (fun c d=>bif c==(-1) then K a d else ∀e:Int->Int->Pw,(∀(c d:Int) (f:World),(bif decide (d<(a.len:Int)) then ∃g,a.a=some g/\0≤d/\d<(a.len:Int)/\∃h,f.cell? (g.add (d.toNat*1))=some (.z h)/\bY Tryz.prog (b) [.z h] f fun b g=>∃i,b= .returned (.bool i)/\bif !i then ∃b,a.a=some b/\0≤c/\c<(a.len:Int)/\St g (b.add (c.toNat*1)) (.z h) fun b=>e (IntKind.i64.wrap (c+1)) (IntKind.i64.wrap (d+1)) b else e c (IntKind.i64.wrap (d+1)) g else 0≤c/\c≤(a.len:Int)/\∃b:World,gP Tryz.prog [22] 0 (.slice (dV a.a c.toNat a.cap 1) (a.len-c.toNat) (a.cap-c.toNat)) f b/\0≤c/\c≤(a.cap:Int)/\K ⟨dV a.a 0 a.cap 1,c.toNat-0,a.cap-0⟩ b)->e c d f)->e c (IntKind.i64.wrap (c+1)) d) w):=aD Tryz.func169 .g6
theorem S.qe0 {a b K w}:Fr (C.qe a b K w) (∀c:Int->Pw,(∀(d:Int) (e:World),(bif decide (d<(a.len:Int)) then ∃f,a.a=some f/\0≤d/\d<(a.len:Int)/\∃a:Value,e.cell? (f.add (d.toNat*1))=some (a)/\bY Tryz.prog (b) [a] e fun a b=>∃f,a= .returned (.bool f)/\bif f then K d b else c (IntKind.i64.wrap (d+1)) b else K (-1) e)->c d e)->c 0 w):=aD Tryz.func171 .g14
theorem S.qu0 {a b K w}:Fr (C.qu a b K w) (∀c:Int->Pw,(∀(d:Int) (e:World),(bif decide (d<(a.len:Int)) then ∃f,a.a=some f/\0≤d/\d<(a.len:Int)/\az e (f.add (d.toNat*4)) 0 [.o, .o, .o, .o] fun (a f g h:Int)=>bY Tryz.prog (b) [.agg #[.z a, .z f, .z g, .z h]] e fun a b=>∃f,a= .returned (.bool f)/\bif f then K d b else c (IntKind.i64.wrap (d+1)) b else K (-1) e)->c d e)->c 0 w):=aD Tryz.func173 .g14
theorem S.qI0 {a K w}:Fr (C.qI a K w) (A2 w [.slice a.a a.len a.cap] 236 fun a b=>K (.func (.func 228) #[] #[.pointer (some a.p)]) b):=aD Tryz.func185 (.v .w)
theorem S.ql0 {a b K w}:Fr (C.ql a b K w) (C.qv a b (fun a b=>K (decide (a≥0)) b) w):=aD Tryz.func216 (.v .w)
theorem S.qm0 {a b K w}:Fr (C.qm a b K w) (C.qw a b (fun a b=>K (decide (a≥0)) b) w):=aD Tryz.func222 (.v .w)
theorem S.qaj0 {a b K w}:Fr (C.qaj a b K w) (C.qaS a b (fun a b=>K (decide (a≥0)) b) w):=aD Tryz.func235 (.v .w)
theorem S.qf0 {a b K w}:Fr (C.qf a b K w) (C.qk a b (fun a b=>K (decide (a≥0)) b) w):=aD Tryz.func238 (.v .w)
theorem S.qv0 {a b K w}:Fr (C.qv a b K w) (∀c:Int->Pw,(∀(d:Int) (e:World),(bif decide (d<(a.len:Int)) then ∃f,a.a=some f/\0≤d/\d<(a.len:Int)/\az e (f.add (d.toNat*2)) 0 [.o, .o] fun (a f:Int)=>bY Tryz.prog (b) [.agg #[.z a, .z f]] e fun a b=>∃f,a= .returned (.bool f)/\bif f then K d b else c (IntKind.i64.wrap (d+1)) b else K (-1) e)->c d e)->c 0 w):=aD Tryz.func262 .g14
theorem S.qn0 {a b c K w}:Fr (C.qn a b c K w) (0≤b/\b≤(a.len:Int)/\bif (c.len:Int)==0 then K a w else bif b==(a.len:Int) then ∃d e,bo Tryz.prog [188,188] 188 (.slice a.a a.len a.cap) (.slice c.a c.len c.cap) w d e/\K d e else bif decide ((IntKind.i64.wrap ((a.len:Int)+(c.len:Int)))>(a.cap:Int)) then 0≤b/\b≤(a.cap:Int)/\∃d e,bo Tryz.prog [188,3] 188 (.slice (dV a.a 0 a.cap 3) (b.toNat-0) (a.cap-0)) (.z (IntKind.i64.wrap ((IntKind.i64.wrap ((a.len:Int)+(c.len:Int)))-b))) w d e/\0≤b/\b≤(d.len:Int)/\∃(f:Int) (g:World),kz Tryz.prog [188,188] 3 (.slice (dV d.a b.toNat d.cap 3) (d.len-b.toNat) (d.cap-b.toNat)) (.slice c.a c.len c.cap) e f g/\Dr g fun e=>0≤IntKind.i64.wrap (b+(c.len:Int))/\IntKind.i64.wrap (b+(c.len:Int))≤(d.len:Int)/\0≤b/\b≤(a.len:Int)/\(∃(f:Int) (g:World),kz Tryz.prog [188,188] 3 (.slice (dV d.a ((IntKind.i64.wrap (b+(c.len:Int))).toNat) d.cap 3) (d.len-((IntKind.i64.wrap (b+(c.len:Int))).toNat)) (d.cap-((IntKind.i64.wrap (b+(c.len:Int))).toNat))) (.slice (dV a.a b.toNat a.cap 3) (a.len-b.toNat) (a.cap-b.toNat)) e f g/\K d g)/\True else 0≤IntKind.i64.wrap ((a.len:Int)+(c.len:Int))/\IntKind.i64.wrap ((a.len:Int)+(c.len:Int))≤(a.cap:Int)/\0≤IntKind.i64.wrap (b+(c.len:Int))/\IntKind.i64.wrap (b+(c.len:Int))≤((((IntKind.i64.wrap ((a.len:Int)+(c.len:Int))).toNat)-0:Nat):Int)/\∃d,∃e:World,xb Tryz.prog 286 #[.slice c.a c.len c.cap, .slice (dV (dV a.a 0 a.cap 3) ((IntKind.i64.wrap (b+(c.len:Int))).toNat) (a.cap-0) 3) ((((IntKind.i64.wrap ((a.len:Int)+(c.len:Int))).toNat)-0)-((IntKind.i64.wrap (b+(c.len:Int))).toNat)) ((a.cap-0)-((IntKind.i64.wrap (b+(c.len:Int))).toNat))] w (.bool d) e/\bif !d then Dr e fun d=>0≤IntKind.i64.wrap (b+(c.len:Int))/\IntKind.i64.wrap (b+(c.len:Int))≤((((IntKind.i64.wrap ((a.len:Int)+(c.len:Int))).toNat)-0:Nat):Int)/\0≤b/\b≤((((IntKind.i64.wrap ((a.len:Int)+(c.len:Int))).toNat)-0:Nat):Int)/\(∃(e:Int) (f:World),kz Tryz.prog [188,188] 3 (.slice (dV (dV a.a 0 a.cap 3) ((IntKind.i64.wrap (b+(c.len:Int))).toNat) (a.cap-0) 3) ((((IntKind.i64.wrap ((a.len:Int)+(c.len:Int))).toNat)-0)-((IntKind.i64.wrap (b+(c.len:Int))).toNat)) ((a.cap-0)-((IntKind.i64.wrap (b+(c.len:Int))).toNat))) (.slice (dV (dV a.a 0 a.cap 3) b.toNat (a.cap-0) 3) ((((IntKind.i64.wrap ((a.len:Int)+(c.len:Int))).toNat)-0)-b.toNat) ((a.cap-0)-b.toNat)) d e f/\0≤b/\b≤((((IntKind.i64.wrap ((a.len:Int)+(c.len:Int))).toNat)-0:Nat):Int)/\∃(d:Int) (e:World),kz Tryz.prog [188,188] 3 (.slice (dV (dV a.a 0 a.cap 3) b.toNat (a.cap-0) 3) ((((IntKind.i64.wrap ((a.len:Int)+(c.len:Int))).toNat)-0)-b.toNat) ((a.cap-0)-b.toNat)) (.slice c.a c.len c.cap) f d e/\K ⟨dV a.a 0 a.cap 3,((IntKind.i64.wrap ((a.len:Int)+(c.len:Int))).toNat)-0,a.cap-0⟩ e)/\True else 0≤(a.len:Int)/\(a.len:Int)≤((((IntKind.i64.wrap ((a.len:Int)+(c.len:Int))).toNat)-0:Nat):Int)/\∃(d:Int) (f:World),kz Tryz.prog [188,188] 3 (.slice (dV (dV a.a 0 a.cap 3) ((a.len:Int).toNat) (a.cap-0) 3) ((((IntKind.i64.wrap ((a.len:Int)+(c.len:Int))).toNat)-0)-((a.len:Int).toNat)) ((a.cap-0)-((a.len:Int).toNat))) (.slice c.a c.len c.cap) e d f/\0≤b/\b≤((((IntKind.i64.wrap ((a.len:Int)+(c.len:Int))).toNat)-0:Nat):Int)/\C.qdV ⟨dV (dV a.a 0 a.cap 3) b.toNat (a.cap-0) 3,(((IntKind.i64.wrap ((a.len:Int)+(c.len:Int))).toNat)-0)-b.toNat,(a.cap-0)-b.toNat⟩ (c.len:Int) (fun b=>K ⟨dV a.a 0 a.cap 3,((IntKind.i64.wrap ((a.len:Int)+(c.len:Int))).toNat)-0,a.cap-0⟩ b) f):=aD Tryz.func263 (.v (.v (.v (.y (.v (.x .w)) (.v (.y (.v (.x .w)) (.y (.v (.x (.v (.v (.y .g13 .w))))) (.v (.y (.v (.x (.y .g13 (.v .w)))) (.v (.v .w)))))))))))
end Go.Proofs.YtlhljbbfckbjpaaGreat
end
section
set_option maxRecDepth 8000
namespace Go.Proofs.YtlhljbbfckbjpaaGreat
open Go Go.Vc Go.Proofs
theorem AM:Tryz.prog.info? 3=some Tryz.t3:=by kernel_rfl
theorem DF:Tryz.t3.bytes=8:=by kernel_rfl
section
variable {B:Nat} {w0 w:World} {R L:List aA} {s:Sl} {xs:List Int}
theorem BD {v:Int} {K:Int->Pw} [I:bT s L Int aG xs] (h:Ow B w0 w L) (hbig:xs.length≤1000000000) (hK:∀w',Ow B w0 w' L->K (cN (fun x=>v==x) xs) w'):C.qaS s v K w:=by
 apply S.qaS0;have hlen:=h.br s;intro l hl
 have loop:∀(m j:Nat) (w:World),j+m=xs.length->(∀i,i<j->∀y,xs[i]?=some y->(v==y)=false)->Ow B w0 w L->l (j:Int) w:=by
  intro m
  induction m with
  |zero=>
   intro j w hj hno h;apply hl;refine aE om ?_
   have hn:xs.findIdx? (fun x=>v==x)=none:=by
    rw[List.findIdx?_eq_none_iff];intro y hy;obtain ⟨i,hi⟩:=List.mem_iff_getElem?.1 hy;exact hno i (by have:=(List.getElem?_eq_some_iff.1 hi).1;omega) y hi
   have e:cN (fun x=>v==x) xs= -1:=by unfold cN;rw[hn]
   rw[←e];exact hK _ h
  |succ m ih=>
   intro j w hj hno h;have hx:xs[j]?=some xs[j]:=gE om;apply hl;refine aR om ?_;refine h.dZ (s:=s) rfl hx fun a ha h0 hc=>⟨_,h0 _ rfl, ?_⟩
   cases hp:(v==xs[j]) with
   |true=>
    refine bN rfl ?_
    have hn:xs.findIdx? (fun x=>v==x)=some j:=by
     rw[List.findIdx?_eq_some_iff_getElem];refine ⟨om,hp,fun i hi=>?_⟩;have:=hno i hi xs[i] (gE om);simp[this]
    have e:cN (fun x=>v==x) xs=(j:Int):=by unfold cN;rw[hn]
    rw[←e];exact hK _ h
   |false=>
    refine bD rfl ?_;rw[wr om om];refine ih (j+1) w om (fun i hi z hz=>?_) h;by_cases e:i=j
    ·subst e;rw[hx] at hz;cases hz;exact hp
    ·exact hno i om z hz
 exact loop xs.length 0 w om (fun i hi=>by omega) h
theorem vv {v:Int} {K:Bool->Pw} [I:bT s L Int aG xs] (h:Ow B w0 w L) (hbig:xs.length≤1000000000) (hK:∀w',Ow B w0 w' L->K (xs.any fun x=>v==x) w'):C.qaj s v K w:=by
 apply S.qaj0;refine BD h hbig fun w h=>?_
 rw[iD];exact hK w h
theorem kU {y:Int} {c:Nat} {k:Sl->Pw} [I:bT s L Int aG xs] [J:dG (ah aG s xs) L R] (h:Ow B w0 w (aa c [.z y]::L)) (hbig:xs.length≤1000000000)
  (hk:∀s' w',s'.len=xs.length+1->Ow B w0 w' (ah aG s' (xs++ [y])::R)->k s' w'):
  ∃s' w',bo Tryz.prog [22,22] 22 (.slice s.a s.len s.cap) (.slice (some (Addr.mk c 0 none)) 1 1) w s' w'/\k s' w':=
 Ow.fy (E:=aG) (y:=y) Tryz.underlying22 AM (zv:= .z 0) (by kernel_rfl) (by kernel_rfl) rfl (by decide) h (by rw[DF];omega) hk
theorem zc {i j:Nat} {K:Sl->Pw} (h:Ow B w0 w (ah aG s xs::R)) (hij:i<j) (hj:j≤xs.length) (hbig:xs.length≤1000000000)
  (hK:∀s' w',Ow B w0 w' (ah aG s' (xs.take i++xs.drop j)::R)->K s' w'):C.qax s (i:Int) (j:Int) K w:=by
 apply S.qax0;have hlen:=h.br s;have hcap:=h.jN.fo;refine ⟨om,om,om,om,om,om, ?_⟩;refine vN om ?_;refine h.dr fun w h=>?_
 refine ⟨om,om,om,om,a2 ?_⟩;simp only[Int.toNat_natCast];refine h.sw (E:=aG) Tryz.underlying22 AM (by kernel_rfl) om hj om fun w h=>?_
 dsimp only;refine ⟨om,om,om,om, ?_⟩;refine h.clear (P:=Tryz.prog) (T:=22) (t:=0) (n:=i+(xs.length-j)) (zv:= .z 0) (z0:=0) Tryz.underlying22 (fun w=>Tryz.zeroValue3 w) rfl 0 rfl (by simp;omega) fun w h=>?_
 have hp:=h.pre 0 rfl (n:=i+(xs.length-j)) (by simp;omega);refine hK _ w ?_;rw[jx hij hj] at hp;exact hp
end
section
variable {B:Nat} {w0 w:World} {R L:List aA} {b:Nat} {p:kI}
theorem iw {n:Int} {wt:Bool} {K:Bool->Int->Int->Int->Int->Int->Int->Int->Int->Bool->Int->Pw} (hbig:p.l.length<1000000) (h:Ow B w0 w (cd b p::R))
  (hK:∀w' x,x=(p.recv n wt).1->Ow B w0 w' (cd b (p.recv n wt).2.2::R)->K x.is x.eS x.to x.m.label x.m.w0 x.m.w1 x.m.w2 x.m.w3 x.m.aB x.m.calls (p.recv n wt).2.1 w'):
  C.qab (some ⟨b,0,none⟩) n wt K w:=by
 apply S.qab0;refine h.a fun c w1 h=>?_;refine gY (n:=n) h.dz fun w h=>?_
 unfold kI.recv at hK;cases ht:p.there n with
 |true=>
  rw[ht] at hK;simp only[if_true] at hK;refine bN rfl ?_;refine h.ax rfl rfl fun w h=>?_
  (try dsimp only[putAt,List.set_cons_zero,List.set_cons_succ] at h)
  refine h.nZ rfl ?_;exact hK _ mG rfl h.sub
 |false=>
  rw[ht] at hK;simp only[Bool.false_eq_true,if_false] at hK;refine bD rfl ?_;refine gX (t:=true) h fun w o ho h=>?_
  refine h.a fun e w3 h=>?_;refine h.ax rfl rfl fun w h=>?_
  (try dsimp only[putAt,List.set_cons_zero,List.set_cons_succ] at h)
  cases hf:p.first true with
  |mk x p'=>
   rw[hf] at hK h ho;dsimp only at hK h ho;cases x with
   |some o'=>
    have ho:o=o':=ho;subst ho;refine bN rfl ?_;refine ⟨_,h.aq rfl, ?_⟩;refine h.Gk rfl ?_;refine h.ax rfl rfl fun w h=>?_
    (try dsimp only[putAt,List.set_cons_zero,List.set_cons_succ] at h)
    refine h.nZ rfl ?_;exact hK _ ⟨true,o.js,n,o.m⟩ rfl (show Ow B w0 _ (cd b p'::R) from h.sub)
   |none=>
    have hp':p'=p:=by
     unfold kI.first at hf
     split at hf
     ·cases hf;rfl
     ·split at hf
      ·cases hf
      ·cases hf;rfl
    rw[hp'] at h;refine bD rfl ?_;cases wt with
    |true=>
     refine bN rfl ?_;refine iz (o:=⟨n,Fy⟩) (t:=false) hbig h.dz fun w h=>?_
     refine h.ax rfl rfl fun w h=>?_
     (try dsimp only[putAt,List.set_cons_zero,List.set_cons_succ] at h)
     refine h.nZ rfl ?_;exact hK _ mG rfl (show Ow B w0 _ (cd b ⟨p.l++ [⟨n,Fy⟩],false⟩::R) from h.sub)
    |false=>
     refine bD rfl ?_;refine h.ax rfl rfl fun w h=>?_
     (try dsimp only[putAt,List.set_cons_zero,List.set_cons_succ] at h)
     refine h.nZ rfl ?_;exact hK _ mG rfl (show Ow B w0 _ (cd b p::R) from h.sub)
theorem lu {n:Int} {K:Bool->Pw} (h:Ow B w0 w (cd b p::R)) (hK:∀r w',Ow B w0 w' (cd b (p.cancel n)::R)->K r w'):C.qae (some ⟨b,0,none⟩) n K w:=by
 apply S.qae0;obtain ⟨s,hl,h⟩:=h.Gb;refine h.a fun c w1 h=>?_;refine ⟨_,rfl,s,h.aq rfl,_,rfl,s,h.aq rfl, ?_⟩;refine tQ (p:=fun o=>o.js==n) h.nC om (fun N y w Q h hQ=>?_) fun s' w h=>?_
 ·refine aP ?_
  show C.qai y.js y.m.label y.m.w0 y.m.w1 y.m.w2 y.m.w3 y.m.aB y.m.calls ⟨c,0,none⟩ Q w;apply S.qai0;refine h.a fun d w1 h=>?_;exact ⟨_,h.aq rfl,_,HS (N:=aa d _::N) h rfl,hQ _ h.drop⟩
 ·refine ⟨_,rfl, ?_⟩
  refine h.dy rfl rfl fun w h=>?_
  (try dsimp only[putAt,List.set_cons_zero,List.set_cons_succ] at h)
  refine ⟨_,rfl,s',h.aq rfl, ?_⟩;exact hK _ w (Ow.mi (s:=s') (p:=p.cancel n) (Nat.le_trans (List.length_filter_le _ _) hl) (show Ow B w0 w (aa b [.slice s'.a s'.len s'.cap, .bool p.lN]::ah mw s' (p.l.filter fun o=> !(o.js==n))::R) from h.sub))
end
end Go.Proofs.YtlhljbbfckbjpaaGreat
end
section
set_option maxRecDepth 100000
namespace Go.Proofs.YtlhljbbfckbjpaaGreat
open Go Go.Vc Go.Proofs
theorem S.qaI0 {a b K w}:Fr (C.qaI a b K w) (∃c,a=some c/\∃a:Sl,w.cell? c=some (.slice a.a a.len a.cap)/\∀c:Int->Int->Pw,(∀(d e:Int) (f:World),(bif decide (e<(a.len:Int)) then ∃g,a.a=some g/\0≤e/\e<(a.len:Int)/\∃a:Sl,f.cell? (g.add (e.toNat*1))=some (.slice a.a a.len a.cap)/\∀g:Int->Int->Pw,(∀(d f:Int) (h:World),(bif decide (f<(a.len:Int)) then ∃i,a.a=some i/\0≤f/\f<(a.len:Int)/\az h (i.add (f.toNat*3)) 0 [.o, .o, .o] fun (a i j:Int)=>A2 h [.z 0, .z 0, .z 0] 123 fun k l=>aH l k.p 0 [.z a, .z i, .z j] fun a=>∃i,a.cell? k.p=some (.z i)/\bif i==b then g (IntKind.i64.wrap (d+1)) (IntKind.i64.wrap (f+1)) a else g d (IntKind.i64.wrap (f+1)) a else c d (IntKind.i64.wrap (e+1)) h)->g d f h)->g d 0 f else K d f)->c d e f)->c 0 0 w):=aD Tryz.func24 (.v (.v (.y (.v (.x (.t (some [(5,.c (.i .i64)),(15,.c (.i .i64))]) (.v (.y .w (.x (.x (.v (.v (.x (.t (some [(5,.c (.i .i64)),(21,.c (.i .i64))]) .Jb .u)))))))) .u))) .w)))
theorem S.qdo0 {a K w}:Fr (C.qdo a K w) (∀b:Bool->Pw,(∀(c:Bool) (d:World),(bif c then K none 1 d else ∃(b:Sl) (c:World),nK Tryz.prog 118 (.z a) (.z a) d b c/\A2 c [.slice b.a b.len b.cap] 120 fun a b=>K (some a.p) 0 b)->b c d)->(bif decide (a<1) then b true w else b (decide (a>8)) w)):=aD Tryz.func33 .Is
theorem S.qbm0 {a b K w}:Fr (C.qbm a b K w) (A2 w [.z 0, .z 0, .z 0] 123 fun c d=>∀e:Bool->Pw,(∀(d:Bool) (f:World),(bif d then aH f c.p 0 [.z 0, .z 0, .z 0] fun d=>az d c.p 0 [.o, .o, .o] fun (e g h:Int)=>K e g h false d else ∃d,a=some d/\∃e:Sl,f.cell? d=some (.slice e.a e.len e.cap)/\∃d,e.a=some d/\0≤b/\b<(e.len:Int)/\∃e:Sl,f.cell? (d.add (b.toNat*1))=some (.slice e.a e.len e.cap)/\∃d,e.a=some d/\(0:Int)≤0/\0<(e.len:Int)/\az f (d.add ((0:Int).toNat*3)) 0 [.o, .o, .o] fun (d e g:Int)=>A2 f [.z 0, .z 0, .z 0] 123 fun f h=>aH h f.p 0 [.z d, .z e, .z g] fun d=>Dr d fun d=>∃e,a=some e/\∃g,a=some g/\∃a:Sl,d.cell? g=some (.slice a.a a.len a.cap)/\∃g,a.a=some g/\0≤b/\b<(a.len:Int)/\∃a:Sl,d.cell? (g.add (b.toNat*1))=some (.slice a.a a.len a.cap)/\∃g:Sl,d.cell? e=some (.slice g.a g.len g.cap)/\(C.qC a 0 1 (fun a d=>d.cell? e=some (.slice g.a g.len g.cap)/\∃e,g.a=some e/\0≤b/\b<(g.len:Int)/\(St d (e.add (b.toNat*1)) (.slice a.a a.len a.cap) fun a=>az a f.p 0 [.o, .o, .o] fun (b d e:Int)=>aH a c.p 0 [.z b, .z d, .z e] fun a=>az a c.p 0 [.o, .o, .o] fun (b c d:Int)=>K b c d true a)/\True) d)/\True)->e d f)->(C.qbv a b (fun c d=>bif !c then e true d else ∃c,a=some c/\∃a:Sl,d.cell? c=some (.slice a.a a.len a.cap)/\∃c,a.a=some c/\0≤b/\b<(a.len:Int)/\∃a:Sl,d.cell? (c.add (b.toNat*1))=some (.slice a.a a.len a.cap)/\e ((a.len:Int)==0) d) d)):=aD Tryz.func66 (.v (.y (.y (.r (some [(21,.c .b)]) .done) (.x .w)) (.v (.y (.z (.o 0 8176 (.o 1 8176 (.o 2 8176 (.o 4 8168 (.o 5 520 (.o 6 520 (.o 7 520 (.o 8 520 (.o 9 8 (.o 10 8 (.o 11 8 (.hold 3 4096 16383 (.e 12 (.o 13 0 (.e 14 .done)))))))))))))))) .w))))
theorem S.qbF0 {a b c d K w}:Fr (C.qbF a b c d K w) (C.qbv a b (fun e f=>bif !e then K 1 f else ∃e,a=some e/\∃g:Sl,f.cell? e=some (.slice g.a g.len g.cap)/\∀e:Sl->Int->Pw,(∀(f:Sl) (h:Int) (i:World),(bif decide (h<(g.len:Int)) then bif h !=b then A2 i [.z h] 3 fun g j=>∃k l,bo Tryz.prog [22,22] 22 (.slice f.a f.len f.cap) (.slice (some g.p) 1 1) j k l/\e k (IntKind.i64.wrap (h+1)) l else e f (IntKind.i64.wrap (h+1)) i else C.qbo a b c d f (fun a b=>K a b) i)->e f h i)->e ⟨none,0,0⟩ 0 f) w):=aD Tryz.func71 (.v (.y (.v (.x .w)) (.v (.y (.v (.x (.t (some [(9,.c .s),(20,.c (.i .i64))]) .Jb .u))) .w))))
theorem S.qbv0 {a b K w}:Fr (C.qbv a b K w) (bif decide (b≥0) then ∃c,a=some c/\∃a:Sl,w.cell? c=some (.slice a.a a.len a.cap)/\K (decide (b<(a.len:Int))) w else K false w):=aD Tryz.func104 (.v .w)
theorem S.qbo0 {a b c d e K w}:Fr (C.qbo a b c d e K w) (A2 w [.pointer a] 61 fun a f=>A2 f [.z b, .z c, .z d] 123 fun b c=>C.qy e (.func (.func 150) #[] #[.pointer (some a.p)]) (fun c d=>bif c then K 2 d else ∀c:Int->Pw,(∀(d:Int) (f:World),(bif decide (d<(e.len:Int)) then ∃g,e.a=some g/\0≤d/\d<(e.len:Int)/\∃e,f.cell? (g.add (d.toNat*1))=some (.z e)/\Dr f fun g=>∃h,g.cell? a.p=some (.pointer h)/\∃i,h=some i/\∃h:Sl,g.cell? i=some (.slice h.a h.len h.cap)/\∃i,h.a=some i/\0≤e/\e<(h.len:Int)/\∃h:Sl,g.cell? (i.add (e.toNat*1))=some (.slice h.a h.len h.cap)/\az g b.p 0 [.o, .o, .o] fun (b i j:Int)=>∃k,g.cell? a.p=some (.pointer k)/\∃l,k=some l/\∃m:Sl,g.cell? l=some (.slice m.a m.len m.cap)/\(A2 g [.z b, .z i, .z j] 123 fun b f=>(∃g i,bo Tryz.prog [121,121] 121 (.slice h.a h.len h.cap) (.slice (some b.p) 1 1) f g i/\i.cell? l=some (.slice m.a m.len m.cap)/\i.cell? a.p=some (.pointer k)/\∃a,m.a=some a/\0≤e/\e<(m.len:Int)/\(St i (a.add (e.toNat*1)) (.slice g.a g.len g.cap) fun a=>c (IntKind.i64.wrap (d+1)) a)/\True)/\True)/\True else K 0 f)->c d f)->c 0 d) c):=aD Tryz.func107 (.v (.y (.v (.x .w)) (.y (.v (.x (.t (some [(14,.c (.i .i64))]) (.v (.y .w (.x (.x (.v (.z (.o 4 32751 (.o 5 12815 (.o 6 12815 (.o 7 12815 (.o 8 12815 (.o 9 12303 (.o 10 12303 (.o 11 12303 (.o 12 15 (.hold 0 24576 65535 (.o 1 24576 (.o 2 24576 (.hold 3 24576 65535 (.e 13 (.e 14 (.o 15 0 (.e 16 .done))))))))))))))))))))))) .u))) .w)))
theorem S.qbw0 {a b K w}:Fr (C.qbw a b K w) (∃c,w.cell? b=some (.pointer c)/\∃b,c=some b/\∃c:Sl,w.cell? b=some (.slice c.a c.len c.cap)/\∃b,c.a=some b/\0≤a/\a<(c.len:Int)/\∃c:Sl,w.cell? (b.add (a.toNat*1))=some (.slice c.a c.len c.cap)/\K (decide ((c.len:Int)≥64)) w):=aD Tryz.func150 (.v .w)
theorem S.qc0 {a K w}:Fr (C.qc a K w) (A2 w [.map a] 185 fun a b=>K (.func (.func 155) #[] #[.pointer (some a.p)]) b):=aD Tryz.func113 (.v .w)
theorem S.qcM0 {a b K w}:Fr (C.qcM a b K w) (C.qcJ a b (fun a b c=>K a b c) w):=aD Tryz.func116 (.v (.y (.x (.v .w)) (.v .w)))
theorem S.qcJ0 {a b K w}:Fr (C.qcJ a b K w) ((0:Int)≤32/\(0:Int)≤32/\(0:Int)≤32/\(0:Int)≤32/\(0:Int)≤32/\K (IntKind.u64.wrap ((IntKind.u64.wrap ((IntKind.u64.wrap ((jl .u64 a 32)*(jl .u64 b 32)))+(jl .u64 (IntKind.u64.wrap ((IntKind.u64.wrap ((jl .u64 a 32)*(dw .u64 b 4294967295)))+(jl .u64 (IntKind.u64.wrap ((dw .u64 a 4294967295)*(dw .u64 b 4294967295))) 32))) 32)))+(jl .u64 (IntKind.u64.wrap ((dw .u64 (IntKind.u64.wrap ((IntKind.u64.wrap ((jl .u64 a 32)*(dw .u64 b 4294967295)))+(jl .u64 (IntKind.u64.wrap ((dw .u64 a 4294967295)*(dw .u64 b 4294967295))) 32))) 4294967295)+(IntKind.u64.wrap ((dw .u64 a 4294967295)*(jl .u64 b 32))))) 32))) (IntKind.u64.wrap (a*b)) w):=aD Tryz.func159 (.v (.v (.v (.v (.v (.v (.v (.v (.v (.v (.v .w)))))))))))
theorem S.qck0 {a K w}:Fr (C.qck a K w) (∀b:Int->Int->Pw,(∀(a c:Int) (d:World),(∀b:Int->Int->Pw,(∀(a c:Int) (d:World),(∀b:Int->Int->Pw,(∀(a c:Int) (d:World),(∃b,Dm ⟨#[0,1,2,2,3,3,3,3,4,4,4,4,4,4,4,4,5,5,5,5,5,5,5,5,5,5,5,5,5,5,5,5,6,6,6,6,6,6,6,6,6,6,6,6,6,6,6,6,6,6,6,6,6,6,6,6,6,6,6,6,6,6,6,6,7,7,7,7,7,7,7,7,7,7,7,7,7,7,7,7,7,7,7,7,7,7,7,7,7,7,7,7,7,7,7,7,7,7,7,7,7,7,7,7,7,7,7,7,7,7,7,7,7,7,7,7,7,7,7,7,7,7,7,7,7,7,7,7,8,8,8,8,8,8,8,8,8,8,8,8,8,8,8,8,8,8,8,8,8,8,8,8,8,8,8,8,8,8,8,8,8,8,8,8,8,8,8,8,8,8,8,8,8,8,8,8,8,8,8,8,8,8,8,8,8,8,8,8,8,8,8,8,8,8,8,8,8,8,8,8,8,8,8,8,8,8,8,8,8,8,8,8,8,8,8,8,8,8,8,8,8,8,8,8,8,8,8,8,8,8,8,8,8,8,8,8,8,8,8,8,8,8,8,8,8,8,8,8,8,8,8,8,8,8,8,8]⟩ (IntKind.u8.wrap a) b/\K (IntKind.i64.wrap (c+(IntKind.i64.wrap b))) d)->b a c d)->(bif decide (a≥256) then (0:Int)≤8/\b (jl .u64 a 8) (IntKind.i64.wrap (c+8)) d else b a c d))->b a c d)->(bif decide (a≥65536) then (0:Int)≤16/\b (jl .u64 a 16) (IntKind.i64.wrap (c+16)) d else b a c d))->b a c d)->(bif decide (a≥4294967296) then (0:Int)≤32/\b (jl .u64 a 32) 32 w else b a 0 w)):=aD Tryz.func168 (.v (.y .g24 (.y .g24 (.y .g24 .w))))
theorem S.qaN0 {a b K w}:Fr (C.qaN a b K w) (∃c,a=some c/\∃d:Sl,w.cell? (c.add 2)=some (.slice d.a d.len d.cap)/\bif decide ((d.len:Int)>0) then ∃c,a=some c/\∃d:Sl,w.cell? (c.add 2)=some (.slice d.a d.len d.cap)/\∃c,d.a=some c/\(0:Int)≤0/\0<(d.len:Int)/\∃d,w.cell? (c.add ((0:Int).toNat*1))=some (.z d)/\∃c,a=some c/\∃e:Sl,w.cell? (c.add 2)=some (.slice e.a e.len e.cap)/\C.qax e 0 1 (fun c e=>∃f,a=some f/\St e (f.add 2) (.slice c.a c.len c.cap) fun a=>K d b true a) w else ∃c,a=some c/\∃d,w.cell? c=some (.y d)/\∃c,a=some c/\St w c (.y (HH .u64 d b)) fun b=>∃c,a=some c/\St b (c.add 1) (.bool true) fun a=>K 0 0 false a):=aD Tryz.func76 (.v (.y (.v (.x (.v (.v .w)))) (.v .w)))
theorem S.qbr0 {a b c K w}:Fr (C.qbr a b c K w) (∃d,a=some d/\∃e:Sl,w.cell? (d.add 2)=some (.slice e.a e.len e.cap)/\C.qaj e b (fun d e=>bif d then K 0 false 120 e else ∃d,a=some d/\∃f,e.cell? (d.add 1)=some (.bool f)/\bif f then ∃d,a=some d/\∃f,e.cell? d=some (.y f)/\∃d,a=some d/\St e d (.y 0) fun d=>∃g,a=some g/\St d (g.add 1) (.bool false) fun d=>K f true 0 d else bif c then ∃c,a=some c/\∃d:Sl,e.cell? (c.add 2)=some (.slice d.a d.len d.cap)/\A2 e [.z b] 3 fun b c=>∃f g,bo Tryz.prog [22,22] 22 (.slice d.a d.len d.cap) (.slice (some b.p) 1 1) c f g/\∃b,a=some b/\St g (b.add 2) (.slice f.a f.len f.cap) fun a=>K 0 false 0 a else K 0 false 0 e) w):=aD Tryz.func196 (.v (.y (.x (.v (.y .w (.v (.y (.v (.v .w)) (.v .w)))))) .w))
theorem S.qdy0 {K w}:Fr (C.qdy K w) (A2 w [.y 0, .bool false, .slice none 0 0] 231 fun a b=>K (some a.p) b):=aD Tryz.func219 (.v .w)
theorem S.qaR0 {a b K w}:Fr (C.qaR a b K w) (A2 w [.z b] 3 fun b c=>∃d,a=some d/\∃e:Sl,c.cell? (d.add 2)=some (.slice e.a e.len e.cap)/\∃d,a=some d/\∃f:Sl,c.cell? (d.add 2)=some (.slice f.a f.len f.cap)/\C.qL f (.func (.func 271) #[] #[.pointer (some b.p)]) (fun b c=>∃d,a=some d/\St c (d.add 2) (.slice b.a b.len b.cap) fun b=>∃c,a=some c/\∃a:Sl,b.cell? (c.add 2)=some (.slice a.a a.len a.cap)/\K (decide ((a.len:Int)<(e.len:Int))) b) c):=aD Tryz.func230 (.v (.v (.v .w)))
theorem S.qaV0 {a b K w}:Fr (C.qaV a b K w) (∃c,w.cell? b=some (.z c)/\K (a==c) w):=aD Tryz.func271 (.v .w)
end Go.Proofs.YtlhljbbfckbjpaaGreat
end
section
set_option maxRecDepth 8000
namespace Go.Proofs.YtlhljbbfckbjpaaGreat
open Go Go.Vc Go.Proofs
structure rK where
 word:Int
 is:Bool
 l:List Int
deriving DecidableEq
def rK.bS (n:rK) (aB:Int):Option Int × rK:=match n.l with
 |x::r=>(some x,{ n with l:=r})
 | []=>(none,⟨HH .u64 n.word aB,true,[]⟩)
def rK.wait (n:rK) (js:Int) (waits:Bool):(Int × Bool × Int)× rK:=
 if n.l.any (fun x=>js==x) then ((0,false,120),n)
 else if n.is then ((n.word,true,0),{ n with word:=0,is:=false})
 else ((0,false,0),if waits then { n with l:=n.l++ [js]} else n)
def rK.cancel (n:rK) (js:Int):rK:={ n with l:=n.l.filter fun x=> !(x==js)}
def bG (b:Nat) (n:rK):aA:=pV fun s:Sl=>bh [dX (n.l.length≤1000000),aa b [.y n.word, .bool n.is, .slice s.a s.len s.cap],ah aG s n.l]
section
variable {B:Nat} {w0 w:World} {R L:List aA} {b:Nat} {n:rK}
theorem _root_.Go.Vc.Ow.note (h:Ow B w0 w (bG b n::R)):∃s:Sl,n.l.length≤1000000/\Ow B w0 w (aa b [.y n.word, .bool n.is, .slice s.a s.len s.cap]::ah aG s n.l::R):=by
 obtain ⟨s,h⟩:=h.ex;obtain ⟨h1,h⟩:=Ow.pure h.star;exact ⟨s,h1,h⟩
theorem _root_.Go.Vc.Ow.iY {s:Sl} {wd:Int} {is:Bool} {l:List Int} (h1:l.length≤1000000) (h:Ow B w0 w (aa b [.y wd, .bool is, .slice s.a s.len s.cap]::ah aG s l::R)):Ow B w0 w (bG b ⟨wd,is,l⟩::R):=
 Ow.eP s (Ow.aY (Ow.dN h1 h))
theorem rE {K:Option Addr->Pw} (h:Ow B w0 w R) (hK:∀b w',Ow B w0 w' (bG b ⟨0,false,[]⟩::R)->K (some ⟨b,0,none⟩) w'):C.qdy K w:=by
 apply S.qdy0;refine h.al fun w1 h=>?_
 exact hK _ w1 (Ow.iY (s:=⟨none,0,0⟩) (by simp) ((Ow.dK h).perm (List.Perm.swap _ _ _)))
theorem nm {g:Int} {K:Int->Int->Bool->Pw} (h:Ow B w0 w (bG b n::R))
  (hK:∀w',Ow B w0 w' (bG b (n.bS g).2::R)->K ((n.bS g).1.getD 0) (if (n.bS g).1.isSome then g else 0) (n.bS g).1.isSome w'):C.qaN (some ⟨b,0,none⟩) g K w:=by
 apply S.qaN0;obtain ⟨s,hl,h⟩:=h.note;have hlen:=h.br s;unfold rK.bS at hK;refine ⟨_,rfl,s,h.aq rfl, ?_⟩;cases hn:n.l with
 |nil=>
  rw[hn] at hK hlen;refine aE (by simp at hlen;omega) ?_;refine ⟨_,rfl,_,h.aq rfl,_,rfl, ?_⟩;refine h.dy rfl rfl fun w h=>⟨_,rfl, ?_⟩
  refine h.dy rfl rfl fun w h=>?_
  (try dsimp only[putAt,List.set_cons_zero,List.set_cons_succ] at h)
  rw[hn] at h;exact hK w (Ow.iY (s:=s) (by simp) h)
 |cons x r=>
  rw[hn] at hK hlen;simp only[List.length_cons] at hlen;refine aR om ?_;refine ⟨_,rfl,s,h.aq rfl, ?_⟩;have h0:n.l[0]?=some x:=by rw[hn];rfl
  refine h.dZ (s:=s) (i:=0) (j:=0) rfl h0 fun a ha hc0 hc=>⟨_,hc0 _ rfl, ?_⟩
  refine ⟨_,rfl,s,h.aq rfl, ?_⟩;rw[hn] at h;refine zc (i:=0) (j:=1) h.dz om (by simp) (by rw[hn] at hl;simp at hl⊢;omega) fun s' w h=>⟨_,rfl, ?_⟩
  refine h.dy rfl rfl fun w h=>?_
  (try dsimp only[putAt,List.set_cons_zero,List.set_cons_succ] at h)
  have h:Ow B w0 w (ah aG s' r::_):=h;exact hK w (Ow.iY (s:=s') (by rw[hn] at hl;simp at hl⊢;omega) h.sub)
theorem pw {js:Int} {wt:Bool} {K:Int->Bool->Int->Pw} (hbig:n.l.length<1000000) (h:Ow B w0 w (bG b n::R))
  (hK:∀w',Ow B w0 w' (bG b (n.wait js wt).2::R)->K (n.wait js wt).1.1 (n.wait js wt).1.2.1 (n.wait js wt).1.2.2 w'):C.qbr (some ⟨b,0,none⟩) js wt K w:=by
 apply S.qbr0;obtain ⟨s,hl,h⟩:=h.note;unfold rK.wait at hK;refine ⟨_,rfl,s,h.aq rfl, ?_⟩;refine vv (s:=s) (xs:=n.l) h om fun w h=>?_
 cases ht:(n.l.any fun x=>js==x) with
 |true=>
  rw[ht] at hK;exact bN rfl (hK w (Ow.iY (s:=s) hl h))
 |false=>
  rw[ht] at hK;refine bD rfl ⟨_,rfl,_,h.aq rfl, ?_⟩;cases hi:n.is with
  |true=>
   rw[hi] at hK;refine bN rfl ⟨_,rfl,_,h.aq rfl,_,rfl, ?_⟩;refine h.dy rfl rfl fun w h=>⟨_,rfl, ?_⟩
   refine h.dy rfl rfl fun w h=>?_
   (try dsimp only[putAt,List.set_cons_zero,List.set_cons_succ] at h)
   exact hK w (Ow.iY (s:=s) hl h)
  |false=>
   rw[hi] at hK;refine bD rfl ?_;cases wt with
   |true=>
    refine bN rfl ⟨_,rfl,s,h.aq rfl, ?_⟩;refine h.a fun d w2 h=>?_;refine kU (s:=s) (y:=js) h om fun s' w hs' h=>⟨_,rfl, ?_⟩
    refine h.dy rfl rfl fun w h=>?_
    (try dsimp only[putAt,List.set_cons_zero,List.set_cons_succ] at h)
    exact hK w (Ow.iY (s:=s') (by simp;omega) (by rw[hi] at h;exact h.sub))
   |false=>
    refine bD rfl ?_;exact hK w (Ow.iY (s:=s) hl h)
end
end Go.Proofs.YtlhljbbfckbjpaaGreat
end
section
set_option maxRecDepth 8000
namespace Go.Proofs.YtlhljbbfckbjpaaGreat.Th
open Go Go.Vc Go.Proofs
theorem uv {n:Int} {K:Bool->Pw} {w:World} (h:K (decide (0≤n/\n<256)) w):C.qdM n K w:=by
 apply S.qdM0;by_cases h0:0≤n
 ·have e:decide (n≥0)=true:=by simpa using h0
  have e2:decide (0≤n/\n<256)=decide (n<256):=by simp[h0]
  rw[e,cond_true];rw[e2] at h;exact h
 ·have e:decide (n≥0)=false:=by simpa using h0
  have e2:decide (0≤n/\n<256)=false:=by simp[h0]
  rw[e,cond_false];rw[e2] at h;exact h
def HN (b:Int) (i:Nat) (on:Bool):Int:=if on then HH .u64 (fc .u64 b (gy .u64 1 i)) (gy .u64 1 i) else fc .u64 b (gy .u64 1 i)
def mq (l:List Int) (n:Nat) (on:Bool):List Int:=l.set (n / 64) (HN (l.getD (n / 64) 0) (n%64) on)
theorem tH {B:Nat} {w0 w:World} {R:List aA} {b1 b2 b3 b4 n:Int} {on:Bool} {K:Int->Int->Int->Int->Int->Pw} (h:Ow B w0 w R) (hn0:0≤n) (hn:n<256)
  (hK:∀r1 r2 r3 r4 w',Ow B w0 w' R->[r1,r2,r3,r4]=mq [b1,b2,b3,b4] n.toNat on->K r1 r2 r3 r4 0 w'):C.qdF b1 b2 b3 b4 n on K w:=by
 apply S.qdF0;refine h.al fun w7 h=>?_
 refine h.al fun w8 h=>?_
 apply uv;rw[show decide (0≤n/\n<256)=true from by simp[hn0,hn]];simp only[Bool.not_true,cond_false];refine h.dr fun w9 h=>?_
 obtain ⟨m,rfl⟩:=Int.eq_ofNat_of_zero_le hn0
 have hq:IntKind.i64.wrap (((m:Nat):Int).tdiv 64)=((m / 64:Nat):Int):=by
  rw[Int.tdiv_eq_ediv_of_nonneg om,wr om om];omega
 have hr:((m:Nat):Int).tmod 64=((m%64:Nat):Int):=by
  rw[Int.tmod_eq_emod_of_nonneg om];omega
 have hq4:m / 64<4:=by omega
 simp only[Int.toNat_natCast] at hK;rw[hq,hr];generalize hQ:m / 64=q at*
 generalize hr':m%64=r at*
 have hq5:q=0∨q=1∨q=2∨q=3:=by omega
 clear hq hq4;rcases hq5 with rfl|rfl|rfl|rfl<;>
 ·refine ⟨by decide,by decide,by decide,_,h.ld 1 rfl rfl,by decide,om,by decide,by decide, ?_,trivial⟩
  refine h.cC rfl rfl fun w10 h=>?_
  cases on
  ·rw[cond_false]
   refine h.gH rfl ?_;refine h.ax rfl rfl fun w11 h=>?_
   refine h.gH rfl ?_;refine hK _ _ _ _ _ h.drop.drop ?_;simp only[mq,hQ,hr'];rfl
  ·rw[cond_true]
   refine h.dr fun w11 h=>?_
   refine ⟨by decide,by decide,by decide,_,h.ld 1 rfl rfl,by decide,om,by decide,by decide, ?_,trivial⟩;refine h.cC rfl rfl fun w10 h=>?_
   refine h.gH rfl ?_;refine h.ax rfl rfl fun w11 h=>?_
   refine h.gH rfl ?_;refine hK _ _ _ _ _ h.drop.drop ?_;simp only[mq,hQ,hr'];rfl
def dP (x:Nat):Nat:=if x=0 then 0 else x.log2+1
theorem El {x n:Nat} (h1:x<2^n) (h2:n=0∨2^(n-1)≤x):dP x=n:=by
 unfold dP;rcases h2 with rfl|h2
 ·have:x=0:=by simpa using h1
  rw[if_pos this]
 ·by_cases hn:n=0
  ·subst hn;have:x=0:=by simpa using h1
   rw[if_pos this]
  ·have hp:0<2^(n-1):=Nat.two_pow_pos _
   rw[if_neg om,(Nat.log2_eq_iff om).2 ⟨h2,by rw[Nat.sub_add_cancel om];exact h1⟩];omega
theorem uS (x:Nat):x<2^dP x/\(dP x=0∨2^(dP x-1)≤x):=by
 unfold dP;by_cases h:x=0
 ·subst h;simp
 ·rw[if_neg h]
  have:=(Nat.log2_eq_iff h).1 rfl;exact ⟨this.2, .inr this.1⟩
theorem oY {x k:Nat} (h:2^k≤x):dP (x / 2^k)+k=dP x:=by
 obtain ⟨h1,h2⟩:=uS (x / 2^k);have hp:0<2^k:=Nat.two_pow_pos _;have hd:1≤x / 2^k:=(Nat.one_le_div_iff hp).2 h
 symm
 apply El
 ·rw[Nat.pow_add];exact (Nat.div_lt_iff_lt_mul hp).1 h1
 ·right
  rcases h2 with h2|h2
  ·rw[h2] at h1;omega
  ·have h3:dP (x / 2^k)≠0:=fun e=>by rw[e] at h1;omega
   rw[show dP (x / 2^k)+k-1=(dP (x / 2^k)-1)+k from by omega,Nat.pow_add];exact (Nat.le_div_iff_mul_le hp).1 h2
theorem Em {x n:Nat} (h:x<2^n):dP x≤n:=by
 rcases (uS x).2 with h1|h1
 ·omega
 ·have h2:2^(dP x-1)<2^n:=Nat.lt_of_le_of_lt h1 h
  have:=(Nat.pow_lt_pow_iff_right (by omega:1<2)).1 h2;omega
theorem GI (x:Nat) (h:x<256):Dm ⟨#[0,1,2,2,3,3,3,3,4,4,4,4,4,4,4,4,5,5,5,5,5,5,5,5,5,5,5,5,5,5,5,5,6,6,6,6,6,6,6,6,6,6,6,6,6,6,6,6,6,6,6,6,6,6,6,6,6,6,6,6,6,6,6,6,7,7,7,7,7,7,7,7,7,7,7,7,7,7,7,7,7,7,7,7,7,7,7,7,7,7,7,7,7,7,7,7,7,7,7,7,7,7,7,7,7,7,7,7,7,7,7,7,7,7,7,7,7,7,7,7,7,7,7,7,7,7,7,7,8,8,8,8,8,8,8,8,8,8,8,8,8,8,8,8,8,8,8,8,8,8,8,8,8,8,8,8,8,8,8,8,8,8,8,8,8,8,8,8,8,8,8,8,8,8,8,8,8,8,8,8,8,8,8,8,8,8,8,8,8,8,8,8,8,8,8,8,8,8,8,8,8,8,8,8,8,8,8,8,8,8,8,8,8,8,8,8,8,8,8,8,8,8,8,8,8,8,8,8,8,8,8,8,8,8,8,8,8,8,8,8,8,8,8,8,8,8,8,8,8,8,8,8,8,8,8,8]⟩ (x:Int) ((dP x:Nat):Int):=by
 have hc:(List.range 256).all (fun x=>((⟨#[0,1,2,2,3,3,3,3,4,4,4,4,4,4,4,4,5,5,5,5,5,5,5,5,5,5,5,5,5,5,5,5,6,6,6,6,6,6,6,6,6,6,6,6,6,6,6,6,6,6,6,6,6,6,6,6,6,6,6,6,6,6,6,6,7,7,7,7,7,7,7,7,7,7,7,7,7,7,7,7,7,7,7,7,7,7,7,7,7,7,7,7,7,7,7,7,7,7,7,7,7,7,7,7,7,7,7,7,7,7,7,7,7,7,7,7,7,7,7,7,7,7,7,7,7,7,7,7,8,8,8,8,8,8,8,8,8,8,8,8,8,8,8,8,8,8,8,8,8,8,8,8,8,8,8,8,8,8,8,8,8,8,8,8,8,8,8,8,8,8,8,8,8,8,8,8,8,8,8,8,8,8,8,8,8,8,8,8,8,8,8,8,8,8,8,8,8,8,8,8,8,8,8,8,8,8,8,8,8,8,8,8,8,8,8,8,8,8,8,8,8,8,8,8,8,8,8,8,8,8,8,8,8,8,8,8,8,8,8,8,8,8,8,8,8,8,8,8,8,8,8,8,8,8,8,8]⟩:ByteArray)[x]?).map UInt8.toNat==some (dP x))=true:=by kernel_rfl
 have:=List.all_eq_true.1 hc x (List.mem_range.2 h);have:=eq_of_beq this;obtain ⟨u,h1,h2⟩:=Option.map_eq_some_iff.1 this;exact ⟨om,u,by rw[Int.toNat_natCast];exact h1,by rw[h2]⟩
theorem ko (x k:Nat) (hk:k≤64):jl .u64 (x:Int) (k:Int)=((x / 2^k:Nat):Int):=by
 unfold jl;rw[Int.toNat_natCast,show IntKind.u64.bits=64 from rfl,Nat.min_eq_left hk];rw[show ((2:Int)^k)=((2^k:Nat):Int) from by simp];rw[Int.fdiv_eq_ediv_of_nonneg _ (Int.natCast_nonneg _)];simp
theorem JV {x:Int} (h1:0≤x) (h2:x<256):IntKind.u8.wrap x=x:=by
 have e1:(2:Int)^8=256:=by decide
 simp only[IntKind.wrap,IntKind.bits,IntKind.signed,e1,Bool.false_and,Bool.false_eq_true,if_false];omega
theorem lG {x:Nat} {K:Int->Pw} {w:World} (hx:x<2^64) (h:K ((dP x:Nat):Int) w):C.qck (x:Int) K w:=by
 apply S.qck0;intro k2 h2
 have hk2:∀(y n:Nat),y<2^32->dP y+n=dP x->n≤32->k2 (y:Int) (n:Int) w:=by
  intro y n hy hn hle;apply h2;intro k6 h6
  have hk6:∀(y n:Nat),y<2^16->dP y+n=dP x->n≤48->k6 (y:Int) (n:Int) w:=by
   intro y n hy hn hle;apply h6;intro k10 h10
   have hk10:∀(y n:Nat),y<2^8->dP y+n=dP x->n≤56->k10 (y:Int) (n:Int) w:=by
    intro y n hy hn hle;apply h10;have hl:=Em hy;rw[JV om om];refine ⟨_,GI y hy, ?_⟩;rw[wr (x:=((dP y:Nat):Int)) om om,wr om om];rw[show (n:Int)+((dP y:Nat):Int)=((dP x:Nat):Int) from by omega];exact h
   by_cases hc:y≥256
   ·rw[show decide ((y:Int)≥256)=true from by simp;omega,cond_true]
    refine ⟨by decide, ?_⟩;rw[wr om om,show (8:Int)=((8:Nat):Int) from rfl,ko y 8 om];refine hk10 (y / 2^8) (n+8) ?_ ?_ om
    ·have:y<2^8*2^8:=by simpa using hy
     exact Nat.div_lt_of_lt_mul this
    ·have:=oY (x:=y) (k:=8) (by simpa using hc);omega
   ·rw[show decide ((y:Int)≥256)=false from by simp;omega,cond_false]
    exact hk10 y n (by simp;omega) hn om
  by_cases hc:y≥65536
  ·rw[show decide ((y:Int)≥65536)=true from by simp;omega,cond_true]
   refine ⟨by decide, ?_⟩;rw[wr om om,show (16:Int)=((16:Nat):Int) from rfl,ko y 16 om];refine hk6 (y / 2^16) (n+16) ?_ ?_ om
   ·have:y<2^16*2^16:=by simpa using hy
    exact Nat.div_lt_of_lt_mul this
   ·have:=oY (x:=y) (k:=16) (by simpa using hc);omega
  ·rw[show decide ((y:Int)≥65536)=false from by simp;omega,cond_false]
   exact hk6 y n (by simp;omega) hn om
 by_cases hc:x≥4294967296
 ·rw[show decide ((x:Int)≥4294967296)=true from by simp;omega,cond_true]
  refine ⟨by decide, ?_⟩;rw[show (32:Int)=((32:Nat):Int) from rfl,ko x 32 om];refine hk2 (x / 2^32) 32 ?_ ?_ om
  ·have:x<2^32*2^32:=by simpa using hx
   exact Nat.div_lt_of_lt_mul this
  ·have:=oY (x:=x) (k:=32) (by simpa using hc);omega
 ·rw[show decide ((x:Int)≥4294967296)=false from by simp;omega,cond_false]
  exact hk2 x 0 (by simp;omega) om om
theorem CQ (x i:Nat) (on:Bool) (hx:x<2^64) (hi:i<64):∃y:Nat,HN (x:Int) i on=(y:Int)/\y<2^64/\∀j,j<64->y.testBit j=if j=i then on else x.testBit j:=by
 have hs:gy .u64 1 (i:Int)=((2^i:Nat):Int):=by
  unfold gy;rw[Int.toNat_natCast,show IntKind.u64.bits=64 from rfl,Nat.min_eq_left om,Int.one_mul,show ((2:Int)^i)=((2^i:Nat):Int) from by simp];have hp:(2:Nat)^64=18446744073709551616:=by decide
  have:2^i<2^64:=Nat.pow_lt_pow_right om hi;rw[hp] at this;generalize 2^i=y at*
  exact IM (Int.natCast_nonneg _) om
 have hbv:∀z:Nat,BitVec.ofInt IntKind.u64.bits (z:Int)=BitVec.ofNat 64 z:=fun z=>by
  apply BitVec.eq_of_toNat_eq;simp[IntKind.bits,BitVec.toNat_ofInt]
 have hwrap:∀z:BitVec 64,IntKind.u64.wrap ((z.toNat:Nat):Int)=((z.toNat:Nat):Int):=fun z=>by
  have hp:(2:Nat)^64=18446744073709551616:=by decide
  have:=z.isLt;rw[hp] at this;exact IM om om
 have hand:fc .u64 (x:Int) ((2^i:Nat):Int)=(((BitVec.ofNat 64 x &&& ~~~ BitVec.ofNat 64 (2^i)).toNat:Nat):Int):=by
  unfold fc;rw[hbv,hbv];exact hwrap _
 have hgl:∀(z j:Nat),j<64->(BitVec.ofNat 64 z).getLsbD j=z.testBit j:=fun z j hj=>by rw[BitVec.getLsbD_ofNat];simp[hj]
 have htb:∀j,(2^i).testBit j=decide (j=i):=fun j=>by
  rw[Nat.testBit_two_pow];exact decide_eq_decide.2 ⟨fun h=>h.symm,fun h=>h.symm⟩
 unfold HN;rw[hs,hand];cases on with
 |false=>
  refine ⟨_,rfl,(BitVec.ofNat 64 x &&& ~~~ BitVec.ofNat 64 (2^i)).isLt,fun j hj=>?_⟩;rw[BitVec.testBit_toNat,BitVec.getLsbD_and,BitVec.getLsbD_not,hgl _ _ hj,hgl _ _ hj,htb];by_cases e:j=i<;>simp[e,hj]
 |true=>
  refine ⟨(BitVec.ofNat 64 (BitVec.ofNat 64 x &&& ~~~ BitVec.ofNat 64 (2^i)).toNat ||| BitVec.ofNat 64 (2^i)).toNat, ?_,BitVec.isLt _,fun j hj=>?_⟩
  ·simp only[if_true];unfold HH;rw[hbv,hbv];exact hwrap _
  ·rw[BitVec.testBit_toNat,BitVec.getLsbD_or,BitVec.ofNat_toNat,BitVec.setWidth_eq,BitVec.getLsbD_and,BitVec.getLsbD_not,hgl _ _ hj,hgl _ _ hj,htb]
   by_cases e:j=i<;>simp[e,hj]
def gk (f:Nat->Bool) (ws:List Int):Prop:=ws.length=4/\∀j,j<4->∃x:Nat,ws[j]?=some (x:Int)/\x<2^64/\∀i,i<64->x.testBit i=f (64*j+i)
theorem gk.congr {f g:Nat->Bool} {ws:List Int} (h:gk f ws) (hfg:∀i,i<256->f i=g i):gk g ws:=
 ⟨h.1,fun j hj=>by obtain ⟨x,h1,h2,h3⟩:=h.2 j hj;exact ⟨x,h1,h2,fun i hi=>by rw[h3 i hi,hfg _ om]⟩⟩
theorem gk.set {f:Nat->Bool} {ws:List Int} (h:gk f ws) {n:Nat} (hn:n<256) (on:Bool):gk (fun i=>if i=n then on else f i) (mq ws n on):=by
 unfold mq;refine ⟨by simpa using h.1,fun j hj=>?_⟩;obtain ⟨x,h1,h2,h3⟩:=h.2 j hj;by_cases e:n / 64=j
 ·subst e
  obtain ⟨y,h4,h5,h6⟩:=CQ x (n%64) on h2 om;refine ⟨y, ?_,h5,fun i hi=>?_⟩
  ·rw[List.getElem?_set_self (by rw[h.1];exact hj),List.getD_eq_getElem?_getD,h1]
   simp only[Option.getD_some,h4]
  ·rw[h6 i hi,h3 i hi]
   show _=if 64*(n / 64)+i=n then on else f (64*(n / 64)+i)
   by_cases e:i=n%64
   ·rw[if_pos e,if_pos om]
   ·rw[if_neg e,if_neg om]
 ·refine ⟨x,by rw[List.getElem?_set_ne e];exact h1,h2,fun i hi=>?_⟩
  rw[h3 i hi];show _=if 64*j+i=n then on else f (64*j+i)
  rw[if_neg om]
theorem gk.zero:gk (fun _=>false) [0,0,0,0]:=by
 refine ⟨rfl,fun j hj=>⟨0, ?_,by decide,fun i _=>by simp⟩⟩
 match j,hj with
 |0,_|1,_|2,_|3,_=>rfl
def nz (f:Nat->Bool):Nat->Option Nat
 |0=>none
 |n+1=>if f n then some n else nz f n
theorem pK (f:Nat->Bool) (a:Nat):∀(d:Nat),(∀q,a≤q->q<a+d->f q=false)->nz f (a+d)=nz f a
 |0,_=>rfl
 |d+1,h=>by
  show nz f ((a+d)+1)=_;simp only[nz,h (a+d) om om,Bool.false_eq_true,if_false];exact pK f a d fun q h1 h2=>h q h1 om
theorem GN {f:Nat->Bool} {p n:Nat} (hp:p<n) (hf:f p=true) (h:∀q,p<q->q<n->f q=false):nz f n=some p:=by
 have:=pK f (p+1) (n-(p+1)) fun q h1 h2=>h q om om
 rw[show p+1+(n-(p+1))=n from by omega] at this;rw[this];simp[nz,hf]
theorem yP {f:Nat->Bool}:∀{n p:Nat},nz f n=some p->p<n/\f p=true/\∀q,p<q->q<n->f q=false
 |n+1,p,h=>by
  simp only[nz] at h;split at h
  ·rename_i hf;cases h;exact ⟨om,hf,fun q h1 h2=>by omega⟩
  ·rename_i hf
   obtain ⟨h1,h2,h3⟩:=yP h;refine ⟨om,h2,fun q h4 h5=>?_⟩;by_cases e:q=n
   ·subst e;simpa using hf
   ·exact h3 q h4 om
def C0 (f:Nat->Bool):Int:=match nz f 256 with|some p=>(p:Int)|none=> -1
theorem Er {x:Nat} (hx:x≠0):x.testBit x.log2=true/\∀j,x.log2<j->x.testBit j=false:=by
 have h:=(Nat.log2_eq_iff hx).1 rfl;refine ⟨?_,fun j hj=>Nat.testBit_lt_two_pow (Nat.lt_of_lt_of_le h.2 (Nat.pow_le_pow_right om hj))⟩;rw[Nat.testBit_eq_decide_div_mod_eq]
 have:x / 2^x.log2=1:=by
  apply Nat.div_eq_of_lt_le
  ·simpa using h.1
  ·have:=h.2;rw[Nat.pow_succ] at this;omega
 rw[this];rfl
theorem tI {B:Nat} {w0 w:World} {R:List aA} {b1 b2 b3 b4:Int} {f:Nat->Bool} {K:Int->Pw} (h:Ow B w0 w R) (hb:gk f [b1,b2,b3,b4])
  (hK:∀w',Ow B w0 w' R->K (C0 f) w'):C.qdE b1 b2 b3 b4 K w:=by
 apply S.qdE0;refine h.al fun w1 h=>?_
 intro l hl
 have key:∀(m t:Nat),t+m=4->nz f 256=nz f (64*m)->l (t:Int) w1:=by
  intro m
  induction m with
  |zero=>
   intro t ht hf;apply hl;rw[show decide ((t:Int)<4)=false from by simp;omega,cond_false];have:C0 f= -1:=by unfold C0;rw[hf];rfl
   rw[←this];exact hK _ h.drop
  |succ m ih=>
   intro t ht hf;apply hl;rw[show decide ((t:Int)<4)=true from by simp;omega,cond_true];have hi:IntKind.i64.wrap (3-(t:Int))=(m:Int):=by rw[wr om om];omega
   rw[hi];obtain ⟨x,h1,h2,h3⟩:=hb.2 m om
   have hcell: [Value.int .u64 b1, .y b2, .y b3, .y b4][0+((m:Int).toNat*1)]?=some (.y (x:Int)):=by
    rw[Int.toNat_natCast,Nat.mul_one,Nat.zero_add];have:=congrArg (Option.map (Value.int .u64)) h1;rw[←List.getElem?_map] at this;exact this
   refine ⟨om,om,_,h.ld 0 rfl hcell, ?_⟩;by_cases hx:x=0
   ·subst hx
    rw[show (((0:Nat):Int) !=0)=false from rfl,cond_false,wr om om]
    have h4:=ih (t+1) om (by
     rw[hf,show 64*(m+1)=64*m+64 from by omega];refine pK f (64*m) 64 fun q h5 h6=>?_
     have:=h3 (q-64*m) om;rw[show 64*m+(q-64*m)=q from by omega] at this;rw[←this];simp)
    exact h4
   ·rw[show ((x:Int) !=0)=true from by simp[hx],cond_true]
    refine ⟨om,om,_,h.ld 0 rfl hcell, ?_⟩;apply lG h2;obtain ⟨h4,h5⟩:=Er hx;have hlt:x.log2<64:=(Nat.log2_lt hx).2 h2
    have htop:nz f 256=some (64*m+x.log2):=by
     rw[hf];refine GN om (by rw[←h3 _ hlt];exact h4) fun q h6 h7=>?_
     have:=h3 (q-64*m) om;rw[show 64*m+(q-64*m)=q from by omega] at this;rw[←this];exact h5 _ om
    have hl64:dP x=x.log2+1:=by unfold dP;rw[if_neg hx]
    rw[hl64,wr (x:=(m:Int)*64) om om,wr (x:=(m:Int)*64+((x.log2+1:Nat):Int)) om om,wr om om];have:(m:Int)*64+((x.log2+1:Nat):Int)-1=C0 f:=by unfold C0;rw[htop];simp;omega
    rw[this];exact hK _ h.drop
 exact key 4 0 rfl rfl
theorem BP {B:Nat} {w0 w:World} {L:List aA} {s:Sl} {xs:List Int} {y:Int} {c:Nat} {k:Sl->Pw} (h:Ow B w0 w (aa c [.z y]::L)) (i:Nat) (hL:L[i]?=some (ah aG s xs))
  (hbig:xs.length≤1000000000000) (hk:∀s' w',s'.len=xs.length+1->Ow B w0 w' (L.set i (ah aG s' (xs++ [y])))->k s' w'):
  ∃s' w',bo Tryz.prog [22,22] 22 (.slice s.a s.len s.cap) (.slice (some (Addr.mk c 0 none)) 1 1) w s' w'/\k s' w':=
 Ow.Hg (E:=aG) (y:=y) Tryz.underlying22 (show Tryz.prog.info? 3=some Tryz.t3 from by kernel_rfl) (zv:= .z 0) (by kernel_rfl) (by kernel_rfl) rfl (by decide) h i hL (by
  have e:Tryz.t3.bytes=8:=by kernel_rfl
  rw[e];omega) hk
def Dn (B:Nat) (w0:World) (L:List aA) (fv:Value) (p:Int->Bool):Prop:=
 ∀(x:Int) (w:World) (Q:Bool->Pw),Ow B w0 w L->(∀w',Ow B w0 w' L->Q (p x) w')->bY Tryz.prog fv [.z x] w fun en w'=>∃r:Bool,en= .returned (.bool r)/\Q r w'
theorem gL {B:Nat} {w0 w:World} {L:List aA} {s:Sl} {xs:List Int} {fv:Value} {p:Int->Bool} {K:Int->Pw} (h:Ow B w0 w L) (i:Nat) (hi:L[i]?=some (ah aG s xs))
  (hbig:xs.length≤1000000000000) (hf:Dn B w0 L fv p)
  (hK:∀w',Ow B w0 w' L->K (match xs.findIdx? p with|some j=>(j:Int)|none=> -1) w'):C.qs s fv K w:=by
 apply S.qs0;intro l hl;have hlen:=h.len i hi
 have key:∀(m j:Nat) (w:World),j+m=xs.length->(∀q,q<j->∀x,xs[q]?=some x->p x=false)->Ow B w0 w L->l (j:Int) w:=by
  intro m
  induction m with
  |zero=>
   intro j w hj hno h;apply hl;rw[hlen,show decide ((j:Int)<(xs.length:Int))=false from by simp;omega,cond_false]
   have:xs.findIdx? p=none:=by
    rw[List.findIdx?_eq_none_iff];intro x hx;obtain ⟨q,hq⟩:=List.mem_iff_getElem?.1 hx;exact hno q (by have:=(List.getElem?_eq_some_iff.1 hq).1;omega) x hq
   have:=hK w h
   rwa [‹xs.findIdx? p=none›] at this
  |succ m ih=>
   intro j w hj hno h;apply hl;rw[hlen,show decide ((j:Int)<(xs.length:Int))=true from by simp;omega,cond_true];have hlt:j<xs.length:=by omega
   obtain ⟨a,ha,hc⟩:=h.Ge i hi (gE hlt);refine ⟨a,ha,om,om,_,by rw[Int.toNat_natCast];exact hc, ?_⟩;refine hf _ _ _ h fun w' h=>?_
   cases hp:p xs[j] with
   |true=>
    rw[cond_true]
    have:xs.findIdx? p=some j:=by
     rw[List.findIdx?_eq_some_iff_getElem];refine ⟨hlt,hp,fun q hq=>?_⟩;simp[hno q hq _ (gE om)]
    have h2:=hK w' h
    rwa [this] at h2
   |false=>
    rw[cond_false,wr om om];refine ih (j+1) w' om (fun q hq x hx=>?_) h;by_cases e:q=j
    ·subst e;rw[gE hlt] at hx;cases hx;exact hp
    ·exact hno q om x hx
 exact key xs.length 0 w om (fun q hq=>by omega) h
theorem jz (xs:List Int) (q:Int->Bool) (j:Nat) (x:Int) (hx:xs[j]?=some x):(xs.take (j+1)).filter q=(xs.take j).filter q++if q x then [x] else []:=by
 rw[List.take_add_one,hx,List.filter_append];congr 1;simp only[Option.toList_some,List.filter_cons,List.filter_nil]
theorem dS {B:Nat} {w0 w:World} {L:List aA} {s:Sl} {xs:List Int} {fv:Value} {p:Int->Bool} {K:Sl->Pw} (h:Ow B w0 w L) (i:Nat) (hi:L[i]?=some (ah aG s xs))
  (hbig:xs.length≤1000000000000) (hf:∀ys,ys.length=xs.length->Dn B w0 (L.set i (ah aG s ys)) fv p)
  (hK:∀s' w',Ow B w0 w' (L.set i (ah aG s' (xs.filter fun x=> !p x)))->K s' w'):C.qL s fv K w:=by
 apply S.qL0
 have hself:∀A,L[i]?=some A->L.set i A=L:=by
  intro A hA;apply List.ext_getElem?;intro j;rw[List.getElem?_set];by_cases e:i=j
  ·subst e;rw[if_pos rfl,if_pos (bQ hA),hA]
  ·simp[e]
 have hf0:Dn B w0 L fv p:=by have:=hf xs rfl;rwa [hself _ hi] at this
 have hlen:=h.len i hi;have hspot:=(h.vg i hi).spot;refine gL h i hi hbig hf0 fun w1 h=>?_
 cases hfi:xs.findIdx? p with
 |none=>
  rw[show ((-1:Int)== -1)=true from rfl,cond_true]
  have:xs.filter (fun x=> !p x)=xs:=by
   rw[List.filter_eq_self];intro x hx;rw[List.findIdx?_eq_none_iff] at hfi;simp[hfi x hx]
  have h2:=hK s w1;rw[this,hself _ hi] at h2;exact h2 h
 |some i0=>
  obtain ⟨hi0,hp0,hbefore⟩:=List.findIdx?_eq_some_iff_getElem.1 hfi;rw[show (((i0:Nat):Int)== -1)=false from by simp,cond_false];intro l hl;have hcap:=(h.vg i hi).fo
  have key:∀(m j q:Nat) (ys:List Int) (w:World),j+m=xs.length->ys.length=xs.length->ys.take q=(xs.take j).filter (fun x=> !p x)->q<j->q≤ys.length->ys.drop j=xs.drop j->
    Ow B w0 w (L.set i (ah aG s ys))->l (q:Int) (j:Int) w:=by
   intro m
   induction m with
   |zero=>
    intro j q ys w hj hys hq hqj hqy hd h;have hi':(L.set i (ah aG s ys))[i]?=some (ah aG s ys):=by rw[List.getElem?_set_self (bQ hi)]
    apply hl;rw[hlen,show decide ((j:Int)<(xs.length:Int))=false from by simp;omega,cond_false];refine ⟨om,om, ?_⟩;rw[Int.toNat_natCast,←hlen];have hn:q≤ys.length:=hqy;refine h.clear (P:=Tryz.prog) (T:=22) (t:=0) (zv:= .z 0) (z0:=0) Tryz.underlying22 (fun w=>Tryz.zeroValue3 w) rfl i hi' hn fun w2 h=>?_
    refine ⟨om,om, ?_⟩;have hi2:=List.getElem?_set_self (a:=ah aG s (ys.take q++List.replicate (ys.length-q) 0)) (bQ hi');have h3:=h.pre i hi2 (n:=q) (by simp;omega);rw[CU _ _ _ hspot]
    have e1:(ys.take q++List.replicate (ys.length-q) 0).take q=xs.filter (fun x=> !p x):=by
     rw[List.take_append_of_le_length (by simp;omega),List.take_take,Nat.min_self,hq,List.take_of_length_le om]
    rw[e1] at h3;simp only[List.set_set] at h3;exact hK _ _ h3
   |succ m ih=>
    intro j q ys w hj hys hq hqj hqy hd h;have hi':(L.set i (ah aG s ys))[i]?=some (ah aG s ys):=by rw[List.getElem?_set_self (bQ hi)]
    have hjlt:j<xs.length:=by omega
    have hyj:ys[j]?=some xs[j]:=by
     have:=congrArg (fun l=>l[0]?) hd;simp only[List.getElem?_drop,Nat.add_zero] at this;rw[this,gE hjlt]
    apply hl;rw[hlen,show decide ((j:Int)<(xs.length:Int))=true from by simp;omega,cond_true];obtain ⟨a,ha,hc⟩:=h.Ge i hi' hyj;refine ⟨a,ha,om,om,_,by rw[Int.toNat_natCast];exact hc, ?_⟩;refine hf ys hys _ _ _ h fun w2 h=>?_
    have hft:=jz xs (fun x=> !p x) j _ (gE hjlt)
    have hd1:∀zs:List Int,zs.drop j=xs.drop j->zs.drop (j+1)=xs.drop (j+1):=fun zs hz=>by
     rw[←List.drop_drop (i:=1) (j:=j),←List.drop_drop (i:=1) (j:=j),hz]
    cases hp:p xs[j] with
    |true=>
     simp only[Bool.not_true,cond_false];rw[wr om om];refine ih (j+1) q ys w2 om hys ?_ om hqy (hd1 ys hd) h;rw[hq,hft,hp];simp
    |false=>
     simp only[Bool.not_false,cond_true];obtain ⟨b,o,hb,_⟩:=h.get i hi' hyj;rw[ha] at hb;cases hb;refine ⟨_,ha,om,om, ?_⟩;rw[Int.toNat_natCast,aI];refine h.JF i hi' (j:=q) om xs[j] ha rfl fun w3 h=>?_
     simp only[List.set_set] at h;rw[wr om om,wr om om];refine ih (j+1) (q+1) _ w3 om (by simpa using hys) ?_ om (by simp;omega) ?_ h
     ·rw[hft,hp]
      simp only[Bool.not_false,if_true];rw[List.take_add_one,List.getElem?_set_self om,List.take_set_of_le om,hq];rfl
     ·rw[List.drop_set_of_lt om]
      exact hd1 ys hd
  refine key (xs.length-(i0+1)) (i0+1) i0 xs w1 om rfl ?_ om om rfl (by rw[hself _ hi];exact h) |> fun h=>?_
  rw[wI i0 om]
  ·exact h
  ·rw[jz xs _ i0 _ (gE hi0),hp0]
   simp only[Bool.not_true,Bool.false_eq_true,if_false,List.append_nil]
   symm
   rw[List.filter_eq_self];intro x hx;obtain ⟨q,hq⟩:=List.mem_iff_getElem?.1 hx;rw[List.getElem?_take] at hq;split at hq
   ·rename_i hlt
    obtain ⟨h4,h5⟩:=List.getElem?_eq_some_iff.1 hq;have:=hbefore q hlt;rw[h5] at this;simpa using this
   ·cases hq
end Go.Proofs.YtlhljbbfckbjpaaGreat.Th
end
section
set_option maxRecDepth 8000
namespace Go.Proofs.YtlhljbbfckbjpaaGreat
open Go Go.Vc Go.Proofs
section
variable {B:Nat} {w0 w:World} {R L:List aA} {b:Nat} {n:rK}
theorem nk {js:Int} {K:Bool->Pw} (h:Ow B w0 w (bG b n::R)) (hK:∀r w',Ow B w0 w' (bG b (n.cancel js)::R)->K r w'):C.qaR (some ⟨b,0,none⟩) js K w:=by
 apply S.qaR0;obtain ⟨s,hl,h⟩:=h.note;refine h.a fun c w1 h=>?_;refine ⟨_,rfl,s,h.aq rfl,_,rfl,s,h.aq rfl, ?_⟩;refine Th.dS (p:=fun x=>x==js) h 2 rfl om (fun ys hys x w Q h hQ=>?_) fun s' w h=>?_
 ·refine aP ?_
  show C.qaV x ⟨c,0,none⟩ Q w;apply S.qaV0;have h2:Ow B w0 w (aa c [.z js]::aa b [.y n.word, .bool n.is, .slice s.a s.len s.cap]::ah aG s ys::R):=h;exact ⟨_,h2.aq rfl,hQ _ h⟩
 ·have h:Ow B w0 w (aa c [.z js]::aa b [.y n.word, .bool n.is, .slice s.a s.len s.cap]::ah aG s' (n.l.filter fun x=> !(x==js))::R):=h
  refine ⟨_,rfl, ?_⟩;refine h.dy rfl rfl fun w h=>?_
  (try dsimp only[putAt,List.set_cons_zero,List.set_cons_succ] at h)
  refine ⟨_,rfl,s',h.aq rfl, ?_⟩;exact hK _ w (Ow.iY (s:=s') (Nat.le_trans (List.length_filter_le _ _) hl) (show Ow B w0 w (aa b [.y n.word, .bool n.is, .slice s'.a s'.len s'.cap]::ah aG s' (n.l.filter fun x=> !(x==js))::R) from h.sub))
end
end Go.Proofs.YtlhljbbfckbjpaaGreat
end
section
set_option maxRecDepth 100000
namespace Go.Proofs.YtlhljbbfckbjpaaGreat
open Go Go.Vc Go.Proofs
theorem S.qci0 {a b K w}:Fr (C.qci a b K w) (C.qcf a b (fun a b=>bif a.isNone then K 0 0 false 130 b else ∃c,a=some c/\∃d,b.cell? c=some (.z d)/\∀c:Pw,(∀b:World,(∃c,a=some c/\St b c (.z 3) fun a=>K 0 0 false 0 a)->c b)->(bif d==1 then ∃e,a=some e/\St b e (.z 2) fun e=>Dr e fun e=>∃f,a=some f/\∃g,e.cell? (f.add 1)=some (.z g)/\∃f,a=some f/\∃a,e.cell? (f.add 2)=some (.y a)/\K g a true 0 e else bif d==2 then c b else bif d==3 then c b else K 0 0 false 0 b)) w):=aD Tryz.func45 (.v (.v (.y (.v (.x .w)) (.y (.v (.x (.y (.t (some []) (.x (.y (.x (.x (.y (.v .w) (.y (.v .w) (.v .w))))) (.x .g5))) .u) .w))) .w))))
theorem S.qdU0 {a K w}:Fr (C.qdU a K w) (∀b:Bool->Pw,(∀(c:Bool) (d:World),(bif c then K none 1 d else ∃(b:Sl) (c:World),nK Tryz.prog 200 (.z a) (.z a) d b c/\A2 c [.slice b.a b.len b.cap] 202 fun a b=>K (some a.p) 0 b)->b c d)->(bif decide (a<1) then b true w else b (decide (a>64)) w)):=aD Tryz.func56 .Is
theorem S.qcf0 {a b K w}:Fr (C.qcf a b K w) (∀c:Bool->Pw,(∀(d:Bool) (e:World),(bif d then K none e else ∃c,a=some c/\∃a:Sl,e.cell? c=some (.slice a.a a.len a.cap)/\∃c,a.a=some c/\0≤b/\b<(a.len:Int)/\K (some (c.add (b.toNat*3))) e)->c d e)->(bif decide (b<0) then c true w else ∃d,a=some d/\∃a:Sl,w.cell? d=some (.slice a.a a.len a.cap)/\c (decide (b≥(a.len:Int))) w)):=aD Tryz.func75 .Jz
theorem S.qcz0 {a b c d K w}:Fr (C.qcz a b c d K w) (C.qcf a b (fun a b=>bif a.isNone then K 130 b else bif decide (c<0) then K 1 b else ∃e,a=some e/\∃f,b.cell? e=some (.z f)/\bif f !=0 then K 131 b else ∃e,a=some e/\aH b e 0 [.z 1, .z c, .y d] fun a=>K 0 a) w):=aD Tryz.func201 (.v (.v (.y (.x (.v .Jc)) (.v .w))))
theorem S.qcO0 {a b K w}:Fr (C.qcO a b K w) (C.qcf a b (fun a b=>bif a.isNone then K 0 0 false 130 b else ∃c,a=some c/\∃d,b.cell? c=some (.z d)/\bif d==3 then ∃c,a=some c/\St b c (.z 2) fun c=>Dr c fun c=>∃e,a=some e/\∃f,c.cell? (e.add 1)=some (.z f)/\∃e,a=some e/\∃g,c.cell? (e.add 2)=some (.y g)/\K f g true 0 c else bif d==2 then ∃c,a=some c/\St b c (.z 1) fun a=>K 0 0 false 0 a else K 0 0 false 0 b) w):=aD Tryz.func202 (.v (.v (.y (.v (.x .w)) (.y (.v (.x (.v (.y .g5 (.v .w))))) .w))))
theorem S.qbE0 {a b K w}:Fr (C.qbE a b K w) (∃c,a=some c/\∃d,w.cell? (c.add 3)=some (.pointer d)/\C.qci d b (fun b c d e f=>bif !d then K (-1) e f else C.qX a b c (fun a b=>K a e b) f) w):=aD Tryz.func21 .H3
theorem S.qbj0 {a b K w}:Fr (C.qbj a b K w) (∃c,a=some c/\∃a,w.cell? (c.add 2)=some (.pointer a)/\C.qaL a b (fun a b=>K a b) w):=aD Tryz.func22 (.v .w)
theorem S.qdn0 {a b c d K w}:Fr (C.qdn a b c d K w) (A2 w [.z a, .z b, .z c, .slice d.a d.len d.cap] 24 fun a b=>az b a.p 0 [.o, .o, .o, .s] fun (c d e:Int) (f:Sl)=>C.qdc c d e f (fun b c=>bif !b then K none 1 c else ∀b:Option Addr->Pw,(∀(c:Option Addr) (d:World),(∃b,d.cell? a.p=some (.z b)/\C.qdp b (fun b _ d=>∃e,c=some e/\St d (e.add 2) (.pointer b) fun b=>C.qdU 8 (fun b _ d=>∃e,c=some e/\St d (e.add 3) (.pointer b) fun b=>∃d,c=some d/\∃e,b.cell? d=some (.pointer e)/\C.qbt e 6 (fun _ _ b=>C.qQ c 0 2 0 (fun b d=>C.qQ c b 1 0 (fun b d=>∃e:Sl,d.cell? (a.p.add 3)=some (.slice e.a e.len e.cap)/\∀f:Int->Int->Pw,(∀(b d:Int) (g:World),(bif decide (d<(e.len:Int)) then ∃h,e.a=some h/\0≤d/\d<(e.len:Int)/\∃e,g.cell? (h.add (d.toNat*1))=some (.z e)/\∃h,c=some h/\∃i,g.cell? (h.add 2)=some (.pointer i)/\C.qN i e d (fun a _ e=>∃g,c=some g/\∃h,e.cell? (g.add 2)=some (.pointer h)/\C.qG h a (fun _ e=>∃g,c=some g/\∃h,e.cell? (g.add 2)=some (.pointer h)/\C.qO h d (fun _ _ e=>C.qQ c b 3 a (fun a b=>f a (IntKind.i64.wrap (d+1)) b) e) e) e) g else C.qQ c b 8 0 (fun b d=>∃e,d.cell? (a.p.add 2)=some (.z e)/\∀a:Int->Int->Pw,(∀(b d:Int) (f:World),(bif decide (d<e) then C.qQ c b 9 d (fun b c=>a b (IntKind.i64.wrap (d+1)) c) f else K c 0 f)->a b d f)->a b 0 d) g)->f b d g)->f b 0 d) d) b) b) b) d)->b c d)->(Dr c fun c=>∃d,c.cell? (a.p.add 1)=some (.z d)/\∃e,c.cell? a.p=some (.z e)/\(C.qds (fun c f=>f.cell? a.p=some (.z e)/\f.cell? (a.p.add 1)=some (.z d)/\(C.qdA (fun f g=>g.cell? a.p=some (.z e)/\g.cell? (a.p.add 1)=some (.z d)/\(A2 g [.y 0, .z d, .y 0] 136 fun d g=>(C.qcr (fun g h=>h.cell? a.p=some (.z e)/\(A2 h [.pointer g] 137 fun a g=>(A2 g [.pointer c, .pointer f, .pointer none, .pointer none, .slice (some d.p) 1 1, .slice none 0 0, .slice none 0 0, .slice (some a.p) 1 1, .z 0, .z 0, .z 1, .z e] 115 fun a c=>b (some a.p) c)/\True)/\True) g)/\True)/\(C.qcr (fun g h=>h.cell? a.p=some (.z e)/\h.cell? (a.p.add 1)=some (.z d)/\(A2 h [.y 0, .z d, .y 0] 136 fun a d=>(A2 d [.pointer g] 137 fun d g=>(A2 g [.pointer c, .pointer f, .pointer none, .pointer none, .slice (some a.p) 1 1, .slice none 0 0, .slice none 0 0, .slice (some d.p) 1 1, .z 0, .z 0, .z 1, .z e] 115 fun a c=>b (some a.p) c)/\True)/\True)/\(A2 h [.pointer g] 137 fun a g=>(A2 g [.y 0, .z d, .y 0] 136 fun d g=>(A2 g [.pointer c, .pointer f, .pointer none, .pointer none, .slice (some d.p) 1 1, .slice none 0 0, .slice none 0 0, .slice (some a.p) 1 1, .z 0, .z 0, .z 1, .z e] 115 fun a c=>b (some a.p) c)/\True)/\True)/\True) g)/\True) f)/\(A2 f [.y 0, .z d, .y 0] 136 fun d f=>(C.qdA (fun f g=>g.cell? a.p=some (.z e)/\(C.qcr (fun g h=>h.cell? a.p=some (.z e)/\(A2 h [.pointer g] 137 fun a g=>(A2 g [.pointer c, .pointer f, .pointer none, .pointer none, .slice (some d.p) 1 1, .slice none 0 0, .slice none 0 0, .slice (some a.p) 1 1, .z 0, .z 0, .z 1, .z e] 115 fun a c=>b (some a.p) c)/\True)/\True) g)/\True) f)/\True)/\True) c)/\(A2 c [.y 0, .z d, .y 0] 136 fun c d=>(C.qds (fun d f=>f.cell? a.p=some (.z e)/\(C.qdA (fun f g=>g.cell? a.p=some (.z e)/\(C.qcr (fun g h=>h.cell? a.p=some (.z e)/\(A2 h [.pointer g] 137 fun a g=>(A2 g [.pointer d, .pointer f, .pointer none, .pointer none, .slice (some c.p) 1 1, .slice none 0 0, .slice none 0 0, .slice (some a.p) 1 1, .z 0, .z 0, .z 1, .z e] 115 fun a c=>b (some a.p) c)/\True)/\True) g)/\True) f)/\True) d)/\True)/\True)) b):=aD Tryz.func30 (.v (.y (.v (.x .w)) (.y (.r (some [(4,.c .p)]) (.o 2 963 (.o 8 251 (.hold 3 707 6111 (.o 4 707 (.hold 9 227 6143 (.f 0 (.f 1 (.f 5 (.e 6 .I8) (.e 6 (.f 5 .I8 (.e 7 (.e 5 .Jd))))) (.e 5 .JA)) (.e 5 (.e 0 .JA))))))))) (.v (.v (.v (.v (.v (.y (.v (.x (.t (some [(5,.c (.i .i64)),(55,.c (.i .i64))]) (.v (.y .w (.x (.x (.v (.v (.v .w))))))) .u))) (.v (.y (.v (.x (.t (some [(5,.c (.i .i64)),(92,.c (.i .i64))]) .FG .u))) .w)))))))))))
theorem S.qX0 {a b c K w}:Fr (C.qX a b c K w) (∃d,a=some d/\∃e:Sl,w.cell? (d.add 6)=some (.slice e.a e.len e.cap)/\∃d,e.a=some d/\0≤b/\b<(e.len:Int)/\∃e,w.cell? (d.add (b.toNat*1))=some (.pointer e)/\C.qaN e c (fun b c d e=>bif !d then K (-1) e else ∃d,a=some d/\∃f,e.cell? (d.add 2)=some (.pointer f)/\C.qA f b 0 c (fun _ c=>∃d,a=some d/\∃a,c.cell? (d.add 2)=some (.pointer a)/\C.qG a b (fun _ a=>K b a) c) e) w):=aD Tryz.func46 (.v .Ja)
theorem S.qbl0 {a K w}:Fr (C.qbl a K w) (∃b,a=some b/\∃a,w.cell? b=some (.pointer a)/\C.qbu a (fun a b=>K a b) w):=aD Tryz.func50 (.v .w)
theorem S.qdc0 {a b c d K w}:Fr (C.qdc a b c d K w) (A2 w [.z a, .z b, .z c, .slice d.a d.len d.cap] 24 fun a b=>∀c:Bool->Pw,(∀(b:Bool) (d:World),(bif b then ∃b:Sl,d.cell? (a.p.add 3)=some (.slice b.a b.len b.cap)/\∃c,d.cell? a.p=some (.z c)/\bif (b.len:Int)==c then ∃b:Sl,d.cell? (a.p.add 3)=some (.slice b.a b.len b.cap)/\C.qy b (.func (.func 84) #[] #[]) (fun a b=>K (!a) b) d else K false d else K false d)->c b d)->(∃d,b.cell? a.p=some (.z d)/\bif decide (d≥1) then ∃d,b.cell? a.p=some (.z d)/\bif decide (d≤8) then ∃d,b.cell? (a.p.add 1)=some (.z d)/\bif decide (d≥4) then ∃d,b.cell? (a.p.add 1)=some (.z d)/\bif decide (d≤20) then ∃d,b.cell? (a.p.add 2)=some (.z d)/\bif decide (d≥0) then ∃d,b.cell? (a.p.add 2)=some (.z d)/\c (decide (d≤8)) b else c false b else c false b else c false b else c false b else c false b)):=aD Tryz.func51 (.v (.v (.y (.r (some [(4,.c .b)]) .done) .w)))
theorem S.qQ0 {a b c d K w}:Fr (C.qQ a b c d K w) (A2 w [.z 0, .z 0] 204 fun e f=>aH f e.p 0 [.z 0, .z b] fun f=>Dr f fun f=>∃g,a=some g/\∃h,f.cell? g=some (.pointer h)/\az f e.p 0 [.o, .o] fun (g i:Int)=>(C.qbR h g i c d 7 0 0 0 (fun _ c=>Dr c fun c=>∃d,a=some d/\∃a,c.cell? (d.add 1)=some (.pointer a)/\az c e.p 0 [.o, .o] fun (d e:Int)=>(C.qcx a d e (fun _ a=>K (IntKind.i64.wrap (b+1)) a) c)/\True) f)/\True):=aD Tryz.func58 (.v (.v (.y (.z (.o 0 240 (.o 1 240 (.o 2 240 (.o 3 240 (.o 4 224 (.o 5 64 .IS))))))) .g19)))
theorem S.qbV0 {a b c d e f g h K w}:Fr (C.qbV a b c d e f g h K w) (A2 w [.z c, .z d, .z e, .z f, .z g, .z h] 76 fun c d=>A2 d [.z 0, .y 0, .z 0, .slice none 0 0] 36 fun d e=>az e c.p 0 [.o, .o, .o, .o, .o, .o] fun (f g h i j k:Int)=>A2 e [.pointer a, .z b, .z 0, .z f, .z g, .z h, .z i, .z j, .z k, .z 0, .z 0, .z 0, .z 0, .z 0, .y 0, .y 0, .z 0, .z 0, .y 0, .z (-1), .slice none 0 0] 227 fun e f=>∃g,a=some g/\∃h,f.cell? (g.add 2)=some (.pointer h)/\C.qO h b (fun f g h=>∃i,some e.p=some i/\St h (i.add 2) (.z f) fun f=>∀h:Pw,(∀a:World,(∃b,some e.p=some b/\az a (b.add 17) 0 [.o, .u, .o, .s] fun (b c e:Int) (f:Sl)=>aH a d.p 0 [.z b, .y c, .z e, .slice f.a f.len f.cap] fun a=>az a d.p 0 [.o, .u, .o, .s] fun (b c d:Int) (e:Sl)=>K b c d e a)->h a)->(bif !g then ∃d,some e.p=some d/\St f (d.add 17) (.z 182) fun d=>h d else ∀d:Bool->Pw,(∀(f:Bool) (g:World),(bif f then ∃d,some e.p=some d/\St g (d.add 17) (.z 180) fun d=>h d else ∃d,g.cell? c.p=some (.z d)/\bif d==17 then ∃c,a=some c/\∃a,g.cell? (c.add 2)=some (.pointer a)/\C.qaf a b (fun _ a=>h a) g else C.qbn (some e.p) (fun a b=>∃c,some e.p=some c/\St b (c.add 17) (.z a) fun a=>h a) g)->d f g)->(∃a,f.cell? c.p=some (.z a)/\bif decide (a<0) then d true f else ∃a,f.cell? c.p=some (.z a)/\d (decide (a≥18)) f))) f):=aD Tryz.func70 (.v (.v (.v (.v (.y (.x (.v (.t (some []) .u (.y (.r (some [(42,.c .b)]) .done) (.v (.v .w)))))) .w)))))
theorem S.qcT0 {a K w}:Fr (C.qcT a K w) (bif decide (a<0) then K true w else K (decide (a≥256)) w):=aD Tryz.func84 (.v .w)
theorem S.qaX0 {a b K w}:Fr (C.qaX a b K w) (∃c,a=some c/\∃d:Sl,w.cell? (c.add 7)=some (.slice d.a d.len d.cap)/\C.qaU d b (fun c d=>bif !c then K ⟨none,0,0⟩ d else ∃c,a=some c/\∃a:Sl,d.cell? (c.add 7)=some (.slice a.a a.len a.cap)/\∃c,a.a=some c/\0≤b/\b<(a.len:Int)/\∃a,d.cell? (c.add (b.toNat*1))=some (.pointer a)/\C.qaO a (fun a b=>K a b) d) w):=aD Tryz.func99 .G3
theorem S.qbn0 {a K w}:Fr (C.qbn a K w) (∃b,a=some b/\∃c,w.cell? (b.add 3)=some (.z c)/\C.qdf c (fun b c d=>A2 d [.z 0, .z 0] 271 fun d e=>aH e d.p 0 [.z b, .z c] fun b=>∀c:Addr->Addr->Bool->Pw,(∀(b e:Addr) (f:Bool) (g:World),(∀c:Bool->Pw,(∀(d:Bool) (f:World),(bif d then K 181 f else Dr f fun c=>az c b 0 [.o, .o] fun (b d:Int)=>∃f,a=some f/\az c e 0 [.o, .o, .o, .u, .u, .o] fun (g h i j k l:Int)=>(aH c (f.add 9) 0 [.z b, .z d] fun b=>vz b e 0 [.z g, .z h, .z i, .y j, .y k, .z l] (∃c,a=some c/\(aH b (c.add 11) 0 [.z g, .z h, .z i, .y j, .y k, .z l] fun b=>Al b (.map #[] 0) fun c=>∃d:World,fL Tryz.prog 275 (.map (some b.heap.size)) (.z 0) (.func (.func 133) #[.pointer a] #[]) c d/\∃c:World,fL Tryz.prog 275 (.map (some b.heap.size)) (.z 1) (.func (.func 134) #[.pointer a] #[]) d c/\∃d:World,fL Tryz.prog 275 (.map (some b.heap.size)) (.z 2) (.func (.func 135) #[.pointer a] #[]) c d/\∃c:World,fL Tryz.prog 275 (.map (some b.heap.size)) (.z 3) (.func (.func 136) #[.pointer a] #[]) d c/\∃d:World,fL Tryz.prog 275 (.map (some b.heap.size)) (.z 4) (.func (.func 137) #[.pointer a] #[]) c d/\∃c:World,fL Tryz.prog 275 (.map (some b.heap.size)) (.z 5) (.func (.func 138) #[.pointer a] #[]) d c/\∃d:World,fL Tryz.prog 275 (.map (some b.heap.size)) (.z 6) (.func (.func 139) #[.pointer a] #[]) c d/\∃c:World,fL Tryz.prog 275 (.map (some b.heap.size)) (.z 7) (.func (.func 140) #[.pointer a] #[]) d c/\∃d:World,fL Tryz.prog 275 (.map (some b.heap.size)) (.z 8) (.func (.func 141) #[.pointer a] #[]) c d/\∃c:World,fL Tryz.prog 275 (.map (some b.heap.size)) (.z 9) (.func (.func 142) #[.pointer a] #[]) d c/\∃d:World,fL Tryz.prog 275 (.map (some b.heap.size)) (.z 10) (.func (.func 143) #[.pointer a] #[]) c d/\∃c:World,fL Tryz.prog 275 (.map (some b.heap.size)) (.z 11) (.func (.func 144) #[.pointer a] #[]) d c/\∃d:World,fL Tryz.prog 275 (.map (some b.heap.size)) (.z 12) (.func (.func 145) #[.pointer a] #[]) c d/\∃c:World,fL Tryz.prog 275 (.map (some b.heap.size)) (.z 13) (.func (.func 146) #[.pointer a] #[]) d c/\∃d:World,fL Tryz.prog 275 (.map (some b.heap.size)) (.z 14) (.func (.func 147) #[.pointer a] #[]) c d/\∃c:World,fL Tryz.prog 275 (.map (some b.heap.size)) (.z 15) (.func (.func 148) #[.pointer a] #[]) d c/\∃d:World,fL Tryz.prog 275 (.map (some b.heap.size)) (.z 16) (.func (.func 149) #[.pointer a] #[]) c d/\∃c,a=some c/\∃a,d.cell? (c.add 3)=some (.z a)/\∃c:Value,wW Tryz.prog 275 (.map (some b.heap.size)) (.z a) (c) d/\bY Tryz.prog (c) [] d fun a b=>∃c,a= .returned (.z c)/\K c b)/\True))/\True)->c d f)->(bif !f then c true g else ∃a,g.cell? (e.add 2)=some (.z a)/\∃b,g.cell? (d.p.add 1)=some (.z b)/\∃e,g.cell? (d.p.add 1)=some (.z e)/\c ((dw .i64 a b) !=e) g))->c b e f g)->(Dr b fun b=>∃e,a=some e/\∃f,b.cell? e=some (.pointer f)/\∃e,a=some e/\∃a,b.cell? ((e.add 3).add 1)=some (.z a)/\∃e,b.cell? d.p=some (.z e)/\(C.qa f a e (fun a b d e f g h i j k=>(A2 k [.z 0, .z 0] 204 fun k l=>(A2 l [.z 0, .z 0, .z 0, .y 0, .y 0, .z 0] 207 fun l m=>(aH m k.p 0 [.z a, .z b] fun a=>(aH a l.p 0 [.z d, .z e, .z f, .y g, .y h, .z i] fun a=>c k.p l.p j a)/\True)/\True)/\True)/\(A2 k [.z 0, .z 0, .z 0, .y 0, .y 0, .z 0] 207 fun k l=>(A2 l [.z 0, .z 0] 204 fun l m=>(aH m l.p 0 [.z a, .z b] fun a=>(aH a k.p 0 [.z d, .z e, .z f, .y g, .y h, .z i] fun a=>c l.p k.p j a)/\True)/\True)/\True)/\True) b)/\(A2 b [.z 0, .z 0] 204 fun b d=>(C.qa f a e (fun a d e f g h i j k l=>(A2 l [.z 0, .z 0, .z 0, .y 0, .y 0, .z 0] 207 fun l m=>(aH m b.p 0 [.z a, .z d] fun a=>(aH a l.p 0 [.z e, .z f, .z g, .y h, .y i, .z j] fun a=>c b.p l.p k a)/\True)/\True)/\True) d)/\(A2 d [.z 0, .z 0, .z 0, .y 0, .y 0, .z 0] 207 fun d g=>(C.qa f a e (fun a e f g h i j k l m=>(aH m b.p 0 [.z a, .z e] fun a=>(aH a d.p 0 [.z f, .z g, .z h, .y i, .y j, .z k] fun a=>c b.p d.p l a)/\True)/\True) g)/\True)/\True)/\(A2 b [.z 0, .z 0, .z 0, .y 0, .y 0, .z 0] 207 fun b d=>(C.qa f a e (fun a d e f g h i j k l=>(A2 l [.z 0, .z 0] 204 fun l m=>(aH m l.p 0 [.z a, .z d] fun a=>(aH a b.p 0 [.z e, .z f, .z g, .y h, .y i, .z j] fun a=>c l.p b.p k a)/\True)/\True)/\True) d)/\(A2 d [.z 0, .z 0] 204 fun d g=>(C.qa f a e (fun a e f g h i j k l m=>(aH m d.p 0 [.z a, .z e] fun a=>(aH a b.p 0 [.z f, .z g, .z h, .y i, .y j, .z k] fun a=>c d.p b.p l a)/\True)/\True) g)/\True)/\True)/\True)) w):=aD Tryz.func106 (.v (.v (.y (.r (some [(4,.c .q),(5,.c .q),(6,.c .b)]) (.o 0 198640 (.o 1 198640 (.o 2 198640 (.o 3 198640 (.o 4 198144 (.o 5 198144 (.o 6 198144 (.o 7 198144 (.o 8 198144 (.o 9 196608 (.o 10 196608 (.f 11 (.o 12 196608 (.o 13 245760 (.o 14 491520 (.o 15 983040 (.f 16 (.e 17 .H0) (.e 17 (.e 16 .H0))))))) (.f 16 (.f 11 (.o 12 131072 (.o 13 180224 (.o 14 425984 (.o 15 917504 (.e 17 .H0))))) (.e 17 .g15)) (.e 17 (.f 11 (.o 12 65536 (.o 13 114688 (.o 14 360448 (.o 15 851968 (.e 16 .H0))))) (.e 16 .g15))))))))))))))))) (.y (.y (.r (some [(41,.c .b)]) .done) (.x .w)) (.y (.z (.o 0 14 (.o 1 124 (.o 2 8 .g21)))) (.v .w))))))
theorem S.qaU0 {a b K w}:Fr (C.qaU a b K w) (bif decide (b≥0) then K (decide (b<(a.len:Int))) w else K false w):=aD Tryz.func127 (.v .w)
theorem S.qdf0 {a K w}:Fr (C.qdf a K w) (A2 w [.z 0, .z 0] 271 fun b c=>A2 c [.z 0, .z 0, .z 0, .z 0, .z 0, .z 0, .z 0, .z 0, .z 0, .z 0, .z 0, .z 0, .z 0, .z 0, .z 0, .z 0, .z 0, .z 0, .z 0, .z 0, .z 0, .z 0, .z 0, .z 0, .z 0, .z 0, .z 0, .z 0, .z 0, .z 0, .z 0, .z 0, .z 0, .z 0, .z 0, .z 0] 295 fun c d=>aH d c.p 0 [.z 1, .z 0, .z 0, .z 0, .z 0, .z 0, .z 0, .z 0, .z 0, .z 0, .z 3, .z 0, .z 3, .z 0, .z 3, .z 0, .z 4, .z 2, .z 4, .z 1, .z 5, .z 2, .z 5, .z 1, .z 7, .z 0, .z 6, .z 0, .z 8, .z 0, .z 9, .z 0, .z 9, .z 0, .z 0, .z 0] fun d=>0≤a/\a<18/\az d (c.p.add (a.toNat*2)) 0 [.o, .o] fun (a c:Int)=>aH d b.p 0 [.z a, .z c] fun a=>az a b.p 0 [.o, .o] fun (b c:Int)=>K b c a):=aD Tryz.func131 (.v (.v .w))
theorem S.qa0 {a b c K w}:Fr (C.qa a b c K w) (A2 w [.z 0, .z 0] 204 fun d e=>A2 e [.z 0, .z 0, .z 0, .y 0, .y 0, .z 0] 207 fun e f=>C.qao a b (fun b f g h=>A2 h [.z 0, .z 0] 204 fun h i=>aH i h.p 0 [.z b, .z f] fun b=>∀f:Addr->Pw,(∀(a:Addr) (b:World),(Dr b fun b=>az b h.p 0 [.o, .o] fun (f h:Int)=>bif g then ∃g,b.cell? a=some (.z g)/\bif g !=0 then bif c==0 then az b a 0 [.o, .o, .o, .u, .u, .o] fun (g i j k l m:Int)=>((aH b d.p 0 [.z f, .z h] fun b=>vz b a 0 [.z g, .z i, .z j, .y k, .y l, .z m] ((aH b e.p 0 [.z g, .z i, .z j, .y k, .y l, .z m] fun a=>az a d.p 0 [.o, .o] fun (b c:Int)=>az a e.p 0 [.o, .o, .o, .u, .u, .o] fun (d e f g h i:Int)=>K b c d e f g h i true a)/\True))/\True)/\(aH b d.p 0 [.z f, .z h] fun b=>vz b a 0 [.z g, .z i, .z j, .y k, .y l, .z m] (((aH b e.p 0 [.z g, .z i, .z j, .y k, .y l, .z m] fun a=>az a d.p 0 [.o, .o] fun (b c:Int)=>az a e.p 0 [.o, .o, .o, .u, .u, .o] fun (d e f g h i:Int)=>K b c d e f g h i true a)/\True)/\(aH b e.p 0 [.z g, .z i, .z j, .y k, .y l, .z m] fun a=>az a d.p 0 [.o, .o] fun (b c:Int)=>az a e.p 0 [.o, .o, .o, .u, .u, .o] fun (d e f g h i:Int)=>K b c d e f g h i true a)/\True))/\True else az b a 0 [.o, .o, .o, .u, .u, .o] fun (g i j k l m:Int)=>(∃n,b.cell? a=some (.z n)/\(aH b d.p 0 [.z f, .z h] fun b=>vz b a 0 [.z g, .z i, .z j, .y k, .y l, .z m] ((aH b e.p 0 [.z g, .z i, .z j, .y k, .y l, .z m] fun a=>az a d.p 0 [.o, .o] fun (b d:Int)=>az a e.p 0 [.o, .o, .o, .u, .u, .o] fun (e f g h i j:Int)=>K b d e f g h i j (n==c) a)/\True))/\True)/\(aH b d.p 0 [.z f, .z h] fun b=>vz b a 0 [.z g, .z i, .z j, .y k, .y l, .z m] ((∃f,b.cell? a=some (.z f)/\(aH b e.p 0 [.z g, .z i, .z j, .y k, .y l, .z m] fun a=>az a d.p 0 [.o, .o] fun (b d:Int)=>az a e.p 0 [.o, .o, .o, .u, .u, .o] fun (e g h i j k:Int)=>K b d e g h i j k (f==c) a)/\True)/\(aH b e.p 0 [.z g, .z i, .z j, .y k, .y l, .z m] fun b=>∃f,b.cell? a=some (.z f)/\az b d.p 0 [.o, .o] fun (a d:Int)=>az b e.p 0 [.o, .o, .o, .u, .u, .o] fun (e g h i j k:Int)=>K a d e g h i j k (f==c) b)/\True))/\True else az b a 0 [.o, .o, .o, .u, .u, .o] fun (c g i j k l:Int)=>((aH b d.p 0 [.z f, .z h] fun b=>vz b a 0 [.z c, .z g, .z i, .y j, .y k, .z l] ((aH b e.p 0 [.z c, .z g, .z i, .y j, .y k, .z l] fun a=>az a d.p 0 [.o, .o] fun (b c:Int)=>az a e.p 0 [.o, .o, .o, .u, .u, .o] fun (d e f g h i:Int)=>K b c d e f g h i false a)/\True))/\True)/\(aH b d.p 0 [.z f, .z h] fun b=>vz b a 0 [.z c, .z g, .z i, .y j, .y k, .z l] (((aH b e.p 0 [.z c, .z g, .z i, .y j, .y k, .z l] fun a=>az a d.p 0 [.o, .o] fun (b c:Int)=>az a e.p 0 [.o, .o, .o, .u, .u, .o] fun (d e f g h i:Int)=>K b c d e f g h i false a)/\True)/\(aH b e.p 0 [.z c, .z g, .z i, .y j, .y k, .z l] fun a=>az a d.p 0 [.o, .o] fun (b c:Int)=>az a e.p 0 [.o, .o, .o, .u, .u, .o] fun (d e f g h i:Int)=>K b c d e f g h i false a)/\True))/\True else az b a 0 [.o, .o, .o, .u, .u, .o] fun (c g i j k l:Int)=>((aH b d.p 0 [.z f, .z h] fun b=>vz b a 0 [.z c, .z g, .z i, .y j, .y k, .z l] ((aH b e.p 0 [.z c, .z g, .z i, .y j, .y k, .z l] fun a=>az a d.p 0 [.o, .o] fun (b c:Int)=>az a e.p 0 [.o, .o, .o, .u, .u, .o] fun (d e f g h i:Int)=>K b c d e f g h i false a)/\True))/\True)/\(aH b d.p 0 [.z f, .z h] fun b=>vz b a 0 [.z c, .z g, .z i, .y j, .y k, .z l] (((aH b e.p 0 [.z c, .z g, .z i, .y j, .y k, .z l] fun a=>az a d.p 0 [.o, .o] fun (b c:Int)=>az a e.p 0 [.o, .o, .o, .u, .u, .o] fun (d e f g h i:Int)=>K b c d e f g h i false a)/\True)/\(aH b e.p 0 [.z c, .z g, .z i, .y j, .y k, .z l] fun a=>az a d.p 0 [.o, .o] fun (b c:Int)=>az a e.p 0 [.o, .o, .o, .u, .u, .o] fun (d e f g h i:Int)=>K b c d e f g h i false a)/\True))/\True)->f a b)->(Dr b fun b=>∃c,a=some c/\∃a,b.cell? c=some (.pointer a)/\az b h.p 0 [.o, .o] fun (c d:Int)=>(C.qV a c d (fun a b c d e g _ h=>(A2 h [.z 0, .z 0, .z 0, .y 0, .y 0, .z 0] 207 fun h i=>(aH i h.p 0 [.z a, .z b, .z c, .y d, .y e, .z g] fun a=>f h.p a)/\True)/\True) b)/\(A2 b [.z 0, .z 0, .z 0, .y 0, .y 0, .z 0] 207 fun b e=>(C.qV a c d (fun a c d e g h _ i=>(aH i b.p 0 [.z a, .z c, .z d, .y e, .y g, .z h] fun a=>f b.p a)/\True) e)/\True)/\True)) f):=aD Tryz.func132 (.v (.v (.y (.r (some [(11,.c .q)]) .g3) (.x (.z (.o 0 262142 (.o 2 2 (.o 3 2 (.o 4 2 (.o 5 2 (.o 6 2 (.o 7 2 (.o 8 2 (.o 9 2 (.o 10 2 (.o 11 2 (.o 12 802818 (.o 14 794626 (.hold 1 499712 1572863 (.f 13 (.o 15 786432 (.o 16 786432 (.o 17 786432 .H0))) (.e 18 (.f 13 (.o 15 524288 (.o 16 524288 (.o 17 524288 (.e 19 (.o 20 0 .done))))) (.e 19 (.o 13 0 (.o 15 0 (.o 16 0 (.o 17 0 (.o 20 0 .done))))))))))))))))))))))))))))
theorem S.qaY0 {a K w}:Fr (C.qaY a K w) (∃b,a=some b/\az w (b.add 3) 0 [.o, .o, .o, .o, .o, .o] fun (b c d e f g:Int)=>A2 w [.z 0, .z 0, .z 0, .z 0, .z 0, .z 0] 76 fun h i=>aH i h.p 0 [.z b, .z c, .z d, .z e, .z f, .z g] fun b=>∀c:Sl->Addr->Int->Pw,(∀(b:Sl) (d:Addr) (e:Int) (f:World),(bif e !=0 then K e f else ∃c,f.cell? (h.p.add 5)=some (.z c)/\C.qay a c (fun c e f=>bif e !=0 then K e f else ∀e:Bool->Pw,(∀(f:Bool) (g:World),(bif f then K 2 g else Dr g fun e=>∃f,a=some f/\∃g,e.cell? f=some (.pointer g)/\∃f,g=some f/\∃g:Sl,e.cell? (f.add 4)=some (.slice g.a g.len g.cap)/\∃f,a=some f/\∃i,e.cell? ((f.add 11).add 1)=some (.z i)/\az e d 0 [.u, .o, .u] fun (d f j:Int)=>∃k,g.a=some k/\0≤i/\i<(g.len:Int)/\(aH e (k.add (i.toNat*3)) 0 [.y d, .z f, .y j] fun d=>∀e:Int->Pw,(∀(d:Int) (f:World),(bif decide (d<(c.len:Int)) then ∃g,c.a=some g/\0≤d/\d<(c.len:Int)/\az f (g.add (d.toNat*2)) 0 [.o, .o] fun (c g:Int)=>A2 f [.z 0, .z 0] 204 fun i j=>aH j i.p 0 [.z c, .z g] fun c=>Dr c fun c=>∃g,b.a=some g/\0≤d/\d<(b.len:Int)/\∃b,c.cell? (g.add (d.toNat*1))=some (.y b)/\az c i.p 0 [.o, .o] fun (g j:Int)=>∃k,c.cell? (h.p.add 3)=some (.z k)/\(C.qbN a b (fun b c=>c.cell? (h.p.add 3)=some (.z k)/\vz c i.p 0 [.z g, .z j] ((C.qbf a g j k b 7 0 0 0 (fun a=>e (IntKind.i64.wrap (d+1)) a) c)/\True)) c)/\True else K 0 f)->e d f)->e 0 d)/\True)->e f g)->(Dr f fun b=>∃c,b.cell? (h.p.add 3)=some (.z c)/\bif c==2 then ∃c,a=some c/\∃d,b.cell? c=some (.pointer d)/\∃c,d=some c/\∃d,b.cell? (c.add 10)=some (.z d)/\∃c,b.cell? (h.p.add 5)=some (.z c)/\bif decide ((IntKind.i64.wrap (d+c))>64) then e true b else ∃c,b.cell? (h.p.add 3)=some (.z c)/\bif c==3 then ∃c,a=some c/\∃d,b.cell? c=some (.pointer d)/\∃c,d=some c/\∃d,b.cell? (c.add 11)=some (.z d)/\∃c,b.cell? (h.p.add 5)=some (.z c)/\e (decide ((IntKind.i64.wrap (d+c))>64)) b else e false b else ∃c,b.cell? (h.p.add 3)=some (.z c)/\bif c==3 then ∃c,a=some c/\∃a,b.cell? c=some (.pointer a)/\∃c,a=some c/\∃a,b.cell? (c.add 11)=some (.z a)/\∃c,b.cell? (h.p.add 5)=some (.z c)/\e (decide ((IntKind.i64.wrap (a+c))>64)) b else e false b)) f)->c b d e f)->(Dr b fun b=>∃d,a=some d/\∃e,b.cell? d=some (.pointer e)/\∃d,e=some d/\∃e:Sl,b.cell? (d.add 4)=some (.slice e.a e.len e.cap)/\∃d,a=some d/\∃a,b.cell? ((d.add 11).add 1)=some (.z a)/\∃d,e.a=some d/\0≤a/\a<(e.len:Int)/\az b (d.add (a.toNat*3)) 0 [.u, .o, .u] fun (a d e:Int)=>∃f,b.cell? (h.p.add 3)=some (.z f)/\∃g,b.cell? (h.p.add 4)=some (.z g)/\∃i,b.cell? (h.p.add 5)=some (.z i)/\(C.qcs a d e f g i (fun a b d e f g=>(A2 g [.y 0, .z 0, .y 0] 136 fun g h=>(aH h g.p 0 [.y b, .z d, .y e] fun b=>c a g.p f b)/\True)/\True) b)/\(A2 b [.y 0, .z 0, .y 0] 136 fun b h=>(C.qcs a d e f g i (fun a d e f g h=>(aH h b.p 0 [.y d, .z e, .y f] fun d=>c a b.p g d)/\True) h)/\True)/\True)):=aD Tryz.func133 (.v (.v (.y (.r (some [(4,.c .s),(5,.c .q),(6,.c (.i .i64))]) (.o 0 34590592 (.o 1 34590592 (.o 2 34590592 (.o 3 34590592 (.o 4 34590592 (.o 5 34590592 (.o 6 34590592 (.o 7 34586624 (.o 8 34586624 (.o 9 34586624 (.o 10 34586624 (.o 11 34586624 (.o 12 34586624 (.o 13 34586624 (.o 14 34537472 (.o 15 34537472 (.o 16 34340864 (.o 17 34340864 (.o 18 33554432 (.o 19 33554432 (.f 20 (.o 21 33554432 (.o 22 58720256 (.o 23 117440512 (.o 24 234881024 (.e 25 (.o 26 0 (.e 27 (.o 28 0 .done)))))))) (.e 25 (.e 20 (.o 21 0 (.o 22 25165824 (.o 23 83886080 (.o 24 201326592 (.o 26 0 (.e 27 (.o 28 0 .done))))))))))))))))))))))))))))))) (.y (.v (.x .w)) (.v (.y (.v (.x .w)) (.y (.y (.r (some [(85,.c .b)]) (.o 0 0 (.o 1 0 (.o 2 0 (.o 3 0 (.o 4 6144 (.o 5 6144 (.o 6 6144 (.o 7 6144 (.o 8 6144 (.o 9 6144 (.o 10 6144 (.o 11 0 (.o 12 0 (.o 13 0 (.o 14 0 (.o 15 0 (.o 16 0 (.o 17 0 (.o 18 0 (.o 19 0 (.o 20 0 (.o 21 805306368 (.o 22 805306368 (.o 23 805306368 (.o 24 805306368 (.o 25 805306368 (.o 26 805306368 (.o 27 805306368 (.o 28 0 (.o 29 0 (.o 30 0 (.o 31 0 (.o 32 0 (.o 33 0 .done))))))))))))))))))))))))))))))))))) (.x .w)) (.y (.z (.o 0 8064 (.o 1 8064 (.o 2 8064 (.o 3 8064 (.o 4 8064 (.o 5 8064 (.o 6 8064 (.o 7 4096 (.o 8 4096 (.o 9 4096 (.o 10 4096 (.o 11 4096 (.o 12 0 (.o 13 0 (.e 14 .done)))))))))))))))) (.y (.v (.x (.t (some [(102,.c (.i .i64))]) (.v (.y .w (.x (.x (.v (.z (.o 0 2046 (.o 2 1010 (.o 4 490 (.o 5 74 (.o 6 10 (.o 7 10 (.o 8 10 (.hold 1 1544 2047 (.hold 3 512 2047 (.e 9 (.o 10 0 (.e 11 .done)))))))))))))))))) .u))) .w)))))))))
theorem S.qbG0 {a K w}:Fr (C.qbG a K w) (∃b,a=some b/\∃c,w.cell? (b.add 11)=some (.z c)/\bif c==1 then K 181 w else C.qay a 1 (fun b c d=>bif c !=0 then K c d else ∀c:Int->Addr->Pw,(∀(d:Int) (e:Addr) (f:World),(bif d !=0 then K d f else Dr f fun c=>∃d,b.a=some d/\(0:Int)≤0/\0<(b.len:Int)/\az c (d.add ((0:Int).toNat*2)) 0 [.o, .o] fun (b d:Int)=>az c e 0 [.o, .o, .o, .u, .u, .o] fun (e f g h i j:Int)=>(C.qbf a b d e f g h i j (fun a=>K 0 a) c)/\True)->c d e f)->(Dr d fun b=>∃d,a=some d/\az b (d.add 11) 0 [.o, .o, .o, .u, .u, .o] fun (d e f g h i:Int)=>∃j,a=some j/\∃k,b.cell? ((j.add 3).add 3)=some (.z k)/\∃j,a=some j/\∃a,b.cell? ((j.add 3).add 4)=some (.z a)/\(C.qdw d e f g h i k (IntKind.u64.wrap a) (fun a b d e f g h i=>(A2 i [.z 0, .z 0, .z 0, .y 0, .y 0, .z 0] 207 fun i j=>(aH j i.p 0 [.z a, .z b, .z d, .y e, .y f, .z g] fun a=>c h i.p a)/\True)/\True) b)/\(A2 b [.z 0, .z 0, .z 0, .y 0, .y 0, .z 0] 207 fun b j=>(C.qdw d e f g h i k (IntKind.u64.wrap a) (fun a d e f g h i j=>(aH j b.p 0 [.z a, .z d, .z e, .y f, .y g, .z h] fun a=>c i b.p a)/\True) j)/\True)/\True)) w):=aD Tryz.func134 (.v (.y (.v (.x .w)) (.v (.y (.v (.x .w)) (.y (.r (some [(4,.c (.i .i64)),(5,.c .q)]) (.o 0 557040 (.o 1 557040 (.o 2 557040 (.o 3 557040 (.o 4 556544 (.o 5 556544 (.o 6 556544 (.o 7 556544 (.o 8 556544 (.o 9 524288 (.o 10 524288 (.o 11 524288 (.o 12 524288 (.o 13 524288 (.o 14 524288 (.f 15 (.o 16 524288 (.o 17 786432 (.o 18 1572864 (.e 19 (.e 20 (.o 21 0 .done)))))) (.e 19 (.e 15 (.o 16 0 (.o 17 262144 (.o 18 1048576 (.e 20 (.o 21 0 .done)))))))))))))))))))))))) (.y (.v (.x .w)) (.y (.z (.o 0 30 (.o 1 16 (.o 2 16 (.o 3 16 (.o 4 0 (.e 5 .done))))))) .w)))))))
theorem S.qbH0 {a K w}:Fr (C.qbH a K w) (C.qay a 1 (fun b c d=>bif c !=0 then K c d else Dr d fun c=>∃d,a=some d/\∃e,c.cell? d=some (.pointer e)/\∃d,e=some d/\∃e,c.cell? d=some (.pointer e)/\∃d,a=some d/\az c (d.add 9) 0 [.o, .o] fun (d f:Int)=>∃g,b.a=some g/\(0:Int)≤0/\0<(b.len:Int)/\az c (g.add ((0:Int).toNat*2)) 0 [.o, .o] fun (g h:Int)=>(C.qcc e d f g h (fun _ c=>Dr c fun c=>∃d,a=some d/\∃e,c.cell? d=some (.pointer e)/\∃d,e=some d/\∃e,c.cell? (d.add 1)=some (.pointer e)/\∃d,a=some d/\az c (d.add 9) 0 [.o, .o] fun (a d:Int)=>∃f,b.a=some f/\(0:Int)≤0/\0<(b.len:Int)/\az c (f.add ((0:Int).toNat*2)) 0 [.o, .o] fun (b f:Int)=>(C.qcy e a d b f (fun _ a=>K 0 a) c)/\True) c)/\True) w):=aD Tryz.func135 (.v (.v (.y (.v (.x .w)) (.y .g4 (.y .g4 .w)))))
theorem S.qaZ0 {a K w}:Fr (C.qaZ a K w) (∃b,a=some b/\∃c,w.cell? ((b.add 3).add 1)=some (.z c)/\bif c==0 then K 181 w else ∃b,a=some b/\az w (b.add 9) 0 [.o, .o] fun (b c:Int)=>C.qaz a b c (fun a=>K 0 a) w):=aD Tryz.func136 (.v (.y (.v (.x .w)) (.v .w)))
theorem S.qba0 {a K w}:Fr (C.qba a K w) (∀b:Addr->Pw,(∀(c:Addr) (d:World),(∃b,d.cell? c=some (.z b)/\∀c:Pw,(∀b:World,(∃c,a=some c/\∃d,b.cell? ((c.add 11).add 1)=some (.z d)/\C.qap a d (fun a b=>K a b) b)->c b)->(bif b==3 then Dr d fun b=>∃e,a=some e/\∃f,b.cell? e=some (.pointer f)/\∃e,a=some e/\∃a,b.cell? ((e.add 11).add 1)=some (.z a)/\(C.qah f a (fun a=>c a) b)/\True else c d))->b c d)->(Dr w fun c=>∃d,a=some d/\∃e,c.cell? d=some (.pointer e)/\∃d,e=some d/\∃e,c.cell? (d.add 2)=some (.pointer e)/\∃d,a=some d/\∃a,c.cell? ((d.add 11).add 1)=some (.z a)/\(C.qau e a (fun a c d e f g h i j k l m _ n=>(A2 n [.z 0, .z 0, .z 0, .z 0, .y 0, .y 0, .y 0, .y 0, .y 0, .y 0, .y 0, .y 0] 172 fun n o=>(aH o n.p 0 [.z a, .z c, .z d, .z e, .y f, .y g, .y h, .y i, .y j, .y k, .y l, .y m] fun a=>b n.p a)/\True)/\True) c)/\(A2 c [.z 0, .z 0, .z 0, .z 0, .y 0, .y 0, .y 0, .y 0, .y 0, .y 0, .y 0, .y 0] 172 fun c d=>(C.qau e a (fun a d e f g h i j k l m n _ o=>(aH o c.p 0 [.z a, .z d, .z e, .z f, .y g, .y h, .y i, .y j, .y k, .y l, .y m, .y n] fun a=>b c.p a)/\True) d)/\True)/\True)):=aD Tryz.func138 (.v (.y (.y (.r (some [(3,.c .q)]) (.o 0 69504 (.o 1 69504 (.o 2 69504 (.o 3 69504 (.o 4 69504 (.o 5 69504 (.o 6 69504 (.o 7 65536 (.o 8 65536 (.o 9 65536 (.o 10 65536 (.o 11 65536 (.f 12 (.o 13 65536 (.o 14 98304 (.o 15 196608 .H2))) (.e 16 (.e 12 (.o 13 0 (.o 14 32768 (.o 15 131072 (.e 17 (.o 18 0 .done))))))))))))))))))))) (.v (.t (some []) .g12 .u))) .w))
theorem S.qaP0 {a K w}:Fr (C.qaP a K w) (Dr w fun b=>∃c,a=some c/\∃d,b.cell? c=some (.pointer d)/\∃c,a=some c/\∃e,b.cell? ((c.add 11).add 1)=some (.z e)/\(C.qah d e (fun b=>Dr b fun b=>∃c,a=some c/\∃d,b.cell? c=some (.pointer d)/\∃c,d=some c/\∃d,b.cell? (c.add 2)=some (.pointer d)/\∃c,a=some c/\∃a,b.cell? ((c.add 11).add 1)=some (.z a)/\(C.qK d a (fun a b=>K a b) b)/\True) b)/\True):=aD Tryz.func139 (.v (.y .g12 (.x (.z (.o 0 3968 (.o 1 3968 (.o 2 3968 (.o 3 3968 (.o 4 3968 (.o 5 3968 (.o 6 3968 (.o 7 0 (.o 8 0 (.o 9 0 (.o 10 0 (.o 11 0 (.e 12 (.o 13 0 .done))))))))))))))))))
theorem S.qbI0 {a K w}:Fr (C.qbI a K w) (Dr w fun b=>∃c,a=some c/\∃d,b.cell? c=some (.pointer d)/\∃c,d=some c/\∃d,b.cell? (c.add 2)=some (.pointer d)/\∃c,a=some c/\∃e,b.cell? ((c.add 11).add 1)=some (.z e)/\∃c,a=some c/\∃a,b.cell? ((c.add 3).add 3)=some (.z a)/\(C.qaQ d e a (fun a b=>K a b) b)/\True):=aD Tryz.func140 (.v (.x (.z (.o 0 130944 (.o 1 130944 (.o 2 130944 (.o 3 130944 (.o 4 130944 (.o 5 130944 (.o 6 130944 (.o 7 126976 (.o 8 126976 (.o 9 126976 (.o 10 126976 (.o 11 126976 (.o 12 0 (.o 13 0 (.o 14 0 (.o 15 0 (.o 16 0 (.e 17 (.o 18 0 .done))))))))))))))))))))))
theorem S.qbJ0 {a K w}:Fr (C.qbJ a K w) (Dr w fun b=>∃c,a=some c/\∃d,b.cell? ((c.add 3).add 3)=some (.z d)/\∃c,a=some c/\∃e,b.cell? ((c.add 3).add 4)=some (.z e)/\∃c,a=some c/\∃f,b.cell? ((c.add 11).add 3)=some (.y f)/\(A2 b [.z 0, .y 0, .y 0, .y 0, .y 0, .y 0, .bool false] 317 fun b c=>(aH c b.p 0 [.z d, .y (IntKind.u64.wrap e), .y 0, .y 0, .y 0, .y f, .bool false] fun c=>∀d:Addr->Int->Pw,(∀(b:Addr) (c:Int) (e:World),(bif c !=0 then K c e else ∃c,e.cell? b=some (.bool c)/\bif !c then C.qaA a (fun a=>K 0 a) e else ∃c,e.cell? (b.add 2)=some (.z c)/\az e (b.add 3) 0 [.o, .u, .u, .u, .u, .u, .b] fun (d f g h i j:Int) (k:Bool)=>C.qbg a c d f g h i j k (fun c=>∃d,c.cell? (b.add 2)=some (.z d)/\C.qap a d (fun a b=>K a b) c) e)->d b c e)->(Dr c fun c=>∃e,a=some e/\∃f,c.cell? e=some (.pointer f)/\∃e,f=some e/\∃f:Sl,c.cell? (e.add 5)=some (.slice f.a f.len f.cap)/\∃e,a=some e/\∃g,c.cell? ((e.add 11).add 1)=some (.z g)/\∃e,f.a=some e/\0≤g/\g<(f.len:Int)/\∃f,c.cell? (e.add (g.toNat*1))=some (.pointer f)/\∃e,a=some e/\∃g,c.cell? (e.add 2)=some (.z g)/\az c b.p 0 [.o, .u, .u, .u, .u, .u, .b] fun (b e h i j k:Int) (l:Bool)=>∃m,a=some m/\∃a,c.cell? ((m.add 3).add 5)=some (.z a)/\(C.qaa f g b e h i j k l (a !=0) (fun a b c e f g h i j k l m=>(A2 m [.bool false, .z 0, .z 0, .z 0, .y 0, .y 0, .y 0, .y 0, .y 0, .bool false] 319 fun m n=>(aH n m.p 0 [.bool a, .z b, .z c, .z e, .y f, .y g, .y h, .y i, .y j, .bool k] fun a=>d m.p l a)/\True)/\True) c)/\(A2 c [.bool false, .z 0, .z 0, .z 0, .y 0, .y 0, .y 0, .y 0, .y 0, .bool false] 319 fun c m=>(C.qaa f g b e h i j k l (a !=0) (fun a b e f g h i j k l m n=>(aH n c.p 0 [.bool a, .z b, .z e, .z f, .y g, .y h, .y i, .y j, .y k, .bool l] fun a=>d c.p m a)/\True) m)/\True)/\True))/\True)/\True):=aD Tryz.func141 (.v (.y (.z (.o 0 393184 (.o 1 393184 (.o 2 393184 (.o 3 393184 (.o 4 393184 (.o 5 389120 (.o 6 389120 (.o 7 389120 (.o 8 389120 (.o 9 389120 (.o 10 389120 (.o 11 389120 (.o 12 262144 (.o 13 262144 (.o 14 262144 (.o 15 262144 (.o 16 262144 (.o 17 262144 (.e 18 (.e 19 .done))))))))))))))))))))) (.y (.r (some [(4,.c .q),(5,.c (.i .i64))]) (.o 0 570412928 (.o 1 570412928 (.o 2 570412928 (.o 3 570412928 (.o 4 570412928 (.o 5 570412928 (.o 6 570412928 (.o 7 570408960 (.o 8 570408960 (.o 9 570408960 (.o 10 570408960 (.o 11 570408960 (.o 12 570408960 (.o 13 570408960 (.o 14 570163200 (.o 15 570163200 (.o 16 570163200 (.o 17 570163200 (.o 18 569901056 (.o 19 536870912 (.o 20 536870912 (.o 21 536870912 (.o 22 536870912 (.o 23 536870912 (.o 24 536870912 (.f 25 (.o 26 536870912 (.o 27 805306368 (.o 28 1610612736 (.e 29 (.e 30 (.o 31 0 .done)))))) (.e 29 (.e 25 (.o 26 0 (.o 27 268435456 (.o 28 1073741824 (.e 30 (.o 31 0 .done)))))))))))))))))))))))))))))))))) (.y (.x (.v (.y .w (.v (.x (.v .w)))))) (.v .w)))))
theorem S.qbK0 {a K w}:Fr (C.qbK a K w) (∀b:Addr->Int->Pw,(∀(c:Addr) (d:Int) (e:World),(bif d !=0 then K d e else ∃b,e.cell? c=some (.bool b)/\bif !b then C.qaA a (fun a=>K 0 a) e else Dr e fun b=>∃d,a=some d/\∃e,b.cell? (d.add 2)=some (.z e)/\az b (c.add 3) 0 [.o, .u, .u, .u, .u, .u, .b] fun (d f g h i j:Int) (k:Bool)=>(C.qbg a e d f g h i j k (fun b=>∃d,b.cell? (c.add 1)=some (.z d)/\C.qap a d (fun a b=>K a b) b) b)/\True)->b c d e)->(Dr w fun c=>∃d,a=some d/\∃e,c.cell? d=some (.pointer e)/\∃d,e=some d/\∃e:Sl,c.cell? (d.add 5)=some (.slice e.a e.len e.cap)/\∃d,a=some d/\∃f,c.cell? ((d.add 11).add 1)=some (.z f)/\∃d,e.a=some d/\0≤f/\f<(e.len:Int)/\∃e,c.cell? (d.add (f.toNat*1))=some (.pointer e)/\∃d,a=some d/\∃f,c.cell? (d.add 2)=some (.z f)/\∃d,a=some d/\∃a,c.cell? ((d.add 3).add 5)=some (.z a)/\(C.qab e f (a !=0) (fun a c d e f g h i j k l m=>(A2 m [.bool false, .z 0, .z 0, .z 0, .y 0, .y 0, .y 0, .y 0, .y 0, .bool false] 319 fun m n=>(aH n m.p 0 [.bool a, .z c, .z d, .z e, .y f, .y g, .y h, .y i, .y j, .bool k] fun a=>b m.p l a)/\True)/\True) c)/\(A2 c [.bool false, .z 0, .z 0, .z 0, .y 0, .y 0, .y 0, .y 0, .y 0, .bool false] 319 fun c d=>(C.qab e f (a !=0) (fun a d e f g h i j k l m n=>(aH n c.p 0 [.bool a, .z d, .z e, .z f, .y g, .y h, .y i, .y j, .y k, .bool l] fun a=>b c.p m a)/\True) d)/\True)/\True)):=aD Tryz.func142 (.v (.y (.r (some [(3,.c .q),(4,.c (.i .i64))]) (.o 0 285200256 (.o 1 285200256 (.o 2 285200256 (.o 3 285200256 (.o 4 285200256 (.o 5 285200256 (.o 6 285200256 (.o 7 285196288 (.o 8 285196288 (.o 9 285196288 (.o 10 285196288 (.o 11 285196288 (.o 12 285196288 (.o 13 285196288 (.o 14 284950528 (.o 15 284950528 (.o 16 284950528 (.o 17 284950528 (.o 18 268435456 (.o 19 268435456 (.o 20 268435456 (.o 21 268435456 (.o 22 268435456 (.o 23 268435456 (.f 24 (.o 25 268435456 (.o 26 402653184 (.o 27 805306368 (.e 28 (.e 29 (.o 30 0 .done)))))) (.e 28 (.e 24 (.o 25 0 (.o 26 134217728 (.o 27 536870912 (.e 29 (.o 30 0 .done))))))))))))))))))))))))))))))))) (.y (.x (.v (.y .w (.v (.x (.v .w)))))) (.y (.z (.o 0 126 (.o 1 96 (.o 2 96 (.o 3 96 (.o 4 96 (.o 5 0 (.o 6 0 (.e 7 .done))))))))) .w))))
theorem S.qan0 {a K w}:Fr (C.qan a K w) (Dr w fun b=>∃c,a=some c/\∃d,b.cell? c=some (.pointer d)/\∃c,a=some c/\∃e,b.cell? ((c.add 11).add 1)=some (.z e)/\∃c,a=some c/\∃f,b.cell? ((c.add 11).add 3)=some (.y f)/\(C.qX d e f (fun b c=>∃d,a=some d/\(St c ((d.add 17).add 2) (.z b) fun a=>K 0 a)/\True) b)/\True):=aD Tryz.func143 (.v (.y (.z (.o 0 65534 (.o 1 32736 (.o 2 32736 (.o 3 32736 (.o 4 32736 (.o 5 31744 (.o 6 31744 (.o 7 31744 (.o 8 31744 (.o 9 31744 (.o 10 0 (.o 11 0 (.o 12 0 (.o 13 0 (.o 14 0 (.e 15 (.o 16 0 (.o 17 0 (.o 18 0 (.e 19 .done))))))))))))))))))))) .w))
theorem S.qbL0 {a K w}:Fr (C.qbL a K w) (Dr w fun b=>∃c,a=some c/\∃d,b.cell? c=some (.pointer d)/\∃c,d=some c/\∃d:Sl,b.cell? (c.add 6)=some (.slice d.a d.len d.cap)/\∃c,a=some c/\∃e,b.cell? ((c.add 11).add 1)=some (.z e)/\∃c,d.a=some c/\0≤e/\e<(d.len:Int)/\∃d,b.cell? (c.add (e.toNat*1))=some (.pointer d)/\∃c,a=some c/\∃e,b.cell? (c.add 2)=some (.z e)/\∃c,a=some c/\∃f,b.cell? ((c.add 3).add 5)=some (.z f)/\(C.qbr d e (f !=0) (fun b c d e=>bif d !=0 then K d e else ∀d:Pw,(∀c:World,(∃d,a=some d/\St c ((d.add 17).add 1) (.y b) fun a=>K 0 a)->d c)->(bif !c then C.qaA a (fun a=>d a) e else d e)) b)/\True):=aD Tryz.func144 (.v (.y (.z (.o 0 16764800 (.o 1 16764800 (.o 2 16764800 (.o 3 16764800 (.o 4 16764800 (.o 5 16764800 (.o 6 16764800 (.o 7 16760832 (.o 8 16760832 (.o 9 16760832 (.o 10 16760832 (.o 11 16760832 (.o 12 16760832 (.o 13 16760832 (.o 14 16515072 (.o 15 16515072 (.o 16 16515072 (.o 17 16515072 (.o 18 0 (.o 19 0 (.o 20 0 (.o 21 0 (.o 22 0 (.o 23 0 (.e 24 (.o 25 0 (.o 26 402653184 (.o 27 805306368 (.o 28 1610612736 (.o 29 0 (.o 30 0 (.o 31 0 .done))))))))))))))))))))))))))))))))) (.y (.x (.v (.y .w (.v (.t (some []) .u .u))))) (.v .w))))
end Go.Proofs.YtlhljbbfckbjpaaGreat
end
section
set_option maxRecDepth 8000
namespace Go.Proofs.YtlhljbbfckbjpaaGreat
open Go Go.Vc Go.Proofs
structure Ln where
 is:Int
 note:Int
 aB:Int
deriving DecidableEq
def FH:cQ Ln:=⟨3,fun o=>[.z o.is, .z o.note, .y o.aB],fun _=>rfl,fun x v h=>by
 simp only[List.mem_cons,List.not_mem_nil,or_false] at h;rcases h with rfl|rfl|rfl<;>rfl,by decide⟩
abbrev xe:=List Ln
def lD (l:xe) (n:Int):Option Ln:=if n<0 then none else l[n.toNat]?
def sx (l:xe) (n note aB:Int):Int × xe:=match lD l n with
 |none=>(130,l)
 |some x=>if note<0 then (1,l) else if x.is≠0 then (131,l) else (0,l.set n.toNat ⟨1,note,aB⟩)
def gW (l:xe) (n:Int):(Option (Int × Int)× Int)× xe:=match lD l n with
 |none=>((none,130),l)
 |some x=>if x.is=1 then ((some (x.note,x.aB),0),l.set n.toNat { x with is:=2})
  else if x.is=2∨x.is=3 then ((none,0),l.set n.toNat { x with is:=3}) else ((none,0),l)
def kS (l:xe) (n:Int):(Option (Int × Int)× Int)× xe:=match lD l n with
 |none=>((none,130),l)
 |some x=>if x.is=3 then ((some (x.note,x.aB),0),l.set n.toNat { x with is:=2})
  else if x.is=2 then ((none,0),l.set n.toNat { x with is:=1}) else ((none,0),l)
def bq (b:Nat) (l:xe):aA:=pV fun s:Sl=>bh [aa b [.slice s.a s.len s.cap],ah FH s l]
section
variable {B:Nat} {w0 w:World} {L:List aA} {α:Type} {E:cQ α}
theorem _root_.Go.Vc.Ow.Ho {s:Sl} {xs:List α} [I:bT s L α E xs] {i:Int} {j:Nat} {x:α} {a:Addr} (h:Ow B w0 w L) (hij:i=(j:Int)) (hj:xs[j]?=some x) (ha:s.a=some a):
  ∀v,(E.enc x)[0]?=some v->w.cell? (a.add (i.toNat*E.z))=some v:=by
 obtain ⟨a',ha',_,_,g⟩:=h.dZ (s:=s) (G:=fun a=>∀v,(E.enc x)[0]?=some v->w.cell? (a.add (i.toNat*E.z))=some v) hij hj (fun a _ h1 h2=>h1);rw[ha] at ha';cases ha';exact g
theorem _root_.Go.Vc.Ow.Ik {s:Sl} {xs:List α} [I:bT s L α E xs] {i:Int} {j:Nat} {x:α} {a:Addr} (h:Ow B w0 w L) (hij:i=(j:Int)) (hj:xs[j]?=some x) (ha:s.a=some a):
  ∀c v,(E.enc x)[c]?=some v->w.cell? ((a.add (i.toNat*E.z)).add c)=some v:=by
 obtain ⟨a',ha',_,_,g⟩:=h.dZ (s:=s) (G:=fun a=>∀c v,(E.enc x)[c]?=some v->w.cell? ((a.add (i.toNat*E.z)).add c)=some v) hij hj (fun a _ h1 h2=>h2);rw[ha] at ha';cases ha';exact g
end
section
variable {B:Nat} {w0 w:World} {R L:List aA} {b:Nat} {l:xe}
theorem _root_.Go.Vc.Ow.lines (h:Ow B w0 w (bq b l::R)):∃s:Sl,Ow B w0 w (aa b [.slice s.a s.len s.cap]::ah FH s l::R):=by
 obtain ⟨s,h⟩:=h.ex;exact ⟨s,h.star⟩
theorem _root_.Go.Vc.Ow.dQ {s:Sl} (h:Ow B w0 w (aa b [.slice s.a s.len s.cap]::ah FH s l::R)):Ow B w0 w (bq b l::R):=Ow.eP s (Ow.aY h)
theorem HD {L:List aA} {n:Int} {k:Sl->Pw} (h:Ow B w0 w L) (h0:0≤n) (hn:n≤1000000) (hk:∀s' w',s'.len=n.toNat->Ow B w0 w' (ah FH s' (List.replicate n.toNat ⟨0,0,0⟩)::L)->k s' w'):
  ∃s' w',nK Tryz.prog 200 (.z n) (.z n) w s' w'/\k s' w':=
 Ow.rD (E:=FH) (z0:=⟨0,0,0⟩) Tryz.underlying200 (show Tryz.prog.info? 165=some Tryz.t165 from by kernel_rfl) (zv:= .agg ⟨FH.enc ⟨0,0,0⟩⟩) (by kernel_rfl) (by kernel_rfl) rfl h h0 (by
  have e:Tryz.t165.bytes=24:=by kernel_rfl
  rw[e];omega) om hk
theorem vY {K:Option Addr->Int->Pw} (h:Ow B w0 w R) (hK:∀b w',Ow B w0 w' (bq b (List.replicate 8 ⟨0,0,0⟩)::R)->K (some ⟨b,0,none⟩) 0 w'):C.qdU 8 K w:=by
 apply S.qdU0;intro k2 hk2;refine aE (by decide) ?_;rw[show decide ((8:Int)>64)=false from by decide];apply hk2;refine bD rfl ?_;refine HD h (by decide) (by decide) fun s w hl h=>?_
 refine h.al fun w1 h=>?_
 exact hK _ w1 (Ow.dQ (s:=s) h)
theorem kc {n:Int} {K:Option Addr->Pw} {s:Sl} (h:Ow B w0 w (aa b [.slice s.a s.len s.cap]::ah FH s l::R)) (h1:lD l n=none->K none w)
  (h2:∀x a,lD l n=some x->s.a=some a->0≤n->n<(l.length:Int)->l[n.toNat]?=some x->K (some (a.add (n.toNat*3))) w):C.qcf (some ⟨b,0,none⟩) n K w:=by
 apply S.qcf0;have hlen:=h.br s;intro k3 hk3;refine dD (fun e=>?_) (fun e=>?_)
 ·apply hk3
  refine bN rfl (h1 ?_);unfold lD;rw[if_pos e]
 refine ⟨_,rfl,s,h.aq rfl, ?_⟩;apply hk3;by_cases e2:(l.length:Int)≤n
 ·rw[decide_eq_true om]
  refine bN rfl (h1 ?_);unfold lD;rw[if_neg e,List.getElem?_eq_none om]
 ·rw[decide_eq_false om]
  refine bD rfl ?_;have hx:l[n.toNat]?=some l[n.toNat]:=gE om;refine ⟨_,rfl,s,h.aq rfl, ?_⟩;refine h.dZ (s:=s) (i:=n) (j:=n.toNat) om hx fun a ha hc0 hc=>?_
  exact h2 _ a (by unfold lD;rw[if_neg e];exact hx) ha om om hx
theorem uh {n note g:Int} {K:Int->Pw} (h:Ow B w0 w (bq b l::R)) (hK:∀w',Ow B w0 w' (bq b (sx l n note g).2::R)->K (sx l n note g).1 w'):C.qcz (some ⟨b,0,none⟩) n note g K w:=by
 apply S.qcz0;obtain ⟨s,h⟩:=h.lines;unfold sx at hK;refine kc h (fun e=>?_) (fun x a e ha h0 hlt hx=>?_)
 ·rw[e] at hK
  exact bN rfl (hK _ (Ow.dQ (s:=s) h))
 ·rw[e] at hK
  dsimp only at hK;refine bD rfl ?_;refine dD (fun e1=>?_) (fun e1=>?_)
  ·rw[if_pos e1] at hK
   exact hK _ (Ow.dQ (s:=s) h)
  rw[if_neg e1] at hK;have hc:=h.dz.Ho (s:=s) (i:=n) (j:=n.toNat) om hx ha;refine ⟨_,rfl,x.is,hc _ rfl, ?_⟩;refine y8 (fun e2=>?_) (fun e2=>?_)
  ·rw[if_pos e2] at hK
   exact hK _ (Ow.dQ (s:=s) h)
  ·rw[if_neg om] at hK
   refine ⟨_,rfl, ?_⟩;refine h.yH (s:=s) (xs:=l) (i:=n) (j:=n.toNat) ⟨1,note,g⟩ om om ha fun w h=>?_
   exact hK _ (Ow.dQ (s:=s) h.dz)
end
section
variable {B:Nat} {w0 w:World} {R L:List aA} {b:Nat} {l:xe}
theorem Ep {n:Int} {x:Ln} (h:lD l n=some x):0≤n/\l[n.toNat]?=some x:=by
 unfold lD at h;split at h
 ·cases h
 ·exact ⟨om,h⟩
theorem GH {s:Sl} {n:Int} {x:Ln} {a:Addr} {v:Int} {k:Pw} (h:Ow B w0 w (aa b [.slice s.a s.len s.cap]::ah FH s l::R)) (h0:0≤n) (hx:l[n.toNat]?=some x) (ha:s.a=some a)
  (hk:∀w',Ow B w0 w' (aa b [.slice s.a s.len s.cap]::ah FH s (l.set n.toNat { x with is:=v})::R)->k w'):St w (a.add (n.toNat*3)) (.z v) k:=by
 have e:(a.add (n.toNat*3))=(a.add (n.toNat*3)).add 0:=by
  rw[Addr.add_add];rfl
 rw[e];exact h.tp (s:=s) (i:=n) (j:=n.toNat) (c:=0) { x with is:=v} om hx ha rfl (by decide) rfl fun w h=>hk w h.dz
theorem sJ {n:Int} {K:Int->Int->Bool->Int->Pw} (h:Ow B w0 w (bq b l::R))
  (hK:∀w',Ow B w0 w' (bq b (gW l n).2::R)->K ((gW l n).1.1.getD (0,0)).1 ((gW l n).1.1.getD (0,0)).2 (gW l n).1.1.isSome (gW l n).1.2 w'):C.qci (some ⟨b,0,none⟩) n K w:=by
 apply S.qci0;obtain ⟨s,h⟩:=h.lines;unfold gW at hK;refine kc h (fun e=>?_) (fun x a e ha h0 hlt hx=>?_)
 ·rw[e] at hK
  exact bN rfl (hK _ (Ow.dQ (s:=s) h))
 ·rw[e] at hK
  dsimp only at hK;refine bD rfl ?_;have hc:=h.dz.Ho (s:=s) (i:=n) (j:=n.toNat) om hx ha;refine ⟨_,rfl,x.is,hc _ rfl, ?_⟩;intro k7 hk7
  have again:x.is=2∨x.is=3->∀w,Ow B w0 w (aa b [.slice s.a s.len s.cap]::ah FH s l::R)->k7 w:=fun e2 w h=>by
   apply hk7;refine ⟨_,rfl, ?_⟩;refine GH h h0 hx ha fun w h=>?_
   rw[if_neg om,if_pos e2] at hK;exact hK w (Ow.dQ (s:=s) h)
  refine gB (fun e1=>?_) (fun e1=>?_)
  ·rw[if_pos e1] at hK
   refine ⟨_,rfl, ?_⟩;refine GH h h0 hx ha fun w h=>?_
   refine h.dr fun w h=>?_
   have hc:=h.dz.Ik (s:=s) (i:=n) (j:=n.toNat) (x:={ x with is:=2}) om (by rw[List.getElem?_set_self om]) ha;exact ⟨_,rfl,_,hc 1 _ rfl,_,rfl,_,hc 2 _ rfl,hK w (Ow.dQ (s:=s) h)⟩
  refine gB (fun e2=>?_) (fun e2=>?_)
  ·exact again (.inl e2) _ h
  refine gB (fun e3=>?_) (fun e3=>?_)
  ·exact again (.inr e3) _ h
  ·rw[if_neg e1,if_neg om] at hK
   exact hK _ (Ow.dQ (s:=s) h)
theorem vX {n:Int} {K:Int->Int->Bool->Int->Pw} (h:Ow B w0 w (bq b l::R))
  (hK:∀w',Ow B w0 w' (bq b (kS l n).2::R)->K ((kS l n).1.1.getD (0,0)).1 ((kS l n).1.1.getD (0,0)).2 (kS l n).1.1.isSome (kS l n).1.2 w'):C.qcO (some ⟨b,0,none⟩) n K w:=by
 apply S.qcO0;obtain ⟨s,h⟩:=h.lines;unfold kS at hK;refine kc h (fun e=>?_) (fun x a e ha h0 hlt hx=>?_)
 ·rw[e] at hK
  exact bN rfl (hK _ (Ow.dQ (s:=s) h))
 ·rw[e] at hK
  dsimp only at hK;refine bD rfl ?_;have hc:=h.dz.Ho (s:=s) (i:=n) (j:=n.toNat) om hx ha;refine ⟨_,rfl,x.is,hc _ rfl, ?_⟩;refine gB (fun e1=>?_) (fun e1=>?_)
  ·rw[if_pos e1] at hK
   refine ⟨_,rfl, ?_⟩;refine GH h h0 hx ha fun w h=>?_
   refine h.dr fun w h=>?_
   have hc:=h.dz.Ik (s:=s) (i:=n) (j:=n.toNat) (x:={ x with is:=2}) om (by rw[List.getElem?_set_self om]) ha;exact ⟨_,rfl,_,hc 1 _ rfl,_,rfl,_,hc 2 _ rfl,hK w (Ow.dQ (s:=s) h)⟩
  refine gB (fun e2=>?_) (fun e2=>?_)
  ·rw[if_neg e1,if_pos e2] at hK
   refine ⟨_,rfl, ?_⟩;refine GH h h0 hx ha fun w h=>?_
   exact hK w (Ow.dQ (s:=s) h)
  ·rw[if_neg e1,if_neg e2] at hK
   exact hK _ (Ow.dQ (s:=s) h)
end
end Go.Proofs.YtlhljbbfckbjpaaGreat
end
section
set_option maxRecDepth 8000
namespace Go.Proofs.YtlhljbbfckbjpaaGreat.Sl
open Go Go.Vc Go.Proofs
def gZ:cQ (Slot × dj):=⟨8,fun p=>[.z p.1.1, .z p.1.2, .z p.2.kind, .z p.2.obj, .z p.2.au, .y p.2.aB, .y p.2.guard, .z p.2.bits],fun _=>rfl,fun x v h=>by
 simp only[List.mem_cons,List.not_mem_nil,or_false] at h;rcases h with rfl|rfl|rfl|rfl|rfl|rfl|rfl|rfl<;>rfl,by decide⟩
theorem uy (x:Int) (m:Nat) (hm:m<2^62):∃p:Nat,p≤m/\dw .i64 x (m:Int)=(p:Int):=by
 unfold dw;have e2:(2:Nat)^62=4611686018427387904:=by decide
 have hle:(BitVec.ofInt IntKind.i64.bits x &&& BitVec.ofInt IntKind.i64.bits (m:Int)).toNat≤m:=by
  rw[BitVec.toNat_and];refine Nat.le_trans Nat.and_le_right ?_;have:(BitVec.ofInt IntKind.i64.bits (m:Int)).toNat=m%2^64:=by simp[IntKind.bits,BitVec.toNat_ofInt]
  rw[this];exact Nat.mod_le _ _
 exact ⟨_,hle,wr om om⟩
end Go.Proofs.YtlhljbbfckbjpaaGreat.Sl
end
section
set_option maxRecDepth 8000
namespace Go.Proofs.YtlhljbbfckbjpaaGreat.Tr
open Go Go.Vc Go.Proofs
abbrev Slot:=Int × Int
abbrev fE:=Slot × Int
abbrev eT (s:Sl):Value:= .slice s.a s.len s.cap
def aS:cQ fE:=⟨3,fun p=>[.z p.1.1, .z p.1.2, .z p.2],fun _=>rfl,fun x v h=>by
 simp only[List.mem_cons,List.not_mem_nil,or_false] at h;rcases h with rfl|rfl|rfl<;>rfl,by decide⟩
def bw:cQ Slot:=⟨2,fun p=>[.z p.1, .z p.2],fun _=>rfl,fun x v h=>by
 simp only[List.mem_cons,List.not_mem_nil,or_false] at h;rcases h with rfl|rfl<;>rfl,by decide⟩
theorem Ei {w:World} {a:Addr} {x:fE} {f:Int->Int->Int->Prop} (g:∀c v,(aS.enc x)[c]?=some v->w.cell? (a.add c)=some v) (hf:f x.1.1 x.1.2 x.2):az w a 0 [.o, .o, .o] f:=⟨_,g 0 _ rfl,_,g 1 _ rfl,_,g 2 _ rfl,hf⟩
theorem IJ (a c:Slot):oQ Tryz.prog 9 204 [.z a.1, .z a.2] [.z c.1, .z c.2]=some (decide (a=c)):=by
 have h:oQ Tryz.prog 9 204 [.z a.1, .z a.2] [.z c.1, .z c.2]=some (a.1==c.1&&(a.2==c.2&&true)):=by kernel_rfl
 rw[h];congr 1;rw[Bool.eq_iff_iff];simp only[Bool.and_true,Bool.and_eq_true,beq_iff_eq,decide_eq_true_eq];cases a;cases c;simp only[Prod.mk.injEq]
theorem HQ {x y:Operand} (a c:Slot):FM Tryz.prog .eql 204 x y (.agg #[.z a.1, .z a.2]) (.agg #[.z c.1, .z c.2]) (decide (a=c)):=G0 (by kernel_rfl) (by kernel_rfl) (by kernel_rfl) (IJ a c)
theorem gG:Tryz.prog.info? 261=some Tryz.t261:=by kernel_rfl
theorem uD:Tryz.t261.bytes=24:=by kernel_rfl
def vt:fE:=((0,0),0)
theorem Fz (w:World):(zeroValue 261).run Tryz.prog w= .ok (.agg ⟨aS.enc vt⟩) w:=Tryz.zeroValue261 w
def cN {α:Type} (p:α->Bool) (xs:List α):Int:=match xs.findIdx? p with|some i=>(i:Int)|none=> -1
section
variable {B:Nat} {w0 w:World} {R L:List aA} {s:Sl} {xs:List fE}
theorem sd {p:fE->Bool} {f:Value} {K:Int->Pw} [I:bT s L fE aS xs] (h:Ow B w0 w L) (hbig:xs.length≤1000000000)
  (hf:∀(y:fE) (w:World) (Q:Bool->Pw),Ow B w0 w L->(∀w',Ow B w0 w' L->Q (p y) w')->bY Tryz.prog f [.agg #[.z y.1.1, .z y.1.2, .z y.2]] w fun en w'=>∃r:Bool,en= .returned (.bool r)/\Q r w')
  (hK:∀w',Ow B w0 w' L->K (cN p xs) w'):C.qq s f K w:=by
 apply S.qq0;have hlen:=h.br s;intro l hl
 have loop:∀(rest:List fE) (j:Nat) (w:World),xs.drop j=rest->j≤xs.length->(∀i,i<j->∀y,xs[i]?=some y->p y=false)->Ow B w0 w L->l (j:Int) w:=by
  intro rest
  induction rest with
  |nil=>
   intro j w hj hjl hno h;have:xs.length≤j:=by have:=congrArg List.length hj;simp at this;omega
   apply hl;refine aE om ?_
   have hn:xs.findIdx? p=none:=by
    rw[List.findIdx?_eq_none_iff];intro y hy;obtain ⟨i,hi⟩:=List.mem_iff_getElem?.1 hy;exact hno i (by have:=(List.getElem?_eq_some_iff.1 hi).1;omega) y hi
   have e:cN p xs= -1:=by unfold cN;rw[hn]
   rw[←e];exact hK _ h
  |cons y rest ih=>
   intro j w hj hjl hno h;have hjl2:j<xs.length:=by have:=congrArg List.length hj;simp at this;omega
   have hx:xs[j]?=some y:=by
    have:=congrArg (fun l=>l[0]?) hj;simpa using this
   apply hl;refine aR om ?_;refine h.dZ rfl hx fun a ha h0 hc=>?_
   refine Ei hc ?_;refine hf y w _ h fun w h=>?_
   cases hp:p y with
   |true=>
    refine bN rfl ?_
    have hn:xs.findIdx? p=some j:=by
     rw[List.findIdx?_eq_some_iff_getElem];refine ⟨hjl2, ?_,fun i hi=>?_⟩
     ·rw[gE hjl2] at hx;cases hx;exact hp
     ·have:=hno i hi xs[i] (gE om)
      simp[this]
    have e:cN p xs=(j:Int):=by unfold cN;rw[hn]
    rw[←e];exact hK _ h
   |false=>
    refine bD rfl ?_;rw[wr om om];refine ih (j+1) w (by rw[←List.drop_drop,hj];rfl) om (fun i hi z hz=>?_) h;by_cases e:i=j
    ·subst e;rw[hx] at hz;cases hz;exact hp
    ·exact hno i om z hz
 exact loop xs 0 w rfl om (fun i hi=>by omega) h
theorem uz {y:fE} {c:Nat} {k:Sl->Pw} [I:bT s L fE aS xs] [J:dG (ah aS s xs) L R] (h:Ow B w0 w (aa c (aS.enc y)::L)) (hbig:xs.length≤1000000000)
  (hk:∀s' w',s'.len=xs.length+1->Ow B w0 w' (ah aS s' (xs++ [y])::R)->k s' w'):
  ∃s' w',bo Tryz.prog [188,188] 188 (.slice s.a s.len s.cap) (.slice (some (Addr.mk c 0 none)) 1 1) w s' w'/\k s' w':=
 Ow.fy (E:=aS) (y:=y) Tryz.underlying188 gG (zv:= .agg ⟨aS.enc vt⟩) (by kernel_rfl) (by kernel_rfl) rfl (by decide) h (by rw[uD];omega) hk
theorem oO {ys:List Slot} {y:Slot} {c:Nat} {k:Sl->Pw} [I:bT s L Slot bw ys] [J:dG (ah bw s ys) L R] (h:Ow B w0 w (aa c (bw.enc y)::L)) (hbig:ys.length≤1000000000)
  (hk:∀s' w',s'.len=ys.length+1->Ow B w0 w' (ah bw s' (ys++ [y])::R)->k s' w'):
  ∃s' w',bo Tryz.prog [236,236] 236 (.slice s.a s.len s.cap) (.slice (some (Addr.mk c 0 none)) 1 1) w s' w'/\k s' w':=
 Ow.fy (E:=bw) (y:=y) Tryz.underlying236 (show Tryz.prog.info? 204=some Tryz.t204 from by kernel_rfl) (zv:= .agg ⟨bw.enc (0,0)⟩) (by kernel_rfl) (by kernel_rfl) rfl (by decide) h (by
  have e:Tryz.t204.bytes=16:=by kernel_rfl
  rw[e];omega) hk
theorem jx {α:Type} {xs:List α} {i j:Nat} {z:α} (hij:i<j) (hj:j≤xs.length):
  List.take (i+(xs.length-j)) (List.take (i+(xs.length-j)) (xs.take i++xs.drop j++xs.drop (i+(xs.length-j)))++List.replicate ((xs.take i++xs.drop j++xs.drop (i+(xs.length-j))).length-(i+(xs.length-j))) z)=xs.take i++xs.drop j:=by
 have hl2:(xs.take i++xs.drop j).length=i+(xs.length-j):=by simp;omega
 rw[List.take_append_of_le_length (by simp;omega),List.take_take,Nat.min_self,←hl2,List.take_left]
theorem wZ {i j:Nat} {K:Sl->Pw} (h:Ow B w0 w (ah aS s xs::R)) (hij:i<j) (hj:j≤xs.length) (hbig:xs.length≤1000000000)
  (hK:∀s' w',Ow B w0 w' (ah aS s' (xs.take i++xs.drop j)::R)->K s' w'):C.qo s (i:Int) (j:Int) K w:=by
 apply S.qo0;have hlen:=h.br s;have hcap:=h.jN.fo;refine ⟨om,om,om,om,om,om, ?_⟩;refine vN om ?_;refine h.dr fun w h=>?_
 refine ⟨om,om,om,om,a2 ?_⟩;simp only[Int.toNat_natCast];refine h.sw (E:=aS) Tryz.underlying188 gG (by kernel_rfl) om hj om fun w h=>?_
 dsimp only;refine ⟨om,om,om,om, ?_⟩;refine Ow.clear (E:=aS) (z0:=vt) (n:=i+(xs.length-j)) Tryz.underlying188 Fz rfl h 0 rfl (by simp;omega) fun w h=>?_
 have hp:=h.pre 0 rfl (n:=i+(xs.length-j)) (by simp;omega);refine hK _ w ?_;rw[jx hij hj] at hp;exact hp
end
theorem D7 {α:Type} {xs:List α} {i:Nat} {y z:α} (hi:i<xs.length):
  (((xs.take i++List.replicate (xs.length+1-i) z).take i++ [y]++(xs.take i++List.replicate (xs.length+1-i) z).drop (i+ [y].length)).take (i+1)++xs.drop i++((xs.take i++List.replicate (xs.length+1-i) z).take i++ [y]++(xs.take i++List.replicate (xs.length+1-i) z).drop (i+ [y].length)).drop (i+1+(xs.drop i).length))=xs.take i++ [y]++xs.drop i:=by
 have h1:(xs.take i).length=i:=by simp;omega
 have h2:(xs.take i++List.replicate (xs.length+1-i) z).take i=xs.take i:=by rw[List.take_append_of_le_length om,List.take_of_length_le om]
 have h3:(xs.take i++ [y]:List α).length=i+1:=by simp;omega
 rw[h2];generalize hX:(xs.take i++List.replicate (xs.length+1-i) z).drop (i+ [y].length)=X;have hXl:X.length=xs.length-i:=by rw[←hX];simp;omega
 have h4:(xs.take i++ [y]++X).drop (i+1+(xs.drop i).length)= []:=List.drop_eq_nil_of_le (by rw[List.length_append,h3,hXl];simp);rw[h4,List.append_nil,List.take_append_of_le_length om,List.take_of_length_le om]
theorem Cd {α:Type} (E:cQ α) {xs:List α} {i:Nat} {y:α} (hi:i<xs.length) {junk:List Value} (hj:junk.length=1*E.z):
  putAt (putAt (xs.flatMap E.enc++junk) ((i+1)*E.z) ((xs.drop i).flatMap E.enc)) (i*E.z) (E.enc y)=(xs.take i++ [y]++xs.drop i).flatMap E.enc:=by
 have hF:=aK E xs;have hD:((xs.drop i).flatMap E.enc).length=(xs.length-i)*E.z:=by rw[aK,List.length_drop]
 have hT:((xs.take i).flatMap E.enc).length=i*E.z:=by rw[aK,List.length_take,Nat.min_eq_left om]
 have hsplit:xs.flatMap E.enc=(xs.take i).flatMap E.enc++(xs.drop i).flatMap E.enc:=by rw[←List.flatMap_append,List.take_append_drop]
 have hEy:=E.len y;have e1:xs.length*E.z=i*E.z+(xs.length-i)*E.z:=by rw[←Nat.add_mul];congr 1;omega
 have hl1:(putAt (xs.flatMap E.enc++junk) ((i+1)*E.z) ((xs.drop i).flatMap E.enc)).length=xs.length*E.z+E.z:=by
  rw[mn (by rw[List.length_append,hF,hj,hD,Nat.succ_mul];omega),List.length_append,hF,hj];omega
 rw[List.flatMap_append,List.flatMap_append,List.flatMap_cons,List.flatMap_nil,List.append_nil];generalize hA:(xs.take i).flatMap E.enc=A at*
 generalize hB:(xs.drop i).flatMap E.enc=D at*
 generalize E.enc y=Y at*
 rw[hsplit] at hl1⊢;apply List.ext_getElem?;intro t;rw[ck _ _ _ _ om];rw[ck _ _ _ _ (by rw[List.length_append,List.length_append,hj,hD,hT,Nat.succ_mul];omega)];rw[Nat.succ_mul];by_cases c1:i*E.z≤t/\t<i*E.z+Y.length
 ·rw[if_pos c1,List.append_assoc,List.getElem?_append_right om,List.getElem?_append_left om,hT]
 ·rw[if_neg c1]
  by_cases c2:i*E.z+E.z≤t/\t<i*E.z+E.z+D.length
  ·rw[if_pos c2,List.getElem?_append_right (by rw[List.length_append];omega),List.length_append,hT,hEy]
  ·rw[if_neg c2]
   by_cases c3:t<i*E.z
   ·rw[List.append_assoc,List.getElem?_append_left om,List.append_assoc,List.getElem?_append_left om]
   ·rw[List.getElem?_eq_none (by rw[List.length_append,List.length_append];omega),List.getElem?_eq_none (by rw[List.length_append,List.length_append];omega)]
section
variable {B:Nat} {w0 w:World} {R L:List aA} {s:Sl} {xs:List fE}
theorem xd {i c:Nat} {y:fE} {K:Sl->Pw} (h:Ow B w0 w (ah aS s xs::aa c (aS.enc y)::R)) (hi:i≤xs.length) (hbig:xs.length≤1000000000)
  (hK:∀s' w',Ow B w0 w' (ah aS s' (xs.take i++ [y]++xs.drop i)::R)->K s' w'):C.qn s (i:Int) ⟨some ⟨c,0,none⟩,1,1⟩ K w:=by
 apply S.qn0;have hlen:=h.br s;have hcap:=h.jN.fo;refine ⟨om,om, ?_⟩;refine bD rfl ?_;refine gB (fun e=>?_) (fun e=>?_)
 ·obtain rfl:i=xs.length:=by omega
  refine uz h.dz hbig fun s' w hs' h=>?_
  rw[List.take_length,List.drop_length,List.append_nil] at hK;exact hK s' w h
 have hil:i<xs.length:=by omega
 dsimp only;have hspot:=h.jN.spot;have hdl:(xs.drop i).length=xs.length-i:=by simp
 rw[show IntKind.i64.wrap ((s.len:Int)+((1:Nat):Int))=((xs.length+1:Nat):Int) from by rw[wr om om];omega,
  show IntKind.i64.wrap ((i:Int)+((1:Nat):Int))=((i+1:Nat):Int) from by rw[wr om om];omega]
 obtain ⟨b,o,ha,hcells⟩:=h.get 0 rfl (gE hil)
 have hsrc:∀w,Ow B w0 w (ah aS s xs::aa c (aS.enc y)::R)->∀j v,((xs.drop i).flatMap aS.enc)[j]?=some v->w.cell? ((Addr.mk b (o+i*3) none).add j)=some v:=fun w h j v hv=>by
  have hs:=h.jN
  have hj:(xs.flatMap aS.enc)[i*3+j]?=some v:=by
   have e1:xs.flatMap aS.enc=(xs.take i).flatMap aS.enc++(xs.drop i).flatMap aS.enc:=by rw[←List.flatMap_append,List.take_append_drop]
   have e2:((xs.take i).flatMap aS.enc).length=i*3:=by rw[aK];show (xs.take i).length*3=_;simp;omega
   rw[e1,List.getElem?_append_right om,e2,Nat.add_sub_cancel_left];exact hv
  obtain ⟨b',o',ha',hc'⟩:=hs.cell hj;rw[ha] at ha';simp only[Option.some.injEq,Addr.mk.injEq,and_true] at ha';rw[aI,ha'.1,ha'.2,Nat.add_assoc];exact hc'
 have hsrcY:∀w L,Ow B w0 w (aa c (aS.enc y)::L)->∀j v,(([y]:List fE).flatMap aS.enc)[j]?=some v->w.cell? ((Addr.mk c 0 none).add j)=some v:=fun w L h j v hv=>by
  have:([y]:List fE).flatMap aS.enc=aS.enc y:=by simp
  rw[this] at hv;rw[aI,Nat.zero_add,(h.ud 0 rfl).cell];exact hv
 refine dD (fun e2=>?_) (fun e2=>?_)
 ·refine ⟨om,om, ?_⟩
  rw[show IntKind.i64.wrap (((xs.length+1:Nat):Int)-(i:Int))=((xs.length+1-i:Nat):Int) from by rw[wr om om];omega,Int.toNat_natCast];refine Ow.I0 (E:=aS) (z0:=vt) (i:=i) (m:=xs.length+1-i) Tryz.underlying188 Tryz.underlying3 gG (zv:= .agg ⟨aS.enc vt⟩) (by kernel_rfl) (by kernel_rfl) rfl (by decide) h om om om (by rw[uD];omega) fun t w ht htc h=>?_
  obtain ⟨b2,o2,ha2,_⟩:=h.get 0 rfl (gE (show i<(xs.take i++List.replicate (xs.length+1-i) vt).length by simp;omega));refine ⟨om,om, ?_⟩;rw[fV (z:=3) ha2 (show t.cap≠i by omega)];refine Ow.AD (E:=aS) (p:=i) (zs:=[y]) Tryz.underlying188 gG (by kernel_rfl) h ha2 (by simp;omega) (by simp;omega) (hsrcY w _ h.nC) fun w h=>?_
  refine h.dr fun w h=>?_
  refine ⟨om,om,om,om,Go.Vc.a2 ?_⟩;rw[Int.toNat_natCast,fV (z:=3) ha2 (show t.cap≠i+1 by omega),fV (z:=3) ha (show s.cap≠i by omega)];refine Ow.AD (E:=aS) (p:=i+1) (zs:=xs.drop i) Tryz.underlying188 gG (by kernel_rfl) h ha2 (by simp;omega) (by simp;omega) (hsrc w h.drop) fun w h=>?_
  rw[D7 hil] at h;exact hK _ w h.yy.yy
 ·obtain ⟨junk,hj,h⟩:=h.grow (m:=1) om ha
  have h:Ow B w0 w (C9 3 ⟨s.a,xs.length+1,s.cap⟩ (xs.flatMap aS.enc++junk)::aa c (aS.enc y)::R):=h;have e0:Vc.dV s.a 0 s.cap 3=s.a:=CU _ _ _ hspot;have hF:(xs.flatMap aS.enc).length=xs.length*3:=aK aS xs;simp only[e0,Nat.sub_zero,Int.toNat_natCast];rw[fV (z:=3) ha (show s.cap≠i+1 by omega),fV (z:=3) ha (show s.cap≠i by omega)];refine ⟨om,om,om,om,false,w, ?_, ?_⟩
  ·exact h.dz.overlaps Tryz.func286 (by kernel_rfl) (by kernel_rfl) (by kernel_rfl) (tS:=188) (tR:=4) (by kernel_rfl) Tryz.underlying188 (size:=3) (fun w=>by rw[eX gG w];rfl) ha (by
    intro hn;have:=congrArg List.length hn;rw[List.length_append,hF,hj] at this;simp at this;omega)
  refine bN rfl ?_;refine h.dr fun w h=>?_
  refine ⟨om,om,om,om,Go.Vc.a2 ?_⟩
  refine h.DK (z:=3) (p:=i+1) (ds:=(xs.drop i).flatMap aS.enc) Tryz.underlying188 gG (by kernel_rfl) ha (by
   have:=aK aS (xs.drop i);have hz:aS.z=3:=rfl;rw[this,hz,hdl];congr 1;omega) (fun v hv=>by
   obtain ⟨x,_,hx⟩:=List.mem_flatMap.1 hv;exact aS.one x v hx) (by rw[List.length_append,hF,hj];show _≤xs.length*3+1*3;omega) (fun j v hv=>by
   have hs:jR 3 w ⟨s.a,xs.length+1,s.cap⟩ (xs.flatMap aS.enc++junk):=h.head fun _ h=>h.2
   have hjj:(xs.flatMap aS.enc++junk)[i*3+j]?=some v:=by
    have e1:xs.flatMap aS.enc=(xs.take i).flatMap aS.enc++(xs.drop i).flatMap aS.enc:=by rw[←List.flatMap_append,List.take_append_drop]
    have e2:((xs.take i).flatMap aS.enc).length=i*3:=by rw[aK];show (xs.take i).length*3=_;simp;omega
    have hjl:=(List.getElem?_eq_some_iff.1 hv).1;rw[e1,List.append_assoc,List.getElem?_append_right om,e2,Nat.add_sub_cancel_left,List.getElem?_append_left hjl];exact hv
   obtain ⟨b',o',ha',hc'⟩:=hs.cell hjj;have ha':s.a=some ⟨b',o',none⟩:=ha';rw[ha] at ha';simp only[Option.some.injEq,Addr.mk.injEq,and_true] at ha';rw[aI,ha'.1,ha'.2,Nat.add_assoc];exact hc') fun w h=>?_
  refine ⟨om,om, ?_⟩
  refine h.DK (z:=3) (p:=i) (ds:=aS.enc y) Tryz.underlying188 gG (by kernel_rfl) ha (by
   rw[aS.len];show 3=_;rw[Nat.min_eq_left (by show 1≤_;omega)]) (fun v hv=>aS.one y v hv) (by
   have hD:((xs.drop i).flatMap aS.enc).length=(xs.length-i)*3:=by rw[←hdl];exact aK aS _
   rw[mn (by rw[List.length_append,hF,hj,hD];show _≤xs.length*3+1*3;omega),List.length_append,hF,hj];show _≤xs.length*3+1*3;omega) (fun j v hv=>by
   rw[aI,Nat.zero_add,(h.ud 1 rfl).cell];exact hv) fun w h=>?_
  have h2:Ow B w0 w (ah aS ⟨s.a,xs.length+1,s.cap⟩ (xs.take i++ [y]++xs.drop i)::aa c (aS.enc y)::R):=Ow.Jn (by simp;omega) (Cd aS hil hj) h;exact hK _ w h2.yy
end
end Go.Proofs.YtlhljbbfckbjpaaGreat.Tr
end
section
set_option maxRecDepth 100000
namespace Go.Proofs.YtlhljbbfckbjpaaGreat
open Go Go.Vc Go.Proofs
theorem S.qdz0 {a b c d e f g K w}:Fr (C.qdz a b c d e f g K w) (A2 w [.z a, .z b, .z c, .slice d.a d.len d.cap, .slice e.a e.len e.cap, .z f] 27 fun a b=>az b a.p 0 [.o, .o, .o, .s, .s, .o] fun (a c d:Int) (e f:Sl) (h:Int)=>C.qdS a c d e f h g (fun a b c d e f g h i=>A2 i [.z 0, .z 0, .z 0, .slice none 0 0, .slice none 0 0, .z 0] 27 fun i j=>aH j i.p 0 [.z b, .z c, .z d, .slice e.a e.len e.cap, .slice f.a f.len f.cap, .z g] fun b=>bif a.isNone then K false b else ∀c:Sl->Int->Pw,(∀(b:Sl) (d:Int) (e:World),(bif decide (d<600) then ∃f,e.cell? i.p=some (.z f)/\f≠0/\C.qM a 0 (d.tmod f) 0 0 (fun a e f g h i j k l m n o=>A2 o [.z 0, .z 0, .z 0, .z 0, .y 0, .z 0, .slice none 0 0, .z 0, .z 0, .bool false] 40 fun o p=>aH p o.p 0 [.z a, .z e, .z f, .z g, .y h, .z i, .slice j.a j.len j.cap, .z k, .z l, .bool m] fun a=>bif n then az a o.p 0 [.o, .o, .o, .o, .u, .o, .s, .o, .o, .b] fun (e f g h i j:Int) (k:Sl) (l m:Int) (n:Bool)=>A2 a [.z e, .z f, .z g, .z h, .y i, .z j, .slice k.a k.len k.cap, .z l, .z m, .bool n] 40 fun e f=>∃g h,bo Tryz.prog [29,29] 29 (.slice b.a b.len b.cap) (.slice (some e.p) 1 1) f g h/\c g (IntKind.i64.wrap (d+1)) h else c b (IntKind.i64.wrap (d+1)) a) e else ∀c:Int->Pw,(∀(d:Int) (e:World),(∃f,e.cell? i.p=some (.z f)/\bif decide (d<f) then C.qaC a d (fun b e f=>∀g:Bool->Pw,(∀(a:Bool) (b:World),(bif a then K false b else c (IntKind.i64.wrap (d+1)) b)->g a b)->(bif !e then g true f else bif b !=0 then g true f else C.qaD a d (fun a b=>g (a !=0) b) f)) e else ∃c,e.cell? i.p=some (.z c)/\C.qcV c b (fun b c=>bif b==(-1) then C.qaE a (fun a b=>bif (a.len:Int)==0 then C.qdl (fun a b=>K a b) b else K false b) c else K false c) e)->c d e)->c 0 e)->c b d e)->c h 0 b) b):=aD Tryz.func3 (.v (.v (.y (.v (.x .w)) (.y (.v (.x (.t (some [(7,.c .s),(8,.c (.i .i64))]) (.y (.v .w) (.x (.x (.v (.v .w))))) .u))) (.y (.v (.x (.t (some [(11,.c (.i .i64))]) (.y (.v .w) (.x (.x (.v (.y (.r (some [(67,.c .b)]) .done) (.x .w)))))) .u))) .w)))))
theorem S.qdS0 {a b c d e f g K w}:Fr (C.qdS a b c d e f g K w) (A2 w [.z a, .z b, .z c, .slice d.a d.len d.cap, .slice e.a e.len e.cap, .z f] 27 fun a b=>A2 b [.z 0, .z 0, .z 0, .slice none 0 0, .slice none 0 0, .z 0] 27 fun b c=>az c a.p 0 [.o, .o, .o, .s, .s, .o] fun (a d e:Int) (f h:Sl) (i:Int)=>C.qdm a d e f h i (fun a c d e f h i=>A2 i [.z 0, .z 0, .z 0, .slice none 0 0, .slice none 0 0, .z 0] 27 fun i j=>aH j i.p 0 [.z a, .z c, .z d, .slice e.a e.len e.cap, .slice f.a f.len f.cap, .z h] fun a=>az a i.p 0 [.o, .o, .o, .s] fun (c d e:Int) (f:Sl)=>∃h:Sl,a.cell? (i.p.add 4)=some (.slice h.a h.len h.cap)/\∃j,a.cell? (i.p.add 5)=some (.z j)/\C.qcW c d e f h j (fun a c d=>∀e:Bool->Pw,(∀(c:Bool) (d:World),(bif c then Dr d fun c=>az c i.p 0 [.o, .o, .o, .s, .s, .o] fun (e f h:Int) (j k:Sl) (l:Int)=>(aH c b.p 0 [.z e, .z f, .z h, .slice j.a j.len j.cap, .slice k.a k.len k.cap, .z l] fun a=>az a b.p 0 [.o, .o, .o, .s, .s, .o] fun (b c d:Int) (e f:Sl) (g:Int)=>K none b c d e f g ⟨none,0,0⟩ a)/\True else ∀c:Sl->Sl->Pw,(∀(d e:Sl) (f:World),(∀c:Sl->Int->Pw,(∀(e:Sl) (f:Int) (g:World),(∀h:Bool->Pw,(∀(g:Bool) (j:World),(bif g then ∃g,d.a=some g/\0≤f/\f<(d.len:Int)/\az j (g.add (f.toNat*4)) 0 [.o, .o, .o, .o] fun (d g h k:Int)=>C.qM a d g h k (fun a b d g h i j k l m n o=>A2 o [.z 0, .z 0, .z 0, .z 0, .y 0, .z 0, .slice none 0 0, .z 0, .z 0, .bool false] 40 fun o p=>aH p o.p 0 [.z a, .z b, .z d, .z g, .y h, .z i, .slice j.a j.len j.cap, .z k, .z l, .bool m] fun a=>bif n then az a o.p 0 [.o, .o, .o, .o, .u, .o, .s, .o, .o, .b] fun (b d g h i j:Int) (k:Sl) (l m:Int) (n:Bool)=>A2 a [.z b, .z d, .z g, .z h, .y i, .z j, .slice k.a k.len k.cap, .z l, .z m, .bool n] 40 fun b d=>∃g h,bo Tryz.prog [29,29] 29 (.slice e.a e.len e.cap) (.slice (some b.p) 1 1) d g h/\c g (IntKind.i64.wrap (f+1)) h else c e (IntKind.i64.wrap (f+1)) a) j else Dr j fun c=>az c i.p 0 [.o, .o, .o, .s, .s, .o] fun (d f g:Int) (h i:Sl) (j:Int)=>(aH c b.p 0 [.z d, .z f, .z g, .slice h.a h.len h.cap, .slice i.a i.len i.cap, .z j] fun c=>az c b.p 0 [.o, .o, .o, .s, .s, .o] fun (b d f:Int) (g h:Sl) (i:Int)=>K a b d f g h i e c)/\True)->h g j)->(bif decide (f<(d.len:Int)) then h (decide (f<60)) g else h false g))->c e f g)->c e 0 f)->c d e f)->(Dr d fun a=>0≤ic (g.size:Int) 240/\ic (g.size:Int) 240≤(g.size:Int)/\∃b,a.cell? i.p=some (.z b)/\(C.qdK (g.extract 0 ((ic (g.size:Int) 240).toNat)) b (fun a b=>(A2 b [] 40 fun b d=>c a ⟨some b.p,0,0⟩ d)/\True) a)/\(A2 a [] 40 fun a d=>(C.qdK (g.extract 0 ((ic (g.size:Int) 240).toNat)) b (fun b d=>c b ⟨some a.p,0,0⟩ d) d)/\True)/\True))->e c d)->(bif a.isNone then e true d else e (c !=0) d)) a) c):=aD Tryz.func5 (.v (.v (.v (.y (.y (.r (some [(32,.c .b)]) .done) (.x (.x (.z (.o 0 2 (.o 1 0 (.e 2 (.o 3 0 .done)))))))) (.y (.r (some [(10,.c .s),(11,.c .s)]) (.o 0 750 (.o 1 736 (.o 2 736 (.o 3 736 (.o 4 736 (.o 5 512 (.o 6 512 (.o 7 512 (.f 8 (.o 10 512 (.e 9 (.o 11 0 .done))) (.e 9 (.e 8 (.o 10 0 (.o 11 0 .done)))))))))))))) (.y (.v (.x (.t (some [(11,.c .s),(12,.c (.i .i64))]) (.y (.y (.r (some [(51,.c .b)]) .done) .w) (.x (.x (.v (.v .w))))) .u))) (.x (.z (.o 0 6 (.o 1 12 (.o 2 24 (.o 3 0 (.e 4 (.o 5 0 .done))))))))))))))
theorem S.qdl0 {K w}:Fr (C.qdl K w) (A2 w [.z 0, .z 1, .z 20, .z 6, .z 0, .z 1, .z 0, .z 1, .z 21, .z 7, .z 0, .z 1, .z 12, .z 21, .z 3, .z 0, .z 0, .z 0, .z 13, .z 20, .z 3, .z 2, .z 7, .z 0, .z 14, .z 3, .z 0, .z 2, .z 0, .z 0] 76 fun a b=>C.qdC (fun b c d e f=>C.qcW b c d e ⟨some a.p,5,5⟩ 4 (fun a b c=>∀d:Bool->Pw,(∀(b:Bool) (c:World),(bif b then K false c else A2 c [] 40 fun b c=>∀d:Sl->Int->Pw,(∀(b:Sl) (c:Int) (e:World),(bif decide (c<5) then A2 e [.int .u8 (IntKind.u8.wrap c)] 5 fun f g=>∃h:ByteArray,wY Tryz.prog 78 9 (.slice (some f.p) 1 1) g h/\(((⟨#[1,0]⟩:ByteArray).size+h.size:Nat):Int)≤IntKind.i64.max/\((((⟨#[1,0]⟩:ByteArray)++h).size+(⟨#[0,0,0,0,0,0,0,0,0,0,0,0,0,1,0,2,1]⟩:ByteArray).size:Nat):Int)≤IntKind.i64.max/\C.qdK (((⟨#[1,0]⟩:ByteArray)++h)++(⟨#[0,0,0,0,0,0,0,0,0,0,0,0,0,1,0,2,1]⟩:ByteArray)) 1 (fun e f=>∀g:Sl->Int->Pw,(∀(b:Sl) (f:Int) (h:World),(bif decide (f<(e.len:Int)) then ∃i,e.a=some i/\0≤f/\f<(e.len:Int)/\az h (i.add (f.toNat*4)) 0 [.o, .o, .o, .o] fun (e i j k:Int)=>C.qM a e i j k (fun a c d e h i j k l m n o=>A2 o [.z 0, .z 0, .z 0, .z 0, .y 0, .z 0, .slice none 0 0, .z 0, .z 0, .bool false] 40 fun o p=>aH p o.p 0 [.z a, .z c, .z d, .z e, .y h, .z i, .slice j.a j.len j.cap, .z k, .z l, .bool m] fun a=>bif n then az a o.p 0 [.o, .o, .o, .o, .u, .o, .s, .o, .o, .b] fun (c d e h i j:Int) (k:Sl) (l m:Int) (n:Bool)=>A2 a [.z c, .z d, .z e, .z h, .y i, .z j, .slice k.a k.len k.cap, .z l, .z m, .bool n] 40 fun c d=>∃e h,bo Tryz.prog [29,29] 29 (.slice b.a b.len b.cap) (.slice (some c.p) 1 1) d e h/\g e (IntKind.i64.wrap (f+1)) h else g b (IntKind.i64.wrap (f+1)) a) h else d b (IntKind.i64.wrap (c+1)) h)->g b f h)->g b 0 f) g else bif (b.len:Int)==20 then ∃c,b.a=some c/\(0:Int)≤15/\15<(b.len:Int)/\∃d,e.cell? (c.add ((15:Int).toNat*10))=some (.z d)/\bif d==3 then ∃c,b.a=some c/\(0:Int)≤15/\15<(b.len:Int)/\∃d,e.cell? ((c.add ((15:Int).toNat*10)).add 9)=some (.bool d)/\bif d then ∃c,b.a=some c/\(0:Int)≤19/\19<(b.len:Int)/\∃d,e.cell? ((c.add ((19:Int).toNat*10)).add 9)=some (.bool d)/\bif !d then C.qcV 1 b (fun b c=>bif b==(-1) then C.qaJ a (fun a b=>K ((a.len:Int)==8) b) c else K false c) e else K false e else K false e else K false e else K false e)->d b c e)->d ⟨some b.p,0,0⟩ 0 c)->d b c)->(bif a.isNone then d true c else d (b !=0) c)) f) b):=aD Tryz.func11 (.v (.v (.v (.y (.y (.r (some [(27,.c .b)]) .done) (.x .w)) (.v (.y (.v (.x (.t (some [(4,.c .s),(5,.c (.i .i64))]) (.y (.v .w) (.x (.x (.v (.v (.x (.t (some [(4,.c .s),(7,.c (.i .i64))]) (.y (.v .w) (.x (.x (.v (.v .w))))) .u))))))) .u))) .w))))))
theorem S.qdA0 {K w}:Fr (C.qdA K w) (A2 w [.slice none 0 0] 190 fun a b=>K (some a.p) b):=aD Tryz.func53 (.v .w)
theorem S.qcx0 {a b c K w}:Fr (C.qcx a b c K w) (A2 w [.z b, .z c] 204 fun b c=>az c b.p 0 [.o, .o] fun (d e:Int)=>C.qU a d e (fun c d=>bif decide (c≥0) then K 70 d else Dr d fun c=>∃d,a=some d/\∃e:Sl,c.cell? d=some (.slice e.a e.len e.cap)/\az c b.p 0 [.o, .o] fun (b d:Int)=>(A2 c [.z b, .z d, .z 0] 261 fun b c=>(∃d f,bo Tryz.prog [188,188] 188 (.slice e.a e.len e.cap) (.slice (some b.p) 1 1) c d f/\∃b,a=some b/\(St f b (.slice d.a d.len d.cap) fun a=>K 0 a)/\True)/\True)/\True) c):=aD Tryz.func89 (.v (.y (.v (.x .w)) (.y (.z (.o 0 510 (.o 1 224 (.o 2 224 (.o 3 224 (.o 4 224 (.o 5 0 (.o 6 0 (.e 7 (.e 8 .Je)))))))))) .w)))
theorem S.qU0 {a b c K w}:Fr (C.qU a b c K w) (A2 w [.z b, .z c] 204 fun b c=>∃d,a=some d/\∃a:Sl,c.cell? d=some (.slice a.a a.len a.cap)/\C.qq a (.func (.func 166) #[] #[.pointer (some b.p)]) (fun a b=>K a b) c):=aD Tryz.func119 (.v .w)
theorem S.qch0 {a b c d K w}:Fr (C.qch a b c d K w) (A2 w [.z a, .z b, .z c] 261 fun a b=>az b a.p 0 [.o, .o] fun (a c:Int)=>az b d 0 [.o, .o] fun (d e:Int)=>∃f,FM Tryz.prog .eql 204 (.tmp 5) (.tmp 6) (.agg #[.z a, .z c]) (.agg #[.z d, .z e]) f/\K f b):=aD Tryz.func166 (.v .w)
theorem S.qcy0 {a b c d e K w}:Fr (C.qcy a b c d e K w) (A2 w [.z b, .z c] 204 fun b c=>A2 c [.z d, .z e] 204 fun c d=>az d b.p 0 [.o, .o] fun (b e:Int)=>C.qU a b e (fun b d=>bif decide (b<0) then K 71 d else az d c.p 0 [.o, .o] fun (e f:Int)=>C.qU a e f (fun d e=>bif decide (d≥0) then K 70 e else Dr e fun d=>∃e,a=some e/\∃a:Sl,d.cell? e=some (.slice a.a a.len a.cap)/\az d c.p 0 [.o, .o] fun (c e:Int)=>∃f,a.a=some f/\0≤b/\b<(a.len:Int)/\(aH d (f.add (b.toNat*3)) 0 [.z c, .z e] fun a=>K 0 a)/\True) d) d):=aD Tryz.func182 (.v (.v (.y .G2 (.y (.z (.o 0 48 (.o 1 48 (.o 2 48 (.o 3 48 (.o 4 32 (.o 5 0 .IS))))))) .w))))
theorem S.qcl0 {a b c K w}:Fr (C.qcl a b c K w) (A2 w [.z b, .z c] 204 fun b c=>az c b.p 0 [.o, .o] fun (b d:Int)=>C.qU a b d (fun b c=>bif decide (b<0) then K ⟨none,0,0⟩ c else Dr c fun c=>∃d,a=some d/\∃e:Sl,c.cell? d=some (.slice e.a e.len e.cap)/\(C.qcu a b (fun a c=>c.cell? d=some (.slice e.a e.len e.cap)/\0≤a/\a≤(e.cap:Int)/\0≤IntKind.i64.wrap (b+1)/\IntKind.i64.wrap (b+1)≤(a.toNat:Int)/\(C.qco ⟨dV e.a ((IntKind.i64.wrap (b+1)).toNat) e.cap 3,a.toNat-((IntKind.i64.wrap (b+1)).toNat),e.cap-((IntKind.i64.wrap (b+1)).toNat)⟩ (fun a b=>K a b) c)/\True) c)/\True) c):=aD Tryz.func184 (.v (.v (.y (.v (.x .w)) (.x (.z (.o 0 496 (.o 1 496 (.o 2 496 (.o 4 456 (.o 5 456 (.o 6 136 (.o 7 8 (.hold 3 256 3071 (.e 8 (.o 9 0 (.e 10 (.o 11 0 .done)))))))))))))))))
theorem S.qcQ0 {a b c d e K w}:Fr (C.qcQ a b c d e K w) (A2 w [.z b, .z c] 204 fun b c=>A2 c [.z d, .z e] 204 fun c d=>az d b.p 0 [.o, .o] fun (b e:Int)=>C.qU a b e (fun b d=>bif decide (b<0) then K 71 d else az d c.p 0 [.o, .o] fun (e f:Int)=>C.qU a e f (fun d e=>bif decide (d≥0) then K 70 e else Dr e fun d=>∃e,a=some e/\∃f:Sl,d.cell? e=some (.slice f.a f.len f.cap)/\az d c.p 0 [.o, .o] fun (c e:Int)=>∃g,a=some g/\∃h:Sl,d.cell? g=some (.slice h.a h.len h.cap)/\∃g,h.a=some g/\0≤b/\b<(h.len:Int)/\∃h,d.cell? ((g.add (b.toNat*3)).add 2)=some (.z h)/\(A2 d [.z c, .z e, .z (IntKind.i64.wrap (h+1))] 261 fun c d=>(C.qn f (IntKind.i64.wrap (b+1)) ⟨some c.p,1,1⟩ (fun b c=>∃d,a=some d/\(St c d (.slice b.a b.len b.cap) fun a=>K 0 a)/\True) d)/\True)/\True) d) d):=aD Tryz.func217 (.v (.v (.y .G2 (.y (.z (.o 0 1048574 (.o 1 524256 (.o 2 524256 (.o 3 524256 (.o 4 524256 (.o 5 524160 (.o 6 524160 (.o 7 130816 (.o 8 4096 (.o 9 4096 (.o 10 4096 (.o 11 4096 (.o 12 0 (.o 13 0 (.o 14 0 (.o 15 0 (.o 16 0 (.o 17 0 (.e 18 (.e 19 (.o 20 0 (.o 21 0 (.e 22 .done)))))))))))))))))))))))) .w))))
theorem S.qcA0 {a b c K w}:Fr (C.qcA a b c K w) (A2 w [.z b, .z c] 204 fun b c=>az c b.p 0 [.o, .o] fun (b d:Int)=>C.qU a b d (fun b c=>bif decide (b<0) then K 71 c else Dr c fun c=>∃d,a=some d/\∃e:Sl,c.cell? d=some (.slice e.a e.len e.cap)/\(C.qcu a b (fun c f=>f.cell? d=some (.slice e.a e.len e.cap)/\0≤c/\c≤(e.cap:Int)/\0≤IntKind.i64.wrap (b+1)/\IntKind.i64.wrap (b+1)≤(c.toNat:Int)/\∀d:Int->Pw,(∀(f:Int) (g:World),(bif decide (f<((c.toNat-((IntKind.i64.wrap (b+1)).toNat):Nat):Int)) then ∃h,dV e.a ((IntKind.i64.wrap (b+1)).toNat) e.cap 3=some h/\0≤f/\f<((c.toNat-((IntKind.i64.wrap (b+1)).toNat):Nat):Int)/\∃i,g.cell? ((h.add (f.toNat*3)).add 2)=some (.z i)/\∃h,dV e.a ((IntKind.i64.wrap (b+1)).toNat) e.cap 3=some h/\0≤f/\f<((c.toNat-((IntKind.i64.wrap (b+1)).toNat):Nat):Int)/\St g ((h.add (f.toNat*3)).add 2) (.z (IntKind.i64.wrap (i-1))) fun c=>d (IntKind.i64.wrap (f+1)) c else ∃c,a=some c/\∃d:Sl,g.cell? c=some (.slice d.a d.len d.cap)/\C.qo d b (IntKind.i64.wrap (b+1)) (fun b c=>∃d,a=some d/\St c d (.slice b.a b.len b.cap) fun a=>K 0 a) g)->d f g)->d 0 f) c)/\True) c):=aD Tryz.func220 (.v (.v (.y (.v (.x .w)) (.y (.z (.o 0 496 (.o 1 496 (.o 2 496 (.o 4 456 (.o 5 456 (.o 6 136 (.o 7 8 (.hold 3 256 2047 (.e 8 (.o 9 0 (.o 10 0 .done)))))))))))) (.y (.v (.x (.t (some [(25,.c (.i .i64))]) .FG .u))) (.v .w))))))
theorem S.qco0 {a K w}:Fr (C.qco a K w) (∀b:Sl->Int->Pw,(∀(c:Sl) (d:Int) (e:World),(bif decide (d<(a.len:Int)) then ∃f,a.a=some f/\0≤d/\d<(a.len:Int)/\az e (f.add (d.toNat*3)) 0 [.o, .o, .o] fun (a f g:Int)=>A2 e [.z 0, .z 0, .z 0] 261 fun h i=>aH i h.p 0 [.z a, .z f, .z g] fun a=>az a h.p 0 [.o, .o] fun (f g:Int)=>A2 a [.z f, .z g] 204 fun a f=>∃g h,bo Tryz.prog [236,236] 236 (.slice c.a c.len c.cap) (.slice (some a.p) 1 1) f g h/\b g (IntKind.i64.wrap (d+1)) h else K c e)->b c d e)->b ⟨none,0,0⟩ 0 w):=aD Tryz.func226 (.v (.v (.y (.v (.x (.t (some [(3,.c .s),(8,.c (.i .i64))]) .FG .u))) .w)))
theorem S.qcu0 {a b K w}:Fr (C.qcu a b K w) (∀c:Int->Pw,(∀(d:Int) (e:World),(Dr e fun e=>∃f,a=some f/\∃g:Sl,e.cell? f=some (.slice g.a g.len g.cap)/\bif decide (d<(g.len:Int)) then ∃f,a=some f/\∃g:Sl,e.cell? f=some (.slice g.a g.len g.cap)/\∃f,g.a=some f/\0≤d/\d<(g.len:Int)/\∃g,e.cell? ((f.add (d.toNat*3)).add 2)=some (.z g)/\∃f,a=some f/\∃a:Sl,e.cell? f=some (.slice a.a a.len a.cap)/\∃f,a.a=some f/\0≤b/\b<(a.len:Int)/\∃a,e.cell? ((f.add (b.toNat*3)).add 2)=some (.z a)/\bif decide (g>a) then c (IntKind.i64.wrap (d+1)) e else K d e else K d e)->c d e)->c (IntKind.i64.wrap (b+1)) w):=aD Tryz.func227 (.v (.v (.y (.x (.t (some [(5,.c (.i .i64))]) (.y (.y (.z (.o 0 62 (.o 1 0 (.o 2 0 (.o 3 0 (.o 4 0 (.o 5 0 (.o 6 0 (.o 7 0 (.o 8 16715776 (.o 9 16715776 (.o 10 16715776 (.o 11 16715776 (.o 12 16711680 (.o 13 16711680 (.o 14 16711680 (.o 15 16711680 (.o 16 1048576 (.o 17 1048576 (.o 18 1048576 (.o 19 1048576 (.o 20 0 (.o 21 0 (.o 22 0 (.o 23 0 (.o 24 0 (.o 25 0 .done))))))))))))))))))))))))))) .w) .w) .u)) .w)))
end Go.Proofs.YtlhljbbfckbjpaaGreat
end
