/- What the row rests on: the declarations that it needs, out of my texts (part 5). -/
import Derived.Test.YtfgikfglabdeoaaGreatZo4
open Bool renaming false->Z,true->V
open Decidable renaming decide->F
open Go renaming Addr->qf,World->Y
open Go.IntKind renaming i64->qd,u64->qq
open Go.Proofs.Tryz renaming prog->qe,t155->qS,t3->qI,underlying124->qX,underlying22->qH
open Option renaming none->I,some->S
open _root_ renaming Bool->W,Int->O,List->J,Nat->X,True->G,congrArg->qw,decide_eq_false->qk,decide_eq_false_iff_not->qW,decide_eq_true->qm,if_neg->Q,if_pos->A,rfl->U
open Go.Proofs.Tryz
open List renaming flatMap_append->Pd,getElem?_append_left->Oy,getElem?_append_right->OA,getElem?_drop->OP,getElem?_eq_some_iff->Om,getElem?_map->OX,getElem?_take->OM,length->PI,length_take->OO,map_append->OS,mem_map->O4,take_add_one->OG,take_of_length_le->Ou
open Nat renaming min_eq_left->Pv
set_option maxRecDepth 100000
set_option maxHeartbeats 4000000
set_option linter.all false
namespace Go.Vc
open Go.Proofs
namespace Tr
section
variable{B:X}{w0 w:Y}{R L:J aH}{b:X}{T:Tr}
theorem Fb{T:Tr}(hT:ph T){i:X}{x:fc}(hx:T[i]?=S x):bz T x.1=S i:=by have hi:=(Om.1 hx).1;unfold bz;rw[List.findIdx?_eq_some_iff_getElem];rw[gE hi]at hx;cases hx;refine⟨hi,qc,λj hj=>?_⟩;have hn:=List.pairwise_iff_getElem.1 hT.nd j i (by simpa using Nat.lt_trans hj hi) (by simpa using hi) hj;simp only[List.getElem_map]at hn;simp[hn]
theorem vG{T:Tr}{s:Slot}:bz T s=I↔s∉T.map (·.1):=by
 unfold bz;rw[List.findIdx?_eq_none_iff];constructor
 .intro h hm
  obtain⟨x,hx,rfl⟩:=O4.1 hm;have:=h x hx;simp at this
 .intro h x hx
  simp only[qW];intro e;exact h (O4.2 ⟨x,hx,e⟩)
def kY(T:Tr):J Slot:=T.map λx=>x.1
def mu(T:Tr):J O:=T.map λx=>x.2
theorem fZ(T:Tr):(kY T).length=T.length:=by unfold kY;simp
theorem yQ(T:Tr):(mu T).length=T.length:=by unfold mu;simp
theorem uK{T:Tr}{k:X}{x:fc}(h:T[k]?=S x):(kY T)[k]?=S x.1:=by unfold kY;rw[OX,h];rfl
theorem rk{T:Tr}{k:X}{x:fc}(h:T[k]?=S x):(mu T)[k]?=S x.2:=by unfold mu;rw[OX,h];rfl
theorem we{T:Tr}{e:X}{x:fc}(h:T[e]?=S x):kY (T.take e)++ [x.1]=kY (T.take (e+1)):=by unfold kY;rw[OG,h,OS];rfl
theorem vj{T:Tr}{e:X}{x:fc}(h:T[e]?=S x):mu (T.take e)++ [x.2]=mu (T.take (e+1)):=by unfold mu;rw[OG,h,OS];rfl
def cB(b:X)(T:Tr):aH:=pa λp:Sl × Sl=>bo [aa b [bL p.1,bL p.2],af aI p.1 (kY T),af aB p.2 (mu T)]
theorem _root_.Go.Vc.Ow.ref(h:Ow B w0 w (cB b T::R)):∃s d,Ow B w0 w (af aI s (kY T)::af aB d (mu T)::aa b [bL s,bL d]::R):=by obtain⟨⟨s,d⟩,h⟩:=h.ex;have h:=h.star;exact⟨s,d,h.cw.lK.cw⟩
theorem _root_.Go.Vc.Ow.jk{s d:Sl}(h:Ow B w0 w (af aI s (kY T)::af aB d (mu T)::aa b [bL s,bL d]::R)):Ow B w0 w (cB b T::R):=
 Ow.eP (s,d) (Ow.br h.lK)
theorem eQ{s:Sl}{ys:J O}{y:O}{c:X}{k:Sl->Pw}[ae4:bY s L O aB ys][aeX:eD (af aB s ys) L R](h:Ow B w0 w (aa c [.z y]::L))(hbig:ys.length<=1000000000)
  (hk:∀s' w',s'.len=ys.length+1->Ow B w0 w' (af aB s' (ys++ [y])::R)->k s' w'):
  ∃s' w',aP qe [22,22] 22 s.v (.slice (S c.p) 1 1) w s' w'/\k s' w':=
 Ow.eR (E:=aB) (y:=y) qH (show qe.info? 3=S qI from by kernel_rfl) (zv:= .z 0) qa qa U qb h (by
  have e:qI.bytes=8:=qa
  rw[e];omega) hk
theorem ki{s d:Sl}{x:Slot}{K:O->Pw}(hT:ph T)(h:Ow B w0 w (af aI s (kY T)::af aB d (mu T)::aa b [bL s,bL d]::R))(hK:∀w',Ow B w0 w' (af aI s (kY T)::af aB d (mu T)::aa b [bL s,bL d]::R)->K (match bz T x with|some i=>(i:O)|none=> -1) w'):
  R0 b.o x.1 x.2 K w:=by
 apply adw;have hlen:=h.aL s;rw[fZ]at hlen;have hfew:=hT.fh;refine h.a λc w1 h=>?_;intro l hl;have loop:∀(m k:X)(w:Y),k+m=T.length->(∀r y,r<k->T[r]?=S y->y.1≠x)->Ow B w0 w (aa c [.z x.1,.z x.2]::af aI s (kY T)::af aB d (mu T)::aa b [bL s,bL d]::R)->l (k:O) w:=by
  intro m;induction m with
  |zero=>
   intro k w hk hno h;apply hl;repeat first|refine h.l1 U ?_|refine eX ?_
   refine aw om ?_;have hn:bz T x=none:=vG.2 λhm=>by obtain⟨y,hy,hyx⟩:=O4.1 hm;obtain⟨r,hr⟩:=List.mem_iff_getElem?.1 hy;have:=(Om.1 hr).1;exact hno r y om hr hyx
   rw[hn]at hK;exact hK _ h.sub
  |succ m ih=>
   intro k w hk hno h;obtain⟨y,hy⟩:∃y,T[k]?=S y:=⟨_,gE om⟩
   apply hl;repeat first|refine h.l1 U ?_|refine eX ?_
   refine az om ?_;repeat first|refine h.dr λw h=>?_|refine h.l1 U ?_|refine eX ?_
   refine h.bX (s:=s) U (uK hy) λa ha h0 hc=>?_;refine kL (x:=y.1) hc ?_
   (refine h.aN U ?_)
   refine⟨_,H0 y.1 x,bg (λe=>?_) (λe=>?_)⟩
   .rw[<-e,Fb hT hy]at hK
    exact hK _ h.sub
   .rw[wI k om]
    refine ih (k+1) _ om (λr z hr hz=>?_) h;by_cases h1:r=k
    .subst h1;rw[hy]at hz;cases hz;exact e
    .exact hno r z om hz
 exact loop T.length 0 _ om (λr y h1=>by omega) h
theorem C8{s d:Sl}{i:X}{K:O->Pw}(hT:ph T)(hi:i<T.length)(h:Ow B w0 w (af aI s (kY T)::af aB d (mu T)::aa b [bL s,bL d]::R))(hK:∀w',Ow B w0 w' (af aI s (kY T)::af aB d (mu T)::aa b [bL s,bL d]::R)->K ((dN T i:X):O) w'):
  TX b.o (i:O) K w:=by
 apply adA;have hlen:=h.aL s;rw[fZ]at hlen;have hfew:=hT.fh;obtain⟨xi,hxi⟩:∃x,T[i]?=S x:=⟨_,gE hi⟩
 intro l hl;have loop:∀(rest:Tr)(k:X)(w:Y),T.drop k=rest->k<=T.length->i<k->k+(rest.takeWhile λx=>F (vh T i<x.2)).length=dN T i->Ow B w0 w (af aI s (kY T)::af aB d (mu T)::aa b [bL s,bL d]::R)->l (k:O) w:=by
  intro rest;induction rest with
  |nil=>
   intro k w hk hkl hik he h;have:T.length<=k:=by have:=qw PI hk;simp at this;omega
   apply hl;repeat first|refine h.l1 U ?_|refine eX ?_
   refine aw om ?_;have:k=dN T i:=by simpa using he
   repeat first|refine h.l1 U ?_|refine eX ?_
   rw[hlen,show T.length=dN T i from by omega];exact hK _ h
  |cons y rest ih=>
   intro k w hk hkl hik he h;have hkl2:k<T.length:=by have:=qw PI hk;simp at this;omega
   have hx:T[k]?=S y:=by have:=qw (λl=>l[0]?) hk;simpa using this
   apply hl;repeat first|refine h.l1 U ?_|refine eX ?_
   refine az om ?_;repeat first|refine h.dr λw h=>?_|refine h.l1 U ?_|refine eX ?_
   refine h.bX (s:=d) U (rk hx) λa ha h0 hc=>⟨_,h0 _ U,?_⟩
   repeat first|refine h.l1 U ?_|refine eX ?_
   refine h.bX (s:=d) U (rk hxi) λa ha h0 hc=>⟨_,h0 _ U,?_⟩
   refine bg (λe=>?_) (λe=>?_)
   .rw[List.takeWhile_cons_of_neg (by rw[gM hxi];simpa using e)]at he
    have:k=dN T i:=by simpa using he
    rw[this];exact hK _ h
   .rw[wr om om]
    refine ih (k+1) _ (by rw[<-List.drop_drop,hk];rfl) om om ?_ h;rw[List.takeWhile_cons_of_pos (by rw[gM hxi];simpa using e)]at he;simp at he;omega
 rw[wI i om];exact loop _ (i+1) w U om om U h
def ue(T:Tr)(i:X)(z:fc):Tr:=T.take i++z::T.drop i
theorem Jp{T:Tr}{i:X}{z:fc}(hi:i<=T.length):(∀r,r<i->(ue T i z)[r]?=T[r]?)/\(ue T i z)[i]?=S z/\(∀r,i<=r->(ue T i z)[r+1]?=T[r]?):=by
 have h1:(T.take i).length=i:=by simp;omega
 unfold ue;refine⟨λr hr=>?_,?_,λr hr=>?_⟩
 .rw[Oy om,OM,A hr]
 .rw[OA om,h1,Nat.sub_self];rfl
 .rw[OA om,h1,show r+1-i=(r-i)+1 from by omega,List.getElem?_cons_succ,OP,show i+(r-i)=r from by omega]
theorem Jq{T:Tr}{i:X}{z:fc}(hi:i<=T.length):(ue T i z).length=T.length+1:=by unfold ue;simp;omega
theorem HN{s d:Sl}{i:X}{z:fc}{K:Pw}(hl:T.length<1000000)(hi:i<=T.length)(h:Ow B w0 w (af aI s (kY T)::af aB d (mu T)::aa b [bL s,bL d]::R))(hK:∀w',Ow B w0 w' (cB b (ue T i z)::R)->K w'):
  TK b.o (i:O) z.1.1 z.1.2 z.2 K w:=by
 apply adx;have hlen:=h.aL s;rw[fZ]at hlen;obtain⟨g1,g2,g3⟩:=Jp (z:=z) hi;have hpl:=Jq (z:=z) hi;generalize ue T i z=T' at*
 refine h.a λc w1 h=>?_;refine h.a λc1 w2 h=>?_;refine h.a λc2 w3 h=>?_;have h:Ow B w0 w3 (af aB ⟨S c2.p,0,0⟩ []::_):=h.empty;have h:Ow B w0 w3 (af aI ⟨S c1.p,0,0⟩ []::_):=h.cw.empty;intro l hlp;have loop:∀(m k:X)(l1 d1:Sl)(w:Y),k+m=T.length+1->Ow B w0 w (af aI l1 (kY (T'.take (if k<=i then k else k+1)))::af aB d1 (mu (T'.take (if k<=i then k else k+1)))::aa c [.z z.1.1,.z z.1.2]::af aI s (kY T)::af aB d (mu T)::aa b [bL s,bL d]::R)->l l1 d1 (k:O) w:=by
  intro m;induction m with
  |zero=>
   intro k l1 d1 w hk h;rw[Q (show ¬k<=i by omega),Ou om]at h;apply hlp;repeat first|refine h.l1 U ?_|refine eX ?_
   refine aw om ?_;repeat first|refine eX ?_|refine h.jx U U λw h=>?_
   exact hK _ (Ow.jk (s:=l1) (d:=d1) h.sub)
  |succ m ih=>
   intro k l1 d1 w hk h;have hwk:qd.wrap ((k:O)+1)=((k+1:X):O):=by rw[wr om om];omega
   apply hlp;repeat first|refine h.l1 U ?_|refine eX ?_
   refine az om ?_;intro k16 hk16;have second:∀(l2 d2:Sl)(w:Y),Ow B w0 w (af aI l2 (kY (T'.take (if k<i then k else k+1)))::af aB d2 (mu (T'.take (if k<i then k else k+1)))::aa c [.z z.1.1,.z z.1.2]::af aI s (kY T)::af aB d (mu T)::aa b [bL s,bL d]::R)->k16 l2 d2 w:=by
    intro l2 d2 w h;apply hk16;repeat first|refine h.l1 U ?_|refine eX ?_
    refine bg (λe=>?_) (λe=>?_)
    .obtain ⟨y,hy⟩:∃y,T[k]?=S y:=⟨_,gE om⟩
     have hy':T'[if k<i then k else k+1]?=S y:=by
      by_cases h1:k<i
      .rw[A h1,g1 k h1,hy]
      .rw[Q h1,g3 k om,hy]
     have hnext:(if k+1<=i then k+1 else k+1+1)=(if k<i then k else k+1)+1:=by split<;>split<;>omega
     have hib:(if k<i then k else k+1)<=1000001:=by split<;>omega
     generalize (if k<i then k else k+1)=e2 at*
     repeat first|refine h.l1 U ?_|refine eX ?_
     refine h.bX (s:=s) U (uK hy) λa ha h0 hc=>?_;refine kL (x:=y.1) hc ?_;refine h.al λw1 h=>?_;refine jA (ys:=kY (T'.take e2)) (y:=y.1) h (by rw[fZ];simp;omega) λl3 w hl3 h=>?_;repeat first|refine h.l1 U ?_|refine eX ?_
     refine h.bX (s:=d) U (rk hy) λa ha h0 hc=>⟨_,h0 _ U,?_⟩
     refine h.al λw1 h=>?_;refine eQ (ys:=mu (T'.take e2)) (y:=y.2) h (by rw[yQ];simp;omega) λd3 w hd3 h=>?_;rw[we hy',vj hy',<-hnext]at h;rw[hwk];exact ih (k+1) l3 d3 w om h.sub
    .have h1:T'.take (if k+1<=i then k+1 else k+1+1)=T'.take (if k<i then k else k+1):=by rw[Q om,Q om,Ou om,Ou om]
     rw[hwk];refine ih (k+1) l2 d2 w om ?_;rw[h1];exact h
   refine dK (λe=>?_) (λe=>?_)
   .have hki:k=i:=om
    have e1:(if k<=i then k else k+1)=i:=by rw[A om];exact hki
    have e2:(if k<i then k else k+1)=i+1:=by rw[Q om];omega
    rw[e1]at h;rw[e2]at second;repeat first|refine h.al λw h=>?_|refine h.aN U ?_
    refine jA (ys:=kY (T'.take i)) (y:=z.1) h (by rw[fZ];simp;omega) λl3 w hl3 h=>?_;refine h.al λw1 h=>?_;refine eQ (ys:=mu (T'.take i)) (y:=z.2) h (by rw[yQ];simp;omega) λd3 w hd3 h=>?_;rw[we g2,vj g2]at h;exact second l3 d3 w h.sub
   .have e1:(if k<=i then k else k+1)=(if k<i then k else k+1):=by split<;>split<;>omega
    rw[e1]at h;exact second l1 d1 w h
 refine loop (T.length+1) 0 _ _ w3 om ?_;rw[A om];exact h
theorem CX{s:Slot}{K:O->Pw}(hT:ph T)(hl:T.length<1000000)(h:Ow B w0 w (cB b T::R))(hK:∀w',Ow B w0 w' (cB b (nT T s).2::R)->K (nT T s).1 w'):VY b.o s.1 s.2 K w:=by
 apply adt;obtain⟨sl,dd,h⟩:=h.ref;have hlen:=h.aL sl;rw[fZ]at hlen;unfold nT at hK;refine h.a λc w1 h=>?_
 (refine h.aN U ?_)
 refine ki (x:=s) hT h.xm.xm.xm λw h=>?_;cases hp:bz T s with
 |some i=>
  rw[hp]at hK;refine az (by show(i:O)>=0;omega) ?_;exact hK _ (Ow.jk (s:=sl) (d:=dd) h.sub)
 |none=>
  rw[hp]at hK;refine aw qb ?_;have e:ue T T.length (s,0)=T++ [(s,0)]:=by unfold ue;simp
  repeat first|refine h.dr λw h=>?_|refine h.aN U ?_|refine h.l1 U ?_|refine eX ?_|refine _root_.Go.Vc.a2 ?_
  rw[hlen];refine HN (z:=(s,0)) hl (Nat.le_refl _) h λw h=>?_;rw[e]at h;exact hK _ h.sub
theorem Fh{p s:Slot}{K:O->Pw}(hT:ph T)(hl:T.length<1000000)(h:Ow B w0 w (cB b T::R))(hK:∀w',Ow B w0 w' (cB b (yE T p s).2::R)->K (yE T p s).1 w'):W6 b.o p.1 p.2 s.1 s.2 K w:=by
 apply ady;obtain⟨sl,dd,h⟩:=h.ref;unfold yE at hK;refine h.a λc w1 h=>?_;refine h.a λc1 w2 h=>?_
 (refine h.aN U ?_)
 refine ki (R:=aa c1 [.z s.1,.z s.2]::aa c [.z p.1,.z p.2]::R) (s:=sl) (d:=dd) (x:=p) hT h.sub λw h=>?_;cases hp:bz T p with
 |none=>
  rw[hp]at hK;refine az qb ?_;exact hK _ (Ow.jk (s:=sl) (d:=dd) h.sub)
 |some i=>
  obtain⟨x,hx,hxp⟩:=dA hp;have hr:=hT.zT hx;have hi:=(Om.1 hx).1;rw[hp]at hK;refine aw (by show ¬(i:O)<0;omega) ?_
  (refine h.aN U ?_)
  refine ki (x:=s) hT h λw h=>?_;cases hs:bz T s with
  |some j=>
   simp only[hs]at hK;refine az (by show(j:O)>=0;omega) ?_;exact hK _ (Ow.jk (s:=sl) (d:=dd) h.sub)
  |none=>
   simp only[hs]at hK;refine aw qb ?_;repeat first|refine h.dr λw h=>?_|refine h.aN U ?_|refine h.l1 U ?_|refine eX ?_
   refine h.bX (s:=dd) U (rk hx) λa ha h0 hc=>⟨_,h0 _ U,?_⟩
   rw[show qd.wrap (x.2+1)=vh T i+1 from by rw[gM hx,wr om om]]
   (refine _root_.Go.Vc.a2 ?_)
   show TK _ (qd.wrap ((i:O)+1)) _ _ _ _ _;rw[wI i om];have e:ue T (i+1) (s,vh T i+1)=T.take (i+1)++ [(s,vh T i+1)]++T.drop (i+1):=by unfold ue;simp
   refine HN (z:=(s,vh T i+1)) hl om h λw h=>?_;rw[e]at h;exact hK _ h.sub
theorem CV{f t:Slot}{K:O->Pw}(hT:ph T)(h:Ow B w0 w (cB b T::R))(hK:∀w',Ow B w0 w' (cB b (dW T f t).2::R)->K (dW T f t).1 w'):Wm b.o f.1 f.2 t.1 t.2 K w:=by
 apply adu;obtain⟨sl,dd,h⟩:=h.ref;unfold dW at hK;refine h.a λc w1 h=>?_;refine h.a λc1 w2 h=>?_
 (refine h.aN U ?_)
 refine ki (R:=aa c1 [.z t.1,.z t.2]::aa c [.z f.1,.z f.2]::R) (s:=sl) (d:=dd) (x:=f) hT h.sub λw h=>?_;cases hp:bz T f with
 |none=>
  rw[hp]at hK;refine az qb ?_;exact hK _ (Ow.jk (s:=sl) (d:=dd) h.sub)
 |some i=>
  obtain⟨x,hx,hxp⟩:=dA hp;have hi:=(Om.1 hx).1;rw[hp]at hK;refine aw (by show ¬(i:O)<0;omega) ?_
  (refine h.aN U ?_)
  refine ki (x:=t) hT h λw h=>?_;cases hs:bz T t with
  |some j=>
   simp only[hs]at hK;refine az (by show(j:O)>=0;omega) ?_;exact hK _ (Ow.jk (s:=sl) (d:=dd) h.sub)
  |none=>
   simp only[hs]at hK;refine aw qb ?_;repeat first|refine h.dr λw h=>?_|refine h.aN U ?_|refine h.l1 U ?_|refine eX ?_
   refine h.bX (s:=sl) (j:=i) U (uK hx) λa ha h0 hc=>Go.Vc.a2 ?_;refine Ow.rW (s:=sl) (E:=aI) (xs:=kY T) (i:=(i:O)) (j:=i) h t U (by rw[fZ];exact hi) ha λw h=>?_;have e1:(kY T).set i t=kY (T.set i (t,vh T i)):=by unfold kY;rw[List.map_set]
   have e2:mu T=mu (T.set i (t,vh T i)):=by
    apply List.ext_getElem?;intro j;unfold mu;rw[OX,OX,List.getElem?_set];by_cases e:i=j
    .subst e;rw[A U,A hi,hx,gM hx];rfl
    .rw[Q e]
   rw[e1,e2]at h;exact hK _ (Ow.jk (s:=sl) (d:=dd) h.sub)
theorem EH{α:Type}(E:dF α)(xs:J α)(p q:X)(hp:p<=q)(hq:q<=xs.length):((xs.flatMap E.enc).take (q*E.z)).drop (p*E.z)=((xs.drop p).take (q-p)).flatMap E.enc:=by
 have h1:xs.flatMap E.enc=(xs.take q).flatMap E.enc++(xs.drop q).flatMap E.enc:=by rw[<-Pd,List.take_append_drop]
 have h2:((xs.take q).flatMap E.enc).length=q*E.z:=by rw[aK,OO,Pv hq]
 rw[h1,<-h2,List.take_left];have h3:xs.take q=xs.take p++(xs.drop p).take (q-p):=by rw[<-List.take_add,show p+(q-p)=q from by omega]
 have h4:((xs.take p).flatMap E.enc).length=p*E.z:=by rw[aK,OO,Pv om]
 rw[h3,Pd,<-h4,List.drop_left]
theorem Jk{T:Tr}{j e:X}(hj:j<T.length)(he:j<e)(hel:e<=T.length):
  (∀r,r<j->(T.take j++(eZ ((T.drop (j+1)).take (e-(j+1)))++T.drop e))[r]?=T[r]?)/\
  (∀r,j<r->r<e->(T.take j++(eZ ((T.drop (j+1)).take (e-(j+1)))++T.drop e))[r-1]?=T[r]?.map λx=>(x.1,x.2-1))/\
  (∀r,e<=r->(T.take j++(eZ ((T.drop (j+1)).take (e-(j+1)))++T.drop e))[r-1]?=T[r]?):=by
 have h1:(T.take j).length=j:=by simp;omega
 have h2:(eZ ((T.drop (j+1)).take (e-(j+1)))).length=e-(j+1):=by unfold eZ;simp;omega
 refine⟨λr hr=>?_,λr hr1 hr2=>?_,λr hr=>?_⟩
 .rw[Oy om,OM,A hr]
 .rw[OA om,h1,Oy om]
  unfold eZ;rw[OX,OM,A om,OP,show j+1+(r-1-j)=r from by omega]
 .rw[OA om,h1,OA om,h2,OP,show e+(r-1-j-(e-(j+1)))=r from by omega]
theorem C1{s:Slot}{K:O->Pw}(hT:ph T)(h:Ow B w0 w (cB b T::R))(hK:∀w',Ow B w0 w' (cB b (takeN T s).2::R)->K (takeN T s).1 w'):W7 b.o s.1 s.2 K w:=by
 apply adz;obtain⟨sl,dd,h⟩:=h.ref;have hlen:=h.aL sl;rw[fZ]at hlen;have hfew:=hT.fh;refine h.a λc w1 h=>?_
 (refine h.aN U ?_)
 refine ki (R:=aa c [.z s.1,.z s.2]::R) (s:=sl) (d:=dd) (x:=s) hT h.sub λw h=>?_;unfold takeN at hK;cases hp:bz T s with
 |none=>
  rw[hp]at hK;refine az qb ?_;exact hK _ (Ow.jk (s:=sl) (d:=dd) h.sub)
 |some i=>
  obtain⟨x,hx,hxp⟩:=dA hp;have hi:=(Om.1 hx).1;obtain⟨he,hel⟩:=sA T hi;rw[hp]at hK;simp only at hK;refine aw (by show ¬(i:O)<0;omega) ?_;refine C8 hT hi h λw h=>?_;obtain⟨g1,g2,g3⟩:=Jk hi he hel;have hpl:(T.take i++(eZ ((T.drop (i+1)).take (dN T i-(i+1)))++T.drop (dN T i))).length+1=T.length:=by unfold eZ;simp;omega
  generalize dN T i=e at*
  generalize T.take i++(eZ ((T.drop (i+1)).take (e-(i+1)))++T.drop e)=T' at*
  refine h.a λc1 w2 h=>?_;refine h.a λc2 w3 h=>?_;have h:Ow B w0 w3 (af aB ⟨S c2.p,0,0⟩ []::_):=h.empty;have h:Ow B w0 w3 (af aI ⟨S c1.p,0,0⟩ []::_):=h.cw.empty;intro l hlp;have loop:∀(m k:X)(l1 d1:Sl)(w:Y),k+m=T.length->Ow B w0 w (af aI l1 (kY (T'.take (if k<=i then k else k-1)))::af aB d1 (mu (T'.take (if k<=i then k else k-1)))::af aI sl (kY T)::af aB dd (mu T)::aa b [bL sl,bL dd]::R)->l l1 d1 (k:O) w:=by
   intro m;induction m with
   |zero=>
    intro k l1 d1 w hk h;rw[Q (show ¬k<=i by omega),Ou om]at h;apply hlp;repeat first|refine h.l1 U ?_|refine eX ?_
    refine aw om ?_;repeat first|refine eX ?_|refine h.jx U U λw h=>?_
    exact hK _ (Ow.jk (s:=l1) (d:=d1) h.sub)
   |succ m ih=>
    intro k l1 d1 w hk h;have hwk:qd.wrap ((k:O)+1)=((k+1:X):O):=by rw[wr om om];omega
    obtain⟨y,hy⟩:∃y,T[k]?=S y:=⟨_,gE om⟩
    have hry:=hT.zT hy;apply hlp;repeat first|refine h.l1 U ?_|refine eX ?_
    refine az om ?_;refine dK (λe0=>?_) (λe0=>?_)
    .have e0:(k:O)=(i:O):=e0
     have e1:(if k+1<=i then k+1 else k+1-1)=(if k<=i then k else k-1):=by rw[Q om,A om];omega
     rw[hwk];refine ih (k+1) l1 d1 w om ?_;rw[e1];exact h
    .have e0:¬(k:O)=(i:O):=e0
     have hnext:(if k+1<=i then k+1 else k+1-1)=(if k<=i then k else k-1)+1:=by split<;>split<;>omega
     have hib:(if k<=i then k else k-1)<=1000001:=by split<;>omega
     have hy':T'[if k<=i then k else k-1]?=S (y.1,if i<k/\k<e then y.2-1 else y.2):=by
      by_cases h1:k<i
      .rw[A om,g1 k h1,hy,Q om]
      .rw[Q om]
       by_cases h2:k<e
       .rw[g2 k om h2,hy,A ⟨om,h2⟩];rfl
       .rw[g3 k om,hy,Q om]
     generalize hE2:(if k<=i then k else k-1)=e2 at*
     repeat first|refine h.l1 U ?_|refine eX ?_
     refine h.bX (s:=dd) U (rk hy) λa ha h0 hc=>⟨_,h0 _ U,?_⟩
     have fin:∀(dp:O)(w:Y),dp=(if i<k/\k<e then y.2-1 else y.2)->Ow B w0 w (af aI l1 (kY (T'.take e2))::af aB d1 (mu (T'.take e2))::af aI sl (kY T)::af aB dd (mu T)::aa b [bL sl,bL dd]::R)->G:=λ_ _ _ _=>trivial;intro k24 hk24;have third:∀(t:W)(w:Y),t=F (i<k/\k<e)->Ow B w0 w (af aI l1 (kY (T'.take e2))::af aB d1 (mu (T'.take e2))::af aI sl (kY T)::af aB dd (mu T)::aa b [bL sl,bL dd]::R)->k24 t w:=by
      intro t w ht h;apply hk24;intro k27 hk27;have four:∀(dp:O)(w:Y),dp=(if i<k/\k<e then y.2-1 else y.2)->Ow B w0 w (af aI l1 (kY (T'.take e2))::af aB d1 (mu (T'.take e2))::af aI sl (kY T)::af aB dd (mu T)::aa b [bL sl,bL dd]::R)->k27 dp w:=by
       intro dp w hdp h;apply hk27;repeat first|refine h.l1 U ?_|refine eX ?_
       refine h.bX (s:=sl) U (uK hy) λa ha h0 hc=>?_;refine kL (x:=y.1) hc ?_;refine h.al λw1 h=>?_;refine jA (ys:=kY (T'.take e2)) (y:=y.1) h (by rw[fZ];simp;omega) λl3 w hl3 h=>?_;refine h.al λw1 h=>?_;refine eQ (ys:=mu (T'.take e2)) (y:=dp) h (by rw[yQ];simp;omega) λd3 w hd3 h=>?_;have q1:=we hy';have q2:=vj hy';simp only at q1 q2;rw[q1,hdp,q2,<-hnext]at h;rw[hwk];exact ih (k+1) l3 d3 w om h.sub
      by_cases hc:i<k/\k<e
      .rw[ht,qm hc]
       refine aU U ?_;rw[wr (show -9223372036854775808<=y.2-1 by omega) om];exact four _ w (by rw[A hc]) h
      .rw[ht,qk hc]
       refine aW U ?_;exact four _ w (by rw[Q hc]) h
     refine bg (λe3=>?_) (λe3=>?_)
     .have e3:(k:O)>(i:O):=e3
      refine third _ w ?_ h;by_cases hke:k<e
      .rw[qm (show i<k/\k<e by omega),qm (show(k:O)<(e:O) by omega)]
      .rw[qk (show ¬(i<k/\k<e) by omega),qk (show ¬(k:O)<(e:O) by omega)]
     .have e3:¬(k:O)>(i:O):=e3
      exact third _ w (qk (show ¬(i<k/\k<e) by omega)).symm h
  refine loop T.length 0 _ _ w3 om ?_;have q0:kY (T'.take 0)= []:=rfl;have q1:mu (T'.take 0)= []:=rfl;rw[A om,q0,q1];exact h.sub
theorem Lp{s x:Sl}{xs ys:J Slot}{k:Sl->Pw}(h:Ow B w0 w (af aI s xs::R))(hx:lf aI.z w x (ys.flatMap aI.enc))(hxl:x.len=ys.length)(hbig:xs.length+ys.length<=1000000000)
  (hk:∀s' w',s'.len=xs.length+ys.length->Ow B w0 w' (af aI s' (xs++ys)::R)->k s' w'):
  ∃s' w',aP qe [124,124] 124 s.v x.v w s' w'/\k s' w':=
 Ow.app (E:=aI) qX (show qe.info? 155=S qS from by kernel_rfl) (zv:= .agg ⟨aI.enc (0,0)⟩) qa qa U qb h 0 U hx hxl (by
  have e:qS.bytes=16:=qa
  rw[e];omega) hk
theorem Bq{s:Slot}{K:Sl->Pw}(hT:ph T)(h:Ow B w0 w (cB b T::R))(hK:∀s' w',Ow B w0 w' (af aI s' (cq T s)::cB b T::R)->K s' w'):Wn b.o s.1 s.2 K w:=by
 apply adv;obtain⟨sl,dd,h⟩:=h.ref;have hlen:=h.aL sl;rw[fZ]at hlen;have hfew:=hT.fh;have hcap:=h.kG.fK;refine h.a λc w1 h=>?_
 (refine h.aN U ?_)
 refine ki (R:=aa c [.z s.1,.z s.2]::R) (s:=sl) (d:=dd) (x:=s) hT h.sub λw h=>?_;cases hp:bz T s with
 |none=>
  have hun:cq T s= []:=by unfold cq;rw[hp]
  rw[hun]at hK;refine az qb ?_;have h2:Ow B w0 w (cB b T::R):=Ow.jk (s:=sl) (d:=dd) h.sub;exact hK _ w (Ow.cH h2)
 |some i=>
  obtain⟨x,hx,hxp⟩:=dA hp;have hi:=(Om.1 hx).1;obtain⟨e1,e2⟩:=sA T hi;have hun:cq T s=((kY T).drop (i+1)).take (dN T i-(i+1)):=by unfold cq kY;rw[hp,<-List.map_drop,<-List.map_take]
  have hul:(cq T s).length=dN T i-(i+1):=by rw[hun];simp[fZ];omega
  have ew:qd.wrap ((i:O)+1)=((i+1:X):O):=by rw[wr om om];omega
  have fin:∀(w:Y)(d0:X),Ow B w0 w (af aI ⟨S d0.p,0,0⟩ []::af aI sl (kY T)::af aB dd (mu T)::aa b [bL sl,bL dd]::R)->
    ∃(t:Sl)(w':Y),aP qe [124,124] 124 (.slice (S d0.p) 0 0) (.slice (eH sl.a (i+1) sl.cap 2) (dN T i-(i+1)) (sl.cap-(i+1))) w t w'/\K t w':=λw d0 h=>by
   have hs:=(h.wN 1 U).sub (l:=i+1) (hh:=dN T i) om om;rw[EH aI (kY T) _ _ om (by rw[fZ];exact e2),<-hun]at hs;refine Lp (s:=⟨S d0.p,0,0⟩) (xs:=[]) (ys:=cq T s) (x:=⟨eH sl.a (i+1) sl.cap 2,dN T i-(i+1),sl.cap-(i+1)⟩) h hs hul.symm (by simp;omega) λs' w hs' h=>?_;rw[List.nil_append]at h;have h2:Ow B w0 w (cB b T::af aI s' (cq T s)::R):=Ow.jk (s:=sl) (d:=dd) h.sub;exact hK _ _ h2.cw
  refine aw (by show ¬(i:O)<0;omega) ?_;dsimp only;rw[ew];simp only[Int.toNat_natCast];have h:Ow B w0 w (af aI sl (kY T)::af aB dd (mu T)::aa b [bL sl,bL dd]::R):=h.sub;repeat first|refine h.dr λw h=>?_|refine h.l1 U ?_|refine eX ?_
  refine⟨?_,Go.Vc.a2 ?_⟩
  .refine h.a λd0 w3 h=>?_;have h:Ow B w0 w3 (af aI ⟨S d0.p,0,0⟩ []::_):=h.empty;refine Go.Vc.a2 ?_;refine C8 (R:=af aI ⟨S d0.p,0,0⟩ []::R) (s:=sl) (d:=dd) hT hi h.sub λw h=>?_
   exact⟨h.aF U,om,om,om,om,Go.Vc.a2 (fin w d0 h.sub)⟩
  .refine C8 hT hi h λw h=>?_
   refine⟨h.aF U,om,om,om,om,Go.Vc.a2 (h.a λd0 w3 h=>?_)⟩;have h:Ow B w0 w3 (af aI ⟨S d0.p,0,0⟩ []::_):=h.empty;refine Go.Vc.a2 ?_;exact fin w3 d0 h
end
end Tr
theorem adB{a b K w}:Fr (SV a b K w) (bif (a.len:O) !=(b.len:O)then K Z w else ∀c:O->Pw,(∀(d:O)(e:Y),(bif F (d<(a.len:O))then Dr e λf=>∃g,a.a=S g/\0<=d/\d<(a.len:O)/\av f (g.add (d.toNat*3)) 0 [.o,.o,.o] λ(a g h:O)=>∃i,b.a=S i/\0<=d/\d<(b.len:O)/\av f (i.add (d.toNat*3)) 0 [.o,.o,.o] λ(b i j:O)=>∃k,B8 qe .neq 204 (.tmp 20) (.tmp 24) (.agg #[.z a,.z g,.z h]) (.agg #[.z b,.z i,.z j]) k/\bif k then K Z f else c (qd.wrap (d+1)) f else K V e)->c d e)->c 0 w):=ai func25 .g4
theorem adC{a K w}:Fr (R8 a K w) (A2 w [] 204 λb c=>∀d:Sl->O->Pw,(∀(b:Sl)(c:O)(e:Y),(∀f:W->Pw,(∀(e:W)(g:Y),(bif e then ∀e:Sl->O->Pw,(∀(b:Sl)(f:O)(g:Y),(∃h,a=S h/\∃i,g.s (h.add 1) i/\bif F (f<(i.len:O))then ∃h,a=S h/\∃i,g.s (h.add 1) i/\∃h,i.a=S h/\0<=f/\f<(i.len:O)/\∃i,g.z (h.add (f.toNat*3)) i/\bif i==c then ∃h,a=S h/\∃a,g.s (h.add 1) a/\∃h,a.a=S h/\0<=f/\f<(a.len:O)/\av g (h.add (f.toNat*3)) 0 [.o,.o,.o] λ(a h i:O)=>A2 g [.z a,.z h,.z i] 204 λa h=>∃i j,aP qe [81,81] 81 b.v (.slice (S a.p) 1 1) h i j/\e i (qd.wrap (f+1)) j else e b (qd.wrap (f+1)) g else d b (qd.wrap (c+1)) g)->e b f g)->e b 0 g else K b g)->f e g)->(bif F (c<4096)then ∃c,a=S c/\∃a,e.s (c.add 1) a/\f (F ((b.len:O)<(a.len:O))) e else f Z e))->d b c e)->d ⟨S b.p,0,0⟩ 0 c):=ai func27 (.v (.v (.y (.v (.x (.t (S [(3,.c .s),(4,.c (.i .i64))]) (.y (.y .MS .w) .g24) .u))) .w)))
theorem adD{a b c K w}:Fr (Wu a b c K w) (∀d:W->Pw,(∀(e:W)(f:Y),(bif e then K 1 f else ∀d:O->Pw,(∀(e:O)(f:Y),(∃g,a=S g/\∃h,f.s g h/\bif F (e<(h.len:O))then ∀g:W->Pw,(∀(a:W)(b:Y),(bif a then K 140 b else d (qd.wrap (e+1)) b)->g a b)->(∃d,a=S d/\∃h,f.s d h/\∃d,h.a=S d/\0<=e/\e<(h.len:O)/\∃h,f.z (d.add (e.toNat*2)) h/\bif h==b then g V f else ∃b,a=S b/\∃a,f.s b a/\∃b,a.a=S b/\0<=e/\e<(a.len:O)/\∃a,f.z ((b.add (e.toNat*2)).add 1) a/\g (a==c) f)else ∃d,a=S d/\∃e,f.s d e/\A2 f [.z b,.z c] 410 λb c=>∃d f,aP qe [127,127] 127 e.v (.slice (S b.p) 1 1) c d f/\∃b,a=S b/\St f b d.v λa=>K 0 a)->d e f)->d 0 f)->d e f)->(bif F (b<0)then d V w else bif F (b>63)then d V w else d (F (c<0)) w)):=ai func186 (.v (.y .MF (.y (.v (.x (.t (S [(7,.c (.i .i64))]) (.y (.v .w) (.x (.x (.y (.r (S [(48,.c .b)]) .done) (.x .w))))) .u))) (.v .w))))
theorem adE{a b c d K w}:Fr (Wv a b c d K w) (A2 w [.z c,.z d] 70 λc d=>∀e:W->Pw,(∀(d:W)(f:Y),(bif d then K 1 f else(64:O)≠0/\TW a (qd.wrap (b.tdiv 64)) (λ_ d e=>bif !d then K 141 e else UM a b (λd e=>bif F (d>=0)then K 140 e else Dr e λd=>∃e,a=S e/\∃f,d.s (e.add 1) f/\av d c.p 0 [.o,.o] λ(c e:O)=>(A2 d [.z b,.z c,.z e] 204 λb c=>(∃d e,aP qe [81,81] 81 f.v (.slice (S b.p) 1 1) c d e/\∃b,a=S b/\(St e (b.add 1) d.v λa=>K 0 a)/\G)/\G)/\G) e) f)->e d f)->(bif F (b<0)then e V d else bif F (b>4095)then e V d else ∃a,d.z c.p a/\bif F (a<0)then e V d else ∃a,d.z (c.p.add 1) a/\bif F (a<0)then e V d else ∃a,d.z (c.p.add 1) a/\e (F (a>7)) d)):=ai func187 (.v (.y (.y (.r (S [(29,.c .b)]) .done) (.x .w)) (.v (.y (.v (.x .w)) (.y (.v (.x .w)) (.y .g14 .w))))))
theorem adF{a b K w}:Fr (To a b K w) (A2 w [.z 0,.z 0] 70 λc d=>∀e:W->Pw,(∀(d:W)(f:Y),(bif d then aD f c.p 0 [.z 0,.z 0] λd=>av d c.p 0 [.o,.o] λ(e g:O)=>K e g 1 d else UM a b (λb d=>A2 d [] 204 λd e=>bif F (b<0)then aD e c.p 0 [.z 0,.z 0] λf=>av f c.p 0 [.o,.o] λ(g h:O)=>K g h 141 f else ∃f,a=S f/\∃g,e.s (f.add 1) g/\∃f,g.a=S f/\0<=b/\b<(g.len:O)/\av e ((f.add (b.toNat*3)).add 1) 0 [.o,.o] λ(f g:O)=>A2 e [.z 0,.z 0] 70 λe h=>aD h e.p 0 [.z f,.z g] λf=>∀g:Sl->O->Pw,(∀(d:Sl)(f:O)(h:Y),(∃i,a=S i/\∃j,h.s (i.add 1) j/\bif F (f<(j.len:O))then bif f !=b then ∃b,a=S b/\∃i,h.s (b.add 1) i/\∃b,i.a=S b/\0<=f/\f<(i.len:O)/\av h (b.add (f.toNat*3)) 0 [.o,.o,.o] λ(b i j:O)=>A2 h [.z b,.z i,.z j] 204 λb i=>∃j k,aP qe [81,81] 81 d.v (.slice (S b.p) 1 1) i j k/\g j (qd.wrap (f+1)) k else g d (qd.wrap (f+1)) h else ∃b,a=S b/\St h (b.add 1) d.v λa=>av a e.p 0 [.o,.o] λ(b d:O)=>aD a c.p 0 [.z b,.z d] λa=>av a c.p 0 [.o,.o] λ(b c:O)=>K b c 0 a)->g d f h)->g ⟨S d.p,0,0⟩ 0 f) f)->e d f)->(bif F (b<0)then e V d else e (F (b>4095)) d)):=ai func188 (.v (.y (.y (.r (S [(15,.c .b)]) .done) (.x .w)) (.v (.y (.v (.x .w)) (.v (.y (.v (.x (.t (S [(7,.c .s),(9,.c (.i .i64))]) .J6 .u))) (.v .w)))))))
theorem adG{a b K w}:Fr (W9 a b K w) (R8 a (λa c=>A2 c [] 3 λc d=>∀e:Sl->O->Pw,(∀(c:Sl)(d:O)(f:Y),(bif F (d<(a.len:O))then ∃g,a.a=S g/\0<=d/\d<(a.len:O)/\∃h,f.z ((g.add (d.toNat*3)).add 1) h/\bif h==b then ∃b,a.a=S b/\0<=d/\d<(a.len:O)/\∃a,f.z (b.add (d.toNat*3)) a/\A2 f [.z a] 3 λa b=>∃g h,aP qe [22,22] 22 c.v (.slice (S a.p) 1 1) b g h/\e g (qd.wrap (d+1)) h else e c (qd.wrap (d+1)) f else K c f)->e c d f)->e ⟨S c.p,0,0⟩ 0 d) w):=ai func284 (.v (.v (.y (.v (.x (.t (S [(6,.c .s),(7,.c (.i .i64))]) .J6 .u))) .w)))
theorem adH{a b K w}:Fr (TW a b K w) (∀c:O->Pw,(∀(d:O)(e:Y),(∃f,a=S f/\∃g,e.s f g/\bif F (d<(g.len:O))then ∃f,a=S f/\∃g,e.s f g/\∃f,g.a=S f/\0<=d/\d<(g.len:O)/\∃g,e.z (f.add (d.toNat*2)) g/\bif g==b then ∃b,a=S b/\∃a,e.s b a/\∃b,a.a=S b/\0<=d/\d<(a.len:O)/\∃a,e.z ((b.add (d.toNat*2)).add 1) a/\K a V e else c (qd.wrap (d+1)) e else K 0 Z e)->c d e)->c 0 w):=ai func285 .Nu
theorem adI{a b K w}:Fr (Xa a b K w) (∀c:W->Pw,(∀(d:W)(e:Y),(bif d then K z0 1 e else TW a b (λ_ c d=>bif !c then K z0 141 d else R8 a (λc d=>A2 d [] 204 λd e=>A2 e [] 204 λe f=>A2 f [] 410 λf g=>∀h:Sl->Sl->O->Pw,(∀(d e:Sl)(g:O)(i:Y),(bif F (g<(c.len:O))then ∃j,c.a=S j/\0<=g/\g<(c.len:O)/\∃k,i.z (j.add (g.toNat*3)) k/\(64:O)≠0/\bif (qd.wrap (k.tdiv 64))==b then ∃j,c.a=S j/\0<=g/\g<(c.len:O)/\av i (j.add (g.toNat*3)) 0 [.o,.o,.o] λ(j k l:O)=>A2 i [.z j,.z k,.z l] 204 λj k=>∃l m,aP qe [81,81] 81 d.v (.slice (S j.p) 1 1) k l m/\h l e (qd.wrap (g+1)) m else ∃j,c.a=S j/\0<=g/\g<(c.len:O)/\av i (j.add (g.toNat*3)) 0 [.o,.o,.o] λ(c j k:O)=>A2 i [.z c,.z j,.z k] 204 λc j=>∃k l,aP qe [81,81] 81 e.v (.slice (S c.p) 1 1) j k l/\h d k (qd.wrap (g+1)) l else ∀c:Sl->O->Pw,(∀(f:Sl)(g:O)(h:Y),(∃i,a=S i/\∃j,h.s i j/\bif F (g<(j.len:O))then ∃i,a=S i/\∃j,h.s i j/\∃i,j.a=S i/\0<=g/\g<(j.len:O)/\∃j,h.z (i.add (g.toNat*2)) j/\bif j !=b then ∃b,a=S b/\∃i,h.s b i/\∃b,i.a=S b/\0<=g/\g<(i.len:O)/\av h (b.add (g.toNat*2)) 0 [.o,.o] λ(b i:O)=>A2 h [.z b,.z i] 410 λb i=>∃j k,aP qe [127,127] 127 f.v (.slice (S b.p) 1 1) i j k/\c j (qd.wrap (g+1)) k else c f (qd.wrap (g+1)) h else ∃b,a=S b/\St h (b.add 1) e.v λb=>∃c,a=S c/\St b c f.v λa=>K d 0 a)->c f g h)->c ⟨S f.p,0,0⟩ 0 i)->h d e g i)->h ⟨S d.p,0,0⟩ ⟨S e.p,0,0⟩ 0 g) d) e)->c d e)->(bif F (b<0)then c V w else c (F (b>63)) w)):=ai func286 (.v (.y .Mb (.v (.y (.v (.x .w)) (.v (.y (.v (.x (.t (S [(9,.c .s),(10,.c .s),(12,.c (.i .i64))]) .J6 .u))) (.y (.v (.x (.t (S [(11,.c .s),(13,.c (.i .i64))]) .J6 .u))) (.v (.v .w)))))))))
theorem adJ{a b K w}:Fr (UM a b K w) (∀c:O->Pw,(∀(d:O)(e:Y),(∃f,a=S f/\∃g,e.s (f.add 1) g/\bif F (d<(g.len:O))then ∃f,a=S f/\∃a,e.s (f.add 1) a/\∃f,a.a=S f/\0<=d/\d<(a.len:O)/\∃a,e.z (f.add (d.toNat*3)) a/\bif a==b then K d e else c (qd.wrap (d+1)) e else K (-1) e)->c d e)->c 0 w):=ai func292 (.v (.y .NC .w))
theorem adK{a b c d K w}:Fr (Vk a b c d K w) (A2 w [.z a,.z b,.z c,d.v] 24 λa b=>∀c:W->Pw,(∀(b:W)(d:Y),(bif b then K I 1 d else ∀b:O->Pw,(∀(c:O)(d:Y),(∃e,d.s (a.p.add 3) e/\bif F (c<(e.len:O))then ∀e:W->Pw,(∀(a:W)(d:Y),(bif a then K I 1 d else b (qd.wrap (c+1)) d)->e a d)->(∃b,d.s (a.p.add 3) b/\∃f,b.a=S f/\0<=c/\c<(b.len:O)/\∃b,d.z (f.add (c.toNat*1)) b/\bif F (b<0)then e V d else ∃b,d.s (a.p.add 3) b/\∃a,b.a=S a/\0<=c/\c<(b.len:O)/\∃b,d.z (a.add (c.toNat*1)) b/\e (F (b>255)) d)else ∃b,d.z a.p b/\Vv b (λb _ c=>Vw 8 (λc _ d=>A2 d [.slice I 0 0] 123 λd e=>A2 e [.slice I 0 0,.slice I 0 0] 126 λe f=>∃g,f.z (a.p.add 1) g/\A2 f [.y 0,.z g,.y 0] 98 λf g=>A2 g [.slice I 0 0,.slice I 0 0] 129 λg h=>A2 h [.pointer (S g.p)] 83 λg h=>A2 h [.pointer (S d.p),.pointer (S e.p),.pointer b,.pointer c,.slice (S f.p) 1 1,.slice I 0 0,.slice I 0 0,.slice (S g.p) 1 1,.z 0,.z 0,.z 0,.y 0,.z 0,.slice I 0 0] 57 λb c=>∃d,S b.p=S d/\∃e,c.q d e/\Uf e 6 (λ_ _ c=>Sv (S b.p) 2 0 (λc=>Sv (S b.p) 1 0 (λc=>∀d:O->Pw,(∀(c:O)(e:Y),(∃f,e.z a.p f/\bif F (c<f)then Dr e λf=>∃g,S b.p=S g/\∃h,f.q (g.add 2) h/\∃g,f.s (a.p.add 3) g/\∃i,g.a=S i/\0<=c/\c<(g.len:O)/\∃g,f.z (i.add (c.toNat*1)) g/\(Ug h g c (λ_ _ a=>∃e,S b.p=S e/\∃f,a.q (e.add 2) f/\Tx f c (λ_ a=>∃e,S b.p=S e/\∃f,a.q (e.add 2) f/\S8 f c (λ_ _ a=>Sv (S b.p) 3 c (λa=>d (qd.wrap (c+1)) a) a) a) a) f)/\G else Sv (S b.p) 8 0 (λc=>∀d:O->Pw,(∀(c:O)(e:Y),(∃f,e.z (a.p.add 2) f/\bif F (c<f)then Sv (S b.p) 9 c (λa=>d (qd.wrap (c+1)) a) e else K (S b.p) 0 e)->d c e)->d 0 c) e)->d c e)->d 0 c) c) c) c) c) d)->b c d)->b 0 d)->c b d)->(∃d,b.z a.p d/\bif F (d<1)then c V b else ∃d,b.z a.p d/\bif F (d>8)then c V b else ∃d,b.z (a.p.add 1) d/\bif F (d<4)then c V b else ∃d,b.z (a.p.add 1) d/\bif F (d>20)then c V b else ∃d,b.z (a.p.add 2) d/\bif F (d<0)then c V b else ∃d,b.z (a.p.add 2) d/\bif F (d>8)then c V b else ∃d,b.s (a.p.add 3) d/\∃e,b.z a.p e/\c ((d.len:O) !=e) b)):=ai func8 (.v (.y (.y (.r (S [(47,.c .b)]) .done) (.x .w)) (.y (.v (.x (.t (S [(4,.c (.i .i64))]) (.y (.v .w) (.x (.x (.y (.r (S [(68,.c .b)]) .done) (.x .w))))) .u))) (.v (.v (.v (.v (.v (.v (.y (.v (.x (.t (S [(10,.c (.i .i64))]) (.y (.v .w) (.x (.x (.y (.z (.o 0 1008 (.o 1 1008 (.o 2 1008 (.o 3 1008 (.o 4 576 (.o 5 576 (.o 6 512 (.o 7 512 (.o 8 512 (.o 9 0 (.e 10 .done)))))))))))) (.v .w))))) .u))) (.v (.y (.v (.x (.t (S [(11,.c (.i .i64))]) (.y (.v .w) (.x .w)) .u))) .w))))))))))))
theorem adL{a b c d e f g h K w}:Fr (Vm a b c d e f g h K w) (A2 w [.z a,.y b,.z c,d.v] 42 λa b=>A2 b [.z e,.y f,.z g,h.v] 42 λb c=>∃d,c.z a.p d/\∃e,c.z b.p e/\bif d==e then ∃d,c.y (a.p.add 1) d/\∃e,c.y (b.p.add 1) e/\bif d==e then ∃d,c.z (a.p.add 2) d/\∃e,c.z (b.p.add 2) e/\bif d==e then ∃d,c.s (a.p.add 3) d/\∃a,c.s (b.p.add 3) a/\VB d a (λa b=>K a b) c else K Z c else K Z c else K Z c):=ai func11 (.v .w)
theorem adM{a b c d e f g h K w}:Fr (T9 a b c d e f g h K w) (A2 w [.z c,.z d,.z e,.z f,.z g,.z h] 36 λc d=>A2 d [.z 0,.y 0,.z 0,.slice I 0 0] 42 λd e=>∃f,a=S f/\aD e (f.add 10) 0 [.z 0,.y 0,.z (-1),.slice I 0 0] λe=>∃f,a=S f/\∃g,e.q (f.add 2) g/\S8 g b (λe f g=>bif !f then aD g d.p 0 [.z 182,.y 0,.z (-1),.slice I 0 0] λf=>av f d.p 0 [.o,.u,.o,.s] λ(h i j:O)(k:Sl)=>K h i j k f else ∀f:W->Pw,(∀(g:W)(h:Y),(bif g then aD h d.p 0 [.z 180,.y 0,.z (-1),.slice I 0 0] λf=>av f d.p 0 [.o,.u,.o,.s] λ(g i j:O)(k:Sl)=>K g i j k f else ∃f,h.z c.p f/\bif f==17 then ∃f,a=S f/\∃g,h.q (f.add 2) g/\Ty g b (λ_ b=>∃c,a=S c/\av b (c.add 10) 0 [.o,.u,.o,.s] λ(a c e:O)(f:Sl)=>aD b d.p 0 [.z a,.y c,.z e,f.v] λa=>av a d.p 0 [.o,.u,.o,.s] λ(b c d:O)(e:Sl)=>K b c d e a) h else av h c.p 0 [.o,.o,.o,.o,.o,.o] λ(f g i j k l:O)=>VC a f g i j k l (λf g=>bif !f then aD g d.p 0 [.z 181,.y 0,.z (-1),.slice I 0 0] λf=>av f d.p 0 [.o,.u,.o,.s] λ(h i j:O)(k:Sl)=>K h i j k f else ∃f,g.z c.p f/\∀h:Pw,(∀b:Y,(∃c,a=S c/\av b (c.add 10) 0 [.o,.u,.o,.s] λ(a c e:O)(f:Sl)=>aD b d.p 0 [.z a,.y c,.z e,f.v] λa=>av a d.p 0 [.o,.u,.o,.s] λ(b c d:O)(e:Sl)=>K b c d e a)->h b)->(bif F (f<=4)then av g c.p 0 [.o,.o,.o,.o,.o,.o] λ(d f i j k l:O)=>VD a b d f i j k l (λb c=>∃d,a=S d/\St c (d.add 10) (.z b) λa=>h a) g else ∃d,g.z c.p d/\bif F (d<=7)then av g c.p 0 [.o,.o,.o,.o,.o,.o] λ(d f i j k l:O)=>VE a d f i j k l (λb c=>∃d,a=S d/\St c (d.add 10) (.z b) λa=>h a) g else ∃d,g.z c.p d/\bif F (d<=11)then av g c.p 0 [.o,.o,.o,.o,.o,.o] λ(d f i j k l:O)=>VF a b e d f i j k l (λb c=>∃d,a=S d/\St c (d.add 10) (.z b) λa=>h a) g else av g c.p 0 [.o,.o,.o,.o,.o,.o] λ(b c d e f i:O)=>VG a b c d e f i (λb c=>∃d,a=S d/\St c (d.add 10) (.z b) λa=>h a) g)) h)->f g h)->(∃a,g.z c.p a/\bif F (a<0)then f V g else ∃a,g.z c.p a/\f (F (a>17)) g)) e):=ai func12 (.v (.v (.v (.y (.v (.x .w)) (.y (.y (.r (S [(32,.c .b)]) .done) (.x .w)) (.y (.v (.x (.v .w))) (.y (.v (.x .w)) (.y (.v (.t (S []) .u (.v (.v (.v .w))))) .w))))))))
theorem adN{a b K w}:Fr (Vo a b K w) (∃c,a=S c/\∃d,w.q (c.add 3) d/\VI d b (λb c d e f=>bif d then Tg a b c (λa b=>K a e b) f else K (-1) e f) w):=ai func14 .Kv
theorem adO{a b c K w}:Fr (Sv a b c K w) (∃d,a=S d/\∃e,w.q (d.add 1) e/\∃d,e=S d/\∃e,w.s d e/\A2 w [.z 0,.z 0] 155 λd f=>aD f d.p 0 [.z 0,.z (e.len:O)] λe=>Dr e λe=>∃f,a=S f/\∃g,e.q f g/\av e d.p 0 [.o,.o] λ(f h:O)=>(Un g f h b c 7 0 0 0 (λ_ b=>Dr b λb=>∃c,a=S c/\∃a,b.q (c.add 1) a/\av b d.p 0 [.o,.o] λ(c d:O)=>(VY a c d (λ_ a=>K a) b)/\G) e)/\G):=ai func48 (.v (.y .g21 .Ma))
theorem adP{a b K w}:Fr (VB a b K w) (bif (a.len:O) !=(b.len:O)then K Z w else ∀c:O->Pw,(∀(d:O)(e:Y),(bif F (d<(a.len:O))then Dr e λf=>∃g,a.a=S g/\0<=d/\d<(a.len:O)/\av f (g.add (d.toNat*4)) 0 [.o,.o,.o,.o] λ(a g h i:O)=>∃j,b.a=S j/\0<=d/\d<(b.len:O)/\av f (j.add (d.toNat*4)) 0 [.o,.o,.o,.o] λ(b j k l:O)=>∃m,B8 qe .neq 289 (.tmp 20) (.tmp 24) (.agg #[.z a,.z g,.z h,.z i]) (.agg #[.z b,.z j,.z k,.z l]) m/\bif m then K Z f else c (qd.wrap (d+1)) f else K V e)->c d e)->c 0 w):=ai func68 .g4
theorem adQ{a b c d e f g K w}:Fr (VC a b c d e f g K w) (A2 w [.z b,.z c,.z d,.z e,.z f,.z g] 36 λb c=>∃d,c.z (b.p.add 1) d/\Rp a d (λa c d e f g h=>A2 h [.z 0,.z 0,.z 0,.y 0,.y 0,.z 0] 157 λh i=>aD i h.p 0 [.z a,.z c,.z d,.y e,.y f,.z g] λa=>∀c:W->Pw,(∀(a:W)(d:Y),(bif a then K Z d else ∀a:W->Pw,(∀(c:W)(d:Y),(bif c then K Z d else ∀a:W->Pw,(∀(c:W)(d:Y),(bif c then ∃a,d.z (h.p.add 2) a/\(2:O)≠0/\(2:O)≠0/\K (((qd.wrap (a.tdiv 2)).tmod 2)==1) d else ∀a:W->Pw,(∀(b:W)(c:Y),(bif b then ∃a,c.z (h.p.add 2) a/\(2:O)≠0/\K ((a.tmod 2)==1) c else K V c)->a b c)->(∃c,d.z b.p c/\bif c==9 then a V d else ∃c,d.z b.p c/\a (c==11) d))->a c d)->(∃c,d.z b.p c/\bif c==8 then a V d else ∃c,d.z b.p c/\a (c==10) d))->a c d)->(∃c,d.z b.p c/\bif c==1 then ∃b,d.z h.p b/\a (b==1) d else a Z d))->c a d)->(Dr a λa=>∃d,a.z h.p d/\bif d==0 then(((c V a)/\G)/\(c V a)/\G)/\G else ∃d,a.z b.p d/\(TC d (λa d=>bif a !=0 then ∃a,d.z b.p a/\(∃b,d.z h.p b/\(TC a (λa d=>c (b !=a) d) d)/\G)/\(TC a (λa b=>∃d,b.z h.p d/\c (d !=a) b) d)/\G else((c Z d)/\G)/\(c Z d)/\G) a)/\G)) c):=ai func70 (.v (.v (.y (.y (.r (S [(26,.c .b)]) (.o 0 0 (.o 1 0 (.o 2 0 (.o 3 0 (.o 4 0 (.o 5 0 (.e 6 (.o 7 0 (.o 8 0 (.o 9 14336 (.o 11 1024 (.o 12 1024 (.f 10 (.e 13 (.o 14 0 (.o 15 0 (.o 16 0 .done)))) (.e 13 (.o 10 0 (.o 14 0 (.o 15 0 (.o 16 0 .done))))))))))))))))))) (.x .w)) (.y (.y (.r (S [(34,.c .b)]) .done) (.x .w)) (.y (.y .MT (.x .w)) (.y (.y (.r (S [(55,.c .b)]) .done) (.x .w)) .w))))))
theorem adR{a b c d e f g h K w}:Fr (VD a b c d e f g h K w) (A2 w [.z c,.z d,.z e,.z f,.z g,.z h] 36 λc d=>∀e:qf->qf->Pw,(∀(d f:qf)(g:Y),(∃e,g.z c.p e/\bif e==0 then av g c.p 0 [.o,.o,.o,.o,.o,.o] λ(h i j k l m:O)=>∃n,g.z (d.add 1) n/\Wj a b h i j k l m n (λa b=>K a b) g else bif e==1 then ∃b,g.z (c.p.add 2) b/\SC a b 1 (λb e=>av e d 0 [.o,.o,.o,.u,.u,.o] λ(d f g h i j:O)=>∃k,e.z (c.p.add 3) k/\∃l,e.z (c.p.add 4) l/\Wk d f g h i j k (qq.wrap l) (λd e f g h i j k=>A2 k [.z 0,.z 0,.z 0,.y 0,.y 0,.z 0] 157 λk l=>aD l k.p 0 [.z d,.z e,.z f,.y g,.y h,.z i] λd=>∀e:O->Pw,(∀(b:O)(d:Y),(bif b==0 then ∃e,d.z (c.p.add 1) e/\∃f,d.z (c.p.add 2) f/\av d k.p 0 [.o,.o,.o,.u,.u,.o] λ(c g h i j k:O)=>Ut a e f c g h i j k (λa=>K b a) d else K b d)->e b d)->(bif b==0 then e j d else e b d)) e) g else bif e==2 then ∃b,g.z (c.p.add 2) b/\SC a b 1 (λb d=>bif b==0 then Dr d λe=>∃g,a=S g/\∃h,e.q g h/\av e f 0 [.o,.o] λ(g i:O)=>∃j,e.z (c.p.add 2) j/\(Wl h g i 0 j (λ_ d=>Dr d λd=>∃e,a=S e/\∃a,d.q (e.add 1) a/\av d f 0 [.o,.o] λ(e f:O)=>∃g,d.z (c.p.add 2) g/\(Wm a e f 0 g (λ_ a=>K b a) d)/\G) e)/\G else K b d) g else bif e==3 then ∃b,g.z (c.p.add 1) b/\bif b==0 then K 181 g else av g f 0 [.o,.o] λ(b c:O)=>Uu a b c (λa=>K 0 a) g else Dr g λb=>∃c,a=S c/\∃e,b.q (c.add 1) e/\av b f 0 [.o,.o] λ(c f:O)=>(Wn e c f (λb c=>∀e:O->Pw,(∀(c:O)(f:Y),(bif F (c>=0)then ∃g,b.a=S g/\0<=c/\c<(b.len:O)/\av f (g.add (c.toNat*2)) 0 [.o,.o] λ(g h:O)=>Uu a g h (λa=>e (qd.wrap (c-1)) a) f else ∃c,a=S c/\St f ((c.add 10).add 1) (.y (qq.wrap (b.len:O))) λb=>∃c,b.z d c/\bif c==1 then Dr b λc=>∃e,a=S e/\∃a,c.s (e.add 4) a/\∃e,c.z (d.add 1) e/\∃d,a.a=S d/\0<=e/\e<(a.len:O)/\(St c ((d.add (e.toNat*3)).add 2) (.y 0) λa=>K 0 a)/\G else K 0 b)->e c f)->e (qd.wrap ((b.len:O)-1)) c) b)/\G)->e d f g)->(Dr d λb=>∃d,b.z (c.p.add 1) d/\∃f,b.z (c.p.add 1) f/\(Rp a d (λa b d g h i j=>j.z (c.p.add 1) f/\(A2 j [.z 0,.z 0,.z 0,.y 0,.y 0,.z 0] 157 λj k=>(A2 k [.z 0,.z 0] 155 λk l=>(aD l j.p 0 [.z a,.z b,.z d,.y g,.y h,.z i] λa=>a.z (c.p.add 1) f/\(aD a k.p 0 [.z 0,.z f] λa=>e j.p k.p a)/\G)/\G)/\G)/\(A2 j [.z 0,.z 0] 155 λj k=>(A2 k [.z 0,.z 0,.z 0,.y 0,.y 0,.z 0] 157 λk l=>(aD l k.p 0 [.z a,.z b,.z d,.y g,.y h,.z i] λa=>a.z (c.p.add 1) f/\(aD a j.p 0 [.z 0,.z f] λa=>e k.p j.p a)/\G)/\G)/\G)/\G) b)/\(A2 b [.z 0,.z 0,.z 0,.y 0,.y 0,.z 0] 157 λb g=>(Rp a d (λa d g h i j k=>k.z (c.p.add 1) f/\(A2 k [.z 0,.z 0] 155 λk l=>(aD l b.p 0 [.z a,.z d,.z g,.y h,.y i,.z j] λa=>a.z (c.p.add 1) f/\(aD a k.p 0 [.z 0,.z f] λa=>e b.p k.p a)/\G)/\G)/\G) g)/\(A2 g [.z 0,.z 0] 155 λg h=>(Rp a d (λa d h i j k l=>l.z (c.p.add 1) f/\(aD l b.p 0 [.z a,.z d,.z h,.y i,.y j,.z k] λa=>a.z (c.p.add 1) f/\(aD a g.p 0 [.z 0,.z f] λa=>e b.p g.p a)/\G)/\G) h)/\G)/\G)/\(A2 b [.z 0,.z 0] 155 λb g=>(Rp a d (λa d g h i j k=>k.z (c.p.add 1) f/\(A2 k [.z 0,.z 0,.z 0,.y 0,.y 0,.z 0] 157 λk l=>(aD l k.p 0 [.z a,.z d,.z g,.y h,.y i,.z j] λa=>a.z (c.p.add 1) f/\(aD a b.p 0 [.z 0,.z f] λa=>e k.p b.p a)/\G)/\G)/\G) g)/\(A2 g [.z 0,.z 0,.z 0,.y 0,.y 0,.z 0] 157 λg h=>(Rp a d (λa d h i j k l=>l.z (c.p.add 1) f/\(aD l g.p 0 [.z a,.z d,.z h,.y i,.y j,.z k] λa=>a.z (c.p.add 1) f/\(aD a b.p 0 [.z 0,.z f] λa=>e g.p b.p a)/\G)/\G) h)/\G)/\G)/\G)):=ai func71 (.v (.y (.r (S [(7,.c .q),(8,.c .q)]) (.o 0 502 (.o 1 496 (.o 2 496 (.o 4 904 (.hold 5 904 1023 (.o 6 904 (.f 3 (.f 7 (.e 8 (.e 9 (.e 10 .done))) (.e 8 (.e 7 (.e 9 (.e 10 .done))))) (.f 7 (.f 3 (.e 8 (.e 9 (.e 10 .done))) (.e 8 (.e 3 (.e 9 (.e 10 .done))))) (.e 8 (.f 3 (.e 7 (.e 9 (.e 10 .done))) (.e 7 (.e 3 (.e 9 (.e 10 .done))))))))))))))) (.y (.v (.x (.v (.y .w (.v (.y (.v (.v (.y (.v (.t (S [(9,.c (.i .i64))]) .u .u)) (.y (.v .w) .w)))) (.v (.y (.v (.y (.v (.x .g5)) .w)) (.v (.x .Kw)))))))))) (.y (.z (.o 0 16 (.o 1 16 (.o 2 16 (.o 3 16 (.o 4 0 (.e 5 (.o 6 0 .done)))))))) (.y (.v (.x (.t (S [(14,.c (.i .i64))]) (.y (.v .w) (.x .w)) .u))) (.v (.y (.v (.x (.z (.o 0 48 (.o 1 48 (.o 2 48 (.o 3 48 (.o 4 0 .MJ)))))))) .w)))))))
theorem adS{a b c d e f g K w}:Fr (VE a b c d e f g K w) (A2 w [.z b,.z c,.z d,.z e,.z f,.z g] 36 λb c=>∃d,c.z (b.p.add 1) d/\Rp a d (λ_ c _ _ _ _ d=>∃e,a=S e/\∃f,d.q (e.add 2) f/\Vy f c (λd e f g h i j k l m n o _ p=>A2 p [.z 0,.z 0,.z 0,.z 0,.y 0,.y 0,.y 0,.y 0,.y 0,.y 0,.y 0,.y 0] 139 λp q=>aD q p.p 0 [.z d,.z e,.z f,.z g,.y h,.y i,.y j,.y k,.y l,.y m,.y n,.y o] λd=>∃e,d.z b.p e/\bif e==5 then ∃f,d.z p.p f/\bif f==3 then TD a c (λb=>Sb a c (λa b=>K a b) b) d else Sb a c (λa b=>K a b) d else bif e==6 then TD a c (λb=>∃d,a=S d/\∃a,b.q (d.add 2) a/\Uv a c (λa b=>K a b) b) d else Dr d λd=>∃e,a=S e/\∃a,d.q (e.add 2) a/\∃e,d.z (b.p.add 3) e/\(Wo a c e (λa b=>K a b) d)/\G) d) c):=ai func72 (.v (.v (.v (.y (.v (.x (.v (.y (.y (.v .w) .w) (.v (.x (.v .w))))))) (.x (.z (.o 0 112 (.o 1 112 (.o 2 112 (.o 3 112 (.o 4 96 (.o 5 0 (.o 6 0 (.e 7 (.o 8 0 .done)))))))))))))))
theorem adT{a b c d e f g h i K w}:Fr (VF a b c d e f g h i K w) (A2 w [.z d,.z e,.z f,.z g,.z h,.z i] 36 λd e=>∃f,e.z (d.p.add 1) f/\Rp a f (λe f g h i j k=>A2 k [.z 0,.z 0,.z 0,.y 0,.y 0,.z 0] 157 λk l=>aD l k.p 0 [.z e,.z f,.z g,.y h,.y i,.z j] λe=>∃f,e.z d.p f/\bif f==10 then ∃f,e.z (k.p.add 1) f/\∃g,e.y (k.p.add 3) g/\Tg a f g (λb c=>∃d,a=S d/\St c ((d.add 10).add 2) (.z b) λa=>K 0 a) e else ∃f,e.z d.p f/\bif f==11 then Dr e λf=>∃g,a=S g/\∃h,f.s (g.add 6) h/\∃g,f.z (k.p.add 1) g/\∃i,h.a=S i/\0<=g/\g<(h.len:O)/\∃h,f.q (i.add (g.toNat*1)) h/\∃g,f.z (d.p.add 5) g/\(Wp h c (g !=0) (λe f g h=>∃i,a=S i/\St h ((i.add 10).add 1) (.y e) λe=>∀h:W->Pw,(∀(e:W)(f:Y),(bif e then av f d.p 0 [.o,.o,.o,.o,.o,.o] λ(d e h i j k:O)=>Uw a b c d e h i j k (λa=>K g a) f else K g f)->h e f)->(bif g==0 then h (!f) e else h Z e)) f)/\G else A2 e [.bool Z,.z 0,.z 0,.z 0,.y 0,.y 0,.y 0,.y 0,.y 0,.bool Z] 303 λe f=>aD f e.p 0 [.bool Z,.z 0,.z 0,.z 0,.y 0,.y 0,.y 0,.y 0,.y 0,.bool Z] λf=>∃g,f.z d.p g/\∀h:O->Pw,(∀(f:O)(g:Y),(bif f !=0 then K f g else ∃f,g.b e.p f/\bif !f then av g d.p 0 [.o,.o,.o,.o,.o,.o] λ(f h i j k l:O)=>Uw a b c f h i j k l (λa=>K 0 a) g else ∃b,g.z (e.p.add 2) b/\av g (e.p.add 3) 0 [.o,.u,.u,.u,.u,.u,.b] λ(c f h i j k:O)(l:W)=>Ws a b c f h i j k l (λb=>∃c,b.z d.p c/\bif c==8 then ∃c,b.z (e.p.add 2) c/\Sb a c (λa b=>K a b) b else ∃c,b.z (e.p.add 1) c/\Sb a c (λa b=>K a b) b) g)->h f g)->(bif g==8 then ∃b,f.z (d.p.add 3) b/\∃g,f.y (k.p.add 3) g/\A2 f [.z 0,.y 0,.y 0,.y 0,.y 0,.y 0,.bool Z] 274 λi j=>aD j i.p 0 [.z b,.y 0,.y 0,.y 0,.y 0,.y g,.bool Z] λb=>∃g,b.z (d.p.add 4) g/\(0:O)<=0/\(0:O)<4/\St b ((i.p.add 1).add ((0:O).toNat*1)) (.y (qq.wrap g)) λb=>Dr b λb=>∃g,a=S g/\∃j,b.s (g.add 5) j/\∃g,b.z (k.p.add 1) g/\∃l,j.a=S l/\0<=g/\g<(j.len:O)/\∃j,b.q (l.add (g.toNat*1)) j/\av b i.p 0 [.o,.u,.u,.u,.u,.u,.b] λ(g i l m n o:O)(p:W)=>∃q,b.z (d.p.add 5) q/\(Wq j c g i l m n o p (q !=0) (λa b c d f g i j k l m n=>(aD n e.p 0 [.bool a,.z b,.z c,.z d,.y f,.y g,.y i,.y j,.y k,.bool l] λa=>h m a)/\G) b)/\G else Dr f λb=>∃f,a=S f/\∃a,b.s (f.add 5) a/\∃f,b.z (k.p.add 1) f/\∃g,a.a=S g/\0<=f/\f<(a.len:O)/\∃a,b.q (g.add (f.toNat*1)) a/\∃f,b.z (d.p.add 5) f/\(Wr a c (f !=0) (λa b c d f g i j k l m n=>(aD n e.p 0 [.bool a,.z b,.z c,.z d,.y f,.y g,.y i,.y j,.y k,.bool l] λa=>h m a)/\G) b)/\G)) e):=ai func73 (.v (.v (.y (.v (.x (.v .w))) (.y (.v (.x (.y (.z (.o 0 3888 (.o 1 3888 (.o 2 3888 (.o 3 3888 (.o 4 3840 (.o 5 3840 (.o 6 3840 (.o 7 3840 (.o 8 3584 (.o 9 0 (.o 10 0 (.o 11 0 (.e 12 (.o 13 0 (.o 14 98304 (.o 15 196608 (.o 16 393216 (.o 17 0 (.o 18 0 (.o 19 0 .done))))))))))))))))))))) (.v (.y (.y (.r (S [(63,.c .b)]) .done) .w) .w))))) (.v (.y (.v (.t (S [(14,.c (.i .i64))]) (.v (.v (.z (.o 0 7984 (.o 1 7984 (.o 2 7984 (.o 3 7984 (.o 4 7936 (.o 5 7936 (.o 6 7936 (.o 7 7936 (.o 8 7680 (.o 9 7168 (.o 10 0 (.o 11 0 (.o 12 0 (.e 13 (.o 14 0 (.o 15 65536 (.o 16 131072 (.e 17 (.o 18 0 .done)))))))))))))))))))))) (.z (.o 0 3888 (.o 1 3888 (.o 2 3888 (.o 3 3888 (.o 4 3840 (.o 5 3840 (.o 6 3840 (.o 7 3840 (.o 8 3584 (.o 9 0 (.o 10 0 (.o 11 0 (.e 12 (.o 13 0 (.o 14 32768 (.o 15 65536 (.e 16 (.o 17 0 .done))))))))))))))))))))) (.y (.v (.x .w)) (.y (.v (.x (.v .w))) .Ir))))))))
theorem adU{a b c d e f g K w}:Fr (VG a b c d e f g K w) (A2 w [.z b,.z c,.z d,.z e,.z f,.z g] 36 λb c=>∀d:qf->qf->Pw,(∀(c e:qf)(f:Y),(∃d,f.z b.p d/\bif d==12 then ∃g,f.z e g/\bif g !=8 then K 181 f else Dr f λg=>∃h,a=S h/\∃i,g.s (h.add 7) i/\∃h,g.z (e.add 1) h/\∃j,i.a=S j/\0<=h/\h<(i.len:O)/\∃i,g.q (j.add (h.toNat*1)) i/\∃h,g.z (b.p.add 3) h/\∃j,g.z (c.add 1) j/\(Wu i h j (λa b=>K a b) g)/\G else bif d==13 then ∃g,f.z e g/\bif g !=8 then K 181 f else Dr f λg=>∃h,a=S h/\∃i,g.s (h.add 7) i/\∃h,g.z (e.add 1) h/\∃j,i.a=S j/\0<=h/\h<(i.len:O)/\∃i,g.q (j.add (h.toNat*1)) i/\∃h,g.z (b.p.add 3) h/\∃j,g.z (c.add 1) j/\∃k,g.z (c.add 2) k/\∃l,g.z (b.p.add 4) l/\(Wv i h j (da .i64 k l) (λa b=>K a b) g)/\G else bif d==14 then ∀g:qf->O->Pw,(∀(d:qf)(e:O)(f:Y),(bif e==0 then ∃g,f.z (c.add 1) g/\∃c,f.z (b.p.add 3) c/\av f d 0 [.o,.o] λ(b d:O)=>TE a g c b d (λa=>K e a) f else K e f)->g d e f)->(Dr f λd=>∃e,a=S e/\∃a,d.s (e.add 7) a/\∃e,d.z (c.add 1) e/\∃c,a.a=S c/\0<=e/\e<(a.len:O)/\∃a,d.q (c.add (e.toNat*1)) a/\∃c,d.z (b.p.add 3) c/\(To a c (λa b c d=>(A2 d [.z 0,.z 0] 70 λd e=>(aD e d.p 0 [.z a,.z b] λa=>g d.p c a)/\G)/\G) d)/\(A2 d [.z 0,.z 0] 70 λb d=>(To a c (λa c d e=>(aD e b.p 0 [.z a,.z c] λa=>g b.p d a)/\G) d)/\G)/\G)else bif d==15 then ∃b,f.z e b/\bif b !=5 then K 181 f else Dr f λb=>∃d,a=S d/\∃g,b.q (d.add 3) g/\∃d,b.z (c.add 1) d/\∃h,b.z (e.add 1) h/\∃i,b.y (e.add 3) i/\(Ww g d h i (λa b=>K a b) b)/\G else Dr f λb=>∃d,a=S d/\∃e,b.q (d.add 3) e/\∃d,b.z (c.add 1) d/\(Wx e d (λb c d e f=>bif d then Tg a b c (λb c=>∃d,a=S d/\St c ((d.add 10).add 2) (.z b) λa=>K e a) f else K e f) b)/\G)->d c e f)->(Dr c λc=>∃e,c.z (b.p.add 1) e/\∃f,c.z (b.p.add 2) f/\(Rp a e (λc e g h i j k=>k.z (b.p.add 2) f/\(Rp a f (λa b f k l m n=>(A2 n [.z 0,.z 0,.z 0,.y 0,.y 0,.z 0] 157 λn o=>(A2 o [.z 0,.z 0,.z 0,.y 0,.y 0,.z 0] 157 λo p=>(aD p n.p 0 [.z c,.z e,.z g,.y h,.y i,.z j] λc=>(aD c o.p 0 [.z a,.z b,.z f,.y k,.y l,.z m] λa=>d n.p o.p a)/\G)/\G)/\G)/\(A2 n [.z 0,.z 0,.z 0,.y 0,.y 0,.z 0] 157 λn o=>(A2 o [.z 0,.z 0,.z 0,.y 0,.y 0,.z 0] 157 λo p=>(aD p o.p 0 [.z c,.z e,.z g,.y h,.y i,.z j] λc=>(aD c n.p 0 [.z a,.z b,.z f,.y k,.y l,.z m] λa=>d o.p n.p a)/\G)/\G)/\G)/\G) k)/\(A2 k [.z 0,.z 0,.z 0,.y 0,.y 0,.z 0] 157 λb k=>(Rp a f (λa f k l m n o=>(A2 o [.z 0,.z 0,.z 0,.y 0,.y 0,.z 0] 157 λo p=>(aD p b.p 0 [.z c,.z e,.z g,.y h,.y i,.z j] λc=>(aD c o.p 0 [.z a,.z f,.z k,.y l,.y m,.z n] λa=>d b.p o.p a)/\G)/\G)/\G) k)/\(A2 k [.z 0,.z 0,.z 0,.y 0,.y 0,.z 0] 157 λk l=>(Rp a f (λa f l m n o p=>(aD p b.p 0 [.z c,.z e,.z g,.y h,.y i,.z j] λc=>(aD c k.p 0 [.z a,.z f,.z l,.y m,.y n,.z o] λa=>d b.p k.p a)/\G)/\G) l)/\G)/\G)/\(A2 k [.z 0,.z 0,.z 0,.y 0,.y 0,.z 0] 157 λb k=>(Rp a f (λa f k l m n o=>(A2 o [.z 0,.z 0,.z 0,.y 0,.y 0,.z 0] 157 λo p=>(aD p o.p 0 [.z c,.z e,.z g,.y h,.y i,.z j] λc=>(aD c b.p 0 [.z a,.z f,.z k,.y l,.y m,.z n] λa=>d o.p b.p a)/\G)/\G)/\G) k)/\(A2 k [.z 0,.z 0,.z 0,.y 0,.y 0,.z 0] 157 λk l=>(Rp a f (λa f l m n o p=>(aD p k.p 0 [.z c,.z e,.z g,.y h,.y i,.z j] λc=>(aD c b.p 0 [.z a,.z f,.z l,.y m,.y n,.z o] λa=>d k.p b.p a)/\G)/\G) l)/\G)/\G)/\G) c)/\(A2 c [.z 0,.z 0,.z 0,.y 0,.y 0,.z 0] 157 λc g=>(Rp a e (λe g h i j k l=>l.z (b.p.add 2) f/\(Rp a f (λa b f l m n o=>(A2 o [.z 0,.z 0,.z 0,.y 0,.y 0,.z 0] 157 λo p=>(aD p c.p 0 [.z e,.z g,.z h,.y i,.y j,.z k] λe=>(aD e o.p 0 [.z a,.z b,.z f,.y l,.y m,.z n] λa=>d c.p o.p a)/\G)/\G)/\G) l)/\(A2 l [.z 0,.z 0,.z 0,.y 0,.y 0,.z 0] 157 λb l=>(Rp a f (λa f l m n o p=>(aD p c.p 0 [.z e,.z g,.z h,.y i,.y j,.z k] λe=>(aD e b.p 0 [.z a,.z f,.z l,.y m,.y n,.z o] λa=>d c.p b.p a)/\G)/\G) l)/\G)/\G) g)/\(A2 g [.z 0,.z 0,.z 0,.y 0,.y 0,.z 0] 157 λg h=>(Rp a e (λe h i j k l m=>m.z (b.p.add 2) f/\(Rp a f (λa b f m n o p=>(aD p c.p 0 [.z e,.z h,.z i,.y j,.y k,.z l] λe=>(aD e g.p 0 [.z a,.z b,.z f,.y m,.y n,.z o] λa=>d c.p g.p a)/\G)/\G) m)/\G) h)/\G)/\G)/\(A2 c [.z 0,.z 0,.z 0,.y 0,.y 0,.z 0] 157 λc g=>(Rp a e (λe g h i j k l=>l.z (b.p.add 2) f/\(Rp a f (λa b f l m n o=>(A2 o [.z 0,.z 0,.z 0,.y 0,.y 0,.z 0] 157 λo p=>(aD p o.p 0 [.z e,.z g,.z h,.y i,.y j,.z k] λe=>(aD e c.p 0 [.z a,.z b,.z f,.y l,.y m,.z n] λa=>d o.p c.p a)/\G)/\G)/\G) l)/\(A2 l [.z 0,.z 0,.z 0,.y 0,.y 0,.z 0] 157 λb l=>(Rp a f (λa f l m n o p=>(aD p b.p 0 [.z e,.z g,.z h,.y i,.y j,.z k] λe=>(aD e c.p 0 [.z a,.z f,.z l,.y m,.y n,.z o] λa=>d b.p c.p a)/\G)/\G) l)/\G)/\G) g)/\(A2 g [.z 0,.z 0,.z 0,.y 0,.y 0,.z 0] 157 λg h=>(Rp a e (λe h i j k l m=>m.z (b.p.add 2) f/\(Rp a f (λa b f m n o p=>(aD p g.p 0 [.z e,.z h,.z i,.y j,.y k,.z l] λe=>(aD e c.p 0 [.z a,.z b,.z f,.y m,.y n,.z o] λa=>d g.p c.p a)/\G)/\G) m)/\G) h)/\G)/\G)/\G)):=ai func74 (.v (.y (.r (S [(5,.c .q),(6,.c .q)]) (.o 0 886 (.o 1 880 (.o 2 880 (.o 4 872 (.o 5 776 (.hold 6 776 895 (.f 3 (.f 7 (.f 8 (.e 9 (.e 10 (.e 11 .done))) (.e 9 (.e 8 (.e 10 (.e 11 .done))))) (.f 8 .NI (.e 9 .NJ))) (.f 8 (.f 3 .NI (.e 9 (.e 3 .Mh))) (.e 9 (.f 3 .NJ (.e 8 (.e 3 .Mh))))))))))))) (.y (.v (.x (.v (.y (.y (.v (.x .w)) (.x (.z (.o 0 3888 (.o 1 3888 (.o 2 3888 (.o 3 3888 (.o 4 3840 (.o 5 3840 (.o 6 3840 (.o 7 3840 (.o 8 3072 (.o 9 3072 (.o 10 0 (.o 11 0 (.e 12 (.o 13 0 .done))))))))))))))))) (.v (.y (.y (.v (.x .w)) (.x (.z (.o 0 261936 (.o 1 261936 (.o 2 261936 (.o 3 261936 (.o 4 261888 (.o 5 261888 (.o 6 261888 (.o 7 261888 (.o 8 261120 (.o 9 261120 (.o 10 126976 (.o 11 126976 (.o 12 49152 (.o 13 49152 (.o 14 0 (.o 15 0 (.o 16 0 (.o 17 0 (.e 18 (.o 19 0 .done))))))))))))))))))))))) (.v (.y (.y (.r (S [(7,.c .q),(8,.c (.i .i64))]) (.o 0 17200 (.o 1 17200 (.o 2 17200 (.o 3 17200 (.o 4 17152 (.o 5 17152 (.o 6 17152 (.o 7 17152 (.o 8 16384 (.o 9 16384 (.f 10 (.o 11 16384 (.o 12 24576 (.o 13 49152 (.e 14 (.e 15 (.o 16 0 .done)))))) (.e 14 (.e 10 (.o 11 0 (.o 12 8192 (.o 13 32768 (.e 15 (.o 16 0 .done))))))))))))))))))) (.y (.v .w) .w)) (.v (.x (.y (.v (.x .w)) (.x (.z (.o 0 1008 (.o 1 1008 (.o 2 1008 (.o 3 1008 (.o 4 960 (.o 5 960 (.o 6 768 (.o 7 768 (.o 8 0 .MO)))))))))))))))))))))) (.y (.z (.o 0 48 (.o 1 48 (.o 2 48 (.o 3 48 (.o 4 0 (.o 5 0 (.e 6 (.o 7 0 (.o 8 3584 (.o 9 7168 (.o 10 14336 (.o 11 28672 (.o 12 0 (.o 13 0 (.o 14 0 (.o 15 0 .done))))))))))))))))) (.y (.v .w) .w)))))
theorem adV{a b c K w}:Fr (Tg a b c K w) (∃d,a=S d/\∃e,w.s (d.add 6) e/\∃d,e.a=S d/\0<=b/\b<(e.len:O)/\∃e,w.q (d.add (b.toNat*1)) e/\Wz e c (λb c d e=>bif !d then K (-1) e else ∃d,a=S d/\∃f,e.q (d.add 2) f/\Tq f b 0 c (λ_ c=>∃d,a=S d/\∃a,c.q (d.add 2) a/\Tx a b (λ_ a=>K b a) c) e) w):=ai func78 (.v .Md)
theorem adW{a b K w}:Fr (Rp a b K w) (A2 w [.z 0,.z 0,.z 0,.y 0,.y 0,.z 0] 157 λc d=>∀e:W->Pw,(∀(d:W)(f:Y),(bif d then aD f c.p 0 [.z 0,.z 0,.z 0,.y 0,.y 0,.z 0] λd=>av d c.p 0 [.o,.o,.o,.u,.u,.o] λ(e g h i j k:O)=>K e g h i j k d else ∃d,a=S d/\∃a,f.q d a/\W4 a 0 b (λa b d e f g _ h=>A2 h [.z 0,.z 0,.z 0,.y 0,.y 0,.z 0] 157 λh i=>aD i h.p 0 [.z a,.z b,.z d,.y e,.y f,.z g] λa=>av a h.p 0 [.o,.o,.o,.u,.u,.o] λ(b d e f g h:O)=>aD a c.p 0 [.z b,.z d,.z e,.y f,.y g,.z h] λa=>av a c.p 0 [.o,.o,.o,.u,.u,.o] λ(b c d e f g:O)=>K b c d e f g a) f)->e d f)->(bif F (b<0)then e V d else e (F (b>63)) d)):=ai func167 (.v (.y (.y (.r (S [(12,.c .b)]) .done) (.x .w)) (.v .w)))
theorem adX{a K w}:Fr (TC a K w) (bif a==0 then K 1 w else ∀b:W->Pw,(∀(c:W)(d:Y),(bif c then K 3 d else ∀b:W->Pw,(∀(c:W)(d:Y),(bif c then K 4 d else ∀b:W->Pw,(∀(c:W)(d:Y),(bif c then K 5 d else bif a==12 then K 7 d else bif a==13 then K 6 d else bif a==14 then K 8 d else bif a==15 then bif a==15 then K 9 d else K 0 d else bif a==16 then K 9 d else K 0 d)->b c d)->(bif a==10 then b (a==10) d else b (a==11) d))->b c d)->(bif a==8 then b (a==8) d else b (a==9) d))->b c d)->(bif a==5 then b (a==5) w else bif a==6 then b (a==6) w else b (a==7) w)):=ai func168 (.v (.y (.v (.x (.v (.y .w (.y (.v (.t (S [(6,.c .b)]) .u (.v .w))) (.y .w (.y (.v (.t (S [(10,.c .b)]) .u .u)) (.y .w (.y (.v (.t (S [(13,.c .b)]) .u .u)) (.y .w (.v (.y .w (.v (.y .w (.v (.y .w (.y (.v .w) (.x .w)))))))))))))))))) .w))
theorem adY{a b c d e f g h i K w}:Fr (Wj a b c d e f g h i K w) (A2 w [.z c,.z d,.z e,.z f,.z g,.z h] 36 λc d=>∀e:Sl->qf->O->Pw,(∀(d:Sl)(f:qf)(g:O)(h:Y),(bif g !=0 then K g h else ∃e,h.z (c.p.add 2) e/\∃g,h.z (c.p.add 5) g/\SC a e g (λe g=>bif e !=0 then K e g else ∀e:W->Pw,(∀(g:W)(h:Y),(bif g then K 2 h else Dr h λe=>∃g,a=S g/\∃h,e.s (g.add 4) h/\av e f 0 [.u,.o,.u] λ(f g j:O)=>∃k,h.a=S k/\0<=i/\i<(h.len:O)/\(aD e (k.add (i.toNat*3)) 0 [.y f,.z g,.y j] λe=>∀f:O->Pw,(∀(e:O)(g:Y),(∃h,g.z (c.p.add 5) h/\bif F (e<h)then Dr g λh=>av h c.p 0 [.o,.o,.o,.o,.o,.o] λ(i j k l m n:O)=>∃o,d.a=S o/\0<=e/\e<(d.len:O)/\∃d,h.y (o.add (e.toNat*1)) d/\(W5 a b i j k l m n d (λb d=>∃g,d.z (c.p.add 1) g/\∃h,d.z (c.p.add 2) h/\∃i,d.z (c.p.add 3) i/\Ut a g (qd.wrap (h+e)) i b 7 0 0 0 (λa=>f (qd.wrap (e+1)) a) d) h)/\G else K 0 g)->f e g)->f 0 e)/\G)->e g h)->(Dr g λb=>∃d,b.z (c.p.add 3) d/\bif d==2 then ∃d,a=S d/\∃f,b.q d f/\∃d,f=S d/\∃f,b.s d f/\∃d,b.z (c.p.add 5) d/\bif F ((qd.wrap ((f.len:O)+d))>64)then e V b else ∃d,b.z (c.p.add 3) d/\bif d==3 then ∃d,a=S d/\∃f,b.q (d.add 2) f/\∃d,f=S d/\∃f,b.s d f/\∃d,b.z (c.p.add 5) d/\e (F ((qd.wrap ((f.len:O)+d))>64)) b else e Z b else ∃d,b.z (c.p.add 3) d/\bif d==3 then ∃d,a=S d/\∃a,b.q (d.add 2) a/\∃d,a=S d/\∃a,b.s d a/\∃d,b.z (c.p.add 5) d/\e (F ((qd.wrap ((a.len:O)+d))>64)) b else e Z b)) h)->e d f g h)->(Dr d λb=>∃d,a=S d/\∃a,b.s (d.add 4) a/\∃d,a.a=S d/\0<=i/\i<(a.len:O)/\av b (d.add (i.toNat*3)) 0 [.u,.o,.u] λ(a d f:O)=>∃g,b.z (c.p.add 3) g/\∃h,b.z (c.p.add 4) h/\∃i,b.z (c.p.add 5) i/\(UJ a d f g h i (λa b c d f g=>(A2 g [.y 0,.z 0,.y 0] 98 λg h=>(aD h g.p 0 [.y b,.z c,.y d] λb=>e a g.p f b)/\G)/\G) b)/\(A2 b [.y 0,.z 0,.y 0] 98 λb c=>(UJ a d f g h i (λa c d f g h=>(aD h b.p 0 [.y c,.z d,.y f] λc=>e a b.p g c)/\G) c)/\G)/\G)):=ai func169 (.v (.y (.r (S [(9,.c .s),(10,.c .q),(11,.c (.i .i64))]) (.o 0 270224 (.o 1 270224 (.o 2 270224 (.o 3 270224 (.o 4 270208 (.o 5 270208 (.o 6 270208 (.o 7 269824 (.o 8 269824 (.o 9 268288 (.o 10 268288 (.o 11 262144 (.o 12 262144 (.f 13 (.o 14 262144 (.o 15 458752 (.o 16 917504 (.o 17 1835008 (.e 18 (.o 19 0 (.e 20 (.o 21 0 .done)))))))) (.e 18 (.e 13 (.o 14 0 (.o 15 196608 (.o 16 655360 (.o 17 1572864 (.o 19 0 (.e 20 (.o 21 0 .done)))))))))))))))))))))))) (.y (.v (.x .w)) (.v (.y (.v (.x .w)) (.y (.y (.r (S [(79,.c .b)]) (.o 0 0 (.o 1 0 (.o 2 0 (.o 3 0 (.o 4 12288 (.o 5 12288 (.o 6 12288 (.o 7 12288 (.o 8 12288 (.o 9 12288 (.o 10 12288 (.o 11 12288 (.o 12 0 (.o 13 0 (.o 14 0 (.o 15 0 (.o 16 0 (.o 17 0 (.o 18 0 (.o 19 0 (.o 20 0 (.o 21 0 (.o 22 3221225472 (.o 23 3221225472 (.o 24 3221225472 (.o 25 3221225472 (.o 26 3221225472 (.o 27 3221225472 (.o 28 3221225472 (.o 29 3221225472 (.o 30 0 (.o 31 0 (.o 32 0 (.o 33 0 (.o 34 0 (.o 35 0 .done))))))))))))))))))))))))))))))))))))) (.x .w)) (.y .Ny (.y (.v (.x (.t (S [(12,.c (.i .i64))]) (.y (.v .w) (.x (.x (.x (.z (.o 0 126 (.o 1 124 (.o 2 120 (.o 3 16 (.o 4 0 (.o 5 0 (.o 6 0 (.e 7 (.o 8 0 .done)))))))))))))) .u))) .w))))))))
theorem adZ{a b c K w}:Fr (SC a b c K w) (∀d:W->Pw,(∀(e:W)(f:Y),(bif e then K 181 f else ∀d:O->Pw,(∀(e:O)(f:Y),(bif F (e<(qd.wrap (b+c)))then Rp a e (λa _ _ _ _ _ b=>bif a !=0 then K 51 b else d (qd.wrap (e+1)) b) f else K 0 f)->d e f)->d b f)->d e f)->(bif F (b<0)then d V w else bif F (b>63)then d V w else d (F ((qd.wrap (b+c))>64)) w)):=ai func170 (.v (.y .Mb (.y (.v (.x (.t (S [(7,.c (.i .i64))]) .Me .u))) .w)))
theorem ad0{a b c d e f g h i K w}:Fr (Ut a b c d e f g h i K w) (A2 w [.z d,.z e,.z f,.y g,.y h,.z i] 157 λd e=>Dr e λe=>∃f,a=S f/\∃g,e.q f g/\av e d.p 0 [.o,.o,.o,.u,.u,.o] λ(d f h i j k:O)=>(Un g 0 c d f h i j k (λ_ d=>∃e,a=S e/\∃a,d.q (e.add 1) a/\W6 a 0 b 0 c (λ_ a=>K a) d) e)/\G):=ai func172 (.v (.x (.z (.o 0 112 (.o 1 112 (.o 2 112 (.o 3 112 .MG)))))))
theorem ad1{a b c K w}:Fr (Uu a b c K w) (A2 w [.z b,.z c] 155 λb c=>Dr c λc=>∃d,a=S d/\∃e,c.q (d.add 1) e/\av c b.p 0 [.o,.o] λ(d f:O)=>(W7 e d f (λ_ c=>∀d:qf->Pw,(∀(b:qf)(c:Y),(∃d,a=S d/\∃e,c.q d e/\Uc e (λc d=>∀e:O->Pw,(∀(d:O)(f:Y),(bif F (d<(c.len:O))then Dr f λg=>∃h,c.a=S h/\0<=d/\d<(c.len:O)/\av g ((h.add (d.toNat*8)).add 2) 0 [.o,.o,.o,.u,.u,.o] λ(c h i j k l:O)=>av g b 0 [.o,.o,.o,.u,.u,.o] λ(m n o p q r:O)=>(W8 c h i j k l m n o p q r (λa b=>bif a then K b else e (qd.wrap (d+1)) b) g)/\G else ∃c,f.z b c/\∀d:Pw,(∀c:Y,(∀d:O->Pw,(∀(c:O)(e:Y),(∀f:W->Pw,(∀(e:W)(g:Y),(bif e then Dr g λe=>∃f,a=S f/\∃h,e.s (f.add 7) h/\∃f,h.a=S f/\0<=c/\c<(h.len:O)/\∃h,e.q (f.add (c.toNat*1)) h/\∃f,e.z (b.add 1) f/\(W9 h f (λb e=>∀f:O->Pw,(∀(e:O)(g:Y),(bif F (e<(b.len:O))then ∀h:qf->Pw,(∀(d:qf)(g:Y),(Dr g λg=>∃h,b.a=S h/\0<=e/\e<(b.len:O)/\∃b,g.z (h.add (e.toNat*1)) b/\av g d 0 [.o,.o] λ(d h:O)=>(TE a c b d h (λa=>f (qd.wrap (e+1)) a) g)/\G)->h d g)->(Dr g λd=>∃f,a=S f/\∃a,d.s (f.add 7) a/\∃f,a.a=S f/\0<=c/\c<(a.len:O)/\∃a,d.q (f.add (c.toNat*1)) a/\∃c,b.a=S c/\0<=e/\e<(b.len:O)/\∃b,d.z (c.add (e.toNat*1)) b/\(To a b (λa b _ c=>(A2 c [.z 0,.z 0] 70 λc d=>(aD d c.p 0 [.z a,.z b] λa=>h c.p a)/\G)/\G) d)/\(A2 d [.z 0,.z 0] 70 λc d=>(To a b (λa b _ d=>(aD d c.p 0 [.z a,.z b] λa=>h c.p a)/\G) d)/\G)/\G)else d (qd.wrap (c+1)) g)->f e g)->f 0 e) e)/\G else ∀c:O->Pw,(∀(d:O)(e:Y),(∀f:W->Pw,(∀(e:W)(g:Y),(bif e then ∀e:O->Pw,(∀(f:O)(g:Y),(bif F (f<64)then ∃h,a=S h/\∃i,g.s (h.add 7) i/\∃h,i.a=S h/\0<=d/\d<(i.len:O)/\∃i,g.q (h.add (d.toNat*1)) i/\TW i f (λc g h=>∀i:W->Pw,(∀(b:W)(c:Y),(bif b then ∃b,a=S b/\∃g,c.s (b.add 7) g/\∃b,g.a=S b/\0<=d/\d<(g.len:O)/\∃g,c.q (b.add (d.toNat*1)) g/\Xa g f (λb _ c=>∀g:O->Pw,(∀(c:O)(h:Y),(bif F (c<(b.len:O))then Dr h λi=>∃j,b.a=S j/\0<=c/\c<(b.len:O)/\∃k,i.z (j.add (c.toNat*3)) k/\∃j,b.a=S j/\0<=c/\c<(b.len:O)/\av i ((j.add (c.toNat*3)).add 1) 0 [.o,.o] λ(b j:O)=>(TE a d k b j (λa=>g (qd.wrap (c+1)) a) i)/\G else e (qd.wrap (f+1)) h)->g c h)->g 0 c) c else e (qd.wrap (f+1)) c)->i b c)->(bif g then ∃a,h.z (b.add 1) a/\i (c==a) h else i Z h)) g else c (qd.wrap (d+1)) g)->e f g)->e 0 g else K g)->f e g)->(∃c,a=S c/\∃a,e.s (c.add 7) a/\bif F (d<(a.len:O))then ∃a,e.z b a/\f (a==7) e else f Z e))->c d e)->c 0 g)->f e g)->(∃d,a=S d/\∃a,e.s (d.add 7) a/\bif F (c<(a.len:O))then ∃a,e.z b a/\f (a==6) e else f Z e))->d c e)->d 0 c)->d c)->(bif c==3 then ∃c,f.z (b.add 1) c/\TD a c (λc=>Dr c λc=>∃e,a=S e/\∃a,c.q (e.add 2) a/\∃e,c.z (b.add 1) e/\(Uv a e (λ_ a=>d a) c)/\G) f else d f))->e d f)->e 0 d) c)->d b c)->(Dr c λc=>∃e,a=S e/\∃a,c.q e a/\av c b.p 0 [.o,.o] λ(b e:O)=>(UL a b e (λa b c e f g _ h=>(A2 h [.z 0,.z 0,.z 0,.y 0,.y 0,.z 0] 157 λh i=>(aD i h.p 0 [.z a,.z b,.z c,.y e,.y f,.z g] λa=>d h.p a)/\G)/\G) c)/\(A2 c [.z 0,.z 0,.z 0,.y 0,.y 0,.z 0] 157 λc f=>(UL a b e (λa b e f g h _ i=>(aD i c.p 0 [.z a,.z b,.z e,.y f,.y g,.z h] λa=>d c.p a)/\G) f)/\G)/\G)) c)/\G):=ai func175 (.v (.y .Ma (.y (.r (S [(4,.c .q)]) .g6) (.v (.y (.v (.x (.t (S [(7,.c (.i .i64))]) (.y (.v .w) (.x (.x (.y (.z (.o 0 34 .NO)) .w)))) .u))) (.y (.v (.t (S []) (.v .ND) .u)) (.y (.v (.x (.t (S [(8,.c (.i .i64))]) (.y (.y (.r (S [(78,.c .b)]) .done) .w) (.x (.x (.y (.z (.o 0 400 (.o 1 400 (.o 2 400 (.o 3 400 (.o 4 384 (.o 5 384 (.o 6 384 (.o 7 0 (.o 8 0 (.e 9 (.o 10 0 .done)))))))))))) (.v (.x (.t (S [(10,.c (.i .i64))]) (.y (.v .w) (.x (.x (.y (.r (S [(11,.c .q)]) (.o 0 34704 (.o 1 34704 (.o 2 34704 (.o 3 34704 (.o 4 34688 (.o 5 34688 (.o 6 34688 (.o 7 33024 (.o 8 32768 .g8)))))))))) (.z (.o 0 126 (.o 1 124 (.o 2 72 (.o 3 64 .MG))))))))) .u))))))) .u))) (.v (.x (.t (S [(13,.c (.i .i64))]) (.y (.y (.r (S [(131,.c .b)]) .done) .w) (.x (.x (.v (.x (.t (S [(14,.c (.i .i64))]) (.y (.v .w) (.x (.x (.v (.y (.r (S [(156,.c .b)]) .done) (.x (.v (.v (.x (.t (S [(19,.c (.i .i64))]) (.y (.v .w) (.x (.x (.z (.o 0 4094 (.o 1 4092 (.o 2 3976 (.o 3 3968 (.o 4 3968 (.o 5 3968 (.o 6 3968 .NM))))))))))) .u)))))))))) .u)))))) .u))))))))))
theorem ad2{a b K w}:Fr (TD a b K w) (∀c:O->Pw,(∀(d:O)(e:Y),(∃f,a=S f/\∃g,e.s (f.add 5) g/\bif F (d<(g.len:O))then ∃f,a=S f/\∃g,e.s (f.add 5) g/\∃f,g.a=S f/\0<=d/\d<(g.len:O)/\∃g,e.q (f.add (d.toNat*1)) g/\Xb g b (λ_ a=>c (qd.wrap (d+1)) a) e else ∀c:O->Pw,(∀(d:O)(e:Y),(∃f,a=S f/\∃g,e.s (f.add 6) g/\bif F (d<(g.len:O))then ∃f,a=S f/\∃a,e.s (f.add 6) a/\∃f,a.a=S f/\0<=d/\d<(a.len:O)/\∃a,e.q (f.add (d.toNat*1)) a/\Xc a b (λ_ a=>c (qd.wrap (d+1)) a) e else K e)->c d e)->c 0 e)->c d e)->c 0 w):=ai func177 (.y (.v (.x (.t (S [(4,.c (.i .i64))]) (.y (.v .w) (.x .w)) .u))) .NL)
theorem ad3{a b K w}:Fr (Sb a b K w) (∃c,a=S c/\∃d,w.q (c.add 2) d/\Tx d b (λc d=>bif c==0 then ∃e,a=S e/\St d ((e.add 10).add 2) (.z b) λa=>K c a else K c d) w):=ai func178 (.v (.v (.y (.v .w) .w)))
theorem ad4{a b c d e f g h i K w}:Fr (Uw a b c d e f g h i K w) (A2 w [.z d,.z e,.z f,.z g,.z h,.z i] 36 λd e=>∃f,e.z (d.p.add 5) f/\bif f !=0 then ∃d,a=S d/\∃f,e.q (d.add 2) f/\Xd f c (λ_ c=>∃d,a=S d/\∃a,c.q (d.add 2) a/\S8 a b (λ_ _ a=>K a) c) e else K e):=ai func182 (.v (.v (.x .w)))
theorem ad5{a b c d e f g h i K w}:Fr (Ws a b c d e f g h i K w) (A2 w [.z c,.y d,.y e,.y f,.y g,.y h,.bool i] 274 λc d=>Dr d λd=>∃e,a=S e/\∃f,d.q (e.add 2) f/\∃e,d.y (c.p.add 5) e/\(Tq f b 0 e (λ_ d=>Dr d λd=>∃e,a=S e/\∃f,d.q (e.add 2) f/\∃e,d.z c.p e/\(Tq f b 1 (qq.wrap e) (λ_ d=>Dr d λd=>∃e,a=S e/\∃a,d.q (e.add 2) a/\(0:O)<=0/\(0:O)<4/\∃e,d.y ((c.p.add 1).add ((0:O).toNat*1)) e/\(Tq a b 2 e (λ_ a=>K a) d)/\G) d)/\G) d)/\G):=ai func185 (.v (.y (.z (.o 0 112 (.o 1 112 (.o 2 112 (.o 3 112 (.o 4 96 .Mf)))))) .g5))
theorem ad6{a b c d e K w}:Fr (TE a b c d e K w) (A2 w [.z d,.z e] 70 λd e=>Dr e λe=>∃f,a=S f/\∃g,e.s ((f.add 10).add 3) g/\av e d.p 0 [.o,.o] λ(d f:O)=>(A2 e [.z b,.z c,.z d,.z f] 289 λb c=>(∃d e,aP qe [40,40] 40 g.v (.slice (S b.p) 1 1) c d e/\∃b,a=S b/\(St e ((b.add 10).add 3) d.v λa=>K a)/\G)/\G)/\G):=ai func189 (.v (.z (.o 0 4094 (.o 1 1984 (.o 2 1984 (.o 3 1984 (.o 4 1984 (.o 5 1984 (.o 6 384 (.o 7 256 (.o 8 0 (.o 9 0 (.e 10 (.e 11 (.o 12 0 (.o 13 0 (.o 14 0 (.e 15 .done))))))))))))))))))
theorem ad7{a b c d e f g h i K w}:Fr (W5 a b c d e f g h i K w) (A2 w [.z c,.z d,.z e,.z f,.z g,.z h] 36 λc d=>∃e,d.z (c.p.add 3) e/\bif e==1 then Dr d λf=>∃g,a=S g/\∃h,f.s (g.add 4) h/\∃g,f.z (c.p.add 4) g/\(A2 f [.y i,.z g,.y 0] 98 λb c=>(∃d e,aP qe [52,52] 52 h.v (.slice (S b.p) 1 1) c d e/\∃b,a=S b/\(St e (b.add 4) d.v λb=>∃c,a=S c/\∃a,b.s (c.add 4) a/\K (qd.wrap ((a.len:O)-1)) b)/\G)/\G)/\G else bif e==2 then Dr d λf=>∃g,a=S g/\∃h,f.q g h/\∃g,f.z (c.p.add 4) g/\(Uf h g (λa _ b=>K a b) f)/\G else bif e==3 then ∃c,a=S c/\∃f,d.q (c.add 2) f/\Ug f 0 b (λa _ b=>K a b) d else bif e==4 then ∃b,a=S b/\∃c,d.s (b.add 5) c/\A2 d [.slice I 0 0,.slice I 0 0] 271 λb f=>A2 f [.pointer (S b.p)] 146 λb f=>∃g h,aP qe [53,53] 53 c.v (.slice (S b.p) 1 1) f g h/\∃b,a=S b/\St h (b.add 5) g.v λb=>∃c,a=S c/\∃f,b.s (c.add 5) f/\K (qd.wrap ((f.len:O)-1)) b else bif e==5 then ∃b,a=S b/\∃c,d.s (b.add 6) c/\A2 d [.slice I 0 0,.slice I 0 0] 280 λb f=>A2 f [.pointer (S b.p)] 151 λb f=>∃g h,aP qe [54,54] 54 c.v (.slice (S b.p) 1 1) f g h/\∃b,a=S b/\St h (b.add 6) g.v λb=>∃c,a=S c/\∃f,b.s (c.add 6) f/\K (qd.wrap ((f.len:O)-1)) b else bif e==8 then ∃b,a=S b/\∃c,d.s (b.add 7) c/\A2 d [.slice I 0 0,.slice I 0 0] 129 λb f=>A2 f [.pointer (S b.p)] 83 λb f=>∃g h,aP qe [55,55] 55 c.v (.slice (S b.p) 1 1) f g h/\∃b,a=S b/\St h (b.add 7) g.v λb=>∃c,a=S c/\∃f,b.s (c.add 7) f/\K (qd.wrap ((f.len:O)-1)) b else bif e==6 then ∃b,a=S b/\∃c,d.z (b.add 8) c/\∃b,a=S b/\St d (b.add 8) (.z (qd.wrap (c+1))) λb=>∃c,a=S c/\∃e,b.z (c.add 8) e/\K (qd.wrap (e-1)) b else ∃b,a=S b/\∃c,d.z (b.add 9) c/\∃b,a=S b/\St d (b.add 9) (.z (qd.wrap (c+1))) λb=>∃c,a=S c/\∃a,b.z (c.add 9) a/\K (qd.wrap (a-1)) b):=ai func277 (.v (.y (.v (.x (.v (.y (.y (.z (.o 0 2046 (.o 1 992 (.o 2 992 (.o 3 992 (.o 4 992 (.o 5 192 (.o 6 0 (.o 7 0 (.o 8 0 .ME)))))))))) .w) (.v (.y .g15 (.v (.y (.v .w) (.v (.y (.v .w) (.v (.y (.v .w) (.v (.y (.v .w) (.v (.x (.v .w))))))))))))))))) (.v .w)))
end Go.Vc
namespace Go.Vc
open Go.ChangeShapes Go.WideShapes
theorem GU:∀cs,Fits [.int .i64] cs->∃x,cs=aB.enc x/\(Lit.int .i64 x).wf=true:=λcs h=>by obtain⟨_,_,rfl,⟨a,rfl,ha⟩,h1⟩:=h.cG;obtain rfl:=h1.zi;exact⟨a,U,ha⟩
end Go.Vc
