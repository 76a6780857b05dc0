/- What the row rests on: the declarations that it needs, out of my texts (part 9). -/
import Derived.Test.YtfgikfglabdeoaaGreatZo8
open Bool renaming false->Z,true->V
open Go renaming Addr->qf,Program->qo,TypeId->qh,Value->N,World->Y
open Go.IntKind renaming i64->qd
open Option renaming some->S
open _root_ renaming Bool->W,Int->O,List->J,Nat->X,Option->qg,True->G,absurd->qi,decide_eq_false->qk,decide_eq_true->qm,if_pos->A,rfl->U
open Int renaming toNat_natCast->Oo
open Nat renaming le_refl->On
set_option maxRecDepth 100000
set_option maxHeartbeats 4000000
set_option linter.all false
namespace Go.Vc
open Go.Proofs
namespace Mc
section
variable{w0 w:Y}{nc ae6 g:X}{m:dC}
def pq(m:dC)(n:O):Call:=(m.prog[n.toNat]?).getD ⟨0,0,0,0,0,0⟩
def Ik(m:dC)(r:qg Seen × dC):Prop:=match r.1 with
 |none=>r.2.k=m.k
 |some s=>(s.kind=1/\(0<=s.n/\s.n<(m.prog.length:O))/\r.2.k=(m.k.do s.core (pq m s.n)).2/\s.t=(m.k.do s.core (pq m s.n)).1)
  \/(s.kind=4/\r.2.k=(m.k.irq s.n).2.2/\s.t=⟨(m.k.irq s.n).1,0,(m.k.irq s.n).2.1,[]⟩)
  \/(s.kind=5/\r.2.k=m.k.tick s.core/\s.is=(m.k.t.bJ s.core).isSome)
  \/((s.kind≠1/\s.kind≠4/\s.kind≠5)/\r.2.k=m.k)
theorem D9(n:O):∀(l:J dP)(m:dC),(dC.kI n l m).k=m.k
 | [],_=>rfl
 |_::l,_=>(D9 n l _).trans U
theorem Ik.item(h:de nc ae6 g m)(x:Item):Ik m (m.item x):=by
 have three:∀(s:Seen)(m':dC),(s.kind≠1/\s.kind≠4/\s.kind≠5)->m'.k=m.k->Ik m (S s,m'):=λs m' h1 h2=> .inr (.inr (.inr ⟨h1,h2⟩));unfold dC.item;split
 .exact (rfl:m.k=m.k)
 rename_i hr;obtain⟨_,_,c0,c1,_⟩:=td.1 (show iH x m.cs.length=V from by
  cases e:iH x m.cs.length with
  |true=>rfl
  |false=>exact qi e hr)
 have hcs:=h.cs;split
 .unfold dC.user
  split
  .exact (rfl:m.k=m.k)
  split
  .exact three _ _ ⟨by show(3:O)≠1;decide,by show(3:O)≠4;decide,by show(3:O)≠5;decide⟩ U
  split
  .exact (rfl:m.k=m.k)
  .exact (rfl:m.k=m.k)
 split
 .unfold dC.step
  split
  .exact (rfl:m.k=m.k)
  split
  .exact three _ _ ⟨by show(0:O)≠1;decide,by show(0:O)≠4;decide,by show(0:O)≠5;decide⟩ U
  split
  .rename_i hd
   split
   .refine .inl ⟨U,h.nr _ (h.IT c0 om).2 (by rw[hd];decide),?_,rfl⟩
    show(dC.kI _ _ _).k=_;rw[D9];rfl
   .exact (rfl:m.k=m.k)
  split
  .exact three _ _ ⟨by show(2:O)≠1;decide,by show(2:O)≠4;decide,by show(2:O)≠5;decide⟩ U
  .exact (rfl:m.k=m.k)
 split
 .exact (rfl:m.k=m.k)
 split
 .exact .inr (.inl ⟨U,U,U⟩)
 .exact .inr (.inr (.inl ⟨U,U,U⟩))
def Iz(k:ag):Prop:=∃m,k.ae[0]?=S m
theorem Iz.do{k:ag}(hk:bj ae6 k)(h:Iz k)(core:O)(c:Call):Iz (k.do core c).2:=by obtain⟨m,h⟩:=h;obtain⟨m',h',_⟩:=(Gx hk core c).2 0 m h;exact⟨m',h'⟩
theorem MU{w:Y}{a:qf}{x:Call}{f:O->O->O->O->O->O->Prop}(g:∀c v,(bW.enc x)[c]?=S v->w.cell? (a.add c)=S v)(hf:f x.ask x.at_ x.ar x.a x.b x.c):
  av w a 0 [.o,.o,.o,.o,.o,.o] f:=⟨_,g 0 _ U,_,g 1 _ U,_,g 2 _ U,_,g 3 _ U,_,g 4 _ U,_,g 5 _ U,hf⟩
theorem IL(n bi li:X)(ps:J O):Iz (ag.fC n bi li ps):=⟨Tb.iF,by
 have l1:∀(q j i:X)(k:ag),(ag.tB q j i k).ae=k.ae:=λq=>by
  induction q with
  |zero=>intros;rfl
  |succ q ih=>intro j i k;exact(ih (j+1) i _).trans U
 have l2:∀(ps:J O)(j:X)(k:ag),(ag.mZ ps j k).ae=k.ae:=λps=>by
  induction ps with
  |nil=>intros;rfl
  |cons p ps ih=>intro j k;exact(ih (j+1) _).trans U
 unfold ag.fC;rw[l1];show(ag.mZ ps 0 _).ae[0]?=_;rw[l2];rfl⟩
theorem lz{o1 o2 o3 o6:O}{prios:J O}{calls:J Call}{items:J Item}{s4 s5 s7:Sl}{K:W->Pw}
  (_:(Lit.int .i64 o1).wf=V) (_:(Lit.int .i64 o2).wf=V) (_:(Lit.int .i64 o3).wf=V) (hi4:El aB w0 s4 prios) (_:∀x∈prios,(Lit.int .i64 x).wf=V) (hi5:El bW w0 s5 calls) (hg5:∀c∈calls,vf c) (_:(Lit.int .i64 o6).wf=V)
  (hi7:El DJ w0 s7 items) (_:∀x∈items,AQ x)
  (h:Ow w0.heap.size w0 w []) (hK:∀w',Ow w0.heap.size w0 w' []->K V w'):Vi o1 o2 o3 s4 s5 o6 s7 K w:=by
 apply ac3;have hl7:=hi7.len;refine h.a λab w1 h=>?_;refine h.dI (x3:=s4) (x4:=s5) U ?_;refine F7 hi4 hi5 h λn bi li ps room s' s5' w n1 n3 b6 b12 l3 hpn hps r1 r8 h=>?_;refine h.a λpb w3 h=>?_;refine h.ay U U λw h=>?_;refine h.gO (x3:=s') U ?_;refine⟨s5',h.aE U,h.l2 U ?_⟩;have hct:(calls.take 40).length<=40:=by rw[List.length_take];omega
 have hpr:=Jm hg5;have hr:ag.gC (n:O) (bi:O) (li:O) ps=true:=qm ⟨om,om,om,om,om,om,om,hps⟩;refine iP (prios:=ps) (prog:=calls.take 40) (s:=s') (s5:=s5') n1 om om om hpn hps r1 r8 om h λmb w h=>?_;refine h.gO (x3:=s') U ?_;refine uk (s:=s') (prios:=ps) h om (λe=>by rw[hr]at e;cases e) λ_ rb w h=>?_;rw[show(show O from n).toNat=n from Oo n,show(show O from bi).toNat=bi from Oo bi,show(show O from li).toNat=li from Oo li]at h;have k0:de n 1 0 (fp (ag.fC n bi li ps) n (calls.take 40) room):=uF n1 om om om hpn hps r1 r8;have p0:(fp (ag.fC n bi li ps) n (calls.take 40) room).prog=calls.take 40:=rfl;have z0:Iz (fp (ag.fC n bi li ps) n (calls.take 40) room).k:=IL n bi li ps;have h:Ow w0.heap.size w0 w [dQ mb (fp (ag.fC n bi li ps) n (calls.take 40) room),mI Bd 0 rb (ag.fC n bi li ps) B0,af bW s5' (calls.take 40),aa pb [.z (n:O),.z (bi:O),.z (li:O),s'.v,s5'.v,.z room]]:=h.sub;have h:Ow w0.heap.size w0 w [_,mI Bd 0 rb (fp (ag.fC n bi li ps) n (calls.take 40) room).k B0,_,_]:=h;generalize fp (ag.fC n bi li ps) n (calls.take 40) room=m0 at h k0 p0 z0;clear hr;intro k40 hk40;refine aW U (aW U (fG U ?_));apply hk40;refine aW U ?_;clear hk40;intro l43 hl43;have loop:∀(q i M:X)(m:dC)(d:Told)(w:Y),i+q=81->i<=80->M<=i->de n (1+64*i) i m->Iz m.k->m.prog=calls.take 40->Ow w0.heap.size w0 w [dQ mb m,mI Bd M rb m.k d,af bW s5' (calls.take 40),aa pb [.z (n:O),.z (bi:O),.z (li:O),s'.v,s5'.v,.z room]]->l43 (i:O) w:=by
  intro q;induction q with
  |zero=>intro i M m d w hi hi2;omega
  |succ q ih=>
   intro i M m d w hi hi2 hM hm hz hp h;have hk:=hm.k;apply hl43;clear hl43;intro k46 hk46;have fin:k46 Z w:=by
    apply hk46;refine aW U ?_;clear hk46 ih;refine h.dr λw h=>?_;obtain⟨x,h⟩:=lN h.cw;refine⟨_,U,_,h.aF U,uU hm (h.pick (ae7:=dQ mb m)) λs1 w h=>?_,trivial⟩;refine⟨h.aF U,Sl.mz (h.pick (ae7:=Sl.bm x.n m.k.bits m.k.H)) λs2 hs w hih h=>?_,trivial⟩;obtain rfl:hs=fE m.k.H:=hih.uniq (rA λt c hc=>(hk.held t c hc).1);refine⟨ug h (Rd.own (h.aL s1)) (Rd.own (h.aL s2)) (by have:=sF m.k.H;omega) λw h=>?_,trivial⟩;refine aU (qm U) ⟨_,U,?_⟩;obtain⟨m0,hz⟩:=hz;have hpl:=(h.pick (ae7:=au Tb.dG x.ps m.k.ae)).cQ;have hlt:=(List.getElem?_eq_some_iff.1 hz).1;have hpp:x.ps[0]?=S x.ps[0]:=gE om;generalize x.ps[0]=p at hpp;have epg:m.k.gA 0=m0.pg:=by unfold ag.gA;rw[uB.2 ⟨qb,om⟩,A U];unfold ag.hI;rw[show(show O from 0).toNat=0 from U,hz];rfl
    have hple:m0.pg.length<=1000000:=by have:=fx.Bj (hk.zG m0 (List.mem_of_getElem? hz));omega
    have look:∀(sp:Sl)(w:Y),Ow w0.heap.size w0 w [af Tb.aJ sp (m.k.gA 0),au Tb.dG x.ps m.k.ae]->
      R8 p.o (λr144 w145=>(SV sp r144 (λr146 w147=>bif r146 then((SZ (λr148 w149=>K r148 w149) w147)/\G)else((K Z w147)/\G)) w145)/\G) w:=λsp w h=>by
     have h:=h.cw.wL hpp hz;refine Tb.nO h λs3 w h=>⟨?_,trivial⟩
     rw[epg]at h;refine uj (xs:=m0.pg) (ys:=m0.pg) h (Rd.own (h.aL sp)) (Rd.own (h.aL s3)) hple λw h=>?_;exact aU (qm U) ⟨yV (h.sub:Ow w0.heap.size w0 w []) hK,trivial⟩
    have at0:∀(w:Y)(L:J aH)(a:qf),x.ss.a=S a->Ow w0.heap.size w0 w (af cd x.ss x.ps::L)->w.cell? (a.add ((show O from 0).toNat*1))=S (.q p):=λw L a ha h=>by obtain⟨a',ha',_,_,hc'⟩:=eF (s:=x.ss) (i:=0) (j:=0) (ae3:=λa=>w.cell? (a.add ((show O from 0).toNat*1))=S (.q p)) h U hpp (λ_ _ hc=>hc);rw[ha]at ha';cases ha';exact hc'
    refine⟨?_,⟨x.ss,h.aE U,?_⟩,trivial⟩
    .refine mT (n:=0) (h.pick (ae7:=dQ mb m)) λsp w h=>⟨x.ss,h.aE U,?_⟩
     exact eF (s:=x.ss) (i:=0) (j:=0) h U hpp λa ha hc=>⟨_,hc,look sp w h.sub,trivial⟩
    .refine eF (s:=x.ss) (i:=0) (j:=0) h U hpp λa ha hc=>⟨?_,⟨_,hc,?_,trivial⟩,trivial⟩
     .exact mT (n:=0) (h.pick (ae7:=dQ mb m)) λsp w h=>⟨_,at0 w _ a ha (h.pick (ae7:=af cd x.ss x.ps)),look sp w h.sub,trivial⟩
     .exact mT (n:=0) (h.pick (ae7:=dQ mb m)) λsp w h=>⟨look sp w h.sub,trivial⟩
   refine bg (λe=>?_) (λe=>fin);by_cases e80:(i:O)<80
   case neg=>
    rw[qk e80];exact fin
   clear fin;rw[qm e80];apply hk46;refine aU U ?_;clear hk46;have hlt:i<items.length:=om
   obtain⟨x,hxx⟩:∃x,items[i]?=S x:=⟨_,gE hlt⟩
   rw[show(show O from i).toNat=i from Oo i];obtain⟨a,ha,hcc⟩:=hi7.get h hxx;refine⟨a,ha,om,e,KH hcc (fU (it:=x) hm om om (by rw[hp];exact hpr) (h.pick (ae7:=dQ mb m)) λfs w h=>?_)⟩;have hfl:=(hm.item om x).2;have hm':=(hm.item om x).1.mono (show _<=1+64*(i+1) by omega) (On _);have hp':(m.item x).2.prog=calls.take 40:=by rw[EO];exact hp
   have hik:=Ik.item hm x;generalize m.item x=ae1 at h hm' hp' hik hfl|-;obtain⟨r,m'⟩:=ae1;have next:∀(M:X)(d:Told)(w:Y),M<=i+1->Iz m'.k->Ow w0.heap.size w0 w [dQ mb m',mI Bd M rb m'.k d,af bW s5' (calls.take 40),aa pb [.z (n:O),.z (bi:O),.z (li:O),s'.v,s5'.v,.z room]]->l43 (qd.wrap ((i:O)+1)) w:=λM d w hM hz h=>by rw[wI i om];exact ih (i+1) M m' d w om om hM hm' hz hp' h
   clear ih hm' hp';cases r with
   |none=>
    have hik:m'.k=m.k:=hik;refine h.al λw2 h=>?_;refine h.ay U U λw h=>?_;exact aU U (next M d w om (by rw[hik];exact hz) (by rw[hik];exact h.sub))
   |some s=>
    have hfl:s.t.forget.length<=i+1:=hfl s U;dsimp only[Ds,Option.getD,Option.isSome]at h|-;refine h.a λsb w2 h=>?_;refine h.ay U U λw h=>?_;refine aW U (h.l1 U ?_);rcases hik with⟨e1,⟨n0,n1⟩,ek,et⟩|⟨e4,ek,et⟩|⟨e5,ek,et⟩|⟨⟨q1,q2,q3⟩,ek⟩
    .have ek:m'.k=_:=ek
     refine jg e1 ?_;have hl5:=h.aL s5';rw[hp]at n1;have hcx:(calls.take 40)[s.n.toNat]?=S (pq m s.n):=by unfold pq;rw[hp,gE om];rfl
     have hz':Iz m'.k:=by rw[ek];exact hz.do hk s.core (pq m s.n)
     intro k69 hk69;refine⟨_,h.aE U,aw om ⟨_,h.aE U,s5',h.aE U,?_⟩⟩;rw[qk (show ¬s.n>=(s5'.len:O) by omega)];apply hk69;refine aW U ?_;clear hk69;intro k72 hk72;have told:∀(tb:X)(fs2:Sl)(d2:Told)(w:Y),Ow w0.heap.size w0 w [aa tb [.z s.t.e,.y s.t.w,.z s.t.cN,fs2.v],af aA fs2 s.t.forget,af aA fs s.t.forget,aa sb [.z s.kind,.z s.core,.z s.n,.z s.t.e,.y s.t.w,.z s.t.cN,fs.v,.z s.p.1,.z s.p.2,.bool s.is],
       dQ mb m',mI Bd (M+1) rb m'.k d2,af bW s5' (calls.take 40),aa pb [.z (n:O),.z (bi:O),.z (li:O),s'.v,s5'.v,.z room]]->k72 tb.p w:=λtb fs2 d2 w h=>by
      apply hk72;refine h.gO (x3:=fs2) U (eJ (h.gO (x3:=fs) U ?_));refine HE (s:=fs2) (t:=fs) (xs:=s.t.forget) om h λw h=>?_;exact aW U (next (M+1) d2 w om hz' h.sub)
     clear hk72;refine h.dr λw h=>?_;refine⟨_,h.aE U,s5',h.aE U,h.l2 U (h.bX (s:=s5') (i:=s.n) (j:=s.n.toNat) om hcx λa ha _ hc=>MU hc ⟨?_,?_,trivial⟩)⟩
     .refine Bl (c:=pq m s.n) hk om om (h.pick (ae7:=mI Bd M rb m.k d)) λfs2 d2 w h=>?_
      rw[<-et,<-ek]at h;rw[<-et];refine⟨h.al λw2 h=>⟨?_,trivial⟩,trivial⟩;generalize w.heap.size=tb at h|-;refine h.ay U U λw h=>?_;exact told tb fs2 d2 w h.sub
     .refine h.al λw2 h=>⟨?_,trivial⟩
      generalize w.heap.size=tb at h|-;refine Bl (c:=pq m s.n) hk om om (h.pick (ae7:=mI Bd M rb m.k d)) λfs2 d2 w h=>?_;rw[<-et,<-ek]at h;rw[<-et];refine⟨h.ay U U λw h=>?_,trivial⟩;exact told tb fs2 d2 w h.sub
    .have ek:m'.k=_:=ek
     refine jf om (jg e4 (h.l2 U ?_));refine Fj om hk (h.pick (ae7:=mI Bd M rb m.k d)) λw h=>?_;rw[<-ek]at h;intro k117 hk117;refine⟨_,bc (h.aE U),fG (by rw[et]) (h.l2 U ?_)⟩;rw[et,bne_self_eq_false];apply hk117;exact aW U (next (M+1) d w om (by rw[ek];unfold Iz;rw[GV];exact hz) h.sub)
    .have ek:m'.k=_:=ek
     refine jf om (jf om (jg e5 ?_));refine h.dr λw h=>?_;refine⟨_,U,?_⟩;obtain⟨t,ht,htt⟩:=C3 (core:=s.core) (K:=λr126 w127=>∃is128:W,w127.cell? (sb.p.add 9)=S (.bool is128)/\bif !(r126==is128)then(K Z w127)else(l43 (qd.wrap ((i:O)+(1:O))) w127)) hk (h.pick (ae7:=mI Bd M rb m.k d)) λw h=>by rw[<-ek]at h;refine h.l2 U ?_;rw[<-et,beq_self_eq_true];exact aW U (next M d w om (by rw[ek];exact hz) h.sub)
     exact⟨t,ht,_,h.aE U,htt,trivial⟩
    .have ek:m'.k=_:=ek
     refine jf q1 (jf q2 (jf q3 ?_));exact next M d w om (by rw[ek];exact hz) (by rw[ek];exact h.sub)
 exact loop 81 0 0 m0 B0 w U om (On _) k0 z0 p0 h
end
end Mc
end Go.Vc
namespace Go.Vc
open Go.ChangeShapes Go.WideShapes
section
variable{H:Type}{enc:qh × N->H}{P:qo}{held:W}
theorem Mc.IN:∀cs,Fits [.int .i64,.int .i64,.int .i64,.int .i64,.int .i64,.int .i64] cs->∃x,cs=Mc.bW.enc x/\Mc.vf x:=λcs h0=>by obtain⟨_,_,rfl,⟨a,rfl,_⟩,h1⟩:=h0.cG;obtain⟨_,_,rfl,⟨b,rfl,_⟩,h2⟩:=h1.cG;obtain⟨_,_,rfl,⟨c,rfl,hc⟩,h3⟩:=h2.cG;obtain⟨_,_,rfl,⟨d,rfl,_⟩,h4⟩:=h3.cG;obtain⟨_,_,rfl,⟨e,rfl,_⟩,h5⟩:=h4.cG;obtain⟨_,_,rfl,⟨f,rfl,_⟩,h6⟩:=h5.cG;obtain rfl:=h6.zi;exact⟨⟨a,b,c,d,e,f⟩,U,hc⟩
theorem Mc.I6:∀cs,Fits [.int .i64,.int .i64,.int .i64,.int .i64] cs->∃x,cs=Mc.DJ.enc x/\Mc.AQ x:=λcs h0=>by obtain⟨_,_,rfl,⟨a,rfl,_⟩,h1⟩:=h0.cG;obtain⟨_,_,rfl,⟨b,rfl,_⟩,h2⟩:=h1.cG;obtain⟨_,_,rfl,⟨c,rfl,_⟩,h3⟩:=h2.cG;obtain⟨_,_,rfl,⟨d,rfl,_⟩,h4⟩:=h3.cG;obtain rfl:=h4.zi;exact⟨⟨a,b,c,d⟩,U,trivial⟩
theorem IB{t e e1:qh}{f0 f1 f2 g0 g1 g2 g3:Field}{aeZ:Y}{sp:X->W}{v:N}{dd:DataW H}{ps:J MemPlace}{r:Reach}{b0:X}(ht:P.underlying t=S (.struct #[f0,f1,f2]))(hb:P.underlying f0.type=S (.struct #[g0,g1,g2,g3]))
  (h0:P.underlying g0.type=S (.int .i64)) (h1:P.underlying g1.type=S (.int .i64)) (h2:P.underlying g2.type=S (.int .i64)) (h3:P.underlying g3.type=S (.slice e)) (h4:P.underlying f1.type=S (.slice e1)) (h5:P.underlying f2.type=S (.int .i64))
  (ho:(f0.offset,f1.offset,f2.offset,g0.offset,g1.offset,g2.offset,g3.offset)=(0,4,5,0,1,2,3)) (hcc:(P.cellsOf f0.type,P.cellsOf f1.type,P.cellsOf f2.type,P.cellsOf g0.type,P.cellsOf g1.type,P.cellsOf g2.type,P.cellsOf g3.type)=(4,1,1,1,1,1,1)) (hc:P.cellsOf t=6)
  (hval:Value.okWide P aeZ r b0 t v) (h:DataW.Trod enc P aeZ 0 sp held t v dd ps):
  ∃(x0 x1 x2 x5:O)(s s':Sl)(d d':DataW H)(p p':J MemPlace),v= .agg #[.z x0,.z x1,.z x2,s.v,s'.v,.z x5]/\(Lit.int .i64 x0).wf=V/\(Lit.int .i64 x1).wf=V/\(Lit.int .i64 x2).wf=V/\(Lit.int .i64 x5).wf=V/\
   DataW.Trod enc P aeZ 0 sp held g3.type s.v d p/\DataW.Trod enc P aeZ 0 sp held f1.type s'.v d' p':=by
 simp only[Prod.mk.injEq]at ho hcc;obtain⟨o0,o1,o2,q0,q1,q2,q3⟩:=ho;obtain⟨c0,c1,c2,r0,r1,r2,r3⟩:=hcc;obtain⟨cs,rfl,hsz⟩:=okWide_struct ht hval;obtain⟨x0,x1,x2,x3,x4,x5,rfl⟩:∃x0 x1 x2 x3 x4 x5,cs= #[x0,x1,x2,x3,x4,x5]:=by
  obtain⟨l⟩:=cs
  match l,(hsz.trans hc)with
  | [c0,c1,c2,c3,c4,c5],_=>exact⟨c0,c1,c2,c3,c4,c5,U⟩
 obtain⟨fuel,hf⟩:=h;obtain⟨xs,n,_,_,hl,hlen,hfs⟩:=DataW.trod_struct ht hf
 match xs,hlen with
 | [y0,y1,y2],_=>
  have k0:=hfs 0 f0 U;have k1:=hfs 1 f1 U;have k2:=hfs 2 f2 U;simp only[o0,o1,o2,c0,c1,c2,Value.cells]at k0 k1 k2;simp at k0 k1 k2;obtain⟨zs,n',_,_,_,hlen',hgs⟩:=DataW.trod_struct hb k0
  match zs,hlen' with
  | [z0,z1,z2,z3],_=>
   have j0:=hgs 0 g0 U;have j1:=hgs 1 g1 U;have j2:=hgs 2 g2 U;have j3:=hgs 3 g3 U;simp only[q0,q1,q2,q3,r0,r1,r2,r3]at j0 j1 j2 j3;simp at j0 j1 j2 j3;obtain⟨n0,e0,_,w0⟩:=DataW.trod_int h0 j0;obtain⟨n1,e1,_,w1⟩:=DataW.trod_int h1 j1;obtain⟨n2,e2,_,w2⟩:=DataW.trod_int h2 j2;obtain⟨a3,l3,k3,e3⟩:=Go.Joins.slice_form h3 j3;obtain⟨a4,l4,k4,e4⟩:=Go.Joins.slice_form h4 k1;obtain⟨n5,e5,_,w5⟩:=DataW.trod_int h5 k2;simp only[List.cons.injEq,and_true]at e0 e1 e2 e3 e4 e5;subst e0;subst e1;subst e2;subst e3;subst e4;subst e5;exact⟨n0,n1,n2,n5,⟨a3,l3,k3⟩,⟨a4,l4,k4⟩,z3.1,y1.1,z3.2,y1.2,U,w0,w1,w2,w5,⟨n',by simpa [Value.cells]using j3⟩,⟨n,by simpa [Value.cells]using k1⟩⟩
end
end Go.Vc
