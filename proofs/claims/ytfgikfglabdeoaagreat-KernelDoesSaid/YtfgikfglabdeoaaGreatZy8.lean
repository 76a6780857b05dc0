/- What the row rests on: the declarations that it needs, out of my texts (part 8). -/
import Derived.Test.YtfgikfglabdeoaaGreatZy7
open Bool renaming false->G,true->Z
open Decidable renaming decide->V
open Go renaming Addr->qg,Operand->qD,TypeId->qi,TypeInfo->qL,Value->Q,World->J
open Go.IntKind renaming i64->qf,u64->qv
open Go.Proofs.Tryz renaming prog->qe,t173->aaT,t177->aaU,t3->qF,t320->abl,t98->aaN,t99->aaV,underlying101->abk,underlying104->abi,underlying105->abj,underlying22->qG
open Option renaming none->N,some->S
open _root_ renaming Bool->W,Int->O,List->Y,Nat->X,Option->qh,True->I,absurd->qj,beq_iff_eq->qH,congrArg->qz,decide_eq_false->qm,decide_eq_true->qu,decide_eq_true_eq->qB,if_neg->F,if_pos->qd,or_false->qI,rfl->U
open Go.Proofs.Tryz
open Bool renaming and_eq_true->LO,and_true->NO,eq_iff_iff->Nh,false_or->N8,not_eq_true'->N2,or_eq_true->MC
open Int renaming eq_ofNat_of_zero_le->LB,le_refl->Po,toNat_natCast->Lw
open List renaming any_eq_false->Ny,append_assoc->LN,append_nil->LQ,drop_drop->ML,drop_eq_getElem_cons->Mr,drop_of_length_le->MX,drop_zero->M3,ext_getElem?->L5,getElem?_eq_none->L0,getElem?_eq_some_iff->Lu,getElem_mem->Mq,length_append->LC,length_cons->LL,length_map->L3,length_take->LX,map_append->LU,mem_append->Mm,mem_cons_self->MH,mem_iff_getElem?->Mp,mem_of_getElem?->L4,mem_reverse->Ol,mem_singleton->Mk,nil_append->Mw,nodup_append->Np,replicate->Ly,set_cons_succ->LM,set_cons_zero->Mf,take_add_one->LJ,take_append_drop->Ma,take_of_length_le->Lz,take_zero->MU,zipWith->Lx
open Nat renaming le_refl->Lv,le_succ->MY,le_trans->LY,min_eq_left->Ms,sub_self->MV,zero_add->LF,zero_le->MN
set_option maxRecDepth 100000
set_option maxHeartbeats 4000000
set_option linter.all false
namespace Go.Vc
open Go.Proofs
section
variable{T:Sl->Y lM->aH}{M abz B:X}{w0 w:J}{R L:Y aH}{rb:X}{k:ag}{d:Told}{dg:oX}{s:Sl}
theorem AB{T el:qi}{inf:qL}{ys:Y X}{y:X}{c:X}{k:Sl->Pw}[abw:cu s L X bS ys][abq:fh (af bS s ys) L R](hu:qe.underlying T=S (.slice el))(hi:qe.info? el=S inf)(hz:inf.zero=S (.pointer N))(hsz:inf.size=1)(hb:inf.bytes=8)
  (h:Ow B w0 w (aa c [.q y]::L)) (hbig:ys.length<=1000000000) (hk:∀s' w',s'.len=ys.length+1->Ow B w0 w' (af bS s' (ys++ [y])::R)->k s' w'):
  ∃s' w',aM qe [T,T] T s.v (.slice (S c.p) 1 1) w s' w'/\k s' w':=
 Ow.eL (E:=bS) (y:=y) hu hi hz hsz U (by rw[hb];decide) h (by rw[hb];omega) hk
theorem Bn{core:O}{c:Call}{at_:X}{K:O->Pw}(hk:ba abz k)(hN:abz<=100000)(hr:k.zH core c.a c.b)(h:Ow B w0 w (cv M rb k d::R))
  (hK:∀w',Ow B w0 w' (cv M rb (k.made core c.a c.b at_).2 d::R)->K (k.made core c.a c.b at_).1 w'):T0 rb.o core c.ask c.at_ c.ao c.a c.b c.c (at_:O) K w:=by
 apply aat;have nu:=hk.nu;have ne:=hk.ne;have nn:=hk.nn;have ns:=hk.ns;have nf:=hk.nf;have nt:=hk.nt;obtain⟨r1,r2,r3⟩:=hr;unfold ag.made at hK;refine h.a λz w1 h=>?_;obtain⟨x,h⟩:=iz h.cq;refine h.l2 U ?_;refine dE (λe=>?_) (λe=>?_)
 .rw[qd e]at hK
  obtain⟨bn,hbn⟩:=LB (r1 e);rw[hbn,Lw]at hK;refine h.dr λw h=>?_;refine⟨_,U,x.su,h.aE U,_,h.aE U,h.al λw2 h=>⟨?_,trivial⟩,trivial⟩
  generalize w.heap.size=g at h|-;have h:Ow B w0 w2 (aa g [.y (((show nP from ⟨at_,bn,0⟩).base:X):O),.z (((show nP from ⟨at_,bn,0⟩).bits:X):O),.y (((show nP from ⟨at_,bn,0⟩).used:X):O)]::_):=h.xg (by rw[hbn];rfl);refine yD (s:=x.su) (y:=⟨at_,bn,0⟩) h om λs' w hs' h=>⟨_,U,?_,trivial⟩
  refine h.fK U U λw h=>?_;refine⟨_,U,s',h.aE U,?_⟩;rw[hs',show qf.wrap (((k.u.length+1:X):O)-1)=(k.u.length:O)from by rw[wr om om];omega];exact hK w (aY { x with su:=s'} h.sub:Ow B w0 w (cv M rb { k with u:=k.u++ [⟨at_,bn,0⟩]} d::R))
 rw[F e]at hK;refine dE (λe2=>?_) (λe2=>?_)
 .rw[qd e2]at hK
  obtain⟨b1,b2,b3⟩:=r2 e2;refine h.dr λw h=>?_;refine⟨_,U,_,h.aF U,_,h.aE U,Sl.lD (h.pick (A:=Sl.bf x.n k.bits k.H)) λw h=>?_,trivial⟩;exact hK w (aY x h.sub:Ow B w0 w (cv M rb { k with bits:=(Sl.eD k.bits c.b).2.2} d::R))
 rw[F e2]at hK;refine dE (λe3=>?_) (λe3=>?_)
 .rw[qd e3]at hK
  refine⟨_,U,h.l2 U (Th.lF hk.inv.ok (h.pick (A:=Th.bN x.th k.t)) λw h=>?_)⟩;exact hK w (aY x h.sub:Ow B w0 w (cv M rb { k with t:=(k.t.cw 0 core).2.2} d::R))
 rw[F e3]at hK;refine dE (λe4=>?_) (λe4=>?_)
 .rw[qd e4]at hK
  have hpl:=(h.pick (A:=au cU x.pe k.ends)).cA;refine⟨_,U,x.se,h.aE U,h.a λg w2 h=>?_⟩;have h:=FT h;refine h.a λg2 w3 h=>?_;refine AB (s:=x.se) (y:=g) (inf:=Tryz.t146) underlying53 qa qa qa qa h om λs' w hs' h=>⟨_,U,?_⟩
  refine h.fK U U λw h=>?_;refine⟨_,U,s',h.aE U,?_⟩;rw[hs',hpl,show qf.wrap (((k.ends.length+1:X):O)-1)=(k.ends.length:O)from by rw[wr om om];omega];have h:Ow B w0 w (cU g ⟨[],G⟩::au cU x.pe k.ends::_):=(h.pick (A:=au cU x.pe k.ends)).pick;have h:=h.oI;exact hK w (aY { x with se:=s',pe:=x.pe++ [g]} h.sub:Ow B w0 w (cv M rb { k with ends:=k.ends++ [⟨[],G⟩]} d::R))
 rw[F e4]at hK;refine dE (λe5=>?_) (λe5=>?_)
 .rw[qd e5]at hK
  have hpl:=(h.pick (A:=au (bQ M) x.pn k.notes)).cA;refine⟨_,U,x.sn,h.aE U,h.a λg w2 h=>?_⟩;have h:=DP (abz:=M) h;refine h.a λg2 w3 h=>?_;refine AB (s:=x.sn) (y:=g) (inf:=Tryz.t151) underlying54 qa qa qa qa h om λs' w hs' h=>⟨_,U,?_⟩
  refine h.fK U U λw h=>?_;refine⟨_,U,s',h.aE U,?_⟩;rw[hs',hpl,show qf.wrap (((k.notes.length+1:X):O)-1)=(k.notes.length:O)from by rw[wr om om];omega];have h:Ow B w0 w (bQ M g ⟨0,G,[]⟩::au (bQ M) x.pn k.notes::_):=(h.pick (A:=au (bQ M) x.pn k.notes)).pick;have h:=h.oI;exact hK w (aY { x with sn:=s',pn:=x.pn++ [g]} h.sub:Ow B w0 w (cv M rb { k with notes:=k.notes++ [⟨0,G,[]⟩]} d::R))
 rw[F e5]at hK;refine dE (λe8=>?_) (λe8=>?_)
 .rw[qd e8]at hK
  have hpl:=(h.pick (A:=au Tb.dv x.ps k.ae)).cA;refine⟨_,U,x.ss,h.aE U,h.a λg w2 h=>?_⟩;have h:Ow B w0 w2 (aa g [Tb.bg z0,Tb.bg z0]::_):=h;have h:Ow B w0 w2 (Tb.dv g Tb.iM::_):=Ow.gY (sT:=z0) (sP:=z0) Tb.iR.new (Ow.cZ (E:=Tb.iP) (Ow.cZ (E:=Tb.aK) h)).kh;refine h.a λg2 w3 h=>?_;refine AB (s:=x.ss) (y:=g) (inf:=Tryz.t83) underlying55 qa qa qa qa h om λs' w hs' h=>⟨_,U,?_⟩
  refine h.fK U U λw h=>?_;refine⟨_,U,s',h.aE U,?_⟩;rw[hs',hpl,show qf.wrap (((k.ae.length+1:X):O)-1)=(k.ae.length:O)from by rw[wr om om];omega];have h:Ow B w0 w (Tb.dv g Tb.iM::au Tb.dv x.ps k.ae::_):=(h.pick (A:=au Tb.dv x.ps k.ae)).pick;have h:=h.oI;exact hK w (aY { x with ss:=s',ps:=x.ps++ [g]} h.sub:Ow B w0 w (cv M rb { k with ae:=k.ae++ [Tb.iM]} d::R))
 rw[F e8]at hK;refine dE (λe6=>?_) (λe6=>?_)
 .rw[qd e6]at hK
  refine⟨_,U,_,h.aE U,_,U,?_⟩;rw[show qf.wrap ((k.aS:O)+1)=((k.aS+1:X):O)from by rw[wr om om];omega];refine h.fK U U λw h=>?_;refine⟨_,U,h.l2 U ?_⟩;rw[show qf.wrap (((k.aS+1:X):O)-1)=(k.aS:O)from by rw[wr om om];omega];exact hK w (aY x h.sub:Ow B w0 w (cv M rb { k with aS:=k.aS+1} d::R))
 rw[F e6]at hK;refine⟨_,U,_,h.aE U,_,U,?_⟩;rw[show qf.wrap ((k.cB:O)+1)=((k.cB+1:X):O)from by rw[wr om om];omega];refine h.fK U U λw h=>?_;refine⟨_,U,h.l2 U ?_⟩;rw[show qf.wrap (((k.cB+1:X):O)-1)=(k.cB:O)from by rw[wr om om];omega];exact hK w (aY x h.sub:Ow B w0 w (cv M rb { k with cB:=k.cB+1} d::R))
theorem xO{K:O->Pw}(hk:ba abz k)(hN:abz+64<=100000)(hs:(k.H dg.s).isSome=Z)(hsa:dg.s=(0,dg.call.at_))(hc:dg.c.kind=1)(ho:k.fe dg.c)(hcore:k.t.fC dg.core=Z)(h:Ow B w0 w (cv M rb k d::R))
  (hK:∀w',Ow B w0 w' (cv M rb (k.eS dg).2 d::R)->K (k.eS dg).1 w'):Tl rb.o dg.core dg.call.ask dg.call.at_ dg.call.ao dg.call.a dg.call.b dg.call.c dg.c.obj K w:=by
 apply aak;obtain⟨hu1,hu2⟩:=hk.ij ho.1 (ho.2.1 hc);have o0:=ho.1;have o1:=ho.2.1 hc;have hst:=kZ (d:=dg) hk hN hs hc ho hcore;have hpl:=hu2.place (kind:=dg.call.a) (bits:=dg.call.b) (n:=dg.call.c);unfold ag.eS at hK;refine h.a λcb w1 h=>?_;intro k11 hk11;have fin:∀(l:X)(s:Sl)(w:J),Ow B w0 w (cv M rb k d::aa l [.y ((bH (k.ij dg.c.obj) dg.call.a dg.call.b dg.call.c).2.1.base:O),.z ((bH (k.ij dg.c.obj) dg.call.a dg.call.b dg.call.c).2.1.bits:O),.y ((bH (k.ij dg.c.obj) dg.call.a dg.call.b dg.call.c).2.1.used:O)]::af wE s (bH (k.ij dg.c.obj) dg.call.a dg.call.b dg.call.c).1::
   aa cb dg.call.cl::R)->k11 s l.p (bH (k.ij dg.c.obj) dg.call.a dg.call.b dg.call.c).2.2 w:=λl s w h=>by
  apply hk11;generalize bH (k.ij dg.c.obj) dg.call.a dg.call.b dg.call.c=P at h hK hst hpl|-;obtain⟨ats,left,er⟩:=P;dsimp only at h hK hst hpl|-;by_cases h0:er≠0
  .rw[qd h0]at hK
   exact iv h0 (hK w h.sub)
  rw[F h0]at hK;have h0:er=0:=om
  obtain⟨p1,p2,p3,p4,p5,p6⟩:=hpl h0;refine fa h0 ⟨_,h.aE U,h.l2 U ?_⟩;obtain⟨cn,hcn⟩:=LB (show 0<=dg.call.c by omega);have hcn2:dg.call.c.toNat=cn:=om
  rw[hcn2]at hK;dsimp only[Call.cl]at h;rw[hcn]at h|-;refine oL (n:=cn) hk om h λw h=>?_;refine oU (λhf=>?_) (λhf=>?_)
  .rw[qd hf]at hK
   exact hK w h.sub
  rw[F om]at hK;intro k20 hk20;have kbad:((dg.call.a=2/\64<(k.bits.length:O)+dg.call.c)\/(dg.call.a=3/\64<(k.t.br.length:O)+dg.call.c))->∀w,Ow B w0 w (cv M rb k d::R)->k20 Z w:=λhb w h=>by rw[qd hb]at hK;apply hk20;exact bh U (hK w h)
  have kgood:¬((dg.call.a=2/\64<(k.bits.length:O)+dg.call.c)\/(dg.call.a=3/\64<(k.t.br.length:O)+dg.call.c))->∀w,Ow B w0 w (cv M rb k d::aa l [.y (left.base:O),.z (left.bits:O),.y (left.used:O)]::af wE s ats::
   aa cb [.z dg.call.ask,.z dg.call.at_,.z dg.call.ao,.z dg.call.a,.z dg.call.b,.z (cn:O)]::R)->k20 G w:=λhb w h=>by
   rw[F hb]at hK;have hst:=hst h0 (by rw[hcn2];exact hf) hb;apply hk20;refine bc U ?_;obtain⟨x,h⟩:=iz h;refine h.dr λw h=>?_;refine⟨_,U,x.su,h.aE U,h.nS U (h.cz (s:=x.su) (i:=dg.c.obj) (j:=dg.c.obj.toNat) om hu1 λa ha _ _=>⟨?_,trivial⟩)⟩
   refine h.sU (s:=x.su) (xs:=k.u) (i:=dg.c.obj) (j:=dg.c.obj.toNat) left om om ha λw h=>?_;have h:Ow B w0 w (cv M rb { k with u:=k.u.set dg.c.obj.toNat left} d::af wE s ats::
    aa cb [.z dg.call.ask,.z dg.call.at_,.z dg.call.ao,.z dg.call.a,.z dg.call.b,.z (cn:O)]::R):=aY x h.sub
   intro l35 hl35;have loop:∀(r j M':X)(kj:ag)(w:J),j+r=cn->tO dg.core dg.call.a dg.call.b dg.call.ao dg.s (ats.drop j) j M' kj->ag.makes dg.core dg.call.a dg.call.b dg.call.ao dg.s (ats.drop j) j kj=ag.makes dg.core dg.call.a dg.call.b dg.call.ao dg.s ats 0 { k with u:=k.u.set dg.c.obj.toNat left}->
     Ow B w0 w (cv M rb kj d::af wE s ats::
    aa cb [.z dg.call.ask,.z dg.call.at_,.z dg.call.ao,.z dg.call.a,.z dg.call.b,.z (cn:O)]::R)->l35 (j:O) w:=by
    intro r;induction r with
    |zero=>
     intro j M' kj w hj hm he h;apply hl35;refine⟨_,h.aE U,aw om ?_⟩;rw[MX om]at he;have he:kj=_:=he;refine hK w ?_;rw[<-he];exact h.sub
    |succ r ih=>
     intro j M' kj w hj hm he h;have ha:ats[j]?=S ats[j]:=gE om;rw[Mr (show j<ats.length from by omega)]at hm he;generalize ats[j]=at_ at ha hm he;apply hl35;refine⟨_,h.aE U,az om (h.dr λw h=>?_)⟩;refine h.dx U ?_;refine h.cz (s:=s) U ha λa2 ha2 h02 _=>⟨_,h02 _ U,?_,trivial⟩
     obtain⟨g1,g2,g3,g4⟩:=hm.room;refine Bn (c:=⟨dg.call.ask,dg.call.at_,dg.call.ao,dg.call.a,dg.call.b,(cn:O)⟩) (at_:=at_) hm.ok (by have:=hm.le;omega) g1 h λw h=>?_;refine⟨_,h.aE U,_,h.aE U,h.l2 U ?_⟩;have w0':=hm.w0;rw[wr om om];obtain⟨q1,q2,q3,q4,q5,q6,q7,q8,q9⟩:=hm.ok.made (by have:=hm.le;omega) hm.kind g1 g2;refine wJ (k:=(kj.made dg.core dg.call.a dg.call.b at_).2) (a:=dg.call.at_) (t:=dg.call.ao+(j:O)) (c:=⟨dg.call.a,(kj.made dg.core dg.call.a dg.call.b at_).1,7,0,0,0⟩) kr (by rw[q4];exact hm.ok.tok) (by rw[q4];have:=hm.ok.eC;omega) h λw h=>?_;rw[<-hsa]at h;rw[wI j om];exact ih (j+1) (M'+1) (kj.lz dg.core dg.call.a dg.call.b dg.call.ao dg.s j at_) w om hm.step he h
   exact loop cn 0 abz _ w om hst U h
  have hbl:=hk.rk.eC;have htl:=hk.inv.ok.eC;refine h.dr λw h=>?_;have h':=h;obtain⟨x,h⟩:=iz h;obtain⟨sl,ss,_,hsl,hn⟩:=(h.pick (A:=Sl.bf x.n k.bits k.H)).lg;obtain⟨lt,qt,bs,_,ht⟩:=(h.pick (A:=Th.bN x.th k.t)).BG;have hl1:=hn.aL sl;have hl2:=ht.aL lt;refine h.l2 U ?_;refine dE (λe2=>?_) (λe2=>?_)
  .refine ⟨_,U,_,h.aF U,_,U,sl,hn.aF U,h.l2 U ?_⟩
   rw[hl1,hsl,wr om om];refine bo (λe3=>?_) (λe3=>?_)
   .exact kbad (.inl ⟨e2,om⟩) w h'.sub
   .refine h.l2 U ?_
    refine nQ om ?_;exact kgood om w h'
  .refine h.l2 U ?_
   refine dE (λe3=>?_) (λe3=>?_)
   .refine ⟨_,U,_,h.aE U,_,U,lt,ht.aF U,h.l2 U ?_⟩
    rw[hl2,wr om om];by_cases e4:64<(k.t.br.length:O)+dg.call.c
    .rw[qu (show(k.t.br.length:O)+(cn:O)>64 by omega)]
     exact kbad (.inr ⟨e3,om⟩) w h'.sub
    .rw[qm (show ¬(k.t.br.length:O)+(cn:O)>64 by omega)]
     exact kgood om w h'
   .exact kgood om w h'
 obtain⟨x,h⟩:=iz h.cq;refine h.dr λw h=>?_;refine⟨_,U,x.su,h.aE U,h.cz (s:=x.su) (i:=dg.c.obj) (j:=dg.c.obj.toNat) om hu1 λa ha _ hcu=>?_⟩;refine⟨_,hcu 0 _ U,_,hcu 1 _ U,_,hcu 2 _ U,⟨_,h.aE U,_,h.aE U,_,h.aE U,?_,?_,trivial⟩⟩
 .refine sO hu2 h λs w h=>?_
  refine⟨h.al λw' h=>⟨?_,trivial⟩,trivial⟩
  generalize w.heap.size=l at h|-;refine h.aA U U λw h=>?_;exact fin l s w (aY x h.sub)
 .refine h.al λw' h=>⟨?_,trivial⟩
  generalize w.heap.size=l at h|-;refine sO hu2 h λs w h=>?_;refine⟨h.aA U U λw h=>?_,trivial⟩;exact fin l s w (aY x h.sub)
theorem Ih{w:J}{A:qg}{x:Slot × cN}{f:O->O->O->O->O->O->Prop}(g:∀c v,(Sl.dW.enc x)[c]?=S v->w.cell? (A.add c)=S v)(hf:f x.2.kind x.2.obj x.2.ar x.2.ay x.2.guard x.2.bits):
  ax w (A.add 2) 0 [.o,.o,.o,.u,.u,.o] f:=by
 have g2:∀j v,(Sl.dW.enc x)[2+j]?=S v->w.cell? ((A.add 2).add j)=S v:=λj v h=>by rw[BW];exact g _ v h
 exact⟨_,g2 0 _ U,_,g2 1 _ U,_,g2 2 _ U,_,g2 3 _ U,_,g2 4 _ U,_,g2 5 _ U,hf⟩
theorem GW{w:J}{A:qg}{x:O × Tb.Pg}{f:O->O->Prop}(g:∀c v,(Tb.aK.enc x)[c]?=S v->w.cell? (A.add c)=S v)(hf:f x.2.1 x.2.2):ax w (A.add 1) 0 [.o,.o] f:=by
 have g2:∀j v,(Tb.aK.enc x)[1+j]?=S v->w.cell? ((A.add 1).add j)=S v:=λj v h=>by rw[BW];exact g _ v h
 exact⟨_,g2 0 _ U,_,g2 1 _ U,hf⟩
theorem iA(h:Ow B w0 w (gI T M rb k d::R)){n:O}{m:Tb.dV}(h0:0<=n)(hm:k.ae[n.toNat]?=S m):∃(ss:Sl)(p:X)(abp:aH),w.cell? (rb.p.add 7)=S ss.v/\ss.len=k.ae.length/\
  (∃a,ss.a=S a/\0<=n/\n<(ss.len:O)/\w.cell? (a.add (n.toNat*1))=S (.q p))/\Ow B w0 w (Tb.dv p m::abp::R)/\
  ∀m' w' aby,Ow B w0 w' (Tb.dv p m'::abp::aby)->Ow B w0 w' (gI T M rb { k with ae:=k.ae.set n.toNat m'} d::aby):=by
 obtain⟨x,h⟩:=iz h;have hpl:=(h.pick (A:=au Tb.dv x.ps k.ae)).cA;have hss:=h.aL x.ss;have hlt:=(Lu.1 hm).1;have hp:x.ps[n.toNat]?=S x.ps[n.toNat]:=gE om;generalize x.ps[n.toNat]=p at hp;obtain⟨a,ha,_,_,hc⟩:=dG (s:=x.ss) (i:=n) (j:=n.toNat) (abx:=λa=>w.cell? (a.add (n.toNat*1))=S (.q p)) h om hp (λa _ hc=>hc);refine⟨x.ss,p,cj [cj ((Lx Tb.dv x.ps k.ae).eraseIdx n.toNat),aa rb (Gy x k.aS k.cB d),Sl.bf x.n k.bits k.H,Tr.cD x.t k.T,Th.bN x.th k.t,cV x.ln k.ln,af df x.su k.u,af bS x.se x.pe,au cU x.pe k.ends,af bS x.sn x.pn,au (bQ M) x.pn k.notes,af bS x.ss x.ps,T x.sf d.forget],h.aE U,om,⟨a,ha,h0,om,hc⟩,?_,λm' w' aby h=>?_⟩
 .have h:=(h.pick (A:=au Tb.dv x.ps k.ae)).s8 hp hm
  exact Ow.cq (Ow.bW (show Ow B w0 w (cj ((Lx Tb.dv x.ps k.ae).eraseIdx n.toNat)::aa rb (Gy x k.aS k.cB d)::Sl.bf x.n k.bits k.H::Tr.cD x.t k.T::Th.bN x.th k.t::cV x.ln k.ln::af df x.su k.u::af bS x.se x.pe::au cU x.pe k.ends::af bS x.sn x.pn::au (bQ M) x.pn k.notes::af bS x.ss x.ps::T x.sf d.forget::Tb.dv p m::R)from h.sub))
 .have h:Ow B w0 w' (cj ((Lx Tb.dv x.ps k.ae).eraseIdx n.toNat)::aa rb (Gy x k.aS k.cB d)::Sl.bf x.n k.bits k.H::Tr.cD x.t k.T::Th.bN x.th k.t::cV x.ln k.ln::af df x.su k.u::af bS x.se x.pe::au cU x.pe k.ends::af bS x.sn x.pn::au (bQ M) x.pn k.notes::af bS x.ss x.ps::T x.sf d.forget::Tb.dv p m'::aby):=(h.cq).star
  have h:Ow B w0 w' (Tb.dv p m'::cj ((Lx Tb.dv x.ps k.ae).eraseIdx n.toNat)::_):=(h.pick (A:=cj ((Lx Tb.dv x.ps k.ae).eraseIdx n.toNat))).pick;have h:=h.cd hpl hp;exact(aY x h.sub:Ow B w0 w' (gI T M rb { k with ae:=k.ae.set n.toNat m'} d::aby))
theorem jS(h:Ow B w0 w (gI T M rb k d::R)):∃ss:Sl,w.cell? (rb.p.add 7)=S ss.v/\ss.len=k.ae.length:=by obtain⟨x,h⟩:=iz h;have hpl:=(h.pick (A:=au Tb.dv x.ps k.ae)).cA;exact⟨x.ss,h.aE U,by rw[h.aL x.ss,hpl]⟩
theorem tC{α:Type}{P aby:Y α}{x y:α}{i:X}(hi:i=P.length):(P++x::aby).set i y=P++y::aby:=by subst hi;rw[List.set_append_right _ _ (Lv _),MV];rfl
theorem tB{α:Type}{P aby:Y α}{x:α}{i:X}(hi:i=P.length):(P++x::aby)[i]?=S x:=by subst hi;rw[List.getElem?_append_right (Lv _),MV];rfl
theorem uF{s:Slot}{K:Pw}(hk:ba abz k)(hN:abz<=200000)(hs:(k.H s).isSome=Z)(hF:d.forget.length+lB k.ae<=1000000000)(h:Ow B w0 w (cv M rb k d::R))
  (hK:∀w',Ow B w0 w' (cv M rb (k.gone s).2 { d with forget:=d.forget++(k.gone s).1}::R)->K w'):Rr rb.o s.1 s.2 K w:=by
 apply aan;have hkt:=hk.taken hs;obtain⟨c,hc⟩:=Option.isSome_iff_exists.1 hs;unfold ag.gone at hK;rw[hc,Option.getD_some]at hK;have hth:Sl.aQ k.bits s=true:=lk hk.b0 (hk.held s c hc).1;refine h.a λc0 w1 h=>?_;refine h.dr λw h=>?_;obtain⟨x,h⟩:=iz h.cq;refine⟨_,U,h.l2 U (h.aR U ⟨Tr.Bv (s:=s) hk.tok (h.pick (A:=Tr.cD x.t k.T)) λw h=>?_,trivial⟩)⟩;intro k12 hk12;have fin:∀(cb:X)(w:J),Ow B w0 w (cv M rb (k.taken s) d::aa cb c.cells::R)->k12 cb.p w:=λcb w h=>by
  apply hk12;have hF2:d.forget.length+lB (k.taken s).ae<=1000000000:=hF;generalize k.taken s=kt at hkt hK hF2 h|-;have nsp:=LY hkt.ns hN;obtain⟨x,h⟩:=iz h;refine⟨_,U,h.l1 U (Sl.lC (h.pick (A:=Sl.bf x.n kt.bits kt.H)) λs2 hs2 w hih h=>?_)⟩;have e2:hs2=fi kt.H:=hih.uniq (pE λt c hc=>(hkt.held t c hc).1);subst e2;have h64:=rC kt.H;have hany:=wb kt.H c;have h:Ow B w0 w (cv M rb kt d::af Sl.dW s2 (fi kt.H)::aa cb c.cells::R):=aY x h.sub;intro l19 hl19;have loop:∀(m j:X)(w:J),j+m=(fi kt.H).length->(∀i y,i<j->(fi kt.H)[i]?=S y->ag.lJ y.2 c=G)->Ow B w0 w (cv M rb kt d::af Sl.dW s2 (fi kt.H)::aa cb c.cells::R)->l19 (j:O) w:=by
   intro m;induction m with
   |succ m ih=>
    intro j w hj hno h;have hlen:=h.aL s2;have hx:(fi kt.H)[j]?=S (fi kt.H)[j]:=gE om;apply hl19;refine az om ?_;refine h.dr λw h=>?_;refine h.cz (s:=s2) U hx λa ha _ hc1=>Ih hc1 ?_;refine h.dx U ⟨?_,trivial⟩;refine Bs h λw h=>?_;cases e:ag.lJ (fi kt.H)[j].2 c with
    |true=>
     have hm:kt.more c=true:=hany.symm.trans (List.any_eq_true.2 ⟨_,Mq om,e⟩);rw[qd hm]at hK;refine bh U (hK w ?_);show Ow B w0 w (cv M rb kt { d with forget:=d.forget++ []}::R);rw[LQ];exact h.sub
    |false=>
     refine bc U ?_;rw[wr om om];refine ih (j+1) w om (λi y hi hy=>?_) h;by_cases e2:i=j
     .subst e2;rw[hx]at hy;cases hy;exact e
     .exact hno i y om hy
   |zero=>
    intro j w hj hno h;have hlen:=h.aL s2;apply hl19;refine aw om (h.l1 U ?_);have hm:kt.more c=false:=hany.symm.trans (by rw[Ny];intro y hy;obtain⟨i,hi⟩:=Mp.1 hy;simp[hno i y (by have:=(Lu.1 hi).1;omega) hi]);rw[F (by rw[hm];decide)]at hK;unfold ag.last at hK;have h:Ow B w0 w (cv M rb kt d::aa cb c.cells::R):=h.sub;intro k39 hk39;have fin41:∀(kk:ag)(w:J),kk.ae=kt.ae->(∀w',Ow B w0 w' (cv M rb (if c.kind=6 then { kk with ae:=(ag.bp c.obj 0 kk.ae).2}else if c.kind=7 then { kk with ae:=(ag.cO c.obj 0 kk.ae).2}else kk) { d with forget:=d.forget++(if c.kind=6 then(ag.bp c.obj 0 kk.ae).1 else if c.kind=7 then(ag.cO c.obj 0 kk.ae).1 else [])}::R)->K w')->
      Ow B w0 w (cv M rb kk d::aa cb c.cells::R)->k39 w:=λkk w hsp hK h=>by
     apply hk39;intro l41 hl41;have hsok:∀m∈kk.ae,Tb.eZ m:=by rw[hsp];exact hkt.xZ
     have hsl:kk.ae.length<=200000:=by rw[hsp];exact nsp
     have hFk:d.forget.length+lB kk.ae<=1000000000:=by rw[hsp];exact hF2
     clear hsp;have ex41:∀(i:X)(kk:ag)(dd:Told)(w:J),(c.kind=6->kk.ae.length<=i)->kk.ae.length<=200000->(c.kind=7->dd.forget.length+lB kk.ae<=1000000000)->(∀w',Ow B w0 w' (cv M rb (if c.kind=7 then { kk with ae:=(ag.cO c.obj 0 kk.ae).2}else kk) { dd with forget:=dd.forget++(if c.kind=7 then(ag.cO c.obj 0 kk.ae).1 else [])}::R)->K w')->
       Ow B w0 w (cv M rb kk dd::aa cb c.cells::R)->l41 (i:O) w:=λi kk dd w h6 hsl hb hK h=>by
      apply hl41;intro k44 hk44;have out:k44 G w:=by
       apply hk44;refine bc U ?_;intro l86 hl86;by_cases e7:c.kind=7
       .rw[qd e7,qd e7]at hK
        have hb:=hb e7;have loop:∀(r i:X)(w:J),i+r=kk.ae.length->Ow B w0 w (cv M rb { kk with ae:=(ag.cO c.obj 0 (kk.ae.take i)).2++kk.ae.drop i} { dd with forget:=dd.forget++(ag.cO c.obj 0 (kk.ae.take i)).1}::aa cb c.cells::R)->l86 (i:O) w:=by
         intro r;induction r with
         |zero=>
          intro i w hi h;apply hl86;intro k89 hk89;obtain⟨ss,hs7,hs8⟩:=jS h;rw[Lz om,MX om,LQ]at h;have hul:ss.len=kk.ae.length:=by rw[hs8];simp[jh];omega
          exact⟨_,U,ss,hs7,aw om (hk89 _ _ (bc U (hK w h.sub)))⟩
         |succ r ih=>
          intro i w hi h;have hm:kk.ae[i]?=S kk.ae[i]:=gE om;have hdr:kk.ae.drop i=kk.ae[i]::kk.ae.drop (i+1):=Mr om;generalize kk.ae[i]=m at hm hdr;have htk:kk.ae.take (i+1)=kk.ae.take i++ [m]:=by rw[LJ,hm];rfl
          have hPl:((ag.cO c.obj 0 (kk.ae.take i)).2).length=i:=by rw[jh,LX];omega
          have hpg1:=ra c.obj (kk.ae.take (i+1)) 0;have hpg2:lB (kk.ae.take (i+1))<=lB kk.ae:=by have:=tD (kk.ae.take (i+1)) (kk.ae.drop (i+1));rw[Ma]at this;omega
          have hsn:=oR c.obj m (kk.ae.take i) 0;rw[htk]at hpg1 hpg2;rw[hsn]at hpg1;rw[LF,LX,Ms om]at hsn hpg1;simp only[LC]at hpg1;rw[hdr]at h;generalize hP:(ag.cO c.obj 0 (kk.ae.take i)).2=P at h hPl hsn hpg1;generalize hG0:(ag.cO c.obj 0 (kk.ae.take i)).1=G0 at h hsn hpg1;have hlw:i<200000:=om
          apply hl86;intro k89 hk89;obtain⟨ss,hs7,hs8⟩:=jS h;have hs9:ss.len=kk.ae.length:=by rw[hs8];simp[hPl];omega
          refine⟨_,U,ss,hs7,az om (h.l1 U ?_)⟩;rw[show(c.kind==7)=Z from by simpa using e7];apply hk89;refine bh U ?_;intro l92 hl92;have places:∀(r j:X)(mj:Tb.dV)(abx:Y lM)(w:J),j+r=64->(abx++(ag.dH c.obj i r j mj).1=(ag.dH c.obj i 64 0 m).1)->((ag.dH c.obj i r j mj).2=(ag.dH c.obj i 64 0 m).2)->
            Ow B w0 w (cv M rb { kk with ae:=P++mj::kk.ae.drop (i+1)} { dd with forget:=dd.forget++G0++abx}::aa cb c.cells::R)->l92 (j:O) w:=by
           intro r;induction r with
           |zero=>
            intro j mj abx w hj hG hM h;apply hl92;refine aw om ?_;have hM:mj=_:=hM;have hG:abx++ []=_:=hG;rw[LQ]at hG;rw[hM,hG]at h;rw[wI i om];refine ih (i+1) w om ?_;rw[htk,hsn,LN P,<-LN dd.forget];exact h
           |succ r ih2=>
            intro j mj abx w hj hG hM h;apply hl92;refine az om ?_;obtain⟨s3,p3,Y3,g1,_,⟨a3,g3,g4,g5,g6⟩,h3,_⟩:=iA (n:=(i:O)) (m:=mj) h om (tB hPl.symm);refine⟨_,U,s3,g1,a3,g3,g4,g5,_,g6,Tb.rS h3 ?_⟩;intro k102 hk102;rw[ng]at hG hM;rw[wI j om]at hk102;have no:mj.at (j:O)≠S c.obj->k102 G w:=λhn=>by rw[F hn]at hG hM;apply hk102;refine bc U ?_;exact ih2 (j+1) mj abx w om hG hM h
            have yes:mj.at (j:O)=S c.obj->k102 Z w:=λhy=>by
             rw[qd hy]at hG hM;apply hk102;refine bh U ?_;obtain⟨s4,p4,Y4,f1,_,⟨a4,f3,f4,f5,f6⟩,h4,hback⟩:=iA (n:=(i:O)) (m:=mj) h om (tB hPl.symm);refine⟨_,U,s4,f1,a4,f3,f4,f5,_,f6,Tb.Bl h4 λs5 w h=>?_⟩;have h:=hback (mj.bw (j:O)).2.2 w (af Tb.aK s5 (mj.bw (j:O)).1::aa cb c.cells::R) h.sub;have h:Ow B w0 w (cv M rb { kk with ae:=(P++mj::kk.ae.drop (i+1)).set i (mj.bw (j:O)).2.2} { dd with forget:=dd.forget++G0++abx}::af Tb.aK s5 (mj.bw (j:O)).1::aa cb c.cells::R):=h;rw[tC hPl.symm]at h;intro l112 hl112;have hGl:=qz List.length hG;simp only[LC]at hGl;have hlines:(ag.aT i (mj.bw (j:O)).1).length=(mj.bw (j:O)).1.length:=by unfold ag.aT;rw[L3]
             have inner:∀(r q:X)(w:J),q+r=(mj.bw (j:O)).1.length->Ow B w0 w (cv M rb { kk with ae:=P++(mj.bw (j:O)).2.2::kk.ae.drop (i+1)} { dd with forget:=dd.forget++G0++(abx++ag.aT i ((mj.bw (j:O)).1.take q))}::af Tb.aK s5 (mj.bw (j:O)).1::aa cb c.cells::R)->l112 (q:O) w:=by
              intro r;induction r with
              |zero=>
               intro q w hq h;have hsl:=h.aL s5;apply hl112;refine aw om ?_;rw[Lz (l:=(mj.bw (j:O)).1) om]at h;exact ih2 (j+1) _ (abx++ag.aT i (mj.bw (j:O)).1) w om (by rw[LN];exact hG) hM h.sub
              |succ r ih3=>
               intro q w hq h;have hsl:=h.aL s5;have hx:(mj.bw (j:O)).1[q]?=S (mj.bw (j:O)).1[q]:=gE om;have htq:(mj.bw (j:O)).1.take (q+1)=(mj.bw (j:O)).1.take q++ [(mj.bw (j:O)).1[q]]:=by rw[LJ,hx];rfl
               generalize (mj.bw (j:O)).1[q]=y at hx htq;have hqlen:(dd.forget++G0++(abx++ag.aT i ((mj.bw (j:O)).1.take q))).length<=1000000000:=by
                have e8:(ag.aT i ((mj.bw (j:O)).1.take q)).length<=(mj.bw (j:O)).1.length:=by unfold ag.aT;rw[L3,LX];omega
                simp only[LC];omega
               apply hl112;refine az om ?_;refine h.dr λw h=>?_;refine h.cz (s:=s5) U hx λa ha h0 _=>⟨_,h0 _ U,?_⟩
               refine h.cz (s:=s5) U hx λa ha _ hc1=>GW hc1 ⟨?_,trivial⟩;refine kX (sp:=(i:O)) (pg:=y.1) (p1:=y.2.1) (p2:=y.2.2) hqlen h λw h=>?_;rw[wI q om];refine ih3 (q+1) w om ?_;have e9:dd.forget++G0++(abx++ag.aT i ((mj.bw (j:O)).1.take (q+1)))=dd.forget++G0++(abx++ag.aT i ((mj.bw (j:O)).1.take q))++ [⟨(i:O),y.1,y.2.1,y.2.2⟩]:=by rw[htq];unfold ag.aT;rw[LU];simp only[LN];rfl
               rw[e9];exact h
             refine inner _ 0 w (LF _) ?_;rw[MU];show Ow B w0 w (cv M rb { kk with ae:=P++(mj.bw (j:O)).2.2::kk.ae.drop (i+1)} { dd with forget:=dd.forget++G0++(abx++ [])}::_);rw[LQ];exact h
            cases hat:mj.at (j:O)with
            |none=>exact bc U (no (by rw[hat];simp))
            |some n=>
             refine bh U (h.l2 U ?_);show k102 (n==c.obj) w;by_cases en:n=c.obj
             .rw[show(n==c.obj)=Z from by simpa using en];exact yes (by rw[hat,en])
             .rw[show(n==c.obj)=G from by simpa using en];exact no (by rw[hat];simpa using en)
          refine places 64 0 m [] w (LF _) (Mw _) U ?_;rw[LQ];exact h
        refine loop kk.ae.length 0 w (LF _) ?_;rw[MU,M3];show Ow B w0 w (cv M rb { kk with ae:=[]++kk.ae} { dd with forget:=dd.forget++ []}::_);rw[Mw,LQ];exact h
       .rw[F e7,F e7,LQ]at hK
        apply hl86;intro k89 hk89;have o:k89 G w:=hk89 _ _ (bc U (hK w h.sub));obtain⟨ss,hs7,hs8⟩:=jS h;refine⟨_,U,ss,hs7,bo (λ_=>(h.l1 U ?_)) (λ_=>o)⟩;rw[show(c.kind==7)=G from by simpa using e7];exact o
      obtain⟨ss,hs7,hs8⟩:=jS h;refine⟨_,U,ss,hs7,bo (λe=>(h.l1 U ?_)) (λ_=>out)⟩;by_cases e6:c.kind=6
      .have:=h6 e6;omega
      .rw[show(c.kind==6)=G from by simpa using e6];exact out
     by_cases e6:c.kind=6
     .rw[qd e6,qd e6]at hK
      have loop:∀(r i:X)(w:J),i+r=kk.ae.length->Ow B w0 w (cv M rb { kk with ae:=(ag.bp c.obj 0 (kk.ae.take i)).2++kk.ae.drop i} { d with forget:=d.forget++(ag.bp c.obj 0 (kk.ae.take i)).1}::aa cb c.cells::R)->l41 (i:O) w:=by
       intro r;induction r with
       |zero=>
        intro i w hi h;rw[Lz om,MX om,LQ]at h;refine ex41 i { kk with ae:=(ag.bp c.obj 0 kk.ae).2} _ w (λ_=>by show(ag.bp c.obj 0 kk.ae).2.length<=i;rw[fy];omega) (by show(ag.bp c.obj 0 kk.ae).2.length<=_;rw[fy];exact hsl) (λe=>by omega) (λw h=>?_) h;rw[F (show ¬c.kind=7 by omega),F (show ¬c.kind=7 by omega),LQ]at h;exact hK w h
       |succ r ih=>
        intro i w hi h;have hm:kk.ae[i]?=S kk.ae[i]:=gE om;have hmm:kk.ae[i]∈kk.ae:=Mq _;have hdr:kk.ae.drop i=kk.ae[i]::kk.ae.drop (i+1):=Mr om;generalize kk.ae[i]=m at hm hmm hdr;have hsm:=hsok m hmm;have htk:kk.ae.take (i+1)=kk.ae.take i++ [m]:=by rw[LJ,hm];rfl
        have hPl:((ag.bp c.obj 0 (kk.ae.take i)).2).length=i:=by rw[fy,LX];omega
        have hpg1:=lq c.obj (kk.ae.take (i+1)) 0;have hpg2:lB (kk.ae.take (i+1))<=lB kk.ae:=by have:=tD (kk.ae.take (i+1)) (kk.ae.drop (i+1));rw[Ma]at this;omega
        have hsn:=lr c.obj m (kk.ae.take i) 0;rw[htk]at hpg1 hpg2;rw[hsn]at hpg1;rw[LF,LX,Ms om]at hsn hpg1;simp only[LC]at hpg1;rw[hdr]at h;generalize hP:(ag.bp c.obj 0 (kk.ae.take i)).2=P at h hPl hsn hpg1;generalize hG0:(ag.bp c.obj 0 (kk.ae.take i)).1=G0 at h hsn hpg1;apply hl41;intro k44 hk44;obtain⟨ss,hs7,hs8⟩:=jS h;have hs9:ss.len=kk.ae.length:=by rw[hs8];simp[hPl];omega
        refine⟨_,U,ss,hs7,az om (h.l1 U ?_)⟩;rw[show(c.kind==6)=Z from by simpa using e6];apply hk44;refine bh U ?_;refine h.dr λw h=>?_;obtain⟨s3,p3,Y3,g1,_,⟨a3,g3,g4,g5,g6⟩,h3,hback⟩:=iA (n:=(i:O)) (m:=m) h om (tB hPl.symm);refine⟨_,U,s3,g1,a3,g3,g4,g5,_,g6,_,h.aE U,Tb.xN h3 λs5 w h=>?_,trivial⟩;have h:=hback m w (af aq s5 (Tb.cy m.pg c.obj)::aa cb c.cells::R) h.sub;have h:Ow B w0 w (cv M rb { kk with ae:=(P++m::kk.ae.drop (i+1)).set i m} { d with forget:=d.forget++G0}::af aq s5 (Tb.cy m.pg c.obj)::aa cb c.cells::R):=h;rw[tC hPl.symm]at h;intro l55 hl55;have hfl:∀q:X,(Tb.cy m.pg c.obj)[q]?=((m.pg.filter λx=>x.2.1==c.obj)[q]?).map (·.1):=λq=>by unfold Tb.cy;rw[List.getElem?_map]
        have hfn:(Tb.cy m.pg c.obj).length=(m.pg.filter λx=>x.2.1==c.obj).length:=by unfold Tb.cy;rw[L3]
        have hll:(ag.aT i (m.pg.filter λx=>x.2.1==c.obj)).length=(m.pg.filter λx=>x.2.1==c.obj).length:=by unfold ag.aT;rw[L3]
        have inner:∀(r q:X)(w:J),q+r=(m.pg.filter λx=>x.2.1==c.obj).length->Ow B w0 w (cv M rb { kk with ae:=P++{ m with pg:=iK m.pg ((m.pg.filter λx=>x.2.1==c.obj).take q)}::kk.ae.drop (i+1)} { d with forget:=d.forget++G0++ag.aT i ((m.pg.filter λx=>x.2.1==c.obj).take q)}::af aq s5 (Tb.cy m.pg c.obj)::aa cb c.cells::R)->l55 (q:O) w:=by
         intro r;induction r with
         |zero=>
          intro q w hq h;have hsl:=h.aL s5;apply hl55;refine aw om ?_;rw[Lz (l:=m.pg.filter λx=>x.2.1==c.obj) om,yT hsm.kg]at h;rw[wI i om];refine ih (i+1) w om ?_;rw[htk,hsn,LN P,<-LN d.forget,List.singleton_append];exact h.sub
         |succ r ih2=>
          intro q w hq h;have hsl:=h.aL s5;have hx:(m.pg.filter λx=>x.2.1==c.obj)[q]?=S (m.pg.filter λx=>x.2.1==c.obj)[q]:=gE om;have hlk:=vW hsm.kg (λx=>x.2.1==c.obj) hx;have htq:(m.pg.filter λx=>x.2.1==c.obj).take (q+1)=(m.pg.filter λx=>x.2.1==c.obj).take q++ [(m.pg.filter λx=>x.2.1==c.obj)[q]]:=by rw[LJ,hx];rfl
          have hmem:(m.pg.filter λx=>x.2.1==c.obj)[q]∈m.pg:=(List.mem_filter.1 (Mq _)).1;have hfx:=hfl q;rw[hx]at hfx;generalize (m.pg.filter λx=>x.2.1==c.obj)[q]=y at hx hlk htq hmem hfx;have hbnd:=hsm.sD y hmem;have hun:(show Tb.dV from { m with pg:=iK m.pg ((m.pg.filter λx=>x.2.1==c.obj).take q)}).cg y.1=(y.2,0,{ m with pg:=iK m.pg ((m.pg.filter λx=>x.2.1==c.obj).take (q+1))}):=by unfold Tb.dV.cg;rw[F om,hlk,htq,vX]
          have hqlen:(d.forget++G0++ag.aT i ((m.pg.filter λx=>x.2.1==c.obj).take q)).length<=1000000000:=by unfold ag.aT at hpg1|-;simp only[LC,L3,LX]at hpg1|-;omega
          apply hl55;refine az om ?_;intro k58 hk58;have go:∀(g:X)(w:J),Ow B w0 w (aa g [.z y.2.1,.z y.2.2]::cv M rb { kk with ae:=P++{ m with pg:=iK m.pg ((m.pg.filter λx=>x.2.1==c.obj).take (q+1))}::kk.ae.drop (i+1)} { d with forget:=d.forget++G0++ag.aT i ((m.pg.filter λx=>x.2.1==c.obj).take q)}::af aq s5 (Tb.cy m.pg c.obj)::aa cb c.cells::R)->k58 g.p w:=λg w h=>by
           apply hk58;refine h.dr λw h=>?_;refine h.cz (s:=s5) U hfx λa ha h0 _=>⟨_,h0 _ U,?_⟩
           refine h.aR U ⟨?_,trivial⟩;refine kX (sp:=(i:O)) (pg:=y.1) (p1:=y.2.1) (p2:=y.2.2) hqlen h.cq λw h=>?_;rw[show qf.wrap ((q:O)+1)=((q+1:X):O)from by have:=eZ.Cn hsm;have:=List.length_filter_le (λx:O × Tb.Pg=>x.2.1==c.obj) m.pg;rw[wr om om];omega];refine ih2 (q+1) w om ?_;have e9:d.forget++G0++ag.aT i ((m.pg.filter λx=>x.2.1==c.obj).take (q+1))=d.forget++G0++ag.aT i ((m.pg.filter λx=>x.2.1==c.obj).take q)++ [⟨(i:O),y.1,y.2.1,y.2.2⟩]:=by rw[htq];unfold ag.aT;rw[LU];simp only[LN];rfl
           rw[e9];exact h.sub
          refine h.dr λw h=>?_;obtain⟨s3,p3,Y3,g1,_,⟨a3,g3,g4,g5,g6⟩,h3,hback⟩:=iA (n:=(i:O)) (m:={ m with pg:=iK m.pg ((m.pg.filter λx=>x.2.1==c.obj).take q)}) h om (tB hPl.symm);refine⟨_,U,s3,g1,a3,g3,g4,g5,_,g6,h.cz (s:=s5) U hfx λa ha h0 _=>⟨_,h0 _ U,?_,?_,trivial⟩⟩
          .refine Tb.jR h3 λw h=>?_
           rw[hun]at h|-;have h:Ow B w0 w (cv M rb { kk with ae:=(P++{ m with pg:=iK m.pg ((m.pg.filter λx=>x.2.1==c.obj).take q)}::kk.ae.drop (i+1)).set i { m with pg:=iK m.pg ((m.pg.filter λx=>x.2.1==c.obj).take (q+1))}} _::_):=hback _ w _ h;rw[tC hPl.symm]at h;refine⟨h.al λw2 h=>⟨?_,trivial⟩,trivial⟩
           generalize w.heap.size=g at h|-;refine h.aA U U λw h=>?_;exact go g w h
          .refine h3.al λw2 h=>⟨?_,trivial⟩
           generalize w.heap.size=g at h|-;refine Tb.jR h.cq λw h=>?_;rw[hun]at h|-;have h:Ow B w0 w (cv M rb { kk with ae:=(P++{ m with pg:=iK m.pg ((m.pg.filter λx=>x.2.1==c.obj).take q)}::kk.ae.drop (i+1)).set i { m with pg:=iK m.pg ((m.pg.filter λx=>x.2.1==c.obj).take (q+1))}} _::aa g [.z 0,.z 0]::_):=hback _ w _ h.kh.cq;rw[tC hPl.symm]at h;refine⟨h.aA U U λw h=>?_,trivial⟩;exact go g w h.cq
        refine inner _ 0 w (LF _) ?_;have e1:iK m.pg ((m.pg.filter λx=>x.2.1==c.obj).take 0)=m.pg:=by rw[MU,yU]
        have e2:ag.aT i ((m.pg.filter λx=>x.2.1==c.obj).take 0)= []:=rfl;rw[e1,e2,LQ];exact h
      refine loop kk.ae.length 0 w (LF _) ?_;rw[MU,M3];show Ow B w0 w (cv M rb { kk with ae:=[]++kk.ae} { d with forget:=d.forget++ []}::_);rw[Mw,LQ];exact h
     .rw[F e6,F e6]at hK
      exact ex41 0 kk d w (λe=>qj e e6) hsl (λ_=>hFk) hK h
    refine dE (λe3=>?_) (λe3=>?_)
    .rw[qd e3]at hK
     refine h.l2 U ?_;refine mJ (id:=c.obj) ⟨LY hkt.ne hN,LY hkt.nn hN⟩ h λw h=>?_;refine h.dr λw h=>?_;obtain⟨x,h⟩:=iz h;refine⟨_,U,_,h.aE U,_,h.aE U,Th.jA hkt.inv (h.pick (A:=Th.bN x.th (kt.dz c.obj).t)) λw h=>?_,trivial⟩;refine fin41 ((kt.dz c.obj).bZ (kt.t.bV c.obj).2) w U (λw h=>?_) (aY x h.sub);rw[F om,F om,F om,F om]at h;exact hK w h
    .rw[F e3]at hK
     refine fin41 kt w U (λw h=>?_) h;by_cases e6:c.kind=6
     .rw[qd e6,qd e6]at h
      rw[qd e6]at hK;exact hK w h
     .rw[F e6,F e6]at h
      rw[F e6]at hK;by_cases e7:c.kind=7
      .rw[qd e7,qd e7]at h
       rw[qd e7]at hK;exact hK w h
      .rw[F e7,F e7]at h
       rw[F e7]at hK;exact hK w h
  exact loop _ 0 w (LF _) (λi y hi=>by omega) h
 refine h.dr λw h=>?_;refine⟨_,U,h.l1 U (h.aR U ⟨?_,?_,trivial⟩)⟩
 .refine Sl.lE (s:=s) (h.pick (A:=Sl.bf x.n k.bits k.H)) (λe=>by rw[hth]at e;cases e) (λ_ e=>by rw[hc]at e;cases e) λ_ c2 hc2 w h=>?_
  rw[hc]at hc2;cases hc2;refine⟨h.al λw' h=>⟨?_,trivial⟩,trivial⟩
  generalize w.heap.size=sb at h|-;refine h.aA U U λw h=>?_;exact fin sb w (aY x h.sub)
 .refine h.al λw' h=>⟨?_,trivial⟩
  generalize w.heap.size=sb at h|-;refine Sl.lE (s:=s) (h.pick (A:=Sl.bf x.n k.bits k.H)) (λe=>by rw[hth]at e;cases e) (λ_ e=>by rw[hc]at e;cases e) λ_ c2 hc2 w h=>?_;rw[hc]at hc2;cases hc2;refine⟨h.aA U U λw h=>?_,trivial⟩;exact fin sb w (aY x h.sub)
theorem oM{w:J}{ask:O}{K:O->Pw}(h0:0<=ask)(h1:ask<17)(hK:K (ag.aG ask).1 w):QC ask K w:=by
 apply aaj;have hask:ask=0\/ask=1\/ask=2\/ask=3\/ask=4\/ask=5\/ask=6\/ask=7\/ask=8\/ask=9\/ask=10\/ask=11\/ask=12\/ask=13\/ask=14\/ask=15\/ask=16:=om
 rcases hask with rfl|rfl|rfl|rfl|rfl|rfl|rfl|rfl|rfl|rfl|rfl|rfl|rfl|rfl|rfl|rfl|rfl<;>
  (repeat' (first|(exact hK)|(refine og U ?_)|(refine nQ qb ?_)|(intro k2 hk2)|(apply hk2)))
theorem zF:∀r:Fin 8,((qf.wrap (((r.val:X):O).tdiv 2)).tmod 2==1)=V (di .i64 ((r.val:X):O) 2=2)/\((((r.val:X):O)).tmod 2==1)=V (di .i64 ((r.val:X):O) 1=1)/\di .i64 ((r.val:X):O) 0=0:=by decide +kernel
theorem DO{c:cN}(h:Sl.bY c=0):((qf.wrap (c.ar.tdiv 2)).tmod 2==1)=V (di .i64 c.ar 2=2)/\(c.ar.tmod 2==1)=V (di .i64 c.ar 1=1)/\di .i64 c.ar 0=0:=by
 have hb:0<=c.ar/\c.ar<=7:=by
  unfold Sl.bY at h;split at h
  .rename_i e;rw[e];decide
  split at h
  .cases h
  .rename_i hb
   unfold Sl.fU at hb;simp only[MC,LO,N2,qB,not_or,Bool.not_eq_false,LO]at hb;omega
 obtain⟨r,hr⟩:=LB hb.1;have:=zF ⟨r,om⟩;rw[hr];exact this
theorem DJ{core cur:O}{c:Call}{K:W->Pw}(hk:ba abz k)(h0:0<=c.ask)(h1:c.ask<17)(h:Ow B w0 w (cv M rb k d::R))
  (hF:∀w',k.asked core cur c=ag.tell 181 k->Ow B w0 w' (cv M rb k d::R)->K G w')
  (hT:∀w',k.dn c.at_ (ag.aG c.ask).1=Z->¬(c.ask=1/\(k.aZ c.at_).kind=1)->k.asked core cur c=k.asks ⟨core,cur,c,(0,c.at_),k.aZ c.at_⟩->Ow B w0 w' (cv M rb k d::R)->K Z w'):
  SA rb.o c.ask c.at_ c.ao c.a c.b c.c K w:=by
 apply aac;refine h.a λcb w1 h=>?_;refine h.l2 U ?_;refine jf hk h.cq λw x hx hr h=>?_;refine h.a λxb w2 h=>?_;refine h.aA U U λw h=>?_;have hA:k.asked core cur c=if k.dn c.at_ (ag.aG c.ask).1=G then ag.tell 181 k else if di .i64 (k.aZ c.at_).ar (ag.aG c.ask).2≠(ag.aG c.ask).2 then ag.tell 181 k else k.asks ⟨core,cur,c,(0,c.at_),k.aZ c.at_⟩:=rfl
 intro k19 hk19;have bad:∀w,k.dn c.at_ (ag.aG c.ask).1=G->Ow B w0 w (aa xb x.cells::cv M rb k d::aa cb c.cl::R)->k19 Z w:=λw e h=>by apply hk19;rw[qd e]at hA;exact bh U (hF w hA h.sub)
 have good:∀w,k.dn c.at_ (ag.aG c.ask).1=Z->Ow B w0 w (aa xb x.cells::cv M rb k d::aa cb c.cl::R)->k19 G w:=λw e h=>by
  apply hk19;have hxe:Sl.bY x=0:=by rw[hx];exact(hk.cap (gT e).1).2.2.2.2
  obtain⟨g2,g1,g0⟩:=DO hxe;rw[F (by rw[e];decide),<-hx]at hA;rw[<-hx]at hT;refine bc U ?_;intro k22 hk22;have no1:¬(c.ask=1/\x.kind=1)->k22 G w:=λhm=>by
   apply hk22;refine bc U ?_;intro k25 hk25;have t2:(ag.aG c.ask).2=2->k25 Z w:=λhn=>by
    apply hk25;refine bh U ⟨_,h.aE U,qb,qb,?_⟩;rw[g2];rw[hn]at hA;by_cases e2:di .i64 x.ar 2=2
    .rw[qu e2]
     rw[F (λhh=>hh e2)]at hA;exact hT w e hm hA h.sub
    .rw[qm e2]
     rw[qd e2]at hA;exact hF w hA h.sub
   have f2:(ag.aG c.ask).2≠2->k25 G w:=λhn2=>by
    apply hk25;refine bc U ?_;intro k29 hk29;have t1:(ag.aG c.ask).2=1->k29 Z w:=λhn=>by
     apply hk29;refine bh U ⟨_,h.aE U,qb,?_⟩;rw[g1];rw[hn]at hA;by_cases e2:di .i64 x.ar 1=1
     .rw[qu e2]
      rw[F (λhh=>hh e2)]at hA;exact hT w e hm hA h.sub
     .rw[qm e2]
      rw[qd e2]at hA;exact hF w hA h.sub
    have f1:(ag.aG c.ask).2=0->k29 G w:=λhn=>by apply hk29;refine bc U ?_;rw[hn,F (λhh=>hh g0)]at hA;exact hT w e hm hA h.sub
    refine h.l1 U ?_;refine dE (λe9=>t1 (by rw[e9];rfl)) (λe9=>(h.l1 U ?_));by_cases e11:c.ask=11
    .rw[show(c.ask==11)=Z from beq_iff_eq.2 e11];exact t1 (by rw[e11];rfl)
    .rw[show(c.ask==11)=G from beq_eq_false_iff_ne.2 e11]
     refine f1 ?_;have hask:c.ask=0\/c.ask=1\/c.ask=2\/c.ask=3\/c.ask=4\/c.ask=5\/c.ask=6\/c.ask=7\/c.ask=8\/c.ask=10\/c.ask=12\/c.ask=13\/c.ask=14\/c.ask=15\/c.ask=16:=om
     rcases hask with q|q|q|q|q|q|q|q|q|q|q|q|q|q|q<;>rw[q]at hn2|-<;>first|rfl|exact qj U hn2
   refine h.l1 U ?_;refine dE (λe8=>t2 (by rw[e8];rfl)) (λe8=>(h.l1 U ?_));by_cases e10:c.ask=10
   .rw[show(c.ask==10)=Z from beq_iff_eq.2 e10];exact t2 (by rw[e10];rfl)
   .rw[show(c.ask==10)=G from beq_eq_false_iff_ne.2 e10]
    refine f2 ?_;have hask:c.ask=0\/c.ask=1\/c.ask=2\/c.ask=3\/c.ask=4\/c.ask=5\/c.ask=6\/c.ask=7\/c.ask=9\/c.ask=11\/c.ask=12\/c.ask=13\/c.ask=14\/c.ask=15\/c.ask=16:=om
    rcases hask with q|q|q|q|q|q|q|q|q|q|q|q|q|q|q<;>rw[q]<;>decide
  refine h.l1 U ?_;refine dE (λe1=>(h.l1 U ?_)) (λe1=>no1 (λhh=>e1 hh.1));by_cases e2:x.kind=1
  .rw[show(x.kind==1)=Z from beq_iff_eq.2 e2]
   apply hk22;refine bh U (hF w ?_ h.sub);rw[hA,F (by rw[e1];exact λhh=>hh g0)];unfold ag.asks;dsimp only;rw[e1];show ag.tell _ _=_;unfold ag.mG;dsimp only;rw[qd e2]
  .rw[show(x.kind==1)=G from beq_eq_false_iff_ne.2 e2]
   exact no1 (λhh=>e2 hh.2)
 have hB:k.dn c.at_ (ag.aG c.ask).1=(V (x.kind≠0)&&(V ((ag.aG c.ask).1=0)||V (x.kind=(ag.aG c.ask).1))):=by rw[hx];rfl
 refine h.dr λw h=>?_;refine h.l1 U ?_;refine dE (λe0=>?_) (λe0=>?_)
 .have:=bad w (by rw[hB,e0];rfl) h
  exact⟨⟨⟨this,trivial⟩,this,trivial⟩,trivial⟩
 refine⟨_,h.aF U,oM h0 h1 (oU (λen=>?_) (λen=>?_)),trivial⟩
 .have last:k19 (x.kind !=(ag.aG c.ask).1) w:=by
   by_cases e3:x.kind=(ag.aG c.ask).1
   .rw[show(x.kind !=(ag.aG c.ask).1)=G from by simpa using e3]
    exact good w (by rw[hB,qu e0,qu e3];simp) h
   .rw[show(x.kind !=(ag.aG c.ask).1)=Z from by simpa using e3]
    exact bad w (by rw[hB,qm e3,qm en];simp) h
  refine⟨_,h.aF U,⟨_,h.aF U,?_,trivial⟩,?_,trivial⟩
  .exact oM h0 h1 last
  .exact oM h0 h1 ⟨_,h.aF U,last⟩
 .have:=good w (by rw[hB,en,qu e0];rfl) h
  exact⟨⟨this,trivial⟩,this,trivial⟩
theorem Bz{id:O}{K:O->Pw}(hi:Th.bF (-1) k.t)(h:Ow B w0 w (cv M rb k a8::R))
  (hK:∀w' d',d'.w=0->d'.dY=(k.dQ id).2.1->d'.forget= []->Ow B w0 w' (cv M rb (k.dQ id).2.2 d'::R)->K (k.dQ id).1 w'):Pt rb.o id K w:=by
 refine BA hi h λw h=>?_;by_cases e:(k.dQ id).1=0
 .rw[qd e]at h
  refine hK w _ U ?_ U h;show id=(if _ then _ else _)
  rw[qd (show (k.t.bJ id).1=0 from e)]
 .rw[F e]at h
  refine hK w _ U ?_ U h;show -1=(if _ then _ else _)
  rw[F (show ¬(k.t.bJ id).1=0 from e)]
theorem xQ{dg:oX}{K:O->Pw}(hk:ba abz k)(hN:abz<=200000)(ha:5<=dg.call.ask)(hb:dg.call.ask<8)(hc:dg.c=k.aZ dg.call.at_)(h:Ow B w0 w (cv M rb k a8::R))
  (hK:∀w' d',d'.w=(k.asks dg).1.w->d'.dY=(k.asks dg).1.dY->d'.forget=(k.asks dg).1.forget->Ow B w0 w' (cv M rb (k.asks dg).2 d'::R)->K (k.asks dg).1.e w'):
  SC rb.o dg.call.ask dg.call.at_ dg.call.ao dg.call.a dg.call.b dg.call.c K w:=by
 apply aae;refine h.a λcb w1 h=>?_;refine h.l2 U ?_;refine jf hk h.cq λw x hx hr h=>?_;rw[<-hc]at hx;subst hx;obtain⟨xx,h⟩:=iz h;refine⟨_,U,h.l2 U (Th.mP (h.pick (A:=Th.bN xx.th k.t)) λw t2 e2 h=>?_)⟩;have h:Ow B w0 w (cv M rb k a8::aa cb dg.call.cl::R):=aY xx h.sub;refine h.a λtb w2 h=>?_;refine h.aA U U λw h=>?_;refine h.l1 U ?_;refine dE (λe5=>?_) (λe5=>?_)
 .have ea:k.asks dg=ag.dC (k.resume dg):=by unfold ag.asks;rw[e5];rfl
  rw[ea]at hK;unfold ag.dC at hK;refine h.l1 U ?_;have wk:∀(k2:ag)(w:J),Th.bF (-1) k2.t->k.resume dg=k2.dQ dg.c.obj->Ow B w0 w (cv M rb k2 a8::R)->Pt rb.o dg.c.obj (λr w=>K r w) w:=λk2 w hi he h=>by rw[he]at hK;exact Bz hi h hK
  have hst:(k.t.cH dg.c.obj=Z/\(k.t.th dg.c.obj).st=3)↔t2.st=3:=by
   rw[e2];cases hT:k.t.cH dg.c.obj with
   |true=>simp
   |false=>simp[Th.GA]
  by_cases e3:t2.st=3
  .refine bh (beq_iff_eq.2 e3) ?_
   refine mJ (id:=dg.c.obj) ⟨LY hk.ne hN,LY hk.nn hN⟩ (h.sub:Ow B w0 w (cv M rb k a8::R)) λw h=>?_;exact wk (k.dz dg.c.obj) w hk.inv (by unfold ag.resume;rw[qd (hst.2 e3)]) h
  .refine bc (beq_eq_false_iff_ne.2 e3) ?_
   exact wk k w hk.inv (by unfold ag.resume;rw[F (λhh=>e3 (hst.1 hh))]) h.sub
 refine dE (λe6=>?_) (λe6=>?_)
 .have ea:k.asks dg=ag.tell (k.t.bV dg.c.obj).1 ((k.dz dg.c.obj).bZ (k.t.bV dg.c.obj).2):=by unfold ag.asks;rw[e6];rfl
  rw[ea]at hK;refine mJ (id:=dg.c.obj) ⟨LY hk.ne hN,LY hk.nn hN⟩ (h.sub:Ow B w0 w (cv M rb k a8::R)) λw h=>?_;obtain⟨xx,h⟩:=iz h;refine⟨_,U,h.l2 U (Th.jA hk.inv (h.pick (A:=Th.bN xx.th (k.dz dg.c.obj).t)) λw h=>?_)⟩;exact hK w a8 U U U (aY xx h.sub:Ow B w0 w (cv M rb ((k.dz dg.c.obj).bZ (k.t.bV dg.c.obj).2) a8::R))
 .have e7:dg.call.ask=7:=om
  have ea:k.asks dg=ag.tell (k.t.fO dg.c.obj dg.call.a).1 (k.bZ (k.t.fO dg.c.obj dg.call.a).2):=by unfold ag.asks;rw[e7];rfl
  rw[ea]at hK;refine h.dr λw h=>?_;obtain⟨xx,h⟩:=iz h.cq;refine⟨_,U,_,h.aE U,_,h.aE U,Th.ti hk.inv (h.pick (A:=Th.bN xx.th k.t)) λw h=>?_,trivial⟩;exact hK w a8 U U U (aY xx h.sub:Ow B w0 w (cv M rb (k.bZ (k.t.fO dg.c.obj dg.call.a).2) a8::R))
theorem Bk{K:O->Pw}(hk:ba abz k)(hN:abz+64<=100000)(ha:0<=dg.call.ask)(hb:dg.call.ask<5)(hs:dg.s=(0,dg.call.at_))(hc:dg.c=k.aZ dg.call.at_)(hH:k.H dg.s=S dg.c)(hr:Sl.fg dg.c)(ho:k.fe dg.c)(hcore:k.t.fC dg.core=Z)
  (hkind:(ag.aG dg.call.ask).1≠0->dg.c.kind=(ag.aG dg.call.ask).1) (hm1:dg.call.ask=1->dg.c.kind≠1) (h:Ow B w0 w (cv M rb k a8::R))
  (hK:∀w' d',d'.w=(k.asks dg).1.w->d'.dY=(k.asks dg).1.dY->d'.forget=(k.asks dg).1.forget->Ow B w0 w' (cv M rb (k.asks dg).2 d'::R)->K (k.asks dg).1.e w'):
  SB rb.o dg.core dg.call.ask dg.call.at_ dg.call.ao dg.call.a dg.call.b dg.call.c K w:=by
 apply aad;have hsome:(k.H dg.s).isSome=true:=by rw[hH];rfl
 refine h.a λcb w1 h=>?_;intro k10 hk10;have fin:∀(xb sb:X)(w:J),Ow B w0 w (cv M rb k a8::aa xb dg.c.cells::aa sb [.z 0,.z dg.call.at_]::aa cb dg.call.cl::R)->k10 xb.p sb.p w:=λxb sb w h=>by
  apply hk10;refine h.l1 U ?_;refine dE (λe0=>?_) (λe0=>?_)
  .have ea:k.asks dg=ag.tell (k.eS dg).1 (k.eS dg).2:=by unfold ag.asks;rw[e0];rfl
   rw[ea]at hK;have hkd:dg.c.kind=1:=by rw[e0]at hkind;exact hkind qb
   refine h.dx U (h.l2 U ?_);exact xO hk hN hsome hs hkd ho hcore h λw h=>hK w a8 U U U (h.sub:Ow B w0 w (cv M rb (k.eS dg).2 a8::R))
  refine dE (λe1=>?_) (λe1=>?_)
  .have ea:k.asks dg=ag.tell (k.mG dg).1 (k.mG dg).2:=by unfold ag.asks;rw[e1];rfl
   rw[ea]at hK;unfold ag.mG at hK;rw[F (hm1 e1)]at hK;refine h.l2 U ?_;refine(oL hk om h λw h=>?_:PI _ _ ((1:X):O) _ _);refine h.dx U ⟨_,h.aE U,h.l2 U ?_⟩;have hwr:=ly dg.call.b;have hcr:=rK (r:=dg.call.a) hr hwr;refine Bo h hr hwr.1 λw y hy h=>?_;rw[<-hy]at hcr hK;generalize (ag.fI dg.c dg.call.a (qv.wrap dg.call.b)).2=em at hK|-;refine h.a λyb w1 h=>?_;refine h.aA U U λw h=>?_;intro k45 hk45;by_cases ef:k.fc dg.call.ao 1=0
   .rw[F (λhh=>hh ef)]at hK
    refine og ef ?_;apply hk45;by_cases e2:em=0
    .rw[F (λhh=>hh e2)]at hK
     refine og e2 ⟨_,h.aE U,h.l2 U ?_⟩;refine h.dx U ?_;refine wJ (c:=y) (a:=dg.call.at_) (t:=dg.call.ao) hcr hk.tok (by have:=hk.eC;omega) (h.sub:Ow B w0 w (cv M rb k a8::R)) λw h=>?_;rw[e2];rw[<-hs]at h;exact hK w a8 U U U h
    .rw[qd e2]at hK
     exact nQ e2 (hK w a8 U U U (h.sub:Ow B w0 w (cv M rb k a8::R)))
   .rw[qd ef]at hK
    refine nQ ef ?_;apply hk45;exact nQ ef (hK w a8 U U U (h.sub:Ow B w0 w (cv M rb k a8::R)))
  refine dE (λe2=>?_) (λe2=>?_)
  .have ea:k.asks dg=ag.tell (k.move dg).1 (k.move dg).2:=by unfold ag.asks;rw[e2];rfl
   rw[ea]at hK;unfold ag.move at hK;refine h.l2 U ?_;refine(oL hk om h λw h=>?_:PI _ _ ((1:X):O) _ _);by_cases ef:k.fc dg.call.ao 1=0
   .rw[F (λhh=>hh ef)]at hK
    refine og ef ?_;refine h.dr λw h=>?_;obtain⟨x,h⟩:=iz h;refine⟨_,U,h.l1 U (h.aR U ⟨_,h.aE U,Sl.te (a:=(0,dg.call.at_)) (c:=(0,dg.call.ao)) (h.pick (A:=Sl.bf x.n k.bits k.H)) λw h=>?_,trivial⟩)⟩;refine h.dr λw h=>?_;refine⟨_,U,h.l2 U (h.aR U ⟨_,h.aE U,Tr.Bp (f:=(0,dg.call.at_)) (t:=(0,dg.call.ao)) hk.tok (h.pick (A:=Tr.cD x.t k.T)) λw h=>?_,trivial⟩)⟩;rw[ef];rw[<-hs]at h;exact hK w a8 U U U (aY x h.sub:Ow B w0 w (cv M rb { k with H:=(Sl.dI k.bits k.H dg.s (0,dg.call.ao)).2,T:=(Tr.dI k.T dg.s (0,dg.call.ao)).2} a8::R))
   .rw[qd ef]at hK
    exact nQ ef (hK w a8 U U U (h.sub:Ow B w0 w (cv M rb k a8::R)))
  refine dE (λe3=>?_) (λe3=>?_)
  .have ea:k.asks dg=if dg.call.at_=0 then ag.tell 181 k else(⟨0,0,-1,(k.gone dg.s).1⟩,(k.gone dg.s).2):=by unfold ag.asks;rw[e3];rfl
   rw[ea]at hK;refine h.l2 U ?_;refine dE (λz=>?_) (λz=>?_)
   .rw[qd z]at hK
    exact hK w a8 U U U (h.sub:Ow B w0 w (cv M rb k a8::R))
   .rw[F z]at hK
    refine h.aR U ?_;have g4:=rQ k.ae hk.xZ;have g5:=hk.ns;refine uF (s:=(0,dg.call.at_)) hk om (by rw[<-hs];exact hsome) (by show 0+lB k.ae<=_;omega) h λw h=>?_;rw[<-hs]at h;exact hK w _ U U U (h.sub:Ow B w0 w (cv M rb (k.gone dg.s).2 { a8 with forget:=a8.forget++(k.gone dg.s).1}::R))
  have e4:dg.call.ask=4:=om
  have ea:k.asks dg=k.jC dg:=by unfold ag.asks;rw[e4];rfl
  rw[ea]at hK;unfold ag.jC at hK;dsimp only at hK;have hnd:=va (s:=dg.s) hk.tok;have hlen:=wP (s:=dg.s) hk;have hheld:∀s∈Tr.cF k.T dg.s,(k.H s).isSome=true:=λs hs=>(hk.mem s).1 (u7 hs);refine h.dr λw h=>?_;obtain⟨xx,h⟩:=iz h;refine⟨_,U,h.l2 U (h.aR U ⟨Tr.zx (s:=(0,dg.call.at_)) hk.tok (h.pick (A:=Tr.cD xx.t k.T)) λs2 w h=>?_,trivial⟩)⟩;rw[<-hs]at h;have h:Ow B w0 w (cv M rb k a8::af Tr.aC s2 (Tr.cF k.T dg.s)::aa xb dg.c.cells::R):=aY xx h.sub;generalize Tr.cF k.T dg.s=xs at h hK hnd hlen hheld;have hl2:s2.len=xs.length:=h.aL s2;have hrv:xs.reverse.Nodup:=List.pairwise_reverse.2 (hnd.imp Ne.symm);intro l87 hl87;have loop:∀(m j:X)(w:J),j+m=xs.length->Ow B w0 w (cv M rb (ag.cI (xs.reverse.take j) k).2 { a8 with forget:=(ag.cI (xs.reverse.take j) k).1}::af Tr.aC s2 xs::aa xb dg.c.cells::R)->l87 ((m:O)-1) w:=by
   intro m;induction m with
   |zero=>
    intro j w hj h;apply hl87;refine aw om ?_;rw[Lz (by simp;omega)]at h;have hu2:=xr xs.reverse k hk hrv (λs hs=>hheld s (Ol.1 hs));generalize ag.cI xs.reverse k=abx at h hK hu2;obtain⟨abu,kk⟩:=abx;dsimp only at h hK hu2;obtain⟨x3,h⟩:=iz h;refine⟨_,U,?_⟩;rw[hl2,IJ om om];refine gR (h.fK U U λw h=>?_);refine h.l1 U ?_;refine dE (λe=>?_) (λe=>?_)
    .rw[qd e]at hK
     have u0:=ho.1;have u1:=ho.2.1 e;rw[<-hu2]at u1;have hux:kk.u[dg.c.obj.toNat]?=S (kk.ij dg.c.obj):=by unfold ag.ij;rw[gE om];rfl
     refine h.dr λw h=>?_;refine⟨_,U,x3.su,h.aE U,h.l2 U (h.cz (s:=x3.su) (i:=dg.c.obj) (j:=dg.c.obj.toNat) om hux λa ha _ _=>⟨?_,trivial⟩)⟩
     refine h.zO (s:=x3.su) (i:=dg.c.obj) (j:=dg.c.obj.toNat) (c:=2) { kk.ij dg.c.obj with used:=0} om hux ha U qb U λw h=>?_;exact hK w ⟨0,(xs.length:O),-1,abu⟩ U U U (aY x3 h.sub:Ow B w0 w (cv M rb (kk.ka dg.c.obj) ⟨0,(xs.length:O),-1,abu⟩::R))
    .rw[F e]at hK
     exact hK w ⟨0,(xs.length:O),-1,abu⟩ U U U (aY x3 h.sub:Ow B w0 w (cv M rb kk ⟨0,(xs.length:O),-1,abu⟩::R))
   |succ m ih=>
    intro j w hj h;have hx:xs[m]?=S xs[m]:=gE om;have hrx:xs.reverse[j]?=S xs[m]:=by rw[List.getElem?_reverse om,<-hx];congr 1;omega
    generalize xs[m]=y at hx hrx;have htk:xs.reverse.take (j+1)=xs.reverse.take j++ [y]:=by rw[LJ,hrx];rfl
    have hnd2:(xs.reverse.take j++ [y]).Nodup:=by rw[<-htk];exact(List.take_sublist _ _).nodup hrv
    have hsub:∀s∈xs.reverse.take j,(k.H s).isSome=true:=λs hs=>hheld s (Ol.1 (List.mem_of_mem_take hs));have hyk:(k.H y).isSome=true:=hheld y (L4 hx);obtain⟨g1,g2⟩:=pC (xs.reverse.take j) k hk (Np.1 hnd2).1 hsub;have g3:=pD (xs.reverse.take j) k;have g4:=rQ k.ae hk.xZ;have g5:=hk.ns;have hsn:=ou (xs.reverse.take j) y k;apply hl87;refine az om ?_;rw[show((m+1:X):O)-1=(m:O)from by omega];refine h.cz (s:=s2) U hx λa ha _ hc1=>Tr.jW hc1 ?_;refine uF (s:=y) g1 om ?_ ?_ h λw h=>?_
    .rw[g2,F]
     .exact hyk
     .intro hm
      exact(Np.1 hnd2).2.2 _ hm _ MH U
    .show (ag.cI (xs.reverse.take j) k).1.length+_<=_
     omega
    rw[wr om om];refine ih (j+1) w om ?_;rw[htk,hsn];exact h
  rw[hl2,wr om om];exact loop xs.length 0 w (LF _) h
 have fin2:∀(x:cN)(xb sb:X)(w:J),x=k.aZ dg.call.at_->Ow B w0 w (cv M rb k a8::aa xb x.cells::aa sb [.z 0,.z dg.call.at_]::aa cb dg.call.cl::R)->k10 xb.p sb.p w:=λx xb sb w hx h=>by rw[<-hc]at hx;subst hx;exact fin xb sb w h
 clear fin hK hk10
 (repeat' (first|exact trivial|(exact fin2 _ _ _ _ (by assumption) h.sub)|(refine jf hk (h.pick (A:=cv M rb k a8)) λw x hx hr h=>?_)|(refine h.al λw h=>?_)|(refine h.dr λw h=>?_)|(refine h.aR U ?_)|(refine h.dx U ?_)|(refine h.l1 U ?_)|(refine h.l2 U ?_)|(refine h.hd U ?_)|(refine⟨h.aF U,?_⟩)|(refine⟨h.aE U,?_⟩)|((refine h.aA U U λw h=>?_);(try dsimp only[putAt,Mf,LM]at h))|(refine eE ?_)|(refine _root_.Go.Vc.a2 ?_)|(refine h.jH U U λw h=>?_)|(refine h.fK U U λw h=>?_)|(refine And.intro ?_ ?_)))
theorem Hf{p:eB}{n:O}{wt:W}(h:(p.recv n wt).1.is=Z):(p.recv n wt).1.to=n:=by
 revert h;unfold eB.recv;split
 .intro h;cases h
 split
 .intro _;rfl
 .intro h;cases h
theorem IH{p:nO}{n:O}{wt:W}(h:(p.wait n wt).1.2.2≠0):(p.wait n wt).1.1=0:=by
 revert h;unfold nO.wait;split
 .intro _;rfl
 split
 .intro h;exact qj U h
 .intro h;exact qj U h
theorem Bw{K:O->Pw}(hk:ba abz k)(hM:M<1000000)(hN:abz<=200000)(ha:8<=dg.call.ask)(hb:dg.call.ask<12)(hc:dg.c=k.aZ dg.call.at_)(ho:k.fe dg.c)(hkind:dg.c.kind=(ag.aG dg.call.ask).1)
  (h:Ow B w0 w (cv M rb k a8::R))
  (hK:∀w' d',d'.w=(k.asks dg).1.w->d'.dY=(k.asks dg).1.dY->d'.forget=(k.asks dg).1.forget->Ow B w0 w' (cv (M+1) rb (k.asks dg).2 d'::R)->K (k.asks dg).1.e w'):
  SD rb.o dg.core dg.cur dg.call.ask dg.call.at_ dg.call.ao dg.call.a dg.call.b dg.call.c K w:=by
 apply aaf;have h0:=ho.1;have hK1:∀w' d',d'.w=(k.asks dg).1.w->d'.dY=(k.asks dg).1.dY->d'.forget=(k.asks dg).1.forget->Ow B w0 w' (cv M rb (k.asks dg).2 d'::R)->K (k.asks dg).1.e w':=λw' d' q1 q2 q3 h=>hK w' d' q1 q2 q3 (lf (MY M) h);refine h.a λcb w1 h=>?_;refine h.l2 U ?_;refine jf hk h.cq λw x hx hr h=>?_;rw[<-hc]at hx;subst hx;refine h.a λxb w2 h=>?_;refine h.aA U U λw h=>?_;refine h.l1 U ?_;refine dE (λe10=>?_) (λe10=>?_)
 .have ea:k.asks dg=(⟨0,0,(k.bm dg.c.obj dg.c.ay).1,[]⟩,(k.bm dg.c.obj dg.c.ay).2):=by unfold ag.asks;rw[e10];rfl
  rw[ea]at hK;have hk5:dg.c.kind=5:=by rw[hkind,e10];rfl
  refine⟨_,h.aE U,h.l2 U (jZ hM hk.inv h0 (ho.2.2.2.2.2.1 hk5) h.cq λw h=>?_)⟩;obtain⟨y,h⟩:=iz h;refine⟨_,U,gR (h.fK U U λw h=>?_)⟩;exact hK w ⟨0,0,(k.bm dg.c.obj dg.c.ay).1,[]⟩ U U U (aY y h.sub:Ow B w0 w (cv (M+1) rb (k.bm dg.c.obj dg.c.ay).2 ⟨0,0,(k.bm dg.c.obj dg.c.ay).1,[]⟩::R))
 refine h.l1 U ?_;refine dE (λe11=>?_) (λe11=>?_)
 .have ea:k.asks dg=k.wait dg:=by unfold ag.asks;rw[e11];rfl
  rw[ea]at hK1;unfold ag.wait at hK1;have hk5:dg.c.kind=5:=by rw[hkind,e11];rfl
  have h1:=ho.2.2.2.2.2.1 hk5;obtain⟨hx,hnl⟩:=hk.ju h0 h1;have hkn:=hk.iO (n:=dg.c.obj) (p:=((k.ju dg.c.obj).wait dg.cur (dg.call.c !=0)).2) (by have:=yk (k.ju dg.c.obj) dg.cur (dg.call.c !=0);omega);have hww:=IH (p:=k.ju dg.c.obj) (n:=dg.cur) (wt:=dg.call.c !=0);refine h.dr λw h=>?_;obtain⟨y,h⟩:=iz h.cq;have hpl:=(h.pick (A:=au (bQ M) y.pn k.notes)).cA;have hp:y.pn[dg.c.obj.toNat]?=S y.pn[dg.c.obj.toNat]:=gE om;generalize y.pn[dg.c.obj.toNat]=p at hp;refine⟨_,U,y.sn,h.aE U,h.l2 U (dG (s:=y.sn) (i:=dg.c.obj) (j:=dg.c.obj.toNat) h om hp λa ha hcc=>⟨_,hcc,_,h.aE U,?_,trivial⟩)⟩
  have h:=(h.pick (A:=au (bQ M) y.pn k.notes)).s8 hp hx;refine By om om h λw h=>?_;have h:=h.cd hpl hp;generalize (k.ju dg.c.obj).wait dg.cur (dg.call.c !=0)=P at h hK1 hkn hww|-;refine⟨_,U,gR (h.fK U U λw h=>?_)⟩;have h:Ow B w0 w (cv M rb (k.iO dg.c.obj P.2) ⟨0,P.1.1,-1,[]⟩::aa cb dg.call.cl::R):=aY y h.sub;intro k42 hk42;by_cases he:P.1.2.2=0
  .rw[F (λhh=>hh he)]at hK1
   refine og he ?_;apply hk42;rw[he];cases hi:P.1.2.1 with
   |true=>
    rw[hi]at hK1;exact bc U (hK1 w ⟨0,P.1.1,-1,[]⟩ U U U (h.sub:Ow B w0 w (cv M rb (k.iO dg.c.obj P.2) ⟨0,P.1.1,-1,[]⟩::R)))
   |false=>
    rw[hi]at hK1;refine bh U ?_;refine h.dx U ?_;refine uG (c:=dg.call) hkn.inv h λw h=>?_;have h:Ow B w0 w (cv M rb ((k.iO dg.c.obj P.2).rest dg) ⟨0,P.1.1,-1,[]⟩::_):=h;exact hK1 w ⟨0,P.1.1,-1,[]⟩ U U U (h.sub:Ow B w0 w (cv M rb ((k.iO dg.c.obj P.2).rest dg) ⟨0,P.1.1,-1,[]⟩::R))
  .rw[qd he]at hK1
   refine nQ he ?_;apply hk42;exact bc U (hK1 w ⟨0,P.1.1,-1,[]⟩ (hww he) U U (h.sub:Ow B w0 w (cv M rb (k.iO dg.c.obj P.2) ⟨0,P.1.1,-1,[]⟩::R)))
 refine h.a λmb w3 h=>?_;refine h.aA U U λw h=>?_;refine h.l1 U ?_;have hk4:dg.c.kind=4:=by
  rw[hkind];have:dg.call.ask=8\/dg.call.ask=9:=om
  rcases this with q|q<;>rw[q]<;>rfl
 have h1:=ho.2.2.2.2.1 hk4;obtain⟨hx,hel⟩:=hk.fB h0 h1;intro k55 hk55;have fin:∀(P:Met × O × eB)(w:J),ba (abz+1) (k.eA dg.c.obj P.2.2)->
   k.asks dg=(if P.2.1≠0 then ag.tell P.2.1 (k.eA dg.c.obj P.2.2)else if P.1.is=G then ag.tell 0 ((k.eA dg.c.obj P.2.2).rest dg)else ag.dC (((k.eA dg.c.obj P.2.2).jq P.1.to P.1.m).dQ (if dg.call.ask=8 then P.1.to else P.1.EY)))->
   Ow B w0 w (cv M rb (k.eA dg.c.obj P.2.2) a8::aa mb (Im P.1)::aa cb dg.call.cl::R)->k55 P.2.1 w:=λP w hkE ea h=>by
  apply hk55;rw[ea]at hK1;obtain⟨x,e,p'⟩:=P;dsimp only at h hK1 hkE|-;by_cases he:e≠0
  .rw[qd he]at hK1
   exact iv he (hK1 w a8 U U U (h.sub:Ow B w0 w (cv M rb (k.eA dg.c.obj p') a8::R)))
  rw[F he]at hK1;refine fa om (h.l1 U ?_);cases hi:x.is with
  |false=>
   rw[qd hi]at hK1;refine bh U ?_;refine h.dx U ?_;refine uG (c:=dg.call) hkE.inv h λw h=>?_;have h:Ow B w0 w (cv M rb ((k.eA dg.c.obj p').rest dg) a8::_):=h;exact hK1 w a8 U U U (h.sub:Ow B w0 w (cv M rb ((k.eA dg.c.obj p').rest dg) a8::R))
  |true=>
   rw[F (by rw[hi];decide)]at hK1;refine bc U (h.l2 U ?_);refine dR (h.xw U ?_);refine DF (id:=x.to) (m:=x.m) h λw h=>?_;refine h.l1 U ?_;refine dE (λe8=>?_) (λe8=>?_)
   .rw[qd e8]at hK1
    refine h.l2 U ?_;refine Bz hkE.jq.inv h λw d' q1 q2 q3 h=>?_;have h:Ow B w0 w (cv M rb (ag.dC (((k.eA dg.c.obj p').jq x.to x.m).dQ x.to)).2 d'::_):=h;exact hK1 w d' q1 q2 q3 h.sub
   .rw[F e8]at hK1
    refine h.l2 U ?_;refine Bz hkE.jq.inv h λw d' q1 q2 q3 h=>?_;have h:Ow B w0 w (cv M rb (ag.dC (((k.eA dg.c.obj p').jq x.to x.m).dQ x.EY)).2 d'::_):=h;exact hK1 w d' q1 q2 q3 h.sub
 clear hK hK1 hk55;refine dE (λe8=>?_) (λe8=>?_)
 .have ea:k.asks dg=k.send dg:=by unfold ag.asks;rw[e8];rfl
  have hse:=xW (k.fB dg.c.obj) dg.cur (ag.eN dg) (dg.call.c !=0);have hkE:=hk.eA (n:=dg.c.obj) (p:=((k.fB dg.c.obj).send dg.cur (ag.eN dg) (dg.call.c !=0)).2.2) om;refine⟨_,h.aE U,h.l2 U (h.a λgb w4 h=>?_)⟩;refine h.aA U U λw h=>?_;refine⟨_,h.aE U,qb,qb,?_⟩;rw[show((show O from 0).toNat*1)=0 from U];refine gR (h.fK U U λw h=>?_);refine h.dr λw h=>?_;obtain⟨y,h⟩:=iz (h.pick (A:=cv M rb k a8));have hpl:=(h.pick (A:=au cU y.pe k.ends)).cA;have hp:y.pe[dg.c.obj.toNat]?=S y.pe[dg.c.obj.toNat]:=gE om;generalize y.pe[dg.c.obj.toNat]=p at hp;refine⟨_,U,y.se,h.aE U,h.l2 U (dG (s:=y.se) (i:=dg.c.obj) (j:=dg.c.obj.toNat) h om hp λa ha hcc=>⟨_,hcc,?_⟩)⟩
  refine h.xw U ⟨_,h.aE U,?_,trivial⟩;have h:=(h.pick (A:=au cU y.pe k.ends)).s8 hp hx;refine Bt (m:=ag.eN dg) om h λw x hxx h=>?_;subst hxx;have h:=h.cd hpl hp;refine⟨h.aA U U λw h=>?_,trivial⟩;refine fin ((k.fB dg.c.obj).send dg.cur (ag.eN dg) (dg.call.c !=0)) w hkE ?_ ?_
  .rw[ea,qd e8];rfl
  .exact (show Ow B w0 w (cv M rb (k.eA dg.c.obj ((k.fB dg.c.obj).send dg.cur (ag.eN dg) (dg.call.c !=0)).2.2) a8::_) from aY y h.sub)
 .have e9:dg.call.ask=9:=om
  have ea:k.asks dg=k.recv dg:=by unfold ag.asks;rw[e9];rfl
  have hse:=xS (k.fB dg.c.obj) dg.cur (dg.call.c !=0);have hkE:=hk.eA (n:=dg.c.obj) (p:=((k.fB dg.c.obj).recv dg.cur (dg.call.c !=0)).2.2) om;refine h.dr λw h=>?_;obtain⟨y,h⟩:=iz (h.pick (A:=cv M rb k a8));have hpl:=(h.pick (A:=au cU y.pe k.ends)).cA;have hp:y.pe[dg.c.obj.toNat]?=S y.pe[dg.c.obj.toNat]:=gE om;generalize y.pe[dg.c.obj.toNat]=p at hp;refine⟨_,U,y.se,h.aE U,h.l2 U (dG (s:=y.se) (i:=dg.c.obj) (j:=dg.c.obj.toNat) h om hp λa ha hcc=>⟨_,hcc,_,h.aE U,?_,trivial⟩)⟩
  have h:=(h.pick (A:=au cU y.pe k.ends)).s8 hp hx;refine Bq om h λw x hxx h=>?_;subst hxx;have h:=h.cd hpl hp;refine⟨h.aA U U λw h=>?_,trivial⟩;refine fin ((k.fB dg.c.obj).recv dg.cur (dg.call.c !=0)) w hkE ?_ ?_
  .rw[ea,F e8]
   unfold ag.recv;have hto:=Hf (p:=k.fB dg.c.obj) (n:=dg.cur) (wt:=dg.call.c !=0);generalize (k.fB dg.c.obj).recv dg.cur (dg.call.c !=0)=P at hto|-;cases hi:P.1.is with
   |false=>simp
   |true=>rw[hto hi]
  .exact (show Ow B w0 w (cv M rb (k.eA dg.c.obj ((k.fB dg.c.obj).recv dg.cur (dg.call.c !=0)).2.2) a8::_) from aY y h.sub)
theorem ov{n q:O}(h0:q≠0):k.dn n q=V ((k.aZ n).kind=q):=by
 unfold ag.dn;rw[qm h0,N8];by_cases e:(k.aZ n).kind=q
 .rw[e,qu h0,qu U];rfl
 .rw[qm e,Bool.and_false]
theorem zt{K:O->Pw}(hk:ba abz k)(hM:M<1000000)(hN:abz<=200000)(ha:12<=dg.call.ask)(hb:dg.call.ask<17)(hc:dg.c=k.aZ dg.call.at_)(ho:k.fe dg.c)(hkind:dg.c.kind=(ag.aG dg.call.ask).1)
  (h:Ow B w0 w (cv M rb k a8::R))
  (hK:∀w' d',d'.w=(k.asks dg).1.w->d'.dY=(k.asks dg).1.dY->d'.forget=(k.asks dg).1.forget->Ow B w0 w' (cv (M+1) rb (k.asks dg).2 d'::R)->K (k.asks dg).1.e w'):
  SE rb.o dg.call.ask dg.call.at_ dg.call.ao dg.call.a dg.call.b dg.call.c K w:=by
 apply aag;have h0:=ho.1;refine h.a λcb w1 h=>?_;intro k9 hk9;have fin:∀(y:cN)(xb yb:X)(w:J),y=k.aZ dg.call.ao->Ow B w0 w (cv M rb k a8::aa xb dg.c.cells::aa yb y.cells::
   aa cb dg.call.cl::R)->k9 xb.p yb.p w:=λy xb yb w hy h=>by
  have hK1:∀w' d',d'.w=(k.asks dg).1.w->d'.dY=(k.asks dg).1.dY->d'.forget=(k.asks dg).1.forget->Ow B w0 w' (cv M rb (k.asks dg).2 d'::R)->K (k.asks dg).1.e w':=λw' d' q1 q2 q3 h=>hK w' d' q1 q2 q3 (lf (MY M) h);have hyo:∀q,q≠0->y.kind=q->k.fe y:=λq hq e=>by rw[hy];exact(hk.cap (n:=dg.call.ao) (by rw[<-hy,e];exact hq)).2.2.1
  apply hk9;refine h.l1 U ?_;refine dE (λe12=>?_) (λe12=>?_)
  .have ea:k.asks dg=k.table dg:=by unfold ag.asks;rw[e12];rfl
   rw[ea]at hK1;unfold ag.table at hK1;rw[ov qb,<-hy]at hK1;refine h.l1 U ?_;refine oU (λe=>?_) (λe=>?_)
   .rw[qm e,qd U]at hK1
    exact hK1 w a8 U U U (h.sub:Ow B w0 w (cv M rb k a8::R))
   .rw[qu e,F qb]at hK1
    have hob:=hyo 8 qb e;obtain⟨hm,_⟩:=hk.iB hob.1 (hob.2.2.2.2.2.2.2.2.1 e);refine h.dr λw h=>?_;obtain⟨s3,p3,Y3,g1,_,⟨a3,g3,g4,g5,g6⟩,h3,hback⟩:=iA (n:=y.obj) h hob.1 hm;refine⟨_,U,s3,g1,_,h.aE U,a3,g3,g4,g5,_,g6,_,h.aE U,_,h.aE U,Tb.zw h3 λw h=>?_,trivial⟩;have h:=hback _ w _ h;have h:Ow B w0 w (cv M rb { k with ae:=k.ae.set y.obj.toNat ((k.iB y.obj).iQ dg.call.a dg.c.obj).2} a8::R):=h.sub;exact hK1 w a8 U U U h
  refine dE (λe13=>?_) (λe13=>?_)
  .have ea:k.asks dg=k.mapped dg:=by unfold ag.asks;rw[e13];rfl
   rw[ea]at hK1;unfold ag.mapped at hK1;rw[ov qb,<-hy]at hK1;refine h.l1 U ?_;refine oU (λe=>?_) (λe=>?_)
   .rw[qm e,qd U]at hK1
    exact hK1 w a8 U U U (h.sub:Ow B w0 w (cv M rb k a8::R))
   .rw[qu e,F qb]at hK1
    have hob:=hyo 8 qb e;obtain⟨hm,_⟩:=hk.iB hob.1 (hob.2.2.2.2.2.2.2.2.1 e);refine h.dr λw h=>?_;obtain⟨s3,p3,Y3,g1,_,⟨a3,g3,g4,g5,g6⟩,h3,hback⟩:=iA (n:=y.obj) h hob.1 hm;refine⟨_,U,s3,g1,_,h.aE U,a3,g3,g4,g5,_,g6,_,h.aE U,_,h.aE U,_,h.aE U,_,h.aE U,Tb.DI (p:=(dg.c.obj,di .i64 dg.c.ar dg.call.b)) h3 λw h=>?_,trivial⟩;have h:=hback _ w _ h;have h:Ow B w0 w (cv M rb { k with ae:=k.ae.set y.obj.toNat ((k.iB y.obj).pJ dg.call.a (dg.c.obj,di .i64 dg.c.ar dg.call.b)).2} a8::R):=h.sub;exact hK1 w a8 U U U h
  refine dE (λe14=>?_) (λe14=>?_)
  .have ea:k.asks dg=k.lL dg:=by unfold ag.asks;rw[e14];rfl
   rw[ea]at hK1;unfold ag.lL at hK1;have hk8:dg.c.kind=8:=by rw[hkind,e14];rfl
   obtain⟨hm,_⟩:=hk.iB h0 (ho.2.2.2.2.2.2.2.2.1 hk8);intro k38 hk38;have go:∀(p:O × O)(e:O)(pb:X)(w:J),p=((k.iB dg.c.obj).cg dg.call.a).1->e=((k.iB dg.c.obj).cg dg.call.a).2.1->Ow B w0 w (cv M rb { k with ae:=k.ae.set dg.c.obj.toNat ((k.iB dg.c.obj).cg dg.call.a).2.2} a8::aa pb [.z p.1,.z p.2]::aa xb dg.c.cells::
     aa cb dg.call.cl::R)->k38 pb.p e w:=λp e pb w hp he h=>by
    apply hk38;rw[<-hp,<-he]at hK1;by_cases e0:e=0
    .rw[qd e0]at hK1
     refine og e0 ⟨_,h.aE U,h.l2 U ?_⟩;refine h.aR U ?_;refine kX (by show 0<=1000000000;decide) h λw h=>?_;exact hK1 w ⟨0,0,-1,[⟨dg.c.obj,dg.call.a,p.1,p.2⟩]⟩ U U U (h.sub:Ow B w0 w (cv M rb { k with ae:=k.ae.set dg.c.obj.toNat ((k.iB dg.c.obj).cg dg.call.a).2.2} { a8 with forget:=a8.forget++ [⟨dg.c.obj,dg.call.a,p.1,p.2⟩]}::R))
    .rw[F e0]at hK1
     exact nQ e0 (hK1 w a8 U U U (h.sub:Ow B w0 w (cv M rb { k with ae:=k.ae.set dg.c.obj.toNat ((k.iB dg.c.obj).cg dg.call.a).2.2} a8::R)))
   refine h.dr λw h=>?_;obtain⟨s3,p3,Y3,g1,_,⟨a3,g3,g4,g5,g6⟩,h3,hback⟩:=iA (n:=dg.c.obj) h h0 hm;refine⟨_,U,s3,g1,_,h.aE U,a3,g3,g4,g5,_,g6,_,h.aE U,?_,?_,trivial⟩
   .refine Tb.jR h3 λw h=>?_
    have h:=hback _ w _ h;refine⟨h.al λw2 h=>⟨?_,trivial⟩,trivial⟩
    generalize w.heap.size=pb at h|-;refine h.aA U U λw h=>?_;exact go _ _ pb w U U h.sub
   .refine h3.al λw2 h=>⟨?_,trivial⟩
    generalize w.heap.size=pb at h|-;refine Tb.jR h.cq λw h=>?_;have h:=hback _ w _ h.kh.cq;refine⟨h.aA U U λw h=>?_,trivial⟩;exact go _ _ pb w U U h.sub
  refine dE (λe15=>?_) (λe15=>?_)
  .have ea:k.asks dg=k.bind dg:=by unfold ag.asks;rw[e15];rfl
   rw[ea]at hK1;unfold ag.bind at hK1;rw[ov qb,<-hy]at hK1;refine h.l1 U ?_;refine oU (λe=>?_) (λe=>?_)
   .rw[qm e,qd U]at hK1
    exact hK1 w a8 U U U (h.sub:Ow B w0 w (cv M rb k a8::R))
   .rw[qu e,F qb]at hK1
    refine h.dr λw h=>?_;obtain⟨x,h⟩:=iz h;refine⟨_,U,_,h.aE U,_,h.aE U,_,h.aE U,_,h.aE U,Bj (h.pick (A:=cV x.ln k.ln)) λw h=>?_,trivial⟩;exact hK1 w a8 U U U (aY x h.sub:Ow B w0 w (cv M rb { k with ln:=(mc k.ln dg.c.obj y.obj y.ay).2} a8::R))
  .have e16:dg.call.ask=16:=om
   have ea:k.asks dg=ag.dC (k.iw (iu k.ln dg.c.obj)):=by unfold ag.asks;rw[e16];rfl
   rw[ea]at hK hK1;have hnote:=λy(hy:(iu k.ln dg.c.obj).1.1=S y)=>tV hk hy;have hok:=hk.JZ (n:=dg.c.obj);unfold ag.iw at hK hK1;refine h.dr λw h=>?_;obtain⟨x,h⟩:=iz h;refine⟨_,U,_,h.aE U,_,h.aE U,DD (n:=dg.c.obj) (h.pick (A:=cV x.ln k.ln)) λw h=>?_,trivial⟩;generalize iu k.ln dg.c.obj=r at hK hK1 hnote hok h|-;have h:Ow B w0 w (cv M rb { k with ln:=r.2} a8::R):=aY x h.sub;cases e:r.1.1 with
   |none=>
    rw[e]at hK1;exact bc U (hK1 w a8 U U U h)
   |some y=>
    rw[e]at hK;obtain⟨n0,n1⟩:=hnote y e;refine bh U ?_;refine(jZ hM hok.inv n0 n1 h λw h=>?_:P6 rb.o y.1 y.2 _ _);obtain⟨x2,h⟩:=iz h;refine⟨_,U,gR (h.fK U U λw h=>?_)⟩;exact hK w ⟨0,0,(ag.bm { k with ln:=r.2} y.1 y.2).1,[]⟩ U U U (aY x2 h.sub:Ow B w0 w (cv (M+1) rb (ag.bm { k with ln:=r.2} y.1 y.2).2 ⟨0,0,(ag.bm { k with ln:=r.2} y.1 y.2).1,[]⟩::R))
 have fin2:∀(x y:cN)(xb yb:X)(w:J),x=k.aZ dg.call.at_->y=k.aZ dg.call.ao->Ow B w0 w (cv M rb k a8::aa xb x.cells::aa yb y.cells::
   aa cb dg.call.cl::R)->k9 xb.p yb.p w:=λx y xb yb w hx hy h=>by
  rw[<-hc]at hx;subst hx;exact fin y xb yb w hy h
 clear fin hK hk9
 (repeat' (first|exact trivial|(exact fin2 _ _ _ _ _ (by assumption) (by assumption) h.sub)|(refine jf hk (h.pick (A:=cv M rb k a8)) λw x hx hr h=>?_)|(refine h.al λw h=>?_)|(refine h.dr λw h=>?_)|(refine h.aR U ?_)|(refine h.dx U ?_)|(refine h.l1 U ?_)|(refine h.l2 U ?_)|(refine h.hd U ?_)|(refine⟨h.aF U,?_⟩)|(refine⟨h.aE U,?_⟩)|((refine h.aA U U λw h=>?_);(try dsimp only[putAt,Mf,LM]at h))|(refine eE ?_)|(refine _root_.Go.Vc.a2 ?_)|(refine h.jH U U λw h=>?_)|(refine h.fK U U λw h=>?_)|(refine And.intro ?_ ?_)))
theorem FX(h:Ow B w0 w (cv M rb k d::R)):∃x:Rx,w.cell? ⟨rb,10,N⟩=S (.z d.e)/\w.cell? ⟨rb,11,N⟩=S (.y d.w)/\w.cell? ⟨rb,12,N⟩=S (.z d.dY)/\w.cell? ⟨rb,13,N⟩=S x.sf.v/\Ow B w0 w (af aP x.sf d.forget::gI Ci M rb k d::R):=by obtain⟨x,h⟩:=iz h;refine⟨x,h.aF U,h.aF U,h.aF U,h.aF U,?_⟩;have h:=h.pick (A:=af aP x.sf d.forget);have h:Ow B w0 w (dh I::af aP x.sf d.forget::_):=Ow.cT trivial h;exact(aY (T:=Ci) x h.sub:Ow B w0 w (gI Ci M rb k d::af aP x.sf d.forget::R)).cq
theorem FO{core:O}{c:Call}{K:O->O->O->Sl->Pw}(hk:ba abz k)(hM:M<1000000)(hN:abz+64<=100000)(h:Ow B w0 w (gI T M rb k d::R))
  (hK:∀fs d' w',Ow B w0 w' (af aP fs (k.do core c).1.forget::gI Ci (M+1) rb (k.do core c).2 d'::R)->K (k.do core c).1.e (k.do core c).1.w (k.do core c).1.dY fs w'):
  Sa rb.o core c.ask c.at_ c.ao c.a c.b c.c K w:=by
 apply Z8;refine h.a λcb w1 h=>?_;refine h.a λob w2 h=>?_;obtain⟨x,h⟩:=iz (h.pick (A:=gI T M rb k d));refine⟨_,U,wY (h.aA U U λw h=>?_)⟩;have h:=Ow.cZ (E:=aP) h;refine⟨_,U,h.l2 U (Th.fR hk.inv (h.pick (A:=Th.bN x.th k.t)) λw h=>?_)⟩;have h:Ow B w0 w (cv M rb (k.bZ (k.t.aW core)) a8::aa ob [.z 0,.y 0,.z 0,.slice N 0 0]::aa cb c.cl::R):=aY { x with sf:=z0} h.sub;have hp:=hk.pick core;have soon:∀(e:O)(k':ag)(w:J),k.do core c=ag.tell e k'->Ow B w0 w (cv M rb k' a8::aa ob [.z 0,.y 0,.z 0,.slice N 0 0]::R)->
   aB w ob.p 0 [.z e,.y 0,.z (-1),.slice N 0 0] λw=>ax w ob.p 0 [.o,.u,.o,.s] λ(r19:O)(r20:O)(r21:O)(r22:Sl)=>K r19 r20 r21 r22 w:=λe k' w he h=>by
  rw[he]at hK;refine h.aA U U λw h=>?_;refine h.nT (x3:=(z0:Sl)) U ?_;obtain⟨_,_,_,_,_,h⟩:=FX h;have h:=Ow.cZ (E:=aP) (lf (M':=M+1) (MY M) (h.pick (A:=gI Ci M rb k' a8)));exact hK z0 a8 w (h.sub:Ow B w0 w (af aP z0 []::gI Ci (M+1) rb k' a8::R))
 have late:∀(k':ag)(d':Told)(w:J),k.do core c=(d',k')->Ow B w0 w (cv (M+1) rb k' d'::aa ob [.z 0,.y 0,.z 0,.slice N 0 0]::R)->
   ax w (rb.p.add 10) 0 [.o,.u,.o,.s] λ(t0:O)(t1:O)(t2:O)(t3:Sl)=>aB w ob.p 0 [.z t0,.y t1,.z t2,t3.v] λw=>ax w ob.p 0 [.o,.u,.o,.s] λ(r19:O)(r20:O)(r21:O)(r22:Sl)=>K r19 r20 r21 r22 w:=λk' d' w he h=>by
  rw[he]at hK;obtain⟨x,c0,c1,c2,c3,h⟩:=FX h;refine dR ⟨_,c0,_,c1,_,c2,x.sf,c3,?_⟩;refine h.aA U U λw h=>?_;refine h.nT (x3:=x.sf) U ?_;exact hK x.sf d' w h.sub
 unfold ag.do at soon late
 cases hr:(k.t.aW core).bP core with
 |none=>
  rw[hr]at soon;exact bh U (soon 182 _ w U h.sub)
 |some cur=>
  rw[hr]at soon late;dsimp only at soon late;refine bc U ?_;intro k23 hk23;have hbad:c.ask<0\/18<=c.ask->k23 Z w:=λhb=>by rw[qd hb]at soon;apply hk23;exact bh U (soon 180 _ w U h.sub)
  have hgood:¬(c.ask<0\/18<=c.ask)->k23 G w:=λhb=>by
   rw[F hb]at soon late;apply hk23;refine bc U (h.l1 U ?_);refine dE (λe=>?_) (λe=>?_)
   .rw[qd e]at late
    obtain⟨x,h⟩:=iz h;refine⟨_,U,h.l2 U (Th.rV hp.inv (h.pick (A:=Th.bN x.th (k.bZ (k.t.aW core)).t)) λw h=>?_)⟩;refine⟨_,U,?_⟩;have h:Ow B w0 w (Th.bN x.th ((k.t.aW core).yield core)::_):=h;have h:Ow B w0 w (cv M rb ((k.bZ (k.t.aW core)).bZ ((k.t.aW core).yield core)) a8::aa ob [.z 0,.y 0,.z 0,.slice N 0 0]::R):=aY x h.sub;exact late _ a8 w U (lf (MY M) h)
   .rw[F e]at soon late
    refine h.dx U ?_;have hci:(k.bZ (k.t.aW core)).t.fC core=true:=(hp.inv.runIn hr).1;generalize k.bZ (k.t.aW core)=kk at soon late h hp hci;refine DJ (core:=core) (cur:=cur) hp om om h (λw he h=>?_) (λw hB hm he h=>?_)
    .exact bh U (soon 181 kk w he h.sub)
    rw[he]at late;clear soon he;refine bc U (h.l1 U ?_);intro k60 hk60;obtain⟨hb1,hb2⟩:=gT hB;obtain⟨_,hH,ho,hcr,_⟩:=hp.cap hb1;have fin:∀(w:J)(d':Told),d'.w=(kk.asks ⟨core,cur,c,(0,c.at_),kk.aZ c.at_⟩).1.w->d'.dY=(kk.asks ⟨core,cur,c,(0,c.at_),kk.aZ c.at_⟩).1.dY->d'.forget=(kk.asks ⟨core,cur,c,(0,c.at_),kk.aZ c.at_⟩).1.forget->
      Ow B w0 w (cv (M+1) rb (kk.asks ⟨core,cur,c,(0,c.at_),kk.aZ c.at_⟩).2 d'::aa ob [.z 0,.y 0,.z 0,.slice N 0 0]::aa cb c.cl::R)->
      ∃a80:qg,S (rb.p:qg)=S a80/\St w (a80.add 10) (.z (kk.asks ⟨core,cur,c,(0,c.at_),kk.aZ c.at_⟩).1.e) λw81=>k60 w81:=λw d' q1 q2 q3 h=>by
     generalize kk.asks ⟨core,cur,c,(0,c.at_),kk.aZ c.at_⟩=A at h late q1 q2 q3|-;obtain⟨⟨e0,e1,e2,e3⟩,k'⟩:=A;obtain⟨f0,f1,f2,f3⟩:=d';dsimp only at q1 q2 q3;subst q1 q2 q3;obtain⟨x,h⟩:=iz h;refine⟨_,U,h.fK U U λw h=>?_⟩;apply hk60;refine⟨_,U,?_⟩;have h:Ow B w0 w (cv (M+1) rb k' ⟨e0,f1,f2,f3⟩::aa ob [.z 0,.y 0,.z 0,.slice N 0 0]::R):=aY x h.sub;exact late k' _ w U h
    clear hk60 late;refine bo (λe4=>?_) (λe4=>(h.l1 U ?_))
    .refine h.dx U ?_
     exact Bk (dg:=⟨core,cur,c,(0,c.at_),kk.aZ c.at_⟩) hp hN (by show 0<=c.ask;omega) (by show c.ask<5;omega) U U hH hcr ho hci hb2 (λe h1=>hm ⟨e,h1⟩) h λw d' q1 q2 q3 h=>fin w d' q1 q2 q3 (lf (MY M) h)
    refine bo (λe7=>?_) (λe7=>(h.l1 U ?_))
    .refine h.dx U ?_
     exact xQ (dg:=⟨core,cur,c,(0,c.at_),kk.aZ c.at_⟩) hp om (by show 5<=c.ask;omega) (by show c.ask<8;omega) U h λw d' q1 q2 q3 h=>fin w d' q1 q2 q3 (lf (MY M) h)
    refine bo (λe11=>?_) (λe11=>?_)
    .refine h.dx U ?_
     refine Bw (dg:=⟨core,cur,c,(0,c.at_),kk.aZ c.at_⟩) hp hM om (by show 8<=c.ask;omega) (by show c.ask<12;omega) U ho (hb2 ?_) h λw d' q1 q2 q3 h=>fin w d' q1 q2 q3 h;have:c.ask=8\/c.ask=9\/c.ask=10\/c.ask=11:=om
     rcases this with q|q|q|q<;>rw[q]<;>decide
    .refine h.dx U ?_
     refine zt (dg:=⟨core,cur,c,(0,c.at_),kk.aZ c.at_⟩) hp hM om (by show 12<=c.ask;omega) (by show c.ask<17;omega) U ho (hb2 ?_) h λw d' q1 q2 q3 h=>fin w d' q1 q2 q3 h;have:c.ask=12\/c.ask=13\/c.ask=14\/c.ask=15\/c.ask=16:=om
     rcases this with q|q|q|q|q<;>rw[q]<;>decide
  refine h.l1 U ?_;refine bo (λe=>hbad (.inl e)) (λe=>(h.l1 U ?_));by_cases e2:c.ask>17
  .rw[qu e2];exact hbad om
  .rw[qm e2];exact hgood om
end
namespace ag
def sZ{α:Type}(l:Y α)(n:O):W:=V (0<=n)&&V (n<(l.length:O))
def kW(k:ag)(n:O):Tb.fA:=if sZ k.ae n then(k.iB n).pg else []
def ve(k:ag)(n:O):Y O × W:=if sZ k.ends n then((k.fB n).l.map (·.who),(k.fB n).dJ&& !(k.fB n).l.isEmpty)else([],G)
def Ac(k:ag)(n:O):O × W:=if sZ k.notes n then((k.ju n).word,(k.ju n).is)else(0,G)
def zY(k:ag)(n:O):nP × W:=if sZ k.u n then(k.ij n,Z)else(zU,G)
def Ls(k:ag)(n:O):Th.rj:=if k.t.cH n then k.t.th n else Th.GA
end ag
section
variable{B:X}{w0 w:J}{R L:Y aH}{bd bk:X}{k:ag}{d:oX}{ec wv wk:O}{fs:Sl}{abz:X}
theorem dS{α:Type}{l:Y α}{n:O}:ag.sZ l n=Z↔0<=n/\n<(l.length:O):=by unfold ag.sZ;simp
theorem nI{α:Type}{l:Y α}{j:X}{x:α}(h:l[j]?=S x):l.set j x=l:=by obtain⟨hi,rfl⟩:=Lu.1 h;exact List.set_getElem_self hi
theorem CN{core:O}{K:W->Pw}(hk:ba abz k)(h:Ow B w0 w (ai bk k::R))(hK:∀w',Ow B w0 w' (ai bk (k.tick core)::R)->K (k.t.bP core).isSome w'):Se bk.o core K w:=by
 apply W7;obtain⟨bt,abp,h,hc2,hback⟩:=h.ow;refine⟨_,U,_,hc2,Th.vJ hk.inv.ok h λw h=>?_⟩;exact hK w (hback _ w _ zV h)
theorem CL{core:O}{K:O->W->Pw}(hk:ba abz k)(h:Ow B w0 w (ai bk k::R))(hK:∀w',Ow B w0 w' (ai bk k::R)->K ((k.t.bP core).getD 0) (k.t.bP core).isSome w'):Rg bk.o core K w:=by
 apply Xi;obtain⟨bt,abp,h,hc2,hback⟩:=h.ow;refine⟨_,U,_,hc2,Th.ir hk.inv.ok h λw h=>?_⟩;exact hK w (hback _ w _ U h:Ow B w0 w (ai bk k::R))
theorem yx{n:O}{K:O->O->O->O->O->O->O->O->O->O->O->O->O->Pw}(h:Ow B w0 w (ai bk k::R))
  (hK:∀w' t,t=k.Ls n->Ow B w0 w' (ai bk k::R)->K t.st t.pr t.co t.le (t.rg 0) (t.rg 1) (t.rg 2) (t.rg 3) (t.rg 4) (t.rg 5) (t.rg 6) (t.rg 7) (if k.t.cH n then 0 else 100) w'):Sr bk.o n K w:=by
 apply Xd;refine h.a λc w1 h=>?_;obtain⟨bt,abp,h,hc2,hback⟩:=(h.pick (A:=ai bk k)).ow;refine⟨_,U,_,hc2,Th.ll h λw t ht h=>?_⟩;have h:Ow B w0 w (ai bk k::_):=hback _ w _ U h;refine h.aA U U λw h=>?_;refine h.sH U ?_;exact hK w t ht h.sub
theorem rp{K:Sl->Pw}(hk:ba abz k)(h:Ow B w0 w (ai bk k::R))(hK:∀s w',Ow B w0 w' (af Sl.dW s (fi k.H)::ai bk k::R)->K s w'):Qv bk.o K w:=by
 apply Xb;obtain⟨x,h⟩:=h.ui;refine⟨_,U,h.l1 U (Sl.gM (h.pick (A:=Sl.av x.n k.bits k.H)) λs2 hs2 w hih h=>?_)⟩;have e2:hs2=fi k.H:=hih.uniq (pE λt c hc=>(hk.held t c hc).1);subst e2;have h:Ow B w0 w (ai bk k::af Sl.dW s2 (fi k.H)::R):=Ow.bT x h.sub;exact hK s2 w h.sub
theorem nZ{K:Sl->Pw}(h:Ow B w0 w (ai bk k::R))(hK:∀s w',Ow B w0 w' (af Tr.aC s (k.T.map (·.1))::ai bk k::R)->K s w'):Qw bk.o K w:=by
 apply Xc;obtain⟨x,h⟩:=h.ui;refine⟨_,U,h.l2 U (Tr.vL (h.pick (A:=Tr.bD x.tr k.T)) λs2 w h=>?_)⟩;have h:Ow B w0 w (ai bk k::af Tr.aC s2 (k.T.map (·.1))::R):=Ow.bT x h.sub;exact hK s2 w h.sub
theorem pd{n:O}{K:O->O->O->W->Pw}(h:Ow B w0 w (ai bk k::R))
  (hK:∀w',Ow B w0 w' (ai bk k::R)->K ((k.zY n).1.base:O) ((k.zY n).1.bits:O) ((k.zY n).1.used:O) (k.zY n).2 w'):Re bk.o n K w:=by
 apply Xe;unfold UQ;unfold ag.zY at hK;refine h.al λw1 h=>?_;generalize w.heap.size=c at h|-;obtain⟨x,h⟩:=(h.pick (A:=ai bk k)).ui;refine⟨_,U,x.su,h.aE U,?_⟩;have hlen:=h.aL x.su;have hno:ag.sZ k.u n=G->UQ bk.o n K w1->I:=λ_ _=>trivial;have bad:ag.sZ k.u n=G->aB w1 c.p 0 [.y 0,.z 0,.y 0] λw8=>ax w8 c.p 0 [.u,.o,.u] λ(r9:O)(HS:O)(HT:O)=>K r9 HS HT G w8:=λe=>by
  rw[F (by rw[e];decide)]at hK;refine h.aA U U λw h=>?_;refine h.nS U ?_;exact hK w ((Ow.bT x h.sub:Ow B w0 w (ai bk k::R)))
 apply Xp;refine bo (λe0=>?_) (λe0=>?_)
 .by_cases e1:n<(x.su.len:O)
  .rw[qu e1]
   refine bc U ?_;have hin:ag.sZ k.u n=true:=dS.2 ⟨e0,om⟩;rw[qd hin]at hK;have hux:k.u[n.toNat]?=S (k.ij n):=by unfold ag.ij;rw[gE om];rfl
   refine⟨_,U,x.su,h.aE U,h.cz (s:=x.su) (i:=n) (j:=n.toNat) om hux λa ha _ hcu=>?_⟩;refine⟨_,hcu 0 _ U,_,hcu 1 _ U,_,hcu 2 _ U,h.aA U U λw h=>?_⟩;refine h.nS U ?_;exact hK w ((Ow.bT x h.sub:Ow B w0 w (ai bk k::R)))
  .rw[qm e1]
   refine bh U ?_;exact bad (by
    cases e:ag.sZ k.u n with
    |false=>rfl
    |true=>have:=(dS.1 e).2;omega)
 .refine bh U ?_
  exact bad (by
    cases e:ag.sZ k.u n with
    |false=>rfl
    |true=>have:=(dS.1 e).1;omega)
theorem kN{n:O}{K:Sl->Pw}(h:Ow B w0 w (ai bk k::R))(hK:∀s w',Ow B w0 w' (af Tb.aK s (k.kW n)::ai bk k::R)->K s w'):Sx bk.o n K w:=by
 apply Xh;unfold ag.kW at hK;have h0:=h;obtain⟨ss,ps,abp,h,hc2,hp,hback⟩:=h.ny;have hlen:=h.aL ss;refine⟨_,U,ss,hc2,?_⟩;have bad:ag.sZ k.ae n=G->K z0 w:=λe=>by rw[F (by rw[e];decide)]at hK;exact hK _ w (Ow.cZ h0)
 apply Xs;refine bo (λe0=>?_) (λe0=>?_)
 .by_cases e1:n<(ss.len:O)
  .rw[qu e1]
   refine bc U ?_;have hin:ag.sZ k.ae n=true:=dS.2 ⟨e0,om⟩;rw[qd hin]at hK;have hx:k.ae[n.toNat]?=S (k.iB n):=by unfold ag.iB;rw[gE om];rfl
   refine⟨_,U,ss,hc2,?_⟩;have hq:ps[n.toNat]?=S ps[n.toNat]:=gE om;generalize ps[n.toNat]=pp at hq;refine dG (s:=ss) (i:=n) (j:=n.toNat) h om hq λa ha hcc=>⟨_,hcc,?_⟩
   have h:=(h.pick (A:=au Tb.bC ps k.ae)).s8 hq hx;refine Tb.kN h λs w h=>?_;have h:=(h.pick (A:=Tb.bC pp (k.iB n))).perm (List.Perm.cons _ (List.Perm.swap _ _ _));have h:=(h.cd hp hq)
   rw[nI hx]at h;have h:Ow B w0 w (ai bk k::_):=hback (af Tb.aK s (k.iB n).pg::R) w _ h.sub;exact hK s w h.sub
  .rw[qm e1]
   refine bh U ?_;exact bad (by
    cases e:ag.sZ k.ae n with
    |false=>rfl
    |true=>have:=(dS.1 e).2;omega)
 .refine bh U ?_
  exact bad (by
    cases e:ag.sZ k.ae n with
    |false=>rfl
    |true=>have:=(dS.1 e).1;omega)
theorem Av{n:O}{K:Sl->W->Pw}(h:Ow B w0 w (ai bk k::R))(hK:∀s w',Ow B w0 w' (af aq s (k.ve n).1::ai bk k::R)->K s (k.ve n).2 w'):Ss bk.o n K w:=by
 apply Xf;unfold ag.ve at hK;have h0:=h;obtain⟨ss,ps,abp,h,hc2,hp,hback⟩:=h.Fa;have hlen:=h.aL ss;refine⟨_,U,ss,hc2,?_⟩;have bad:ag.sZ k.ends n=G->K z0 G w:=λe=>by rw[F (by rw[e];decide)]at hK;exact hK _ w (Ow.cZ h0)
 apply Xq;refine bo (λe0=>?_) (λe0=>?_)
 .by_cases e1:n<(ss.len:O)
  .rw[qu e1]
   refine bc U ?_;have hin:ag.sZ k.ends n=true:=dS.2 ⟨e0,om⟩;rw[qd hin]at hK;have hx:k.ends[n.toNat]?=S (k.fB n):=by unfold ag.fB;rw[gE om];rfl
   refine⟨_,U,ss,hc2,?_⟩;have hq:ps[n.toNat]?=S ps[n.toNat]:=gE om;generalize ps[n.toNat]=pp at hq;refine dG (s:=ss) (i:=n) (j:=n.toNat) h om hq λa ha hcc=>⟨_,hcc,?_⟩
   have h:=(h.pick (A:=au ck ps k.ends)).s8 hq hx;refine nR h λs w h=>?_;have h:=(h.pick (A:=ck pp (k.fB n))).perm (List.Perm.cons _ (List.Perm.swap _ _ _));have h:=(h.cd hp hq)
   rw[nI hx]at h;have h:Ow B w0 w (ai bk k::_):=hback (af aq s ((k.fB n).l.map (·.who))::R) w _ h.sub;exact hK s w h.sub
  .rw[qm e1]
   refine bh U ?_;exact bad (by
    cases e:ag.sZ k.ends n with
    |false=>rfl
    |true=>have:=(dS.1 e).2;omega)
 .refine bh U ?_
  exact bad (by
    cases e:ag.sZ k.ends n with
    |false=>rfl
    |true=>have:=(dS.1 e).1;omega)
theorem CP{n:O}{K:O->W->Pw}(h:Ow B w0 w (ai bk k::R))(hK:∀w',Ow B w0 w' (ai bk k::R)->K (k.Ac n).1 (k.Ac n).2 w'):Sw bk.o n K w:=by
 apply Xg;unfold ag.Ac at hK;have h0:=h;obtain⟨ss,ps,abp,h,hc2,hp,hback⟩:=h.A5;have hlen:=h.aL ss;refine⟨_,U,ss,hc2,?_⟩;have bad:ag.sZ k.notes n=G->K 0 G w:=λe=>by rw[F (by rw[e];decide)]at hK;exact hK w h0
 apply Xr;refine bo (λe0=>?_) (λe0=>?_)
 .by_cases e1:n<(ss.len:O)
  .rw[qu e1]
   refine bc U ?_;have hin:ag.sZ k.notes n=true:=dS.2 ⟨e0,om⟩;rw[qd hin]at hK;have hx:k.notes[n.toNat]?=S (k.ju n):=by unfold ag.ju;rw[gE om];rfl
   refine⟨_,U,ss,hc2,?_⟩;have hq:ps[n.toNat]?=S ps[n.toNat]:=gE om;generalize ps[n.toNat]=pp at hq;refine dG (s:=ss) (i:=n) (j:=n.toNat) h om hq λa ha hcc=>⟨_,hcc,?_⟩
   have h:=(h.pick (A:=au bL ps k.notes)).s8 hq hx;refine rO h λw h=>?_;have h:=(h.cd hp hq)
   rw[nI hx]at h;have h:Ow B w0 w (ai bk k::_):=hback R w _ h.sub;exact hK w h.sub
  .rw[qm e1]
   refine bh U ?_;exact bad (by
    cases e:ag.sZ k.notes n with
    |false=>rfl
    |true=>have:=(dS.1 e).2;omega)
 .refine bh U ?_
  exact bad (by
    cases e:ag.sZ k.notes n with
    |false=>rfl
    |true=>have:=(dS.1 e).1;omega)
end
namespace ag
def jY(c:X)(bits:X):ag:=⟨[6],λ_=>N,[],Th.jv c,Ly 8 ⟨0,0,0⟩,[⟨0,bits,0⟩],[],[],[Tb.iM],0,0⟩
def dB(k:ag)(i kind obj:O):ag:={ k with H:=(Sl.iN k.bits k.H (0,i) ⟨kind,obj,7,0,0,0⟩).2,T:=(Tr.mR k.T (0,i)).2}
def pj:Y O->X->ag->ag
 | [],_,k=>k
 |p::r,j,k=>pj r (j+1) ((k.bZ (((k.t.cw p (j:O)).2.2.bJ (k.t.cw p (j:O)).1).2.aW (j:O))).dB ((2+j:X):O) 3 (k.t.cw p (j:O)).1)
def tZ:X->X->X->ag->ag
 |0,_,_,k=>k
 |q+1,j,i,k=>tZ q (j+1) i (k.dB ((i+j:X):O) 9 (j:O))
def kq(c bits lines:X)(prios:Y O):ag:=
 tZ lines 0 (3+prios.length) ((pj prios 0 (((jY c bits).dB 0 2 0).dB 1 1 0)).dB ((2+prios.length:X):O) 8 0)
def ia(c bits lines:O)(prios:Y O):W:=V (1<=c/\c<=8/\4<=bits/\bits<=20/\0<=lines/\lines<=8/\(prios.length:O)=c/\∀p∈prios,0<=p/\p<256)
end ag
section
variable{abz c:X}{k:ag}{m:Th.Mt}
theorem wF{c k:O}:(m.aW c).fC k=m.fC k:=by
 unfold Th.Mt.aW Th.Mt.pick;split
 .split
  .rfl
  .split
   .rw[Th.jF,Th.gU]
   .split
    .rfl
    .rw[Th.jF,Th.gU,Th.gV,Th.gU]
 .rfl
theorem sQ{n k:O}:(m.bJ n).2.fC k=m.fC k:=by
 unfold Th.Mt.bJ;split
 .rfl
 split
 .rfl
 .exact Th.gV
theorem zi{p c k:O}:(m.make p c).fC k=m.fC k:=rfl
structure lZ(c n:X)(k:ag):Prop where
 ok:ba 1 k
 free:∀i:O,(n:O)<=i->k.H (0,i)=N
 bits:k.bits= [6]
 core:∀j:O,k.t.fC j=Z↔0<=j/\j<(c:O)
 sp:k.ae= [Tb.iM]
 u1:k.u.length=1
theorem ba.root(h:ba abz k){i kind obj:O}(hi:0<=i/\i<64)(hn:k.H (0,i)=N)(hc:Sl.bY ⟨kind,obj,7,0,0,0⟩=0)(h0:kind≠0)(ho:k.fe ⟨kind,obj,7,0,0,0⟩):
  ba abz (k.dB i kind obj)/\(k.dB i kind obj).H=Sl.cC k.H (0,i) (S ⟨kind,obj,7,0,0,0⟩):=by
 have ht:((0,i):Slot).1=0/\0<=((0,i):Slot).2/\((0,i):Slot).2<64:=⟨U,hi.1,hi.2⟩
 have hput:=h.put ht hn hc h0;have hno:Tr.bA k.T (0,i)=none:=pP λe=>by rw[h.mem,hn]at e;cases e
 have hT:Tr.mR k.T (0,i)=(0,k.T++ [((0,i),0)]):=by unfold Tr.mR;rw[hno]
 have hH:(k.dB i kind obj).H=Sl.cC k.H (0,i) (S ⟨kind,obj,7,0,0,0⟩):=by unfold ag.dB;rw[hput]
 have hT2:(k.dB i kind obj).T=k.T++ [((0,i),0)]:=by unfold ag.dB;rw[hT]
 have hfew:=h.eC;refine⟨{ h with
  rk:=by rw[hH];exact h.rk.put (lk h.b0 ht) hc h0 kr
  held:=λs x hx=>?_
  tok:=by rw[hT2];exact h.tok.root om hno
  mem:=λs=>?_},hH⟩
 .rw[hH]at hx
  unfold Sl.cC at hx;by_cases e:s=(0,i)
  .rw[qd e]at hx;cases hx;rw[e];exact⟨ht,ho⟩
  .rw[F e]at hx;exact h.held s x hx
 .rw[hH,hT2]
  unfold Sl.cC;rw[LU,Mm];simp only[List.map_cons,List.map_nil,Mk];by_cases e:s=(0,i)
  .simp[e]
  .rw[F e,<-h.mem];simp[e]
theorem lZ.root{n:X}(h:lZ c n k){kind obj:O}(hn:n<64)(hc:Sl.bY ⟨kind,obj,7,0,0,0⟩=0)(h0:kind≠0)(ho:k.fe ⟨kind,obj,7,0,0,0⟩):lZ c (n+1) (k.dB (n:O) kind obj):=by obtain⟨h1,h2⟩:=h.ok.root (i:=(n:O)) ⟨om,om⟩ (h.free _ (Po _)) hc h0 ho;refine⟨h1,λi hi=>?_,h.bits,h.core,h.sp,h.u1⟩;rw[h2];unfold Sl.cC;rw[F (λe=>by cases e;omega)];exact h.free i om
theorem xF{bits:X}(h8:c<=8)(hb:4<=bits/\bits<=20):lZ c 0 (ag.jY c bits):=by
 refine⟨⟨U,⟨by show 1<=64;decide,λz hz=>by simp[ag.jY]at hz;subst hz;exact .inr ⟨qb,qb⟩,λs x hx=>by cases hx⟩,λs x hx=>(by cases hx),⟨by show 0<=1000000;decide,trivial,List.nodup_nil⟩,λs=>by simp[ag.jY],Th.Fx h8,by simp[ag.jY],λx hx hx2=>?_,λx hx=>?_,λm hm=>?_,
  by simp[ag.jY],by simp[ag.jY],by simp[ag.jY],by simp[ag.jY],MN _,MN _,λp hp=>by simp[ag.jY]at hp,λp hp=>by simp[ag.jY]at hp⟩,λi hi=>rfl,U,λj=>?_,U,U⟩
 .simp only[ag.jY,List.mem_replicate]at hx
  rw[hx.2]at hx2;exact qj U hx2
 .simp[ag.jY]at hx
  subst hx;refine⟨hb.2,?_,Nat.zero_mod _,MN _⟩;show 0+2^bits<=2^20;rw[LF];exact Nat.pow_le_pow_right qb hb.2
 .simp[ag.jY]at hm
  subst hm;exact Tb.eZ.new
 .rw[Th.fF]
  simp[ag.jY,Th.jv]
theorem JU{a n:O}(h0:0<=n)(h1:a≠1)(h2:a=2->n<(k.bits.length:O))(h3:a=3->n<(k.t.br.length:O))(h4:a≠4)(h5:a≠5)(h6:a≠6)(h7:a≠7)(h8:a=8->n<(k.ae.length:O))(h9:a=9->n<8):k.fe ⟨a,n,7,0,0,0⟩:=
 fN h0 (λe=>qj e h1) h2 h3 (λe=>qj e h4) (λe=>qj e h5) (λe=>qj e h6) (λe=>qj e h7) h8 h9
theorem lZ.yh{j:X}{p:O}(h:lZ c (2+j) k)(hj:j<c)(h8:c<=8)(ht:k.t.br.length=j)(hp:0<=p/\p<256):
  lZ c (2+(j+1)) ((k.bZ (((k.t.cw p (j:O)).2.2.bJ (k.t.cw p (j:O)).1).2.aW (j:O))).dB ((2+j:X):O) 3 (k.t.cw p (j:O)).1)/\
  ((k.bZ (((k.t.cw p (j:O)).2.2.bJ (k.t.cw p (j:O)).1).2.aW (j:O))).dB ((2+j:X):O) 3 (k.t.cw p (j:O)).1).t.br.length=j+1/\k.t.cw p (j:O)=((j:O),0,k.t.make p (j:O)):=by
 have hc:k.t.fC (j:O)=true:=(h.core _).2 ⟨om,om⟩;have hm:k.t.cw p (j:O)=((j:O),0,k.t.make p (j:O)):=by unfold Th.Mt.cw;rw[F (λhh=>hh ⟨hp.1,hp.2,hc⟩),F om,ht]
 rw[hm];dsimp only;have hl:(((k.t.make p (j:O)).bJ (j:O)).2.aW (j:O)).br.length=j+1:=by rw[gZ,ga];unfold Th.Mt.make;simp[ht]
 have hi:=((h.ok.inv.make (p:=p) (c:=(j:O)) om hc hp).resume (j:O)).aW (j:O);have hb:lZ c (2+j) (k.bZ (((k.t.make p (j:O)).bJ (j:O)).2.aW (j:O))):=by refine⟨h.ok.bZ hi (by rw[hl];omega),h.free,h.bits,λn=>?_,h.sp,h.u1⟩;show(((k.t.make p (j:O)).bJ (j:O)).2.aW (j:O)).fC n=Z↔_;rw[wF,sQ,zi];exact h.core n
 refine⟨?_,hl,U⟩;have:=hb.root (kind:=3) (obj:=(j:O)) om (gS ⟨qb,qb⟩ ⟨om,om⟩) qb (JU om qb (λe=>qj e qb) (λ_=>by show(j:O)<((((k.t.make p (j:O)).bJ (j:O)).2.aW (j:O)).br.length:O);rw[hl];omega) qb qb qb qb (λe=>qj e qb) (λe=>qj e qb));exact this
theorem yP(h8:c<=8):∀(ps:Y O)(j:X)(k:ag),j+ps.length<=c->(∀p∈ps,0<=p/\p<256)->lZ c (2+j) k->k.t.br.length=j->lZ c (2+(j+ps.length)) (ag.pj ps j k)/\(ag.pj ps j k).t.br.length=j+ps.length
 | [],j,k,_,_,h,ht=>⟨h,ht⟩
 |p::ps,j,k,hj,hp,h,ht=>by rw[LL]at hj|-;obtain⟨h1,h2,_⟩:=h.yh om h8 ht (hp p MH);have:=yP h8 ps (j+1) _ om (λq hq=>hp q (List.mem_cons_of_mem _ hq)) h1 h2;rw[show j+1+ps.length=j+(ps.length+1)from by omega]at this;exact this
theorem lZ.line{i j:X}(h:lZ c (i+j) k)(hi:i+j<64)(hj:j<8):lZ c (i+(j+1)) (k.dB ((i+j:X):O) 9 (j:O)):=
 h.root hi (gS ⟨qb,qb⟩ ⟨om,om⟩) qb (JU om qb (λe=>qj e qb) (λe=>qj e qb) qb qb qb qb (λe=>qj e qb) (λ_=>by omega))
theorem yO:∀(q j i:X)(k:ag),j+q<=8->i<=20->lZ c (i+j) k->lZ c (i+(j+q)) (ag.tZ q j i k)/\(ag.tZ q j i k).t=k.t
 |0,j,i,k,_,_,h=>⟨h,U⟩
 |q+1,j,i,k,hj,hi,h=>by have h1:=h.line om om;have:=yO q (j+1) i _ om hi h1;rw[show j+1+q=j+(q+1)from by omega]at this;exact⟨this.1,this.2.trans U⟩
theorem ua{bits:X}(h8:c<=8)(hb:4<=bits/\bits<=20):lZ c 1 ((ag.jY c bits).dB 0 2 0)/\lZ c 2 (((ag.jY c bits).dB 0 2 0).dB 1 1 0):=by have h0:=xF h8 hb;have h1:=h0.root (kind:=2) (obj:=0) qb (gS ⟨qb,qb⟩ ⟨qb,qb⟩) qb (JU qb qb (λ_=>by show(0:O)<1;decide) (λe=>qj e qb) qb qb qb qb (λe=>qj e qb) (λe=>qj e qb));have h2:=h1.root (kind:=1) (obj:=0) qb (gS ⟨qb,qb⟩ ⟨qb,qb⟩) qb (fN qb (λ_=>by show(0:O)<1;decide) (λe=>qj e qb) (λe=>qj e qb) (λe=>qj e qb) (λe=>qj e qb) (λe=>qj e qb) (λe=>qj e qb) (λe=>qj e qb) (λe=>qj e qb));exact⟨h1,h2⟩
theorem lZ.space{i:X}(h:lZ c i k)(hi:i<64):lZ c (i+1) (k.dB (i:O) 8 0):=
 h.root hi (gS ⟨qb,qb⟩ ⟨qb,qb⟩) qb (JU qb qb (λe=>qj e qb) (λe=>qj e qb) qb qb qb qb (λ_=>by rw[h.sp];decide) (λe=>qj e qb))
theorem yN{bits lines:X}{prios:Y O}(h8:c<=8)(hb:4<=bits/\bits<=20)(hl:lines<=8)(hp:prios.length=c)(hps:∀p∈prios,0<=p/\p<256):
  lZ c (3+c+lines) (ag.kq c bits lines prios)/\(ag.kq c bits lines prios).t.br.length=c:=by
 obtain⟨_,h2⟩:=ua h8 hb;obtain⟨h3,h4⟩:=yP h8 prios 0 _ om hps h2 U;rw[LF]at h3 h4;have h5:=h3.space om;have h6:=yO lines 0 (3+prios.length) _ om om (show lZ c (3+prios.length+0) _ from by rw[show 3+prios.length+0=2+prios.length+1 from by omega];exact h5);refine⟨?_,?_⟩
 .have:=h6.1
  rw[show 3+prios.length+(0+lines)=3+c+lines from by omega]at this;exact this
 .show (ag.tZ _ _ _ _).t.br.length=c
  rw[h6.2];exact h4.trans hp
end
section
variable{B:X}{w0 w:J}{R L:Y aH}{b nb nt bd bk:X}{k:ag}{abz:X}{s:Sl}
theorem vt{p:O->W}{f:Q}{xs:Y O}{K:O->Pw}[abw:cu s L O aq xs](h:Ow B w0 w L)(hbig:xs.length<=1000000000)
  (hf:∀(y:O)(w:J)(aby:W->Pw),y∈xs->Ow B w0 w L->(∀w',Ow B w0 w' L->aby (p y) w')->dU qe f [.z y] w λen w'=>∃r:W,en= .returned (.bool r)/\aby r w')
  (hK:∀w',Ow B w0 w' L->K (fj p xs) w'):QJ s f K w:=by
 apply Vl;have hlen:s.len=xs.length:=h.aL s;intro l hl;have loop:∀m j w,j+m=xs.length->(∀i,i<j->∀z,xs[i]?=S z->p z=G)->Ow B w0 w L->l (j:O) w:=by
  intro m;induction m with
  |zero=>
   intro j w hj hno h;apply hl;refine aw om ?_;have hn:xs.findIdx? p=none:=by rw[List.findIdx?_eq_none_iff];intro y hy;obtain⟨i,hi⟩:=Mp.1 hy;exact hno i (by have:=(Lu.1 hi).1;omega) y hi
   have e:fj p xs= -1:=by unfold fj;rw[hn]
   rw[<-e];exact hK _ h
  |succ m ih=>
   intro j w hj hno h;have hx:xs[j]?=S xs[j]:=gE om;apply hl;refine az om ?_;refine h.cz (s:=s) U hx λa ha h0 hc=>?_;refine⟨_,h0 _ U,hf xs[j] w _ (Mq _) h λw h=>?_⟩;cases hp:p xs[j]with
   |true=>
    refine bh U ?_;have hn:xs.findIdx? p=S j:=by rw[List.findIdx?_eq_some_iff_getElem];refine⟨om,hp,λi hi=>?_⟩;have:=hno i hi xs[i] (gE om);simp[this]
    have e:fj p xs=(j:O):=by unfold fj;rw[hn]
    rw[<-e];exact hK _ h
   |false=>
    refine bc U ?_;rw[wr om om];refine ih (j+1) w om (λi hi z hz=>?_) h;by_cases e:i=j
    .subst e;rw[hx]at hz;cases hz;exact hp
    .exact hno i om z hz
 exact loop xs.length 0 w om (λi hi=>by omega) h
theorem BE{c bits lines:O}{prios:Y O}{K:W->Pw}[abw:cu s L O aq prios](h:Ow B w0 w L)(hbig:prios.length<=1000000000)
  (hK:∀w',Ow B w0 w' L->K (ag.ia c bits lines prios) w'):Sk c bits lines s K w:=by
 apply W9;have hlen:s.len=prios.length:=h.aL s;refine h.a λcb w1 h=>?_;intro k6 hk6;have hno:∀{w},¬(1<=c/\c<=8/\4<=bits/\bits<=20/\0<=lines/\lines<=8)->Ow B w0 w (aa cb [.z c,.z bits,.z lines,s.v]::L)->k6 G w:=λ{w}hb h=>by apply hk6;refine bc U ?_;have:=hK w h.drop;rw[show ag.ia c bits lines prios=G from qm λhh=>hb ⟨hh.1,hh.2.1,hh.2.2.1,hh.2.2.2.1,hh.2.2.2.2.1,hh.2.2.2.2.2.1⟩]at this;exact this
 have hyes:∀{w},(1<=c/\c<=8/\4<=bits/\bits<=20/\0<=lines/\lines<=8)->Ow B w0 w (aa cb [.z c,.z bits,.z lines,s.v]::L)->k6 Z w:=λ{w}hb h=>by
  apply hk6;refine bh U ?_;refine⟨s,h.aE U,h.l1 U (dE (λe=>?_) (λe=>?_))⟩
  .refine ⟨s,h.aE U,?_⟩
   apply Vv;refine vt (p:=λy=>V (y<0)||V (y>=256)) h hbig (λy w aby _ h hQ=>bq ?_) λw h=>?_
   .show UZ y aby w
    apply Xo;have:=hQ w h;refine bo (λe=>?_) (λe=>?_)
    .rw[qu e,Bool.true_or]at this;exact this
    .rw[qm e,N8]at this;exact this
   .have:=hK w h.drop
    rw[mC];have e2:ag.ia c bits lines prios= !(prios.any λy=>V (y<0)||V (y>=256)):=by
     unfold ag.ia;rw[Nh];simp only[qB,N2,Ny,MC,not_or];obtain⟨b1,b2,b3,b4,b5,b6⟩:=hb;constructor
     .rintro ⟨_,_,_,_,_,_,_,hp⟩ y hy
      have:=hp y hy;omega
     .intro hp
      refine⟨b1,b2,b3,b4,b5,b6,om,λy hy=>?_⟩;have:=hp y hy;omega
    rw[e2]at this;exact this
  .have:=hK w h.drop
   rw[show ag.ia c bits lines prios=G from qm λhh=>by have:=hh.2.2.2.2.2.2.1;omega]at this;exact this
 refine h.l1 U ?_;refine bo (λe1=>?_) (λe1=>hno om h);refine h.l1 U ?_;refine bo (λe2=>?_) (λe2=>hno om h);refine h.l2 U ?_;refine bo (λe3=>?_) (λe3=>hno om h);refine h.l2 U ?_;refine bo (λe4=>?_) (λe4=>hno om h);refine h.l2 U ?_;refine bo (λe5=>?_) (λe5=>hno om h);refine h.l2 U ?_;by_cases e6:lines<=8
 .rw[qu e6];exact hyes om h
 .rw[qm e6];exact hno om h
def oa(b nb nt:X)(k:ag):aH:=sB λx:Kx=>cj [aa b (bR x k.aS k.cB nb nt),Sl.av x.n k.bits k.H,Tr.bD x.tr k.T,Th.bu x.t k.t,bG x.ln k.ln,af df x.su k.u,af bS x.se x.pe,au ck x.pe k.ends,af bS x.sn x.pn,au bL x.pn k.notes,af bS x.ss x.ps,au Tb.bC x.ps k.ae]
theorem Jn(h:Ow B w0 w (oa b nb nt k::R)):∃x:Kx,Ow B w0 w (aa b (bR x k.aS k.cB nb nt)::Sl.av x.n k.bits k.H::Tr.bD x.tr k.T::Th.bu x.t k.t::bG x.ln k.ln::af df x.su k.u::af bS x.se x.pe::au ck x.pe k.ends::af bS x.sn x.pn::au bL x.pn k.notes::af bS x.ss x.ps::au Tb.bC x.ps k.ae::R):=by obtain⟨x,h⟩:=Ow.ex h;exact⟨x,h.star⟩
theorem xC(x:Kx){bits:Y O}{H:Sl.Hs}{T:Tr.Tr}{t:Th.Mt}{ln:wU}{u:Y nP}{ends:Y eB}{notes:Y nO}{ae:Y Tb.dV}{fr tb:X}
  (h:Ow B w0 w (aa b (bR x fr tb nb nt)::Sl.av x.n bits H::Tr.bD x.tr T::Th.bu x.t t::bG x.ln ln::af df x.su u::af bS x.se x.pe::au ck x.pe ends::af bS x.sn x.pn::au bL x.pn notes::af bS x.ss x.ps::au Tb.bC x.ps ae::R)):
  Ow B w0 w (oa b nb nt ⟨bits,H,T,t,ln,u,ends,notes,ae,fr,tb⟩::R):=Ow.fk x (Ow.bW h)
theorem Fb(h:Ow B w0 w (oa b nb nt k::R)):∃(bt:X)(abp:aH),Ow B w0 w (Th.bu bt k.t::abp::R)/\w.cell? (b.p.add 2)=S (.q bt)/\
  (∀R' w',Ow B w0 w' (Th.bu bt k.t::abp::R')->w'.cell? (b.p.add 2)=S (.q bt))/\
  (∀R' w' t,Ow B w0 w' (Th.bu bt t::abp::R')->w'.cell? (b.p.add 2)=S (.q bt)/\Ow B w0 w' (oa b nb nt (k.bZ t)::R')):=by
 obtain⟨x,h⟩:=Jn h;have hback:∀R' w' t,Ow B w0 w' (Th.bu x.t t::cj [aa b (bR x k.aS k.cB nb nt),Sl.av x.n k.bits k.H,Tr.bD x.tr k.T,bG x.ln k.ln,af df x.su k.u,af bS x.se x.pe,au ck x.pe k.ends,af bS x.sn x.pn,au bL x.pn k.notes,af bS x.ss x.ps,au Tb.bC x.ps k.ae]::R')->w'.cell? (b.p.add 2)=S (.q x.t)/\Ow B w0 w' (oa b nb nt (k.bZ t)::R'):=λR' w' t h=>by have h:Ow B w0 w' (aa b (bR x k.aS k.cB nb nt)::Sl.av x.n k.bits k.H::Tr.bD x.tr k.T::bG x.ln k.ln::af df x.su k.u::af bS x.se x.pe::au ck x.pe k.ends::af bS x.sn x.pn::au bL x.pn k.notes::af bS x.ss x.ps::au Tb.bC x.ps k.ae::Th.bu x.t t::R'):=(h.cq).star;exact⟨h.aE U,(show Ow B w0 w' (oa b nb nt (k.bZ t)::R')from xC x h.sub)⟩
 have h1:Ow B w0 w (Th.bu x.t k.t::cj [aa b (bR x k.aS k.cB nb nt),Sl.av x.n k.bits k.H,Tr.bD x.tr k.T,bG x.ln k.ln,af df x.su k.u,af bS x.se x.pe,au ck x.pe k.ends,af bS x.sn x.pn,au bL x.pn k.notes,af bS x.ss x.ps,au Tb.bC x.ps k.ae]::R):=Ow.cq (Ow.bW (show Ow B w0 w (aa b (bR x k.aS k.cB nb nt)::Sl.av x.n k.bits k.H::Tr.bD x.tr k.T::bG x.ln k.ln::af df x.su k.u::af bS x.se x.pe::au ck x.pe k.ends::af bS x.sn x.pn::au bL x.pn k.notes::af bS x.ss x.ps::au Tb.bC x.ps k.ae::Th.bu x.t k.t::R)from h.sub));exact⟨x.t,_,h1,(hback R w k.t h1).1,λR' w' h=>(hback R' w' k.t h).1,hback⟩
theorem kJ{i kind obj:O}{K:O->Pw}(hT:k.T.length<1000000)(h:Ow B w0 w (oa b nb nt k::R))(hK:∀w',Ow B w0 w' (oa b nb nt (k.dB i kind obj)::R)->K (qf.wrap (i+1)) w'):PB b.o i kind obj K w:=by
 apply Xa;refine h.a λc w1 h=>?_;refine h.aA U U λw h=>?_;obtain⟨x,h⟩:=Jn (h.pick (A:=oa b nb nt k));refine h.dr λw h=>?_;refine⟨_,U,h.l1 U (h.aR U ⟨Sl.iE (s:=(0,i)) (c:=⟨kind,obj,7,0,0,0⟩) kr (h.pick (A:=Sl.av x.n k.bits k.H)) λw h=>?_,trivial⟩)⟩;refine h.dr λw h=>?_;refine⟨_,U,h.l2 U (h.aR U ⟨Tr.u2 (s:=(0,i)) hT (h.pick (A:=Tr.bD x.tr k.T)) λw h=>?_,trivial⟩)⟩;refine hK w ?_;exact(xC x h.sub:Ow B w0 w (oa b nb nt (k.dB i kind obj)::R))
theorem A9{t:Th.Mt}{bt:X}{p c:O}{K:O->O->Pw}(hm:Th.fH t)(h:Ow B w0 w (Th.bu bt t::R))(hK:∀w',Ow B w0 w' (Th.bu bt (t.cw p c).2.2::R)->K (t.cw p c).1 (t.cw p c).2.1 w'):PY bt.o p c K w:=by
 unfold Th.Mt.cw at hK;refine Th.nX hm h (λe w h=>?_) (λe e1 w h=>?_) (λe e1 w h=>?_)
 .rw[qd e]at hK;exact hK w h
 .rw[F (λhh=>hh e),qd e1]at hK;exact hK w h
 .rw[F (λhh=>hh e),F om]at hK;exact hK w h
theorem rn{c bits lines:O}{prios:Y O}{K:qh qg->O->Pw}[abw:cu s L O aq prios](h:Ow B w0 w L)(hbig:prios.length<=1000000000)
  (hK0:ag.ia c bits lines prios=G->∀w',Ow B w0 w' L->K N 1 w')
  (hK1:ag.ia c bits lines prios=Z->∀b w',Ow B w0 w' (ai b (ag.kq c.toNat bits.toNat lines.toNat prios)::L)->K b.o 0 w'):Qq c bits lines s K w:=by
 apply W4;refine h.a λcb w1 h=>?_;refine h.nT U ?_;refine BE (s:=s) h hbig λw h=>?_;cases hr:ag.ia c bits lines prios with
 |false=>exact bh U (hK0 hr w h.drop)
 |true=>
 have hK:=hK1 hr;clear hK0 hK1;obtain⟨b1,b2,b3,b4,b5,b6,b7,b8⟩:=of_decide_eq_true hr;clear hr;obtain⟨c,rfl⟩:=LB (show 0<=c by omega);obtain⟨bits,rfl⟩:=LB (show 0<=bits by omega);obtain⟨lines,rfl⟩:=LB b5;have b2:c<=8:=om
 have b9:4<=bits/\bits<=20:=⟨om,om⟩
 have b6:lines<=8:=om
 have b7:prios.length=c:=om
 simp only[Lw]at hK;have hlen:s.len=prios.length:=(h.drop).aL s;refine bc U ?_;intro k12 hk12;have fin:∀(kb n tr ub sp pb:X)(w:J),Ow B w0 w (aa kb [.q n,.q tr,.pointer N,.pointer N,.slice ub.o 1 1,.slice N 0 0,.slice N 0 0,.slice pb.o 1 1,.z 0,.z 0,.z 1,.z c]::Sl.av n [] (λ_=>N)::Tr.bD tr []::aa ub [.y 0,.z bits,.y 0]::Tb.bC sp Tb.iM::aa pb [.q sp]::aa cb [.z c,.z bits,.z lines,s.v]::L)->k12 kb.o w:=λkb n tr ub sp pb w h=>by
  apply hk12;refine h.l1 U ?_;refine Th.yg h (λe=>qj ⟨om,om⟩ e) λcc ecc _ _ bt w h=>?_;obtain rfl:c=cc:=om
  refine⟨_,U,h.fK U U λw h=>?_⟩;refine xv h λbl w h=>?_;refine⟨_,U,h.fK U U λw h=>?_⟩;refine⟨_,U,h.l1 U (Sl.gN (h.pick (A:=Sl.av n [] (λ_=>N))) λw h=>?_)⟩;have h:=(h.pick (A:=aa ub [.y 0,.z bits,.y 0])).yI (E:=df) [⟨0,bits,0⟩] U;have h:=(h.pick (A:=aa pb [.q sp])).yI (E:=bS) [sp] U;have h:=Ow.jX (A:=ck) (ps:=[]) (xs:=[]) U h;have h:=Ow.cZ (E:=bS) h;have h:=Ow.jX (A:=bL) (ps:=[]) (xs:=[]) U h;have h:=Ow.cZ (E:=bS) h;have h:=Ow.jX (A:=Tb.bC) (ps:=[sp]) (xs:=[Tb.iM]) U (h.pick (A:=Tb.bC sp Tb.iM));have h:Ow B w0 w (au Tb.bC [sp] [Tb.iM]::af bS z0 []::au bL [] []::af bS z0 []::au ck [] []::af bS ⟨S pb.p,1,1⟩ [sp]::af df ⟨S ub.p,1,1⟩ [⟨0,bits,0⟩]::Sl.av n [6] (λ_=>N)::bG bl (Ly 8 ⟨0,0,0⟩)::Th.bu bt (Th.jv c)::aa kb [.q n,.q tr,.q bt,.q bl,.slice ub.o 1 1,.slice N 0 0,.slice N 0 0,.slice pb.o 1 1,.z 0,.z 0,.z 1,.z c]::Tr.bD tr []::aa cb [.z c,.z bits,.z lines,s.v]::L):=h;have h:Ow B w0 w (aa kb [.q n,.q tr,.q bt,.q bl,.slice ub.o 1 1,.slice N 0 0,.slice N 0 0,.slice pb.o 1 1,.z 0,.z 0,.z 1,.z c]::Sl.av n [6] (λ_=>N)::Tr.bD tr []::Th.bu bt (Th.jv c)::bG bl (Ly 8 ⟨0,0,0⟩)::af df ⟨S ub.p,1,1⟩ [⟨0,bits,0⟩]::af bS z0 []::au ck [] []::af bS z0 []::au bL [] []::af bS ⟨S pb.p,1,1⟩ [sp]::au Tb.bC [sp] [Tb.iM]::aa cb [.z c,.z bits,.z lines,s.v]::L):=h.sub;have h:Ow B w0 w (oa kb 1 c (ag.jY c bits)::aa cb [.z c,.z bits,.z lines,s.v]::L):=xC ⟨n,tr,bt,bl,⟨S ub.p,1,1⟩,z0,z0,⟨S pb.p,1,1⟩,[],[],[sp]⟩ h;have g0:=xF (c:=c) b2 b9;obtain⟨g1,g2⟩:=ua (c:=c) b2 b9;have eC:∀{m:X}{k:ag},lZ c m k->k.T.length<1000000:=λg=>by have:=g.ok.eC;omega
  refine kJ (i:=0) (kind:=2) (obj:=0) (eC g0) h λw h=>?_;rw[show qf.wrap (0+1)=1 from by decide];refine kJ (i:=1) (kind:=1) (obj:=0) (eC g1) h λw h=>?_;rw[show qf.wrap (1+1)=2 from by decide];refine⟨s,h.aE U,?_⟩;intro l36 hl36;have loop:∀(ps:Y O)(j:X)(k:ag)(w:J),prios.drop j=ps->j+ps.length=c->lZ c (2+j) k->k.t.br.length=j->ag.pj ps j k=ag.pj prios 0 (((ag.jY c bits).dB 0 2 0).dB 1 1 0)->
    Ow B w0 w (oa kb 1 c k::aa cb [.z c,.z bits,.z lines,s.v]::L)->l36 ((2+j:X):O) (j:O) w:=by
   intro ps;induction ps with
   |nil=>
    intro j k w hd hj g ht he h;have hj:j=c:=hj;have he:k=_:=he;apply hl36;refine aw om ?_;refine kJ (i:=((2+j:X):O)) (kind:=8) (obj:=0) (eC g) h λw h=>?_;refine h.l2 U ?_;intro l61 hl61;have g3:=g.space om;have lines_loop:∀(q t:X)(k:ag)(w:J),t+q=lines->lZ c (3+c+t) k->ag.tZ q t (3+prios.length) k=ag.kq c bits lines prios->k.t.br.length=c->Ow B w0 w (oa kb 1 c k::aa cb [.z c,.z bits,.z lines,s.v]::L)->l61 ((3+c+t:X):O) (t:O) w:=by
     intro q;induction q with
     |zero=>
      intro t k w hq g he ht h;have he:k=ag.kq c bits lines prios:=he;apply hl61;refine aw om ?_;refine hK kb w ?_;rw[<-he];have h2:oa kb 1 c k=ai kb k:=by unfold oa ai;rw[ht,g.bits];rfl
      rw[h2]at h;exact h.sub
     |succ q ih=>
      intro t k w hq g he ht h;apply hl61;refine az om ?_;refine kJ (i:=((3+c+t:X):O)) (kind:=9) (obj:=(t:O)) (eC g) h λw h=>?_;rw[show qf.wrap (((3+c+t:X):O)+1)=((3+c+(t+1):X):O)from by rw[wr om om];omega,
       show qf.wrap ((t:O)+1)=((t+1:X):O)from by rw[wr om om];omega]
      refine ih (t+1) _ w om (g.line om om) ?_ ht h;rw[<-he,b7];rfl
    have hi:qf.wrap (((2+j:X):O)+1)=((3+c+0:X):O):=by rw[wr om om];omega
    rw[hi];refine lines_loop lines 0 (k.dB ((2+j:X):O) 8 0) w om (show lZ c (3+c+0) (k.dB ((2+j:X):O) 8 0)from by rw[show 3+c+0=2+j+1 from by omega];exact g3) ?_ (ht.trans hj) h;unfold ag.kq;rw[<-he,hj,b7]
   |cons p ps ih=>
    intro j k w hd hj g ht he h;rw[LL]at hj;have hx:prios[j]?=S p:=by have:=qz (λl=>l[0]?) hd;simpa using this
    have hp:0<=p/\p<256:=b8 p (L4 hx);obtain⟨g3,g4,g5⟩:=g.yh om b2 ht hp;apply hl36;refine az om ?_;refine h.cz (s:=s) (i:=(j:O)) (j:=j) U hx λa ha h0 hcc=>⟨_,h0 _ U,?_⟩
    obtain⟨bt,abp,h,hc2,_,hback⟩:=Fb h;refine⟨_,U,_,hc2,A9 g.ok.inv.ok h λw h=>?_⟩;refine⟨_,U,_,(hback _ w _ h).1,?_⟩;have i1:=g.ok.inv.cw p (j:O);refine Th.uL i1.ok h λw h=>?_;refine⟨_,U,_,(hback _ w _ h).1,Th.iq (i1.resume _).ok h λw h=>?_⟩;have h:=(hback _ w _ h).2;refine kJ (k:=k.bZ (((k.t.cw p (j:O)).2.2.bJ (k.t.cw p (j:O)).1).2.aW (j:O))) (i:=((2+j:X):O)) (kind:=3) (obj:=(k.t.cw p (j:O)).1) (eC g:k.T.length<1000000) h λw h=>?_;rw[show qf.wrap (((2+j:X):O)+1)=((2+(j+1):X):O)from by rw[wr om om];omega,
     show qf.wrap ((j:O)+1)=((j+1:X):O)from by rw[wr om om];omega]
    refine ih (j+1) _ w ?_ om g3 g4 (he▸rfl) h;rw[<-ML,hd];rfl
  exact loop prios 0 _ w U om g2 U U h
 refine h.dr λw h=>?_;refine⟨_,h.aE U,_,h.aF U,?_,?_,trivial⟩
 .refine Sl.mV h λn w h=>?_
  refine⟨h.aF U,h.aE U,?_,?_,trivial⟩
  .refine Tr.kf h λtr w h=>?_
   refine⟨h.aF U,h.aE U,?_,?_,trivial⟩
   .refine h.a λub v1 h=>?_;refine⟨Tb.l0 h λsp w h=>?_,trivial⟩
    refine⟨h.aF U,h.al λv2 h=>⟨?_,trivial⟩,trivial⟩
    generalize w.heap.size=pb at h|-;refine h.a λkb v3 h=>?_;exact fin kb n tr ub sp pb _ h.sub
   .refine Tb.l0 h λsp w h=>?_
    refine⟨h.aF U,h.aE U,?_,?_,trivial⟩
    .refine h.al λv1 h=>⟨?_,trivial⟩
     generalize w.heap.size=ub at h|-;refine h.al λv2 h=>⟨?_,trivial⟩
     generalize v1.heap.size=pb at h|-;refine h.a λkb v3 h=>?_;exact fin kb n tr ub sp pb _ h.sub
    .refine h.al λv1 h=>⟨?_,trivial⟩
     generalize w.heap.size=pb at h|-;refine h.al λv2 h=>⟨?_,trivial⟩
     generalize v1.heap.size=ub at h|-;refine h.a λkb v3 h=>?_;exact fin kb n tr ub sp pb _ h.sub
  .refine h.al λv1 h=>⟨?_,trivial⟩
   generalize w.heap.size=ub at h|-;refine Tr.kf h λtr w h=>?_;refine⟨h.aF U,Tb.l0 h λsp w h=>?_,trivial⟩;refine⟨h.aF U,h.al λv2 h=>⟨?_,trivial⟩,trivial⟩
   generalize w.heap.size=pb at h|-;refine h.a λkb v3 h=>?_;exact fin kb n tr ub sp pb _ h.sub
 .refine h.al λv1 h=>⟨?_,trivial⟩
  generalize w.heap.size=ub at h|-;refine Sl.mV h λn w h=>?_;refine⟨h.aF U,Tr.kf h λtr w h=>?_,trivial⟩;refine⟨h.aF U,Tb.l0 h λsp w h=>?_,trivial⟩;refine⟨h.aF U,h.al λv2 h=>⟨?_,trivial⟩,trivial⟩
  generalize w.heap.size=pb at h|-;refine h.a λkb v3 h=>?_;exact fin kb n tr ub sp pb _ h.sub
def IL:ag:=ag.kq 1 10 2 [5]
theorem f1:(IL.do 0 ⟨0,1,20,4,0,1⟩).1=⟨0,0,-1,[]⟩:=qa
def IM:ag:=(IL.do 0 ⟨0,1,20,4,0,1⟩).2
theorem f2:(IM.do 0 ⟨1,20,21,2,7,0⟩).1=⟨0,0,-1,[]⟩:=qa
def IN:ag:=(IM.do 0 ⟨1,20,21,2,7,0⟩).2
theorem f3:(IN.do 0 ⟨9,21,0,0,0,0⟩).1=⟨181,0,-1,[]⟩:=qa
def H7:ag:=(IN.do 0 ⟨9,21,0,0,0,0⟩).2
theorem Lj:(fi H7.H).length=8:=qa
theorem f4:(H7.do 0 ⟨4,1,0,0,0,0⟩).1=⟨0,2,-1,[]⟩:=qa
def IP:ag:=(H7.do 0 ⟨4,1,0,0,0,0⟩).2
theorem f5:(IP.do 0 ⟨18,0,0,0,0,0⟩).1=⟨180,0,-1,[]⟩:=qa
def IQ:ag:=(IP.do 0 ⟨18,0,0,0,0,0⟩).2
theorem f6:(IQ.do 1 ⟨0,0,0,0,0,0⟩).1=⟨182,0,-1,[]⟩:=qa
def HL:ag:=(IQ.do 1 ⟨0,0,0,0,0,0⟩).2
theorem Ll:HL.zY 0=(⟨0,10,0⟩,Z):=qa
theorem f7:(HL.do 0 ⟨6,2,0,0,0,0⟩).1=⟨0,0,-1,[]⟩:=qa
def IS:ag:=(HL.do 0 ⟨6,2,0,0,0,0⟩).2
theorem f8:(IS.do 0 ⟨17,0,0,0,0,0⟩).1=⟨182,0,-1,[]⟩:=qa
def JM:ag:=(IS.do 0 ⟨17,0,0,0,0,0⟩).2
theorem Lk:(fi JM.H).length=6:=qa
theorem EN:ba 1 IL:=(yN (c:=1) (bits:=10) (lines:=2) (prios:=[5]) qb qb qb U qb).1.ok
theorem EO:ba 65 IM:=EN.do qb 0 ⟨0,1,20,4,0,1⟩
theorem EP:ba 129 IN:=EO.do qb 0 ⟨1,20,21,2,7,0⟩
theorem AL:ba 193 H7:=EP.do qb 0 ⟨9,21,0,0,0,0⟩
theorem ER:ba 257 IP:=AL.do qb 0 ⟨4,1,0,0,0,0⟩
theorem ES:ba 321 IQ:=ER.do qb 0 ⟨18,0,0,0,0,0⟩
theorem ET:ba 385 HL:=ES.do qb 1 ⟨0,0,0,0,0,0⟩
theorem EU:ba 449 IS:=ET.do qb 0 ⟨6,2,0,0,0,0⟩
theorem H8:ba 513 JM:=EU.do qb 0 ⟨17,0,0,0,0,0⟩
theorem ug{K:W->Pw}(h:Ow B w0 w R)(hK:∀w',Ow B w0 w' R->K Z w'):Sg K w:=by
 apply aax;apply aay;refine h.a λcf w1 h=>?_;refine h.a λpb w2 h=>?_;refine h.aA U U λw h=>?_;refine h.nT (c0:= .i .i64) (c1:= .i .i64) (c2:= .i .i64) (c3:= .s) (x3:=Vc.Sl.mk pb.o 1 1) U ?_;have h:=(h.pick (A:=aa pb [.z 5])).yI (E:=aq) [5] U;have h:Ow B w0 w (af aq ⟨S pb.p,1,1⟩ [5]::R):=h.sub;refine rn (s:=⟨S pb.p,1,1⟩) (prios:=[5]) h qb (λe=>qj e qb) λ_ kb w h=>?_;have h:Ow B w0 w (ai kb IL::af aq ⟨S pb.p,1,1⟩ [5]::R):=h;have h:Ow B w0 w (ai kb IL::R):=h.sub;intro k9 hk9;refine bc U ?_;refine hk9 _ _ (bc U ?_);refine gk (core:=0) (c:=⟨0,1,20,4,0,1⟩) EN qb qb qb (h.pick (A:=ai kb IL)) λf0 w h=>?_;rw[f1]at h|-;dsimp only at h|-;refine h.a λo0 w1 h=>?_;refine h.aA U U λw h=>?_;have h:Ow B w0 w (aa o0 [.z 0,.y 0,.z (-1),f0.v]::af aP f0 []::ai kb IM::_):=h;have h:Ow B w0 w (ai kb IM::aa o0 [.z 0,.y 0,.z (-1),f0.v]::R):=h.sub;refine gk (core:=0) (c:=⟨1,20,21,2,7,0⟩) EO qb qb qb (h.pick (A:=ai kb IM)) λf1 w h=>?_;rw[f2]at h|-;dsimp only at h|-;refine h.a λo1 w1 h=>?_;refine h.aA U U λw h=>?_;have h:Ow B w0 w (aa o1 [.z 0,.y 0,.z (-1),f1.v]::af aP f1 []::ai kb IN::_):=h;have h:Ow B w0 w (ai kb IN::aa o0 [.z 0,.y 0,.z (-1),f0.v]::aa o1 [.z 0,.y 0,.z (-1),f1.v]::R):=h.sub;refine gk (core:=0) (c:=⟨9,21,0,0,0,0⟩) EP qb qb qb (h.pick (A:=ai kb IN)) λf2 w h=>?_;rw[f3]at h|-;dsimp only at h|-;refine h.a λo2 w1 h=>?_;refine h.aA U U λw h=>?_;have h:Ow B w0 w (aa o2 [.z 181,.y 0,.z (-1),f2.v]::af aP f2 []::ai kb H7::_):=h;have h:Ow B w0 w (ai kb H7::aa o0 [.z 0,.y 0,.z (-1),f0.v]::aa o1 [.z 0,.y 0,.z (-1),f1.v]::aa o2 [.z 181,.y 0,.z (-1),f2.v]::R):=h.sub;refine rp AL h λhs w h=>?_;have hl:=h.aL hs;rw[Lj]at hl;have h:=h.drop;refine gk (core:=0) (c:=⟨4,1,0,0,0,0⟩) AL qb qb qb (h.pick (A:=ai kb H7)) λf3 w h=>?_;rw[f4]at h|-;dsimp only at h|-;refine h.a λo3 w1 h=>?_;refine h.aA U U λw h=>?_;have h:Ow B w0 w (aa o3 [.z 0,.y 2,.z (-1),f3.v]::af aP f3 []::ai kb IP::_):=h;have h:Ow B w0 w (ai kb IP::aa o0 [.z 0,.y 0,.z (-1),f0.v]::aa o1 [.z 0,.y 0,.z (-1),f1.v]::aa o2 [.z 181,.y 0,.z (-1),f2.v]::aa o3 [.z 0,.y 2,.z (-1),f3.v]::R):=h.sub;refine gk (core:=0) (c:=⟨18,0,0,0,0,0⟩) ER qb qb qb (h.pick (A:=ai kb IP)) λf4 w h=>?_;rw[f5]at h|-;dsimp only at h|-;refine h.a λo4 w1 h=>?_;refine h.aA U U λw h=>?_;have h:Ow B w0 w (aa o4 [.z 180,.y 0,.z (-1),f4.v]::af aP f4 []::ai kb IQ::_):=h;have h:Ow B w0 w (ai kb IQ::aa o0 [.z 0,.y 0,.z (-1),f0.v]::aa o1 [.z 0,.y 0,.z (-1),f1.v]::aa o2 [.z 181,.y 0,.z (-1),f2.v]::aa o3 [.z 0,.y 2,.z (-1),f3.v]::aa o4 [.z 180,.y 0,.z (-1),f4.v]::R):=h.sub;refine gk (core:=1) (c:=⟨0,0,0,0,0,0⟩) ES qb qb qb (h.pick (A:=ai kb IQ)) λf5 w h=>?_;rw[f6]at h|-;dsimp only at h|-;refine h.a λo5 w1 h=>?_;refine h.aA U U λw h=>?_;have h:Ow B w0 w (aa o5 [.z 182,.y 0,.z (-1),f5.v]::af aP f5 []::ai kb HL::_):=h;have h:Ow B w0 w (ai kb HL::aa o0 [.z 0,.y 0,.z (-1),f0.v]::aa o1 [.z 0,.y 0,.z (-1),f1.v]::aa o2 [.z 181,.y 0,.z (-1),f2.v]::aa o3 [.z 0,.y 2,.z (-1),f3.v]::aa o4 [.z 180,.y 0,.z (-1),f4.v]::aa o5 [.z 182,.y 0,.z (-1),f5.v]::R):=h.sub;refine pd (n:=0) h λw h=>?_;rw[Ll];dsimp only;refine h.a λub w1 h=>?_;refine h.aA U U λw h=>?_;have h:Ow B w0 w (aa ub [.y 0,.z 10,.y 0]::ai kb HL::_):=h;refine gk (core:=0) (c:=⟨6,2,0,0,0,0⟩) ET qb qb qb (h.pick (A:=ai kb HL)) λf6 w h=>?_;rw[f7]at h|-;dsimp only at h|-;refine h.a λo6 w1 h=>?_;refine h.aA U U λw h=>?_;have h:Ow B w0 w (aa o6 [.z 0,.y 0,.z (-1),f6.v]::af aP f6 []::ai kb IS::_):=h;have h:Ow B w0 w (ai kb IS::aa o0 [.z 0,.y 0,.z (-1),f0.v]::aa o1 [.z 0,.y 0,.z (-1),f1.v]::aa o2 [.z 181,.y 0,.z (-1),f2.v]::aa o3 [.z 0,.y 2,.z (-1),f3.v]::aa o4 [.z 180,.y 0,.z (-1),f4.v]::aa o5 [.z 182,.y 0,.z (-1),f5.v]::aa o6 [.z 0,.y 0,.z (-1),f6.v]::aa ub [.y 0,.z 10,.y 0]::R):=h.sub;refine gk (core:=0) (c:=⟨17,0,0,0,0,0⟩) EU qb qb qb (h.pick (A:=ai kb IS)) λf7 w h=>?_;rw[f8]at h|-;dsimp only at h|-;refine h.a λo7 w1 h=>?_;refine h.aA U U λw h=>?_;have h:Ow B w0 w (aa o7 [.z 182,.y 0,.z (-1),f7.v]::af aP f7 []::ai kb JM::_):=h;have h:Ow B w0 w (ai kb JM::aa o0 [.z 0,.y 0,.z (-1),f0.v]::aa o1 [.z 0,.y 0,.z (-1),f1.v]::aa o2 [.z 181,.y 0,.z (-1),f2.v]::aa o3 [.z 0,.y 2,.z (-1),f3.v]::aa o4 [.z 180,.y 0,.z (-1),f4.v]::aa o5 [.z 182,.y 0,.z (-1),f5.v]::aa o6 [.z 0,.y 0,.z (-1),f6.v]::aa o7 [.z 182,.y 0,.z (-1),f7.v]::aa ub [.y 0,.z 10,.y 0]::R):=h.sub;have h:=Ow.cZ (E:=aq) h;refine rn (c:=0) (bits:=0) (lines:=0) (s:=z0) (prios:=[]) h qb (λ_ w h=>?_) λe=>qj e qb;have h:=h.drop;refine⟨_,h.aF U,bh U ⟨_,h.aE U,bh U ⟨_,h.aF U,bh U ⟨_,h.aF U,bh U (og om ⟨_,h.aF U,bh U ⟨_,h.aE U,bh U (rp H8 h λhs2 w h=>?_)⟩⟩)⟩⟩⟩⟩;have hl2:=h.aL hs2;rw[Lk]at hl2;refine og om ?_;refine⟨_,h.aF U,bh U ⟨_,h.aF U,bh U (h.nS U ⟨Z,EJ qa qa qa qa,bh U ?_⟩)⟩⟩;refine bh U ?_;exact⟨_,h.aF U,bh U ⟨_,h.aF U,bh U (hK w h.sub)⟩⟩
theorem Jk(a b:Slot × cN):lO qe 9 201 (Sl.dW.enc a) (Sl.dW.enc b)=S (V (a=b)):=by
 have h:lO qe 9 201 (Sl.dW.enc a) (Sl.dW.enc b)=S ((a.1.1==b.1.1&&(a.1.2==b.1.2&&Z))&&((a.2.kind==b.2.kind&&(a.2.obj==b.2.obj&&(a.2.ar==b.2.ar&&(a.2.ay==b.2.ay&&(a.2.guard==b.2.guard&&(a.2.bits==b.2.bits&&Z))))))&&Z)):=qa
 rw[h];congr 1;rw[Nh];simp only[NO,LO,qH,qB];obtain⟨⟨a1,a2⟩,a3⟩:=a;obtain⟨⟨b1,b2⟩,b3⟩:=b;cases a3;cases b3;simp only[Prod.mk.injEq,Sl.cN.mk.injEq]
theorem Ib{x y:qD}(a b:Slot × cN):vl qe .neq 201 x y (.agg ⟨Sl.dW.enc a⟩) (.agg ⟨Sl.dW.enc b⟩) (!decide (a=b)):=wA qa qa qa (Jk a b)
theorem Hk(a c:Slot):lO qe 9 155 (Tr.aC.enc a) (Tr.aC.enc c)=S (V (a=c)):=by
 have h:lO qe 9 155 (Tr.aC.enc a) (Tr.aC.enc c)=S (a.1==c.1&&(a.2==c.2&&Z)):=qa
 rw[h];congr 1;rw[Nh];simp only[NO,LO,qH,qB];cases a;cases c;simp only[Prod.mk.injEq]
theorem Gg{x y:qD}(a c:Slot):vl qe .neq 155 x y (.agg ⟨Tr.aC.enc a⟩) (.agg ⟨Tr.aC.enc c⟩) (!decide (a=c)):=wA qa qa qa (Hk a c)
theorem Jo(a b:O × Tb.Pg):lO qe 9 204 (Tb.aK.enc a) (Tb.aK.enc b)=S (V (a=b)):=by
 have h:lO qe 9 204 (Tb.aK.enc a) (Tb.aK.enc b)=S (a.1==b.1&&((a.2.1==b.2.1&&(a.2.2==b.2.2&&Z))&&Z)):=qa
 rw[h];congr 1;rw[Nh];simp only[NO,LO,qH,qB];obtain⟨a1,a2,a3⟩:=a;obtain⟨b1,b2,b3⟩:=b;simp only[Prod.mk.injEq]
theorem Ig{x y:qD}(a b:O × Tb.Pg):vl qe .neq 204 x y (.agg ⟨Tb.aK.enc a⟩) (.agg ⟨Tb.aK.enc b⟩) (!decide (a=b)):=wA qa qa qa (Jo a b)
theorem KK(a b:nP):lO qe 9 98 (df.enc a) (df.enc b)=S (V (a=b)):=by
 have h:lO qe 9 98 (df.enc a) (df.enc b)=S ((a.base:O)==(b.base:O)&&((a.bits:O)==(b.bits:O)&&((a.used:O)==(b.used:O)&&Z))):=qa
 rw[h];congr 1;rw[Nh];simp only[NO,LO,qH,qB];obtain⟨a1,a2,a3⟩:=a;obtain⟨b1,b2,b3⟩:=b;simp only[nP.mk.injEq];omega
theorem JK{x y:qD}(a b:nP):vl qe .neq 98 x y (.agg ⟨df.enc a⟩) (.agg ⟨df.enc b⟩) (!decide (a=b)):=wA qa qa qa (KK a b)
theorem rv{α:Type}{xs ys:Y α}(hl:xs.length=ys.length)(h:∀i,i<xs.length->xs[i]?=ys[i]?):xs=ys:=L5 λi=>by
 by_cases e:i<xs.length
 .exact h i e
 .rw[L0 om,L0 om]
theorem tf{s t:Sl}{xs ys:Y (Slot × cN)}{K:W->Pw}(h:Ow B w0 w L)(hr1:Rd Sl.dW B w0 L s xs)(hr2:Rd Sl.dW B w0 L t ys)(hs:xs.length<=1000000)(hK:∀w',Ow B w0 w' L->K (V (xs=ys)) w'):Si s t K w:=by
 apply ZE;have l1:=hr1.len;have l2:=hr2.len;by_cases e:xs.length=ys.length
 .refine bc (by simp;omega) ?_
  intro l3 hl3;have loop:∀(j i:X)(w:J),i+j=xs.length->(∀k,k<i->xs[k]?=ys[k]?)->Ow B w0 w L->l3 (i:O) w:=by
   intro j;induction j with
   |zero=>
    intro i w hi hb h;apply hl3;refine aw om ?_;have:xs=ys:=rv e λk hk=>hb k om;have hk:=hK w h
    rwa [qu this]at hk
   |succ j ih=>
    intro i w hi hb h;apply hl3;refine az om ?_;refine h.dr λw h=>?_;have hx:xs[i]?=S xs[i]:=gE om;have hy:ys[i]?=S (ys[i]'om):=gE om;refine hr1.ix h U hx λa ha h0 hc=>⟨_,hc 0 _ U,_,hc 1 _ U,_,hc 2 _ U,_,hc 3 _ U,_,hc 4 _ U,_,hc 5 _ U,_,hc 6 _ U,_,hc 7 _ U,?_⟩
    refine hr2.ix h U hy λa ha h0 hc=>⟨_,hc 0 _ U,_,hc 1 _ U,_,hc 2 _ U,_,hc 3 _ U,_,hc 4 _ U,_,hc 5 _ U,_,hc 6 _ U,_,hc 7 _ U,?_⟩
    refine⟨_,Ib xs[i] (ys[i]'om),?_⟩;by_cases e2:xs[i]=ys[i]'om
    .refine bc (by simpa using e2) ?_
     rw[wI i om];refine ih (i+1) w om (λk hk=>?_) h;by_cases e3:k=i
     .subst e3;rw[hx,hy,e2]
     .exact hb k om
    .refine bh (by simpa using e2) ?_
     have:xs≠ys:=λe3=>by
      have:xs[i]?=ys[i]?:=by rw[e3]
      rw[hx,hy]at this;exact e2 (by simpa using this)
     have hk:=hK w h
     rwa [qm this]at hk
  exact loop xs.length 0 w om (λk hk=>by omega) h
 .refine bh (by simp;omega) ?_
  have:xs≠ys:=λe2=>e (by rw[e2]);have hk:=hK w h
  rwa [qm this]at hk
theorem tg{s t:Sl}{xs ys:Y Slot}{K:W->Pw}(h:Ow B w0 w L)(hr1:Rd Tr.aC B w0 L s xs)(hr2:Rd Tr.aC B w0 L t ys)(hs:xs.length<=1000000)(hK:∀w',Ow B w0 w' L->K (V (xs=ys)) w'):P5 s t K w:=by
 apply ZM;have l1:=hr1.len;have l2:=hr2.len;by_cases e:xs.length=ys.length
 .refine bc (by simp;omega) ?_
  intro l3 hl3;have loop:∀(j i:X)(w:J),i+j=xs.length->(∀k,k<i->xs[k]?=ys[k]?)->Ow B w0 w L->l3 (i:O) w:=by
   intro j;induction j with
   |zero=>
    intro i w hi hb h;apply hl3;refine aw om ?_;have:xs=ys:=rv e λk hk=>hb k om;have hk:=hK w h
    rwa [qu this]at hk
   |succ j ih=>
    intro i w hi hb h;apply hl3;refine az om ?_;refine h.dr λw h=>?_;have hx:xs[i]?=S xs[i]:=gE om;have hy:ys[i]?=S (ys[i]'om):=gE om;refine hr1.ix h U hx λa ha h0 hc=>⟨_,hc 0 _ U,_,hc 1 _ U,?_⟩
    refine hr2.ix h U hy λa ha h0 hc=>⟨_,hc 0 _ U,_,hc 1 _ U,?_⟩
    refine⟨_,Gg xs[i] (ys[i]'om),?_⟩;by_cases e2:xs[i]=ys[i]'om
    .refine bc (by simpa using e2) ?_
     rw[wI i om];refine ih (i+1) w om (λk hk=>?_) h;by_cases e3:k=i
     .subst e3;rw[hx,hy,e2]
     .exact hb k om
    .refine bh (by simpa using e2) ?_
     have:xs≠ys:=λe3=>by
      have:xs[i]?=ys[i]?:=by rw[e3]
      rw[hx,hy]at this;exact e2 (by simpa using this)
     have hk:=hK w h
     rwa [qm this]at hk
  exact loop xs.length 0 w om (λk hk=>by omega) h
 .refine bh (by simp;omega) ?_
  have:xs≠ys:=λe2=>e (by rw[e2]);have hk:=hK w h
  rwa [qm this]at hk
theorem tk{s t:Sl}{xs ys:Y (O × Tb.Pg)}{K:W->Pw}(h:Ow B w0 w L)(hr1:Rd Tb.aK B w0 L s xs)(hr2:Rd Tb.aK B w0 L t ys)(hs:xs.length<=1000000)(hK:∀w',Ow B w0 w' L->K (V (xs=ys)) w'):Sj s t K w:=by
 apply ZV;have l1:=hr1.len;have l2:=hr2.len;by_cases e:xs.length=ys.length
 .refine bc (by simp;omega) ?_
  intro l3 hl3;have loop:∀(j i:X)(w:J),i+j=xs.length->(∀k,k<i->xs[k]?=ys[k]?)->Ow B w0 w L->l3 (i:O) w:=by
   intro j;induction j with
   |zero=>
    intro i w hi hb h;apply hl3;refine aw om ?_;have:xs=ys:=rv e λk hk=>hb k om;have hk:=hK w h
    rwa [qu this]at hk
   |succ j ih=>
    intro i w hi hb h;apply hl3;refine az om ?_;refine h.dr λw h=>?_;have hx:xs[i]?=S xs[i]:=gE om;have hy:ys[i]?=S (ys[i]'om):=gE om;refine hr1.ix h U hx λa ha h0 hc=>⟨_,hc 0 _ U,_,hc 1 _ U,_,hc 2 _ U,?_⟩
    refine hr2.ix h U hy λa ha h0 hc=>⟨_,hc 0 _ U,_,hc 1 _ U,_,hc 2 _ U,?_⟩
    refine⟨_,Ig xs[i] (ys[i]'om),?_⟩;by_cases e2:xs[i]=ys[i]'om
    .refine bc (by simpa using e2) ?_
     rw[wI i om];refine ih (i+1) w om (λk hk=>?_) h;by_cases e3:k=i
     .subst e3;rw[hx,hy,e2]
     .exact hb k om
    .refine bh (by simpa using e2) ?_
     have:xs≠ys:=λe3=>by
      have:xs[i]?=ys[i]?:=by rw[e3]
      rw[hx,hy]at this;exact e2 (by simpa using this)
     have hk:=hK w h
     rwa [qm this]at hk
  exact loop xs.length 0 w om (λk hk=>by omega) h
 .refine bh (by simp;omega) ?_
  have:xs≠ys:=λe2=>e (by rw[e2]);have hk:=hK w h
  rwa [qm this]at hk
theorem JJ(a b:Th.rj):lO qe 9 139 (Th.ff.enc a) (Th.ff.enc a)=S true:=by
 have h:lO qe 9 139 (Th.ff.enc a) (Th.ff.enc a)=S (a.st==a.st&&(a.pr==a.pr&&(a.co==a.co&&(a.le==a.le&&((a.rg 0==a.rg 0&&(a.rg 1==a.rg 1&&(a.rg 2==a.rg 2&&(a.rg 3==a.rg 3&&(a.rg 4==a.rg 4&&(a.rg 5==a.rg 5&&(a.rg 6==a.rg 6&&(a.rg 7==a.rg 7&&Z))))))))&&Z))))):=qa
 rw[h];simp
theorem ID{x y:qD}(a:Th.rj):vl qe .neq 139 x y (.agg ⟨Th.ff.enc a⟩) (.agg ⟨Th.ff.enc a⟩) false:=
 wA (x:=x) (y:=y) (P:=qe) (t:=139) (xs:=Th.ff.enc a) (ys:=Th.ff.enc a) qa qa qa (JJ a a)
theorem Ik(a:lM):lO qe 9 289 (aP.enc a) (aP.enc a)=S true:=by
 have h:lO qe 9 289 (aP.enc a) (aP.enc a)=S (a.space==a.space&&(a.FF==a.FF&&((a.frame==a.frame&&(a.ar==a.ar&&Z))&&Z))):=qa
 rw[h];simp
theorem GY{x y:qD}(a:lM):vl qe .neq 289 x y (.agg ⟨aP.enc a⟩) (.agg ⟨aP.enc a⟩) false:=
 wA (x:=x) (y:=y) (P:=qe) (t:=289) (xs:=aP.enc a) (ys:=aP.enc a) qa qa qa (Ik a)
theorem FP{s t:Sl}{xs:Y O}{K:W->Pw}[cu s L O aq xs][cu t L O aq xs](hs:xs.length<=1000000000)(h:Ow B w0 w L)(hK:∀w',Ow B w0 w' L->K Z w'):Sv s t K w:=by
 apply YP;have l1:=h.aL s;have l2:=h.aL t;refine fa om ?_;intro l hl;have loop:∀(m j:X)(w:J),j+m=xs.length->Ow B w0 w L->l (j:O) w:=by
  intro m;induction m with
  |zero=>intro j w hj h;apply hl;exact aw om (hK w h)
  |succ m ih=>
   intro j w hj h;have hx:xs[j]?=S xs[j]:=gE om;apply hl;refine az om ?_;refine h.dr λw h=>?_;refine h.cz (s:=s) U hx λa ha h0 hc=>⟨_,h0 _ U,?_⟩
   refine h.cz (s:=t) U hx λa ha h0 hc=>⟨_,h0 _ U,?_⟩
   refine fa U ?_;rw[wr om om];exact ih (j+1) w om h
 exact loop xs.length 0 w om h
theorem HP{w:J}{A:qg}{x:lM}{f:O->O->O->O->Prop}(g:∀c v,(aP.enc x)[c]?=S v->w.cell? (A.add c)=S v)(hf:f x.space x.FF x.frame x.ar):
  ax w A 0 [.o,.o,.o,.o] f:=⟨_,g 0 _ U,_,g 1 _ U,_,g 2 _ U,_,g 3 _ U,hf⟩
theorem DH{s t:Sl}{xs:Y lM}{K:W->Pw}[cu s L lM aP xs][cu t L lM aP xs](hs:xs.length<=1000000000)(h:Ow B w0 w L)(hK:∀w',Ow B w0 w' L->K Z w'):Sz s t K w:=by
 apply aab;have l1:=h.aL s;have l2:=h.aL t;refine fa om ?_;intro l hl;have loop:∀(m j:X)(w:J),j+m=xs.length->Ow B w0 w L->l (j:O) w:=by
  intro m;induction m with
  |zero=>intro j w hj h;apply hl;exact aw om (hK w h)
  |succ m ih=>
   intro j w hj h;have hx:xs[j]?=S xs[j]:=gE om;apply hl;refine az om ?_;refine h.dr λw h=>?_;refine h.cz (s:=s) U hx λa ha _ hc=>HP hc ?_;refine h.cz (s:=t) U hx λa ha _ hc=>HP hc ?_;refine⟨_,GY xs[j],bc U ?_⟩;rw[wr om om];exact ih (j+1) w om h
 exact loop xs.length 0 w om h
theorem FQ{s t:Sl}{e v wk:O}{xs:Y lM}{K:W->Pw}[cu s L lM aP xs][cu t L lM aP xs](hs:xs.length<=1000000000)(h:Ow B w0 w L)(hK:∀w',Ow B w0 w' L->K Z w'):R9 e v wk s e v wk t K w:=by apply Z7;refine h.a λc1 w1 h=>?_;refine h.a λc2 w2 h=>?_;exact⟨_,h.aF U,_,h.aF U,og U ⟨_,h.aE U,_,h.aE U,og U ⟨_,h.aE U,_,h.aE U,og U ⟨s,h.aE U,t,h.aE U,DH (s:=s) (t:=t) hs h λw h=>hK w h.drop.drop⟩⟩⟩⟩
end
section
variable{T:Sl->Y lM->aH}{M abz B:X}{w0 w:J}{R L:Y aH}{rb kb:X}{k:ag}{d:Told}
theorem nx(i:X)(hi:i<1000000000):qf.wrap ((i:O)+1)=((i+1:X):O):=by rw[wr om om];omega
theorem uP{c:X}{K:W->Pw}(hk:ba abz k)(hM:M<=1000000)(hN:abz<=200000)(hc8:c<=8)(h:Ow B w0 w (ai kb k::gI T M rb k d::R))(hK:∀w',Ow B w0 w' (ai kb k::gI T M rb k d::R)->K Z w'):
  Q5 kb.o rb.o (c:O) K w:=by
 apply aaw;have nu:=hk.nu;have ne:=hk.ne;have nn:=hk.nn;have ns:=hk.ns;have nth:=hk.inv.ok.eC;intro k4 hk4;have main:∀w,Ow B w0 w (ai kb k::gI T M rb k d::R)->k4 G w:=λw h=>by
  apply hk4;refine bc U ?_;intro l7 hl7;have runs:∀(l:O->Pw) (hl:∀(i162:O)(w163:J),(bif V (i162<=(c:O))then
     (Rg kb.o i162 (λr164 r165 w166=>
     ∃a167:qg,S (rb.p:qg)=S a167/\
     ∃t168:qh qg,w166.cell? (a167.add 2)=S (.pointer t168)/\
     OZ t168 i162 (λr169 r170 w171=>
     ∀k172:W->Pw,
     (∀(t173:W)(w174:J),(bif t173 then(K G w174)else(l (qf.wrap (i162+(1:O))) w174))->k172 t173 w174)->
     (bif r164 !=r169 then(k172 Z w171)else(k172 (!(r165==r170)) w171))) w166) w163)
     else(K Z w163))->l i162 w163) (w:J),Ow B w0 w (ai kb k::gI T M rb k d::R)->l 0 w:=λl hl w h=>by
   have loop:∀(d' i:X)(w:J),i+d'=c+1->Ow B w0 w (ai kb k::gI T M rb k d::R)->l (i:O) w:=by
    intro d';induction d' with
    |zero=>intro i w hi h;apply hl;exact aw om (hK w h)
    |succ d' ih=>
     intro i w hi h;apply hl;refine az om ?_;refine CL hk h λw h=>?_;have h0:=h;obtain⟨x,h⟩:=iz h.cq;refine⟨_,U,h.l2 U (Th.eh hk.inv.ok (hk.inv.rY _) (h.pick (A:=Th.bN x.th k.t)) ?_)⟩;intro k172 hk172;refine fa U ?_;rw[beq_self_eq_true];apply hk172;refine bc U ?_;rw[nx i om];exact ih (i+1) w om h0
   exact loop (c+1) 0 w om h
  have loop7:∀(d' i:X)(w:J),i+d'=k.t.br.length+1->Ow B w0 w (ai kb k::gI T M rb k d::R)->l7 (i:O) w:=by
   intro d';induction d' with
   |succ d' ih=>
    intro i w hi h;apply hl7;have h0:=h;obtain⟨x,h⟩:=iz h.cq;obtain⟨l,q,bs,hbs,h2⟩:=(h.pick (A:=Th.bN x.th k.t)).BG;have hl:=h2.aL l;refine⟨_,U,_,h.aE U,_,U,l,h2.aF U,az om ?_⟩;clear h2;refine yx h0 λw t1 e1 h=>?_;refine h.a λp w1 h=>?_;refine h.aA U U λw h=>?_;obtain⟨x,h⟩:=iz (h.pick (A:=gI T M rb k d));refine⟨_,U,h.l2 U (Th.mP (h.pick (A:=Th.bN x.th k.t)) λw t2 e2 h=>?_)⟩;have e3:t2=t1:=e2.trans e1.symm;subst e3;refine h.a λp2 w1 h=>?_;refine h.aA U U λw h=>?_;intro k48 hk48;refine h.sH U ?_;refine h.sH U ?_;refine⟨_,ID t2,bc U ?_⟩;rw[show((if k.t.cH (i:O)then(0:O)else 100) !=(if k.t.cH (i:O)then(0:O)else 100))=G from bne_self_eq_false _];apply hk48;refine bc U ?_;rw[nx i om];exact ih (i+1) w om (show Ow B w0 w (gI T M rb k d::ai kb k::R) from aY x h.sub).cq
   |zero=>
    intro i w hi h;apply hl7;have h0:=h;obtain⟨x,h⟩:=iz h.cq;obtain⟨l,q,bs,hbs,h2⟩:=(h.pick (A:=Th.bN x.th k.t)).BG;have hl:=h2.aL l;refine⟨_,U,_,h.aE U,_,U,l,h2.aF U,aw om ?_⟩;clear h2 h hl;intro l76 hl76;have loop76:∀(d' i:X)(w:J),i+d'=k.u.length->Ow B w0 w (ai kb k::gI T M rb k d::R)->l76 (i:O) w:=by
     intro d';induction d' with
     |succ d' ih=>
      intro i w hi h;apply hl76;have h0:=h;obtain⟨x,h⟩:=iz h.cq;have hl:=h.aL x.su;refine⟨_,U,x.su,h.aE U,az om ?_⟩;have hux:k.u[i]?=S (k.ij (i:O)):=by unfold ag.ij;rw[Lw,gE om];rfl
      have e:k.zY (i:O)=(k.ij (i:O),Z):=by unfold ag.zY;rw[dS.2 ⟨om,om⟩];rfl
      refine pd (n:=(i:O)) h0 λw h=>?_;rw[e];refine h.a λp w1 h=>?_;refine h.aA U U λw h=>?_;intro k88 hk88;refine h.dr λw h=>?_;refine bc U ?_;refine h.nS U ?_;obtain⟨x,h⟩:=iz (h.pick (A:=gI T M rb k d));refine⟨_,U,x.su,h.aE U,h.cz (s:=x.su) U hux λa ha _ hc=>?_⟩;refine⟨_,hc 0 _ U,_,hc 1 _ U,_,hc 2 _ U,⟨_,JK (k.ij (i:O)) (k.ij (i:O)),?_⟩⟩;rw[qu U];apply hk88;refine bc U ?_;rw[nx i om];exact ih (i+1) w om (show Ow B w0 w (gI T M rb k d::ai kb k::R) from aY x h.sub).cq
     |zero=>
      intro i w hi h;apply hl76;have h0:=h;obtain⟨x,h⟩:=iz h.cq;have hl:=h.aL x.su;refine⟨_,U,x.su,h.aE U,aw om ?_⟩;clear h hl;intro l102 hl102;have loop102:∀(d' i:X)(w:J),i+d'=k.ends.length->Ow B w0 w (ai kb k::gI T M rb k d::R)->l102 (i:O) w:=by
       intro d';induction d' with
       |succ d' ih=>
        intro i w hi h;apply hl102;have h0:=h;obtain⟨x,h⟩:=iz h.cq;have hl:=h.aL x.se;have hpl:=(h.pick (A:=au cU x.pe k.ends)).cA;refine⟨_,U,x.se,h.aE U,az om ?_⟩;obtain⟨hx,hxl⟩:=hk.fB (n:=(i:O)) om om;rw[Lw]at hx;have e:k.ve (i:O)=((k.fB (i:O)).l.map (·.who),(k.fB (i:O)).dJ&& !(k.fB (i:O)).l.isEmpty):=by unfold ag.ve;rw[dS.2 ⟨om,om⟩];rfl
        clear h hl hpl;refine Av (n:=(i:O)) h0 λs1 w h=>?_;rw[e]at h|-;obtain⟨x,h⟩:=iz (h.pick (A:=gI T M rb k d));have hpl:=(h.pick (A:=au cU x.pe k.ends)).cA;have hp:x.pe[i]?=S x.pe[i]:=gE om;generalize x.pe[i]=p at hp;refine⟨_,U,x.se,h.aE U,dG (s:=x.se) h U hp λa ha hc=>⟨_,hc,?_⟩⟩
        have h:=(h.pick (A:=au cU x.pe k.ends)).s8 hp hx;refine zy h λs2 w h=>?_;have h:=(h.cq.pick (A:=cj ((Lx cU x.pe k.ends).eraseIdx i))).pick (A:=cU p (k.fB (i:O)));have h:=h.cd hpl hp;rw[nI hx]at h;intro k117 hk117;have h:Ow B w0 w (gI T M rb k d::af aq s1 ((k.fB (i:O)).l.map (·.who))::af aq s2 ((k.fB (i:O)).l.map (·.who))::ai kb k::R):=aY x h.sub;refine FP (s:=s1) (t:=s2) (by rw[L3];omega) h λw h=>?_;refine bc U ?_;rw[beq_self_eq_true];apply hk117;refine bc U ?_;rw[nx i om];exact ih (i+1) w om h.sub
       |zero=>
        intro i w hi h;apply hl102;have h0:=h;obtain⟨x,h⟩:=iz h.cq;have hl:=h.aL x.se;have hpl:=(h.pick (A:=au cU x.pe k.ends)).cA;refine⟨_,U,x.se,h.aE U,aw om ?_⟩;clear h hl hpl;intro l122 hl122;have loop122:∀(d' i:X)(w:J),i+d'=k.notes.length->Ow B w0 w (ai kb k::gI T M rb k d::R)->l122 (i:O) w:=by
         intro d';induction d' with
         |succ d' ih=>
          intro i w hi h;apply hl122;have h0:=h;obtain⟨x,h⟩:=iz h.cq;have hl:=h.aL x.sn;have hpl:=(h.pick (A:=au (bQ M) x.pn k.notes)).cA;refine⟨_,U,x.sn,h.aE U,az om ?_⟩;obtain⟨hx,hxl⟩:=hk.ju (n:=(i:O)) om om;rw[Lw]at hx;have e:k.Ac (i:O)=((k.ju (i:O)).word,(k.ju (i:O)).is):=by unfold ag.Ac;rw[dS.2 ⟨om,om⟩];rfl
          clear h hl hpl;refine CP (n:=(i:O)) h0 λw h=>?_;rw[e];obtain⟨x,h⟩:=iz (h.pick (A:=gI T M rb k d));have hpl:=(h.pick (A:=au (bQ M) x.pn k.notes)).cA;have hp:x.pn[i]?=S x.pn[i]:=gE om;generalize x.pn[i]=p at hp;refine⟨_,U,x.sn,h.aE U,dG (s:=x.sn) h U hp λa ha hc=>⟨_,hc,?_⟩⟩
          have h:=(h.pick (A:=au (bQ M) x.pn k.notes)).s8 hp hx;refine uH hM h λw h=>?_;have h:=h.cd hpl hp;rw[nI hx]at h;intro k137 hk137;refine fa U ?_;rw[beq_self_eq_true];apply hk137;refine bc U ?_;rw[nx i om];exact ih (i+1) w om (show Ow B w0 w (gI T M rb k d::ai kb k::R) from aY x h.sub).cq
         |zero=>
          intro i w hi h;apply hl122;have h0:=h;obtain⟨x,h⟩:=iz h.cq;have hl:=h.aL x.sn;have hpl:=(h.pick (A:=au (bQ M) x.pn k.notes)).cA;refine⟨_,U,x.sn,h.aE U,aw om ?_⟩;clear h hl hpl;intro l140 hl140;have loop140:∀(d' i:X)(w:J),i+d'=k.ae.length+1->Ow B w0 w (ai kb k::gI T M rb k d::R)->l140 (i:O) w:=by
           intro d';induction d' with
           |zero=>
            intro i w hi h;apply hl140;obtain⟨ss,hs7,hs8⟩:=jS h.cq;refine⟨_,U,ss,hs7,aw om ?_⟩;intro l161 hl161;exact runs l161 hl161 w h
           |succ d' ih=>
            intro i w hi h;apply hl140;obtain⟨ss,hs7,hs8⟩:=jS h.cq;refine⟨_,U,ss,hs7,az om (h.a λp w1 h=>?_)⟩;obtain⟨ss,hs7,hs8⟩:=jS (h.pick (A:=gI T M rb k d));refine⟨_,U,ss,hs7,?_⟩;intro k148 hk148;have fin:∀(s2:Sl)(w:J),Ow B w0 w (af Tb.aK s2 (k.kW (i:O))::ai kb k::gI T M rb k d::R)->k148 s2 w:=λs2 w h=>by
             apply hk148;have hle:(k.kW (i:O)).length<=1000000:=by
              unfold ag.kW;split
              .rename_i e
               have e:=dS.1 e;have:=eZ.Cn (hk.iB e.1 e.2).2;omega
              .exact MN _
             refine kN (n:=(i:O)) (h.pick (A:=ai kb k)) λs1 w h=>?_;refine tk h (Rd.own (h.aL s1)) (Rd.own (h.aL s2)) hle λw h=>?_;refine bc (by rw[qu U];rfl) ?_;rw[nx i om];exact ih (i+1) w om h.sub
            by_cases e:i<k.ae.length
            .refine az om ?_
             obtain⟨hm,_⟩:=hk.iB (n:=(i:O)) om om;obtain⟨s3,p3,Y3,g1,_,⟨a3,g3,g4,g5,g6⟩,h3,hback⟩:=iA (n:=(i:O)) (h.pick (A:=gI T M rb k d)) om hm;refine⟨_,U,s3,g1,a3,g3,g4,g5,_,g6,Tb.mK h3 λs2 w h=>?_⟩;have h:=hback _ w _ h.cq.kh.cq;rw[nI hm]at h;have e2:k.kW (i:O)=(k.iB (i:O)).pg:=by unfold ag.kW;rw[dS.2 ⟨om,om⟩];rfl
             refine fin s2 w ?_;rw[e2];have h:Ow B w0 w (gI T M rb k d::_):=h;exact h.sub
            .refine aw om ?_
             have e2:k.kW (i:O)= []:=by unfold ag.kW;rw[show ag.sZ k.ae (i:O)=G from by
              cases e3:ag.sZ k.ae (i:O)with
              |false=>rfl
              |true=>have:=dS.1 e3;omega];rfl
             have h:=Ow.yI (E:=Tb.aK) h [] U;refine fin _ w1 ?_;rw[e2];exact h
          exact loop140 _ 0 w (LF _) h0
        exact loop122 _ 0 w (LF _) h0
      exact loop102 _ 0 w (LF _) h0
    exact loop76 _ 0 w (LF _) h0
  exact loop7 _ 0 w (LF _) h
 refine h.dr λw h=>?_;obtain⟨x,h⟩:=iz h.cq;refine⟨_,U,_,h.aF U,rp hk (h.pick (A:=ai kb k)) λs1 w h=>?_,trivial⟩;refine⟨h.aF U,Sl.lC (h.pick (A:=Sl.bf x.n k.bits k.H)) λs2 hs w hih h=>?_,trivial⟩;obtain rfl:hs=fi k.H:=hih.uniq (pE λt c hc=>(hk.held t c hc).1);refine⟨tf h (Rd.own (h.aL s1)) (Rd.own (h.aL s2)) (by have:=rC k.H;omega) λw h=>?_,trivial⟩;refine bc (by rw[qu U];rfl) ?_;obtain⟨s,dd,h⟩:=(h.pick (A:=Tr.cD x.t k.T)).ref;have fin:∀(s3:Sl)(w:J),Ow B w0 w (af Tr.aC s3 (k.T.map (·.1))::ai kb k::af Tr.aC s (Tr.jT k.T)::af aq dd (Tr.kQ k.T)::aa x.t [Tr.bg s,Tr.bg dd]::aa rb (Gy x k.aS k.cB d)::Sl.bf x.n k.bits k.H::Th.bN x.th k.t::cV x.ln k.ln::af df x.su k.u::af bS x.se x.pe::au cU x.pe k.ends::af bS x.sn x.pn::au (bQ M) x.pn k.notes::af bS x.ss x.ps::au Tb.dv x.ps k.ae::T x.sf d.forget::R)->P5 s3 s (λr w=>k4 (!r) w) w:=λs3 w h=>by
  refine tg h (Rd.own (h.aL s3)) (Rd.own (h.aL s)) (by have:=hk.eC;rw[L3];omega) λw h=>?_;rw[show V (k.T.map (·.1)=Tr.jT k.T)=Z from qu U];refine main w ?_;have h:=Ow.gX (s:=s) (d:=dd) (b:=x.t) (T:=k.T) (R:=ai kb k::aa rb (Gy x k.aS k.cB d)::Sl.bf x.n k.bits k.H::Th.bN x.th k.t::cV x.ln k.ln::af df x.su k.u::af bS x.se x.pe::au cU x.pe k.ends::af bS x.sn x.pn::au (bQ M) x.pn k.notes::af bS x.ss x.ps::au Tb.dv x.ps k.ae::T x.sf d.forget::R) h.sub;exact(show Ow B w0 w (gI T M rb k d::ai kb k::R) from aY x h.sub).cq
 refine⟨_,U,?_,⟨_,h.aE U,_,U,?_,⟨s,h.aF U,?_,trivial⟩,trivial⟩,trivial⟩
 .refine nZ (h.pick (A:=ai kb k)) λs3 w h=>⟨_,h.aE U,_,U,s,h.aF U,fin s3 w h.sub,trivial⟩
 .refine nZ (h.pick (A:=ai kb k)) λs3 w h=>⟨s,h.aF U,fin s3 w h.sub,trivial⟩
 .refine nZ (h.pick (A:=ai kb k)) λs3 w h=>⟨fin s3 w h.sub,trivial⟩
theorem Bx{core:O}{K:W->Pw}(hk:ba abz k)(h:Ow B w0 w (gI T M rb k d::R))(hK:∀w',Ow B w0 w' (gI T M rb (k.tick core) d::R)->K (k.t.bP core).isSome w'):
  ∃t:qh qg,w.cell? (rb.p.add 2)=S (.pointer t)/\Q6 t core K w:=by
 obtain⟨x,h⟩:=iz h;refine h.l2 U ?_;refine Th.tj hk.inv (h.pick (A:=Th.bN x.th k.t)) λw h=>?_;exact hK w (aY x h.sub:Ow B w0 w (gI T M rb (k.tick core) d::R))
abbrev CA:Told:=⟨0,0,0,[]⟩
abbrev HD(rb:X)(k:ag):aH:=gI Ci 0 rb k CA
end
section
variable{B:X}{w0 w:J}{R L:Y aH}{rb abz:X}{k:ag}
theorem tq{K:qh qg->O->Pw}(h:Ow B w0 w R)(hK:∀b w',Ow B w0 w' (cV b (Ly 8 ⟨0,0,0⟩)::R)->K b.o 0 w'):Sq 8 K w:=by
 apply Ws;intro k2 hk2;refine aw qb ?_;rw[show V ((8:O)>64)=G from by decide];apply hk2;refine bc U ?_;refine Ow.s6 (E:=yl) (z0:=(⟨0,0,0⟩:Ln)) underlying263 (show qe.info? 320=S abl from by kernel_rfl) (zv:= .agg ⟨yl.enc ⟨0,0,0⟩⟩) qa qa U h qb (by
  have e:abl.bytes=32:=qa
  rw[e];decide) qb λs w hl h=>?_
 refine h.a λb w1 h=>?_;exact hK b w1 (dK (s:=s) (λx hx=>by rw[List.eq_of_mem_replicate hx];exact⟨Po _,qb⟩) h)
theorem jE{i kind obj:O}{K:Pw}(hT:Tr.oc k.T)(hl:k.T.length<1000000)(hi:i=(k.T.length:O))(h:Ow B w0 w (HD rb k::R))(hK:∀w',Ow B w0 w' (HD rb (k.dB i kind obj)::R)->K w'):PG rb.o kind obj K w:=by
 apply aaa;obtain⟨x,h⟩:=iz h;obtain⟨s,d,h2⟩:=(h.pick (A:=Tr.cD x.t k.T)).ref;have hs:(s.len:O)=i:=by rw[h2.aL s,Tr.fG,hi]
 refine⟨_,U,_,h.aE U,_,U,s,h2.aF U,?_⟩;rw[hs];clear h2 hs;refine h.a λc w1 h=>?_;refine h.aA U U λw h=>?_;refine h.dr λw h=>?_;refine⟨_,U,h.l1 U (h.aR U ⟨Sl.mN (s:=(0,i)) (c:=⟨kind,obj,7,0,0,0⟩) kr (h.pick (A:=Sl.bf x.n k.bits k.H)) λw h=>?_,trivial⟩)⟩;refine h.dr λw h=>?_;refine⟨_,U,h.l2 U (h.aR U ⟨Tr.Br (s:=(0,i)) hT hl (h.pick (A:=Tr.cD x.t k.T)) λw h=>?_,trivial⟩)⟩;exact hK w (aY x h.sub:Ow B w0 w (HD rb (k.dB i kind obj)::R))
theorem mS{n:X}{c:X}{i kind obj:O}(g:lZ c n k)(hi:i=(n:O)):(k.dB i kind obj).T.length=k.T.length+1:=by
 have hno:Tr.bA k.T (0,i)=none:=pP λe=>by rw[g.ok.mem,g.free i om]at e;cases e
 have hT:Tr.mR k.T (0,i)=(0,k.T++ [((0,i),0)]):=by unfold Tr.mR;rw[hno]
 unfold ag.dB;rw[hT];simp
theorem lZ.Ht{c j:X}{p:O}(h:lZ c (2+j) k)(hj:j<c)(h8:c<=8)(ht:k.t.br.length=j)(hp:0<=p/\p<256):
  lZ c (2+j) (k.bZ (((k.t.cw p (j:O)).2.2.bJ (k.t.cw p (j:O)).1).2.aW (j:O))):=by
 have hc:k.t.fC (j:O)=true:=(h.core _).2 ⟨om,om⟩;obtain⟨_,_,hm⟩:=h.yh hj h8 ht hp;rw[hm];dsimp only;have hl:(((k.t.make p (j:O)).bJ (j:O)).2.aW (j:O)).br.length=j+1:=by rw[gZ,ga];unfold Th.Mt.make;simp[ht]
 have hi:=((h.ok.inv.make (p:=p) (c:=(j:O)) om hc hp).resume (j:O)).aW (j:O);refine⟨h.ok.bZ hi (by rw[hl];omega),h.free,h.bits,λn=>?_,h.sp,h.u1⟩;show(((k.t.make p (j:O)).bJ (j:O)).2.aW (j:O)).fC n=Z↔_;rw[wF,sQ,zi];exact h.core n
theorem tm{c bits lines:O}{prios:Y O}{s:Sl}{K:qh qg->O->Pw}[abw:cu s L O aq prios](h:Ow B w0 w L)(hbig:prios.length<=1000000000)
  (hK0:ag.ia c bits lines prios=G->∀w',Ow B w0 w' L->K N 1 w')
  (hK1:ag.ia c bits lines prios=Z->∀b w',Ow B w0 w' (HD b (ag.kq c.toNat bits.toNat lines.toNat prios)::L)->K b.o 0 w'):R8 c bits lines s K w:=by
 apply Z6;have hlen:s.len=prios.length:=h.aL s;refine h.a λcb w1 h=>?_;intro k6 hk6;have bad:ag.ia c bits lines prios=G->k6 Z w1:=λe=>by apply hk6;exact bh U (hK0 e w1 h.drop)
 refine⟨_,h.aF U,bo (λe=>bad (qm λhh=>by have:=hh.1;omega)) λe1=>?_⟩;refine⟨_,h.aF U,bo (λe=>bad (qm λhh=>by have:=hh.2.1;omega)) λe2=>?_⟩;refine⟨_,h.aE U,bo (λe=>bad (qm λhh=>by have:=hh.2.2.1;omega)) λe3=>?_⟩;refine⟨_,h.aE U,bo (λe=>bad (qm λhh=>by have:=hh.2.2.2.1;omega)) λe4=>?_⟩;refine⟨_,h.aE U,bo (λe=>bad (qm λhh=>by have:=hh.2.2.2.2.1;omega)) λe5=>?_⟩;refine⟨_,h.aE U,bo (λe=>bad (qm λhh=>by have:=hh.2.2.2.2.2.1;omega)) λe6=>?_⟩;refine⟨s,h.aE U,h.l1 U ?_⟩;by_cases e7:(s.len:O)=c
 case neg=>
  rw[show((s.len:O) !=c)=Z from bne_iff_ne.2 e7];exact bad (qm λhh=>by have:=hh.2.2.2.2.2.2.1;omega)
 rw[show((s.len:O) !=c)=G from by rw[e7];exact bne_self_eq_false c];clear bad;apply hk6;refine bc U ?_;intro l9 hl9;have check:∀(d i:X)(w:J),i+d=prios.length->(∀p∈prios.take i,0<=p/\p<256)->Ow B w0 w (aa cb [.z c,.z bits,.z lines,s.v]::L)->l9 (i:O) w:=by
  intro d;induction d with
  |succ d ih=>
   intro i w hi hp h;have hx:prios[i]?=S prios[i]:=gE om;generalize prios[i]=p at hx;have hpm:=L4 hx;apply hl9;refine⟨s,h.aE U,az om ?_⟩;intro k13 hk13;have bad:¬(0<=p/\p<256)->k13 Z w:=λe=>by apply hk13;exact bh U (hK0 (qm λhh=>e (hh.2.2.2.2.2.2.2 p hpm)) w h.drop)
   refine⟨s,h.aE U,h.cz (s:=s) U hx λa ha hc0 hc=>⟨_,hc0 _ U,?_⟩⟩
   refine bo (λe=>bad om) (λe=>?_);refine⟨s,h.aE U,h.cz (s:=s) U hx λa ha hc0 hc=>⟨_,hc0 _ U,?_⟩⟩
   by_cases e2:p>255
   .rw[qu e2];exact bad om
   .rw[qm e2]
    apply hk13;refine bc U ?_;rw[wI i om];refine ih (i+1) w om (λq hq=>?_) h;rw[LJ,hx]at hq;rcases Mm.1 hq with hq|hq
    .exact hp q hq
    .have:q=p:=by simpa using hq
     rw[this];omega
  |zero=>
   intro i w hi hp h;rw[Lz om]at hp;have hr:ag.ia c bits lines prios=true:=qu ⟨om,om,om,om,om,om,om,hp⟩;have hK:=hK1 hr;apply hl9;clear hK0 hK1 hl9 hk6;obtain⟨b1,b2,b3,b4,b5,b6,b7,b8⟩:=of_decide_eq_true hr;obtain⟨c,rfl⟩:=LB (show 0<=c by omega);obtain⟨bits,rfl⟩:=LB (show 0<=bits by omega);obtain⟨lines,rfl⟩:=LB b5;have b2:c<=8:=om
   have b9:4<=bits/\bits<=20:=⟨om,om⟩
   have b6:lines<=8:=om
   have b7:prios.length=c:=om
   simp only[Lw]at hK;refine⟨s,h.aE U,aw om (h.l1 U (Th.uK (c:=c) om b2 h λthb w h=>?_))⟩;refine tq h λlp w h=>?_;refine h.a λnb w1 h=>?_;refine h.a λtb w2 h=>?_;refine h.l2 U ?_;refine h.a λub w3 h=>?_;refine h.a λsb w4 h=>?_;refine h.a λpb w5 h=>?_;refine h.a λrb w6 h=>?_;refine⟨_,U,h.l1 U ?_⟩;have h:Ow B w0 w6 (Sl.bf nb [] (λ_=>N)::_):=Ow.dL (s:=z0) (ss:=[]) ⟨qc,qc,λs c h=>by cases h⟩ (Ow.F1 (Ow.cZ (h.pick (A:=aa nb [.slice N 0 0]))).cq);refine Sl.lD (z:=6) h λw h=>?_;have h:Ow B w0 w (Tr.cD tb []::_):=Ow.gX (s:=z0) (d:=z0) (Ow.cZ (Ow.cZ (h.pick (A:=aa tb [.slice N 0 0,.slice N 0 0]))));have h:Ow B w0 w (aa sb [Tb.bg z0,Tb.bg z0]::_):=h.pick (A:=aa sb [.slice N 0 0,.slice N 0 0]);have h:Ow B w0 w (Tb.dv sb Tb.iM::_):=Ow.gY (sT:=z0) (sP:=z0) Tb.iR.new (Ow.cZ (E:=Tb.iP) (Ow.cZ (E:=Tb.aK) h)).kh;have h:Ow B w0 w (au Tb.dv [sb] [Tb.iM]::_):=Ow.jX U h;have h:Ow B w0 w (au Tb.dv [sb] [Tb.iM]::dh I::_):=(Ow.cT trivial h).cq;have h:Ow B w0 w (af bS ⟨S pb.p,1,1⟩ [sb]::_):=Ow.yI (E:=bS) (h.pick (A:=aa pb [.q sb])) [sb] U;have h:Ow B w0 w (af bS z0 []::au (bQ 0) [] []::_):=Ow.cZ (Ow.jX U h);have h:Ow B w0 w (af bS z0 []::au cU [] []::_):=Ow.cZ (Ow.jX U h);have h:Ow B w0 w (af df ⟨S ub.p,1,1⟩ [⟨0,bits,0⟩]::_):=Ow.yI (E:=df) (h.pick (A:=aa ub [.y 0,.z bits,.y 0])) [⟨0,bits,0⟩] U;have h:=((h.pick (A:=cV lp (Ly 8 ⟨0,0,0⟩))).pick (A:=Th.bN thb (Th.jv c))).pick (A:=Tr.cD tb []);have h:=(h.pick (A:=Sl.bf nb (Sl.eD [] 6).2.2 λ_=>N)).pick (A:=aa rb [.q nb,.q tb,.q thb,.q lp,.slice ub.o 1 1,.slice N 0 0,.slice N 0 0,.slice pb.o 1 1,.z 0,.z 0,.z 0,.y 0,.z 0,.slice N 0 0]);have h:Ow B w0 w (HD rb (ag.jY c bits)::aa cb [.z c,.z bits,.z lines,s.v]::L):=aY (T:=Ci) (M:=0) (d:=CA) (fr:=0) (tb:=0) ⟨nb,tb,thb,lp,⟨S ub.p,1,1⟩,z0,z0,⟨S pb.p,1,1⟩,z0,[],[],[sb]⟩ h;have g0:=xF (c:=c) b2 b9;obtain⟨g1,g2⟩:=ua (c:=c) b2 b9;have eC:∀{m:X}{k:ag},lZ c m k->k.T.length<1000000:=λg=>by have:=g.ok.eC;omega
   have t1:=mS (i:=0) (kind:=2) (obj:=0) g0 U;have t2:=mS (i:=1) (kind:=1) (obj:=0) g1 U;refine jE (i:=0) g0.ok.tok (eC g0) U h λw h=>?_;refine jE (i:=1) g1.ok.tok (eC g1) (by rw[t1];rfl) h λw h=>?_;intro l43 hl43;have loop:∀(ps:Y O)(j:X)(k:ag)(w:J),prios.drop j=ps->j+ps.length=c->lZ c (2+j) k->k.t.br.length=j->k.T.length=2+j->ag.pj ps j k=ag.pj prios 0 (((ag.jY c bits).dB 0 2 0).dB 1 1 0)->
     Ow B w0 w (HD rb k::aa cb [.z c,.z bits,.z lines,s.v]::L)->l43 (j:O) w:=by
    intro ps;induction ps with
    |nil=>
     intro j k w hd hj g ht htl he h;have hj:j=c:=hj;have he:k=_:=he;apply hl43;refine⟨_,h.aF U,aw om ?_⟩;have t3:=mS (i:=((2+j:X):O)) (kind:=8) (obj:=0) g U;refine jE (i:=((2+j:X):O)) g.ok.tok (eC g) (by rw[htl]) h λw h=>?_;intro l67 hl67;have g3:=g.space om;have lines_loop:∀(q t:X)(k:ag)(w:J),t+q=lines->lZ c (3+c+t) k->k.T.length=3+c+t->ag.tZ q t (3+prios.length) k=ag.kq c bits lines prios->k.t.br.length=c->Ow B w0 w (HD rb k::aa cb [.z c,.z bits,.z lines,s.v]::L)->l67 (t:O) w:=by
      intro q;induction q with
      |zero=>
       intro t k w hq g htl he ht h;have he:k=ag.kq c bits lines prios:=he;apply hl67;refine⟨_,h.aE U,aw om (hK rb w ?_)⟩;rw[<-he];exact h.sub
      |succ q ih=>
       intro t k w hq g htl he ht h;apply hl67;refine⟨_,h.aE U,az om ?_⟩;have t4:=mS (i:=((3+c+t:X):O)) (kind:=9) (obj:=(t:O)) g U;refine jE (i:=((3+c+t:X):O)) g.ok.tok (eC g) (by rw[htl]) h λw h=>?_;rw[wI t om];refine ih (t+1) _ w om (g.line om om) (by rw[t4,htl];omega) ?_ ht h;rw[<-he,b7];rfl
     refine lines_loop lines 0 (k.dB ((2+j:X):O) 8 0) w om (show lZ c (3+c+0) (k.dB ((2+j:X):O) 8 0)from by rw[show 3+c+0=2+j+1 from by omega];exact g3) (by rw[t3,htl];omega) ?_ (ht.trans hj) h;unfold ag.kq;rw[<-he,hj,b7]
    |cons p ps ih=>
     intro j k w hd hj g ht htl he h;rw[LL]at hj;have hx:prios[j]?=S p:=by have:=qz (λl=>l[0]?) hd;simpa using this
     have hp:0<=p/\p<256:=b8 p (L4 hx);obtain⟨g3,g4,g5⟩:=g.yh om b2 ht hp;have g6:lZ c (2+j) (k.bZ (((k.t.cw p (j:O)).2.2.bJ (k.t.cw p (j:O)).1).2.aW (j:O))):=g.Ht om b2 ht hp;have t5:=mS (i:=((2+j:X):O)) (kind:=3) (obj:=(j:O)) g6 U;apply hl43;refine⟨_,h.aF U,az om (h.dr λw h=>?_)⟩;obtain⟨x,h⟩:=iz h;refine⟨_,U,_,h.aE U,s,h.aE U,h.cz (s:=s) (i:=(j:O)) (j:=j) U hx λa ha h0 hcc=>⟨_,h0 _ U,?_,trivial⟩⟩
     refine Th.lF g.ok.inv.ok (h.pick (A:=Th.bN x.th k.t)) λw h=>?_;have i1:=g.ok.inv.cw p (j:O);rw[g5]at h i1 g6 g3 g4;refine⟨_,U,h.l2 U (Th.gB i1 h λw h=>?_)⟩;refine⟨_,U,h.l2 U (Th.fR (i1.resume _) h λw h=>?_)⟩;have h:Ow B w0 w (HD rb (k.bZ (((k.t.make p (j:O)).bJ (j:O)).2.aW (j:O)))::aa cb [.z c,.z bits,.z lines,s.v]::L):=aY x h.sub;refine jE (i:=((2+j:X):O)) g6.ok.tok (eC g6) (by show((2+j:X):O)=(k.T.length:O);rw[htl]) h λw h=>?_;rw[wI j om];refine ih (j+1) _ w ?_ om g3 g4 (by rw[g5]at t5;exact t5.trans (by show k.T.length+1=_;omega)) ?_ h
     .rw[<-ML,hd];rfl
     .rw[<-he]
      show _=ag.pj ps (j+1) ((k.bZ (((k.t.cw p (j:O)).2.2.bJ (k.t.cw p (j:O)).1).2.aW (j:O))).dB ((2+j:X):O) 3 (k.t.cw p (j:O)).1);rw[g5]
   exact loop prios 0 _ w U om g2 U (by rw[t2,t1];rfl) U h
 exact check prios.length 0 w1 om (λp hp=>by simp at hp) h
end
end Go.Vc
namespace Go.Vc
open Go.Proofs Go.Shelf
namespace Sl
section
variable{B:X}{w0 w:J}{R L:Y aH}{b:X}{bits:Y O}{H:Hs}
theorem Aj{s:Sl}{xs:Y O}{K:Sl->Pw}[abw:cu s L O aq xs](h:Ow B w0 w L)(hbig:xs.length<=1000000)(hK:∀s' w',Ow B w0 w' (af aq s' xs::L)->K s' w'):Pv s K w:=by
 apply UP;have hlen:=h.aL s;cases hn:s.a with
 |none=>
  refine bh U ?_;have hx:xs= []:=by
   cases xs with
   |nil=>rfl
   |cons x xs=>obtain⟨_,_,ha,_⟩:=h.get abw.i abw.at_ (j:=0) (x:=x) U;rw[hn]at ha;cases ha
  subst hx;exact hK _ w (Ow.cZ h)
 |some a=>
  refine bc U ?_;refine h.a λb w' h=>?_;have h2:Ow B w0 w' (af aq ⟨S b.p,0,0⟩ []::L):=Ow.empty h;have hx2:=h2.sR (abw.i+1) (by simpa using abw.at_)
  (try rw[<-hn])
  exact Ow.app (s:=⟨S b.p,0,0⟩) (xs:=[]) (ys:=xs) qG (show qe.info? 3=S qF from by kernel_rfl) (zv:= .z 0) qa qa U qb h2 0 U hx2 hlen (by
   have e:qF.bytes=8:=qa
   rw[e,List.length_nil];omega) λs' w _ h=>hK _ w h
theorem yn{mb:X}{M:Y (Slot × cN)}{K:qh X->Pw}(h:Ow B w0 w L)(i:X)(hi:L[i]?=S (gG mb M))(hK:∀m' w',Ow B w0 w' (gG m' M::L)->K (S m') w'):TC (S mb) K w:=by
 have hM:jI dy iL w mb M:=(h.take i hi).head λ_ h=>h.2;obtain⟨es,c,hb,h2⟩:=hM.ex;unfold TC;refine jx func199 U ?_;refine(AnyW.maps_Clone Tryz.H3 mb es c w hb).mono ?_;rintro e w' ⟨rfl,rfl⟩;refine⟨_,U,hK _ _ (h.new (A':=gG w.heap.size M) (G':=λk=>k=w.heap.size) (ej _ _) ⟨U,⟨⟨es,c,heap_alloc_new _ _,h2⟩,hM.nodup⟩⟩ λk e=>⟨om,by rw[e];simp⟩)⟩
theorem lW{K:qh qg->Pw}(h:Ow B w0 w (av b bits H::R))(hK:∀b' w',Ow B w0 w' (av b' bits H::av b bits H::R)->K b'.o w'):SI b.o K w:=by
 apply XB;obtain⟨⟨xs,m,M⟩,hk,hM,h⟩:=h.nodes;dsimp only at hM h;have hfew:=hk.eC;refine h.dr λw h=>?_;refine⟨_,U,xs,h.aF U,_,U,S m,h.aF U,Aj h om λs w h=>?_,trivial⟩;refine⟨h.aF U,yn h 3 U λm' w h=>?_,trivial⟩;refine⟨h.al λw' h=>?_,trivial⟩;generalize w.heap.size=b' at h|-;refine hK b' w' (Ow.eu (s:=s) (m:=m') hk hM (Ow.sub (L:=av b bits H::aa b' [bg s,.map (S m')]::af aq s bits::gG m' M::R) ?_));exact Ow.eu (s:=xs) (m:=m) hk hM h.sub
end
end Sl
end Go.Vc
namespace Go.Vc
open Go.Proofs
section
variable{abz B:X}{w0 w:J}{R L:Y aH}{b:X}{k:ag}
theorem CF{s:Sl}{xs:Y nP}{K:Sl->Pw}[abw:cu s L nP df xs](h:Ow B w0 w L)(hbig:xs.length<=1000000)(hK:∀s' w',Ow B w0 w' (af df s' xs::L)->K s' w'):SN s K w:=by
 apply Vu;exact tw (s:=s) (E:=df) (xs:=xs) (zv:= .agg ⟨df.enc ⟨0,0,0⟩⟩) underlying52 (show qe.info? 98=S aaN from by kernel_rfl) qa qa U qb h (by
  have e:aaN.bytes=24:=qa
  rw[e];omega) hK
theorem uc{α:Type}{A:X->α->aH}{ps:Y X}{xs:Y α}{s:Sl}{one:Q}{T el tn:qi}{inf:qL}{K:Sl->Pw}
  (hu:qe.underlying T=S (.slice el)) (hi:qe.info? el=S inf) (hz:inf.zero=S (.pointer N)) (hsz:inf.size=1) (hb:inf.bytes=8)
  (hn:xs.length<=1000000) (hone:∀(p:X)(x:α)(L:Y aH)(w:J)(aby:qh qg->Pw),x∈xs->Ow B w0 w (A p x::L)->(∀p' w',Ow B w0 w' (A p' x::A p x::L)->aby p'.o w')->dU qe one [.q p] w λen w'=>∃r:qh qg,en= .returned (.pointer r)/\aby r w')
  (h:Ow B w0 w (af bS s ps::au A ps xs::R)) (hK:∀out ps' w',Ow B w0 w' (af bS out ps'::au A ps' xs::af bS s ps::au A ps xs::R)->K out w'):
  ∀l3:Sl->O->Pw,
  (∀(out4:Sl)(t5:O)(w6:J),(bif V (t5<(s.len:O))then
  (∃a7:qg,s.a=S a7/\0<=t5/\t5<(s.len:O)/\
  ∃t8:qh qg,w6.cell? (a7.add (t5.toNat*1))=S (.pointer t8)/\
  dU qe (one) [.pointer t8] w6 λenw10 w10=>∃r9:qh qg,enw10= .returned (.pointer r9)/\
  Al w10 (.cells #[.pointer r9] tn) λw11=>
  ∃(t12:Sl)(w13:J),aM qe [T,T] T out4.v (.slice (S w10.heap.size.p) 1 1) w11 t12 w13/\
  l3 t12 (qf.wrap (t5+(1:O))) w13)
  else
  (K out4 w6))->l3 out4 t5 w6)->
  l3 z0 (0:O) w:=by
 intro l3 hl3;have hpl:=(h.pick (A:=au A ps xs)).cA;have hl:s.len=ps.length:=h.aL s;have loop:∀(m j:X)(out:Sl)(ps':Y X)(w:J),j+m=xs.length->Ow B w0 w (af bS out ps'::au A ps' (xs.take j)::af bS s ps::au A ps xs::R)->l3 out (j:O) w:=by
  intro m;induction m with
  |zero=>
   intro j out ps' w hj h;apply hl3;refine aw om ?_;rw[Lz om]at h;exact hK out ps' w h
  |succ m ih=>
   intro j out ps' w hj h;have hpl':=(h.pick (A:=au A ps' (xs.take j))).cA;have hx:xs[j]?=S xs[j]:=gE om;have hp:ps[j]?=S ps[j]:=gE om;generalize xs[j]=x at hx;generalize ps[j]=p at hp;apply hl3;refine az om ?_;refine dG (s:=s) h U hp λa ha hc=>⟨_,hc,?_⟩
   have h:=(h.pick (A:=au A ps xs)).s8 hp hx;refine hone p x _ w _ (L4 hx) h λp' w h=>?_;have h:=((h.pick (A:=cj ((Lx A ps xs).eraseIdx j))).pick (A:=A p x)).cd hpl hp;rw[show xs.set j x=xs from by
    apply L5;intro i;rw[List.getElem?_set];split
    .rename_i e;subst e;rw[qd om,hx]
    .rfl]at h
   refine h.al λw2 h=>?_;generalize w.heap.size=c at h|-;refine Ow.eL (E:=bS) (s:=out) (xs:=ps') (y:=p') hu hi hz hsz U (by rw[hb];decide) h (by rw[hb,hpl',LX];omega) λs' w hs' h=>?_;rw[wr om om,show((j:O)+1)=((j+1:X):O)from by omega];refine ih (j+1) s' (ps'++ [p']) w om ?_;have h:Ow B w0 w (A p' x::au A ps' (xs.take j)::_):=(h.pick (A:=au A ps' (xs.take j))).pick;have h:=h.oI;rw[show xs.take (j+1)=xs.take j++ [x]from by rw[LJ,hx];rfl];exact h.sub
 refine loop xs.length 0 z0 [] w (LF _) ?_;rw[MU];have h:Ow B w0 w (au A [] []::af bS s ps::au A ps xs::R):=Ow.jX U h;exact Ow.cZ (E:=bS) h
theorem Ao{K:qh qg->Pw}(hk:ba abz k)(hN:abz<=200000)(h:Ow B w0 w (ai b k::R))(hK:∀b' w',Ow B w0 w' (ai b' k::ai b k::R)->K b'.o w'):Sf b.o K w:=by
 apply W8;have nu:=hk.nu;have ne:=hk.ne;have nn:=hk.nn;have ns:=hk.ns;obtain⟨x,h⟩:=h.ui;refine⟨_,U,h.sH (x4:=x.su) (x5:=x.se) (x6:=x.sn) (x7:=x.ss) U (h.a λc w1 h=>?_)⟩;refine h.aA U U λw h=>?_;refine h.dr λw h=>?_;refine⟨_,U,_,h.aF U,_,U,_,U,_,U,_,U,_,h.aE U,_,h.aE U,_,h.aE U,x.su,h.aE U,Sl.lW (h.pick (A:=Sl.av x.n k.bits k.H)) λn' w h=>?_,trivial⟩;refine⟨h.aE U,h.aE U,h.aE U,h.aE U,Tr.uY (h.pick (A:=Tr.bD x.tr k.T)) λt' w h=>?_,trivial⟩;refine⟨h.aE U,h.aE U,h.aE U,Th.vI hk.inv.ok (h.pick (A:=Th.bu x.t k.t)) λth' w h=>?_,trivial⟩;refine⟨h.aE U,h.aE U,vB (by rw[hk.ln];decide) (h.pick (A:=bG x.ln k.ln)) λln' w h=>?_,trivial⟩;refine⟨h.aE U,CF (s:=x.su) (xs:=k.u) h om λsu' w h=>?_,trivial⟩;refine⟨h.jH U U λw h=>⟨?_,trivial⟩,trivial⟩
 refine h.fK U U λw h=>⟨?_,trivial⟩
 refine h.fK U U λw h=>⟨?_,trivial⟩
 refine h.fK U U λw h=>⟨?_,trivial⟩
 refine h.fK U U λw h=>?_;refine⟨_,U,x.se,h.aE U,?_⟩;apply Xl;refine uc (A:=ck) (ps:=x.pe) (xs:=k.ends) (inf:=aaT) abi qa qa qa qa om (λp y L w aby _ h hQ=>bq (oi h hQ:SO p.o aby w)) ((h.pick (A:=au ck x.pe k.ends)).pick (A:=af bS x.se x.pe)) λse' pe' w h=>?_;refine h.fK U U λw h=>?_;refine⟨_,U,x.sn,h.aE U,?_⟩;apply Xm;refine uc (A:=bL) (ps:=x.pn) (xs:=k.notes) (inf:=aaU) abj qa qa qa qa om (λp y L w aby _ h hQ=>bq (rM h hQ:SP p.o aby w)) ((h.pick (A:=au bL x.pn k.notes)).pick (A:=af bS x.sn x.pn)) λsn' pn' w h=>?_;refine h.fK U U λw h=>?_;refine⟨_,U,x.ss,h.aE U,?_⟩;apply Xn;refine uc (A:=Tb.bC) (ps:=x.ps) (xs:=k.ae) (inf:=aaV) abk qa qa qa qa om (λp y L w aby _ h hQ=>bq (Tb.CG h hQ:SQ p.o aby w)) ((h.pick (A:=au Tb.bC x.ps k.ae)).pick (A:=af bS x.ss x.ps)) λss' ps' w h=>?_;refine h.fK U U λw h=>?_;have h:=h.pick (A:=au Tb.bC x.ps k.ae);have h:=h.pick (A:=af bS x.ss x.ps);have h:=h.pick (A:=au bL x.pn k.notes);have h:=h.pick (A:=af bS x.sn x.pn);have h:=h.pick (A:=au ck x.pe k.ends);have h:=h.pick (A:=af bS x.se x.pe);have h:=h.pick (A:=af df x.su k.u);have h:=h.pick (A:=bG x.ln k.ln);have h:=h.pick (A:=Th.bu x.t k.t);have h:=h.pick (A:=Tr.bD x.tr k.T);have h:=h.pick (A:=Sl.av x.n k.bits k.H);have h:=h.pick (A:=aa b (bR x k.aS k.cB k.bits.length k.t.br.length));have h:Ow B w0 w (ai b k::_):=Ow.bT x h;have h:=h.pick (A:=au Tb.bC ps' k.ae);have h:=h.pick (A:=af bS ss' ps');have h:=h.pick (A:=au bL pn' k.notes);have h:=h.pick (A:=af bS sn' pn');have h:=h.pick (A:=au ck pe' k.ends);have h:=h.pick (A:=af bS se' pe');have h:=h.pick (A:=af df su' k.u);have h:=h.pick (A:=bG ln' k.ln);have h:=h.pick (A:=Th.bu th' k.t);have h:=h.pick (A:=Tr.bD t' k.T);have h:=h.pick (A:=Sl.av n' k.bits k.H);have h:=h.pick (A:=aa c (bR ⟨n',t',th',ln',su',se',sn',ss',pe',pn',ps'⟩ k.aS k.cB k.bits.length k.t.br.length));have h:Ow B w0 w (ai c k::_):=Ow.bT ⟨n',t',th',ln',su',se',sn',ss',pe',pn',ps'⟩ h;exact hK c w h.sub
theorem GH{xs:Y O}{y:O}{b:X}{s:Sl}{k:Sl->Pw}[abw:cu s L O aq xs]{R:Y aH}[abq:fh (af aq s xs) L R]
  (h:Ow B w0 w (aa b [.z y]::L)) (hl:xs.length<=1000000) (hk:∀s' w',s'.len=xs.length+1->Ow B w0 w' (af aq s' (xs++ [y])::R)->k s' w'):
  ∃s' w',aM qe [22,22] 22 s.v (.slice (S b.p) 1 1) w s' w'/\k s' w':=
 Ow.eL (E:=aq) (y:=y) qG (show qe.info? 3=S qF from by kernel_rfl) (zv:= .z 0) qa qa U qb h (by
  have e:qF.bytes=8:=qa
  rw[e];omega) hk
theorem Ar{c bits lines:O}{prios:Y O}{s:Sl}{K:O->O->O->Sl->Pw}(hi:HB aq w0 s prios)(h:Ow w0.heap.size w0 w R)
  (hK:∀(n bi li:X)(ps:Y O)s' w',1<=n->n<=3->6<=bi->bi<=12->li<=3->ps.length=n->(∀p∈ps,0<=p/\p<256)->Ow w0.heap.size w0 w' (af aq s' ps::R)->K (n:O) (bi:O) (li:O) s' w'):
  R7 c bits lines s K w:=by
 apply aav;obtain⟨pc,_,ec⟩:=Sl.yy c 65535 qb;obtain⟨pb,_,eb⟩:=Sl.yy bits 65535 qb;obtain⟨pl,hpl,el⟩:=Sl.yy lines 3 qb;have ec:di .i64 c 65535=(pc:O):=ec;have eb:di .i64 bits 65535=(pb:O):=eb;have el:di .i64 lines 3=(pl:O):=el;have hlen:=hi.len;refine h.a λab w1 h=>?_;refine h.a λrb w2 h=>?_;refine⟨_,h.aF U,qb,_,h.aE U,qb,h.l2 U ?_⟩;refine h.a λob w3 h=>?_;refine h.aA U U λw h=>?_;rw[ec,eb,el]at h;rw[ec];obtain⟨n,hn⟩:∃n,n=1+pc%3:=⟨_,U⟩
 obtain⟨bi,hb⟩:∃n,n=6+pb%7:=⟨_,U⟩
 have en:qf.wrap (1+(show O from pc).tmod 3)=(n:O):=by rw[show(show O from pc).tmod 3=((pc%3:X):O)from(Int.ofNat_tmod pc 3).symm,wr om om];omega
 have ebi:qf.wrap (6+(show O from pb).tmod 7)=(bi:O):=by rw[show(show O from pb).tmod 7=((pb%7:X):O)from(Int.ofNat_tmod pb 7).symm,wr om om];omega
 rw[en,ebi]at h;rw[en];have h:=Ow.cZ (E:=aq) h;have h:Ow w0.heap.size w0 w (af aq z0 []::aa ob [.z (n:O),.z (bi:O),.z (pl:O),.slice N 0 0]::aa rb [.z 0,.z 0,.z 0,.slice N 0 0]::aa ab [.z c,.z bits,.z lines,s.v]::R):=h;intro l12 hl12;have loop:∀(d i:X)(so:Sl)(ps:Y O)(w:J),i+d=n->ps.length=i->(∀p∈ps,0<=p/\p<256)->
   Ow w0.heap.size w0 w (af aq so ps::aa ob [.z (n:O),.z (bi:O),.z (pl:O),so.v]::aa rb [.z 0,.z 0,.z 0,.slice N 0 0]::aa ab [.z c,.z bits,.z lines,s.v]::R)->l12 (i:O) w:=by
  intro d;induction d with
  |succ d ih=>
   intro i so ps w hid hpl2 hps h;apply hl12;refine az om ?_;refine⟨s,h.aE U,?_⟩;intro k16 hk16;have key:∀(p:O),0<=p->p<256->k16 p w:=by
    intro p p0 p1;apply hk16;refine⟨so,h.aE U,h.a λtb w1 h=>?_⟩;refine GH (s:=so) h om λs' w _ h=>?_;refine h.fK U U λw h=>?_;rw[wI i om];refine ih (i+1) s' (ps++ [p]) w om (by rw[LC];simp[hpl2]) ?_ ?_
    .intro x hx
     rcases Mm.1 hx with hx|hx
     .exact hps x hx
     .rw[Mk.1 hx];exact⟨p0,p1⟩
    .exact h.sub
   refine bo (λe=>?_) (λe=>?_)
   .have hlt:i<prios.length:=om
    obtain⟨a,ha,hg⟩:=hi.get h (gE hlt);obtain⟨q,hq,eq⟩:=Sl.yy prios[i] 255 qb;have eq:di .i64 prios[i] 255=(q:O):=eq;refine⟨s,h.aE U,a,ha,om,e,prios[i],?_,?_⟩
    .have:=hg 0 _ U
     rw[add_nil]at this;rw[show((i:O)).toNat=i from Lw i];exact this
    .rw[eq];exact key _ om om
   .exact key 5 qb qb
  |zero=>
   intro i so ps w hid hpl2 hps h;have hin:i=n:=hid;apply hl12;refine aw om ?_;refine h.nT U ?_;refine h.aA U U λw h=>?_;refine h.nT U ?_;exact hK n bi pl ps so w om om om om om om hps h.sub
 exact loop n 0 z0 [] w om U (λp hp=>by cases hp) h
structure GC where
 kind:O
 core:O
 c:Call
def Ck:dT GC:=⟨8,λo=>[.z o.kind,.z o.core,.z o.c.ask,.z o.c.at_,.z o.c.ao,.z o.c.a,.z o.c.b,.z o.c.c],λ_=>rfl,λx v h=>by simp only[List.mem_cons,List.not_mem_nil,qI]at h;rcases h with rfl|rfl|rfl|rfl|rfl|rfl|rfl|rfl<;>rfl,qb⟩
def zn(o:GC):Prop:=(Lit.int .i64 o.c.ao).wf=Z
theorem G7:∀cs,Fits [.int .i64,.int .i64,.int .i64,.int .i64,.int .i64,.int .i64,.int .i64,.int .i64] cs->∃x,cs=Ck.enc x/\zn x:=λcs h0=>by obtain⟨_,_,rfl,⟨a,rfl,_⟩,h1⟩:=h0.dj;obtain⟨_,_,rfl,⟨b,rfl,_⟩,h2⟩:=h1.dj;obtain⟨_,_,rfl,⟨c,rfl,_⟩,h3⟩:=h2.dj;obtain⟨_,_,rfl,⟨d,rfl,_⟩,h4⟩:=h3.dj;obtain⟨_,_,rfl,⟨e,rfl,he⟩,h5⟩:=h4.dj;obtain⟨_,_,rfl,⟨f,rfl,_⟩,h6⟩:=h5.dj;obtain⟨_,_,rfl,⟨g,rfl,_⟩,h7⟩:=h6.dj;obtain⟨_,_,rfl,⟨i,rfl,_⟩,h8⟩:=h7.dj;obtain rfl:=h8.Ch;exact⟨⟨a,b,c,d,e,f,g,i⟩,U,he⟩
theorem KL{x:O}(h:(Lit.int .i64 x).wf=Z): -9223372036854775808<=x/\x<9223372036854775808:=by have h1:(V (qf.min<=x)&&V (x<=qf.max))=true:=h;rw[show qf.min= -9223372036854775808 from U,show qf.max=9223372036854775807 from U]at h1;simp only[LO,qB]at h1;omega
theorem Jp{w:J}{a:qg}{x:GC}{f:O->O->O->O->O->O->O->O->Prop}(g:∀c v,(Ck.enc x)[c]?=S v->w.cell? (a.add c)=S v)(hf:f x.kind x.core x.c.ask x.c.at_ x.c.ao x.c.a x.c.b x.c.c):
  ax w a 0 [.o,.o,.o,.o,.o,.o,.o,.o] f:=⟨_,g 0 _ U,_,g 1 _ U,_,g 2 _ U,_,g 3 _ U,_,g 4 _ U,_,g 5 _ U,_,g 6 _ U,_,g 7 _ U,hf⟩
end
section
variable{T:Sl->Y lM->aH}{B:X}{w0 w:J}{R L:Y aH}{M abz rb:X}{k:ag}{d:Told}
theorem yJ(k:ag)(d:oX):(k.asks d).1.forget.length<=lB k.ae+1:=by
 have z:∀e k',(ag.tell e k').1.forget.length<=lB k.ae+1:=λ_ _=>MN _;have y:∀r,(ag.dC r).1.forget.length<=lB k.ae+1:=λ_=>MN _;unfold ag.asks;split
 .exact z _ _
 .exact z _ _
 .exact z _ _
 .split
  .exact z _ _
  .have:=B7 k d.s
   show(k.gone d.s).1.length<=_;omega
 .have:=pD (Tr.cF k.T d.s).reverse k
  show(ag.cI _ k).1.length<=_;omega
 .exact y _
 .exact z _ _
 .exact z _ _
 .unfold ag.send
  split
  .exact z _ _
  split
  .exact z _ _
  .exact y _
 .unfold ag.recv
  split
  .exact z _ _
  split
  .exact z _ _
  .exact y _
 .exact MN _
 .unfold ag.wait
  split
  .exact z _ _
  .exact MN _
 .unfold ag.table
  split<;>exact z _ _
 .unfold ag.mapped
  split<;>exact z _ _
 .show (show Y lM from if _ then _ else _).length<=_
  split
  .show 1<=_;omega
  .exact MN _
 .unfold ag.bind
  split<;>exact z _ _
 .exact y _
theorem C3(hk:ba abz k)(hN:abz+64<=100000)(core:O)(c:Call):(k.do core c).1.forget.length<=1000000000:=by
 have g4:=rQ k.ae hk.xZ;have g5:=hk.ns;unfold ag.do
 split
 .exact MN _
 split
 .exact MN _
 split
 .exact MN _
 unfold ag.asked;split
 .exact MN _
 split
 .exact MN _
 exact LY (yJ _ _) (show lB k.ae+1<=_ by omega)
theorem lQ{c bits lines:O}{prios:Y O}{s s5:Sl}{ops:Y GC}{K:W->Pw}
  (_:(Lit.int .i64 c).wf=Z) (_:(Lit.int .i64 bits).wf=Z) (_:(Lit.int .i64 lines).wf=Z) (hi:HB aq w0 s prios) (_:∀x∈prios,(Lit.int .i64 x).wf=Z) (hi5:HB Ck w0 s5 ops) (hg:∀x∈ops,zn x)
  (h:Ow w0.heap.size w0 w []) (hK:∀w',Ow w0.heap.size w0 w' []->K Z w'):R6 c bits lines s s5 K w:=by
 apply aau;have hlen:=hi5.len;refine h.a λab w1 h=>?_;refine h.nT (x3:=s) U ?_;refine Ar hi h λn bi li ps s' w n1 n3 b6 b12 l3 hpn hps h=>?_;have hr:ag.ia (n:O) (bi:O) (li:O) ps=true:=qu ⟨om,om,om,om,om,om,om,hps⟩;refine h.a λbb w2 h=>?_;refine h.aA U U λw h=>?_;refine h.nT (x3:=s') U ?_;refine rn (s:=s') (prios:=ps) h om (λe=>by rw[hr]at e;cases e) λ_ kb w h=>?_;refine h.nT (x3:=s') U ?_;refine tm (s:=s') (prios:=ps) h om (λe=>by rw[hr]at e;cases e) λ_ rb w h=>?_;rw[show(show O from n).toNat=n from Lw n,show(show O from bi).toNat=bi from Lw bi,show(show O from li).toNat=li from Lw li]at h;have k0:ba 1 (ag.kq n bi li ps):=(yN (c:=n) (bits:=bi) (lines:=li) (prios:=ps) om om om hpn hps).1.ok;generalize ag.kq n bi li ps=k at h k0;have h:Ow w0.heap.size w0 w (ai kb k::gI Ci 0 rb k CA::aa bb [.z (n:O),.z (bi:O),.z (li:O),s'.v]::[]):=h.sub;intro k32 hk32;refine bc U (bc U (fa U (fa U (h.l1 U ?_))));refine uP (c:=n) k0 qb qb om h λw h=>?_;apply hk32;refine bc U ?_;clear hk32;intro l35 hl35;have loop:∀(q i:X)(kb M:X)(k:ag)(d:Told)(w:J),i+q=40->M<=i->ba (1+64*i) k->Ow w0.heap.size w0 w (ai kb k::gI Ci M rb k d::aa bb [.z (n:O),.z (bi:O),.z (li:O),s'.v]::[])->l35 kb.o (i:O) w:=by
  intro q;induction q with
  |zero=>
   intro i kb M k d w hiq hM hk h;apply hl35;intro k39 hk39;have done:k39 G w:=by apply hk39;refine bc U ?_;exact ug (h.sub:Ow w0.heap.size w0 w []) hK
   refine bo (λe=>?_) (λe=>done);rw[qm om];exact done
  |succ q ih=>
   intro i kb M k d w hiq hM hk h;apply hl35;intro k39 hk39;refine bo (λe=>?_) (λe=>?_)
   case refine_2=>
    apply hk39;refine bc U ?_;exact ug (h.sub:Ow w0.heap.size w0 w []) hK
   rw[qu om];apply hk39;refine bh U ?_;have hlt:i<ops.length:=om
   obtain⟨x,hxx⟩:∃x,ops[i]?=S x:=⟨_,gE hlt⟩
   have hgx:=hg _ (L4 hxx);have hwx:=KL hgx;have ew:qf.wrap ((i:O)+1)=((i+1:X):O):=by rw[wr om om];omega
   have et:((i:O)).toNat=i:=Lw i;rw[et];obtain⟨a,ha,hc⟩:=hi5.get h hxx;refine⟨a,ha,om,e,Jp hc (h.a λob w1 h=>?_)⟩;refine h.aA U U λw h=>?_;refine h.l1 U ?_;intro k54 hk54;have next:∀(kb M:X)(k:ag)(d:Told)(w:J),M<=i+1->ba (1+64*(i+1)) k->Ow w0.heap.size w0 w (ai kb k::gI Ci M rb k d::aa bb [.z (n:O),.z (bi:O),.z (li:O),s'.v]::[])->k54 kb.o w:=λkb M k d w hM hk h=>by
    apply hk54;refine h.l1 U ?_;refine uP (c:=n) hk om om om h λw h=>?_;refine bc U ?_;rw[ew];exact ih (i+1) kb M k d w om hM hk h
   clear hl35 hk54 hk39 ih;refine dE (λe0=>?_) (λe0=>?_)
   .refine ⟨_,h.aE U,dR (h.dx U ?_)⟩
    refine gk (c:=x.c) hk om hwx.1 hwx.2 (h.pick (A:=ai kb k)) λfs w h=>?_;have hfl:=C3 hk om x.core x.c;refine h.a λtb w1 h=>?_;refine h.aA U U λw h=>?_;refine h.dr λw h=>?_;refine⟨_,h.aE U,dR (h.dx U (h.nT (x3:=fs) U ⟨FO (c:=x.c) hk om om (h.pick (A:=gI Ci M rb k d)) λfs2 d2 w h=>?_,trivial⟩))⟩;refine h.hd U ⟨?_,trivial⟩;refine FQ (s:=fs) (t:=fs2) (xs:=(k.do x.core x.c).1.forget) hfl h λw h=>?_;refine bc U ?_;exact next kb (M+1) (k.do x.core x.c).2 d2 w om ((hk.do om x.core x.c).mono om) h.sub
   refine dE (λe1=>?_) (λe1=>?_)
   .refine h.l2 U ?_
    refine E8 hk om (h.pick (A:=ai kb k)) λw h=>?_;refine h.l2 U ?_;refine DG om hk (h.pick (A:=gI Ci M rb k d)) λw h=>?_;refine fa U (fa U ?_);exact next kb (M+1) (k.irq x.core).2.2 d w om ((hk.irq x.core).mono om) h.sub
   refine dE (λe2=>?_) (λe2=>?_)
   .refine h.l2 U ?_
    refine CN hk (h.pick (A:=ai kb k)) λw h=>?_;refine h.dr λw h=>?_;refine⟨_,U,?_⟩;obtain⟨t,ht,htt⟩:=Bx (core:=x.core) (K:=λr w=>bif !((k.t.bP x.core).isSome==r)then K G w else k54 kb.o w) hk (h.pick (A:=gI Ci M rb k d)) λw h=>by rw[beq_self_eq_true];exact next kb M (k.tick x.core) d w om ((hk.tick x.core).mono om) h.sub
    exact⟨t,ht,_,h.aE U,htt,trivial⟩
   refine dE (λe3=>?_) (λe3=>?_)
   .refine Ao hk om (h.pick (A:=ai kb k)) λkb2 w h=>?_
    refine⟨_,h.aE U,dR (h.dx U (gk (c:=x.c) hk om hwx.1 hwx.2 (h.cq) λfs w h=>?_))⟩;refine gk (core:=0) (c:=⟨4,1,0,0,0,0⟩) (hk.do om x.core x.c) om qb qb (h.cq) λfs2 w h=>?_;refine bc U ?_;exact next kb2 M k d w om (hk.mono om) h.sub
   .exact next kb M k d w om (hk.mono om) h.sub
 exact loop 40 0 kb 0 k CA w om (Lv _) k0 h
end
end Go.Vc
