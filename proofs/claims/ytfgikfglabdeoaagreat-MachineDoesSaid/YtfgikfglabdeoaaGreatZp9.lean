/- What the row rests on: the declarations that it needs, out of my texts (part 9). -/
import Derived.Test.YtfgikfglabdeoaaGreatZp8
open Bool renaming false->qd,true->G
open Decidable renaming decide->qe
open Go renaming Addr->qf,Operand->qD,Program->qo,TypeId->qi,TypeInfo->qL,Value->V,World->W
open Go.IntKind renaming i64->qj
open Go.Proofs.Tryz renaming prog->qh,t173->akv,t177->akw,t197->ak4,t227->akA,t3->qI,t320->ak3,t354->akp,t36->aj5,t98->akm,t99->akx,underlying101->akY,underlying104->akW,underlying105->akX,underlying22->qJ,underlying341->ak0,underlying354->ako,underlying61->akz
open Option renaming none->Q,some->X
open _root_ renaming Bool->I,Int->U,List->J,Nat->S,Option->qg,True->qu,absurd->qk,congrArg->qz,decide_eq_decide->qP,decide_eq_false->ql,decide_eq_true->qp,decide_eq_true_eq->qF,if_neg->Y,if_pos->Z,or_false->qG,rfl->O
open Go.Proofs.Tryz
open Int renaming eq_ofNat_of_zero_le->SI,toNat_natCast->SD
open List renaming eq_of_mem_replicate->U6,find?_cons->Wf,getElem?_eq_some_iff->Sz,getElem?_map->S2,getElem?_set_self->SQ,getElem?_zipWith->Um,getElem_mem->Tq,length_append->SG,length_map->S9,length_nil->TU,length_replicate->Uw,length_set->Ti,length_take->SN,length_zipWith->Uu,map_append->S0,map_set->Vx,mem_append->Tv,mem_cons->SH,mem_of_getElem?->SU,mem_singleton->Tf,not_mem_nil->TE,replicate->SB,replicate_succ->US,replicate_succ'->U7,set_set->Ul,take_add_one->SO,take_of_length_le->SE,zipWith->SC,zipWith_append->Vn
open Nat renaming le_refl->SA,le_succ->Ue,le_trans->SY
set_option maxRecDepth 100000
set_option maxHeartbeats 4000000
set_option linter.all false
namespace Go.Vc
open Go.Proofs
section
variable{T:Sl->J dM->aG}{M N B:S}{w0 w:W}{R L:J aG}{rb kb:S}{k:ai}{d:Told}
theorem Lk(h:Ow B w0 w (de M rb k d::R)):∃x:Rx,w.cell? ⟨rb,10,Q⟩=X (.z d.e)/\w.cell? ⟨rb,11,Q⟩=X (.y d.w)/\w.cell? ⟨rb,12,Q⟩=X (.z d.cv)/\w.cell? ⟨rb,13,Q⟩=X x.sf.v/\Ow B w0 w (ag au x.sf d.forget::iz lG M rb k d::R):=by obtain⟨x,h⟩:=mP h;refine⟨x,h.aE O,h.aE O,h.aE O,h.aE O,?_⟩;have h:=h.pick (A:=ag au x.sf d.forget);have h:Ow B w0 w (dw qu::ag au x.sf d.forget::_):=Ow.cI trivial h;exact(show Ow B w0 w (iz lG M rb k d::ag au x.sf d.forget::R)from bI (T:=lG) x h.sub).cC
theorem DF{core:U}{c:Call}{K:U->U->U->Sl->Pw}(hk:bD N k)(hM:M<1000000)(hN:N+64<=100000)(h:Ow B w0 w (iz T M rb k d::R))
  (hK:∀fs d' w',Ow B w0 w' (ag au fs (k.do core c).1.forget::iz lG (M+1) rb (k.do core c).2 d'::R)->K (k.do core c).1.e (k.do core c).1.w (k.do core c).1.cv fs w'):
  Yn rb.o core c.ask c.at_ c.ay c.a c.b c.c K w:=by
 apply ajz;refine h.a λcb w1 h=>?_;refine h.a λob w2 h=>?_;obtain⟨x,h⟩:=mP (h.pick (A:=iz T M rb k d));refine⟨_,O,wu (h.aB O O λw h=>?_)⟩;have h:=Ow.cB (E:=au) h;refine⟨_,O,h.l2 O (Th.gW hk.inv (h.pick (A:=Th.cp x.th k.t)) λw h=>?_)⟩;have h:Ow B w0 w (de M rb (k.cG (k.t.bj core)) br::ae ob [.z 0,.y 0,.z 0,.slice Q 0 0]::ae cb c.cl::R):=bI { x with sf:=z0} h.sub;have hp:=hk.pick core;have soon:∀(e:U)(k':ai)(w:W),k.do core c=ai.tell e k'->Ow B w0 w (de M rb k' br::ae ob [.z 0,.y 0,.z 0,.slice Q 0 0]::R)->
   oy w ob.p 0 [.z e,.y 0,.z (-1),.slice Q 0 0] λw=>hI w ob.p 0 [.o,.u,.o,.s] λ(r19:U)(r20:U)(r21:U)(r22:Sl)=>K r19 r20 r21 r22 w:=λe k' w he h=>by
  rw[he]at hK;refine h.aB O O λw h=>?_;refine h.gn (x3:=(z0:Sl)) O ?_;obtain⟨_,_,_,_,_,h⟩:=Lk h;have h:=Ow.cB (E:=au) (lW (M':=M+1) (Ue M) (h.pick (A:=iz lG M rb k' br)));exact hK z0 br w (show Ow B w0 w (ag au z0 []::iz lG (M+1) rb k' br::R)from h.sub)
 have late:∀(k':ai)(d':Told)(w:W),k.do core c=(d',k')->Ow B w0 w (de (M+1) rb k' d'::ae ob [.z 0,.y 0,.z 0,.slice Q 0 0]::R)->
   hI w (rb.p.add 10) 0 [.o,.u,.o,.s] λ(t0:U)(t1:U)(t2:U)(t3:Sl)=>oy w ob.p 0 [.z t0,.y t1,.z t2,t3.v] λw=>hI w ob.p 0 [.o,.u,.o,.s] λ(r19:U)(r20:U)(r21:U)(r22:Sl)=>K r19 r20 r21 r22 w:=λk' d' w he h=>by
  rw[he]at hK;obtain⟨x,c0,c1,c2,c3,h⟩:=Lk h;refine eA ⟨_,c0,_,c1,_,c2,x.sf,c3,?_⟩;refine h.aB O O λw h=>?_;refine h.gn (x3:=x.sf) O ?_;exact hK x.sf d' w h.sub
 unfold ai.do at soon late
 cases hr:(k.t.bj core).cj core with
 |none=>
  rw[hr]at soon;exact aW O (soon 182 _ w O h.sub)
 |some cur=>
  rw[hr]at soon late;dsimp only at soon late;refine aV O ?_;intro k23 hk23;have hbad:c.ask<0\/18<=c.ask->k23 G w:=λhb=>by rw[Z hb]at soon;apply hk23;exact aW O (soon 180 _ w O h.sub)
  have hgood:¬(c.ask<0\/18<=c.ask)->k23 qd w:=λhb=>by
   rw[Y hb]at soon late;apply hk23;refine aV O (h.l1 O ?_);refine dW (λe=>?_) (λe=>?_)
   .rw[Z e]at late
    obtain⟨x,h⟩:=mP h;refine⟨_,O,h.l2 O (Th.uZ hp.inv (h.pick (A:=Th.cp x.th (k.cG (k.t.bj core)).t)) λw h=>?_)⟩;refine⟨_,O,?_⟩;have h:Ow B w0 w (Th.cp x.th ((k.t.bj core).yield core)::_):=h;have h:Ow B w0 w (de M rb ((k.cG (k.t.bj core)).cG ((k.t.bj core).yield core)) br::ae ob [.z 0,.y 0,.z 0,.slice Q 0 0]::R):=bI x h.sub;exact late _ br w O (lW (Ue M) h)
   .rw[Y e]at soon late
    refine h.eE O ?_;have hci:(k.cG (k.t.bj core)).t.gA core=true:=(hp.inv.runIn hr).1;generalize k.cG (k.t.bj core)=kk at soon late h hp hci;refine It (core:=core) (cur:=cur) hp om om h (λw he h=>?_) (λw hB hm he h=>?_)
    .exact aW O (soon 181 kk w he h.sub)
    rw[he]at late;clear soon he;refine aV O (h.l1 O ?_);intro k60 hk60;obtain⟨hb1,hb2⟩:=jm hB;obtain⟨_,hH,ho,hcr,_⟩:=hp.cap hb1;have fin:∀(w:W)(d':Told),d'.w=(kk.asks ⟨core,cur,c,(0,c.at_),kk.bm c.at_⟩).1.w->d'.cv=(kk.asks ⟨core,cur,c,(0,c.at_),kk.bm c.at_⟩).1.cv->d'.forget=(kk.asks ⟨core,cur,c,(0,c.at_),kk.bm c.at_⟩).1.forget->
      Ow B w0 w (de (M+1) rb (kk.asks ⟨core,cur,c,(0,c.at_),kk.bm c.at_⟩).2 d'::ae ob [.z 0,.y 0,.z 0,.slice Q 0 0]::ae cb c.cl::R)->
      ∃a80:qf,X (rb.p:qf)=X a80/\St w (a80.add 10) (.z (kk.asks ⟨core,cur,c,(0,c.at_),kk.bm c.at_⟩).1.e) λw81=>k60 w81:=λw d' q1 q2 q3 h=>by
     generalize kk.asks ⟨core,cur,c,(0,c.at_),kk.bm c.at_⟩=A at h late q1 q2 q3|-;obtain⟨⟨e0,e1,e2,e3⟩,k'⟩:=A;obtain⟨f0,f1,f2,f3⟩:=d';dsimp only at q1 q2 q3;subst q1 q2 q3;obtain⟨x,h⟩:=mP h;refine⟨_,O,h.fD O O λw h=>?_⟩;apply hk60;refine⟨_,O,?_⟩;have h:Ow B w0 w (de (M+1) rb k' ⟨e0,f1,f2,f3⟩::ae ob [.z 0,.y 0,.z 0,.slice Q 0 0]::R):=bI x h.sub;exact late k' _ w O h
    clear hk60 late;refine bh (λe4=>?_) (λe4=>(h.l1 O ?_))
    .refine h.eE O ?_
     exact Fq (dg:=⟨core,cur,c,(0,c.at_),kk.bm c.at_⟩) hp hN (by show 0<=c.ask;omega) (by show c.ask<5;omega) O O hH hcr ho hci hb2 (λe h1=>hm ⟨e,h1⟩) h λw d' q1 q2 q3 h=>fin w d' q1 q2 q3 (lW (Ue M) h)
    refine bh (λe7=>?_) (λe7=>(h.l1 O ?_))
    .refine h.eE O ?_
     exact B0 (dg:=⟨core,cur,c,(0,c.at_),kk.bm c.at_⟩) hp om (by show 5<=c.ask;omega) (by show c.ask<8;omega) O h λw d' q1 q2 q3 h=>fin w d' q1 q2 q3 (lW (Ue M) h)
    refine bh (λe11=>?_) (λe11=>?_)
    .refine h.eE O ?_
     refine FE (dg:=⟨core,cur,c,(0,c.at_),kk.bm c.at_⟩) hp hM om (by show 8<=c.ask;omega) (by show c.ask<12;omega) O ho (hb2 ?_) h λw d' q1 q2 q3 h=>fin w d' q1 q2 q3 h;have:c.ask=8\/c.ask=9\/c.ask=10\/c.ask=11:=om
     rcases this with q|q|q|q<;>rw[q]<;>decide
    .refine h.eE O ?_
     refine DG (dg:=⟨core,cur,c,(0,c.at_),kk.bm c.at_⟩) hp hM om (by show 12<=c.ask;omega) (by show c.ask<17;omega) O ho (hb2 ?_) h λw d' q1 q2 q3 h=>fin w d' q1 q2 q3 h;have:c.ask=12\/c.ask=13\/c.ask=14\/c.ask=15\/c.ask=16:=om
     rcases this with q|q|q|q|q<;>rw[q]<;>decide
  refine h.l1 O ?_;refine bh (λe=>hbad (.inl e)) (λe=>(h.l1 O ?_));by_cases e2:c.ask>17
  .rw[qp e2];exact hbad om
  .rw[ql e2];exact hgood om
theorem FF{core:U}{K:I->Pw}(hk:bD N k)(h:Ow B w0 w (iz T M rb k d::R))(hK:∀w',Ow B w0 w' (iz T M rb (k.tick core) d::R)->K (k.t.cj core).isSome w'):
  ∃t:qg qf,w.cell? (rb.p.add 2)=X (.pointer t)/\W7 t core K w:=by
 obtain⟨x,h⟩:=mP h;refine h.l2 O ?_;refine Th.wb hk.inv (h.pick (A:=Th.cp x.th k.t)) λw h=>?_;exact hK w (show Ow B w0 w (iz T M rb (k.tick core) d::R)from bI x h.sub)
abbrev LR:Told:=⟨0,0,0,[]⟩
abbrev El(rb:S)(k:ai):aG:=iz lG 0 rb k LR
end
section
variable{B:S}{w0 w:W}{R L:J aG}{rb N:S}{k:ai}
theorem wi{K:qg qf->U->Pw}(h:Ow B w0 w R)(hK:∀b w',Ow B w0 w' (dh b (SB 8 ⟨0,0,0⟩)::R)->K b.o 0 w'):YK 8 K w:=by
 apply aiH;intro k2 hk2;refine av qb ?_;rw[show qe ((8:U)>64)=qd from by decide];apply hk2;refine aV O ?_;refine Ow.si (E:=Ct) (z0:=(⟨0,0,0⟩:Ln)) underlying263 (show qh.info? 320=X ak3 from by kernel_rfl) (zv:= .agg ⟨Ct.enc ⟨0,0,0⟩⟩) qa qa O h qb (by
  have e:ak3.bytes=32:=qa
  rw[e];decide) qb λs w hl h=>?_
 refine h.a λb w1 h=>?_;exact hK b w1 (eQ (s:=s) (λx hx=>by rw[U6 hx];exact⟨Int.le_refl _,qb⟩) h)
theorem lB{i kind obj:U}{K:Pw}(hT:Tr.rP k.T)(hl:k.T.length<1000000)(hi:i=(k.T.length:U))(h:Ow B w0 w (El rb k::R))(hK:∀w',Ow B w0 w' (El rb (k.eI i kind obj)::R)->K w'):YM rb.o kind obj K w:=by
 apply ajB;obtain⟨x,h⟩:=mP h;obtain⟨s,d,h2⟩:=(h.pick (A:=Tr.cQ x.t k.T)).ref;have hs:(s.len:U)=i:=by rw[h2.aF s,Tr.gG,hi]
 refine⟨_,O,_,h.aA O,_,O,s,h2.aE O,?_⟩;rw[hs];clear h2 hs;refine h.a λc w1 h=>?_;refine h.aB O O λw h=>?_;refine h.dr λw h=>?_;refine⟨_,O,h.l1 O (h.aM O ⟨Sl.pz (s:=(0,i)) (c:=⟨kind,obj,7,0,0,0⟩) mD (h.pick (A:=Sl.a8 x.n k.bits k.H)) λw h=>?_,trivial⟩)⟩;refine h.dr λw h=>?_;refine⟨_,O,h.l2 O (h.aM O ⟨Tr.Fy (s:=(0,i)) hT hl (h.pick (A:=Tr.cQ x.t k.T)) λw h=>?_,trivial⟩)⟩;exact hK w (show Ow B w0 w (El rb (k.eI i kind obj)::R)from bI x h.sub)
theorem pD{n:S}{c:S}{i kind obj:U}(g:oz c n k)(hi:i=(n:U)):(k.eI i kind obj).T.length=k.T.length+1:=by
 have hno:Tr.bM k.T (0,i)=none:=tK λe=>by rw[g.ok.mem,g.free i om]at e;cases e
 have hT:Tr.pC k.T (0,i)=(0,k.T++ [((0,i),0)]):=by unfold Tr.pC;rw[hno]
 unfold ai.eI;rw[hT];simp
theorem oz.Ng{c j:S}{p:U}(h:oz c (2+j) k)(hj:j<c)(h8:c<=8)(ht:k.t.bK.length=j)(hp:0<=p/\p<256):
  oz c (2+j) (k.cG (((k.t.df p (j:U)).2.2.bW (k.t.df p (j:U)).1).2.bj (j:U))):=by
 have hc:k.t.gA (j:U)=true:=(h.core _).2 ⟨om,om⟩;obtain⟨_,_,hm⟩:=h.Cl hj h8 ht hp;rw[hm];dsimp only;have hl:(((k.t.make p (j:U)).bW (j:U)).2.bj (j:U)).bK.length=j+1:=by rw[jt,iu];unfold Th.Mt.make;simp[ht]
 have hi:=((h.ok.inv.make (p:=p) (c:=(j:U)) om hc hp).resume (j:U)).bj (j:U);refine⟨h.ok.cG hi (by rw[hl];omega),h.free,h.bits,λn=>?_,h.sp,h.u1⟩;show(((k.t.make p (j:U)).bW (j:U)).2.bj (j:U)).gA n=G↔_;rw[AD,vH,Dt];exact h.core n
theorem we{c bits lines:U}{prios:J U}{s:Sl}{K:qg qf->U->Pw}[ale:bG s L U ax prios](h:Ow B w0 w L)(hbig:prios.length<=1000000000)
  (hK0:ai.ij c bits lines prios=qd->∀w',Ow B w0 w' L->K Q 1 w')
  (hK1:ai.ij c bits lines prios=G->∀b w',Ow B w0 w' (El b (ai.fQ c.toNat bits.toNat lines.toNat prios)::L)->K b.o 0 w'):Yk c bits lines s K w:=by
 apply ajx;have hlen:s.len=prios.length:=h.aF s;refine h.a λcb w1 h=>?_;intro k6 hk6;have bad:ai.ij c bits lines prios=qd->k6 G w1:=λe=>by apply hk6;exact aW O (hK0 e w1 h.drop)
 refine⟨_,h.aE O,bh (λe=>bad (ql λhh=>by have:=hh.1;omega)) λe1=>?_⟩;refine⟨_,h.aE O,bh (λe=>bad (ql λhh=>by have:=hh.2.1;omega)) λe2=>?_⟩;refine⟨_,h.aA O,bh (λe=>bad (ql λhh=>by have:=hh.2.2.1;omega)) λe3=>?_⟩;refine⟨_,h.aA O,bh (λe=>bad (ql λhh=>by have:=hh.2.2.2.1;omega)) λe4=>?_⟩;refine⟨_,h.aA O,bh (λe=>bad (ql λhh=>by have:=hh.2.2.2.2.1;omega)) λe5=>?_⟩;refine⟨_,h.aA O,bh (λe=>bad (ql λhh=>by have:=hh.2.2.2.2.2.1;omega)) λe6=>?_⟩;refine⟨s,h.aA O,h.l1 O ?_⟩;by_cases e7:(s.len:U)=c
 case neg=>
  rw[show((s.len:U) !=c)=G from bne_iff_ne.2 e7];exact bad (ql λhh=>by have:=hh.2.2.2.2.2.2.1;omega)
 rw[show((s.len:U) !=c)=qd from by rw[e7];exact bne_self_eq_false c];clear bad;apply hk6;refine aV O ?_;intro l9 hl9;have check:∀(d i:S)(w:W),i+d=prios.length->(∀p∈prios.take i,0<=p/\p<256)->Ow B w0 w (ae cb [.z c,.z bits,.z lines,s.v]::L)->l9 (i:U) w:=by
  intro d;induction d with
  |succ d ih=>
   intro i w hi hp h;have hx:prios[i]?=X prios[i]:=gE om;generalize prios[i]=p at hx;have hpm:=SU hx;apply hl9;refine⟨s,h.aA O,az om ?_⟩;intro k13 hk13;have bad:¬(0<=p/\p<256)->k13 G w:=λe=>by apply hk13;exact aW O (hK0 (ql λhh=>e (hh.2.2.2.2.2.2.2 p hpm)) w h.drop)
   refine⟨s,h.aA O,h.cd (s:=s) O hx λa ha hc0 hc=>⟨_,hc0 _ O,?_⟩⟩
   refine bh (λe=>bad om) (λe=>?_);refine⟨s,h.aA O,h.cd (s:=s) O hx λa ha hc0 hc=>⟨_,hc0 _ O,?_⟩⟩
   by_cases e2:p>255
   .rw[qp e2];exact bad om
   .rw[ql e2]
    apply hk13;refine aV O ?_;rw[wI i om];refine ih (i+1) w om (λq hq=>?_) h;rw[SO,hx]at hq;rcases Tv.1 hq with hq|hq
    .exact hp q hq
    .have:q=p:=by simpa using hq
     rw[this];omega
  |zero=>
   intro i w hi hp h;rw[SE om]at hp;have hr:ai.ij c bits lines prios=true:=qp ⟨om,om,om,om,om,om,om,hp⟩;have hK:=hK1 hr;apply hl9;clear hK0 hK1 hl9 hk6;obtain⟨b1,b2,b3,b4,b5,b6,b7,b8⟩:=of_decide_eq_true hr;obtain⟨c,rfl⟩:=SI (show 0<=c by omega);obtain⟨bits,rfl⟩:=SI (show 0<=bits by omega);obtain⟨lines,rfl⟩:=SI b5;have b2:c<=8:=om
   have b9:4<=bits/\bits<=20:=⟨om,om⟩
   have b6:lines<=8:=om
   have b7:prios.length=c:=om
   simp only[SD]at hK;refine⟨s,h.aA O,av om (h.l1 O (Th.yf (c:=c) om b2 h λthb w h=>?_))⟩;refine wi h λlp w h=>?_;refine h.a λnb w1 h=>?_;refine h.a λtb w2 h=>?_;refine h.l2 O ?_;refine h.a λub w3 h=>?_;refine h.a λsb w4 h=>?_;refine h.a λpb w5 h=>?_;refine h.a λrb w6 h=>?_;refine⟨_,O,h.l1 O ?_⟩;have h:Ow B w0 w6 (Sl.a8 nb [] (λ_=>Q)::_):=Ow.eR (s:=z0) (ss:=[]) ⟨qc,qc,λs c h=>by cases h⟩ (Ow.ym (Ow.cB (h.pick (A:=ae nb [.slice Q 0 0]))).cC);refine Sl.nU (z:=6) h λw h=>?_;have h:Ow B w0 w (Tr.cQ tb []::_):=Ow.ka (s:=z0) (d:=z0) (Ow.cB (Ow.cB (h.pick (A:=ae tb [.slice Q 0 0,.slice Q 0 0]))));have h:Ow B w0 w (ae sb [Tb.bz z0,Tb.bz z0]::_):=h.pick (A:=ae sb [.slice Q 0 0,.slice Q 0 0]);have h:Ow B w0 w (Tb.db sb Tb.js::_):=Ow.ig (sT:=z0) (sP:=z0) Tb.kh.new (Ow.cB (E:=Tb.kf) (Ow.cB (E:=Tb.aP) h)).lI;have h:Ow B w0 w (aq Tb.db [sb] [Tb.js]::_):=Ow.ic O h;have h:Ow B w0 w (aq Tb.db [sb] [Tb.js]::dw qu::_):=(Ow.cI trivial h).cC;have h:Ow B w0 w (ag bw ⟨X pb.p,1,1⟩ [sb]::_):=Ow.CO (E:=bw) (h.pick (A:=ae pb [.q sb])) [sb] O;have h:Ow B w0 w (ag bw z0 []::aq (cq 0) [] []::_):=Ow.cB (Ow.ic O h);have h:Ow B w0 w (ag bw z0 []::aq eh [] []::_):=Ow.cB (Ow.ic O h);have h:Ow B w0 w (ag dV ⟨X ub.p,1,1⟩ [⟨0,bits,0⟩]::_):=Ow.CO (E:=dV) (h.pick (A:=ae ub [.y 0,.z bits,.y 0])) [⟨0,bits,0⟩] O;have h:=((h.pick (A:=dh lp (SB 8 ⟨0,0,0⟩))).pick (A:=Th.cp thb (Th.eU c))).pick (A:=Tr.cQ tb []);have h:=(h.pick (A:=Sl.a8 nb (Sl.fq [] 6).2.2 λ_=>Q)).pick (A:=ae rb [.q nb,.q tb,.q thb,.q lp,.slice ub.o 1 1,.slice Q 0 0,.slice Q 0 0,.slice pb.o 1 1,.z 0,.z 0,.z 0,.y 0,.z 0,.slice Q 0 0]);have h:Ow B w0 w (El rb (ai.mc c bits)::ae cb [.z c,.z bits,.z lines,s.v]::L):=bI (T:=lG) (M:=0) (d:=LR) (fr:=0) (tb:=0) ⟨nb,tb,thb,lp,⟨X ub.p,1,1⟩,z0,z0,⟨X pb.p,1,1⟩,z0,[],[],[sb]⟩ h;have g0:=BL (c:=c) b2 b9;obtain⟨g1,g2⟩:=xm (c:=c) b2 b9;have fu:∀{m:S}{k:ai},oz c m k->k.T.length<1000000:=λg=>by have:=g.ok.fu;omega
   have t1:=pD (i:=0) (kind:=2) (obj:=0) g0 O;have t2:=pD (i:=1) (kind:=1) (obj:=0) g1 O;refine lB (i:=0) g0.ok.tok (fu g0) O h λw h=>?_;refine lB (i:=1) g1.ok.tok (fu g1) (by rw[t1];rfl) h λw h=>?_;intro l43 hl43;have loop:∀(ps:J U)(j:S)(k:ai)(w:W),prios.drop j=ps->j+ps.length=c->oz c (2+j) k->k.t.bK.length=j->k.T.length=2+j->ai.oJ ps j k=ai.oJ prios 0 (((ai.mc c bits).eI 0 2 0).eI 1 1 0)->
     Ow B w0 w (El rb k::ae cb [.z c,.z bits,.z lines,s.v]::L)->l43 (j:U) w:=by
    intro ps;induction ps with
    |nil=>
     intro j k w hd hj g ht htl he h;have hj:j=c:=hj;have he:k=_:=he;apply hl43;refine⟨_,h.aE O,av om ?_⟩;have t3:=pD (i:=((2+j:S):U)) (kind:=8) (obj:=0) g O;refine lB (i:=((2+j:S):U)) g.ok.tok (fu g) (by rw[htl]) h λw h=>?_;intro l67 hl67;have g3:=g.space om;have lines_loop:∀(q t:S)(k:ai)(w:W),t+q=lines->oz c (3+c+t) k->k.T.length=3+c+t->ai.vq q t (3+prios.length) k=ai.fQ c bits lines prios->k.t.bK.length=c->Ow B w0 w (El rb k::ae cb [.z c,.z bits,.z lines,s.v]::L)->l67 (t:U) w:=by
      intro q;induction q with
      |zero=>
       intro t k w hq g htl he ht h;have he:k=ai.fQ c bits lines prios:=he;apply hl67;refine⟨_,h.aA O,av om (hK rb w ?_)⟩;rw[<-he];exact h.sub
      |succ q ih=>
       intro t k w hq g htl he ht h;apply hl67;refine⟨_,h.aA O,az om ?_⟩;have t4:=pD (i:=((3+c+t:S):U)) (kind:=9) (obj:=(t:U)) g O;refine lB (i:=((3+c+t:S):U)) g.ok.tok (fu g) (by rw[htl]) h λw h=>?_;rw[wI t om];refine ih (t+1) _ w om (g.line om om) (by rw[t4,htl];omega) ?_ ht h;rw[<-he,b7];rfl
     refine lines_loop lines 0 (k.eI ((2+j:S):U) 8 0) w om (show oz c (3+c+0) (k.eI ((2+j:S):U) 8 0)from by rw[show 3+c+0=2+j+1 from by omega];exact g3) (by rw[t3,htl];omega) ?_ (ht.trans hj) h;unfold ai.fQ;rw[<-he,hj,b7]
    |cons p ps ih=>
     intro j k w hd hj g ht htl he h;rw[List.length_cons]at hj;have hx:prios[j]?=X p:=by have:=qz (λl=>l[0]?) hd;simpa using this
     have hp:0<=p/\p<256:=b8 p (SU hx);obtain⟨g3,g4,g5⟩:=g.Cl om b2 ht hp;have g6:oz c (2+j) (k.cG (((k.t.df p (j:U)).2.2.bW (k.t.df p (j:U)).1).2.bj (j:U))):=g.Ng om b2 ht hp;have t5:=pD (i:=((2+j:S):U)) (kind:=3) (obj:=(j:U)) g6 O;apply hl43;refine⟨_,h.aE O,az om (h.dr λw h=>?_)⟩;obtain⟨x,h⟩:=mP h;refine⟨_,O,_,h.aA O,s,h.aA O,h.cd (s:=s) (i:=(j:U)) (j:=j) O hx λa ha h0 hcc=>⟨_,h0 _ O,?_,trivial⟩⟩
     refine Th.nW g.ok.inv.ok (h.pick (A:=Th.cp x.th k.t)) λw h=>?_;have i1:=g.ok.inv.df p (j:U);rw[g5]at h i1 g6 g3 g4;refine⟨_,O,h.l2 O (Th.iQ i1 h λw h=>?_)⟩;refine⟨_,O,h.l2 O (Th.gW (i1.resume _) h λw h=>?_)⟩;have h:Ow B w0 w (El rb (k.cG (((k.t.make p (j:U)).bW (j:U)).2.bj (j:U)))::ae cb [.z c,.z bits,.z lines,s.v]::L):=bI x h.sub;refine lB (i:=((2+j:S):U)) g6.ok.tok (fu g6) (by show((2+j:S):U)=(k.T.length:U);rw[htl]) h λw h=>?_;rw[wI j om];refine ih (j+1) _ w ?_ om g3 g4 (by rw[g5]at t5;exact t5.trans (by show k.T.length+1=_;omega)) ?_ h
     .rw[<-List.drop_drop,hd];rfl
     .rw[<-he]
      show _=ai.oJ ps (j+1) ((k.cG (((k.t.df p (j:U)).2.2.bW (k.t.df p (j:U)).1).2.bj (j:U))).eI ((2+j:S):U) 3 (k.t.df p (j:U)).1);rw[g5]
   exact loop prios 0 _ w O om g2 O (by rw[t2,t1];rfl) O h
 exact check prios.length 0 w1 om (λp hp=>by simp at hp) h
end
namespace Mc
section
variable{B:S}{w0 w:W}{R L:J aG}{M b nc N g:S}{m:cV}
structure Rc where
 bH:U
 n:U
 e:U
 w:U
 wk:U
 fs:Sl
def iB:dX Rc:=⟨6,λo=>[.z o.bH,.z o.n,.z o.e,.y o.w,.z o.wk,o.fs.v],λ_=>rfl,λx v h=>by simp only[SH,TE,qG]at h;rcases h with rfl|rfl|rfl|rfl|rfl|rfl<;>rfl,qb⟩
def rc(c:uu)(fs:Sl):Rc:=⟨c.bH,c.n,c.told.e,c.told.w,c.told.cv,fs⟩
structure LZ where
 k:S
 l:S
 b:S
 t:Sl
 c:Sl
 pr:Sl
 ps:J S
 fs:J Sl
 d:Told
abbrev uo(x:LZ):J V:=[.q x.k,.q x.l,.q x.b,x.t.v,x.c.v,x.pr.v]
abbrev yc(cs:J uu)(fs:J Sl):J Rc:=SC rc cs fs
abbrev eG(cs:J uu):J (J dM):=cs.map λc=>c.told.forget
abbrev zC(cs:J uu):J (J dM):=cs.map λc=>c.tl
def dR(M b:S)(m:cV):aG:=oA λx:LZ=>aQ [dw (x.fs.length=m.cs.length/\x.ps.length=m.cs.length),ae b (uo x),iz lG M x.k m.k x.d,bY x.l m.cs.length m.line,bT x.b m.bx,ag bw x.t x.ps,
 aq (λp l=>bu p m.room l) x.ps (zC m.cs),ag iB x.c (yc m.cs x.fs),bA au x.fs (eG m.cs),ag aN x.pr m.prog]
theorem AJ(h:Ow B w0 w (dR M b m::R)):∃x:LZ,(x.fs.length=m.cs.length/\x.ps.length=m.cs.length)/\Ow B w0 w (ae b (uo x)::iz lG M x.k m.k x.d::bY x.l m.cs.length m.line::bT x.b m.bx::ag bw x.t x.ps::
  aq (λp l=>bu p m.room l) x.ps (zC m.cs)::ag iB x.c (yc m.cs x.fs)::bA au x.fs (eG m.cs)::ag aN x.pr m.prog::R):=by
 obtain⟨x,h⟩:=h.ex;obtain⟨h1,h⟩:=Ow.pure h.star;exact⟨x,h1,h⟩
theorem nw(x:LZ){m:cV}(hx:x.fs.length=m.cs.length/\x.ps.length=m.cs.length)(h:Ow B w0 w (ae b (uo x)::iz lG M x.k m.k x.d::bY x.l m.cs.length m.line::bT x.b m.bx::ag bw x.t x.ps::
  aq (λp l=>bu p m.room l) x.ps (zC m.cs)::ag iB x.c (yc m.cs x.fs)::bA au x.fs (eG m.cs)::ag aN x.pr m.prog::R)):Ow B w0 w (dR M b m::R):=
 Ow.eu x (Ow.aR (Ow.cI hx h))
theorem GQ(c':uu)(f':Sl):∀(cs:J uu)(fs:J Sl)(j:S),yc (cs.set j c') (fs.set j f')=(yc cs fs).set j (rc c' f')
 | [],_,_=>by simp[yc]
 |_::_,[],j=>by cases j<;>simp[yc]
 |c::cs,f::fs,0=>by simp[yc]
 |c::cs,f::fs,j+1=>by simpa [yc]using GQ c' f' cs fs j
abbrev OR(M b nc:S)(x:LZ)(p:S)(fs:Sl)(Y1 Y2:aG)(m:cV)(c:uu)(ald:J Rc)(R:J aG):J aG:=
 ae b (uo x)::iz lG M x.k m.k x.d::bY x.l nc m.line::bT x.b m.bx::ag bw x.t x.ps::ag iB x.c ald::bu p m.room c.tl::ag au fs c.told.forget::Y1::Y2::ag aN x.pr m.prog::R
theorem FN(hm:dn nc N g m){n:U}(h0:0<=n)(h1:n<(nc:U))(h:Ow B w0 w (dR M b m::R)):
  ∃(x:LZ)(p:S)(fs:Sl)(Y1 Y2:aG)(ald:J Rc),x.ps[n.toNat]?=X p/\ald[n.toNat]?=X (rc (m.aj n) fs)/\ald.length=nc/\x.ps.length=nc/\Ow B w0 w (OR M b nc x p fs Y1 Y2 m (m.aj n) ald R)/\
   ∀(M':S)(d':Told)(R':J aG)(m':cV)(c':uu)(fs':Sl)(w':W),m'.cs=m.cs.set n.toNat c'->m'.room=m.room->m'.prog=m.prog->
    Ow B w0 w' (OR M' b nc { x with d:=d'} p fs' Y1 Y2 m' c' (ald.set n.toNat (rc c' fs')) R')->Ow B w0 w' (dR M' b m'::R'):=by
 obtain⟨x,⟨hx1,hx2⟩,h⟩:=AJ h;have hcs:=hm.cs;obtain⟨c1,_⟩:=hm.Gm h0 h1;rw[hcs]at h hx1 hx2;have hlt:n.toNat<nc:=om
 have hp:x.ps[n.toNat]?=X x.ps[n.toNat]:=gE om;generalize x.ps[n.toNat]=p at hp;have hf:x.fs[n.toNat]?=X x.fs[n.toNat]:=gE om;generalize x.fs[n.toNat]=fs at hf;have ht:(zC m.cs)[n.toNat]?=X (m.aj n).tl:=by rw[S2,c1];rfl
 have hg:(eG m.cs)[n.toNat]?=X (m.aj n).told.forget:=by rw[S2,c1];rfl
 refine⟨x,p,fs,aQ ((SC (λp l=>bu p m.room l) x.ps (zC m.cs)).eraseIdx n.toNat),aQ ((SC (ag au) x.fs (eG m.cs)).eraseIdx n.toNat),yc m.cs x.fs,hp,?_,?_,hx2,?_,λM' d' R' m' c' fs' w' e1 e2 e3 h=>?_⟩
 .rw[Um,c1,hf]
 .rw[Uu];omega
 .have h2:=Ow.vF (h.pick (A:=aq (λp l=>bu p m.room l) x.ps (zC m.cs))) hp ht
  have h3:Ow B w0 w (bA au x.fs (eG m.cs)::bu p m.room (m.aj n).tl::aQ ((SC (λp l=>bu p m.room l) x.ps (zC m.cs)).eraseIdx n.toNat)::ae b (uo x)::iz lG M x.k m.k x.d::bY x.l nc m.line::bT x.b m.bx::ag bw x.t x.ps::ag iB x.c (yc m.cs x.fs)::ag aN x.pr m.prog::R):=h2.sub;have h4:=Lm h3 hf hg;exact h4.sub
 .have h2:Ow B w0 w' (ag au fs' c'.told.forget::aQ ((SC (ag au) x.fs (eG m.cs)).eraseIdx n.toNat)::bu p m'.room c'.tl::aQ ((SC (λp l=>bu p m.room l) x.ps (zC m.cs)).eraseIdx n.toNat)::ae b (uo x)::iz lG M' x.k m'.k d'::bY x.l nc m'.line::bT x.b m'.bx::ag bw x.t x.ps::ag iB x.c ((yc m.cs x.fs).set n.toNat (rc c' fs'))::ag aN x.pr m'.prog::R'):=h.sub
  have h3:=kF (E:=au) (by rw[S9];omega) (by rw[S9];omega) h2;rw[e2]at h3;have h4:Ow B w0 w' (bu p m.room c'.tl::aQ ((SC (λp l=>bu p m.room l) x.ps (zC m.cs)).eraseIdx n.toNat)::bA au (x.fs.set n.toNat fs') ((eG m.cs).set n.toNat c'.told.forget)::ae b (uo x)::iz lG M' x.k m'.k d'::bY x.l nc m'.line::bT x.b m'.bx::ag bw x.t x.ps::ag iB x.c ((yc m.cs x.fs).set n.toNat (rc c' fs'))::ag aN x.pr m'.prog::R'):=h3.sub;have h5:=Ow.cF (A:=λp l=>bu p m.room l) (by rw[S9];omega) hp h4;rw[<-GQ]at h5;have ec1:(eG m.cs).set n.toNat c'.told.forget=eG m'.cs:=by rw[e1];exact(Vx ..).symm
  have ec2:(zC m.cs).set n.toNat c'.tl=zC m'.cs:=by rw[e1];exact(Vx ..).symm
  have el:m'.cs.length=nc:=by rw[e1,Ti,hcs]
  rw[ec1,ec2,<-e1]at h5;refine nw { x with fs:=x.fs.set n.toNat fs',d:=d'} ⟨by dsimp only;rw[Ti];omega,by dsimp only;omega⟩ ?_;rw[e2,el];exact h5.sub
end
end Mc
section
variable{B:S}{w0 w:W}{R L:J aG}
theorem Mb{xs:J U}{y:U}{b:S}{s:Sl}{k:Sl->Pw}[ale:bG s L U ax xs]{R:J aG}[ak8:eL (ag ax s xs) L R]
  (h:Ow B w0 w (ae b [.z y]::L)) (hl:xs.length<=1000000) (hk:∀s' w',s'.len=xs.length+1->Ow B w0 w' (ag ax s' (xs++ [y])::R)->k s' w'):
  ∃s' w',dO qh [22,22] 22 s.v (.slice (X b.p) 1 1) w s' w'/\k s' w':=
 Ow.eZ (E:=ax) (y:=y) qJ (show qh.info? 3=X qI from by kernel_rfl) (zv:= .z 0) qa qa O qb h (by
  have e:qI.bytes=8:=qa
  rw[e];omega) hk
theorem xe{c bits lines:U}{prios:J U}{s:Sl}{K:U->U->U->Sl->Pw}(hi:Jd ax w0 s prios)(h:Ow w0.heap.size w0 w R)
  (hK:∀(n bi li:S)(ps:J U)s' w',1<=n->n<=3->6<=bi->bi<=12->li<=3->ps.length=n->(∀p∈ps,0<=p/\p<256)->Ow w0.heap.size w0 w' (ag ax s' ps::R)->K (n:U) (bi:U) (li:U) s' w'):
  Yi c bits lines s K w:=by
 apply aiM;obtain⟨pc,_,ec⟩:=Sl.zK c 65535 qb;obtain⟨pb,_,eb⟩:=Sl.zK bits 65535 qb;obtain⟨pl,hpl,el⟩:=Sl.zK lines 3 qb;have ec:fE .i64 c 65535=(pc:U):=ec;have eb:fE .i64 bits 65535=(pb:U):=eb;have el:fE .i64 lines 3=(pl:U):=el;have hlen:=hi.len;refine h.a λab w1 h=>?_;refine h.a λrb w2 h=>?_;refine⟨_,h.aE O,qb,_,h.aA O,qb,h.l2 O ?_⟩;refine h.a λob w3 h=>?_;refine h.aB O O λw h=>?_;rw[ec,eb,el]at h;rw[ec];obtain⟨n,hn⟩:∃n,n=1+pc%3:=⟨_,O⟩
 obtain⟨bi,hb⟩:∃n,n=6+pb%7:=⟨_,O⟩
 have en:qj.wrap (1+(pc:U).tmod 3)=(n:U):=by rw[show(pc:U).tmod 3=((pc%3:S):U)from(Int.ofNat_tmod pc 3).symm,wr om om];omega
 have ebi:qj.wrap (6+(pb:U).tmod 7)=(bi:U):=by rw[show(pb:U).tmod 7=((pb%7:S):U)from(Int.ofNat_tmod pb 7).symm,wr om om];omega
 rw[en,ebi]at h;rw[en];have h:=Ow.cB (E:=ax) h;have h:Ow w0.heap.size w0 w (ag ax z0 []::ae ob [.z (n:U),.z (bi:U),.z (pl:U),.slice Q 0 0]::ae rb [.z 0,.z 0,.z 0,.slice Q 0 0]::ae ab [.z c,.z bits,.z lines,s.v]::R):=h;intro l12 hl12;have loop:∀(d i:S)(so:Sl)(ps:J U)(w:W),i+d=n->ps.length=i->(∀p∈ps,0<=p/\p<256)->
   Ow w0.heap.size w0 w (ag ax so ps::ae ob [.z (n:U),.z (bi:U),.z (pl:U),so.v]::ae rb [.z 0,.z 0,.z 0,.slice Q 0 0]::ae ab [.z c,.z bits,.z lines,s.v]::R)->l12 (i:U) w:=by
  intro d;induction d with
  |succ d ih=>
   intro i so ps w hid hpl2 hps h;apply hl12;refine az om ?_;refine⟨s,h.aA O,?_⟩;intro k16 hk16;have key:∀(p:U),0<=p->p<256->k16 p w:=by
    intro p p0 p1;apply hk16;refine⟨so,h.aA O,h.a λtb w1 h=>?_⟩;refine Mb (s:=so) h om λs' w _ h=>?_;refine h.fD O O λw h=>?_;rw[wI i om];refine ih (i+1) s' (ps++ [p]) w om (by rw[SG];simp[hpl2]) ?_ ?_
    .intro x hx
     rcases Tv.1 hx with hx|hx
     .exact hps x hx
     .rw[Tf.1 hx];exact⟨p0,p1⟩
    .exact h.sub
   refine bh (λe=>?_) (λe=>?_)
   .have hlt:i<prios.length:=om
    obtain⟨a,ha,hg⟩:=hi.get h (gE hlt);obtain⟨q,hq,eq⟩:=Sl.zK prios[i] 255 qb;have eq:fE .i64 prios[i] 255=(q:U):=eq;refine⟨s,h.aA O,a,ha,om,e,prios[i],?_,?_⟩
    .have:=hg 0 _ O
     rw[add_nil]at this;rw[show((i:U)).toNat=i from SD i];exact this
    .rw[eq];exact key _ om om
   .exact key 5 qb qb
  |zero=>
   intro i so ps w hid hpl2 hps h;have hin:i=n:=hid;apply hl12;refine av om ?_;refine h.gn O ?_;refine h.aB O O λw h=>?_;refine h.gn O ?_;exact hK n bi pl ps so w om om om om om om hps h.sub
 exact loop n 0 z0 [] w om O (λp hp=>by cases hp) h
end
namespace Mc
section
variable{B:S}{w0 w:W}{R L L' R':J aG}{M b nc:S}{room:U}{l:J dM}{line:J U}{bx:J (J cD)}{N g p rb:S}{m:cV}{x:LZ}{fs:Sl}{Y1 Y2:aG}{c:uu}{ald:J Rc}{n:U}{s:Sl}{xs:J Rc}{y:Rc}{a:qf}{k:ai}{d:Told}{pr:Sl}
def xr:uu:=⟨[],0,0,tZ⟩
def eU(k:ai)(nc:S)(prog:J Call)(room:U):cV:=⟨k,[],SB nc [],SB nc xr,room,prog⟩
theorem wH{c bits lines:S}{prios:J U}{prog:J Call}{room:U}(h1:1<=c)(h8:c<=8)(hb:4<=bits/\bits<=20)(hl:lines<=8)(hp:prios.length=c)(hps:∀p∈prios,0<=p/\p<256)(r1:1<=room)(r8:room<=8):
  dn c 1 0 (eU (ai.fQ c bits lines prios) c prog room):=by
 have hk:=(JJ h8 hb hl hp hps).1;refine⟨h1,h8,by simp[eU],by simp[eU],r1,r8,λx hx=>?_,λx hx=>?_,λx hx=>?_,λx hx=>?_,List.nodup_nil,λx hx=>(by cases hx),hk.ok,?_⟩
 .rw[U6 hx];show((0:S):U)<=room;omega
 .rw[U6 hx];exact λhh=>qk O hh
 .rw[U6 hx];exact SA _
 .rw[U6 hx];exact Nat.zero_le _
 .show kC (ai.fQ c bits lines prios).af<=0
  rw[hk.sp];exact SA _
theorem wR{xs:J Call}{K:Sl->Pw}[ale:bG s L Call aN xs](h:Ow B w0 w L)(hbig:xs.length<=1000000)(hK:∀s' w',Ow B w0 w' (ag aN s' xs::L)->K s' w'):Zg s K w:=by
 apply afo;exact ng (s:=s) (E:=aN) (xs:=xs) (zv:= .agg ⟨aN.enc ⟨0,0,0,0,0,0⟩⟩) akz (show qh.info? 36=X aj5 from by kernel_rfl) qa qa O qb h (by
  have e:aj5.bytes=48:=qa
  rw[e];omega) hK
theorem zL{ys:J Cm}{y:Cm}{c:S}{k:Sl->Pw}[ale:bG s L Cm cE ys][ak8:eL (ag cE s ys) L R](h:Ow B w0 w (ae c (cE.enc y)::L))(hbig:ys.length<=1000000)
  (hk:∀s' w',s'.len=ys.length+1->Ow B w0 w' (ag cE s' (ys++ [y])::R)->k s' w'):
  ∃s' w',dO qh [186,186] 186 s.v (.slice (X c.p) 1 1) w s' w'/\k s' w':=
 Ow.eZ (E:=cE) (y:=y) underlying186 (show qh.info? 197=X ak4 from by kernel_rfl) (zv:= .agg #[.pointer Q,.z 0,.z 0,.z 0,.y 0,.z 0,.slice Q 0 0]) qa qa O qb h (by
  have e:ak4.bytes=72:=qa
  rw[e];omega) hk
theorem jF{c bits lines:S}{prios:J U}{prog:J Call}{room:U}{s5:Sl}{K:qg qf->U->Pw}[ale:bG s L U ax prios][I5:bG s5 L Call aN prog]
  (h1:1<=c) (h8:c<=8) (hb:4<=bits/\bits<=20) (hl:lines<=8) (hp:prios.length=c) (hps:∀p∈prios,0<=p/\p<256) (r1:1<=room) (r8:room<=8) (hpl:prog.length<=1000000) (h:Ow B w0 w L)
  (hK:∀pr b w',Ow B w0 w' (bX pr b (eU (ai.fQ c bits lines prios) c prog room)::L)->K b.o 0 w'):W9 (c:U) (bits:U) (lines:U) s s5 room K w:=by
 apply adE;have hr:ai.ij (c:U) (bits:U) (lines:U) prios=true:=qp ⟨om,om,om,om,om,om,om,hps⟩;refine h.a λab w1 h=>?_;refine h.gn (x3:=s) O ?_;refine zF (s:=s) (prios:=prios) h om (λe=>by rw[hr]at e;cases e) λ_ kb w h=>?_;rw[show(c:U).toNat=c from SD c,show(bits:U).toNat=bits from SD bits,show(lines:U).toNat=lines from SD lines]at h;generalize ai.fQ c bits lines prios=k at h hK;refine fh O ?_;refine wR (s:=s5) (xs:=prog) h hpl λs6 w h=>?_;refine h.a λmb w2 h=>?_;refine h.l1 O ?_;refine ma h1 h8 h λlb w h=>⟨_,O,?_⟩
 refine h.fD O O λw h=>?_;refine h.l1 O ?_;refine s0 h1 h8 h λbb w h=>⟨_,O,?_⟩
 refine h.fD O O λw h=>?_;refine h.l1 O ?_;intro l hl31;have loop:∀(d j:S)(cs:Sl)(ps:J S)(xs:J (uu × Sl))(w:W),j+d=c->xs=SB j (xr,z0)->
   Ow B w0 w (ae mb [.q kb,.q lb,.q bb,cs.v,s6.v]::ag cE cs (gV ps xs)::aq (cM room) ps xs::cU bb (SB c [])::bo lb c []::ag aN s6 prog::ao kb k::L)->l (j:U) w:=by
  intro d;induction d with
  |zero=>
   intro j cs ps xs w hj hx h;have ej:j=c:=om
   subst ej;apply hl31;refine av om ?_;refine hK s6 mb w (lh ⟨kb,lb,bb,cs,s6,ps,xs⟩ ⟨by rw[hx];simp[eU],rfl⟩ ?_);have e:(eU k j prog room).cs.length=j:=by simp[eU]
   rw[e];have h2:Ow B w0 w (ae mb [.q kb,.q lb,.q bb,cs.v,s6.v]::ao kb k::bo lb j []::cU bb (SB j [])::ag cE cs (gV ps xs)::aq (cM room) ps xs::ag aN s6 prog::L):=h.sub;exact h2
  |succ d ih=>
   intro j cs ps xs w hj hx h;have hpl2:ps.length=xs.length:=Ow.cz (h.pick (A:=aq (cM room) ps xs));have hxl:xs.length=j:=by rw[hx,Uw]
   apply hl31;refine az om ?_;refine Cn r1 om h λtb w h=>?_;refine fh O ⟨_,O,cs,h.aA O,?_⟩;refine h.a λec w3 h=>?_;have h:Ow B w0 w3 (ae ec (cE.enc (cm tb (xr,z0)))::_):=h;refine zL (s:=cs) (ys:=gV ps xs) h (by rw[Uu];omega) λs' w hs' h=>⟨_,O,?_⟩
   refine h.fD O O λw h=>?_;rw[wI j om];refine ih (j+1) s' (ps++ [tb]) (xs++ [(xr,z0)]) w om (by rw[hx,U7]) ?_;have ez:gV (ps++ [tb]) (xs++ [(xr,z0)])=gV ps xs++ [cm tb (xr,z0)]:=by show SC cm _ _=_;rw[Vn hpl2];rfl
   rw[ez];have h2:Ow B w0 w (bu tb room []::ag au z0 []::aq (cM room) ps xs::ae mb [.q kb,.q lb,.q bb,s'.v,s6.v]::ag cE s' (gV ps xs++ [cm tb (xr,z0)])::cU bb (SB c [])::bo lb c []::ag aN s6 prog::ao kb k::L):=Ow.cC (Ow.cB (h.sub));have h3:Ow B w0 w (cM room tb (xr,z0)::aq (cM room) ps xs::_):=Ow.aR (M:=[bu tb room [],ag au z0 []]) h2;exact(h3.ll).sub
 have h2:Ow B w0 w (aq (cM room) [] []::ag cE z0 []::_):=Ow.ic O (Ow.cB h);have h3:Ow B w0 w (ae mb [.q kb,.q lb,.q bb,.slice Q 0 0,s6.v]::ag cE z0 []::aq (cM room) [] []::cU bb (SB c [])::bo lb c []::ag aN s6 prog::ao kb k::L):=h2.sub;refine loop c 0 z0 [] [] w om O h3
theorem uv{K:U->I->Pw}(hm:dn nc N g m)(h:Ow B w0 w (bX pr b m::R))
  (hK:K (if 0<=n/\n<(nc:U)then(m.aj n).bH else 0) (qe (0<=n/\n<(nc:U))) w):Zo b.o n K w:=by
 apply afa;refine Gy hm h ?_;by_cases e:0<=n/\n<(nc:U)
 .rw[Z e,qp e]at hK
  rw[qp e];refine aV O ?_;obtain⟨x,p,fs,ala,hZ,hzl,h,back⟩:=focus hm e.1 e.2 h;exact⟨_,O,x.cs,h.aA O,xq (s:=x.cs) h e.1 hZ λa ha hc0 hc=>⟨_,hc 1 _ O,hK⟩⟩
 .rw[Y e,ql e]at hK
  rw[ql e];exact aW O hK
theorem wZ{K:Sl->Pw}(hm:dn nc N g m)(h:Ow B w0 w (bX pr b m::R))
  (hK:∀s w',Ow B w0 w' (ag au s (if 0<=n/\n<(nc:U)then(m.aj n).tl else [])::bX pr b m::R)->K s w'):Zz b.o n K w:=by
 apply afc;refine Gy hm h ?_;by_cases e:0<=n/\n<(nc:U)
 .rw[Z e]at hK
  rw[qp e];refine aV O ?_;obtain⟨x,p,fs,ala,hZ,hzl,h,back⟩:=focus hm e.1 e.2 h;obtain⟨hc1,hc2⟩:=hm.Gm e.1 e.2;have htl:=hm.tl _ hc2;have hr8:=hm.r8;refine⟨_,O,x.cs,h.aA O,xq (s:=x.cs) h e.1 hZ λa ha hc0 hc=>⟨_,hc0 _ O,?_⟩⟩
  refine yF (b:=p) (l:=(m.aj n).tl) (room:=m.room) om (h.pick (A:=bu p m.room (m.aj n).tl)) λs w h=>?_;have h:Ow B w0 w (OL b nc x p fs ala m (m.aj n) (gV x.ps x.xs) (ag au s (m.aj n).tl::R)):=h.sub;exact hK s w (Ow.cC (back (ag au s (m.aj n).tl::R) m (m.aj n) fs w (mm hc1).symm O O (by rw[mm hZ];exact h)))
 .rw[Y e]at hK
  rw[ql e];exact aW O (hK z0 w (Ow.cB h))
theorem zG{K:U->Pw}(hm:dn nc N g m)(h:Ow B w0 w (bX pr b m::R))(hK:∀w',Ow B w0 w' (bX pr b m::R)->K (gk m.bx n) w'):ZC b.o n K w:=by
 apply afe;obtain⟨x,hx,h⟩:=xI h;refine⟨_,O,h.l2 O (rF (bx:=m.bx) (by have:=hm.bx;have:=hm.n8;omega) hm.EK (h.pick (A:=cU x.b m.bx)) λw h=>?_)⟩;exact hK w (lh x hx h.sub)
theorem uw{K:Sl->Pw}(hm:dn nc N g m)(h:Ow B w0 w (bX pr b m::R))(hK:∀s w',Ow B w0 w' (ag ax s m.line::bX pr b m::R)->K s w'):ZA b.o K w:=by
 apply afd;obtain⟨x,hx,h⟩:=xI h;refine⟨_,O,h.l2 O (pf (by have:=hm.cs;have:=hm.n8;omega) (h.pick (A:=bo x.l m.cs.length m.line)) λs w h=>?_)⟩;have h2:Ow B w0 w (ae b (cX x)::ao x.k m.k::bo x.l m.cs.length m.line::cU x.b m.bx::ag cE x.cs (gV x.ps x.xs)::aq (cM m.room) x.ps x.xs::ag aN x.pr m.prog::ag ax s m.line::R):=h.sub;exact hK s w (Ow.cC (lh x hx h2))
theorem mX{K:Sl->Pw}(hm:dn nc N g m)(h:Ow B w0 w (bX pr b m::R))(hK:∀s w',Ow B w0 w' (ag Sl.eM s (fS m.k.H)::bX pr b m::R)->K s w'):V8 b.o K w:=by
 apply ae4;obtain⟨x,hx,h⟩:=xI h;refine⟨_,O,h.l1 O (Hh hm.k (h.pick (A:=ao x.k m.k)) λs w h=>?_)⟩;have h2:Ow B w0 w (ae b (cX x)::ao x.k m.k::bo x.l m.cs.length m.line::cU x.b m.bx::ag cE x.cs (gV x.ps x.xs)::aq (cM m.room) x.ps x.xs::ag aN x.pr m.prog::ag Sl.eM s (fS m.k.H)::R):=h.sub;exact hK s w (Ow.cC (lh x hx h2))
theorem lO{K:Sl->Pw}(h:Ow B w0 w (bX pr b m::R))(hK:∀s w',Ow B w0 w' (ag Tb.aP s (m.k.fo n)::bX pr b m::R)->K s w'):VX b.o n K w:=by
 apply ae5;obtain⟨x,hx,h⟩:=xI h;refine⟨_,O,h.l1 O (kJ (h.pick (A:=ao x.k m.k)) λs w h=>?_)⟩;have h2:Ow B w0 w (ae b (cX x)::ao x.k m.k::bo x.l m.cs.length m.line::cU x.b m.bx::ag cE x.cs (gV x.ps x.xs)::aq (cM m.room) x.ps x.xs::ag aN x.pr m.prog::ag Tb.aP s (m.k.fo n)::R):=h.sub;exact hK s w (Ow.cC (lh x hx h2))
theorem zQ{s5:Sl}{calls:J Call}{cb:S}{k:Sl->Pw}(hi5:Jd aN w0 s5 calls)(h:Ow w0.heap.size w0 w (ae cb []::R))
  (hk:∀s' w',Ow w0.heap.size w0 w' (ag aN s' (calls.take 40)::R)->k s' w'):
  ∃s' w',dO qh [61,61] 61 (.slice (X cb.p) 0 0) (.slice (mn s5.a 0 s5.cap 6) ((zl (s5.len:U) 40).toNat-0) (s5.cap-0)) w s' w'/\k s' w':=by
 have hlen:=hi5.len;have e:(zl (s5.len:U) 40).toNat=min calls.length 40:=by unfold zl;omega
 rw[e];have h2:Ow w0.heap.size w0 w (ag aN ⟨X cb.p,0,0⟩ []::R):=Ow.empty h;have eb:aj5.bytes=48:=qa
 refine Ow.Qk (E:=aN) (s:=⟨X cb.p,0,0⟩) (xs:=[]) (ys:=calls) (n:=min calls.length 40) akz (show qh.info? 36=X aj5 from by kernel_rfl) (zv:= .agg ⟨aN.enc ⟨0,0,0,0,0,0⟩⟩) qa qa O qb hi5 om h2 0 O (by rw[eb];simp only[TU];omega) λs' w' _ h=>?_;have et:calls.take (min calls.length 40)=calls.take 40:=by
  by_cases hl:calls.length<=40
  .rw[SE om,SE hl]
  .rw[show min calls.length 40=40 from by omega]
 rw[et]at h;exact hk s' w' h
theorem Jr{c bits lines rm:U}{prios:J U}{calls:J Call}{s s5:Sl}{K:U->U->U->Sl->Sl->U->Pw}(hi:Jd ax w0 s prios)(hi5:Jd aN w0 s5 calls)(h:Ow w0.heap.size w0 w R)
  (hK:∀(n bi li:S)(ps:J U)(room:U)s' s5' w',1<=n->n<=3->6<=bi->bi<=12->li<=3->ps.length=n->(∀p∈ps,0<=p/\p<256)->1<=room->room<=8->
   Ow w0.heap.size w0 w' (ag aN s5' (calls.take 40)::ag ax s' ps::R)->K (n:U) (bi:U) (li:U) s' s5' room w'):Ys c bits lines s s5 rm K w:=by
 apply aiP;obtain⟨pr,hpr,er⟩:=Sl.zK rm 7 qb;have er:fE .i64 rm 7=(pr:U):=er;have ew:qj.wrap (1+(pr:U))=1+(pr:U):=wr om om;have hlen:=hi5.len;have hcap:=hi5.cap;refine h.a λab w1 h=>?_;refine h.a λrb w2 h=>?_;refine h.dr λw h=>?_;refine h.gn (x3:=s) O ?_;refine⟨s5,h.aA O,s5,h.aA O,⟨by unfold zl;omega,by unfold zl;omega,rm,h.aA O,?_,?_,trivial⟩⟩
 .refine xe hi h λn bi li ps s' w n1 n3 b6 b12 l3 hpn hps h=>⟨h.aA O,h.aA O,h.aA O,Go.Vc.a2 ?_⟩
  refine h.al λw3 h=>Go.Vc.a2 ?_;generalize w.heap.size=cb at h|-;refine zQ hi5 h λs5' w h=>⟨h.aA O,Go.Vc.a2 ?_⟩
  rw[er,ew];refine h.aB O O λw h=>?_;refine h.eE (x3:=s') (x4:=s5') O ?_;exact hK n bi li ps _ s' s5' w n1 n3 b6 b12 l3 hpn hps om om h.sub
 .refine h.al λw3 h=>Go.Vc.a2 ?_
  generalize w.heap.size=cb at h|-;refine xe hi h λn bi li ps s' w n1 n3 b6 b12 l3 hpn hps h=>⟨h.aA O,h.aA O,h.aA O,Go.Vc.a2 ?_⟩
  refine zQ hi5 (h.pick (A:=ae cb [])) λs5' w h=>⟨h.aA O,Go.Vc.a2 ?_⟩
  rw[er,ew];refine h.aB O O λw h=>?_;refine h.eE (x3:=s') (x4:=s5') O ?_;exact hK n bi li ps _ s' s5' w n1 n3 b6 b12 l3 hpn hps om om h.sub
theorem CA{K:U->U->U->Sl->Pw}(h:Ow B w0 w R)(hK:∀s w',Ow B w0 w' (ag ax s [5]::R)->K 1 10 2 s w'):Zf K w:=by
 apply aiN;refine h.a λab w1 h=>?_;refine h.a λpb w2 h=>?_;refine h.aB O O λw h=>?_;refine h.gn (x3:=(⟨X pb.p,1,1⟩:Sl)) O ?_;have h2:Ow B w0 w (ag ax ⟨X pb.p,1,1⟩ [5]::_):=Ow.CO (h.pick (A:=ae pb [.z 5])) [5] O;exact hK _ w h2.sub
theorem L6{c bits lines:S}{prios:J U}{room:U}{s:Sl}{K:qg qf->U->Pw}[ale:bG s L U ax prios]
  (h1:1<=c) (h8:c<=8) (hb:4<=bits/\bits<=20) (hl:lines<=8) (hp:prios.length=c) (hps:∀p∈prios,0<=p/\p<256) (r1:room<1) (h:Ow B w0 w L)
  (hK:∀w',Ow B w0 w' L->K Q 1 w'):W9 (c:U) (bits:U) (lines:U) s z0 room K w:=by
 apply adE;have hr:ai.ij (c:U) (bits:U) (lines:U) prios=true:=qp ⟨om,om,om,om,om,om,om,hps⟩;refine h.a λab w1 h=>?_;refine h.gn (x3:=s) O ?_;refine zF (s:=s) (prios:=prios) h om (λe=>by rw[hr]at e;cases e) λ_ kb w h=>?_;refine fh O ?_;have h:Ow B w0 w (ag aN z0 []::_):=Ow.cB h;refine wR (s:=z0) (xs:=[]) h qc λs6 w h=>?_;refine h.a λmb w2 h=>?_;refine h.l1 O ?_;refine ma h1 h8 h λlb w h=>⟨_,O,?_⟩
 refine h.fD O O λw h=>?_;refine h.l1 O ?_;refine s0 h1 h8 h λbb w h=>⟨_,O,?_⟩
 refine h.fD O O λw h=>?_;refine h.l1 O ?_;intro l hl31;apply hl31;refine az om ?_;apply adH;intro k hk;refine az om ?_;apply hk;refine aW O ?_;refine iw qb ?_;exact hK w h.sub
def Nz:cV:=eU (ai.fQ 1 10 2 [5]) 1 [⟨0,1,20,6,0,1⟩] 4
def L0:cV:=(Nz.item ⟨1,0,0,0⟩).2
def Mq:cV:=(L0.item ⟨0,0,0,0⟩).2
def N3:cV:=(Mq.item ⟨0,0,0,0⟩).2
def NA:cV:=(N3.item ⟨3,0,0,0⟩).2
def NB:cV:=(NA.item ⟨0,0,0,0⟩).2
def Mr:cV:=(NB.item ⟨3,0,0,0⟩).2
def N4:cV:=(Mr.item ⟨1,0,5,1⟩).2
def P5:cV:=(N4.item ⟨0,1,0,0⟩).2
theorem Si:(Nz.item ⟨1,0,0,0⟩).1.isSome=false:=qa
theorem Sj:(L0.aj 0).bH=1:=qa
theorem Ri:((L0.item ⟨0,0,0,0⟩).1.getD eD).kind=0/\(L0.item ⟨0,0,0,0⟩).1.isSome=true:=⟨qa,qa⟩
theorem Qp:((Mq.item ⟨0,0,0,0⟩).1.getD eD).kind=1/\((Mq.item ⟨0,0,0,0⟩).1.getD eD).t.e=0/\(Mq.item ⟨0,0,0,0⟩).1.isSome=true:=⟨qa,qa,qa⟩
theorem Sk:(N3.item ⟨3,0,0,0⟩).1.isSome=false:=qa
theorem Rj:((NA.item ⟨0,0,0,0⟩).1.getD eD).kind=2/\(NA.item ⟨0,0,0,0⟩).1.isSome=true:=⟨qa,qa⟩
theorem Rk:((NB.item ⟨3,0,0,0⟩).1.getD eD).is=G/\(NB.item ⟨3,0,0,0⟩).1.isSome=true:=⟨qa,qa⟩
theorem Qq:((Mr.item ⟨1,0,5,1⟩).1.getD eD).kind=3/\((Mr.item ⟨1,0,5,1⟩).1.getD eD).is=qd/\(Mr.item ⟨1,0,5,1⟩).1.isSome=true:=⟨qa,qa,qa⟩
theorem Sm:(N4.item ⟨0,1,0,0⟩).1.isSome=false:=qa
theorem Sn:(fS P5.k.H).length=7:=qa
theorem vE:ux [⟨0,1,20,6,0,1⟩]:=λc hc=>by rw[Tf.1 hc];exact⟨qb,qb⟩
theorem Q0:ux Nz.prog:=by rw[show Nz.prog= [⟨0,1,20,6,0,1⟩]from by kernel_rfl];exact vE
theorem Q1:ux L0.prog:=by rw[show L0.prog= [⟨0,1,20,6,0,1⟩]from by kernel_rfl];exact vE
theorem Q2:ux Mq.prog:=by rw[show Mq.prog= [⟨0,1,20,6,0,1⟩]from by kernel_rfl];exact vE
theorem Q3:ux N3.prog:=by rw[show N3.prog= [⟨0,1,20,6,0,1⟩]from by kernel_rfl];exact vE
theorem Q4:ux NA.prog:=by rw[show NA.prog= [⟨0,1,20,6,0,1⟩]from by kernel_rfl];exact vE
theorem Q5:ux NB.prog:=by rw[show NB.prog= [⟨0,1,20,6,0,1⟩]from by kernel_rfl];exact vE
theorem Q6:ux Mr.prog:=by rw[show Mr.prog= [⟨0,1,20,6,0,1⟩]from by kernel_rfl];exact vE
theorem Q7:ux N4.prog:=by rw[show N4.prog= [⟨0,1,20,6,0,1⟩]from by kernel_rfl];exact vE
theorem OZ:dn 1 1 0 Nz:=wH qb qb qb qb O (λp hp=>by rw[Tf.1 hp];decide) qb qb
theorem Cs:dn 1 65 1 L0:=(OZ.item qb ⟨1,0,0,0⟩).1
theorem Gv:dn 1 129 2 Mq:=(Cs.item qb ⟨0,0,0,0⟩).1
theorem R5:dn 1 193 3 N3:=(Gv.item qb ⟨0,0,0,0⟩).1
theorem R6:dn 1 257 4 NA:=(R5.item qb ⟨3,0,0,0⟩).1
theorem R7:dn 1 321 5 NB:=(R6.item qb ⟨0,0,0,0⟩).1
theorem R8:dn 1 385 6 Mr:=(R7.item qb ⟨3,0,0,0⟩).1
theorem R9:dn 1 449 7 N4:=(R8.item qb ⟨1,0,5,1⟩).1
theorem Sp:dn 1 513 8 P5:=(R9.item qb ⟨0,1,0,0⟩).1
theorem Bq{K:I->Pw}(h:Ow B w0 w R)(hK:∀w',Ow B w0 w' R->K G w'):Yu K w:=by
 apply aiQ;refine CA h λs w h=>?_;refine h.a λpb w1 h=>?_;have h:Ow B w0 w1 (ag aN ⟨X pb.p,1,1⟩ [⟨0,1,20,6,0,1⟩]::ag ax s [5]::R):=Ow.CO (E:=aN) h ([⟨0,1,20,6,0,1⟩]:J Call) O;refine jF (c:=1) (bits:=10) (lines:=2) (prios:=[5]) (prog:=[⟨0,1,20,6,0,1⟩]) (room:=4) (s:=s) (s5:=⟨X pb.p,1,1⟩) qb qb qb qb O (λp hp=>by rw[Tf.1 hp];decide) qb qb qb h λpr b w h=>?_;have h:Ow B w0 w (bX pr b Nz::R):=Ow.sub (show Ow B w0 w (bX pr b Nz::ag aN ⟨X pb.p,1,1⟩ [⟨0,1,20,6,0,1⟩]::ag ax s [5]::R)from h);intro k hk;refine aV O ?_;apply hk;refine fh O ?_;refine fx (it:=⟨1,0,0,0⟩) OZ qb qb Q0 (h.pick (A:=bX pr b Nz)) λfs w h=>?_;have h:Ow B w0 w (ag au fs _::bX pr b L0::_):=h;have h:=h.drop;unfold kg;refine h.a λc0 w2 h=>?_;refine h.aB O O λw h=>?_;refine uv (n:=0) Cs (h.pick (A:=bX pr b L0)) ?_;refine fx (it:=⟨0,0,0,0⟩) Cs qb qb Q1 (h.pick (A:=bX pr b L0)) λfs w h=>?_;have h:Ow B w0 w (ag au fs _::bX pr b Mq::_):=h;have h:=h.drop;unfold kg;refine h.a λc1 w2 h=>?_;refine h.aB O O λw h=>?_;refine fx (it:=⟨0,0,0,0⟩) Gv qb qb Q2 (h.pick (A:=bX pr b Mq)) λfs w h=>?_;have h:Ow B w0 w (ag au fs _::bX pr b N3::_):=h;have h:=h.drop;unfold kg;refine h.a λc2 w2 h=>?_;refine h.aB O O λw h=>?_;refine fx (it:=⟨3,0,0,0⟩) R5 qb qb Q3 (h.pick (A:=bX pr b N3)) λfs w h=>?_;have h:Ow B w0 w (ag au fs _::bX pr b NA::_):=h;have h:=h.drop;unfold kg;refine h.a λc3 w2 h=>?_;refine h.aB O O λw h=>?_;refine fx (it:=⟨0,0,0,0⟩) R6 qb qb Q4 (h.pick (A:=bX pr b NA)) λfs w h=>?_;have h:Ow B w0 w (ag au fs _::bX pr b NB::_):=h;have h:=h.drop;unfold kg;refine h.a λc4 w2 h=>?_;refine h.aB O O λw h=>?_;refine fx (it:=⟨3,0,0,0⟩) R7 qb qb Q5 (h.pick (A:=bX pr b NB)) λfs w h=>?_;have h:Ow B w0 w (ag au fs _::bX pr b Mr::_):=h;have h:=h.drop;unfold kg;refine h.a λc5 w2 h=>?_;refine h.aB O O λw h=>?_;refine fx (it:=⟨1,0,5,1⟩) R8 qb qb Q6 (h.pick (A:=bX pr b Mr)) λfs w h=>?_;have h:Ow B w0 w (ag au fs _::bX pr b N4::_):=h;have h:=h.drop;unfold kg;refine h.a λc6 w2 h=>?_;refine h.aB O O λw h=>?_;refine fx (it:=⟨0,1,0,0⟩) R9 qb qb Q7 (h.pick (A:=bX pr b N4)) λfs w h=>?_;have h:Ow B w0 w (ag au fs _::bX pr b P5::_):=h;have h:=h.drop;unfold kg;refine h.a λc7 w2 h=>?_;refine h.aB O O λw h=>?_;refine CA h λs w h=>?_;refine L6 (c:=1) (bits:=10) (lines:=2) (prios:=[5]) (room:=0) (s:=s) qb qb qb qb O (λp hp=>by rw[Tf.1 hp];decide) qb h λw h=>?_;refine aW (by rw[Si];rfl) ?_;refine gC (by rw[Z qb];exact Sj) ?_;refine aW O ?_;refine⟨_,h.aE O,gC Ri.1 (aW Ri.2 ⟨_,h.aE O,gC Qp.1 ⟨_,h.aA O,gC Qp.2.1 (aW Qp.2.2 (aW (by rw[Sk];rfl) ?_))⟩⟩)⟩;refine⟨_,h.aE O,gC Rj.1 (aW Rj.2 ⟨_,h.aA O,aW Rk.1 (aW Rk.2 ⟨_,h.aE O,gC Qq.1 ⟨_,h.aA O,aW (by rw[Qq.2.1];rfl) (aW Qq.2.2 ?_)⟩⟩)⟩)⟩;refine aW (by rw[Sm];rfl) ?_;refine gC O ?_;refine mX Sp (h.pick (A:=bX pr b P5)) λs2 w h=>?_;have hl:=h.aF s2;rw[Sn]at hl;rw[show((s2.len:U)==7)=G from by rw[hl];rfl];exact hK w h.sub
def Gz:dX Item:=⟨4,λo=>[.z o.kind,.z o.core,.z o.a,.z o.b],λ_=>rfl,λx v h=>by simp only[SH,TE,qG]at h;rcases h with rfl|rfl|rfl|rfl<;>rfl,qb⟩
theorem E7{w:W}{a:qf}{x:Item}{f:U->U->U->U->Prop}(g:∀c v,(Gz.enc x)[c]?=X v->w.cell? (a.add c)=X v)(hf:f x.kind x.core x.a x.b):
  hI w a 0 [.o,.o,.o,.o] f:=⟨_,g 0 _ O,_,g 1 _ O,_,g 2 _ O,_,g 3 _ O,hf⟩
def xn(c:Call):Prop:=(Lit.int .i64 c.ay).wf=G
def De(_:Item):Prop:=qu
theorem Rf{x:U}(h:(Lit.int .i64 x).wf=G): -9223372036854775808<=x/\x<9223372036854775808:=by have h1:(qe (qj.min<=x)&&qe (x<=qj.max))=true:=h;rw[show qj.min= -9223372036854775808 from O,show qj.max=9223372036854775807 from O]at h1;simp only[Bool.and_eq_true,qF]at h1;omega
theorem MS{calls:J Call}(h:∀c∈calls,xn c):ux (calls.take 40):=λc hc=>Rf (h c (List.mem_of_mem_take hc))
theorem IT(n:U):(m.step n).2.prog=m.prog:=by
 unfold cV.step;split
 .rfl
 split
 .rfl
 split
 .split
  .show (cV.lY n _ _).prog=m.prog
   have:∀(l:J dM)(m:cV),(cV.lY n l m).prog=m.prog:=λl=>by
    induction l with
    |nil=>exact λ_=>rfl
    |cons x l ih=>exact λm=>ih _
   exact this _ _
  .rfl
 split
 .rfl
 .rfl
theorem I4(x:Item):(m.user x).2.prog=m.prog:=by
 unfold cV.user;split
 .rfl
 split
 .rfl
 split<;>rfl
theorem uG(x:Item):(m.item x).2.prog=m.prog:=by
 unfold cV.item;split
 .rfl
 split
 .exact I4 x
 split
 .exact IT _
 split
 .rfl
 split<;>rfl
def JN(m:cV)(n:U):Call:=(m.prog[n.toNat]?).getD ⟨0,0,0,0,0,0⟩
def Ik(m:cV)(r:qg Seen × cV):Prop:=match r.1 with
 |none=>r.2.k=m.k
 |some s=>(s.kind=1/\(0<=s.n/\s.n<(m.prog.length:U))/\r.2.k=(m.k.do s.core (JN m s.n)).2/\s.t=(m.k.do s.core (JN m s.n)).1)
  \/(s.kind=4/\r.2.k=(m.k.irq s.n).2.2/\s.t=⟨(m.k.irq s.n).1,0,(m.k.irq s.n).2.1,[]⟩)
  \/(s.kind=5/\r.2.k=m.k.tick s.core/\s.is=(m.k.t.cj s.core).isSome)
  \/((s.kind≠1/\s.kind≠4/\s.kind≠5)/\r.2.k=m.k)
theorem G3(n:U):∀(l:J dM)(m:cV),(cV.lY n l m).k=m.k
 | [],_=>rfl
 |_::l,_=>(G3 n l _).trans O
theorem Ik.item(h:dn nc N g m)(x:Item):Ik m (m.item x):=by
 have three:∀(s:Seen)(m':cV),(s.kind≠1/\s.kind≠4/\s.kind≠5)->m'.k=m.k->Ik m (X s,m'):=λs m' h1 h2=> .inr (.inr (.inr ⟨h1,h2⟩));unfold cV.item;split
 .exact (rfl:m.k=m.k)
 rename_i hr;obtain⟨_,_,c0,c1,_⟩:=rn.1 (show fN x m.cs.length=G from by
  cases e:fN x m.cs.length with
  |true=>rfl
  |false=>exact qk e hr)
 have hcs:=h.cs;split
 .unfold cV.user
  split
  .exact (rfl:m.k=m.k)
  split
  .exact three _ _ ⟨by show(3:U)≠1;decide,by show(3:U)≠4;decide,by show(3:U)≠5;decide⟩ O
  split
  .exact (rfl:m.k=m.k)
  .exact (rfl:m.k=m.k)
 split
 .unfold cV.step
  split
  .exact (rfl:m.k=m.k)
  split
  .exact three _ _ ⟨by show(0:U)≠1;decide,by show(0:U)≠4;decide,by show(0:U)≠5;decide⟩ O
  split
  .rename_i hd
   split
   .refine .inl ⟨O,h.nr _ (h.Gm c0 om).2 (by rw[hd];decide),?_,rfl⟩
    show(cV.lY _ _ _).k=_;rw[G3];rfl
   .exact (rfl:m.k=m.k)
  split
  .exact three _ _ ⟨by show(2:U)≠1;decide,by show(2:U)≠4;decide,by show(2:U)≠5;decide⟩ O
  .exact (rfl:m.k=m.k)
 split
 .exact (rfl:m.k=m.k)
 split
 .exact .inr (.inl ⟨O,O,O⟩)
 .exact .inr (.inr (.inl ⟨O,O,O⟩))
def Cr(k:ai):Prop:=∃m,k.af[0]?=X m
theorem Cr.do{k:ai}(hk:bD N k)(h:Cr k)(core:U)(c:Call):Cr (k.do core c).2:=by obtain⟨m,h⟩:=h;obtain⟨m',h',_⟩:=(Gq hk core c).2 0 m h;exact⟨m',h'⟩
theorem Mi(n bi li:S)(ps:J U):Cr (ai.fQ n bi li ps):=⟨Tb.js,by
 have l1:∀(q j i:S)(k:ai),(ai.vq q j i k).af=k.af:=λq=>by
  induction q with
  |zero=>intros;rfl
  |succ q ih=>intro j i k;exact(ih (j+1) i _).trans O
 have l2:∀(ps:J U)(j:S)(k:ai),(ai.oJ ps j k).af=k.af:=λps=>by
  induction ps with
  |nil=>intros;rfl
  |cons p ps ih=>intro j k;exact(ih (j+1) _).trans O
 unfold ai.fQ;rw[l1];show(ai.oJ ps 0 _).af[0]?=_;rw[l2];rfl⟩
theorem Ao(k:U):∀P:Tb.gh,Tb.look P k=(P.find? λx=>x.1==k).map (·.2)
 | []=>rfl
 |x::P=>by
  unfold Tb.look;by_cases e:x.1=k
  .rw[Z e,Wf,show(x.1==k)=G from by simpa using e];rfl
  .rw[Y e,Wf,show(x.1==k)=qd from by simpa using e];exact Ao k P
theorem tN{alc:qf->Prop}[ale:bG s L Rc iB xs](h:Ow B w0 w L)(h0:0<=n)(hy:xs[n.toNat]?=X y)
  (hG:∀a,s.a=X a->(∀v,(iB.enc y)[0]?=X v->w.cell? (a.add (n.toNat*6))=X v)->(∀c v,(iB.enc y)[c]?=X v->w.cell? ((a.add (n.toNat*6)).add c)=X v)->alc a):
  ∃a,s.a=X a/\0<=n/\n<(s.len:U)/\alc a:=h.cd (s:=s) (show n=((n.toNat:S):U) by omega) hy hG
theorem GP{v:U}{k:Pw}[ale:bG s L Rc iB xs][ak8:eL (ag iB s xs) L R'](h:Ow B w0 w L)(h0:0<=n)(hy:xs[n.toNat]?=X y)(ha:s.a=X a)
  (hk:∀w',Ow B w0 w' (ag iB s (xs.set n.toNat ⟨v,y.n,y.e,y.w,y.wk,y.fs⟩)::R')->k w'):St w (a.add (n.toNat*6)) (.z v) k:=by
 show St w ((a.add (n.toNat*6)).add 0) (.z v) k;exact h.mT (s:=s) (E:=iB) (i:=n) ⟨v,y.n,y.e,y.w,y.wk,y.fs⟩ (show n=((n.toNat:S):U) by omega) hy ha O qb O hk
theorem PV{v:U}{k:Pw}[ale:bG s L Rc iB xs][ak8:eL (ag iB s xs) L R'](h:Ow B w0 w L)(h0:0<=n)(hy:xs[n.toNat]?=X y)(ha:s.a=X a)
  (hk:∀w',Ow B w0 w' (ag iB s (xs.set n.toNat ⟨y.bH,v,y.e,y.w,y.wk,y.fs⟩)::R')->k w'):St w ((a.add (n.toNat*6)).add 1) (.z v) k:=
 h.mT (s:=s) (E:=iB) (i:=n) ⟨y.bH,v,y.e,y.w,y.wk,y.fs⟩ (show n=((n.toNat:S):U) by omega) hy ha O qb O hk
theorem PW{e u wk:U}{f:Sl}{k:Pw}[ale:bG s L Rc iB xs][ak8:eL (ag iB s xs) L R'](h:Ow B w0 w L)(h0:0<=n)(hy:xs[n.toNat]?=X y)(ha:s.a=X a)
  (hk:∀w',Ow B w0 w' (ag iB s (xs.set n.toNat ⟨y.bH,y.n,e,u,wk,f⟩)::R')->k w'):oy w ((a.add (n.toNat*6)).add 2) 0 [.z e,.y u,.z wk,f.v] k:=by
 have ei:n=((n.toNat:S):U):=om
 have hlt:=(Sz.1 hy).1;show St w (((a.add (n.toNat*6)).add 2).add 0) _ _;rw[fJ];refine h.mT (s:=s) (E:=iB) (i:=n) ⟨y.bH,y.n,e,y.w,y.wk,y.fs⟩ ei hy ha O qb O λw h=>?_;show St w (((a.add (n.toNat*6)).add 2).add 1) _ _;rw[fJ];refine h.mT (s:=s) (E:=iB) (i:=n) ⟨y.bH,y.n,e,u,y.wk,y.fs⟩ ei (SQ hlt) ha O qb O λw h=>?_;show St w (((a.add (n.toNat*6)).add 2).add 2) _ _;rw[fJ];refine h.mT (s:=s) (E:=iB) (i:=n) ⟨y.bH,y.n,e,u,wk,y.fs⟩ ei (SQ (by rw[Ti];exact hlt)) ha O qb O λw h=>?_;show St w (((a.add (n.toNat*6)).add 2).add 3) _ _;rw[fJ];refine h.mT (s:=s) (E:=iB) (i:=n) ⟨y.bH,y.n,e,u,wk,f⟩ ei (SQ (by rw[Ti,Ti];exact hlt)) ha O qb O λw h=>?_;rw[Ul,Ul,Ul]at h;exact hk w h
theorem FV{aX:U}{K:U->U->I->Pw}(hz:Cr k)(h:Ow B w0 w (iz lG M rb k d::R))
  (hK:∀w',Ow B w0 w' (iz lG M rb k d::R)->K ((((k.fo 0).find? λx=>x.1==aX).map (·.2)).getD (0,0)).1 ((((k.fo 0).find? λx=>x.1==aX).map (·.2)).getD (0,0)).2 (((k.fo 0).find? λx=>x.1==aX).map (·.2)).isSome w'):
  ∃sp:Sl,w.cell? (rb.p.add 7)=X sp.v/\∃a:qf,sp.a=X a/\0<=(0:U)/\(0:U)<(sp.len:U)/\∃t:qg qf,w.cell? (a.add ((0:U).toNat*1))=X (.pointer t)/\X4 t aX K w:=by
 obtain⟨m0,hz⟩:=hz;obtain⟨x,h⟩:=mP h;have hpl:=(h.pick (A:=aq Tb.db x.ps k.af)).cz;have hlt:=(Sz.1 hz).1;have hpp:x.ps[0]?=X x.ps[0]:=gE om;generalize x.ps[0]=q at hpp;have epg:k.fo 0=m0.pg:=by unfold ai.fo;rw[tz.2 ⟨qb,om⟩,Z O];unfold ai.iR;rw[show(0:U).toNat=0 from O,hz];rfl
 rw[epg,<-Ao]at hK;refine⟨x.ss,h.aA O,dG (s:=x.ss) (i:=0) (j:=0) h O hpp λa ha hc=>⟨_,hc,?_⟩⟩;have h2:=(h.pick (A:=aq Tb.db x.ps k.af)).vF hpp hz;refine Tb.FJ h2 λw h=>hK w ?_;have h3:=Ow.cF (A:=Tb.db) hpl hpp h;rw[mm hz]at h3;have h4:Ow B w0 w (ae rb (FP x k.aU k.cP d)::Sl.a8 x.n k.bits k.H::Tr.cQ x.t k.T::Th.cp x.th k.t::dh x.ln k.ln::ag dV x.su k.u::ag bw x.se x.pe::aq eh x.pe k.ends::ag bw x.sn x.pn::aq (cq M) x.pn k.notes::ag bw x.ss x.ps::aq Tb.db x.ps k.af::lG x.sf d.forget::R):=h3.sub;exact Ow.eu x (Ow.aR h4)
theorem FR{aX:U}{K:U->U->U->U->U->U->Sl->U->U->I->Pw}(h0:0<=n)(hp:x.ps[n.toNat]?=X p)(hr:1<=m.room)(ht:c.tl.length<=1000000)(htr:(c.tl.length:U)<=m.room)(hz:Cr m.k)
  (h:Ow B w0 w (OR M b nc x p fs Y1 Y2 m c ald R))
  (hK:∀w',Ow B w0 w' (OR M b nc x p fs Y1 Y2 m { c with tl:=(m.loadT aX c.tl).2.2} ald R)->K 3 n aX 0 0 0 z0 (m.loadT aX c.tl).1.1 (m.loadT aX c.tl).1.2 (m.loadT aX c.tl).2.1 w'):aaM b.o n aX K w:=by
 apply aj0;refine h.a λd w1 h=>?_;refine⟨_,O,x.t,h.aA O,dG (s:=x.t) (i:=n) (j:=n.toNat) h om hp λa ha hc=>⟨_,hc,?_⟩⟩;refine yp (b:=p) (l:=c.tl) (room:=m.room) ht (h.pick (A:=bu p m.room c.tl)) λw h=>?_;refine h.a λe w2 h=>?_;refine h.aB O O λw h=>?_;intro k16 hk16;unfold cV.loadT at hK;cases hl:look 0 aX c.tl with
 |some q=>
  rw[hl]at h hK;refine aV O ?_;apply hk16;refine h.aM O ?_;have h:Ow B w0 w (ae d [.z 0,.z 0,.z 0,.z 0,.y 0,.z 0,.slice Q 0 0,.z 0,.z 0,.bool qd]::OR M b nc x p fs Y1 Y2 m c ald R):=h.sub;exact cO (fs:=z0) O h λw h=>hK w h
 |none=>
  rw[hl]at h hK;refine aW O ?_;refine⟨_,O,_,h.aE O,_,O,FV hz (h.pick (A:=iz lG M x.k m.k x.d)) λw h=>?_⟩;refine h.aB O O λw h=>?_;have ew:m.walk aX=((m.k.fo 0).find? λx=>x.1==aX).map (·.2):=rfl;rw[<-ew]at h|-;cases hw:m.walk aX with
  |none=>
   rw[hw]at h hK;refine aV O ?_;apply hk16;refine h.aM O ?_;have h:Ow B w0 w (ae d [.z 0,.z 0,.z 0,.z 0,.y 0,.z 0,.slice Q 0 0,.z 0,.z 0,.bool qd]::OR M b nc x p fs Y1 Y2 m c ald R):=h.sub;exact cO (fs:=z0) O h λw h=>hK w h
  |some q=>
   rw[hw]at h hK;refine aW O ?_;refine h.dr λw h=>?_;refine⟨_,O,x.t,h.aA O,dG (s:=x.t) (i:=n) (j:=n.toNat) h om hp λa ha hc=>⟨_,hc,?_⟩⟩;refine h.aM O (Go.Vc.a2 ?_);refine yo (b:=p) (x:=⟨0,aX,q.1,q.2⟩) (l:=c.tl) (room:=m.room) hr ht (h.pick (A:=bu p m.room c.tl)) (λw h=>?_) htr;apply hk16;refine h.aM O ?_;have h:Ow B w0 w (ae d [.z 0,.z 0,.z 0,.z 0,.y 0,.z 0,.slice Q 0 0,.z 0,.z 0,.bool qd]::OR M b nc x p fs Y1 Y2 m { c with tl:=fill m.room ⟨0,aX,q.1,q.2⟩ c.tl} ald R):=h.sub;exact cO (fs:=z0) O h λw h=>hK w h
theorem Iw{call:Call}{K:U->U->U->U->U->U->Sl->U->U->I->Pw}(h0:0<=n)(h1:n<(m.bx.length:U))(h8:m.bx.length<=8)(h64:∀l∈m.bx,l.length<=64)(hp:x.ps[n.toNat]?=X p)(hZ:ald[n.toNat]?=X (rc c fs))(ht:c.tl.length<=1000000)
  (hn0:0<=c.n) (hpr:m.prog[c.n.toNat]?=X call) (hk:bD N m.k) (hM:M<1000000) (hN:N+64<=100000) (hF:(m.k.do n call).1.forget.length<=1000000)
  (h:Ow B w0 w (OR M b nc x p fs Y1 Y2 m c ald R))
  (hK:∀fs' d' w',Ow B w0 w' (OR (M+1) b nc { x with d:=d'} p fs' Y1 Y2 { m with k:=(m.k.do n call).2,bx:=sendAll n (m.k.do n call).1.forget m.bx} ⟨bU (m.k.do n call).1.forget c.tl,3,c.n,(m.k.do n call).1⟩ (ald.set n.toNat (rc ⟨bU (m.k.do n call).1.forget c.tl,3,c.n,(m.k.do n call).1⟩ fs')) R)->
   K 1 n c.n (m.k.do n call).1.e (m.k.do n call).1.w (m.k.do n call).1.cv fs' 0 0 qd w'):aaR b.o n K w:=by
 apply aj1;refine h.a λd w1 h=>?_;have hlt:=(Sz.1 hZ).1;intro k4 hk4;have told:∀(tb:S)(fs':Sl)(d':Told)(w:W),Ow B w0 w (ae d [.z 0,.z 0,.z 0,.z 0,.y 0,.z 0,.slice Q 0 0,.z 0,.z 0,.bool qd]::ae tb [.z (m.k.do n call).1.e,.y (m.k.do n call).1.w,.z (m.k.do n call).1.cv,fs'.v]::ag au fs' (m.k.do n call).1.forget::ae b (uo x)::iz lG (M+1) x.k (m.k.do n call).2 d'::bY x.l nc m.line::bT x.b m.bx::ag bw x.t x.ps::ag iB x.c ald::bu p m.room c.tl::Y1::Y2::ag aN x.pr m.prog::R)->k4 tb.p w:=by
  intro tb fs' d' w h;apply hk4;clear hk4;replace hK:=hK fs' d';generalize (m.k.do n call).1=told at*
  generalize (m.k.do n call).2=k' at*
  have hflen:=h.aF fs';intro l7 hl;have loop:∀(rest pre:J dM)(w:W),told.forget=pre++rest->Ow B w0 w (ae d [.z 0,.z 0,.z 0,.z 0,.y 0,.z 0,.slice Q 0 0,.z 0,.z 0,.bool qd]::ae tb [.z told.e,.y told.w,.z told.cv,fs'.v]::ag au fs' told.forget::ae b (uo x)::iz lG (M+1) x.k k' d'::bY x.l nc m.line::bT x.b (sendAll n pre m.bx)::ag bw x.t x.ps::ag iB x.c ald::bu p m.room (bU pre c.tl)::Y1::Y2::ag aN x.pr m.prog::R)->l7 (pre.length:U) w:=by
   intro rest;induction rest with
   |nil=>
    intro pre w hpp h;rw[List.append_nil]at hpp;subst hpp;apply hl;refine⟨fs',h.aA O,av om ⟨_,O,x.c,h.aA O,tN (s:=x.c) h h0 hZ λa ha hc0 hc=>?_⟩⟩;refine GP (s:=x.c) h h0 hZ ha λw h=>?_;have hZ1:(ald.set n.toNat ⟨3,c.n,c.told.e,c.told.w,c.told.cv,fs⟩)[n.toNat]?=X ⟨3,c.n,c.told.e,c.told.w,c.told.cv,fs⟩:=SQ hlt;have h:Ow B w0 w (ag iB x.c (ald.set n.toNat ⟨3,c.n,c.told.e,c.told.w,c.told.cv,fs⟩)::_):=h;refine h.dr λw h=>⟨_,O,x.c,h.aA O,?_⟩
    refine h.gn (x3:=fs') O ?_;refine tN (s:=x.c) h h0 hZ1 λa ha hc0 hc=>⟨?_,trivial⟩
    refine PW (s:=x.c) h h0 hZ1 ha λw h=>?_;rw[Ul]at h;have hZ2:(ald.set n.toNat ⟨3,c.n,told.e,told.w,told.cv,fs'⟩)[n.toNat]?=X ⟨3,c.n,told.e,told.w,told.cv,fs'⟩:=SQ hlt;have h:Ow B w0 w (ag iB x.c (ald.set n.toNat ⟨3,c.n,told.e,told.w,told.cv,fs'⟩)::_):=h;refine h.dr λw h=>⟨_,O,x.c,h.aA O,?_⟩
    refine tN (s:=x.c) h h0 hZ2 λa ha hc0 hc=>⟨_,hc 1 _ O,?_⟩
    refine h.gn (x3:=fs') O ⟨?_,trivial⟩;have h:Ow B w0 w (ae d [.z 0,.z 0,.z 0,.z 0,.y 0,.z 0,.slice Q 0 0,.z 0,.z 0,.bool qd]::ae b (uo x)::iz lG (M+1) x.k k' d'::bY x.l nc m.line::bT x.b (sendAll n told.forget m.bx)::ag bw x.t x.ps::ag iB x.c (ald.set n.toNat ⟨3,c.n,told.e,told.w,told.cv,fs'⟩)::bu p m.room (bU told.forget c.tl)::ag au fs' told.forget::Y1::Y2::ag aN x.pr m.prog::R):=h.sub;exact cO (fs:=fs') O h λw h=>hK w h
   |cons z rest ih=>
    intro pre w hpp h;have hlen2:told.forget.length=pre.length+(rest.length+1):=by rw[hpp];simp
    have hz:told.forget[pre.length]?=X z:=by rw[hpp];simp
    have htl:=oR pre c.tl;apply hl;refine⟨fs',h.aA O,az om (h.dr λw h=>⟨_,O,x.t,h.aA O,?_⟩)⟩
    refine dG (s:=x.t) (i:=n) (j:=n.toNat) h om hp λa3 ha3 hc3=>⟨_,hc3,fs',h.aA O,?_⟩
    refine h.cd (s:=fs') O hz λa4 ha4 e0 e=>⟨_,e0 _ O,fs',h.aA O,a4,ha4,om,om,_,e 1 _ O,?_,trivial⟩
    refine lC (b:=p) (l:=bU pre c.tl) (room:=m.room) om (h.pick (A:=bu p m.room (bU pre c.tl))) λw h=>?_;refine h.dr λw h=>⟨_,O,_,h.aA O,fs',h.aA O,?_⟩
    refine h.cd (s:=fs') O hz λa4 ha4 e0 e=>⟨_,e0 _ O,fs',h.aA O,a4,ha4,om,om,_,e 1 _ O,?_,trivial⟩
    refine zp (bx:=sendAll n pre m.bx) h0 (by rw[jN];exact h1) (by rw[jN];exact h8) (sH n pre _ h64) (h.pick (A:=bT x.b (sendAll n pre m.bx))) λv2 w h=>?_;rw[show qj.wrap ((pre.length:U)+1)=(((pre++ [z]).length:S):U)from by rw[wr om om,SG];rfl];refine ih (pre++ [z]) w (by rw[hpp];simp) ?_;rw[tf,tV];have h:Ow B w0 w (bT x.b (oB n (sW z) (sendAll n pre m.bx))::_):=h;exact h.sub
  exact loop told.forget [] w O h
 clear hk4;refine h.dr λw h=>?_;refine⟨_,O,_,h.aE O,_,O,x.pr,h.aA O,_,O,x.c,h.aA O,tN (s:=x.c) h h0 hZ λa ha hc0 hc=>⟨c.n,hc 1 _ O,?_⟩⟩
 refine h.cd (s:=x.pr) (show c.n=((c.n.toNat:S):U) by omega) hpr λa2 ha2 hd0 hd=>?_;refine Ky hd ⟨?_,?_,trivial⟩
 .refine DF (c:=call) hk hM hN (h.pick (A:=iz lG M x.k m.k x.d)) λfs' d' w h=>⟨h.al λw2 h=>⟨?_,trivial⟩,trivial⟩
  generalize w.heap.size=tb at h|-;refine h.aB O O λw h=>?_;exact told tb fs' d' w h.sub
 .refine h.al λw2 h=>⟨?_,trivial⟩
  generalize w.heap.size=tb at h|-;refine DF (c:=call) hk hM hN (h.pick (A:=iz lG M x.k m.k x.d)) λfs' d' w h=>⟨?_,trivial⟩
  refine h.aB O O λw h=>?_;exact told tb fs' d' w h.sub
theorem dn.PK{nc N g:S}{m:cV}(h:dn nc N g m):m.line.length<=8:=SY (Sl.rk nc m.line h.NH h.lr) h.n8
theorem Lq{x:Item}{c:U}{K:I->Pw}(h:Ow B w0 w R)(hK:∀w',Ow B w0 w' R->K (fN x c) w'):Zw x.kind x.core x.a x.b c K w:=by
 apply ahh;refine h.a λd w1 h=>?_;have no:∀w,Ow B w0 w (ae d [.z x.kind,.z x.core,.z x.a,.z x.b]::R)->¬(0<=x.kind/\x.kind<4/\0<=x.core/\x.core<min c 8/\(0<=x.a/\x.a<=255)/\(0<=x.b/\x.b<=255))->K qd w:=λw h e=>by have e2:fN x c=false:=ql e;rw[e2]at hK;exact hK w h.drop
 intro k hk;have kno:¬(0<=x.kind/\x.kind<4/\0<=x.core/\x.core<min c 8/\(0<=x.a/\x.a<=255)/\(0<=x.b/\x.b<=255))->k G w1:=λe=>hk _ _ (aW O (no _ h e));refine h.l1 O ?_;refine bh (λe=>kno om) (λe1=>?_);refine h.l1 O ?_;refine bh (λe=>kno om) (λe2=>?_);refine h.l2 O ?_;refine bh (λe=>kno om) (λe3=>?_);refine h.l2 O ?_;refine bh (λe=>kno om) (λe4=>?_);refine h.l2 O ?_;by_cases e5:x.core>7
 .rw[qp e5]
  exact kno om
 rw[ql e5];apply hk;refine aV O (h.l2 O ?_);refine bh (λe6=>?_) (λe=>no _ h om);refine h.l2 O ?_;refine bh (λe7=>?_) (λe=>no _ h om);refine h.l2 O ?_;refine bh (λe8=>?_) (λe=>no _ h om);refine h.l2 O ?_;have e9:fN x c=qe (x.b<256):=by unfold fN;rw[qP];omega
 rw[e9]at hK;exact hK _ h.drop
abbrev jM(d:S):aG:=ae d [.z 0,.z 0,.z 0,.z 0,.y 0,.z 0,.slice Q 0 0,.z 0,.z 0,.bool qd]
theorem jw(h:Ow B w0 w (dR M b m::R)):Ow B w0 w (dR (M+1) b m::R):=by obtain⟨x,hx,h⟩:=AJ h;have h2:=lW (Ue M) (h.pick (A:=iz lG M x.k m.k x.d));exact nw x hx h2.sub
abbrev NR(B:S)(w0:W)(M b:S)(r:qg Seen × cV)(R:J aG)(K:U->U->U->U->U->U->Sl->U->U->I->I->Pw):Prop:=
 ∀fs ala w',Ow B w0 w' (ag au fs (r.1.getD eD).t.forget::ala::R)->(∀R' w,Ow B w0 w (ag au fs (r.1.getD eD).t.forget::ala::R')->Ow B w0 w (dR (M+1) b r.2::R'))->kg K r.1 fs w'
theorem kV{r:qg Seen × cV}{K:U->U->U->U->U->U->Sl->U->U->I->I->Pw}(hK:NR B w0 M b r R K)(hf:(r.1.getD eD).t.forget= [])(h:Ow B w0 w (dR (M+1) b r.2::R)):kg K r.1 z0 w:=by
 refine hK z0 (dR (M+1) b r.2) w ?_ λR' w h=>h.drop;rw[hf];exact Ow.cB h
theorem FU{it:Item}{K:U->U->U->U->U->U->Sl->U->U->I->I->Pw}(hm:dn nc N g m)(hz:Cr m.k)(h0:0<=it.core)(h1:it.core<(nc:U))(h:Ow B w0 w (dR M b m::R))
  (hK:∀w',Ow B w0 w' (dR M b (m.user it).2::R)->kg K (m.user it).1 z0 w'):Zx b.o it.kind it.core it.a it.b K w:=by
 apply ajY;refine h.a λci w1 h=>?_;refine h.a λd w2 h=>?_;refine h.dr λw h=>?_;obtain⟨x,p,fs,Y1,Y2,ald,hp,hZ,hzl,hpl,h,back⟩:=FN hm h0 h1 h.lI;obtain⟨hc1,hc2⟩:=hm.Gm h0 h1;have htl:=hm.tl _ hc2;have hr8:=hm.r8;have hr1:=hm.r1;have hlen:=h.aF x.pr;have none_:∀w,(m.user it)=(Q,m)->Ow B w0 w (OR M b nc x p fs Y1 Y2 m (m.aj it.core) ald (jM d::ae ci [.z it.kind,.z it.core,.z it.a,.z it.b]::R))->
   oy w d.p 0 [.z (0:U),.z (0:U),.z (0:U),.z (0:U),.y (0:U),.z (0:U),.slice Q 0 0,.z (0:U),.z (0:U),.bool qd] λw45=>
    hI w45 d.p 0 [.o,.o,.o,.o,.u,.o,.s,.o,.o,.b] λ(r46:U)(r47:U)(r48:U)(r49:U)(r50:U)(r51:U)(r52:Sl)(r53:U)(r54:U)(r55:I)=>
    K r46 r47 r48 r49 r50 r51 r52 r53 r54 r55 qd w45:=λw es h=>by
  rw[es]at hK;have h:Ow B w0 w (jM d::OR M b nc x p fs Y1 Y2 m (m.aj it.core) ald R):=h.sub;exact fZ (K:=λa b c d e f g h i j w=>K a b c d e f g h i j qd w) O h λw h=>hK w (back M x.d R m (m.aj it.core) fs w (mm hc1).symm O O (by rw[mm hZ];exact h))
 refine⟨_,O,x.c,h.aA O,h.l2 O (tN (s:=x.c) h h0 hZ λa ha hc0 hc=>⟨_,hc0 _ O,?_⟩)⟩
 refine pR (λe1=>?_) (λe1=>?_)
 .have e1:(m.aj it.core).bH≠0:=e1
  exact none_ w (by unfold cV.user;rw[Z e1]) h
 have e1:(m.aj it.core).bH=0:=e1;refine h.l2 O ?_;refine bh (λe2=>?_) (λe2=>?_)
 .refine ⟨_,h.aA O,h.l2 O ?_⟩
  have es:m.user it=(X (m.load it.core it.a).1,(m.load it.core it.a).2):=by unfold cV.user;rw[Y (λhh=>hh e1),Z e2]
  rw[es]at hK;refine FR (m:=m) (x:=x) (p:=p) (fs:=fs) (Y1:=Y1) (Y2:=Y2) (c:=m.aj it.core) (ald:=ald) h0 hp hr1 om htl hz h λw h=>?_;have h:Ow B w0 w (jM d::OR M b nc x p fs Y1 Y2 m { m.aj it.core with tl:=(m.loadT it.a (m.aj it.core).tl).2.2} ald R):=h.sub;refine cO (K:=λa b c d e f g h i j w=>K a b c d e f g h i j G w) (fs:=z0) O h λw h=>hK w (back M x.d R (m.load it.core it.a).2 { m.aj it.core with tl:=(m.loadT it.a (m.aj it.core).tl).2.2} fs w O O O ?_);rw[show rc { m.aj it.core with tl:=(m.loadT it.a (m.aj it.core).tl).2.2} fs=rc (m.aj it.core) fs from O,mm hZ];exact h
 .refine h.dr λw h=>?_
  refine⟨_,h.aA O,_,O,x.pr,h.aA O,bh (λe3=>?_) (λe3=>?_)⟩
  .refine h.dr λw h=>?_
   refine⟨_,O,x.c,h.aA O,h.l2 O (tN (s:=x.c) h h0 hZ λa ha hc0 hc=>⟨?_,trivial⟩)⟩
   refine GP (s:=x.c) h h0 hZ ha λw h=>?_;have hZ1:(ald.set it.core.toNat ⟨1,(m.aj it.core).n,(m.aj it.core).told.e,(m.aj it.core).told.w,(m.aj it.core).told.cv,fs⟩)[it.core.toNat]?=X ⟨1,(m.aj it.core).n,(m.aj it.core).told.e,(m.aj it.core).told.w,(m.aj it.core).told.cv,fs⟩:=SQ (by rw[hzl];omega);have h:Ow B w0 w (ag iB x.c (ald.set it.core.toNat ⟨1,(m.aj it.core).n,(m.aj it.core).told.e,(m.aj it.core).told.w,(m.aj it.core).told.cv,fs⟩)::_):=h;refine h.dr λw h=>⟨_,O,x.c,h.aA O,_,h.aA O,h.l2 O ?_⟩
   refine tN (s:=x.c) h h0 hZ1 λa ha hc0 hc=>⟨?_,trivial⟩
   refine PV (s:=x.c) h h0 hZ1 ha λw h=>?_;rw[Ul]at h;have es:m.user it=(Q,m.gF it.core { m.aj it.core with bH:=1,n:=it.a}):=by unfold cV.user;rw[Y (λhh=>hh e1),Y e2,Z om]
   rw[es]at hK;have h:Ow B w0 w (ag iB x.c (ald.set it.core.toNat (rc { m.aj it.core with bH:=1,n:=it.a} fs))::_):=h;have h:Ow B w0 w (jM d::OR M b nc x p fs Y1 Y2 m { m.aj it.core with bH:=1,n:=it.a} (ald.set it.core.toNat (rc { m.aj it.core with bH:=1,n:=it.a} fs)) R):=h.sub;exact fZ (K:=λa b c d e f g h i j w=>K a b c d e f g h i j qd w) O h λw h=>hK w (back M x.d R (m.gF it.core { m.aj it.core with bH:=1,n:=it.a}) { m.aj it.core with bH:=1,n:=it.a} fs w O O O h)
  .exact none_ w (by unfold cV.user;rw[Y (λhh=>hh e1),Y e2,Y om]) h
theorem FT{K:U->U->U->U->U->U->Sl->U->U->I->I->Pw}(hm:dn nc N g m)(hN:N+64<=100000)(hg:g<=900000)(hM:M<1000000)(h0:0<=n)(h1:n<(nc:U))(h:Ow B w0 w (dR M b m::R))
  (hK:NR B w0 M b (m.step n) R K):Zy b.o n K w:=by
 apply ajZ;refine h.a λd w1 h=>?_;obtain⟨x,p,fs,Y1,Y2,ald,hp,hZ,hzl,hpl,h,back⟩:=FN hm h0 h1 h.cC;obtain⟨hc1,hc2⟩:=hm.Gm h0 h1;have htl:=hm.tl _ hc2;have hr8:=hm.r8;have hfg:=hm.fg _ hc2;have hbx:=hm.bx;have hn8:=hm.n8;have hll:=hm.PK;have hlt:n.toNat<m.cs.length:=(Sz.1 hc1).1;refine⟨_,O,h.l2 O (ya (bx:=m.bx) h0 om om hm.EK (h.pick (A:=bT x.b m.bx)) (λe w h=>?_) λy r e w h=>?_)⟩
 .have e:m.box n= []:=by unfold cV.box;rw[e];rfl
  refine h.a λml w2 h=>?_;refine h.aB O O λw h=>?_;have h:Ow B w0 w (OR M b nc x p fs Y1 Y2 m (m.aj n) ald (jM d::R)):=h.sub;have none_:∀w,(m.step n)=(Q,m)->Ow B w0 w (OR M b nc x p fs Y1 Y2 m (m.aj n) ald (jM d::R))->
    oy w d.p 0 [.z (0:U),.z (0:U),.z (0:U),.z (0:U),.y (0:U),.z (0:U),.slice Q 0 0,.z (0:U),.z (0:U),.bool qd] λw45=>
     hI w45 d.p 0 [.o,.o,.o,.o,.u,.o,.s,.o,.o,.b] λ(r46:U)(r47:U)(r48:U)(r49:U)(r50:U)(r51:U)(r52:Sl)(r53:U)(r54:U)(r55:I)=>
     K r46 r47 r48 r49 r50 r51 r52 r53 r54 r55 qd w45:=λw es h=>by
   rw[es]at hK;have h:Ow B w0 w (jM d::OR M b nc x p fs Y1 Y2 m (m.aj n) ald R):=h.sub;exact fZ (K:=λa b c d e f g h i j w=>K a b c d e f g h i j qd w) O h λw h=>kV hK O (jw (back M x.d R m (m.aj n) fs w (mm hc1).symm O O (by rw[mm hZ];exact h)))
  refine aV O ⟨_,O,x.c,h.aA O,?_⟩;refine tN (s:=x.c) h h0 hZ λa ha hc0 hc=>⟨_,hc0 _ O,?_⟩
  refine dW (λe1=>?_) (λe1=>?_)
  .have e1:(m.aj n).bH=1:=e1
   refine⟨_,O,h.l2 O (u3 h0 h1 om (h.pick (A:=bY x.l nc m.line)) λv w h=>⟨_,O,x.c,h.aA O,?_⟩)⟩
   refine tN (s:=x.c) h h0 hZ λa ha hc0 hc=>?_;refine GP (s:=x.c) h h0 hZ ha λw h=>⟨_,O,x.c,h.aA O,?_⟩
   have h:Ow B w0 w (ag iB x.c (ald.set n.toNat (rc { m.aj n with bH:=2} fs))::_):=h;have hZ1:(ald.set n.toNat (rc { m.aj n with bH:=2} fs))[n.toNat]?=X (rc { m.aj n with bH:=2} fs):=SQ (by rw[hzl];omega);refine tN (s:=x.c) h h0 hZ1 λa ha hc0 hc=>⟨(m.aj n).n,hc 1 _ O,?_⟩
   have es:m.step n=(X ⟨0,n,(m.aj n).n,tZ,(0,0),qd⟩,{ m with line:=iG m.line n}.gF n { m.aj n with bH:=2}):=by unfold cV.step;rw[e];dsimp only;rw[Z e1]
   rw[es]at hK;have h:Ow B w0 w (jM d::OR M b nc x p fs Y1 Y2 { m with line:=iG m.line n} { m.aj n with bH:=2} (ald.set n.toNat (rc { m.aj n with bH:=2} fs)) R):=h.sub;exact cO (K:=λa b c d e f g h i j w=>K a b c d e f g h i j G w) (fs:=z0) O h λw h=>kV hK O (jw (back M x.d R ({ m with line:=iG m.line n}.gF n { m.aj n with bH:=2}) { m.aj n with bH:=2} fs w O O O h))
  .have e1:(m.aj n).bH≠1:=e1
   refine dW (λe2=>?_) (λe2=>?_)
   .have e2:(m.aj n).bH=2:=e2
    refine⟨_,O,h.l2 O (jv om (h.pick (A:=bY x.l nc m.line)) λw h=>?_)⟩;by_cases hpb:m.line.head?=X n
    .refine gC ((ahead_zero _ _).2 hpb) ?_
     have es:m.step n=(X (m.HD n).1,(m.HD n).2):=by unfold cV.step;rw[e];dsimp only;rw[Y e1,Z e2,Z (show me m.line n=G from qp hpb)]
     rw[es,JV hlt]at hK;obtain⟨hn0,hn1⟩:=hm.nr _ hc2 (by rw[e2];decide);have hcall:m.prog[(m.aj n).n.toNat]?=X (m.aI n):=by unfold cV.aI;rw[gE (show(m.aj n).n.toNat<m.prog.length by omega)];rfl
     obtain⟨q1,_⟩:=Gq hm.k n (m.aI n);have hpg:=hm.pg;have h:Ow B w0 w (OR M b nc x p fs Y1 Y2 m (m.aj n) ald (jM d::R)):=h.sub;refine Iw (m:=m) (x:=x) (p:=p) (fs:=fs) (Y1:=Y1) (Y2:=Y2) (c:=m.aj n) (ald:=ald) h0 om om hm.EK hp hZ om hn0 hcall hm.k hM hN om h λfs' d' w h=>?_;have h:Ow B w0 w (jM d::OR (M+1) b nc { x with d:=d'} p fs' Y1 Y2 { m with k:=(m.k.do n (m.aI n)).2,bx:=sendAll n (m.k.do n (m.aI n)).1.forget m.bx} ⟨bU (m.k.do n (m.aI n)).1.forget (m.aj n).tl,3,(m.aj n).n,(m.k.do n (m.aI n)).1⟩ (ald.set n.toNat (rc ⟨bU (m.k.do n (m.aI n)).1.forget (m.aj n).tl,3,(m.aj n).n,(m.k.do n (m.aI n)).1⟩ fs')) R):=h.sub;refine cO (K:=λa b c d e f g h i j w=>K a b c d e f g h i j G w) (fs:=fs') O h λw h=>?_;refine hK fs' (aQ [ae b (uo x),iz lG (M+1) x.k (m.k.do n (m.aI n)).2 d',bY x.l nc m.line,bT x.b (sendAll n (m.k.do n (m.aI n)).1.forget m.bx),ag bw x.t x.ps,ag iB x.c (ald.set n.toNat (rc ⟨bU (m.k.do n (m.aI n)).1.forget (m.aj n).tl,3,(m.aj n).n,(m.k.do n (m.aI n)).1⟩ fs')),bu p m.room (bU (m.k.do n (m.aI n)).1.forget (m.aj n).tl),Y1,Y2,ag aN x.pr m.prog]) w ?_ λR' w h=>?_
     .have h2:Ow B w0 w (ae b (uo x)::iz lG (M+1) x.k (m.k.do n (m.aI n)).2 d'::bY x.l nc m.line::bT x.b (sendAll n (m.k.do n (m.aI n)).1.forget m.bx)::ag bw x.t x.ps::ag iB x.c (ald.set n.toNat (rc ⟨bU (m.k.do n (m.aI n)).1.forget (m.aj n).tl,3,(m.aj n).n,(m.k.do n (m.aI n)).1⟩ fs'))::bu p m.room (bU (m.k.do n (m.aI n)).1.forget (m.aj n).tl)::Y1::Y2::ag aN x.pr m.prog::ag au fs' (m.k.do n (m.aI n)).1.forget::R):=h.sub
      exact Ow.cC (Ow.aR h2)
     .have h2:Ow B w0 w (ae b (uo x)::iz lG (M+1) x.k (m.k.do n (m.aI n)).2 d'::bY x.l nc m.line::bT x.b (sendAll n (m.k.do n (m.aI n)).1.forget m.bx)::ag bw x.t x.ps::ag iB x.c (ald.set n.toNat (rc ⟨bU (m.k.do n (m.aI n)).1.forget (m.aj n).tl,3,(m.aj n).n,(m.k.do n (m.aI n)).1⟩ fs'))::bu p m.room (bU (m.k.do n (m.aI n)).1.forget (m.aj n).tl)::Y1::Y2::ag aN x.pr m.prog::ag au fs' (m.k.do n (m.aI n)).1.forget::R'):=(h.cC).star
      have h3:Ow B w0 w (ae b (uo x)::iz lG (M+1) x.k (m.k.do n (m.aI n)).2 d'::bY x.l nc m.line::bT x.b (sendAll n (m.k.do n (m.aI n)).1.forget m.bx)::ag bw x.t x.ps::ag iB x.c (ald.set n.toNat (rc ⟨bU (m.k.do n (m.aI n)).1.forget (m.aj n).tl,3,(m.aj n).n,(m.k.do n (m.aI n)).1⟩ fs'))::bu p m.room (bU (m.k.do n (m.aI n)).1.forget (m.aj n).tl)::ag au fs' (m.k.do n (m.aI n)).1.forget::Y1::Y2::ag aN x.pr m.prog::R'):=h2.sub;exact back (M+1) d' R' { m with k:=(m.k.do n (m.aI n)).2,bx:=sendAll n (m.k.do n (m.aI n)).1.forget m.bx,cs:=m.cs.set n.toNat ⟨bU (m.k.do n (m.aI n)).1.forget (m.aj n).tl,3,(m.aj n).n,(m.k.do n (m.aI n)).1⟩} ⟨bU (m.k.do n (m.aI n)).1.forget (m.aj n).tl,3,(m.aj n).n,(m.k.do n (m.aI n)).1⟩ fs' w O O O h3
    .refine jk (λhh=>hpb ((ahead_zero _ _).1 hh)) ?_
     exact none_ w (by unfold cV.step;rw[e];dsimp only;rw[Y e1,Z e2,Y (by rw[show me m.line n=qd from ql hpb];decide)]) h.sub
   .have e2:(m.aj n).bH≠2:=e2
    have no:¬((m.aj n).bH=3/\gk m.bx n=0)->m.step n=(Q,m):=λhno=>by unfold cV.step;rw[e];dsimp only;rw[Y e1,Y e2,Y hno]
    refine dW (λe3=>?_) (λe3=>none_ w (no λhh=>e3 hh.1) h);have e3:(m.aj n).bH=3:=e3;refine⟨_,O,h.l2 O (lu (bx:=m.bx) om hm.EK (h.pick (A:=bT x.b m.bx)) λw h=>?_)⟩;have h:Ow B w0 w (OR M b nc x p fs Y1 Y2 m (m.aj n) ald (jM d::R)):=h.sub;refine dW (λe4=>?_) (λe4=>none_ w (no λhh=>e4 hh.2) h);refine⟨_,O,h.l2 O (u4 h0 h1 om (h.pick (A:=bY x.l nc m.line)) λv w h=>⟨_,O,x.c,h.aA O,?_⟩)⟩
    refine tN (s:=x.c) h h0 hZ λa ha hc0 hc=>?_;refine GP (s:=x.c) h h0 hZ ha λw h=>?_;have h:Ow B w0 w (ag iB x.c (ald.set n.toNat (rc { m.aj n with bH:=0} fs))::_):=h;have hZ1:(ald.set n.toNat (rc { m.aj n with bH:=0} fs))[n.toNat]?=X (rc { m.aj n with bH:=0} fs):=SQ (by rw[hzl];omega);refine h.dr λw h=>⟨_,O,x.c,h.aA O,?_⟩
    refine tN (s:=x.c) h h0 hZ1 λa ha hc0 hc=>⟨(m.aj n).n,hc 1 _ O,_,O,x.c,h.aA O,?_⟩
    refine tN (s:=x.c) h h0 hZ1 λa ha hc0 hc=>?_;refine⟨_,by rw[fJ];exact hc 2 _ O,_,by rw[fJ];exact hc 3 _ O,_,by rw[fJ];exact hc 4 _ O,fs,by rw[fJ];exact hc 5 _ O,?_,trivial⟩;have es:m.step n=(X ⟨2,n,(m.aj n).n,(m.aj n).told,(0,0),qd⟩,{ m with line:=gd m.line n}.gF n { m.aj n with bH:=0}):=by unfold cV.step;rw[e];dsimp only;rw[Y e1,Y e2,Z ⟨e3,e4⟩]
    rw[es]at hK;have h:Ow B w0 w (jM d::OR M b nc x p fs Y1 Y2 { m with line:=gd m.line n} { m.aj n with bH:=0} (ald.set n.toNat (rc { m.aj n with bH:=0} fs)) R):=h.sub;refine cO (K:=λa b c d e f g h i j w=>K a b c d e f g h i j G w) (fs:=fs) O h λw h=>?_;refine hK fs (aQ [ae b (uo x),iz lG M x.k m.k x.d,bY x.l nc (gd m.line n),bT x.b m.bx,ag bw x.t x.ps,ag iB x.c (ald.set n.toNat (rc { m.aj n with bH:=0} fs)),bu p m.room (m.aj n).tl,Y1,Y2,ag aN x.pr m.prog]) w ?_ λR' w h=>?_
    .have h2:Ow B w0 w (ae b (uo x)::iz lG M x.k m.k x.d::bY x.l nc (gd m.line n)::bT x.b m.bx::ag bw x.t x.ps::ag iB x.c (ald.set n.toNat (rc { m.aj n with bH:=0} fs))::bu p m.room (m.aj n).tl::Y1::Y2::ag aN x.pr m.prog::ag au fs (m.aj n).told.forget::R):=h.sub
     exact Ow.cC (Ow.aR h2)
    .have h2:Ow B w0 w (ae b (uo x)::iz lG M x.k m.k x.d::bY x.l nc (gd m.line n)::bT x.b m.bx::ag bw x.t x.ps::ag iB x.c (ald.set n.toNat (rc { m.aj n with bH:=0} fs))::bu p m.room (m.aj n).tl::Y1::Y2::ag aN x.pr m.prog::ag au fs (m.aj n).told.forget::R'):=(h.cC).star
     have h3:Ow B w0 w (ae b (uo x)::iz lG M x.k m.k x.d::bY x.l nc (gd m.line n)::bT x.b m.bx::ag bw x.t x.ps::ag iB x.c (ald.set n.toNat (rc { m.aj n with bH:=0} fs))::bu p m.room (m.aj n).tl::ag au fs (m.aj n).told.forget::Y1::Y2::ag aN x.pr m.prog::R'):=h2.sub;exact jw (back M x.d R' ({ m with line:=gd m.line n}.gF n { m.aj n with bH:=0}) { m.aj n with bH:=0} fs w O O O h3)
 .have e:m.box n=y::r:=by unfold cV.box;rw[e];rfl
  have es:m.step n=(Q,{ m with bx:=m.bx.set n.toNat r,cs:=m.cs.set n.toNat { m.aj n with tl:=drop (qj.wrap (y.about.tdiv 4096)) (y.about.tmod 4096) (m.aj n).tl}}):=by unfold cV.step;rw[e];dsimp only;unfold cV.heard;rw[e];rfl
  rw[es]at hK;refine h.a λml w2 h=>?_;refine h.aB O O λw h=>?_;refine aW O ?_;refine h.dr λw h=>⟨_,O,x.t,h.aA O,?_⟩
  refine dG (s:=x.t) (i:=n) (j:=n.toNat) h om hp λa3 ha3 hc3=>⟨_,hc3,_,h.aA O,qb,_,h.aA O,qb,?_,trivial⟩
  refine lC (b:=p) (l:=(m.aj n).tl) (room:=m.room) om (h.pick (A:=bu p m.room (m.aj n).tl)) λw h=>?_;have h:Ow B w0 w (jM d::OR M b nc x p fs Y1 Y2 { m with bx:=m.bx.set n.toNat r} { m.aj n with tl:=drop (qj.wrap (y.about.tdiv 4096)) (y.about.tmod 4096) (m.aj n).tl} ald R):=h.sub;exact fZ (K:=λa b c d e f g h i j w=>K a b c d e f g h i j qd w) O h λw h=>kV hK O (jw (back M x.d R { m with bx:=m.bx.set n.toNat r,cs:=m.cs.set n.toNat { m.aj n with tl:=drop (qj.wrap (y.about.tdiv 4096)) (y.about.tmod 4096) (m.aj n).tl}} { m.aj n with tl:=drop (qj.wrap (y.about.tdiv 4096)) (y.about.tmod 4096) (m.aj n).tl} fs w O O O (by rw[show rc { m.aj n with tl:=drop (qj.wrap (y.about.tdiv 4096)) (y.about.tmod 4096) (m.aj n).tl} fs=rc (m.aj n) fs from O,mm hZ];exact h)))
theorem FC{it:Item}{K:U->U->U->U->U->U->Sl->U->U->I->I->Pw}(hm:dn nc N g m)(hz:Cr m.k)(hN:N+64<=100000)(hg:g<=900000)(hM:M<1000000)(h:Ow B w0 w (dR M b m::R))
  (hK:NR B w0 M b (m.item it) R K):Yx b.o it.kind it.core it.a it.b K w:=by
 apply ajW;refine h.a λci w1 h=>?_;refine h.a λd w2 h=>?_;refine h.dr λw h=>?_;refine h.gn O ?_;have h:Ow B w0 w (dR M b m::jM d::ae ci [.z it.kind,.z it.core,.z it.a,.z it.b]::R):=h.lI;have hcs:=hm.cs;obtain⟨s,hs1,hs2⟩:∃s:Sl,w.cell? (b.p.add 4)=X s.v/\s.len=m.cs.length:=by obtain⟨x,⟨hx1,hx2⟩,h⟩:=AJ h;have hlen:=h.aF x.c;rw[Uu]at hlen;exact⟨x.c,h.aA O,om⟩
 refine⟨_,O,s,hs1,?_,trivial⟩;rw[hs2];refine Lq (x:=it) h λw h=>?_;have none_:∀w,(m.item it)=(Q,m)->Ow B w0 w (dR M b m::jM d::ae ci [.z it.kind,.z it.core,.z it.a,.z it.b]::R)->
   oy w d.p 0 [.z (0:U),.z (0:U),.z (0:U),.z (0:U),.y (0:U),.z (0:U),.slice Q 0 0,.z (0:U),.z (0:U),.bool qd] λw45=>
    hI w45 d.p 0 [.o,.o,.o,.o,.u,.o,.s,.o,.o,.b] λ(r46:U)(r47:U)(r48:U)(r49:U)(r50:U)(r51:U)(r52:Sl)(r53:U)(r54:U)(r55:I)=>
    K r46 r47 r48 r49 r50 r51 r52 r53 r54 r55 qd w45:=λw es h=>by
  rw[es]at hK;exact fZ (K:=λa b c d e f g h i j w=>K a b c d e f g h i j qd w) O h.cC λw h=>kV hK O (jw (m:=m) (show Ow B w0 w (dR M b m::R)from h.sub))
 cases hr:fN it m.cs.length with
 |false=>
  refine aW O ?_;exact none_ w (by unfold cV.item;rw[Z hr]) h
 |true=>
  refine aV O ?_;obtain⟨k0,k1,c0,c1,⟨a0,a1⟩,b0,b1⟩:=rn.1 hr;have c2:it.core<(nc:U):=om
  have hnr:¬fN it m.cs.length=false:=by rw[hr];decide
  refine h.l1 O ?_;refine dW (λe1=>?_) (λe1=>?_)
  .refine h.gn O ?_
   have es:m.item it=m.user it:=by unfold cV.item;rw[Y hnr,Z e1]
   rw[es]at hK;refine FU (it:=it) hm hz c0 c2 h λw h=>?_;refine cO (K:=λa b c d e f g h i j w=>K a b c d e f g h i j (m.user it).1.isSome w) (fs:=z0) O h.cC λw h=>kV hK ?_ (jw (show Ow B w0 w (dR M b (m.user it).2::R)from h.sub));unfold cV.user;repeat' split
   all_goals rfl
  refine h.l1 O ?_;refine dW (λe2=>?_) (λe2=>?_)
  .refine h.l2 O ?_
   have es:m.item it=m.step it.core:=by unfold cV.item;rw[Y hnr,Y e1,Z e2]
   rw[es]at hK;refine FT hm hN hg hM c0 c2 h λfs ala w h hb=>?_;exact cO (K:=λa b c d e f g h i j w=>K a b c d e f g h i j (m.step it.core).1.isSome w) (fs:=fs) O h.lI λw h=>hK fs ala w h.sub hb
  obtain⟨x,hx,h⟩:=AJ h;obtain⟨s2,hs2,hl2⟩:∃s2:Sl,w.cell? (x.l.p.add 1)=X s2.v/\s2.len=m.line.length:=by obtain⟨s2,h⟩:=sG (h.pick (A:=bY x.l m.cs.length m.line));exact⟨s2,h.aA O,h.aF s2⟩
  refine⟨_,O,_,h.aA O,_,O,s2,hs2,?_⟩;by_cases e3:m.line= []
  .refine av (by rw[hl2,e3];decide) ?_
   refine h.l1 O ?_;refine dW (λe4=>?_) (λe4=>?_)
   .have es:m.item it=(X ⟨4,it.core,it.a,⟨(m.k.irq it.a).1,0,(m.k.irq it.a).2.1,[]⟩,(0,0),qd⟩,{ m with k:=(m.k.irq it.a).2.2}):=by unfold cV.item;rw[Y hnr,Y e1,Y e2,Y (λhh=>hh e3),Z e4]
    rw[es]at hK;refine h.dr λw h=>?_;refine⟨_,O,_,h.aE O,_,h.aA O,Iq hM hm.k (h.pick (A:=iz lG M x.k m.k x.d)) λw h=>?_,trivial⟩;refine⟨_,h.aA O,h.l2 O ?_⟩;have h:Ow B w0 w (jM d::ae b (uo x)::iz lG (M+1) x.k (m.k.irq it.a).2.2 x.d::bY x.l m.cs.length m.line::bT x.b m.bx::ag bw x.t x.ps::aq (λp l=>bu p m.room l) x.ps (zC m.cs)::ag iB x.c (yc m.cs x.fs)::bA au x.fs (eG m.cs)::ag aN x.pr m.prog::R):=h.sub;exact cO (K:=λa b c d e f g h i j w=>K a b c d e f g h i j G w) (fs:=z0) O h λw h=>kV hK O (nw (m:={ m with k:=(m.k.irq it.a).2.2}) x hx h)
   .have es:m.item it=(X ⟨5,it.core,0,tZ,(0,0),(m.k.t.cj it.core).isSome⟩,{ m with k:=m.k.tick it.core}):=by unfold cV.item;rw[Y hnr,Y e1,Y e2,Y (λhh=>hh e3),Y e4]
    rw[es]at hK;refine h.dr λw h=>?_;refine⟨_,O,_,h.aE O,_,O,?_⟩;have key:=FF (core:=it.core) hm.k (h.pick (A:=iz lG M x.k m.k x.d)) (K:=λr123 w124=>
     ∃core125:U,w124.cell? (ci.p.add 1)=X (.z core125)/\
     oy w124 d.p 0 [.z (5:U),.z core125,.z (0:U),.z (0:U),.y (0:U),.z (0:U),.slice Q 0 0,.z (0:U),.z (0:U),.bool r123] λw126=>
     hI w126 d.p 0 [.o,.o,.o,.o,.u,.o,.s,.o,.o,.b] λ(r127:U)(r128:U)(r129:U)(r130:U)(r131:U)(r132:U)(r133:Sl)(r134:U)(r135:U)(r136:I)=>
     K r127 r128 r129 r130 r131 r132 r133 r134 r135 r136 G w126) λw h=>by refine h.l2 O ?_;have h:Ow B w0 w (jM d::ae b (uo x)::iz lG M x.k (m.k.tick it.core) x.d::bY x.l m.cs.length m.line::bT x.b m.bx::ag bw x.t x.ps::aq (λp l=>bu p m.room l) x.ps (zC m.cs)::ag iB x.c (yc m.cs x.fs)::bA au x.fs (eG m.cs)::ag aN x.pr m.prog::R):=h.sub;exact cO (K:=λa b c d e f g h i j w=>K a b c d e f g h i j G w) (fs:=z0) O h λw h=>kV hK O (jw (nw (m:={ m with k:=m.k.tick it.core}) x hx h))
    obtain⟨t,ht,hC⟩:=key;exact⟨t,ht,_,h.aA O,hC,trivial⟩
  .have hl3:0<m.line.length:=by
    cases hl:m.line with
    |nil=>exact qk hl e3
    |cons _ _=>simp
   refine az om ?_;exact none_ w (by unfold cV.item;rw[Y hnr,Y e1,Y e2,Z e3]) (nw x hx h)
def AB(x:U × U):J V:=[.z x.1,.z x.2]
theorem PO(x:U × U):rC qh 9 70 (AB x) (AB x)=X true:=by
 have h:rC qh 9 70 (AB x) (AB x)=X (x.1==x.1&&(x.2==x.2&&G)):=qa
 rw[h];simp
theorem OA{x y:qD}(a b:U):LY qh .eql 70 x y (.agg #[.z a,.z b]) (.agg #[.z a,.z b]) true:=
 JZ (x:=x) (y:=y) (P:=qh) (t:=70) (xs:=AB (a,b)) (ys:=AB (a,b)) qa qa qa (PO (a,b))
theorem BY{k n i e u wk p q:U}{is:I}{s t:Sl}{F:J dM}{K:I->Pw}[bG s L dM au F][bG t L dM au F](hF:F.length<=1000000000)(h:Ow B w0 w L)(hK:∀w',Ow B w0 w' L->K G w'):
  Yy k n i e u wk s p q is k n i e u wk t p q is K w:=by
 apply ajX;refine h.a λc1 w1 h=>?_;refine h.a λc2 w2 h=>?_;refine⟨_,h.aE O,_,h.aE O,gC O ⟨_,h.aA O,_,h.aA O,gC O ⟨_,h.aA O,_,h.aA O,gC O (eA (h.gn (x3:=s) O (eA (h.gn (x3:=t) O ?_))))⟩⟩⟩;refine Lc (s:=s) (t:=t) (xs:=F) hF h λw h=>?_;refine aW O ?_;refine eA (h.aM O (eA (h.aM O ⟨G,OA _ _,aW O ⟨is,h.aA O,is,h.aA O,?_⟩⟩)));rw[show(is==is)=G from by cases is<;>rfl];exact hK w h.drop.drop
theorem AK:∀(n:S){w:W}{R:J aG},Ow B w0 w R->Ow B w0 w (SC (ag au) (SB n (z0:Sl)) (SB n [])++R)
 |0,_,_,h=>h
 |n+1,_,_,h=>by rw[US,US,List.zipWith_cons_cons,List.cons_append];exact Ow.cB (AK n h)
theorem BJ(n:S)(h:Ow B w0 w R):Ow B w0 w (bA au (SB n (z0:Sl)) (SB n [])::R):=
 Ow.eu () (Ow.aR (Ow.cI (by rw[Uw,Uw]) (AK n h)))
def Ld:Rc:=⟨0,0,0,0,0,z0⟩
theorem rS{s5:Sl}{prog:J Call}{c:S}{k:Sl->Pw}[ale:bG s5 L Call aN prog](h:Ow B w0 w (ae c []::L))(hbig:prog.length<=1000000)(hk:∀s' w',Ow B w0 w' (ag aN s' prog::L)->k s' w'):
  ∃s' w',dO qh [61,61] 61 (.slice (X c.p) 0 0) s5.v w s' w'/\k s' w':=
 Hu (E:=aN) (xs:=prog) (s:=s5) akz (show qh.info? 36=X aj5 from by kernel_rfl) (zv:= .agg ⟨aN.enc ⟨0,0,0,0,0,0⟩⟩) qa qa O qb h (by
  have e:aj5.bytes=48:=qa
  rw[e];omega) hk
theorem uQ{n:S}{k:Sl->Pw}(hn:n<=8)(h:Ow B w0 w L)(hk:∀s' w',Ow B w0 w' (ag iB s' (SB n Ld)::L)->k s' w'):
  ∃s' w',sU qh 214 (.z (n:U)) (.z (n:U)) w s' w'/\k s' w':=by
 have hb:akA.bytes=64:=qa
 have hp48:(2:U)^48=281474976710656:=qb
 refine Ow.si (E:=iB) (z0:=Ld) (zv:= .agg ⟨iB.enc Ld⟩) underlying214 (show qh.info? 227=X akA from by kernel_rfl) qa qa O (n:=(n:U)) (inf:=akA) h om (by rw[hb,hp48];omega) (by rw[hp48];omega) λt w ht h=>?_;rw[SD]at h;exact hk t w h
theorem Iu{c bits lines:S}{prios:J U}{prog:J Call}{room:U}{s s5:Sl}{K:qg qf->U->Pw}[ale:bG s L U ax prios][I5:bG s5 L Call aN prog]
  (h1:1<=c) (h8:c<=8) (hb:4<=bits/\bits<=20) (hl:lines<=8) (hp:prios.length=c) (hps:∀p∈prios,0<=p/\p<256) (r1:1<=room) (r8:room<=8) (hpl:prog.length<=1000000) (h:Ow B w0 w L)
  (hK:∀b w',Ow B w0 w' (dR 0 b (eU (ai.fQ c bits lines prios) c prog room)::L)->K b.o 0 w'):Yv (c:U) (bits:U) (lines:U) s s5 room K w:=by
 apply ajV;have hr:ai.ij (c:U) (bits:U) (lines:U) prios=true:=qp ⟨om,om,om,om,om,om,om,hps⟩;refine h.a λab w1 h=>?_;refine h.gn (x3:=s) O ?_;refine we (s:=s) (prios:=prios) h om (λe=>by rw[hr]at e;cases e) λ_ kb w h=>?_;rw[show(c:U).toNat=c from SD c,show(bits:U).toNat=bits from SD bits,show(lines:U).toNat=lines from SD lines]at h;generalize ai.fQ c bits lines prios=k at h hK;refine fh O ?_;refine rJ r1 om h λtb0 w h=>?_;refine fh O (h.l1 O ?_);refine yk h1 h8 h λlb w h=>(h.l1 O ?_)
 refine zq h1 h8 h λbb w h=>?_;intro k26 hk26;have fin:∀(mb:S)(cs s6:Sl)(w:W),Ow B w0 w (ae mb [.q kb,.q lb,.q bb,.slice Q 0 0,cs.v,s6.v]::ag iB cs (SB c Ld)::ag aN s6 prog::bT bb (SB c [])::bY lb c []::El kb k::ae ab [.z (c:U),.z (bits:U),.z (lines:U),s.v]::L)->k26 mb.o w:=by
  intro mb cs s6 w h;apply hk26;clear hk26;intro l hl31;have loop:∀(d j:S)(ts:Sl)(ps:J S)(xs:J (J dM))(w:W),j+d=c->xs=SB j []->
    Ow B w0 w (ae mb [.q kb,.q lb,.q bb,ts.v,cs.v,s6.v]::ag bw ts ps::aq (λp l=>bu p room l) ps xs::ag iB cs (SB c Ld)::ag aN s6 prog::bT bb (SB c [])::bY lb c []::El kb k::ae ab [.z (c:U),.z (bits:U),.z (lines:U),s.v]::L)->l (j:U) w:=by
   intro d;induction d with
   |zero=>
    intro j ts ps xs w hj hx h;have ej:j=c:=om
    subst ej;have hpl2:ps.length=xs.length:=Ow.cz (h.pick (A:=aq (λp l=>bu p room l) ps xs));have hxl:xs.length=j:=by rw[hx,Uw]
    apply hl31;refine⟨_,h.aE O,av om ?_⟩;have e:(eU k j prog room).cs.length=j:=by simp[eU]
    refine hK mb w (nw ⟨kb,lb,bb,ts,cs,s6,ps,SB j z0,LR⟩ ⟨by rw[e];exact Uw,by rw[e];show ps.length=j;omega⟩ ?_);rw[e];have e1:zC (eU k j prog room).cs=xs:=by rw[hx];simp[eU,zC,xr]
    have e2:yc (eU k j prog room).cs (SB j z0)=SB j Ld:=by simp[eU,yc,List.zipWith_replicate,rc,xr,tZ,Ld]
    have e3:eG (eU k j prog room).cs=SB j []:=by simp[eU,eG,xr,tZ]
    dsimp only;rw[e1,e2,e3];have h2:Ow B w0 w (bA au (SB j (z0:Sl)) (SB j [])::ae mb [.q kb,.q lb,.q bb,ts.v,cs.v,s6.v]::ag bw ts ps::aq (λp l=>bu p room l) ps xs::ag iB cs (SB j Ld)::ag aN s6 prog::bT bb (SB j [])::bY lb j []::El kb k::L):=BJ j h.sub;have h3:Ow B w0 w (ae mb [.q kb,.q lb,.q bb,ts.v,cs.v,s6.v]::El kb k::bY lb j []::bT bb (SB j [])::ag bw ts ps::aq (λp l=>bu p room l) ps xs::ag iB cs (SB j Ld)::bA au (SB j (z0:Sl)) (SB j [])::ag aN s6 prog::L):=h2.sub;exact h3
   |succ d ih=>
    intro j ts ps xs w hj hx h;have hpl2:ps.length=xs.length:=Ow.cz (h.pick (A:=aq (λp l=>bu p room l) ps xs));have hxl:xs.length=j:=by rw[hx,Uw]
    apply hl31;refine⟨_,h.aE O,az om (rJ r1 om h λtb w h=>?_)⟩;refine⟨_,O,ts,h.aA O,h.a λec w3 h=>?_⟩;refine Bc (s:=ts) (ys:=ps) (y:=tb) underlying215 (show qh.info? 205=X Tryz.t205 from by kernel_rfl) qa qa qa h om λs' w hs' h=>⟨_,O,?_⟩
    refine h.fD O O λw h=>?_;rw[wI j om];refine ih (j+1) s' (ps++ [tb]) (xs++ [[]]) w om (by rw[hx,U7]) ?_;have h2:Ow B w0 w ((λp l=>bu p room l) tb []::aq (λp l=>bu p room l) ps xs::ae mb [.q kb,.q lb,.q bb,s'.v,cs.v,s6.v]::ag bw s' (ps++ [tb])::ag iB cs (SB c Ld)::ag aN s6 prog::bT bb (SB c [])::bY lb c []::El kb k::ae ab [.z (c:U),.z (bits:U),.z (lines:U),s.v]::L):=h.sub;exact(Ow.ll (A:=λp l=>bu p room l) h2).sub
  have h2:Ow B w0 w (aq (λp l=>bu p room l) [] []::ag bw z0 []::_):=Ow.ic O (Ow.cB h);have h3:Ow B w0 w (ae mb [.q kb,.q lb,.q bb,.slice Q 0 0,cs.v,s6.v]::ag bw z0 []::aq (λp l=>bu p room l) [] []::ag iB cs (SB c Ld)::ag aN s6 prog::bT bb (SB c [])::bY lb c []::El kb k::ae ab [.z (c:U),.z (bits:U),.z (lines:U),s.v]::L):=h2.sub;exact loop c 0 z0 [] [] w om O h3
 clear hk26;have h:Ow B w0 w (bT bb (SB c [])::bY lb c []::El kb k::ae ab [.z (c:U),.z (bits:U),.z (lines:U),s.v]::L):=h.sub;refine h.dr λw h=>⟨_,h.aE O,?_,?_,trivial⟩
 .refine uQ h8 h λcs w h=>⟨h.al λw2 h=>⟨?_,trivial⟩,trivial⟩
  generalize w.heap.size=e1 at h|-;refine rS (s5:=s5) (prog:=prog) h hpl λs6 w h=>⟨h.al λw3 h=>?_,trivial⟩
  generalize w.heap.size=mb at h|-;exact fin mb cs s6 w3 h.sub
 .refine h.al λw2 h=>⟨?_,?_,trivial⟩
  .generalize w.heap.size=e1 at h|-
   have h:Ow B w0 w2 (bT bb (SB c [])::bY lb c []::El kb k::ae ab [.z (c:U),.z (bits:U),.z (lines:U),s.v]::ae e1 []::L):=h.sub;refine uQ h8 h λcs w h=>⟨?_,trivial⟩
   refine rS (s5:=s5) (prog:=prog) (h.pick (A:=ae e1 [])) hpl λs6 w h=>⟨h.al λw3 h=>?_,trivial⟩
   generalize w.heap.size=mb at h|-;exact fin mb cs s6 w3 h.sub
  .generalize w.heap.size=e1 at h|-
   refine rS (s5:=s5) (prog:=prog) h hpl λs6 w h=>⟨h.aE O,?_,trivial⟩
   refine uQ h8 h λcs w h=>⟨h.al λw3 h=>?_,trivial⟩
   generalize w.heap.size=mb at h|-;exact fin mb cs s6 w3 h.sub
theorem zy{K:qg qf->Pw}(hbig:l.length<=1000000)(h:Ow B w0 w (bu b room l::R))(hK:∀b' w',Ow B w0 w' (bu b' room l::bu b room l::R)->K b'.o w'):Zu b.o K w:=by
 apply agL;refine h.dr λw h=>?_;obtain⟨s,h⟩:=wm h;refine⟨_,O,s,h.aE O,_,O,_,h.aA O,ur (s:=s) h hbig λs' w h=>⟨h.aA O,?_,trivial⟩,trivial⟩
 refine h.al λw2 h=>?_;generalize w.heap.size=b' at h|-;have h2:Ow B w0 w2 (bu b' room l::ae b [s.v,.z room]::ag au s l::R):=gK (s:=s') h;have h3:Ow B w0 w2 (ae b [s.v,.z room]::ag au s l::bu b' room l::R):=h2.sub;exact hK b' w2 (Ow.cC (gK h3))
theorem xG{K:qg qf->Pw}(n1:1<=nc)(n8:nc<=8)(hnd:line.Nodup)(hr:∀c∈line,0<=c/\c<(nc:U))(hll:line.length<=8)(h:Ow B w0 w (bo b nc line::R))(hK:∀b' w',Ow B w0 w' (bo b' nc line::bo b nc line::R)->K b'.o w'):Zs b.o K w:=by
 apply aeS;have hcell:w.cell? b.p=X (.z (nc:U)):=by obtain⟨x,hx,h⟩:=tD h;exact h.aE O
 refine⟨_,O,_,hcell,ma n1 n8 h λb' w h=>?_⟩;refine pf n8 h.cC λs w h=>?_;have hs:=h.aF s;intro lp hlp;have loop:∀(m j:S)(w:W),j+m=line.length->Ow B w0 w (bo b' nc (line.take j)::ag ax s line::bo b nc line::R)->lp (j:U) w:=by
  intro m;induction m with
  |zero=>
   intro j w hj h;apply hlp;refine av om ?_;rw[SE om]at h;exact hK b' w h.sub
  |succ m ih=>
   intro j w hj h;have hx:line[j]?=X line[j]:=gE om;have hm:=hr _ (Tq (show j<line.length by omega));apply hlp;refine az om ?_;refine h.cd (s:=s) O hx λa ha h0 hc=>⟨_,h0 _ O,?_⟩
   refine nQ hm.1 hm.2 (λhh=>?_) h λw h=>?_
   .obtain ⟨i,hi,e⟩:=List.mem_take_iff_getElem.1 hh
    have:=List.getElem_inj hnd |>.1 e;omega
   .rw[wr om om]
    refine ih (j+1) w om ?_;rw[SO,hx];exact h
 have h2:Ow B w0 w (bo b' nc []::ag ax s line::bo b nc line::R):=h.sub;exact loop line.length 0 w om h2
theorem Ep{s:Sl}{xs:J cD}{K:Sl->Pw}[ale:bG s L cD bF xs](h:Ow B w0 w L)(hbig:xs.length<=1000000)(hK:∀s' w',Ow B w0 w' (ag bF s' xs::L)->K s' w'):aaK s K w:=by apply afu;exact ng (s:=s) (E:=bF) (xs:=xs) (zv:= .agg ⟨bF.enc yV⟩) ako xy qa qa O qb h (by rw[zS];omega) hK
theorem EE{s:Sl}{xs:J Sl}{y:Sl}{c:S}{k:Sl->Pw}[ale:bG s L Sl lH xs][ak8:eL (ag lH s xs) L L'](h:Ow B w0 w (ae c [y.v]::L))(hbig:xs.length<=1000000)
  (hk:∀s' w',s'.len=xs.length+1->Ow B w0 w' (ag lH s' (xs++ [y])::L')->k s' w'):
  ∃s' w',dO qh [341,341] 341 s.v (.slice (X c.p) 1 1) w s' w'/\k s' w':=
 Ow.eZ (E:=lH) (y:=y) (R:=L') ak0 (show qh.info? 354=X akp from by kernel_rfl) (zv:= .slice Q 0 0) qa qa O qb h (by
  have e:akp.bytes=24:=qa
  rw[e];omega) hk
theorem zc{K:qg qf->Pw}(hb:bx.length<=8)(h64:∀l∈bx,l.length<=64)(h:Ow B w0 w (cU b bx::R))(hK:∀b' w',Ow B w0 w' (cU b' bx::cU b bx::R)->K b'.o w'):Zt b.o K w:=by
 apply af1;refine h.al λw1 h=>?_;generalize w.heap.size=b' at h|-;obtain⟨s,ss,h⟩:=EM h.cC;have hl:=gR (h.pick (A:=bA bF ss bx));have hlen:=h.aF s;refine⟨_,O,s,h.aE O,?_⟩;intro lp hlp;have loop:∀(m j:S)(o:Sl)(os:J Sl)(w:W),j+m=bx.length->Ow B w0 w (ae b' [o.v]::ag lH o os::bA bF os (bx.take j)::ae b [s.v]::ag lH s ss::bA bF ss bx::R)->lp (j:U) w:=by
  intro m;induction m with
  |zero=>
   intro j o os w hj h;apply hlp;refine av om ?_;rw[SE om]at h;have h2:Ow B w0 w (cU b' bx::ae b [s.v]::ag lH s ss::bA bF ss bx::R):=sk h;have h3:Ow B w0 w (ae b [s.v]::ag lH s ss::bA bF ss bx::cU b' bx::R):=h2.sub;exact hK b' w (Ow.cC (sk h3))
  |succ m ih=>
   intro j o os w hj h;have hrow:bx[j]?=X bx[j]:=gE om;have hr64:=h64 _ (Tq (show j<bx.length by omega));generalize bx[j]=row at hrow hr64;have hsl:ss[j]?=X ss[j]:=gE om;generalize ss[j]=sj at hsl;have hol:=gR (h.pick (A:=bA bF os (bx.take j)));rw[SN]at hol;apply hlp;refine az om ?_;refine h.cd (s:=s) O hsl λa ha hc0 hc=>⟨sj,hc0 _ O,?_⟩
   refine h.dr λw h=>⟨_,O,o,h.aE O,?_,trivial⟩
   have h2:=Lm (h.pick (A:=bA bF ss bx)) hsl hrow;refine Ep (s:=sj) (xs:=row) h2 om λs2 w h=>⟨h.aE O,?_,trivial⟩
   refine h.al λw2 h=>⟨?_,trivial⟩
   generalize w.heap.size=e at h|-;refine EE (s:=o) (xs:=os) (y:=s2) h om λo' w ho h=>⟨_,O,?_,trivial⟩
   refine h.jD O O λw h=>?_;rw[wr om om];have h3:Ow B w0 w (ag bF sj row::aQ ((SC (ag bF) ss bx).eraseIdx j)::ag bF s2 row::bA bF os (bx.take j)::ae b' [o'.v]::ag lH o' (os++ [s2])::ae b [s.v]::ag lH s ss::R):=h.sub;have h4:=kF hl om h3;rw[mm hsl,mm hrow]at h4;have h5:Ow B w0 w (ag bF s2 row::bA bF os (bx.take j)::bA bF ss bx::ae b' [o'.v]::ag lH o' (os++ [s2])::ae b [s.v]::ag lH s ss::R):=h4.sub;have h6:=Ow.B7 h5;refine ih (j+1) o' (os++ [s2]) w om ?_;rw[show bx.take (j+1)=bx.take j++ [row]from by rw[SO,hrow];rfl];exact h6.sub
 have h2:Ow B w0 w1 (bA bF [] []::ag lH z0 []::_):=Ow.ym (Ow.cB h);have h3:Ow B w0 w1 (ae b' [.slice Q 0 0]::ag lH z0 []::bA bF [] []::ae b [s.v]::ag lH s ss::bA bF ss bx::R):=h2.sub;exact loop bx.length 0 z0 [] w1 om h3
end
end Mc
end Go.Vc
namespace Go.Vc
open Go.Proofs Go.Shelf
namespace Sl
section
variable{B:S}{w0 w:W}{R L:J aG}{b:S}{bits:J U}{H:Hs}
theorem En{s:Sl}{xs:J U}{K:Sl->Pw}[ale:bG s L U ax xs](h:Ow B w0 w L)(hbig:xs.length<=1000000)(hK:∀s' w',Ow B w0 w' (ag ax s' xs::L)->K s' w'):WE s K w:=by
 apply Ye;have hlen:=h.aF s;cases hn:s.a with
 |none=>
  refine aW O ?_;have hx:xs= []:=by
   cases xs with
   |nil=>rfl
   |cons x xs=>obtain⟨_,_,ha,_⟩:=h.get ale.i ale.at_ (j:=0) (x:=x) O;rw[hn]at ha;cases ha
  subst hx;exact hK _ w (Ow.cB h)
 |some a=>
  refine aV O ?_;refine h.a λb w' h=>?_;have h2:Ow B w0 w' (ag ax ⟨X b.p,0,0⟩ []::L):=Ow.empty h;have hx2:=h2.tX (ale.i+1) (by simpa using ale.at_)
  (try rw[<-hn])
  exact Ow.app (s:=⟨X b.p,0,0⟩) (xs:=[]) (ys:=xs) qJ (show qh.info? 3=X qI from by kernel_rfl) (zv:= .z 0) qa qa O qb h2 0 O hx2 hlen (by
   have e:qI.bytes=8:=qa
   rw[e,TU];omega) λs' w _ h=>hK _ w h
theorem Cv{mb:S}{M:J (Slot × dB)}{K:qg S->Pw}(h:Ow B w0 w L)(i:S)(hi:L[i]?=X (iV mb M))(hK:∀m' w',Ow B w0 w' (iV m' M::L)->K (X m') w'):aaw (X mb) K w:=by
 have hM:lJ eF jX w mb M:=(h.take i hi).head λ_ h=>h.2;obtain⟨es,c,hb,h2⟩:=hM.ex;unfold aaw;refine lk func199 O ?_;refine(AnyW.maps_Clone Tryz.NX mb es c w hb).mono ?_;rintro e w' ⟨rfl,rfl⟩;refine⟨_,O,hK _ _ (h.new (A':=iV w.heap.size M) (G':=λk=>k=w.heap.size) (ff _ _) ⟨O,⟨⟨es,c,heap_alloc_new _ _,h2⟩,hM.nodup⟩⟩ λk e=>⟨om,by rw[e];simp⟩)⟩
theorem ou{K:qg qf->Pw}(h:Ow B w0 w (aC b bits H::R))(hK:∀b' w',Ow B w0 w' (aC b' bits H::aC b bits H::R)->K b'.o w'):Za b.o K w:=by
 apply aet;obtain⟨⟨xs,m,M⟩,hk,hM,h⟩:=h.nodes;dsimp only at hM h;have hfew:=hk.fu;refine h.dr λw h=>?_;refine⟨_,O,xs,h.aE O,_,O,X m,h.aE O,En h om λs w h=>?_,trivial⟩;refine⟨h.aE O,Cv h 3 O λm' w h=>?_,trivial⟩;refine⟨h.al λw' h=>?_,trivial⟩;generalize w.heap.size=b' at h|-;refine hK b' w' (Ow.fi (s:=s) (m:=m') hk hM (Ow.sub (L:=aC b bits H::ae b' [bz s,.map (X m')]::ag ax s bits::iV m' M::R) ?_));exact Ow.fi (s:=xs) (m:=m) hk hM h.sub
end
end Sl
end Go.Vc
namespace Go.Vc
open Go.Proofs
section
variable{N B:S}{w0 w:W}{R L:J aG}{b:S}{k:ai}
theorem Hc{s:Sl}{xs:J sV}{K:Sl->Pw}[ale:bG s L sV dV xs](h:Ow B w0 w L)(hbig:xs.length<=1000000)(hK:∀s' w',Ow B w0 w' (ag dV s' xs::L)->K s' w'):Ze s K w:=by
 apply afn;exact ng (s:=s) (E:=dV) (xs:=xs) (zv:= .agg ⟨dV.enc ⟨0,0,0⟩⟩) underlying52 (show qh.info? 98=X akm from by kernel_rfl) qa qa O qb h (by
  have e:akm.bytes=24:=qa
  rw[e];omega) hK
theorem xp{α:Type}{A:S->α->aG}{ps:J S}{xs:J α}{s:Sl}{one:V}{T el tn:qi}{inf:qL}{K:Sl->Pw}
  (hu:qh.underlying T=X (.slice el)) (hi:qh.info? el=X inf) (hz:inf.zero=X (.pointer Q)) (hsz:inf.size=1) (hb:inf.bytes=8)
  (hn:xs.length<=1000000) (hone:∀(p:S)(x:α)(L:J aG)(w:W)(alf:qg qf->Pw),x∈xs->Ow B w0 w (A p x::L)->(∀p' w',Ow B w0 w' (A p' x::A p x::L)->alf p'.o w')->fP qh one [.q p] w λen w'=>∃r:qg qf,en= .returned (.pointer r)/\alf r w')
  (h:Ow B w0 w (ag bw s ps::aq A ps xs::R)) (hK:∀out ps' w',Ow B w0 w' (ag bw out ps'::aq A ps' xs::ag bw s ps::aq A ps xs::R)->K out w'):
  ∀l3:Sl->U->Pw,
  (∀(out4:Sl)(t5:U)(w6:W),(bif qe (t5<(s.len:U))then
  (∃a7:qf,s.a=X a7/\0<=t5/\t5<(s.len:U)/\
  ∃t8:qg qf,w6.cell? (a7.add (t5.toNat*1))=X (.pointer t8)/\
  fP qh (one) [.pointer t8] w6 λenw10 w10=>∃r9:qg qf,enw10= .returned (.pointer r9)/\
  Al w10 (.cells #[.pointer r9] tn) λw11=>
  ∃(t12:Sl)(w13:W),dO qh [T,T] T out4.v (.slice (X w10.heap.size.p) 1 1) w11 t12 w13/\
  l3 t12 (qj.wrap (t5+(1:U))) w13)
  else
  (K out4 w6))->l3 out4 t5 w6)->
  l3 z0 (0:U) w:=by
 intro l3 hl3;have hpl:=(h.pick (A:=aq A ps xs)).cz;have hl:s.len=ps.length:=h.aF s;have loop:∀(m j:S)(out:Sl)(ps':J S)(w:W),j+m=xs.length->Ow B w0 w (ag bw out ps'::aq A ps' (xs.take j)::ag bw s ps::aq A ps xs::R)->l3 out (j:U) w:=by
  intro m;induction m with
  |zero=>
   intro j out ps' w hj h;apply hl3;refine av om ?_;rw[SE om]at h;exact hK out ps' w h
  |succ m ih=>
   intro j out ps' w hj h;have hpl':=(h.pick (A:=aq A ps' (xs.take j))).cz;have hx:xs[j]?=X xs[j]:=gE om;have hp:ps[j]?=X ps[j]:=gE om;generalize xs[j]=x at hx;generalize ps[j]=p at hp;apply hl3;refine az om ?_;refine dG (s:=s) h O hp λa ha hc=>⟨_,hc,?_⟩
   have h:=(h.pick (A:=aq A ps xs)).vF hp hx;refine hone p x _ w _ (SU hx) h λp' w h=>?_;have h:=((h.pick (A:=aQ ((SC A ps xs).eraseIdx j))).pick (A:=A p x)).cF hpl hp;rw[show xs.set j x=xs from by
    apply List.ext_getElem?;intro i;rw[List.getElem?_set];split
    .rename_i e;subst e;rw[Z om,hx]
    .rfl]at h
   refine h.al λw2 h=>?_;generalize w.heap.size=c at h|-;refine Ow.eZ (E:=bw) (s:=out) (xs:=ps') (y:=p') hu hi hz hsz O (by rw[hb];decide) h (by rw[hb,hpl',SN];omega) λs' w hs' h=>?_;rw[wr om om,show((j:U)+1)=((j+1:S):U)from by omega];refine ih (j+1) s' (ps'++ [p']) w om ?_;have h:Ow B w0 w (A p' x::aq A ps' (xs.take j)::_):=(h.pick (A:=aq A ps' (xs.take j))).pick;have h:=h.ll;rw[show xs.take (j+1)=xs.take j++ [x]from by rw[SO,hx];rfl];exact h.sub
 refine loop xs.length 0 z0 [] w (Nat.zero_add _) ?_;rw[List.take_zero];have h:Ow B w0 w (aq A [] []::ag bw s ps::aq A ps xs::R):=Ow.ic O h;exact Ow.cB (E:=bw) h
theorem Eu{K:qg qf->Pw}(hk:bD N k)(hN:N<=200000)(h:Ow B w0 w (ao b k::R))(hK:∀b' w',Ow B w0 w' (ao b' k::ao b k::R)->K b'.o w'):Yr b.o K w:=by
 apply agt;have nu:=hk.nu;have ne:=hk.ne;have nn:=hk.nn;have ns:=hk.ns;obtain⟨x,h⟩:=h.zi;refine⟨_,O,h.Di (x4:=x.su) (x5:=x.se) (x6:=x.sn) (x7:=x.ss) O (h.a λc w1 h=>?_)⟩;refine h.aB O O λw h=>?_;refine h.dr λw h=>?_;refine⟨_,O,_,h.aE O,_,O,_,O,_,O,_,O,_,h.aA O,_,h.aA O,_,h.aA O,x.su,h.aA O,Sl.ou (h.pick (A:=Sl.aC x.n k.bits k.H)) λn' w h=>?_,trivial⟩;refine⟨h.aA O,h.aA O,h.aA O,h.aA O,Tr.yG (h.pick (A:=Tr.cg x.tr k.T)) λt' w h=>?_,trivial⟩;refine⟨h.aA O,h.aA O,h.aA O,Th.zw hk.inv.ok (h.pick (A:=Th.bJ x.t k.t)) λth' w h=>?_,trivial⟩;refine⟨h.aA O,h.aA O,zh (by rw[hk.ln];decide) (h.pick (A:=bS x.ln k.ln)) λln' w h=>?_,trivial⟩;refine⟨h.aA O,Hc (s:=x.su) (xs:=k.u) h om λsu' w h=>?_,trivial⟩;refine⟨h.jD O O λw h=>⟨?_,trivial⟩,trivial⟩
 refine h.fD O O λw h=>⟨?_,trivial⟩
 refine h.fD O O λw h=>⟨?_,trivial⟩
 refine h.fD O O λw h=>⟨?_,trivial⟩
 refine h.fD O O λw h=>?_;refine⟨_,O,x.se,h.aA O,?_⟩;apply agA;refine xp (A:=da) (ps:=x.pe) (xs:=k.ends) (inf:=akv) akW qa qa qa qa om (λp y L w alf _ h hQ=>aY (show Xp p.o alf w from rU h hQ)) ((h.pick (A:=aq da x.pe k.ends)).pick (A:=ag bw x.se x.pe)) λse' pe' w h=>?_;refine h.fD O O λw h=>?_;refine⟨_,O,x.sn,h.aA O,?_⟩;apply agB;refine xp (A:=cu) (ps:=x.pn) (xs:=k.notes) (inf:=akw) akX qa qa qa qa om (λp y L w alf _ h hQ=>aY (show Xq p.o alf w from uS h hQ)) ((h.pick (A:=aq cu x.pn k.notes)).pick (A:=ag bw x.sn x.pn)) λsn' pn' w h=>?_;refine h.fD O O λw h=>?_;refine⟨_,O,x.ss,h.aA O,?_⟩;apply agC;refine xp (A:=Tb.bP) (ps:=x.ps) (xs:=k.af) (inf:=akx) akY qa qa qa qa om (λp y L w alf _ h hQ=>aY (show Xs p.o alf w from Tb.Hd h hQ)) ((h.pick (A:=aq Tb.bP x.ps k.af)).pick (A:=ag bw x.ss x.ps)) λss' ps' w h=>?_;refine h.fD O O λw h=>?_;have h:=h.pick (A:=aq Tb.bP x.ps k.af);have h:=h.pick (A:=ag bw x.ss x.ps);have h:=h.pick (A:=aq cu x.pn k.notes);have h:=h.pick (A:=ag bw x.sn x.pn);have h:=h.pick (A:=aq da x.pe k.ends);have h:=h.pick (A:=ag bw x.se x.pe);have h:=h.pick (A:=ag dV x.su k.u);have h:=h.pick (A:=bS x.ln k.ln);have h:=h.pick (A:=Th.bJ x.t k.t);have h:=h.pick (A:=Tr.cg x.tr k.T);have h:=h.pick (A:=Sl.aC x.n k.bits k.H);have h:=h.pick (A:=ae b (cr x k.aU k.cP k.bits.length k.t.bK.length));have h:Ow B w0 w (ao b k::_):=Ow.cN x h;have h:=h.pick (A:=aq Tb.bP ps' k.af);have h:=h.pick (A:=ag bw ss' ps');have h:=h.pick (A:=aq cu pn' k.notes);have h:=h.pick (A:=ag bw sn' pn');have h:=h.pick (A:=aq da pe' k.ends);have h:=h.pick (A:=ag bw se' pe');have h:=h.pick (A:=ag dV su' k.u);have h:=h.pick (A:=bS ln' k.ln);have h:=h.pick (A:=Th.bJ th' k.t);have h:=h.pick (A:=Tr.cg t' k.T);have h:=h.pick (A:=Sl.aC n' k.bits k.H);have h:=h.pick (A:=ae c (cr ⟨n',t',th',ln',su',se',sn',ss',pe',pn',ps'⟩ k.aU k.cP k.bits.length k.t.bK.length));have h:Ow B w0 w (ao c k::_):=Ow.cN ⟨n',t',th',ln',su',se',sn',ss',pe',pn',ps'⟩ h;exact hK c w h.sub
end
namespace Mc
section
variable{B:S}{w0 w:W}{R L:J aG}{M mb rb:S}{R':J aG}{b b2 nc N g p:S}{m m2:cV}{n:U}{s pr:Sl}{x:LZ}{z:Rx}{s2:Sl}{alf:J aG}{K:I->Pw}
theorem QP{w:W}{a:qf}{x:Cm}{f:qg qf->U->U->U->U->U->Sl->Prop}(g:∀c v,(cE.enc x)[c]?=X v->w.cell? (a.add c)=X v)(hf:f x.p.o x.bH x.n x.e x.w x.wk x.fs):
  hI w a 0 [.p,.o,.o,.o,.u,.o,.s] f:=⟨_,g 0 _ O,_,g 1 _ O,_,g 2 _ O,_,g 3 _ O,_,g 4 _ O,_,g 5 _ O,x.fs,g 6 _ O,hf⟩
def Hk(pr:Sl)(b:S)(m:cV):aG:=oA λx:Mx=>aQ [dw (x.xs.map (·.1)=m.cs/\x.pr=pr),ae b (cX x),ao x.k m.k,bo x.l m.cs.length m.line,cU x.b m.bx,ag cE x.cs (gV x.ps x.xs),aq (cM m.room) x.ps x.xs]
theorem PL(h:Ow B w0 w (Hk pr b m::R)):∃x:Mx,(x.xs.map (·.1)=m.cs/\x.pr=pr)/\Ow B w0 w (ae b (cX x)::ao x.k m.k::bo x.l m.cs.length m.line::cU x.b m.bx::ag cE x.cs (gV x.ps x.xs)::aq (cM m.room) x.ps x.xs::R):=by obtain⟨x,h⟩:=h.ex;obtain⟨h1,h⟩:=Ow.pure h.star;exact⟨x,h1,h⟩
theorem MM(x:Mx)(hx:x.xs.map (·.1)=m.cs/\x.pr=pr)(h:Ow B w0 w (ae b (cX x)::ao x.k m.k::bo x.l m.cs.length m.line::cU x.b m.bx::ag cE x.cs (gV x.ps x.xs)::aq (cM m.room) x.ps x.xs::R)):Ow B w0 w (Hk pr b m::R):=
 Ow.eu x (Ow.aR (Ow.cI hx h))
theorem Ii(e:m.prog=m2.prog)(h:Ow B w0 w (bX pr b m::Hk pr b2 m2::R)):Ow B w0 w (bX pr b2 m2::R):=by obtain⟨x,⟨hx,hpr⟩,h⟩:=xI h;obtain⟨y,hy,h⟩:=PL (h.pick (A:=Hk pr b2 m2));rw[hpr,<-hy.2,e]at h;exact lh y hy h.sub
theorem Ew{K:qg qf->Pw}(hm:dn nc N g m)(hN:N<=200000)(hg:g<=900000)(h:Ow B w0 w (bX pr b m::R))(hK:∀b' w',Ow B w0 w' (Hk pr b' m::bX pr b m::R)->K b'.o w'):Yw b.o K w:=by
 apply ae6;refine h.dr λw h=>?_;obtain⟨x,hx,h⟩:=xI h;have hcs:=hm.cs;have hxl:x.xs.length=nc:=by rw[<-hcs,<-hx.1,S9]
 have hpl:x.ps.length=x.xs.length:=Ow.cz (h.pick (A:=aq (cM m.room) x.ps x.xs));have hn1:=hm.n1;have hn8:=hm.n8;rw[hcs]at h;refine⟨_,O,_,h.aE O,_,O,_,O,_,O,_,h.aA O,_,h.aA O,x.pr,h.aA O,Eu hm.k hN (h.pick (A:=ao x.k m.k)) λkb w h=>⟨h.aA O,h.aA O,h.aA O,?_,trivial⟩,trivial⟩
 refine xG hn1 hn8 hm.NH hm.lr (SY (Sl.rk nc m.line hm.NH hm.lr) hm.n8) (h.pick (A:=bo x.l nc m.line)) λlb w h=>⟨h.aA O,h.aA O,?_,trivial⟩
 refine zc (by rw[hm.bx];omega) hm.EK (h.pick (A:=cU x.b m.bx)) λbb w h=>⟨h.aA O,?_,trivial⟩
 refine h.a λmb w2 h=>?_;refine⟨_,O,x.cs,h.aA O,?_⟩;have hlc:=h.aF x.cs;rw[Uu]at hlc;intro l hl;have loop:∀(q j:S)(cs:Sl)(ps:J S)(xs:J (uu × Sl))(w:W),j+q=nc->xs.map (·.1)=(x.xs.take j).map (·.1)->
   Ow B w0 w (ae mb [.q kb,.q lb,.q bb,cs.v,x.pr.v]::ag cE cs (gV ps xs)::aq (cM m.room) ps xs::ao kb m.k::bo lb nc m.line::cU bb m.bx::
    ae b (cX x)::ao x.k m.k::bo x.l nc m.line::cU x.b m.bx::ag cE x.cs (gV x.ps x.xs)::aq (cM m.room) x.ps x.xs::ag aN x.pr m.prog::R)->l (j:U) w:=by
  intro q;induction q with
  |zero=>
   intro j cs ps xs w hj hxs h;apply hl;refine av om ?_;rw[SE om,hx.1]at hxs;have h2:Ow B w0 w (ae mb (cX ⟨kb,lb,bb,cs,x.pr,ps,xs⟩)::ao kb m.k::bo lb m.cs.length m.line::cU bb m.bx::ag cE cs (gV ps xs)::aq (cM m.room) ps xs::bX pr b m::R):=by
    rw[hcs];have h3:Ow B w0 w (ae b (cX x)::ao x.k m.k::bo x.l m.cs.length m.line::cU x.b m.bx::ag cE x.cs (gV x.ps x.xs)::aq (cM m.room) x.ps x.xs::ag aN x.pr m.prog::ae mb [.q kb,.q lb,.q bb,cs.v,x.pr.v]::ag cE cs (gV ps xs)::aq (cM m.room) ps xs::ao kb m.k::bo lb nc m.line::cU bb m.bx::R):=by rw[hcs];exact h.sub
    have h4:=lh x hx h3;exact h4.sub
   exact hK mb w (MM ⟨kb,lb,bb,cs,x.pr,ps,xs⟩ ⟨hxs,hx.2⟩ h2)
  |succ q ih=>
   intro j cs ps xs w hj hxs h;have hpl2:ps.length=xs.length:=Ow.cz (h.pick (A:=aq (cM m.room) ps xs));have hxl2:xs.length=j:=by have:=qz List.length hxs;rw[S9,S9,SN]at this;omega
   have hp:x.ps[j]?=X x.ps[j]:=gE om;generalize x.ps[j]=p at hp;have hxj:x.xs[j]?=X x.xs[j]:=gE om;generalize x.xs[j]=y at hxj;obtain⟨c,fs⟩:=y;have hcm:c∈m.cs:=by rw[<-hx.1];exact List.mem_map.2 ⟨_,SU hxj,O⟩
   have htl:=hm.tl c hcm;have hr8:=hm.r8;have hfg:=hm.fg c hcm;have hzj:(gV x.ps x.xs)[j]?=X (cm p (c,fs)):=by rw[Um,hp,hxj]
   apply hl;refine az om ?_;refine h.cd (s:=x.cs) O hzj λa ha hc0 hc=>?_;refine QP (x:=cm p (c,fs)) hc ?_;refine h.a λe w3 h=>?_;refine h.aB O O λw h=>?_;refine h.dr λw h=>(h.l1 O ?_)
   refine eA (h.gn (x3:=fs) O ⟨?_,trivial⟩);have h2:=Ow.vF (h.pick (A:=aq (cM m.room) x.ps x.xs)) hp hxj;have h3:Ow B w0 w (bu p m.room c.tl::ag au fs c.told.forget::aQ ((SC (cM m.room) x.ps x.xs).eraseIdx j)::ae e [.q p,.z c.bH,.z c.n,.z c.told.e,.y c.told.w,.z c.told.cv,fs.v]::ae mb [.q kb,.q lb,.q bb,cs.v,x.pr.v]::ag cE cs (gV ps xs)::aq (cM m.room) ps xs::ao kb m.k::bo lb nc m.line::cU bb m.bx::
    ae b (cX x)::ao x.k m.k::bo x.l nc m.line::cU x.b m.bx::ag cE x.cs (gV x.ps x.xs)::ag aN x.pr m.prog::R):=h2.star
   refine zy (b:=p) om h3 λtb w h=>?_;refine L4 (h.hd O ⟨?_,trivial⟩);refine vd (fs:=fs) (F:=c.told.forget) om h λs w h=>⟨?_,trivial⟩
   refine h.jD O O λw h=>⟨?_,trivial⟩
   refine wu (h.aB O O λw h=>?_);refine h.dr λw h=>⟨_,O,cs,h.aA O,?_⟩
   refine h.zj (x6:=s) O ⟨?_,trivial⟩;refine h.al λw4 h=>⟨?_,trivial⟩
   generalize w.heap.size=f at h|-;have h:Ow B w0 w4 (ae f (cE.enc (cm tb (c,s)))::_):=h;refine zL (s:=cs) (ys:=gV ps xs) h (by rw[Uu];omega) λs' w hs' h=>⟨_,O,?_,trivial⟩
   refine h.fD O O λw h=>?_;rw[wI j om];refine ih (j+1) s' (ps++ [tb]) (xs++ [(c,s)]) w om (by rw[S0,hxs,SO,hxj,S0];rfl) ?_;have ez:gV (ps++ [tb]) (xs++ [(c,s)])=gV ps xs++ [cm tb (c,s)]:=by show SC cm _ _=_;rw[Vn hpl2];rfl
   rw[ez];have h4:Ow B w0 w (bu tb m.room c.tl::ag au s c.told.forget::aq (cM m.room) ps xs::bu p m.room c.tl::ag au fs c.told.forget::aQ ((SC (cM m.room) x.ps x.xs).eraseIdx j)::ae mb [.q kb,.q lb,.q bb,s'.v,x.pr.v]::ag cE s' (gV ps xs++ [cm tb (c,s)])::ao kb m.k::bo lb nc m.line::cU bb m.bx::
    ae b (cX x)::ao x.k m.k::bo x.l nc m.line::cU x.b m.bx::ag cE x.cs (gV x.ps x.xs)::ag aN x.pr m.prog::R):=h.sub
   have h5:Ow B w0 w (cM m.room tb (c,s)::aq (cM m.room) ps xs::_):=Ow.aR (M:=[bu tb m.room c.tl,ag au s c.told.forget]) h4;have h6:=h5.ll;have h7:Ow B w0 w (bu p m.room c.tl::ag au fs c.told.forget::aQ ((SC (cM m.room) x.ps x.xs).eraseIdx j)::aq (cM m.room) (ps++ [tb]) (xs++ [(c,s)])::ae mb [.q kb,.q lb,.q bb,s'.v,x.pr.v]::ag cE s' (gV ps xs++ [cm tb (c,s)])::ao kb m.k::bo lb nc m.line::cU bb m.bx::
    ae b (cX x)::ao x.k m.k::bo x.l nc m.line::cU x.b m.bx::ag cE x.cs (gV x.ps x.xs)::ag aN x.pr m.prog::R):=h6.sub
   have h8:Ow B w0 w (cM m.room p (c,fs)::aQ ((SC (cM m.room) x.ps x.xs).eraseIdx j)::_):=Ow.aR (M:=[bu p m.room c.tl,ag au fs c.told.forget]) h7;have h9:=Ow.cF (A:=cM m.room) hpl hp h8;rw[mm hxj]at h9;exact h9.sub
 have h2:Ow B w0 w2 (aq (cM m.room) [] []::ag cE z0 []::_):=Ow.ic O (Ow.cB h);have h3:Ow B w0 w2 (ae mb [.q kb,.q lb,.q bb,.slice Q 0 0,x.pr.v]::ag cE z0 []::aq (cM m.room) [] []::ao kb m.k::bo lb nc m.line::cU bb m.bx::ae b (cX x)::ao x.k m.k::bo x.l nc m.line::cU x.b m.bx::ag cE x.cs (gV x.ps x.xs)::aq (cM m.room) x.ps x.xs::ag aN x.pr m.prog::R):=h2.sub;exact loop nc 0 z0 [] [] w2 om O h3
def Pa(m1 k2:qg qf)(K:I->Pw)(w33:W):Prop:=
 (∃a34:qf,k2=X a34/\
  (VX m1 (0:U) (λr35 w36=>
  ∃k37:qg qf,w36.cell? a34=X (.pointer k37)/\
  ∃a38:qf,k37=X a38/\
  ∃spaces39:Sl,w36.cell? (a38.add 7)=X spaces39.v/\
  ∃a40:qf,spaces39.a=X a40/\0<=(0:U)/\(0:U)<(spaces39.len:U)/\
  ∃t41:qg qf,w36.cell? (a40.add ((0:U).toNat*1))=X (.pointer t41)/\
  (VP t41 (λr42 w43=>
  (VH r35 r42 (λr44 w45=>
  K r44 w45) w43)/\
  qu) w36)/\
  qu) w33)/\
  (∃k46:qg qf,w33.cell? a34=X (.pointer k46)/\
  ∃a47:qf,k46=X a47/\
  (VX m1 (0:U) (λr48 w49=>
  ∃spaces50:Sl,w49.cell? (a47.add 7)=X spaces50.v/\
  ∃a51:qf,spaces50.a=X a51/\0<=(0:U)/\(0:U)<(spaces50.len:U)/\
  ∃t52:qg qf,w49.cell? (a51.add ((0:U).toNat*1))=X (.pointer t52)/\
  (VP t52 (λr53 w54=>
  (VH r48 r53 (λr55 w56=>
  K r55 w56) w54)/\
  qu) w49)/\
  qu) w33)/\
  (∃spaces57:Sl,w33.cell? (a47.add 7)=X spaces57.v/\
  ∃a58:qf,spaces57.a=X a58/\0<=(0:U)/\(0:U)<(spaces57.len:U)/\
  (VX m1 (0:U) (λr59 w60=>
  ∃t61:qg qf,w60.cell? (a58.add ((0:U).toNat*1))=X (.pointer t61)/\
  (VP t61 (λr62 w63=>
  (VH r59 r62 (λr64 w65=>
  K r64 w65) w63)/\
  qu) w60)/\
  qu) w33)/\
  (∃t66:qg qf,w33.cell? (a58.add ((0:U).toNat*1))=X (.pointer t66)/\
  (VX m1 (0:U) (λr67 w68=>
  (VP t66 (λr69 w70=>
  (VH r67 r69 (λr71 w72=>
  K r71 w72) w70)/\
  qu) w68)/\
  qu) w33)/\
  qu)/\
  qu)/\
  qu)/\
  qu)
def Qh(m1 k2:qg qf)(K:I->Pw)(w23:W):Prop:=
 (∃a24:qf,k2=X a24/\
  (V8 m1 (λr25 w26=>
  ∃k27:qg qf,w26.cell? a24=X (.pointer k27)/\
  ∃a28:qf,k27=X a28/\
  ∃n29:qg qf,w26.cell? a28=X (.pointer n29)/\
  (VW n29 (λr30 w31=>
  (VV r25 r30 (λr32 w33=>
  bif r32 then
  Pa m1 k2 K w33
  else
  ((((K qd w33)/\
  qu)/\
  qu)/\
  ((((K qd w33)/\
  qu)/\
  qu)/\
  ((((K qd w33)/\
  qu)/\
  qu)/\
  ((((K qd w33)/\
  qu)/\
  qu)/\
  qu)/\
  qu)/\
  qu)/\
  qu)) w31)/\
  qu) w26)/\
  qu) w23)/\
  (∃k73:qg qf,w23.cell? a24=X (.pointer k73)/\
  ∃a74:qf,k73=X a74/\
  (V8 m1 (λr75 w76=>
  ∃n77:qg qf,w76.cell? a74=X (.pointer n77)/\
  (VW n77 (λr78 w79=>
  (VV r75 r78 (λr80 w81=>
  bif r80 then
  Pa m1 k2 K w81
  else
  ((((K qd w81)/\
  qu)/\
  qu)/\
  ((((K qd w81)/\
  qu)/\
  qu)/\
  ((((K qd w81)/\
  qu)/\
  qu)/\
  ((((K qd w81)/\
  qu)/\
  qu)/\
  qu)/\
  qu)/\
  qu)/\
  qu)) w79)/\
  qu) w76)/\
  qu) w23)/\
  (∃n121:qg qf,w23.cell? a74=X (.pointer n121)/\
  (V8 m1 (λr122 w123=>
  (VW n121 (λr124 w125=>
  (VV r122 r124 (λr126 w127=>
  bif r126 then
  Pa m1 k2 K w127
  else
  ((((K qd w127)/\
  qu)/\
  qu)/\
  ((((K qd w127)/\
  qu)/\
  qu)/\
  ((((K qd w127)/\
  qu)/\
  qu)/\
  ((((K qd w127)/\
  qu)/\
  qu)/\
  qu)/\
  qu)/\
  qu)/\
  qu)) w125)/\
  qu) w123)/\
  qu) w23)/\
  qu)/\
  qu)/\
  qu)
abbrev jZ(pr:Sl)(mb rb nc:S)(m:cV)(x:LZ)(z:Rx)(s2:Sl)(alf:J aG):J aG:=
 bX pr mb m::ae rb (uo x)::ae x.k (FP z m.k.aU m.k.cP x.d)::Sl.a8 z.n m.k.bits m.k.H::ag bw z.ss z.ps::aq Tb.db z.ps m.k.af::ae x.l [.z (nc:U),s2.v]::ag ax s2 m.line::alf
theorem Oy(hm:dn nc N g m)(h:Ow B w0 w (bX pr mb m::dR M rb m::R)):
  ∃(x:LZ)(z:Rx)(s2:Sl)(alf:J aG),Ow B w0 w (jZ pr mb rb nc m x z s2 alf)/\∀w,Ow B w0 w (jZ pr mb rb nc m x z s2 alf)->Ow B w0 w (bX pr mb m::dR M rb m::R):=by
 obtain⟨x,hx,h⟩:=AJ (h.pick (A:=dR M rb m));rw[hm.cs]at h;obtain⟨z,h⟩:=mP (h.pick (A:=iz lG M x.k m.k x.d));obtain⟨s2,h⟩:=sG (h.pick (A:=bY x.l nc m.line));refine⟨x,z,s2,[Tr.cQ z.t m.k.T,Th.cp z.th m.k.t,dh z.ln m.k.ln,ag dV z.su m.k.u,ag bw z.se z.pe,aq eh z.pe m.k.ends,ag bw z.sn z.pn,aq (cq M) z.pn m.k.notes,lG z.sf x.d.forget,bT x.b m.bx,ag bw x.t x.ps,aq (λp l=>bu p m.room l) x.ps (zC m.cs),ag iB x.c (yc m.cs x.fs),bA au x.fs (eG m.cs),ag aN x.pr m.prog]++R,?_,λw h=>?_⟩
 .have h2:Ow B w0 w (bX pr mb m::ae rb (uo x)::ae x.k (FP z m.k.aU m.k.cP x.d)::Sl.a8 z.n m.k.bits m.k.H::ag bw z.ss z.ps::aq Tb.db z.ps m.k.af::ae x.l [.z (nc:U),s2.v]::ag ax s2 m.line::Tr.cQ z.t m.k.T::Th.cp z.th m.k.t::dh z.ln m.k.ln::ag dV z.su m.k.u::ag bw z.se z.pe::aq eh z.pe m.k.ends::ag bw z.sn z.pn::aq (cq M) z.pn m.k.notes::lG z.sf x.d.forget::bT x.b m.bx::ag bw x.t x.ps::aq (λp l=>bu p m.room l) x.ps (zC m.cs)::ag iB x.c (yc m.cs x.fs)::bA au x.fs (eG m.cs)::ag aN x.pr m.prog::R):=h.sub
  exact h2
 .have h2:Ow B w0 w (bX pr mb m::ae rb (uo x)::ae x.k (FP z m.k.aU m.k.cP x.d)::Sl.a8 z.n m.k.bits m.k.H::ag bw z.ss z.ps::aq Tb.db z.ps m.k.af::ae x.l [.z (nc:U),s2.v]::ag ax s2 m.line::Tr.cQ z.t m.k.T::Th.cp z.th m.k.t::dh z.ln m.k.ln::ag dV z.su m.k.u::ag bw z.se z.pe::aq eh z.pe m.k.ends::ag bw z.sn z.pn::aq (cq M) z.pn m.k.notes::lG z.sf x.d.forget::bT x.b m.bx::ag bw x.t x.ps::aq (λp l=>bu p m.room l) x.ps (zC m.cs)::ag iB x.c (yc m.cs x.fs)::bA au x.fs (eG m.cs)::ag aN x.pr m.prog::R):=h
  have h3:Ow B w0 w (ae x.l [.z (nc:U),s2.v]::ag ax s2 m.line::ae x.k (FP z m.k.aU m.k.cP x.d)::Sl.a8 z.n m.k.bits m.k.H::Tr.cQ z.t m.k.T::Th.cp z.th m.k.t::dh z.ln m.k.ln::ag dV z.su m.k.u::ag bw z.se z.pe::aq eh z.pe m.k.ends::ag bw z.sn z.pn::aq (cq M) z.pn m.k.notes::ag bw z.ss z.ps::aq Tb.db z.ps m.k.af::lG z.sf x.d.forget::ae rb (uo x)::bT x.b m.bx::ag bw x.t x.ps::aq (λp l=>bu p m.room l) x.ps (zC m.cs)::ag iB x.c (yc m.cs x.fs)::bA au x.fs (eG m.cs)::ag aN x.pr m.prog::bX pr mb m::R):=h2.sub;have h4:=jK h3;have h5:Ow B w0 w (ae x.k (FP z m.k.aU m.k.cP x.d)::Sl.a8 z.n m.k.bits m.k.H::Tr.cQ z.t m.k.T::Th.cp z.th m.k.t::dh z.ln m.k.ln::ag dV z.su m.k.u::ag bw z.se z.pe::aq eh z.pe m.k.ends::ag bw z.sn z.pn::aq (cq M) z.pn m.k.notes::ag bw z.ss z.ps::aq Tb.db z.ps m.k.af::lG z.sf x.d.forget::ae rb (uo x)::bY x.l nc m.line::bT x.b m.bx::ag bw x.t x.ps::aq (λp l=>bu p m.room l) x.ps (zC m.cs)::ag iB x.c (yc m.cs x.fs)::bA au x.fs (eG m.cs)::ag aN x.pr m.prog::bX pr mb m::R):=h4.sub;have h6:Ow B w0 w (iz lG M x.k m.k x.d::_):=Ow.eu z (Ow.aR h5);have h7:Ow B w0 w (ae rb (uo x)::iz lG M x.k m.k x.d::bY x.l nc m.line::bT x.b m.bx::ag bw x.t x.ps::aq (λp l=>bu p m.room l) x.ps (zC m.cs)::ag iB x.c (yc m.cs x.fs)::bA au x.fs (eG m.cs)::ag aN x.pr m.prog::bX pr mb m::R):=h6.sub;have h8:Ow B w0 w (dR M rb m::bX pr mb m::R):=nw x hx (by rw[hm.cs];exact h7);exact h8.sub
theorem BP(hm:dn nc N g m)(hN:N<=200000)(hz:Cr m.k)(h:Ow B w0 w (jZ pr mb rb nc m x z s2 alf))(hK:∀w',Ow B w0 w' (jZ pr mb rb nc m x z s2 alf)->K G w'):Pa mb.o rb.o K w:=by
 obtain⟨m0,hz⟩:=hz;have hk:=hm.k;have hpl:=(h.pick (A:=aq Tb.db z.ps m.k.af)).cz;have hlt:=(Sz.1 hz).1;have hpp:z.ps[0]?=X z.ps[0]:=gE om;generalize z.ps[0]=p at hpp;have epg:m.k.fo 0=m0.pg:=by unfold ai.fo;rw[tz.2 ⟨qb,om⟩,Z O];unfold ai.iR;rw[show(0:U).toNat=0 from O,hz];rfl
 have hple:m0.pg.length<=1000000:=by have:=fV.DD (hk.Cd m0 (SU hz));omega
 have look:∀(sp:Sl)(w:W),Ow B w0 w (ag Tb.aP sp (m.k.fo 0)::jZ pr mb rb nc m x z s2 alf)->
   VP p.o (λr42 w43=>(VH sp r42 (λr44 w45=>K r44 w45) w43)/\qu) w:=λsp w h=>by
  have h2:=(h.pick (A:=aq Tb.db z.ps m.k.af)).vF hpp hz;refine Tb.pw h2 λs3 w h=>⟨?_,trivial⟩
  rw[epg]at h;refine wc (xs:=m0.pg) (ys:=m0.pg) h (Rd.own (h.aF sp)) (Rd.own (h.aF s3)) hple λw h=>?_;rw[qp O];have h3:Ow B w0 w (Tb.db p m0::aQ ((SC Tb.db z.ps m.k.af).eraseIdx 0)::bX pr mb m::ae rb (uo x)::ae x.k (FP z m.k.aU m.k.cP x.d)::Sl.a8 z.n m.k.bits m.k.H::ag bw z.ss z.ps::ae x.l [.z (nc:U),s2.v]::ag ax s2 m.line::alf):=h.sub;have h4:=Ow.cF (A:=Tb.db) hpl hpp h3;rw[mm hz]at h4;exact hK w h4.sub
 have at0:∀(w:W)(L:J aG)(a:qf),z.ss.a=X a->Ow B w0 w (ag bw z.ss z.ps::L)->w.cell? (a.add ((0:U).toNat*1))=X (.q p):=λw L a ha h=>by obtain⟨a',ha',_,_,hc'⟩:=dG (s:=z.ss) (i:=0) (j:=0) (alc:=λa=>w.cell? (a.add ((0:U).toNat*1))=X (.q p)) h O hpp (λ_ _ hc=>hc);rw[ha]at ha';cases ha';exact hc'
 unfold Pa;refine⟨_,O,?_,⟨_,h.aE O,_,O,?_,⟨z.ss,h.aA O,?_⟩,trivial⟩,trivial⟩
 .refine lO (n:=0) (h.pick (A:=bX pr mb m)) λsp w h=>⟨_,h.aE O,_,O,z.ss,h.aA O,?_⟩
  exact dG (s:=z.ss) (i:=0) (j:=0) h O hpp λa ha hc=>⟨_,hc,look sp w h.sub,trivial⟩
 .refine lO (n:=0) (h.pick (A:=bX pr mb m)) λsp w h=>⟨z.ss,h.aA O,?_⟩
  exact dG (s:=z.ss) (i:=0) (j:=0) h O hpp λa ha hc=>⟨_,hc,look sp w h.sub,trivial⟩
 .refine dG (s:=z.ss) (i:=0) (j:=0) h O hpp λa ha hc=>⟨?_,⟨_,hc,?_,trivial⟩,trivial⟩
  .exact lO (n:=0) (h.pick (A:=bX pr mb m)) λsp w h=>⟨_,at0 w _ a ha (h.pick (A:=ag bw z.ss z.ps)),look sp w h.sub,trivial⟩
  .exact lO (n:=0) (h.pick (A:=bX pr mb m)) λsp w h=>⟨look sp w h.sub,trivial⟩
theorem Oa(hm:dn nc N g m)(hN:N<=200000)(hz:Cr m.k)(h:Ow B w0 w (jZ pr mb rb nc m x z s2 alf))(hK:∀w',Ow B w0 w' (jZ pr mb rb nc m x z s2 alf)->K G w'):Qh mb.o rb.o K w:=by
 have hk:=hm.k;have same:∀(s1:Sl)(w:W)(alc:I->Pw),Ow B w0 w (ag Sl.eM s1 (fS m.k.H)::jZ pr mb rb nc m x z s2 alf)->(∀w',Ow B w0 w' (jZ pr mb rb nc m x z s2 alf)->alc G w')->
   VW z.n.o (λr30 w31=>(VV s1 r30 alc w31)/\qu) w:=λs1 w alc h hG=>by
  refine Sl.nT (h.pick (A:=Sl.a8 z.n m.k.bits m.k.H)) λs3 hs w hih h=>⟨?_,trivial⟩
  obtain rfl:hs=fS m.k.H:=hih.uniq (tw λt c hc=>(hk.held t c hc).1);refine vZ h (Rd.own (h.aF s1)) (Rd.own (h.aF s3)) (by have:=uF m.k.H;omega) λw h=>?_;rw[qp O];exact hG w h.sub
 unfold Qh;refine⟨_,O,?_,⟨_,h.aE O,_,O,?_,⟨_,h.aE O,?_,trivial⟩,trivial⟩,trivial⟩
 .exact mX hm (h.pick (A:=bX pr mb m)) λs1 w h=>⟨_,h.aE O,_,O,_,h.aE O,same s1 w _ h.sub λw h=>aW O (BP hm hN hz h hK),trivial⟩
 .exact mX hm (h.pick (A:=bX pr mb m)) λs1 w h=>⟨_,h.aE O,same s1 w _ h.sub λw h=>aW O (BP hm hN hz h hK),trivial⟩
 .exact mX hm (h.pick (A:=bX pr mb m)) λs1 w h=>⟨same s1 w _ h.sub λw h=>aW O (BP hm hN hz h hK),trivial⟩
theorem vT{K:I->Pw}(hm:dn nc N g m)(hN:N<=200000)(hz:Cr m.k)(h:Ow B w0 w (bX pr mb m::dR M rb m::R))(hK:∀w',Ow B w0 w' (bX pr mb m::dR M rb m::R)->K G w'):
  Yz mb.o rb.o K w:=by
 apply aj2;have hn8:=hm.n8;have hll:=hm.PK;intro l3 hl3;have gH:∀(w:W)(L:J aG),Ow B w0 w (dR M rb m::L)->∃c:Sl,w.cell? (rb.p.add 4)=X c.v/\c.len=nc:=λw L h=>by obtain⟨x,hx,h⟩:=AJ h;have hlen:=h.aF x.c;rw[Uu,hx.1,hm.cs]at hlen;exact⟨x.c,h.aA O,om⟩
 have loop:∀(q j:S)(w:W),j+q=nc->Ow B w0 w (bX pr mb m::dR M rb m::R)->l3 (j:U) w:=by
  intro q;induction q with
  |zero=>
   intro j w hj h;apply hl3;obtain⟨c,hc,hcl⟩:=gH w _ (h.pick (A:=dR M rb m));refine⟨_,O,c,hc,az om (uv (n:=(j:U)) hm h ?_)⟩;rw[Y om,ql om];refine wZ (n:=(j:U)) hm h λs w h=>?_;rw[Y om]at h;have hs:=h.aF s;obtain⟨c,hc,hcl⟩:=gH w _ (h.pick (A:=dR M rb m));refine⟨_,O,c,hc,gC om (h.dr λw h=>aW O (gC (by simp at hs;omega) ?_))⟩;have h:Ow B w0 w (bX pr mb m::dR M rb m::R):=h.sub;obtain⟨x,z,s2,alf,h,back⟩:=Oy hm h;have nums:∀(s1:Sl)(w:W)(alc:I->Pw),Ow B w0 w (ag ax s1 m.line::jZ pr mb rb nc m x z s2 alf)->(∀w',Ow B w0 w' (jZ pr mb rb nc m x z s2 alf)->alc G w')->Xg s1 s2 alc w:=λs1 w alc h hG=>
    Lb (s:=s1) (t:=s2) (xs:=m.line) om h λw h=>hG w h.drop
   have fin:∀(w:W),Ow B w0 w (jZ pr mb rb nc m x z s2 alf)->Qh mb.o rb.o K w:=λw h=>Oa hm hN hz h λw h=>hK w (back w h);refine⟨_,O,?_,⟨_,h.aA O,_,O,?_,⟨s2,h.aA O,?_,trivial⟩,trivial⟩,trivial⟩
   .exact uw hm (h.pick (A:=bX pr mb m)) λs1 w h=>⟨_,h.aA O,_,O,s2,h.aA O,nums s1 w _ h.sub λw h=>aW O (fin w h),trivial⟩
   .exact uw hm (h.pick (A:=bX pr mb m)) λs1 w h=>⟨s2,h.aA O,nums s1 w _ h.sub λw h=>aW O (fin w h),trivial⟩
   .exact uw hm (h.pick (A:=bX pr mb m)) λs1 w h=>⟨nums s1 w _ h.sub λw h=>aW O (fin w h),trivial⟩
  |succ q ih=>
   intro j w hj h;have hj0:(0:U)<=(j:U):=om
   have hj1:(j:U)<(nc:U):=om
   obtain⟨hc1,hc2⟩:=hm.Gm hj0 hj1;have htl:=hm.tl _ hc2;have hr8:=hm.r8;apply hl3;obtain⟨c,hc,hcl⟩:=gH w _ (h.pick (A:=dR M rb m));refine⟨_,O,c,hc,az om (uv (n:=(j:U)) hm h ?_)⟩;rw[Z ⟨hj0,hj1⟩,qp ⟨hj0,hj1⟩];refine wZ (n:=(j:U)) hm h λs w h=>?_;rw[Z ⟨hj0,hj1⟩]at h;obtain⟨c,hc,hcl⟩:=gH w _ (h.pick (A:=dR M rb m));refine⟨_,O,c,hc,jk om ?_⟩;intro k465 hk465;refine h.dr λw h=>aV O ?_;obtain⟨x,p,fs,Y1,Y2,ald,hp,hZ,hzl,hpl,h,back⟩:=FN hm hj0 hj1 (h.pick (A:=dR M rb m));obtain⟨sl,h⟩:=wm (h.pick (A:=bu p m.room (m.aj (j:U)).tl));refine⟨_,O,x.c,h.aA O,tN (s:=x.c) h hj0 hZ λa ha hc0 hc=>⟨_,hc0 _ O,fh O ⟨_,O,x.t,h.aA O,?_⟩⟩⟩;refine dG (s:=x.t) (i:=(j:U)) (j:=(j:U).toNat) h om hp λa2 ha2 hc2=>⟨_,hc2,_,O,sl,h.aE O,?_,trivial⟩
   refine MY (s:=s) (t:=sl) (xs:=(m.aj (j:U)).tl) om h λw h=>aV O ?_;have next:∀w,Ow B w0 w (ae p [sl.v,.z m.room]::ag au sl (m.aj (j:U)).tl::ae rb (uo x)::iz lG M x.k m.k x.d::bY x.l nc m.line::bT x.b m.bx::ag bw x.t x.ps::ag iB x.c ald::ag au fs (m.aj (j:U)).told.forget::Y1::Y2::ag aN x.pr m.prog::bX pr mb m::R)->k465 (gk m.bx (j:U) !=gk m.bx (j:U)) w:=λw h=>by rw[show(gk m.bx (j:U) !=gk m.bx (j:U))=qd from by simp];apply hk465;refine aV O ?_;rw[wI j om];refine ih (j+1) w om ?_;have h2:=gK h;have h3:Ow B w0 w (OR M rb nc x p fs Y1 Y2 m (m.aj (j:U)) ald (bX pr mb m::R)):=h2.sub;have h4:=back M x.d (bX pr mb m::R) m (m.aj (j:U)) fs w (mm hc1).symm O O (by rw[mm hZ];exact h3);exact h4.sub
   refine⟨_,O,?_,⟨_,h.aA O,?_,trivial⟩,trivial⟩
   .refine zG (n:=(j:U)) hm (h.pick (A:=bX pr mb m)) λw h=>⟨_,h.aA O,?_,trivial⟩
    exact lu (bx:=m.bx) (by rw[hm.bx];omega) hm.EK (h.pick (A:=bT x.b m.bx)) λw h=>next w h.sub
   .refine zG (n:=(j:U)) hm (h.pick (A:=bX pr mb m)) λw h=>⟨?_,trivial⟩
    exact lu (bx:=m.bx) (by rw[hm.bx];omega) hm.EK (h.pick (A:=bT x.b m.bx)) λw h=>next w h.sub
 exact loop nc 0 w om h
theorem Cr.item{nc N g:S}{m:cV}(hm:dn nc N g m)(h:Cr m.k)(x:Item):Cr (m.item x).2.k:=by
 have hik:=Ik.item hm x;generalize m.item x=ald at hik;obtain⟨r,m'⟩:=ald;cases r with
 |none=>
  have e:m'.k=m.k:=hik;rw[show((Q,m'):qg Seen × cV).2.k=m'.k from O,e];exact h
 |some s=>
  show Cr m'.k;rcases hik with⟨_,_,ek,_⟩|⟨_,ek,_⟩|⟨_,ek,_⟩|⟨_,ek⟩
  .rw[show m'.k=_ from ek];exact h.do hm.k _ _
  .rw[show m'.k=_ from ek]
   obtain⟨q,hq⟩:=h;exact⟨q,by rw[Ko];exact hq⟩
  .rw[show m'.k=_ from ek];exact h
  .rw[show m'.k=_ from ek];exact h
theorem np{o1 o2 o3 o6:U}{prios:J U}{calls:J Call}{items:J Item}{s4 s5 s7:Sl}{K:I->Pw}
  (_:(Lit.int .i64 o1).wf=G) (_:(Lit.int .i64 o2).wf=G) (_:(Lit.int .i64 o3).wf=G) (hi4:Jd ax w0 s4 prios) (_:∀x∈prios,(Lit.int .i64 x).wf=G) (hi5:Jd aN w0 s5 calls) (hg5:∀c∈calls,xn c) (_:(Lit.int .i64 o6).wf=G)
  (hi7:Jd Gz w0 s7 items) (_:∀x∈items,De x)
  (h:Ow w0.heap.size w0 w []) (hK:∀w',Ow w0.heap.size w0 w' []->K G w'):W6 o1 o2 o3 s4 s5 o6 s7 K w:=by
 apply aiO;have hl7:=hi7.len;refine h.a λab w1 h=>?_;refine h.eE (x3:=s4) (x4:=s5) O ?_;refine Jr hi4 hi5 h λn bi li ps room s' s5' w n1 n3 b6 b12 l3 hpn hps r1 r8 h=>?_;refine h.a λpb w3 h=>?_;refine h.aB O O λw h=>?_;refine h.gn (x3:=s') O ?_;refine⟨s5',h.aA O,h.l2 O ?_⟩;have hct:(calls.take 40).length<=40:=by rw[SN];omega
 have hpr:=MS hg5;refine jF (prios:=ps) (prog:=calls.take 40) (s:=s') (s5:=s5') n1 om om om hpn hps r1 r8 om h λpr mb w h=>?_;refine h.gn (x3:=s') O ?_;refine⟨s5',h.aA O,h.l2 O (Iu (prios:=ps) (prog:=calls.take 40) (s:=s') (s5:=s5') n1 om om om hpn hps r1 r8 om h λrb w h=>?_)⟩;have k0:dn n 1 0 (eU (ai.fQ n bi li ps) n (calls.take 40) room):=wH n1 om om om hpn hps r1 r8;have p0:(eU (ai.fQ n bi li ps) n (calls.take 40) room).prog=calls.take 40:=rfl;have z0:Cr (eU (ai.fQ n bi li ps) n (calls.take 40) room).k:=Mi n bi li ps;have h:Ow w0.heap.size w0 w [bX pr mb (eU (ai.fQ n bi li ps) n (calls.take 40) room),dR 0 rb (eU (ai.fQ n bi li ps) n (calls.take 40) room)]:=h.sub;generalize eU (ai.fQ n bi li ps) n (calls.take 40) room=m0 at h k0 p0 z0;intro k42 hk42;refine aV O (aV O (fh O ?_));apply hk42;refine aV O ?_;clear hk42;intro l45 hl45;have loop:∀(q i M mb:S)(m:cV)(w:W),i+q=81->i<=80->M<=i->dn n (1+64*i) i m->Cr m.k->m.prog=calls.take 40->Ow w0.heap.size w0 w [bX pr mb m,dR M rb m]->l45 mb.o (i:U) w:=by
  intro q;induction q with
  |zero=>intro i M mb m w hi hi2;omega
  |succ q ih=>
   intro i M mb m w hi hi2 hM hm hz hp h;apply hl45;clear hl45;intro k49 hk49;have fin:k49 qd w:=by apply hk49;refine aV O ?_;exact Bq (show Ow w0.heap.size w0 w []from h.sub) hK
   refine bh (λe=>?_) (λe=>fin);by_cases e80:(i:U)<80
   case neg=>
    rw[ql e80];exact fin
   clear fin;rw[qp e80];apply hk49;refine aW O ⟨qb,?_⟩;clear hk49;have hlt:i<items.length:=om
   obtain⟨x,hxx⟩:∃x,items[i]?=X x:=⟨_,gE hlt⟩
   have hpr':ux m.prog:=by rw[hp];exact hpr
   have hit:=hm.item om x;have hm':dn n (1+64*(i+1)) (i+1) (m.item x).2:=hit.1.mono om (SA _);have hp':(m.item x).2.prog=calls.take 40:=by rw[uG];exact hp
   have hz':Cr (m.item x).2.k:=hz.item hm x;have hF:(((m.item x).1.getD eD).t.forget).length<=1000000000:=by
    cases hr:(m.item x).1 with
    |none=>simp[eD,tZ]
    |some s=>have:=hit.2 s hr;show s.t.forget.length<=_;omega
   intro k52 hk52;simp only[SD]at hk52|-;have body:∀(mb:S)(w:W),Ow w0.heap.size w0 w [bX pr mb m,dR M rb m]->k52 mb.o w:=by
    intro mb w h;apply hk52;clear hk52;obtain⟨a,ha,hcc⟩:=hi7.get h hxx;refine⟨a,ha,om,e,E7 hcc (fx (it:=x) hm om om hpr' (h.pick (A:=bX pr mb m)) λfs w h=>?_)⟩;unfold kg;refine h.a λsb w2 h=>?_;refine h.aB O O λw h=>?_;obtain⟨a,ha,hcc⟩:=hi7.get h hxx;refine⟨a,ha,om,e,E7 hcc (FC (it:=x) hm hz om om om (h.pick (A:=dR M rb m)) λfs2 ala w h hback=>?_)⟩;unfold kg;refine h.a λsb2 w2 h=>?_;refine h.aB O O λw h=>?_;intro k93 hk93;rw[show((m.item x).1.isSome==(m.item x).1.isSome)=G from by simp];refine aV O ?_;refine h.jJ (x6:=fs) O (h.jJ (x6:=fs2) O ?_);refine BY (s:=fs) (t:=fs2) (F:=((m.item x).1.getD eD).t.forget) hF h λw h=>aV O ?_;have h2:Ow w0.heap.size w0 w [ag au fs2 ((m.item x).1.getD eD).t.forget,ala,bX pr mb (m.item x).2]:=h.sub;have h3:=hback _ w h2;have h4:Ow w0.heap.size w0 w [bX pr mb (m.item x).2,dR (M+1) rb (m.item x).2]:=h3.sub;refine vT hm' om hz' h4 λw h=>?_;apply hk93;refine aV O ?_;rw[wI i om];exact ih (i+1) (M+1) mb (m.item x).2 w om om om hm' hz' hp' h
   clear hk52;refine dW (λe5=>?_) (λe5=>body mb w h);refine Ew hm om om (h.pick (A:=bX pr mb m)) λmb' w h=>?_;obtain⟨a,ha,hcc⟩:=hi7.get h hxx;refine⟨a,ha,om,e,E7 hcc (fx (it:=x) hm om om hpr' (h.pick (A:=bX pr mb m)) λfs w h=>?_)⟩;refine fx (it:=⟨0,0,0,0⟩) hm' om om (by rw[hp'];exact hpr) (h.pick (A:=bX pr mb (m.item x).2)) λfs2 w h=>?_;refine aV O ?_;have h2:Ow w0.heap.size w0 w [bX pr mb ((m.item x).2.item ⟨0,0,0,0⟩).2,Hk pr mb' m,dR M rb m]:=h.sub;exact body mb' w (Ii (by rw[uG,uG]) h2)
 exact loop 81 0 0 mb m0 w om om om k0 z0 p0 h
end
end Mc
end Go.Vc
namespace Go.Vc
open Go.ChangeShapes Go.WideShapes
section
variable{H:Type}{enc:qi × V->H}{P:qo}{held:I}
theorem Mc.Mj:∀cs,Fits [.int .i64,.int .i64,.int .i64,.int .i64,.int .i64,.int .i64] cs->∃x,cs=Mc.aN.enc x/\Mc.xn x:=λcs h0=>by obtain⟨_,_,rfl,⟨a,rfl,_⟩,h1⟩:=h0.dy;obtain⟨_,_,rfl,⟨b,rfl,_⟩,h2⟩:=h1.dy;obtain⟨_,_,rfl,⟨c,rfl,hc⟩,h3⟩:=h2.dy;obtain⟨_,_,rfl,⟨d,rfl,_⟩,h4⟩:=h3.dy;obtain⟨_,_,rfl,⟨e,rfl,_⟩,h5⟩:=h4.dy;obtain⟨_,_,rfl,⟨f,rfl,_⟩,h6⟩:=h5.dy;obtain rfl:=h6.BM;exact⟨⟨a,b,c,d,e,f⟩,O,hc⟩
theorem Mc.MC:∀cs,Fits [.int .i64,.int .i64,.int .i64,.int .i64] cs->∃x,cs=Mc.Gz.enc x/\Mc.De x:=λcs h0=>by obtain⟨_,_,rfl,⟨a,rfl,_⟩,h1⟩:=h0.dy;obtain⟨_,_,rfl,⟨b,rfl,_⟩,h2⟩:=h1.dy;obtain⟨_,_,rfl,⟨c,rfl,_⟩,h3⟩:=h2.dy;obtain⟨_,_,rfl,⟨d,rfl,_⟩,h4⟩:=h3.dy;obtain rfl:=h4.BM;exact⟨⟨a,b,c,d⟩,O,trivial⟩
theorem L7{t e e1:qi}{f0 f1 f2 g0 g1 g2 g3:Field}{ak9:W}{sp:S->I}{v:V}{dd:DataW H}{ps:J MemPlace}{r:Reach}{b0:S}(ht:P.underlying t=X (.struct #[f0,f1,f2]))(hb:P.underlying f0.type=X (.struct #[g0,g1,g2,g3]))
  (h0:P.underlying g0.type=X (.int .i64)) (h1:P.underlying g1.type=X (.int .i64)) (h2:P.underlying g2.type=X (.int .i64)) (h3:P.underlying g3.type=X (.slice e)) (h4:P.underlying f1.type=X (.slice e1)) (h5:P.underlying f2.type=X (.int .i64))
  (ho:(f0.offset,f1.offset,f2.offset,g0.offset,g1.offset,g2.offset,g3.offset)=(0,4,5,0,1,2,3)) (hcc:(P.cellsOf f0.type,P.cellsOf f1.type,P.cellsOf f2.type,P.cellsOf g0.type,P.cellsOf g1.type,P.cellsOf g2.type,P.cellsOf g3.type)=(4,1,1,1,1,1,1)) (hc:P.cellsOf t=6)
  (hval:Value.okWide P ak9 r b0 t v) (h:DataW.Trod enc P ak9 0 sp held t v dd ps):
  ∃(x0 x1 x2 x5:U)(s s':Sl)(d d':DataW H)(p p':J MemPlace),v= .agg #[.z x0,.z x1,.z x2,s.v,s'.v,.z x5]/\(Lit.int .i64 x0).wf=G/\(Lit.int .i64 x1).wf=G/\(Lit.int .i64 x2).wf=G/\(Lit.int .i64 x5).wf=G/\
   DataW.Trod enc P ak9 0 sp held g3.type s.v d p/\DataW.Trod enc P ak9 0 sp held f1.type s'.v d' p':=by
 simp only[Prod.mk.injEq]at ho hcc;obtain⟨o0,o1,o2,q0,q1,q2,q3⟩:=ho;obtain⟨c0,c1,c2,r0,r1,r2,r3⟩:=hcc;obtain⟨cs,rfl,hsz⟩:=okWide_struct ht hval;obtain⟨x0,x1,x2,x3,x4,x5,rfl⟩:∃x0 x1 x2 x3 x4 x5,cs= #[x0,x1,x2,x3,x4,x5]:=by
  obtain⟨l⟩:=cs
  match l,(hsz.trans hc)with
  | [c0,c1,c2,c3,c4,c5],_=>exact⟨c0,c1,c2,c3,c4,c5,O⟩
 obtain⟨fuel,hf⟩:=h;obtain⟨xs,n,_,_,hl,hlen,hfs⟩:=DataW.trod_struct ht hf
 match xs,hlen with
 | [y0,y1,y2],_=>
  have k0:=hfs 0 f0 O;have k1:=hfs 1 f1 O;have k2:=hfs 2 f2 O;simp only[o0,o1,o2,c0,c1,c2,Value.cells]at k0 k1 k2;simp at k0 k1 k2;obtain⟨zs,n',_,_,_,hlen',hgs⟩:=DataW.trod_struct hb k0
  match zs,hlen' with
  | [z0,z1,z2,z3],_=>
   have j0:=hgs 0 g0 O;have j1:=hgs 1 g1 O;have j2:=hgs 2 g2 O;have j3:=hgs 3 g3 O;simp only[q0,q1,q2,q3,r0,r1,r2,r3]at j0 j1 j2 j3;simp at j0 j1 j2 j3;obtain⟨n0,e0,_,w0⟩:=DataW.trod_int h0 j0;obtain⟨n1,e1,_,w1⟩:=DataW.trod_int h1 j1;obtain⟨n2,e2,_,w2⟩:=DataW.trod_int h2 j2;obtain⟨a3,l3,k3,e3⟩:=Go.Joins.slice_form h3 j3;obtain⟨a4,l4,k4,e4⟩:=Go.Joins.slice_form h4 k1;obtain⟨n5,e5,_,w5⟩:=DataW.trod_int h5 k2;simp only[List.cons.injEq,and_true]at e0 e1 e2 e3 e4 e5;subst e0;subst e1;subst e2;subst e3;subst e4;subst e5;exact⟨n0,n1,n2,n5,⟨a3,l3,k3⟩,⟨a4,l4,k4⟩,z3.1,y1.1,z3.2,y1.2,O,w0,w1,w2,w5,⟨n',by simpa [Value.cells]using j3⟩,⟨n,by simpa [Value.cells]using k1⟩⟩
end
end Go.Vc
