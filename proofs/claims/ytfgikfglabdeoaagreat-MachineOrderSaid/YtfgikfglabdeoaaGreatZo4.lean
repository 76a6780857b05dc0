/- What the row rests on: the declarations that it needs, out of my texts (part 4). -/
import Derived.Test.YtfgikfglabdeoaaGreatZo3
open Bool renaming false->Z,true->V
open Decidable renaming decide->F
open Go renaming Addr->qf,Program->qo,TypeId->qh,TypeInfo->qJ,Value->N,World->Y
open Go.IntKind renaming i64->qd,u64->qq
open Go.Proofs.Tryz renaming f154->aeb,prog->qe,t139->qU,t157->aeA,t202->aez,t248->aeu,t259->aey,t276->aev,t3->qI,t39->ad9,t435->aex,underlying133->aet,underlying22->qH,underlying269->aew,underlying278->aep
open Option renaming none->I,some->S
open _root_ renaming Bool->W,False->qj,Int->O,List->J,Nat->X,Option->qg,True->G,absurd->qi,beq_iff_eq->qG,bne_iff_ne->qN,cond_false->qp,cond_true->ql,decide_eq_decide->qL,decide_eq_false->qk,decide_eq_true->qm,decide_eq_true_eq->qA,if_false->qx,if_neg->Q,if_pos->A,if_true->qz,or_false->qC,rfl->U
open Go.Proofs.Tryz
open Bool renaming false_and->P5,false_eq_true->OF,true_and->Qa
open Decidable renaming not_not->RG
open Int renaming eq_ofNat_of_zero_le->Ox,natCast_add->Ra,natCast_emod->Ta,natCast_nonneg->Qp,tmod_eq_emod_of_nonneg->Rr,toNat_natCast->Oo,toNat_of_nonneg->Qe
open List renaming any_eq_false->Qf,any_eq_true->PS,append_assoc->O1,append_nil->OD,drop_eq_nil_of_le->QB,drop_replicate->SR,ext_getElem?->O2,filter_append->O9,filter_congr->RH,filter_cons->Pf,filter_eq_self->Py,filter_filter->Qq,filter_nil->P8,filter_sublist->QV,find?_cons->Tk,flatMap_cons->PO,flatMap_nil->RO,foldl_append->RI,getElem?_append_left->Oy,getElem?_eq_none->OQ,getElem?_eq_some_iff->Om,getElem?_map->OX,getElem?_mapIdx->PU,getElem?_range->PH,getElem?_replicate->Qz,getElem?_set->Pb,getElem_mem->Ph,length_cons->OB,length_filter_le->OR,length_map->O3,length_nil->PY,length_take->OO,map_append->OS,map_cons->OZ,mem_append->Pn,mem_cons->Oz,mem_filter->OE,mem_iff_getElem?->O5,mem_map->O4,mem_of_getElem?->OV,mem_replicate->RB,nodup_cons->Pu,not_mem_nil->Ps,pairwise_cons->PB,perm_ext_iff_of_nodup->QF,perm_middle->PD,range->OC,range_succ->QQ,replicate->Oq,replicate_succ->Q5,replicate_succ'->Q4,replicate_zero->SS,take_add_one->OG,take_of_length_le->Ou,zipWith->Ot,zipWith_append->Sd
open Nat renaming add_mul->PJ,add_zero->QD,le_refl->On,le_trans->ON,lt_or_ge->R2,mod_eq_of_lt->O6,mod_lt->RD,one_mul->RL,pow_le_pow_right->Pm,sub_self->P0,two_pow_pos->PG,zero_le->Qi,zero_mul->Rh
open Option renaming map_some->PC
set_option maxRecDepth 100000
set_option maxHeartbeats 4000000
set_option linter.all false
namespace Go.Vc
open Go.Proofs
namespace Th
section
variable{B:X}{w0 w:Y}{R:J aH}{b:X}{m:Mt}
theorem F6{c:X}(h1:1<=c)(h8:c<=8){K:O->O->Pw}(hK:K 0 (c:O) w):WI (1:O) (c:O) K w:=by
 apply aaN;apply aaO;have:c=1\/c=2\/c=3\/c=4\/c=5\/c=6\/c=7\/c=8:=om
 rcases this with rfl|rfl|rfl|rfl|rfl|rfl|rfl|rfl<;>
 .refine ⟨qb,qb,qb,qb,qb,?_⟩
  refine Eq.mp ?_ hK;kernel_rfl
theorem Aa{x:Sl}{c:X}{K:Sl->Pw}(h1:1<=c)(h8:c<=8)(hl:x.len=1)(h:Ow B w0 w (af aB x [-1]::R))(hK:∀s w',Ow B w0 w' (af aB s (Oq c (-1))::R)->K s w'):VU x (c:O) K w:=by
 apply aaa;intro k3 hk3;refine aw om (hk3 _ ?_);rw[hl,show qq.wrap ((1:X):O)=1 from K8 om om,K8 (x:=(c:O)) om om];refine F6 h1 h8 ?_;intro k8 hk8;refine aw om (hk8 _ _ ?_);intro k11 hk11;refine aw om (hk11 _ ?_);rw[wr (x:=(c:O)) om om];have hb:qI.bytes=8:=qa
 have hp48:(2:O)^48=281474976710656:=qb
 refine Ow.rH (E:=aB) (z0:=(0:O)) (zv:= .z 0) qH (show qe.info? 3=S qI from by kernel_rfl) qa qa U (n:=(c:O)) (inf:=qI) h om (by rw[hb,hp48];omega) (by rw[hp48];omega) λt w ht h=>?_;rw[Oo]at ht h;have hx0:([-1]:J O)[0]?=S (-1):=rfl;obtain⟨bx,ox,hax,hcx⟩:=h.get 1 U hx0;obtain⟨bt,ot,hat,hct⟩:=h.get 0 U (show(Oq c (0:O))[0]?=S 0 from by rw[Qz,A om]);have first:∃n w',kZ qe [22,22] 3 t.v x.v w n w'/\(n=1/\Ow B w0 w' (af aB t ([-1]++Oq (c-1) 0)::af aB x [-1]::R)):=by
  have e:min x.len t.len=1:=by rw[hl,ht];omega
  have:=Ow.DB (P:=qe) (T:=22) (t:=3) (E:=aB) (s:=t) (xs:=Oq c (0:O)) (p:=0) (dl:=t.len) (dc:=t.cap) (sl:=x.len) (sc:=x.cap) (zs:=[-1]) (sa:=⟨bx,ox+(0*aB.z+0),I⟩) (k:=λn w'=>n=1/\Ow B w0 w' (af aB t ([-1]++Oq (c-1) 0)::af aB x [-1]::R))
   qH (show qe.info? 3=S qI from by kernel_rfl) qa h hat (by rw[e];rfl) (by simp;omega) (λj v hv=>by
    cases j with
    |zero=>simp only[PO,RO,OD]at hv;exact hcx 0 v hv
    |succ j=>simp[aB]at hv) λw' h'=>⟨by rw[e];rfl,by simpa [SR]using h'⟩
  first
   |(rw[hat,hax];exact this)
   |(show ∃n w',kZ qe [22,22] 3 (.slice (t.a) t.len t.cap) (.slice (x.a) x.len x.cap) w n w'/\(n=1/\Ow B w0 w' (af aB t ([-1]++Oq (c-1) 0)::af aB x [-1]::R));rw[hat,hax];exact this)
 obtain⟨n,w',hcp,rfl,h⟩:=first
 refine⟨_,w',(by first|exact hcp|(rw[hl]at hcp;exact hcp)),?_⟩;intro l17 hl17;have loop:∀(k n:X)(w:Y),c<=n+k->1<=n->n<=c->Ow B w0 w (af aB t (Oq n (-1)++Oq (c-n) 0)::af aB x [-1]::R)->l17 (n:O) w:=by
  intro k;induction k with
  |zero=>
   intro n w hk hn1 hnc h;obtain rfl:n=c:=om
   apply hl17;refine aw om ?_;rw[P0,SS,OD]at h;exact hK t w h.vU
  |succ k ih=>
   intro n w hk hn1 hnc h;apply hl17;refine bg (λe=>?_) (λe=>?_)
   .refine h.dr λw h=>?_
    have hcap:=h.kG.fK;have hln:=h.len 0 U;refine⟨om,om,om,om,Go.Vc.a2 ?_⟩;rw[Oo];have e2:min (n-0) (t.len-n)=min n (c-n):=by rw[ht];rfl
    have hd:∃bt' ot',t.a=S ⟨bt',ot',I⟩/\∀j,j<n->w.cell? ⟨bt',ot'+j,I⟩=S (.z (-1)):=by
     obtain⟨b0,o0,ha0,_⟩:=h.get 0 U (show(Oq n (-1:O)++Oq (c-n) 0)[0]?=S (-1)from by rw[Oy (by simp;omega),Qz,A om]);refine⟨b0,o0,ha0,λj hj=>?_⟩;obtain⟨b1,o1,ha1,hc1⟩:=h.get 0 U (j:=j) (x:=(-1:O)) (by rw[Oy (by simp;omega),Qz,A hj]);rw[ha0]at ha1;cases ha1;have:=hc1 0 _ U
     rwa [show o0+(j*aB.z+0)=o0+j from by show o0+(j*1+0)=_;omega]at this
    obtain⟨b0,o0,ha0,hcells⟩:=hd;have hsl1:eH t.a n t.cap 1=S ⟨b0,o0+n*1,I⟩:=gX ha0 om;have hsl2:eH t.a 0 t.cap 1=S ⟨b0,o0,I⟩:=by rw[gX ha0 om,Rh,QD]
    rw[hsl1,hsl2];have hlenz:(Oq (min n (c-n)) (-1:O)).length=min (n-0) (t.len-n):=by rw[List.length_replicate,e2]
    refine Ow.DB (P:=qe) (T:=22) (t:=3) (E:=aB) (s:=t) (xs:=Oq n (-1)++Oq (c-n) 0) (p:=n) (dl:=t.len-n) (dc:=t.cap-n) (sl:=n-0) (sc:=t.cap-0) (zs:=Oq (min n (c-n)) (-1)) (sa:=⟨b0,o0,I⟩)
     qH (show qe.info? 3=S qI from by kernel_rfl) qa h ha0 hlenz (by simp;omega) (λj v hv=>?_) λw' h'=>?_
    .have hfl:(Oq (min n (c-n)) (-1:O)).flatMap aB.enc=Oq (min n (c-n)) (.z (-1)):=by
      induction (min n (c-n))with
      |zero=>rfl
      |succ q ihq=>rw[Q5,PO,ihq,Q5];rfl
     rw[hfl,Qz]at hv;split at hv
     .cases hv;rw[aO];exact hcells j om
     .cases hv
    .rw[e2]
     have hs:qd.wrap ((n:O)+((min n (c-n):X):O))=((n+min n (c-n):X):O):=by rw[wr om om];omega
     rw[hs];refine ih (n+min n (c-n)) w' om om om ?_;have hx:List.take n (Oq n (-1:O)++Oq (c-n) 0)++Oq (min n (c-n)) (-1)++List.drop (n+(Oq (min n (c-n)) (-1:O)).length) (Oq n (-1:O)++Oq (c-n) 0)=Oq (n+min n (c-n)) (-1)++Oq (c-(n+min n (c-n))) 0:=by rw[List.take_left' qc,List.drop_append,QB qc,List.nil_append,SR,List.replicate_append_replicate];congr 2;simp;omega
     rw[hx]at h';exact h'
   .obtain rfl:n=c:=om
    rw[P0,SS,OD]at h;exact hK t w h.vU
 exact loop c 1 w' om om h1 h
theorem Gg{s:Sl}{ys:J X}{y:X}{c:X}{L:J aH}{k:Sl->Pw}[ae4:bY s L X gB ys][aeX:eD (af gB s ys) L R](h:Ow B w0 w (aa c [.q y]::L))(hbig:ys.length<=1000000000)
  (hk:∀s' w',s'.len=ys.length+1->Ow B w0 w' (af gB s' (ys++ [y])::R)->k s' w'):
  ∃s' w',aP qe [245,245] 245 s.v (.slice (S c.p) 1 1) w s' w'/\k s' w':=
 Ow.eR (E:=gB) (y:=y) underlying245 (show qe.info? 248=S aeu from by kernel_rfl) (zv:= .pointer I) qa qa U qb h (by
  have e:aeu.bytes=8:=qa
  rw[e];omega) hk
def fp(c:X):Mt:=⟨[],Oq c [],Oq c (-1)⟩
theorem uF{c:X}(h8:c<=8):de (fp c):=by
 refine⟨by simp[fp],by simp[fp],by simpa [fp]using h8,λt h=>?_,λt h=>rfl,λn h=>?_,λae5 h x hx=>?_⟩
 .simp[fp]at h
 .simp only[fp,RB]at h;exact .inl h.2
 .simp only[fp,RB]at h;rw[h.2]at hx;simp at hx
theorem zK{n:O}{K:qg qf->O->Pw}(h:Ow B w0 w R)(hK0:¬(1<=n/\n<=8)->∀w',Ow B w0 w' R->K I 1 w')(hK1:∀c:X,n=(c:O)->1<=c->c<=8->∀b w',Ow B w0 w' (bG b (fp c)::R)->K b.o 0 w'):Vt n K w:=by
 apply abR;intro k2 hk2;refine bg (λe=>hk2 _ _ (aU U (hK0 om w h))) (λe1=>hk2 _ _ ?_);refine bg (λe=>hK0 om w h) (λe2=>?_);obtain⟨c,rfl⟩:=Ox (show 0<=n by omega);refine h.a λd w1 h=>?_;have h:Ow B w0 w1 (af aB ⟨S d.p,1,1⟩ [-1]::R):=h.Ak [-1] U;refine Aa om om U h λr w h=>?_;refine h.a λt w2 h=>?_;have h:Ow B w0 w2 (af gB z0 []::_):=Ow.cH h;have h:Ow B w0 w2 (af ko z0 []::_):=Ow.cH h;intro l9 hl9;have loop:∀(k j:X)(q:Sl)(bs:J X)(w:Y),j+k=c->bs.length=j->Ow B w0 w (aa t [bL z0,bL q,bL r]::af ko z0 []::af gB q bs::af aB r (Oq c (-1))::(Ot bI bs (Oq j [])++R))->l9 (j:O) w:=by
  intro k;induction k with
  |zero=>
   intro j q bs w hj hbs h;obtain rfl:j=c:=om
   apply hl9;refine aw om ?_;exact hK1 j U om om t w (Ow.bU (m:=fp j) (l:=z0) (q:=q) (r:=r) (bs:=bs) (by simp[fp];exact hbs) h)
  |succ k ih=>
   intro j q bs w hj hbs h;apply hl9;refine az om ?_;refine h.dr λw h=>?_;refine⟨_,U,q,h.aE U,Go.Vc.a2 (vO h λb1 w h=>?_)⟩;refine⟨h.aE U,Go.Vc.a2 (h.a λd3 w3 h=>?_)⟩;refine Go.Vc.a2 ?_;refine Gg (s:=q) (ys:=bs) (y:=b1) h om λq' w hq' h=>?_;refine⟨_,U,Go.Vc.a2 (h.gh U U λw h=>?_)⟩;rw[wI j om];refine ih (j+1) q' (bs++ [b1]) w om (by simp[hbs]) ?_;have ez:Ot bI (bs++ [b1]) (Oq (j+1) [])=Ot bI bs (Oq j [])++ [bI b1 []]:=by rw[Q4,Sd (by simp[hbs])];rfl
   rw[ez,O1];have h2:Ow B w0 w (aa t [bL z0,q'.v,bL r]::af ko z0 []::af gB q' (bs++ [b1])::af aB r (Oq c (-1))::bI b1 []::(Ot bI bs (Oq j [])++R)):=h.sub;exact h2.perm ((((PD.symm.cons _).cons _).cons _).cons _)
 have h3:Ow B w0 w2 (aa t [bL z0,bL z0,bL r]::af ko z0 []::af gB z0 []::af aB r (Oq c (-1))::R):=h.lK;exact loop c 0 z0 [] w2 om U h3
end
section
variable{w0 w:Y}{B:X}{R:J aH}{b:X}{m:Mt}
theorem de.L5(hm:de m){c n:O}(h:m.cP n=V):de (m.gW c n):=hm.gW (.inr ⟨(bD h).1,(bD h).2.1⟩)
end
section
variable{B:X}{w0 w:Y}{R L:J aH}{b:X}{m:Mt}
theorem oc{c:X}{a e2:O}{K:O->Pw}(h:Ow B w0 w (aa c [.z a,.z e2]::L))(hK:∀w',Ow B w0 w' (aa c [.z a,.z e2]::L)->K (if a≠0 then a else e2) w'):Tt ⟨S c.p,2,2⟩ K w:=by
 apply ab5;have tell:∀(x:O)(w:Y)(ae5:W->Pw),ae5 (x !=0) w->Yk x ae5 w:=λx w ae5 h=>by apply ab8;exact h
 apply aan;intro l3 hl3;refine hl3 _ _ (az (by show(0:O)<2;decide) ?_);refine⟨_,U,qb,by show(0:O)<2;decide,a,h.aE U,aT (tell a w _ ?_)⟩;refine cb (λe=>?_) (λe=>?_)
 .have ea:a≠0:=by simpa using e
  rw[A ea]at hK;refine aw qb ?_;exact⟨_,U,qb,by show(0:O)<2;decide,a,h.aE U,hK w h⟩
 .have ea:a=0:=by simpa using e
  rw[Q (by simpa using ea)]at hK;rw[show qd.wrap ((0:O)+1)=1 from by decide];refine hl3 _ _ (az (by show(1:O)<2;decide) ?_);refine⟨_,U,qb,by show(1:O)<2;decide,e2,h.aE U,aT (tell e2 w _ ?_)⟩;refine cb (λe=>?_) (λe=>?_)
  .refine aw qb ?_
   exact⟨_,U,qb,by show(1:O)<2;decide,e2,h.aE U,hK w h⟩
  .have eb:e2=0:=by simpa using e
   rw[show qd.wrap ((1:O)+1)=2 from by decide];refine hl3 _ _ (aw (by show ¬(2:O)<2;decide) ?_);refine az qb ?_;rw[eb]at hK h;exact hK w h
def Mt.Br(m:Mt)(n:O)(i:X)(v:O):Mt:=m.aM n { m.th n with rg:=λj=>if j=i then v else(m.th n).rg j}
theorem de.Br(hm:de m){n v:O}{i:X}(hn:m.cP n=V):de (m.Br n i v):=hm.aM (t:={ m.th n with rg:=λj=>if j=i then v else(m.th n).rg j}) (hm.th hn).1 U
theorem L2{n v:O}{i:X}{K:O->Pw}(hm:de m)(hT:m.cP n=V)(hi:i<8)(h:Ow B w0 w (bG b m::R))(hK:∀w',Ow B w0 w' (bG b (m.Br n i v)::R)->K 0 w'):TG b.o n (i:O) v K w:=by
 apply X5;obtain⟨l,q,r,bs,hbs,h⟩:=h.BN;obtain⟨n0,n1,hx⟩:=bD hT;refine eW h (λe=>by rw[hT]at e;cases e) λa _ ha=>?_;intro k7 hk7;refine cr ?_;refine aw om ?_;refine cr ?_;rw[qk (show ¬(i:O)>=8 by omega)];refine h.a λd w2 h=>?_;refine oc h λw h=>?_;have h:=h.drop;refine hk7 _ _ (fG U ?_);refine⟨_,U,om,om,?_⟩;have e1:((a.add (n.toNat*12)).add 4).add ((i:O).toNat*1)=(a.add (n.toNat*12)).add (4+i):=by have:=h.wg l ha;rw[this,aO,aO,aO,aO,Oo];congr 1;omega
 rw[e1];refine BK (c:=4+i) (t':={ m.th n with rg:=λj=>if j=i then v else(m.th n).rg j}) h n0 hx ha ?_ om U λw h=>?_
 .have:i=0\/i=1\/i=2\/i=3\/i=4\/i=5\/i=6\/i=7:=om
  rcases this with rfl|rfl|rfl|rfl|rfl|rfl|rfl|rfl<;>rfl
 .exact hK w (Ow.bU (m:=m.Br n i v) hbs h)
theorem BO{l q r:Sl}{bs:J X}{n s:O}{K:Pw}(hm:de m)(hn:m.cP n=V)(hbs:bs.length=m.qs.length)(h:Ow B w0 w (aa b [bL l,bL q,bL r]::af ko l m.bF::af gB q bs::af aB r m.runs::(Ot bI bs m.qs++R)))
  (hK:∀w',Ow B w0 w' (aa b [bL l,bL q,bL r]::af ko l (m.leave n s).bF::af gB q bs::af aB r (m.leave n s).runs::(Ot bI bs (m.leave n s).qs++R))->K w'):RQ b.o n s K w:=by
 apply YK;obtain⟨n0,n1,hx⟩:=bD hn;obtain⟨⟨c0,c1⟩,_⟩:=hm.th hn;have hcr:=hm.jr;obtain⟨b1,hb1⟩:∃x,bs[(m.th n).co.toNat]?=S x:=⟨_,gE om⟩
 refine eW h (λe=>by rw[hn]at e;cases e) λa _ ha=>?_;refine⟨_,U,_,sI (c:=0) h n0 hx ha U,?_⟩;intro k hk;have fin:∀w,Ow B w0 w (aa b [bL l,bL q,bL r]::af ko l m.bF::af gB q bs::af aB r (m.bw n).runs::(Ot bI bs (m.bw n).qs++R))->k w:=λw h=>by
  apply hk;refine⟨_,U,BK (c:=0) (t':={ m.th n with st:=s}) h n0 hx ha U qb U λw h=>?_⟩;refine hK w ?_;have e:(m.leave n s).bF=m.bF.set n.toNat { m.th n with st:=s}:=by unfold Mt.leave Mt.aM;rw[dh.1]
  rw[e];exact h
 refine dK (λe=>?_) (λe=>?_)
 .have e1:m.bw n=m.iI (m.th n).co (fw (m.q (m.th n).co) n).2:=by unfold Mt.bw;rw[A e]
  rw[e1]at fin;refine h.dr λw h=>?_;refine⟨_,U,q,h.aE U,_,U,_,sI (c:=2) h n0 hx ha U,h.bX (s:=q) (j:=(m.th n).co.toNat) (by show(m.th n).co=_;omega) hb1 λa2 ha2 h0 hc=>⟨_,h0 _ U,Go.Vc.a2 ?_⟩⟩
  have h:=h.Jr hb1 (rN c0 c1);refine ij h λw h=>?_;exact fin w (h.Mj (qs:=m.qs) hb1 om)
 refine dK (λe2=>?_) (λe2=>?_)
 .have e1:m.bw n=m.gW (m.th n).co (-1):=by unfold Mt.bw;rw[Q e,A e2]
  rw[e1]at fin;refine h.dr λw h=>?_;refine⟨_,U,r,h.aE U,_,U,_,sI (c:=2) h n0 hx ha U,h.bX (s:=r) (j:=(m.th n).co.toNat) (by show(m.th n).co=_;omega) (vN (m:=m) c0 om) λa2 ha2 h0 hc=>Go.Vc.a2 ?_⟩;refine Ow.Dh (s:=r) (E:=aB) (xs:=m.runs) (i:=(m.th n).co) (j:=(m.th n).co.toNat) h (-1) om om ha2 U λw h=>?_;exact fin w h.xm.xm.xm
 .have e1:m.bw n=m:=by unfold Mt.bw;rw[Q e,Q e2]
  rw[e1]at fin;exact fin w h
theorem dS{n k:O}{t:u3}(hn:m.cP n=V):(m.aM n t).th k=if k=n then t else m.th k:=by
 obtain⟨n0,n1,_⟩:=bD hn;unfold Mt.th Mt.aM;by_cases hk:k<0
 .rw[A hk,A hk,Q om]
 .rw[Q hk,Q hk]
  simp only;rw[Pb];by_cases e:k=n
  .subst e;rw[A U,A om,A U];rfl
  .rw[Q om,Q e]
theorem zn{c k:O}{ae5:Qs}(hc:m.fS c=V):(m.iI c ae5).q k=if k=c then ae5 else m.q k:=by
 obtain⟨n0,n1⟩:=fW.1 hc;unfold Mt.q Mt.iI;by_cases hk:k<0
 .rw[A hk,A hk,Q om]
 .rw[Q hk,Q hk]
  simp only;rw[Pb];by_cases e:k=c
  .subst e;rw[A U,A om,A U];rfl
  .rw[Q om,Q e]
theorem vX{c k v:O}(c0:0<=c)(c1:c<m.runs.length):(m.gW c v).run k=if k=c then v else m.run k:=by
 unfold Mt.run Mt.gW;by_cases hk:k<0
 .rw[A hk,A hk,Q om]
 .rw[Q hk,Q hk]
  simp only;rw[Pb];by_cases e:k=c
  .subst e;rw[A U,A om,A U];rfl
  .rw[Q om,Q e]
theorem uJ{n k:O}{t:u3}:(m.aM n t).q k=m.q k:=rfl
theorem oJ{n k:O}{t:u3}:(m.aM n t).run k=m.run k:=rfl
theorem zD{n k:O}{t:Qs}:(m.iI n t).th k=m.th k:=rfl
theorem HT{n k:O}{t:Qs}:(m.iI n t).run k=m.run k:=rfl
theorem uI{n k t:O}:(m.gW n t).th k=m.th k:=rfl
theorem HU{n k t:O}:(m.gW n t).q k=m.q k:=rfl
theorem HS{n k:O}{t:Qs}:(m.iI n t).cP k=m.cP k:=rfl
theorem BE{n k:O}{t:Qs}:(m.iI n t).fS k=m.fS k:=by unfold Mt.iI Mt.fS;simp
structure bB(o:O)(m:Mt):Prop where
 ok:de m
 pr:∀n,m.cP n=V->0<=(m.th n).pr/\(m.th n).pr<256
 le:∀n,m.cP n=V->1<=(m.th n).le/\(m.th n).le<=5
 Ff:∀c,zQ (m.q c)
 Cx:∀c,m.fS c=V->∀(p:X)n,(p,n)∈m.q c↔(m.cP n=V/\n≠o/\(m.th n).co=c/\(m.th n).st=1/\(m.th n).pr=(p:O))
 inr:∀c,m.fS c=V->∀n,m.cP n=V->(m.run c=n↔(n≠o/\(m.th n).co=c/\(m.th n).st=2))
theorem bB.co{o:O}(hi:bB o m){n:O}(hn:m.cP n=V):m.fS (m.th n).co=true:=fW.2 (hi.ok.th hn).1
theorem H8{ae5:Qs}{n:O}{p:X}{k:O}:(p,k)∈(fw ae5 n).2↔(p,k)∈ae5/\k≠n:=by
 unfold fw;split
 .rw[OE];simp
 .rename_i e
  exact⟨λh=>⟨h,mo.1 e _ h⟩,λh=>h.1⟩
theorem JD{ae5:Qs}{n:O}(h:zQ ae5):zQ (fw ae5 n).2:=by
 unfold fw;split
 .exact ⟨h.nodup.sublist (List.Sublist.map _ QV),λx hx=>h.prio x (OE.1 hx).1,ON (OR _ _) h.fh⟩
 .exact h
theorem bB.bw(hi:bB (-1) m){n:O}(hn:m.cP n=V):bB n (m.bw n):=by
 have hc:=hi.co hn;have hok:=hi.ok;obtain⟨c0,c1⟩:=fW.1 hc;have hcr:=hi.ok.jr;obtain⟨n0,_,_⟩:=bD hn;have neg:∀k,m.cP k=V->k≠ -1:=λk hk=>by have:=(bD hk).1;omega
 unfold Mt.bw;split
 .rename_i hs
  refine⟨hi.ok.iI (yq hok.vK),hi.pr,hi.le,λc=>?_,λc hc2 p k=>?_,λc hc2 k hk=>?_⟩
  .rw[zn hc];split
   .exact JD (hi.Ff _)
   .exact hi.Ff c
  .rw[BE]at hc2
   rw[zn hc,zD,HS];split
   .rename_i e
    subst e;rw[H8,hi.Cx _ hc];constructor
    .rintro ⟨⟨h1,h2,h3⟩,h4⟩;exact⟨h1,h4,h3⟩
    .rintro ⟨h1,h4,h3⟩;exact⟨⟨h1,neg k h1,h3⟩,h4⟩
   .rename_i e
    rw[hi.Cx _ hc2];constructor
    .rintro ⟨h1,h2,h3⟩;exact⟨h1,λe2=>e (by rw[<-h3.1,e2]),h3⟩
    .rintro ⟨h1,h4,h3⟩;exact⟨h1,neg k h1,h3⟩
  .rw[BE]at hc2
   rw[HT,zD,hi.inr c hc2 k hk];constructor
   .rintro ⟨h1,h2,h3⟩;exact⟨λe=>by rw[e,hs]at h3;omega,h2,h3⟩
   .rintro ⟨h1,h3⟩;exact⟨neg k hk,h3⟩
 .rename_i hs1
  split
  .rename_i hs
   refine⟨hi.ok.gW (.inl U),hi.pr,hi.le,hi.Ff,λc hc2 p k=>?_,λc hc2 k hk=>?_⟩
   .rw[km]at hc2
    rw[HU,uI,rT,hi.Cx c hc2];constructor
    .rintro ⟨h1,h2,h3,h4,h5⟩;exact⟨h1,λe=>by rw[e,hs]at h4;omega,h3,h4,h5⟩
    .rintro ⟨h1,h2,h3⟩;exact⟨h1,neg k h1,h3⟩
   .rw[km]at hc2
    rw[rT]at hk;rw[vX c0 om,uI];split
    .rename_i e
     constructor
     .intro e2;exact qi e2.symm (neg k hk)
     .rintro ⟨h1,h2,h3⟩
      have a1:=(hi.inr c hc2 k hk).2 ⟨neg k hk,h2,h3⟩;have a2:=(hi.inr c hc2 n hn).2 ⟨neg n hn,e.symm,hs⟩;exact qi (a1.symm.trans a2) h1
    .rename_i e
     rw[hi.inr c hc2 k hk];constructor
     .rintro ⟨h1,h2,h3⟩;exact⟨λe2=>e (by rw[<-h2,e2]),h2,h3⟩
     .rintro ⟨h1,h3⟩;exact⟨neg k hk,h3⟩
  .rename_i hs2
   refine⟨hi.ok,hi.pr,hi.le,hi.Ff,λc hc2 p k=>?_,λc hc2 k hk=>?_⟩
   .rw[hi.Cx c hc2]
    constructor
    .rintro ⟨h1,h2,h3,h4,h5⟩;exact⟨h1,λe=>by rw[e]at h4;exact hs1 h4,h3,h4,h5⟩
    .rintro ⟨h1,h2,h3⟩;exact⟨h1,neg k h1,h3⟩
   .rw[hi.inr c hc2 k hk]
    constructor
    .rintro ⟨h1,h2,h3⟩;exact⟨λe=>by rw[e]at h3;exact hs2 h3,h2,h3⟩
    .rintro ⟨h1,h3⟩;exact⟨neg k hk,h3⟩
theorem bB.set{n:O}(hi:bB n m)(hn:m.cP n=V){t:u3}(h1:0<=t.co/\t.co<m.qs.length)(h2:0<=t.pr/\t.pr<256)(h3:1<=t.le/\t.le<=5):bB n (m.aM n t):=by
 refine⟨hi.ok.aM h1 U,λk hk=>?_,λk hk=>?_,hi.Ff,λc hc p k=>?_,λc hc k hk=>?_⟩
 .rw[dS hn];rw[dt]at hk;split
  .exact h2
  .exact hi.pr k hk
 .rw[dS hn];rw[dt]at hk;split
  .exact h3
  .exact hi.le k hk
 .rw[uJ,dt,dS hn,hi.Cx c hc]
  by_cases e:k=n
  .subst e;exact⟨λh=>qi U h.2.1,λh=>qi U h.2.1⟩
  .rw[Q e]
 .rw[dt]at hk
  rw[oJ,dS hn,hi.inr c hc k hk];by_cases e:k=n
  .subst e;exact⟨λh=>qi U h.1,λh=>qi U h.1⟩
  .rw[Q e]
theorem oz{n k:O}:(m.bw n).th k=m.th k:=by unfold Mt.th;rw[dh.1]
theorem jW{n k:O}:(m.bw n).cP k=m.cP k:=by unfold Mt.cP;rw[dh.1]
theorem bB.leave(hi:bB (-1) m){n s:O}(hn:m.cP n=V):bB n (m.leave n s):=by
 unfold Mt.leave;have h0:=hi.bw hn;have hn0:(m.bw n).cP n=true:=by rw[jW];exact hn
 refine h0.set hn0 ?_ (hi.pr n hn) (hi.le n hn);rw[dh.2];exact(hi.ok.th hn).1
theorem iZ{n s k:O}(hn:m.cP n=V):(m.leave n s).th k=if k=n then { m.th n with st:=s}else m.th k:=by unfold Mt.leave;rw[dS (by rw[jW];exact hn),oz]
theorem jF{n k:O}(hn:m.cP n=V):(m.cp n).th k=if k=n then { m.th n with st:=1}else m.th k:=by unfold Mt.cp;rw[zD,dS hn]
theorem bB.Of{n:O}(hi:bB n m){c:O}(hc:m.fS c=V):wh (m.q c) n=none:=mo.2 λx hx e=>by obtain⟨p,k⟩:=x;exact((hi.Cx c hc p k).1 hx).2.1 e
theorem bB.up{n:O}(hi:bB n m)(hn:m.cP n=V):bB (-1) (m.cp n):=by
 have hc:=hi.co hn;have hw:=hi.Of hc;have hp:=hi.pr n hn;have hok:=hi.ok.cp hn;have hids:=yZ (hi.Ff _) (hi.ok.vK (c:=(m.th n).co));have hfew:=hi.ok.fh;have neg:∀k,m.cP k=V->k≠ -1:=λk hk=>by have:=(bD hk).1;omega
 have hput:(kd (m.q (m.th n).co) (m.th n).pr n).2=m.q (m.th n).co++ [((m.th n).pr.toNat,n)]:=by unfold kd;rw[Q om,hw]
 have hpt:((m.th n).pr.toNat:O)=(m.th n).pr:=om
 have hc1:(m.aM n { m.th n with st:=1}).fS (m.th n).co=true:=hc;refine⟨hok,λk hk=>?_,λk hk=>?_,λc=>?_,λc hc2 p k=>?_,λc hc2 k hk=>?_⟩
 .rw[jF hn];rw[gy]at hk;split
  .exact hp
  .exact hi.pr k hk
 .rw[jF hn];rw[gy]at hk;split
  .exact hi.le n hn
  .exact hi.le k hk
 .unfold Mt.cp
  rw[zn hc1,hput,uJ];split
  .exact CP (hi.Ff _) om hw om
  .exact hi.Ff c
 .rw[iC]at hc2
  rw[gy,jF hn];have e0:(m.cp n).q c=if c=(m.th n).co then m.q (m.th n).co++ [((m.th n).pr.toNat,n)]else m.q c:=by unfold Mt.cp;rw[zn hc1,hput,uJ]
  rw[e0];by_cases e:c=(m.th n).co
  .subst e
   rw[A U,Pn,List.mem_singleton,hi.Cx _ hc2];by_cases ek:k=n
   .subst ek
    rw[A U];constructor
    .rintro (h|h)
     .exact qi U h.2.1
     .cases h;exact⟨hn,neg k hn,U,U,hpt.symm⟩
    .rintro ⟨_,_,_,_,h5⟩
     refine .inr ?_;have:(m.th k).pr.toNat=p:=by have h5:(m.th k).pr=p:=h5;omega
     rw[this]
   .rw[Q ek]
    constructor
    .rintro (⟨h1,h2,h3⟩|h)
     .exact ⟨h1,neg k h1,h3⟩
     .cases h;exact qi U ek
    .rintro ⟨h1,h2,h3⟩;exact .inl ⟨h1,ek,h3⟩
  .rw[Q e,hi.Cx _ hc2]
   by_cases ek:k=n
   .subst ek
    rw[A U];exact⟨λh=>qi U h.2.1,λh=>qi h.2.2.1.symm e⟩
   .rw[Q ek]
    exact⟨λh=>⟨h.1,neg k h.1,h.2.2⟩,λh=>⟨h.1,ek,h.2.2⟩⟩
 .rw[iC]at hc2
  rw[gy]at hk;rw[jF hn];show m.run c=k↔_;rw[hi.inr c hc2 k hk];by_cases ek:k=n
  .subst ek
   rw[A U];exact⟨λh=>qi U h.1,λh=>qi (show(1:O)=2 from h.2.2) qb⟩
  .rw[Q ek]
   exact⟨λh=>⟨neg k hk,h.2⟩,λh=>⟨ek,h.2⟩⟩
theorem bB.still{n:O}(hi:bB n m)(h1:(m.th n).st≠1)(h2:(m.th n).st≠2):bB (-1) m:=by
 have neg:∀k,m.cP k=V->k≠ -1:=λk hk=>by have:=(bD hk).1;omega
 refine⟨hi.ok,hi.pr,hi.le,hi.Ff,λc hc p k=>?_,λc hc k hk=>?_⟩
 .rw[hi.Cx c hc]
  exact⟨λh=>⟨h.1,neg k h.1,h.2.2⟩,λh=>⟨h.1,λe=>h1 (by rw[<-e];exact h.2.2.2.1),h.2.2⟩⟩
 .rw[hi.inr c hc k hk]
  exact⟨λh=>⟨neg k hk,h.2⟩,λh=>⟨λe=>h2 (by rw[<-e];exact h.2.2),h.2⟩⟩
theorem bB.out{n:O}(hi:bB (-1) m)(h1:(m.th n).st≠1)(h2:(m.th n).st≠2):bB n m:=by
 have neg:∀k,m.cP k=V->k≠ -1:=λk hk=>by have:=(bD hk).1;omega
 refine⟨hi.ok,hi.pr,hi.le,hi.Ff,λc hc p k=>?_,λc hc k hk=>?_⟩
 .rw[hi.Cx c hc]
  exact⟨λh=>⟨h.1,λe=>h1 (by rw[<-e];exact h.2.2.2.1),h.2.2⟩,λh=>⟨h.1,neg k h.1,h.2.2⟩⟩
 .rw[hi.inr c hc k hk]
  exact⟨λh=>⟨λe=>h2 (by rw[<-e];exact h.2.2),h.2⟩,λh=>⟨neg k hk,h.2⟩⟩
theorem bB.go{n c:O}(hi:bB n m)(hn:m.cP n=V)(h1:(m.th n).st=2)(h2:(m.th n).co=c)(hc:m.fS c=V)(hr:m.run c= -1):bB (-1) (m.gW c n):=by
 have neg:∀k,m.cP k=V->k≠ -1:=λk hk=>by have:=(bD hk).1;omega
 obtain⟨c0,c1⟩:=fW.1 hc;have hcr:=hi.ok.jr;refine⟨hi.ok.L5 hn,hi.pr,hi.le,hi.Ff,λd hd p k=>?_,λd hd k hk=>?_⟩
 .rw[km]at hd
  rw[HU,rT,uI,hi.Cx d hd];exact⟨λh=>⟨h.1,neg k h.1,h.2.2⟩,λh=>⟨h.1,λe=>by rw[e,h1]at h;exact qi h.2.2.2.1 qb,h.2.2⟩⟩
 .rw[km]at hd
  rw[rT]at hk;rw[vX c0 om,uI];by_cases e:d=c
  .subst e
   rw[A U];constructor
   .intro e2;subst e2;exact⟨neg _ hk,h2,h1⟩
   .rintro ⟨h3,h4⟩
    by_cases ek:k=n
    .exact ek.symm
    .have:=(hi.inr d hd k hk).2 ⟨ek,h4⟩
     rw[hr]at this;exact qi this.symm (neg k hk)
  .rw[Q e,hi.inr d hd k hk]
   exact⟨λh=>⟨neg k hk,h.2⟩,λh=>⟨λe2=>e (by rw[<-h.2.1,e2,h2]),h.2⟩⟩
theorem bB.GX(hi:bB (-1) m){n:O}(hn:m.cP n=V){t:u3}(h1:t.co=(m.th n).co)(h2:t.st=(m.th n).st)(h3:(m.th n).st=1->t.pr=(m.th n).pr)(h4:0<=t.pr/\t.pr<256)(h5:1<=t.le/\t.le<=5):bB (-1) (m.aM n t):=by
 refine⟨hi.ok.aM (by rw[h1];exact(hi.ok.th hn).1) U,λk hk=>?_,λk hk=>?_,hi.Ff,λc hc p k=>?_,λc hc k hk=>?_⟩
 .rw[dS hn];rw[dt]at hk;split
  .exact h4
  .exact hi.pr k hk
 .rw[dS hn];rw[dt]at hk;split
  .exact h5
  .exact hi.le k hk
 .rw[uJ,dt,dS hn,hi.Cx c hc]
  by_cases e:k=n
  .subst e
   rw[A U,h1,h2];exact⟨λh=>⟨h.1,h.2.1,h.2.2.1,h.2.2.2.1,by rw[h3 h.2.2.2.1];exact h.2.2.2.2⟩,λh=>⟨h.1,h.2.1,h.2.2.1,h.2.2.2.1,by rw[<-h3 h.2.2.2.1];exact h.2.2.2.2⟩⟩
  .rw[Q e]
 .rw[dt]at hk
  rw[oJ,dS hn,hi.inr c hc k hk];by_cases e:k=n
  .subst e;rw[A U,h1,h2]
  .rw[Q e]
theorem uM{p c k:O}:(m.make p c).th k=if k=(m.bF.length:O)then⟨0,p,c,5,λ_=>0⟩else m.th k:=by
 unfold Mt.th Mt.make;by_cases hk:k<0
 .rw[A hk,Q om,A hk]
 .rw[Q hk]
  simp only;by_cases e:k=(m.bF.length:O)
  .subst e;rw[A U,Oo,List.getElem?_append_right (On _),P0];rfl
  .rw[Q e,Q hk]
   by_cases e2:k.toNat<m.bF.length
   .rw[Oy e2]
   .rw[OQ (by simp;omega),OQ om]
theorem rD{p c k:O}:(m.make p c).cP k=V↔(m.cP k=V\/k=(m.bF.length:O)):=by unfold Mt.cP Mt.make;simp only[List.length_append,OB,PY,Bool.and_eq_true,qA];omega
theorem bB.make(hi:bB (-1) m){p c:O}(hl:m.bF.length<64)(hc:m.fS c=V)(hp:0<=p/\p<256):bB (-1) (m.make p c):=by
 have notT:m.cP (m.bF.length:O)≠true:=by unfold Mt.cP;simp
 refine⟨hi.ok.make hl hc,λk hk=>?_,λk hk=>?_,hi.Ff,λd hd q k=>?_,λd hd k hk=>?_⟩
 .rw[uM]
  rcases rD.1 hk with h|h
  .split
   .exact hp
   .exact hi.pr k h
  .rw[A h];exact hp
 .rw[uM]
  rcases rD.1 hk with h|h
  .split
   .exact ⟨by show(1:O)<=5;decide,by show(5:O)<=5;decide⟩
   .exact hi.le k h
  .rw[A h];exact⟨by show(1:O)<=5;decide,by show(5:O)<=5;decide⟩
 .show (q,k)∈m.q d↔_
  rw[hi.Cx d hd,rD,uM];by_cases e:k=(m.bF.length:O)
  .rw[A e,e]
   exact⟨λh=>qi h.1 notT,λh=>qi (show(0:O)=1 from h.2.2.2.1) qb⟩
  .rw[Q e]
   exact⟨λh=>⟨.inl h.1,h.2⟩,λh=>⟨h.1.resolve_right e,h.2⟩⟩
 .show m.run d=k↔_
  rw[uM];by_cases e:k=(m.bF.length:O)
  .rw[A e,e]
   refine⟨λh=>?_,λh=>qi (show(0:O)=2 from h.2.2) qb⟩;obtain⟨d0,d1⟩:=fW.1 hd;have d1:d<(m.qs.length:O):=d1;have hcr:=hi.ok.jr;have:=hi.ok.run _ (OV (vN (m:=m) d0 om));omega
  .rw[Q e]
   exact hi.inr d hd k ((rD.1 hk).resolve_right e)
theorem Hm{c:X}{d:O}:(fp c).q d= []:=by
 unfold Mt.q fp;split
 .rfl
 .simp only
  cases e:(Oq c ([]:Qs))[d.toNat]? with
  |none=>rfl
  |some ae5=>have:=OV e;rw[RB]at this;rw[this.2];rfl
theorem rK{c:X}{k:O}:(fp c).cP k≠true:=by unfold Mt.cP fp;simp
theorem Hl{c:X}(h8:c<=8):bB (-1) (fp c):=by
 refine⟨uF h8,λk hk=>qi hk rK,λk hk=>qi hk rK,λd=>?_,λd hd p k=>?_,λd hd k hk=>qi hk rK⟩
 .rw[Hm];exact⟨qc,qc,qc⟩
 .rw[Hm];exact⟨λh=>by simp at h,λh=>qi h.1 rK⟩
def Mt.bE(m:Mt)(n:O):O × Mt:=if m.cP n=Z then(100,m)else if(m.th n).st=1\/(m.th n).st=2 then(101,m)else(0,m.cp n)
def Mt.bM(m:Mt)(n:O):O × Mt:=if m.cP n=Z then(100,m)else if(m.th n).st=0 then(101,m)else(0,m.leave n 0)
def Mt.gL(m:Mt)(n:O):O × Mt:=if m.cP n=Z then(100,m)else if(m.th n).st≠2 then(101,m)else(0,m.leave n 3)
def Mt.gn(m:Mt)(n p:O):O × Mt:=if m.cP n=Z then(100,m)else if ¬(0<=p/\p<256)then(1,m)else
 if(m.th n).st=1 then(0,((m.leave n 1).aM n {(m.leave n 1).th n with pr:=p}).cp n)else(0,m.aM n { m.th n with pr:=p})
def Mt.nS(m:Mt)(n i v:O):O × Mt:=if m.cP n=Z then(100,m)else if ¬(0<=i/\i<8)then(1,m)else(0,m.Br n i.toNat v)
def Mt.cv(m:Mt)(p c:O):O × O × Mt:=if ¬(0<=p/\p<256/\m.fS c=V)then(0,1,m)else if 64<=m.bF.length then(0,2,m)else((m.bF.length:O),0,m.make p c)
theorem vS{n:O}{K:O->Pw}(hm:de m)(h:Ow B w0 w (bG b m::R))(hK:∀w',Ow B w0 w' (bG b (m.bE n).2::R)->K (m.bE n).1 w'):S5 b.o n K w:=by
 unfold Mt.bE at hK;refine uq hm h (λe w h=>?_) (λe e1 w h=>?_) (λe e1 e2 w h=>?_)
 .rw[A e]at hK;exact hK w h
 .rw[Q (by rw[e];simp),A e1]at hK;exact hK w h
 .rw[Q (by rw[e];simp),Q (λhh=>hh.elim e1 e2)]at hK;exact hK w h
theorem yo{n:O}{K:O->Pw}(hm:de m)(h:Ow B w0 w (bG b m::R))(hK:∀w',Ow B w0 w' (bG b (m.bM n).2::R)->K (m.bM n).1 w'):TR b.o n K w:=by
 unfold Mt.bM at hK;refine tm hm h (λe w h=>?_) (λe e1 w h=>?_) (λe e1 w h=>?_)
 .rw[A e]at hK;exact hK w h
 .rw[Q (by rw[e];simp),A e1]at hK;exact hK w h
 .rw[Q (by rw[e];simp),Q e1]at hK;exact hK w h
theorem IK{n:O}{K:O->Pw}(hm:de m)(h:Ow B w0 w (bG b m::R))(hK:∀w',Ow B w0 w' (bG b (m.gL n).2::R)->K (m.gL n).1 w'):U6 b.o n K w:=by
 unfold Mt.gL at hK;refine wo hm h (λe w h=>?_) (λe e1 w h=>?_) (λe e1 w h=>?_)
 .rw[A e]at hK;exact hK w h
 .rw[Q (by rw[e];simp),A e1]at hK;exact hK w h
 .rw[Q (by rw[e];simp),Q (λhh=>hh e1)]at hK;exact hK w h
theorem KK{p c:O}{K:O->O->Pw}(hm:de m)(h:Ow B w0 w (bG b m::R))(hK:∀w',Ow B w0 w' (bG b (m.cv p c).2.2::R)->K (m.cv p c).1 (m.cv p c).2.1 w'):S3 b.o p c K w:=by
 unfold Mt.cv at hK;refine oW hm h (λe w h=>?_) (λe e1 w h=>?_) (λe e1 w h=>?_)
 .rw[A e]at hK;exact hK w h
 .rw[Q (λhh=>hh e),A e1]at hK;exact hK w h
 .rw[Q (λhh=>hh e),Q om]at hK;exact hK w h
theorem sE{x y:O}{K:O->Pw}(h:Ow B w0 w L)(hK:∀w',Ow B w0 w' L->K (if x≠0 then x else y) w'):Al w (.cells #[.z x,.z y] 28) λw12=>Tt ⟨S w.heap.size.p,2,2⟩ K w12:=by
 refine h.al λw2 h=>?_;generalize w.heap.size=d at h|-;exact oc h λw h=>hK w h.drop
theorem Kb{n i v:O}{K:O->Pw}(hm:de m)(h:Ow B w0 w (bG b m::R))(hK:∀w',Ow B w0 w' (bG b (m.nS n i v).2::R)->K (m.nS n i v).1 w'):TG b.o n i v K w:=by
 unfold Mt.nS at hK;by_cases hT:m.cP n=V
 .rw[Q (by rw[hT];simp)]at hK
  by_cases hi:0<=i/\i<8
  .rw[Q (λhh=>hh hi)]at hK
   obtain⟨k,rfl⟩:=Ox hi.1;exact L2 hm hT om h hK
  .rw[A hi]at hK
   apply X5;obtain⟨l,q,r,bs,hbs,h⟩:=h.BN;refine eW h (λe=>by rw[hT]at e;cases e) λa _ ha=>?_;intro k7 hk7;refine cr ?_;refine bg (λe=>?_) (λe=>?_)
   .refine cr (sE h λw h=>?_)
    exact hk7 _ _ (iy qc (hK w (Ow.bU hbs h)))
   .refine cr ?_
    rw[qm (show i>=8 by omega)];refine sE h λw h=>?_;exact hk7 _ _ (iy qc (hK w (Ow.bU hbs h)))
 .have hF:m.cP n=false:=by simpa using hT
  rw[A hF]at hK;apply X5;obtain⟨l,q,r,bs,hbs,h⟩:=h.BN;refine eW h (λe=>?_) λa e ha=>by rw[hF]at e;cases e
  intro k7 hk7;refine cr ?_;refine bg (λe=>?_) (λe=>?_)
  .refine cr (sE h λw h=>?_)
   exact hk7 _ _ (iy qc (hK w (Ow.bU hbs h)))
  .refine cr (sE h λw h=>?_)
   exact hk7 _ _ (iy qc (hK w (Ow.bU hbs h)))
theorem KS{n p:O}{K:O->Pw}(hm:de m)(h:Ow B w0 w (bG b m::R))(hK:∀w',Ow B w0 w' (bG b (m.gn n p).2::R)->K (m.gn n p).1 w'):WW b.o n p K w:=by
 unfold Mt.gn at hK;apply ab4;obtain⟨l,q,r,bs,hbs,h⟩:=h.BN;refine eW h (λe=>?_) λa hT ha=>?_
 .rw[A e]at hK
  refine cr (kW (cr (sE h λw h=>?_)));exact iy qc (hK w (Ow.bU hbs h))
 .rw[Q (by rw[hT];simp)]at hK
  obtain⟨n0,n1,hx⟩:=bD hT;refine cr (kW (cr (sE h λw h=>?_)));by_cases hp:0<=p/\p<256
  .rw[Q (λhh=>hh hp)]at hK
   rw[qm hp.1,qm hp.2];refine fG qc ?_;refine⟨_,U,_,sI (c:=0) h n0 hx ha U,oO (λe=>?_) (λe=>?_)⟩
   .rw[Q e]at hK
    refine⟨_,U,BK (c:=1) (t':={ m.th n with pr:=p}) h n0 hx ha U qb U λw h=>?_⟩;exact hK w (Ow.bU (m:=m.aM n { m.th n with pr:=p}) hbs h)
   .rw[A e]at hK
    have zR:=hm.leave (s:=1) hT;have hT1:(m.leave n 1).cP n=true:=by rw[eI];exact hT
    have hq1:(m.leave n 1).qs.length=m.qs.length:=dh.2;refine BO hm hT hbs h λw h=>?_;obtain⟨_,_,hx1⟩:=bD hT1;generalize m.leave n 1=mb at*
    refine⟨_,U,BK (c:=1) (t':={ mb.th n with pr:=p}) h n0 hx1 ha U qb U λw h=>?_⟩;have h:Ow B w0 w (bG b (mb.aM n { mb.th n with pr:=p})::R):=Ow.bU (m:=mb.aM n { mb.th n with pr:=p}) (by show bs.length=mb.qs.length;omega) h;have GM:de (mb.aM n { mb.th n with pr:=p}):=zR.aM (t:={ mb.th n with pr:=p}) (zR.th hT1).1 U;have hT2:(mb.aM n { mb.th n with pr:=p}).cP n=true:=by rw[dt];exact hT1
    exact gw GM hT2 h hK
  .rw[A hp]at hK
   have e:(!(F (0<=p)&&F (p<256)))=true:=by
    by_cases e1:0<=p
    .rw[qm e1,qk om];rfl
    .rw[qk e1];rfl
   rw[e];exact iy qc (hK w (Ow.bU hbs h))
theorem bB.resume(hi:bB (-1) m)(n:O):bB (-1) (m.bE n).2:=by
 unfold Mt.bE;split
 .exact hi
 .rename_i e
  have hT:m.cP n=true:=by simpa using e
  split
  .exact hi
  .rename_i e1
   exact(hi.out (λh=>e1 (.inl h)) (λh=>e1 (.inr h))).up hT
theorem bB.suspend(hi:bB (-1) m)(n:O):bB (-1) (m.bM n).2:=by
 unfold Mt.bM;split
 .exact hi
 .rename_i e
  have hT:m.cP n=true:=by simpa using e
  split
  .exact hi
  .refine (hi.leave hT).still ?_ ?_<;>(rw[iZ hT,A U];show(0:O)≠_;decide)
theorem bB.block(hi:bB (-1) m)(n:O):bB (-1) (m.gL n).2:=by
 unfold Mt.gL;split
 .exact hi
 .rename_i e
  have hT:m.cP n=true:=by simpa using e
  split
  .exact hi
  .refine (hi.leave hT).still ?_ ?_<;>(rw[iZ hT,A U];show(3:O)≠_;decide)
theorem bB.Br(hi:bB (-1) m)(n i v:O):bB (-1) (m.nS n i v).2:=by
 unfold Mt.nS;split
 .exact hi
 .rename_i e
  have hT:m.cP n=true:=by simpa using e
  split
  .exact hi
  .exact hi.GX hT U U (λ_=>rfl) (hi.pr n hT) (hi.le n hT)
theorem bB.prio(hi:bB (-1) m)(n p:O):bB (-1) (m.gn n p).2:=by
 unfold Mt.gn;split
 .exact hi
 .rename_i e
  have hT:m.cP n=true:=by simpa using e
  split
  .exact hi
  .rename_i hp
   have hp:0<=p/\p<256:=RG.1 hp;split
   .have h1:=hi.leave (s:=1) hT
    have hT1:(m.leave n 1).cP n=true:=by rw[eI];exact hT
    exact(h1.set (t:={(m.leave n 1).th n with pr:=p}) hT1 (h1.ok.th hT1).1 hp (h1.le n hT1)).up (by rw[dt];exact hT1)
   .rename_i e1
    exact hi.GX (t:={ m.th n with pr:=p}) hT U U (λh=>qi h e1) hp (hi.le n hT)
theorem bB.cv(hi:bB (-1) m)(p c:O):bB (-1) (m.cv p c).2.2:=by
 unfold Mt.cv;split
 .exact hi
 .rename_i e
  have e:=RG.1 e;split
  .exact hi
  .exact hi.make om e.2.2 ⟨e.1,e.2.1⟩
theorem bB.Hn(hi:bB (-1) m){c n:O}(hc:m.fS c=V)(h:gG (m.q c)=S n):m.cP n=V/\(m.th n).co=c/\(m.th n).st=1:=by obtain⟨⟨p,k⟩,hx,e⟩:=Bc h;have e:k=n:=e;subst e;have:=(hi.Cx c hc p k).1 hx;exact⟨this.1,this.2.2.1,this.2.2.2.1⟩
theorem bB.runIn(hi:bB (-1) m){c n:O}(h:m.bJ c=S n):m.fS c=V/\m.cP n=V/\(m.th n).co=c/\(m.th n).st=2:=by obtain⟨hc,h1,h2,hT⟩:=hi.ok.runT h;have:=(hi.inr c hc n hT).1 h1;exact⟨hc,hT,this.2⟩
theorem vp{n s:O}(h:(m.th n).st≠2)(c:O):(m.leave n s).run c=m.run c:=by
 unfold Mt.leave Mt.bw;rw[oJ];split
 .rfl
 .rfl
theorem xc(hi:bB (-1) m){n s:O}(hn:m.cP n=V)(h:(m.th n).st=2):(m.leave n s).run (m.th n).co= -1:=by obtain⟨c0,c1⟩:=(hi.ok.th hn).1;have hcr:=hi.ok.jr;unfold Mt.leave Mt.bw;rw[oJ,Q om,A h,vX c0 om,A U]
theorem bB.aV(hi:bB (-1) m)(c:O):bB (-1) (m.aV c):=by
 unfold Mt.aV;split
 .rename_i hc
  unfold Mt.pick;cases hn:gG (m.q c)with
  |none=>exact hi
  |some n=>
   obtain⟨hT,hco,hst⟩:=hi.Hn hc hn;simp only;have last:∀m1:Mt,bB (-1) m1->m1.cP n=V->m1.fS c=V->(m1.th n).co=c->(m1.th n).st=1->m1.run c= -1->bB (-1) ((m1.leave n 2).gW c n):=λm1 hi hT hc hco hst hr=>by refine(hi.leave hT).go (by rw[eI];exact hT) (by rw[iZ hT,A U]) (by rw[iZ hT,A U];exact hco) (by rw[iB];exact hc) ?_;rw[vp om];exact hr
   split
   .rename_i hr
    exact last m hi hT hc hco hst hr
   .rename_i hr
    split
    .exact hi
    .have hr2:m.bJ c=S (m.run c):=by unfold Mt.bJ;rw[A ⟨hc,hr⟩]
     obtain⟨_,hoT,hoc,hos⟩:=hi.runIn hr2;have hoT1:(m.leave (m.run c) 1).cP (m.run c)=true:=by rw[eI];exact hoT
     have hne:n≠m.run c:=λe=>by rw[<-e]at hos;omega
     refine last _ ((hi.leave hoT).up hoT1) (by rw[gy,eI];exact hT) (by rw[iC,iB];exact hc) ?_ ?_ ?_
     .rw[jF hoT1,Q hne,iZ hoT,Q hne];exact hco
     .rw[jF hoT1,Q hne,iZ hoT,Q hne];exact hst
     .show (m.leave (m.run c) 1).run c= -1
      have:=xc (s:=1) hi hoT hos;rw[hoc]at this;exact this
 .exact hi
theorem bB.yield(hi:bB (-1) m)(c:O):bB (-1) (m.yield c):=by
 unfold Mt.yield;cases hr:m.bJ c with
 |none=>exact hi
 |some o=>
  obtain⟨_,hT,_,_⟩:=hi.runIn hr;have hT1:(m.aM o { m.th o with le:=5}).cP o=true:=by rw[dt];exact hT
  have h1:=hi.GX (t:={ m.th o with le:=5}) hT U U (λ_=>rfl) (hi.pr o hT) ⟨by show(1:O)<=5;decide,by show(5:O)<=5;decide⟩;exact((h1.leave hT1).up (by rw[eI];exact hT1)).aV c
theorem Dd{n:O}{t t':u3}:(m.aM n t).aM n t'=m.aM n t':=by unfold Mt.aM;simp
theorem Ea(hi:bB (-1) m){c:O}:m.tick c=match m.bJ c with
  |none=>m
  |some o=>if(m.th o).le=1 then m.yield c else m.aM o { m.th o with le:=(m.th o).le-1}:=by
 unfold Mt.tick;cases hr:m.bJ c with
 |none=>rfl
 |some o=>
  obtain⟨_,hT,_,_⟩:=hi.runIn hr;have hl:=hi.le o hT;simp only;rw[wr om om];by_cases e:(m.th o).le=1
  .rw[A om,A e]
   unfold Mt.yield;have hr2:(m.aM o { m.th o with le:=(m.th o).le-1}).bJ c=S o:=hr;rw[hr,hr2];simp only;rw[Dd,dS hT,A U]
  .rw[Q om,Q e]
theorem bB.tick(hi:bB (-1) m)(c:O):bB (-1) (m.tick c):=by
 rw[Ea hi];cases hr:m.bJ c with
 |none=>exact hi
 |some o=>
  obtain⟨_,hT,_,_⟩:=hi.runIn hr;have hl:=hi.le o hT;simp only;split
  .exact hi.yield c
  .exact hi.GX (t:={ m.th o with le:=(m.th o).le-1}) hT U U (λ_=>rfl) (hi.pr o hT) ⟨by show 1<=(m.th o).le-1;omega,by show(m.th o).le-1<=5;omega⟩
end
end Th
namespace Tb
abbrev Pg:=O × O
abbrev fH:=J (O × Pg)
def lg(P:fH):Prop:=P.Pairwise λx y=>x.1<y.1
def look:fH->O->qg Pg
 | [],_=>I
 |x::P,k=>if x.1=k then S x.2 else look P k
def jU:fH->O->Pg->fH
 | [],k,v=>[(k,v)]
 |x::P,k,v=>if k<x.1 then(k,v)::x::P else if x.1=k then(k,v)::P else x::jU P k v
def mJ(P:fH)(k:O):fH:=P.filter λx=>x.1 !=k
theorem gQ{P:fH}{k:O}{v:Pg}(h:look P k=S v):(k,v)∈P:=by
 induction P with
 |nil=>simp[look]at h
 |cons x P ih=>
  simp only[look]at h;split at h
  .rename_i e;cases h;rw[<-e];exact List.mem_cons_self
  .exact List.mem_cons_of_mem _ (ih h)
theorem cX{P:fH}{k:O}:look P k=I↔∀x∈P,x.1≠k:=by
 induction P with
 |nil=>simp[look]
 |cons x P ih=>
  simp only[look,Oz,forall_eq_or_imp];split
  .rename_i e;simp[e]
  .rename_i e;rw[ih];simp[e]
theorem lg.inj{P:fH}(h:lg P){x y:O × Pg}(hx:x∈P)(hy:y∈P)(e:x.1=y.1):x=y:=by
 induction P with
 |nil=>simp at hx
 |cons a P ih=>
  have h:=PB.1 h;rcases Oz.1 hx with hx|hx
  .rcases Oz.1 hy with hy|hy
   .rw[hx,hy]
   .have:=h.1 y hy;rw[hx]at e;omega
  .rcases Oz.1 hy with hy|hy
   .have:=h.1 x hx;rw[hy]at e;omega
   .exact ih h.2 hx hy
theorem lg.look{P:fH}(h:lg P){k:O}{v:Pg}(hm:(k,v)∈P):look P k=S v:=by
 cases e:Go.Vc.Tb.look P k with
 |none=>exact qi U (cX.1 e _ hm)
 |some u=>have:=h.inj (gQ e) hm U;cases this;rfl
theorem lg.A7{P:fH}(h:lg P){k:O}{v:Pg}:Go.Vc.Tb.look P k=S v↔(k,v)∈P:=⟨gQ,h.look⟩
theorem lg.sub{P ae5:fH}(h:lg P)(hs:ae5.Sublist P):lg ae5:=List.Pairwise.sublist hs h
theorem lg.filter{P:fH}(h:lg P)(f:O × Pg->W):lg (P.filter f):=h.sub QV
theorem lg.nodup{P:fH}(h:lg P):(P.map (·.1)).Nodup:=by unfold List.Nodup;rw[List.pairwise_map];exact h.imp λhab e=>by omega
theorem jv{P:fH}(h:lg P){k:O}{v:Pg}(x:O × Pg):x∈jU P k v↔x=(k,v)\/(x∈P/\x.1≠k):=by
 induction P with
 |nil=>simp[jU]
 |cons a P ih=>
  have h:=PB.1 h;simp only[jU];split
  .rename_i e
   rw[Oz];constructor
   .rintro (h1|h1)
    .exact .inl h1
    .refine .inr ⟨h1,?_⟩
     rcases Oz.1 h1 with h2|h2
     .rw[h2];omega
     .have:=h.1 x h2;omega
   .rintro (h1|h1)
    .exact .inl h1
    .exact .inr h1.1
  .rename_i e
   split
   .rename_i e2
    rw[Oz,Oz];constructor
    .rintro (h1|h1)
     .exact .inl h1
     .have:=h.1 x h1;exact .inr ⟨.inr h1,om⟩
    .rintro (h1|⟨h1|h1,h2⟩)
     .exact .inl h1
     .rw[h1]at h2;exact qi e2 h2
     .exact .inr h1
   .rename_i e2
    rw[Oz,Oz,ih h.2];constructor
    .rintro (h1|h1|h1)
     .rw[h1];exact .inr ⟨.inl U,e2⟩
     .exact .inl h1
     .exact .inr ⟨.inr h1.1,h1.2⟩
    .rintro (h1|⟨h1|h1,h2⟩)
     .exact .inr (.inl h1)
     .exact .inl h1
     .exact .inr (.inr ⟨h1,h2⟩)
theorem ov{P:fH}(h:lg P)(k:O)(v:Pg):lg (jU P k v):=by
 induction P with
 |nil=>simp[jU,lg]
 |cons a P ih=>
  have h':=PB.1 h;simp only[jU];split
  .rename_i e
   refine PB.2 ⟨λx hx=>?_,h⟩;show k<x.1;rcases Oz.1 hx with h2|h2
   .rw[h2];exact e
   .have:=h'.1 x h2;omega
  .split
   .rename_i e2
    refine PB.2 ⟨λx hx=>?_,h'.2⟩;show k<x.1;rw[<-e2];exact h'.1 x hx
   .rename_i e e2
    refine PB.2 ⟨λx hx=>?_,ih h'.2⟩;rcases (jv (k:=k) (v:=v) h'.2 x).1 hx with h1|h1
    .rw[h1];show a.1<k;omega
    .exact h'.1 x h1.1
theorem uy{P:fH}{k:O}(x:O × Pg):x∈mJ P k↔x∈P/\x.1≠k:=by unfold mJ;rw[OE];simp
theorem rV{P ae5:fH}(hP:lg P)(hQ:lg ae5)(h:∀x,x∈P↔x∈ae5):P=ae5:=by
 refine List.Perm.eq_of_pairwise (le:=λx y=>x.1<=y.1/\(x.1=y.1->x=y)) ?_ ?_ ?_ ?_
 .intro a b _ _ h1 h2
  exact h1.2 om
 .exact hP.imp λh=>⟨om,λe=>by omega⟩
 .exact hQ.imp λh=>⟨om,λe=>by omega⟩
 .refine (QF ?_ ?_).2 h
  .exact hP.imp λh e=>by rw[e]at h;omega
  .exact hQ.imp λh e=>by rw[e]at h;omega
theorem He{P:fH}(h:lg P)(k:O)(v:Pg)(x:O):look (jU P k v) x=if x=k then S v else look P x:=by
 have hs:=ov h k v;by_cases e:x=k
 .subst e;rw[A U];exact hs.look ((jv h _).2 (.inl U))
 .rw[Q e]
  cases e2:look P x with
  |none=>
   refine cX.2 λy hy=>?_;rcases (jv h y).1 hy with h1|h1
   .rw[h1];exact λe3=>e e3.symm
   .exact cX.1 e2 y h1.1
  |some u=>exact hs.look ((jv h _).2 (.inr ⟨gQ e2,e⟩))
theorem Hd{P:fH}(h:lg P)(k x:O):look (mJ P k) x=if x=k then I else look P x:=by
 have hs:lg (mJ P k):=h.filter _;by_cases e:x=k
 .subst e;rw[A U];exact cX.2 λy hy=>((uy y).1 hy).2
 .rw[Q e]
  cases e2:look P x with
  |none=>exact cX.2 λy hy=>cX.1 e2 y ((uy y).1 hy).1
  |some u=>exact hs.look ((uy _).2 ⟨gQ e2,e⟩)
theorem A6{P:fH}(h:lg P)(f:O × Pg->W)(x:O):look (P.filter f) x=(look P x).filter λv=>f (x,v):=by
 have hs:=h.filter f;cases e2:look P x with
 |none=>exact cX.2 λy hy=>cX.1 e2 y (OE.1 hy).1
 |some u=>
  rw[Option.filter_some];by_cases e:f (x,u)=V
  .rw[A e];exact hs.look (OE.2 ⟨gQ e2,e⟩)
  .rw[Q e]
   refine cX.2 λy hy e3=>?_;obtain⟨h1,h2⟩:=OE.1 hy;have:y=(x,u):=h.inj h1 (gQ e2) e3;rw[this]at h2;exact e h2
structure dv where
 tb:X->qg O
 pg:fH
structure fx(m:dv):Prop where
 kU:lg m.pg
 tA:∀x∈m.pg,0<=x.1/\x.1<4096/\(m.tb (x.1.toNat / 64)).isSome=V
 fh:∀i,(m.tb i).isSome=V->i<64
def cC(P:fH)(i:X):fH:=P.filter λx=>x.1.toNat / 64==i
def dv.at(m:dv)(i:O):qg O:=if i<0 then I else m.tb i.toNat
def oY(tb:X->qg O)(i:X)(v:qg O):X->qg O:=λj=>if j=i then v else tb j
def dv.gZ(m:dv)(i n:O):O × dv:=if ¬(0<=i/\i<64/\0<=n)then(1,m)else
 if(m.tb i.toNat).isSome=V\/(OC 64).any (λj=>m.tb j==S n)=V then(140,m)else(0,{ m with tb:=oY m.tb i.toNat (S n)})
def dv.bp(m:dv)(i:O):fH × O × dv:=if ¬(0<=i/\i<64)then([],1,m)else if m.tb i.toNat=I then([],141,m)else
 (cC m.pg i.toNat,0,⟨oY m.tb i.toNat I,m.pg.filter λx=>x.1.toNat / 64 !=i.toNat⟩)
def dv.nF(m:dv)(k:O)(p:Pg):O × dv:=if ¬(0<=k/\k<4096/\0<=p.1/\0<=p.2/\p.2<=7)then(1,m)else if m.tb (k.toNat / 64)=I then(141,m)else
 if(look m.pg k).isSome=V then(140,m)else(0,{ m with pg:=jU m.pg k p})
def dv.bV(m:dv)(k:O):Pg × O × dv:=if ¬(0<=k/\k<4096)then((0,0),1,m)else match look m.pg k with
 |none=>((0,0),141,m)
 |some p=>(p,0,{ m with pg:=mJ m.pg k})
def iF:dv:=⟨λ_=>I,[]⟩
section
variable{m:dv}
theorem fx.new:fx iF:=⟨List.Pairwise.nil,λx h=>by simp[iF]at h,λi h=>by simp[iF]at h⟩
theorem fx.out(h:fx m){k:O}(hk:¬(0<=k/\k<4096)):look m.pg k=none:=cX.2 λx hx e=>by have:=h.tA x hx;rw[e]at this;exact hk ⟨this.1,this.2.1⟩
theorem fx.N5(h:fx m){k:O}{p:Pg}(hl:look m.pg k=S p):0<=k/\k<4096/\(m.tb (k.toNat / 64)).isSome=true:=h.tA _ (gQ hl)
theorem fx.table(h:fx m)(i n:O):fx (m.gZ i n).2:=by
 unfold dv.gZ;split
 .exact h
 .rename_i h1
  have h1:=RG.1 h1;split
  .exact h
  .refine ⟨h.kU,λx hx=>?_,λj hj=>?_⟩
   .have:=h.tA x hx
    refine⟨this.1,this.2.1,?_⟩;show(oY m.tb i.toNat (S n) (x.1.toNat / 64)).isSome=V;unfold oY;split
    .rfl
    .exact this.2.2
   .have hj:(oY m.tb i.toNat (S n) j).isSome=true:=hj
    unfold oY at hj;split at hj
    .omega
    .exact h.fh j hj
theorem fx.drop(h:fx m)(i:O):fx (m.bp i).2.2:=by
 unfold dv.bp;split
 .exact h
 .split
  .exact h
  .refine ⟨h.kU.filter _,λx hx=>?_,λj hj=>?_⟩
   .obtain ⟨h1,h2⟩:=OE.1 hx
    have:=h.tA x h1;refine⟨this.1,this.2.1,?_⟩;show(oY m.tb i.toNat I (x.1.toNat / 64)).isSome=V;unfold oY;rw[Q (by simpa using h2)];exact this.2.2
   .have hj:(oY m.tb i.toNat I j).isSome=true:=hj
    unfold oY at hj;split at hj
    .cases hj
    .exact h.fh j hj
theorem fx.ins(h:fx m){k:O}(hk:0<=k/\k<4096)(ht:(m.tb (k.toNat / 64)).isSome=V)(p:Pg):fx { m with pg:=jU m.pg k p}:=by
 refine⟨ov h.kU k p,λx hx=>?_,h.fh⟩;rcases (jv h.kU x).1 hx with h1|h1
 .rw[h1];exact⟨hk.1,hk.2,ht⟩
 .exact h.tA x h1.1
theorem fx.map(h:fx m)(k:O)(p:Pg):fx (m.nF k p).2:=by
 unfold dv.nF;split
 .exact h
 .rename_i h1
  have h1:=RG.1 h1;split
  .exact h
  .rename_i h2
   split
   .exact h
   .exact h.ins ⟨h1.1,h1.2.1⟩ (Option.isSome_iff_ne_none.2 h2) p
theorem fx.lJ(h:fx m)(k:O):fx (m.bV k).2.2:=by
 unfold dv.bV;split
 .exact h
 .cases e:look m.pg k with
  |none=>exact h
  |some p=>exact⟨h.kU.filter _,λx hx=>h.tA x (OE.1 hx).1,h.fh⟩
theorem JC{P:fH}(h:lg P)(k:O)(p:Pg)(i:X):cC (jU P k p) i=if k.toNat / 64=i then jU (cC P i) k p else cC P i:=by
 have hs:lg (cC (jU P k p) i):=(ov h k p).filter _;have ht:lg (cC P i):=h.filter _;split
 .rename_i e
  refine rV hs (ov ht k p) λx=>?_;rw[jv ht];unfold cC;rw[OE,OE,jv h];simp only[qG];constructor
  .rintro ⟨h1|h1,h2⟩
   .exact .inl h1
   .exact .inr ⟨⟨h1.1,h2⟩,h1.2⟩
  .rintro (h1|⟨⟨h1,h2⟩,h3⟩)
   .exact ⟨.inl h1,by rw[h1];exact e⟩
   .exact ⟨.inr ⟨h1,h3⟩,h2⟩
 .rename_i e
  refine rV hs ht λx=>?_;unfold cC;rw[OE,OE,jv h];simp only[qG];constructor
  .rintro ⟨h1|h1,h2⟩
   .rw[h1]at h2;exact qi h2 e
   .exact ⟨h1.1,h2⟩
  .rintro ⟨h1,h2⟩
   exact⟨.inr ⟨h1,λe2=>by rw[e2]at h2;exact e h2⟩,h2⟩
theorem D6{P:fH}(k:O)(i:X):cC (mJ P k) i=mJ (cC P i) k:=by unfold cC mJ;rw[Qq,Qq];congr 1;funext x;exact Bool.and_comm _ _
theorem Dk{P:fH}{k:O}{i:X}(e:k.toNat / 64≠i):cC (mJ P k) i=cC P i:=by rw[D6];unfold mJ;rw[Py];intro x hx;obtain⟨_,h2⟩:=OE.1 hx;simp only[qG]at h2;simp only[qN,ne_eq];intro e2;rw[e2]at h2;exact e h2
theorem H3{P:fH}{i j:X}(e:j≠i):cC (P.filter λx=>x.1.toNat / 64 !=i) j=cC P j:=by
 unfold cC;rw[Qq];refine RH λx _=>?_;by_cases h:x.1.toNat / 64=j
 .simp[h,e]
 .simp[h]
theorem H4(h:fx m):(OC 64).flatMap (cC m.pg)=m.pg:=by
 have key:∀n,(OC n).flatMap (cC m.pg)=m.pg.filter λx=>F (x.1.toNat / 64<n):=λn=>by
  induction n with
  |zero=>simp
  |succ n ih=>
   rw[QQ,List.flatMap_append,ih];simp only[PO,RO,OD];refine rV ?_ (h.kU.filter _) λx=>?_
   .refine List.pairwise_append.2 ⟨h.kU.filter _,h.kU.filter _,λx hx y hy=>?_⟩
    obtain⟨hx1,hx2⟩:=OE.1 hx;obtain⟨hy1,hy2⟩:=OE.1 hy;simp only[qA]at hx2;simp only[qG]at hy2;have:=h.tA x hx1;have:=h.tA y hy1;omega
   .unfold cC
    rw[Pn,OE,OE,OE];simp only[qA,qG];constructor
    .rintro (h1|h1)
     .exact ⟨h1.1,om⟩
     .exact ⟨h1.1,om⟩
    .rintro ⟨h1,h2⟩
     by_cases e:x.1.toNat / 64=n
     .exact .inr ⟨h1,e⟩
     .exact .inl ⟨h1,om⟩
 rw[key 64,Py];intro x hx;have:=h.tA x hx;simp only[qA];omega
theorem oA{M aeV:fH}(hp:M.Perm aeV)(hS:lg aeV)(k:O):dO M k=look aeV k:=by
 have hn:(M.map (·.1)).Nodup:=(hp.map _).nodup_iff.2 hS.nodup;cases e:dO M k with
 |some v=>exact(hS.look (hp.mem_iff.1 (rF e))).symm
 |none=>
  refine(cX.2 λx hx e2=>?_).symm;exact fX.1 e (O4.2 ⟨x,hp.mem_iff.2 hx,e2⟩)
theorem rE{M:fH}(hn:(M.map (·.1)).Nodup){k:O}{v:Pg}:(k,v)∈M↔dO M k=S v:=by
 refine⟨λh=>?_,rF⟩;cases e:dO M k with
 |none=>exact qi (O4.2 ⟨_,h,U⟩) (fX.1 e)
 |some u=>
  have h2:=rF e;have:∀(M:fH),(M.map (·.1)).Nodup->(k,v)∈M->(k,u)∈M->v=u:=λM=>by
   induction M with
   |nil=>intro _ h;simp at h
   |cons a M ih=>
    intro hn h1 h2;rw[OZ,Pu]at hn;rcases Oz.1 h1 with h1|h1
    .rcases Oz.1 h2 with h2|h2
     .have:=h1.trans h2.symm;cases this;rfl
     .exact qi (O4.2 ⟨_,h2,by rw[<-h1]⟩) hn.1
    .rcases Oz.1 h2 with h2|h2
     .exact qi (O4.2 ⟨_,h1,by rw[<-h2]⟩) hn.1
     .exact ih hn.2 h1 h2
  rw[this M hn h h2]
theorem fy{M:fH}(h:(M.map (·.1)).Nodup):M.Nodup:=List.Pairwise.of_map _ (λa b h e=>h (by rw[e])) h
theorem Ex{M aeV:fH}(hp:M.Perm aeV)(hS:lg aeV)(k:O)(v:Pg):(jL M k v).Perm (jU aeV k v):=by
 have hn:(M.map (·.1)).Nodup:=(hp.map _).nodup_iff.2 hS.nodup;have hn2:=pJ hn k v;have hS2:=ov hS k v;refine(QF (fy hn2) (fy hS2.nodup)).2 λx=>?_;obtain⟨a,b⟩:=x;rw[rE hn2,sO,<-hS2.A7,He hS,oA hp hS];by_cases e:k=a
 .rw[A e,A e.symm]
 .rw[Q e,Q λh=>e h.symm]
theorem xr{M aeV:fH}(hp:M.Perm aeV)(hS:lg aeV)(k:O):(lh M k).Perm (mJ aeV k):=by
 have hn:(M.map (·.1)).Nodup:=(hp.map _).nodup_iff.2 hS.nodup;have hn2:=pI hn k;have hS2:lg (mJ aeV k):=hS.filter _;refine(QF (fy hn2) (fy hS2.nodup)).2 λx=>?_;obtain⟨a,b⟩:=x;rw[rE hn2,sN hn,<-hS2.A7,Hd hS,oA hp hS];by_cases e:k=a
 .rw[A e,A e.symm]
 .rw[Q e,Q λh=>e h.symm]
end
end Tb
section
variable{ae6:X}{P:qo}{B:X}{w0 w:Y}{R L:J aH}{b:X}{l:wR}{p:eN}{n:oN}{α:Type}{E:dF α}{s t:Sl}{D:J O}{xs r:J α}{x:α}
theorem acA{a K w}:Fr (V7 a K w) (∀b:qf->Pw,(∀(c:qf)(d:Y),(∃b,d.z c b/\∀c:Pw,(∀b:Y,(∃c,a=S c/\∃d,b.z ((c.add 11).add 1) d/\TQ a d (λa b=>K a b) b)->c b)->(bif b==3 then Dr d λb=>∃e,a=S e/\∃f,b.q e f/\∃e,a=S e/\∃a,b.z ((e.add 11).add 1) a/\(TP f a (λa=>c a) b)/\G else c d))->b c d)->(Dr w λc=>∃d,a=S d/\∃e,c.q d e/\∃d,e=S d/\∃e,c.q (d.add 2) e/\∃d,a=S d/\∃a,c.z ((d.add 11).add 1) a/\(Ur e a (λa c d e f g h i j k l m _ n=>(A2 n [.z 0,.z 0,.z 0,.z 0,.y 0,.y 0,.y 0,.y 0,.y 0,.y 0,.y 0,.y 0] 139 λn o=>(aD o n.p 0 [.z a,.z c,.z d,.z e,.y f,.y g,.y h,.y i,.y j,.y k,.y l,.y m] λa=>b n.p a)/\G)/\G) c)/\(A2 c [.z 0,.z 0,.z 0,.z 0,.y 0,.y 0,.y 0,.y 0,.y 0,.y 0,.y 0,.y 0] 139 λc d=>(Ur e a (λa d e f g h i j k l m n _ o=>(aD o c.p 0 [.z a,.z d,.z e,.z f,.y g,.y h,.y i,.y j,.y k,.y l,.y m,.y n] λa=>b c.p a)/\G) d)/\G)/\G)):=ai func155 (.v (.y (.y (.r (S [(3,.c .q)]) (.o 0 69504 (.o 1 69504 (.o 2 69504 (.o 3 69504 (.o 4 69504 (.o 5 69504 (.o 6 69504 (.o 7 65536 (.o 8 65536 (.o 9 65536 (.o 10 65536 (.o 11 65536 (.f 12 (.o 13 65536 (.o 14 98304 (.o 15 196608 .Ld))) (.e 16 (.e 12 (.o 13 0 (.o 14 32768 (.o 15 131072 (.e 17 (.o 18 0 .done))))))))))))))))))))) (.v (.t (S []) .g19 .u))) .w))
theorem acB{a K w}:Fr (V8 a K w) (Dr w λb=>∃c,a=S c/\∃d,b.q c d/\∃c,a=S c/\∃e,b.z ((c.add 11).add 1) e/\(TP d e (λb=>Dr b λb=>∃c,a=S c/\∃d,b.q c d/\∃c,d=S c/\∃d,b.q (c.add 2) d/\∃c,a=S c/\∃a,b.z ((c.add 11).add 1) a/\(TR d a (λa b=>K a b) b)/\G) b)/\G):=ai func156 (.v (.y .g19 (.x (.z (.o 0 3968 (.o 1 3968 (.o 2 3968 (.o 3 3968 (.o 4 3968 (.o 5 3968 (.o 6 3968 (.o 7 0 .NP))))))))))))
theorem acC{a K w}:Fr (V9 a K w) (Dr w λb=>∃c,a=S c/\∃d,b.q c d/\∃c,d=S c/\∃d,b.q (c.add 2) d/\∃c,a=S c/\∃e,b.z ((c.add 11).add 1) e/\∃c,a=S c/\∃a,b.z ((c.add 3).add 3) a/\(WW d e a (λa b=>K a b) b)/\G):=ai func157 (.v (.x (.z (.o 0 130944 (.o 1 130944 (.o 2 130944 (.o 3 130944 (.o 4 130944 (.o 5 130944 (.o 6 130944 (.o 7 126976 (.o 8 126976 (.o 9 126976 (.o 10 126976 (.o 11 126976 (.o 12 0 (.o 13 0 (.o 14 0 (.o 15 0 (.o 16 0 (.e 17 (.o 18 0 .done))))))))))))))))))))))
theorem acD{a K w}:Fr (Wa a K w) (Dr w λb=>∃c,a=S c/\∃d,b.z ((c.add 3).add 3) d/\∃c,a=S c/\∃e,b.z ((c.add 3).add 4) e/\∃c,a=S c/\∃f,b.y ((c.add 11).add 3) f/\(A2 b [.z 0,.y 0,.y 0,.y 0,.y 0,.y 0,.bool Z] 274 λb c=>(aD c b.p 0 [.z d,.y (qq.wrap e),.y 0,.y 0,.y 0,.y f,.bool Z] λc=>∀d:qf->O->Pw,(∀(b:qf)(c:O)(e:Y),(bif c !=0 then K c e else ∃c,e.b b c/\bif !c then TS a (λa=>K 0 a) e else ∃c,e.z (b.add 2) c/\av e (b.add 3) 0 [.o,.u,.u,.u,.u,.u,.b] λ(d f g h i j:O)(k:W)=>UG a c d f g h i j k (λc=>∃d,c.z (b.add 2) d/\TQ a d (λa b=>K a b) c) e)->d b c e)->(Dr c λc=>∃e,a=S e/\∃f,c.q e f/\∃e,f=S e/\∃f,c.s (e.add 5) f/\∃e,a=S e/\∃g,c.z ((e.add 11).add 1) g/\∃e,f.a=S e/\0<=g/\g<(f.len:O)/\∃f,c.q (e.add (g.toNat*1)) f/\∃e,a=S e/\∃g,c.z (e.add 2) g/\av c b.p 0 [.o,.u,.u,.u,.u,.u,.b] λ(b e h i j k:O)(l:W)=>∃m,a=S m/\∃a,c.z ((m.add 3).add 5) a/\(UF f g b e h i j k l (a !=0) (λa b c e f g h i j k l m=>(A2 m [.bool Z,.z 0,.z 0,.z 0,.y 0,.y 0,.y 0,.y 0,.y 0,.bool Z] 303 λm n=>(aD n m.p 0 [.bool a,.z b,.z c,.z e,.y f,.y g,.y h,.y i,.y j,.bool k] λa=>d m.p l a)/\G)/\G) c)/\(A2 c [.bool Z,.z 0,.z 0,.z 0,.y 0,.y 0,.y 0,.y 0,.y 0,.bool Z] 303 λc m=>(UF f g b e h i j k l (a !=0) (λa b e f g h i j k l m n=>(aD n c.p 0 [.bool a,.z b,.z e,.z f,.y g,.y h,.y i,.y j,.y k,.bool l] λa=>d c.p m a)/\G) m)/\G)/\G))/\G)/\G):=ai func158 (.v (.y (.z (.o 0 393184 (.o 1 393184 (.o 2 393184 (.o 3 393184 (.o 4 393184 (.o 5 389120 (.o 6 389120 (.o 7 389120 (.o 8 389120 (.o 9 389120 (.o 10 389120 (.o 11 389120 (.o 12 262144 (.o 13 262144 (.o 14 262144 (.o 15 262144 (.o 16 262144 (.o 17 262144 (.e 18 (.e 19 .done))))))))))))))))))))) (.y (.r (S [(4,.c .q),(5,.c (.i .i64))]) (.o 0 570412928 (.o 1 570412928 (.o 2 570412928 (.o 3 570412928 (.o 4 570412928 (.o 5 570412928 (.o 6 570412928 (.o 7 570408960 (.o 8 570408960 (.o 9 570408960 (.o 10 570408960 (.o 11 570408960 (.o 12 570408960 (.o 13 570408960 (.o 14 570163200 (.o 15 570163200 (.o 16 570163200 (.o 17 570163200 (.o 18 569901056 (.o 19 536870912 (.o 20 536870912 (.o 21 536870912 (.o 22 536870912 (.o 23 536870912 (.o 24 536870912 (.f 25 (.o 26 536870912 (.o 27 805306368 (.o 28 1610612736 (.e 29 (.e 30 (.o 31 0 .done)))))) (.e 29 (.e 25 (.o 26 0 (.o 27 268435456 (.o 28 1073741824 (.e 30 (.o 31 0 .done)))))))))))))))))))))))))))))))))) (.y (.x (.v (.y .w (.v (.x (.v .w)))))) (.v .w)))))
theorem acE{a K w}:Fr (Wb a K w) (∀b:qf->O->Pw,(∀(c:qf)(d:O)(e:Y),(bif d !=0 then K d e else ∃b,e.b c b/\bif !b then TS a (λa=>K 0 a) e else Dr e λb=>∃d,a=S d/\∃e,b.z (d.add 2) e/\av b (c.add 3) 0 [.o,.u,.u,.u,.u,.u,.b] λ(d f g h i j:O)(k:W)=>(UG a e d f g h i j k (λb=>∃d,b.z (c.add 1) d/\TQ a d (λa b=>K a b) b) b)/\G)->b c d e)->(Dr w λc=>∃d,a=S d/\∃e,c.q d e/\∃d,e=S d/\∃e,c.s (d.add 5) e/\∃d,a=S d/\∃f,c.z ((d.add 11).add 1) f/\∃d,e.a=S d/\0<=f/\f<(e.len:O)/\∃e,c.q (d.add (f.toNat*1)) e/\∃d,a=S d/\∃f,c.z (d.add 2) f/\∃d,a=S d/\∃a,c.z ((d.add 3).add 5) a/\(UH e f (a !=0) (λa c d e f g h i j k l m=>(A2 m [.bool Z,.z 0,.z 0,.z 0,.y 0,.y 0,.y 0,.y 0,.y 0,.bool Z] 303 λm n=>(aD n m.p 0 [.bool a,.z c,.z d,.z e,.y f,.y g,.y h,.y i,.y j,.bool k] λa=>b m.p l a)/\G)/\G) c)/\(A2 c [.bool Z,.z 0,.z 0,.z 0,.y 0,.y 0,.y 0,.y 0,.y 0,.bool Z] 303 λc d=>(UH e f (a !=0) (λa d e f g h i j k l m n=>(aD n c.p 0 [.bool a,.z d,.z e,.z f,.y g,.y h,.y i,.y j,.y k,.bool l] λa=>b c.p m a)/\G) d)/\G)/\G)):=ai func159 (.v (.y (.r (S [(3,.c .q),(4,.c (.i .i64))]) (.o 0 285200256 (.o 1 285200256 (.o 2 285200256 (.o 3 285200256 (.o 4 285200256 (.o 5 285200256 (.o 6 285200256 (.o 7 285196288 (.o 8 285196288 (.o 9 285196288 (.o 10 285196288 (.o 11 285196288 (.o 12 285196288 (.o 13 285196288 (.o 14 284950528 (.o 15 284950528 (.o 16 284950528 (.o 17 284950528 (.o 18 268435456 (.o 19 268435456 (.o 20 268435456 (.o 21 268435456 (.o 22 268435456 (.o 23 268435456 (.f 24 (.o 25 268435456 (.o 26 402653184 (.o 27 805306368 (.e 28 (.e 29 (.o 30 0 .done)))))) (.e 28 (.e 24 (.o 25 0 (.o 26 134217728 (.o 27 536870912 (.e 29 (.o 30 0 .done))))))))))))))))))))))))))))))))) (.y (.x (.v (.y .w (.v (.x (.v .w)))))) (.y (.z (.o 0 126 (.o 1 96 (.o 2 96 (.o 3 96 (.o 4 96 .Mf)))))) .w))))
theorem acF{a K w}:Fr (Wc a K w) (Dr w λb=>∃c,a=S c/\∃d,b.q c d/\∃c,a=S c/\∃e,b.z ((c.add 11).add 1) e/\∃c,a=S c/\∃f,b.y ((c.add 11).add 3) f/\(Tz d e f (λb c=>∃d,a=S d/\(St c ((d.add 17).add 2) (.z b) λa=>K 0 a)/\G) b)/\G):=ai func160 (.v (.y (.z (.o 0 65534 (.o 1 32736 (.o 2 32736 (.o 3 32736 (.o 4 32736 (.o 5 31744 (.o 6 31744 (.o 7 31744 (.o 8 31744 (.o 9 31744 (.o 10 0 (.o 11 0 (.o 12 0 (.o 13 0 (.o 14 0 (.e 15 (.o 16 0 (.o 17 0 (.o 18 0 (.e 19 .done))))))))))))))))))))) .w))
theorem acG{a K w}:Fr (Wd a K w) (Dr w λb=>∃c,a=S c/\∃d,b.q c d/\∃c,d=S c/\∃d,b.s (c.add 6) d/\∃c,a=S c/\∃e,b.z ((c.add 11).add 1) e/\∃c,d.a=S c/\0<=e/\e<(d.len:O)/\∃d,b.q (c.add (e.toNat*1)) d/\∃c,a=S c/\∃e,b.z (c.add 2) e/\∃c,a=S c/\∃f,b.z ((c.add 3).add 5) f/\(WX d e (f !=0) (λb c d e=>bif d !=0 then K d e else ∀d:Pw,(∀c:Y,(∃d,a=S d/\St c ((d.add 17).add 1) (.y b) λa=>K 0 a)->d c)->(bif !c then TS a (λa=>d a) e else d e)) b)/\G):=ai func161 (.v (.y (.z (.o 0 16764800 (.o 1 16764800 (.o 2 16764800 (.o 3 16764800 (.o 4 16764800 (.o 5 16764800 (.o 6 16764800 (.o 7 16760832 (.o 8 16760832 (.o 9 16760832 (.o 10 16760832 (.o 11 16760832 (.o 12 16760832 (.o 13 16760832 (.o 14 16515072 (.o 15 16515072 (.o 16 16515072 (.o 17 16515072 (.o 18 0 (.o 19 0 (.o 20 0 (.o 21 0 (.o 22 0 (.o 23 0 (.e 24 (.o 25 0 (.o 26 402653184 (.o 27 805306368 (.o 28 1610612736 (.o 29 0 (.o 30 0 (.o 31 0 .done))))))))))))))))))))))))))))))))) (.y (.x (.v (.y .w .LG))) (.v .w))))
theorem acH{a K w}:Fr (We a K w) (∀b:qf->W->Pw,(∀(c:qf)(d:W)(e:Y),(bif !d then K 181 e else Dr e λb=>∃d,a=S d/\∃e,b.q d e/\∃d,e=S d/\∃e,b.s (d.add 7) e/\∃d,b.z (c.add 1) d/\∃c,e.a=S c/\0<=d/\d<(e.len:O)/\∃e,b.q (c.add (d.toNat*1)) e/\∃c,a=S c/\∃d,b.z ((c.add 3).add 3) d/\∃c,a=S c/\∃a,b.z ((c.add 11).add 1) a/\(WY e d a (λa b=>K a b) b)/\G)->b c d e)->(Dr w λc=>∃d,a=S d/\∃e,c.q d e/\∃d,a=S d/\∃a,c.z ((d.add 3).add 2) a/\(Rq e a 8 (λa c d e f g h i j k=>(A2 k [.z 0,.z 0] 155 λk l=>(A2 l [.z 0,.z 0,.z 0,.y 0,.y 0,.z 0] 157 λl m=>(aD m k.p 0 [.z a,.z c] λa=>(aD a l.p 0 [.z d,.z e,.z f,.y g,.y h,.z i] λa=>b l.p j a)/\G)/\G)/\G)/\(A2 k [.z 0,.z 0,.z 0,.y 0,.y 0,.z 0] 157 λk l=>(A2 l [.z 0,.z 0] 155 λl m=>(aD m l.p 0 [.z a,.z c] λa=>(aD a k.p 0 [.z d,.z e,.z f,.y g,.y h,.z i] λa=>b k.p j a)/\G)/\G)/\G)/\G) c)/\(A2 c [.z 0,.z 0] 155 λc d=>(Rq e a 8 (λa d e f g h i j k l=>(A2 l [.z 0,.z 0,.z 0,.y 0,.y 0,.z 0] 157 λl m=>(aD m c.p 0 [.z a,.z d] λa=>(aD a l.p 0 [.z e,.z f,.z g,.y h,.y i,.z j] λa=>b l.p k a)/\G)/\G)/\G) d)/\(A2 d [.z 0,.z 0,.z 0,.y 0,.y 0,.z 0] 157 λd f=>(Rq e a 8 (λa e f g h i j k l m=>(aD m c.p 0 [.z a,.z e] λa=>(aD a d.p 0 [.z f,.z g,.z h,.y i,.y j,.z k] λa=>b d.p l a)/\G)/\G) f)/\G)/\G)/\(A2 c [.z 0,.z 0,.z 0,.y 0,.y 0,.z 0] 157 λc d=>(Rq e a 8 (λa d e f g h i j k l=>(A2 l [.z 0,.z 0] 155 λl m=>(aD m l.p 0 [.z a,.z d] λa=>(aD a c.p 0 [.z e,.z f,.z g,.y h,.y i,.z j] λa=>b c.p k a)/\G)/\G)/\G) d)/\(A2 d [.z 0,.z 0] 155 λd f=>(Rq e a 8 (λa e f g h i j k l m=>(aD m d.p 0 [.z a,.z e] λa=>(aD a c.p 0 [.z f,.z g,.z h,.y i,.y j,.z k] λa=>b c.p l a)/\G)/\G) f)/\G)/\G)/\G)):=ai func162 (.v (.y .g0 (.y (.v (.x .w)) (.x (.z (.o 0 2095488 (.o 1 2095488 (.o 2 2095488 (.o 3 2095488 (.o 4 2095488 (.o 5 2095488 (.o 6 2095488 (.o 7 2095104 (.o 8 2095104 (.o 9 2095104 (.o 10 2095104 (.o 11 2031616 (.o 12 2031616 (.o 13 2031616 (.o 14 2031616 (.o 15 2031616 (.o 16 0 (.o 17 0 (.o 18 0 (.o 19 0 (.o 20 0 (.e 21 (.o 22 0 .done))))))))))))))))))))))))))))
theorem acI{a K w}:Fr (Wf a K w) (∀b:qf->W->Pw,(∀(c:qf)(d:W)(e:Y),(bif !d then K 181 e else Dr e λb=>∃d,a=S d/\∃e,b.q d e/\∃d,e=S d/\∃e,b.s (d.add 7) e/\∃d,b.z (c.add 1) d/\∃c,e.a=S c/\0<=d/\d<(e.len:O)/\∃e,b.q (c.add (d.toNat*1)) e/\∃c,a=S c/\∃d,b.z ((c.add 3).add 3) d/\∃c,a=S c/\∃f,b.z ((c.add 11).add 1) f/\∃c,a=S c/\∃g,b.z ((c.add 11).add 2) g/\∃c,a=S c/\∃a,b.z ((c.add 3).add 4) a/\(UI e d f (da .i64 g a) (λa b=>K a b) b)/\G)->b c d e)->(Dr w λc=>∃d,a=S d/\∃e,c.q d e/\∃d,a=S d/\∃a,c.z ((d.add 3).add 2) a/\(Rq e a 8 (λa c d e f g h i j k=>(A2 k [.z 0,.z 0] 155 λk l=>(A2 l [.z 0,.z 0,.z 0,.y 0,.y 0,.z 0] 157 λl m=>(aD m k.p 0 [.z a,.z c] λa=>(aD a l.p 0 [.z d,.z e,.z f,.y g,.y h,.z i] λa=>b l.p j a)/\G)/\G)/\G)/\(A2 k [.z 0,.z 0,.z 0,.y 0,.y 0,.z 0] 157 λk l=>(A2 l [.z 0,.z 0] 155 λl m=>(aD m l.p 0 [.z a,.z c] λa=>(aD a k.p 0 [.z d,.z e,.z f,.y g,.y h,.z i] λa=>b k.p j a)/\G)/\G)/\G)/\G) c)/\(A2 c [.z 0,.z 0] 155 λc d=>(Rq e a 8 (λa d e f g h i j k l=>(A2 l [.z 0,.z 0,.z 0,.y 0,.y 0,.z 0] 157 λl m=>(aD m c.p 0 [.z a,.z d] λa=>(aD a l.p 0 [.z e,.z f,.z g,.y h,.y i,.z j] λa=>b l.p k a)/\G)/\G)/\G) d)/\(A2 d [.z 0,.z 0,.z 0,.y 0,.y 0,.z 0] 157 λd f=>(Rq e a 8 (λa e f g h i j k l m=>(aD m c.p 0 [.z a,.z e] λa=>(aD a d.p 0 [.z f,.z g,.z h,.y i,.y j,.z k] λa=>b d.p l a)/\G)/\G) f)/\G)/\G)/\(A2 c [.z 0,.z 0,.z 0,.y 0,.y 0,.z 0] 157 λc d=>(Rq e a 8 (λa d e f g h i j k l=>(A2 l [.z 0,.z 0] 155 λl m=>(aD m l.p 0 [.z a,.z d] λa=>(aD a c.p 0 [.z e,.z f,.z g,.y h,.y i,.z j] λa=>b c.p k a)/\G)/\G)/\G) d)/\(A2 d [.z 0,.z 0] 155 λd f=>(Rq e a 8 (λa e f g h i j k l m=>(aD m d.p 0 [.z a,.z e] λa=>(aD a c.p 0 [.z f,.z g,.z h,.y i,.y j,.z k] λa=>b c.p l a)/\G)/\G) f)/\G)/\G)/\G)):=ai func163 (.v (.y .g0 (.y (.v (.x .w)) (.x (.z (.o 0 8589932928 (.o 1 8589932928 (.o 2 8589932928 (.o 3 8589932928 (.o 4 8589932928 (.o 5 8589932928 (.o 6 8589932928 (.o 7 8589932544 (.o 8 8589932544 (.o 9 8589932544 (.o 10 8589932544 (.o 11 8589869056 (.o 12 8589869056 (.o 13 8589869056 (.o 14 8589869056 (.o 15 8589869056 (.o 16 4292870144 (.o 17 4292870144 (.o 18 4292870144 (.o 19 4292870144 (.o 20 4292870144 (.o 21 2080374784 (.o 22 2080374784 (.o 23 2080374784 (.o 24 2080374784 (.o 25 2080374784 (.o 26 0 (.o 27 0 (.o 28 0 (.o 29 0 (.o 30 0 (.o 31 0 (.o 32 0 (.e 33 (.o 34 0 .done))))))))))))))))))))))))))))))))))))))))
theorem acJ{a K w}:Fr (Wg a K w) (∀b:qf->O->Pw,(∀(c:qf)(d:O)(e:Y),(bif d==0 then Dr e λb=>∃f,a=S f/\∃g,b.z ((f.add 11).add 1) g/\∃f,a=S f/\∃h,b.z ((f.add 3).add 3) h/\av b c 0 [.o,.o] λ(c f:O)=>(TU a g h c f (λa=>K d a) b)/\G else K d e)->b c d e)->(Dr w λc=>∃d,a=S d/\∃e,c.q d e/\∃d,e=S d/\∃e,c.s (d.add 7) e/\∃d,a=S d/\∃f,c.z ((d.add 11).add 1) f/\∃d,e.a=S d/\0<=f/\f<(e.len:O)/\∃e,c.q (d.add (f.toNat*1)) e/\∃d,a=S d/\∃a,c.z ((d.add 3).add 3) a/\(TT e a (λa c d e=>(A2 e [.z 0,.z 0] 70 λe f=>(aD f e.p 0 [.z a,.z c] λa=>b e.p d a)/\G)/\G) c)/\(A2 c [.z 0,.z 0] 70 λc d=>(TT e a (λa d e f=>(aD f c.p 0 [.z a,.z d] λa=>b c.p e a)/\G) d)/\G)/\G)):=ai func164 (.v (.y (.r (S [(3,.c .q),(4,.c (.i .i64))]) (.o 0 8900480 (.o 1 8900480 (.o 2 8900480 (.o 3 8900480 (.o 4 8900480 (.o 5 8900480 (.o 6 8900480 (.o 7 8896512 (.o 8 8896512 (.o 9 8896512 (.o 10 8896512 (.o 11 8896512 (.o 12 8896512 (.o 13 8896512 (.o 14 8388608 (.o 15 8388608 (.o 16 8388608 (.o 17 8388608 (.o 18 8388608 (.f 19 (.o 20 8388608 (.o 21 12582912 (.o 22 25165824 (.e 23 (.e 24 (.o 25 0 .done)))))) (.e 23 (.e 19 (.o 20 0 (.o 21 4194304 (.o 22 16777216 (.e 24 (.o 25 0 .done)))))))))))))))))))))))))))) (.y (.v (.x (.z (.o 0 8190 (.o 1 8128 (.o 2 8128 (.o 3 8128 (.o 4 8128 (.o 5 8128 (.o 6 2048 (.o 7 2048 (.o 8 2048 (.o 9 2048 (.o 10 2048 (.o 11 0 (.o 12 0 (.e 13 .done))))))))))))))))) .w)))
theorem acK{a K w}:Fr (Wh a K w) (∀b:qf->W->Pw,(∀(c:qf)(d:W)(e:Y),(bif !d then K 181 e else Dr e λb=>∃d,a=S d/\∃e,b.q d e/\∃d,e=S d/\∃e,b.q (d.add 3) e/\∃d,a=S d/\∃a,b.z ((d.add 11).add 1) a/\∃d,b.z (c.add 1) d/\∃f,b.y (c.add 3) f/\(WZ e a d f (λa b=>K a b) b)/\G)->b c d e)->(Dr w λc=>∃d,a=S d/\∃e,c.q d e/\∃d,a=S d/\∃a,c.z ((d.add 3).add 2) a/\(Rq e a 5 (λa c d e f g h i j k=>(A2 k [.z 0,.z 0] 155 λk l=>(A2 l [.z 0,.z 0,.z 0,.y 0,.y 0,.z 0] 157 λl m=>(aD m k.p 0 [.z a,.z c] λa=>(aD a l.p 0 [.z d,.z e,.z f,.y g,.y h,.z i] λa=>b l.p j a)/\G)/\G)/\G)/\(A2 k [.z 0,.z 0,.z 0,.y 0,.y 0,.z 0] 157 λk l=>(A2 l [.z 0,.z 0] 155 λl m=>(aD m l.p 0 [.z a,.z c] λa=>(aD a k.p 0 [.z d,.z e,.z f,.y g,.y h,.z i] λa=>b k.p j a)/\G)/\G)/\G)/\G) c)/\(A2 c [.z 0,.z 0] 155 λc d=>(Rq e a 5 (λa d e f g h i j k l=>(A2 l [.z 0,.z 0,.z 0,.y 0,.y 0,.z 0] 157 λl m=>(aD m c.p 0 [.z a,.z d] λa=>(aD a l.p 0 [.z e,.z f,.z g,.y h,.y i,.z j] λa=>b l.p k a)/\G)/\G)/\G) d)/\(A2 d [.z 0,.z 0,.z 0,.y 0,.y 0,.z 0] 157 λd f=>(Rq e a 5 (λa e f g h i j k l m=>(aD m c.p 0 [.z a,.z e] λa=>(aD a d.p 0 [.z f,.z g,.z h,.y i,.y j,.z k] λa=>b d.p l a)/\G)/\G) f)/\G)/\G)/\(A2 c [.z 0,.z 0,.z 0,.y 0,.y 0,.z 0] 157 λc d=>(Rq e a 5 (λa d e f g h i j k l=>(A2 l [.z 0,.z 0] 155 λl m=>(aD m l.p 0 [.z a,.z d] λa=>(aD a c.p 0 [.z e,.z f,.z g,.y h,.y i,.z j] λa=>b c.p k a)/\G)/\G)/\G) d)/\(A2 d [.z 0,.z 0] 155 λd f=>(Rq e a 5 (λa e f g h i j k l m=>(aD m d.p 0 [.z a,.z e] λa=>(aD a c.p 0 [.z f,.z g,.z h,.y i,.y j,.z k] λa=>b c.p l a)/\G)/\G) f)/\G)/\G)/\G)):=ai func165 (.v (.y .g0 (.y (.v (.x .w)) (.x (.z (.o 0 65408 (.o 1 65408 (.o 2 65408 (.o 3 65408 (.o 4 65408 (.o 5 65408 (.o 6 65408 (.o 7 61440 (.o 8 61440 (.o 9 61440 (.o 10 61440 (.o 11 61440 (.o 12 49152 (.o 13 49152 (.o 14 0 (.o 15 0 (.e 16 (.o 17 0 .done)))))))))))))))))))))))
theorem acL{a K w}:Fr (Wi a K w) (Dr w λb=>∃c,a=S c/\∃d,b.q c d/\∃c,d=S c/\∃d,b.q (c.add 3) d/\∃c,a=S c/\∃e,b.z ((c.add 11).add 1) e/\(W0 d e (λb c d e f=>bif d then ∃d,a=S d/\∃g,f.q d g/\Tz g b c (λb c=>∃d,a=S d/\St c ((d.add 17).add 2) (.z b) λa=>K e a) f else K e f) b)/\G):=ai func166 (.v (.y (.z (.o 0 3968 (.o 1 3968 (.o 2 3968 (.o 3 3968 (.o 4 3968 (.o 5 3968 (.o 6 3968 (.o 7 0 (.o 8 0 (.o 9 0 (.o 10 0 (.o 11 0 (.e 12 (.o 13 0 (.o 14 229376 (.o 15 458752 (.o 16 917504 (.o 17 1835008 (.o 18 0 (.o 19 0 (.o 20 0 (.o 21 0 .done))))))))))))))))))))))) (.y (.v .w) .w)))
theorem acM{a b K w}:Fr (TM a b K w) (A2 w [.z 0,.z 0] 155 λc d=>∀e:W->Pw,(∀(d:W)(f:Y),(bif d then aD f c.p 0 [.z 0,.z 0] λd=>av d c.p 0 [.o,.o] λ(e g:O)=>K e g Z d else A2 f [.z 0,.z 0,.z 0,.y 0,.y 0,.z 0] 157 λd e=>aD e d.p 0 [.z 2,.z 0,.z 7,.y 0,.y 0,.z 0] λe=>∀f:qf->O->Pw,(∀(a:qf)(b:O)(d:Y),(av d a 0 [.o,.o] λ(a e:O)=>aD d c.p 0 [.z a,.z e] λa=>av a c.p 0 [.o,.o] λ(c d:O)=>K c d (b==0) a)->f a b d)->(Dr e λc=>∃e,a=S e/\∃a,c.q e a/\av c d.p 0 [.o,.o,.o,.u,.u,.o] λ(d e g h i j:O)=>(UZ a d e g h i j (qq.wrap b) 6 (λa b c d=>(A2 d [.z 0,.z 0] 155 λd e=>(aD e d.p 0 [.z a,.z b] λa=>f d.p c a)/\G)/\G) c)/\(A2 c [.z 0,.z 0] 155 λc k=>(UZ a d e g h i j (qq.wrap b) 6 (λa b d e=>(aD e c.p 0 [.z a,.z b] λa=>f c.p d a)/\G) k)/\G)/\G))->e d f)->(bif F (b<0)then e V d else e (F (b>=64)) d)):=ai func247 (.v (.y .LD (.v (.y (.r (S [(7,.c .q),(8,.c (.i .i64))]) (.o 0 2160 (.o 1 2160 (.o 2 2160 (.o 3 2160 (.o 4 2144 (.o 5 2048 (.o 6 2048 (.f 7 (.o 8 2048 (.o 9 3072 (.o 10 6144 (.e 11 (.e 12 (.o 13 0 .done)))))) (.e 11 (.e 7 (.o 8 0 (.o 9 1024 (.o 10 4096 (.e 12 (.o 13 0 .done)))))))))))))))) .w))))
theorem acN{a b K w}:Fr (TN a b K w) (A2 w [.pointer a] 153 λa c=>∀d:Sl->O->Pw,(∀(c:Sl)(e:O)(f:Y),(bif F (e<b)then ∀b:qf->W->Pw,(∀(f:qf)(g:W)(h:Y),(∀b:W->Pw,(∀(a:W)(g:Y),(bif a then K z0 181 g else av g f 0 [.o,.o] λ(a b:O)=>A2 g [.z a,.z b] 155 λa b=>∃f g,aP qe [124,124] 124 c.v (.slice (S a.p) 1 1) b f g/\d f (qd.wrap (e+1)) g)->b a g)->(bif !g then b V h else ∃c,h.q a.p c/\∃a,c=S a/\∃c,h.z ((a.add 3).add 2) c/\b (F (c<0)) h))->b f g h)->(Dr f λc=>∃d,c.q a.p d/\∃f,d=S f/\∃d,c.q f d/\∃f,c.q a.p f/\∃a,f=S a/\∃f,c.z ((a.add 3).add 2) f/\(TM d (qd.wrap (f+e)) (λa c d e=>(A2 e [.z 0,.z 0] 155 λe f=>(aD f e.p 0 [.z a,.z c] λa=>b e.p d a)/\G)/\G) c)/\(A2 c [.z 0,.z 0] 155 λa c=>(TM d (qd.wrap (f+e)) (λc d e f=>(aD f a.p 0 [.z c,.z d] λc=>b a.p e c)/\G) c)/\G)/\G)else Xu c (.func (.func 338) #[] #[.pointer (S a.p)]) (λa b=>bif a then K z0 51 b else K c 0 b) f)->d c e f)->d z0 0 c):=ai func250 (.v (.v (.y (.v (.x (.t (S [(6,.c .s),(12,.c (.i .i64))]) (.v (.y .w (.x (.x (.v (.y (.r (S [(8,.c .q),(9,.c .b)]) (.o 0 34800 (.o 1 34800 (.o 2 34800 (.o 3 34800 (.o 4 33280 (.o 5 33280 (.o 6 33280 (.o 7 33280 (.o 8 33280 .g8)))))))))) (.x (.y (.r (S [(39,.c .b)]) .done) (.x .w))))))))) .u))) .Ir)))
theorem acO{a b c d e f g h i K w}:Fr (UD a b c d e f g h i K w) (A2 w [.z b,.z c] 155 λb c=>A2 c [.z d,.z e,.z f,.y g,.y h,.z i] 157 λc d=>Dr d λd=>∃e,a=S e/\∃f,d.q e f/\∃e,f=S e/\∃f,d.q e f/\av d b.p 0 [.o,.o] λ(e g:O)=>av d c.p 0 [.o,.o,.o,.u,.u,.o] λ(c h i j k l:O)=>(Ul f e g c h i j k l (λ_ c=>Dr c λc=>∃d,a=S d/\∃e,c.q d e/\∃d,e=S d/\∃e,c.q (d.add 1) e/\∃d,a=S d/\av c (d.add 9) 0 [.o,.o] λ(a d:O)=>av c b.p 0 [.o,.o] λ(b f:O)=>(Xv e a d b f (λ_ a=>K a) c)/\G) d)/\G):=ai func251 (.v (.y (.z (.o 0 384 (.o 1 384 (.o 2 384 (.o 3 384 (.o 4 384 (.o 5 384 (.o 6 384 (.o 7 256 (.o 8 0 (.e 9 .done))))))))))) (.z (.o 0 3968 (.o 1 3968 (.o 2 3968 (.o 3 3968 (.o 4 3968 (.o 5 3968 (.o 6 3968 (.o 7 2048 (.o 8 2048 (.o 9 2048 (.o 10 2048 (.o 11 0 (.e 12 .done))))))))))))))))
theorem acP{a b K w}:Fr (WR a b K w) (∃c,a=S c/\∃d,w.z ((c.add 3).add 3) d/\bif d==1 then Dr w λc=>∃e,a=S e/\∃f,a=S f/\∃g,c.q f g/\∃f,g=S f/\∃g,c.s (f.add 4) g/\∃f,a=S f/\∃h,c.z ((f.add 3).add 4) h/\∃f,c.q e f/\(A2 c [.y b,.z h,.y 0] 98 λb c=>(∃d h,aP qe [52,52] 52 g.v (.slice (S b.p) 1 1) c d h/\h.q e f/\∃b,f=S b/\(St h (b.add 4) d.v λb=>∃c,a=S c/\∃a,b.q c a/\∃c,a=S c/\∃a,b.s (c.add 4) a/\K (qd.wrap ((a.len:O)-1)) b)/\G)/\G)/\G else bif d==2 then ∃b,a=S b/\∃c,w.q b c/\∃b,c=S b/\∃e,w.z (b.add 10) e/\∃b,c=S b/\St w (b.add 10) (.z (qd.wrap (e+1))) λb=>Dr b λb=>∃c,a=S c/\∃e,b.q c e/\∃c,e=S c/\∃e,b.q c e/\∃c,a=S c/\∃f,b.z ((c.add 3).add 4) f/\(Ue e f (λa _ b=>K a b) b)/\G else bif d==3 then ∃b,a=S b/\∃c,w.q b c/\∃b,c=S b/\∃e,w.z (b.add 11) e/\∃b,c=S b/\St w (b.add 11) (.z (qd.wrap (e+1))) λb=>Dr b λb=>∃c,a=S c/\∃e,b.q c e/\∃c,e=S c/\∃e,b.q (c.add 2) e/\∃c,a=S c/\∃f,b.z (c.add 1) f/\(S3 e 0 f (λa _ b=>K a b) b)/\G else bif d==4 then Dr w λb=>∃c,a=S c/\∃e,a=S e/\∃f,b.q c f/\∃g,b.q e g/\∃h,g=S h/\∃i,b.s (h.add 5) i/\(Xw (λb d=>d.s (h.add 5) i/\d.q e g/\d.q c f/\(A2 d [.pointer b] 173 λb d=>(∃e g,aP qe [104,104] 104 i.v (.slice (S b.p) 1 1) d e g/\g.q c f/\∃b,f=S b/\(St g (b.add 5) e.v λb=>∃c,a=S c/\∃a,b.q c a/\∃c,a=S c/\∃a,b.s (c.add 5) a/\K (qd.wrap ((a.len:O)-1)) b)/\G)/\G)/\G) b)/\G else bif d==5 then Dr w λb=>∃c,a=S c/\∃e,a=S e/\∃f,b.q c f/\∃g,b.q e g/\∃h,g=S h/\∃i,b.s (h.add 6) i/\(Xx (λb d=>d.s (h.add 6) i/\d.q e g/\d.q c f/\(A2 d [.pointer b] 177 λb d=>(∃e g,aP qe [105,105] 105 i.v (.slice (S b.p) 1 1) d e g/\g.q c f/\∃b,f=S b/\(St g (b.add 6) e.v λb=>∃c,a=S c/\∃a,b.q c a/\∃c,a=S c/\∃a,b.s (c.add 6) a/\K (qd.wrap ((a.len:O)-1)) b)/\G)/\G)/\G) b)/\G else bif d==8 then Dr w λb=>∃c,a=S c/\∃e,a=S e/\∃f,b.q c f/\∃g,b.q e g/\∃h,g=S h/\∃i,b.s (h.add 7) i/\(Ss (λb d=>d.s (h.add 7) i/\d.q e g/\d.q c f/\(A2 d [.pointer b] 99 λb d=>(∃e g,aP qe [101,101] 101 i.v (.slice (S b.p) 1 1) d e g/\g.q c f/\∃b,f=S b/\(St g (b.add 7) e.v λb=>∃c,a=S c/\∃a,b.q c a/\∃c,a=S c/\∃a,b.s (c.add 7) a/\K (qd.wrap ((a.len:O)-1)) b)/\G)/\G)/\G) b)/\G else bif d==6 then ∃b,a=S b/\∃c,w.q b c/\∃b,c=S b/\∃d,w.z (b.add 8) d/\∃b,c=S b/\St w (b.add 8) (.z (qd.wrap (d+1))) λb=>∃c,a=S c/\∃d,b.q c d/\∃c,d=S c/\∃d,b.z (c.add 8) d/\K (qd.wrap (d-1)) b else ∃b,a=S b/\∃c,w.q b c/\∃b,c=S b/\∃d,w.z (b.add 9) d/\∃b,c=S b/\St w (b.add 9) (.z (qd.wrap (d+1))) λb=>∃c,a=S c/\∃a,b.q c a/\∃c,a=S c/\∃a,b.z (c.add 9) a/\K (qd.wrap (a-1)) b):=ai func252 (.v (.y (.v (.x (.v (.y (.y (.z (.o 0 1048560 (.o 1 1048560 (.o 2 1048560 (.o 4 522248 (.o 5 522248 (.o 6 522248 (.o 7 522248 (.o 8 522248 (.o 9 522248 (.o 10 522248 (.o 11 126984 (.o 12 8 (.o 13 8 (.o 14 8 (.o 15 8 (.o 16 8 (.o 17 8 (.hold 3 786432 4194303 (.e 18 (.e 19 (.o 20 0 (.o 21 0 (.e 22 .done)))))))))))))))))))))))) .w) (.v (.y (.v (.y (.z (.o 0 3968 (.o 1 3968 (.o 2 3968 (.o 3 3968 (.o 4 3968 (.o 5 3968 (.o 6 3968 (.o 7 0 (.o 8 0 (.o 9 0 (.o 10 0 (.o 11 0 (.e 12 (.o 13 0 (.o 14 32768 (.o 15 65536 (.o 16 0 (.o 17 0 .done))))))))))))))))))) .w)) (.v (.y (.v (.y (.z (.o 0 1920 (.o 1 1920 (.o 2 1920 (.o 3 1920 (.o 4 1920 (.o 5 1920 (.o 6 1920 (.o 7 0 (.o 8 0 (.o 9 0 (.o 10 0 (.e 11 (.o 12 0 (.o 13 16384 (.o 14 32768 (.o 15 0 (.o 16 0 .done)))))))))))))))))) .w)) (.v (.y .g3 (.v (.y .g3 (.v (.y .g3 (.v (.x (.v .w))))))))))))))))) (.v .w)))
theorem acQ{a b c K w}:Fr (TO a b c K w) (A2 w [.z b,.z c] 155 λb c=>Dr c λc=>∃d,a=S d/\∃e,c.q d e/\∃d,e=S d/\∃e,c.q (d.add 1) e/\av c b.p 0 [.o,.o] λ(d f:O)=>(Xy e d f (λ_ c=>∀d:qf->Pw,(∀(b:qf)(c:Y),(∃d,a=S d/\∃e,c.q d e/\∃d,e=S d/\∃e,c.q d e/\Uq e (λc d=>Xz c (.func (.func 346) #[] #[.pointer (S b)]) (λc d=>bif !c then av d b 0 [.o,.o,.o,.u,.u,.o] λ(b c e f g h:O)=>XC a b c e f g h (λa=>K a) d else K d) d) c)->d b c)->(Dr c λc=>∃e,a=S e/\∃a,c.q e a/\∃e,a=S e/\∃a,c.q e a/\av c b.p 0 [.o,.o] λ(b e:O)=>(U1 a b e (λa b c e f g _ h=>(A2 h [.z 0,.z 0,.z 0,.y 0,.y 0,.z 0] 157 λh i=>(aD i h.p 0 [.z a,.z b,.z c,.y e,.y f,.z g] λa=>d h.p a)/\G)/\G) c)/\(A2 c [.z 0,.z 0,.z 0,.y 0,.y 0,.z 0] 157 λc f=>(U1 a b e (λa b e f g h _ i=>(aD i c.p 0 [.z a,.z b,.z e,.y f,.y g,.z h] λa=>d c.p a)/\G) f)/\G)/\G)) c)/\G):=ai func256 (.v (.y (.z (.o 0 128 (.o 1 128 (.o 2 128 (.o 3 128 (.o 4 128 (.o 5 128 (.o 6 128 (.o 7 0 (.e 8 .done)))))))))) (.y .g2 (.v .w))))
theorem acR{a b K w}:Fr (TP a b K w) (∃c,a=S c/\∃d,w.s (c.add 5) d/\∀c:O->Pw,(∀(e:O)(f:Y),(bif F (e<(d.len:O))then ∃g,d.a=S g/\0<=e/\e<(d.len:O)/\∃d,f.q (g.add (e.toNat*1)) d/\XD d b (λ_ a=>c (qd.wrap (e+1)) a) f else ∃c,a=S c/\∃a,f.s (c.add 6) a/\∀c:O->Pw,(∀(d:O)(e:Y),(bif F (d<(a.len:O))then ∃f,a.a=S f/\0<=d/\d<(a.len:O)/\∃a,e.q (f.add (d.toNat*1)) a/\XE a b (λ_ a=>c (qd.wrap (d+1)) a) e else K e)->c d e)->c 0 f)->c e f)->c 0 w):=ai func260 (.y (.v (.x (.t (S [(13,.c (.i .i64))]) .Iq .u))) (.v (.x (.t (S [(26,.c (.i .i64))]) .Iq .u))))
theorem acS{a b K w}:Fr (TQ a b K w) (∃c,a=S c/\∃d,w.q c d/\∃c,d=S c/\∃d,w.q (c.add 2) d/\S5 d b (λc d=>bif c==0 then ∃e,a=S e/\St d ((e.add 17).add 2) (.z b) λa=>K c a else K c d) w):=ai func261 (.v (.v (.y (.v .w) .w)))
theorem acT{a K w}:Fr (TS a K w) (∃b,a=S b/\∃c,w.z ((b.add 3).add 5) c/\bif c !=0 then Dr w λb=>∃c,a=S c/\∃d,b.q c d/\∃c,d=S c/\∃d,b.q (c.add 2) d/\∃c,a=S c/\∃e,b.z (c.add 2) e/\(U6 d e (λ_ b=>Dr b λb=>∃c,a=S c/\∃d,b.q c d/\∃c,d=S c/\∃d,b.q (c.add 2) d/\∃c,a=S c/\∃a,b.z (c.add 1) a/\(S7 d a (λ_ _ a=>K a) b)/\G) b)/\G else K w):=ai func265 (.v (.x (.y .g13 .g13)))
theorem acU{a b c d e f g h i K w}:Fr (UG a b c d e f g h i K w) (A2 w [.z c,.y d,.y e,.y f,.y g,.y h,.bool i] 274 λc d=>∃e,d.y (c.p.add 5) e/\∃f,d.z c.p f/\(0:O)<=0/\(0:O)<4/\∃g,d.y ((c.p.add 1).add ((0:O).toNat*1)) g/\A2 d [.y e,.y (qq.wrap f),.y g] 39 λc d=>∀e:O->Pw,(∀(d:O)(f:Y),(bif F (d<3)then ∃g,S c.p=S g/\0<=d/\d<3/\∃c,f.y (g.add (d.toNat*1)) c/\∃g,a=S g/\∃a,f.q g a/\∃g,a=S g/\∃a,f.q (g.add 2) a/\TG a b d c (λ_ a=>e (qd.wrap (d+1)) a) f else K f)->e d f)->e 0 d):=ai func266 (.v (.v (.x (.t (S [(18,.c (.i .i64))]) .Iq .u))))
theorem acV{a b c d e K w}:Fr (TU a b c d e K w) (A2 w [.z c,.z d,.z e] 204 λc d=>Dr d λd=>∃e,a=S e/\∃f,d.s ((e.add 17).add 3) f/\∃e,d.z c.p e/\av d (c.p.add 1) 0 [.o,.o] λ(c g:O)=>(A2 d [.z b,.z e,.z c,.z g] 289 λb c=>(∃d e,aP qe [40,40] 40 f.v (.slice (S b.p) 1 1) c d e/\∃b,a=S b/\(St e ((b.add 17).add 3) d.v λa=>K a)/\G)/\G)/\G):=ai func272 (.v (.z (.o 0 16382 (.o 1 8128 (.o 2 8128 (.o 3 8128 (.o 4 8128 (.o 5 8128 (.o 6 1920 (.o 7 1536 (.o 8 1536 (.o 9 0 (.o 10 0 (.o 11 0 (.e 12 (.e 13 (.o 14 0 (.o 15 0 (.o 16 0 (.e 17 .done))))))))))))))))))))
theorem acW{a b c K w}:Fr (Xt a b c K w) (A2 w [.z a,.z b] 155 λa b=>∀d:qf->Pw,(∀(a:qf)(b:Y),(∃c,b.z a c/\K (c !=0) b)->d a b)->(Dr b λb=>∃e,b.q c e/\∃c,e=S c/\∃e,b.q c e/\∃c,e=S c/\∃e,b.q c e/\av b a.p 0 [.o,.o] λ(a c:O)=>(R6 e a c (λa b c e f g _ h=>(A2 h [.z 0,.z 0,.z 0,.y 0,.y 0,.z 0] 157 λh i=>(aD i h.p 0 [.z a,.z b,.z c,.y e,.y f,.z g] λa=>d h.p a)/\G)/\G) b)/\(A2 b [.z 0,.z 0,.z 0,.y 0,.y 0,.z 0] 157 λb f=>(R6 e a c (λa c e f g h _ i=>(aD i b.p 0 [.z a,.z c,.z e,.y f,.y g,.z h] λa=>d b.p a)/\G) f)/\G)/\G)):=ai func338 (.v (.y .g2 .w))
theorem acX{a b c d e f g h i K w}:Fr (XA a b c d e f g h i K w) (A2 w [.z a,.z b,.z c,.z d,.z e,.y f,.y g,.z h] 201 λa b=>av b (a.p.add 2) 0 [.o,.o,.o,.u,.u,.o] λ(a c d e f g:O)=>av b i 0 [.o,.o,.o,.u,.u,.o] λ(h i j k l m:O)=>XB a c d e f g h i j k l m (λa b=>K a b) b):=ai func346 (.v .w)
theorem acY{a b c d e f g K w}:Fr (XC a b c d e f g K w) (A2 w [.z b,.z c,.z d,.y e,.y f,.z g] 157 λb c=>∃d,c.z b.p d/\bif d==3 then Dr c λe=>∃f,a=S f/\∃g,e.q f g/\∃f,e.z (b.p.add 1) f/\(TP g f (λc=>Dr c λc=>∃d,a=S d/\∃a,c.q d a/\∃d,a=S d/\∃a,c.q (d.add 2) a/\∃d,c.z (b.p.add 1) d/\(TR a d (λ_ a=>K a) c)/\G) e)/\G else bif d==6 then ∃e,a=S e/\∃f,c.q e f/\∃e,f=S e/\∃f,c.s (e.add 7) f/\∀e:O->Pw,(∀(c:O)(d:Y),(bif F (c<(f.len:O))then ∃g,f.a=S g/\0<=c/\c<(f.len:O)/\∃f,d.q (g.add (c.toNat*1)) f/\∃g,d.z (b.p.add 1) g/\XU f g (λb d=>∀g:O->Pw,(∀(d:O)(h:Y),(bif F (d<(b.len:O))then ∃i,b.a=S i/\0<=d/\d<(b.len:O)/\∃b,h.z (i.add (d.toNat*1)) b/\TT f b (λe f _ h=>A2 h [.z 0,.z 0] 70 λh i=>aD i h.p 0 [.z e,.z f] λe=>av e h.p 0 [.o,.o] λ(f h:O)=>TU a c b f h (λa=>g (qd.wrap (d+1)) a) e) h else e (qd.wrap (c+1)) h)->g d h)->g 0 d) d else K d)->e c d)->e 0 c else bif d==7 then ∃d,a=S d/\∃e,c.q d e/\∃d,e=S d/\∃e,c.s (d.add 7) e/\∀d:O->Pw,(∀(c:O)(f:Y),(bif F (c<(e.len:O))then ∃g,e.a=S g/\0<=c/\c<(e.len:O)/\∃e,f.q (g.add (c.toNat*1)) e/\∀g:O->Pw,(∀(f:O)(h:Y),(bif F (f<64)then XV e f (λd h i=>∀j:W->Pw,(∀(b:W)(d:Y),(bif b then XW e f (λb _ d=>∀e:O->Pw,(∀(d:O)(h:Y),(bif F (d<(b.len:O))then ∃i,b.a=S i/\0<=d/\d<(b.len:O)/\av h (i.add (d.toNat*3)) 0 [.o,.o,.o] λ(b i j:O)=>A2 h [.z 0,.z 0,.z 0] 204 λk l=>aD l k.p 0 [.z b,.z i,.z j] λb=>av b k.p 0 [.o,.o,.o] λ(i j k:O)=>TU a c i j k (λa=>e (qd.wrap (d+1)) a) b else g (qd.wrap (f+1)) h)->e d h)->e 0 d) d else g (qd.wrap (f+1)) d)->j b d)->(bif h then ∃a,i.z (b.p.add 1) a/\j (d==a) i else j Z i)) h else d (qd.wrap (c+1)) h)->g f h)->g 0 f else K f)->d c f)->d 0 c else K c):=ai func348 (.v (.v (.x (.v (.y (.y .ND (.z (.o 0 384 (.o 1 384 (.o 2 384 (.o 3 384 (.o 4 384 (.o 5 384 (.o 6 384 .MQ))))))))) (.v (.y (.v (.x (.t (S [(50,.c (.i .i64))]) (.v (.y .w (.x (.x (.v (.v (.x (.t (S [(60,.c (.i .i64))]) (.v (.y .w (.x (.x (.v .w))))) .u)))))))) .u))) (.v (.x (.v (.x (.t (S [(88,.c (.i .i64))]) (.v (.y .w (.x (.x (.v (.v (.x (.t (S [(93,.c (.i .i64))]) (.v (.y .w (.x (.x (.v (.v (.y (.r (S [(108,.c .b)]) .done) (.x (.v (.v (.x (.t (S [(117,.c (.i .i64))]) .Iq .u)))))))))))) .u)))))))) .u))))))))))))
def cL:Code->Code| .seq a _=>a|c=>c
def cR:Code->Code| .seq _ b=>b|c=>c
noncomputable def np:Code:=po aeb
noncomputable def JX:Code:= .seq (cL np) (.seq (cL (cR np)) (cL (cL (cR (cR np)))))
noncomputable def xC:Code:=cR (cR (cR np))
noncomputable def Gs:Code:=cR (cL (cR (cR np)))
def X6(d1:qg qf)(K:qg qf->qf->O->Sl->N->Pw)(w:Y):Prop:=Al w (.cells #[.pointer d1] 153) λw2=>Dr w2 λw3=>∃t4:qg qf,w3.cell? w.heap.size.p=S (.pointer t4)/\∃a5:qf,t4=S a5/\∃kernel6:qg qf,w3.cell? a5=S (.pointer kernel6)/\∃a7:qf,kernel6=S a7/\∃tr8:qg qf,w3.cell? (a7.add 1)=S (.pointer tr8)/\∃t9:qg qf,w3.cell? w.heap.size.p=S (.pointer t9)/\∃a10:qf,t9=S a10/\av w3 (a10.add 9) 0 [.o,.o] λ(s11:O)(s12:O)=>(WU tr8 s11 s12 (λKT w14=>Yc KT (λL0 w16=>K d1 w.heap.size.p (0:O) KT L0 w16) w14) w3)/\G
def ux:An:= .t I (.u) (.t I (.r I (.one 0 1920 (.one 1 1920 (.one 2 1920 (.one 3 1920 (.one 4 1920 (.one 5 1920 (.one 6 1920 (.one 7 0 (.one 8 0 (.one 9 0 (.one 10 0 (.alt 11 (.one 12 0 (.done)) (.none)))))))))))))) (.u))
def Dy:J (X × Sh):=[(0,.c (.p)),(1,.c (.q)),(2,.c (.i .i64)),(3,.c (.s)),(4,.c (.v))]
noncomputable def Kl:Func:={ aeb with results:= #[.tmp 0,.tmp 1,.tmp 2,.tmp 3,.tmp 19],body:=S JX}
theorem acZ(d1:qg qf)(K:qg qf->qf->O->Sl->N->Pw)(w:Y):vc qe JX ux (λe w'=>rP qe Kl.results.toList e w' [] λvs=>jc Dy K (nth vs) w') (λ_ _ _=>qj) (λ_ _=>qj) (nth [.pointer d1]) w=X6 d1 K w:=qa
def X7(d1:qg qf)(d2:qf)(t3:O)(l4:Sl)(K:O->Pw)(w:Y):Prop:=∃t5:qg qf,w.cell? d2=S (.pointer t5)/\∃a6:qf,t5=S a6/\St w ((a6.add 17).add 1) (.y (qq.wrap (l4.len:O))) λw7=>∃t8:qg qf,w7.cell? d2=S (.pointer t8)/\∃a9:qf,t8=S a9/\∃kind10:O,w7.cell? (a9.add 11)=S (.z kind10)/\bif kind10==(1:O)then(Dr w7 λw11=>∃t12:qg qf,w11.cell? d2=S (.pointer t12)/\∃a13:qf,t12=S a13/\∃kernel14:qg qf,w11.cell? a13=S (.pointer kernel14)/\∃a15:qf,kernel14=S a15/\∃u16:Sl,w11.cell? (a15.add 4)=S u16.v/\∃t17:qg qf,w11.cell? d2=S (.pointer t17)/\∃a18:qf,t17=S a18/\∃obj19:O,w11.cell? ((a18.add 11).add 1)=S (.z obj19)/\∃a20:qf,u16.a=S a20/\0<=obj19/\obj19<(u16.len:O)/\av w11 (a20.add (obj19.toNat*3)) 0 [.u,.o,.u] λ(t21:O)(t22:O)(t23:O)=>∃t24:qg qf,w11.cell? d2=S (.pointer t24)/\∃a25:qf,t24=S a25/\∃kernel26:qg qf,w11.cell? a25=S (.pointer kernel26)/\∃a27:qf,kernel26=S a27/\∃u28:Sl,w11.cell? (a27.add 4)=S u28.v/\∃t29:qg qf,w11.cell? d2=S (.pointer t29)/\∃a30:qf,t29=S a30/\∃obj31:O,w11.cell? ((a30.add 11).add 1)=S (.z obj31)/\(WV t21 t22 t23 (λr32 r33 r34 w35=>w35.cell? ((a30.add 11).add 1)=S (.z obj31)/\w35.cell? d2=S (.pointer t29)/\w35.cell? (a27.add 4)=S u28.v/\w35.cell? a25=S (.pointer kernel26)/\w35.cell? d2=S (.pointer t24)/\∃a36:qf,u28.a=S a36/\0<=obj31/\obj31<(u28.len:O)/\(aD w35 (a36.add (obj31.toNat*3)) 0 [.y r32,.z r33,.y r34] λw37=>K (0:O) w37)/\G) w11)/\G)else(K (0:O) w7)
def Dz:An:= .t I (.u) (.t I (.t I (.u) (.t I (.r I (.one 12 16257023 (.one 13 16257023 (.one 14 16257023 (.one 15 16257023 (.one 16 16257023 (.one 17 16257023 (.one 18 16257023 (.one 19 4095 (.one 20 4095 (.one 21 4095 (.one 22 4095 (.one 23 4095 (.one 24 4095 (.one 25 4095 (.hold 0 67112832 268435455 (.one 1 67112832 (.one 2 67112832 (.hold 3 67112832 268435455 (.one 4 67112832 (.one 5 67112832 (.hold 6 67112832 268435455 (.hold 7 67108864 268435455 (.one 8 67108864 (.one 9 67108864 (.one 10 67108864 (.hold 11 67108864 268435455 (.alt 26 (.one 27 0 (.alt 28 (.done) (.none))) (.none))))))))))))))))))))))))))))) (.u))) (.t I (.u) (.u)))
def DA:J (X × Sh):=[(0,.c (.i .i64))]
noncomputable def Gt:Func:={ aeb with results:= #[.tmp 2],body:=S xC}
theorem ac0(d1:qg qf)(d2:qf)(t3:O)(l4:Sl)(K:O->Pw)(w:Y):L8 qe Gt xC Dz DA [.pointer d1,.pointer (S d2),.z t3,l4.v] K w=X7 d1 d2 t3 l4 K w:=qa
theorem ac1{a b c d K w}:Fr (T8 a b c d K w) (A2 w [.z a,.z b,.z c,d.v] 24 λa b=>A2 b [.z 0,.z 0,.z 0,.slice I 0 0] 24 λb c=>∃d,c.z a.p d/\(3:O)≠0/\∃e,c.z (a.p.add 1) e/\(7:O)≠0/\∃f,c.z (a.p.add 2) f/\A2 c [.z 0,.z 0,.z 0,.slice I 0 0] 24 λc g=>aD g c.p 0 [.z (qd.wrap (1+((da .i64 d 65535).tmod 3))),.z (qd.wrap (6+((da .i64 e 65535).tmod 7))),.z (da .i64 f 3),.slice I 0 0] λe=>∀f:O->Pw,(∀(e:O)(g:Y),(bif F (e<(qd.wrap (1+((da .i64 d 65535).tmod 3))))then ∃d,g.s (a.p.add 3) d/\∀h:O->Pw,(∀(a:O)(b:Y),(∃d,b.s (c.p.add 3) d/\A2 b [.z a] 3 λa b=>∃g h,aP qe [22,22] 22 d.v (.slice (S a.p) 1 1) b g h/\St h (c.p.add 3) g.v λa=>f (qd.wrap (e+1)) a)->h a b)->(bif F (e<(d.len:O))then ∃b,g.s (a.p.add 3) b/\∃a,b.a=S a/\0<=e/\e<(b.len:O)/\∃b,g.z (a.add (e.toNat*1)) b/\h (da .i64 b 255) g else h 5 g)else av g c.p 0 [.o,.o,.o,.s] λ(a c d:O)(e:Sl)=>aD g b.p 0 [.z a,.z c,.z d,e.v] λa=>av a b.p 0 [.o,.o,.o,.s] λ(b c d:O)(e:Sl)=>K b c d e a)->f e g)->f 0 e):=ai func6 (.v (.v (.v (.y (.v (.x (.t (S [(5,.c (.i .i64))]) (.y (.v .w) (.x (.x (.v (.x (.v (.t (S [(6,.c (.i .i64))]) .u .u))))))) .u))) .w))))
theorem ac2{K w}:Fr (Uj K w) (A2 w [.z 0,.z 0,.z 0,.slice I 0 0] 24 λa b=>A2 b [.z 5] 3 λb c=>aD c a.p 0 [.z 1,.z 10,.z 2,.slice (S b.p) 1 1] λb=>av b a.p 0 [.o,.o,.o,.s] λ(a c d:O)(e:Sl)=>K a c d e b):=ai func91 (.v .w)
theorem ac3{a b c d e f g K w}:Fr (Vi a b c d e f g K w) (A2 w [.z a,.z b,.z c,d.v,e.v,.z f] 63 λa b=>av b a.p 0 [.o,.o,.o,.s,.s,.o] λ(a c d:O)(e f:Sl)(h:O)=>Vq a c d e f h (λa b c d e f h=>A2 h [.z 0,.z 0,.z 0,.slice I 0 0,.slice I 0 0,.z 0] 63 λh i=>aD i h.p 0 [.z a,.z b,.z c,d.v,e.v,.z f] λa=>av a h.p 0 [.o,.o,.o,.s] λ(b c d:O)(e:Sl)=>∃f,a.s (h.p.add 4) f/\∃i,a.z (h.p.add 5) i/\SQ b c d e f i (λa b c=>av c h.p 0 [.o,.o,.o,.s] λ(d e f:O)(i:Sl)=>Vk d e f i (λc d e=>∀f:W->Pw,(∀(b:W)(d:Y),(bif b then K Z d else ∀b:O->Pw,(∀(d:O)(e:Y),(∀f:W->Pw,(∀(e:W)(i:Y),(bif e then ∃e,g.a=S e/\0<=d/\d<(g.len:O)/\av i (e.add (d.toNat*4)) 0 [.o,.o,.o,.o] λ(e f g j:O)=>RE a e f g j (λa e f g i j k l m n o p=>A2 p [.z 0,.z 0,.z 0,.z 0,.y 0,.z 0,.slice I 0 0,.z 0,.z 0,.bool Z] 72 λp q=>aD q p.p 0 [.z a,.z e,.z f,.z g,.y i,.z j,k.v,.z l,.z m,.bool n] λa=>bif !o then b (qd.wrap (d+1)) a else ∃e,a.z p.p e/\bif e==1 then ∀f:W->Pw,(∀(a:W)(e:Y),(bif a then K Z e else ∀a:qf->Pw,(∀(c:qf)(e:Y),(av e c 0 [.o,.u,.o,.s] λ(a c f:O)(g:Sl)=>av e (p.p.add 3) 0 [.o,.u,.o,.s] λ(h i j:O)(k:Sl)=>Vm a c f g h i j k (λa c=>bif !a then K Z c else b (qd.wrap (d+1)) c) e)->a c e)->(Dr e λb=>∃d,b.z (p.p.add 1) d/\∃e,b.s (h.p.add 4) e/\∃f,b.z (p.p.add 2) f/\∃g,e.a=S g/\0<=f/\f<(e.len:O)/\av b (g.add (f.toNat*6)) 0 [.o,.o,.o,.o,.o,.o] λ(e f g h i j:O)=>(T9 c d e f g h i j (λb c d e f=>(A2 f [.z 0,.y 0,.z 0,.slice I 0 0] 42 λf g=>(aD g f.p 0 [.z b,.y c,.z d,e.v] λb=>a f.p b)/\G)/\G) b)/\(A2 b [.z 0,.y 0,.z 0,.slice I 0 0] 42 λb k=>(T9 c d e f g h i j (λc d e f g=>(aD g b.p 0 [.z c,.y d,.z e,f.v] λc=>a b.p c)/\G) k)/\G)/\G))->f a e)->(∃b,a.z (p.p.add 2) b/\bif F (b<0)then f V a else ∃b,a.z (p.p.add 2) b/\∃c,a.s (h.p.add 4) c/\f (F (b>=(c.len:O))) a)else bif e==4 then ∃f,a.z (p.p.add 2) f/\Vo c f (λa c e=>∀f:W->Pw,(∀(a:W)(c:Y),(bif a then K Z c else b (qd.wrap (d+1)) c)->f a c)->(∃b,e.z ((p.p.add 3).add 2) b/\bif a !=b then f V e else ∃a,e.z (p.p.add 3) a/\f (c !=a) e)) a else bif e==5 then Dr a λe=>∃f,c=S f/\∃c,e.q (f.add 2) c/\∃f,e.z (p.p.add 1) f/\(Ua c f (λa c=>∃e,c.b (p.p.add 9) e/\bif !(a==e)then K Z c else b (qd.wrap (d+1)) c) e)/\G else b (qd.wrap (d+1)) a) i else Dr i λb=>∃d,c=S d/\∃e,b.q d e/\(Ub a (λb f=>f.q d e/\(Uc e (λd e=>(Vr b d (λb d=>bif b then ∃b,c=S b/\(Tv a 0 (λa c=>∃d,c.s (b.add 7) d/\∃b,d.a=S b/\(0:O)<=0/\0<(d.len:O)/\∃d,c.q (b.add ((0:O).toNat*1)) d/\(R8 d (λb c=>(SV a b (λa b=>bif a then(SZ (λa b=>K a b) b)/\G else(K Z b)/\G) c)/\G) c)/\G) d)/\(∃c,d.s (b.add 7) c/\∃b,c.a=S b/\(0:O)<=0/\0<(c.len:O)/\(Tv a 0 (λa c=>∃d,c.q (b.add ((0:O).toNat*1)) d/\(R8 d (λb c=>(SV a b (λa b=>bif a then(SZ (λa b=>K a b) b)/\G else(K Z b)/\G) c)/\G) c)/\G) d)/\(∃c,d.q (b.add ((0:O).toNat*1)) c/\(Tv a 0 (λa b=>(R8 c (λb c=>(SV a b (λa b=>bif a then(SZ (λa b=>K a b) b)/\G else(K Z b)/\G) c)/\G) b)/\G) d)/\G)/\G)/\G else((((K Z d)/\G)/\G)/\G)/\(((((K Z d)/\G)/\G)/\G)/\(((((K Z d)/\G)/\G)/\G)/\G)/\G)/\G) e)/\G) f)/\G) b)/\G)->f e i)->(bif F (d<(g.len:O))then f (F (d<80)) e else f Z e))->b d e)->b 0 d)->f b d)->(bif a.isNone then f V e else bif c.isNone then f V e else bif b !=0 then f V e else f (d !=0) e)) c) a) b):=ai func4 (.v (.v (.v (.v (.y (.y (.r (S [(48,.c .b)]) .done) (.x .w)) (.y (.v (.x (.t (S [(10,.c (.i .i64))]) (.y (.y (.r (S [(56,.c .b)]) .done) .w) (.x (.x (.v (.y (.v .w) (.v (.x (.v (.y (.y (.y (.r (S [(84,.c .b)]) .done) (.x .w)) (.y (.r (S [(13,.c .q)]) (.o 0 1534 (.o 1 1528 (.o 2 1528 (.o 3 1120 (.o 4 1120 (.o 5 1024 (.o 6 1024 (.o 7 1024 (.o 8 1024 (.f 9 (.e 10 (.e 11 .done)) (.e 10 (.e 9 (.e 11 .done)))))))))))))) (.v (.x .w)))) (.v (.y (.v (.y (.r (S [(120,.c .b)]) .done) (.x .w))) (.v (.x (.y (.z (.o 0 48 (.o 1 48 (.o 2 48 (.o 3 48 .MI))))) (.v (.x .w)))))))))))))))) .u))) (.x (.z (.o 0 60 (.o 2 2 (.o 3 2 (.o 4 2 (.hold 5 2 14285631 (.e 1 (.e 6 (.e 7 (.o 8 0 (.o 9 129024 (.o 11 1024 (.o 12 1024 (.o 13 1024 (.f 10 (.o 14 0 (.o 15 0 .NB)) (.e 14 (.o 15 1024 (.f 10 .NB (.e 16 (.e 10 .NK)))))))))))))))))))))))))))
theorem ac4{a b c d e f K w}:Fr (Vq a b c d e f K w) (A2 w [.z a,.z b,.z c,d.v,e.v,.z f] 63 λa b=>A2 b [.z 0,.z 0,.z 0,.slice I 0 0,.slice I 0 0,.z 0] 63 λb c=>Dr c λc=>av c a.p 0 [.o,.o,.o,.s] λ(d e f:O)(g:Sl)=>∃h,c.s (a.p.add 4) h/\∃i,c.s (a.p.add 4) i/\0<=rG (i.len:O) 40/\rG (i.len:O) 40<=(h.cap:O)/\∃j,c.z (a.p.add 5) j/\(T8 d e f g (λc d e f g=>g.z (a.p.add 5) j/\g.s (a.p.add 4) i/\g.s (a.p.add 4) h/\(A2 g [] 36 λg k=>(∃l m,aP qe [61,61] 61 (.slice (S g.p) 0 0) (.slice (eH h.a 0 h.cap 6) (((rG (i.len:O) 40).toNat)-0) (h.cap-0)) k l m/\m.z (a.p.add 5) j/\(aD m b.p 0 [.z c,.z d,.z e,f.v,l.v,.z (qd.wrap (1+(da .i64 j 7)))] λa=>av a b.p 0 [.o,.o,.o,.s,.s,.o] λ(b c d:O)(e f:Sl)(g:O)=>K b c d e f g a)/\G)/\G)/\G) c)/\(A2 c [] 36 λc k=>(T8 d e f g (λd e f g k=>k.z (a.p.add 5) j/\k.s (a.p.add 4) i/\k.s (a.p.add 4) h/\(∃l m,aP qe [61,61] 61 (.slice (S c.p) 0 0) (.slice (eH h.a 0 h.cap 6) (((rG (i.len:O) 40).toNat)-0) (h.cap-0)) k l m/\m.z (a.p.add 5) j/\(aD m b.p 0 [.z d,.z e,.z f,g.v,l.v,.z (qd.wrap (1+(da .i64 j 7)))] λa=>av a b.p 0 [.o,.o,.o,.s,.s,.o] λ(b c d:O)(e f:Sl)(g:O)=>K b c d e f g a)/\G)/\G) k)/\G)/\G):=ai func19 (.v (.x (.z (.o 0 63480 (.o 1 63480 (.o 4 62412 (.o 6 61484 (.o 12 4012 (.hold 5 58252 129023 (.hold 7 57356 129023 (.o 8 57356 (.o 9 57356 (.o 10 57356 (.hold 13 2060 131071 (.o 14 2060 (.o 15 2060 (.f 2 (.e 3 (.e 11 (.o 16 0 (.e 17 .done)))) (.e 3 (.e 2 (.e 11 (.o 16 0 (.e 17 .done))))))))))))))))))))))
theorem ac5{K w}:Fr (SZ K w) (Uj (λa b c d e=>A2 e [.z 0,.z 1,.z 20,.z 6,.z 0,.z 1] 36 λe f=>SQ a b c d ⟨S e.p,1,1⟩ 4 (λa b c=>∀d:W->Pw,(∀(b:W)(c:Y),(bif b then K Z c else RE a 1 0 0 0 (λb c d e f g h i j k l m=>A2 m [.z 0,.z 0,.z 0,.z 0,.y 0,.z 0,.slice I 0 0,.z 0,.z 0,.bool Z] 72 λm n=>aD n m.p 0 [.z b,.z c,.z d,.z e,.y f,.z g,h.v,.z i,.z j,.bool k] λb=>VS a 0 (λb c d=>RE a 0 0 0 0 (λd e f g h i j k m n o p=>A2 p [.z 0,.z 0,.z 0,.z 0,.y 0,.z 0,.slice I 0 0,.z 0,.z 0,.bool Z] 72 λp q=>aD q p.p 0 [.z d,.z e,.z f,.z g,.y h,.z i,j.v,.z k,.z m,.bool n] λd=>RE a 0 0 0 0 (λd e f g h i j k m n q r=>A2 r [.z 0,.z 0,.z 0,.z 0,.y 0,.z 0,.slice I 0 0,.z 0,.z 0,.bool Z] 72 λr s=>aD s r.p 0 [.z d,.z e,.z f,.z g,.y h,.z i,j.v,.z k,.z m,.bool n] λd=>RE a 3 0 0 0 (λd e f g h i j k m n s t=>A2 t [.z 0,.z 0,.z 0,.z 0,.y 0,.z 0,.slice I 0 0,.z 0,.z 0,.bool Z] 72 λt u=>aD u t.p 0 [.z d,.z e,.z f,.z g,.y h,.z i,j.v,.z k,.z m,.bool n] λd=>RE a 0 0 0 0 (λd e f g h i j k m n t u=>A2 u [.z 0,.z 0,.z 0,.z 0,.y 0,.z 0,.slice I 0 0,.z 0,.z 0,.bool Z] 72 λu v=>aD v u.p 0 [.z d,.z e,.z f,.z g,.y h,.z i,j.v,.z k,.z m,.bool n] λd=>RE a 3 0 0 0 (λd e f g h i j k m n v w=>A2 w [.z 0,.z 0,.z 0,.z 0,.y 0,.z 0,.slice I 0 0,.z 0,.z 0,.bool Z] 72 λw x=>aD x w.p 0 [.z d,.z e,.z f,.z g,.y h,.z i,j.v,.z k,.z m,.bool n] λd=>RE a 1 0 5 1 (λd e f g h i j k m n x y=>A2 y [.z 0,.z 0,.z 0,.z 0,.y 0,.z 0,.slice I 0 0,.z 0,.z 0,.bool Z] 72 λy z=>aD z y.p 0 [.z d,.z e,.z f,.z g,.y h,.z i,j.v,.z k,.z m,.bool n] λd=>RE a 0 1 0 0 (λd e f g h i j k m n z ae7=>A2 ae7 [.z 0,.z 0,.z 0,.z 0,.y 0,.z 0,.slice I 0 0,.z 0,.z 0,.bool Z] 72 λae7 B=>aD B ae7.p 0 [.z d,.z e,.z f,.z g,.y h,.z i,j.v,.z k,.z m,.bool n] λd=>Uj (λd e f g h=>SQ d e f g z0 0 (λ_ d e=>bif !l then bif b==1 then bif c then ∃b,e.z p.p b/\bif b==0 then bif o then ∃b,e.z r.p b/\bif b==1 then ∃b,e.z (r.p.add 3) b/\bif b==0 then bif q then bif !s then ∃b,e.z u.p b/\bif b==2 then bif t then ∃b,e.b (w.p.add 9) b/\bif b then bif v then ∃b,e.z y.p b/\bif b==3 then ∃b,e.b (y.p.add 9) b/\bif !b then bif x then bif !z then bif d==1 then Ub a (λa b=>K ((a.len:O)==7) b) e else K Z e else K Z e else K Z e else K Z e else K Z e else K Z e else K Z e else K Z e else K Z e else K Z e else K Z e else K Z e else K Z e else K Z e else K Z e else K Z e else K Z e else K Z e) h) d) d) d) d) d) d) d) d) b) c)->d b c)->(bif a.isNone then d V c else d (b !=0) c)) f) w):=ai func28 (.v (.v (.y (.y (.r (S [(35,.c .b)]) .done) (.x .w)) (.v (.v (.v (.v (.v (.v (.v (.v (.v (.v .w)))))))))))))
theorem ac6{a b c d e f g h i j K w}:Fr (Wq a b c d e f g h i j K w) (A2 w [.z c,.y d,.y e,.y f,.y g,.y h,.bool i] 274 λc d=>A2 d [.bool Z,.z 0,.z 0,.z 0,.y 0,.y 0,.y 0,.y 0,.y 0,.bool Z] 303 λd e=>TY a b (λe f=>bif e then aD f d.p 0 [.bool Z,.z 0,.z 0,.z 0,.y 0,.y 0,.y 0,.y 0,.y 0,.bool Z] λe=>av e d.p 0 [.b,.o,.o,.o,.u,.u,.u,.u,.u,.b] λ(g:W)(h i k l m n o p:O)(q:W)=>K g h i k l m n o p q 110 e else ∃e,a=S e/\∃g,f.s (e.add 1) g/\bif F ((g.len:O)>0)then ∃e,a=S e/\∃g,f.s (e.add 1) g/\∃e,g.a=S e/\(0:O)<=0/\0<(g.len:O)/\∃g,f.z (e.add ((0:O).toNat*1)) g/\A2 f [] 3 λe h=>∃i,a=S i/\∃k,h.s (i.add 1) k/\(0:O)<=1/\1<=(k.len:O)/\∃i l,aP qe [22,22] 22 (.slice (S e.p) 0 0) (.slice (eH k.a ((1:O).toNat) k.cap 1) (k.len-((1:O).toNat)) (k.cap-((1:O).toNat))) h i l/\∃e,a=S e/\St l (e.add 1) i.v λe=>av e c.p 0 [.o,.u,.u,.u,.u,.u,.b] λ(h i k l m n:O)(o:W)=>aD e d.p 0 [.bool V,.z b,.z g,.z h,.y i,.y k,.y l,.y m,.y n,.bool o] λe=>av e d.p 0 [.b,.o,.o,.o,.u,.u,.u,.u,.u,.b] λ(g:W)(h i k l m n o p:O)(q:W)=>K g h i k l m n o p q 0 e else bif j then Dr f λe=>∃g,a=S g/\∃h,e.s g h/\av e c.p 0 [.o,.u,.u,.u,.u,.u,.b] λ(c g i j k l:O)(m:W)=>(A2 e [.z b,.z c,.y g,.y i,.y j,.y k,.y l,.bool m] 276 λb c=>(∃e f,aP qe [269,269] 269 h.v (.slice (S b.p) 1 1) c e f/\∃b,a=S b/\(St f b e.v λa=>aD a d.p 0 [.bool Z,.z 0,.z 0,.z 0,.y 0,.y 0,.y 0,.y 0,.y 0,.bool Z] λa=>av a d.p 0 [.b,.o,.o,.o,.u,.u,.u,.u,.u,.b] λ(b:W)(c d e f g h i j:O)(k:W)=>K b c d e f g h i j k 0 a)/\G)/\G)/\G else aD f d.p 0 [.bool Z,.z 0,.z 0,.z 0,.y 0,.y 0,.y 0,.y 0,.y 0,.bool Z] λa=>av a d.p 0 [.b,.o,.o,.o,.u,.u,.u,.u,.u,.b] λ(b:W)(c d e f g h i j:O)(k:W)=>K b c d e f g h i j k 0 a) e):=ai func183 (.v (.y (.v (.x .w)) (.y (.v (.x (.v (.v .w)))) (.y (.v (.x .g14)) .w))))
theorem ac7{a b c K w}:Fr (Wr a b c K w) (A2 w [.bool Z,.z 0,.z 0,.z 0,.y 0,.y 0,.y 0,.y 0,.y 0,.bool Z] 303 λd e=>TY a b (λe f=>bif e then aD f d.p 0 [.bool Z,.z 0,.z 0,.z 0,.y 0,.y 0,.y 0,.y 0,.y 0,.bool Z] λe=>av e d.p 0 [.b,.o,.o,.o,.u,.u,.u,.u,.u,.b] λ(g:W)(h i j k l m n o:O)(p:W)=>K g h i j k l m n o p 110 e else ∃e,a=S e/\∃g,f.s e g/\bif F ((g.len:O)>0)then ∃e,a=S e/\∃g,f.s e g/\∃e,g.a=S e/\(0:O)<=0/\0<(g.len:O)/\av f (e.add ((0:O).toNat*8)) 0 [.o,.o,.u,.u,.u,.u,.u,.b] λ(e g h i j k l:O)(m:W)=>A2 f [.z 0,.z 0,.y 0,.y 0,.y 0,.y 0,.y 0,.bool Z] 276 λn o=>aD o n.p 0 [.z e,.z g,.y h,.y i,.y j,.y k,.y l,.bool m] λe=>A2 e [] 276 λe g=>∃h,a=S h/\∃i,g.s h i/\(0:O)<=1/\1<=(i.len:O)/\∃h j,aP qe [269,269] 269 (.slice (S e.p) 0 0) (.slice (eH i.a ((1:O).toNat) i.cap 8) (i.len-((1:O).toNat)) (i.cap-((1:O).toNat))) g h j/\∃e,a=S e/\St j e h.v λe=>∃g,e.z n.p g/\av e (n.p.add 1) 0 [.o,.u,.u,.u,.u,.u,.b] λ(h i j k l m:O)(n:W)=>aD e d.p 0 [.bool V,.z g,.z b,.z h,.y i,.y j,.y k,.y l,.y m,.bool n] λe=>av e d.p 0 [.b,.o,.o,.o,.u,.u,.u,.u,.u,.b] λ(g:W)(h i j k l m n o:O)(p:W)=>K g h i j k l m n o p 0 e else bif c then ∃c,a=S c/\∃e,f.s (c.add 1) e/\A2 f [.z b] 3 λb c=>∃g h,aP qe [22,22] 22 e.v (.slice (S b.p) 1 1) c g h/\∃b,a=S b/\St h (b.add 1) g.v λa=>aD a d.p 0 [.bool Z,.z 0,.z 0,.z 0,.y 0,.y 0,.y 0,.y 0,.y 0,.bool Z] λa=>av a d.p 0 [.b,.o,.o,.o,.u,.u,.u,.u,.u,.b] λ(b:W)(c e g h i j k l:O)(m:W)=>K b c e g h i j k l m 0 a else aD f d.p 0 [.bool Z,.z 0,.z 0,.z 0,.y 0,.y 0,.y 0,.y 0,.y 0,.bool Z] λa=>av a d.p 0 [.b,.o,.o,.o,.u,.u,.u,.u,.u,.b] λ(b:W)(c d e f g h i j:O)(k:W)=>K b c d e f g h i j k 0 a) e):=ai func184 (.v (.y (.v (.x .w)) (.y (.v (.x (.v (.v .w)))) (.y (.v .w) .w))))
theorem ac8{a b K w}:Fr (Xb a b K w) (TY a b (λc d=>bif !c then K Z d else A2 d [] 276 λc d=>A2 d [] 3 λd e=>∀f:Sl->O->Pw,(∀(c:Sl)(e:O)(g:Y),(∃h,a=S h/\∃i,g.s h i/\bif F (e<(i.len:O))then ∃h,a=S h/\∃i,g.s h i/\∃h,i.a=S h/\0<=e/\e<(i.len:O)/\∃i,g.z (h.add (e.toNat*8)) i/\bif i !=b then ∃h,a=S h/\∃i,g.s h i/\∃h,i.a=S h/\0<=e/\e<(i.len:O)/\av g (h.add (e.toNat*8)) 0 [.o,.o,.u,.u,.u,.u,.u,.b] λ(h i j k l m n:O)(o:W)=>A2 g [.z h,.z i,.y j,.y k,.y l,.y m,.y n,.bool o] 276 λh i=>∃j k,aP qe [269,269] 269 c.v (.slice (S h.p) 1 1) i j k/\f j (qd.wrap (e+1)) k else f c (qd.wrap (e+1)) g else ∀e:Sl->O->Pw,(∀(d:Sl)(f:O)(g:Y),(∃h,a=S h/\∃i,g.s (h.add 1) i/\bif F (f<(i.len:O))then ∃h,a=S h/\∃i,g.s (h.add 1) i/\∃h,i.a=S h/\0<=f/\f<(i.len:O)/\∃i,g.z (h.add (f.toNat*1)) i/\bif i !=b then ∃b,a=S b/\∃h,g.s (b.add 1) h/\∃b,h.a=S b/\0<=f/\f<(h.len:O)/\∃h,g.z (b.add (f.toNat*1)) h/\A2 g [.z h] 3 λb h=>∃i j,aP qe [22,22] 22 d.v (.slice (S b.p) 1 1) h i j/\e i (qd.wrap (f+1)) j else e d (qd.wrap (f+1)) g else ∃b,a=S b/\St g b c.v λb=>∃c,a=S c/\St b (c.add 1) d.v λa=>K V a)->e d f g)->e ⟨S d.p,0,0⟩ 0 g)->f c e g)->f ⟨S c.p,0,0⟩ 0 e) w):=ai func288 (.v (.y (.v (.x .w)) (.v (.y (.v (.x (.t (S [(5,.c .s),(7,.c (.i .i64))]) .J6 .u))) (.y (.v (.x (.t (S [(6,.c .s),(8,.c (.i .i64))]) .J6 .u))) (.v (.v .w)))))))
theorem ac9{a b K w}:Fr (TY a b K w) (∀c:O->Pw,(∀(d:O)(e:Y),(∃f,a=S f/\∃g,e.s f g/\bif F (d<(g.len:O))then ∃f,a=S f/\∃g,e.s f g/\∃f,g.a=S f/\0<=d/\d<(g.len:O)/\∃g,e.z (f.add (d.toNat*8)) g/\bif g==b then K V e else c (qd.wrap (d+1)) e else ∀c:O->Pw,(∀(d:O)(e:Y),(∃f,a=S f/\∃g,e.s (f.add 1) g/\bif F (d<(g.len:O))then ∃f,a=S f/\∃a,e.s (f.add 1) a/\∃f,a.a=S f/\0<=d/\d<(a.len:O)/\∃a,e.z (f.add (d.toNat*1)) a/\bif a==b then K V e else c (qd.wrap (d+1)) e else K Z e)->c d e)->c 0 e)->c d e)->c 0 w):=ai func291 (.v (.y .NC .Nw))
theorem ada{a K w}:Fr (Vz a K w) (∀b:O->O->Pw,(∀(c d:O)(e:Y),(∃f,a=S f/\∃g,e.s f g/\bif F (d<(g.len:O))then ∃f,a=S f/\∃g,e.s f g/\∃f,g.a=S f/\0<=d/\d<(g.len:O)/\∃g,e.y (f.add (d.toNat*1)) g/\b (Hq .u64 c g) (qd.wrap (d+1)) e else Dr e λb=>∃d,a=S d/\∃a,b.s d a/\K c (F ((a.len:O)>0)) b)->b c d e)->b 0 0 w):=ai func62 (.v (.v (.y (.v (.x (.t (S [(4,.c (.i .u64)),(5,.c (.i .i64))]) (.y (.v .w) (.x .w)) .u))) (.x (.z (.o 0 126 (.o 1 128 (.o 2 128 (.o 3 128 .NR)))))))))
theorem adb{a b c K w}:Fr (Wp a b c K w) (∀d:O->Pw,(∀(e:O)(f:Y),(∃g,a=S g/\∃h,f.s (g.add 1) h/\bif F (e<(h.len:O))then ∃g,a=S g/\∃h,f.s (g.add 1) h/\∃g,h.a=S g/\0<=e/\e<(h.len:O)/\∃h,f.z (g.add (e.toNat*1)) h/\bif h==b then K 0 Z 120 f else d (qd.wrap (e+1)) f else Vz a (λd e f=>bif e then ∃e,a=S e/\St f e (.slice I 0 0) λe=>K d V 0 e else bif c then ∃c,a=S c/\∃d,f.s (c.add 1) d/\A2 f [.z b] 3 λb c=>∃e g,aP qe [22,22] 22 d.v (.slice (S b.p) 1 1) c e g/\∃b,a=S b/\St g (b.add 1) e.v λa=>K 0 Z 0 a else K 0 Z 0 f) f)->d e f)->d 0 w):=ai func181 (.v (.y (.v (.x (.t (S [(9,.c (.i .i64))]) .Me .u))) (.v (.y (.v (.x (.v .w))) (.y (.v .w) .w)))))
theorem ade{a b K w}:Fr (Wz a b K w) (∃c,a=S c/\∃d,w.s (c.add 1) d/\bif F ((d.len:O)>0)then ∃c,a=S c/\∃d,w.s (c.add 1) d/\∃c,d.a=S c/\(0:O)<=0/\0<(d.len:O)/\∃d,w.z (c.add ((0:O).toNat*1)) d/\A2 w [] 3 λc e=>∃f,a=S f/\∃g,e.s (f.add 1) g/\(0:O)<=1/\1<=(g.len:O)/\∃f h,aP qe [22,22] 22 (.slice (S c.p) 0 0) (.slice (eH g.a ((1:O).toNat) g.cap 1) (g.len-((1:O).toNat)) (g.cap-((1:O).toNat))) e f h/\∃c,a=S c/\St h (c.add 1) f.v λc=>K d b V c else ∃c,a=S c/\∃d,w.s c d/\A2 w [.y b] 39 λb c=>∃e f,aP qe [278,278] 278 d.v (.slice (S b.p) 1 1) c e f/\∃b,a=S b/\St f b e.v λa=>K 0 0 Z a):=ai func196 (.v (.y (.v (.x (.v (.v .w)))) (.v .w)))
theorem adf{a b K w}:Fr (Xc a b K w) (A2 w [] 3 λc d=>∀e:Sl->O->Pw,(∀(c:Sl)(d:O)(f:Y),(∃g,a=S g/\∃h,f.s (g.add 1) h/\bif F (d<(h.len:O))then ∃g,a=S g/\∃h,f.s (g.add 1) h/\∃g,h.a=S g/\0<=d/\d<(h.len:O)/\∃h,f.z (g.add (d.toNat*1)) h/\bif h !=b then ∃b,a=S b/\∃g,f.s (b.add 1) g/\∃b,g.a=S b/\0<=d/\d<(g.len:O)/\∃g,f.z (b.add (d.toNat*1)) g/\A2 f [.z g] 3 λb g=>∃h i,aP qe [22,22] 22 c.v (.slice (S b.p) 1 1) g h i/\e h (qd.wrap (d+1)) i else e c (qd.wrap (d+1)) f else ∃b,a=S b/\∃d,f.s (b.add 1) d/\∃b,a=S b/\St f (b.add 1) c.v λa=>K (F ((c.len:O)<(d.len:O))) a)->e c d f)->e ⟨S c.p,0,0⟩ 0 d):=ai func289 (.v (.v (.y .MB (.v (.v .w)))))
theorem adg{a K w}:Fr (Vw a K w) (∀b:W->Pw,(∀(c:W)(d:Y),(bif c then K I 1 d else ∃(b:Sl)(c:Y),jH qe 263 (.z a) (.z a) d b c/\A2 c [b.v] 265 λa b=>K (S a.p) 0 b)->b c d)->(bif F (a<1)then b V w else b (F (a>64)) w)):=ai func46 .Lb
theorem adh{a b K w}:Fr (VI a b K w) (TH a b (λc d=>bif !c then K 0 0 Z 130 d else ∃c,a=S c/\∃e,d.s c e/\∃c,e.a=S c/\0<=b/\b<(e.len:O)/\av d (c.add (b.toNat*5)) 0 [.b,.o,.u,.b,.b] λ(c:W)(e f:O)(g h:W)=>A2 d [.bool Z,.z 0,.y 0,.bool Z,.bool Z] 320 λd i=>aD i d.p 0 [.bool c,.z e,.y f,.bool g,.bool h] λc=>∃e,c.b d.p e/\bif !e then K 0 0 Z 0 c else ∃e,c.b (d.p.add 3) e/\bif e then ∃e,a=S e/\∃f,c.s e f/\∃e,f.a=S e/\0<=b/\b<(f.len:O)/\St c ((e.add (b.toNat*5)).add 3) (.bool Z) λe=>Dr e λe=>∃f,e.z (d.p.add 1) f/\∃g,e.y (d.p.add 2) g/\K f g V 0 e else ∃d,a=S d/\∃a,c.s d a/\∃d,a.a=S d/\0<=b/\b<(a.len:O)/\St c ((d.add (b.toNat*5)).add 4) (.bool V) λa=>K 0 0 Z 0 a) w):=ai func77 (.v (.y (.v (.x .w)) (.v (.y (.v (.x .w)) .g17))))
theorem adi{a b c d K w}:Fr (Ww a b c d K w) (TH a b (λe f=>bif !e then K 130 f else bif F (c<0)then K 1 f else ∃e,a=S e/\∃g,f.s e g/\∃e,g.a=S e/\0<=b/\b<(g.len:O)/\∃g,f.b (e.add (b.toNat*5)) g/\bif g then K 131 f else ∃e,a=S e/\∃a,f.s e a/\∃e,a.a=S e/\0<=b/\b<(a.len:O)/\aD f (e.add (b.toNat*5)) 0 [.bool V,.z c,.y d,.bool V,.bool Z] λa=>K 0 a) w):=ai func190 (.v (.y (.v (.x .w)) (.y (.v (.x .w)) .Kw)))
theorem adj{a b K w}:Fr (Wx a b K w) (TH a b (λc d=>bif !c then K 0 0 Z 130 d else ∃c,a=S c/\∃e,d.s c e/\∃c,e.a=S c/\0<=b/\b<(e.len:O)/\av d (c.add (b.toNat*5)) 0 [.b,.o,.u,.b,.b] λ(c:W)(e f:O)(g h:W)=>A2 d [.bool Z,.z 0,.y 0,.bool Z,.bool Z] 320 λd i=>aD i d.p 0 [.bool c,.z e,.y f,.bool g,.bool h] λc=>∀e:W->Pw,(∀(c:W)(f:Y),(bif c then K 0 0 Z 0 f else ∃c,f.b (d.p.add 4) c/\bif c then ∃c,a=S c/\∃e,f.s c e/\∃c,e.a=S c/\0<=b/\b<(e.len:O)/\St f ((c.add (b.toNat*5)).add 4) (.bool Z) λc=>Dr c λc=>∃e,c.z (d.p.add 1) e/\∃g,c.y (d.p.add 2) g/\K e g V 0 c else ∃c,a=S c/\∃a,f.s c a/\∃c,a.a=S c/\0<=b/\b<(a.len:O)/\St f ((c.add (b.toNat*5)).add 3) (.bool V) λa=>K 0 0 Z 0 a)->e c f)->(∃a,c.b d.p a/\bif !a then e V c else ∃a,c.b (d.p.add 3) a/\e a c)) w):=ai func191 (.v (.y (.v (.x .w)) (.v (.y (.y .MR (.x .w)) .g17))))
theorem adk{a b K w}:Fr (TH a b K w) (bif F (b>=0)then ∃c,a=S c/\∃a,w.s c a/\K (F (b<(a.len:O))) w else K Z w):=ai func195 (.v .w)
theorem u9{T el:qh}{inf:qJ}{zv:N}{c:X}{k:Sl->Pw}[ae4:bY s L α E (x::r)]
  (hu:P.underlying T=S (.slice el)) (hi:P.info? el=S inf) (hz:inf.zero=S zv) (hsz:inf.size=E.z) (hzc:zv.cells.size=E.z) (hb:1<=inf.bytes)
  (h:Ow B w0 w (aa c []::L)) (hbig:(17*r.length+16000)*inf.bytes<=2^48) (hk:∀s' w',Ow B w0 w' (af E s' r::L)->k s' w'):
  ∃s' w',aP P [T,T] T (.slice (S c.p) 0 0) (.slice (eH s.a ((1:O).toNat) s.cap E.z) (s.len-((1:O).toNat)) (s.cap-((1:O).toNat))) w s' w'/\k s' w':=by
 have hlen:=h.aL s;simp only[OB]at hlen;have h2:Ow B w0 w (af E ⟨S c.p,0,0⟩ []::L):=Ow.empty h;have hy:=(h2.wN (ae4.i+1) (by simpa using ae4.at_)).sub (l:=1) (hh:=s.len) om (On _);rw[Ou (by rw[aK,hlen];simp),PO,RL,<-E.len x,List.drop_left]at hy;rw[E.len x]at hy;show ∃s' w',aP P [T,T] T (.slice (S c.p) 0 0) (.slice (eH s.a 1 s.cap E.z) (s.len-1) (s.cap-1)) w s' w'/\k s' w';exact Ow.app (s:=⟨S c.p,0,0⟩) (x:=⟨eH s.a 1 s.cap E.z,s.len-1,s.cap-1⟩) (xs:=[]) (ys:=r) hu hi hz hsz hzc hb h2 0 U hy (by show s.len-1=_;omega) (by simpa using hbig) λs' w _ h=>hk _ w h
abbrev tO(s:Sl):N:= s.v
def wU:dF O:=⟨1,λo=>[.y o],λ_=>rfl,λx v h=>by simp at h;subst h;rfl,On _⟩
def yg(l:J O):O:=l.foldl (λa b=>Hq .u64 a b) 0
structure B9(ae6:X)(n:oN)(D:J O):Prop where
 word:n.word=yg D
 is:n.is= !D.isEmpty
 fh:D.length<=ae6
 Ja:n.l.length<=1000000
def cf(ae6 b:X)(n:oN):aH:=pa λx:(Sl × Sl)× J O=>bo [dJ (B9 ae6 n x.2),aa b [tO x.1.1,tO x.1.2],af wU x.1.1 x.2,af aB x.1.2 n.l]
theorem te(h:Ow B w0 w (cf ae6 b n::R)):∃s t D,B9 ae6 n D/\Ow B w0 w (aa b [tO s,tO t]::af wU s D::af aB t n.l::R):=by obtain⟨⟨⟨s,t⟩,D⟩,h⟩:=h.ex;obtain⟨h1,h⟩:=Ow.pure h.star;exact⟨s,t,D,h1,h⟩
theorem fL(h1:B9 ae6 n D)(h:Ow B w0 w (aa b [tO s,tO t]::af wU s D::af aB t n.l::R)):Ow B w0 w (cf ae6 b n::R):=Ow.eP ((s,t),D) (Ow.br (Ow.cZ h1 h))
theorem vV{M:X}(hm:ae6<=M)(h:Ow B w0 w (cf ae6 b n::R)):Ow B w0 w (cf M b n::R):=by obtain⟨s,t,D,h1,h⟩:=te h;exact fL ⟨h1.word,h1.is,by have:=h1.fh;omega,h1.Ja⟩ h
theorem Fw(h:Ow B w0 w (aa b [.slice I 0 0,.slice I 0 0]::R)):Ow B w0 w (cf ae6 b ⟨0,Z,[]⟩::R):=
 fL (s:=z0) (t:=z0) (D:=[]) ⟨U,U,Qi _,Qi _⟩ (Ow.sub (Ow.cH (E:=wU) (Ow.cH (E:=aB) h)))
theorem C7{K:O->W->Pw}(hN:ae6<=1000000)(h:Ow B w0 w (cf ae6 b n::R))(hK:∀w',Ow B w0 w' (cf ae6 b n::R)->K n.word n.is w'):Vz b.o K w:=by
 apply ada;obtain⟨s,t,D,h1,h⟩:=te h;have hl:=h.aL s;have hf:=h1.fh;intro l hL;have loop:∀(m j:X)(w:Y),j+m=D.length->Ow B w0 w (aa b [tO s,tO t]::af wU s D::af aB t n.l::R)->l (yg (D.take j)) (j:O) w:=by
  intro m;induction m with
  |zero=>
   intro j w hj h;apply hL;refine⟨_,U,s,h.aF U,aw om (h.dr λw h=>⟨_,U,s,h.aF U,?_⟩)⟩
   have hK2:=hK w (fL h1 h);rw[h1.word,h1.is]at hK2;rw[Ou om,show F ((s.len:O)>0)= !D.isEmpty from by rw[hl];cases D<;>simp];exact hK2
  |succ m ih=>
   intro j w hj h;have hx:D[j]?=S D[j]:=gE om;apply hL;refine⟨_,U,s,h.aF U,az om ⟨_,U,s,h.aF U,h.bX (s:=s) U hx λa ha h0 hc=>⟨_,h0 _ U,?_⟩⟩⟩;rw[wr om om];have e:Hq .u64 (yg (D.take j)) D[j]=yg (D.take (j+1)):=by unfold yg;rw[OG,hx,RI];rfl
   rw[e];exact ih (j+1) w om h
 exact loop D.length 0 w om h
theorem C4{who:O}{wt:W}{K:O->W->O->Pw}(hN:ae6<=1000000)(hbig:n.l.length<1000000)(h:Ow B w0 w (cf ae6 b n::R))
  (hK:∀w',Ow B w0 w' (cf ae6 b (n.wait who wt).2::R)->K (n.wait who wt).1.1 (n.wait who wt).1.2.1 (n.wait who wt).1.2.2 w'):Wp b.o who wt K w:=by
 apply adb;obtain⟨s,t,D,h1,h⟩:=te h;have hl:=h.aL t;unfold oN.wait at hK;intro l hL;have loop:∀(m j:X)(w:Y),j+m=n.l.length->(∀i y,i<j->n.l[i]?=S y->y≠who)->Ow B w0 w (aa b [tO s,tO t]::af wU s D::af aB t n.l::R)->l (j:O) w:=by
  intro m;induction m with
  |zero=>
   intro j w hj hno h;apply hL;refine⟨_,U,t,h.aF U,aw om ?_⟩;have ht:(n.l.any λx=>who==x)=false:=by rw[Qf];intro y hy;obtain⟨i,hi⟩:=O5.1 hy;have:=hno i y (by have:=(Om.1 hi).1;omega) hi;simp only[qG];omega
   rw[ht,Q qc]at hK;refine C7 hN (fL h1 h) λw h=>?_;obtain⟨s,t,D,h1,h⟩:=te h;cases hi:n.is with
   |true=>
    rw[hi]at hK;refine aU U ⟨_,U,?_⟩;refine h.jx U U λw h=>?_;have hK:∀w',Ow B w0 w' (cf ae6 b { n with word:=0,is:=Z}::R)->K n.word V 0 w':=hK;exact hK w (fL (n:={ n with word:=0,is:=Z}) (s:=z0) (t:=t) (D:=[]) ⟨U,U,Qi _,h1.Ja⟩ (Ow.sub (Ow.cH (E:=wU) h)))
   |false=>
    rw[hi]at hK;refine aW U ?_;cases wt with
    |true=>
     refine aU U ⟨_,U,t,h.aF U,?_⟩;refine h.a λd w2 h=>?_;have hK:∀w',Ow B w0 w' (cf ae6 b ⟨n.word,Z,n.l++ [who]⟩::R)->K 0 Z 0 w':=hK;refine eQ (s:=t) (y:=who) h om λt' w ht' h=>⟨_,U,?_⟩
     refine h.jx U U λw h=>?_;exact hK w (fL (s:=s) (t:=t') (D:=D) (n:=⟨n.word,Z,n.l++ [who]⟩) ⟨h1.word,hi▸h1.is,h1.fh,by simp;omega⟩ h.sub)
    |false=>exact aW U (hK w (fL h1 h))
  |succ m ih=>
   intro j w hj hno h;have hx:n.l[j]?=S n.l[j]:=gE om;apply hL;refine⟨_,U,t,h.aF U,az om ⟨_,U,t,h.aF U,h.bX (s:=t) U hx λa ha h0 hc=>⟨_,h0 _ U,?_⟩⟩⟩;by_cases e:n.l[j]=who
   .have ht:(n.l.any λx=>who==x)=true:=PS.2 ⟨n.l[j],Ph _,by simp[e]⟩
    rw[ht]at hK;exact jg e (hK w (fL h1 h))
   .refine jf e ?_
    rw[wr om om];refine ih (j+1) w om (λi y hi hy=>?_) h;by_cases e2:i=j
    .subst e2;rw[hx]at hy;cases hy;exact e
    .exact hno i y om hy
 exact loop n.l.length 0 w om (λi y hi=>by omega) h
theorem zq{g:O}{K:O->O->W->Pw}(hN:ae6<1000000)(h:Ow B w0 w (cf ae6 b n::R))
  (hK:∀w',Ow B w0 w' (cf (ae6+1) b (n.a8 g).2::R)->K ((n.a8 g).1.getD 0) (if(n.a8 g).1.isSome then g else 0) (n.a8 g).1.isSome w'):Wz b.o g K w:=by
 apply ade;obtain⟨s,t,D,h1,h⟩:=te h;have hl:=h.aL t;have hf:=h1.fh;have hlf:=h1.Ja;unfold oN.a8 at hK;refine⟨_,U,t,h.aF U,?_⟩;cases hn:n.l with
 |nil=>
  rw[hn]at hK hl;refine aw (by simp at hl;omega) ⟨_,rfl,s,h.aF U,?_⟩;refine h.a λd w2 h=>?_;refine Ow.eR (s:=s) (E:=wU) (y:=g) aep (el:=39) (inf:=ad9) qa (zv:= .y 0) qa qa U qb h (by rw[show ad9.bytes=8 from by kernel_rfl];omega) λs' w hs' h=>⟨_,U,?_⟩
  refine h.jx U U λw h=>?_;refine hK w (fL (s:=s') (t:=t) (D:=D++ [g]) (n:=⟨Hq .u64 n.word g,V,[]⟩) ⟨?_,?_,?_,?_⟩ ?_)
  .unfold yg
   rw[RI,h1.word];rfl
  .show V=_
   simp
  .simp;omega
  .simp
  .rw[hn]at h;exact h.sub
 |cons x r=>
  rw[hn]at hK hl h;simp only[OB]at hl;rw[hn]at hlf;simp only[OB]at hlf;refine az om ⟨_,U,t,h.aF U,?_⟩;refine h.bX (s:=t) (i:=0) (j:=0) U U λa ha hc0 hc=>⟨_,hc0 _ U,?_⟩
  refine h.a λd w2 h=>?_;refine⟨_,U,t,h.aF U,om,om,u9 (s:=t) (E:=aB) (x:=x) (r:=r) qH uC (zv:= .z 0) qa qa U qb h (by rw[ve];omega) λt' w h=>⟨_,U,?_⟩⟩
  refine h.jx U U λw h=>?_;exact hK w (fL (s:=s) (t:=t') (D:=D) (n:={ n with l:=r}) ⟨h1.word,h1.is,om,by show r.length<=_;omega⟩ h.sub)
theorem xe{who:O}{K:W->Pw}(h:Ow B w0 w (cf ae6 b n::R))(hK:∀r w',Ow B w0 w' (cf ae6 b (n.cancel who)::R)->K r w'):Xc b.o who K w:=by
 apply adf;obtain⟨s,t,D,h1,h⟩:=te h;have hl:=h.aL t;have hlf:=h1.Ja;refine h.a λc w1 h=>?_;have h:Ow B w0 w1 (af aB ⟨S c.p,0,0⟩ []::_):=Ow.empty h;intro l hL;have loop:∀(m j:X)(o:Sl)(w:Y),j+m=n.l.length->Ow B w0 w (af aB o ((n.l.take j).filter λx=> !(x==who))::aa b [tO s,tO t]::af wU s D::af aB t n.l::R)->l o (j:O) w:=by
  intro m;induction m with
  |zero=>
   intro j o w hj h;apply hL;refine⟨_,U,t,h.aF U,aw om ⟨_,U,t,h.aF U,_,U,?_⟩⟩;rw[Ou om]at h;refine h.jx U U λw h=>?_;exact hK _ w (fL (s:=s) (t:=o) (D:=D) (n:=n.cancel who) ⟨h1.word,h1.is,h1.fh,ON (OR _ _) hlf⟩ (h.sub:Ow B w0 w (aa b [tO s,tO o]::af wU s D::af aB o (n.l.filter λx=> !(x==who))::R)))
  |succ m ih=>
   intro j o w hj h;have hx:n.l[j]?=S n.l[j]:=gE om;have ht:n.l.take (j+1)=n.l.take j++ [n.l[j]]:=by rw[OG,hx];rfl
   apply hL;refine⟨_,U,t,h.aF U,az om ⟨_,U,t,h.aF U,h.bX (s:=t) U hx λa ha h0 hc=>⟨_,h0 _ U,?_⟩⟩⟩;rw[wr om om];by_cases e:n.l[j]=who
   .refine fG e ?_
    refine ih (j+1) o w om ?_;rw[ht,O9,Pf,show(!(n.l[j]==who))=Z from by simp[e]];simpa using h
   .refine iy e ⟨_,U,t,h.aF U,a,ha,om,om,_,h0 _ U,?_⟩
    refine h.a λd w2 h=>?_;refine eQ (s:=o) (y:=n.l[j]) h (ON (OR _ _) (by rw[OO];omega)) λo' w ho' h=>?_;refine ih (j+1) o' w om ?_;rw[ht,O9,Pf,show(!(n.l[j]==who))=V from by simp[e],A U,P8];exact h.sub
 exact loop n.l.length 0 _ w1 om h
theorem DI:qe.info? 276=S aev:=qa
theorem Au:aev.bytes=64:=qa
def eN.sd(p:eN):J Wt:=if p.gV then p.l else []
def eN.rc(p:eN):J O:=if p.gV then []else p.l.map (·.who)
def eB(b:X)(p:eN):aH:=pa λx:Sl × Sl=>bo [dJ (p.l.length<=1000000),aa b [tO x.1,tO x.2],af ja x.1 p.sd,af aB x.2 p.rc]
theorem Fz(p:eN)(n:O):p.there n=(p.sd.any (λo=>o.who==n)||p.rc.any (λx=>x==n)):=by
 unfold eN.there eN.sd eN.rc;cases p.gV with
 |true=>simp
 |false=>simp[List.any_map,Function.comp_def]
theorem HR(p:eN):p.sd.length<=p.l.length:=by unfold eN.sd;split<;>simp
theorem HF(p:eN):p.rc.length<=p.l.length:=by unfold eN.rc;split<;>simp
theorem DY(h:Ow B w0 w (eB b p::R)):∃s t,p.l.length<=1000000/\Ow B w0 w (aa b [tO s,tO t]::af ja s p.sd::af aB t p.rc::R):=by obtain⟨⟨s,t⟩,h⟩:=h.ex;obtain⟨h1,h⟩:=Ow.pure h.star;exact⟨s,t,h1,h⟩
theorem kB(h1:p.l.length<=1000000)(h:Ow B w0 w (aa b [tO s,tO t]::af ja s p.sd::af aB t p.rc::R)):Ow B w0 w (eB b p::R):=Ow.eP (s,t) (Ow.br (Ow.cZ h1 h))
theorem HH(h:Ow B w0 w (aa b [.slice I 0 0,.slice I 0 0]::R)):Ow B w0 w (eB b ⟨[],Z⟩::R):=
 kB (s:=z0) (t:=z0) qc (Ow.sub (Ow.cH (E:=ja) (Ow.cH (E:=aB) h)):Ow B w0 w (aa b [.slice I 0 0,.slice I 0 0]::af ja z0 []::af aB z0 []::R))
theorem nV{n:O}{K:W->Pw}(h:Ow B w0 w (eB b p::R))(hK:K (p.there n) w):TY b.o n K w:=by
 apply ac9;obtain⟨s,t,h1,h⟩:=DY h;have hs:=h.aL s;have ht:=h.aL t;have d1:=HR p;have d2:=HF p;rw[Fz]at hK;have no:∀{α:Type}(l:J α)(q:α->W)(j:X),l.length<=j->(∀i y,i<j->l[i]?=S y->q y=Z)->l.any q=false:=λl q j hj hno=>by rw[Qf];intro y hy;obtain⟨i,hi⟩:=O5.1 hy;have:=hno i y (by have:=(Om.1 hi).1;omega) hi;simp[this]
 intro l3 hL3;have loop:∀(m j:X),j+m=p.sd.length->(∀i y,i<j->p.sd[i]?=S y->(y.who==n)=Z)->l3 (j:O) w:=by
  intro m;induction m with
  |zero=>
   intro j hj hno;apply hL3;refine⟨_,U,s,h.aF U,aw om ?_⟩;rw[no p.sd (λo=>o.who==n) j om hno,Bool.false_or]at hK;intro l12 hL12;have loop:∀(m j:X),j+m=p.rc.length->(∀i y,i<j->p.rc[i]?=S y->(y==n)=Z)->l12 (j:O) w:=by
    intro m;induction m with
    |zero=>
     intro j hj hno;apply hL12;refine⟨_,U,t,h.aF U,aw om ?_⟩;rw[no p.rc (λo=>o==n) j om hno]at hK;exact hK
    |succ m ih=>
     intro j hj hno;have hx:p.rc[j]?=S p.rc[j]:=gE om;apply hL12;refine⟨_,U,t,h.aF U,az om ⟨_,U,t,h.aF U,h.bX (s:=t) U hx λa ha h0 hc=>⟨_,h0 _ U,?_⟩⟩⟩;cases e:(p.rc[j]==n)with
     |true=>
      rw[PS.2 ⟨p.rc[j],Ph _,e⟩]at hK;exact aU U hK
     |false=>
      refine aW U ?_;rw[wr om om];refine ih (j+1) om λi y hi hy=>?_;by_cases e2:i=j
      .subst e2;rw[hx]at hy;cases hy;exact e
      .exact hno i y om hy
   exact loop p.rc.length 0 om (λi y hi=>by omega)
  |succ m ih=>
   intro j hj hno;have hx:p.sd[j]?=S p.sd[j]:=gE om;apply hL3;refine⟨_,U,s,h.aF U,az om ⟨_,U,s,h.aF U,h.bX (s:=s) U hx λa ha h0 hc=>⟨_,h0 _ U,?_⟩⟩⟩;cases e:(p.sd[j].who==n)with
   |true=>
    rw[show p.sd.any (λo=>o.who==n)=V from PS.2 ⟨p.sd[j],Ph _,e⟩]at hK;exact aU U hK
   |false=>
    refine aW U ?_;rw[wr om om];refine ih (j+1) om λi y hi hy=>?_;by_cases e2:i=j
    .subst e2;rw[hx]at hy;cases hy;exact e
    .exact hno i y om hy
 exact loop p.sd.length 0 om (λi y hi=>by omega)
theorem Ad{xs:J Wt}{y:Wt}{c:X}{k:Sl->Pw}[ae4:bY s L Wt ja xs][aeX:eD (af ja s xs) L R](h:Ow B w0 w (aa c (ja.enc y)::L))(hbig:xs.length<=1000000000)
  (hk:∀s' w',s'.len=xs.length+1->Ow B w0 w' (af ja s' (xs++ [y])::R)->k s' w'):
  ∃s' w',aP qe [269,269] 269 s.v (.slice (S c.p) 1 1) w s' w'/\k s' w':=
 Ow.eR (E:=ja) (y:=y) aew DI (zv:= .agg ⟨ja.enc JL⟩) qa qa U qb h (by rw[Au];omega) hk
theorem tD(p:eN)(t:W):p.first t=(I,p)/\(p.l= []\/p.gV≠t)\/∃o r,p.l=o::r/\p.gV=t/\p.first t=(S o,{ p with l:=r}):=by
 unfold eN.first
 cases h:p.l with
 |nil=>exact .inl ⟨U,.inl U⟩
 |cons o r=>
  by_cases e:p.gV=t
  .exact .inr ⟨o,r,U,e,by simp[e]⟩
  .exact .inl ⟨by simp[e],.inr e⟩
theorem CZ{n:O}{m:FY}{wt:W}{K:W->O->O->O->O->O->O->O->O->W->O->Pw}(hbig:p.l.length<1000000)(h:Ow B w0 w (eB b p::R))
  (hK:∀w' x,x=(p.send n m wt).1->Ow B w0 w' (eB b (p.send n m wt).2.2::R)->K x.is x.gk x.to x.m.label x.m.w0 x.m.w1 x.m.w2 x.m.w3 x.m.ax x.m.calls (p.send n m wt).2.1 w'):
  Wq b.o n m.label m.w0 m.w1 m.w2 m.w3 m.ax m.calls wt K w:=by
 apply ac6;refine h.a λc w1 h=>?_;refine h.a λd w2 h=>?_;have h:Ow B w0 w2 (eB b p::aa d [.bool Z,.z 0,.z 0,.z 0,.y 0,.y 0,.y 0,.y 0,.y 0,.bool Z]::aa c [.z m.label,.y m.w0,.y m.w1,.y m.w2,.y m.w3,.y m.ax,.bool m.calls]::R):=h.sub;refine nV (n:=n) h ?_;unfold eN.send at hK;cases ht:p.there n with
 |true=>
  rw[ht]at hK;simp only[qz]at hK;refine aU U ?_;refine h.ay U U λw h=>?_;refine h.jV U ?_;exact hK _ ju U h.sub
 |false=>
  rw[ht]at hK;simp only[OF,qx]at hK;refine aW U ?_;obtain⟨s,t,h1,h⟩:=DY h;have hst:=h.aL t;rcases tD p Z with⟨ef,hno⟩|⟨o,r,hl,hs,ef⟩
  .rw[ef]at hK
   dsimp only at hK;have hrc:p.rc= []:=by
    unfold eN.rc;rcases hno with e|e
    .rw[e];split<;>rfl
    .rw[A (by simpa using e)]
   have hsd:p.sd=p.l:=by
    unfold eN.sd;rcases hno with e|e
    .rw[e];split<;>rfl
    .rw[A (by simpa using e)]
   rw[hrc]at hst h;rw[hsd]at h;refine⟨_,U,t,h.aF U,aw (by simp at hst;omega) ?_⟩;cases wt with
   |true=>
    refine aU U ?_;refine h.dr λw h=>?_;refine⟨_,U,s,h.aF U,h.y6 U ⟨h.al λw3 h=>⟨?_,trivial⟩,trivial⟩⟩
    generalize w.heap.size=e at h|-;refine Ad (s:=s) (y:=⟨n,m⟩) h om λs' w hs' h=>⟨_,U,?_⟩
    refine⟨h.jx U U λw h=>?_,trivial⟩;refine h.ay U U λw h=>?_;refine h.jV U ?_;exact hK _ ju U (kB (p:=⟨p.l++ [⟨n,m⟩],V⟩) (s:=s') (t:=t) (by simp;omega) (h.sub:Ow B w0 w (aa b [tO s',tO t]::af ja s' (p.l++ [⟨n,m⟩])::af aB t []::R)))
   |false=>
    refine aW U ?_;refine h.ay U U λw h=>?_;refine h.jV U ?_;exact hK _ ju U (kB (p:=p) (s:=s) (t:=t) h1 (by rw[hsd,hrc];exact h.sub))
  .rw[ef]at hK
   dsimp only at hK;have hrc:p.rc=o.who::r.map (·.who):=by unfold eN.rc;rw[hs,hl];rfl
   have hsd:p.sd= []:=by unfold eN.sd;rw[hs];rfl
   rw[hrc]at hst h;rw[hsd]at h;rw[hl]at h1;simp only[OB,O3]at hst h1;refine⟨_,U,t,h.aF U,az om ⟨_,U,t,h.aF U,h.bX (s:=t) (i:=0) (j:=0) U U λa ha hc0 hc=>⟨_,hc0 _ U,?_⟩⟩⟩
   refine h.a λe w3 h=>?_;refine⟨_,U,t,h.aF U,om,om,u9 (s:=t) (E:=aB) (x:=o.who) (r:=r.map λo:Wt=>o.who) qH uC (zv:= .z 0) qa qa U qb h (by rw[ve,O3];omega) λt' w h=>⟨_,U,?_⟩⟩
   refine h.jx U U λw h=>?_;refine h.y6 U ?_;refine h.ay U U λw h=>?_;refine h.jV U ?_;refine hK _ ⟨V,n,o.who,m⟩ U (kB (p:={ p with l:=r}) (s:=s) (t:=t') (by show r.length<=_;omega) ?_);rw[show eN.sd { p with l:=r}= []from by unfold eN.sd;rw[hs];rfl,show eN.rc { p with l:=r}=r.map (·.who)from by unfold eN.rc;rw[hs];rfl];exact h.sub
theorem CW{n:O}{wt:W}{K:W->O->O->O->O->O->O->O->O->W->O->Pw}(hbig:p.l.length<1000000)(h:Ow B w0 w (eB b p::R))
  (hK:∀w' x,x=(p.recv n wt).1->Ow B w0 w' (eB b (p.recv n wt).2.2::R)->K x.is x.gk x.to x.m.label x.m.w0 x.m.w1 x.m.w2 x.m.w3 x.m.ax x.m.calls (p.recv n wt).2.1 w'):
  Wr b.o n wt K w:=by
 apply ac7;refine h.a λc w1 h=>?_;have h:Ow B w0 w1 (eB b p::aa c [.bool Z,.z 0,.z 0,.z 0,.y 0,.y 0,.y 0,.y 0,.y 0,.bool Z]::R):=h.sub;refine nV (n:=n) h ?_;unfold eN.recv at hK;cases ht:p.there n with
 |true=>
  rw[ht]at hK;simp only[qz]at hK;refine aU U ?_;refine h.ay U U λw h=>?_;refine h.jV U ?_;exact hK _ ju U h.sub
 |false=>
  rw[ht]at hK;simp only[OF,qx]at hK;refine aW U ?_;obtain⟨s,t,h1,h⟩:=DY h;have hss:=h.aL s;rcases tD p V with⟨ef,hno⟩|⟨o,r,hl,hs,ef⟩
  .rw[ef]at hK
   dsimp only at hK;have hsd:p.sd= []:=by
    unfold eN.sd;rcases hno with e|e
    .rw[e];split<;>rfl
    .rw[Q (by simpa using e)]
   have hrc:p.rc=p.l.map (·.who):=by
    unfold eN.rc;rcases hno with e|e
    .rw[e];split<;>rfl
    .rw[Q (by simpa using e)]
   rw[hsd]at hss h;rw[hrc]at h;refine⟨_,U,s,h.aF U,aw (by simp at hss;omega) ?_⟩;cases wt with
   |true=>
    refine aU U ⟨_,U,t,h.aF U,?_⟩;refine h.a λe w3 h=>?_;refine eQ (s:=t) (y:=n) h (by simp;omega) λt' w ht' h=>⟨_,U,?_⟩
    refine h.jx U U λw h=>?_;refine h.ay U U λw h=>?_;refine h.jV U ?_;refine hK _ ju U (kB (p:=⟨p.l++ [⟨n,BZ⟩],Z⟩) (s:=s) (t:=t') (by simp;omega) ?_);rw[show eN.sd ⟨p.l++ [⟨n,BZ⟩],Z⟩= []from U,show eN.rc ⟨p.l++ [⟨n,BZ⟩],Z⟩=p.l.map (·.who)++ [n]from by unfold eN.rc;simp];exact h.sub
   |false=>
    refine aW U ?_;refine h.ay U U λw h=>?_;refine h.jV U ?_;exact hK _ ju U (kB (p:=p) (s:=s) (t:=t) h1 (by rw[hsd,hrc];exact h.sub))
  .rw[ef]at hK
   dsimp only at hK;have hsd:p.sd=o::r:=by unfold eN.sd;rw[hs,hl];rfl
   have hrc:p.rc= []:=by unfold eN.rc;rw[hs];rfl
   rw[hsd]at hss h;rw[hrc]at h;rw[hl]at h1;simp only[OB]at hss h1;refine⟨_,U,s,h.aF U,az om ⟨_,U,s,h.aF U,h.bX (s:=s) (i:=0) (j:=0) U U λa ha hc0 hc=>G6 hc ?_⟩⟩;refine h.a λd w3 h=>?_;refine h.ay U U λw h=>?_;refine h.a λe w3 h=>?_;refine⟨_,U,s,h.aF U,om,om,u9 (s:=s) (E:=ja) (x:=o) (r:=r) aew DI (zv:= .agg ⟨ja.enc JL⟩) qa qa U qb h (by rw[Au];omega) λs' w h=>⟨_,U,?_⟩⟩
   refine h.jx U U λw h=>?_;refine h.l1 U ?_;refine h.y6 U ?_;refine h.ay U U λw h=>?_;refine h.jV U ?_;refine hK _ ⟨V,o.who,n,o.m⟩ U (kB (p:={ p with l:=r}) (s:=s') (t:=t) (by show r.length<=_;omega) ?_);rw[show eN.sd { p with l:=r}=r from by unfold eN.sd;rw[hs];rfl,show eN.rc { p with l:=r}= []from by unfold eN.rc;rw[hs];rfl];exact h.sub
theorem EE(p:eN)(n:O):(p.cancel n).sd=p.sd.filter λo=> !(o.who==n):=by unfold eN.cancel eN.sd;cases p.gV<;>rfl
theorem ED(p:eN)(n:O):(p.cancel n).rc=p.rc.filter λx=> !(x==n):=by
 unfold eN.cancel eN.rc;cases p.gV with
 |true=>rfl
 |false=>simp[List.filter_map,Function.comp_def]
theorem EC{p:eN}{n:O}(h:p.there n=Z):p.cancel n=p:=by unfold eN.there at h;unfold eN.cancel;rw[Py.2];intro x hx;rw[Qf]at h;have:=h x hx;simpa using this
theorem xd{n:O}{K:W->Pw}(h:Ow B w0 w (eB b p::R))(hK:∀r w',Ow B w0 w' (eB b (p.cancel n)::R)->K r w'):Xb b.o n K w:=by
 apply ac8;refine nV (n:=n) h ?_;cases hth:p.there n with
 |false=>
  rw[EC hth]at hK;exact aU U (hK _ w h)
 |true=>
 refine aW U ?_;obtain⟨s,t,h1,h⟩:=DY h;have hs:=h.aL s;have ht:=h.aL t;have d1:=HR p;have d2:=HF p;refine h.a λc w1 h=>?_;have h:Ow B w0 w1 (af ja ⟨S c.p,0,0⟩ []::_):=Ow.empty h;refine h.a λd w2 h=>?_;have h:Ow B w0 w2 (af aB ⟨S d.p,0,0⟩ []::_):=Ow.empty h;intro l7 hL7;have loop:∀(m j:X)(o:Sl)(w:Y),j+m=p.sd.length->Ow B w0 w (af ja o ((p.sd.take j).filter λo=> !(o.who==n))::af aB ⟨S d.p,0,0⟩ []::aa b [tO s,tO t]::af ja s p.sd::af aB t p.rc::R)->l7 o (j:O) w:=by
  intro m;induction m with
  |zero=>
   intro j o w hj h;apply hL7;refine⟨_,U,s,h.aF U,aw om ?_⟩;rw[Ou om,<-EE]at h;intro l hL;have loop:∀(m j:X)(q:Sl)(w:Y),j+m=p.rc.length->Ow B w0 w (af aB q ((p.rc.take j).filter λx=> !(x==n))::af ja o (p.cancel n).sd::aa b [tO s,tO t]::af ja s p.sd::af aB t p.rc::R)->l q (j:O) w:=by
    intro m;induction m with
    |zero=>
     intro j q w hj h;apply hL;refine⟨_,U,t,h.aF U,aw om ⟨_,U,?_⟩⟩;rw[Ou om,<-ED]at h;refine h.jx U U λw h=>⟨_,U,?_⟩
     refine h.jx U U λw h=>?_;exact hK _ w (kB (p:=p.cancel n) (s:=o) (t:=q) (ON (OR _ _) h1) h.sub)
    |succ m ih=>
     intro j q w hj h;have hx:p.rc[j]?=S p.rc[j]:=gE om;have htk:p.rc.take (j+1)=p.rc.take j++ [p.rc[j]]:=by rw[OG,hx];rfl
     apply hL;refine⟨_,U,t,h.aF U,az om ⟨_,U,t,h.aF U,h.bX (s:=t) U hx λa ha h0 hc=>⟨_,h0 _ U,?_⟩⟩⟩;rw[wr om om];by_cases e:p.rc[j]=n
     .refine fG e ?_
      refine ih (j+1) q w om ?_;rw[htk,O9,Pf,show(!(p.rc[j]==n))=Z from by simp[e]];simpa using h
     .refine iy e ⟨_,U,t,h.aF U,a,ha,om,om,_,h0 _ U,?_⟩
      refine h.a λf w2 h=>?_;refine eQ (s:=q) (y:=p.rc[j]) h (ON (OR _ _) (by rw[OO];omega)) λq' w ho' h=>?_;refine ih (j+1) q' w om ?_;rw[htk,O9,Pf,show(!(p.rc[j]==n))=V from by simp[e],A U,P8];exact h.sub
   exact loop p.rc.length 0 _ w om h.cw
  |succ m ih=>
   intro j o w hj h;have hx:p.sd[j]?=S p.sd[j]:=gE om;have htk:p.sd.take (j+1)=p.sd.take j++ [p.sd[j]]:=by rw[OG,hx];rfl
   apply hL7;refine⟨_,U,s,h.aF U,az om ⟨_,U,s,h.aF U,h.bX (s:=s) U hx λa ha h0 hc=>⟨_,h0 _ U,?_⟩⟩⟩;rw[wr om om];by_cases e:p.sd[j].who=n
   .refine fG e ?_
    refine ih (j+1) o w om ?_;rw[htk,O9,Pf,show(!(p.sd[j].who==n))=Z from by simp[e]];simpa using h
   .refine iy e ⟨_,U,s,h.aF U,a,ha,om,om,G6 hc ?_⟩
    refine h.a λf w2 h=>?_;refine Ad (s:=o) (y:=p.sd[j]) h (ON (OR _ _) (by rw[OO];omega)) λo' w ho' h=>?_;refine ih (j+1) o' w om ?_;rw[htk,O9,Pf,show(!(p.sd[j].who==n))=V from by simp[e],A U,P8];exact h.sub
 exact loop p.sd.length 0 _ w2 om h.cw
def zS:dF Ln:=⟨5,λo=>[.bool (F (o.is≠0)),.z o.note,.y o.ax,.bool (F (o.is=1)),.bool (F (o.is=3))],λ_=>rfl,λx v h=>by simp only[Oz,Ps,qC]at h;rcases h with rfl|rfl|rfl|rfl|rfl<;>rfl,qb⟩
def Em(l:wR):Prop:=∀x∈l,0<=x.is/\x.is<=3
def dD(b:X)(l:wR):aH:=pa λs:Sl=>bo [dJ (Em l),aa b [s.v],af zS s l]
theorem Em.set{l:wR}{i:X}{x:Ln}(h:Em l)(hx:0<=x.is/\x.is<=3):Em (l.set i x):=λy hy=>by
 rcases List.mem_or_eq_of_mem_set hy with hy|rfl
 .exact h y hy
 .exact hx
theorem LN{w:Y}{a:qf}{x:Ln}{f:W->O->O->W->W->Prop}(g:∀c v,(zS.enc x)[c]?=S v->w.cell? (a.add c)=S v)(hf:f (F (x.is≠0)) x.note x.ax (F (x.is=1)) (F (x.is=3))):
  av w a 0 [.b,.o,.u,.b,.b] f:=⟨_,g 0 _ U,_,g 1 _ U,_,g 2 _ U,_,g 3 _ U,_,g 4 _ U,hf⟩
theorem zA(h:Ow B w0 w (dD b l::R)):∃s:Sl,Em l/\Ow B w0 w (aa b [s.v]::af zS s l::R):=by obtain⟨s,h⟩:=h.ex;obtain⟨h1,h⟩:=Ow.pure h.star;exact⟨s,h1,h⟩
theorem dZ(h1:Em l)(h:Ow B w0 w (aa b [s.v]::af zS s l::R)):Ow B w0 w (dD b l::R):=Ow.eP s (Ow.br (Ow.cZ h1 h))
theorem Db{n:O}{K:W->Pw}(h:Ow B w0 w (aa b [s.v]::af zS s l::R))(hK:K (kq l n).isSome w):TH b.o n K w:=by
 apply adk;have hl:=h.aL s;unfold kq at hK;refine bg (λe=>?_) (λe=>?_)
 .refine ⟨_,U,s,h.aF U,?_⟩
  rw[Q om]at hK;cases hx:l[n.toNat]? with
  |none=>
   rw[hx]at hK;have:=List.getElem?_eq_none_iff.1 hx;rw[qk om];exact hK
  |some x=>
   rw[hx]at hK;have:=(Om.1 hx).1;rw[qm om];exact hK
 .rw[A om]at hK
  exact hK
theorem JA{n:O}{x x':Ln}{a:qf}{c:X}{v:N}{k:Pw}(h:Ow B w0 w (aa b [s.v]::af zS s l::R))(h0:0<=n)(hx:l[n.toNat]?=S x)(ha:s.a=S a)
  (he:zS.enc x'=(zS.enc x).set c v) (hc:c<5) (hv:v.oneCell'=V) (hk:∀w',Ow B w0 w' (aa b [s.v]::af zS s (l.set n.toNat x')::R)->k w'):St w ((a.add (n.toNat*5)).add c) v k:=
 h.rX (s:=s) (i:=n) (j:=n.toNat) (c:=c) x' om hx ha he hc hv λw h=>hk w h.cw
theorem Bo{n:O}{K:O->O->W->O->Pw}(h:Ow B w0 w (dD b l::R))
  (hK:∀w',Ow B w0 w' (dD b (eU l n).2::R)->K ((eU l n).1.1.getD (0,0)).1 ((eU l n).1.1.getD (0,0)).2 (eU l n).1.1.isSome (eU l n).1.2 w'):VI b.o n K w:=by
 apply adh;obtain⟨s,hok,h⟩:=zA h;refine Db h ?_;unfold eU at hK;cases e:kq l n with
 |none=>rw[e]at hK;exact aU U (hK _ (dZ hok h))
 |some x=>
  rw[e]at hK;dsimp only at hK;refine aW U ?_;obtain⟨h0,hx⟩:=rC e;have hlt:=(Om.1 hx).1;have hx3:=hok x (OV hx);have hl:=h.aL s;refine⟨_,U,s,h.aF U,h.bX (s:=s) (j:=n.toNat) om hx λa ha hc0 hc=>?_⟩;refine LN hc ?_;refine h.a λc w1 h=>?_;refine h.ay U U λw h=>?_;refine h.l1 U ?_;by_cases e0:x.is=0
  .refine aU (by rw[e0];rfl) ?_
   rw[Q om,Q om]at hK
   try dsimp only at hK
   exact hK w (dZ (s:=s) hok h.drop)
  refine aW (by rw[qm e0];rfl) ?_;refine h.l2 U ?_;have h:Ow B w0 w (aa b [s.v]::af zS s l::aa c [.bool (F (x.is≠0)),.z x.note,.y x.ax,.bool (F (x.is=1)),.bool (F (x.is=3))]::R):=h.sub;refine bg (λe1=>?_) (λe1=>?_)
  .rw[A e1]at hK
   refine⟨_,U,s,h.aF U,a,ha,om,om,JA (x':={ x with is:=2}) h h0 hx ha (by simp[zS,e1]) qb U λw h=>?_⟩;refine h.dr λw h=>?_;refine⟨_,h.aE U,h.l2 U ?_⟩
   try dsimp only at hK
   exact hK w (dZ (s:=s) (hok.set ⟨qc,qc⟩) h.sub)
  .rw[Q e1,A om]at hK
   refine⟨_,U,s,h.aF U,a,ha,om,om,JA (x':={ x with is:=3}) h h0 hx ha (by simp[zS,e0,e1]) qb U λw h=>?_⟩
   try dsimp only at hK
   exact hK w (dZ (s:=s) (hok.set ⟨qc,qc⟩) h.sub)
theorem Fg{n:O}{K:O->O->W->O->Pw}(h:Ow B w0 w (dD b l::R))
  (hK:∀w',Ow B w0 w' (dD b (iQ l n).2::R)->K ((iQ l n).1.1.getD (0,0)).1 ((iQ l n).1.1.getD (0,0)).2 (iQ l n).1.1.isSome (iQ l n).1.2 w'):Wx b.o n K w:=by
 apply adj;obtain⟨s,hok,h⟩:=zA h;refine Db h ?_;unfold iQ at hK;cases e:kq l n with
 |none=>rw[e]at hK;exact aU U (hK _ (dZ hok h))
 |some x=>
  rw[e]at hK;dsimp only at hK;refine aW U ?_;obtain⟨h0,hx⟩:=rC e;have hlt:=(Om.1 hx).1;have hx3:=hok x (OV hx);have hl:=h.aL s;refine⟨_,U,s,h.aF U,h.bX (s:=s) (j:=n.toNat) om hx λa ha hc0 hc=>?_⟩;refine LN hc ?_;refine h.a λc w1 h=>?_;refine h.ay U U λw h=>?_;have h:Ow B w0 w (aa b [s.v]::af zS s l::aa c [.bool (F (x.is≠0)),.z x.note,.y x.ax,.bool (F (x.is=1)),.bool (F (x.is=3))]::R):=h.sub;intro k15 hk15;have out:x.is=0\/x.is=1->k15 V w:=λe2=>by
   apply hk15;refine aU U ?_;rw[Q om,Q om]at hK
   try dsimp only at hK
   exact hK w (dZ (s:=s) hok h.sub)
  refine h.l1 U ?_;by_cases e0:x.is=0
  .exact aU (by rw[e0];rfl) (out (.inl e0))
  refine aW (by rw[qm e0];rfl) ?_;refine h.l2 U ?_;by_cases e1:x.is=1
  .rw[qm e1];exact out (.inr e1)
  rw[qk e1];apply hk15;refine aW U ?_;refine h.l2 U ?_;refine bg (λe3=>?_) (λe3=>?_)
  .rw[A e3]at hK
   refine⟨_,U,s,h.aF U,a,ha,om,om,JA (x':={ x with is:=2}) h h0 hx ha (by simp[zS,e3]) qb U λw h=>?_⟩;refine h.dr λw h=>?_;refine⟨_,h.aE U,h.l2 U ?_⟩
   try dsimp only at hK
   exact hK w (dZ (s:=s) (hok.set ⟨qc,qc⟩) h.sub)
  .have e2:x.is=2:=om
   rw[Q e3,A e2]at hK;refine⟨_,U,s,h.aF U,a,ha,om,om,JA (x':={ x with is:=1}) h h0 hx ha (by simp[zS,e2]) qb U λw h=>?_⟩
   try dsimp only at hK
   exact hK w (dZ (s:=s) (hok.set ⟨qc,qc⟩) h.sub)
theorem CQ{n note g:O}{K:O->Pw}(h:Ow B w0 w (dD b l::R))
  (hK:∀w',Ow B w0 w' (dD b (mW l n note g).2::R)->K (mW l n note g).1 w'):Ww b.o n note g K w:=by
 apply adi;obtain⟨s,hok,h⟩:=zA h;refine Db h ?_;unfold mW at hK;cases e:kq l n with
 |none=>rw[e]at hK;exact aU U (hK _ (dZ hok h))
 |some x=>
  rw[e]at hK;dsimp only at hK;refine aW U ?_;obtain⟨h0,hx⟩:=rC e;have hlt:=(Om.1 hx).1;have hl:=h.aL s;refine bg (λe1=>?_) (λe1=>?_)
  .rw[A e1]at hK;exact hK w (dZ (s:=s) hok h)
  rw[Q e1]at hK;refine⟨_,U,s,h.aF U,h.bX (s:=s) (j:=n.toNat) om hx λa ha hc0 hc=>⟨_,hc0 _ U,?_⟩⟩
  refine bg (λe2=>?_) (λe2=>?_)
  .rw[A e2]at hK;exact hK w (dZ (s:=s) hok h)
  rw[Q e2]at hK;refine⟨_,U,s,h.aF U,a,ha,om,om,?_⟩;have ev:([.bool V,.z note,.y g,.bool V,.bool Z]:J N)=zS.enc ⟨1,note,g⟩:=rfl;rw[ev];refine h.rW (s:=s) (i:=n) (j:=n.toNat) (⟨1,note,g⟩:Ln) om hlt ha λw h=>?_
  try dsimp only at hK
  exact hK w (dZ (s:=s) (hok.set ⟨by show(0:O)<=1;decide,by show(1:O)<=3;decide⟩) h.cw)
end
namespace Sl
section
variable{B:X}{w0 w:Y}{R L:J aH}
def oM(c:cO):Prop:=1<=c.kind/\c.kind<=9/\0<=c.obj/\c.obj<=2147483647/\0<=c.ak/\c.ak<=7/\(cW c.kind=V\/c.ak=7)/\(df c.kind=V\/c.ax=0)/\(c.kind=2\/(c.guard=0/\c.bits=0))/\eE c.guard c.bits=V
theorem Ct{g b:O}(h0:0<=g)(hb:b=0):eE g b=V↔g=0:=by subst hb;unfold eE;rw[decide_eq_true_iff];simp;omega
theorem jM{c:cO}(hc:fI c):gx c=Z↔oM c:=by have hg:c.bits=0->(eE c.guard c.bits=V↔c.guard=0):=Ct hc.g0;unfold gx oM;cases hl:cW c.kind<;>cases hb:df c.kind<;>cases hgd:eE c.guard c.bits<;>rw[hgd]at hg<;>simp at hg|-<;>omega
theorem xB{c:cO}(hc:fI c):bT c=0/\(c=aq\/oM c)\/bT c=40/\c≠aq/\¬oM c:=by
 unfold bT;by_cases e:c=aq
 .rw[A e];exact .inl ⟨U,.inl e⟩
 .rw[Q e]
  cases hb:gx c with
  |false=>exact .inl ⟨qc,.inr ((jM hc).1 hb)⟩
  |true=>exact .inr ⟨qc,e,λhp=>by rw[(jM hc).2 hp]at hb;cases hb⟩
theorem EF{c:cO}(hc:fI c)(h1:c≠aq)(h2:¬oM c):bT c=40:=by
 rcases xB hc with⟨_,h|h⟩|⟨h,_⟩
 .exact qi h h1
 .exact qi h h2
 .exact h
theorem Gp{c:cO}(hc:fI c)(h2:c=aq\/oM c):bT c=0:=by
 rcases xB hc with⟨h,_⟩|⟨_,h1,h3⟩
 .exact h
 .rcases h2 with h|h
  .exact qi h h1
  .exact qi h h3
theorem cJ{n:X}{K:O->Pw}(hn:n<=63)(hK:K ((2^n:X):O) w):RA (n:O) K w:=by
 apply abK;intro l hl;have loop:∀m i:X,i+m=n->l ((2^i:X):O) (i:O) w:=by
  intro m;induction m with
  |zero=>
   intro i hi;obtain rfl:i=n:=om
   apply hl;exact aw om hK
  |succ m ih=>
   intro i hi;apply hl;refine az om ?_;have h1:(2:X)^(i+1)<=2^63:=Pm om om;have e2:(2:X)^63=9223372036854775808:=qb
   rw[show(2:O)*((2^i:X):O)=((2^(i+1):X):O)from by rw[Nat.pow_succ];omega,K8 (Qp _) om,wr om om];exact ih (i+1) om
 exact loop n 0 om
theorem ke{k:O}{K:W->Pw}(h:K (cW k) w):UK k K w:=by apply abO;unfold cW at h;refine cb (λe=>by rw[e]at h;exact h) (λe=>?_);rw[e]at h;exact cb (λe=>by rw[e]at h;exact h) (λe=>by rw[e]at h;exact h)
theorem gS{k:O}{K:W->Pw}(h:K (df k) w):TV k K w:=by apply abN;unfold df at h;exact cb (λe=>by rw[e]at h;exact h) (λe=>by rw[e]at h;exact h)
theorem lE{g bits:O}{K:W->Pw}(h0:0<=g)(h1:g<18446744073709551616)(h:K (eE g bits) w):UX g bits K w:=by
 apply abQ;have hf:¬(0<=bits/\bits<=64)->eE g bits=false:=λhn=>by unfold eE;rw[qk];rintro⟨a,b,_⟩;exact hn ⟨a,b⟩
 refine bg (λe=>?_) (λe=>by rw[hf om]at h;exact h);refine bg (λe2=>?_) (λe2=>by rw[hf om]at h;exact h);obtain⟨n,rfl⟩:=Ox (show 0<=bits by omega);have hg:eE g (n:O)=F (g<((2^n:X):O)):=by unfold eE;rw[qL,Oo,show((2:O)^n)=((2^n:X):O)from by simp];omega
 refine dK (λe3=>?_) (λe3=>?_)
 .have:n=64:=om
  subst this;have e64:(2:X)^64=18446744073709551616:=qb
  rw[hg,e64,qm om]at h;exact h
 .refine cJ om ?_
  rw[hg]at h;exact h
theorem lD{c:cO}{K:O->Pw}(h:Ow B w0 w R)(hc:fI c)(hK:∀w',Ow B w0 w' R->K (bT c) w'):UA c.kind c.obj c.ak c.ax c.guard c.bits K w:=by
 apply abM;refine h.al λw1 h=>?_;have h:Ow B w0 w1 (aa w.heap.size c.cells::R):=h;have f40:c≠aq->¬oM c->K 40 w1:=λh1 h2=>by rw[<-EF hc h1 h2];exact hK _ h.drop
 have f0:(c=aq\/oM c)->K 0 w1:=λh1=>by rw[<-Gp hc h1];exact hK _ h.drop
 intro k8 hk8;have main:c≠aq->k8 Z w1:=λhz=>by
  apply hk8;refine aW U ?_;intro k11 hk11;have t11:¬oM c->k11 V w1:=λhp=>hk11 _ _ (aU U (f40 hz hp))
  (refine h.l1 U ?_)
  refine bg (λe=>t11 λhp=>by unfold oM at hp;omega) (λe1=>?_)
  (refine h.l1 U ?_)
  refine bg (λe=>t11 λhp=>by unfold oM at hp;omega) (λe2=>?_)
  (refine h.l1 U ?_)
  refine bg (λe=>t11 λhp=>by unfold oM at hp;omega) (λe3=>?_)
  (refine h.l1 U ?_)
  refine bg (λe=>t11 λhp=>by unfold oM at hp;omega) (λe4=>?_)
  (refine h.l1 U ?_)
  refine bg (λe=>t11 λhp=>by unfold oM at hp;omega) (λe5=>?_)
  (refine h.l1 U ?_)
  by_cases e6:c.ak>7
  .rw[qm e6];exact t11 λhp=>by unfold oM at hp;omega
  rw[qk e6];apply hk11;refine aW U ?_;intro k14 hk14;have t14:¬oM c->k14 V w1:=λhp=>hk14 _ _ (aU U (f40 hz hp));have hg0:=hc.g0;have hb0:=hc.b0;have last:(cW c.kind=V\/c.ak=7)->(df c.kind=V\/c.ax=0)->k14 Z w1:=λh7 h8=>by
   apply hk14;refine aW U ?_;have fin:(c.kind=2\/(c.guard=0/\c.bits=0))->bif !eE c.guard c.bits then K 40 w1 else K 0 w1:=λh9=>by
    refine JW (λe=>f40 hz λhp=>?_) (λe=>f0 (.inr ?_))
    .obtain ⟨_,_,_,_,_,_,_,_,_,hp⟩:=hp
     rw[e]at hp;cases hp
    .exact ⟨om,om,om,om,om,om,h7,h8,h9,e⟩
   (refine h.l1 U ?_)
   refine oO (λe=>?_) (λe=>?_)
   ·(refine h.l1 U ?_)
    refine bg (λe=>f40 hz λhp=>by obtain⟨_,_,_,_,_,_,_,_,hp,_⟩:=hp;omega) (λe7=>?_)
    (refine h.l1 U ?_)
    refine oO (λe=>f40 hz λhp=>by obtain⟨_,_,_,_,_,_,_,_,hp,_⟩:=hp;omega) (λe8=>?_);repeat refine h.l1 U ?_
    exact lE hc.g0 hc.g1 (fin (.inr ⟨om,e8⟩))
   ·(repeat refine h.l1 U ?_)
    exact lE hc.g0 hc.g1 (fin (.inl e))
  have bd:(cW c.kind=V\/c.ak=7)->(bif !df c.kind then ∃badge35:O,w1.cell? (w.heap.size.p.add 3)=S (.y badge35)/\k14 (F (badge35>(0:O))) w1 else k14 Z w1):=λh7=>by
   refine JW (λe=>?_) (λe=>last h7 (.inl e))
   (refine h.l1 U ?_)
   by_cases e9:c.ax>0
   .rw[qm e9]
    refine t14 λhp=>?_;obtain⟨_,_,_,_,_,_,_,hp,_⟩:=hp;rcases hp with hp|hp
    .rw[e]at hp;cases hp
    .omega
   .rw[qk e9];exact last h7 (.inr om)
  (refine h.l1 U ?_)
  refine ke ?_;refine JW (λe=>?_) (λe=>?_)
  ·(refine h.l1 U ?_)
   refine oO (λe7=>t14 λhp=>?_) (λe7=>?_)
   .obtain ⟨_,_,_,_,_,_,hp,_⟩:=hp
    rcases hp with hp|hp
    .rw[e]at hp;cases hp
    .omega
   ·(refine h.l1 U ?_)
    exact gS (bd (.inr e7))
  ·(refine h.l1 U ?_)
   exact gS (bd (.inl e))
 (refine h.l1 U ?_)
 refine dK (λe=>?_) (λe=>main λhz=>e (by rw[hz];rfl));repeat refine h.aN U ?_
 refine⟨_,JV c aq,?_⟩;by_cases hz:c=aq
 .rw[qm hz]
  exact hk8 _ _ (aU U (f0 (.inl hz)))
 .rw[qk hz];exact main hz
end
end Sl
section
variable{B:X}{w0 w:Y}{R L:J aH}
theorem K5(v n:X):Dn v n=if v%2^n=0 then v else v-v%2^n+2^n:=by
 have hp:0<2^n:=PG n;split
 .rename_i e;exact BU e
 .rename_i e
  unfold Dn;have h1:=Nat.div_add_mod v (2^n);have h2:=RD v hp;generalize hq:v / 2^n=q at h1;generalize v%2^n=r at*
  generalize 2^n=p at*
  have h3:(v+(p-1)) / p=q+1:=by rw[show v+(p-1)=(r-1)+p*(q+1)from by rw[Nat.mul_add];omega,Nat.add_mul_div_left _ _ hp,Nat.div_eq_of_lt om,Nat.zero_add]
  rw[h3,PJ,Nat.mul_comm q p];omega
theorem zt{u:sw}{K:O->Pw}(hu:yC u)(h:Ow B w0 w R)(hK:∀w',Ow B w0 w' R->K 0 w'):XJ (u.base:O) (u.bits:O) (u.used:O) K w:=by
 apply aca;have hb:=hu.bits;have ht:=hu.top;have hus:=hu.used;have hp:=PG u.bits;have e20:(2:X)^20=1048576:=qb
 have e40:(2:X)^40=1099511627776:=qb
 refine h.a λc w1 h=>?_;intro k5 hk5;have main:∀w,Ow B w0 w (aa c [.y (u.base:O),.z (u.bits:O),.y (u.used:O)]::R)->k5 Z w:=λw h=>by
  apply hk5;refine aW U ?_;refine h.dr λw h=>⟨_,h.aE U,_,h.aF U,?_,trivial⟩
  refine Sl.cJ om ⟨h.aF U,om,?_⟩;have e:((u.base:O).tmod ((2^u.bits:X):O))=0:=by rw[Rr om,<-Ta,hu.dvd];rfl
  refine fG e ⟨_,h.aE U,⟨⟨_,h.aE U,?_,trivial⟩,?_,trivial⟩⟩
  .exact Sl.cJ om (aw om (hK _ h.drop))
  .exact Sl.cJ om ⟨_,h.aE U,aw om (hK _ h.drop)⟩
 refine h.dr λw h=>⟨_,h.aE U,aw om ⟨_,h.aE U,aw om ⟨⟨_,h.aF U,?_,trivial⟩,?_,trivial⟩⟩⟩
 .refine Sl.cJ (n:=40) om ?_
  rw[qk om];exact main w h
 .refine Sl.cJ (n:=40) om (h.l1 U ?_)
  rw[qk om];exact main w h
theorem C0{kind bits:O}{K:O->O->Pw}(hK:K (fb kind bits).1 (fb kind bits).2 w):XK kind bits K w:=by
 apply acb;unfold fb at hK;refine dK (λe=>?_) (λe=>?_)
 .rw[A e]at hK
  refine bg (λe1=>bg (λe2=>?_) (λe2=>?_)) (λe1=>?_)
  .rw[A ⟨om,om⟩]at hK;exact hK
  .rw[Q om]at hK;exact hK
  .rw[Q om]at hK;exact hK
 rw[Q e]at hK;refine dK (λe2=>?_) (λe2=>?_)
 .rw[A e2]at hK
  intro k hk;refine bg (λe3=>?_) (λe3=>?_)
  .apply hk
   refine bg (λe4=>?_) (λe4=>?_)
   .rw[A ⟨om,om⟩]at hK
    rw[wr om om];exact hK
   .rw[Q om]at hK;exact hK
  .apply hk
   rw[Q om]at hK;exact aW U hK
 rw[Q e2]at hK;refine dK (λe3=>?_) (λe3=>?_)
 .rw[A e3]at hK;exact hK
 rw[Q e3]at hK;intro k hk;have no:¬(kind=4\/kind=5)->k Z w:=λe=>by
  rw[Q e]at hK;apply hk;refine aW U ?_;refine dK (λe6=>jg e6 ?_) (λe6=>dK (λe7=>jg e7 ?_) (λe7=>dK (λe8=>?_) (λe8=>?_)))
  .rw[A om]at hK;exact hK
  .rw[A om]at hK;exact hK
  .rw[A om]at hK;exact hK
  .rw[Q om]at hK;exact hK
 have yes:(kind=4\/kind=5)->k V w:=λe=>by rw[A e]at hK;exact hk _ _ (aU U hK)
 refine dK (λe4=>?_) (λe4=>?_)
 .rw[show(kind==4)=V from by simpa using e4];exact yes (.inl e4)
 .by_cases e5:kind=5
  .rw[show(kind==5)=V from by simpa using e5];exact yes (.inr e5)
  .rw[show(kind==5)=Z from by simpa using e5];exact no om
theorem tM{u:sw}{kind bits n:O}{K:Sl->O->O->O->O->Pw}(hu:yC u)(h:Ow B w0 w R)
  (hK:∀s w',Ow B w0 w' (af wE s (bA u kind bits n).1::R)->K s ((bA u kind bits n).2.1.base:O) ((bA u kind bits n).2.1.bits:O) ((bA u kind bits n).2.1.used:O) (bA u kind bits n).2.2 w'):UJ (u.base:O) (u.bits:O) (u.used:O) kind bits n K w:=by
 apply ab9;have hb:=hu.bits;have ht:=hu.top;have hus:=hu.used;have hp:=PG u.bits;have e20:(2:X)^20=1048576:=qb
 have e64:(2:X)^64=18446744073709551616:=qb
 refine h.a λc w1 h=>?_;refine h.a λd w2 h=>?_;refine h.oP U ?_;refine zt hu h λw h=>fG U ?_;refine C0 ?_;unfold bA at hK;have hs:=wb (kind:=kind) (bits:=bits);generalize fb kind bits=sz at hK hs|-;obtain⟨z,e⟩:=sz;dsimp only at hK hs|-;obtain⟨m,rfl⟩:=Ox hs.1;rw[Oo]at hK;have hz2:2^m<=2^20:=Pm om om;have hzp:=PG m;have bad:∀(q:O)(w:Y),(∀s w',Ow B w0 w' (af wE s []::R)->K s 0 0 0 q w')->Ow B w0 w (aa d [.y 0,.z 0,.y 0]::aa c [.y (u.base:O),.z (u.bits:O),.y (u.used:O)]::R)->
   aD w d.p 0 [.y (0:O),.z (0:O),.y (0:O)] λw17=>av w17 d.p 0 [.u,.o,.u] λ(r18:O)(r19:O)(r20:O)=>K z0 r18 r19 r20 q w17:=λq w hK h=>by
  refine h.ay U U λw h=>?_;refine h.oP U ?_;exact hK _ w (Ow.cH h.drop.drop)
 by_cases he:e≠0
 .rw[A he]at hK
  refine iy he ?_;exact bad e w hK h
 rw[Q he]at hK;refine fG om ?_;intro k hk;by_cases hn:n<1\/64<n
 .rw[A hn]at hK
  have:k V w:=by apply hk;refine aU U ?_;exact bad 1 w hK h
  refine bg (λe1=>this) (λe1=>?_);rw[qm om];exact this
 rw[Q hn]at hK;obtain⟨n,rfl⟩:=Ox (show 0<=n by omega);rw[Oo]at hK;refine aw om ?_;rw[qk om];apply hk;refine aW U ?_;refine h.dr λw h=>⟨_,h.aF U,_,h.aE U,?_,trivial⟩
 refine Sl.cJ (n:=m) om ⟨h.aE U,h.aF U,?_,trivial⟩;refine Sl.cJ (n:=u.bits) om ⟨h.aF U,_,h.aF U,_,h.aE U,om,?_⟩;have hw:qq.wrap ((u.base:O)+(u.used:O))=((u.base+u.used:X):O):=by have:=Sl.wrap_u64 (u.base+u.used);rw[O6 om]at this;rw[<-this];congr 1
 have htop:qq.wrap ((u.base:O)+((2^u.bits:X):O))=((u.base+2^u.bits:X):O):=by rw[<-Ra,Sl.wrap_u64,O6 om]
 rw[hw];have hup:=zN (u.base+u.used) m;have heq:=K5 (u.base+u.used) m;have hml:=RD (u.base+u.used) hzp;have hmv:=Nat.mod_le (u.base+u.used) (2^m);have hnm:n*2^m<=64*2^20:=Nat.mul_le_mul om hz2;have etm:(((u.base+u.used:X):O).tmod ((2^m:X):O))=(((u.base+u.used)%2^m:X):O):=by rw[Rr om,<-Ta]
 rw[etm];generalize Dn (u.base+u.used) m=q at hK hup heq;intro k41 hk41;have main:k41 (q:O) w:=by
  apply hk41;refine h.a λf w3 h=>?_;have h:Ow B w0 w3 (af wE ⟨S f.p,0,0⟩ []::_):=Ow.empty h;intro l hl;have loop:∀(r j:X)(o:Sl)(w:Y),j+r=n->(j=0\/q+j*2^m<=u.base+2^u.bits)->Ow B w0 w (af wE o ((OC j).map λi=>q+i*2^m)::aa d [.y 0,.z 0,.y 0]::aa c [.y (u.base:O),.z (u.bits:O),.y (u.used:O)]::R)->l ((q+j*2^m:X):O) o (j:O) w:=by
   intro r;induction r with
   |zero=>
    intro j o w hj hfit h;have hj:j=n:=om
    subst hj;rw[Q om]at hK;apply hl;refine aw om ?_;refine h.dr λw h=>⟨_,h.aF U,_,h.aE U,_,h.aF U,?_,trivial⟩
    have e3:qq.wrap (((q+j*2^m:X):O)-(u.base:O))=((q+j*2^m-u.base:X):O):=by rw[show(((q+j*2^m:X):O)-(u.base:O))=((q+j*2^m-u.base:X):O)from by omega,Sl.wrap_u64,O6 om]
    rw[e3];refine h.ay U U λw h=>?_;refine h.oP U ?_;exact hK _ w h.vU.vU
   |succ r ih=>
    intro j o w hj hfit h;have hjm:(j+1)*2^m<=n*2^m:=Nat.mul_le_mul_right _ om;have hj1:(j+1)*2^m=j*2^m+2^m:=by rw[PJ,RL]
    have e4:qq.wrap (((q+j*2^m:X):O)+((2^m:X):O))=((q+(j+1)*2^m:X):O):=by rw[<-Ra,Sl.wrap_u64,O6 om,Nat.add_assoc,hj1]
    apply hl;refine az om ?_;rw[e4,htop];refine bg (λe5=>?_) (λe5=>?_)
    .rw[A om]at hK
     exact bad 81 w hK h.drop
    .refine h.a λg w2 h=>?_;refine Gh (s:=o) (y:=q+j*2^m) h (by simp;omega) λo' w ho' h=>?_
     rw[wI j om];refine ih (j+1) o' w om (.inr om) ?_;rw[QQ,OS];exact h
  have:=loop n 0 _ w3 om (.inl U) h;rw[Rh,QD]at this;exact this
 refine oO (λe5=>⟨om,?_⟩) (λe5=>?_)
 .rw[Q om]at heq
  have e6:qq.wrap (((u.base+u.used:X):O)-(((u.base+u.used)%2^m:X):O))=((u.base+u.used-(u.base+u.used)%2^m:X):O):=by rw[show(((u.base+u.used:X):O)-(((u.base+u.used)%2^m:X):O))=((u.base+u.used-(u.base+u.used)%2^m:X):O)from by omega,Sl.wrap_u64,O6 om]
  rw[e6,<-Ra,Sl.wrap_u64,O6 om,<-heq];exact main
 .rw[A om]at heq
  rw[<-heq];exact main
end
namespace Th
section
variable{B:X}{w0 w:Y}{R:J aH}{k:X}{L:Qs}
theorem H7{L:Qs}(h:(L.map (·.2)).Nodup){p:X}{n:O}(hm:(p,n)∈L):(L.filter λx=>x.2 !=n).length+1=L.length:=by
 induction L with
 |nil=>cases hm
 |cons a L ih=>
  simp only[OZ,Pu,O4,not_exists,not_and]at h;rw[Pf];by_cases e:a.2=n
  .have e':(a.2 !=n)=false:=by simpa using e
   rw[e'];have:L.filter (λx=>x.2 !=n)=L:=Py.2 λx hx=>by simp only[qN,ne_eq];intro e2;exact h.1 x hx (e2.trans e.symm)
   simp[this]
  .have e':(a.2 !=n)=true:=by simpa using e
   rw[e'];have:(p,n)∈L:=by
    rcases Oz.1 hm with rfl|hm
    .exact qi U e
    .exact hm
   simp only[qz,OB];rw[ih h.2 this]
theorem EW(L:Qs){p:X}(hp:p<256):AU L (p:O)=ck L p:=by unfold AU;rw[Q om];simp
theorem E6{L:Qs}(ht:FP L=I):gG L=none:=by unfold gG;rw[ht];rfl
theorem zQ.filter{L:Qs}(h:zQ L)(n:O):zQ (L.filter λx=>x.2 !=n):=
 ⟨List.Nodup.sublist (List.filter_sublist.map _) h.nodup,λy hy=>h.prio y (OE.1 hy).1,ON (OR _ _) h.fh⟩
theorem MV{w:Y}{a:qf}{x y:O}{f:O->O->Prop}(g1:w.cell? a=S (.z x))(g2:w.cell? (a.add 1)=S (.z y))(hf:f x y):av w a 0 [.o,.o] f:=⟨_,g1,_,g2,hf⟩
def wK:dF (X × O):=⟨2,λx=>[.z (x.1:O),.z x.2],λ_=>rfl,λx v h=>by simp only[Oz,Ps,qC]at h;rcases h with rfl|rfl<;>rfl,qb⟩
def cB(k:X)(L:Qs):aH:=pa λs:Sl=>bo [dJ (zQ L),aa k [bL s],af wK s L]
theorem _root_.Go.Vc.Ow.HG(h:Ow B w0 w (cB k L::R)):∃s:Sl,zQ L/\Ow B w0 w (aa k [bL s]::af wK s L::R):=by obtain⟨s,h⟩:=h.ex;obtain⟨h1,h2⟩:=Ow.pure h.star;exact⟨s,h1,h2⟩
theorem _root_.Go.Vc.Ow.rJ{s:Sl}(h1:zQ L)(h:Ow B w0 w (aa k [bL s]::af wK s L::R)):Ow B w0 w (cB k L::R):=Ow.eP s (Ow.br (Ow.cZ h1 h))
theorem Dv{s:Sl}{xs:Qs}{y:X × O}{c:X}{C:Sl->Pw}(h:Ow B w0 w (aa c (wK.enc y)::R))(i:X)(hL:R[i]?=S (af wK s xs))
  (hbig:xs.length<=100000000000) (hk:∀s' w',s'.len=xs.length+1->Ow B w0 w' (R.set i (af wK s' (xs++ [y])))->C s' w'):
  ∃s' w',aP qe [260,260] 260 s.v (.slice (S c.p) 1 1) w s' w'/\C s' w':=
 Ow.ID (E:=wK) (y:=y) underlying260 (show qe.info? 435=S aex from by kernel_rfl) (zv:= .agg #[.z 0,.z 0]) qa qa U qb h i hL (by
  have e:aex.bytes=16:=qa
  rw[e];omega) hk
theorem _root_.Go.Vc.Ow.GK{s:Sl}{xs:Qs}(h:Ow B w0 w R)(i:X)(hi:R[i]?=S (af wK s xs)){j:X}{x:X × O}(hj:xs[j]?=S x):
  ∃a,s.a=S a/\w.cell? (a.add (j*2))=S (.z (x.1:O))/\w.cell? ((a.add (j*2)).add 1)=S (.z x.2):=by
 obtain⟨b,o,ha,hc⟩:=h.get i hi hj;exact⟨_,ha,by rw[aO];exact hc 0 _ U,by rw[aO,aO];exact hc 1 _ U⟩
theorem ma{n:O}{K:O->W->Pw}(h:Ow B w0 w (cB k L::R))
  (hK:K (((wh L n).map λp:X=>(p:O)).getD 0) (wh L n).isSome w):Xo k.o n K w:=by
 apply ach;obtain⟨s,hq,h⟩:=h.HG;have hlen:=h.len 1 U;have hfew:=hq.fh;intro l3 hl3;have loop:∀(m i:X),i+m=L.length->wh (L.drop i) n=wh L n->l3 (i:O) w:=by
  intro m;induction m with
  |zero=>
   intro i him hw;apply hl3;refine⟨_,U,s,h.iM 0 U U,?_⟩;rw[show F ((i:O)<(s.len:O))=Z from by simp;omega,qp];rw[QB om]at hw;rw[<-hw]at hK;exact hK
  |succ m ih=>
   intro i him hw;apply hl3;refine⟨_,U,s,h.iM 0 U U,?_⟩;rw[show F ((i:O)<(s.len:O))=V from by simp;omega,ql];have hx:L[i]?=S L[i]:=gE om;obtain⟨a,ha,h1,h2⟩:=h.GK 1 U hx;refine⟨_,U,s,h.iM 0 U U,a,ha,om,om,_,h2,?_⟩;rw[List.drop_eq_getElem_cons om]at hw;by_cases e:L[i].2=n
   .rw[show(L[i].2==n)=V from by simpa using e,ql]
    refine⟨_,U,s,h.iM 0 U U,a,ha,om,om,_,h1,?_⟩;have:wh L n=S L[i].1:=by rw[<-hw];unfold wh;rw[Tk,show(L[i].2==n)=V from by simpa using e];rfl
    rw[this]at hK;exact hK
   .rw[show(L[i].2==n)=Z from by simpa using e,qp,wr om om]
    refine ih (i+1) om ?_;rw[<-hw];unfold wh;rw[Tk,show(L[i].2==n)=Z from by simpa using e]
 exact loop L.length 0 om U
theorem y8{L:Qs}(h:zQ L)(p:O):AU L p=(L.filter λx=>((x.1:O)==p)).map (·.2):=by
 unfold AU;split
 .rename_i e
  rw[List.filter_eq_nil_iff.2]
  .rfl
  .intro x hx
   have:=h.prio x hx;simp only[qG];omega
 .rename_i e
  unfold ck;congr 1;apply RH;intro x _;by_cases e2:x.1=p.toNat
  .rw[show(x.1==p.toNat)=V from by simpa using e2];symm;simp;omega
  .rw[show(x.1==p.toNat)=Z from by simpa using e2];symm;simp;omega
theorem mN{p:O}{K:Sl->Pw}(h:Ow B w0 w (cB k L::R))
  (hK:∀s w',Ow B w0 w' (af aB s (AU L p)::cB k L::R)->K s w'):WN k.o p K w:=by
 apply acf;refine h.al λw1 h=>?_;obtain⟨s,hq,h⟩:=(h.perm (List.Perm.swap _ _ _)).HG;have hlen:=h.len 1 U;have hfew:=hq.fh;intro l4 hl4;have h:Ow B w0 w1 (af aB ⟨S w.heap.size.p,0,0⟩ []::aa k [bL s]::af wK s L::R):=by have h1:Ow B w0 w1 (aa w.heap.size []::aa k [bL s]::af wK s L::R):=h.take 2 U;exact h1.empty
 have loop:∀(m i:X)(o:Sl)(w:Y),i+m=L.length->Ow B w0 w (af aB o (((L.take i).filter λx=>((x.1:O)==p)).map (·.2))::aa k [bL s]::af wK s L::R)->l4 o (i:O) w:=by
  intro m;induction m with
  |zero=>
   intro i o w him h;apply hl4;refine⟨_,U,s,h.iM 1 U U,?_⟩;rw[show F ((i:O)<(s.len:O))=Z from by simp;omega,qp];rw[Ou om,<-y8 hq]at h;have h1:=Ow.rJ hq ((h.perm (List.Perm.swap _ _ _)).perm ((List.Perm.swap _ _ _).cons _));exact hK o w (h1.perm (List.Perm.swap _ _ _))
  |succ m ih=>
   intro i o w him h;apply hl4;refine⟨_,U,s,h.iM 1 U U,?_⟩;rw[show F ((i:O)<(s.len:O))=V from by simp;omega,ql];have hx:L[i]?=S L[i]:=gE om;obtain⟨a,ha,h1,h2⟩:=h.GK 2 U hx;have ht:L.take (i+1)=L.take i++ [L[i]]:=by rw[OG,hx];rfl
   refine⟨_,U,s,h.iM 1 U U,a,ha,om,om,_,h1,?_⟩;rw[wr om om];by_cases e:((L[i].1:X):O)=p
   .rw[show(((L[i].1:X):O)==p)=V from by simpa using e,ql]
    refine⟨_,U,s,h.iM 1 U U,a,ha,om,om,_,h2,h.al λw2 h=>?_⟩;refine xv h 0 U (by rw[O3];exact ON (OR _ _) (by rw[OO];omega)) λs' w3 hs' h=>?_;refine ih (i+1) s' w3 om ?_;rw[ht,O9,OS,Pf,show(((L[i].1:X):O)==p)=V from by simpa using e];exact h
   .rw[show(((L[i].1:X):O)==p)=Z from by simpa using e,qp]
    refine ih (i+1) o w om ?_;rw[ht,O9,OS,Pf,show(((L[i].1:X):O)==p)=Z from by simpa using e];simpa using h
 exact loop L.length 0 _ w1 om h
theorem mO{K:O->W->Pw}(h:Ow B w0 w (cB k L::R))
  (hK:∀w',Ow B w0 w' (cB k L::R)->K ((gG L).getD 0) (gG L).isSome w'):VZ k.o K w:=by
 apply acd;intro l2 hl2;have loop:∀(m:X)(w:Y),m<=256->FP L=od (iX L) m->Ow B w0 w (cB k L::R)->l2 ((m:O)-1) w:=by
  intro m;induction m with
  |zero=>
   intro w _ ht h;apply hl2;rw[show F (((0:X):O)-1>=0)=Z from U,qp];have:=hK w h;rw[E6 ht]at this;exact this
  |succ m ih=>
   intro w hm ht h;have e:((m+1:X):O)-1=(m:O):=om
   rw[e];apply hl2;rw[show F ((m:O)>=0)=V from by simp,ql];refine mN h λs w1 h=>?_;rw[EW L om]at h;have hlen:=h.len 0 U;simp only[od]at ht;cases hl:ck L m with
   |nil=>
    rw[hl]at hlen;simp only[PY]at hlen;rw[show F ((s.len:O)>0)=Z from by simp;omega,qp,wr om om];have hs:iX L m=false:=by unfold iX;rw[hl];rfl
    rw[hs,Q qc]at ht;exact ih w1 om ht h.drop
   |cons n l=>
    rw[hl]at hlen h;simp only[OB]at hlen;rw[show F ((s.len:O)>0)=V from by simp;omega,ql];have hs:iX L m=true:=by unfold iX;rw[hl];rfl
    rw[hs,A U]at ht;obtain⟨a,ha,hc⟩:=h.GJ 0 U (j:=0) U;refine⟨a,ha,om,om,n,hc,?_⟩;have:=hK w1 h.drop;have en:gG L=S n:=by unfold gG;rw[ht];simp[hl]
    rw[en]at this;exact this
 exact loop 256 w (On _) U h
theorem nR{p n:O}{K:O->Pw}(h:Ow B w0 w (cB k L::R))(hf:L.length<1000000)
  (hK:∀w',Ow B w0 w' (cB k (kd L p n).2::R)->K (kd L p n).1 w'):WM k.o p n K w:=by
 apply ace;intro k4 hk4;by_cases h0:p<0
 .rw[show F (p<0)=V from by simpa using h0,ql]
  apply hk4;rw[ql];have e:kd L p n=(1,L):=by unfold kd;rw[A (.inl h0)]
  rw[e]at hK;exact hK w h
 rw[show F (p<0)=Z from by simpa using h0,qp];apply hk4;by_cases h1:256<=p
 .rw[show F (p>255)=V from by simp;omega,ql]
  have e:kd L p n=(1,L):=by unfold kd;rw[A (.inr h1)]
  rw[e]at hK;exact hK w h
 rw[show F (p>255)=Z from by simp;omega,qp];refine ma h ?_;cases hw:wh L n with
 |some q=>
  have e:kd L p n=(90,L):=by unfold kd;rw[Q om,hw]
  rw[Option.isSome_some,ql];rw[e]at hK;exact hK w h
 |none=>
  have e:kd L p n=(0,L++ [(p.toNat,n)]):=by unfold kd;rw[Q om,hw]
  rw[Option.isSome_none,qp];rw[e]at hK;obtain⟨s,hq,h⟩:=h.HG;refine⟨_,U,s,h.iM 0 U U,h.al λw1 h=>?_⟩;have h:=h.yK (l':=wK.enc (p.toNat,n)) (by show _= [Value.z ((p.toNat:X):O),.z n];rw[Qe om]);refine Dv h 1 U om λs' w2 hs' h=>?_;refine⟨_,U,h.st 0 U U U λw3 h=>?_⟩;exact hK w3 (Ow.rJ (CP hq om hw hf) h)
theorem mP{n:O}{K:O->Pw}(h:Ow B w0 w (cB k L::R))
  (hK:∀w',Ow B w0 w' (cB k (fw L n).2::R)->K (fw L n).1 w'):WO k.o n K w:=by
 apply acg;refine h.al λw1 h=>?_;obtain⟨s,hq,h⟩:=(h.perm (List.Perm.swap _ _ _)).HG;have hlen:=h.len 1 U;have hfew:=hq.fh;intro l4 hl4;have h:Ow B w0 w1 (af wK ⟨S w.heap.size.p,0,0⟩ []::aa k [bL s]::af wK s L::R):=by have h1:Ow B w0 w1 (aa w.heap.size []::aa k [bL s]::af wK s L::R):=h.take 2 U;exact h1.empty
 have loop:∀(m i:X)(o:Sl)(w:Y),i+m=L.length->Ow B w0 w (af wK o ((L.take i).filter λx=>x.2 !=n)::aa k [bL s]::af wK s L::R)->l4 o (i:O) w:=by
  intro m;induction m with
  |zero=>
   intro i o w him h;apply hl4;refine⟨_,U,s,h.iM 1 U U,?_⟩;rw[show F ((i:O)<(s.len:O))=Z from by simp;omega,qp];rw[Ou om]at h;have hol:=h.len 0 U;refine⟨_,U,s,h.iM 1 U U,?_⟩;cases hw:wh L n with
   |none=>
    have e:fw L n=(91,L):=by unfold fw;rw[hw]
    have hs:(L.filter λx=>x.2 !=n)=L:=Py.2 λx hx=>by have:=mo.1 hw x hx;simpa using this
    rw[hs]at hol;rw[show((o.len:O)==(s.len:O))=V from by simp;omega,ql];rw[e]at hK;exact hK w (Ow.rJ hq h.drop)
   |some p=>
    have e:fw L n=(0,L.filter λx=>x.2 !=n):=by unfold fw;rw[hw]
    have:=H7 hq.nodup (Dp hw);rw[show((o.len:O)==(s.len:O))=Z from by simp;omega,qp];rw[e]at hK;refine⟨_,U,h.st 1 U U U λw2 h=>?_⟩;have h:Ow B w0 w2 (af wK o (L.filter λx=>x.2 !=n)::aa k [bL o]::af wK s L::R):=h;have h1:Ow B w0 w2 (af wK s L::af wK o (L.filter λx=>x.2 !=n)::aa k [bL o]::R):=h.take 2 U;exact hK w2 (Ow.rJ (hq.filter n) (h1.drop.perm (List.Perm.swap _ _ _)))
  |succ m ih=>
   intro i o w him h;apply hl4;refine⟨_,U,s,h.iM 1 U U,?_⟩;rw[show F ((i:O)<(s.len:O))=V from by simp;omega,ql];have hx:L[i]?=S L[i]:=gE om;obtain⟨a,ha,h1,h2⟩:=h.GK 2 U hx;have ht:L.take (i+1)=L.take i++ [L[i]]:=by rw[OG,hx];rfl
   refine⟨_,U,s,h.iM 1 U U,a,ha,om,om,_,h2,?_⟩;rw[wr om om];by_cases e:L[i].2=n
   .rw[show(L[i].2 !=n)=Z from by simpa using e,qp]
    refine ih (i+1) o w om ?_;rw[ht,O9,Pf,show(L[i].2 !=n)=Z from by simpa using e];simpa using h
   .rw[show(L[i].2 !=n)=V from by simpa using e,ql]
    refine⟨_,U,s,h.iM 1 U U,a,ha,om,om,MV h1 h2 (h.al λw2 h=>?_)⟩;refine Dv (y:=L[i]) h 0 U (ON (OR _ _) (by rw[OO];omega)) λs' w3 hs' h=>?_;refine ih (i+1) s' w3 om ?_;rw[ht,O9,Pf,show(L[i].2 !=n)=V from by simpa using e];exact h
 exact loop L.length 0 _ w1 om h
def bP(b:X)(m:Mt):aH:=pa λp:(Sl × Sl)× J X=>bo (dJ (p.2.length=m.qs.length)::aa b [bL p.1.1,bL p.1.2]::af ko p.1.1 m.bF::af gB p.1.2 p.2::Ot cB p.2 m.qs)
theorem HQ{b:X}{L':Qs}:∀(bs:J X)(qs:J Qs)(c:X),bs[c]?=S b->(Ot cB bs qs).set c (cB b L')=Ot cB bs (qs.set c L')
 | [],_,_,h=>by simp at h
 |_::_,[],c,_=>by simp
 |b0::bs,q::qs,0,h=>by simp at h;subst h;rfl
 |b0::bs,q::qs,c+1,h=>by simp[HQ bs qs c (by simpa using h)]
end
section
variable{B:X}{w0 w:Y}{R L:J aH}{b:X}{m m1:Mt}
theorem vW(h1:m1.bF=m.bF)(h2:m1.qs=m.qs):bP b m1=bP b m:=by unfold bP;rw[h1,h2]
theorem _root_.Go.Vc.Ow.Fy(h:Ow B w0 w (bP b m::R)):∃l q bs,bs.length=m.qs.length/\Ow B w0 w (aa b [bL l,bL q]::af ko l m.bF::af gB q bs::(Ot cB bs m.qs++R)):=by obtain⟨⟨⟨l,q⟩,bs⟩,h⟩:=h.ex;obtain⟨h1,h⟩:=Ow.pure h.star;exact⟨l,q,bs,h1,h⟩
theorem _root_.Go.Vc.Ow.lY{l q:Sl}{bs:J X}(h1:bs.length=m.qs.length)(h:Ow B w0 w (aa b [bL l,bL q]::af ko l m.bF::af gB q bs::(Ot cB bs m.qs++R))):Ow B w0 w (bP b m::R):=
 Ow.eP ((l,q),bs) (Ow.br (Ow.cZ h1 h))
theorem _root_.Go.Vc.Ow.HO{A1 A2 A3:aH}{bs:J X}{qs:J Qs}{c b1:X}{ae5:Qs}(hb:bs[c]?=S b1)(hq:qs[c]?=S ae5)(h:Ow B w0 w (A1::A2::A3::(Ot cB bs qs++R))):
  Ow B w0 w (cB b1 ae5::A1::A2::A3::(Ot cB bs qs++R).eraseIdx c):=by
 have h1:=(Om.1 hb).1;have h2:=(Om.1 hq).1;have hz:(Ot cB bs qs++R)[c]?=S (cB b1 ae5):=by rw[Oy (by simp;omega),List.getElem?_zipWith,hb,hq]
 exact h.take (c+3) (by simpa using hz)
theorem _root_.Go.Vc.Ow.KW{A1 A2 A3:aH}{bs:J X}{qs:J Qs}{c b1:X}{ae5:Qs}(hb:bs[c]?=S b1)(hc:c<qs.length)(h:Ow B w0 w (cB b1 ae5::A1::A2::A3::(Ot cB bs qs++R).eraseIdx c)):
  Ow B w0 w (A1::A2::A3::(Ot cB bs (qs.set c ae5)++R)):=by
 have h1:=(Om.1 hb).1;have h2:Ow B w0 w (cB b1 ae5::(A1::A2::A3::(Ot cB bs qs++R)).eraseIdx (c+3)):=by simpa only[List.eraseIdx_cons_succ]using h
 have h3:=h2.put (by simp;omega);simp only[List.set_cons_succ]at h3;rw[List.set_append_left _ _ (by simp;omega),HQ bs qs c hb]at h3;exact h3
theorem BG{c:O}(c0:0<=c)(c1:c<m.qs.length):m.qs.set c.toNat (m.q c)=m.qs:=by
 apply O2;intro t;rw[Pb];by_cases e:c.toNat=t
 .subst e;rw[A U,A om,rN c0 c1]
 .rw[Q e]
theorem Mm{l:Sl}{A1:aH}{bF:J u3}{n:O}{t t':u3}{c:X}{v:N}{a:qf}{k:Pw}(h:Ow B w0 w (A1::af ko l bF::L))(h0:0<=n)(hx:bF[n.toNat]?=S t)(ha:l.a=S a)
  (he:ko.enc t'=(ko.enc t).set c v) (hc:c<12) (hv:v.oneCell'=V) (hk:∀w',Ow B w0 w' (A1::af ko l (bF.set n.toNat t')::L)->k w'):St w ((a.add (n.toNat*12)).add c) v k:=
 Ow.rX (s:=l) (E:=ko) (xs:=bF) (i:=n) (j:=n.toNat) (c:=c) (x:=t) h t' om hx ha he hc hv λw' h=>hk w' h.cw
theorem fz{n:O}{K:W->Pw}(h:Ow B w0 w (bP b m::R))(hK:K (m.cP n) w):R9 b.o n K w:=by
 apply acs;obtain⟨l,q,bs,hbs,h⟩:=h.Fy;have hl:=h.aL l;unfold Mt.cP at hK;refine bg (λe=>?_) (λe=>?_)
 .refine ⟨_,U,l,h.aF U,?_⟩
  rw[qm (e:0<=n),Qa]at hK;rw[hl];exact hK
 .rw[qk (e:¬0<=n),P5]at hK;exact hK
theorem mD{n:O}{K:W->Pw}(h:Ow B w0 w (bP b m::R))(hK:K (m.fS n) w):Up b.o n K w:=by
 apply acr;obtain⟨l,q,bs,hbs,h⟩:=h.Fy;have hl:=h.aL q;unfold Mt.fS at hK;refine bg (λe=>?_) (λe=>?_)
 .refine ⟨_,U,q,h.aE U,?_⟩
  rw[qm (e:0<=n),Qa]at hK;rw[hl,hbs];exact hK
 .rw[qk (e:¬0<=n),P5]at hK;exact hK
theorem mE{n:O}{K:W->Pw}(hK:K (F (0<=n/\n<256)) w):Uo n K w:=by
 apply acq;refine bg (λe=>?_) (λe=>?_)
 .rw[show F (0<=n/\n<256)=F (n<=255)from decide_eq_decide.2 om]at hK;exact hK
 .rw[qk om]at hK;exact hK
theorem vQ{n:O}{K:O->O->O->O->O->O->O->O->O->O->O->O->O->Pw}(h:Ow B w0 w (bP b m::R))
  (hK:∀w' t,t=(if m.cP n then m.th n else JK)->Ow B w0 w' (bP b m::R)->K t.st t.pr t.co t.le (t.rg 0) (t.rg 1) (t.rg 2) (t.rg 3) (t.rg 4) (t.rg 5) (t.rg 6) (t.rg 7) (if m.cP n then 0 else 100) w'):Vy b.o n K w:=by
 apply aco;refine h.a λc w1 h=>?_;have h:Ow B w0 w1 (bP b m::aa c [.z 0,.z 0,.z 0,.z 0,.y 0,.y 0,.y 0,.y 0,.y 0,.y 0,.y 0,.y 0]::R):=h.cw;refine fz h ?_;cases e:m.cP n with
 |false=>
  have h:Ow B w0 w1 (aa c [.z 0,.z 0,.z 0,.z 0,.y 0,.y 0,.y 0,.y 0,.y 0,.y 0,.y 0,.y 0]::bP b m::R):=h.cw;refine aU U ?_;refine h.ay U U λw h=>?_;refine h.DL U ?_;have:=hK w JK (by rw[e];rfl) h.drop;rw[e]at this;exact this
 |true=>
  refine aW U ?_;obtain⟨n0,n1,hx⟩:=bD e;have h2:Ow B w0 w1 (aa c [.z 0,.z 0,.z 0,.z 0,.y 0,.y 0,.y 0,.y 0,.y 0,.y 0,.y 0,.y 0]::bP b m::R):=h.cw;obtain⟨l,q,bs,hbs,h⟩:=h.Fy;refine⟨_,U,l,h.aF U,h.bX (s:=l) (i:=n) (j:=n.toNat) om hx λa ha h0 hc=>?_⟩;refine⟨_,hc 0 _ U,_,hc 1 _ U,_,hc 2 _ U,_,hc 3 _ U,_,hc 4 _ U,_,hc 5 _ U,_,hc 6 _ U,_,hc 7 _ U,_,hc 8 _ U,_,hc 9 _ U,_,hc 10 _ U,_,hc 11 _ U,h2.ay U U λw h=>?_⟩;refine h.DL U ?_;have:=hK w (m.th n) (by rw[e];rfl) h.drop;rw[e]at this;exact this
theorem gT{n i v:O}{K:O->Pw}(h:Ow B w0 w (bP b m::R))(hK:∀w',Ow B w0 w' (bP b (m.nS n i v).2::R)->K (m.nS n i v).1 w'):Tq b.o n i v K w:=by
 apply acy;unfold Mt.nS at hK;refine fz h ?_;cases hT:m.cP n with
 |false=>
  rw[A hT]at hK;exact aU U (hK w h)
 |true=>
  rw[Q (by rw[hT];simp)]at hK;refine aW U ?_;intro k7 hk7;have bad:¬(0<=i/\i<8)->k7 V w:=λe=>by rw[A e]at hK;exact hk7 _ _ (aU U (hK w h))
  refine bg (λe=>bad om) (λe=>?_);by_cases e2:i>7
  .rw[qm e2];exact bad om
  .rw[qk e2]
   have hi:0<=i/\i<8:=om
   rw[Q (λhh=>hh hi)]at hK;obtain⟨n0,n1,hx⟩:=bD hT;obtain⟨l,q,bs,hbs,h⟩:=h.Fy;refine hk7 _ _ (aW U ⟨_,U,l,h.aF U,?_⟩);refine h.bX (s:=l) (i:=n) (j:=n.toNat) om hx λa ha h0 hc=>?_;refine⟨om,om,?_⟩;obtain⟨j,rfl⟩:=Ox hi.1;have e1:((a.add (n.toNat*12)).add 4).add ((j:O).toNat*1)=(a.add (n.toNat*12)).add (4+j):=by have:=h.wg l ha;rw[this,aO,aO,aO,aO,Oo];congr 1;omega
   rw[e1];refine Mm (c:=4+j) (t':={ m.th n with rg:=λk=>if k=j then v else(m.th n).rg k}) h n0 hx ha ?_ om U λw h=>?_
   .have:j=0\/j=1\/j=2\/j=3\/j=4\/j=5\/j=6\/j=7:=om
    rcases this with rfl|rfl|rfl|rfl|rfl|rfl|rfl|rfl<;>rfl
   .exact hK w (Ow.lY (m:=m.Br n j v) hbs h)
theorem iN{n:O}{K:Pw}(hm:de m)(hn:m.cP n=V)(h:Ow B w0 w (bP b m::R))(hK:∀w',Ow B w0 w' (bP b (m.cp n)::R)->K w'):Tm b.o n K w:=by
 apply acu;obtain⟨l,q,bs,hbs,h⟩:=h.Fy;obtain⟨n0,n1,hx⟩:=bD hn;obtain⟨⟨c0,c1⟩,_⟩:=hm.th hn;obtain⟨b1,hb1⟩:∃x,bs[(m.th n).co.toNat]?=S x:=⟨_,gE om⟩
 refine⟨_,U,l,h.aF U,h.bX (s:=l) (i:=n) (j:=n.toNat) om hx λa ha h0 hc=>?_⟩;refine Mm (c:=0) (t':={ m.th n with st:=1}) h n0 hx ha U qb U λw h=>?_;have hx2:(m.bF.set n.toNat { m.th n with st:=1})[n.toNat]?=S { m.th n with st:=1}:=by rw[Pb,A U,A om]
 refine h.dr λw h=>?_;refine⟨_,U,q,h.aE U,_,U,l,h.aF U,h.bX (s:=l) (i:=n) (j:=n.toNat) om hx2 λa2 ha2 h0 hc2=>⟨_,hc2 2 _ U,?_⟩⟩
 refine h.bX (s:=q) (j:=(m.th n).co.toNat) (by show(m.th n).co=_;omega) hb1 λa3 ha3 h03 hc3=>⟨_,h03 _ U,_,U,l,h.aF U,?_⟩
 refine h.bX (s:=l) (i:=n) (j:=n.toNat) om hx2 λa4 ha4 h04 hc4=>⟨_,hc4 1 _ U,Go.Vc.a2 ?_⟩
 have h:=h.HO hb1 (rN c0 c1);have hqok:zQ (m.q (m.th n).co):=by obtain⟨_,e,_⟩:=h.HG;exact e
 have hlen:=yZ hqok hm.vK;have hfew:=hm.fh;refine nR h om λw h=>?_;have h:=h.KW (qs:=m.qs) hb1 om;exact hK w (Ow.lY (m:=m.cp n) (bs:=bs) (by unfold Mt.cp Mt.iI Mt.aM;simpa using hbs) h)
theorem KR(hi:bB (-1) m){n:O}(hn:m.cP n=V):bP b (m.iI (m.th n).co (fw (m.q (m.th n).co) n).2)=bP b (m.bw n):=by
 have hc:=hi.co hn;obtain⟨c0,c1⟩:=fW.1 hc;have same:(m.th n).st≠1->m.qs.set (m.th n).co.toNat (fw (m.q (m.th n).co) n).2=m.qs:=λe=>by
  have:wh (m.q (m.th n).co) n=none:=mo.2 λx hx e2=>by obtain⟨p,k⟩:=x;have e2:k=n:=e2;subst e2;exact e ((hi.Cx _ hc p k).1 hx).2.2.2.1
  unfold fw;rw[this];exact BG c0 c1
 unfold Mt.bw;by_cases e:(m.th n).st=1
 .rw[A e]
 .rw[Q e]
  split
  .exact vW U (same e)
  .exact vW U (same e)
theorem kg{n:O}{K:Pw}(hi:bB (-1) m)(hn:m.cP n=V)(h:Ow B w0 w (bP b m::R))(hK:∀w',Ow B w0 w' (bP b (m.bw n)::R)->K w'):Tn b.o n K w:=by
 apply acv;obtain⟨l,q,bs,hbs,h⟩:=h.Fy;obtain⟨n0,n1,hx⟩:=bD hn;obtain⟨⟨c0,c1⟩,_⟩:=hi.ok.th hn;obtain⟨b1,hb1⟩:∃x,bs[(m.th n).co.toNat]?=S x:=⟨_,gE om⟩
 refine h.dr λw h=>?_;refine⟨_,U,q,h.aE U,_,U,l,h.aF U,h.bX (s:=l) (i:=n) (j:=n.toNat) om hx λa2 ha2 h0 hc2=>⟨_,hc2 2 _ U,?_⟩⟩
 refine h.bX (s:=q) (j:=(m.th n).co.toNat) (by show(m.th n).co=_;omega) hb1 λa3 ha3 h03 hc3=>⟨_,h03 _ U,Go.Vc.a2 ?_⟩
 have h:=h.HO hb1 (rN c0 c1);refine mP h λw h=>?_;have h:=h.KW (qs:=m.qs) hb1 om;have h2:Ow B w0 w (bP b (m.iI (m.th n).co (fw (m.q (m.th n).co) n).2)::R):=Ow.lY (bs:=bs) (by unfold Mt.iI;simpa using hbs) h;rw[KR hi hn]at h2;exact hK w h2
def Cb(m:Mt)(c:O):Prop:=∀i,m.cP i=V->(m.bJ c=S i↔((m.th i).st=2/\(m.th i).co=c))
theorem bB.vY(hi:bB (-1) m)(c:O):Cb m c:=λi hT=>by
 have i0:=(bD hT).1;constructor
 .intro h;have:=hi.runIn h;exact⟨this.2.2.2,this.2.2.1⟩
 .rintro ⟨h1,h2⟩
  have hc:m.fS c=true:=by rw[<-h2];exact hi.co hT
  have:=(hi.inr c hc i hT).2 ⟨om,h2,h1⟩;unfold Mt.bJ;rw[this,A ⟨hc,om⟩]
theorem fu{c:O}{K:O->W->Pw}(hm:de m)(hr:Cb m c)(h:Ow B w0 w (bP b m::R))(hK:K ((m.bJ c).getD 0) (m.bJ c).isSome w):Sy b.o c K w:=by
 apply acp;have hfew:=hm.fh;obtain⟨l,q,bs,hbs,h⟩:=h.Fy;have hl:=h.aL l;intro l3 hl3;have loop:∀(j i:X),i+j=m.bF.length->(∀k:X,k<i->m.bJ c≠S (k:O))->l3 (i:O) w:=by
  intro j;induction j with
  |zero=>
   intro i hij hno;apply hl3;refine⟨_,U,l,h.aF U,aw om ?_⟩;cases e:m.bJ c with
   |none=>rw[e]at hK;exact hK
   |some o=>
    have hT:=bD (hm.runT e).2.2.2;exact qi (by rw[e,Qe hT.1]) (hno o.toNat om)
  |succ j ih=>
   intro i hij hno;apply hl3;refine⟨_,U,l,h.aF U,az om ?_⟩;have iT:m.cP (i:O)=true:=by unfold Mt.cP;simp;omega
   have hx:=(bD iT).2.2;have hri:=hr (i:O) iT;rw[Oo]at hx;intro k8 hk8;have yes:m.bJ c=S (i:O)->k8 V w:=λe=>by rw[e]at hK;exact hk8 _ _ (aU U hK)
   have no:m.bJ c≠S (i:O)->k8 Z w:=λe=>by
    refine hk8 _ _ (aW U ?_);rw[wI i om];refine ih (i+1) om λk hk=>?_;by_cases e2:k=i
    .rw[e2];exact e
    .exact hno k om
   refine⟨_,U,l,h.aF U,h.bX (s:=l) (i:=(i:O)) (j:=i) U hx λa2 ha2 h0 hc2=>⟨_,hc2 0 _ U,?_⟩⟩
   refine dK (λe=>?_) (λe=>no λe2=>e (hri.1 e2).1);refine⟨_,U,l,h.aF U,h.bX (s:=l) (i:=(i:O)) (j:=i) U hx λa2 ha2 h0 hc2=>⟨_,hc2 2 _ U,?_⟩⟩
   by_cases e2:(m.th (i:O)).co=c
   .rw[show((m.th (i:O)).co==c)=V from by simpa using e2]
    exact yes (hri.2 ⟨e,e2⟩)
   .rw[show((m.th (i:O)).co==c)=Z from by simpa using e2]
    exact no λe3=>e2 (hri.1 e3).2
 exact loop m.bF.length 0 om (λk hk=>by omega)
theorem BJ{n:O}{t':u3}{c:X}{v:N}{k:Pw}(hn:m.cP n=V)(h:Ow B w0 w (bP b m::R))(he:ko.enc t'=(ko.enc (m.th n)).set c v)(hc:c<12)(hv:v.oneCell'=V)
  (hk:∀w',Ow B w0 w' (bP b (m.aM n t')::R)->k w'):∃a:qf,S (b.p:qf)=S a/\∃l:Sl,w.cell? a=S l.v/\∃a2:qf,l.a=S a2/\0<=n/\n<(l.len:O)/\St w ((a2.add (n.toNat*12)).add c) v k:=by
 obtain⟨n0,n1,hx⟩:=bD hn;obtain⟨l,q,bs,hbs,h⟩:=h.Fy;refine⟨_,U,l,h.aF U,h.bX (s:=l) (i:=n) (j:=n.toNat) om hx λa ha h0 hcc=>?_⟩;exact Mm (c:=c) (t':=t') h n0 hx ha he hc hv λw h=>hk w (Ow.lY (m:=m.aM n t') hbs h)
theorem tF{n x:O}{c:X}{k:O->Prop}(hn:m.cP n=V)(h:Ow B w0 w (bP b m::R))(he:(ko.enc (m.th n))[c]?=S (.z x))(hk:k x):
  ∃a:qf,S (b.p:qf)=S a/\∃l:Sl,w.cell? a=S l.v/\∃a2:qf,l.a=S a2/\0<=n/\n<(l.len:O)/\∃y:O,w.cell? ((a2.add (n.toNat*12)).add c)=S (.z y)/\k y:=by
 obtain⟨n0,n1,hx⟩:=bD hn;obtain⟨l,q,bs,hbs,h⟩:=h.Fy;exact⟨_,U,l,h.aF U,h.bX (s:=l) (i:=n) (j:=n.toNat) om hx λa ha h0 hcc=>⟨_,hcc c _ he,hk⟩⟩
theorem gU{n:O}{K:O->Pw}(hi:bB (-1) m)(h:Ow B w0 w (bP b m::R))(hK:∀w',Ow B w0 w' (bP b (m.bE n).2::R)->K (m.bE n).1 w'):Tx b.o n K w:=by
 apply acm;unfold Mt.bE at hK;refine fz h ?_;cases hT:m.cP n with
 |false=>rw[A hT]at hK;exact aU U (hK w h)
 |true=>
  rw[Q (by rw[hT];simp)]at hK;refine aW U ?_;intro k5 hk5;have bad:(m.th n).st=1\/(m.th n).st=2->k5 V w:=λe=>by rw[A e]at hK;exact hk5 _ _ (aU U (hK w h))
  refine tF (c:=0) hT h U ?_;refine dK (λe=>bad (.inl e)) (λe=>?_);refine tF (c:=0) hT h U ?_;by_cases e2:(m.th n).st=2
  .rw[show((m.th n).st==2)=V from by simpa using e2];exact bad (.inr e2)
  .rw[show((m.th n).st==2)=Z from by simpa using e2]
   rw[Q (λhh=>hh.elim e e2)]at hK;exact hk5 _ _ (aW U (iN hi.ok hT h hK))
theorem kf{n:O}{K:O->Pw}(hi:bB (-1) m)(h:Ow B w0 w (bP b m::R))(hK:∀w',Ow B w0 w' (bP b (m.bM n).2::R)->K (m.bM n).1 w'):Uv b.o n K w:=by
 apply acw;unfold Mt.bM at hK;refine fz h ?_;cases hT:m.cP n with
 |false=>rw[A hT]at hK;exact aU U (hK w h)
 |true=>
  rw[Q (by rw[hT];simp)]at hK;refine aW U ?_;refine tF (c:=0) hT h U ?_;refine dK (λe=>?_) (λe=>?_)
  .rw[A e]at hK;exact hK w h
  .rw[Q e]at hK
   refine kg hi hT h λw h=>?_;refine BJ (c:=0) (t':={ m.th n with st:=0}) (by rw[jW];exact hT) h (by rw[oz];rfl) qb U λw h=>?_;exact hK w h
theorem sZ{n:O}{K:O->Pw}(hi:bB (-1) m)(h:Ow B w0 w (bP b m::R))(hK:∀w',Ow B w0 w' (bP b (m.gL n).2::R)->K (m.gL n).1 w'):Xd b.o n K w:=by
 apply acz;unfold Mt.gL at hK;refine fz h ?_;cases hT:m.cP n with
 |false=>rw[A hT]at hK;exact aU U (hK w h)
 |true=>
  rw[Q (by rw[hT];simp)]at hK;refine aW U ?_;refine tF (c:=0) hT h U ?_;refine oO (λe=>?_) (λe=>?_)
  .rw[A e]at hK;exact hK w h
  .rw[Q (λhh=>hh e)]at hK
   refine BJ (c:=0) (t':={ m.th n with st:=3}) hT h U qb U λw h=>?_;have e1:bP b (m.leave n 3)=bP b (m.aM n { m.th n with st:=3}):=by unfold Mt.leave Mt.bw;rw[Q om,A e];exact vW U U
   rw[e1]at hK;exact hK w h
theorem uh{n p:O}{K:O->Pw}(hi:bB (-1) m)(h:Ow B w0 w (bP b m::R))(hK:∀w',Ow B w0 w' (bP b (m.gn n p).2::R)->K (m.gn n p).1 w'):Wo b.o n p K w:=by
 apply acx;unfold Mt.gn at hK;refine fz h ?_;cases hT:m.cP n with
 |false=>rw[A hT]at hK;exact aU U (hK w h)
 |true=>
  rw[Q (by rw[hT];simp)]at hK;refine aW U ?_;refine mE ?_;by_cases hp:0<=p/\p<256
  .rw[Q (λhh=>hh hp)]at hK
   rw[qm hp];refine aW U ?_;refine kg hi hT h λw h=>?_;have hT0:(m.bw n).cP n=true:=by rw[jW];exact hT
   refine BJ (c:=1) (t':={ m.th n with pr:=p}) hT0 h (by rw[oz];rfl) qb U λw h=>?_;have hT1:((m.bw n).aM n { m.th n with pr:=p}).cP n=true:=by rw[dt];exact hT0
   have e1:((m.bw n).aM n { m.th n with pr:=p}).th n={ m.th n with pr:=p}:=by rw[dS hT0,A U]
   refine tF (x:=(m.th n).st) (c:=0) hT1 h (by rw[e1];rfl) ?_;refine dK (λe=>?_) (λe=>?_)
   .rw[A e]at hK
    have hs:m.th n={ m.th n with st:=1}:=by
     have:(m.th n).st=1:=e;cases hth:m.th n with
     |mk a b c d f=>rw[hth]at this;have this:a=1:=this;subst this;rfl
    have e2:((m.leave n 1).aM n {(m.leave n 1).th n with pr:=p})=(m.bw n).aM n { m.th n with pr:=p}:=by rw[iZ hT,A U];unfold Mt.leave;rw[Dd,<-hs]
    rw[e2]at hK;have GM:de ((m.bw n).aM n { m.th n with pr:=p}):=hi.ok.bw.aM (t:={ m.th n with pr:=p}) (by rw[dh.2];exact(hi.ok.th hT).1) U;exact iN GM hT1 h hK
   .rw[Q e]at hK
    have e2:bP b (m.aM n { m.th n with pr:=p})=bP b ((m.bw n).aM n { m.th n with pr:=p}):=by unfold Mt.bw;rw[Q e];split<;>exact vW U U
    rw[e2]at hK;exact hK w h
  .rw[A hp]at hK
   rw[qk hp];exact aU U (hK w h)
theorem mC{p c:O}{K:O->O->Pw}(hm:de m)(h:Ow B w0 w (bP b m::R))(hK:∀w',Ow B w0 w' (bP b (m.cv p c).2.2::R)->K (m.cv p c).1 (m.cv p c).2.1 w'):Ug b.o p c K w:=by
 apply ack;unfold Mt.cv at hK;have hfew:=hm.fh;intro k4 hk4;have bad:¬(0<=p/\p<256/\m.fS c=V)->k4 V w:=λe=>by rw[A e]at hK;exact hk4 _ _ (aU U (hK w h))
 refine mE ?_;by_cases hp:0<=p/\p<256
 .rw[qm hp]
  refine aW U ?_;refine mD h ?_;cases hc:m.fS c with
  |false=>exact bad λhh=>by rw[hc]at hh;cases hh.2.2
  |true=>
   rw[Q (λhh=>hh ⟨hp.1,hp.2,hc⟩)]at hK;refine hk4 _ _ (aW U ?_);obtain⟨l,q,bs,hbs,h⟩:=h.Fy;have hl:=h.aL l;refine⟨_,U,l,h.aF U,bg (λe2=>?_) (λe2=>?_)⟩
   .rw[A om]at hK
    exact hK w (Ow.lY hbs h)
   .rw[Q om]at hK
    refine⟨_,U,l,h.aF U,h.a λd w1 h=>?_⟩;refine Ow.eR (s:=l) (E:=ko) (xs:=m.bF) (y:=⟨0,p,c,5,λ_=>0⟩) aet (show qe.info? 139=S qU from by kernel_rfl) (zv:=(qU.zero).get qa) qa qa qa qb h (by
     have e:qU.bytes=96:=qa
     rw[e];omega) λs' w hs' h=>?_
    refine⟨_,U,?_⟩;have h:=h.cw;refine h.jx U U λw h=>?_;refine⟨_,U,s',h.aF U,?_⟩;rw[show qd.wrap ((s'.len:O)-1)=(m.bF.length:O)from by rw[hs',wr om om];omega];exact hK w (Ow.lY (m:=m.make p c) (l:=s') (q:=q) (bs:=bs) hbs h)
 .rw[qk hp]
  exact aU U (bad λhh=>hp ⟨hh.1,hh.2.1⟩)
theorem vr(hi:bB (-1) m){o:O}(hT:m.cP o=V)(hs:(m.th o).st=2):bP b ((m.leave o 1).cp o)=bP b (m.cp o):=by
 have e1:(m.leave o 1).th o={ m.th o with st:=1}:=by rw[iZ hT,A U]
 have e2:∀c,(m.leave o 1).q c=m.q c:=λc=>by unfold Mt.leave Mt.bw;rw[Q om,A hs];rfl
 have e3:(m.leave o 1).bF=m.bF.set o.toNat { m.th o with st:=1}/\(m.leave o 1).qs=m.qs:=by unfold Mt.leave Mt.bw;rw[Q om,A hs];exact⟨U,U⟩
 unfold Mt.cp;rw[e1,e2];unfold Mt.aM Mt.iI;refine vW ?_ ?_
 .simp only;rw[e3.1,List.set_set]
 .simp only;rw[e3.2]
theorem gr{c:O}{K:O->W->Pw}(hi:bB (-1) m)(h:Ow B w0 w (bP b m::R))(hK:∀w',Ow B w0 w' (bP b (m.aV c)::R)->K (((m.aV c).bJ c).getD 0) ((m.aV c).bJ c).isSome w'):S8 b.o c K w:=by
 apply acn;have hi2:=hi.aV c;refine mD h ?_;cases hc:m.fS c with
 |false=>
  have e:m.bJ c=none:=by unfold Mt.bJ;rw[Q (by rw[hc];simp)]
  have e2:m.aV c=m:=by unfold Mt.aV;rw[hc];rfl
  rw[e2,e]at hK;exact aU U (hK w h)
 |true=>
  obtain⟨c0,c1⟩:=fW.1 hc;refine aW U ?_;refine fu hi.ok (hi.vY c) h ?_;obtain⟨l,q,bs,hbs,h⟩:=h.Fy;obtain⟨b1,hb1⟩:∃x,bs[c.toNat]?=S x:=⟨_,gE om⟩
  refine⟨_,U,q,h.aE U,h.bX (s:=q) (j:=c.toNat) om hb1 λa2 ha2 h0 hcc=>⟨_,h0 _ U,?_⟩⟩
  refine mO (h.HO hb1 (rN c0 c1)) λw h=>?_;have h:=h.KW (qs:=m.qs) hb1 om;rw[BG c0 c1]at h;have h:Ow B w0 w (bP b m::R):=Ow.lY hbs h;intro k15 hk15;refine h.dr λw h=>?_;have fin:∀w,Ow B w0 w (bP b (m.aV c)::R)->Sy b.o c (λr20 r21 w22=>K r20 r21 w22) w:=λw h=>fu hi2.ok (hi2.vY c) h (hK w h);have stay:m.aV c=m->k15 Z w:=λe=>by refine hk15 _ _ ?_;intro k18 hk18;refine aW U (hk18 _ ?_);rw[e]at fin;exact fin w h
  have pc:m.aV c=m.pick c:=by unfold Mt.aV;rw[hc];rfl
  cases hn:gG (m.q c)with
  |none=>
   refine aW U (stay ?_);rw[pc];unfold Mt.pick;rw[hn]
  |some n=>
   obtain⟨hT,hco,hst⟩:=hi.Hn hc hn;rw[hn]at hk15;refine aU U ?_;have last:∀(m1:Mt)(w:Y)(k:Pw),bB (-1) m1->m1.cP n=V->m.aV c=(m1.leave n 2).gW c n->(∀w',Ow B w0 w' (bP b (m.aV c)::R)->k w')->Ow B w0 w (bP b m1::R)->Tn b.o n (λw25=>
  ∃a26:qf,S (b.p:qf)=S a26/\
  ∃l27:Sl,w25.cell? a26=S l27.v/\
  ∃a28:qf,l27.a=S a28/\0<=n/\n<(l27.len:O)/\
  St w25 (a28.add (n.toNat*12)) (.z (2:O)) λw29=>k w29) w:=λm1 w k hi1 hT1 hp hk h=>by
    refine kg hi1 hT1 h λw h=>?_;refine BJ (c:=0) (t':={ m1.th n with st:=2}) (by rw[jW];exact hT1) h (by rw[oz];rfl) qb U λw h=>?_;rw[hp]at hk;exact hk w h
   cases hr:m.bJ c with
   |none=>
    have hr1:m.run c= -1:=by
     unfold Mt.bJ at hr;split at hr
     .cases hr
     .rename_i hh
      by_cases e:m.run c= -1
      .exact e
      .exact qi ⟨hc,e⟩ hh
    rw[hr]at hk15;refine aU U (hk15 _ _ ?_);intro k18 hk18;refine aU U ?_;intro k23 hk23;refine aW U (hk23 _ ?_);exact last m w k18 hi hT (by rw[pc];unfold Mt.pick;rw[hn];simp only;rw[A hr1]) (λw h=>hk18 _ (fin w h)) h
   |some o=>
    obtain⟨_,oT,oco,ost⟩:=hi.runIn hr;have ho:=hi.ok.runT hr;rw[hr]at hk15;refine aW U ?_;refine tF (c:=1) hT h U ?_;refine tF (c:=1) oT h U ?_;show k15 (F ((m.th n).pr>(m.th o).pr)) w;by_cases e:(m.th n).pr>(m.th o).pr
    .rw[qm e]
     refine hk15 _ _ ?_;intro k18 hk18;refine aU U ?_;intro k23 hk23;refine aU U ?_;refine iN (n:=o) hi.ok oT h λw h=>hk23 _ ?_;have oT1:(m.leave o 1).cP o=true:=by rw[eI];exact oT
     rw[<-vr hi oT ost]at h;refine last ((m.leave o 1).cp o) w k18 ((hi.leave oT).up oT1) (by rw[gy,eI];exact hT) ?_ (λw h=>hk18 _ (fin w h)) h;rw[pc];unfold Mt.pick;rw[hn];simp only;rw[Q (by rw[ho.2.1];exact ho.2.2.1),ho.2.1,Q om]
    .rw[qk e]
     refine stay ?_;rw[pc];unfold Mt.pick;rw[hn];simp only;rw[Q (by rw[ho.2.1];exact ho.2.2.1),ho.2.1,A om]
theorem FA{c o v:O}(hi:bB (-1) m)(hT:m.cP o=V):Cb (m.aM o { m.th o with le:=v}) c:=λi hiT=>by
 rw[dt]at hiT;rw[dS hT];have:=hi.vY c i hiT;show m.bJ c=S i↔_;rw[this];by_cases e:i=o
 .subst e;rw[A U]
 .rw[Q e]
theorem lF{c o v:O}{K:W->Pw}(hi:bB (-1) m)(hr:m.bJ c=S o)(h:Ow B w0 w (bP b (m.aM o { m.th o with le:=v})::R))(hK:∀w',Ow B w0 w' (bP b (m.yield c)::R)->K V w'):Ty b.o c K w:=by
 apply YL;obtain⟨hc,oT,oco,ost⟩:=hi.runIn hr;have oT1:∀t,(m.aM o t).cP o=true:=λt=>by rw[dt];exact oT
 refine fu (hi.ok.aM (t:={ m.th o with le:=v}) (hi.ok.th oT).1 U) (FA hi oT) h ?_;have hr2:(m.aM o { m.th o with le:=v}).bJ c=S o:=hr;rw[hr2];refine aW U ?_;have e1:(m.aM o { m.th o with le:=v}).th o={ m.th o with le:=v}:=by rw[dS oT,A U]
 refine BJ (n:=o) (c:=3) (t':={ m.th o with le:=5}) (oT1 _) h (show ko.enc { m.th o with le:=5}=(ko.enc ((m.aM o { m.th o with le:=v}).th o)).set 3 (.z 5)from by rw[e1];rfl) qb U λw h=>?_;rw[Dd]at h;have hi1:bB (-1) (m.aM o { m.th o with le:=5}):=hi.GX (t:={ m.th o with le:=5}) oT U U (λ_=>rfl) (hi.pr o oT) ⟨by show(1:O)<=5;decide,by show(5:O)<=5;decide⟩;refine iN (n:=o) hi1.ok (oT1 _) h λw h=>?_;rw[<-vr hi1 (oT1 _) (by rw[dS oT,A U];exact ost)]at h;have hy:m.yield c=(((m.aM o { m.th o with le:=5}).leave o 1).cp o).aV c:=by unfold Mt.yield;rw[hr]
 rw[hy]at hK;exact gr ((hi1.leave (oT1 _)).up (by rw[eI];exact oT1 _)) h λw h=>hK w h
theorem s0{c:O}{K:W->Pw}(hi:bB (-1) m)(h:Ow B w0 w (bP b m::R))(hK:∀w',Ow B w0 w' (bP b (m.yield c)::R)->K (m.bJ c).isSome w'):Ty b.o c K w:=by
 cases hr:m.bJ c with
 |none=>
  apply YL;refine fu hi.ok (hi.vY c) h ?_;unfold Mt.yield at hK;rw[hr]at hK|-;exact aU U (hK w h)
 |some o=>
  obtain⟨hc,oT,oco,ost⟩:=hi.runIn hr;rw[hr]at hK;refine lF (o:=o) (v:=(m.th o).le) hi hr ?_ hK;obtain⟨o0,o1,hx⟩:=bD oT;have:m.aM o { m.th o with le:=(m.th o).le}=m:=by
   unfold Mt.aM;have e:m.bF.set o.toNat (m.th o)=m.bF:=by
    apply O2;intro t;rw[Pb];by_cases e:o.toNat=t
    .subst e;rw[A U,A om,hx]
    .rw[Q e]
   show { m with bF:=m.bF.set o.toNat (m.th o)}=m;rw[e]
  rw[this];exact h
theorem ui{c:O}{K:W->Pw}(hi:bB (-1) m)(h:Ow B w0 w (bP b m::R))(hK:∀w',Ow B w0 w' (bP b (m.tick c)::R)->K (m.bJ c).isSome w'):Ua b.o c K w:=by
 apply aci;refine fu hi.ok (hi.vY c) h ?_;rw[Ea hi]at hK;cases hr:m.bJ c with
 |none=>
  rw[hr]at hK;exact aU U (hK w h)
 |some o=>
  obtain⟨hc,oT,oco,ost⟩:=hi.runIn hr;obtain⟨o0,o1,hx⟩:=bD oT;have hle:=hi.le o oT;rw[hr]at hK;simp only at hK;refine aW U ?_;refine h.dr λw h=>?_;have h2:=h;obtain⟨l,q,bs,hbs,h⟩:=h.Fy;refine⟨_,U,l,h.aF U,_,U,l,h.aF U,h.bX (s:=l) (i:=o) (j:=o.toNat) om hx λa ha h0 hcc=>⟨_,hcc 3 _ U,?_⟩⟩
  refine h.bX (s:=l) (i:=o) (j:=o.toNat) om hx λa ha h0 hcc=>Go.Vc.a2 ?_;rw[wr om om];refine Mm (c:=3) (t':={ m.th o with le:=(m.th o).le-1}) h o0 hx ha U qb U λw h=>?_;have h:Ow B w0 w (bP b (m.aM o { m.th o with le:=(m.th o).le-1})::R):=Ow.lY (m:=m.aM o { m.th o with le:=(m.th o).le-1}) hbs h;refine tF (n:=o) (x:=(m.th o).le-1) (c:=3) (by rw[dt];exact oT) h (by rw[dS oT,A U];rfl) ?_;refine dK (λe=>?_) (λe=>?_)
  .rw[A om]at hK
   exact lF hi hr h λw h=>hK w h
  .rw[Q om]at hK
   exact hK w h
theorem Ev{s:Sl}{ys:J X}{y:X}{c:X}{L:J aH}{k:Sl->Pw}[ae4:bY s L X gB ys][aeX:eD (af gB s ys) L R](h:Ow B w0 w (aa c [.q y]::L))(hbig:ys.length<=1000000000)
  (hk:∀s' w',s'.len=ys.length+1->Ow B w0 w' (af gB s' (ys++ [y])::R)->k s' w'):
  ∃s' w',aP qe [134,134] 134 s.v (.slice (S c.p) 1 1) w s' w'/\k s' w':=
 Ow.eR (E:=gB) (y:=y) underlying134 (show qe.info? 259=S aey from by kernel_rfl) (zv:= .pointer I) qa qa U qb h (by
  have e:aey.bytes=8:=qa
  rw[e];omega) hk
theorem vR{c:X}{K:qg qf->O->Pw}(h1:1<=c)(h8:c<=8)(h:Ow B w0 w R)(hK1:∀b w',Ow B w0 w' (bP b (fp c)::R)->K b.o 0 w'):Vv (c:O) K w:=by
 apply acj;intro k2 hk2;refine aw om ?_;rw[qk (show ¬(c:O)>8 by omega)];refine hk2 _ _ (aW U ?_);refine h.a λt w2 h=>?_;have h:Ow B w0 w2 (af gB z0 []::_):=Ow.cH h;have h:Ow B w0 w2 (af ko z0 []::_):=Ow.cH h;intro l9 hl9;have loop:∀(k j:X)(q:Sl)(bs:J X)(w:Y),j+k=c->bs.length=j->Ow B w0 w (aa t [bL z0,bL q]::af ko z0 []::af gB q bs::(Ot cB bs (Oq j [])++R))->l9 (j:O) w:=by
  intro k;induction k with
  |zero=>
   intro j q bs w hj hbs h;obtain rfl:j=c:=om
   apply hl9;refine aw om ?_;exact hK1 t w (Ow.lY (m:=fp j) (l:=z0) (q:=q) (bs:=bs) (by simp[fp];exact hbs) h)
  |succ k ih=>
   intro j q bs w hj hbs h;apply hl9;refine az om ?_;refine⟨_,U,q,h.aE U,h.a λd3 w3 h=>?_⟩;have h:Ow B w0 w3 (af wK z0 []::_):=Ow.cH h;have h:Ow B w0 w3 (cB d3 []::_):=Ow.rJ (s:=z0) ⟨qc,qc,qc⟩ h.cw;refine h.a λd4 w4 h=>?_;refine Ev (s:=q) (ys:=bs) (y:=d3) h om λq' w hq' h=>?_;refine⟨_,U,h.gh U U λw h=>?_⟩;rw[wI j om];refine ih (j+1) q' (bs++ [d3]) w om (by simp[hbs]) ?_;have ez:Ot cB (bs++ [d3]) (Oq (j+1) [])=Ot cB bs (Oq j [])++ [cB d3 []]:=by rw[Q4,Sd (by simp[hbs])];rfl
   rw[ez,O1];have h2:Ow B w0 w (aa t [bL z0,q'.v]::af ko z0 []::af gB q' (bs++ [d3])::cB d3 []::(Ot cB bs (Oq j [])++R)):=h.sub;exact h2.perm (((PD.symm.cons _).cons _).cons _)
 have h3:Ow B w0 w2 (aa t [bL z0,bL z0]::af ko z0 []::af gB z0 []::R):=h.lK;exact loop c 0 z0 [] w2 om U h3
end
end Th
theorem adl{a b K w}:Fr (Vr a b K w) (bif (a.len:O) !=(b.len:O)then K Z w else ∀c:O->Pw,(∀(d:O)(e:Y),(bif F (d<(a.len:O))then Dr e λf=>∃g,a.a=S g/\0<=d/\d<(a.len:O)/\av f (g.add (d.toNat*8)) 0 [.o,.o,.o,.o,.o,.u,.u,.o] λ(a g h i j k l m:O)=>∃n,b.a=S n/\0<=d/\d<(b.len:O)/\av f (n.add (d.toNat*8)) 0 [.o,.o,.o,.o,.o,.u,.u,.o] λ(b n o p q r s t:O)=>∃u,B8 qe .neq 201 (.tmp 20) (.tmp 24) (.agg #[.z a,.z g,.z h,.z i,.z j,.y k,.y l,.z m]) (.agg #[.z b,.z n,.z o,.z p,.z q,.y r,.y s,.z t]) u/\bif u then K Z f else c (qd.wrap (d+1)) f else K V e)->c d e)->c 0 w):=ai func22 .g4
theorem adm{a K w}:Fr (Uc a K w) (A2 w [] 201 λb c=>∀d:Sl->O->Pw,(∀(b:Sl)(c:O)(e:Y),(∃f,a=S f/\∃g,e.s f g/\bif F (c<(g.len:O))then ∀f:Sl->O->Pw,(∀(b:Sl)(e:O)(g:Y),(∃h,a=S h/\∃i,g.s h i/\∃h,i.a=S h/\0<=c/\c<(i.len:O)/\∃i,g.s (h.add (c.toNat*1)) i/\bif F (e<(i.len:O))then ∃h,a=S h/\∃i,g.s h i/\∃h,i.a=S h/\0<=c/\c<(i.len:O)/\∃i,g.s (h.add (c.toNat*1)) i/\∃h,i.a=S h/\0<=e/\e<(i.len:O)/\∃i,g.z (h.add (e.toNat*6)) i/\bif i !=0 then ∃h,a=S h/\∃a,g.s h a/\∃h,a.a=S h/\0<=c/\c<(a.len:O)/\∃a,g.s (h.add (c.toNat*1)) a/\∃h,a.a=S h/\0<=e/\e<(a.len:O)/\av g (h.add (e.toNat*6)) 0 [.o,.o,.o,.u,.u,.o] λ(a h i j k l:O)=>A2 g [.z c,.z e,.z a,.z h,.z i,.y j,.y k,.z l] 201 λa h=>∃i j,aP qe [78,78] 78 b.v (.slice (S a.p) 1 1) h i j/\f i (qd.wrap (e+1)) j else f b (qd.wrap (e+1)) g else d b (qd.wrap (c+1)) g)->f b e g)->f b 0 e else K b e)->d b c e)->d ⟨S b.p,0,0⟩ 0 c):=ai func24 (.v (.v (.y (.v (.x (.t (S [(3,.c .s),(4,.c (.i .i64))]) (.y (.v .w) .g24) .u))) .w)))
theorem adn{a b K w}:Fr (Uf a b K w) (∀c:W->Pw,(∀(d:W)(e:Y),(bif d then K 0 1 e else ∃c,a=S c/\∃d,e.s c d/\bif F ((d.len:O)>=64)then K 0 2 e else ∀c:Pw,(∀b:Y,(∃c,a=S c/\∃a,b.s c a/\K (qd.wrap ((a.len:O)-1)) 0 b)->c b)->(Dr e λd=>∃e,a=S e/\(∃f,d.s e f/\(RA b (λb d=>(∃(e:Sl)(g:Y),jH qe 202 (.z (qd.wrap b)) (.z (qd.wrap b)) d e g/\(A2 g [e.v] 202 λb d=>(∃e g,aP qe [121,121] 121 f.v (.slice (S b.p) 1 1) d e g/\∃b,a=S b/\(St g b e.v λa=>c a)/\G)/\G)/\G)/\G) d)/\G)/\(RA b (λb d=>(∃f,d.s e f/\(∃(e:Sl)(g:Y),jH qe 202 (.z (qd.wrap b)) (.z (qd.wrap b)) d e g/\(A2 g [e.v] 202 λb d=>(∃e g,aP qe [121,121] 121 f.v (.slice (S b.p) 1 1) d e g/\∃b,a=S b/\(St g b e.v λa=>c a)/\G)/\G)/\G)/\G)/\(∃(f:Sl)(g:Y),jH qe 202 (.z (qd.wrap b)) (.z (qd.wrap b)) d f g/\∃b,g.s e b/\(A2 g [f.v] 202 λd e=>(∃f g,aP qe [121,121] 121 b.v (.slice (S d.p) 1 1) e f g/\∃b,a=S b/\(St g b f.v λa=>c a)/\G)/\G)/\G)/\G) d)/\G))->c d e)->(bif F (b<1)then c V w else c (F (b>8)) w)):=ai func47 (.v (.y (.y (.r (S [(11,.c .b)]) .done) (.x .w)) (.y (.v (.x .w)) (.y (.r (S []) (.o 0 2046 (.o 1 992 (.o 2 992 (.o 3 992 (.o 5 16 (.f 4 (.e 6 (.o 7 0 .NS)) (.e 6 (.o 7 16 (.f 4 .NS (.e 8 (.o 4 512 .ME)))))))))))) .w))))
theorem ado{a b c d e f g h i K w}:Fr (Un a b c d e f g h i K w) (A2 w [.z b,.z c] 155 λb c=>A2 c [.z d,.z e,.z f,.y g,.y h,.z i] 157 λc d=>av d b.p 0 [.o,.o] λ(e f:O)=>SH a e f (λd e=>bif !d then K 50 e else av e c.p 0 [.o,.o,.o,.u,.u,.o] λ(d f g h i j:O)=>UA d f g h i j (λd e=>bif d !=0 then K d e else ∃d,e.z c.p d/\bif d==0 then K 1 e else Dr e λd=>∃e,a=S e/\∃f,d.s e f/\∃e,d.z b.p e/\∃g,f.a=S g/\0<=e/\e<(f.len:O)/\∃f,d.s (g.add (e.toNat*1)) f/\∃e,d.z (b.p.add 1) e/\∃g,f.a=S g/\0<=e/\e<(f.len:O)/\∃f,d.z (g.add (e.toNat*6)) f/\bif f !=0 then K 51 d else Dr d λd=>∃e,a=S e/\∃a,d.s e a/\∃e,d.z b.p e/\∃f,a.a=S f/\0<=e/\e<(a.len:O)/\∃a,d.s (f.add (e.toNat*1)) a/\∃e,d.z (b.p.add 1) e/\av d c.p 0 [.o,.o,.o,.u,.u,.o] λ(b c f g h i:O)=>∃j,a.a=S j/\0<=e/\e<(a.len:O)/\(aD d (j.add (e.toNat*6)) 0 [.z b,.z c,.z f,.y g,.y h,.z i] λa=>K 0 a)/\G) e) d):=ai func130 (.v (.y (.v (.x .w)) (.v (.y (.v (.x .w)) (.y (.v (.x .w)) (.y .g9 .g10))))))
theorem adp{a b c d e K w}:Fr (Wl a b c d e K w) (A2 w [.z b,.z c] 155 λb c=>A2 c [.z d,.z e] 155 λc d=>∀e:W->Pw,(∀(d:W)(f:Y),(bif d then K 50 f else Dr f λd=>∃e,a=S e/\∃f,d.s e f/\∃e,d.z b.p e/\∃g,f.a=S g/\0<=e/\e<(f.len:O)/\∃f,d.s (g.add (e.toNat*1)) f/\∃e,d.z (b.p.add 1) e/\∃g,f.a=S g/\0<=e/\e<(f.len:O)/\∃f,d.z (g.add (e.toNat*6)) f/\bif f==0 then K 52 d else Dr d λd=>∃e,a=S e/\∃f,d.s e f/\∃e,d.z c.p e/\∃g,f.a=S g/\0<=e/\e<(f.len:O)/\∃f,d.s (g.add (e.toNat*1)) f/\∃e,d.z (c.p.add 1) e/\∃g,f.a=S g/\0<=e/\e<(f.len:O)/\∃f,d.z (g.add (e.toNat*6)) f/\bif f !=0 then K 51 d else Dr d λd=>∃e,a=S e/\∃f,d.s e f/\∃e,d.z c.p e/\∃g,f.a=S g/\0<=e/\e<(f.len:O)/\∃f,d.s (g.add (e.toNat*1)) f/\∃e,d.z (c.p.add 1) e/\∃c,a=S c/\∃g,d.s c g/\∃c,d.z b.p c/\∃h,g.a=S h/\0<=c/\c<(g.len:O)/\∃g,d.s (h.add (c.toNat*1)) g/\∃c,d.z (b.p.add 1) c/\∃h,g.a=S h/\0<=c/\c<(g.len:O)/\av d (h.add (c.toNat*6)) 0 [.o,.o,.o,.u,.u,.o] λ(c g h i j k:O)=>∃l,f.a=S l/\0<=e/\e<(f.len:O)/\(aD d (l.add (e.toNat*6)) 0 [.z c,.z g,.z h,.y i,.y j,.z k] λc=>Dr c λc=>∃d,a=S d/\∃a,c.s d a/\∃d,c.z b.p d/\∃e,a.a=S e/\0<=d/\d<(a.len:O)/\∃a,c.s (e.add (d.toNat*1)) a/\∃d,c.z (b.p.add 1) d/\∃b,a.a=S b/\0<=d/\d<(a.len:O)/\(aD c (b.add (d.toNat*6)) 0 [.z 0,.z 0,.z 0,.y 0,.y 0,.z 0] λa=>K 0 a)/\G)/\G)->e d f)->(av d b.p 0 [.o,.o] λ(b f:O)=>SH a b f (λb d=>bif !b then e V d else av d c.p 0 [.o,.o] λ(b c:O)=>SH a b c (λa b=>e (!a) b) d) d)):=ai func173 (.v (.y (.y (.r (S [(16,.c .b)]) .done) (.x .w)) (.y .g9 (.y .g9 (.y (.z (.o 0 4194096 (.o 1 4194096 (.o 2 4194096 (.o 3 4194096 (.o 4 4194048 (.o 5 4194048 (.o 6 4194048 (.o 7 4194048 (.o 8 4193280 (.o 9 4193280 (.o 10 835584 (.o 11 835584 (.o 12 835584 (.o 13 835584 (.o 14 786432 (.o 15 786432 (.o 16 786432 (.o 17 786432 (.o 18 0 (.o 19 0 (.o 20 0 (.o 21 0 (.o 22 0 (.e 23 .done))))))))))))))))))))))))) .g10)))))
theorem adq{a b c K w}:Fr (SH a b c K w) (A2 w [.z b,.z c] 155 λb c=>Dr c λc=>∃d,c.z b.p d/\bif F (d>=0)then ∃d,c.z b.p d/\∃e,a=S e/\∃f,c.s e f/\bif F (d<(f.len:O))then ∃d,c.z (b.p.add 1) d/\bif F (d>=0)then ∃d,c.z (b.p.add 1) d/\∃e,a=S e/\∃a,c.s e a/\∃e,c.z b.p e/\∃b,a.a=S b/\0<=e/\e<(a.len:O)/\∃a,c.s (b.add (e.toNat*1)) a/\K (F (d<(a.len:O))) c else K Z c else K Z c else K Z c):=ai func235 (.v (.x (.z (.o 0 0 (.o 1 0 (.o 2 0 (.o 3 0 (.o 4 1984 (.o 5 1984 (.o 6 0 (.o 7 0 (.o 8 0 (.o 9 0 (.o 10 0 (.o 11 0 (.o 12 0 (.o 13 0 (.o 14 0 (.o 15 0 (.o 16 0 (.o 17 0 (.o 18 0 (.o 19 1071644672 (.o 20 1071644672 (.o 21 100663296 (.o 22 100663296 (.o 23 100663296 (.o 24 100663296 (.o 25 0 (.o 26 0 (.o 27 0 (.o 28 0 (.o 29 0 (.o 30 0 (.o 31 0 (.o 32 0 .done))))))))))))))))))))))))))))))))))))
theorem adr{a b c K w}:Fr (W4 a b c K w) (A2 w [.z b,.z c] 155 λb c=>A2 c [.z 0,.z 0,.z 0,.y 0,.y 0,.z 0] 157 λc d=>av d b.p 0 [.o,.o] λ(e f:O)=>SH a e f (λd e=>bif !d then aD e c.p 0 [.z 0,.z 0,.z 0,.y 0,.y 0,.z 0] λd=>av d c.p 0 [.o,.o,.o,.u,.u,.o] λ(f g h i j k:O)=>K f g h i j k 50 d else Dr e λd=>∃e,a=S e/\∃a,d.s e a/\∃e,d.z b.p e/\∃f,a.a=S f/\0<=e/\e<(a.len:O)/\∃a,d.s (f.add (e.toNat*1)) a/\∃e,d.z (b.p.add 1) e/\∃b,a.a=S b/\0<=e/\e<(a.len:O)/\av d (b.add (e.toNat*6)) 0 [.o,.o,.o,.u,.u,.o] λ(a b e f g h:O)=>(aD d c.p 0 [.z a,.z b,.z e,.y f,.y g,.z h] λa=>av a c.p 0 [.o,.o,.o,.u,.u,.o] λ(b c d e f g:O)=>K b c d e f g 0 a)/\G) d):=ai func275 (.v (.y (.v (.x .w)) (.x (.z (.o 0 816 (.o 1 816 (.o 2 816 (.o 3 816 (.o 4 768 (.o 5 768 (.o 6 768 (.o 7 768 .NP))))))))))))
theorem ads{a b c K w}:Fr (UL a b c K w) (A2 w [.z b,.z c] 155 λb c=>A2 c [.z 0,.z 0,.z 0,.y 0,.y 0,.z 0] 157 λc d=>av d b.p 0 [.o,.o] λ(e f:O)=>SH a e f (λd e=>bif !d then aD e c.p 0 [.z 0,.z 0,.z 0,.y 0,.y 0,.z 0] λd=>av d c.p 0 [.o,.o,.o,.u,.u,.o] λ(f g h i j k:O)=>K f g h i j k 50 d else Dr e λd=>∃e,a=S e/\∃f,d.s e f/\∃e,d.z b.p e/\∃g,f.a=S g/\0<=e/\e<(f.len:O)/\∃f,d.s (g.add (e.toNat*1)) f/\∃e,d.z (b.p.add 1) e/\∃g,f.a=S g/\0<=e/\e<(f.len:O)/\av d (g.add (e.toNat*6)) 0 [.o,.o,.o,.u,.u,.o] λ(e f g h i j:O)=>(A2 d [.z 0,.z 0,.z 0,.y 0,.y 0,.z 0] 157 λd k=>(aD k d.p 0 [.z e,.z f,.z g,.y h,.y i,.z j] λe=>∃f,e.z d.p f/\bif f==0 then aD e c.p 0 [.z 0,.z 0,.z 0,.y 0,.y 0,.z 0] λf=>av f c.p 0 [.o,.o,.o,.u,.u,.o] λ(g h i j k l:O)=>K g h i j k l 52 f else Dr e λe=>∃f,a=S f/\∃a,e.s f a/\∃f,e.z b.p f/\∃g,a.a=S g/\0<=f/\f<(a.len:O)/\∃a,e.s (g.add (f.toNat*1)) a/\∃f,e.z (b.p.add 1) f/\∃b,a.a=S b/\0<=f/\f<(a.len:O)/\(aD e (b.add (f.toNat*6)) 0 [.z 0,.z 0,.z 0,.y 0,.y 0,.z 0] λa=>av a d.p 0 [.o,.o,.o,.u,.u,.o] λ(b d e f g h:O)=>aD a c.p 0 [.z b,.z d,.z e,.y f,.y g,.z h] λa=>av a c.p 0 [.o,.o,.o,.u,.u,.o] λ(b c d e f g:O)=>K b c d e f g 0 a)/\G)/\G)/\G) d):=ai func282 (.v (.y (.v (.x .w)) (.y (.z (.o 0 4912 (.o 1 4912 (.o 2 4912 (.o 3 4912 (.o 4 4864 (.o 5 4864 (.o 6 4864 (.o 7 4864 (.o 8 4096 (.o 9 4096 (.o 10 4096 (.o 11 4096 (.e 12 (.e 13 .done))))))))))))))) (.y (.v (.x .w)) .g10))))
theorem adt{a b c K w}:Fr (VY a b c K w) (A2 w [.z b,.z c] 155 λb c=>av c b.p 0 [.o,.o] λ(d e:O)=>R0 a d e (λc d=>bif F (c>=0)then K 70 d else Dr d λc=>∃d,a=S d/\∃e,c.s d e/\av c b.p 0 [.o,.o] λ(b d:O)=>(TK a (e.len:O) b d 0 (λa=>K 0 a) c)/\G) c):=ai func131 (.v (.y (.v (.x .w)) (.y (.z (.o 0 126 (.o 1 64 (.o 2 64 (.o 3 64 .MG))))) .w)))
theorem adu{a b c d e K w}:Fr (Wm a b c d e K w) (A2 w [.z b,.z c] 155 λb c=>A2 c [.z d,.z e] 155 λc d=>av d b.p 0 [.o,.o] λ(b e:O)=>R0 a b e (λb d=>bif F (b<0)then K 71 d else av d c.p 0 [.o,.o] λ(e f:O)=>R0 a e f (λd e=>bif F (d>=0)then K 70 e else Dr e λd=>∃e,a=S e/\∃a,d.s e a/\av d c.p 0 [.o,.o] λ(c e:O)=>∃f,a.a=S f/\0<=b/\b<(a.len:O)/\(aD d (f.add (b.toNat*2)) 0 [.z c,.z e] λa=>K 0 a)/\G) d) d):=ai func174 (.v (.v (.y (.v (.x .w)) (.y (.v (.x .w)) (.y .Ny .w)))))
theorem adv{a b c K w}:Fr (Wn a b c K w) (A2 w [.z b,.z c] 155 λb c=>av c b.p 0 [.o,.o] λ(b d:O)=>R0 a b d (λb c=>bif F (b<0)then K z0 c else Dr c λc=>∃d,a=S d/\∃e,c.s d e/\(A2 c [] 155 λc f=>(TX a b (λa f=>f.s d e/\0<=a/\a<=(e.cap:O)/\0<=qd.wrap (b+1)/\qd.wrap (b+1)<=(a.toNat:O)/\(∃d g,aP qe [124,124] 124 (.slice (S c.p) 0 0) (.slice (eH e.a ((qd.wrap (b+1)).toNat) e.cap 2) (a.toNat-((qd.wrap (b+1)).toNat)) (e.cap-((qd.wrap (b+1)).toNat))) f d g/\K d g)/\G) f)/\G)/\(TX a b (λa c=>c.s d e/\0<=a/\a<=(e.cap:O)/\0<=qd.wrap (b+1)/\qd.wrap (b+1)<=(a.toNat:O)/\(A2 c [] 155 λc d=>(∃f g,aP qe [124,124] 124 (.slice (S c.p) 0 0) (.slice (eH e.a ((qd.wrap (b+1)).toNat) e.cap 2) (a.toNat-((qd.wrap (b+1)).toNat)) (e.cap-((qd.wrap (b+1)).toNat))) d f g/\K f g)/\G)/\G) c)/\G) c):=ai func176 (.v (.v (.y (.v (.x .w)) (.x (.z (.o 1 993 (.o 2 993 (.o 3 993 (.o 5 913 (.o 6 913 (.o 7 273 (.o 8 17 (.hold 4 513 6143 (.f 0 (.e 9 .LF) (.e 9 (.o 10 1 (.e 0 (.e 11 (.o 12 0 .done)))))))))))))))))))
theorem adw{a b c K w}:Fr (R0 a b c K w) (A2 w [.z b,.z c] 155 λb c=>∀d:O->Pw,(∀(c:O)(e:Y),(∃f,a=S f/\∃g,e.s f g/\bif F (c<(g.len:O))then Dr e λf=>∃g,a=S g/\∃a,f.s g a/\∃g,a.a=S g/\0<=c/\c<(a.len:O)/\av f (g.add (c.toNat*2)) 0 [.o,.o] λ(a g:O)=>av f b.p 0 [.o,.o] λ(b h:O)=>∃i,B8 qe .eql 155 (.tmp 21) (.tmp 22) (.agg #[.z a,.z g]) (.agg #[.z b,.z h]) i/\bif i then K c f else d (qd.wrap (c+1)) f else K (-1) e)->d c e)->d 0 c):=ai func237 (.v (.y (.v (.x (.t (S [(5,.c (.i .i64))]) (.y (.v .w) (.x (.x (.y (.z (.o 0 144 (.o 1 144 (.o 2 144 (.o 3 144 .NR))))) (.x .w))))) .u))) .w))
theorem adx{a b c d e K w}:Fr (TK a b c d e K w) (A2 w [.z c,.z d] 155 λc d=>A2 d [] 155 λd f=>A2 f [] 3 λf g=>∀h:Sl->Sl->O->Pw,(∀(d f:Sl)(g:O)(i:Y),(∃j,a=S j/\∃k,i.s j k/\bif F (g<=(k.len:O))then ∀j:Sl->Sl->Pw,(∀(b c:Sl)(d:Y),(∃e,a=S e/\∃f,d.s e f/\bif F (g<(f.len:O))then ∃e,a=S e/\∃f,d.s e f/\∃e,f.a=S e/\0<=g/\g<(f.len:O)/\av d (e.add (g.toNat*2)) 0 [.o,.o] λ(e f:O)=>A2 d [.z e,.z f] 155 λe f=>∃i j,aP qe [124,124] 124 b.v (.slice (S e.p) 1 1) f i j/\∃e,a=S e/\∃a,j.s (e.add 1) a/\∃e,a.a=S e/\0<=g/\g<(a.len:O)/\∃a,j.z (e.add (g.toNat*1)) a/\A2 j [.z a] 3 λa e=>∃f j,aP qe [22,22] 22 c.v (.slice (S a.p) 1 1) e f j/\h i f (qd.wrap (g+1)) j else h b c (qd.wrap (g+1)) d)->j b c d)->(bif g==b then av i c.p 0 [.o,.o] λ(a b:O)=>A2 i [.z a,.z b] 155 λa b=>∃c g,aP qe [124,124] 124 d.v (.slice (S a.p) 1 1) b c g/\A2 g [.z e] 3 λa b=>∃e g,aP qe [22,22] 22 f.v (.slice (S a.p) 1 1) b e g/\j c e g else j d f i)else ∃b,a=S b/\St i b d.v λb=>∃c,a=S c/\St b (c.add 1) f.v λa=>K a)->h d f g i)->h ⟨S d.p,0,0⟩ ⟨S f.p,0,0⟩ 0 g):=ai func238 (.v (.v (.y (.v (.x (.t (S [(8,.c .s),(9,.c .s),(10,.c (.i .i64))]) (.y (.v .w) (.x (.x (.y (.v (.t (S [(8,.c .s),(9,.c .s)]) .w .u)) (.v (.x .w)))))) .u))) .w)))
theorem ady{a b c d e K w}:Fr (W6 a b c d e K w) (A2 w [.z b,.z c] 155 λb c=>A2 c [.z d,.z e] 155 λc d=>av d b.p 0 [.o,.o] λ(b e:O)=>R0 a b e (λb d=>bif F (b<0)then K 71 d else av d c.p 0 [.o,.o] λ(e f:O)=>R0 a e f (λd e=>bif F (d>=0)then K 70 e else Dr e λd=>av d c.p 0 [.o,.o] λ(c e:O)=>∃f,a=S f/\∃g,d.s (f.add 1) g/\∃f,g.a=S f/\0<=b/\b<(g.len:O)/\∃g,d.z (f.add (b.toNat*1)) g/\(TK a (qd.wrap (b+1)) c e (qd.wrap (g+1)) (λa=>K 0 a) d)/\G) d) d):=ai func280 (.v (.v (.y (.v (.x .w)) (.y (.v (.x .w)) (.y (.z (.o 0 4094 (.o 1 4088 (.o 2 4088 (.o 3 4080 (.o 4 256 (.o 5 256 (.o 6 256 .NM)))))))) .w)))))
theorem adz{a b c K w}:Fr (W7 a b c K w) (A2 w [.z b,.z c] 155 λb c=>av c b.p 0 [.o,.o] λ(b d:O)=>R0 a b d (λb c=>bif F (b<0)then K 71 c else TX a b (λc d=>A2 d [] 155 λd e=>A2 e [] 3 λe f=>∀g:Sl->Sl->O->Pw,(∀(d e:Sl)(f:O)(h:Y),(∃i,a=S i/\∃j,h.s i j/\bif F (f<(j.len:O))then bif f==b then g d e (qd.wrap (f+1)) h else ∃i,a=S i/\∃j,h.s (i.add 1) j/\∃i,j.a=S i/\0<=f/\f<(j.len:O)/\∃j,h.z (i.add (f.toNat*1)) j/\∀i:W->Pw,(∀(b:W)(c:Y),(∀h:O->Pw,(∀(b:O)(c:Y),(∃h,a=S h/\∃a,c.s h a/\∃h,a.a=S h/\0<=f/\f<(a.len:O)/\av c (h.add (f.toNat*2)) 0 [.o,.o] λ(a h:O)=>A2 c [.z a,.z h] 155 λa c=>∃h i,aP qe [124,124] 124 d.v (.slice (S a.p) 1 1) c h i/\A2 i [.z b] 3 λa b=>∃c d,aP qe [22,22] 22 e.v (.slice (S a.p) 1 1) b c d/\g h c (qd.wrap (f+1)) d)->h b c)->(bif b then h (qd.wrap (j-1)) c else h j c))->i b c)->(bif F (f>b)then i (F (f<c)) h else i Z h)else ∃b,a=S b/\St h b d.v λb=>∃c,a=S c/\St b (c.add 1) e.v λa=>K 0 a)->g d e f h)->g ⟨S d.p,0,0⟩ ⟨S e.p,0,0⟩ 0 f) c) c):=ai func281 (.v (.v (.y (.v (.x .w)) (.v (.y (.v (.x (.t (S [(7,.c .s),(8,.c .s),(9,.c (.i .i64))]) (.y (.v .w) (.x (.x (.y (.v .w) (.v (.y (.y (.r (S [(47,.c .b)]) .done) (.t (S [(10,.c (.i .i64))]) .u .u)) .w)))))) .u))) (.v (.v .w)))))))
theorem adA{a b K w}:Fr (TX a b K w) (∀c:O->Pw,(∀(d:O)(e:Y),(∃f,a=S f/\∃g,e.s f g/\bif F (d<(g.len:O))then Dr e λf=>∃g,a=S g/\∃h,f.s (g.add 1) h/\∃g,h.a=S g/\0<=d/\d<(h.len:O)/\∃h,f.z (g.add (d.toNat*1)) h/\∃g,a=S g/\∃i,f.s (g.add 1) i/\∃g,i.a=S g/\0<=b/\b<(i.len:O)/\∃i,f.z (g.add (b.toNat*1)) i/\bif F (h<=i)then K d f else c (qd.wrap (d+1)) f else ∃b,a=S b/\∃a,e.s b a/\K (a.len:O) e)->c d e)->c (qd.wrap (b+1)) w):=ai func287 (.v (.y (.v (.x (.t (S [(5,.c (.i .i64))]) (.y (.v .w) (.x (.x (.y (.z (.o 0 16272 (.o 1 16272 (.o 2 16272 (.o 3 16272 (.o 4 16256 (.o 5 16256 (.o 6 16256 (.o 7 2048 (.o 8 2048 (.o 9 2048 (.o 10 2048 (.o 11 0 (.o 12 0 .LH)))))))))))))) (.x .w))))) .u))) .w))
namespace Sl
section
variable{B:X}{w0 w:Y}{R L:J aH}{b:X}{bits:J O}{H:Hs}
def rowOf(H:Hs)(n:X)(z:O):J cO:=if z= -1 then []else(OC (2^z.toNat)).map λk:X=>(H ((n:O),(k:O))).getD aq
def rowsOf(bits:J O)(H:Hs):J (J cO):=bits.mapIdx λi z=>rowOf H i z
def bm(b:X)(bits:J O)(H:Hs):aH:=pa λx:Sl × J Sl=>bo [dJ (sq bits H),aa b [bL x.1],af pU x.1 x.2,cU nj x.2 (rowsOf bits H)]
theorem DM{w:Y}{a:qf}{x:cO}{f:O->O->O->O->O->O->Prop}(g:∀c v,(nj.enc x)[c]?=S v->w.cell? (a.add c)=S v)(hf:f x.kind x.obj x.ak x.ax x.guard x.bits):
  av w a 0 [.o,.o,.o,.u,.u,.o] f:=⟨_,g 0 _ U,_,g 1 _ U,_,g 2 _ U,_,g 3 _ U,_,g 4 _ U,_,g 5 _ U,hf⟩
theorem iS(bits:J O)(H:Hs):(rowsOf bits H).length=bits.length:=by unfold rowsOf;simp
theorem dy{bits:J O}{H:Hs}{n:X}{z:O}(h:bits[n]?=S z):(rowsOf bits H)[n]?=S (rowOf H n z):=by unfold rowsOf;rw[PU,h];rfl
theorem gv{H:Hs}{n:X}{z:O}(h:z≠ -1):(rowOf H n z).length=2^z.toNat:=by unfold rowOf;rw[Q h];simp
theorem gu{H:Hs}{n k:X}{z:O}(h:z≠ -1)(hk:k<2^z.toNat):(rowOf H n z)[k]?=S ((H ((n:O),(k:O))).getD aq):=by unfold rowOf;rw[Q h,OX,PH hk];rfl
theorem gF{bits:J O}{s:Slot}(h:aR bits s=V):∃(n k:X)(z:O),s=((n:O),(k:O))/\bits[n]?=S z/\z≠ -1/\k<2^z.toNat:=by
 unfold aR at h;cases hz:eC bits s.1 with
 |none=>rw[hz]at h;cases h
 |some z=>
  rw[hz]at h;obtain⟨h1,h2,h3⟩:=kn hz;simp only[qA]at h;rw[show((2:O)^z.toNat)=((2^z.toNat:X):O)from by simp]at h;refine⟨s.1.toNat,s.2.toNat,z,?_,h2,h3,om⟩;rw[Qe h1,Qe h.1]
theorem FN{bits:J O}{n k:X}{z:O}(h:bits[n]?=S z)(hz:z≠ -1):aR bits ((n:O),(k:O))=F (k<2^z.toNat):=by unfold aR eC;simp only[Oo,h,Q hz];rw[Q om];simp only[qL];rw[show((2:O)^z.toNat)=((2^z.toNat:X):O)from by simp];omega
theorem rS{bits:J O}{H:Hs}{n k:X}{z:O}(h:bits[n]?=S z)(hz:z≠ -1)(hk:k<2^z.toNat)(o:qg cO):rowsOf bits (cz H ((n:O),(k:O)) o)=(rowsOf bits H).set n ((rowOf H n z).set k (o.getD aq)):=by
 apply O2;intro i;rw[Pb];unfold rowsOf;rw[PU,PU];by_cases e:n=i
 .subst e
  have hl:=(Om.1 h).1;rw[A U,A (by simpa using hl),h];simp only[PC,Option.some.injEq];apply O2;intro j;rw[Pb];unfold rowOf;rw[Q hz,Q hz,OX,OX];by_cases e2:k=j
  .subst e2
   rw[A U,A (by simpa using hk),PH hk];simp[cz]
  .rw[Q e2]
   have h0:cz H ((n:O),(k:O)) o ((n:O),((j:X):O))=H ((n:O),((j:X):O)):=by unfold cz;rw[Q];intro hc;simp only[Prod.mk.injEq]at hc;omega
   rcases R2 j (2^z.toNat)with hj|hj
   .rw[PH hj];simp only[PC];rw[h0]
   .rw[OQ (by simpa using hj)];rfl
 .rw[Q e]
  cases hb:bits[i]? with
  |none=>rfl
  |some y=>
   simp only[PC,Option.some.injEq];unfold rowOf;split
   .rfl
   .apply List.map_congr_left
    intro j _;unfold cz;rw[Q];intro hc;simp only[Prod.mk.injEq]at hc;omega
theorem _root_.Go.Vc.Ow.mf(h:Ow B w0 w (bm b bits H::R)):∃s ss,sq bits H/\ss.length=bits.length/\Ow B w0 w (cU nj ss (rowsOf bits H)::aa b [bL s]::af pU s ss::R):=by obtain⟨x,h⟩:=h.ex;obtain⟨h1,h⟩:=Ow.pure h.star;have h2:Ow B w0 w (cU nj x.2 (rowsOf bits H)::aa b [bL x.1]::af pU x.1 x.2::R):=h.lK;exact⟨x.1,x.2,h1,by rw[h2.Bz.1,iS],h2⟩
theorem _root_.Go.Vc.Ow.ed{s:Sl}{ss:J Sl}(h1:sq bits H)(h:Ow B w0 w (cU nj ss (rowsOf bits H)::aa b [bL s]::af pU s ss::R)):Ow B w0 w (bm b bits H::R):=
 Ow.eP (s,ss) (Ow.br (Ow.cZ h1 (h.sub:Ow B w0 w (aa b [bL s]::af pU s ss::cU nj ss (rowsOf bits H)::R))))
theorem _root_.Go.Vc.Ow.L3(h:Ow B w0 w (bm b bits H::R)):sq bits H:=by obtain⟨_,_,h,_⟩:=h.mf;exact h
theorem gp{s:Slot}{K:W->Pw}(h:Ow B w0 w (bm b bits H::R))(hK:∀w',Ow B w0 w' (bm b bits H::R)->K (aR bits s) w'):SH b.o s.1 s.2 K w:=by
 apply adq;obtain⟨sl,ss,hk,hsl,h⟩:=h.mf;refine h.al λw1 h=>?_;refine h.dr λw h=>?_;have hlen:=h.aL sl;have fin:Ow B w0 w (bm b bits H::R):=Ow.ed (s:=sl) (ss:=ss) hk h.sub;have hF:aR bits s=Z->K Z w:=λe=>by rw[<-e];exact hK _ fin
 (refine h.l1 U ?_)
 refine bg (λe1=>?_) (λe1=>hF (by unfold aR eC;rw[A om]));repeat first|refine h.l1 U ?_|refine eX ?_
 refine bg (λe2=>?_) (λe2=>hF (by unfold aR eC;rw[Q om,OQ om]));obtain⟨n,hn⟩:=Ox (show 0<=s.1 by omega);have hnl:n<bits.length:=om
 have hb:bits[n]?=S bits[n]:=gE hnl;obtain⟨sn,hss⟩:∃sn,ss[n]?=S sn:=⟨_,gE om⟩
 generalize bits[n]=z at hb;have hrl:=(h.drop.sub:Ow B w0 w (cU nj ss (rowsOf bits H)::aa b [bL sl]::af pU sl ss::R)).gv hss (dy hb)
 (refine h.l1 U ?_)
 refine bg (λe3=>?_) (λe3=>?_)
 ·(repeat first|refine h.l1 U ?_|refine eX ?_)
  refine h.bX hn hss λa ha hc0 hc=>?_;refine⟨_,hc0 _ U,?_⟩;obtain⟨k,hk2⟩:=Ox (show 0<=s.2 by omega);have hs:s=((n:O),(k:O)):=by rw[<-hn,<-hk2]
  have ht:aR bits s=F (s.2<(sn.len:O)):=by
   rw[hs,hrl];by_cases hz:z= -1
   .have hg:aR bits ((n:O),(k:O))=false:=by unfold aR eC;simp only[Oo,hb,A hz];rw[Q om]
    rw[hg];unfold rowOf;rw[A hz];simp
   .rw[FN hb hz,gv hz,qL];exact Int.ofNat_lt.symm
  rw[<-ht];exact hK _ fin
 .exact hF (by
   have hs2:s.2<0:=om
   unfold aR;split
   .rw[qk];omega
   .rfl)
theorem vP{s:Slot}{K:O->O->O->O->O->O->O->Pw}(h:Ow B w0 w (bm b bits H::R))
  (hK:∀w' c e,(c,e)=yX bits H s->fI c->Ow B w0 w' (bm b bits H::R)->K c.kind c.obj c.ak c.ax c.guard c.bits e w'):W4 b.o s.1 s.2 K w:=by
 apply adr;have hk:=h.L3;repeat first|refine h.al λw h=>?_|refine h.aN U ?_
 refine gp (s:=s) h.lK λw h=>?_;unfold yX at hK;refine JW (λe=>?_) (λe=>?_)
 ·(repeat first|refine h.aN U ?_|refine h.ay U U λw h=>?_)
  exact hK _ aq 50 (by rw[A e]) ⟨qb,qb,qb,qb⟩ h.sub
 .rw[Q (by rw[e];decide)]at hK
  obtain⟨n,k,z,rfl,hb,hz,hkl⟩:=gF e;obtain⟨sl,ss,_,hsl,h⟩:=h.mf;obtain⟨sn,hss⟩:∃sn,ss[n]?=S sn:=⟨_,gE (by have:=(Om.1 hb).1;omega)⟩
  repeat first|refine h.dr λw h=>?_|refine h.l1 U ?_|refine eX ?_
  refine h.bX U hss λa ha hc0 hc=>?_;refine⟨_,hc0 _ U,?_⟩
  (refine h.l1 U ?_)
  refine h.um hss (dy hb) U (gu hz hkl) λa2 ha2 hd0 hd=>?_;have hcR:=hk.Kk ((n:O),(k:O));generalize hcc:(H ((n:O),(k:O))).getD aq=c at hd hd0 hcR hK;refine DM hd ?_;refine _root_.Go.Vc.a2 ?_;repeat first|refine h.aN U ?_|refine h.ay U U λw h=>?_
  exact hK _ c 0 U hcR (Ow.ed (s:=sl) (ss:=ss) hk h.sub)
theorem Fx{bits:J O}{H:Hs}(hk:sq bits H){z:O}(hz:z≠ -1):rowsOf (bits++ [z]) H=rowsOf bits H++ [Oq (2^z.toNat) aq]:=by
 unfold rowsOf;rw[List.mapIdx_concat];congr 2;unfold rowOf;rw[Q hz];apply O2;intro k;rw[OX];rcases R2 k (2^z.toNat)with hj|hj
 .rw[PH hj,Qz,A hj]
  simp only[PC,Option.some.injEq];cases hs:H ((bits.length:O),(k:O))with
  |none=>rfl
  |some c=>
   have:=(hk.held _ _ hs).1;unfold aR eC at this;rw[Q (by simp only;omega)]at this;simp only[Oo,OQ (On _)]at this;cases this
 .rw[OQ (by simpa using hj),OQ (by simpa using hj)];rfl
theorem sx{w:Y}{L R':J aH}{s:Sl}{xs:J Sl}{y:Sl}{c:X}{k:Sl->Pw}[ae4:bY s L Sl pU xs][aeX:eD (af pU s xs) L R'](h:Ow B w0 w (aa c [y.v]::L))(hbig:xs.length<=1000000)
  (hk:∀s' w',s'.len=xs.length+1->Ow B w0 w' (af pU s' (xs++ [y])::R')->k s' w'):
  ∃s' w',aP qe [121,121] 121 s.v (.slice (S c.p) 1 1) w s' w'/\k s' w':=
 Ow.eR (E:=pU) (y:=y) (R:=R') underlying121 (show qe.info? 202=S aez from by kernel_rfl) (zv:= .slice I 0 0) qa qa U qb h (by
  have e:aez.bytes=24:=qa
  rw[e];omega) hk
theorem Jf{w:Y}{L:J aH}{n:O}{k:Sl->Pw}(h:Ow B w0 w L)(h0:0<=n)(hn:n<=1000000)(hk:∀s' w',s'.len=n.toNat->Ow B w0 w' (af nj s' (Oq n.toNat aq)::L)->k s' w'):
  ∃s' w',jH qe 202 (.z n) (.z n) w s' w'/\k s' w':=
 Ow.rH (E:=nj) (z0:=aq) underlying202 (show qe.info? 157=S aeA from by kernel_rfl) (zv:=jN aq) qa qa U h h0 (by
  have e:aeA.bytes=48:=qa
  rw[e];omega) om hk
theorem mA{z:O}{K:O->O->Pw}(h:Ow B w0 w (bm b bits H::R))(hK:∀w',Ow B w0 w' (bm b (eO bits z).2.2 H::R)->K (eO bits z).1 (eO bits z).2.1 w'):Uf b.o z K w:=by
 apply adn;intro k3 hk3;have h3:(z<1\/8<z)->k3 V w:=λe=>by
  apply hk3;have e2:eO bits z=(0,1,bits):=by unfold eO;rw[A e]
  rw[e2]at hK;exact aU U (hK _ h)
 refine bg (λe=>h3 (.inl e)) (λe1=>?_);by_cases e2:8<z
 .rw[qm om];exact h3 (.inr e2)
 rw[qk om];apply hk3;refine aW U ?_;obtain⟨sl,ss,hk,hsl,h⟩:=h.mf;have hlen:=h.aL sl;have hfew:=hk.fh;repeat first|refine h.l1 U ?_|refine eX ?_
 refine bg (λe3=>?_) (λe3=>?_)
 .have e4:eO bits z=(0,2,bits):=by unfold eO;rw[Q om,A om]
  rw[e4]at hK;exact hK _ (Ow.ed (s:=sl) (ss:=ss) hk h.sub)
 have e4:eO bits z=((bits.length:O),0,bits++ [z]):=by unfold eO;rw[Q om,Q om]
 rw[e4]at hK;obtain⟨m,rfl⟩:=Ox (show 0<=z by omega);have hle:2^m<=2^8:=Pm om om;intro k8 hk8;have fin:∀(w:Y)(s' sn:Sl),s'.len=ss.length+1->Ow B w0 w (af pU s' (ss++ [sn])::af nj sn (Oq (2^m) aq)::cU nj ss (rowsOf bits H)::aa b [bL s']::R)->k8 w:=by
  intro w s' sn hs' h;apply hk8;repeat first|refine h.l1 U ?_|refine eX ?_
  rw[show qd.wrap ((s'.len:O)-1)=(bits.length:O)from by rw[wr om om];omega];have h2:Ow B w0 w (cU nj (ss++ [sn]) (rowsOf bits H++ [Oq (2^m) aq])::af pU s' (ss++ [sn])::aa b [bL s']::R):=Ow.D2 h.sub;have h3:=Fx (z:=(m:O)) hk om;rw[Oo]at h3;rw[<-h3]at h2;exact hK _ (Ow.ed (s:=s') (ss:=ss++ [sn]) (hk.make om om om) h2.sub)
 have mk:∀(w:Y)(k:Sl->Pw),Ow B w0 w (cU nj ss (rowsOf bits H)::aa b [bL sl]::af pU sl ss::R)->
   (∀s' w',Ow B w0 w' (af nj s' (Oq (2^m) aq)::cU nj ss (rowsOf bits H)::aa b [bL sl]::af pU sl ss::R)->k s' w')->
   ∃s' w',jH qe 202 (.z (qd.wrap ((2^m:X):O))) (.z (qd.wrap ((2^m:X):O))) w s' w'/\k s' w':=λw k h hk=>by
  rw[wr (Int.le_trans qb (Qp _)) om];refine Jf h (Qp _) om λs' w' hs' h'=>?_;rw[Oo]at h';exact hk s' w' h'
 repeat first|refine h.dr λw h=>?_|refine eX ?_
 refine⟨?_,?_,trivial⟩
 ·(repeat first|refine h.l1 U ?_|refine _root_.Go.Vc.a2 ?_)
  refine cJ om ?_
  (refine _root_.Go.Vc.a2 ?_)
  refine mk _ _ h λsn w h=>?_;repeat first|refine h.al λw h=>?_|refine _root_.Go.Vc.a2 ?_
  refine sx h om λs' w hs' h=>?_;repeat first|refine eX ?_|refine _root_.Go.Vc.a2 ?_|refine h.jx U U λw h=>?_
  exact fin _ s' sn hs' h.sub
 .refine cJ om ?_
  refine⟨?_,?_,trivial⟩
  ·(repeat first|refine h.l1 U ?_|refine _root_.Go.Vc.a2 ?_)
   refine mk _ _ h λsn w h=>?_;repeat first|refine h.al λw h=>?_|refine _root_.Go.Vc.a2 ?_
   refine sx h om λs' w hs' h=>?_;repeat first|refine eX ?_|refine _root_.Go.Vc.a2 ?_|refine h.jx U U λw h=>?_
   exact fin _ s' sn hs' h.sub
  .refine mk _ _ h λsn w h=>?_
   repeat first|refine h.al λw h=>?_|refine h.l1 U ?_|refine _root_.Go.Vc.a2 ?_
   refine sx h om λs' w hs' h=>?_;repeat first|refine eX ?_|refine _root_.Go.Vc.a2 ?_|refine h.jx U U λw h=>?_
   exact fin _ s' sn hs' h.sub
theorem nQ{s:Slot}{c:cO}{K:O->Pw}(hc:fI c)(h:Ow B w0 w (bm b bits H::R))(hK:∀w',Ow B w0 w' (bm b bits (jl bits H s c).2::R)->K (jl bits H s c).1 w'):
  Un b.o s.1 s.2 c.kind c.obj c.ak c.ax c.guard c.bits K w:=by
 apply ado;repeat first|refine h.al λw h=>?_|refine h.aN U ?_
 refine gp (s:=s) h.lK λw h=>?_;refine JW (λe=>?_) (λe=>?_)
 .have ep:jl bits H s c=(50,H):=by unfold jl;rw[A e]
  rw[ep]at hK;exact hK _ h.sub
 have ht':¬aR bits s=false:=by rw[e];decide
 repeat refine h.aN U ?_
 refine lD h hc λw h=>?_;refine oO (λe1=>?_) (λe1=>?_)
 .have ep:jl bits H s c=(bT c,H):=by unfold jl;rw[Q ht',A e1]
  rw[ep]at hK;exact hK _ h.sub
 (refine h.l1 U ?_)
 refine dK (λe2=>?_) (λe2=>?_)
 .have ep:jl bits H s c=(1,H):=by unfold jl;rw[Q ht',Q om,A e2]
  rw[ep]at hK;exact hK _ h.sub
 have hth:=e;obtain⟨n,k,z,rfl,hb,hz,hkl⟩:=gF e;obtain⟨sl,ss,hk,hsl,h⟩:=h.mf;obtain⟨sn,hss⟩:∃sn,ss[n]?=S sn:=⟨_,gE (by have:=(Om.1 hb).1;omega)⟩
 repeat first|refine h.dr λw h=>?_|refine h.l1 U ?_|refine eX ?_
 refine h.bX U hss λa ha hc0 hc1=>?_;refine⟨_,hc0 _ U,?_⟩
 (refine h.l1 U ?_)
 refine h.um hss (dy hb) U (gu hz hkl) λa2 ha2 hd0 hd=>?_;refine⟨((H ((n:O),(k:O))).getD aq).kind,hd0 _ U,?_⟩;cases hs:H ((n:O),(k:O))with
 |some c'=>
  have ep:jl bits H ((n:O),(k:O)) c=(51,H):=by unfold jl;rw[Q ht',Q om,Q e2,A (by rw[hs];rfl)]
  rw[ep]at hK;refine iy (hk.held _ _ hs).2.2.1 ?_;exact hK _ (Ow.ed (s:=sl) (ss:=ss) hk h.sub)
 |none=>
  have ep:jl bits H ((n:O),(k:O)) c=(0,cz H ((n:O),(k:O)) (S c)):=by unfold jl;rw[Q ht',Q om,Q e2,Q (by rw[hs];decide)]
  rw[ep]at hK;refine fG U ?_;repeat first|refine h.dr λw h=>?_|refine h.l1 U ?_|refine eX ?_
  refine h.bX U hss λa ha hc0 hc1=>?_;refine⟨_,hc0 _ U,?_⟩;repeat first|refine h.aN U ?_|refine h.l1 U ?_
  refine h.um hss (dy hb) U (gu hz hkl) λa2 ha2 hd0 hd=>?_
  (refine _root_.Go.Vc.a2 ?_)
  refine h.Jv c hss (dy hb) U (by rw[gv hz];exact hkl) ha2 λw h=>?_;rw[show(rowsOf bits H).set n ((rowOf H n z).set k c)=rowsOf bits (cz H ((n:O),(k:O)) (S c))from(rS hb hz hkl (S c)).symm]at h;exact hK _ (Ow.ed (s:=sl) (ss:=ss) (hk.put hth om e2 hc) h.sub)
end
end Sl
end Go.Vc
