/- What the row rests on: the declarations that it needs, out of my texts (part 8). -/
import Derived.Test.YtfgikfglabdeoaaGreatZo7
open Bool renaming false->Z,true->V
open Decidable renaming decide->F
open Go renaming Addr->qf,Operand->qB,TypeId->qh,TypeInfo->qJ,Value->N,World->Y,zeroValue->qE
open Go.IntKind renaming i64->qd,u64->qq
open Go.Proofs.Tryz renaming prog->qe,t197->aeS,t289->aeg,t3->qI,t320->aeT,t338->aeR,t354->aeQ,t357->aeP,t36->aeh,underlying22->qH,underlying354->aeo,underlying40->ad8
open Option renaming none->I,some->S
open _root_ renaming Bool->W,False->qj,Int->O,List->J,Nat->X,Option->qg,True->G,absurd->qi,beq_iff_eq->qG,congrArg->qw,decide_eq_decide->qL,decide_eq_false->qk,decide_eq_true->qm,decide_eq_true_eq->qA,if_false->qx,if_neg->Q,if_pos->A,if_true->qz,or_false->qC,rfl->U
open Go.Proofs.Tryz
open Bool renaming and_eq_true->OH,and_true->Q7,eq_iff_iff->Qm,false_eq_true->OF,false_or->Q8,not_eq_true'->Q1,or_eq_true->PE,true_and->Qa
open Int renaming eq_ofNat_of_zero_le->Ox,le_refl->RK,toNat_natCast->Oo,toNat_of_nonneg->Qe
open List renaming any_eq_false->Qf,any_eq_true->PS,append_assoc->O1,append_nil->OD,drop_drop->Pz,drop_eq_getElem_cons->Pt,drop_of_length_le->P2,drop_zero->P6,eq_of_mem_replicate->QP,ext_getElem?->O2,filter_append->O9,filter_eq_self->Py,find?_eq_none->Sj,find?_eq_some_iff_getElem->RW,findIdx?_eq_none_iff->Pa,findIdx?_eq_some_iff_getElem->OT,foldl_append->RI,getElem?_append_left->Oy,getElem?_append_right->OA,getElem?_eq_none->OQ,getElem?_eq_some_iff->Om,getElem?_map->OX,getElem?_mapIdx->PU,getElem?_set_ne->Qv,getElem?_set_self->O0,getElem?_zipWith->QI,getElem_mem->Ph,length->PI,length_append->Ov,length_cons->OB,length_filter_le->OR,length_map->O3,length_mapIdx->S1,length_set->Pe,length_take->OO,length_zipWith->Ry,map_append->OS,map_cons->OZ,map_nil->Qb,mem_append->Pn,mem_append_left->Qw,mem_cons->Oz,mem_cons_of_mem->Pq,mem_cons_self->Po,mem_filter->OE,mem_iff_getElem?->O5,mem_map->O4,mem_of_getElem?->OV,mem_of_mem_take->RY,mem_range->PQ,mem_reverse->Rm,mem_singleton->OY,nil_append->PF,nodup_append->PZ,nodup_nil->Sg,pairwise_map->QS,perm_middle->PD,range->OC,replicate->Oq,replicate_succ'->Q4,set_append_right->Qg,set_cons_succ->OI,set_cons_zero->Pj,set_getElem_self->Qn,set_set->QC,take_add_one->OG,take_append_drop->O8,take_of_length_le->Ou,take_zero->PT,zipWith->Ot
open Nat renaming le_refl->On,le_succ->P3,le_trans->ON,min_eq_left->Pv,pow_le_pow_right->Pm,sub_self->P0,zero_add->OJ,zero_le->Qi
open Option renaming getD_some->PM,map->SO
set_option maxRecDepth 100000
set_option maxHeartbeats 4000000
set_option linter.all false
namespace Go.Vc
open Go.Proofs
namespace Mc
section
variable{B:X}{w0 w:Y}{R L:J aH}{s:Sl}{xs:J dP}
theorem vo{w:Y}{a:qf}{x:dP}{f:O->O->O->O->Prop}(g:∀c v,(aA.enc x)[c]?=S v->w.cell? (a.add c)=S v)(hf:f x.space x.bC x.frame x.ak):
  av w a 0 [.o,.o,.o,.o] f:=⟨_,g 0 _ U,_,g 1 _ U,_,g 2 _ U,_,g 3 _ U,hf⟩
theorem DH:qe.info? 289=S aeg:=qa
theorem Gn:aeg.bytes=32:=qa
def Ig:dP:=⟨0,0,0,0⟩
theorem Ed(w:Y):(qE 289).run qe w= .ok (.agg ⟨aA.enc Ig⟩) w:=zeroValue289 w
theorem nx{α:Type}(xs:J α)(q:α->W)(j:X)(x:α)(hx:xs[j]?=S x):(xs.take (j+1)).filter q=(xs.take j).filter q++if q x then [x]else []:=by rw[OG,hx,O9];congr 1;simp only[Option.toList_some,List.filter_cons,List.filter_nil]
instance dE.app{b:X}{ae6 L:J aH}{l:J N}[ae4:dE b L l]:dE b (ae6++L) l:=⟨ae6.length+ae4.i,by rw[OA om,Nat.add_sub_cancel_left];exact ae4.at_⟩
theorem wQ{p:dP->W}{f:N}{K:O->Pw}[ae4:bY s L dP aA xs](h:Ow B w0 w L)(hbig:xs.length<=1000000000)
  (hf:∀(y:dP)(w:Y)(ae5:W->Pw),Ow B w0 w L->(∀w',Ow B w0 w' L->ae5 (p y) w')->cT qe f [.agg ⟨aA.enc y⟩] w λen w'=>∃r:W,en= .returned (.bool r)/\ae5 r w')
  (hK:∀w',Ow B w0 w' L->K (dH p xs) w'):X4 s f K w:=by
 apply aaE;have hlen:=h.aL s;intro l hl;have loop:∀(rest:J dP)(j:X)(w:Y),xs.drop j=rest->j<=xs.length->(∀i,i<j->∀y,xs[i]?=S y->p y=Z)->Ow B w0 w L->l (j:O) w:=by
  intro rest;induction rest with
  |nil=>
   intro j w hj hjl hno h;have:xs.length<=j:=by have:=qw PI hj;simp at this;omega
   apply hl;refine aw om ?_;have hn:xs.findIdx? p=none:=by rw[Pa];intro y hy;obtain⟨i,hi⟩:=O5.1 hy;exact hno i (by have:=(Om.1 hi).1;omega) y hi
   have e:dH p xs= -1:=by unfold dH;rw[hn]
   rw[<-e];exact hK _ h
  |cons y rest ih=>
   intro j w hj hjl hno h;have hjl2:j<xs.length:=by have:=qw PI hj;simp at this;omega
   have hx:xs[j]?=S y:=by have:=qw (λl=>l[0]?) hj;simpa using this
   apply hl;refine az om ?_;refine h.bX U hx λa ha h0 hc=>?_;refine vo hc ?_;refine hf y w _ h λw h=>?_;cases hp:p y with
   |true=>
    refine aU U ?_;have hn:xs.findIdx? p=S j:=by
     rw[OT];refine⟨hjl2,?_,λi hi=>?_⟩
     .rw[gE hjl2]at hx;cases hx;exact hp
     .have:=hno i hi xs[i] (gE om)
      simp[this]
    have e:dH p xs=(j:O):=by unfold dH;rw[hn]
    rw[<-e];exact hK _ h
   |false=>
    refine aW U ?_;rw[wr om om];refine ih (j+1) w (by rw[<-Pz,hj];rfl) om (λi hi z hz=>?_) h;by_cases e:i=j
    .subst e;rw[hx]at hz;cases hz;exact hp
    .exact hno i om z hz
 exact loop xs 0 w U om (λi hi=>by omega) h
theorem B7{i j:X}{K:Sl->Pw}(h:Ow B w0 w (af aA s xs::R))(hij:i<j)(hj:j<=xs.length)(hbig:xs.length<=1000000000)
  (hK:∀s' w',Ow B w0 w' (af aA s' (xs.take i++xs.drop j)::R)->K s' w'):XM s (i:O) (j:O) K w:=by
 apply aap;have hlen:=h.aL s;have hcap:=h.kG.fK;refine⟨om,om,om,om,om,om,jf om (h.dr λw h=>?_)⟩;refine⟨om,om,om,om,a2 ?_⟩;simp only[Oo];refine h.u7 (E:=aA) ad8 DH qa om hj om λw h=>?_;dsimp only;refine⟨om,om,om,om,Ow.clear (E:=aA) (z0:=Ig) (n:=i+(xs.length-j)) ad8 Ed U h 0 U (by simp;omega) λw h=>?_⟩;have hp:=h.pre 0 U (n:=i+(xs.length-j)) (by simp;omega);refine hK _ w ?_;rw[lv hij hj]at hp;exact hp
theorem uO{fv:N}{p:dP->W}{K:Sl->Pw}(h:Ow B w0 w (af aA s xs::L))(hbig:xs.length<=1000000000)
  (hf:∀(ae6:J aH)(y:dP)(w:Y)(ae5:W->Pw),Ow B w0 w (ae6++L)->(∀w',Ow B w0 w' (ae6++L)->ae5 (p y) w')->cT qe fv [.agg ⟨aA.enc y⟩] w λen w'=>∃r:W,en= .returned (.bool r)/\ae5 r w')
  (hK:∀s' w',Ow B w0 w' (af aA s' (xs.filter λx=> !p x)::L)->K s' w'):X1 s fv K w:=by
 apply aaB;have hlen:=h.aL s;have hspot:=(h.wN 0 U).spot;refine wQ h hbig (λy w ae5 h hQ=>hf [af aA s xs] y w ae5 h hQ) λw1 h=>?_;unfold dH;cases hfi:xs.findIdx? p with
 |none=>
  refine aU U ?_;have:xs.filter (λx=> !p x)=xs:=by rw[Py];intro x hx;rw[Pa]at hfi;simp[hfi x hx]
  have h2:=hK s w1;rw[this]at h2;exact h2 h
 |some i0=>
  obtain⟨hi0,hp0,hbefore⟩:=OT.1 hfi;refine aW qc ?_;intro l hl;have hcap:=(h.wN 0 U).fK;have key:∀(m j q:X)(ys:J dP)(w:Y),j+m=xs.length->ys.length=xs.length->ys.take q=(xs.take j).filter (λx=> !p x)->q<j->q<=ys.length->ys.drop j=xs.drop j->
    Ow B w0 w (af aA s ys::L)->l (q:O) (j:O) w:=by
   intro m;induction m with
   |zero=>
    intro j q ys w hj hys hq hqj hqy hd h;apply hl;refine aw om ?_;refine⟨om,om,?_⟩;rw[Oo];refine Ow.clear (E:=aA) (z0:=Ig) (n:=q) ad8 Ed U h 0 U om λw2 h=>?_;refine⟨om,om,?_⟩;have h3:=h.pre 0 U (n:=q) (by simp;omega);have e1:(ys.take q++Oq (ys.length-q) Ig).take q=xs.filter (λx=> !p x):=by rw[List.take_append_of_le_length (by simp;omega),List.take_take,Nat.min_self,hq,Ou om]
    rw[e1]at h3;rw[FH _ _ _ hspot];exact hK _ _ h3
   |succ m ih=>
    intro j q ys w hj hys hq hqj hqy hd h;have hjlt:j<xs.length:=om
    have hyj:ys[j]?=S xs[j]:=by have:=qw (λl=>l[0]?) hd;simp only[List.getElem?_drop,Nat.add_zero]at this;rw[this,gE hjlt]
    apply hl;refine az om ?_;refine h.bX (s:=s) U hyj λa ha h0 hc=>?_;refine vo hc ?_;have hft:=nx xs (λx=> !p x) j _ (gE hjlt);have hd1:∀zs:J dP,zs.drop j=xs.drop j->zs.drop (j+1)=xs.drop (j+1):=λzs hz=>by rw[<-Pz (i:=1) (j:=j),<-Pz (i:=1) (j:=j),hz]
    generalize xs[j]=x at hyj hft hc;refine h.a λd w' h=>?_;refine h.ay U U λw h=>?_;refine h.gO U ?_;refine hf [aa d (aA.enc x),af aA s ys] x w _ h λw h=>?_;have h:Ow B w0 w (aa d (aA.enc x)::af aA s ys::L):=h;rw[wI j om];cases hp:p x with
    |true=>
     refine aW U ?_;refine ih (j+1) q ys w om hys ?_ om hqy (hd1 ys hd) h.drop;rw[hq,hft,hp];simp
    |false=>
     refine aU U ?_;refine h.gO U ?_;refine⟨a,ha,om,om,h.cw.rW (s:=s) x U om ha λw h=>?_⟩;rw[wI q om];refine ih (j+1) (q+1) (ys.set q x) w om (by simpa using hys) ?_ om (by simp;omega) ?_ h.vU
     .rw[hft,hp,OG,O0 om,List.take_set_of_le (On _),hq];simp
     .rw[List.drop_set_of_lt om];exact hd1 ys hd
  have h0:xs.take i0=(xs.take (i0+1)).filter (λx=> !p x):=by
   rw[nx xs _ i0 _ (gE hi0),hp0];simp only[Bool.not_true,qx,OD,OF]
   symm
   rw[Py];intro x hx;obtain⟨q,hq⟩:=O5.1 hx;rw[List.getElem?_take]at hq;split at hq
   .rename_i hlt
    have:=hbefore q hlt;rw[gE om]at hq;cases hq;simpa using this
   .cases hq
  rw[show qd.wrap (((i0:X):O)+1)=((i0+1:X):O)from by rw[wr om om];omega];exact key (xs.length-(i0+1)) (i0+1) i0 xs w1 om U h0 om om U h
theorem Ef{s:Sl}{xs:J dP}{K:Sl->Pw}[ae4:bY s L dP aA xs](h:Ow B w0 w L)(hbig:xs.length<=1000000)(hK:∀s' w',Ow B w0 w' (af aA s' xs::L)->K s' w'):WH s K w:=by apply aab;exact Dx (s:=s) (E:=aA) (xs:=xs) (zv:= .agg ⟨aA.enc Ig⟩) ad8 DH qa qa U qb h (by rw[Gn];omega) hK
abbrev Lg(c:X):N:= .func (.func 415) #[] #[.q c]
abbrev K9(c:X):N:= .func (.func 416) #[] #[.q c]
theorem lZ{n:O}{K:N->Pw}(h:Ow B w0 w R)(hK:∀c w',Ow B w0 w' (aa c [.z n]::R)->K (Lg c) w'):T4 n K w:=by
 apply abm;refine h.al λw1 h=>?_;exact hK _ _ h
theorem yJ{n:O}{K:N->Pw}(h:Ow B w0 w R)(hK:∀c w',Ow B w0 w' (aa c [.z n]::R)->K (K9 c) w'):T5 n K w:=by
 apply abn;refine h.al λw1 h=>?_;exact hK _ _ h
theorem Og{c:X}{n:O}{l:dP}{ae5:W->Pw}[ae4:dE c L [.z n]](h:Ow B w0 w L)(hQ:∀w',Ow B w0 w' L->ae5 (l.space==n) w'):
  cT qe (Lg c) [.agg #[.z l.space,.z l.bC,.z l.frame,.z l.ak]] w λen w'=>∃r:W,en= .returned (.bool r)/\ae5 r w':=by
 refine aT ?_;show Yu l.space l.bC l.frame l.ak c.p ae5 w;apply abq;refine h.a λd w1 h=>?_;exact⟨_,h.aF U,_,h.aF U,hQ _ h.drop⟩
theorem N7{c:X}{n:O}{l:dP}{ae5:W->Pw}[ae4:dE c L [.z n]](h:Ow B w0 w L)(hQ:∀w',Ow B w0 w' L->ae5 (l.bC==n) w'):
  cT qe (K9 c) [.agg #[.z l.space,.z l.bC,.z l.frame,.z l.ak]] w λen w'=>∃r:W,en= .returned (.bool r)/\ae5 r w':=by
 refine aT ?_;show Yv l.space l.bC l.frame l.ak c.p ae5 w;apply abr;refine h.a λd w1 h=>?_;exact⟨_,h.aE U,_,h.aF U,hQ _ h.drop⟩
theorem Ac{bs c1 c2:X}{n1 n2:O}{l:dP}{K:W->Pw}[ae4:dE bs L [Lg c1,K9 c2]][I1:dE c1 L [.z n1]][I2:dE c2 L [.z n2]](h:Ow B w0 w L)
  (hK:∀w',Ow B w0 w' L->K (tX n1 n2 l) w'):U7 l.space l.bC l.frame l.ak ⟨S bs.p,2,2⟩ K w:=by
 apply abl;refine h.a λd w1 h=>?_;apply aaA;apply aaD;have one:∀(f:N)(b:W)(w:Y)(ae5:W->Pw),Ow B w0 w (aa d [.z l.space,.z l.bC,.z l.frame,.z l.ak]::L)->
   (∀(w:Y)(ae5:W->Pw),Ow B w0 w (aa d [.z l.space,.z l.bC,.z l.frame,.z l.ak]::L)->(∀w',Ow B w0 w' (aa d [.z l.space,.z l.bC,.z l.frame,.z l.ak]::L)->ae5 b w')->
    cT qe f [.agg #[.z l.space,.z l.bC,.z l.frame,.z l.ak]] w λen w'=>∃r:W,en= .returned (.bool r)/\ae5 r w')->
   (∀w',Ow B w0 w' (aa d [.z l.space,.z l.bC,.z l.frame,.z l.ak]::L)->ae5 (!b) w')->
   cT qe (.func (.func 414) #[] #[.q d]) [f] w λen w'=>∃r:W,en= .returned (.bool r)/\ae5 r w':=λf b w ae5 h hf hQ=>by
  refine aT ?_;show Yt f d.p ae5 w;apply abp;refine h.gO U ?_;exact hf w _ h hQ
 intro k hk;apply hk;refine az (show(0:O)<2 by decide) ?_;refine⟨_,U,qb,(show(0:O)<2 by decide),Lg c1,?_,?_⟩
 .have:=Ow.aE (n:=0) h (ae4:=dE.tail) (b:=bs) (o:=0) (v:=Lg c1) U
  exact this
 refine one _ _ w1 _ h (λw ae5 h hQ=>Og (n:=n1) h hQ) λw h=>?_;cases e1:(l.space==n1)with
 |false=>
  refine aU U ?_;have e3:tX n1 n2 l=false:=by unfold tX;rw[show F (l.space=n1)=(l.space==n1)from U,e1];rfl
  rw[e3]at hK;exact hK w h.drop
 |true=>
  refine aW U ?_;rw[show qd.wrap ((0:O)+1)=1 from by decide];apply hk;refine az (show(1:O)<2 by decide) ?_;refine⟨_,U,qb,(show(1:O)<2 by decide),K9 c2,?_,?_⟩
  .have:=Ow.aE (n:=1) h (ae4:=dE.tail) (b:=bs) (o:=0) (v:=K9 c2) U
   exact this
  refine one _ _ w _ h (λw ae5 h hQ=>N7 (n:=n2) h hQ) λw h=>?_;have e3:tX n1 n2 l=(l.bC==n2):=by unfold tX;rw[show F (l.space=n1)=(l.space==n1)from U,e1];rfl
  rw[e3]at hK;cases e2:(l.bC==n2)with
  |false=>
   rw[e2]at hK;refine aU U ?_;exact hK w h.drop
  |true=>
   rw[e2]at hK;refine aW U ?_;rw[show qd.wrap ((1:O)+1)=2 from by decide];apply hk;refine aw (show ¬(2:O)<2 by decide) ?_;exact hK w h.drop
theorem wj{b bs c1 c2:X}{room n1 n2:O}{l:J dP}{K:O->Pw}(hbig:l.length<=1000000)(h:Ow B w0 w (fm b room l::R))
  [ae4:dE bs R [Lg c1,K9 c2]] [I1:dE c1 R [.z n1]] [I2:dE c2 R [.z n2]]
  (hK:∀w',Ow B w0 w' (fm b room (drop n1 n2 l)::R)->K ((l.length:O)-((drop n1 n2 l).length:O)) w'):U8 b.o ⟨S bs.p,2,2⟩ K w:=by
 apply abo;refine h.a λd w1 h=>?_;obtain⟨s,h⟩:=H9 h.cw;have hlen:=h.aL s;refine⟨_,U,s,h.aF U,_,U,s,h.aF U,uO (s:=s) (xs:=l) (p:=λx=>tX n1 n2 x) h.cw om (λae6 y w ae5 h hQ=>?_) λs' w h=>?_⟩
 .refine aT ?_
  show Yw y.space y.bC y.frame y.ak d.p ae5 w;apply abt;refine h.a λe w2 h=>?_;refine h.gO U ?_;exact⟨⟨S bs.p,2,2⟩,h.aF U,Ac (bs:=bs) (c1:=c1) (c2:=c2) (n1:=n1) (n2:=n2) h λw h=>hQ w h.drop⟩
 .have hlen2:=h.aL s'
  have hfl:=OR (λx=> !tX n1 n2 x) l;refine⟨_,U,h.jx U U λw h=>?_⟩;refine⟨_,U,s',h.aF U,?_⟩;rw[hlen,hlen2,wr om om];have h:Ow B w0 w (af aA s' (drop n1 n2 l)::aa b [s'.v,.z room]::aa d [.slice bs.o 2 2]::R):=h;have h:Ow B w0 w (aa b [s'.v,.z room]::af aA s' (drop n1 n2 l)::R):=h.sub;exact hK w (sR h)
theorem zM{room:O}{K:qg qf->O->Pw}(h1:1<=room)(h2:room<=256)(h:Ow B w0 w R)(hK:∀b w',Ow B w0 w' (fm b room []::R)->K b.o 0 w'):VN room K w:=by
 apply YJ;intro k hk;refine aw om ?_;apply hk;refine aw om ?_;refine h.al λw1 h=>?_;exact hK _ w1 (sR (s:=z0) ((Ow.cH h).perm (List.Perm.swap _ _ _)))
theorem oX{b:X}{room n1 n2:O}{l:J dP}{K:W->Pw}(hbig:l.length<=1000000)(h:Ow B w0 w (fm b room l::R))(hK:∀v w',Ow B w0 w' (fm b room (drop n1 n2 l)::R)->K v w'):UN b.o n1 n2 K w:=by
 apply abk;refine lZ h λc1 w h=>?_;refine yJ h λc2 w h=>⟨U,U,?_⟩
 refine h.a λbs w2 h=>?_;refine wj (bs:=bs) (c1:=c1) (c2:=c2) (n1:=n1) (n2:=n2) (l:=l) (room:=room) hbig (h.pick (ae7:=fm b room l)) λw h=>?_;exact hK _ w h.sub
theorem xk{b:X}{room n1 n2:O}{l:J dP}{K:O->O->W->Pw}(hbig:l.length<=1000000)(h:Ow B w0 w (fm b room l::R))
  (hK:∀w',Ow B w0 w' (fm b room l::R)->K ((look n1 n2 l).getD (0,0)).1 ((look n1 n2 l).getD (0,0)).2 (look n1 n2 l).isSome w'):Xf b.o n1 n2 K w:=by
 apply abi;refine h.a λd w1 h=>?_;obtain⟨s,h⟩:=H9 h.cw;have hlen:=h.aL s;refine⟨_,U,s,h.aF U,?_⟩;intro lp hlp;have loop:∀(rest:J dP)(j:X)(w:Y),l.drop j=rest->j<=l.length->(∀i,i<j->∀y,l[i]?=S y->tX n1 n2 y=Z)->Ow B w0 w (aa b [s.v,.z room]::af aA s l::aa d [.z 0,.z 0]::R)->lp (j:O) w:=by
  intro rest;induction rest with
  |nil=>
   intro j w hj hjl hno h;have:l.length<=j:=by have:=qw PI hj;simp at this;omega
   apply hlp;refine aw om ?_;have hn:look n1 n2 l=none:=by
    unfold look;rw[Sj.2 λy hy=>?_]
    .rfl
    .obtain ⟨i,hi⟩:=O5.1 hy
     rw[hno i (by have:=(Om.1 hi).1;omega) y hi];decide
   rw[hn]at hK;refine h.ay U U λw h=>?_;refine h.aN U ?_;have h:Ow B w0 w (aa b [s.v,.z room]::af aA s l::R):=h.sub;exact hK w (sR h)
  |cons y rest ih=>
   intro j w hj hjl hno h;have hjl2:j<l.length:=by have:=qw PI hj;simp at this;omega
   have hx:l[j]?=S y:=by have:=qw (λl=>l[0]?) hj;simpa using this
   apply hlp;refine az om ?_;refine h.bX (s:=s) U hx λa ha h0 hc=>?_;refine vo hc ?_;refine h.a λe w2 h=>?_;refine h.ay U U λw h=>?_;refine h.dr λw h=>?_;refine h.gO U (Go.Vc.a2 ?_);refine lZ h λc1 w h=>?_;refine h.hd U (Go.Vc.a2 ?_);refine yJ h λc2 w h=>?_;refine h.hd U (Go.Vc.a2 ⟨U,U,?_⟩);refine h.al λw3 h=>Go.Vc.a2 ?_;generalize w.heap.size=bs at h|-;refine Ac (bs:=bs) (c1:=c1) (c2:=c2) (n1:=n1) (n2:=n2) (l:=y) h λw h=>?_;cases hp:tX n1 n2 y with
   |true=>
    refine aU U ?_;have hn:look n1 n2 l=S (y.frame,y.ak):=by
     unfold look;have:l.find? (tX n1 n2)=S y:=by
      rw[RW];refine⟨hp,j,hjl2,?_,λi hi=>?_⟩
      .rw[gE hjl2]at hx;exact Option.some.inj hx
      .rw[hno i hi _ (gE om)];rfl
     rw[this];rfl
    rw[hn]at hK;refine eJ (h.aN U ?_);refine h.ay U U λw h=>?_;refine h.aN U ?_;have h:Ow B w0 w (aa b [s.v,.z room]::af aA s l::R):=h.sub;exact hK w (sR h)
   |false=>
    refine aW U ?_;rw[wr om om];have h:Ow B w0 w (aa b [s.v,.z room]::af aA s l::aa d [.z 0,.z 0]::R):=h.sub;refine ih (j+1) w (by rw[<-Pz,hj];rfl) om (λi hi z hz=>?_) h;by_cases e:i=j
    .subst e;rw[hx]at hz;cases hz;exact hp
    .exact hno i om z hz
 exact loop l 0 w1 U om (λi hi=>by omega) h.sub
theorem AE{b d:X}{room:O}{x:dP}{l:J dP}{K:Pw}(hbig:l.length<=1000000)(h:Ow B w0 w (fm b room l::aa d [.z x.space,.z x.bC,.z x.frame,.z x.ak]::R))
  (hK:∀w',Ow B w0 w' (fm b room (l++ [x])::R)->K w'):
  Dr w λw12=>∃a13:qf,S b.p=S a13/\∃l14:Sl,w12.cell? a13=S l14.v/\
   av w12 d.p 0 [.o,.o,.o,.o] λ(t15:O)(t16:O)(t17:O)(t18:O)=>
   (Al w12 (.cells #[.z t15,.z t16,.z t17,.z t18] 289) λw19=>
   (∃(t20:Sl)(w21:Y),aP qe [40,40] 40 l14.v (.slice (S w12.heap.size.p) 1 1) w19 t20 w21/\
   ∃a22:qf,S b.p=S a22/\(St w21 a22 t20.v λw23=>K w23)/\G)/\G)/\G:=by
 refine h.dr λw h=>?_;obtain⟨s,h⟩:=H9 h;refine⟨_,U,s,h.aF U,h.gO U (Go.Vc.a2 (h.al λw2 h=>Go.Vc.a2 ?_))⟩;generalize w.heap.size=e at h|-;refine u6 (s:=s) (ys:=l) (y:=x) h om λs' w hs' h=>⟨_,U,Go.Vc.a2 ?_⟩
 refine h.jx U U λw h=>?_;have h:Ow B w0 w (aa b [s'.v,.z room]::af aA s' (l++ [x])::R):=h.sub;exact hK w (sR h)
theorem xj{b:X}{room:O}{x:dP}{l:J dP}{K:Pw}(hr:1<=room)(hbig:l.length<=1000000)(h:Ow B w0 w (fm b room l::R))
  (hK:∀w',Ow B w0 w' (fm b room (fill room x l)::R)->K w'):Xh b.o x.space x.bC x.frame x.ak K w:=by
 apply abj;refine h.a λd w1 h=>?_;intro k7 hk7;have hdl:=nq x.space x.bC l;refine h.dr λw h=>?_;refine⟨_,h.aF U,_,h.aE U,Go.Vc.a2 (lZ h λc1 w h=>?_)⟩;refine⟨h.aE U,Go.Vc.a2 (yJ h λc2 w h=>Go.Vc.a2 ⟨U,U,?_⟩)⟩;refine h.al λw2 h=>Go.Vc.a2 ?_;generalize w.heap.size=bs at h|-;refine wj (bs:=bs) (c1:=c1) (c2:=c2) (n1:=x.space) (n2:=x.bC) (l:=l) (room:=room) hbig (h.pick (ae7:=fm b room l)) λw h=>?_;have h:Ow B w0 w (fm b room (drop x.space x.bC l)::aa d [.z x.space,.z x.bC,.z x.frame,.z x.ak]::R):=h.sub;by_cases e:(drop x.space x.bC l).length=l.length/\room<=(l.length:O)
 .have ef:fill room x l=(drop x.space x.bC l).drop 1++ [x]:=by unfold fill;rw[A e]
  rw[ef]at hK;refine jg om ?_;obtain⟨s,h⟩:=H9 h;have hlen:=h.aL s;refine⟨_,U,s,h.aF U,_,U,h.l2 U ?_⟩;rw[qm (show(s.len:O)>=room by omega)];apply hk7;intro k10 hk10;refine aU U ?_;refine⟨_,U,s,h.aF U,B7 (i:=0) (j:=1) h.cw om om om λs' w h=>⟨_,U,?_⟩⟩
  refine h.jx U U λw h=>?_;apply hk10;have h:Ow B w0 w (aa b [s'.v,.z room]::af aA s' ((drop x.space x.bC l).drop 1)::aa d [.z x.space,.z x.bC,.z x.frame,.z x.ak]::R):=h.cw;exact AE (by rw[List.length_drop];omega) (sR h) hK
 .have ef:fill room x l=drop x.space x.bC l++ [x]:=by unfold fill;rw[Q e]
  rw[ef]at hK;have no:k7 Z w:=by apply hk7;intro k10 hk10;refine aW U ?_;apply hk10;exact AE om h hK
  by_cases e1:(drop x.space x.bC l).length=l.length
  .refine jg om ?_
   obtain⟨s,h⟩:=H9 h;have hlen:=h.aL s;refine⟨_,U,s,h.aF U,_,U,h.l2 U ?_⟩;rw[qk (show ¬(s.len:O)>=room by omega)];exact no
  .exact jf om no
end
end Mc
namespace ag
def kN(c:X)(bits:X):ag:=⟨[6],λ_=>I,[],Th.fp c,Oq 8 ⟨0,0,0⟩,[⟨0,bits,0⟩],[],[],[Tb.iF],0,0⟩
def dM(k:ag)(i kind obj:O):ag:={ k with H:=(Sl.jl k.bits k.H (0,i) ⟨kind,obj,7,0,0,0⟩).2,T:=(Tr.nT k.T (0,i)).2}
def mZ:J O->X->ag->ag
 | [],_,k=>k
 |p::r,j,k=>mZ r (j+1) ((k.bQ (((k.t.cv p (j:O)).2.2.bE (k.t.cv p (j:O)).1).2.aV (j:O))).dM ((2+j:X):O) 3 (k.t.cv p (j:O)).1)
def tB:X->X->X->ag->ag
 |0,_,_,k=>k
 |q+1,j,i,k=>tB q (j+1) i (k.dM ((i+j:X):O) 9 (j:O))
def fC(c bits lines:X)(prios:J O):ag:=
 tB lines 0 (3+prios.length) ((mZ prios 0 (((kN c bits).dM 0 2 0).dM 1 1 0)).dM ((2+prios.length:X):O) 8 0)
def gC(c bits lines:O)(prios:J O):W:=F (1<=c/\c<=8/\4<=bits/\bits<=20/\0<=lines/\lines<=8/\(prios.length:O)=c/\∀p∈prios,0<=p/\p<256)
end ag
section
variable{ae6 c:X}{k:ag}{m:Th.Mt}
theorem yh{c k:O}:(m.aV c).fS k=m.fS k:=by
 unfold Th.Mt.aV Th.Mt.pick;split
 .split
  .rfl
  .split
   .rw[Th.km,Th.iB]
   .split
    .rfl
    .rw[Th.km,Th.iB,Th.iC,Th.iB]
 .rfl
theorem tN{n k:O}:(m.bE n).2.fS k=m.fS k:=by
 unfold Th.Mt.bE;split
 .rfl
 split
 .rfl
 .exact Th.iC
theorem A8{p c k:O}:(m.make p c).fS k=m.fS k:=rfl
structure mS(c n:X)(k:ag):Prop where
 ok:bj 1 k
 free:∀i:O,(n:O)<=i->k.H (0,i)=I
 bits:k.bits= [6]
 core:∀j:O,k.t.fS j=V↔0<=j/\j<(c:O)
 sp:k.ae= [Tb.iF]
 u1:k.u.length=1
theorem bj.root(h:bj ae6 k){i kind obj:O}(hi:0<=i/\i<64)(hn:k.H (0,i)=I)(hc:Sl.bT ⟨kind,obj,7,0,0,0⟩=0)(h0:kind≠0)(ho:k.fF ⟨kind,obj,7,0,0,0⟩):
  bj ae6 (k.dM i kind obj)/\(k.dM i kind obj).H=Sl.cz k.H (0,i) (S ⟨kind,obj,7,0,0,0⟩):=by
 have ht:((0,i):Slot).1=0/\0<=((0,i):Slot).2/\((0,i):Slot).2<64:=⟨U,hi.1,hi.2⟩
 have hput:=h.put ht hn hc h0;have hno:Tr.bz k.T (0,i)=none:=rL λe=>by rw[h.mem,hn]at e;cases e
 have hT:Tr.nT k.T (0,i)=(0,k.T++ [((0,i),0)]):=by unfold Tr.nT;rw[hno]
 have hH:(k.dM i kind obj).H=Sl.cz k.H (0,i) (S ⟨kind,obj,7,0,0,0⟩):=by unfold ag.dM;rw[hput]
 have hT2:(k.dM i kind obj).T=k.T++ [((0,i),0)]:=by unfold ag.dM;rw[hT]
 have hfew:=h.fh;refine⟨{ h with
  sr:=by rw[hH];exact h.sr.put (mi h.b0 ht) hc h0 lk
  held:=λs x hx=>?_
  tok:=by rw[hT2];exact h.tok.root om hno
  mem:=λs=>?_},hH⟩
 .rw[hH]at hx
  unfold Sl.cz at hx;by_cases e:s=(0,i)
  .rw[A e]at hx;cases hx;rw[e];exact⟨ht,ho⟩
  .rw[Q e]at hx;exact h.held s x hx
 .rw[hH,hT2]
  unfold Sl.cz;rw[OS,Pn];simp only[OZ,Qb,OY];by_cases e:s=(0,i)
  .simp[e]
  .rw[Q e,<-h.mem];simp[e]
theorem mS.root{n:X}(h:mS c n k){kind obj:O}(hn:n<64)(hc:Sl.bT ⟨kind,obj,7,0,0,0⟩=0)(h0:kind≠0)(ho:k.fF ⟨kind,obj,7,0,0,0⟩):mS c (n+1) (k.dM (n:O) kind obj):=by obtain⟨h1,h2⟩:=h.ok.root (i:=(n:O)) ⟨om,om⟩ (h.free _ (RK _)) hc h0 ho;refine⟨h1,λi hi=>?_,h.bits,h.core,h.sp,h.u1⟩;rw[h2];unfold Sl.cz;rw[Q (λe=>by cases e;omega)];exact h.free i om
theorem zh{bits:X}(h8:c<=8)(hb:4<=bits/\bits<=20):mS c 0 (ag.kN c bits):=by
 refine⟨⟨U,⟨by show 1<=64;decide,λz hz=>by simp[ag.kN]at hz;subst hz;exact .inr ⟨qb,qb⟩,λs x hx=>by cases hx⟩,λs x hx=>(by cases hx),⟨by show 0<=1000000;decide,trivial,Sg⟩,λs=>by simp[ag.kN],Th.Hl h8,by simp[ag.kN],λx hx hx2=>?_,λx hx=>?_,λm hm=>?_,
  by simp[ag.kN],by simp[ag.kN],by simp[ag.kN],by simp[ag.kN],Qi _,Qi _,λp hp=>by simp[ag.kN]at hp,λp hp=>by simp[ag.kN]at hp⟩,λi hi=>rfl,U,λj=>?_,U,U⟩
 .simp only[ag.kN,List.mem_replicate]at hx
  rw[hx.2]at hx2;exact qi U hx2
 .simp[ag.kN]at hx
  subst hx;refine⟨hb.2,?_,Nat.zero_mod _,Qi _⟩;show 0+2^bits<=2^20;rw[OJ];exact Pm qb hb.2
 .simp[ag.kN]at hm
  subst hm;exact Tb.fx.new
 .rw[Th.fW]
  simp[ag.kN,Th.fp]
theorem Mi{a n:O}(h0:0<=n)(h1:a≠1)(h2:a=2->n<(k.bits.length:O))(h3:a=3->n<(k.t.bF.length:O))(h4:a≠4)(h5:a≠5)(h6:a≠6)(h7:a≠7)(h8:a=8->n<(k.ae.length:O))(h9:a=9->n<8):k.fF ⟨a,n,7,0,0,0⟩:=
 gl h0 (λe=>qi e h1) h2 h3 (λe=>qi e h4) (λe=>qi e h5) (λe=>qi e h6) (λe=>qi e h7) h8 h9
theorem mS.zL{j:X}{p:O}(h:mS c (2+j) k)(hj:j<c)(h8:c<=8)(ht:k.t.bF.length=j)(hp:0<=p/\p<256):
  mS c (2+(j+1)) ((k.bQ (((k.t.cv p (j:O)).2.2.bE (k.t.cv p (j:O)).1).2.aV (j:O))).dM ((2+j:X):O) 3 (k.t.cv p (j:O)).1)/\
  ((k.bQ (((k.t.cv p (j:O)).2.2.bE (k.t.cv p (j:O)).1).2.aV (j:O))).dM ((2+j:X):O) 3 (k.t.cv p (j:O)).1).t.bF.length=j+1/\k.t.cv p (j:O)=((j:O),0,k.t.make p (j:O)):=by
 have hc:k.t.fS (j:O)=true:=(h.core _).2 ⟨om,om⟩;have hm:k.t.cv p (j:O)=((j:O),0,k.t.make p (j:O)):=by unfold Th.Mt.cv;rw[Q (λhh=>hh ⟨hp.1,hp.2,hc⟩),Q om,ht]
 rw[hm];dsimp only;have hl:(((k.t.make p (j:O)).bE (j:O)).2.aV (j:O)).bF.length=j+1:=by rw[iG,gI];unfold Th.Mt.make;simp[ht]
 have hi:=((h.ok.inv.make (p:=p) (c:=(j:O)) om hc hp).resume (j:O)).aV (j:O);have hb:mS c (2+j) (k.bQ (((k.t.make p (j:O)).bE (j:O)).2.aV (j:O))):=by refine⟨h.ok.bQ hi (by rw[hl];omega),h.free,h.bits,λn=>?_,h.sp,h.u1⟩;show(((k.t.make p (j:O)).bE (j:O)).2.aV (j:O)).fS n=V↔_;rw[yh,tN,A8];exact h.core n
 refine⟨?_,hl,U⟩;have:=hb.root (kind:=3) (obj:=(j:O)) om (iw ⟨qb,qb⟩ ⟨om,om⟩) qb (Mi om qb (λe=>qi e qb) (λ_=>by show(j:O)<((((k.t.make p (j:O)).bE (j:O)).2.aV (j:O)).bF.length:O);rw[hl];omega) qb qb qb qb (λe=>qi e qb) (λe=>qi e qb));exact this
theorem Ar(h8:c<=8):∀(ps:J O)(j:X)(k:ag),j+ps.length<=c->(∀p∈ps,0<=p/\p<256)->mS c (2+j) k->k.t.bF.length=j->mS c (2+(j+ps.length)) (ag.mZ ps j k)/\(ag.mZ ps j k).t.bF.length=j+ps.length
 | [],j,k,_,_,h,ht=>⟨h,ht⟩
 |p::ps,j,k,hj,hp,h,ht=>by rw[OB]at hj|-;obtain⟨h1,h2,_⟩:=h.zL om h8 ht (hp p Po);have:=Ar h8 ps (j+1) _ om (λq hq=>hp q (Pq _ hq)) h1 h2;rw[show j+1+ps.length=j+(ps.length+1)from by omega]at this;exact this
theorem mS.line{i j:X}(h:mS c (i+j) k)(hi:i+j<64)(hj:j<8):mS c (i+(j+1)) (k.dM ((i+j:X):O) 9 (j:O)):=
 h.root hi (iw ⟨qb,qb⟩ ⟨om,om⟩) qb (Mi om qb (λe=>qi e qb) (λe=>qi e qb) qb qb qb qb (λe=>qi e qb) (λ_=>by omega))
theorem Aq:∀(q j i:X)(k:ag),j+q<=8->i<=20->mS c (i+j) k->mS c (i+(j+q)) (ag.tB q j i k)/\(ag.tB q j i k).t=k.t
 |0,j,i,k,_,_,h=>⟨h,U⟩
 |q+1,j,i,k,hj,hi,h=>by have h1:=h.line om om;have:=Aq q (j+1) i _ om hi h1;rw[show j+1+q=j+(q+1)from by omega]at this;exact⟨this.1,this.2.trans U⟩
theorem vb{bits:X}(h8:c<=8)(hb:4<=bits/\bits<=20):mS c 1 ((ag.kN c bits).dM 0 2 0)/\mS c 2 (((ag.kN c bits).dM 0 2 0).dM 1 1 0):=by have h0:=zh h8 hb;have h1:=h0.root (kind:=2) (obj:=0) qb (iw ⟨qb,qb⟩ ⟨qb,qb⟩) qb (Mi qb qb (λ_=>by show(0:O)<1;decide) (λe=>qi e qb) qb qb qb qb (λe=>qi e qb) (λe=>qi e qb));have h2:=h1.root (kind:=1) (obj:=0) qb (iw ⟨qb,qb⟩ ⟨qb,qb⟩) qb (gl qb (λ_=>by show(0:O)<1;decide) (λe=>qi e qb) (λe=>qi e qb) (λe=>qi e qb) (λe=>qi e qb) (λe=>qi e qb) (λe=>qi e qb) (λe=>qi e qb) (λe=>qi e qb));exact⟨h1,h2⟩
theorem mS.space{i:X}(h:mS c i k)(hi:i<64):mS c (i+1) (k.dM (i:O) 8 0):=
 h.root hi (iw ⟨qb,qb⟩ ⟨qb,qb⟩) qb (Mi qb qb (λe=>qi e qb) (λe=>qi e qb) qb qb qb qb (λ_=>by rw[h.sp];decide) (λe=>qi e qb))
theorem Gl{bits lines:X}{prios:J O}(h8:c<=8)(hb:4<=bits/\bits<=20)(hl:lines<=8)(hp:prios.length=c)(hps:∀p∈prios,0<=p/\p<256):
  mS c (3+c+lines) (ag.fC c bits lines prios)/\(ag.fC c bits lines prios).t.bF.length=c:=by
 obtain⟨_,h2⟩:=vb h8 hb;obtain⟨h3,h4⟩:=Ar h8 prios 0 _ om hps h2 U;rw[OJ]at h3 h4;have h5:=h3.space om;have h6:=Aq lines 0 (3+prios.length) _ om om (show mS c (3+prios.length+0) _ from by rw[show 3+prios.length+0=2+prios.length+1 from by omega];exact h5);refine⟨?_,?_⟩
 .have:=h6.1
  rw[show 3+prios.length+(0+lines)=3+c+lines from by omega]at this;exact this
 .show (ag.tB _ _ _ _).t.bF.length=c
  rw[h6.2];exact h4.trans hp
end
section
variable{B:X}{w0 w:Y}{R L:J aH}{b bd bk:X}{k:ag}{ae6:X}{s:Sl}
theorem oQ{p:O->W}{f:N}{xs:J O}{K:O->Pw}[ae4:bY s L O aB xs](h:Ow B w0 w L)(hbig:xs.length<=1000000000)
  (hf:∀(y:O)(w:Y)(ae5:W->Pw),y∈xs->Ow B w0 w L->(∀w',Ow B w0 w' L->ae5 (p y) w')->cT qe f [.z y] w λen w'=>∃r:W,en= .returned (.bool r)/\ae5 r w')
  (hK:∀w',Ow B w0 w' L->K (dH p xs) w'):TI s f K w:=by
 apply YI;have hlen:s.len=xs.length:=h.aL s;intro l hl;have loop:∀m j w,j+m=xs.length->(∀i,i<j->∀z,xs[i]?=S z->p z=Z)->Ow B w0 w L->l (j:O) w:=by
  intro m;induction m with
  |zero=>
   intro j w hj hno h;apply hl;refine aw om ?_;have hn:xs.findIdx? p=none:=by rw[Pa];intro y hy;obtain⟨i,hi⟩:=O5.1 hy;exact hno i (by have:=(Om.1 hi).1;omega) y hi
   have e:dH p xs= -1:=by unfold dH;rw[hn]
   rw[<-e];exact hK _ h
  |succ m ih=>
   intro j w hj hno h;have hx:xs[j]?=S xs[j]:=gE om;apply hl;refine az om ?_;refine h.bX (s:=s) U hx λa ha h0 hc=>?_;refine⟨_,h0 _ U,hf xs[j] w _ (Ph _) h λw h=>?_⟩;cases hp:p xs[j]with
   |true=>
    refine aU U ?_;have hn:xs.findIdx? p=S j:=by rw[OT];refine⟨om,hp,λi hi=>?_⟩;have:=hno i hi xs[i] (gE om);simp[this]
    have e:dH p xs=(j:O):=by unfold dH;rw[hn]
    rw[<-e];exact hK _ h
   |false=>
    refine aW U ?_;rw[wr om om];refine ih (j+1) w om (λi hi z hz=>?_) h;by_cases e:i=j
    .subst e;rw[hx]at hz;cases hz;exact hp
    .exact hno i om z hz
 exact loop xs.length 0 w om (λi hi=>by omega) h
theorem Da{c bits lines:O}{prios:J O}{K:W->Pw}[ae4:bY s L O aB prios](h:Ow B w0 w L)(hbig:prios.length<=1000000000)
  (hK:∀w',Ow B w0 w' L->K (ag.gC c bits lines prios) w'):Vs c bits lines s K w:=by
 apply aa4;have hlen:s.len=prios.length:=h.aL s;refine h.a λcb w1 h=>?_;intro k6 hk6;have hno:∀{w},¬(1<=c/\c<=8/\4<=bits/\bits<=20/\0<=lines/\lines<=8)->Ow B w0 w (aa cb [.z c,.z bits,.z lines,s.v]::L)->k6 Z w:=λ{w}hb h=>by apply hk6;refine aW U ?_;have:=hK w h.drop;rw[show ag.gC c bits lines prios=Z from qk λhh=>hb ⟨hh.1,hh.2.1,hh.2.2.1,hh.2.2.2.1,hh.2.2.2.2.1,hh.2.2.2.2.2.1⟩]at this;exact this
 have hyes:∀{w},(1<=c/\c<=8/\4<=bits/\bits<=20/\0<=lines/\lines<=8)->Ow B w0 w (aa cb [.z c,.z bits,.z lines,s.v]::L)->k6 V w:=λ{w}hb h=>by
  apply hk6;refine aU U ?_;refine⟨s,h.aE U,h.l1 U (dK (λe=>?_) (λe=>?_))⟩
  .refine ⟨s,h.aE U,?_⟩
   apply YH;refine oQ (p:=λy=>F (y<0)||F (y>=256)) h hbig (λy w ae5 _ h hQ=>aT ?_) λw h=>?_
   .show X8 y ae5 w
    apply aba;have:=hQ w h;refine bg (λe=>?_) (λe=>?_)
    .rw[qm e,Bool.true_or]at this;exact this
    .rw[qk e,Q8]at this;exact this
   .have:=hK w h.drop
    rw[jT];have e2:ag.gC c bits lines prios= !(prios.any λy=>F (y<0)||F (y>=256)):=by
     unfold ag.gC;rw[Qm];simp only[qA,Q1,Qf,PE,not_or];obtain⟨b1,b2,b3,b4,b5,b6⟩:=hb;constructor
     .rintro ⟨_,_,_,_,_,_,_,hp⟩ y hy
      have:=hp y hy;omega
     .intro hp
      refine⟨b1,b2,b3,b4,b5,b6,om,λy hy=>?_⟩;have:=hp y hy;omega
    rw[e2]at this;exact this
  .have:=hK w h.drop
   rw[show ag.gC c bits lines prios=Z from qk λhh=>by have:=hh.2.2.2.2.2.2.1;omega]at this;exact this
 refine h.l1 U ?_;refine bg (λe1=>?_) (λe1=>hno om h);refine h.l1 U ?_;refine bg (λe2=>?_) (λe2=>hno om h);refine h.l2 U ?_;refine bg (λe3=>?_) (λe3=>hno om h);refine h.l2 U ?_;refine bg (λe4=>?_) (λe4=>hno om h);refine h.l2 U ?_;refine bg (λe5=>?_) (λe5=>hno om h);refine h.l2 U ?_;by_cases e6:lines<=8
 .rw[qm e6];exact hyes om h
 .rw[qk e6];exact hno om h
end
namespace Mc
section
variable{B:X}{w0 w:Y}{R L:J aH}{b nc:X}{line:J O}{x:Lx}{bx:J (J fk)}{α:Type}{E:dF α}{ss:J Sl}{rows:J (J α)}{s:Sl}{xs:J fk}
theorem G5{w:Y}{a:qf}{x:fk}{f:O->O->O->Prop}(g:∀c v,(cD.enc x)[c]?=S v->w.cell? (a.add c)=S v)(hf:f x.gk x.kind x.about):
  av w a 0 [.o,.o,.o] f:=⟨_,g 0 _ U,_,g 1 _ U,_,g 2 _ U,hf⟩
theorem AN:qe.info? 357=S aeP:=qa
theorem EB:aeP.bytes=24:=qa
def Ih:fk:=⟨0,0,0⟩
theorem Ij(w:Y):(qE 357).run qe w= .ok (.agg ⟨cD.enc Ih⟩) w:=zeroValue357 w
theorem zX{i j:X}{K:Sl->Pw}(h:Ow B w0 w (af cD s xs::R))(hij:i<j)(hj:j<=xs.length)(hbig:xs.length<=1000000000)
  (hK:∀s' w',Ow B w0 w' (af cD s' (xs.take i++xs.drop j)::R)->K s' w'):XN s (i:O) (j:O) K w:=by
 apply aaq;have hlen:=h.aL s;have hcap:=h.kG.fK;refine⟨om,om,om,om,om,om,jf om (h.dr λw h=>?_)⟩;refine⟨om,om,om,om,a2 ?_⟩;simp only[Oo];refine h.u7 (E:=cD) aeo AN qa om hj om λw h=>?_;dsimp only;refine⟨om,om,om,om,Ow.clear (E:=cD) (z0:=Ih) (n:=i+(xs.length-j)) aeo Ij U h 0 U (by simp;omega) λw h=>?_⟩;have hp:=h.pre 0 U (n:=i+(xs.length-j)) (by simp;omega);refine hK _ w ?_;rw[lv hij hj]at hp;exact hp
theorem Et{y:fk}{c:X}{k:Sl->Pw}[ae4:bY s L fk cD xs][aeX:eD (af cD s xs) L R](h:Ow B w0 w (aa c (cD.enc y)::L))(hbig:xs.length<=1000000000)
  (hk:∀s' w',s'.len=xs.length+1->Ow B w0 w' (af cD s' (xs++ [y])::R)->k s' w'):
  ∃s' w',aP qe [354,354] 354 s.v (.slice (S c.p) 1 1) w s' w'/\k s' w':=
 Ow.eR (E:=cD) (y:=y) aeo AN (zv:= .agg ⟨cD.enc Ih⟩) qa qa U qb h (by rw[EB];omega) hk
theorem KV(h:Ow B w0 w (cU E ss rows::R)){j:X}{s:Sl}{row:J α}(hs:ss[j]?=S s)(hr:rows[j]?=S row):
  Ow B w0 w (af E s row::bo ((Ot (af E) ss rows).eraseIdx j)::R):=Ow.cw (Ow.br ((h.row hs hr).perm PD.symm))
theorem oH{j:X}{s':Sl}{row':J α}(hl:ss.length=rows.length)(hj:j<rows.length)(h:Ow B w0 w (af E s' row'::bo ((Ot (af E) ss rows).eraseIdx j)::R)):
  Ow B w0 w (cU E (ss.set j s') (rows.set j row')::R):=Ow.By hl hj ((h.cw).star.perm PD)
theorem iS(h:Ow B w0 w (cU E ss rows::R)):ss.length=rows.length:=h.Bz.1
theorem Gm{c:O}{K:W->Pw}(h0:0<=c)(h1:c<(bx.length:O))(h:Ow B w0 w (dY b bx::R))(hK:K V w):U9 b.o c K w:=by apply aaJ;obtain⟨s,ss,h⟩:=Ez h;have hl:=iS (h.pick (ae7:=cU cD ss bx));have hlen:=h.aL s;refine az om ?_;refine⟨_,U,s,h.aF U,?_⟩;rw[qm (show c<(s.len:O) by omega)];exact hK
theorem rh{nc:X}{K:qg qf->O->Pw}(n1:1<=nc)(n8:nc<=8)(h:Ow B w0 w R)(hK:∀b w',Ow B w0 w' (dY b (Oq nc [])::R)->K b.o 0 w'):VM (nc:O) K w:=by
 apply aaF;intro k hk;refine aw om ?_;apply hk;refine aw om ?_;have hb:aeQ.bytes=24:=qa
 have hp48:(2:O)^48=281474976710656:=qb
 refine Ow.rH (E:=pU) (z0:=z0) (zv:= .slice I 0 0) underlying341 (show qe.info? 354=S aeQ from by kernel_rfl) qa qa U (n:=(nc:O)) h om (by rw[hb,hp48];omega) (by rw[hp48];omega) λs w hs h=>?_;rw[Oo]at h;refine h.al λw2 h=>?_;have rows:∀(n:X)(R:J aH),Ow B w0 w2 R->Ow B w0 w2 (cU cD (Oq n z0) (Oq n [])::R):=λn R h=>by
  induction n with
  |zero=>exact Ow.BA h
  |succ n ih=>
   have:=Ow.D2 (Ow.cH (E:=cD) ih)
   rwa [<-Q4,<-Q4]at this
 have h3:=rows nc _ h;refine hK _ w2 (vv (s:=s) (ss:=Oq nc z0) ?_);exact h3.sub
theorem wX{c:O}{K:O->O->O->W->Pw}(h0:0<=c)(h1:c<(bx.length:O))(h64:∀l∈bx,l.length<=64)(h:Ow B w0 w (dY b bx::R))
  (hK0:bx[c.toNat]?=S []->∀w',Ow B w0 w' (dY b bx::R)->K 0 0 0 Z w')
  (hK1:∀x r,bx[c.toNat]?=S (x::r)->∀w',Ow B w0 w' (dY b (bx.set c.toNat r)::R)->K x.gk x.kind x.about V w'):Xi b.o c K w:=by
 apply aaH;refine h.a λd w1 h=>?_;have ec:c=((c.toNat:X):O):=om
 have hlt:c.toNat<bx.length:=om
 have hrow:bx[c.toNat]?=S bx[c.toNat]:=gE hlt;have hr64:=h64 _ (Ph hlt);generalize bx[c.toNat]=row at hrow hr64;intro k4 hk4;refine Gm h0 h1 h.cw ?_;refine aW U ?_;obtain⟨s,ss,h⟩:=Ez h.cw;have hl:=iS (h.pick (ae7:=cU cD ss bx));have hlen:=h.aL s;have hsl:ss[c.toNat]?=S ss[c.toNat]:=gE om;generalize ss[c.toNat]=sj at hsl;have h:Ow B w0 w1 (af cD sj row::bo ((Ot (af cD) ss bx).eraseIdx c.toNat)::aa b [s.v]::af pU s ss::aa d [.z 0,.z 0,.z 0]::R):=(KV (h.pick (ae7:=cU cD ss bx)) hsl hrow).sub;have hlj:=h.aL sj;refine⟨_,U,s,h.aF U,h.bX (s:=s) ec hsl λa ha hc0 hc=>⟨sj,hc0 _ U,?_⟩⟩
 have same:∀w,Ow B w0 w (af cD sj row::bo ((Ot (af cD) ss bx).eraseIdx c.toNat)::aa b [s.v]::af pU s ss::R)->Ow B w0 w (dY b bx::R):=λw h=>by
  have h2:=oH (j:=c.toNat) hl hlt h;have e1:ss.set c.toNat sj=ss:=by obtain⟨p,q⟩:=Om.1 hsl;rw[<-q];exact Qn p
  have e2:bx.set c.toNat row=bx:=by obtain⟨p,q⟩:=Om.1 hrow;rw[<-q];exact Qn p
  rw[e1,e2]at h2;exact vv (s:=s) (ss:=ss) h2.sub
 cases row with
 |nil=>
  rw[show((sj.len:O)==0)=V from by simp at hlj|-;omega];apply hk4;refine aU U ?_;refine h.ay U U λw h=>?_;refine h.oP U ?_;exact hK0 hrow w (same w h.sub)
 |cons x r=>
  simp only[OB]at hlj hr64;rw[show((sj.len:O)==0)=Z from by simp;omega];apply hk4;refine aW U ?_;refine⟨_,U,s,h.aF U,h.bX (s:=s) ec hsl λa ha hc0 hc=>⟨sj,hc0 _ U,?_⟩⟩
  refine h.bX (s:=sj) (i:=0) (j:=0) U U λa2 ha2 hd0 hd=>?_;refine G5 hd ?_;refine h.a λe w2 h=>?_;refine h.ay U U λw h=>?_;refine h.dr λw h=>?_;refine⟨_,U,_,U,s,h.aF U,h.bX (s:=s) ec hsl λa ha hc0 hc=>⟨sj,hc0 _ U,s,h.aF U,Go.Vc.a2 ?_⟩⟩
  refine zX (s:=sj) (xs:=x::r) (i:=0) (j:=1) (h.pick (ae7:=af cD sj (x::r))) om qc (by simp;omega) λs' w h=>⟨h.aF U,?_⟩
  refine⟨a,ha,h0,om,Go.Vc.a2 (h.Dh (s:=s) (E:=pU) (i:=c) s' ec om ha U λw h=>?_)⟩;refine h.oP U ?_;refine h.ay U U λw h=>?_;refine h.oP U ?_;refine hK1 x r hrow w ?_;have h2:Ow B w0 w (af cD s' r::bo ((Ot (af cD) ss bx).eraseIdx c.toNat)::aa b [s.v]::af pU s (ss.set c.toNat s')::R):=Ow.sub (show Ow B w0 w (af pU s (ss.set c.toNat s')::af cD s' r::_)from h);exact vv (s:=s) (ss:=ss.set c.toNat s') (oH hl hlt h2).sub
def fB(x:fk)(ts:J O)(bx:J (J fk)):J (J fk):=bx.mapIdx λi l=>if(i:O)∈ts then l++ [x]else l
theorem Dc(x:fk)(bx:J (J fk)):fB x [] bx=bx:=by
 unfold fB;refine O2 λi=>?_;rw[PU];cases bx[i]?<;>simp
theorem BD{x:fk}{ts:J O}{bx:J (J fk)}{t:O}{l:J fk}(h0:0<=t)(hn:t∉ts)(hl:bx[t.toNat]?=S l):(fB x ts bx).set t.toNat (l++ [x])=fB x (ts++ [t]) bx/\(fB x ts bx)[t.toNat]?=S l:=by
 have et:((t.toNat:X):O)=t:=Qe h0;constructor
 .refine O2 λi=>?_
  unfold fB;by_cases e:i=t.toNat
  .subst e
   rw[O0 (by rw[S1];exact(Om.1 hl).1),PU,hl];simp[et]
  .rw[Qv (Ne.symm e),PU,PU]
   have:(i:O)≠t:=λh=>e om;cases bx[i]?<;>simp[this]
 .unfold fB
  rw[PU,hl];simp[et,hn]
theorem wY{x:fk}{to:Sl}{ts:J O}{K:O->Pw}(hb:bx.length<=8)(h64:∀l∈bx,l.length<=64)(hts:∀t∈ts,0<=t/\t<(bx.length:O))(hnd:ts.Nodup)(hbig:ts.length<=8)
  (h:Ow B w0 w (dY b bx::af aB to ts::R))
  (hK:∀e w',Ow B w0 w' (dY b (if ts.any (λt=>F (64<=((bx[t.toNat]?).getD []).length))then bx else fB x ts bx)::R)->K e w'):XO b.o x.gk x.kind x.about to K w:=by
 apply aaK;refine h.a λd w1 h=>?_;refine h.a λe w2 h=>?_;have hlt:=h.aL to;apply YH;refine oQ (s:=to) (xs:=ts) (p:=λt=>F (64<=((bx[t.toNat]?).getD []).length)) h om (λy w ae5 hy h hQ=>aT ?_) λw h=>?_
 .show Yx y d.p ae5 w
  apply aaL;obtain⟨y0,y1⟩:=hts y hy;have ey:y=((y.toNat:X):O):=om
  have h':=h;obtain⟨s,ss,h⟩:=Ez (h.pick (ae7:=dY b bx));have hl:=iS (h.pick (ae7:=cU cD ss bx));have hsl:ss[y.toNat]?=S ss[y.toNat]:=gE om;have hrow:bx[y.toNat]?=S bx[y.toNat]:=gE om;generalize ss[y.toNat]=sj at hsl;generalize bx[y.toNat]=row at hrow;have hlj:sj.len=row.length:=Ow.gv (h.pick (ae7:=cU cD ss bx)) hsl hrow;refine⟨_,h.aF U,_,U,s,h.aF U,h.bX (s:=s) ey hsl λa ha hc0 hc=>⟨sj,hc0 _ U,?_⟩⟩
  have e2:F ((sj.len:O)>=64)=F (64<=((bx[y.toNat]?).getD []).length):=by rw[hrow,PM,qL];omega
  rw[e2];exact hQ w h'
 .rw[jT]
  cases hany:ts.any (λt=>F (64<=((bx[t.toNat]?).getD []).length))with
  |true=>
   rw[hany,A U]at hK;exact aU U (hK _ w h.sub)
  |false=>
   rw[hany,Q qb]at hK;refine aW U ?_;intro l hl;have loop:∀(rest pre:J O)(w:Y),ts=pre++rest->Ow B w0 w (dY b (fB x pre bx)::af aB to ts::aa d [.q b]::aa e [.z x.gk,.z x.kind,.z x.about]::R)->l (pre.length:O) w:=by
    intro rest;induction rest with
    |nil=>
     intro pre w hp h;rw[OD]at hp;subst hp;apply hl;refine aw om ?_;exact hK _ w h.sub
    |cons t rest ih=>
     intro pre w hp h;have hlen2:ts.length=pre.length+(rest.length+1):=by rw[hp];simp
     have ht:ts[pre.length]?=S t:=by rw[hp];simp
     have hmem:=OV ht;obtain⟨t0,t1⟩:=hts t hmem;have et:t=((t.toNat:X):O):=om
     have hnt:t∉pre:=λhm=>by rw[hp]at hnd;exact(PZ.1 hnd).2.2 t hm t Po U
     have hrow:bx[t.toNat]?=S bx[t.toNat]:=gE om;have hr64:=h64 _ (Ph (show t.toNat<bx.length by omega));generalize bx[t.toNat]=row at hrow hr64;obtain⟨g1,g2⟩:=BD (x:=x) t0 hnt hrow;have hsb:(fB x pre bx).length=bx.length:=by unfold fB;rw[S1]
     apply hl;refine az om ?_;refine h.bX (s:=to) U ht λa ha hc0 hc=>⟨_,hc0 _ U,?_⟩
     refine h.dr λw h=>?_;obtain⟨s,ss,h⟩:=Ez h;have hl2:=iS (h.pick (ae7:=cU cD ss (fB x pre bx)));have hlen:=h.aL s;have hsl:ss[t.toNat]?=S ss[t.toNat]:=gE om;generalize ss[t.toNat]=sj at hsl;have h:Ow B w0 w (af cD sj row::bo ((Ot (af cD) ss (fB x pre bx)).eraseIdx t.toNat)::aa b [s.v]::af pU s ss::af aB to ts::aa d [.q b]::aa e [.z x.gk,.z x.kind,.z x.about]::R):=(KV (h.pick (ae7:=cU cD ss (fB x pre bx))) hsl g2).sub;refine⟨_,h.aF U,_,U,s,h.aF U,h.bX (s:=s) et hsl λa ha hc0 hc=>⟨sj,hc0 _ U,?_⟩⟩
     refine h.oP U ?_;refine⟨_,h.aF U,_,U,s,h.aF U,Go.Vc.a2 (h.al λw3 h=>Go.Vc.a2 ?_)⟩;generalize w.heap.size=f at h|-;refine Et (s:=sj) (xs:=row) (y:=x) h om λs' w hs' h=>⟨h.aF U,h.aF U,a,ha,t0,om,Go.Vc.a2 ?_⟩
     refine h.Dh (s:=s) (E:=pU) (i:=t) s' et om ha U λw h=>?_;rw[show qd.wrap ((pre.length:O)+1)=(((pre++ [t]).length:X):O)from by rw[wr om om,Ov];rfl];refine ih (pre++ [t]) w (by rw[hp];simp) ?_;rw[<-g1];have h2:Ow B w0 w (af cD s' (row++ [x])::bo ((Ot (af cD) ss (fB x pre bx)).eraseIdx t.toNat)::aa b [s.v]::af pU s (ss.set t.toNat s')::af aB to ts::aa d [.q b]::aa e [.z x.gk,.z x.kind,.z x.about]::R):=Ow.sub h;exact vv (s:=s) (ss:=ss.set t.toNat s') (oH hl2 om h2).sub
   have e0:fB x [] bx=bx:=Dc x bx;refine loop ts [] w U ?_;rw[e0];exact h.sub
def others(gk:O)(n:X):J O:=((OC n).map Int.ofNat).filter λi=>i !=gk
theorem Bf(gk:O)(n:X):others gk (n+1)=others gk n++if(n:O) !=gk then [(n:O)]else []:=by unfold others;rw[List.range_succ,OS,O9];congr 1;cases h:((n:O) !=gk)<;>simp[h]
theorem kc{gk:O}{n:X}{t:O}:t∈others gk n↔(0<=t/\t<(n:O))/\t≠gk:=by
 unfold others;rw[OE,O4];constructor
 .rintro ⟨⟨i,hi,e⟩,h2⟩
  have e:(i:O)=t:=e;have:=PQ.1 hi;exact⟨om,by simpa using h2⟩
 .rintro ⟨h1,h2⟩
  exact⟨⟨t.toNat,PQ.2 om,Qe h1.1⟩,by simpa using h2⟩
theorem E9(gk:O)(n:X):(others gk n).Nodup:=by unfold others;refine List.Pairwise.filter _ ?_;rw[QS];exact List.nodup_range.imp λh e=>h (Int.ofNat.inj e)
theorem vD(gk:O)(n:X):(others gk n).length<=n:=by have:=OR (λi=>i !=gk) ((OC n).map Int.ofNat);rw[O3,List.length_range]at this;exact this
theorem IC(gk about:O)(bx:J (J fk)):(if(others gk bx.length).any (λt=>F (64<=((bx[t.toNat]?).getD []).length))then bx else fB ⟨gk,0,about⟩ (others gk bx.length) bx)=pk gk about bx:=by
 have e1:(others gk bx.length).any (λt=>F (64<=((bx[t.toNat]?).getD []).length))=(OC bx.length).any λi=>F ((i:O)≠gk)&&F (64<=((bx[i]?).getD []).length):=by
  rw[Qm,PS,PS];constructor
  .rintro ⟨t,ht,h2⟩
   obtain⟨h1,h3⟩:=kc.1 ht;refine⟨t.toNat,PQ.2 om,?_⟩;rw[OH];exact⟨qm (by rw[Qe h1.1];exact h3),h2⟩
  .rintro ⟨i,hi,h2⟩
   rw[OH]at h2;have:=PQ.1 hi;exact⟨(i:O),kc.2 ⟨om,of_decide_eq_true h2.1⟩,by rw[Oo];exact h2.2⟩
 unfold pk;rw[e1];split
 .rfl
 .unfold fB
  refine O2 λi=>?_;rw[PU,PU];by_cases hi:i<bx.length
  .rw[gE hi]
   simp only[Option.map_some];by_cases e:(i:O)=gk
   .rw[A e,Q λh=>(kc.1 h).2 e]
   .rw[Q e,A (kc.2 ⟨om,e⟩)]
  .rw[OQ om];rfl
theorem yL{gk about:O}{K:O->Pw}(h0:0<=gk)(h1:gk<(bx.length:O))(hb:bx.length<=8)(h64:∀l∈bx,l.length<=64)(h:Ow B w0 w (dY b bx::R))
  (hK:∀e w',Ow B w0 w' (dY b (pk gk about bx)::R)->K e w'):Xj b.o gk 0 about K w:=by
 apply aaI;refine Gm h0 h1 h ?_;refine aW U ?_;have h':=h;obtain⟨s,ss,hx⟩:=Ez h;have hl:=iS (hx.pick (ae7:=cU cD ss bx));have hlen:=hx.aL s;refine⟨_,U,s,hx.aF U,?_⟩;intro l hl9;have loop:∀(m j:X)(to:Sl)(w:Y),j+m=bx.length->Ow B w0 w (af aB to (others gk j)::dY b bx::R)->l to (j:O) w:=by
  intro m;induction m with
  |zero=>
   intro j to w hj h;apply hl9;refine aw om ?_;have ej:j=bx.length:=om
   subst ej;refine wY (x:=⟨gk,0,about⟩) (ts:=others gk bx.length) hb h64 (λt ht=>(kc.1 ht).1) (E9 _ _) (ON (vD _ _) hb) h.cw λe w h=>?_;rw[IC]at h;exact hK e w h
  |succ m ih=>
   intro j to w hj h;have hsu:=Bf gk j;have hol:=vD gk j;apply hl9;refine az om ?_;have ew:qd.wrap ((j:O)+1)=((j+1:X):O):=by rw[wr om om];omega
   rw[ew];refine oO (λe=>?_) (λe=>?_)
   .rw[show((j:O) !=gk)=V from by simpa using e,A U]at hsu
    refine h.a λd w1 h=>?_;refine eQ (s:=to) (y:=(j:O)) h om λs' w hs' h=>?_;refine ih (j+1) s' w om ?_;rw[hsu];exact h.sub
   .rw[show((j:O) !=gk)=Z from by simpa using e,Q qb,OD]at hsu
    refine ih (j+1) to w om ?_;rw[hsu];exact h
 exact loop bx.length 0 z0 w om (Ow.cH h')
theorem wW{c:O}{K:O->Pw}(hb:bx.length<=8)(h64:∀l∈bx,l.length<=64)(h:Ow B w0 w (dY b bx::R))
  (hK:∀w',Ow B w0 w' (dY b bx::R)->K (kD bx c) w'):WD b.o c K w:=by
 apply aaG;obtain⟨s,ss,h⟩:=Ez h;have hl:=iS (h.pick (ae7:=cU cD ss bx));have hlen:=h.aL s;refine⟨_,U,s,h.aF U,?_⟩;intro l hl5;have bound:∀(l:J (J fk)),(∀r∈l,r.length<=64)->(l.map λl=>(l.filter λm=>F (m.gk=c)).length).sum<=64*l.length:=λl hl=>by
  induction l with
  |nil=>simp
  |cons r l ih=>
   have h1:=ih λq hq=>hl q (Pq _ hq);have h2:=OR (λm:fk=>F (m.gk=c)) r;have h3:=hl r Po;simp only[OZ,List.sum_cons,OB];omega
 have loop:∀(rest pre:J (J fk))(w:Y),bx=pre++rest->Ow B w0 w (aa b [s.v]::af pU s ss::cU cD ss bx::R)->l (kD pre c) (pre.length:O) w:=by
  intro rest;induction rest with
  |nil=>
   intro pre w hp h;rw[OD]at hp;subst hp;apply hl5;refine aw om ?_;exact hK w (vv h)
  |cons row rest ih=>
   intro pre w hp h;have hlen2:bx.length=pre.length+(rest.length+1):=by rw[hp];simp
   have hrow:bx[pre.length]?=S row:=by rw[hp];simp
   have hr64:=h64 row (OV hrow);have hpre:=bound pre λr hr=>h64 r (by rw[hp];exact Qw _ hr);have hsl:ss[pre.length]?=S ss[pre.length]:=gE om;generalize ss[pre.length]=sj at hsl;apply hl5;refine az om ?_;refine h.bX (s:=s) U hsl λa ha hc0 hc=>⟨sj,hc0 _ U,?_⟩
   have h:Ow B w0 w (af cD sj row::bo ((Ot (af cD) ss bx).eraseIdx pre.length)::aa b [s.v]::af pU s ss::R):=(KV (h.pick (ae7:=cU cD ss bx)) hsl hrow).sub;have hlj:=h.aL sj;intro l2 hl11;have inner:∀(m j:X)(w:Y),j+m=row.length->Ow B w0 w (af cD sj row::bo ((Ot (af cD) ss bx).eraseIdx pre.length)::aa b [s.v]::af pU s ss::R)->l2 (kD pre c+(((row.take j).filter λm=>F (m.gk=c)).length:O)) (j:O) w:=by
    intro m;induction m with
    |zero=>
     intro j w hj h;apply hl11;refine aw om ?_;rw[Ou om];rw[show qd.wrap ((pre.length:O)+1)=(((pre++ [row]).length:X):O)from by rw[wr om om,Ov];rfl];have e2:kD pre c+((row.filter λm=>F (m.gk=c)).length:O)=kD (pre++ [row]) c:=by unfold kD;rw[OS,List.sum_append];simp
     rw[e2];refine ih (pre++ [row]) w (by rw[hp];simp) ?_;have h2:=oH (j:=pre.length) hl om h;have e1:ss.set pre.length sj=ss:=by obtain⟨p,q⟩:=Om.1 hsl;rw[<-q];exact Qn p
     have e2:bx.set pre.length row=bx:=by obtain⟨p,q⟩:=Om.1 hrow;rw[<-q];exact Qn p
     rw[e1,e2]at h2;exact h2.sub
    |succ m ihm=>
     intro j w hj h;have hx:row[j]?=S row[j]:=gE om;have hft:=nx row (λm:fk=>F (m.gk=c)) j _ hx;generalize row[j]=y at hx hft;have hfl:=OR (λm:fk=>F (m.gk=c)) (row.take j);rw[OO]at hfl;apply hl11;refine az om ?_;refine h.bX (s:=sj) U hx λa ha hc0 hc=>?_;refine G5 hc ?_;refine h.a λd w1 h=>?_;refine h.ay U U λw h=>?_;refine h.l1 U ?_;have ew:qd.wrap ((j:O)+1)=((j+1:X):O):=by rw[wr om om];omega
     rw[ew];have hob:kD pre c<=512/\0<=kD pre c:=by unfold kD;omega
     have h:=h.drop;have hh:=ihm (j+1) w om h;rw[hft]at hh;refine dK (λe=>?_) (λe=>?_)
     .rw[A (qm e),Ov]at hh
      rw[wr om om,Int.add_assoc];exact hh
     .rw[Q (by rw[qk e];decide),OD]at hh
      exact hh
   have:=inner row.length 0 w om h;rw[PT]at this;simpa using this
 exact loop bx [] w U h
theorem uS{xs:J (qg X)}{p:qg X->W}{f:N}{K:O->Pw}[ae4:bY s L (qg X) mL xs](h:Ow B w0 w L)(hbig:xs.length<=1000000000)
  (hf:∀(y:qg X)(w:Y)(ae5:W->Pw),y∈xs->Ow B w0 w L->(∀w',Ow B w0 w' L->ae5 (p y) w')->cT qe f [.pointer (y.map λq=>⟨q,0,I⟩)] w λen w'=>∃r:W,en= .returned (.bool r)/\ae5 r w')
  (hK:∀w',Ow B w0 w' L->K (dH p xs) w'):Xk s f K w:=by
 apply aaf;have hlen:=h.aL s;intro l hl;have loop:∀(rest:J (qg X))(j:X)(w:Y),xs.drop j=rest->j<=xs.length->(∀i,i<j->∀y,xs[i]?=S y->p y=Z)->Ow B w0 w L->l (j:O) w:=by
  intro rest;induction rest with
  |nil=>
   intro j w hj hjl hno h;have:xs.length<=j:=by have:=qw PI hj;simp at this;omega
   apply hl;refine aw om ?_;have hn:xs.findIdx? p=none:=by rw[Pa];intro y hy;obtain⟨i,hi⟩:=O5.1 hy;exact hno i (by have:=(Om.1 hi).1;omega) y hi
   have e:dH p xs= -1:=by unfold dH;rw[hn]
   rw[<-e];exact hK _ h
  |cons y rest ih=>
   intro j w hj hjl hno h;have hjl2:j<xs.length:=by have:=qw PI hj;simp at this;omega
   have hx:xs[j]?=S y:=by have:=qw (λl=>l[0]?) hj;simpa using this
   apply hl;refine az om ?_;refine h.bX U hx λa ha h0 hc=>?_;refine⟨_,h0 _ U,hf y w _ (OV hx) h λw h=>?_⟩;cases hp:p y with
   |true=>
    refine aU U ?_;have hn:xs.findIdx? p=S j:=by
     rw[OT];refine⟨hjl2,?_,λi hi=>?_⟩
     .rw[gE hjl2]at hx;cases hx;exact hp
     .have:=hno i hi xs[i] (gE om)
      simp[this]
    have e:dH p xs=(j:O):=by unfold dH;rw[hn]
    rw[<-e];exact hK _ h
   |false=>
    refine aW U ?_;rw[wr om om];refine ih (j+1) w (by rw[<-Pz,hj];rfl) om (λi hi z hz=>?_) h;by_cases e:i=j
    .subst e;rw[hx]at hz;cases hz;exact hp
    .exact hno i om z hz
 exact loop xs 0 w U om (λi hi=>by omega) h
theorem pC(p:X):∀(ps:J X)(a:qg X),kz a (ps++ [p])=S p
 | [],a=>rfl
 |q::ps,a=>pC p ps (S q)
theorem vg(p:X)(c:O):∀(ps:J X)(cs:J O)(a:qg X),ps.length=cs.length->chain a (ps++ [p]) (cs++ [c])=chain a ps cs++ [(kz a ps,c)]
 | [],[],a,_=>rfl
 | [],_::_,a,h=>by simp at h
 |_::_,[],a,h=>by simp at h
 |q::ps,d::cs,a,h=>by show(a,d)::chain (S q) (ps++ [p]) (cs++ [c])=_;rw[vg p c ps cs (S q) (by simpa using h)];rfl
theorem sy:∀(ps:J X)(cs:J O)(a:qg X)(j:X)(c:O),ps.length=cs.length->cs[j]?=S c->(chain a ps cs)[j]?=S (kz a (ps.take j),c)
 | [],[],a,j,c,_,h=>by simp at h
 | [],_::_,a,_,_,h,_=>by simp at h
 |_::_,[],a,_,_,h,_=>by simp at h
 |q::ps,d::cs,a,0,c,_,h=>by cases h;rfl
 |q::ps,d::cs,a,j+1,c,h1,h=>by show(chain (S q) ps cs)[j]?=_;rw[sy ps cs (S q) j c (by simpa using h1) h];rfl
theorem Hz{α:Type}{ae7:X->α->aH}{p:X}{ps:J X}{y:α}{ys:J α}(h:Ow B w0 w (au ae7 (p::ps) (y::ys)::R)):Ow B w0 w (ae7 p y::au ae7 ps ys::R):=by obtain⟨hl,h⟩:=h.Fe;have h:Ow B w0 w (ae7 p y::(Ot ae7 ps ys++R)):=h;exact Ow.cw (Ow.jj (by simpa using hl) (h.perm PD.symm))
theorem LY{ps:J X}{xs:J (qg X × O)}{j p:X}{y:qg X × O}[ae4:eD (au fJ ps xs) L R](h:Ow B w0 w L)(hp:ps[j]?=S p)(hy:xs[j]?=S y):
  w.cell? p.p=S (.z y.2)/\w.cell? (p.p.add 1)=S (.pointer (y.1.map λq=>⟨q,0,I⟩))/\w.cell? (p.p.add 2)=S (.bool V):=by
 have h2:Ow B w0 w (aa p [.z y.2,.pointer (y.1.map λq=>⟨q,0,I⟩),.bool V]::_):=(h.pick (ae7:=au fJ ps xs)).pt hp hy;exact⟨h2.aF U,h2.aE U,h2.aE U⟩
theorem IJ{p:X}{a c:J N}(h:Ow B w0 w (aa p a::aa p c::R)):qj:=by
 obtain⟨ae3,hA,hG,ae1,h1,h2,h3,h4⟩:=h.held.cG;cases ae1 with
 |nil=>cases h1
 |cons z ae1=>
  have hz:z.1=aa p c:=(List.cons.inj h1).1;have h5:=(h2 z Po).1;rw[hz]at h5;exact h4 z Po p hA.1 h5.1
theorem Jn{p j:X}:∀{ps:J X}{xs:J (qg X × O)},Ow B w0 w (au fJ ps xs::R)->ps[0]?=S p->ps[j+1]?=S p->qj
 | [],_,_,h,_=>by simp at h
 |q::ps,xs,h,h0,hj=>by
  have hl:=h.cQ;cases xs with
  |nil=>simp at hl
  |cons y xs=>
   have e0:q=p:=Option.some.inj h0;subst e0;obtain⟨_,h⟩:=h.Fe;have hj:ps[j]?=S q:=hj;have hlt:=(Om.1 hj).1;have hz:(Ot fJ (q::ps) (y::xs)++R)[j+1]?=S (fJ q (xs[j]'(by simp at hl;omega))):=by rw[Oy (by simp at hl|-;omega)];show(Ot fJ ps xs)[j]?=_;rw[QI,hj,gE (by simp at hl;omega)]
   exact IJ (h.take (j+1) hz)
theorem Ko{q:X}[ae4:eD (kr (S q)) L R](h:Ow B w0 w L):w.cell? (q.p.add 2)=S (.bool Z):=by obtain⟨c,h2⟩:=(h.pick (ae7:=kr (S q))).ex;exact h2.aE U
theorem Ix.get(hx:Ix nc line x){c:O}(hc:c∈line):∃(j:X)(p:X),line[j]?=S c/\x.ps[j]?=S p/\x.vd[c.toNat]?=S (S p):=by
 obtain⟨j,hj⟩:=O5.1 hc;have hlt:=(Om.1 hj).1;have hl2:j<x.ps.length:=by rw[hx.ps];exact hlt
 have hp:x.ps[j]?=S x.ps[j]:=gE hl2;exact⟨j,_,hj,hp,hx.at_ j c _ hj hp⟩
theorem Ix.out(hx:Ix nc line x){c:O}(h0:0<=c)(h1:c<(nc:O))(hc:c∉line):x.vd[c.toNat]?=S none:=hx.no c.toNat om (by rw[Qe h0];exact hc)
theorem zb{c:O}{K:W->Pw}(h0:0<=c)(h1:c<(nc:O))(h:Ow B w0 w (ct b nc line::R))(hK:K V w):UO b.o c K w:=by apply ZK;obtain⟨x,hx,h⟩:=vt h;refine az om ?_;refine⟨_,U,h.l1 U ?_⟩;rw[qm h1];exact hK
theorem oS{K:qg qf->O->Pw}(n1:1<=nc)(n8:nc<=8)(h:Ow B w0 w R)(hK:∀b w',Ow B w0 w' (ct b nc []::R)->K b.o 0 w'):VL (nc:O) K w:=by
 apply ZH;intro k hk;refine aw om ?_;apply hk;refine aw om ?_;have hb:aeR.bytes=8:=qa
 have hp48:(2:O)^48=281474976710656:=qb
 refine Ow.rH (E:=mL) (z0:=I) (zv:= .pointer I) underlying337 (show qe.info? 338=S aeR from by kernel_rfl) qa qa U (n:=(nc:O)) h om (by rw[hb,hp48];omega) (by rw[hp48];omega) λs w hs h=>?_;rw[Oo]at h;refine h.al λw2 h=>?_;refine hK _ w2 (rI ⟨I,s,Oq nc I,[]⟩ ⟨qc,U,Sg,λc hc=>(by cases hc),λj c p hj=>(by simp at hj),λi hi _=>(by rw[List.getElem?_replicate,A hi])⟩ ?_);have h3:Ow B w0 w2 (au fJ [] []::kr I::aa w.heap.size [.z (nc:O),.pointer I,s.v]::af mL s (Oq nc I)::R):=Ow.jj U (Ow.br h);have h4:Ow B w0 w2 (aa w.heap.size [.z (nc:O),.pointer I,s.v]::af mL s (Oq nc I)::kr I::au fJ [] []::R):=h3.sub;exact h4
theorem ua{c:O}{K:O->Pw}(h0:0<=c)(h1:c<(nc:O))(hc:c∉line)(h:Ow B w0 w (ct b nc line::R))
  (hK:∀w',Ow B w0 w' (ct b nc (line++ [c])::R)->K 0 w'):Ux b.o c K w:=by
 apply YE;refine zb h0 h1 h ?_;refine aW U ?_;obtain⟨x,hx,h⟩:=vt h;have hlen:=h.aL x.s;have hxl:=hx.len;refine⟨_,U,x.s,h.aE U,?_⟩;have ec:c=((c.toNat:X):O):=om
 refine h.bX (s:=x.s) ec (hx.out h0 h1 hc) λa ha hc0 hcc=>⟨_,hc0 _ U,?_⟩
 refine aW U ?_;refine⟨_,U,h.l2 U (h.a λp w1 h=>?_)⟩;refine⟨_,U,x.s,h.aE U,_,U,h.gh U U λw h=>?_⟩;refine⟨a,ha,h0,om,h.Dh (s:=x.s) (E:=mL) (i:=c) (S p) ec om ha U λw h=>?_⟩;refine hK w (rI ⟨x.a0,x.s,x.vd.set c.toNat (S p),x.ps++ [p]⟩ ?_ ?_)
 .have hps:=hx.ps
  refine⟨by rw[Pe];exact hxl,by simp[hps],?_,λd hd=>?_,λj d q hj hq=>?_,λi hi hn=>?_⟩
  .exact PZ.2 ⟨hx.nd,qc,λu hu v hv=>by rw[OY]at hv;rintro rfl;exact hc (hv▸hu)⟩
  .rcases Pn.1 hd with hd|hd
   .exact hx.zT d hd
   .rw[OY.1 hd];exact⟨h0,h1⟩
  .dsimp only at hq|-
   by_cases hjl:j<line.length
   .rw[Oy hjl]at hj
    rw[Oy om]at hq;have hd:=OV hj;have hr:=hx.zT d hd;rw[Qv (λe=>hc (by rw[show c=d from by omega];exact hd))];exact hx.at_ j d q hj hq
   .rw[OA om]at hj hq
    have e1:j-line.length=0:=by have:=(Om.1 hj).1;simp at this;omega
    rw[e1]at hj;rw[hps,e1]at hq;cases hj;cases hq;rw[O0 om]
  .dsimp only
   rw[Qv (λe=>hn (List.mem_append_right _ (OY.2 om)))];exact hx.no i hi λhm=>hn (Qw _ hm)
 .show Ow B w0 w (aa b [.z (nc:O),.pointer ((kz x.a0 (x.ps++ [p])).map λq=>⟨q,0,I⟩),x.s.v]::af mL x.s (x.vd.set c.toNat (S p))::kr x.a0::au fJ (x.ps++ [p]) (chain x.a0 (x.ps++ [p]) (line++ [c]))::R)
  rw[pC,vg p c _ _ _ hx.ps];have h1:Ow B w0 w (aa p [.z c,.pointer ((kz x.a0 x.ps).map λq=>⟨q,0,I⟩),.bool V]::au fJ x.ps (chain x.a0 x.ps line)::aa b [.z (nc:O),.q p,x.s.v]::af mL x.s (x.vd.set c.toNat (S p))::kr x.a0::R):=h.sub;have h2:Ow B w0 w (fJ p (kz x.a0 x.ps,c)::au fJ x.ps (chain x.a0 x.ps line)::aa b [.z (nc:O),.q p,x.s.v]::af mL x.s (x.vd.set c.toNat (S p))::kr x.a0::R):=h1;have h3:=h2.nL;have h4:Ow B w0 w (aa b [.z (nc:O),.q p,x.s.v]::af mL x.s (x.vd.set c.toNat (S p))::kr x.a0::au fJ (x.ps++ [p]) (chain x.a0 x.ps line++ [(kz x.a0 x.ps,c)])::R):=h3.sub;exact h4
theorem AK{R':J aH}{j p:X}{c:O}{K:W->Pw}(hx:Ix nc line x)(hj:line[j]?=S c)(hp:x.ps[j]?=S p)[ae4:eD (au fJ x.ps (AV x line)) L R][I2:eD (kr x.a0) L R'](h:Ow B w0 w L)
  (hK:K (F (j=0)) w):UP p.o K w:=by
 apply ZL;have hg:=sy x.ps line x.a0 j c hx.ps hj;obtain⟨g1,g2,g3⟩:=LY h hp hg;refine⟨_,U,_,g2,?_⟩;cases j with
 |zero=>
  rw[PT]at g2|-;show bif (SO _ x.a0).isNone then _ else _;cases ha:x.a0 with
  |none=>exact aU U hK
  |some q=>
   rw[ha]at I2;have g2':w.cell? (p.p.add 1)=S (.q q):=by rw[g2];show S (Value.pointer (SO _ x.a0))=_;rw[ha];rfl
   refine aW U ⟨_,U,_,g2',_,U,_,Ko (ae4:=I2) h,hK⟩
 |succ j=>
  have hlt:j+1<x.ps.length:=(Om.1 hp).1;have hjl:j<line.length:=by rw[<-hx.ps];omega
  have ht:x.ps.take (j+1)=x.ps.take j++ [x.ps[j]]:=by rw[OG,gE om];rfl
  rw[ht,pC]at g2|-;have hq:x.ps[j]?=S x.ps[j]:=gE om;obtain⟨_,_,k3⟩:=LY h hq (sy x.ps line x.a0 j _ hx.ps (gE hjl));exact aW U ⟨_,U,_,g2,_,U,_,k3,hK⟩
theorem I3(hx:Ix nc line x){j:X}{c:O}(hj:line[j]?=S c):nK line c=F (j=0):=by
 unfold nK;rw[qL,List.head?_eq_getElem?];refine⟨λe=>?_,λe=>by rw[<-e];exact hj⟩;have h0:=(Om.1 e)
 have h1:=(Om.1 hj)
 obtain⟨a0,b0⟩:=h0;obtain⟨a1,b1⟩:=h1;cases j with
 |zero=>rfl
 |succ j=>exact qi (b0.trans b1.symm) ((List.pairwise_iff_getElem.1 hx.nd) 0 (j+1) a0 a1 om)
theorem ji{c:O}{K:W->O->Pw}(h0:0<=c)(h1:c<(nc:O))(h:Ow B w0 w (ct b nc line::R))
  (hK:K (nK line c) (if c∈line then 0 else 161) w):Uy b.o c K w:=by
 apply ZI;refine zb h0 h1 h ?_;refine aW U ?_;obtain⟨x,hx,h⟩:=vt h;have hlen:=h.aL x.s;have hxl:=hx.len;refine⟨_,U,x.s,h.aE U,?_⟩;have ec:c=((c.toNat:X):O):=om
 by_cases hc:c∈line
 .rw[A hc]at hK
  obtain⟨j,p,hj,hp,hb⟩:=hx.get hc;refine h.bX (s:=x.s) ec hb λa ha hc0 hcc=>⟨_,hc0 _ U,?_⟩
  refine aW U ?_;refine⟨_,U,x.s,h.aE U,h.bX (s:=x.s) ec hb λa ha hc0 hcc=>⟨_,hc0 _ U,?_⟩⟩
  refine AK hx hj hp h ?_;rw[<-I3 hx hj];exact hK
 .rw[Q hc]at hK
  refine h.bX (s:=x.s) ec (hx.out h0 h1 hc) λa ha hc0 hcc=>⟨_,hc0 _ U,?_⟩
  refine aU U ?_;have e:nK line c=false:=qk λe=>hc (List.mem_of_mem_head? e);rw[e]at hK;exact hK
theorem uc{c:O}{cs:J O}{K:O->Pw}(h:Ow B w0 w (ct b nc (c::cs)::R))
  (hK:∀w',Ow B w0 w' (ct b nc cs::R)->K 0 w'):Uz b.o c K w:=by
 obtain⟨x0,hx0,_⟩:=vt h;obtain⟨h0,h1⟩:=hx0.zT c Po;apply YF;refine ji h0 h1 h ?_;rw[A Po,show nK (c::cs) c=V from qm U];refine fG U (aW U ?_);clear hx0;obtain⟨x,hx,h⟩:=vt h;have hlen:=h.aL x.s;have hxl:=hx.len;have hpl:=hx.ps;obtain⟨a0,s,vd,ps⟩:=x;cases ps with
 |nil=>simp at hpl
 |cons p ps=>
  dsimp only at hlen hxl hpl h;have h:Ow B w0 w (aa b [.z (nc:O),.pointer ((kz (S p) ps).map λq=>⟨q,0,I⟩),s.v]::af mL s vd::kr a0::au fJ (p::ps) ((a0,c)::chain (S p) ps cs)::R):=h;have ec:c=((c.toNat:X):O):=om
  have hb:=hx.at_ 0 c p U U;dsimp only at hb;refine⟨_,U,s,h.aE U,h.bX (s:=s) ec hb λa ha hc0 hcc=>⟨_,hc0 _ U,?_⟩⟩
  have h:Ow B w0 w (au fJ (p::ps) ((a0,c)::chain (S p) ps cs)::aa b [.z (nc:O),.pointer ((kz (S p) ps).map λq=>⟨q,0,I⟩),s.v]::af mL s vd::R):=h.sub;have h:=Hz h;have h:Ow B w0 w (aa p [.z c,.pointer (a0.map λq=>⟨q,0,I⟩),.bool V]::au fJ ps (chain (S p) ps cs)::aa b [.z (nc:O),.pointer ((kz (S p) ps).map λq=>⟨q,0,I⟩),s.v]::af mL s vd::R):=h;refine⟨_,U,h.gh U U λw h=>⟨_,U,?_⟩⟩
  refine h.gh U U λw h=>⟨_,U,s,?_,a,ha,h0,om,?_⟩
  .exact h.aE U
  refine h.Dh (s:=s) (E:=mL) (i:=c) I ec om ha U λw h=>?_;refine hK w (rI ⟨S p,s,vd.set c.toNat I,ps⟩ ?_ ?_)
  .have hnd:=List.nodup_cons.1 hx.nd
   refine⟨by rw[Pe];exact hxl,by simpa using hpl,hnd.2,λd hd=>hx.zT d (Pq _ hd),λj d q hj hq=>?_,λi hi hn=>?_⟩
   .dsimp only at hq|-
    have hd:=OV hj;have hr:=hx.zT d (Pq _ hd);rw[Qv (λe=>hnd.1 (by rw[show c=d from by omega];exact hd))];exact hx.at_ (j+1) d q hj hq
   .dsimp only
    by_cases e:c.toNat=i
    .subst e
     rw[O0 om]
    .rw[Qv e]
     exact hx.no i hi λhm=>by
      rcases Oz.1 hm with hm|hm
      .omega
      .exact hn hm
  .have h2:Ow B w0 w (aa p [.z c,.pointer I,.bool Z]::au fJ ps (chain (S p) ps cs)::aa b [.z (nc:O),.pointer ((kz (S p) ps).map λq=>⟨q,0,I⟩),s.v]::af mL s (vd.set c.toNat I)::R):=h.sub
   have h3:Ow B w0 w (kr (S p)::au fJ ps (chain (S p) ps cs)::aa b [.z (nc:O),.pointer ((kz (S p) ps).map λq=>⟨q,0,I⟩),s.v]::af mL s (vd.set c.toNat I)::R):=Ow.eP c h2;exact h3.sub
theorem sK{K:O->W->Pw}(hl8:nc<=8)(h:Ow B w0 w (ct b nc line::R))
  (hK:∀v w',Ow B w0 w' (ct b nc line::R)->K v (!line.isEmpty) w'):WE b.o K w:=by
 apply ZJ;obtain⟨x,hx,h⟩:=vt h;have hxl:=hx.len;refine⟨_,U,x.s,h.aE U,?_⟩;have hm:∀y∈x.vd,y=I\/∃j c p,y=S p/\line[j]?=S c/\x.ps[j]?=S p:=λy hy=>by
  obtain⟨i,hi⟩:=O5.1 hy;have hil:=(Om.1 hi).1;by_cases hc:(i:O)∈line
  .obtain ⟨j,p,h1,h2,h3⟩:=hx.get hc
   rw[Oo,hi]at h3;exact .inr ⟨j,_,p,Option.some.inj h3,h1,h2⟩
  .have:=hx.no i om hc
   rw[hi]at this;exact .inl (Option.some.inj this)
 refine uS (s:=x.s) (xs:=x.vd) (p:=λy=>match y with|none=>Z|some q=>F (x.ps[0]?=S q)) h om (λy w ae5 hy h hQ=>?_) λw h=>?_
 .refine aT ?_
  show Yd (y.map λq=>⟨q,0,I⟩) ae5 w;apply ZM;rcases hm y hy with rfl|⟨j,c,p,rfl,hj,hp⟩
  .exact aW U (hQ w h)
  .refine aU U ?_
   refine AK hx hj hp h ?_;have e:F (x.ps[0]?=S p)=F (j=0):=by
    rw[qL];refine⟨λe=>?_,λe=>by rw[<-e];exact hp⟩;cases j with
    |zero=>rfl
    |succ j=>
     exfalso;exact Jn (h.pick (ae7:=au fJ x.ps (AV x line))) e hp
   rw[<-e];exact hQ w h
 .have e:F (dH (λy=>match y with|none=>Z|some q=>F (x.ps[0]?=S q)) x.vd>=0)= !line.isEmpty:=by
   rw[jT];cases hl:line with
   |nil=>
    rw[Qf.2 λy hy=>?_]
    .rfl
    .rcases hm y hy with rfl|⟨j,c,p,rfl,hj,hp⟩
     .exact Bool.false_ne_true
     .rw[hl]at hj;simp at hj
   |cons c cs=>
    have hlt:0<x.ps.length:=by rw[hx.ps,hl];simp
    have hp:x.ps[0]?=S x.ps[0]:=gE hlt;have hb:=hx.at_ 0 c _ (by rw[hl];rfl) hp;rw[PS.2 ⟨S x.ps[0],OV hb,qm hp⟩];rfl
  rw[e];exact hK _ w (rI x hx h)
end
end Mc
section
variable{B:X}{w0 w:Y}{R L:J aH}{b nb nt:X}{k:ag}{ae6:X}{s:Sl}
def pd(b nb nt:X)(k:ag):aH:=pa λx:Kx=>bo [aa b (bN x k.aZ k.cM nb nt),Sl.aC x.n k.bits k.H,Tr.bZ x.tr k.T,Th.bG x.t k.t,bR x.ln k.ln,af eM x.su k.u,af cd x.se x.pe,au cV x.pe k.ends,af cd x.sn x.pn,au cj x.pn k.notes,af cd x.ss x.ps,au Tb.bK x.ps k.ae]
theorem LL(h:Ow B w0 w (pd b nb nt k::R)):∃x:Kx,Ow B w0 w (aa b (bN x k.aZ k.cM nb nt)::Sl.aC x.n k.bits k.H::Tr.bZ x.tr k.T::Th.bG x.t k.t::bR x.ln k.ln::af eM x.su k.u::af cd x.se x.pe::au cV x.pe k.ends::af cd x.sn x.pn::au cj x.pn k.notes::af cd x.ss x.ps::au Tb.bK x.ps k.ae::R):=by obtain⟨x,h⟩:=Ow.ex h;exact⟨x,h.star⟩
theorem ze(x:Kx){bits:J O}{H:Sl.Hs}{T:Tr.Tr}{t:Th.Mt}{ln:wR}{u:J sw}{ends:J eN}{notes:J oN}{ae:J Tb.dv}{fr tb:X}
  (h:Ow B w0 w (aa b (bN x fr tb nb nt)::Sl.aC x.n bits H::Tr.bZ x.tr T::Th.bG x.t t::bR x.ln ln::af eM x.su u::af cd x.se x.pe::au cV x.pe ends::af cd x.sn x.pn::au cj x.pn notes::af cd x.ss x.ps::au Tb.bK x.ps ae::R)):
  Ow B w0 w (pd b nb nt ⟨bits,H,T,t,ln,u,ends,notes,ae,fr,tb⟩::R):=Ow.eP x (Ow.br h)
theorem GY(h:Ow B w0 w (pd b nb nt k::R)):∃(bt:X)(aeY:aH),Ow B w0 w (Th.bG bt k.t::aeY::R)/\w.cell? (b.p.add 2)=S (.q bt)/\
  (∀R' w',Ow B w0 w' (Th.bG bt k.t::aeY::R')->w'.cell? (b.p.add 2)=S (.q bt))/\
  (∀R' w' t,Ow B w0 w' (Th.bG bt t::aeY::R')->w'.cell? (b.p.add 2)=S (.q bt)/\Ow B w0 w' (pd b nb nt (k.bQ t)::R')):=by
 obtain⟨x,h⟩:=LL h;have hback:∀R' w' t,Ow B w0 w' (Th.bG x.t t::bo [aa b (bN x k.aZ k.cM nb nt),Sl.aC x.n k.bits k.H,Tr.bZ x.tr k.T,bR x.ln k.ln,af eM x.su k.u,af cd x.se x.pe,au cV x.pe k.ends,af cd x.sn x.pn,au cj x.pn k.notes,af cd x.ss x.ps,au Tb.bK x.ps k.ae]::R')->w'.cell? (b.p.add 2)=S (.q x.t)/\Ow B w0 w' (pd b nb nt (k.bQ t)::R'):=λR' w' t h=>by have h:Ow B w0 w' (aa b (bN x k.aZ k.cM nb nt)::Sl.aC x.n k.bits k.H::Tr.bZ x.tr k.T::bR x.ln k.ln::af eM x.su k.u::af cd x.se x.pe::au cV x.pe k.ends::af cd x.sn x.pn::au cj x.pn k.notes::af cd x.ss x.ps::au Tb.bK x.ps k.ae::Th.bG x.t t::R'):=(h.cw).star;exact⟨h.aE U,(show Ow B w0 w' (pd b nb nt (k.bQ t)::R')from ze x h.sub)⟩
 have h1:Ow B w0 w (Th.bG x.t k.t::bo [aa b (bN x k.aZ k.cM nb nt),Sl.aC x.n k.bits k.H,Tr.bZ x.tr k.T,bR x.ln k.ln,af eM x.su k.u,af cd x.se x.pe,au cV x.pe k.ends,af cd x.sn x.pn,au cj x.pn k.notes,af cd x.ss x.ps,au Tb.bK x.ps k.ae]::R):=Ow.cw (Ow.br (show Ow B w0 w (aa b (bN x k.aZ k.cM nb nt)::Sl.aC x.n k.bits k.H::Tr.bZ x.tr k.T::bR x.ln k.ln::af eM x.su k.u::af cd x.se x.pe::au cV x.pe k.ends::af cd x.sn x.pn::au cj x.pn k.notes::af cd x.ss x.ps::au Tb.bK x.ps k.ae::Th.bG x.t k.t::R)from h.sub));exact⟨x.t,_,h1,(hback R w k.t h1).1,λR' w' h=>(hback R' w' k.t h).1,hback⟩
theorem lH{i kind obj:O}{K:O->Pw}(hT:k.T.length<1000000)(h:Ow B w0 w (pd b nb nt k::R))(hK:∀w',Ow B w0 w' (pd b nb nt (k.dM i kind obj)::R)->K (qd.wrap (i+1)) w'):Su b.o i kind obj K w:=by
 apply aa5;refine h.a λc w1 h=>?_;refine h.ay U U λw h=>?_;obtain⟨x,h⟩:=LL (h.pick (ae7:=pd b nb nt k));refine h.dr λw h=>?_;refine⟨_,U,h.l1 U (h.aN U ⟨Sl.iW (s:=(0,i)) (c:=⟨kind,obj,7,0,0,0⟩) lk (h.pick (ae7:=Sl.aC x.n k.bits k.H)) λw h=>?_,trivial⟩)⟩;refine h.dr λw h=>?_;refine⟨_,U,h.l2 U (h.aN U ⟨Tr.wu (s:=(0,i)) hT (h.pick (ae7:=Tr.bZ x.tr k.T)) λw h=>?_,trivial⟩)⟩;refine hK w ?_;exact(ze x h.sub:Ow B w0 w (pd b nb nt (k.dM i kind obj)::R))
theorem CF{t:Th.Mt}{bt:X}{p c:O}{K:O->O->Pw}(hm:Th.de t)(h:Ow B w0 w (Th.bG bt t::R))(hK:∀w',Ow B w0 w' (Th.bG bt (t.cv p c).2.2::R)->K (t.cv p c).1 (t.cv p c).2.1 w'):S3 bt.o p c K w:=by
 unfold Th.Mt.cv at hK;refine Th.oW hm h (λe w h=>?_) (λe e1 w h=>?_) (λe e1 w h=>?_)
 .rw[A e]at hK;exact hK w h
 .rw[Q (λhh=>hh e),A e1]at hK;exact hK w h
 .rw[Q (λhh=>hh e),Q om]at hK;exact hK w h
theorem xo{c bits lines:O}{prios:J O}{K:qg qf->O->Pw}[ae4:bY s L O aB prios](h:Ow B w0 w L)(hbig:prios.length<=1000000000)
  (hK0:ag.gC c bits lines prios=Z->∀w',Ow B w0 w' L->K I 1 w')
  (hK1:ag.gC c bits lines prios=V->∀b w',Ow B w0 w' (aj b (ag.fC c.toNat bits.toNat lines.toNat prios)::L)->K b.o 0 w'):Vj c bits lines s K w:=by
 apply aa0;refine h.a λcb w1 h=>?_;refine h.gO U ?_;refine Da (s:=s) h hbig λw h=>?_;cases hr:ag.gC c bits lines prios with
 |false=>exact aU U (hK0 hr w h.drop)
 |true=>
 have hK:=hK1 hr;clear hK0 hK1;obtain⟨b1,b2,b3,b4,b5,b6,b7,b8⟩:=of_decide_eq_true hr;clear hr;obtain⟨c,rfl⟩:=Ox (show 0<=c by omega);obtain⟨bits,rfl⟩:=Ox (show 0<=bits by omega);obtain⟨lines,rfl⟩:=Ox b5;have b2:c<=8:=om
 have b9:4<=bits/\bits<=20:=⟨om,om⟩
 have b6:lines<=8:=om
 have b7:prios.length=c:=om
 simp only[Oo]at hK;have hlen:s.len=prios.length:=(h.drop).aL s;refine aW U ?_;intro k12 hk12;have fin:∀(kb n tr ub sp pb:X)(w:Y),Ow B w0 w (aa kb [.q n,.q tr,.pointer I,.pointer I,.slice ub.o 1 1,.slice I 0 0,.slice I 0 0,.slice pb.o 1 1,.z 0,.z 0,.z 1,.z c]::Sl.aC n [] (λ_=>I)::Tr.bZ tr []::aa ub [.y 0,.z bits,.y 0]::Tb.bK sp Tb.iF::aa pb [.q sp]::aa cb [.z c,.z bits,.z lines,s.v]::L)->k12 kb.o w:=λkb n tr ub sp pb w h=>by
  apply hk12;refine h.l1 U ?_;refine Th.zK h (λe=>qi ⟨om,om⟩ e) λcc ecc _ _ bt w h=>?_;obtain rfl:c=cc:=om
  refine⟨_,U,h.gh U U λw h=>?_⟩;refine y5 h λbl w h=>?_;refine⟨_,U,h.gh U U λw h=>?_⟩;refine⟨_,U,h.l1 U (Sl.im (h.pick (ae7:=Sl.aC n [] (λ_=>I))) λw h=>?_)⟩;have h:=(h.pick (ae7:=aa ub [.y 0,.z bits,.y 0])).Ak (E:=eM) [⟨0,bits,0⟩] U;have h:=(h.pick (ae7:=aa pb [.q sp])).Ak (E:=cd) [sp] U;have h:=Ow.jj (ae7:=cV) (ps:=[]) (xs:=[]) U h;have h:=Ow.cH (E:=cd) h;have h:=Ow.jj (ae7:=cj) (ps:=[]) (xs:=[]) U h;have h:=Ow.cH (E:=cd) h;have h:=Ow.jj (ae7:=Tb.bK) (ps:=[sp]) (xs:=[Tb.iF]) U (h.pick (ae7:=Tb.bK sp Tb.iF));have h:Ow B w0 w (au Tb.bK [sp] [Tb.iF]::af cd z0 []::au cj [] []::af cd z0 []::au cV [] []::af cd ⟨S pb.p,1,1⟩ [sp]::af eM ⟨S ub.p,1,1⟩ [⟨0,bits,0⟩]::Sl.aC n [6] (λ_=>I)::bR bl (Oq 8 ⟨0,0,0⟩)::Th.bG bt (Th.fp c)::aa kb [.q n,.q tr,.q bt,.q bl,.slice ub.o 1 1,.slice I 0 0,.slice I 0 0,.slice pb.o 1 1,.z 0,.z 0,.z 1,.z c]::Tr.bZ tr []::aa cb [.z c,.z bits,.z lines,s.v]::L):=h;have h:Ow B w0 w (aa kb [.q n,.q tr,.q bt,.q bl,.slice ub.o 1 1,.slice I 0 0,.slice I 0 0,.slice pb.o 1 1,.z 0,.z 0,.z 1,.z c]::Sl.aC n [6] (λ_=>I)::Tr.bZ tr []::Th.bG bt (Th.fp c)::bR bl (Oq 8 ⟨0,0,0⟩)::af eM ⟨S ub.p,1,1⟩ [⟨0,bits,0⟩]::af cd z0 []::au cV [] []::af cd z0 []::au cj [] []::af cd ⟨S pb.p,1,1⟩ [sp]::au Tb.bK [sp] [Tb.iF]::aa cb [.z c,.z bits,.z lines,s.v]::L):=h.sub;have h:Ow B w0 w (pd kb 1 c (ag.kN c bits)::aa cb [.z c,.z bits,.z lines,s.v]::L):=ze ⟨n,tr,bt,bl,⟨S ub.p,1,1⟩,z0,z0,⟨S pb.p,1,1⟩,[],[],[sp]⟩ h;have g0:=zh (c:=c) b2 b9;obtain⟨g1,g2⟩:=vb (c:=c) b2 b9;have fh:∀{m:X}{k:ag},mS c m k->k.T.length<1000000:=λg=>by have:=g.ok.fh;omega
  refine lH (i:=0) (kind:=2) (obj:=0) (fh g0) h λw h=>?_;rw[show qd.wrap (0+1)=1 from by decide];refine lH (i:=1) (kind:=1) (obj:=0) (fh g1) h λw h=>?_;rw[show qd.wrap (1+1)=2 from by decide];refine⟨s,h.aE U,?_⟩;intro l36 hl36;have loop:∀(ps:J O)(j:X)(k:ag)(w:Y),prios.drop j=ps->j+ps.length=c->mS c (2+j) k->k.t.bF.length=j->ag.mZ ps j k=ag.mZ prios 0 (((ag.kN c bits).dM 0 2 0).dM 1 1 0)->
    Ow B w0 w (pd kb 1 c k::aa cb [.z c,.z bits,.z lines,s.v]::L)->l36 ((2+j:X):O) (j:O) w:=by
   intro ps;induction ps with
   |nil=>
    intro j k w hd hj g ht he h;have hj:j=c:=hj;have he:k=_:=he;apply hl36;refine aw om ?_;refine lH (i:=((2+j:X):O)) (kind:=8) (obj:=0) (fh g) h λw h=>?_;refine h.l2 U ?_;intro l61 hl61;have g3:=g.space om;have lines_loop:∀(q t:X)(k:ag)(w:Y),t+q=lines->mS c (3+c+t) k->ag.tB q t (3+prios.length) k=ag.fC c bits lines prios->k.t.bF.length=c->Ow B w0 w (pd kb 1 c k::aa cb [.z c,.z bits,.z lines,s.v]::L)->l61 ((3+c+t:X):O) (t:O) w:=by
     intro q;induction q with
     |zero=>
      intro t k w hq g he ht h;have he:k=ag.fC c bits lines prios:=he;apply hl61;refine aw om ?_;refine hK kb w ?_;rw[<-he];have h2:pd kb 1 c k=aj kb k:=by unfold pd aj;rw[ht,g.bits];rfl
      rw[h2]at h;exact h.sub
     |succ q ih=>
      intro t k w hq g he ht h;apply hl61;refine az om ?_;refine lH (i:=((3+c+t:X):O)) (kind:=9) (obj:=(t:O)) (fh g) h λw h=>?_;rw[show qd.wrap (((3+c+t:X):O)+1)=((3+c+(t+1):X):O)from by rw[wr om om];omega,
       show qd.wrap ((t:O)+1)=((t+1:X):O)from by rw[wr om om];omega]
      refine ih (t+1) _ w om (g.line om om) ?_ ht h;rw[<-he,b7];rfl
    have hi:qd.wrap (((2+j:X):O)+1)=((3+c+0:X):O):=by rw[wr om om];omega
    rw[hi];refine lines_loop lines 0 (k.dM ((2+j:X):O) 8 0) w om (show mS c (3+c+0) (k.dM ((2+j:X):O) 8 0)from by rw[show 3+c+0=2+j+1 from by omega];exact g3) ?_ (ht.trans hj) h;unfold ag.fC;rw[<-he,hj,b7]
   |cons p ps ih=>
    intro j k w hd hj g ht he h;rw[OB]at hj;have hx:prios[j]?=S p:=by have:=qw (λl=>l[0]?) hd;simpa using this
    have hp:0<=p/\p<256:=b8 p (OV hx);obtain⟨g3,g4,g5⟩:=g.zL om b2 ht hp;apply hl36;refine az om ?_;refine h.bX (s:=s) (i:=(j:O)) (j:=j) U hx λa ha h0 hcc=>⟨_,h0 _ U,?_⟩
    obtain⟨bt,aeY,h,hc2,_,hback⟩:=GY h;refine⟨_,U,_,hc2,CF g.ok.inv.ok h λw h=>?_⟩;refine⟨_,U,_,(hback _ w _ h).1,?_⟩;have i1:=g.ok.inv.cv p (j:O);refine Th.vS i1.ok h λw h=>?_;refine⟨_,U,_,(hback _ w _ h).1,Th.iO (i1.resume _).ok h λw h=>?_⟩;have h:=(hback _ w _ h).2;refine lH (k:=k.bQ (((k.t.cv p (j:O)).2.2.bE (k.t.cv p (j:O)).1).2.aV (j:O))) (i:=((2+j:X):O)) (kind:=3) (obj:=(k.t.cv p (j:O)).1) (fh g:k.T.length<1000000) h λw h=>?_;rw[show qd.wrap (((2+j:X):O)+1)=((2+(j+1):X):O)from by rw[wr om om];omega,
     show qd.wrap ((j:O)+1)=((j+1:X):O)from by rw[wr om om];omega]
    refine ih (j+1) _ w ?_ om g3 g4 (he▸rfl) h;rw[<-Pz,hd];rfl
  exact loop prios 0 _ w U om g2 U U h
 refine h.dr λw h=>?_;refine⟨_,h.aE U,_,h.aF U,?_,?_,trivial⟩
 .refine Sl.nY h λn w h=>?_
  refine⟨h.aF U,h.aE U,?_,?_,trivial⟩
  .refine Tr.kX h λtr w h=>?_
   refine⟨h.aF U,h.aE U,?_,?_,trivial⟩
   .refine h.a λub v1 h=>?_;refine⟨Tb.iP h λsp w h=>?_,trivial⟩
    refine⟨h.aF U,h.al λv2 h=>⟨?_,trivial⟩,trivial⟩
    generalize w.heap.size=pb at h|-;refine h.a λkb v3 h=>?_;exact fin kb n tr ub sp pb _ h.sub
   .refine Tb.iP h λsp w h=>?_
    refine⟨h.aF U,h.aE U,?_,?_,trivial⟩
    .refine h.al λv1 h=>⟨?_,trivial⟩
     generalize w.heap.size=ub at h|-;refine h.al λv2 h=>⟨?_,trivial⟩
     generalize v1.heap.size=pb at h|-;refine h.a λkb v3 h=>?_;exact fin kb n tr ub sp pb _ h.sub
    .refine h.al λv1 h=>⟨?_,trivial⟩
     generalize w.heap.size=pb at h|-;refine h.al λv2 h=>⟨?_,trivial⟩
     generalize v1.heap.size=ub at h|-;refine h.a λkb v3 h=>?_;exact fin kb n tr ub sp pb _ h.sub
  .refine h.al λv1 h=>⟨?_,trivial⟩
   generalize w.heap.size=ub at h|-;refine Tr.kX h λtr w h=>?_;refine⟨h.aF U,Tb.iP h λsp w h=>?_,trivial⟩;refine⟨h.aF U,h.al λv2 h=>⟨?_,trivial⟩,trivial⟩
   generalize w.heap.size=pb at h|-;refine h.a λkb v3 h=>?_;exact fin kb n tr ub sp pb _ h.sub
 .refine h.al λv1 h=>⟨?_,trivial⟩
  generalize w.heap.size=ub at h|-;refine Sl.nY h λn w h=>?_;refine⟨h.aF U,Tr.kX h λtr w h=>?_,trivial⟩;refine⟨h.aF U,Tb.iP h λsp w h=>?_,trivial⟩;refine⟨h.aF U,h.al λv2 h=>⟨?_,trivial⟩,trivial⟩
  generalize w.heap.size=pb at h|-;refine h.a λkb v3 h=>?_;exact fin kb n tr ub sp pb _ h.sub
end
namespace Mc
section
variable{B:X}{w0 w:Y}{R L R':J aH}{s:Sl}{xs:J (O × Tb.Pg)}{b nc ae6 g p:X}{m:dC}{x:Mx}{fs:Sl}{aeY:aH}{c:zV}{ae1:J Cm}{n:O}
theorem B2{p:X}{x':zV × Sl}:∀(ps:J X)(xs:J (zV × Sl))(j:X),ps[j]?=S p->kK ps (xs.set j x')=(kK ps xs).set j (cm p x')
 | [],xs,j,h=>by simp at h
 |_::_,[],j,_=>by cases j<;>simp
 |s::ps,r::xs,0,h=>by simp at h;subst h;simp
 |s::ps,r::xs,j+1,h=>by simp[B2 ps xs j (by simpa using h)]
theorem focus(hm:de nc ae6 g m){n:O}(h0:0<=n)(h1:n<(nc:O))(h:Ow B w0 w (dQ b m::R)):
  ∃(x:Mx)(p:X)(fs:Sl)(aeY:aH),(kK x.ps x.xs)[n.toNat]?=S (cm p (m.ao n,fs))/\(kK x.ps x.xs).length=nc/\
   Ow B w0 w (aa b (dU x)::aj x.k m.k::ct x.l nc m.line::dY x.b m.bx::af db x.cs (kK x.ps x.xs)::fm p m.room (m.ao n).tl::af aA fs (m.ao n).told.forget::aeY::af bW x.pr m.prog::R)/\
   ∀(R':J aH)(m':dC)(c':zV)(fs':Sl)(w':Y),m'.cs=m.cs.set n.toNat c'->m'.room=m.room->m'.prog=m.prog->
    Ow B w0 w' (aa b (dU x)::aj x.k m'.k::ct x.l nc m'.line::dY x.b m'.bx::af db x.cs ((kK x.ps x.xs).set n.toNat (cm p (c',fs')))::fm p m.room c'.tl::af aA fs' c'.told.forget::aeY::af bW x.pr m.prog::R')->Ow B w0 w' (dQ b m'::R'):=by
 obtain⟨x,hx,h⟩:=CG h;have hcs:=hm.cs;rw[hcs]at h;obtain⟨c1,_⟩:=hm.IT h0 h1;have hxl:x.xs.length=nc:=by rw[<-hcs,<-hx,O3]
 have hpl:x.ps.length=x.xs.length:=Ow.cQ (h.pick (ae7:=au (eY m.room) x.ps x.xs));have hlt:n.toNat<nc:=om
 have hp:x.ps[n.toNat]?=S x.ps[n.toNat]:=gE om;generalize x.ps[n.toNat]=p at hp;have hxn:x.xs[n.toNat]?=S x.xs[n.toNat]:=gE om;have ec:x.xs[n.toNat].1=m.ao n:=by rw[<-hx,OX,hxn]at c1;exact Option.some.inj c1
 generalize hy:x.xs[n.toNat]=y at hxn ec;obtain⟨c,fs⟩:=y;dsimp only at ec;subst ec;refine⟨x,p,fs,bo ((Ot (eY m.room) x.ps x.xs).eraseIdx n.toNat),?_,?_,?_,λR' m' c' fs' w' e1 e2 e3 h=>?_⟩
 .rw[QI,hp,hxn]
 .rw[Ry];omega
 .have h2:=Ow.wL (h.pick (ae7:=au (eY m.room) x.ps x.xs)) hp hxn
  have h3:Ow B w0 w (bo [fm p m.room (m.ao n).tl,af aA fs (m.ao n).told.forget]::bo ((Ot (eY m.room) x.ps x.xs).eraseIdx n.toNat)::aa b (dU x)::aj x.k m.k::ct x.l nc m.line::dY x.b m.bx::af db x.cs (kK x.ps x.xs)::af bW x.pr m.prog::R):=h2;have h4:Ow B w0 w (fm p m.room (m.ao n).tl::af aA fs (m.ao n).told.forget::bo ((Ot (eY m.room) x.ps x.xs).eraseIdx n.toNat)::aa b (dU x)::aj x.k m.k::ct x.l nc m.line::dY x.b m.bx::af db x.cs (kK x.ps x.xs)::af bW x.pr m.prog::R):=h3.star;exact h4.sub
 .rw[<-B2 _ _ _ hp]at h
  have h2:Ow B w0 w' (fm p m.room c'.tl::af aA fs' c'.told.forget::bo ((Ot (eY m.room) x.ps x.xs).eraseIdx n.toNat)::aa b (dU x)::aj x.k m'.k::ct x.l nc m'.line::dY x.b m'.bx::af db x.cs (kK x.ps (x.xs.set n.toNat (c',fs')))::af bW x.pr m.prog::R'):=h.sub;have h3:Ow B w0 w' (eY m.room p (c',fs')::bo ((Ot (eY m.room) x.ps x.xs).eraseIdx n.toNat)::aa b (dU x)::aj x.k m'.k::ct x.l nc m'.line::dY x.b m'.bx::af db x.cs (kK x.ps (x.xs.set n.toNat (c',fs')))::af bW x.pr m.prog::R'):=Ow.br h2;have h4:=Ow.cI (ae7:=eY m.room) hpl hp h3;refine pH { x with xs:=x.xs.set n.toNat (c',fs')} ?_ ?_
  .dsimp only
   rw[List.map_set,hx,e1]
  .rw[e2,e3,e1,Pe,hcs]
   exact h4.sub
theorem xE{s:Sl}{xs:J Cm}{y:Cm}{n:O}{ae3:qf->Prop}[ae4:bY s L Cm db xs](h:Ow B w0 w L)(h0:0<=n)(hy:xs[n.toNat]?=S y)
  (hG:∀a,s.a=S a->(∀v,(db.enc y)[0]?=S v->w.cell? (a.add (n.toNat*7))=S v)->(∀c v,(db.enc y)[c]?=S v->w.cell? ((a.add (n.toNat*7)).add c)=S v)->ae3 a):
  ∃a,s.a=S a/\0<=n/\n<(s.len:O)/\ae3 a:=h.bX (s:=s) (show n=((n.toNat:X):O) by omega) hy hG
theorem iz{s:Sl}{xs:J Cm}{y:Cm}{n:O}[ae4:bY s L Cm db xs](h:Ow B w0 w L)(h0:0<=n)(hy:xs[n.toNat]?=S y){a:qf}(ha:s.a=S a):
  (∀v,(db.enc y)[0]?=S v->w.cell? (a.add (n.toNat*7))=S v)/\(∀c v,(db.enc y)[c]?=S v->w.cell? ((a.add (n.toNat*7)).add c)=S v):=h.Lf (s:=s) (show n=((n.toNat:X):O) by omega) hy ha
theorem lL{c:X}{K:O->O->O->O->O->O->Sl->O->O->W->Pw}{l:J N}(hl:l.length=10)(h:Ow B w0 w (aa c l::R))(hK:∀w',Ow B w0 w' R->K 0 0 0 0 0 0 z0 0 0 Z w'):
  aD w c.p 0 [.z (0:O),.z (0:O),.z (0:O),.z (0:O),.y (0:O),.z (0:O),.slice I 0 0,.z (0:O),.z (0:O),.bool Z] λw45=>
   av w45 c.p 0 [.o,.o,.o,.o,.u,.o,.s,.o,.o,.b] λ(r46:O)(r47:O)(r48:O)(r49:O)(r50:O)(r51:O)(r52:Sl)(r53:O)(r54:O)(r55:W)=>
   K r46 r47 r48 r49 r50 r51 r52 r53 r54 r55 w45:=by
 obtain⟨v0,v1,v2,v3,v4,v5,v6,v7,v8,v9,rfl⟩:∃v0 v1 v2 v3 v4 v5 v6 v7 v8 v9,l= [v0,v1,v2,v3,v4,v5,v6,v7,v8,v9]:=by
  match l,hl with
  | [v0,v1,v2,v3,v4,v5,v6,v7,v8,v9],_=>exact⟨v0,v1,v2,v3,v4,v5,v6,v7,v8,v9,U⟩
 refine h.ay U U λw h=>?_;refine h.jV (x6:=(z0:Sl)) U ?_;exact hK w h.drop
theorem fq{c:X}{K:O->O->O->O->O->O->Sl->O->O->W->Pw}{l:J N}{k n i e w1 wk p q:O}{fs:Sl}{is:W}(hl:l.length=10)(h:Ow B w0 w (aa c l::R))(hK:∀w',Ow B w0 w' R->K k n i e w1 wk fs p q is w'):
  aD w c.p 0 [.z k,.z n,.z i,.z e,.y w1,.z wk,fs.v,.z p,.z q,.bool is] λw45=>
   av w45 c.p 0 [.o,.o,.o,.o,.u,.o,.s,.o,.o,.b] λ(r46:O)(r47:O)(r48:O)(r49:O)(r50:O)(r51:O)(r52:Sl)(r53:O)(r54:O)(r55:W)=>
   K r46 r47 r48 r49 r50 r51 r52 r53 r54 r55 w45:=by
 obtain⟨v0,v1,v2,v3,v4,v5,v6,v7,v8,v9,rfl⟩:∃v0 v1 v2 v3 v4 v5 v6 v7 v8 v9,l= [v0,v1,v2,v3,v4,v5,v6,v7,v8,v9]:=by
  match l,hl with
  | [v0,v1,v2,v3,v4,v5,v6,v7,v8,v9],_=>exact⟨v0,v1,v2,v3,v4,v5,v6,v7,v8,v9,U⟩
 refine h.ay U U λw h=>?_;refine h.jV (x6:=fs) U ?_;exact hK w h.drop
theorem Ju{x:Item}{c:O}{K:W->Pw}(h:Ow B w0 w R)(hK:∀w',Ow B w0 w' R->K (iH x c) w'):VO x.kind x.core x.a x.b c K w:=by
 apply Z7;refine h.a λd w1 h=>?_;have byt:∀(n:O)(w:Y)(ae5:W->Pw),ae5 (F (0<=n/\n<=255)) w->cT qe (.func (.func 206) #[] #[]) [.z n] w λen w'=>∃r:W,en= .returned (.bool r)/\ae5 r w':=λn w ae5 hQ=>by
  refine aT ?_;show Ya n ae5 w;apply Z8;refine bg (λe=>?_) (λe=>?_)
  .rw[show F (n<=255)=F (0<=n/\n<=255)from by rw[qL];omega]
   exact hQ
  .rw[qk (show ¬(0<=n/\n<=255) by omega)]at hQ
   exact hQ
 have no:∀w,Ow B w0 w (aa d [.z x.kind,.z x.core,.z x.a,.z x.b]::R)->¬(0<=x.kind/\x.kind<4/\0<=x.core/\x.core<min c 8/\(0<=x.a/\x.a<=255)/\(0<=x.b/\x.b<=255))->K Z w:=λw h e=>by have e2:iH x c=false:=qk e;rw[e2]at hK;exact hK w h.drop
 refine h.l1 U ?_;refine bg (λe1=>?_) (λe=>no _ h om);refine h.l1 U ?_;refine bg (λe2=>?_) (λe=>no _ h om);refine h.l2 U ?_;refine bg (λe3=>?_) (λe=>no _ h om);refine h.l2 U ?_;rw[show rG c 8=min c 8 from by unfold rG;omega];refine bg (λe4=>?_) (λe=>no _ h om);refine h.l2 U ?_;refine byt _ _ _ ?_;refine bg (λe5=>?_) (λe=>no _ h om);refine h.l2 U ?_;refine byt _ _ _ ?_;have e6:iH x c=F (0<=x.b/\x.b<=255):=by unfold iH;rw[qL];omega
 rw[e6]at hK;exact hK _ h.drop
theorem free_spec{K:W->Pw}(hm:de nc ae6 g m)(h:Ow B w0 w (dQ b m::R))(hK:∀w',Ow B w0 w' (dQ b m::R)->K m.line.isEmpty w'):VR b.o K w:=by
 apply ZW;obtain⟨x,hx,h⟩:=CG h;refine⟨_,U,h.l2 U (sK (by have:=hm.cs;have:=hm.n8;omega) (h.pick (ae7:=ct x.l m.cs.length m.line)) λv w h=>?_)⟩;rw[Bool.not_not];exact hK w (pH x hx h.sub)
theorem I4{n:O}{K:W->Pw}(hm:de nc ae6 g m)(h:Ow B w0 w (dQ b m::R))(hK:K (F (0<=n/\n<(nc:O))) w):WG b.o n K w:=by
 apply Z4;obtain⟨x,hx,h⟩:=CG h;have hxl:x.xs.length=nc:=by rw[<-hm.cs,<-hx,O3]
 have hpl:x.ps.length=x.xs.length:=Ow.cQ (h.pick (ae7:=au (eY m.room) x.ps x.xs));have hlen:=h.aL x.cs;rw[Ry]at hlen;refine bg (λe=>?_) (λe=>?_)
 .refine ⟨_,U,h.l2 U ?_⟩
  rw[show F (n<(x.cs.len:O))=F (0<=n/\n<(nc:O))from by rw[qL];omega];exact hK
 .rw[qk (show ¬(0<=n/\n<(nc:O)) by omega)]at hK
  exact hK
theorem nD{w:Y}{a:qf}{x:O × Tb.Pg}{f:O->O->O->Prop}(g:∀c v,(Tb.aJ.enc x)[c]?=S v->w.cell? (a.add c)=S v)(hf:f x.1 x.2.1 x.2.2):
  av w a 0 [.o,.o,.o] f:=⟨_,g 0 _ U,_,g 1 _ U,_,g 2 _ U,hf⟩
theorem jJ(a:qf)(i j:X):(a.add i).add j=a.add (i+j):=by
 unfold Addr.add;by_cases hj:j=0
 .subst hj;simp
 .by_cases hi:i=0
  .subst hi;simp[hj]
  .simp[hi,hj,Nat.add_assoc]
theorem uQ{p:(O × Tb.Pg)->W}{f:N}{K:O->Pw}[ae4:bY s L (O × Tb.Pg) Tb.aJ xs](h:Ow B w0 w L)(hbig:xs.length<=1000000000)
  (hf:∀(y:(O × Tb.Pg))(w:Y)(ae5:W->Pw),Ow B w0 w L->(∀w',Ow B w0 w' L->ae5 (p y) w')->cT qe f [.agg ⟨Tb.aJ.enc y⟩] w λen w'=>∃r:W,en= .returned (.bool r)/\ae5 r w')
  (hK:∀w',Ow B w0 w' L->K (dH p xs) w'):XL s f K w:=by
 apply aao;have hlen:=h.aL s;intro l hl;have loop:∀(rest:J (O × Tb.Pg))(j:X)(w:Y),xs.drop j=rest->j<=xs.length->(∀i,i<j->∀y,xs[i]?=S y->p y=Z)->Ow B w0 w L->l (j:O) w:=by
  intro rest;induction rest with
  |nil=>
   intro j w hj hjl hno h;have:xs.length<=j:=by have:=qw PI hj;simp at this;omega
   apply hl;refine aw om ?_;have hn:xs.findIdx? p=none:=by rw[Pa];intro y hy;obtain⟨i,hi⟩:=O5.1 hy;exact hno i (by have:=(Om.1 hi).1;omega) y hi
   have e:dH p xs= -1:=by unfold dH;rw[hn]
   rw[<-e];exact hK _ h
  |cons y rest ih=>
   intro j w hj hjl hno h;have hjl2:j<xs.length:=by have:=qw PI hj;simp at this;omega
   have hx:xs[j]?=S y:=by have:=qw (λl=>l[0]?) hj;simpa using this
   apply hl;refine az om ?_;refine h.bX U hx λa ha h0 hc=>?_;refine nD hc ?_;refine hf y w _ h λw h=>?_;cases hp:p y with
   |true=>
    refine aU U ?_;have hn:xs.findIdx? p=S j:=by
     rw[OT];refine⟨hjl2,?_,λi hi=>?_⟩
     .rw[gE hjl2]at hx;cases hx;exact hp
     .have:=hno i hi xs[i] (gE om)
      simp[this]
    have e:dH p xs=(j:O):=by unfold dH;rw[hn]
    rw[<-e];exact hK _ h
   |false=>
    refine aW U ?_;rw[wr om om];refine ih (j+1) w (by rw[<-Pz,hj];rfl) om (λi hi z hz=>?_) h;by_cases e:i=j
    .subst e;rw[hx]at hz;cases hz;exact hp
    .exact hno i om z hz
 exact loop xs 0 w U om (λi hi=>by omega) h
abbrev OL(b nc:X)(x:Mx)(p:X)(fs:Sl)(aeY:aH)(m:dC)(c:zV)(ae1:J Cm)(R:J aH):J aH:=
 aa b (dU x)::aj x.k m.k::ct x.l nc m.line::dY x.b m.bx::af db x.cs ae1::fm p m.room c.tl::af aA fs c.told.forget::aeY::af bW x.pr m.prog::R
theorem GD{α:Type}(q:α->W)(l:J α):(∀i,l.findIdx? q=S i->∃y,l[i]?=S y/\l.find? q=S y)/\(l.findIdx? q=I->l.find? q=I):=by
 constructor
 .intro i hi
  obtain⟨h1,h2,h3⟩:=OT.1 hi;refine⟨l[i],gE h1,?_⟩;rw[RW];exact⟨h2,i,h1,U,λj hj=>by simpa using h3 j hj⟩
 .intro h
  rw[Pa]at h;exact Sj.2 λy hy=>by rw[h y hy];decide
theorem FV{bC:O}{K:O->O->W->Pw}[ae4:dE b L (dU x)][aeX:eD (aj x.k m.k) L R'](hpg:(m.k.gA 0).length<=1000000000)(h:Ow B w0 w L)
  (hK:∀w',Ow B w0 w' (aj x.k m.k::R')->K ((m.walk bC).getD (0,0)).1 ((m.walk bC).getD (0,0)).2 (m.walk bC).isSome w'):Xg b.o bC K w:=by
 apply Z5;refine h.a λc1 w1 h=>?_;refine h.a λc2 w2 h=>?_;refine⟨_,U,h.l1 U ?_⟩;have h:Ow B w0 w2 (aj x.k m.k::aa c2 [.z 0,.z 0]::aa c1 [.z bC]::R'):=h.pick (ae7:=aj x.k m.k);refine jI h λs w h=>?_;have hlen:=h.aL s;refine uQ (s:=s) (xs:=m.k.gA 0) (p:=λy=>y.1==bC) h hpg (λy w ae5 h hQ=>aT ?_) λw h=>?_
 .show Yl y.1 y.2.1 y.2.2 c1.p ae5 w
  apply Z6;refine h.a λd w3 h=>?_;exact⟨_,h.aF U,_,h.aF U,hQ _ h.drop⟩
 .unfold dC.walk at hK
  obtain⟨f1,f2⟩:=GD (λy:O × Tb.Pg=>y.1==bC) (m.k.gA 0);unfold dH;cases hi:(m.k.gA 0).findIdx? (λy=>y.1==bC)with
  |none=>
   rw[f2 hi]at hK;refine az qb ?_;refine h.ay U U λw h=>?_;refine h.aN U ?_;exact hK w h.sub
  |some i=>
   obtain⟨y,hy,hf⟩:=f1 i hi;rw[hf]at hK;refine aw qc ?_;refine h.bX (s:=s) (i:=(i:O)) (j:=i) U hy λa ha hc0 hc=>?_;refine⟨_,by rw[jJ];exact hc 1 _ U,_,by rw[jJ];exact hc 2 _ U,?_⟩;refine h.ay U U λw h=>?_;refine h.aN U ?_;exact hK w h.sub
theorem EZ{bC:O}{K:O->O->O->O->O->O->Sl->O->O->W->W->Pw}(h0:0<=n)(hZ:ae1[n.toNat]?=S (cm p (c,fs)))(hr:1<=m.room)(ht:c.tl.length<=1000000)(hpg:(m.k.gA 0).length<=1000000000)
  (h:Ow B w0 w (OL b nc x p fs aeY m c ae1 R))
  (hK:∀w',Ow B w0 w' (OL b nc x p fs aeY m { c with tl:=(m.loadT bC c.tl).2.2} ae1 R)->K 3 n bC 0 0 0 z0 (m.loadT bC c.tl).1.1 (m.loadT bC c.tl).1.2 (m.loadT bC c.tl).2.1 V w'):WA b.o n bC K w:=by
 apply ZZ;refine h.a λd w1 h=>?_;refine⟨_,U,x.cs,h.aE U,xE (s:=x.cs) h h0 hZ λa ha hc0 hc=>⟨_,U,_,hc0 _ U,?_⟩⟩
 refine xk (b:=p) (l:=c.tl) (room:=m.room) ht (h.pick (ae7:=fm p m.room c.tl)) λw h=>?_;refine h.a λe w2 h=>?_;refine h.ay U U λw h=>?_;intro k16 hk16;unfold dC.loadT at hK;cases hl:look 0 bC c.tl with
 |some q=>
  rw[hl]at h hK;refine aW U ?_;apply hk16;refine h.aN U ?_;have h:Ow B w0 w (aa d [.z 0,.z 0,.z 0,.z 0,.y 0,.z 0,.slice I 0 0,.z 0,.z 0,.bool Z]::OL b nc x p fs aeY m c ae1 R):=h.sub;exact fq (fs:=z0) U h λw h=>hK w h
 |none=>
  rw[hl]at h hK;refine aU U ?_;refine FV (x:=x) (m:=m) hpg h λw h=>?_;refine h.ay U U λw h=>?_;cases hw:m.walk bC with
  |none=>
   rw[hw]at h hK;refine aW U ?_;apply hk16;refine h.aN U ?_;have h:Ow B w0 w (aa d [.z 0,.z 0,.z 0,.z 0,.y 0,.z 0,.slice I 0 0,.z 0,.z 0,.bool Z]::OL b nc x p fs aeY m c ae1 R):=h.sub;exact fq (fs:=z0) U h λw h=>hK w h
  |some q=>
   rw[hw]at h hK;refine aU U ?_;refine h.dr λw h=>?_;refine⟨_,U,_,(iz (s:=x.cs) h h0 hZ ha).1 _ U,h.aN U (Go.Vc.a2 (xj (b:=p) (x:=⟨0,bC,q.1,q.2⟩) (l:=c.tl) (room:=m.room) hr ht (h.pick (ae7:=fm p m.room c.tl)) λw h=>?_))⟩;apply hk16;refine h.aN U ?_;have h:Ow B w0 w (aa d [.z 0,.z 0,.z 0,.z 0,.y 0,.z 0,.slice I 0 0,.z 0,.z 0,.bool Z]::OL b nc x p fs aeY m { c with tl:=fill m.room ⟨0,bC,q.1,q.2⟩ c.tl} ae1 R):=h.sub;exact fq (fs:=z0) U h λw h=>hK w h
theorem Cu{K:W->Pw}(h0:0<=n)(h1:n<(m.bx.length:O))(h64:∀l∈m.bx,l.length<=64)(hZ:ae1[n.toNat]?=S (cm p (c,fs)))(ht:c.tl.length<=1000000)(h:Ow B w0 w (OL b nc x p fs aeY m c ae1 R))
  (hK0:m.box n= []->∀w',Ow B w0 w' (OL b nc x p fs aeY m c ae1 R)->K Z w')
  (hK1:∀y r,m.box n=y::r->∀w',Ow B w0 w' (OL b nc x p fs aeY { m with bx:=m.bx.set n.toNat r} { c with tl:=drop (qd.wrap (y.about.tdiv 4096)) (y.about.tmod 4096) c.tl} ae1 R)->K V w'):WB b.o n K w:=by
 apply Z0;refine⟨_,U,h.l2 U (wX (bx:=m.bx) h0 h1 h64 (h.pick (ae7:=dY x.b m.bx)) (λe w h=>?_) λy r e w h=>?_)⟩
 .refine h.a λd w2 h=>?_;refine h.ay U U λw h=>?_
  refine aW U ?_;exact hK0 (by unfold dC.box;rw[e];rfl) w h.sub
 .refine h.a λd w2 h=>?_;refine h.ay U U λw h=>?_
  refine aU U ?_;refine h.dr λw h=>?_;refine⟨_,U,x.cs,h.aE U,xE (s:=x.cs) h h0 hZ λa ha hc0 hc=>⟨_,hc0 _ U,_,h.aE U,qb,_,h.aE U,qb,Go.Vc.a2 ?_⟩⟩
  refine oX (b:=p) (l:=c.tl) (room:=m.room) ht (h.pick (ae7:=fm p m.room c.tl)) λv w h=>?_;exact hK1 y r (by unfold dC.box;rw[e];rfl) w h.sub
theorem yr{e u wk:O}{ae2:J dP}{K:O->O->O->Sl->Pw}[ae4:bY fs L dP aA ae2](hF:ae2.length<=1000000)(h:Ow B w0 w L)
  (hK:∀s w',Ow B w0 w' (af aA s ae2::L)->K e u wk s w'):Uk e u wk fs K w:=by
 apply ZY;refine h.a λd w1 h=>?_;refine h.a λd2 w2 h=>?_;refine⟨fs,h.aE U,Ef (s:=fs) h hF λs w h=>?_⟩;refine h.gh U U λw h=>?_;refine h.gO (x3:=s) U ?_;refine h.ay U U λw h=>?_;refine h.gO (x3:=s) U ?_;exact hK s w h.sub
theorem KE{w:Y}{a:qf}{x:Call}{f:O->O->O->O->O->O->Prop}(g:∀c v,(bW.enc x)[c]?=S v->w.cell? (a.add c)=S v)(hf:f x.ask x.at_ x.ar x.a x.b x.c):
  av w a 0 [.o,.o,.o,.o,.o,.o] f:=⟨_,g 0 _ U,_,g 1 _ U,_,g 2 _ U,_,g 3 _ U,_,g 4 _ U,_,g 5 _ U,hf⟩
theorem nW(n:O):∀(l:J dP)(b:J (J fk)),(sendAll n l b).length=b.length
 | [],b=>rfl
 |x::l,b=>by show(sendAll n l (pk n (uw x) b)).length=_;rw[nW n l,Ab]
theorem vZ(n:O):∀(l:J dP)(b:J (J fk)),(∀r∈b,r.length<=64)->∀r∈sendAll n l b,r.length<=64
 | [],b,h=>h
 |x::l,b,h=>vZ n l _ (Du h)
theorem tC:∀(l t:J dP),(eA l t).length<=t.length
 | [],t=>On _
 |x::l,t=>ON (tC l _) (nq x.space x.bC t)
theorem yR(l:J dP)(x:dP)(t:J dP):eA (l++ [x]) t=drop x.space x.bC (eA l t):=by unfold eA;rw[RI];rfl
theorem zB(n:O)(l:J dP)(x:dP)(b:J (J fk)):sendAll n (l++ [x]) b=pk n (uw x) (sendAll n l b):=by unfold sendAll;rw[RI];rfl
end
section
variable{B:X}{w0 w:Y}{R L R':J aH}{b nc ae6 g p:X}{m:dC}{x:Mx}{fs:Sl}{aeY:aH}{c:zV}{ae1:J Cm}{n:O}{line:J O}{s:Sl}{xs:J Cm}{y:Cm}{a:qf}
theorem Kn{e u wk:O}{f:Sl}{k:Pw}[ae4:bY s L Cm db xs][aeX:eD (af db s xs) L R'](h:Ow B w0 w L)(h0:0<=n)(hy:xs[n.toNat]?=S y)(ha:s.a=S a)
  (hk:∀w',Ow B w0 w' (af db s (xs.set n.toNat ⟨y.p,y.dw,y.n,e,u,wk,f⟩)::R')->k w'):aD w ((a.add (n.toNat*7)).add 3) 0 [.z e,.y u,.z wk,f.v] k:=by
 have ei:n=((n.toNat:X):O):=om
 have hlt:=(Om.1 hy).1;show St w (((a.add (n.toNat*7)).add 3).add 0) _ _;rw[jJ];refine h.rX (s:=s) (E:=db) (i:=n) ⟨y.p,y.dw,y.n,e,y.w,y.wk,y.fs⟩ ei hy ha U qb U λw h=>?_;show St w (((a.add (n.toNat*7)).add 3).add 1) _ _;rw[jJ];refine h.rX (s:=s) (E:=db) (i:=n) ⟨y.p,y.dw,y.n,e,u,y.wk,y.fs⟩ ei (O0 hlt) ha U qb U λw h=>?_;show St w (((a.add (n.toNat*7)).add 3).add 2) _ _;rw[jJ];refine h.rX (s:=s) (E:=db) (i:=n) ⟨y.p,y.dw,y.n,e,u,wk,y.fs⟩ ei (O0 (by rw[Pe];exact hlt)) ha U qb U λw h=>?_;show St w (((a.add (n.toNat*7)).add 3).add 3) _ _;rw[jJ];refine h.rX (s:=s) (E:=db) (i:=n) ⟨y.p,y.dw,y.n,e,u,wk,f⟩ ei (O0 (by rw[Pe,Pe];exact hlt)) ha U qb U λw h=>?_;rw[QC,QC,QC]at h;exact hk w h
theorem yP{v:O}{k:Pw}[ae4:bY s L Cm db xs][aeX:eD (af db s xs) L R'](h:Ow B w0 w L)(h0:0<=n)(hy:xs[n.toNat]?=S y)(ha:s.a=S a)
  (hk:∀w',Ow B w0 w' (af db s (xs.set n.toNat ⟨y.p,v,y.n,y.e,y.w,y.wk,y.fs⟩)::R')->k w'):St w ((a.add (n.toNat*7)).add 1) (.z v) k:=
 h.rX (s:=s) (E:=db) (i:=n) ⟨y.p,v,y.n,y.e,y.w,y.wk,y.fs⟩ (show n=((n.toNat:X):O) by omega) hy ha U qb U hk
theorem Km{v:O}{k:Pw}[ae4:bY s L Cm db xs][aeX:eD (af db s xs) L R'](h:Ow B w0 w L)(h0:0<=n)(hy:xs[n.toNat]?=S y)(ha:s.a=S a)
  (hk:∀w',Ow B w0 w' (af db s (xs.set n.toNat ⟨y.p,y.dw,v,y.e,y.w,y.wk,y.fs⟩)::R')->k w'):St w ((a.add (n.toNat*7)).add 2) (.z v) k:=
 h.rX (s:=s) (E:=db) (i:=n) ⟨y.p,y.dw,v,y.e,y.w,y.wk,y.fs⟩ (show n=((n.toNat:X):O) by omega) hy ha U qb U hk
theorem DC{f:O->O->O->Sl->Prop}[ae4:bY s L Cm db xs](h:Ow B w0 w L)(h0:0<=n)(hy:xs[n.toNat]?=S y)(ha:s.a=S a)(hf:f y.e y.w y.wk y.fs):
  av w ((a.add (n.toNat*7)).add 3) 0 [.o,.u,.o,.s] f:=by
 have g:=(iz (s:=s) h h0 hy ha).2;exact⟨_,by rw[jJ];exact g 3 _ U,_,by rw[jJ];exact g 4 _ U,_,by rw[jJ];exact g 5 _ U,y.fs,by rw[jJ];exact g 6 _ U,hf⟩
theorem Gw{call:Call}{K:O->O->O->O->O->O->Sl->O->O->W->Pw}(h0:0<=n)(h1:n<(m.bx.length:O))(h8:m.bx.length<=8)(h64:∀l∈m.bx,l.length<=64)(hZ:ae1[n.toNat]?=S (cm p (c,fs)))(ht:c.tl.length<=1000000)
  (hn0:0<=c.n) (hpr:m.prog[c.n.toNat]?=S call) (hk:bj ae6 m.k) (hN:ae6+64<=100000) (hw0: -9223372036854775808<=call.ar) (hw1:call.ar<9223372036854775808) (hF:(m.k.do n call).1.forget.length<=1000000)
  (h:Ow B w0 w (OL b nc x p fs aeY m c ae1 R))
  (hK:∀s fs' w',Ow B w0 w' (af aA s (m.k.do n call).1.forget::OL b nc x p fs' aeY { m with k:=(m.k.do n call).2,bx:=sendAll n (m.k.do n call).1.forget m.bx} ⟨eA (m.k.do n call).1.forget c.tl,3,c.n,(m.k.do n call).1⟩ (ae1.set n.toNat (cm p (⟨eA (m.k.do n call).1.forget c.tl,3,c.n,(m.k.do n call).1⟩,fs'))) R)->
   K 1 n c.n (m.k.do n call).1.e (m.k.do n call).1.w (m.k.do n call).1.cN s 0 0 Z w'):WC b.o n K w:=by
 apply Z3;refine h.a λd w1 h=>?_;have hlt:=(Om.1 hZ).1;refine⟨_,U,x.cs,h.aE U,xE (s:=x.cs) h h0 hZ λa ha hc0 hc=>?_⟩;refine h.dr λw h=>?_;refine⟨_,U,_,h.aF U,_,U,x.pr,h.aE U,_,U,c.n,(iz (s:=x.cs) h h0 hZ ha).2 2 _ U,h.bX (s:=x.pr) (show c.n=((c.n.toNat:X):O) by omega) hpr λa2 ha2 hd0 hd=>?_⟩;refine KE hd (Go.Vc.a2 ?_);refine Iw (c:=call) hk hN hw0 hw1 (h.pick (ae7:=aj x.k m.k)) λfs' w h=>⟨_,U,Go.Vc.a2 ?_⟩
 generalize (m.k.do n call).1=told at*
 generalize (m.k.do n call).2=k' at*
 refine Kn (s:=x.cs) h h0 hZ ha λw h=>?_;have hZ1:(ae1.set n.toNat ⟨p,c.dw,c.n,told.e,told.w,told.cN,fs'⟩)[n.toNat]?=S ⟨p,c.dw,c.n,told.e,told.w,told.cN,fs'⟩:=O0 hlt;have hset:∀q,(ae1.set n.toNat ⟨p,c.dw,c.n,told.e,told.w,told.cN,fs'⟩).set n.toNat q=ae1.set n.toNat q:=λq=>QC ..;have h:Ow B w0 w (af db x.cs (ae1.set n.toNat ⟨p,c.dw,c.n,told.e,told.w,told.cN,fs'⟩)::_):=h;generalize ae1.set n.toNat ⟨p,c.dw,c.n,told.e,told.w,told.cN,fs'⟩=Z1 at h hZ1 hset;refine⟨_,U,fs',by rw[jJ];exact(iz (s:=x.cs) h h0 hZ1 ha).2 6 _ U,?_⟩;have hflen:=h.aL fs';intro l hl;have loop:∀(rest pre:J dP)(w:Y),told.forget=pre++rest->Ow B w0 w (aa d [.z 0,.z 0,.z 0,.z 0,.y 0,.z 0,.slice I 0 0,.z 0,.z 0,.bool Z]::af aA fs' told.forget::aa b (dU x)::aj x.k k'::ct x.l nc m.line::dY x.b (sendAll n pre m.bx)::af db x.cs Z1::fm p m.room (eA pre c.tl)::aeY::af bW x.pr m.prog::R)->l (pre.length:O) w:=by
  intro rest;induction rest with
  |nil=>
   intro pre w hp h;rw[OD]at hp;subst hp;apply hl;refine aw om ⟨_,U,?_⟩;refine yP (s:=x.cs) h h0 hZ1 ha λw h=>?_;rw[hset]at h;have hZ2:(ae1.set n.toNat ⟨p,3,c.n,told.e,told.w,told.cN,fs'⟩)[n.toNat]?=S ⟨p,3,c.n,told.e,told.w,told.cN,fs'⟩:=O0 hlt;refine h.dr λw h=>?_;refine⟨_,U,_,U,DC (s:=x.cs) h h0 hZ2 ha ⟨_,(iz (s:=x.cs) h h0 hZ2 ha).2 2 _ U,Go.Vc.a2 (yr (ae2:=told.forget) hF h λs2 w h=>⟨(iz (s:=x.cs) h h0 hZ2 ha).2 2 _ U,Go.Vc.a2 ?_⟩)⟩⟩
   have h:Ow B w0 w (aa d [.z 0,.z 0,.z 0,.z 0,.y 0,.z 0,.slice I 0 0,.z 0,.z 0,.bool Z]::af aA s2 told.forget::aa b (dU x)::aj x.k k'::ct x.l nc m.line::dY x.b (sendAll n told.forget m.bx)::af db x.cs (ae1.set n.toNat ⟨p,3,c.n,told.e,told.w,told.cN,fs'⟩)::fm p m.room (eA told.forget c.tl)::af aA fs' told.forget::aeY::af bW x.pr m.prog::R):=h.sub;exact fq (fs:=s2) U h λw h=>hK s2 fs' w h
  |cons z rest ih=>
   intro pre w hp h;have hlen2:told.forget.length=pre.length+(rest.length+1):=by rw[hp];simp
   have hz:told.forget[pre.length]?=S z:=by rw[hp];simp
   have htl:=tC pre c.tl;apply hl;refine az om ?_;refine h.bX (s:=fs') U hz λa3 ha3 he0 he=>?_;refine vo he ?_;refine h.a λe w2 h=>?_;refine h.ay U U λw h=>?_;refine h.dr λw h=>?_;refine⟨_,U,_,(iz (s:=x.cs) h h0 hZ1 ha).1 _ U,_,h.aF U,_,h.aE U,Go.Vc.a2 (oX (b:=p) (l:=eA pre c.tl) (room:=m.room) om (h.pick (ae7:=fm p m.room (eA pre c.tl))) λv w h=>?_)⟩;refine h.dr λw h=>?_;refine⟨_,U,_,h.aE U,_,h.aF U,_,h.aE U,Go.Vc.a2 (yL (bx:=sendAll n pre m.bx) h0 (by rw[nW];exact h1) (by rw[nW];exact h8) (vZ n pre _ h64) (h.pick (ae7:=dY x.b (sendAll n pre m.bx))) λv2 w h=>?_)⟩;rw[show qd.wrap ((pre.length:O)+1)=(((pre++ [z]).length:X):O)from by rw[wr om om,Ov];rfl];refine ih (pre++ [z]) w (by rw[hp];simp) ?_;rw[yR,zB];have h:Ow B w0 w (dY x.b (pk n (uw z) (sendAll n pre m.bx))::_):=h;exact h.sub
 have h2:Ow B w0 w (aa d [.z 0,.z 0,.z 0,.z 0,.y 0,.z 0,.slice I 0 0,.z 0,.z 0,.bool Z]::af aA fs' told.forget::aa b (dU x)::aj x.k k'::ct x.l nc m.line::dY x.b m.bx::af db x.cs Z1::fm p m.room c.tl::aeY::af bW x.pr m.prog::R):=h.sub;exact loop told.forget [] w U h2
def tV(l:J Call):Prop:=∀c∈l,-9223372036854775808<=c.ar/\c.ar<9223372036854775808
theorem FE{α:Type}{l:J α}{j:X}{y:α}(h:l[j]?=S y):l.set j y=l:=by obtain⟨p,q⟩:=Om.1 h;rw[<-q];exact Qn p
theorem Kq(hn:n.toNat<m.cs.length):(m.Gv n).2={ m with k:=(m.k.do n (m.bS n)).2,bx:=sendAll n (m.k.do n (m.bS n)).1.forget m.bx,cs:=m.cs.set n.toNat ⟨eA (m.k.do n (m.bS n)).1.forget (m.ao n).tl,3,(m.ao n).n,(m.k.do n (m.bS n)).1⟩}:=by unfold dC.Gv;dsimp only;rw[wm n _ _ (by show n.toNat<(m.cs.set _ _).length;rw[Pe];exact hn),xD (m:={ m with k:=(m.k.do n (m.bS n)).2}) hn];unfold dC.ib dC.ao;dsimp only;simp only[QC,O0 hn,PM]
theorem y9{c:O}{K:O->Pw}(h0:0<=c)(h1:c<(nc:O))(h:Ow B w0 w (ct b nc line::R))
  (hK:∀e w',Ow B w0 w' (ct b nc (lS line c)::R)->K e w'):Ux b.o c K w:=by
 unfold lS at hK;by_cases hc:c∈line
 .rw[A hc]at hK
  apply YE;refine zb h0 h1 h ?_;refine aW U ?_;obtain⟨x,hx,h⟩:=vt h;refine⟨_,U,x.s,h.aE U,?_⟩;obtain⟨j,p,hj,hp,hb⟩:=hx.get hc;refine h.bX (s:=x.s) (show c=((c.toNat:X):O) by omega) hb λa ha hc0 hcc=>⟨_,hc0 _ U,?_⟩
  exact aU U (hK _ w (rI x hx h))
 .rw[Q hc]at hK
  exact ua h0 h1 hc h λw h=>hK _ w h
theorem za{c:O}{K:O->Pw}(h0:0<=c)(h1:c<(nc:O))(h:Ow B w0 w (ct b nc line::R))
  (hK:∀e w',Ow B w0 w' (ct b nc (lW line c)::R)->K e w'):Uz b.o c K w:=by
 unfold lW at hK;by_cases hc:line.head?=S c
 .rw[A hc]at hK
  cases line with
  |nil=>cases hc
  |cons d cs=>
   cases hc;exact uc h λw h=>hK _ w h
 .rw[Q hc]at hK
  apply YF;refine ji h0 h1 h ?_;rw[show nK line c=Z from qk hc];refine oO (λe=>hK _ w h) (λe=>?_);exact aU U (hK _ w h)
abbrev Ds(K:O->O->O->O->O->O->Sl->O->O->W->W->Pw)(r:qg Seen)(fs:Sl)(w:Y):Prop:=
 K (r.getD fi).kind (r.getD fi).core (r.getD fi).n (r.getD fi).t.e (r.getD fi).t.w (r.getD fi).t.cN fs (r.getD fi).p.1 (r.getD fi).p.2 (r.getD fi).is r.isSome w
theorem FM{K:O->O->O->O->O->O->Sl->O->O->W->W->Pw}(hm:de nc ae6 g m)(hN:ae6+64<=100000)(hg:g<=900000)(hpr:tV m.prog)(h0:0<=n)(h1:n<(nc:O))(h:Ow B w0 w (dQ b m::R))
  (hK:∀fs w',Ow B w0 w' (af aA fs ((m.step n).1.getD fi).t.forget::dQ b (m.step n).2::R)->Ds K (m.step n).1 fs w'):VQ b.o n K w:=by
 apply ZV;refine h.a λd w1 h=>?_;obtain⟨x,p,fs,aeY,hZ,hzl,h,back⟩:=focus hm h0 h1 h.cw;obtain⟨hc1,hc2⟩:=hm.IT h0 h1;have htl:=hm.tl _ hc2;have hr8:=hm.r8;have hfg:=hm.fg _ hc2;have hbx:=hm.bx;have hn8:=hm.n8;have hlt:n.toNat<m.cs.length:=(Om.1 hc1).1;refine⟨_,U,x.cs,h.aE U,xE (s:=x.cs) h h0 hZ λa ha hc0 hc=>?_⟩;refine Cu (m:=m) (x:=x) (p:=p) (fs:=fs) (aeY:=aeY) (c:=m.ao n) (ae1:=kK x.ps x.xs) h0 om hm.JT hZ om h (λe w h=>?_) λy r e w h=>?_
 .have none_:∀w,(m.step n)=(I,m)->Ow B w0 w (OL b nc x p fs aeY m (m.ao n) (kK x.ps x.xs) (aa d [.z 0,.z 0,.z 0,.z 0,.y 0,.z 0,.slice I 0 0,.z 0,.z 0,.bool Z]::R))->
    aD w d.p 0 [.z (0:O),.z (0:O),.z (0:O),.z (0:O),.y (0:O),.z (0:O),.slice I 0 0,.z (0:O),.z (0:O),.bool Z] λw45=>
     av w45 d.p 0 [.o,.o,.o,.o,.u,.o,.s,.o,.o,.b] λ(r46:O)(r47:O)(r48:O)(r49:O)(r50:O)(r51:O)(r52:Sl)(r53:O)(r54:O)(r55:W)=>
     K r46 r47 r48 r49 r50 r51 r52 r53 r54 r55 Z w45:=λw es h=>by
   rw[es]at hK;have h:Ow B w0 w (aa d [.z 0,.z 0,.z 0,.z 0,.y 0,.z 0,.slice I 0 0,.z 0,.z 0,.bool Z]::OL b nc x p fs aeY m (m.ao n) (kK x.ps x.xs) R):=h.sub;exact lL (K:=λa b c d e f g h i j w=>K a b c d e f g h i j Z w) U h λw h=>hK z0 w (Ow.cH (back R m (m.ao n) fs w (FE hc1).symm U U (by rw[FE hZ];exact h)))
  refine aW U ⟨_,U,_,(iz (s:=x.cs) h h0 hZ ha).2 1 _ U,?_⟩;refine dK (λe1=>?_) (λe1=>?_)
  .have e1:(m.ao n).dw=1:=e1
   refine⟨_,U,h.l2 U (y9 h0 h1 (h.pick (ae7:=ct x.l nc m.line)) λv w h=>⟨_,U,?_⟩)⟩
   refine yP (s:=x.cs) h h0 hZ ha λw h=>⟨_,U,(m.ao n).n,(iz (s:=x.cs) h h0 (O0 (by rw[hzl];omega)) ha).2 2 _ U,?_⟩
   have es:m.step n=(S ⟨0,n,(m.ao n).n,tZ,(0,0),Z⟩,{ m with line:=lS m.line n}.ib n { m.ao n with dw:=2}):=by unfold dC.step;rw[e];dsimp only;rw[A e1]
   rw[es]at hK;have h:Ow B w0 w (aa d [.z 0,.z 0,.z 0,.z 0,.y 0,.z 0,.slice I 0 0,.z 0,.z 0,.bool Z]::aa b (dU x)::aj x.k m.k::ct x.l nc (lS m.line n)::dY x.b m.bx::af db x.cs ((kK x.ps x.xs).set n.toNat (cm p ({ m.ao n with dw:=2},fs)))::fm p m.room (m.ao n).tl::af aA fs (m.ao n).told.forget::aeY::af bW x.pr m.prog::R):=Ow.sub (show Ow B w0 w (af db x.cs ((kK x.ps x.xs).set n.toNat (cm p ({ m.ao n with dw:=2},fs)))::_)from h);exact fq (K:=λa b c d e f g h i j w=>K a b c d e f g h i j V w) (fs:=z0) U h λw h=>hK z0 w (Ow.cH (back R ({ m with line:=lS m.line n}.ib n { m.ao n with dw:=2}) { m.ao n with dw:=2} fs w U U U h))
  .have e1:(m.ao n).dw≠1:=e1
   refine⟨_,U,_,(iz (s:=x.cs) h h0 hZ ha).2 1 _ U,dK (λe2=>?_) (λe2=>?_)⟩
   .have e2:(m.ao n).dw=2:=e2
    refine⟨_,U,h.l2 U (ji h0 h1 (h.pick (ae7:=ct x.l nc m.line)) ?_)⟩;cases hpb:nK m.line n with
    |false=>
     refine aW U ?_;exact none_ w (by unfold dC.step;rw[e];dsimp only;rw[Q e1,A e2,Q (by rw[hpb];decide)]) h
    |true=>
     refine aU U ?_;have es:m.step n=(S (m.Gv n).1,(m.Gv n).2):=by unfold dC.step;rw[e];dsimp only;rw[Q e1,A e2,A hpb]
     rw[es,Kq hlt]at hK;obtain⟨hn0,hn1⟩:=hm.nr _ hc2 (by rw[e2];decide);have hcall:m.prog[(m.ao n).n.toNat]?=S (m.bS n):=by unfold dC.bS;rw[gE (show(m.ao n).n.toNat<m.prog.length by omega)];rfl
     have hw:=hpr _ (OV hcall);obtain⟨q1,_⟩:=Gx hm.k n (m.bS n);have hpg:=hm.pg;refine Gw (m:=m) (x:=x) (p:=p) (fs:=fs) (aeY:=aeY) (c:=m.ao n) (ae1:=kK x.ps x.xs) h0 om om hm.JT hZ om hn0 hcall hm.k hN hw.1 hw.2 om h λs fs' w h=>?_;have h:Ow B w0 w (aa d [.z 0,.z 0,.z 0,.z 0,.y 0,.z 0,.slice I 0 0,.z 0,.z 0,.bool Z]::af aA s (m.k.do n (m.bS n)).1.forget::aa b (dU x)::aj x.k (m.k.do n (m.bS n)).2::ct x.l nc m.line::dY x.b (sendAll n (m.k.do n (m.bS n)).1.forget m.bx)::af db x.cs ((kK x.ps x.xs).set n.toNat (cm p (⟨eA (m.k.do n (m.bS n)).1.forget (m.ao n).tl,3,(m.ao n).n,(m.k.do n (m.bS n)).1⟩,fs')))::fm p m.room (eA (m.k.do n (m.bS n)).1.forget (m.ao n).tl)::af aA fs' (m.k.do n (m.bS n)).1.forget::aeY::af bW x.pr m.prog::R):=h.sub;exact fq (K:=λa b c d e f g h i j w=>K a b c d e f g h i j V w) (fs:=s) U h λw h=>hK s w (Ow.cw (back (af aA s (m.k.do n (m.bS n)).1.forget::R) { m with k:=(m.k.do n (m.bS n)).2,bx:=sendAll n (m.k.do n (m.bS n)).1.forget m.bx,cs:=m.cs.set n.toNat ⟨eA (m.k.do n (m.bS n)).1.forget (m.ao n).tl,3,(m.ao n).n,(m.k.do n (m.bS n)).1⟩} ⟨eA (m.k.do n (m.bS n)).1.forget (m.ao n).tl,3,(m.ao n).n,(m.k.do n (m.bS n)).1⟩ fs' w U U U h.sub))
   .have e2:(m.ao n).dw≠2:=e2
    intro k81 hk81;have no:∀w,¬((m.ao n).dw=3/\kD m.bx n=0)->Ow B w0 w (OL b nc x p fs aeY m (m.ao n) (kK x.ps x.xs) (aa d [.z 0,.z 0,.z 0,.z 0,.y 0,.z 0,.slice I 0 0,.z 0,.z 0,.bool Z]::R))->k81 Z w:=λw hno h=>by apply hk81;refine aW U ?_;exact none_ w (by unfold dC.step;rw[e];dsimp only;rw[Q e1,Q e2,Q hno]) h
    refine⟨_,U,_,(iz (s:=x.cs) h h0 hZ ha).2 1 _ U,dK (λe3=>?_) (λe3=>no w (λhh=>e3 hh.1) h)⟩;have e3:(m.ao n).dw=3:=e3;refine⟨_,U,h.l2 U (wW (bx:=m.bx) om hm.JT (h.pick (ae7:=dY x.b m.bx)) λw h=>?_)⟩;have h:Ow B w0 w (OL b nc x p fs aeY m (m.ao n) (kK x.ps x.xs) (aa d [.z 0,.z 0,.z 0,.z 0,.y 0,.z 0,.slice I 0 0,.z 0,.z 0,.bool Z]::R)):=h.sub;by_cases e4:kD m.bx n=0
    .rw[show(kD m.bx n==0)=V from by simpa using e4]
     apply hk81;refine aU U ⟨_,U,h.l2 U ?_⟩;refine za h0 h1 (h.pick (ae7:=ct x.l nc m.line)) λv w h=>⟨_,U,?_⟩
     refine yP (s:=x.cs) h h0 hZ ha λw h=>?_;have hZ2:((kK x.ps x.xs).set n.toNat (cm p ({ m.ao n with dw:=0},fs)))[n.toNat]?=S (cm p ({ m.ao n with dw:=0},fs)):=O0 (by rw[hzl];omega);have h:Ow B w0 w (af db x.cs ((kK x.ps x.xs).set n.toNat (cm p ({ m.ao n with dw:=0},fs)))::_):=h;refine h.dr λw h=>⟨_,U,_,U,?_⟩
     refine DC (s:=x.cs) h h0 hZ2 ha ?_;refine⟨(m.ao n).n,(iz (s:=x.cs) h h0 hZ2 ha).2 2 _ U,Go.Vc.a2 ?_⟩;have es:m.step n=(S ⟨2,n,(m.ao n).n,(m.ao n).told,(0,0),Z⟩,{ m with line:=lW m.line n}.ib n { m.ao n with dw:=0}):=by unfold dC.step;rw[e];dsimp only;rw[Q e1,Q e2,A ⟨e3,e4⟩]
     rw[es]at hK;refine yr (fs:=fs) (ae2:=(m.ao n).told.forget) om h λs w h=>⟨(iz (s:=x.cs) h h0 hZ2 ha).2 2 _ U,Go.Vc.a2 ?_⟩
     have h:Ow B w0 w (aa d [.z 0,.z 0,.z 0,.z 0,.y 0,.z 0,.slice I 0 0,.z 0,.z 0,.bool Z]::af aA s (m.ao n).told.forget::aa b (dU x)::aj x.k m.k::ct x.l nc (lW m.line n)::dY x.b m.bx::af db x.cs ((kK x.ps x.xs).set n.toNat (cm p ({ m.ao n with dw:=0},fs)))::fm p m.room (m.ao n).tl::af aA fs (m.ao n).told.forget::aeY::af bW x.pr m.prog::R):=h.sub;exact fq (K:=λa b c d e f g h i j w=>K a b c d e f g h i j V w) (fs:=s) U h λw h=>by have h:Ow B w0 w (aa b (dU x)::aj x.k m.k::ct x.l nc (lW m.line n)::dY x.b m.bx::af db x.cs ((kK x.ps x.xs).set n.toNat (cm p ({ m.ao n with dw:=0},fs)))::fm p m.room (m.ao n).tl::af aA fs (m.ao n).told.forget::aeY::af bW x.pr m.prog::af aA s (m.ao n).told.forget::R):=h.sub;exact hK s w (Ow.cw (back (af aA s (m.ao n).told.forget::R) ({ m with line:=lW m.line n}.ib n { m.ao n with dw:=0}) { m.ao n with dw:=0} fs w U U U h))
    .rw[show(kD m.bx n==0)=Z from by simpa using e4]
     exact no w (λhh=>e4 hh.2) h
 .refine aU U ?_
  have es:m.step n=(I,{ m with bx:=m.bx.set n.toNat r,cs:=m.cs.set n.toNat { m.ao n with tl:=drop (qd.wrap (y.about.tdiv 4096)) (y.about.tmod 4096) (m.ao n).tl}}):=by unfold dC.step;rw[e];dsimp only;unfold dC.heard;rw[e];rfl
  rw[es]at hK;have h:Ow B w0 w (aa d [.z 0,.z 0,.z 0,.z 0,.y 0,.z 0,.slice I 0 0,.z 0,.z 0,.bool Z]::aa b (dU x)::aj x.k m.k::ct x.l nc m.line::dY x.b (m.bx.set n.toNat r)::af db x.cs (kK x.ps x.xs)::fm p m.room (drop (qd.wrap (y.about.tdiv 4096)) (y.about.tmod 4096) (m.ao n).tl)::af aA fs (m.ao n).told.forget::aeY::af bW x.pr m.prog::R):=h.sub;exact lL (K:=λa b c d e f g h i j w=>K a b c d e f g h i j Z w) U h λw h=>hK z0 w (Ow.cH (back R { m with bx:=m.bx.set n.toNat r,cs:=m.cs.set n.toNat { m.ao n with tl:=drop (qd.wrap (y.about.tdiv 4096)) (y.about.tmod 4096) (m.ao n).tl}} { m.ao n with tl:=drop (qd.wrap (y.about.tdiv 4096)) (y.about.tmod 4096) (m.ao n).tl} fs w U U U (by rw[show cm p ({ m.ao n with tl:=drop (qd.wrap (y.about.tdiv 4096)) (y.about.tmod 4096) (m.ao n).tl},fs)=cm p (m.ao n,fs)from U,FE hZ];exact h)))
theorem Ht(hm:de nc ae6 g m)(hN:ae6<=200000):(m.k.gA 0).length<=1000000000:=by
 unfold ag.gA;split
 .have:=fx.Bj (hm.k.BC 0)
  omega
 .simp
theorem FT{it:Item}{K:O->O->O->O->O->O->Sl->O->O->W->W->Pw}(hm:de nc ae6 g m)(hN:ae6+64<=100000)(h0:0<=it.core)(h1:it.core<(nc:O))(h:Ow B w0 w (dQ b m::R))
  (hK:∀fs w',Ow B w0 w' (af aA fs ((m.user it).1.getD fi).t.forget::dQ b (m.user it).2::R)->Ds K (m.user it).1 fs w'):VP b.o it.kind it.core it.a it.b K w:=by
 apply ZU;refine h.a λci w1 h=>?_;refine h.a λd w2 h=>?_;refine h.dr λw h=>?_;obtain⟨x,p,fs,aeY,hZ,hzl,h,back⟩:=focus hm h0 h1 h.lK;obtain⟨hc1,hc2⟩:=hm.IT h0 h1;have htl:=hm.tl _ hc2;have hr8:=hm.r8;have hr1:=hm.r1;have hlen:=h.aL x.pr;have none_:∀w,(m.user it)=(I,m)->Ow B w0 w (OL b nc x p fs aeY m (m.ao it.core) (kK x.ps x.xs) (aa d [.z 0,.z 0,.z 0,.z 0,.y 0,.z 0,.slice I 0 0,.z 0,.z 0,.bool Z]::aa ci [.z it.kind,.z it.core,.z it.a,.z it.b]::R))->
   aD w d.p 0 [.z (0:O),.z (0:O),.z (0:O),.z (0:O),.y (0:O),.z (0:O),.slice I 0 0,.z (0:O),.z (0:O),.bool Z] λw45=>
    av w45 d.p 0 [.o,.o,.o,.o,.u,.o,.s,.o,.o,.b] λ(r46:O)(r47:O)(r48:O)(r49:O)(r50:O)(r51:O)(r52:Sl)(r53:O)(r54:O)(r55:W)=>
    K r46 r47 r48 r49 r50 r51 r52 r53 r54 r55 Z w45:=λw es h=>by
  rw[es]at hK;have h:Ow B w0 w (aa d [.z 0,.z 0,.z 0,.z 0,.y 0,.z 0,.slice I 0 0,.z 0,.z 0,.bool Z]::OL b nc x p fs aeY m (m.ao it.core) (kK x.ps x.xs) R):=h.sub;exact lL (K:=λa b c d e f g h i j w=>K a b c d e f g h i j Z w) U h λw h=>hK z0 w (Ow.cH (back R m (m.ao it.core) fs w (FE hc1).symm U U (by rw[FE hZ];exact h)))
 refine⟨_,U,x.cs,h.aE U,h.l2 U (xE (s:=x.cs) h h0 hZ λa ha hc0 hc=>⟨_,U,_,hc 1 _ U,?_⟩)⟩
 refine oO (λe1=>?_) (λe1=>?_)
 .have e1:(m.ao it.core).dw≠0:=e1
  exact none_ w (by unfold dC.user;rw[A e1]) h
 have e1:(m.ao it.core).dw=0:=e1;refine h.l2 U ?_;refine bg (λe2=>?_) (λe2=>?_)
 .refine ⟨_,h.aE U,h.l2 U ?_⟩
  have es:m.user it=(S (m.load it.core it.a).1,(m.load it.core it.a).2):=by unfold dC.user;rw[Q (λhh=>hh e1),A e2]
  rw[es]at hK;refine EZ (m:=m) (x:=x) (p:=p) (fs:=fs) (aeY:=aeY) (c:=m.ao it.core) (ae1:=kK x.ps x.xs) h0 hZ hr1 om (Ht hm om) h λw h=>?_;have h:Ow B w0 w (aa d [.z 0,.z 0,.z 0,.z 0,.y 0,.z 0,.slice I 0 0,.z 0,.z 0,.bool Z]::OL b nc x p fs aeY m { m.ao it.core with tl:=(m.loadT it.a (m.ao it.core).tl).2.2} (kK x.ps x.xs) R):=h.sub;refine fq (K:=λa b c d e f g h i j w=>K a b c d e f g h i j V w) (fs:=z0) U h λw h=>hK z0 w (Ow.cH (back R (m.load it.core it.a).2 { m.ao it.core with tl:=(m.loadT it.a (m.ao it.core).tl).2.2} fs w U U U ?_));rw[show cm p ({ m.ao it.core with tl:=(m.loadT it.a (m.ao it.core).tl).2.2},fs)=cm p (m.ao it.core,fs)from U,FE hZ];exact h
 .refine h.dr λw h=>?_
  refine⟨_,h.aE U,_,U,x.pr,h.aE U,bg (λe3=>?_) (λe3=>?_)⟩
  .refine h.dr λw h=>?_
   refine⟨_,U,_,h.aE U,Go.Vc.a2 (yP (s:=x.cs) h h0 hZ ha λw h=>⟨h.aE U,_,U,Go.Vc.a2 ?_⟩)⟩
   refine Km (s:=x.cs) h h0 (O0 (by rw[hzl];omega)) ha λw h=>?_;rw[QC]at h;have es:m.user it=(I,m.ib it.core { m.ao it.core with dw:=1,n:=it.a}):=by unfold dC.user;rw[Q (λhh=>hh e1),Q e2,A om]
   rw[es]at hK;have h:Ow B w0 w (aa d [.z 0,.z 0,.z 0,.z 0,.y 0,.z 0,.slice I 0 0,.z 0,.z 0,.bool Z]::aa b (dU x)::aj x.k m.k::ct x.l nc m.line::dY x.b m.bx::af db x.cs ((kK x.ps x.xs).set it.core.toNat (cm p ({ m.ao it.core with dw:=1,n:=it.a},fs)))::fm p m.room (m.ao it.core).tl::af aA fs (m.ao it.core).told.forget::aeY::af bW x.pr m.prog::R):=Ow.sub (show Ow B w0 w (af db x.cs ((kK x.ps x.xs).set it.core.toNat (cm p ({ m.ao it.core with dw:=1,n:=it.a},fs)))::_)from h);exact lL (K:=λa b c d e f g h i j w=>K a b c d e f g h i j Z w) U h λw h=>hK z0 w (Ow.cH (back R (m.ib it.core { m.ao it.core with dw:=1,n:=it.a}) { m.ao it.core with dw:=1,n:=it.a} fs w U U U h))
  .exact none_ w (by unfold dC.user;rw[Q (λhh=>hh e1),Q e2,Q om]) h
theorem fU{it:Item}{K:O->O->O->O->O->O->Sl->O->O->W->W->Pw}(hm:de nc ae6 g m)(hN:ae6+64<=100000)(hg:g<=900000)(hpr:tV m.prog)(h:Ow B w0 w (dQ b m::R))
  (hK:∀fs w',Ow B w0 w' (af aA fs ((m.item it).1.getD fi).t.forget::dQ b (m.item it).2::R)->Ds K (m.item it).1 fs w'):RE b.o it.kind it.core it.a it.b K w:=by
 apply ZR;refine h.a λci w1 h=>?_;refine h.a λd w2 h=>?_;refine h.dr λw h=>?_;refine h.gO U ?_;have h:Ow B w0 w (dQ b m::aa d [.z 0,.z 0,.z 0,.z 0,.y 0,.z 0,.slice I 0 0,.z 0,.z 0,.bool Z]::aa ci [.z it.kind,.z it.core,.z it.a,.z it.b]::R):=h.lK;have hcs:=hm.cs;obtain⟨s,hs1,hs2⟩:∃s:Sl,w.cell? (b.p.add 3)=S s.v/\s.len=m.cs.length:=by
  obtain⟨x,hx,h⟩:=CG h;have hxl:x.xs.length=nc:=by rw[<-hcs,<-hx,O3]
  have hpl:x.ps.length=x.xs.length:=Ow.cQ (h.pick (ae7:=au (eY m.room) x.ps x.xs));have hlen:=h.aL x.cs;rw[Ry]at hlen;exact⟨x.cs,h.aE U,om⟩
 refine⟨_,U,s,hs1,Go.Vc.a2 ?_⟩;rw[hs2];refine Ju (x:=it) h λw h=>?_;have none_:∀w,(m.item it)=(I,m)->Ow B w0 w (dQ b m::aa d [.z 0,.z 0,.z 0,.z 0,.y 0,.z 0,.slice I 0 0,.z 0,.z 0,.bool Z]::aa ci [.z it.kind,.z it.core,.z it.a,.z it.b]::R)->
   aD w d.p 0 [.z (0:O),.z (0:O),.z (0:O),.z (0:O),.y (0:O),.z (0:O),.slice I 0 0,.z (0:O),.z (0:O),.bool Z] λw45=>
    av w45 d.p 0 [.o,.o,.o,.o,.u,.o,.s,.o,.o,.b] λ(r46:O)(r47:O)(r48:O)(r49:O)(r50:O)(r51:O)(r52:Sl)(r53:O)(r54:O)(r55:W)=>
    K r46 r47 r48 r49 r50 r51 r52 r53 r54 r55 Z w45:=λw es h=>by
  rw[es]at hK;exact lL (K:=λa b c d e f g h i j w=>K a b c d e f g h i j Z w) U h.cw λw h=>hK z0 w (Ow.cH h.sub)
 cases hr:iH it m.cs.length with
 |false=>
  refine aU U ?_;exact none_ w (by unfold dC.item;rw[A hr]) h
 |true=>
  refine aW U ?_;obtain⟨k0,k1,c0,c1,⟨a0,a1⟩,b0,b1⟩:=td.1 hr;have c2:it.core<(nc:O):=om
  have hnr:¬iH it m.cs.length=false:=by rw[hr];decide
  refine h.l1 U ?_;refine dK (λe1=>?_) (λe1=>?_)
  .refine h.gO U ?_
   have es:m.item it=m.user it:=by unfold dC.item;rw[Q hnr,A e1]
   rw[es]at hK;refine FT (it:=it) hm hN c0 c2 h λfs w h=>?_;exact fq (K:=λa b c d e f g h i j w=>K a b c d e f g h i j (m.user it).1.isSome w) (fs:=fs) U h.lK λw h=>hK fs w h.sub
  refine h.l1 U ?_;refine dK (λe2=>?_) (λe2=>?_)
  .refine h.l2 U ?_
   have es:m.item it=m.step it.core:=by unfold dC.item;rw[Q hnr,Q e1,A e2]
   rw[es]at hK;refine FM hm hN hg hpr c0 c2 h λfs w h=>?_;exact fq (K:=λa b c d e f g h i j w=>K a b c d e f g h i j (m.step it.core).1.isSome w) (fs:=fs) U h.lK λw h=>hK fs w h.sub
  refine free_spec hm h λw h=>?_;by_cases e3:m.line= []
  .rw[show m.line.isEmpty=V from by rw[e3];rfl]
   refine aW U ?_;refine h.l1 U ?_;obtain⟨x,hx,h⟩:=CG h;refine dK (λe4=>?_) (λe4=>?_)
   .have es:m.item it=(S ⟨4,it.core,it.a,⟨(m.k.irq it.a).1,0,(m.k.irq it.a).2.1,[]⟩,(0,0),Z⟩,{ m with k:=(m.k.irq it.a).2.2}):=by unfold dC.item;rw[Q hnr,Q e1,Q e2,Q (λhh=>hh e3),A e4]
    rw[es]at hK;refine h.dr λw h=>?_;refine⟨_,U,_,h.aF U,_,h.aE U,Go.Vc.a2 (GW hm.k om (h.pick (ae7:=aj x.k m.k)) λw h=>?_)⟩;refine⟨_,h.aE U,h.l2 U ?_⟩;have h:Ow B w0 w (aa d [.z 0,.z 0,.z 0,.z 0,.y 0,.z 0,.slice I 0 0,.z 0,.z 0,.bool Z]::aa b (dU x)::aj x.k (m.k.irq it.a).2.2::ct x.l m.cs.length m.line::dY x.b m.bx::af db x.cs (kK x.ps x.xs)::au (eY m.room) x.ps x.xs::af bW x.pr m.prog::R):=h.sub;exact fq (K:=λa b c d e f g h i j w=>K a b c d e f g h i j V w) (fs:=z0) U h λw h=>hK z0 w (Ow.cH (pH (m:={ m with k:=(m.k.irq it.a).2.2}) x hx h))
   .have es:m.item it=(S ⟨5,it.core,0,tZ,(0,0),(m.k.t.bJ it.core).isSome⟩,{ m with k:=m.k.tick it.core}):=by unfold dC.item;rw[Q hnr,Q e1,Q e2,Q (λhh=>hh e3),Q e4]
    rw[es]at hK;refine h.dr λw h=>?_;refine⟨_,U,_,h.aF U,_,h.aE U,_,h.aE U,Go.Vc.a2 (Eo hm.k (h.pick (ae7:=aj x.k m.k)) λw h=>⟨h.aE U,Go.Vc.a2 ?_⟩)⟩
    have h:Ow B w0 w (aa d [.z 0,.z 0,.z 0,.z 0,.y 0,.z 0,.slice I 0 0,.z 0,.z 0,.bool Z]::aa b (dU x)::aj x.k (m.k.tick it.core)::ct x.l m.cs.length m.line::dY x.b m.bx::af db x.cs (kK x.ps x.xs)::au (eY m.room) x.ps x.xs::af bW x.pr m.prog::R):=h.sub;exact fq (K:=λa b c d e f g h i j w=>K a b c d e f g h i j V w) (fs:=z0) U h λw h=>hK z0 w (Ow.cH (pH (m:={ m with k:=m.k.tick it.core}) x hx h))
  .rw[show m.line.isEmpty=Z from by cases hl:m.line with|nil=>exact qi hl e3|cons _ _=>rfl]
   refine aU U ?_;exact none_ w (by unfold dC.item;rw[Q hnr,Q e1,Q e2,A e3]) h
end
end Mc
section
variable{B:X}{w0 w:Y}{R L:J aH}
theorem IF{xs:J O}{y:O}{b:X}{s:Sl}{k:Sl->Pw}[ae4:bY s L O aB xs]{R:J aH}[aeX:eD (af aB s xs) L R]
  (h:Ow B w0 w (aa b [.z y]::L)) (hl:xs.length<=1000000) (hk:∀s' w',s'.len=xs.length+1->Ow B w0 w' (af aB s' (xs++ [y])::R)->k s' w'):
  ∃s' w',aP qe [22,22] 22 s.v (.slice (S b.p) 1 1) w s' w'/\k s' w':=
 Ow.eR (E:=aB) (y:=y) qH (show qe.info? 3=S qI from by kernel_rfl) (zv:= .z 0) qa qa U qb h (by
  have e:qI.bytes=8:=qa
  rw[e];omega) hk
theorem uY{c bits lines:O}{prios:J O}{s:Sl}{K:O->O->O->Sl->Pw}(hi:El aB w0 s prios)(h:Ow w0.heap.size w0 w R)
  (hK:∀(n bi li:X)(ps:J O)s' w',1<=n->n<=3->6<=bi->bi<=12->li<=3->ps.length=n->(∀p∈ps,0<=p/\p<256)->Ow w0.heap.size w0 w' (af aB s' ps::R)->K (n:O) (bi:O) (li:O) s' w'):
  T8 c bits lines s K w:=by
 apply ac1;obtain⟨pc,_,ec⟩:=Sl.xt c 65535 qb;obtain⟨pb,_,eb⟩:=Sl.xt bits 65535 qb;obtain⟨pl,hpl,el⟩:=Sl.xt lines 3 qb;have ec:da .i64 c 65535=(pc:O):=ec;have eb:da .i64 bits 65535=(pb:O):=eb;have el:da .i64 lines 3=(pl:O):=el;have hlen:=hi.len;refine h.a λab w1 h=>?_;refine h.a λrb w2 h=>?_;refine⟨_,h.aF U,qb,_,h.aE U,qb,h.l2 U ?_⟩;refine h.a λob w3 h=>?_;refine h.ay U U λw h=>?_;rw[ec,eb,el]at h;rw[ec];obtain⟨n,hn⟩:∃n,n=1+pc%3:=⟨_,U⟩
 obtain⟨bi,hb⟩:∃n,n=6+pb%7:=⟨_,U⟩
 have en:qd.wrap (1+(show O from pc).tmod 3)=(n:O):=by rw[show(show O from pc).tmod 3=((pc%3:X):O)from(Int.ofNat_tmod pc 3).symm,wr om om];omega
 have ebi:qd.wrap (6+(show O from pb).tmod 7)=(bi:O):=by rw[show(show O from pb).tmod 7=((pb%7:X):O)from(Int.ofNat_tmod pb 7).symm,wr om om];omega
 rw[en,ebi]at h;rw[en];have h:=Ow.cH (E:=aB) h;have h:Ow w0.heap.size w0 w (af aB z0 []::aa ob [.z (n:O),.z (bi:O),.z (pl:O),.slice I 0 0]::aa rb [.z 0,.z 0,.z 0,.slice I 0 0]::aa ab [.z c,.z bits,.z lines,s.v]::R):=h;intro l12 hl12;have loop:∀(d i:X)(so:Sl)(ps:J O)(w:Y),i+d=n->ps.length=i->(∀p∈ps,0<=p/\p<256)->
   Ow w0.heap.size w0 w (af aB so ps::aa ob [.z (n:O),.z (bi:O),.z (pl:O),so.v]::aa rb [.z 0,.z 0,.z 0,.slice I 0 0]::aa ab [.z c,.z bits,.z lines,s.v]::R)->l12 (i:O) w:=by
  intro d;induction d with
  |succ d ih=>
   intro i so ps w hid hpl2 hps h;apply hl12;refine az om ?_;refine⟨s,h.aE U,?_⟩;intro k16 hk16;have key:∀(p:O),0<=p->p<256->k16 p w:=by
    intro p p0 p1;apply hk16;refine⟨so,h.aE U,h.a λtb w1 h=>?_⟩;refine IF (s:=so) h om λs' w _ h=>?_;refine h.gh U U λw h=>?_;rw[wI i om];refine ih (i+1) s' (ps++ [p]) w om (by rw[Ov];simp[hpl2]) ?_ ?_
    .intro x hx
     rcases Pn.1 hx with hx|hx
     .exact hps x hx
     .rw[OY.1 hx];exact⟨p0,p1⟩
    .exact h.sub
   refine bg (λe=>?_) (λe=>?_)
   .have hlt:i<prios.length:=om
    obtain⟨a,ha,hg⟩:=hi.get h (gE hlt);obtain⟨q,hq,eq⟩:=Sl.xt prios[i] 255 qb;have eq:da .i64 prios[i] 255=(q:O):=eq;refine⟨s,h.aE U,a,ha,om,e,prios[i],?_,?_⟩
    .have:=hg 0 _ U
     rw[add_nil]at this;rw[show((i:O)).toNat=i from Oo i];exact this
    .rw[eq];exact key _ om om
   .exact key 5 qb qb
  |zero=>
   intro i so ps w hid hpl2 hps h;have hin:i=n:=hid;apply hl12;refine aw om ?_;refine h.gO U ?_;refine h.ay U U λw h=>?_;refine h.gO U ?_;exact hK n bi pl ps so w om om om om om om hps h.sub
 exact loop n 0 z0 [] w om U (λp hp=>by cases hp) h
end
namespace Mc
section
variable{B:X}{w0 w:Y}{R L R':J aH}{b nc ae6 g p:X}{m:dC}{n:O}{s:Sl}
def Aw:zV:=⟨[],0,0,tZ⟩
def fp(k:ag)(nc:X)(prog:J Call)(room:O):dC:=⟨k,[],Oq nc [],Oq nc Aw,room,prog⟩
theorem uF{c bits lines:X}{prios:J O}{prog:J Call}{room:O}(h1:1<=c)(h8:c<=8)(hb:4<=bits/\bits<=20)(hl:lines<=8)(hp:prios.length=c)(hps:∀p∈prios,0<=p/\p<256)(r1:1<=room)(r8:room<=8):
  de c 1 0 (fp (ag.fC c bits lines prios) c prog room):=by
 have hk:=(Gl h8 hb hl hp hps).1;refine⟨h1,h8,by simp[fp],by simp[fp],r1,r8,λx hx=>?_,λx hx=>?_,λx hx=>?_,λx hx=>?_,Sg,λx hx=>(by cases hx),hk.ok,?_⟩
 .rw[QP hx];show((0:X):O)<=room;omega
 .rw[QP hx];exact λhh=>qi U hh
 .rw[QP hx];exact On _
 .rw[QP hx];exact Qi _
 .show jC (ag.fC c bits lines prios).ae<=0
  rw[hk.sp];exact On _
theorem uN{xs:J Call}{K:Sl->Pw}[ae4:bY s L Call bW xs](h:Ow B w0 w L)(hbig:xs.length<=1000000)(hK:∀s' w',Ow B w0 w' (af bW s' xs::L)->K s' w'):VK s K w:=by
 apply Z9;exact Dx (s:=s) (E:=bW) (xs:=xs) (zv:= .agg ⟨bW.enc ⟨0,0,0,0,0,0⟩⟩) underlying61 (show qe.info? 36=S aeh from by kernel_rfl) qa qa U qb h (by
  have e:aeh.bytes=48:=qa
  rw[e];omega) hK
theorem Es{ys:J Cm}{y:Cm}{c:X}{k:Sl->Pw}[ae4:bY s L Cm db ys][aeX:eD (af db s ys) L R](h:Ow B w0 w (aa c (db.enc y)::L))(hbig:ys.length<=1000000)
  (hk:∀s' w',s'.len=ys.length+1->Ow B w0 w' (af db s' (ys++ [y])::R)->k s' w'):
  ∃s' w',aP qe [186,186] 186 s.v (.slice (S c.p) 1 1) w s' w'/\k s' w':=
 Ow.eR (E:=db) (y:=y) underlying186 (show qe.info? 197=S aeS from by kernel_rfl) (zv:= .agg #[.pointer I,.z 0,.z 0,.z 0,.y 0,.z 0,.slice I 0 0]) qa qa U qb h (by
  have e:aeS.bytes=72:=qa
  rw[e];omega) hk
theorem iP{c bits lines:X}{prios:J O}{prog:J Call}{room:O}{s5:Sl}{K:qg qf->O->Pw}[ae4:bY s L O aB prios][I5:bY s5 L Call bW prog]
  (h1:1<=c) (h8:c<=8) (hb:4<=bits/\bits<=20) (hl:lines<=8) (hp:prios.length=c) (hps:∀p∈prios,0<=p/\p<256) (r1:1<=room) (r8:room<=8) (hpl:prog.length<=1000000) (h:Ow B w0 w L)
  (hK:∀b w',Ow B w0 w' (dQ b (fp (ag.fC c bits lines prios) c prog room)::L)->K b.o 0 w'):SQ (c:O) (bits:O) (lines:O) s s5 room K w:=by
 apply YG;have hr:ag.gC (c:O) (bits:O) (lines:O) prios=true:=qm ⟨om,om,om,om,om,om,om,hps⟩;refine h.a λab w1 h=>?_;refine h.gO (x3:=s) U ?_;refine xo (s:=s) (prios:=prios) h om (λe=>by rw[hr]at e;cases e) λ_ kb w h=>?_;rw[show(show O from c).toNat=c from Oo c,show(show O from bits).toNat=bits from Oo bits,show(show O from lines).toNat=lines from Oo lines]at h;generalize ag.fC c bits lines prios=k at h hK;refine fG U ?_;refine uN (s:=s5) (xs:=prog) h hpl λs6 w h=>?_;refine h.a λmb w2 h=>?_;refine h.l1 U ?_;refine oS h1 h8 h λlb w h=>⟨_,U,?_⟩
 refine h.gh U U λw h=>?_;refine h.l1 U ?_;refine rh h1 h8 h λbb w h=>⟨_,U,?_⟩
 refine h.gh U U λw h=>?_;refine h.l1 U ?_;intro l hl31;have loop:∀(d j:X)(cs:Sl)(ps:J X)(xs:J (zV × Sl))(w:Y),j+d=c->xs=Oq j (Aw,z0)->
   Ow B w0 w (aa mb [.q kb,.q lb,.q bb,cs.v,s6.v]::af db cs (kK ps xs)::au (eY room) ps xs::dY bb (Oq c [])::ct lb c []::af bW s6 prog::aj kb k::L)->l (j:O) w:=by
  intro d;induction d with
  |zero=>
   intro j cs ps xs w hj hx h;have ej:j=c:=om
   subst ej;apply hl31;refine aw om ?_;refine hK mb w (pH ⟨kb,lb,bb,cs,s6,ps,xs⟩ (by rw[hx];simp[fp]) ?_);have e:(fp k j prog room).cs.length=j:=by simp[fp]
   rw[e];have h2:Ow B w0 w (aa mb [.q kb,.q lb,.q bb,cs.v,s6.v]::aj kb k::ct lb j []::dY bb (Oq j [])::af db cs (kK ps xs)::au (eY room) ps xs::af bW s6 prog::L):=h.sub;exact h2
  |succ d ih=>
   intro j cs ps xs w hj hx h;have hpl2:ps.length=xs.length:=Ow.cQ (h.pick (ae7:=au (eY room) ps xs));have hxl:xs.length=j:=by rw[hx,List.length_replicate]
   apply hl31;refine az om ?_;refine zM r1 om h λtb w h=>?_;refine fG U ⟨_,U,cs,h.aE U,?_⟩;refine h.a λec w3 h=>?_;have h:Ow B w0 w3 (aa ec (db.enc (cm tb (Aw,z0)))::_):=h;refine Es (s:=cs) (ys:=kK ps xs) h (by rw[Ry];omega) λs' w hs' h=>⟨_,U,?_⟩
   refine h.gh U U λw h=>?_;rw[wI j om];refine ih (j+1) s' (ps++ [tb]) (xs++ [(Aw,z0)]) w om (by rw[hx,Q4]) ?_;have ez:kK (ps++ [tb]) (xs++ [(Aw,z0)])=kK ps xs++ [cm tb (Aw,z0)]:=by show Ot cm _ _=_;rw[List.zipWith_append hpl2];rfl
   rw[ez];have h2:Ow B w0 w (fm tb room []::af aA z0 []::au (eY room) ps xs::aa mb [.q kb,.q lb,.q bb,s'.v,s6.v]::af db s' (kK ps xs++ [cm tb (Aw,z0)])::dY bb (Oq c [])::ct lb c []::af bW s6 prog::aj kb k::L):=Ow.cw (Ow.cH (h.sub));have h3:Ow B w0 w (eY room tb (Aw,z0)::au (eY room) ps xs::_):=Ow.br (M:=[fm tb room [],af aA z0 []]) h2;exact(h3.nL).sub
 have h2:Ow B w0 w (au (eY room) [] []::af db z0 []::_):=Ow.jj U (Ow.cH h);have h3:Ow B w0 w (aa mb [.q kb,.q lb,.q bb,.slice I 0 0,s6.v]::af db z0 []::au (eY room) [] []::dY bb (Oq c [])::ct lb c []::af bW s6 prog::aj kb k::L):=h2.sub;refine loop c 0 z0 [] [] w om U h3
theorem Eg{K:O->W->Pw}(hm:de nc ae6 g m)(h:Ow B w0 w (dQ b m::R))
  (hK:K (if 0<=n/\n<(nc:O)then(m.ao n).dw else 0) (F (0<=n/\n<(nc:O))) w):VS b.o n K w:=by
 apply ZX;refine I4 hm h ?_;by_cases e:0<=n/\n<(nc:O)
 .rw[A e,qm e]at hK
  rw[qm e];refine aW U ?_;obtain⟨x,p,fs,aeY,hZ,hzl,h,back⟩:=focus hm e.1 e.2 h;exact⟨_,U,x.cs,h.aE U,xE (s:=x.cs) h e.1 hZ λa ha hc0 hc=>⟨_,hc 1 _ U,hK⟩⟩
 .rw[Q e,qk e]at hK
  rw[qk e];exact aU U hK
theorem uU{K:Sl->Pw}(hm:de nc ae6 g m)(h:Ow B w0 w (dQ b m::R))(hK:∀s w',Ow B w0 w' (af Sl.dV s (fE m.k.H)::dQ b m::R)->K s w'):Ub b.o K w:=by
 apply ZS;obtain⟨x,hx,h⟩:=CG h;refine⟨_,U,h.l1 U (Ej hm.k (h.pick (ae7:=aj x.k m.k)) λs w h=>?_)⟩;have h2:Ow B w0 w (aa b (dU x)::aj x.k m.k::ct x.l m.cs.length m.line::dY x.b m.bx::af db x.cs (kK x.ps x.xs)::au (eY m.room) x.ps x.xs::af bW x.pr m.prog::af Sl.dV s (fE m.k.H)::R):=h.sub;exact hK s w (Ow.cw (pH x hx h2))
theorem mT{K:Sl->Pw}(h:Ow B w0 w (dQ b m::R))(hK:∀s w',Ow B w0 w' (af Tb.aJ s (m.k.gA n)::dQ b m::R)->K s w'):Tv b.o n K w:=by
 apply ZT;obtain⟨x,hx,h⟩:=CG h;refine⟨_,U,h.l1 U (jI (h.pick (ae7:=aj x.k m.k)) λs w h=>?_)⟩;have h2:Ow B w0 w (aa b (dU x)::aj x.k m.k::ct x.l m.cs.length m.line::dY x.b m.bx::af db x.cs (kK x.ps x.xs)::au (eY m.room) x.ps x.xs::af bW x.pr m.prog::af Tb.aJ s (m.k.gA n)::R):=h.sub;exact hK s w (Ow.cw (pH x hx h2))
theorem xy{s5:Sl}{calls:J Call}{cb:X}{k:Sl->Pw}(hi5:El bW w0 s5 calls)(h:Ow w0.heap.size w0 w (aa cb []::R))
  (hk:∀s' w',Ow w0.heap.size w0 w' (af bW s' (calls.take 40)::R)->k s' w'):
  ∃s' w',aP qe [61,61] 61 (.slice (S cb.p) 0 0) (.slice (eH s5.a 0 s5.cap 6) ((rG (s5.len:O) 40).toNat-0) (s5.cap-0)) w s' w'/\k s' w':=by
 have hlen:=hi5.len;have e:(rG (s5.len:O) 40).toNat=min calls.length 40:=by unfold rG;omega
 rw[e];have h2:Ow w0.heap.size w0 w (af bW ⟨S cb.p,0,0⟩ []::R):=Ow.empty h;have eb:aeh.bytes=48:=qa
 refine Ow.Mr (E:=bW) (s:=⟨S cb.p,0,0⟩) (xs:=[]) (ys:=calls) (n:=min calls.length 40) underlying61 (show qe.info? 36=S aeh from by kernel_rfl) (zv:= .agg ⟨bW.enc ⟨0,0,0,0,0,0⟩⟩) qa qa U qb hi5 om h2 0 U (by rw[eb];simp only[List.length_nil];omega) λs' w' _ h=>?_;have et:calls.take (min calls.length 40)=calls.take 40:=by
  by_cases hl:calls.length<=40
  .rw[Ou om,Ou hl]
  .rw[show min calls.length 40=40 from by omega]
 rw[et]at h;exact hk s' w' h
theorem F7{c bits lines rm:O}{prios:J O}{calls:J Call}{s s5:Sl}{K:O->O->O->Sl->Sl->O->Pw}(hi:El aB w0 s prios)(hi5:El bW w0 s5 calls)(h:Ow w0.heap.size w0 w R)
  (hK:∀(n bi li:X)(ps:J O)(room:O)s' s5' w',1<=n->n<=3->6<=bi->bi<=12->li<=3->ps.length=n->(∀p∈ps,0<=p/\p<256)->1<=room->room<=8->
   Ow w0.heap.size w0 w' (af bW s5' (calls.take 40)::af aB s' ps::R)->K (n:O) (bi:O) (li:O) s' s5' room w'):Vq c bits lines s s5 rm K w:=by
 apply ac4;obtain⟨pr,hpr,er⟩:=Sl.xt rm 7 qb;have er:da .i64 rm 7=(pr:O):=er;have ew:qd.wrap (1+(pr:O))=1+(pr:O):=wr om om;have hlen:=hi5.len;have hcap:=hi5.cap;refine h.a λab w1 h=>?_;refine h.a λrb w2 h=>?_;refine h.dr λw h=>?_;refine h.gO (x3:=s) U ?_;refine⟨s5,h.aE U,s5,h.aE U,⟨by unfold rG;omega,by unfold rG;omega,rm,h.aE U,?_,?_,trivial⟩⟩
 .refine uY hi h λn bi li ps s' w n1 n3 b6 b12 l3 hpn hps h=>⟨h.aE U,h.aE U,h.aE U,Go.Vc.a2 ?_⟩
  refine h.al λw3 h=>Go.Vc.a2 ?_;generalize w.heap.size=cb at h|-;refine xy hi5 h λs5' w h=>⟨h.aE U,Go.Vc.a2 ?_⟩
  rw[er,ew];refine h.ay U U λw h=>?_;refine h.dI (x3:=s') (x4:=s5') U ?_;exact hK n bi li ps _ s' s5' w n1 n3 b6 b12 l3 hpn hps om om h.sub
 .refine h.al λw3 h=>Go.Vc.a2 ?_
  generalize w.heap.size=cb at h|-;refine uY hi h λn bi li ps s' w n1 n3 b6 b12 l3 hpn hps h=>⟨h.aE U,h.aE U,h.aE U,Go.Vc.a2 ?_⟩
  refine xy hi5 (h.pick (ae7:=aa cb [])) λs5' w h=>⟨h.aE U,Go.Vc.a2 ?_⟩
  rw[er,ew];refine h.ay U U λw h=>?_;refine h.dI (x3:=s') (x4:=s5') U ?_;exact hK n bi li ps _ s' s5' w n1 n3 b6 b12 l3 hpn hps om om h.sub
theorem z8{K:O->O->O->Sl->Pw}(h:Ow B w0 w R)(hK:∀s w',Ow B w0 w' (af aB s [5]::R)->K 1 10 2 s w'):Uj K w:=by
 apply ac2;refine h.a λab w1 h=>?_;refine h.a λpb w2 h=>?_;refine h.ay U U λw h=>?_;refine h.gO (x3:=(⟨S pb.p,1,1⟩:Sl)) U ?_;have h2:Ow B w0 w (af aB ⟨S pb.p,1,1⟩ [5]::_):=Ow.Ak (h.pick (ae7:=aa pb [.z 5])) [5] U;exact hK _ w h2.sub
theorem Iy{c bits lines:X}{prios:J O}{room:O}{s:Sl}{K:qg qf->O->Pw}[ae4:bY s L O aB prios]
  (h1:1<=c) (h8:c<=8) (hb:4<=bits/\bits<=20) (hl:lines<=8) (hp:prios.length=c) (hps:∀p∈prios,0<=p/\p<256) (r1:room<1) (h:Ow B w0 w L)
  (hK:∀w',Ow B w0 w' L->K I 1 w'):SQ (c:O) (bits:O) (lines:O) s z0 room K w:=by
 apply YG;have hr:ag.gC (c:O) (bits:O) (lines:O) prios=true:=qm ⟨om,om,om,om,om,om,om,hps⟩;refine h.a λab w1 h=>?_;refine h.gO (x3:=s) U ?_;refine xo (s:=s) (prios:=prios) h om (λe=>by rw[hr]at e;cases e) λ_ kb w h=>?_;refine fG U ?_;have h:Ow B w0 w (af bW z0 []::_):=Ow.cH h;refine uN (s:=z0) (xs:=[]) h qc λs6 w h=>?_;refine h.a λmb w2 h=>?_;refine h.l1 U ?_;refine oS h1 h8 h λlb w h=>⟨_,U,?_⟩
 refine h.gh U U λw h=>?_;refine h.l1 U ?_;refine rh h1 h8 h λbb w h=>⟨_,U,?_⟩
 refine h.gh U U λw h=>?_;refine h.l1 U ?_;intro l hl31;apply hl31;refine az om ?_;apply YJ;intro k hk;refine az om ?_;apply hk;refine aU U ?_;refine iy qb ?_;exact hK w h.sub
def J2:dC:=fp (ag.fC 1 10 2 [5]) 1 [⟨0,1,20,6,0,1⟩] 4
def Ip:dC:=(J2.item ⟨1,0,0,0⟩).2
def IY:dC:=(Ip.item ⟨0,0,0,0⟩).2
def Kt:dC:=(IY.item ⟨0,0,0,0⟩).2
def J3:dC:=(Kt.item ⟨3,0,0,0⟩).2
def J4:dC:=(J3.item ⟨0,0,0,0⟩).2
def IZ:dC:=(J4.item ⟨3,0,0,0⟩).2
def Ku:dC:=(IZ.item ⟨1,0,5,1⟩).2
def L9:dC:=(Ku.item ⟨0,1,0,0⟩).2
theorem N8:(J2.item ⟨1,0,0,0⟩).1.isSome=false:=qa
theorem N9:(Ip.ao 0).dw=1:=qa
theorem Nq:((Ip.item ⟨0,0,0,0⟩).1.getD fi).kind=0/\(Ip.item ⟨0,0,0,0⟩).1.isSome=true:=⟨qa,qa⟩
theorem Mw:((IY.item ⟨0,0,0,0⟩).1.getD fi).kind=1/\((IY.item ⟨0,0,0,0⟩).1.getD fi).t.e=0/\(IY.item ⟨0,0,0,0⟩).1.isSome=true:=⟨qa,qa,qa⟩
theorem Oa:(Kt.item ⟨3,0,0,0⟩).1.isSome=false:=qa
theorem Nr:((J3.item ⟨0,0,0,0⟩).1.getD fi).kind=2/\(J3.item ⟨0,0,0,0⟩).1.isSome=true:=⟨qa,qa⟩
theorem Ns:((J4.item ⟨3,0,0,0⟩).1.getD fi).is=V/\(J4.item ⟨3,0,0,0⟩).1.isSome=true:=⟨qa,qa⟩
theorem My:((IZ.item ⟨1,0,5,1⟩).1.getD fi).kind=3/\((IZ.item ⟨1,0,5,1⟩).1.getD fi).is=Z/\(IZ.item ⟨1,0,5,1⟩).1.isSome=true:=⟨qa,qa,qa⟩
theorem Ob:(Ku.item ⟨0,1,0,0⟩).1.isSome=false:=qa
theorem Oc:(fE L9.k.H).length=7:=qa
theorem tL:tV [⟨0,1,20,6,0,1⟩]:=λc hc=>by rw[OY.1 hc];exact⟨qb,qb⟩
theorem M7:tV J2.prog:=by rw[show J2.prog= [⟨0,1,20,6,0,1⟩]from by kernel_rfl];exact tL
theorem M8:tV Ip.prog:=by rw[show Ip.prog= [⟨0,1,20,6,0,1⟩]from by kernel_rfl];exact tL
theorem M9:tV IY.prog:=by rw[show IY.prog= [⟨0,1,20,6,0,1⟩]from by kernel_rfl];exact tL
theorem Na:tV Kt.prog:=by rw[show Kt.prog= [⟨0,1,20,6,0,1⟩]from by kernel_rfl];exact tL
theorem Nb:tV J3.prog:=by rw[show J3.prog= [⟨0,1,20,6,0,1⟩]from by kernel_rfl];exact tL
theorem Nc:tV J4.prog:=by rw[show J4.prog= [⟨0,1,20,6,0,1⟩]from by kernel_rfl];exact tL
theorem Nd:tV IZ.prog:=by rw[show IZ.prog= [⟨0,1,20,6,0,1⟩]from by kernel_rfl];exact tL
theorem Nf:tV Ku.prog:=by rw[show Ku.prog= [⟨0,1,20,6,0,1⟩]from by kernel_rfl];exact tL
theorem Le:de 1 1 0 J2:=uF qb qb qb qb U (λp hp=>by rw[OY.1 hp];decide) qb qb
theorem zR:de 1 65 1 Ip:=(Le.item qb ⟨1,0,0,0⟩).1
theorem GM:de 1 129 2 IY:=(zR.item qb ⟨0,0,0,0⟩).1
theorem NX:de 1 193 3 Kt:=(GM.item qb ⟨0,0,0,0⟩).1
theorem NY:de 1 257 4 J3:=(NX.item qb ⟨3,0,0,0⟩).1
theorem NZ:de 1 321 5 J4:=(NY.item qb ⟨0,0,0,0⟩).1
theorem N0:de 1 385 6 IZ:=(NZ.item qb ⟨3,0,0,0⟩).1
theorem N1:de 1 449 7 Ku:=(N0.item qb ⟨1,0,5,1⟩).1
theorem Od:de 1 513 8 L9:=(N1.item qb ⟨0,1,0,0⟩).1
theorem yV{K:W->Pw}(h:Ow B w0 w R)(hK:∀w',Ow B w0 w' R->K V w'):SZ K w:=by
 apply ac5;refine z8 h λs w h=>?_;refine h.a λpb w1 h=>?_;have h:Ow B w0 w1 (af bW ⟨S pb.p,1,1⟩ [⟨0,1,20,6,0,1⟩]::af aB s [5]::R):=Ow.Ak (E:=bW) h ([⟨0,1,20,6,0,1⟩]:J Call) U;refine iP (c:=1) (bits:=10) (lines:=2) (prios:=[5]) (prog:=[⟨0,1,20,6,0,1⟩]) (room:=4) (s:=s) (s5:=⟨S pb.p,1,1⟩) qb qb qb qb U (λp hp=>by rw[OY.1 hp];decide) qb qb qb h λb w h=>?_;have h:Ow B w0 w (dQ b J2::R):=Ow.sub (show Ow B w0 w (dQ b J2::af bW ⟨S pb.p,1,1⟩ [⟨0,1,20,6,0,1⟩]::af aB s [5]::R)from h);intro k hk;refine aW U ?_;apply hk;refine fG U ?_;refine fU (it:=⟨1,0,0,0⟩) Le qb qb M7 (h.pick (ae7:=dQ b J2)) λfs w h=>?_;have h:Ow B w0 w (af aA fs _::dQ b Ip::_):=h;have h:=h.drop;unfold Ds;refine h.a λc0 w2 h=>?_;refine h.ay U U λw h=>?_;refine Eg (n:=0) zR (h.pick (ae7:=dQ b Ip)) ?_;refine fU (it:=⟨0,0,0,0⟩) zR qb qb M8 (h.pick (ae7:=dQ b Ip)) λfs w h=>?_;have h:Ow B w0 w (af aA fs _::dQ b IY::_):=h;have h:=h.drop;unfold Ds;refine h.a λc1 w2 h=>?_;refine h.ay U U λw h=>?_;refine fU (it:=⟨0,0,0,0⟩) GM qb qb M9 (h.pick (ae7:=dQ b IY)) λfs w h=>?_;have h:Ow B w0 w (af aA fs _::dQ b Kt::_):=h;have h:=h.drop;unfold Ds;refine h.a λc2 w2 h=>?_;refine h.ay U U λw h=>?_;refine fU (it:=⟨3,0,0,0⟩) NX qb qb Na (h.pick (ae7:=dQ b Kt)) λfs w h=>?_;have h:Ow B w0 w (af aA fs _::dQ b J3::_):=h;have h:=h.drop;unfold Ds;refine h.a λc3 w2 h=>?_;refine h.ay U U λw h=>?_;refine fU (it:=⟨0,0,0,0⟩) NY qb qb Nb (h.pick (ae7:=dQ b J3)) λfs w h=>?_;have h:Ow B w0 w (af aA fs _::dQ b J4::_):=h;have h:=h.drop;unfold Ds;refine h.a λc4 w2 h=>?_;refine h.ay U U λw h=>?_;refine fU (it:=⟨3,0,0,0⟩) NZ qb qb Nc (h.pick (ae7:=dQ b J4)) λfs w h=>?_;have h:Ow B w0 w (af aA fs _::dQ b IZ::_):=h;have h:=h.drop;unfold Ds;refine h.a λc5 w2 h=>?_;refine h.ay U U λw h=>?_;refine fU (it:=⟨1,0,5,1⟩) N0 qb qb Nd (h.pick (ae7:=dQ b IZ)) λfs w h=>?_;have h:Ow B w0 w (af aA fs _::dQ b Ku::_):=h;have h:=h.drop;unfold Ds;refine h.a λc6 w2 h=>?_;refine h.ay U U λw h=>?_;refine fU (it:=⟨0,1,0,0⟩) N1 qb qb Nf (h.pick (ae7:=dQ b Ku)) λfs w h=>?_;have h:Ow B w0 w (af aA fs _::dQ b L9::_):=h;have h:=h.drop;unfold Ds;refine h.a λc7 w2 h=>?_;refine h.ay U U λw h=>?_;refine z8 h λs w h=>?_;refine Iy (c:=1) (bits:=10) (lines:=2) (prios:=[5]) (room:=0) (s:=s) qb qb qb qb U (λp hp=>by rw[OY.1 hp];decide) qb h λw h=>?_;refine aU (by rw[N8];rfl) ?_;refine jg (by rw[A qb];exact N9) ?_;refine aU U ?_;refine⟨_,h.aF U,jg Nq.1 (aU Nq.2 ⟨_,h.aF U,jg Mw.1 ⟨_,h.aE U,jg Mw.2.1 (aU Mw.2.2 (aU (by rw[Oa];rfl) ?_))⟩⟩)⟩;refine⟨_,h.aF U,jg Nr.1 (aU Nr.2 ⟨_,h.aE U,aU Ns.1 (aU Ns.2 ⟨_,h.aF U,jg My.1 ⟨_,h.aE U,aU (by rw[My.2.1];rfl) (aU My.2.2 ?_)⟩⟩)⟩)⟩;refine aU (by rw[Ob];rfl) ?_;refine jg U ?_;refine uU Od (h.pick (ae7:=dQ b L9)) λs2 w h=>?_;have hl:=h.aL s2;rw[Oc]at hl;rw[show((s2.len:O)==7)=V from by rw[hl];rfl];exact hK w h.sub
def DJ:dF Item:=⟨4,λo=>[.z o.kind,.z o.core,.z o.a,.z o.b],λ_=>rfl,λx v h=>by simp only[Oz,List.not_mem_nil,qC]at h;rcases h with rfl|rfl|rfl|rfl<;>rfl,qb⟩
theorem KH{w:Y}{a:qf}{x:Item}{f:O->O->O->O->Prop}(g:∀c v,(DJ.enc x)[c]?=S v->w.cell? (a.add c)=S v)(hf:f x.kind x.core x.a x.b):
  av w a 0 [.o,.o,.o,.o] f:=⟨_,g 0 _ U,_,g 1 _ U,_,g 2 _ U,_,g 3 _ U,hf⟩
def vf(c:Call):Prop:=(Lit.int .i64 c.ar).wf=V
def AQ(_:Item):Prop:=G
theorem Nl{x:O}(h:(Lit.int .i64 x).wf=V): -9223372036854775808<=x/\x<9223372036854775808:=by have h1:(F (qd.min<=x)&&F (x<=qd.max))=true:=h;rw[show qd.min= -9223372036854775808 from U,show qd.max=9223372036854775807 from U]at h1;simp only[OH,qA]at h1;omega
theorem Jm{calls:J Call}(h:∀c∈calls,vf c):tV (calls.take 40):=λc hc=>Nl (h c (RY hc))
theorem FL(n:O):(m.step n).2.prog=m.prog:=by
 unfold dC.step;split
 .rfl
 split
 .rfl
 split
 .split
  .show (dC.kI n _ _).prog=m.prog
   have:∀(l:J dP)(m:dC),(dC.kI n l m).prog=m.prog:=λl=>by
    induction l with
    |nil=>exact λ_=>rfl
    |cons x l ih=>exact λm=>ih _
   exact this _ _
  .rfl
 split
 .rfl
 .rfl
theorem FR(x:Item):(m.user x).2.prog=m.prog:=by
 unfold dC.user;split
 .rfl
 split
 .rfl
 split<;>rfl
theorem EO(x:Item):(m.item x).2.prog=m.prog:=by
 unfold dC.item;split
 .rfl
 split
 .exact FR x
 split
 .exact FL _
 split
 .rfl
 split<;>rfl
end
end Mc
section
variable{B:X}{w0 w:Y}{R L:J aH}
theorem CU{c:cO}{r g:O}{K:O->O->O->O->O->O->O->Pw}(h:Ow B w0 w R)(hc:Sl.fI c)(hg:0<=g)
  (hK:∀w' x,x=(ag.gg c r g).1->Ow B w0 w' R->K x.kind x.obj x.ak x.ax x.guard x.bits (ag.gg c r g).2 w'):Wk c.kind c.obj c.ak c.ax c.guard c.bits r g K w:=by
 apply abL;refine h.a λa w1 h=>?_;refine h.a λz w2 h=>?_;refine h.dI U ?_;refine Sl.lD h hc λw h=>?_;unfold ag.gg at hK;have bad:∀(e:O)(w:Y),(∀w' x,x=Sl.aq->Ow B w0 w' R->K x.kind x.obj x.ak x.ax x.guard x.bits e w')->
   Ow B w0 w (aa z [.z 0,.z 0,.z 0,.y 0,.y 0,.z 0]::aa a c.cells::R)->
   aD w z.p 0 [.z (0:O),.z (0:O),.z (0:O),.y (0:O),.y (0:O),.z (0:O)] λw19=>
   av w19 z.p 0 [.o,.o,.o,.u,.u,.o] λ(r20:O)(r21:O)(r22:O)(r23:O)(r24:O)(r25:O)=>K r20 r21 r22 r23 r24 r25 e w19:=λe w hK h=>by
  refine h.ay U U λw h=>?_;refine h.dI U ?_;exact hK w Sl.aq U h.drop.drop
 refine oO (λe=>?_) (λe=>?_)
 .rw[A e]at hK
  exact bad _ w hK h
 rw[Q (by rw[e];decide)]at hK;intro k26 hk26;have t26:¬(0<=r/\r<=7)->k26 V w:=λe2=>by rw[A e2]at hK;exact hk26 _ _ (aU U (bad 1 w hK h))
 refine bg (λe1=>t26 om) (λe1=>?_);by_cases e2:r>7
 .rw[qm e2];exact t26 om
 rw[qk e2];rw[Q om]at hK;apply hk26;refine aW U ?_;intro k36 hk36;have t36:(c.kind=0\/(g≠0/\(Sl.df c.kind=Z\/c.ax≠0)))->k36 V w:=λe3=>by rw[A e3]at hK;exact hk36 _ _ (aU U (bad 41 w hK h))
 have main:¬(c.kind=0\/(g≠0/\(Sl.df c.kind=Z\/c.ax≠0)))->k36 Z w:=λe3=>by
  rw[Q e3]at hK;apply hk36;refine aW U ?_;refine h.dI U ?_;refine h.a λn w3 h=>?_;refine h.ay U U λw h=>?_;refine⟨_,h.aF U,Sl.ke ?_⟩;intro k57 hk57;have fin:∀(w:Y)(ri:O),ri=(if Sl.cW c.kind then da .i64 c.ak r else c.ak)->Ow B w0 w (aa n [.z c.kind,.z c.obj,.z ri,.y c.ax,.y c.guard,.z c.bits]::aa z [.z 0,.z 0,.z 0,.y 0,.y 0,.z 0]::aa a c.cells::R)->k57 w:=λw ri hr h=>by
   apply hk57;subst hr;refine bg (λe4=>?_) (λe4=>?_)
   .rw[A (show g≠0 by omega)]at hK
    refine h.gh U U λw h=>?_;refine h.dI U ?_;refine h.ay U U λw h=>?_;refine h.dI U ?_;exact hK w _ U h.sub
   .rw[Q (show ¬g≠0 by omega)]at hK
    refine h.dI U ?_;refine h.ay U U λw h=>?_;refine h.dI U ?_;exact hK w _ U h.sub
  cases hl:Sl.cW c.kind with
  |true=>
   refine aU U (h.l2 U ?_);refine h.gh U U λw h=>?_;exact fin w _ (by rw[hl];rfl) h
  |false=>exact aW U (fin w _ (by rw[hl];rfl) h)
 refine h.l1 U ?_;refine dK (λe3=>t36 (.inl e3)) (λe3=>?_);refine bg (λe4=>⟨_,h.aF U,Sl.gS ?_⟩) (λe4=>main om);cases hbd:Sl.df c.kind with
 |false=>exact aU U (t36 (.inr ⟨om,.inl hbd⟩))
 |true=>
  refine aW U (h.l2 U ?_);by_cases e5:c.ax>0
  .rw[qm e5];exact t36 (.inr ⟨om,.inr om⟩)
  .rw[qk e5]
   refine main ?_;rintro (h1|⟨_,h1|h1⟩)
   .exact e3 h1
   .rw[hbd]at h1;cases h1
   .have:=hc.b0;omega
theorem CY{a c:cO}{K:W->Pw}(h:Ow B w0 w R)(hK:∀w',Ow B w0 w' R->K (ag.mG a c) w'):W8 a.kind a.obj a.ak a.ax a.guard a.bits c.kind c.obj c.ak c.ax c.guard c.bits K w:=by
 apply abP;refine h.a λx w1 h=>?_;refine h.a λy w2 h=>?_;have hK:=hK w2 h.drop.drop;unfold ag.mG at hK;refine h.l1 U ?_;refine oO (λe=>?_) (λe=>?_)
 .rw[qm e,Qa]at hK
  refine⟨_,h.aF U,h.l1 U (dK (λe2=>?_) (λe2=>?_))⟩
  .rw[qm e2,Qa]at hK
   refine⟨_,h.aE U,h.l2 U ?_⟩;rw[show(a.obj==c.obj)=F (a.obj=c.obj)from U];exact hK
  .rw[qk e2]at hK;exact hK
 .rw[qk (by simpa using e)]at hK;exact hK
end
namespace Sl
section
variable{B:X}{w0 w:Y}{R L:J aH}{b:X}{bits:J O}{H:Hs}
structure yD(H:Hs)(t:Slot)(hs:J (Slot × cO)):Prop where
 kU:hs.Pairwise (λx y=>oB x.1 y.1=V)
 mem:∀k c,(k,c)∈hs↔H k=S c/\oB k t=V
theorem yD.none{H:Hs}{t t':Slot}{hs:J (Slot × cO)}(h:yD H t hs)(hn:∀k c,H k=S c->(oB k t=V↔oB k t'=V)):yD H t' hs:=
 ⟨h.kU,λk c=>by
  rw[h.mem];constructor
  .rintro ⟨h1,h2⟩;exact⟨h1,(hn k c h1).1 h2⟩
  .rintro ⟨h1,h2⟩;exact⟨h1,(hn k c h1).2 h2⟩⟩
theorem yD.add{H:Hs}{i k:O}{c:cO}{hs:J (Slot × cO)}(h:yD H (i,k) hs)(hc:H (i,k)=S c):yD H (i,k+1) (hs++ [((i,k),c)]):=by
 refine⟨?_,λs d=>?_⟩
 .rw[List.pairwise_append]
  refine⟨h.kU,qc,λx hx y hy=>?_⟩;simp only[OY]at hy;subst hy;exact((h.mem x.1 x.2).1 hx).2
 .rw[Pn,h.mem,OY]
  constructor
  .rintro (⟨h1,h2⟩|e)
   .exact ⟨h1,by simp only[oB,qA]at *;omega⟩
   .cases e
    exact⟨hc,by simp only[oB,qA];exact .inr ⟨trivial,Int.lt_succ k⟩⟩
  .rintro ⟨h1,h2⟩
   by_cases e:s=(i,k)
   .subst e
    rw[hc]at h1;cases h1;exact .inr U
   .refine .inl ⟨h1,?_⟩
    have:s.1≠i\/s.2≠k:=by
     by_cases e1:s.1=i
     .exact .inr λe2=>e (Prod.ext e1 e2)
     .exact .inl e1
    simp only[oB,qA]at*
    omega
theorem Ic{t:Slot}{hs:J (Slot × cO)}(hk:sq bits H)(hu:yD H t hs):hs.length<=16384:=by
 have:=uG 16384 (hs.map λx=>x.1.1*256+x.1.2) (by
  refine QS.2 (List.Pairwise.imp_of_mem (λ{x y}hx hy hne e=>?_) hu.kU);have:=hk.bound ((hu.mem x.1 x.2).1 hx).1;have:=hk.bound ((hu.mem y.1 y.2).1 hy).1;simp only[oB,qA]at hne;omega) λz hz=>by
  obtain⟨x,hx,rfl⟩:=O4.1 hz;have:=hk.bound ((hu.mem x.1 x.2).1 hx).1;omega
 simpa using this
theorem GL{i:X}{z:O}(hk:sq bits H)(hb:bits[i]?=S z){k:Slot}{c:cO}(e:H k=S c)(ek:k.1=(i:O)):0<=k.2/\k.2<((rowOf H i z).length:O):=by
 obtain⟨n',k',z',e2,hb',hz',hk'⟩:=gF (hk.held _ _ e).1;subst e2;have:n'=i:=by simp only at ek;omega
 subst this;rw[hb]at hb';cases hb';rw[gv hz'];exact⟨by simp only;omega,by simp only;omega⟩
theorem mz{K:Sl->Pw}(h:Ow B w0 w (bm b bits H::R))(hK:∀s hs w',lO H hs->Ow B w0 w' (af dV s hs::bm b bits H::R)->K s w'):Uc b.o K w:=by
 apply adm;refine h.a λp w1 h=>?_;have h:=Ow.Ak (E:=dV) h [] U;have h:=h.cw;obtain⟨sl,ss,hk,hsl,h⟩:=h.mf;have hfew:=hk.fh;intro l3 hl3;have loop:∀(j i:X)(out:Sl)(hs:J (Slot × cO))(w:Y),i+j=bits.length->yD H ((i:O),0) hs->Ow B w0 w (af dV out hs::cU nj ss (rowsOf bits H)::aa b [bL sl]::af pU sl ss::R)->l3 out (i:O) w:=by
  intro j;induction j with
  |zero=>
   intro i out hs w hi hu h;apply hl3;have hlen:=h.aL sl;repeat first|refine h.l1 U ?_|refine eX ?_
   refine aw om ?_;refine hK out hs _ ⟨hu.kU,λk c=>?_⟩ (Ow.cw (Ow.ed (s:=sl) (ss:=ss) hk h.sub));rw[hu.mem];refine⟨λe=>e.1,λe=>⟨e,?_⟩⟩;obtain⟨n',k',z',rfl,hb',hz',hk'⟩:=gF (hk.held _ _ e).1;have:=(Om.1 hb').1;simp only[oB,qA];omega
  |succ j ih=>
   intro i out hs w hi hu h;apply hl3;have hlen:=h.aL sl;repeat first|refine h.l1 U ?_|refine eX ?_
   refine az om ?_;have hb:bits[i]?=S bits[i]:=gE om;generalize bits[i]=z at hb;obtain⟨sn,hss⟩:∃sn,ss[i]?=S sn:=⟨_,gE om⟩
   have hrl:=h.cw.gv hss (dy hb);have hr256:(rowOf H i z).length<=256:=by
    by_cases hz:z= -1
    .unfold rowOf;rw[A hz];simp
    .rw[gv hz]
     rcases hk.zT z (OV hb)with e|e
     .exact qi e hz
     .have:2^z.toNat<=2^8:=Pm om om
      omega
   intro l9 hl9;have loop2:∀(j k:X)(out:Sl)(hs:J (Slot × cO))(w:Y),k+j=(rowOf H i z).length->yD H ((i:O),(k:O)) hs->Ow B w0 w (af dV out hs::cU nj ss (rowsOf bits H)::aa b [bL sl]::af pU sl ss::R)->l9 out (k:O) w:=by
    intro j2;induction j2 with
    |zero=>
     intro k out hs w hkj hu h;apply hl9;repeat first|refine h.l1 U ?_|refine eX ?_
     refine h.bX U hss λa ha hc0 hc1=>?_;refine⟨_,hc0 _ U,aw om ?_⟩;rw[wI i om];refine ih (i+1) out hs w om (hu.none λs c e=>?_) h;have hbd:=hk.bound e;have:s.1=(i:O)->s.2<((rowOf H i z).length:O):=λek=>(GL hk hb e ek).2;simp only[oB,qA];omega
    |succ j2 ih2=>
     intro k out hs w hkj hu h;apply hl9;repeat first|refine h.l1 U ?_|refine eX ?_
     refine h.bX U hss λa ha hc0 hc1=>?_;refine⟨_,hc0 _ U,az om ?_⟩;have hz:z≠ -1:=λe=>by
      have:(rowOf H i z).length=0:=by unfold rowOf;rw[A e];rfl
      omega
     have hkl:k<2^z.toNat:=by rw[gv hz]at hkj;omega
     repeat first|refine h.l1 U ?_|refine eX ?_
     refine h.bX U hss λa ha hc0 hc1=>?_;refine⟨_,hc0 _ U,h.cw.um hss (dy hb) (k:=k) U (gu hz hkl) λa2 ha2 hd0 hd=>?_⟩;refine⟨((H ((i:O),(k:O))).getD aq).kind,hd0 _ U,?_⟩;have hw1:qd.wrap ((k:O)+1)=((k+1:X):O):=by rw[wr om om];omega
     cases hx:H ((i:O),(k:O))with
     |none=>
      refine fG U ?_;rw[hw1];refine ih2 (k+1) out hs w om (hu.none λs c e=>?_) h;have:s≠((i:O),(k:O)):=λe2=>by rw[e2,hx]at e;cases e
      have:s.1≠(i:O)\/s.2≠(k:O):=by
       by_cases e1:s.1=(i:O)
       .exact .inr λe2=>this (Prod.ext e1 e2)
       .exact .inl e1
      simp only[oB,qA];omega
     |some x=>
      refine iy (hk.held _ _ hx).2.2.1 ?_;have hul:=Ic hk hu;repeat first|refine h.l1 U ?_|refine eX ?_
      refine h.bX U hss λa ha hc0 hc1=>?_;refine⟨_,hc0 _ U,h.cw.um hss (dy hb) (k:=k) U (gu hz hkl) λa2 ha2 hd0 hd=>?_⟩;rw[hx]at hd;refine DM hd ?_;refine h.a λd3 w3 h=>?_;refine xu (s:=out) (y:=(((i:O),(k:O)),x)) h om λs' w hs' h=>?_;rw[hw1];exact ih2 (k+1) s' _ w om (by
       have:=hu.add hx
       rwa [show((k:O)+1)=((k+1:X):O)from by omega]at this) h.sub
   exact loop2 (rowOf H i z).length 0 out hs w om hu h
 refine loop bits.length 0 _ [] w1 om ⟨List.Pairwise.nil,λk c=>?_⟩ h.sub;constructor
 .intro e;cases e
 .rintro ⟨e,e2⟩
  have:=hk.bound e;simp only[oB,qA]at e2;omega
theorem mB{s:Slot}{K:O->O->O->O->O->O->O->Pw}(h:Ow B w0 w (bm b bits H::R))
  (h1:aR bits s=Z->∀w',Ow B w0 w' (bm b bits H::R)->K 0 0 0 0 0 0 50 w')
  (h2:aR bits s=V->H s=I->∀w',Ow B w0 w' (bm b bits H::R)->K 0 0 0 0 0 0 52 w')
  (h3:aR bits s=V->∀c,H s=S c->∀w',Ow B w0 w' (bm b bits (cz H s I)::R)->K c.kind c.obj c.ak c.ax c.guard c.bits 0 w'):UL b.o s.1 s.2 K w:=by
 apply ads;repeat first|refine h.al λw h=>?_|refine h.aN U ?_
 refine gp (s:=s) h.lK λw h=>?_;refine JW (λe=>?_) (λe=>?_)
 ·(repeat first|refine h.aN U ?_|refine h.ay U U λw h=>?_)
  exact h1 e _ h.sub
 have hth:=e;obtain⟨n,k,z,rfl,hb,hz,hkl⟩:=gF e;obtain⟨sl,ss,hk,hsl,h⟩:=h.mf;obtain⟨sn,hss⟩:∃sn,ss[n]?=S sn:=⟨_,gE (by have:=(Om.1 hb).1;omega)⟩
 repeat first|refine h.dr λw h=>?_|refine h.l1 U ?_|refine eX ?_
 refine h.bX U hss λa ha hc0 hc1=>?_;refine⟨_,hc0 _ U,?_⟩
 (refine h.l1 U ?_)
 refine h.um hss (dy hb) U (gu hz hkl) λa2 ha2 hd0 hd=>?_;refine DM hd ?_;repeat first|refine h.al λw h=>?_|refine h.l1 U ?_|refine h.ay U U λw h=>?_|refine _root_.Go.Vc.a2 ?_
 cases hs:H ((n:O),(k:O))with
 |none=>
  refine aU U ?_;repeat first|refine h.aN U ?_|refine h.ay U U λw h=>?_
  exact h2 hth hs _ (Ow.ed (s:=sl) (ss:=ss) hk h.sub)
 |some c=>
  rw[hs]at h;dsimp only[PM]at h|-;refine jf (hk.held _ _ hs).2.2.1 ?_;repeat first|refine h.dr λw h=>?_|refine h.l1 U ?_|refine eX ?_
  refine h.bX U hss λa ha hc0 hc1=>?_;refine⟨_,hc0 _ U,?_⟩
  (refine h.l1 U ?_)
  refine h.cw.um hss (dy hb) U (gu hz hkl) λa2 ha2 hd0 hd=>?_
  (refine _root_.Go.Vc.a2 ?_)
  refine h.cw.Jv aq hss (dy hb) U (by rw[gv hz];exact hkl) ha2 λw h=>?_;rw[show(rowsOf bits H).set n ((rowOf H n z).set k aq)=rowsOf bits (cz H ((n:O),(k:O)) I)from(rS hb hz hkl I).symm]at h;repeat first|refine h.aN U ?_|refine h.ay U U λw h=>?_
  exact h3 hth c hs _ (Ow.ed (s:=sl) (ss:=ss) (hk.del _) h.sub)
theorem uf{a c:Slot}{K:O->Pw}(h:Ow B w0 w (bm b bits H::R))(hK:∀w',Ow B w0 w' (bm b bits (dW bits H a c).2::R)->K (dW bits H a c).1 w'):Wl b.o a.1 a.2 c.1 c.2 K w:=by
 apply adp;refine h.al λw1 h=>?_;refine h.a λp w2 h=>?_;generalize w1.heap.size=q at h|-;intro k8 hk8;have no:∀w,(aR bits a=Z\/aR bits c=Z)->Ow B w0 w (bm b bits H::R)->k8 V w:=λw e h=>by
  apply hk8;refine aU U ?_;have es:dW bits H a c=(50,H):=by unfold dW;rw[A e]
  rw[es]at hK;exact hK _ h
 (refine h.aN U ?_)
 refine gp (s:=a) h.lK λw h=>?_;refine JW (λe=>no _ (.inl e) h.sub) (λta=>?_)
 (refine h.aN U ?_)
 refine gp (s:=c) h λw h=>?_;cases tc:aR bits c with
 |false=>exact no _ (.inr tc) h.sub
 |true=>
  apply hk8;refine aW U ?_;have hkk:=h.L3;have hn:¬(aR bits a=Z\/aR bits c=Z):=by rw[ta,tc];simp
  have ta':=ta;have tc':=tc;obtain⟨n,k,z,rfl,hb,hz,hkl⟩:=gF ta;obtain⟨n2,k2,z2,rfl,hb2,hz2,hkl2⟩:=gF tc;obtain⟨sl,ss,hk,hsl,h⟩:=h.mf;obtain⟨sn,hss⟩:∃sn,ss[n]?=S sn:=⟨_,gE (by have:=(Om.1 hb).1;omega)⟩
  obtain⟨sn2,hss2⟩:∃sn,ss[n2]?=S sn:=⟨_,gE (by have:=(Om.1 hb2).1;omega)⟩
  repeat first|refine h.dr λw h=>?_|refine h.l1 U ?_|refine eX ?_
  refine h.bX U hss λa ha hc0 hc1=>?_;refine⟨_,hc0 _ U,?_⟩
  (refine h.l1 U ?_)
  refine h.um hss (dy hb) U (gu hz hkl) λa2 ha2 hd0 hd=>?_;refine⟨((H ((n:O),(k:O))).getD aq).kind,hd0 _ U,?_⟩;unfold dW at hK;rw[Q hn]at hK;cases hx:H ((n:O),(k:O))with
  |none=>
   rw[hx]at hK;refine aU U ?_;exact hK _ (Ow.ed (s:=sl) (ss:=ss) hk h.sub)
  |some x=>
   rw[hx]at hK;dsimp only at hK;refine jf (hk.held _ _ hx).2.2.1 ?_;repeat first|refine h.dr λw h=>?_|refine h.l1 U ?_|refine eX ?_
   refine h.bX U hss2 λa ha hc0 hc1=>?_;refine⟨_,hc0 _ U,?_⟩
   (refine h.l1 U ?_)
   refine h.um hss2 (dy hb2) U (gu hz2 hkl2) λa3 ha3 hf0 hf=>?_;refine⟨((H ((n2:O),(k2:O))).getD aq).kind,hf0 _ U,?_⟩;cases hy:H ((n2:O),(k2:O))with
   |some y=>
    rw[hy]at hK;simp only[Option.isSome_some,qz]at hK;refine iy (hk.held _ _ hy).2.2.1 ?_;exact hK _ (Ow.ed (s:=sl) (ss:=ss) hk h.sub)
   |none=>
    rw[hy]at hK;simp only[Option.isSome_none,OF,qx]at hK;refine fG U ?_;repeat first|refine h.dr λw h=>?_|refine h.l1 U ?_|refine eX ?_
    refine h.bX U hss2 λa ha hc0 hc1=>?_;refine⟨_,hc0 _ U,?_⟩;repeat first|refine h.l1 U ?_|refine eX ?_
    refine h.bX U hss λa ha hc0 hc1=>?_;refine⟨_,hc0 _ U,?_⟩
    (refine h.l1 U ?_)
    refine h.um hss (dy hb) U (gu hz hkl) λa2 ha2 hd0 hd=>?_;rw[hx]at hd;refine DM hd ?_;refine h.um hss2 (dy hb2) U (gu hz2 hkl2) λa3 ha3 hf0 hf=>?_
    (refine _root_.Go.Vc.a2 ?_)
    refine h.Jv x hss2 (dy hb2) U (by rw[gv hz2];exact hkl2) ha3 λw h=>?_;rw[show(rowsOf bits H).set n2 ((rowOf H n2 z2).set k2 x)=rowsOf bits (cz H ((n2:O),(k2:O)) (S x))from(rS hb2 hz2 hkl2 (S x)).symm]at h;repeat first|refine h.dr λw h=>?_|refine h.l1 U ?_|refine eX ?_
    refine h.bX U hss λa ha hc0 hc1=>?_;refine⟨_,hc0 _ U,?_⟩
    (refine h.l1 U ?_)
    refine h.um hss (dy hb) U (gu hz hkl) λa2 ha2 hd0 hd=>?_
    (refine _root_.Go.Vc.a2 ?_)
    refine h.Jv aq hss (dy hb) U (by rw[gv hz];exact hkl) ha2 λw h=>?_;rw[show(rowsOf bits (cz H ((n2:O),(k2:O)) (S x))).set n ((rowOf (cz H ((n2:O),(k2:O)) (S x)) n z).set k aq)=rowsOf bits (cz (cz H ((n2:O),(k2:O)) (S x)) ((n:O),(k:O)) I)from(rS hb hz hkl I).symm]at h;have hne:((n:O),(k:O))≠((n2:O),(k2:O)):=λe=>by rw[e,hy]at hx;cases hx
    have ee:cz (cz H ((n2:O),(k2:O)) (S x)) ((n:O),(k:O)) I=cz (cz H ((n:O),(k:O)) I) ((n2:O),(k2:O)) (S x):=by
     funext s;unfold cz;by_cases e1:s=((n:O),(k:O))
     .subst e1;rw[A U,Q hne,A U]
     .by_cases e2:s=((n2:O),(k2:O))
      .subst e2;rw[Q e1,A U,A U]
      .rw[Q e1,Q e2,Q e2,Q e1]
    rw[ee]at h;obtain⟨g1,g2,g3⟩:=hk.held _ _ hx;exact hK _ (Ow.ed (s:=sl) (ss:=ss) ((hk.del _).put tc' g2 g3.1 g3.2) h.sub)
end
end Sl
section
variable{T:Sl->J dP->aH}{M ae6 B:X}{w0 w:Y}{R:J aH}{α:Type}{ae7 A':X->α->aH}{ps:J X}{xs:J α}{L:J aH}{s:Sl}{rb kb:X}{k:ag}{d:Told}{dg:pZ}
structure Rx where
 n:X
 t:X
 th:X
 ln:X
 su:Sl
 se:Sl
 sn:Sl
 ss:Sl
 sf:Sl
 pe:J X
 pn:J X
 ps:J X
abbrev Kc(x:Rx)(fr tb:X)(d:Told):J N:=[.q x.n,.q x.t,.q x.th,.q x.ln,x.su.v,x.se.v,x.sn.v,x.ss.v,
 .z (fr:O),.z (tb:O),.z d.e,.y d.w,.z d.cN,x.sf.v]
abbrev Oh(T:Sl->J dP->aH)(M rb:X)(x:Rx)(k:ag)(d:Told):J aH:=[aa rb (Kc x k.aZ k.cM d),Sl.bm x.n k.bits k.H,Tr.cB x.t k.T,Th.bP x.th k.t,dD x.ln k.ln,af eM x.su k.u,af cd x.se x.pe,au eB x.pe k.ends,af cd x.sn x.pn,au (cf M) x.pn k.notes,af cd x.ss x.ps,au Tb.dG x.ps k.ae,T x.sf d.forget]
def mI(T:Sl->J dP->aH)(M rb:X)(k:ag)(d:Told):aH:=pa λx:Rx=>bo (Oh T M rb x k d)
abbrev cu(M rb:X)(k:ag)(d:Told):aH:=mI (af aA) M rb k d
abbrev Bd(_:Sl)(_:J dP):aH:=dJ G
abbrev ba:Told:=⟨0,0,-1,[]⟩
theorem lN(h:Ow B w0 w (mI T M rb k d::R)):∃x:Rx,Ow B w0 w (aa rb (Kc x k.aZ k.cM d)::Sl.bm x.n k.bits k.H::Tr.cB x.t k.T::Th.bP x.th k.t::dD x.ln k.ln::af eM x.su k.u::af cd x.se x.pe::au eB x.pe k.ends::af cd x.sn x.pn::au (cf M) x.pn k.notes::af cd x.ss x.ps::au Tb.dG x.ps k.ae::T x.sf d.forget::R):=by obtain⟨x,h⟩:=h.ex;exact⟨x,h.star⟩
theorem bu(x:Rx){bits:J O}{H:Sl.Hs}{T7:Tr.Tr}{t:Th.Mt}{ln:wR}{u:J sw}{ends:J eN}{notes:J oN}{ae:J Tb.dv}{fr tb:X}{d:Told}
  (h:Ow B w0 w (aa rb (Kc x fr tb d)::Sl.bm x.n bits H::Tr.cB x.t T7::Th.bP x.th t::dD x.ln ln::af eM x.su u::af cd x.se x.pe::au eB x.pe ends::af cd x.sn x.pn::au (cf M) x.pn notes::af cd x.ss x.ps::au Tb.dG x.ps ae::T x.sf d.forget::R)):
  Ow B w0 w (mI T M rb ⟨bits,H,T7,t,ln,u,ends,notes,ae,fr,tb⟩ d::R):=Ow.eP x (Ow.br h)
theorem jE{n:O}{K:O->O->O->O->O->O->Pw}(hk:bj ae6 k)(h:Ow B w0 w (cu M rb k d::R))
  (hK:∀w' c,c=k.aX n->Sl.fI c->Ow B w0 w' (cu M rb k d::R)->K c.kind c.obj c.ak c.ax c.guard c.bits w'):Rp rb.o n K w:=by
 apply adW;refine h.a λa w1 h=>?_;intro k4 hk4;have bad:¬(0<=n/\n<64)->k4 V w1:=λe=>by
  apply hk4;refine aU U ?_;refine h.ay U U λw h=>?_;refine h.dI U ?_;exact hK w Sl.aq (by unfold ag.aX;rw[Q e]) ⟨qb,qb,qb,qb⟩ h.drop
 refine bg (λe=>bad om) (λe=>?_);by_cases e2:n>63
 .rw[qm e2];exact bad om
 rw[qk e2];apply hk4;refine aW U ?_;obtain⟨x,h⟩:=lN h.cw;refine⟨_,U,h.l1 U (Sl.vP (s:=(0,n)) (h.pick (ae7:=Sl.bm x.n k.bits k.H)) λw c e he hr h=>?_)⟩;have hc:c=k.aX n:=by rw[<-ru hk ⟨om,om⟩,<-he]
 refine h.a λa2 w2 h=>?_;refine h.ay U U λw h=>?_;refine h.dI U ?_;refine h.ay U U λw h=>?_;refine h.dI U ?_;exact hK w c hc hr (bu x h.sub:Ow B w0 w (cu M rb k d::R))
theorem pP{f:O}{n:X}{K:O->Pw}(hk:bj ae6 k)(hn:1<=n/\n<=64)(h:Ow B w0 w (cu M rb k d::R))
  (hK:∀w',Ow B w0 w' (cu M rb k d::R)->K (k.fD f n) w'):SC rb.o f (n:O) K w:=by
 apply adZ;unfold ag.fD at hK;intro k4 hk4;have bad:(f<0\/64<f+n)->k4 V w:=λe=>by rw[A e]at hK;exact hk4 _ _ (aU U (hK w h))
 refine bg (λe=>bad (.inl e)) (λe=>?_);refine bg (λe=>bad om) (λe1=>?_);rw[wr om om];by_cases e2:f+(n:O)>64
 .rw[qm e2];exact bad om
 rw[qk e2];rw[Q om]at hK;apply hk4;refine aW U ?_;obtain⟨f,rfl⟩:=Ox (show 0<=f by omega);rw[wr om om];intro l hL;have loop:∀(m j:X)(w:Y),j+m=n->(∀i,i<j->(k.aX ((f:O)+(i:O))).kind=0)->Ow B w0 w (cu M rb k d::R)->l ((f+j:X):O) w:=by
  intro m;induction m with
  |zero=>
   intro j w hj hno h;apply hL;refine aw om ?_;have e:((OC n).any λi=>F ((k.aX ((f:O)+(i:O))).kind≠0))=false:=by rw[Qf];intro i hi;rw[PQ]at hi;simp[hno i om]
   rw[e,Q qc]at hK;exact hK w h
  |succ m ih=>
   intro j w hj hno h;apply hL;refine az om ?_;refine jE hk h λw c hc hr h=>?_;rw[show((f+j:X):O)=(f:O)+(j:O)from by omega]at hc;refine oO (λe=>?_) (λe=>?_)
   .have e:((OC n).any λi=>F ((k.aX ((f:O)+(i:O))).kind≠0))=true:=PS.2 ⟨j,PQ.2 om,by rw[<-hc];simpa using e⟩
    rw[e,A U]at hK;exact hK w h
   .rw[wr om om,show((f+j:X):O)+1=((f+(j+1):X):O)from by omega]
    refine ih (j+1) w om (λi hi=>?_) h;by_cases e3:i=j
    .subst e3;rw[<-hc];exact e
    .exact hno i om
 exact loop n 0 w om (λi hi=>by omega) h
theorem yk{a t:O}{c:cO}{K:Pw}(hc:Sl.fI c)(hT:Tr.ph k.T)(hl:k.T.length<1000000)(h:Ow B w0 w (cu M rb k d::R))(hK:∀w',Ow B w0 w' (cu M rb (k.laid (0,a) (0,t) c) d::R)->K w'):
  Ut rb.o a t c.kind c.obj c.ak c.ax c.guard c.bits K w:=by
 apply ad0;refine h.a λz w1 h=>?_;refine h.dr λw h=>?_;obtain⟨x,h⟩:=lN h.cw;refine⟨_,U,h.l1 U (h.dI U ⟨Sl.nQ (s:=(0,t)) (c:=c) hc (h.pick (ae7:=Sl.bm x.n k.bits k.H)) λw h=>?_,trivial⟩)⟩;refine⟨_,U,h.l2 U (Tr.Fh (p:=(0,a)) (s:=(0,t)) hT hl (h.pick (ae7:=Tr.cB x.t k.T)) λw h=>?_)⟩;exact hK w (bu x h.sub:Ow B w0 w (cu M rb (k.laid (0,a) (0,t) c) d::R))
theorem l6{sp pg p1 p2:O}{K:Pw}(hbig:d.forget.length<=1000000000)(h:Ow B w0 w (cu M rb k d::R))
  (hK:∀w',Ow B w0 w' (cu M rb k { d with forget:=d.forget++ [⟨sp,pg,p1,p2⟩]}::R)->K w'):TE rb.o sp pg p1 p2 K w:=by
 apply ad6;refine h.a λz w1 h=>?_;refine h.dr λw h=>?_;obtain⟨x,h⟩:=lN h.cw;refine⟨_,U,x.sf,bc (h.aE U),h.aN U ⟨h.al λw2 h=>⟨?_,trivial⟩,trivial⟩⟩
 generalize w.heap.size=g at h|-;refine u6 (s:=x.sf) (y:=⟨sp,pg,p1,p2⟩) h hbig λs' w hs' h=>⟨_,U,?_⟩
 refine⟨iv (h.gh U U λw h=>?_),trivial⟩;exact hK w (bu { x with sf:=s'} h.sub)
theorem C6{id:O}{K:O->Pw}(hi:Th.bB (-1) k.t)(h:Ow B w0 w (cu M rb k d::R))
  (hK:∀w',Ow B w0 w' (cu M rb (k.eu id).2.2 (if(k.eu id).1=0 then { d with cN:=id}else d)::R)->K (k.eu id).1 w'):Sb rb.o id K w:=by
 apply ad3;obtain⟨x,h⟩:=lN h;refine⟨_,U,h.l2 U (Th.gU hi (h.pick (ae7:=Th.bP x.th k.t)) λw h=>?_)⟩;refine dK (λe=>⟨_,U,?_⟩) (λe=>?_)
 .rw[A (show (k.eu id).1=0 from e)]at hK
  refine iv (h.gh U U λw h=>?_);exact hK w (bu x h.sub:Ow B w0 w (cu M rb (k.bQ (k.t.bE id).2) { d with cN:=id}::R))
 .rw[Q (show ¬(k.eu id).1=0 from e)]at hK
  exact hK w (bu x h.sub:Ow B w0 w (cu M rb (k.bQ (k.t.bE id).2) d::R))
theorem Fi{id:O}{m:FY}{K:Pw}(h:Ow B w0 w (cu M rb k d::R))(hK:∀w',Ow B w0 w' (cu M rb (k.jS id m) d::R)->K w'):
  Ws rb.o id m.label m.w0 m.w1 m.w2 m.w3 m.ax m.calls K w:=by
 apply ad5;refine h.a λz w1 h=>?_;refine h.dr λw h=>?_;obtain⟨x,h⟩:=lN h.cw;refine⟨_,U,_,h.aE U,_,h.aE U,Th.gT (h.pick (ae7:=Th.bP x.th k.t)) λw h=>?_,trivial⟩;refine h.dr λw h=>?_;refine⟨_,U,_,h.aE U,_,h.aF U,Th.gT h λw h=>?_,trivial⟩;refine h.dr λw h=>?_;refine⟨_,U,_,h.aE U,om,om,_,bc (h.aE U),Th.gT h λw h=>?_,trivial⟩;exact hK w (bu x h.sub:Ow B w0 w (cu M rb (k.jS id m) d::R))
theorem vM{core cur:O}{c:Call}{K:Pw}(hi:Th.bB (-1) k.t)(h:Ow B w0 w (cu M rb k d::R))(hK:∀w',Ow B w0 w' (cu M rb (if c.c≠0 then k.bQ ((k.t.gL cur).2.aV core)else k) d::R)->K w'):
  Uw rb.o core cur c.ask c.at_ c.ar c.a c.b c.c K w:=by
 apply ad4;refine h.a λz w1 h=>?_;refine h.l2 U ?_;refine oO (λe=>?_) (λe=>?_)
 .rw[A e]at hK
  obtain⟨x,h⟩:=lN h.cw;refine⟨_,U,h.l2 U (Th.sZ hi (h.pick (ae7:=Th.bP x.th k.t)) λw h=>?_)⟩;refine⟨_,U,h.l2 U (Th.gr (hi.block _) h λw h=>?_)⟩;exact hK w (bu x h.sub:Ow B w0 w (cu M rb (k.bQ ((k.t.gL cur).2.aV core)) d::R))
 .rw[Q (λhh=>hh e:¬c.c≠0)]at hK
  exact hK _ h.drop
theorem wJ(hA:∀(p:X)(x:α)(L:J aH),Ow B w0 w (ae7 p x::L)->Ow B w0 w (A' p x::L)):∀(ps:J X)(xs:J α)(R:J aH),Ow B w0 w (Ot ae7 ps xs++R)->Ow B w0 w (Ot A' ps xs++R)
 | [],_,_,h=>by simpa using h
 |_::_,[],_,h=>by simpa using h
 |p::ps,x::xs,R,h=>by simp only[List.zipWith_cons_cons,List.cons_append]at h|-;exact(wJ hA ps xs (A' p x::R) ((hA p x _ h).perm PD.symm)).perm PD
theorem tw(ae7:X->α->aH):∀(ps:J X)(xs:J α)(j:X),(Ot ae7 ps xs).eraseIdx j=Ot ae7 (ps.eraseIdx j) (xs.eraseIdx j)
 | [],_,_=>by simp
 |_::ps,[],j=>by cases j<;>simp
 |_::_,_::_,0=>rfl
 |p::ps,x::xs,j+1=>by simp[tw ae7 ps xs j]
theorem HA(hA:∀(p:X)(x:α)(L:J aH),Ow B w0 w (ae7 p x::L)->Ow B w0 w (A' p x::L))(h:Ow B w0 w (au ae7 ps xs::R)):Ow B w0 w (au A' ps xs::R):=by obtain⟨hl,h⟩:=h.Fe;exact Ow.jj hl (wJ hA ps xs R h)
theorem Hy{j:X}(hA:∀(p:X)(x:α)(L:J aH),Ow B w0 w (ae7 p x::L)->Ow B w0 w (A' p x::L))(h:Ow B w0 w (bo ((Ot ae7 ps xs).eraseIdx j)::R)):Ow B w0 w (bo ((Ot A' ps xs).eraseIdx j)::R):=by have h:=h.star;rw[tw]at h;have h:=wJ hA _ _ R h;rw[<-tw]at h;exact Ow.br h
theorem me{M':X}(hm:M<=M')(h:Ow B w0 w (mI T M rb k d::R)):Ow B w0 w (mI T M' rb k d::R):=by obtain⟨x,h⟩:=lN h;have h:=HA (A':=cf M') (λp x L h=>vV hm h) (h.pick (ae7:=au (cf M) x.pn k.notes));exact(bu x h.sub:Ow B w0 w (mI T M' rb k d::R))
theorem kO{n g:O}{K:O->Pw}(hM:M<1000000)(hi:Th.bB (-1) k.t)(h0:0<=n)(h1:n<(k.notes.length:O))(h:Ow B w0 w (mI T M rb k d::R))
  (hK:∀w',Ow B w0 w' (mI T (M+1) rb (k.a8 n g).2 d::R)->K (k.a8 n g).1 w'):Tg rb.o n g K w:=by
 apply adV;obtain⟨x,h⟩:=lN h;have hpl:=(h.pick (ae7:=au (cf M) x.pn k.notes)).cQ;have hx:k.notes[n.toNat]?=S (k.lM n):=by unfold ag.lM;rw[gE om];rfl
 have hp:x.pn[n.toNat]?=S x.pn[n.toNat]:=gE om;generalize x.pn[n.toNat]=p at hp;refine⟨_,U,x.sn,h.aE U,eF (s:=x.sn) (i:=n) (j:=n.toNat) h om hp λa ha hc=>⟨_,hc,?_⟩⟩
 have h:=(h.pick (ae7:=au (cf M) x.pn k.notes)).wL hp hx;refine zq (g:=g) hM h λw h=>?_;have h:=Hy (A':=cf (M+1)) (λp x L h=>vV (P3 M) h) h.cw;have h:=(h.cw).cI hpl hp;unfold ag.a8 at hK;have hn:k.jn n ((k.lM n).a8 g).2={ k with notes:=k.notes.set n.toNat ((k.lM n).a8 g).2}:=rfl;cases e:((k.lM n).a8 g).1 with
 |none=>
  rw[e]at hK;refine aU U ?_;exact hK w (bu x h.sub:Ow B w0 w (mI T (M+1) rb (k.jn n ((k.lM n).a8 g).2) d::R))
 |some who=>
  rw[e]at hK;refine aW U ⟨_,U,h.l2 U ?_⟩;refine Th.gT (h.pick (ae7:=Th.bP x.th k.t)) λw h=>?_;refine⟨_,U,h.l2 U (Th.gU (hi.Br _ _ _) h λw h=>?_)⟩;have h:Ow B w0 w (Th.bP x.th ((k.t.nS who 0 g).2.bE who).2::_):=h;exact hK w (bu x h.sub:Ow B w0 w (mI T (M+1) rb { k with notes:=k.notes.set n.toNat ((k.lM n).a8 g).2,t:=((k.t.nS who 0 g).2.bE who).2} d::R))
theorem D3{α:Type}{f:α->α}{l:J α}{i:X}{m:α}(hm:l[i]?=S m):((l.take i).map f++l.drop i)[i]?=S m/\((l.take i).map f++l.drop i).set i (f m)=(l.take (i+1)).map f++l.drop (i+1):=by
 have hi:=(Om.1 hm).1;have h1:((l.take i).map f).length=i:=by simp;omega
 have hd:l.drop i=m::l.drop (i+1):=by rw[Pt hi];congr 1;exact(Om.1 hm).2
 refine⟨?_,?_⟩
 .rw[OA om,h1,P0,hd];rfl
 .rw[Qg _ _ om,h1,P0,hd,OG,hm];simp
theorem nN{id:O}{K:Pw}(hN:k.ends.length<=200000/\k.notes.length<=200000)(h:Ow B w0 w (cu M rb k d::R))(hK:∀w',Ow B w0 w' (cu M rb (k.dL id) d::R)->K w'):TD rb.o id K w:=by
 apply ad2;obtain⟨x,h⟩:=lN h;have hpe:=(h.pick (ae7:=au eB x.pe k.ends)).cQ;have hpn:=(h.pick (ae7:=au (cf M) x.pn k.notes)).cQ;have hse:=h.aL x.se;have hsn:=h.aL x.sn;intro l hL;have loop:∀(m i:X)(w:Y),i+m=k.ends.length->Ow B w0 w (au eB x.pe ((k.ends.take i).map (·.cancel id)++k.ends.drop i)::aa rb (Kc x k.aZ k.cM d)::Sl.bm x.n k.bits k.H::Tr.cB x.t k.T::Th.bP x.th k.t::dD x.ln k.ln::af eM x.su k.u::af cd x.se x.pe::af cd x.sn x.pn::au (cf M) x.pn k.notes::af cd x.ss x.ps::au Tb.dG x.ps k.ae::af aA x.sf d.forget::R)->l (i:O) w:=by
  intro m;induction m with
  |zero=>
   intro i w hi h;apply hL;refine⟨_,U,x.se,h.aE U,aw om ?_⟩;rw[Ou om,P2 om,OD]at h;intro l2 hL2;have loop:∀(m i:X)(w:Y),i+m=k.notes.length->Ow B w0 w (au (cf M) x.pn ((k.notes.take i).map (·.cancel id)++k.notes.drop i)::aa rb (Kc x k.aZ k.cM d)::Sl.bm x.n k.bits k.H::Tr.cB x.t k.T::Th.bP x.th k.t::dD x.ln k.ln::af eM x.su k.u::af cd x.se x.pe::au eB x.pe (k.ends.map (·.cancel id))::af cd x.sn x.pn::af cd x.ss x.ps::au Tb.dG x.ps k.ae::af aA x.sf d.forget::R)->l2 (i:O) w:=by
    intro m;induction m with
    |zero=>
     intro i w hi h;apply hL2;refine⟨_,U,x.sn,h.aE U,aw om ?_⟩;rw[Ou om,P2 om,OD]at h;exact hK w (bu x h.sub:Ow B w0 w (cu M rb (k.dL id) d::R))
    |succ m ih=>
     intro i w hi h;have hm:k.notes[i]?=S k.notes[i]:=gE om;have hp:x.pn[i]?=S x.pn[i]:=gE om;obtain⟨g1,g2⟩:=D3 (f:=λn:oN=>n.cancel id) hm;apply hL2;refine⟨_,U,x.sn,h.aE U,az om ⟨_,U,x.sn,h.aE U,eF (s:=x.sn) h U hp λa ha hc=>⟨_,hc,?_⟩⟩⟩
     refine xe (who:=id) (h.wL hp g1) λ_ w h=>?_;have h:=h.cI (by simp;omega) hp;rw[g2]at h;rw[wI i om];exact ih (i+1) w om h
   refine loop k.notes.length 0 w om ?_;rw[PT,Qb,PF,P6];exact h.sub
  |succ m ih=>
   intro i w hi h;have hm:k.ends[i]?=S k.ends[i]:=gE om;have hp:x.pe[i]?=S x.pe[i]:=gE om;obtain⟨g1,g2⟩:=D3 (f:=λn:eN=>n.cancel id) hm;apply hL;refine⟨_,U,x.se,h.aE U,az om ⟨_,U,x.se,h.aE U,eF (s:=x.se) h U hp λa ha hc=>⟨_,hc,?_⟩⟩⟩
   refine xd (n:=id) (h.wL hp g1) λ_ w h=>?_;have h:=h.cI (by simp;omega) hp;rw[g2]at h;rw[wI i om];exact ih (i+1) w om h
 refine loop k.ends.length 0 w om ?_;rw[PT,Qb,PF,P6];exact h.sub
theorem Fj{n:O}{K:O->O->Pw}(hM:M<1000000)(hk:bj ae6 k)(h:Ow B w0 w (mI T M rb k d::R))
  (hK:∀w',Ow B w0 w' (mI T (M+1) rb (k.irq n).2.2 d::R)->K (k.irq n).2.1 (k.irq n).1 w'):Vo rb.o n K w:=by
 apply adN;have hnote:=λy(hy:(eU k.ln n).1.1=S y)=>pR hk hy;have hok:=hk.raise (n:=n);unfold ag.irq ag.gP at hK;obtain⟨x,h⟩:=lN h;refine⟨_,U,h.l2 U (Bo (n:=n) (h.pick (ae7:=dD x.ln k.ln)) λw h=>?_)⟩;generalize eU k.ln n=r at hK hnote hok h|-;have h:Ow B w0 w (mI T M rb { k with ln:=r.2} d::R):=bu x h.sub;cases e:r.1.1 with
 |none=>
  rw[e]at hK;exact aW U (hK w (me (P3 M) h))
 |some y=>
  rw[e]at hK;obtain⟨n0,n1⟩:=hnote y e;refine aU U ?_;exact kO hM hok.inv n0 n1 h λw h=>hK w h
theorem Ch{T el:qh}{inf:qJ}{ys:J X}{y:X}{c:X}{k:Sl->Pw}[ae4:bY s L X cd ys][aeX:eD (af cd s ys) L R](hu:qe.underlying T=S (.slice el))(hi:qe.info? el=S inf)(hz:inf.zero=S (.pointer I))(hsz:inf.size=1)(hb:inf.bytes=8)
  (h:Ow B w0 w (aa c [.q y]::L)) (hbig:ys.length<=1000000000) (hk:∀s' w',s'.len=ys.length+1->Ow B w0 w' (af cd s' (ys++ [y])::R)->k s' w'):
  ∃s' w',aP qe [T,T] T s.v (.slice (S c.p) 1 1) w s' w'/\k s' w':=
 Ow.eR (E:=cd) (y:=y) hu hi hz hsz U (by rw[hb];decide) h (by rw[hb];omega) hk
theorem CT{core:O}{c:Call}{at_:X}{K:O->Pw}(hk:bj ae6 k)(hN:ae6<=100000)(hr:k.Bx core c.a c.b)(h:Ow B w0 w (cu M rb k d::R))
  (hK:∀w',Ow B w0 w' (cu M rb (k.made core c.a c.b at_).2 d::R)->K (k.made core c.a c.b at_).1 w'):W5 rb.o core c.ask c.at_ c.ar c.a c.b c.c (at_:O) K w:=by
 apply ad7;have nu:=hk.nu;have ne:=hk.ne;have nn:=hk.nn;have ns:=hk.ns;have nf:=hk.nf;have nt:=hk.nt;obtain⟨r1,r2,r3⟩:=hr;unfold ag.made at hK;refine h.a λz w1 h=>?_;obtain⟨x,h⟩:=lN h.cw;refine h.l2 U ?_;refine dK (λe=>?_) (λe=>?_)
 .rw[A e]at hK
  obtain⟨bn,hbn⟩:=Ox (r1 e);rw[hbn,Oo]at hK;refine h.dr λw h=>?_;refine⟨_,U,x.su,h.aE U,_,h.aE U,h.al λw2 h=>⟨?_,trivial⟩,trivial⟩
  generalize w.heap.size=g at h|-;have h:Ow B w0 w2 (aa g [.y (((show sw from ⟨at_,bn,0⟩).base:X):O),.z (((show sw from ⟨at_,bn,0⟩).bits:X):O),.y (((show sw from ⟨at_,bn,0⟩).used:X):O)]::_):=h.yK (by rw[hbn];rfl);refine Af (s:=x.su) (y:=⟨at_,bn,0⟩) h om λs' w hs' h=>⟨_,U,?_,trivial⟩
  refine h.gh U U λw h=>?_;refine⟨_,U,s',h.aE U,?_⟩;rw[hs',show qd.wrap (((k.u.length+1:X):O)-1)=(k.u.length:O)from by rw[wr om om];omega];exact hK w (bu { x with su:=s'} h.sub:Ow B w0 w (cu M rb { k with u:=k.u++ [⟨at_,bn,0⟩]} d::R))
 rw[Q e]at hK;refine dK (λe2=>?_) (λe2=>?_)
 .rw[A e2]at hK
  obtain⟨b1,b2,b3⟩:=r2 e2;refine h.dr λw h=>?_;refine⟨_,U,_,h.aF U,_,h.aE U,Sl.mA (h.pick (ae7:=Sl.bm x.n k.bits k.H)) λw h=>?_,trivial⟩;exact hK w (bu x h.sub:Ow B w0 w (cu M rb { k with bits:=(Sl.eO k.bits c.b).2.2} d::R))
 rw[Q e2]at hK;refine dK (λe3=>?_) (λe3=>?_)
 .rw[A e3]at hK
  refine⟨_,U,h.l2 U (Th.mC hk.inv.ok (h.pick (ae7:=Th.bP x.th k.t)) λw h=>?_)⟩;exact hK w (bu x h.sub:Ow B w0 w (cu M rb { k with t:=(k.t.cv 0 core).2.2} d::R))
 rw[Q e3]at hK;refine dK (λe4=>?_) (λe4=>?_)
 .rw[A e4]at hK
  have hpl:=(h.pick (ae7:=au eB x.pe k.ends)).cQ;refine⟨_,U,x.se,h.aE U,h.a λg w2 h=>?_⟩;have h:=HH h;refine h.a λg2 w3 h=>?_;refine Ch (s:=x.se) (y:=g) (inf:=Tryz.t146) underlying53 qa qa qa qa h om λs' w hs' h=>⟨_,U,?_⟩
  refine h.gh U U λw h=>?_;refine⟨_,U,s',h.aE U,?_⟩;rw[hs',hpl,show qd.wrap (((k.ends.length+1:X):O)-1)=(k.ends.length:O)from by rw[wr om om];omega];have h:Ow B w0 w (eB g ⟨[],Z⟩::au eB x.pe k.ends::_):=(h.pick (ae7:=au eB x.pe k.ends)).pick;have h:=h.nL;exact hK w (bu { x with se:=s',pe:=x.pe++ [g]} h.sub:Ow B w0 w (cu M rb { k with ends:=k.ends++ [⟨[],Z⟩]} d::R))
 rw[Q e4]at hK;refine dK (λe5=>?_) (λe5=>?_)
 .rw[A e5]at hK
  have hpl:=(h.pick (ae7:=au (cf M) x.pn k.notes)).cQ;refine⟨_,U,x.sn,h.aE U,h.a λg w2 h=>?_⟩;have h:=Fw (ae6:=M) h;refine h.a λg2 w3 h=>?_;refine Ch (s:=x.sn) (y:=g) (inf:=Tryz.t151) underlying54 qa qa qa qa h om λs' w hs' h=>⟨_,U,?_⟩
  refine h.gh U U λw h=>?_;refine⟨_,U,s',h.aE U,?_⟩;rw[hs',hpl,show qd.wrap (((k.notes.length+1:X):O)-1)=(k.notes.length:O)from by rw[wr om om];omega];have h:Ow B w0 w (cf M g ⟨0,Z,[]⟩::au (cf M) x.pn k.notes::_):=(h.pick (ae7:=au (cf M) x.pn k.notes)).pick;have h:=h.nL;exact hK w (bu { x with sn:=s',pn:=x.pn++ [g]} h.sub:Ow B w0 w (cu M rb { k with notes:=k.notes++ [⟨0,Z,[]⟩]} d::R))
 rw[Q e5]at hK;refine dK (λe8=>?_) (λe8=>?_)
 .rw[A e8]at hK
  have hpl:=(h.pick (ae7:=au Tb.dG x.ps k.ae)).cQ;refine⟨_,U,x.ss,h.aE U,h.a λg w2 h=>?_⟩;have h:Ow B w0 w2 (aa g [Tb.bL z0,Tb.bL z0]::_):=h;have h:Ow B w0 w2 (Tb.dG g Tb.iF::_):=Ow.iE (sT:=z0) (sP:=z0) Tb.jq.new (Ow.cH (E:=Tb.jo) (Ow.cH (E:=Tb.aJ) h)).lK;refine h.a λg2 w3 h=>?_;refine Ch (s:=x.ss) (y:=g) (inf:=Tryz.t83) underlying55 qa qa qa qa h om λs' w hs' h=>⟨_,U,?_⟩
  refine h.gh U U λw h=>?_;refine⟨_,U,s',h.aE U,?_⟩;rw[hs',hpl,show qd.wrap (((k.ae.length+1:X):O)-1)=(k.ae.length:O)from by rw[wr om om];omega];have h:Ow B w0 w (Tb.dG g Tb.iF::au Tb.dG x.ps k.ae::_):=(h.pick (ae7:=au Tb.dG x.ps k.ae)).pick;have h:=h.nL;exact hK w (bu { x with ss:=s',ps:=x.ps++ [g]} h.sub:Ow B w0 w (cu M rb { k with ae:=k.ae++ [Tb.iF]} d::R))
 rw[Q e8]at hK;refine dK (λe6=>?_) (λe6=>?_)
 .rw[A e6]at hK
  refine⟨_,U,_,h.aE U,_,U,?_⟩;rw[show qd.wrap ((k.aZ:O)+1)=((k.aZ+1:X):O)from by rw[wr om om];omega];refine h.gh U U λw h=>?_;refine⟨_,U,h.l2 U ?_⟩;rw[show qd.wrap (((k.aZ+1:X):O)-1)=(k.aZ:O)from by rw[wr om om];omega];exact hK w (bu x h.sub:Ow B w0 w (cu M rb { k with aZ:=k.aZ+1} d::R))
 rw[Q e6]at hK;refine⟨_,U,_,h.aE U,_,U,?_⟩;rw[show qd.wrap ((k.cM:O)+1)=((k.cM+1:X):O)from by rw[wr om om];omega];refine h.gh U U λw h=>?_;refine⟨_,U,h.l2 U ?_⟩;rw[show qd.wrap (((k.cM+1:X):O)-1)=(k.cM:O)from by rw[wr om om];omega];exact hK w (bu x h.sub:Ow B w0 w (cu M rb { k with cM:=k.cM+1} d::R))
theorem zp{K:O->Pw}(hk:bj ae6 k)(hN:ae6+64<=100000)(hs:(k.H dg.s).isSome=V)(hsa:dg.s=(0,dg.call.at_))(hc:dg.c.kind=1)(ho:k.fF dg.c)(hcore:k.t.fS dg.core=V)(h:Ow B w0 w (cu M rb k d::R))
  (hK:∀w',Ow B w0 w' (cu M rb (k.eG dg).2 d::R)->K (k.eG dg).1 w'):Wj rb.o dg.core dg.call.ask dg.call.at_ dg.call.ar dg.call.a dg.call.b dg.call.c dg.c.obj K w:=by
 apply adY;obtain⟨hu1,hu2⟩:=hk.jy ho.1 (ho.2.1 hc);have o0:=ho.1;have o1:=ho.2.1 hc;have hst:=mc (d:=dg) hk hN hs hc ho hcore;have hpl:=hu2.place (kind:=dg.call.a) (bits:=dg.call.b) (n:=dg.call.c);unfold ag.eG at hK;refine h.a λcb w1 h=>?_;intro k11 hk11;have fin:∀(l:X)(s:Sl)(w:Y),Ow B w0 w (cu M rb k d::aa l [.y ((bA (k.jy dg.c.obj) dg.call.a dg.call.b dg.call.c).2.1.base:O),.z ((bA (k.jy dg.c.obj) dg.call.a dg.call.b dg.call.c).2.1.bits:O),.y ((bA (k.jy dg.c.obj) dg.call.a dg.call.b dg.call.c).2.1.used:O)]::af wE s (bA (k.jy dg.c.obj) dg.call.a dg.call.b dg.call.c).1::
   aa cb dg.call.cl::R)->k11 s l.p (bA (k.jy dg.c.obj) dg.call.a dg.call.b dg.call.c).2.2 w:=λl s w h=>by
  apply hk11;generalize bA (k.jy dg.c.obj) dg.call.a dg.call.b dg.call.c=P at h hK hst hpl|-;obtain⟨ats,left,er⟩:=P;dsimp only at h hK hst hpl|-;by_cases h0:er≠0
  .rw[A h0]at hK
   exact iy h0 (hK w h.sub)
  rw[Q h0]at hK;have h0:er=0:=om
  obtain⟨p1,p2,p3,p4,p5,p6⟩:=hpl h0;refine fG h0 ⟨_,h.aE U,h.l2 U ?_⟩;obtain⟨cn,hcn⟩:=Ox (show 0<=dg.call.c by omega);have hcn2:dg.call.c.toNat=cn:=om
  rw[hcn2]at hK;dsimp only[Call.cl]at h;rw[hcn]at h|-;refine pP (n:=cn) hk om h λw h=>?_;refine oO (λhf=>?_) (λhf=>?_)
  .rw[A hf]at hK
   exact hK w h.sub
  rw[Q om]at hK;intro k20 hk20;have kbad:((dg.call.a=2/\64<(k.bits.length:O)+dg.call.c)\/(dg.call.a=3/\64<(k.t.bF.length:O)+dg.call.c))->∀w,Ow B w0 w (cu M rb k d::R)->k20 V w:=λhb w h=>by rw[A hb]at hK;apply hk20;exact aU U (hK w h)
  have kgood:¬((dg.call.a=2/\64<(k.bits.length:O)+dg.call.c)\/(dg.call.a=3/\64<(k.t.bF.length:O)+dg.call.c))->∀w,Ow B w0 w (cu M rb k d::aa l [.y (left.base:O),.z (left.bits:O),.y (left.used:O)]::af wE s ats::
   aa cb [.z dg.call.ask,.z dg.call.at_,.z dg.call.ar,.z dg.call.a,.z dg.call.b,.z (cn:O)]::R)->k20 Z w:=λhb w h=>by
   rw[Q hb]at hK;have hst:=hst h0 (by rw[hcn2];exact hf) hb;apply hk20;refine aW U ?_;obtain⟨x,h⟩:=lN h;refine h.dr λw h=>?_;refine⟨_,U,x.su,h.aE U,h.oP U (h.bX (s:=x.su) (i:=dg.c.obj) (j:=dg.c.obj.toNat) om hu1 λa ha _ _=>⟨?_,trivial⟩)⟩
   refine h.rW (s:=x.su) (xs:=k.u) (i:=dg.c.obj) (j:=dg.c.obj.toNat) left om om ha λw h=>?_;have h:Ow B w0 w (cu M rb { k with u:=k.u.set dg.c.obj.toNat left} d::af wE s ats::
    aa cb [.z dg.call.ask,.z dg.call.at_,.z dg.call.ar,.z dg.call.a,.z dg.call.b,.z (cn:O)]::R):=bu x h.sub
   intro l35 hl35;have loop:∀(r j M':X)(kj:ag)(w:Y),j+r=cn->uV dg.core dg.call.a dg.call.b dg.call.ar dg.s (ats.drop j) j M' kj->ag.makes dg.core dg.call.a dg.call.b dg.call.ar dg.s (ats.drop j) j kj=ag.makes dg.core dg.call.a dg.call.b dg.call.ar dg.s ats 0 { k with u:=k.u.set dg.c.obj.toNat left}->
     Ow B w0 w (cu M rb kj d::af wE s ats::
    aa cb [.z dg.call.ask,.z dg.call.at_,.z dg.call.ar,.z dg.call.a,.z dg.call.b,.z (cn:O)]::R)->l35 (j:O) w:=by
    intro r;induction r with
    |zero=>
     intro j M' kj w hj hm he h;apply hl35;refine⟨_,h.aE U,aw om ?_⟩;rw[P2 om]at he;have he:kj=_:=he;refine hK w ?_;rw[<-he];exact h.sub
    |succ r ih=>
     intro j M' kj w hj hm he h;have ha:ats[j]?=S ats[j]:=gE om;rw[Pt (show j<ats.length from by omega)]at hm he;generalize ats[j]=at_ at ha hm he;apply hl35;refine⟨_,h.aE U,az om (h.dr λw h=>?_)⟩;refine h.dI U ?_;refine h.bX (s:=s) U ha λa2 ha2 h02 _=>⟨_,h02 _ U,?_,trivial⟩
     obtain⟨g1,g2,g3,g4⟩:=hm.room;refine CT (c:=⟨dg.call.ask,dg.call.at_,dg.call.ar,dg.call.a,dg.call.b,(cn:O)⟩) (at_:=at_) hm.ok (by have:=hm.le;omega) g1 h λw h=>?_;refine⟨_,h.aE U,_,h.aE U,h.l2 U ?_⟩;have w0':=hm.w0;rw[wr om om];obtain⟨q1,q2,q3,q4,q5,q6,q7,q8,q9⟩:=hm.ok.made (by have:=hm.le;omega) hm.kind g1 g2;refine yk (k:=(kj.made dg.core dg.call.a dg.call.b at_).2) (a:=dg.call.at_) (t:=dg.call.ar+(j:O)) (c:=⟨dg.call.a,(kj.made dg.core dg.call.a dg.call.b at_).1,7,0,0,0⟩) lk (by rw[q4];exact hm.ok.tok) (by rw[q4];have:=hm.ok.fh;omega) h λw h=>?_;rw[<-hsa]at h;rw[wI j om];exact ih (j+1) (M'+1) (kj.mv dg.core dg.call.a dg.call.b dg.call.ar dg.s j at_) w om hm.step he h
   exact loop cn 0 ae6 _ w om hst U h
  have hbl:=hk.sr.fh;have htl:=hk.inv.ok.fh;refine h.dr λw h=>?_;have h':=h;obtain⟨x,h⟩:=lN h;obtain⟨sl,ss,_,hsl,hn⟩:=(h.pick (ae7:=Sl.bm x.n k.bits k.H)).mf;obtain⟨lt,qt,bs,_,ht⟩:=(h.pick (ae7:=Th.bP x.th k.t)).Fy;have hl1:=hn.aL sl;have hl2:=ht.aL lt;refine h.l2 U ?_;refine dK (λe2=>?_) (λe2=>?_)
  .refine ⟨_,U,_,h.aF U,_,U,sl,hn.aF U,h.l2 U ?_⟩
   rw[hl1,hsl,wr om om];refine bg (λe3=>?_) (λe3=>?_)
   .exact kbad (.inl ⟨e2,om⟩) w h'.sub
   .refine h.l2 U ?_
    refine jf om ?_;exact kgood om w h'
  .refine h.l2 U ?_
   refine dK (λe3=>?_) (λe3=>?_)
   .refine ⟨_,U,_,h.aE U,_,U,lt,ht.aF U,h.l2 U ?_⟩
    rw[hl2,wr om om];by_cases e4:64<(k.t.bF.length:O)+dg.call.c
    .rw[qm (show(k.t.bF.length:O)+(cn:O)>64 by omega)]
     exact kbad (.inr ⟨e3,om⟩) w h'.sub
    .rw[qk (show ¬(k.t.bF.length:O)+(cn:O)>64 by omega)]
     exact kgood om w h'
   .exact kgood om w h'
 obtain⟨x,h⟩:=lN h.cw;refine h.dr λw h=>?_;refine⟨_,U,x.su,h.aE U,h.bX (s:=x.su) (i:=dg.c.obj) (j:=dg.c.obj.toNat) om hu1 λa ha _ hcu=>?_⟩;refine⟨_,hcu 0 _ U,_,hcu 1 _ U,_,hcu 2 _ U,⟨_,h.aE U,_,h.aE U,_,h.aE U,?_,?_,trivial⟩⟩
 .refine tM hu2 h λs w h=>?_
  refine⟨h.al λw' h=>⟨?_,trivial⟩,trivial⟩
  generalize w.heap.size=l at h|-;refine h.ay U U λw h=>?_;exact fin l s w (bu x h.sub)
 .refine h.al λw' h=>⟨?_,trivial⟩
  generalize w.heap.size=l at h|-;refine tM hu2 h λs w h=>?_;refine⟨h.ay U U λw h=>?_,trivial⟩;exact fin l s w (bu x h.sub)
theorem KF{w:Y}{ae7:qf}{x:Slot × cO}{f:O->O->O->O->O->O->Prop}(g:∀c v,(Sl.dV.enc x)[c]?=S v->w.cell? (ae7.add c)=S v)(hf:f x.2.kind x.2.obj x.2.ak x.2.ax x.2.guard x.2.bits):
  av w (ae7.add 2) 0 [.o,.o,.o,.u,.u,.o] f:=by
 have g2:∀j v,(Sl.dV.enc x)[2+j]?=S v->w.cell? ((ae7.add 2).add j)=S v:=λj v h=>by rw[yG];exact g _ v h
 exact⟨_,g2 0 _ U,_,g2 1 _ U,_,g2 2 _ U,_,g2 3 _ U,_,g2 4 _ U,_,g2 5 _ U,hf⟩
theorem I9{w:Y}{ae7:qf}{x:O × Tb.Pg}{f:O->O->Prop}(g:∀c v,(Tb.aJ.enc x)[c]?=S v->w.cell? (ae7.add c)=S v)(hf:f x.2.1 x.2.2):av w (ae7.add 1) 0 [.o,.o] f:=by
 have g2:∀j v,(Tb.aJ.enc x)[1+j]?=S v->w.cell? ((ae7.add 1).add j)=S v:=λj v h=>by rw[yG];exact g _ v h
 exact⟨_,g2 0 _ U,_,g2 1 _ U,hf⟩
theorem kh(h:Ow B w0 w (mI T M rb k d::R)){n:O}{m:Tb.dv}(h0:0<=n)(hm:k.ae[n.toNat]?=S m):∃(ss:Sl)(p:X)(aeY:aH),w.cell? (rb.p.add 7)=S ss.v/\ss.len=k.ae.length/\
  (∃a,ss.a=S a/\0<=n/\n<(ss.len:O)/\w.cell? (a.add (n.toNat*1))=S (.q p))/\Ow B w0 w (Tb.dG p m::aeY::R)/\
  ∀m' w' ae5,Ow B w0 w' (Tb.dG p m'::aeY::ae5)->Ow B w0 w' (mI T M rb { k with ae:=k.ae.set n.toNat m'} d::ae5):=by
 obtain⟨x,h⟩:=lN h;have hpl:=(h.pick (ae7:=au Tb.dG x.ps k.ae)).cQ;have hss:=h.aL x.ss;have hlt:=(Om.1 hm).1;have hp:x.ps[n.toNat]?=S x.ps[n.toNat]:=gE om;generalize x.ps[n.toNat]=p at hp;obtain⟨a,ha,_,_,hc⟩:=eF (s:=x.ss) (i:=n) (j:=n.toNat) (ae3:=λa=>w.cell? (a.add (n.toNat*1))=S (.q p)) h om hp (λa _ hc=>hc);refine⟨x.ss,p,bo [bo ((Ot Tb.dG x.ps k.ae).eraseIdx n.toNat),aa rb (Kc x k.aZ k.cM d),Sl.bm x.n k.bits k.H,Tr.cB x.t k.T,Th.bP x.th k.t,dD x.ln k.ln,af eM x.su k.u,af cd x.se x.pe,au eB x.pe k.ends,af cd x.sn x.pn,au (cf M) x.pn k.notes,af cd x.ss x.ps,T x.sf d.forget],h.aE U,om,⟨a,ha,h0,om,hc⟩,?_,λm' w' ae5 h=>?_⟩
 .have h:=(h.pick (ae7:=au Tb.dG x.ps k.ae)).wL hp hm
  exact Ow.cw (Ow.br (show Ow B w0 w (bo ((Ot Tb.dG x.ps k.ae).eraseIdx n.toNat)::aa rb (Kc x k.aZ k.cM d)::Sl.bm x.n k.bits k.H::Tr.cB x.t k.T::Th.bP x.th k.t::dD x.ln k.ln::af eM x.su k.u::af cd x.se x.pe::au eB x.pe k.ends::af cd x.sn x.pn::au (cf M) x.pn k.notes::af cd x.ss x.ps::T x.sf d.forget::Tb.dG p m::R)from h.sub))
 .have h:Ow B w0 w' (bo ((Ot Tb.dG x.ps k.ae).eraseIdx n.toNat)::aa rb (Kc x k.aZ k.cM d)::Sl.bm x.n k.bits k.H::Tr.cB x.t k.T::Th.bP x.th k.t::dD x.ln k.ln::af eM x.su k.u::af cd x.se x.pe::au eB x.pe k.ends::af cd x.sn x.pn::au (cf M) x.pn k.notes::af cd x.ss x.ps::T x.sf d.forget::Tb.dG p m'::ae5):=(h.cw).star
  have h:Ow B w0 w' (Tb.dG p m'::bo ((Ot Tb.dG x.ps k.ae).eraseIdx n.toNat)::_):=(h.pick (ae7:=bo ((Ot Tb.dG x.ps k.ae).eraseIdx n.toNat))).pick;have h:=h.cI hpl hp;exact(bu x h.sub:Ow B w0 w' (mI T M rb { k with ae:=k.ae.set n.toNat m'} d::ae5))
theorem rR(h:Ow B w0 w (mI T M rb k d::R)):∃ss:Sl,w.cell? (rb.p.add 7)=S ss.v/\ss.len=k.ae.length:=by obtain⟨x,h⟩:=lN h;have hpl:=(h.pick (ae7:=au Tb.dG x.ps k.ae)).cQ;exact⟨x.ss,h.aE U,by rw[h.aL x.ss,hpl]⟩
theorem uE{α:Type}{P ae5:J α}{x y:α}{i:X}(hi:i=P.length):(P++x::ae5).set i y=P++y::ae5:=by subst hi;rw[Qg _ _ (On _),P0];rfl
theorem uD{α:Type}{P ae5:J α}{x:α}{i:X}(hi:i=P.length):(P++x::ae5)[i]?=S x:=by subst hi;rw[OA (On _),P0];rfl
theorem vL{s:Slot}{K:Pw}(hk:bj ae6 k)(hN:ae6<=200000)(hs:(k.H s).isSome=V)(hF:d.forget.length+jC k.ae<=1000000000)(h:Ow B w0 w (cu M rb k d::R))
  (hK:∀w',Ow B w0 w' (cu M rb (k.gone s).2 { d with forget:=d.forget++(k.gone s).1}::R)->K w'):Uu rb.o s.1 s.2 K w:=by
 apply ad1;have hkt:=hk.taken hs;obtain⟨c,hc⟩:=Option.isSome_iff_exists.1 hs;unfold ag.gone at hK;rw[hc,PM]at hK;have hth:Sl.aR k.bits s=true:=mi hk.b0 (hk.held s c hc).1;refine h.a λc0 w1 h=>?_;refine h.dr λw h=>?_;obtain⟨x,h⟩:=lN h.cw;refine⟨_,U,h.l2 U (h.aN U ⟨Tr.C1 (s:=s) hk.tok (h.pick (ae7:=Tr.cB x.t k.T)) λw h=>?_,trivial⟩)⟩;intro k12 hk12;have fin:∀(cb:X)(w:Y),Ow B w0 w (cu M rb (k.taken s) d::aa cb c.cells::R)->k12 cb.p w:=λcb w h=>by
  apply hk12;have hF2:d.forget.length+jC (k.taken s).ae<=1000000000:=hF;generalize k.taken s=kt at hkt hK hF2 h|-;have nsp:=ON hkt.ns hN;obtain⟨x,h⟩:=lN h;refine⟨_,U,h.l1 U (Sl.mz (h.pick (ae7:=Sl.bm x.n kt.bits kt.H)) λs2 hs2 w hih h=>?_)⟩;have e2:hs2=fE kt.H:=hih.uniq (rA λt c hc=>(hkt.held t c hc).1);subst e2;have h64:=sF kt.H;have hany:=xO kt.H c;have h:Ow B w0 w (cu M rb kt d::af Sl.dV s2 (fE kt.H)::aa cb c.cells::R):=bu x h.sub;intro l19 hl19;have loop:∀(m j:X)(w:Y),j+m=(fE kt.H).length->(∀i y,i<j->(fE kt.H)[i]?=S y->ag.mG y.2 c=Z)->Ow B w0 w (cu M rb kt d::af Sl.dV s2 (fE kt.H)::aa cb c.cells::R)->l19 (j:O) w:=by
   intro m;induction m with
   |succ m ih=>
    intro j w hj hno h;have hlen:=h.aL s2;have hx:(fE kt.H)[j]?=S (fE kt.H)[j]:=gE om;apply hl19;refine az om ?_;refine h.dr λw h=>?_;refine h.bX (s:=s2) U hx λa ha _ hc1=>KF hc1 ?_;refine h.dI U ⟨?_,trivial⟩;refine CY h λw h=>?_;cases e:ag.mG (fE kt.H)[j].2 c with
    |true=>
     have hm:kt.more c=true:=hany.symm.trans (PS.2 ⟨_,Ph om,e⟩);rw[A hm]at hK;refine aU U (hK w ?_);show Ow B w0 w (cu M rb kt { d with forget:=d.forget++ []}::R);rw[OD];exact h.sub
    |false=>
     refine aW U ?_;rw[wr om om];refine ih (j+1) w om (λi y hi hy=>?_) h;by_cases e2:i=j
     .subst e2;rw[hx]at hy;cases hy;exact e
     .exact hno i y om hy
   |zero=>
    intro j w hj hno h;have hlen:=h.aL s2;apply hl19;refine aw om (h.l1 U ?_);have hm:kt.more c=false:=hany.symm.trans (by rw[Qf];intro y hy;obtain⟨i,hi⟩:=O5.1 hy;simp[hno i y (by have:=(Om.1 hi).1;omega) hi]);rw[Q (by rw[hm];decide)]at hK;unfold ag.last at hK;have h:Ow B w0 w (cu M rb kt d::aa cb c.cells::R):=h.sub;intro k39 hk39;have fin41:∀(kk:ag)(w:Y),kk.ae=kt.ae->(∀w',Ow B w0 w' (cu M rb (if c.kind=6 then { kk with ae:=(ag.bh c.obj 0 kk.ae).2}else if c.kind=7 then { kk with ae:=(ag.cF c.obj 0 kk.ae).2}else kk) { d with forget:=d.forget++(if c.kind=6 then(ag.bh c.obj 0 kk.ae).1 else if c.kind=7 then(ag.cF c.obj 0 kk.ae).1 else [])}::R)->K w')->
      Ow B w0 w (cu M rb kk d::aa cb c.cells::R)->k39 w:=λkk w hsp hK h=>by
     apply hk39;intro l41 hl41;have hsok:∀m∈kk.ae,Tb.fx m:=by rw[hsp];exact hkt.zG
     have hsl:kk.ae.length<=200000:=by rw[hsp];exact nsp
     have hFk:d.forget.length+jC kk.ae<=1000000000:=by rw[hsp];exact hF2
     clear hsp;have ex41:∀(i:X)(kk:ag)(dd:Told)(w:Y),(c.kind=6->kk.ae.length<=i)->kk.ae.length<=200000->(c.kind=7->dd.forget.length+jC kk.ae<=1000000000)->(∀w',Ow B w0 w' (cu M rb (if c.kind=7 then { kk with ae:=(ag.cF c.obj 0 kk.ae).2}else kk) { dd with forget:=dd.forget++(if c.kind=7 then(ag.cF c.obj 0 kk.ae).1 else [])}::R)->K w')->
       Ow B w0 w (cu M rb kk dd::aa cb c.cells::R)->l41 (i:O) w:=λi kk dd w h6 hsl hb hK h=>by
      apply hl41;intro k44 hk44;have out:k44 Z w:=by
       apply hk44;refine aW U ?_;intro l86 hl86;by_cases e7:c.kind=7
       .rw[A e7,A e7]at hK
        have hb:=hb e7;have loop:∀(r i:X)(w:Y),i+r=kk.ae.length->Ow B w0 w (cu M rb { kk with ae:=(ag.cF c.obj 0 (kk.ae.take i)).2++kk.ae.drop i} { dd with forget:=dd.forget++(ag.cF c.obj 0 (kk.ae.take i)).1}::aa cb c.cells::R)->l86 (i:O) w:=by
         intro r;induction r with
         |zero=>
          intro i w hi h;apply hl86;intro k89 hk89;obtain⟨ss,hs7,hs8⟩:=rR h;rw[Ou om,P2 om,OD]at h;have hul:ss.len=kk.ae.length:=by rw[hs8];simp[jG];omega
          exact⟨_,U,ss,hs7,aw om (hk89 _ _ (aW U (hK w h.sub)))⟩
         |succ r ih=>
          intro i w hi h;have hm:kk.ae[i]?=S kk.ae[i]:=gE om;have hdr:kk.ae.drop i=kk.ae[i]::kk.ae.drop (i+1):=Pt om;generalize kk.ae[i]=m at hm hdr;have htk:kk.ae.take (i+1)=kk.ae.take i++ [m]:=by rw[OG,hm];rfl
          have hPl:((ag.cF c.obj 0 (kk.ae.take i)).2).length=i:=by rw[jG,OO];omega
          have hpg1:=sh c.obj (kk.ae.take (i+1)) 0;have hpg2:jC (kk.ae.take (i+1))<=jC kk.ae:=by have:=oE (kk.ae.take (i+1)) (kk.ae.drop (i+1));rw[O8]at this;omega
          have hsn:=pX c.obj m (kk.ae.take i) 0;rw[htk]at hpg1 hpg2;rw[hsn]at hpg1;rw[OJ,OO,Pv om]at hsn hpg1;simp only[Ov]at hpg1;rw[hdr]at h;generalize hP:(ag.cF c.obj 0 (kk.ae.take i)).2=P at h hPl hsn hpg1;generalize hG0:(ag.cF c.obj 0 (kk.ae.take i)).1=G0 at h hsn hpg1;have hlw:i<200000:=om
          apply hl86;intro k89 hk89;obtain⟨ss,hs7,hs8⟩:=rR h;have hs9:ss.len=kk.ae.length:=by rw[hs8];simp[hPl];omega
          refine⟨_,U,ss,hs7,az om (h.l1 U ?_)⟩;rw[show(c.kind==7)=V from by simpa using e7];apply hk89;refine aU U ?_;intro l92 hl92;have places:∀(r j:X)(mj:Tb.dv)(ae3:J dP)(w:Y),j+r=64->(ae3++(ag.dB c.obj i r j mj).1=(ag.dB c.obj i 64 0 m).1)->((ag.dB c.obj i r j mj).2=(ag.dB c.obj i 64 0 m).2)->
            Ow B w0 w (cu M rb { kk with ae:=P++mj::kk.ae.drop (i+1)} { dd with forget:=dd.forget++G0++ae3}::aa cb c.cells::R)->l92 (j:O) w:=by
           intro r;induction r with
           |zero=>
            intro j mj ae3 w hj hG hM h;apply hl92;refine aw om ?_;have hM:mj=_:=hM;have hG:ae3++ []=_:=hG;rw[OD]at hG;rw[hM,hG]at h;rw[wI i om];refine ih (i+1) w om ?_;rw[htk,hsn,O1 P,<-O1 dd.forget];exact h
           |succ r ih2=>
            intro j mj ae3 w hj hG hM h;apply hl92;refine az om ?_;obtain⟨s3,p3,Y3,g1,_,⟨a3,g3,g4,g5,g6⟩,h3,_⟩:=kh (n:=(i:O)) (m:=mj) h om (uD hPl.symm);refine⟨_,U,s3,g1,a3,g3,g4,g5,_,g6,Tb.sX h3 ?_⟩;intro k102 hk102;rw[oe]at hG hM;rw[wI j om]at hk102;have no:mj.at (j:O)≠S c.obj->k102 Z w:=λhn=>by rw[Q hn]at hG hM;apply hk102;refine aW U ?_;exact ih2 (j+1) mj ae3 w om hG hM h
            have yes:mj.at (j:O)=S c.obj->k102 V w:=λhy=>by
             rw[A hy]at hG hM;apply hk102;refine aU U ?_;obtain⟨s4,p4,Y4,f1,_,⟨a4,f3,f4,f5,f6⟩,h4,hback⟩:=kh (n:=(i:O)) (m:=mj) h om (uD hPl.symm);refine⟨_,U,s4,f1,a4,f3,f4,f5,_,f6,Tb.CS h4 λs5 w h=>?_⟩;have h:=hback (mj.bp (j:O)).2.2 w (af Tb.aJ s5 (mj.bp (j:O)).1::aa cb c.cells::R) h.sub;have h:Ow B w0 w (cu M rb { kk with ae:=(P++mj::kk.ae.drop (i+1)).set i (mj.bp (j:O)).2.2} { dd with forget:=dd.forget++G0++ae3}::af Tb.aJ s5 (mj.bp (j:O)).1::aa cb c.cells::R):=h;rw[uE hPl.symm]at h;intro l112 hl112;have hGl:=qw PI hG;simp only[Ov]at hGl;have hlines:(ag.aQ i (mj.bp (j:O)).1).length=(mj.bp (j:O)).1.length:=by unfold ag.aQ;rw[O3]
             have inner:∀(r q:X)(w:Y),q+r=(mj.bp (j:O)).1.length->Ow B w0 w (cu M rb { kk with ae:=P++(mj.bp (j:O)).2.2::kk.ae.drop (i+1)} { dd with forget:=dd.forget++G0++(ae3++ag.aQ i ((mj.bp (j:O)).1.take q))}::af Tb.aJ s5 (mj.bp (j:O)).1::aa cb c.cells::R)->l112 (q:O) w:=by
              intro r;induction r with
              |zero=>
               intro q w hq h;have hsl:=h.aL s5;apply hl112;refine aw om ?_;rw[Ou (l:=(mj.bp (j:O)).1) om]at h;exact ih2 (j+1) _ (ae3++ag.aQ i (mj.bp (j:O)).1) w om (by rw[O1];exact hG) hM h.sub
              |succ r ih3=>
               intro q w hq h;have hsl:=h.aL s5;have hx:(mj.bp (j:O)).1[q]?=S (mj.bp (j:O)).1[q]:=gE om;have htq:(mj.bp (j:O)).1.take (q+1)=(mj.bp (j:O)).1.take q++ [(mj.bp (j:O)).1[q]]:=by rw[OG,hx];rfl
               generalize (mj.bp (j:O)).1[q]=y at hx htq;have hqlen:(dd.forget++G0++(ae3++ag.aQ i ((mj.bp (j:O)).1.take q))).length<=1000000000:=by
                have e8:(ag.aQ i ((mj.bp (j:O)).1.take q)).length<=(mj.bp (j:O)).1.length:=by unfold ag.aQ;rw[O3,OO];omega
                simp only[Ov];omega
               apply hl112;refine az om ?_;refine h.dr λw h=>?_;refine h.bX (s:=s5) U hx λa ha h0 _=>⟨_,h0 _ U,?_⟩
               refine h.bX (s:=s5) U hx λa ha _ hc1=>I9 hc1 ⟨?_,trivial⟩;refine l6 (sp:=(i:O)) (pg:=y.1) (p1:=y.2.1) (p2:=y.2.2) hqlen h λw h=>?_;rw[wI q om];refine ih3 (q+1) w om ?_;have e9:dd.forget++G0++(ae3++ag.aQ i ((mj.bp (j:O)).1.take (q+1)))=dd.forget++G0++(ae3++ag.aQ i ((mj.bp (j:O)).1.take q))++ [⟨(i:O),y.1,y.2.1,y.2.2⟩]:=by rw[htq];unfold ag.aQ;rw[OS];simp only[O1];rfl
               rw[e9];exact h
             refine inner _ 0 w (OJ _) ?_;rw[PT];show Ow B w0 w (cu M rb { kk with ae:=P++(mj.bp (j:O)).2.2::kk.ae.drop (i+1)} { dd with forget:=dd.forget++G0++(ae3++ [])}::_);rw[OD];exact h
            cases hat:mj.at (j:O)with
            |none=>exact aW U (no (by rw[hat];simp))
            |some n=>
             refine aU U (h.l2 U ?_);show k102 (n==c.obj) w;by_cases en:n=c.obj
             .rw[show(n==c.obj)=V from by simpa using en];exact yes (by rw[hat,en])
             .rw[show(n==c.obj)=Z from by simpa using en];exact no (by rw[hat];simpa using en)
          refine places 64 0 m [] w (OJ _) (PF _) U ?_;rw[OD];exact h
        refine loop kk.ae.length 0 w (OJ _) ?_;rw[PT,P6];show Ow B w0 w (cu M rb { kk with ae:=[]++kk.ae} { dd with forget:=dd.forget++ []}::_);rw[PF,OD];exact h
       .rw[Q e7,Q e7,OD]at hK
        apply hl86;intro k89 hk89;have o:k89 Z w:=hk89 _ _ (aW U (hK w h.sub));obtain⟨ss,hs7,hs8⟩:=rR h;refine⟨_,U,ss,hs7,bg (λ_=>(h.l1 U ?_)) (λ_=>o)⟩;rw[show(c.kind==7)=Z from by simpa using e7];exact o
      obtain⟨ss,hs7,hs8⟩:=rR h;refine⟨_,U,ss,hs7,bg (λe=>(h.l1 U ?_)) (λ_=>out)⟩;by_cases e6:c.kind=6
      .have:=h6 e6;omega
      .rw[show(c.kind==6)=Z from by simpa using e6];exact out
     by_cases e6:c.kind=6
     .rw[A e6,A e6]at hK
      have loop:∀(r i:X)(w:Y),i+r=kk.ae.length->Ow B w0 w (cu M rb { kk with ae:=(ag.bh c.obj 0 (kk.ae.take i)).2++kk.ae.drop i} { d with forget:=d.forget++(ag.bh c.obj 0 (kk.ae.take i)).1}::aa cb c.cells::R)->l41 (i:O) w:=by
       intro r;induction r with
       |zero=>
        intro i w hi h;rw[Ou om,P2 om,OD]at h;refine ex41 i { kk with ae:=(ag.bh c.obj 0 kk.ae).2} _ w (λ_=>by show(ag.bh c.obj 0 kk.ae).2.length<=i;rw[fQ];omega) (by show(ag.bh c.obj 0 kk.ae).2.length<=_;rw[fQ];exact hsl) (λe=>by omega) (λw h=>?_) h;rw[Q (show ¬c.kind=7 by omega),Q (show ¬c.kind=7 by omega),OD]at h;exact hK w h
       |succ r ih=>
        intro i w hi h;have hm:kk.ae[i]?=S kk.ae[i]:=gE om;have hmm:kk.ae[i]∈kk.ae:=Ph _;have hdr:kk.ae.drop i=kk.ae[i]::kk.ae.drop (i+1):=Pt om;generalize kk.ae[i]=m at hm hmm hdr;have hsm:=hsok m hmm;have htk:kk.ae.take (i+1)=kk.ae.take i++ [m]:=by rw[OG,hm];rfl
        have hPl:((ag.bh c.obj 0 (kk.ae.take i)).2).length=i:=by rw[fQ,OO];omega
        have hpg1:=ml c.obj (kk.ae.take (i+1)) 0;have hpg2:jC (kk.ae.take (i+1))<=jC kk.ae:=by have:=oE (kk.ae.take (i+1)) (kk.ae.drop (i+1));rw[O8]at this;omega
        have hsn:=mm c.obj m (kk.ae.take i) 0;rw[htk]at hpg1 hpg2;rw[hsn]at hpg1;rw[OJ,OO,Pv om]at hsn hpg1;simp only[Ov]at hpg1;rw[hdr]at h;generalize hP:(ag.bh c.obj 0 (kk.ae.take i)).2=P at h hPl hsn hpg1;generalize hG0:(ag.bh c.obj 0 (kk.ae.take i)).1=G0 at h hsn hpg1;apply hl41;intro k44 hk44;obtain⟨ss,hs7,hs8⟩:=rR h;have hs9:ss.len=kk.ae.length:=by rw[hs8];simp[hPl];omega
        refine⟨_,U,ss,hs7,az om (h.l1 U ?_)⟩;rw[show(c.kind==6)=V from by simpa using e6];apply hk44;refine aU U ?_;refine h.dr λw h=>?_;obtain⟨s3,p3,Y3,g1,_,⟨a3,g3,g4,g5,g6⟩,h3,hback⟩:=kh (n:=(i:O)) (m:=m) h om (uD hPl.symm);refine⟨_,U,s3,g1,a3,g3,g4,g5,_,g6,_,h.aE U,Tb.zo h3 λs5 w h=>?_,trivial⟩;have h:=hback m w (af aB s5 (Tb.cy m.pg c.obj)::aa cb c.cells::R) h.sub;have h:Ow B w0 w (cu M rb { kk with ae:=(P++m::kk.ae.drop (i+1)).set i m} { d with forget:=d.forget++G0}::af aB s5 (Tb.cy m.pg c.obj)::aa cb c.cells::R):=h;rw[uE hPl.symm]at h;intro l55 hl55;have hfl:∀q:X,(Tb.cy m.pg c.obj)[q]?=((m.pg.filter λx=>x.2.1==c.obj)[q]?).map (·.1):=λq=>by unfold Tb.cy;rw[OX]
        have hfn:(Tb.cy m.pg c.obj).length=(m.pg.filter λx=>x.2.1==c.obj).length:=by unfold Tb.cy;rw[O3]
        have hll:(ag.aQ i (m.pg.filter λx=>x.2.1==c.obj)).length=(m.pg.filter λx=>x.2.1==c.obj).length:=by unfold ag.aQ;rw[O3]
        have inner:∀(r q:X)(w:Y),q+r=(m.pg.filter λx=>x.2.1==c.obj).length->Ow B w0 w (cu M rb { kk with ae:=P++{ m with pg:=jh m.pg ((m.pg.filter λx=>x.2.1==c.obj).take q)}::kk.ae.drop (i+1)} { d with forget:=d.forget++G0++ag.aQ i ((m.pg.filter λx=>x.2.1==c.obj).take q)}::af aB s5 (Tb.cy m.pg c.obj)::aa cb c.cells::R)->l55 (q:O) w:=by
         intro r;induction r with
         |zero=>
          intro q w hq h;have hsl:=h.aL s5;apply hl55;refine aw om ?_;rw[Ou (l:=m.pg.filter λx=>x.2.1==c.obj) om,Ay hsm.kU]at h;rw[wI i om];refine ih (i+1) w om ?_;rw[htk,hsn,O1 P,<-O1 d.forget,List.singleton_append];exact h.sub
         |succ r ih2=>
          intro q w hq h;have hsl:=h.aL s5;have hx:(m.pg.filter λx=>x.2.1==c.obj)[q]?=S (m.pg.filter λx=>x.2.1==c.obj)[q]:=gE om;have hlk:=xF hsm.kU (λx=>x.2.1==c.obj) hx;have htq:(m.pg.filter λx=>x.2.1==c.obj).take (q+1)=(m.pg.filter λx=>x.2.1==c.obj).take q++ [(m.pg.filter λx=>x.2.1==c.obj)[q]]:=by rw[OG,hx];rfl
          have hmem:(m.pg.filter λx=>x.2.1==c.obj)[q]∈m.pg:=(OE.1 (Ph _)).1;have hfx:=hfl q;rw[hx]at hfx;generalize (m.pg.filter λx=>x.2.1==c.obj)[q]=y at hx hlk htq hmem hfx;have hbnd:=hsm.tA y hmem;have hun:(show Tb.dv from { m with pg:=jh m.pg ((m.pg.filter λx=>x.2.1==c.obj).take q)}).bV y.1=(y.2,0,{ m with pg:=jh m.pg ((m.pg.filter λx=>x.2.1==c.obj).take (q+1))}):=by unfold Tb.dv.bV;rw[Q om,hlk,htq,xG]
          have hqlen:(d.forget++G0++ag.aQ i ((m.pg.filter λx=>x.2.1==c.obj).take q)).length<=1000000000:=by unfold ag.aQ at hpg1|-;simp only[Ov,O3,OO]at hpg1|-;omega
          apply hl55;refine az om ?_;intro k58 hk58;have go:∀(g:X)(w:Y),Ow B w0 w (aa g [.z y.2.1,.z y.2.2]::cu M rb { kk with ae:=P++{ m with pg:=jh m.pg ((m.pg.filter λx=>x.2.1==c.obj).take (q+1))}::kk.ae.drop (i+1)} { d with forget:=d.forget++G0++ag.aQ i ((m.pg.filter λx=>x.2.1==c.obj).take q)}::af aB s5 (Tb.cy m.pg c.obj)::aa cb c.cells::R)->k58 g.p w:=λg w h=>by
           apply hk58;refine h.dr λw h=>?_;refine h.bX (s:=s5) U hfx λa ha h0 _=>⟨_,h0 _ U,?_⟩
           refine h.aN U ⟨?_,trivial⟩;refine l6 (sp:=(i:O)) (pg:=y.1) (p1:=y.2.1) (p2:=y.2.2) hqlen h.cw λw h=>?_;rw[show qd.wrap ((q:O)+1)=((q+1:X):O)from by have:=fx.Bj hsm;have:=OR (λx:O × Tb.Pg=>x.2.1==c.obj) m.pg;rw[wr om om];omega];refine ih2 (q+1) w om ?_;have e9:d.forget++G0++ag.aQ i ((m.pg.filter λx=>x.2.1==c.obj).take (q+1))=d.forget++G0++ag.aQ i ((m.pg.filter λx=>x.2.1==c.obj).take q)++ [⟨(i:O),y.1,y.2.1,y.2.2⟩]:=by rw[htq];unfold ag.aQ;rw[OS];simp only[O1];rfl
           rw[e9];exact h.sub
          refine h.dr λw h=>?_;obtain⟨s3,p3,Y3,g1,_,⟨a3,g3,g4,g5,g6⟩,h3,hback⟩:=kh (n:=(i:O)) (m:={ m with pg:=jh m.pg ((m.pg.filter λx=>x.2.1==c.obj).take q)}) h om (uD hPl.symm);refine⟨_,U,s3,g1,a3,g3,g4,g5,_,g6,h.bX (s:=s5) U hfx λa ha h0 _=>⟨_,h0 _ U,?_,?_,trivial⟩⟩
          .refine Tb.kF h3 λw h=>?_
           rw[hun]at h|-;have h:Ow B w0 w (cu M rb { kk with ae:=(P++{ m with pg:=jh m.pg ((m.pg.filter λx=>x.2.1==c.obj).take q)}::kk.ae.drop (i+1)).set i { m with pg:=jh m.pg ((m.pg.filter λx=>x.2.1==c.obj).take (q+1))}} _::_):=hback _ w _ h;rw[uE hPl.symm]at h;refine⟨h.al λw2 h=>⟨?_,trivial⟩,trivial⟩
           generalize w.heap.size=g at h|-;refine h.ay U U λw h=>?_;exact go g w h
          .refine h3.al λw2 h=>⟨?_,trivial⟩
           generalize w.heap.size=g at h|-;refine Tb.kF h.cw λw h=>?_;rw[hun]at h|-;have h:Ow B w0 w (cu M rb { kk with ae:=(P++{ m with pg:=jh m.pg ((m.pg.filter λx=>x.2.1==c.obj).take q)}::kk.ae.drop (i+1)).set i { m with pg:=jh m.pg ((m.pg.filter λx=>x.2.1==c.obj).take (q+1))}} _::aa g [.z 0,.z 0]::_):=hback _ w _ h.lK.cw;rw[uE hPl.symm]at h;refine⟨h.ay U U λw h=>?_,trivial⟩;exact go g w h.cw
        refine inner _ 0 w (OJ _) ?_;have e1:jh m.pg ((m.pg.filter λx=>x.2.1==c.obj).take 0)=m.pg:=by rw[PT,Az]
        have e2:ag.aQ i ((m.pg.filter λx=>x.2.1==c.obj).take 0)= []:=rfl;rw[e1,e2,OD];exact h
      refine loop kk.ae.length 0 w (OJ _) ?_;rw[PT,P6];show Ow B w0 w (cu M rb { kk with ae:=[]++kk.ae} { d with forget:=d.forget++ []}::_);rw[PF,OD];exact h
     .rw[Q e6,Q e6]at hK
      exact ex41 0 kk d w (λe=>qi e e6) hsl (λ_=>hFk) hK h
    refine dK (λe3=>?_) (λe3=>?_)
    .rw[A e3]at hK
     refine h.l2 U ?_;refine nN (id:=c.obj) ⟨ON hkt.ne hN,ON hkt.nn hN⟩ h λw h=>?_;refine h.dr λw h=>?_;obtain⟨x,h⟩:=lN h;refine⟨_,U,_,h.aE U,_,h.aE U,Th.kf hkt.inv (h.pick (ae7:=Th.bP x.th (kt.dL c.obj).t)) λw h=>?_,trivial⟩;refine fin41 ((kt.dL c.obj).bQ (kt.t.bM c.obj).2) w U (λw h=>?_) (bu x h.sub);rw[Q om,Q om,Q om,Q om]at h;exact hK w h
    .rw[Q e3]at hK
     refine fin41 kt w U (λw h=>?_) h;by_cases e6:c.kind=6
     .rw[A e6,A e6]at h
      rw[A e6]at hK;exact hK w h
     .rw[Q e6,Q e6]at h
      rw[Q e6]at hK;by_cases e7:c.kind=7
      .rw[A e7,A e7]at h
       rw[A e7]at hK;exact hK w h
      .rw[Q e7,Q e7]at h
       rw[Q e7]at hK;exact hK w h
  exact loop _ 0 w (OJ _) (λi y hi=>by omega) h
 refine h.dr λw h=>?_;refine⟨_,U,h.l1 U (h.aN U ⟨?_,?_,trivial⟩)⟩
 .refine Sl.mB (s:=s) (h.pick (ae7:=Sl.bm x.n k.bits k.H)) (λe=>by rw[hth]at e;cases e) (λ_ e=>by rw[hc]at e;cases e) λ_ c2 hc2 w h=>?_
  rw[hc]at hc2;cases hc2;refine⟨h.al λw' h=>⟨?_,trivial⟩,trivial⟩
  generalize w.heap.size=sb at h|-;refine h.ay U U λw h=>?_;exact fin sb w (bu x h.sub)
 .refine h.al λw' h=>⟨?_,trivial⟩
  generalize w.heap.size=sb at h|-;refine Sl.mB (s:=s) (h.pick (ae7:=Sl.bm x.n k.bits k.H)) (λe=>by rw[hth]at e;cases e) (λ_ e=>by rw[hc]at e;cases e) λ_ c2 hc2 w h=>?_;rw[hc]at hc2;cases hc2;refine⟨h.ay U U λw h=>?_,trivial⟩;exact fin sb w (bu x h.sub)
theorem pQ{w:Y}{ask:O}{K:O->Pw}(h0:0<=ask)(h1:ask<17)(hK:K (ag.aG ask).1 w):TC ask K w:=by
 apply adX;have hask:ask=0\/ask=1\/ask=2\/ask=3\/ask=4\/ask=5\/ask=6\/ask=7\/ask=8\/ask=9\/ask=10\/ask=11\/ask=12\/ask=13\/ask=14\/ask=15\/ask=16:=om
 rcases hask with rfl|rfl|rfl|rfl|rfl|rfl|rfl|rfl|rfl|rfl|rfl|rfl|rfl|rfl|rfl|rfl|rfl<;>
  (repeat' (first|(exact hK)|(refine jg U ?_)|(refine jf qb ?_)|(intro k2 hk2)|(apply hk2)))
theorem Bv:∀r:Fin 8,((qd.wrap (((r.val:X):O).tdiv 2)).tmod 2==1)=F (da .i64 ((r.val:X):O) 2=2)/\((((r.val:X):O)).tmod 2==1)=F (da .i64 ((r.val:X):O) 1=1)/\da .i64 ((r.val:X):O) 0=0:=by decide +kernel
theorem Fv{c:cO}(h:Sl.bT c=0):((qd.wrap (c.ak.tdiv 2)).tmod 2==1)=F (da .i64 c.ak 2=2)/\(c.ak.tmod 2==1)=F (da .i64 c.ak 1=1)/\da .i64 c.ak 0=0:=by
 have hb:0<=c.ak/\c.ak<=7:=by
  unfold Sl.bT at h;split at h
  .rename_i e;rw[e];decide
  split at h
  .cases h
  .rename_i hb
   unfold Sl.gx at hb;simp only[PE,OH,Q1,qA,not_or,Bool.not_eq_false,OH]at hb;omega
 obtain⟨r,hr⟩:=Ox hb.1;have:=Bv ⟨r,om⟩;rw[hr];exact this
theorem Fm{core cur:O}{c:Call}{K:W->Pw}(hk:bj ae6 k)(h0:0<=c.ask)(h1:c.ask<17)(h:Ow B w0 w (cu M rb k d::R))
  (hF:∀w',k.asked core cur c=ag.tell 181 k->Ow B w0 w' (cu M rb k d::R)->K Z w')
  (hT:∀w',k.dx c.at_ (ag.aG c.ask).1=V->¬(c.ask=1/\(k.aX c.at_).kind=1)->k.asked core cur c=k.asks ⟨core,cur,c,(0,c.at_),k.aX c.at_⟩->Ow B w0 w' (cu M rb k d::R)->K V w'):
  VC rb.o c.ask c.at_ c.ar c.a c.b c.c K w:=by
 apply adQ;refine h.a λcb w1 h=>?_;refine h.l2 U ?_;refine jE hk h.cw λw x hx hr h=>?_;refine h.a λxb w2 h=>?_;refine h.ay U U λw h=>?_;have hA:k.asked core cur c=if k.dx c.at_ (ag.aG c.ask).1=Z then ag.tell 181 k else if da .i64 (k.aX c.at_).ak (ag.aG c.ask).2≠(ag.aG c.ask).2 then ag.tell 181 k else k.asks ⟨core,cur,c,(0,c.at_),k.aX c.at_⟩:=rfl
 intro k19 hk19;have bad:∀w,k.dx c.at_ (ag.aG c.ask).1=Z->Ow B w0 w (aa xb x.cells::cu M rb k d::aa cb c.cl::R)->k19 V w:=λw e h=>by apply hk19;rw[A e]at hA;exact aU U (hF w hA h.sub)
 have good:∀w,k.dx c.at_ (ag.aG c.ask).1=V->Ow B w0 w (aa xb x.cells::cu M rb k d::aa cb c.cl::R)->k19 Z w:=λw e h=>by
  apply hk19;have hxe:Sl.bT x=0:=by rw[hx];exact(hk.cap (iA e).1).2.2.2.2
  obtain⟨g2,g1,g0⟩:=Fv hxe;rw[Q (by rw[e];decide),<-hx]at hA;rw[<-hx]at hT;refine aW U ?_;intro k22 hk22;have no1:¬(c.ask=1/\x.kind=1)->k22 Z w:=λhm=>by
   apply hk22;refine aW U ?_;intro k25 hk25;have t2:(ag.aG c.ask).2=2->k25 V w:=λhn=>by
    apply hk25;refine aU U ⟨_,h.aE U,qb,qb,?_⟩;rw[g2];rw[hn]at hA;by_cases e2:da .i64 x.ak 2=2
    .rw[qm e2]
     rw[Q (λhh=>hh e2)]at hA;exact hT w e hm hA h.sub
    .rw[qk e2]
     rw[A e2]at hA;exact hF w hA h.sub
   have f2:(ag.aG c.ask).2≠2->k25 Z w:=λhn2=>by
    apply hk25;refine aW U ?_;intro k29 hk29;have t1:(ag.aG c.ask).2=1->k29 V w:=λhn=>by
     apply hk29;refine aU U ⟨_,h.aE U,qb,?_⟩;rw[g1];rw[hn]at hA;by_cases e2:da .i64 x.ak 1=1
     .rw[qm e2]
      rw[Q (λhh=>hh e2)]at hA;exact hT w e hm hA h.sub
     .rw[qk e2]
      rw[A e2]at hA;exact hF w hA h.sub
    have f1:(ag.aG c.ask).2=0->k29 Z w:=λhn=>by apply hk29;refine aW U ?_;rw[hn,Q (λhh=>hh g0)]at hA;exact hT w e hm hA h.sub
    refine h.l1 U ?_;refine dK (λe9=>t1 (by rw[e9];rfl)) (λe9=>(h.l1 U ?_));by_cases e11:c.ask=11
    .rw[show(c.ask==11)=V from beq_iff_eq.2 e11];exact t1 (by rw[e11];rfl)
    .rw[show(c.ask==11)=Z from beq_eq_false_iff_ne.2 e11]
     refine f1 ?_;have hask:c.ask=0\/c.ask=1\/c.ask=2\/c.ask=3\/c.ask=4\/c.ask=5\/c.ask=6\/c.ask=7\/c.ask=8\/c.ask=10\/c.ask=12\/c.ask=13\/c.ask=14\/c.ask=15\/c.ask=16:=om
     rcases hask with q|q|q|q|q|q|q|q|q|q|q|q|q|q|q<;>rw[q]at hn2|-<;>first|rfl|exact qi U hn2
   refine h.l1 U ?_;refine dK (λe8=>t2 (by rw[e8];rfl)) (λe8=>(h.l1 U ?_));by_cases e10:c.ask=10
   .rw[show(c.ask==10)=V from beq_iff_eq.2 e10];exact t2 (by rw[e10];rfl)
   .rw[show(c.ask==10)=Z from beq_eq_false_iff_ne.2 e10]
    refine f2 ?_;have hask:c.ask=0\/c.ask=1\/c.ask=2\/c.ask=3\/c.ask=4\/c.ask=5\/c.ask=6\/c.ask=7\/c.ask=9\/c.ask=11\/c.ask=12\/c.ask=13\/c.ask=14\/c.ask=15\/c.ask=16:=om
    rcases hask with q|q|q|q|q|q|q|q|q|q|q|q|q|q|q<;>rw[q]<;>decide
  refine h.l1 U ?_;refine dK (λe1=>(h.l1 U ?_)) (λe1=>no1 (λhh=>e1 hh.1));by_cases e2:x.kind=1
  .rw[show(x.kind==1)=V from beq_iff_eq.2 e2]
   apply hk22;refine aU U (hF w ?_ h.sub);rw[hA,Q (by rw[e1];exact λhh=>hh g0)];unfold ag.asks;dsimp only;rw[e1];show ag.tell _ _=_;unfold ag.mK;dsimp only;rw[A e2]
  .rw[show(x.kind==1)=Z from beq_eq_false_iff_ne.2 e2]
   exact no1 (λhh=>e2 hh.2)
 have hB:k.dx c.at_ (ag.aG c.ask).1=(F (x.kind≠0)&&(F ((ag.aG c.ask).1=0)||F (x.kind=(ag.aG c.ask).1))):=by rw[hx];rfl
 refine h.dr λw h=>?_;refine h.l1 U ?_;refine dK (λe0=>?_) (λe0=>?_)
 .have:=bad w (by rw[hB,e0];rfl) h
  exact⟨⟨⟨this,trivial⟩,this,trivial⟩,trivial⟩
 refine⟨_,h.aF U,pQ h0 h1 (oO (λen=>?_) (λen=>?_)),trivial⟩
 .have last:k19 (x.kind !=(ag.aG c.ask).1) w:=by
   by_cases e3:x.kind=(ag.aG c.ask).1
   .rw[show(x.kind !=(ag.aG c.ask).1)=Z from by simpa using e3]
    exact good w (by rw[hB,qm e0,qm e3];simp) h
   .rw[show(x.kind !=(ag.aG c.ask).1)=V from by simpa using e3]
    exact bad w (by rw[hB,qk e3,qk en];simp) h
  refine⟨_,h.aF U,⟨_,h.aF U,?_,trivial⟩,?_,trivial⟩
  .exact pQ h0 h1 last
  .exact pQ h0 h1 ⟨_,h.aF U,last⟩
 .have:=good w (by rw[hB,en,qm e0];rfl) h
  exact⟨⟨this,trivial⟩,this,trivial⟩
theorem C5{id:O}{K:O->Pw}(hi:Th.bB (-1) k.t)(h:Ow B w0 w (cu M rb k ba::R))
  (hK:∀w' d',d'.w=0->d'.cN=(k.eu id).2.1->d'.forget= []->Ow B w0 w' (cu M rb (k.eu id).2.2 d'::R)->K (k.eu id).1 w'):Sb rb.o id K w:=by
 refine C6 hi h λw h=>?_;by_cases e:(k.eu id).1=0
 .rw[A e]at h
  refine hK w _ U ?_ U h;show id=(if _ then _ else _)
  rw[A (show (k.t.bE id).1=0 from e)]
 .rw[Q e]at h
  refine hK w _ U ?_ U h;show -1=(if _ then _ else _)
  rw[Q (show ¬(k.t.bE id).1=0 from e)]
theorem zr{dg:pZ}{K:O->Pw}(hk:bj ae6 k)(hN:ae6<=200000)(ha:5<=dg.call.ask)(hb:dg.call.ask<8)(hc:dg.c=k.aX dg.call.at_)(h:Ow B w0 w (cu M rb k ba::R))
  (hK:∀w' d',d'.w=(k.asks dg).1.w->d'.cN=(k.asks dg).1.cN->d'.forget=(k.asks dg).1.forget->Ow B w0 w' (cu M rb (k.asks dg).2 d'::R)->K (k.asks dg).1.e w'):
  VE rb.o dg.call.ask dg.call.at_ dg.call.ar dg.call.a dg.call.b dg.call.c K w:=by
 apply adS;refine h.a λcb w1 h=>?_;refine h.l2 U ?_;refine jE hk h.cw λw x hx hr h=>?_;rw[<-hc]at hx;subst hx;obtain⟨xx,h⟩:=lN h;refine⟨_,U,h.l2 U (Th.vQ (h.pick (ae7:=Th.bP xx.th k.t)) λw t2 e2 h=>?_)⟩;have h:Ow B w0 w (cu M rb k ba::aa cb dg.call.cl::R):=bu xx h.sub;refine h.a λtb w2 h=>?_;refine h.ay U U λw h=>?_;refine h.l1 U ?_;refine dK (λe5=>?_) (λe5=>?_)
 .have ea:k.asks dg=ag.dR (k.resume dg):=by unfold ag.asks;rw[e5];rfl
  rw[ea]at hK;unfold ag.dR at hK;refine h.l1 U ?_;have wk:∀(k2:ag)(w:Y),Th.bB (-1) k2.t->k.resume dg=k2.eu dg.c.obj->Ow B w0 w (cu M rb k2 ba::R)->Sb rb.o dg.c.obj (λr w=>K r w) w:=λk2 w hi he h=>by rw[he]at hK;exact C5 hi h hK
  have hst:(k.t.cP dg.c.obj=V/\(k.t.th dg.c.obj).st=3)↔t2.st=3:=by
   rw[e2];cases hT:k.t.cP dg.c.obj with
   |true=>simp
   |false=>simp[Th.JK]
  by_cases e3:t2.st=3
  .refine aU (beq_iff_eq.2 e3) ?_
   refine nN (id:=dg.c.obj) ⟨ON hk.ne hN,ON hk.nn hN⟩ (h.sub:Ow B w0 w (cu M rb k ba::R)) λw h=>?_;exact wk (k.dL dg.c.obj) w hk.inv (by unfold ag.resume;rw[A (hst.2 e3)]) h
  .refine aW (beq_eq_false_iff_ne.2 e3) ?_
   exact wk k w hk.inv (by unfold ag.resume;rw[Q (λhh=>e3 (hst.1 hh))]) h.sub
 refine dK (λe6=>?_) (λe6=>?_)
 .have ea:k.asks dg=ag.tell (k.t.bM dg.c.obj).1 ((k.dL dg.c.obj).bQ (k.t.bM dg.c.obj).2):=by unfold ag.asks;rw[e6];rfl
  rw[ea]at hK;refine nN (id:=dg.c.obj) ⟨ON hk.ne hN,ON hk.nn hN⟩ (h.sub:Ow B w0 w (cu M rb k ba::R)) λw h=>?_;obtain⟨xx,h⟩:=lN h;refine⟨_,U,h.l2 U (Th.kf hk.inv (h.pick (ae7:=Th.bP xx.th (k.dL dg.c.obj).t)) λw h=>?_)⟩;exact hK w ba U U U (bu xx h.sub:Ow B w0 w (cu M rb ((k.dL dg.c.obj).bQ (k.t.bM dg.c.obj).2) ba::R))
 .have e7:dg.call.ask=7:=om
  have ea:k.asks dg=ag.tell (k.t.gn dg.c.obj dg.call.a).1 (k.bQ (k.t.gn dg.c.obj dg.call.a).2):=by unfold ag.asks;rw[e7];rfl
  rw[ea]at hK;refine h.dr λw h=>?_;obtain⟨xx,h⟩:=lN h.cw;refine⟨_,U,_,h.aE U,_,h.aE U,Th.uh hk.inv (h.pick (ae7:=Th.bP xx.th k.t)) λw h=>?_,trivial⟩;exact hK w ba U U U (bu xx h.sub:Ow B w0 w (cu M rb (k.bQ (k.t.gn dg.c.obj dg.call.a).2) ba::R))
theorem CR{K:O->Pw}(hk:bj ae6 k)(hN:ae6+64<=100000)(ha:0<=dg.call.ask)(hb:dg.call.ask<5)(hs:dg.s=(0,dg.call.at_))(hc:dg.c=k.aX dg.call.at_)(hH:k.H dg.s=S dg.c)(hr:Sl.fI dg.c)(ho:k.fF dg.c)(hcore:k.t.fS dg.core=V)
  (hkind:(ag.aG dg.call.ask).1≠0->dg.c.kind=(ag.aG dg.call.ask).1) (zR:dg.call.ask=1->dg.c.kind≠1) (h:Ow B w0 w (cu M rb k ba::R))
  (hK:∀w' d',d'.w=(k.asks dg).1.w->d'.cN=(k.asks dg).1.cN->d'.forget=(k.asks dg).1.forget->Ow B w0 w' (cu M rb (k.asks dg).2 d'::R)->K (k.asks dg).1.e w'):
  VD rb.o dg.core dg.call.ask dg.call.at_ dg.call.ar dg.call.a dg.call.b dg.call.c K w:=by
 apply adR;have hsome:(k.H dg.s).isSome=true:=by rw[hH];rfl
 refine h.a λcb w1 h=>?_;intro k10 hk10;have fin:∀(xb sb:X)(w:Y),Ow B w0 w (cu M rb k ba::aa xb dg.c.cells::aa sb [.z 0,.z dg.call.at_]::aa cb dg.call.cl::R)->k10 xb.p sb.p w:=λxb sb w h=>by
  apply hk10;refine h.l1 U ?_;refine dK (λe0=>?_) (λe0=>?_)
  .have ea:k.asks dg=ag.tell (k.eG dg).1 (k.eG dg).2:=by unfold ag.asks;rw[e0];rfl
   rw[ea]at hK;have hkd:dg.c.kind=1:=by rw[e0]at hkind;exact hkind qb
   refine h.dI U (h.l2 U ?_);exact zp hk hN hsome hs hkd ho hcore h λw h=>hK w ba U U U (h.sub:Ow B w0 w (cu M rb (k.eG dg).2 ba::R))
  refine dK (λe1=>?_) (λe1=>?_)
  .have ea:k.asks dg=ag.tell (k.mK dg).1 (k.mK dg).2:=by unfold ag.asks;rw[e1];rfl
   rw[ea]at hK;unfold ag.mK at hK;rw[Q (zR e1)]at hK;refine h.l2 U ?_;refine(pP hk om h λw h=>?_:SC _ _ ((1:X):O) _ _);refine h.dI U ⟨_,h.aE U,h.l2 U ?_⟩;have hwr:=mr dg.call.b;have hcr:=sQ (r:=dg.call.a) hr hwr;refine CU h hr hwr.1 λw y hy h=>?_;rw[<-hy]at hcr hK;generalize (ag.gg dg.c dg.call.a (qq.wrap dg.call.b)).2=em at hK|-;refine h.a λyb w1 h=>?_;refine h.ay U U λw h=>?_;intro k45 hk45;by_cases ef:k.fD dg.call.ar 1=0
   .rw[Q (λhh=>hh ef)]at hK
    refine jg ef ?_;apply hk45;by_cases e2:em=0
    .rw[Q (λhh=>hh e2)]at hK
     refine jg e2 ⟨_,h.aE U,h.l2 U ?_⟩;refine h.dI U ?_;refine yk (c:=y) (a:=dg.call.at_) (t:=dg.call.ar) hcr hk.tok (by have:=hk.fh;omega) (h.sub:Ow B w0 w (cu M rb k ba::R)) λw h=>?_;rw[e2];rw[<-hs]at h;exact hK w ba U U U h
    .rw[A e2]at hK
     exact jf e2 (hK w ba U U U (h.sub:Ow B w0 w (cu M rb k ba::R)))
   .rw[A ef]at hK
    refine jf ef ?_;apply hk45;exact jf ef (hK w ba U U U (h.sub:Ow B w0 w (cu M rb k ba::R)))
  refine dK (λe2=>?_) (λe2=>?_)
  .have ea:k.asks dg=ag.tell (k.move dg).1 (k.move dg).2:=by unfold ag.asks;rw[e2];rfl
   rw[ea]at hK;unfold ag.move at hK;refine h.l2 U ?_;refine(pP hk om h λw h=>?_:SC _ _ ((1:X):O) _ _);by_cases ef:k.fD dg.call.ar 1=0
   .rw[Q (λhh=>hh ef)]at hK
    refine jg ef ?_;refine h.dr λw h=>?_;obtain⟨x,h⟩:=lN h;refine⟨_,U,h.l1 U (h.aN U ⟨_,h.aE U,Sl.uf (a:=(0,dg.call.at_)) (c:=(0,dg.call.ar)) (h.pick (ae7:=Sl.bm x.n k.bits k.H)) λw h=>?_,trivial⟩)⟩;refine h.dr λw h=>?_;refine⟨_,U,h.l2 U (h.aN U ⟨_,h.aE U,Tr.CV (f:=(0,dg.call.at_)) (t:=(0,dg.call.ar)) hk.tok (h.pick (ae7:=Tr.cB x.t k.T)) λw h=>?_,trivial⟩)⟩;rw[ef];rw[<-hs]at h;exact hK w ba U U U (bu x h.sub:Ow B w0 w (cu M rb { k with H:=(Sl.dW k.bits k.H dg.s (0,dg.call.ar)).2,T:=(Tr.dW k.T dg.s (0,dg.call.ar)).2} ba::R))
   .rw[A ef]at hK
    exact jf ef (hK w ba U U U (h.sub:Ow B w0 w (cu M rb k ba::R)))
  refine dK (λe3=>?_) (λe3=>?_)
  .have ea:k.asks dg=if dg.call.at_=0 then ag.tell 181 k else(⟨0,0,-1,(k.gone dg.s).1⟩,(k.gone dg.s).2):=by unfold ag.asks;rw[e3];rfl
   rw[ea]at hK;refine h.l2 U ?_;refine dK (λz=>?_) (λz=>?_)
   .rw[A z]at hK
    exact hK w ba U U U (h.sub:Ow B w0 w (cu M rb k ba::R))
   .rw[Q z]at hK
    refine h.aN U ?_;have g4:=vE k.ae hk.zG;have g5:=hk.ns;refine vL (s:=(0,dg.call.at_)) hk om (by rw[<-hs];exact hsome) (by show 0+jC k.ae<=_;omega) h λw h=>?_;rw[<-hs]at h;exact hK w _ U U U (h.sub:Ow B w0 w (cu M rb (k.gone dg.s).2 { ba with forget:=ba.forget++(k.gone dg.s).1}::R))
  have e4:dg.call.ask=4:=om
  have ea:k.asks dg=k.jm dg:=by unfold ag.asks;rw[e4];rfl
  rw[ea]at hK;unfold ag.jm at hK;dsimp only at hK;have hnd:=wB (s:=dg.s) hk.tok;have hlen:=yu (s:=dg.s) hk;have hheld:∀s∈Tr.cq k.T dg.s,(k.H s).isSome=true:=λs hs=>(hk.mem s).1 (wA hs);refine h.dr λw h=>?_;obtain⟨xx,h⟩:=lN h;refine⟨_,U,h.l2 U (h.aN U ⟨Tr.Bq (s:=(0,dg.call.at_)) hk.tok (h.pick (ae7:=Tr.cB xx.t k.T)) λs2 w h=>?_,trivial⟩)⟩;rw[<-hs]at h;have h:Ow B w0 w (cu M rb k ba::af Tr.aI s2 (Tr.cq k.T dg.s)::aa xb dg.c.cells::R):=bu xx h.sub;generalize Tr.cq k.T dg.s=xs at h hK hnd hlen hheld;have hl2:s2.len=xs.length:=h.aL s2;have hrv:xs.reverse.Nodup:=List.pairwise_reverse.2 (hnd.imp Ne.symm);intro l87 hl87;have loop:∀(m j:X)(w:Y),j+m=xs.length->Ow B w0 w (cu M rb (ag.cA (xs.reverse.take j) k).2 { ba with forget:=(ag.cA (xs.reverse.take j) k).1}::af Tr.aI s2 xs::aa xb dg.c.cells::R)->l87 ((m:O)-1) w:=by
   intro m;induction m with
   |zero=>
    intro j w hj h;apply hl87;refine aw om ?_;rw[Ou (by simp;omega)]at h;have hu2:=yY xs.reverse k hk hrv (λs hs=>hheld s (Rm.1 hs));generalize ag.cA xs.reverse k=ae3 at h hK hu2;obtain⟨ae2,kk⟩:=ae3;dsimp only at h hK hu2;obtain⟨x3,h⟩:=lN h;refine⟨_,U,?_⟩;rw[hl2,K8 om om];refine iv (h.gh U U λw h=>?_);refine h.l1 U ?_;refine dK (λe=>?_) (λe=>?_)
    .rw[A e]at hK
     have u0:=ho.1;have u1:=ho.2.1 e;rw[<-hu2]at u1;have hux:kk.u[dg.c.obj.toNat]?=S (kk.jy dg.c.obj):=by unfold ag.jy;rw[gE om];rfl
     refine h.dr λw h=>?_;refine⟨_,U,x3.su,h.aE U,h.l2 U (h.bX (s:=x3.su) (i:=dg.c.obj) (j:=dg.c.obj.toNat) om hux λa ha _ _=>⟨?_,trivial⟩)⟩
     refine h.rX (s:=x3.su) (i:=dg.c.obj) (j:=dg.c.obj.toNat) (c:=2) { kk.jy dg.c.obj with used:=0} om hux ha U qb U λw h=>?_;exact hK w ⟨0,(xs.length:O),-1,ae2⟩ U U U (bu x3 h.sub:Ow B w0 w (cu M rb (kk.kP dg.c.obj) ⟨0,(xs.length:O),-1,ae2⟩::R))
    .rw[Q e]at hK
     exact hK w ⟨0,(xs.length:O),-1,ae2⟩ U U U (bu x3 h.sub:Ow B w0 w (cu M rb kk ⟨0,(xs.length:O),-1,ae2⟩::R))
   |succ m ih=>
    intro j w hj h;have hx:xs[m]?=S xs[m]:=gE om;have hrx:xs.reverse[j]?=S xs[m]:=by rw[List.getElem?_reverse om,<-hx];congr 1;omega
    generalize xs[m]=y at hx hrx;have htk:xs.reverse.take (j+1)=xs.reverse.take j++ [y]:=by rw[OG,hrx];rfl
    have hnd2:(xs.reverse.take j++ [y]).Nodup:=by rw[<-htk];exact(List.take_sublist _ _).nodup hrv
    have hsub:∀s∈xs.reverse.take j,(k.H s).isSome=true:=λs hs=>hheld s (Rm.1 (RY hs));have hyk:(k.H y).isSome=true:=hheld y (OV hx);obtain⟨g1,g2⟩:=ry (xs.reverse.take j) k hk (PZ.1 hnd2).1 hsub;have g3:=rz (xs.reverse.take j) k;have g4:=vE k.ae hk.zG;have g5:=hk.ns;have hsn:=pA (xs.reverse.take j) y k;apply hl87;refine az om ?_;rw[show((m+1:X):O)-1=(m:O)from by omega];refine h.bX (s:=s2) U hx λa ha _ hc1=>Tr.kL hc1 ?_;refine vL (s:=y) g1 om ?_ ?_ h λw h=>?_
    .rw[g2,Q]
     .exact hyk
     .intro hm
      exact(PZ.1 hnd2).2.2 _ hm _ Po U
    .show (ag.cA (xs.reverse.take j) k).1.length+_<=_
     omega
    rw[wr om om];refine ih (j+1) w om ?_;rw[htk,hsn];exact h
  rw[hl2,wr om om];exact loop xs.length 0 w (OJ _) h
 have fin2:∀(x:cO)(xb sb:X)(w:Y),x=k.aX dg.call.at_->Ow B w0 w (cu M rb k ba::aa xb x.cells::aa sb [.z 0,.z dg.call.at_]::aa cb dg.call.cl::R)->k10 xb.p sb.p w:=λx xb sb w hx h=>by rw[<-hc]at hx;subst hx;exact fin xb sb w h
 clear fin hK hk10
 (repeat' (first|exact trivial|(exact fin2 _ _ _ _ (by assumption) h.sub)|(refine jE hk (h.pick (ae7:=cu M rb k ba)) λw x hx hr h=>?_)|(refine h.al λw h=>?_)|(refine h.dr λw h=>?_)|(refine h.aN U ?_)|(refine h.dI U ?_)|(refine h.l1 U ?_)|(refine h.l2 U ?_)|(refine h.hd U ?_)|(refine⟨h.aF U,?_⟩)|(refine⟨h.aE U,?_⟩)|((refine h.ay U U λw h=>?_);(try dsimp only[putAt,Pj,OI]at h))|(refine eX ?_)|(refine _root_.Go.Vc.a2 ?_)|(refine h.jx U U λw h=>?_)|(refine h.gh U U λw h=>?_)|(refine And.intro ?_ ?_)))
theorem Js{p:eN}{n:O}{wt:W}(h:(p.recv n wt).1.is=V):(p.recv n wt).1.to=n:=by
 revert h;unfold eN.recv;split
 .intro h;cases h
 split
 .intro _;rfl
 .intro h;cases h
theorem K6{p:oN}{n:O}{wt:W}(h:(p.wait n wt).1.2.2≠0):(p.wait n wt).1.1=0:=by
 revert h;unfold oN.wait;split
 .intro _;rfl
 split
 .intro h;exact qi U h
 .intro h;exact qi U h
theorem C2{K:O->Pw}(hk:bj ae6 k)(hM:M<1000000)(hN:ae6<=200000)(ha:8<=dg.call.ask)(hb:dg.call.ask<12)(hc:dg.c=k.aX dg.call.at_)(ho:k.fF dg.c)(hkind:dg.c.kind=(ag.aG dg.call.ask).1)
  (h:Ow B w0 w (cu M rb k ba::R))
  (hK:∀w' d',d'.w=(k.asks dg).1.w->d'.cN=(k.asks dg).1.cN->d'.forget=(k.asks dg).1.forget->Ow B w0 w' (cu (M+1) rb (k.asks dg).2 d'::R)->K (k.asks dg).1.e w'):
  VF rb.o dg.core dg.cur dg.call.ask dg.call.at_ dg.call.ar dg.call.a dg.call.b dg.call.c K w:=by
 apply adT;have h0:=ho.1;have hK1:∀w' d',d'.w=(k.asks dg).1.w->d'.cN=(k.asks dg).1.cN->d'.forget=(k.asks dg).1.forget->Ow B w0 w' (cu M rb (k.asks dg).2 d'::R)->K (k.asks dg).1.e w':=λw' d' q1 q2 q3 h=>hK w' d' q1 q2 q3 (me (P3 M) h);refine h.a λcb w1 h=>?_;refine h.l2 U ?_;refine jE hk h.cw λw x hx hr h=>?_;rw[<-hc]at hx;subst hx;refine h.a λxb w2 h=>?_;refine h.ay U U λw h=>?_;refine h.l1 U ?_;refine dK (λe10=>?_) (λe10=>?_)
 .have ea:k.asks dg=(⟨0,0,(k.a8 dg.c.obj dg.c.ax).1,[]⟩,(k.a8 dg.c.obj dg.c.ax).2):=by unfold ag.asks;rw[e10];rfl
  rw[ea]at hK;have hk5:dg.c.kind=5:=by rw[hkind,e10];rfl
  refine⟨_,h.aE U,h.l2 U (kO hM hk.inv h0 (ho.2.2.2.2.2.1 hk5) h.cw λw h=>?_)⟩;obtain⟨y,h⟩:=lN h;refine⟨_,U,iv (h.gh U U λw h=>?_)⟩;exact hK w ⟨0,0,(k.a8 dg.c.obj dg.c.ax).1,[]⟩ U U U (bu y h.sub:Ow B w0 w (cu (M+1) rb (k.a8 dg.c.obj dg.c.ax).2 ⟨0,0,(k.a8 dg.c.obj dg.c.ax).1,[]⟩::R))
 refine h.l1 U ?_;refine dK (λe11=>?_) (λe11=>?_)
 .have ea:k.asks dg=k.wait dg:=by unfold ag.asks;rw[e11];rfl
  rw[ea]at hK1;unfold ag.wait at hK1;have hk5:dg.c.kind=5:=by rw[hkind,e11];rfl
  have h1:=ho.2.2.2.2.2.1 hk5;obtain⟨hx,hnl⟩:=hk.lM h0 h1;have hkn:=hk.jn (n:=dg.c.obj) (p:=((k.lM dg.c.obj).wait dg.cur (dg.call.c !=0)).2) (by have:=zO (k.lM dg.c.obj) dg.cur (dg.call.c !=0);omega);have hww:=K6 (p:=k.lM dg.c.obj) (n:=dg.cur) (wt:=dg.call.c !=0);refine h.dr λw h=>?_;obtain⟨y,h⟩:=lN h.cw;have hpl:=(h.pick (ae7:=au (cf M) y.pn k.notes)).cQ;have hp:y.pn[dg.c.obj.toNat]?=S y.pn[dg.c.obj.toNat]:=gE om;generalize y.pn[dg.c.obj.toNat]=p at hp;refine⟨_,U,y.sn,h.aE U,h.l2 U (eF (s:=y.sn) (i:=dg.c.obj) (j:=dg.c.obj.toNat) h om hp λa ha hcc=>⟨_,hcc,_,h.aE U,?_,trivial⟩)⟩
  have h:=(h.pick (ae7:=au (cf M) y.pn k.notes)).wL hp hx;refine C4 om om h λw h=>?_;have h:=h.cI hpl hp;generalize (k.lM dg.c.obj).wait dg.cur (dg.call.c !=0)=P at h hK1 hkn hww|-;refine⟨_,U,iv (h.gh U U λw h=>?_)⟩;have h:Ow B w0 w (cu M rb (k.jn dg.c.obj P.2) ⟨0,P.1.1,-1,[]⟩::aa cb dg.call.cl::R):=bu y h.sub;intro k42 hk42;by_cases he:P.1.2.2=0
  .rw[Q (λhh=>hh he)]at hK1
   refine jg he ?_;apply hk42;rw[he];cases hi:P.1.2.1 with
   |true=>
    rw[hi]at hK1;exact aW U (hK1 w ⟨0,P.1.1,-1,[]⟩ U U U (h.sub:Ow B w0 w (cu M rb (k.jn dg.c.obj P.2) ⟨0,P.1.1,-1,[]⟩::R)))
   |false=>
    rw[hi]at hK1;refine aU U ?_;refine h.dI U ?_;refine vM (c:=dg.call) hkn.inv h λw h=>?_;have h:Ow B w0 w (cu M rb ((k.jn dg.c.obj P.2).rest dg) ⟨0,P.1.1,-1,[]⟩::_):=h;exact hK1 w ⟨0,P.1.1,-1,[]⟩ U U U (h.sub:Ow B w0 w (cu M rb ((k.jn dg.c.obj P.2).rest dg) ⟨0,P.1.1,-1,[]⟩::R))
  .rw[A he]at hK1
   refine jf he ?_;apply hk42;exact aW U (hK1 w ⟨0,P.1.1,-1,[]⟩ (hww he) U U (h.sub:Ow B w0 w (cu M rb (k.jn dg.c.obj P.2) ⟨0,P.1.1,-1,[]⟩::R)))
 refine h.a λmb w3 h=>?_;refine h.ay U U λw h=>?_;refine h.l1 U ?_;have hk4:dg.c.kind=4:=by
  rw[hkind];have:dg.call.ask=8\/dg.call.ask=9:=om
  rcases this with q|q<;>rw[q]<;>rfl
 have h1:=ho.2.2.2.2.1 hk4;obtain⟨hx,hel⟩:=hk.ic h0 h1;intro k55 hk55;have fin:∀(P:Met × O × eN)(w:Y),bj (ae6+1) (k.eL dg.c.obj P.2.2)->
   k.asks dg=(if P.2.1≠0 then ag.tell P.2.1 (k.eL dg.c.obj P.2.2)else if P.1.is=Z then ag.tell 0 ((k.eL dg.c.obj P.2.2).rest dg)else ag.dR (((k.eL dg.c.obj P.2.2).jS P.1.to P.1.m).eu (if dg.call.ask=8 then P.1.to else P.1.gk)))->
   Ow B w0 w (cu M rb (k.eL dg.c.obj P.2.2) ba::aa mb (KN P.1)::aa cb dg.call.cl::R)->k55 P.2.1 w:=λP w hkE ea h=>by
  apply hk55;rw[ea]at hK1;obtain⟨x,e,p'⟩:=P;dsimp only at h hK1 hkE|-;by_cases he:e≠0
  .rw[A he]at hK1
   exact iy he (hK1 w ba U U U (h.sub:Ow B w0 w (cu M rb (k.eL dg.c.obj p') ba::R)))
  rw[Q he]at hK1;refine fG om (h.l1 U ?_);cases hi:x.is with
  |false=>
   rw[A hi]at hK1;refine aU U ?_;refine h.dI U ?_;refine vM (c:=dg.call) hkE.inv h λw h=>?_;have h:Ow B w0 w (cu M rb ((k.eL dg.c.obj p').rest dg) ba::_):=h;exact hK1 w ba U U U (h.sub:Ow B w0 w (cu M rb ((k.eL dg.c.obj p').rest dg) ba::R))
  |true=>
   rw[Q (by rw[hi];decide)]at hK1;refine aW U (h.l2 U ?_);refine eJ (h.y6 U ?_);refine Fi (id:=x.to) (m:=x.m) h λw h=>?_;refine h.l1 U ?_;refine dK (λe8=>?_) (λe8=>?_)
   .rw[A e8]at hK1
    refine h.l2 U ?_;refine C5 hkE.jS.inv h λw d' q1 q2 q3 h=>?_;have h:Ow B w0 w (cu M rb (ag.dR (((k.eL dg.c.obj p').jS x.to x.m).eu x.to)).2 d'::_):=h;exact hK1 w d' q1 q2 q3 h.sub
   .rw[Q e8]at hK1
    refine h.l2 U ?_;refine C5 hkE.jS.inv h λw d' q1 q2 q3 h=>?_;have h:Ow B w0 w (cu M rb (ag.dR (((k.eL dg.c.obj p').jS x.to x.m).eu x.gk)).2 d'::_):=h;exact hK1 w d' q1 q2 q3 h.sub
 clear hK hK1 hk55;refine dK (λe8=>?_) (λe8=>?_)
 .have ea:k.asks dg=k.send dg:=by unfold ag.asks;rw[e8];rfl
  have hse:=zC (k.ic dg.c.obj) dg.cur (ag.fa dg) (dg.call.c !=0);have hkE:=hk.eL (n:=dg.c.obj) (p:=((k.ic dg.c.obj).send dg.cur (ag.fa dg) (dg.call.c !=0)).2.2) om;refine⟨_,h.aE U,h.l2 U (h.a λgb w4 h=>?_)⟩;refine h.ay U U λw h=>?_;refine⟨_,h.aE U,qb,qb,?_⟩;rw[show((show O from 0).toNat*1)=0 from U];refine iv (h.gh U U λw h=>?_);refine h.dr λw h=>?_;obtain⟨y,h⟩:=lN (h.pick (ae7:=cu M rb k ba));have hpl:=(h.pick (ae7:=au eB y.pe k.ends)).cQ;have hp:y.pe[dg.c.obj.toNat]?=S y.pe[dg.c.obj.toNat]:=gE om;generalize y.pe[dg.c.obj.toNat]=p at hp;refine⟨_,U,y.se,h.aE U,h.l2 U (eF (s:=y.se) (i:=dg.c.obj) (j:=dg.c.obj.toNat) h om hp λa ha hcc=>⟨_,hcc,?_⟩)⟩
  refine h.y6 U ⟨_,h.aE U,?_,trivial⟩;have h:=(h.pick (ae7:=au eB y.pe k.ends)).wL hp hx;refine CZ (m:=ag.fa dg) om h λw x hxx h=>?_;subst hxx;have h:=h.cI hpl hp;refine⟨h.ay U U λw h=>?_,trivial⟩;refine fin ((k.ic dg.c.obj).send dg.cur (ag.fa dg) (dg.call.c !=0)) w hkE ?_ ?_
  .rw[ea,A e8];rfl
  .exact (show Ow B w0 w (cu M rb (k.eL dg.c.obj ((k.ic dg.c.obj).send dg.cur (ag.fa dg) (dg.call.c !=0)).2.2) ba::_) from bu y h.sub)
 .have e9:dg.call.ask=9:=om
  have ea:k.asks dg=k.recv dg:=by unfold ag.asks;rw[e9];rfl
  have hse:=zu (k.ic dg.c.obj) dg.cur (dg.call.c !=0);have hkE:=hk.eL (n:=dg.c.obj) (p:=((k.ic dg.c.obj).recv dg.cur (dg.call.c !=0)).2.2) om;refine h.dr λw h=>?_;obtain⟨y,h⟩:=lN (h.pick (ae7:=cu M rb k ba));have hpl:=(h.pick (ae7:=au eB y.pe k.ends)).cQ;have hp:y.pe[dg.c.obj.toNat]?=S y.pe[dg.c.obj.toNat]:=gE om;generalize y.pe[dg.c.obj.toNat]=p at hp;refine⟨_,U,y.se,h.aE U,h.l2 U (eF (s:=y.se) (i:=dg.c.obj) (j:=dg.c.obj.toNat) h om hp λa ha hcc=>⟨_,hcc,_,h.aE U,?_,trivial⟩)⟩
  have h:=(h.pick (ae7:=au eB y.pe k.ends)).wL hp hx;refine CW om h λw x hxx h=>?_;subst hxx;have h:=h.cI hpl hp;refine⟨h.ay U U λw h=>?_,trivial⟩;refine fin ((k.ic dg.c.obj).recv dg.cur (dg.call.c !=0)) w hkE ?_ ?_
  .rw[ea,Q e8]
   unfold ag.recv;have hto:=Js (p:=k.ic dg.c.obj) (n:=dg.cur) (wt:=dg.call.c !=0);generalize (k.ic dg.c.obj).recv dg.cur (dg.call.c !=0)=P at hto|-;cases hi:P.1.is with
   |false=>simp
   |true=>rw[hto hi]
  .exact (show Ow B w0 w (cu M rb (k.eL dg.c.obj ((k.ic dg.c.obj).recv dg.cur (dg.call.c !=0)).2.2) ba::_) from bu y h.sub)
theorem pB{n q:O}(h0:q≠0):k.dx n q=F ((k.aX n).kind=q):=by
 unfold ag.dx;rw[qk h0,Q8];by_cases e:(k.aX n).kind=q
 .rw[e,qm h0,qm U];rfl
 .rw[qk e,Bool.and_false]
theorem Bn{K:O->Pw}(hk:bj ae6 k)(hM:M<1000000)(hN:ae6<=200000)(ha:12<=dg.call.ask)(hb:dg.call.ask<17)(hc:dg.c=k.aX dg.call.at_)(ho:k.fF dg.c)(hkind:dg.c.kind=(ag.aG dg.call.ask).1)
  (h:Ow B w0 w (cu M rb k ba::R))
  (hK:∀w' d',d'.w=(k.asks dg).1.w->d'.cN=(k.asks dg).1.cN->d'.forget=(k.asks dg).1.forget->Ow B w0 w' (cu (M+1) rb (k.asks dg).2 d'::R)->K (k.asks dg).1.e w'):
  VG rb.o dg.call.ask dg.call.at_ dg.call.ar dg.call.a dg.call.b dg.call.c K w:=by
 apply adU;have h0:=ho.1;refine h.a λcb w1 h=>?_;intro k9 hk9;have fin:∀(y:cO)(xb yb:X)(w:Y),y=k.aX dg.call.ar->Ow B w0 w (cu M rb k ba::aa xb dg.c.cells::aa yb y.cells::
   aa cb dg.call.cl::R)->k9 xb.p yb.p w:=λy xb yb w hy h=>by
  have hK1:∀w' d',d'.w=(k.asks dg).1.w->d'.cN=(k.asks dg).1.cN->d'.forget=(k.asks dg).1.forget->Ow B w0 w' (cu M rb (k.asks dg).2 d'::R)->K (k.asks dg).1.e w':=λw' d' q1 q2 q3 h=>hK w' d' q1 q2 q3 (me (P3 M) h);have hyo:∀q,q≠0->y.kind=q->k.fF y:=λq hq e=>by rw[hy];exact(hk.cap (n:=dg.call.ar) (by rw[<-hy,e];exact hq)).2.2.1
  apply hk9;refine h.l1 U ?_;refine dK (λe12=>?_) (λe12=>?_)
  .have ea:k.asks dg=k.table dg:=by unfold ag.asks;rw[e12];rfl
   rw[ea]at hK1;unfold ag.table at hK1;rw[pB qb,<-hy]at hK1;refine h.l1 U ?_;refine oO (λe=>?_) (λe=>?_)
   .rw[qk e,A U]at hK1
    exact hK1 w ba U U U (h.sub:Ow B w0 w (cu M rb k ba::R))
   .rw[qm e,Q qb]at hK1
    have hob:=hyo 8 qb e;obtain⟨hm,_⟩:=hk.hI hob.1 (hob.2.2.2.2.2.2.2.2.1 e);refine h.dr λw h=>?_;obtain⟨s3,p3,Y3,g1,_,⟨a3,g3,g4,g5,g6⟩,h3,hback⟩:=kh (n:=y.obj) h hob.1 hm;refine⟨_,U,s3,g1,_,h.aE U,a3,g3,g4,g5,_,g6,_,h.aE U,_,h.aE U,Tb.Bp h3 λw h=>?_,trivial⟩;have h:=hback _ w _ h;have h:Ow B w0 w (cu M rb { k with ae:=k.ae.set y.obj.toNat ((k.hI y.obj).gZ dg.call.a dg.c.obj).2} ba::R):=h.sub;exact hK1 w ba U U U h
  refine dK (λe13=>?_) (λe13=>?_)
  .have ea:k.asks dg=k.mapped dg:=by unfold ag.asks;rw[e13];rfl
   rw[ea]at hK1;unfold ag.mapped at hK1;rw[pB qb,<-hy]at hK1;refine h.l1 U ?_;refine oO (λe=>?_) (λe=>?_)
   .rw[qk e,A U]at hK1
    exact hK1 w ba U U U (h.sub:Ow B w0 w (cu M rb k ba::R))
   .rw[qm e,Q qb]at hK1
    have hob:=hyo 8 qb e;obtain⟨hm,_⟩:=hk.hI hob.1 (hob.2.2.2.2.2.2.2.2.1 e);refine h.dr λw h=>?_;obtain⟨s3,p3,Y3,g1,_,⟨a3,g3,g4,g5,g6⟩,h3,hback⟩:=kh (n:=y.obj) h hob.1 hm;refine⟨_,U,s3,g1,_,h.aE U,a3,g3,g4,g5,_,g6,_,h.aE U,_,h.aE U,_,h.aE U,_,h.aE U,Tb.Fl (p:=(dg.c.obj,da .i64 dg.c.ak dg.call.b)) h3 λw h=>?_,trivial⟩;have h:=hback _ w _ h;have h:Ow B w0 w (cu M rb { k with ae:=k.ae.set y.obj.toNat ((k.hI y.obj).nF dg.call.a (dg.c.obj,da .i64 dg.c.ak dg.call.b)).2} ba::R):=h.sub;exact hK1 w ba U U U h
  refine dK (λe14=>?_) (λe14=>?_)
  .have ea:k.asks dg=k.lJ dg:=by unfold ag.asks;rw[e14];rfl
   rw[ea]at hK1;unfold ag.lJ at hK1;have hk8:dg.c.kind=8:=by rw[hkind,e14];rfl
   obtain⟨hm,_⟩:=hk.hI h0 (ho.2.2.2.2.2.2.2.2.1 hk8);intro k38 hk38;have go:∀(p:O × O)(e:O)(pb:X)(w:Y),p=((k.hI dg.c.obj).bV dg.call.a).1->e=((k.hI dg.c.obj).bV dg.call.a).2.1->Ow B w0 w (cu M rb { k with ae:=k.ae.set dg.c.obj.toNat ((k.hI dg.c.obj).bV dg.call.a).2.2} ba::aa pb [.z p.1,.z p.2]::aa xb dg.c.cells::
     aa cb dg.call.cl::R)->k38 pb.p e w:=λp e pb w hp he h=>by
    apply hk38;rw[<-hp,<-he]at hK1;by_cases e0:e=0
    .rw[A e0]at hK1
     refine jg e0 ⟨_,h.aE U,h.l2 U ?_⟩;refine h.aN U ?_;refine l6 (by show 0<=1000000000;decide) h λw h=>?_;exact hK1 w ⟨0,0,-1,[⟨dg.c.obj,dg.call.a,p.1,p.2⟩]⟩ U U U (h.sub:Ow B w0 w (cu M rb { k with ae:=k.ae.set dg.c.obj.toNat ((k.hI dg.c.obj).bV dg.call.a).2.2} { ba with forget:=ba.forget++ [⟨dg.c.obj,dg.call.a,p.1,p.2⟩]}::R))
    .rw[Q e0]at hK1
     exact jf e0 (hK1 w ba U U U (h.sub:Ow B w0 w (cu M rb { k with ae:=k.ae.set dg.c.obj.toNat ((k.hI dg.c.obj).bV dg.call.a).2.2} ba::R)))
   refine h.dr λw h=>?_;obtain⟨s3,p3,Y3,g1,_,⟨a3,g3,g4,g5,g6⟩,h3,hback⟩:=kh (n:=dg.c.obj) h h0 hm;refine⟨_,U,s3,g1,_,h.aE U,a3,g3,g4,g5,_,g6,_,h.aE U,?_,?_,trivial⟩
   .refine Tb.kF h3 λw h=>?_
    have h:=hback _ w _ h;refine⟨h.al λw2 h=>⟨?_,trivial⟩,trivial⟩
    generalize w.heap.size=pb at h|-;refine h.ay U U λw h=>?_;exact go _ _ pb w U U h.sub
   .refine h3.al λw2 h=>⟨?_,trivial⟩
    generalize w.heap.size=pb at h|-;refine Tb.kF h.cw λw h=>?_;have h:=hback _ w _ h.lK.cw;refine⟨h.ay U U λw h=>?_,trivial⟩;exact go _ _ pb w U U h.sub
  refine dK (λe15=>?_) (λe15=>?_)
  .have ea:k.asks dg=k.bind dg:=by unfold ag.asks;rw[e15];rfl
   rw[ea]at hK1;unfold ag.bind at hK1;rw[pB qb,<-hy]at hK1;refine h.l1 U ?_;refine oO (λe=>?_) (λe=>?_)
   .rw[qk e,A U]at hK1
    exact hK1 w ba U U U (h.sub:Ow B w0 w (cu M rb k ba::R))
   .rw[qm e,Q qb]at hK1
    refine h.dr λw h=>?_;obtain⟨x,h⟩:=lN h;refine⟨_,U,_,h.aE U,_,h.aE U,_,h.aE U,_,h.aE U,CQ (h.pick (ae7:=dD x.ln k.ln)) λw h=>?_,trivial⟩;exact hK1 w ba U U U (bu x h.sub:Ow B w0 w (cu M rb { k with ln:=(mW k.ln dg.c.obj y.obj y.ax).2} ba::R))
  .have e16:dg.call.ask=16:=om
   have ea:k.asks dg=ag.dR (k.gP (iQ k.ln dg.c.obj)):=by unfold ag.asks;rw[e16];rfl
   rw[ea]at hK hK1;have hnote:=λy(hy:(iQ k.ln dg.c.obj).1.1=S y)=>u4 hk hy;have hok:=hk.Mp (n:=dg.c.obj);unfold ag.gP at hK hK1;refine h.dr λw h=>?_;obtain⟨x,h⟩:=lN h;refine⟨_,U,_,h.aE U,_,h.aE U,Fg (n:=dg.c.obj) (h.pick (ae7:=dD x.ln k.ln)) λw h=>?_,trivial⟩;generalize iQ k.ln dg.c.obj=r at hK hK1 hnote hok h|-;have h:Ow B w0 w (cu M rb { k with ln:=r.2} ba::R):=bu x h.sub;cases e:r.1.1 with
   |none=>
    rw[e]at hK1;exact aW U (hK1 w ba U U U h)
   |some y=>
    rw[e]at hK;obtain⟨n0,n1⟩:=hnote y e;refine aU U ?_;refine(kO hM hok.inv n0 n1 h λw h=>?_:Tg rb.o y.1 y.2 _ _);obtain⟨x2,h⟩:=lN h;refine⟨_,U,iv (h.gh U U λw h=>?_)⟩;exact hK w ⟨0,0,(ag.a8 { k with ln:=r.2} y.1 y.2).1,[]⟩ U U U (bu x2 h.sub:Ow B w0 w (cu (M+1) rb (ag.a8 { k with ln:=r.2} y.1 y.2).2 ⟨0,0,(ag.a8 { k with ln:=r.2} y.1 y.2).1,[]⟩::R))
 have fin2:∀(x y:cO)(xb yb:X)(w:Y),x=k.aX dg.call.at_->y=k.aX dg.call.ar->Ow B w0 w (cu M rb k ba::aa xb x.cells::aa yb y.cells::
   aa cb dg.call.cl::R)->k9 xb.p yb.p w:=λx y xb yb w hx hy h=>by
  rw[<-hc]at hx;subst hx;exact fin y xb yb w hy h
 clear fin hK hk9
 (repeat' (first|exact trivial|(exact fin2 _ _ _ _ _ (by assumption) (by assumption) h.sub)|(refine jE hk (h.pick (ae7:=cu M rb k ba)) λw x hx hr h=>?_)|(refine h.al λw h=>?_)|(refine h.dr λw h=>?_)|(refine h.aN U ?_)|(refine h.dI U ?_)|(refine h.l1 U ?_)|(refine h.l2 U ?_)|(refine h.hd U ?_)|(refine⟨h.aF U,?_⟩)|(refine⟨h.aE U,?_⟩)|((refine h.ay U U λw h=>?_);(try dsimp only[putAt,Pj,OI]at h))|(refine eX ?_)|(refine _root_.Go.Vc.a2 ?_)|(refine h.jx U U λw h=>?_)|(refine h.gh U U λw h=>?_)|(refine And.intro ?_ ?_)))
theorem HL(h:Ow B w0 w (cu M rb k d::R)):∃x:Rx,w.cell? ⟨rb,10,I⟩=S (.z d.e)/\w.cell? ⟨rb,11,I⟩=S (.y d.w)/\w.cell? ⟨rb,12,I⟩=S (.z d.cN)/\w.cell? ⟨rb,13,I⟩=S x.sf.v/\Ow B w0 w (af aA x.sf d.forget::mI Bd M rb k d::R):=by obtain⟨x,h⟩:=lN h;refine⟨x,h.aF U,h.aF U,h.aF U,h.aF U,?_⟩;have h:=h.pick (ae7:=af aA x.sf d.forget);have h:Ow B w0 w (dJ G::af aA x.sf d.forget::_):=Ow.cZ trivial h;exact(bu (T:=Bd) x h.sub:Ow B w0 w (mI Bd M rb k d::af aA x.sf d.forget::R)).cw
theorem Bl{core:O}{c:Call}{K:O->O->O->Sl->Pw}(hk:bj ae6 k)(hM:M<1000000)(hN:ae6+64<=100000)(h:Ow B w0 w (mI T M rb k d::R))
  (hK:∀fs d' w',Ow B w0 w' (af aA fs (k.do core c).1.forget::mI Bd (M+1) rb (k.do core c).2 d'::R)->K (k.do core c).1.e (k.do core c).1.w (k.do core c).1.cN fs w'):
  T9 rb.o core c.ask c.at_ c.ar c.a c.b c.c K w:=by
 apply adM;refine h.a λcb w1 h=>?_;refine h.a λob w2 h=>?_;obtain⟨x,h⟩:=lN (h.pick (ae7:=mI T M rb k d));refine⟨_,U,yB (h.ay U U λw h=>?_)⟩;have h:=Ow.cH (E:=aA) h;refine⟨_,U,h.l2 U (Th.gr hk.inv (h.pick (ae7:=Th.bP x.th k.t)) λw h=>?_)⟩;have h:Ow B w0 w (cu M rb (k.bQ (k.t.aV core)) ba::aa ob [.z 0,.y 0,.z 0,.slice I 0 0]::aa cb c.cl::R):=bu { x with sf:=z0} h.sub;have hp:=hk.pick core;have soon:∀(e:O)(k':ag)(w:Y),k.do core c=ag.tell e k'->Ow B w0 w (cu M rb k' ba::aa ob [.z 0,.y 0,.z 0,.slice I 0 0]::R)->
   aD w ob.p 0 [.z e,.y 0,.z (-1),.slice I 0 0] λw=>av w ob.p 0 [.o,.u,.o,.s] λ(r19:O)(r20:O)(r21:O)(r22:Sl)=>K r19 r20 r21 r22 w:=λe k' w he h=>by
  rw[he]at hK;refine h.ay U U λw h=>?_;refine h.gO (x3:=(z0:Sl)) U ?_;obtain⟨_,_,_,_,_,h⟩:=HL h;have h:=Ow.cH (E:=aA) (me (M':=M+1) (P3 M) (h.pick (ae7:=mI Bd M rb k' ba)));exact hK z0 ba w (h.sub:Ow B w0 w (af aA z0 []::mI Bd (M+1) rb k' ba::R))
 have late:∀(k':ag)(d':Told)(w:Y),k.do core c=(d',k')->Ow B w0 w (cu (M+1) rb k' d'::aa ob [.z 0,.y 0,.z 0,.slice I 0 0]::R)->
   av w (rb.p.add 10) 0 [.o,.u,.o,.s] λ(t0:O)(t1:O)(t2:O)(t3:Sl)=>aD w ob.p 0 [.z t0,.y t1,.z t2,t3.v] λw=>av w ob.p 0 [.o,.u,.o,.s] λ(r19:O)(r20:O)(r21:O)(r22:Sl)=>K r19 r20 r21 r22 w:=λk' d' w he h=>by
  rw[he]at hK;obtain⟨x,c0,c1,c2,c3,h⟩:=HL h;refine eJ ⟨_,c0,_,c1,_,c2,x.sf,c3,?_⟩;refine h.ay U U λw h=>?_;refine h.gO (x3:=x.sf) U ?_;exact hK x.sf d' w h.sub
 unfold ag.do at soon late
 cases hr:(k.t.aV core).bJ core with
 |none=>
  rw[hr]at soon;exact aU U (soon 182 _ w U h.sub)
 |some cur=>
  rw[hr]at soon late;dsimp only at soon late;refine aW U ?_;intro k23 hk23;have hbad:c.ask<0\/18<=c.ask->k23 V w:=λhb=>by rw[A hb]at soon;apply hk23;exact aU U (soon 180 _ w U h.sub)
  have hgood:¬(c.ask<0\/18<=c.ask)->k23 Z w:=λhb=>by
   rw[Q hb]at soon late;apply hk23;refine aW U (h.l1 U ?_);refine dK (λe=>?_) (λe=>?_)
   .rw[A e]at late
    obtain⟨x,h⟩:=lN h;refine⟨_,U,h.l2 U (Th.s0 hp.inv (h.pick (ae7:=Th.bP x.th (k.bQ (k.t.aV core)).t)) λw h=>?_)⟩;refine⟨_,U,?_⟩;have h:Ow B w0 w (Th.bP x.th ((k.t.aV core).yield core)::_):=h;have h:Ow B w0 w (cu M rb ((k.bQ (k.t.aV core)).bQ ((k.t.aV core).yield core)) ba::aa ob [.z 0,.y 0,.z 0,.slice I 0 0]::R):=bu x h.sub;exact late _ ba w U (me (P3 M) h)
   .rw[Q e]at soon late
    refine h.dI U ?_;have hci:(k.bQ (k.t.aV core)).t.fS core=true:=(hp.inv.runIn hr).1;generalize k.bQ (k.t.aV core)=kk at soon late h hp hci;refine Fm (core:=core) (cur:=cur) hp om om h (λw he h=>?_) (λw hB hm he h=>?_)
    .exact aU U (soon 181 kk w he h.sub)
    rw[he]at late;clear soon he;refine aW U (h.l1 U ?_);intro k60 hk60;obtain⟨hb1,hb2⟩:=iA hB;obtain⟨_,hH,ho,hcr,_⟩:=hp.cap hb1;have fin:∀(w:Y)(d':Told),d'.w=(kk.asks ⟨core,cur,c,(0,c.at_),kk.aX c.at_⟩).1.w->d'.cN=(kk.asks ⟨core,cur,c,(0,c.at_),kk.aX c.at_⟩).1.cN->d'.forget=(kk.asks ⟨core,cur,c,(0,c.at_),kk.aX c.at_⟩).1.forget->
      Ow B w0 w (cu (M+1) rb (kk.asks ⟨core,cur,c,(0,c.at_),kk.aX c.at_⟩).2 d'::aa ob [.z 0,.y 0,.z 0,.slice I 0 0]::aa cb c.cl::R)->
      ∃a80:qf,S (rb.p:qf)=S a80/\St w (a80.add 10) (.z (kk.asks ⟨core,cur,c,(0,c.at_),kk.aX c.at_⟩).1.e) λw81=>k60 w81:=λw d' q1 q2 q3 h=>by
     generalize kk.asks ⟨core,cur,c,(0,c.at_),kk.aX c.at_⟩=ae7 at h late q1 q2 q3|-;obtain⟨⟨e0,e1,e2,e3⟩,k'⟩:=ae7;obtain⟨f0,f1,f2,f3⟩:=d';dsimp only at q1 q2 q3;subst q1 q2 q3;obtain⟨x,h⟩:=lN h;refine⟨_,U,h.gh U U λw h=>?_⟩;apply hk60;refine⟨_,U,?_⟩;have h:Ow B w0 w (cu (M+1) rb k' ⟨e0,f1,f2,f3⟩::aa ob [.z 0,.y 0,.z 0,.slice I 0 0]::R):=bu x h.sub;exact late k' _ w U h
    clear hk60 late;refine bg (λe4=>?_) (λe4=>(h.l1 U ?_))
    .refine h.dI U ?_
     exact CR (dg:=⟨core,cur,c,(0,c.at_),kk.aX c.at_⟩) hp hN (by show 0<=c.ask;omega) (by show c.ask<5;omega) U U hH hcr ho hci hb2 (λe h1=>hm ⟨e,h1⟩) h λw d' q1 q2 q3 h=>fin w d' q1 q2 q3 (me (P3 M) h)
    refine bg (λe7=>?_) (λe7=>(h.l1 U ?_))
    .refine h.dI U ?_
     exact zr (dg:=⟨core,cur,c,(0,c.at_),kk.aX c.at_⟩) hp om (by show 5<=c.ask;omega) (by show c.ask<8;omega) U h λw d' q1 q2 q3 h=>fin w d' q1 q2 q3 (me (P3 M) h)
    refine bg (λe11=>?_) (λe11=>?_)
    .refine h.dI U ?_
     refine C2 (dg:=⟨core,cur,c,(0,c.at_),kk.aX c.at_⟩) hp hM om (by show 8<=c.ask;omega) (by show c.ask<12;omega) U ho (hb2 ?_) h λw d' q1 q2 q3 h=>fin w d' q1 q2 q3 h;have:c.ask=8\/c.ask=9\/c.ask=10\/c.ask=11:=om
     rcases this with q|q|q|q<;>rw[q]<;>decide
    .refine h.dI U ?_
     refine Bn (dg:=⟨core,cur,c,(0,c.at_),kk.aX c.at_⟩) hp hM om (by show 12<=c.ask;omega) (by show c.ask<17;omega) U ho (hb2 ?_) h λw d' q1 q2 q3 h=>fin w d' q1 q2 q3 h;have:c.ask=12\/c.ask=13\/c.ask=14\/c.ask=15\/c.ask=16:=om
     rcases this with q|q|q|q|q<;>rw[q]<;>decide
  refine h.l1 U ?_;refine bg (λe=>hbad (.inl e)) (λe=>(h.l1 U ?_));by_cases e2:c.ask>17
  .rw[qm e2];exact hbad om
  .rw[qk e2];exact hgood om
theorem LJ(a b:Slot × cO):pw qe 9 201 (Sl.dV.enc a) (Sl.dV.enc b)=S (F (a=b)):=by
 have h:pw qe 9 201 (Sl.dV.enc a) (Sl.dV.enc b)=S ((a.1.1==b.1.1&&(a.1.2==b.1.2&&V))&&((a.2.kind==b.2.kind&&(a.2.obj==b.2.obj&&(a.2.ak==b.2.ak&&(a.2.ax==b.2.ax&&(a.2.guard==b.2.guard&&(a.2.bits==b.2.bits&&V))))))&&V)):=qa
 rw[h];congr 1;rw[Qm];simp only[Q7,OH,qG,qA];obtain⟨⟨a1,a2⟩,a3⟩:=a;obtain⟨⟨b1,b2⟩,b3⟩:=b;cases a3;cases b3;simp only[Prod.mk.injEq,Sl.cO.mk.injEq]
theorem Kz{x y:qB}(a b:Slot × cO):B8 qe .neq 201 x y (.agg ⟨Sl.dV.enc a⟩) (.agg ⟨Sl.dV.enc b⟩) (!decide (a=b)):=Hk qa qa qa (LJ a b)
theorem LM(a b:O × Tb.Pg):pw qe 9 204 (Tb.aJ.enc a) (Tb.aJ.enc b)=S (F (a=b)):=by
 have h:pw qe 9 204 (Tb.aJ.enc a) (Tb.aJ.enc b)=S (a.1==b.1&&((a.2.1==b.2.1&&(a.2.2==b.2.2&&V))&&V)):=qa
 rw[h];congr 1;rw[Qm];simp only[Q7,OH,qG,qA];obtain⟨a1,a2,a3⟩:=a;obtain⟨b1,b2,b3⟩:=b;simp only[Prod.mk.injEq]
theorem KD{x y:qB}(a b:O × Tb.Pg):B8 qe .neq 204 x y (.agg ⟨Tb.aJ.enc a⟩) (.agg ⟨Tb.aJ.enc b⟩) (!decide (a=b)):=Hk qa qa qa (LM a b)
theorem xH{α:Type}{xs ys:J α}(hl:xs.length=ys.length)(h:∀i,i<xs.length->xs[i]?=ys[i]?):xs=ys:=O2 λi=>by
 by_cases e:i<xs.length
 .exact h i e
 .rw[OQ om,OQ om]
theorem ug{s t:Sl}{xs ys:J (Slot × cO)}{K:W->Pw}(h:Ow B w0 w L)(hr1:Rd Sl.dV B w0 L s xs)(hr2:Rd Sl.dV B w0 L t ys)(hs:xs.length<=1000000)(hK:∀w',Ow B w0 w' L->K (F (xs=ys)) w'):Vr s t K w:=by
 apply adl;have l1:=hr1.len;have l2:=hr2.len;by_cases e:xs.length=ys.length
 .refine aW (by simp;omega) ?_
  intro l3 hl3;have loop:∀(j i:X)(w:Y),i+j=xs.length->(∀k,k<i->xs[k]?=ys[k]?)->Ow B w0 w L->l3 (i:O) w:=by
   intro j;induction j with
   |zero=>
    intro i w hi hb h;apply hl3;refine aw om ?_;have:xs=ys:=xH e λk hk=>hb k om;have hk:=hK w h
    rwa [qm this]at hk
   |succ j ih=>
    intro i w hi hb h;apply hl3;refine az om ?_;refine h.dr λw h=>?_;have hx:xs[i]?=S xs[i]:=gE om;have hy:ys[i]?=S (ys[i]'om):=gE om;refine hr1.ix h U hx λa ha h0 hc=>⟨_,hc 0 _ U,_,hc 1 _ U,_,hc 2 _ U,_,hc 3 _ U,_,hc 4 _ U,_,hc 5 _ U,_,hc 6 _ U,_,hc 7 _ U,?_⟩
    refine hr2.ix h U hy λa ha h0 hc=>⟨_,hc 0 _ U,_,hc 1 _ U,_,hc 2 _ U,_,hc 3 _ U,_,hc 4 _ U,_,hc 5 _ U,_,hc 6 _ U,_,hc 7 _ U,?_⟩
    refine⟨_,Kz xs[i] (ys[i]'om),?_⟩;by_cases e2:xs[i]=ys[i]'om
    .refine aW (by simpa using e2) ?_
     rw[wI i om];refine ih (i+1) w om (λk hk=>?_) h;by_cases e3:k=i
     .subst e3;rw[hx,hy,e2]
     .exact hb k om
    .refine aU (by simpa using e2) ?_
     have:xs≠ys:=λe3=>by
      have:xs[i]?=ys[i]?:=by rw[e3]
      rw[hx,hy]at this;exact e2 (by simpa using this)
     have hk:=hK w h
     rwa [qk this]at hk
  exact loop xs.length 0 w om (λk hk=>by omega) h
 .refine aU (by simp;omega) ?_
  have:xs≠ys:=λe2=>e (by rw[e2]);have hk:=hK w h
  rwa [qk this]at hk
theorem uj{s t:Sl}{xs ys:J (O × Tb.Pg)}{K:W->Pw}(h:Ow B w0 w L)(hr1:Rd Tb.aJ B w0 L s xs)(hr2:Rd Tb.aJ B w0 L t ys)(hs:xs.length<=1000000)(hK:∀w',Ow B w0 w' L->K (F (xs=ys)) w'):SV s t K w:=by
 apply adB;have l1:=hr1.len;have l2:=hr2.len;by_cases e:xs.length=ys.length
 .refine aW (by simp;omega) ?_
  intro l3 hl3;have loop:∀(j i:X)(w:Y),i+j=xs.length->(∀k,k<i->xs[k]?=ys[k]?)->Ow B w0 w L->l3 (i:O) w:=by
   intro j;induction j with
   |zero=>
    intro i w hi hb h;apply hl3;refine aw om ?_;have:xs=ys:=xH e λk hk=>hb k om;have hk:=hK w h
    rwa [qm this]at hk
   |succ j ih=>
    intro i w hi hb h;apply hl3;refine az om ?_;refine h.dr λw h=>?_;have hx:xs[i]?=S xs[i]:=gE om;have hy:ys[i]?=S (ys[i]'om):=gE om;refine hr1.ix h U hx λa ha h0 hc=>⟨_,hc 0 _ U,_,hc 1 _ U,_,hc 2 _ U,?_⟩
    refine hr2.ix h U hy λa ha h0 hc=>⟨_,hc 0 _ U,_,hc 1 _ U,_,hc 2 _ U,?_⟩
    refine⟨_,KD xs[i] (ys[i]'om),?_⟩;by_cases e2:xs[i]=ys[i]'om
    .refine aW (by simpa using e2) ?_
     rw[wI i om];refine ih (i+1) w om (λk hk=>?_) h;by_cases e3:k=i
     .subst e3;rw[hx,hy,e2]
     .exact hb k om
    .refine aU (by simpa using e2) ?_
     have:xs≠ys:=λe3=>by
      have:xs[i]?=ys[i]?:=by rw[e3]
      rw[hx,hy]at this;exact e2 (by simpa using this)
     have hk:=hK w h
     rwa [qk this]at hk
  exact loop xs.length 0 w om (λk hk=>by omega) h
 .refine aU (by simp;omega) ?_
  have:xs≠ys:=λe2=>e (by rw[e2]);have hk:=hK w h
  rwa [qk this]at hk
theorem KJ(a:dP):pw qe 9 289 (aA.enc a) (aA.enc a)=S true:=by
 have h:pw qe 9 289 (aA.enc a) (aA.enc a)=S (a.space==a.space&&(a.bC==a.bC&&((a.frame==a.frame&&(a.ak==a.ak&&V))&&V))):=qa
 rw[h];simp
theorem Jb{x y:qB}(a:dP):B8 qe .neq 289 x y (.agg ⟨aA.enc a⟩) (.agg ⟨aA.enc a⟩) false:=
 Hk (x:=x) (y:=y) (P:=qe) (t:=289) (xs:=aA.enc a) (ys:=aA.enc a) qa qa qa (KJ a)
theorem vo{w:Y}{ae7:qf}{x:dP}{f:O->O->O->O->Prop}(g:∀c v,(aA.enc x)[c]?=S v->w.cell? (ae7.add c)=S v)(hf:f x.space x.bC x.frame x.ak):
  av w ae7 0 [.o,.o,.o,.o] f:=⟨_,g 0 _ U,_,g 1 _ U,_,g 2 _ U,_,g 3 _ U,hf⟩
theorem Fk{s t:Sl}{xs:J dP}{K:W->Pw}[bY s L dP aA xs][bY t L dP aA xs](hs:xs.length<=1000000000)(h:Ow B w0 w L)(hK:∀w',Ow B w0 w' L->K V w'):VB s t K w:=by
 apply adP;have l1:=h.aL s;have l2:=h.aL t;refine fG om ?_;intro l hl;have loop:∀(m j:X)(w:Y),j+m=xs.length->Ow B w0 w L->l (j:O) w:=by
  intro m;induction m with
  |zero=>intro j w hj h;apply hl;exact aw om (hK w h)
  |succ m ih=>
   intro j w hj h;have hx:xs[j]?=S xs[j]:=gE om;apply hl;refine az om ?_;refine h.dr λw h=>?_;refine h.bX (s:=s) U hx λa ha _ hc=>vo hc ?_;refine h.bX (s:=t) U hx λa ha _ hc=>vo hc ?_;refine⟨_,Jb xs[j],aW U ?_⟩;rw[wr om om];exact ih (j+1) w om h
 exact loop xs.length 0 w om h
theorem HE{s t:Sl}{e v wk:O}{xs:J dP}{K:W->Pw}[bY s L dP aA xs][bY t L dP aA xs](hs:xs.length<=1000000000)(h:Ow B w0 w L)(hK:∀w',Ow B w0 w' L->K V w'):Vm e v wk s e v wk t K w:=by apply adL;refine h.a λc1 w1 h=>?_;refine h.a λc2 w2 h=>?_;exact⟨_,h.aF U,_,h.aF U,jg U ⟨_,h.aE U,_,h.aE U,jg U ⟨_,h.aE U,_,h.aE U,jg U ⟨s,h.aE U,t,h.aE U,Fk (s:=s) (t:=t) hs h λw h=>hK w h.drop.drop⟩⟩⟩⟩
theorem C3{core:O}{K:W->Pw}(hk:bj ae6 k)(h:Ow B w0 w (mI T M rb k d::R))(hK:∀w',Ow B w0 w' (mI T M rb (k.tick core) d::R)->K (k.t.bJ core).isSome w'):
  ∃t:qg qf,w.cell? (rb.p.add 2)=S (.pointer t)/\Ua t core K w:=by
 obtain⟨x,h⟩:=lN h;refine h.l2 U ?_;refine Th.ui hk.inv (h.pick (ae7:=Th.bP x.th k.t)) λw h=>?_;exact hK w (bu x h.sub:Ow B w0 w (mI T M rb (k.tick core) d::R))
abbrev B0:Told:=⟨0,0,0,[]⟩
abbrev JR(rb:X)(k:ag):aH:=mI Bd 0 rb k B0
end
section
variable{B:X}{w0 w:Y}{R L:J aH}{rb ae6:X}{k:ag}
theorem uo{K:qg qf->O->Pw}(h:Ow B w0 w R)(hK:∀b w',Ow B w0 w' (dD b (Oq 8 ⟨0,0,0⟩)::R)->K b.o 0 w'):Vw 8 K w:=by
 apply adg;intro k2 hk2;refine aw qb ?_;rw[show F ((8:O)>64)=Z from by decide];apply hk2;refine aW U ?_;refine Ow.rH (E:=zS) (z0:=(⟨0,0,0⟩:Ln)) underlying263 (show qe.info? 320=S aeT from by kernel_rfl) (zv:= .agg ⟨zS.enc ⟨0,0,0⟩⟩) qa qa U h qb (by
  have e:aeT.bytes=32:=qa
  rw[e];decide) qb λs w hl h=>?_
 refine h.a λb w1 h=>?_;exact hK b w1 (dZ (s:=s) (λx hx=>by rw[QP hx];exact⟨RK _,qb⟩) h)
theorem kl{i kind obj:O}{K:Pw}(hT:Tr.ph k.T)(hl:k.T.length<1000000)(hi:i=(k.T.length:O))(h:Ow B w0 w (JR rb k::R))(hK:∀w',Ow B w0 w' (JR rb (k.dM i kind obj)::R)->K w'):Sv rb.o kind obj K w:=by
 apply adO;obtain⟨x,h⟩:=lN h;obtain⟨s,d,h2⟩:=(h.pick (ae7:=Tr.cB x.t k.T)).ref;have hs:(s.len:O)=i:=by rw[h2.aL s,Tr.fZ,hi]
 refine⟨_,U,_,h.aE U,_,U,s,h2.aF U,?_⟩;rw[hs];clear h2 hs;refine h.a λc w1 h=>?_;refine h.ay U U λw h=>?_;refine h.dr λw h=>?_;refine⟨_,U,h.l1 U (h.aN U ⟨Sl.nQ (s:=(0,i)) (c:=⟨kind,obj,7,0,0,0⟩) lk (h.pick (ae7:=Sl.bm x.n k.bits k.H)) λw h=>?_,trivial⟩)⟩;refine h.dr λw h=>?_;refine⟨_,U,h.l2 U (h.aN U ⟨Tr.CX (s:=(0,i)) hT hl (h.pick (ae7:=Tr.cB x.t k.T)) λw h=>?_,trivial⟩)⟩;exact hK w (bu x h.sub:Ow B w0 w (JR rb (k.dM i kind obj)::R))
theorem nU{n:X}{c:X}{i kind obj:O}(g:mS c n k)(hi:i=(n:O)):(k.dM i kind obj).T.length=k.T.length+1:=by
 have hno:Tr.bz k.T (0,i)=none:=rL λe=>by rw[g.ok.mem,g.free i om]at e;cases e
 have hT:Tr.nT k.T (0,i)=(0,k.T++ [((0,i),0)]):=by unfold Tr.nT;rw[hno]
 unfold ag.dM;rw[hT];simp
theorem mS.JF{c j:X}{p:O}(h:mS c (2+j) k)(hj:j<c)(h8:c<=8)(ht:k.t.bF.length=j)(hp:0<=p/\p<256):
  mS c (2+j) (k.bQ (((k.t.cv p (j:O)).2.2.bE (k.t.cv p (j:O)).1).2.aV (j:O))):=by
 have hc:k.t.fS (j:O)=true:=(h.core _).2 ⟨om,om⟩;obtain⟨_,_,hm⟩:=h.zL hj h8 ht hp;rw[hm];dsimp only;have hl:(((k.t.make p (j:O)).bE (j:O)).2.aV (j:O)).bF.length=j+1:=by rw[iG,gI];unfold Th.Mt.make;simp[ht]
 have hi:=((h.ok.inv.make (p:=p) (c:=(j:O)) om hc hp).resume (j:O)).aV (j:O);refine⟨h.ok.bQ hi (by rw[hl];omega),h.free,h.bits,λn=>?_,h.sp,h.u1⟩;show(((k.t.make p (j:O)).bE (j:O)).2.aV (j:O)).fS n=V↔_;rw[yh,tN,A8];exact h.core n
theorem uk{c bits lines:O}{prios:J O}{s:Sl}{K:qg qf->O->Pw}[ae4:bY s L O aB prios](h:Ow B w0 w L)(hbig:prios.length<=1000000000)
  (hK0:ag.gC c bits lines prios=Z->∀w',Ow B w0 w' L->K I 1 w')
  (hK1:ag.gC c bits lines prios=V->∀b w',Ow B w0 w' (JR b (ag.fC c.toNat bits.toNat lines.toNat prios)::L)->K b.o 0 w'):Vk c bits lines s K w:=by
 apply adK;have hlen:s.len=prios.length:=h.aL s;refine h.a λcb w1 h=>?_;intro k6 hk6;have bad:ag.gC c bits lines prios=Z->k6 V w1:=λe=>by apply hk6;exact aU U (hK0 e w1 h.drop)
 refine⟨_,h.aF U,bg (λe=>bad (qk λhh=>by have:=hh.1;omega)) λe1=>?_⟩;refine⟨_,h.aF U,bg (λe=>bad (qk λhh=>by have:=hh.2.1;omega)) λe2=>?_⟩;refine⟨_,h.aE U,bg (λe=>bad (qk λhh=>by have:=hh.2.2.1;omega)) λe3=>?_⟩;refine⟨_,h.aE U,bg (λe=>bad (qk λhh=>by have:=hh.2.2.2.1;omega)) λe4=>?_⟩;refine⟨_,h.aE U,bg (λe=>bad (qk λhh=>by have:=hh.2.2.2.2.1;omega)) λe5=>?_⟩;refine⟨_,h.aE U,bg (λe=>bad (qk λhh=>by have:=hh.2.2.2.2.2.1;omega)) λe6=>?_⟩;refine⟨s,h.aE U,h.l1 U ?_⟩;by_cases e7:(s.len:O)=c
 case neg=>
  rw[show((s.len:O) !=c)=V from bne_iff_ne.2 e7];exact bad (qk λhh=>by have:=hh.2.2.2.2.2.2.1;omega)
 rw[show((s.len:O) !=c)=Z from by rw[e7];exact bne_self_eq_false c];clear bad;apply hk6;refine aW U ?_;intro l9 hl9;have check:∀(d i:X)(w:Y),i+d=prios.length->(∀p∈prios.take i,0<=p/\p<256)->Ow B w0 w (aa cb [.z c,.z bits,.z lines,s.v]::L)->l9 (i:O) w:=by
  intro d;induction d with
  |succ d ih=>
   intro i w hi hp h;have hx:prios[i]?=S prios[i]:=gE om;generalize prios[i]=p at hx;have hpm:=OV hx;apply hl9;refine⟨s,h.aE U,az om ?_⟩;intro k13 hk13;have bad:¬(0<=p/\p<256)->k13 V w:=λe=>by apply hk13;exact aU U (hK0 (qk λhh=>e (hh.2.2.2.2.2.2.2 p hpm)) w h.drop)
   refine⟨s,h.aE U,h.bX (s:=s) U hx λa ha hc0 hc=>⟨_,hc0 _ U,?_⟩⟩
   refine bg (λe=>bad om) (λe=>?_);refine⟨s,h.aE U,h.bX (s:=s) U hx λa ha hc0 hc=>⟨_,hc0 _ U,?_⟩⟩
   by_cases e2:p>255
   .rw[qm e2];exact bad om
   .rw[qk e2]
    apply hk13;refine aW U ?_;rw[wI i om];refine ih (i+1) w om (λq hq=>?_) h;rw[OG,hx]at hq;rcases Pn.1 hq with hq|hq
    .exact hp q hq
    .have:q=p:=by simpa using hq
     rw[this];omega
  |zero=>
   intro i w hi hp h;rw[Ou om]at hp;have hr:ag.gC c bits lines prios=true:=qm ⟨om,om,om,om,om,om,om,hp⟩;have hK:=hK1 hr;apply hl9;clear hK0 hK1 hl9 hk6;obtain⟨b1,b2,b3,b4,b5,b6,b7,b8⟩:=of_decide_eq_true hr;obtain⟨c,rfl⟩:=Ox (show 0<=c by omega);obtain⟨bits,rfl⟩:=Ox (show 0<=bits by omega);obtain⟨lines,rfl⟩:=Ox b5;have b2:c<=8:=om
   have b9:4<=bits/\bits<=20:=⟨om,om⟩
   have b6:lines<=8:=om
   have b7:prios.length=c:=om
   simp only[Oo]at hK;refine⟨s,h.aE U,aw om (h.l1 U (Th.vR (c:=c) om b2 h λthb w h=>?_))⟩;refine uo h λlp w h=>?_;refine h.a λnb w1 h=>?_;refine h.a λtb w2 h=>?_;refine h.l2 U ?_;refine h.a λub w3 h=>?_;refine h.a λsb w4 h=>?_;refine h.a λpb w5 h=>?_;refine h.a λrb w6 h=>?_;refine⟨_,U,h.l1 U ?_⟩;have h:Ow B w0 w6 (Sl.bm nb [] (λ_=>I)::_):=Ow.ed (s:=z0) (ss:=[]) ⟨qc,qc,λs c h=>by cases h⟩ (Ow.BA (Ow.cH (h.pick (ae7:=aa nb [.slice I 0 0]))).cw);refine Sl.mA (z:=6) h λw h=>?_;have h:Ow B w0 w (Tr.cB tb []::_):=Ow.jk (s:=z0) (d:=z0) (Ow.cH (Ow.cH (h.pick (ae7:=aa tb [.slice I 0 0,.slice I 0 0]))));have h:Ow B w0 w (aa sb [Tb.bL z0,Tb.bL z0]::_):=h.pick (ae7:=aa sb [.slice I 0 0,.slice I 0 0]);have h:Ow B w0 w (Tb.dG sb Tb.iF::_):=Ow.iE (sT:=z0) (sP:=z0) Tb.jq.new (Ow.cH (E:=Tb.jo) (Ow.cH (E:=Tb.aJ) h)).lK;have h:Ow B w0 w (au Tb.dG [sb] [Tb.iF]::_):=Ow.jj U h;have h:Ow B w0 w (au Tb.dG [sb] [Tb.iF]::dJ G::_):=(Ow.cZ trivial h).cw;have h:Ow B w0 w (af cd ⟨S pb.p,1,1⟩ [sb]::_):=Ow.Ak (E:=cd) (h.pick (ae7:=aa pb [.q sb])) [sb] U;have h:Ow B w0 w (af cd z0 []::au (cf 0) [] []::_):=Ow.cH (Ow.jj U h);have h:Ow B w0 w (af cd z0 []::au eB [] []::_):=Ow.cH (Ow.jj U h);have h:Ow B w0 w (af eM ⟨S ub.p,1,1⟩ [⟨0,bits,0⟩]::_):=Ow.Ak (E:=eM) (h.pick (ae7:=aa ub [.y 0,.z bits,.y 0])) [⟨0,bits,0⟩] U;have h:=((h.pick (ae7:=dD lp (Oq 8 ⟨0,0,0⟩))).pick (ae7:=Th.bP thb (Th.fp c))).pick (ae7:=Tr.cB tb []);have h:=(h.pick (ae7:=Sl.bm nb (Sl.eO [] 6).2.2 λ_=>I)).pick (ae7:=aa rb [.q nb,.q tb,.q thb,.q lp,.slice ub.o 1 1,.slice I 0 0,.slice I 0 0,.slice pb.o 1 1,.z 0,.z 0,.z 0,.y 0,.z 0,.slice I 0 0]);have h:Ow B w0 w (JR rb (ag.kN c bits)::aa cb [.z c,.z bits,.z lines,s.v]::L):=bu (T:=Bd) (M:=0) (d:=B0) (fr:=0) (tb:=0) ⟨nb,tb,thb,lp,⟨S ub.p,1,1⟩,z0,z0,⟨S pb.p,1,1⟩,z0,[],[],[sb]⟩ h;have g0:=zh (c:=c) b2 b9;obtain⟨g1,g2⟩:=vb (c:=c) b2 b9;have fh:∀{m:X}{k:ag},mS c m k->k.T.length<1000000:=λg=>by have:=g.ok.fh;omega
   have t1:=nU (i:=0) (kind:=2) (obj:=0) g0 U;have t2:=nU (i:=1) (kind:=1) (obj:=0) g1 U;refine kl (i:=0) g0.ok.tok (fh g0) U h λw h=>?_;refine kl (i:=1) g1.ok.tok (fh g1) (by rw[t1];rfl) h λw h=>?_;intro l43 hl43;have loop:∀(ps:J O)(j:X)(k:ag)(w:Y),prios.drop j=ps->j+ps.length=c->mS c (2+j) k->k.t.bF.length=j->k.T.length=2+j->ag.mZ ps j k=ag.mZ prios 0 (((ag.kN c bits).dM 0 2 0).dM 1 1 0)->
     Ow B w0 w (JR rb k::aa cb [.z c,.z bits,.z lines,s.v]::L)->l43 (j:O) w:=by
    intro ps;induction ps with
    |nil=>
     intro j k w hd hj g ht htl he h;have hj:j=c:=hj;have he:k=_:=he;apply hl43;refine⟨_,h.aF U,aw om ?_⟩;have t3:=nU (i:=((2+j:X):O)) (kind:=8) (obj:=0) g U;refine kl (i:=((2+j:X):O)) g.ok.tok (fh g) (by rw[htl]) h λw h=>?_;intro l67 hl67;have g3:=g.space om;have lines_loop:∀(q t:X)(k:ag)(w:Y),t+q=lines->mS c (3+c+t) k->k.T.length=3+c+t->ag.tB q t (3+prios.length) k=ag.fC c bits lines prios->k.t.bF.length=c->Ow B w0 w (JR rb k::aa cb [.z c,.z bits,.z lines,s.v]::L)->l67 (t:O) w:=by
      intro q;induction q with
      |zero=>
       intro t k w hq g htl he ht h;have he:k=ag.fC c bits lines prios:=he;apply hl67;refine⟨_,h.aE U,aw om (hK rb w ?_)⟩;rw[<-he];exact h.sub
      |succ q ih=>
       intro t k w hq g htl he ht h;apply hl67;refine⟨_,h.aE U,az om ?_⟩;have t4:=nU (i:=((3+c+t:X):O)) (kind:=9) (obj:=(t:O)) g U;refine kl (i:=((3+c+t:X):O)) g.ok.tok (fh g) (by rw[htl]) h λw h=>?_;rw[wI t om];refine ih (t+1) _ w om (g.line om om) (by rw[t4,htl];omega) ?_ ht h;rw[<-he,b7];rfl
     refine lines_loop lines 0 (k.dM ((2+j:X):O) 8 0) w om (show mS c (3+c+0) (k.dM ((2+j:X):O) 8 0)from by rw[show 3+c+0=2+j+1 from by omega];exact g3) (by rw[t3,htl];omega) ?_ (ht.trans hj) h;unfold ag.fC;rw[<-he,hj,b7]
    |cons p ps ih=>
     intro j k w hd hj g ht htl he h;rw[OB]at hj;have hx:prios[j]?=S p:=by have:=qw (λl=>l[0]?) hd;simpa using this
     have hp:0<=p/\p<256:=b8 p (OV hx);obtain⟨g3,g4,g5⟩:=g.zL om b2 ht hp;have g6:mS c (2+j) (k.bQ (((k.t.cv p (j:O)).2.2.bE (k.t.cv p (j:O)).1).2.aV (j:O))):=g.JF om b2 ht hp;have t5:=nU (i:=((2+j:X):O)) (kind:=3) (obj:=(j:O)) g6 U;apply hl43;refine⟨_,h.aF U,az om (h.dr λw h=>?_)⟩;obtain⟨x,h⟩:=lN h;refine⟨_,U,_,h.aE U,s,h.aE U,h.bX (s:=s) (i:=(j:O)) (j:=j) U hx λa ha h0 hcc=>⟨_,h0 _ U,?_,trivial⟩⟩
     refine Th.mC g.ok.inv.ok (h.pick (ae7:=Th.bP x.th k.t)) λw h=>?_;have i1:=g.ok.inv.cv p (j:O);rw[g5]at h i1 g6 g3 g4;refine⟨_,U,h.l2 U (Th.gU i1 h λw h=>?_)⟩;refine⟨_,U,h.l2 U (Th.gr (i1.resume _) h λw h=>?_)⟩;have h:Ow B w0 w (JR rb (k.bQ (((k.t.make p (j:O)).bE (j:O)).2.aV (j:O)))::aa cb [.z c,.z bits,.z lines,s.v]::L):=bu x h.sub;refine kl (i:=((2+j:X):O)) g6.ok.tok (fh g6) (by show((2+j:X):O)=(k.T.length:O);rw[htl]) h λw h=>?_;rw[wI j om];refine ih (j+1) _ w ?_ om g3 g4 (by rw[g5]at t5;exact t5.trans (by show k.T.length+1=_;omega)) ?_ h
     .rw[<-Pz,hd];rfl
     .rw[<-he]
      show _=ag.mZ ps (j+1) ((k.bQ (((k.t.cv p (j:O)).2.2.bE (k.t.cv p (j:O)).1).2.aV (j:O))).dM ((2+j:X):O) 3 (k.t.cv p (j:O)).1);rw[g5]
   exact loop prios 0 _ w U om g2 U (by rw[t2,t1];rfl) U h
 exact check prios.length 0 w1 om (λp hp=>by simp at hp) h
end
end Go.Vc
