/- What the row rests on: the declarations that it needs, out of my texts (part 8). -/
import Derived.Test.YtfgikfglabdeoaaGreatZp7
open Bool renaming false->qd,true->G
open Decidable renaming decide->qe
open Go renaming Addr->qf,Operand->qD,Program->qo,TypeId->qi,TypeInfo->qL,Value->V,World->W,zeroValue->qK
open Go.IntKind renaming i64->qj,u64->qA
open Go.Proofs.Tryz renaming prog->qh,t289->akn,t3->qI,t338->ak2,t354->akp,t357->akZ,t365->ak1,underlying22->qJ,underlying341->ak0,underlying351->aky,underlying354->ako,underlying40->aj4
open Option renaming none->Q,some->X
open _root_ renaming Bool->I,False->qm,Int->U,List->J,Nat->S,Option->qg,True->qu,absurd->qk,beq_iff_eq->qN,congrArg->qz,decide_eq_decide->qP,decide_eq_false->ql,decide_eq_true->qp,decide_eq_true_eq->qF,if_false->qB,if_neg->Y,if_pos->Z,if_true->qE,or_false->qG,rfl->O
open Go.Proofs.Tryz
open Bool renaming and_eq_true->S4,and_true->Vp,eq_iff_iff->UF,false_eq_true->SX,false_or->Vq,not_eq_true'->Vk,or_eq_true->TV,true_and->Uo
open Int renaming eq_ofNat_of_zero_le->SI,le_refl->VM,toNat_natCast->SD,toNat_of_nonneg->TS
open List renaming any_eq_false->Uv,any_eq_true->TY,append_assoc->S6,append_nil->SL,drop_drop->TK,drop_eq_getElem_cons->TB,drop_of_length_le->Ui,drop_zero->T9,ext_getElem?->Td,filter_append->Tm,filter_cons->Tk,filter_eq_nil_iff->Us,filter_eq_self->TF,find?_eq_none->VQ,find?_eq_some_iff_getElem->Vt,findIdx?_eq_none_iff->Tt,findIdx?_eq_some_iff_getElem->Tc,flatMap_append->Tp,foldl_append->VZ,getElem?_append_left->SM,getElem?_append_right->SP,getElem?_eq_none->SZ,getElem?_eq_some_iff->Sz,getElem?_map->S2,getElem?_mapIdx->T3,getElem?_replicate->Un,getElem?_reverse->Wa,getElem?_set_ne->Uq,getElem?_set_self->SQ,getElem?_take->S5,getElem?_zipWith->Um,getElem_mem->Tq,length->TO,length_append->SG,length_cons->SJ,length_drop->UK,length_filter_le->S3,length_map->S9,length_mapIdx->Ww,length_nil->TU,length_set->Ti,length_take->SN,length_zipWith->Uu,map_append->S0,map_cons->S7,map_eq_nil_iff->Xa,map_nil->Uf,mem_append->Tv,mem_append_left->UO,mem_cons->SH,mem_cons_of_mem->TC,mem_cons_self->Tz,mem_filter->SV,mem_iff_getElem?->Tg,mem_map->Tj,mem_of_getElem?->SU,mem_of_mem_take->VD,mem_range->T6,mem_reverse->VE,mem_singleton->Tf,nil_append->TG,nodup_append->Ug,nodup_nil->Wu,pairwise_map->UR,perm_middle->Tw,range->SF,range_succ->UG,replicate->SB,replicate_succ'->U7,set_append_right->Uy,set_cons_succ->S1,set_cons_zero->Tu,set_getElem_self->UH,set_set->Ul,sum_append->WL,sum_cons->UW,take_add_one->SO,take_append_drop->Tl,take_of_length_le->SE,take_zero->TZ,zipWith->SC
open Nat renaming add_zero->UD,le_refl->SA,le_succ->Ue,le_trans->SY,min_eq_left->TL,pow_le_pow_right->Ty,sub_self->Uh,zero_add->SS,zero_le->UA
open Option renaming getD_some->TR,map->WD,map_some->TM
set_option maxRecDepth 100000
set_option maxHeartbeats 4000000
set_option linter.all false
namespace Go.Vc
open Go.Proofs
namespace Mc
section
variable{B:S}{w0 w:W}{R L:J aG}{s:Sl}{xs:J dM}
theorem rG{w:W}{a:qf}{x:dM}{f:U->U->U->U->Prop}(g:∀c v,(au.enc x)[c]?=X v->w.cell? (a.add c)=X v)(hf:f x.space x.aX x.frame x.ar):
  hI w a 0 [.o,.o,.o,.o] f:=⟨_,g 0 _ O,_,g 1 _ O,_,g 2 _ O,_,g 3 _ O,hf⟩
theorem Bv:qh.info? 289=X akn:=qa
theorem CV:akn.bytes=32:=qa
def Jc:dM:=⟨0,0,0,0⟩
theorem G7(w:W):(qK 289).run qh w= .ok (.agg ⟨au.enc Jc⟩) w:=zeroValue289 w
theorem jI{α:Type}(xs:J α)(q:α->I)(j:S)(x:α)(hx:xs[j]?=X x):(xs.take (j+1)).filter q=(xs.take j).filter q++if q x then [x]else []:=by rw[SO,hx,Tm];congr 1;simp only[Option.toList_some,Tk,List.filter_nil]
instance eB.app{b:S}{N L:J aG}{l:J V}[ale:eB b L l]:eB b (N++L) l:=⟨N.length+ale.i,by rw[SP om,Nat.add_sub_cancel_left];exact ale.at_⟩
theorem y6{p:dM->I}{f:V}{K:U->Pw}[ale:bG s L dM au xs](h:Ow B w0 w L)(hbig:xs.length<=1000000000)
  (hf:∀(y:dM)(w:W)(alf:I->Pw),Ow B w0 w L->(∀w',Ow B w0 w' L->alf (p y) w')->fP qh f [.agg ⟨au.enc y⟩] w λen w'=>∃r:I,en= .returned (.bool r)/\alf r w')
  (hK:∀w',Ow B w0 w' L->K (eC p xs) w'):adw s f K w:=by
 apply afZ;have hlen:=h.aF s;intro l hl;have loop:∀(rest:J dM)(j:S)(w:W),xs.drop j=rest->j<=xs.length->(∀i,i<j->∀y,xs[i]?=X y->p y=qd)->Ow B w0 w L->l (j:U) w:=by
  intro rest;induction rest with
  |nil=>
   intro j w hj hjl hno h;have:xs.length<=j:=by have:=qz TO hj;simp at this;omega
   apply hl;refine av om ?_;have hn:xs.findIdx? p=none:=by rw[Tt];intro y hy;obtain⟨i,hi⟩:=Tg.1 hy;exact hno i (by have:=(Sz.1 hi).1;omega) y hi
   have e:eC p xs= -1:=by unfold eC;rw[hn]
   rw[<-e];exact hK _ h
  |cons y rest ih=>
   intro j w hj hjl hno h;have hjl2:j<xs.length:=by have:=qz TO hj;simp at this;omega
   have hx:xs[j]?=X y:=by have:=qz (λl=>l[0]?) hj;simpa using this
   apply hl;refine az om ?_;refine h.cd O hx λa ha h0 hc=>?_;refine rG hc ?_;refine hf y w _ h λw h=>?_;cases hp:p y with
   |true=>
    refine aW O ?_;have hn:xs.findIdx? p=X j:=by
     rw[Tc];refine⟨hjl2,?_,λi hi=>?_⟩
     .rw[gE hjl2]at hx;cases hx;exact hp
     .have:=hno i hi xs[i] (gE om)
      simp[this]
    have e:eC p xs=(j:U):=by unfold eC;rw[hn]
    rw[<-e];exact hK _ h
   |false=>
    refine aV O ?_;rw[wr om om];refine ih (j+1) w (by rw[<-TK,hj];rfl) om (λi hi z hz=>?_) h;by_cases e:i=j
    .subst e;rw[hx]at hz;cases hz;exact hp
    .exact hno i om z hz
 exact loop xs 0 w O om (λi hi=>by omega) h
theorem Es{i j:S}{K:Sl->Pw}(h:Ow B w0 w (ag au s xs::R))(hij:i<j)(hj:j<=xs.length)(hbig:xs.length<=1000000000)
  (hK:∀s' w',Ow B w0 w' (ag au s' (xs.take i++xs.drop j)::R)->K s' w'):acV s (i:U) (j:U) K w:=by
 apply afK;have hlen:=h.aF s;have hcap:=h.lF.ga;refine⟨om,om,om,om,om,om,jk om (h.dr λw h=>?_)⟩;refine⟨om,om,om,om,a2 ?_⟩;simp only[SD];refine h.xk (E:=au) aj4 Bv qa om hj om λw h=>?_;dsimp only;refine⟨om,om,om,om,Ow.clear (E:=au) (z0:=Jc) (n:=i+(xs.length-j)) aj4 G7 O h 0 O (by simp;omega) λw h=>?_⟩;have hp:=h.pre 0 O (n:=i+(xs.length-j)) (by simp;omega);refine hK _ w ?_;rw[mH hij hj]at hp;exact hp
theorem wT{fv:V}{p:dM->I}{K:Sl->Pw}(h:Ow B w0 w (ag au s xs::L))(hbig:xs.length<=1000000000)
  (hf:∀(N:J aG)(y:dM)(w:W)(alf:I->Pw),Ow B w0 w (N++L)->(∀w',Ow B w0 w' (N++L)->alf (p y) w')->fP qh fv [.agg ⟨au.enc y⟩] w λen w'=>∃r:I,en= .returned (.bool r)/\alf r w')
  (hK:∀s' w',Ow B w0 w' (ag au s' (xs.filter λx=> !p x)::L)->K s' w'):adq s fv K w:=by
 apply afW;have hlen:=h.aF s;have hspot:=(h.tX 0 O).spot;refine y6 h hbig (λy w alf h hQ=>hf [ag au s xs] y w alf h hQ) λw1 h=>?_;unfold eC;cases hfi:xs.findIdx? p with
 |none=>
  refine aW O ?_;have:xs.filter (λx=> !p x)=xs:=by rw[TF];intro x hx;rw[Tt]at hfi;simp[hfi x hx]
  have h2:=hK s w1;rw[this]at h2;exact h2 h
 |some i0=>
  obtain⟨hi0,hp0,hbefore⟩:=Tc.1 hfi;refine aV qc ?_;intro l hl;have hcap:=(h.tX 0 O).ga;have key:∀(m j q:S)(ys:J dM)(w:W),j+m=xs.length->ys.length=xs.length->ys.take q=(xs.take j).filter (λx=> !p x)->q<j->q<=ys.length->ys.drop j=xs.drop j->
    Ow B w0 w (ag au s ys::L)->l (q:U) (j:U) w:=by
   intro m;induction m with
   |zero=>
    intro j q ys w hj hys hq hqj hqy hd h;apply hl;refine av om ?_;refine⟨om,om,?_⟩;rw[SD];refine Ow.clear (E:=au) (z0:=Jc) (n:=q) aj4 G7 O h 0 O om λw2 h=>?_;refine⟨om,om,?_⟩;have h3:=h.pre 0 O (n:=q) (by simp;omega);have e1:(ys.take q++SB (ys.length-q) Jc).take q=xs.filter (λx=> !p x):=by rw[List.take_append_of_le_length (by simp;omega),List.take_take,Nat.min_self,hq,SE om]
    rw[e1]at h3;rw[IN _ _ _ hspot];exact hK _ _ h3
   |succ m ih=>
    intro j q ys w hj hys hq hqj hqy hd h;have hjlt:j<xs.length:=om
    have hyj:ys[j]?=X xs[j]:=by have:=qz (λl=>l[0]?) hd;simp only[List.getElem?_drop,UD]at this;rw[this,gE hjlt]
    apply hl;refine az om ?_;refine h.cd (s:=s) O hyj λa ha h0 hc=>?_;refine rG hc ?_;have hft:=jI xs (λx=> !p x) j _ (gE hjlt);have hd1:∀zs:J dM,zs.drop j=xs.drop j->zs.drop (j+1)=xs.drop (j+1):=λzs hz=>by rw[<-TK (i:=1) (j:=j),<-TK (i:=1) (j:=j),hz]
    generalize xs[j]=x at hyj hft hc;refine h.a λd w' h=>?_;refine h.aB O O λw h=>?_;refine h.gn O ?_;refine hf [ae d (au.enc x),ag au s ys] x w _ h λw h=>?_;have h:Ow B w0 w (ae d (au.enc x)::ag au s ys::L):=h;rw[wI j om];cases hp:p x with
    |true=>
     refine aV O ?_;refine ih (j+1) q ys w om hys ?_ om hqy (hd1 ys hd) h.drop;rw[hq,hft,hp];simp
    |false=>
     refine aW O ?_;refine h.gn O ?_;refine⟨a,ha,om,om,h.cC.uc (s:=s) x O om ha λw h=>?_⟩;rw[wI q om];refine ih (j+1) (q+1) (ys.set q x) w om (by simpa using hys) ?_ om (by simp;omega) ?_ h.vI
     .rw[hft,hp,SO,SQ om,List.take_set_of_le (SA _),hq];simp
     .rw[List.drop_set_of_lt om];exact hd1 ys hd
  have h0:xs.take i0=(xs.take (i0+1)).filter (λx=> !p x):=by
   rw[jI xs _ i0 _ (gE hi0),hp0];simp only[Bool.not_true,qB,SL,SX]
   symm
   rw[TF];intro x hx;obtain⟨q,hq⟩:=Tg.1 hx;rw[S5]at hq;split at hq
   .rename_i hlt
    have:=hbefore q hlt;rw[gE om]at hq;cases hq;simpa using this
   .cases hq
  rw[show qj.wrap (((i0:S):U)+1)=((i0+1:S):U)from by rw[wr om om];omega];exact key (xs.length-(i0+1)) (i0+1) i0 xs w1 om O h0 om om O h
theorem ur{s:Sl}{xs:J dM}{K:Sl->Pw}[ale:bG s L dM au xs](h:Ow B w0 w L)(hbig:xs.length<=1000000)(hK:∀s' w',Ow B w0 w' (ag au s' xs::L)->K s' w'):aaL s K w:=by apply afv;exact ng (s:=s) (E:=au) (xs:=xs) (zv:= .agg ⟨au.enc Jc⟩) aj4 Bv qa qa O qb h (by rw[CV];omega) hK
abbrev O1(c:S):V:= .func (.func 415) #[] #[.q c]
abbrev OW(c:S):V:= .func (.func 416) #[] #[.q c]
theorem ny{n:U}{K:V->Pw}(h:Ow B w0 w R)(hK:∀c w',Ow B w0 w' (ae c [.z n]::R)->K (O1 c) w'):acQ n K w:=by
 apply agR;refine h.al λw1 h=>?_;exact hK _ _ h
theorem Bd{n:U}{K:V->Pw}(h:Ow B w0 w R)(hK:∀c w',Ow B w0 w' (ae c [.z n]::R)->K (OW c) w'):acR n K w:=by
 apply agS;refine h.al λw1 h=>?_;exact hK _ _ h
theorem Ss{c:S}{n:U}{l:dM}{alf:I->Pw}[ale:eB c L [.z n]](h:Ow B w0 w L)(hQ:∀w',Ow B w0 w' L->alf (l.space==n) w'):
  fP qh (O1 c) [.agg #[.z l.space,.z l.aX,.z l.frame,.z l.ar]] w λen w'=>∃r:I,en= .returned (.bool r)/\alf r w':=by
 refine aY ?_;show ado l.space l.aX l.frame l.ar c.p alf w;apply agV;refine h.a λd w1 h=>?_;exact⟨_,h.aE O,_,h.aE O,hQ _ h.drop⟩
theorem Sg{c:S}{n:U}{l:dM}{alf:I->Pw}[ale:eB c L [.z n]](h:Ow B w0 w L)(hQ:∀w',Ow B w0 w' L->alf (l.aX==n) w'):
  fP qh (OW c) [.agg #[.z l.space,.z l.aX,.z l.frame,.z l.ar]] w λen w'=>∃r:I,en= .returned (.bool r)/\alf r w':=by
 refine aY ?_;show adp l.space l.aX l.frame l.ar c.p alf w;apply agW;refine h.a λd w1 h=>?_;exact⟨_,h.aA O,_,h.aE O,hQ _ h.drop⟩
theorem CF{bs c1 c2:S}{n1 n2:U}{l:dM}{K:I->Pw}[ale:eB bs L [O1 c1,OW c2]][I1:eB c1 L [.z n1]][I2:eB c2 L [.z n2]](h:Ow B w0 w L)
  (hK:∀w',Ow B w0 w' L->K (jn n1 n2 l) w'):acP l.space l.aX l.frame l.ar ⟨X bs.p,2,2⟩ K w:=by
 apply agQ;refine h.a λd w1 h=>?_;apply afV;apply afY;have one:∀(f:V)(b:I)(w:W)(alf:I->Pw),Ow B w0 w (ae d [.z l.space,.z l.aX,.z l.frame,.z l.ar]::L)->
   (∀(w:W)(alf:I->Pw),Ow B w0 w (ae d [.z l.space,.z l.aX,.z l.frame,.z l.ar]::L)->(∀w',Ow B w0 w' (ae d [.z l.space,.z l.aX,.z l.frame,.z l.ar]::L)->alf b w')->
    fP qh f [.agg #[.z l.space,.z l.aX,.z l.frame,.z l.ar]] w λen w'=>∃r:I,en= .returned (.bool r)/\alf r w')->
   (∀w',Ow B w0 w' (ae d [.z l.space,.z l.aX,.z l.frame,.z l.ar]::L)->alf (!b) w')->
   fP qh (.func (.func 414) #[] #[.q d]) [f] w λen w'=>∃r:I,en= .returned (.bool r)/\alf r w':=λf b w alf h hf hQ=>by
  refine aY ?_;show adn f d.p alf w;apply agU;refine h.gn O ?_;exact hf w _ h hQ
 intro k hk;apply hk;refine az (show(0:U)<2 by decide) ?_;refine⟨_,O,qb,(show(0:U)<2 by decide),O1 c1,?_,?_⟩
 .have:=Ow.aA (n:=0) h (ale:=eB.tail) (b:=bs) (o:=0) (v:=O1 c1) O
  exact this
 refine one _ _ w1 _ h (λw alf h hQ=>Ss (n:=n1) h hQ) λw h=>?_;cases e1:(l.space==n1)with
 |false=>
  refine aW O ?_;have e3:jn n1 n2 l=false:=by unfold jn;rw[show qe (l.space=n1)=(l.space==n1)from O,e1];rfl
  rw[e3]at hK;exact hK w h.drop
 |true=>
  refine aV O ?_;rw[show qj.wrap ((0:U)+1)=1 from by decide];apply hk;refine az (show(1:U)<2 by decide) ?_;refine⟨_,O,qb,(show(1:U)<2 by decide),OW c2,?_,?_⟩
  .have:=Ow.aA (n:=1) h (ale:=eB.tail) (b:=bs) (o:=0) (v:=OW c2) O
   exact this
  refine one _ _ w _ h (λw alf h hQ=>Sg (n:=n2) h hQ) λw h=>?_;have e3:jn n1 n2 l=(l.aX==n2):=by unfold jn;rw[show qe (l.space=n1)=(l.space==n1)from O,e1];rfl
  rw[e3]at hK;cases e2:(l.aX==n2)with
  |false=>
   rw[e2]at hK;refine aW O ?_;exact hK w h.drop
  |true=>
   rw[e2]at hK;refine aV O ?_;rw[show qj.wrap ((1:U)+1)=2 from by decide];apply hk;refine av (show ¬(2:U)<2 by decide) ?_;exact hK w h.drop
theorem yC{b bs c1 c2:S}{room n1 n2:U}{l:J dM}{K:U->Pw}(hbig:l.length<=1000000)(h:Ow B w0 w (bu b room l::R))
  [ale:eB bs R [O1 c1,OW c2]] [I1:eB c1 R [.z n1]] [I2:eB c2 R [.z n2]]
  (hK:∀w',Ow B w0 w' (bu b room (drop n1 n2 l)::R)->K ((l.length:U)-((drop n1 n2 l).length:U)) w'):acU b.o ⟨X bs.p,2,2⟩ K w:=by
 apply agT;refine h.a λd w1 h=>?_;obtain⟨s,h⟩:=wm h.cC;have hlen:=h.aF s;refine⟨_,O,s,h.aE O,_,O,s,h.aE O,wT (s:=s) (xs:=l) (p:=λx=>jn n1 n2 x) h.cC om (λN y w alf h hQ=>?_) λs' w h=>?_⟩
 .refine aY ?_
  show adr y.space y.aX y.frame y.ar d.p alf w;apply agX;refine h.a λe w2 h=>?_;refine h.gn O ?_;exact⟨⟨X bs.p,2,2⟩,h.aE O,CF (bs:=bs) (c1:=c1) (c2:=c2) (n1:=n1) (n2:=n2) h λw h=>hQ w h.drop⟩
 .have hlen2:=h.aF s'
  have hfl:=S3 (λx=> !jn n1 n2 x) l;refine⟨_,O,h.jD O O λw h=>?_⟩;refine⟨_,O,s',h.aE O,?_⟩;rw[hlen,hlen2,wr om om];have h:Ow B w0 w (ag au s' (drop n1 n2 l)::ae b [s'.v,.z room]::ae d [.slice bs.o 2 2]::R):=h;have h:Ow B w0 w (ae b [s'.v,.z room]::ag au s' (drop n1 n2 l)::R):=h.sub;exact hK w (gK h)
theorem Cn{room:U}{K:qg qf->U->Pw}(h1:1<=room)(h2:room<=256)(h:Ow B w0 w R)(hK:∀b w',Ow B w0 w' (bu b room []::R)->K b.o 0 w'):Zj room K w:=by
 apply adH;intro k hk;refine av om ?_;apply hk;refine av om ?_;refine h.al λw1 h=>?_;exact hK _ w1 (gK (s:=z0) ((Ow.cB h).perm (List.Perm.swap _ _ _)))
theorem rL{b:S}{room n1 n2:U}{l:J dM}{K:I->Pw}(hbig:l.length<=1000000)(h:Ow B w0 w (bu b room l::R))(hK:∀v w',Ow B w0 w' (bu b room (drop n1 n2 l)::R)->K v w'):abU b.o n1 n2 K w:=by
 apply agP;refine ny h λc1 w h=>?_;refine Bd h λc2 w h=>⟨O,O,?_⟩
 refine h.a λbs w2 h=>?_;refine yC (bs:=bs) (c1:=c1) (c2:=c2) (n1:=n1) (n2:=n2) (l:=l) (room:=room) hbig (h.pick (A:=bu b room l)) λw h=>?_;exact hK _ w h.sub
theorem yF{b:S}{room:U}{l:J dM}{K:Sl->Pw}(hbig:l.length<=1000000)(h:Ow B w0 w (bu b room l::R))(hK:∀s w',Ow B w0 w' (ag au s l::bu b room l::R)->K s w'):aaT b.o K w:=by
 apply agM;obtain⟨s,h⟩:=wm h;refine⟨_,O,s,h.aE O,ur (s:=s) h hbig λs' w h=>?_⟩;have h:Ow B w0 w (ae b [s.v,.z room]::ag au s l::ag au s' l::R):=h.sub;exact hK s' w (Ow.cC (gK h))
theorem zB{b:S}{room n1 n2:U}{l:J dM}{K:U->U->I->Pw}(hbig:l.length<=1000000)(h:Ow B w0 w (bu b room l::R))
  (hK:∀w',Ow B w0 w' (bu b room l::R)->K ((look n1 n2 l).getD (0,0)).1 ((look n1 n2 l).getD (0,0)).2 (look n1 n2 l).isSome w'):abQ b.o n1 n2 K w:=by
 apply agN;refine h.a λd w1 h=>?_;obtain⟨s,h⟩:=wm h.cC;have hlen:=h.aF s;refine⟨_,O,s,h.aE O,?_⟩;intro lp hlp;have loop:∀(rest:J dM)(j:S)(w:W),l.drop j=rest->j<=l.length->(∀i,i<j->∀y,l[i]?=X y->jn n1 n2 y=qd)->Ow B w0 w (ae b [s.v,.z room]::ag au s l::ae d [.z 0,.z 0]::R)->lp (j:U) w:=by
  intro rest;induction rest with
  |nil=>
   intro j w hj hjl hno h;have:l.length<=j:=by have:=qz TO hj;simp at this;omega
   apply hlp;refine av om ?_;have hn:look n1 n2 l=none:=by
    unfold look;rw[VQ.2 λy hy=>?_]
    .rfl
    .obtain ⟨i,hi⟩:=Tg.1 hy
     rw[hno i (by have:=(Sz.1 hi).1;omega) y hi];decide
   rw[hn]at hK;refine h.aB O O λw h=>?_;refine h.aM O ?_;have h:Ow B w0 w (ae b [s.v,.z room]::ag au s l::R):=h.sub;exact hK w (gK h)
  |cons y rest ih=>
   intro j w hj hjl hno h;have hjl2:j<l.length:=by have:=qz TO hj;simp at this;omega
   have hx:l[j]?=X y:=by have:=qz (λl=>l[0]?) hj;simpa using this
   apply hlp;refine az om ?_;refine h.cd (s:=s) O hx λa ha h0 hc=>?_;refine rG hc ?_;refine h.a λe w2 h=>?_;refine h.aB O O λw h=>?_;refine h.dr λw h=>?_;refine h.gn O (Go.Vc.a2 ?_);refine ny h λc1 w h=>?_;refine h.hd O (Go.Vc.a2 ?_);refine Bd h λc2 w h=>?_;refine h.hd O (Go.Vc.a2 ⟨O,O,?_⟩);refine h.al λw3 h=>Go.Vc.a2 ?_;generalize w.heap.size=bs at h|-;refine CF (bs:=bs) (c1:=c1) (c2:=c2) (n1:=n1) (n2:=n2) (l:=y) h λw h=>?_;cases hp:jn n1 n2 y with
   |true=>
    refine aW O ?_;have hn:look n1 n2 l=X (y.frame,y.ar):=by
     unfold look;have:l.find? (jn n1 n2)=X y:=by
      rw[Vt];refine⟨hp,j,hjl2,?_,λi hi=>?_⟩
      .rw[gE hjl2]at hx;exact Option.some.inj hx
      .rw[hno i hi _ (gE om)];rfl
     rw[this];rfl
    rw[hn]at hK;refine eA (h.aM O ?_);refine h.aB O O λw h=>?_;refine h.aM O ?_;have h:Ow B w0 w (ae b [s.v,.z room]::ag au s l::R):=h.sub;exact hK w (gK h)
   |false=>
    refine aV O ?_;rw[wr om om];have h:Ow B w0 w (ae b [s.v,.z room]::ag au s l::ae d [.z 0,.z 0]::R):=h.sub;refine ih (j+1) w (by rw[<-TK,hj];rfl) om (λi hi z hz=>?_) h;by_cases e:i=j
    .subst e;rw[hx]at hz;cases hz;exact hp
    .exact hno i om z hz
 exact loop l 0 w1 O om (λi hi=>by omega) h.sub
theorem tk{b d:S}{room:U}{x:dM}{l:J dM}{K:Pw}(hbig:l.length<=1000000)(h:Ow B w0 w (bu b room l::ae d [.z x.space,.z x.aX,.z x.frame,.z x.ar]::R))
  (hK:∀w',Ow B w0 w' (bu b room (l++ [x])::R)->K w'):
  Dr w λw12=>∃a13:qf,X b.p=X a13/\∃l14:Sl,w12.cell? a13=X l14.v/\
   hI w12 d.p 0 [.o,.o,.o,.o] λ(t15:U)(t16:U)(t17:U)(t18:U)=>
   (Al w12 (.cells #[.z t15,.z t16,.z t17,.z t18] 289) λw19=>
   (∃(t20:Sl)(w21:W),dO qh [40,40] 40 l14.v (.slice (X w12.heap.size.p) 1 1) w19 t20 w21/\
   ∃a22:qf,X b.p=X a22/\(St w21 a22 t20.v λw23=>K w23)/\qu)/\qu)/\qu:=by
 refine h.dr λw h=>?_;obtain⟨s,h⟩:=wm h;refine⟨_,O,s,h.aE O,h.gn O (Go.Vc.a2 (h.al λw2 h=>Go.Vc.a2 ?_))⟩;generalize w.heap.size=e at h|-;refine sX (s:=s) (ys:=l) (y:=x) h om λs' w hs' h=>⟨_,O,Go.Vc.a2 ?_⟩
 refine h.jD O O λw h=>?_;have h:Ow B w0 w (ae b [s'.v,.z room]::ag au s' (l++ [x])::R):=h.sub;exact hK w (gK h)
theorem zA{b:S}{room:U}{x:dM}{l:J dM}{K:Pw}(hr:1<=room)(hbig:l.length<=1000000)(h:Ow B w0 w (bu b room l::R))
  (hK:∀w',Ow B w0 w' (bu b room (fill room x l)::R)->K w'):abS b.o x.space x.aX x.frame x.ar K w:=by
 apply agO;refine h.a λd w1 h=>?_;intro k7 hk7;have hdl:=kN x.space x.aX l;refine h.dr λw h=>?_;refine⟨_,h.aE O,_,h.aA O,Go.Vc.a2 (ny h λc1 w h=>?_)⟩;refine⟨h.aA O,Go.Vc.a2 (Bd h λc2 w h=>Go.Vc.a2 ⟨O,O,?_⟩)⟩;refine h.al λw2 h=>Go.Vc.a2 ?_;generalize w.heap.size=bs at h|-;refine yC (bs:=bs) (c1:=c1) (c2:=c2) (n1:=x.space) (n2:=x.aX) (l:=l) (room:=room) hbig (h.pick (A:=bu b room l)) λw h=>?_;have h:Ow B w0 w (bu b room (drop x.space x.aX l)::ae d [.z x.space,.z x.aX,.z x.frame,.z x.ar]::R):=h.sub;by_cases e:(drop x.space x.aX l).length=l.length/\room<=(l.length:U)
 .have ef:fill room x l=(drop x.space x.aX l).drop 1++ [x]:=by unfold fill;rw[Z e]
  rw[ef]at hK;refine gC om ?_;obtain⟨s,h⟩:=wm h;have hlen:=h.aF s;refine⟨_,O,s,h.aE O,_,O,h.l2 O ?_⟩;rw[qp (show(s.len:U)>=room by omega)];apply hk7;intro k10 hk10;refine aW O ?_;refine⟨_,O,s,h.aE O,Es (i:=0) (j:=1) h.cC om om om λs' w h=>⟨_,O,?_⟩⟩
  refine h.jD O O λw h=>?_;apply hk10;have h:Ow B w0 w (ae b [s'.v,.z room]::ag au s' ((drop x.space x.aX l).drop 1)::ae d [.z x.space,.z x.aX,.z x.frame,.z x.ar]::R):=h.cC;exact tk (by rw[UK];omega) (gK h) hK
 .have ef:fill room x l=drop x.space x.aX l++ [x]:=by unfold fill;rw[Y e]
  rw[ef]at hK;have no:k7 qd w:=by apply hk7;intro k10 hk10;refine aV O ?_;apply hk10;exact tk om h hK
  by_cases e1:(drop x.space x.aX l).length=l.length
  .refine gC om ?_
   obtain⟨s,h⟩:=wm h;have hlen:=h.aF s;refine⟨_,O,s,h.aE O,_,O,h.l2 O ?_⟩;rw[ql (show ¬(s.len:U)>=room by omega)];exact no
  .exact jk om no
end
end Mc
namespace ai
def mc(c:S)(bits:S):ai:=⟨[6],λ_=>Q,[],Th.eU c,SB 8 ⟨0,0,0⟩,[⟨0,bits,0⟩],[],[],[Tb.js],0,0⟩
def eI(k:ai)(i kind obj:U):ai:={ k with H:=(Sl.kc k.bits k.H (0,i) ⟨kind,obj,7,0,0,0⟩).2,T:=(Tr.pC k.T (0,i)).2}
def oJ:J U->S->ai->ai
 | [],_,k=>k
 |p::r,j,k=>oJ r (j+1) ((k.cG (((k.t.df p (j:U)).2.2.bW (k.t.df p (j:U)).1).2.bj (j:U))).eI ((2+j:S):U) 3 (k.t.df p (j:U)).1)
def vq:S->S->S->ai->ai
 |0,_,_,k=>k
 |q+1,j,i,k=>vq q (j+1) i (k.eI ((i+j:S):U) 9 (j:U))
def fQ(c bits lines:S)(prios:J U):ai:=
 vq lines 0 (3+prios.length) ((oJ prios 0 (((mc c bits).eI 0 2 0).eI 1 1 0)).eI ((2+prios.length:S):U) 8 0)
def ij(c bits lines:U)(prios:J U):I:=qe (1<=c/\c<=8/\4<=bits/\bits<=20/\0<=lines/\lines<=8/\(prios.length:U)=c/\∀p∈prios,0<=p/\p<256)
end ai
section
variable{N c:S}{k:ai}{m:Th.Mt}
theorem AD{c k:U}:(m.bj c).gA k=m.gA k:=by
 unfold Th.Mt.bj Th.Mt.pick;split
 .split
  .rfl
  .split
   .rw[Th.lD,Th.jo]
   .split
    .rfl
    .rw[Th.lD,Th.jo,Th.jq,Th.jo]
 .rfl
theorem vH{n k:U}:(m.bW n).2.gA k=m.gA k:=by
 unfold Th.Mt.bW;split
 .rfl
 split
 .rfl
 .exact Th.jq
theorem Dt{p c k:U}:(m.make p c).gA k=m.gA k:=rfl
structure oz(c n:S)(k:ai):Prop where
 ok:bD 1 k
 free:∀i:U,(n:U)<=i->k.H (0,i)=Q
 bits:k.bits= [6]
 core:∀j:U,k.t.gA j=G↔0<=j/\j<(c:U)
 sp:k.af= [Tb.js]
 u1:k.u.length=1
theorem bD.root(h:bD N k){i kind obj:U}(hi:0<=i/\i<64)(hn:k.H (0,i)=Q)(hc:Sl.cH ⟨kind,obj,7,0,0,0⟩=0)(h0:kind≠0)(ho:k.gj ⟨kind,obj,7,0,0,0⟩):
  bD N (k.eI i kind obj)/\(k.eI i kind obj).H=Sl.dj k.H (0,i) (X ⟨kind,obj,7,0,0,0⟩):=by
 have ht:((0,i):Slot).1=0/\0<=((0,i):Slot).2/\((0,i):Slot).2<64:=⟨O,hi.1,hi.2⟩
 have hput:=h.put ht hn hc h0;have hno:Tr.bM k.T (0,i)=none:=tK λe=>by rw[h.mem,hn]at e;cases e
 have hT:Tr.pC k.T (0,i)=(0,k.T++ [((0,i),0)]):=by unfold Tr.pC;rw[hno]
 have hH:(k.eI i kind obj).H=Sl.dj k.H (0,i) (X ⟨kind,obj,7,0,0,0⟩):=by unfold ai.eI;rw[hput]
 have hT2:(k.eI i kind obj).T=k.T++ [((0,i),0)]:=by unfold ai.eI;rw[hT]
 have hfew:=h.fu;refine⟨{ h with
  um:=by rw[hH];exact h.um.put (nH h.b0 ht) hc h0 mD
  held:=λs x hx=>?_
  tok:=by rw[hT2];exact h.tok.root om hno
  mem:=λs=>?_},hH⟩
 .rw[hH]at hx
  unfold Sl.dj at hx;by_cases e:s=(0,i)
  .rw[Z e]at hx;cases hx;rw[e];exact⟨ht,ho⟩
  .rw[Y e]at hx;exact h.held s x hx
 .rw[hH,hT2]
  unfold Sl.dj;rw[S0,Tv];simp only[S7,Uf,Tf];by_cases e:s=(0,i)
  .simp[e]
  .rw[Y e,<-h.mem];simp[e]
theorem oz.root{n:S}(h:oz c n k){kind obj:U}(hn:n<64)(hc:Sl.cH ⟨kind,obj,7,0,0,0⟩=0)(h0:kind≠0)(ho:k.gj ⟨kind,obj,7,0,0,0⟩):oz c (n+1) (k.eI (n:U) kind obj):=by obtain⟨h1,h2⟩:=h.ok.root (i:=(n:U)) ⟨om,om⟩ (h.free _ (VM _)) hc h0 ho;refine⟨h1,λi hi=>?_,h.bits,h.core,h.sp,h.u1⟩;rw[h2];unfold Sl.dj;rw[Y (λe=>by cases e;omega)];exact h.free i om
theorem BL{bits:S}(h8:c<=8)(hb:4<=bits/\bits<=20):oz c 0 (ai.mc c bits):=by
 refine⟨⟨O,⟨by show 1<=64;decide,λz hz=>by simp[ai.mc]at hz;subst hz;exact .inr ⟨qb,qb⟩,λs x hx=>by cases hx⟩,λs x hx=>(by cases hx),⟨by show 0<=1000000;decide,trivial,Wu⟩,λs=>by simp[ai.mc],Th.KS h8,by simp[ai.mc],λx hx hx2=>?_,λx hx=>?_,λm hm=>?_,
  by simp[ai.mc],by simp[ai.mc],by simp[ai.mc],by simp[ai.mc],UA _,UA _,λp hp=>by simp[ai.mc]at hp,λp hp=>by simp[ai.mc]at hp⟩,λi hi=>rfl,O,λj=>?_,O,O⟩
 .simp only[ai.mc,List.mem_replicate]at hx
  rw[hx.2]at hx2;exact qk O hx2
 .simp[ai.mc]at hx
  subst hx;refine⟨hb.2,?_,Nat.zero_mod _,UA _⟩;show 0+2^bits<=2^20;rw[SS];exact Ty qb hb.2
 .simp[ai.mc]at hm
  subst hm;exact Tb.fV.new
 .rw[Th.gD]
  simp[ai.mc,Th.eU]
theorem Qc{a n:U}(h0:0<=n)(h1:a≠1)(h2:a=2->n<(k.bits.length:U))(h3:a=3->n<(k.t.bK.length:U))(h4:a≠4)(h5:a≠5)(h6:a≠6)(h7:a≠7)(h8:a=8->n<(k.af.length:U))(h9:a=9->n<8):k.gj ⟨a,n,7,0,0,0⟩:=
 gO h0 (λe=>qk e h1) h2 h3 (λe=>qk e h4) (λe=>qk e h5) (λe=>qk e h6) (λe=>qk e h7) h8 h9
theorem oz.Cl{j:S}{p:U}(h:oz c (2+j) k)(hj:j<c)(h8:c<=8)(ht:k.t.bK.length=j)(hp:0<=p/\p<256):
  oz c (2+(j+1)) ((k.cG (((k.t.df p (j:U)).2.2.bW (k.t.df p (j:U)).1).2.bj (j:U))).eI ((2+j:S):U) 3 (k.t.df p (j:U)).1)/\
  ((k.cG (((k.t.df p (j:U)).2.2.bW (k.t.df p (j:U)).1).2.bj (j:U))).eI ((2+j:S):U) 3 (k.t.df p (j:U)).1).t.bK.length=j+1/\k.t.df p (j:U)=((j:U),0,k.t.make p (j:U)):=by
 have hc:k.t.gA (j:U)=true:=(h.core _).2 ⟨om,om⟩;have hm:k.t.df p (j:U)=((j:U),0,k.t.make p (j:U)):=by unfold Th.Mt.df;rw[Y (λhh=>hh ⟨hp.1,hp.2,hc⟩),Y om,ht]
 rw[hm];dsimp only;have hl:(((k.t.make p (j:U)).bW (j:U)).2.bj (j:U)).bK.length=j+1:=by rw[jt,iu];unfold Th.Mt.make;simp[ht]
 have hi:=((h.ok.inv.make (p:=p) (c:=(j:U)) om hc hp).resume (j:U)).bj (j:U);have hb:oz c (2+j) (k.cG (((k.t.make p (j:U)).bW (j:U)).2.bj (j:U))):=by refine⟨h.ok.cG hi (by rw[hl];omega),h.free,h.bits,λn=>?_,h.sp,h.u1⟩;show(((k.t.make p (j:U)).bW (j:U)).2.bj (j:U)).gA n=G↔_;rw[AD,vH,Dt];exact h.core n
 refine⟨?_,hl,O⟩;have:=hb.root (kind:=3) (obj:=(j:U)) om (jj ⟨qb,qb⟩ ⟨om,om⟩) qb (Qc om qb (λe=>qk e qb) (λ_=>by show(j:U)<((((k.t.make p (j:U)).bW (j:U)).2.bj (j:U)).bK.length:U);rw[hl];omega) qb qb qb qb (λe=>qk e qb) (λe=>qk e qb));exact this
theorem CT(h8:c<=8):∀(ps:J U)(j:S)(k:ai),j+ps.length<=c->(∀p∈ps,0<=p/\p<256)->oz c (2+j) k->k.t.bK.length=j->oz c (2+(j+ps.length)) (ai.oJ ps j k)/\(ai.oJ ps j k).t.bK.length=j+ps.length
 | [],j,k,_,_,h,ht=>⟨h,ht⟩
 |p::ps,j,k,hj,hp,h,ht=>by rw[SJ]at hj|-;obtain⟨h1,h2,_⟩:=h.Cl om h8 ht (hp p Tz);have:=CT h8 ps (j+1) _ om (λq hq=>hp q (TC _ hq)) h1 h2;rw[show j+1+ps.length=j+(ps.length+1)from by omega]at this;exact this
theorem oz.line{i j:S}(h:oz c (i+j) k)(hi:i+j<64)(hj:j<8):oz c (i+(j+1)) (k.eI ((i+j:S):U) 9 (j:U)):=
 h.root hi (jj ⟨qb,qb⟩ ⟨om,om⟩) qb (Qc om qb (λe=>qk e qb) (λe=>qk e qb) qb qb qb qb (λe=>qk e qb) (λ_=>by omega))
theorem CS:∀(q j i:S)(k:ai),j+q<=8->i<=20->oz c (i+j) k->oz c (i+(j+q)) (ai.vq q j i k)/\(ai.vq q j i k).t=k.t
 |0,j,i,k,_,_,h=>⟨h,O⟩
 |q+1,j,i,k,hj,hi,h=>by have h1:=h.line om om;have:=CS q (j+1) i _ om hi h1;rw[show j+1+q=j+(q+1)from by omega]at this;exact⟨this.1,this.2.trans O⟩
theorem xm{bits:S}(h8:c<=8)(hb:4<=bits/\bits<=20):oz c 1 ((ai.mc c bits).eI 0 2 0)/\oz c 2 (((ai.mc c bits).eI 0 2 0).eI 1 1 0):=by have h0:=BL h8 hb;have h1:=h0.root (kind:=2) (obj:=0) qb (jj ⟨qb,qb⟩ ⟨qb,qb⟩) qb (Qc qb qb (λ_=>by show(0:U)<1;decide) (λe=>qk e qb) qb qb qb qb (λe=>qk e qb) (λe=>qk e qb));have h2:=h1.root (kind:=1) (obj:=0) qb (jj ⟨qb,qb⟩ ⟨qb,qb⟩) qb (gO qb (λ_=>by show(0:U)<1;decide) (λe=>qk e qb) (λe=>qk e qb) (λe=>qk e qb) (λe=>qk e qb) (λe=>qk e qb) (λe=>qk e qb) (λe=>qk e qb) (λe=>qk e qb));exact⟨h1,h2⟩
theorem oz.space{i:S}(h:oz c i k)(hi:i<64):oz c (i+1) (k.eI (i:U) 8 0):=
 h.root hi (jj ⟨qb,qb⟩ ⟨qb,qb⟩) qb (Qc qb qb (λe=>qk e qb) (λe=>qk e qb) qb qb qb qb (λ_=>by rw[h.sp];decide) (λe=>qk e qb))
theorem JJ{bits lines:S}{prios:J U}(h8:c<=8)(hb:4<=bits/\bits<=20)(hl:lines<=8)(hp:prios.length=c)(hps:∀p∈prios,0<=p/\p<256):
  oz c (3+c+lines) (ai.fQ c bits lines prios)/\(ai.fQ c bits lines prios).t.bK.length=c:=by
 obtain⟨_,h2⟩:=xm h8 hb;obtain⟨h3,h4⟩:=CT h8 prios 0 _ om hps h2 O;rw[SS]at h3 h4;have h5:=h3.space om;have h6:=CS lines 0 (3+prios.length) _ om om (show oz c (3+prios.length+0) _ from by rw[show 3+prios.length+0=2+prios.length+1 from by omega];exact h5);refine⟨?_,?_⟩
 .have:=h6.1
  rw[show 3+prios.length+(0+lines)=3+c+lines from by omega]at this;exact this
 .show (ai.vq _ _ _ _).t.bK.length=c
  rw[h6.2];exact h4.trans hp
end
section
variable{B:S}{w0 w:W}{R L:J aG}{b nb nt bd bk:S}{k:ai}{N:S}{s:Sl}
theorem rE{p:U->I}{f:V}{xs:J U}{K:U->Pw}[ale:bG s L U ax xs](h:Ow B w0 w L)(hbig:xs.length<=1000000000)
  (hf:∀(y:U)(w:W)(alf:I->Pw),y∈xs->Ow B w0 w L->(∀w',Ow B w0 w' L->alf (p y) w')->fP qh f [.z y] w λen w'=>∃r:I,en= .returned (.bool r)/\alf r w')
  (hK:∀w',Ow B w0 w' L->K (eC p xs) w'):XW s f K w:=by
 apply adG;have hlen:s.len=xs.length:=h.aF s;intro l hl;have loop:∀m j w,j+m=xs.length->(∀i,i<j->∀z,xs[i]?=X z->p z=qd)->Ow B w0 w L->l (j:U) w:=by
  intro m;induction m with
  |zero=>
   intro j w hj hno h;apply hl;refine av om ?_;have hn:xs.findIdx? p=none:=by rw[Tt];intro y hy;obtain⟨i,hi⟩:=Tg.1 hy;exact hno i (by have:=(Sz.1 hi).1;omega) y hi
   have e:eC p xs= -1:=by unfold eC;rw[hn]
   rw[<-e];exact hK _ h
  |succ m ih=>
   intro j w hj hno h;have hx:xs[j]?=X xs[j]:=gE om;apply hl;refine az om ?_;refine h.cd (s:=s) O hx λa ha h0 hc=>?_;refine⟨_,h0 _ O,hf xs[j] w _ (Tq _) h λw h=>?_⟩;cases hp:p xs[j]with
   |true=>
    refine aW O ?_;have hn:xs.findIdx? p=X j:=by rw[Tc];refine⟨om,hp,λi hi=>?_⟩;have:=hno i hi xs[i] (gE om);simp[this]
    have e:eC p xs=(j:U):=by unfold eC;rw[hn]
    rw[<-e];exact hK _ h
   |false=>
    refine aV O ?_;rw[wr om om];refine ih (j+1) w om (λi hi z hz=>?_) h;by_cases e:i=j
    .subst e;rw[hx]at hz;cases hz;exact hp
    .exact hno i om z hz
 exact loop xs.length 0 w om (λi hi=>by omega) h
theorem FO{c bits lines:U}{prios:J U}{K:I->Pw}[ale:bG s L U ax prios](h:Ow B w0 w L)(hbig:prios.length<=1000000000)
  (hK:∀w',Ow B w0 w' L->K (ai.ij c bits lines prios) w'):YA c bits lines s K w:=by
 apply agu;have hlen:s.len=prios.length:=h.aF s;refine h.a λcb w1 h=>?_;intro k6 hk6;have hno:∀{w},¬(1<=c/\c<=8/\4<=bits/\bits<=20/\0<=lines/\lines<=8)->Ow B w0 w (ae cb [.z c,.z bits,.z lines,s.v]::L)->k6 qd w:=λ{w}hb h=>by apply hk6;refine aV O ?_;have:=hK w h.drop;rw[show ai.ij c bits lines prios=qd from ql λhh=>hb ⟨hh.1,hh.2.1,hh.2.2.1,hh.2.2.2.1,hh.2.2.2.2.1,hh.2.2.2.2.2.1⟩]at this;exact this
 have hyes:∀{w},(1<=c/\c<=8/\4<=bits/\bits<=20/\0<=lines/\lines<=8)->Ow B w0 w (ae cb [.z c,.z bits,.z lines,s.v]::L)->k6 G w:=λ{w}hb h=>by
  apply hk6;refine aW O ?_;refine⟨s,h.aA O,h.l1 O (dW (λe=>?_) (λe=>?_))⟩
  .refine ⟨s,h.aA O,?_⟩
   apply adF;refine rE (p:=λy=>qe (y<0)||qe (y>=256)) h hbig (λy w alf _ h hQ=>aY ?_) λw h=>?_
   .show ZE y alf w
    apply agD;have:=hQ w h;refine bh (λe=>?_) (λe=>?_)
    .rw[qp e,Bool.true_or]at this;exact this
    .rw[ql e,Vq]at this;exact this
   .have:=hK w h.drop
    rw[kT];have e2:ai.ij c bits lines prios= !(prios.any λy=>qe (y<0)||qe (y>=256)):=by
     unfold ai.ij;rw[UF];simp only[qF,Vk,Uv,TV,not_or];obtain⟨b1,b2,b3,b4,b5,b6⟩:=hb;constructor
     .rintro ⟨_,_,_,_,_,_,_,hp⟩ y hy
      have:=hp y hy;omega
     .intro hp
      refine⟨b1,b2,b3,b4,b5,b6,om,λy hy=>?_⟩;have:=hp y hy;omega
    rw[e2]at this;exact this
  .have:=hK w h.drop
   rw[show ai.ij c bits lines prios=qd from ql λhh=>by have:=hh.2.2.2.2.2.2.1;omega]at this;exact this
 refine h.l1 O ?_;refine bh (λe1=>?_) (λe1=>hno om h);refine h.l1 O ?_;refine bh (λe2=>?_) (λe2=>hno om h);refine h.l2 O ?_;refine bh (λe3=>?_) (λe3=>hno om h);refine h.l2 O ?_;refine bh (λe4=>?_) (λe4=>hno om h);refine h.l2 O ?_;refine bh (λe5=>?_) (λe5=>hno om h);refine h.l2 O ?_;by_cases e6:lines<=8
 .rw[qp e6];exact hyes om h
 .rw[ql e6];exact hno om h
def rO(b nb nt:S)(k:ai):aG:=oA λx:Kx=>aQ [ae b (cr x k.aU k.cP nb nt),Sl.aC x.n k.bits k.H,Tr.cg x.tr k.T,Th.bJ x.t k.t,bS x.ln k.ln,ag dV x.su k.u,ag bw x.se x.pe,aq da x.pe k.ends,ag bw x.sn x.pn,aq cu x.pn k.notes,ag bw x.ss x.ps,aq Tb.bP x.ps k.af]
theorem PB(h:Ow B w0 w (rO b nb nt k::R)):∃x:Kx,Ow B w0 w (ae b (cr x k.aU k.cP nb nt)::Sl.aC x.n k.bits k.H::Tr.cg x.tr k.T::Th.bJ x.t k.t::bS x.ln k.ln::ag dV x.su k.u::ag bw x.se x.pe::aq da x.pe k.ends::ag bw x.sn x.pn::aq cu x.pn k.notes::ag bw x.ss x.ps::aq Tb.bP x.ps k.af::R):=by obtain⟨x,h⟩:=Ow.ex h;exact⟨x,h.star⟩
theorem BH(x:Kx){bits:J U}{H:Sl.Hs}{T:Tr.Tr}{t:Th.Mt}{ln:y7}{u:J sV}{ends:J fp}{notes:J rB}{af:J Tb.dS}{fr tb:S}
  (h:Ow B w0 w (ae b (cr x fr tb nb nt)::Sl.aC x.n bits H::Tr.cg x.tr T::Th.bJ x.t t::bS x.ln ln::ag dV x.su u::ag bw x.se x.pe::aq da x.pe ends::ag bw x.sn x.pn::aq cu x.pn notes::ag bw x.ss x.ps::aq Tb.bP x.ps af::R)):
  Ow B w0 w (rO b nb nt ⟨bits,H,T,t,ln,u,ends,notes,af,fr,tb⟩::R):=Ow.eu x (Ow.aR h)
theorem Ks(h:Ow B w0 w (rO b nb nt k::R)):∃(bt:S)(ala:aG),Ow B w0 w (Th.bJ bt k.t::ala::R)/\w.cell? (b.p.add 2)=X (.q bt)/\
  (∀R' w',Ow B w0 w' (Th.bJ bt k.t::ala::R')->w'.cell? (b.p.add 2)=X (.q bt))/\
  (∀R' w' t,Ow B w0 w' (Th.bJ bt t::ala::R')->w'.cell? (b.p.add 2)=X (.q bt)/\Ow B w0 w' (rO b nb nt (k.cG t)::R')):=by
 obtain⟨x,h⟩:=PB h;have hback:∀R' w' t,Ow B w0 w' (Th.bJ x.t t::aQ [ae b (cr x k.aU k.cP nb nt),Sl.aC x.n k.bits k.H,Tr.cg x.tr k.T,bS x.ln k.ln,ag dV x.su k.u,ag bw x.se x.pe,aq da x.pe k.ends,ag bw x.sn x.pn,aq cu x.pn k.notes,ag bw x.ss x.ps,aq Tb.bP x.ps k.af]::R')->w'.cell? (b.p.add 2)=X (.q x.t)/\Ow B w0 w' (rO b nb nt (k.cG t)::R'):=λR' w' t h=>by have h:Ow B w0 w' (ae b (cr x k.aU k.cP nb nt)::Sl.aC x.n k.bits k.H::Tr.cg x.tr k.T::bS x.ln k.ln::ag dV x.su k.u::ag bw x.se x.pe::aq da x.pe k.ends::ag bw x.sn x.pn::aq cu x.pn k.notes::ag bw x.ss x.ps::aq Tb.bP x.ps k.af::Th.bJ x.t t::R'):=(h.cC).star;exact⟨h.aA O,(show Ow B w0 w' (rO b nb nt (k.cG t)::R')from BH x h.sub)⟩
 have h1:Ow B w0 w (Th.bJ x.t k.t::aQ [ae b (cr x k.aU k.cP nb nt),Sl.aC x.n k.bits k.H,Tr.cg x.tr k.T,bS x.ln k.ln,ag dV x.su k.u,ag bw x.se x.pe,aq da x.pe k.ends,ag bw x.sn x.pn,aq cu x.pn k.notes,ag bw x.ss x.ps,aq Tb.bP x.ps k.af]::R):=Ow.cC (Ow.aR (show Ow B w0 w (ae b (cr x k.aU k.cP nb nt)::Sl.aC x.n k.bits k.H::Tr.cg x.tr k.T::bS x.ln k.ln::ag dV x.su k.u::ag bw x.se x.pe::aq da x.pe k.ends::ag bw x.sn x.pn::aq cu x.pn k.notes::ag bw x.ss x.ps::aq Tb.bP x.ps k.af::Th.bJ x.t k.t::R)from h.sub));exact⟨x.t,_,h1,(hback R w k.t h1).1,λR' w' h=>(hback R' w' k.t h).1,hback⟩
theorem mQ{i kind obj:U}{K:U->Pw}(hT:k.T.length<1000000)(h:Ow B w0 w (rO b nb nt k::R))(hK:∀w',Ow B w0 w' (rO b nb nt (k.eI i kind obj)::R)->K (qj.wrap (i+1)) w'):YH b.o i kind obj K w:=by
 apply agv;refine h.a λc w1 h=>?_;refine h.aB O O λw h=>?_;obtain⟨x,h⟩:=PB (h.pick (A:=rO b nb nt k));refine h.dr λw h=>?_;refine⟨_,O,h.l1 O (h.aM O ⟨Sl.jQ (s:=(0,i)) (c:=⟨kind,obj,7,0,0,0⟩) mD (h.pick (A:=Sl.aC x.n k.bits k.H)) λw h=>?_,trivial⟩)⟩;refine h.dr λw h=>?_;refine⟨_,O,h.l2 O (h.aM O ⟨Tr.yI (s:=(0,i)) hT (h.pick (A:=Tr.cg x.tr k.T)) λw h=>?_,trivial⟩)⟩;refine hK w ?_;exact(show Ow B w0 w (rO b nb nt (k.eI i kind obj)::R)from BH x h.sub)
theorem Fb{t:Th.Mt}{bt:S}{p c:U}{K:U->U->Pw}(hm:Th.dn t)(h:Ow B w0 w (Th.bJ bt t::R))(hK:∀w',Ow B w0 w' (Th.bJ bt (t.df p c).2.2::R)->K (t.df p c).1 (t.df p c).2.1 w'):Wg bt.o p c K w:=by
 unfold Th.Mt.df at hK;refine Th.rK hm h (λe w h=>?_) (λe e1 w h=>?_) (λe e1 w h=>?_)
 .rw[Z e]at hK;exact hK w h
 .rw[Y (λhh=>hh e),Z e1]at hK;exact hK w h
 .rw[Y (λhh=>hh e),Y om]at hK;exact hK w h
theorem zF{c bits lines:U}{prios:J U}{K:qg qf->U->Pw}[ale:bG s L U ax prios](h:Ow B w0 w L)(hbig:prios.length<=1000000000)
  (hK0:ai.ij c bits lines prios=qd->∀w',Ow B w0 w' L->K Q 1 w')
  (hK1:ai.ij c bits lines prios=G->∀b w',Ow B w0 w' (ao b (ai.fQ c.toNat bits.toNat lines.toNat prios)::L)->K b.o 0 w'):Yj c bits lines s K w:=by
 apply agp;refine h.a λcb w1 h=>?_;refine h.gn O ?_;refine FO (s:=s) h hbig λw h=>?_;cases hr:ai.ij c bits lines prios with
 |false=>exact aW O (hK0 hr w h.drop)
 |true=>
 have hK:=hK1 hr;clear hK0 hK1;obtain⟨b1,b2,b3,b4,b5,b6,b7,b8⟩:=of_decide_eq_true hr;clear hr;obtain⟨c,rfl⟩:=SI (show 0<=c by omega);obtain⟨bits,rfl⟩:=SI (show 0<=bits by omega);obtain⟨lines,rfl⟩:=SI b5;have b2:c<=8:=om
 have b9:4<=bits/\bits<=20:=⟨om,om⟩
 have b6:lines<=8:=om
 have b7:prios.length=c:=om
 simp only[SD]at hK;have hlen:s.len=prios.length:=(h.drop).aF s;refine aV O ?_;intro k12 hk12;have fin:∀(kb n tr ub sp pb:S)(w:W),Ow B w0 w (ae kb [.q n,.q tr,.pointer Q,.pointer Q,.slice ub.o 1 1,.slice Q 0 0,.slice Q 0 0,.slice pb.o 1 1,.z 0,.z 0,.z 1,.z c]::Sl.aC n [] (λ_=>Q)::Tr.cg tr []::ae ub [.y 0,.z bits,.y 0]::Tb.bP sp Tb.js::ae pb [.q sp]::ae cb [.z c,.z bits,.z lines,s.v]::L)->k12 kb.o w:=λkb n tr ub sp pb w h=>by
  apply hk12;refine h.l1 O ?_;refine Th.Ck h (λe=>qk ⟨om,om⟩ e) λcc ecc _ _ bt w h=>?_;obtain rfl:c=cc:=om
  refine⟨_,O,h.fD O O λw h=>?_⟩;refine Bx h λbl w h=>?_;refine⟨_,O,h.fD O O λw h=>?_⟩;refine⟨_,O,h.l1 O (Sl.je (h.pick (A:=Sl.aC n [] (λ_=>Q))) λw h=>?_)⟩;have h:=(h.pick (A:=ae ub [.y 0,.z bits,.y 0])).CO (E:=dV) [⟨0,bits,0⟩] O;have h:=(h.pick (A:=ae pb [.q sp])).CO (E:=bw) [sp] O;have h:=Ow.ic (A:=da) (ps:=[]) (xs:=[]) O h;have h:=Ow.cB (E:=bw) h;have h:=Ow.ic (A:=cu) (ps:=[]) (xs:=[]) O h;have h:=Ow.cB (E:=bw) h;have h:=Ow.ic (A:=Tb.bP) (ps:=[sp]) (xs:=[Tb.js]) O (h.pick (A:=Tb.bP sp Tb.js));have h:Ow B w0 w (aq Tb.bP [sp] [Tb.js]::ag bw z0 []::aq cu [] []::ag bw z0 []::aq da [] []::ag bw ⟨X pb.p,1,1⟩ [sp]::ag dV ⟨X ub.p,1,1⟩ [⟨0,bits,0⟩]::Sl.aC n [6] (λ_=>Q)::bS bl (SB 8 ⟨0,0,0⟩)::Th.bJ bt (Th.eU c)::ae kb [.q n,.q tr,.q bt,.q bl,.slice ub.o 1 1,.slice Q 0 0,.slice Q 0 0,.slice pb.o 1 1,.z 0,.z 0,.z 1,.z c]::Tr.cg tr []::ae cb [.z c,.z bits,.z lines,s.v]::L):=h;have h:Ow B w0 w (ae kb [.q n,.q tr,.q bt,.q bl,.slice ub.o 1 1,.slice Q 0 0,.slice Q 0 0,.slice pb.o 1 1,.z 0,.z 0,.z 1,.z c]::Sl.aC n [6] (λ_=>Q)::Tr.cg tr []::Th.bJ bt (Th.eU c)::bS bl (SB 8 ⟨0,0,0⟩)::ag dV ⟨X ub.p,1,1⟩ [⟨0,bits,0⟩]::ag bw z0 []::aq da [] []::ag bw z0 []::aq cu [] []::ag bw ⟨X pb.p,1,1⟩ [sp]::aq Tb.bP [sp] [Tb.js]::ae cb [.z c,.z bits,.z lines,s.v]::L):=h.sub;have h:Ow B w0 w (rO kb 1 c (ai.mc c bits)::ae cb [.z c,.z bits,.z lines,s.v]::L):=BH ⟨n,tr,bt,bl,⟨X ub.p,1,1⟩,z0,z0,⟨X pb.p,1,1⟩,[],[],[sp]⟩ h;have g0:=BL (c:=c) b2 b9;obtain⟨g1,g2⟩:=xm (c:=c) b2 b9;have fu:∀{m:S}{k:ai},oz c m k->k.T.length<1000000:=λg=>by have:=g.ok.fu;omega
  refine mQ (i:=0) (kind:=2) (obj:=0) (fu g0) h λw h=>?_;rw[show qj.wrap (0+1)=1 from by decide];refine mQ (i:=1) (kind:=1) (obj:=0) (fu g1) h λw h=>?_;rw[show qj.wrap (1+1)=2 from by decide];refine⟨s,h.aA O,?_⟩;intro l36 hl36;have loop:∀(ps:J U)(j:S)(k:ai)(w:W),prios.drop j=ps->j+ps.length=c->oz c (2+j) k->k.t.bK.length=j->ai.oJ ps j k=ai.oJ prios 0 (((ai.mc c bits).eI 0 2 0).eI 1 1 0)->
    Ow B w0 w (rO kb 1 c k::ae cb [.z c,.z bits,.z lines,s.v]::L)->l36 ((2+j:S):U) (j:U) w:=by
   intro ps;induction ps with
   |nil=>
    intro j k w hd hj g ht he h;have hj:j=c:=hj;have he:k=_:=he;apply hl36;refine av om ?_;refine mQ (i:=((2+j:S):U)) (kind:=8) (obj:=0) (fu g) h λw h=>?_;refine h.l2 O ?_;intro l61 hl61;have g3:=g.space om;have lines_loop:∀(q t:S)(k:ai)(w:W),t+q=lines->oz c (3+c+t) k->ai.vq q t (3+prios.length) k=ai.fQ c bits lines prios->k.t.bK.length=c->Ow B w0 w (rO kb 1 c k::ae cb [.z c,.z bits,.z lines,s.v]::L)->l61 ((3+c+t:S):U) (t:U) w:=by
     intro q;induction q with
     |zero=>
      intro t k w hq g he ht h;have he:k=ai.fQ c bits lines prios:=he;apply hl61;refine av om ?_;refine hK kb w ?_;rw[<-he];have h2:rO kb 1 c k=ao kb k:=by unfold rO ao;rw[ht,g.bits];rfl
      rw[h2]at h;exact h.sub
     |succ q ih=>
      intro t k w hq g he ht h;apply hl61;refine az om ?_;refine mQ (i:=((3+c+t:S):U)) (kind:=9) (obj:=(t:U)) (fu g) h λw h=>?_;rw[show qj.wrap (((3+c+t:S):U)+1)=((3+c+(t+1):S):U)from by rw[wr om om];omega,
       show qj.wrap ((t:U)+1)=((t+1:S):U)from by rw[wr om om];omega]
      refine ih (t+1) _ w om (g.line om om) ?_ ht h;rw[<-he,b7];rfl
    have hi:qj.wrap (((2+j:S):U)+1)=((3+c+0:S):U):=by rw[wr om om];omega
    rw[hi];refine lines_loop lines 0 (k.eI ((2+j:S):U) 8 0) w om (show oz c (3+c+0) (k.eI ((2+j:S):U) 8 0)from by rw[show 3+c+0=2+j+1 from by omega];exact g3) ?_ (ht.trans hj) h;unfold ai.fQ;rw[<-he,hj,b7]
   |cons p ps ih=>
    intro j k w hd hj g ht he h;rw[SJ]at hj;have hx:prios[j]?=X p:=by have:=qz (λl=>l[0]?) hd;simpa using this
    have hp:0<=p/\p<256:=b8 p (SU hx);obtain⟨g3,g4,g5⟩:=g.Cl om b2 ht hp;apply hl36;refine az om ?_;refine h.cd (s:=s) (i:=(j:U)) (j:=j) O hx λa ha h0 hcc=>⟨_,h0 _ O,?_⟩
    obtain⟨bt,ala,h,hc2,_,hback⟩:=Ks h;refine⟨_,O,_,hc2,Fb g.ok.inv.ok h λw h=>?_⟩;refine⟨_,O,_,(hback _ w _ h).1,?_⟩;have i1:=g.ok.inv.df p (j:U);refine Th.yg i1.ok h λw h=>?_;refine⟨_,O,_,(hback _ w _ h).1,Th.jE (i1.resume _).ok h λw h=>?_⟩;have h:=(hback _ w _ h).2;refine mQ (k:=k.cG (((k.t.df p (j:U)).2.2.bW (k.t.df p (j:U)).1).2.bj (j:U))) (i:=((2+j:S):U)) (kind:=3) (obj:=(k.t.df p (j:U)).1) (show k.T.length<1000000 from fu g) h λw h=>?_;rw[show qj.wrap (((2+j:S):U)+1)=((2+(j+1):S):U)from by rw[wr om om];omega,
     show qj.wrap ((j:U)+1)=((j+1:S):U)from by rw[wr om om];omega]
    refine ih (j+1) _ w ?_ om g3 g4 (he▸rfl) h;rw[<-TK,hd];rfl
  exact loop prios 0 _ w O om g2 O O h
 refine h.dr λw h=>?_;refine⟨_,h.aA O,_,h.aE O,?_,?_,trivial⟩
 .refine Sl.pH h λn w h=>?_
  refine⟨h.aE O,h.aA O,?_,?_,trivial⟩
  .refine Tr.mu h λtr w h=>?_
   refine⟨h.aE O,h.aA O,?_,?_,trivial⟩
   .refine h.a λub v1 h=>?_;refine⟨Tb.jF h λsp w h=>?_,trivial⟩
    refine⟨h.aE O,h.al λv2 h=>⟨?_,trivial⟩,trivial⟩
    generalize w.heap.size=pb at h|-;refine h.a λkb v3 h=>?_;exact fin kb n tr ub sp pb _ h.sub
   .refine Tb.jF h λsp w h=>?_
    refine⟨h.aE O,h.aA O,?_,?_,trivial⟩
    .refine h.al λv1 h=>⟨?_,trivial⟩
     generalize w.heap.size=ub at h|-;refine h.al λv2 h=>⟨?_,trivial⟩
     generalize v1.heap.size=pb at h|-;refine h.a λkb v3 h=>?_;exact fin kb n tr ub sp pb _ h.sub
    .refine h.al λv1 h=>⟨?_,trivial⟩
     generalize w.heap.size=pb at h|-;refine h.al λv2 h=>⟨?_,trivial⟩
     generalize v1.heap.size=ub at h|-;refine h.a λkb v3 h=>?_;exact fin kb n tr ub sp pb _ h.sub
  .refine h.al λv1 h=>⟨?_,trivial⟩
   generalize w.heap.size=ub at h|-;refine Tr.mu h λtr w h=>?_;refine⟨h.aE O,Tb.jF h λsp w h=>?_,trivial⟩;refine⟨h.aE O,h.al λv2 h=>⟨?_,trivial⟩,trivial⟩
   generalize w.heap.size=pb at h|-;refine h.a λkb v3 h=>?_;exact fin kb n tr ub sp pb _ h.sub
 .refine h.al λv1 h=>⟨?_,trivial⟩
  generalize w.heap.size=ub at h|-;refine Sl.pH h λn w h=>?_;refine⟨h.aE O,Tr.mu h λtr w h=>?_,trivial⟩;refine⟨h.aE O,Tb.jF h λsp w h=>?_,trivial⟩;refine⟨h.aE O,h.al λv2 h=>⟨?_,trivial⟩,trivial⟩
  generalize w.heap.size=pb at h|-;refine h.a λkb v3 h=>?_;exact fin kb n tr ub sp pb _ h.sub
theorem Pz(a b:Slot × dB):rC qh 9 201 (Sl.eM.enc a) (Sl.eM.enc b)=X (qe (a=b)):=by
 have h:rC qh 9 201 (Sl.eM.enc a) (Sl.eM.enc b)=X ((a.1.1==b.1.1&&(a.1.2==b.1.2&&G))&&((a.2.kind==b.2.kind&&(a.2.obj==b.2.obj&&(a.2.ar==b.2.ar&&(a.2.aD==b.2.aD&&(a.2.guard==b.2.guard&&(a.2.bits==b.2.bits&&G))))))&&G)):=qa
 rw[h];congr 1;rw[UF];simp only[Vp,S4,qN,qF];obtain⟨⟨a1,a2⟩,a3⟩:=a;obtain⟨⟨b1,b2⟩,b3⟩:=b;cases a3;cases b3;simp only[Prod.mk.injEq,Sl.dB.mk.injEq]
theorem Ob{x y:qD}(a b:Slot × dB):LY qh .neq 201 x y (.agg ⟨Sl.eM.enc a⟩) (.agg ⟨Sl.eM.enc b⟩) (!decide (a=b)):=KR qa qa qa (Pz a b)
theorem PC(a b:U × Tb.Pg):rC qh 9 204 (Tb.aP.enc a) (Tb.aP.enc b)=X (qe (a=b)):=by
 have h:rC qh 9 204 (Tb.aP.enc a) (Tb.aP.enc b)=X (a.1==b.1&&((a.2.1==b.2.1&&(a.2.2==b.2.2&&G))&&G)):=qa
 rw[h];congr 1;rw[UF];simp only[Vp,S4,qN,qF];obtain⟨a1,a2,a3⟩:=a;obtain⟨b1,b2,b3⟩:=b;simp only[Prod.mk.injEq]
theorem Og{x y:qD}(a b:U × Tb.Pg):LY qh .neq 204 x y (.agg ⟨Tb.aP.enc a⟩) (.agg ⟨Tb.aP.enc b⟩) (!decide (a=b)):=KR qa qa qa (PC a b)
theorem z6{α:Type}{xs ys:J α}(hl:xs.length=ys.length)(h:∀i,i<xs.length->xs[i]?=ys[i]?):xs=ys:=Td λi=>by
 by_cases e:i<xs.length
 .exact h i e
 .rw[SZ om,SZ om]
theorem vZ{s t:Sl}{xs ys:J (Slot × dB)}{K:I->Pw}(h:Ow B w0 w L)(hr1:Rd Sl.eM B w0 L s xs)(hr2:Rd Sl.eM B w0 L t ys)(hs:xs.length<=1000000)(hK:∀w',Ow B w0 w' L->K (qe (xs=ys)) w'):VV s t K w:=by
 apply aiR;have l1:=hr1.len;have l2:=hr2.len;by_cases e:xs.length=ys.length
 .refine aV (by simp;omega) ?_
  intro l3 hl3;have loop:∀(j i:S)(w:W),i+j=xs.length->(∀k,k<i->xs[k]?=ys[k]?)->Ow B w0 w L->l3 (i:U) w:=by
   intro j;induction j with
   |zero=>
    intro i w hi hb h;apply hl3;refine av om ?_;have:xs=ys:=z6 e λk hk=>hb k om;have hk:=hK w h
    rwa [qp this]at hk
   |succ j ih=>
    intro i w hi hb h;apply hl3;refine az om ?_;refine h.dr λw h=>?_;have hx:xs[i]?=X xs[i]:=gE om;have hy:ys[i]?=X (ys[i]'om):=gE om;refine hr1.ix h O hx λa ha h0 hc=>⟨_,hc 0 _ O,_,hc 1 _ O,_,hc 2 _ O,_,hc 3 _ O,_,hc 4 _ O,_,hc 5 _ O,_,hc 6 _ O,_,hc 7 _ O,?_⟩
    refine hr2.ix h O hy λa ha h0 hc=>⟨_,hc 0 _ O,_,hc 1 _ O,_,hc 2 _ O,_,hc 3 _ O,_,hc 4 _ O,_,hc 5 _ O,_,hc 6 _ O,_,hc 7 _ O,?_⟩
    refine⟨_,Ob xs[i] (ys[i]'om),?_⟩;by_cases e2:xs[i]=ys[i]'om
    .refine aV (by simpa using e2) ?_
     rw[wI i om];refine ih (i+1) w om (λk hk=>?_) h;by_cases e3:k=i
     .subst e3;rw[hx,hy,e2]
     .exact hb k om
    .refine aW (by simpa using e2) ?_
     have:xs≠ys:=λe3=>by
      have:xs[i]?=ys[i]?:=by rw[e3]
      rw[hx,hy]at this;exact e2 (by simpa using this)
     have hk:=hK w h
     rwa [ql this]at hk
  exact loop xs.length 0 w om (λk hk=>by omega) h
 .refine aW (by simp;omega) ?_
  have:xs≠ys:=λe2=>e (by rw[e2]);have hk:=hK w h
  rwa [ql this]at hk
theorem wc{s t:Sl}{xs ys:J (U × Tb.Pg)}{K:I->Pw}(h:Ow B w0 w L)(hr1:Rd Tb.aP B w0 L s xs)(hr2:Rd Tb.aP B w0 L t ys)(hs:xs.length<=1000000)(hK:∀w',Ow B w0 w' L->K (qe (xs=ys)) w'):VH s t K w:=by
 apply ai7;have l1:=hr1.len;have l2:=hr2.len;by_cases e:xs.length=ys.length
 .refine aV (by simp;omega) ?_
  intro l3 hl3;have loop:∀(j i:S)(w:W),i+j=xs.length->(∀k,k<i->xs[k]?=ys[k]?)->Ow B w0 w L->l3 (i:U) w:=by
   intro j;induction j with
   |zero=>
    intro i w hi hb h;apply hl3;refine av om ?_;have:xs=ys:=z6 e λk hk=>hb k om;have hk:=hK w h
    rwa [qp this]at hk
   |succ j ih=>
    intro i w hi hb h;apply hl3;refine az om ?_;refine h.dr λw h=>?_;have hx:xs[i]?=X xs[i]:=gE om;have hy:ys[i]?=X (ys[i]'om):=gE om;refine hr1.ix h O hx λa ha h0 hc=>⟨_,hc 0 _ O,_,hc 1 _ O,_,hc 2 _ O,?_⟩
    refine hr2.ix h O hy λa ha h0 hc=>⟨_,hc 0 _ O,_,hc 1 _ O,_,hc 2 _ O,?_⟩
    refine⟨_,Og xs[i] (ys[i]'om),?_⟩;by_cases e2:xs[i]=ys[i]'om
    .refine aV (by simpa using e2) ?_
     rw[wI i om];refine ih (i+1) w om (λk hk=>?_) h;by_cases e3:k=i
     .subst e3;rw[hx,hy,e2]
     .exact hb k om
    .refine aW (by simpa using e2) ?_
     have:xs≠ys:=λe3=>by
      have:xs[i]?=ys[i]?:=by rw[e3]
      rw[hx,hy]at this;exact e2 (by simpa using this)
     have hk:=hK w h
     rwa [ql this]at hk
  exact loop xs.length 0 w om (λk hk=>by omega) h
 .refine aW (by simp;omega) ?_
  have:xs≠ys:=λe2=>e (by rw[e2]);have hk:=hK w h
  rwa [ql this]at hk
theorem Ol(a:dM):rC qh 9 289 (au.enc a) (au.enc a)=X true:=by
 have h:rC qh 9 289 (au.enc a) (au.enc a)=X (a.space==a.space&&(a.aX==a.aX&&((a.frame==a.frame&&(a.ar==a.ar&&G))&&G))):=qa
 rw[h];simp
theorem GD{x y:qD}(a:dM):LY qh .neq 289 x y (.agg ⟨au.enc a⟩) (.agg ⟨au.enc a⟩) false:=
 KR (x:=x) (y:=y) (P:=qh) (t:=289) (xs:=au.enc a) (ys:=au.enc a) qa qa qa (Ol a)
theorem Lb{s t:Sl}{xs:J U}{K:I->Pw}[bG s L U ax xs][bG t L U ax xs](hs:xs.length<=1000000000)(h:Ow B w0 w L)(hK:∀w',Ow B w0 w' L->K G w'):Xg s t K w:=by
 apply ahK;have l1:=h.aF s;have l2:=h.aF t;refine fh om ?_;intro l hl;have loop:∀(m j:S)(w:W),j+m=xs.length->Ow B w0 w L->l (j:U) w:=by
  intro m;induction m with
  |zero=>intro j w hj h;apply hl;exact av om (hK w h)
  |succ m ih=>
   intro j w hj h;have hx:xs[j]?=X xs[j]:=gE om;apply hl;refine az om ?_;refine h.dr λw h=>?_;refine h.cd (s:=s) O hx λa ha h0 hc=>⟨_,h0 _ O,?_⟩
   refine h.cd (s:=t) O hx λa ha h0 hc=>⟨_,h0 _ O,?_⟩
   refine fh O ?_;rw[wr om om];exact ih (j+1) w om h
 exact loop xs.length 0 w om h
theorem rG{w:W}{A:qf}{x:dM}{f:U->U->U->U->Prop}(g:∀c v,(au.enc x)[c]?=X v->w.cell? (A.add c)=X v)(hf:f x.space x.aX x.frame x.ar):
  hI w A 0 [.o,.o,.o,.o] f:=⟨_,g 0 _ O,_,g 1 _ O,_,g 2 _ O,_,g 3 _ O,hf⟩
theorem Ir{s t:Sl}{xs:J dM}{K:I->Pw}[bG s L dM au xs][bG t L dM au xs](hs:xs.length<=1000000000)(h:Ow B w0 w L)(hK:∀w',Ow B w0 w' L->K G w'):YW s t K w:=by
 apply ajC;have l1:=h.aF s;have l2:=h.aF t;refine fh om ?_;intro l hl;have loop:∀(m j:S)(w:W),j+m=xs.length->Ow B w0 w L->l (j:U) w:=by
  intro m;induction m with
  |zero=>intro j w hj h;apply hl;exact av om (hK w h)
  |succ m ih=>
   intro j w hj h;have hx:xs[j]?=X xs[j]:=gE om;apply hl;refine az om ?_;refine h.dr λw h=>?_;refine h.cd (s:=s) O hx λa ha _ hc=>rG hc ?_;refine h.cd (s:=t) O hx λa ha _ hc=>rG hc ?_;refine⟨_,GD xs[j],aV O ?_⟩;rw[wr om om];exact ih (j+1) w om h
 exact loop xs.length 0 w om h
theorem Lc{s t:Sl}{e v wk:U}{xs:J dM}{K:I->Pw}[bG s L dM au xs][bG t L dM au xs](hs:xs.length<=1000000000)(h:Ow B w0 w L)(hK:∀w',Ow B w0 w' L->K G w'):Ym e v wk s e v wk t K w:=by apply ajy;refine h.a λc1 w1 h=>?_;refine h.a λc2 w2 h=>?_;exact⟨_,h.aE O,_,h.aE O,gC O ⟨_,h.aA O,_,h.aA O,gC O ⟨_,h.aA O,_,h.aA O,gC O ⟨s,h.aA O,t,h.aA O,Ir (s:=s) (t:=t) hs h λw h=>hK w h.drop.drop⟩⟩⟩⟩
end
namespace Mc
section
variable{B:S}{w0 w:W}{R L:J aG}{s:Sl}{xs:J cD}{b:S}{bx:J (J cD)}{α:Type}{E:dX α}{ss:J Sl}{rows:J (J α)}{nc:S}{line:J U}{c room n1 n2:U}{l:J dM}
theorem QR{w:W}{A:qf}{x:dM}{f:U->U->Prop}(g:∀c v,(au.enc x)[c]?=X v->w.cell? (A.add c)=X v)(hf:f x.frame x.ar):hI w (A.add 2) 0 [.o,.o] f:=by
 have g4:w.cell? ((A.add 2).add 1)=X (.z x.ar):=by
  have:=g 3 _ (rfl:(au.enc x)[3]?=X (.z x.ar));have e:(A.add 2).add 1=A.add 3:=by unfold Addr.add;simp
  rw[e];exact this
 have g3:w.cell? ((A.add 2).add 0)=X (.z x.frame):=g 2 _ O;exact⟨_,g3,_,g4,hf⟩
theorem rJ{K:qg qf->U->Pw}(h1:1<=room)(h2:room<=256)(h:Ow B w0 w R)(hK:∀b w',Ow B w0 w' (bu b room []::R)->K b.o 0 w'):Zp room K w:=by
 apply ajh;intro k hk;refine av om ?_;apply hk;refine av om ?_;refine h.al λw1 h=>?_;exact hK _ w1 (gK (s:=z0) ((Ow.cB h).perm (List.Perm.swap _ _ _)))
theorem lC{K:I->Pw}(hbig:l.length<=1000000)(h:Ow B w0 w (bu b room l::R))(hK:∀w',Ow B w0 w' (bu b room (drop n1 n2 l)::R)->K (qe ((drop n1 n2 l).length<l.length)) w'):aaO b.o n1 n2 K w:=by
 apply ajj;refine h.a λc w1 h=>?_;have h:Ow B w0 w1 (ag au ⟨X c.p,0,0⟩ []::bu b room l::R):=Ow.empty h;obtain⟨s,h⟩:=wm h.cC;have hs:=h.aF s;intro lp hlp;have loop:∀(m j:S)(o:Sl)(w:W),j+m=l.length->Ow B w0 w (ag au o (drop n1 n2 (l.take j))::ae b [s.v,.z room]::ag au s l::R)->lp o (j:U) w:=by
  intro m;induction m with
  |zero=>
   intro j o w hj h;apply hlp;rw[SE om]at h;have ho:=h.aF o;refine⟨_,O,s,h.aE O,av om ⟨_,O,s,h.aE O,_,O,h.jD O O λw h=>?_⟩⟩;have h:Ow B w0 w (ae b [o.v,.z room]::ag au o (drop n1 n2 l)::R):=h.sub;have e:(qe ((o.len:U)<(s.len:U)))=qe ((drop n1 n2 l).length<l.length):=decide_eq_decide.2 om;rw[e];exact hK w (gK h)
  |succ m ih=>
   intro j o w hj h;have hx:l[j]?=X l[j]:=gE om;have htk:drop n1 n2 (l.take (j+1))=drop n1 n2 (l.take j)++if !jn n1 n2 l[j]then [l[j]]else []:=jI l _ j l[j] hx
   have hdl:=kN n1 n2 (l.take j);have htl:(l.take j).length<=l.length:=by rw[SN];omega
   apply hlp;refine⟨_,O,s,h.aE O,az om ?_⟩;intro k hk;have step:k (!jn n1 n2 l[j]) w:=by
    apply hk;rw[wr om om];cases e:jn n1 n2 l[j]with
    |true=>
     refine aV O ?_;refine ih (j+1) o w om ?_;rw[htk,e];simpa using h
    |false=>
     refine aW O ⟨_,O,s,h.aE O,?_⟩;refine h.cd (s:=s) O hx λa ha h0 hc=>rG hc ?_;refine h.a λd w2 h=>?_;refine sX (s:=o) (y:=l[j]) h om λo' w ho h=>?_;refine ih (j+1) o' w om ?_;rw[htk,e];exact h
   refine⟨_,O,s,h.aE O,h.cd (s:=s) O hx λa ha h0 hc=>⟨_,h0 _ O,?_⟩⟩;by_cases e:l[j].space=n1
   .refine fh e ⟨_,O,s,h.aE O,a,ha,om,om,_,hc 1 _ O,?_⟩
    have e2:(l[j].aX !=n2)= !jn n1 n2 l[j]:=by unfold jn;rw[qp e];rfl
    rw[e2];exact step
   .have e2:(!jn n1 n2 l[j])=true:=by unfold jn;rw[ql e];rfl
    rw[e2]at step;exact iw e step
 have h:Ow B w0 w1 (ag au ⟨X c.p,0,0⟩ []::ae b [s.v,.z room]::ag au s l::R):=h.sub;exact loop l.length 0 _ w1 om h
theorem yp{K:U->U->I->Pw}(hbig:l.length<=1000000)(h:Ow B w0 w (bu b room l::R))
  (hK:∀w',Ow B w0 w' (bu b room l::R)->K ((look n1 n2 l).getD (0,0)).1 ((look n1 n2 l).getD (0,0)).2 (look n1 n2 l).isSome w'):ab1 b.o n1 n2 K w:=by
 apply ajk;refine h.a λd w1 h=>?_;obtain⟨s,h⟩:=wm h.cC;have hlen:=h.aF s;intro lp hlp;have loop:∀(rest:J dM)(j:S)(w:W),l.drop j=rest->j<=l.length->(∀i,i<j->∀y,l[i]?=X y->jn n1 n2 y=qd)->Ow B w0 w (ae b [s.v,.z room]::ag au s l::ae d [.z 0,.z 0]::R)->lp (j:U) w:=by
  intro rest;induction rest with
  |nil=>
   intro j w hj hjl hno h;have:l.length<=j:=by have:=qz TO hj;simp at this;omega
   apply hlp;refine⟨_,O,s,h.aE O,av om ?_⟩;have hn:look n1 n2 l=none:=by
    unfold look;rw[VQ.2 λy hy=>?_]
    .rfl
    .obtain ⟨i,hi⟩:=Tg.1 hy
     rw[hno i (by have:=(Sz.1 hi).1;omega) y hi];decide
   rw[hn]at hK;refine h.aB O O λw h=>?_;refine h.aM O ?_;have h:Ow B w0 w (ae b [s.v,.z room]::ag au s l::R):=h.sub;exact hK w (gK h)
  |cons y rest ih=>
   intro j w hj hjl hno h;have hjl2:j<l.length:=by have:=qz TO hj;simp at this;omega
   have hx:l[j]?=X y:=by have:=qz (λl=>l[0]?) hj;simpa using this
   apply hlp;refine⟨_,O,s,h.aE O,az om ?_⟩;intro k hk;have step:k (jn n1 n2 y) w:=by
    apply hk;rw[wr om om];cases hp:jn n1 n2 y with
    |true=>
     have hn:look n1 n2 l=X (y.frame,y.ar):=by
      unfold look;have:l.find? (jn n1 n2)=X y:=by
       rw[Vt];refine⟨hp,j,hjl2,?_,λi hi=>?_⟩
       .rw[gE hjl2]at hx;exact Option.some.inj hx
       .rw[hno i hi _ (gE om)];rfl
      rw[this];rfl
     rw[hn]at hK;refine aW O ⟨_,O,s,h.aE O,?_⟩;refine h.cd (s:=s) O hx λa ha h0 hc=>QR hc ?_;refine h.aB O O λw h=>?_;refine h.aM O ?_;have h:Ow B w0 w (ae b [s.v,.z room]::ag au s l::R):=h.sub;exact hK w (gK h)
    |false=>
     refine aV O ?_;refine ih (j+1) w (by rw[<-TK,hj];rfl) om (λi hi z hz=>?_) h;by_cases e:i=j
     .subst e;rw[hx]at hz;cases hz;exact hp
     .exact hno i om z hz
   refine⟨_,O,s,h.aE O,h.cd (s:=s) O hx λa ha h0 hc=>⟨_,h0 _ O,?_⟩⟩;by_cases e:y.space=n1
   .refine gC e ⟨_,O,s,h.aE O,a,ha,om,om,_,hc 1 _ O,?_⟩
    have e2:(y.aX==n2)=jn n1 n2 y:=by unfold jn;rw[qp e];rfl
    rw[e2];exact step
   .have e2:jn n1 n2 y=false:=by unfold jn;rw[ql e];rfl
    rw[e2]at step;exact jk e step
 exact loop l 0 w1 O om (λi hi=>by omega) h
theorem yo{x:dM}{K:Pw}(hr:1<=room)(hbig:l.length<=1000000)(h:Ow B w0 w (bu b room l::R))
  (hK:∀w',Ow B w0 w' (bu b room (fill room x l)::R)->K w') (hm:(l.length:U)<=room):ab2 b.o x.space x.aX x.frame x.ar K w:=by
 apply ajl;refine h.a λd w1 h=>?_;have hdl:=kN x.space x.aX l;refine⟨_,h.aE O,h.l2 O ?_⟩;have h:Ow B w0 w1 (bu b room l::ae d [.z x.space,.z x.aX,.z x.frame,.z x.ar]::R):=h.cC;refine lC hbig h λw h=>?_;intro k11 hk11;refine h.dr λw h=>?_;have fin:∀w,Ow B w0 w (bu b room (drop x.space x.aX l)::ae d [.z x.space,.z x.aX,.z x.frame,.z x.ar]::R)->∀t,t=qe ((drop x.space x.aX l).length=l.length/\room<=(l.length:U))->k11 t w:=by
  intro w h t ht;apply hk11;intro k14 hk14;by_cases e:(drop x.space x.aX l).length=l.length/\room<=(l.length:U)
  .rw[qp e]at ht
   subst ht;have ef:fill room x l=(drop x.space x.aX l).drop 1++ [x]:=by unfold fill;rw[Z e]
   rw[ef]at hK;refine aW O ?_;refine h.a λc w2 h=>?_;cases hq:drop x.space x.aX l with
   |nil=>rw[hq]at e;simp at e;omega
   |cons z r=>
    rw[hq]at h hK hdl;have h:=h.cC;obtain⟨s,h⟩:=wm h;have hlen:=h.aF s;simp only[SJ]at hlen hdl;refine⟨_,O,s,h.aE O,om,om,?_⟩;have h:Ow B w0 w2 (ae c []::ae b [s.v,.z room]::ag au s (z::r)::ae d [.z x.space,.z x.aX,.z x.frame,.z x.ar]::R):=h.sub;refine oE (E:=au) (x:=z) (r:=r) (s:=s) aj4 Bv (zv:= .agg ⟨au.enc Jc⟩) qa qa O qb h (by rw[CV];omega) λs' w h=>⟨_,O,?_⟩
    refine h.jD O O λw h=>?_;have h:Ow B w0 w (ae b [s'.v,.z room]::ag au s' r::ae d [.z x.space,.z x.aX,.z x.frame,.z x.ar]::R):=h.sub;apply hk14;exact tk (x:=x) (l:=r) om (gK h) hK
  .rw[ql e]at ht
   subst ht;have ef:fill room x l=drop x.space x.aX l++ [x]:=by unfold fill;rw[Y e]
   rw[ef]at hK;refine aV O ?_;apply hk14;exact tk (x:=x) (l:=drop x.space x.aX l) om h hK
 by_cases e:(drop x.space x.aX l).length<l.length
 .rw[qp e]
  refine aV O ?_;exact fin w h _ (ql om).symm
 .rw[ql e]
  obtain⟨s,h⟩:=wm h;have hlen:=h.aF s;refine aW O ⟨_,O,s,h.aE O,_,O,h.l2 O ?_⟩;refine fin w (gK h) _ ?_;by_cases e2:((s.len:U))=room
  .rw[show((s.len:U)==room)=G from by simpa using e2]
   exact(qp ⟨om,om⟩).symm
  .rw[show((s.len:U)==room)=qd from by simpa using e2]
   exact(ql om).symm
theorem MY{s t:Sl}{xs:J dM}{K:I->Pw}[bG s L dM au xs][bG t L dM au xs](hs:xs.length<=1000000000)(h:Ow B w0 w L)(hK:∀w',Ow B w0 w' L->K G w'):ZB s t K w:=by
 apply aji;have l1:=h.aF s;have l2:=h.aF t;refine fh om ?_;intro l hl;have loop:∀(m j:S)(w:W),j+m=xs.length->Ow B w0 w L->l (j:U) w:=by
  intro m;induction m with
  |zero=>intro j w hj h;apply hl;exact av om (hK w h)
  |succ m ih=>
   intro j w hj h;have hx:xs[j]?=X xs[j]:=gE om;apply hl;refine az om ?_;refine h.dr λw h=>?_;refine h.cd (s:=s) O hx λa ha _ hc=>rG hc ?_;refine h.cd (s:=t) O hx λa ha _ hc=>rG hc ?_;refine⟨_,GD xs[j],aV O ?_⟩;rw[wr om om];exact ih (j+1) w om h
 exact loop xs.length 0 w om h
def bY(b:S)(nc:S)(line:J U):aG:=oA λs:Sl=>aQ [ae b [.z (nc:U),s.v],ag ax s line]
def iC:J U->U->S->U
 | [],_,_=> -1
 |x::l,c,j=>if x=c then(j:U)else iC l c (j+1)
theorem xj:∀(l:J U)(c:U)(j:S),0<=iC l c j↔c∈l
 | [],c,j=>by simp[iC]
 |x::l,c,j=>by
  unfold iC;by_cases e:x=c
  .rw[Z e];subst e;simp
  .rw[Y e,xj l c (j+1),SH]
   exact⟨.inr,λh=>h.elim (λh=>qk h.symm e) id⟩
theorem CD:∀(l:J U)(c:U)(j:S),iC l c j= -1\/(j:U)<=iC l c j
 | [],c,j=> .inl O
 |x::l,c,j=>by
  unfold iC;by_cases e:x=c
  .rw[Z e];exact .inr (VM _)
  .rw[Y e]
   rcases CD l c (j+1)with h|h
   .exact .inl h
   .exact .inr om
theorem ahead_zero(l:J U)(c:U):iC l c 0=0↔l.head?=X c:=by
 cases l with
 |nil=>simp[iC]
 |cons x l=>
  unfold iC;by_cases e:x=c
  .rw[Z e];simp[e]
  .rw[Y e]
   have:=CD l c (0+1);simp only[List.head?_cons,Option.some.injEq];exact⟨λh=>by omega,λh=>qk h e⟩
theorem sG(h:Ow B w0 w (bY b nc line::R)):∃s:Sl,Ow B w0 w (ae b [.z (nc:U),s.v]::ag ax s line::R):=by obtain⟨s,h⟩:=h.ex;exact⟨s,h.star⟩
theorem jK{s:Sl}(h:Ow B w0 w (ae b [.z (nc:U),s.v]::ag ax s line::R)):Ow B w0 w (bY b nc line::R):=Ow.eu s (Ow.aR h)
theorem yk{K:qg qf->U->Pw}(h1:1<=nc)(h2:nc<=8)(h:Ow B w0 w R)(hK:∀b w',Ow B w0 w' (bY b nc []::R)->K b.o 0 w'):Zq (nc:U) K w:=by
 apply ajm;intro k hk;refine av om ?_;apply hk;refine av om ?_;refine h.al λw1 h=>?_;exact hK _ w1 (jK (s:=z0) ((Ow.cB h).perm (List.Perm.swap _ _ _)))
theorem jv{K:U->Pw}(hbig:line.length<=1000000)(h:Ow B w0 w (bY b nc line::R))(hK:∀w',Ow B w0 w' (bY b nc line::R)->K (iC line c 0) w'):aaQ b.o c K w:=by
 apply ajo;obtain⟨s,h⟩:=sG h;have hlen:=h.aF s;intro lp hlp;have loop:∀(rest:J U)(j:S)(w:W),line.drop j=rest->j<=line.length->iC rest c j=iC line c 0->Ow B w0 w (ae b [.z (nc:U),s.v]::ag ax s line::R)->lp (j:U) w:=by
  intro rest;induction rest with
  |nil=>
   intro j w hj hjl he h;have:line.length<=j:=by have:=qz TO hj;simp at this;omega
   apply hlp;refine⟨_,O,s,h.aA O,av om ?_⟩;rw[<-he]at hK;exact hK w (jK h)
  |cons y rest ih=>
   intro j w hj hjl he h;have hjl2:j<line.length:=by have:=qz TO hj;simp at this;omega
   have hx:line[j]?=X y:=by have:=qz (λl=>l[0]?) hj;simpa using this
   apply hlp;refine⟨_,O,s,h.aA O,az om ⟨_,O,s,h.aA O,h.cd (s:=s) O hx λa ha h0 hc=>⟨_,h0 _ O,?_⟩⟩⟩
   rw[iC.eq_2]at he;by_cases e:y=c
   .rw[Z e]at he
    rw[<-he]at hK;exact gC e (hK w (jK h))
   .rw[Y e]at he
    refine jk e ?_;rw[wr om om];exact ih (j+1) w (by rw[<-TK,hj];rfl) om he h
 exact loop line 0 w O om O h
theorem u3{K:U->Pw}(h0:0<=c)(h1:c<(nc:U))(hbig:line.length<=1000000)(h:Ow B w0 w (bY b nc line::R))(hK:∀e w',Ow B w0 w' (bY b nc (iG line c)::R)->K e w'):aaP b.o c K w:=by
 apply ajn;intro k hk;refine av om ?_;obtain⟨s,h⟩:=sG h;refine⟨_,O,h.l1 O ?_⟩;rw[ql om];apply hk;refine aV O ?_;refine jv hbig (jK h) λw h=>?_;unfold iG at hK;by_cases e:c∈line
 .rw[Z e]at hK
  exact az ((xj _ _ _).2 e) (hK _ w h)
 .rw[Y e]at hK
  refine av (λhh=>e ((xj _ _ _).1 hh)) ?_;obtain⟨s,h⟩:=sG h;refine⟨_,O,s,h.aA O,h.a λd w1 h=>?_⟩;refine eS (s:=s) (xs:=line) (y:=c) h om λs' w hs' h=>⟨_,O,?_⟩
  refine h.fD O O λw h=>?_;exact hK _ w (jK (s:=s') h.sub)
theorem u4{K:U->Pw}(h0:0<=c)(h1:c<(nc:U))(hbig:line.length<=1000000)(h:Ow B w0 w (bY b nc line::R))(hK:∀e w',Ow B w0 w' (bY b nc (gd line c)::R)->K e w'):aaS b.o c K w:=by
 apply ajp;intro k hk;refine av om ?_;obtain⟨s,h⟩:=sG h;refine⟨_,O,h.l1 O ?_⟩;rw[ql om];apply hk;refine aV O ?_;refine jv hbig (jK h) λw h=>?_;unfold gd at hK;by_cases e:line.head?=X c
 .rw[Z e]at hK
  refine fh ((ahead_zero _ _).2 e) ?_;refine h.a λd w1 h=>?_;cases line with
  |nil=>simp at e
  |cons z r=>
   obtain⟨s,h⟩:=sG h.cC;have hlen:=h.aF s;simp only[SJ]at hlen hbig;refine⟨_,O,s,h.aA O,om,om,?_⟩;have h:Ow B w0 w1 (ae d []::ae b [.z (nc:U),s.v]::ag ax s (z::r)::R):=h.sub;refine oE (E:=ax) (x:=z) (r:=r) (s:=s) qJ (show qh.info? 3=X qI from by kernel_rfl) (zv:= .z 0) qa qa O qb h (by
    have e8:qI.bytes=8:=qa
    rw[e8];omega) λs' w h=>⟨_,O,?_⟩
   refine h.fD O O λw h=>?_;have h:Ow B w0 w (ae b [.z (nc:U),s'.v]::ag ax s' r::R):=h.sub;exact hK _ w (jK h)
 .rw[Y e]at hK
  exact iw (λhh=>e ((ahead_zero _ _).1 hh)) (hK _ w h)
theorem KA{w:W}{a:qf}{x:cD}{f:U->U->U->Prop}(g:∀c v,(bF.enc x)[c]?=X v->w.cell? (a.add c)=X v)(hf:f x.dP x.kind x.about):
  hI w a 0 [.o,.o,.o] f:=⟨_,g 0 _ O,_,g 1 _ O,_,g 2 _ O,hf⟩
theorem xy:qh.info? 357=X akZ:=qa
theorem zS:akZ.bytes=24:=qa
def yV:cD:=⟨0,0,0⟩
theorem LU(w:W):(qK 357).run qh w= .ok (.agg ⟨bF.enc yV⟩) w:=zeroValue357 w
theorem Cx{i j:S}{K:Sl->Pw}(h:Ow B w0 w (ag bF s xs::R))(hij:i<j)(hj:j<=xs.length)(hbig:xs.length<=1000000000)
  (hK:∀s' w',Ow B w0 w' (ag bF s' (xs.take i++xs.drop j)::R)->K s' w'):acX s (i:U) (j:U) K w:=by
 apply afL;have hlen:=h.aF s;have hcap:=h.lF.ga;refine⟨om,om,om,om,om,om,jk om (h.dr λw h=>?_)⟩;refine⟨om,om,om,om,a2 ?_⟩;simp only[SD];refine h.xk (E:=bF) ako xy qa om hj om λw h=>?_;dsimp only;refine⟨om,om,om,om,Ow.clear (E:=bF) (z0:=yV) (n:=i+(xs.length-j)) ako LU O h 0 O (by simp;omega) λw h=>?_⟩;have hp:=h.pre 0 O (n:=i+(xs.length-j)) (by simp;omega);refine hK _ w ?_;rw[mH hij hj]at hp;exact hp
theorem zP{y:cD}{c:S}{k:Sl->Pw}[ale:bG s L cD bF xs][ak8:eL (ag bF s xs) L R](h:Ow B w0 w (ae c (bF.enc y)::L))(hbig:xs.length<=1000000000)
  (hk:∀s' w',s'.len=xs.length+1->Ow B w0 w' (ag bF s' (xs++ [y])::R)->k s' w'):
  ∃s' w',dO qh [354,354] 354 s.v (.slice (X c.p) 1 1) w s' w'/\k s' w':=
 Ow.eZ (E:=bF) (y:=y) ako xy (zv:= .agg ⟨bF.enc yV⟩) qa qa O qb h (by rw[zS];omega) hk
theorem Lm(h:Ow B w0 w (bA E ss rows::R)){j:S}{s:Sl}{row:J α}(hs:ss[j]?=X s)(hr:rows[j]?=X row):
  Ow B w0 w (ag E s row::aQ ((SC (ag E) ss rows).eraseIdx j)::R):=Ow.cC (Ow.aR ((h.row hs hr).perm Tw.symm))
theorem kF{j:S}{s':Sl}{row':J α}(hl:ss.length=rows.length)(hj:j<rows.length)(h:Ow B w0 w (ag E s' row'::aQ ((SC (ag E) ss rows).eraseIdx j)::R)):
  Ow B w0 w (bA E (ss.set j s') (rows.set j row')::R):=Ow.DR hl hj ((h.cC).star.perm Tw)
theorem gR(h:Ow B w0 w (bA E ss rows::R)):ss.length=rows.length:=h.DS.1
theorem JL{c:U}{K:I->Pw}(h0:0<=c)(h1:c<(bx.length:U))(h:Ow B w0 w (cU b bx::R))(hK:K G w):acW b.o c K w:=by apply af5;obtain⟨s,ss,h⟩:=EM h;have hl:=gR (h.pick (A:=bA bF ss bx));have hlen:=h.aF s;refine az om ?_;refine⟨_,O,s,h.aE O,?_⟩;rw[qp (show c<(s.len:U) by omega)];exact hK
theorem s0{nc:S}{K:qg qf->U->Pw}(n1:1<=nc)(n8:nc<=8)(h:Ow B w0 w R)(hK:∀b w',Ow B w0 w' (cU b (SB nc [])::R)->K b.o 0 w'):Zi (nc:U) K w:=by
 apply af0;intro k hk;refine av om ?_;apply hk;refine av om ?_;have hb:akp.bytes=24:=qa
 have hp48:(2:U)^48=281474976710656:=qb
 refine Ow.si (E:=lH) (z0:=z0) (zv:= .slice Q 0 0) ak0 (show qh.info? 354=X akp from by kernel_rfl) qa qa O (n:=(nc:U)) h om (by rw[hb,hp48];omega) (by rw[hp48];omega) λs w hs h=>?_;rw[SD]at h;refine h.al λw2 h=>?_;have rows:∀(n:S)(R:J aG),Ow B w0 w2 R->Ow B w0 w2 (bA bF (SB n z0) (SB n [])::R):=λn R h=>by
  induction n with
  |zero=>exact Ow.ym h
  |succ n ih=>
   have:=Ow.B7 (Ow.cB (E:=bF) ih)
   rwa [<-U7,<-U7]at this
 have h3:=rows nc _ h;refine hK _ w2 (sk (s:=s) (ss:=SB nc z0) ?_);exact h3.sub
theorem zd{c:U}{K:U->U->U->I->Pw}(h0:0<=c)(h1:c<(bx.length:U))(h64:∀l∈bx,l.length<=64)(h:Ow B w0 w (cU b bx::R))
  (hK0:bx[c.toNat]?=X []->∀w',Ow B w0 w' (cU b bx::R)->K 0 0 0 qd w')
  (hK1:∀x r,bx[c.toNat]?=X (x::r)->∀w',Ow B w0 w' (cU b (bx.set c.toNat r)::R)->K x.dP x.kind x.about G w'):abT b.o c K w:=by
 apply af3;refine h.a λd w1 h=>?_;have ec:c=((c.toNat:S):U):=om
 have hlt:c.toNat<bx.length:=om
 have hrow:bx[c.toNat]?=X bx[c.toNat]:=gE hlt;have hr64:=h64 _ (Tq hlt);generalize bx[c.toNat]=row at hrow hr64;intro k4 hk4;refine JL h0 h1 h.cC ?_;refine aV O ?_;obtain⟨s,ss,h⟩:=EM h.cC;have hl:=gR (h.pick (A:=bA bF ss bx));have hlen:=h.aF s;have hsl:ss[c.toNat]?=X ss[c.toNat]:=gE om;generalize ss[c.toNat]=sj at hsl;have h:Ow B w0 w1 (ag bF sj row::aQ ((SC (ag bF) ss bx).eraseIdx c.toNat)::ae b [s.v]::ag lH s ss::ae d [.z 0,.z 0,.z 0]::R):=(Lm (h.pick (A:=bA bF ss bx)) hsl hrow).sub;have hlj:=h.aF sj;refine⟨_,O,s,h.aE O,h.cd (s:=s) ec hsl λa ha hc0 hc=>⟨sj,hc0 _ O,?_⟩⟩
 have same:∀w,Ow B w0 w (ag bF sj row::aQ ((SC (ag bF) ss bx).eraseIdx c.toNat)::ae b [s.v]::ag lH s ss::R)->Ow B w0 w (cU b bx::R):=λw h=>by
  have h2:=kF (j:=c.toNat) hl hlt h;have e1:ss.set c.toNat sj=ss:=by obtain⟨p,q⟩:=Sz.1 hsl;rw[<-q];exact UH p
  have e2:bx.set c.toNat row=bx:=by obtain⟨p,q⟩:=Sz.1 hrow;rw[<-q];exact UH p
  rw[e1,e2]at h2;exact sk (s:=s) (ss:=ss) h2.sub
 cases row with
 |nil=>
  rw[show((sj.len:U)==0)=G from by simp at hlj|-;omega];apply hk4;refine aW O ?_;refine h.aB O O λw h=>?_;refine h.nq O ?_;exact hK0 hrow w (same w h.sub)
 |cons x r=>
  simp only[SJ]at hlj hr64;rw[show((sj.len:U)==0)=qd from by simp;omega];apply hk4;refine aV O ?_;refine⟨_,O,s,h.aE O,h.cd (s:=s) ec hsl λa ha hc0 hc=>⟨sj,hc0 _ O,?_⟩⟩
  refine h.cd (s:=sj) (i:=0) (j:=0) O O λa2 ha2 hd0 hd=>?_;refine KA hd ?_;refine h.a λe w2 h=>?_;refine h.aB O O λw h=>?_;refine h.dr λw h=>?_;refine⟨_,O,_,O,s,h.aE O,h.cd (s:=s) ec hsl λa ha hc0 hc=>⟨sj,hc0 _ O,s,h.aE O,Go.Vc.a2 ?_⟩⟩
  refine Cx (s:=sj) (xs:=x::r) (i:=0) (j:=1) (h.pick (A:=ag bF sj (x::r))) om qc (by simp;omega) λs' w h=>⟨h.aE O,?_⟩
  refine⟨a,ha,h0,om,Go.Vc.a2 (h.Ce (s:=s) (E:=lH) (i:=c) s' ec om ha O λw h=>?_)⟩;refine h.nq O ?_;refine h.aB O O λw h=>?_;refine h.nq O ?_;refine hK1 x r hrow w ?_;have h2:Ow B w0 w (ag bF s' r::aQ ((SC (ag bF) ss bx).eraseIdx c.toNat)::ae b [s.v]::ag lH s (ss.set c.toNat s')::R):=Ow.sub (show Ow B w0 w (ag lH s (ss.set c.toNat s')::ag bF s' r::_)from h);exact sk (s:=s) (ss:=ss.set c.toNat s') (kF hl hlt h2).sub
def eK(x:cD)(ts:J U)(bx:J (J cD)):J (J cD):=bx.mapIdx λi l=>if(i:U)∈ts then l++ [x]else l
theorem yv(x:cD)(bx:J (J cD)):eK x [] bx=bx:=by
 unfold eK;refine Td λi=>?_;rw[T3];cases bx[i]?<;>simp
theorem vK{x:cD}{ts:J U}{bx:J (J cD)}{t:U}{l:J cD}(h0:0<=t)(hn:t∉ts)(hl:bx[t.toNat]?=X l):(eK x ts bx).set t.toNat (l++ [x])=eK x (ts++ [t]) bx/\(eK x ts bx)[t.toNat]?=X l:=by
 have et:((t.toNat:S):U)=t:=TS h0;constructor
 .refine Td λi=>?_
  unfold eK;by_cases e:i=t.toNat
  .subst e
   rw[SQ (by rw[Ww];exact(Sz.1 hl).1),T3,hl];simp[et]
  .rw[Uq (Ne.symm e),T3,T3]
   have:(i:U)≠t:=λh=>e om;cases bx[i]?<;>simp[this]
 .unfold eK
  rw[T3,hl];simp[et,hn]
theorem ze{x:cD}{to:Sl}{ts:J U}{K:U->Pw}(hb:bx.length<=8)(h64:∀l∈bx,l.length<=64)(hts:∀t∈ts,0<=t/\t<(bx.length:U))(hnd:ts.Nodup)(hbig:ts.length<=8)
  (h:Ow B w0 w (cU b bx::ag ax to ts::R))
  (hK:∀e w',Ow B w0 w' (cU b (if ts.any (λt=>qe (64<=((bx[t.toNat]?).getD []).length))then bx else eK x ts bx)::R)->K e w'):acY b.o x.dP x.kind x.about to K w:=by
 apply af6;refine h.a λd w1 h=>?_;refine h.a λe w2 h=>?_;have hlt:=h.aF to;apply adF;refine rE (s:=to) (xs:=ts) (p:=λt=>qe (64<=((bx[t.toNat]?).getD []).length)) h om (λy w alf hy h hQ=>aY ?_) λw h=>?_
 .show ads y d.p alf w
  apply af7;obtain⟨y0,y1⟩:=hts y hy;have ey:y=((y.toNat:S):U):=om
  have h':=h;obtain⟨s,ss,h⟩:=EM (h.pick (A:=cU b bx));have hl:=gR (h.pick (A:=bA bF ss bx));have hsl:ss[y.toNat]?=X ss[y.toNat]:=gE om;have hrow:bx[y.toNat]?=X bx[y.toNat]:=gE om;generalize ss[y.toNat]=sj at hsl;generalize bx[y.toNat]=row at hrow;have hlj:sj.len=row.length:=Ow.gY (h.pick (A:=bA bF ss bx)) hsl hrow;refine⟨_,h.aE O,_,O,s,h.aE O,h.cd (s:=s) ey hsl λa ha hc0 hc=>⟨sj,hc0 _ O,?_⟩⟩
  have e2:qe ((sj.len:U)>=64)=qe (64<=((bx[y.toNat]?).getD []).length):=by rw[hrow,TR,qP];omega
  rw[e2];exact hQ w h'
 .rw[kT]
  cases hany:ts.any (λt=>qe (64<=((bx[t.toNat]?).getD []).length))with
  |true=>
   rw[hany,Z O]at hK;exact aW O (hK _ w h.sub)
  |false=>
   rw[hany,Y qb]at hK;refine aV O ?_;intro l hl;have loop:∀(rest pre:J U)(w:W),ts=pre++rest->Ow B w0 w (cU b (eK x pre bx)::ag ax to ts::ae d [.q b]::ae e [.z x.dP,.z x.kind,.z x.about]::R)->l (pre.length:U) w:=by
    intro rest;induction rest with
    |nil=>
     intro pre w hp h;rw[SL]at hp;subst hp;apply hl;refine av om ?_;exact hK _ w h.sub
    |cons t rest ih=>
     intro pre w hp h;have hlen2:ts.length=pre.length+(rest.length+1):=by rw[hp];simp
     have ht:ts[pre.length]?=X t:=by rw[hp];simp
     have hmem:=SU ht;obtain⟨t0,t1⟩:=hts t hmem;have et:t=((t.toNat:S):U):=om
     have hnt:t∉pre:=λhm=>by rw[hp]at hnd;exact(Ug.1 hnd).2.2 t hm t Tz O
     have hrow:bx[t.toNat]?=X bx[t.toNat]:=gE om;have hr64:=h64 _ (Tq (show t.toNat<bx.length by omega));generalize bx[t.toNat]=row at hrow hr64;obtain⟨g1,g2⟩:=vK (x:=x) t0 hnt hrow;have hsb:(eK x pre bx).length=bx.length:=by unfold eK;rw[Ww]
     apply hl;refine az om ?_;refine h.cd (s:=to) O ht λa ha hc0 hc=>⟨_,hc0 _ O,?_⟩
     refine h.dr λw h=>?_;obtain⟨s,ss,h⟩:=EM h;have hl2:=gR (h.pick (A:=bA bF ss (eK x pre bx)));have hlen:=h.aF s;have hsl:ss[t.toNat]?=X ss[t.toNat]:=gE om;generalize ss[t.toNat]=sj at hsl;have h:Ow B w0 w (ag bF sj row::aQ ((SC (ag bF) ss (eK x pre bx)).eraseIdx t.toNat)::ae b [s.v]::ag lH s ss::ag ax to ts::ae d [.q b]::ae e [.z x.dP,.z x.kind,.z x.about]::R):=(Lm (h.pick (A:=bA bF ss (eK x pre bx))) hsl g2).sub;refine⟨_,h.aE O,_,O,s,h.aE O,h.cd (s:=s) et hsl λa ha hc0 hc=>⟨sj,hc0 _ O,?_⟩⟩
     refine h.nq O ?_;refine⟨_,h.aE O,_,O,s,h.aE O,Go.Vc.a2 (h.al λw3 h=>Go.Vc.a2 ?_)⟩;generalize w.heap.size=f at h|-;refine zP (s:=sj) (xs:=row) (y:=x) h om λs' w hs' h=>⟨h.aE O,h.aE O,a,ha,t0,om,Go.Vc.a2 ?_⟩
     refine h.Ce (s:=s) (E:=lH) (i:=t) s' et om ha O λw h=>?_;rw[show qj.wrap ((pre.length:U)+1)=(((pre++ [t]).length:S):U)from by rw[wr om om,SG];rfl];refine ih (pre++ [t]) w (by rw[hp];simp) ?_;rw[<-g1];have h2:Ow B w0 w (ag bF s' (row++ [x])::aQ ((SC (ag bF) ss (eK x pre bx)).eraseIdx t.toNat)::ae b [s.v]::ag lH s (ss.set t.toNat s')::ag ax to ts::ae d [.q b]::ae e [.z x.dP,.z x.kind,.z x.about]::R):=Ow.sub h;exact sk (s:=s) (ss:=ss.set t.toNat s') (kF hl2 om h2).sub
   have e0:eK x [] bx=bx:=yv x bx;refine loop ts [] w O ?_;rw[e0];exact h.sub
def others(dP:U)(n:S):J U:=((SF n).map Int.ofNat).filter λi=>i !=dP
theorem po(dP:U)(n:S):others dP (n+1)=others dP n++if(n:U) !=dP then [(n:U)]else []:=by unfold others;rw[UG,S0,Tm];congr 1;cases h:((n:U) !=dP)<;>simp[h]
theorem fm{dP:U}{n:S}{t:U}:t∈others dP n↔(0<=t/\t<(n:U))/\t≠dP:=by
 unfold others;rw[SV,Tj];constructor
 .rintro ⟨⟨i,hi,e⟩,h2⟩
  have e:(i:U)=t:=e;have:=T6.1 hi;exact⟨om,by simpa using h2⟩
 .rintro ⟨h1,h2⟩
  exact⟨⟨t.toNat,T6.2 om,TS h1.1⟩,by simpa using h2⟩
theorem Ib(dP:U)(n:S):(others dP n).Nodup:=by unfold others;refine List.Pairwise.filter _ ?_;rw[UR];exact List.nodup_range.imp λh e=>h (Int.ofNat.inj e)
theorem xO(dP:U)(n:S):(others dP n).length<=n:=by have:=S3 (λi=>i !=dP) ((SF n).map Int.ofNat);rw[S9,List.length_range]at this;exact this
theorem Gd(dP about:U)(bx:J (J cD)):(if(others dP bx.length).any (λt=>qe (64<=((bx[t.toNat]?).getD []).length))then bx else eK ⟨dP,0,about⟩ (others dP bx.length) bx)=oB dP about bx:=by
 have e1:(others dP bx.length).any (λt=>qe (64<=((bx[t.toNat]?).getD []).length))=(SF bx.length).any λi=>qe ((i:U)≠dP)&&qe (64<=((bx[i]?).getD []).length):=by
  rw[UF,TY,TY];constructor
  .rintro ⟨t,ht,h2⟩
   obtain⟨h1,h3⟩:=fm.1 ht;refine⟨t.toNat,T6.2 om,?_⟩;rw[S4];exact⟨qp (by rw[TS h1.1];exact h3),h2⟩
  .rintro ⟨i,hi,h2⟩
   rw[S4]at h2;have:=T6.1 hi;exact⟨(i:U),fm.2 ⟨om,of_decide_eq_true h2.1⟩,by rw[SD];exact h2.2⟩
 unfold oB;rw[e1];split
 .rfl
 .unfold eK
  refine Td λi=>?_;rw[T3,T3];by_cases hi:i<bx.length
  .rw[gE hi]
   simp only[TM];by_cases e:(i:U)=dP
   .rw[Z e,Y λh=>(fm.1 h).2 e]
   .rw[Y e,Z (fm.2 ⟨om,e⟩)]
  .rw[SZ om];rfl
theorem Bf{dP about:U}{K:U->Pw}(h0:0<=dP)(h1:dP<(bx.length:U))(hb:bx.length<=8)(h64:∀l∈bx,l.length<=64)(h:Ow B w0 w (cU b bx::R))
  (hK:∀e w',Ow B w0 w' (cU b (oB dP about bx)::R)->K e w'):abX b.o dP 0 about K w:=by
 apply af4;refine JL h0 h1 h ?_;refine aV O ?_;have h':=h;obtain⟨s,ss,hx⟩:=EM h;have hl:=gR (hx.pick (A:=bA bF ss bx));have hlen:=hx.aF s;refine⟨_,O,s,hx.aE O,?_⟩;intro l hl9;have loop:∀(m j:S)(to:Sl)(w:W),j+m=bx.length->Ow B w0 w (ag ax to (others dP j)::cU b bx::R)->l to (j:U) w:=by
  intro m;induction m with
  |zero=>
   intro j to w hj h;apply hl9;refine av om ?_;have ej:j=bx.length:=om
   subst ej;refine ze (x:=⟨dP,0,about⟩) (ts:=others dP bx.length) hb h64 (λt ht=>(fm.1 ht).1) (Ib _ _) (SY (xO _ _) hb) h.cC λe w h=>?_;rw[Gd]at h;exact hK e w h
  |succ m ih=>
   intro j to w hj h;have hsu:=po dP j;have hol:=xO dP j;apply hl9;refine az om ?_;have ew:qj.wrap ((j:U)+1)=((j+1:S):U):=by rw[wr om om];omega
   rw[ew];refine pR (λe=>?_) (λe=>?_)
   .rw[show((j:U) !=dP)=G from by simpa using e,Z O]at hsu
    refine h.a λd w1 h=>?_;refine eS (s:=to) (y:=(j:U)) h om λs' w hs' h=>?_;refine ih (j+1) s' w om ?_;rw[hsu];exact h.sub
   .rw[show((j:U) !=dP)=qd from by simpa using e,Y qb,SL]at hsu
    refine ih (j+1) to w om ?_;rw[hsu];exact h
 exact loop bx.length 0 z0 w om (Ow.cB h')
theorem rF{c:U}{K:U->Pw}(hb:bx.length<=8)(h64:∀l∈bx,l.length<=64)(h:Ow B w0 w (cU b bx::R))
  (hK:∀w',Ow B w0 w' (cU b bx::R)->K (gk bx c) w'):aaG b.o c K w:=by
 apply af2;obtain⟨s,ss,h⟩:=EM h;have hl:=gR (h.pick (A:=bA bF ss bx));have hlen:=h.aF s;refine⟨_,O,s,h.aE O,?_⟩;intro l hl5;have bound:∀(l:J (J cD)),(∀r∈l,r.length<=64)->(l.map λl=>(l.filter λm=>qe (m.dP=c)).length).sum<=64*l.length:=λl hl=>by
  induction l with
  |nil=>simp
  |cons r l ih=>
   have h1:=ih λq hq=>hl q (TC _ hq);have h2:=S3 (λm:cD=>qe (m.dP=c)) r;have h3:=hl r Tz;simp only[S7,UW,SJ];omega
 have loop:∀(rest pre:J (J cD))(w:W),bx=pre++rest->Ow B w0 w (ae b [s.v]::ag lH s ss::bA bF ss bx::R)->l (gk pre c) (pre.length:U) w:=by
  intro rest;induction rest with
  |nil=>
   intro pre w hp h;rw[SL]at hp;subst hp;apply hl5;refine av om ?_;exact hK w (sk h)
  |cons row rest ih=>
   intro pre w hp h;have hlen2:bx.length=pre.length+(rest.length+1):=by rw[hp];simp
   have hrow:bx[pre.length]?=X row:=by rw[hp];simp
   have hr64:=h64 row (SU hrow);have hpre:=bound pre λr hr=>h64 r (by rw[hp];exact UO _ hr);have hsl:ss[pre.length]?=X ss[pre.length]:=gE om;generalize ss[pre.length]=sj at hsl;apply hl5;refine az om ?_;refine h.cd (s:=s) O hsl λa ha hc0 hc=>⟨sj,hc0 _ O,?_⟩
   have h:Ow B w0 w (ag bF sj row::aQ ((SC (ag bF) ss bx).eraseIdx pre.length)::ae b [s.v]::ag lH s ss::R):=(Lm (h.pick (A:=bA bF ss bx)) hsl hrow).sub;have hlj:=h.aF sj;intro l2 hl11;have inner:∀(m j:S)(w:W),j+m=row.length->Ow B w0 w (ag bF sj row::aQ ((SC (ag bF) ss bx).eraseIdx pre.length)::ae b [s.v]::ag lH s ss::R)->l2 (gk pre c+(((row.take j).filter λm=>qe (m.dP=c)).length:U)) (j:U) w:=by
    intro m;induction m with
    |zero=>
     intro j w hj h;apply hl11;refine av om ?_;rw[SE om];rw[show qj.wrap ((pre.length:U)+1)=(((pre++ [row]).length:S):U)from by rw[wr om om,SG];rfl];have e2:gk pre c+((row.filter λm=>qe (m.dP=c)).length:U)=gk (pre++ [row]) c:=by unfold gk;rw[S0,WL];simp
     rw[e2];refine ih (pre++ [row]) w (by rw[hp];simp) ?_;have h2:=kF (j:=pre.length) hl om h;have e1:ss.set pre.length sj=ss:=by obtain⟨p,q⟩:=Sz.1 hsl;rw[<-q];exact UH p
     have e2:bx.set pre.length row=bx:=by obtain⟨p,q⟩:=Sz.1 hrow;rw[<-q];exact UH p
     rw[e1,e2]at h2;exact h2.sub
    |succ m ihm=>
     intro j w hj h;have hx:row[j]?=X row[j]:=gE om;have hft:=jI row (λm:cD=>qe (m.dP=c)) j _ hx;generalize row[j]=y at hx hft;have hfl:=S3 (λm:cD=>qe (m.dP=c)) (row.take j);rw[SN]at hfl;apply hl11;refine az om ?_;refine h.cd (s:=sj) O hx λa ha hc0 hc=>?_;refine KA hc ?_;refine h.a λd w1 h=>?_;refine h.aB O O λw h=>?_;refine h.l1 O ?_;have ew:qj.wrap ((j:U)+1)=((j+1:S):U):=by rw[wr om om];omega
     rw[ew];have hob:gk pre c<=512/\0<=gk pre c:=by unfold gk;omega
     have h:=h.drop;have hh:=ihm (j+1) w om h;rw[hft]at hh;refine dW (λe=>?_) (λe=>?_)
     .rw[Z (qp e),SG]at hh
      rw[wr om om,Int.add_assoc];exact hh
     .rw[Y (by rw[ql e];decide),SL]at hh
      exact hh
   have:=inner row.length 0 w om h;rw[TZ]at this;simpa using this
 exact loop bx [] w O h
def wP:dX (U × cD):=⟨4,λo=>[.z o.1,.z o.2.dP,.z o.2.kind,.z o.2.about],λ_=>rfl,λx v h=>by simp only[SH,List.not_mem_nil,qG]at h;rcases h with rfl|rfl|rfl|rfl<;>rfl,qb⟩
theorem NG{w:W}{A:qf}{x:U × cD}{f:U->U->U->Prop}(g:∀c v,(wP.enc x)[c]?=X v->w.cell? (A.add c)=X v)(hf:f x.2.dP x.2.kind x.2.about):hI w (A.add 1) 0 [.o,.o,.o] f:=by
 have g1:w.cell? ((A.add 1).add 1)=X (.z x.2.kind):=by
  have:=g 2 _ (rfl:(wP.enc x)[2]?=X (.z x.2.kind));have e:(A.add 1).add 1=A.add 2:=by unfold Addr.add;simp
  rw[e];exact this
 have g2:w.cell? ((A.add 1).add 2)=X (.z x.2.about):=by
  have:=g 3 _ (rfl:(wP.enc x)[3]?=X (.z x.2.about));have e:(A.add 1).add 2=A.add 3:=by unfold Addr.add;simp
  rw[e];exact this
 have g0:w.cell? ((A.add 1).add 0)=X (.z x.2.dP):=g 1 _ O;exact⟨_,g0,_,g1,_,g2,hf⟩
def fR(c:U)(l:J (U × cD)):J cD:=(l.filter λx=>x.1==c).map λx=>x.2
def boxes(nc:S)(l:J (U × cD)):J (J cD):=(SF nc).map λi:S=>fR (i:U) l
theorem kA(nc:S)(l:J (U × cD)):(boxes nc l).length=nc:=by unfold boxes;simp
theorem kz{nc:S}{l:J (U × cD)}{i:S}(h:i<nc):(boxes nc l)[i]?=X (fR (i:U) l):=by unfold boxes;rw[S2,List.getElem?_range h];rfl
theorem gN(c:U)(l r:J (U × cD)):fR c (l++r)=fR c l++fR c r:=by unfold fR;rw[Tm,S0]
theorem mC(c t:U)(x:cD):fR c [(t,x)]=if t=c then [x]else []:=by
 unfold fR;by_cases e:t=c
 .rw[Z e,Tk,show((t,x).1==c)=G from by simpa using e];rfl
 .rw[Y e,Tk,show((t,x).1==c)=qd from by simpa using e];rfl
theorem zR{nc:S}{l l':J (U × cD)}{t:S}{r:J cD}(ht:t<nc)(h1:fR (t:U) l'=r)(h2:∀i:S,i≠t->fR (i:U) l'=fR (i:U) l):boxes nc l'=(boxes nc l).set t r:=by
 refine Td λi=>?_;rw[List.getElem?_set];by_cases hi:i<nc
 .rw[kz hi,kz hi,kA]
  by_cases e:t=i
  .subst e;rw[Z O,Z hi,h1]
  .rw[Y e,h2 i (λq=>e q.symm)]
 .rw[SZ (by rw[kA];omega),SZ (by rw[kA];omega),kA]
  rw[Y (show ¬t=i by omega)]
theorem EN{nc:S}{l:J (U × cD)}{t:S}{x:cD}(ht:t<nc):boxes nc (l++ [((t:U),x)])=(boxes nc l).set t (fR (t:U) l++ [x]):=
 zR ht (by rw[gN,mC,Z O]) λi hi=>by rw[gN,mC,Y om,SL]
theorem vN{α:Type}(f g:α->S):∀l:J α,(l.map λa=>f a+g a).sum=(l.map f).sum+(l.map g).sum
 | []=>rfl
 |a::l=>by simp only[S7,UW,vN f g l];omega
theorem yB{α:Type}:∀l:J α,(l.map λ_=>0).sum=0
 | []=>rfl
 |a::l=>by simp only[S7,UW,yB l]
theorem GZ(x:U):∀n:S,((SF n).map λi:S=>if x=(i:U)then 1 else 0).sum=if 0<=x/\x<(n:U)then 1 else 0
 |0=>by rw[Y om];rfl
 |n+1=>by
  rw[UG,S0,WL,GZ x n];simp only[S7,Uf,UW,List.sum_nil,UD];by_cases e:x=(n:U)
  .rw[Y om,Z e,Z om]<;>rfl
  .rw[Y e]
   by_cases e2:0<=x/\x<(n:U)
   .rw[Z e2,Z om]<;>rfl
   .rw[Y e2,Y om]<;>rfl
theorem F2(q:cD->I)(nc:S):∀l:J (U × cD),(∀x∈l,0<=x.1/\x.1<(nc:U))->((SF nc).map λi:S=>((fR (i:U) l).filter q).length).sum=(l.filter λx=>q x.2).length
 | [],_=>yB (SF nc)
 |x::l,h=>by
  have ih:=F2 q nc l λy hy=>h y (TC _ hy);have hx:=h x Tz;have e:∀i:S,((fR (i:U) (x::l)).filter q).length=(if q x.2=G then(if x.1=(i:U)then 1 else 0)else 0)+((fR (i:U) l).filter q).length:=λi=>by
   rw[show x::l= [(x.1,x.2)]++l from O,gN,mC,Tm,SG];congr 1;by_cases e1:x.1=(i:U)
   .rw[Z e1,Z e1,Tk];cases q x.2<;>rfl
   .rw[Y e1,Y e1];cases q x.2<;>rfl
  rw[show(λi:S=>((fR (i:U) (x::l)).filter q).length)=λi:S=>(if q x.2=G then(if x.1=(i:U)then 1 else 0)else 0)+((fR (i:U) l).filter q).length from funext e,vN,ih,Tk];cases q x.2 with
  |true=>
   simp only[Z];rw[GZ,Z hx,SJ];omega
  |false=>
   rw[Y qb];simp only[Y (show ¬(qd=G) by decide)];rw[yB];omega
theorem Fj{nc:S}{l:J (U × cD)}(h:∀x∈l,0<=x.1/\x.1<(nc:U))(c:U):gk (boxes nc l) c=((l.filter λx=>x.2.dP==c).length:U):=by
 unfold gk boxes;rw[List.map_map];have:=F2 (λm=>qe (m.dP=c)) nc l h;have e:(λx:U × cD=>x.2.dP==c)=λx=>qe (x.2.dP=c):=rfl;rw[e,<-this];rfl
theorem p8{nc:S}{l:J (U × cD)}(h:∀x∈l,0<=x.1/\x.1<(nc:U))(h64:∀r∈boxes nc l,r.length<=64):l.length<=64*nc:=by
 have:=F2 (λ_=>G) nc l h;have e:(l.filter λ_=>G)=l:=TF.2 λ_ _=>rfl;rw[e]at this;rw[<-this];have key:∀(n:S),n<=nc->((SF n).map λi:S=>((fR (i:U) l).filter λ_=>G).length).sum<=64*n:=λn=>by
  induction n with
  |zero=>intro _;simp
  |succ n ih=>
   intro hn;have h1:=ih om;have h2:=S3 (λ_=>G) (fR (n:U) l);have h3:=h64 _ (SU (kz (l:=l) (show n<nc by omega)));rw[UG,S0,WL];simp only[S7,Uf,UW,List.sum_nil];omega
 exact key nc (SA _)
theorem EO{nc:S}{l:J (U × cD)}{j t:S}{x:cD}(ht:t<nc)(hx:l[j]?=X ((t:U),x))(hno:∀i,i<j->∀y,l[i]?=X y->y.1≠(t:U)):
  fR (t:U) l=x::fR (t:U) (l.drop (j+1))/\boxes nc (l.take j++l.drop (j+1))=(boxes nc l).set t (fR (t:U) (l.drop (j+1))):=by
 have hj:=(Sz.1 hx).1;have hsp:l=l.take j++([((t:U),x)]++l.drop (j+1)):=by
  have e1:=(Tl j l).symm;have e2:l.drop j=((t:U),x)::l.drop (j+1):=by rw[TB hj];rw[gE hj]at hx;rw[Option.some.inj hx]
  rw[e2]at e1;exact e1
 have hpre:fR (t:U) (l.take j)= []:=by
  unfold fR;rw[Xa,Us];intro y hy;obtain⟨i,hi⟩:=Tg.1 hy;rw[S5]at hi;by_cases e:i<j
  .rw[Z e]at hi
   have:=hno i e y hi;simpa using this
  .rw[Y e]at hi;cases hi
 refine⟨?_,zR ht ?_ λi hi=>?_⟩
 .conv=>lhs;rw[hsp]
  rw[gN,gN,hpre,mC,Z O];rfl
 .rw[gN,hpre,TG]
 .conv=>rhs;rw[hsp]
  rw[gN,gN,gN,mC,Y om,TG]
theorem JM{l:J (U × cD)}{c:U}(h:∀y∈l,y.1≠c):fR c l= []:=by unfold fR;rw[Xa,Us];intro y hy;have:=h y hy;simpa using this
theorem Hx{l:J (U × cD)}{c:U}{j:S}{y:U × cD}(h:l[j]?=X y):fR c (l.take (j+1))=fR c (l.take j)++if y.1=c then [y.2]else []:=by rw[SO,h,gN];show _++fR c [(y.1,y.2)]=_;rw[mC]
def bT(b:S)(bx:J (J cD)):aG:=oA λx:Sl × J (U × cD)=>aQ [dw (bx=boxes bx.length x.2/\∀y∈x.2,0<=y.1/\y.1<(bx.length:U)),ae b [.z (bx.length:U),x.1.v],ag wP x.1 x.2]
end
section
variable{P:qo}{B:S}{w0 w:W}{R L:J aG}{b nc N g:S}{m:cV}{pr:Sl}{line:J U}{x:Lx}{bx:J (J cD)}{c dP:U}{α:Type}{E:dX α}{s:Sl}{l:J (U × cD)}{t:Sl}{xs ts:J α}
theorem Gf{T el:qi}{inf:qL}{zv:V}{l hh:S}{k:Sl->Pw}[ale:bG s L α E xs]
  (hu:P.underlying T=X (.slice el)) (hi:P.info? el=X inf) (hz:inf.zero=X zv) (hsz:inf.size=E.z) (hzc:zv.cells.size=E.z) (hb:1<=inf.bytes)
  (h:Ow B w0 w (ag E t ts::L)) (hl:l<=hh) (hh':hh<=xs.length) (hbig:(17*(ts.length+xs.length)+16000)*inf.bytes<=2^48) (hk:∀s' w',Ow B w0 w' (ag E s' (ts++(xs.take hh).drop l)::L)->k s' w'):
  ∃s' w',dO P [T,T] T t.v (.slice (mn s.a l s.cap E.z) (hh-l) (s.cap-l)) w s' w'/\k s' w':=by
 have hlen:=h.drop.aF s;have hy:=(h.tX (ale.i+1) (by simpa using ale.at_)).sub (l:=l) (hh:=hh) hl om;have e:((xs.flatMap E.enc).take (hh*E.z)).drop (l*E.z)=((xs.take hh).drop l).flatMap E.enc:=by
  have h1:(xs.flatMap E.enc).take (hh*E.z)=(xs.take hh).flatMap E.enc:=by
   conv=>lhs;rw[<-Tl hh xs,Tp]
   rw[List.take_left' (by rw[aO,SN];congr 1;omega)]
  rw[h1]
  conv=>lhs;rw[<-Tl l (xs.take hh),Tp]
  rw[List.drop_left' (by rw[aO,SN,SN];congr 1;omega)]
 rw[e]at hy;have hll:((xs.take hh).drop l).length=hh-l:=by rw[UK,SN];omega
 exact Ow.app (s:=t) (x:=⟨mn s.a l s.cap E.z,hh-l,s.cap-l⟩) (xs:=ts) (ys:=(xs.take hh).drop l) hu hi hz hsz hzc hb h 0 O hy hll.symm (SY (Nat.mul_le_mul_right _ om) hbig) λs' w _ h=>hk _ w h
theorem AH(h:Ow B w0 w (bT b bx::R)):∃(s:Sl)(l:J (U × cD)),(bx=boxes bx.length l/\∀y∈l,0<=y.1/\y.1<(bx.length:U))/\Ow B w0 w (ae b [.z (bx.length:U),s.v]::ag wP s l::R):=by obtain⟨⟨s,l⟩,h⟩:=h.ex;obtain⟨h1,h⟩:=Ow.pure h.star;exact⟨s,l,h1,h⟩
theorem wG{s:Sl}{l:J (U × cD)}{nc:S}(h1:∀y∈l,0<=y.1/\y.1<(nc:U))(h:Ow B w0 w (ae b [.z (nc:U),s.v]::ag wP s l::R)):Ow B w0 w (bT b (boxes nc l)::R):=by have e:=kA nc l;refine Ow.eu (s,l) (Ow.aR (Ow.cI ⟨by rw[e],by rw[e];exact h1⟩ ?_));rw[e];exact h
theorem zq{nc:S}{K:qg qf->U->Pw}(h1:1<=nc)(h2:nc<=8)(h:Ow B w0 w R)(hK:∀b w',Ow B w0 w' (bT b (SB nc [])::R)->K b.o 0 w'):Zr (nc:U) K w:=by
 apply ajq;intro k hk;refine av om ?_;apply hk;refine av om ?_;refine h.a λd w1 h=>?_;have e:boxes nc []=SB nc []:=by
  refine Td λi=>?_;by_cases hi:i<nc
  .rw[kz hi,Un,Z hi];rfl
  .rw[SZ (by rw[kA];omega),Un,Y hi]
 have h:=wG (nc:=nc) (s:=z0) (l:=[]) (λy hy=>by cases hy) ((Ow.cB h).perm (List.Perm.swap _ _ _));rw[e]at h;exact hK _ w1 h
theorem nB{K:I->Pw}(h:Ow B w0 w (bT b bx::R))(hK:K (qe (0<=c/\c<(bx.length:U))) w):acZ b.o c K w:=by
 apply aju;obtain⟨s,l,h1,h⟩:=AH h;by_cases e:c>=0
 .refine az e ⟨_,O,h.l1 O ?_⟩
  rw[show qe (c<(bx.length:U))=qe (0<=c/\c<(bx.length:U))from decide_eq_decide.2 om];exact hK
 .refine av e ?_
  rw[ql om]at hK;exact hK
theorem rI{K:Sl->Pw}(h64:∀l∈bx,l.length<=64)(hb:bx.length<=8)(h0:0<=c)(h1:c<(bx.length:U))(h:Ow B w0 w (bT b bx::R))(hK:∀s w',s.len=((bx[c.toNat]?).getD []).length->Ow B w0 w' (bT b bx::R)->K s w'):ac0 b.o c K w:=by
 apply ajv;refine h.a λd w1 h=>?_;have h:Ow B w0 w1 (ag bF ⟨X d.p,0,0⟩ []::bT b bx::R):=Ow.empty h;obtain⟨s,l,⟨hx1,hx2⟩,h⟩:=AH h.cC;have hs:=h.aF s;have hl:=p8 hx2 (by rw[<-hx1];exact h64);have ebx:(bx[c.toNat]?).getD []=fR c l:=by have:=kz (nc:=bx.length) (l:=l) (i:=c.toNat) om;rw[<-hx1,TS h0]at this;rw[this];rfl
 rw[ebx]at hK;generalize bx.length=nc at*
 intro lp hlp;have loop:∀(m j:S)(o:Sl)(w:W),j+m=l.length->Ow B w0 w (ag bF o (fR c (l.take j))::ae b [.z (nc:U),s.v]::ag wP s l::R)->lp o (j:U) w:=by
  intro m;induction m with
  |zero=>
   intro j o w hj h;apply hlp;rw[SE om]at h;refine⟨_,O,s,h.aA O,av om (hK o w (h.aF o) ?_)⟩;rw[hx1];exact wG hx2 h.drop
  |succ m ih=>
   intro j o w hj h;have hx:l[j]?=X l[j]:=gE om;have htk:=Hx (c:=c) hx;have hbl:(fR c (l.take j)).length<=l.length:=by unfold fR;rw[S9];exact SY (S3 _ _) (by rw[SN];omega)
   apply hlp;rw[wr om om];refine⟨_,O,s,h.aA O,az om ⟨_,O,s,h.aA O,h.cd (s:=s) O hx λa ha hc0 hc=>⟨_,hc0 _ O,?_⟩⟩⟩
   by_cases e:l[j].1=c
   .rw[Z e]at htk
    refine gC e ⟨_,O,s,h.aA O,a,ha,om,om,NG hc ?_⟩;refine h.a λf w2 h=>?_;refine zP (s:=o) (y:=l[j].2) h om λo' w ho h=>?_;refine ih (j+1) o' w om ?_;rw[htk];exact h
   .rw[Y e,SL]at htk
    refine jk e ?_;refine ih (j+1) o w om ?_;rw[htk];exact h
 have h:Ow B w0 w1 (ag bF ⟨X d.p,0,0⟩ []::ae b [.z (nc:U),s.v]::ag wP s l::R):=h.sub;exact loop l.length 0 _ w1 om h
theorem E0:qh.info? 365=X ak1:=qa
theorem Bg:ak1.bytes=32:=qa
theorem yu(x:cD)(ts:J U)(bx:J (J cD))(i:S):(eK x ts bx)[i]?=(bx[i]?).map λl=>if(i:U)∈ts then l++ [x]else l:=by unfold eK;rw[T3]
theorem sI(x:cD)(ts:J U)(bx:J (J cD)):(eK x ts bx).length=bx.length:=by unfold eK;rw[Ww]
theorem IH{x:cD}{ts:J U}{bx:J (J cD)}(h64:∀l∈bx,l.length<=64)(hs:∀t∈ts,((bx[t.toNat]?).getD []).length<64):∀l∈eK x ts bx,l.length<=64:=λl hl=>by
 obtain⟨i,hi⟩:=Tg.1 hl;rw[yu]at hi;cases hb:bx[i]? with
 |none=>rw[hb]at hi;cases hi
 |some q=>
  rw[hb]at hi;have e:(if(i:U)∈ts then q++ [x]else q)=l:=Option.some.inj hi;by_cases e2:(i:U)∈ts
  .have:=hs _ e2
   rw[SD,hb]at this;simp only[TR]at this;rw[Z e2]at e;rw[<-e,SG];simp only[SJ,TU];omega
  .rw[Y e2]at e
   rw[<-e];exact h64 q (SU hb)
theorem L9{y:U × cD}{c:S}{k:Sl->Pw}[ale:bG s L (U × cD) wP l][ak8:eL (ag wP s l) L R](h:Ow B w0 w (ae c (wP.enc y)::L))(hbig:l.length<=1000000000)
  (hk:∀s' w',s'.len=l.length+1->Ow B w0 w' (ag wP s' (l++ [y])::R)->k s' w'):
  ∃s' w',dO qh [351,351] 351 s.v (.slice (X c.p) 1 1) w s' w'/\k s' w':=
 Ow.eZ (E:=wP) (y:=y) aky E0 (zv:= .agg ⟨wP.enc (0,yV)⟩) qa qa O qb h (by rw[Bg];omega) hk
theorem GO(h:Ow B w0 w (bT b bx::R)):w.cell? b.p=X (.z (bx.length:U)):=by obtain⟨s,l,h1,h⟩:=AH h;exact h.aE O
theorem AI(hx:bx=boxes bx.length l/\∀y∈l,0<=y.1/\y.1<(bx.length:U))(h:Ow B w0 w (ae b [.z (bx.length:U),s.v]::ag wP s l::R)):Ow B w0 w (bT b bx::R):=
 Ow.eu (s,l) (Ow.aR (Ow.cI hx h))
theorem JK(hx:bx=boxes bx.length l)(h0:0<=c)(h1:c<(bx.length:U)):bx[c.toNat]?=X (fR c l):=by
 have:=kz (nc:=bx.length) (l:=l) (i:=c.toNat) om
 rwa [<-hx,TS h0]at this
theorem xZ{to kind about:U}{K:U->Pw}(h64:∀l∈bx,l.length<=64)(hb:bx.length<=8)(f0:0<=dP)(f1:dP<(bx.length:U))(t0:0<=to)(t1:to<(bx.length:U))(hlt:dP≠to->((bx[to.toNat]?).getD []).length<64)
  (h:Ow B w0 w (bT b bx::R)) (hK:∀e w',Ow B w0 w' (bT b (if dP=to then bx else bx.set to.toNat ((bx[to.toNat]?).getD []++ [⟨dP,kind,about⟩]))::R)->K e w'):ac1 b.o dP to kind about K w:=by
 apply ajw;intro k6 hk6;refine nB h ?_;rw[qp ⟨f0,f1⟩];refine aV O ?_;refine nB h ?_;rw[qp ⟨t0,t1⟩];apply hk6;refine aV O ?_;by_cases e:dP=to
 .rw[Z e]at hK
  exact gC e (hK _ w h)
 .rw[Y e]at hK
  have hl0:=hlt e;refine jk e ?_;refine rI h64 hb t0 t1 h λs w hs h=>?_;refine av om ?_;obtain⟨s,l,hx,h⟩:=AH h;have hs:=h.aF s;have hl:=p8 hx.2 (by rw[<-hx.1];exact h64);rw[JK hx.1 t0 t1]at hK;refine⟨_,O,s,h.aA O,h.a λd w1 h=>?_⟩;refine L9 (s:=s) (y:=(to,⟨dP,kind,about⟩)) h om λs' w hs' h=>⟨_,O,?_⟩
  refine h.fD O O λw h=>?_;refine hK _ w ?_;have e2:bx.set to.toNat (fR to l++ [⟨dP,kind,about⟩])=boxes bx.length (l++ [(to,⟨dP,kind,about⟩)]):=by have:=EN (nc:=bx.length) (l:=l) (t:=to.toNat) (x:=⟨dP,kind,about⟩) om;rw[TS t0]at this;rw[this,<-hx.1]
  rw[TR,e2];refine wG (s:=s') (λy hy=>?_) h.sub;rcases Tv.1 hy with hy|hy
  .exact hx.2 y hy
  .rw[Tf.1 hy];exact⟨t0,t1⟩
theorem zp{about:U}{K:U->Pw}(h0:0<=dP)(h1:dP<(bx.length:U))(hb:bx.length<=8)(h64:∀l∈bx,l.length<=64)(h:Ow B w0 w (bT b bx::R))
  (hK:∀e w',Ow B w0 w' (bT b (oB dP about bx)::R)->K e w'):ab3 b.o dP 0 about K w:=by
 apply ajt;rw[<-Gd]at hK;refine nB h ?_;rw[qp ⟨h0,h1⟩];refine aV O ?_;intro l7 hl7;have loop:∀(m j:S)(w:W),j+m=bx.length->(∀t∈others dP j,((bx[t.toNat]?).getD []).length<64)->Ow B w0 w (bT b bx::R)->l7 (j:U) w:=by
  intro m;induction m with
  |zero=>
   intro j w hj hno h;apply hl7;have ej:j=bx.length:=om
   subst ej;refine⟨_,O,_,GO h,av om ?_⟩;rw[Y (by rw[TY];rintro⟨t,ht,hc⟩;have:=hno t ht;have:=of_decide_eq_true hc;omega)]at hK;intro l17 hl17;have loop2:∀(m j:S)(w:W),j+m=bx.length->Ow B w0 w (bT b (eK ⟨dP,0,about⟩ (others dP j) bx)::R)->l17 (j:U) w:=by
    intro m;induction m with
    |zero=>
     intro j w hj h;apply hl17;have ej:j=bx.length:=om
     have hc:=GO h;rw[sI]at hc;refine⟨_,O,_,hc,av om ?_⟩;rw[ej]at h;exact hK _ w h
    |succ m ih=>
     intro j w hj h;have hsu:=po dP j;apply hl17;have hc:=GO h;rw[sI]at hc;refine⟨_,O,_,hc,az om ?_⟩;have hsl:=sI ⟨dP,0,about⟩ (others dP j) bx;have hjm:∀t∈others dP j,t∈others dP bx.length:=λt ht=>by have:=fm.1 ht;exact fm.2 ⟨⟨this.1.1,om⟩,this.2⟩
     have hnj:(j:U)∉others dP j:=λhm=>by have:=fm.1 hm;omega
     have hlt:j<bx.length:=om
     have hrow:bx[j]?=X bx[j]:=gE hlt;have hget:(eK ⟨dP,0,about⟩ (others dP j) bx)[j]?=X bx[j]:=by rw[yu,hrow];simp only[TM,Y hnj]
     refine xZ (IH h64 λt ht=>hno t (hjm t ht)) om h0 om om om (λhne=>?_) h λe w h=>?_
     .rw[SD,hget]
      have:=hno (j:U) (fm.2 ⟨⟨om,om⟩,λq=>hne q.symm⟩);rw[SD,hrow]at this;exact this
     .rw[wr om om]
      refine ih (j+1) w om ?_;rw[SD,hget,TR]at h;by_cases e:dP=(j:U)
      .rw[Z e]at h
       rw[show((j:U) !=dP)=qd from by simp[e],Y qb,SL]at hsu;rw[hsu];exact h
      .rw[Y e]at h
       rw[show((j:U) !=dP)=G from by simpa using λq:(j:U)=dP=>e q.symm,Z O]at hsu;have hs2:=vK (x:=⟨dP,0,about⟩) (ts:=others dP j) (bx:=bx) (t:=(j:U)) (l:=bx[j]) om hnj (by rw[SD];exact hrow);rw[SD]at hs2;rw[hs2.1]at h;rw[hsu];exact h
   refine loop2 bx.length 0 w om ?_;rw[show others dP 0= []from O,yv];exact h
  |succ m ih=>
   intro j w hj hno h;have hsu:=po dP j;apply hl7;refine⟨_,O,_,GO h,az om ?_⟩;intro k12 hk12;rw[wr om om]at hk12;by_cases e:(j:U)=dP
   .refine fh e ?_
    rw[show((j:U) !=dP)=qd from by simp[e],Y qb,SL]at hsu;exact hk12 _ _ (aV O (ih (j+1) w om (by rw[hsu];exact hno) h))
   .refine iw e ?_
    rw[show((j:U) !=dP)=G from by simpa using e,Z O]at hsu;refine rI h64 hb om om h λs w hs h=>?_;by_cases e2:((s.len:U))>=64
    .rw[qp e2]
     rw[Z (TY.2 ⟨(j:U),fm.2 ⟨⟨om,om⟩,e⟩,qp om⟩)]at hK;exact hk12 _ _ (aW O (hK _ w h))
    .rw[ql e2]
     refine hk12 _ _ (aV O (ih (j+1) w om (λt ht=>?_) h));rw[hsu]at ht;rcases Tv.1 ht with ht|ht
     .exact hno t ht
     .rw[Tf.1 ht];omega
 exact loop bx.length 0 w om (λt ht=>by cases ht) h
theorem lu{K:U->Pw}(hb:bx.length<=8)(h64:∀l∈bx,l.length<=64)(h:Ow B w0 w (bT b bx::R))
  (hK:∀w',Ow B w0 w' (bT b bx::R)->K (gk bx c) w'):ZD b.o c K w:=by
 apply ajr;obtain⟨s,l,hx,h⟩:=AH h;have hs:=h.aF s;have hl:=p8 hx.2 (by rw[<-hx.1];exact h64);have eo:gk bx c=((l.filter λx=>x.2.dP==c).length:U):=by
  have:=Fj hx.2 c
  rwa [<-hx.1]at this
 intro lp hlp;have loop:∀(m j:S)(w:W),j+m=l.length->Ow B w0 w (ae b [.z (bx.length:U),s.v]::ag wP s l::R)->lp (((l.take j).filter λx=>x.2.dP==c).length:U) (j:U) w:=by
  intro m;induction m with
  |zero=>
   intro j w hj h;apply hlp;refine⟨_,O,s,h.aA O,av om ?_⟩;rw[SE om,<-eo];exact hK w (AI hx h)
  |succ m ih=>
   intro j w hj h;have hxj:l[j]?=X l[j]:=gE om;have htk:=jI l (λx=>x.2.dP==c) j l[j] hxj;have hfl:=S3 (λx:U × cD=>x.2.dP==c) (l.take j);have htl:(l.take j).length<=l.length:=by rw[SN];omega
   apply hlp;rw[wr (x:=(j:U)+1) om om];refine⟨_,O,s,h.aA O,az om ⟨_,O,s,h.aA O,h.cd (s:=s) O hxj λa ha hc0 hc=>⟨_,hc 1 _ O,?_⟩⟩⟩
   have ih2:=ih (j+1) w om h;by_cases e:l[j].2.dP=c
   .refine gC e ?_
    rw[htk,Z (by simpa using e),SG]at ih2;rw[wr om om];exact ih2
   .refine jk e ?_
    rw[htk,Y (by simpa using e),SL]at ih2;exact ih2
 exact loop l.length 0 w om h
theorem ya{K:U->U->U->I->Pw}(h0:0<=c)(h1:c<(bx.length:U))(hb:bx.length<=8)(h64:∀l∈bx,l.length<=64)(h:Ow B w0 w (bT b bx::R))
  (hK0:bx[c.toNat]?=X []->∀w',Ow B w0 w' (bT b bx::R)->K 0 0 0 qd w')
  (hK1:∀x r,bx[c.toNat]?=X (x::r)->∀w',Ow B w0 w' (bT b (bx.set c.toNat r)::R)->K x.dP x.kind x.about G w'):aaN b.o c K w:=by
 apply ajs;refine h.a λd w1 h=>?_;obtain⟨s,l,hx,h⟩:=AH h.cC;have hs:=h.aF s;have hl:=p8 hx.2 (by rw[<-hx.1];exact h64);have hcap:=(h.pick (A:=ag wP s l)).lF.ga;rw[JK hx.1 h0 h1]at hK0 hK1;intro lp hlp;have loop:∀(m j:S)(w:W),j+m=l.length->(∀i,i<j->∀y,l[i]?=X y->y.1≠c)->Ow B w0 w (ae b [.z (bx.length:U),s.v]::ag wP s l::ae d [.z 0,.z 0,.z 0]::R)->lp (j:U) w:=by
  intro m;induction m with
  |zero=>
   intro j w hj hno h;apply hlp;refine⟨_,O,s,h.aA O,av om ?_⟩;have hn:fR c l= []:=JM λy hy=>by obtain⟨i,hi⟩:=Tg.1 hy;exact hno i (by have:=(Sz.1 hi).1;omega) y hi
   rw[hn]at hK0;refine h.aB O O λw h=>?_;refine h.nq O ?_;exact hK0 O w (AI (s:=s) hx h.sub)
  |succ m ih=>
   intro j w hj hno h;have hxj:l[j]?=X l[j]:=gE om;apply hlp;rw[wr om om];refine⟨_,O,s,h.aA O,az om ⟨_,O,s,h.aA O,h.cd (s:=s) O hxj λa ha hc0 hc=>⟨_,hc0 _ O,?_⟩⟩⟩
   by_cases e:l[j].1=c
   .refine gC e ⟨_,O,s,h.aA O,a,ha,om,om,NG hc ?_⟩
    generalize hy:l[j]=y at e hxj;obtain⟨y1,x⟩:=y;dsimp only at e|-;subst e;have hb2:=EO (nc:=bx.length) (l:=l) (j:=j) (t:=y1.toNat) (x:=x) om (by rw[TS h0];exact hxj) (by rw[TS h0];exact hno);rw[TS h0]at hb2;refine h.a λf w2 h=>?_;refine h.aB O O λw h=>?_;refine h.a λg w3 h=>?_;have h:Ow B w0 w3 (ag wP ⟨X g.p,0,0⟩ []::ae f [.z x.dP,.z x.kind,.z x.about]::ae b [.z (bx.length:U),s.v]::ag wP s l::ae d [.z 0,.z 0,.z 0]::R):=Ow.empty h;refine⟨_,O,s,h.aA O,om,om,?_⟩;simp only[SD];refine Gf (E:=wP) (s:=s) (t:=⟨X g.p,0,0⟩) (ts:=[]) (xs:=l) (l:=0) (hh:=j) aky E0 (zv:= .agg ⟨wP.enc (0,yV)⟩) qa qa O qb h om om (by rw[Bg];simp only[TU];omega) λs1 w h=>?_;refine⟨_,O,s,h.aA O,om,om,?_⟩;rw[show((j:U)+1).toNat=j+1 from by omega,show s.len-(j+1)=l.length-(j+1)from by omega];refine Gf (E:=wP) (s:=s) (t:=s1) (xs:=l) (l:=j+1) (hh:=l.length) aky E0 (zv:= .agg ⟨wP.enc (0,yV)⟩) qa qa O qb h om om (by rw[Bg];simp only[TG,T9,SN];omega) λs2 w h=>⟨_,O,?_⟩
    rw[TG,T9,List.take_length]at h;refine h.fD O O λw h=>?_;refine h.nq O ?_;refine h.aB O O λw h=>?_;refine h.nq O ?_;refine hK1 x (fR y1 (l.drop (j+1))) (by rw[hb2.1]) w ?_;have e3:bx.set y1.toNat (fR y1 (l.drop (j+1)))=boxes bx.length (l.take j++l.drop (j+1)):=by rw[hb2.2,<-hx.1]
    rw[e3];refine wG (s:=s2) (λy hy=>?_) h.sub;rcases Tv.1 hy with hy|hy
    .exact hx.2 y (VD hy)
    .exact hx.2 y (List.mem_of_mem_drop hy)
   .refine jk e ?_
    refine ih (j+1) w om (λi hi z hz=>?_) h;by_cases e2:i=j
    .subst e2;rw[hxj]at hz;cases hz;exact e
    .exact hno i om z hz
 exact loop l.length 0 w1 om (λi hi=>by omega) h.sub
theorem CC{xs:J U}{K:Pw}(h:Ow B w0 w (ag ax s xs::L))(hbig:xs.length<=1000000)
  (hK:∀w',Ow B w0 w' (ag ax s xs.reverse::L)->K w'):ab0 s K w:=by
 apply afA;have hlen:=h.aF s;intro l hl;have loop:∀(m i:S)(ys:J U)(w:W),xs.length<=2*i+m->ys.length=xs.length->(∀k,k<xs.length->ys[k]?=if k<i\/xs.length<=k+i then xs[xs.length-1-k]? else xs[k]?)->
   Ow B w0 w (ag ax s ys::L)->l (i:U) ((xs.length:U)-1-(i:U)) w:=by
  have done:∀(i:S)(ys:J U)(w:W),xs.length<=2*i+1->ys.length=xs.length->(∀k,k<xs.length->ys[k]?=if k<i\/xs.length<=k+i then xs[xs.length-1-k]? else xs[k]?)->
   Ow B w0 w (ag ax s ys::L)->l (i:U) ((xs.length:U)-1-(i:U)) w:=λi ys w hm hy hg h=>by
   apply hl;refine av om ?_;have e:ys=xs.reverse:=by
    refine Td λk=>?_;by_cases hk:k<xs.length
    .rw[hg k hk,Wa hk]
     split
     .rfl
     .rename_i hn
      rw[show xs.length-1-k=k from by omega]
    .rw[SZ om,SZ (by rw[List.length_reverse];omega)]
   rw[e]at h;exact hK w h
  intro m;induction m with
  |zero=>
   intro i ys w hm hy hg h;exact done i ys w om hy hg h
  |succ m ih=>
   intro i ys w hm hy hg h;by_cases hlt:xs.length<=2*i+1
   .exact done i ys w hlt hy hg h
   apply hl;refine az om ?_;refine h.dr λw h=>?_;have ej:((xs.length:U)-1-(i:U))=((xs.length-1-i:S):U):=om
   have hi:ys[i]?=X ys[i]:=gE om;have hj:ys[xs.length-1-i]?=X ys[xs.length-1-i]:=gE om;have hlen2:=h.aF s;generalize e1:ys[i]=yi at hi;generalize e2:ys[xs.length-1-i]=yj at hj;refine h.cd (s:=s) ej hj λa ha hc0 hc=>⟨_,hc0 _ O,?_⟩
   refine h.cd (s:=s) O hi λa2 ha2 hd0 hd=>⟨_,hd0 _ O,?_⟩
   refine⟨a2,ha2,om,om,Go.Vc.a2 (h.Ce (s:=s) (E:=ax) (i:=(i:U)) yj O om ha2 O λw h=>?_)⟩;refine⟨a,ha,om,om,Go.Vc.a2 (h.Ce (s:=s) (E:=ax) (i:=((xs.length:U)-1-(i:U))) yi ej (by rw[Ti];omega) ha O λw h=>?_)⟩;rw[show qj.wrap ((i:U)+1)=((i+1:S):U)from by rw[wr om om];omega,show qj.wrap ((xs.length:U)-1-(i:U)-1)=(xs.length:U)-1-((i+1:S):U)from by rw[wr om om];omega];refine ih (i+1) _ w om (by rw[Ti,Ti];exact hy) (λk hk=>?_) h;have g1:=hg i om;have g2:=hg (xs.length-1-i) om;rw[Y om,hi]at g1;rw[Y om,hj]at g2;by_cases k1:k=xs.length-1-i
   .subst k1
    rw[SQ (by rw[Ti];omega),Z om,show xs.length-1-(xs.length-1-i)=i from by omega];exact g1
   .rw[Uq om]
    by_cases k2:k=i
    .subst k2
     rw[SQ om,Z om];exact g2
    .rw[Uq om,hg k hk]
     by_cases k3:k<i\/xs.length<=k+i
     .rw[Z k3,Z om]
     .rw[Y k3,Y om]
 have e0:qj.wrap ((s.len:U)-1)=(xs.length:U)-1-((0:S):U):=by rw[wr om om];omega
 rw[e0];exact loop xs.length 0 xs w om O (λk hk=>by rw[Y om]) h
theorem wX{xs:J (qg S)}{p:qg S->I}{f:V}{K:U->Pw}[ale:bG s L (qg S) nz xs](h:Ow B w0 w L)(hbig:xs.length<=1000000000)
  (hf:∀(y:qg S)(w:W)(alf:I->Pw),y∈xs->Ow B w0 w L->(∀w',Ow B w0 w' L->alf (p y) w')->fP qh f [.pointer (y.map λq=>⟨q,0,Q⟩)] w λen w'=>∃r:I,en= .returned (.bool r)/\alf r w')
  (hK:∀w',Ow B w0 w' L->K (eC p xs) w'):abY s f K w:=by
 apply afz;have hlen:=h.aF s;intro l hl;have loop:∀(rest:J (qg S))(j:S)(w:W),xs.drop j=rest->j<=xs.length->(∀i,i<j->∀y,xs[i]?=X y->p y=qd)->Ow B w0 w L->l (j:U) w:=by
  intro rest;induction rest with
  |nil=>
   intro j w hj hjl hno h;have:xs.length<=j:=by have:=qz TO hj;simp at this;omega
   apply hl;refine av om ?_;have hn:xs.findIdx? p=none:=by rw[Tt];intro y hy;obtain⟨i,hi⟩:=Tg.1 hy;exact hno i (by have:=(Sz.1 hi).1;omega) y hi
   have e:eC p xs= -1:=by unfold eC;rw[hn]
   rw[<-e];exact hK _ h
  |cons y rest ih=>
   intro j w hj hjl hno h;have hjl2:j<xs.length:=by have:=qz TO hj;simp at this;omega
   have hx:xs[j]?=X y:=by have:=qz (λl=>l[0]?) hj;simpa using this
   apply hl;refine az om ?_;refine h.cd O hx λa ha h0 hc=>?_;refine⟨_,h0 _ O,hf y w _ (SU hx) h λw h=>?_⟩;cases hp:p y with
   |true=>
    refine aW O ?_;have hn:xs.findIdx? p=X j:=by
     rw[Tc];refine⟨hjl2,?_,λi hi=>?_⟩
     .rw[gE hjl2]at hx;cases hx;exact hp
     .have:=hno i hi xs[i] (gE om)
      simp[this]
    have e:eC p xs=(j:U):=by unfold eC;rw[hn]
    rw[<-e];exact hK _ h
   |false=>
    refine aV O ?_;rw[wr om om];refine ih (j+1) w (by rw[<-TK,hj];rfl) om (λi hi z hz=>?_) h;by_cases e:i=j
    .subst e;rw[hx]at hz;cases hz;exact hp
    .exact hno i om z hz
 exact loop xs 0 w O om (λi hi=>by omega) h
theorem nm(p:S):∀(ps:J S)(a:qg S),kW a (ps++ [p])=X p
 | [],a=>rfl
 |q::ps,a=>nm p ps (X q)
theorem xo(p:S)(c:U):∀(ps:J S)(cs:J U)(a:qg S),ps.length=cs.length->chain a (ps++ [p]) (cs++ [c])=chain a ps cs++ [(kW a ps,c)]
 | [],[],a,_=>rfl
 | [],_::_,a,h=>by simp at h
 |_::_,[],a,h=>by simp at h
 |q::ps,d::cs,a,h=>by show(a,d)::chain (X q) (ps++ [p]) (cs++ [c])=_;rw[xo p c ps cs (X q) (by simpa using h)];rfl
theorem pQ:∀(ps:J S)(cs:J U)(a:qg S)(j:S)(c:U),ps.length=cs.length->cs[j]?=X c->(chain a ps cs)[j]?=X (kW a (ps.take j),c)
 | [],[],a,j,c,_,h=>by simp at h
 | [],_::_,a,_,_,h,_=>by simp at h
 |_::_,[],a,_,_,h,_=>by simp at h
 |q::ps,d::cs,a,0,c,_,h=>by cases h;rfl
 |q::ps,d::cs,a,j+1,c,h1,h=>by show(chain (X q) ps cs)[j]?=_;rw[pQ ps cs (X q) j c (by simpa using h1) h];rfl
theorem K6{α:Type}{A:S->α->aG}{p:S}{ps:J S}{y:α}{ys:J α}(h:Ow B w0 w (aq A (p::ps) (y::ys)::R)):Ow B w0 w (A p y::aq A ps ys::R):=by obtain⟨hl,h⟩:=h.Ij;have h:Ow B w0 w (A p y::(SC A ps ys++R)):=h;exact Ow.cC (Ow.ic (by simpa using hl) (h.perm Tw.symm))
theorem MT{ps:J S}{xs:J (qg S × U)}{j p:S}{y:qg S × U}[ale:eL (aq gg ps xs) L R](h:Ow B w0 w L)(hp:ps[j]?=X p)(hy:xs[j]?=X y):
  w.cell? p.p=X (.z y.2)/\w.cell? (p.p.add 1)=X (.pointer (y.1.map λq=>⟨q,0,Q⟩))/\w.cell? (p.p.add 2)=X (.bool G):=by
 have h2:Ow B w0 w (ae p [.z y.2,.pointer (y.1.map λq=>⟨q,0,Q⟩),.bool G]::_):=(h.pick (A:=aq gg ps xs)).pt hp hy;exact⟨h2.aE O,h2.aA O,h2.aA O⟩
theorem Mg{p:S}{a c:J V}(h:Ow B w0 w (ae p a::ae p c::R)):qm:=by
 obtain⟨alc,hA,hG,ald,h1,h2,h3,h4⟩:=h.held.dy;cases ald with
 |nil=>cases h1
 |cons z ald=>
  have hz:z.1=ae p c:=(List.cons.inj h1).1;have h5:=(h2 z Tz).1;rw[hz]at h5;exact h4 z Tz p hA.1 h5.1
theorem MU{p j:S}:∀{ps:J S}{xs:J (qg S × U)},Ow B w0 w (aq gg ps xs::R)->ps[0]?=X p->ps[j+1]?=X p->qm
 | [],_,_,h,_=>by simp at h
 |q::ps,xs,h,h0,hj=>by
  have hl:=h.cz;cases xs with
  |nil=>simp at hl
  |cons y xs=>
   have e0:q=p:=Option.some.inj h0;subst e0;obtain⟨_,h⟩:=h.Ij;have hj:ps[j]?=X q:=hj;have hlt:=(Sz.1 hj).1;have hz:(SC gg (q::ps) (y::xs)++R)[j+1]?=X (gg q (xs[j]'(by simp at hl;omega))):=by rw[SM (by simp at hl|-;omega)];show(SC gg ps xs)[j]?=_;rw[Um,hj,gE (by simp at hl;omega)]
   exact Mg (h.take (j+1) hz)
theorem JU{q:S}[ale:eL (kI (X q)) L R](h:Ow B w0 w L):w.cell? (q.p.add 2)=X (.bool qd):=by obtain⟨c,h2⟩:=(h.pick (A:=kI (X q))).ex;exact h2.aA O
theorem L5.get(hx:L5 nc line x){c:U}(hc:c∈line):∃(j:S)(p:S),line[j]?=X c/\x.ps[j]?=X p/\x.wx[c.toNat]?=X (X p):=by
 obtain⟨j,hj⟩:=Tg.1 hc;have hlt:=(Sz.1 hj).1;have hl2:j<x.ps.length:=by rw[hx.ps];exact hlt
 have hp:x.ps[j]?=X x.ps[j]:=gE hl2;exact⟨j,_,hj,hp,hx.at_ j c _ hj hp⟩
theorem L5.out(hx:L5 nc line x){c:U}(h0:0<=c)(h1:c<(nc:U))(hc:c∉line):x.wx[c.toNat]?=X none:=hx.no c.toNat om (by rw[TS h0];exact hc)
theorem BE{c:U}{K:I->Pw}(h0:0<=c)(h1:c<(nc:U))(h:Ow B w0 w (bo b nc line::R))(hK:K G w):abV b.o c K w:=by apply aeW;obtain⟨x,hx,h⟩:=tD h;refine az om ?_;refine⟨_,O,h.l1 O ?_⟩;rw[qp h1];exact hK
theorem ma{K:qg qf->U->Pw}(n1:1<=nc)(n8:nc<=8)(h:Ow B w0 w R)(hK:∀b w',Ow B w0 w' (bo b nc []::R)->K b.o 0 w'):Zh (nc:U) K w:=by
 apply aeR;intro k hk;refine av om ?_;apply hk;refine av om ?_;have hb:ak2.bytes=8:=qa
 have hp48:(2:U)^48=281474976710656:=qb
 refine Ow.si (E:=nz) (z0:=Q) (zv:= .pointer Q) underlying337 (show qh.info? 338=X ak2 from by kernel_rfl) qa qa O (n:=(nc:U)) h om (by rw[hb,hp48];omega) (by rw[hp48];omega) λs w hs h=>?_;rw[SD]at h;refine h.al λw2 h=>?_;refine hK _ w2 (rf ⟨Q,s,SB nc Q,[]⟩ ⟨qc,O,Wu,λc hc=>(by cases hc),λj c p hj=>(by simp at hj),λi hi _=>(by rw[Un,Z hi])⟩ ?_);have h3:Ow B w0 w2 (aq gg [] []::kI Q::ae w.heap.size [.z (nc:U),.pointer Q,s.v]::ag nz s (SB nc Q)::R):=Ow.ic O (Ow.aR h);have h4:Ow B w0 w2 (ae w.heap.size [.z (nc:U),.pointer Q,s.v]::ag nz s (SB nc Q)::kI Q::aq gg [] []::R):=h3.sub;exact h4
theorem nQ{c:U}{K:U->Pw}(h0:0<=c)(h1:c<(nc:U))(hc:c∉line)(h:Ow B w0 w (bo b nc line::R))
  (hK:∀w',Ow B w0 w' (bo b nc (line++ [c])::R)->K 0 w'):XU b.o c K w:=by
 apply adC;refine BE h0 h1 h ?_;refine aV O ?_;obtain⟨x,hx,h⟩:=tD h;have hlen:=h.aF x.s;have hxl:=hx.len;refine⟨_,O,x.s,h.aA O,?_⟩;have ec:c=((c.toNat:S):U):=om
 refine h.cd (s:=x.s) ec (hx.out h0 h1 hc) λa ha hc0 hcc=>⟨_,hc0 _ O,?_⟩
 refine aV O ?_;refine⟨_,O,h.l2 O (h.a λp w1 h=>?_)⟩;refine⟨_,O,x.s,h.aA O,_,O,h.fD O O λw h=>?_⟩;refine⟨a,ha,h0,om,h.Ce (s:=x.s) (E:=nz) (i:=c) (X p) ec om ha O λw h=>?_⟩;refine hK w (rf ⟨x.a0,x.s,x.wx.set c.toNat (X p),x.ps++ [p]⟩ ?_ ?_)
 .have hps:=hx.ps
  refine⟨by rw[Ti];exact hxl,by simp[hps],?_,λd hd=>?_,λj d q hj hq=>?_,λi hi hn=>?_⟩
  .exact Ug.2 ⟨hx.nd,qc,λu hu v hv=>by rw[Tf]at hv;rintro rfl;exact hc (hv▸hu)⟩
  .rcases Tv.1 hd with hd|hd
   .exact hx.zr d hd
   .rw[Tf.1 hd];exact⟨h0,h1⟩
  .dsimp only at hq|-
   by_cases hjl:j<line.length
   .rw[SM hjl]at hj
    rw[SM om]at hq;have hd:=SU hj;have hr:=hx.zr d hd;rw[Uq (λe=>hc (by rw[show c=d from by omega];exact hd))];exact hx.at_ j d q hj hq
   .rw[SP om]at hj hq
    have e1:j-line.length=0:=by have:=(Sz.1 hj).1;simp at this;omega
    rw[e1]at hj;rw[hps,e1]at hq;cases hj;cases hq;rw[SQ om]
  .dsimp only
   rw[Uq (λe=>hn (List.mem_append_right _ (Tf.2 om)))];exact hx.no i hi λhm=>hn (UO _ hm)
 .show Ow B w0 w (ae b [.z (nc:U),.pointer ((kW x.a0 (x.ps++ [p])).map λq=>⟨q,0,Q⟩),x.s.v]::ag nz x.s (x.wx.set c.toNat (X p))::kI x.a0::aq gg (x.ps++ [p]) (chain x.a0 (x.ps++ [p]) (line++ [c]))::R)
  rw[nm,xo p c _ _ _ hx.ps];have h1:Ow B w0 w (ae p [.z c,.pointer ((kW x.a0 x.ps).map λq=>⟨q,0,Q⟩),.bool G]::aq gg x.ps (chain x.a0 x.ps line)::ae b [.z (nc:U),.q p,x.s.v]::ag nz x.s (x.wx.set c.toNat (X p))::kI x.a0::R):=h.sub;have h2:Ow B w0 w (gg p (kW x.a0 x.ps,c)::aq gg x.ps (chain x.a0 x.ps line)::ae b [.z (nc:U),.q p,x.s.v]::ag nz x.s (x.wx.set c.toNat (X p))::kI x.a0::R):=h1;have h3:=h2.ll;have h4:Ow B w0 w (ae b [.z (nc:U),.q p,x.s.v]::ag nz x.s (x.wx.set c.toNat (X p))::kI x.a0::aq gg (x.ps++ [p]) (chain x.a0 x.ps line++ [(kW x.a0 x.ps,c)])::R):=h3.sub;exact h4
theorem Da{R':J aG}{j p:S}{c:U}{K:I->Pw}(hx:L5 nc line x)(hj:line[j]?=X c)(hp:x.ps[j]?=X p)[ale:eL (aq gg x.ps (Ai x line)) L R][I2:eL (kI x.a0) L R'](h:Ow B w0 w L)
  (hK:K (qe (j=0)) w):abW p.o K w:=by
 apply aeX;have hg:=pQ x.ps line x.a0 j c hx.ps hj;obtain⟨g1,g2,g3⟩:=MT h hp hg;refine⟨_,O,_,g2,?_⟩;cases j with
 |zero=>
  rw[TZ]at g2|-;show bif (WD _ x.a0).isNone then _ else _;cases ha:x.a0 with
  |none=>exact aW O hK
  |some q=>
   rw[ha]at I2;have g2':w.cell? (p.p.add 1)=X (.q q):=by rw[g2];show X (Value.pointer (WD _ x.a0))=_;rw[ha];rfl
   refine aV O ⟨_,O,_,g2',_,O,_,JU (ale:=I2) h,hK⟩
 |succ j=>
  have hlt:j+1<x.ps.length:=(Sz.1 hp).1;have hjl:j<line.length:=by rw[<-hx.ps];omega
  have ht:x.ps.take (j+1)=x.ps.take j++ [x.ps[j]]:=by rw[SO,gE om];rfl
  rw[ht,nm]at g2|-;have hq:x.ps[j]?=X x.ps[j]:=gE om;obtain⟨_,_,k3⟩:=MT h hq (pQ x.ps line x.a0 j _ hx.ps (gE hjl));exact aV O ⟨_,O,_,g2,_,O,_,k3,hK⟩
theorem MB(hx:L5 nc line x){j:S}{c:U}(hj:line[j]?=X c):me line c=qe (j=0):=by
 unfold me;rw[qP,List.head?_eq_getElem?];refine⟨λe=>?_,λe=>by rw[<-e];exact hj⟩;have h0:=(Sz.1 e)
 have h1:=(Sz.1 hj)
 obtain⟨a0,b0⟩:=h0;obtain⟨a1,b1⟩:=h1;cases j with
 |zero=>rfl
 |succ j=>exact qk (b0.trans b1.symm) ((List.pairwise_iff_getElem.1 hx.nd) 0 (j+1) a0 a1 om)
theorem jY{c:U}{K:I->U->Pw}(h0:0<=c)(h1:c<(nc:U))(h:Ow B w0 w (bo b nc line::R))
  (hK:K (me line c) (if c∈line then 0 else 161) w):aaE b.o c K w:=by
 apply aeT;refine BE h0 h1 h ?_;refine aV O ?_;obtain⟨x,hx,h⟩:=tD h;have hlen:=h.aF x.s;have hxl:=hx.len;refine⟨_,O,x.s,h.aA O,?_⟩;have ec:c=((c.toNat:S):U):=om
 by_cases hc:c∈line
 .rw[Z hc]at hK
  obtain⟨j,p,hj,hp,hb⟩:=hx.get hc;refine h.cd (s:=x.s) ec hb λa ha hc0 hcc=>⟨_,hc0 _ O,?_⟩
  refine aV O ?_;refine⟨_,O,x.s,h.aA O,h.cd (s:=x.s) ec hb λa ha hc0 hcc=>⟨_,hc0 _ O,?_⟩⟩
  refine Da hx hj hp h ?_;rw[<-MB hx hj];exact hK
 .rw[Y hc]at hK
  refine h.cd (s:=x.s) ec (hx.out h0 h1 hc) λa ha hc0 hcc=>⟨_,hc0 _ O,?_⟩
  refine aW O ?_;have e:me line c=false:=ql λe=>hc (List.mem_of_mem_head? e);rw[e]at hK;exact hK
theorem vV{c:U}{cs:J U}{K:U->Pw}(h:Ow B w0 w (bo b nc (c::cs)::R))
  (hK:∀w',Ow B w0 w' (bo b nc cs::R)->K 0 w'):XV b.o c K w:=by
 obtain⟨x0,hx0,_⟩:=tD h;obtain⟨h0,h1⟩:=hx0.zr c Tz;apply adD;refine jY h0 h1 h ?_;rw[Z Tz,show me (c::cs) c=G from qp O];refine fh O (aV O ?_);clear hx0;obtain⟨x,hx,h⟩:=tD h;have hlen:=h.aF x.s;have hxl:=hx.len;have hpl:=hx.ps;obtain⟨a0,s,wx,ps⟩:=x;cases ps with
 |nil=>simp at hpl
 |cons p ps=>
  dsimp only at hlen hxl hpl h;have h:Ow B w0 w (ae b [.z (nc:U),.pointer ((kW (X p) ps).map λq=>⟨q,0,Q⟩),s.v]::ag nz s wx::kI a0::aq gg (p::ps) ((a0,c)::chain (X p) ps cs)::R):=h;have ec:c=((c.toNat:S):U):=om
  have hb:=hx.at_ 0 c p O O;dsimp only at hb;refine⟨_,O,s,h.aA O,h.cd (s:=s) ec hb λa ha hc0 hcc=>⟨_,hc0 _ O,?_⟩⟩
  have h:Ow B w0 w (aq gg (p::ps) ((a0,c)::chain (X p) ps cs)::ae b [.z (nc:U),.pointer ((kW (X p) ps).map λq=>⟨q,0,Q⟩),s.v]::ag nz s wx::R):=h.sub;have h:=K6 h;have h:Ow B w0 w (ae p [.z c,.pointer (a0.map λq=>⟨q,0,Q⟩),.bool G]::aq gg ps (chain (X p) ps cs)::ae b [.z (nc:U),.pointer ((kW (X p) ps).map λq=>⟨q,0,Q⟩),s.v]::ag nz s wx::R):=h;refine⟨_,O,h.fD O O λw h=>⟨_,O,?_⟩⟩
  refine h.fD O O λw h=>⟨_,O,s,?_,a,ha,h0,om,?_⟩
  .exact h.aA O
  refine h.Ce (s:=s) (E:=nz) (i:=c) Q ec om ha O λw h=>?_;refine hK w (rf ⟨X p,s,wx.set c.toNat Q,ps⟩ ?_ ?_)
  .have hnd:=List.nodup_cons.1 hx.nd
   refine⟨by rw[Ti];exact hxl,by simpa using hpl,hnd.2,λd hd=>hx.zr d (TC _ hd),λj d q hj hq=>?_,λi hi hn=>?_⟩
   .dsimp only at hq|-
    have hd:=SU hj;have hr:=hx.zr d (TC _ hd);rw[Uq (λe=>hnd.1 (by rw[show c=d from by omega];exact hd))];exact hx.at_ (j+1) d q hj hq
   .dsimp only
    by_cases e:c.toNat=i
    .subst e
     rw[SQ om]
    .rw[Uq e]
     exact hx.no i hi λhm=>by
      rcases SH.1 hm with hm|hm
      .omega
      .exact hn hm
  .have h2:Ow B w0 w (ae p [.z c,.pointer Q,.bool qd]::aq gg ps (chain (X p) ps cs)::ae b [.z (nc:U),.pointer ((kW (X p) ps).map λq=>⟨q,0,Q⟩),s.v]::ag nz s (wx.set c.toNat Q)::R):=h.sub
   have h3:Ow B w0 w (kI (X p)::aq gg ps (chain (X p) ps cs)::ae b [.z (nc:U),.pointer ((kW (X p) ps).map λq=>⟨q,0,Q⟩),s.v]::ag nz s (wx.set c.toNat Q)::R):=Ow.eu c h2;exact h3.sub
theorem uL{K:U->I->Pw}(hl8:nc<=8)(h:Ow B w0 w (bo b nc line::R))
  (hK:∀v w',Ow B w0 w' (bo b nc line::R)->K v (!line.isEmpty) w'):aaH b.o K w:=by
 apply aeU;obtain⟨x,hx,h⟩:=tD h;have hxl:=hx.len;refine⟨_,O,x.s,h.aA O,?_⟩;have hm:∀y∈x.wx,y=Q\/∃j c p,y=X p/\line[j]?=X c/\x.ps[j]?=X p:=λy hy=>by
  obtain⟨i,hi⟩:=Tg.1 hy;have hil:=(Sz.1 hi).1;by_cases hc:(i:U)∈line
  .obtain ⟨j,p,h1,h2,h3⟩:=hx.get hc
   rw[SD,hi]at h3;exact .inr ⟨j,_,p,Option.some.inj h3,h1,h2⟩
  .have:=hx.no i om hc
   rw[hi]at this;exact .inl (Option.some.inj this)
 refine wX (s:=x.s) (xs:=x.wx) (p:=λy=>match y with|none=>qd|some q=>qe (x.ps[0]?=X q)) h om (λy w alf hy h hQ=>?_) λw h=>?_
 .refine aY ?_
  show abZ (y.map λq=>⟨q,0,Q⟩) alf w;apply aeY;rcases hm y hy with rfl|⟨j,c,p,rfl,hj,hp⟩
  .exact aV O (hQ w h)
  .refine aW O ?_
   refine Da hx hj hp h ?_;have e:qe (x.ps[0]?=X p)=qe (j=0):=by
    rw[qP];refine⟨λe=>?_,λe=>by rw[<-e];exact hp⟩;cases j with
    |zero=>rfl
    |succ j=>
     exfalso;exact MU (h.pick (A:=aq gg x.ps (Ai x line))) e hp
   rw[<-e];exact hQ w h
 .have e:qe (eC (λy=>match y with|none=>qd|some q=>qe (x.ps[0]?=X q)) x.wx>=0)= !line.isEmpty:=by
   rw[kT];cases hl:line with
   |nil=>
    rw[Uv.2 λy hy=>?_]
    .rfl
    .rcases hm y hy with rfl|⟨j,c,p,rfl,hj,hp⟩
     .exact Bool.false_ne_true
     .rw[hl]at hj;simp at hj
   |cons c cs=>
    have hlt:0<x.ps.length:=by rw[hx.ps,hl];simp
    have hp:x.ps[0]?=X x.ps[0]:=gE hlt;have hb:=hx.at_ 0 c _ (by rw[hl];rfl) hp;rw[TY.2 ⟨X x.ps[0],SU hb,qp hp⟩];rfl
  rw[e];exact hK _ w (rf x hx h)
theorem pf{K:Sl->Pw}(hl8:nc<=8)(h:Ow B w0 w (bo b nc line::R))
  (hK:∀s w',Ow B w0 w' (ag ax s line::bo b nc line::R)->K s w'):aaJ b.o K w:=by
 apply aeV;obtain⟨x,hx,h⟩:=tD h;have hps:=hx.ps;have hbig:line.length<=8:=by
  have h1:(line.map Int.toNat).Nodup:=by rw[List.Nodup,UR];refine List.Pairwise.imp_of_mem (λ{a b}ha hb hab e=>?_) hx.nd;have h1:=hx.zr a ha;have h2:=hx.zr b hb;exact hab om
  have h2:=List.Nodup.length_le_of_subset (l₂:=SF nc) h1 λz hz=>by obtain⟨d,hd,rfl⟩:=Tj.1 hz;have:=hx.zr d hd;exact T6.2 om
  simp at h2;omega
 refine⟨_,O,h.l2 O ?_⟩;intro l hl;have loop:∀(r:S)(out:Sl)(w:W),r<=line.length->Ow B w0 w (ag ax out (line.drop r).reverse::ae b [.z (nc:U),.pointer ((G2 x).map λq=>⟨q,0,Q⟩),x.s.v]::ag nz x.s x.wx::kI x.a0::aq gg x.ps (Ai x line)::R)->
   l out ((kW x.a0 (x.ps.take r)).map λq=>⟨q,0,Q⟩) w:=by
  intro r;induction r with
  |zero=>
   intro out w hr h;apply hl;intro k hk;have fin:k qd w:=by
    apply hk;refine aV O ?_;refine CC h (by simp;omega) λw h=>?_;rw[T9,List.reverse_reverse]at h;exact hK out w (Ow.cC (rf x hx h.cC.sub))
   rw[TZ];show bif !(WD _ x.a0).isNone then _ else _;cases ha:x.a0 with
   |none=>exact aV O fin
   |some q=>
    have hd:w.cell? (q.p.add 2)=X (.bool qd):=by rw[ha]at h;exact JU h
    exact aW O ⟨_,O,_,hd,fin⟩
  |succ r ih=>
   intro out w hr h;have hrl:r<line.length:=om
   have hq:x.ps[r]?=X x.ps[r]:=gE om;have ht:x.ps.take (r+1)=x.ps.take r++ [x.ps[r]]:=by rw[SO,hq];rfl
   have hg:=pQ x.ps line x.a0 r _ hx.ps (gE hrl);obtain⟨g1,g2,g3⟩:=MT h hq hg;rw[ht,nm];apply hl;intro k hk;refine aW O ⟨_,O,_,g3,?_⟩;apply hk;refine aW O ⟨_,O,_,g1,?_⟩;refine h.a λd w1 h=>?_;refine eS (s:=out) (y:=line[r]) h (by simp;omega) λs' w hs' h=>?_;obtain⟨g1,g2,g3⟩:=MT h hq hg;refine⟨_,O,_,g2,ih s' w om ?_⟩;rw[TB hrl,List.reverse_cons];exact h.sub
 have e:x.ps.take line.length=x.ps:=SE om;have:=loop line.length z0 w (SA _) (by rw[List.drop_length];exact Ow.cB h);rw[e]at this;exact this
theorem Ei{p:S}{x':uu × Sl}:∀(ps:J S)(xs:J (uu × Sl))(j:S),ps[j]?=X p->gV ps (xs.set j x')=(gV ps xs).set j (cm p x')
 | [],xs,j,h=>by simp at h
 |_::_,[],j,_=>by cases j<;>simp
 |s::ps,r::xs,0,h=>by simp at h;subst h;simp
 |s::ps,r::xs,j+1,h=>by simp[Ei ps xs j (by simpa using h)]
theorem focus(hm:dn nc N g m){n:U}(h0:0<=n)(h1:n<(nc:U))(h:Ow B w0 w (bX pr b m::R)):
  ∃(x:Mx)(p:S)(fs:Sl)(ala:aG),(gV x.ps x.xs)[n.toNat]?=X (cm p (m.aj n,fs))/\(gV x.ps x.xs).length=nc/\
   Ow B w0 w (ae b (cX x)::ao x.k m.k::bo x.l nc m.line::cU x.b m.bx::ag cE x.cs (gV x.ps x.xs)::bu p m.room (m.aj n).tl::ag au fs (m.aj n).told.forget::ala::ag aN x.pr m.prog::R)/\
   ∀(R':J aG)(m':cV)(c':uu)(fs':Sl)(w':W),m'.cs=m.cs.set n.toNat c'->m'.room=m.room->m'.prog=m.prog->
    Ow B w0 w' (ae b (cX x)::ao x.k m'.k::bo x.l nc m'.line::cU x.b m'.bx::ag cE x.cs ((gV x.ps x.xs).set n.toNat (cm p (c',fs')))::bu p m.room c'.tl::ag au fs' c'.told.forget::ala::ag aN x.pr m.prog::R')->Ow B w0 w' (bX pr b m'::R'):=by
 obtain⟨x,⟨hx,hpr⟩,h⟩:=xI h;have hcs:=hm.cs;rw[hcs]at h;obtain⟨c1,_⟩:=hm.Gm h0 h1;have hxl:x.xs.length=nc:=by rw[<-hcs,<-hx,S9]
 have hpl:x.ps.length=x.xs.length:=Ow.cz (h.pick (A:=aq (cM m.room) x.ps x.xs));have hlt:n.toNat<nc:=om
 have hp:x.ps[n.toNat]?=X x.ps[n.toNat]:=gE om;generalize x.ps[n.toNat]=p at hp;have hxn:x.xs[n.toNat]?=X x.xs[n.toNat]:=gE om;have ec:x.xs[n.toNat].1=m.aj n:=by rw[<-hx,S2,hxn]at c1;exact Option.some.inj c1
 generalize hy:x.xs[n.toNat]=y at hxn ec;obtain⟨c,fs⟩:=y;dsimp only at ec;subst ec;refine⟨x,p,fs,aQ ((SC (cM m.room) x.ps x.xs).eraseIdx n.toNat),?_,?_,?_,λR' m' c' fs' w' e1 e2 e3 h=>?_⟩
 .rw[Um,hp,hxn]
 .rw[Uu];omega
 .have h2:=Ow.vF (h.pick (A:=aq (cM m.room) x.ps x.xs)) hp hxn
  have h3:Ow B w0 w (aQ [bu p m.room (m.aj n).tl,ag au fs (m.aj n).told.forget]::aQ ((SC (cM m.room) x.ps x.xs).eraseIdx n.toNat)::ae b (cX x)::ao x.k m.k::bo x.l nc m.line::cU x.b m.bx::ag cE x.cs (gV x.ps x.xs)::ag aN x.pr m.prog::R):=h2;have h4:Ow B w0 w (bu p m.room (m.aj n).tl::ag au fs (m.aj n).told.forget::aQ ((SC (cM m.room) x.ps x.xs).eraseIdx n.toNat)::ae b (cX x)::ao x.k m.k::bo x.l nc m.line::cU x.b m.bx::ag cE x.cs (gV x.ps x.xs)::ag aN x.pr m.prog::R):=h3.star;exact h4.sub
 .rw[<-Ei _ _ _ hp]at h
  have h2:Ow B w0 w' (bu p m.room c'.tl::ag au fs' c'.told.forget::aQ ((SC (cM m.room) x.ps x.xs).eraseIdx n.toNat)::ae b (cX x)::ao x.k m'.k::bo x.l nc m'.line::cU x.b m'.bx::ag cE x.cs (gV x.ps (x.xs.set n.toNat (c',fs')))::ag aN x.pr m.prog::R'):=h.sub;have h3:Ow B w0 w' (cM m.room p (c',fs')::aQ ((SC (cM m.room) x.ps x.xs).eraseIdx n.toNat)::ae b (cX x)::ao x.k m'.k::bo x.l nc m'.line::cU x.b m'.bx::ag cE x.cs (gV x.ps (x.xs.set n.toNat (c',fs')))::ag aN x.pr m.prog::R'):=Ow.aR h2;have h4:=Ow.cF (A:=cM m.room) hpl hp h3;refine lh { x with xs:=x.xs.set n.toNat (c',fs')} ⟨?_,hpr⟩ ?_
  .dsimp only
   rw[List.map_set,hx,e1]
  .rw[e2,e3,e1,Ti,hcs]
   exact h4.sub
theorem xq{s:Sl}{xs:J Cm}{y:Cm}{n:U}{alc:qf->Prop}[ale:bG s L Cm cE xs](h:Ow B w0 w L)(h0:0<=n)(hy:xs[n.toNat]?=X y)
  (hG:∀a,s.a=X a->(∀v,(cE.enc y)[0]?=X v->w.cell? (a.add (n.toNat*7))=X v)->(∀c v,(cE.enc y)[c]?=X v->w.cell? ((a.add (n.toNat*7)).add c)=X v)->alc a):
  ∃a,s.a=X a/\0<=n/\n<(s.len:U)/\alc a:=h.cd (s:=s) (show n=((n.toNat:S):U) by omega) hy hG
theorem jl{s:Sl}{xs:J Cm}{y:Cm}{n:U}[ale:bG s L Cm cE xs](h:Ow B w0 w L)(h0:0<=n)(hy:xs[n.toNat]?=X y){a:qf}(ha:s.a=X a):
  (∀v,(cE.enc y)[0]?=X v->w.cell? (a.add (n.toNat*7))=X v)/\(∀c v,(cE.enc y)[c]?=X v->w.cell? ((a.add (n.toNat*7)).add c)=X v):=h.O0 (s:=s) (show n=((n.toNat:S):U) by omega) hy ha
theorem fZ{c:S}{K:U->U->U->U->U->U->Sl->U->U->I->Pw}{l:J V}(hl:l.length=10)(h:Ow B w0 w (ae c l::R))(hK:∀w',Ow B w0 w' R->K 0 0 0 0 0 0 z0 0 0 qd w'):
  oy w c.p 0 [.z (0:U),.z (0:U),.z (0:U),.z (0:U),.y (0:U),.z (0:U),.slice Q 0 0,.z (0:U),.z (0:U),.bool qd] λw45=>
   hI w45 c.p 0 [.o,.o,.o,.o,.u,.o,.s,.o,.o,.b] λ(r46:U)(r47:U)(r48:U)(r49:U)(r50:U)(r51:U)(r52:Sl)(r53:U)(r54:U)(r55:I)=>
   K r46 r47 r48 r49 r50 r51 r52 r53 r54 r55 w45:=by
 obtain⟨v0,v1,v2,v3,v4,v5,v6,v7,v8,v9,rfl⟩:∃v0 v1 v2 v3 v4 v5 v6 v7 v8 v9,l= [v0,v1,v2,v3,v4,v5,v6,v7,v8,v9]:=by
  match l,hl with
  | [v0,v1,v2,v3,v4,v5,v6,v7,v8,v9],_=>exact⟨v0,v1,v2,v3,v4,v5,v6,v7,v8,v9,O⟩
 refine h.aB O O λw h=>?_;refine h.jJ (x6:=(z0:Sl)) O ?_;exact hK w h.drop
theorem cO{c:S}{K:U->U->U->U->U->U->Sl->U->U->I->Pw}{l:J V}{k n i e w1 wk p q:U}{fs:Sl}{is:I}(hl:l.length=10)(h:Ow B w0 w (ae c l::R))(hK:∀w',Ow B w0 w' R->K k n i e w1 wk fs p q is w'):
  oy w c.p 0 [.z k,.z n,.z i,.z e,.y w1,.z wk,fs.v,.z p,.z q,.bool is] λw45=>
   hI w45 c.p 0 [.o,.o,.o,.o,.u,.o,.s,.o,.o,.b] λ(r46:U)(r47:U)(r48:U)(r49:U)(r50:U)(r51:U)(r52:Sl)(r53:U)(r54:U)(r55:I)=>
   K r46 r47 r48 r49 r50 r51 r52 r53 r54 r55 w45:=by
 obtain⟨v0,v1,v2,v3,v4,v5,v6,v7,v8,v9,rfl⟩:∃v0 v1 v2 v3 v4 v5 v6 v7 v8 v9,l= [v0,v1,v2,v3,v4,v5,v6,v7,v8,v9]:=by
  match l,hl with
  | [v0,v1,v2,v3,v4,v5,v6,v7,v8,v9],_=>exact⟨v0,v1,v2,v3,v4,v5,v6,v7,v8,v9,O⟩
 refine h.aB O O λw h=>?_;refine h.jJ (x6:=fs) O ?_;exact hK w h.drop
theorem M3{x:Item}{c:U}{K:I->Pw}(h:Ow B w0 w R)(hK:∀w',Ow B w0 w' R->K (fN x c) w'):Zk x.kind x.core x.a x.b c K w:=by
 apply afl;refine h.a λd w1 h=>?_;have byt:∀(n:U)(w:W)(alf:I->Pw),alf (qe (0<=n/\n<=255)) w->fP qh (.func (.func 206) #[] #[]) [.z n] w λen w'=>∃r:I,en= .returned (.bool r)/\alf r w':=λn w alf hQ=>by
  refine aY ?_;show aaB n alf w;apply afm;refine bh (λe=>?_) (λe=>?_)
  .rw[show qe (n<=255)=qe (0<=n/\n<=255)from by rw[qP];omega]
   exact hQ
  .rw[ql (show ¬(0<=n/\n<=255) by omega)]at hQ
   exact hQ
 have no:∀w,Ow B w0 w (ae d [.z x.kind,.z x.core,.z x.a,.z x.b]::R)->¬(0<=x.kind/\x.kind<4/\0<=x.core/\x.core<min c 8/\(0<=x.a/\x.a<=255)/\(0<=x.b/\x.b<=255))->K qd w:=λw h e=>by have e2:fN x c=false:=ql e;rw[e2]at hK;exact hK w h.drop
 refine h.l1 O ?_;refine bh (λe1=>?_) (λe=>no _ h om);refine h.l1 O ?_;refine bh (λe2=>?_) (λe=>no _ h om);refine h.l2 O ?_;refine bh (λe3=>?_) (λe=>no _ h om);refine h.l2 O ?_;rw[show zl c 8=min c 8 from by unfold zl;omega];refine bh (λe4=>?_) (λe=>no _ h om);refine h.l2 O ?_;refine byt _ _ _ ?_;refine bh (λe5=>?_) (λe=>no _ h om);refine h.l2 O ?_;refine byt _ _ _ ?_;have e6:fN x c=qe (0<=x.b/\x.b<=255):=by unfold fN;rw[qP];omega
 rw[e6]at hK;exact hK _ h.drop
theorem free_spec{K:I->Pw}(hm:dn nc N g m)(h:Ow B w0 w (bX pr b m::R))(hK:∀w',Ow B w0 w' (bX pr b m::R)->K m.line.isEmpty w'):Zn b.o K w:=by
 apply ae9;obtain⟨x,hx,h⟩:=xI h;refine⟨_,O,h.l2 O (uL (by have:=hm.cs;have:=hm.n8;omega) (h.pick (A:=bo x.l m.cs.length m.line)) λv w h=>?_)⟩;rw[Bool.not_not];exact hK w (lh x hx h.sub)
theorem Gy{n:U}{K:I->Pw}(hm:dn nc N g m)(h:Ow B w0 w (bX pr b m::R))(hK:K (qe (0<=n/\n<(nc:U))) w):aaI b.o n K w:=by
 apply afi;obtain⟨x,hx,h⟩:=xI h;have hxl:x.xs.length=nc:=by rw[<-hm.cs,<-hx.1,S9]
 have hpl:x.ps.length=x.xs.length:=Ow.cz (h.pick (A:=aq (cM m.room) x.ps x.xs));have hlen:=h.aF x.cs;rw[Uu]at hlen;refine bh (λe=>?_) (λe=>?_)
 .refine ⟨_,O,h.l2 O ?_⟩
  rw[show qe (n<(x.cs.len:U))=qe (0<=n/\n<(nc:U))from by rw[qP];omega];exact hK
 .rw[ql (show ¬(0<=n/\n<(nc:U)) by omega)]at hK
  exact hK
theorem pa{w:W}{a:qf}{x:U × Tb.Pg}{f:U->U->U->Prop}(g:∀c v,(Tb.aP.enc x)[c]?=X v->w.cell? (a.add c)=X v)(hf:f x.1 x.2.1 x.2.2):
  hI w a 0 [.o,.o,.o] f:=⟨_,g 0 _ O,_,g 1 _ O,_,g 2 _ O,hf⟩
theorem fJ(a:qf)(i j:S):(a.add i).add j=a.add (i+j):=by
 unfold Addr.add;by_cases hj:j=0
 .subst hj;simp
 .by_cases hi:i=0
  .subst hi;simp[hj]
  .simp[hi,hj,Nat.add_assoc]
end
section
variable{B:S}{w0 w:W}{R L R':J aG}{b nc N g p:S}{m:cV}{x:Mx}{fs:Sl}{ala:aG}{c:uu}{ald:J Cm}{n:U}{s:Sl}{xs:J (U × Tb.Pg)}
theorem wV{p:(U × Tb.Pg)->I}{f:V}{K:U->Pw}[ale:bG s L (U × Tb.Pg) Tb.aP xs](h:Ow B w0 w L)(hbig:xs.length<=1000000000)
  (hf:∀(y:(U × Tb.Pg))(w:W)(alf:I->Pw),Ow B w0 w L->(∀w',Ow B w0 w' L->alf (p y) w')->fP qh f [.agg ⟨Tb.aP.enc y⟩] w λen w'=>∃r:I,en= .returned (.bool r)/\alf r w')
  (hK:∀w',Ow B w0 w' L->K (eC p xs) w'):acS s f K w:=by
 apply afJ;have hlen:=h.aF s;intro l hl;have loop:∀(rest:J (U × Tb.Pg))(j:S)(w:W),xs.drop j=rest->j<=xs.length->(∀i,i<j->∀y,xs[i]?=X y->p y=qd)->Ow B w0 w L->l (j:U) w:=by
  intro rest;induction rest with
  |nil=>
   intro j w hj hjl hno h;have:xs.length<=j:=by have:=qz TO hj;simp at this;omega
   apply hl;refine av om ?_;have hn:xs.findIdx? p=none:=by rw[Tt];intro y hy;obtain⟨i,hi⟩:=Tg.1 hy;exact hno i (by have:=(Sz.1 hi).1;omega) y hi
   have e:eC p xs= -1:=by unfold eC;rw[hn]
   rw[<-e];exact hK _ h
  |cons y rest ih=>
   intro j w hj hjl hno h;have hjl2:j<xs.length:=by have:=qz TO hj;simp at this;omega
   have hx:xs[j]?=X y:=by have:=qz (λl=>l[0]?) hj;simpa using this
   apply hl;refine az om ?_;refine h.cd O hx λa ha h0 hc=>?_;refine pa hc ?_;refine hf y w _ h λw h=>?_;cases hp:p y with
   |true=>
    refine aW O ?_;have hn:xs.findIdx? p=X j:=by
     rw[Tc];refine⟨hjl2,?_,λi hi=>?_⟩
     .rw[gE hjl2]at hx;cases hx;exact hp
     .have:=hno i hi xs[i] (gE om)
      simp[this]
    have e:eC p xs=(j:U):=by unfold eC;rw[hn]
    rw[<-e];exact hK _ h
   |false=>
    refine aV O ?_;rw[wr om om];refine ih (j+1) w (by rw[<-TK,hj];rfl) om (λi hi z hz=>?_) h;by_cases e:i=j
    .subst e;rw[hx]at hz;cases hz;exact hp
    .exact hno i om z hz
 exact loop xs 0 w O om (λi hi=>by omega) h
abbrev OL(b nc:S)(x:Mx)(p:S)(fs:Sl)(ala:aG)(m:cV)(c:uu)(ald:J Cm)(R:J aG):J aG:=
 ae b (cX x)::ao x.k m.k::bo x.l nc m.line::cU x.b m.bx::ag cE x.cs ald::bu p m.room c.tl::ag au fs c.told.forget::ala::ag aN x.pr m.prog::R
theorem J6{α:Type}(q:α->I)(l:J α):(∀i,l.findIdx? q=X i->∃y,l[i]?=X y/\l.find? q=X y)/\(l.findIdx? q=Q->l.find? q=Q):=by
 constructor
 .intro i hi
  obtain⟨h1,h2,h3⟩:=Tc.1 hi;refine⟨l[i],gE h1,?_⟩;rw[Vt];exact⟨h2,i,h1,O,λj hj=>by simpa using h3 j hj⟩
 .intro h
  rw[Tt]at h;exact VQ.2 λy hy=>by rw[h y hy];decide
theorem I8{aX:U}{K:U->U->I->Pw}[ale:eB b L (cX x)][ak8:eL (ao x.k m.k) L R'](hpg:(m.k.fo 0).length<=1000000000)(h:Ow B w0 w L)
  (hK:∀w',Ow B w0 w' (ao x.k m.k::R')->K ((m.walk aX).getD (0,0)).1 ((m.walk aX).getD (0,0)).2 (m.walk aX).isSome w'):abR b.o aX K w:=by
 apply afj;refine h.a λc1 w1 h=>?_;refine h.a λc2 w2 h=>?_;refine⟨_,O,h.l1 O ?_⟩;have h:Ow B w0 w2 (ao x.k m.k::ae c2 [.z 0,.z 0]::ae c1 [.z aX]::R'):=h.pick (A:=ao x.k m.k);refine kJ h λs w h=>?_;have hlen:=h.aF s;refine wV (s:=s) (xs:=m.k.fo 0) (p:=λy=>y.1==aX) h hpg (λy w alf h hQ=>aY ?_) λw h=>?_
 .show acT y.1 y.2.1 y.2.2 c1.p alf w
  apply afk;refine h.a λd w3 h=>?_;exact⟨_,h.aE O,_,h.aE O,hQ _ h.drop⟩
 .unfold cV.walk at hK
  obtain⟨f1,f2⟩:=J6 (λy:U × Tb.Pg=>y.1==aX) (m.k.fo 0);unfold eC;cases hi:(m.k.fo 0).findIdx? (λy=>y.1==aX)with
  |none=>
   rw[f2 hi]at hK;refine az qb ?_;refine h.aB O O λw h=>?_;refine h.aM O ?_;exact hK w h.sub
  |some i=>
   obtain⟨y,hy,hf⟩:=f1 i hi;rw[hf]at hK;refine av qc ?_;refine h.cd (s:=s) (i:=(i:U)) (j:=i) O hy λa ha hc0 hc=>?_;refine⟨_,by rw[fJ];exact hc 1 _ O,_,by rw[fJ];exact hc 2 _ O,?_⟩;refine h.aB O O λw h=>?_;refine h.aM O ?_;exact hK w h.sub
theorem HZ{aX:U}{K:U->U->U->U->U->U->Sl->U->U->I->I->Pw}(h0:0<=n)(hZ:ald[n.toNat]?=X (cm p (c,fs)))(hr:1<=m.room)(ht:c.tl.length<=1000000)(hpg:(m.k.fo 0).length<=1000000000)
  (h:Ow B w0 w (OL b nc x p fs ala m c ald R))
  (hK:∀w',Ow B w0 w' (OL b nc x p fs ala m { c with tl:=(m.loadT aX c.tl).2.2} ald R)->K 3 n aX 0 0 0 z0 (m.loadT aX c.tl).1.1 (m.loadT aX c.tl).1.2 (m.loadT aX c.tl).2.1 G w'):aaC b.o n aX K w:=by
 apply aff;refine h.a λd w1 h=>?_;refine⟨_,O,x.cs,h.aA O,xq (s:=x.cs) h h0 hZ λa ha hc0 hc=>⟨_,O,_,hc0 _ O,?_⟩⟩
 refine zB (b:=p) (l:=c.tl) (room:=m.room) ht (h.pick (A:=bu p m.room c.tl)) λw h=>?_;refine h.a λe w2 h=>?_;refine h.aB O O λw h=>?_;intro k16 hk16;unfold cV.loadT at hK;cases hl:look 0 aX c.tl with
 |some q=>
  rw[hl]at h hK;refine aV O ?_;apply hk16;refine h.aM O ?_;have h:Ow B w0 w (ae d [.z 0,.z 0,.z 0,.z 0,.y 0,.z 0,.slice Q 0 0,.z 0,.z 0,.bool qd]::OL b nc x p fs ala m c ald R):=h.sub;exact cO (fs:=z0) O h λw h=>hK w h
 |none=>
  rw[hl]at h hK;refine aW O ?_;refine I8 (x:=x) (m:=m) hpg h λw h=>?_;refine h.aB O O λw h=>?_;cases hw:m.walk aX with
  |none=>
   rw[hw]at h hK;refine aV O ?_;apply hk16;refine h.aM O ?_;have h:Ow B w0 w (ae d [.z 0,.z 0,.z 0,.z 0,.y 0,.z 0,.slice Q 0 0,.z 0,.z 0,.bool qd]::OL b nc x p fs ala m c ald R):=h.sub;exact cO (fs:=z0) O h λw h=>hK w h
  |some q=>
   rw[hw]at h hK;refine aW O ?_;refine h.dr λw h=>?_;refine⟨_,O,_,(jl (s:=x.cs) h h0 hZ ha).1 _ O,h.aM O (Go.Vc.a2 (zA (b:=p) (x:=⟨0,aX,q.1,q.2⟩) (l:=c.tl) (room:=m.room) hr ht (h.pick (A:=bu p m.room c.tl)) λw h=>?_))⟩;apply hk16;refine h.aM O ?_;have h:Ow B w0 w (ae d [.z 0,.z 0,.z 0,.z 0,.y 0,.z 0,.slice Q 0 0,.z 0,.z 0,.bool qd]::OL b nc x p fs ala m { c with tl:=fill m.room ⟨0,aX,q.1,q.2⟩ c.tl} ald R):=h.sub;exact cO (fs:=z0) O h λw h=>hK w h
theorem EY{K:I->Pw}(h0:0<=n)(h1:n<(m.bx.length:U))(h64:∀l∈m.bx,l.length<=64)(hZ:ald[n.toNat]?=X (cm p (c,fs)))(ht:c.tl.length<=1000000)(h:Ow B w0 w (OL b nc x p fs ala m c ald R))
  (hK0:m.box n= []->∀w',Ow B w0 w' (OL b nc x p fs ala m c ald R)->K qd w')
  (hK1:∀y r,m.box n=y::r->∀w',Ow B w0 w' (OL b nc x p fs ala { m with bx:=m.bx.set n.toNat r} { c with tl:=drop (qj.wrap (y.about.tdiv 4096)) (y.about.tmod 4096) c.tl} ald R)->K G w'):aaD b.o n K w:=by
 apply afg;refine⟨_,O,h.l2 O (zd (bx:=m.bx) h0 h1 h64 (h.pick (A:=cU x.b m.bx)) (λe w h=>?_) λy r e w h=>?_)⟩
 .refine h.a λd w2 h=>?_;refine h.aB O O λw h=>?_
  refine aV O ?_;exact hK0 (by unfold cV.box;rw[e];rfl) w h.sub
 .refine h.a λd w2 h=>?_;refine h.aB O O λw h=>?_
  refine aW O ?_;refine h.dr λw h=>?_;refine⟨_,O,x.cs,h.aA O,xq (s:=x.cs) h h0 hZ λa ha hc0 hc=>⟨_,hc0 _ O,_,h.aA O,qb,_,h.aA O,qb,Go.Vc.a2 ?_⟩⟩
  refine rL (b:=p) (l:=c.tl) (room:=m.room) ht (h.pick (A:=bu p m.room c.tl)) λv w h=>?_;exact hK1 y r (by unfold cV.box;rw[e];rfl) w h.sub
theorem vd{e u wk:U}{F:J dM}{K:U->U->U->Sl->Pw}[ale:bG fs L dM au F](hF:F.length<=1000000)(h:Ow B w0 w L)
  (hK:∀s w',Ow B w0 w' (ag au s F::L)->K e u wk s w'):Zv e u wk fs K w:=by
 apply afb;refine h.a λd w1 h=>?_;refine h.a λd2 w2 h=>?_;refine⟨fs,h.aA O,ur (s:=fs) h hF λs w h=>?_⟩;refine h.fD O O λw h=>?_;refine h.gn (x3:=s) O ?_;refine h.aB O O λw h=>?_;refine h.gn (x3:=s) O ?_;exact hK s w h.sub
theorem Ky{w:W}{a:qf}{x:Call}{f:U->U->U->U->U->U->Prop}(g:∀c v,(aN.enc x)[c]?=X v->w.cell? (a.add c)=X v)(hf:f x.ask x.at_ x.ay x.a x.b x.c):
  hI w a 0 [.o,.o,.o,.o,.o,.o] f:=⟨_,g 0 _ O,_,g 1 _ O,_,g 2 _ O,_,g 3 _ O,_,g 4 _ O,_,g 5 _ O,hf⟩
theorem jN(n:U):∀(l:J dM)(b:J (J cD)),(sendAll n l b).length=b.length
 | [],b=>rfl
 |x::l,b=>by show(sendAll n l (oB n (sW x) b)).length=_;rw[jN n l,CE]
theorem sH(n:U):∀(l:J dM)(b:J (J cD)),(∀r∈b,r.length<=64)->∀r∈sendAll n l b,r.length<=64
 | [],b,h=>h
 |x::l,b,h=>sH n l _ (Gc h)
theorem oR:∀(l t:J dM),(bU l t).length<=t.length
 | [],t=>SA _
 |x::l,t=>SY (oR l _) (kN x.space x.aX t)
theorem tf(l:J dM)(x:dM)(t:J dM):bU (l++ [x]) t=drop x.space x.aX (bU l t):=by unfold bU;rw[VZ];rfl
theorem tV(n:U)(l:J dM)(x:dM)(b:J (J cD)):sendAll n (l++ [x]) b=oB n (sW x) (sendAll n l b):=by unfold sendAll;rw[VZ];rfl
end
section
variable{B:S}{w0 w:W}{R L R':J aG}{b nc N g p:S}{m:cV}{x:Mx}{fs:Sl}{ala:aG}{c:uu}{ald:J Cm}{n:U}{line:J U}{pr s:Sl}{xs:J Cm}{y:Cm}{a:qf}
theorem N0{e u wk:U}{f:Sl}{k:Pw}[ale:bG s L Cm cE xs][ak8:eL (ag cE s xs) L R'](h:Ow B w0 w L)(h0:0<=n)(hy:xs[n.toNat]?=X y)(ha:s.a=X a)
  (hk:∀w',Ow B w0 w' (ag cE s (xs.set n.toNat ⟨y.p,y.bH,y.n,e,u,wk,f⟩)::R')->k w'):oy w ((a.add (n.toNat*7)).add 3) 0 [.z e,.y u,.z wk,f.v] k:=by
 have ei:n=((n.toNat:S):U):=om
 have hlt:=(Sz.1 hy).1;show St w (((a.add (n.toNat*7)).add 3).add 0) _ _;rw[fJ];refine h.mT (s:=s) (E:=cE) (i:=n) ⟨y.p,y.bH,y.n,e,y.w,y.wk,y.fs⟩ ei hy ha O qb O λw h=>?_;show St w (((a.add (n.toNat*7)).add 3).add 1) _ _;rw[fJ];refine h.mT (s:=s) (E:=cE) (i:=n) ⟨y.p,y.bH,y.n,e,u,y.wk,y.fs⟩ ei (SQ hlt) ha O qb O λw h=>?_;show St w (((a.add (n.toNat*7)).add 3).add 2) _ _;rw[fJ];refine h.mT (s:=s) (E:=cE) (i:=n) ⟨y.p,y.bH,y.n,e,u,wk,y.fs⟩ ei (SQ (by rw[Ti];exact hlt)) ha O qb O λw h=>?_;show St w (((a.add (n.toNat*7)).add 3).add 3) _ _;rw[fJ];refine h.mT (s:=s) (E:=cE) (i:=n) ⟨y.p,y.bH,y.n,e,u,wk,f⟩ ei (SQ (by rw[Ti,Ti];exact hlt)) ha O qb O λw h=>?_;rw[Ul,Ul,Ul]at h;exact hk w h
theorem Bk{v:U}{k:Pw}[ale:bG s L Cm cE xs][ak8:eL (ag cE s xs) L R'](h:Ow B w0 w L)(h0:0<=n)(hy:xs[n.toNat]?=X y)(ha:s.a=X a)
  (hk:∀w',Ow B w0 w' (ag cE s (xs.set n.toNat ⟨y.p,v,y.n,y.e,y.w,y.wk,y.fs⟩)::R')->k w'):St w ((a.add (n.toNat*7)).add 1) (.z v) k:=
 h.mT (s:=s) (E:=cE) (i:=n) ⟨y.p,v,y.n,y.e,y.w,y.wk,y.fs⟩ (show n=((n.toNat:S):U) by omega) hy ha O qb O hk
theorem NZ{v:U}{k:Pw}[ale:bG s L Cm cE xs][ak8:eL (ag cE s xs) L R'](h:Ow B w0 w L)(h0:0<=n)(hy:xs[n.toNat]?=X y)(ha:s.a=X a)
  (hk:∀w',Ow B w0 w' (ag cE s (xs.set n.toNat ⟨y.p,y.bH,v,y.e,y.w,y.wk,y.fs⟩)::R')->k w'):St w ((a.add (n.toNat*7)).add 2) (.z v) k:=
 h.mT (s:=s) (E:=cE) (i:=n) ⟨y.p,y.bH,v,y.e,y.w,y.wk,y.fs⟩ (show n=((n.toNat:S):U) by omega) hy ha O qb O hk
theorem Gn{f:U->U->U->Sl->Prop}[ale:bG s L Cm cE xs](h:Ow B w0 w L)(h0:0<=n)(hy:xs[n.toNat]?=X y)(ha:s.a=X a)(hf:f y.e y.w y.wk y.fs):
  hI w ((a.add (n.toNat*7)).add 3) 0 [.o,.u,.o,.s] f:=by
 have g:=(jl (s:=s) h h0 hy ha).2;exact⟨_,by rw[fJ];exact g 3 _ O,_,by rw[fJ];exact g 4 _ O,_,by rw[fJ];exact g 5 _ O,y.fs,by rw[fJ];exact g 6 _ O,hf⟩
theorem JW{call:Call}{K:U->U->U->U->U->U->Sl->U->U->I->Pw}(h0:0<=n)(h1:n<(m.bx.length:U))(h8:m.bx.length<=8)(h64:∀l∈m.bx,l.length<=64)(hZ:ald[n.toNat]?=X (cm p (c,fs)))(ht:c.tl.length<=1000000)
  (hn0:0<=c.n) (hpr:m.prog[c.n.toNat]?=X call) (hk:bD N m.k) (hN:N+64<=100000) (hw0: -9223372036854775808<=call.ay) (hw1:call.ay<9223372036854775808) (hF:(m.k.do n call).1.forget.length<=1000000)
  (h:Ow B w0 w (OL b nc x p fs ala m c ald R))
  (hK:∀s fs' w',Ow B w0 w' (ag au s (m.k.do n call).1.forget::OL b nc x p fs' ala { m with k:=(m.k.do n call).2,bx:=sendAll n (m.k.do n call).1.forget m.bx} ⟨bU (m.k.do n call).1.forget c.tl,3,c.n,(m.k.do n call).1⟩ (ald.set n.toNat (cm p (⟨bU (m.k.do n call).1.forget c.tl,3,c.n,(m.k.do n call).1⟩,fs'))) R)->
   K 1 n c.n (m.k.do n call).1.e (m.k.do n call).1.w (m.k.do n call).1.cv s 0 0 qd w'):aaF b.o n K w:=by
 apply afh;refine h.a λd w1 h=>?_;have hlt:=(Sz.1 hZ).1;refine⟨_,O,x.cs,h.aA O,xq (s:=x.cs) h h0 hZ λa ha hc0 hc=>?_⟩;refine h.dr λw h=>?_;refine⟨_,O,_,h.aE O,_,O,x.pr,h.aA O,_,O,c.n,(jl (s:=x.cs) h h0 hZ ha).2 2 _ O,h.cd (s:=x.pr) (show c.n=((c.n.toNat:S):U) by omega) hpr λa2 ha2 hd0 hd=>?_⟩;refine Ky hd (Go.Vc.a2 ?_);refine L3 (c:=call) hk hN hw0 hw1 (h.pick (A:=ao x.k m.k)) λfs' w h=>⟨_,O,Go.Vc.a2 ?_⟩
 generalize (m.k.do n call).1=told at*
 generalize (m.k.do n call).2=k' at*
 refine N0 (s:=x.cs) h h0 hZ ha λw h=>?_;have hZ1:(ald.set n.toNat ⟨p,c.bH,c.n,told.e,told.w,told.cv,fs'⟩)[n.toNat]?=X ⟨p,c.bH,c.n,told.e,told.w,told.cv,fs'⟩:=SQ hlt;have hset:∀q,(ald.set n.toNat ⟨p,c.bH,c.n,told.e,told.w,told.cv,fs'⟩).set n.toNat q=ald.set n.toNat q:=λq=>Ul ..;have h:Ow B w0 w (ag cE x.cs (ald.set n.toNat ⟨p,c.bH,c.n,told.e,told.w,told.cv,fs'⟩)::_):=h;generalize ald.set n.toNat ⟨p,c.bH,c.n,told.e,told.w,told.cv,fs'⟩=Z1 at h hZ1 hset;refine⟨_,O,fs',by rw[fJ];exact(jl (s:=x.cs) h h0 hZ1 ha).2 6 _ O,?_⟩;have hflen:=h.aF fs';intro l hl;have loop:∀(rest pre:J dM)(w:W),told.forget=pre++rest->Ow B w0 w (ae d [.z 0,.z 0,.z 0,.z 0,.y 0,.z 0,.slice Q 0 0,.z 0,.z 0,.bool qd]::ag au fs' told.forget::ae b (cX x)::ao x.k k'::bo x.l nc m.line::cU x.b (sendAll n pre m.bx)::ag cE x.cs Z1::bu p m.room (bU pre c.tl)::ala::ag aN x.pr m.prog::R)->l (pre.length:U) w:=by
  intro rest;induction rest with
  |nil=>
   intro pre w hp h;rw[SL]at hp;subst hp;apply hl;refine av om ⟨_,O,?_⟩;refine Bk (s:=x.cs) h h0 hZ1 ha λw h=>?_;rw[hset]at h;have hZ2:(ald.set n.toNat ⟨p,3,c.n,told.e,told.w,told.cv,fs'⟩)[n.toNat]?=X ⟨p,3,c.n,told.e,told.w,told.cv,fs'⟩:=SQ hlt;refine h.dr λw h=>?_;refine⟨_,O,_,O,Gn (s:=x.cs) h h0 hZ2 ha ⟨_,(jl (s:=x.cs) h h0 hZ2 ha).2 2 _ O,Go.Vc.a2 (vd (F:=told.forget) hF h λs2 w h=>⟨(jl (s:=x.cs) h h0 hZ2 ha).2 2 _ O,Go.Vc.a2 ?_⟩)⟩⟩
   have h:Ow B w0 w (ae d [.z 0,.z 0,.z 0,.z 0,.y 0,.z 0,.slice Q 0 0,.z 0,.z 0,.bool qd]::ag au s2 told.forget::ae b (cX x)::ao x.k k'::bo x.l nc m.line::cU x.b (sendAll n told.forget m.bx)::ag cE x.cs (ald.set n.toNat ⟨p,3,c.n,told.e,told.w,told.cv,fs'⟩)::bu p m.room (bU told.forget c.tl)::ag au fs' told.forget::ala::ag aN x.pr m.prog::R):=h.sub;exact cO (fs:=s2) O h λw h=>hK s2 fs' w h
  |cons z rest ih=>
   intro pre w hp h;have hlen2:told.forget.length=pre.length+(rest.length+1):=by rw[hp];simp
   have hz:told.forget[pre.length]?=X z:=by rw[hp];simp
   have htl:=oR pre c.tl;apply hl;refine az om ?_;refine h.cd (s:=fs') O hz λa3 ha3 he0 he=>?_;refine rG he ?_;refine h.a λe w2 h=>?_;refine h.aB O O λw h=>?_;refine h.dr λw h=>?_;refine⟨_,O,_,(jl (s:=x.cs) h h0 hZ1 ha).1 _ O,_,h.aE O,_,h.aA O,Go.Vc.a2 (rL (b:=p) (l:=bU pre c.tl) (room:=m.room) om (h.pick (A:=bu p m.room (bU pre c.tl))) λv w h=>?_)⟩;refine h.dr λw h=>?_;refine⟨_,O,_,h.aA O,_,h.aE O,_,h.aA O,Go.Vc.a2 (Bf (bx:=sendAll n pre m.bx) h0 (by rw[jN];exact h1) (by rw[jN];exact h8) (sH n pre _ h64) (h.pick (A:=cU x.b (sendAll n pre m.bx))) λv2 w h=>?_)⟩;rw[show qj.wrap ((pre.length:U)+1)=(((pre++ [z]).length:S):U)from by rw[wr om om,SG];rfl];refine ih (pre++ [z]) w (by rw[hp];simp) ?_;rw[tf,tV];have h:Ow B w0 w (cU x.b (oB n (sW z) (sendAll n pre m.bx))::_):=h;exact h.sub
 have h2:Ow B w0 w (ae d [.z 0,.z 0,.z 0,.z 0,.y 0,.z 0,.slice Q 0 0,.z 0,.z 0,.bool qd]::ag au fs' told.forget::ae b (cX x)::ao x.k k'::bo x.l nc m.line::cU x.b m.bx::ag cE x.cs Z1::bu p m.room c.tl::ala::ag aN x.pr m.prog::R):=h.sub;exact loop told.forget [] w O h2
def ux(l:J Call):Prop:=∀c∈l,-9223372036854775808<=c.ay/\c.ay<9223372036854775808
theorem mm{α:Type}{l:J α}{j:S}{y:α}(h:l[j]?=X y):l.set j y=l:=by obtain⟨p,q⟩:=Sz.1 h;rw[<-q];exact UH p
theorem JV(hn:n.toNat<m.cs.length):(m.HD n).2={ m with k:=(m.k.do n (m.aI n)).2,bx:=sendAll n (m.k.do n (m.aI n)).1.forget m.bx,cs:=m.cs.set n.toNat ⟨bU (m.k.do n (m.aI n)).1.forget (m.aj n).tl,3,(m.aj n).n,(m.k.do n (m.aI n)).1⟩}:=by unfold cV.HD;dsimp only;rw[yD n _ _ (by show n.toNat<(m.cs.set _ _).length;rw[Ti];exact hn),zX (m:={ m with k:=(m.k.do n (m.aI n)).2}) hn];unfold cV.gF cV.aj;dsimp only;simp only[Ul,SQ hn,TR]
theorem BC{c:U}{K:U->Pw}(h0:0<=c)(h1:c<(nc:U))(h:Ow B w0 w (bo b nc line::R))
  (hK:∀e w',Ow B w0 w' (bo b nc (iG line c)::R)->K e w'):XU b.o c K w:=by
 unfold iG at hK;by_cases hc:c∈line
 .rw[Z hc]at hK
  apply adC;refine BE h0 h1 h ?_;refine aV O ?_;obtain⟨x,hx,h⟩:=tD h;refine⟨_,O,x.s,h.aA O,?_⟩;obtain⟨j,p,hj,hp,hb⟩:=hx.get hc;refine h.cd (s:=x.s) (show c=((c.toNat:S):U) by omega) hb λa ha hc0 hcc=>⟨_,hc0 _ O,?_⟩
  exact aW O (hK _ w (rf x hx h))
 .rw[Y hc]at hK
  exact nQ h0 h1 hc h λw h=>hK _ w h
theorem BD{c:U}{K:U->Pw}(h0:0<=c)(h1:c<(nc:U))(h:Ow B w0 w (bo b nc line::R))
  (hK:∀e w',Ow B w0 w' (bo b nc (gd line c)::R)->K e w'):XV b.o c K w:=by
 unfold gd at hK;by_cases hc:line.head?=X c
 .rw[Z hc]at hK
  cases line with
  |nil=>cases hc
  |cons d cs=>
   cases hc;exact vV h λw h=>hK _ w h
 .rw[Y hc]at hK
  apply adD;refine jY h0 h1 h ?_;rw[show me line c=qd from ql hc];refine pR (λe=>hK _ w h) (λe=>?_);exact aW O (hK _ w h)
abbrev kg(K:U->U->U->U->U->U->Sl->U->U->I->I->Pw)(r:qg Seen)(fs:Sl)(w:W):Prop:=
 K (r.getD eD).kind (r.getD eD).core (r.getD eD).n (r.getD eD).t.e (r.getD eD).t.w (r.getD eD).t.cv fs (r.getD eD).p.1 (r.getD eD).p.2 (r.getD eD).is r.isSome w
theorem IU{K:U->U->U->U->U->U->Sl->U->U->I->I->Pw}(hm:dn nc N g m)(hN:N+64<=100000)(hg:g<=900000)(hpr:ux m.prog)(h0:0<=n)(h1:n<(nc:U))(h:Ow B w0 w (bX pr b m::R))
  (hK:∀fs w',Ow B w0 w' (ag au fs ((m.step n).1.getD eD).t.forget::bX pr b (m.step n).2::R)->kg K (m.step n).1 fs w'):Zm b.o n K w:=by
 apply ae8;refine h.a λd w1 h=>?_;obtain⟨x,p,fs,ala,hZ,hzl,h,back⟩:=focus hm h0 h1 h.cC;obtain⟨hc1,hc2⟩:=hm.Gm h0 h1;have htl:=hm.tl _ hc2;have hr8:=hm.r8;have hfg:=hm.fg _ hc2;have hbx:=hm.bx;have hn8:=hm.n8;have hlt:n.toNat<m.cs.length:=(Sz.1 hc1).1;refine⟨_,O,x.cs,h.aA O,xq (s:=x.cs) h h0 hZ λa ha hc0 hc=>?_⟩;refine EY (m:=m) (x:=x) (p:=p) (fs:=fs) (ala:=ala) (c:=m.aj n) (ald:=gV x.ps x.xs) h0 om hm.EK hZ om h (λe w h=>?_) λy r e w h=>?_
 .have none_:∀w,(m.step n)=(Q,m)->Ow B w0 w (OL b nc x p fs ala m (m.aj n) (gV x.ps x.xs) (ae d [.z 0,.z 0,.z 0,.z 0,.y 0,.z 0,.slice Q 0 0,.z 0,.z 0,.bool qd]::R))->
    oy w d.p 0 [.z (0:U),.z (0:U),.z (0:U),.z (0:U),.y (0:U),.z (0:U),.slice Q 0 0,.z (0:U),.z (0:U),.bool qd] λw45=>
     hI w45 d.p 0 [.o,.o,.o,.o,.u,.o,.s,.o,.o,.b] λ(r46:U)(r47:U)(r48:U)(r49:U)(r50:U)(r51:U)(r52:Sl)(r53:U)(r54:U)(r55:I)=>
     K r46 r47 r48 r49 r50 r51 r52 r53 r54 r55 qd w45:=λw es h=>by
   rw[es]at hK;have h:Ow B w0 w (ae d [.z 0,.z 0,.z 0,.z 0,.y 0,.z 0,.slice Q 0 0,.z 0,.z 0,.bool qd]::OL b nc x p fs ala m (m.aj n) (gV x.ps x.xs) R):=h.sub;exact fZ (K:=λa b c d e f g h i j w=>K a b c d e f g h i j qd w) O h λw h=>hK z0 w (Ow.cB (back R m (m.aj n) fs w (mm hc1).symm O O (by rw[mm hZ];exact h)))
  refine aV O ⟨_,O,_,(jl (s:=x.cs) h h0 hZ ha).2 1 _ O,?_⟩;refine dW (λe1=>?_) (λe1=>?_)
  .have e1:(m.aj n).bH=1:=e1
   refine⟨_,O,h.l2 O (BC h0 h1 (h.pick (A:=bo x.l nc m.line)) λv w h=>⟨_,O,?_⟩)⟩
   refine Bk (s:=x.cs) h h0 hZ ha λw h=>⟨_,O,(m.aj n).n,(jl (s:=x.cs) h h0 (SQ (by rw[hzl];omega)) ha).2 2 _ O,?_⟩
   have es:m.step n=(X ⟨0,n,(m.aj n).n,tZ,(0,0),qd⟩,{ m with line:=iG m.line n}.gF n { m.aj n with bH:=2}):=by unfold cV.step;rw[e];dsimp only;rw[Z e1]
   rw[es]at hK;have h:Ow B w0 w (ae d [.z 0,.z 0,.z 0,.z 0,.y 0,.z 0,.slice Q 0 0,.z 0,.z 0,.bool qd]::ae b (cX x)::ao x.k m.k::bo x.l nc (iG m.line n)::cU x.b m.bx::ag cE x.cs ((gV x.ps x.xs).set n.toNat (cm p ({ m.aj n with bH:=2},fs)))::bu p m.room (m.aj n).tl::ag au fs (m.aj n).told.forget::ala::ag aN x.pr m.prog::R):=Ow.sub (show Ow B w0 w (ag cE x.cs ((gV x.ps x.xs).set n.toNat (cm p ({ m.aj n with bH:=2},fs)))::_)from h);exact cO (K:=λa b c d e f g h i j w=>K a b c d e f g h i j G w) (fs:=z0) O h λw h=>hK z0 w (Ow.cB (back R ({ m with line:=iG m.line n}.gF n { m.aj n with bH:=2}) { m.aj n with bH:=2} fs w O O O h))
  .have e1:(m.aj n).bH≠1:=e1
   refine⟨_,O,_,(jl (s:=x.cs) h h0 hZ ha).2 1 _ O,dW (λe2=>?_) (λe2=>?_)⟩
   .have e2:(m.aj n).bH=2:=e2
    refine⟨_,O,h.l2 O (jY h0 h1 (h.pick (A:=bo x.l nc m.line)) ?_)⟩;cases hpb:me m.line n with
    |false=>
     refine aV O ?_;exact none_ w (by unfold cV.step;rw[e];dsimp only;rw[Y e1,Z e2,Y (by rw[hpb];decide)]) h
    |true=>
     refine aW O ?_;have es:m.step n=(X (m.HD n).1,(m.HD n).2):=by unfold cV.step;rw[e];dsimp only;rw[Y e1,Z e2,Z hpb]
     rw[es,JV hlt]at hK;obtain⟨hn0,hn1⟩:=hm.nr _ hc2 (by rw[e2];decide);have hcall:m.prog[(m.aj n).n.toNat]?=X (m.aI n):=by unfold cV.aI;rw[gE (show(m.aj n).n.toNat<m.prog.length by omega)];rfl
     have hw:=hpr _ (SU hcall);obtain⟨q1,_⟩:=Gq hm.k n (m.aI n);have hpg:=hm.pg;refine JW (m:=m) (x:=x) (p:=p) (fs:=fs) (ala:=ala) (c:=m.aj n) (ald:=gV x.ps x.xs) h0 om om hm.EK hZ om hn0 hcall hm.k hN hw.1 hw.2 om h λs fs' w h=>?_;have h:Ow B w0 w (ae d [.z 0,.z 0,.z 0,.z 0,.y 0,.z 0,.slice Q 0 0,.z 0,.z 0,.bool qd]::ag au s (m.k.do n (m.aI n)).1.forget::ae b (cX x)::ao x.k (m.k.do n (m.aI n)).2::bo x.l nc m.line::cU x.b (sendAll n (m.k.do n (m.aI n)).1.forget m.bx)::ag cE x.cs ((gV x.ps x.xs).set n.toNat (cm p (⟨bU (m.k.do n (m.aI n)).1.forget (m.aj n).tl,3,(m.aj n).n,(m.k.do n (m.aI n)).1⟩,fs')))::bu p m.room (bU (m.k.do n (m.aI n)).1.forget (m.aj n).tl)::ag au fs' (m.k.do n (m.aI n)).1.forget::ala::ag aN x.pr m.prog::R):=h.sub;exact cO (K:=λa b c d e f g h i j w=>K a b c d e f g h i j G w) (fs:=s) O h λw h=>hK s w (Ow.cC (back (ag au s (m.k.do n (m.aI n)).1.forget::R) { m with k:=(m.k.do n (m.aI n)).2,bx:=sendAll n (m.k.do n (m.aI n)).1.forget m.bx,cs:=m.cs.set n.toNat ⟨bU (m.k.do n (m.aI n)).1.forget (m.aj n).tl,3,(m.aj n).n,(m.k.do n (m.aI n)).1⟩} ⟨bU (m.k.do n (m.aI n)).1.forget (m.aj n).tl,3,(m.aj n).n,(m.k.do n (m.aI n)).1⟩ fs' w O O O h.sub))
   .have e2:(m.aj n).bH≠2:=e2
    intro k81 hk81;have no:∀w,¬((m.aj n).bH=3/\gk m.bx n=0)->Ow B w0 w (OL b nc x p fs ala m (m.aj n) (gV x.ps x.xs) (ae d [.z 0,.z 0,.z 0,.z 0,.y 0,.z 0,.slice Q 0 0,.z 0,.z 0,.bool qd]::R))->k81 qd w:=λw hno h=>by apply hk81;refine aV O ?_;exact none_ w (by unfold cV.step;rw[e];dsimp only;rw[Y e1,Y e2,Y hno]) h
    refine⟨_,O,_,(jl (s:=x.cs) h h0 hZ ha).2 1 _ O,dW (λe3=>?_) (λe3=>no w (λhh=>e3 hh.1) h)⟩;have e3:(m.aj n).bH=3:=e3;refine⟨_,O,h.l2 O (rF (bx:=m.bx) om hm.EK (h.pick (A:=cU x.b m.bx)) λw h=>?_)⟩;have h:Ow B w0 w (OL b nc x p fs ala m (m.aj n) (gV x.ps x.xs) (ae d [.z 0,.z 0,.z 0,.z 0,.y 0,.z 0,.slice Q 0 0,.z 0,.z 0,.bool qd]::R)):=h.sub;by_cases e4:gk m.bx n=0
    .rw[show(gk m.bx n==0)=G from by simpa using e4]
     apply hk81;refine aW O ⟨_,O,h.l2 O ?_⟩;refine BD h0 h1 (h.pick (A:=bo x.l nc m.line)) λv w h=>⟨_,O,?_⟩
     refine Bk (s:=x.cs) h h0 hZ ha λw h=>?_;have hZ2:((gV x.ps x.xs).set n.toNat (cm p ({ m.aj n with bH:=0},fs)))[n.toNat]?=X (cm p ({ m.aj n with bH:=0},fs)):=SQ (by rw[hzl];omega);have h:Ow B w0 w (ag cE x.cs ((gV x.ps x.xs).set n.toNat (cm p ({ m.aj n with bH:=0},fs)))::_):=h;refine h.dr λw h=>⟨_,O,_,O,?_⟩
     refine Gn (s:=x.cs) h h0 hZ2 ha ?_;refine⟨(m.aj n).n,(jl (s:=x.cs) h h0 hZ2 ha).2 2 _ O,Go.Vc.a2 ?_⟩;have es:m.step n=(X ⟨2,n,(m.aj n).n,(m.aj n).told,(0,0),qd⟩,{ m with line:=gd m.line n}.gF n { m.aj n with bH:=0}):=by unfold cV.step;rw[e];dsimp only;rw[Y e1,Y e2,Z ⟨e3,e4⟩]
     rw[es]at hK;refine vd (fs:=fs) (F:=(m.aj n).told.forget) om h λs w h=>⟨(jl (s:=x.cs) h h0 hZ2 ha).2 2 _ O,Go.Vc.a2 ?_⟩
     have h:Ow B w0 w (ae d [.z 0,.z 0,.z 0,.z 0,.y 0,.z 0,.slice Q 0 0,.z 0,.z 0,.bool qd]::ag au s (m.aj n).told.forget::ae b (cX x)::ao x.k m.k::bo x.l nc (gd m.line n)::cU x.b m.bx::ag cE x.cs ((gV x.ps x.xs).set n.toNat (cm p ({ m.aj n with bH:=0},fs)))::bu p m.room (m.aj n).tl::ag au fs (m.aj n).told.forget::ala::ag aN x.pr m.prog::R):=h.sub;exact cO (K:=λa b c d e f g h i j w=>K a b c d e f g h i j G w) (fs:=s) O h λw h=>by have h:Ow B w0 w (ae b (cX x)::ao x.k m.k::bo x.l nc (gd m.line n)::cU x.b m.bx::ag cE x.cs ((gV x.ps x.xs).set n.toNat (cm p ({ m.aj n with bH:=0},fs)))::bu p m.room (m.aj n).tl::ag au fs (m.aj n).told.forget::ala::ag aN x.pr m.prog::ag au s (m.aj n).told.forget::R):=h.sub;exact hK s w (Ow.cC (back (ag au s (m.aj n).told.forget::R) ({ m with line:=gd m.line n}.gF n { m.aj n with bH:=0}) { m.aj n with bH:=0} fs w O O O h))
    .rw[show(gk m.bx n==0)=qd from by simpa using e4]
     exact no w (λhh=>e4 hh.2) h
 .refine aW O ?_
  have es:m.step n=(Q,{ m with bx:=m.bx.set n.toNat r,cs:=m.cs.set n.toNat { m.aj n with tl:=drop (qj.wrap (y.about.tdiv 4096)) (y.about.tmod 4096) (m.aj n).tl}}):=by unfold cV.step;rw[e];dsimp only;unfold cV.heard;rw[e];rfl
  rw[es]at hK;have h:Ow B w0 w (ae d [.z 0,.z 0,.z 0,.z 0,.y 0,.z 0,.slice Q 0 0,.z 0,.z 0,.bool qd]::ae b (cX x)::ao x.k m.k::bo x.l nc m.line::cU x.b (m.bx.set n.toNat r)::ag cE x.cs (gV x.ps x.xs)::bu p m.room (drop (qj.wrap (y.about.tdiv 4096)) (y.about.tmod 4096) (m.aj n).tl)::ag au fs (m.aj n).told.forget::ala::ag aN x.pr m.prog::R):=h.sub;exact fZ (K:=λa b c d e f g h i j w=>K a b c d e f g h i j qd w) O h λw h=>hK z0 w (Ow.cB (back R { m with bx:=m.bx.set n.toNat r,cs:=m.cs.set n.toNat { m.aj n with tl:=drop (qj.wrap (y.about.tdiv 4096)) (y.about.tmod 4096) (m.aj n).tl}} { m.aj n with tl:=drop (qj.wrap (y.about.tdiv 4096)) (y.about.tmod 4096) (m.aj n).tl} fs w O O O (by rw[show cm p ({ m.aj n with tl:=drop (qj.wrap (y.about.tdiv 4096)) (y.about.tmod 4096) (m.aj n).tl},fs)=cm p (m.aj n,fs)from O,mm hZ];exact h)))
theorem KY(hm:dn nc N g m)(hN:N<=200000):(m.k.fo 0).length<=1000000000:=by
 unfold ai.fo;split
 .have:=fV.DD (hm.k.DU 0)
  omega
 .simp
theorem I6{it:Item}{K:U->U->U->U->U->U->Sl->U->U->I->I->Pw}(hm:dn nc N g m)(hN:N+64<=100000)(h0:0<=it.core)(h1:it.core<(nc:U))(h:Ow B w0 w (bX pr b m::R))
  (hK:∀fs w',Ow B w0 w' (ag au fs ((m.user it).1.getD eD).t.forget::bX pr b (m.user it).2::R)->kg K (m.user it).1 fs w'):Zl b.o it.kind it.core it.a it.b K w:=by
 apply ae7;refine h.a λci w1 h=>?_;refine h.a λd w2 h=>?_;refine h.dr λw h=>?_;obtain⟨x,p,fs,ala,hZ,hzl,h,back⟩:=focus hm h0 h1 h.lI;obtain⟨hc1,hc2⟩:=hm.Gm h0 h1;have htl:=hm.tl _ hc2;have hr8:=hm.r8;have hr1:=hm.r1;have hlen:=h.aF x.pr;have none_:∀w,(m.user it)=(Q,m)->Ow B w0 w (OL b nc x p fs ala m (m.aj it.core) (gV x.ps x.xs) (ae d [.z 0,.z 0,.z 0,.z 0,.y 0,.z 0,.slice Q 0 0,.z 0,.z 0,.bool qd]::ae ci [.z it.kind,.z it.core,.z it.a,.z it.b]::R))->
   oy w d.p 0 [.z (0:U),.z (0:U),.z (0:U),.z (0:U),.y (0:U),.z (0:U),.slice Q 0 0,.z (0:U),.z (0:U),.bool qd] λw45=>
    hI w45 d.p 0 [.o,.o,.o,.o,.u,.o,.s,.o,.o,.b] λ(r46:U)(r47:U)(r48:U)(r49:U)(r50:U)(r51:U)(r52:Sl)(r53:U)(r54:U)(r55:I)=>
    K r46 r47 r48 r49 r50 r51 r52 r53 r54 r55 qd w45:=λw es h=>by
  rw[es]at hK;have h:Ow B w0 w (ae d [.z 0,.z 0,.z 0,.z 0,.y 0,.z 0,.slice Q 0 0,.z 0,.z 0,.bool qd]::OL b nc x p fs ala m (m.aj it.core) (gV x.ps x.xs) R):=h.sub;exact fZ (K:=λa b c d e f g h i j w=>K a b c d e f g h i j qd w) O h λw h=>hK z0 w (Ow.cB (back R m (m.aj it.core) fs w (mm hc1).symm O O (by rw[mm hZ];exact h)))
 refine⟨_,O,x.cs,h.aA O,h.l2 O (xq (s:=x.cs) h h0 hZ λa ha hc0 hc=>⟨_,O,_,hc 1 _ O,?_⟩)⟩
 refine pR (λe1=>?_) (λe1=>?_)
 .have e1:(m.aj it.core).bH≠0:=e1
  exact none_ w (by unfold cV.user;rw[Z e1]) h
 have e1:(m.aj it.core).bH=0:=e1;refine h.l2 O ?_;refine bh (λe2=>?_) (λe2=>?_)
 .refine ⟨_,h.aA O,h.l2 O ?_⟩
  have es:m.user it=(X (m.load it.core it.a).1,(m.load it.core it.a).2):=by unfold cV.user;rw[Y (λhh=>hh e1),Z e2]
  rw[es]at hK;refine HZ (m:=m) (x:=x) (p:=p) (fs:=fs) (ala:=ala) (c:=m.aj it.core) (ald:=gV x.ps x.xs) h0 hZ hr1 om (KY hm om) h λw h=>?_;have h:Ow B w0 w (ae d [.z 0,.z 0,.z 0,.z 0,.y 0,.z 0,.slice Q 0 0,.z 0,.z 0,.bool qd]::OL b nc x p fs ala m { m.aj it.core with tl:=(m.loadT it.a (m.aj it.core).tl).2.2} (gV x.ps x.xs) R):=h.sub;refine cO (K:=λa b c d e f g h i j w=>K a b c d e f g h i j G w) (fs:=z0) O h λw h=>hK z0 w (Ow.cB (back R (m.load it.core it.a).2 { m.aj it.core with tl:=(m.loadT it.a (m.aj it.core).tl).2.2} fs w O O O ?_));rw[show cm p ({ m.aj it.core with tl:=(m.loadT it.a (m.aj it.core).tl).2.2},fs)=cm p (m.aj it.core,fs)from O,mm hZ];exact h
 .refine h.dr λw h=>?_
  refine⟨_,h.aA O,_,O,x.pr,h.aA O,bh (λe3=>?_) (λe3=>?_)⟩
  .refine h.dr λw h=>?_
   refine⟨_,O,_,h.aA O,Go.Vc.a2 (Bk (s:=x.cs) h h0 hZ ha λw h=>⟨h.aA O,_,O,Go.Vc.a2 ?_⟩)⟩
   refine NZ (s:=x.cs) h h0 (SQ (by rw[hzl];omega)) ha λw h=>?_;rw[Ul]at h;have es:m.user it=(Q,m.gF it.core { m.aj it.core with bH:=1,n:=it.a}):=by unfold cV.user;rw[Y (λhh=>hh e1),Y e2,Z om]
   rw[es]at hK;have h:Ow B w0 w (ae d [.z 0,.z 0,.z 0,.z 0,.y 0,.z 0,.slice Q 0 0,.z 0,.z 0,.bool qd]::ae b (cX x)::ao x.k m.k::bo x.l nc m.line::cU x.b m.bx::ag cE x.cs ((gV x.ps x.xs).set it.core.toNat (cm p ({ m.aj it.core with bH:=1,n:=it.a},fs)))::bu p m.room (m.aj it.core).tl::ag au fs (m.aj it.core).told.forget::ala::ag aN x.pr m.prog::R):=Ow.sub (show Ow B w0 w (ag cE x.cs ((gV x.ps x.xs).set it.core.toNat (cm p ({ m.aj it.core with bH:=1,n:=it.a},fs)))::_)from h);exact fZ (K:=λa b c d e f g h i j w=>K a b c d e f g h i j qd w) O h λw h=>hK z0 w (Ow.cB (back R (m.gF it.core { m.aj it.core with bH:=1,n:=it.a}) { m.aj it.core with bH:=1,n:=it.a} fs w O O O h))
  .exact none_ w (by unfold cV.user;rw[Y (λhh=>hh e1),Y e2,Y om]) h
theorem fx{it:Item}{K:U->U->U->U->U->U->Sl->U->U->I->I->Pw}(hm:dn nc N g m)(hN:N+64<=100000)(hg:g<=900000)(hpr:ux m.prog)(h:Ow B w0 w (bX pr b m::R))
  (hK:∀fs w',Ow B w0 w' (ag au fs ((m.item it).1.getD eD).t.forget::bX pr b (m.item it).2::R)->kg K (m.item it).1 fs w'):Yt b.o it.kind it.core it.a it.b K w:=by
 apply ae3;refine h.a λci w1 h=>?_;refine h.a λd w2 h=>?_;refine h.dr λw h=>?_;refine h.gn O ?_;have h:Ow B w0 w (bX pr b m::ae d [.z 0,.z 0,.z 0,.z 0,.y 0,.z 0,.slice Q 0 0,.z 0,.z 0,.bool qd]::ae ci [.z it.kind,.z it.core,.z it.a,.z it.b]::R):=h.lI;have hcs:=hm.cs;obtain⟨s,hs1,hs2⟩:∃s:Sl,w.cell? (b.p.add 3)=X s.v/\s.len=m.cs.length:=by
  obtain⟨x,⟨hx,_⟩,h⟩:=xI h;have hxl:x.xs.length=nc:=by rw[<-hcs,<-hx,S9]
  have hpl:x.ps.length=x.xs.length:=Ow.cz (h.pick (A:=aq (cM m.room) x.ps x.xs));have hlen:=h.aF x.cs;rw[Uu]at hlen;exact⟨x.cs,h.aA O,om⟩
 refine⟨_,O,s,hs1,Go.Vc.a2 ?_⟩;rw[hs2];refine M3 (x:=it) h λw h=>?_;have none_:∀w,(m.item it)=(Q,m)->Ow B w0 w (bX pr b m::ae d [.z 0,.z 0,.z 0,.z 0,.y 0,.z 0,.slice Q 0 0,.z 0,.z 0,.bool qd]::ae ci [.z it.kind,.z it.core,.z it.a,.z it.b]::R)->
   oy w d.p 0 [.z (0:U),.z (0:U),.z (0:U),.z (0:U),.y (0:U),.z (0:U),.slice Q 0 0,.z (0:U),.z (0:U),.bool qd] λw45=>
    hI w45 d.p 0 [.o,.o,.o,.o,.u,.o,.s,.o,.o,.b] λ(r46:U)(r47:U)(r48:U)(r49:U)(r50:U)(r51:U)(r52:Sl)(r53:U)(r54:U)(r55:I)=>
    K r46 r47 r48 r49 r50 r51 r52 r53 r54 r55 qd w45:=λw es h=>by
  rw[es]at hK;exact fZ (K:=λa b c d e f g h i j w=>K a b c d e f g h i j qd w) O h.cC λw h=>hK z0 w (Ow.cB h.sub)
 cases hr:fN it m.cs.length with
 |false=>
  refine aW O ?_;exact none_ w (by unfold cV.item;rw[Z hr]) h
 |true=>
  refine aV O ?_;obtain⟨k0,k1,c0,c1,⟨a0,a1⟩,b0,b1⟩:=rn.1 hr;have c2:it.core<(nc:U):=om
  have hnr:¬fN it m.cs.length=false:=by rw[hr];decide
  refine h.l1 O ?_;refine dW (λe1=>?_) (λe1=>?_)
  .refine h.gn O ?_
   have es:m.item it=m.user it:=by unfold cV.item;rw[Y hnr,Z e1]
   rw[es]at hK;refine I6 (it:=it) hm hN c0 c2 h λfs w h=>?_;exact cO (K:=λa b c d e f g h i j w=>K a b c d e f g h i j (m.user it).1.isSome w) (fs:=fs) O h.lI λw h=>hK fs w h.sub
  refine h.l1 O ?_;refine dW (λe2=>?_) (λe2=>?_)
  .refine h.l2 O ?_
   have es:m.item it=m.step it.core:=by unfold cV.item;rw[Y hnr,Y e1,Z e2]
   rw[es]at hK;refine IU hm hN hg hpr c0 c2 h λfs w h=>?_;exact cO (K:=λa b c d e f g h i j w=>K a b c d e f g h i j (m.step it.core).1.isSome w) (fs:=fs) O h.lI λw h=>hK fs w h.sub
  refine free_spec hm h λw h=>?_;by_cases e3:m.line= []
  .rw[show m.line.isEmpty=G from by rw[e3];rfl]
   refine aV O ?_;refine h.l1 O ?_;obtain⟨x,hx,h⟩:=xI h;refine dW (λe4=>?_) (λe4=>?_)
   .have es:m.item it=(X ⟨4,it.core,it.a,⟨(m.k.irq it.a).1,0,(m.k.irq it.a).2.1,[]⟩,(0,0),qd⟩,{ m with k:=(m.k.irq it.a).2.2}):=by unfold cV.item;rw[Y hnr,Y e1,Y e2,Y (λhh=>hh e3),Z e4]
    rw[es]at hK;refine h.dr λw h=>?_;refine⟨_,O,_,h.aE O,_,h.aA O,Go.Vc.a2 (Kq hm.k om (h.pick (A:=ao x.k m.k)) λw h=>?_)⟩;refine⟨_,h.aA O,h.l2 O ?_⟩;have h:Ow B w0 w (ae d [.z 0,.z 0,.z 0,.z 0,.y 0,.z 0,.slice Q 0 0,.z 0,.z 0,.bool qd]::ae b (cX x)::ao x.k (m.k.irq it.a).2.2::bo x.l m.cs.length m.line::cU x.b m.bx::ag cE x.cs (gV x.ps x.xs)::aq (cM m.room) x.ps x.xs::ag aN x.pr m.prog::R):=h.sub;exact cO (K:=λa b c d e f g h i j w=>K a b c d e f g h i j G w) (fs:=z0) O h λw h=>hK z0 w (Ow.cB (lh (m:={ m with k:=(m.k.irq it.a).2.2}) x hx h))
   .have es:m.item it=(X ⟨5,it.core,0,tZ,(0,0),(m.k.t.cj it.core).isSome⟩,{ m with k:=m.k.tick it.core}):=by unfold cV.item;rw[Y hnr,Y e1,Y e2,Y (λhh=>hh e3),Y e4]
    rw[es]at hK;refine h.dr λw h=>?_;refine⟨_,O,_,h.aE O,_,h.aA O,_,h.aA O,Go.Vc.a2 (Hm hm.k (h.pick (A:=ao x.k m.k)) λw h=>⟨h.aA O,Go.Vc.a2 ?_⟩)⟩
    have h:Ow B w0 w (ae d [.z 0,.z 0,.z 0,.z 0,.y 0,.z 0,.slice Q 0 0,.z 0,.z 0,.bool qd]::ae b (cX x)::ao x.k (m.k.tick it.core)::bo x.l m.cs.length m.line::cU x.b m.bx::ag cE x.cs (gV x.ps x.xs)::aq (cM m.room) x.ps x.xs::ag aN x.pr m.prog::R):=h.sub;exact cO (K:=λa b c d e f g h i j w=>K a b c d e f g h i j G w) (fs:=z0) O h λw h=>hK z0 w (Ow.cB (lh (m:={ m with k:=m.k.tick it.core}) x hx h))
  .rw[show m.line.isEmpty=qd from by cases hl:m.line with|nil=>exact qk hl e3|cons _ _=>rfl]
   refine aW O ?_;exact none_ w (by unfold cV.item;rw[Y hnr,Y e1,Y e2,Z e3]) h
end
end Mc
section
variable{B:S}{w0 w:W}{R L:J aG}
theorem Fv{c:dB}{r g:U}{K:U->U->U->U->U->U->U->Pw}(h:Ow B w0 w R)(hc:Sl.gl c)(hg:0<=g)
  (hK:∀w' x,x=(ai.gI c r g).1->Ow B w0 w' R->K x.kind x.obj x.ar x.aD x.guard x.bits (ai.gI c r g).2 w'):Z7 c.kind c.obj c.ar c.aD c.guard c.bits r g K w:=by
 apply ahi;refine h.a λa w1 h=>?_;refine h.a λz w2 h=>?_;refine h.eE O ?_;refine Sl.mL h hc λw h=>?_;unfold ai.gI at hK;have bad:∀(e:U)(w:W),(∀w' x,x=Sl.aw->Ow B w0 w' R->K x.kind x.obj x.ar x.aD x.guard x.bits e w')->
   Ow B w0 w (ae z [.z 0,.z 0,.z 0,.y 0,.y 0,.z 0]::ae a c.cells::R)->
   oy w z.p 0 [.z (0:U),.z (0:U),.z (0:U),.y (0:U),.y (0:U),.z (0:U)] λw19=>
   hI w19 z.p 0 [.o,.o,.o,.u,.u,.o] λ(r20:U)(r21:U)(r22:U)(r23:U)(r24:U)(r25:U)=>K r20 r21 r22 r23 r24 r25 e w19:=λe w hK h=>by
  refine h.aB O O λw h=>?_;refine h.eE O ?_;exact hK w Sl.aw O h.drop.drop
 refine pR (λe=>?_) (λe=>?_)
 .rw[Z e]at hK
  exact bad _ w hK h
 rw[Y (by rw[e];decide)]at hK;intro k26 hk26;have t26:¬(0<=r/\r<=7)->k26 G w:=λe2=>by rw[Z e2]at hK;exact hk26 _ _ (aW O (bad 1 w hK h))
 refine bh (λe1=>t26 om) (λe1=>?_);by_cases e2:r>7
 .rw[qp e2];exact t26 om
 rw[ql e2];rw[Y om]at hK;apply hk26;refine aV O ?_;intro k36 hk36;have t36:(c.kind=0\/(g≠0/\(Sl.dH c.kind=qd\/c.aD≠0)))->k36 G w:=λe3=>by rw[Z e3]at hK;exact hk36 _ _ (aW O (bad 41 w hK h))
 have main:¬(c.kind=0\/(g≠0/\(Sl.dH c.kind=qd\/c.aD≠0)))->k36 qd w:=λe3=>by
  rw[Y e3]at hK;apply hk36;refine aV O ?_;refine h.eE O ?_;refine h.a λn w3 h=>?_;refine h.aB O O λw h=>?_;refine⟨_,h.aE O,Sl.lv ?_⟩;intro k57 hk57;have fin:∀(w:W)(ri:U),ri=(if Sl.dD c.kind then fE .i64 c.ar r else c.ar)->Ow B w0 w (ae n [.z c.kind,.z c.obj,.z ri,.y c.aD,.y c.guard,.z c.bits]::ae z [.z 0,.z 0,.z 0,.y 0,.y 0,.z 0]::ae a c.cells::R)->k57 w:=λw ri hr h=>by
   apply hk57;subst hr;refine bh (λe4=>?_) (λe4=>?_)
   .rw[Z (show g≠0 by omega)]at hK
    refine h.fD O O λw h=>?_;refine h.eE O ?_;refine h.aB O O λw h=>?_;refine h.eE O ?_;exact hK w _ O h.sub
   .rw[Y (show ¬g≠0 by omega)]at hK
    refine h.eE O ?_;refine h.aB O O λw h=>?_;refine h.eE O ?_;exact hK w _ O h.sub
  cases hl:Sl.dD c.kind with
  |true=>
   refine aW O (h.l2 O ?_);refine h.fD O O λw h=>?_;exact fin w _ (by rw[hl];rfl) h
  |false=>exact aV O (fin w _ (by rw[hl];rfl) h)
 refine h.l1 O ?_;refine dW (λe3=>t36 (.inl e3)) (λe3=>?_);refine bh (λe4=>⟨_,h.aE O,Sl.iO ?_⟩) (λe4=>main om);cases hbd:Sl.dH c.kind with
 |false=>exact aW O (t36 (.inr ⟨om,.inl hbd⟩))
 |true=>
  refine aV O (h.l2 O ?_);by_cases e5:c.aD>0
  .rw[qp e5];exact t36 (.inr ⟨om,.inr om⟩)
  .rw[ql e5]
   refine main ?_;rintro (h1|⟨_,h1|h1⟩)
   .exact e3 h1
   .rw[hbd]at h1;cases h1
   .have:=hc.b0;omega
theorem Fz{a c:dB}{K:I->Pw}(h:Ow B w0 w R)(hK:∀w',Ow B w0 w' R->K (ai.oa a c) w'):abE a.kind a.obj a.ar a.aD a.guard a.bits c.kind c.obj c.ar c.aD c.guard c.bits K w:=by
 apply ahm;refine h.a λx w1 h=>?_;refine h.a λy w2 h=>?_;have hK:=hK w2 h.drop.drop;unfold ai.oa at hK;refine h.l1 O ?_;refine pR (λe=>?_) (λe=>?_)
 .rw[qp e,Uo]at hK
  refine⟨_,h.aE O,h.l1 O (dW (λe2=>?_) (λe2=>?_))⟩
  .rw[qp e2,Uo]at hK
   refine⟨_,h.aA O,h.l2 O ?_⟩;rw[show(a.obj==c.obj)=qe (a.obj=c.obj)from O];exact hK
  .rw[ql e2]at hK;exact hK
 .rw[ql (by simpa using e)]at hK;exact hK
end
namespace Sl
section
variable{B:S}{w0 w:W}{R L:J aG}{b:S}{bits:J U}{H:Hs}
structure A6(H:Hs)(t:Slot)(hs:J (Slot × dB)):Prop where
 mo:hs.Pairwise (λx y=>ra x.1 y.1=G)
 mem:∀k c,(k,c)∈hs↔H k=X c/\ra k t=G
theorem A6.none{H:Hs}{t t':Slot}{hs:J (Slot × dB)}(h:A6 H t hs)(hn:∀k c,H k=X c->(ra k t=G↔ra k t'=G)):A6 H t' hs:=
 ⟨h.mo,λk c=>by
  rw[h.mem];constructor
  .rintro ⟨h1,h2⟩;exact⟨h1,(hn k c h1).1 h2⟩
  .rintro ⟨h1,h2⟩;exact⟨h1,(hn k c h1).2 h2⟩⟩
theorem A6.add{H:Hs}{i k:U}{c:dB}{hs:J (Slot × dB)}(h:A6 H (i,k) hs)(hc:H (i,k)=X c):A6 H (i,k+1) (hs++ [((i,k),c)]):=by
 refine⟨?_,λs d=>?_⟩
 .rw[List.pairwise_append]
  refine⟨h.mo,qc,λx hx y hy=>?_⟩;simp only[Tf]at hy;subst hy;exact((h.mem x.1 x.2).1 hx).2
 .rw[Tv,h.mem,Tf]
  constructor
  .rintro (⟨h1,h2⟩|e)
   .exact ⟨h1,by simp only[ra,qF]at *;omega⟩
   .cases e
    exact⟨hc,by simp only[ra,qF];exact .inr ⟨trivial,Int.lt_succ k⟩⟩
  .rintro ⟨h1,h2⟩
   by_cases e:s=(i,k)
   .subst e
    rw[hc]at h1;cases h1;exact .inr O
   .refine .inl ⟨h1,?_⟩
    have:s.1≠i\/s.2≠k:=by
     by_cases e1:s.1=i
     .exact .inr λe2=>e (Prod.ext e1 e2)
     .exact .inl e1
    simp only[ra,qF]at*
    omega
theorem LO{t:Slot}{hs:J (Slot × dB)}(hk:uj bits H)(hu:A6 H t hs):hs.length<=16384:=by
 have:=rk 16384 (hs.map λx=>x.1.1*256+x.1.2) (by
  refine UR.2 (List.Pairwise.imp_of_mem (λ{x y}hx hy hne e=>?_) hu.mo);have:=hk.bound ((hu.mem x.1 x.2).1 hx).1;have:=hk.bound ((hu.mem y.1 y.2).1 hy).1;simp only[ra,qF]at hne;omega) λz hz=>by
  obtain⟨x,hx,rfl⟩:=Tj.1 hz;have:=hk.bound ((hu.mem x.1 x.2).1 hx).1;omega
 simpa using this
theorem Kh{i:S}{z:U}(hk:uj bits H)(hb:bits[i]?=X z){k:Slot}{c:dB}(e:H k=X c)(ek:k.1=(i:U)):0<=k.2/\k.2<((rowOf H i z).length:U):=by
 obtain⟨n',k',z',e2,hb',hz',hk'⟩:=il (hk.held _ _ e).1;subst e2;have:n'=i:=by simp only at ek;omega
 subst this;rw[hb]at hb';cases hb';rw[gY hz'];exact⟨by simp only;omega,by simp only;omega⟩
theorem nT{K:Sl->Pw}(h:Ow B w0 w (a8 b bits H::R))(hK:∀s hs w',mW H hs->Ow B w0 w' (ag eM s hs::a8 b bits H::R)->K s w'):VW b.o K w:=by
 apply aiS;refine h.a λp w1 h=>?_;have h:=Ow.CO (E:=eM) h [] O;have h:=h.cC;obtain⟨sl,ss,hk,hsl,h⟩:=h.nE;have hfew:=hk.fu;intro l3 hl3;have loop:∀(j i:S)(out:Sl)(hs:J (Slot × dB))(w:W),i+j=bits.length->A6 H ((i:U),0) hs->Ow B w0 w (ag eM out hs::bA oN ss (rowsOf bits H)::ae b [bz sl]::ag lH sl ss::R)->l3 out (i:U) w:=by
  intro j;induction j with
  |zero=>
   intro i out hs w hi hu h;apply hl3;have hlen:=h.aF sl;repeat first|refine h.l1 O ?_|refine fy ?_
   refine av om ?_;refine hK out hs _ ⟨hu.mo,λk c=>?_⟩ (Ow.cC (Ow.eR (s:=sl) (ss:=ss) hk h.sub));rw[hu.mem];refine⟨λe=>e.1,λe=>⟨e,?_⟩⟩;obtain⟨n',k',z',rfl,hb',hz',hk'⟩:=il (hk.held _ _ e).1;have:=(Sz.1 hb').1;simp only[ra,qF];omega
  |succ j ih=>
   intro i out hs w hi hu h;apply hl3;have hlen:=h.aF sl;repeat first|refine h.l1 O ?_|refine fy ?_
   refine az om ?_;have hb:bits[i]?=X bits[i]:=gE om;generalize bits[i]=z at hb;obtain⟨sn,hss⟩:∃sn,ss[i]?=X sn:=⟨_,gE om⟩
   have hrl:=h.cC.gY hss (dU hb);have hr256:(rowOf H i z).length<=256:=by
    by_cases hz:z= -1
    .unfold rowOf;rw[Z hz];simp
    .rw[gY hz]
     rcases hk.zr z (SU hb)with e|e
     .exact qk e hz
     .have:2^z.toNat<=2^8:=Ty om om
      omega
   intro l9 hl9;have loop2:∀(j k:S)(out:Sl)(hs:J (Slot × dB))(w:W),k+j=(rowOf H i z).length->A6 H ((i:U),(k:U)) hs->Ow B w0 w (ag eM out hs::bA oN ss (rowsOf bits H)::ae b [bz sl]::ag lH sl ss::R)->l9 out (k:U) w:=by
    intro j2;induction j2 with
    |zero=>
     intro k out hs w hkj hu h;apply hl9;repeat first|refine h.l1 O ?_|refine fy ?_
     refine h.cd O hss λa ha hc0 hc1=>?_;refine⟨_,hc0 _ O,av om ?_⟩;rw[wI i om];refine ih (i+1) out hs w om (hu.none λs c e=>?_) h;have hbd:=hk.bound e;have:s.1=(i:U)->s.2<((rowOf H i z).length:U):=λek=>(Kh hk hb e ek).2;simp only[ra,qF];omega
    |succ j2 ih2=>
     intro k out hs w hkj hu h;apply hl9;repeat first|refine h.l1 O ?_|refine fy ?_
     refine h.cd O hss λa ha hc0 hc1=>?_;refine⟨_,hc0 _ O,az om ?_⟩;have hz:z≠ -1:=λe=>by
      have:(rowOf H i z).length=0:=by unfold rowOf;rw[Z e];rfl
      omega
     have hkl:k<2^z.toNat:=by rw[gY hz]at hkj;omega
     repeat first|refine h.l1 O ?_|refine fy ?_
     refine h.cd O hss λa ha hc0 hc1=>?_;refine⟨_,hc0 _ O,h.cC.wg hss (dU hb) (k:=k) O (gX hz hkl) λa2 ha2 hd0 hd=>?_⟩;refine⟨((H ((i:U),(k:U))).getD aw).kind,hd0 _ O,?_⟩;have hw1:qj.wrap ((k:U)+1)=((k+1:S):U):=by rw[wr om om];omega
     cases hx:H ((i:U),(k:U))with
     |none=>
      refine fh O ?_;rw[hw1];refine ih2 (k+1) out hs w om (hu.none λs c e=>?_) h;have:s≠((i:U),(k:U)):=λe2=>by rw[e2,hx]at e;cases e
      have:s.1≠(i:U)\/s.2≠(k:U):=by
       by_cases e1:s.1=(i:U)
       .exact .inr λe2=>this (Prod.ext e1 e2)
       .exact .inl e1
      simp only[ra,qF];omega
     |some x=>
      refine iw (hk.held _ _ hx).2.2.1 ?_;have hul:=LO hk hu;repeat first|refine h.l1 O ?_|refine fy ?_
      refine h.cd O hss λa ha hc0 hc1=>?_;refine⟨_,hc0 _ O,h.cC.wg hss (dU hb) (k:=k) O (gX hz hkl) λa2 ha2 hd0 hd=>?_⟩;rw[hx]at hd;refine GB hd ?_;refine h.a λd3 w3 h=>?_;refine zM (s:=out) (y:=(((i:U),(k:U)),x)) h om λs' w hs' h=>?_;rw[hw1];exact ih2 (k+1) s' _ w om (by
       have:=hu.add hx
       rwa [show((k:U)+1)=((k+1:S):U)from by omega]at this) h.sub
   exact loop2 (rowOf H i z).length 0 out hs w om hu h
 refine loop bits.length 0 _ [] w1 om ⟨List.Pairwise.nil,λk c=>?_⟩ h.sub;constructor
 .intro e;cases e
 .rintro ⟨e,e2⟩
  have:=hk.bound e;simp only[ra,qF]at e2;omega
theorem nV{s:Slot}{K:U->U->U->U->U->U->U->Pw}(h:Ow B w0 w (a8 b bits H::R))
  (h1:bc bits s=qd->∀w',Ow B w0 w' (a8 b bits H::R)->K 0 0 0 0 0 0 50 w')
  (h2:bc bits s=G->H s=Q->∀w',Ow B w0 w' (a8 b bits H::R)->K 0 0 0 0 0 0 52 w')
  (h3:bc bits s=G->∀c,H s=X c->∀w',Ow B w0 w' (a8 b bits (dj H s Q)::R)->K c.kind c.obj c.ar c.aD c.guard c.bits 0 w'):abD b.o s.1 s.2 K w:=by
 apply aiY;repeat first|refine h.al λw h=>?_|refine h.aM O ?_
 refine gQ (s:=s) h.lI λw h=>?_;refine Nu (λe=>?_) (λe=>?_)
 ·(repeat first|refine h.aM O ?_|refine h.aB O O λw h=>?_)
  exact h1 e _ h.sub
 have hth:=e;obtain⟨n,k,z,rfl,hb,hz,hkl⟩:=il e;obtain⟨sl,ss,hk,hsl,h⟩:=h.nE;obtain⟨sn,hss⟩:∃sn,ss[n]?=X sn:=⟨_,gE (by have:=(Sz.1 hb).1;omega)⟩
 repeat first|refine h.dr λw h=>?_|refine h.l1 O ?_|refine fy ?_
 refine h.cd O hss λa ha hc0 hc1=>?_;refine⟨_,hc0 _ O,?_⟩
 (refine h.l1 O ?_)
 refine h.wg hss (dU hb) O (gX hz hkl) λa2 ha2 hd0 hd=>?_;refine GB hd ?_;repeat first|refine h.al λw h=>?_|refine h.l1 O ?_|refine h.aB O O λw h=>?_|refine _root_.Go.Vc.a2 ?_
 cases hs:H ((n:U),(k:U))with
 |none=>
  refine aW O ?_;repeat first|refine h.aM O ?_|refine h.aB O O λw h=>?_
  exact h2 hth hs _ (Ow.eR (s:=sl) (ss:=ss) hk h.sub)
 |some c=>
  rw[hs]at h;dsimp only[TR]at h|-;refine jk (hk.held _ _ hs).2.2.1 ?_;repeat first|refine h.dr λw h=>?_|refine h.l1 O ?_|refine fy ?_
  refine h.cd O hss λa ha hc0 hc1=>?_;refine⟨_,hc0 _ O,?_⟩
  (refine h.l1 O ?_)
  refine h.cC.wg hss (dU hb) O (gX hz hkl) λa2 ha2 hd0 hd=>?_
  (refine _root_.Go.Vc.a2 ?_)
  refine h.cC.M4 aw hss (dU hb) O (by rw[gY hz];exact hkl) ha2 λw h=>?_;rw[show(rowsOf bits H).set n ((rowOf H n z).set k aw)=rowsOf bits (dj H ((n:U),(k:U)) Q)from(tU hb hz hkl Q).symm]at h;repeat first|refine h.aM O ?_|refine h.aB O O λw h=>?_
  exact h3 hth c hs _ (Ow.eR (s:=sl) (ss:=ss) (hk.del _) h.sub)
theorem vY{a c:Slot}{K:U->Pw}(h:Ow B w0 w (a8 b bits H::R))(hK:∀w',Ow B w0 w' (a8 b bits (eP bits H a c).2::R)->K (eP bits H a c).1 w'):Z9 b.o a.1 a.2 c.1 c.2 K w:=by
 apply aiV;refine h.al λw1 h=>?_;refine h.a λp w2 h=>?_;generalize w1.heap.size=q at h|-;intro k8 hk8;have no:∀w,(bc bits a=qd\/bc bits c=qd)->Ow B w0 w (a8 b bits H::R)->k8 G w:=λw e h=>by
  apply hk8;refine aW O ?_;have es:eP bits H a c=(50,H):=by unfold eP;rw[Z e]
  rw[es]at hK;exact hK _ h
 (refine h.aM O ?_)
 refine gQ (s:=a) h.lI λw h=>?_;refine Nu (λe=>no _ (.inl e) h.sub) (λta=>?_)
 (refine h.aM O ?_)
 refine gQ (s:=c) h λw h=>?_;cases tc:bc bits c with
 |false=>exact no _ (.inr tc) h.sub
 |true=>
  apply hk8;refine aV O ?_;have hkk:=h.PY;have hn:¬(bc bits a=qd\/bc bits c=qd):=by rw[ta,tc];simp
  have ta':=ta;have tc':=tc;obtain⟨n,k,z,rfl,hb,hz,hkl⟩:=il ta;obtain⟨n2,k2,z2,rfl,hb2,hz2,hkl2⟩:=il tc;obtain⟨sl,ss,hk,hsl,h⟩:=h.nE;obtain⟨sn,hss⟩:∃sn,ss[n]?=X sn:=⟨_,gE (by have:=(Sz.1 hb).1;omega)⟩
  obtain⟨sn2,hss2⟩:∃sn,ss[n2]?=X sn:=⟨_,gE (by have:=(Sz.1 hb2).1;omega)⟩
  repeat first|refine h.dr λw h=>?_|refine h.l1 O ?_|refine fy ?_
  refine h.cd O hss λa ha hc0 hc1=>?_;refine⟨_,hc0 _ O,?_⟩
  (refine h.l1 O ?_)
  refine h.wg hss (dU hb) O (gX hz hkl) λa2 ha2 hd0 hd=>?_;refine⟨((H ((n:U),(k:U))).getD aw).kind,hd0 _ O,?_⟩;unfold eP at hK;rw[Y hn]at hK;cases hx:H ((n:U),(k:U))with
  |none=>
   rw[hx]at hK;refine aW O ?_;exact hK _ (Ow.eR (s:=sl) (ss:=ss) hk h.sub)
  |some x=>
   rw[hx]at hK;dsimp only at hK;refine jk (hk.held _ _ hx).2.2.1 ?_;repeat first|refine h.dr λw h=>?_|refine h.l1 O ?_|refine fy ?_
   refine h.cd O hss2 λa ha hc0 hc1=>?_;refine⟨_,hc0 _ O,?_⟩
   (refine h.l1 O ?_)
   refine h.wg hss2 (dU hb2) O (gX hz2 hkl2) λa3 ha3 hf0 hf=>?_;refine⟨((H ((n2:U),(k2:U))).getD aw).kind,hf0 _ O,?_⟩;cases hy:H ((n2:U),(k2:U))with
   |some y=>
    rw[hy]at hK;simp only[Option.isSome_some,qE]at hK;refine iw (hk.held _ _ hy).2.2.1 ?_;exact hK _ (Ow.eR (s:=sl) (ss:=ss) hk h.sub)
   |none=>
    rw[hy]at hK;simp only[Option.isSome_none,SX,qB]at hK;refine fh O ?_;repeat first|refine h.dr λw h=>?_|refine h.l1 O ?_|refine fy ?_
    refine h.cd O hss2 λa ha hc0 hc1=>?_;refine⟨_,hc0 _ O,?_⟩;repeat first|refine h.l1 O ?_|refine fy ?_
    refine h.cd O hss λa ha hc0 hc1=>?_;refine⟨_,hc0 _ O,?_⟩
    (refine h.l1 O ?_)
    refine h.wg hss (dU hb) O (gX hz hkl) λa2 ha2 hd0 hd=>?_;rw[hx]at hd;refine GB hd ?_;refine h.wg hss2 (dU hb2) O (gX hz2 hkl2) λa3 ha3 hf0 hf=>?_
    (refine _root_.Go.Vc.a2 ?_)
    refine h.M4 x hss2 (dU hb2) O (by rw[gY hz2];exact hkl2) ha3 λw h=>?_;rw[show(rowsOf bits H).set n2 ((rowOf H n2 z2).set k2 x)=rowsOf bits (dj H ((n2:U),(k2:U)) (X x))from(tU hb2 hz2 hkl2 (X x)).symm]at h;repeat first|refine h.dr λw h=>?_|refine h.l1 O ?_|refine fy ?_
    refine h.cd O hss λa ha hc0 hc1=>?_;refine⟨_,hc0 _ O,?_⟩
    (refine h.l1 O ?_)
    refine h.wg hss (dU hb) O (gX hz hkl) λa2 ha2 hd0 hd=>?_
    (refine _root_.Go.Vc.a2 ?_)
    refine h.M4 aw hss (dU hb) O (by rw[gY hz];exact hkl) ha2 λw h=>?_;rw[show(rowsOf bits (dj H ((n2:U),(k2:U)) (X x))).set n ((rowOf (dj H ((n2:U),(k2:U)) (X x)) n z).set k aw)=rowsOf bits (dj (dj H ((n2:U),(k2:U)) (X x)) ((n:U),(k:U)) Q)from(tU hb hz hkl Q).symm]at h;have hne:((n:U),(k:U))≠((n2:U),(k2:U)):=λe=>by rw[e,hy]at hx;cases hx
    have ee:dj (dj H ((n2:U),(k2:U)) (X x)) ((n:U),(k:U)) Q=dj (dj H ((n:U),(k:U)) Q) ((n2:U),(k2:U)) (X x):=by
     funext s;unfold dj;by_cases e1:s=((n:U),(k:U))
     .subst e1;rw[Z O,Y hne,Z O]
     .by_cases e2:s=((n2:U),(k2:U))
      .subst e2;rw[Y e1,Z O,Z O]
      .rw[Y e1,Y e2,Y e2,Y e1]
    rw[ee]at h;obtain⟨g1,g2,g3⟩:=hk.held _ _ hx;exact hK _ (Ow.eR (s:=sl) (ss:=ss) ((hk.del _).put tc' g2 g3.1 g3.2) h.sub)
end
end Sl
section
variable{T:Sl->J dM->aG}{M N B:S}{w0 w:W}{R:J aG}{α:Type}{A A':S->α->aG}{ps:J S}{xs:J α}{L:J aG}{s:Sl}{rb:S}{k:ai}{d:Told}{dg:sN}
structure Rx where
 n:S
 t:S
 th:S
 ln:S
 su:Sl
 se:Sl
 sn:Sl
 ss:Sl
 sf:Sl
 pe:J S
 pn:J S
 ps:J S
abbrev FP(x:Rx)(fr tb:S)(d:Told):J V:=[.q x.n,.q x.t,.q x.th,.q x.ln,x.su.v,x.se.v,x.sn.v,x.ss.v,
 .z (fr:U),.z (tb:U),.z d.e,.y d.w,.z d.cv,x.sf.v]
abbrev Sv(T:Sl->J dM->aG)(M rb:S)(x:Rx)(k:ai)(d:Told):J aG:=[ae rb (FP x k.aU k.cP d),Sl.a8 x.n k.bits k.H,Tr.cQ x.t k.T,Th.cp x.th k.t,dh x.ln k.ln,ag dV x.su k.u,ag bw x.se x.pe,aq eh x.pe k.ends,ag bw x.sn x.pn,aq (cq M) x.pn k.notes,ag bw x.ss x.ps,aq Tb.db x.ps k.af,T x.sf d.forget]
def iz(T:Sl->J dM->aG)(M rb:S)(k:ai)(d:Told):aG:=oA λx:Rx=>aQ (Sv T M rb x k d)
abbrev de(M rb:S)(k:ai)(d:Told):aG:=iz (ag au) M rb k d
abbrev lG(_:Sl)(_:J dM):aG:=dw qu
abbrev br:Told:=⟨0,0,-1,[]⟩
theorem mP(h:Ow B w0 w (iz T M rb k d::R)):∃x:Rx,Ow B w0 w (ae rb (FP x k.aU k.cP d)::Sl.a8 x.n k.bits k.H::Tr.cQ x.t k.T::Th.cp x.th k.t::dh x.ln k.ln::ag dV x.su k.u::ag bw x.se x.pe::aq eh x.pe k.ends::ag bw x.sn x.pn::aq (cq M) x.pn k.notes::ag bw x.ss x.ps::aq Tb.db x.ps k.af::T x.sf d.forget::R):=by obtain⟨x,h⟩:=h.ex;exact⟨x,h.star⟩
theorem bI(x:Rx){bits:J U}{H:Sl.Hs}{T7:Tr.Tr}{t:Th.Mt}{ln:y7}{u:J sV}{ends:J fp}{notes:J rB}{af:J Tb.dS}{fr tb:S}{d:Told}
  (h:Ow B w0 w (ae rb (FP x fr tb d)::Sl.a8 x.n bits H::Tr.cQ x.t T7::Th.cp x.th t::dh x.ln ln::ag dV x.su u::ag bw x.se x.pe::aq eh x.pe ends::ag bw x.sn x.pn::aq (cq M) x.pn notes::ag bw x.ss x.ps::aq Tb.db x.ps af::T x.sf d.forget::R)):
  Ow B w0 w (iz T M rb ⟨bits,H,T7,t,ln,u,ends,notes,af,fr,tb⟩ d::R):=Ow.eu x (Ow.aR h)
theorem kE{n:U}{K:U->U->U->U->U->U->Pw}(hk:bD N k)(h:Ow B w0 w (de M rb k d::R))
  (hK:∀w' c,c=k.bm n->Sl.gl c->Ow B w0 w' (de M rb k d::R)->K c.kind c.obj c.ar c.aD c.guard c.bits w'):Z4 rb.o n K w:=by
 apply ajJ;refine h.a λa w1 h=>?_;intro k4 hk4;have bad:¬(0<=n/\n<64)->k4 G w1:=λe=>by
  apply hk4;refine aW O ?_;refine h.aB O O λw h=>?_;refine h.eE O ?_;exact hK w Sl.aw (by unfold ai.bm;rw[Y e]) ⟨qb,qb,qb,qb⟩ h.drop
 refine bh (λe=>bad om) (λe=>?_);by_cases e2:n>63
 .rw[qp e2];exact bad om
 rw[ql e2];apply hk4;refine aV O ?_;obtain⟨x,h⟩:=mP h.cC;refine⟨_,O,h.l1 O (Sl.yd (s:=(0,n)) (h.pick (A:=Sl.a8 x.n k.bits k.H)) λw c e he hr h=>?_)⟩;have hc:c=k.bm n:=by rw[<-tq hk ⟨om,om⟩,<-he]
 refine h.a λa2 w2 h=>?_;refine h.aB O O λw h=>?_;refine h.eE O ?_;refine h.aB O O λw h=>?_;refine h.eE O ?_;exact hK w c hc hr (show Ow B w0 w (de M rb k d::R)from bI x h.sub)
theorem sB{f:U}{n:S}{K:U->Pw}(hk:bD N k)(hn:1<=n/\n<=64)(h:Ow B w0 w (de M rb k d::R))
  (hK:∀w',Ow B w0 w' (de M rb k d::R)->K (k.gi f n) w'):Wo rb.o f (n:U) K w:=by
 apply ajM;unfold ai.gi at hK;intro k4 hk4;have bad:(f<0\/64<f+n)->k4 G w:=λe=>by rw[Z e]at hK;exact hk4 _ _ (aW O (hK w h))
 refine bh (λe=>bad (.inl e)) (λe=>?_);refine bh (λe=>bad om) (λe1=>?_);rw[wr om om];by_cases e2:f+(n:U)>64
 .rw[qp e2];exact bad om
 rw[ql e2];rw[Y om]at hK;apply hk4;refine aV O ?_;obtain⟨f,rfl⟩:=SI (show 0<=f by omega);rw[wr om om];intro l hL;have loop:∀(m j:S)(w:W),j+m=n->(∀i,i<j->(k.bm ((f:U)+(i:U))).kind=0)->Ow B w0 w (de M rb k d::R)->l ((f+j:S):U) w:=by
  intro m;induction m with
  |zero=>
   intro j w hj hno h;apply hL;refine av om ?_;have e:((SF n).any λi=>qe ((k.bm ((f:U)+(i:U))).kind≠0))=false:=by rw[Uv];intro i hi;rw[T6]at hi;simp[hno i om]
   rw[e,Y qc]at hK;exact hK w h
  |succ m ih=>
   intro j w hj hno h;apply hL;refine az om ?_;refine kE hk h λw c hc hr h=>?_;rw[show((f+j:S):U)=(f:U)+(j:U)from by omega]at hc;refine pR (λe=>?_) (λe=>?_)
   .have e:((SF n).any λi=>qe ((k.bm ((f:U)+(i:U))).kind≠0))=true:=TY.2 ⟨j,T6.2 om,by rw[<-hc];simpa using e⟩
    rw[e,Z O]at hK;exact hK w h
   .rw[wr om om,show((f+j:S):U)+1=((f+(j+1):S):U)from by omega]
    refine ih (j+1) w om (λi hi=>?_) h;by_cases e3:i=j
    .subst e3;rw[<-hc];exact e
    .exact hno i om
 exact loop n 0 w om (λi hi=>by omega) h
theorem AG{a t:U}{c:dB}{K:Pw}(hc:Sl.gl c)(hT:Tr.rP k.T)(hl:k.T.length<1000000)(h:Ow B w0 w (de M rb k d::R))(hK:∀w',Ow B w0 w' (de M rb (k.laid (0,a) (0,t) c) d::R)->K w'):
  Z8 rb.o a t c.kind c.obj c.ar c.aD c.guard c.bits K w:=by
 apply ajN;refine h.a λz w1 h=>?_;refine h.dr λw h=>?_;obtain⟨x,h⟩:=mP h.cC;refine⟨_,O,h.l1 O (h.eE O ⟨Sl.pz (s:=(0,t)) (c:=c) hc (h.pick (A:=Sl.a8 x.n k.bits k.H)) λw h=>?_,trivial⟩)⟩;refine⟨_,O,h.l2 O (Tr.Io (p:=(0,a)) (s:=(0,t)) hT hl (h.pick (A:=Tr.cQ x.t k.T)) λw h=>?_)⟩;exact hK w (show Ow B w0 w (de M rb (k.laid (0,a) (0,t) c) d::R)from bI x h.sub)
theorem nA{sp pg p1 p2:U}{K:Pw}(hbig:d.forget.length<=1000000000)(h:Ow B w0 w (de M rb k d::R))
  (hK:∀w',Ow B w0 w' (de M rb k { d with forget:=d.forget++ [⟨sp,pg,p1,p2⟩]}::R)->K w'):aao rb.o sp pg p1 p2 K w:=by
 apply ajT;refine h.a λz w1 h=>?_;refine h.dr λw h=>?_;obtain⟨x,h⟩:=mP h.cC;refine⟨_,O,x.sf,bB (h.aA O),h.aM O ⟨h.al λw2 h=>⟨?_,trivial⟩,trivial⟩⟩
 generalize w.heap.size=g at h|-;refine sX (s:=x.sf) (y:=⟨sp,pg,p1,p2⟩) h hbig λs' w hs' h=>⟨_,O,?_⟩
 refine⟨ji (h.fD O O λw h=>?_),trivial⟩;exact hK w (bI { x with sf:=s'} h.sub)
theorem FI{id:U}{K:U->Pw}(hi:Th.bR (-1) k.t)(h:Ow B w0 w (de M rb k d::R))
  (hK:∀w',Ow B w0 w' (de M rb (k.eY id).2.2 (if(k.eY id).1=0 then { d with cv:=id}else d)::R)->K (k.eY id).1 w'):WC rb.o id K w:=by
 apply ajQ;obtain⟨x,h⟩:=mP h;refine⟨_,O,h.l2 O (Th.iQ hi (h.pick (A:=Th.cp x.th k.t)) λw h=>?_)⟩;refine dW (λe=>⟨_,O,?_⟩) (λe=>?_)
 .rw[Z (show(k.eY id).1=0 from e)]at hK
  refine ji (h.fD O O λw h=>?_);exact hK w (show Ow B w0 w (de M rb (k.cG (k.t.bW id).2) { d with cv:=id}::R)from bI x h.sub)
 .rw[Y (show ¬(k.eY id).1=0 from e)]at hK
  exact hK w (show Ow B w0 w (de M rb (k.cG (k.t.bW id).2) d::R)from bI x h.sub)
theorem Ip{id:U}{m:Je}{K:Pw}(h:Ow B w0 w (de M rb k d::R))(hK:∀w',Ow B w0 w' (de M rb (k.kS id m) d::R)->K w'):
  aak rb.o id m.label m.w0 m.w1 m.w2 m.w3 m.aD m.calls K w:=by
 apply ajS;refine h.a λz w1 h=>?_;refine h.dr λw h=>?_;obtain⟨x,h⟩:=mP h.cC;refine⟨_,O,_,h.aA O,_,h.aA O,Th.iP (h.pick (A:=Th.cp x.th k.t)) λw h=>?_,trivial⟩;refine h.dr λw h=>?_;refine⟨_,O,_,h.aA O,_,h.aE O,Th.iP h λw h=>?_,trivial⟩;refine h.dr λw h=>?_;refine⟨_,O,_,h.aA O,om,om,_,bB (h.aA O),Th.iP h λw h=>?_,trivial⟩;exact hK w (show Ow B w0 w (de M rb (k.kS id m) d::R)from bI x h.sub)
theorem xX{core cur:U}{c:Call}{K:Pw}(hi:Th.bR (-1) k.t)(h:Ow B w0 w (de M rb k d::R))(hK:∀w',Ow B w0 w' (de M rb (if c.c≠0 then k.cG ((k.t.iE cur).2.bj core)else k) d::R)->K w'):
  aah rb.o core cur c.ask c.at_ c.ay c.a c.b c.c K w:=by
 apply ajR;refine h.a λz w1 h=>?_;refine h.l2 O ?_;refine pR (λe=>?_) (λe=>?_)
 .rw[Z e]at hK
  obtain⟨x,h⟩:=mP h.cC;refine⟨_,O,h.l2 O (Th.uY hi (h.pick (A:=Th.cp x.th k.t)) λw h=>?_)⟩;refine⟨_,O,h.l2 O (Th.gW (hi.block _) h λw h=>?_)⟩;exact hK w (show Ow B w0 w (de M rb (k.cG ((k.t.iE cur).2.bj core)) d::R)from bI x h.sub)
 .rw[Y (show ¬c.c≠0 from λhh=>hh e)]at hK
  exact hK _ h.drop
theorem yW(hA:∀(p:S)(x:α)(L:J aG),Ow B w0 w (A p x::L)->Ow B w0 w (A' p x::L)):∀(ps:J S)(xs:J α)(R:J aG),Ow B w0 w (SC A ps xs++R)->Ow B w0 w (SC A' ps xs++R)
 | [],_,_,h=>by simpa using h
 |_::_,[],_,h=>by simpa using h
 |p::ps,x::xs,R,h=>by simp only[List.zipWith_cons_cons,List.cons_append]at h|-;exact(yW hA ps xs (A' p x::R) ((hA p x _ h).perm Tw.symm)).perm Tw
theorem vl(A:S->α->aG):∀(ps:J S)(xs:J α)(j:S),(SC A ps xs).eraseIdx j=SC A (ps.eraseIdx j) (xs.eraseIdx j)
 | [],_,_=>by simp
 |_::ps,[],j=>by cases j<;>simp
 |_::_,_::_,0=>rfl
 |p::ps,x::xs,j+1=>by simp[vl A ps xs j]
theorem K7(hA:∀(p:S)(x:α)(L:J aG),Ow B w0 w (A p x::L)->Ow B w0 w (A' p x::L))(h:Ow B w0 w (aq A ps xs::R)):Ow B w0 w (aq A' ps xs::R):=by obtain⟨hl,h⟩:=h.Ij;exact Ow.ic hl (yW hA ps xs R h)
theorem K5{j:S}(hA:∀(p:S)(x:α)(L:J aG),Ow B w0 w (A p x::L)->Ow B w0 w (A' p x::L))(h:Ow B w0 w (aQ ((SC A ps xs).eraseIdx j)::R)):Ow B w0 w (aQ ((SC A' ps xs).eraseIdx j)::R):=by have h:=h.star;rw[vl]at h;have h:=yW hA _ _ R h;rw[<-vl]at h;exact Ow.aR h
theorem lW{M':S}(hm:M<=M')(h:Ow B w0 w (iz T M rb k d::R)):Ow B w0 w (iz T M' rb k d::R):=by obtain⟨x,h⟩:=mP h;have h:=K7 (A':=cq M') (λp x L h=>yl hm h) (h.pick (A:=aq (cq M) x.pn k.notes));exact(show Ow B w0 w (iz T M' rb k d::R)from bI x h.sub)
theorem mf{n g:U}{K:U->Pw}(hM:M<1000000)(hi:Th.bR (-1) k.t)(h0:0<=n)(h1:n<(k.notes.length:U))(h:Ow B w0 w (iz T M rb k d::R))
  (hK:∀w',Ow B w0 w' (iz T (M+1) rb (k.bq n g).2 d::R)->K (k.bq n g).1 w'):Xn rb.o n g K w:=by
 apply ajI;obtain⟨x,h⟩:=mP h;have hpl:=(h.pick (A:=aq (cq M) x.pn k.notes)).cz;have hx:k.notes[n.toNat]?=X (k.mV n):=by unfold ai.mV;rw[gE om];rfl
 have hp:x.pn[n.toNat]?=X x.pn[n.toNat]:=gE om;generalize x.pn[n.toNat]=p at hp;refine⟨_,O,x.sn,h.aA O,dG (s:=x.sn) (i:=n) (j:=n.toNat) h om hp λa ha hc=>⟨_,hc,?_⟩⟩
 have h:=(h.pick (A:=aq (cq M) x.pn k.notes)).vF hp hx;refine BZ (g:=g) hM h λw h=>?_;have h:=K5 (A':=cq (M+1)) (λp x L h=>yl (Ue M) h) h.cC;have h:=(h.cC).cF hpl hp;unfold ai.bq at hK;have hn:k.ke n ((k.mV n).bq g).2={ k with notes:=k.notes.set n.toNat ((k.mV n).bq g).2}:=rfl;cases e:((k.mV n).bq g).1 with
 |none=>
  rw[e]at hK;refine aW O ?_;exact hK w (show Ow B w0 w (iz T (M+1) rb (k.ke n ((k.mV n).bq g).2) d::R)from bI x h.sub)
 |some who=>
  rw[e]at hK;refine aV O ⟨_,O,h.l2 O ?_⟩;refine Th.iP (h.pick (A:=Th.cp x.th k.t)) λw h=>?_;refine⟨_,O,h.l2 O (Th.iQ (hi.DK _ _ _) h λw h=>?_)⟩;have h:Ow B w0 w (Th.cp x.th ((k.t.pB who 0 g).2.bW who).2::_):=h;exact hK w (show Ow B w0 w (iz T (M+1) rb { k with notes:=k.notes.set n.toNat ((k.mV n).bq g).2,t:=((k.t.pB who 0 g).2.bW who).2} d::R)from bI x h.sub)
theorem GW{α:Type}{f:α->α}{l:J α}{i:S}{m:α}(hm:l[i]?=X m):((l.take i).map f++l.drop i)[i]?=X m/\((l.take i).map f++l.drop i).set i (f m)=(l.take (i+1)).map f++l.drop (i+1):=by
 have hi:=(Sz.1 hm).1;have h1:((l.take i).map f).length=i:=by simp;omega
 have hd:l.drop i=m::l.drop (i+1):=by rw[TB hi];congr 1;exact(Sz.1 hm).2
 refine⟨?_,?_⟩
 .rw[SP om,h1,Uh,hd];rfl
 .rw[Uy _ _ om,h1,Uh,hd,SO,hm];simp
theorem pv{id:U}{K:Pw}(hN:k.ends.length<=200000/\k.notes.length<=200000)(h:Ow B w0 w (de M rb k d::R))(hK:∀w',Ow B w0 w' (de M rb (k.eH id) d::R)->K w'):aad rb.o id K w:=by
 apply ajP;obtain⟨x,h⟩:=mP h;have hpe:=(h.pick (A:=aq eh x.pe k.ends)).cz;have hpn:=(h.pick (A:=aq (cq M) x.pn k.notes)).cz;have hse:=h.aF x.se;have hsn:=h.aF x.sn;intro l hL;have loop:∀(m i:S)(w:W),i+m=k.ends.length->Ow B w0 w (aq eh x.pe ((k.ends.take i).map (·.cancel id)++k.ends.drop i)::ae rb (FP x k.aU k.cP d)::Sl.a8 x.n k.bits k.H::Tr.cQ x.t k.T::Th.cp x.th k.t::dh x.ln k.ln::ag dV x.su k.u::ag bw x.se x.pe::ag bw x.sn x.pn::aq (cq M) x.pn k.notes::ag bw x.ss x.ps::aq Tb.db x.ps k.af::ag au x.sf d.forget::R)->l (i:U) w:=by
  intro m;induction m with
  |zero=>
   intro i w hi h;apply hL;refine⟨_,O,x.se,h.aA O,av om ?_⟩;rw[SE om,Ui om,SL]at h;intro l2 hL2;have loop:∀(m i:S)(w:W),i+m=k.notes.length->Ow B w0 w (aq (cq M) x.pn ((k.notes.take i).map (·.cancel id)++k.notes.drop i)::ae rb (FP x k.aU k.cP d)::Sl.a8 x.n k.bits k.H::Tr.cQ x.t k.T::Th.cp x.th k.t::dh x.ln k.ln::ag dV x.su k.u::ag bw x.se x.pe::aq eh x.pe (k.ends.map (·.cancel id))::ag bw x.sn x.pn::ag bw x.ss x.ps::aq Tb.db x.ps k.af::ag au x.sf d.forget::R)->l2 (i:U) w:=by
    intro m;induction m with
    |zero=>
     intro i w hi h;apply hL2;refine⟨_,O,x.sn,h.aA O,av om ?_⟩;rw[SE om,Ui om,SL]at h;exact hK w (show Ow B w0 w (de M rb (k.eH id) d::R)from bI x h.sub)
    |succ m ih=>
     intro i w hi h;have hm:k.notes[i]?=X k.notes[i]:=gE om;have hp:x.pn[i]?=X x.pn[i]:=gE om;obtain⟨g1,g2⟩:=GW (f:=λn:rB=>n.cancel id) hm;apply hL2;refine⟨_,O,x.sn,h.aA O,az om ⟨_,O,x.sn,h.aA O,dG (s:=x.sn) h O hp λa ha hc=>⟨_,hc,?_⟩⟩⟩
     refine zo (who:=id) (h.vF hp g1) λ_ w h=>?_;have h:=h.cF (by simp;omega) hp;rw[g2]at h;rw[wI i om];exact ih (i+1) w om h
   refine loop k.notes.length 0 w om ?_;rw[TZ,Uf,TG,T9];exact h.sub
  |succ m ih=>
   intro i w hi h;have hm:k.ends[i]?=X k.ends[i]:=gE om;have hp:x.pe[i]?=X x.pe[i]:=gE om;obtain⟨g1,g2⟩:=GW (f:=λn:fp=>n.cancel id) hm;apply hL;refine⟨_,O,x.se,h.aA O,az om ⟨_,O,x.se,h.aA O,dG (s:=x.se) h O hp λa ha hc=>⟨_,hc,?_⟩⟩⟩
   refine zn (n:=id) (h.vF hp g1) λ_ w h=>?_;have h:=h.cF (by simp;omega) hp;rw[g2]at h;rw[wI i om];exact ih (i+1) w om h
 refine loop k.ends.length 0 w om ?_;rw[TZ,Uf,TG,T9];exact h.sub
theorem Iq{n:U}{K:U->U->Pw}(hM:M<1000000)(hk:bD N k)(h:Ow B w0 w (iz T M rb k d::R))
  (hK:∀w',Ow B w0 w' (iz T (M+1) rb (k.irq n).2.2 d::R)->K (k.irq n).2.1 (k.irq n).1 w'):Yp rb.o n K w:=by
 apply ajA;have hnote:=λy(hy:(fA k.ln n).1.1=X y)=>sD hk hy;have hok:=hk.raise (n:=n);unfold ai.irq ai.iK at hK;obtain⟨x,h⟩:=mP h;refine⟨_,O,h.l2 O (DH (n:=n) (h.pick (A:=dh x.ln k.ln)) λw h=>?_)⟩;generalize fA k.ln n=r at hK hnote hok h|-;have h:Ow B w0 w (iz T M rb { k with ln:=r.2} d::R):=bI x h.sub;cases e:r.1.1 with
 |none=>
  rw[e]at hK;exact aV O (hK w (lW (Ue M) h))
 |some y=>
  rw[e]at hK;obtain⟨n0,n1⟩:=hnote y e;refine aW O ?_;exact mf hM hok.inv n0 n1 h λw h=>hK w h
theorem Bc{T el:qi}{inf:qL}{ys:J S}{y:S}{c:S}{k:Sl->Pw}[ale:bG s L S bw ys][ak8:eL (ag bw s ys) L R](hu:qh.underlying T=X (.slice el))(hi:qh.info? el=X inf)(hz:inf.zero=X (.pointer Q))(hsz:inf.size=1)(hb:inf.bytes=8)
  (h:Ow B w0 w (ae c [.q y]::L)) (hbig:ys.length<=1000000000) (hk:∀s' w',s'.len=ys.length+1->Ow B w0 w' (ag bw s' (ys++ [y])::R)->k s' w'):
  ∃s' w',dO qh [T,T] T s.v (.slice (X c.p) 1 1) w s' w'/\k s' w':=
 Ow.eZ (E:=bw) (y:=y) hu hi hz hsz O (by rw[hb];decide) h (by rw[hb];omega) hk
theorem Fu{core:U}{c:Call}{at_:S}{K:U->Pw}(hk:bD N k)(hN:N<=100000)(hr:k.DQ core c.a c.b)(h:Ow B w0 w (de M rb k d::R))
  (hK:∀w',Ow B w0 w' (de M rb (k.made core c.a c.b at_).2 d::R)->K (k.made core c.a c.b at_).1 w'):aby rb.o core c.ask c.at_ c.ay c.a c.b c.c (at_:U) K w:=by
 apply ajU;have nu:=hk.nu;have ne:=hk.ne;have nn:=hk.nn;have ns:=hk.ns;have nf:=hk.nf;have nt:=hk.nt;obtain⟨r1,r2,r3⟩:=hr;unfold ai.made at hK;refine h.a λz w1 h=>?_;obtain⟨x,h⟩:=mP h.cC;refine h.l2 O ?_;refine dW (λe=>?_) (λe=>?_)
 .rw[Z e]at hK
  obtain⟨bn,hbn⟩:=SI (r1 e);rw[hbn,SD]at hK;refine h.dr λw h=>?_;refine⟨_,O,x.su,h.aA O,_,h.aA O,h.al λw2 h=>⟨?_,trivial⟩,trivial⟩
  generalize w.heap.size=g at h|-;have h:Ow B w0 w2 (ae g [.y (((⟨at_,bn,0⟩:sV).base:S):U),.z (((⟨at_,bn,0⟩:sV).bits:S):U),.y (((⟨at_,bn,0⟩:sV).used:S):U)]::_):=h.Be (by rw[hbn];rfl);refine CJ (s:=x.su) (y:=⟨at_,bn,0⟩) h om λs' w hs' h=>⟨_,O,?_,trivial⟩
  refine h.fD O O λw h=>?_;refine⟨_,O,s',h.aA O,?_⟩;rw[hs',show qj.wrap (((k.u.length+1:S):U)-1)=(k.u.length:U)from by rw[wr om om];omega];exact hK w (show Ow B w0 w (de M rb { k with u:=k.u++ [⟨at_,bn,0⟩]} d::R)from bI { x with su:=s'} h.sub)
 rw[Y e]at hK;refine dW (λe2=>?_) (λe2=>?_)
 .rw[Z e2]at hK
  obtain⟨b1,b2,b3⟩:=r2 e2;refine h.dr λw h=>?_;refine⟨_,O,_,h.aE O,_,h.aA O,Sl.nU (h.pick (A:=Sl.a8 x.n k.bits k.H)) λw h=>?_,trivial⟩;exact hK w (show Ow B w0 w (de M rb { k with bits:=(Sl.fq k.bits c.b).2.2} d::R)from bI x h.sub)
 rw[Y e2]at hK;refine dW (λe3=>?_) (λe3=>?_)
 .rw[Z e3]at hK
  refine⟨_,O,h.l2 O (Th.nW hk.inv.ok (h.pick (A:=Th.cp x.th k.t)) λw h=>?_)⟩;exact hK w (show Ow B w0 w (de M rb { k with t:=(k.t.df 0 core).2.2} d::R)from bI x h.sub)
 rw[Y e3]at hK;refine dW (λe4=>?_) (λe4=>?_)
 .rw[Z e4]at hK
  have hpl:=(h.pick (A:=aq eh x.pe k.ends)).cz;refine⟨_,O,x.se,h.aA O,h.a λg w2 h=>?_⟩;have h:=Lg h;refine h.a λg2 w3 h=>?_;refine Bc (s:=x.se) (y:=g) (inf:=Tryz.t146) underlying53 qa qa qa qa h om λs' w hs' h=>⟨_,O,?_⟩
  refine h.fD O O λw h=>?_;refine⟨_,O,s',h.aA O,?_⟩;rw[hs',hpl,show qj.wrap (((k.ends.length+1:S):U)-1)=(k.ends.length:U)from by rw[wr om om];omega];have h:Ow B w0 w (eh g ⟨[],qd⟩::aq eh x.pe k.ends::_):=(h.pick (A:=aq eh x.pe k.ends)).pick;have h:=h.ll;exact hK w (show Ow B w0 w (de M rb { k with ends:=k.ends++ [⟨[],qd⟩]} d::R)from bI { x with se:=s',pe:=x.pe++ [g]} h.sub)
 rw[Y e4]at hK;refine dW (λe5=>?_) (λe5=>?_)
 .rw[Z e5]at hK
  have hpl:=(h.pick (A:=aq (cq M) x.pn k.notes)).cz;refine⟨_,O,x.sn,h.aA O,h.a λg w2 h=>?_⟩;have h:=IC (N:=M) h;refine h.a λg2 w3 h=>?_;refine Bc (s:=x.sn) (y:=g) (inf:=Tryz.t151) underlying54 qa qa qa qa h om λs' w hs' h=>⟨_,O,?_⟩
  refine h.fD O O λw h=>?_;refine⟨_,O,s',h.aA O,?_⟩;rw[hs',hpl,show qj.wrap (((k.notes.length+1:S):U)-1)=(k.notes.length:U)from by rw[wr om om];omega];have h:Ow B w0 w (cq M g ⟨0,qd,[]⟩::aq (cq M) x.pn k.notes::_):=(h.pick (A:=aq (cq M) x.pn k.notes)).pick;have h:=h.ll;exact hK w (show Ow B w0 w (de M rb { k with notes:=k.notes++ [⟨0,qd,[]⟩]} d::R)from bI { x with sn:=s',pn:=x.pn++ [g]} h.sub)
 rw[Y e5]at hK;refine dW (λe8=>?_) (λe8=>?_)
 .rw[Z e8]at hK
  have hpl:=(h.pick (A:=aq Tb.db x.ps k.af)).cz;refine⟨_,O,x.ss,h.aA O,h.a λg w2 h=>?_⟩;have h:Ow B w0 w2 (ae g [Tb.bz z0,Tb.bz z0]::_):=h;have h:Ow B w0 w2 (Tb.db g Tb.js::_):=Ow.ig (sT:=z0) (sP:=z0) Tb.kh.new (Ow.cB (E:=Tb.kf) (Ow.cB (E:=Tb.aP) h)).lI;refine h.a λg2 w3 h=>?_;refine Bc (s:=x.ss) (y:=g) (inf:=Tryz.t83) underlying55 qa qa qa qa h om λs' w hs' h=>⟨_,O,?_⟩
  refine h.fD O O λw h=>?_;refine⟨_,O,s',h.aA O,?_⟩;rw[hs',hpl,show qj.wrap (((k.af.length+1:S):U)-1)=(k.af.length:U)from by rw[wr om om];omega];have h:Ow B w0 w (Tb.db g Tb.js::aq Tb.db x.ps k.af::_):=(h.pick (A:=aq Tb.db x.ps k.af)).pick;have h:=h.ll;exact hK w (show Ow B w0 w (de M rb { k with af:=k.af++ [Tb.js]} d::R)from bI { x with ss:=s',ps:=x.ps++ [g]} h.sub)
 rw[Y e8]at hK;refine dW (λe6=>?_) (λe6=>?_)
 .rw[Z e6]at hK
  refine⟨_,O,_,h.aA O,_,O,?_⟩;rw[show qj.wrap ((k.aU:U)+1)=((k.aU+1:S):U)from by rw[wr om om];omega];refine h.fD O O λw h=>?_;refine⟨_,O,h.l2 O ?_⟩;rw[show qj.wrap (((k.aU+1:S):U)-1)=(k.aU:U)from by rw[wr om om];omega];exact hK w (show Ow B w0 w (de M rb { k with aU:=k.aU+1} d::R)from bI x h.sub)
 rw[Y e6]at hK;refine⟨_,O,_,h.aA O,_,O,?_⟩;rw[show qj.wrap ((k.cP:U)+1)=((k.cP+1:S):U)from by rw[wr om om];omega];refine h.fD O O λw h=>?_;refine⟨_,O,h.l2 O ?_⟩;rw[show qj.wrap (((k.cP+1:S):U)-1)=(k.cP:U)from by rw[wr om om];omega];exact hK w (show Ow B w0 w (de M rb { k with cP:=k.cP+1} d::R)from bI x h.sub)
theorem BX{K:U->Pw}(hk:bD N k)(hN:N+64<=100000)(hs:(k.H dg.s).isSome=G)(hsa:dg.s=(0,dg.call.at_))(hc:dg.c.kind=1)(ho:k.gj dg.c)(hcore:k.t.gA dg.core=G)(h:Ow B w0 w (de M rb k d::R))
  (hK:∀w',Ow B w0 w' (de M rb (k.fc dg).2 d::R)->K (k.fc dg).1 w'):Z6 rb.o dg.core dg.call.ask dg.call.at_ dg.call.ay dg.call.a dg.call.b dg.call.c dg.c.obj K w:=by
 apply ajL;obtain⟨hu1,hu2⟩:=hk.kr ho.1 (ho.2.1 hc);have o0:=ho.1;have o1:=ho.2.1 hc;have hst:=nD (d:=dg) hk hN hs hc ho hcore;have hpl:=hu2.place (kind:=dg.call.a) (bits:=dg.call.b) (n:=dg.call.c);unfold ai.fc at hK;refine h.a λcb w1 h=>?_;intro k11 hk11;have fin:∀(l:S)(s:Sl)(w:W),Ow B w0 w (de M rb k d::ae l [.y ((bN (k.kr dg.c.obj) dg.call.a dg.call.b dg.call.c).2.1.base:U),.z ((bN (k.kr dg.c.obj) dg.call.a dg.call.b dg.call.c).2.1.bits:U),.y ((bN (k.kr dg.c.obj) dg.call.a dg.call.b dg.call.c).2.1.used:U)]::ag wE s (bN (k.kr dg.c.obj) dg.call.a dg.call.b dg.call.c).1::
   ae cb dg.call.cl::R)->k11 s l.p (bN (k.kr dg.c.obj) dg.call.a dg.call.b dg.call.c).2.2 w:=λl s w h=>by
  apply hk11;generalize bN (k.kr dg.c.obj) dg.call.a dg.call.b dg.call.c=P at h hK hst hpl|-;obtain⟨ats,left,er⟩:=P;dsimp only at h hK hst hpl|-;by_cases h0:er≠0
  .rw[Z h0]at hK
   exact iw h0 (hK w h.sub)
  rw[Y h0]at hK;have h0:er=0:=om
  obtain⟨p1,p2,p3,p4,p5,p6⟩:=hpl h0;refine fh h0 ⟨_,h.aA O,h.l2 O ?_⟩;obtain⟨cn,hcn⟩:=SI (show 0<=dg.call.c by omega);have hcn2:dg.call.c.toNat=cn:=om
  rw[hcn2]at hK;dsimp only[Call.cl]at h;rw[hcn]at h |-;refine sB (n:=cn) hk om h λw h=>?_;refine pR (λhf=>?_) (λhf=>?_)
  .rw[Z hf]at hK
   exact hK w h.sub
  rw[Y om]at hK;intro k20 hk20;have kbad:((dg.call.a=2/\64<(k.bits.length:U)+dg.call.c)\/(dg.call.a=3/\64<(k.t.bK.length:U)+dg.call.c))->∀w,Ow B w0 w (de M rb k d::R)->k20 G w:=λhb w h=>by rw[Z hb]at hK;apply hk20;exact aW O (hK w h)
  have kgood:¬((dg.call.a=2/\64<(k.bits.length:U)+dg.call.c)\/(dg.call.a=3/\64<(k.t.bK.length:U)+dg.call.c))->∀w,Ow B w0 w (de M rb k d::ae l [.y (left.base:U),.z (left.bits:U),.y (left.used:U)]::ag wE s ats::
   ae cb [.z dg.call.ask,.z dg.call.at_,.z dg.call.ay,.z dg.call.a,.z dg.call.b,.z (cn:U)]::R)->k20 qd w:=λhb w h=>by
   rw[Y hb]at hK;have hst:=hst h0 (by rw[hcn2];exact hf) hb;apply hk20;refine aV O ?_;obtain⟨x,h⟩:=mP h;refine h.dr λw h=>?_;refine⟨_,O,x.su,h.aA O,h.nq O (h.cd (s:=x.su) (i:=dg.c.obj) (j:=dg.c.obj.toNat) om hu1 λa ha _ _=>⟨?_,trivial⟩)⟩
   refine h.uc (s:=x.su) (xs:=k.u) (i:=dg.c.obj) (j:=dg.c.obj.toNat) left om om ha λw h=>?_;have h:Ow B w0 w (de M rb { k with u:=k.u.set dg.c.obj.toNat left} d::ag wE s ats::
    ae cb [.z dg.call.ask,.z dg.call.at_,.z dg.call.ay,.z dg.call.a,.z dg.call.b,.z (cn:U)]::R):=bI x h.sub
   intro l35 hl35;have loop:∀(r j M':S)(kj:ai)(w:W),j+r=cn->xa dg.core dg.call.a dg.call.b dg.call.ay dg.s (ats.drop j) j M' kj->ai.makes dg.core dg.call.a dg.call.b dg.call.ay dg.s (ats.drop j) j kj=ai.makes dg.core dg.call.a dg.call.b dg.call.ay dg.s ats 0 { k with u:=k.u.set dg.c.obj.toNat left}->
     Ow B w0 w (de M rb kj d::ag wE s ats::
    ae cb [.z dg.call.ask,.z dg.call.at_,.z dg.call.ay,.z dg.call.a,.z dg.call.b,.z (cn:U)]::R)->l35 (j:U) w:=by
    intro r;induction r with
    |zero=>
     intro j M' kj w hj hm he h;apply hl35;refine⟨_,h.aA O,av om ?_⟩;rw[Ui om]at he;have he:kj=_:=he;refine hK w ?_;rw[<-he];exact h.sub
    |succ r ih=>
     intro j M' kj w hj hm he h;have ha:ats[j]?=X ats[j]:=gE om;rw[TB (by omega:j<ats.length)]at hm he;generalize ats[j]=at_ at ha hm he;apply hl35;refine⟨_,h.aA O,az om (h.dr λw h=>?_)⟩;refine h.eE O ?_;refine h.cd (s:=s) O ha λa2 ha2 h02 _=>⟨_,h02 _ O,?_,trivial⟩
     obtain⟨g1,g2,g3,g4⟩:=hm.room;refine Fu (c:=⟨dg.call.ask,dg.call.at_,dg.call.ay,dg.call.a,dg.call.b,(cn:U)⟩) (at_:=at_) hm.ok (by have:=hm.le;omega) g1 h λw h=>?_;refine⟨_,h.aA O,_,h.aA O,h.l2 O ?_⟩;have w0':=hm.w0;rw[wr om om];obtain⟨q1,q2,q3,q4,q5,q6,q7,q8,q9⟩:=hm.ok.made (by have:=hm.le;omega) hm.kind g1 g2;refine AG (k:=(kj.made dg.core dg.call.a dg.call.b at_).2) (a:=dg.call.at_) (t:=dg.call.ay+(j:U)) (c:=⟨dg.call.a,(kj.made dg.core dg.call.a dg.call.b at_).1,7,0,0,0⟩) mD (by rw[q4];exact hm.ok.tok) (by rw[q4];have:=hm.ok.fu;omega) h λw h=>?_;rw[<-hsa]at h;rw[wI j om];exact ih (j+1) (M'+1) (kj.nR dg.core dg.call.a dg.call.b dg.call.ay dg.s j at_) w om hm.step he h
   exact loop cn 0 N _ w om hst O h
  have hbl:=hk.um.fu;have htl:=hk.inv.ok.fu;refine h.dr λw h=>?_;have h':=h;obtain⟨x,h⟩:=mP h;obtain⟨sl,ss,_,hsl,hn⟩:=(h.pick (A:=Sl.a8 x.n k.bits k.H)).nE;obtain⟨lt,qt,bs,_,ht⟩:=(h.pick (A:=Th.cp x.th k.t)).IE;have hl1:=hn.aF sl;have hl2:=ht.aF lt;refine h.l2 O ?_;refine dW (λe2=>?_) (λe2=>?_)
  .refine ⟨_,O,_,h.aE O,_,O,sl,hn.aE O,h.l2 O ?_⟩
   rw[hl1,hsl,wr om om];refine bh (λe3=>?_) (λe3=>?_)
   .exact kbad (.inl ⟨e2,om⟩) w h'.sub
   .refine h.l2 O ?_
    refine jk om ?_;exact kgood om w h'
  .refine h.l2 O ?_
   refine dW (λe3=>?_) (λe3=>?_)
   .refine ⟨_,O,_,h.aA O,_,O,lt,ht.aE O,h.l2 O ?_⟩
    rw[hl2,wr om om];by_cases e4:64<(k.t.bK.length:U)+dg.call.c
    .rw[qp (show(k.t.bK.length:U)+(cn:U)>64 by omega)]
     exact kbad (.inr ⟨e3,om⟩) w h'.sub
    .rw[ql (show ¬(k.t.bK.length:U)+(cn:U)>64 by omega)]
     exact kgood om w h'
   .exact kgood om w h'
 obtain⟨x,h⟩:=mP h.cC;refine h.dr λw h=>?_;refine⟨_,O,x.su,h.aA O,h.cd (s:=x.su) (i:=dg.c.obj) (j:=dg.c.obj.toNat) om hu1 λa ha _ hcu=>?_⟩;refine⟨_,hcu 0 _ O,_,hcu 1 _ O,_,hcu 2 _ O,⟨_,h.aA O,_,h.aA O,_,h.aA O,?_,?_,trivial⟩⟩
 .refine vG hu2 h λs w h=>?_
  refine⟨h.al λw' h=>⟨?_,trivial⟩,trivial⟩
  generalize w.heap.size=l at h|-;refine h.aB O O λw h=>?_;exact fin l s w (bI x h.sub)
 .refine h.al λw' h=>⟨?_,trivial⟩
  generalize w.heap.size=l at h|-;refine vG hu2 h λs w h=>?_;refine⟨h.aB O O λw h=>?_,trivial⟩;exact fin l s w (bI x h.sub)
theorem Oh{w:W}{A:qf}{x:Slot × dB}{f:U->U->U->U->U->U->Prop}(g:∀c v,(Sl.eM.enc x)[c]?=X v->w.cell? (A.add c)=X v)(hf:f x.2.kind x.2.obj x.2.ar x.2.aD x.2.guard x.2.bits):
  hI w (A.add 2) 0 [.o,.o,.o,.u,.u,.o] f:=by
 have g2:∀j v,(Sl.eM.enc x)[2+j]?=X v->w.cell? ((A.add 2).add j)=X v:=λj v h=>by rw[A9];exact g _ v h
 exact⟨_,g2 0 _ O,_,g2 1 _ O,_,g2 2 _ O,_,g2 3 _ O,_,g2 4 _ O,_,g2 5 _ O,hf⟩
theorem MG{w:W}{A:qf}{x:U × Tb.Pg}{f:U->U->Prop}(g:∀c v,(Tb.aP.enc x)[c]?=X v->w.cell? (A.add c)=X v)(hf:f x.2.1 x.2.2):hI w (A.add 1) 0 [.o,.o] f:=by
 have g2:∀j v,(Tb.aP.enc x)[1+j]?=X v->w.cell? ((A.add 1).add j)=X v:=λj v h=>by rw[A9];exact g _ v h
 exact⟨_,g2 0 _ O,_,g2 1 _ O,hf⟩
theorem lz(h:Ow B w0 w (iz T M rb k d::R)){n:U}{m:Tb.dS}(h0:0<=n)(hm:k.af[n.toNat]?=X m):∃(ss:Sl)(p:S)(ala:aG),w.cell? (rb.p.add 7)=X ss.v/\ss.len=k.af.length/\
  (∃a,ss.a=X a/\0<=n/\n<(ss.len:U)/\w.cell? (a.add (n.toNat*1))=X (.q p))/\Ow B w0 w (Tb.db p m::ala::R)/\
  ∀m' w' alf,Ow B w0 w' (Tb.db p m'::ala::alf)->Ow B w0 w' (iz T M rb { k with af:=k.af.set n.toNat m'} d::alf):=by
 obtain⟨x,h⟩:=mP h;have hpl:=(h.pick (A:=aq Tb.db x.ps k.af)).cz;have hss:=h.aF x.ss;have hlt:=(Sz.1 hm).1;have hp:x.ps[n.toNat]?=X x.ps[n.toNat]:=gE om;generalize x.ps[n.toNat]=p at hp;obtain⟨a,ha,_,_,hc⟩:=dG (s:=x.ss) (i:=n) (j:=n.toNat) (alc:=λa=>w.cell? (a.add (n.toNat*1))=X (.q p)) h om hp (λa _ hc=>hc);refine⟨x.ss,p,aQ [aQ ((SC Tb.db x.ps k.af).eraseIdx n.toNat),ae rb (FP x k.aU k.cP d),Sl.a8 x.n k.bits k.H,Tr.cQ x.t k.T,Th.cp x.th k.t,dh x.ln k.ln,ag dV x.su k.u,ag bw x.se x.pe,aq eh x.pe k.ends,ag bw x.sn x.pn,aq (cq M) x.pn k.notes,ag bw x.ss x.ps,T x.sf d.forget],h.aA O,om,⟨a,ha,h0,om,hc⟩,?_,λm' w' alf h=>?_⟩
 .have h:=(h.pick (A:=aq Tb.db x.ps k.af)).vF hp hm
  exact Ow.cC (Ow.aR (show Ow B w0 w (aQ ((SC Tb.db x.ps k.af).eraseIdx n.toNat)::ae rb (FP x k.aU k.cP d)::Sl.a8 x.n k.bits k.H::Tr.cQ x.t k.T::Th.cp x.th k.t::dh x.ln k.ln::ag dV x.su k.u::ag bw x.se x.pe::aq eh x.pe k.ends::ag bw x.sn x.pn::aq (cq M) x.pn k.notes::ag bw x.ss x.ps::T x.sf d.forget::Tb.db p m::R)from h.sub))
 .have h:Ow B w0 w' (aQ ((SC Tb.db x.ps k.af).eraseIdx n.toNat)::ae rb (FP x k.aU k.cP d)::Sl.a8 x.n k.bits k.H::Tr.cQ x.t k.T::Th.cp x.th k.t::dh x.ln k.ln::ag dV x.su k.u::ag bw x.se x.pe::aq eh x.pe k.ends::ag bw x.sn x.pn::aq (cq M) x.pn k.notes::ag bw x.ss x.ps::T x.sf d.forget::Tb.db p m'::alf):=(h.cC).star
  have h:Ow B w0 w' (Tb.db p m'::aQ ((SC Tb.db x.ps k.af).eraseIdx n.toNat)::_):=(h.pick (A:=aQ ((SC Tb.db x.ps k.af).eraseIdx n.toNat))).pick;have h:=h.cF hpl hp;exact(show Ow B w0 w' (iz T M rb { k with af:=k.af.set n.toNat m'} d::alf)from bI x h.sub)
theorem tT(h:Ow B w0 w (iz T M rb k d::R)):∃ss:Sl,w.cell? (rb.p.add 7)=X ss.v/\ss.len=k.af.length:=by obtain⟨x,h⟩:=mP h;have hpl:=(h.pick (A:=aq Tb.db x.ps k.af)).cz;exact⟨x.ss,h.aA O,by rw[h.aF x.ss,hpl]⟩
theorem wF{α:Type}{P alf:J α}{x y:α}{i:S}(hi:i=P.length):(P++x::alf).set i y=P++y::alf:=by subst hi;rw[Uy _ _ (SA _),Uh];rfl
theorem wD{α:Type}{P alf:J α}{x:α}{i:S}(hi:i=P.length):(P++x::alf)[i]?=X x:=by subst hi;rw[SP (SA _),Uh];rfl
theorem xW{s:Slot}{K:Pw}(hk:bD N k)(hN:N<=200000)(hs:(k.H s).isSome=G)(hF:d.forget.length+kC k.af<=1000000000)(h:Ow B w0 w (de M rb k d::R))
  (hK:∀w',Ow B w0 w' (de M rb (k.gone s).2 { d with forget:=d.forget++(k.gone s).1}::R)->K w'):aab rb.o s.1 s.2 K w:=by
 apply ajO;have hkt:=hk.taken hs;obtain⟨c,hc⟩:=Option.isSome_iff_exists.1 hs;unfold ai.gone at hK;rw[hc,TR]at hK;have hth:Sl.bc k.bits s=true:=nH hk.b0 (hk.held s c hc).1;refine h.a λc0 w1 h=>?_;refine h.dr λw h=>?_;obtain⟨x,h⟩:=mP h.cC;refine⟨_,O,h.l2 O (h.aM O ⟨Tr.FD (s:=s) hk.tok (h.pick (A:=Tr.cQ x.t k.T)) λw h=>?_,trivial⟩)⟩;intro k12 hk12;have fin:∀(cb:S)(w:W),Ow B w0 w (de M rb (k.taken s) d::ae cb c.cells::R)->k12 cb.p w:=λcb w h=>by
  apply hk12;have hF2:d.forget.length+kC (k.taken s).af<=1000000000:=hF;generalize k.taken s=kt at hkt hK hF2 h|-;have nsp:=SY hkt.ns hN;obtain⟨x,h⟩:=mP h;refine⟨_,O,h.l1 O (Sl.nT (h.pick (A:=Sl.a8 x.n kt.bits kt.H)) λs2 hs2 w hih h=>?_)⟩;have e2:hs2=fS kt.H:=hih.uniq (tw λt c hc=>(hkt.held t c hc).1);subst e2;have h64:=uF kt.H;have hany:=Ae kt.H c;have h:Ow B w0 w (de M rb kt d::ag Sl.eM s2 (fS kt.H)::ae cb c.cells::R):=bI x h.sub;intro l19 hl19;have loop:∀(m j:S)(w:W),j+m=(fS kt.H).length->(∀i y,i<j->(fS kt.H)[i]?=X y->ai.oa y.2 c=qd)->Ow B w0 w (de M rb kt d::ag Sl.eM s2 (fS kt.H)::ae cb c.cells::R)->l19 (j:U) w:=by
   intro m;induction m with
   |succ m ih=>
    intro j w hj hno h;have hlen:=h.aF s2;have hx:(fS kt.H)[j]?=X (fS kt.H)[j]:=gE om;apply hl19;refine az om ?_;refine h.dr λw h=>?_;refine h.cd (s:=s2) O hx λa ha _ hc1=>Oh hc1 ?_;refine h.eE O ⟨?_,trivial⟩;refine Fz h λw h=>?_;cases e:ai.oa (fS kt.H)[j].2 c with
    |true=>
     have hm:kt.more c=true:=hany.symm.trans (TY.2 ⟨_,Tq om,e⟩);rw[Z hm]at hK;refine aW O (hK w ?_);show Ow B w0 w (de M rb kt { d with forget:=d.forget++ []}::R);rw[SL];exact h.sub
    |false=>
     refine aV O ?_;rw[wr om om];refine ih (j+1) w om (λi y hi hy=>?_) h;by_cases e2:i=j
     .subst e2;rw[hx]at hy;cases hy;exact e
     .exact hno i y om hy
   |zero=>
    intro j w hj hno h;have hlen:=h.aF s2;apply hl19;refine av om (h.l1 O ?_);have hm:kt.more c=false:=hany.symm.trans (by rw[Uv];intro y hy;obtain⟨i,hi⟩:=Tg.1 hy;simp[hno i y (by have:=(Sz.1 hi).1;omega) hi]);rw[Y (by rw[hm];decide)]at hK;unfold ai.last at hK;have h:Ow B w0 w (de M rb kt d::ae cb c.cells::R):=h.sub;intro k39 hk39;have fin41:∀(kk:ai)(w:W),kk.af=kt.af->(∀w',Ow B w0 w' (de M rb (if c.kind=6 then { kk with af:=(ai.bC c.obj 0 kk.af).2}else if c.kind=7 then { kk with af:=(ai.dv c.obj 0 kk.af).2}else kk) { d with forget:=d.forget++(if c.kind=6 then(ai.bC c.obj 0 kk.af).1 else if c.kind=7 then(ai.dv c.obj 0 kk.af).1 else [])}::R)->K w')->
      Ow B w0 w (de M rb kk d::ae cb c.cells::R)->k39 w:=λkk w hsp hK h=>by
     apply hk39;intro l41 hl41;have hsok:∀m∈kk.af,Tb.fV m:=by rw[hsp];exact hkt.Cd
     have hsl:kk.af.length<=200000:=by rw[hsp];exact nsp
     have hFk:d.forget.length+kC kk.af<=1000000000:=by rw[hsp];exact hF2
     clear hsp;have ex41:∀(i:S)(kk:ai)(dd:Told)(w:W),(c.kind=6->kk.af.length<=i)->kk.af.length<=200000->(c.kind=7->dd.forget.length+kC kk.af<=1000000000)->(∀w',Ow B w0 w' (de M rb (if c.kind=7 then { kk with af:=(ai.dv c.obj 0 kk.af).2}else kk) { dd with forget:=dd.forget++(if c.kind=7 then(ai.dv c.obj 0 kk.af).1 else [])}::R)->K w')->
       Ow B w0 w (de M rb kk dd::ae cb c.cells::R)->l41 (i:U) w:=λi kk dd w h6 hsl hb hK h=>by
      apply hl41;intro k44 hk44;have out:k44 qd w:=by
       apply hk44;refine aV O ?_;intro l86 hl86;by_cases e7:c.kind=7
       .rw[Z e7,Z e7]at hK
        have hb:=hb e7;have loop:∀(r i:S)(w:W),i+r=kk.af.length->Ow B w0 w (de M rb { kk with af:=(ai.dv c.obj 0 (kk.af.take i)).2++kk.af.drop i} { dd with forget:=dd.forget++(ai.dv c.obj 0 (kk.af.take i)).1}::ae cb c.cells::R)->l86 (i:U) w:=by
         intro r;induction r with
         |zero=>
          intro i w hi h;apply hl86;intro k89 hk89;obtain⟨ss,hs7,hs8⟩:=tT h;rw[SE om,Ui om,SL]at h;have hul:ss.len=kk.af.length:=by rw[hs8];simp[kH];omega
          exact⟨_,O,ss,hs7,av om (hk89 _ _ (aV O (hK w h.sub)))⟩
         |succ r ih=>
          intro i w hi h;have hm:kk.af[i]?=X kk.af[i]:=gE om;have hdr:kk.af.drop i=kk.af[i]::kk.af.drop (i+1):=TB om;generalize kk.af[i]=m at hm hdr;have htk:kk.af.take (i+1)=kk.af.take i++ [m]:=by rw[SO,hm];rfl
          have hPl:((ai.dv c.obj 0 (kk.af.take i)).2).length=i:=by rw[kH,SN];omega
          have hpg1:=ug c.obj (kk.af.take (i+1)) 0;have hpg2:kC (kk.af.take (i+1))<=kC kk.af:=by have:=rj (kk.af.take (i+1)) (kk.af.drop (i+1));rw[Tl]at this;omega
          have hsn:=sL c.obj m (kk.af.take i) 0;rw[htk]at hpg1 hpg2;rw[hsn]at hpg1;rw[SS,SN,TL om]at hsn hpg1;simp only[SG]at hpg1;rw[hdr]at h;generalize hP:(ai.dv c.obj 0 (kk.af.take i)).2=P at h hPl hsn hpg1;generalize hG0:(ai.dv c.obj 0 (kk.af.take i)).1=G0 at h hsn hpg1;have hlw:i<200000:=om
          apply hl86;intro k89 hk89;obtain⟨ss,hs7,hs8⟩:=tT h;have hs9:ss.len=kk.af.length:=by rw[hs8];simp[hPl];omega
          refine⟨_,O,ss,hs7,az om (h.l1 O ?_)⟩;rw[show(c.kind==7)=G from by simpa using e7];apply hk89;refine aW O ?_;intro l92 hl92;have places:∀(r j:S)(mj:Tb.dS)(alc:J dM)(w:W),j+r=64->(alc++(ai.ed c.obj i r j mj).1=(ai.ed c.obj i 64 0 m).1)->((ai.ed c.obj i r j mj).2=(ai.ed c.obj i 64 0 m).2)->
            Ow B w0 w (de M rb { kk with af:=P++mj::kk.af.drop (i+1)} { dd with forget:=dd.forget++G0++alc}::ae cb c.cells::R)->l92 (j:U) w:=by
           intro r;induction r with
           |zero=>
            intro j mj alc w hj hG hM h;apply hl92;refine av om ?_;have hM:mj=_:=hM;have hG:alc++ []=_:=hG;rw[SL]at hG;rw[hM,hG]at h;rw[wI i om];refine ih (i+1) w om ?_;rw[htk,hsn,S6 P,<-S6 dd.forget];exact h
           |succ r ih2=>
            intro j mj alc w hj hG hM h;apply hl92;refine az om ?_;obtain⟨s3,p3,Y3,g1,_,⟨a3,g3,g4,g5,g6⟩,h3,_⟩:=lz (n:=(i:U)) (m:=mj) h om (wD hPl.symm);refine⟨_,O,s3,g1,a3,g3,g4,g5,_,g6,Tb.uW h3 ?_⟩;intro k102 hk102;rw[pN]at hG hM;rw[wI j om]at hk102;have no:mj.at (j:U)≠X c.obj->k102 qd w:=λhn=>by rw[Y hn]at hG hM;apply hk102;refine aV O ?_;exact ih2 (j+1) mj alc w om hG hM h
            have yes:mj.at (j:U)=X c.obj->k102 G w:=λhy=>by
             rw[Z hy]at hG hM;apply hk102;refine aW O ?_;obtain⟨s4,p4,Y4,f1,_,⟨a4,f3,f4,f5,f6⟩,h4,hback⟩:=lz (n:=(i:U)) (m:=mj) h om (wD hPl.symm);refine⟨_,O,s4,f1,a4,f3,f4,f5,_,f6,Tb.Fs h4 λs5 w h=>?_⟩;have h:=hback (mj.bE (j:U)).2.2 w (ag Tb.aP s5 (mj.bE (j:U)).1::ae cb c.cells::R) h.sub;have h:Ow B w0 w (de M rb { kk with af:=(P++mj::kk.af.drop (i+1)).set i (mj.bE (j:U)).2.2} { dd with forget:=dd.forget++G0++alc}::ag Tb.aP s5 (mj.bE (j:U)).1::ae cb c.cells::R):=h;rw[wF hPl.symm]at h;intro l112 hl112;have hGl:=qz TO hG;simp only[SG]at hGl;have hlines:(ai.ba i (mj.bE (j:U)).1).length=(mj.bE (j:U)).1.length:=by unfold ai.ba;rw[S9]
             have inner:∀(r q:S)(w:W),q+r=(mj.bE (j:U)).1.length->Ow B w0 w (de M rb { kk with af:=P++(mj.bE (j:U)).2.2::kk.af.drop (i+1)} { dd with forget:=dd.forget++G0++(alc++ai.ba i ((mj.bE (j:U)).1.take q))}::ag Tb.aP s5 (mj.bE (j:U)).1::ae cb c.cells::R)->l112 (q:U) w:=by
              intro r;induction r with
              |zero=>
               intro q w hq h;have hsl:=h.aF s5;apply hl112;refine av om ?_;rw[SE (l:=(mj.bE (j:U)).1) om]at h;exact ih2 (j+1) _ (alc++ai.ba i (mj.bE (j:U)).1) w om (by rw[S6];exact hG) hM h.sub
              |succ r ih3=>
               intro q w hq h;have hsl:=h.aF s5;have hx:(mj.bE (j:U)).1[q]?=X (mj.bE (j:U)).1[q]:=gE om;have htq:(mj.bE (j:U)).1.take (q+1)=(mj.bE (j:U)).1.take q++ [(mj.bE (j:U)).1[q]]:=by rw[SO,hx];rfl
               generalize (mj.bE (j:U)).1[q]=y at hx htq;have hqlen:(dd.forget++G0++(alc++ai.ba i ((mj.bE (j:U)).1.take q))).length<=1000000000:=by
                have e8:(ai.ba i ((mj.bE (j:U)).1.take q)).length<=(mj.bE (j:U)).1.length:=by unfold ai.ba;rw[S9,SN];omega
                simp only[SG];omega
               apply hl112;refine az om ?_;refine h.dr λw h=>?_;refine h.cd (s:=s5) O hx λa ha h0 _=>⟨_,h0 _ O,?_⟩
               refine h.cd (s:=s5) O hx λa ha _ hc1=>MG hc1 ⟨?_,trivial⟩;refine nA (sp:=(i:U)) (pg:=y.1) (p1:=y.2.1) (p2:=y.2.2) hqlen h λw h=>?_;rw[wI q om];refine ih3 (q+1) w om ?_;have e9:dd.forget++G0++(alc++ai.ba i ((mj.bE (j:U)).1.take (q+1)))=dd.forget++G0++(alc++ai.ba i ((mj.bE (j:U)).1.take q))++ [⟨(i:U),y.1,y.2.1,y.2.2⟩]:=by rw[htq];unfold ai.ba;rw[S0];simp only[S6];rfl
               rw[e9];exact h
             refine inner _ 0 w (SS _) ?_;rw[TZ];show Ow B w0 w (de M rb { kk with af:=P++(mj.bE (j:U)).2.2::kk.af.drop (i+1)} { dd with forget:=dd.forget++G0++(alc++ [])}::_);rw[SL];exact h
            cases hat:mj.at (j:U)with
            |none=>exact aV O (no (by rw[hat];simp))
            |some n=>
             refine aW O (h.l2 O ?_);show k102 (n==c.obj) w;by_cases en:n=c.obj
             .rw[show(n==c.obj)=G from by simpa using en];exact yes (by rw[hat,en])
             .rw[show(n==c.obj)=qd from by simpa using en];exact no (by rw[hat];simpa using en)
          refine places 64 0 m [] w (SS _) (TG _) O ?_;rw[SL];exact h
        refine loop kk.af.length 0 w (SS _) ?_;rw[TZ,T9];show Ow B w0 w (de M rb { kk with af:=[]++kk.af} { dd with forget:=dd.forget++ []}::_);rw[TG,SL];exact h
       .rw[Y e7,Y e7,SL]at hK
        apply hl86;intro k89 hk89;have o:k89 qd w:=hk89 _ _ (aV O (hK w h.sub));obtain⟨ss,hs7,hs8⟩:=tT h;refine⟨_,O,ss,hs7,bh (λ_=>(h.l1 O ?_)) (λ_=>o)⟩;rw[show(c.kind==7)=qd from by simpa using e7];exact o
      obtain⟨ss,hs7,hs8⟩:=tT h;refine⟨_,O,ss,hs7,bh (λe=>(h.l1 O ?_)) (λ_=>out)⟩;by_cases e6:c.kind=6
      .have:=h6 e6;omega
      .rw[show(c.kind==6)=qd from by simpa using e6];exact out
     by_cases e6:c.kind=6
     .rw[Z e6,Z e6]at hK
      have loop:∀(r i:S)(w:W),i+r=kk.af.length->Ow B w0 w (de M rb { kk with af:=(ai.bC c.obj 0 (kk.af.take i)).2++kk.af.drop i} { d with forget:=d.forget++(ai.bC c.obj 0 (kk.af.take i)).1}::ae cb c.cells::R)->l41 (i:U) w:=by
       intro r;induction r with
       |zero=>
        intro i w hi h;rw[SE om,Ui om,SL]at h;refine ex41 i { kk with af:=(ai.bC c.obj 0 kk.af).2} _ w (λ_=>by show(ai.bC c.obj 0 kk.af).2.length<=i;rw[gy];omega) (by show(ai.bC c.obj 0 kk.af).2.length<=_;rw[gy];exact hsl) (λe=>by omega) (λw h=>?_) h;rw[Y (show ¬c.kind=7 by omega),Y (show ¬c.kind=7 by omega),SL]at h;exact hK w h
       |succ r ih=>
        intro i w hi h;have hm:kk.af[i]?=X kk.af[i]:=gE om;have hmm:kk.af[i]∈kk.af:=Tq _;have hdr:kk.af.drop i=kk.af[i]::kk.af.drop (i+1):=TB om;generalize kk.af[i]=m at hm hmm hdr;have hsm:=hsok m hmm;have htk:kk.af.take (i+1)=kk.af.take i++ [m]:=by rw[SO,hm];rfl
        have hPl:((ai.bC c.obj 0 (kk.af.take i)).2).length=i:=by rw[gy,SN];omega
        have hpg1:=nI c.obj (kk.af.take (i+1)) 0;have hpg2:kC (kk.af.take (i+1))<=kC kk.af:=by have:=rj (kk.af.take (i+1)) (kk.af.drop (i+1));rw[Tl]at this;omega
        have hsn:=nJ c.obj m (kk.af.take i) 0;rw[htk]at hpg1 hpg2;rw[hsn]at hpg1;rw[SS,SN,TL om]at hsn hpg1;simp only[SG]at hpg1;rw[hdr]at h;generalize hP:(ai.bC c.obj 0 (kk.af.take i)).2=P at h hPl hsn hpg1;generalize hG0:(ai.bC c.obj 0 (kk.af.take i)).1=G0 at h hsn hpg1;apply hl41;intro k44 hk44;obtain⟨ss,hs7,hs8⟩:=tT h;have hs9:ss.len=kk.af.length:=by rw[hs8];simp[hPl];omega
        refine⟨_,O,ss,hs7,az om (h.l1 O ?_)⟩;rw[show(c.kind==6)=G from by simpa using e6];apply hk44;refine aW O ?_;refine h.dr λw h=>?_;obtain⟨s3,p3,Y3,g1,_,⟨a3,g3,g4,g5,g6⟩,h3,hback⟩:=lz (n:=(i:U)) (m:=m) h om (wD hPl.symm);refine⟨_,O,s3,g1,a3,g3,g4,g5,_,g6,_,h.aA O,Tb.BW h3 λs5 w h=>?_,trivial⟩;have h:=hback m w (ag ax s5 (Tb.di m.pg c.obj)::ae cb c.cells::R) h.sub;have h:Ow B w0 w (de M rb { kk with af:=(P++m::kk.af.drop (i+1)).set i m} { d with forget:=d.forget++G0}::ag ax s5 (Tb.di m.pg c.obj)::ae cb c.cells::R):=h;rw[wF hPl.symm]at h;intro l55 hl55;have hfl:∀q:S,(Tb.di m.pg c.obj)[q]?=((m.pg.filter λx=>x.2.1==c.obj)[q]?).map (·.1):=λq=>by unfold Tb.di;rw[S2]
        have hfn:(Tb.di m.pg c.obj).length=(m.pg.filter λx=>x.2.1==c.obj).length:=by unfold Tb.di;rw[S9]
        have hll:(ai.ba i (m.pg.filter λx=>x.2.1==c.obj)).length=(m.pg.filter λx=>x.2.1==c.obj).length:=by unfold ai.ba;rw[S9]
        have inner:∀(r q:S)(w:W),q+r=(m.pg.filter λx=>x.2.1==c.obj).length->Ow B w0 w (de M rb { kk with af:=P++{ m with pg:=jW m.pg ((m.pg.filter λx=>x.2.1==c.obj).take q)}::kk.af.drop (i+1)} { d with forget:=d.forget++G0++ai.ba i ((m.pg.filter λx=>x.2.1==c.obj).take q)}::ag ax s5 (Tb.di m.pg c.obj)::ae cb c.cells::R)->l55 (q:U) w:=by
         intro r;induction r with
         |zero=>
          intro q w hq h;have hsl:=h.aF s5;apply hl55;refine av om ?_;rw[SE (l:=m.pg.filter λx=>x.2.1==c.obj) om,CY hsm.mo]at h;rw[wI i om];refine ih (i+1) w om ?_;rw[htk,hsn,S6 P,<-S6 d.forget,List.singleton_append];exact h.sub
         |succ r ih2=>
          intro q w hq h;have hsl:=h.aF s5;have hx:(m.pg.filter λx=>x.2.1==c.obj)[q]?=X (m.pg.filter λx=>x.2.1==c.obj)[q]:=gE om;have hlk:=zY hsm.mo (λx=>x.2.1==c.obj) hx;have htq:(m.pg.filter λx=>x.2.1==c.obj).take (q+1)=(m.pg.filter λx=>x.2.1==c.obj).take q++ [(m.pg.filter λx=>x.2.1==c.obj)[q]]:=by rw[SO,hx];rfl
          have hmem:(m.pg.filter λx=>x.2.1==c.obj)[q]∈m.pg:=(SV.1 (Tq _)).1;have hfx:=hfl q;rw[hx]at hfx;generalize (m.pg.filter λx=>x.2.1==c.obj)[q]=y at hx hlk htq hmem hfx;have hbnd:=hsm.vp y hmem;have hun:({ m with pg:=jW m.pg ((m.pg.filter λx=>x.2.1==c.obj).take q)}:Tb.dS).cJ y.1=(y.2,0,{ m with pg:=jW m.pg ((m.pg.filter λx=>x.2.1==c.obj).take (q+1))}):=by unfold Tb.dS.cJ;rw[Y om,hlk,htq,zZ]
          have hqlen:(d.forget++G0++ai.ba i ((m.pg.filter λx=>x.2.1==c.obj).take q)).length<=1000000000:=by unfold ai.ba at hpg1|-;simp only[SG,S9,SN]at hpg1|-;omega
          apply hl55;refine az om ?_;intro k58 hk58;have go:∀(g:S)(w:W),Ow B w0 w (ae g [.z y.2.1,.z y.2.2]::de M rb { kk with af:=P++{ m with pg:=jW m.pg ((m.pg.filter λx=>x.2.1==c.obj).take (q+1))}::kk.af.drop (i+1)} { d with forget:=d.forget++G0++ai.ba i ((m.pg.filter λx=>x.2.1==c.obj).take q)}::ag ax s5 (Tb.di m.pg c.obj)::ae cb c.cells::R)->k58 g.p w:=λg w h=>by
           apply hk58;refine h.dr λw h=>?_;refine h.cd (s:=s5) O hfx λa ha h0 _=>⟨_,h0 _ O,?_⟩
           refine h.aM O ⟨?_,trivial⟩;refine nA (sp:=(i:U)) (pg:=y.1) (p1:=y.2.1) (p2:=y.2.2) hqlen h.cC λw h=>?_;rw[show qj.wrap ((q:U)+1)=((q+1:S):U)from by have:=fV.DD hsm;have:=S3 (λx:U × Tb.Pg=>x.2.1==c.obj) m.pg;rw[wr om om];omega];refine ih2 (q+1) w om ?_;have e9:d.forget++G0++ai.ba i ((m.pg.filter λx=>x.2.1==c.obj).take (q+1))=d.forget++G0++ai.ba i ((m.pg.filter λx=>x.2.1==c.obj).take q)++ [⟨(i:U),y.1,y.2.1,y.2.2⟩]:=by rw[htq];unfold ai.ba;rw[S0];simp only[S6];rfl
           rw[e9];exact h.sub
          refine h.dr λw h=>?_;obtain⟨s3,p3,Y3,g1,_,⟨a3,g3,g4,g5,g6⟩,h3,hback⟩:=lz (n:=(i:U)) (m:={ m with pg:=jW m.pg ((m.pg.filter λx=>x.2.1==c.obj).take q)}) h om (wD hPl.symm);refine⟨_,O,s3,g1,a3,g3,g4,g5,_,g6,h.cd (s:=s5) O hfx λa ha h0 _=>⟨_,h0 _ O,?_,?_,trivial⟩⟩
          .refine Tb.lV h3 λw h=>?_
           rw[hun]at h|-;have h:Ow B w0 w (de M rb { kk with af:=(P++{ m with pg:=jW m.pg ((m.pg.filter λx=>x.2.1==c.obj).take q)}::kk.af.drop (i+1)).set i { m with pg:=jW m.pg ((m.pg.filter λx=>x.2.1==c.obj).take (q+1))}} _::_):=hback _ w _ h;rw[wF hPl.symm]at h;refine⟨h.al λw2 h=>⟨?_,trivial⟩,trivial⟩
           generalize w.heap.size=g at h|-;refine h.aB O O λw h=>?_;exact go g w h
          .refine h3.al λw2 h=>⟨?_,trivial⟩
           generalize w.heap.size=g at h|-;refine Tb.lV h.cC λw h=>?_;rw[hun]at h|-;have h:Ow B w0 w (de M rb { kk with af:=(P++{ m with pg:=jW m.pg ((m.pg.filter λx=>x.2.1==c.obj).take q)}::kk.af.drop (i+1)).set i { m with pg:=jW m.pg ((m.pg.filter λx=>x.2.1==c.obj).take (q+1))}} _::ae g [.z 0,.z 0]::_):=hback _ w _ h.lI.cC;rw[wF hPl.symm]at h;refine⟨h.aB O O λw h=>?_,trivial⟩;exact go g w h.cC
        refine inner _ 0 w (SS _) ?_;have e1:jW m.pg ((m.pg.filter λx=>x.2.1==c.obj).take 0)=m.pg:=by rw[TZ,CZ]
        have e2:ai.ba i ((m.pg.filter λx=>x.2.1==c.obj).take 0)= []:=rfl;rw[e1,e2,SL];exact h
      refine loop kk.af.length 0 w (SS _) ?_;rw[TZ,T9];show Ow B w0 w (de M rb { kk with af:=[]++kk.af} { d with forget:=d.forget++ []}::_);rw[TG,SL];exact h
     .rw[Y e6,Y e6]at hK
      exact ex41 0 kk d w (λe=>qk e e6) hsl (λ_=>hFk) hK h
    refine dW (λe3=>?_) (λe3=>?_)
    .rw[Z e3]at hK
     refine h.l2 O ?_;refine pv (id:=c.obj) ⟨SY hkt.ne hN,SY hkt.nn hN⟩ h λw h=>?_;refine h.dr λw h=>?_;obtain⟨x,h⟩:=mP h;refine⟨_,O,_,h.aA O,_,h.aA O,Th.lx hkt.inv (h.pick (A:=Th.cp x.th (kt.eH c.obj).t)) λw h=>?_,trivial⟩;refine fin41 ((kt.eH c.obj).cG (kt.t.cy c.obj).2) w O (λw h=>?_) (bI x h.sub);rw[Y om,Y om,Y om,Y om]at h;exact hK w h
    .rw[Y e3]at hK
     refine fin41 kt w O (λw h=>?_) h;by_cases e6:c.kind=6
     .rw[Z e6,Z e6]at h
      rw[Z e6]at hK;exact hK w h
     .rw[Y e6,Y e6]at h
      rw[Y e6]at hK;by_cases e7:c.kind=7
      .rw[Z e7,Z e7]at h
       rw[Z e7]at hK;exact hK w h
      .rw[Y e7,Y e7]at h
       rw[Y e7]at hK;exact hK w h
  exact loop _ 0 w (SS _) (λi y hi=>by omega) h
 refine h.dr λw h=>?_;refine⟨_,O,h.l1 O (h.aM O ⟨?_,?_,trivial⟩)⟩
 .refine Sl.nV (s:=s) (h.pick (A:=Sl.a8 x.n k.bits k.H)) (λe=>by rw[hth]at e;cases e) (λ_ e=>by rw[hc]at e;cases e) λ_ c2 hc2 w h=>?_
  rw[hc]at hc2;cases hc2;refine⟨h.al λw' h=>⟨?_,trivial⟩,trivial⟩
  generalize w.heap.size=sb at h|-;refine h.aB O O λw h=>?_;exact fin sb w (bI x h.sub)
 .refine h.al λw' h=>⟨?_,trivial⟩
  generalize w.heap.size=sb at h|-;refine Sl.nV (s:=s) (h.pick (A:=Sl.a8 x.n k.bits k.H)) (λe=>by rw[hth]at e;cases e) (λ_ e=>by rw[hc]at e;cases e) λ_ c2 hc2 w h=>?_;rw[hc]at hc2;cases hc2;refine⟨h.aB O O λw h=>?_,trivial⟩;exact fin sb w (bI x h.sub)
theorem sC{w:W}{ask:U}{K:U->Pw}(h0:0<=ask)(h1:ask<17)(hK:K (ai.aJ ask).1 w):Z5 ask K w:=by
 apply ajK;have hask:ask=0\/ask=1\/ask=2\/ask=3\/ask=4\/ask=5\/ask=6\/ask=7\/ask=8\/ask=9\/ask=10\/ask=11\/ask=12\/ask=13\/ask=14\/ask=15\/ask=16:=om
 rcases hask with rfl|rfl|rfl|rfl|rfl|rfl|rfl|rfl|rfl|rfl|rfl|rfl|rfl|rfl|rfl|rfl|rfl<;>
  (repeat' (first|(exact hK)|(refine gC O ?_)|(refine jk qb ?_)|(intro k2 hk2)|(apply hk2)))
theorem DO:∀r:Fin 8,((qj.wrap (((r.val:S):U).tdiv 2)).tmod 2==1)=qe (fE .i64 ((r.val:S):U) 2=2)/\((((r.val:S):U)).tmod 2==1)=qe (fE .i64 ((r.val:S):U) 1=1)/\fE .i64 ((r.val:S):U) 0=0:=by decide +kernel
theorem IB{c:dB}(h:Sl.cH c=0):((qj.wrap (c.ar.tdiv 2)).tmod 2==1)=qe (fE .i64 c.ar 2=2)/\(c.ar.tmod 2==1)=qe (fE .i64 c.ar 1=1)/\fE .i64 c.ar 0=0:=by
 have hb:0<=c.ar/\c.ar<=7:=by
  unfold Sl.cH at h;split at h
  .rename_i e;rw[e];decide
  split at h
  .cases h
  .rename_i hb
   unfold Sl.ia at hb;simp only[TV,S4,Vk,qF,not_or,Bool.not_eq_false,S4]at hb;omega
 obtain⟨r,hr⟩:=SI hb.1;have:=DO ⟨r,om⟩;rw[hr];exact this
theorem It{core cur:U}{c:Call}{K:I->Pw}(hk:bD N k)(h0:0<=c.ask)(h1:c.ask<17)(h:Ow B w0 w (de M rb k d::R))
  (hF:∀w',k.asked core cur c=ai.tell 181 k->Ow B w0 w' (de M rb k d::R)->K qd w')
  (hT:∀w',k.dT c.at_ (ai.aJ c.ask).1=G->¬(c.ask=1/\(k.bm c.at_).kind=1)->k.asked core cur c=k.asks ⟨core,cur,c,(0,c.at_),k.bm c.at_⟩->Ow B w0 w' (de M rb k d::R)->K G w'):
  YX rb.o c.ask c.at_ c.ay c.a c.b c.c K w:=by
 apply ajD;refine h.a λcb w1 h=>?_;refine h.l2 O ?_;refine kE hk h.cC λw x hx hr h=>?_;refine h.a λxb w2 h=>?_;refine h.aB O O λw h=>?_;have hA:k.asked core cur c=if k.dT c.at_ (ai.aJ c.ask).1=qd then ai.tell 181 k else if fE .i64 (k.bm c.at_).ar (ai.aJ c.ask).2≠(ai.aJ c.ask).2 then ai.tell 181 k else k.asks ⟨core,cur,c,(0,c.at_),k.bm c.at_⟩:=rfl
 intro k19 hk19;have bad:∀w,k.dT c.at_ (ai.aJ c.ask).1=qd->Ow B w0 w (ae xb x.cells::de M rb k d::ae cb c.cl::R)->k19 G w:=λw e h=>by apply hk19;rw[Z e]at hA;exact aW O (hF w hA h.sub)
 have good:∀w,k.dT c.at_ (ai.aJ c.ask).1=G->Ow B w0 w (ae xb x.cells::de M rb k d::ae cb c.cl::R)->k19 qd w:=λw e h=>by
  apply hk19;have hxe:Sl.cH x=0:=by rw[hx];exact(hk.cap (jm e).1).2.2.2.2
  obtain⟨g2,g1,g0⟩:=IB hxe;rw[Y (by rw[e];decide),<-hx]at hA;rw[<-hx]at hT;refine aV O ?_;intro k22 hk22;have no1:¬(c.ask=1/\x.kind=1)->k22 qd w:=λhm=>by
   apply hk22;refine aV O ?_;intro k25 hk25;have t2:(ai.aJ c.ask).2=2->k25 G w:=λhn=>by
    apply hk25;refine aW O ⟨_,h.aA O,qb,qb,?_⟩;rw[g2];rw[hn]at hA;by_cases e2:fE .i64 x.ar 2=2
    .rw[qp e2]
     rw[Y (λhh=>hh e2)]at hA;exact hT w e hm hA h.sub
    .rw[ql e2]
     rw[Z e2]at hA;exact hF w hA h.sub
   have f2:(ai.aJ c.ask).2≠2->k25 qd w:=λhn2=>by
    apply hk25;refine aV O ?_;intro k29 hk29;have t1:(ai.aJ c.ask).2=1->k29 G w:=λhn=>by
     apply hk29;refine aW O ⟨_,h.aA O,qb,?_⟩;rw[g1];rw[hn]at hA;by_cases e2:fE .i64 x.ar 1=1
     .rw[qp e2]
      rw[Y (λhh=>hh e2)]at hA;exact hT w e hm hA h.sub
     .rw[ql e2]
      rw[Z e2]at hA;exact hF w hA h.sub
    have f1:(ai.aJ c.ask).2=0->k29 qd w:=λhn=>by apply hk29;refine aV O ?_;rw[hn,Y (λhh=>hh g0)]at hA;exact hT w e hm hA h.sub
    refine h.l1 O ?_;refine dW (λe9=>t1 (by rw[e9];rfl)) (λe9=>(h.l1 O ?_));by_cases e11:c.ask=11
    .rw[show(c.ask==11)=G from beq_iff_eq.2 e11];exact t1 (by rw[e11];rfl)
    .rw[show(c.ask==11)=qd from beq_eq_false_iff_ne.2 e11]
     refine f1 ?_;have hask:c.ask=0\/c.ask=1\/c.ask=2\/c.ask=3\/c.ask=4\/c.ask=5\/c.ask=6\/c.ask=7\/c.ask=8\/c.ask=10\/c.ask=12\/c.ask=13\/c.ask=14\/c.ask=15\/c.ask=16:=om
     rcases hask with q|q|q|q|q|q|q|q|q|q|q|q|q|q|q<;>rw[q]at hn2|-<;>first|rfl|exact qk O hn2
   refine h.l1 O ?_;refine dW (λe8=>t2 (by rw[e8];rfl)) (λe8=>(h.l1 O ?_));by_cases e10:c.ask=10
   .rw[show(c.ask==10)=G from beq_iff_eq.2 e10];exact t2 (by rw[e10];rfl)
   .rw[show(c.ask==10)=qd from beq_eq_false_iff_ne.2 e10]
    refine f2 ?_;have hask:c.ask=0\/c.ask=1\/c.ask=2\/c.ask=3\/c.ask=4\/c.ask=5\/c.ask=6\/c.ask=7\/c.ask=9\/c.ask=11\/c.ask=12\/c.ask=13\/c.ask=14\/c.ask=15\/c.ask=16:=om
    rcases hask with q|q|q|q|q|q|q|q|q|q|q|q|q|q|q<;>rw[q]<;>decide
  refine h.l1 O ?_;refine dW (λe1=>(h.l1 O ?_)) (λe1=>no1 (λhh=>e1 hh.1));by_cases e2:x.kind=1
  .rw[show(x.kind==1)=G from beq_iff_eq.2 e2]
   apply hk22;refine aW O (hF w ?_ h.sub);rw[hA,Y (by rw[e1];exact λhh=>hh g0)];unfold ai.asks;dsimp only;rw[e1];show ai.tell _ _=_;unfold ai.og;dsimp only;rw[Z e2]
  .rw[show(x.kind==1)=qd from beq_eq_false_iff_ne.2 e2]
   exact no1 (λhh=>e2 hh.2)
 have hB:k.dT c.at_ (ai.aJ c.ask).1=(qe (x.kind≠0)&&(qe ((ai.aJ c.ask).1=0)||qe (x.kind=(ai.aJ c.ask).1))):=by rw[hx];rfl
 refine h.dr λw h=>?_;refine h.l1 O ?_;refine dW (λe0=>?_) (λe0=>?_)
 .have:=bad w (by rw[hB,e0];rfl) h
  exact⟨⟨⟨this,trivial⟩,this,trivial⟩,trivial⟩
 refine⟨_,h.aE O,sC h0 h1 (pR (λen=>?_) (λen=>?_)),trivial⟩
 .have last:k19 (x.kind !=(ai.aJ c.ask).1) w:=by
   by_cases e3:x.kind=(ai.aJ c.ask).1
   .rw[show(x.kind !=(ai.aJ c.ask).1)=qd from by simpa using e3]
    exact good w (by rw[hB,qp e0,qp e3];simp) h
   .rw[show(x.kind !=(ai.aJ c.ask).1)=G from by simpa using e3]
    exact bad w (by rw[hB,ql e3,ql en];simp) h
  refine⟨_,h.aE O,⟨_,h.aE O,?_,trivial⟩,?_,trivial⟩
  .exact sC h0 h1 last
  .exact sC h0 h1 ⟨_,h.aE O,last⟩
 .have:=good w (by rw[hB,en,qp e0];rfl) h
  exact⟨⟨this,trivial⟩,this,trivial⟩
theorem FH{id:U}{K:U->Pw}(hi:Th.bR (-1) k.t)(h:Ow B w0 w (de M rb k br::R))
  (hK:∀w' d',d'.w=0->d'.cv=(k.eY id).2.1->d'.forget= []->Ow B w0 w' (de M rb (k.eY id).2.2 d'::R)->K (k.eY id).1 w'):WC rb.o id K w:=by
 refine FI hi h λw h=>?_;by_cases e:(k.eY id).1=0
 .rw[Z e]at h
  refine hK w _ O ?_ O h;show id=(if _ then _ else _)
  rw[Z (show(k.t.bW id).1=0 from e)]
 .rw[Y e]at h
  refine hK w _ O ?_ O h;show -1=(if _ then _ else _)
  rw[Y (show ¬(k.t.bW id).1=0 from e)]
theorem B0{dg:sN}{K:U->Pw}(hk:bD N k)(hN:N<=200000)(ha:5<=dg.call.ask)(hb:dg.call.ask<8)(hc:dg.c=k.bm dg.call.at_)(h:Ow B w0 w (de M rb k br::R))
  (hK:∀w' d',d'.w=(k.asks dg).1.w->d'.cv=(k.asks dg).1.cv->d'.forget=(k.asks dg).1.forget->Ow B w0 w' (de M rb (k.asks dg).2 d'::R)->K (k.asks dg).1.e w'):
  YZ rb.o dg.call.ask dg.call.at_ dg.call.ay dg.call.a dg.call.b dg.call.c K w:=by
 apply ajF;refine h.a λcb w1 h=>?_;refine h.l2 O ?_;refine kE hk h.cC λw x hx hr h=>?_;rw[<-hc]at hx;subst hx;obtain⟨xx,h⟩:=mP h;refine⟨_,O,h.l2 O (Th.ye (h.pick (A:=Th.cp xx.th k.t)) λw t2 e2 h=>?_)⟩;have h:Ow B w0 w (de M rb k br::ae cb dg.call.cl::R):=bI xx h.sub;refine h.a λtb w2 h=>?_;refine h.aB O O λw h=>?_;refine h.l1 O ?_;refine dW (λe5=>?_) (λe5=>?_)
 .have ea:k.asks dg=ai.eN (k.resume dg):=by unfold ai.asks;rw[e5];rfl
  rw[ea]at hK;unfold ai.eN at hK;refine h.l1 O ?_;have wk:∀(k2:ai)(w:W),Th.bR (-1) k2.t->k.resume dg=k2.eY dg.c.obj->Ow B w0 w (de M rb k2 br::R)->WC rb.o dg.c.obj (λr w=>K r w) w:=λk2 w hi he h=>by rw[he]at hK;exact FH hi h hK
  have hst:(k.t.dC dg.c.obj=G/\(k.t.th dg.c.obj).st=3)↔t2.st=3:=by
   rw[e2];cases hT:k.t.dC dg.c.obj with
   |true=>simp
   |false=>simp[Th.Nj]
  by_cases e3:t2.st=3
  .refine aW (beq_iff_eq.2 e3) ?_
   refine pv (id:=dg.c.obj) ⟨SY hk.ne hN,SY hk.nn hN⟩ (show Ow B w0 w (de M rb k br::R)from h.sub) λw h=>?_;exact wk (k.eH dg.c.obj) w hk.inv (by unfold ai.resume;rw[Z (hst.2 e3)]) h
  .refine aV (beq_eq_false_iff_ne.2 e3) ?_
   exact wk k w hk.inv (by unfold ai.resume;rw[Y (λhh=>e3 (hst.1 hh))]) h.sub
 refine dW (λe6=>?_) (λe6=>?_)
 .have ea:k.asks dg=ai.tell (k.t.cy dg.c.obj).1 ((k.eH dg.c.obj).cG (k.t.cy dg.c.obj).2):=by unfold ai.asks;rw[e6];rfl
  rw[ea]at hK;refine pv (id:=dg.c.obj) ⟨SY hk.ne hN,SY hk.nn hN⟩ (show Ow B w0 w (de M rb k br::R)from h.sub) λw h=>?_;obtain⟨xx,h⟩:=mP h;refine⟨_,O,h.l2 O (Th.lx hk.inv (h.pick (A:=Th.cp xx.th (k.eH dg.c.obj).t)) λw h=>?_)⟩;exact hK w br O O O (show Ow B w0 w (de M rb ((k.eH dg.c.obj).cG (k.t.cy dg.c.obj).2) br::R)from bI xx h.sub)
 .have e7:dg.call.ask=7:=om
  have ea:k.asks dg=ai.tell (k.t.gP dg.c.obj dg.call.a).1 (k.cG (k.t.gP dg.c.obj dg.call.a).2):=by unfold ai.asks;rw[e7];rfl
  rw[ea]at hK;refine h.dr λw h=>?_;obtain⟨xx,h⟩:=mP h.cC;refine⟨_,O,_,h.aA O,_,h.aA O,Th.wa hk.inv (h.pick (A:=Th.cp xx.th k.t)) λw h=>?_,trivial⟩;exact hK w br O O O (show Ow B w0 w (de M rb (k.cG (k.t.gP dg.c.obj dg.call.a).2) br::R)from bI xx h.sub)
theorem Fq{K:U->Pw}(hk:bD N k)(hN:N+64<=100000)(ha:0<=dg.call.ask)(hb:dg.call.ask<5)(hs:dg.s=(0,dg.call.at_))(hc:dg.c=k.bm dg.call.at_)(hH:k.H dg.s=X dg.c)(hr:Sl.gl dg.c)(ho:k.gj dg.c)(hcore:k.t.gA dg.core=G)
  (hkind:(ai.aJ dg.call.ask).1≠0->dg.c.kind=(ai.aJ dg.call.ask).1) (Cs:dg.call.ask=1->dg.c.kind≠1) (h:Ow B w0 w (de M rb k br::R))
  (hK:∀w' d',d'.w=(k.asks dg).1.w->d'.cv=(k.asks dg).1.cv->d'.forget=(k.asks dg).1.forget->Ow B w0 w' (de M rb (k.asks dg).2 d'::R)->K (k.asks dg).1.e w'):
  YY rb.o dg.core dg.call.ask dg.call.at_ dg.call.ay dg.call.a dg.call.b dg.call.c K w:=by
 apply ajE;have hsome:(k.H dg.s).isSome=true:=by rw[hH];rfl
 refine h.a λcb w1 h=>?_;intro k10 hk10;have fin:∀(xb sb:S)(w:W),Ow B w0 w (de M rb k br::ae xb dg.c.cells::ae sb [.z 0,.z dg.call.at_]::ae cb dg.call.cl::R)->k10 xb.p sb.p w:=λxb sb w h=>by
  apply hk10;refine h.l1 O ?_;refine dW (λe0=>?_) (λe0=>?_)
  .have ea:k.asks dg=ai.tell (k.fc dg).1 (k.fc dg).2:=by unfold ai.asks;rw[e0];rfl
   rw[ea]at hK;have hkd:dg.c.kind=1:=by rw[e0]at hkind;exact hkind qb
   refine h.eE O (h.l2 O ?_);exact BX hk hN hsome hs hkd ho hcore h λw h=>hK w br O O O (show Ow B w0 w (de M rb (k.fc dg).2 br::R)from h.sub)
  refine dW (λe1=>?_) (λe1=>?_)
  .have ea:k.asks dg=ai.tell (k.og dg).1 (k.og dg).2:=by unfold ai.asks;rw[e1];rfl
   rw[ea]at hK;unfold ai.og at hK;rw[Y (Cs e1)]at hK;refine h.l2 O ?_;refine(show Wo _ _ ((1:S):U) _ _ from sB hk om h λw h=>?_);refine h.eE O ⟨_,h.aA O,h.l2 O ?_⟩;have hwr:=nN dg.call.b;have hcr:=uP (r:=dg.call.a) hr hwr;refine Fv h hr hwr.1 λw y hy h=>?_;rw[<-hy]at hcr hK;generalize (ai.gI dg.c dg.call.a (qA.wrap dg.call.b)).2=em at hK|-;refine h.a λyb w1 h=>?_;refine h.aB O O λw h=>?_;intro k45 hk45;by_cases ef:k.gi dg.call.ay 1=0
   .rw[Y (λhh=>hh ef)]at hK
    refine gC ef ?_;apply hk45;by_cases e2:em=0
    .rw[Y (λhh=>hh e2)]at hK
     refine gC e2 ⟨_,h.aA O,h.l2 O ?_⟩;refine h.eE O ?_;refine AG (c:=y) (a:=dg.call.at_) (t:=dg.call.ay) hcr hk.tok (by have:=hk.fu;omega) (show Ow B w0 w (de M rb k br::R)from h.sub) λw h=>?_;rw[e2];rw[<-hs]at h;exact hK w br O O O h
    .rw[Z e2]at hK
     exact jk e2 (hK w br O O O (show Ow B w0 w (de M rb k br::R)from h.sub))
   .rw[Z ef]at hK
    refine jk ef ?_;apply hk45;exact jk ef (hK w br O O O (show Ow B w0 w (de M rb k br::R)from h.sub))
  refine dW (λe2=>?_) (λe2=>?_)
  .have ea:k.asks dg=ai.tell (k.move dg).1 (k.move dg).2:=by unfold ai.asks;rw[e2];rfl
   rw[ea]at hK;unfold ai.move at hK;refine h.l2 O ?_;refine(show Wo _ _ ((1:S):U) _ _ from sB hk om h λw h=>?_);by_cases ef:k.gi dg.call.ay 1=0
   .rw[Y (λhh=>hh ef)]at hK
    refine gC ef ?_;refine h.dr λw h=>?_;obtain⟨x,h⟩:=mP h;refine⟨_,O,h.l1 O (h.aM O ⟨_,h.aA O,Sl.vY (a:=(0,dg.call.at_)) (c:=(0,dg.call.ay)) (h.pick (A:=Sl.a8 x.n k.bits k.H)) λw h=>?_,trivial⟩)⟩;refine h.dr λw h=>?_;refine⟨_,O,h.l2 O (h.aM O ⟨_,h.aA O,Tr.Fw (f:=(0,dg.call.at_)) (t:=(0,dg.call.ay)) hk.tok (h.pick (A:=Tr.cQ x.t k.T)) λw h=>?_,trivial⟩)⟩;rw[ef];rw[<-hs]at h;exact hK w br O O O (show Ow B w0 w (de M rb { k with H:=(Sl.eP k.bits k.H dg.s (0,dg.call.ay)).2,T:=(Tr.eP k.T dg.s (0,dg.call.ay)).2} br::R)from bI x h.sub)
   .rw[Z ef]at hK
    exact jk ef (hK w br O O O (show Ow B w0 w (de M rb k br::R)from h.sub))
  refine dW (λe3=>?_) (λe3=>?_)
  .have ea:k.asks dg=if dg.call.at_=0 then ai.tell 181 k else(⟨0,0,-1,(k.gone dg.s).1⟩,(k.gone dg.s).2):=by unfold ai.asks;rw[e3];rfl
   rw[ea]at hK;refine h.l2 O ?_;refine dW (λz=>?_) (λz=>?_)
   .rw[Z z]at hK
    exact hK w br O O O (show Ow B w0 w (de M rb k br::R)from h.sub)
   .rw[Y z]at hK
    refine h.aM O ?_;have g4:=xP k.af hk.Cd;have g5:=hk.ns;refine xW (s:=(0,dg.call.at_)) hk om (by rw[<-hs];exact hsome) (by show 0+kC k.af<=_;omega) h λw h=>?_;rw[<-hs]at h;exact hK w _ O O O (show Ow B w0 w (de M rb (k.gone dg.s).2 { br with forget:=br.forget++(k.gone dg.s).1}::R)from h.sub)
  have e4:dg.call.ask=4:=om
  have ea:k.asks dg=k.kd dg:=by unfold ai.asks;rw[e4];rfl
  rw[ea]at hK;unfold ai.kd at hK;dsimp only at hK;have hnd:=yO (s:=dg.s) hk.tok;have hlen:=AS (s:=dg.s) hk;have hheld:∀s∈Tr.cY k.T dg.s,(k.H s).isSome=true:=λs hs=>(hk.mem s).1 (yM hs);refine h.dr λw h=>?_;obtain⟨xx,h⟩:=mP h;refine⟨_,O,h.l2 O (h.aM O ⟨Tr.DJ (s:=(0,dg.call.at_)) hk.tok (h.pick (A:=Tr.cQ xx.t k.T)) λs2 w h=>?_,trivial⟩)⟩;rw[<-hs]at h;have h:Ow B w0 w (de M rb k br::ag Tr.aK s2 (Tr.cY k.T dg.s)::ae xb dg.c.cells::R):=bI xx h.sub;generalize Tr.cY k.T dg.s=xs at h hK hnd hlen hheld;have hl2:s2.len=xs.length:=h.aF s2;have hrv:xs.reverse.Nodup:=List.pairwise_reverse.2 (hnd.imp Ne.symm);intro l87 hl87;have loop:∀(m j:S)(w:W),j+m=xs.length->Ow B w0 w (de M rb (ai.dq (xs.reverse.take j) k).2 { br with forget:=(ai.dq (xs.reverse.take j) k).1}::ag Tr.aK s2 xs::ae xb dg.c.cells::R)->l87 ((m:U)-1) w:=by
   intro m;induction m with
   |zero=>
    intro j w hj h;apply hl87;refine av om ?_;rw[SE (by simp;omega)]at h;have hu2:=Bt xs.reverse k hk hrv (λs hs=>hheld s (VE.1 hs));generalize ai.dq xs.reverse k=alc at h hK hu2;obtain⟨F,kk⟩:=alc;dsimp only at h hK hu2;obtain⟨x3,h⟩:=mP h;refine⟨_,O,?_⟩;rw[hl2,OV om om];refine ji (h.fD O O λw h=>?_);refine h.l1 O ?_;refine dW (λe=>?_) (λe=>?_)
    .rw[Z e]at hK
     have u0:=ho.1;have u1:=ho.2.1 e;rw[<-hu2]at u1;have hux:kk.u[dg.c.obj.toNat]?=X (kk.kr dg.c.obj):=by unfold ai.kr;rw[gE om];rfl
     refine h.dr λw h=>?_;refine⟨_,O,x3.su,h.aA O,h.l2 O (h.cd (s:=x3.su) (i:=dg.c.obj) (j:=dg.c.obj.toNat) om hux λa ha _ _=>⟨?_,trivial⟩)⟩
     refine h.mT (s:=x3.su) (i:=dg.c.obj) (j:=dg.c.obj.toNat) (c:=2) { kk.kr dg.c.obj with used:=0} om hux ha O qb O λw h=>?_;exact hK w ⟨0,(xs.length:U),-1,F⟩ O O O (show Ow B w0 w (de M rb (kk.mg dg.c.obj) ⟨0,(xs.length:U),-1,F⟩::R)from bI x3 h.sub)
    .rw[Y e]at hK
     exact hK w ⟨0,(xs.length:U),-1,F⟩ O O O (show Ow B w0 w (de M rb kk ⟨0,(xs.length:U),-1,F⟩::R)from bI x3 h.sub)
   |succ m ih=>
    intro j w hj h;have hx:xs[m]?=X xs[m]:=gE om;have hrx:xs.reverse[j]?=X xs[m]:=by rw[Wa om,<-hx];congr 1;omega
    generalize xs[m]=y at hx hrx;have htk:xs.reverse.take (j+1)=xs.reverse.take j++ [y]:=by rw[SO,hrx];rfl
    have hnd2:(xs.reverse.take j++ [y]).Nodup:=by rw[<-htk];exact(List.take_sublist _ _).nodup hrv
    have hsub:∀s∈xs.reverse.take j,(k.H s).isSome=true:=λs hs=>hheld s (VE.1 (VD hs));have hyk:(k.H y).isSome=true:=hheld y (SU hx);obtain⟨g1,g2⟩:=tu (xs.reverse.take j) k hk (Ug.1 hnd2).1 hsub;have g3:=tv (xs.reverse.take j) k;have g4:=xP k.af hk.Cd;have g5:=hk.ns;have hsn:=rX (xs.reverse.take j) y k;apply hl87;refine az om ?_;rw[show((m+1:S):U)-1=(m:U)from by omega];refine h.cd (s:=s2) O hx λa ha _ hc1=>Tr.l0 hc1 ?_;refine xW (s:=y) g1 om ?_ ?_ h λw h=>?_
    .rw[g2,Y]
     .exact hyk
     .intro hm
      exact(Ug.1 hnd2).2.2 _ hm _ Tz O
    .show (ai.dq (xs.reverse.take j) k).1.length+_<=_
     omega
    rw[wr om om];refine ih (j+1) w om ?_;rw[htk,hsn];exact h
  rw[hl2,wr om om];exact loop xs.length 0 w (SS _) h
 have fin2:∀(x:dB)(xb sb:S)(w:W),x=k.bm dg.call.at_->Ow B w0 w (de M rb k br::ae xb x.cells::ae sb [.z 0,.z dg.call.at_]::ae cb dg.call.cl::R)->k10 xb.p sb.p w:=λx xb sb w hx h=>by rw[<-hc]at hx;subst hx;exact fin xb sb w h
 clear fin hK hk10
 (repeat' (first|exact trivial|(exact fin2 _ _ _ _ (by assumption) h.sub)|(refine kE hk (h.pick (A:=de M rb k br)) λw x hx hr h=>?_)|(refine h.al λw h=>?_)|(refine h.dr λw h=>?_)|(refine h.aM O ?_)|(refine h.eE O ?_)|(refine h.l1 O ?_)|(refine h.l2 O ?_)|(refine h.hd O ?_)|(refine⟨h.aE O,?_⟩)|(refine⟨h.aA O,?_⟩)|((refine h.aB O O λw h=>?_);(try dsimp only[putAt,Tu,S1]at h))|(refine fy ?_)|(refine _root_.Go.Vc.a2 ?_)|(refine h.jD O O λw h=>?_)|(refine h.fD O O λw h=>?_)|(refine And.intro ?_ ?_)))
theorem MZ{p:fp}{n:U}{wt:I}(h:(p.recv n wt).1.is=G):(p.recv n wt).1.to=n:=by
 revert h;unfold fp.recv;split
 .intro h;cases h
 split
 .intro _;rfl
 .intro h;cases h
theorem OT{p:rB}{n:U}{wt:I}(h:(p.wait n wt).1.2.2≠0):(p.wait n wt).1.1=0:=by
 revert h;unfold rB.wait;split
 .intro _;rfl
 split
 .intro h;exact qk O h
 .intro h;exact qk O h
theorem FE{K:U->Pw}(hk:bD N k)(hM:M<1000000)(hN:N<=200000)(ha:8<=dg.call.ask)(hb:dg.call.ask<12)(hc:dg.c=k.bm dg.call.at_)(ho:k.gj dg.c)(hkind:dg.c.kind=(ai.aJ dg.call.ask).1)
  (h:Ow B w0 w (de M rb k br::R))
  (hK:∀w' d',d'.w=(k.asks dg).1.w->d'.cv=(k.asks dg).1.cv->d'.forget=(k.asks dg).1.forget->Ow B w0 w' (de (M+1) rb (k.asks dg).2 d'::R)->K (k.asks dg).1.e w'):
  Y0 rb.o dg.core dg.cur dg.call.ask dg.call.at_ dg.call.ay dg.call.a dg.call.b dg.call.c K w:=by
 apply ajG;have h0:=ho.1;have hK1:∀w' d',d'.w=(k.asks dg).1.w->d'.cv=(k.asks dg).1.cv->d'.forget=(k.asks dg).1.forget->Ow B w0 w' (de M rb (k.asks dg).2 d'::R)->K (k.asks dg).1.e w':=λw' d' q1 q2 q3 h=>hK w' d' q1 q2 q3 (lW (Ue M) h);refine h.a λcb w1 h=>?_;refine h.l2 O ?_;refine kE hk h.cC λw x hx hr h=>?_;rw[<-hc]at hx;subst hx;refine h.a λxb w2 h=>?_;refine h.aB O O λw h=>?_;refine h.l1 O ?_;refine dW (λe10=>?_) (λe10=>?_)
 .have ea:k.asks dg=(⟨0,0,(k.bq dg.c.obj dg.c.aD).1,[]⟩,(k.bq dg.c.obj dg.c.aD).2):=by unfold ai.asks;rw[e10];rfl
  rw[ea]at hK;have hk5:dg.c.kind=5:=by rw[hkind,e10];rfl
  refine⟨_,h.aA O,h.l2 O (mf hM hk.inv h0 (ho.2.2.2.2.2.1 hk5) h.cC λw h=>?_)⟩;obtain⟨y,h⟩:=mP h;refine⟨_,O,ji (h.fD O O λw h=>?_)⟩;exact hK w ⟨0,0,(k.bq dg.c.obj dg.c.aD).1,[]⟩ O O O (show Ow B w0 w (de (M+1) rb (k.bq dg.c.obj dg.c.aD).2 ⟨0,0,(k.bq dg.c.obj dg.c.aD).1,[]⟩::R)from bI y h.sub)
 refine h.l1 O ?_;refine dW (λe11=>?_) (λe11=>?_)
 .have ea:k.asks dg=k.wait dg:=by unfold ai.asks;rw[e11];rfl
  rw[ea]at hK1;unfold ai.wait at hK1;have hk5:dg.c.kind=5:=by rw[hkind,e11];rfl
  have h1:=ho.2.2.2.2.2.1 hk5;obtain⟨hx,hnl⟩:=hk.mV h0 h1;have hkn:=hk.ke (n:=dg.c.obj) (p:=((k.mV dg.c.obj).wait dg.cur (dg.call.c !=0)).2) (by have:=Cq (k.mV dg.c.obj) dg.cur (dg.call.c !=0);omega);have hww:=OT (p:=k.mV dg.c.obj) (n:=dg.cur) (wt:=dg.call.c !=0);refine h.dr λw h=>?_;obtain⟨y,h⟩:=mP h.cC;have hpl:=(h.pick (A:=aq (cq M) y.pn k.notes)).cz;have hp:y.pn[dg.c.obj.toNat]?=X y.pn[dg.c.obj.toNat]:=gE om;generalize y.pn[dg.c.obj.toNat]=p at hp;refine⟨_,O,y.sn,h.aA O,h.l2 O (dG (s:=y.sn) (i:=dg.c.obj) (j:=dg.c.obj.toNat) h om hp λa ha hcc=>⟨_,hcc,_,h.aA O,?_,trivial⟩)⟩
  have h:=(h.pick (A:=aq (cq M) y.pn k.notes)).vF hp hx;refine FG om om h λw h=>?_;have h:=h.cF hpl hp;generalize (k.mV dg.c.obj).wait dg.cur (dg.call.c !=0)=P at h hK1 hkn hww|-;refine⟨_,O,ji (h.fD O O λw h=>?_)⟩;have h:Ow B w0 w (de M rb (k.ke dg.c.obj P.2) ⟨0,P.1.1,-1,[]⟩::ae cb dg.call.cl::R):=bI y h.sub;intro k42 hk42;by_cases he:P.1.2.2=0
  .rw[Y (λhh=>hh he)]at hK1
   refine gC he ?_;apply hk42;rw[he];cases hi:P.1.2.1 with
   |true=>
    rw[hi]at hK1;exact aV O (hK1 w ⟨0,P.1.1,-1,[]⟩ O O O (show Ow B w0 w (de M rb (k.ke dg.c.obj P.2) ⟨0,P.1.1,-1,[]⟩::R)from h.sub))
   |false=>
    rw[hi]at hK1;refine aW O ?_;refine h.eE O ?_;refine xX (c:=dg.call) hkn.inv h λw h=>?_;have h:Ow B w0 w (de M rb ((k.ke dg.c.obj P.2).rest dg) ⟨0,P.1.1,-1,[]⟩::_):=h;exact hK1 w ⟨0,P.1.1,-1,[]⟩ O O O (show Ow B w0 w (de M rb ((k.ke dg.c.obj P.2).rest dg) ⟨0,P.1.1,-1,[]⟩::R)from h.sub)
  .rw[Z he]at hK1
   refine jk he ?_;apply hk42;exact aV O (hK1 w ⟨0,P.1.1,-1,[]⟩ (hww he) O O (show Ow B w0 w (de M rb (k.ke dg.c.obj P.2) ⟨0,P.1.1,-1,[]⟩::R)from h.sub))
 refine h.a λmb w3 h=>?_;refine h.aB O O λw h=>?_;refine h.l1 O ?_;have hk4:dg.c.kind=4:=by
  rw[hkind];have:dg.call.ask=8\/dg.call.ask=9:=om
  rcases this with q|q<;>rw[q]<;>rfl
 have h1:=ho.2.2.2.2.1 hk4;obtain⟨hx,hel⟩:=hk.iZ h0 h1;intro k55 hk55;have fin:∀(P:Met × U × fp)(w:W),bD (N+1) (k.fk dg.c.obj P.2.2)->
   k.asks dg=(if P.2.1≠0 then ai.tell P.2.1 (k.fk dg.c.obj P.2.2)else if P.1.is=qd then ai.tell 0 ((k.fk dg.c.obj P.2.2).rest dg)else ai.eN (((k.fk dg.c.obj P.2.2).kS P.1.to P.1.m).eY (if dg.call.ask=8 then P.1.to else P.1.dP)))->
   Ow B w0 w (de M rb (k.fk dg.c.obj P.2.2) br::ae mb (Oq P.1)::ae cb dg.call.cl::R)->k55 P.2.1 w:=λP w hkE ea h=>by
  apply hk55;rw[ea]at hK1;obtain⟨x,e,p'⟩:=P;dsimp only at h hK1 hkE|-;by_cases he:e≠0
  .rw[Z he]at hK1
   exact iw he (hK1 w br O O O (show Ow B w0 w (de M rb (k.fk dg.c.obj p') br::R)from h.sub))
  rw[Y he]at hK1;refine fh om (h.l1 O ?_);cases hi:x.is with
  |false=>
   rw[Z hi]at hK1;refine aW O ?_;refine h.eE O ?_;refine xX (c:=dg.call) hkE.inv h λw h=>?_;have h:Ow B w0 w (de M rb ((k.fk dg.c.obj p').rest dg) br::_):=h;exact hK1 w br O O O (show Ow B w0 w (de M rb ((k.fk dg.c.obj p').rest dg) br::R)from h.sub)
  |true=>
   rw[Y (by rw[hi];decide)]at hK1;refine aV O (h.l2 O ?_);refine eA (h.zj O ?_);refine Ip (id:=x.to) (m:=x.m) h λw h=>?_;refine h.l1 O ?_;refine dW (λe8=>?_) (λe8=>?_)
   .rw[Z e8]at hK1
    refine h.l2 O ?_;refine FH hkE.kS.inv h λw d' q1 q2 q3 h=>?_;have h:Ow B w0 w (de M rb (ai.eN (((k.fk dg.c.obj p').kS x.to x.m).eY x.to)).2 d'::_):=h;exact hK1 w d' q1 q2 q3 h.sub
   .rw[Y e8]at hK1
    refine h.l2 O ?_;refine FH hkE.kS.inv h λw d' q1 q2 q3 h=>?_;have h:Ow B w0 w (de M rb (ai.eN (((k.fk dg.c.obj p').kS x.to x.m).eY x.dP)).2 d'::_):=h;exact hK1 w d' q1 q2 q3 h.sub
 clear hK hK1 hk55;refine dW (λe8=>?_) (λe8=>?_)
 .have ea:k.asks dg=k.send dg:=by unfold ai.asks;rw[e8];rfl
  have hse:=B8 (k.iZ dg.c.obj) dg.cur (ai.fG dg) (dg.call.c !=0);have hkE:=hk.fk (n:=dg.c.obj) (p:=((k.iZ dg.c.obj).send dg.cur (ai.fG dg) (dg.call.c !=0)).2.2) om;refine⟨_,h.aA O,h.l2 O (h.a λgb w4 h=>?_)⟩;refine h.aB O O λw h=>?_;refine⟨_,h.aA O,qb,qb,?_⟩;rw[show((0:U).toNat*1)=0 from O];refine ji (h.fD O O λw h=>?_);refine h.dr λw h=>?_;obtain⟨y,h⟩:=mP (h.pick (A:=de M rb k br));have hpl:=(h.pick (A:=aq eh y.pe k.ends)).cz;have hp:y.pe[dg.c.obj.toNat]?=X y.pe[dg.c.obj.toNat]:=gE om;generalize y.pe[dg.c.obj.toNat]=p at hp;refine⟨_,O,y.se,h.aA O,h.l2 O (dG (s:=y.se) (i:=dg.c.obj) (j:=dg.c.obj.toNat) h om hp λa ha hcc=>⟨_,hcc,?_⟩)⟩
  refine h.zj O ⟨_,h.aA O,?_,trivial⟩;have h:=(h.pick (A:=aq eh y.pe k.ends)).vF hp hx;refine FA (m:=ai.fG dg) om h λw x hxx h=>?_;subst hxx;have h:=h.cF hpl hp;refine⟨h.aB O O λw h=>?_,trivial⟩;refine fin ((k.iZ dg.c.obj).send dg.cur (ai.fG dg) (dg.call.c !=0)) w hkE ?_ ?_
  .rw[ea,Z e8];rfl
  .exact (show Ow B w0 w (de M rb (k.fk dg.c.obj ((k.iZ dg.c.obj).send dg.cur (ai.fG dg) (dg.call.c !=0)).2.2) br::_)from bI y h.sub)
 .have e9:dg.call.ask=9:=om
  have ea:k.asks dg=k.recv dg:=by unfold ai.asks;rw[e9];rfl
  have hse:=B2 (k.iZ dg.c.obj) dg.cur (dg.call.c !=0);have hkE:=hk.fk (n:=dg.c.obj) (p:=((k.iZ dg.c.obj).recv dg.cur (dg.call.c !=0)).2.2) om;refine h.dr λw h=>?_;obtain⟨y,h⟩:=mP (h.pick (A:=de M rb k br));have hpl:=(h.pick (A:=aq eh y.pe k.ends)).cz;have hp:y.pe[dg.c.obj.toNat]?=X y.pe[dg.c.obj.toNat]:=gE om;generalize y.pe[dg.c.obj.toNat]=p at hp;refine⟨_,O,y.se,h.aA O,h.l2 O (dG (s:=y.se) (i:=dg.c.obj) (j:=dg.c.obj.toNat) h om hp λa ha hcc=>⟨_,hcc,_,h.aA O,?_,trivial⟩)⟩
  have h:=(h.pick (A:=aq eh y.pe k.ends)).vF hp hx;refine Fx om h λw x hxx h=>?_;subst hxx;have h:=h.cF hpl hp;refine⟨h.aB O O λw h=>?_,trivial⟩;refine fin ((k.iZ dg.c.obj).recv dg.cur (dg.call.c !=0)) w hkE ?_ ?_
  .rw[ea,Y e8]
   unfold ai.recv;have hto:=MZ (p:=k.iZ dg.c.obj) (n:=dg.cur) (wt:=dg.call.c !=0);generalize (k.iZ dg.c.obj).recv dg.cur (dg.call.c !=0)=P at hto|-;cases hi:P.1.is with
   |false=>simp
   |true=>rw[hto hi]
  .exact (show Ow B w0 w (de M rb (k.fk dg.c.obj ((k.iZ dg.c.obj).recv dg.cur (dg.call.c !=0)).2.2) br::_)from bI y h.sub)
theorem rY{n q:U}(h0:q≠0):k.dT n q=qe ((k.bm n).kind=q):=by
 unfold ai.dT;rw[ql h0,Vq];by_cases e:(k.bm n).kind=q
 .rw[e,qp h0,qp O];rfl
 .rw[ql e,Bool.and_false]
theorem DG{K:U->Pw}(hk:bD N k)(hM:M<1000000)(hN:N<=200000)(ha:12<=dg.call.ask)(hb:dg.call.ask<17)(hc:dg.c=k.bm dg.call.at_)(ho:k.gj dg.c)(hkind:dg.c.kind=(ai.aJ dg.call.ask).1)
  (h:Ow B w0 w (de M rb k br::R))
  (hK:∀w' d',d'.w=(k.asks dg).1.w->d'.cv=(k.asks dg).1.cv->d'.forget=(k.asks dg).1.forget->Ow B w0 w' (de (M+1) rb (k.asks dg).2 d'::R)->K (k.asks dg).1.e w'):
  Y5 rb.o dg.call.ask dg.call.at_ dg.call.ay dg.call.a dg.call.b dg.call.c K w:=by
 apply ajH;have h0:=ho.1;refine h.a λcb w1 h=>?_;intro k9 hk9;have fin:∀(y:dB)(xb yb:S)(w:W),y=k.bm dg.call.ay->Ow B w0 w (de M rb k br::ae xb dg.c.cells::ae yb y.cells::
   ae cb dg.call.cl::R)->k9 xb.p yb.p w:=λy xb yb w hy h=>by
  have hK1:∀w' d',d'.w=(k.asks dg).1.w->d'.cv=(k.asks dg).1.cv->d'.forget=(k.asks dg).1.forget->Ow B w0 w' (de M rb (k.asks dg).2 d'::R)->K (k.asks dg).1.e w':=λw' d' q1 q2 q3 h=>hK w' d' q1 q2 q3 (lW (Ue M) h);have hyo:∀q,q≠0->y.kind=q->k.gj y:=λq hq e=>by rw[hy];exact(hk.cap (n:=dg.call.ay) (by rw[<-hy,e];exact hq)).2.2.1
  apply hk9;refine h.l1 O ?_;refine dW (λe12=>?_) (λe12=>?_)
  .have ea:k.asks dg=k.table dg:=by unfold ai.asks;rw[e12];rfl
   rw[ea]at hK1;unfold ai.table at hK1;rw[rY qb,<-hy]at hK1;refine h.l1 O ?_;refine pR (λe=>?_) (λe=>?_)
   .rw[ql e,Z O]at hK1
    exact hK1 w br O O O (show Ow B w0 w (de M rb k br::R)from h.sub)
   .rw[qp e,Y qb]at hK1
    have hob:=hyo 8 qb e;obtain⟨hm,_⟩:=hk.iR hob.1 (hob.2.2.2.2.2.2.2.2.1 e);refine h.dr λw h=>?_;obtain⟨s3,p3,Y3,g1,_,⟨a3,g3,g4,g5,g6⟩,h3,hback⟩:=lz (n:=y.obj) h hob.1 hm;refine⟨_,O,s3,g1,_,h.aA O,a3,g3,g4,g5,_,g6,_,h.aA O,_,h.aA O,Tb.DI h3 λw h=>?_,trivial⟩;have h:=hback _ w _ h;have h:Ow B w0 w (de M rb { k with af:=k.af.set y.obj.toNat ((k.iR y.obj).iX dg.call.a dg.c.obj).2} br::R):=h.sub;exact hK1 w br O O O h
  refine dW (λe13=>?_) (λe13=>?_)
  .have ea:k.asks dg=k.mapped dg:=by unfold ai.asks;rw[e13];rfl
   rw[ea]at hK1;unfold ai.mapped at hK1;rw[rY qb,<-hy]at hK1;refine h.l1 O ?_;refine pR (λe=>?_) (λe=>?_)
   .rw[ql e,Z O]at hK1
    exact hK1 w br O O O (show Ow B w0 w (de M rb k br::R)from h.sub)
   .rw[qp e,Y qb]at hK1
    have hob:=hyo 8 qb e;obtain⟨hm,_⟩:=hk.iR hob.1 (hob.2.2.2.2.2.2.2.2.1 e);refine h.dr λw h=>?_;obtain⟨s3,p3,Y3,g1,_,⟨a3,g3,g4,g5,g6⟩,h3,hback⟩:=lz (n:=y.obj) h hob.1 hm;refine⟨_,O,s3,g1,_,h.aA O,a3,g3,g4,g5,_,g6,_,h.aA O,_,h.aA O,_,h.aA O,_,h.aA O,Tb.Is (p:=(dg.c.obj,fE .i64 dg.c.ar dg.call.b)) h3 λw h=>?_,trivial⟩;have h:=hback _ w _ h;have h:Ow B w0 w (de M rb { k with af:=k.af.set y.obj.toNat ((k.iR y.obj).ph dg.call.a (dg.c.obj,fE .i64 dg.c.ar dg.call.b)).2} br::R):=h.sub;exact hK1 w br O O O h
  refine dW (λe14=>?_) (λe14=>?_)
  .have ea:k.asks dg=k.mU dg:=by unfold ai.asks;rw[e14];rfl
   rw[ea]at hK1;unfold ai.mU at hK1;have hk8:dg.c.kind=8:=by rw[hkind,e14];rfl
   obtain⟨hm,_⟩:=hk.iR h0 (ho.2.2.2.2.2.2.2.2.1 hk8);intro k38 hk38;have go:∀(p:U × U)(e:U)(pb:S)(w:W),p=((k.iR dg.c.obj).cJ dg.call.a).1->e=((k.iR dg.c.obj).cJ dg.call.a).2.1->Ow B w0 w (de M rb { k with af:=k.af.set dg.c.obj.toNat ((k.iR dg.c.obj).cJ dg.call.a).2.2} br::ae pb [.z p.1,.z p.2]::ae xb dg.c.cells::
     ae cb dg.call.cl::R)->k38 pb.p e w:=λp e pb w hp he h=>by
    apply hk38;rw[<-hp,<-he]at hK1;by_cases e0:e=0
    .rw[Z e0]at hK1
     refine gC e0 ⟨_,h.aA O,h.l2 O ?_⟩;refine h.aM O ?_;refine nA (by show 0<=1000000000;decide) h λw h=>?_;exact hK1 w ⟨0,0,-1,[⟨dg.c.obj,dg.call.a,p.1,p.2⟩]⟩ O O O (show Ow B w0 w (de M rb { k with af:=k.af.set dg.c.obj.toNat ((k.iR dg.c.obj).cJ dg.call.a).2.2} { br with forget:=br.forget++ [⟨dg.c.obj,dg.call.a,p.1,p.2⟩]}::R)from h.sub)
    .rw[Y e0]at hK1
     exact jk e0 (hK1 w br O O O (show Ow B w0 w (de M rb { k with af:=k.af.set dg.c.obj.toNat ((k.iR dg.c.obj).cJ dg.call.a).2.2} br::R)from h.sub))
   refine h.dr λw h=>?_;obtain⟨s3,p3,Y3,g1,_,⟨a3,g3,g4,g5,g6⟩,h3,hback⟩:=lz (n:=dg.c.obj) h h0 hm;refine⟨_,O,s3,g1,_,h.aA O,a3,g3,g4,g5,_,g6,_,h.aA O,?_,?_,trivial⟩
   .refine Tb.lV h3 λw h=>?_
    have h:=hback _ w _ h;refine⟨h.al λw2 h=>⟨?_,trivial⟩,trivial⟩
    generalize w.heap.size=pb at h|-;refine h.aB O O λw h=>?_;exact go _ _ pb w O O h.sub
   .refine h3.al λw2 h=>⟨?_,trivial⟩
    generalize w.heap.size=pb at h|-;refine Tb.lV h.cC λw h=>?_;have h:=hback _ w _ h.lI.cC;refine⟨h.aB O O λw h=>?_,trivial⟩;exact go _ _ pb w O O h.sub
  refine dW (λe15=>?_) (λe15=>?_)
  .have ea:k.asks dg=k.bind dg:=by unfold ai.asks;rw[e15];rfl
   rw[ea]at hK1;unfold ai.bind at hK1;rw[rY qb,<-hy]at hK1;refine h.l1 O ?_;refine pR (λe=>?_) (λe=>?_)
   .rw[ql e,Z O]at hK1
    exact hK1 w br O O O (show Ow B w0 w (de M rb k br::R)from h.sub)
   .rw[qp e,Y qb]at hK1
    refine h.dr λw h=>?_;obtain⟨x,h⟩:=mP h;refine⟨_,O,_,h.aA O,_,h.aA O,_,h.aA O,_,h.aA O,Fp (h.pick (A:=dh x.ln k.ln)) λw h=>?_,trivial⟩;exact hK1 w br O O O (show Ow B w0 w (de M rb { k with ln:=(oF k.ln dg.c.obj y.obj y.aD).2} br::R)from bI x h.sub)
  .have e16:dg.call.ask=16:=om
   have ea:k.asks dg=ai.eN (k.iK (jG k.ln dg.c.obj)):=by unfold ai.asks;rw[e16];rfl
   rw[ea]at hK hK1;have hnote:=λy(hy:(jG k.ln dg.c.obj).1.1=X y)=>xg hk hy;have hok:=hk.Qi (n:=dg.c.obj);unfold ai.iK at hK hK1;refine h.dr λw h=>?_;obtain⟨x,h⟩:=mP h;refine⟨_,O,_,h.aA O,_,h.aA O,Im (n:=dg.c.obj) (h.pick (A:=dh x.ln k.ln)) λw h=>?_,trivial⟩;generalize jG k.ln dg.c.obj=r at hK hK1 hnote hok h|-;have h:Ow B w0 w (de M rb { k with ln:=r.2} br::R):=bI x h.sub;cases e:r.1.1 with
   |none=>
    rw[e]at hK1;exact aV O (hK1 w br O O O h)
   |some y=>
    rw[e]at hK;obtain⟨n0,n1⟩:=hnote y e;refine aW O ?_;refine(show Xn rb.o y.1 y.2 _ _ from mf hM hok.inv n0 n1 h λw h=>?_);obtain⟨x2,h⟩:=mP h;refine⟨_,O,ji (h.fD O O λw h=>?_)⟩;exact hK w ⟨0,0,(ai.bq { k with ln:=r.2} y.1 y.2).1,[]⟩ O O O (show Ow B w0 w (de (M+1) rb (ai.bq { k with ln:=r.2} y.1 y.2).2 ⟨0,0,(ai.bq { k with ln:=r.2} y.1 y.2).1,[]⟩::R)from bI x2 h.sub)
 have fin2:∀(x y:dB)(xb yb:S)(w:W),x=k.bm dg.call.at_->y=k.bm dg.call.ay->Ow B w0 w (de M rb k br::ae xb x.cells::ae yb y.cells::
   ae cb dg.call.cl::R)->k9 xb.p yb.p w:=λx y xb yb w hx hy h=>by
  rw[<-hc]at hx;subst hx;exact fin y xb yb w hy h
 clear fin hK hk9
 (repeat' (first|exact trivial|(exact fin2 _ _ _ _ _ (by assumption) (by assumption) h.sub)|(refine kE hk (h.pick (A:=de M rb k br)) λw x hx hr h=>?_)|(refine h.al λw h=>?_)|(refine h.dr λw h=>?_)|(refine h.aM O ?_)|(refine h.eE O ?_)|(refine h.l1 O ?_)|(refine h.l2 O ?_)|(refine h.hd O ?_)|(refine⟨h.aE O,?_⟩)|(refine⟨h.aA O,?_⟩)|((refine h.aB O O λw h=>?_);(try dsimp only[putAt,Tu,S1]at h))|(refine fy ?_)|(refine _root_.Go.Vc.a2 ?_)|(refine h.jD O O λw h=>?_)|(refine h.fD O O λw h=>?_)|(refine And.intro ?_ ?_)))
end
end Go.Vc
