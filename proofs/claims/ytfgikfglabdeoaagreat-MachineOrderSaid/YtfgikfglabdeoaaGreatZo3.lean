/- What the row rests on: the declarations that it needs, out of my texts (part 3). -/
import Derived.Test.YtfgikfglabdeoaaGreatZo2
open Bool renaming false->Z,true->V
open Decidable renaming decide->F
open Go renaming Addr->qf,Operand->qB,Value->N,World->Y,zeroValue->qE
open Go.IntKind renaming i64->qd,u64->qq
open Go.Proofs.Tryz renaming prog->qe,t139->qU,t155->qS,t3->qI,t316->aer,t325->aes,underlying124->qX,underlying133->aet,underlying22->qH,underlying235->qQ,underlying3->qy,underlying370->qT,zeroValue3->qP
open Option renaming none->I,some->S
open _root_ renaming Bool->W,Int->O,List->J,Nat->X,Option->qg,True->G,absurd->qi,beq_iff_eq->qG,bne_iff_ne->qN,cond_false->qp,cond_true->ql,congrArg->qw,decide_eq_false->qk,decide_eq_true->qm,decide_eq_true_eq->qA,if_false->qx,if_neg->Q,if_pos->A,if_true->qz,or_false->qC,rfl->U
open Go.Proofs.Tryz
open Bool renaming and_eq_true->OH,false_and->P5,false_eq_true->OF,not_false->PN,not_true->PK,true_and->Qa
open Int renaming eq_ofNat_of_zero_le->Ox,le_refl->RK,natCast_nonneg->Qp,toNat_natCast->Oo
open List renaming append_assoc->O1,append_nil->OD,drop_drop->Pz,drop_eq_getElem_cons->Pt,drop_left'->Ti,ext_getElem?->O2,filter_append->O9,filter_eq_self->Py,filter_filter->Qq,findIdx?_eq_none_iff->Pa,findIdx?_eq_some_iff_getElem->OT,flatMap_append->Pd,getElem?_append_left->Oy,getElem?_append_right->OA,getElem?_cons_succ->OK,getElem?_cons_zero->PA,getElem?_drop->OP,getElem?_eq_none->OQ,getElem?_eq_some_iff->Om,getElem?_map->OX,getElem?_range->PH,getElem?_set->Pb,getElem?_set_self->O0,length->PI,length_append->Ov,length_cons->OB,length_drop->Qd,length_filter_le->OR,length_map->O3,length_range->QR,length_set->Pe,map_append->OS,map_cons->OZ,map_nil->Qb,map_set->RX,mem_append->Pn,mem_cons->Oz,mem_filter->OE,mem_iff_getElem?->O5,mem_map->O4,mem_of_getElem?->OV,mem_or_eq_of_mem_set->Px,mem_singleton->OY,nodup_append->PZ,nodup_cons->Pu,not_mem_nil->Ps,perm_middle->PD,range->OC,replicate->Oq,set_append_left->Qy,set_append_right->Qg,set_cons_succ->OI,set_cons_zero->Pj,set_set->QC,singleton_append->RT,take->Sk,takeWhile_append_dropWhile->QN,takeWhile_cons_of_neg->Ru,takeWhile_cons_of_pos->Rv,take_add_one->OG,take_append_drop->O8,take_append_of_le_length->PR,take_of_length_le->Ou,take_take->QL,zipWith->Ot
open Nat renaming add_assoc->Ql,add_comm->RZ,add_sub_cancel_left->QA,div_lt_of_lt_mul->Rn,le_refl->On,le_trans->ON,log2_eq_iff->Sz,min_eq_left->Pv,min_self->R3,mul_one->Re,pow_add->S9,succ_mul->Qu,two_pow_pos->PG,zero_add->OJ
open Option renaming map_eq_none_iff->SE,map_eq_some_iff->P4,map_some->PC
set_option maxRecDepth 100000
set_option maxHeartbeats 4000000
set_option linter.all false
namespace Go.Vc
open Go.Proofs
structure eN where
 l:J Wt
 gV:W
deriving DecidableEq
structure Met where
 is:W
 gk:O
 to:O
 m:FY
deriving DecidableEq
def ju:Met:=⟨Z,0,0,BZ⟩
def eN.there(p:eN)(n:O):W:=p.l.any λo=>o.who==n
def eN.first(p:eN)(s:W):qg Wt × eN:=match p.l with
 | []=>(I,p)
 |o::r=>if p.gV=s then(S o,{ p with l:=r})else(I,p)
def eN.send(p:eN)(n:O)(m:FY)(waits:W):Met × O × eN:=
 if p.there n then(ju,110,p)else match p.first Z with
 |(S o,p')=>(⟨V,n,o.who,m⟩,0,p')
 |(I,_)=>(ju,0,if waits then⟨p.l++ [⟨n,m⟩],V⟩else p)
def eN.recv(p:eN)(n:O)(waits:W):Met × O × eN:=
 if p.there n then(ju,110,p)else match p.first V with
 |(S o,p')=>(⟨V,o.who,n,o.m⟩,0,p')
 |(I,_)=>(ju,0,if waits then⟨p.l++ [⟨n,BZ⟩],Z⟩else p)
def eN.cancel(p:eN)(n:O):eN:={ p with l:=p.l.filter λo=> !(o.who==n)}
def cV(b:X)(p:eN):aH:=pa λs:Sl=>bo [dJ (p.l.length<=1000000),aa b [s.v,.bool p.gV],af ja s p.l]
section
variable{B:X}{w0 w:Y}{R L:J aH}{s:Sl}{xs:J O}{b:X}{p:eN}
theorem Ow.IV(h:Ow B w0 w (cV b p::R)):∃s:Sl,p.l.length<=1000000/\Ow B w0 w (aa b [s.v,.bool p.gV]::af ja s p.l::R):=by obtain⟨s,h⟩:=h.ex;obtain⟨h1,h⟩:=Ow.pure h.star;exact⟨s,h1,h⟩
theorem Ow.oC{s:Sl}(h1:p.l.length<=1000000)(h:Ow B w0 w (aa b [s.v,.bool p.gV]::af ja s p.l::R)):Ow B w0 w (cV b p::R):=
 Ow.eP s (Ow.br (Ow.cZ h1 h))
theorem K1{ae6:J aH}{c o:X}{l:J N}{v:N}(h:Ow B w0 w (ae6++aa c l::L))(hv:l[o]?=S v):w.cell? ⟨c,o,I⟩=S v:=by exact Ow.iM (b:=c) (o:=o) (l:=l) h ae6.length (by rw[OA (On _),Nat.sub_self];rfl) hv
theorem rl{K:qg qf->Pw}(h:Ow B w0 w R)(hK:∀b w',Ow B w0 w' (cV b ⟨[],Z⟩::R)->K b.o w'):Xw K w:=by
 apply YZ;refine h.al λw1 h=>?_;exact hK _ w1 (Ow.oC (s:=z0) qc ((Ow.cH h).perm (List.Perm.swap _ _ _)))
theorem jt{n:O}{K:W->Pw}(h:Ow B w0 w (cV b p::R))(hK:∀w',Ow B w0 w' (cV b p::R)->K (p.there n) w'):U3 b.o n K w:=by
 apply Y1;obtain⟨s,hl,h⟩:=h.IV;refine h.a λc w1 h=>?_;refine⟨_,U,s,h.aF U,tU (s:=s) (xs:=p.l) (p:=λo=>o.who==n) h om (λy w ae5 h hQ=>?_) λw h=>?_⟩
 .refine aT ?_
  show Yq y.who y.m.label y.m.w0 y.m.w1 y.m.w2 y.m.w3 y.m.ax y.m.calls c.p ae5 w;apply Y7;refine h.a λd w1 h=>?_;exact⟨_,h.aF U,_,h.aF U,hQ _ h.drop⟩
 .exact hK w (Ow.oC (s:=s) hl h.sub)
theorem js{t:W}{K:O->O->O->O->O->O->O->W->W->Pw}(h:Ow B w0 w (cV b p::R))
  (hK:∀w' o,o=((p.first t).1.getD JL)->Ow B w0 w' (cV b (p.first t).2::R)->K o.who o.m.label o.m.w0 o.m.w1 o.m.w2 o.m.w3 o.m.ax o.m.calls (p.first t).1.isSome w'):U4 b.o t K w:=by
 apply Y2;obtain⟨s,hl,h⟩:=h.IV;have hlen:=h.aL s;refine h.a λc w1 h=>?_;intro k4 hk4;have no:∀w,(p.first t)=(I,p)->Ow B w0 w (aa c [.z 0,.z 0,.y 0,.y 0,.y 0,.y 0,.y 0,.bool Z]::aa b [s.v,.bool p.gV]::af ja s p.l::R)->k4 V w:=λw e h=>by
  rw[e]at hK;apply hk4;refine aU U ?_;refine h.ay U U λw h=>?_;refine h.I8 U ?_;exact hK w JL U (Ow.oC (s:=s) hl h.sub)
 refine⟨_,U,s,h.aF U,?_⟩;cases hp:p.l with
 |nil=>
  have e:p.first t=(I,p):=by unfold eN.first;rw[hp]
  rw[hp]at hlen;refine jg (by simp at hlen;omega) ?_;exact no _ e h
 |cons o r=>
  rw[hp]at hlen;simp only[OB]at hlen;refine jf om ?_;refine⟨_,U,p.gV,h.aF U,?_⟩;by_cases e:p.gV=t
  .have ef:p.first t=(S o,{ p with l:=r}):=by unfold eN.first;rw[hp];simp[e]
   rw[ef]at hK;rw[show(!(p.gV==t))=Z from by simp[e]];apply hk4;refine aW U ?_;refine⟨_,U,s,h.aF U,?_⟩;have h0:p.l[0]?=S o:=by rw[hp];rfl
   refine h.bX (s:=s) (i:=0) (j:=0) U h0 λa ha hc0 hc=>G6 hc ?_;repeat first|refine h.al λw h=>?_|refine h.l1 U ?_|refine h.ay U U λw h=>?_|refine eX ?_
   rw[hp]at h;refine Eh (i:=0) (j:=1) (h.pick (ae7:=af ja s (o::r))) om qc (by rw[hp]at hl;simp at hl|-;omega) λs' w h=>?_;repeat first|refine h.aN U ?_|refine h.ay U U λw h=>?_|refine eX ?_|refine h.jx U U λw h=>?_
   have h:Ow B w0 _ (af ja s' r::_):=h;have h:Ow B w0 _ (aa b [s'.v,.bool p.gV]::af ja s' r::R):=h.sub;refine hK _ o U (Ow.oC (s:=s') (by rw[hp]at hl;simp at hl|-;omega) h)
  .have ef:p.first t=(I,p):=by unfold eN.first;rw[hp];simp[e]
   rw[show(!(p.gV==t))=V from by simp[e]];exact no _ ef h
theorem jQ{o:Wt}{t:W}{K:Pw}(hbig:p.l.length<1000000)(h:Ow B w0 w (cV b p::R))(hK:∀w',Ow B w0 w' (cV b ⟨p.l++ [o],t⟩::R)->K w'):
  U5 b.o o.who o.m.label o.m.w0 o.m.w1 o.m.w2 o.m.w3 o.m.ax o.m.calls t K w:=by
 apply Y5;obtain⟨s,hl,h⟩:=h.IV;refine h.a λc w1 h=>?_;refine h.dr λw h=>?_;refine⟨_,U,s,h.aF U,h.I8 U ⟨h.al λw2 h=>⟨?_,trivial⟩,trivial⟩⟩
 generalize w.heap.size=d at h|-;refine IE (s:=s) (y:=o) h om λs' w hs' h=>⟨_,U,?_⟩
 refine⟨h.jx U U λw h=>⟨_,U,?_⟩,trivial⟩
 refine⟨h.jx U U λw h=>?_,trivial⟩;exact hK w (Ow.oC (s:=s') (by simp;omega) h.sub)
theorem jP{n:O}{m:FY}{wt:W}{K:W->O->O->O->O->O->O->O->O->W->O->Pw}(hbig:p.l.length<1000000)(h:Ow B w0 w (cV b p::R))
  (hK:∀w' x,x=(p.send n m wt).1->Ow B w0 w' (cV b (p.send n m wt).2.2::R)->K x.is x.gk x.to x.m.label x.m.w0 x.m.w1 x.m.w2 x.m.w3 x.m.ax x.m.calls (p.send n m wt).2.1 w'):
  UF b.o n m.label m.w0 m.w1 m.w2 m.w3 m.ax m.calls wt K w:=by
 apply YX;refine h.a λc w1 h=>?_;refine h.a λd w2 h=>?_;refine jt (n:=n) h.lK λw h=>?_;unfold eN.send at hK;cases ht:p.there n with
 |true=>
  rw[ht]at hK;simp only[qz]at hK;refine aU U ?_;repeat first|refine h.aN U ?_|refine h.ay U U λw h=>?_
  exact hK _ ju U h.sub
 |false=>
  rw[ht]at hK;simp only[OF,qx]at hK;refine aW U ?_;refine js (t:=Z) h λw o ho h=>?_;refine h.a λe w3 h=>?_;refine h.ay U U λw h=>?_;cases hf:p.first Z with
  |mk x p'=>
   rw[hf]at hK h ho;dsimp only at hK h ho;cases x with
   |some o'=>
    have ho:o=o':=ho;subst ho;refine aU U ?_;repeat first|refine h.aN U ?_|refine h.l1 U ?_|refine h.ay U U λw h=>?_
    exact hK _ _ U (h.sub:Ow B w0 _ (cV b p'::R))
   |none=>
    have hp':p'=p:=by
     unfold eN.first at hf
     split at hf
     .cases hf;rfl
     .split at hf
      .cases hf
      .cases hf;rfl
    rw[hp']at h;refine aW U ?_;cases wt with
    |true=>
     refine aU U ?_;repeat first|refine h.aN U ?_|refine h.l1 U ?_
     refine jQ (o:=⟨n,m⟩) (t:=V) hbig h.cw λw h=>?_;repeat first|refine h.aN U ?_|refine h.ay U U λw h=>?_
     exact hK _ ju U (h.sub:Ow B w0 _ (cV b ⟨p.l++ [⟨n,m⟩],V⟩::R))
    |false=>
     refine aW U ?_;repeat first|refine h.aN U ?_|refine h.ay U U λw h=>?_
     exact hK _ ju U (h.sub:Ow B w0 _ (cV b p::R))
theorem uC:qe.info? 3=S qI:=qa
theorem ve:qI.bytes=8:=qa
theorem Ek{v:O}{K:O->Pw}[ae4:bY s L O aB xs](h:Ow B w0 w L)(hbig:xs.length<=1000000000)(hK:∀w',Ow B w0 w' L->K (dH (λx=>v==x) xs) w'):X0 s v K w:=by
 apply aay;have hlen:=h.aL s;intro l hl;have loop:∀(m j:X)(w:Y),j+m=xs.length->(∀i,i<j->∀y,xs[i]?=S y->(v==y)=Z)->Ow B w0 w L->l (j:O) w:=by
  intro m;induction m with
  |zero=>
   intro j w hj hno h;apply hl;refine aw om ?_;have hn:xs.findIdx? (λx=>v==x)=none:=by rw[Pa];intro y hy;obtain⟨i,hi⟩:=O5.1 hy;exact hno i (by have:=(Om.1 hi).1;omega) y hi
   have e:dH (λx=>v==x) xs= -1:=by unfold dH;rw[hn]
   rw[<-e];exact hK _ h
  |succ m ih=>
   intro j w hj hno h;have hx:xs[j]?=S xs[j]:=gE om;apply hl;refine az om ?_;refine h.bX (s:=s) U hx λa ha h0 hc=>⟨_,h0 _ U,?_⟩
   cases hp:(v==xs[j])with
   |true=>
    refine aU U ?_;have hn:xs.findIdx? (λx=>v==x)=S j:=by rw[OT];refine⟨om,hp,λi hi=>?_⟩;have:=hno i hi xs[i] (gE om);simp[this]
    have e:dH (λx=>v==x) xs=(j:O):=by unfold dH;rw[hn]
    rw[<-e];exact hK _ h
   |false=>
    refine aW U ?_;rw[wr om om];refine ih (j+1) w om (λi hi z hz=>?_) h;by_cases e:i=j
    .subst e;rw[hx]at hz;cases hz;exact hp
    .exact hno i om z hz
 exact loop xs.length 0 w om (λi hi=>by omega) h
theorem yy{v:O}{K:W->Pw}[ae4:bY s L O aB xs](h:Ow B w0 w L)(hbig:xs.length<=1000000000)(hK:∀w',Ow B w0 w' L->K (xs.any λx=>v==x) w'):XF s v K w:=by
 apply aal;refine Ek h hbig λw h=>?_;rw[jT];exact hK w h
theorem eQ{y:O}{c:X}{k:Sl->Pw}[ae4:bY s L O aB xs][aeX:eD (af aB s xs) L R](h:Ow B w0 w (aa c [.z y]::L))(hbig:xs.length<=1000000000)
  (hk:∀s' w',s'.len=xs.length+1->Ow B w0 w' (af aB s' (xs++ [y])::R)->k s' w'):
  ∃s' w',aP qe [22,22] 22 s.v (.slice (S c.p) 1 1) w s' w'/\k s' w':=
 Ow.eR (E:=aB) (y:=y) qH uC (zv:= .z 0) qa qa U qb h (by rw[ve];omega) hk
theorem B6{i j:X}{K:Sl->Pw}(h:Ow B w0 w (af aB s xs::R))(hij:i<j)(hj:j<=xs.length)(hbig:xs.length<=1000000000)
  (hK:∀s' w',Ow B w0 w' (af aB s' (xs.take i++xs.drop j)::R)->K s' w'):Xe s (i:O) (j:O) K w:=by
 apply aae;have hlen:=h.aL s;have hcap:=h.kG.fK;refine⟨om,om,om,om,om,om,jf om (h.dr λw h=>?_)⟩;refine⟨om,om,om,om,a2 ?_⟩;simp only[Oo];refine h.u7 (E:=aB) qH uC qa om hj om λw h=>?_;dsimp only;refine⟨om,om,om,om,h.clear (P:=qe) (T:=22) (t:=0) (n:=i+(xs.length-j)) (zv:= .z 0) (z0:=0) qH (λw=>qP w) U 0 U (by simp;omega) λw h=>?_⟩;have hp:=h.pre 0 U (n:=i+(xs.length-j)) (by simp;omega);refine hK _ w ?_;rw[lv hij hj]at hp;exact hp
theorem jO{n:O}{wt:W}{K:W->O->O->O->O->O->O->O->O->W->O->Pw}(hbig:p.l.length<1000000)(h:Ow B w0 w (cV b p::R))
  (hK:∀w' x,x=(p.recv n wt).1->Ow B w0 w' (cV b (p.recv n wt).2.2::R)->K x.is x.gk x.to x.m.label x.m.w0 x.m.w1 x.m.w2 x.m.w3 x.m.ax x.m.calls (p.recv n wt).2.1 w'):
  UH b.o n wt K w:=by
 apply YY;refine h.a λc w1 h=>?_;refine jt (n:=n) h.cw λw h=>?_;unfold eN.recv at hK;cases ht:p.there n with
 |true=>
  rw[ht]at hK;simp only[qz]at hK;refine aU U ?_;refine h.ay U U λw h=>?_;refine h.jV U ?_;exact hK _ ju U h.sub
 |false=>
  rw[ht]at hK;simp only[OF,qx]at hK;refine aW U ?_;refine js (t:=V) h λw o ho h=>?_;refine h.a λe w3 h=>?_;refine h.ay U U λw h=>?_;cases hf:p.first V with
  |mk x p'=>
   rw[hf]at hK h ho;dsimp only at hK h ho;cases x with
   |some o'=>
    have ho:o=o':=ho;subst ho;refine aU U ?_;refine h.l1 U ?_;refine h.y6 U ?_;refine h.ay U U λw h=>?_;refine h.jV U ?_;exact hK _ ⟨V,o.who,n,o.m⟩ U (h.sub:Ow B w0 _ (cV b p'::R))
   |none=>
    have hp':p'=p:=by
     unfold eN.first at hf
     split at hf
     .cases hf;rfl
     .split at hf
      .cases hf
      .cases hf;rfl
    rw[hp']at h;refine aW U ?_;cases wt with
    |true=>
     refine aU U ?_;refine jQ (o:=⟨n,BZ⟩) (t:=Z) hbig h.cw λw h=>?_;refine h.ay U U λw h=>?_;refine h.jV U ?_;exact hK _ ju U (h.sub:Ow B w0 _ (cV b ⟨p.l++ [⟨n,BZ⟩],Z⟩::R))
    |false=>
     refine aW U ?_;refine h.ay U U λw h=>?_;refine h.jV U ?_;exact hK _ ju U (h.sub:Ow B w0 _ (cV b p::R))
theorem nv{n:O}{K:W->Pw}(h:Ow B w0 w (cV b p::R))(hK:∀r w',Ow B w0 w' (cV b (p.cancel n)::R)->K r w'):XD b.o n K w:=by
 apply Y0;obtain⟨s,hl,h⟩:=h.IV;refine h.a λc w1 h=>?_;refine⟨_,U,s,h.aF U,_,U,s,h.aF U,wP (p:=λo=>o.who==n) h.lK om (λae6 y w ae5 h hQ=>?_) λs' w h=>?_⟩
 .refine aT ?_
  show Yo y.who y.m.label y.m.w0 y.m.w1 y.m.w2 y.m.w3 y.m.ax y.m.calls c.p ae5 w;apply Y6;refine h.a λd w1 h=>?_;exact⟨_,h.aF U,_,K1 (ae6:=aa d _::ae6) h U,hQ _ h.drop⟩
 .refine ⟨_,U,?_⟩
  refine h.jx U U λw h=>?_;exact⟨_,U,s',h.aF U,hK _ w (Ow.oC (s:=s') (p:=p.cancel n) (ON (OR _ _) hl) (h.sub:Ow B w0 w (aa b [s'.v,.bool p.gV]::af ja s' (p.l.filter λo=> !(o.who==n))::R)))⟩
theorem aaF{a K w}:Fr (VM a K w) (∀b:W->Pw,(∀(c:W)(d:Y),(bif c then K I 1 d else ∃(b:Sl)(c:Y),jH qe 341 (.z a) (.z a) d b c/\A2 c [b.v] 343 λa b=>K (S a.p) 0 b)->b c d)->(bif F (a<1)then b V w else b (F (a>8)) w)):=ai func94 .Lb
theorem aaG{a b K w}:Fr (WD a b K w) (∃c,a=S c/\∃a,w.s c a/\∀c:O->O->Pw,(∀(d e:O)(f:Y),(bif F (e<(a.len:O))then ∃g,a.a=S g/\0<=e/\e<(a.len:O)/\∃a,f.s (g.add (e.toNat*1)) a/\∀g:O->O->Pw,(∀(d f:O)(h:Y),(bif F (f<(a.len:O))then ∃i,a.a=S i/\0<=f/\f<(a.len:O)/\av h (i.add (f.toNat*3)) 0 [.o,.o,.o] λ(a i j:O)=>A2 h [.z 0,.z 0,.z 0] 357 λk l=>aD l k.p 0 [.z a,.z i,.z j] λa=>∃i,a.z k.p i/\bif i==b then g (qd.wrap (d+1)) (qd.wrap (f+1)) a else g d (qd.wrap (f+1)) a else c d (qd.wrap (e+1)) h)->g d f h)->g d 0 f else K d f)->c d e f)->c 0 0 w):=ai func212 (.v (.v (.y (.v (.x (.t (S [(5,.c (.i .i64)),(15,.c (.i .i64))]) (.v (.y .w (.x (.x (.v (.v (.x (.t (S [(5,.c (.i .i64)),(21,.c (.i .i64))]) .MK .u)))))))) .u))) .w)))
theorem aaH{a b K w}:Fr (Xi a b K w) (A2 w [.z 0,.z 0,.z 0] 357 λc d=>∀e:W->Pw,(∀(d:W)(f:Y),(bif d then aD f c.p 0 [.z 0,.z 0,.z 0] λd=>av d c.p 0 [.o,.o,.o] λ(e g h:O)=>K e g h Z d else ∃d,a=S d/\∃e,f.s d e/\∃d,e.a=S d/\0<=b/\b<(e.len:O)/\∃e,f.s (d.add (b.toNat*1)) e/\∃d,e.a=S d/\(0:O)<=0/\0<(e.len:O)/\av f (d.add ((0:O).toNat*3)) 0 [.o,.o,.o] λ(d e g:O)=>A2 f [.z 0,.z 0,.z 0] 357 λf h=>aD h f.p 0 [.z d,.z e,.z g] λd=>Dr d λd=>∃e,a=S e/\∃g,a=S g/\∃a,d.s g a/\∃g,a.a=S g/\0<=b/\b<(a.len:O)/\∃a,d.s (g.add (b.toNat*1)) a/\∃g,d.s e g/\(XN a 0 1 (λa d=>d.s e g/\∃e,g.a=S e/\0<=b/\b<(g.len:O)/\(St d (e.add (b.toNat*1)) a.v λa=>av a f.p 0 [.o,.o,.o] λ(b d e:O)=>aD a c.p 0 [.z b,.z d,.z e] λa=>av a c.p 0 [.o,.o,.o] λ(b c d:O)=>K b c d V a)/\G) d)/\G)->e d f)->(U9 a b (λc d=>bif !c then e V d else ∃c,a=S c/\∃a,d.s c a/\∃c,a.a=S c/\0<=b/\b<(a.len:O)/\∃a,d.s (c.add (b.toNat*1)) a/\e ((a.len:O)==0) d) d)):=ai func300 (.v (.y (.y (.r (S [(21,.c .b)]) .done) (.x .w)) (.v (.y (.z (.o 0 8176 (.o 1 8176 (.o 2 8176 (.o 4 8168 (.o 5 520 (.o 6 520 (.o 7 520 (.o 8 520 (.o 9 8 (.o 10 8 (.o 11 8 (.hold 3 4096 16383 (.e 12 (.o 13 0 (.e 14 .done)))))))))))))))) .w))))
theorem aaI{a b c d K w}:Fr (Xj a b c d K w) (U9 a b (λe f=>bif !e then K 1 f else ∃e,a=S e/\∃g,f.s e g/\∀e:Sl->O->Pw,(∀(f:Sl)(h:O)(i:Y),(bif F (h<(g.len:O))then bif h !=b then A2 i [.z h] 3 λg j=>∃k l,aP qe [22,22] 22 f.v (.slice (S g.p) 1 1) j k l/\e k (qd.wrap (h+1)) l else e f (qd.wrap (h+1)) i else XO a b c d f (λa b=>K a b) i)->e f h i)->e z0 0 f) w):=ai func304 (.v (.y (.v (.x .w)) (.v (.y (.v (.x (.t (S [(9,.c .s),(20,.c (.i .i64))]) .MK .u))) .w))))
theorem aaJ{a b K w}:Fr (U9 a b K w) (bif F (b>=0)then ∃c,a=S c/\∃a,w.s c a/\K (F (b<(a.len:O))) w else K Z w):=ai func376 (.v .w)
theorem aaK{a b c d e K w}:Fr (XO a b c d e K w) (A2 w [.pointer a] 185 λa f=>A2 f [.z b,.z c,.z d] 357 λb c=>VT e (.func (.func 419) #[] #[.pointer (S a.p)]) (λc d=>bif c then K 2 d else ∀c:O->Pw,(∀(d:O)(f:Y),(bif F (d<(e.len:O))then ∃g,e.a=S g/\0<=d/\d<(e.len:O)/\∃e,f.z (g.add (d.toNat*1)) e/\Dr f λg=>∃h,g.q a.p h/\∃i,h=S i/\∃h,g.s i h/\∃i,h.a=S i/\0<=e/\e<(h.len:O)/\∃h,g.s (i.add (e.toNat*1)) h/\av g b.p 0 [.o,.o,.o] λ(b i j:O)=>∃k,g.q a.p k/\∃l,k=S l/\∃m,g.s l m/\(A2 g [.z b,.z i,.z j] 357 λb f=>(∃g i,aP qe [354,354] 354 h.v (.slice (S b.p) 1 1) f g i/\i.s l m/\i.q a.p k/\∃a,m.a=S a/\0<=e/\e<(m.len:O)/\(St i (a.add (e.toNat*1)) g.v λa=>c (qd.wrap (d+1)) a)/\G)/\G)/\G else K 0 f)->c d f)->c 0 d) c):=ai func378 (.v (.y (.v (.x .w)) (.y (.v (.x (.t (S [(14,.c (.i .i64))]) (.v (.y .w (.x (.x (.v (.z (.o 4 32751 (.o 5 12815 (.o 6 12815 (.o 7 12815 (.o 8 12815 (.o 9 12303 (.o 10 12303 (.o 11 12303 (.o 12 15 (.hold 0 24576 65535 (.o 1 24576 (.o 2 24576 (.hold 3 24576 65535 (.e 13 (.e 14 (.o 15 0 (.e 16 .done))))))))))))))))))))))) .u))) .w)))
theorem aaL{a b K w}:Fr (Yx a b K w) (∃c,w.q b c/\∃b,c=S b/\∃c,w.s b c/\∃b,c.a=S b/\0<=a/\a<(c.len:O)/\∃c,w.s (b.add (a.toNat*1)) c/\K (F ((c.len:O)>=64)) w):=ai func419 (.v .w)
theorem aaM{a K w}:Fr (WQ a K w) (A2 w [.map a] 232 λa b=>K (.func (.func 329) #[] #[.pointer (S a.p)]) b):=ai func243 (.v .w)
theorem aaN{a b K w}:Fr (WI a b K w) (Ye a b (λa b c=>K a b c) w):=ai func228 (.v (.y (.x (.v .w)) (.v .w)))
theorem aaO{a b K w}:Fr (Ye a b K w) ((0:O)<=32/\(0:O)<=32/\(0:O)<=32/\(0:O)<=32/\(0:O)<=32/\K (qq.wrap ((qq.wrap ((qq.wrap ((kS .u64 a 32)*(kS .u64 b 32)))+(kS .u64 (qq.wrap ((qq.wrap ((kS .u64 a 32)*(da .u64 b 4294967295)))+(kS .u64 (qq.wrap ((da .u64 a 4294967295)*(da .u64 b 4294967295))) 32))) 32)))+(kS .u64 (qq.wrap ((da .u64 (qq.wrap ((qq.wrap ((kS .u64 a 32)*(da .u64 b 4294967295)))+(kS .u64 (qq.wrap ((da .u64 a 4294967295)*(da .u64 b 4294967295))) 32))) 4294967295)+(qq.wrap ((da .u64 a 4294967295)*(kS .u64 b 32))))) 32))) (qq.wrap (a*b)) w):=ai func313 (.v (.v (.v (.v (.v (.v (.v (.v (.v (.v (.v .w)))))))))))
theorem aaP{a K w}:Fr (Xn a K w) (∀b:O->O->Pw,(∀(a c:O)(d:Y),(∀b:O->O->Pw,(∀(a c:O)(d:Y),(∀b:O->O->Pw,(∀(a c:O)(d:Y),(∃b,F9 ⟨#[0,1,2,2,3,3,3,3,4,4,4,4,4,4,4,4,5,5,5,5,5,5,5,5,5,5,5,5,5,5,5,5,6,6,6,6,6,6,6,6,6,6,6,6,6,6,6,6,6,6,6,6,6,6,6,6,6,6,6,6,6,6,6,6,7,7,7,7,7,7,7,7,7,7,7,7,7,7,7,7,7,7,7,7,7,7,7,7,7,7,7,7,7,7,7,7,7,7,7,7,7,7,7,7,7,7,7,7,7,7,7,7,7,7,7,7,7,7,7,7,7,7,7,7,7,7,7,7,8,8,8,8,8,8,8,8,8,8,8,8,8,8,8,8,8,8,8,8,8,8,8,8,8,8,8,8,8,8,8,8,8,8,8,8,8,8,8,8,8,8,8,8,8,8,8,8,8,8,8,8,8,8,8,8,8,8,8,8,8,8,8,8,8,8,8,8,8,8,8,8,8,8,8,8,8,8,8,8,8,8,8,8,8,8,8,8,8,8,8,8,8,8,8,8,8,8,8,8,8,8,8,8,8,8,8,8,8,8,8,8,8,8,8,8,8,8,8,8,8,8,8,8,8,8,8,8]⟩ (IntKind.u8.wrap a) b/\K (qd.wrap (c+(qd.wrap b))) d)->b a c d)->(bif F (a>=256)then(0:O)<=8/\b (kS .u64 a 8) (qd.wrap (c+8)) d else b a c d))->b a c d)->(bif F (a>=65536)then(0:O)<=16/\b (kS .u64 a 16) (qd.wrap (c+16)) d else b a c d))->b a c d)->(bif F (a>=4294967296)then(0:O)<=32/\b (kS .u64 a 32) 32 w else b a 0 w)):=ai func322 (.v (.y .MC (.y .MC (.y .MC .w))))
theorem aaQ{a b K w}:Fr (Wy a b K w) (∃c,a=S c/\∃d,w.s (c.add 2) d/\bif F ((d.len:O)>0)then ∃c,a=S c/\∃d,w.s (c.add 2) d/\∃c,d.a=S c/\(0:O)<=0/\0<(d.len:O)/\∃d,w.z (c.add ((0:O).toNat*1)) d/\∃c,a=S c/\∃e,w.s (c.add 2) e/\Xe e 0 1 (λc e=>∃f,a=S f/\St e (f.add 2) c.v λa=>K d b V a) w else ∃c,a=S c/\∃d,w.y c d/\∃c,a=S c/\St w c (.y (Hq .u64 d b)) λb=>∃c,a=S c/\St b (c.add 1) (.bool V) λa=>K 0 0 Z a):=ai func193 (.v (.y (.v (.x (.v (.v .w)))) (.v .w)))
theorem aaR{a b c K w}:Fr (WX a b c K w) (∃d,a=S d/\∃e,w.s (d.add 2) e/\XF e b (λd e=>bif d then K 0 Z 120 e else ∃d,a=S d/\∃f,e.b (d.add 1) f/\bif f then ∃d,a=S d/\∃f,e.y d f/\∃d,a=S d/\St e d (.y 0) λd=>∃g,a=S g/\St d (g.add 1) (.bool Z) λd=>K f V 0 d else bif c then ∃c,a=S c/\∃d,e.s (c.add 2) d/\A2 e [.z b] 3 λb c=>∃f g,aP qe [22,22] 22 d.v (.slice (S b.p) 1 1) c f g/\∃b,a=S b/\St g (b.add 2) f.v λa=>K 0 Z 0 a else K 0 Z 0 e) w):=ai func268 (.v (.y (.x (.v (.y .w (.v (.y (.v (.v .w)) (.v .w)))))) .w))
theorem aaS{K w}:Fr (Xx K w) (A2 w [.y 0,.bool Z,.slice I 0 0] 335 λa b=>K (S a.p) b):=ai func342 (.v .w)
theorem aaT{a b K w}:Fr (XE a b K w) (A2 w [.z b] 3 λb c=>∃d,a=S d/\∃e,c.s (d.add 2) e/\∃d,a=S d/\∃f,c.s (d.add 2) f/\UW f (.func (.func 406) #[] #[.pointer (S b.p)]) (λb c=>∃d,a=S d/\St c (d.add 2) b.v λb=>∃c,a=S c/\∃a,b.s (c.add 2) a/\K (F ((a.len:O)<(e.len:O))) b) c):=ai func352 (.v (.v (.v .w)))
theorem aaU{a b K w}:Fr (Yp a b K w) (∃c,w.z b c/\K (a==c) w):=ai func406 (.v .w)
structure oN where
 word:O
 is:W
 l:J O
deriving DecidableEq
def oN.a8(n:oN)(ax:O):qg O × oN:=match n.l with
 |x::r=>(S x,{ n with l:=r})
 | []=>(I,⟨Hq .u64 n.word ax,V,[]⟩)
def oN.wait(n:oN)(who:O)(waits:W):(O × W × O)× oN:=
 if n.l.any (λx=>who==x)then((0,Z,120),n)
 else if n.is then((n.word,V,0),{ n with word:=0,is:=Z})
 else((0,Z,0),if waits then { n with l:=n.l++ [who]}else n)
def oN.cancel(n:oN)(who:O):oN:={ n with l:=n.l.filter λx=> !(x==who)}
def cj(b:X)(n:oN):aH:=pa λs:Sl=>bo [dJ (n.l.length<=1000000),aa b [.y n.word,.bool n.is,s.v],af aB s n.l]
end
section
variable{B:X}{w0 w:Y}{R L:J aH}{b:X}{n:oN}
theorem Ow.note(h:Ow B w0 w (cj b n::R)):∃s:Sl,n.l.length<=1000000/\Ow B w0 w (aa b [.y n.word,.bool n.is,s.v]::af aB s n.l::R):=by obtain⟨s,h⟩:=h.ex;obtain⟨h1,h⟩:=Ow.pure h.star;exact⟨s,h1,h⟩
theorem Ow.kA{s:Sl}{wd:O}{is:W}{l:J O}(h1:l.length<=1000000)(h:Ow B w0 w (aa b [.y wd,.bool is,s.v]::af aB s l::R)):Ow B w0 w (cj b ⟨wd,is,l⟩::R):=
 Ow.eP s (Ow.br (Ow.cZ h1 h))
theorem ud{K:qg qf->Pw}(h:Ow B w0 w R)(hK:∀b w',Ow B w0 w' (cj b ⟨0,Z,[]⟩::R)->K b.o w'):Xx K w:=by
 apply aaS;refine h.al λw1 h=>?_;exact hK _ w1 (Ow.kA (s:=z0) qc ((Ow.cH h).perm (List.Perm.swap _ _ _)))
theorem pL{g:O}{K:O->O->W->Pw}(h:Ow B w0 w (cj b n::R))
  (hK:∀w',Ow B w0 w' (cj b (n.a8 g).2::R)->K ((n.a8 g).1.getD 0) (if(n.a8 g).1.isSome then g else 0) (n.a8 g).1.isSome w'):Wy b.o g K w:=by
 apply aaQ;obtain⟨s,hl,h⟩:=h.note;have hlen:=h.aL s;unfold oN.a8 at hK;refine⟨_,U,s,h.aF U,?_⟩;cases hn:n.l with
 |nil=>
  rw[hn]at hK hlen;refine aw (by simp at hlen;omega) ?_;refine⟨_,U,_,h.aF U,_,U,h.jx U U λw h=>⟨_,U,?_⟩⟩
  refine h.jx U U λw h=>?_;rw[hn]at h;exact hK w (Ow.kA (s:=s) qc h)
 |cons x r=>
  rw[hn]at hK hlen;simp only[OB]at hlen;refine az om ?_;refine⟨_,U,s,h.aF U,?_⟩;have h0:n.l[0]?=S x:=by rw[hn];rfl
  refine h.bX (s:=s) (i:=0) (j:=0) U h0 λa ha hc0 hc=>⟨_,hc0 _ U,?_⟩
  refine⟨_,U,s,h.aF U,?_⟩;rw[hn]at h;refine B6 (i:=0) (j:=1) h.cw om qc (by rw[hn]at hl;simp at hl|-;omega) λs' w h=>⟨_,U,?_⟩
  refine h.jx U U λw h=>?_;have h:Ow B w0 w (af aB s' r::_):=h;exact hK w (Ow.kA (s:=s') (by rw[hn]at hl;simp at hl|-;omega) h.sub)
theorem sU{who:O}{wt:W}{K:O->W->O->Pw}(hbig:n.l.length<1000000)(h:Ow B w0 w (cj b n::R))
  (hK:∀w',Ow B w0 w' (cj b (n.wait who wt).2::R)->K (n.wait who wt).1.1 (n.wait who wt).1.2.1 (n.wait who wt).1.2.2 w'):WX b.o who wt K w:=by
 apply aaR;obtain⟨s,hl,h⟩:=h.note;unfold oN.wait at hK;refine⟨_,U,s,h.aF U,yy (s:=s) (xs:=n.l) h om λw h=>?_⟩;cases ht:(n.l.any λx=>who==x)with
 |true=>
  rw[ht]at hK;exact aU U (hK w (Ow.kA (s:=s) hl h))
 |false=>
  rw[ht]at hK;refine aW U ⟨_,U,h.l1 U ?_⟩;cases hi:n.is with
  |true=>
   rw[hi]at hK;refine aU U ⟨_,U,_,h.aF U,_,U,?_⟩;refine h.jx U U λw h=>⟨_,U,?_⟩
   refine h.jx U U λw h=>?_;exact hK w (Ow.kA (s:=s) hl h)
  |false=>
   rw[hi]at hK;refine aW U ?_;cases wt with
   |true=>
    refine aU U ⟨_,U,s,h.aF U,?_⟩;refine h.a λd w2 h=>?_;refine eQ (s:=s) (y:=who) h om λs' w hs' h=>⟨_,U,?_⟩
    refine h.jx U U λw h=>?_;exact hK w (Ow.kA (s:=s') (by simp;omega) (by rw[hi]at h;exact h.sub))
   |false=>
    refine aW U ?_;exact hK w (Ow.kA (s:=s) hl h)
end
namespace Th
theorem xn{n:O}{K:W->Pw}{w:Y}(h:K (F (0<=n/\n<256)) w):X2 n K w:=by
 apply Zi;by_cases h0:0<=n
 .have e:F (n>=0)=true:=by simpa using h0
  have e2:F (0<=n/\n<256)=F (n<256):=by simp[h0]
  rw[e,ql];rw[e2]at h;exact h
 .have e:F (n>=0)=false:=by simpa using h0
  have e2:F (0<=n/\n<256)=false:=by simp[h0]
  rw[e,qp];rw[e2]at h;exact h
def KY(b:O)(i:X)(on:W):O:=if on then Hq .u64 (fV .u64 b (iJ .u64 1 i)) (iJ .u64 1 i)else fV .u64 b (iJ .u64 1 i)
def oI(l:J O)(n:X)(on:W):J O:=l.set (n / 64) (KY (l.getD (n / 64) 0) (n%64) on)
theorem wF{B:X}{w0 w:Y}{R:J aH}{b1 b2 b3 b4 n:O}{on:W}{K:O->O->O->O->O->Pw}(h:Ow B w0 w R)(hn0:0<=n)(hn:n<256)
  (hK:∀r1 r2 r3 r4 w',Ow B w0 w' R->[r1,r2,r3,r4]=oI [b1,b2,b3,b4] n.toNat on->K r1 r2 r3 r4 0 w'):XQ b1 b2 b3 b4 n on K w:=by
 apply Zh;refine h.al λw7 h=>?_;refine h.al λw8 h=>?_;apply xn;rw[show F (0<=n/\n<256)=V from by simp[hn0,hn]];simp only[PK,qp];refine h.dr λw9 h=>?_;obtain⟨m,rfl⟩:=Ox hn0;have hq:qd.wrap (((m:X):O).tdiv 64)=((m / 64:X):O):=by rw[Int.tdiv_eq_ediv_of_nonneg om,wr om om];omega
 have hr:((m:X):O).tmod 64=((m%64:X):O):=by rw[Int.tmod_eq_emod_of_nonneg om];omega
 have hq4:m / 64<4:=om
 simp only[Oo]at hK;rw[hq,hr];generalize hQ:m / 64=q at*
 generalize hr':m%64=r at*
 have hq5:q=0\/q=1\/q=2\/q=3:=om
 clear hq hq4;rcases hq5 with rfl|rfl|rfl|rfl<;>
 .refine ⟨qb,qb,qb,_,h.ld 1 U U,qb,om,qb,qb,?_,trivial⟩
  refine h.gh U U λw10 h=>?_;cases on
  .rw[qp]
   refine h.gO U ?_;refine h.ay U U λw11 h=>?_;refine h.gO U ?_;refine hK _ _ _ _ _ h.drop.drop ?_;simp only[oI,hQ,hr'];rfl
  .rw[ql]
   refine h.dr λw11 h=>?_;refine⟨qb,qb,qb,_,h.ld 1 U U,qb,om,qb,qb,?_,trivial⟩;refine h.gh U U λw10 h=>?_;refine h.gO U ?_;refine h.ay U U λw11 h=>?_;refine h.gO U ?_;refine hK _ _ _ _ _ h.drop.drop ?_;simp only[oI,hQ,hr'];rfl
def eS(x:X):X:=if x=0 then 0 else x.log2+1
theorem G8{x n:X}(h1:x<2^n)(h2:n=0\/2^(n-1)<=x):eS x=n:=by
 unfold eS;rcases h2 with rfl|h2
 .have:x=0:=by simpa using h1
  rw[A this]
 .by_cases hn:n=0
  .subst hn;have:x=0:=by simpa using h1
   rw[A this]
  .have hp:0<2^(n-1):=PG _
   rw[Q om,(Sz om).2 ⟨h2,by rw[Nat.sub_add_cancel om];exact h1⟩];omega
theorem xS(x:X):x<2^eS x/\(eS x=0\/2^(eS x-1)<=x):=by
 unfold eS;by_cases h:x=0
 .subst h;simp
 .rw[Q h]
  have:=(Sz h).1 U;exact⟨this.2,.inr this.1⟩
theorem sJ{x k:X}(h:2^k<=x):eS (x / 2^k)+k=eS x:=by
 obtain⟨h1,h2⟩:=xS (x / 2^k);have hp:0<2^k:=PG _;have hd:1<=x / 2^k:=(Nat.one_le_div_iff hp).2 h
 symm
 apply G8
 .rw[S9];exact(Nat.div_lt_iff_lt_mul hp).1 h1
 .right
  rcases h2 with h2|h2
  .rw[h2]at h1;omega
  .have h3:eS (x / 2^k)≠0:=λe=>by rw[e]at h1;omega
   rw[show eS (x / 2^k)+k-1=(eS (x / 2^k)-1)+k from by omega,S9];exact(Nat.le_div_iff_mul_le hp).1 h2
theorem G9{x n:X}(h:x<2^n):eS x<=n:=by
 rcases (xS x).2 with h1|h1
 .omega
 .have h2:2^(eS x-1)<2^n:=Nat.lt_of_le_of_lt h1 h
  have:=(Nat.pow_lt_pow_iff_right (by omega:1<2)).1 h2;omega
theorem JB(x:X)(h:x<256):F9 ⟨#[0,1,2,2,3,3,3,3,4,4,4,4,4,4,4,4,5,5,5,5,5,5,5,5,5,5,5,5,5,5,5,5,6,6,6,6,6,6,6,6,6,6,6,6,6,6,6,6,6,6,6,6,6,6,6,6,6,6,6,6,6,6,6,6,7,7,7,7,7,7,7,7,7,7,7,7,7,7,7,7,7,7,7,7,7,7,7,7,7,7,7,7,7,7,7,7,7,7,7,7,7,7,7,7,7,7,7,7,7,7,7,7,7,7,7,7,7,7,7,7,7,7,7,7,7,7,7,7,8,8,8,8,8,8,8,8,8,8,8,8,8,8,8,8,8,8,8,8,8,8,8,8,8,8,8,8,8,8,8,8,8,8,8,8,8,8,8,8,8,8,8,8,8,8,8,8,8,8,8,8,8,8,8,8,8,8,8,8,8,8,8,8,8,8,8,8,8,8,8,8,8,8,8,8,8,8,8,8,8,8,8,8,8,8,8,8,8,8,8,8,8,8,8,8,8,8,8,8,8,8,8,8,8,8,8,8,8,8,8,8,8,8,8,8,8,8,8,8,8,8,8,8,8,8,8,8]⟩ (x:O) ((eS x:X):O):=by
 have hc:(OC 256).all (λx=>((⟨#[0,1,2,2,3,3,3,3,4,4,4,4,4,4,4,4,5,5,5,5,5,5,5,5,5,5,5,5,5,5,5,5,6,6,6,6,6,6,6,6,6,6,6,6,6,6,6,6,6,6,6,6,6,6,6,6,6,6,6,6,6,6,6,6,7,7,7,7,7,7,7,7,7,7,7,7,7,7,7,7,7,7,7,7,7,7,7,7,7,7,7,7,7,7,7,7,7,7,7,7,7,7,7,7,7,7,7,7,7,7,7,7,7,7,7,7,7,7,7,7,7,7,7,7,7,7,7,7,8,8,8,8,8,8,8,8,8,8,8,8,8,8,8,8,8,8,8,8,8,8,8,8,8,8,8,8,8,8,8,8,8,8,8,8,8,8,8,8,8,8,8,8,8,8,8,8,8,8,8,8,8,8,8,8,8,8,8,8,8,8,8,8,8,8,8,8,8,8,8,8,8,8,8,8,8,8,8,8,8,8,8,8,8,8,8,8,8,8,8,8,8,8,8,8,8,8,8,8,8,8,8,8,8,8,8,8,8,8,8,8,8,8,8,8,8,8,8,8,8,8,8,8,8,8,8,8]⟩:ByteArray)[x]?).map UInt8.toNat==S (eS x))=true:=qa
 have:=List.all_eq_true.1 hc x (List.mem_range.2 h);have:=eq_of_beq this;obtain⟨u,h1,h2⟩:=P4.1 this;exact⟨om,u,by rw[Oo];exact h1,by rw[h2]⟩
theorem mg(x k:X)(hk:k<=64):kS .u64 (x:O) (k:O)=((x / 2^k:X):O):=by unfold kS;rw[Oo,show qq.bits=64 from U,Pv hk];rw[show((2:O)^k)=((2^k:X):O)from by simp];rw[Int.fdiv_eq_ediv_of_nonneg _ (Qp _)];simp
theorem Ol{x:O}(h1:0<=x)(h2:x<256):IntKind.u8.wrap x=x:=by
 have e1:(2:O)^8=256:=qb
 simp only[IntKind.wrap,IntKind.bits,IntKind.signed,e1,P5,OF,qx];omega
theorem nG{x:X}{K:O->Pw}{w:Y}(hx:x<2^64)(h:K ((eS x:X):O) w):Xn (x:O) K w:=by
 apply aaP;intro k2 h2;have hk2:∀(y n:X),y<2^32->eS y+n=eS x->n<=32->k2 (y:O) (n:O) w:=by
  intro y n hy hn hle;apply h2;intro k6 h6;have hk6:∀(y n:X),y<2^16->eS y+n=eS x->n<=48->k6 (y:O) (n:O) w:=by
   intro y n hy hn hle;apply h6;intro k10 h10;have hk10:∀(y n:X),y<2^8->eS y+n=eS x->n<=56->k10 (y:O) (n:O) w:=by intro y n hy hn hle;apply h10;have hl:=G9 hy;rw[Ol om om];refine⟨_,JB y hy,?_⟩;rw[wr (x:=((eS y:X):O)) om om,wr om om];rw[show(n:O)+((eS y:X):O)=((eS x:X):O)from by omega];exact h
   by_cases hc:y>=256
   .rw[show F ((y:O)>=256)=V from by simp;omega,ql]
    refine⟨qb,?_⟩;rw[wr om om,show(8:O)=((8:X):O)from U,mg y 8 om];refine hk10 (y / 2^8) (n+8) ?_ ?_ om
    .have:y<2^8*2^8:=by simpa using hy
     exact Rn this
    .have:=sJ (x:=y) (k:=8) (by simpa using hc);omega
   .rw[show F ((y:O)>=256)=Z from by simp;omega,qp]
    exact hk10 y n (by simp;omega) hn om
  by_cases hc:y>=65536
  .rw[show F ((y:O)>=65536)=V from by simp;omega,ql]
   refine⟨qb,?_⟩;rw[wr om om,show(16:O)=((16:X):O)from U,mg y 16 om];refine hk6 (y / 2^16) (n+16) ?_ ?_ om
   .have:y<2^16*2^16:=by simpa using hy
    exact Rn this
   .have:=sJ (x:=y) (k:=16) (by simpa using hc);omega
  .rw[show F ((y:O)>=65536)=Z from by simp;omega,qp]
   exact hk6 y n (by simp;omega) hn om
 by_cases hc:x>=4294967296
 .rw[show F ((x:O)>=4294967296)=V from by simp;omega,ql]
  refine⟨qb,?_⟩;rw[show(32:O)=((32:X):O)from U,mg x 32 om];refine hk2 (x / 2^32) 32 ?_ ?_ om
  .have:x<2^32*2^32:=by simpa using hx
   exact Rn this
  .have:=sJ (x:=x) (k:=32) (by simpa using hc);omega
 .rw[show F ((x:O)>=4294967296)=Z from by simp;omega,qp]
  exact hk2 x 0 (by simp;omega) om om
theorem FD(x i:X)(on:W)(hx:x<2^64)(hi:i<64):∃y:X,KY (x:O) i on=(y:O)/\y<2^64/\∀j,j<64->y.testBit j=if j=i then on else x.testBit j:=by
 have hs:iJ .u64 1 (i:O)=((2^i:X):O):=by
  unfold iJ;rw[Oo,show qq.bits=64 from U,Pv om,Int.one_mul,show((2:O)^i)=((2^i:X):O)from by simp];have hp:(2:X)^64=18446744073709551616:=qb
  have:2^i<2^64:=Nat.pow_lt_pow_right om hi;rw[hp]at this;generalize 2^i=y at*
  exact K8 (Qp _) om
 have hbv:∀z:X,BitVec.ofInt qq.bits (z:O)=BitVec.ofNat 64 z:=λz=>by apply BitVec.eq_of_toNat_eq;simp[IntKind.bits,BitVec.toNat_ofInt]
 have hwrap:∀z:BitVec 64,qq.wrap ((z.toNat:X):O)=((z.toNat:X):O):=λz=>by
  have hp:(2:X)^64=18446744073709551616:=qb
  have:=z.isLt;rw[hp]at this;exact K8 om om
 have hand:fV .u64 (x:O) ((2^i:X):O)=(((BitVec.ofNat 64 x &&& ~~~ BitVec.ofNat 64 (2^i)).toNat:X):O):=by unfold fV;rw[hbv,hbv];exact hwrap _
 have hgl:∀(z j:X),j<64->(BitVec.ofNat 64 z).getLsbD j=z.testBit j:=λz j hj=>by rw[BitVec.getLsbD_ofNat];simp[hj]
 have htb:∀j,(2^i).testBit j=F (j=i):=λj=>by rw[Nat.testBit_two_pow];exact decide_eq_decide.2 ⟨λh=>h.symm,λh=>h.symm⟩
 unfold KY;rw[hs,hand];cases on with
 |false=>
  refine⟨_,U,(BitVec.ofNat 64 x &&& ~~~ BitVec.ofNat 64 (2^i)).isLt,λj hj=>?_⟩;rw[BitVec.testBit_toNat,BitVec.getLsbD_and,BitVec.getLsbD_not,hgl _ _ hj,hgl _ _ hj,htb];by_cases e:j=i<;>simp[e,hj]
 |true=>
  refine⟨(BitVec.ofNat 64 (BitVec.ofNat 64 x &&& ~~~ BitVec.ofNat 64 (2^i)).toNat ||| BitVec.ofNat 64 (2^i)).toNat,?_,BitVec.isLt _,λj hj=>?_⟩
  .simp only[qz];unfold Hq;rw[hbv,hbv];exact hwrap _
  .rw[BitVec.testBit_toNat,BitVec.getLsbD_or,BitVec.ofNat_toNat,BitVec.setWidth_eq,BitVec.getLsbD_and,BitVec.getLsbD_not,hgl _ _ hj,hgl _ _ hj,htb]
   by_cases e:j=i<;>simp[e,hj]
def iu(f:X->W)(ws:J O):Prop:=ws.length=4/\∀j,j<4->∃x:X,ws[j]?=S (x:O)/\x<2^64/\∀i,i<64->x.testBit i=f (64*j+i)
theorem iu.congr{f g:X->W}{ws:J O}(h:iu f ws)(hfg:∀i,i<256->f i=g i):iu g ws:=
 ⟨h.1,λj hj=>by obtain⟨x,h1,h2,h3⟩:=h.2 j hj;exact⟨x,h1,h2,λi hi=>by rw[h3 i hi,hfg _ om]⟩⟩
theorem iu.set{f:X->W}{ws:J O}(h:iu f ws){n:X}(hn:n<256)(on:W):iu (λi=>if i=n then on else f i) (oI ws n on):=by
 unfold oI;refine⟨by simpa using h.1,λj hj=>?_⟩;obtain⟨x,h1,h2,h3⟩:=h.2 j hj;by_cases e:n / 64=j
 .subst e
  obtain⟨y,h4,h5,h6⟩:=FD x (n%64) on h2 om;refine⟨y,?_,h5,λi hi=>?_⟩
  .rw[O0 (by rw[h.1];exact hj),List.getD_eq_getElem?_getD,h1]
   simp only[Option.getD_some,h4]
  .rw[h6 i hi,h3 i hi]
   show _=if 64*(n / 64)+i=n then on else f (64*(n / 64)+i)
   by_cases e:i=n%64
   .rw[A e,A om]
   .rw[Q e,Q om]
 .refine ⟨x,by rw[List.getElem?_set_ne e];exact h1,h2,λi hi=>?_⟩
  rw[h3 i hi];show _=if 64*j+i=n then on else f (64*j+i)
  rw[Q om]
theorem iu.zero:iu (λ_=>Z) [0,0,0,0]:=by
 refine⟨U,λj hj=>⟨0,?_,qb,λi _=>by simp⟩⟩
 match j,hj with
 |0,_|1,_|2,_|3,_=>rfl
def od(f:X->W):X->qg X
 |0=>I
 |n+1=>if f n then S n else od f n
theorem tn(f:X->W)(a:X):∀(d:X),(∀q,a<=q->q<a+d->f q=Z)->od f (a+d)=od f a
 |0,_=>rfl
 |d+1,h=>by show od f ((a+d)+1)=_;simp only[od,h (a+d) om om,OF,qx];exact tn f a d λq h1 h2=>h q h1 om
theorem JG{f:X->W}{p n:X}(hp:p<n)(hf:f p=V)(h:∀q,p<q->q<n->f q=Z):od f n=S p:=by
 have:=tn f (p+1) (n-(p+1)) λq h1 h2=>h q om om;rw[show p+1+(n-(p+1))=n from by omega]at this;rw[this];simp[od,hf]
theorem BR{f:X->W}:∀{n p:X},od f n=S p->p<n/\f p=V/\∀q,p<q->q<n->f q=Z
 |n+1,p,h=>by
  simp only[od]at h;split at h
  .rename_i hf;cases h;exact⟨om,hf,λq h1 h2=>by omega⟩
  .rename_i hf
   obtain⟨h1,h2,h3⟩:=BR h;refine⟨om,h2,λq h4 h5=>?_⟩;by_cases e:q=n
   .subst e;simpa using hf
   .exact h3 q h4 om
def FO(f:X->W):O:=match od f 256 with|some p=>(p:O)|none=> -1
theorem Hc{x:X}(hx:x≠0):x.testBit x.log2=V/\∀j,x.log2<j->x.testBit j=false:=by
 have h:=(Sz hx).1 U;refine⟨?_,λj hj=>Nat.testBit_lt_two_pow (Nat.lt_of_lt_of_le h.2 (Nat.pow_le_pow_right om hj))⟩;rw[Nat.testBit_eq_decide_div_mod_eq];have:x / 2^x.log2=1:=by
  apply Nat.div_eq_of_lt_le
  .simpa using h.1
  .have:=h.2;rw[Nat.pow_succ]at this;omega
 rw[this];rfl
theorem wG{B:X}{w0 w:Y}{R:J aH}{b1 b2 b3 b4:O}{f:X->W}{K:O->Pw}(h:Ow B w0 w R)(hb:iu f [b1,b2,b3,b4])
  (hK:∀w',Ow B w0 w' R->K (FO f) w'):WK b1 b2 b3 b4 K w:=by
 apply Ze;refine h.al λw1 h=>?_;intro l hl;have key:∀(m t:X),t+m=4->od f 256=od f (64*m)->l (t:O) w1:=by
  intro m;induction m with
  |zero=>
   intro t ht hf;apply hl;rw[show F ((t:O)<4)=Z from by simp;omega,qp];have:FO f= -1:=by unfold FO;rw[hf];rfl
   rw[<-this];exact hK _ h.drop
  |succ m ih=>
   intro t ht hf;apply hl;rw[show F ((t:O)<4)=V from by simp;omega,ql];have hi:qd.wrap (3-(t:O))=(m:O):=by rw[wr om om];omega
   rw[hi];obtain⟨x,h1,h2,h3⟩:=hb.2 m om;have hcell: [Value.int .u64 b1,.y b2,.y b3,.y b4][0+((m:O).toNat*1)]?=S (.y (x:O)):=by rw[Oo,Re,OJ];have:=qw (Option.map (Value.int .u64)) h1;rw[<-OX]at this;exact this
   refine⟨om,om,_,h.ld 0 U hcell,?_⟩;by_cases hx:x=0
   .subst hx
    rw[show(((0:X):O) !=0)=Z from U,qp,wr om om];have h4:=ih (t+1) om (by
     rw[hf,show 64*(m+1)=64*m+64 from by omega];refine tn f (64*m) 64 λq h5 h6=>?_;have:=h3 (q-64*m) om;rw[show 64*m+(q-64*m)=q from by omega]at this;rw[<-this];simp)
    exact h4
   .rw[show((x:O) !=0)=V from by simp[hx],ql]
    refine⟨om,om,_,h.ld 0 U hcell,?_⟩;apply nG h2;obtain⟨h4,h5⟩:=Hc hx;have hlt:x.log2<64:=(Nat.log2_lt hx).2 h2;have htop:od f 256=S (64*m+x.log2):=by
     rw[hf];refine JG om (by rw[<-h3 _ hlt];exact h4) λq h6 h7=>?_;have:=h3 (q-64*m) om;rw[show 64*m+(q-64*m)=q from by omega]at this;rw[<-this];exact h5 _ om
    have hl64:eS x=x.log2+1:=by unfold eS;rw[Q hx]
    rw[hl64,wr (x:=(m:O)*64) om om,wr (x:=(m:O)*64+((x.log2+1:X):O)) om om,wr om om];have:(m:O)*64+((x.log2+1:X):O)-1=FO f:=by unfold FO;rw[htop];simp;omega
    rw[this];exact hK _ h.drop
 exact key 4 0 U U
theorem xv{B:X}{w0 w:Y}{L:J aH}{s:Sl}{xs:J O}{y:O}{c:X}{k:Sl->Pw}(h:Ow B w0 w (aa c [.z y]::L))(i:X)(hL:L[i]?=S (af aB s xs))
  (hbig:xs.length<=1000000000000) (hk:∀s' w',s'.len=xs.length+1->Ow B w0 w' (L.set i (af aB s' (xs++ [y])))->k s' w'):
  ∃s' w',aP qe [22,22] 22 s.v (.slice (S c.p) 1 1) w s' w'/\k s' w':=
 Ow.ID (E:=aB) (y:=y) qH (show qe.info? 3=S qI from by kernel_rfl) (zv:= .z 0) qa qa U qb h i hL (by
  have e:qI.bytes=8:=qa
  rw[e];omega) hk
def Ga(B:X)(w0:Y)(L:J aH)(fv:N)(p:O->W):Prop:=
 ∀(x:O)(w:Y)(ae5:W->Pw),Ow B w0 w L->(∀w',Ow B w0 w' L->ae5 (p x) w')->cT qe fv [.z x] w λen w'=>∃r:W,en= .returned (.bool r)/\ae5 r w'
theorem iU{B:X}{w0 w:Y}{L:J aH}{s:Sl}{xs:J O}{fv:N}{p:O->W}{K:O->Pw}(h:Ow B w0 w L)(i:X)(hi:L[i]?=S (af aB s xs))
  (hbig:xs.length<=1000000000000) (hf:Ga B w0 L fv p)
  (hK:∀w',Ow B w0 w' L->K (match xs.findIdx? p with|some j=>(j:O)|none=> -1) w'):TI s fv K w:=by
 apply YI;intro l hl;have hlen:=h.len i hi;have key:∀(m j:X)(w:Y),j+m=xs.length->(∀q,q<j->∀x,xs[q]?=S x->p x=Z)->Ow B w0 w L->l (j:O) w:=by
  intro m;induction m with
  |zero=>
   intro j w hj hno h;apply hl;rw[hlen,show F ((j:O)<(xs.length:O))=Z from by simp;omega,qp];have:xs.findIdx? p=none:=by rw[Pa];intro x hx;obtain⟨q,hq⟩:=O5.1 hx;exact hno q (by have:=(Om.1 hq).1;omega) x hq
   have:=hK w h
   rwa [‹xs.findIdx? p=I›]at this
  |succ m ih=>
   intro j w hj hno h;apply hl;rw[hlen,show F ((j:O)<(xs.length:O))=V from by simp;omega,ql];have hlt:j<xs.length:=om
   obtain⟨a,ha,hc⟩:=h.GJ i hi (gE hlt);refine⟨a,ha,om,om,_,by rw[Oo];exact hc,?_⟩;refine hf _ _ _ h λw' h=>?_;cases hp:p xs[j]with
   |true=>
    rw[ql];have:xs.findIdx? p=S j:=by rw[OT];refine⟨hlt,hp,λq hq=>?_⟩;simp[hno q hq _ (gE om)]
    have h2:=hK w' h
    rwa [this]at h2
   |false=>
    rw[qp,wr om om];refine ih (j+1) w' om (λq hq x hx=>?_) h;by_cases e:q=j
    .subst e;rw[gE hlt]at hx;cases hx;exact hp
    .exact hno q om x hx
 exact key xs.length 0 w om (λq hq=>by omega) h
theorem ly(xs:J O)(q:O->W)(j:X)(x:O)(hx:xs[j]?=S x):(xs.take (j+1)).filter q=(xs.take j).filter q++if q x then [x]else []:=by rw[OG,hx,O9];congr 1;simp only[Option.toList_some,List.filter_cons,List.filter_nil]
theorem eV{B:X}{w0 w:Y}{L:J aH}{s:Sl}{xs:J O}{fv:N}{p:O->W}{K:Sl->Pw}(h:Ow B w0 w L)(i:X)(hi:L[i]?=S (af aB s xs))
  (hbig:xs.length<=1000000000000) (hf:∀ys,ys.length=xs.length->Ga B w0 (L.set i (af aB s ys)) fv p)
  (hK:∀s' w',Ow B w0 w' (L.set i (af aB s' (xs.filter λx=> !p x)))->K s' w'):UW s fv K w:=by
 apply aah;have hself:∀ae7,L[i]?=S ae7->L.set i ae7=L:=by
  intro ae7 hA;apply O2;intro j;rw[Pb];by_cases e:i=j
  .subst e;rw[A U,A (dq hA),hA]
  .simp[e]
 have hf0:Ga B w0 L fv p:=by have:=hf xs U;rwa [hself _ hi]at this
 have hlen:=h.len i hi;have hspot:=(h.wN i hi).spot;refine iU h i hi hbig hf0 λw1 h=>?_;cases hfi:xs.findIdx? p with
 |none=>
  rw[show((-1:O)== -1)=V from U,ql];have:xs.filter (λx=> !p x)=xs:=by rw[Py];intro x hx;rw[Pa]at hfi;simp[hfi x hx]
  have h2:=hK s w1;rw[this,hself _ hi]at h2;exact h2 h
 |some i0=>
  obtain⟨hi0,hp0,hbefore⟩:=OT.1 hfi;rw[show(((i0:X):O)== -1)=Z from by simp,qp];intro l hl;have hcap:=(h.wN i hi).fK;have key:∀(m j q:X)(ys:J O)(w:Y),j+m=xs.length->ys.length=xs.length->ys.take q=(xs.take j).filter (λx=> !p x)->q<j->q<=ys.length->ys.drop j=xs.drop j->
    Ow B w0 w (L.set i (af aB s ys))->l (q:O) (j:O) w:=by
   intro m;induction m with
   |zero=>
    intro j q ys w hj hys hq hqj hqy hd h;have hi':(L.set i (af aB s ys))[i]?=S (af aB s ys):=by rw[O0 (dq hi)]
    apply hl;rw[hlen,show F ((j:O)<(xs.length:O))=Z from by simp;omega,qp];refine⟨om,om,?_⟩;rw[Oo,<-hlen];have hn:q<=ys.length:=hqy;refine h.clear (P:=qe) (T:=22) (t:=0) (zv:= .z 0) (z0:=0) qH (λw=>qP w) U i hi' hn λw2 h=>?_;refine⟨om,om,?_⟩;have hi2:=O0 (a:=af aB s (ys.take q++Oq (ys.length-q) 0)) (dq hi');have h3:=h.pre i hi2 (n:=q) (by simp;omega);rw[FH _ _ _ hspot];have e1:(ys.take q++Oq (ys.length-q) 0).take q=xs.filter (λx=> !p x):=by rw[PR (by simp;omega),QL,R3,hq,Ou om]
    rw[e1]at h3;simp only[QC]at h3;exact hK _ _ h3
   |succ m ih=>
    intro j q ys w hj hys hq hqj hqy hd h;have hi':(L.set i (af aB s ys))[i]?=S (af aB s ys):=by rw[O0 (dq hi)]
    have hjlt:j<xs.length:=om
    have hyj:ys[j]?=S xs[j]:=by have:=qw (λl=>l[0]?) hd;simp only[OP,Nat.add_zero]at this;rw[this,gE hjlt]
    apply hl;rw[hlen,show F ((j:O)<(xs.length:O))=V from by simp;omega,ql];obtain⟨a,ha,hc⟩:=h.GJ i hi' hyj;refine⟨a,ha,om,om,_,by rw[Oo];exact hc,?_⟩;refine hf ys hys _ _ _ h λw2 h=>?_;have hft:=ly xs (λx=> !p x) j _ (gE hjlt);have hd1:∀zs:J O,zs.drop j=xs.drop j->zs.drop (j+1)=xs.drop (j+1):=λzs hz=>by rw[<-Pz (i:=1) (j:=j),<-Pz (i:=1) (j:=j),hz]
    cases hp:p xs[j]with
    |true=>
     simp only[PK,qp];rw[wr om om];refine ih (j+1) q ys w2 om hys ?_ om hqy (hd1 ys hd) h;rw[hq,hft,hp];simp
    |false=>
     simp only[PN,ql];obtain⟨b,o,hb,_⟩:=h.get i hi' hyj;rw[ha]at hb;cases hb;refine⟨_,ha,om,om,?_⟩;rw[Oo,aO];refine h.N4 i hi' (j:=q) om xs[j] ha U λw3 h=>?_;simp only[QC]at h;rw[wr om om,wr om om];refine ih (j+1) (q+1) _ w3 om (by simpa using hys) ?_ om (by simp;omega) ?_ h
     .rw[hft,hp]
      simp only[PN,qz];rw[OG,O0 om,List.take_set_of_le om,hq];rfl
     .rw[List.drop_set_of_lt om]
      exact hd1 ys hd
  refine key (xs.length-(i0+1)) (i0+1) i0 xs w1 om U ?_ om om U (by rw[hself _ hi];exact h) |> λh=>?_;rw[wI i0 om]
  .exact h
  .rw[ly xs _ i0 _ (gE hi0),hp0]
   simp only[PK,OF,qx,OD]
   symm
   rw[Py];intro x hx;obtain⟨q,hq⟩:=O5.1 hx;rw[List.getElem?_take]at hq;split at hq
   .rename_i hlt
    obtain⟨h4,h5⟩:=Om.1 hq;have:=hbefore q hlt;rw[h5]at this;simpa using this
   .cases hq
end Th
section
variable{B:X}{w0 w:Y}{R L:J aH}{α:Type}{E:dF α}{b:X}{n:oN}
theorem pK{who:O}{K:W->Pw}(h:Ow B w0 w (cj b n::R))(hK:∀r w',Ow B w0 w' (cj b (n.cancel who)::R)->K r w'):XE b.o who K w:=by
 apply aaT;obtain⟨s,hl,h⟩:=h.note;refine h.a λc w1 h=>?_;refine⟨_,U,s,h.aF U,_,U,s,h.aF U,Th.eV (p:=λx=>x==who) h 2 U om (λys hys x w ae5 h hQ=>?_) λs' w h=>?_⟩
 .refine aT ?_
  show Yp x c.p ae5 w;apply aaU;have h2:Ow B w0 w (aa c [.z who]::aa b [.y n.word,.bool n.is,s.v]::af aB s ys::R):=h;exact⟨_,h2.aF U,hQ _ h⟩
 .have h:Ow B w0 w (aa c [.z who]::aa b [.y n.word,.bool n.is,s.v]::af aB s' (n.l.filter λx=> !(x==who))::R):=h
  refine⟨_,U,h.jx U U λw h=>?_⟩;exact⟨_,U,s',h.aF U,hK _ w (Ow.kA (s:=s') (ON (OR _ _) hl) (h.sub:Ow B w0 w (aa b [.y n.word,.bool n.is,s'.v]::af aB s' (n.l.filter λx=> !(x==who))::R)))⟩
theorem aaV{a K w}:Fr (Vu a K w) (∀b:W->Pw,(∀(c:W)(d:Y),(bif c then K I 1 d else ∃(b:Sl)(c:Y),jH qe 250 (.z a) (.z a) d b c/\A2 c [b.v] 252 λa b=>K (S a.p) 0 b)->b c d)->(bif F (a<1)then b V w else b (F (a>64)) w)):=ai func39 .Lb
theorem aaW{a b K w}:Fr (VH a b K w) (TF a b (λa b=>bif a.isNone then K 0 0 Z 130 b else ∃c,a=S c/\∃d,b.z c d/\∀c:Pw,(∀b:Y,(∃c,a=S c/\St b c (.z 3) λa=>K 0 0 Z 0 a)->c b)->(bif d==1 then ∃e,a=S e/\St b e (.z 2) λe=>Dr e λe=>∃f,a=S f/\∃g,e.z (f.add 1) g/\∃f,a=S f/\∃a,e.y (f.add 2) a/\K g a V 0 e else bif d==2 then c b else bif d==3 then c b else K 0 0 Z 0 b)) w):=ai func75 (.v (.v (.y (.v (.x .w)) (.y (.v (.x (.y (.t (S []) (.x (.y (.x (.x (.y (.v .w) (.y (.v .w) (.v .w))))) (.x .g11))) .u) .w))) .w))))
theorem aaX{a b K w}:Fr (TF a b K w) (∀c:W->Pw,(∀(d:W)(e:Y),(bif d then K I e else ∃c,a=S c/\∃a,e.s c a/\∃c,a.a=S c/\0<=b/\b<(a.len:O)/\K (S (c.add (b.toNat*3))) e)->c d e)->(bif F (b<0)then c V w else ∃d,a=S d/\∃a,w.s d a/\c (F (b>=(a.len:O))) w)):=ai func192 .NQ
theorem aaY{a b c d K w}:Fr (WZ a b c d K w) (TF a b (λa b=>bif a.isNone then K 130 b else bif F (c<0)then K 1 b else ∃e,a=S e/\∃f,b.z e f/\bif f !=0 then K 131 b else ∃e,a=S e/\aD b e 0 [.z 1,.z c,.y d] λa=>K 0 a) w):=ai func273 (.v (.v (.y (.x (.v .ML)) (.v .w))))
theorem aaZ{a b K w}:Fr (W0 a b K w) (TF a b (λa b=>bif a.isNone then K 0 0 Z 130 b else ∃c,a=S c/\∃d,b.z c d/\bif d==3 then ∃c,a=S c/\St b c (.z 2) λc=>Dr c λc=>∃e,a=S e/\∃f,c.z (e.add 1) f/\∃e,a=S e/\∃g,c.y (e.add 2) g/\K f g V 0 c else bif d==2 then ∃c,a=S c/\St b c (.z 1) λa=>K 0 0 Z 0 a else K 0 0 Z 0 b) w):=ai func274 (.v (.v (.y (.v (.x .w)) (.y (.v (.x (.v (.y .g11 (.v .w))))) .w))))
theorem aa0{a b c d K w}:Fr (Vj a b c d K w) (A2 w [.z a,.z b,.z c,d.v] 24 λa b=>av b a.p 0 [.o,.o,.o,.s] λ(c d e:O)(f:Sl)=>Vs c d e f (λb c=>bif !b then K I 1 c else ∀b:qg qf->Pw,(∀(c:qg qf)(d:Y),(∃b,d.z a.p b/\Vt b (λb _ d=>∃e,c=S e/\St d (e.add 2) (.pointer b) λb=>Vu 8 (λb _ d=>∃e,c=S e/\St d (e.add 3) (.pointer b) λb=>∃d,c=S d/\∃e,b.q d e/\Ue e 6 (λ_ _ b=>Su c 0 2 0 (λb d=>Su c b 1 0 (λb d=>∃e,d.s (a.p.add 3) e/\∀f:O->O->Pw,(∀(b d:O)(g:Y),(bif F (d<(e.len:O))then ∃h,e.a=S h/\0<=d/\d<(e.len:O)/\∃e,g.z (h.add (d.toNat*1)) e/\∃h,c=S h/\∃i,g.q (h.add 2) i/\S3 i e d (λa _ e=>∃g,c=S g/\∃h,e.q (g.add 2) h/\S5 h a (λ_ e=>∃g,c=S g/\∃h,e.q (g.add 2) h/\S7 h d (λ_ _ e=>Su c b 3 a (λa b=>f a (qd.wrap (d+1)) b) e) e) e) g else Su c b 8 0 (λb d=>∃e,d.z (a.p.add 2) e/\∀a:O->O->Pw,(∀(b d:O)(f:Y),(bif F (d<e)then Su c b 9 d (λb c=>a b (qd.wrap (d+1)) c) f else K c 0 f)->a b d f)->a b 0 d) g)->f b d g)->f b 0 d) d) b) b) b) d)->b c d)->(Dr c λc=>∃d,c.z (a.p.add 1) d/\∃e,c.z a.p e/\(Ud (λc f=>f.z a.p e/\f.z (a.p.add 1) d/\(Tw (λf g=>g.z a.p e/\g.z (a.p.add 1) d/\(A2 g [.y 0,.z d,.y 0] 98 λd g=>(Ss (λg h=>h.z a.p e/\(A2 h [.pointer g] 99 λa g=>(A2 g [.pointer c,.pointer f,.pointer I,.pointer I,.slice (S d.p) 1 1,.slice I 0 0,.slice I 0 0,.slice (S a.p) 1 1,.z 0,.z 0,.z 1,.z e] 107 λa c=>b (S a.p) c)/\G)/\G) g)/\G)/\(Ss (λg h=>h.z a.p e/\h.z (a.p.add 1) d/\(A2 h [.y 0,.z d,.y 0] 98 λa d=>(A2 d [.pointer g] 99 λd g=>(A2 g [.pointer c,.pointer f,.pointer I,.pointer I,.slice (S a.p) 1 1,.slice I 0 0,.slice I 0 0,.slice (S d.p) 1 1,.z 0,.z 0,.z 1,.z e] 107 λa c=>b (S a.p) c)/\G)/\G)/\(A2 h [.pointer g] 99 λa g=>(A2 g [.y 0,.z d,.y 0] 98 λd g=>(A2 g [.pointer c,.pointer f,.pointer I,.pointer I,.slice (S d.p) 1 1,.slice I 0 0,.slice I 0 0,.slice (S a.p) 1 1,.z 0,.z 0,.z 1,.z e] 107 λa c=>b (S a.p) c)/\G)/\G)/\G) g)/\G) f)/\(A2 f [.y 0,.z d,.y 0] 98 λd f=>(Tw (λf g=>g.z a.p e/\(Ss (λg h=>h.z a.p e/\(A2 h [.pointer g] 99 λa g=>(A2 g [.pointer c,.pointer f,.pointer I,.pointer I,.slice (S d.p) 1 1,.slice I 0 0,.slice I 0 0,.slice (S a.p) 1 1,.z 0,.z 0,.z 1,.z e] 107 λa c=>b (S a.p) c)/\G)/\G) g)/\G) f)/\G)/\G) c)/\(A2 c [.y 0,.z d,.y 0] 98 λc d=>(Ud (λd f=>f.z a.p e/\(Tw (λf g=>g.z a.p e/\(Ss (λg h=>h.z a.p e/\(A2 h [.pointer g] 99 λa g=>(A2 g [.pointer d,.pointer f,.pointer I,.pointer I,.slice (S c.p) 1 1,.slice I 0 0,.slice I 0 0,.slice (S a.p) 1 1,.z 0,.z 0,.z 1,.z e] 107 λa c=>b (S a.p) c)/\G)/\G) g)/\G) f)/\G) d)/\G)/\G)) b):=ai func7 (.v (.y (.v (.x .w)) (.y (.r (S [(4,.c .p)]) (.o 2 963 (.o 8 251 (.hold 3 707 6111 (.o 4 707 (.hold 9 227 6143 (.f 0 (.f 1 (.f 5 (.e 6 .MH) (.e 6 (.f 5 .MH (.e 7 (.e 5 .LF))))) (.e 5 .NU)) (.e 5 (.e 0 .NU))))))))) (.v (.v (.v (.v (.v (.y (.v (.x (.t (S [(5,.c (.i .i64)),(55,.c (.i .i64))]) (.v (.y .w (.x (.x (.v (.v (.v .w))))))) .u))) (.v (.y (.v (.x (.t (S [(5,.c (.i .i64)),(92,.c (.i .i64))]) .Iq .u))) .w)))))))))))
theorem aa1{a b c d e f g h K w}:Fr (Vl a b c d e f g h K w) (A2 w [.z c,.z d,.z e,.z f,.z g,.z h] 36 λc d=>A2 d [.z 0,.y 0,.z 0,.slice I 0 0] 42 λd e=>av e c.p 0 [.o,.o,.o,.o,.o,.o] λ(f g h i j k:O)=>A2 e [.pointer a,.z b,.z 0,.z f,.z g,.z h,.z i,.z j,.z k,.z 0,.z 0,.z 0,.z 0,.z 0,.y 0,.y 0,.z 0,.z 0,.y 0,.z (-1),.slice I 0 0] 159 λe f=>∃g,a=S g/\∃h,f.q (g.add 2) h/\S7 h b (λf g h=>∃i,S e.p=S i/\St h (i.add 2) (.z f) λf=>∀h:Pw,(∀a:Y,(∃b,S e.p=S b/\av a (b.add 17) 0 [.o,.u,.o,.s] λ(b c e:O)(f:Sl)=>aD a d.p 0 [.z b,.y c,.z e,f.v] λa=>av a d.p 0 [.o,.u,.o,.s] λ(b c d:O)(e:Sl)=>K b c d e a)->h a)->(bif !g then ∃d,S e.p=S d/\St f (d.add 17) (.z 182) λd=>h d else ∀d:W->Pw,(∀(f:W)(g:Y),(bif f then ∃d,S e.p=S d/\St g (d.add 17) (.z 180) λd=>h d else ∃d,g.z c.p d/\bif d==17 then ∃c,a=S c/\∃a,g.q (c.add 2) a/\Ui a b (λ_ a=>h a) g else VA (S e.p) (λa b=>∃c,S e.p=S c/\St b (c.add 17) (.z a) λa=>h a) g)->d f g)->(∃a,f.z c.p a/\bif F (a<0)then d V f else ∃a,f.z c.p a/\d (F (a>=18)) f))) f):=ai func10 (.v (.v (.v (.v (.y (.x (.v (.t (S []) .u (.y .MT (.v (.v .w)))))) .w)))))
theorem aa2{a b K w}:Fr (Vn a b K w) (∃c,a=S c/\∃d,w.q (c.add 3) d/\VH d b (λb c d e f=>bif !d then K (-1) e f else Tz a b c (λa b=>K a e b) f) w):=ai func13 .Kv
theorem aa3{a b K w}:Fr (Vp a b K w) (∃c,a=S c/\∃a,w.q (c.add 2) a/\VJ a b (λa b=>K a b) w):=ai func15 (.v .w)
theorem aa4{a b c d K w}:Fr (Vs a b c d K w) (A2 w [.z a,.z b,.z c,d.v] 24 λa b=>∀c:W->Pw,(∀(b:W)(d:Y),(bif b then ∃b,d.s (a.p.add 3) b/\∃c,d.z a.p c/\bif (b.len:O)==c then ∃b,d.s (a.p.add 3) b/\VT b (.func (.func 116) #[] #[]) (λa b=>K (!a) b) d else K Z d else K Z d)->c b d)->(∃d,b.z a.p d/\bif F (d>=1)then ∃d,b.z a.p d/\bif F (d<=8)then ∃d,b.z (a.p.add 1) d/\bif F (d>=4)then ∃d,b.z (a.p.add 1) d/\bif F (d<=20)then ∃d,b.z (a.p.add 2) d/\bif F (d>=0)then ∃d,b.z (a.p.add 2) d/\c (F (d<=8)) b else c Z b else c Z b else c Z b else c Z b else c Z b)):=ai func34 (.v (.v (.y (.r (S [(4,.c .b)]) .done) .w)))
theorem aa5{a b c d K w}:Fr (Su a b c d K w) (A2 w [.z 0,.z 0] 155 λe f=>aD f e.p 0 [.z 0,.z b] λf=>Dr f λf=>∃g,a=S g/\∃h,f.q g h/\av f e.p 0 [.o,.o] λ(g i:O)=>(Ul h g i c d 7 0 0 0 (λ_ c=>Dr c λc=>∃d,a=S d/\∃a,c.q (d.add 1) a/\av c e.p 0 [.o,.o] λ(d e:O)=>(VW a d e (λ_ a=>K (qd.wrap (b+1)) a) c)/\G) f)/\G):=ai func41 (.v (.v (.y .g21 .NF)))
theorem aa6{a K w}:Fr (Vx a K w) (∃b,a=S b/\∃a,w.q b a/\Uq a (λa b=>K a b) w):=ai func52 (.v .w)
theorem aa7{a b K w}:Fr (Uh a b K w) (∃c,a=S c/\∃d,w.s (c.add 7) d/\X9 d b (λc d=>bif !c then K z0 d else ∃c,a=S c/\∃a,d.s (c.add 7) a/\∃c,a.a=S c/\0<=b/\b<(a.len:O)/\∃a,d.q (c.add (b.toNat*1)) a/\Us a (λa b=>K a b) d) w):=ai func63 .Ir
theorem aa8{a K w}:Fr (VA a K w) (∃b,a=S b/\∃c,w.z (b.add 3) c/\V0 c (λb c d=>A2 d [.z 0,.z 0] 283 λd e=>aD e d.p 0 [.z b,.z c] λb=>∀c:qf->qf->W->Pw,(∀(b e:qf)(f:W)(g:Y),(∀c:W->Pw,(∀(d:W)(f:Y),(bif d then K 181 f else Dr f λc=>av c b 0 [.o,.o] λ(b d:O)=>∃f,a=S f/\av c e 0 [.o,.o,.o,.u,.u,.o] λ(g h i j k l:O)=>(aD c (f.add 9) 0 [.z b,.z d] λb=>zP b e 0 [.z g,.z h,.z i,.y j,.y k,.z l] (∃c,a=S c/\(aD b (c.add 11) 0 [.z g,.z h,.z i,.y j,.y k,.z l] λb=>Al b (.map #[] 0) λc=>∃d:Y,gK qe 287 (.map (S b.heap.size)) (.z 0) (.func (.func 150) #[.pointer a] #[]) c d/\∃c:Y,gK qe 287 (.map (S b.heap.size)) (.z 1) (.func (.func 151) #[.pointer a] #[]) d c/\∃d:Y,gK qe 287 (.map (S b.heap.size)) (.z 2) (.func (.func 152) #[.pointer a] #[]) c d/\∃c:Y,gK qe 287 (.map (S b.heap.size)) (.z 3) (.func (.func 153) #[.pointer a] #[]) d c/\∃d:Y,gK qe 287 (.map (S b.heap.size)) (.z 4) (.func (.func 154) #[.pointer a] #[]) c d/\∃c:Y,gK qe 287 (.map (S b.heap.size)) (.z 5) (.func (.func 155) #[.pointer a] #[]) d c/\∃d:Y,gK qe 287 (.map (S b.heap.size)) (.z 6) (.func (.func 156) #[.pointer a] #[]) c d/\∃c:Y,gK qe 287 (.map (S b.heap.size)) (.z 7) (.func (.func 157) #[.pointer a] #[]) d c/\∃d:Y,gK qe 287 (.map (S b.heap.size)) (.z 8) (.func (.func 158) #[.pointer a] #[]) c d/\∃c:Y,gK qe 287 (.map (S b.heap.size)) (.z 9) (.func (.func 159) #[.pointer a] #[]) d c/\∃d:Y,gK qe 287 (.map (S b.heap.size)) (.z 10) (.func (.func 160) #[.pointer a] #[]) c d/\∃c:Y,gK qe 287 (.map (S b.heap.size)) (.z 11) (.func (.func 161) #[.pointer a] #[]) d c/\∃d:Y,gK qe 287 (.map (S b.heap.size)) (.z 12) (.func (.func 162) #[.pointer a] #[]) c d/\∃c:Y,gK qe 287 (.map (S b.heap.size)) (.z 13) (.func (.func 163) #[.pointer a] #[]) d c/\∃d:Y,gK qe 287 (.map (S b.heap.size)) (.z 14) (.func (.func 164) #[.pointer a] #[]) c d/\∃c:Y,gK qe 287 (.map (S b.heap.size)) (.z 15) (.func (.func 165) #[.pointer a] #[]) d c/\∃d:Y,gK qe 287 (.map (S b.heap.size)) (.z 16) (.func (.func 166) #[.pointer a] #[]) c d/\∃c,a=S c/\∃a,d.z (c.add 3) a/\∃c:N,z7 qe 287 (.map (S b.heap.size)) (.z a) (c) d/\cT qe (c) [] d λa b=>∃c,a= .returned (.z c)/\K c b)/\G))/\G)->c d f)->(bif !f then c V g else ∃a,g.z (e.add 2) a/\∃b,g.z (d.p.add 1) b/\∃e,g.z (d.p.add 1) e/\c ((da .i64 a b) !=e) g))->c b e f g)->(Dr b λb=>∃e,a=S e/\∃f,b.q e f/\∃e,a=S e/\∃a,b.z ((e.add 3).add 1) a/\∃e,b.z d.p e/\(Rq f a e (λa b d e f g h i j k=>(A2 k [.z 0,.z 0] 155 λk l=>(A2 l [.z 0,.z 0,.z 0,.y 0,.y 0,.z 0] 157 λl m=>(aD m k.p 0 [.z a,.z b] λa=>(aD a l.p 0 [.z d,.z e,.z f,.y g,.y h,.z i] λa=>c k.p l.p j a)/\G)/\G)/\G)/\(A2 k [.z 0,.z 0,.z 0,.y 0,.y 0,.z 0] 157 λk l=>(A2 l [.z 0,.z 0] 155 λl m=>(aD m l.p 0 [.z a,.z b] λa=>(aD a k.p 0 [.z d,.z e,.z f,.y g,.y h,.z i] λa=>c l.p k.p j a)/\G)/\G)/\G)/\G) b)/\(A2 b [.z 0,.z 0] 155 λb d=>(Rq f a e (λa d e f g h i j k l=>(A2 l [.z 0,.z 0,.z 0,.y 0,.y 0,.z 0] 157 λl m=>(aD m b.p 0 [.z a,.z d] λa=>(aD a l.p 0 [.z e,.z f,.z g,.y h,.y i,.z j] λa=>c b.p l.p k a)/\G)/\G)/\G) d)/\(A2 d [.z 0,.z 0,.z 0,.y 0,.y 0,.z 0] 157 λd g=>(Rq f a e (λa e f g h i j k l m=>(aD m b.p 0 [.z a,.z e] λa=>(aD a d.p 0 [.z f,.z g,.z h,.y i,.y j,.z k] λa=>c b.p d.p l a)/\G)/\G) g)/\G)/\G)/\(A2 b [.z 0,.z 0,.z 0,.y 0,.y 0,.z 0] 157 λb d=>(Rq f a e (λa d e f g h i j k l=>(A2 l [.z 0,.z 0] 155 λl m=>(aD m l.p 0 [.z a,.z d] λa=>(aD a b.p 0 [.z e,.z f,.z g,.y h,.y i,.z j] λa=>c l.p b.p k a)/\G)/\G)/\G) d)/\(A2 d [.z 0,.z 0] 155 λd g=>(Rq f a e (λa e f g h i j k l m=>(aD m d.p 0 [.z a,.z e] λa=>(aD a b.p 0 [.z f,.z g,.z h,.y i,.y j,.z k] λa=>c d.p b.p l a)/\G)/\G) g)/\G)/\G)/\G)) w):=ai func67 (.v (.v (.y (.r (S [(4,.c .q),(5,.c .q),(6,.c .b)]) (.o 0 198640 (.o 1 198640 (.o 2 198640 (.o 3 198640 (.o 4 198144 (.o 5 198144 (.o 6 198144 (.o 7 198144 (.o 8 198144 (.o 9 196608 (.o 10 196608 (.f 11 (.o 12 196608 (.o 13 245760 (.o 14 491520 (.o 15 983040 (.f 16 (.e 17 .Lc) (.e 17 (.e 16 .Lc))))))) (.f 16 (.f 11 (.o 12 131072 (.o 13 180224 (.o 14 425984 (.o 15 917504 (.e 17 .Lc))))) (.e 17 .Nt)) (.e 17 (.f 11 (.o 12 65536 (.o 13 114688 (.o 14 360448 (.o 15 851968 (.e 16 .Lc))))) (.e 16 .Nt))))))))))))))))) (.y (.y (.r (S [(41,.c .b)]) .done) (.x .w)) (.y (.z (.o 0 14 (.o 1 124 (.o 2 8 .NH)))) (.v .w))))))
theorem aa9{a b c K w}:Fr (Tz a b c K w) (∃d,a=S d/\∃e,w.s (d.add 6) e/\∃d,e.a=S d/\0<=b/\b<(e.len:O)/\∃e,w.q (d.add (b.toNat*1)) e/\Wy e c (λb c d e=>bif !d then K (-1) e else ∃d,a=S d/\∃f,e.q (d.add 2) f/\TG f b 0 c (λ_ c=>∃d,a=S d/\∃a,c.q (d.add 2) a/\S5 a b (λ_ a=>K b a) c) e) w):=ai func76 (.v .Md)
theorem aba{a K w}:Fr (X8 a K w) (bif F (a<0)then K V w else K (F (a>=256)) w):=ai func116 (.v .w)
theorem abb{a b K w}:Fr (X9 a b K w) (bif F (b>=0)then K (F (b<(a.len:O))) w else K Z w):=ai func146 (.v .w)
theorem abc{a K w}:Fr (V0 a K w) (A2 w [.z 0,.z 0] 283 λb c=>A2 c [.z 0,.z 0,.z 0,.z 0,.z 0,.z 0,.z 0,.z 0,.z 0,.z 0,.z 0,.z 0,.z 0,.z 0,.z 0,.z 0,.z 0,.z 0,.z 0,.z 0,.z 0,.z 0,.z 0,.z 0,.z 0,.z 0,.z 0,.z 0,.z 0,.z 0,.z 0,.z 0,.z 0,.z 0,.z 0,.z 0] 390 λc d=>aD d c.p 0 [.z 1,.z 0,.z 0,.z 0,.z 0,.z 0,.z 0,.z 0,.z 0,.z 0,.z 3,.z 0,.z 3,.z 0,.z 3,.z 0,.z 4,.z 2,.z 4,.z 1,.z 5,.z 2,.z 5,.z 1,.z 7,.z 0,.z 6,.z 0,.z 8,.z 0,.z 9,.z 0,.z 9,.z 0,.z 0,.z 0] λd=>0<=a/\a<18/\av d (c.p.add (a.toNat*2)) 0 [.o,.o] λ(a c:O)=>aD d b.p 0 [.z a,.z c] λa=>av a b.p 0 [.o,.o] λ(b c:O)=>K b c a):=ai func148 (.v (.v .w))
theorem abd{a b c K w}:Fr (Rq a b c K w) (A2 w [.z 0,.z 0] 155 λd e=>A2 e [.z 0,.z 0,.z 0,.y 0,.y 0,.z 0] 157 λe f=>TM a b (λb f g h=>A2 h [.z 0,.z 0] 155 λh i=>aD i h.p 0 [.z b,.z f] λb=>∀f:qf->Pw,(∀(a:qf)(b:Y),(Dr b λb=>av b h.p 0 [.o,.o] λ(f h:O)=>bif g then ∃g,b.z a g/\bif g !=0 then bif c==0 then av b a 0 [.o,.o,.o,.u,.u,.o] λ(g i j k l m:O)=>((aD b d.p 0 [.z f,.z h] λb=>zP b a 0 [.z g,.z i,.z j,.y k,.y l,.z m] ((aD b e.p 0 [.z g,.z i,.z j,.y k,.y l,.z m] λa=>av a d.p 0 [.o,.o] λ(b c:O)=>av a e.p 0 [.o,.o,.o,.u,.u,.o] λ(d e f g h i:O)=>K b c d e f g h i V a)/\G))/\G)/\(aD b d.p 0 [.z f,.z h] λb=>zP b a 0 [.z g,.z i,.z j,.y k,.y l,.z m] (((aD b e.p 0 [.z g,.z i,.z j,.y k,.y l,.z m] λa=>av a d.p 0 [.o,.o] λ(b c:O)=>av a e.p 0 [.o,.o,.o,.u,.u,.o] λ(d e f g h i:O)=>K b c d e f g h i V a)/\G)/\(aD b e.p 0 [.z g,.z i,.z j,.y k,.y l,.z m] λa=>av a d.p 0 [.o,.o] λ(b c:O)=>av a e.p 0 [.o,.o,.o,.u,.u,.o] λ(d e f g h i:O)=>K b c d e f g h i V a)/\G))/\G else av b a 0 [.o,.o,.o,.u,.u,.o] λ(g i j k l m:O)=>(∃n,b.z a n/\(aD b d.p 0 [.z f,.z h] λb=>zP b a 0 [.z g,.z i,.z j,.y k,.y l,.z m] ((aD b e.p 0 [.z g,.z i,.z j,.y k,.y l,.z m] λa=>av a d.p 0 [.o,.o] λ(b d:O)=>av a e.p 0 [.o,.o,.o,.u,.u,.o] λ(e f g h i j:O)=>K b d e f g h i j (n==c) a)/\G))/\G)/\(aD b d.p 0 [.z f,.z h] λb=>zP b a 0 [.z g,.z i,.z j,.y k,.y l,.z m] ((∃f,b.z a f/\(aD b e.p 0 [.z g,.z i,.z j,.y k,.y l,.z m] λa=>av a d.p 0 [.o,.o] λ(b d:O)=>av a e.p 0 [.o,.o,.o,.u,.u,.o] λ(e g h i j k:O)=>K b d e g h i j k (f==c) a)/\G)/\(aD b e.p 0 [.z g,.z i,.z j,.y k,.y l,.z m] λb=>∃f,b.z a f/\av b d.p 0 [.o,.o] λ(a d:O)=>av b e.p 0 [.o,.o,.o,.u,.u,.o] λ(e g h i j k:O)=>K a d e g h i j k (f==c) b)/\G))/\G else av b a 0 [.o,.o,.o,.u,.u,.o] λ(c g i j k l:O)=>((aD b d.p 0 [.z f,.z h] λb=>zP b a 0 [.z c,.z g,.z i,.y j,.y k,.z l] ((aD b e.p 0 [.z c,.z g,.z i,.y j,.y k,.z l] λa=>av a d.p 0 [.o,.o] λ(b c:O)=>av a e.p 0 [.o,.o,.o,.u,.u,.o] λ(d e f g h i:O)=>K b c d e f g h i Z a)/\G))/\G)/\(aD b d.p 0 [.z f,.z h] λb=>zP b a 0 [.z c,.z g,.z i,.y j,.y k,.z l] (((aD b e.p 0 [.z c,.z g,.z i,.y j,.y k,.z l] λa=>av a d.p 0 [.o,.o] λ(b c:O)=>av a e.p 0 [.o,.o,.o,.u,.u,.o] λ(d e f g h i:O)=>K b c d e f g h i Z a)/\G)/\(aD b e.p 0 [.z c,.z g,.z i,.y j,.y k,.z l] λa=>av a d.p 0 [.o,.o] λ(b c:O)=>av a e.p 0 [.o,.o,.o,.u,.u,.o] λ(d e f g h i:O)=>K b c d e f g h i Z a)/\G))/\G else av b a 0 [.o,.o,.o,.u,.u,.o] λ(c g i j k l:O)=>((aD b d.p 0 [.z f,.z h] λb=>zP b a 0 [.z c,.z g,.z i,.y j,.y k,.z l] ((aD b e.p 0 [.z c,.z g,.z i,.y j,.y k,.z l] λa=>av a d.p 0 [.o,.o] λ(b c:O)=>av a e.p 0 [.o,.o,.o,.u,.u,.o] λ(d e f g h i:O)=>K b c d e f g h i Z a)/\G))/\G)/\(aD b d.p 0 [.z f,.z h] λb=>zP b a 0 [.z c,.z g,.z i,.y j,.y k,.z l] (((aD b e.p 0 [.z c,.z g,.z i,.y j,.y k,.z l] λa=>av a d.p 0 [.o,.o] λ(b c:O)=>av a e.p 0 [.o,.o,.o,.u,.u,.o] λ(d e f g h i:O)=>K b c d e f g h i Z a)/\G)/\(aD b e.p 0 [.z c,.z g,.z i,.y j,.y k,.z l] λa=>av a d.p 0 [.o,.o] λ(b c:O)=>av a e.p 0 [.o,.o,.o,.u,.u,.o] λ(d e f g h i:O)=>K b c d e f g h i Z a)/\G))/\G)->f a b)->(Dr b λb=>∃c,a=S c/\∃a,b.q c a/\av b h.p 0 [.o,.o] λ(c d:O)=>(R6 a c d (λa b c d e g _ h=>(A2 h [.z 0,.z 0,.z 0,.y 0,.y 0,.z 0] 157 λh i=>(aD i h.p 0 [.z a,.z b,.z c,.y d,.y e,.z g] λa=>f h.p a)/\G)/\G) b)/\(A2 b [.z 0,.z 0,.z 0,.y 0,.y 0,.z 0] 157 λb e=>(R6 a c d (λa c d e g h _ i=>(aD i b.p 0 [.z a,.z c,.z d,.y e,.y g,.z h] λa=>f b.p a)/\G) e)/\G)/\G)) f):=ai func149 (.v (.v (.y (.r (S [(11,.c .q)]) .g6) (.x (.z (.o 0 262142 (.o 2 2 (.o 3 2 (.o 4 2 (.o 5 2 (.o 6 2 (.o 7 2 (.o 8 2 (.o 9 2 (.o 10 2 (.o 11 2 (.o 12 802818 (.o 14 794626 (.hold 1 499712 1572863 (.f 13 (.o 15 786432 (.o 16 786432 (.o 17 786432 .Lc))) (.e 18 (.f 13 (.o 15 524288 (.o 16 524288 (.o 17 524288 (.e 19 (.o 20 0 .done))))) (.e 19 (.o 13 0 (.o 15 0 (.o 16 0 (.o 17 0 (.o 20 0 .done))))))))))))))))))))))))))))
theorem abe{a K w}:Fr (V1 a K w) (∃b,a=S b/\av w (b.add 3) 0 [.o,.o,.o,.o,.o,.o] λ(b c d e f g:O)=>A2 w [.z 0,.z 0,.z 0,.z 0,.z 0,.z 0] 36 λh i=>aD i h.p 0 [.z b,.z c,.z d,.z e,.z f,.z g] λb=>∀c:Sl->qf->O->Pw,(∀(b:Sl)(d:qf)(e:O)(f:Y),(bif e !=0 then K e f else ∃c,f.z (h.p.add 5) c/\TN a c (λc e f=>bif e !=0 then K e f else ∀e:W->Pw,(∀(f:W)(g:Y),(bif f then K 2 g else Dr g λe=>∃f,a=S f/\∃g,e.q f g/\∃f,g=S f/\∃g,e.s (f.add 4) g/\∃f,a=S f/\∃i,e.z ((f.add 11).add 1) i/\av e d 0 [.u,.o,.u] λ(d f j:O)=>∃k,g.a=S k/\0<=i/\i<(g.len:O)/\(aD e (k.add (i.toNat*3)) 0 [.y d,.z f,.y j] λd=>∀e:O->Pw,(∀(d:O)(f:Y),(bif F (d<(c.len:O))then ∃g,c.a=S g/\0<=d/\d<(c.len:O)/\av f (g.add (d.toNat*2)) 0 [.o,.o] λ(c g:O)=>A2 f [.z 0,.z 0] 155 λi j=>aD j i.p 0 [.z c,.z g] λc=>Dr c λc=>∃g,b.a=S g/\0<=d/\d<(b.len:O)/\∃b,c.y (g.add (d.toNat*1)) b/\av c i.p 0 [.o,.o] λ(g j:O)=>∃k,c.z (h.p.add 3) k/\(WR a b (λb c=>c.z (h.p.add 3) k/\zP c i.p 0 [.z g,.z j] ((UD a g j k b 7 0 0 0 (λa=>e (qd.wrap (d+1)) a) c)/\G)) c)/\G else K 0 f)->e d f)->e 0 d)/\G)->e f g)->(Dr f λb=>∃c,b.z (h.p.add 3) c/\bif c==2 then ∃c,a=S c/\∃d,b.q c d/\∃c,d=S c/\∃d,b.z (c.add 10) d/\∃c,b.z (h.p.add 5) c/\bif F ((qd.wrap (d+c))>64)then e V b else ∃c,b.z (h.p.add 3) c/\bif c==3 then ∃c,a=S c/\∃d,b.q c d/\∃c,d=S c/\∃d,b.z (c.add 11) d/\∃c,b.z (h.p.add 5) c/\e (F ((qd.wrap (d+c))>64)) b else e Z b else ∃c,b.z (h.p.add 3) c/\bif c==3 then ∃c,a=S c/\∃a,b.q c a/\∃c,a=S c/\∃a,b.z (c.add 11) a/\∃c,b.z (h.p.add 5) c/\e (F ((qd.wrap (a+c))>64)) b else e Z b)) f)->c b d e f)->(Dr b λb=>∃d,a=S d/\∃e,b.q d e/\∃d,e=S d/\∃e,b.s (d.add 4) e/\∃d,a=S d/\∃a,b.z ((d.add 11).add 1) a/\∃d,e.a=S d/\0<=a/\a<(e.len:O)/\av b (d.add (a.toNat*3)) 0 [.u,.o,.u] λ(a d e:O)=>∃f,b.z (h.p.add 3) f/\∃g,b.z (h.p.add 4) g/\∃i,b.z (h.p.add 5) i/\(UC a d e f g i (λa b d e f g=>(A2 g [.y 0,.z 0,.y 0] 98 λg h=>(aD h g.p 0 [.y b,.z d,.y e] λb=>c a g.p f b)/\G)/\G) b)/\(A2 b [.y 0,.z 0,.y 0] 98 λb h=>(UC a d e f g i (λa d e f g h=>(aD h b.p 0 [.y d,.z e,.y f] λd=>c a b.p g d)/\G) h)/\G)/\G)):=ai func150 (.v (.v (.y (.r (S [(4,.c .s),(5,.c .q),(6,.c (.i .i64))]) (.o 0 34590592 (.o 1 34590592 (.o 2 34590592 (.o 3 34590592 (.o 4 34590592 (.o 5 34590592 (.o 6 34590592 (.o 7 34586624 (.o 8 34586624 (.o 9 34586624 (.o 10 34586624 (.o 11 34586624 (.o 12 34586624 (.o 13 34586624 (.o 14 34537472 (.o 15 34537472 (.o 16 34340864 (.o 17 34340864 (.o 18 33554432 (.o 19 33554432 (.f 20 (.o 21 33554432 (.o 22 58720256 (.o 23 117440512 (.o 24 234881024 (.e 25 (.o 26 0 (.e 27 (.o 28 0 .done)))))))) (.e 25 (.e 20 (.o 21 0 (.o 22 25165824 (.o 23 83886080 (.o 24 201326592 (.o 26 0 (.e 27 (.o 28 0 .done))))))))))))))))))))))))))))))) (.y (.v (.x .w)) (.v (.y (.v (.x .w)) (.y (.y (.r (S [(85,.c .b)]) (.o 0 0 (.o 1 0 (.o 2 0 (.o 3 0 (.o 4 6144 (.o 5 6144 (.o 6 6144 (.o 7 6144 (.o 8 6144 (.o 9 6144 (.o 10 6144 (.o 11 0 (.o 12 0 (.o 13 0 (.o 14 0 (.o 15 0 (.o 16 0 (.o 17 0 (.o 18 0 (.o 19 0 (.o 20 0 (.o 21 805306368 (.o 22 805306368 (.o 23 805306368 (.o 24 805306368 (.o 25 805306368 (.o 26 805306368 (.o 27 805306368 (.o 28 0 (.o 29 0 (.o 30 0 (.o 31 0 (.o 32 0 (.o 33 0 .done))))))))))))))))))))))))))))))))))) (.x .w)) (.y (.z (.o 0 8064 (.o 1 8064 (.o 2 8064 (.o 3 8064 (.o 4 8064 (.o 5 8064 (.o 6 8064 (.o 7 4096 (.o 8 4096 (.o 9 4096 (.o 10 4096 (.o 11 4096 (.o 12 0 (.o 13 0 (.e 14 .done)))))))))))))))) (.y (.v (.x (.t (S [(102,.c (.i .i64))]) (.v (.y .w (.x (.x (.v (.z (.o 0 2046 (.o 2 1010 (.o 4 490 (.o 5 74 (.o 6 10 (.o 7 10 (.o 8 10 (.hold 1 1544 2047 (.hold 3 512 2047 (.e 9 (.o 10 0 (.e 11 .done)))))))))))))))))) .u))) .w)))))))))
theorem abf{a K w}:Fr (V3 a K w) (∃b,a=S b/\∃c,w.z (b.add 11) c/\bif c==1 then K 181 w else TN a 1 (λb c d=>bif c !=0 then K c d else ∀c:O->qf->Pw,(∀(d:O)(e:qf)(f:Y),(bif d !=0 then K d f else Dr f λc=>∃d,b.a=S d/\(0:O)<=0/\0<(b.len:O)/\av c (d.add ((0:O).toNat*2)) 0 [.o,.o] λ(b d:O)=>av c e 0 [.o,.o,.o,.u,.u,.o] λ(e f g h i j:O)=>(UD a b d e f g h i j (λa=>K 0 a) c)/\G)->c d e f)->(Dr d λb=>∃d,a=S d/\av b (d.add 11) 0 [.o,.o,.o,.u,.u,.o] λ(d e f g h i:O)=>∃j,a=S j/\∃k,b.z ((j.add 3).add 3) k/\∃j,a=S j/\∃a,b.z ((j.add 3).add 4) a/\(UE d e f g h i k (qq.wrap a) (λa b d e f g h i=>(A2 i [.z 0,.z 0,.z 0,.y 0,.y 0,.z 0] 157 λi j=>(aD j i.p 0 [.z a,.z b,.z d,.y e,.y f,.z g] λa=>c h i.p a)/\G)/\G) b)/\(A2 b [.z 0,.z 0,.z 0,.y 0,.y 0,.z 0] 157 λb j=>(UE d e f g h i k (qq.wrap a) (λa d e f g h i j=>(aD j b.p 0 [.z a,.z d,.z e,.y f,.y g,.z h] λa=>c i b.p a)/\G) j)/\G)/\G)) w):=ai func151 (.v (.y (.v (.x .w)) (.v (.y (.v (.x .w)) (.y (.r (S [(4,.c (.i .i64)),(5,.c .q)]) (.o 0 557040 (.o 1 557040 (.o 2 557040 (.o 3 557040 (.o 4 556544 (.o 5 556544 (.o 6 556544 (.o 7 556544 (.o 8 556544 (.o 9 524288 (.o 10 524288 (.o 11 524288 (.o 12 524288 (.o 13 524288 (.o 14 524288 (.f 15 (.o 16 524288 (.o 17 786432 (.o 18 1572864 (.e 19 (.e 20 (.o 21 0 .done)))))) (.e 19 (.e 15 (.o 16 0 (.o 17 262144 (.o 18 1048576 (.e 20 (.o 21 0 .done)))))))))))))))))))))))) (.y (.v (.x .w)) (.y (.z (.o 0 30 (.o 1 16 (.o 2 16 (.o 3 16 (.o 4 0 (.e 5 .done))))))) .w)))))))
theorem abg{a K w}:Fr (V4 a K w) (TN a 1 (λb c d=>bif c !=0 then K c d else Dr d λc=>∃d,a=S d/\∃e,c.q d e/\∃d,e=S d/\∃e,c.q d e/\∃d,a=S d/\av c (d.add 9) 0 [.o,.o] λ(d f:O)=>∃g,b.a=S g/\(0:O)<=0/\0<(b.len:O)/\av c (g.add ((0:O).toNat*2)) 0 [.o,.o] λ(g h:O)=>(WS e d f g h (λ_ c=>Dr c λc=>∃d,a=S d/\∃e,c.q d e/\∃d,e=S d/\∃e,c.q (d.add 1) e/\∃d,a=S d/\av c (d.add 9) 0 [.o,.o] λ(a d:O)=>∃f,b.a=S f/\(0:O)<=0/\0<(b.len:O)/\av c (f.add ((0:O).toNat*2)) 0 [.o,.o] λ(b f:O)=>(WT e a d b f (λ_ a=>K 0 a) c)/\G) c)/\G) w):=ai func152 (.v (.v (.y (.v (.x .w)) (.y .g7 (.y .g7 .w)))))
theorem abh{a K w}:Fr (V5 a K w) (∃b,a=S b/\∃c,w.z ((b.add 3).add 1) c/\bif c==0 then K 181 w else ∃b,a=S b/\av w (b.add 9) 0 [.o,.o] λ(b c:O)=>TO a b c (λa=>K 0 a) w):=ai func153 (.v .Kw)
structure Ln where
 is:O
 note:O
 ax:O
deriving DecidableEq
def Is:dF Ln:=⟨3,λo=>[.z o.is,.z o.note,.y o.ax],λ_=>rfl,λx v h=>by simp only[Oz,Ps,qC]at h;rcases h with rfl|rfl|rfl<;>rfl,qb⟩
abbrev wR:=J Ln
def kq(l:wR)(n:O):qg Ln:=if n<0 then I else l[n.toNat]?
def mW(l:wR)(n note ax:O):O × wR:=match kq l n with
 |none=>(130,l)
 |some x=>if note<0 then(1,l)else if x.is≠0 then(131,l)else(0,l.set n.toNat ⟨1,note,ax⟩)
def eU(l:wR)(n:O):(qg (O × O)× O)× wR:=match kq l n with
 |none=>((I,130),l)
 |some x=>if x.is=1 then((S (x.note,x.ax),0),l.set n.toNat { x with is:=2})
  else if x.is=2\/x.is=3 then((I,0),l.set n.toNat { x with is:=3})else((I,0),l)
def iQ(l:wR)(n:O):(qg (O × O)× O)× wR:=match kq l n with
 |none=>((I,130),l)
 |some x=>if x.is=3 then((S (x.note,x.ax),0),l.set n.toNat { x with is:=2})
  else if x.is=2 then((I,0),l.set n.toNat { x with is:=1})else((I,0),l)
def bR(b:X)(l:wR):aH:=pa λs:Sl=>bo [aa b [s.v],af Is s l]
theorem Ow.Kr{s:Sl}{xs:J α}[ae4:bY s L α E xs]{i:O}{j:X}{x:α}{a:qf}(h:Ow B w0 w L)(hij:i=(j:O))(hj:xs[j]?=S x)(ha:s.a=S a):
  ∀v,(E.enc x)[0]?=S v->w.cell? (a.add (i.toNat*E.z))=S v:=by
 obtain⟨a',ha',_,_,g⟩:=h.bX (s:=s) (ae3:=λa=>∀v,(E.enc x)[0]?=S v->w.cell? (a.add (i.toNat*E.z))=S v) hij hj (λa _ h1 h2=>h1);rw[ha]at ha';cases ha';exact g
theorem Ow.Lw{s:Sl}{xs:J α}[ae4:bY s L α E xs]{i:O}{j:X}{x:α}{a:qf}(h:Ow B w0 w L)(hij:i=(j:O))(hj:xs[j]?=S x)(ha:s.a=S a):
  ∀c v,(E.enc x)[c]?=S v->w.cell? ((a.add (i.toNat*E.z)).add c)=S v:=by
 obtain⟨a',ha',_,_,g⟩:=h.bX (s:=s) (ae3:=λa=>∀c v,(E.enc x)[c]?=S v->w.cell? ((a.add (i.toNat*E.z)).add c)=S v) hij hj (λa _ h1 h2=>h2);rw[ha]at ha';cases ha';exact g
end
section
variable{B:X}{w0 w:Y}{R L:J aH}{b:X}{l:wR}
theorem Ow.lines(h:Ow B w0 w (bR b l::R)):∃s:Sl,Ow B w0 w (aa b [s.v]::af Is s l::R):=by obtain⟨s,h⟩:=h.ex;exact⟨s,h.star⟩
theorem Ow.eT{s:Sl}(h:Ow B w0 w (aa b [s.v]::af Is s l::R)):Ow B w0 w (bR b l::R):=Ow.eP s (Ow.br h)
theorem KO{L:J aH}{n:O}{k:Sl->Pw}(h:Ow B w0 w L)(h0:0<=n)(hn:n<=1000000)(hk:∀s' w',s'.len=n.toNat->Ow B w0 w' (af Is s' (Oq n.toNat ⟨0,0,0⟩)::L)->k s' w'):
  ∃s' w',jH qe 250 (.z n) (.z n) w s' w'/\k s' w':=
 Ow.rH (E:=Is) (z0:=⟨0,0,0⟩) underlying250 (show qe.info? 316=S aer from by kernel_rfl) (zv:= .agg ⟨Is.enc ⟨0,0,0⟩⟩) qa qa U h h0 (by
  have e:aer.bytes=24:=qa
  rw[e];omega) om hk
theorem y5{K:qg qf->O->Pw}(h:Ow B w0 w R)(hK:∀b w',Ow B w0 w' (bR b (Oq 8 ⟨0,0,0⟩)::R)->K b.o 0 w'):Vu 8 K w:=by
 apply aaV;intro k2 hk2;refine aw qb ?_;rw[show F ((8:O)>64)=Z from by decide];apply hk2;refine aW U ?_;refine KO h qb qb λs w hl h=>?_;refine h.al λw1 h=>?_;exact hK _ w1 (Ow.eT (s:=s) h)
theorem lV{n:O}{K:qg qf->Pw}{s:Sl}(h:Ow B w0 w (aa b [s.v]::af Is s l::R))(h1:kq l n=I->K I w)
  (h2:∀x a,kq l n=S x->s.a=S a->0<=n->n<(l.length:O)->l[n.toNat]?=S x->K (S (a.add (n.toNat*3))) w):TF b.o n K w:=by
 apply aaX;have hlen:=h.aL s;intro k3 hk3;refine bg (λe=>?_) (λe=>?_)
 .apply hk3
  refine aU U (h1 ?_);unfold kq;rw[A e]
 refine⟨_,U,s,h.aF U,?_⟩;apply hk3;by_cases e2:(l.length:O)<=n
 .rw[qm om]
  refine aU U (h1 ?_);unfold kq;rw[Q e,OQ om]
 .rw[qk om]
  refine aW U ?_;have hx:l[n.toNat]?=S l[n.toNat]:=gE om;refine⟨_,U,s,h.aF U,h.bX (s:=s) (i:=n) (j:=n.toNat) om hx λa ha hc0 hc=>?_⟩;exact h2 _ a (by unfold kq;rw[Q e];exact hx) ha om om hx
theorem xa{n note g:O}{K:O->Pw}(h:Ow B w0 w (bR b l::R))(hK:∀w',Ow B w0 w' (bR b (mW l n note g).2::R)->K (mW l n note g).1 w'):WZ b.o n note g K w:=by
 apply aaY;obtain⟨s,h⟩:=h.lines;unfold mW at hK;refine lV h (λe=>?_) (λx a e ha h0 hlt hx=>?_)
 .rw[e]at hK
  exact aU U (hK _ (Ow.eT (s:=s) h))
 .rw[e]at hK
  dsimp only at hK;refine aW U ?_;refine bg (λe1=>?_) (λe1=>?_)
  .rw[A e1]at hK
   exact hK _ (Ow.eT (s:=s) h)
  rw[Q e1]at hK;have hc:=h.cw.Kr (s:=s) (i:=n) (j:=n.toNat) om hx ha;refine⟨_,U,x.is,hc _ U,oO (λe2=>?_) (λe2=>?_)⟩
  .rw[A e2]at hK
   exact hK _ (Ow.eT (s:=s) h)
  .rw[Q om]at hK
   refine⟨_,U,h.rW (s:=s) (xs:=l) (i:=n) (j:=n.toNat) ⟨1,note,g⟩ om om ha λw h=>?_⟩;exact hK _ (Ow.eT (s:=s) h.cw)
theorem rC{n:O}{x:Ln}(h:kq l n=S x):0<=n/\l[n.toNat]?=S x:=by
 unfold kq at h;split at h
 .cases h
 .exact ⟨om,h⟩
theorem Jz{s:Sl}{n:O}{x:Ln}{a:qf}{v:O}{k:Pw}(h:Ow B w0 w (aa b [s.v]::af Is s l::R))(h0:0<=n)(hx:l[n.toNat]?=S x)(ha:s.a=S a)
  (hk:∀w',Ow B w0 w' (aa b [s.v]::af Is s (l.set n.toNat { x with is:=v})::R)->k w'):St w (a.add (n.toNat*3)) (.z v) k:=by
 have e:(a.add (n.toNat*3))=(a.add (n.toNat*3)).add 0:=by rw[Addr.add_add];rfl
 rw[e];exact h.rX (s:=s) (i:=n) (j:=n.toNat) (c:=0) { x with is:=v} om hx ha U qb U λw h=>hk w h.cw
theorem vl{n:O}{K:O->O->W->O->Pw}(h:Ow B w0 w (bR b l::R))
  (hK:∀w',Ow B w0 w' (bR b (eU l n).2::R)->K ((eU l n).1.1.getD (0,0)).1 ((eU l n).1.1.getD (0,0)).2 (eU l n).1.1.isSome (eU l n).1.2 w'):VH b.o n K w:=by
 apply aaW;obtain⟨s,h⟩:=h.lines;unfold eU at hK;refine lV h (λe=>?_) (λx a e ha h0 hlt hx=>?_)
 .rw[e]at hK
  exact aU U (hK _ (Ow.eT (s:=s) h))
 .rw[e]at hK
  dsimp only at hK;refine aW U ?_;have hc:=h.cw.Kr (s:=s) (i:=n) (j:=n.toNat) om hx ha;refine⟨_,U,x.is,hc _ U,?_⟩;intro k7 hk7;have again:x.is=2\/x.is=3->∀w,Ow B w0 w (aa b [s.v]::af Is s l::R)->k7 w:=λe2 w h=>by
   apply hk7;refine⟨_,U,Jz h h0 hx ha λw h=>?_⟩;rw[Q om,A e2]at hK;exact hK w (Ow.eT (s:=s) h)
  refine dK (λe1=>?_) (λe1=>?_)
  .rw[A e1]at hK
   refine⟨_,U,Jz h h0 hx ha λw h=>?_⟩;refine h.dr λw h=>?_;have hc:=h.cw.Lw (s:=s) (i:=n) (j:=n.toNat) (x:={ x with is:=2}) om (by rw[O0 om]) ha;exact⟨_,U,_,hc 1 _ U,_,U,_,hc 2 _ U,hK w (Ow.eT (s:=s) h)⟩
  refine dK (λe2=>?_) (λe2=>?_)
  .exact again (.inl e2) _ h
  refine dK (λe3=>?_) (λe3=>?_)
  .exact again (.inr e3) _ h
  .rw[Q e1,Q om]at hK
   exact hK _ (Ow.eT (s:=s) h)
theorem y4{n:O}{K:O->O->W->O->Pw}(h:Ow B w0 w (bR b l::R))
  (hK:∀w',Ow B w0 w' (bR b (iQ l n).2::R)->K ((iQ l n).1.1.getD (0,0)).1 ((iQ l n).1.1.getD (0,0)).2 (iQ l n).1.1.isSome (iQ l n).1.2 w'):W0 b.o n K w:=by
 apply aaZ;obtain⟨s,h⟩:=h.lines;unfold iQ at hK;refine lV h (λe=>?_) (λx a e ha h0 hlt hx=>?_)
 .rw[e]at hK
  exact aU U (hK _ (Ow.eT (s:=s) h))
 .rw[e]at hK
  dsimp only at hK;refine aW U ?_;have hc:=h.cw.Kr (s:=s) (i:=n) (j:=n.toNat) om hx ha;refine⟨_,U,x.is,hc _ U,dK (λe1=>?_) (λe1=>?_)⟩
  .rw[A e1]at hK
   refine⟨_,U,Jz h h0 hx ha λw h=>?_⟩;refine h.dr λw h=>?_;have hc:=h.cw.Lw (s:=s) (i:=n) (j:=n.toNat) (x:={ x with is:=2}) om (by rw[O0 om]) ha;exact⟨_,U,_,hc 1 _ U,_,U,_,hc 2 _ U,hK w (Ow.eT (s:=s) h)⟩
  refine dK (λe2=>?_) (λe2=>?_)
  .rw[Q e1,A e2]at hK
   refine⟨_,U,Jz h h0 hx ha λw h=>?_⟩;exact hK w (Ow.eT (s:=s) h)
  .rw[Q e1,Q e2]at hK
   exact hK _ (Ow.eT (s:=s) h)
end
namespace Sl
def dV:dF (Slot × cO):=⟨8,λp=>[.z p.1.1,.z p.1.2,.z p.2.kind,.z p.2.obj,.z p.2.ak,.y p.2.ax,.y p.2.guard,.z p.2.bits],λ_=>rfl,λx v h=>by simp only[Oz,Ps,qC]at h;rcases h with rfl|rfl|rfl|rfl|rfl|rfl|rfl|rfl<;>rfl,qb⟩
theorem xt(x:O)(m:X)(hm:m<2^62):∃p:X,p<=m/\da .i64 x (m:O)=(p:O):=by
 unfold da;have e2:(2:X)^62=4611686018427387904:=qb
 have hle:(BitVec.ofInt qd.bits x &&& BitVec.ofInt qd.bits (m:O)).toNat<=m:=by
  rw[BitVec.toNat_and];refine ON Nat.and_le_right ?_;have:(BitVec.ofInt qd.bits (m:O)).toNat=m%2^64:=by simp[IntKind.bits,BitVec.toNat_ofInt]
  rw[this];exact Nat.mod_le _ _
 exact⟨_,hle,wr om om⟩
end Sl
namespace Tr
abbrev Slot:=O × O
abbrev fc:=Slot × O
abbrev bL(s:Sl):N:= s.v
def aY:dF fc:=⟨3,λp=>[.z p.1.1,.z p.1.2,.z p.2],λ_=>rfl,λx v h=>by simp only[Oz,Ps,qC]at h;rcases h with rfl|rfl|rfl<;>rfl,qb⟩
def aI:dF Slot:=⟨2,λp=>[.z p.1,.z p.2],λ_=>rfl,λx v h=>by simp only[Oz,Ps,qC]at h;rcases h with rfl|rfl<;>rfl,qb⟩
theorem G4{w:Y}{a:qf}{x:fc}{f:O->O->O->Prop}(g:∀c v,(aY.enc x)[c]?=S v->w.cell? (a.add c)=S v)(hf:f x.1.1 x.1.2 x.2):av w a 0 [.o,.o,.o] f:=⟨_,g 0 _ U,_,g 1 _ U,_,g 2 _ U,hf⟩
theorem kL{w:Y}{a:qf}{x:Slot}{f:O->O->Prop}(g:∀c v,[Value.z x.1,Value.z x.2][c]?=S v->w.cell? (a.add c)=S v)(hf:f x.1 x.2):av w a 0 [.o,.o] f:=⟨_,g 0 _ U,_,g 1 _ U,hf⟩
theorem L6(a c:Slot):pw qe 9 155 [.z a.1,.z a.2] [.z c.1,.z c.2]=S (F (a=c)):=by
 have h:pw qe 9 155 [.z a.1,.z a.2] [.z c.1,.z c.2]=S (a.1==c.1&&(a.2==c.2&&V)):=qa
 rw[h];congr 1;rw[Bool.eq_iff_iff];simp only[Bool.and_true,OH,qG,qA];cases a;cases c;simp only[Prod.mk.injEq]
theorem H0{x y:qB}(a c:Slot):B8 qe .eql 155 x y (.agg #[.z a.1,.z a.2]) (.agg #[.z c.1,.z c.2]) (F (a=c)):=J0 qa qa qa (L6 a c)
theorem iR:qe.info? 325=S aes:=qa
theorem xz:aes.bytes=24:=qa
def yw:fc:=((0,0),0)
theorem Ii(w:Y):(qE 325).run qe w= .ok (.agg ⟨aY.enc yw⟩) w:=zeroValue325 w
def dH{α:Type}(p:α->W)(xs:J α):O:=match xs.findIdx? p with|some i=>(i:O)|none=> -1
section
variable{B:X}{w0 w:Y}{R L:J aH}{s:Sl}{xs:J fc}
theorem uR{p:fc->W}{f:N}{K:O->Pw}[ae4:bY s L fc aY xs](h:Ow B w0 w L)(hbig:xs.length<=1000000000)
  (hf:∀(y:fc)(w:Y)(ae5:W->Pw),Ow B w0 w L->(∀w',Ow B w0 w' L->ae5 (p y) w')->cT qe f [.agg #[.z y.1.1,.z y.1.2,.z y.2]] w λen w'=>∃r:W,en= .returned (.bool r)/\ae5 r w')
  (hK:∀w',Ow B w0 w' L->K (dH p xs) w'):Xm s f K w:=by
 apply aag;have hlen:=h.aL s;intro l hl;have loop:∀(rest:J fc)(j:X)(w:Y),xs.drop j=rest->j<=xs.length->(∀i,i<j->∀y,xs[i]?=S y->p y=Z)->Ow B w0 w L->l (j:O) w:=by
  intro rest;induction rest with
  |nil=>
   intro j w hj hjl hno h;have:xs.length<=j:=by have:=qw PI hj;simp at this;omega
   apply hl;refine aw om ?_;have hn:xs.findIdx? p=none:=by rw[Pa];intro y hy;obtain⟨i,hi⟩:=O5.1 hy;exact hno i (by have:=(Om.1 hi).1;omega) y hi
   have e:dH p xs= -1:=by unfold dH;rw[hn]
   rw[<-e];exact hK _ h
  |cons y rest ih=>
   intro j w hj hjl hno h;have hjl2:j<xs.length:=by have:=qw PI hj;simp at this;omega
   have hx:xs[j]?=S y:=by have:=qw (λl=>l[0]?) hj;simpa using this
   apply hl;refine az om ?_;refine h.bX U hx λa ha h0 hc=>?_;refine G4 hc ?_;refine hf y w _ h λw h=>?_;cases hp:p y with
   |true=>
    refine aU U ?_;have hn:xs.findIdx? p=S j:=by
     rw[OT];refine⟨hjl2,?_,λi hi=>?_⟩
     .rw[gE hjl2]at hx;cases hx;exact hp
     .have:=hno i hi xs[i] (gE om)
      simp[this]
    have e:dH p xs=(j:O):=by unfold dH;rw[hn]
    rw[<-e];exact hK _ h
   |false=>
    refine aW U ?_;rw[wr om om];refine ih (j+1) w (by rw[<-Pz,hj];rfl) om (λi hi z hz=>?_) h;by_cases e:i=j
    .subst e;rw[hx]at hz;cases hz;exact hp
    .exact hno i om z hz
 exact loop xs 0 w U om (λi hi=>by omega) h
theorem xw{y:fc}{c:X}{k:Sl->Pw}[ae4:bY s L fc aY xs][aeX:eD (af aY s xs) L R](h:Ow B w0 w (aa c (aY.enc y)::L))(hbig:xs.length<=1000000000)
  (hk:∀s' w',s'.len=xs.length+1->Ow B w0 w' (af aY s' (xs++ [y])::R)->k s' w'):
  ∃s' w',aP qe [235,235] 235 s.v (.slice (S c.p) 1 1) w s' w'/\k s' w':=
 Ow.eR (E:=aY) (y:=y) qQ iR (zv:= .agg ⟨aY.enc yw⟩) qa qa U qb h (by rw[xz];omega) hk
theorem jA{ys:J Slot}{y:Slot}{c:X}{k:Sl->Pw}[ae4:bY s L Slot aI ys][aeX:eD (af aI s ys) L R](h:Ow B w0 w (aa c (aI.enc y)::L))(hbig:ys.length<=1000000000)
  (hk:∀s' w',s'.len=ys.length+1->Ow B w0 w' (af aI s' (ys++ [y])::R)->k s' w'):
  ∃s' w',aP qe [124,124] 124 s.v (.slice (S c.p) 1 1) w s' w'/\k s' w':=
 Ow.eR (E:=aI) (y:=y) qX (show qe.info? 155=S qS from by kernel_rfl) (zv:= .agg ⟨aI.enc (0,0)⟩) qa qa U qb h (by
  have e:qS.bytes=16:=qa
  rw[e];omega) hk
theorem lv{α:Type}{xs:J α}{i j:X}{z:α}(hij:i<j)(hj:j<=xs.length):
  Sk (i+(xs.length-j)) (Sk (i+(xs.length-j)) (xs.take i++xs.drop j++xs.drop (i+(xs.length-j)))++Oq ((xs.take i++xs.drop j++xs.drop (i+(xs.length-j))).length-(i+(xs.length-j))) z)=xs.take i++xs.drop j:=by
 have hl2:(xs.take i++xs.drop j).length=i+(xs.length-j):=by simp;omega
 rw[PR (by simp;omega),QL,R3,<-hl2,List.take_left]
theorem zW{i j:X}{K:Sl->Pw}(h:Ow B w0 w (af aY s xs::R))(hij:i<j)(hj:j<=xs.length)(hbig:xs.length<=1000000000)
  (hK:∀s' w',Ow B w0 w' (af aY s' (xs.take i++xs.drop j)::R)->K s' w'):Vf s (i:O) (j:O) K w:=by
 apply aat;have hlen:=h.aL s;have hcap:=h.kG.fK;refine⟨om,om,om,om,om,om,jf om (h.dr λw h=>?_)⟩;refine⟨om,om,om,om,a2 ?_⟩;simp only[Oo];refine h.u7 (E:=aY) qQ iR qa om hj om λw h=>?_;dsimp only;refine⟨om,om,om,om,Ow.clear (E:=aY) (z0:=yw) (n:=i+(xs.length-j)) qQ Ii U h 0 U (by simp;omega) λw h=>?_⟩;have hp:=h.pre 0 U (n:=i+(xs.length-j)) (by simp;omega);refine hK _ w ?_;rw[lv hij hj]at hp;exact hp
theorem GR{α:Type}{xs:J α}{i:X}{y z:α}(hi:i<xs.length):
  (((xs.take i++Oq (xs.length+1-i) z).take i++ [y]++(xs.take i++Oq (xs.length+1-i) z).drop (i+ [y].length)).take (i+1)++xs.drop i++((xs.take i++Oq (xs.length+1-i) z).take i++ [y]++(xs.take i++Oq (xs.length+1-i) z).drop (i+ [y].length)).drop (i+1+(xs.drop i).length))=xs.take i++ [y]++xs.drop i:=by
 have h1:(xs.take i).length=i:=by simp;omega
 have h2:(xs.take i++Oq (xs.length+1-i) z).take i=xs.take i:=by rw[PR om,Ou om]
 have h3:(xs.take i++ [y]:J α).length=i+1:=by simp;omega
 rw[h2];generalize hX:(xs.take i++Oq (xs.length+1-i) z).drop (i+ [y].length)=aeW;have hXl:aeW.length=xs.length-i:=by rw[<-hX];simp;omega
 have h4:(xs.take i++ [y]++aeW).drop (i+1+(xs.drop i).length)= []:=List.drop_eq_nil_of_le (by rw[Ov,h3,hXl];simp);rw[h4,OD,PR om,Ou om]
theorem EN{α:Type}(E:dF α){xs:J α}{i:X}{y:α}(hi:i<xs.length){junk:J N}(hj:junk.length=1*E.z):
  putAt (putAt (xs.flatMap E.enc++junk) ((i+1)*E.z) ((xs.drop i).flatMap E.enc)) (i*E.z) (E.enc y)=(xs.take i++ [y]++xs.drop i).flatMap E.enc:=by
 have hF:=aK E xs;have hD:((xs.drop i).flatMap E.enc).length=(xs.length-i)*E.z:=by rw[aK,Qd]
 have hT:((xs.take i).flatMap E.enc).length=i*E.z:=by rw[aK,List.length_take,Pv om]
 have hsplit:xs.flatMap E.enc=(xs.take i).flatMap E.enc++(xs.drop i).flatMap E.enc:=by rw[<-Pd,O8]
 have hEy:=E.len y;have e1:xs.length*E.z=i*E.z+(xs.length-i)*E.z:=by rw[<-Nat.add_mul];congr 1;omega
 have hl1:(putAt (xs.flatMap E.enc++junk) ((i+1)*E.z) ((xs.drop i).flatMap E.enc)).length=xs.length*E.z+E.z:=by rw[oF (by rw[Ov,hF,hj,hD,Qu];omega),Ov,hF,hj];omega
 rw[Pd,Pd,List.flatMap_cons,List.flatMap_nil,OD];generalize hA:(xs.take i).flatMap E.enc=ae7 at*
 generalize hB:(xs.drop i).flatMap E.enc=D at*
 generalize E.enc y=aeY at*
 rw[hsplit]at hl1|-;apply O2;intro t;rw[cY _ _ _ _ om];rw[cY _ _ _ _ (by rw[Ov,Ov,hj,hD,hT,Qu];omega)];rw[Qu];by_cases c1:i*E.z<=t/\t<i*E.z+aeY.length
 .rw[A c1,O1,OA om,Oy om,hT]
 .rw[Q c1]
  by_cases c2:i*E.z+E.z<=t/\t<i*E.z+E.z+D.length
  .rw[A c2,OA (by rw[Ov];omega),Ov,hT,hEy]
  .rw[Q c2]
   by_cases c3:t<i*E.z
   .rw[O1,Oy om,O1,Oy om]
   .rw[OQ (by rw[Ov,Ov];omega),OQ (by rw[Ov,Ov];omega)]
theorem z6{i c:X}{y:fc}{K:Sl->Pw}(h:Ow B w0 w (af aY s xs::aa c (aY.enc y)::R))(hi:i<=xs.length)(hbig:xs.length<=1000000000)
  (hK:∀s' w',Ow B w0 w' (af aY s' (xs.take i++ [y]++xs.drop i)::R)->K s' w'):Ve s (i:O) ⟨S c.p,1,1⟩ K w:=by
 apply aas;have hlen:=h.aL s;have hcap:=h.kG.fK;refine⟨om,om,aW U (dK (λe=>?_) (λe=>?_))⟩
 .obtain rfl:i=xs.length:=om
  refine xw h.cw hbig λs' w hs' h=>?_;rw[List.take_length,List.drop_length,OD]at hK;exact hK s' w h
 have hil:i<xs.length:=om
 dsimp only;have hspot:=h.kG.spot;have hdl:(xs.drop i).length=xs.length-i:=by simp
 rw[show qd.wrap ((s.len:O)+((1:X):O))=((xs.length+1:X):O)from by rw[wr om om];omega,
  show qd.wrap ((i:O)+((1:X):O))=((i+1:X):O)from by rw[wr om om];omega]
 obtain⟨b,o,ha,hcells⟩:=h.get 0 U (gE hil);have hsrc:∀w,Ow B w0 w (af aY s xs::aa c (aY.enc y)::R)->∀j v,((xs.drop i).flatMap aY.enc)[j]?=S v->w.cell? ((Addr.mk b (o+i*3) I).add j)=S v:=λw h j v hv=>by
  have hs:=h.kG;have hj:(xs.flatMap aY.enc)[i*3+j]?=S v:=by
   have e1:xs.flatMap aY.enc=(xs.take i).flatMap aY.enc++(xs.drop i).flatMap aY.enc:=by rw[<-Pd,O8]
   have e2:((xs.take i).flatMap aY.enc).length=i*3:=by rw[aK];show(xs.take i).length*3=_;simp;omega
   rw[e1,OA om,e2,QA];exact hv
  obtain⟨b',o',ha',hc'⟩:=hs.cell hj;rw[ha]at ha';simp only[Option.some.injEq,Addr.mk.injEq,and_true]at ha';rw[aO,ha'.1,ha'.2,Ql];exact hc'
 have hsrcY:∀w L,Ow B w0 w (aa c (aY.enc y)::L)->∀j v,(([y]:J fc).flatMap aY.enc)[j]?=S v->w.cell? (c.p.add j)=S v:=λw L h j v hv=>by
  have:([y]:J fc).flatMap aY.enc=aY.enc y:=by simp
  rw[this]at hv;rw[aO,OJ,(h.wV 0 U).cell];exact hv
 refine bg (λe2=>?_) (λe2=>?_)
 .refine ⟨om,om,?_⟩
  rw[show qd.wrap (((xs.length+1:X):O)-(i:O))=((xs.length+1-i:X):O)from by rw[wr om om];omega,Oo];refine Ow.Ms (E:=aY) (z0:=yw) (i:=i) (m:=xs.length+1-i) qQ qy iR (zv:= .agg ⟨aY.enc yw⟩) qa qa U qb h om om om (by rw[xz];omega) λt w ht htc h=>?_;obtain⟨b2,o2,ha2,_⟩:=h.get 0 U (gE (show i<(xs.take i++Oq (xs.length+1-i) yw).length by simp;omega));refine⟨om,om,?_⟩;rw[gX (z:=3) ha2 (show t.cap≠i by omega)];refine Ow.DB (E:=aY) (p:=i) (zs:=[y]) qQ iR qa h ha2 (by simp;omega) (by simp;omega) (hsrcY w _ h.lK) λw h=>?_;refine h.dr λw h=>?_;refine⟨om,om,om,om,Go.Vc.a2 ?_⟩;rw[Oo,gX (z:=3) ha2 (show t.cap≠i+1 by omega),gX (z:=3) ha (show s.cap≠i by omega)];refine Ow.DB (E:=aY) (p:=i+1) (zs:=xs.drop i) qQ iR qa h ha2 (by simp;omega) (by simp;omega) (hsrc w h.drop) λw h=>?_;rw[GR hil]at h;exact hK _ w h.vU.vU
 .obtain ⟨junk,hj,h⟩:=h.grow (m:=1) om ha
  have h:Ow B w0 w (FZ 3 ⟨s.a,xs.length+1,s.cap⟩ (xs.flatMap aY.enc++junk)::aa c (aY.enc y)::R):=h;have e0:Vc.eH s.a 0 s.cap 3=s.a:=FH _ _ _ hspot;have hF:(xs.flatMap aY.enc).length=xs.length*3:=aK aY xs;simp only[e0,Nat.sub_zero,Oo];rw[gX (z:=3) ha (show s.cap≠i+1 by omega),gX (z:=3) ha (show s.cap≠i by omega)];refine⟨om,om,om,om,Z,w,?_,?_⟩
  .exact h.cw.overlaps func433 qa qa qa (tS:=235) (tR:=4) qa qQ (size:=3) (λw=>by rw[fO iR w];rfl) ha (by intro hn;have:=qw PI hn;rw[Ov,hF,hj]at this;simp at this;omega)
  refine aU U ?_;refine h.dr λw h=>?_;refine⟨om,om,om,om,Go.Vc.a2 ?_⟩;refine h.Gu (z:=3) (p:=i+1) (ds:=(xs.drop i).flatMap aY.enc) qQ iR qa ha (by
   have:=aK aY (xs.drop i);have hz:aY.z=3:=rfl;rw[this,hz,hdl];congr 1;omega) (λv hv=>by
   obtain⟨x,_,hx⟩:=List.mem_flatMap.1 hv;exact aY.one x v hx) (by rw[Ov,hF,hj];show _<=xs.length*3+1*3;omega) (λj v hv=>by
   have hs:lf 3 w ⟨s.a,xs.length+1,s.cap⟩ (xs.flatMap aY.enc++junk):=h.head λ_ h=>h.2;have hjj:(xs.flatMap aY.enc++junk)[i*3+j]?=S v:=by
    have e1:xs.flatMap aY.enc=(xs.take i).flatMap aY.enc++(xs.drop i).flatMap aY.enc:=by rw[<-Pd,O8]
    have e2:((xs.take i).flatMap aY.enc).length=i*3:=by rw[aK];show(xs.take i).length*3=_;simp;omega
    have hjl:=(Om.1 hv).1;rw[e1,O1,OA om,e2,QA,Oy hjl];exact hv
   obtain⟨b',o',ha',hc'⟩:=hs.cell hjj;have ha':s.a=S ⟨b',o',I⟩:=ha';rw[ha]at ha';simp only[Option.some.injEq,Addr.mk.injEq,and_true]at ha';rw[aO,ha'.1,ha'.2,Ql];exact hc') λw h=>?_
  refine⟨om,om,?_⟩;refine h.Gu (z:=3) (p:=i) (ds:=aY.enc y) qQ iR qa ha (by
   rw[aY.len];show 3=_;rw[Pv (by show 1<=_;omega)]<;>rfl) (λv hv=>aY.one y v hv) (by
   have hD:((xs.drop i).flatMap aY.enc).length=(xs.length-i)*3:=by rw[<-hdl];exact aK aY _
   rw[oF (by rw[Ov,hF,hj,hD];show _<=xs.length*3+1*3;omega),Ov,hF,hj];show _<=xs.length*3+1*3;omega) (λj v hv=>by
   rw[aO,OJ,(h.wV 1 U).cell];exact hv) λw h=>?_
  have h2:Ow B w0 w (af aY ⟨s.a,xs.length+1,s.cap⟩ (xs.take i++ [y]++xs.drop i)::aa c (aY.enc y)::R):=Ow.M4 (by simp;omega) (EN aY hil hj) h;exact hK _ w h2.vU
end
end Tr
theorem YJ{a K w}:Fr (VN a K w) (∀b:W->Pw,(∀(c:W)(d:Y),(bif c then K I 1 d else A2 d [.slice I 0 0,.z a] 345 λa b=>K (S a.p) 0 b)->b c d)->(bif F (a<1)then b V w else b (F (a>256)) w)):=ai func95 .Lb
theorem abi{a b c K w}:Fr (Xf a b c K w) (A2 w [.z 0,.z 0] 70 λd e=>∃f,a=S f/\∃a,e.s f a/\∀f:O->Pw,(∀(e:O)(g:Y),(bif F (e<(a.len:O))then ∃h,a.a=S h/\0<=e/\e<(a.len:O)/\av g (h.add (e.toNat*4)) 0 [.o,.o,.o,.o] λ(a h i j:O)=>A2 g [.z 0,.z 0,.z 0,.z 0] 289 λk l=>aD l k.p 0 [.z a,.z h,.z i,.z j] λa=>Dr a λa=>av a k.p 0 [.o,.o,.o,.o] λ(h i j l:O)=>(T4 b (λa b=>zP b k.p 0 [.z h,.z i,.z j,.z l] ((T5 c (λb c=>zP c k.p 0 [.z h,.z i,.z j,.z l] ((a.oneCell'=V/\b.oneCell'=V/\A2 c [a,b] 468 λa b=>(U7 h i j l ⟨S a.p,2,2⟩ (λa b=>bif a then av b (k.p.add 2) 0 [.o,.o] λ(a c:O)=>aD b d.p 0 [.z a,.z c] λa=>av a d.p 0 [.o,.o] λ(c d:O)=>K c d V a else f (qd.wrap (e+1)) b) b)/\G)/\G)) b)/\G)) a)/\G else aD g d.p 0 [.z 0,.z 0] λa=>av a d.p 0 [.o,.o] λ(b c:O)=>K b c Z a)->f e g)->f 0 e):=ai func297 (.v (.y (.v (.x (.t (S [(15,.c (.i .i64))]) (.v (.y .w (.x (.x (.v (.y (.z (.o 1 9 (.o 3 5 (.hold 0 52 63 (.e 2 (.e 4 (.e 5 (.e 6 .done)))))))) (.x .w))))))) .u))) .w))
theorem abj{a b c d e K w}:Fr (Xh a b c d e K w) (A2 w [.z b,.z c,.z d,.z e] 289 λb c=>∀d:W->Pw,(∀(c:W)(e:Y),(∀d:Pw,(∀c:Y,(Dr c λc=>∃d,a=S d/\∃e,c.s d e/\av c b.p 0 [.o,.o,.o,.o] λ(b d f g:O)=>(A2 c [.z b,.z d,.z f,.z g] 289 λb c=>(∃d f,aP qe [40,40] 40 e.v (.slice (S b.p) 1 1) c d f/\∃b,a=S b/\(St f b d.v λa=>K a)/\G)/\G)/\G)->d c)->(bif c then ∃b,a=S b/\∃c,e.s b c/\XM c 0 1 (λb c=>∃e,a=S e/\St c e b.v λa=>d a) e else d e))->d c e)->(Dr c λc=>∃e,c.z b.p e/\∃f,c.z (b.p.add 1) f/\(T4 e (λc e=>e.z (b.p.add 1) f/\(T5 f (λb e=>(c.oneCell'=V/\b.oneCell'=V/\A2 e [c,b] 468 λb c=>(U8 a ⟨S b.p,2,2⟩ (λb c=>bif b==0 then ∃b,a=S b/\∃e,c.s b e/\∃b,a=S b/\∃a,c.z (b.add 1) a/\d (F ((e.len:O)>=a)) c else d Z c) c)/\G)/\G) e)/\G) c)/\G)):=ai func299 (.v (.y (.y (.r (S [(25,.c .b)]) (.o 0 254 (.o 1 48 (.o 2 48 (.o 4 8 (.hold 5 8 4193855 (.e 3 (.e 6 (.e 7 (.e 8 (.o 9 0 (.o 10 0 (.o 11 983040 (.o 12 983040 (.o 13 983040 (.o 14 983040 (.o 15 983040 (.o 16 0 (.o 17 0 (.o 18 0 (.o 19 0 (.o 20 0 (.o 21 0 .done))))))))))))))))))))))) (.t (S []) .u .u)) (.z (.o 0 254 (.o 1 96 (.o 2 96 (.o 3 96 (.o 4 96 (.o 5 0 (.e 6 (.e 7 (.o 8 0 (.o 9 0 (.e 10 .done))))))))))))))
theorem abk{a b c K w}:Fr (UN a b c K w) (T4 b (λb d=>T5 c (λc d=>b.oneCell'=V/\c.oneCell'=V/\A2 d [b,c] 468 λb c=>U8 a ⟨S b.p,2,2⟩ (λa b=>K (F (a>0)) b) c) d) w):=ai func301 (.v .w)
theorem abl{a b c d e K w}:Fr (U7 a b c d e K w) (A2 w [.z a,.z b,.z c,.z d] 289 λa b=>Ys e (.func (.func 414) #[] #[.pointer (S a.p)]) (λa b=>K (!a) b) b):=ai func369 (.v .w)
theorem abm{a K w}:Fr (T4 a K w) (A2 w [.z a] 3 λa b=>K (.func (.func 415) #[] #[.pointer (S a.p)]) b):=ai func370 (.v .w)
theorem abn{a K w}:Fr (T5 a K w) (A2 w [.z a] 3 λa b=>K (.func (.func 416) #[] #[.pointer (S a.p)]) b):=ai func371 (.v .w)
theorem abo{a b K w}:Fr (U8 a b K w) (A2 w [b.v] 504 λb c=>∃d,a=S d/\∃e,c.s d e/\∃d,a=S d/\∃f,c.s d f/\X1 f (.func (.func 418) #[] #[.pointer (S b.p)]) (λb c=>∃d,a=S d/\St c d b.v λb=>∃c,a=S c/\∃a,b.s c a/\K (qd.wrap ((e.len:O)-(a.len:O))) b) c):=ai func374 (.v (.v (.v .w)))
theorem abp{a b K w}:Fr (Yt a b K w) (av w b 0 [.o,.o,.o,.o] λ(b c d e:O)=>cT qe (a) [.agg #[.z b,.z c,.z d,.z e]] w λa b=>∃c,a= .returned (.bool c)/\K (!c) b):=ai func414 (.v .w)
theorem abq{a b c d e K w}:Fr (Yu a b c d e K w) (A2 w [.z a,.z b,.z c,.z d] 289 λa b=>∃c,b.z a.p c/\∃a,b.z e a/\K (c==a) b):=ai func415 (.v .w)
theorem abr{a b c d e K w}:Fr (Yv a b c d e K w) (A2 w [.z a,.z b,.z c,.z d] 289 λa b=>∃c,b.z (a.p.add 1) c/\∃a,b.z e a/\K (c==a) b):=ai func416 (.v .w)
theorem abt{a b c d e K w}:Fr (Yw a b c d e K w) (A2 w [.z a,.z b,.z c,.z d] 289 λa b=>av b a.p 0 [.o,.o,.o,.o] λ(a c d f:O)=>∃g,b.s e g/\U7 a c d f g (λa b=>K a b) b):=ai func418 (.v .w)
theorem abu{K w}:Fr (Tw K w) (A2 w [.slice I 0 0] 237 λa b=>K (S a.p) b):=ai func36 (.v .w)
theorem abv{a b c K w}:Fr (VW a b c K w) (A2 w [.z b,.z c] 155 λb c=>av c b.p 0 [.o,.o] λ(d e:O)=>RS a d e (λc d=>bif F (c>=0)then K 70 d else Dr d λc=>∃d,a=S d/\∃e,c.s d e/\av c b.p 0 [.o,.o] λ(b d:O)=>(A2 c [.z b,.z d,.z 0] 325 λb c=>(∃d f,aP qe [235,235] 235 e.v (.slice (S b.p) 1 1) c d f/\∃b,a=S b/\(St f b d.v λa=>K 0 a)/\G)/\G)/\G) c):=ai func121 (.v (.y (.v (.x .w)) (.y (.z (.o 0 510 (.o 1 224 (.o 2 224 (.o 3 224 (.o 4 224 (.o 5 0 (.o 6 0 (.e 7 (.e 8 .MP)))))))))) .w)))
theorem abw{a b c K w}:Fr (RS a b c K w) (A2 w [.z b,.z c] 155 λb c=>∃d,a=S d/\∃a,c.s d a/\Xm a (.func (.func 320) #[] #[.pointer (S b.p)]) (λa b=>K a b) c):=ai func231 (.v .w)
theorem abx{a K w}:Fr (TL a K w) (∀b:Sl->O->Pw,(∀(c:Sl)(d:O)(e:Y),(bif F (d<(a.len:O))then ∃f,a.a=S f/\0<=d/\d<(a.len:O)/\av e (f.add (d.toNat*3)) 0 [.o,.o,.o] λ(a f g:O)=>A2 e [.z 0,.z 0,.z 0] 325 λh i=>aD i h.p 0 [.z a,.z f,.z g] λa=>av a h.p 0 [.o,.o] λ(f g:O)=>A2 a [.z f,.z g] 155 λa f=>∃g h,aP qe [124,124] 124 c.v (.slice (S a.p) 1 1) f g h/\b g (qd.wrap (d+1)) h else K c e)->b c d e)->b z0 0 w):=ai func245 (.v (.v (.y (.v (.x (.t (S [(3,.c .s),(8,.c (.i .i64))]) .Iq .u))) .w)))
theorem aby{a b c d e K w}:Fr (WT a b c d e K w) (A2 w [.z b,.z c] 155 λb c=>A2 c [.z d,.z e] 155 λc d=>av d b.p 0 [.o,.o] λ(b e:O)=>RS a b e (λb d=>bif F (b<0)then K 71 d else av d c.p 0 [.o,.o] λ(e f:O)=>RS a e f (λd e=>bif F (d>=0)then K 70 e else Dr e λd=>∃e,a=S e/\∃a,d.s e a/\av d c.p 0 [.o,.o] λ(c e:O)=>∃f,a.a=S f/\0<=b/\b<(a.len:O)/\(aD d (f.add (b.toNat*3)) 0 [.z c,.z e] λa=>K 0 a)/\G) d) d):=ai func255 (.v (.v (.y .J5 (.y (.z (.o 0 48 (.o 1 48 (.o 2 48 (.o 3 48 (.o 4 32 .MJ)))))) .w))))
theorem abz{a b c K w}:Fr (WU a b c K w) (A2 w [.z b,.z c] 155 λb c=>av c b.p 0 [.o,.o] λ(b d:O)=>RS a b d (λb c=>bif F (b<0)then K z0 c else Dr c λc=>∃d,a=S d/\∃e,c.s d e/\(U2 a b (λa c=>c.s d e/\0<=a/\a<=(e.cap:O)/\0<=qd.wrap (b+1)/\qd.wrap (b+1)<=(a.toNat:O)/\(TL ⟨eH e.a ((qd.wrap (b+1)).toNat) e.cap 3,a.toNat-((qd.wrap (b+1)).toNat),e.cap-((qd.wrap (b+1)).toNat)⟩ (λa b=>K a b) c)/\G) c)/\G) c):=ai func257 (.v (.v (.y (.v (.x .w)) (.x (.z (.o 0 496 (.o 1 496 (.o 2 496 (.o 4 456 (.o 5 456 (.o 6 136 (.o 7 8 (.hold 3 256 3071 (.e 8 .MO))))))))))))))
theorem abA{a b c d K w}:Fr (Yf a b c d K w) (A2 w [.z a,.z b,.z c] 325 λa b=>av b a.p 0 [.o,.o] λ(a c:O)=>av b d 0 [.o,.o] λ(d e:O)=>∃f,B8 qe .eql 155 (.tmp 5) (.tmp 6) (.agg #[.z a,.z c]) (.agg #[.z d,.z e]) f/\K f b):=ai func320 (.v .w)
theorem abB{a b c d e K w}:Fr (Xv a b c d e K w) (A2 w [.z b,.z c] 155 λb c=>A2 c [.z d,.z e] 155 λc d=>av d b.p 0 [.o,.o] λ(b e:O)=>RS a b e (λb d=>bif F (b<0)then K 71 d else av d c.p 0 [.o,.o] λ(e f:O)=>RS a e f (λd e=>bif F (d>=0)then K 70 e else Dr e λd=>∃e,a=S e/\∃f,d.s e f/\av d c.p 0 [.o,.o] λ(c e:O)=>∃g,a=S g/\∃h,d.s g h/\∃g,h.a=S g/\0<=b/\b<(h.len:O)/\∃h,d.z ((g.add (b.toNat*3)).add 2) h/\(A2 d [.z c,.z e,.z (qd.wrap (h+1))] 325 λc d=>(Ve f (qd.wrap (b+1)) ⟨S c.p,1,1⟩ (λb c=>∃d,a=S d/\(St c d b.v λa=>K 0 a)/\G) d)/\G)/\G) d) d):=ai func340 (.v (.v (.y .J5 (.y (.z (.o 0 1048574 (.o 1 524256 (.o 2 524256 (.o 3 524256 (.o 4 524256 (.o 5 524160 (.o 6 524160 (.o 7 130816 (.o 8 4096 (.o 9 4096 (.o 10 4096 (.o 11 4096 (.o 12 0 (.o 13 0 (.o 14 0 (.o 15 0 (.o 16 0 (.o 17 0 (.e 18 (.e 19 (.o 20 0 (.o 21 0 (.e 22 .done)))))))))))))))))))))))) .w))))
theorem abC{a b c K w}:Fr (Xy a b c K w) (A2 w [.z b,.z c] 155 λb c=>av c b.p 0 [.o,.o] λ(b d:O)=>RS a b d (λb c=>bif F (b<0)then K 71 c else Dr c λc=>∃d,a=S d/\∃e,c.s d e/\(U2 a b (λc f=>f.s d e/\0<=c/\c<=(e.cap:O)/\0<=qd.wrap (b+1)/\qd.wrap (b+1)<=(c.toNat:O)/\∀d:O->Pw,(∀(f:O)(g:Y),(bif F (f<((c.toNat-((qd.wrap (b+1)).toNat):X):O))then ∃h,eH e.a ((qd.wrap (b+1)).toNat) e.cap 3=S h/\0<=f/\f<((c.toNat-((qd.wrap (b+1)).toNat):X):O)/\∃i,g.z ((h.add (f.toNat*3)).add 2) i/\∃h,eH e.a ((qd.wrap (b+1)).toNat) e.cap 3=S h/\0<=f/\f<((c.toNat-((qd.wrap (b+1)).toNat):X):O)/\St g ((h.add (f.toNat*3)).add 2) (.z (qd.wrap (i-1))) λc=>d (qd.wrap (f+1)) c else ∃c,a=S c/\∃d,g.s c d/\Vf d b (qd.wrap (b+1)) (λb c=>∃d,a=S d/\St c d b.v λa=>K 0 a) g)->d f g)->d 0 f) c)/\G) c):=ai func343 (.v (.v (.y (.v (.x .w)) (.y (.z (.o 0 496 (.o 1 496 (.o 2 496 (.o 4 456 (.o 5 456 (.o 6 136 (.o 7 8 (.hold 3 256 2047 (.e 8 (.o 9 0 (.o 10 0 .done)))))))))))) (.y (.v (.x (.t (S [(25,.c (.i .i64))]) .Iq .u))) (.v .w))))))
theorem abD{a b K w}:Fr (U2 a b K w) (∀c:O->Pw,(∀(d:O)(e:Y),(Dr e λe=>∃f,a=S f/\∃g,e.s f g/\bif F (d<(g.len:O))then ∃f,a=S f/\∃g,e.s f g/\∃f,g.a=S f/\0<=d/\d<(g.len:O)/\∃g,e.z ((f.add (d.toNat*3)).add 2) g/\∃f,a=S f/\∃a,e.s f a/\∃f,a.a=S f/\0<=b/\b<(a.len:O)/\∃a,e.z ((f.add (b.toNat*3)).add 2) a/\bif F (g>a)then c (qd.wrap (d+1)) e else K d e else K d e)->c d e)->c (qd.wrap (b+1)) w):=ai func349 (.v (.v (.y (.x (.t (S [(5,.c (.i .i64))]) (.y (.y (.z (.o 0 62 (.o 1 0 (.o 2 0 (.o 3 0 (.o 4 0 (.o 5 0 (.o 6 0 (.o 7 0 (.o 8 16715776 (.o 9 16715776 (.o 10 16715776 (.o 11 16715776 (.o 12 16711680 (.o 13 16711680 (.o 14 16711680 (.o 15 16711680 (.o 16 1048576 (.o 17 1048576 (.o 18 1048576 (.o 19 1048576 (.o 20 0 (.o 21 0 (.o 22 0 (.o 23 0 (.o 24 0 (.o 25 0 .done))))))))))))))))))))))))))) .w) .w) .u)) .w)))
namespace Tr
abbrev Tr:=J fc
def bz(T:Tr)(s:Slot):qg X:=T.findIdx? λx=>F (x.1=s)
def vh(T:Tr)(i:X):O:=match T[i]? with|some x=>x.2|none=>0
def dN(T:Tr)(i:X):X:=i+1+((T.drop (i+1)).takeWhile λx=>F (vh T i<x.2)).length
def BW:O->Tr->Prop
 |_,[]=>G
 |p,x::T=>0<=x.2/\x.2<=p+1/\BW x.2 T
structure ph(T:Tr):Prop where
 fh:T.length<=1000000
 wf:BW (-1) T
 nd:(T.map (·.1)).Nodup
def nT(T:Tr)(s:Slot):O × Tr:=match bz T s with|some _=>(70,T)|none=>(0,T++ [(s,0)])
def yE(T:Tr)(p s:Slot):O × Tr:=match bz T p with
 |none=>(71,T)
 |some i=>match bz T s with|some _=>(70,T)|none=>(0,T.take (i+1)++ [(s,vh T i+1)]++T.drop (i+1))
def eZ(l:Tr):Tr:=l.map λx=>(x.1,x.2-1)
def takeN(T:Tr)(s:Slot):O × Tr:=match bz T s with
 |none=>(71,T)
 |some i=>(0,T.take i++(eZ ((T.drop (i+1)).take (dN T i-(i+1)))++T.drop (dN T i)))
def dW(T:Tr)(f t:Slot):O × Tr:=match bz T f with
 |none=>(71,T)
 |some i=>match bz T t with|some _=>(70,T)|none=>(0,T.set i (t,vh T i))
def cq(T:Tr)(s:Slot):J Slot:=match bz T s with
 |none=>[]
 |some i=>((T.drop (i+1)).take (dN T i-(i+1))).map (·.1)
theorem Eb:∀(T:Tr)(p:O)(i:X)(x:fc),-1<=p->BW p T->T[i]?=S x->0<=x.2/\x.2<=p+1+(i:O)
 | [],_,i,x,_,_,h=>by simp at h
 |y::T,p,0,x,hp,hw,h=>by simp only[PA,Option.some.injEq]at h;subst h;exact⟨hw.1,by have:=hw.2.1;omega⟩
 |y::T,p,i+1,x,hp,hw,h=>by rw[OK]at h;have h1:=hw.1;have h2:=hw.2.1;have:=Eb T y.2 i x om hw.2.2 h;omega
theorem ph.zT{T:Tr}(h:ph T){i:X}{x:fc}(hx:T[i]?=S x):0<=x.2/\x.2<=1000000:=by have h1:=Eb T (-1) i x om h.wf hx;have h2:=(Om.1 hx).1;have h3:=h.fh;omega
theorem dA{T:Tr}{s:Slot}{i:X}(h:bz T s=S i):∃x,T[i]?=S x/\x.1=s:=by unfold bz at h;obtain⟨h1,h2,_⟩:=OT.1 h;exact⟨T[i],gE h1,by simpa using h2⟩
theorem pM{T:Tr}{s:Slot}(h:bz T s=I):∀x∈T,x.1≠s:=by unfold bz at h;rw[Pa]at h;intro x hx;simpa using h x hx
theorem gM{T:Tr}{i:X}{x:fc}(h:T[i]?=S x):vh T i=x.2:=by unfold vh;rw[h]
theorem sA(T:Tr){i:X}(hi:i<T.length):i<dN T i/\dN T i<=T.length:=by unfold dN;have:((T.drop (i+1)).takeWhile λx=>F (vh T i<x.2)).length<=(T.drop (i+1)).length:=(List.takeWhile_sublist _).length_le;rw[Qd]at this;omega
theorem EL(T:Tr)(s:Slot):dH (λx:fc=>F (x.1=s)) T=match bz T s with|some i=>(i:O)|none=> -1:=rfl
def bZ(b:X)(T:Tr):aH:=pa λs:Sl=>bo [dJ (ph T),aa b [bL s],af aY s T]
section
variable{B:X}{w0 w:Y}{R L:J aH}{b:X}{T:Tr}
theorem _root_.Go.Vc.Ow.tree(h:Ow B w0 w (bZ b T::R)):∃s,ph T/\Ow B w0 w (af aY s T::aa b [bL s]::R):=by obtain⟨s,h⟩:=h.ex;obtain⟨h1,h⟩:=Ow.pure h.star;exact⟨s,h1,Ow.cw h⟩
theorem _root_.Go.Vc.Ow.fY{s:Sl}(h1:ph T)(h:Ow B w0 w (af aY s T::aa b [bL s]::R)):Ow B w0 w (bZ b T::R):=
 Ow.eP s (Ow.br (Ow.cZ h1 (Ow.cw h)))
theorem kX{K:qg qf->Pw}(h:Ow B w0 w R)(hK:∀b w',Ow B w0 w' (bZ b []::R)->K b.o w'):Tw K w:=by
 apply abu;refine h.al λw1 h=>?_;exact hK _ w1 (Ow.fY (s:=z0) ⟨qc,trivial,qc⟩ (Ow.cH h))
theorem fj{s:Sl}{x:Slot}{K:O->Pw}(hT:ph T)(h:Ow B w0 w (af aY s T::aa b [bL s]::R))(hK:∀w',Ow B w0 w' (af aY s T::aa b [bL s]::R)->K (match bz T x with|some i=>(i:O)|none=> -1) w'):
  RS b.o x.1 x.2 K w:=by
 apply abw;refine h.a λc w1 h=>?_;repeat first|refine h.l1 U ?_|refine eX ?_
 refine uR (L:=aa c [.z x.1,.z x.2]::af aY s T::aa b [bL s]::R) (xs:=T) (p:=λy=>F (y.1=x)) h (by have:=hT.fh;omega) (λy w ae5 h hQ=>?_) λw h=>?_
 .refine aT ?_
  have hA:Yf y.1.1 y.1.2 y.2 c.p ae5 w:=by
   apply abA;repeat first|refine h.al λw h=>?_|refine h.aN U ?_
   exact⟨_,H0 y.1 x,hQ _ h.sub⟩
  exact hA
 .rw[EL]
  exact hK _ h.sub
theorem wy{s:Sl}{i:X}{K:O->Pw}(hT:ph T)(hi:i<T.length)(h:Ow B w0 w (af aY s T::aa b [bL s]::R))(hK:∀w',Ow B w0 w' (af aY s T::aa b [bL s]::R)->K ((dN T i:X):O) w'):
  U2 b.o (i:O) K w:=by
 apply abD;have hlen:=h.aL s;have hfew:=hT.fh;obtain⟨xi,hxi⟩:∃x,T[i]?=S x:=⟨_,gE hi⟩
 intro l hl;have loop:∀(rest:Tr)(k:X)(w:Y),T.drop k=rest->k<=T.length->i<k->k+(rest.takeWhile λx=>F (vh T i<x.2)).length=dN T i->Ow B w0 w (af aY s T::aa b [bL s]::R)->l (k:O) w:=by
  intro rest;induction rest with
  |nil=>
   intro k w hk hkl hik he h;have:T.length<=k:=by have:=qw PI hk;simp at this;omega
   apply hl;repeat first|refine h.dr λw h=>?_|refine h.l1 U ?_|refine eX ?_
   refine aw om ?_;have:k=dN T i:=by simpa using he
   rw[this];exact hK _ h
  |cons y rest ih=>
   intro k w hk hkl hik he h;have hkl2:k<T.length:=by have:=qw PI hk;simp at this;omega
   have hx:T[k]?=S y:=by have:=qw (λl=>l[0]?) hk;simpa using this
   apply hl;repeat first|refine h.dr λw h=>?_|refine h.l1 U ?_|refine eX ?_
   refine az om ?_;repeat first|refine h.l1 U ?_|refine eX ?_
   refine h.bX U hx λa ha h0 hc=>⟨_,hc 2 _ U,?_⟩
   repeat first|refine h.l1 U ?_|refine eX ?_
   refine h.bX U hxi λa ha h0 hc=>⟨_,hc 2 _ U,?_⟩
   refine bg (λe=>?_) (λe=>?_)
   .rw[wr om om]
    refine ih (k+1) _ (by rw[<-Pz,hk];rfl) om om ?_ h;rw[Rv (by rw[gM hxi];simpa using e)]at he;simp at he;omega
   .rw[Ru (by rw[gM hxi];simpa using e)]at he
    have:k=dN T i:=by simpa using he
    rw[this];exact hK _ h
 rw[wI i om];exact loop _ (i+1) w U om om U h
theorem ph.root{s:Slot}(hT:ph T)(hl:T.length<1000000)(h:bz T s=I):ph (T++ [(s,0)]):=by
 refine⟨by simp;omega,?_,?_⟩
 .have:∀(T:Tr)(p:O),-1<=p->BW p T->BW p (T++ [(s,0)]):=by
   intro T;induction T with
   |nil=>intro p hp _;exact⟨qc,by show(0:O)<=p+1;omega,trivial⟩
   |cons x T ih=>intro p hp hw;exact⟨hw.1,hw.2.1,ih _ (by have:=hw.1;omega) hw.2.2⟩
  exact this T _ om hT.wf
 .rw[OS,OZ,Qb,PZ]
  refine⟨hT.nd,qc,λa ha c hc=>?_⟩;simp only[OY]at hc;subst hc;obtain⟨x,hx,rfl⟩:=O4.1 ha;exact pM h x hx
theorem wu{s:Slot}{K:O->Pw}(hl:T.length<1000000)(h:Ow B w0 w (bZ b T::R))(hK:∀w',Ow B w0 w' (bZ b (nT T s).2::R)->K (nT T s).1 w'):VW b.o s.1 s.2 K w:=by
 apply abv;obtain⟨sl,hT,h⟩:=h.tree;unfold nT at hK;repeat first|refine h.al λw h=>?_|refine h.aN U ?_
 refine fj (x:=s) hT h.lK.lK λw h=>?_;cases hp:bz T s with
 |some i=>
  rw[hp]at hK;refine az (by show(i:O)>=0;omega) ?_;exact hK _ (Ow.fY hT h.HM)
 |none=>
  rw[hp]at hK;refine aw qb ?_;repeat first|refine h.al λw h=>?_|refine h.dr λw h=>?_|refine h.aN U ?_|refine h.l1 U ?_|refine eX ?_|refine _root_.Go.Vc.a2 ?_
  refine xw (xs:=T) (y:=(s,0)) h om λs' w hs' h=>?_;repeat first|refine eX ?_|refine _root_.Go.Vc.a2 ?_|refine h.jx U U λw h=>?_
  exact hK _ (Ow.fY (s:=s') (hT.root hl hp) h.sub)
theorem sk:∀(ae7:Tr)(p:O)(ae5:Tr),BW p (ae7++ae5)↔BW p ae7/\BW (match ae7.getLast? with|some x=>x.2|none=>p) ae5
 | [],p,ae5=>by simp[BW]
 |x::ae7,p,ae5=>by
  simp only[List.cons_append,BW,sk ae7 x.2 ae5];cases hA:ae7 with
  |nil=>simp[BW];constructor<;>(intro h;simp_all)
  |cons y A'=>
   rw[<-hA];have:(x::ae7).getLast?=ae7.getLast?:=by rw[hA];simp
   rw[this];have h2:∃z,ae7.getLast?=S z:=by rw[hA];exact⟨_,List.getLast?_eq_some_getLast qc⟩
   obtain⟨z,hz⟩:=h2;rw[hz];constructor
   .rintro ⟨h1,h2,h3,h4⟩;exact⟨⟨h1,h2,h3⟩,h4⟩
   .rintro ⟨⟨h1,h2,h3⟩,h4⟩;exact⟨h1,h2,h3,h4⟩
theorem BX{p q:O}(hpq:p<=q):∀{T:Tr},BW p T->BW q T
 | [],_=>trivial
 |x::T,h=>⟨h.1,by have:=h.2.1;omega,h.2.2⟩
theorem xQ{T:Tr}{i:X}{x:fc}(h:T[i]?=S x):(T.take (i+1)).getLast?=S x:=by rw[List.getLast?_take,Q om,show i+1-1=i from U,h];rfl
theorem ph.add{p s:Slot}{i:X}(hT:ph T)(hl:T.length<1000000)(hp:bz T p=S i)(h:bz T s=I):ph (T.take (i+1)++ [(s,vh T i+1)]++T.drop (i+1)):=by
 obtain⟨x,hx,_⟩:=dA hp;have hi:=(Om.1 hx).1;have hr:=hT.zT hx;refine⟨by simp;omega,?_,?_⟩
 .have hw:=hT.wf
  have e:T=T.take (i+1)++T.drop (i+1):=(O8 _ _).symm;rw[e,sk,xQ hx]at hw;rw[O1,sk,xQ hx];refine⟨hw.1,?_⟩;rw[gM hx];exact⟨by show 0<=x.2+1;omega,RK _,BX (by show x.2<=x.2+1;omega) hw.2⟩
 .have hn:=hT.nd
  have e:T=T.take (i+1)++T.drop (i+1):=(O8 _ _).symm;rw[e,OS]at hn;rw[O1,OS,OS];have hnot:s∉T.map (·.1):=λhm=>by obtain⟨y,hy,hys⟩:=O4.1 hm;exact pM h y hy hys
  rw[e,OS,Pn,not_or]at hnot;rw[PZ]at hn|-;refine⟨hn.1,?_,λa ha c hc=>?_⟩
  .rw[OZ,Qb,RT,Pu]
   exact⟨hnot.2,hn.2.1⟩
  .rw[OZ,Qb,RT,Oz]at hc
   rcases hc with rfl|hc
   .intro e;subst e;exact hnot.1 ha
   .exact hn.2.2 a ha c hc
theorem xl{p s:Slot}{K:O->Pw}(hl:T.length<1000000)(h:Ow B w0 w (bZ b T::R))(hK:∀w',Ow B w0 w' (bZ b (yE T p s).2::R)->K (yE T p s).1 w'):Xv b.o p.1 p.2 s.1 s.2 K w:=by
 apply abB;obtain⟨sl,hT,h⟩:=h.tree;unfold yE at hK;repeat first|refine h.al λw h=>?_|refine h.aN U ?_
 refine fj (x:=p) hT h.xm.xm λw h=>?_;cases hp:bz T p with
 |none=>
  rw[hp]at hK;refine az qb ?_;exact hK _ (Ow.fY hT h.Lk.HM)
 |some i=>
  obtain⟨x,hx,hxp⟩:=dA hp;have hr:=hT.zT hx;have hi:=(Om.1 hx).1;rw[hp]at hK;refine aw (by show ¬(i:O)<0;omega) ?_
  (refine h.aN U ?_)
  refine fj (x:=s) hT h λw h=>?_;cases hs:bz T s with
  |some j=>
   simp only[hs]at hK;refine az (by show(j:O)>=0;omega) ?_;exact hK _ (Ow.fY hT h.Lk.HM)
  |none=>
   simp only[hs]at hK;refine aw qb ?_;repeat first|refine h.dr λw h=>?_|refine h.aN U ?_|refine h.l1 U ?_|refine eX ?_
   refine h.bX U hx λa ha h0 hc=>⟨_,hc 2 _ U,?_⟩
   rw[show qd.wrap (x.2+1)=vh T i+1 from by rw[gM hx,wr om om]];repeat first|refine h.al λw h=>?_|refine _root_.Go.Vc.a2 ?_
   show Ve sl (qd.wrap ((i:O)+1)) _ _ _;rw[wI i om];refine z6 (y:=(s,vh T i+1)) h.cw om om λs' w h=>?_;repeat first|refine eX ?_|refine _root_.Go.Vc.a2 ?_|refine h.jx U U λw h=>?_
   exact hK _ (Ow.fY (s:=s') (hT.add hl hp hs) h.Lk.HM)
theorem Ec{s:Slot}:∀(T:Tr)(p:O)(i:X)(x:fc),T[i]?=S x->BW p T->BW p (T.set i (s,x.2))
 | [],_,_,_,h,_=>by simp at h
 |y::T,p,0,x,h,hw=>by simp only[PA,Option.some.injEq]at h;subst h;exact hw
 |y::T,p,i+1,x,h,hw=>⟨hw.1,hw.2.1,Ec T y.2 i x (by simpa using h) hw.2.2⟩
theorem ye{α:Type}:∀(l:J α)(i:X)(s:α),l.Nodup->s∉l->(l.set i s).Nodup
 | [],_,_,_,_=>by simp
 |a::l,0,s,hn,hs=>by rw[Pj,Pu];exact⟨λh=>hs (List.mem_cons_of_mem _ h),(Pu.1 hn).2⟩
 |a::l,i+1,s,hn,hs=>by
  rw[OI,Pu];rw[Oz,not_or]at hs;refine⟨λh=>?_,ye l i s (Pu.1 hn).2 hs.2⟩;rcases Px h with h|h
  .exact (Pu.1 hn).1 h
  .exact hs.1 h.symm
theorem ph.move{f t:Slot}{i:X}(hT:ph T)(hp:bz T f=S i)(h:bz T t=I):ph (T.set i (t,vh T i)):=by
 obtain⟨x,hx,_⟩:=dA hp;refine⟨by rw[Pe];exact hT.fh,by rw[gM hx];exact Ec T _ i x hx hT.wf,?_⟩;rw[RX];refine ye _ _ _ hT.nd λhm=>?_;obtain⟨y,hy,hys⟩:=O4.1 hm;exact pM h y hy hys
theorem K0{s:Sl}{xs:J fc}{i:X}{a:qf}{x:fc}{t:Slot}{k:Pw}(h:Ow B w0 w (af aY s xs::R))(hx:xs[i]?=S x)(ha:s.a=S a)(hk:∀w',Ow B w0 w' (af aY s (xs.set i (t,x.2))::R)->k w'):aD w (a.add ((i:O).toNat*3)) 0 [.z t.1,.z t.2] k:=by
 have hi:=(Om.1 hx).1;have e:∀(y:fc)(w:Y)(k:Pw),St w ((a.add ((i:O).toNat*3)).add 0) (.z t.1) (λw'=>St w' ((a.add ((i:O).toNat*3)).add 1) (.z t.2) k)->aD w (a.add ((i:O).toNat*3)) 0 [.z t.1,.z t.2] k:=λ_ _ _ h=>h;refine e x _ _ ?_;refine h.rX (x:=x) (c:=0) ((t.1,x.1.2),x.2) U hx ha U qb U λw h=>?_;refine h.rX (x:=((t.1,x.1.2),x.2)) (c:=1) (t,x.2) U (by rw[Pb,A U,A hi]) ha U qb U λw h=>?_;rw[QC]at h;exact hk w h
theorem wq{f t:Slot}{K:O->Pw}(h:Ow B w0 w (bZ b T::R))(hK:∀w',Ow B w0 w' (bZ b (dW T f t).2::R)->K (dW T f t).1 w'):WT b.o f.1 f.2 t.1 t.2 K w:=by
 apply aby;obtain⟨sl,hT,h⟩:=h.tree;unfold dW at hK;repeat first|refine h.al λw h=>?_|refine h.aN U ?_
 refine fj (x:=f) hT h.xm.xm λw h=>?_;cases hp:bz T f with
 |none=>
  rw[hp]at hK;refine az qb ?_;exact hK _ (Ow.fY hT h.Lk.HM)
 |some i=>
  obtain⟨x,hx,hxp⟩:=dA hp;have hi:=(Om.1 hx).1;rw[hp]at hK;refine aw (by show ¬(i:O)<0;omega) ?_
  (refine h.aN U ?_)
  refine fj (x:=t) hT h λw h=>?_;cases hs:bz T t with
  |some j=>
   simp only[hs]at hK;refine az (by show(j:O)>=0;omega) ?_;exact hK _ (Ow.fY hT h.Lk.HM)
  |none=>
   simp only[hs]at hK;refine aw qb ?_;repeat first|refine h.dr λw h=>?_|refine h.aN U ?_|refine h.l1 U ?_|refine eX ?_
   refine h.bX U hx λa ha h0 hc=>?_;refine Go.Vc.a2 ?_;refine K0 (t:=t) h hx ha λw h=>?_;have hm:=hT.move hp hs;rw[gM hx]at hm hK;exact hK _ (Ow.fY (s:=sl) hm h.Lk.HM)
theorem ph.take{T:Tr}{s:Slot}{i:X}(hT:ph T)(hp:bz T s=S i):ph (T.take i++(eZ ((T.drop (i+1)).take (dN T i-(i+1)))++T.drop (dN T i))):=by
 obtain⟨x,hx,_⟩:=dA hp;have hi:=(Om.1 hx).1;obtain⟨e1,e2⟩:=sA T hi;have hsub:(((T.take i++(eZ ((T.drop (i+1)).take (dN T i-(i+1)))++T.drop (dN T i)))).map (·.1)).Sublist (T.map (·.1)):=by
  have h1:T=T.take i++(T.drop i):=(O8 _ _).symm;have h2:T.drop i=x::T.drop (i+1):=by rw[Pt hi];rw[gE hi]at hx;cases hx;rfl
  have h3:T.drop (i+1)=(T.drop (i+1)).take (dN T i-(i+1))++T.drop (dN T i):=by have:=(O8 (dN T i-(i+1)) (T.drop (i+1))).symm;rw[Pz,show i+1+(dN T i-(i+1))=dN T i from by omega]at this;exact this
  have h4:(eZ ((T.drop (i+1)).take (dN T i-(i+1)))).map (·.1)=((T.drop (i+1)).take (dN T i-(i+1))).map (·.1):=by unfold eZ;rw[List.map_map];rfl
  rw[OS,OS,h4,<-OS,<-h3]
  conv=>rhs;rw[h1,h2]
  rw[OS,OZ];exact(List.sublist_cons_self _ _).append_left _
 refine⟨?_,?_,List.Nodup.sublist hsub hT.nd⟩
 .have:=hsub.length_le
  rw[O3,O3]at this;have:=hT.fh;omega
 .
  have hw:=hT.wf;have h1:T=T.take i++(T.drop i):=(O8 _ _).symm;have h2:T.drop i=x::T.drop (i+1):=by rw[Pt hi];rw[gE hi]at hx;cases hx;rfl
  have hd:=gM hx;have hend:dN T i-(i+1)=((T.drop (i+1)).takeWhile λy=>F (x.2<y.2)).length:=by unfold dN;rw[hd];omega
  have hdrop:T.drop (dN T i)=(T.drop (i+1)).dropWhile λy=>F (x.2<y.2):=by
   have e:dN T i=i+1+((T.drop (i+1)).takeWhile λy=>F (x.2<y.2)).length:=by unfold dN;rw[hd]
   rw[e,<-Pz]
   conv=>lhs;rw[<-QN (p:=λy:fc=>F (x.2<y.2)) (l:=T.drop (i+1))]
   rw[Ti (by rw[QN])]
  have htake:(T.drop (i+1)).take (dN T i-(i+1))=(T.drop (i+1)).takeWhile λy=>F (x.2<y.2):=by
   rw[hend]
   conv=>lhs;rw[<-QN (p:=λy:fc=>F (x.2<y.2)) (l:=T.drop (i+1))]
   rw[List.take_left' (by rw[QN])]
  rw[h1,h2,sk]at hw;rw[htake,hdrop,sk];refine⟨hw.1,?_⟩;obtain⟨_,hx0,hx1,hrest⟩:=hw;generalize (match(T.take i).getLast? with|some x=>x.2|none=> -1:O)=q at hx1|-;generalize T.drop (i+1)=D at hrest;have key:∀(D:Tr)(p:O),x.2<=p->BW p D->BW (p-1) (eZ (D.takeWhile λy=>F (x.2<y.2))++D.dropWhile λy=>F (x.2<y.2)):=by
   intro D;induction D with
   |nil=>intro p _ _;exact trivial
   |cons y D ih=>
    intro p hp hw;by_cases e:x.2<y.2
    .rw[Rv (by simpa using e),List.dropWhile_cons_of_pos (by simpa using e)]
     exact⟨by show 0<=y.2-1;omega,by show y.2-1<=p-1+1;have:=hw.2.1;omega,ih y.2 om hw.2.2⟩
    .rw[Ru (by simpa using e),List.dropWhile_cons_of_neg (by simpa using e)]
     exact⟨hw.1,by show y.2<=p-1+1;omega,hw.2.2⟩
  exact BX om (key D x.2 (RK _) hrest)
theorem zF{s:Sl}{xs:Tr}{K:Sl->Pw}(hr:Rd aY B w0 L s xs)(hbig:xs.length<=1000000)(h:Ow B w0 w L)(hK:∀s' w',Ow B w0 w' (af aI s' (xs.map (·.1))::L)->K s' w'):TL s K w:=by
 apply abx;have hlen:=hr.len;intro l hl;have loop:∀(rest:Tr)(j:X)(o:Sl)(w:Y),xs.drop j=rest->j<=xs.length->Ow B w0 w (af aI o ((xs.take j).map (·.1))::L)->l o (j:O) w:=by
  intro rest;induction rest with
  |nil=>
   intro j o w hj hjl h;have:xs.length<=j:=by have:=qw PI hj;simp at this;omega
   apply hl;refine aw om ?_;rw[Ou this]at h;exact hK _ _ h
  |cons x rest ih=>
   intro j o w hj hjl h;have hjl2:j<xs.length:=by have:=qw PI hj;simp at this;omega
   have hx:xs[j]?=S x:=by have:=qw (λl=>l[0]?) hj;simpa using this
   apply hl;refine az om ?_;have hr2:Rd aY B w0 (af aI o ((xs.take j).map (·.1))::L) s xs:=hr.more;refine hr2.ix h U hx λa ha h0 hc=>?_;refine G4 hc ?_;refine h.al λw h=>?_;refine h.ay U U λw h=>?_;refine h.aN U ?_;refine h.al λw h=>?_;have h:=h.vU;refine jA (ys:=((xs.take j).map λy:fc=>y.1)) (y:=x.1) h (by simp;omega) λo' w ho' h=>?_;rw[wI j om];refine ih (j+1) o' w (by rw[<-Pz,hj];rfl) om ?_;rw[OG,hx,OS];exact h
 exact loop xs 0 z0 w U om (Ow.cH h)
theorem ur{s:Slot}{K:Sl->Pw}(h:Ow B w0 w (bZ b T::R))(hK:∀s' w',Ow B w0 w' (af aI s' (cq T s)::bZ b T::R)->K s' w'):WU b.o s.1 s.2 K w:=by
 apply abz;obtain⟨sl,hT,h⟩:=h.tree;have hlen:=h.aL sl;have hcap:=h.kG.fK;have hfew:=hT.fh;unfold cq at hK;repeat first|refine h.al λw h=>?_|refine h.aN U ?_
 refine fj (x:=s) hT h.lK.lK λw h=>?_;cases hp:bz T s with
 |none=>
  rw[hp]at hK;refine az qb ?_;have h2:Ow B w0 w (bZ b T::R):=Ow.fY (s:=sl) hT h.HM;exact hK _ w (Ow.cH h2)
 |some i=>
  obtain⟨x,hx,hxp⟩:=dA hp;have hi:=(Om.1 hx).1;obtain⟨e1,e2⟩:=sA T hi;rw[hp]at hK;refine aw (by show ¬(i:O)<0;omega) ?_;have ew:qd.wrap ((i:O)+1)=((i+1:X):O):=by rw[wr om om];omega
  have fin:∀w,Ow B w0 w (af aY sl T::aa b [bL sl]::R)->TL ⟨Vc.eH sl.a (i+1) sl.cap 3,dN T i-(i+1),sl.cap-(i+1)⟩ K w:=λw h=>by
   refine zF (Rd.part (s:=sl) (xs:=T) (E:=aY) (p:=i+1) (n:=dN T i-(i+1)) om) (by simp;omega) h λs' w h=>?_;have h2:Ow B w0 w (bZ b T::af aI s' _::R):=Ow.fY (s:=sl) hT h.lK.lK;exact hK _ _ h2.cw
  have h:=h.HM;repeat first|refine h.dr λw h=>?_|refine h.l1 U ?_|refine eX ?_|refine _root_.Go.Vc.a2 ?_
  refine wy hT hi h λw h=>?_
  (refine⟨h.aF U,?_⟩)
  show _/\_/\0<=qd.wrap ((i:O)+1)/\qd.wrap ((i:O)+1)<=_/\TL ⟨Vc.eH sl.a (qd.wrap ((i:O)+1)).toNat sl.cap 3,_-(qd.wrap ((i:O)+1)).toNat,sl.cap-(qd.wrap ((i:O)+1)).toNat⟩ _ _/\G;rw[ew];refine⟨om,om,om,by simp only[Oo];omega,Go.Vc.a2 ?_⟩;exact fin w h
def ig(T:Tr)(i k:X):Tr:=T.take (i+1)++(eZ ((T.drop (i+1)).take k)++T.drop (i+1+k))
theorem vq(T:Tr)(i k:X):(ig T i k).length=T.length:=by unfold ig eZ;simp;omega
theorem Hb{T:Tr}{i k j:X}(hk:k<=j):(ig T i k)[i+1+j]?=T[i+1+j]?:=by
 unfold ig eZ;by_cases hl:i+1+k<=T.length
 .have h1:(T.take (i+1)).length=i+1:=by simp;omega
  have h2:(((T.drop (i+1)).take k).map λx:fc=>(x.1,x.2-1)).length=k:=by simp;omega
  rw[OA om,h1,OA om,h2,OP];congr 1;omega
 .rw[OQ (l:=T) om,OQ]
  simp;omega
theorem EU{T:Tr}{i k:X}{x:fc}(hx:T[i+1+k]?=S x):(ig T i k).set (i+1+k) (x.1,x.2-1)=ig T i (k+1):=by
 have hl:=(Om.1 hx).1;unfold ig eZ;have h1:(T.take (i+1)).length=i+1:=by simp;omega
 have h2:(((T.drop (i+1)).take k).map λx:fc=>(x.1,x.2-1)).length=k:=by simp;omega
 rw[Qg _ _ om,h1,Qg _ _ om,h2,show i+1+k-(i+1)-k=0 from by omega];have h3:T.drop (i+1+k)=x::T.drop (i+1+(k+1)):=by rw[Pt hl];rw[gE hl]at hx;cases hx;rfl
 have h4:(T.drop (i+1)).take (k+1)=(T.drop (i+1)).take k++ [x]:=by rw[OG,OP,hx];rfl
 rw[h3,h4,Pj,OS,O1];rfl
theorem EV(T:Tr)(i:X):ig T i 0=T:=by unfold ig eZ;simp
theorem wx{s:Slot}{K:O->Pw}(h:Ow B w0 w (bZ b T::R))(hK:∀w',Ow B w0 w' (bZ b (takeN T s).2::R)->K (takeN T s).1 w'):Xy b.o s.1 s.2 K w:=by
 apply abC;obtain⟨sl,hT,h⟩:=h.tree;have hlen:=h.aL sl;have hcap:=h.kG.fK;have hfew:=hT.fh;unfold takeN at hK;repeat first|refine h.al λw h=>?_|refine h.aN U ?_
 refine fj (x:=s) hT h.lK.lK λw h=>?_;cases hp:bz T s with
 |none=>
  rw[hp]at hK;refine az qb ?_;exact hK _ (Ow.fY (s:=sl) hT h.HM)
 |some i=>
  obtain⟨x,hx,hxp⟩:=dA hp;have hi:=(Om.1 hx).1;obtain⟨e1,e2⟩:=sA T hi;rw[hp]at hK;simp only at hK;refine aw (by show ¬(i:O)<0;omega) ?_;have ew:qd.wrap ((i:O)+1)=((i+1:X):O):=by rw[wr om om];omega
  generalize hm:dN T i-(i+1)=m at*
  have fin:∀(l:O->Pw),(∀(t15:O)(w16:Y),(bif F (t15<(m:O))then
    (∃a17:qf,Vc.eH sl.a (i+1) sl.cap 3=S a17/\0<=t15/\t15<(m:O)/\∃depth18:O,w16.cell? ((a17.add (t15.toNat*3)).add 2)=S (.z depth18)/\
     ∃a19:qf,Vc.eH sl.a (i+1) sl.cap 3=S a19/\0<=t15/\t15<(m:O)/\
     St w16 ((a19.add (t15.toNat*3)).add 2) (.z (qd.wrap (depth18-(1:O)))) λw20=>l (qd.wrap (t15+(1:O))) w20)
    else
    (∃a21:qf,S b.p=S a21/\∃l22:Sl,w16.cell? a21=S l22.v/\
     Vf l22 (i:O) (((i+1:X):O)) (λr23 w24=>∃a25:qf,S b.p=S a25/\St w24 a25 r23.v λw26=>K (0:O) w26) w16))->l t15 w16)->
    ∀w,Ow B w0 w (af aY sl T::aa b [bL sl]::R)->l 0 w:=λl hl w h=>by
   have loop:∀(n k:X)(w:Y),k+n=m->Ow B w0 w (af aY sl (ig T i k)::aa b [bL sl]::R)->l (k:O) w:=by
    intro n;induction n with
    |zero=>
     intro k w hk h;obtain rfl:k=m:=om
     apply hl;refine aw om ?_;repeat first|refine h.l1 U ?_|refine eX ?_
     refine zW h om (by rw[vq];omega) (by rw[vq];omega) λs' w h=>?_;repeat first|refine eX ?_|refine h.jx U U λw h=>?_
     have hd:(ig T i k).take i++(ig T i k).drop (i+1)=T.take i++(eZ ((T.drop (i+1)).take k)++T.drop (dN T i)):=by
      have h1:(T.take (i+1)).length=i+1:=by simp;omega
      have h2:(ig T i k).take i=T.take i:=by unfold ig;rw[PR om,QL,Pv om]
      have h3:(ig T i k).drop (i+1)=eZ ((T.drop (i+1)).take k)++T.drop (i+1+k):=by unfold ig;rw[Ti h1]
      rw[h2,h3,show i+1+k=dN T i from by omega]
     rw[hd]at h;have hok:=hT.take hp;rw[hm]at hok;exact hK _ (Ow.fY (s:=s') hok h)
    |succ n ih=>
     intro k w hk h;obtain⟨y,hy⟩:∃y,T[i+1+k]?=S y:=⟨_,gE om⟩
     have hy2:(ig T i k)[i+1+k]?=S y:=by rw[Hb (On _)];exact hy
     have hyr:=hT.zT hy;apply hl;refine az om ?_;obtain⟨a,a0,ha0,ha,he⟩:=h.Ka (s:=sl) (E:=aY) (xs:=ig T i k) (p:=i+1) (n:=m) (t:=k) (by rw[vq];omega) om;have he:a.add (k*3)=a0.add (((i+1+k:X):O).toNat*3):=by rw[Oo];exact he
     obtain⟨_,hc⟩:=h.Lf (s:=sl) (E:=aY) (i:=((i+1+k:X):O)) (j:=i+1+k) U hy2 ha0;have hc:w.cell? ((a0.add (((i+1+k:X):O).toNat*3)).add 2)=S (.z y.2):=hc 2 _ U;refine⟨a,ha,om,om,y.2,?_,a,ha,om,om,?_⟩
     .rw[Oo,he];exact hc
     .rw[Oo,he,wr om om]
      refine h.rX (E:=aY) (x:=y) (c:=2) (y.1,y.2-1) U hy2 ha0 U qb U λw h=>?_;rw[EU hy]at h;rw[wI k om];exact ih (k+1) w om h
   exact loop m 0 w om (by rw[EV];exact h)
  have h:=h.HM;repeat first|refine h.dr λw h=>?_|refine h.l1 U ?_|refine eX ?_|refine _root_.Go.Vc.a2 ?_
  refine wy hT hi h λw h=>?_
  (refine⟨h.aF U,?_⟩)
  dsimp only;rw[ew];refine⟨om,om,om,by simp only[Oo];omega,?_⟩;intro l hl;subst hm;exact fin l hl w h
end
end Tr
theorem abE{K w}:Fr (VV K w) (Al w (.map #[] 0) λa=>A2 a (Oq 256 (.slice I 0 0)++[.map (S w.heap.size),.y 0,.y 0,.y 0,.y 0]) 376 λa b=>K (S a.p) b):=ai func119 (.v .w)
theorem abF{a K w}:Fr (VX a K w) (∃b,a=S b/\av w (b.add 257) 0 [.u,.u,.u,.u] λ(b c d e:O)=>WK b c d e (λb c=>bif F (b<0)then K 0 Z c else ∃d,a=S d/\0<=b/\b<256/\∃a,c.s (d.add (b.toNat*1)) a/\∃b,a.a=S b/\(0:O)<=0/\0<(a.len:O)/\∃a,c.z (b.add ((0:O).toNat*1)) a/\K a V c) w):=ai func127 .Kv
theorem abG{a b c K w}:Fr (WJ a b c K w) (∀d:W->Pw,(∀(e:W)(f:Y),(bif e then K 1 f else ∃d,a=S d/\∃e,f.m (d.add 256) e/\∃d,∃g,tz qe 370 (.map e) (.z c) (.z d) g f/\bif g then K 90 f else Dr f λd=>∃e,a=S e/\0<=b/\b<256/\∃f,d.s (e.add (b.toNat*1)) f/\∃e,a=S e/\(A2 d [.z c] 3 λd g=>(∃h i,aP qe [22,22] 22 f.v (.slice (S d.p) 1 1) g h i/\0<=b/\b<256/\(St i (e.add (b.toNat*1)) h.v λd=>∃e,a=S e/\∃f,d.m (e.add 256) f/\∃e:Y,gK qe 370 (.map f) (.z c) (.z b) d e/\∃c,a=S c/\UU (S c) b (λa=>K 0 a) e)/\G)/\G)/\G)->d e f)->(bif F (b<0)then d V w else d (F (b>=256)) w)):=ai func232 (.v (.y .LD (.y (.v (.v (.x .w))) (.y (.z (.o 0 4094 (.o 1 32764 (.o 2 30216 (.o 3 30320 (.o 4 30208 (.o 5 30208 (.o 6 30208 (.o 7 30208 (.o 8 30208 (.o 9 28672 (.o 12 3072 (.o 13 3072 (.o 14 3072 (.e 10 (.e 11 (.o 15 0 (.e 16 .done)))))))))))))))))) (.v (.v .w))))))
theorem abH{a b K w}:Fr (WL a b K w) (A2 w [.z b] 3 λb c=>Dr c λc=>∃d,a=S d/\∃e,c.m (d.add 256) e/\∃d,c.z b.p d/\(∃f,∃g,tz qe 370 (.map e) (.z d) (.z f) g c/\bif !g then K 91 c else Dr c λc=>∃d,a=S d/\0<=f/\f<256/\∃e,c.s (d.add (f.toNat*1)) e/\∃d,a=S d/\(UW e (.func (.func 324) #[] #[.pointer (S b.p)]) (λc e=>0<=f/\f<256/\(St e (d.add (f.toNat*1)) c.v λc=>Dr c λc=>∃d,a=S d/\∃e,c.m (d.add 256) e/\∃d,c.z b.p d/\(∃b:Y,yz qe [370,3] 0 (.map e) (.z d) c b/\∃c,a=S c/\UU (S c) f (λa=>K 0 a) b)/\G)/\G) c)/\G)/\G):=ai func234 (.v (.y (.z (.o 0 32 (.o 1 32 (.o 2 32 (.o 3 32 (.o 4 32 .NG)))))) (.y (.v (.x .w)) (.y (.z (.o 0 2046 (.o 1 16380 (.o 2 14856 (.o 3 14960 (.o 4 14848 (.o 5 14848 (.o 6 14848 (.o 7 14848 (.o 8 14848 (.o 9 14336 (.o 11 1024 (.o 12 1024 (.o 13 1024 (.e 10 (.o 14 0 (.e 15 .done))))))))))))))))) (.y (.z (.o 0 32 .NO)) (.v .w))))))
theorem abI{a b K w}:Fr (UU a b K w) (Dr w λc=>∃d,a=S d/\av c (d.add 257) 0 [.u,.u,.u,.u] λ(d e f g:O)=>∃h,a=S h/\0<=b/\b<256/\∃i,c.s (h.add (b.toNat*1)) i/\(XQ d e f g b (F ((i.len:O)>0)) (λb c d e _ f=>∃g,a=S g/\(aD f (g.add 257) 0 [.y b,.y c,.y d,.y e] λa=>K a)/\G) c)/\G):=ai func321 (.z (.o 0 262142 (.o 1 16352 (.o 2 16352 (.o 3 16352 (.o 4 16352 (.o 5 16320 (.o 6 128 (.o 7 768 (.o 8 0 (.o 9 0 (.o 10 0 (.o 11 0 (.o 12 0 (.o 13 0 (.e 14 (.o 15 0 (.o 16 131072 (.o 17 1835008 (.o 18 0 (.o 19 0 (.e 20 .done))))))))))))))))))))))
theorem abJ{a b K w}:Fr (Yg a b K w) (∃c,w.z b c/\K (a==c) w):=ai func324 (.v .w)
theorem abK{a K w}:Fr (RA a K w) (∀b:O->O->Pw,(∀(c d:O)(e:Y),(bif F (d<a)then b (qq.wrap (2*c)) (qd.wrap (d+1)) e else K c e)->b c d e)->b 1 0 w):=ai func129 (.v (.v (.y (.v (.x (.t (S [(3,.c (.i .u64)),(4,.c (.i .i64))]) (.y (.v .w) (.x .w)) .u))) .w)))
theorem abL{a b c d e f g h K w}:Fr (Wk a b c d e f g h K w) (A2 w [.z a,.z b,.z c,.y d,.y e,.z f] 157 λa b=>A2 b [.z 0,.z 0,.z 0,.y 0,.y 0,.z 0] 157 λb c=>av c a.p 0 [.o,.o,.o,.u,.u,.o] λ(d e f i j k:O)=>UA d e f i j k (λc d=>bif c !=0 then aD d b.p 0 [.z 0,.z 0,.z 0,.y 0,.y 0,.z 0] λe=>av e b.p 0 [.o,.o,.o,.u,.u,.o] λ(f i j k l m:O)=>K f i j k l m c e else ∀c:W->Pw,(∀(d:W)(e:Y),(bif d then aD e b.p 0 [.z 0,.z 0,.z 0,.y 0,.y 0,.z 0] λc=>av c b.p 0 [.o,.o,.o,.u,.u,.o] λ(d f i j k l:O)=>K d f i j k l 1 c else ∀c:W->Pw,(∀(d:W)(e:Y),(bif d then aD e b.p 0 [.z 0,.z 0,.z 0,.y 0,.y 0,.z 0] λc=>av c b.p 0 [.o,.o,.o,.u,.u,.o] λ(d f i j k l:O)=>K d f i j k l 41 c else av e a.p 0 [.o,.o,.o,.u,.u,.o] λ(c d f i j k:O)=>A2 e [.z 0,.z 0,.z 0,.y 0,.y 0,.z 0] 157 λe l=>aD l e.p 0 [.z c,.z d,.z f,.y i,.y j,.z k] λc=>∃d,c.z a.p d/\UK d (λc d=>∀f:Pw,(∀a:Y,(bif F (h>0)then St a (e.p.add 3) (.y h) λc=>av c e.p 0 [.o,.o,.o,.u,.u,.o] λ(d f g h i j:O)=>aD c b.p 0 [.z d,.z f,.z g,.y h,.y i,.z j] λc=>av c b.p 0 [.o,.o,.o,.u,.u,.o] λ(d f g h i j:O)=>K d f g h i j 0 c else av a e.p 0 [.o,.o,.o,.u,.u,.o] λ(c d e f g h:O)=>aD a b.p 0 [.z c,.z d,.z e,.y f,.y g,.z h] λa=>av a b.p 0 [.o,.o,.o,.u,.u,.o] λ(b c d e f g:O)=>K b c d e f g 0 a)->f a)->(bif c then ∃b,d.z (a.p.add 2) b/\St d (e.p.add 2) (.z (da .i64 b g)) λa=>f a else f d)) c)->c d e)->(∃b,e.z a.p b/\bif b==0 then c V e else bif F (h>0)then ∃b,e.z a.p b/\TV b (λb d=>bif !b then c V d else ∃b,d.y (a.p.add 3) b/\c (F (b>0)) d) e else c Z e))->c d e)->(bif F (g<0)then c V d else c (F (g>7)) d)) c):=ai func171 (.v (.v (.y (.v (.x .w)) (.y (.y (.r (S [(21,.c .b)]) .done) (.x .w)) (.y (.y (.r (S [(40,.c .b)]) .done) (.x .w)) (.v (.y .LG (.y (.v .w) .w))))))))
theorem abM{a b c d e f K w}:Fr (UA a b c d e f K w) (A2 w [.z a,.z b,.z c,.y d,.y e,.z f] 157 λa b=>∀c:W->Pw,(∀(b:W)(d:Y),(bif b then K 0 d else ∀b:W->Pw,(∀(c:W)(d:Y),(bif c then K 40 d else ∀b:W->Pw,(∀(c:W)(d:Y),(bif c then K 40 d else ∃b,d.z a.p b/\bif b !=2 then ∃b,d.y (a.p.add 4) b/\bif F (b>0)then K 40 d else ∃b,d.z (a.p.add 5) b/\bif b !=0 then K 40 d else ∃b,d.y (a.p.add 4) b/\∃c,d.z (a.p.add 5) c/\UX b c (λa b=>bif !a then K 40 b else K 0 b) d else ∃b,d.y (a.p.add 4) b/\∃c,d.z (a.p.add 5) c/\UX b c (λa b=>bif !a then K 40 b else K 0 b) d)->b c d)->(∃c,d.z a.p c/\UK c (λc d=>bif !c then ∃c,d.z (a.p.add 2) c/\bif c !=7 then b V d else ∃c,d.z a.p c/\TV c (λc d=>bif !c then ∃c,d.y (a.p.add 3) c/\b (F (c>0)) d else b Z d) d else ∃c,d.z a.p c/\TV c (λc d=>bif !c then ∃c,d.y (a.p.add 3) c/\b (F (c>0)) d else b Z d) d) d))->b c d)->(∃c,d.z a.p c/\bif F (c<1)then b V d else ∃c,d.z a.p c/\bif F (c>9)then b V d else ∃c,d.z (a.p.add 1) c/\bif F (c<0)then b V d else ∃c,d.z (a.p.add 1) c/\bif F (c>2147483647)then b V d else ∃c,d.z (a.p.add 2) c/\bif F (c<0)then b V d else ∃c,d.z (a.p.add 2) c/\b (F (c>7)) d))->c b d)->(∃d,b.z a.p d/\bif d==0 then av b a.p 0 [.o,.o,.o,.u,.u,.o] λ(a d e f g h:O)=>∃i,B8 qe .eql 157 (.tmp 7) (.tmp 8) (.agg #[.z a,.z d,.z e,.y f,.y g,.z h]) (.agg #[.z 0,.z 0,.z 0,.y 0,.y 0,.z 0]) i/\c i b else c Z b)):=ai func236 (.v (.y (.y (.r (S [(10,.c .b)]) .done) (.x .w)) (.y (.y (.r (S [(38,.c .b)]) .done) (.x .w)) (.y (.y (.r (S [(58,.c .b)]) .done) (.x .w)) (.y (.v (.x .w)) .w)))))
theorem abN{a K w}:Fr (TV a K w) (bif a==4 then K V w else K (a==5) w):=ai func278 (.v .w)
theorem abO{a K w}:Fr (UK a K w) (bif a==4 then K V w else bif a==5 then K V w else K (a==6) w):=ai func279 (.v .w)
theorem abP{a b c d e f g h i j k l K w}:Fr (W8 a b c d e f g h i j k l K w) (A2 w [.z a,.z b,.z c,.y d,.y e,.z f] 157 λa b=>A2 b [.z g,.z h,.z i,.y j,.y k,.z l] 157 λb c=>∃d,c.z a.p d/\bif d !=0 then ∃d,c.z a.p d/\∃e,c.z b.p e/\bif d==e then ∃d,c.z (a.p.add 1) d/\∃a,c.z (b.p.add 1) a/\K (d==a) c else K Z c else K Z c):=ai func283 (.v .w)
theorem abQ{a b K w}:Fr (UX a b K w) (bif F (b>=0)then bif F (b<=64)then bif b==64 then K V w else RA b (λb c=>K (F (a<b)) c) w else K Z w else K Z w):=ai func325 (.v .w)
namespace Th
abbrev Qs:=J (X × O)
def ck(L:Qs)(p:X):J O:=(L.filter λx=>x.1==p).map (·.2)
def wh(L:Qs)(n:O):qg X:=(L.find? λx=>x.2==n).map (·.1)
def iX(L:Qs)(p:X):W:= !(ck L p).isEmpty
structure zQ(L:Qs):Prop where
 nodup:(L.map (·.2)).Nodup
 prio:∀x∈L,x.1<256
 fh:L.length<=1000000
theorem four{α:Type}(ws:J α)(h:ws.length=4):∃a b c d,ws= [a,b,c,d]:=by
 rcases ws with _|⟨a,_|⟨b,_|⟨c,_|⟨d,_|⟨e,ws⟩⟩⟩⟩⟩
 .simp at h
 .simp at h
 .simp at h
 .simp at h
 .exact ⟨a,b,c,d,U⟩
 .simp at h
def bL(s:Sl):N:= s.v
def du(sl:X->Sl)(m:X)(ws:J O):J N:=(OC 256).map (λp=>bL (sl p))++Value.map (S m)::ws.map (Value.int .u64)
def uu(sl:X->Sl)(p:X)(s:Sl):X->Sl:=λq=>if q=p then s else sl q
theorem gH{sl:X->Sl}{m:X}{ws:J O}{p:X}(hp:p<256):(du sl m ws)[p]?=S (bL (sl p)):=by unfold du;rw[Oy (by simpa using hp),OX,PH hp];rfl
theorem l0{sl:X->Sl}{m:X}{ws:J O}:(du sl m ws)[256]?=S (.map (S m)):=by unfold du;rw[OA qc];simp
theorem nM{sl:X->Sl}{m:X}{ws:J O}(j:X):(du sl m ws)[257+j]?=(ws[j]?).map (Value.int .u64):=by unfold du;rw[OA (by simp;omega)];simp only[O3,QR];rw[show 257+j-256=j+1 from by omega,OK,OX]
theorem vJ{sl:X->Sl}{m:X}{ws:J O}{p:X}(hp:p<256)(s:Sl):(du sl m ws).set p (bL s)=du (uu sl p s) m ws:=by
 unfold du;rw[Qy _ _ (by simpa using hp)];congr 1;apply O2;intro i;rw[Pb];simp only[OX,O3,QR];by_cases hi:i<256
 .rw[PH hi]
  by_cases e:p=i
  .subst e;simp[hp,uu]
  .have e':¬i=p:=λh=>e h.symm
   simp[e,e',uu]
 .rw[OQ (l:=OC 256) (by simpa using hi),Q om];rfl
theorem dX{sl:X->Sl}{m:X}{ws:J O}(j:X)(x:O):(du sl m ws).set (257+j) (.y x)=du sl m (ws.set j x):=by unfold du;rw[Qg _ _ (by simp;omega)];simp only[O3,QR];rw[show 257+j-256=j+1 from by omega,OI,RX]
def Kg(L:Qs)(M:J (O × O)):Prop:=∀n,dO M n=(wh L n).map λp:X=>(p:O)
structure Qx where
 m:X
 M:J (O × O)
 sl:X->Sl
 ws:J O
def fA(sl:X->Sl)(L:Qs):J aH:=(OC 256).map λp=>af aB (sl p) (ck L p)
abbrev mapA(m:X)(M:J (O × O)):aH:=mU (Value.int .i64) (Value.int .i64) m M
def bI(b:X)(L:Qs):aH:=pa λx:Qx=>bo (dJ (zQ L/\Kg L x.M/\iu (iX L) x.ws)::aa b (du x.sl x.m x.ws)::mapA x.m x.M::fA x.sl L)
section
variable{B:X}{w0 w:Y}{R:J aH}{b:X}{L:Qs}
theorem _root_.Go.Vc.Ow.queue(h:Ow B w0 w (bI b L::R)):∃x:Qx,zQ L/\Kg L x.M/\iu (iX L) x.ws/\Ow B w0 w (aa b (du x.sl x.m x.ws)::mapA x.m x.M::(fA x.sl L++R)):=by obtain⟨x,h⟩:=h.ex;have h:=h.star;obtain⟨⟨h1,h2,h3⟩,h⟩:=Ow.pure h;exact⟨x,h1,h2,h3,h⟩
theorem _root_.Go.Vc.Ow.jZ{m:X}{M:J (O × O)}{sl:X->Sl}{ws:J O}(h1:zQ L)(h2:Kg L M)(h3:iu (iX L) ws)(h:Ow B w0 w (aa b (du sl m ws)::mapA m M::(fA sl L++R))):Ow B w0 w (bI b L::R):=
 Ow.eP ⟨m,M,sl,ws⟩ (Ow.br (Ow.cZ ⟨h1,h2,h3⟩ h))
theorem EX{sl:X->Sl}{p:X}(hp:p<256)(ae7 B:aH)(R:J aH):(ae7::B::(fA sl L++R))[2+p]?=S (af aB (sl p) (ck L p)):=by rw[show 2+p=p+1+1 from by omega,OK,OK,Oy (by simpa [fA]using hp)];simp only[fA,OX,PH hp,PC]
theorem xV{sl:X->Sl}{p:X}(hp:p<256){s:Sl}{ns:J O}{L':Qs}(hL:∀q,q<256->ck L' q=if q=p then ns else ck L q)(ae7 B:aH)(R:J aH):
  (ae7::B::(fA sl L++R)).set (2+p) (af aB s ns)=ae7::B::(fA (uu sl p s) L'++R):=by
 rw[show 2+p=p+1+1 from by omega,OI,OI,Qy _ _ (by simpa [fA]using hp)];congr 3;apply O2;intro i;rw[Pb];simp only[fA,OX,O3,QR];by_cases hi:i<256
 .rw[PH hi]
  by_cases e:p=i
  .subst e;simp[hp,uu,hL p hp]
  .have e':¬i=p:=λh=>e h.symm
   simp[e,e',uu,hL i hi]
 .rw[OQ (l:=OC 256) (by simpa using hi),Q om];rfl
theorem ik{sl:X->Sl}{m:X}{ws:J O}{p:X}{K:Pw}(h:Ow B w0 w (aa b (du sl m ws)::R))(hp:p<256)(hw:ws.length=4)
  (hK:∀w',Ow B w0 w' (aa b (du sl m (oI ws p (F (0<(sl p).len))))::R)->K w'):UU b.o (p:O) K w:=by
 apply abI;obtain⟨b1,b2,b3,b4,rfl⟩:=four ws hw;refine h.dr λw1 h=>?_;refine⟨_,U,?_⟩;simp only[aO];have hwd:∀j v,([b1,b2,b3,b4].map (Value.int .u64))[j]?=S v->(du sl m [b1,b2,b3,b4])[257+j]?=S v:=λj v hv=>by rw[nM,<-OX];exact hv
 refine⟨_,h.iM 0 U (hwd 0 _ U),_,h.iM 0 U (hwd 1 _ U),_,h.iM 0 U (hwd 2 _ U),_,h.iM 0 U (hwd 3 _ U),_,U,om,om,?_⟩;simp only[aO,Oo,Re,OJ];refine⟨sl p,h.iM 0 U (gH hp),wF h om om λr1 r2 r3 r4 w2 h hr=>?_,trivial⟩;refine⟨_,U,?_,trivial⟩;simp only[aO,OJ];have hlen:∀(ws:J O)(j:X),j<ws.length->((du sl m ws)[257+j]?).isSome=true:=λws j hj=>by rw[nM,gE hj];rfl
 refine h.st 0 U (hlen _ 0 qc) U λw3 h=>?_;refine h.st 0 U (by rw[dX 0];exact hlen _ 1 qc) U λw4 h=>?_;refine h.st 0 U (by rw[dX 0,dX 1];exact hlen _ 2 qc) U λw5 h=>?_;refine h.st 0 U (by rw[dX 0,dX 1,dX 2];exact hlen _ 3 qc) U λw6 h=>?_;have hd:F (((sl p).len:O)>0)=F (0<(sl p).len):=by simp
 rw[hd,Oo]at hr;refine hK _ ?_;rw[<-hr];have e:((((du sl m [b1,b2,b3,b4]).set 257 (.y r1)).set 258 (.y r2)).set 259 (.y r3)).set 260 (.y r4)=du sl m [r1,r2,r3,r4]:=by rw[dX 0,dX 1,dX 2,dX 3];rfl
 rw[<-e];exact h
theorem Dp{L:Qs}{n:O}{p:X}(h:wh L n=S p):(p,n)∈L:=by
 unfold wh at h;obtain⟨x,h1,rfl⟩:=P4.1 h;have h2:=List.find?_some h1;have h3:x.2=n:=by simpa using h2
 have:=List.mem_of_find?_eq_some h1;rw[<-h3];exact this
theorem mo{L:Qs}{n:O}:wh L n=I↔∀x∈L,x.2≠n:=by unfold wh;rw[SE,List.find?_eq_none];simp
theorem E7{L:Qs}(h:(L.map (·.2)).Nodup){x y:X × O}(hx:x∈L)(hy:y∈L)(e:x.2=y.2):x=y:=by
 induction L with
 |nil=>cases hx
 |cons a L ih=>
  simp only[OZ,Pu,O4,not_exists,not_and]at h;rcases Oz.1 hx with hx'|hx'
  .rcases Oz.1 hy with hy'|hy'
   .rw[hx',hy']
   .rw[hx']at e;exact qi e.symm (h.1 y hy')
  .rcases Oz.1 hy with hy'|hy'
   .rw[hy']at e;exact qi e (h.1 x hx')
   .exact ih h.2 hx' hy'
theorem FW{L:Qs}(h:(L.map (·.2)).Nodup){n:O}{p:X}(hm:(p,n)∈L):wh L n=S p:=by
 cases hw:wh L n with
 |none=>exact qi U (mo.1 hw _ hm)
 |some q=>have:=E7 h (Dp hw) hm U;cases this;rfl
theorem Hh{L:Qs}{p:X}{n:O}:n∈ck L p↔(p,n)∈L:=by
 unfold ck;rw[O4];constructor
 .rintro ⟨⟨a,b⟩,h1,h2⟩
  rw[OE]at h1;have:a=p:=by simpa using h1.2
  subst this;have h2:b=n:=h2;subst h2;exact h1.1
 .intro h;exact⟨(p,n),OE.2 ⟨h,qc⟩,U⟩
theorem AY(L:Qs)(p:X)(n:O)(q:X):ck (L++ [(p,n)]) q=if q=p then ck L p++ [n]else ck L q:=by
 unfold ck;rw[O9,OS];by_cases e:q=p
 .subst e;simp
 .have:(p==q)=false:=by simpa using λh=>e h.symm
  simp[e,this]
theorem AX(L:Qs)(p:X):(ck L p).length<=L.length:=by unfold ck;rw[O3];exact OR _ _
theorem K7{L:Qs}{p:X}{n:O}(hn:wh L n=I)(x:O):wh (L++ [(p,n)]) x=if n=x then S p else wh L x:=by
 unfold wh;rw[List.find?_append];by_cases e:n=x
 .subst e
  have:L.find? (λy=>y.2==n)=none:=by have h:=hn;unfold wh at h;rwa [SE]at h
  rw[this];simp
 .have:(n==x)=false:=by simpa using e
  rw[Q e];cases L.find? (λy=>y.2==x)<;>simp[this]
theorem CP{L:Qs}{p:X}{n:O}(h:zQ L)(hp:p<256)(hn:wh L n=I)(hf:L.length<1000000):zQ (L++ [(p,n)]):=by
 refine⟨?_,λx hx=>?_,by simp;omega⟩
 .rw[OS,PZ]
  refine⟨h.nodup,qc,λa ha b hb=>?_⟩;simp only[OZ,Qb,OY]at hb;subst hb;obtain⟨y,hy,rfl⟩:=O4.1 ha;exact mo.1 hn y hy
 .rcases Pn.1 hx with hx|hx
  .exact h.prio x hx
  .simp at hx;subst hx;exact hp
def kd(L:Qs)(p n:O):O × Qs:=if p<0\/256<=p then(1,L)else match wh L n with|some _=>(90,L)|none=>(0,L++ [(p.toNat,n)])
theorem nP{p n:O}{K:O->Pw}(h:Ow B w0 w (bI b L::R))(hf:L.length<1000000)
  (hK:∀w',Ow B w0 w' (bI b (kd L p n).2::R)->K (kd L p n).1 w'):WJ b.o p n K w:=by
 apply abG;intro k hk;by_cases h0:p<0
 .rw[show F (p<0)=V from by simp[h0],ql]
  apply hk;rw[ql];have e:kd L p n=(1,L):=by unfold kd;rw[A (.inl h0)]
  rw[e]at hK;exact hK w h
 rw[show F (p<0)=Z from by simp;omega,qp];apply hk;by_cases h1:256<=p
 .rw[show F (p>=256)=V from by simp;omega,ql]
  have e:kd L p n=(1,L):=by unfold kd;rw[A (.inr h1)]
  rw[e]at hK;exact hK w h
 rw[show F (p>=256)=Z from by simp;omega,qp];obtain⟨m,rfl⟩:=Ox (by omega:0<=p);have hm:m<256:=om
 have e:kd L (m:O) n=match wh L n with|some _=>(90,L)|none=>(0,L++ [(m,n)]):=by unfold kd;rw[Q om];simp
 obtain⟨x,hq,hby,hbits,h⟩:=h.queue;refine⟨_,U,S x.m,h.ld 0 U l0,?_⟩;cases hw:wh L n with
 |some q=>
  have hg:=hby n;rw[hw]at hg;refine⟨(q:O),V,(h.tI qT (bf .i64 qy) 1 U hg).1,?_⟩;rw[ql];rw[e,hw]at hK;exact hK w (h.jZ hq hby hbits)
 |none=>
  have hg:=hby n;rw[hw]at hg;refine⟨0,Z,(h.vw qT (bf .i64 qy) (λw=>qP w) 1 U hg).1,?_⟩;rw[qp];rw[e,hw]at hK;refine h.dr λw1 h=>?_;refine⟨_,U,om,om,?_⟩;simp only[aO,Oo,Re,OJ];refine⟨x.sl m,h.iM 0 U (gH hm),_,U,h.al λw2 h=>⟨?_,trivial⟩,trivial⟩;have hll:=AX L m;refine xv h (2+m) (EX hm _ _ _) om λs' w3 hs' h=>?_;rw[xV hm (AY L m n · |> λe=>λ_=>e) _ _ _]at h;refine⟨om,om,?_,trivial⟩;simp only[aO,OJ];refine h.st 0 U (by rw[gH hm];rfl) U λw4 h=>?_;have h:Ow B w0 w4 (aa b ((du x.sl x.m x.ws).set m (bL s'))::mapA x.m x.M::(fA (uu x.sl m s') (L++ [(m,n)])++R)):=h;rw[vJ hm]at h;refine⟨_,U,S x.m,h.ld 0 U l0,h.kM qT (bf .i64 qy) 1 U λw5 h=>?_⟩;refine⟨_,U,ik h hm hbits.1 λw6 h=>?_⟩;refine hK w6 (Ow.jZ (CP hq hm hw hf) ?_ ?_ h)
  .intro y
   rw[sO,K7 hw,hby y];split<;>rfl
  .have hlen:(uu x.sl m s' m).len=(ck L m).length+1:=by simp[uu,hs']
   rw[hlen,show F (0<(ck L m).length+1)=V from by simp];refine(hbits.set hm V).congr λi hi=>?_;show(if i=m then V else iX L i)=iX (L++ [(m,n)]) i;unfold iX;rw[AY];by_cases e:i=m
   .simp[e]
   .simp[e]
theorem pE{sl:X->Sl}{p:X}(hp:p<256)(pre R:J aH):(pre++(fA sl L++R))[p+pre.length]?=S (af aB (sl p) (ck L p)):=by rw[RZ,OA om,QA,Oy (by simpa [fA]using hp)];simp only[fA,OX,PH hp,PC]
theorem CC{sl:X->Sl}{p:X}(hp:p<256){s:Sl}{ns:J O}{L':Qs}(hL:∀q,q<256->ck L' q=if q=p then ns else ck L q)(pre R:J aH):
  (pre++(fA sl L++R)).set (p+pre.length) (af aB s ns)=pre++(fA (uu sl p s) L'++R):=by
 have h:=xV (L:=L) (L':=L') (sl:=sl) (s:=s) (ns:=ns) hp hL (dJ G) (dJ G) R;rw[show 2+p=p+1+1 from by omega,OI,OI]at h;rw[RZ p pre.length,Qg _ _ om,QA];congr 1;simp only[List.cons.injEq,true_and]at h;exact h
theorem vO{K:qg qf->Pw}(h:Ow B w0 w R)(hK:∀b w',Ow B w0 w' (bI b []::R)->K b.o w'):VV K w:=by
 apply abE;refine h.Dt (Value.int .i64) (Value.int .i64) λw1 h=>?_;refine h.al λw2 h=>?_;refine hK _ w2 ?_;have hlines:∀(n:X)(w:Y)(R:J aH),Ow B w0 w R->Ow B w0 w ((OC n).map (λp=>af aB z0 (ck [] p))++R):=by
  intro n;induction n with
  |zero=>intro w R h;exact h
  |succ n ih=>
   intro w R h;rw[List.range_succ,OS,O1];exact ih w _ (Ow.cH h)
 have h:=h.yK (l':=du (λ_=>z0) w.heap.size [0,0,0,0]) qa;refine Ow.jZ (m:=w.heap.size) (M:=[]) (sl:=λ_=>z0) (ws:=[0,0,0,0]) ⟨qc,qc,qc⟩ (λn=>rfl) (iu.zero.congr λi _=>rfl) ?_;exact((hlines 256 w2 _ h).perm PD).perm ((PD).cons _)
theorem AW(L:Qs)(n:O)(q:X):ck (L.filter λx=>x.2 !=n) q=(ck L q).filter λx=>x !=n:=by unfold ck;rw[List.filter_map,Qq,Qq];congr 1;apply List.filter_congr;intro x _;simp[Function.comp,Bool.and_comm]
theorem xT{L:Qs}(h:(L.map (·.2)).Nodup){n:O}{p:X}(hw:wh L n=S p)(q:X):ck (L.filter λx=>x.2 !=n) q=if q=p then(ck L p).filter (λx=>x !=n)else ck L q:=by
 rw[AW];by_cases e:q=p
 .subst e;simp
 .rw[Q e,Py]
  intro x hx;rw[Hh]at hx;simp only[qN,ne_eq];intro e';subst e';have:=FW h hx;rw[hw]at this;cases this;exact e U
theorem JI{L:Qs}(n x:O):wh (L.filter λy=>y.2 !=n) x=if n=x then I else wh L x:=by
 by_cases e:n=x
 .subst e
  rw[A U,mo];intro y hy;have:=(OE.1 hy).2;simpa using this
 .rw[Q e]
  unfold wh;congr 1;rw[List.find?_filter];congr 1;funext y;by_cases e2:y.2=x
  .have:¬y.2=n:=λh=>e (h.symm.trans e2)
   simp[e2,this];rw[e2]at this;exact this
  .simp[e2]
def fw(L:Qs)(n:O):O × Qs:=match wh L n with|some _=>(0,L.filter λx=>x.2 !=n)|none=>(91,L)
theorem ij{n:O}{K:O->Pw}(h:Ow B w0 w (bI b L::R))
  (hK:∀w',Ow B w0 w' (bI b (fw L n).2::R)->K (fw L n).1 w'):WL b.o n K w:=by
 apply abH;obtain⟨x,hq,hby,hbits,h⟩:=h.queue;refine h.al λw1 h=>?_;refine h.dr λw2 h=>?_;refine⟨_,U,S x.m,h.ld 1 U l0,n,h.iM 0 U U,?_,trivial⟩;cases hw:wh L n with
 |none=>
  have hg:=hby n;rw[hw]at hg;refine⟨0,Z,(h.vw qT (bf .i64 qy) (λw=>qP w) 2 U hg).1,?_⟩;simp only[PN,ql];have e:fw L n=(91,L):=by unfold fw;rw[hw]
  rw[e]at hK;exact hK w2 (h.drop.jZ hq hby hbits)
 |some p=>
  have hg:=hby n;rw[hw]at hg;have hp:p<256:=hq.prio _ (Dp hw);refine⟨(p:O),V,(h.tI qT (bf .i64 qy) 2 U hg).1,?_⟩;simp only[PK,qp];have e:fw L n=(0,L.filter λx=>x.2 !=n):=by unfold fw;rw[hw]
  rw[e]at hK;refine h.dr λw3 h=>?_;refine⟨_,U,om,om,?_⟩;simp only[aO,Oo,Re,OJ];refine⟨x.sl p,h.iM 1 U (gH hp),_,U,?_,trivial⟩;have hll:=AX L p;have hfew:=hq.fh;refine eV (p:=λy=>y==n) h (p+3) (pE hp [_,_,_] R) om ?_ λs' w4 h=>?_
  .intro ys hys y w5 ae5 h hQ
   refine aT ?_;have hA:Yg y w.heap.size.p ae5 w5:=by apply abJ;exact⟨n,h.iM 0 U U,hQ _ h⟩
   exact hA
  .have h:Ow B w0 w4 ([aa w.heap.size [.z n],aa b (du x.sl x.m x.ws),mapA x.m x.M]++(fA (uu x.sl p s') (L.filter λx=>x.2 !=n)++R)):=by have:=CC (L:=L) (sl:=x.sl) hp (λq _=>xT hq.nodup hw q) [aa w.heap.size [.z n],aa b (du x.sl x.m x.ws),mapA x.m x.M] R (s:=s');rw[<-this];exact h
   have hlen:=h.len (p+3) (pE hp [_,_,_] R);have hMn:(x.M.map (·.1)).Nodup:=(h.take 2 U).head λ_ hG=>hG.2.nodup;refine⟨om,om,?_,trivial⟩;simp only[aO,OJ];refine h.st 1 U (by rw[gH hp];rfl) U λw6 h=>?_;have h:Ow B w0 w6 (aa w.heap.size [.z n]::aa b ((du x.sl x.m x.ws).set p (bL s'))::mapA x.m x.M::(fA (uu x.sl p s') (L.filter λx=>x.2 !=n)++R)):=h;rw[vJ hp]at h;refine h.dr λw7 h=>?_;refine⟨_,U,S x.m,h.ld 1 U l0,n,h.iM 0 U U,h.Je qT (bf .i64 qy) 2 U λw8 h=>?_,trivial⟩;refine⟨_,U,ik h.drop hp hbits.1 λw9 h=>?_⟩;refine hK w9 (Ow.jZ ⟨?_,λy hy=>hq.prio y (OE.1 hy).1,ON (OR _ _) hq.fh⟩ ?_ ?_ h)
   .exact List.Nodup.sublist (List.filter_sublist.map _) hq.nodup
   .intro y
    rw[sN hMn,JI,hby y];split<;>rfl
   .rw[hlen]
    refine(hbits.set hp _).congr λi hi=>?_;show(if i=p then decide (0<(ck (L.filter λx=>x.2 !=n) p).length)else iX L i)=iX (L.filter λx=>x.2 !=n) i;unfold iX;by_cases e:i=p
    .subst e
     rw[A U];cases ck (L.filter λx=>x.2 !=n) i<;>simp
    .rw[Q e,xT hq.nodup hw i,Q e]
def FP(L:Qs):qg X:=od (iX L) 256
def gG(L:Qs):qg O:=(FP L).bind λp=>(ck L p).head?
theorem Ia{L:Qs}{p:X}(h:FP L=S p):p<256/\∃n l,ck L p=n::l:=by
 obtain⟨h1,h2,_⟩:=BR h;refine⟨h1,?_⟩;unfold iX at h2;cases hl:ck L p with
 |nil=>rw[hl]at h2;cases h2
 |cons n l=>exact⟨n,l,U⟩
theorem mM{K:O->W->Pw}(h:Ow B w0 w (bI b L::R))
  (hK:∀w',Ow B w0 w' (bI b L::R)->K ((gG L).getD 0) (gG L).isSome w'):VX b.o K w:=by
 apply abF;obtain⟨x,hq,hby,hbits,h⟩:=h.queue;obtain⟨b1,b2,b3,b4,hws⟩:=four x.ws hbits.1;have hwd:∀j v,([b1,b2,b3,b4].map (Value.int .u64))[j]?=S v->(du x.sl x.m x.ws)[257+j]?=S v:=λj v hv=>by rw[nM,<-OX,hws];exact hv
 refine⟨_,U,?_⟩;simp only[aO,OJ];refine⟨_,h.iM 0 U (hwd 0 _ U),_,h.iM 0 U (hwd 1 _ U),_,h.iM 0 U (hwd 2 _ U),_,h.iM 0 U (hwd 3 _ U),wG h (by rw[<-hws];exact hbits) λw1 h=>?_⟩;unfold FO;cases ht:od (iX L) 256 with
 |none=>
  simp only;rw[show F ((-1:O)<0)=V from U,ql];have e:gG L=none:=by unfold gG FP;rw[ht];rfl
  rw[e]at hK;exact hK w1 (h.jZ hq hby hbits)
 |some p=>
  simp only;obtain⟨hp,n,l,hl⟩:=Ia ht;rw[show F ((p:O)<0)=Z from by simp,qp];refine⟨_,U,om,om,?_⟩;simp only[aO,Oo,Re,OJ];have hL:=pE (L:=L) (sl:=x.sl) hp [aa b (du x.sl x.m x.ws),mapA x.m x.M] R;rw[hl]at hL;obtain⟨a,ha,hc⟩:=h.GJ (p+2) hL (j:=0) U;have hlen:=h.len (p+2) hL;refine⟨x.sl p,h.iM 0 U (gH hp),a,ha,om,by rw[hlen];simp,n,hc,?_⟩;have e:gG L=S n:=by unfold gG FP;rw[ht];simp[hl]
  rw[e]at hK;exact hK w1 (h.jZ hq hby hbits)
def AU(L:Qs)(p:O):J O:=if p<0\/256<=p then []else ck L p.toNat
end
end Th
theorem abR{a K w}:Fr (Vt a K w) (∀b:W->Pw,(∀(c:W)(d:Y),(bif c then K I 1 d else A2 d [.z (-1)] 3 λb c=>VU ⟨S b.p,1,1⟩ a (λb c=>A2 c [.slice I 0 0,.slice I 0 0,b.v] 247 λb c=>∀d:O->Pw,(∀(c:O)(e:Y),(bif F (c<a)then Dr e λa=>∃f,S b.p=S f/\∃g,a.s (f.add 1) g/\(VV (λa e=>e.s (f.add 1) g/\(A2 e [.pointer a] 248 λa e=>(∃f h,aP qe [245,245] 245 g.v (.slice (S a.p) 1 1) e f h/\∃a,S b.p=S a/\(St h (a.add 1) f.v λa=>d (qd.wrap (c+1)) a)/\G)/\G)/\G) a)/\G else K (S b.p) 0 e)->d c e)->d 0 c) c)->b c d)->(bif F (a<1)then b V w else b (F (a>8)) w)):=ai func38 (.v (.y (.y (.r (S [(10,.c .b)]) .done) (.x .w)) (.v (.y (.v (.x (.t (S [(17,.c (.i .i64))]) (.v (.y .w (.x (.x (.z (.o 0 254 (.o 1 96 (.o 2 96 (.o 3 96 (.hold 4 96 895 (.e 5 (.e 6 (.e 7 (.o 8 0 (.o 9 0 (.e 10 .done)))))))))))))))) .u))) .w))))
theorem abS{a b c K w}:Fr (S3 a b c K w) (∀d:W->Pw,(∀(e:W)(f:Y),(bif e then K 0 1 f else ∃d,a=S d/\∃e,f.s d e/\bif F ((e.len:O)>=64)then K 0 2 f else ∃d,a=S d/\∃e,f.s d e/\A2 f [.z 0,.z b,.z c,.z 5,.y 0,.y 0,.y 0,.y 0,.y 0,.y 0,.y 0,.y 0] 139 λb c=>∃d f,aP qe [133,133] 133 e.v (.slice (S b.p) 1 1) c d f/\∃b,a=S b/\St f b d.v λb=>∃c,a=S c/\∃a,b.s c a/\K (qd.wrap ((a.len:O)-1)) 0 b)->d e f)->(Um b (λb e=>bif !b then d V e else TA a c (λa b=>d (!a) b) e) w)):=ai func42 (.v (.y (.x (.y (.r (S [(8,.c .b)]) .done) (.y .w (.v (.x .w))))) (.v .w)))
theorem abT{a b K w}:Fr (S5 a b K w) (RF a b (λc d=>bif c.isNone then K 100 d else ∀e:W->Pw,(∀(c:W)(d:Y),(bif c then K 101 d else Tj a b (λa=>K 0 a) d)->e c d)->(∃a,c=S a/\∃b,d.z a b/\bif b==1 then e V d else ∃a,c=S a/\∃b,d.z a b/\e (b==2) d)) w):=ai func43 (.v (.v (.y (.x (.v (.y .w (.y (.r (S [(12,.c .b)]) .done) (.x .w))))) (.v .w))))
theorem abU{a b K w}:Fr (S7 a b K w) (TA a b (λc d=>bif !c then K 0 Z d else TB a b (λc d e=>∃f,a=S f/\∃g,e.s (f.add 1) g/\∃f,g.a=S f/\0<=b/\b<(g.len:O)/\∃g,e.q (f.add (b.toNat*1)) g/\VX g (λe f g=>∀h:W->Pw,(∀(f:W)(g:Y),(bif f then K c d g else ∀f:Pw,(∀c:Y,(RQ a e 2 (λc=>∃d,a=S d/\∃a,c.s (d.add 2) a/\∃d,a.a=S d/\0<=b/\b<(a.len:O)/\St c (d.add (b.toNat*1)) (.z e) λa=>K e V a) c)->f c)->(bif d then RQ a c 1 (λb=>Tj a c (λa=>f a) b) g else f g))->h f g)->(Dr g λb=>bif !f then h V b else bif d then ∃d,a=S d/\∃f,b.s d f/\∃d,f.a=S d/\0<=e/\e<(f.len:O)/\∃f,b.z ((d.add (e.toNat*12)).add 1) f/\∃d,a=S d/\∃a,b.s d a/\∃d,a.a=S d/\0<=c/\c<(a.len:O)/\∃a,b.z ((d.add (c.toNat*12)).add 1) a/\h (F (f<=a)) b else h Z b)) e) d) w):=ai func44 (.v (.y (.v (.x .w)) (.v (.v (.y (.y .g1 (.x .w)) (.y (.v (.t (S []) .w .u)) (.v (.v .w))))))))
theorem abV{a b K w}:Fr (Ui a b K w) (TB a b (λc d e=>bif !d then K Z e else ∃d,a=S d/\∃f,e.s d f/\∃d,f.a=S d/\0<=c/\c<(f.len:O)/\St e ((d.add (c.toNat*12)).add 3) (.z 5) λd=>RQ a c 1 (λd=>Tj a c (λc=>S7 a b (λ_ _ a=>K V a) c) d) d) w):=ai func66 (.v (.v (.y (.v (.x .w)) (.v (.v (.v (.v .w)))))))
theorem abW{a b K w}:Fr (VJ a b K w) (TB a b (λc d e=>bif !d then K Z e else ∃d,a=S d/\∃f,e.s d f/\∃d,f.a=S d/\0<=c/\c<(f.len:O)/\∃g,e.z ((d.add (c.toNat*12)).add 3) g/\∃d,f.a=S d/\0<=c/\c<(f.len:O)/\St e ((d.add (c.toNat*12)).add 3) (.z (qd.wrap (g-1))) λd=>∃e,a=S e/\∃f,d.s e f/\∃e,f.a=S e/\0<=c/\c<(f.len:O)/\∃f,d.z ((e.add (c.toNat*12)).add 3) f/\bif F (f<=0)then Ui a b (λ_ a=>K V a) d else K V d) w):=ai func79 (.v (.v (.y (.v (.x .w)) (.v (.y (.v .w) .w)))))
theorem abX{a K w}:Fr (Um a K w) (bif F (a>=0)then K (F (a<256)) w else K Z w):=ai func122 (.v .w)
theorem abY{a b K w}:Fr (TA a b K w) (bif F (b>=0)then ∃c,a=S c/\∃a,w.s (c.add 1) a/\K (F (b<(a.len:O))) w else K Z w):=ai func123 (.v .w)
theorem abZ{a b K w}:Fr (RF a b K w) (∀c:W->Pw,(∀(d:W)(e:Y),(bif d then K I e else ∃c,a=S c/\∃a,e.s c a/\∃c,a.a=S c/\0<=b/\b<(a.len:O)/\K (S (c.add (b.toNat*12))) e)->c d e)->(bif F (b<0)then c V w else ∃d,a=S d/\∃a,w.s d a/\c (F (b>=(a.len:O))) w)):=ai func124 .NQ
theorem ab0{a b K w}:Fr (Tj a b K w) (RF a b (λc d=>∃e,c=S e/\St d e (.z 1) λd=>Dr d λd=>∃e,a=S e/\∃a,d.s (e.add 1) a/\∃e,c=S e/\∃f,d.z (e.add 2) f/\∃e,a.a=S e/\0<=f/\f<(a.len:O)/\∃a,d.q (e.add (f.toNat*1)) a/\∃e,c=S e/\∃c,d.z (e.add 1) c/\(WJ a c b (λ_ a=>K a) d)/\G) w):=ai func125 (.v (.v (.z (.o 0 31984 (.o 1 31984 (.o 2 31984 (.o 3 31984 (.o 4 31744 (.o 5 31744 (.o 6 31744 (.o 7 31744 (.o 8 31744 (.o 9 31744 .NA)))))))))))))
theorem ab1{a b K w}:Fr (TB a b K w) (∀c:W->Pw,(∀(d:W)(e:Y),(bif d then K 0 Z e else ∃c,a=S c/\∃a,e.s (c.add 2) a/\∃c,a.a=S c/\0<=b/\b<(a.len:O)/\∃a,e.z (c.add (b.toNat*1)) a/\K a V e)->c d e)->(TA a b (λd e=>bif !d then c V e else ∃d,a=S d/\∃a,e.s (d.add 2) a/\∃d,a.a=S d/\0<=b/\b<(a.len:O)/\∃a,e.z (d.add (b.toNat*1)) a/\c (a==(-1)) e) w)):=ai func126 (.v (.y .Mb .w))
theorem YK{a b c K w}:Fr (RQ a b c K w) (RF a b (λd e=>∃f,d=S f/\∃g,e.z f g/\∀f:Pw,(∀a:Y,(∃b,d=S b/\St a b (.z c) λa=>K a)->f a)->(bif g==1 then Dr e λc=>∃h,a=S h/\∃i,c.s (h.add 1) i/\∃h,d=S h/\∃j,c.z (h.add 2) j/\∃h,i.a=S h/\0<=j/\j<(i.len:O)/\∃i,c.q (h.add (j.toNat*1)) i/\(WL i b (λ_ a=>f a) c)/\G else bif g==2 then Dr e λb=>∃c,a=S c/\∃a,b.s (c.add 2) a/\∃c,d=S c/\∃d,b.z (c.add 2) d/\∃c,a.a=S c/\0<=d/\d<(a.len:O)/\(St b (c.add (d.toNat*1)) (.z (-1)) λa=>f a)/\G else f e)) w):=ai func128 (.v (.x (.v (.x (.v (.t (S []) (.z (.o 0 1264 (.o 1 1264 (.o 2 1264 (.o 3 1264 (.o 4 1024 (.o 5 1024 (.o 6 1024 (.o 7 1024 (.o 8 1024 (.o 9 1024 (.o 10 0 (.e 11 .done))))))))))))) (.v (.x (.z (.o 0 240 (.o 1 240 (.o 2 240 (.o 3 240 .MD)))))))))))))
theorem ab2{a b K w}:Fr (Ur a b K w) (A2 w [.z 0,.z 0,.z 0,.z 0,.y 0,.y 0,.y 0,.y 0,.y 0,.y 0,.y 0,.y 0] 139 λc d=>RF a b (λa b=>bif a.isNone then aD b c.p 0 [.z 0,.z 0,.z 0,.z 0,.y 0,.y 0,.y 0,.y 0,.y 0,.y 0,.y 0,.y 0] λd=>av d c.p 0 [.o,.o,.o,.o,.u,.u,.u,.u,.u,.u,.u,.u] λ(e f g h i j k l m n o p:O)=>K e f g h i j k l m n o p 100 d else ∃d,a=S d/\av b d 0 [.o,.o,.o,.o,.u,.u,.u,.u,.u,.u,.u,.u] λ(a d e f g h i j k l m n:O)=>aD b c.p 0 [.z a,.z d,.z e,.z f,.y g,.y h,.y i,.y j,.y k,.y l,.y m,.y n] λa=>av a c.p 0 [.o,.o,.o,.o,.u,.u,.u,.u,.u,.u,.u,.u] λ(b c d e f g h i j k l m:O)=>K b c d e f g h i j k l m 0 a) d):=ai func140 .Kv
theorem X5{a b c d K w}:Fr (TG a b c d K w) (RF a b (λa b=>∀e:O->Pw,(∀(b:O)(f:Y),(bif b !=0 then K b f else ∃b,a=S b/\0<=c/\c<8/\St f ((b.add 4).add (c.toNat*1)) (.y d) λa=>K 0 a)->e b f)->(SN a.isNone 100 (λa b=>bif F (c<0)then SN V 1 (λb c=>A2 c [.z a,.z b] 28 λa b=>Tt ⟨S a.p,2,2⟩ (λa b=>e a b) b) b else SN (F (c>=8)) 1 (λb c=>A2 c [.z a,.z b] 28 λa b=>Tt ⟨S a.p,2,2⟩ (λa b=>e a b) b) b) b)) w):=ai func194 (.v (.v (.y (.y (.r (S [(10,.c (.i .i64))]) .done) (.v (.x .w))) (.v .w))))
theorem ab3{a b K w}:Fr (TR a b K w) (RF a b (λc d=>bif c.isNone then K 100 d else ∃e,c=S e/\∃c,d.z e c/\bif c==0 then K 101 d else RQ a b 0 (λa=>K 0 a) d) w):=ai func262 .NW
theorem ab4{a b c K w}:Fr (WW a b c K w) (RF a b (λd e=>SN d.isNone 100 (λe f=>Um c (λf g=>SN (!f) 1 (λf g=>A2 g [.z e,.z f] 28 λe f=>Tt ⟨S e.p,2,2⟩ (λe f=>bif e !=0 then K e f else ∃e,d=S e/\∃g,f.z e g/\bif g !=1 then ∃e,d=S e/\St f (e.add 1) (.z c) λe=>K 0 e else RQ a b 1 (λe=>∃f,d=S f/\St e (f.add 1) (.z c) λc=>Tj a b (λa=>K 0 a) c) f) f) g) f) e) w):=ai func263 (.v (.v (.y (.v (.v (.x .w))) (.y (.v (.x (.v .w))) (.v (.v (.v .w)))))))
theorem ab5{a K w}:Fr (Tt a K w) (Yj a (.func (.func 368) #[] #[]) (λb c=>bif F (b<0)then K 0 c else ∃d,a.a=S d/\0<=b/\b<(a.len:O)/\∃a,c.z (d.add (b.toNat*1)) a/\K a c) w):=ai func294 .Kv
theorem ab6{a b K w}:Fr (SN a b K w) (bif a then K b w else K 0 w):=ai func295 .Ir
theorem ab7{a b K w}:Fr (U6 a b K w) (RF a b (λc d=>bif c.isNone then K 100 d else ∃e,c=S e/\∃c,d.z e c/\bif c !=2 then K 101 d else RQ a b 3 (λa=>K 0 a) d) w):=ai func356 .NW
theorem ab8{a K w}:Fr (Yk a K w) (K (a !=0) w):=ai func368 (.v .w)
namespace Th
structure u3 where
 st:O
 pr:O
 co:O
 le:O
 rg:X->O
def ko:dF u3:=⟨12,λt=>[.z t.st,.z t.pr,.z t.co,.z t.le,.y (t.rg 0),.y (t.rg 1),.y (t.rg 2),.y (t.rg 3),.y (t.rg 4),.y (t.rg 5),.y (t.rg 6),.y (t.rg 7)],λ_=>rfl,λx v h=>by simp only[Oz,Ps,qC]at h;rcases h with rfl|rfl|rfl|rfl|rfl|rfl|rfl|rfl|rfl|rfl|rfl|rfl<;>rfl,qb⟩
def gB:dF X:=⟨1,λb=>[.q b],λ_=>rfl,λx v h=>by simp at h;subst h;rfl,On _⟩
structure Mt where
 bF:J u3
 qs:J Qs
 runs:J O
def bG(b:X)(m:Mt):aH:=pa λp:(Sl × Sl × Sl)× J X=>bo (dJ (p.2.length=m.qs.length)::aa b [bL p.1.1,bL p.1.2.1,bL p.1.2.2]::af ko p.1.1 m.bF::af gB p.1.2.1 p.2::af aB p.1.2.2 m.runs::Ot bI p.2 m.qs)
theorem HD{b:X}{L':Qs}:∀(bs:J X)(qs:J Qs)(c:X),bs[c]?=S b->(Ot bI bs qs).set c (bI b L')=Ot bI bs (qs.set c L')
 | [],_,_,h=>by simp at h
 |_::_,[],c,_=>by simp
 |b0::bs,q::qs,0,h=>by simp at h;subst h;rfl
 |b0::bs,q::qs,c+1,h=>by simp[HD bs qs c (by simpa using h)]
section
variable{B:X}{w0 w:Y}{R L:J aH}{b:X}{m:Mt}
theorem _root_.Go.Vc.Ow.BN(h:Ow B w0 w (bG b m::R)):∃l q r bs,bs.length=m.qs.length/\Ow B w0 w (aa b [bL l,bL q,bL r]::af ko l m.bF::af gB q bs::af aB r m.runs::(Ot bI bs m.qs++R)):=by obtain⟨⟨⟨l,q,r⟩,bs⟩,h⟩:=h.ex;obtain⟨h1,h⟩:=Ow.pure h.star;exact⟨l,q,r,bs,h1,h⟩
theorem _root_.Go.Vc.Ow.bU{l q r:Sl}{bs:J X}(h1:bs.length=m.qs.length)(h:Ow B w0 w (aa b [bL l,bL q,bL r]::af ko l m.bF::af gB q bs::af aB r m.runs::(Ot bI bs m.qs++R))):Ow B w0 w (bG b m::R):=
 Ow.eP ((l,q,r),bs) (Ow.br (Ow.cZ h1 h))
theorem _root_.Go.Vc.Ow.Jr{A1 A2 A3 A4:aH}{bs:J X}{qs:J Qs}{c b1:X}{ae5:Qs}(hb:bs[c]?=S b1)(hq:qs[c]?=S ae5)(h:Ow B w0 w (A1::A2::A3::A4::(Ot bI bs qs++R))):
  Ow B w0 w (bI b1 ae5::A1::A2::A3::A4::(Ot bI bs qs++R).eraseIdx c):=by
 have h1:=(Om.1 hb).1;have h2:=(Om.1 hq).1;have hz:(Ot bI bs qs++R)[c]?=S (bI b1 ae5):=by rw[Oy (by simp;omega),List.getElem?_zipWith,hb,hq]
 exact h.take (c+4) (by simpa using hz)
theorem _root_.Go.Vc.Ow.Mj{A1 A2 A3 A4:aH}{bs:J X}{qs:J Qs}{c b1:X}{ae5:Qs}(hb:bs[c]?=S b1)(hc:c<qs.length)(h:Ow B w0 w (bI b1 ae5::A1::A2::A3::A4::(Ot bI bs qs++R).eraseIdx c)):
  Ow B w0 w (A1::A2::A3::A4::(Ot bI bs (qs.set c ae5)++R)):=by
 have h1:=(Om.1 hb).1;have h2:Ow B w0 w (bI b1 ae5::(A1::A2::A3::A4::(Ot bI bs qs++R)).eraseIdx (c+4)):=by simpa only[List.eraseIdx_cons_succ]using h
 have h3:=h2.put (by simp;omega);simp only[OI]at h3;rw[Qy _ _ (by simp;omega),HD bs qs c hb]at h3;exact h3
def JK:u3:=⟨0,0,0,0,λ_=>0⟩
def Mt.th(m:Mt)(n:O):u3:=if n<0 then JK else(m.bF[n.toNat]?).getD JK
def Mt.q(m:Mt)(n:O):Qs:=if n<0 then []else(m.qs[n.toNat]?).getD []
def Mt.run(m:Mt)(n:O):O:=if n<0 then -1 else(m.runs[n.toNat]?).getD (-1)
def Mt.aM(m:Mt)(n:O)(t:u3):Mt:={ m with bF:=m.bF.set n.toNat t}
def Mt.iI(m:Mt)(n:O)(ae5:Qs):Mt:={ m with qs:=m.qs.set n.toNat ae5}
def Mt.gW(m:Mt)(n v:O):Mt:={ m with runs:=m.runs.set n.toNat v}
def Mt.cP(m:Mt)(n:O):W:=F (0<=n)&&F (n<m.bF.length)
def Mt.fS(m:Mt)(n:O):W:=F (0<=n)&&F (n<m.qs.length)
def Mt.cp(m:Mt)(n:O):Mt:=(m.aM n { m.th n with st:=1}).iI (m.th n).co (kd (m.q (m.th n).co) (m.th n).pr n).2
def Mt.bw(m:Mt)(n:O):Mt:=if(m.th n).st=1 then m.iI (m.th n).co (fw (m.q (m.th n).co) n).2 else if(m.th n).st=2 then m.gW (m.th n).co (-1)else m
def Mt.leave(m:Mt)(n s:O):Mt:=(m.bw n).aM n { m.th n with st:=s}
def Mt.pick(m:Mt)(c:O):Mt:=match gG (m.q c)with
 |none=>m
 |some n=>if m.run c= -1 then(m.leave n 2).gW c n else
  if(m.th n).pr<=(m.th (m.run c)).pr then m else(((m.leave (m.run c) 1).cp (m.run c)).leave n 2).gW c n
structure de(m:Mt):Prop where
 fh:m.bF.length<=64
 jr:m.runs.length=m.qs.length
 Jg:m.qs.length<=8
 core:∀t∈m.bF,0<=t.co/\t.co<m.qs.length
 left:∀t∈m.bF,t.le=t.le
 run:∀n∈m.runs,n= -1\/(0<=n/\n<m.bF.length)
 line:∀ae5∈m.qs,∀x∈ae5,0<=x.2/\x.2<m.bF.length
theorem Hx:∀(n:X)(l:J O),l.Nodup->(∀x∈l,0<=x/\x<(n:O))->l.length<=n
 |0,l,_,h=>by
  cases l with
  |nil=>simp
  |cons a l=>have:=h a qc;omega
 |n+1,l,hn,h=>by
  have h1:=Hx n (l.filter λx=>x !=(n:O)) (hn.sublist List.filter_sublist) λx hx=>by
   have h2:=OE.1 hx;have h3:=h x h2.1;have h4:x≠(n:O):=by simpa using h2.2
   omega
  have h2:l.length<=(l.filter λx=>x !=(n:O)).length+1:=by
   clear h1 h;induction l with
   |nil=>simp
   |cons a l ih=>
    rw[Pu]at hn;by_cases e:a=(n:O)
    .have:l.filter (λx=>x !=(n:O))=l:=by
      rw[Py];intro x hx;have:x≠(n:O):=λe2=>hn.1 (by rw[e,<-e2];exact hx);simpa using this
     rw[List.filter_cons_of_neg (by simp[e]),this,OB];exact On _
    .rw[List.filter_cons_of_pos (by simpa using e),OB,OB]
     have:=ih hn.2;omega
  omega
theorem K3{n:O}{t:u3}(h0:0<=n)(h:m.bF[n.toNat]?=S t):m.th n=t:=by unfold Mt.th;rw[Q om,h];rfl
theorem bD{n:O}(h:m.cP n=V):0<=n/\n<m.bF.length/\m.bF[n.toNat]?=S (m.th n):=by unfold Mt.cP at h;simp only[OH,qA]at h;obtain⟨h0,h1⟩:=h;refine⟨h0,h1,?_⟩;have e:=gE (l:=m.bF) (i:=n.toNat) om;rw[e,K3 h0 e]
theorem rN{n:O}(h0:0<=n)(h1:n<m.qs.length):m.qs[n.toNat]?=S (m.q n):=by have e:=gE (l:=m.qs) (i:=n.toNat) om;unfold Mt.q;rw[Q om,e];rfl
theorem vN{n:O}(h0:0<=n)(h1:n<m.runs.length):m.runs[n.toNat]?=S (m.run n):=by have e:=gE (l:=m.runs) (i:=n.toNat) om;unfold Mt.run;rw[Q om,e];rfl
theorem kW{n:O}{K:W->Pw}(hK:K (F (0<=n)&&F (n<256)) w):Um n K w:=by
 apply abX;refine bg (λe=>?_) (λe=>?_)
 .rw[qm (e:0<=n),Qa]at hK;exact hK
 .rw[qk (e:¬0<=n),P5]at hK;exact hK
theorem cr{so:W}{e:O}{K:O->Pw}(hK:K (if so then e else 0) w):SN so e K w:=by apply ab6;cases so<;>exact hK
theorem pV{l q r:Sl}{bs:J X}{n:O}{A2 A4:aH}{K:W->Pw}(hb:bs.length=m.qs.length)(h:Ow B w0 w (aa b [bL l,bL q,bL r]::A2::af gB q bs::A4::L))(hK:K (m.fS n) w):TA b.o n K w:=by
 apply abY;have hl:=h.aL q;unfold Mt.fS at hK;refine bg (λe=>?_) (λe=>?_)
 ·(repeat first|refine h.l1 U ?_|refine eX ?_)
  rw[qm (e:0<=n),Qa]at hK;rw[hl,hb];exact hK
 .rw[qk (e:¬0<=n),P5]at hK;exact hK
theorem eW{l q r:Sl}{n:O}{A3 A4:aH}{K:qg qf->Pw}(h:Ow B w0 w (aa b [bL l,bL q,bL r]::af ko l m.bF::A3::A4::L))(hK0:m.cP n=Z->K I w)(hK1:∀a,m.cP n=V->l.a=S a->K (S (a.add (n.toNat*12))) w):RF b.o n K w:=by
 apply abZ;have hl:=h.aL l;unfold Mt.cP at hK0 hK1;intro k hk;refine bg (λe=>?_) (λe=>?_)
 .refine hk _ _ (aU U ?_)
  exact hK0 (by rw[qk (show ¬0<=n by omega),P5])
 ·(repeat first|refine h.l1 U ?_|refine eX ?_)
  refine hk _ _ ?_;refine bg (λe2=>?_) (λe2=>?_)
  .exact hK0 (by rw[qk (show ¬n<(m.bF.length:O) by omega),Bool.and_false])
  ·(repeat first|refine h.l1 U ?_|refine eX ?_)
   obtain⟨x,hx⟩:∃x,m.bF[n.toNat]?=S x:=⟨_,gE om⟩
   refine h.bX (s:=l) (j:=n.toNat) om hx λa ha h0 hc=>?_;exact hK1 a (by rw[qm (show 0<=n by omega),qm (show n<(m.bF.length:O) by omega)];rfl) ha
theorem de.aM(hm:de m){n:O}{t:u3}(h1:0<=t.co/\t.co<m.qs.length)(h2:t.le=t.le):de (m.aM n t):=by
 unfold Mt.aM;refine⟨by rw[Pe];exact hm.fh,hm.jr,hm.Jg,λx hx=>?_,λx hx=>rfl,by rw[Pe];exact hm.run,by rw[Pe];exact hm.line⟩;rcases Px hx with h|h
 .exact hm.core x h
 .rw[h];exact h1
theorem de.iI(hm:de m){n:O}{ae5:Qs}(h1:∀x∈ae5,0<=x.2/\x.2<m.bF.length):de (m.iI n ae5):=by
 unfold Mt.iI;refine⟨hm.fh,by rw[Pe];exact hm.jr,by rw[Pe];exact hm.Jg,by rw[Pe];exact hm.core,hm.left,hm.run,λx hx=>?_⟩;rcases Px hx with h|h
 .exact hm.line x h
 .rw[h];exact h1
theorem de.gW(hm:de m){n v:O}(h1:v= -1\/(0<=v/\v<m.bF.length)):de (m.gW n v):=by
 unfold Mt.gW;refine⟨hm.fh,by rw[Pe];exact hm.jr,hm.Jg,hm.core,hm.left,λx hx=>?_,hm.line⟩;rcases Px hx with h|h
 .exact hm.run x h
 .rw[h];exact h1
theorem de.vK(hm:de m){c:O}:∀x∈m.q c,0<=x.2/\x.2<m.bF.length:=λx hx=>by
 unfold Mt.q at hx;split at hx
 .simp at hx
 .cases e:m.qs[c.toNat]? with
  |none=>rw[e]at hx;simp at hx
  |some ae5=>rw[e]at hx;exact hm.line ae5 (OV e) x hx
theorem de.th(hm:de m){n:O}(hn:m.cP n=V):(0<=(m.th n).co/\(m.th n).co<m.qs.length)/\((m.th n).le=(m.th n).le):=by have:=OV (bD hn).2.2;exact⟨hm.core _ this,hm.left _ this⟩
theorem HB{ae5:Qs}{p n:O}{k:O}(h:∀x∈ae5,0<=x.2/\x.2<k)(hn:0<=n/\n<k):∀x∈(kd ae5 p n).2,0<=x.2/\x.2<k:=by
 unfold kd;split
 .exact h
 .split
  .exact h
  .intro x hx
   rcases Pn.1 hx with h2|h2
   .exact h x h2
   .simp at h2;subst h2;exact hn
theorem yq{ae5:Qs}{n:O}{k:O}(h:∀x∈ae5,0<=x.2/\x.2<k):∀x∈(fw ae5 n).2,0<=x.2/\x.2<k:=by
 unfold fw;split
 .exact λx hx=>h x (OE.1 hx).1
 .exact h
theorem de.cp(hm:de m){n:O}(hn:m.cP n=V):de (m.cp n):=by
 have ht:=hm.th hn;have hb:=bD hn;unfold Mt.cp;refine(hm.aM (t:={ m.th n with st:=1}) ht.1 ht.2).iI ?_;have:(m.aM n { m.th n with st:=1}).bF.length=m.bF.length:=by unfold Mt.aM;simp
 rw[this];exact HB hm.vK ⟨hb.1,hb.2.1⟩
theorem de.bw(hm:de m){n:O}:de (m.bw n):=by
 unfold Mt.bw;split
 .exact hm.iI (yq hm.vK)
 .split
  .exact hm.gW (.inl U)
  .exact hm
theorem dh{n:O}:(m.bw n).bF=m.bF/\(m.bw n).qs.length=m.qs.length:=by
 unfold Mt.bw Mt.iI Mt.gW;split
 .simp
 .split<;>simp
theorem de.leave(hm:de m){n s:O}(hn:m.cP n=V):de (m.leave n s):=by have ht:=hm.th hn;unfold Mt.leave;refine hm.bw.aM (t:={ m.th n with st:=s}) ?_ ht.2;rw[dh.2];exact ht.1
theorem yZ{ae5:Qs}{k:X}(hq:zQ ae5)(h:∀x∈ae5,0<=x.2/\x.2<(k:O)):ae5.length<=k:=by
 have:=Hx k (ae5.map (·.2)) hq.nodup λx hx=>by obtain⟨y,hy,e⟩:=O4.1 hx;rw[<-e];exact h y hy
 simpa using this
theorem gy{n k:O}:(m.cp n).cP k=m.cP k:=by unfold Mt.cp Mt.cP Mt.iI Mt.aM;simp
theorem eI{n s k:O}:(m.leave n s).cP k=m.cP k:=by unfold Mt.leave Mt.cP Mt.aM;simp[dh.1]
theorem iC{n k:O}:(m.cp n).fS k=m.fS k:=by unfold Mt.cp Mt.fS Mt.iI Mt.aM;simp
theorem iB{n s k:O}:(m.leave n s).fS k=m.fS k:=by unfold Mt.leave Mt.fS Mt.aM;simp[dh.2]
theorem BK{l:Sl}{A1 A3 A4:aH}{bF:J u3}{n:O}{t t':u3}{c:X}{v:N}{a:qf}{k:Pw}(h:Ow B w0 w (A1::af ko l bF::A3::A4::L))(h0:0<=n)(hx:bF[n.toNat]?=S t)(ha:l.a=S a)
  (he:ko.enc t'=(ko.enc t).set c v) (hc:c<12) (hv:v.oneCell'=V) (hk:∀w',Ow B w0 w' (A1::af ko l (bF.set n.toNat t')::A3::A4::L)->k w'):St w ((a.add (n.toNat*12)).add c) v k:=
 Ow.rX (s:=l) (E:=ko) (xs:=bF) (i:=n) (j:=n.toNat) (c:=c) (x:=t) h t' om hx ha he hc hv λw' h=>hk w' h.cw
theorem sI{l:Sl}{A1 A3 A4:aH}{bF:J u3}{n:O}{t:u3}{c:X}{v:N}{a:qf}(h:Ow B w0 w (A1::af ko l bF::A3::A4::L))(h0:0<=n)(hx:bF[n.toNat]?=S t)(ha:l.a=S a)
  (he:(ko.enc t)[c]?=S v):w.cell? ((a.add (n.toNat*12)).add c)=S v:=
 (h.Lf (s:=l) (E:=ko) (i:=n) (j:=n.toNat) om hx ha).2 c v he
theorem gw{n:O}{K:Pw}(hm:de m)(hn:m.cP n=V)(h:Ow B w0 w (bG b m::R))(hK:∀w',Ow B w0 w' (bG b (m.cp n)::R)->K w'):Tj b.o n K w:=by
 apply ab0;obtain⟨l,q,r,bs,hbs,h⟩:=h.BN;obtain⟨n0,n1,hx⟩:=bD hn;obtain⟨⟨c0,c1⟩,_⟩:=hm.th hn;obtain⟨b1,hb1⟩:∃x,bs[(m.th n).co.toNat]?=S x:=⟨_,gE om⟩
 refine eW h (λe=>by rw[hn]at e;cases e) λa _ ha=>?_;refine⟨_,U,BK (c:=0) (t':={ m.th n with st:=1}) h n0 hx ha U qb U λw h=>?_⟩;have hx2:(m.bF.set n.toNat { m.th n with st:=1})[n.toNat]?=S { m.th n with st:=1}:=by rw[Pb,A U,A om]
 refine h.dr λw h=>?_;refine⟨_,U,q,h.aE U,_,U,_,sI (c:=2) h n0 hx2 ha U,h.bX (s:=q) (j:=(m.th n).co.toNat) (by show(m.th n).co=_;omega) hb1 λa2 ha2 h0 hc=>⟨_,h0 _ U,?_⟩⟩
 refine⟨_,U,_,sI (c:=1) h n0 hx2 ha U,Go.Vc.a2 ?_⟩;have h:=h.Jr hb1 (rN c0 c1);have hqok:zQ (m.q (m.th n).co):=by obtain⟨_,e,_⟩:=h.queue;exact e
 have hlen:=yZ hqok hm.vK;have hfew:=hm.fh;refine nP h om λw h=>?_;have h:=h.Mj (qs:=m.qs) hb1 om;exact hK w (Ow.bU (m:=m.cp n) (bs:=bs) (by unfold Mt.cp Mt.iI Mt.aM;simpa using hbs) h)
theorem fP{n s:O}{K:Pw}(hm:de m)(hn:m.cP n=V)(h:Ow B w0 w (bG b m::R))(hK:∀w',Ow B w0 w' (bG b (m.leave n s)::R)->K w'):RQ b.o n s K w:=by
 apply YK;obtain⟨l,q,r,bs,hbs,h⟩:=h.BN;obtain⟨n0,n1,hx⟩:=bD hn;obtain⟨⟨c0,c1⟩,_⟩:=hm.th hn;have hcr:=hm.jr;obtain⟨b1,hb1⟩:∃x,bs[(m.th n).co.toNat]?=S x:=⟨_,gE om⟩
 refine eW h (λe=>by rw[hn]at e;cases e) λa _ ha=>?_;refine⟨_,U,_,sI (c:=0) h n0 hx ha U,?_⟩;intro k hk;have fin:∀w,Ow B w0 w (aa b [bL l,bL q,bL r]::af ko l m.bF::af gB q bs::af aB r (m.bw n).runs::(Ot bI bs (m.bw n).qs++R))->k w:=λw h=>by
  apply hk;refine⟨_,U,BK (c:=0) (t':={ m.th n with st:=s}) h n0 hx ha U qb U λw h=>?_⟩;refine hK w (Ow.bU (m:=m.leave n s) (l:=l) (q:=q) (r:=r) (bs:=bs) ?_ ?_)
  .show bs.length=(m.bw n).qs.length
   rw[dh.2];exact hbs
  .have e:(m.leave n s).bF=m.bF.set n.toNat { m.th n with st:=s}:=by unfold Mt.leave Mt.aM;rw[dh.1]
   rw[e];exact h
 refine dK (λe=>?_) (λe=>?_)
 .have e1:m.bw n=m.iI (m.th n).co (fw (m.q (m.th n).co) n).2:=by unfold Mt.bw;rw[A e]
  rw[e1]at fin;refine h.dr λw h=>?_;refine⟨_,U,q,h.aE U,_,U,_,sI (c:=2) h n0 hx ha U,h.bX (s:=q) (j:=(m.th n).co.toNat) (by show(m.th n).co=_;omega) hb1 λa2 ha2 h0 hc=>⟨_,h0 _ U,Go.Vc.a2 ?_⟩⟩
  have h:=h.Jr hb1 (rN c0 c1);refine ij h λw h=>?_;exact fin w (h.Mj (qs:=m.qs) hb1 om)
 refine dK (λe2=>?_) (λe2=>?_)
 .have e1:m.bw n=m.gW (m.th n).co (-1):=by unfold Mt.bw;rw[Q e,A e2]
  rw[e1]at fin;refine h.dr λw h=>?_;refine⟨_,U,r,h.aE U,_,U,_,sI (c:=2) h n0 hx ha U,h.bX (s:=r) (j:=(m.th n).co.toNat) (by show(m.th n).co=_;omega) (vN (m:=m) c0 om) λa2 ha2 h0 hc=>Go.Vc.a2 ?_⟩;refine Ow.Dh (s:=r) (E:=aB) (xs:=m.runs) (i:=(m.th n).co) (j:=(m.th n).co.toNat) h (-1) om om ha2 U λw h=>?_;exact fin w h.xm.xm.xm
 .have e1:m.bw n=m:=by unfold Mt.bw;rw[Q e,Q e2]
  rw[e1]at fin;exact fin w h
def Mt.bJ(m:Mt)(c:O):qg O:=if m.fS c=V/\m.run c≠ -1 then S (m.run c)else I
theorem fW{c:O}:m.fS c=V↔0<=c/\c<m.qs.length:=by unfold Mt.fS;simp
theorem kV{c:O}{K:O->W->Pw}(hm:de m)(h:Ow B w0 w (bG b m::R))(hK:∀w',Ow B w0 w' (bG b m::R)->K ((m.bJ c).getD 0) (m.bJ c).isSome w'):TB b.o c K w:=by
 apply ab1;have hcr:=hm.jr;obtain⟨l,q,r,bs,hbs,h⟩:=h.BN;intro k hk;refine pV hbs h ?_;unfold Mt.bJ at hK;cases hc:m.fS c with
 |false=>
  rw[Q (by rw[hc];simp)]at hK;refine aU U (hk _ _ (aU U ?_));exact hK w (Ow.bU hbs h)
 |true=>
  obtain⟨c0,c1⟩:=fW.1 hc;refine aW U ?_;repeat first|refine h.l1 U ?_|refine eX ?_
  refine h.bX (s:=r) (j:=c.toNat) om (vN (m:=m) c0 om) λa ha h0 hcc=>⟨_,h0 _ U,?_⟩
  refine hk _ _ ?_;refine dK (λe=>?_) (λe=>?_)
  .rw[Q (by simp[e])]at hK
   exact hK w (Ow.bU hbs h)
  .rw[A ⟨hc,e⟩]at hK
   repeat first|refine h.l1 U ?_|refine eX ?_
   refine h.bX (s:=r) (j:=c.toNat) om (vN (m:=m) c0 om) λa ha h0 hcc=>⟨_,h0 _ U,?_⟩
   exact hK w (Ow.bU hbs h)
theorem sg{n:O}{K:O->O->O->O->O->O->O->O->O->O->O->O->O->Pw}(h:Ow B w0 w (bG b m::R))
  (hK:∀w' t,t=(if m.cP n then m.th n else JK)->Ow B w0 w' (bG b m::R)->K t.st t.pr t.co t.le (t.rg 0) (t.rg 1) (t.rg 2) (t.rg 3) (t.rg 4) (t.rg 5) (t.rg 6) (t.rg 7) (if m.cP n then 0 else 100) w'):Ur b.o n K w:=by
 apply ab2;refine h.a λc w1 h=>?_;have h:Ow B w0 w1 (bG b m::aa c [.z 0,.z 0,.z 0,.z 0,.y 0,.y 0,.y 0,.y 0,.y 0,.y 0,.y 0,.y 0]::R):=h.cw;obtain⟨l,q,r,bs,hbs,h⟩:=h.BN;have back:∀{w:Y}{cs:J N},Ow B w0 w (aa c cs::aa b [bL l,bL q,bL r]::af ko l m.bF::af gB q bs::af aB r m.runs::(Ot bI bs m.qs++R))->Ow B w0 w (bG b m::R):=λh=>Ow.bU hbs h.drop;have mid:∀{w:Y}{ae7:aH},Ow B w0 w (aa b [bL l,bL q,bL r]::af ko l m.bF::af gB q bs::af aB r m.runs::(Ot bI bs m.qs++ae7::R))->Ow B w0 w (ae7::aa b [bL l,bL q,bL r]::af ko l m.bF::af gB q bs::af aB r m.runs::(Ot bI bs m.qs++R)):=λ{w ae7}h=>by refine h.perm ?_;have:List.Perm (Ot bI bs m.qs++ae7::R) (ae7::(Ot bI bs m.qs++R)):=PD;refine((((this.cons _).cons _).cons _).cons _).trans ?_;exact(PD (l₁:=[aa b [bL l,bL q,bL r],af ko l m.bF,af gB q bs,af aB r m.runs]))
 refine eW h (λe=>?_) λa e ha=>?_
 .have h:=mid h
  refine aU U ?_;refine h.ay U U λw h=>?_;refine h.DL U ?_;have:=hK w JK (by rw[e];rfl) (back h);rw[e]at this;exact this
 .obtain ⟨n0,n1,hx⟩:=bD e
  have hc:=(h.Lf (s:=l) (E:=ko) (i:=n) (j:=n.toNat) om hx ha).2;have h2:=mid h;refine aW U ?_;refine⟨_,U,⟨_,hc 0 _ U,_,hc 1 _ U,_,hc 2 _ U,_,hc 3 _ U,_,hc 4 _ U,_,hc 5 _ U,_,hc 6 _ U,_,hc 7 _ U,_,hc 8 _ U,_,hc 9 _ U,_,hc 10 _ U,_,hc 11 _ U,h2.ay U U λw h=>?_⟩⟩;refine h.DL U ?_;have:=hK w (m.th n) (by rw[e];rfl) (back h);rw[e]at this;exact this
theorem uq{n:O}{K:O->Pw}(hm:de m)(h:Ow B w0 w (bG b m::R))
  (hK0:m.cP n=Z->∀w',Ow B w0 w' (bG b m::R)->K 100 w') (hK1:m.cP n=V->(m.th n).st=1\/(m.th n).st=2->∀w',Ow B w0 w' (bG b m::R)->K 101 w')
  (hK2:m.cP n=V->(m.th n).st≠1->(m.th n).st≠2->∀w',Ow B w0 w' (bG b (m.cp n)::R)->K 0 w'):S5 b.o n K w:=by
 apply abT;obtain⟨l,q,r,bs,hbs,h⟩:=h.BN;refine eW h (λe=>?_) λa e ha=>?_
 .refine aU U ?_
  exact hK0 e w (Ow.bU hbs h)
 .obtain ⟨n0,n1,hx⟩:=bD e
  refine aW U ?_;intro k hk;refine⟨_,U,_,sI (c:=0) h n0 hx ha U,dK (λe1=>?_) (λe1=>?_)⟩
  .refine hk _ _ (aU U ?_)
   exact hK1 e (.inl e1) w (Ow.bU hbs h)
  refine⟨_,U,_,sI (c:=0) h n0 hx ha U,hk _ _ (dK (λe2=>?_) (λe2=>?_))⟩
  .exact hK1 e (.inr e2) w (Ow.bU hbs h)
  .refine gw hm e (Ow.bU hbs h) λw h=>?_
   exact hK2 e e1 e2 w h
theorem wo{n:O}{K:O->Pw}(hm:de m)(h:Ow B w0 w (bG b m::R))
  (hK0:m.cP n=Z->∀w',Ow B w0 w' (bG b m::R)->K 100 w') (hK1:m.cP n=V->(m.th n).st≠2->∀w',Ow B w0 w' (bG b m::R)->K 101 w')
  (hK2:m.cP n=V->(m.th n).st=2->∀w',Ow B w0 w' (bG b (m.leave n 3)::R)->K 0 w'):U6 b.o n K w:=by
 apply ab7;obtain⟨l,q,r,bs,hbs,h⟩:=h.BN;refine eW h (λe=>?_) λa e ha=>?_
 .refine aU U ?_
  exact hK0 e w (Ow.bU hbs h)
 .obtain ⟨n0,n1,hx⟩:=bD e
  refine aW U ?_;refine⟨_,U,_,sI (c:=0) h n0 hx ha U,oO (λe1=>?_) (λe1=>?_)⟩
  .exact hK1 e e1 w (Ow.bU hbs h)
  .refine fP hm e (Ow.bU hbs h) λw h=>?_
   exact hK2 e e1 w h
theorem tm{n:O}{K:O->Pw}(hm:de m)(h:Ow B w0 w (bG b m::R))
  (hK0:m.cP n=Z->∀w',Ow B w0 w' (bG b m::R)->K 100 w') (hK1:m.cP n=V->(m.th n).st=0->∀w',Ow B w0 w' (bG b m::R)->K 101 w')
  (hK2:m.cP n=V->(m.th n).st≠0->∀w',Ow B w0 w' (bG b (m.leave n 0)::R)->K 0 w'):TR b.o n K w:=by
 apply ab3;obtain⟨l,q,r,bs,hbs,h⟩:=h.BN;refine eW h (λe=>?_) λa e ha=>?_
 .refine aU U ?_
  exact hK0 e w (Ow.bU hbs h)
 .obtain ⟨n0,n1,hx⟩:=bD e
  refine aW U ?_;refine⟨_,U,_,sI (c:=0) h n0 hx ha U,dK (λe1=>?_) (λe1=>?_)⟩
  .exact hK1 e e1 w (Ow.bU hbs h)
  .refine fP hm e (Ow.bU hbs h) λw h=>?_
   exact hK2 e e1 w h
theorem Bc{ae5:Qs}{n:O}(h:gG ae5=S n):∃x∈ae5,x.2=n:=by unfold gG at h;obtain⟨p,hp,hl⟩:=Option.bind_eq_some_iff.1 h;have hm:=List.mem_of_head? hl;unfold ck at hm;obtain⟨x,hx,e⟩:=O4.1 hm;exact⟨x,(OE.1 hx).1,e⟩
theorem _root_.Go.Vc.Ow.LZ{A1 A2 A3 A4:aH}{bs:J X}{c:O}{b1:X}(hb:bs[c.toNat]?=S b1)(c0:0<=c)(c1:c<m.qs.length)(h:Ow B w0 w (bI b1 (m.q c)::A1::A2::A3::A4::(Ot bI bs m.qs++R).eraseIdx c.toNat)):
  Ow B w0 w (A1::A2::A3::A4::(Ot bI bs m.qs++R)):=by
 have h3:=h.Mj (qs:=m.qs) hb om;have e:m.qs.set c.toNat (m.q c)=m.qs:=by
  apply O2;intro t;rw[Pb];by_cases e:c.toNat=t
  .subst e;rw[A U,A om,rN c0 c1]
  .rw[Q e]
 rw[e]at h3;exact h3
def Mt.aV(m:Mt)(c:O):Mt:=if m.fS c then m.pick c else m
theorem km{n v k:O}:(m.gW n v).fS k=m.fS k:=rfl
theorem rT{n v k:O}:(m.gW n v).cP k=m.cP k:=rfl
theorem de.runT(hm:de m){c o:O}(h:m.bJ c=S o):m.fS c=V/\m.run c=o/\o≠ -1/\m.cP o=true:=by
 unfold Mt.bJ at h;split at h
 .rename_i hc
  cases h;obtain⟨c0,c1⟩:=fW.1 hc.1;have hcr:=hm.jr;have:=hm.run _ (OV (vN (m:=m) c0 om));refine⟨hc.1,U,hc.2,?_⟩;rcases this with e|e
  .exact qi e hc.2
  .unfold Mt.cP;simp;exact e
 .cases h
theorem de.LV(hm:de m){c n:O}(h:gG (m.q c)=S n):0<=n/\m.cP n=true:=by obtain⟨x,hx,e⟩:=Bc h;have:=hm.vK x hx;rw[e]at this;refine⟨this.1,?_⟩;unfold Mt.cP;simp;exact this
theorem iO{c:O}{K:O->W->Pw}(hm:de m)(h:Ow B w0 w (bG b m::R))(hK:∀w',Ow B w0 w' (bG b (m.aV c)::R)->K (((m.aV c).bJ c).getD 0) ((m.aV c).bJ c).isSome w'):S7 b.o c K w:=by
 apply abU;have hcr:=hm.jr;obtain⟨l,q,r,bs,hbs,h⟩:=h.BN;refine pV hbs h ?_;unfold Mt.aV at hK;cases hc:m.fS c with
 |false=>
  rw[hc]at hK;have e:m.bJ c=none:=by unfold Mt.bJ;rw[Q (by rw[hc];simp)]
  refine aU U ?_;have:=hK w (Ow.bU hbs h);simp only[OF,qx,e]at this;exact this
 |true=>
  rw[hc]at hK;simp only[qz]at hK;obtain⟨c0,c1⟩:=fW.1 hc;refine aW U ?_;refine kV (c:=c) hm (Ow.bU hbs h) λw h=>?_;obtain⟨l,q,r,bs,hbs,h⟩:=h.BN;obtain⟨b1,hb1⟩:∃x,bs[c.toNat]?=S x:=⟨_,gE om⟩
  refine⟨_,U,q,h.aE U,h.bX (s:=q) (j:=c.toNat) om hb1 λa2 ha2 h0 hcc=>⟨_,h0 _ U,?_⟩⟩
  refine mM (h.Jr hb1 (rN c0 c1)) λw h=>?_;have h:=h.LZ hb1 c0 c1;intro k15 hk15;refine h.dr λw h=>?_;have stay:∀w,m.pick c=m->Ow B w0 w (bG b m::R)->k15 V w:=λw e h=>by rw[e]at hK;exact hk15 _ _ (aU U (hK w h))
  cases hn:gG (m.q c)with
  |none=>
   refine aU U ?_;exact stay w (by unfold Mt.pick;rw[hn]) (Ow.bU hbs h)
  |some n=>
   rw[hn]at hk15;obtain⟨n0,hnT⟩:=hm.LV hn;obtain⟨_,n1,hnx⟩:=bD hnT;refine aW U ?_;have fin:∀(m1:Mt)(w:Y),de m1->m1.cP n=V->m1.fS c=V->m.pick c=(m1.leave n 2).gW c n->Ow B w0 w (bG b m1::R)->
     RQ b.o n 2 (λw20=>
      ∃a21:qf,S (b.p:qf)=S a21/\
      ∃runs22:Sl,w20.cell? (a21.add 2)=S runs22.v/\
      ∃a23:qf,runs22.a=S a23/\0<=c/\c<(runs22.len:O)/\
      St w20 (a23.add (c.toNat*1)) (.z n) λw24=>K n V w24) w:=λm1 w zR hT1 hC1 hp h=>by
    refine fP zR hT1 h λw h=>?_;have GM:=zR.leave (s:=2) hT1;have hcr2:=GM.jr;have hC2:(m1.leave n 2).fS c=true:=by rw[iB];exact hC1
    obtain⟨d0,d1⟩:=fW.1 hC2;obtain⟨l,q,r,bs,hbs,h⟩:=h.BN;refine⟨_,U,r,h.aE U,h.bX (s:=r) (j:=c.toNat) om (vN (m:=m1.leave n 2) c0 om) λa ha h0 hcc=>?_⟩;refine Ow.Dh (s:=r) (E:=aB) (xs:=(m1.leave n 2).runs) (i:=c) (j:=c.toNat) h n om om ha U λw h=>?_;have h2:Ow B w0 w (bG b ((m1.leave n 2).gW c n)::R):=Ow.bU (m:=(m1.leave n 2).gW c n) hbs h.xm.xm.xm;have hrun:((m1.leave n 2).gW c n).bJ c=S n:=by
     unfold Mt.bJ;have e:((m1.leave n 2).gW c n).run c=n:=by unfold Mt.run Mt.gW;rw[Q om];simp only;rw[Pb,A U,A om];rfl
     rw[e,A ⟨by rw[km];exact hC2,om⟩]
    rw[hp]at hK;have:=hK w h2;rw[hrun]at this;exact this
   cases hr:m.bJ c with
   |none=>
    have hr1:m.run c= -1:=by
     unfold Mt.bJ at hr;split at hr
     .cases hr
     .rename_i hh
      by_cases e:m.run c= -1
      .exact e
      .exact qi ⟨hc,e⟩ hh
    rw[hr]at hk15;refine aW U (hk15 _ _ (aW U ?_));intro k18 hk18;refine aW U (hk18 _ ?_);exact fin m w hm hnT hc (by unfold Mt.pick;rw[hn];simp only;rw[A hr1]) (Ow.bU hbs h)
   |some o=>
    obtain⟨_,hro,ho1,hoT⟩:=hm.runT hr;obtain⟨o0,o1,hox⟩:=bD hoT;rw[hr]at hk15;refine aU U ?_;refine⟨_,U,l,h.aF U,h.bX (s:=l) (i:=n) (j:=n.toNat) om hnx λa ha h0 hcc=>⟨_,hcc 1 _ U,_,U,l,h.aF U,?_⟩⟩
    refine h.bX (s:=l) (i:=o) (j:=o.toNat) om hox λa ha h0 hcc=>⟨_,hcc 1 _ U,?_⟩
    refine(λ(hstay:(m.th n).pr<=(m.th o).pr->k15 V w)(hgo:¬(m.th n).pr<=(m.th o).pr->k15 Z w)=>?_) ?_ ?_
    .show k15 (F ((m.th n).pr<=(m.th o).pr)) w
     by_cases e:(m.th n).pr<=(m.th o).pr
     .rw[qm e];exact hstay e
     .rw[qk e];exact hgo e
    .intro e
     exact stay w (by unfold Mt.pick;rw[hn];simp only;rw[Q (by rw[hro];exact ho1),hro,A e]) (Ow.bU hbs h)
    .intro e
     refine hk15 _ _ (aW U ?_);intro k18 hk18;refine aU U ?_;refine fP hm hoT (Ow.bU hbs h) λw h=>?_;have GM:=hm.leave (s:=1) hoT;have hT2:(m.leave o 1).cP o=true:=by rw[eI];exact hoT
     refine gw GM hT2 h λw h=>?_;refine hk18 _ ?_;exact fin ((m.leave o 1).cp o) w (GM.cp hT2) (by rw[gy,eI];exact hnT) (by rw[iC,iB];exact hc) (by unfold Mt.pick;rw[hn];simp only;rw[Q (by rw[hro];exact ho1),hro,Q e]) h
end
end Th
theorem ab9{a b c d e f K w}:Fr (UJ a b c d e f K w) (A2 w [.y a,.z b,.y c] 98 λa b=>A2 b [.y 0,.z 0,.y 0] 98 λb c=>av c a.p 0 [.u,.o,.u] λ(g h i:O)=>XJ g h i (λc g=>bif c !=0 then aD g b.p 0 [.y 0,.z 0,.y 0] λh=>av h b.p 0 [.u,.o,.u] λ(i j k:O)=>K z0 i j k c h else XK d e (λc d e=>bif d !=0 then aD e b.p 0 [.y 0,.z 0,.y 0] λg=>av g b.p 0 [.u,.o,.u] λ(h i j:O)=>K z0 h i j d g else ∀d:W->Pw,(∀(e:W)(g:Y),(bif e then aD g b.p 0 [.y 0,.z 0,.y 0] λd=>av d b.p 0 [.u,.o,.u] λ(e h i:O)=>K z0 e h i 1 d else Dr g λd=>∃e,d.y a.p e/\∃g,d.z (a.p.add 1) g/\(RA c (λc d=>d.z (a.p.add 1) g/\d.y a.p e/\(RA g (λd g=>g.y a.p e/\∃h,g.y a.p h/\∃i,g.y (a.p.add 2) i/\c≠0/\∀j:O->Pw,(∀(g:O)(h:Y),(A2 h [] 39 λh i=>∀j:O->Sl->O->Pw,(∀(g:O)(h:Sl)(i:O)(k:Y),(bif F (i<f)then bif F ((qq.wrap (g+c))>(qq.wrap (e+d)))then aD k b.p 0 [.y 0,.z 0,.y 0] λd=>av d b.p 0 [.u,.o,.u] λ(e f l:O)=>K z0 e f l 81 d else A2 k [.y g] 39 λd e=>∃f l,aP qe [278,278] 278 h.v (.slice (S d.p) 1 1) e f l/\j (qq.wrap (g+c)) f (qd.wrap (i+1)) l else Dr k λc=>∃d,c.y a.p d/\∃e,c.z (a.p.add 1) e/\∃f,c.y a.p f/\(aD c b.p 0 [.y d,.z e,.y (qq.wrap (g-f))] λa=>av a b.p 0 [.u,.o,.u] λ(b c d:O)=>K h b c d 0 a)/\G)->j g h i k)->j g ⟨S h.p,0,0⟩ 0 i)->j g h)->(bif ((qq.wrap (h+i)).tmod c) !=0 then c≠0/\j (qq.wrap ((qq.wrap ((qq.wrap (h+i))-((qq.wrap (h+i)).tmod c)))+c)) g else j (qq.wrap (h+i)) g)) d)/\G) d)/\G)->d e g)->(bif F (f<1)then d V e else d (F (f>64)) e)) g) c):=ai func276 (.v (.v (.y (.v (.x .w)) (.v (.y (.v (.x .w)) (.y (.y (.r (S [(40,.c .b)]) .done) (.x .w)) (.y (.z (.o 0 60 (.o 2 370 (.o 4 10 (.hold 3 354 1023 (.hold 5 2 959 (.e 1 (.e 6 (.o 7 256 (.o 8 0 (.o 9 0 .done))))))))))) (.v (.y (.v (.t (S [(16,.c (.i .u64))]) .u .u)) (.v (.y (.v (.x (.t (S [(16,.c (.i .u64)),(17,.c .s),(18,.c (.i .i64))]) (.y (.v .w) (.x (.x (.y (.v (.x .w)) .w)))) .u))) (.x (.z (.o 0 1022 (.o 1 1528 (.o 2 1528 (.o 3 1504 (.o 4 1504 (.o 5 1216 (.o 6 1024 (.o 7 1024 (.o 8 1024 (.o 9 1024 .LF)))))))))))))))))))))))
theorem aca{a b c K w}:Fr (XJ a b c K w) (A2 w [.y a,.z b,.y c] 98 λa b=>∀c:W->Pw,(∀(b:W)(d:Y),(bif b then K 1 d else Dr d λb=>∃c,b.z (a.p.add 1) c/\∃d,b.y a.p d/\(RA c (λb c=>c.y a.p d/\b≠0/\bif (d.tmod b) !=0 then((K 1 c)/\G)/\(K 1 c)/\G else ∃b,c.z (a.p.add 1) b/\(∃d,c.y (a.p.add 2) d/\(RA b (λa b=>bif F (d>a)then K 1 b else K 0 b) c)/\G)/\(RA b (λb c=>∃d,c.y (a.p.add 2) d/\bif F (d>b)then K 1 c else K 0 c) c)/\G) b)/\G)->c b d)->(Dr b λb=>∃d,b.z (a.p.add 1) d/\bif F (d<0)then((c V b)/\G)/\(c V b)/\G else ∃d,b.z (a.p.add 1) d/\bif F (d>20)then((c V b)/\G)/\(c V b)/\G else(∃d,b.y a.p d/\(RA 40 (λa b=>c (F (d>a)) b) b)/\G)/\(RA 40 (λb d=>∃e,d.y a.p e/\c (F (e>b)) d) b)/\G)):=ai func365 (.v (.y (.y (.r (S [(16,.c .b)]) (.o 0 0 (.o 1 0 (.o 2 0 (.o 3 0 (.o 4 0 (.o 5 0 (.o 6 0 (.o 7 0 (.o 8 0 (.o 9 2048 (.f 10 (.e 11 (.o 12 0 (.o 13 0 .done))) (.e 11 (.o 10 0 (.o 12 0 (.o 13 0 .done)))))))))))))))) (.x .w)) (.y (.y (.z (.o 0 28 (.o 2 2 (.o 3 2 (.hold 1 16 28671 (.e 4 (.o 5 0 (.o 6 0 (.o 7 0 (.o 8 7168 (.o 10 512 (.o 11 512 (.f 9 (.e 12 .LH) (.e 12 (.o 9 0 .LH))))))))))))))) (.x .w)) .w)))
theorem acb{a b K w}:Fr (XK a b K w) (bif a==1 then bif F (b>=4)then bif F (b<=20)then K b 0 w else K 0 1 w else K 0 1 w else bif a==2 then ∀c:W->Pw,(∀(a:W)(d:Y),(bif a then K (qd.wrap (b+2)) 0 d else K 0 1 d)->c a d)->(bif F (b>=1)then c (F (b<=8)) w else c Z w)else bif a==3 then K 5 0 w else ∀b:W->Pw,(∀(c:W)(d:Y),(bif c then K 2 0 d else bif a==6 then bif a==6 then K 6 0 d else K 0 80 d else bif a==7 then bif a==7 then K 6 0 d else K 0 80 d else bif a==8 then K 6 0 d else K 0 80 d)->b c d)->(bif a==4 then b (a==4) w else b (a==5) w)):=ai func366 (.v (.y (.v (.x (.v (.y (.y (.v (.x .w)) .w) (.v (.y (.y (.y (.r (S [(23,.c .b)]) .done) (.x .w)) .w) (.v (.y .w (.y (.v (.t (S [(28,.c .b)]) .u .u)) (.y .w (.y (.v (.v (.v .w))) (.x .w)))))))))))) .w))
theorem acd{a K w}:Fr (VZ a K w) (∀b:O->Pw,(∀(c:O)(d:Y),(bif F (c>=0)then WN a c (λa d=>bif F ((a.len:O)>0)then ∃e,a.a=S e/\(0:O)<=0/\0<(a.len:O)/\∃a,d.z (e.add ((0:O).toNat*1)) a/\K a V d else b (qd.wrap (c-1)) d) d else K 0 Z d)->b c d)->b 255 w):=ai func136 (.v (.y (.v (.x (.t (S [(4,.c (.i .i64))]) (.y (.v .w) (.x (.x (.v (.v (.x .w)))))) .u))) .w))
theorem ace{a b c K w}:Fr (WM a b c K w) (∀d:W->Pw,(∀(e:W)(f:Y),(bif e then K 1 f else Xo a c (λ_ d e=>bif d then K 90 e else ∃d,a=S d/\∃f,e.s d f/\A2 e [.z b,.z c] 435 λb c=>∃d e,aP qe [260,260] 260 f.v (.slice (S b.p) 1 1) c d e/\∃b,a=S b/\St e b d.v λa=>K 0 a) f)->d e f)->(bif F (b<0)then d V w else d (F (b>255)) w)):=ai func239 (.v (.y .LD (.v .Kw)))
theorem acf{a b K w}:Fr (WN a b K w) (A2 w [] 3 λc d=>∀e:Sl->O->Pw,(∀(c:Sl)(d:O)(f:Y),(∃g,a=S g/\∃h,f.s g h/\bif F (d<(h.len:O))then ∃g,a=S g/\∃h,f.s g h/\∃g,h.a=S g/\0<=d/\d<(h.len:O)/\∃h,f.z (g.add (d.toNat*2)) h/\bif h==b then ∃b,a=S b/\∃a,f.s b a/\∃b,a.a=S b/\0<=d/\d<(a.len:O)/\∃a,f.z ((b.add (d.toNat*2)).add 1) a/\A2 f [.z a] 3 λa b=>∃g h,aP qe [22,22] 22 c.v (.slice (S a.p) 1 1) b g h/\e g (qd.wrap (d+1)) h else e c (qd.wrap (d+1)) f else K c f)->e c d f)->e ⟨S c.p,0,0⟩ 0 d):=ai func240 (.v (.v (.y .MB .w)))
theorem acg{a b K w}:Fr (WO a b K w) (A2 w [] 435 λc d=>∀e:Sl->O->Pw,(∀(c:Sl)(d:O)(f:Y),(∃g,a=S g/\∃h,f.s g h/\bif F (d<(h.len:O))then ∃g,a=S g/\∃h,f.s g h/\∃g,h.a=S g/\0<=d/\d<(h.len:O)/\∃h,f.z ((g.add (d.toNat*2)).add 1) h/\bif h !=b then ∃b,a=S b/\∃g,f.s b g/\∃b,g.a=S b/\0<=d/\d<(g.len:O)/\av f (b.add (d.toNat*2)) 0 [.o,.o] λ(b g:O)=>A2 f [.z b,.z g] 435 λb g=>∃h i,aP qe [260,260] 260 c.v (.slice (S b.p) 1 1) g h i/\e h (qd.wrap (d+1)) i else e c (qd.wrap (d+1)) f else ∃b,a=S b/\∃d,f.s b d/\bif (c.len:O)==(d.len:O)then K 91 f else ∃b,a=S b/\St f b c.v λa=>K 0 a)->e c d f)->e ⟨S c.p,0,0⟩ 0 d):=ai func241 (.v (.v (.y .MB .Kw)))
theorem ach{a b K w}:Fr (Xo a b K w) (∀c:O->Pw,(∀(d:O)(e:Y),(∃f,a=S f/\∃g,e.s f g/\bif F (d<(g.len:O))then ∃f,a=S f/\∃g,e.s f g/\∃f,g.a=S f/\0<=d/\d<(g.len:O)/\∃g,e.z ((f.add (d.toNat*2)).add 1) g/\bif g==b then ∃b,a=S b/\∃a,e.s b a/\∃b,a.a=S b/\0<=d/\d<(a.len:O)/\∃a,e.z (b.add (d.toNat*2)) a/\K a V e else c (qd.wrap (d+1)) e else K 0 Z e)->c d e)->c 0 w):=ai func326 .Nu
theorem aci{a b K w}:Fr (Ua a b K w) (Sy a b (λc d e=>bif !d then K Z e else Dr e λd=>∃e,a=S e/\∃f,d.s e f/\∃e,a=S e/\∃g,d.s e g/\∃e,g.a=S e/\0<=c/\c<(g.len:O)/\∃g,d.z ((e.add (c.toNat*12)).add 3) g/\∃e,f.a=S e/\0<=c/\c<(f.len:O)/\(St d ((e.add (c.toNat*12)).add 3) (.z (qd.wrap (g-1))) λd=>∃e,a=S e/\∃f,d.s e f/\∃e,f.a=S e/\0<=c/\c<(f.len:O)/\∃f,d.z ((e.add (c.toNat*12)).add 3) f/\bif f==0 then Ty a b (λ_ a=>K V a) d else K V d)/\G) w):=ai func16 (.v (.v (.y (.v (.x .w)) (.y (.z (.o 0 16368 (.o 1 16368 (.o 2 16368 (.o 3 16368 (.o 4 16352 (.o 5 512 (.o 6 512 (.o 7 512 (.o 8 512 (.o 9 0 (.o 10 0 (.o 11 0 (.o 12 0 (.o 13 0 (.o 14 0 (.o 15 0 (.e 16 .done)))))))))))))))))) (.y (.v .w) .w)))))
theorem acj{a K w}:Fr (Vv a K w) (∀b:W->Pw,(∀(c:W)(d:Y),(bif c then K I 1 d else A2 d [.slice I 0 0,.slice I 0 0] 136 λb c=>∀d:O->Pw,(∀(c:O)(e:Y),(bif F (c<a)then ∃a,S b.p=S a/\∃f,e.s (a.add 1) f/\A2 e [.slice I 0 0] 262 λa g=>A2 g [.pointer (S a.p)] 259 λa g=>∃h i,aP qe [134,134] 134 f.v (.slice (S a.p) 1 1) g h i/\∃a,S b.p=S a/\St i (a.add 1) h.v λa=>d (qd.wrap (c+1)) a else K (S b.p) 0 e)->d c e)->d 0 c)->b c d)->(bif F (a<1)then b V w else b (F (a>8)) w)):=ai func45 (.v (.y (.y (.r (S [(11,.c .b)]) .done) (.x .w)) (.v (.y .NL .w))))
theorem ack{a b c K w}:Fr (Ug a b c K w) (∀d:W->Pw,(∀(e:W)(f:Y),(bif e then K 0 1 f else ∃d,a=S d/\∃e,f.s d e/\bif F ((e.len:O)>=64)then K 0 2 f else ∃d,a=S d/\∃e,f.s d e/\A2 f [.z 0,.z b,.z c,.z 5,.y 0,.y 0,.y 0,.y 0,.y 0,.y 0,.y 0,.y 0] 139 λb c=>∃d f,aP qe [133,133] 133 e.v (.slice (S b.p) 1 1) c d f/\∃b,a=S b/\St f b d.v λb=>∃c,a=S c/\∃a,b.s c a/\K (qd.wrap ((a.len:O)-1)) 0 b)->d e f)->(Uo b (λb e=>bif !b then d V e else Up a c (λa b=>d (!a) b) e) w)):=ai func49 (.v (.y (.y (.r (S [(16,.c .b)]) .done) (.x .w)) .Kw))
theorem acm{a b K w}:Fr (Tx a b K w) (R9 a b (λc d=>bif !c then K 100 d else ∀c:W->Pw,(∀(d:W)(e:Y),(bif d then K 101 e else Tm a b (λa=>K 0 a) e)->c d e)->(∃e,a=S e/\∃f,d.s e f/\∃e,f.a=S e/\0<=b/\b<(f.len:O)/\∃f,d.z (e.add (b.toNat*12)) f/\bif f==1 then c V d else ∃e,a=S e/\∃a,d.s e a/\∃e,a.a=S e/\0<=b/\b<(a.len:O)/\∃a,d.z (e.add (b.toNat*12)) a/\c (a==2) d)) w):=ai func50 (.v (.y (.v (.x .w)) (.y (.y (.r (S [(28,.c .b)]) .done) (.x .w)) (.v .w))))
theorem acn{a b K w}:Fr (S8 a b K w) (Up a b (λc d=>bif !c then K 0 Z d else Sy a b (λc d e=>∃f,a=S f/\∃g,e.s (f.add 1) g/\∃f,g.a=S f/\0<=b/\b<(g.len:O)/\∃g,e.q (f.add (b.toNat*1)) g/\VZ g (λe f g=>∀h:W->Pw,(∀(f:W)(g:Y),(∀h:Pw,(∀c:Y,(Sy a b (λa b c=>K a b c) c)->h c)->(bif f then ∀b:Pw,(∀c:Y,(Tn a e (λb=>∃c,a=S c/\∃a,b.s c a/\∃c,a.a=S c/\0<=e/\e<(a.len:O)/\St b (c.add (e.toNat*12)) (.z 2) λa=>h a) c)->b c)->(bif d then Tm a c (λa=>b a) g else b g)else h g))->h f g)->(Dr g λb=>bif f then bif !d then h V b else ∃d,a=S d/\∃f,b.s d f/\∃d,f.a=S d/\0<=e/\e<(f.len:O)/\∃f,b.z ((d.add (e.toNat*12)).add 1) f/\∃d,a=S d/\∃a,b.s d a/\∃d,a.a=S d/\0<=c/\c<(a.len:O)/\∃a,b.z ((d.add (c.toNat*12)).add 1) a/\h (F (f>a)) b else h Z b)) e) d) w):=ai func51 (.v (.y (.v (.x .w)) (.v (.v (.y (.y .g1 (.t (S []) (.y .LG .w) .u)) .w)))))
theorem aco{a b K w}:Fr (Vy a b K w) (A2 w [.z 0,.z 0,.z 0,.z 0,.y 0,.y 0,.y 0,.y 0,.y 0,.y 0,.y 0,.y 0] 139 λc d=>R9 a b (λd e=>bif !d then aD e c.p 0 [.z 0,.z 0,.z 0,.z 0,.y 0,.y 0,.y 0,.y 0,.y 0,.y 0,.y 0,.y 0] λd=>av d c.p 0 [.o,.o,.o,.o,.u,.u,.u,.u,.u,.u,.u,.u] λ(f g h i j k l m n o p q:O)=>K f g h i j k l m n o p q 100 d else ∃d,a=S d/\∃a,e.s d a/\∃d,a.a=S d/\0<=b/\b<(a.len:O)/\av e (d.add (b.toNat*12)) 0 [.o,.o,.o,.o,.u,.u,.u,.u,.u,.u,.u,.u] λ(a b d f g h i j k l m n:O)=>aD e c.p 0 [.z a,.z b,.z d,.z f,.y g,.y h,.y i,.y j,.y k,.y l,.y m,.y n] λa=>av a c.p 0 [.o,.o,.o,.o,.u,.u,.u,.u,.u,.u,.u,.u] λ(b c d e f g h i j k l m:O)=>K b c d e f g h i j k l m 0 a) d):=ai func56 .Ir
theorem acp{a b K w}:Fr (Sy a b K w) (∀c:O->Pw,(∀(d:O)(e:Y),(∃f,a=S f/\∃g,e.s f g/\bif F (d<(g.len:O))then ∀f:W->Pw,(∀(a:W)(b:Y),(bif a then K d V b else c (qd.wrap (d+1)) b)->f a b)->(∃c,a=S c/\∃g,e.s c g/\∃c,g.a=S c/\0<=d/\d<(g.len:O)/\∃g,e.z (c.add (d.toNat*12)) g/\bif g==2 then ∃c,a=S c/\∃a,e.s c a/\∃c,a.a=S c/\0<=d/\d<(a.len:O)/\∃a,e.z ((c.add (d.toNat*12)).add 2) a/\f (a==b) e else f Z e)else K 0 Z e)->c d e)->c 0 w):=ai func65 (.v (.y (.v (.x (.t (S [(6,.c (.i .i64))]) (.y (.v .w) (.x (.x (.y (.r (S [(36,.c .b)]) .done) (.x .w))))) .u))) .w))
theorem YL{a b K w}:Fr (Ty a b K w) (Sy a b (λc d e=>bif !d then K Z e else ∃d,a=S d/\∃f,e.s d f/\∃d,f.a=S d/\0<=c/\c<(f.len:O)/\St e ((d.add (c.toNat*12)).add 3) (.z 5) λd=>Tm a c (λc=>S8 a b (λ_ _ a=>K V a) c) d) w):=ai func69 (.v (.v (.y (.v (.x .w)) (.v (.v (.v .w))))))
theorem acq{a K w}:Fr (Uo a K w) (bif F (a>=0)then K (F (a<=255)) w else K Z w):=ai func132 (.v .w)
theorem acr{a b K w}:Fr (Up a b K w) (bif F (b>=0)then ∃c,a=S c/\∃a,w.s (c.add 1) a/\K (F (b<(a.len:O))) w else K Z w):=ai func133 (.v .w)
theorem acs{a b K w}:Fr (R9 a b K w) (bif F (b>=0)then ∃c,a=S c/\∃a,w.s c a/\K (F (b<(a.len:O))) w else K Z w):=ai func134 (.v .w)
theorem acu{a b K w}:Fr (Tm a b K w) (∃c,a=S c/\∃d,w.s c d/\∃c,d.a=S c/\0<=b/\b<(d.len:O)/\St w (c.add (b.toNat*12)) (.z 1) λc=>Dr c λc=>∃d,a=S d/\∃e,c.s (d.add 1) e/\∃d,a=S d/\∃f,c.s d f/\∃d,f.a=S d/\0<=b/\b<(f.len:O)/\∃f,c.z ((d.add (b.toNat*12)).add 2) f/\∃d,e.a=S d/\0<=f/\f<(e.len:O)/\∃e,c.q (d.add (f.toNat*1)) e/\∃d,a=S d/\∃a,c.s d a/\∃d,a.a=S d/\0<=b/\b<(a.len:O)/\∃a,c.z ((d.add (b.toNat*12)).add 1) a/\(WM e a b (λ_ a=>K a) c)/\G):=ai func135 (.v (.z (.o 0 8376304 (.o 1 8376304 (.o 2 8376304 (.o 3 8376304 (.o 4 8372480 (.o 5 8372480 (.o 6 8372480 (.o 7 8372480 (.o 8 8372224 (.o 9 8372224 (.o 10 8372224 (.o 11 8372224 (.o 12 8372224 (.o 13 8372224 (.o 14 4456448 (.o 15 4456448 (.o 16 4456448 (.o 17 4456448 (.o 18 4194304 (.o 19 4194304 (.o 20 4194304 (.o 21 4194304 (.o 22 0 (.e 23 .done))))))))))))))))))))))))))
theorem acv{a b K w}:Fr (Tn a b K w) (Dr w λc=>∃d,a=S d/\∃e,c.s (d.add 1) e/\∃d,a=S d/\∃a,c.s d a/\∃d,a.a=S d/\0<=b/\b<(a.len:O)/\∃a,c.z ((d.add (b.toNat*12)).add 2) a/\∃d,e.a=S d/\0<=a/\a<(e.len:O)/\∃e,c.q (d.add (a.toNat*1)) e/\(WO e b (λ_ a=>K a) c)/\G):=ai func137 (.z (.o 0 20464 (.o 1 20464 (.o 2 20464 (.o 3 20464 (.o 4 16640 (.o 5 16640 (.o 6 16640 (.o 7 16640 (.o 8 16384 (.o 9 16384 .NA)))))))))))
theorem acw{a b K w}:Fr (Uv a b K w) (R9 a b (λc d=>bif !c then K 100 d else ∃c,a=S c/\∃e,d.s c e/\∃c,e.a=S c/\0<=b/\b<(e.len:O)/\∃e,d.z (c.add (b.toNat*12)) e/\bif e==0 then K 101 d else Tn a b (λc=>∃d,a=S d/\∃a,c.s d a/\∃d,a.a=S d/\0<=b/\b<(a.len:O)/\St c (d.add (b.toNat*12)) (.z 0) λa=>K 0 a) d) w):=ai func179 (.v (.y (.v (.x .w)) (.y (.v (.x .w)) (.v (.v .w)))))
theorem acx{a b c K w}:Fr (Wo a b c K w) (R9 a b (λd e=>bif !d then K 100 e else Uo c (λd e=>bif !d then K 1 e else Tn a b (λd=>∃e,a=S e/\∃f,d.s e f/\∃e,f.a=S e/\0<=b/\b<(f.len:O)/\St d ((e.add (b.toNat*12)).add 1) (.z c) λc=>∃d,a=S d/\∃e,c.s d e/\∃d,e.a=S d/\0<=b/\b<(e.len:O)/\∃e,c.z (d.add (b.toNat*12)) e/\bif e==1 then Tm a b (λa=>K 0 a) c else K 0 c) e) e) w):=ai func180 (.v (.y (.v (.x .w)) (.y (.v (.x .w)) (.v (.v (.y (.v .w) .w))))))
theorem acy{a b c d K w}:Fr (Tq a b c d K w) (R9 a b (λe f=>bif !e then K 100 f else ∀e:W->Pw,(∀(f:W)(g:Y),(bif f then K 1 g else ∃e,a=S e/\∃a,g.s e a/\∃e,a.a=S e/\0<=b/\b<(a.len:O)/\0<=c/\c<8/\St g (((e.add (b.toNat*12)).add 4).add (c.toNat*1)) (.y d) λa=>K 0 a)->e f g)->(bif F (c<0)then e V f else e (F (c>7)) f)) w):=ai func197 (.v (.y (.v (.x .w)) (.y (.y .MS (.x .w)) (.v .w))))
theorem acz{a b K w}:Fr (Xd a b K w) (R9 a b (λc d=>bif !c then K 100 d else ∃c,a=S c/\∃e,d.s c e/\∃c,e.a=S c/\0<=b/\b<(e.len:O)/\∃e,d.z (c.add (b.toNat*12)) e/\bif e !=2 then K 101 d else ∃c,a=S c/\∃a,d.s c a/\∃c,a.a=S c/\0<=b/\b<(a.len:O)/\St d (c.add (b.toNat*12)) (.z 3) λa=>K 0 a) w):=ai func290 (.v (.y (.v (.x .w)) .Kw))
namespace Th
section
variable{B:X}{w0 w:Y}{R:J aH}{b:X}{m:Mt}
def Mt.make(m:Mt)(p c:O):Mt:={ m with bF:=m.bF++ [⟨0,p,c,5,λ_=>0⟩]}
theorem de.make(hm:de m){p c:O}(hl:m.bF.length<64)(hc:m.fS c=V):de (m.make p c):=by
 obtain⟨c0,c1⟩:=fW.1 hc;unfold Mt.make;refine⟨by simp;omega,hm.jr,hm.Jg,λx hx=>?_,λx hx=>rfl,λn hn=>?_,λae5 hQ x hx=>?_⟩
 .rcases Pn.1 hx with h|h
  .exact hm.core x h
  .simp at h;subst h;exact⟨c0,c1⟩
 .rcases hm.run n hn with h|h
  .exact .inl h
  .exact .inr ⟨h.1,by simp;omega⟩
 .have:=hm.line ae5 hQ x hx
  exact⟨this.1,by simp;omega⟩
theorem oW{p c:O}{K:O->O->Pw}(hm:de m)(h:Ow B w0 w (bG b m::R))
  (hK0:¬(0<=p/\p<256/\m.fS c=V)->∀w',Ow B w0 w' (bG b m::R)->K 0 1 w')
  (hK1:(0<=p/\p<256/\m.fS c=V)->64<=m.bF.length->∀w',Ow B w0 w' (bG b m::R)->K 0 2 w')
  (hK2:(0<=p/\p<256/\m.fS c=V)->m.bF.length<64->∀w',Ow B w0 w' (bG b (m.make p c)::R)->K (m.bF.length:O) 0 w'):S3 b.o p c K w:=by
 apply abS;have hfew:=hm.fh;obtain⟨l,q,r,bs,hbs,h⟩:=h.BN;have hl:=h.aL l;intro k hk;refine kW ?_;refine JW (λe=>?_) (λe=>?_)
 .refine hk _ _ (aU U ?_)
  exact hK0 (λhh=>by rw[qm hh.1,qm hh.2.1]at e;cases e) w (Ow.bU hbs h)
 simp only[OH,qA]at e;refine pV hbs h ?_;cases hc:m.fS c with
 |false=>
  refine hk _ _ (aU U ?_);exact hK0 (λhh=>by rw[hc]at hh;cases hh.2.2) w (Ow.bU hbs h)
 |true=>
  have hh:=And.intro e.1 (And.intro e.2 hc);refine hk _ _ (aW U ?_);refine⟨_,U,l,h.aF U,bg (λe2=>?_) (λe2=>?_)⟩
  .exact hK1 hh om w (Ow.bU hbs h)
  .refine ⟨_,U,l,h.aF U,?_⟩
   refine h.a λd w1 h=>?_;refine Ow.eR (s:=l) (E:=ko) (xs:=m.bF) (y:=⟨0,p,c,5,λ_=>0⟩) aet (show qe.info? 139=S qU from by kernel_rfl) (zv:=(qU.zero).get qa) qa qa qa qb h (by
    have e:qU.bytes=96:=qa
    rw[e];omega) λs' w hs' h=>?_
   refine⟨_,U,?_⟩;have h:=h.cw;refine h.jx U U λw h=>?_;refine⟨_,U,s',h.aF U,?_⟩;rw[show qd.wrap ((s'.len:O)-1)=(m.bF.length:O)from by rw[hs',wr om om];omega];exact hK2 hh om w (Ow.bU (m:=m.make p c) (l:=s') (q:=q) (r:=r) (bs:=bs) hbs h)
def Mt.yield(m:Mt)(c:O):Mt:=match m.bJ c with
 |none=>m
 |some o=>(((m.aM o { m.th o with le:=5}).leave o 1).cp o).aV c
theorem dt{n k:O}{t:u3}:(m.aM n t).cP k=m.cP k:=by unfold Mt.aM Mt.cP;simp
theorem oa{c:O}{K:W->Pw}(hm:de m)(h:Ow B w0 w (bG b m::R))(hK:∀w',Ow B w0 w' (bG b (m.yield c)::R)->K (m.bJ c).isSome w'):Ui b.o c K w:=by
 apply abV;refine kV (c:=c) hm h λw h=>?_;unfold Mt.yield at hK;cases hr:m.bJ c with
 |none=>
  rw[hr]at hK;exact aU U (hK w h)
 |some o=>
  rw[hr]at hK;obtain⟨hc,hro,ho1,hoT⟩:=hm.runT hr;obtain⟨o0,o1,hox⟩:=bD hoT;have ht:=hm.th hoT;refine aW U ?_;obtain⟨l,q,r,bs,hbs,h⟩:=h.BN;refine⟨_,U,l,h.aF U,h.bX (s:=l) (i:=o) (j:=o.toNat) om hox λa ha h0 hcc=>?_⟩;refine BK (c:=3) (t':={ m.th o with le:=5}) h o0 hox ha U qb U λw h=>?_;have h:Ow B w0 w (bG b (m.aM o { m.th o with le:=5})::R):=Ow.bU (m:=m.aM o { m.th o with le:=5}) hbs h;have zR:de (m.aM o { m.th o with le:=5}):=hm.aM (t:={ m.th o with le:=5}) ht.1 U;have hT1:(m.aM o { m.th o with le:=5}).cP o=true:=by rw[dt];exact hoT
  refine fP zR hT1 h λw h=>?_;have hT2:((m.aM o { m.th o with le:=5}).leave o 1).cP o=true:=by rw[eI];exact hT1
  refine gw (zR.leave hT1) hT2 h λw h=>?_;refine iO ((zR.leave hT1).cp hT2) h λw h=>?_;exact hK w h
def Mt.tick(m:Mt)(c:O):Mt:=match m.bJ c with
 |none=>m
 |some o=>if qd.wrap ((m.th o).le-1)<=0 then(m.aM o { m.th o with le:=qd.wrap ((m.th o).le-1)}).yield c else m.aM o { m.th o with le:=qd.wrap ((m.th o).le-1)}
theorem xh{c:O}{K:W->Pw}(hm:de m)(h:Ow B w0 w (bG b m::R))(hK:∀w',Ow B w0 w' (bG b (m.tick c)::R)->K (m.bJ c).isSome w'):VJ b.o c K w:=by
 apply abW;refine kV (c:=c) hm h λw h=>?_;unfold Mt.tick at hK;cases hr:m.bJ c with
 |none=>
  rw[hr]at hK;exact aU U (hK w h)
 |some o=>
  rw[hr]at hK;obtain⟨hc,hro,ho1,hoT⟩:=hm.runT hr;obtain⟨o0,o1,hox⟩:=bD hoT;have ht:=hm.th hoT;refine aW U ?_;obtain⟨l,q,r,bs,hbs,h⟩:=h.BN;refine⟨_,U,l,h.aF U,h.bX (s:=l) (i:=o) (j:=o.toNat) om hox λa ha h0 hcc=>⟨_,hcc 3 _ U,?_⟩⟩
  refine h.bX (s:=l) (i:=o) (j:=o.toNat) om hox λa ha h0 hcc=>?_;simp only at hK;generalize hv:qd.wrap ((m.th o).le-1)=v at hK|-;refine BK (c:=3) (t':={ m.th o with le:=v}) h o0 hox ha U qb U λw h=>?_;have hx2:(m.bF.set o.toNat { m.th o with le:=v})[o.toNat]?=S { m.th o with le:=v}:=by rw[Pb,A U,A om]
  refine⟨_,U,l,h.aF U,h.bX (s:=l) (i:=o) (j:=o.toNat) om hx2 λa ha h0 hcc=>⟨_,hcc 3 _ U,?_⟩⟩
  have h:Ow B w0 w (bG b (m.aM o { m.th o with le:=v})::R):=Ow.bU (m:=m.aM o { m.th o with le:=v}) hbs h;have zR:de (m.aM o { m.th o with le:=v}):=hm.aM (t:={ m.th o with le:=v}) ht.1 U;refine bg (λe=>?_) (λe=>?_)
  .rw[A (e:v<=0)]at hK
   exact oa zR h λw h=>hK w h
  .rw[Q (e:¬v<=0)]at hK
   exact hK w h
end
end Th
end Go.Vc
