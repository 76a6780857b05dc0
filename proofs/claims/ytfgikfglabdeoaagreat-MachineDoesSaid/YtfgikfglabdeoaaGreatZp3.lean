/- What the row rests on: the declarations that it needs, out of my texts (part 3). -/
import Derived.Test.YtfgikfglabdeoaaGreatZp2
open Bool renaming false->qd,true->G
open Decidable renaming decide->qe
open Go renaming Addr->qf,Operand->qD,Value->V,World->W,zeroValue->qK
open Go.IntKind renaming i64->qj,u64->qA
open Go.Proofs.Tryz renaming prog->qh,t155->qY,t3->qI,t316->akg,t325->akE,t331->akC,underlying124->aj8,underlying22->qJ,underlying235->qT,underlying250->akD,underlying3->qC,underlying328->aj7,underlying370->qW,zeroValue3->qU
open Option renaming none->Q,some->X
open _root_ renaming Bool->I,Int->U,List->J,Nat->S,Option->qg,True->qu,absurd->qk,beq_iff_eq->qN,bne_iff_ne->qQ,cond_false->qv,cond_true->qq,congrArg->qz,decide_eq_false->ql,decide_eq_true->qp,decide_eq_true_eq->qF,if_false->qB,if_neg->Y,if_pos->Z,if_true->qE,or_false->qG,rfl->O
open Go.Proofs.Tryz
open Bool renaming false_eq_true->SX,not_false->T4,not_true->T1
open Int renaming eq_ofNat_of_zero_le->SI,le_refl->VM,natCast_nonneg->UJ,toNat_natCast->SD
open List renaming append_assoc->S6,append_nil->SL,cons_append->T2,drop_drop->TK,drop_eq_getElem_cons->TB,drop_left'->WK,drop_set_of_lt->Wn,eq_nil_of_length_eq_zero->TQ,ext_getElem?->Td,filter_append->Tm,filter_congr->Vw,filter_cons->Tk,filter_eq_self->TF,filter_filter->Up,filter_nil->Uk,findIdx?_eq_none_iff->Tt,findIdx?_eq_some_iff_getElem->Tc,flatMap_append->Tp,getElem?_append_left->SM,getElem?_append_right->SP,getElem?_cons_succ->SR,getElem?_cons_zero->TI,getElem?_drop->S8,getElem?_eq_none->SZ,getElem?_eq_some_iff->Sz,getElem?_map->S2,getElem?_range->TT,getElem?_set->To,getElem?_set_self->SQ,getElem?_take->S5,length->TO,length_append->SG,length_cons->SJ,length_drop->UK,length_filter_le->S3,length_map->S9,length_range->U8,map_append->S0,map_cons->S7,map_nil->Uf,map_set->Vx,mem_append->Tv,mem_cons->SH,mem_filter->SV,mem_iff_getElem?->Tg,mem_map->Tj,mem_of_getElem?->SU,mem_singleton->Tf,nil_append->TG,nodup_append->Ug,nodup_cons->Tx,not_mem_nil->TE,perm_middle->Tw,range->SF,replicate->SB,set_append_left->UP,set_append_right->Uy,set_cons_succ->S1,set_cons_zero->Tu,set_set->Ul,singleton_append->Wb,take->Wx,takeWhile_append_dropWhile->U3,takeWhile_cons_of_neg->VK,takeWhile_cons_of_pos->VL,take_add_one->SO,take_append_drop->Tl,take_append_of_le_length->T8,take_left->U0,take_of_length_le->SE,take_set_of_le->Wq,take_take->U1
open Nat renaming add_assoc->UN,add_comm->VT,add_sub_cancel_left->UQ,add_zero->UD,div_lt_of_lt_mul->VF,le_refl->SA,le_trans->SY,log2_eq_iff->WN,min_eq_left->TL,min_self->Wj,mul_one->Vg,pow_add->Xr,succ_mul->UM,two_pow_pos->TW,zero_add->SS
open Option renaming map_eq_none_iff->WU,map_eq_some_iff->Ut,map_some->TM,toList_some->Ur
set_option maxRecDepth 100000
set_option maxHeartbeats 4000000
set_option linter.all false
namespace Go.Vc
open Go.Proofs
def afl{a b c d e K w}:=ah (Zk a b c d e K w) func96 (.v (.v .w))
def afm{a K w}:=ah (aaB a K w) func206 (.v .w)
def afn{a K w}:=ah (Ze a K w) func84 .oe
def afo{a K w}:=ah (Zg a K w) func92 .oe
def adF{a b K w}:=ah (adN a b K w) func117 (.v .w)
def afp{a b K w}:=ah (ZF a b K w) func118 (.v (.y .Kc (.v (.y (.y .N6 (.t (X []) .u .u)) (.v (.v (.y (.x (.t (X [(8,.c (.i .i64))]) (.y (.v .w) (.x (.z (.o 0 254 (.o 1 116 (.o 2 112 (.o 3 112 (.o 4 32 (.o 5 0 (.o 6 0 (.e 7 (.o 8 0 (.o 9 0 .done))))))))))))) .u)) .w)))))))
def Ye{a K w}:=ah (WE a K w) func198 .oe
def afq{a K w}:=ah (aax a K w) func200 .oe
def afr{a K w}:=ah (aay a K w) func201 .oe
def afs{a K w}:=ah (aaz a K w) func203 .oe
def aft{a K w}:=ah (aaA a K w) func204 .oe
def afu{a K w}:=ah (aaK a K w) func217 .oe
def afv{a K w}:=ah (aaL a K w) func218 .oe
def adG{a b K w}:=ah (XW a b K w) func227 .HK
def afw{a b K w}:=ah (XY a b K w) func242 (.v (.v (.v .w)))
def afx{a K w}:=ah (abh a K w) func258 (.v .w)
def afy{a b c K w}:=ah (abO a b c K w) func293 .g24
def afz{a b K w}:=ah (abY a b K w) func305 .HK
def afA{a K w}:=ah (ab0 a K w) func307 (.v (.x (.t (X [(2,.c (.i .i64)),(3,.c (.i .i64))]) (.y (.v .w) (.x (.x (.z (.o 0 4094 (.o 1 4092 (.o 2 16376 (.o 3 16368 (.o 4 3872 (.o 5 3840 (.o 6 3840 (.o 7 3840 (.o 8 512 (.o 9 0 (.o 10 0 (.o 11 0 (.o 12 0 (.e 13 (.o 14 0 (.e 15 .done)))))))))))))))))))) .u)))
def afB{a b K w}:=ah (ab9 a b K w) func319 .HK
def afC{a b K w}:=ah (ace a b K w) func323 .g20
def afD{a K w}:=ah (adQ a K w) func327 (.v .w)
def afE{a b K w}:=ah (aco a b K w) func339 (.v .w)
def afF{a b K w}:=ah (acv a b K w) func345 (.v .w)
def afG{a b K w}:=ah (acE a b K w) func357 (.v .w)
def afH{a b K w}:=ah (acH a b K w) func360 (.v .w)
def afI{a b K w}:=ah (adR a b K w) func367 .HK
def afJ{a b K w}:=ah (acS a b K w) func372 .HK
def afK{a b c K w}:=ah (acV a b c K w) func375 .g24
def afL{a b c K w}:=ah (acX a b c K w) func377 .g24
def afM{a b K w}:=ah (ac9 a b K w) func397 .HK
def afN{a b c K w}:=ah (Ya a b c K w) func398 (.v (.v (.v (.y (.v (.x .w)) (.v (.y (.v (.x .w)) (.y (.v (.x (.v (.v (.y .Rp .w))))) (.v (.y (.v (.x (.y .Rp (.v .w)))) (.v (.v .w)))))))))))
def afO{a b c K w}:=ah (Yb a b c K w) func399 .g24
def afP{a b K w}:=ah (ada a b K w) func400 .HK
def afQ{a b K w}:=ah (adg a b K w) func404 .g20
def afR{a b K w}:=ah (adj a b K w) func407 (.v .w)
def afS{a b c K w}:=ah (adl a b c K w) func409 .g24
def afT{a b K w}:=ah (adm a b K w) func410 .HK
def afU{a b K w}:=ah (adT a b K w) func411 .HK
def afV{a b K w}:=ah (adU a b K w) func413 (.v .w)
def afW{a b K w}:=ah (adq a b K w) func417 .g20
def afX{a b K w}:=ah (adv a b K w) func435 .HK
def afY{a b K w}:=ah (adV a b K w) func437 .HK
def afZ{a b K w}:=ah (adw a b K w) func438 .HK
structure Je where
 label:U
 w0:U
 w1:U
 w2:U
 w3:U
 aD:U
 calls:I
deriving DecidableEq
structure Wt where
 who:U
 m:Je
deriving DecidableEq
def iY:dX Wt:=⟨8,λo=>[.z o.who,.z o.m.label,.y o.m.w0,.y o.m.w1,.y o.m.w2,.y o.m.w3,.y o.m.aD,.bool o.m.calls],λ_=>rfl,λx v h=>by simp only[SH,TE,qG]at h;rcases h with rfl|rfl|rfl|rfl|rfl|rfl|rfl|rfl<;>rfl,qb⟩
theorem KC{w:W}{a:qf}{x:Wt}{f:U->U->U->U->U->U->U->I->Prop}(g:∀c v,(iY.enc x)[c]?=X v->w.cell? (a.add c)=X v)(hf:f x.who x.m.label x.m.w0 x.m.w1 x.m.w2 x.m.w3 x.m.aD x.m.calls):
  hI w a 0 [.o,.o,.u,.u,.u,.u,.u,.b] f:=⟨_,g 0 _ O,_,g 1 _ O,_,g 2 _ O,_,g 3 _ O,_,g 4 _ O,_,g 5 _ O,_,g 6 _ O,_,g 7 _ O,hf⟩
theorem E1:qh.info? 331=X akC:=qa
theorem Gh:akC.bytes=64:=qa
def Eg:Je:=⟨0,0,0,0,0,0,qd⟩
def L2:Wt:=⟨0,Eg⟩
theorem LW(w:W):(qK 331).run qh w= .ok (.agg ⟨iY.enc L2⟩) w:=zeroValue331 w
def eC{α:Type}(p:α->I)(xs:J α):U:=match xs.findIdx? p with|some i=>(i:U)|none=> -1
theorem kT{α:Type}(p:α->I)(xs:J α):qe (eC p xs>=0)=xs.any p:=by
 unfold eC;cases h:xs.findIdx? p with
 |none=>
  rw[Tt]at h;have:xs.any p=false:=by rw[List.any_eq_false];intro x hx;simp[h x hx]
  rw[this];rfl
 |some i=>
  obtain⟨hi,hp,_⟩:=Tc.1 h;have:xs.any p=true:=List.any_eq_true.2 ⟨_,List.getElem_mem hi,hp⟩;rw[this];simp
section
variable{B:S}{w0 w:W}{R L:J aG}{s:Sl}{xs:J Wt}
theorem sR{p:Wt->I}{f:V}{K:U->Pw}[ale:bG s L Wt iY xs](h:Ow B w0 w L)(hbig:xs.length<=1000000000)
  (hf:∀(y:Wt)(w:W)(alf:I->Pw),Ow B w0 w L->(∀w',Ow B w0 w' L->alf (p y) w')->fP qh f [.agg ⟨iY.enc y⟩] w λen w'=>∃r:I,en= .returned (.bool r)/\alf r w')
  (hK:∀w',Ow B w0 w' L->K (eC p xs) w'):adv s f K w:=by
 apply afX;have hlen:=h.aF s;intro l hl;have loop:∀(rest:J Wt)(j:S)(w:W),xs.drop j=rest->j<=xs.length->(∀i,i<j->∀y,xs[i]?=X y->p y=qd)->Ow B w0 w L->l (j:U) w:=by
  intro rest;induction rest with
  |nil=>
   intro j w hj hjl hno h;have:xs.length<=j:=by have:=qz TO hj;simp at this;omega
   apply hl;refine av om ?_;have hn:xs.findIdx? p=none:=by rw[Tt];intro y hy;obtain⟨i,hi⟩:=Tg.1 hy;exact hno i (by have:=(Sz.1 hi).1;omega) y hi
   have e:eC p xs= -1:=by unfold eC;rw[hn]
   rw[<-e];exact hK _ h
  |cons y rest ih=>
   intro j w hj hjl hno h;have hjl2:j<xs.length:=by have:=qz TO hj;simp at this;omega
   have hx:xs[j]?=X y:=by have:=qz (λl=>l[0]?) hj;simpa using this
   apply hl;refine az om ?_;refine h.cd O hx λa ha h0 hc=>?_;refine KC hc ?_;refine hf y w _ h λw h=>?_;cases hp:p y with
   |true=>
    refine aW O ?_;have hn:xs.findIdx? p=X j:=by
     rw[Tc];refine⟨hjl2,?_,λi hi=>?_⟩
     .rw[gE hjl2]at hx;cases hx;exact hp
     .have:=hno i hi xs[i] (gE om)
      simp[this]
    have e:eC p xs=(j:U):=by unfold eC;rw[hn]
    rw[<-e];exact hK _ h
   |false=>
    refine aV O ?_;rw[wr om om];refine ih (j+1) w (by rw[<-TK,hj];rfl) om (λi hi z hz=>?_) h;by_cases e:i=j
    .subst e;rw[hx]at hz;cases hz;exact hp
    .exact hno i om z hz
 exact loop xs 0 w O om (λi hi=>by omega) h
theorem vQ{p:Wt->I}{f:V}{K:I->Pw}[ale:bG s L Wt iY xs](h:Ow B w0 w L)(hbig:xs.length<=1000000000)
  (hf:∀(y:Wt)(w:W)(alf:I->Pw),Ow B w0 w L->(∀w',Ow B w0 w' L->alf (p y) w')->fP qh f [.agg ⟨iY.enc y⟩] w λen w'=>∃r:I,en= .returned (.bool r)/\alf r w')
  (hK:∀w',Ow B w0 w' L->K (xs.any p) w'):adj s f K w:=by
 apply afR;refine sR h hbig hf λw h=>?_;rw[kT];exact hK w h
theorem Ma{y:Wt}{c:S}{k:Sl->Pw}[ale:bG s L Wt iY xs][ak8:eL (ag iY s xs) L R](h:Ow B w0 w (ae c (iY.enc y)::L))(hbig:xs.length<=1000000000)
  (hk:∀s' w',s'.len=xs.length+1->Ow B w0 w' (ag iY s' (xs++ [y])::R)->k s' w'):
  ∃s' w',dO qh [328,328] 328 s.v (.slice (X c.p) 1 1) w s' w'/\k s' w':=
 Ow.eZ (E:=iY) (y:=y) aj7 E1 (zv:= .agg ⟨iY.enc L2⟩) qa qa O qb h (by rw[Gh];omega) hk
theorem mH{α:Type}{xs:J α}{i j:S}{z:α}(hij:i<j)(hj:j<=xs.length):
  Wx (i+(xs.length-j)) (Wx (i+(xs.length-j)) (xs.take i++xs.drop j++xs.drop (i+(xs.length-j)))++SB ((xs.take i++xs.drop j++xs.drop (i+(xs.length-j))).length-(i+(xs.length-j))) z)=xs.take i++xs.drop j:=by
 have hl2:(xs.take i++xs.drop j).length=i+(xs.length-j):=by simp;omega
 rw[T8 (by simp;omega),U1,Wj,<-hl2,U0]
theorem Hf{i j:S}{K:Sl->Pw}(h:Ow B w0 w (ag iY s xs::R))(hij:i<j)(hj:j<=xs.length)(hbig:xs.length<=1000000000)
  (hK:∀s' w',Ow B w0 w' (ag iY s' (xs.take i++xs.drop j)::R)->K s' w'):adl s (i:U) (j:U) K w:=by
 apply afS;have hlen:=h.aF s;have hcap:=h.lF.ga;refine⟨om,om,om,om,om,om,jk om (h.dr λw h=>?_)⟩;refine⟨om,om,om,om,a2 ?_⟩;simp only[SD];refine h.xk (E:=iY) aj7 E1 qa om hj om λw h=>?_;dsimp only;refine⟨om,om,om,om,Ow.clear (E:=iY) (z0:=L2) (n:=i+(xs.length-j)) aj7 LW O h 0 O (by simp;omega) λw h=>?_⟩;have hp:=h.pre 0 O (n:=i+(xs.length-j)) (by simp;omega);refine hK _ w ?_;rw[mH hij hj]at hp;exact hp
theorem oV(xs:J Wt)(q:Wt->I)(j:S)(x:Wt)(hx:xs[j]?=X x):(xs.take (j+1)).filter q=(xs.take j).filter q++if q x then [x]else []:=by rw[SO,hx,Tm];congr 1;simp only[Ur,Tk,Uk]
theorem y5{fv:V}{p:Wt->I}{K:Sl->Pw}(h:Ow B w0 w (ag iY s xs::L))(hbig:xs.length<=1000000000)
  (hf:∀(N:J aG)(y:Wt)(w:W)(alf:I->Pw),Ow B w0 w (N++L)->(∀w',Ow B w0 w' (N++L)->alf (p y) w')->fP qh fv [.agg ⟨iY.enc y⟩] w λen w'=>∃r:I,en= .returned (.bool r)/\alf r w')
  (hK:∀s' w',Ow B w0 w' (ag iY s' (xs.filter λx=> !p x)::L)->K s' w'):adg s fv K w:=by
 apply afQ;have hlen:=h.aF s;have hspot:=(h.tX 0 O).spot;refine sR h hbig (λy w alf h hQ=>hf [ag iY s xs] y w alf h hQ) λw1 h=>?_;unfold eC;cases hfi:xs.findIdx? p with
 |none=>
  refine aW O ?_;have:xs.filter (λx=> !p x)=xs:=by rw[TF];intro x hx;rw[Tt]at hfi;simp[hfi x hx]
  have h2:=hK s w1;rw[this]at h2;exact h2 h
 |some i0=>
  obtain⟨hi0,hp0,hbefore⟩:=Tc.1 hfi;refine aV qc ?_;intro l hl;have hcap:=(h.tX 0 O).ga;have key:∀(m j q:S)(ys:J Wt)(w:W),j+m=xs.length->ys.length=xs.length->ys.take q=(xs.take j).filter (λx=> !p x)->q<j->q<=ys.length->ys.drop j=xs.drop j->
    Ow B w0 w (ag iY s ys::L)->l (q:U) (j:U) w:=by
   intro m;induction m with
   |zero=>
    intro j q ys w hj hys hq hqj hqy hd h;apply hl;refine av om ?_;refine⟨om,om,?_⟩;rw[SD];refine Ow.clear (E:=iY) (z0:=L2) (n:=q) aj7 LW O h 0 O om λw2 h=>?_;refine⟨om,om,?_⟩;have h3:=h.pre 0 O (n:=q) (by simp;omega);have e1:(ys.take q++SB (ys.length-q) L2).take q=xs.filter (λx=> !p x):=by rw[T8 (by simp;omega),U1,Wj,hq,SE om]
    rw[e1]at h3;rw[IN _ _ _ hspot];exact hK _ _ h3
   |succ m ih=>
    intro j q ys w hj hys hq hqj hqy hd h;have hjlt:j<xs.length:=om
    have hyj:ys[j]?=X xs[j]:=by have:=qz (λl=>l[0]?) hd;simp only[S8,UD]at this;rw[this,gE hjlt]
    apply hl;refine az om ?_;refine h.cd (s:=s) O hyj λa ha h0 hc=>?_;refine KC hc ?_;have hft:=oV xs (λx=> !p x) j _ (gE hjlt);have hd1:∀zs:J Wt,zs.drop j=xs.drop j->zs.drop (j+1)=xs.drop (j+1):=λzs hz=>by rw[<-TK (i:=1) (j:=j),<-TK (i:=1) (j:=j),hz]
    generalize xs[j]=x at hyj hft hc;refine h.a λd w' h=>?_;refine h.aB O O λw h=>?_;refine h.MF O ?_;refine hf [ae d (iY.enc x),ag iY s ys] x w _ h λw h=>?_;have h:Ow B w0 w (ae d (iY.enc x)::ag iY s ys::L):=h;rw[wI j om];cases hp:p x with
    |true=>
     refine aV O ?_;refine ih (j+1) q ys w om hys ?_ om hqy (hd1 ys hd) h.drop;rw[hq,hft,hp];simp
    |false=>
     refine aW O ?_;refine h.MF O ?_;refine⟨a,ha,om,om,h.cC.uc (s:=s) x O om ha λw h=>?_⟩;rw[wI q om];refine ih (j+1) (q+1) (ys.set q x) w om (by simpa using hys) ?_ om (by simp;omega) ?_ h.vI
     .rw[hft,hp,SO,SQ om,Wq (SA _),hq];simp
     .rw[Wn om];exact hd1 ys hd
  have h0:xs.take i0=(xs.take (i0+1)).filter (λx=> !p x):=by
   rw[oV xs _ i0 _ (gE hi0),hp0];simp only[T1,qB,SL,SX]
   symm
   rw[TF];intro x hx;obtain⟨q,hq⟩:=Tg.1 hx;rw[S5]at hq;split at hq
   .rename_i hlt
    have:=hbefore q hlt;rw[gE om]at hq;cases hq;simpa using this
   .cases hq
  rw[show qj.wrap (((i0:S):U)+1)=((i0+1:S):U)from by rw[wr om om];omega];exact key (xs.length-(i0+1)) (i0+1) i0 xs w1 om O h0 om om O h
structure fp where
 l:J Wt
 gS:I
deriving DecidableEq
structure Met where
 is:I
 dP:U
 to:U
 m:Je
deriving DecidableEq
def km:Met:=⟨qd,0,0,Eg⟩
def fp.there(p:fp)(n:U):I:=p.l.any λo=>o.who==n
def fp.first(p:fp)(s:I):qg Wt × fp:=match p.l with
 | []=>(Q,p)
 |o::r=>if p.gS=s then(X o,{ p with l:=r})else(Q,p)
def fp.send(p:fp)(n:U)(m:Je)(waits:I):Met × U × fp:=
 if p.there n then(km,110,p)else match p.first qd with
 |(X o,p')=>(⟨G,n,o.who,m⟩,0,p')
 |(Q,_)=>(km,0,if waits then⟨p.l++ [⟨n,m⟩],G⟩else p)
def fp.recv(p:fp)(n:U)(waits:I):Met × U × fp:=
 if p.there n then(km,110,p)else match p.first G with
 |(X o,p')=>(⟨G,o.who,n,o.m⟩,0,p')
 |(Q,_)=>(km,0,if waits then⟨p.l++ [⟨n,Eg⟩],qd⟩else p)
def fp.cancel(p:fp)(n:U):fp:={ p with l:=p.l.filter λo=> !(o.who==n)}
def da(b:S)(p:fp):aG:=oA λs:Sl=>aQ [dw (p.l.length<=1000000),ae b [s.v,.bool p.gS],ag iY s p.l]
end
section
variable{B:S}{w0 w:W}{R L:J aG}{s:Sl}{xs:J U}{b:S}{p:fp}
theorem Ow.JY(h:Ow B w0 w (da b p::R)):∃s:Sl,p.l.length<=1000000/\Ow B w0 w (ae b [s.v,.bool p.gS]::ag iY s p.l::R):=by obtain⟨s,h⟩:=h.ex;obtain⟨h1,h⟩:=Ow.pure h.star;exact⟨s,h1,h⟩
theorem Ow.lR{s:Sl}(h1:p.l.length<=1000000)(h:Ow B w0 w (ae b [s.v,.bool p.gS]::ag iY s p.l::R)):Ow B w0 w (da b p::R):=
 Ow.eu s (Ow.aR (Ow.cI h1 h))
theorem ON{N:J aG}{c o:S}{l:J V}{v:V}(h:Ow B w0 w (N++ae c l::L))(hv:l[o]?=X v):w.cell? ⟨c,o,Q⟩=X v:=by exact Ow.iJ (b:=c) (o:=o) (l:=l) h N.length (by rw[SP (SA _),Nat.sub_self];rfl) hv
theorem tg{K:qg qf->Pw}(h:Ow B w0 w R)(hK:∀b w',Ow B w0 w' (da b ⟨[],qd⟩::R)->K b.o w'):acq K w:=by
 apply ad9;refine h.al λw1 h=>?_;exact hK _ w1 (Ow.lR (s:=z0) qc ((Ow.cB h).perm (List.Perm.swap _ _ _)))
theorem kl{n:U}{K:I->Pw}(h:Ow B w0 w (da b p::R))(hK:∀w',Ow B w0 w' (da b p::R)->K (p.there n) w'):acB b.o n K w:=by
 apply aeb;obtain⟨s,hl,h⟩:=h.JY;refine h.a λc w1 h=>?_;refine⟨_,O,s,h.aE O,vQ (s:=s) (xs:=p.l) (p:=λo=>o.who==n) h om (λy w alf h hQ=>?_) λw h=>?_⟩
 .refine aY ?_
  show adk y.who y.m.label y.m.w0 y.m.w1 y.m.w2 y.m.w3 y.m.aD y.m.calls c.p alf w;apply aef;refine h.a λd w1 h=>?_;exact⟨_,h.aE O,_,h.aE O,hQ _ h.drop⟩
 .exact hK w (Ow.lR (s:=s) hl h.sub)
theorem ki{t:I}{K:U->U->U->U->U->U->U->I->I->Pw}(h:Ow B w0 w (da b p::R))
  (hK:∀w' o,o=((p.first t).1.getD L2)->Ow B w0 w' (da b (p.first t).2::R)->K o.who o.m.label o.m.w0 o.m.w1 o.m.w2 o.m.w3 o.m.aD o.m.calls (p.first t).1.isSome w'):acC b.o t K w:=by
 apply aec;obtain⟨s,hl,h⟩:=h.JY;have hlen:=h.aF s;refine h.a λc w1 h=>?_;intro k4 hk4;have no:∀w,(p.first t)=(Q,p)->Ow B w0 w (ae c [.z 0,.z 0,.y 0,.y 0,.y 0,.y 0,.y 0,.bool qd]::ae b [s.v,.bool p.gS]::ag iY s p.l::R)->k4 G w:=λw e h=>by
  rw[e]at hK;apply hk4;refine aW O ?_;refine h.aB O O λw h=>?_;refine h.MF O ?_;exact hK w L2 O (Ow.lR (s:=s) hl h.sub)
 refine⟨_,O,s,h.aE O,?_⟩;cases hp:p.l with
 |nil=>
  have e:p.first t=(Q,p):=by unfold fp.first;rw[hp]
  rw[hp]at hlen;refine gC (by simp at hlen;omega) ?_;exact no _ e h
 |cons o r=>
  rw[hp]at hlen;simp only[SJ]at hlen;refine jk om ?_;refine⟨_,O,p.gS,h.aE O,?_⟩;by_cases e:p.gS=t
  .have ef:p.first t=(X o,{ p with l:=r}):=by unfold fp.first;rw[hp];simp[e]
   rw[ef]at hK;rw[show(!(p.gS==t))=qd from by simp[e]];apply hk4;refine aV O ?_;refine⟨_,O,s,h.aE O,?_⟩;have h0:p.l[0]?=X o:=by rw[hp];rfl
   refine h.cd (s:=s) (i:=0) (j:=0) O h0 λa ha hc0 hc=>KC hc ?_;repeat first|refine h.al λw h=>?_|refine h.l1 O ?_|refine h.aB O O λw h=>?_|refine fy ?_
   rw[hp]at h;refine Hf (i:=0) (j:=1) (h.pick (A:=ag iY s (o::r))) om qc (by rw[hp]at hl;simp at hl|-;omega) λs' w h=>?_;repeat first|refine h.aM O ?_|refine h.aB O O λw h=>?_|refine fy ?_|refine h.jD O O λw h=>?_
   have h:Ow B w0 _ (ag iY s' r::_):=h;have h:Ow B w0 _ (ae b [s'.v,.bool p.gS]::ag iY s' r::R):=h.sub;refine hK _ o O (Ow.lR (s:=s') (by rw[hp]at hl;simp at hl|-;omega) h)
  .have ef:p.first t=(Q,p):=by unfold fp.first;rw[hp];simp[e]
   rw[show(!(p.gS==t))=G from by simp[e]];exact no _ ef h
theorem kQ{o:Wt}{t:I}{K:Pw}(hbig:p.l.length<1000000)(h:Ow B w0 w (da b p::R))(hK:∀w',Ow B w0 w' (da b ⟨p.l++ [o],t⟩::R)->K w'):
  acD b.o o.who o.m.label o.m.w0 o.m.w1 o.m.w2 o.m.w3 o.m.aD o.m.calls t K w:=by
 apply aed;obtain⟨s,hl,h⟩:=h.JY;refine h.a λc w1 h=>?_;refine h.dr λw h=>?_;refine⟨_,O,s,h.aE O,h.MF O ⟨h.al λw2 h=>⟨?_,trivial⟩,trivial⟩⟩
 generalize w.heap.size=d at h|-;refine Ma (s:=s) (y:=o) h om λs' w hs' h=>⟨_,O,?_⟩
 refine⟨h.jD O O λw h=>⟨_,O,?_⟩,trivial⟩
 refine⟨h.jD O O λw h=>?_,trivial⟩;exact hK w (Ow.lR (s:=s') (by simp;omega) h.sub)
theorem kP{n:U}{m:Je}{wt:I}{K:I->U->U->U->U->U->U->U->U->I->U->Pw}(hbig:p.l.length<1000000)(h:Ow B w0 w (da b p::R))
  (hK:∀w' x,x=(p.send n m wt).1->Ow B w0 w' (da b (p.send n m wt).2.2::R)->K x.is x.dP x.to x.m.label x.m.w0 x.m.w1 x.m.w2 x.m.w3 x.m.aD x.m.calls (p.send n m wt).2.1 w'):
  abl b.o n m.label m.w0 m.w1 m.w2 m.w3 m.aD m.calls wt K w:=by
 apply ad7;refine h.a λc w1 h=>?_;refine h.a λd w2 h=>?_;refine kl (n:=n) h.lI λw h=>?_;unfold fp.send at hK;cases ht:p.there n with
 |true=>
  rw[ht]at hK;simp only[qE]at hK;refine aW O ?_;repeat first|refine h.aM O ?_|refine h.aB O O λw h=>?_
  exact hK _ km O h.sub
 |false=>
  rw[ht]at hK;simp only[SX,qB]at hK;refine aV O ?_;refine ki (t:=qd) h λw o ho h=>?_;refine h.a λe w3 h=>?_;refine h.aB O O λw h=>?_;cases hf:p.first qd with
  |mk x p'=>
   rw[hf]at hK h ho;dsimp only at hK h ho;cases x with
   |some o'=>
    have ho:o=o':=ho;subst ho;refine aW O ?_;repeat first|refine h.aM O ?_|refine h.l1 O ?_|refine h.aB O O λw h=>?_
    exact hK _ _ O (show Ow B w0 _ (da b p'::R)from h.sub)
   |none=>
    have hp':p'=p:=by
     unfold fp.first at hf
     split at hf
     .cases hf;rfl
     .split at hf
      .cases hf
      .cases hf;rfl
    rw[hp']at h;refine aV O ?_;cases wt with
    |true=>
     refine aW O ?_;repeat first|refine h.aM O ?_|refine h.l1 O ?_
     refine kQ (o:=⟨n,m⟩) (t:=G) hbig h.cC λw h=>?_;repeat first|refine h.aM O ?_|refine h.aB O O λw h=>?_
     exact hK _ km O (show Ow B w0 _ (da b ⟨p.l++ [⟨n,m⟩],G⟩::R)from h.sub)
    |false=>
     refine aV O ?_;repeat first|refine h.aM O ?_|refine h.aB O O λw h=>?_
     exact hK _ km O (show Ow B w0 _ (da b p::R)from h.sub)
theorem tB:qh.info? 3=X qI:=qa
theorem td:qI.bytes=8:=qa
theorem Hi{v:U}{K:U->Pw}[ale:bG s L U ax xs](h:Ow B w0 w L)(hbig:xs.length<=1000000000)(hK:∀w',Ow B w0 w' L->K (eC (λx=>v==x) xs) w'):adm s v K w:=by
 apply afT;have hlen:=h.aF s;intro l hl;have loop:∀(m j:S)(w:W),j+m=xs.length->(∀i,i<j->∀y,xs[i]?=X y->(v==y)=qd)->Ow B w0 w L->l (j:U) w:=by
  intro m;induction m with
  |zero=>
   intro j w hj hno h;apply hl;refine av om ?_;have hn:xs.findIdx? (λx=>v==x)=none:=by rw[Tt];intro y hy;obtain⟨i,hi⟩:=Tg.1 hy;exact hno i (by have:=(Sz.1 hi).1;omega) y hi
   have e:eC (λx=>v==x) xs= -1:=by unfold eC;rw[hn]
   rw[<-e];exact hK _ h
  |succ m ih=>
   intro j w hj hno h;have hx:xs[j]?=X xs[j]:=gE om;apply hl;refine az om ?_;refine h.cd (s:=s) O hx λa ha h0 hc=>⟨_,h0 _ O,?_⟩
   cases hp:(v==xs[j])with
   |true=>
    refine aW O ?_;have hn:xs.findIdx? (λx=>v==x)=X j:=by rw[Tc];refine⟨om,hp,λi hi=>?_⟩;have:=hno i hi xs[i] (gE om);simp[this]
    have e:eC (λx=>v==x) xs=(j:U):=by unfold eC;rw[hn]
    rw[<-e];exact hK _ h
   |false=>
    refine aV O ?_;rw[wr om om];refine ih (j+1) w om (λi hi z hz=>?_) h;by_cases e:i=j
    .subst e;rw[hx]at hz;cases hz;exact hp
    .exact hno i om z hz
 exact loop xs.length 0 w om (λi hi=>by omega) h
theorem AV{v:U}{K:I->Pw}[ale:bG s L U ax xs](h:Ow B w0 w L)(hbig:xs.length<=1000000000)(hK:∀w',Ow B w0 w' L->K (xs.any λx=>v==x) w'):acE s v K w:=by
 apply afG;refine Hi h hbig λw h=>?_;rw[kT];exact hK w h
theorem eS{y:U}{c:S}{k:Sl->Pw}[ale:bG s L U ax xs][ak8:eL (ag ax s xs) L R](h:Ow B w0 w (ae c [.z y]::L))(hbig:xs.length<=1000000000)
  (hk:∀s' w',s'.len=xs.length+1->Ow B w0 w' (ag ax s' (xs++ [y])::R)->k s' w'):
  ∃s' w',dO qh [22,22] 22 s.v (.slice (X c.p) 1 1) w s' w'/\k s' w':=
 Ow.eZ (E:=ax) (y:=y) qJ tB (zv:= .z 0) qa qa O qb h (by rw[td];omega) hk
theorem Er{i j:S}{K:Sl->Pw}(h:Ow B w0 w (ag ax s xs::R))(hij:i<j)(hj:j<=xs.length)(hbig:xs.length<=1000000000)
  (hK:∀s' w',Ow B w0 w' (ag ax s' (xs.take i++xs.drop j)::R)->K s' w'):abO s (i:U) (j:U) K w:=by
 apply afy;have hlen:=h.aF s;have hcap:=h.lF.ga;refine⟨om,om,om,om,om,om,jk om (h.dr λw h=>?_)⟩;refine⟨om,om,om,om,a2 ?_⟩;simp only[SD];refine h.xk (E:=ax) qJ tB qa om hj om λw h=>?_;dsimp only;refine⟨om,om,om,om,h.clear (P:=qh) (T:=22) (t:=0) (n:=i+(xs.length-j)) (zv:= .z 0) (z0:=0) qJ (λw=>qU w) O 0 O (by simp;omega) λw h=>?_⟩;have hp:=h.pre 0 O (n:=i+(xs.length-j)) (by simp;omega);refine hK _ w ?_;rw[mH hij hj]at hp;exact hp
theorem kO{n:U}{wt:I}{K:I->U->U->U->U->U->U->U->U->I->U->Pw}(hbig:p.l.length<1000000)(h:Ow B w0 w (da b p::R))
  (hK:∀w' x,x=(p.recv n wt).1->Ow B w0 w' (da b (p.recv n wt).2.2::R)->K x.is x.dP x.to x.m.label x.m.w0 x.m.w1 x.m.w2 x.m.w3 x.m.aD x.m.calls (p.recv n wt).2.1 w'):
  abo b.o n wt K w:=by
 apply ad8;refine h.a λc w1 h=>?_;refine kl (n:=n) h.cC λw h=>?_;unfold fp.recv at hK;cases ht:p.there n with
 |true=>
  rw[ht]at hK;simp only[qE]at hK;refine aW O ?_;refine h.aB O O λw h=>?_;refine h.jJ O ?_;exact hK _ km O h.sub
 |false=>
  rw[ht]at hK;simp only[SX,qB]at hK;refine aV O ?_;refine ki (t:=G) h λw o ho h=>?_;refine h.a λe w3 h=>?_;refine h.aB O O λw h=>?_;cases hf:p.first G with
  |mk x p'=>
   rw[hf]at hK h ho;dsimp only at hK h ho;cases x with
   |some o'=>
    have ho:o=o':=ho;subst ho;refine aW O ?_;refine h.l1 O ?_;refine h.zj O ?_;refine h.aB O O λw h=>?_;refine h.jJ O ?_;exact hK _ ⟨G,o.who,n,o.m⟩ O (show Ow B w0 _ (da b p'::R)from h.sub)
   |none=>
    have hp':p'=p:=by
     unfold fp.first at hf
     split at hf
     .cases hf;rfl
     .split at hf
      .cases hf
      .cases hf;rfl
    rw[hp']at h;refine aV O ?_;cases wt with
    |true=>
     refine aW O ?_;refine kQ (o:=⟨n,Eg⟩) (t:=qd) hbig h.cC λw h=>?_;refine h.aB O O λw h=>?_;refine h.jJ O ?_;exact hK _ km O (show Ow B w0 _ (da b ⟨p.l++ [⟨n,Eg⟩],qd⟩::R)from h.sub)
    |false=>
     refine aV O ?_;refine h.aB O O λw h=>?_;refine h.jJ O ?_;exact hK _ km O (show Ow B w0 _ (da b p::R)from h.sub)
theorem oS{n:U}{K:I->Pw}(h:Ow B w0 w (da b p::R))(hK:∀r w',Ow B w0 w' (da b (p.cancel n)::R)->K r w'):acz b.o n K w:=by
 apply aea;obtain⟨s,hl,h⟩:=h.JY;refine h.a λc w1 h=>?_;refine⟨_,O,s,h.aE O,_,O,s,h.aE O,y5 (p:=λo=>o.who==n) h.lI om (λN y w alf h hQ=>?_) λs' w h=>?_⟩
 .refine aY ?_
  show adh y.who y.m.label y.m.w0 y.m.w1 y.m.w2 y.m.w3 y.m.aD y.m.calls c.p alf w;apply aee;refine h.a λd w1 h=>?_;exact⟨_,h.aE O,_,ON (N:=ae d _::N) h O,hQ _ h.drop⟩
 .refine ⟨_,O,?_⟩
  refine h.jD O O λw h=>?_;exact⟨_,O,s',h.aE O,hK _ w (Ow.lR (s:=s') (p:=p.cancel n) (SY (S3 _ _) hl) (show Ow B w0 w (ae b [s'.v,.bool p.gS]::ag iY s' (p.l.filter λo=> !(o.who==n))::R)from h.sub))⟩
theorem Jl{s:Sl}{xs:J Wt}{K:Sl->Pw}[ale:bG s L Wt iY xs](h:Ow B w0 w L)(hbig:xs.length<=1000000)(hK:∀s' w',Ow B w0 w' (ag iY s' xs::L)->K s' w'):aaA s K w:=by apply aft;exact ng (s:=s) (E:=iY) (xs:=xs) (zv:= .agg ⟨iY.enc L2⟩) aj7 E1 qa qa O qb h (by rw[Gh];omega) hK
theorem rU{K:qg qf->Pw}(h:Ow B w0 w (da b p::R))(hK:∀b' w',Ow B w0 w' (da b' p::da b p::R)->K b'.o w'):Xp b.o K w:=by
 apply ad6;obtain⟨s,hl,h⟩:=h.JY;refine h.dr λw h=>?_;refine⟨_,O,s,h.aE O,_,O,p.gS,h.aE O,Jl (s:=s) h hl λs' w h=>?_,trivial⟩;refine⟨h.aE O,h.a λd w2 h=>?_,trivial⟩;refine hK d _ (Ow.lR (s:=s') hl (Ow.sub (L:=da b p::ae d [s'.v,.bool p.gS]::ag iY s' p.l::R) ?_));exact Ow.lR (s:=s) hl h.sub
def af0{a K w}:=ah (Zi a K w) func94 .Mz
def af1{a K w}:=ah (Zt a K w) func105 (.v (.v (.y (.v (.x (.t (X [(13,.c (.i .i64))]) .g15 .u))) .w)))
def af2{a b K w}:=ah (aaG a b K w) func212 (.v (.v (.y (.v (.x (.t (X [(5,.c (.i .i64)),(15,.c (.i .i64))]) (.v (.y .w (.x (.x (.v (.v (.x (.t (X [(5,.c (.i .i64)),(21,.c (.i .i64))]) .QJ .u)))))))) .u))) .w)))
def af3{a b K w}:=ah (abT a b K w) func300 (.v (.y (.y (.r (X [(21,.c .b)]) .done) (.x .w)) (.v (.y (.z (.o 0 8176 (.o 1 8176 (.o 2 8176 (.o 4 8168 (.o 5 520 (.o 6 520 (.o 7 520 (.o 8 520 (.o 9 8 (.o 10 8 (.o 11 8 (.hold 3 4096 16383 (.e 12 (.o 13 0 (.e 14 .done)))))))))))))))) .w))))
def af4{a b c d K w}:=ah (abX a b c d K w) func304 (.v (.y (.v (.x .w)) (.v (.y (.v (.x (.t (X [(9,.c .s),(20,.c (.i .i64))]) .QJ .u))) .w))))
def af5{a b K w}:=ah (acW a b K w) func376 (.v .w)
def af6{a b c d e K w}:=ah (acY a b c d e K w) func378 (.v (.y (.v (.x .w)) (.y (.v (.x (.t (X [(14,.c (.i .i64))]) (.v (.y .w (.x (.x (.v (.z (.o 4 32751 (.o 5 12815 (.o 6 12815 (.o 7 12815 (.o 8 12815 (.o 9 12303 (.o 10 12303 (.o 11 12303 (.o 12 15 (.hold 0 24576 65535 (.o 1 24576 (.o 2 24576 (.hold 3 24576 65535 (.e 13 (.e 14 (.o 15 0 (.e 16 .done))))))))))))))))))))))) .u))) .w)))
def af7{a b K w}:=ah (ads a b K w) func419 (.v .w)
def af8{a K w}:=ah (aa7 a K w) func243 (.v .w)
def af9{a b K w}:=ah (aaU a b K w) func228 (.v (.y (.x (.v .w)) (.v .w)))
def aga{a b K w}:=ah (adP a b K w) func313 (.v (.v (.v (.v (.v (.v (.v (.v (.v (.v (.v .w)))))))))))
def agb{a K w}:=ah (acd a K w) func322 (.v (.y .Qy (.y .Qy (.y .Qy .w))))
def agc{a K w}:=ah (Xq a K w) func88 (.v (.x (.z (.o 0 8176 (.o 1 8176 (.o 2 8176 (.o 4 7944 (.o 5 7944 (.o 6 7944 (.o 8 136 (.o 9 136 (.o 10 136 (.o 11 136 (.hold 3 4224 49151 (.hold 7 4096 49151 (.e 12 (.o 13 0 (.e 14 (.o 15 0 .done)))))))))))))))))))
def agd{a b K w}:=ah (aas a b K w) func193 (.v (.y (.v (.x (.v (.v .w)))) (.v .w)))
def age{a b c K w}:=ah (abp a b c K w) func268 (.v (.y (.x (.v (.y .w (.v (.y (.v (.v .w)) (.v .w)))))) .w))
def agf{K w}:=ah (acr K w) func342 (.v .w)
def agh{a b K w}:=ah (acA a b K w) func352 (.v (.v (.v .w)))
def agi{a b K w}:=ah (adi a b K w) func406 (.v .w)
structure rB where
 word:U
 is:I
 l:J U
deriving DecidableEq
def rB.bq(n:rB)(aD:U):qg U × rB:=match n.l with
 |x::r=>(X x,{ n with l:=r})
 | []=>(Q,⟨MP .u64 n.word aD,G,[]⟩)
def rB.wait(n:rB)(who:U)(waits:I):(U × I × U)× rB:=
 if n.l.any (λx=>who==x)then((0,qd,120),n)
 else if n.is then((n.word,G,0),{ n with word:=0,is:=qd})
 else((0,qd,0),if waits then { n with l:=n.l++ [who]}else n)
def rB.cancel(n:rB)(who:U):rB:={ n with l:=n.l.filter λx=> !(x==who)}
def cu(b:S)(n:rB):aG:=oA λs:Sl=>aQ [dw (n.l.length<=1000000),ae b [.y n.word,.bool n.is,s.v],ag ax s n.l]
end
section
variable{B:S}{w0 w:W}{R L:J aG}{b:S}{n:rB}
theorem Ow.note(h:Ow B w0 w (cu b n::R)):∃s:Sl,n.l.length<=1000000/\Ow B w0 w (ae b [.y n.word,.bool n.is,s.v]::ag ax s n.l::R):=by obtain⟨s,h⟩:=h.ex;obtain⟨h1,h⟩:=Ow.pure h.star;exact⟨s,h1,h⟩
theorem Ow.jB{s:Sl}{wd:U}{is:I}{l:J U}(h1:l.length<=1000000)(h:Ow B w0 w (ae b [.y wd,.bool is,s.v]::ag ax s l::R)):Ow B w0 w (cu b ⟨wd,is,l⟩::R):=
 Ow.eu s (Ow.aR (Ow.cI h1 h))
theorem vW{K:qg qf->Pw}(h:Ow B w0 w R)(hK:∀b w',Ow B w0 w' (cu b ⟨0,qd,[]⟩::R)->K b.o w'):acr K w:=by
 apply agf;refine h.al λw1 h=>?_;exact hK _ w1 (Ow.jB (s:=z0) qc ((Ow.cB h).perm (List.Perm.swap _ _ _)))
theorem sv{g:U}{K:U->U->I->Pw}(h:Ow B w0 w (cu b n::R))
  (hK:∀w',Ow B w0 w' (cu b (n.bq g).2::R)->K ((n.bq g).1.getD 0) (if(n.bq g).1.isSome then g else 0) (n.bq g).1.isSome w'):aas b.o g K w:=by
 apply agd;obtain⟨s,hl,h⟩:=h.note;have hlen:=h.aF s;unfold rB.bq at hK;refine⟨_,O,s,h.aE O,?_⟩;cases hn:n.l with
 |nil=>
  rw[hn]at hK hlen;refine av (by simp at hlen;omega) ?_;refine⟨_,O,_,h.aE O,_,O,h.jD O O λw h=>⟨_,O,?_⟩⟩
  refine h.jD O O λw h=>?_;rw[hn]at h;exact hK w (Ow.jB (s:=s) qc h)
 |cons x r=>
  rw[hn]at hK hlen;simp only[SJ]at hlen;refine az om ?_;refine⟨_,O,s,h.aE O,?_⟩;have h0:n.l[0]?=X x:=by rw[hn];rfl
  refine h.cd (s:=s) (i:=0) (j:=0) O h0 λa ha hc0 hc=>⟨_,hc0 _ O,?_⟩
  refine⟨_,O,s,h.aE O,?_⟩;rw[hn]at h;refine Er (i:=0) (j:=1) h.cC om qc (by rw[hn]at hl;simp at hl|-;omega) λs' w h=>⟨_,O,?_⟩
  refine h.jD O O λw h=>?_;have h:Ow B w0 w (ag ax s' r::_):=h;exact hK w (Ow.jB (s:=s') (by rw[hn]at hl;simp at hl|-;omega) h.sub)
theorem uT{who:U}{wt:I}{K:U->I->U->Pw}(hbig:n.l.length<1000000)(h:Ow B w0 w (cu b n::R))
  (hK:∀w',Ow B w0 w' (cu b (n.wait who wt).2::R)->K (n.wait who wt).1.1 (n.wait who wt).1.2.1 (n.wait who wt).1.2.2 w'):abp b.o who wt K w:=by
 apply age;obtain⟨s,hl,h⟩:=h.note;unfold rB.wait at hK;refine⟨_,O,s,h.aE O,AV (s:=s) (xs:=n.l) h om λw h=>?_⟩;cases ht:(n.l.any λx=>who==x)with
 |true=>
  rw[ht]at hK;exact aW O (hK w (Ow.jB (s:=s) hl h))
 |false=>
  rw[ht]at hK;refine aV O ⟨_,O,h.l1 O ?_⟩;cases hi:n.is with
  |true=>
   rw[hi]at hK;refine aW O ⟨_,O,_,h.aE O,_,O,?_⟩;refine h.jD O O λw h=>⟨_,O,?_⟩
   refine h.jD O O λw h=>?_;exact hK w (Ow.jB (s:=s) hl h)
  |false=>
   rw[hi]at hK;refine aV O ?_;cases wt with
   |true=>
    refine aW O ⟨_,O,s,h.aE O,?_⟩;refine h.a λd w2 h=>?_;refine eS (s:=s) (y:=who) h om λs' w hs' h=>⟨_,O,?_⟩
    refine h.jD O O λw h=>?_;exact hK w (Ow.jB (s:=s') (by simp;omega) (by rw[hi]at h;exact h.sub))
   |false=>
    refine aV O ?_;exact hK w (Ow.jB (s:=s) hl h)
end
namespace Th
theorem zE{n:U}{K:I->Pw}{w:W}(h:K (qe (0<=n/\n<256)) w):adt n K w:=by
 apply aeq;by_cases h0:0<=n
 .have e:qe (n>=0)=true:=by simpa using h0
  have e2:qe (0<=n/\n<256)=qe (n<256):=by simp[h0]
  rw[e,qq];rw[e2]at h;exact h
 .have e:qe (n>=0)=false:=by simpa using h0
  have e2:qe (0<=n/\n<256)=false:=by simp[h0]
  rw[e,qv];rw[e2]at h;exact h
def OI(b:U)(i:S)(on:I):U:=if on then MP .u64 (iD .u64 b (mS .u64 1 i)) (mS .u64 1 i)else iD .u64 b (mS .u64 1 i)
def rp(l:J U)(n:S)(on:I):J U:=l.set (n / 64) (OI (l.getD (n / 64) 0) (n%64) on)
theorem yS{B:S}{w0 w:W}{R:J aG}{b1 b2 b3 b4 n:U}{on:I}{K:U->U->U->U->U->Pw}(h:Ow B w0 w R)(hn0:0<=n)(hn:n<256)
  (hK:∀r1 r2 r3 r4 w',Ow B w0 w' R->[r1,r2,r3,r4]=rp [b1,b2,b3,b4] n.toNat on->K r1 r2 r3 r4 0 w'):ac3 b1 b2 b3 b4 n on K w:=by
 apply aep;refine h.al λw7 h=>?_;refine h.al λw8 h=>?_;apply zE;rw[show qe (0<=n/\n<256)=G from by simp[hn0,hn]];simp only[T1,qv];refine h.dr λw9 h=>?_;obtain⟨m,rfl⟩:=SI hn0;have hq:qj.wrap (((m:S):U).tdiv 64)=((m / 64:S):U):=by rw[Int.tdiv_eq_ediv_of_nonneg om,wr om om];omega
 have hr:((m:S):U).tmod 64=((m%64:S):U):=by rw[Int.tmod_eq_emod_of_nonneg om];omega
 have hq4:m / 64<4:=om
 simp only[SD]at hK;rw[hq,hr];generalize hQ:m / 64=q at*
 generalize hr':m%64=r at*
 have hq5:q=0\/q=1\/q=2\/q=3:=om
 clear hq hq4;rcases hq5 with rfl|rfl|rfl|rfl<;>
 .refine ⟨qb,qb,qb,_,h.ld 1 O O,qb,om,qb,qb,?_,trivial⟩
  refine h.fD O O λw10 h=>?_;cases on
  .rw[qv]
   refine h.gn O ?_;refine h.aB O O λw11 h=>?_;refine h.gn O ?_;refine hK _ _ _ _ _ h.drop.drop ?_;simp only[rp,hQ,hr'];rfl
  .rw[qq]
   refine h.dr λw11 h=>?_;refine⟨qb,qb,qb,_,h.ld 1 O O,qb,om,qb,qb,?_,trivial⟩;refine h.fD O O λw10 h=>?_;refine h.gn O ?_;refine h.aB O O λw11 h=>?_;refine h.gn O ?_;refine hK _ _ _ _ _ h.drop.drop ?_;simp only[rp,hQ,hr'];rfl
def fz(x:S):S:=if x=0 then 0 else x.log2+1
theorem KE{x n:S}(h1:x<2^n)(h2:n=0\/2^(n-1)<=x):fz x=n:=by
 unfold fz;rcases h2 with rfl|h2
 .have:x=0:=by simpa using h1
  rw[Z this]
 .by_cases hn:n=0
  .subst hn;have:x=0:=by simpa using h1
   rw[Z this]
  .have hp:0<2^(n-1):=TW _
   rw[Y om,(WN om).2 ⟨h2,by rw[Nat.sub_add_cancel om];exact h1⟩];omega
theorem Ah(x:S):x<2^fz x/\(fz x=0\/2^(fz x-1)<=x):=by
 unfold fz;by_cases h:x=0
 .subst h;simp
 .rw[Y h]
  have:=(WN h).1 O;exact⟨this.2,.inr this.1⟩
theorem uK{x k:S}(h:2^k<=x):fz (x / 2^k)+k=fz x:=by
 obtain⟨h1,h2⟩:=Ah (x / 2^k);have hp:0<2^k:=TW _;have hd:1<=x / 2^k:=(Nat.one_le_div_iff hp).2 h
 symm
 apply KE
 .rw[Xr];exact(Nat.div_lt_iff_lt_mul hp).1 h1
 .right
  rcases h2 with h2|h2
  .rw[h2]at h1;omega
  .have h3:fz (x / 2^k)≠0:=λe=>by rw[e]at h1;omega
   rw[show fz (x / 2^k)+k-1=(fz (x / 2^k)-1)+k from by omega,Xr];exact(Nat.le_div_iff_mul_le hp).1 h2
theorem KF{x n:S}(h:x<2^n):fz x<=n:=by
 rcases (Ah x).2 with h1|h1
 .omega
 .have h2:2^(fz x-1)<2^n:=Nat.lt_of_le_of_lt h1 h
  have:=(Nat.pow_lt_pow_iff_right (by omega:1<2)).1 h2;omega
theorem Nb(x:S)(h:x<256):Js ⟨#[0,1,2,2,3,3,3,3,4,4,4,4,4,4,4,4,5,5,5,5,5,5,5,5,5,5,5,5,5,5,5,5,6,6,6,6,6,6,6,6,6,6,6,6,6,6,6,6,6,6,6,6,6,6,6,6,6,6,6,6,6,6,6,6,7,7,7,7,7,7,7,7,7,7,7,7,7,7,7,7,7,7,7,7,7,7,7,7,7,7,7,7,7,7,7,7,7,7,7,7,7,7,7,7,7,7,7,7,7,7,7,7,7,7,7,7,7,7,7,7,7,7,7,7,7,7,7,7,8,8,8,8,8,8,8,8,8,8,8,8,8,8,8,8,8,8,8,8,8,8,8,8,8,8,8,8,8,8,8,8,8,8,8,8,8,8,8,8,8,8,8,8,8,8,8,8,8,8,8,8,8,8,8,8,8,8,8,8,8,8,8,8,8,8,8,8,8,8,8,8,8,8,8,8,8,8,8,8,8,8,8,8,8,8,8,8,8,8,8,8,8,8,8,8,8,8,8,8,8,8,8,8,8,8,8,8,8,8,8,8,8,8,8,8,8,8,8,8,8,8,8,8,8,8,8,8]⟩ (x:U) ((fz x:S):U):=by
 have hc:(SF 256).all (λx=>((⟨#[0,1,2,2,3,3,3,3,4,4,4,4,4,4,4,4,5,5,5,5,5,5,5,5,5,5,5,5,5,5,5,5,6,6,6,6,6,6,6,6,6,6,6,6,6,6,6,6,6,6,6,6,6,6,6,6,6,6,6,6,6,6,6,6,7,7,7,7,7,7,7,7,7,7,7,7,7,7,7,7,7,7,7,7,7,7,7,7,7,7,7,7,7,7,7,7,7,7,7,7,7,7,7,7,7,7,7,7,7,7,7,7,7,7,7,7,7,7,7,7,7,7,7,7,7,7,7,7,8,8,8,8,8,8,8,8,8,8,8,8,8,8,8,8,8,8,8,8,8,8,8,8,8,8,8,8,8,8,8,8,8,8,8,8,8,8,8,8,8,8,8,8,8,8,8,8,8,8,8,8,8,8,8,8,8,8,8,8,8,8,8,8,8,8,8,8,8,8,8,8,8,8,8,8,8,8,8,8,8,8,8,8,8,8,8,8,8,8,8,8,8,8,8,8,8,8,8,8,8,8,8,8,8,8,8,8,8,8,8,8,8,8,8,8,8,8,8,8,8,8,8,8,8,8,8,8]⟩:ByteArray)[x]?).map UInt8.toNat==X (fz x))=true:=qa
 have:=List.all_eq_true.1 hc x (List.mem_range.2 h);have:=eq_of_beq this;obtain⟨u,h1,h2⟩:=Ut.1 this;exact⟨om,u,by rw[SD];exact h1,by rw[h2]⟩
theorem nF(x k:S)(hk:k<=64):Ca .u64 (x:U) (k:U)=((x / 2^k:S):U):=by unfold Ca;rw[SD,show qA.bits=64 from O,TL hk];rw[show((2:U)^k)=((2^k:S):U)from by simp];rw[Int.fdiv_eq_ediv_of_nonneg _ (UJ _)];simp
theorem Sy{x:U}(h1:0<=x)(h2:x<256):IntKind.u8.wrap x=x:=by
 have e1:(2:U)^8=256:=qb
 simp only[IntKind.wrap,IntKind.bits,IntKind.signed,e1,Bool.false_and,SX,qB];omega
theorem pj{x:S}{K:U->Pw}{w:W}(hx:x<2^64)(h:K ((fz x:S):U) w):acd (x:U) K w:=by
 apply agb;intro k2 h2;have hk2:∀(y n:S),y<2^32->fz y+n=fz x->n<=32->k2 (y:U) (n:U) w:=by
  intro y n hy hn hle;apply h2;intro k6 h6;have hk6:∀(y n:S),y<2^16->fz y+n=fz x->n<=48->k6 (y:U) (n:U) w:=by
   intro y n hy hn hle;apply h6;intro k10 h10;have hk10:∀(y n:S),y<2^8->fz y+n=fz x->n<=56->k10 (y:U) (n:U) w:=by intro y n hy hn hle;apply h10;have hl:=KF hy;rw[Sy om om];refine⟨_,Nb y hy,?_⟩;rw[wr (x:=((fz y:S):U)) om om,wr om om];rw[show(n:U)+((fz y:S):U)=((fz x:S):U)from by omega];exact h
   by_cases hc:y>=256
   .rw[show qe ((y:U)>=256)=G from by simp;omega,qq]
    refine⟨qb,?_⟩;rw[wr om om,show(8:U)=((8:S):U)from O,nF y 8 om];refine hk10 (y / 2^8) (n+8) ?_ ?_ om
    .have:y<2^8*2^8:=by simpa using hy
     exact VF this
    .have:=uK (x:=y) (k:=8) (by simpa using hc);omega
   .rw[show qe ((y:U)>=256)=qd from by simp;omega,qv]
    exact hk10 y n (by simp;omega) hn om
  by_cases hc:y>=65536
  .rw[show qe ((y:U)>=65536)=G from by simp;omega,qq]
   refine⟨qb,?_⟩;rw[wr om om,show(16:U)=((16:S):U)from O,nF y 16 om];refine hk6 (y / 2^16) (n+16) ?_ ?_ om
   .have:y<2^16*2^16:=by simpa using hy
    exact VF this
   .have:=uK (x:=y) (k:=16) (by simpa using hc);omega
  .rw[show qe ((y:U)>=65536)=qd from by simp;omega,qv]
   exact hk6 y n (by simp;omega) hn om
 by_cases hc:x>=4294967296
 .rw[show qe ((x:U)>=4294967296)=G from by simp;omega,qq]
  refine⟨qb,?_⟩;rw[show(32:U)=((32:S):U)from O,nF x 32 om];refine hk2 (x / 2^32) 32 ?_ ?_ om
  .have:x<2^32*2^32:=by simpa using hx
   exact VF this
  .have:=uK (x:=x) (k:=32) (by simpa using hc);omega
 .rw[show qe ((x:U)>=4294967296)=qd from by simp;omega,qv]
  exact hk2 x 0 (by simp;omega) om om
theorem IK(x i:S)(on:I)(hx:x<2^64)(hi:i<64):∃y:S,OI (x:U) i on=(y:U)/\y<2^64/\∀j,j<64->y.testBit j=if j=i then on else x.testBit j:=by
 have hs:mS .u64 1 (i:U)=((2^i:S):U):=by
  unfold mS;rw[SD,show qA.bits=64 from O,TL om,Int.one_mul,show((2:U)^i)=((2^i:S):U)from by simp];have hp:(2:S)^64=18446744073709551616:=qb
  have:2^i<2^64:=Nat.pow_lt_pow_right om hi;rw[hp]at this;generalize 2^i=y at*
  exact OV (UJ _) om
 have hbv:∀z:S,BitVec.ofInt qA.bits (z:U)=BitVec.ofNat 64 z:=λz=>by apply BitVec.eq_of_toNat_eq;simp[IntKind.bits,BitVec.toNat_ofInt]
 have hwrap:∀z:BitVec 64,qA.wrap ((z.toNat:S):U)=((z.toNat:S):U):=λz=>by
  have hp:(2:S)^64=18446744073709551616:=qb
  have:=z.isLt;rw[hp]at this;exact OV om om
 have hand:iD .u64 (x:U) ((2^i:S):U)=(((BitVec.ofNat 64 x &&& ~~~ BitVec.ofNat 64 (2^i)).toNat:S):U):=by unfold iD;rw[hbv,hbv];exact hwrap _
 have hgl:∀(z j:S),j<64->(BitVec.ofNat 64 z).getLsbD j=z.testBit j:=λz j hj=>by rw[BitVec.getLsbD_ofNat];simp[hj]
 have htb:∀j,(2^i).testBit j=qe (j=i):=λj=>by rw[Nat.testBit_two_pow];exact decide_eq_decide.2 ⟨λh=>h.symm,λh=>h.symm⟩
 unfold OI;rw[hs,hand];cases on with
 |false=>
  refine⟨_,O,(BitVec.ofNat 64 x &&& ~~~ BitVec.ofNat 64 (2^i)).isLt,λj hj=>?_⟩;rw[BitVec.testBit_toNat,BitVec.getLsbD_and,BitVec.getLsbD_not,hgl _ _ hj,hgl _ _ hj,htb];by_cases e:j=i<;>simp[e,hj]
 |true=>
  refine⟨(BitVec.ofNat 64 (BitVec.ofNat 64 x &&& ~~~ BitVec.ofNat 64 (2^i)).toNat ||| BitVec.ofNat 64 (2^i)).toNat,?_,BitVec.isLt _,λj hj=>?_⟩
  .simp only[qE];unfold MP;rw[hbv,hbv];exact hwrap _
  .rw[BitVec.testBit_toNat,BitVec.getLsbD_or,BitVec.ofNat_toNat,BitVec.setWidth_eq,BitVec.getLsbD_and,BitVec.getLsbD_not,hgl _ _ hj,hgl _ _ hj,htb]
   by_cases e:j=i<;>simp[e,hj]
def jh(f:S->I)(ws:J U):Prop:=ws.length=4/\∀j,j<4->∃x:S,ws[j]?=X (x:U)/\x<2^64/\∀i,i<64->x.testBit i=f (64*j+i)
theorem jh.congr{f g:S->I}{ws:J U}(h:jh f ws)(hfg:∀i,i<256->f i=g i):jh g ws:=
 ⟨h.1,λj hj=>by obtain⟨x,h1,h2,h3⟩:=h.2 j hj;exact⟨x,h1,h2,λi hi=>by rw[h3 i hi,hfg _ om]⟩⟩
theorem jh.set{f:S->I}{ws:J U}(h:jh f ws){n:S}(hn:n<256)(on:I):jh (λi=>if i=n then on else f i) (rp ws n on):=by
 unfold rp;refine⟨by simpa using h.1,λj hj=>?_⟩;obtain⟨x,h1,h2,h3⟩:=h.2 j hj;by_cases e:n / 64=j
 .subst e
  obtain⟨y,h4,h5,h6⟩:=IK x (n%64) on h2 om;refine⟨y,?_,h5,λi hi=>?_⟩
  .rw[SQ (by rw[h.1];exact hj),List.getD_eq_getElem?_getD,h1]
   simp only[Option.getD_some,h4]
  .rw[h6 i hi,h3 i hi]
   show _=if 64*(n / 64)+i=n then on else f (64*(n / 64)+i)
   by_cases e:i=n%64
   .rw[Z e,Z om]
   .rw[Y e,Y om]
 .refine ⟨x,by rw[List.getElem?_set_ne e];exact h1,h2,λi hi=>?_⟩
  rw[h3 i hi];show _=if 64*j+i=n then on else f (64*j+i)
  rw[Y om]
theorem jh.zero:jh (λ_=>qd) [0,0,0,0]:=by
 refine⟨O,λj hj=>⟨0,?_,qb,λi _=>by simp⟩⟩
 match j,hj with
 |0,_|1,_|2,_|3,_=>rfl
def pM(f:S->I):S->qg S
 |0=>Q
 |n+1=>if f n then X n else pM f n
theorem ve(f:S->I)(a:S):∀(d:S),(∀q,a<=q->q<a+d->f q=qd)->pM f (a+d)=pM f a
 |0,_=>rfl
 |d+1,h=>by show pM f ((a+d)+1)=_;simp only[pM,h (a+d) om om,SX,qB];exact ve f a d λq h1 h2=>h q h1 om
theorem Nh{f:S->I}{p n:S}(hp:p<n)(hf:f p=G)(h:∀q,p<q->q<n->f q=qd):pM f n=X p:=by
 have:=ve f (p+1) (n-(p+1)) λq h1 h2=>h q om om;rw[show p+1+(n-(p+1))=n from by omega]at this;rw[this];simp[pM,hf]
theorem D9{f:S->I}:∀{n p:S},pM f n=X p->p<n/\f p=G/\∀q,p<q->q<n->f q=qd
 |n+1,p,h=>by
  simp only[pM]at h;split at h
  .rename_i hf;cases h;exact⟨om,hf,λq h1 h2=>by omega⟩
  .rename_i hf
   obtain⟨h1,h2,h3⟩:=D9 h;refine⟨om,h2,λq h4 h5=>?_⟩;by_cases e:q=n
   .subst e;simpa using hf
   .exact h3 q h4 om
def IW(f:S->I):U:=match pM f 256 with|some p=>(p:U)|none=> -1
theorem KI{x:S}(hx:x≠0):x.testBit x.log2=G/\∀j,x.log2<j->x.testBit j=false:=by
 have h:=(WN hx).1 O;refine⟨?_,λj hj=>Nat.testBit_lt_two_pow (Nat.lt_of_lt_of_le h.2 (Nat.pow_le_pow_right om hj))⟩;rw[Nat.testBit_eq_decide_div_mod_eq];have:x / 2^x.log2=1:=by
  apply Nat.div_eq_of_lt_le
  .simpa using h.1
  .have:=h.2;rw[Nat.pow_succ]at this;omega
 rw[this];rfl
theorem yT{B:S}{w0 w:W}{R:J aG}{b1 b2 b3 b4:U}{f:S->I}{K:U->Pw}(h:Ow B w0 w R)(hb:jh f [b1,b2,b3,b4])
  (hK:∀w',Ow B w0 w' R->K (IW f) w'):aaZ b1 b2 b3 b4 K w:=by
 apply aem;refine h.al λw1 h=>?_;intro l hl;have key:∀(m t:S),t+m=4->pM f 256=pM f (64*m)->l (t:U) w1:=by
  intro m;induction m with
  |zero=>
   intro t ht hf;apply hl;rw[show qe ((t:U)<4)=qd from by simp;omega,qv];have:IW f= -1:=by unfold IW;rw[hf];rfl
   rw[<-this];exact hK _ h.drop
  |succ m ih=>
   intro t ht hf;apply hl;rw[show qe ((t:U)<4)=G from by simp;omega,qq];have hi:qj.wrap (3-(t:U))=(m:U):=by rw[wr om om];omega
   rw[hi];obtain⟨x,h1,h2,h3⟩:=hb.2 m om;have hcell: [Value.int .u64 b1,.y b2,.y b3,.y b4][0+((m:U).toNat*1)]?=X (.y (x:U)):=by rw[SD,Vg,SS];have:=qz (Option.map (Value.int .u64)) h1;rw[<-S2]at this;exact this
   refine⟨om,om,_,h.ld 0 O hcell,?_⟩;by_cases hx:x=0
   .subst hx
    rw[show(((0:S):U) !=0)=qd from O,qv,wr om om];have h4:=ih (t+1) om (by
     rw[hf,show 64*(m+1)=64*m+64 from by omega];refine ve f (64*m) 64 λq h5 h6=>?_;have:=h3 (q-64*m) om;rw[show 64*m+(q-64*m)=q from by omega]at this;rw[<-this];simp)
    exact h4
   .rw[show((x:U) !=0)=G from by simp[hx],qq]
    refine⟨om,om,_,h.ld 0 O hcell,?_⟩;apply pj h2;obtain⟨h4,h5⟩:=KI hx;have hlt:x.log2<64:=(Nat.log2_lt hx).2 h2;have htop:pM f 256=X (64*m+x.log2):=by
     rw[hf];refine Nh om (by rw[<-h3 _ hlt];exact h4) λq h6 h7=>?_;have:=h3 (q-64*m) om;rw[show 64*m+(q-64*m)=q from by omega]at this;rw[<-this];exact h5 _ om
    have hl64:fz x=x.log2+1:=by unfold fz;rw[Y hx]
    rw[hl64,wr (x:=(m:U)*64) om om,wr (x:=(m:U)*64+((x.log2+1:S):U)) om om,wr om om];have:(m:U)*64+((x.log2+1:S):U)-1=IW f:=by unfold IW;rw[htop];simp;omega
    rw[this];exact hK _ h.drop
 exact key 4 0 O O
theorem JE{B:S}{w0 w:W}{L:J aG}{s x:Sl}{xs ys:J U}{k:Sl->Pw}(h:Ow B w0 w L)(i:S)(hL:L[i]?=X (ag ax s xs))(hx:lP 1 w x (ys.flatMap ax.enc))(hxl:x.len=ys.length)
  (hbig:xs.length+ys.length<=1000000000000) (hk:∀s' w',s'.len=xs.length+ys.length->Ow B w0 w' (L.set i (ag ax s' (xs++ys)))->k s' w'):
  ∃s' w',dO qh [22,22] 22 s.v x.v w s' w'/\k s' w':=
 h.app qJ (show qh.info? 3=X qI from by kernel_rfl) (zv:= .z 0) qa qa O qb i hL hx hxl (by
  have e:qI.bytes=8:=qa
  rw[e];omega) hk
theorem zN{B:S}{w0 w:W}{L:J aG}{s:Sl}{xs:J U}{y:U}{c:S}{k:Sl->Pw}(h:Ow B w0 w (ae c [.z y]::L))(i:S)(hL:L[i]?=X (ag ax s xs))
  (hbig:xs.length<=1000000000000) (hk:∀s' w',s'.len=xs.length+1->Ow B w0 w' (L.set i (ag ax s' (xs++ [y])))->k s' w'):
  ∃s' w',dO qh [22,22] 22 s.v (.slice (X c.p) 1 1) w s' w'/\k s' w':=
 Ow.L8 (E:=ax) (y:=y) qJ (show qh.info? 3=X qI from by kernel_rfl) (zv:= .z 0) qa qa O qb h i hL (by
  have e:qI.bytes=8:=qa
  rw[e];omega) hk
theorem gJ{B:S}{w0 w:W}{R:J aG}{s:Sl}{xs:J U}{K:Sl->Pw}(h:Ow B w0 w R)(hx:lP 1 w s (xs.flatMap ax.enc))(hl:s.len=xs.length)
  (hbig:xs.length<=1000000000000) (hK:∀s' w',Ow B w0 w' (ag ax s' xs::R)->K s' w'):WE s K w:=by
 apply Ye;cases ha:s.a with
 |none=>
  simp only[Option.isNone_none,qq];cases hx with
  |nil _ h1 h2 h3=>
   have:xs= []:=TQ om;subst this;exact hK _ _ h.cB
  |mk b o l h1 _ _ _ _=>rw[h1]at ha;cases ha
 |some a=>
  simp only[Option.isNone_some,qv];refine h.Sf λw1 u h=>?_
  (try rw[<-ha])
  exact JE (s:=⟨X w.heap.size.p,0,0⟩) (xs:=[]) (ys:=xs) (x:=s) h.empty 0 O (hx.no u) hl (by simpa using hbig) λs' w' _ h=>hK s' w' h
def Jt(B:S)(w0:W)(L:J aG)(fv:V)(p:U->I):Prop:=
 ∀(x:U)(w:W)(alf:I->Pw),Ow B w0 w L->(∀w',Ow B w0 w' L->alf (p x) w')->fP qh fv [.z x] w λen w'=>∃r:I,en= .returned (.bool r)/\alf r w'
theorem jO{B:S}{w0 w:W}{L:J aG}{s:Sl}{xs:J U}{fv:V}{p:U->I}{K:U->Pw}(h:Ow B w0 w L)(i:S)(hi:L[i]?=X (ag ax s xs))
  (hbig:xs.length<=1000000000000) (hf:Jt B w0 L fv p)
  (hK:∀w',Ow B w0 w' L->K (match xs.findIdx? p with|some j=>(j:U)|none=> -1) w'):XW s fv K w:=by
 apply adG;intro l hl;have hlen:=h.len i hi;have key:∀(m j:S)(w:W),j+m=xs.length->(∀q,q<j->∀x,xs[q]?=X x->p x=qd)->Ow B w0 w L->l (j:U) w:=by
  intro m;induction m with
  |zero=>
   intro j w hj hno h;apply hl;rw[hlen,show qe ((j:U)<(xs.length:U))=qd from by simp;omega,qv];have:xs.findIdx? p=none:=by rw[Tt];intro x hx;obtain⟨q,hq⟩:=Tg.1 hx;exact hno q (by have:=(Sz.1 hq).1;omega) x hq
   have:=hK w h
   rwa [‹xs.findIdx? p=Q›]at this
  |succ m ih=>
   intro j w hj hno h;apply hl;rw[hlen,show qe ((j:U)<(xs.length:U))=G from by simp;omega,qq];have hlt:j<xs.length:=om
   obtain⟨a,ha,hc⟩:=h.Kf i hi (gE hlt);refine⟨a,ha,om,om,_,by rw[SD];exact hc,?_⟩;refine hf _ _ _ h λw' h=>?_;cases hp:p xs[j]with
   |true=>
    rw[qq];have:xs.findIdx? p=X j:=by rw[Tc];refine⟨hlt,hp,λq hq=>?_⟩;simp[hno q hq _ (gE om)]
    have h2:=hK w' h
    rwa [this]at h2
   |false=>
    rw[qv,wr om om];refine ih (j+1) w' om (λq hq x hx=>?_) h;by_cases e:q=j
    .subst e;rw[gE hlt]at hx;cases hx;exact hp
    .exact hno q om x hx
 exact key xs.length 0 w om (λq hq=>by omega) h
theorem mI(xs:J U)(q:U->I)(j:S)(x:U)(hx:xs[j]?=X x):(xs.take (j+1)).filter q=(xs.take j).filter q++if q x then [x]else []:=by rw[SO,hx,Tm];congr 1;simp only[Ur,Tk,Uk]
theorem fB{B:S}{w0 w:W}{L:J aG}{s:Sl}{xs:J U}{fv:V}{p:U->I}{K:Sl->Pw}(h:Ow B w0 w L)(i:S)(hi:L[i]?=X (ag ax s xs))
  (hbig:xs.length<=1000000000000) (hf:∀ys,ys.length=xs.length->Jt B w0 (L.set i (ag ax s ys)) fv p)
  (hK:∀s' w',Ow B w0 w' (L.set i (ag ax s' (xs.filter λx=> !p x)))->K s' w'):ace s fv K w:=by
 apply afC;have hself:∀A,L[i]?=X A->L.set i A=L:=by
  intro A hA;apply Td;intro j;rw[To];by_cases e:i=j
  .subst e;rw[Z O,Z (cT hA),hA]
  .simp[e]
 have hf0:Jt B w0 L fv p:=by have:=hf xs O;rwa [hself _ hi]at this
 have hlen:=h.len i hi;have hspot:=(h.tX i hi).spot;refine jO h i hi hbig hf0 λw1 h=>?_;cases hfi:xs.findIdx? p with
 |none=>
  rw[show((-1:U)== -1)=G from O,qq];have:xs.filter (λx=> !p x)=xs:=by rw[TF];intro x hx;rw[Tt]at hfi;simp[hfi x hx]
  have h2:=hK s w1;rw[this,hself _ hi]at h2;exact h2 h
 |some i0=>
  obtain⟨hi0,hp0,hbefore⟩:=Tc.1 hfi;rw[show(((i0:S):U)== -1)=qd from by simp,qv];intro l hl;have hcap:=(h.tX i hi).ga;have key:∀(m j q:S)(ys:J U)(w:W),j+m=xs.length->ys.length=xs.length->ys.take q=(xs.take j).filter (λx=> !p x)->q<j->q<=ys.length->ys.drop j=xs.drop j->
    Ow B w0 w (L.set i (ag ax s ys))->l (q:U) (j:U) w:=by
   intro m;induction m with
   |zero=>
    intro j q ys w hj hys hq hqj hqy hd h;have hi':(L.set i (ag ax s ys))[i]?=X (ag ax s ys):=by rw[SQ (cT hi)]
    apply hl;rw[hlen,show qe ((j:U)<(xs.length:U))=qd from by simp;omega,qv];refine⟨om,om,?_⟩;rw[SD,<-hlen];have hn:q<=ys.length:=hqy;refine h.clear (P:=qh) (T:=22) (t:=0) (zv:= .z 0) (z0:=0) qJ (λw=>qU w) O i hi' hn λw2 h=>?_;refine⟨om,om,?_⟩;have hi2:=SQ (a:=ag ax s (ys.take q++SB (ys.length-q) 0)) (cT hi');have h3:=h.pre i hi2 (n:=q) (by simp;omega);rw[IN _ _ _ hspot];have e1:(ys.take q++SB (ys.length-q) 0).take q=xs.filter (λx=> !p x):=by rw[T8 (by simp;omega),U1,Wj,hq,SE om]
    rw[e1]at h3;simp only[Ul]at h3;exact hK _ _ h3
   |succ m ih=>
    intro j q ys w hj hys hq hqj hqy hd h;have hi':(L.set i (ag ax s ys))[i]?=X (ag ax s ys):=by rw[SQ (cT hi)]
    have hjlt:j<xs.length:=om
    have hyj:ys[j]?=X xs[j]:=by have:=qz (λl=>l[0]?) hd;simp only[S8,UD]at this;rw[this,gE hjlt]
    apply hl;rw[hlen,show qe ((j:U)<(xs.length:U))=G from by simp;omega,qq];obtain⟨a,ha,hc⟩:=h.Kf i hi' hyj;refine⟨a,ha,om,om,_,by rw[SD];exact hc,?_⟩;refine hf ys hys _ _ _ h λw2 h=>?_;have hft:=mI xs (λx=> !p x) j _ (gE hjlt);have hd1:∀zs:J U,zs.drop j=xs.drop j->zs.drop (j+1)=xs.drop (j+1):=λzs hz=>by rw[<-TK (i:=1) (j:=j),<-TK (i:=1) (j:=j),hz]
    cases hp:p xs[j]with
    |true=>
     simp only[T1,qv];rw[wr om om];refine ih (j+1) q ys w2 om hys ?_ om hqy (hd1 ys hd) h;rw[hq,hft,hp];simp
    |false=>
     simp only[T4,qq];obtain⟨b,o,hb,_⟩:=h.get i hi' hyj;rw[ha]at hb;cases hb;refine⟨_,ha,om,om,?_⟩;rw[SD,aL];refine h.Sb i hi' (j:=q) om xs[j] ha O λw3 h=>?_;simp only[Ul]at h;rw[wr om om,wr om om];refine ih (j+1) (q+1) _ w3 om (by simpa using hys) ?_ om (by simp;omega) ?_ h
     .rw[hft,hp]
      simp only[T4,qE];rw[SO,SQ om,Wq om,hq];rfl
     .rw[Wn om]
      exact hd1 ys hd
  refine key (xs.length-(i0+1)) (i0+1) i0 xs w1 om O ?_ om om O (by rw[hself _ hi];exact h) |> λh=>?_;rw[wI i0 om]
  .exact h
  .rw[mI xs _ i0 _ (gE hi0),hp0]
   simp only[T1,SX,qB,SL]
   symm
   rw[TF];intro x hx;obtain⟨q,hq⟩:=Tg.1 hx;rw[S5]at hq;split at hq
   .rename_i hlt
    obtain⟨h4,h5⟩:=Sz.1 hq;have:=hbefore q hlt;rw[h5]at this;simpa using this
   .cases hq
end Th
section
variable{B:S}{w0 w:W}{R L:J aG}{α:Type}{E:dX α}{b:S}{n:rB}
theorem sr{who:U}{K:I->Pw}(h:Ow B w0 w (cu b n::R))(hK:∀r w',Ow B w0 w' (cu b (n.cancel who)::R)->K r w'):acA b.o who K w:=by
 apply agh;obtain⟨s,hl,h⟩:=h.note;refine h.a λc w1 h=>?_;refine⟨_,O,s,h.aE O,_,O,s,h.aE O,Th.fB (p:=λx=>x==who) h 2 O om (λys hys x w alf h hQ=>?_) λs' w h=>?_⟩
 .refine aY ?_
  show adi x c.p alf w;apply agi;have h2:Ow B w0 w (ae c [.z who]::ae b [.y n.word,.bool n.is,s.v]::ag ax s ys::R):=h;exact⟨_,h2.aE O,hQ _ h⟩
 .have h:Ow B w0 w (ae c [.z who]::ae b [.y n.word,.bool n.is,s.v]::ag ax s' (n.l.filter λx=> !(x==who))::R):=h
  refine⟨_,O,h.jD O O λw h=>?_⟩;exact⟨_,O,s',h.aE O,hK _ w (Ow.jB (s:=s') (SY (S3 _ _) hl) (show Ow B w0 w (ae b [.y n.word,.bool n.is,s'.v]::ag ax s' (n.l.filter λx=> !(x==who))::R)from h.sub))⟩
theorem G9{s:Sl}{xs:J U}{K:Sl->Pw}[ale:bG s L U ax xs](h:Ow B w0 w L)(hbig:xs.length<=1000000)(hK:∀s' w',Ow B w0 w' (ag ax s' xs::L)->K s' w'):WE s K w:=by apply Ye;exact ng (s:=s) (E:=ax) (xs:=xs) (zv:= .z 0) qJ tB qa qa O qb h (by rw[td];omega) hK
theorem uS{K:qg qf->Pw}(h:Ow B w0 w (cu b n::R))(hK:∀b' w',Ow B w0 w' (cu b' n::cu b n::R)->K b'.o w'):Xq b.o K w:=by
 apply agc;obtain⟨s,hl,h⟩:=h.note;refine h.dr λw h=>?_;refine⟨_,O,_,O,_,O,s,h.aE O,_,h.aE O,_,h.aE O,G9 (s:=s) h hl λs' w h=>?_,trivial⟩;refine⟨h.aE O,h.aE O,h.a λd w2 h=>?_,trivial⟩;refine hK d _ (Ow.jB (s:=s') hl (Ow.sub (L:=cu b n::ae d [.y n.word,.bool n.is,s'.v]::ag ax s' n.l::R) ?_));exact Ow.jB (s:=s) hl h.sub
def agj{a K w}:=ah (YF a K w) func39 .Mz
def agk{a b K w}:=ah (Y6 a b K w) func75 (.v (.v (.y (.v (.x .w)) (.y (.v (.x (.y (.t (X []) (.x (.y (.x (.x (.y (.v .w) (.y (.v .w) (.v .w))))) (.x .g17))) .u) .w))) .w))))
def agl{a K w}:=ah (Zd a K w) func83 (.v .w)
def agm{a b K w}:=ah (aar a b K w) func192 .RX
def agn{a b c d K w}:=ah (abu a b c d K w) func273 (.v (.v (.y (.x (.v .QK)) (.v .w))))
def ago{a b K w}:=ah (abv a b K w) func274 (.v (.v (.y (.v (.x .w)) (.y (.v (.x (.v (.y .g17 (.v .w))))) .w))))
def agp{a b c d K w}:=ah (Yj a b c d K w) func7 (.v (.y (.v (.x .w)) (.y (.r (X [(4,.c .p)]) (.o 2 963 (.o 8 251 (.hold 3 707 6111 (.o 4 707 (.hold 9 227 6143 (.f 0 (.f 1 (.f 5 (.e 6 .QH) (.e 6 (.f 5 .QH (.e 7 (.e 5 .Qb))))) (.e 5 .R1)) (.e 5 (.e 0 .R1))))))))) (.v (.v (.v (.v (.v (.y (.v (.x (.t (X [(5,.c (.i .i64)),(55,.c (.i .i64))]) (.v (.y .w (.x (.x (.v (.v (.v .w))))))) .u))) (.v (.y (.v (.x (.t (X [(5,.c (.i .i64)),(92,.c (.i .i64))]) .xw .u))) .w)))))))))))
def agq{a b c d e f g h K w}:=ah (Yl a b c d e f g h K w) func10 (.v (.v (.v (.v (.y (.x (.v (.t (X []) .u (.y .N9 (.v (.v .w)))))) .w)))))
def agr{a b K w}:=ah (Yo a b K w) func13 .C7
def ags{a b K w}:=ah (Yq a b K w) func15 (.v .w)
def agt{a K w}:=ah (Yr a K w) func17 (.v (.v (.y (.z (.o 0 16236000 (.o 1 16236000 (.o 2 16236000 (.o 3 16236000 (.o 5 16235536 (.o 6 16235536 (.o 7 16235536 (.o 10 16220944 (.o 11 16220944 (.o 12 16220944 (.o 15 15754000 (.o 16 15754000 (.o 17 15754000 (.o 20 811792 (.o 21 811792 (.o 22 811792 (.hold 8 8658960 11458297343 (.hold 13 8651280 11458297855 (.hold 18 8405520 11458314239 (.hold 23 541200 11458838527 (.e 4 (.e 9 (.e 14 (.e 19 (.e 24 (.o 25 0 (.e 26 (.o 27 0 (.e 28 (.o 29 0 (.e 30 (.o 31 0 (.e 32 (.o 33 0 (.e 34 .done)))))))))))))))))))))))))))))))))))) (.v (.v (.v .w))))))
def agu{a b c d K w}:=ah (YA a b c d K w) func34 (.v (.v (.y (.r (X [(4,.c .b)]) .done) .w)))
def agv{a b c d K w}:=ah (YH a b c d K w) func41 (.v (.v (.y .Rq .RI)))
def agw{a K w}:=ah (YQ a K w) func52 (.v .w)
def agx{a b K w}:=ah (YT a b K w) func63 .oe
def agy{a K w}:=ah (YV a K w) func67 (.v (.v (.y (.r (X [(4,.c .q),(5,.c .q),(6,.c .b)]) (.o 0 198640 (.o 1 198640 (.o 2 198640 (.o 3 198640 (.o 4 198144 (.o 5 198144 (.o 6 198144 (.o 7 198144 (.o 8 198144 (.o 9 196608 (.o 10 196608 (.f 11 (.o 12 196608 (.o 13 245760 (.o 14 491520 (.o 15 983040 (.f 16 (.e 17 .HI) (.e 17 (.e 16 .HI))))))) (.f 16 (.f 11 (.o 12 131072 (.o 13 180224 (.o 14 425984 (.o 15 917504 (.e 17 .HI))))) (.e 17 .Rv)) (.e 17 (.f 11 (.o 12 65536 (.o 13 114688 (.o 14 360448 (.o 15 851968 (.e 16 .HI))))) (.e 16 .Rv))))))))))))))))) (.y (.y (.r (X [(41,.c .b)]) .done) (.x .w)) (.y (.z (.o 0 14 (.o 1 124 (.o 2 8 .RL)))) (.v .w))))))
def agz{a b c K w}:=ah (Y7 a b c K w) func76 (.v .P9)
def agA{a b K w}:=ah (adK a b K w) func85 .Qu
def agB{a b K w}:=ah (adL a b K w) func87 .Qu
def agC{a b K w}:=ah (adM a b K w) func89 .Qu
def agD{a K w}:=ah (ZE a K w) func116 (.v .w)
def agE{a b K w}:=ah (adO a b K w) func146 (.v .w)
def agF{a K w}:=ah (Z0 a K w) func148 (.v (.v .w))
def agG{a b c K w}:=ah (Z3 a b c K w) func149 (.v (.v (.y (.r (X [(11,.c .q)]) .g10) (.x (.z (.o 0 262142 (.o 2 2 (.o 3 2 (.o 4 2 (.o 5 2 (.o 6 2 (.o 7 2 (.o 8 2 (.o 9 2 (.o 10 2 (.o 11 2 (.o 12 802818 (.o 14 794626 (.hold 1 499712 1572863 (.f 13 (.o 15 786432 (.o 16 786432 (.o 17 786432 .HI))) (.e 18 (.f 13 (.o 15 524288 (.o 16 524288 (.o 17 524288 (.e 19 (.o 20 0 .done))))) (.e 19 (.o 13 0 (.o 15 0 (.o 16 0 (.o 17 0 (.o 20 0 .done))))))))))))))))))))))))))))
def agH{a K w}:=ah (Xz a K w) func150 (.v (.v (.y (.r (X [(4,.c .s),(5,.c .q),(6,.c (.i .i64))]) (.o 0 34590592 (.o 1 34590592 (.o 2 34590592 (.o 3 34590592 (.o 4 34590592 (.o 5 34590592 (.o 6 34590592 (.o 7 34586624 (.o 8 34586624 (.o 9 34586624 (.o 10 34586624 (.o 11 34586624 (.o 12 34586624 (.o 13 34586624 (.o 14 34537472 (.o 15 34537472 (.o 16 34340864 (.o 17 34340864 (.o 18 33554432 (.o 19 33554432 (.f 20 (.o 21 33554432 (.o 22 58720256 (.o 23 117440512 (.o 24 234881024 (.e 25 (.o 26 0 (.e 27 (.o 28 0 .done)))))))) (.e 25 (.e 20 (.o 21 0 (.o 22 25165824 (.o 23 83886080 (.o 24 201326592 (.o 26 0 (.e 27 (.o 28 0 .done))))))))))))))))))))))))))))))) (.y (.v (.x .w)) (.v (.y (.v (.x .w)) (.y (.y (.r (X [(85,.c .b)]) (.o 0 0 (.o 1 0 (.o 2 0 (.o 3 0 (.o 4 6144 (.o 5 6144 (.o 6 6144 (.o 7 6144 (.o 8 6144 (.o 9 6144 (.o 10 6144 (.o 11 0 (.o 12 0 (.o 13 0 (.o 14 0 (.o 15 0 (.o 16 0 (.o 17 0 (.o 18 0 (.o 19 0 (.o 20 0 (.o 21 805306368 (.o 22 805306368 (.o 23 805306368 (.o 24 805306368 (.o 25 805306368 (.o 26 805306368 (.o 27 805306368 (.o 28 0 (.o 29 0 (.o 30 0 (.o 31 0 (.o 32 0 (.o 33 0 .done))))))))))))))))))))))))))))))))))) (.x .w)) (.y (.z (.o 0 8064 (.o 1 8064 (.o 2 8064 (.o 3 8064 (.o 4 8064 (.o 5 8064 (.o 6 8064 (.o 7 4096 (.o 8 4096 (.o 9 4096 (.o 10 4096 (.o 11 4096 (.o 12 0 (.o 13 0 (.e 14 .done)))))))))))))))) (.y (.v (.x (.t (X [(102,.c (.i .i64))]) (.v (.y .w (.x (.x (.v (.z (.o 0 2046 (.o 2 1010 (.o 4 490 (.o 5 74 (.o 6 10 (.o 7 10 (.o 8 10 (.hold 1 1544 2047 (.hold 3 512 2047 (.e 9 (.o 10 0 (.e 11 .done)))))))))))))))))) .u))) .w)))))))))
def agI{a K w}:=ah (XA a K w) func151 (.v (.y (.v (.x .w)) (.v (.y (.v (.x .w)) (.y (.r (X [(4,.c (.i .i64)),(5,.c .q)]) (.o 0 557040 (.o 1 557040 (.o 2 557040 (.o 3 557040 (.o 4 556544 (.o 5 556544 (.o 6 556544 (.o 7 556544 (.o 8 556544 (.o 9 524288 (.o 10 524288 (.o 11 524288 (.o 12 524288 (.o 13 524288 (.o 14 524288 (.f 15 (.o 16 524288 (.o 17 786432 (.o 18 1572864 (.e 19 (.e 20 (.o 21 0 .done)))))) (.e 19 (.e 15 (.o 16 0 (.o 17 262144 (.o 18 1048576 (.e 20 (.o 21 0 .done)))))))))))))))))))))))) (.y (.v (.x .w)) (.y (.z (.o 0 30 (.o 1 16 (.o 2 16 (.o 3 16 (.o 4 0 (.e 5 .done))))))) .w)))))))
def agJ{a K w}:=ah (XC a K w) func152 (.v (.v (.y (.v (.x .w)) (.y .g11 (.y .g11 .w)))))
def agK{a K w}:=ah (XD a K w) func153 (.v .EV)
structure Ln where
 is:U
 note:U
 aD:U
deriving DecidableEq
def E8:dX Ln:=⟨3,λo=>[.z o.is,.z o.note,.y o.aD],λ_=>rfl,λx v h=>by simp only[SH,TE,qG]at h;rcases h with rfl|rfl|rfl<;>rfl,qb⟩
abbrev y7:=J Ln
def lL(l:y7)(n:U):qg Ln:=if n<0 then Q else l[n.toNat]?
def oF(l:y7)(n note aD:U):U × y7:=match lL l n with
 |none=>(130,l)
 |some x=>if note<0 then(1,l)else if x.is≠0 then(131,l)else(0,l.set n.toNat ⟨1,note,aD⟩)
def fA(l:y7)(n:U):(qg (U × U)× U)× y7:=match lL l n with
 |none=>((Q,130),l)
 |some x=>if x.is=1 then((X (x.note,x.aD),0),l.set n.toNat { x with is:=2})
  else if x.is=2\/x.is=3 then((Q,0),l.set n.toNat { x with is:=3})else((Q,0),l)
def jG(l:y7)(n:U):(qg (U × U)× U)× y7:=match lL l n with
 |none=>((Q,130),l)
 |some x=>if x.is=3 then((X (x.note,x.aD),0),l.set n.toNat { x with is:=2})
  else if x.is=2 then((Q,0),l.set n.toNat { x with is:=1})else((Q,0),l)
def bS(b:S)(l:y7):aG:=oA λs:Sl=>aQ [ae b [s.v],ag E8 s l]
theorem Ow.N1{s:Sl}{xs:J α}[ale:bG s L α E xs]{i:U}{j:S}{x:α}{a:qf}(h:Ow B w0 w L)(hij:i=(j:U))(hj:xs[j]?=X x)(ha:s.a=X a):
  ∀v,(E.enc x)[0]?=X v->w.cell? (a.add (i.toNat*E.z))=X v:=by
 obtain⟨a',ha',_,_,g⟩:=h.cd (s:=s) (alc:=λa=>∀v,(E.enc x)[0]?=X v->w.cell? (a.add (i.toNat*E.z))=X v) hij hj (λa _ h1 h2=>h1);rw[ha]at ha';cases ha';exact g
theorem Ow.Po{s:Sl}{xs:J α}[ale:bG s L α E xs]{i:U}{j:S}{x:α}{a:qf}(h:Ow B w0 w L)(hij:i=(j:U))(hj:xs[j]?=X x)(ha:s.a=X a):
  ∀c v,(E.enc x)[c]?=X v->w.cell? ((a.add (i.toNat*E.z)).add c)=X v:=by
 obtain⟨a',ha',_,_,g⟩:=h.cd (s:=s) (alc:=λa=>∀c v,(E.enc x)[c]?=X v->w.cell? ((a.add (i.toNat*E.z)).add c)=X v) hij hj (λa _ h1 h2=>h2);rw[ha]at ha';cases ha';exact g
end
section
variable{B:S}{w0 w:W}{R L:J aG}{b:S}{l:y7}
theorem Ow.lines(h:Ow B w0 w (bS b l::R)):∃s:Sl,Ow B w0 w (ae b [s.v]::ag E8 s l::R):=by obtain⟨s,h⟩:=h.ex;exact⟨s,h.star⟩
theorem Ow.eT{s:Sl}(h:Ow B w0 w (ae b [s.v]::ag E8 s l::R)):Ow B w0 w (bS b l::R):=Ow.eu s (Ow.aR h)
theorem Ot{L:J aG}{n:U}{k:Sl->Pw}(h:Ow B w0 w L)(h0:0<=n)(hn:n<=1000000)(hk:∀s' w',s'.len=n.toNat->Ow B w0 w' (ag E8 s' (SB n.toNat ⟨0,0,0⟩)::L)->k s' w'):
  ∃s' w',sU qh 250 (.z n) (.z n) w s' w'/\k s' w':=
 Ow.si (E:=E8) (z0:=⟨0,0,0⟩) akD (show qh.info? 316=X akg from by kernel_rfl) (zv:= .agg ⟨E8.enc ⟨0,0,0⟩⟩) qa qa O h h0 (by
  have e:akg.bytes=24:=qa
  rw[e];omega) om hk
theorem Bx{K:qg qf->U->Pw}(h:Ow B w0 w R)(hK:∀b w',Ow B w0 w' (bS b (SB 8 ⟨0,0,0⟩)::R)->K b.o 0 w'):YF 8 K w:=by
 apply agj;intro k2 hk2;refine av qb ?_;rw[show qe ((8:U)>64)=qd from by decide];apply hk2;refine aV O ?_;refine Ot h qb qb λs w hl h=>?_;refine h.al λw1 h=>?_;exact hK _ w1 (Ow.eT (s:=s) h)
theorem nk{n:U}{K:qg qf->Pw}{s:Sl}(h:Ow B w0 w (ae b [s.v]::ag E8 s l::R))(h1:lL l n=Q->K Q w)
  (h2:∀x a,lL l n=X x->s.a=X a->0<=n->n<(l.length:U)->l[n.toNat]?=X x->K (X (a.add (n.toNat*3))) w):aar b.o n K w:=by
 apply agm;have hlen:=h.aF s;intro k3 hk3;refine bh (λe=>?_) (λe=>?_)
 .apply hk3
  refine aW O (h1 ?_);unfold lL;rw[Z e]
 refine⟨_,O,s,h.aE O,?_⟩;apply hk3;by_cases e2:(l.length:U)<=n
 .rw[qp om]
  refine aW O (h1 ?_);unfold lL;rw[Y e,SZ om]
 .rw[ql om]
  refine aV O ?_;have hx:l[n.toNat]?=X l[n.toNat]:=gE om;refine⟨_,O,s,h.aE O,h.cd (s:=s) (i:=n) (j:=n.toNat) om hx λa ha hc0 hc=>?_⟩;exact h2 _ a (by unfold lL;rw[Y e];exact hx) ha om om hx
theorem zg{n note g:U}{K:U->Pw}(h:Ow B w0 w (bS b l::R))(hK:∀w',Ow B w0 w' (bS b (oF l n note g).2::R)->K (oF l n note g).1 w'):abu b.o n note g K w:=by
 apply agn;obtain⟨s,h⟩:=h.lines;unfold oF at hK;refine nk h (λe=>?_) (λx a e ha h0 hlt hx=>?_)
 .rw[e]at hK
  exact aW O (hK _ (Ow.eT (s:=s) h))
 .rw[e]at hK
  dsimp only at hK;refine aV O ?_;refine bh (λe1=>?_) (λe1=>?_)
  .rw[Z e1]at hK
   exact hK _ (Ow.eT (s:=s) h)
  rw[Y e1]at hK;have hc:=h.cC.N1 (s:=s) (i:=n) (j:=n.toNat) om hx ha;refine⟨_,O,x.is,hc _ O,pR (λe2=>?_) (λe2=>?_)⟩
  .rw[Z e2]at hK
   exact hK _ (Ow.eT (s:=s) h)
  .rw[Y om]at hK
   refine⟨_,O,h.uc (s:=s) (xs:=l) (i:=n) (j:=n.toNat) ⟨1,note,g⟩ om om ha λw h=>?_⟩;exact hK _ (Ow.eT (s:=s) h.cC)
theorem tC{n:U}{x:Ln}(h:lL l n=X x):0<=n/\l[n.toNat]?=X x:=by
 unfold lL at h;split at h
 .cases h
 .exact ⟨om,h⟩
theorem M9{s:Sl}{n:U}{x:Ln}{a:qf}{v:U}{k:Pw}(h:Ow B w0 w (ae b [s.v]::ag E8 s l::R))(h0:0<=n)(hx:l[n.toNat]?=X x)(ha:s.a=X a)
  (hk:∀w',Ow B w0 w' (ae b [s.v]::ag E8 s (l.set n.toNat { x with is:=v})::R)->k w'):St w (a.add (n.toNat*3)) (.z v) k:=by
 have e:(a.add (n.toNat*3))=(a.add (n.toNat*3)).add 0:=by rw[Addr.add_add];rfl
 rw[e];exact h.mT (s:=s) (i:=n) (j:=n.toNat) (c:=0) { x with is:=v} om hx ha O qb O λw h=>hk w h.cC
theorem xz{n:U}{K:U->U->I->U->Pw}(h:Ow B w0 w (bS b l::R))
  (hK:∀w',Ow B w0 w' (bS b (fA l n).2::R)->K ((fA l n).1.1.getD (0,0)).1 ((fA l n).1.1.getD (0,0)).2 (fA l n).1.1.isSome (fA l n).1.2 w'):Y6 b.o n K w:=by
 apply agk;obtain⟨s,h⟩:=h.lines;unfold fA at hK;refine nk h (λe=>?_) (λx a e ha h0 hlt hx=>?_)
 .rw[e]at hK
  exact aW O (hK _ (Ow.eT (s:=s) h))
 .rw[e]at hK
  dsimp only at hK;refine aV O ?_;have hc:=h.cC.N1 (s:=s) (i:=n) (j:=n.toNat) om hx ha;refine⟨_,O,x.is,hc _ O,?_⟩;intro k7 hk7;have again:x.is=2\/x.is=3->∀w,Ow B w0 w (ae b [s.v]::ag E8 s l::R)->k7 w:=λe2 w h=>by
   apply hk7;refine⟨_,O,M9 h h0 hx ha λw h=>?_⟩;rw[Y om,Z e2]at hK;exact hK w (Ow.eT (s:=s) h)
  refine dW (λe1=>?_) (λe1=>?_)
  .rw[Z e1]at hK
   refine⟨_,O,M9 h h0 hx ha λw h=>?_⟩;refine h.dr λw h=>?_;have hc:=h.cC.Po (s:=s) (i:=n) (j:=n.toNat) (x:={ x with is:=2}) om (by rw[SQ om]) ha;exact⟨_,O,_,hc 1 _ O,_,O,_,hc 2 _ O,hK w (Ow.eT (s:=s) h)⟩
  refine dW (λe2=>?_) (λe2=>?_)
  .exact again (.inl e2) _ h
  refine dW (λe3=>?_) (λe3=>?_)
  .exact again (.inr e3) _ h
  .rw[Y e1,Y om]at hK
   exact hK _ (Ow.eT (s:=s) h)
theorem Bw{n:U}{K:U->U->I->U->Pw}(h:Ow B w0 w (bS b l::R))
  (hK:∀w',Ow B w0 w' (bS b (jG l n).2::R)->K ((jG l n).1.1.getD (0,0)).1 ((jG l n).1.1.getD (0,0)).2 (jG l n).1.1.isSome (jG l n).1.2 w'):abv b.o n K w:=by
 apply ago;obtain⟨s,h⟩:=h.lines;unfold jG at hK;refine nk h (λe=>?_) (λx a e ha h0 hlt hx=>?_)
 .rw[e]at hK
  exact aW O (hK _ (Ow.eT (s:=s) h))
 .rw[e]at hK
  dsimp only at hK;refine aV O ?_;have hc:=h.cC.N1 (s:=s) (i:=n) (j:=n.toNat) om hx ha;refine⟨_,O,x.is,hc _ O,dW (λe1=>?_) (λe1=>?_)⟩
  .rw[Z e1]at hK
   refine⟨_,O,M9 h h0 hx ha λw h=>?_⟩;refine h.dr λw h=>?_;have hc:=h.cC.Po (s:=s) (i:=n) (j:=n.toNat) (x:={ x with is:=2}) om (by rw[SQ om]) ha;exact⟨_,O,_,hc 1 _ O,_,O,_,hc 2 _ O,hK w (Ow.eT (s:=s) h)⟩
  refine dW (λe2=>?_) (λe2=>?_)
  .rw[Y e1,Z e2]at hK
   refine⟨_,O,M9 h h0 hx ha λw h=>?_⟩;exact hK w (Ow.eT (s:=s) h)
  .rw[Y e1,Y e2]at hK
   exact hK _ (Ow.eT (s:=s) h)
theorem Jj{s:Sl}{xs:J Ln}{K:Sl->Pw}[ale:bG s L Ln E8 xs](h:Ow B w0 w L)(hbig:xs.length<=1000000)(hK:∀s' w',Ow B w0 w' (ag E8 s' xs::L)->K s' w'):aaz s K w:=by
 apply afs;exact ng (s:=s) (E:=E8) (xs:=xs) (zv:= .agg ⟨E8.enc ⟨0,0,0⟩⟩) akD (show qh.info? 316=X akg from by kernel_rfl) qa qa O qb h (by
  have e:akg.bytes=24:=qa
  rw[e];omega) hK
theorem zh{K:qg qf->Pw}(hl:l.length<=1000)(h:Ow B w0 w (bS b l::R))(hK:∀b' w',Ow B w0 w' (bS b' l::bS b l::R)->K b'.o w'):Zd b.o K w:=by
 apply agl;obtain⟨s,h⟩:=h.lines;refine⟨_,O,s,h.aE O,Jj (s:=s) h om λs' w h=>?_⟩;refine h.a λd w2 h=>?_;refine hK d _ (Ow.eT (s:=s') (Ow.sub (L:=bS b l::ae d [s'.v]::ag E8 s' l::R) ?_));exact Ow.eT (s:=s) h.sub
end
namespace Sl
def eM:dX (Slot × dB):=⟨8,λp=>[.z p.1.1,.z p.1.2,.z p.2.kind,.z p.2.obj,.z p.2.ar,.y p.2.aD,.y p.2.guard,.z p.2.bits],λ_=>rfl,λx v h=>by simp only[SH,TE,qG]at h;rcases h with rfl|rfl|rfl|rfl|rfl|rfl|rfl|rfl<;>rfl,qb⟩
theorem zK(x:U)(m:S)(hm:m<2^62):∃p:S,p<=m/\fE .i64 x (m:U)=(p:U):=by
 unfold fE;have e2:(2:S)^62=4611686018427387904:=qb
 have hle:(BitVec.ofInt qj.bits x &&& BitVec.ofInt qj.bits (m:U)).toNat<=m:=by
  rw[BitVec.toNat_and];refine SY Nat.and_le_right ?_;have:(BitVec.ofInt qj.bits (m:U)).toNat=m%2^64:=by simp[IntKind.bits,BitVec.toNat_ofInt]
  rw[this];exact Nat.mod_le _ _
 exact⟨_,hle,wr om om⟩
end Sl
namespace Tr
abbrev Slot:=U × U
abbrev fw:=Slot × U
abbrev bz(s:Sl):V:= s.v
def aZ:dX fw:=⟨3,λp=>[.z p.1.1,.z p.1.2,.z p.2],λ_=>rfl,λx v h=>by simp only[SH,TE,qG]at h;rcases h with rfl|rfl|rfl<;>rfl,qb⟩
def aK:dX Slot:=⟨2,λp=>[.z p.1,.z p.2],λ_=>rfl,λx v h=>by simp only[SH,TE,qG]at h;rcases h with rfl|rfl<;>rfl,qb⟩
theorem Kz{w:W}{a:qf}{x:fw}{f:U->U->U->Prop}(g:∀c v,(aZ.enc x)[c]?=X v->w.cell? (a.add c)=X v)(hf:f x.1.1 x.1.2 x.2):hI w a 0 [.o,.o,.o] f:=⟨_,g 0 _ O,_,g 1 _ O,_,g 2 _ O,hf⟩
theorem l0{w:W}{a:qf}{x:Slot}{f:U->U->Prop}(g:∀c v,[Value.z x.1,Value.z x.2][c]?=X v->w.cell? (a.add c)=X v)(hf:f x.1 x.2):hI w a 0 [.o,.o] f:=⟨_,g 0 _ O,_,g 1 _ O,hf⟩
theorem P1(a c:Slot):rC qh 9 155 [.z a.1,.z a.2] [.z c.1,.z c.2]=X (qe (a=c)):=by
 have h:rC qh 9 155 [.z a.1,.z a.2] [.z c.1,.z c.2]=X (a.1==c.1&&(a.2==c.2&&G)):=qa
 rw[h];congr 1;rw[Bool.eq_iff_iff];simp only[Bool.and_true,Bool.and_eq_true,qN,qF];cases a;cases c;simp only[Prod.mk.injEq]
theorem LF{x y:qD}(a c:Slot):LY qh .eql 155 x y (.agg #[.z a.1,.z a.2]) (.agg #[.z c.1,.z c.2]) (qe (a=c)):=JZ qa qa qa (P1 a c)
theorem iI:qh.info? 325=X akE:=qa
theorem uz:akE.bytes=24:=qa
def yU:fw:=((0,0),0)
theorem LS(w:W):(qK 325).run qh w= .ok (.agg ⟨aZ.enc yU⟩) w:=zeroValue325 w
def eC{α:Type}(p:α->I)(xs:J α):U:=match xs.findIdx? p with|some i=>(i:U)|none=> -1
section
variable{B:S}{w0 w:W}{R L:J aG}{s:Sl}{xs:J fw}
theorem wW{p:fw->I}{f:V}{K:U->Pw}[ale:bG s L fw aZ xs](h:Ow B w0 w L)(hbig:xs.length<=1000000000)
  (hf:∀(y:fw)(w:W)(alf:I->Pw),Ow B w0 w L->(∀w',Ow B w0 w' L->alf (p y) w')->fP qh f [.agg #[.z y.1.1,.z y.1.2,.z y.2]] w λen w'=>∃r:I,en= .returned (.bool r)/\alf r w')
  (hK:∀w',Ow B w0 w' L->K (eC p xs) w'):ab9 s f K w:=by
 apply afB;have hlen:=h.aF s;intro l hl;have loop:∀(rest:J fw)(j:S)(w:W),xs.drop j=rest->j<=xs.length->(∀i,i<j->∀y,xs[i]?=X y->p y=qd)->Ow B w0 w L->l (j:U) w:=by
  intro rest;induction rest with
  |nil=>
   intro j w hj hjl hno h;have:xs.length<=j:=by have:=qz TO hj;simp at this;omega
   apply hl;refine av om ?_;have hn:xs.findIdx? p=none:=by rw[Tt];intro y hy;obtain⟨i,hi⟩:=Tg.1 hy;exact hno i (by have:=(Sz.1 hi).1;omega) y hi
   have e:eC p xs= -1:=by unfold eC;rw[hn]
   rw[<-e];exact hK _ h
  |cons y rest ih=>
   intro j w hj hjl hno h;have hjl2:j<xs.length:=by have:=qz TO hj;simp at this;omega
   have hx:xs[j]?=X y:=by have:=qz (λl=>l[0]?) hj;simpa using this
   apply hl;refine az om ?_;refine h.cd O hx λa ha h0 hc=>?_;refine Kz hc ?_;refine hf y w _ h λw h=>?_;cases hp:p y with
   |true=>
    refine aW O ?_;have hn:xs.findIdx? p=X j:=by
     rw[Tc];refine⟨hjl2,?_,λi hi=>?_⟩
     .rw[gE hjl2]at hx;cases hx;exact hp
     .have:=hno i hi xs[i] (gE om)
      simp[this]
    have e:eC p xs=(j:U):=by unfold eC;rw[hn]
    rw[<-e];exact hK _ h
   |false=>
    refine aV O ?_;rw[wr om om];refine ih (j+1) w (by rw[<-TK,hj];rfl) om (λi hi z hz=>?_) h;by_cases e:i=j
    .subst e;rw[hx]at hz;cases hz;exact hp
    .exact hno i om z hz
 exact loop xs 0 w O om (λi hi=>by omega) h
theorem zO{y:fw}{c:S}{k:Sl->Pw}[ale:bG s L fw aZ xs][ak8:eL (ag aZ s xs) L R](h:Ow B w0 w (ae c (aZ.enc y)::L))(hbig:xs.length<=1000000000)
  (hk:∀s' w',s'.len=xs.length+1->Ow B w0 w' (ag aZ s' (xs++ [y])::R)->k s' w'):
  ∃s' w',dO qh [235,235] 235 s.v (.slice (X c.p) 1 1) w s' w'/\k s' w':=
 Ow.eZ (E:=aZ) (y:=y) qT iI (zv:= .agg ⟨aZ.enc yU⟩) qa qa O qb h (by rw[uz];omega) hk
theorem ky{ys:J Slot}{y:Slot}{c:S}{k:Sl->Pw}[ale:bG s L Slot aK ys][ak8:eL (ag aK s ys) L R](h:Ow B w0 w (ae c (aK.enc y)::L))(hbig:ys.length<=1000000000)
  (hk:∀s' w',s'.len=ys.length+1->Ow B w0 w' (ag aK s' (ys++ [y])::R)->k s' w'):
  ∃s' w',dO qh [124,124] 124 s.v (.slice (X c.p) 1 1) w s' w'/\k s' w':=
 Ow.eZ (E:=aK) (y:=y) aj8 (show qh.info? 155=X qY from by kernel_rfl) (zv:= .agg ⟨aK.enc (0,0)⟩) qa qa O qb h (by
  have e:qY.bytes=16:=qa
  rw[e];omega) hk
theorem mH{α:Type}{xs:J α}{i j:S}{z:α}(hij:i<j)(hj:j<=xs.length):
  Wx (i+(xs.length-j)) (Wx (i+(xs.length-j)) (xs.take i++xs.drop j++xs.drop (i+(xs.length-j)))++SB ((xs.take i++xs.drop j++xs.drop (i+(xs.length-j))).length-(i+(xs.length-j))) z)=xs.take i++xs.drop j:=by
 have hl2:(xs.take i++xs.drop j).length=i+(xs.length-j):=by simp;omega
 rw[T8 (by simp;omega),U1,Wj,<-hl2,U0]
theorem Cw{i j:S}{K:Sl->Pw}(h:Ow B w0 w (ag aZ s xs::R))(hij:i<j)(hj:j<=xs.length)(hbig:xs.length<=1000000000)
  (hK:∀s' w',Ow B w0 w' (ag aZ s' (xs.take i++xs.drop j)::R)->K s' w'):Yb s (i:U) (j:U) K w:=by
 apply afO;have hlen:=h.aF s;have hcap:=h.lF.ga;refine⟨om,om,om,om,om,om,jk om (h.dr λw h=>?_)⟩;refine⟨om,om,om,om,a2 ?_⟩;simp only[SD];refine h.xk (E:=aZ) qT iI qa om hj om λw h=>?_;dsimp only;refine⟨om,om,om,om,Ow.clear (E:=aZ) (z0:=yU) (n:=i+(xs.length-j)) qT LS O h 0 O (by simp;omega) λw h=>?_⟩;have hp:=h.pre 0 O (n:=i+(xs.length-j)) (by simp;omega);refine hK _ w ?_;rw[mH hij hj]at hp;exact hp
theorem Ht{b:S}{ys:J fw}{x:Sl}{k:Sl->Pw}(h:Ow B w0 w (ag aZ ⟨X b.p,0,0⟩ []::L))(hx:lP aZ.z w x (ys.flatMap aZ.enc))(hxl:x.len=ys.length)(hbig:ys.length<=1000000000)
  (hk:∀s' w',Ow B w0 w' (ag aZ s' ys::L)->k s' w'):
  ∃s' w',dO qh [235,235] 235 (.slice (X b.p) 0 0) x.v w s' w'/\k s' w':=
 Ow.app (s:=⟨X b.p,0,0⟩) (xs:=[]) (ys:=ys) qT iI (zv:= .agg ⟨aZ.enc yU⟩) qa qa O qb h 0 O hx hxl (by rw[uz,List.length_nil];omega) λs' w' _ h=>hk s' w' h
theorem Eo{K:Sl->Pw}[ale:bG s L fw aZ xs](h:Ow B w0 w L)(hbig:xs.length<=1000000000)(hK:∀s' w',Ow B w0 w' (ag aZ s' xs::L)->K s' w'):aax s K w:=by
 apply afq;have hlen:=h.aF s;cases hn:s.a with
 |none=>
  refine aW O ?_;have hx:xs= []:=by
   cases xs with
   |nil=>rfl
   |cons x xs=>obtain⟨_,_,ha,_⟩:=h.get ale.i ale.at_ (j:=0) (x:=x) O;rw[hn]at ha;cases ha
  subst hx;exact hK _ w (Ow.cB h)
 |some a=>
  refine aV O ?_;refine h.a λb w' h=>?_;have h2:Ow B w0 w' (ag aZ ⟨X b.p,0,0⟩ []::L):=Ow.empty h;have hx2:=h2.tX (ale.i+1) (by simpa using ale.at_)
  (try rw[<-hn])
  exact Ht h2 hx2 hlen hbig λs' w h=>hK _ w h
theorem Kl{α:Type}{xs:J α}{i:S}{y z:α}(hi:i<xs.length):
  (((xs.take i++SB (xs.length+1-i) z).take i++ [y]++(xs.take i++SB (xs.length+1-i) z).drop (i+ [y].length)).take (i+1)++xs.drop i++((xs.take i++SB (xs.length+1-i) z).take i++ [y]++(xs.take i++SB (xs.length+1-i) z).drop (i+ [y].length)).drop (i+1+(xs.drop i).length))=xs.take i++ [y]++xs.drop i:=by
 have h1:(xs.take i).length=i:=by simp;omega
 have h2:(xs.take i++SB (xs.length+1-i) z).take i=xs.take i:=by rw[T8 om,SE om]
 have h3:(xs.take i++ [y]:J α).length=i+1:=by simp;omega
 rw[h2];generalize hX:(xs.take i++SB (xs.length+1-i) z).drop (i+ [y].length)=ak7;have hXl:ak7.length=xs.length-i:=by rw[<-hX];simp;omega
 have h4:(xs.take i++ [y]++ak7).drop (i+1+(xs.drop i).length)= []:=List.drop_eq_nil_of_le (by rw[SG,h3,hXl];simp);rw[h4,SL,T8 om,SE om]
theorem HO{α:Type}(E:dX α){xs:J α}{i:S}{y:α}(hi:i<xs.length){junk:J V}(hj:junk.length=1*E.z):
  putAt (putAt (xs.flatMap E.enc++junk) ((i+1)*E.z) ((xs.drop i).flatMap E.enc)) (i*E.z) (E.enc y)=(xs.take i++ [y]++xs.drop i).flatMap E.enc:=by
 have hF:=aO E xs;have hD:((xs.drop i).flatMap E.enc).length=(xs.length-i)*E.z:=by rw[aO,UK]
 have hT:((xs.take i).flatMap E.enc).length=i*E.z:=by rw[aO,List.length_take,TL om]
 have hsplit:xs.flatMap E.enc=(xs.take i).flatMap E.enc++(xs.drop i).flatMap E.enc:=by rw[<-Tp,Tl]
 have hEy:=E.len y;have e1:xs.length*E.z=i*E.z+(xs.length-i)*E.z:=by rw[<-Nat.add_mul];congr 1;omega
 have hl1:(putAt (xs.flatMap E.enc++junk) ((i+1)*E.z) ((xs.drop i).flatMap E.enc)).length=xs.length*E.z+E.z:=by rw[rl (by rw[SG,hF,hj,hD,UM];omega),SG,hF,hj];omega
 rw[Tp,Tp,List.flatMap_cons,List.flatMap_nil,SL];generalize hA:(xs.take i).flatMap E.enc=A at*
 generalize hB:(xs.drop i).flatMap E.enc=D at*
 generalize E.enc y=ala at*
 rw[hsplit]at hl1|-;apply Td;intro t;rw[dF _ _ _ _ om];rw[dF _ _ _ _ (by rw[SG,SG,hj,hD,hT,UM];omega)];rw[UM];by_cases c1:i*E.z<=t/\t<i*E.z+ala.length
 .rw[Z c1,S6,SP om,SM om,hT]
 .rw[Y c1]
  by_cases c2:i*E.z+E.z<=t/\t<i*E.z+E.z+D.length
  .rw[Z c2,SP (by rw[SG];omega),SG,hT,hEy]
  .rw[Y c2]
   by_cases c3:t<i*E.z
   .rw[S6,SM om,S6,SM om]
   .rw[SZ (by rw[SG,SG];omega),SZ (by rw[SG,SG];omega)]
theorem Cz{i c:S}{y:fw}{K:Sl->Pw}(h:Ow B w0 w (ag aZ s xs::ae c (aZ.enc y)::R))(hi:i<=xs.length)(hbig:xs.length<=1000000000)
  (hK:∀s' w',Ow B w0 w' (ag aZ s' (xs.take i++ [y]++xs.drop i)::R)->K s' w'):Ya s (i:U) ⟨X c.p,1,1⟩ K w:=by
 apply afN;have hlen:=h.aF s;have hcap:=h.lF.ga;refine⟨om,om,aV O (dW (λe=>?_) (λe=>?_))⟩
 .obtain rfl:i=xs.length:=om
  refine zO h.cC hbig λs' w hs' h=>?_;rw[List.take_length,List.drop_length,SL]at hK;exact hK s' w h
 have hil:i<xs.length:=om
 dsimp only;have hspot:=h.lF.spot;have hdl:(xs.drop i).length=xs.length-i:=by simp
 rw[show qj.wrap ((s.len:U)+((1:S):U))=((xs.length+1:S):U)from by rw[wr om om];omega,
  show qj.wrap ((i:U)+((1:S):U))=((i+1:S):U)from by rw[wr om om];omega]
 obtain⟨b,o,ha,hcells⟩:=h.get 0 O (gE hil);have hsrc:∀w,Ow B w0 w (ag aZ s xs::ae c (aZ.enc y)::R)->∀j v,((xs.drop i).flatMap aZ.enc)[j]?=X v->w.cell? ((Addr.mk b (o+i*3) Q).add j)=X v:=λw h j v hv=>by
  have hs:=h.lF;have hj:(xs.flatMap aZ.enc)[i*3+j]?=X v:=by
   have e1:xs.flatMap aZ.enc=(xs.take i).flatMap aZ.enc++(xs.drop i).flatMap aZ.enc:=by rw[<-Tp,Tl]
   have e2:((xs.take i).flatMap aZ.enc).length=i*3:=by rw[aO];show(xs.take i).length*3=_;simp;omega
   rw[e1,SP om,e2,UQ];exact hv
  obtain⟨b',o',ha',hc'⟩:=hs.cell hj;rw[ha]at ha';simp only[Option.some.injEq,Addr.mk.injEq,and_true]at ha';rw[aL,ha'.1,ha'.2,UN];exact hc'
 have hsrcY:∀w L,Ow B w0 w (ae c (aZ.enc y)::L)->∀j v,(([y]:J fw).flatMap aZ.enc)[j]?=X v->w.cell? (c.p.add j)=X v:=λw L h j v hv=>by
  have:([y]:J fw).flatMap aZ.enc=aZ.enc y:=by simp
  rw[this]at hv;rw[aL,SS,(h.yX 0 O).cell];exact hv
 refine bh (λe2=>?_) (λe2=>?_)
 .refine ⟨om,om,?_⟩
  rw[show qj.wrap (((xs.length+1:S):U)-(i:U))=((xs.length+1-i:S):U)from by rw[wr om om];omega,SD];refine Ow.Ql (E:=aZ) (z0:=yU) (i:=i) (m:=xs.length+1-i) qT qC iI (zv:= .agg ⟨aZ.enc yU⟩) qa qa O qb h om om om (by rw[uz];omega) λt w ht htc h=>?_;obtain⟨b2,o2,ha2,_⟩:=h.get 0 O (gE (show i<(xs.take i++SB (xs.length+1-i) yU).length by simp;omega));refine⟨om,om,?_⟩;rw[iU (z:=3) ha2 (show t.cap≠i by omega)];refine Ow.Gl (E:=aZ) (p:=i) (zs:=[y]) qT iI qa h ha2 (by simp;omega) (by simp;omega) (hsrcY w _ h.lI) λw h=>?_;refine h.dr λw h=>?_;refine⟨om,om,om,om,Go.Vc.a2 ?_⟩;rw[SD,iU (z:=3) ha2 (show t.cap≠i+1 by omega),iU (z:=3) ha (show s.cap≠i by omega)];refine Ow.Gl (E:=aZ) (p:=i+1) (zs:=xs.drop i) qT iI qa h ha2 (by simp;omega) (by simp;omega) (hsrc w h.drop) λw h=>?_;rw[Kl hil]at h;exact hK _ w h.vI.vI
 .obtain ⟨junk,hj,h⟩:=h.grow (m:=1) om ha
  have h:Ow B w0 w (Jf 3 ⟨s.a,xs.length+1,s.cap⟩ (xs.flatMap aZ.enc++junk)::ae c (aZ.enc y)::R):=h;have e0:Vc.mn s.a 0 s.cap 3=s.a:=IN _ _ _ hspot;have hF:(xs.flatMap aZ.enc).length=xs.length*3:=aO aZ xs;simp only[e0,Nat.sub_zero,SD];rw[iU (z:=3) ha (show s.cap≠i+1 by omega),iU (z:=3) ha (show s.cap≠i by omega)];refine⟨om,om,om,om,qd,w,?_,?_⟩
  .exact h.cC.overlaps func433 qa qa qa (tS:=235) (tR:=4) qa qT (size:=3) (λw=>by rw[gv iI w];rfl) ha (by intro hn;have:=qz TO hn;rw[SG,hF,hj]at this;simp at this;omega)
  refine aW O ?_;refine h.dr λw h=>?_;refine⟨om,om,om,om,Go.Vc.a2 ?_⟩;refine h.JT (z:=3) (p:=i+1) (ds:=(xs.drop i).flatMap aZ.enc) qT iI qa ha (by
   have:=aO aZ (xs.drop i);have hz:aZ.z=3:=rfl;rw[this,hz,hdl];congr 1;omega) (λv hv=>by
   obtain⟨x,_,hx⟩:=List.mem_flatMap.1 hv;exact aZ.one x v hx) (by rw[SG,hF,hj];show _<=xs.length*3+1*3;omega) (λj v hv=>by
   have hs:lP 3 w ⟨s.a,xs.length+1,s.cap⟩ (xs.flatMap aZ.enc++junk):=h.head λ_ h=>h.2;have hjj:(xs.flatMap aZ.enc++junk)[i*3+j]?=X v:=by
    have e1:xs.flatMap aZ.enc=(xs.take i).flatMap aZ.enc++(xs.drop i).flatMap aZ.enc:=by rw[<-Tp,Tl]
    have e2:((xs.take i).flatMap aZ.enc).length=i*3:=by rw[aO];show(xs.take i).length*3=_;simp;omega
    have hjl:=(Sz.1 hv).1;rw[e1,S6,SP om,e2,UQ,SM hjl];exact hv
   obtain⟨b',o',ha',hc'⟩:=hs.cell hjj;have ha':s.a=X ⟨b',o',Q⟩:=ha';rw[ha]at ha';simp only[Option.some.injEq,Addr.mk.injEq,and_true]at ha';rw[aL,ha'.1,ha'.2,UN];exact hc') λw h=>?_
  refine⟨om,om,?_⟩;refine h.JT (z:=3) (p:=i) (ds:=aZ.enc y) qT iI qa ha (by
   rw[aZ.len];show 3=_;rw[TL (by show 1<=_;omega)]<;>rfl) (λv hv=>aZ.one y v hv) (by
   have hD:((xs.drop i).flatMap aZ.enc).length=(xs.length-i)*3:=by rw[<-hdl];exact aO aZ _
   rw[rl (by rw[SG,hF,hj,hD];show _<=xs.length*3+1*3;omega),SG,hF,hj];show _<=xs.length*3+1*3;omega) (λj v hv=>by
   rw[aL,SS,(h.yX 1 O).cell];exact hv) λw h=>?_
  have h2:Ow B w0 w (ag aZ ⟨s.a,xs.length+1,s.cap⟩ (xs.take i++ [y]++xs.drop i)::ae c (aZ.enc y)::R):=Ow.QX (by simp;omega) (HO aZ hil hj) h;exact hK _ w h2.vI
end
end Tr
def adH{a K w}:=ah (Zj a K w) func95 .Mz
def agL{a K w}:=ah (Zu a K w) func106 .g16
def agM{a K w}:=ah (aaT a K w) func226 (.v .w)
def agN{a b c K w}:=ah (abQ a b c K w) func297 (.v (.y (.v (.x (.t (X [(15,.c (.i .i64))]) (.v (.y .w (.x (.x (.v (.y (.z (.o 1 9 (.o 3 5 (.hold 0 52 63 (.e 2 (.e 4 (.e 5 (.e 6 .done)))))))) (.x .w))))))) .u))) .w))
def agO{a b c d e K w}:=ah (abS a b c d e K w) func299 (.v (.y (.y (.r (X [(25,.c .b)]) (.o 0 254 (.o 1 48 (.o 2 48 (.o 4 8 (.hold 5 8 4193855 (.e 3 (.e 6 (.e 7 (.e 8 (.o 9 0 (.o 10 0 (.o 11 983040 (.o 12 983040 (.o 13 983040 (.o 14 983040 (.o 15 983040 (.o 16 0 (.o 17 0 (.o 18 0 (.o 19 0 (.o 20 0 (.o 21 0 .done))))))))))))))))))))))) (.t (X []) .u .u)) .Qt))
def agP{a b c K w}:=ah (abU a b c K w) func301 (.v .w)
def agQ{a b c d e K w}:=ah (acP a b c d e K w) func369 (.v .w)
def agR{a K w}:=ah (acQ a K w) func370 (.v .w)
def agS{a K w}:=ah (acR a K w) func371 (.v .w)
def agT{a b K w}:=ah (acU a b K w) func374 (.v (.v (.v .w)))
def agU{a b K w}:=ah (adn a b K w) func414 (.v .w)
def agV{a b c d e K w}:=ah (ado a b c d e K w) func415 (.v .w)
def agW{a b c d e K w}:=ah (adp a b c d e K w) func416 (.v .w)
def agX{a b c d e K w}:=ah (adr a b c d e K w) func418 (.v .w)
def agY{K w}:=ah (YC K w) func36 (.v .w)
def agZ{a K w}:=ah (Zb a K w) func81 (.v .w)
def ag0{a b c K w}:=ah (ZI a b c K w) func121 (.v (.y (.v (.x .w)) (.y (.z (.o 0 510 (.o 1 224 (.o 2 224 (.o 3 224 (.o 4 224 (.o 5 0 (.o 6 0 (.e 7 (.e 8 .Kb)))))))))) .w)))
def ag1{a b c K w}:=ah (aaX a b c K w) func231 (.v .w)
def ag2{a K w}:=ah (WJ a K w) func245 (.v (.v (.y (.v (.x (.t (X [(3,.c .s),(8,.c (.i .i64))]) .xw .u))) .w)))
def ag3{a b c d e K w}:=ah (abg a b c d e K w) func255 (.v (.v (.y .C6 (.y .Rt .w))))
def ag4{a b c K w}:=ah (XZ a b c K w) func257 (.v (.v (.y (.v (.x .w)) (.x (.z (.o 0 496 (.o 1 496 (.o 2 496 (.o 4 456 (.o 5 456 (.o 6 136 (.o 7 8 (.hold 3 256 3071 .P8)))))))))))))
def ag5{a b c d K w}:=ah (aca a b c d K w) func320 (.v .w)
def ag6{a b c d e K w}:=ah (acp a b c d e K w) func340 (.v (.v (.y .C6 (.y (.z (.o 0 1048574 (.o 1 524256 (.o 2 524256 (.o 3 524256 (.o 4 524256 (.o 5 524160 (.o 6 524160 (.o 7 130816 (.o 8 4096 (.o 9 4096 (.o 10 4096 (.o 11 4096 (.o 12 0 (.o 13 0 (.o 14 0 (.o 15 0 (.o 16 0 (.o 17 0 (.e 18 (.e 19 (.o 20 0 (.o 21 0 (.e 22 .done)))))))))))))))))))))))) .w))))
def ag7{a b c K w}:=ah (acs a b c K w) func343 (.v (.v (.y (.v (.x .w)) (.y (.z (.o 0 496 (.o 1 496 (.o 2 496 (.o 4 456 (.o 5 456 (.o 6 136 (.o 7 8 (.hold 3 256 2047 (.e 8 (.o 9 0 (.o 10 0 .done)))))))))))) (.y (.v (.x (.t (X [(25,.c (.i .i64))]) .xw .u))) (.v .w))))))
def ag8{a b K w}:=ah (acy a b K w) func349 (.v (.v (.y (.x (.t (X [(5,.c (.i .i64))]) (.y (.y (.z (.o 0 62 (.o 1 0 (.o 2 0 (.o 3 0 (.o 4 0 (.o 5 0 (.o 6 0 (.o 7 0 (.o 8 16715776 (.o 9 16715776 (.o 10 16715776 (.o 11 16715776 (.o 12 16711680 (.o 13 16711680 (.o 14 16711680 (.o 15 16711680 (.o 16 1048576 (.o 17 1048576 (.o 18 1048576 (.o 19 1048576 (.o 20 0 (.o 21 0 (.o 22 0 (.o 23 0 (.o 24 0 (.o 25 0 .done))))))))))))))))))))))))))) .w) .w) .u)) .w)))
namespace Tr
abbrev Tr:=J fw
def bM(T:Tr)(s:Slot):qg S:=T.findIdx? λx=>qe (x.1=s)
def xt(T:Tr)(i:S):U:=match T[i]? with|some x=>x.2|none=>0
def eJ(T:Tr)(i:S):S:=i+1+((T.drop (i+1)).takeWhile λx=>qe (xt T i<x.2)).length
def Ed:U->Tr->Prop
 |_,[]=>qu
 |p,x::T=>0<=x.2/\x.2<=p+1/\Ed x.2 T
structure rP(T:Tr):Prop where
 fu:T.length<=1000000
 wf:Ed (-1) T
 nd:(T.map (·.1)).Nodup
def pC(T:Tr)(s:Slot):U × Tr:=match bM T s with|some _=>(70,T)|none=>(0,T++ [(s,0)])
def A7(T:Tr)(p s:Slot):U × Tr:=match bM T p with
 |none=>(71,T)
 |some i=>match bM T s with|some _=>(70,T)|none=>(0,T.take (i+1)++ [(s,xt T i+1)]++T.drop (i+1))
def fF(l:Tr):Tr:=l.map λx=>(x.1,x.2-1)
def takeN(T:Tr)(s:Slot):U × Tr:=match bM T s with
 |none=>(71,T)
 |some i=>(0,T.take i++(fF ((T.drop (i+1)).take (eJ T i-(i+1)))++T.drop (eJ T i)))
def eP(T:Tr)(f t:Slot):U × Tr:=match bM T f with
 |none=>(71,T)
 |some i=>match bM T t with|some _=>(70,T)|none=>(0,T.set i (t,xt T i))
def cY(T:Tr)(s:Slot):J Slot:=match bM T s with
 |none=>[]
 |some i=>((T.drop (i+1)).take (eJ T i-(i+1))).map (·.1)
theorem G5:∀(T:Tr)(p:U)(i:S)(x:fw),-1<=p->Ed p T->T[i]?=X x->0<=x.2/\x.2<=p+1+(i:U)
 | [],_,i,x,_,_,h=>by simp at h
 |y::T,p,0,x,hp,hw,h=>by simp only[TI,Option.some.injEq]at h;subst h;exact⟨hw.1,by have:=hw.2.1;omega⟩
 |y::T,p,i+1,x,hp,hw,h=>by rw[SR]at h;have h1:=hw.1;have h2:=hw.2.1;have:=G5 T y.2 i x om hw.2.2 h;omega
theorem rP.zr{T:Tr}(h:rP T){i:S}{x:fw}(hx:T[i]?=X x):0<=x.2/\x.2<=1000000:=by have h1:=G5 T (-1) i x om h.wf hx;have h2:=(Sz.1 hx).1;have h3:=h.fu;omega
theorem dZ{T:Tr}{s:Slot}{i:S}(h:bM T s=X i):∃x,T[i]?=X x/\x.1=s:=by unfold bM at h;obtain⟨h1,h2,_⟩:=Tc.1 h;exact⟨T[i],gE h1,by simpa using h2⟩
theorem sw{T:Tr}{s:Slot}(h:bM T s=Q):∀x∈T,x.1≠s:=by unfold bM at h;rw[Tt]at h;intro x hx;simpa using h x hx
theorem iF{T:Tr}{i:S}{x:fw}(h:T[i]?=X x):xt T i=x.2:=by unfold xt;rw[h]
theorem uA(T:Tr){i:S}(hi:i<T.length):i<eJ T i/\eJ T i<=T.length:=by unfold eJ;have:((T.drop (i+1)).takeWhile λx=>qe (xt T i<x.2)).length<=(T.drop (i+1)).length:=(List.takeWhile_sublist _).length_le;rw[UK]at this;omega
theorem HM(T:Tr)(s:Slot):eC (λx:fw=>qe (x.1=s)) T=match bM T s with|some i=>(i:U)|none=> -1:=rfl
def cg(b:S)(T:Tr):aG:=oA λs:Sl=>aQ [dw (rP T),ae b [bz s],ag aZ s T]
section
variable{B:S}{w0 w:W}{R L:J aG}{b:S}{T:Tr}
theorem _root_.Go.Vc.Ow.tree(h:Ow B w0 w (cg b T::R)):∃s,rP T/\Ow B w0 w (ag aZ s T::ae b [bz s]::R):=by obtain⟨s,h⟩:=h.ex;obtain⟨h1,h⟩:=Ow.pure h.star;exact⟨s,h1,Ow.cC h⟩
theorem _root_.Go.Vc.Ow.fM{s:Sl}(h1:rP T)(h:Ow B w0 w (ag aZ s T::ae b [bz s]::R)):Ow B w0 w (cg b T::R):=
 Ow.eu s (Ow.aR (Ow.cI h1 (Ow.cC h)))
theorem mu{K:qg qf->Pw}(h:Ow B w0 w R)(hK:∀b w',Ow B w0 w' (cg b []::R)->K b.o w'):YC K w:=by
 apply agY;refine h.al λw1 h=>?_;exact hK _ w1 (Ow.fM (s:=z0) ⟨qc,trivial,qc⟩ (Ow.cB h))
theorem fO{s:Sl}{x:Slot}{K:U->Pw}(hT:rP T)(h:Ow B w0 w (ag aZ s T::ae b [bz s]::R))(hK:∀w',Ow B w0 w' (ag aZ s T::ae b [bz s]::R)->K (match bM T x with|some i=>(i:U)|none=> -1) w'):
  aaX b.o x.1 x.2 K w:=by
 apply ag1;refine h.a λc w1 h=>?_;repeat first|refine h.l1 O ?_|refine fy ?_
 refine wW (L:=ae c [.z x.1,.z x.2]::ag aZ s T::ae b [bz s]::R) (xs:=T) (p:=λy=>qe (y.1=x)) h (by have:=hT.fu;omega) (λy w alf h hQ=>?_) λw h=>?_
 .refine aY ?_
  have hA:aca y.1.1 y.1.2 y.2 c.p alf w:=by
   apply ag5;repeat first|refine h.al λw h=>?_|refine h.aM O ?_
   exact⟨_,LF y.1 x,hQ _ h.sub⟩
  exact hA
 .rw[HM]
  exact hK _ h.sub
theorem yK{s:Sl}{i:S}{K:U->Pw}(hT:rP T)(hi:i<T.length)(h:Ow B w0 w (ag aZ s T::ae b [bz s]::R))(hK:∀w',Ow B w0 w' (ag aZ s T::ae b [bz s]::R)->K ((eJ T i:S):U) w'):
  acy b.o (i:U) K w:=by
 apply ag8;have hlen:=h.aF s;have hfew:=hT.fu;obtain⟨xi,hxi⟩:∃x,T[i]?=X x:=⟨_,gE hi⟩
 intro l hl;have loop:∀(rest:Tr)(k:S)(w:W),T.drop k=rest->k<=T.length->i<k->k+(rest.takeWhile λx=>qe (xt T i<x.2)).length=eJ T i->Ow B w0 w (ag aZ s T::ae b [bz s]::R)->l (k:U) w:=by
  intro rest;induction rest with
  |nil=>
   intro k w hk hkl hik he h;have:T.length<=k:=by have:=qz TO hk;simp at this;omega
   apply hl;repeat first|refine h.dr λw h=>?_|refine h.l1 O ?_|refine fy ?_
   refine av om ?_;have:k=eJ T i:=by simpa using he
   rw[this];exact hK _ h
  |cons y rest ih=>
   intro k w hk hkl hik he h;have hkl2:k<T.length:=by have:=qz TO hk;simp at this;omega
   have hx:T[k]?=X y:=by have:=qz (λl=>l[0]?) hk;simpa using this
   apply hl;repeat first|refine h.dr λw h=>?_|refine h.l1 O ?_|refine fy ?_
   refine az om ?_;repeat first|refine h.l1 O ?_|refine fy ?_
   refine h.cd O hx λa ha h0 hc=>⟨_,hc 2 _ O,?_⟩
   repeat first|refine h.l1 O ?_|refine fy ?_
   refine h.cd O hxi λa ha h0 hc=>⟨_,hc 2 _ O,?_⟩
   refine bh (λe=>?_) (λe=>?_)
   .rw[wr om om]
    refine ih (k+1) _ (by rw[<-TK,hk];rfl) om om ?_ h;rw[VL (by rw[iF hxi];simpa using e)]at he;simp at he;omega
   .rw[VK (by rw[iF hxi];simpa using e)]at he
    have:k=eJ T i:=by simpa using he
    rw[this];exact hK _ h
 rw[wI i om];exact loop _ (i+1) w O om om O h
theorem rP.root{s:Slot}(hT:rP T)(hl:T.length<1000000)(h:bM T s=Q):rP (T++ [(s,0)]):=by
 refine⟨by simp;omega,?_,?_⟩
 .have:∀(T:Tr)(p:U),-1<=p->Ed p T->Ed p (T++ [(s,0)]):=by
   intro T;induction T with
   |nil=>intro p hp _;exact⟨qc,by show(0:U)<=p+1;omega,trivial⟩
   |cons x T ih=>intro p hp hw;exact⟨hw.1,hw.2.1,ih _ (by have:=hw.1;omega) hw.2.2⟩
  exact this T _ om hT.wf
 .rw[S0,S7,Uf,Ug]
  refine⟨hT.nd,qc,λa ha c hc=>?_⟩;simp only[Tf]at hc;subst hc;obtain⟨x,hx,rfl⟩:=Tj.1 ha;exact sw h x hx
theorem yI{s:Slot}{K:U->Pw}(hl:T.length<1000000)(h:Ow B w0 w (cg b T::R))(hK:∀w',Ow B w0 w' (cg b (pC T s).2::R)->K (pC T s).1 w'):ZI b.o s.1 s.2 K w:=by
 apply ag0;obtain⟨sl,hT,h⟩:=h.tree;unfold pC at hK;repeat first|refine h.al λw h=>?_|refine h.aM O ?_
 refine fO (x:=s) hT h.lI.lI λw h=>?_;cases hp:bM T s with
 |some i=>
  rw[hp]at hK;refine az (by show(i:U)>=0;omega) ?_;exact hK _ (Ow.fM hT h.Ll)
 |none=>
  rw[hp]at hK;refine av qb ?_;repeat first|refine h.al λw h=>?_|refine h.dr λw h=>?_|refine h.aM O ?_|refine h.l1 O ?_|refine fy ?_|refine _root_.Go.Vc.a2 ?_
  refine zO (xs:=T) (y:=(s,0)) h om λs' w hs' h=>?_;repeat first|refine fy ?_|refine _root_.Go.Vc.a2 ?_|refine h.jD O O λw h=>?_
  exact hK _ (Ow.fM (s:=s') (hT.root hl hp) h.sub)
theorem uh:∀(A:Tr)(p:U)(alf:Tr),Ed p (A++alf)↔Ed p A/\Ed (match A.getLast? with|some x=>x.2|none=>p) alf
 | [],p,alf=>by simp[Ed]
 |x::A,p,alf=>by
  simp only[T2,Ed,uh A x.2 alf];cases hA:A with
  |nil=>simp[Ed];constructor<;>(intro h;simp_all)
  |cons y A'=>
   rw[<-hA];have:(x::A).getLast?=A.getLast?:=by rw[hA];simp
   rw[this];have h2:∃z,A.getLast?=X z:=by rw[hA];exact⟨_,List.getLast?_eq_some_getLast qc⟩
   obtain⟨z,hz⟩:=h2;rw[hz];constructor
   .rintro ⟨h1,h2,h3,h4⟩;exact⟨⟨h1,h2,h3⟩,h4⟩
   .rintro ⟨⟨h1,h2,h3⟩,h4⟩;exact⟨h1,h2,h3,h4⟩
theorem Ee{p q:U}(hpq:p<=q):∀{T:Tr},Ed p T->Ed q T
 | [],_=>trivial
 |x::T,h=>⟨h.1,by have:=h.2.1;omega,h.2.2⟩
theorem Af{T:Tr}{i:S}{x:fw}(h:T[i]?=X x):(T.take (i+1)).getLast?=X x:=by rw[List.getLast?_take,Y om,show i+1-1=i from O,h];rfl
theorem rP.add{p s:Slot}{i:S}(hT:rP T)(hl:T.length<1000000)(hp:bM T p=X i)(h:bM T s=Q):rP (T.take (i+1)++ [(s,xt T i+1)]++T.drop (i+1)):=by
 obtain⟨x,hx,_⟩:=dZ hp;have hi:=(Sz.1 hx).1;have hr:=hT.zr hx;refine⟨by simp;omega,?_,?_⟩
 .have hw:=hT.wf
  have e:T=T.take (i+1)++T.drop (i+1):=(Tl _ _).symm;rw[e,uh,Af hx]at hw;rw[S6,uh,Af hx];refine⟨hw.1,?_⟩;rw[iF hx];exact⟨by show 0<=x.2+1;omega,VM _,Ee (by show x.2<=x.2+1;omega) hw.2⟩
 .have hn:=hT.nd
  have e:T=T.take (i+1)++T.drop (i+1):=(Tl _ _).symm;rw[e,S0]at hn;rw[S6,S0,S0];have hnot:s∉T.map (·.1):=λhm=>by obtain⟨y,hy,hys⟩:=Tj.1 hm;exact sw h y hy hys
  rw[e,S0,Tv,not_or]at hnot;rw[Ug]at hn|-;refine⟨hn.1,?_,λa ha c hc=>?_⟩
  .rw[S7,Uf,Wb,Tx]
   exact⟨hnot.2,hn.2.1⟩
  .rw[S7,Uf,Wb,SH]at hc
   rcases hc with rfl|hc
   .intro e;subst e;exact hnot.1 ha
   .exact hn.2.2 a ha c hc
theorem zD{p s:Slot}{K:U->Pw}(hl:T.length<1000000)(h:Ow B w0 w (cg b T::R))(hK:∀w',Ow B w0 w' (cg b (A7 T p s).2::R)->K (A7 T p s).1 w'):acp b.o p.1 p.2 s.1 s.2 K w:=by
 apply ag6;obtain⟨sl,hT,h⟩:=h.tree;unfold A7 at hK;repeat first|refine h.al λw h=>?_|refine h.aM O ?_
 refine fO (x:=p) hT h.yQ.yQ λw h=>?_;cases hp:bM T p with
 |none=>
  rw[hp]at hK;refine az qb ?_;exact hK _ (Ow.fM hT h.O6.Ll)
 |some i=>
  obtain⟨x,hx,hxp⟩:=dZ hp;have hr:=hT.zr hx;have hi:=(Sz.1 hx).1;rw[hp]at hK;refine av (by show ¬(i:U)<0;omega) ?_
  (refine h.aM O ?_)
  refine fO (x:=s) hT h λw h=>?_;cases hs:bM T s with
  |some j=>
   simp only[hs]at hK;refine az (by show(j:U)>=0;omega) ?_;exact hK _ (Ow.fM hT h.O6.Ll)
  |none=>
   simp only[hs]at hK;refine av qb ?_;repeat first|refine h.dr λw h=>?_|refine h.aM O ?_|refine h.l1 O ?_|refine fy ?_
   refine h.cd O hx λa ha h0 hc=>⟨_,hc 2 _ O,?_⟩
   rw[show qj.wrap (x.2+1)=xt T i+1 from by rw[iF hx,wr om om]];repeat first|refine h.al λw h=>?_|refine _root_.Go.Vc.a2 ?_
   show Ya sl (qj.wrap ((i:U)+1)) _ _ _;rw[wI i om];refine Cz (y:=(s,xt T i+1)) h.cC om om λs' w h=>?_;repeat first|refine fy ?_|refine _root_.Go.Vc.a2 ?_|refine h.jD O O λw h=>?_
   exact hK _ (Ow.fM (s:=s') (hT.add hl hp hs) h.O6.Ll)
theorem G6{s:Slot}:∀(T:Tr)(p:U)(i:S)(x:fw),T[i]?=X x->Ed p T->Ed p (T.set i (s,x.2))
 | [],_,_,_,h,_=>by simp at h
 |y::T,p,0,x,h,hw=>by simp only[TI,Option.some.injEq]at h;subst h;exact hw
 |y::T,p,i+1,x,h,hw=>⟨hw.1,hw.2.1,G6 T y.2 i x (by simpa using h) hw.2.2⟩
theorem Ay{α:Type}:∀(l:J α)(i:S)(s:α),l.Nodup->s∉l->(l.set i s).Nodup
 | [],_,_,_,_=>by simp
 |a::l,0,s,hn,hs=>by rw[Tu,Tx];exact⟨λh=>hs (List.mem_cons_of_mem _ h),(Tx.1 hn).2⟩
 |a::l,i+1,s,hn,hs=>by
  rw[S1,Tx];rw[SH,not_or]at hs;refine⟨λh=>?_,Ay l i s (Tx.1 hn).2 hs.2⟩;rcases List.mem_or_eq_of_mem_set h with h|h
  .exact (Tx.1 hn).1 h
  .exact hs.1 h.symm
theorem rP.move{f t:Slot}{i:S}(hT:rP T)(hp:bM T f=X i)(h:bM T t=Q):rP (T.set i (t,xt T i)):=by
 obtain⟨x,hx,_⟩:=dZ hp;refine⟨by rw[List.length_set];exact hT.fu,by rw[iF hx];exact G6 T _ i x hx hT.wf,?_⟩;rw[Vx];refine Ay _ _ _ hT.nd λhm=>?_;obtain⟨y,hy,hys⟩:=Tj.1 hm;exact sw h y hy hys
theorem OK{s:Sl}{xs:J fw}{i:S}{a:qf}{x:fw}{t:Slot}{k:Pw}(h:Ow B w0 w (ag aZ s xs::R))(hx:xs[i]?=X x)(ha:s.a=X a)(hk:∀w',Ow B w0 w' (ag aZ s (xs.set i (t,x.2))::R)->k w'):oy w (a.add ((i:U).toNat*3)) 0 [.z t.1,.z t.2] k:=by
 have hi:=(Sz.1 hx).1;have e:∀(y:fw)(w:W)(k:Pw),St w ((a.add ((i:U).toNat*3)).add 0) (.z t.1) (λw'=>St w' ((a.add ((i:U).toNat*3)).add 1) (.z t.2) k)->oy w (a.add ((i:U).toNat*3)) 0 [.z t.1,.z t.2] k:=λ_ _ _ h=>h;refine e x _ _ ?_;refine h.mT (x:=x) (c:=0) ((t.1,x.1.2),x.2) O hx ha O qb O λw h=>?_;refine h.mT (x:=((t.1,x.1.2),x.2)) (c:=1) (t,x.2) O (by rw[To,Z O,Z hi]) ha O qb O λw h=>?_;rw[Ul]at h;exact hk w h
theorem yH{f t:Slot}{K:U->Pw}(h:Ow B w0 w (cg b T::R))(hK:∀w',Ow B w0 w' (cg b (eP T f t).2::R)->K (eP T f t).1 w'):abg b.o f.1 f.2 t.1 t.2 K w:=by
 apply ag3;obtain⟨sl,hT,h⟩:=h.tree;unfold eP at hK;repeat first|refine h.al λw h=>?_|refine h.aM O ?_
 refine fO (x:=f) hT h.yQ.yQ λw h=>?_;cases hp:bM T f with
 |none=>
  rw[hp]at hK;refine az qb ?_;exact hK _ (Ow.fM hT h.O6.Ll)
 |some i=>
  obtain⟨x,hx,hxp⟩:=dZ hp;have hi:=(Sz.1 hx).1;rw[hp]at hK;refine av (by show ¬(i:U)<0;omega) ?_
  (refine h.aM O ?_)
  refine fO (x:=t) hT h λw h=>?_;cases hs:bM T t with
  |some j=>
   simp only[hs]at hK;refine az (by show(j:U)>=0;omega) ?_;exact hK _ (Ow.fM hT h.O6.Ll)
  |none=>
   simp only[hs]at hK;refine av qb ?_;repeat first|refine h.dr λw h=>?_|refine h.aM O ?_|refine h.l1 O ?_|refine fy ?_
   refine h.cd O hx λa ha h0 hc=>?_;refine Go.Vc.a2 ?_;refine OK (t:=t) h hx ha λw h=>?_;have hm:=hT.move hp hs;rw[iF hx]at hm hK;exact hK _ (Ow.fM (s:=sl) hm h.O6.Ll)
theorem rP.take{T:Tr}{s:Slot}{i:S}(hT:rP T)(hp:bM T s=X i):rP (T.take i++(fF ((T.drop (i+1)).take (eJ T i-(i+1)))++T.drop (eJ T i))):=by
 obtain⟨x,hx,_⟩:=dZ hp;have hi:=(Sz.1 hx).1;obtain⟨e1,e2⟩:=uA T hi;have hsub:(((T.take i++(fF ((T.drop (i+1)).take (eJ T i-(i+1)))++T.drop (eJ T i)))).map (·.1)).Sublist (T.map (·.1)):=by
  have h1:T=T.take i++(T.drop i):=(Tl _ _).symm;have h2:T.drop i=x::T.drop (i+1):=by rw[TB hi];rw[gE hi]at hx;cases hx;rfl
  have h3:T.drop (i+1)=(T.drop (i+1)).take (eJ T i-(i+1))++T.drop (eJ T i):=by have:=(Tl (eJ T i-(i+1)) (T.drop (i+1))).symm;rw[TK,show i+1+(eJ T i-(i+1))=eJ T i from by omega]at this;exact this
  have h4:(fF ((T.drop (i+1)).take (eJ T i-(i+1)))).map (·.1)=((T.drop (i+1)).take (eJ T i-(i+1))).map (·.1):=by unfold fF;rw[List.map_map];rfl
  rw[S0,S0,h4,<-S0,<-h3]
  conv=>rhs;rw[h1,h2]
  rw[S0,S7];exact(List.sublist_cons_self _ _).append_left _
 refine⟨?_,?_,List.Nodup.sublist hsub hT.nd⟩
 .have:=hsub.length_le
  rw[S9,S9]at this;have:=hT.fu;omega
 .
  have hw:=hT.wf;have h1:T=T.take i++(T.drop i):=(Tl _ _).symm;have h2:T.drop i=x::T.drop (i+1):=by rw[TB hi];rw[gE hi]at hx;cases hx;rfl
  have hd:=iF hx;have hend:eJ T i-(i+1)=((T.drop (i+1)).takeWhile λy=>qe (x.2<y.2)).length:=by unfold eJ;rw[hd];omega
  have hdrop:T.drop (eJ T i)=(T.drop (i+1)).dropWhile λy=>qe (x.2<y.2):=by
   have e:eJ T i=i+1+((T.drop (i+1)).takeWhile λy=>qe (x.2<y.2)).length:=by unfold eJ;rw[hd]
   rw[e,<-TK]
   conv=>lhs;rw[<-U3 (p:=λy:fw=>qe (x.2<y.2)) (l:=T.drop (i+1))]
   rw[WK (by rw[U3])]
  have htake:(T.drop (i+1)).take (eJ T i-(i+1))=(T.drop (i+1)).takeWhile λy=>qe (x.2<y.2):=by
   rw[hend]
   conv=>lhs;rw[<-U3 (p:=λy:fw=>qe (x.2<y.2)) (l:=T.drop (i+1))]
   rw[List.take_left' (by rw[U3])]
  rw[h1,h2,uh]at hw;rw[htake,hdrop,uh];refine⟨hw.1,?_⟩;obtain⟨_,hx0,hx1,hrest⟩:=hw;generalize (match(T.take i).getLast? with|some x=>x.2|none=> -1:U)=q at hx1|-;generalize T.drop (i+1)=D at hrest;have key:∀(D:Tr)(p:U),x.2<=p->Ed p D->Ed (p-1) (fF (D.takeWhile λy=>qe (x.2<y.2))++D.dropWhile λy=>qe (x.2<y.2)):=by
   intro D;induction D with
   |nil=>intro p _ _;exact trivial
   |cons y D ih=>
    intro p hp hw;by_cases e:x.2<y.2
    .rw[VL (by simpa using e),List.dropWhile_cons_of_pos (by simpa using e)]
     exact⟨by show 0<=y.2-1;omega,by show y.2-1<=p-1+1;have:=hw.2.1;omega,ih y.2 om hw.2.2⟩
    .rw[VK (by simpa using e),List.dropWhile_cons_of_neg (by simpa using e)]
     exact⟨hw.1,by show y.2<=p-1+1;omega,hw.2.2⟩
  exact Ee om (key D x.2 (VM _) hrest)
theorem Cc{s:Sl}{xs:Tr}{K:Sl->Pw}(hr:Rd aZ B w0 L s xs)(hbig:xs.length<=1000000)(h:Ow B w0 w L)(hK:∀s' w',Ow B w0 w' (ag aK s' (xs.map (·.1))::L)->K s' w'):WJ s K w:=by
 apply ag2;have hlen:=hr.len;intro l hl;have loop:∀(rest:Tr)(j:S)(o:Sl)(w:W),xs.drop j=rest->j<=xs.length->Ow B w0 w (ag aK o ((xs.take j).map (·.1))::L)->l o (j:U) w:=by
  intro rest;induction rest with
  |nil=>
   intro j o w hj hjl h;have:xs.length<=j:=by have:=qz TO hj;simp at this;omega
   apply hl;refine av om ?_;rw[SE this]at h;exact hK _ _ h
  |cons x rest ih=>
   intro j o w hj hjl h;have hjl2:j<xs.length:=by have:=qz TO hj;simp at this;omega
   have hx:xs[j]?=X x:=by have:=qz (λl=>l[0]?) hj;simpa using this
   apply hl;refine az om ?_;have hr2:Rd aZ B w0 (ag aK o ((xs.take j).map (·.1))::L) s xs:=hr.more;refine hr2.ix h O hx λa ha h0 hc=>?_;refine Kz hc ?_;refine h.al λw h=>?_;refine h.aB O O λw h=>?_;refine h.aM O ?_;refine h.al λw h=>?_;have h:=h.vI;refine ky (ys:=((xs.take j).map λy:fw=>y.1)) (y:=x.1) h (by simp;omega) λo' w ho' h=>?_;rw[wI j om];refine ih (j+1) o' w (by rw[<-TK,hj];rfl) om ?_;rw[SO,hx,S0];exact h
 exact loop xs 0 z0 w O om (Ow.cB h)
theorem yG{K:qg qf->Pw}(h:Ow B w0 w (cg b T::R))(hK:∀b' w',Ow B w0 w' (cg b' T::cg b T::R)->K b'.o w'):Zb b.o K w:=by
 apply agZ;obtain⟨sl,hT,h⟩:=h.tree;repeat first|refine h.l1 O ?_|refine fy ?_
 refine Eo (xs:=T) h (by have:=hT.fu;omega) λs' w h=>?_
 (refine h.al λw h=>?_)
 have h2:Ow B w0 _ (cg b T::_):=Ow.fM (s:=sl) hT h.yQ.yQ;have h3:Ow B w0 _ (cg _ T::_):=Ow.fM (s:=s') hT h2.lI.lI.cC;exact hK _ _ h3
theorem wo{s:Slot}{K:Sl->Pw}(h:Ow B w0 w (cg b T::R))(hK:∀s' w',Ow B w0 w' (ag aK s' (cY T s)::cg b T::R)->K s' w'):XZ b.o s.1 s.2 K w:=by
 apply ag4;obtain⟨sl,hT,h⟩:=h.tree;have hlen:=h.aF sl;have hcap:=h.lF.ga;have hfew:=hT.fu;unfold cY at hK;repeat first|refine h.al λw h=>?_|refine h.aM O ?_
 refine fO (x:=s) hT h.lI.lI λw h=>?_;cases hp:bM T s with
 |none=>
  rw[hp]at hK;refine az qb ?_;have h2:Ow B w0 w (cg b T::R):=Ow.fM (s:=sl) hT h.Ll;exact hK _ w (Ow.cB h2)
 |some i=>
  obtain⟨x,hx,hxp⟩:=dZ hp;have hi:=(Sz.1 hx).1;obtain⟨e1,e2⟩:=uA T hi;rw[hp]at hK;refine av (by show ¬(i:U)<0;omega) ?_;have ew:qj.wrap ((i:U)+1)=((i+1:S):U):=by rw[wr om om];omega
  have fin:∀w,Ow B w0 w (ag aZ sl T::ae b [bz sl]::R)->WJ ⟨Vc.mn sl.a (i+1) sl.cap 3,eJ T i-(i+1),sl.cap-(i+1)⟩ K w:=λw h=>by
   refine Cc (Rd.part (s:=sl) (xs:=T) (E:=aZ) (p:=i+1) (n:=eJ T i-(i+1)) om) (by simp;omega) h λs' w h=>?_;have h2:Ow B w0 w (cg b T::ag aK s' _::R):=Ow.fM (s:=sl) hT h.lI.lI;exact hK _ _ h2.cC
  have h:=h.Ll;repeat first|refine h.dr λw h=>?_|refine h.l1 O ?_|refine fy ?_|refine _root_.Go.Vc.a2 ?_
  refine yK hT hi h λw h=>?_
  (refine⟨h.aE O,?_⟩)
  show _/\_/\0<=qj.wrap ((i:U)+1)/\qj.wrap ((i:U)+1)<=_/\WJ ⟨Vc.mn sl.a (qj.wrap ((i:U)+1)).toNat sl.cap 3,_-(qj.wrap ((i:U)+1)).toNat,sl.cap-(qj.wrap ((i:U)+1)).toNat⟩ _ _/\qu;rw[ew];refine⟨om,om,om,by simp only[SD];omega,Go.Vc.a2 ?_⟩;exact fin w h
def ja(T:Tr)(i k:S):Tr:=T.take (i+1)++(fF ((T.drop (i+1)).take k)++T.drop (i+1+k))
theorem xC(T:Tr)(i k:S):(ja T i k).length=T.length:=by unfold ja fF;simp;omega
theorem KH{T:Tr}{i k j:S}(hk:k<=j):(ja T i k)[i+1+j]?=T[i+1+j]?:=by
 unfold ja fF;by_cases hl:i+1+k<=T.length
 .have h1:(T.take (i+1)).length=i+1:=by simp;omega
  have h2:(((T.drop (i+1)).take k).map λx:fw=>(x.1,x.2-1)).length=k:=by simp;omega
  rw[SP om,h1,SP om,h2,S8];congr 1;omega
 .rw[SZ (l:=T) om,SZ]
  simp;omega
theorem HU{T:Tr}{i k:S}{x:fw}(hx:T[i+1+k]?=X x):(ja T i k).set (i+1+k) (x.1,x.2-1)=ja T i (k+1):=by
 have hl:=(Sz.1 hx).1;unfold ja fF;have h1:(T.take (i+1)).length=i+1:=by simp;omega
 have h2:(((T.drop (i+1)).take k).map λx:fw=>(x.1,x.2-1)).length=k:=by simp;omega
 rw[Uy _ _ om,h1,Uy _ _ om,h2,show i+1+k-(i+1)-k=0 from by omega];have h3:T.drop (i+1+k)=x::T.drop (i+1+(k+1)):=by rw[TB hl];rw[gE hl]at hx;cases hx;rfl
 have h4:(T.drop (i+1)).take (k+1)=(T.drop (i+1)).take k++ [x]:=by rw[SO,S8,hx];rfl
 rw[h3,h4,Tu,S0,S6];rfl
theorem HV(T:Tr)(i:S):ja T i 0=T:=by unfold ja fF;simp
theorem yJ{s:Slot}{K:U->Pw}(h:Ow B w0 w (cg b T::R))(hK:∀w',Ow B w0 w' (cg b (takeN T s).2::R)->K (takeN T s).1 w'):acs b.o s.1 s.2 K w:=by
 apply ag7;obtain⟨sl,hT,h⟩:=h.tree;have hlen:=h.aF sl;have hcap:=h.lF.ga;have hfew:=hT.fu;unfold takeN at hK;repeat first|refine h.al λw h=>?_|refine h.aM O ?_
 refine fO (x:=s) hT h.lI.lI λw h=>?_;cases hp:bM T s with
 |none=>
  rw[hp]at hK;refine az qb ?_;exact hK _ (Ow.fM (s:=sl) hT h.Ll)
 |some i=>
  obtain⟨x,hx,hxp⟩:=dZ hp;have hi:=(Sz.1 hx).1;obtain⟨e1,e2⟩:=uA T hi;rw[hp]at hK;simp only at hK;refine av (by show ¬(i:U)<0;omega) ?_;have ew:qj.wrap ((i:U)+1)=((i+1:S):U):=by rw[wr om om];omega
  generalize hm:eJ T i-(i+1)=m at*
  have fin:∀(l:U->Pw),(∀(t15:U)(w16:W),(bif qe (t15<(m:U))then
    (∃a17:qf,Vc.mn sl.a (i+1) sl.cap 3=X a17/\0<=t15/\t15<(m:U)/\∃depth18:U,w16.cell? ((a17.add (t15.toNat*3)).add 2)=X (.z depth18)/\
     ∃a19:qf,Vc.mn sl.a (i+1) sl.cap 3=X a19/\0<=t15/\t15<(m:U)/\
     St w16 ((a19.add (t15.toNat*3)).add 2) (.z (qj.wrap (depth18-(1:U)))) λw20=>l (qj.wrap (t15+(1:U))) w20)
    else
    (∃a21:qf,X b.p=X a21/\∃l22:Sl,w16.cell? a21=X l22.v/\
     Yb l22 (i:U) (((i+1:S):U)) (λr23 w24=>∃a25:qf,X b.p=X a25/\St w24 a25 r23.v λw26=>K (0:U) w26) w16))->l t15 w16)->
    ∀w,Ow B w0 w (ag aZ sl T::ae b [bz sl]::R)->l 0 w:=λl hl w h=>by
   have loop:∀(n k:S)(w:W),k+n=m->Ow B w0 w (ag aZ sl (ja T i k)::ae b [bz sl]::R)->l (k:U) w:=by
    intro n;induction n with
    |zero=>
     intro k w hk h;obtain rfl:k=m:=om
     apply hl;refine av om ?_;repeat first|refine h.l1 O ?_|refine fy ?_
     refine Cw h om (by rw[xC];omega) (by rw[xC];omega) λs' w h=>?_;repeat first|refine fy ?_|refine h.jD O O λw h=>?_
     have hd:(ja T i k).take i++(ja T i k).drop (i+1)=T.take i++(fF ((T.drop (i+1)).take k)++T.drop (eJ T i)):=by
      have h1:(T.take (i+1)).length=i+1:=by simp;omega
      have h2:(ja T i k).take i=T.take i:=by unfold ja;rw[T8 om,U1,TL om]
      have h3:(ja T i k).drop (i+1)=fF ((T.drop (i+1)).take k)++T.drop (i+1+k):=by unfold ja;rw[WK h1]
      rw[h2,h3,show i+1+k=eJ T i from by omega]
     rw[hd]at h;have hok:=hT.take hp;rw[hm]at hok;exact hK _ (Ow.fM (s:=s') hok h)
    |succ n ih=>
     intro k w hk h;obtain⟨y,hy⟩:∃y,T[i+1+k]?=X y:=⟨_,gE om⟩
     have hy2:(ja T i k)[i+1+k]?=X y:=by rw[KH (SA _)];exact hy
     have hyr:=hT.zr hy;apply hl;refine az om ?_;obtain⟨a,a0,ha0,ha,he⟩:=h.NL (s:=sl) (E:=aZ) (xs:=ja T i k) (p:=i+1) (n:=m) (t:=k) (by rw[xC];omega) om;have he:a.add (k*3)=a0.add (((i+1+k:S):U).toNat*3):=by rw[SD];exact he
     obtain⟨_,hc⟩:=h.O0 (s:=sl) (E:=aZ) (i:=((i+1+k:S):U)) (j:=i+1+k) O hy2 ha0;have hc:w.cell? ((a0.add (((i+1+k:S):U).toNat*3)).add 2)=X (.z y.2):=hc 2 _ O;refine⟨a,ha,om,om,y.2,?_,a,ha,om,om,?_⟩
     .rw[SD,he];exact hc
     .rw[SD,he,wr om om]
      refine h.mT (E:=aZ) (x:=y) (c:=2) (y.1,y.2-1) O hy2 ha0 O qb O λw h=>?_;rw[HU hy]at h;rw[wI k om];exact ih (k+1) w om h
   exact loop m 0 w om (by rw[HV];exact h)
  have h:=h.Ll;repeat first|refine h.dr λw h=>?_|refine h.l1 O ?_|refine fy ?_|refine _root_.Go.Vc.a2 ?_
  refine yK hT hi h λw h=>?_
  (refine⟨h.aE O,?_⟩)
  dsimp only;rw[ew];refine⟨om,om,om,by simp only[SD];omega,?_⟩;intro l hl;subst hm;exact fin l hl w h
end
end Tr
def ag9{K w}:=ah (ZG K w) func119 (.v .w)
def aha{a K w}:=ah (ZO a K w) func127 .C7
def ahb{a K w}:=ah (XT a K w) func202 (.v (.v (.y (.v (.x (.t (X []) (.v (.y .w (.x .w))) .u))) (.y (.v (.x (.t (X [(32,.c (.i .i64))]) (.v (.y .w (.x (.x (.v (.z (.o 0 14 (.o 1 124 (.o 2 112 (.o 4 8 (.o 5 8 (.o 6 8 (.e 3 (.o 7 0 (.e 8 .done))))))))))))))) .u))) (.v .w)))))
def ahc{a b c K w}:=ah (aaY a b c K w) func232 (.v (.y .OY (.y (.v (.v (.x .w))) (.y (.z (.o 0 4094 (.o 1 32764 (.o 2 30216 (.o 3 30320 (.o 4 30208 (.o 5 30208 (.o 6 30208 (.o 7 30208 (.o 8 30208 (.o 9 28672 (.o 12 3072 (.o 13 3072 (.o 14 3072 (.e 10 (.e 11 (.o 15 0 (.e 16 .done)))))))))))))))))) (.v (.v .w))))))
def ahd{a b K w}:=ah (aa0 a b K w) func234 (.v (.y (.z (.o 0 32 (.o 1 32 (.o 2 32 (.o 3 32 (.o 4 32 .RJ)))))) (.y (.v (.x .w)) (.y (.z (.o 0 2046 (.o 1 16380 (.o 2 14856 (.o 3 14960 (.o 4 14848 (.o 5 14848 (.o 6 14848 (.o 7 14848 (.o 8 14848 (.o 9 14336 (.o 11 1024 (.o 12 1024 (.o 13 1024 (.e 10 (.o 14 0 (.e 15 .done))))))))))))))))) (.y (.z (.o 0 32 .RV)) (.v .w))))))
def ahe{a b K w}:=ah (acb a b K w) func321 (.z (.o 0 262142 (.o 1 16352 (.o 2 16352 (.o 3 16352 (.o 4 16352 (.o 5 16320 (.o 6 128 (.o 7 768 (.o 8 0 (.o 9 0 (.o 10 0 (.o 11 0 (.o 12 0 (.o 13 0 (.e 14 (.o 15 0 (.o 16 131072 (.o 17 1835008 (.o 18 0 (.o 19 0 (.e 20 .done))))))))))))))))))))))
def ahf{a b K w}:=ah (acf a b K w) func324 (.v .w)
def ahg{a K w}:=ah (ZP a K w) func129 (.v (.v (.y (.v (.x (.t (X [(3,.c (.i .u64)),(4,.c (.i .i64))]) (.y (.v .w) (.x .w)) .u))) .w)))
def ahh{a b c d e K w}:=ah (Zw a b c d e K w) func108 (.v (.y (.y (.r (X [(28,.c .b)]) .done) (.x .w)) .w))
def ahi{a b c d e f g h K w}:=ah (Z7 a b c d e f g h K w) func171 (.v (.v (.y (.v (.x .w)) (.y (.y (.r (X [(21,.c .b)]) .done) (.x .w)) (.y (.y (.r (X [(40,.c .b)]) .done) (.x .w)) (.v (.y .Kc (.y (.v .w) .w))))))))
def ahj{a b c d e f K w}:=ah (aa2 a b c d e f K w) func236 (.v (.y (.y (.r (X [(10,.c .b)]) .done) (.x .w)) (.y (.y (.r (X [(38,.c .b)]) .done) (.x .w)) (.y (.y (.r (X [(58,.c .b)]) .done) (.x .w)) (.y (.v (.x .w)) .w)))))
def ahk{a K w}:=ah (abz a K w) func278 (.v .w)
def ahl{a K w}:=ah (abA a K w) func279 (.v .w)
def ahm{a b c d e f g h i j k l K w}:=ah (abE a b c d e f g h i j k l K w) func283 (.v .w)
def ahn{a b K w}:=ah (acg a b K w) func325 (.v .w)
namespace Th
abbrev Qs:=J (S × U)
def cA(L:Qs)(p:S):J U:=(L.filter λx=>x.1==p).map (·.2)
def wh(L:Qs)(n:U):qg S:=(L.find? λx=>x.2==n).map (·.1)
def jR(L:Qs)(p:S):I:= !(cA L p).isEmpty
structure AX(L:Qs):Prop where
 nodup:(L.map (·.2)).Nodup
 prio:∀x∈L,x.1<256
 fu:L.length<=1000000
theorem four{α:Type}(ws:J α)(h:ws.length=4):∃a b c d,ws= [a,b,c,d]:=by
 rcases ws with _|⟨a,_|⟨b,_|⟨c,_|⟨d,_|⟨e,ws⟩⟩⟩⟩⟩
 .simp at h
 .simp at h
 .simp at h
 .simp at h
 .exact ⟨a,b,c,d,O⟩
 .simp at h
def bz(s:Sl):V:= s.v
def bg(sl:S->Sl)(m:S)(ws:J U):J V:=(SF 256).map (λp=>bz (sl p))++Value.map (X m)::ws.map (Value.int .u64)
def rD(sl:S->Sl)(p:S)(s:Sl):S->Sl:=λq=>if q=p then s else sl q
theorem fH{sl:S->Sl}{m:S}{ws:J U}{p:S}(hp:p<256):(bg sl m ws)[p]?=X (bz (sl p)):=by unfold bg;rw[SM (by simpa using hp),S2,TT hp];rfl
theorem ju{sl:S->Sl}{m:S}{ws:J U}:(bg sl m ws)[256]?=X (.map (X m)):=by unfold bg;rw[SP qc];simp
theorem jL{sl:S->Sl}{m:S}{ws:J U}(j:S):(bg sl m ws)[257+j]?=(ws[j]?).map (Value.int .u64):=by unfold bg;rw[SP (by simp;omega)];simp only[S9,U8];rw[show 257+j-256=j+1 from by omega,SR,S2]
theorem sA{sl:S->Sl}{m:S}{ws:J U}{p:S}(hp:p<256)(s:Sl):(bg sl m ws).set p (bz s)=bg (rD sl p s) m ws:=by
 unfold bg;rw[UP _ _ (by simpa using hp)];congr 1;apply Td;intro i;rw[To];simp only[S2,S9,U8];by_cases hi:i<256
 .rw[TT hi]
  by_cases e:p=i
  .subst e;simp[hp,rD]
  .have e':¬i=p:=λh=>e h.symm
   simp[e,e',rD]
 .rw[SZ (l:=SF 256) (by simpa using hi),Y om];rfl
theorem bQ{sl:S->Sl}{m:S}{ws:J U}(j:S)(x:U):(bg sl m ws).set (257+j) (.y x)=bg sl m (ws.set j x):=by unfold bg;rw[Uy _ _ (by simp;omega)];simp only[S9,U8];rw[show 257+j-256=j+1 from by omega,S1,Vx]
def NQ(L:Qs)(M:J (U × U)):Prop:=∀n,dQ M n=(wh L n).map λp:S=>(p:U)
structure Qx where
 m:S
 M:J (U × U)
 sl:S->Sl
 ws:J U
def ck(sl:S->Sl)(L:Qs):J aG:=(SF 256).map λp=>ag ax (sl p) (cA L p)
abbrev mapA(m:S)(M:J (U × U)):aG:=mw (Value.int .i64) (Value.int .i64) m M
def aH(b:S)(L:Qs):aG:=oA λx:Qx=>aQ (dw (AX L/\NQ L x.M/\jh (jR L) x.ws)::ae b (bg x.sl x.m x.ws)::mapA x.m x.M::ck x.sl L)
section
variable{B:S}{w0 w:W}{R:J aG}{b:S}{L:Qs}
theorem _root_.Go.Vc.Ow.queue(h:Ow B w0 w (aH b L::R)):∃x:Qx,AX L/\NQ L x.M/\jh (jR L) x.ws/\Ow B w0 w (ae b (bg x.sl x.m x.ws)::mapA x.m x.M::(ck x.sl L++R)):=by obtain⟨x,h⟩:=h.ex;have h:=h.star;obtain⟨⟨h1,h2,h3⟩,h⟩:=Ow.pure h;exact⟨x,h1,h2,h3,h⟩
theorem _root_.Go.Vc.Ow.iM{m:S}{M:J (U × U)}{sl:S->Sl}{ws:J U}(h1:AX L)(h2:NQ L M)(h3:jh (jR L) ws)(h:Ow B w0 w (ae b (bg sl m ws)::mapA m M::(ck sl L++R))):Ow B w0 w (aH b L::R):=
 Ow.eu ⟨m,M,sl,ws⟩ (Ow.aR (Ow.cI ⟨h1,h2,h3⟩ h))
theorem HX{sl:S->Sl}{p:S}(hp:p<256)(A B:aG)(R:J aG):(A::B::(ck sl L++R))[2+p]?=X (ag ax (sl p) (cA L p)):=by rw[show 2+p=p+1+1 from by omega,SR,SR,SM (by simpa [ck]using hp)];simp only[ck,S2,TT hp,TM]
theorem Am{sl:S->Sl}{p:S}(hp:p<256){s:Sl}{ns:J U}{L':Qs}(hL:∀q,q<256->cA L' q=if q=p then ns else cA L q)(A B:aG)(R:J aG):
  (A::B::(ck sl L++R)).set (2+p) (ag ax s ns)=A::B::(ck (rD sl p s) L'++R):=by
 rw[show 2+p=p+1+1 from by omega,S1,S1,UP _ _ (by simpa [ck]using hp)];congr 3;apply Td;intro i;rw[To];simp only[ck,S2,S9,U8];by_cases hi:i<256
 .rw[TT hi]
  by_cases e:p=i
  .subst e;simp[hp,rD,hL p hp]
  .have e':¬i=p:=λh=>e h.symm
   simp[e,e',rD,hL i hi]
 .rw[SZ (l:=SF 256) (by simpa using hi),Y om];rfl
theorem jc{sl:S->Sl}{m:S}{ws:J U}{p:S}{K:Pw}(h:Ow B w0 w (ae b (bg sl m ws)::R))(hp:p<256)(hw:ws.length=4)
  (hK:∀w',Ow B w0 w' (ae b (bg sl m (rp ws p (qe (0<(sl p).len))))::R)->K w'):acb b.o (p:U) K w:=by
 apply ahe;obtain⟨b1,b2,b3,b4,rfl⟩:=four ws hw;refine h.dr λw1 h=>?_;refine⟨_,O,?_⟩;simp only[aL];have hwd:∀j v,([b1,b2,b3,b4].map (Value.int .u64))[j]?=X v->(bg sl m [b1,b2,b3,b4])[257+j]?=X v:=λj v hv=>by rw[jL,<-S2];exact hv
 refine⟨_,h.iJ 0 O (hwd 0 _ O),_,h.iJ 0 O (hwd 1 _ O),_,h.iJ 0 O (hwd 2 _ O),_,h.iJ 0 O (hwd 3 _ O),_,O,om,om,?_⟩;simp only[aL,SD,Vg,SS];refine⟨sl p,h.iJ 0 O (fH hp),yS h om om λr1 r2 r3 r4 w2 h hr=>?_,trivial⟩;refine⟨_,O,?_,trivial⟩;simp only[aL,SS];have hlen:∀(ws:J U)(j:S),j<ws.length->((bg sl m ws)[257+j]?).isSome=true:=λws j hj=>by rw[jL,gE hj];rfl
 refine h.st 0 O (hlen _ 0 qc) O λw3 h=>?_;refine h.st 0 O (by rw[bQ 0];exact hlen _ 1 qc) O λw4 h=>?_;refine h.st 0 O (by rw[bQ 0,bQ 1];exact hlen _ 2 qc) O λw5 h=>?_;refine h.st 0 O (by rw[bQ 0,bQ 1,bQ 2];exact hlen _ 3 qc) O λw6 h=>?_;have hd:qe (((sl p).len:U)>0)=qe (0<(sl p).len):=by simp
 rw[hd,SD]at hr;refine hK _ ?_;rw[<-hr];have e:((((bg sl m [b1,b2,b3,b4]).set 257 (.y r1)).set 258 (.y r2)).set 259 (.y r3)).set 260 (.y r4)=bg sl m [r1,r2,r3,r4]:=by rw[bQ 0,bQ 1,bQ 2,bQ 3];rfl
 rw[<-e];exact h
theorem F7{L:Qs}{n:U}{p:S}(h:wh L n=X p):(p,n)∈L:=by
 unfold wh at h;obtain⟨x,h1,rfl⟩:=Ut.1 h;have h2:=List.find?_some h1;have h3:x.2=n:=by simpa using h2
 have:=List.mem_of_find?_eq_some h1;rw[<-h3];exact this
theorem nL{L:Qs}{n:U}:wh L n=Q↔∀x∈L,x.2≠n:=by unfold wh;rw[WU,List.find?_eq_none];simp
theorem H8{L:Qs}(h:(L.map (·.2)).Nodup){x y:S × U}(hx:x∈L)(hy:y∈L)(e:x.2=y.2):x=y:=by
 induction L with
 |nil=>cases hx
 |cons a L ih=>
  simp only[S7,Tx,Tj,not_exists,not_and]at h;rcases SH.1 hx with hx'|hx'
  .rcases SH.1 hy with hy'|hy'
   .rw[hx',hy']
   .rw[hx']at e;exact qk e.symm (h.1 y hy')
  .rcases SH.1 hy with hy'|hy'
   .rw[hy']at e;exact qk e (h.1 x hx')
   .exact ih h.2 hx' hy'
theorem I9{L:Qs}(h:(L.map (·.2)).Nodup){n:U}{p:S}(hm:(p,n)∈L):wh L n=X p:=by
 cases hw:wh L n with
 |none=>exact qk O (nL.1 hw _ hm)
 |some q=>have:=H8 h (F7 hw) hm O;cases this;rfl
theorem KN{L:Qs}{p:S}{n:U}:n∈cA L p↔(p,n)∈L:=by
 unfold cA;rw[Tj];constructor
 .rintro ⟨⟨a,b⟩,h1,h2⟩
  rw[SV]at h1;have:a=p:=by simpa using h1.2
  subst this;have h2:b=n:=h2;subst h2;exact h1.1
 .intro h;exact⟨(p,n),SV.2 ⟨h,qc⟩,O⟩
theorem Dm(L:Qs)(p:S)(n:U)(q:S):cA (L++ [(p,n)]) q=if q=p then cA L p++ [n]else cA L q:=by
 unfold cA;rw[Tm,S0];by_cases e:q=p
 .subst e;simp
 .have:(p==q)=false:=by simpa using λh=>e h.symm
  simp[e,this]
theorem xE(L:Qs)(p:S):(cA L p).length<=L.length:=by unfold cA;rw[S9];exact S3 _ _
theorem OU{L:Qs}{p:S}{n:U}(hn:wh L n=Q)(x:U):wh (L++ [(p,n)]) x=if n=x then X p else wh L x:=by
 unfold wh;rw[List.find?_append];by_cases e:n=x
 .subst e
  have:L.find? (λy=>y.2==n)=none:=by have h:=hn;unfold wh at h;rwa [WU]at h
  rw[this];simp
 .have:(n==x)=false:=by simpa using e
  rw[Y e];cases L.find? (λy=>y.2==x)<;>simp[this]
theorem Fo{L:Qs}{p:S}{n:U}(h:AX L)(hp:p<256)(hn:wh L n=Q)(hf:L.length<1000000):AX (L++ [(p,n)]):=by
 refine⟨?_,λx hx=>?_,by simp;omega⟩
 .rw[S0,Ug]
  refine⟨h.nodup,qc,λa ha b hb=>?_⟩;simp only[S7,Uf,Tf]at hb;subst hb;obtain⟨y,hy,rfl⟩:=Tj.1 ha;exact nL.1 hn y hy
 .rcases Tv.1 hx with hx|hx
  .exact h.prio x hx
  .simp at hx;subst hx;exact hp
def lq(L:Qs)(p n:U):U × Qs:=if p<0\/256<=p then(1,L)else match wh L n with|some _=>(90,L)|none=>(0,L++ [(p.toNat,n)])
theorem py{p n:U}{K:U->Pw}(h:Ow B w0 w (aH b L::R))(hf:L.length<1000000)
  (hK:∀w',Ow B w0 w' (aH b (lq L p n).2::R)->K (lq L p n).1 w'):aaY b.o p n K w:=by
 apply ahc;intro k hk;by_cases h0:p<0
 .rw[show qe (p<0)=G from by simp[h0],qq]
  apply hk;rw[qq];have e:lq L p n=(1,L):=by unfold lq;rw[Z (.inl h0)]
  rw[e]at hK;exact hK w h
 rw[show qe (p<0)=qd from by simp;omega,qv];apply hk;by_cases h1:256<=p
 .rw[show qe (p>=256)=G from by simp;omega,qq]
  have e:lq L p n=(1,L):=by unfold lq;rw[Z (.inr h1)]
  rw[e]at hK;exact hK w h
 rw[show qe (p>=256)=qd from by simp;omega,qv];obtain⟨m,rfl⟩:=SI (by omega:0<=p);have hm:m<256:=om
 have e:lq L (m:U) n=match wh L n with|some _=>(90,L)|none=>(0,L++ [(m,n)]):=by unfold lq;rw[Y om];simp
 obtain⟨x,hq,hby,hbits,h⟩:=h.queue;refine⟨_,O,X x.m,h.ld 0 O ju,?_⟩;cases hw:wh L n with
 |some q=>
  have hg:=hby n;rw[hw]at hg;refine⟨(q:U),G,(h.vB qW (bp .i64 qC) 1 O hg).1,?_⟩;rw[qq];rw[e,hw]at hK;exact hK w (h.iM hq hby hbits)
 |none=>
  have hg:=hby n;rw[hw]at hg;refine⟨0,qd,(h.xJ qW (bp .i64 qC) (λw=>qU w) 1 O hg).1,?_⟩;rw[qv];rw[e,hw]at hK;refine h.dr λw1 h=>?_;refine⟨_,O,om,om,?_⟩;simp only[aL,SD,Vg,SS];refine⟨x.sl m,h.iJ 0 O (fH hm),_,O,h.al λw2 h=>⟨?_,trivial⟩,trivial⟩;have hll:=xE L m;refine zN h (2+m) (HX hm _ _ _) om λs' w3 hs' h=>?_;rw[Am hm (Dm L m n · |> λe=>λ_=>e) _ _ _]at h;refine⟨om,om,?_,trivial⟩;simp only[aL,SS];refine h.st 0 O (by rw[fH hm];rfl) O λw4 h=>?_;have h:Ow B w0 w4 (ae b ((bg x.sl x.m x.ws).set m (bz s'))::mapA x.m x.M::(ck (rD x.sl m s') (L++ [(m,n)])++R)):=h;rw[sA hm]at h;refine⟨_,O,X x.m,h.ld 0 O ju,h.lM qW (bp .i64 qC) 1 O λw5 h=>?_⟩;refine⟨_,O,jc h hm hbits.1 λw6 h=>?_⟩;refine hK w6 (Ow.iM (Fo hq hm hw hf) ?_ ?_ h)
  .intro y
   rw[re,OU hw,hby y];split<;>rfl
  .have hlen:(rD x.sl m s' m).len=(cA L m).length+1:=by simp[rD,hs']
   rw[hlen,show qe (0<(cA L m).length+1)=G from by simp];refine(hbits.set hm G).congr λi hi=>?_;show(if i=m then G else jR L i)=jR (L++ [(m,n)]) i;unfold jR;rw[Dm];by_cases e:i=m
   .simp[e]
   .simp[e]
theorem kY{sl:S->Sl}{p:S}(hp:p<256)(pre R:J aG):(pre++(ck sl L++R))[p+pre.length]?=X (ag ax (sl p) (cA L p)):=by rw[VT,SP om,UQ,SM (by simpa [ck]using hp)];simp only[ck,S2,TT hp,TM]
theorem xF{sl:S->Sl}{p:S}(hp:p<256){s:Sl}{ns:J U}{L':Qs}(hL:∀q,q<256->cA L' q=if q=p then ns else cA L q)(pre R:J aG):
  (pre++(ck sl L++R)).set (p+pre.length) (ag ax s ns)=pre++(ck (rD sl p s) L'++R):=by
 have h:=Am (L:=L) (L':=L') (sl:=sl) (s:=s) (ns:=ns) hp hL (dw qu) (dw qu) R;rw[show 2+p=p+1+1 from by omega,S1,S1]at h;rw[VT p pre.length,Uy _ _ om,UQ];congr 1;simp only[List.cons.injEq,true_and]at h;exact h
theorem px{K:qg qf->Pw}(h:Ow B w0 w R)(hK:∀b w',Ow B w0 w' (aH b []::R)->K b.o w'):ZG K w:=by
 apply ag9;refine h.Gb (Value.int .i64) (Value.int .i64) λw1 h=>?_;refine h.al λw2 h=>?_;refine hK _ w2 ?_;have hlines:∀(n:S)(w:W)(R:J aG),Ow B w0 w R->Ow B w0 w ((SF n).map (λp=>ag ax z0 (cA [] p))++R):=by
  intro n;induction n with
  |zero=>intro w R h;exact h
  |succ n ih=>
   intro w R h;rw[List.range_succ,S0,S6];exact ih w _ (Ow.cB h)
 have h:=h.Be (l':=bg (λ_=>z0) w.heap.size [0,0,0,0]) qa;refine Ow.iM (m:=w.heap.size) (M:=[]) (sl:=λ_=>z0) (ws:=[0,0,0,0]) ⟨qc,qc,qc⟩ (λn=>rfl) (jh.zero.congr λi _=>rfl) ?_;exact((hlines 256 w2 _ h).perm Tw).perm ((Tw).cons _)
theorem Dl(L:Qs)(n:U)(q:S):cA (L.filter λx=>x.2 !=n) q=(cA L q).filter λx=>x !=n:=by unfold cA;rw[List.filter_map,Up,Up];congr 1;apply Vw;intro x _;simp[Function.comp,Bool.and_comm]
theorem Aj{L:Qs}(h:(L.map (·.2)).Nodup){n:U}{p:S}(hw:wh L n=X p)(q:S):cA (L.filter λx=>x.2 !=n) q=if q=p then(cA L p).filter (λx=>x !=n)else cA L q:=by
 rw[Dl];by_cases e:q=p
 .subst e;simp
 .rw[Y e,TF]
  intro x hx;rw[KN]at hx;simp only[qQ,ne_eq];intro e';subst e';have:=I9 h hx;rw[hw]at this;cases this;exact e O
theorem Ni{L:Qs}(n x:U):wh (L.filter λy=>y.2 !=n) x=if n=x then Q else wh L x:=by
 by_cases e:n=x
 .subst e
  rw[Z O,nL];intro y hy;have:=(SV.1 hy).2;simpa using this
 .rw[Y e]
  unfold wh;congr 1;rw[List.find?_filter];congr 1;funext y;by_cases e2:y.2=x
  .have:¬y.2=n:=λh=>e (h.symm.trans e2)
   simp[e2,this];rw[e2]at this;exact this
  .simp[e2]
def fU(L:Qs)(n:U):U × Qs:=match wh L n with|some _=>(0,L.filter λx=>x.2 !=n)|none=>(91,L)
theorem jb{n:U}{K:U->Pw}(h:Ow B w0 w (aH b L::R))
  (hK:∀w',Ow B w0 w' (aH b (fU L n).2::R)->K (fU L n).1 w'):aa0 b.o n K w:=by
 apply ahd;obtain⟨x,hq,hby,hbits,h⟩:=h.queue;refine h.al λw1 h=>?_;refine h.dr λw2 h=>?_;refine⟨_,O,X x.m,h.ld 1 O ju,n,h.iJ 0 O O,?_,trivial⟩;cases hw:wh L n with
 |none=>
  have hg:=hby n;rw[hw]at hg;refine⟨0,qd,(h.xJ qW (bp .i64 qC) (λw=>qU w) 2 O hg).1,?_⟩;simp only[T4,qq];have e:fU L n=(91,L):=by unfold fU;rw[hw]
  rw[e]at hK;exact hK w2 (h.drop.iM hq hby hbits)
 |some p=>
  have hg:=hby n;rw[hw]at hg;have hp:p<256:=hq.prio _ (F7 hw);refine⟨(p:U),G,(h.vB qW (bp .i64 qC) 2 O hg).1,?_⟩;simp only[T1,qv];have e:fU L n=(0,L.filter λx=>x.2 !=n):=by unfold fU;rw[hw]
  rw[e]at hK;refine h.dr λw3 h=>?_;refine⟨_,O,om,om,?_⟩;simp only[aL,SD,Vg,SS];refine⟨x.sl p,h.iJ 1 O (fH hp),_,O,?_,trivial⟩;have hll:=xE L p;have hfew:=hq.fu;refine fB (p:=λy=>y==n) h (p+3) (kY hp [_,_,_] R) om ?_ λs' w4 h=>?_
  .intro ys hys y w5 alf h hQ
   refine aY ?_;have hA:acf y w.heap.size.p alf w5:=by apply ahf;exact⟨n,h.iJ 0 O O,hQ _ h⟩
   exact hA
  .have h:Ow B w0 w4 ([ae w.heap.size [.z n],ae b (bg x.sl x.m x.ws),mapA x.m x.M]++(ck (rD x.sl p s') (L.filter λx=>x.2 !=n)++R)):=by have:=xF (L:=L) (sl:=x.sl) hp (λq _=>Aj hq.nodup hw q) [ae w.heap.size [.z n],ae b (bg x.sl x.m x.ws),mapA x.m x.M] R (s:=s');rw[<-this];exact h
   have hlen:=h.len (p+3) (kY hp [_,_,_] R);have hMn:(x.M.map (·.1)).Nodup:=(h.take 2 O).head λ_ hG=>hG.2.nodup;refine⟨om,om,?_,trivial⟩;simp only[aL,SS];refine h.st 1 O (by rw[fH hp];rfl) O λw6 h=>?_;have h:Ow B w0 w6 (ae w.heap.size [.z n]::ae b ((bg x.sl x.m x.ws).set p (bz s'))::mapA x.m x.M::(ck (rD x.sl p s') (L.filter λx=>x.2 !=n)++R)):=h;rw[sA hp]at h;refine h.dr λw7 h=>?_;refine⟨_,O,X x.m,h.ld 1 O ju,n,h.iJ 0 O O,h.MK qW (bp .i64 qC) 2 O λw8 h=>?_,trivial⟩;refine⟨_,O,jc h.drop hp hbits.1 λw9 h=>?_⟩;refine hK w9 (Ow.iM ⟨?_,λy hy=>hq.prio y (SV.1 hy).1,SY (S3 _ _) hq.fu⟩ ?_ ?_ h)
   .exact List.Nodup.sublist (List.filter_sublist.map _) hq.nodup
   .intro y
    rw[uO hMn,Ni,hby y];split<;>rfl
   .rw[hlen]
    refine(hbits.set hp _).congr λi hi=>?_;show(if i=p then decide (0<(cA (L.filter λx=>x.2 !=n) p).length)else jR L i)=jR (L.filter λx=>x.2 !=n) i;unfold jR;by_cases e:i=p
    .subst e
     rw[Z O];cases cA (L.filter λx=>x.2 !=n) i<;>simp
    .rw[Y e,Aj hq.nodup hw i,Y e]
def IX(L:Qs):qg S:=pM (jR L) 256
def ir(L:Qs):qg U:=(IX L).bind λp=>(cA L p).head?
theorem LM{L:Qs}{p:S}(h:IX L=X p):p<256/\∃n l,cA L p=n::l:=by
 obtain⟨h1,h2,_⟩:=D9 h;refine⟨h1,?_⟩;unfold jR at h2;cases hl:cA L p with
 |nil=>rw[hl]at h2;cases h2
 |cons n l=>exact⟨n,l,O⟩
theorem oi{K:U->I->Pw}(h:Ow B w0 w (aH b L::R))
  (hK:∀w',Ow B w0 w' (aH b L::R)->K ((ir L).getD 0) (ir L).isSome w'):ZO b.o K w:=by
 apply aha;obtain⟨x,hq,hby,hbits,h⟩:=h.queue;obtain⟨b1,b2,b3,b4,hws⟩:=four x.ws hbits.1;have hwd:∀j v,([b1,b2,b3,b4].map (Value.int .u64))[j]?=X v->(bg x.sl x.m x.ws)[257+j]?=X v:=λj v hv=>by rw[jL,<-S2,hws];exact hv
 refine⟨_,O,?_⟩;simp only[aL,SS];refine⟨_,h.iJ 0 O (hwd 0 _ O),_,h.iJ 0 O (hwd 1 _ O),_,h.iJ 0 O (hwd 2 _ O),_,h.iJ 0 O (hwd 3 _ O),yT h (by rw[<-hws];exact hbits) λw1 h=>?_⟩;unfold IW;cases ht:pM (jR L) 256 with
 |none=>
  simp only;rw[show qe ((-1:U)<0)=G from O,qq];have e:ir L=none:=by unfold ir IX;rw[ht];rfl
  rw[e]at hK;exact hK w1 (h.iM hq hby hbits)
 |some p=>
  simp only;obtain⟨hp,n,l,hl⟩:=LM ht;rw[show qe ((p:U)<0)=qd from by simp,qv];refine⟨_,O,om,om,?_⟩;simp only[aL,SD,Vg,SS];have hL:=kY (L:=L) (sl:=x.sl) hp [ae b (bg x.sl x.m x.ws),mapA x.m x.M] R;rw[hl]at hL;obtain⟨a,ha,hc⟩:=h.Kf (p+2) hL (j:=0) O;have hlen:=h.len (p+2) hL;refine⟨x.sl p,h.iJ 0 O (fH hp),a,ha,om,by rw[hlen];simp,n,hc,?_⟩;have e:ir L=X n:=by unfold ir IX;rw[ht];simp[hl]
  rw[e]at hK;exact hK w1 (h.iM hq hby hbits)
def Dk(L:Qs)(p:U):J U:=if p<0\/256<=p then []else cA L p.toNat
def under(L:Qs)(t:S):Qs:=L.filter λx=>qe (x.1<t)
theorem yN(L:Qs)(t q:S):cA (under L t) q=if q<t then cA L q else []:=by
 unfold cA under;rw[Up];by_cases e:q<t
 .rw[Z e]
  congr 1;apply Vw;intro x _;by_cases e2:x.1=q
  .simp[e2,e]
  .simp[e2]
 .rw[Y e,List.filter_eq_nil_iff.2]
  .rfl
  .intro x _
   by_cases e2:x.1=q
   .simp[e2,e]
   .simp[e2]
theorem mem_erase{α:Type}:∀{l:J α}{j:S}{k q:α},l.Nodup->l[j]?=X k->(q∈l.eraseIdx j↔q∈l/\q≠k)
 | [],j,k,q,_,h=>by simp at h
 |a::l,0,k,q,hn,h=>by
  simp only[TI,Option.some.injEq]at h;subst h;rw[Tx]at hn;rw[List.eraseIdx_cons_zero,SH];constructor
  .intro hq;exact⟨.inr hq,λe=>hn.1 (e▸hq)⟩
  .rintro ⟨hq|hq,hne⟩
   .exact qk hq hne
   .exact hq
 |a::l,j+1,k,q,hn,h=>by
  rw[Tx]at hn;rw[SR]at h;have hak:a≠k:=λe=>hn.1 (e▸SU h);rw[List.eraseIdx_cons_succ,SH,SH,mem_erase hn.2 h];constructor
  .rintro (rfl|⟨h1,h2⟩)
   .exact ⟨.inl O,hak⟩
   .exact ⟨.inr h1,h2⟩
  .rintro ⟨rfl|h1,h2⟩
   .exact .inl O
   .exact .inr ⟨h1,h2⟩
theorem I3(L:Qs):under L 0= []:=by unfold under;simp
theorem IZ{L:Qs}(h:AX L):under L 256=L:=by unfold under;rw[TF];intro x hx;simpa using h.prio x hx
theorem oh{K:qg qf->Pw}(h:Ow B w0 w (aH b L::R))(hK:∀b' w',Ow B w0 w' (aH b' L::aH b L::R)->K b'.o w'):XT b.o K w:=by
 apply ahb;refine px h λb' w1 h=>?_;obtain⟨y,hq0,hby0,hbits0,h⟩:=h.queue;obtain⟨x,hq,hby,hbits,h⟩:=(h.perm (Tw (l₁:=ae b' (bg y.sl y.m y.ws)::mapA y.m y.M::ck y.sl []) (a:=aH b L) (l₂:=R))).queue;refine⟨_,O,X x.m,?_⟩;have hmap:w1.cell? (b.p.add 256)=X (.map (X x.m)):=h.ld 0 O ju;refine⟨hmap,h.range qW 1 O λw2 h=>?_⟩;intro l8 hl8;have h:Ow B w0 w2 ([ae b' (bg y.sl y.m y.ws),mapA y.m y.M,ae b (bg x.sl x.m x.ws),sS (Value.int .i64) (Value.int .i64) x.m w1.heap.size x.M x.M]++(ck y.sl []++(ck x.sl L++R))):=by
  refine h.perm ?_;simp only[S1,Tu,T2,TG];have p1:(ck x.sl L++(ae b' (bg y.sl y.m y.ws)::mapA y.m y.M::(ck y.sl []++R))).Perm (ae b' (bg y.sl y.m y.ws)::mapA y.m y.M::(ck y.sl []++(ck x.sl L++R))):=by refine Tw.trans (List.Perm.cons _ (Tw.trans (List.Perm.cons _ ?_)));rw[<-S6,<-S6];exact List.perm_append_comm.append_right R
  refine((List.Perm.cons _ (List.Perm.cons _ p1))).trans ?_;refine(List.Perm.cons _ (List.Perm.swap _ _ _)).trans ?_;refine(List.Perm.swap _ _ _).trans (List.Perm.cons _ ?_);refine(List.Perm.cons _ (List.Perm.swap _ _ _)).trans ?_;exact List.Perm.swap _ _ _
 have loop1:∀(n:S)(left:J (U × U))(M':J (U × U))(w:W),left.length=n->(∀k,dQ M' k=if k∈left.map (·.1)then Q else dQ x.M k)->
   Ow B w0 w ([ae b' (bg y.sl y.m y.ws),mapA y.m M',ae b (bg x.sl x.m x.ws),sS (Value.int .i64) (Value.int .i64) x.m w1.heap.size x.M left]++(ck y.sl []++(ck x.sl L++R)))->l8 w:=by
  intro n;induction n with
  |succ n ih=>
   intro left M' w hn hM' h;apply hl8;obtain⟨hnd,hsub⟩:=h.HP 3 O;have hndl:(left.map (·.1)).Nodup:=hnd.sublist (hsub.map _);refine h.next 3 O (λe=>by rw[e]at hn;cases hn) λj k v w3 hj h he=>?_
   rw[qq];refine⟨k,v,he,_,O,X y.m,h.ld 0 O ju,h.lM qW (bp .i64 qC) 1 O λw4 h=>?_⟩;refine ih (left.eraseIdx j) (ko M' k v) w4 (by rw[List.length_eraseIdx,Z (Sz.1 hj).1];omega) (λq=>?_) h;have hkj:(left.map (·.1))[j]?=X k:=by rw[S2,hj];rfl
   rw[re,hM' q,iq];by_cases e:k=q
   .subst e
    rw[Z O,Y (λhm=>((mem_erase hndl hkj).1 hm).2 O)];exact(vA hnd (hsub.subset (SU hj))).symm
   .rw[Y e]
    by_cases hm:q∈left.map (·.1)
    .rw[Z hm,Z ((mem_erase hndl hkj).2 ⟨hm,λe'=>e e'.symm⟩)]
    .rw[Y hm,Y (λhm'=>hm ((mem_erase hndl hkj).1 hm').1)]
  |zero=>
   intro left M' w hn hM' h;have hl0:left= []:=TQ hn;subst hl0;have hM2:∀k,dQ M' k=dQ x.M k:=λk=>by rw[hM' k];simp
   apply hl8;refine h.next 3 O (λ_=>?_) λj k v w3 hj=>by simp at hj
   rw[qv];have h:=h.MD 3 O;have h:Ow B w0 w ([ae b' (bg y.sl y.m y.ws),mapA y.m M',ae b (bg x.sl x.m x.ws),mapA x.m x.M]++(ck y.sl (under L 0)++(ck x.sl L++R))):=by rw[I3];exact h
   refine⟨_,O,((SF 256).map λp=>bz (x.sl p)).toArray,qc,λi hi=>?_,?_⟩
   .rw[aL,h.iJ 2 O (show _=X (bz (x.sl i))from by rw[SS];exact fH hi)]
    simp[hi]
   intro l21 hl21;have loop2:∀(n t:S)(sl:S->Sl)(w:W),t+n=256->Ow B w0 w ([ae b' (bg sl y.m y.ws),mapA y.m M',ae b (bg x.sl x.m x.ws),mapA x.m x.M]++(ck sl (under L t)++(ck x.sl L++R)))->l21 (t:U) w:=by
    intro n;induction n with
    |succ n ih2=>
     intro t sl w hn h;have ht:t<256:=om
     apply hl21;rw[show qe ((t:U)<256)=G from by simp;omega,qq];refine⟨om,om,x.sl t,by rw[SD,Vg];simp[ht,bz],?_⟩;refine h.dr λw3 h=>?_;refine⟨_,O,?_,trivial⟩;have hO:=kY (L:=L) (sl:=x.sl) ht ([ae b' (bg sl y.m y.ws),mapA y.m M',ae b (bg x.sl x.m x.ws),mapA x.m x.M]++ck sl (under L t)) R;rw[S6]at hO;have hll:=xE L t;have hfew:=hq.fu;refine gJ h (h.tX _ hO) (h.len _ hO) om λs' w4 h=>?_;refine⟨om,om,?_,trivial⟩;simp only[aL,SD,Vg,SS];refine h.st 1 O (by rw[fH ht];rfl) O λw5 h=>?_;have h:Ow B w0 w5 (ag ax s' (cA L t)::([ae b' ((bg sl y.m y.ws).set t (bz s')),mapA y.m M',ae b (bg x.sl x.m x.ws),mapA x.m x.M]++(ck sl (under L t)++(ck x.sl L++R)))):=h;rw[sA ht]at h;have h5:=h.OM (t+4) (kY (L:=under L t) (sl:=sl) ht [ae b' (bg (rD sl t s') y.m y.ws),mapA y.m M',ae b (bg x.sl x.m x.ws),mapA x.m x.M] (ck x.sl L++R));have h6:=xF (L:=under L t) (L':=under L (t+1)) (sl:=sl) (s:=s') (ns:=cA L t) ht (λq hq=>by
      rw[yN,yN];by_cases e:q=t
      .subst e;rw[Z O,Z om]
      .rw[Y e]
       by_cases e2:q<t
       .rw[Z e2,Z om]
       .rw[Y e2,Y om]) [ae b' (bg (rD sl t s') y.m y.ws),mapA y.m M',ae b (bg x.sl x.m x.ws),mapA x.m x.M] (ck x.sl L++R)
     have h7:Ow B w0 w5 ([ae b' (bg (rD sl t s') y.m y.ws),mapA y.m M',ae b (bg x.sl x.m x.ws),mapA x.m x.M]++(ck (rD sl t s') (under L (t+1))++(ck x.sl L++R))):=by rw[<-h6];exact h5
     rw[wr om om];exact ih2 (t+1) _ w5 om h7
    |zero=>
     intro t sl w hn h;have ht:t=256:=om
     subst ht;rw[IZ hq]at h;apply hl21;rw[show qe (((256:S):U)<256)=qd from O,qv];obtain⟨b1,b2,b3,b4,hws⟩:=four x.ws hbits.1;obtain⟨c1,c2,c3,c4,hcs⟩:=four y.ws hbits0.1;have hwd:∀j v,([b1,b2,b3,b4].map (Value.int .u64))[j]?=X v->(bg x.sl x.m x.ws)[257+j]?=X v:=λj v hv=>by rw[jL,<-S2,hws];exact hv
     refine⟨_,O,?_⟩;simp only[aL,SS];refine⟨_,h.iJ 2 O (hwd 0 _ O),_,h.iJ 2 O (hwd 1 _ O),_,h.iJ 2 O (hwd 2 _ O),_,h.iJ 2 O (hwd 3 _ O),_,O,?_⟩;simp only[aL,SS];rw[hcs]at h;have hlen:∀(ws:J U)(j:S),j<ws.length->((bg sl y.m ws)[257+j]?).isSome=true:=λws j hj=>by rw[jL,gE hj];rfl
     refine h.st 0 O (hlen _ 0 qc) O λw3 h=>?_;refine h.st 0 O (by rw[bQ 0];exact hlen _ 1 qc) O λw4 h=>?_;refine h.st 0 O (by rw[bQ 0,bQ 1];exact hlen _ 2 qc) O λw5 h=>?_;refine h.st 0 O (by rw[bQ 0,bQ 1,bQ 2];exact hlen _ 3 qc) O λw6 h=>?_;have e:((((bg sl y.m [c1,c2,c3,c4]).set 257 (.y b1)).set 258 (.y b2)).set 259 (.y b3)).set 260 (.y b4)=bg sl y.m [b1,b2,b3,b4]:=by rw[bQ 0,bQ 1,bQ 2,bQ 3];rfl
     have h:Ow B w0 w6 ([ae b' (((((bg sl y.m [c1,c2,c3,c4]).set 257 (.y b1)).set 258 (.y b2)).set 259 (.y b3)).set 260 (.y b4)),mapA y.m M',ae b (bg x.sl x.m x.ws),mapA x.m x.M]++(ck sl L++(ck x.sl L++R))):=h;rw[e]at h;have h1:Ow B w0 w6 (ae b' (bg sl y.m [b1,b2,b3,b4])::mapA y.m M'::(ck sl L++(ae b (bg x.sl x.m x.ws)::mapA x.m x.M::(ck x.sl L++R)))):=by refine h.perm ?_;simp only[T2,TG];refine List.Perm.cons _ (List.Perm.cons _ ?_);exact((List.Perm.cons _ Tw.symm).trans Tw.symm)
     have h2:=Ow.iM hq (λk=>by rw[hM2 k];exact hby k) (by rw[<-hws];exact hbits) h1;have h3:Ow B w0 w6 (ae b (bg x.sl x.m x.ws)::mapA x.m x.M::(ck x.sl L++(aH b' L::R))):=by refine h2.perm ?_;refine(List.Perm.swap _ _ _).trans (List.Perm.cons _ ((List.Perm.swap _ _ _).trans (List.Perm.cons _ ?_)));exact Tw.symm
     exact hK b' w6 ((Ow.iM hq hby hbits h3).perm (List.Perm.swap _ _ _))
   exact loop2 256 0 y.sl w O h
 exact loop1 x.M.length x.M y.M w2 O (λk=>by
  have e:dQ y.M k=none:=by rw[hby0 k];rfl
  rw[e];by_cases hm:k∈x.M.map (·.1)
  .rw[Z hm]
  .rw[Y hm,fW.2 hm]) h
end
end Th
end Go.Vc
