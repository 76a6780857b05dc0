/- What the row rests on: the declarations that it needs, out of my texts (part 5). -/
import Derived.Test.YtfgikfglabdeoaaGreatZp4
open Bool renaming false->qd,true->G
open Decidable renaming decide->qe
open Go renaming Addr->qf,Value->V,World->W
open Go.IntKind renaming i64->qj,u64->qA
open Go.Proofs.Tryz renaming prog->qh,t139->qV,t155->qY,t157->akL,t202->akK,t259->akJ,t276->akG,t3->qI,t435->akI,underlying124->aj8,underlying133->akq,underlying22->qJ,underlying269->akH
open Option renaming none->Q,some->X
open _root_ renaming Bool->I,Int->U,List->J,Nat->S,Option->qg,True->qu,absurd->qk,beq_iff_eq->qN,bne_iff_ne->qQ,cond_false->qv,cond_true->qq,congrArg->qz,decide_eq_decide->qP,decide_eq_false->ql,decide_eq_false_iff_not->aj6,decide_eq_true->qp,decide_eq_true_eq->qF,if_false->qB,if_neg->Y,if_pos->Z,if_true->qE,or_false->qG,rfl->O
open Go.Proofs.Tryz
open Bool renaming false_and->Uj,false_eq_true->SX,true_and->Uo
open Int renaming eq_ofNat_of_zero_le->SI,natCast_add->Vs,natCast_emod->Xt,natCast_nonneg->UJ,tmod_eq_emod_of_nonneg->VI,toNat_natCast->SD,toNat_of_nonneg->TS
open List renaming Perm->Xi,any_eq_false->Uv,any_eq_true->TY,append_assoc->S6,ext_getElem?->Td,filter_append->Tm,filter_cons->Tk,filter_eq_self->TF,filter_nil->Uk,find?_cons->Wf,flatMap_append->Tp,getElem?_append_left->SM,getElem?_append_right->SP,getElem?_drop->S8,getElem?_eq_none->SZ,getElem?_eq_some_iff->Sz,getElem?_map->S2,getElem?_mapIdx->T3,getElem?_range->TT,getElem?_set->To,getElem?_take->S5,getElem?_zipWith->Um,getElem_mem->Tq,length->TO,length_cons->SJ,length_filter_le->S3,length_map->S9,length_nil->TU,length_take->SN,map_append->S0,mem_cons->SH,mem_iff_getElem?->Tg,mem_map->Tj,mem_of_getElem?->SU,nil_append->TG,not_mem_nil->TE,perm_middle->Tw,range->SF,replicate->SB,take_add_one->SO,take_of_length_le->SE,zipWith->SC,zipWith_append->Vn
open Nat renaming add_mul->TX,le_refl->SA,le_trans->SY,lt_or_ge->Wi,min_eq_left->TL,mod_eq_of_lt->Tn,mod_lt->VU,pow_le_pow_right->Ty,two_pow_pos->TW
open Option renaming map_some->TM
set_option maxRecDepth 100000
set_option maxHeartbeats 4000000
set_option linter.all false
namespace Go.Vc
open Go.Proofs
section
variable{B:S}{w0 w:W}{R L:J aG}{b:S}{l:y7}{p:fp}{s t:Sl}
def ajm{a K w}:=ah (Zq a K w) func102 .Mz
def ajn{a b K w}:=ah (aaP a b K w) func222 .RG
def ajo{a b K w}:=ah (aaQ a b K w) func223 .Rz
def ajp{a b K w}:=ah (aaS a b K w) func225 .RG
def ajq{a K w}:=ah (Zr a K w) func103 .Mz
def ajr{a b K w}:=ah (ZD a b K w) func115 (.v (.v (.y (.v (.x (.t (X [(5,.c (.i .i64)),(6,.c (.i .i64))]) .Br .u))) .w)))
def ajs{a b K w}:=ah (aaN a b K w) func220 (.v (.y (.v (.x (.t (X [(6,.c (.i .i64))]) (.y (.v .w) (.x (.x (.v (.x (.v (.v (.v (.v .w))))))))) .u))) .w))
def ajt{a b c d K w}:=ah (ab3 a b c d K w) func311 (.v (.y (.v (.x .w)) (.y (.v (.x (.t (X [(9,.c (.i .i64))]) (.y (.v .w) (.x (.x (.y (.r (X [(32,.c .b)]) .done) (.x .w))))) .u))) (.y (.v (.x (.t (X [(10,.c (.i .i64))]) (.y (.v .w) (.x .w)) .u))) .w))))
def aju{a b K w}:=ah (acZ a b K w) func379 (.v .w)
def ajv{a b K w}:=ah (ac0 a b K w) func380 .Ro
def ajw{a b c d e K w}:=ah (ac1 a b c d e K w) func381 (.v (.y (.y (.r (X [(20,.c .b)]) .done) (.x .w)) .QC))
def ajx{a b c d K w}:=ah (Yk a b c d K w) func8 (.v (.y (.y (.r (X [(47,.c .b)]) .done) (.x .w)) (.y (.v (.x (.t (X [(4,.c (.i .i64))]) (.y (.v .w) (.x (.x (.y (.r (X [(68,.c .b)]) .done) (.x .w))))) .u))) (.v (.v (.v (.v (.v (.v (.y (.v (.x (.t (X [(10,.c (.i .i64))]) (.y (.v .w) (.x (.x (.y (.z (.o 0 1008 (.o 1 1008 (.o 2 1008 (.o 3 1008 (.o 4 576 (.o 5 576 (.o 6 512 (.o 7 512 (.o 8 512 (.o 9 0 (.e 10 .done)))))))))))) (.v .w))))) .u))) (.v (.y (.v (.x (.t (X [(11,.c (.i .i64))]) (.y (.v .w) (.x .w)) .u))) .w))))))))))))
def ajy{a b c d e f g h K w}:=ah (Ym a b c d e f g h K w) func11 (.v .w)
def ajz{a b c d e f g h K w}:=ah (Yn a b c d e f g h K w) func12 (.v (.v (.v (.y (.v (.x .w)) (.y (.y (.r (X [(32,.c .b)]) .done) (.x .w)) (.y (.v (.x (.v .w))) (.y (.v (.x .w)) (.y (.v (.t (X []) .u (.v (.v (.v .w))))) .w))))))))
def ajA{a b K w}:=ah (Yp a b K w) func14 .C7
def ajB{a b c K w}:=ah (YM a b c K w) func48 (.v (.y .Rq .P6))
def ajC{a b K w}:=ah (YW a b K w) func68 .g8
def ajD{a b c d e f g K w}:=ah (YX a b c d e f g K w) func70 (.v (.v (.y (.y (.r (X [(26,.c .b)]) (.o 0 0 (.o 1 0 (.o 2 0 (.o 3 0 (.o 4 0 (.o 5 0 (.e 6 (.o 7 0 (.o 8 0 (.o 9 14336 (.o 11 1024 (.o 12 1024 (.f 10 (.e 13 (.o 14 0 (.o 15 0 (.o 16 0 .done)))) (.e 13 (.o 10 0 (.o 14 0 (.o 15 0 (.o 16 0 .done))))))))))))))))))) (.x .w)) (.y (.y (.r (X [(34,.c .b)]) .done) (.x .w)) (.y (.y .N9 (.x .w)) (.y (.y (.r (X [(55,.c .b)]) .done) (.x .w)) .w))))))
def ajE{a b c d e f g h K w}:=ah (YY a b c d e f g h K w) func71 (.v (.y (.r (X [(7,.c .q),(8,.c .q)]) (.o 0 502 (.o 1 496 (.o 2 496 (.o 4 904 (.hold 5 904 1023 (.o 6 904 (.f 3 (.f 7 (.e 8 (.e 9 (.e 10 .done))) (.e 8 (.e 7 (.e 9 (.e 10 .done))))) (.f 7 (.f 3 (.e 8 (.e 9 (.e 10 .done))) (.e 8 (.e 3 (.e 9 (.e 10 .done))))) (.e 8 (.f 3 (.e 7 (.e 9 (.e 10 .done))) (.e 7 (.e 3 (.e 9 (.e 10 .done))))))))))))))) (.y (.v (.x (.v (.y .w (.v (.y (.v (.v (.y (.v (.t (X [(9,.c (.i .i64))]) .u .u)) (.y (.v .w) .w)))) (.v (.y (.v (.y (.v (.x .g9)) .w)) (.v (.x .EV)))))))))) (.y (.z (.o 0 16 (.o 1 16 (.o 2 16 (.o 3 16 (.o 4 0 (.e 5 (.o 6 0 .done)))))))) (.y (.v (.x (.t (X [(14,.c (.i .i64))]) (.y (.v .w) (.x .w)) .u))) (.v (.y (.v (.x .Rw)) .w)))))))
def ajF{a b c d e f g K w}:=ah (YZ a b c d e f g K w) func72 (.v (.v (.v (.y (.v (.x (.v (.y (.y (.v .w) .w) (.v (.x (.v .w))))))) (.x (.z (.o 0 112 (.o 1 112 (.o 2 112 (.o 3 112 (.o 4 96 (.o 5 0 (.o 6 0 (.e 7 (.o 8 0 .done)))))))))))))))
def ajG{a b c d e f g h i K w}:=ah (Y0 a b c d e f g h i K w) func73 (.v (.v (.y (.v (.x (.v .w))) (.y (.v (.x (.y (.z (.o 0 3888 (.o 1 3888 (.o 2 3888 (.o 3 3888 (.o 4 3840 (.o 5 3840 (.o 6 3840 (.o 7 3840 (.o 8 3584 (.o 9 0 (.o 10 0 (.o 11 0 (.e 12 (.o 13 0 (.o 14 98304 (.o 15 196608 (.o 16 393216 (.o 17 0 (.o 18 0 (.o 19 0 .done))))))))))))))))))))) (.v (.y (.y (.r (X [(63,.c .b)]) .done) .w) .w))))) (.v (.y (.v (.t (X [(14,.c (.i .i64))]) (.v (.v (.z (.o 0 7984 (.o 1 7984 (.o 2 7984 (.o 3 7984 (.o 4 7936 (.o 5 7936 (.o 6 7936 (.o 7 7936 (.o 8 7680 (.o 9 7168 (.o 10 0 (.o 11 0 (.o 12 0 (.e 13 (.o 14 0 (.o 15 65536 (.o 16 131072 (.e 17 (.o 18 0 .done)))))))))))))))))))))) (.z (.o 0 3888 (.o 1 3888 (.o 2 3888 (.o 3 3888 (.o 4 3840 (.o 5 3840 (.o 6 3840 (.o 7 3840 (.o 8 3584 (.o 9 0 (.o 10 0 (.o 11 0 (.e 12 (.o 13 0 (.o 14 32768 (.o 15 65536 (.e 16 (.o 17 0 .done))))))))))))))))))))) (.y (.v (.x .w)) (.y (.v (.x (.v .w))) .oe))))))))
def ajH{a b c d e f g K w}:=ah (Y5 a b c d e f g K w) func74 (.v (.y (.r (X [(5,.c .q),(6,.c .q)]) (.o 0 886 (.o 1 880 (.o 2 880 (.o 4 872 (.o 5 776 (.hold 6 776 895 (.f 3 (.f 7 (.f 8 (.e 9 (.e 10 (.e 11 .done))) (.e 9 (.e 8 (.e 10 (.e 11 .done))))) (.f 8 .RM (.e 9 .RN))) (.f 8 (.f 3 .RM (.e 9 (.e 3 .My))) (.e 9 (.f 3 .RN (.e 8 (.e 3 .My))))))))))))) (.y (.v (.x (.v (.y (.y (.v (.x .w)) (.x (.z (.o 0 3888 (.o 1 3888 (.o 2 3888 (.o 3 3888 (.o 4 3840 (.o 5 3840 (.o 6 3840 (.o 7 3840 (.o 8 3072 (.o 9 3072 (.o 10 0 (.o 11 0 (.e 12 (.o 13 0 .done))))))))))))))))) (.v (.y (.y (.v (.x .w)) (.x (.z (.o 0 261936 (.o 1 261936 (.o 2 261936 (.o 3 261936 (.o 4 261888 (.o 5 261888 (.o 6 261888 (.o 7 261888 (.o 8 261120 (.o 9 261120 (.o 10 126976 (.o 11 126976 (.o 12 49152 (.o 13 49152 .RS))))))))))))))))) (.v (.y (.y (.r (X [(7,.c .q),(8,.c (.i .i64))]) (.o 0 17200 (.o 1 17200 (.o 2 17200 (.o 3 17200 (.o 4 17152 (.o 5 17152 (.o 6 17152 (.o 7 17152 (.o 8 16384 (.o 9 16384 (.f 10 (.o 11 16384 (.o 12 24576 (.o 13 49152 (.e 14 (.e 15 (.o 16 0 .done)))))) (.e 14 (.e 10 (.o 11 0 (.o 12 8192 (.o 13 32768 (.e 15 (.o 16 0 .done))))))))))))))))))) (.y (.v .w) .w)) (.v (.x (.y (.v (.x .w)) (.x (.z (.o 0 1008 (.o 1 1008 (.o 2 1008 (.o 3 1008 (.o 4 960 (.o 5 960 (.o 6 768 (.o 7 768 (.o 8 0 .Ms)))))))))))))))))))))) (.y (.z (.o 0 48 (.o 1 48 (.o 2 48 (.o 3 48 (.o 4 0 (.o 5 0 (.e 6 (.o 7 0 (.o 8 3584 (.o 9 7168 (.o 10 14336 (.o 11 28672 (.o 12 0 (.o 13 0 (.o 14 0 (.o 15 0 .done))))))))))))))))) (.y (.v .w) .w)))))
def ajI{a b c K w}:=ah (Xn a b c K w) func78 (.v .P9)
def ajJ{a b K w}:=ah (Z4 a b K w) func167 (.v (.y (.y (.r (X [(12,.c .b)]) .done) (.x .w)) (.v .w)))
def ajK{a K w}:=ah (Z5 a K w) func168 (.v (.y (.v (.x (.v (.y .w (.y (.v (.t (X [(6,.c .b)]) .u (.v .w))) (.y .w (.y (.v (.t (X [(10,.c .b)]) .u .u)) (.y .w (.y (.v (.t (X [(13,.c .b)]) .u .u)) (.y .w (.v (.y .w (.v (.y .w (.v (.y .w (.y (.v .w) (.x .w)))))))))))))))))) .w))
theorem Gx:qh.info? 276=X akG:=qa
theorem CW:akG.bytes=64:=qa
def fp.sd(p:fp):J Wt:=if p.gS then p.l else []
def fp.rc(p:fp):J U:=if p.gS then []else p.l.map (·.who)
def eh(b:S)(p:fp):aG:=oA λx:Sl × Sl=>aQ [dw (p.l.length<=1000000),ae b [vJ x.1,vJ x.2],ag iY x.1 p.sd,ag ax x.2 p.rc]
theorem IF(p:fp)(n:U):p.there n=(p.sd.any (λo=>o.who==n)||p.rc.any (λx=>x==n)):=by
 unfold fp.there fp.sd fp.rc;cases p.gS with
 |true=>simp
 |false=>simp[List.any_map,Function.comp_def]
theorem Lu(p:fp):p.sd.length<=p.l.length:=by unfold fp.sd;split<;>simp
theorem Le(p:fp):p.rc.length<=p.l.length:=by unfold fp.rc;split<;>simp
theorem GR(h:Ow B w0 w (eh b p::R)):∃s t,p.l.length<=1000000/\Ow B w0 w (ae b [vJ s,vJ t]::ag iY s p.sd::ag ax t p.rc::R):=by obtain⟨⟨s,t⟩,h⟩:=h.ex;obtain⟨h1,h⟩:=Ow.pure h.star;exact⟨s,t,h1,h⟩
theorem lS(h1:p.l.length<=1000000)(h:Ow B w0 w (ae b [vJ s,vJ t]::ag iY s p.sd::ag ax t p.rc::R)):Ow B w0 w (eh b p::R):=Ow.eu (s,t) (Ow.aR (Ow.cI h1 h))
theorem Lg(h:Ow B w0 w (ae b [.slice Q 0 0,.slice Q 0 0]::R)):Ow B w0 w (eh b ⟨[],qd⟩::R):=
 lS (s:=z0) (t:=z0) qc (show Ow B w0 w (ae b [.slice Q 0 0,.slice Q 0 0]::ag iY z0 []::ag ax z0 []::R)from Ow.sub (Ow.cB (E:=iY) (Ow.cB (E:=ax) h)))
theorem pE{n:U}{K:I->Pw}(h:Ow B w0 w (eh b p::R))(hK:K (p.there n) w):abM b.o n K w:=by
 apply aiC;obtain⟨s,t,h1,h⟩:=GR h;have hs:=h.aF s;have ht:=h.aF t;have d1:=Lu p;have d2:=Le p;rw[IF]at hK;have no:∀{α:Type}(l:J α)(q:α->I)(j:S),l.length<=j->(∀i y,i<j->l[i]?=X y->q y=qd)->l.any q=false:=λl q j hj hno=>by rw[Uv];intro y hy;obtain⟨i,hi⟩:=Tg.1 hy;have:=hno i y (by have:=(Sz.1 hi).1;omega) hi;simp[this]
 intro l3 hL3;have loop:∀(m j:S),j+m=p.sd.length->(∀i y,i<j->p.sd[i]?=X y->(y.who==n)=qd)->l3 (j:U) w:=by
  intro m;induction m with
  |zero=>
   intro j hj hno;apply hL3;refine⟨_,O,s,h.aE O,av om ?_⟩;rw[no p.sd (λo=>o.who==n) j om hno,Bool.false_or]at hK;intro l12 hL12;have loop:∀(m j:S),j+m=p.rc.length->(∀i y,i<j->p.rc[i]?=X y->(y==n)=qd)->l12 (j:U) w:=by
    intro m;induction m with
    |zero=>
     intro j hj hno;apply hL12;refine⟨_,O,t,h.aE O,av om ?_⟩;rw[no p.rc (λo=>o==n) j om hno]at hK;exact hK
    |succ m ih=>
     intro j hj hno;have hx:p.rc[j]?=X p.rc[j]:=gE om;apply hL12;refine⟨_,O,t,h.aE O,az om ⟨_,O,t,h.aE O,h.cd (s:=t) O hx λa ha h0 hc=>⟨_,h0 _ O,?_⟩⟩⟩;cases e:(p.rc[j]==n)with
     |true=>
      rw[TY.2 ⟨p.rc[j],Tq _,e⟩]at hK;exact aW O hK
     |false=>
      refine aV O ?_;rw[wr om om];refine ih (j+1) om λi y hi hy=>?_;by_cases e2:i=j
      .subst e2;rw[hx]at hy;cases hy;exact e
      .exact hno i y om hy
   exact loop p.rc.length 0 om (λi y hi=>by omega)
  |succ m ih=>
   intro j hj hno;have hx:p.sd[j]?=X p.sd[j]:=gE om;apply hL3;refine⟨_,O,s,h.aE O,az om ⟨_,O,s,h.aE O,h.cd (s:=s) O hx λa ha h0 hc=>⟨_,h0 _ O,?_⟩⟩⟩;cases e:(p.sd[j].who==n)with
   |true=>
    rw[show p.sd.any (λo=>o.who==n)=G from TY.2 ⟨p.sd[j],Tq _,e⟩]at hK;exact aW O hK
   |false=>
    refine aV O ?_;rw[wr om om];refine ih (j+1) om λi y hi hy=>?_;by_cases e2:i=j
    .subst e2;rw[hx]at hy;cases hy;exact e
    .exact hno i y om hy
 exact loop p.sd.length 0 om (λi y hi=>by omega)
theorem CH{xs:J Wt}{y:Wt}{c:S}{k:Sl->Pw}[ale:bG s L Wt iY xs][ak8:eL (ag iY s xs) L R](h:Ow B w0 w (ae c (iY.enc y)::L))(hbig:xs.length<=1000000000)
  (hk:∀s' w',s'.len=xs.length+1->Ow B w0 w' (ag iY s' (xs++ [y])::R)->k s' w'):
  ∃s' w',dO qh [269,269] 269 s.v (.slice (X c.p) 1 1) w s' w'/\k s' w':=
 Ow.eZ (E:=iY) (y:=y) akH Gx (zv:= .agg ⟨iY.enc L2⟩) qa qa O qb h (by rw[CW];omega) hk
theorem vt(p:fp)(t:I):p.first t=(Q,p)/\(p.l= []\/p.gS≠t)\/∃o r,p.l=o::r/\p.gS=t/\p.first t=(X o,{ p with l:=r}):=by
 unfold fp.first
 cases h:p.l with
 |nil=>exact .inl ⟨O,.inl O⟩
 |cons o r=>
  by_cases e:p.gS=t
  .exact .inr ⟨o,r,O,e,by simp[e]⟩
  .exact .inl ⟨by simp[e],.inr e⟩
theorem FA{n:U}{m:Je}{wt:I}{K:I->U->U->U->U->U->U->U->U->I->U->Pw}(hbig:p.l.length<1000000)(h:Ow B w0 w (eh b p::R))
  (hK:∀w' x,x=(p.send n m wt).1->Ow B w0 w' (eh b (p.send n m wt).2.2::R)->K x.is x.dP x.to x.m.label x.m.w0 x.m.w1 x.m.w2 x.m.w3 x.m.aD x.m.calls (p.send n m wt).2.1 w'):
  aai b.o n m.label m.w0 m.w1 m.w2 m.w3 m.aD m.calls wt K w:=by
 apply aiy;refine h.a λc w1 h=>?_;refine h.a λd w2 h=>?_;have h:Ow B w0 w2 (eh b p::ae d [.bool qd,.z 0,.z 0,.z 0,.y 0,.y 0,.y 0,.y 0,.y 0,.bool qd]::ae c [.z m.label,.y m.w0,.y m.w1,.y m.w2,.y m.w3,.y m.aD,.bool m.calls]::R):=h.sub;refine pE (n:=n) h ?_;unfold fp.send at hK;cases ht:p.there n with
 |true=>
  rw[ht]at hK;simp only[qE]at hK;refine aW O ?_;refine h.aB O O λw h=>?_;refine h.jJ O ?_;exact hK _ km O h.sub
 |false=>
  rw[ht]at hK;simp only[SX,qB]at hK;refine aV O ?_;obtain⟨s,t,h1,h⟩:=GR h;have hst:=h.aF t;rcases vt p qd with⟨ef,hno⟩|⟨o,r,hl,hs,ef⟩
  .rw[ef]at hK
   dsimp only at hK;have hrc:p.rc= []:=by
    unfold fp.rc;rcases hno with e|e
    .rw[e];split<;>rfl
    .rw[Z (by simpa using e)]
   have hsd:p.sd=p.l:=by
    unfold fp.sd;rcases hno with e|e
    .rw[e];split<;>rfl
    .rw[Z (by simpa using e)]
   rw[hrc]at hst h;rw[hsd]at h;refine⟨_,O,t,h.aE O,av (by simp at hst;omega) ?_⟩;cases wt with
   |true=>
    refine aW O ?_;refine h.dr λw h=>?_;refine⟨_,O,s,h.aE O,h.zj O ⟨h.al λw3 h=>⟨?_,trivial⟩,trivial⟩⟩
    generalize w.heap.size=e at h|-;refine CH (s:=s) (y:=⟨n,m⟩) h om λs' w hs' h=>⟨_,O,?_⟩
    refine⟨h.jD O O λw h=>?_,trivial⟩;refine h.aB O O λw h=>?_;refine h.jJ O ?_;exact hK _ km O (lS (p:=⟨p.l++ [⟨n,m⟩],G⟩) (s:=s') (t:=t) (by simp;omega) (show Ow B w0 w (ae b [vJ s',vJ t]::ag iY s' (p.l++ [⟨n,m⟩])::ag ax t []::R)from h.sub))
   |false=>
    refine aV O ?_;refine h.aB O O λw h=>?_;refine h.jJ O ?_;exact hK _ km O (lS (p:=p) (s:=s) (t:=t) h1 (by rw[hsd,hrc];exact h.sub))
  .rw[ef]at hK
   dsimp only at hK;have hrc:p.rc=o.who::r.map (·.who):=by unfold fp.rc;rw[hs,hl];rfl
   have hsd:p.sd= []:=by unfold fp.sd;rw[hs];rfl
   rw[hrc]at hst h;rw[hsd]at h;rw[hl]at h1;simp only[SJ,S9]at hst h1;refine⟨_,O,t,h.aE O,az om ⟨_,O,t,h.aE O,h.cd (s:=t) (i:=0) (j:=0) O O λa ha hc0 hc=>⟨_,hc0 _ O,?_⟩⟩⟩
   refine h.a λe w3 h=>?_;refine⟨_,O,t,h.aE O,om,om,oE (s:=t) (E:=ax) (x:=o.who) (r:=r.map λo:Wt=>o.who) qJ tB (zv:= .z 0) qa qa O qb h (by rw[td,S9];omega) λt' w h=>⟨_,O,?_⟩⟩
   refine h.jD O O λw h=>?_;refine h.zj O ?_;refine h.aB O O λw h=>?_;refine h.jJ O ?_;refine hK _ ⟨G,n,o.who,m⟩ O (lS (p:={ p with l:=r}) (s:=s) (t:=t') (by show r.length<=_;omega) ?_);rw[show fp.sd { p with l:=r}= []from by unfold fp.sd;rw[hs];rfl,show fp.rc { p with l:=r}=r.map (·.who)from by unfold fp.rc;rw[hs];rfl];exact h.sub
theorem Fx{n:U}{wt:I}{K:I->U->U->U->U->U->U->U->U->I->U->Pw}(hbig:p.l.length<1000000)(h:Ow B w0 w (eh b p::R))
  (hK:∀w' x,x=(p.recv n wt).1->Ow B w0 w' (eh b (p.recv n wt).2.2::R)->K x.is x.dP x.to x.m.label x.m.w0 x.m.w1 x.m.w2 x.m.w3 x.m.aD x.m.calls (p.recv n wt).2.1 w'):
  aaj b.o n wt K w:=by
 apply aiz;refine h.a λc w1 h=>?_;have h:Ow B w0 w1 (eh b p::ae c [.bool qd,.z 0,.z 0,.z 0,.y 0,.y 0,.y 0,.y 0,.y 0,.bool qd]::R):=h.sub;refine pE (n:=n) h ?_;unfold fp.recv at hK;cases ht:p.there n with
 |true=>
  rw[ht]at hK;simp only[qE]at hK;refine aW O ?_;refine h.aB O O λw h=>?_;refine h.jJ O ?_;exact hK _ km O h.sub
 |false=>
  rw[ht]at hK;simp only[SX,qB]at hK;refine aV O ?_;obtain⟨s,t,h1,h⟩:=GR h;have hss:=h.aF s;rcases vt p G with⟨ef,hno⟩|⟨o,r,hl,hs,ef⟩
  .rw[ef]at hK
   dsimp only at hK;have hsd:p.sd= []:=by
    unfold fp.sd;rcases hno with e|e
    .rw[e];split<;>rfl
    .rw[Y (by simpa using e)]
   have hrc:p.rc=p.l.map (·.who):=by
    unfold fp.rc;rcases hno with e|e
    .rw[e];split<;>rfl
    .rw[Y (by simpa using e)]
   rw[hsd]at hss h;rw[hrc]at h;refine⟨_,O,s,h.aE O,av (by simp at hss;omega) ?_⟩;cases wt with
   |true=>
    refine aW O ⟨_,O,t,h.aE O,?_⟩;refine h.a λe w3 h=>?_;refine eS (s:=t) (y:=n) h (by simp;omega) λt' w ht' h=>⟨_,O,?_⟩
    refine h.jD O O λw h=>?_;refine h.aB O O λw h=>?_;refine h.jJ O ?_;refine hK _ km O (lS (p:=⟨p.l++ [⟨n,Eg⟩],qd⟩) (s:=s) (t:=t') (by simp;omega) ?_);rw[show fp.sd ⟨p.l++ [⟨n,Eg⟩],qd⟩= []from O,show fp.rc ⟨p.l++ [⟨n,Eg⟩],qd⟩=p.l.map (·.who)++ [n]from by unfold fp.rc;simp];exact h.sub
   |false=>
    refine aV O ?_;refine h.aB O O λw h=>?_;refine h.jJ O ?_;exact hK _ km O (lS (p:=p) (s:=s) (t:=t) h1 (by rw[hsd,hrc];exact h.sub))
  .rw[ef]at hK
   dsimp only at hK;have hsd:p.sd=o::r:=by unfold fp.sd;rw[hs,hl];rfl
   have hrc:p.rc= []:=by unfold fp.rc;rw[hs];rfl
   rw[hsd]at hss h;rw[hrc]at h;rw[hl]at h1;simp only[SJ]at hss h1;refine⟨_,O,s,h.aE O,az om ⟨_,O,s,h.aE O,h.cd (s:=s) (i:=0) (j:=0) O O λa ha hc0 hc=>KC hc ?_⟩⟩;refine h.a λd w3 h=>?_;refine h.aB O O λw h=>?_;refine h.a λe w3 h=>?_;refine⟨_,O,s,h.aE O,om,om,oE (s:=s) (E:=iY) (x:=o) (r:=r) akH Gx (zv:= .agg ⟨iY.enc L2⟩) qa qa O qb h (by rw[CW];omega) λs' w h=>⟨_,O,?_⟩⟩
   refine h.jD O O λw h=>?_;refine h.l1 O ?_;refine h.zj O ?_;refine h.aB O O λw h=>?_;refine h.jJ O ?_;refine hK _ ⟨G,o.who,n,o.m⟩ O (lS (p:={ p with l:=r}) (s:=s') (t:=t) (by show r.length<=_;omega) ?_);rw[show fp.sd { p with l:=r}=r from by unfold fp.sd;rw[hs];rfl,show fp.rc { p with l:=r}= []from by unfold fp.rc;rw[hs];rfl];exact h.sub
theorem HB(p:fp)(n:U):(p.cancel n).sd=p.sd.filter λo=> !(o.who==n):=by unfold fp.cancel fp.sd;cases p.gS<;>rfl
theorem HA(p:fp)(n:U):(p.cancel n).rc=p.rc.filter λx=> !(x==n):=by
 unfold fp.cancel fp.rc;cases p.gS with
 |true=>rfl
 |false=>simp[List.filter_map,Function.comp_def]
theorem Hz{p:fp}{n:U}(h:p.there n=qd):p.cancel n=p:=by unfold fp.there at h;unfold fp.cancel;rw[TF.2];intro x hx;rw[Uv]at h;have:=h x hx;simpa using this
theorem zn{n:U}{K:I->Pw}(h:Ow B w0 w (eh b p::R))(hK:∀r w',Ow B w0 w' (eh b (p.cancel n)::R)->K r w'):abJ b.o n K w:=by
 apply aiA;refine pE (n:=n) h ?_;cases hth:p.there n with
 |false=>
  rw[Hz hth]at hK;exact aW O (hK _ w h)
 |true=>
 refine aV O ?_;obtain⟨s,t,h1,h⟩:=GR h;have hs:=h.aF s;have ht:=h.aF t;have d1:=Lu p;have d2:=Le p;refine h.a λc w1 h=>?_;have h:Ow B w0 w1 (ag iY ⟨X c.p,0,0⟩ []::_):=Ow.empty h;refine h.a λd w2 h=>?_;have h:Ow B w0 w2 (ag ax ⟨X d.p,0,0⟩ []::_):=Ow.empty h;intro l7 hL7;have loop:∀(m j:S)(o:Sl)(w:W),j+m=p.sd.length->Ow B w0 w (ag iY o ((p.sd.take j).filter λo=> !(o.who==n))::ag ax ⟨X d.p,0,0⟩ []::ae b [vJ s,vJ t]::ag iY s p.sd::ag ax t p.rc::R)->l7 o (j:U) w:=by
  intro m;induction m with
  |zero=>
   intro j o w hj h;apply hL7;refine⟨_,O,s,h.aE O,av om ?_⟩;rw[SE om,<-HB]at h;intro l hL;have loop:∀(m j:S)(q:Sl)(w:W),j+m=p.rc.length->Ow B w0 w (ag ax q ((p.rc.take j).filter λx=> !(x==n))::ag iY o (p.cancel n).sd::ae b [vJ s,vJ t]::ag iY s p.sd::ag ax t p.rc::R)->l q (j:U) w:=by
    intro m;induction m with
    |zero=>
     intro j q w hj h;apply hL;refine⟨_,O,t,h.aE O,av om ⟨_,O,?_⟩⟩;rw[SE om,<-HA]at h;refine h.jD O O λw h=>⟨_,O,?_⟩
     refine h.jD O O λw h=>?_;exact hK _ w (lS (p:=p.cancel n) (s:=o) (t:=q) (SY (S3 _ _) h1) h.sub)
    |succ m ih=>
     intro j q w hj h;have hx:p.rc[j]?=X p.rc[j]:=gE om;have htk:p.rc.take (j+1)=p.rc.take j++ [p.rc[j]]:=by rw[SO,hx];rfl
     apply hL;refine⟨_,O,t,h.aE O,az om ⟨_,O,t,h.aE O,h.cd (s:=t) O hx λa ha h0 hc=>⟨_,h0 _ O,?_⟩⟩⟩;rw[wr om om];by_cases e:p.rc[j]=n
     .refine fh e ?_
      refine ih (j+1) q w om ?_;rw[htk,Tm,Tk,show(!(p.rc[j]==n))=qd from by simp[e]];simpa using h
     .refine iw e ⟨_,O,t,h.aE O,a,ha,om,om,_,h0 _ O,?_⟩
      refine h.a λf w2 h=>?_;refine eS (s:=q) (y:=p.rc[j]) h (SY (S3 _ _) (by rw[SN];omega)) λq' w ho' h=>?_;refine ih (j+1) q' w om ?_;rw[htk,Tm,Tk,show(!(p.rc[j]==n))=G from by simp[e],Z O,Uk];exact h.sub
   exact loop p.rc.length 0 _ w om h.cC
  |succ m ih=>
   intro j o w hj h;have hx:p.sd[j]?=X p.sd[j]:=gE om;have htk:p.sd.take (j+1)=p.sd.take j++ [p.sd[j]]:=by rw[SO,hx];rfl
   apply hL7;refine⟨_,O,s,h.aE O,az om ⟨_,O,s,h.aE O,h.cd (s:=s) O hx λa ha h0 hc=>⟨_,h0 _ O,?_⟩⟩⟩;rw[wr om om];by_cases e:p.sd[j].who=n
   .refine fh e ?_
    refine ih (j+1) o w om ?_;rw[htk,Tm,Tk,show(!(p.sd[j].who==n))=qd from by simp[e]];simpa using h
   .refine iw e ⟨_,O,s,h.aE O,a,ha,om,om,KC hc ?_⟩
    refine h.a λf w2 h=>?_;refine CH (s:=o) (y:=p.sd[j]) h (SY (S3 _ _) (by rw[SN];omega)) λo' w ho' h=>?_;refine ih (j+1) o' w om ?_;rw[htk,Tm,Tk,show(!(p.sd[j].who==n))=G from by simp[e],Z O,Uk];exact h.sub
 exact loop p.sd.length 0 _ w2 om h.cC
def Ct:dX Ln:=⟨5,λo=>[.bool (qe (o.is≠0)),.z o.note,.y o.aD,.bool (qe (o.is=1)),.bool (qe (o.is=3))],λ_=>rfl,λx v h=>by simp only[SH,TE,qG]at h;rcases h with rfl|rfl|rfl|rfl|rfl<;>rfl,qb⟩
def Hj(l:y7):Prop:=∀x∈l,0<=x.is/\x.is<=3
def dh(b:S)(l:y7):aG:=oA λs:Sl=>aQ [dw (Hj l),ae b [s.v],ag Ct s l]
theorem Hj.set{l:y7}{i:S}{x:Ln}(h:Hj l)(hx:0<=x.is/\x.is<=3):Hj (l.set i x):=λy hy=>by
 rcases List.mem_or_eq_of_mem_set hy with hy|rfl
 .exact h y hy
 .exact hx
theorem PE{w:W}{a:qf}{x:Ln}{f:I->U->U->I->I->Prop}(g:∀c v,(Ct.enc x)[c]?=X v->w.cell? (a.add c)=X v)(hf:f (qe (x.is≠0)) x.note x.aD (qe (x.is=1)) (qe (x.is=3))):
  hI w a 0 [.b,.o,.u,.b,.b] f:=⟨_,g 0 _ O,_,g 1 _ O,_,g 2 _ O,_,g 3 _ O,_,g 4 _ O,hf⟩
theorem B6(h:Ow B w0 w (dh b l::R)):∃s:Sl,Hj l/\Ow B w0 w (ae b [s.v]::ag Ct s l::R):=by obtain⟨s,h⟩:=h.ex;obtain⟨h1,h⟩:=Ow.pure h.star;exact⟨s,h1,h⟩
theorem eQ(h1:Hj l)(h:Ow B w0 w (ae b [s.v]::ag Ct s l::R)):Ow B w0 w (dh b l::R):=Ow.eu s (Ow.aR (Ow.cI h1 h))
theorem FQ{n:U}{K:I->Pw}(h:Ow B w0 w (ae b [s.v]::ag Ct s l::R))(hK:K (lL l n).isSome w):aat b.o n K w:=by
 apply aiL;have hl:=h.aF s;unfold lL at hK;refine bh (λe=>?_) (λe=>?_)
 .refine ⟨_,O,s,h.aE O,?_⟩
  rw[Y om]at hK;cases hx:l[n.toNat]? with
  |none=>
   rw[hx]at hK;have:=List.getElem?_eq_none_iff.1 hx;rw[ql om];exact hK
  |some x=>
   rw[hx]at hK;have:=(Sz.1 hx).1;rw[qp om];exact hK
 .rw[Z om]at hK
  exact hK
theorem Na{n:U}{x x':Ln}{a:qf}{c:S}{v:V}{k:Pw}(h:Ow B w0 w (ae b [s.v]::ag Ct s l::R))(h0:0<=n)(hx:l[n.toNat]?=X x)(ha:s.a=X a)
  (he:Ct.enc x'=(Ct.enc x).set c v) (hc:c<5) (hv:v.oneCell'=G) (hk:∀w',Ow B w0 w' (ae b [s.v]::ag Ct s (l.set n.toNat x')::R)->k w'):St w ((a.add (n.toNat*5)).add c) v k:=
 h.mT (s:=s) (i:=n) (j:=n.toNat) (c:=c) x' om hx ha he hc hv λw h=>hk w h.cC
theorem DH{n:U}{K:U->U->I->U->Pw}(h:Ow B w0 w (dh b l::R))
  (hK:∀w',Ow B w0 w' (dh b (fA l n).2::R)->K ((fA l n).1.1.getD (0,0)).1 ((fA l n).1.1.getD (0,0)).2 (fA l n).1.1.isSome (fA l n).1.2 w'):Y8 b.o n K w:=by
 apply aiI;obtain⟨s,hok,h⟩:=B6 h;refine FQ h ?_;unfold fA at hK;cases e:lL l n with
 |none=>rw[e]at hK;exact aW O (hK _ (eQ hok h))
 |some x=>
  rw[e]at hK;dsimp only at hK;refine aV O ?_;obtain⟨h0,hx⟩:=tC e;have hlt:=(Sz.1 hx).1;have hx3:=hok x (SU hx);have hl:=h.aF s;refine⟨_,O,s,h.aE O,h.cd (s:=s) (j:=n.toNat) om hx λa ha hc0 hc=>?_⟩;refine PE hc ?_;refine h.a λc w1 h=>?_;refine h.aB O O λw h=>?_;refine h.l1 O ?_;by_cases e0:x.is=0
  .refine aW (by rw[e0];rfl) ?_
   rw[Y om,Y om]at hK
   try dsimp only at hK
   exact hK w (eQ (s:=s) hok h.drop)
  refine aV (by rw[qp e0];rfl) ?_;refine h.l2 O ?_;have h:Ow B w0 w (ae b [s.v]::ag Ct s l::ae c [.bool (qe (x.is≠0)),.z x.note,.y x.aD,.bool (qe (x.is=1)),.bool (qe (x.is=3))]::R):=h.sub;refine bh (λe1=>?_) (λe1=>?_)
  .rw[Z e1]at hK
   refine⟨_,O,s,h.aE O,a,ha,om,om,Na (x':={ x with is:=2}) h h0 hx ha (by simp[Ct,e1]) qb O λw h=>?_⟩;refine h.dr λw h=>?_;refine⟨_,h.aA O,h.l2 O ?_⟩
   try dsimp only at hK
   exact hK w (eQ (s:=s) (hok.set ⟨qc,qc⟩) h.sub)
  .rw[Y e1,Z om]at hK
   refine⟨_,O,s,h.aE O,a,ha,om,om,Na (x':={ x with is:=3}) h h0 hx ha (by simp[Ct,e0,e1]) qb O λw h=>?_⟩
   try dsimp only at hK
   exact hK w (eQ (s:=s) (hok.set ⟨qc,qc⟩) h.sub)
theorem Im{n:U}{K:U->U->I->U->Pw}(h:Ow B w0 w (dh b l::R))
  (hK:∀w',Ow B w0 w' (dh b (jG l n).2::R)->K ((jG l n).1.1.getD (0,0)).1 ((jG l n).1.1.getD (0,0)).2 (jG l n).1.1.isSome (jG l n).1.2 w'):aaq b.o n K w:=by
 apply aiK;obtain⟨s,hok,h⟩:=B6 h;refine FQ h ?_;unfold jG at hK;cases e:lL l n with
 |none=>rw[e]at hK;exact aW O (hK _ (eQ hok h))
 |some x=>
  rw[e]at hK;dsimp only at hK;refine aV O ?_;obtain⟨h0,hx⟩:=tC e;have hlt:=(Sz.1 hx).1;have hx3:=hok x (SU hx);have hl:=h.aF s;refine⟨_,O,s,h.aE O,h.cd (s:=s) (j:=n.toNat) om hx λa ha hc0 hc=>?_⟩;refine PE hc ?_;refine h.a λc w1 h=>?_;refine h.aB O O λw h=>?_;have h:Ow B w0 w (ae b [s.v]::ag Ct s l::ae c [.bool (qe (x.is≠0)),.z x.note,.y x.aD,.bool (qe (x.is=1)),.bool (qe (x.is=3))]::R):=h.sub;intro k15 hk15;have out:x.is=0\/x.is=1->k15 G w:=λe2=>by
   apply hk15;refine aW O ?_;rw[Y om,Y om]at hK
   try dsimp only at hK
   exact hK w (eQ (s:=s) hok h.sub)
  refine h.l1 O ?_;by_cases e0:x.is=0
  .exact aW (by rw[e0];rfl) (out (.inl e0))
  refine aV (by rw[qp e0];rfl) ?_;refine h.l2 O ?_;by_cases e1:x.is=1
  .rw[qp e1];exact out (.inr e1)
  rw[ql e1];apply hk15;refine aV O ?_;refine h.l2 O ?_;refine bh (λe3=>?_) (λe3=>?_)
  .rw[Z e3]at hK
   refine⟨_,O,s,h.aE O,a,ha,om,om,Na (x':={ x with is:=2}) h h0 hx ha (by simp[Ct,e3]) qb O λw h=>?_⟩;refine h.dr λw h=>?_;refine⟨_,h.aA O,h.l2 O ?_⟩
   try dsimp only at hK
   exact hK w (eQ (s:=s) (hok.set ⟨qc,qc⟩) h.sub)
  .have e2:x.is=2:=om
   rw[Y e3,Z e2]at hK;refine⟨_,O,s,h.aE O,a,ha,om,om,Na (x':={ x with is:=1}) h h0 hx ha (by simp[Ct,e2]) qb O λw h=>?_⟩
   try dsimp only at hK
   exact hK w (eQ (s:=s) (hok.set ⟨qc,qc⟩) h.sub)
theorem Fp{n note g:U}{K:U->Pw}(h:Ow B w0 w (dh b l::R))
  (hK:∀w',Ow B w0 w' (dh b (oF l n note g).2::R)->K (oF l n note g).1 w'):aap b.o n note g K w:=by
 apply aiJ;obtain⟨s,hok,h⟩:=B6 h;refine FQ h ?_;unfold oF at hK;cases e:lL l n with
 |none=>rw[e]at hK;exact aW O (hK _ (eQ hok h))
 |some x=>
  rw[e]at hK;dsimp only at hK;refine aV O ?_;obtain⟨h0,hx⟩:=tC e;have hlt:=(Sz.1 hx).1;have hl:=h.aF s;refine bh (λe1=>?_) (λe1=>?_)
  .rw[Z e1]at hK;exact hK w (eQ (s:=s) hok h)
  rw[Y e1]at hK;refine⟨_,O,s,h.aE O,h.cd (s:=s) (j:=n.toNat) om hx λa ha hc0 hc=>⟨_,hc0 _ O,?_⟩⟩
  refine bh (λe2=>?_) (λe2=>?_)
  .rw[Z e2]at hK;exact hK w (eQ (s:=s) hok h)
  rw[Y e2]at hK;refine⟨_,O,s,h.aE O,a,ha,om,om,?_⟩;have ev:([.bool G,.z note,.y g,.bool G,.bool qd]:J V)=Ct.enc ⟨1,note,g⟩:=rfl;rw[ev];refine h.uc (s:=s) (i:=n) (j:=n.toNat) (⟨1,note,g⟩:Ln) om hlt ha λw h=>?_
  try dsimp only at hK
  exact hK w (eQ (s:=s) (hok.set ⟨by show(0:U)<=1;decide,by show(1:U)<=3;decide⟩) h.cC)
end
namespace Sl
section
variable{B:S}{w0 w:W}{R L:J aG}
def rz(c:dB):Prop:=1<=c.kind/\c.kind<=9/\0<=c.obj/\c.obj<=2147483647/\0<=c.ar/\c.ar<=7/\(dD c.kind=G\/c.ar=7)/\(dH c.kind=G\/c.aD=0)/\(c.kind=2\/(c.guard=0/\c.bits=0))/\fb c.guard c.bits=G
theorem EX{g b:U}(h0:0<=g)(hb:b=0):fb g b=G↔g=0:=by subst hb;unfold fb;rw[decide_eq_true_iff];simp;omega
theorem kM{c:dB}(hc:gl c):ia c=qd↔rz c:=by have hg:c.bits=0->(fb c.guard c.bits=G↔c.guard=0):=EX hc.g0;unfold ia rz;cases hl:dD c.kind<;>cases hb:dH c.kind<;>cases hgd:fb c.guard c.bits<;>rw[hgd]at hg<;>simp at hg|-<;>omega
theorem zV{c:dB}(hc:gl c):cH c=0/\(c=aw\/rz c)\/cH c=40/\c≠aw/\¬rz c:=by
 unfold cH;by_cases e:c=aw
 .rw[Z e];exact .inl ⟨O,.inl e⟩
 .rw[Y e]
  cases hb:ia c with
  |false=>exact .inl ⟨qc,.inr ((kM hc).1 hb)⟩
  |true=>exact .inr ⟨qc,e,λhp=>by rw[(kM hc).2 hp]at hb;cases hb⟩
theorem HC{c:dB}(hc:gl c)(h1:c≠aw)(h2:¬rz c):cH c=40:=by
 rcases zV hc with⟨_,h|h⟩|⟨h,_⟩
 .exact qk h h1
 .exact qk h h2
 .exact h
theorem JO{c:dB}(hc:gl c)(h2:c=aw\/rz c):cH c=0:=by
 rcases zV hc with⟨h,_⟩|⟨_,h1,h3⟩
 .exact h
 .rcases h2 with h|h
  .exact qk h h1
  .exact qk h h3
theorem dz{n:S}{K:U->Pw}(hn:n<=63)(hK:K ((2^n:S):U) w):ZP (n:U) K w:=by
 apply ahg;intro l hl;have loop:∀m i:S,i+m=n->l ((2^i:S):U) (i:U) w:=by
  intro m;induction m with
  |zero=>
   intro i hi;obtain rfl:i=n:=om
   apply hl;exact av om hK
  |succ m ih=>
   intro i hi;apply hl;refine az om ?_;have h1:(2:S)^(i+1)<=2^63:=Ty om om;have e2:(2:S)^63=9223372036854775808:=qb
   rw[show(2:U)*((2^i:S):U)=((2^(i+1):S):U)from by rw[Nat.pow_succ];omega,OV (UJ _) om,wr om om];exact ih (i+1) om
 exact loop n 0 om
theorem lv{k:U}{K:I->Pw}(h:K (dD k) w):abA k K w:=by apply ahl;unfold dD at h;refine cb (λe=>by rw[e]at h;exact h) (λe=>?_);rw[e]at h;exact cb (λe=>by rw[e]at h;exact h) (λe=>by rw[e]at h;exact h)
theorem iO{k:U}{K:I->Pw}(h:K (dH k) w):abz k K w:=by apply ahk;unfold dH at h;exact cb (λe=>by rw[e]at h;exact h) (λe=>by rw[e]at h;exact h)
theorem mM{g bits:U}{K:I->Pw}(h0:0<=g)(h1:g<18446744073709551616)(h:K (fb g bits) w):acg g bits K w:=by
 apply ahn;have hf:¬(0<=bits/\bits<=64)->fb g bits=false:=λhn=>by unfold fb;rw[ql];rintro⟨a,b,_⟩;exact hn ⟨a,b⟩
 refine bh (λe=>?_) (λe=>by rw[hf om]at h;exact h);refine bh (λe2=>?_) (λe2=>by rw[hf om]at h;exact h);obtain⟨n,rfl⟩:=SI (show 0<=bits by omega);have hg:fb g (n:U)=qe (g<((2^n:S):U)):=by unfold fb;rw[qP,SD,show((2:U)^n)=((2^n:S):U)from by simp];omega
 refine dW (λe3=>?_) (λe3=>?_)
 .have:n=64:=om
  subst this;have e64:(2:S)^64=18446744073709551616:=qb
  rw[hg,e64,qp om]at h;exact h
 .refine dz om ?_
  rw[hg]at h;exact h
theorem mL{c:dB}{K:U->Pw}(h:Ow B w0 w R)(hc:gl c)(hK:∀w',Ow B w0 w' R->K (cH c) w'):aa2 c.kind c.obj c.ar c.aD c.guard c.bits K w:=by
 apply ahj;refine h.al λw1 h=>?_;have h:Ow B w0 w1 (ae w.heap.size c.cells::R):=h;have f40:c≠aw->¬rz c->K 40 w1:=λh1 h2=>by rw[<-HC hc h1 h2];exact hK _ h.drop
 have f0:(c=aw\/rz c)->K 0 w1:=λh1=>by rw[<-JO hc h1];exact hK _ h.drop
 intro k8 hk8;have main:c≠aw->k8 qd w1:=λhz=>by
  apply hk8;refine aV O ?_;intro k11 hk11;have t11:¬rz c->k11 G w1:=λhp=>hk11 _ _ (aW O (f40 hz hp))
  (refine h.l1 O ?_)
  refine bh (λe=>t11 λhp=>by unfold rz at hp;omega) (λe1=>?_)
  (refine h.l1 O ?_)
  refine bh (λe=>t11 λhp=>by unfold rz at hp;omega) (λe2=>?_)
  (refine h.l1 O ?_)
  refine bh (λe=>t11 λhp=>by unfold rz at hp;omega) (λe3=>?_)
  (refine h.l1 O ?_)
  refine bh (λe=>t11 λhp=>by unfold rz at hp;omega) (λe4=>?_)
  (refine h.l1 O ?_)
  refine bh (λe=>t11 λhp=>by unfold rz at hp;omega) (λe5=>?_)
  (refine h.l1 O ?_)
  by_cases e6:c.ar>7
  .rw[qp e6];exact t11 λhp=>by unfold rz at hp;omega
  rw[ql e6];apply hk11;refine aV O ?_;intro k14 hk14;have t14:¬rz c->k14 G w1:=λhp=>hk14 _ _ (aW O (f40 hz hp));have hg0:=hc.g0;have hb0:=hc.b0;have last:(dD c.kind=G\/c.ar=7)->(dH c.kind=G\/c.aD=0)->k14 qd w1:=λh7 h8=>by
   apply hk14;refine aV O ?_;have fin:(c.kind=2\/(c.guard=0/\c.bits=0))->bif !fb c.guard c.bits then K 40 w1 else K 0 w1:=λh9=>by
    refine Nu (λe=>f40 hz λhp=>?_) (λe=>f0 (.inr ?_))
    .obtain ⟨_,_,_,_,_,_,_,_,_,hp⟩:=hp
     rw[e]at hp;cases hp
    .exact ⟨om,om,om,om,om,om,h7,h8,h9,e⟩
   (refine h.l1 O ?_)
   refine pR (λe=>?_) (λe=>?_)
   ·(refine h.l1 O ?_)
    refine bh (λe=>f40 hz λhp=>by obtain⟨_,_,_,_,_,_,_,_,hp,_⟩:=hp;omega) (λe7=>?_)
    (refine h.l1 O ?_)
    refine pR (λe=>f40 hz λhp=>by obtain⟨_,_,_,_,_,_,_,_,hp,_⟩:=hp;omega) (λe8=>?_);repeat refine h.l1 O ?_
    exact mM hc.g0 hc.g1 (fin (.inr ⟨om,e8⟩))
   ·(repeat refine h.l1 O ?_)
    exact mM hc.g0 hc.g1 (fin (.inl e))
  have bd:(dD c.kind=G\/c.ar=7)->(bif !dH c.kind then ∃badge35:U,w1.cell? (w.heap.size.p.add 3)=X (.y badge35)/\k14 (qe (badge35>(0:U))) w1 else k14 qd w1):=λh7=>by
   refine Nu (λe=>?_) (λe=>last h7 (.inl e))
   (refine h.l1 O ?_)
   by_cases e9:c.aD>0
   .rw[qp e9]
    refine t14 λhp=>?_;obtain⟨_,_,_,_,_,_,_,hp,_⟩:=hp;rcases hp with hp|hp
    .rw[e]at hp;cases hp
    .omega
   .rw[ql e9];exact last h7 (.inr om)
  (refine h.l1 O ?_)
  refine lv ?_;refine Nu (λe=>?_) (λe=>?_)
  ·(refine h.l1 O ?_)
   refine pR (λe7=>t14 λhp=>?_) (λe7=>?_)
   .obtain ⟨_,_,_,_,_,_,hp,_⟩:=hp
    rcases hp with hp|hp
    .rw[e]at hp;cases hp
    .omega
   ·(refine h.l1 O ?_)
    exact iO (bd (.inr e7))
  ·(refine h.l1 O ?_)
   exact iO (bd (.inl e))
 (refine h.l1 O ?_)
 refine dW (λe=>?_) (λe=>main λhz=>e (by rw[hz];rfl));repeat refine h.aM O ?_
 refine⟨_,Nt c aw,?_⟩;by_cases hz:c=aw
 .rw[qp hz]
  exact hk8 _ _ (aW O (f0 (.inl hz)))
 .rw[ql hz];exact main hz
end
end Sl
section
variable{B:S}{w0 w:W}{R L:J aG}
theorem OS(v n:S):F6 v n=if v%2^n=0 then v else v-v%2^n+2^n:=by
 have hp:0<2^n:=TW n;split
 .rename_i e;exact Eb e
 .rename_i e
  unfold F6;have h1:=Nat.div_add_mod v (2^n);have h2:=VU v hp;generalize hq:v / 2^n=q at h1;generalize v%2^n=r at*
  generalize 2^n=p at*
  have h3:(v+(p-1)) / p=q+1:=by rw[show v+(p-1)=(r-1)+p*(q+1)from by rw[Nat.mul_add];omega,Nat.add_mul_div_left _ _ hp,Nat.div_eq_of_lt om,Nat.zero_add]
  rw[h3,TX,Nat.mul_comm q p];omega
theorem B1{u:sV}{K:U->Pw}(hu:A5 u)(h:Ow B w0 w R)(hK:∀w',Ow B w0 w' R->K 0 w'):acM (u.base:U) (u.bits:U) (u.used:U) K w:=by
 apply ahI;have hb:=hu.bits;have ht:=hu.top;have hus:=hu.used;have hp:=TW u.bits;have e20:(2:S)^20=1048576:=qb
 have e40:(2:S)^40=1099511627776:=qb
 refine h.a λc w1 h=>?_;intro k5 hk5;have main:∀w,Ow B w0 w (ae c [.y (u.base:U),.z (u.bits:U),.y (u.used:U)]::R)->k5 qd w:=λw h=>by
  apply hk5;refine aV O ?_;refine h.dr λw h=>⟨_,h.aA O,_,h.aE O,?_,trivial⟩
  refine Sl.dz om ⟨h.aE O,om,?_⟩;have e:((u.base:U).tmod ((2^u.bits:S):U))=0:=by rw[VI om,<-Xt,hu.dvd];rfl
  refine fh e ⟨_,h.aA O,⟨⟨_,h.aA O,?_,trivial⟩,?_,trivial⟩⟩
  .exact Sl.dz om (av om (hK _ h.drop))
  .exact Sl.dz om ⟨_,h.aA O,av om (hK _ h.drop)⟩
 refine h.dr λw h=>⟨_,h.aA O,av om ⟨_,h.aA O,av om ⟨⟨_,h.aE O,?_,trivial⟩,?_,trivial⟩⟩⟩
 .refine Sl.dz (n:=40) om ?_
  rw[ql om];exact main w h
 .refine Sl.dz (n:=40) om (h.l1 O ?_)
  rw[ql om];exact main w h
theorem FB{kind bits:U}{K:U->U->Pw}(hK:K (fI kind bits).1 (fI kind bits).2 w):acN kind bits K w:=by
 apply ahJ;unfold fI at hK;refine dW (λe=>?_) (λe=>?_)
 .rw[Z e]at hK
  refine bh (λe1=>bh (λe2=>?_) (λe2=>?_)) (λe1=>?_)
  .rw[Z ⟨om,om⟩]at hK;exact hK
  .rw[Y om]at hK;exact hK
  .rw[Y om]at hK;exact hK
 rw[Y e]at hK;refine dW (λe2=>?_) (λe2=>?_)
 .rw[Z e2]at hK
  intro k hk;refine bh (λe3=>?_) (λe3=>?_)
  .apply hk
   refine bh (λe4=>?_) (λe4=>?_)
   .rw[Z ⟨om,om⟩]at hK
    rw[wr om om];exact hK
   .rw[Y om]at hK;exact hK
  .apply hk
   rw[Y om]at hK;exact aV O hK
 rw[Y e2]at hK;refine dW (λe3=>?_) (λe3=>?_)
 .rw[Z e3]at hK;exact hK
 rw[Y e3]at hK;intro k hk;have no:¬(kind=4\/kind=5)->k qd w:=λe=>by
  rw[Y e]at hK;apply hk;refine aV O ?_;refine dW (λe6=>gC e6 ?_) (λe6=>dW (λe7=>gC e7 ?_) (λe7=>dW (λe8=>?_) (λe8=>?_)))
  .rw[Z om]at hK;exact hK
  .rw[Z om]at hK;exact hK
  .rw[Z om]at hK;exact hK
  .rw[Y om]at hK;exact hK
 have yes:(kind=4\/kind=5)->k G w:=λe=>by rw[Z e]at hK;exact hk _ _ (aW O hK)
 refine dW (λe4=>?_) (λe4=>?_)
 .rw[show(kind==4)=G from by simpa using e4];exact yes (.inl e4)
 .by_cases e5:kind=5
  .rw[show(kind==5)=G from by simpa using e5];exact yes (.inr e5)
  .rw[show(kind==5)=qd from by simpa using e5];exact no om
theorem vG{u:sV}{kind bits n:U}{K:Sl->U->U->U->U->Pw}(hu:A5 u)(h:Ow B w0 w R)
  (hK:∀s w',Ow B w0 w' (ag wE s (bN u kind bits n).1::R)->K s ((bN u kind bits n).2.1.base:U) ((bN u kind bits n).2.1.bits:U) ((bN u kind bits n).2.1.used:U) (bN u kind bits n).2.2 w'):abx (u.base:U) (u.bits:U) (u.used:U) kind bits n K w:=by
 apply ahH;have hb:=hu.bits;have ht:=hu.top;have hus:=hu.used;have hp:=TW u.bits;have e20:(2:S)^20=1048576:=qb
 have e64:(2:S)^64=18446744073709551616:=qb
 refine h.a λc w1 h=>?_;refine h.a λd w2 h=>?_;refine h.nq O ?_;refine B1 hu h λw h=>fh O ?_;refine FB ?_;unfold bN at hK;have hs:=yx (kind:=kind) (bits:=bits);generalize fI kind bits=sz at hK hs|-;obtain⟨z,e⟩:=sz;dsimp only at hK hs|-;obtain⟨m,rfl⟩:=SI hs.1;rw[SD]at hK;have hz2:2^m<=2^20:=Ty om om;have hzp:=TW m;have bad:∀(q:U)(w:W),(∀s w',Ow B w0 w' (ag wE s []::R)->K s 0 0 0 q w')->Ow B w0 w (ae d [.y 0,.z 0,.y 0]::ae c [.y (u.base:U),.z (u.bits:U),.y (u.used:U)]::R)->
   oy w d.p 0 [.y (0:U),.z (0:U),.y (0:U)] λw17=>hI w17 d.p 0 [.u,.o,.u] λ(OE:U)(r19:U)(r20:U)=>K z0 OE r19 r20 q w17:=λq w hK h=>by
  refine h.aB O O λw h=>?_;refine h.nq O ?_;exact hK _ w (Ow.cB h.drop.drop)
 by_cases he:e≠0
 .rw[Z he]at hK
  refine iw he ?_;exact bad e w hK h
 rw[Y he]at hK;refine fh om ?_;intro k hk;by_cases hn:n<1\/64<n
 .rw[Z hn]at hK
  have:k G w:=by apply hk;refine aW O ?_;exact bad 1 w hK h
  refine bh (λe1=>this) (λe1=>?_);rw[qp om];exact this
 rw[Y hn]at hK;obtain⟨n,rfl⟩:=SI (show 0<=n by omega);rw[SD]at hK;refine av om ?_;rw[ql om];apply hk;refine aV O ?_;refine h.dr λw h=>⟨_,h.aE O,_,h.aA O,?_,trivial⟩
 refine Sl.dz (n:=m) om ⟨h.aA O,h.aE O,?_,trivial⟩;refine Sl.dz (n:=u.bits) om ⟨h.aE O,_,h.aE O,_,h.aA O,om,?_⟩;have hw:qA.wrap ((u.base:U)+(u.used:U))=((u.base+u.used:S):U):=by have:=Sl.wrap_u64 (u.base+u.used);rw[Tn om]at this;rw[<-this];congr 1
 have htop:qA.wrap ((u.base:U)+((2^u.bits:S):U))=((u.base+2^u.bits:S):U):=by rw[<-Vs,Sl.wrap_u64,Tn om]
 rw[hw];have hup:=Co (u.base+u.used) m;have heq:=OS (u.base+u.used) m;have hml:=VU (u.base+u.used) hzp;have hmv:=Nat.mod_le (u.base+u.used) (2^m);have hnm:n*2^m<=64*2^20:=Nat.mul_le_mul om hz2;have etm:(((u.base+u.used:S):U).tmod ((2^m:S):U))=(((u.base+u.used)%2^m:S):U):=by rw[VI om,<-Xt]
 rw[etm];generalize F6 (u.base+u.used) m=q at hK hup heq;intro k41 hk41;have main:k41 (q:U) w:=by
  apply hk41;refine h.a λf w3 h=>?_;have h:Ow B w0 w3 (ag wE ⟨X f.p,0,0⟩ []::_):=Ow.empty h;intro l hl;have loop:∀(r j:S)(o:Sl)(w:W),j+r=n->(j=0\/q+j*2^m<=u.base+2^u.bits)->Ow B w0 w (ag wE o ((SF j).map λi=>q+i*2^m)::ae d [.y 0,.z 0,.y 0]::ae c [.y (u.base:U),.z (u.bits:U),.y (u.used:U)]::R)->l ((q+j*2^m:S):U) o (j:U) w:=by
   intro r;induction r with
   |zero=>
    intro j o w hj hfit h;have hj:j=n:=om
    subst hj;rw[Y om]at hK;apply hl;refine av om ?_;refine h.dr λw h=>⟨_,h.aE O,_,h.aA O,_,h.aE O,?_,trivial⟩
    have e3:qA.wrap (((q+j*2^m:S):U)-(u.base:U))=((q+j*2^m-u.base:S):U):=by rw[show(((q+j*2^m:S):U)-(u.base:U))=((q+j*2^m-u.base:S):U)from by omega,Sl.wrap_u64,Tn om]
    rw[e3];refine h.aB O O λw h=>?_;refine h.nq O ?_;exact hK _ w h.vI.vI
   |succ r ih=>
    intro j o w hj hfit h;have hjm:(j+1)*2^m<=n*2^m:=Nat.mul_le_mul_right _ om;have hj1:(j+1)*2^m=j*2^m+2^m:=by rw[TX,Nat.one_mul]
    have e4:qA.wrap (((q+j*2^m:S):U)+((2^m:S):U))=((q+(j+1)*2^m:S):U):=by rw[<-Vs,Sl.wrap_u64,Tn om,Nat.add_assoc,hj1]
    apply hl;refine az om ?_;rw[e4,htop];refine bh (λe5=>?_) (λe5=>?_)
    .rw[Z om]at hK
     exact bad 81 w hK h.drop
    .refine h.a λg w2 h=>?_;refine JD (s:=o) (y:=q+j*2^m) h (by simp;omega) λo' w ho' h=>?_
     rw[wI j om];refine ih (j+1) o' w om (.inr om) ?_;rw[List.range_succ,S0];exact h
  have:=loop n 0 _ w3 om (.inl O) h;rw[Nat.zero_mul,Nat.add_zero]at this;exact this
 refine pR (λe5=>⟨om,?_⟩) (λe5=>?_)
 .rw[Y om]at heq
  have e6:qA.wrap (((u.base+u.used:S):U)-(((u.base+u.used)%2^m:S):U))=((u.base+u.used-(u.base+u.used)%2^m:S):U):=by rw[show(((u.base+u.used:S):U)-(((u.base+u.used)%2^m:S):U))=((u.base+u.used-(u.base+u.used)%2^m:S):U)from by omega,Sl.wrap_u64,Tn om]
  rw[e6,<-Vs,Sl.wrap_u64,Tn om,<-heq];exact main
 .rw[Z om]at heq
  rw[<-heq];exact main
end
namespace Th
section
variable{B:S}{w0 w:W}{R:J aG}{k:S}{L:Qs}
theorem LK{L:Qs}(h:(L.map (·.2)).Nodup){p:S}{n:U}(hm:(p,n)∈L):(L.filter λx=>x.2 !=n).length+1=L.length:=by
 induction L with
 |nil=>cases hm
 |cons a L ih=>
  simp only[List.map_cons,List.nodup_cons,Tj,not_exists,not_and]at h;rw[Tk];by_cases e:a.2=n
  .have e':(a.2 !=n)=false:=by simpa using e
   rw[e'];have:L.filter (λx=>x.2 !=n)=L:=TF.2 λx hx=>by simp only[qQ,ne_eq];intro e2;exact h.1 x hx (e2.trans e.symm)
   simp[this]
  .have e':(a.2 !=n)=true:=by simpa using e
   rw[e'];have:(p,n)∈L:=by
    rcases SH.1 hm with rfl|hm
    .exact qk O e
    .exact hm
   simp only[qE,SJ];rw[ih h.2 this]
theorem HW(L:Qs){p:S}(hp:p<256):Dk L (p:U)=cA L p:=by unfold Dk;rw[Y om];simp
theorem H7{L:Qs}(ht:IX L=Q):ir L=none:=by unfold ir;rw[ht];rfl
theorem AX.filter{L:Qs}(h:AX L)(n:U):AX (L.filter λx=>x.2 !=n):=
 ⟨List.Nodup.sublist (List.filter_sublist.map _) h.nodup,λy hy=>h.prio y (List.mem_filter.1 hy).1,SY (S3 _ _) h.fu⟩
theorem QQ{w:W}{a:qf}{x y:U}{f:U->U->Prop}(g1:w.cell? a=X (.z x))(g2:w.cell? (a.add 1)=X (.z y))(hf:f x y):hI w a 0 [.o,.o] f:=⟨_,g1,_,g2,hf⟩
def yY:dX (S × U):=⟨2,λx=>[.z (x.1:U),.z x.2],λ_=>rfl,λx v h=>by simp only[SH,TE,qG]at h;rcases h with rfl|rfl<;>rfl,qb⟩
def cQ(k:S)(L:Qs):aG:=oA λs:Sl=>aQ [dw (AX L),ae k [bz s],ag yY s L]
theorem _root_.Go.Vc.Ow.Lf(h:Ow B w0 w (cQ k L::R)):∃s:Sl,AX L/\Ow B w0 w (ae k [bz s]::ag yY s L::R):=by obtain⟨s,h⟩:=h.ex;obtain⟨h1,h2⟩:=Ow.pure h.star;exact⟨s,h1,h2⟩
theorem _root_.Go.Vc.Ow.tH{s:Sl}(h1:AX L)(h:Ow B w0 w (ae k [bz s]::ag yY s L::R)):Ow B w0 w (cQ k L::R):=Ow.eu s (Ow.aR (Ow.cI h1 h))
theorem Ge{s:Sl}{xs:Qs}{y:S × U}{c:S}{C:Sl->Pw}(h:Ow B w0 w (ae c (yY.enc y)::R))(i:S)(hL:R[i]?=X (ag yY s xs))
  (hbig:xs.length<=100000000000) (hk:∀s' w',s'.len=xs.length+1->Ow B w0 w' (R.set i (ag yY s' (xs++ [y])))->C s' w'):
  ∃s' w',dO qh [260,260] 260 s.v (.slice (X c.p) 1 1) w s' w'/\C s' w':=
 Ow.L8 (E:=yY) (y:=y) underlying260 (show qh.info? 435=X akI from by kernel_rfl) (zv:= .agg #[.z 0,.z 0]) qa qa O qb h i hL (by
  have e:akI.bytes=16:=qa
  rw[e];omega) hk
theorem _root_.Go.Vc.Ow.Kg{s:Sl}{xs:Qs}(h:Ow B w0 w R)(i:S)(hi:R[i]?=X (ag yY s xs)){j:S}{x:S × U}(hj:xs[j]?=X x):
  ∃a,s.a=X a/\w.cell? (a.add (j*2))=X (.z (x.1:U))/\w.cell? ((a.add (j*2)).add 1)=X (.z x.2):=by
 obtain⟨b,o,ha,hc⟩:=h.get i hi hj;exact⟨_,ha,by rw[aL];exact hc 0 _ O,by rw[aL,aL];exact hc 1 _ O⟩
theorem nC{n:U}{K:U->I->Pw}(h:Ow B w0 w (cQ k L::R))
  (hK:K (((wh L n).map λp:S=>(p:U)).getD 0) (wh L n).isSome w):ach k.o n K w:=by
 apply ahP;obtain⟨s,hq,h⟩:=h.Lf;have hlen:=h.len 1 O;have hfew:=hq.fu;intro l3 hl3;have loop:∀(m i:S),i+m=L.length->wh (L.drop i) n=wh L n->l3 (i:U) w:=by
  intro m;induction m with
  |zero=>
   intro i him hw;apply hl3;refine⟨_,O,s,h.iJ 0 O O,?_⟩;rw[show qe ((i:U)<(s.len:U))=qd from by simp;omega,qv];rw[List.drop_eq_nil_of_le om]at hw;rw[<-hw]at hK;exact hK
  |succ m ih=>
   intro i him hw;apply hl3;refine⟨_,O,s,h.iJ 0 O O,?_⟩;rw[show qe ((i:U)<(s.len:U))=G from by simp;omega,qq];have hx:L[i]?=X L[i]:=gE om;obtain⟨a,ha,h1,h2⟩:=h.Kg 1 O hx;refine⟨_,O,s,h.iJ 0 O O,a,ha,om,om,_,h2,?_⟩;rw[List.drop_eq_getElem_cons om]at hw;by_cases e:L[i].2=n
   .rw[show(L[i].2==n)=G from by simpa using e,qq]
    refine⟨_,O,s,h.iJ 0 O O,a,ha,om,om,_,h1,?_⟩;have:wh L n=X L[i].1:=by rw[<-hw];unfold wh;rw[Wf,show(L[i].2==n)=G from by simpa using e];rfl
    rw[this]at hK;exact hK
   .rw[show(L[i].2==n)=qd from by simpa using e,qv,wr om om]
    refine ih (i+1) om ?_;rw[<-hw];unfold wh;rw[Wf,show(L[i].2==n)=qd from by simpa using e]
 exact loop L.length 0 om O
theorem BB{L:Qs}(h:AX L)(p:U):Dk L p=(L.filter λx=>((x.1:U)==p)).map (·.2):=by
 unfold Dk;split
 .rename_i e
  rw[List.filter_eq_nil_iff.2]
  .rfl
  .intro x hx
   have:=h.prio x hx;simp only[qN];omega
 .rename_i e
  unfold cA;congr 1;apply List.filter_congr;intro x _;by_cases e2:x.1=p.toNat
  .rw[show(x.1==p.toNat)=G from by simpa using e2];symm;simp;omega
  .rw[show(x.1==p.toNat)=qd from by simpa using e2];symm;simp;omega
theorem oj{p:U}{K:Sl->Pw}(h:Ow B w0 w (cQ k L::R))
  (hK:∀s w',Ow B w0 w' (ag ax s (Dk L p)::cQ k L::R)->K s w'):aa5 k.o p K w:=by
 apply ahN;refine h.al λw1 h=>?_;obtain⟨s,hq,h⟩:=(h.perm (List.Perm.swap _ _ _)).Lf;have hlen:=h.len 1 O;have hfew:=hq.fu;intro l4 hl4;have h:Ow B w0 w1 (ag ax ⟨X w.heap.size.p,0,0⟩ []::ae k [bz s]::ag yY s L::R):=by have h1:Ow B w0 w1 (ae w.heap.size []::ae k [bz s]::ag yY s L::R):=h.take 2 O;exact h1.empty
 have loop:∀(m i:S)(o:Sl)(w:W),i+m=L.length->Ow B w0 w (ag ax o (((L.take i).filter λx=>((x.1:U)==p)).map (·.2))::ae k [bz s]::ag yY s L::R)->l4 o (i:U) w:=by
  intro m;induction m with
  |zero=>
   intro i o w him h;apply hl4;refine⟨_,O,s,h.iJ 1 O O,?_⟩;rw[show qe ((i:U)<(s.len:U))=qd from by simp;omega,qv];rw[SE om,<-BB hq]at h;have h1:=Ow.tH hq ((h.perm (List.Perm.swap _ _ _)).perm ((List.Perm.swap _ _ _).cons _));exact hK o w (h1.perm (List.Perm.swap _ _ _))
  |succ m ih=>
   intro i o w him h;apply hl4;refine⟨_,O,s,h.iJ 1 O O,?_⟩;rw[show qe ((i:U)<(s.len:U))=G from by simp;omega,qq];have hx:L[i]?=X L[i]:=gE om;obtain⟨a,ha,h1,h2⟩:=h.Kg 2 O hx;have ht:L.take (i+1)=L.take i++ [L[i]]:=by rw[SO,hx];rfl
   refine⟨_,O,s,h.iJ 1 O O,a,ha,om,om,_,h1,?_⟩;rw[wr om om];by_cases e:((L[i].1:S):U)=p
   .rw[show(((L[i].1:S):U)==p)=G from by simpa using e,qq]
    refine⟨_,O,s,h.iJ 1 O O,a,ha,om,om,_,h2,h.al λw2 h=>?_⟩;refine zN h 0 O (by rw[S9];exact SY (S3 _ _) (by rw[SN];omega)) λs' w3 hs' h=>?_;refine ih (i+1) s' w3 om ?_;rw[ht,Tm,S0,Tk,show(((L[i].1:S):U)==p)=G from by simpa using e];exact h
   .rw[show(((L[i].1:S):U)==p)=qd from by simpa using e,qv]
    refine ih (i+1) o w om ?_;rw[ht,Tm,S0,Tk,show(((L[i].1:S):U)==p)=qd from by simpa using e];simpa using h
 exact loop L.length 0 _ w1 om h
theorem oo{K:U->I->Pw}(h:Ow B w0 w (cQ k L::R))
  (hK:∀w',Ow B w0 w' (cQ k L::R)->K ((ir L).getD 0) (ir L).isSome w'):ZW k.o K w:=by
 apply ahL;intro l2 hl2;have loop:∀(m:S)(w:W),m<=256->IX L=pM (jR L) m->Ow B w0 w (cQ k L::R)->l2 ((m:U)-1) w:=by
  intro m;induction m with
  |zero=>
   intro w _ ht h;apply hl2;rw[show qe (((0:S):U)-1>=0)=qd from O,qv];have:=hK w h;rw[H7 ht]at this;exact this
  |succ m ih=>
   intro w hm ht h;have e:((m+1:S):U)-1=(m:U):=om
   rw[e];apply hl2;rw[show qe ((m:U)>=0)=G from by simp,qq];refine oj h λs w1 h=>?_;rw[HW L om]at h;have hlen:=h.len 0 O;simp only[pM]at ht;cases hl:cA L m with
   |nil=>
    rw[hl]at hlen;simp only[TU]at hlen;rw[show qe ((s.len:U)>0)=qd from by simp;omega,qv,wr om om];have hs:jR L m=false:=by unfold jR;rw[hl];rfl
    rw[hs,Y qc]at ht;exact ih w1 om ht h.drop
   |cons n l=>
    rw[hl]at hlen h;simp only[SJ]at hlen;rw[show qe ((s.len:U)>0)=G from by simp;omega,qq];have hs:jR L m=true:=by unfold jR;rw[hl];rfl
    rw[hs,Z O]at ht;obtain⟨a,ha,hc⟩:=h.Kf 0 O (j:=0) O;refine⟨a,ha,om,om,n,hc,?_⟩;have:=hK w1 h.drop;have en:ir L=X n:=by unfold ir;rw[ht];simp[hl]
    rw[en]at this;exact this
 exact loop 256 w (SA _) O h
theorem pA{p n:U}{K:U->Pw}(h:Ow B w0 w (cQ k L::R))(hf:L.length<1000000)
  (hK:∀w',Ow B w0 w' (cQ k (lq L p n).2::R)->K (lq L p n).1 w'):aa4 k.o p n K w:=by
 apply ahM;intro k4 hk4;by_cases h0:p<0
 .rw[show qe (p<0)=G from by simpa using h0,qq]
  apply hk4;rw[qq];have e:lq L p n=(1,L):=by unfold lq;rw[Z (.inl h0)]
  rw[e]at hK;exact hK w h
 rw[show qe (p<0)=qd from by simpa using h0,qv];apply hk4;by_cases h1:256<=p
 .rw[show qe (p>255)=G from by simp;omega,qq]
  have e:lq L p n=(1,L):=by unfold lq;rw[Z (.inr h1)]
  rw[e]at hK;exact hK w h
 rw[show qe (p>255)=qd from by simp;omega,qv];refine nC h ?_;cases hw:wh L n with
 |some q=>
  have e:lq L p n=(90,L):=by unfold lq;rw[Y om,hw]
  rw[Option.isSome_some,qq];rw[e]at hK;exact hK w h
 |none=>
  have e:lq L p n=(0,L++ [(p.toNat,n)]):=by unfold lq;rw[Y om,hw]
  rw[Option.isSome_none,qv];rw[e]at hK;obtain⟨s,hq,h⟩:=h.Lf;refine⟨_,O,s,h.iJ 0 O O,h.al λw1 h=>?_⟩;have h:=h.Be (l':=yY.enc (p.toNat,n)) (by show _= [Value.z ((p.toNat:S):U),.z n];rw[TS om]);refine Ge h 1 O om λs' w2 hs' h=>?_;refine⟨_,O,h.st 0 O O O λw3 h=>?_⟩;exact hK w3 (Ow.tH (Fo hq om hw hf) h)
theorem oq{n:U}{K:U->Pw}(h:Ow B w0 w (cQ k L::R))
  (hK:∀w',Ow B w0 w' (cQ k (fU L n).2::R)->K (fU L n).1 w'):aa6 k.o n K w:=by
 apply ahO;refine h.al λw1 h=>?_;obtain⟨s,hq,h⟩:=(h.perm (List.Perm.swap _ _ _)).Lf;have hlen:=h.len 1 O;have hfew:=hq.fu;intro l4 hl4;have h:Ow B w0 w1 (ag yY ⟨X w.heap.size.p,0,0⟩ []::ae k [bz s]::ag yY s L::R):=by have h1:Ow B w0 w1 (ae w.heap.size []::ae k [bz s]::ag yY s L::R):=h.take 2 O;exact h1.empty
 have loop:∀(m i:S)(o:Sl)(w:W),i+m=L.length->Ow B w0 w (ag yY o ((L.take i).filter λx=>x.2 !=n)::ae k [bz s]::ag yY s L::R)->l4 o (i:U) w:=by
  intro m;induction m with
  |zero=>
   intro i o w him h;apply hl4;refine⟨_,O,s,h.iJ 1 O O,?_⟩;rw[show qe ((i:U)<(s.len:U))=qd from by simp;omega,qv];rw[SE om]at h;have hol:=h.len 0 O;refine⟨_,O,s,h.iJ 1 O O,?_⟩;cases hw:wh L n with
   |none=>
    have e:fU L n=(91,L):=by unfold fU;rw[hw]
    have hs:(L.filter λx=>x.2 !=n)=L:=TF.2 λx hx=>by have:=nL.1 hw x hx;simpa using this
    rw[hs]at hol;rw[show((o.len:U)==(s.len:U))=G from by simp;omega,qq];rw[e]at hK;exact hK w (Ow.tH hq h.drop)
   |some p=>
    have e:fU L n=(0,L.filter λx=>x.2 !=n):=by unfold fU;rw[hw]
    have:=LK hq.nodup (F7 hw);rw[show((o.len:U)==(s.len:U))=qd from by simp;omega,qv];rw[e]at hK;refine⟨_,O,h.st 1 O O O λw2 h=>?_⟩;have h:Ow B w0 w2 (ag yY o (L.filter λx=>x.2 !=n)::ae k [bz o]::ag yY s L::R):=h;have h1:Ow B w0 w2 (ag yY s L::ag yY o (L.filter λx=>x.2 !=n)::ae k [bz o]::R):=h.take 2 O;exact hK w2 (Ow.tH (hq.filter n) (h1.drop.perm (List.Perm.swap _ _ _)))
  |succ m ih=>
   intro i o w him h;apply hl4;refine⟨_,O,s,h.iJ 1 O O,?_⟩;rw[show qe ((i:U)<(s.len:U))=G from by simp;omega,qq];have hx:L[i]?=X L[i]:=gE om;obtain⟨a,ha,h1,h2⟩:=h.Kg 2 O hx;have ht:L.take (i+1)=L.take i++ [L[i]]:=by rw[SO,hx];rfl
   refine⟨_,O,s,h.iJ 1 O O,a,ha,om,om,_,h2,?_⟩;rw[wr om om];by_cases e:L[i].2=n
   .rw[show(L[i].2 !=n)=qd from by simpa using e,qv]
    refine ih (i+1) o w om ?_;rw[ht,Tm,Tk,show(L[i].2 !=n)=qd from by simpa using e];simpa using h
   .rw[show(L[i].2 !=n)=G from by simpa using e,qq]
    refine⟨_,O,s,h.iJ 1 O O,a,ha,om,om,QQ h1 h2 (h.al λw2 h=>?_)⟩;refine Ge (y:=L[i]) h 0 O (SY (S3 _ _) (by rw[SN];omega)) λs' w3 hs' h=>?_;refine ih (i+1) s' w3 om ?_;rw[ht,Tm,Tk,show(L[i].2 !=n)=G from by simpa using e];exact h
 exact loop L.length 0 _ w1 om h
def cp(b:S)(m:Mt):aG:=oA λp:(Sl × Sl)× J S=>aQ (dw (p.2.length=m.qs.length)::ae b [bz p.1.1,bz p.1.2]::ag gU p.1.1 m.bK::ag eW p.1.2 p.2::SC cQ p.2 m.qs)
theorem Lt{b:S}{L':Qs}:∀(bs:J S)(qs:J Qs)(c:S),bs[c]?=X b->(SC cQ bs qs).set c (cQ b L')=SC cQ bs (qs.set c L')
 | [],_,_,h=>by simp at h
 |_::_,[],c,_=>by simp
 |b0::bs,q::qs,0,h=>by simp at h;subst h;rfl
 |b0::bs,q::qs,c+1,h=>by simp[Lt bs qs c (by simpa using h)]
end
section
variable{B:S}{w0 w:W}{R L:J aG}{b:S}{m m1:Mt}
theorem yn(h1:m1.bK=m.bK)(h2:m1.qs=m.qs):cp b m1=cp b m:=by unfold cp;rw[h1,h2]
theorem _root_.Go.Vc.Ow.IE(h:Ow B w0 w (cp b m::R)):∃l q bs,bs.length=m.qs.length/\Ow B w0 w (ae b [bz l,bz q]::ag gU l m.bK::ag eW q bs::(SC cQ bs m.qs++R)):=by obtain⟨⟨⟨l,q⟩,bs⟩,h⟩:=h.ex;obtain⟨h1,h⟩:=Ow.pure h.star;exact⟨l,q,bs,h1,h⟩
theorem _root_.Go.Vc.Ow.nx{l q:Sl}{bs:J S}(h1:bs.length=m.qs.length)(h:Ow B w0 w (ae b [bz l,bz q]::ag gU l m.bK::ag eW q bs::(SC cQ bs m.qs++R))):Ow B w0 w (cp b m::R):=
 Ow.eu ((l,q),bs) (Ow.aR (Ow.cI h1 h))
theorem _root_.Go.Vc.Ow.Lp{A1 A2 A3:aG}{bs:J S}{qs:J Qs}{c b1:S}{alf:Qs}(hb:bs[c]?=X b1)(hq:qs[c]?=X alf)(h:Ow B w0 w (A1::A2::A3::(SC cQ bs qs++R))):
  Ow B w0 w (cQ b1 alf::A1::A2::A3::(SC cQ bs qs++R).eraseIdx c):=by
 have h1:=(Sz.1 hb).1;have h2:=(Sz.1 hq).1;have hz:(SC cQ bs qs++R)[c]?=X (cQ b1 alf):=by rw[SM (by simp;omega),Um,hb,hq]
 exact h.take (c+3) (by simpa using hz)
theorem _root_.Go.Vc.Ow.OH{A1 A2 A3:aG}{bs:J S}{qs:J Qs}{c b1:S}{alf:Qs}(hb:bs[c]?=X b1)(hc:c<qs.length)(h:Ow B w0 w (cQ b1 alf::A1::A2::A3::(SC cQ bs qs++R).eraseIdx c)):
  Ow B w0 w (A1::A2::A3::(SC cQ bs (qs.set c alf)++R)):=by
 have h1:=(Sz.1 hb).1;have h2:Ow B w0 w (cQ b1 alf::(A1::A2::A3::(SC cQ bs qs++R)).eraseIdx (c+3)):=by simpa only[List.eraseIdx_cons_succ]using h
 have h3:=h2.put (by simp;omega);simp only[List.set_cons_succ]at h3;rw[List.set_append_left _ _ (by simp;omega),Lt bs qs c hb]at h3;exact h3
theorem DX{c:U}(c0:0<=c)(c1:c<m.qs.length):m.qs.set c.toNat (m.q c)=m.qs:=by
 apply Td;intro t;rw[To];by_cases e:c.toNat=t
 .subst e;rw[Z O,Z om,tM c0 c1]
 .rw[Y e]
theorem Qf{l:Sl}{A1:aG}{bK:J vR}{n:U}{t t':vR}{c:S}{v:V}{a:qf}{k:Pw}(h:Ow B w0 w (A1::ag gU l bK::L))(h0:0<=n)(hx:bK[n.toNat]?=X t)(ha:l.a=X a)
  (he:gU.enc t'=(gU.enc t).set c v) (hc:c<12) (hv:v.oneCell'=G) (hk:∀w',Ow B w0 w' (A1::ag gU l (bK.set n.toNat t')::L)->k w'):St w ((a.add (n.toNat*12)).add c) v k:=
 Ow.mT (s:=l) (E:=gU) (xs:=bK) (i:=n) (j:=n.toNat) (c:=c) (x:=t) h t' om hx ha he hc hv λw' h=>hk w' h.cC
theorem fY{n:U}{K:I->Pw}(h:Ow B w0 w (cp b m::R))(hK:K (m.dC n) w):ZU b.o n K w:=by
 apply ahZ;obtain⟨l,q,bs,hbs,h⟩:=h.IE;have hl:=h.aF l;unfold Mt.dC at hK;refine bh (λe=>?_) (λe=>?_)
 .refine ⟨_,O,l,h.aE O,?_⟩
  rw[qp (show 0<=n from e),Uo]at hK;rw[hl];exact hK
 .rw[ql (show ¬0<=n from e),Uj]at hK;exact hK
theorem nX{n:U}{K:I->Pw}(h:Ow B w0 w (cp b m::R))(hK:K (m.gA n) w):ZT b.o n K w:=by
 apply ahY;obtain⟨l,q,bs,hbs,h⟩:=h.IE;have hl:=h.aF q;unfold Mt.gA at hK;refine bh (λe=>?_) (λe=>?_)
 .refine ⟨_,O,q,h.aA O,?_⟩
  rw[qp (show 0<=n from e),Uo]at hK;rw[hl,hbs];exact hK
 .rw[ql (show ¬0<=n from e),Uj]at hK;exact hK
theorem nY{n:U}{K:I->Pw}(hK:K (qe (0<=n/\n<256)) w):ZS n K w:=by
 apply ahX;refine bh (λe=>?_) (λe=>?_)
 .rw[show qe (0<=n/\n<256)=qe (n<=255)from decide_eq_decide.2 om]at hK;exact hK
 .rw[ql om]at hK;exact hK
theorem ye{n:U}{K:U->U->U->U->U->U->U->U->U->U->U->U->U->Pw}(h:Ow B w0 w (cp b m::R))
  (hK:∀w' t,t=(if m.dC n then m.th n else Nj)->Ow B w0 w' (cp b m::R)->K t.st t.pr t.co t.le (t.rg 0) (t.rg 1) (t.rg 2) (t.rg 3) (t.rg 4) (t.rg 5) (t.rg 6) (t.rg 7) (if m.dC n then 0 else 100) w'):YR b.o n K w:=by
 apply ahV;refine h.a λc w1 h=>?_;have h:Ow B w0 w1 (cp b m::ae c [.z 0,.z 0,.z 0,.z 0,.y 0,.y 0,.y 0,.y 0,.y 0,.y 0,.y 0,.y 0]::R):=h.cC;refine fY h ?_;cases e:m.dC n with
 |false=>
  have h:Ow B w0 w1 (ae c [.z 0,.z 0,.z 0,.z 0,.y 0,.y 0,.y 0,.y 0,.y 0,.y 0,.y 0,.y 0]::cp b m::R):=h.cC;refine aW O ?_;refine h.aB O O λw h=>?_;refine h.Di O ?_;have:=hK w Nj (by rw[e];rfl) h.drop;rw[e]at this;exact this
 |true=>
  refine aV O ?_;obtain⟨n0,n1,hx⟩:=bV e;have h2:Ow B w0 w1 (ae c [.z 0,.z 0,.z 0,.z 0,.y 0,.y 0,.y 0,.y 0,.y 0,.y 0,.y 0,.y 0]::cp b m::R):=h.cC;obtain⟨l,q,bs,hbs,h⟩:=h.IE;refine⟨_,O,l,h.aE O,h.cd (s:=l) (i:=n) (j:=n.toNat) om hx λa ha h0 hc=>?_⟩;refine⟨_,hc 0 _ O,_,hc 1 _ O,_,hc 2 _ O,_,hc 3 _ O,_,hc 4 _ O,_,hc 5 _ O,_,hc 6 _ O,_,hc 7 _ O,_,hc 8 _ O,_,hc 9 _ O,_,hc 10 _ O,_,hc 11 _ O,h2.aB O O λw h=>?_⟩;refine h.Di O ?_;have:=hK w (m.th n) (by rw[e];rfl) h.drop;rw[e]at this;exact this
theorem iP{n i v:U}{K:U->Pw}(h:Ow B w0 w (cp b m::R))(hK:∀w',Ow B w0 w' (cp b (m.pB n i v).2::R)->K (m.pB n i v).1 w'):aav b.o n i v K w:=by
 apply ah4;unfold Mt.pB at hK;refine fY h ?_;cases hT:m.dC n with
 |false=>
  rw[Z hT]at hK;exact aW O (hK w h)
 |true=>
  rw[Y (by rw[hT];simp)]at hK;refine aV O ?_;intro k7 hk7;have bad:¬(0<=i/\i<8)->k7 G w:=λe=>by rw[Z e]at hK;exact hk7 _ _ (aW O (hK w h))
  refine bh (λe=>bad om) (λe=>?_);by_cases e2:i>7
  .rw[qp e2];exact bad om
  .rw[ql e2]
   have hi:0<=i/\i<8:=om
   rw[Y (λhh=>hh hi)]at hK;obtain⟨n0,n1,hx⟩:=bV hT;obtain⟨l,q,bs,hbs,h⟩:=h.IE;refine hk7 _ _ (aV O ⟨_,O,l,h.aE O,?_⟩);refine h.cd (s:=l) (i:=n) (j:=n.toNat) om hx λa ha h0 hc=>?_;refine⟨om,om,?_⟩;obtain⟨j,rfl⟩:=SI hi.1;have e1:((a.add (n.toNat*12)).add 4).add ((j:U).toNat*1)=(a.add (n.toNat*12)).add (4+j):=by have:=h.yA l ha;rw[this,aL,aL,aL,aL,SD];congr 1;omega
   rw[e1];refine Qf (c:=4+j) (t':={ m.th n with rg:=λk=>if k=j then v else(m.th n).rg k}) h n0 hx ha ?_ om O λw h=>?_
   .have:j=0\/j=1\/j=2\/j=3\/j=4\/j=5\/j=6\/j=7:=om
    rcases this with rfl|rfl|rfl|rfl|rfl|rfl|rfl|rfl<;>rfl
   .exact hK w (Ow.nx (m:=m.DK n j v) hbs h)
theorem jC{n:U}{K:Pw}(hm:dn m)(hn:m.dC n=G)(h:Ow B w0 w (cp b m::R))(hK:∀w',Ow B w0 w' (cp b (m.cW n)::R)->K w'):ZV b.o n K w:=by
 apply ah0;obtain⟨l,q,bs,hbs,h⟩:=h.IE;obtain⟨n0,n1,hx⟩:=bV hn;obtain⟨⟨c0,c1⟩,_⟩:=hm.th hn;obtain⟨b1,hb1⟩:∃x,bs[(m.th n).co.toNat]?=X x:=⟨_,gE om⟩
 refine⟨_,O,l,h.aE O,h.cd (s:=l) (i:=n) (j:=n.toNat) om hx λa ha h0 hc=>?_⟩;refine Qf (c:=0) (t':={ m.th n with st:=1}) h n0 hx ha O qb O λw h=>?_;have hx2:(m.bK.set n.toNat { m.th n with st:=1})[n.toNat]?=X { m.th n with st:=1}:=by rw[To,Z O,Z om]
 refine h.dr λw h=>?_;refine⟨_,O,q,h.aA O,_,O,l,h.aE O,h.cd (s:=l) (i:=n) (j:=n.toNat) om hx2 λa2 ha2 h0 hc2=>⟨_,hc2 2 _ O,?_⟩⟩
 refine h.cd (s:=q) (j:=(m.th n).co.toNat) (by show(m.th n).co=_;omega) hb1 λa3 ha3 h03 hc3=>⟨_,h03 _ O,_,O,l,h.aE O,?_⟩
 refine h.cd (s:=l) (i:=n) (j:=n.toNat) om hx2 λa4 ha4 h04 hc4=>⟨_,hc4 1 _ O,Go.Vc.a2 ?_⟩
 have h:=h.Lp hb1 (tM c0 c1);have hqok:AX (m.q (m.th n).co):=by obtain⟨_,e,_⟩:=h.Lf;exact e
 have hlen:=Bu hqok hm.xV;have hfew:=hm.fu;refine pA h om λw h=>?_;have h:=h.OH (qs:=m.qs) hb1 om;exact hK w (Ow.nx (m:=m.cW n) (bs:=bs) (by unfold Mt.cW Mt.jx Mt.aS;simpa using hbs) h)
theorem Oz(hi:bR (-1) m){n:U}(hn:m.dC n=G):cp b (m.jx (m.th n).co (fU (m.q (m.th n).co) n).2)=cp b (m.bL n):=by
 have hc:=hi.co hn;obtain⟨c0,c1⟩:=gD.1 hc;have same:(m.th n).st≠1->m.qs.set (m.th n).co.toNat (fU (m.q (m.th n).co) n).2=m.qs:=λe=>by
  have:wh (m.q (m.th n).co) n=none:=nL.2 λx hx e2=>by obtain⟨p,k⟩:=x;have e2:k=n:=e2;subst e2;exact e ((hi.E2 _ hc p k).1 hx).2.2.2.1
  unfold fU;rw[this];exact DX c0 c1
 unfold Mt.bL;by_cases e:(m.th n).st=1
 .rw[Z e]
 .rw[Y e]
  split
  .exact yn O (same e)
  .exact yn O (same e)
theorem ly{n:U}{K:Pw}(hi:bR (-1) m)(hn:m.dC n=G)(h:Ow B w0 w (cp b m::R))(hK:∀w',Ow B w0 w' (cp b (m.bL n)::R)->K w'):Xu b.o n K w:=by
 apply ah1;obtain⟨l,q,bs,hbs,h⟩:=h.IE;obtain⟨n0,n1,hx⟩:=bV hn;obtain⟨⟨c0,c1⟩,_⟩:=hi.ok.th hn;obtain⟨b1,hb1⟩:∃x,bs[(m.th n).co.toNat]?=X x:=⟨_,gE om⟩
 refine h.dr λw h=>?_;refine⟨_,O,q,h.aA O,_,O,l,h.aE O,h.cd (s:=l) (i:=n) (j:=n.toNat) om hx λa2 ha2 h0 hc2=>⟨_,hc2 2 _ O,?_⟩⟩
 refine h.cd (s:=q) (j:=(m.th n).co.toNat) (by show(m.th n).co=_;omega) hb1 λa3 ha3 h03 hc3=>⟨_,h03 _ O,Go.Vc.a2 ?_⟩
 have h:=h.Lp hb1 (tM c0 c1);refine oq h λw h=>?_;have h:=h.OH (qs:=m.qs) hb1 om;have h2:Ow B w0 w (cp b (m.jx (m.th n).co (fU (m.q (m.th n).co) n).2)::R):=Ow.nx (bs:=bs) (by unfold Mt.jx;simpa using hbs) h;rw[Oz hi hn]at h2;exact hK w h2
def Ez(m:Mt)(c:U):Prop:=∀i,m.dC i=G->(m.cj c=X i↔((m.th i).st=2/\(m.th i).co=c))
theorem bR.yr(hi:bR (-1) m)(c:U):Ez m c:=λi hT=>by
 have i0:=(bV hT).1;constructor
 .intro h;have:=hi.runIn h;exact⟨this.2.2.2,this.2.2.1⟩
 .rintro ⟨h1,h2⟩
  have hc:m.gA c=true:=by rw[<-h2];exact hi.co hT
  have:=(hi.inr c hc i hT).2 ⟨om,h2,h1⟩;unfold Mt.cj;rw[this,Z ⟨hc,om⟩]
theorem fT{c:U}{K:U->I->Pw}(hm:dn m)(hr:Ez m c)(h:Ow B w0 w (cp b m::R))(hK:K ((m.cj c).getD 0) (m.cj c).isSome w):Xk b.o c K w:=by
 apply ahW;have hfew:=hm.fu;obtain⟨l,q,bs,hbs,h⟩:=h.IE;have hl:=h.aF l;intro l3 hl3;have loop:∀(j i:S),i+j=m.bK.length->(∀k:S,k<i->m.cj c≠X (k:U))->l3 (i:U) w:=by
  intro j;induction j with
  |zero=>
   intro i hij hno;apply hl3;refine⟨_,O,l,h.aE O,av om ?_⟩;cases e:m.cj c with
   |none=>rw[e]at hK;exact hK
   |some o=>
    have hT:=bV (hm.runT e).2.2.2;exact qk (by rw[e,TS hT.1]) (hno o.toNat om)
  |succ j ih=>
   intro i hij hno;apply hl3;refine⟨_,O,l,h.aE O,az om ?_⟩;have iT:m.dC (i:U)=true:=by unfold Mt.dC;simp;omega
   have hx:=(bV iT).2.2;have hri:=hr (i:U) iT;rw[SD]at hx;intro k8 hk8;have yes:m.cj c=X (i:U)->k8 G w:=λe=>by rw[e]at hK;exact hk8 _ _ (aW O hK)
   have no:m.cj c≠X (i:U)->k8 qd w:=λe=>by
    refine hk8 _ _ (aV O ?_);rw[wI i om];refine ih (i+1) om λk hk=>?_;by_cases e2:k=i
    .rw[e2];exact e
    .exact hno k om
   refine⟨_,O,l,h.aE O,h.cd (s:=l) (i:=(i:U)) (j:=i) O hx λa2 ha2 h0 hc2=>⟨_,hc2 0 _ O,?_⟩⟩
   refine dW (λe=>?_) (λe=>no λe2=>e (hri.1 e2).1);refine⟨_,O,l,h.aE O,h.cd (s:=l) (i:=(i:U)) (j:=i) O hx λa2 ha2 h0 hc2=>⟨_,hc2 2 _ O,?_⟩⟩
   by_cases e2:(m.th (i:U)).co=c
   .rw[show((m.th (i:U)).co==c)=G from by simpa using e2]
    exact yes (hri.2 ⟨e,e2⟩)
   .rw[show((m.th (i:U)).co==c)=qd from by simpa using e2]
    exact no λe3=>e2 (hri.1 e3).2
 exact loop m.bK.length 0 om (λk hk=>by omega)
theorem D1{n:U}{t':vR}{c:S}{v:V}{k:Pw}(hn:m.dC n=G)(h:Ow B w0 w (cp b m::R))(he:gU.enc t'=(gU.enc (m.th n)).set c v)(hc:c<12)(hv:v.oneCell'=G)
  (hk:∀w',Ow B w0 w' (cp b (m.aS n t')::R)->k w'):∃a:qf,X (b.p:qf)=X a/\∃l:Sl,w.cell? a=X l.v/\∃a2:qf,l.a=X a2/\0<=n/\n<(l.len:U)/\St w ((a2.add (n.toNat*12)).add c) v k:=by
 obtain⟨n0,n1,hx⟩:=bV hn;obtain⟨l,q,bs,hbs,h⟩:=h.IE;refine⟨_,O,l,h.aE O,h.cd (s:=l) (i:=n) (j:=n.toNat) om hx λa ha h0 hcc=>?_⟩;exact Qf (c:=c) (t':=t') h n0 hx ha he hc hv λw h=>hk w (Ow.nx (m:=m.aS n t') hbs h)
theorem vv{n x:U}{c:S}{k:U->Prop}(hn:m.dC n=G)(h:Ow B w0 w (cp b m::R))(he:(gU.enc (m.th n))[c]?=X (.z x))(hk:k x):
  ∃a:qf,X (b.p:qf)=X a/\∃l:Sl,w.cell? a=X l.v/\∃a2:qf,l.a=X a2/\0<=n/\n<(l.len:U)/\∃y:U,w.cell? ((a2.add (n.toNat*12)).add c)=X (.z y)/\k y:=by
 obtain⟨n0,n1,hx⟩:=bV hn;obtain⟨l,q,bs,hbs,h⟩:=h.IE;exact⟨_,O,l,h.aE O,h.cd (s:=l) (i:=n) (j:=n.toNat) om hx λa ha h0 hcc=>⟨_,hcc c _ he,hk⟩⟩
theorem iQ{n:U}{K:U->Pw}(hi:bR (-1) m)(h:Ow B w0 w (cp b m::R))(hK:∀w',Ow B w0 w' (cp b (m.bW n).2::R)->K (m.bW n).1 w'):YO b.o n K w:=by
 apply ahT;unfold Mt.bW at hK;refine fY h ?_;cases hT:m.dC n with
 |false=>rw[Z hT]at hK;exact aW O (hK w h)
 |true=>
  rw[Y (by rw[hT];simp)]at hK;refine aV O ?_;intro k5 hk5;have bad:(m.th n).st=1\/(m.th n).st=2->k5 G w:=λe=>by rw[Z e]at hK;exact hk5 _ _ (aW O (hK w h))
  refine vv (c:=0) hT h O ?_;refine dW (λe=>bad (.inl e)) (λe=>?_);refine vv (c:=0) hT h O ?_;by_cases e2:(m.th n).st=2
  .rw[show((m.th n).st==2)=G from by simpa using e2];exact bad (.inr e2)
  .rw[show((m.th n).st==2)=qd from by simpa using e2]
   rw[Y (λhh=>hh.elim e e2)]at hK;exact hk5 _ _ (aV O (jC hi.ok hT h hK))
theorem lx{n:U}{K:U->Pw}(hi:bR (-1) m)(h:Ow B w0 w (cp b m::R))(hK:∀w',Ow B w0 w' (cp b (m.cy n).2::R)->K (m.cy n).1 w'):aae b.o n K w:=by
 apply ah2;unfold Mt.cy at hK;refine fY h ?_;cases hT:m.dC n with
 |false=>rw[Z hT]at hK;exact aW O (hK w h)
 |true=>
  rw[Y (by rw[hT];simp)]at hK;refine aV O ?_;refine vv (c:=0) hT h O ?_;refine dW (λe=>?_) (λe=>?_)
  .rw[Z e]at hK;exact hK w h
  .rw[Y e]at hK
   refine ly hi hT h λw h=>?_;refine D1 (c:=0) (t':={ m.th n with st:=0}) (by rw[kX];exact hT) h (by rw[p7];rfl) qb O λw h=>?_;exact hK w h
theorem uY{n:U}{K:U->Pw}(hi:bR (-1) m)(h:Ow B w0 w (cp b m::R))(hK:∀w',Ow B w0 w' (cp b (m.iE n).2::R)->K (m.iE n).1 w'):abL b.o n K w:=by
 apply ah5;unfold Mt.iE at hK;refine fY h ?_;cases hT:m.dC n with
 |false=>rw[Z hT]at hK;exact aW O (hK w h)
 |true=>
  rw[Y (by rw[hT];simp)]at hK;refine aV O ?_;refine vv (c:=0) hT h O ?_;refine pR (λe=>?_) (λe=>?_)
  .rw[Z e]at hK;exact hK w h
  .rw[Y (λhh=>hh e)]at hK
   refine D1 (c:=0) (t':={ m.th n with st:=3}) hT h O qb O λw h=>?_;have e1:cp b (m.leave n 3)=cp b (m.aS n { m.th n with st:=3}):=by unfold Mt.leave Mt.bL;rw[Y om,Z e];exact yn O O
   rw[e1]at hK;exact hK w h
theorem wa{n p:U}{K:U->Pw}(hi:bR (-1) m)(h:Ow B w0 w (cp b m::R))(hK:∀w',Ow B w0 w' (cp b (m.gP n p).2::R)->K (m.gP n p).1 w'):aaf b.o n p K w:=by
 apply ah3;unfold Mt.gP at hK;refine fY h ?_;cases hT:m.dC n with
 |false=>rw[Z hT]at hK;exact aW O (hK w h)
 |true=>
  rw[Y (by rw[hT];simp)]at hK;refine aV O ?_;refine nY ?_;by_cases hp:0<=p/\p<256
  .rw[Y (λhh=>hh hp)]at hK
   rw[qp hp];refine aV O ?_;refine ly hi hT h λw h=>?_;have hT0:(m.bL n).dC n=true:=by rw[kX];exact hT
   refine D1 (c:=1) (t':={ m.th n with pr:=p}) hT0 h (by rw[p7];rfl) qb O λw h=>?_;have hT1:((m.bL n).aS n { m.th n with pr:=p}).dC n=true:=by rw[dN];exact hT0
   have e1:((m.bL n).aS n { m.th n with pr:=p}).th n={ m.th n with pr:=p}:=by rw[eO hT0,Z O]
   refine vv (x:=(m.th n).st) (c:=0) hT1 h (by rw[e1];rfl) ?_;refine dW (λe=>?_) (λe=>?_)
   .rw[Z e]at hK
    have hs:m.th n={ m.th n with st:=1}:=by
     have:(m.th n).st=1:=e;cases hth:m.th n with
     |mk a b c d f=>rw[hth]at this;have this:a=1:=this;subst this;rfl
    have e2:((m.leave n 1).aS n {(m.leave n 1).th n with pr:=p})=(m.bL n).aS n { m.th n with pr:=p}:=by rw[jS hT,Z O];unfold Mt.leave;rw[FW,<-hs]
    rw[e2]at hK;have Gv:dn ((m.bL n).aS n { m.th n with pr:=p}):=hi.ok.bL.aS (t:={ m.th n with pr:=p}) (by rw[dI.2];exact(hi.ok.th hT).1) O;exact jC Gv hT1 h hK
   .rw[Y e]at hK
    have e2:cp b (m.aS n { m.th n with pr:=p})=cp b ((m.bL n).aS n { m.th n with pr:=p}):=by unfold Mt.bL;rw[Y e];split<;>exact yn O O
    rw[e2]at hK;exact hK w h
  .rw[Z hp]at hK
   rw[ql hp];exact aW O (hK w h)
theorem nW{p c:U}{K:U->U->Pw}(hm:dn m)(h:Ow B w0 w (cp b m::R))(hK:∀w',Ow B w0 w' (cp b (m.df p c).2.2::R)->K (m.df p c).1 (m.df p c).2.1 w'):YN b.o p c K w:=by
 apply ahS;unfold Mt.df at hK;have hfew:=hm.fu;intro k4 hk4;have bad:¬(0<=p/\p<256/\m.gA c=G)->k4 G w:=λe=>by rw[Z e]at hK;exact hk4 _ _ (aW O (hK w h))
 refine nY ?_;by_cases hp:0<=p/\p<256
 .rw[qp hp]
  refine aV O ?_;refine nX h ?_;cases hc:m.gA c with
  |false=>exact bad λhh=>by rw[hc]at hh;cases hh.2.2
  |true=>
   rw[Y (λhh=>hh ⟨hp.1,hp.2,hc⟩)]at hK;refine hk4 _ _ (aV O ?_);obtain⟨l,q,bs,hbs,h⟩:=h.IE;have hl:=h.aF l;refine⟨_,O,l,h.aE O,bh (λe2=>?_) (λe2=>?_)⟩
   .rw[Z om]at hK
    exact hK w (Ow.nx hbs h)
   .rw[Y om]at hK
    refine⟨_,O,l,h.aE O,h.a λd w1 h=>?_⟩;refine Ow.eZ (s:=l) (E:=gU) (xs:=m.bK) (y:=⟨0,p,c,5,λ_=>0⟩) akq (show qh.info? 139=X qV from by kernel_rfl) (zv:=(qV.zero).get qa) qa qa qa qb h (by
     have e:qV.bytes=96:=qa
     rw[e];omega) λs' w hs' h=>?_
    refine⟨_,O,?_⟩;have h:=h.cC;refine h.jD O O λw h=>?_;refine⟨_,O,s',h.aE O,?_⟩;rw[show qj.wrap ((s'.len:U)-1)=(m.bK.length:U)from by rw[hs',wr om om];omega];exact hK w (Ow.nx (m:=m.make p c) (l:=s') (q:=q) (bs:=bs) hbs h)
 .rw[ql hp]
  exact aW O (bad λhh=>hp ⟨hh.1,hh.2.1⟩)
theorem xD(hi:bR (-1) m){o:U}(hT:m.dC o=G)(hs:(m.th o).st=2):cp b ((m.leave o 1).cW o)=cp b (m.cW o):=by
 have e1:(m.leave o 1).th o={ m.th o with st:=1}:=by rw[jS hT,Z O]
 have e2:∀c,(m.leave o 1).q c=m.q c:=λc=>by unfold Mt.leave Mt.bL;rw[Y om,Z hs];rfl
 have e3:(m.leave o 1).bK=m.bK.set o.toNat { m.th o with st:=1}/\(m.leave o 1).qs=m.qs:=by unfold Mt.leave Mt.bL;rw[Y om,Z hs];exact⟨O,O⟩
 unfold Mt.cW;rw[e1,e2];unfold Mt.aS Mt.jx;refine yn ?_ ?_
 .simp only;rw[e3.1,List.set_set]
 .simp only;rw[e3.2]
theorem gW{c:U}{K:U->I->Pw}(hi:bR (-1) m)(h:Ow B w0 w (cp b m::R))(hK:∀w',Ow B w0 w' (cp b (m.bj c)::R)->K (((m.bj c).cj c).getD 0) ((m.bj c).cj c).isSome w'):YP b.o c K w:=by
 apply ahU;have hi2:=hi.bj c;refine nX h ?_;cases hc:m.gA c with
 |false=>
  have e:m.cj c=none:=by unfold Mt.cj;rw[Y (by rw[hc];simp)]
  have e2:m.bj c=m:=by unfold Mt.bj;rw[hc];rfl
  rw[e2,e]at hK;exact aW O (hK w h)
 |true=>
  obtain⟨c0,c1⟩:=gD.1 hc;refine aV O ?_;refine fT hi.ok (hi.yr c) h ?_;obtain⟨l,q,bs,hbs,h⟩:=h.IE;obtain⟨b1,hb1⟩:∃x,bs[c.toNat]?=X x:=⟨_,gE om⟩
  refine⟨_,O,q,h.aA O,h.cd (s:=q) (j:=c.toNat) om hb1 λa2 ha2 h0 hcc=>⟨_,h0 _ O,?_⟩⟩
  refine oo (h.Lp hb1 (tM c0 c1)) λw h=>?_;have h:=h.OH (qs:=m.qs) hb1 om;rw[DX c0 c1]at h;have h:Ow B w0 w (cp b m::R):=Ow.nx hbs h;intro k15 hk15;refine h.dr λw h=>?_;have fin:∀w,Ow B w0 w (cp b (m.bj c)::R)->Xk b.o c (λr20 r21 w22=>K r20 r21 w22) w:=λw h=>fT hi2.ok (hi2.yr c) h (hK w h);have stay:m.bj c=m->k15 qd w:=λe=>by refine hk15 _ _ ?_;intro k18 hk18;refine aV O (hk18 _ ?_);rw[e]at fin;exact fin w h
  have pc:m.bj c=m.pick c:=by unfold Mt.bj;rw[hc];rfl
  cases hn:ir (m.q c)with
  |none=>
   refine aV O (stay ?_);rw[pc];unfold Mt.pick;rw[hn]
  |some n=>
   obtain⟨hT,hco,hst⟩:=hi.KU hc hn;rw[hn]at hk15;refine aW O ?_;have last:∀(m1:Mt)(w:W)(k:Pw),bR (-1) m1->m1.dC n=G->m.bj c=(m1.leave n 2).iS c n->(∀w',Ow B w0 w' (cp b (m.bj c)::R)->k w')->Ow B w0 w (cp b m1::R)->Xu b.o n (λw25=>
  ∃a26:qf,X (b.p:qf)=X a26/\
  ∃l27:Sl,w25.cell? a26=X l27.v/\
  ∃a28:qf,l27.a=X a28/\0<=n/\n<(l27.len:U)/\
  St w25 (a28.add (n.toNat*12)) (.z (2:U)) λw29=>k w29) w:=λm1 w k hi1 hT1 hp hk h=>by
    refine ly hi1 hT1 h λw h=>?_;refine D1 (c:=0) (t':={ m1.th n with st:=2}) (by rw[kX];exact hT1) h (by rw[p7];rfl) qb O λw h=>?_;rw[hp]at hk;exact hk w h
   cases hr:m.cj c with
   |none=>
    have hr1:m.run c= -1:=by
     unfold Mt.cj at hr;split at hr
     .cases hr
     .rename_i hh
      by_cases e:m.run c= -1
      .exact e
      .exact qk ⟨hc,e⟩ hh
    rw[hr]at hk15;refine aW O (hk15 _ _ ?_);intro k18 hk18;refine aW O ?_;intro k23 hk23;refine aV O (hk23 _ ?_);exact last m w k18 hi hT (by rw[pc];unfold Mt.pick;rw[hn];simp only;rw[Z hr1]) (λw h=>hk18 _ (fin w h)) h
   |some o=>
    obtain⟨_,oT,oco,ost⟩:=hi.runIn hr;have ho:=hi.ok.runT hr;rw[hr]at hk15;refine aV O ?_;refine vv (c:=1) hT h O ?_;refine vv (c:=1) oT h O ?_;show k15 (qe ((m.th n).pr>(m.th o).pr)) w;by_cases e:(m.th n).pr>(m.th o).pr
    .rw[qp e]
     refine hk15 _ _ ?_;intro k18 hk18;refine aW O ?_;intro k23 hk23;refine aW O ?_;refine jC (n:=o) hi.ok oT h λw h=>hk23 _ ?_;have oT1:(m.leave o 1).dC o=true:=by rw[fe];exact oT
     rw[<-xD hi oT ost]at h;refine last ((m.leave o 1).cW o) w k18 ((hi.leave oT).up oT1) (by rw[ib,fe];exact hT) ?_ (λw h=>hk18 _ (fin w h)) h;rw[pc];unfold Mt.pick;rw[hn];simp only;rw[Y (by rw[ho.2.1];exact ho.2.2.1),ho.2.1,Y om]
    .rw[ql e]
     refine stay ?_;rw[pc];unfold Mt.pick;rw[hn];simp only;rw[Y (by rw[ho.2.1];exact ho.2.2.1),ho.2.1,Z om]
theorem IG{c o v:U}(hi:bR (-1) m)(hT:m.dC o=G):Ez (m.aS o { m.th o with le:=v}) c:=λi hiT=>by
 rw[dN]at hiT;rw[eO hT];have:=hi.yr c i hiT;show m.cj c=X i↔_;rw[this];by_cases e:i=o
 .subst e;rw[Z O]
 .rw[Y e]
theorem mN{c o v:U}{K:I->Pw}(hi:bR (-1) m)(hr:m.cj c=X o)(h:Ow B w0 w (cp b (m.aS o { m.th o with le:=v})::R))(hK:∀w',Ow B w0 w' (cp b (m.yield c)::R)->K G w'):Xm b.o c K w:=by
 apply adJ;obtain⟨hc,oT,oco,ost⟩:=hi.runIn hr;have oT1:∀t,(m.aS o t).dC o=true:=λt=>by rw[dN];exact oT
 refine fT (hi.ok.aS (t:={ m.th o with le:=v}) (hi.ok.th oT).1 O) (IG hi oT) h ?_;have hr2:(m.aS o { m.th o with le:=v}).cj c=X o:=hr;rw[hr2];refine aV O ?_;have e1:(m.aS o { m.th o with le:=v}).th o={ m.th o with le:=v}:=by rw[eO oT,Z O]
 refine D1 (n:=o) (c:=3) (t':={ m.th o with le:=5}) (oT1 _) h (show gU.enc { m.th o with le:=5}=(gU.enc ((m.aS o { m.th o with le:=v}).th o)).set 3 (.z 5)from by rw[e1];rfl) qb O λw h=>?_;rw[FW]at h;have hi1:bR (-1) (m.aS o { m.th o with le:=5}):=hi.Kr (t:={ m.th o with le:=5}) oT O O (λ_=>rfl) (hi.pr o oT) ⟨by show(1:U)<=5;decide,by show(5:U)<=5;decide⟩;refine jC (n:=o) hi1.ok (oT1 _) h λw h=>?_;rw[<-xD hi1 (oT1 _) (by rw[eO oT,Z O];exact ost)]at h;have hy:m.yield c=(((m.aS o { m.th o with le:=5}).leave o 1).cW o).bj c:=by unfold Mt.yield;rw[hr]
 rw[hy]at hK;exact gW ((hi1.leave (oT1 _)).up (by rw[fe];exact oT1 _)) h λw h=>hK w h
theorem uZ{c:U}{K:I->Pw}(hi:bR (-1) m)(h:Ow B w0 w (cp b m::R))(hK:∀w',Ow B w0 w' (cp b (m.yield c)::R)->K (m.cj c).isSome w'):Xm b.o c K w:=by
 cases hr:m.cj c with
 |none=>
  apply adJ;refine fT hi.ok (hi.yr c) h ?_;unfold Mt.yield at hK;rw[hr]at hK|-;exact aW O (hK w h)
 |some o=>
  obtain⟨hc,oT,oco,ost⟩:=hi.runIn hr;rw[hr]at hK;refine mN (o:=o) (v:=(m.th o).le) hi hr ?_ hK;obtain⟨o0,o1,hx⟩:=bV oT;have:m.aS o { m.th o with le:=(m.th o).le}=m:=by
   unfold Mt.aS;have e:m.bK.set o.toNat (m.th o)=m.bK:=by
    apply Td;intro t;rw[To];by_cases e:o.toNat=t
    .subst e;rw[Z O,Z om,hx]
    .rw[Y e]
   show { m with bK:=m.bK.set o.toNat (m.th o)}=m;rw[e]
  rw[this];exact h
theorem wb{c:U}{K:I->Pw}(hi:bR (-1) m)(h:Ow B w0 w (cp b m::R))(hK:∀w',Ow B w0 w' (cp b (m.tick c)::R)->K (m.cj c).isSome w'):W7 b.o c K w:=by
 apply ahQ;refine fT hi.ok (hi.yr c) h ?_;rw[G4 hi]at hK;cases hr:m.cj c with
 |none=>
  rw[hr]at hK;exact aW O (hK w h)
 |some o=>
  obtain⟨hc,oT,oco,ost⟩:=hi.runIn hr;obtain⟨o0,o1,hx⟩:=bV oT;have hle:=hi.le o oT;rw[hr]at hK;simp only at hK;refine aV O ?_;refine h.dr λw h=>?_;have h2:=h;obtain⟨l,q,bs,hbs,h⟩:=h.IE;refine⟨_,O,l,h.aE O,_,O,l,h.aE O,h.cd (s:=l) (i:=o) (j:=o.toNat) om hx λa ha h0 hcc=>⟨_,hcc 3 _ O,?_⟩⟩
  refine h.cd (s:=l) (i:=o) (j:=o.toNat) om hx λa ha h0 hcc=>Go.Vc.a2 ?_;rw[wr om om];refine Qf (c:=3) (t':={ m.th o with le:=(m.th o).le-1}) h o0 hx ha O qb O λw h=>?_;have h:Ow B w0 w (cp b (m.aS o { m.th o with le:=(m.th o).le-1})::R):=Ow.nx (m:=m.aS o { m.th o with le:=(m.th o).le-1}) hbs h;refine vv (n:=o) (x:=(m.th o).le-1) (c:=3) (by rw[dN];exact oT) h (by rw[eO oT,Z O];rfl) ?_;refine dW (λe=>?_) (λe=>?_)
  .rw[Z om]at hK
   exact mN hi hr h λw h=>hK w h
  .rw[Y om]at hK
   exact hK w h
theorem Hq{s:Sl}{ys:J S}{y:S}{c:S}{L:J aG}{k:Sl->Pw}[ale:bG s L S eW ys][ak8:eL (ag eW s ys) L R](h:Ow B w0 w (ae c [.q y]::L))(hbig:ys.length<=1000000000)
  (hk:∀s' w',s'.len=ys.length+1->Ow B w0 w' (ag eW s' (ys++ [y])::R)->k s' w'):
  ∃s' w',dO qh [134,134] 134 s.v (.slice (X c.p) 1 1) w s' w'/\k s' w':=
 Ow.eZ (E:=eW) (y:=y) underlying134 (show qh.info? 259=X akJ from by kernel_rfl) (zv:= .pointer Q) qa qa O qb h (by
  have e:akJ.bytes=8:=qa
  rw[e];omega) hk
theorem yf{c:S}{K:qg qf->U->Pw}(h1:1<=c)(h8:c<=8)(h:Ow B w0 w R)(hK1:∀b w',Ow B w0 w' (cp b (eU c)::R)->K b.o 0 w'):YJ (c:U) K w:=by
 apply ahR;intro k2 hk2;refine av om ?_;rw[ql (show ¬(c:U)>8 by omega)];refine hk2 _ _ (aV O ?_);refine h.a λt w2 h=>?_;have h:Ow B w0 w2 (ag eW z0 []::_):=Ow.cB h;have h:Ow B w0 w2 (ag gU z0 []::_):=Ow.cB h;intro l9 hl9;have loop:∀(k j:S)(q:Sl)(bs:J S)(w:W),j+k=c->bs.length=j->Ow B w0 w (ae t [bz z0,bz q]::ag gU z0 []::ag eW q bs::(SC cQ bs (SB j [])++R))->l9 (j:U) w:=by
  intro k;induction k with
  |zero=>
   intro j q bs w hj hbs h;obtain rfl:j=c:=om
   apply hl9;refine av om ?_;exact hK1 t w (Ow.nx (m:=eU j) (l:=z0) (q:=q) (bs:=bs) (by simp[eU];exact hbs) h)
  |succ k ih=>
   intro j q bs w hj hbs h;apply hl9;refine az om ?_;refine⟨_,O,q,h.aA O,h.a λd3 w3 h=>?_⟩;have h:Ow B w0 w3 (ag yY z0 []::_):=Ow.cB h;have h:Ow B w0 w3 (cQ d3 []::_):=Ow.tH (s:=z0) ⟨qc,qc,qc⟩ h.cC;refine h.a λd4 w4 h=>?_;refine Hq (s:=q) (ys:=bs) (y:=d3) h om λq' w hq' h=>?_;refine⟨_,O,h.fD O O λw h=>?_⟩;rw[wI j om];refine ih (j+1) q' (bs++ [d3]) w om (by simp[hbs]) ?_;have ez:SC cQ (bs++ [d3]) (SB (j+1) [])=SC cQ bs (SB j [])++ [cQ d3 []]:=by rw[List.replicate_succ',Vn (by simp[hbs])];rfl
   rw[ez,S6];have h2:Ow B w0 w (ae t [bz z0,q'.v]::ag gU z0 []::ag eW q' (bs++ [d3])::cQ d3 []::(SC cQ bs (SB j [])++R)):=h.sub;exact h2.perm (((Tw.symm.cons _).cons _).cons _)
 have h3:Ow B w0 w2 (ae t [bz z0,bz z0]::ag gU z0 []::ag eW z0 []::R):=h.lI;exact loop c 0 z0 [] w2 om O h3
end
end Th
namespace Sl
section
variable{B:S}{w0 w:W}{R L:J aG}{b:S}{bits:J U}{H:Hs}
def rowOf(H:Hs)(n:S)(z:U):J dB:=if z= -1 then []else(SF (2^z.toNat)).map λk:S=>(H ((n:U),(k:U))).getD aw
def rowsOf(bits:J U)(H:Hs):J (J dB):=bits.mapIdx λi z=>rowOf H i z
def a8(b:S)(bits:J U)(H:Hs):aG:=oA λx:Sl × J Sl=>aQ [dw (uj bits H),ae b [bz x.1],ag lH x.1 x.2,bA oN x.2 (rowsOf bits H)]
theorem GB{w:W}{a:qf}{x:dB}{f:U->U->U->U->U->U->Prop}(g:∀c v,(oN.enc x)[c]?=X v->w.cell? (a.add c)=X v)(hf:f x.kind x.obj x.ar x.aD x.guard x.bits):
  hI w a 0 [.o,.o,.o,.u,.u,.o] f:=⟨_,g 0 _ O,_,g 1 _ O,_,g 2 _ O,_,g 3 _ O,_,g 4 _ O,_,g 5 _ O,hf⟩
theorem gR(bits:J U)(H:Hs):(rowsOf bits H).length=bits.length:=by unfold rowsOf;simp
theorem dU{bits:J U}{H:Hs}{n:S}{z:U}(h:bits[n]?=X z):(rowsOf bits H)[n]?=X (rowOf H n z):=by unfold rowsOf;rw[T3,h];rfl
theorem gY{H:Hs}{n:S}{z:U}(h:z≠ -1):(rowOf H n z).length=2^z.toNat:=by unfold rowOf;rw[Y h];simp
theorem gX{H:Hs}{n k:S}{z:U}(h:z≠ -1)(hk:k<2^z.toNat):(rowOf H n z)[k]?=X ((H ((n:U),(k:U))).getD aw):=by unfold rowOf;rw[Y h,S2,TT hk];rfl
theorem il{bits:J U}{s:Slot}(h:bc bits s=G):∃(n k:S)(z:U),s=((n:U),(k:U))/\bits[n]?=X z/\z≠ -1/\k<2^z.toNat:=by
 unfold bc at h;cases hz:fa bits s.1 with
 |none=>rw[hz]at h;cases h
 |some z=>
  rw[hz]at h;obtain⟨h1,h2,h3⟩:=lE hz;simp only[qF]at h;rw[show((2:U)^z.toNat)=((2^z.toNat:S):U)from by simp]at h;refine⟨s.1.toNat,s.2.toNat,z,?_,h2,h3,om⟩;rw[TS h1,TS h.1]
theorem IV{bits:J U}{n k:S}{z:U}(h:bits[n]?=X z)(hz:z≠ -1):bc bits ((n:U),(k:U))=qe (k<2^z.toNat):=by unfold bc fa;simp only[SD,h,Y hz];rw[Y om];simp only[qP];rw[show((2:U)^z.toNat)=((2^z.toNat:S):U)from by simp];omega
theorem tU{bits:J U}{H:Hs}{n k:S}{z:U}(h:bits[n]?=X z)(hz:z≠ -1)(hk:k<2^z.toNat)(o:qg dB):rowsOf bits (dj H ((n:U),(k:U)) o)=(rowsOf bits H).set n ((rowOf H n z).set k (o.getD aw)):=by
 apply Td;intro i;rw[To];unfold rowsOf;rw[T3,T3];by_cases e:n=i
 .subst e
  have hl:=(Sz.1 h).1;rw[Z O,Z (by simpa using hl),h];simp only[TM,Option.some.injEq];apply Td;intro j;rw[To];unfold rowOf;rw[Y hz,Y hz,S2,S2];by_cases e2:k=j
  .subst e2
   rw[Z O,Z (by simpa using hk),TT hk];simp[dj]
  .rw[Y e2]
   have h0:dj H ((n:U),(k:U)) o ((n:U),((j:S):U))=H ((n:U),((j:S):U)):=by unfold dj;rw[Y];intro hc;simp only[Prod.mk.injEq]at hc;omega
   rcases Wi j (2^z.toNat)with hj|hj
   .rw[TT hj];simp only[TM];rw[h0]
   .rw[SZ (by simpa using hj)];rfl
 .rw[Y e]
  cases hb:bits[i]? with
  |none=>rfl
  |some y=>
   simp only[TM,Option.some.injEq];unfold rowOf;split
   .rfl
   .apply List.map_congr_left
    intro j _;unfold dj;rw[Y];intro hc;simp only[Prod.mk.injEq]at hc;omega
theorem _root_.Go.Vc.Ow.nE(h:Ow B w0 w (a8 b bits H::R)):∃s ss,uj bits H/\ss.length=bits.length/\Ow B w0 w (bA oN ss (rowsOf bits H)::ae b [bz s]::ag lH s ss::R):=by obtain⟨x,h⟩:=h.ex;obtain⟨h1,h⟩:=Ow.pure h.star;have h2:Ow B w0 w (bA oN x.2 (rowsOf bits H)::ae b [bz x.1]::ag lH x.1 x.2::R):=h.lI;exact⟨x.1,x.2,h1,by rw[h2.DS.1,gR],h2⟩
theorem _root_.Go.Vc.Ow.eR{s:Sl}{ss:J Sl}(h1:uj bits H)(h:Ow B w0 w (bA oN ss (rowsOf bits H)::ae b [bz s]::ag lH s ss::R)):Ow B w0 w (a8 b bits H::R):=
 Ow.eu (s,ss) (Ow.aR (Ow.cI h1 (h.sub:Ow B w0 w (ae b [bz s]::ag lH s ss::bA oN ss (rowsOf bits H)::R))))
theorem _root_.Go.Vc.Ow.PY(h:Ow B w0 w (a8 b bits H::R)):uj bits H:=by obtain⟨_,_,h,_⟩:=h.nE;exact h
theorem gQ{s:Slot}{K:I->Pw}(h:Ow B w0 w (a8 b bits H::R))(hK:∀w',Ow B w0 w' (a8 b bits H::R)->K (bc bits s) w'):aa1 b.o s.1 s.2 K w:=by
 apply aiW;obtain⟨sl,ss,hk,hsl,h⟩:=h.nE;refine h.al λw1 h=>?_;refine h.dr λw h=>?_;have hlen:=h.aF sl;have fin:Ow B w0 w (a8 b bits H::R):=Ow.eR (s:=sl) (ss:=ss) hk h.sub;have hF:bc bits s=qd->K qd w:=λe=>by rw[<-e];exact hK _ fin
 (refine h.l1 O ?_)
 refine bh (λe1=>?_) (λe1=>hF (by unfold bc fa;rw[Z om]));repeat first|refine h.l1 O ?_|refine fy ?_
 refine bh (λe2=>?_) (λe2=>hF (by unfold bc fa;rw[Y om,SZ om]));obtain⟨n,hn⟩:=SI (show 0<=s.1 by omega);have hnl:n<bits.length:=om
 have hb:bits[n]?=X bits[n]:=gE hnl;obtain⟨sn,hss⟩:∃sn,ss[n]?=X sn:=⟨_,gE om⟩
 generalize bits[n]=z at hb;have hrl:=(h.drop.sub:Ow B w0 w (bA oN ss (rowsOf bits H)::ae b [bz sl]::ag lH sl ss::R)).gY hss (dU hb)
 (refine h.l1 O ?_)
 refine bh (λe3=>?_) (λe3=>?_)
 ·(repeat first|refine h.l1 O ?_|refine fy ?_)
  refine h.cd hn hss λa ha hc0 hc=>?_;refine⟨_,hc0 _ O,?_⟩;obtain⟨k,hk2⟩:=SI (show 0<=s.2 by omega);have hs:s=((n:U),(k:U)):=by rw[<-hn,<-hk2]
  have ht:bc bits s=qe (s.2<(sn.len:U)):=by
   rw[hs,hrl];by_cases hz:z= -1
   .have hg:bc bits ((n:U),(k:U))=false:=by unfold bc fa;simp only[SD,hb,Z hz];rw[Y om]
    rw[hg];unfold rowOf;rw[Z hz];simp
   .rw[IV hb hz,gY hz,qP];exact Int.ofNat_lt.symm
  rw[<-ht];exact hK _ fin
 .exact hF (by
   have hs2:s.2<0:=om
   unfold bc;split
   .rw[ql];omega
   .rfl)
theorem yd{s:Slot}{K:U->U->U->U->U->U->U->Pw}(h:Ow B w0 w (a8 b bits H::R))
  (hK:∀w' c e,(c,e)=Bs bits H s->gl c->Ow B w0 w' (a8 b bits H::R)->K c.kind c.obj c.ar c.aD c.guard c.bits e w'):abw b.o s.1 s.2 K w:=by
 apply aiX;have hk:=h.PY;repeat first|refine h.al λw h=>?_|refine h.aM O ?_
 refine gQ (s:=s) h.lI λw h=>?_;unfold Bs at hK;refine Nu (λe=>?_) (λe=>?_)
 ·(repeat first|refine h.aM O ?_|refine h.aB O O λw h=>?_)
  exact hK _ aw 50 (by rw[Z e]) ⟨qb,qb,qb,qb⟩ h.sub
 .rw[Y (by rw[e];decide)]at hK
  obtain⟨n,k,z,rfl,hb,hz,hkl⟩:=il e;obtain⟨sl,ss,_,hsl,h⟩:=h.nE;obtain⟨sn,hss⟩:∃sn,ss[n]?=X sn:=⟨_,gE (by have:=(Sz.1 hb).1;omega)⟩
  repeat first|refine h.dr λw h=>?_|refine h.l1 O ?_|refine fy ?_
  refine h.cd O hss λa ha hc0 hc=>?_;refine⟨_,hc0 _ O,?_⟩
  (refine h.l1 O ?_)
  refine h.wg hss (dU hb) O (gX hz hkl) λa2 ha2 hd0 hd=>?_;have hcR:=hk.NW ((n:U),(k:U));generalize hcc:(H ((n:U),(k:U))).getD aw=c at hd hd0 hcR hK;refine GB hd ?_;refine _root_.Go.Vc.a2 ?_;repeat first|refine h.aM O ?_|refine h.aB O O λw h=>?_
  exact hK _ c 0 O hcR (Ow.eR (s:=sl) (ss:=ss) hk h.sub)
theorem ID{bits:J U}{H:Hs}(hk:uj bits H){z:U}(hz:z≠ -1):rowsOf (bits++ [z]) H=rowsOf bits H++ [SB (2^z.toNat) aw]:=by
 unfold rowsOf;rw[List.mapIdx_concat];congr 2;unfold rowOf;rw[Y hz];apply Td;intro k;rw[S2];rcases Wi k (2^z.toNat)with hj|hj
 .rw[TT hj,List.getElem?_replicate,Z hj]
  simp only[TM,Option.some.injEq];cases hs:H ((bits.length:U),(k:U))with
  |none=>rfl
  |some c=>
   have:=(hk.held _ _ hs).1;unfold bc fa at this;rw[Y (by simp only;omega)]at this;simp only[SD,SZ (SA _)]at this;cases this
 .rw[SZ (by simpa using hj),SZ (by simpa using hj)];rfl
theorem uy{w:W}{L R':J aG}{s:Sl}{xs:J Sl}{y:Sl}{c:S}{k:Sl->Pw}[ale:bG s L Sl lH xs][ak8:eL (ag lH s xs) L R'](h:Ow B w0 w (ae c [y.v]::L))(hbig:xs.length<=1000000)
  (hk:∀s' w',s'.len=xs.length+1->Ow B w0 w' (ag lH s' (xs++ [y])::R')->k s' w'):
  ∃s' w',dO qh [121,121] 121 s.v (.slice (X c.p) 1 1) w s' w'/\k s' w':=
 Ow.eZ (E:=lH) (y:=y) (R:=R') underlying121 (show qh.info? 202=X akK from by kernel_rfl) (zv:= .slice Q 0 0) qa qa O qb h (by
  have e:akK.bytes=24:=qa
  rw[e];omega) hk
theorem ML{w:W}{L:J aG}{n:U}{k:Sl->Pw}(h:Ow B w0 w L)(h0:0<=n)(hn:n<=1000000)(hk:∀s' w',s'.len=n.toNat->Ow B w0 w' (ag oN s' (SB n.toNat aw)::L)->k s' w'):
  ∃s' w',sU qh 202 (.z n) (.z n) w s' w'/\k s' w':=
 Ow.si (E:=oN) (z0:=aw) underlying202 (show qh.info? 157=X akL from by kernel_rfl) (zv:=jX aw) qa qa O h h0 (by
  have e:akL.bytes=48:=qa
  rw[e];omega) om hk
theorem nU{z:U}{K:U->U->Pw}(h:Ow B w0 w (a8 b bits H::R))(hK:∀w',Ow B w0 w' (a8 b (fq bits z).2.2 H::R)->K (fq bits z).1 (fq bits z).2.1 w'):YL b.o z K w:=by
 apply aiT;intro k3 hk3;have h3:(z<1\/8<z)->k3 G w:=λe=>by
  apply hk3;have e2:fq bits z=(0,1,bits):=by unfold fq;rw[Z e]
  rw[e2]at hK;exact aW O (hK _ h)
 refine bh (λe=>h3 (.inl e)) (λe1=>?_);by_cases e2:8<z
 .rw[qp om];exact h3 (.inr e2)
 rw[ql om];apply hk3;refine aV O ?_;obtain⟨sl,ss,hk,hsl,h⟩:=h.nE;have hlen:=h.aF sl;have hfew:=hk.fu;repeat first|refine h.l1 O ?_|refine fy ?_
 refine bh (λe3=>?_) (λe3=>?_)
 .have e4:fq bits z=(0,2,bits):=by unfold fq;rw[Y om,Z om]
  rw[e4]at hK;exact hK _ (Ow.eR (s:=sl) (ss:=ss) hk h.sub)
 have e4:fq bits z=((bits.length:U),0,bits++ [z]):=by unfold fq;rw[Y om,Y om]
 rw[e4]at hK;obtain⟨m,rfl⟩:=SI (show 0<=z by omega);have hle:2^m<=2^8:=Ty om om;intro k8 hk8;have fin:∀(w:W)(s' sn:Sl),s'.len=ss.length+1->Ow B w0 w (ag lH s' (ss++ [sn])::ag oN sn (SB (2^m) aw)::bA oN ss (rowsOf bits H)::ae b [bz s']::R)->k8 w:=by
  intro w s' sn hs' h;apply hk8;repeat first|refine h.l1 O ?_|refine fy ?_
  rw[show qj.wrap ((s'.len:U)-1)=(bits.length:U)from by rw[wr om om];omega];have h2:Ow B w0 w (bA oN (ss++ [sn]) (rowsOf bits H++ [SB (2^m) aw])::ag lH s' (ss++ [sn])::ae b [bz s']::R):=Ow.B7 h.sub;have h3:=ID (z:=(m:U)) hk om;rw[SD]at h3;rw[<-h3]at h2;exact hK _ (Ow.eR (s:=s') (ss:=ss++ [sn]) (hk.make om om om) h2.sub)
 have mk:∀(w:W)(k:Sl->Pw),Ow B w0 w (bA oN ss (rowsOf bits H)::ae b [bz sl]::ag lH sl ss::R)->
   (∀s' w',Ow B w0 w' (ag oN s' (SB (2^m) aw)::bA oN ss (rowsOf bits H)::ae b [bz sl]::ag lH sl ss::R)->k s' w')->
   ∃s' w',sU qh 202 (.z (qj.wrap ((2^m:S):U))) (.z (qj.wrap ((2^m:S):U))) w s' w'/\k s' w':=λw k h hk=>by
  rw[wr (Int.le_trans qb (UJ _)) om];refine ML h (UJ _) om λs' w' hs' h'=>?_;rw[SD]at h';exact hk s' w' h'
 repeat first|refine h.dr λw h=>?_|refine fy ?_
 refine⟨?_,?_,trivial⟩
 ·(repeat first|refine h.l1 O ?_|refine _root_.Go.Vc.a2 ?_)
  refine dz om ?_
  (refine _root_.Go.Vc.a2 ?_)
  refine mk _ _ h λsn w h=>?_;repeat first|refine h.al λw h=>?_|refine _root_.Go.Vc.a2 ?_
  refine uy h om λs' w hs' h=>?_;repeat first|refine fy ?_|refine _root_.Go.Vc.a2 ?_|refine h.jD O O λw h=>?_
  exact fin _ s' sn hs' h.sub
 .refine dz om ?_
  refine⟨?_,?_,trivial⟩
  ·(repeat first|refine h.l1 O ?_|refine _root_.Go.Vc.a2 ?_)
   refine mk _ _ h λsn w h=>?_;repeat first|refine h.al λw h=>?_|refine _root_.Go.Vc.a2 ?_
   refine uy h om λs' w hs' h=>?_;repeat first|refine fy ?_|refine _root_.Go.Vc.a2 ?_|refine h.jD O O λw h=>?_
   exact fin _ s' sn hs' h.sub
  .refine mk _ _ h λsn w h=>?_
   repeat first|refine h.al λw h=>?_|refine h.l1 O ?_|refine _root_.Go.Vc.a2 ?_
   refine uy h om λs' w hs' h=>?_;repeat first|refine fy ?_|refine _root_.Go.Vc.a2 ?_|refine h.jD O O λw h=>?_
   exact fin _ s' sn hs' h.sub
theorem pz{s:Slot}{c:dB}{K:U->Pw}(hc:gl c)(h:Ow B w0 w (a8 b bits H::R))(hK:∀w',Ow B w0 w' (a8 b bits (kc bits H s c).2::R)->K (kc bits H s c).1 w'):
  ZQ b.o s.1 s.2 c.kind c.obj c.ar c.aD c.guard c.bits K w:=by
 apply aiU;repeat first|refine h.al λw h=>?_|refine h.aM O ?_
 refine gQ (s:=s) h.lI λw h=>?_;refine Nu (λe=>?_) (λe=>?_)
 .have ep:kc bits H s c=(50,H):=by unfold kc;rw[Z e]
  rw[ep]at hK;exact hK _ h.sub
 have ht':¬bc bits s=false:=by rw[e];decide
 repeat refine h.aM O ?_
 refine mL h hc λw h=>?_;refine pR (λe1=>?_) (λe1=>?_)
 .have ep:kc bits H s c=(cH c,H):=by unfold kc;rw[Y ht',Z e1]
  rw[ep]at hK;exact hK _ h.sub
 (refine h.l1 O ?_)
 refine dW (λe2=>?_) (λe2=>?_)
 .have ep:kc bits H s c=(1,H):=by unfold kc;rw[Y ht',Y om,Z e2]
  rw[ep]at hK;exact hK _ h.sub
 have hth:=e;obtain⟨n,k,z,rfl,hb,hz,hkl⟩:=il e;obtain⟨sl,ss,hk,hsl,h⟩:=h.nE;obtain⟨sn,hss⟩:∃sn,ss[n]?=X sn:=⟨_,gE (by have:=(Sz.1 hb).1;omega)⟩
 repeat first|refine h.dr λw h=>?_|refine h.l1 O ?_|refine fy ?_
 refine h.cd O hss λa ha hc0 hc1=>?_;refine⟨_,hc0 _ O,?_⟩
 (refine h.l1 O ?_)
 refine h.wg hss (dU hb) O (gX hz hkl) λa2 ha2 hd0 hd=>?_;refine⟨((H ((n:U),(k:U))).getD aw).kind,hd0 _ O,?_⟩;cases hs:H ((n:U),(k:U))with
 |some c'=>
  have ep:kc bits H ((n:U),(k:U)) c=(51,H):=by unfold kc;rw[Y ht',Y om,Y e2,Z (by rw[hs];rfl)]
  rw[ep]at hK;refine iw (hk.held _ _ hs).2.2.1 ?_;exact hK _ (Ow.eR (s:=sl) (ss:=ss) hk h.sub)
 |none=>
  have ep:kc bits H ((n:U),(k:U)) c=(0,dj H ((n:U),(k:U)) (X c)):=by unfold kc;rw[Y ht',Y om,Y e2,Y (by rw[hs];decide)]
  rw[ep]at hK;refine fh O ?_;repeat first|refine h.dr λw h=>?_|refine h.l1 O ?_|refine fy ?_
  refine h.cd O hss λa ha hc0 hc1=>?_;refine⟨_,hc0 _ O,?_⟩;repeat first|refine h.aM O ?_|refine h.l1 O ?_
  refine h.wg hss (dU hb) O (gX hz hkl) λa2 ha2 hd0 hd=>?_
  (refine _root_.Go.Vc.a2 ?_)
  refine h.M4 c hss (dU hb) O (by rw[gY hz];exact hkl) ha2 λw h=>?_;rw[show(rowsOf bits H).set n ((rowOf H n z).set k c)=rowsOf bits (dj H ((n:U),(k:U)) (X c))from(tU hb hz hkl (X c)).symm]at h;exact hK _ (Ow.eR (s:=sl) (ss:=ss) (hk.put hth om e2 hc) h.sub)
end
end Sl
namespace Tr
section
variable{B:S}{w0 w:W}{R L:J aG}{b:S}{T:Tr}
theorem Ie{T:Tr}(hT:rP T){i:S}{x:fw}(hx:T[i]?=X x):bM T x.1=X i:=by have hi:=(Sz.1 hx).1;unfold bM;rw[List.findIdx?_eq_some_iff_getElem];rw[gE hi]at hx;cases hx;refine⟨hi,qc,λj hj=>?_⟩;have hn:=List.pairwise_iff_getElem.1 hT.nd j i (by simpa using Nat.lt_trans hj hi) (by simpa using hi) hj;simp only[List.getElem_map]at hn;simp[hn]
theorem xS{T:Tr}{s:Slot}:bM T s=Q↔s∉T.map (·.1):=by
 unfold bM;rw[List.findIdx?_eq_none_iff];constructor
 .intro h hm
  obtain⟨x,hx,rfl⟩:=Tj.1 hm;have:=h x hx;simp at this
 .intro h x hx
  simp only[aj6];intro e;exact h (Tj.2 ⟨x,hx,e⟩)
def mv(T:Tr):J Slot:=T.map λx=>x.1
def nO(T:Tr):J U:=T.map λx=>x.2
theorem gG(T:Tr):(mv T).length=T.length:=by unfold mv;simp
theorem Bl(T:Tr):(nO T).length=T.length:=by unfold nO;simp
theorem wM{T:Tr}{k:S}{x:fw}(h:T[k]?=X x):(mv T)[k]?=X x.1:=by unfold mv;rw[S2,h];rfl
theorem te{T:Tr}{k:S}{x:fw}(h:T[k]?=X x):(nO T)[k]?=X x.2:=by unfold nO;rw[S2,h];rfl
theorem yz{T:Tr}{e:S}{x:fw}(h:T[e]?=X x):mv (T.take e)++ [x.1]=mv (T.take (e+1)):=by unfold mv;rw[SO,h,S0];rfl
theorem xu{T:Tr}{e:S}{x:fw}(h:T[e]?=X x):nO (T.take e)++ [x.2]=nO (T.take (e+1)):=by unfold nO;rw[SO,h,S0];rfl
def cQ(b:S)(T:Tr):aG:=oA λp:Sl × Sl=>aQ [ae b [bz p.1,bz p.2],ag aK p.1 (mv T),ag ax p.2 (nO T)]
theorem _root_.Go.Vc.Ow.ref(h:Ow B w0 w (cQ b T::R)):∃s d,Ow B w0 w (ag aK s (mv T)::ag ax d (nO T)::ae b [bz s,bz d]::R):=by obtain⟨⟨s,d⟩,h⟩:=h.ex;have h:=h.star;exact⟨s,d,h.cC.lI.cC⟩
theorem _root_.Go.Vc.Ow.ka{s d:Sl}(h:Ow B w0 w (ag aK s (mv T)::ag ax d (nO T)::ae b [bz s,bz d]::R)):Ow B w0 w (cQ b T::R):=
 Ow.eu (s,d) (Ow.aR h.lI)
theorem eS{s:Sl}{ys:J U}{y:U}{c:S}{k:Sl->Pw}[ale:bG s L U ax ys][ak8:eL (ag ax s ys) L R](h:Ow B w0 w (ae c [.z y]::L))(hbig:ys.length<=1000000000)
  (hk:∀s' w',s'.len=ys.length+1->Ow B w0 w' (ag ax s' (ys++ [y])::R)->k s' w'):
  ∃s' w',dO qh [22,22] 22 s.v (.slice (X c.p) 1 1) w s' w'/\k s' w':=
 Ow.eZ (E:=ax) (y:=y) qJ (show qh.info? 3=X qI from by kernel_rfl) (zv:= .z 0) qa qa O qb h (by
  have e:qI.bytes=8:=qa
  rw[e];omega) hk
theorem lA{s d:Sl}{x:Slot}{K:U->Pw}(hT:rP T)(h:Ow B w0 w (ag aK s (mv T)::ag ax d (nO T)::ae b [bz s,bz d]::R))(hK:∀w',Ow B w0 w' (ag aK s (mv T)::ag ax d (nO T)::ae b [bz s,bz d]::R)->K (match bM T x with|some i=>(i:U)|none=> -1) w'):
  aa3 b.o x.1 x.2 K w:=by
 apply ai2;have hlen:=h.aF s;rw[gG]at hlen;have hfew:=hT.fu;refine h.a λc w1 h=>?_;intro l hl;have loop:∀(m k:S)(w:W),k+m=T.length->(∀r y,r<k->T[r]?=X y->y.1≠x)->Ow B w0 w (ae c [.z x.1,.z x.2]::ag aK s (mv T)::ag ax d (nO T)::ae b [bz s,bz d]::R)->l (k:U) w:=by
  intro m;induction m with
  |zero=>
   intro k w hk hno h;apply hl;repeat first|refine h.l1 O ?_|refine fy ?_
   refine av om ?_;have hn:bM T x=none:=xS.2 λhm=>by obtain⟨y,hy,hyx⟩:=Tj.1 hm;obtain⟨r,hr⟩:=Tg.1 hy;have:=(Sz.1 hr).1;exact hno r y om hr hyx
   rw[hn]at hK;exact hK _ h.sub
  |succ m ih=>
   intro k w hk hno h;obtain⟨y,hy⟩:∃y,T[k]?=X y:=⟨_,gE om⟩
   apply hl;repeat first|refine h.l1 O ?_|refine fy ?_
   refine az om ?_;repeat first|refine h.dr λw h=>?_|refine h.l1 O ?_|refine fy ?_
   refine h.cd (s:=s) O (wM hy) λa ha h0 hc=>?_;refine l0 (x:=y.1) hc ?_
   (refine h.aM O ?_)
   refine⟨_,LF y.1 x,bh (λe=>?_) (λe=>?_)⟩
   .rw[<-e,Ie hT hy]at hK
    exact hK _ h.sub
   .rw[wI k om]
    refine ih (k+1) _ om (λr z hr hz=>?_) h;by_cases h1:r=k
    .subst h1;rw[hy]at hz;cases hz;exact e
    .exact hno r z om hz
 exact loop T.length 0 _ om (λr y h1=>by omega) h
theorem FL{s d:Sl}{i:S}{K:U->Pw}(hT:rP T)(hi:i<T.length)(h:Ow B w0 w (ag aK s (mv T)::ag ax d (nO T)::ae b [bz s,bz d]::R))(hK:∀w',Ow B w0 w' (ag aK s (mv T)::ag ax d (nO T)::ae b [bz s,bz d]::R)->K ((eJ T i:S):U) w'):
  abI b.o (i:U) K w:=by
 apply ai6;have hlen:=h.aF s;rw[gG]at hlen;have hfew:=hT.fu;obtain⟨xi,hxi⟩:∃x,T[i]?=X x:=⟨_,gE hi⟩
 intro l hl;have loop:∀(rest:Tr)(k:S)(w:W),T.drop k=rest->k<=T.length->i<k->k+(rest.takeWhile λx=>qe (xt T i<x.2)).length=eJ T i->Ow B w0 w (ag aK s (mv T)::ag ax d (nO T)::ae b [bz s,bz d]::R)->l (k:U) w:=by
  intro rest;induction rest with
  |nil=>
   intro k w hk hkl hik he h;have:T.length<=k:=by have:=qz TO hk;simp at this;omega
   apply hl;repeat first|refine h.l1 O ?_|refine fy ?_
   refine av om ?_;have:k=eJ T i:=by simpa using he
   repeat first|refine h.l1 O ?_|refine fy ?_
   rw[hlen,show T.length=eJ T i from by omega];exact hK _ h
  |cons y rest ih=>
   intro k w hk hkl hik he h;have hkl2:k<T.length:=by have:=qz TO hk;simp at this;omega
   have hx:T[k]?=X y:=by have:=qz (λl=>l[0]?) hk;simpa using this
   apply hl;repeat first|refine h.l1 O ?_|refine fy ?_
   refine az om ?_;repeat first|refine h.dr λw h=>?_|refine h.l1 O ?_|refine fy ?_
   refine h.cd (s:=d) O (te hx) λa ha h0 hc=>⟨_,h0 _ O,?_⟩
   repeat first|refine h.l1 O ?_|refine fy ?_
   refine h.cd (s:=d) O (te hxi) λa ha h0 hc=>⟨_,h0 _ O,?_⟩
   refine bh (λe=>?_) (λe=>?_)
   .rw[List.takeWhile_cons_of_neg (by rw[iF hxi];simpa using e)]at he
    have:k=eJ T i:=by simpa using he
    rw[this];exact hK _ h
   .rw[wr om om]
    refine ih (k+1) _ (by rw[<-List.drop_drop,hk];rfl) om om ?_ h;rw[List.takeWhile_cons_of_pos (by rw[iF hxi];simpa using e)]at he;simp at he;omega
 rw[wI i om];exact loop _ (i+1) w O om om O h
def vX(T:Tr)(i:S)(z:fw):Tr:=T.take i++z::T.drop i
theorem MV{T:Tr}{i:S}{z:fw}(hi:i<=T.length):(∀r,r<i->(vX T i z)[r]?=T[r]?)/\(vX T i z)[i]?=X z/\(∀r,i<=r->(vX T i z)[r+1]?=T[r]?):=by
 have h1:(T.take i).length=i:=by simp;omega
 unfold vX;refine⟨λr hr=>?_,?_,λr hr=>?_⟩
 .rw[SM om,S5,Z hr]
 .rw[SP om,h1,Nat.sub_self];rfl
 .rw[SP om,h1,show r+1-i=(r-i)+1 from by omega,List.getElem?_cons_succ,S8,show i+(r-i)=r from by omega]
theorem MW{T:Tr}{i:S}{z:fw}(hi:i<=T.length):(vX T i z).length=T.length+1:=by unfold vX;simp;omega
theorem Lo{s d:Sl}{i:S}{z:fw}{K:Pw}(hl:T.length<1000000)(hi:i<=T.length)(h:Ow B w0 w (ag aK s (mv T)::ag ax d (nO T)::ae b [bz s,bz d]::R))(hK:∀w',Ow B w0 w' (cQ b (vX T i z)::R)->K w'):
  XX b.o (i:U) z.1.1 z.1.2 z.2 K w:=by
 apply ai3;have hlen:=h.aF s;rw[gG]at hlen;obtain⟨g1,g2,g3⟩:=MV (z:=z) hi;have hpl:=MW (z:=z) hi;generalize vX T i z=T' at*
 refine h.a λc w1 h=>?_;refine h.a λc1 w2 h=>?_;refine h.a λc2 w3 h=>?_;have h:Ow B w0 w3 (ag ax ⟨X c2.p,0,0⟩ []::_):=h.empty;have h:Ow B w0 w3 (ag aK ⟨X c1.p,0,0⟩ []::_):=h.cC.empty;intro l hlp;have loop:∀(m k:S)(l1 d1:Sl)(w:W),k+m=T.length+1->Ow B w0 w (ag aK l1 (mv (T'.take (if k<=i then k else k+1)))::ag ax d1 (nO (T'.take (if k<=i then k else k+1)))::ae c [.z z.1.1,.z z.1.2]::ag aK s (mv T)::ag ax d (nO T)::ae b [bz s,bz d]::R)->l l1 d1 (k:U) w:=by
  intro m;induction m with
  |zero=>
   intro k l1 d1 w hk h;rw[Y (show ¬k<=i by omega),SE om]at h;apply hlp;repeat first|refine h.l1 O ?_|refine fy ?_
   refine av om ?_;repeat first|refine fy ?_|refine h.jD O O λw h=>?_
   exact hK _ (Ow.ka (s:=l1) (d:=d1) h.sub)
  |succ m ih=>
   intro k l1 d1 w hk h;have hwk:qj.wrap ((k:U)+1)=((k+1:S):U):=by rw[wr om om];omega
   apply hlp;repeat first|refine h.l1 O ?_|refine fy ?_
   refine az om ?_;intro k16 hk16;have second:∀(l2 d2:Sl)(w:W),Ow B w0 w (ag aK l2 (mv (T'.take (if k<i then k else k+1)))::ag ax d2 (nO (T'.take (if k<i then k else k+1)))::ae c [.z z.1.1,.z z.1.2]::ag aK s (mv T)::ag ax d (nO T)::ae b [bz s,bz d]::R)->k16 l2 d2 w:=by
    intro l2 d2 w h;apply hk16;repeat first|refine h.l1 O ?_|refine fy ?_
    refine bh (λe=>?_) (λe=>?_)
    .obtain ⟨y,hy⟩:∃y,T[k]?=X y:=⟨_,gE om⟩
     have hy':T'[if k<i then k else k+1]?=X y:=by
      by_cases h1:k<i
      .rw[Z h1,g1 k h1,hy]
      .rw[Y h1,g3 k om,hy]
     have hnext:(if k+1<=i then k+1 else k+1+1)=(if k<i then k else k+1)+1:=by split<;>split<;>omega
     have hib:(if k<i then k else k+1)<=1000001:=by split<;>omega
     generalize (if k<i then k else k+1)=e2 at*
     repeat first|refine h.l1 O ?_|refine fy ?_
     refine h.cd (s:=s) O (wM hy) λa ha h0 hc=>?_;refine l0 (x:=y.1) hc ?_;refine h.al λw1 h=>?_;refine ky (ys:=mv (T'.take e2)) (y:=y.1) h (by rw[gG];simp;omega) λl3 w hl3 h=>?_;repeat first|refine h.l1 O ?_|refine fy ?_
     refine h.cd (s:=d) O (te hy) λa ha h0 hc=>⟨_,h0 _ O,?_⟩
     refine h.al λw1 h=>?_;refine eS (ys:=nO (T'.take e2)) (y:=y.2) h (by rw[Bl];simp;omega) λd3 w hd3 h=>?_;rw[yz hy',xu hy',<-hnext]at h;rw[hwk];exact ih (k+1) l3 d3 w om h.sub
    .have h1:T'.take (if k+1<=i then k+1 else k+1+1)=T'.take (if k<i then k else k+1):=by rw[Y om,Y om,SE om,SE om]
     rw[hwk];refine ih (k+1) l2 d2 w om ?_;rw[h1];exact h
   refine dW (λe=>?_) (λe=>?_)
   .have hki:k=i:=om
    have e1:(if k<=i then k else k+1)=i:=by rw[Z om];exact hki
    have e2:(if k<i then k else k+1)=i+1:=by rw[Y om];omega
    rw[e1]at h;rw[e2]at second;repeat first|refine h.al λw h=>?_|refine h.aM O ?_
    refine ky (ys:=mv (T'.take i)) (y:=z.1) h (by rw[gG];simp;omega) λl3 w hl3 h=>?_;refine h.al λw1 h=>?_;refine eS (ys:=nO (T'.take i)) (y:=z.2) h (by rw[Bl];simp;omega) λd3 w hd3 h=>?_;rw[yz g2,xu g2]at h;exact second l3 d3 w h.sub
   .have e1:(if k<=i then k else k+1)=(if k<i then k else k+1):=by split<;>split<;>omega
    rw[e1]at h;exact second l1 d1 w h
 refine loop (T.length+1) 0 _ _ w3 om ?_;rw[Z om];exact h
theorem Fy{s:Slot}{K:U->Pw}(hT:rP T)(hl:T.length<1000000)(h:Ow B w0 w (cQ b T::R))(hK:∀w',Ow B w0 w' (cQ b (pC T s).2::R)->K (pC T s).1 w'):ZR b.o s.1 s.2 K w:=by
 apply aiZ;obtain⟨sl,dd,h⟩:=h.ref;have hlen:=h.aF sl;rw[gG]at hlen;unfold pC at hK;refine h.a λc w1 h=>?_
 (refine h.aM O ?_)
 refine lA (x:=s) hT h.yQ.yQ.yQ λw h=>?_;cases hp:bM T s with
 |some i=>
  rw[hp]at hK;refine az (by show(i:U)>=0;omega) ?_;exact hK _ (Ow.ka (s:=sl) (d:=dd) h.sub)
 |none=>
  rw[hp]at hK;refine av qb ?_;have e:vX T T.length (s,0)=T++ [(s,0)]:=by unfold vX;simp
  repeat first|refine h.dr λw h=>?_|refine h.aM O ?_|refine h.l1 O ?_|refine fy ?_|refine _root_.Go.Vc.a2 ?_
  rw[hlen];refine Lo (z:=(s,0)) hl (SA _) h λw h=>?_;rw[e]at h;exact hK _ h.sub
theorem Io{p s:Slot}{K:U->Pw}(hT:rP T)(hl:T.length<1000000)(h:Ow B w0 w (cQ b T::R))(hK:∀w',Ow B w0 w' (cQ b (A7 T p s).2::R)->K (A7 T p s).1 w'):abB b.o p.1 p.2 s.1 s.2 K w:=by
 apply ai4;obtain⟨sl,dd,h⟩:=h.ref;unfold A7 at hK;refine h.a λc w1 h=>?_;refine h.a λc1 w2 h=>?_
 (refine h.aM O ?_)
 refine lA (R:=ae c1 [.z s.1,.z s.2]::ae c [.z p.1,.z p.2]::R) (s:=sl) (d:=dd) (x:=p) hT h.sub λw h=>?_;cases hp:bM T p with
 |none=>
  rw[hp]at hK;refine az qb ?_;exact hK _ (Ow.ka (s:=sl) (d:=dd) h.sub)
 |some i=>
  obtain⟨x,hx,hxp⟩:=dZ hp;have hr:=hT.zr hx;have hi:=(Sz.1 hx).1;rw[hp]at hK;refine av (by show ¬(i:U)<0;omega) ?_
  (refine h.aM O ?_)
  refine lA (x:=s) hT h λw h=>?_;cases hs:bM T s with
  |some j=>
   simp only[hs]at hK;refine az (by show(j:U)>=0;omega) ?_;exact hK _ (Ow.ka (s:=sl) (d:=dd) h.sub)
  |none=>
   simp only[hs]at hK;refine av qb ?_;repeat first|refine h.dr λw h=>?_|refine h.aM O ?_|refine h.l1 O ?_|refine fy ?_
   refine h.cd (s:=dd) O (te hx) λa ha h0 hc=>⟨_,h0 _ O,?_⟩
   rw[show qj.wrap (x.2+1)=xt T i+1 from by rw[iF hx,wr om om]]
   (refine _root_.Go.Vc.a2 ?_)
   show XX _ (qj.wrap ((i:U)+1)) _ _ _ _ _;rw[wI i om];have e:vX T (i+1) (s,xt T i+1)=T.take (i+1)++ [(s,xt T i+1)]++T.drop (i+1):=by unfold vX;simp
   refine Lo (z:=(s,xt T i+1)) hl om h λw h=>?_;rw[e]at h;exact hK _ h.sub
theorem Fw{f t:Slot}{K:U->Pw}(hT:rP T)(h:Ow B w0 w (cQ b T::R))(hK:∀w',Ow B w0 w' (cQ b (eP T f t).2::R)->K (eP T f t).1 w'):aaa b.o f.1 f.2 t.1 t.2 K w:=by
 apply ai0;obtain⟨sl,dd,h⟩:=h.ref;unfold eP at hK;refine h.a λc w1 h=>?_;refine h.a λc1 w2 h=>?_
 (refine h.aM O ?_)
 refine lA (R:=ae c1 [.z t.1,.z t.2]::ae c [.z f.1,.z f.2]::R) (s:=sl) (d:=dd) (x:=f) hT h.sub λw h=>?_;cases hp:bM T f with
 |none=>
  rw[hp]at hK;refine az qb ?_;exact hK _ (Ow.ka (s:=sl) (d:=dd) h.sub)
 |some i=>
  obtain⟨x,hx,hxp⟩:=dZ hp;have hi:=(Sz.1 hx).1;rw[hp]at hK;refine av (by show ¬(i:U)<0;omega) ?_
  (refine h.aM O ?_)
  refine lA (x:=t) hT h λw h=>?_;cases hs:bM T t with
  |some j=>
   simp only[hs]at hK;refine az (by show(j:U)>=0;omega) ?_;exact hK _ (Ow.ka (s:=sl) (d:=dd) h.sub)
  |none=>
   simp only[hs]at hK;refine av qb ?_;repeat first|refine h.dr λw h=>?_|refine h.aM O ?_|refine h.l1 O ?_|refine fy ?_
   refine h.cd (s:=sl) (j:=i) O (wM hx) λa ha h0 hc=>Go.Vc.a2 ?_;refine Ow.uc (s:=sl) (E:=aK) (xs:=mv T) (i:=(i:U)) (j:=i) h t O (by rw[gG];exact hi) ha λw h=>?_;have e1:(mv T).set i t=mv (T.set i (t,xt T i)):=by unfold mv;rw[List.map_set]
   have e2:nO T=nO (T.set i (t,xt T i)):=by
    apply Td;intro j;unfold nO;rw[S2,S2,To];by_cases e:i=j
    .subst e;rw[Z O,Z hi,hx,iF hx];rfl
    .rw[Y e]
   rw[e1,e2]at h;exact hK _ (Ow.ka (s:=sl) (d:=dd) h.sub)
theorem HF{α:Type}(E:dX α)(xs:J α)(p q:S)(hp:p<=q)(hq:q<=xs.length):((xs.flatMap E.enc).take (q*E.z)).drop (p*E.z)=((xs.drop p).take (q-p)).flatMap E.enc:=by
 have h1:xs.flatMap E.enc=(xs.take q).flatMap E.enc++(xs.drop q).flatMap E.enc:=by rw[<-Tp,List.take_append_drop]
 have h2:((xs.take q).flatMap E.enc).length=q*E.z:=by rw[aO,SN,TL hq]
 rw[h1,<-h2,List.take_left];have h3:xs.take q=xs.take p++(xs.drop p).take (q-p):=by rw[<-List.take_add,show p+(q-p)=q from by omega]
 have h4:((xs.take p).flatMap E.enc).length=p*E.z:=by rw[aO,SN,TL om]
 rw[h3,Tp,<-h4,List.drop_left]
theorem MQ{T:Tr}{j e:S}(hj:j<T.length)(he:j<e)(hel:e<=T.length):
  (∀r,r<j->(T.take j++(fF ((T.drop (j+1)).take (e-(j+1)))++T.drop e))[r]?=T[r]?)/\
  (∀r,j<r->r<e->(T.take j++(fF ((T.drop (j+1)).take (e-(j+1)))++T.drop e))[r-1]?=T[r]?.map λx=>(x.1,x.2-1))/\
  (∀r,e<=r->(T.take j++(fF ((T.drop (j+1)).take (e-(j+1)))++T.drop e))[r-1]?=T[r]?):=by
 have h1:(T.take j).length=j:=by simp;omega
 have h2:(fF ((T.drop (j+1)).take (e-(j+1)))).length=e-(j+1):=by unfold fF;simp;omega
 refine⟨λr hr=>?_,λr hr1 hr2=>?_,λr hr=>?_⟩
 .rw[SM om,S5,Z hr]
 .rw[SP om,h1,SM om]
  unfold fF;rw[S2,S5,Z om,S8,show j+1+(r-1-j)=r from by omega]
 .rw[SP om,h1,SP om,h2,S8,show e+(r-1-j-(e-(j+1)))=r from by omega]
theorem FD{s:Slot}{K:U->Pw}(hT:rP T)(h:Ow B w0 w (cQ b T::R))(hK:∀w',Ow B w0 w' (cQ b (takeN T s).2::R)->K (takeN T s).1 w'):abC b.o s.1 s.2 K w:=by
 apply ai5;obtain⟨sl,dd,h⟩:=h.ref;have hlen:=h.aF sl;rw[gG]at hlen;have hfew:=hT.fu;refine h.a λc w1 h=>?_
 (refine h.aM O ?_)
 refine lA (R:=ae c [.z s.1,.z s.2]::R) (s:=sl) (d:=dd) (x:=s) hT h.sub λw h=>?_;unfold takeN at hK;cases hp:bM T s with
 |none=>
  rw[hp]at hK;refine az qb ?_;exact hK _ (Ow.ka (s:=sl) (d:=dd) h.sub)
 |some i=>
  obtain⟨x,hx,hxp⟩:=dZ hp;have hi:=(Sz.1 hx).1;obtain⟨he,hel⟩:=uA T hi;rw[hp]at hK;simp only at hK;refine av (by show ¬(i:U)<0;omega) ?_;refine FL hT hi h λw h=>?_;obtain⟨g1,g2,g3⟩:=MQ hi he hel;have hpl:(T.take i++(fF ((T.drop (i+1)).take (eJ T i-(i+1)))++T.drop (eJ T i))).length+1=T.length:=by unfold fF;simp;omega
  generalize eJ T i=e at*
  generalize T.take i++(fF ((T.drop (i+1)).take (e-(i+1)))++T.drop e)=T' at*
  refine h.a λc1 w2 h=>?_;refine h.a λc2 w3 h=>?_;have h:Ow B w0 w3 (ag ax ⟨X c2.p,0,0⟩ []::_):=h.empty;have h:Ow B w0 w3 (ag aK ⟨X c1.p,0,0⟩ []::_):=h.cC.empty;intro l hlp;have loop:∀(m k:S)(l1 d1:Sl)(w:W),k+m=T.length->Ow B w0 w (ag aK l1 (mv (T'.take (if k<=i then k else k-1)))::ag ax d1 (nO (T'.take (if k<=i then k else k-1)))::ag aK sl (mv T)::ag ax dd (nO T)::ae b [bz sl,bz dd]::R)->l l1 d1 (k:U) w:=by
   intro m;induction m with
   |zero=>
    intro k l1 d1 w hk h;rw[Y (show ¬k<=i by omega),SE om]at h;apply hlp;repeat first|refine h.l1 O ?_|refine fy ?_
    refine av om ?_;repeat first|refine fy ?_|refine h.jD O O λw h=>?_
    exact hK _ (Ow.ka (s:=l1) (d:=d1) h.sub)
   |succ m ih=>
    intro k l1 d1 w hk h;have hwk:qj.wrap ((k:U)+1)=((k+1:S):U):=by rw[wr om om];omega
    obtain⟨y,hy⟩:∃y,T[k]?=X y:=⟨_,gE om⟩
    have hry:=hT.zr hy;apply hlp;repeat first|refine h.l1 O ?_|refine fy ?_
    refine az om ?_;refine dW (λe0=>?_) (λe0=>?_)
    .have e0:(k:U)=(i:U):=e0
     have e1:(if k+1<=i then k+1 else k+1-1)=(if k<=i then k else k-1):=by rw[Y om,Z om];omega
     rw[hwk];refine ih (k+1) l1 d1 w om ?_;rw[e1];exact h
    .have e0:¬(k:U)=(i:U):=e0
     have hnext:(if k+1<=i then k+1 else k+1-1)=(if k<=i then k else k-1)+1:=by split<;>split<;>omega
     have hib:(if k<=i then k else k-1)<=1000001:=by split<;>omega
     have hy':T'[if k<=i then k else k-1]?=X (y.1,if i<k/\k<e then y.2-1 else y.2):=by
      by_cases h1:k<i
      .rw[Z om,g1 k h1,hy,Y om]
      .rw[Y om]
       by_cases h2:k<e
       .rw[g2 k om h2,hy,Z ⟨om,h2⟩];rfl
       .rw[g3 k om,hy,Y om]
     generalize hE2:(if k<=i then k else k-1)=e2 at*
     repeat first|refine h.l1 O ?_|refine fy ?_
     refine h.cd (s:=dd) O (te hy) λa ha h0 hc=>⟨_,h0 _ O,?_⟩
     have fin:∀(dp:U)(w:W),dp=(if i<k/\k<e then y.2-1 else y.2)->Ow B w0 w (ag aK l1 (mv (T'.take e2))::ag ax d1 (nO (T'.take e2))::ag aK sl (mv T)::ag ax dd (nO T)::ae b [bz sl,bz dd]::R)->qu:=λ_ _ _ _=>trivial;intro k24 hk24;have third:∀(t:I)(w:W),t=qe (i<k/\k<e)->Ow B w0 w (ag aK l1 (mv (T'.take e2))::ag ax d1 (nO (T'.take e2))::ag aK sl (mv T)::ag ax dd (nO T)::ae b [bz sl,bz dd]::R)->k24 t w:=by
      intro t w ht h;apply hk24;intro k27 hk27;have four:∀(dp:U)(w:W),dp=(if i<k/\k<e then y.2-1 else y.2)->Ow B w0 w (ag aK l1 (mv (T'.take e2))::ag ax d1 (nO (T'.take e2))::ag aK sl (mv T)::ag ax dd (nO T)::ae b [bz sl,bz dd]::R)->k27 dp w:=by
       intro dp w hdp h;apply hk27;repeat first|refine h.l1 O ?_|refine fy ?_
       refine h.cd (s:=sl) O (wM hy) λa ha h0 hc=>?_;refine l0 (x:=y.1) hc ?_;refine h.al λw1 h=>?_;refine ky (ys:=mv (T'.take e2)) (y:=y.1) h (by rw[gG];simp;omega) λl3 w hl3 h=>?_;refine h.al λw1 h=>?_;refine eS (ys:=nO (T'.take e2)) (y:=dp) h (by rw[Bl];simp;omega) λd3 w hd3 h=>?_;have q1:=yz hy';have q2:=xu hy';simp only at q1 q2;rw[q1,hdp,q2,<-hnext]at h;rw[hwk];exact ih (k+1) l3 d3 w om h.sub
      by_cases hc:i<k/\k<e
      .rw[ht,qp hc]
       refine aW O ?_;rw[wr (show -9223372036854775808<=y.2-1 by omega) om];exact four _ w (by rw[Z hc]) h
      .rw[ht,ql hc]
       refine aV O ?_;exact four _ w (by rw[Y hc]) h
     refine bh (λe3=>?_) (λe3=>?_)
     .have e3:(k:U)>(i:U):=e3
      refine third _ w ?_ h;by_cases hke:k<e
      .rw[qp (show i<k/\k<e by omega),qp (show(k:U)<(e:U) by omega)]
      .rw[ql (show ¬(i<k/\k<e) by omega),ql (show ¬(k:U)<(e:U) by omega)]
     .have e3:¬(k:U)>(i:U):=e3
      exact third _ w (ql (show ¬(i<k/\k<e) by omega)).symm h
  refine loop T.length 0 _ _ w3 om ?_;have q0:mv (T'.take 0)= []:=rfl;have q1:nO (T'.take 0)= []:=rfl;rw[Z om,q0,q1];exact h.sub
theorem Pe{s x:Sl}{xs ys:J Slot}{k:Sl->Pw}(h:Ow B w0 w (ag aK s xs::R))(hx:lP aK.z w x (ys.flatMap aK.enc))(hxl:x.len=ys.length)(hbig:xs.length+ys.length<=1000000000)
  (hk:∀s' w',s'.len=xs.length+ys.length->Ow B w0 w' (ag aK s' (xs++ys)::R)->k s' w'):
  ∃s' w',dO qh [124,124] 124 s.v x.v w s' w'/\k s' w':=
 Ow.app (E:=aK) aj8 (show qh.info? 155=X qY from by kernel_rfl) (zv:= .agg ⟨aK.enc (0,0)⟩) qa qa O qb h 0 O hx hxl (by
  have e:qY.bytes=16:=qa
  rw[e];omega) hk
theorem DJ{s:Slot}{K:Sl->Pw}(hT:rP T)(h:Ow B w0 w (cQ b T::R))(hK:∀s' w',Ow B w0 w' (ag aK s' (cY T s)::cQ b T::R)->K s' w'):aac b.o s.1 s.2 K w:=by
 apply ai1;obtain⟨sl,dd,h⟩:=h.ref;have hlen:=h.aF sl;rw[gG]at hlen;have hfew:=hT.fu;have hcap:=h.lF.ga;refine h.a λc w1 h=>?_
 (refine h.aM O ?_)
 refine lA (R:=ae c [.z s.1,.z s.2]::R) (s:=sl) (d:=dd) (x:=s) hT h.sub λw h=>?_;cases hp:bM T s with
 |none=>
  have hun:cY T s= []:=by unfold cY;rw[hp]
  rw[hun]at hK;refine az qb ?_;have h2:Ow B w0 w (cQ b T::R):=Ow.ka (s:=sl) (d:=dd) h.sub;exact hK _ w (Ow.cB h2)
 |some i=>
  obtain⟨x,hx,hxp⟩:=dZ hp;have hi:=(Sz.1 hx).1;obtain⟨e1,e2⟩:=uA T hi;have hun:cY T s=((mv T).drop (i+1)).take (eJ T i-(i+1)):=by unfold cY mv;rw[hp,<-List.map_drop,<-List.map_take]
  have hul:(cY T s).length=eJ T i-(i+1):=by rw[hun];simp[gG];omega
  have ew:qj.wrap ((i:U)+1)=((i+1:S):U):=by rw[wr om om];omega
  have fin:∀(w:W)(d0:S),Ow B w0 w (ag aK ⟨X d0.p,0,0⟩ []::ag aK sl (mv T)::ag ax dd (nO T)::ae b [bz sl,bz dd]::R)->
    ∃(t:Sl)(w':W),dO qh [124,124] 124 (.slice (X d0.p) 0 0) (.slice (mn sl.a (i+1) sl.cap 2) (eJ T i-(i+1)) (sl.cap-(i+1))) w t w'/\K t w':=λw d0 h=>by
   have hs:=(h.tX 1 O).sub (l:=i+1) (hh:=eJ T i) om om;rw[HF aK (mv T) _ _ om (by rw[gG];exact e2),<-hun]at hs;refine Pe (s:=⟨X d0.p,0,0⟩) (xs:=[]) (ys:=cY T s) (x:=⟨mn sl.a (i+1) sl.cap 2,eJ T i-(i+1),sl.cap-(i+1)⟩) h hs hul.symm (by simp;omega) λs' w hs' h=>?_;rw[TG]at h;have h2:Ow B w0 w (cQ b T::ag aK s' (cY T s)::R):=Ow.ka (s:=sl) (d:=dd) h.sub;exact hK _ _ h2.cC
  refine av (by show ¬(i:U)<0;omega) ?_;dsimp only;rw[ew];simp only[SD];have h:Ow B w0 w (ag aK sl (mv T)::ag ax dd (nO T)::ae b [bz sl,bz dd]::R):=h.sub;repeat first|refine h.dr λw h=>?_|refine h.l1 O ?_|refine fy ?_
  refine⟨?_,Go.Vc.a2 ?_⟩
  .refine h.a λd0 w3 h=>?_;have h:Ow B w0 w3 (ag aK ⟨X d0.p,0,0⟩ []::_):=h.empty;refine Go.Vc.a2 ?_;refine FL (R:=ag aK ⟨X d0.p,0,0⟩ []::R) (s:=sl) (d:=dd) hT hi h.sub λw h=>?_
   exact⟨h.aE O,om,om,om,om,Go.Vc.a2 (fin w d0 h.sub)⟩
  .refine FL hT hi h λw h=>?_
   refine⟨h.aE O,om,om,om,om,Go.Vc.a2 (h.a λd0 w3 h=>?_)⟩;have h:Ow B w0 w3 (ag aK ⟨X d0.p,0,0⟩ []::_):=h.empty;refine Go.Vc.a2 ?_;exact fin w3 d0 h
end
end Tr
def ajL{a b c d e f g h i K w}:=ah (Z6 a b c d e f g h i K w) func169 (.v (.y (.r (X [(9,.c .s),(10,.c .q),(11,.c (.i .i64))]) (.o 0 270224 (.o 1 270224 (.o 2 270224 (.o 3 270224 (.o 4 270208 (.o 5 270208 (.o 6 270208 (.o 7 269824 (.o 8 269824 (.o 9 268288 (.o 10 268288 (.o 11 262144 (.o 12 262144 (.f 13 (.o 14 262144 (.o 15 458752 (.o 16 917504 (.o 17 1835008 (.e 18 .QL))))) (.e 18 (.e 13 (.o 14 0 (.o 15 196608 (.o 16 655360 (.o 17 1572864 .QL))))))))))))))))))))) (.y (.v (.x .w)) (.v (.y (.v (.x .w)) (.y (.y (.r (X [(79,.c .b)]) (.o 0 0 (.o 1 0 (.o 2 0 (.o 3 0 (.o 4 12288 (.o 5 12288 (.o 6 12288 (.o 7 12288 (.o 8 12288 (.o 9 12288 (.o 10 12288 (.o 11 12288 (.o 12 0 (.o 13 0 (.o 14 0 (.o 15 0 (.o 16 0 (.o 17 0 (.o 18 0 (.o 19 0 (.o 20 0 (.o 21 0 (.o 22 3221225472 (.o 23 3221225472 (.o 24 3221225472 (.o 25 3221225472 (.o 26 3221225472 (.o 27 3221225472 (.o 28 3221225472 (.o 29 3221225472 (.o 30 0 (.o 31 0 (.o 32 0 (.o 33 0 (.o 34 0 (.o 35 0 .done))))))))))))))))))))))))))))))))))))) (.x .w)) (.y .RC (.y (.v (.x (.t (X [(12,.c (.i .i64))]) (.y (.v .w) (.x (.x (.x (.z (.o 0 126 (.o 1 124 (.o 2 120 (.o 3 16 (.o 4 0 (.o 5 0 (.o 6 0 (.e 7 (.o 8 0 .done)))))))))))))) .u))) .w))))))))
def ajM{a b c K w}:=ah (Wo a b c K w) func170 (.v (.y .P7 (.y (.v (.x (.t (X [(7,.c (.i .i64))]) .Qa .u))) .w)))
def ajN{a b c d e f g h i K w}:=ah (Z8 a b c d e f g h i K w) func172 (.v (.x (.z (.o 0 112 (.o 1 112 (.o 2 112 (.o 3 112 .QE)))))))
def ajO{a b c K w}:=ah (aab a b c K w) func175 (.v (.y .P6 (.y (.r (X [(4,.c .q)]) .g10) (.v (.y (.v (.x (.t (X [(7,.c (.i .i64))]) (.y (.v .w) (.x (.x (.y (.z (.o 0 34 .RV)) .w)))) .u))) (.y (.v (.t (X []) (.v .RH) .u)) (.y (.v (.x (.t (X [(8,.c (.i .i64))]) (.y (.y (.r (X [(78,.c .b)]) .done) .w) (.x (.x (.y (.z (.o 0 400 (.o 1 400 (.o 2 400 (.o 3 400 .RK))))) (.v (.x (.t (X [(10,.c (.i .i64))]) (.y (.v .w) (.x (.x (.y (.r (X [(11,.c .q)]) (.o 0 34704 (.o 1 34704 (.o 2 34704 (.o 3 34704 (.o 4 34688 (.o 5 34688 (.o 6 34688 (.o 7 33024 (.o 8 32768 .g12)))))))))) (.z (.o 0 126 (.o 1 124 (.o 2 72 (.o 3 64 .QE))))))))) .u))))))) .u))) (.v (.x (.t (X [(13,.c (.i .i64))]) (.y (.y (.r (X [(131,.c .b)]) .done) .w) (.x (.x (.v (.x (.t (X [(14,.c (.i .i64))]) (.y (.v .w) (.x (.x (.v (.y (.r (X [(156,.c .b)]) .done) (.x (.v (.v (.x (.t (X [(19,.c (.i .i64))]) (.y (.v .w) (.x (.x (.z (.o 0 4094 (.o 1 4092 (.o 2 3976 (.o 3 3968 (.o 4 3968 (.o 5 3968 (.o 6 3968 .RT))))))))))) .u)))))))))) .u)))))) .u))))))))))
def ajP{a b K w}:=ah (aad a b K w) func177 (.y (.v (.x (.t (X [(4,.c (.i .i64))]) (.y (.v .w) (.x .w)) .u))) .RQ)
def ajQ{a b K w}:=ah (WC a b K w) func178 (.v (.v (.y (.v .w) .w)))
def ajR{a b c d e f g h i K w}:=ah (aah a b c d e f g h i K w) func182 (.v (.v (.x .w)))
def ajS{a b c d e f g h i K w}:=ah (aak a b c d e f g h i K w) func185 (.v (.y (.z (.o 0 112 (.o 1 112 (.o 2 112 (.o 3 112 (.o 4 96 .Mv)))))) .g9))
def ajT{a b c d e K w}:=ah (aao a b c d e K w) func189 (.v (.z (.o 0 4094 (.o 1 1984 (.o 2 1984 (.o 3 1984 (.o 4 1984 (.o 5 1984 (.o 6 384 (.o 7 256 (.o 8 0 (.o 9 0 (.e 10 (.e 11 (.o 12 0 (.o 13 0 (.o 14 0 (.e 15 .done))))))))))))))))))
def ajU{a b c d e f g h i K w}:=ah (aby a b c d e f g h i K w) func277 (.v (.y (.v (.x (.v (.y (.y (.z (.o 0 2046 (.o 1 992 (.o 2 992 (.o 3 992 (.o 4 992 (.o 5 192 (.o 6 0 (.o 7 0 (.o 8 0 .QA)))))))))) .w) (.v (.y .g23 (.v (.y (.v .w) (.v (.y (.v .w) (.v (.y (.v .w) (.v (.y (.v .w) (.v (.x (.v .w))))))))))))))))) (.v .w)))
def ajV{a b c d e f K w}:=ah (Yv a b c d e f K w) func29 (.v (.v (.y (.v (.x .w)) (.v (.y (.v (.x .w)) (.v (.v (.y (.r (X [(16,.c .p)]) (.o 0 510 (.o 1 508 (.o 2 504 (.o 3 448 (.o 7 112 (.hold 4 320 3039 (.f 5 (.e 6 .P8) (.e 6 (.f 5 .P8 (.e 8 (.e 5 .Ms)))))))))))) (.y (.v (.x (.t (X [(17,.c (.i .i64))]) (.y (.v .w) (.x (.x .w))) .u))) .w)))))))))
def ajW{a b c d e K w}:=ah (Yx a b c d e K w) func31 (.v (.y .Rs (.y (.v (.x .w)) (.y (.v (.x .w)) (.y (.v (.x .w)) (.y .g18 (.y (.z (.o 0 384 (.o 1 384 (.o 2 384 (.o 3 384 .RK))))) .w)))))))
def ajX{a b c d e f g h i j k l m n o p q r s t K w}:=ah (Yy a b c d e f g h i j k l m n o p q r s t K w) func32 (.v .w)
def ajY{a b c d e K w}:=ah (Zx a b c d e K w) func109 (.v (.y (.y (.z (.o 0 48 (.o 1 48 (.o 2 48 (.o 3 48 (.o 4 0 (.o 5 0 (.o 6 0 (.o 7 0 (.o 8 0 (.o 9 0 .done))))))))))) (.x .w)) (.y (.v (.x .w)) (.y (.y (.z (.o 0 124 (.o 1 124 (.o 2 0 (.o 3 0 .QD))))) (.x (.y .Rw (.z (.o 0 240 (.o 1 240 (.o 2 240 (.o 3 240 (.o 4 192 (.o 5 192 (.o 6 0 (.o 7 0 .Mu)))))))))))) .w))))
def ajZ{a b K w}:=ah (Zy a b K w) func110 (.v (.v (.y (.v (.x (.y (.z (.o 0 8080 (.o 1 8080 (.o 2 8080 (.o 3 8080 (.o 4 8064 (.o 5 8064 (.o 6 8064 (.o 7 7168 (.o 8 7168 (.o 9 7168 (.o 10 0 .QN)))))))))))) .w))) (.y (.v (.x (.v (.y (.v (.v .w)) (.v (.y (.v (.x .w)) (.v (.x (.v (.x (.v (.v (.x (.z (.o 0 131070 (.o 1 130592 (.o 2 130592 (.o 3 130592 (.o 4 130592 (.o 5 130560 (.o 6 130560 (.o 7 130560 (.o 8 130560 (.o 9 8192 (.o 10 8192 (.o 11 8192 (.o 12 8192 (.o 13 0 .RS)))))))))))))))))))))))))))) .w))))
def aj0{a b c K w}:=ah (aaM a b c K w) func219 (.v (.v (.y (.v (.t (X [(8,.c .b)]) (.v (.v (.x (.z (.o 0 912 (.o 1 912 (.o 2 912 (.o 3 912 (.o 4 896 (.o 5 896 (.o 6 896 (.o 7 256 .Mu)))))))))))) .u)) .w)))
def aj1{a b K w}:=ah (aaR a b K w) func224 (.v (.y (.r (X [(5,.c .q)]) (.o 0 1572848 (.o 1 1572848 (.o 2 1572848 (.o 3 1572848 (.o 4 1572832 (.o 5 1179136 (.o 6 1179136 (.o 7 1179136 (.o 8 1179136 (.o 9 1056768 (.o 10 1056768 (.o 11 1056768 (.o 12 1056768 (.o 13 1048576 (.o 14 1048576 (.o 15 1048576 (.o 16 1048576 (.o 17 1048576 (.o 18 1048576 (.f 19 (.e 20 (.e 21 .done)) (.e 20 (.e 19 (.e 21 .done)))))))))))))))))))))))) (.y (.v (.x (.t (X [(6,.c (.i .i64))]) (.y (.v .w) (.x (.x (.y (.z (.o 0 524176 (.o 1 524176 (.o 2 524176 (.o 3 524176 (.o 4 524160 (.o 5 524160 (.o 6 524160 (.o 7 516608 (.o 8 516608 (.o 9 516096 (.o 10 516096 (.o 11 516096 (.o 12 516096 (.o 13 32768 (.o 14 32768 .R4)))))))))))))))) (.z (.o 0 524272 (.o 1 524272 (.o 2 524272 (.o 3 524272 (.o 4 524256 (.o 5 258176 (.o 6 258176 (.o 7 258048 (.o 8 258048 (.o 9 258048 (.o 10 258048 (.o 11 258048 (.o 12 16384 (.o 13 16384 (.o 14 0 .R4)))))))))))))))))))) .u))) (.v (.y .Rt (.x (.z (.o 0 1022 (.o 1 544 (.o 2 544 (.o 3 544 (.o 4 544 (.o 5 512 (.o 6 512 (.o 7 512 (.o 8 512 .Kb))))))))))))))))
namespace Th
section
variable{B:S}{w0 w:W}{R L:J aG}{b:S}{m m1:Mt}
theorem tJ:∀{L:J aG}{i:S}{a:aG},L[i]?=X a->(a::L.eraseIdx i).Perm L
 |x::L,0,a,h=>by simp at h;subst h;exact List.Perm.refl _
 |x::L,i+1,a,h=>(List.Perm.swap x a _).trans ((tJ (L:=L) (i:=i) (by simpa using h)).cons x)
theorem zm{b1:S}{alf:Qs}{K:qg qf->Pw}(i:S)(hi:L[i]?=X (aH b1 alf))(h:Ow B w0 w L)(hK:∀b' w',Ow B w0 w' (aH b' alf::L)->K b'.o w'):XT b1.o K w:=by
 refine oh (h.take i hi) λb' w h=>hK b' w (h.perm (List.Perm.cons _ ?_));exact tJ hi
theorem Hb{s:Sl}{xs:J vR}{K:Sl->Pw}[ale:bG s L vR gU xs](h:Ow B w0 w L)(hbig:xs.length<=1000000)(hK:∀s' w',Ow B w0 w' (ag gU s' xs::L)->K s' w'):aay s K w:=by
 apply afr;have hlen:=h.aF s;cases hn:s.a with
 |none=>
  refine aW O ?_;have hx:xs= []:=by
   cases xs with
   |nil=>rfl
   |cons x xs=>obtain⟨_,_,ha,_⟩:=h.get ale.i ale.at_ (j:=0) (x:=x) O;rw[hn]at ha;cases ha
  subst hx;exact hK _ w (Ow.cB h)
 |some a=>
  refine aV O ?_;refine h.a λb w' h=>?_;have h2:Ow B w0 w' (ag gU ⟨X b.p,0,0⟩ []::L):=Ow.empty h;have hx2:=h2.tX (ale.i+1) (by simpa using ale.at_)
  (try rw[<-hn])
  exact Ow.app (s:=⟨X b.p,0,0⟩) (xs:=[]) (ys:=xs) akq (show qh.info? 139=X qV from by kernel_rfl) (zv:=(qV.zero).get qa) qa qa qa qb h2 0 O hx2 hlen (by
   have e:qV.bytes=96:=qa
   rw[e,TU];omega) λs' w _ h=>hK _ w h
theorem zw{K:qg qf->Pw}(hm:dn m)(h:Ow B w0 w (bJ b m::R))(hK:∀b' w',Ow B w0 w' (bJ b' m::bJ b m::R)->K b'.o w'):Zc b.o K w:=by
 apply ahu;have hfew:=hm.fu;have hmost:=hm.KP;have hcr:=hm.gH;obtain⟨l,q,r,bs,hbs,h⟩:=h.Cu;have hql:=h.aF q;refine h.dr λw h=>?_;refine⟨_,O,l,h.aE O,_,O,r,h.aA O,Go.Vc.a2 (Hb (s:=l) h om λr7 w h=>⟨h.aA O,Go.Vc.a2 ?_⟩)⟩
 refine gJ (xs:=m.runs) h (h.tX 4 O) (h.len 4 O) om λr9 w h=>Go.Vc.a2 ?_;refine h.a λt w2 h=>?_;refine⟨_,O,q,h.aA O,?_⟩;intro l14 hl14;have h:Ow B w0 w2 (ag eW z0 []::_):=Ow.cB h;have loop:∀(k j:S)(qn:Sl)(bs2:J S)(w:W),j+k=m.qs.length->bs2.length=j->Ow B w0 w (ae t [bz r7,bz qn,bz r9]::ag eW qn bs2::ag gU r7 m.bK::ag ax r9 m.runs::ae b [bz l,bz q,bz r]::ag gU l m.bK::ag eW q bs::ag ax r m.runs::(SC aH bs m.qs++(SC aH bs2 (m.qs.take j)++R)))->l14 (j:U) w:=by
  intro k;induction k with
  |zero=>
   intro j qn bs2 w hj hbs2 h;apply hl14;refine av om ?_;rw[SE om]at h;have p1:=(List.perm_append_comm (l₁:=[ae t [bz r7,bz qn,bz r9],ag gU r7 m.bK,ag eW qn bs2,ag ax r9 m.runs]) (l₂:=[ae b [bz l,bz q,bz r],ag gU l m.bK,ag eW q bs,ag ax r m.runs]++SC aH bs m.qs)).append_right (SC aH bs2 m.qs++R);rw[S6 ([ae b [bz l,bz q,bz r],ag gU l m.bK,ag eW q bs,ag ax r m.runs]++SC aH bs m.qs),S6 [ae b [bz l,bz q,bz r],ag gU l m.bK,ag eW q bs,ag ax r m.runs]]at p1;have h:Ow B w0 w (ae t [bz r7,bz qn,bz r9]::ag gU r7 m.bK::ag eW qn bs2::ag ax r9 m.runs::ae b [bz l,bz q,bz r]::ag gU l m.bK::ag eW q bs::ag ax r m.runs::(SC aH bs m.qs++(SC aH bs2 m.qs++R))):=h.perm ((List.Perm.swap _ _ _).cons _);have h2:=h.perm p1;have h3:Ow B w0 w (bJ b m::([ae t [bz r7,bz qn,bz r9],ag gU r7 m.bK,ag eW qn bs2,ag ax r9 m.runs]++(SC aH bs2 m.qs++R))):=Ow.cw hbs h2;have p2:Xi (bJ b m::([ae t [bz r7,bz qn,bz r9],ag gU r7 m.bK,ag eW qn bs2,ag ax r9 m.runs]++(SC aH bs2 m.qs++R))) ([ae t [bz r7,bz qn,bz r9],ag gU r7 m.bK,ag eW qn bs2,ag ax r9 m.runs]++(SC aH bs2 m.qs++(bJ b m::R))):=by rw[<-S6,<-S6];exact Tw.symm
   exact hK t w (Ow.cw om (h3.perm p2))
  |succ k ih=>
   intro j qn bs2 w hj hbs2 h;apply hl14;refine az om ?_;obtain⟨b1,hb1⟩:∃x,bs[j]?=X x:=⟨_,gE om⟩
   obtain⟨alf,hQ⟩:∃x,m.qs[j]?=X x:=⟨_,gE om⟩
   refine h.cd (s:=q) (i:=(j:U)) (j:=j) O hb1 λa ha h0 hc=>⟨_,h0 _ O,?_⟩
   refine h.dr λw h=>?_;refine⟨_,O,qn,h.aA O,Go.Vc.a2 (zm (8+j) (b1:=b1) (alf:=alf) ?_ h λb' w h=>?_)⟩
   .have hz:(SC aH bs m.qs++(SC aH bs2 (m.qs.take j)++R))[j]?=X (aH b1 alf):=by rw[SM (by simp;omega),Um,hb1,hQ]
    rw[Nat.add_comm];simpa using hz
   refine⟨h.aA O,Go.Vc.a2 (h.a λd3 w3 h=>?_)⟩;refine Go.Vc.a2 ?_;refine CG (s:=qn) (ys:=bs2) (y:=b') h om λq' w hq' h=>?_;refine⟨_,O,Go.Vc.a2 (h.fD O O λw h=>?_)⟩;rw[wI j om];refine ih (j+1) q' (bs2++ [b']) w om (by simp[hbs2]) ?_;have ez:SC aH (bs2++ [b']) (m.qs.take (j+1))=SC aH bs2 (m.qs.take j)++ [aH b' alf]:=by rw[SO,hQ,Option.toList_some,Vn (by simp;omega)];rfl
   rw[ez];have h2:Ow B w0 w (ae t [bz r7,q'.v,bz r9]::ag eW q' (bs2++ [b'])::ag gU r7 m.bK::ag ax r9 m.runs::ae b [bz l,bz q,bz r]::ag gU l m.bK::ag eW q bs::ag ax r m.runs::aH b' alf::(SC aH bs m.qs++(SC aH bs2 (m.qs.take j)++R))):=h.sub;refine h2.perm ?_;have p:Xi (aH b' alf::(SC aH bs m.qs++(SC aH bs2 (m.qs.take j)++R))) (SC aH bs m.qs++(SC aH bs2 (m.qs.take j)++ [aH b' alf]++R)):=by have:=(Tw (a:=aH b' alf) (l₁:=SC aH bs m.qs++SC aH bs2 (m.qs.take j)) (l₂:=R)).symm;simpa [S6]using this
   exact(((((((p.cons _).cons _).cons _).cons _).cons _).cons _).cons _).cons _
 refine loop m.qs.length 0 z0 [] w2 om O ?_;simp only[List.zipWith_nil_left,TG];have h5:Ow B w0 w2 (ae t [r7.v,.slice Q 0 0,r9.v]::ag eW z0 []::ag gU r7 m.bK::ag ax r9 m.runs::ae b [bz l,bz q,bz r]::ag gU l m.bK::ag eW q bs::ag ax r m.runs::(SC aH bs m.qs++R)):=h.sub;exact h5
end
end Th
def aj2{a b K w}:=ah (Yz a b K w) func33 (.v (.y (.v (.x (.t (X [(5,.c (.i .i64))]) (.y (.v .w) (.x (.x (.v (.v (.y (.v (.x (.x (.z (.o 0 0 (.o 1 0 (.o 2 0 (.o 3 0 (.o 4 0 (.o 5 0 (.o 6 0 (.o 7 0 (.o 8 130048 (.o 10 512 (.o 11 512 (.o 12 512 (.f 9 (.o 13 0 (.o 14 0 (.o 15 0 .g0))) (.e 13 (.o 14 512 (.o 15 512 (.f 9 .g0 (.e 16 (.e 9 .g1))))))))))))))))))))))) (.y (.r (X [(121,.c .b)]) (.o 0 0 (.o 1 0 (.o 2 0 (.o 3 4080 (.o 4 256 (.o 5 256 (.o 6 256 (.o 7 256 (.o 8 0 (.o 9 0 (.o 10 0 (.o 11 0 (.o 12 0 (.o 13 0 (.o 14 0 (.o 15 67043328 (.o 16 1048576 (.o 17 1048576 (.o 18 1048576 (.o 19 1048576 (.o 20 0 (.o 21 0 (.o 22 0 (.o 23 0 (.o 24 0 (.o 25 0 (.e 26 (.o 27 0 (.o 28 0 (.o 29 0 (.o 30 268435456000 (.o 31 266287972352 (.o 33 141733920768 (.o 34 141733920768 (.o 35 141733920768 (.o 37 73014444032 (.f 32 (.o 36 0 (.e 38 (.o 39 0 (.o 40 0 .done)))) (.e 36 (.e 32 (.e 38 (.o 39 0 (.o 40 0 .done))))))))))))))))))))))))))))))))))))))))))) (.x .w)))))))) .u))) .w))
end Go.Vc
namespace Go.Vc
open Go.ChangeShapes Go.WideShapes
theorem Kn:∀cs,Fits [.int .i64] cs->∃x,cs=ax.enc x/\(Lit.int .i64 x).wf=true:=λcs h=>by obtain⟨_,_,rfl,⟨a,rfl,ha⟩,h1⟩:=h.dy;obtain rfl:=h1.BM;exact⟨a,O,ha⟩
end Go.Vc
