/- What the row rests on: the declarations that it needs, out of my texts (part 7). -/
import Derived.Test.YtfgikfglabdeoaaGreatZy6
import Derived.LoopIn
import Derived.LoopNIn
import Derived.Maps.AppendAt
import Derived.OwnWalkIn
import Derived.RangeFuncBox
import Derived.RangeFuncCalls
import Derived.RangeFuncGives
import Derived.RangeFuncIn
import Derived.RangeFuncLeaves
import Derived.RangeFuncNested
import Derived.RangeFuncRecord
import Derived.RangeFuncSeq
import Derived.Shelf.Abstract
import Derived.Sort.MapsRangeIn
import Derived.TacticsInMore
open Bool renaming false->G,true->Z
open Decidable renaming decide->V
open Go renaming Addr->qg,MapEntry->qE,Oper->qw,Operand->qD,Program->qq,TypeId->qi,Value->Q,World->J,execOp->qx
open Go.IntKind renaming i64->qf,u64->qv
open Go.Proofs.Tryz renaming f154->aaI,prog->qe,t155->qW,t173->aaT,t177->aaU,t201->aaS,t289->abh,t98->aaN,t99->aaV,underlying101->abk,underlying104->abi,underlying105->abj,underlying124->aaz,underlying232->qO,underlying287->qJ,underlying3->qA
open Option renaming none->N,some->S
open _root_ renaming Array->qo,Bool->W,False->qk,Int->O,List->Y,Nat->X,Option->qh,True->I,absurd->qj,bne_iff_ne->qN,congrArg->qz,decide_eq_decide->qV,decide_eq_false->qm,decide_eq_false_iff_not->qY,decide_eq_true->qu,decide_eq_true_eq->qB,if_false->qy,if_neg->F,if_pos->qd,if_true->qC,or_false->qI,rfl->U
open Go.Proofs.Tryz
open Array renaming getElem?_append_left->On,getElem?_eq_some_iff->LW,getElem?_modify->NF,getElem?_setIfInBounds_ne->Nn,length_toList->Mo,mem_toList_iff->NK,replicate_succ->Og,replicate_zero->Oh,toList_filter->NR
open Bool renaming and_eq_true->LO,eq_iff_iff->Nh,false_and->M0,false_eq_true->LK,not_eq_true'->N2,or_eq_true->MC,true_and->M6
open Decidable renaming byContradiction->Oz
open Int renaming eq_ofNat_of_zero_le->LB
open List renaming all_eq_true->NT,any_eq_true->Na,append_assoc->LN,append_nil->LQ,append_toArray->Oy,cons_append->MO,drop_eq_getElem_cons->Mr,drop_of_length_le->MX,drop_zero->M3,eq_nil_of_length_eq_zero->MA,eraseIdx_eq_take_drop_succ->OR,filter_eq_self->Mv,filter_filter->M7,findIdx?_eq_none_iff->Mu,findIdx?_eq_some_iff_getElem->L9,flatMap_cons->MP,getElem!_eq_getElem?_getD->Ob,getElem!_toArray->Pu,getElem?_append_left->LI,getElem?_append_right->LH,getElem?_drop->LR,getElem?_eq_some_iff->Lu,getElem?_map->LV,getElem?_take->LS,getElem_mem->Mq,length->Nc,length_append->LC,length_cons->LL,length_filter_le->L6,length_map->L3,length_nil->M5,length_set->MJ,length_take->LX,map_append->LU,map_cons->L1,map_map->Nl,map_nil->M9,mem_append->Mm,mem_cons->LD,mem_cons_of_mem->MF,mem_cons_self->MH,mem_filter->LP,mem_iff_getElem?->Mp,mem_map->L2,mem_of_getElem?->L4,mem_or_eq_of_mem_set->Mz,mem_range->Nf,mem_reverse->Ol,mem_singleton->Mk,mergeSort_perm->O0,nil_append->Mw,nodup_append->Np,nodup_cons->Mj,not_mem_nil->MB,pairwise_map->N3,pairwise_reverse->Oe,perm_middle->Ml,push_toArray->OH,range->LA,reverse_nil->OM,set_append_right->Ng,set_cons_succ->LM,set_cons_zero->Mf,size_toArray->N4,sum_cons->PH,take_add_one->LJ,take_append_drop->Ma,take_of_length_le->Lz,take_zero->MU,zipWith->Lx
open Nat renaming add_assoc->Nv,add_mul->MG,le_refl->Lv,le_succ->MY,le_trans->LY,min_eq_left->Ms,mod_eq_of_lt->L7,pow_le_pow_right->Mh,reduceAdd->O7,reduceSub->OJ,sub_self->MV,zero_add->LF,zero_le->MN
open Option renaming getD_some->Nd,isSome_iff_exists->MS,map_eq_some_iff->MZ
set_option maxRecDepth 100000
set_option maxHeartbeats 4000000
set_option linter.all false
namespace Go.Vc
open Go.Proofs Go.RowKit Go.Shelf
open Go.ChangeMaps (setBlock)
attribute [local go_sem] Oper.semAt_some
namespace Sl
section
variable{abu:Fence}{n:X}{P:qq}(w:J){ops:qo qw}{rest:Y qw}{o:qw}{a:Act}{aby:Exit->Act->Pw}
theorem oS(hg:o.guard=N)(m:qD)(t:qi)(hop:o.op=Op.range t m){b:X}(hm:a.eval m= .map (S b)){v:Q}{w':J}(hrun:(Instr.range t (.map (S b))).run P w= .ok v w')
  (hK:wpListIn abu n P ops aby rest (a.put o.dst v) w'):wpListIn abu n P ops aby (o::rest) a w:=by
 refine wpListIn_plain hg λK' hK'=>?_;unfold Oper.wpIn;refine⟨?_,?_⟩
 .simp[Oper.about,hop]
 .rw[Oper.semAt_plain abu _ _ (by rw[hop];intro c hc';cases hc')]
  simp[qx,hop,hm,hrun,Result.andThen];exact hK' _ _ hK
theorem jV(hg:o.guard=N)(it:qD)(hop:o.op=Op.next it G){p:Q}(hit:a.eval it=p){v:Q}{w':J}(hrun:(Instr.next p G o.type).run P w= .ok v w')
  (hK:wpListIn abu n P ops aby rest (a.put o.dst v) w'):wpListIn abu n P ops aby (o::rest) a w:=by
 refine wpListIn_plain hg λK' hK'=>?_;unfold Oper.wpIn;refine⟨by simp[Oper.about,hop],?_⟩;rw[Oper.semAt_plain abu _ _ (by rw[hop];intro c hc';cases hc')];simp[qx,hop,hit,hrun,Result.andThen];exact hK' _ _ hK
theorem we:∀(l:Y qE)(e:qE),(l.map (·.born)).Nodup->e∈l->l.Perm (e::l.filter λx=>x.born !=e.born)
 | [],e,_,h=>by simp at h
 |a::l,e,hn,h=>by
  rw[L1,Mj]at hn;rw[List.filter_cons];rcases LD.1 h with rfl|h
  .have:l.filter (λx=>x.born !=e.born)=l:=Mv.2 λx hx=>by simp only[qN,ne_eq];exact λe'=>hn.1 (L2.2 ⟨x,hx,e'⟩)
   simp[this]
  .have hne:(a.born !=e.born)=true:=by simp only[qN,ne_eq];exact λe'=>hn.1 (L2.2 ⟨e,h,e'.symm⟩)
   rw[hne,qd U];exact((we l e hn.2 h).cons a).trans (List.Perm.swap _ _ _)
theorem Di(es:qo qE)(seen:qo X)(e:qE):(leftOf es (seen.push e.born)).toList=(leftOf es seen).toList.filter λx=>x.born !=e.born:=by unfold leftOf;rw[NR,NR,M7];congr 1;funext x;rw[Array.contains_push];cases hq:(x.born==e.born)<;>simp[bne,hq]
def Fg(b it:X)(w:J):X:=match w.heap[b]?,w.heap[it]? with
 |some (.map es _),S (.mapIter _ _ seen _)=>(leftOf es seen).size
 |_,_=>0
theorem zb{b it:X}{w:J}{es:qo qE}{c:X}{m:qh X}{since c0:X}{seen:qo X}(h1:w.heap[b]?=S (.map es c))(h2:w.heap[it]?=S (.mapIter m since seen c0)):Fg b it w=(leftOf es seen).size:=by unfold Fg;rw[h1,h2]
def jQ(x:O × O):Q:= .agg #[.z x.1,.z x.2]
def fq(x:O × O):Y Q:=[.z x.1,.z x.2]
theorem xj(w:J)(x y:Q)(t:qi):∀j u,[x,y][j]?=S u->(w.alloc (.cells #[x,y] t)).cell? ((w.heap.size.p:qg).add j)=S u:=by
 intro j u hj
 match j,hj with
 |0,hj=>simp at hj;subst hj;simp[Addr.add]
 |1,hj=>simp at hj;subst hj;simp[Addr.add]
theorem HO(x:O × O):jQ x= .agg #[.z x.1,.z x.2]:=rfl
def I8:Q->O × O
 | .agg ⟨[.int _ a,.int _ b]⟩=>(a,b)
 |_=>(0,0)
theorem Fc(n:X)(hn:1<=n)(l Bm b:X)(es:qo qE)(c:X)(ks:Y (O × O))(hks:es.toList.map (·.key)=ks.map jQ)(hborn:(es.toList.map (·.born)).Nodup)(hlt:∀e∈es.toList,e.born<c)(abq Jx:Y (O × O)->Pw)
  (hY:∀pre x abt,abq pre abt->pre.length<ks.length->YieldAt Fence.wide (n-1) qe l #[jQ x] abt λe W'=>
   (e= .returned (.bool Z)/\abq (pre++ [x]) W'/\KeepsWalks abt W')\/(e= .returned (.bool G)/\Jx (pre++ [x]) W'))
  (abt:J) (hJ:AbidesFrom abt.heap.size abq) (hm:abt.cell? Bm.p=S (.map (S b))) (hb:abt.heap[b]?=S (.map es c)) (h0:abq [] abt):
  CallsIn Fence.wide n qe 329 #[.func (.yield l) #[] #[],.q Bm] abt λe W'=>(∃v,e= .returned v)/\
   ((∃ss:Y (O × O),ss.Perm ks/\abq ss W')\/(∃pre:Y (O × O),I/\Jx pre W')):=by
 have hblt:b<abt.heap.size:=(LW.1 hb).1;refine callsIn_of_wp func329 U trivial ?_ U;simp only[Tryz.ntmps329,N4,LL,M5,O7,OJ,Og,Oh,OH,Oy,Mw,MO];have hrun:=run_range_map (P:=qe) abt 232 155 157 b es c qO hb
 gi_wp2_with (first
  |(gi_at_range;refine oS _ U _ 232 U U hrun ?_)
  |gi_in)
 go_frame
 have hW0:∀k,k<abt.heap.size->(abt.alloc (.mapIter (S b) c #[] c)).heap[k]?=abt.heap[k]?:=λk hk=>Below.heap_alloc abt _ k hk
 gi_loopw [3] (λ_ wr=>∃(ss:Y (O × O))(seen:qo X)(c0:X),wr.heap[b]?=S (.map es c)/\wr.heap[abt.heap.size]?=S (.mapIter (S b) c seen c0)/\c<=c0/\(ss.map jQ++(leftOf es seen).toList.map (·.key)).Perm (es.toList.map (·.key))/\abq ss wr)
  (λ_ wr=>Fg b abt.heap.size wr)
 case atStart=>
  refine⟨[],#[],c,(hW0 b hblt).trans hb,by show(abt.heap.push _)[abt.heap.size]?=_;simp,Lv _,?_,hJ [] abt _ N h0 (World.grownBy_alloc abt _ N) (λr e=>by cases e)⟩;have:leftOf es #[]=es:=by unfold leftOf;simp
  rw[this];exact List.Perm.refl _
 case round=>
  obtain⟨ss,seen,c0,hb1,hi1,hc0,hp,hJs⟩:=hrel;rcases run_next_at (P:=qe) wr 0 abt.heap.size b c c0 seen es c hi1 hb1 hlt hc0 with⟨hsz,hnx⟩|⟨e,he,w1,hw1,hnx⟩
  .gi_wp2_with (first
    |(gi_at_next;refine jV _ U _ U U hnx ?_)
    |gi_in)
   go_end0
   have hl:(leftOf es seen).toList= []:=MA (by simpa using hsz);rw[hl,hks]at hp;simp only[M9,LQ]at hp;have hp2:=hp.map I8;rw[Nl,Nl]at hp2;have hid:∀l:Y (O × O),l.map (I8∘jQ)=l:=λl=>by refine(List.map_congr_left λx _=>rfl).trans (List.map_id _)
   rw[hid,hid]at hp2;exact⟨⟨_,U⟩,.inl ⟨ss,hp2,hJs⟩⟩
  .have hmem:e∈es.toList:=by have:=NK.1 he;unfold leftOf at this;exact NK.2 (Array.mem_filter.1 this).1
   obtain⟨x,hx,hkx⟩:∃x∈ks,jQ x=e.key:=by have:e.key∈es.toList.map (·.key):=L2.2 ⟨e,hmem,U⟩;rw[hks]at this;obtain⟨x,hx,h⟩:=L2.1 this;exact⟨x,hx,h⟩
   have hne:b≠abt.heap.size:=om
   have hw1h:w1.heap=wr.heap:=by rcases hw1 with rfl|rfl<;>rfl
   obtain⟨w2,hw2⟩:∃w2,setBlock w1 abt.heap.size (.mapIter (S b) c (seen.push e.born) c)=w2:=⟨_,U⟩
   rw[hw2]at hnx;have hilt:abt.heap.size<w1.heap.size:=by rw[hw1h];exact(LW.1 hi1).1
   have hi2:w2.heap[abt.heap.size]?=S (.mapIter (S b) c (seen.push e.born) c):=by rw[<-hw2];simp[setBlock,Array.getElem?_setIfInBounds_self_of_lt hilt]
   have hb2:w2.heap[b]?=S (.map es c):=by rw[<-hw2];show(w1.heap.setIfInBounds abt.heap.size _)[b]?=_;rw[Nn om,hw1h];exact hb1
   have hen:=run_entry_at (P:=qe) w2 abt.heap.size b c seen es c e hi2 hb2 hmem hborn;have hg2:wr.grownBy w2 (S abt.heap.size):=by
    rw[<-hw2];refine⟨?_,?_,?_,?_,λk hk hkr=>?_⟩
    .rcases hw1 with rfl|rfl<;>rfl
    .rcases hw1 with rfl|rfl<;>rfl
    .rcases hw1 with rfl|rfl<;>rfl
    .show wr.heap.size<=(w1.heap.setIfInBounds abt.heap.size _).size
     rw[Array.size_setIfInBounds,hw1h];exact Lv _
    .show (w1.heap.setIfInBounds abt.heap.size _)[k]?=_
     rw[Nn (λe'=>hkr (by rw[e'])),hw1h]
   have hlp:=we (leftOf es seen).toList e (by unfold leftOf;rw[NR];exact hborn.sublist (List.filter_sublist.map _)) he;rw[<-Di]at hlp;have hp2:((ss++ [x]).map jQ++(leftOf es (seen.push e.born)).toList.map (·.key)).Perm (es.toList.map (·.key)):=by refine List.Perm.trans ?_ hp;rw[LU,LN];refine List.Perm.append_left _ ?_;have:=hlp.map (·.key);rw[L1]at this;show(jQ x::_).Perm _;rw[hkx];exact this.symm
   have hsslt:ss.length<ks.length:=by have h1:=hp2.length_eq;have h2:=qz Nc hks;simp only[LC,L3,LL,M5]at h1 h2;omega
   have hJ2:abq ss w2:=hJ ss wr w2 (S abt.heap.size) hJs hg2 (λr e'=>by cases e';exact⟨Lv _,_,hi1,U⟩);rw[<-hkx,HO]at hnx hen;obtain⟨x1,x2⟩:=x;dsimp only at hnx hen;have hb2':(w2.alloc (.cells #[.z x1,.z x2] 155)).heap[b]?=S (.map es c):=(Below.heap_alloc w2 _ b (LW.1 hb2).1).trans hb2;have hi2':(w2.alloc (.cells #[.z x1,.z x2] 155)).heap[abt.heap.size]?=S (.mapIter (S b) c (seen.push e.born) c):=(Below.heap_alloc w2 _ _ (LW.1 hi2).1).trans hi2;have hJ2':=hJ ss w2 _ N hJ2 (World.grownBy_alloc w2 (.cells #[.z x1,.z x2] 155) N) (λr e=>by cases e);obtain⟨fn,tmps,assign,body,hy,hR⟩:=hY ss (x1,x2) _ hJ2' hsslt;rw[HO]at hy;dsimp only at hy;have hms:(leftOf es (seen.push e.born)).size<(leftOf es seen).size:=by have h1:=hlp.length_eq;simp only[Mo,LL]at h1;omega
   clear hw2 hkx
   gi_wp2_with (first
    |(gi_at_next;refine jV _ U _ U U hnx ?_)
    |gi_in)
   refine hR.mono ?_;rintro e2 W3 (⟨rfl,hJ3,hk3⟩|⟨rfl,hJx3⟩)
   .gi_wp2
    have hb3:=hk3.same b _ hb2' U;have hi3:=hk3.same abt.heap.size _ hi2' U
    go_roundw
    case rel=>exact⟨ss++ [(x1,x2)],seen.push e.born,c,hb3,hi3,Lv _,hp2,hJ3⟩
    case measure=>rw[zb hb3 hi3,zb hb1 hi1];exact hms
   .gi_wp2
    refine bodyPost_ret (results_none U _ _ _) U ?_;exact⟨⟨_,U⟩,.inr ⟨ss++ [(x1,x2)],trivial,hJx3⟩⟩
theorem y9(n:X)(hn:1<=n)(Bm b:X)(es:qo qE)(c:X)(ks:Y (O × O))(hks:es.toList.map (·.key)=ks.map jQ)(hborn:(es.toList.map (·.born)).Nodup)(hlt:∀e∈es.toList,e.born<c)
  (w:J) (hBm:Bm<w.heap.size) (hm:w.cell? Bm.p=S (.map (S b))) (hb:w.heap[b]?=S (.map es c)):
  SeqStops Fence.wide n qe 329 #[.q Bm] jQ (λss=>ss.Perm ks) (λ_=>I) ks.length w:=λl abq Jx abt hW hJ _ hY h0=>
 Fc n hn l Bm b es c ks hks hborn hlt abq Jx hY abt hJ ((hW.cell (p:=⟨Bm,0,N⟩) hBm).trans hm) ((hW.block b (LW.1 hb).1).trans hb) h0
theorem Jl:(qe.info? 155).map (λi=>(i.zero,i.size,i.bytes))=S (S (.agg #[.z 0,.z 0]),2,16):=qa
theorem AF(g:X)(lb:qo Q)(eg:∀args w,(callFunc g args).run qe w= .ok (.enter g args) w)(abn:Y (O × O)->Prop)(abz:X)(hN:abz<=1000000)(w:J)(hseq:SeqStops Fence.wide 1 qe g lb jQ abn (λ_=>I) abz w):
  CallsIn Fence.wide 2 qe 384 #[.slice N 0 0,.func (.func g) #[] lb] w λe w'=>∃(v:Q)(ss:Y (O × O)),e= .returned v/\abn ss/\w'.ownsRow w.heap.size 155 2 v ss.length (ss.flatMap fq)/\Below w.heap.size w w':=by
 obtain⟨i0,hi,hz0,hz1,hz2⟩:=info_parts Jl;refine callsIn_of_wp_marks func384 U trivial ?_ U;simp only[Tryz.ntmps384,N4,LL,M5,O7,OJ,Og,Oh,OH,Oy,Mw,MO]
 gi_wp2
 have bO:=Boxed.new w 124 (.slice N 0 0);have hB0:Below w.heap.size w (w.alloc (.cells #[.slice N 0 0] 124)):=(Below.refl _ w).alloc (Lv _) _;refine wpIn_rangeFunc_ownH (α:=O × O) (encs:=λx=> #[jQ x]) (Kp:=KeepsWalks) U qb (gf:=g) (lb:=lb) U trivial eg hseq walksK_t walksK_b hB0 (λ_=>rfl)
  (λ(pre:Y (O × O))abt=>(∃v,Boxed abt w.heap.size 124 v/\abt.ownsRow w.heap.size 155 2 v pre.length (pre.flatMap fq)/\I)/\Below w.heap.size w abt)
  (λ_ _ _=>qk)
  (OwnFrom.and (Own.from (holdsRow_own w.heap.size w.heap.size 124 155 2 (λ(pre:Y (O × O))=>pre.length) (λ(pre:Y (O × O))=>pre.flatMap fq) (λ(pre:Y (O × O))v=>I)) _) (ownFrom_below (Lv _) qc))
  (λ_ _ _ _ _ hs _ _=>hs)
  ⟨⟨_,bO,World.ownsRow_nil _ _ _ _,trivial⟩,hB0⟩
  (λx a' abt=>∃p,a'={ tmps:= #[.slice N 0 0,.func (.func g) #[] lb,.q w.heap.size,undef,.slice N 0 0,.q p,.func (.func g) #[] lb,.agg #[.z x.1,.z x.2],undef,undef,undef,undef,undef],defers:=[]}/\abt.heap[p]?=S (.cells #[.z x.1,.z x.2] 155 (0,0)))
  (λx a'=>by rintro _ abo abp row ⟨p,ha,hp⟩ hg hr;refine⟨p,ha,(hg.block p (LW.1 hp).1 λe=>?_).trans hp⟩;obtain⟨_,o,ho,hc⟩:=hr p e.symm;rw[hp]at ho;cases ho;cases hc)
  ?assign ?body ?done ?stop
 case assign=>
  rintro l pre ⟨x1,x2⟩ abt K ⟨⟨v,hv,hrow,_⟩,hB⟩ hK;dsimp only[jQ]
  gi_wp2
  refine hK _ _ ((KeepsOthers.alloc abt _).from _) ⟨(KeepsOthers.alloc abt _).size,λk o h1 h2=>(KeepsOthers.alloc abt _).same k o h1 (by cases o<;>simp_all [Obj.isWalk,Obj.isCells])⟩ ⟨⟨v,hv.alloc _,hrow.alloc _,trivial⟩,hB.alloc (by have:=hB.size;omega) _⟩ ⟨_,U,World.alloc_heap_new _ _⟩
 case body=>
  rintro l pre ⟨x1,x2⟩ a' abt _ _ ⟨⟨v,hv,hrow,_⟩,hB⟩ ⟨p,rfl,hp⟩ hlt;have hc:=hv.cell;have hp0:abt.cell? p.p=S (.z x1):=by simp[World.cell?,hp]
  have hp1:abt.cell? ⟨p,1,N⟩=S (.z x2):=by simp[World.cell?,hp]
  gi_wp2_with (gi_at_builtin;refine wpListIn_append_own _ U _ _ 124 U w.heap.size 155 i0 (.agg #[.z 0,.z 0]) 2 16 aaz hi hz0 hz1 hz2 U qb _ _ _ U (hrow.alloc _) abt.heap.size.p 1 1 [.z x1,.z x2] U U (xj _ _ _ _) (by simp[Value.oneCell']) (LY (show pre.length+1<=1000001 by omega) qb) om (by have:=hB.size;simp;omega) ?_;intro v' w1 hown' hgrow _;obtain⟨g',cap',rfl⟩:=ownsRow_succ hown';obtain⟨hv1,hv2,hr2,hk2,hb2⟩:=hv.appended qb hrow hB.size (Lv _) hown' hgrow;have hc1:=hv1.cell;have hf1:=hv1.frozen)
  exact⟨hk2.from _,⟨hk2.size,λk o h1 h2=>hk2.same k o h1 (by cases o<;>simp_all [Obj.isWalk,Obj.isCells])⟩,⟨_,hv2,by rw[List.flatMap_append,LC];exact hr2⟩,hB.trans hb2⟩
 case done=>
  rintro D ys abt hD hS ⟨⟨v,hv,hrow,_⟩,hB⟩ hK;have hc:=hv.cell
  gi_wp2
  refine⟨qc,.inl ⟨_,_,U,run_takeDeferred hK,?_⟩⟩;exact⟨_,results_tmp U _ _ _,v,ys,U,hS,ownsRow_putObj hrow _ hK U,hB.trans (belowK_b (w:=w) (Lv _) abt D _ _ (by simp at hD;omega) hK U U)⟩
 case stop=>
  rintro D c pre abt _ _ h _;exact h.elim
end
end Sl
end Go.Vc
namespace Go.Vc
open Go.Proofs Go.Shelf
namespace Sl
section
variable{B:X}{w0 w:J}{R L:Y aH}{b:X}{bits:Y O}{H:Hs}
def oh(x y:O):O:=if x<y then -1 else if y<x then 1 else 0
def xk(a b:Slot):O:=if oh a.1 b.1≠0 then oh a.1 b.1 else oh a.2 b.2
def nC(a b:Slot):W:=V (a.1<b.1\/(a.1=b.1/\a.2<b.2))
theorem gW(a b:Slot):Go.Proofs.ltOf xk a b=nC a b:=by
 unfold Go.Proofs.ltOf nC xk oh;rw[qV];by_cases h1:a.1<b.1
 .simp[h1]
 .by_cases h2:b.1<a.1
  .simp[h1,h2];omega
  .have:a.1=b.1:=om
   simp[h1,h2,this];by_cases h3:a.2<b.2
   .simp[h3]
   .by_cases h4:b.2<a.2<;>simp[h3,h4]
theorem KH:Go.Sort.SWO (Go.Proofs.ltOf xk) where
 irrefl x:=by rw[gW];simp[nC]
 trans x y z h1 h2:=by rw[gW]at *;simp only[nC,qB]at *;omega
 ntrans x y z h1 h2:=by rw[gW]at *;simp only[nC,qY]at *;omega
theorem KI(x y:Slot)(h1:Go.Proofs.ltOf xk x y=G)(h2:Go.Proofs.ltOf xk y x=G):x=y:=by
 rw[gW]at*
 simp only[nC,qY]at*
 exact Prod.ext om om
theorem mo{x:O}{K:W->Pw}{w:J}(h:K G w):RZ x K w:=by apply WI;rw[show(x !=x)=G from by simp];exact h
theorem kz{x y:O}{K:O->Pw}{w:J}(h:K (oh x y) w):RQ x y K w:=by
 apply WH;refine mo (mo ?_);refine bc U (bc U ?_);by_cases h1:x<y
 .refine az h1 ?_
  rwa [show oh x y= -1 from by unfold oh;rw[qd h1]]at h
 .refine aw h1 ?_
  by_cases h2:x>y
  .refine az h2 ?_
   rwa [show oh x y=1 from by unfold oh;rw[F h1,qd h2]]at h
  .refine aw h2 ?_
   rwa [show oh x y=0 from by unfold oh;rw[F h1,F h2]]at h
theorem yS{p:X}{x y:O}{K:O->Pw}{w:J}(h0:w.cell? p.p=S (.z x))(h1:w.cell? ⟨p,1,N⟩=S (.z y))(h:K (if x≠0 then x else y) w):Ug ⟨S p.p,2,2⟩ K w:=by
 apply WG;intro l2 hl2;apply hl2;refine az (show(0:O)<((2:X):O) by decide) ?_;refine⟨_,U,(show(0:O)<=0 by decide),(show(0:O)<((2:X):O) by decide),x,h0,?_⟩;by_cases e:x=0
 .subst e
  refine bc U ?_;rw[show qf.wrap ((0:O)+1)=1 from by decide];apply hl2;refine az (show(1:O)<((2:X):O) by decide) ?_;refine⟨_,U,(show(0:O)<=1 by decide),(show(1:O)<((2:X):O) by decide),y,h1,?_⟩;rw[F qc]at h;by_cases e2:y=0
  .subst e2
   refine bc U ?_;rw[show qf.wrap ((1:O)+1)=2 from by decide];apply hl2;refine aw (show ¬(2:O)<((2:X):O) by decide) ?_;exact h
  .exact bh (by simpa using e2) h
 .rw[qd e]at h
  exact bh (by simpa using e) h
theorem cell_of{w:J}{b:X}{l:Y Q}{t:qi}(h:w.heap[b]?=S (.cells ⟨l⟩ t)){o:X}{v:Q}(hv:l[o]?=S v):w.cell? ⟨b,o,N⟩=S v:=by simp[World.cell?,h,hv]
theorem Be(a b:Slot)(w:J):U5 a.1 a.2 b.1 b.2 (λr w'=>r=xk a b/\∃q os',w'=Go.Sort.grow (w.drewN q) os') w:=by
 apply XF;unfold Vp;have hA:(((w.alloc (.cells #[.z a.1,.z a.2] 155)).alloc (.cells #[.z b.1,.z b.2] 155)).drew).heap[w.heap.size]?=S (.cells #[.z a.1,.z a.2] 155):=
  (RowKit.Below.heap_alloc (w.alloc (.cells #[.z a.1,.z a.2] 155)) _ w.heap.size (by rw[World.size_alloc];omega)).trans (World.alloc_heap_new w _)
 have hB:(((w.alloc (.cells #[.z a.1,.z a.2] 155)).alloc (.cells #[.z b.1,.z b.2] 155)).drew).heap[(w.alloc (.cells #[.z a.1,.z a.2] 155)).heap.size]?=S (.cells #[.z b.1,.z b.2] 155):=World.alloc_heap_new _ _;refine⟨a.1,cell_of hA U,b.1,cell_of hB U,a.2,cell_of (o:=0+1) hA U,b.2,cell_of (o:=0+1) hB U,kz ⟨cell_of (o:=0+1) hB U,cell_of (o:=0+1) hA U,kz ⟨⟨yS (x:=oh a.1 b.1) (y:=oh a.2 b.2) (cell_of (World.alloc_heap_new _ _) U) (cell_of (World.alloc_heap_new _ _) U) ⟨U,1,#[.cells #[.z a.1,.z a.2] 155,.cells #[.z b.1,.z b.2] 155,.cells #[.z (oh a.1 b.1),.z (oh a.2 b.2)] 3],?_⟩,trivial⟩,trivial⟩,trivial⟩,trivial⟩;show World.mk _ _ _ _ _=World.mk _ _ _ _ _;congr 1
theorem GN(vn off size:X)(w:J):CmpLays qe 244 #[] fq 2 xk vn off size w:=λm os dk _ x y=>
 (xH (Be x y _)).mono λe w'⟨r,he,hr,hw⟩=>⟨by rw[he,hr],hw⟩
def aC:dT Slot:=⟨2,fq,λ_=>rfl,λx v h=>by simp only[fq,LD,MB,qI]at h;rcases h with rfl|rfl<;>rfl,qb⟩
theorem B6{α:Type}[Inhabited α](enc:α->Y Q)(k:X)(hk:∀x,(enc x).length=k)(k0:0<k):∀(l:Y α)(t:X),t<l.length*k->(l.flatMap enc)[t]?=S (enc (l.toArray[t / k]!))[t%k]!
 | [],t,h=>by simp at h
 |x::l,t,h=>by
  rw[MP];by_cases e:t<k
  .rw[LI (by rw[hk];exact e),Nat.div_eq_of_lt e,L7 e]
   have:t<(enc x).length:=by rw[hk];exact e
   rw[gE this];congr 1;simp[this]
  .obtain ⟨u,rfl⟩:∃u,t=k+u:=⟨t-k,om⟩
   have hu:u<l.length*k:=by rw[LL,MG,Nat.one_mul]at h;omega
   rw[LH (by rw[hk];omega),hk,show k+u-k=u from by omega,B6 enc k hk k0 l u hu];rw[Nat.add_comm k u,Nat.add_div_right _ k0,Nat.add_mod_right];have hq:u / k<l.length:=Nat.div_lt_of_lt_mul (by rw[Nat.mul_comm];exact hu);congr 3;simp[hq]
theorem AN{α:Type}[Inhabited α](enc:α->Y Q)(k:X)(hk:∀x,(enc x).length=k)(k0:0<k)(l:Y α):Go.Sort.flatK enc k l.toArray=(l.flatMap enc).toArray:=by
 have hl:(l.flatMap enc).length=l.length*k:=by
  clear k0;induction l with
  |nil=>simp
  |cons x l ih=>rw[MP,LC,ih,hk,LL,MG];omega
 refine Go.Sort.ext_get! (by rw[Go.Sort.size_flatK];simp only[N4];exact hl.symm) λt ht=>?_;rw[Go.Sort.size_flatK]at ht;rw[Go.Sort.get_flatK _ _ _ _ ht];have:=B6 enc k hk k0 l t (by simpa using ht);simp[Ob,this]
def Ju(x y:Slot):W:= !(Go.Proofs.ltOf xk) y x
def fQ(xs:Y Slot):Y Slot:=xs.mergeSort Ju
theorem vu{s:Sl}{xs:Y Slot}{K:Pw}(h:Ow B w0 w (af aC s xs::R))(hsz:xs.length<4611686018427387904)(hK:∀w',Ow B w0 w' (af aC s (fQ xs)::R)->K w'):
  Uf s (.func (.func 244) #[] #[]) K w:=by
 have hs:=h.sR 0 U;have hlen:=h.len 0 U;unfold Uf;refine jx func328 U ?_;obtain⟨a,n,cap⟩:=s;dsimp only at hlen;subst hlen;cases hs with
 |nil ha hl hc hcs=>
  dsimp only at ha hl hc;subst ha;subst hc;have:xs= []:=MA hl;subst this;refine(AnyF.slices_SortFunc_none Tryz.wL N 0 _ w).mono ?_;rintro e w' ⟨rfl,rfl⟩;exact⟨U,hK _ (by rw[show fQ []= []from List.mergeSort_nil];exact h)⟩
 |mk b o l ha hb hl hc hcs=>
  dsimp only at ha hl hc hcs;subst ha;obtain⟨t,ht⟩:=hb;have hblk:b<w.heap.size:=(LW.1 ht).1;have hfl:∀ys:Y Slot,Go.Sort.flatK fq 2 ys.toArray=(ys.flatMap fq).toArray:=AN fq 2 (λ_=>rfl) qb;have hfl2:∀ys:Y Slot,(ys.flatMap fq).length=ys.length*2:=λys=>aN aC ys;have hcap:xs.length*2<=cap*2:=Nat.mul_le_mul_right 2 hl;have hc:o+cap*2<=l.length:=hc;have hH:Go.Sort.HoldsK fq 2 w b o xs.toArray:=by
   unfold Go.Sort.HoldsK;rw[hfl];intro j hj;have hj:j<xs.length*2:=by rw[<-hfl2];simpa using hj
   have hcj:(xs.flatMap fq)[j]?=l[o+j]?:=by have hcs:xs.flatMap fq=(l.drop o).take (xs.length*2):=hcs;rw[hcs,LS,qd hj,LR]
   have hjl:j<(xs.flatMap fq).length:=by rw[hfl2];exact hj
   refine⟨?_,?_⟩
   .have h1:l[o+j]?=S (xs.flatMap fq)[j]:=by rw[<-hcj,gE hjl]
    rw[cell_of ht h1];simp only[id,Pu,Ob,gE hjl,Nd]
   .simp[World.frozen?,ht]
  refine(AnyQ.slices_SortFunc_total Tryz.wL 2 isAgg155 sizeOf155 fq (λ_=>rfl) aC.one xk KH 244 #[] b o cap xs.toArray w (enters_of func244 qa U) (GN b o _ w) hH hblk (by simpa using hsz) KI).mono ?_;rintro e w' ⟨rfl,q,os,hw'⟩;refine⟨U,hK _ ?_⟩;have hperm:(fQ xs).Perm xs:=O0 _ _;have hsl:(fQ xs).length=xs.length:=hperm.length_eq;have hw':w'=Go.Sort.grow (Go.Sort.mapBlock (Go.Sort.ahead w q) b (Go.Sort.putCells id o ((fQ xs).flatMap fq).toArray)) os:=by rw[hw',<-hfl];rfl
  have hheap:w'.heap=(w.heap.modify b (Go.Sort.onCells (Go.Sort.putCells id o ((fQ xs).flatMap fq).toArray)))++os:=by rw[hw'];rfl
  have hu:gg (λk=>k=b) w w':=by refine⟨by rw[hw'];rfl,by rw[hw'];rfl,by rw[hw'];rfl,by rw[hheap];simp,λk hk hn=>?_⟩;rw[hheap,On (by simpa using hk),NF,F (λe=>hn e.symm)]
  have hblk':w'.heap[b]?=S (.cells (Go.Sort.putCells id o ((fQ xs).flatMap fq).toArray ⟨l⟩) t):=by rw[hheap,On (by simpa using hblk),NF,qd U,ht];rfl
  refine h.step λabx hA hG=>?_;have hGb:abx b:=hA.1 _ U;refine⟨hu.mono λk _ e=>by rw[e];exact hGb,abx,⟨hA.1,hsl.symm,?_⟩,λk hk=>⟨.inl hk,by have:=(hG k hk).2;have:=hu.size;omega⟩⟩;refine .mk b o (Go.Sort.putCells id o ((fQ xs).flatMap fq).toArray ⟨l⟩).toList U ⟨t,hblk'⟩ hl ?_ ?_
  .show o+cap*2<=_
   rw[Mo];unfold Go.Sort.putCells;rw[Array.size_mapIdx];exact hc
  .show (fQ xs).flatMap fq=(List.drop o _).take (xs.length*2)
   refine List.ext_getElem? λj=>?_;rw[LS];by_cases hj:j<xs.length*2
   .rw[qd hj,LR]
    have hjs:j<((fQ xs).flatMap fq).length:=by rw[hfl2,hsl];exact hj
    have hoj:o+j<l.length:=om
    unfold Go.Sort.putCells;rw[Array.toList_mapIdx,List.getElem?_mapIdx,gE hjs,show(Array.mk l).toList[o+j]?=S (l[o+j]'hoj)from gE hoj,Option.map_some,qd ⟨om,by simp only[N4];omega⟩,show o+j-o=j from by omega];simp only[id,Pu,Ob,gE hjs,Nd]
   .rw[F hj,List.getElem?_eq_none (by rw[hfl2,hsl];omega)]
theorem tE:∀(n:X)(l:Y O),l.Nodup->(∀x∈l,0<=x/\x<(n:O))->l.length<=n
 |0,l,_,h=>by
  cases l with
  |nil=>simp
  |cons a l=>have:=h a qc;omega
 |n+1,l,hn,h=>by
  have h1:=tE n (l.filter λx=>x !=(n:O)) (hn.sublist List.filter_sublist) λx hx=>by
   have h2:=LP.1 hx;have h3:=h x h2.1;have h4:x≠(n:O):=by simpa using h2.2
   omega
  have h2:l.length<=(l.filter λx=>x !=(n:O)).length+1:=by
   clear h1 h;induction l with
   |nil=>simp
   |cons a l ih=>
    rw[Mj]at hn;by_cases e:a=(n:O)
    .have:l.filter (λx=>x !=(n:O))=l:=by
      rw[Mv];intro x hx;have:x≠(n:O):=λe2=>hn.1 (by rw[e,<-e2];exact hx);simpa using this
     rw[List.filter_cons_of_neg (by simp[e]),this,LL];exact Lv _
    .rw[List.filter_cons_of_pos (by simpa using e),LL,LL]
     have:=ih hn.2;omega
  omega
theorem wm{x y z:Slot}(h1:nC x y=Z)(h2:nC y z=Z):nC x z=true:=by simp only[nC,qB]at *;omega
theorem oz{x:Slot}(h:nC x x=Z):qk:=by simp[nC]at h
theorem GZ{x y:Slot}(h:x≠y):nC x y=Z\/nC y x=true:=by
 simp only[nC,qB];by_cases e:x.1=y.1
 .have:x.2≠y.2:=λe2=>h (Prod.ext e e2)
  omega
 .omega
theorem fW(xs:Y Slot):(fQ xs).Perm xs:=O0 _ _
theorem lj{xs:Y Slot}(hn:xs.Nodup):(fQ xs).Pairwise (λx y=>nC x y=Z):=by
 have h1:(fQ xs).Pairwise (λx y=>Ju x y=Z):=by
  refine List.pairwise_mergeSort (λa b c h1 h2=>?_) (λa b=>?_) _
  .simp only[Ju,gW,nC,N2,qY]at *;omega
  .simp only[Ju,gW,nC,MC,N2,qY];omega
 have h2:(fQ xs).Pairwise (λx y=>x≠y):=(fW xs).nodup_iff.2 hn;refine(h1.and h2).imp λ{x y}h=>?_;rcases GZ h.2 with e|e
 .exact e
 .have:=h.1
  simp only[Ju,gW,e]at this;cases this
structure kM(H:Hs)(hs:Y (Slot × cN)):Prop where
 kg:hs.Pairwise (λx y=>nC x.1 y.1=Z)
 mem:∀k c,(k,c)∈hs↔H k=S c
theorem kM.nodup{H:Hs}{hs:Y (Slot × cN)}(h:kM H hs):hs.Nodup:=h.kg.imp λ{x y}h e=>by rw[e]at h;exact oz h
theorem kM.uniq{H:Hs}{hs hs':Y (Slot × cN)}(h:kM H hs)(h':kM H hs'):hs=hs':=by
 have hp:hs.Perm hs':=(List.perm_ext_iff_of_nodup h.nodup h'.nodup).2 λx=>by rw[show x=(x.1,x.2)from U,h.mem,h'.mem]
 refine List.Perm.eq_of_pairwise (le:=λx y=>nC x.1 y.1=Z) (λa b _ _ h1 h2=>(oz (wm h1 h2)).elim) h.kg h'.kg hp
theorem y8{M:Y (Slot × cN)}{H:Hs}(hn:(M.map (·.1)).Nodup)(hM:∀k,de M k=H k):kM H ((fQ (M.map (·.1))).map λk=>(k,(H k).getD ak)):=by
 refine⟨?_,λk c=>?_⟩
 .rw[N3];exact lj hn
 .rw[L2]
  constructor
  .rintro ⟨k',hk,e⟩
   cases e;have hk:=(fW _).mem_iff.1 hk;cases e:H k with
   |none=>rw[<-hM]at e;exact qj hk (eW.1 e)
   |some c=>rfl
  .intro e
   refine⟨k,(fW _).mem_iff.2 ?_,by rw[e];rfl⟩;rw[<-hM]at e;exact L2.2 ⟨_,pL e,U⟩
theorem rh.bound{bits:Y O}{H:Hs}(h:rh bits H){k:Slot}{c:cN}(e:H k=S c):0<=k.1/\k.1<64/\0<=k.2/\k.2<256:=by
 obtain⟨ht,_⟩:=h.held k c e;unfold aQ at ht;cases hz:dX bits k.1 with
 |none=>rw[hz]at ht;cases ht
 |some z=>
  rw[hz]at ht;simp only[qB]at ht;obtain⟨h0,h1,h2⟩:=jG hz;obtain⟨r1,r2⟩:=sh h hz;have hlt:k.1.toNat<bits.length:=(Lu.1 h1).1;have:=h.eC;have hp:(2:O)^z.toNat<=2^8:=by
   have:(2:X)^z.toNat<=2^8:=Mh om om;have h3:(2:O)^z.toNat=((2^z.toNat:X):O):=by simp
   rw[h3];omega
  omega
theorem EM{bits:Y O}{M:Y (Slot × cN)}{H:Hs}(h:rh bits H)(hn:(M.map (·.1)).Nodup)(hM:∀k,de M k=H k):M.length<=16384:=by
 have hb:∀k∈M.map (·.1),0<=k.1/\k.1<64/\0<=k.2/\k.2<256:=λk hk=>by
  cases e:H k with
  |none=>rw[<-hM]at e;exact qj hk (eW.1 e)
  |some c=>exact h.bound e
 have:=tE 16384 ((M.map (·.1)).map λk=>k.1*256+k.2) (by
  refine N3.2 (List.Pairwise.imp_of_mem (λ{x y}hx hy hne e=>hne ?_) hn);have:=hb x hx;have:=hb y hy;exact Prod.ext om om) λx hx=>by
  obtain⟨k,hk,rfl⟩:=L2.1 hx;have:=hb k hk;omega
 simpa using this
theorem xI{w':J}{t:qi}{v:Q}{xs:Y Slot}(h:Ow B w0 w R)(hb:RowKit.Below w.heap.size w w')(hr:w'.ownsRow w.heap.size t 2 v xs.length (xs.flatMap fq)):
  ∃s:Sl,v= s.v/\Ow B w0 w' (af aC s xs::R):=by
 have hu:gg No w w':=⟨hb.os,hb.tape,hb.output,hb.size,λk hk _=>hb.block k hk⟩
 rcases hr.2 with⟨rfl,hz⟩|⟨g,cap,cur,rfl,hbase,hgb,r1,r2,r3,r4⟩
 .have:xs= []:=MA hz
  subst this;exact⟨z0,U,(h.same hu).cZ⟩
 .refine ⟨⟨S g.p,xs.length,cap⟩,U,h.new (A':=af aC ⟨S g.p,xs.length,cap⟩ xs) (G':=λk=>k=g) hu ⟨λa ha=>?_,U,?_⟩ λk e=>?_⟩
  .cases ha;rfl
  .refine .mk g 0 cur.toList U ⟨t,hgb⟩ r1 ?_ ?_
   .show 0+cap*2<=cur.toList.length
    rw[Mo];omega
   .rw[M3];exact r4.symm
  .subst e
   exact⟨hbase,(LW.1 hgb).1⟩
theorem mD{m:X}{M:Y (Slot × cN)}{K:Sl->Pw}(h:Ow B w0 w L)(i:X)(hi:L[i]?=S (gG m M))(hsz:M.length<=1000000)
  (hK:∀(s:Sl)(w':J),Ow B w0 w' (af aC s (fQ (M.map (·.1)))::L)->K s w'):
  TO (S m) (λr5 w6=>Rw r5 (.func (.func 244) #[] #[]) K w6) w:=by
 have hM:jI dy iL w m M:=(h.take i hi).head λ_ h=>h.2;obtain⟨es,c,hb,hmap,hborn,hlt⟩:=hM.ex;have hkeys:es.toList.map (·.key)=(M.map (·.1)).map jQ:=by have:=qz (List.map (·.1)) hmap;rw[Nl,Nl]at this;rw[Nl];exact this
 have hml:(M.map (·.1)).length<=1000000:=by rw[L3];exact hsz
 have hblt:m<w.heap.size:=(LW.1 hb).1;apply VW;show Rw _ _ K (w.alloc _);have h1:Ow B w0 (w.alloc (.cells #[.map (S m)] 232)) L:=h.same (ej _ _);have hseq:=y9 1 (Lv _) w.heap.size m es c (M.map (·.1)) hkeys hborn hlt (w.alloc (.cells #[.map (S m)] 232)) (by rw[World.size_alloc];omega) (cell_of (World.alloc_heap_new _ _) U) ((RowKit.Below.heap_alloc _ _ m hblt).trans hb);generalize w.alloc (.cells #[.map (S m)] 232)=w1 at h1 hseq;apply VB;apply VG;unfold Vf;refine jx func384 U ?_;refine(callsIn_wide (n:=2)).1 ((AF 329 #[.q w.heap.size] (enters_of func329 qa U) _ _ hml w1 hseq).mono ?_);rintro e w2 ⟨v,ss,rfl,hS,hrow,hbel⟩;obtain⟨s,rfl,h2⟩:=xI h1 hbel hrow;refine⟨s,U,?_⟩;have hsl:ss.length<=1000000:=by rw[hS.length_eq];exact hml
 refine vu h2 om λw3 h3=>?_;have:fQ ss=fQ (M.map (·.1)):=by have hn:ss.Nodup:=hS.nodup_iff.2 hM.nodup;refine List.Perm.eq_of_pairwise (le:=λx y=>nC x y=Z) (λa b _ _ h1 h2=>(oz (wm h1 h2)).elim) (lj hn) (lj hM.nodup) ?_;exact(fW _).trans (hS.trans (fW _).symm)
 rw[this]at h3;exact hK s w3 h3
theorem vQ{s:Sl}{ys:Y (Slot × cN)}{y:Slot × cN}{c:X}{L:Y aH}{k:Sl->Pw}[abw:cu s L (Slot × cN) dW ys][abq:fh (af dW s ys) L R](h:Ow B w0 w (aa c [.z y.1.1,.z y.1.2,.z y.2.kind,.z y.2.obj,.z y.2.ar,.y y.2.ay,.y y.2.guard,.z y.2.bits]::L))(hbig:ys.length<=1000000000)
  (hk:∀s' w',s'.len=ys.length+1->Ow B w0 w' (af dW s' (ys++ [y])::R)->k s' w'):
  ∃s' w',aM qe [78,78] 78 s.v (.slice (S c.p) 1 1) w s' w'/\k s' w':=
 Ow.eL (E:=dW) (y:=y) underlying78 (show qe.info? 201=S aaS from by kernel_rfl) (zv:=(aaS.zero).get qa) qa qa qa qb h (by
  have e:aaS.bytes=64:=qa
  rw[e];omega) hk
theorem Kv{w:J}{A:qg}{x:Slot}{f:O->O->Prop}(g:∀c v,(aC.enc x)[c]?=S v->w.cell? (A.add c)=S v)(hf:f x.1 x.2):ax w A 0 [.o,.o] f:=
 ⟨_,g 0 _ U,_,g 1 _ U,hf⟩
theorem gM{K:Sl->Pw}(h:Ow B w0 w (av b bits H::R))(hK:∀s hs w',kM H hs->Ow B w0 w' (af dW s hs::av b bits H::R)->K s w'):Ro b.o K w:=by
 apply XD;obtain⟨⟨xs,m,M⟩,hk,hM,h⟩:=h.nodes;dsimp only at hM h;have hnd:=h.Ba 2 U;have hfew:=EM hk hnd hM;refine⟨_,U,S m,h.ld 0 U U,mD h 2 U om λs w h=>?_⟩;have hih:=y8 hnd hM;have hkl:(fQ (M.map (·.1))).length=M.length:=by rw[(fW _).length_eq,L3]
 have hkH:∀k∈fQ (M.map (·.1)),H k=S ((H k).getD ak):=λk hk'=>by
  have:=(fW _).mem_iff.1 hk';cases e:H k with
  |none=>rw[<-hM]at e;exact qj this (eW.1 e)
  |some c=>rfl
 generalize fQ (M.map (·.1))=ks at h hih hkl hkH;have hlen:=h.aL s;intro l8 hl8;have loop:∀(j t:X)(out:Sl)(w:J),t+j=ks.length->Ow B w0 w (af dW out ((ks.take t).map λk=>(k,(H k).getD ak))::af aC s ks::aa b [bg xs,.map (S m)]::af aq xs bits::gG m M::R)->l8 out (t:O) w:=by
  intro j;induction j with
  |zero=>
   intro t out w ht h;apply hl8;refine aw om ?_;rw[Lz om]at h;exact hK out _ w hih (Ow.cq (Ow.eu (s:=xs) (m:=m) hk hM h.sub))
  |succ j ih=>
   intro t out w ht h;apply hl8;refine az om ?_;have hx:ks[t]?=S ks[t]:=gE om;refine h.cz (s:=s) (i:=(t:O)) (j:=t) U hx λa ha h0 hc=>Kv hc ?_;have hHx:=hkH ks[t] (Mq _);have hnext:(ks.take (t+1)).map (λk=>(k,(H k).getD ak))=(ks.take t).map (λk=>(k,(H k).getD ak))++ [(ks[t],(H ks[t]).getD ak)]:=by rw[LJ,hx,LU];rfl
   generalize (H ks[t]).getD ak=c at hHx hnext;generalize ks[t]=kx at hHx hnext;refine h.a λd1 w1 h=>?_;refine h.aA U U λw2 h=>?_;refine h.dr λw3 h=>?_;refine⟨_,U,S m,h.aF U,h.aR U (h.aR U ?_)⟩;have hl2:de M kx=S c:=by rw[hM];exact hHx
   refine⟨⟨c.kind,c.obj,c.ar,c.ay,c.guard,c.bits,(h.sL qO iY 5 U hl2).2,h.hd U ⟨h.al λw4 h=>⟨?_,trivial⟩,trivial⟩⟩,trivial⟩
   generalize w3.heap.size=d3 at h|-;refine vQ (s:=out) (y:=(kx,c)) h (by rw[L3,LX];omega) λs' w hs' h=>?_;rw[wI t om];refine ih (t+1) s' w om ?_;rw[hnext];exact h.sub
 exact loop ks.length 0 z0 w om (Ow.cZ h)
end
end Sl
end Go.Vc
namespace Go.Vc
open Go.Proofs
abbrev Slot:=O × O
abbrev cN:=Sl.cN
structure Call where
 ask:O
 at_:O
 ao:O
 a:O
 b:O
 c:O
deriving DecidableEq
abbrev Call.cl(c:Call):Y Q:=[.z c.ask,.z c.at_,.z c.ao,.z c.a,.z c.b,.z c.c]
structure lM where
 space:O
 FF:O
 frame:O
 ar:O
deriving DecidableEq
structure Told where
 e:O
 w:O
 dY:O
 forget:Y lM
deriving DecidableEq
structure ag where
 bits:Y O
 H:Sl.Hs
 T:Tr.Tr
 t:Th.Mt
 ln:wU
 u:Y nP
 ends:Y eB
 notes:Y nO
 ae:Y Tb.dV
 aS:X
 cB:X
structure oX where
 core:O
 cur:O
 call:Call
 s:Slot
 c:cN
namespace ag
def aZ(k:ag)(n:O):cN:=if 0<=n/\n<64 then(k.H (0,n)).getD Sl.ak else Sl.ak
def dn(k:ag)(n kind:O):W:=V ((k.aZ n).kind≠0)&&(V (kind=0)||V ((k.aZ n).kind=kind))
def fc(k:ag)(w:O)(n:X):O:=if w<0\/64<w+n then 181 else if(LA n).any (λi=>V ((k.aZ (w+(i:O))).kind≠0))then 51 else 0
def laid(k:ag)(f t:Slot)(c:cN):ag:={ k with H:=(Sl.iN k.bits k.H t c).2,T:=(Tr.xc k.T f t).2}
def made(k:ag)(core a b:O)(at_:X):O × ag:=
 if a=1 then((k.u.length:O),{ k with u:=k.u++ [⟨at_,b.toNat,0⟩]})
 else if a=2 then((Sl.eD k.bits b).1,{ k with bits:=(Sl.eD k.bits b).2.2})
 else if a=3 then((k.t.cw 0 core).1,{ k with t:=(k.t.cw 0 core).2.2})
 else if a=4 then((k.ends.length:O),{ k with ends:=k.ends++ [⟨[],G⟩]})
 else if a=5 then((k.notes.length:O),{ k with notes:=k.notes++ [⟨0,G,[]⟩]})
 else if a=8 then((k.ae.length:O),{ k with ae:=k.ae++ [Tb.iM]})
 else if a=6 then((k.aS:O),{ k with aS:=k.aS+1})
 else((k.cB:O),{ k with cB:=k.cB+1})
def makes(core a b w:O)(s:Slot):Y X->X->ag->ag
 | [],_,k=>k
 |at_::r,j,k=>makes core a b w s r (j+1) ((k.made core a b at_).2.laid s (0,w+(j:O)) ⟨a,(k.made core a b at_).1,7,0,0,0⟩)
def ij(k:ag)(n:O):nP:=(k.u[n.toNat]?).getD zU
def eS(k:ag)(d:oX):O × ag:=
 if(bH (k.ij d.c.obj) d.call.a d.call.b d.call.c).2.2≠0 then((bH (k.ij d.c.obj) d.call.a d.call.b d.call.c).2.2,k)
 else if k.fc d.call.ao d.call.c.toNat≠0 then(k.fc d.call.ao d.call.c.toNat,k)
 else if(d.call.a=2/\64<(k.bits.length:O)+d.call.c)\/(d.call.a=3/\64<(k.t.br.length:O)+d.call.c)then(2,k)
 else(0,makes d.core d.call.a d.call.b d.call.ao d.s (bH (k.ij d.c.obj) d.call.a d.call.b d.call.c).1 0 { k with u:=k.u.set d.c.obj.toNat (bH (k.ij d.c.obj) d.call.a d.call.b d.call.c).2.1})
def fI(c:cN)(r g:O):cN × O:=
 if Sl.bY c≠0 then(Sl.ak,Sl.bY c)else if ¬(0<=r/\r<=7)then(Sl.ak,1)
 else if c.kind=0\/(g≠0/\(Sl.cW c.kind=G\/c.ay≠0))then(Sl.ak,41)
 else({ c with ar:=if Sl.cP c.kind then di .i64 c.ar r else c.ar,ay:=if g≠0 then g else c.ay},0)
def mG(k:ag)(d:oX):O × ag:=
 if d.c.kind=1 then(181,k)else if k.fc d.call.ao 1≠0 then(k.fc d.call.ao 1,k)
 else if(fI d.c d.call.a (qv.wrap d.call.b)).2≠0 then((fI d.c d.call.a (qv.wrap d.call.b)).2,k)
 else(0,k.laid d.s (0,d.call.ao) (fI d.c d.call.a (qv.wrap d.call.b)).1)
def move(k:ag)(d:oX):O × ag:=
 if k.fc d.call.ao 1≠0 then(k.fc d.call.ao 1,k)
 else(0,{ k with H:=(Sl.dI k.bits k.H d.s (0,d.call.ao)).2,T:=(Tr.dI k.T d.s (0,d.call.ao)).2})
def dz(k:ag)(id:O):ag:={ k with ends:=k.ends.map (·.cancel id),notes:=k.notes.map (·.cancel id)}
def aT(i:X)(P:Tb.fA):Y lM:=P.map λx=>⟨(i:O),x.1,x.2.1,x.2.2⟩
def bp(f:O):X->Y Tb.dV->Y lM × Y Tb.dV
 |_,[]=>([],[])
 |i,m::r=>(aT i (m.pg.filter λx=>x.2.1==f)++(bp f (i+1) r).1,{ m with pg:=m.pg.filter λx=> !(x.2.1==f)}::(bp f (i+1) r).2)
def dH(n:O)(i:X):X->X->Tb.dV->Y lM × Tb.dV
 |0,_,m=>([],m)
 |q+1,j,m=>if m.at (j:O)=S n then(aT i (m.bw (j:O)).1++(dH n i q (j+1) (m.bw (j:O)).2.2).1,(dH n i q (j+1) (m.bw (j:O)).2.2).2)
  else dH n i q (j+1) m
def cO(n:O):X->Y Tb.dV->Y lM × Y Tb.dV
 |_,[]=>([],[])
 |i,m::r=>((dH n i 64 0 m).1++(cO n (i+1) r).1,(dH n i 64 0 m).2::(cO n (i+1) r).2)
def last(k:ag)(c:cN):Y lM × ag:=
 if c.kind=3 then([],{ k.dz c.obj with t:=(k.t.bV c.obj).2})
 else if c.kind=6 then((bp c.obj 0 k.ae).1,{ k with ae:=(bp c.obj 0 k.ae).2})
 else if c.kind=7 then((cO c.obj 0 k.ae).1,{ k with ae:=(cO c.obj 0 k.ae).2})
 else([],k)
def lJ(a c:cN):W:=V (a.kind≠0)&&(V (a.kind=c.kind)&&V (a.obj=c.obj))
def more(k:ag)(c:cN):W:=(LA 64).any λi=>match k.H (0,(i:O))with|some x=>lJ x c|none=>G
def taken(k:ag)(s:Slot):ag:={ k with H:=Sl.cC k.H s N,T:=(Tr.takeN k.T s).2}
def gone(k:ag)(s:Slot):Y lM × ag:=
 if(k.taken s).more ((k.H s).getD Sl.ak)then([],k.taken s)else(k.taken s).last ((k.H s).getD Sl.ak)
def cI:Y Slot->ag->Y lM × ag
 | [],k=>([],k)
 |s::r,k=>((k.gone s).1++(cI r (k.gone s).2).1,(cI r (k.gone s).2).2)
def ka(k:ag)(n:O):ag:={ k with u:=k.u.set n.toNat { k.ij n with used:=0}}
def bZ(k:ag)(t:Th.Mt):ag:={ k with t:=t}
def dQ(k:ag)(id:O):O × O × ag:=((k.t.bJ id).1,if(k.t.bJ id).1=0 then id else -1,k.bZ (k.t.bJ id).2)
def jq(k:ag)(id:O)(m:Eb):ag:=k.bZ ((((k.t.mQ id 0 m.ay).2.mQ id 1 (qv.wrap m.label)).2.mQ id 2 m.w0).2)
def rest(k:ag)(d:oX):ag:=if d.call.c≠0 then k.bZ ((k.t.gl d.cur).2.aW d.core)else k
def fB(k:ag)(n:O):eB:=(k.ends[n.toNat]?).getD ⟨[],G⟩
def ju(k:ag)(n:O):nO:=(k.notes[n.toNat]?).getD ⟨0,G,[]⟩
def iB(k:ag)(n:O):Tb.dV:=(k.ae[n.toNat]?).getD Tb.iM
def eA(k:ag)(n:O)(p:eB):ag:={ k with ends:=k.ends.set n.toNat p}
def iO(k:ag)(n:O)(p:nO):ag:={ k with notes:=k.notes.set n.toNat p}
def pX(k:ag)(n:O)(p:Tb.dV):ag:={ k with ae:=k.ae.set n.toNat p}
def tell(e:O)(k:ag):Told × ag:=(⟨e,0,-1,[]⟩,k)
def dC(x:O × O × ag):Told × ag:=(⟨x.1,0,x.2.1,[]⟩,x.2.2)
def eN(d:oX):Eb:=⟨d.call.a,qv.wrap d.call.b,0,0,0,d.c.ay,G⟩
def send(k:ag)(d:oX):Told × ag:=
 if((k.fB d.c.obj).send d.cur (eN d) (d.call.c !=0)).2.1≠0 then tell ((k.fB d.c.obj).send d.cur (eN d) (d.call.c !=0)).2.1 (k.eA d.c.obj ((k.fB d.c.obj).send d.cur (eN d) (d.call.c !=0)).2.2)
 else if((k.fB d.c.obj).send d.cur (eN d) (d.call.c !=0)).1.is=G then tell 0 ((k.eA d.c.obj ((k.fB d.c.obj).send d.cur (eN d) (d.call.c !=0)).2.2).rest d)
 else dC (((k.eA d.c.obj ((k.fB d.c.obj).send d.cur (eN d) (d.call.c !=0)).2.2).jq ((k.fB d.c.obj).send d.cur (eN d) (d.call.c !=0)).1.to ((k.fB d.c.obj).send d.cur (eN d) (d.call.c !=0)).1.m).dQ ((k.fB d.c.obj).send d.cur (eN d) (d.call.c !=0)).1.to)
def recv(k:ag)(d:oX):Told × ag:=
 if((k.fB d.c.obj).recv d.cur (d.call.c !=0)).2.1≠0 then tell ((k.fB d.c.obj).recv d.cur (d.call.c !=0)).2.1 (k.eA d.c.obj ((k.fB d.c.obj).recv d.cur (d.call.c !=0)).2.2)
 else if((k.fB d.c.obj).recv d.cur (d.call.c !=0)).1.is=G then tell 0 ((k.eA d.c.obj ((k.fB d.c.obj).recv d.cur (d.call.c !=0)).2.2).rest d)
 else dC (((k.eA d.c.obj ((k.fB d.c.obj).recv d.cur (d.call.c !=0)).2.2).jq d.cur ((k.fB d.c.obj).recv d.cur (d.call.c !=0)).1.m).dQ ((k.fB d.c.obj).recv d.cur (d.call.c !=0)).1.EY)
def bm(k:ag)(n g:O):O × ag:=match((k.ju n).bm g).1 with
 |none=>(-1,k.iO n ((k.ju n).bm g).2)
 |some who=>(who,(k.iO n ((k.ju n).bm g).2).bZ (((k.t.mQ who 0 g).2.bJ who).2))
def wait(k:ag)(d:oX):Told × ag:=
 if((k.ju d.c.obj).wait d.cur (d.call.c !=0)).1.2.2≠0 then tell ((k.ju d.c.obj).wait d.cur (d.call.c !=0)).1.2.2 (k.iO d.c.obj ((k.ju d.c.obj).wait d.cur (d.call.c !=0)).2)
 else(⟨0,((k.ju d.c.obj).wait d.cur (d.call.c !=0)).1.1,-1,[]⟩,if((k.ju d.c.obj).wait d.cur (d.call.c !=0)).1.2.1 then k.iO d.c.obj ((k.ju d.c.obj).wait d.cur (d.call.c !=0)).2 else(k.iO d.c.obj ((k.ju d.c.obj).wait d.cur (d.call.c !=0)).2).rest d)
def table(k:ag)(d:oX):Told × ag:=
 if k.dn d.call.ao 8=G then tell 181 k
 else tell ((k.iB (k.aZ d.call.ao).obj).iQ d.call.a d.c.obj).1 (k.pX (k.aZ d.call.ao).obj ((k.iB (k.aZ d.call.ao).obj).iQ d.call.a d.c.obj).2)
def mapped(k:ag)(d:oX):Told × ag:=
 if k.dn d.call.ao 8=G then tell 181 k
 else tell ((k.iB (k.aZ d.call.ao).obj).pJ d.call.a (d.c.obj,di .i64 d.c.ar d.call.b)).1 (k.pX (k.aZ d.call.ao).obj ((k.iB (k.aZ d.call.ao).obj).pJ d.call.a (d.c.obj,di .i64 d.c.ar d.call.b)).2)
def lL(k:ag)(d:oX):Told × ag:=
 (⟨((k.iB d.c.obj).cg d.call.a).2.1,0,-1,if((k.iB d.c.obj).cg d.call.a).2.1=0 then [⟨d.c.obj,d.call.a,((k.iB d.c.obj).cg d.call.a).1.1,((k.iB d.c.obj).cg d.call.a).1.2⟩]else []⟩,k.pX d.c.obj ((k.iB d.c.obj).cg d.call.a).2.2)
def bind(k:ag)(d:oX):Told × ag:=
 if k.dn d.call.ao 5=G then tell 181 k
 else tell (mc k.ln d.c.obj (k.aZ d.call.ao).obj (k.aZ d.call.ao).ay).1 { k with ln:=(mc k.ln d.c.obj (k.aZ d.call.ao).obj (k.aZ d.call.ao).ay).2}
def iw(k:ag)(r:(qh (O × O)× O)× wU):O × O × ag:=match r.1.1 with
 |none=>(r.1.2,-1,{ k with ln:=r.2})
 |some x=>(r.1.2,((ag.bm { k with ln:=r.2} x.1 x.2).1),(ag.bm { k with ln:=r.2} x.1 x.2).2)
def resume(k:ag)(d:oX):O × O × ag:=(if k.t.cH d.c.obj=Z/\(k.t.th d.c.obj).st=3 then k.dz d.c.obj else k).dQ d.c.obj
def jC(k:ag)(d:oX):Told × ag:=
 (⟨0,((Tr.cF k.T d.s).length:O),-1,(cI (Tr.cF k.T d.s).reverse k).1⟩,
  if d.c.kind=1 then(cI (Tr.cF k.T d.s).reverse k).2.ka d.c.obj else(cI (Tr.cF k.T d.s).reverse k).2)
def asks(k:ag)(d:oX):Told × ag:=match d.call.ask with
 |0=>tell (k.eS d).1 (k.eS d).2
 |1=>tell (k.mG d).1 (k.mG d).2
 |2=>tell (k.move d).1 (k.move d).2
 |3=>if d.call.at_=0 then tell 181 k else(⟨0,0,-1,(k.gone d.s).1⟩,(k.gone d.s).2)
 |4=>k.jC d
 |5=>dC (k.resume d)
 |6=>tell (k.t.bV d.c.obj).1 ((k.dz d.c.obj).bZ (k.t.bV d.c.obj).2)
 |7=>tell (k.t.fO d.c.obj d.call.a).1 (k.bZ (k.t.fO d.c.obj d.call.a).2)
 |8=>k.send d
 |9=>k.recv d
 |10=>(⟨0,0,(k.bm d.c.obj d.c.ay).1,[]⟩,(k.bm d.c.obj d.c.ay).2)
 |11=>k.wait d
 |12=>k.table d
 |13=>k.mapped d
 |14=>k.lL d
 |15=>k.bind d
 |_=>dC (k.iw (iu k.ln d.c.obj))
def aG(ask:O):O × O:=([(1,0),(0,0),(0,0),(0,0),(0,0),(3,0),(3,0),(3,0),(4,2),(4,1),(5,2),(5,1),(7,0),(6,0),(8,0),(9,0),(9,0),(0,0)][ask.toNat]?).getD (0,0)
def asked(k:ag)(core cur:O)(c:Call):Told × ag:=
 if k.dn c.at_ (aG c.ask).1=G then tell 181 k
 else if di .i64 (k.aZ c.at_).ar (aG c.ask).2≠(aG c.ask).2 then tell 181 k
 else k.asks ⟨core,cur,c,(0,c.at_),k.aZ c.at_⟩
def «do»(k:ag)(core:O)(c:Call):Told × ag:=match(k.t.aW core).bP core with
 |none=>tell 182 (k.bZ (k.t.aW core))
 |some cur=>if c.ask<0\/18<=c.ask then tell 180 (k.bZ (k.t.aW core))
  else if c.ask=17 then tell 0 (k.bZ ((k.t.aW core).yield core))
  else(k.bZ (k.t.aW core)).asked core cur c
def irq(k:ag)(line:O):O × O × ag:=k.iw (eI k.ln line)
def tick(k:ag)(core:O):ag:=k.bZ (k.t.tick core)
end ag
section
variable{abz:X}{k:ag}{B:X}{w0 w:J}{R L:Y aH}
theorem Bo{c:cN}{r g:O}{K:O->O->O->O->O->O->O->Pw}(h:Ow B w0 w R)(hc:Sl.fg c)(hg:0<=g)
  (hK:∀w' x,x=(ag.fI c r g).1->Ow B w0 w' R->K x.kind x.obj x.ar x.ay x.guard x.bits (ag.fI c r g).2 w'):Tm c.kind c.obj c.ar c.ay c.guard c.bits r g K w:=by
 apply Yn;refine h.a λa w1 h=>?_;refine h.a λz w2 h=>?_;refine h.dx U ?_;refine Sl.kF h hc λw h=>?_;unfold ag.fI at hK;have bad:∀(e:O)(w:J),(∀w' x,x=Sl.ak->Ow B w0 w' R->K x.kind x.obj x.ar x.ay x.guard x.bits e w')->
   Ow B w0 w (aa z [.z 0,.z 0,.z 0,.y 0,.y 0,.z 0]::aa a c.cells::R)->
   aB w z.p 0 [.z (0:O),.z (0:O),.z (0:O),.y (0:O),.y (0:O),.z (0:O)] λw19=>
   ax w19 z.p 0 [.o,.o,.o,.u,.u,.o] λ(r20:O)(r21:O)(r22:O)(r23:O)(r24:O)(r25:O)=>K r20 r21 r22 r23 r24 r25 e w19:=λe w hK h=>by
  refine h.aA U U λw h=>?_;refine h.dx U ?_;exact hK w Sl.ak U h.drop.drop
 refine oU (λe=>?_) (λe=>?_)
 .rw[qd e]at hK
  exact bad _ w hK h
 rw[F (by rw[e];decide)]at hK;intro k26 hk26;have t26:¬(0<=r/\r<=7)->k26 Z w:=λe2=>by rw[qd e2]at hK;exact hk26 _ _ (bh U (bad 1 w hK h))
 refine bo (λe1=>t26 om) (λe1=>?_);by_cases e2:r>7
 .rw[qu e2];exact t26 om
 rw[qm e2];rw[F om]at hK;apply hk26;refine bc U ?_;intro k36 hk36;have t36:(c.kind=0\/(g≠0/\(Sl.cW c.kind=G\/c.ay≠0)))->k36 Z w:=λe3=>by rw[qd e3]at hK;exact hk36 _ _ (bh U (bad 41 w hK h))
 have main:¬(c.kind=0\/(g≠0/\(Sl.cW c.kind=G\/c.ay≠0)))->k36 G w:=λe3=>by
  rw[F e3]at hK;apply hk36;refine bc U ?_;refine h.dx U ?_;refine h.a λn w3 h=>?_;refine h.aA U U λw h=>?_;refine⟨_,h.aF U,Sl.jz ?_⟩;intro k57 hk57;have fin:∀(w:J)(ri:O),ri=(if Sl.cP c.kind then di .i64 c.ar r else c.ar)->Ow B w0 w (aa n [.z c.kind,.z c.obj,.z ri,.y c.ay,.y c.guard,.z c.bits]::aa z [.z 0,.z 0,.z 0,.y 0,.y 0,.z 0]::aa a c.cells::R)->k57 w:=λw ri hr h=>by
   apply hk57;subst hr;refine bo (λe4=>?_) (λe4=>?_)
   .rw[qd (show g≠0 by omega)]at hK
    refine h.fK U U λw h=>?_;refine h.dx U ?_;refine h.aA U U λw h=>?_;refine h.dx U ?_;exact hK w _ U h.sub
   .rw[F (show ¬g≠0 by omega)]at hK
    refine h.dx U ?_;refine h.aA U U λw h=>?_;refine h.dx U ?_;exact hK w _ U h.sub
  cases hl:Sl.cP c.kind with
  |true=>
   refine bh U (h.l2 U ?_);refine h.fK U U λw h=>?_;exact fin w _ (by rw[hl];rfl) h
  |false=>exact bc U (fin w _ (by rw[hl];rfl) h)
 refine h.l1 U ?_;refine dE (λe3=>t36 (.inl e3)) (λe3=>?_);refine bo (λe4=>⟨_,h.aF U,Sl.gz ?_⟩) (λe4=>main om);cases hbd:Sl.cW c.kind with
 |false=>exact bh U (t36 (.inr ⟨om,.inl hbd⟩))
 |true=>
  refine bc U (h.l2 U ?_);by_cases e5:c.ay>0
  .rw[qu e5];exact t36 (.inr ⟨om,.inr om⟩)
  .rw[qm e5]
   refine main ?_;rintro (h1|⟨_,h1|h1⟩)
   .exact e3 h1
   .rw[hbd]at h1;cases h1
   .have:=hc.b0;omega
theorem Bs{a c:cN}{K:W->Pw}(h:Ow B w0 w R)(hK:∀w',Ow B w0 w' R->K (ag.lJ a c) w'):T3 a.kind a.obj a.ar a.ay a.guard a.bits c.kind c.obj c.ar c.ay c.guard c.bits K w:=by
 apply Yr;refine h.a λx w1 h=>?_;refine h.a λy w2 h=>?_;have hK:=hK w2 h.drop.drop;unfold ag.lJ at hK;refine h.l1 U ?_;refine oU (λe=>?_) (λe=>?_)
 .rw[qu e,M6]at hK
  refine⟨_,h.aF U,h.l1 U (dE (λe2=>?_) (λe2=>?_))⟩
  .rw[qu e2,M6]at hK
   refine⟨_,h.aE U,h.l2 U ?_⟩;rw[show(a.obj==c.obj)=V (a.obj=c.obj)from U];exact hK
  .rw[qm e2]at hK;exact hK
 .rw[qm (by simpa using e)]at hK;exact hK
def ag.fe(k:ag)(c:cN):Prop:=0<=c.obj/\(c.kind=1->c.obj<(k.u.length:O))/\(c.kind=2->c.obj<(k.bits.length:O))/\(c.kind=3->c.obj<(k.t.br.length:O))/\
 (c.kind=4->c.obj<(k.ends.length:O))/\(c.kind=5->c.obj<(k.notes.length:O))/\(c.kind=6->c.obj<(k.aS:O))/\(c.kind=7->c.obj<(k.cB:O))/\(c.kind=8->c.obj<(k.ae.length:O))/\(c.kind=9->c.obj<8)
structure ba(abz:X)(k:ag):Prop where
 b0:k.bits[0]?=S 6
 rk:Sl.rh k.bits k.H
 held:∀s c,k.H s=S c->(s.1=0/\0<=s.2/\s.2<64)/\k.fe c
 tok:Tr.oc k.T
 mem:∀s,s∈k.T.map (·.1)↔(k.H s).isSome=Z
 inv:Th.bF (-1) k.t
 ln:k.ln.length=8
 Ee:∀x∈k.ln,x.is≠0->0<=x.note/\x.note<(k.notes.length:O)
 u:∀x∈k.u,wZ x
 xZ:∀m∈k.ae,Tb.eZ m
 nu:k.u.length<=abz
 ne:k.ends.length<=abz
 nn:k.notes.length<=abz
 ns:k.ae.length<=abz
 nf:k.aS<=abz
 nt:k.cB<=abz
 el:∀p∈k.ends,p.l.length<=abz
 nl:∀p∈k.notes,p.l.length<=abz
structure Gr(k k':ag):Prop where
 u:k.u.length<=k'.u.length
 b:k.bits.length<=k'.bits.length
 t:k.t.br.length<=k'.t.br.length
 e:k.ends.length<=k'.ends.length
 n:k.notes.length<=k'.notes.length
 f:k.aS<=k'.aS
 tb:k.cB<=k'.cB
 s:k.ae.length<=k'.ae.length
theorem Gr.obj{k k':ag}(h:Gr k k'){c:cN}(ho:k.fe c):k'.fe c:=by have h1:=h.u;have h2:=h.b;have h3:=h.t;have h4:=h.e;have h5:=h.n;have h6:=h.f;have h7:=h.tb;have h8:=h.s;obtain⟨o0,o1,o2,o3,o4,o5,o6,o7,o8,o9⟩:=ho;exact⟨o0,λe=>by have:=o1 e;omega,λe=>by have:=o2 e;omega,λe=>by have:=o3 e;omega,λe=>by have:=o4 e;omega,λe=>by have:=o5 e;omega,λe=>by have:=o6 e;omega,λe=>by have:=o7 e;omega,λe=>by have:=o8 e;omega,o9⟩
theorem ba.mono{abz M:X}{k:ag}(h:ba abz k)(hm:abz<=M):ba M k:=
 { h with
  nu:=LY h.nu hm,ne:=LY h.ne hm,nn:=LY h.nn hm,ns:=LY h.ns hm,nf:=LY h.nf hm,nt:=LY h.nt hm
  el:=λp hp=>LY (h.el p hp) hm,nl:=λp hp=>LY (h.nl p hp) hm}
theorem Gd{bits:Y O}(h:bits[0]?=S 6):Sl.dX bits 0=S 6:=by unfold Sl.dX;rw[F qb,show((0:O).toNat)=0 from U,h];rfl
theorem lk{bits:Y O}(h:bits[0]?=S 6){s:Slot}(hs:s.1=0/\0<=s.2/\s.2<64):Sl.aQ bits s=true:=by unfold Sl.aQ;rw[hs.1,Gd h];exact qu ⟨hs.2.1,by show s.2<2^6;omega⟩
theorem wG{T:Tr.Tr}{s:Slot}:(Tr.bA T s).isSome=Z↔s∈T.map (·.1):=by unfold Tr.bA;rw[List.findIdx?_isSome,Na,L2];simp only[qB]
theorem pP{T:Tr.Tr}{s:Slot}(h:s∉T.map (·.1)):Tr.bA T s=none:=by
 cases e:Tr.bA T s with
 |none=>rfl
 |some i=>exact qj (wG.1 (by rw[e];rfl)) h
theorem rR{T:Tr.Tr}{s:Slot}(h:s∈T.map (·.1)):∃i,Tr.bA T s=S i:=MS.1 (wG.2 h)
theorem ba.eC(h:ba abz k):k.T.length<=64:=by
 have h1:=Sl.tE 64 ((k.T.map (·.1)).map (·.2)) (by
  refine N3.2 (List.Pairwise.imp_of_mem (λ{x y}hx hy hne e=>hne ?_) h.tok.nd);obtain⟨c,hc⟩:=MS.1 ((h.mem x).1 hx);obtain⟨d,hd⟩:=MS.1 ((h.mem y).1 hy);exact Prod.ext (by rw[(h.held x c hc).1.1,(h.held y d hd).1.1]) e) λx hx=>by
  obtain⟨s,hs,rfl⟩:=L2.1 hx;obtain⟨c,hc⟩:=MS.1 ((h.mem s).1 hs);exact(h.held s c hc).1.2
 simpa using h1
theorem ba.bZ(h:ba abz k){t:Th.Mt}(hi:Th.bF (-1) t)(hl:k.t.br.length<=t.br.length):ba abz (k.bZ t):=
 { h with
  inv:=hi
  held:=λs c hc=>⟨(h.held s c hc).1,Gr.obj (k:=k) (k':=k.bZ t) ⟨Lv _,Lv _,hl,Lv _,Lv _,Lv _,Lv _,Lv _⟩ (h.held s c hc).2⟩}
theorem ba.put(h:ba abz k){t:Slot}{c:cN}(ht:t.1=0/\0<=t.2/\t.2<64)(hn:k.H t=N)(hc:Sl.bY c=0)(h0:c.kind≠0):Sl.iN k.bits k.H t c=(0,Sl.cC k.H t (S c)):=by unfold Sl.iN;rw[lk h.b0 ht,F qb,F (by rw[hc];decide),F h0,hn,F qb]
theorem ba.laid(h:ba abz k){f t:Slot}{c:cN}(hf:(k.H f).isSome=Z)(ht:t.1=0/\0<=t.2/\t.2<64)(hn:k.H t=N)(hc:Sl.bY c=0)(h0:c.kind≠0)(hr:Sl.fg c)(ho:k.fe c):
  ba abz (k.laid f t c)/\(k.laid f t c).H=Sl.cC k.H t (S c):=by
 have hput:=h.put ht hn hc h0;obtain⟨i,hi⟩:=rR ((h.mem f).2 hf);have hno:Tr.bA k.T t=none:=pP λe=>by rw[h.mem,hn]at e;cases e
 have hT:Tr.xc k.T f t=(0,k.T.take (i+1)++ [(t,Tr.ud k.T i+1)]++k.T.drop (i+1)):=by unfold Tr.xc;rw[hi];dsimp only;rw[hno]
 have hH:(k.laid f t c).H=Sl.cC k.H t (S c):=by unfold ag.laid;rw[hput]
 have hT2:(k.laid f t c).T=k.T.take (i+1)++ [(t,Tr.ud k.T i+1)]++k.T.drop (i+1):=by unfold ag.laid;rw[hT]
 have hfew:=h.eC;refine⟨{ h with
  rk:=by rw[hH];exact h.rk.put (lk h.b0 ht) hc h0 hr
  held:=λs x hx=>?_
  tok:=by rw[hT2];exact h.tok.add om hi hno
  mem:=λs=>?_},hH⟩
 .rw[hH]at hx
  unfold Sl.cC at hx;by_cases e:s=t
  .rw[qd e]at hx;cases hx;rw[e];exact⟨ht,ho⟩
  .rw[F e]at hx;exact h.held s x hx
 .rw[hH,hT2]
  unfold Sl.cC;have hm:s∈(k.T.take (i+1)++ [(t,Tr.ud k.T i+1)]++k.T.drop (i+1)).map (·.1)↔(s=t\/s∈k.T.map (·.1)):=by
   conv=>rhs;rw[<-Ma (i+1) k.T]
   simp only[LU,Mm,L1,M9,Mk];constructor
   .rintro ((h|h)|h)
    .exact .inr (.inl h)
    .exact .inl h
    .exact .inr (.inr h)
   .rintro (h|h|h)
    .exact .inl (.inr h)
    .exact .inl (.inl h)
    .exact .inr h
  rw[hm];by_cases e:s=t
  .simp[e]
  .rw[F e,<-h.mem];simp[e]
theorem ba.same(h:ba abz k){k':ag}(hb:k'.bits=k.bits)(hH:k'.H=k.H)(hT:k'.T=k.T)(hg:Gr k k')(hi:Th.bF (-1) k'.t)(hl:k'.ln.length=8)(hlb:∀x∈k'.ln,x.is≠0->0<=x.note/\x.note<(k'.notes.length:O))
  (hu:∀x∈k'.u,wZ x) (hs:∀m∈k'.ae,Tb.eZ m) {M:X} (nu:k'.u.length<=M) (ne:k'.ends.length<=M) (nn:k'.notes.length<=M) (ns:k'.ae.length<=M) (nf:k'.aS<=M) (nt:k'.cB<=M) (el:∀p∈k'.ends,p.l.length<=M) (nl:∀p∈k'.notes,p.l.length<=M):ba M k':=
 ⟨by rw[hb];exact h.b0,by rw[hb,hH];exact h.rk,λs c hc=>by rw[hH]at hc;exact⟨(h.held s c hc).1,hg.obj (h.held s c hc).2⟩,by rw[hT];exact h.tok,λs=>by rw[hT,hH];exact h.mem s,hi,hl,hlb,hu,hs,nu,ne,nn,ns,nf,nt,el,nl⟩
theorem ba.cap(h:ba abz k){n:O}(hn:(k.aZ n).kind≠0):(0<=n/\n<64)/\k.H (0,n)=S (k.aZ n)/\k.fe (k.aZ n)/\Sl.fg (k.aZ n)/\Sl.bY (k.aZ n)=0:=by
 unfold ag.aZ at*
 split at hn
 .rename_i e
  rw[qd e];cases hc:k.H (0,n)with
  |none=>rw[hc]at hn;exact qj U hn
  |some c=>exact⟨e,U,(h.held _ c hc).2,(h.rk.held _ c hc).2.2.2,(h.rk.held _ c hc).2.1⟩
 .exact qj U hn
theorem gT{n kind:O}(h:k.dn n kind=Z):(k.aZ n).kind≠0/\(kind≠0->(k.aZ n).kind=kind):=by unfold ag.dn at h;simp only[LO,MC,qB]at h;exact⟨h.1,λe=>h.2.elim (λh=>qj h e) id⟩
theorem ba.vZ(h:ba abz k){w:O}{n:X}(hf:k.fc w n=0):0<=w/\w+n<=64/\∀i:X,i<n->k.H (0,w+(i:O))=none:=by
 unfold ag.fc at hf;split at hf
 .cases hf
 rename_i h1;split at hf
 .cases hf
 rename_i h2;refine⟨om,om,λi hi=>?_⟩;cases hc:k.H (0,w+(i:O))with
 |none=>rfl
 |some c=>
  exfalso;apply h2;rw[Na];refine⟨i,Nf.2 hi,qu ?_⟩;unfold ag.aZ;rw[qd om,hc];exact(h.rk.held _ c hc).2.2.1
theorem dR{w:J}{b o n i:X}{ss:Y Sc}{f:tU ss Prop}(h:ax w (Addr.mk b (o+n) N) i ss f):ax w ((Addr.mk b o N).add n) i ss f:=by rw[aI];exact h
theorem wY{w:J}{b o n i:X}{vs:Y Q}{k:Pw}(h:aB w (Addr.mk b (o+n) N) i vs k):aB w ((Addr.mk b o N).add n) i vs k:=by rw[aI];exact h
theorem bj{w:J}{b o n m:X}{v:qh Q}(h:w.cell? ((Addr.mk b (o+n) N).add m)=v):w.cell? (((Addr.mk b o N).add n).add m)=v:=by rw[aI b o n];exact h
theorem gR{w:J}{b o n m:X}{v:Q}{k:Pw}(h:St w ((Addr.mk b (o+n) N).add m) v k):St w (((Addr.mk b o N).add n).add m) v k:=by rw[aI b o n];exact h
structure Kx where
 n:X
 tr:X
 t:X
 ln:X
 su:Sl
 se:Sl
 sn:Sl
 ss:Sl
 pe:Y X
 pn:Y X
 ps:Y X
abbrev bR(x:Kx)(fr tb nb nt:X):Y Q:=[.q x.n,.q x.tr,.q x.t,.q x.ln,x.su.v,x.se.v,x.sn.v,x.ss.v,
 .z (fr:O),.z (tb:O),.z (nb:O),.z (nt:O)]
def ai(b:X)(k:ag):aH:=sB λx:Kx=>cj [aa b (bR x k.aS k.cB k.bits.length k.t.br.length),Sl.av x.n k.bits k.H,Tr.bD x.tr k.T,Th.bu x.t k.t,bG x.ln k.ln,af df x.su k.u,af bS x.se x.pe,au ck x.pe k.ends,af bS x.sn x.pn,au bL x.pn k.notes,af bS x.ss x.ps,au Tb.bC x.ps k.ae]
def aP:dT lM:=⟨4,λo=>[.z o.space,.z o.FF,.z o.frame,.z o.ar],λ_=>rfl,λx v h=>by simp only[LD,MB,qI]at h;rcases h with rfl|rfl|rfl|rfl<;>rfl,qb⟩
abbrev ah(bk:X)(d:oX)(e w wk:O)(fs:Sl):Y Q:=[.q bk,.z d.core,.z d.cur,.z d.call.ask,.z d.call.at_,.z d.call.ao,.z d.call.a,.z d.call.b,.z d.call.c,
 .z d.s.1,.z d.s.2,.z d.c.kind,.z d.c.obj,.z d.c.ar,.y d.c.ay,.y d.c.guard,.z d.c.bits,.z e,.y w,.z wk,fs.v]
end
section
variable{B:X}{w0 w:J}{R L:Y aH}{bd bk:X}{s:Sl}{b:X}{k:ag}{d:oX}{ec wv wk:O}{fs:Sl}{abz:X}
theorem Ow.ui(h:Ow B w0 w (ai b k::R)):∃x:Kx,Ow B w0 w (aa b (bR x k.aS k.cB k.bits.length k.t.br.length)::Sl.av x.n k.bits k.H::Tr.bD x.tr k.T::Th.bu x.t k.t::bG x.ln k.ln::af df x.su k.u::af bS x.se x.pe::au ck x.pe k.ends::af bS x.sn x.pn::au bL x.pn k.notes::af bS x.ss x.ps::au Tb.bC x.ps k.ae::R):=by obtain⟨x,h⟩:=h.ex;exact⟨x,h.star⟩
theorem Ow.bT(x:Kx){bits:Y O}{H:Sl.Hs}{T:Tr.Tr}{t:Th.Mt}{ln:wU}{u:Y nP}{ends:Y eB}{notes:Y nO}{ae:Y Tb.dV}{fr tb:X}
  (h:Ow B w0 w (aa b (bR x fr tb bits.length t.br.length)::Sl.av x.n bits H::Tr.bD x.tr T::Th.bu x.t t::bG x.ln ln::af df x.su u::af bS x.se x.pe::au ck x.pe ends::af bS x.sn x.pn::au bL x.pn notes::af bS x.ss x.ps::au Tb.bC x.ps ae::R)):
  Ow B w0 w (ai b ⟨bits,H,T,t,ln,u,ends,notes,ae,fr,tb⟩::R):=Ow.fk x (Ow.bW h)
def lI:cN:=⟨2,0,7,0,0,0⟩
theorem wK{bits:Y O}{H:Sl.Hs}{n:X}(hb:bits[0]?=S 6)(hn:n<64):Sl.pY bits H lI n 6=((0,(n:O)),0):=by
 have hnode:Sl.nW bits lI=S 6:=by unfold Sl.nW;rw[F qb,F qb];exact Gd hb
 have hstep:Sl.dP bits n lI 6=(0,(0,(n:O)),0):=by
  unfold Sl.dP;rw[hnode];dsimp only;rw[F (show ¬6<lI.bits.toNat by decide),F (show ¬((n / 2^(6-lI.bits.toNat)%2^lI.bits.toNat:X):O)≠lI.guard from λhh=>hh (by show((n / 64%1:X):O)=0;omega)),F (show ¬(6-lI.bits.toNat<(show O from 6).toNat) by decide)];have e:n / 2^(6-lI.bits.toNat-(show O from 6).toNat)%2^(show O from 6).toNat=n:=by show n / 1%64=n;omega
  rw[e];rfl
 unfold Sl.pY;rw[F qb];show Sl.jU bits H n 6 lI 6=_;unfold Sl.jU;rw[hstep];rfl
theorem sj{n:O}{K:O->O->W->Pw}(hb:k.bits[0]?=S 6)(h:Ow B w0 w (ai b k::R))
  (hK:∀w'(s:Slot)is,(is=Z->s=(0,n)/\0<=n/\n<64)->(is=G->¬(0<=n/\n<64))->Ow B w0 w' (ai b k::R)->K s.1 s.2 is w'):QM b.o n K w:=by
 apply Zp;refine h.a λc w1 h=>?_;intro k4 hk4;have bad:¬(0<=n/\n<64)->k4 Z w1:=λe=>by
  apply hk4;refine bh U ?_;refine h.aA U U λw h=>?_;refine h.aR U ?_;exact hK w (0,0) G (λe=>by cases e) (λ_=>e) h.drop
 refine bo (λe=>bad om) (λe=>?_);by_cases e2:n>=64
 .rw[qu e2];exact bad om
 rw[qm e2];apply hk4;refine bc U ?_;obtain⟨n,rfl⟩:=LB (show 0<=n by omega);refine h.a λd w2 h=>?_;refine h.aA U U λw h=>?_;intro k12 hk12;have fin:∀(s:X)(w:J),Ow B w0 w (aa s [.z 0,.z (n:O)]::aa c [.z 0,.z 0]::ai b k::R)->k12 s.p 0 w:=λs w h=>by
  apply hk12;refine h.aR U ?_;refine h.aA U U λw h=>?_;refine h.aR U ?_;exact hK w (0,(n:O)) Z (λ_=>⟨U,om,om⟩) (λe=>by cases e) h.drop.drop
 obtain⟨x,h⟩:=h.kh.ui;refine h.dr λw h=>?_;refine⟨_,U,h.l1 U ?_⟩;rw[show qv.wrap (n:O)=(n:O)from by rw[Sl.wrap_u64,L7 om]];refine h.dx U ⟨?_,?_,trivial⟩
 .refine Sl.kD (root:=lI) (addr:=n) (depth:=6) ⟨qb,qb,qb,qb⟩ om (h.pick (A:=Sl.av x.n k.bits k.H)) λw h=>?_
  rw[wK hb om];refine⟨h.al λw' h=>⟨?_,trivial⟩,trivial⟩
  generalize w.heap.size=s at h|-;refine h.aA U U λw h=>?_;refine fin s w ((show Ow B w0 w (ai b k::aa s [.z 0,.z (n:O)]::aa c [.z 0,.z 0]::R) from Ow.bT x h.sub).sub)
 .refine h.al λw' h=>⟨?_,trivial⟩
  generalize w.heap.size=s at h|-;refine Sl.kD (root:=lI) (addr:=n) (depth:=6) ⟨qb,qb,qb,qb⟩ om (h.pick (A:=Sl.av x.n k.bits k.H)) λw h=>?_;rw[wK hb om];refine⟨h.aA U U λw h=>?_,trivial⟩;refine fin s w ((show Ow B w0 w (ai b k::aa s [.z 0,.z (n:O)]::aa c [.z 0,.z 0]::R) from Ow.bT x h.sub).sub)
theorem pB{x:Kx}{s:Slot}{K:O->O->O->O->O->O->O->Pw}{L:Y aH}(hk:Sl.rh k.bits k.H)(h:Ow B w0 w L)[abw:fh (Sl.av x.n k.bits k.H) L R]
  (hK:∀w' c e,c=(Sl.xq k.bits k.H s).1->Sl.fg c->Ow B w0 w' (Sl.av x.n k.bits k.H::R)->K c.kind c.obj c.ar c.ay c.guard c.bits e w'):Pk x.n.o s.1 s.2 K w:=
 Sl.zM h.pick 0 U λw' c e he hr h=>hK w' c e (qz Prod.fst he) hr h
theorem pA{abz:X}(hk:ba abz k){n:O}(hn:0<=n/\n<64):(Sl.xq k.bits k.H (0,n)).1=k.aZ n:=by unfold Sl.xq;rw[F (by rw[lk hk.b0 ⟨rfl,hn⟩];decide)];unfold ag.aZ;rw[qd hn]
theorem nq{abz:X}{n kind:O}{K:O->O->O->O->O->O->O->O->W->Pw}(hk:ba abz k)(h:Ow B w0 w (ai b k::R))
  (h1:k.dn n kind=G->∀(s:Slot)(c:cN)w',Ow B w0 w' (ai b k::R)->K s.1 s.2 c.kind c.obj c.ar c.ay c.guard c.bits G w')
  (h2:k.dn n kind=Z->∀w' c,c=k.aZ n->Ow B w0 w' (ai b k::R)->K 0 n c.kind c.obj c.ar c.ay c.guard c.bits Z w'):OE b.o n kind K w:=by
 apply Xu;refine h.a λc0 w1 h=>?_;refine h.a λc1 w2 h=>?_;refine sj hk.b0 h.kh λw s is ht hf h=>?_;refine h.a λc2 w' h=>?_;refine h.aA U U λw h=>?_;intro k12 hk12;have fin:∀(sb:X)(c:cN)(w:J),(is=Z->c=k.aZ n)->Ow B w0 w (aa sb c.cells::aa c2 [.z s.1,.z s.2]::ai b k::aa c1 [.z 0,.z 0,.z 0,.y 0,.y 0,.z 0]::aa c0 [.z 0,.z 0]::R)->k12 sb.p w:=λsb c w hc h=>by
  apply hk12;refine h.dr λw h=>?_;refine h.aR U ?_;cases is with
  |false=>
   have hB:k.dn n kind=false:=by unfold ag.dn ag.aZ;rw[F (hf U)];rfl
   refine bc U ?_;have hKK:∀w',Ow B w0 w' (ai b k::R)->K s.1 s.2 c.kind c.obj c.ar c.ay c.guard c.bits G w':=h1 hB s c
   (repeat' (first|exact trivial|(exact hKK _ h.sub)|(refine h.al λw h=>?_)|(refine h.dr λw h=>?_)|(refine h.aR U ?_)|(refine h.dx U ?_)|(refine h.l1 U ?_)|(refine h.l2 U ?_)|(refine h.hd U ?_)|(refine⟨h.aF U,?_⟩)|(refine⟨h.aE U,?_⟩)|(refine h.aA U U λw h=>?_)|(refine eE ?_)|(refine _root_.Go.Vc.a2 ?_)|(refine h.jH U U λw h=>?_)|(refine h.fK U U λw h=>?_)|(refine And.intro ?_ ?_)))
  |true=>
   obtain⟨rfl,hn⟩:=ht U;have hc:=hc U;refine bh U (h.l1 U ?_);refine oU (λe=>?_) (λe=>?_)
   .refine dE (λe2=>?_) (λe2=>?_)
    .have hB:k.dn n kind=true:=by unfold ag.dn;rw[<-hc];simp[e,e2]
     have hKK:∀w',Ow B w0 w' (ai b k::R)->K 0 n c.kind c.obj c.ar c.ay c.guard c.bits Z w':=λw' h=>h2 hB w' c hc h
     (repeat' (first|exact trivial|(exact hKK _ h.sub)|(refine h.al λw h=>?_)|(refine h.dr λw h=>?_)|(refine h.aR U ?_)|(refine h.dx U ?_)|(refine h.l1 U ?_)|(refine h.l2 U ?_)|(refine h.hd U ?_)|(refine⟨h.aF U,?_⟩)|(refine⟨h.aE U,?_⟩)|(refine h.aA U U λw h=>?_)|(refine eE ?_)|(refine _root_.Go.Vc.a2 ?_)|(refine h.jH U U λw h=>?_)|(refine h.fK U U λw h=>?_)|(refine And.intro ?_ ?_)))
    .have hKK:∀w',Ow B w0 w' (ai b k::R)->K 0 n c.kind c.obj c.ar c.ay c.guard c.bits (c.kind==kind) w':=λw' h=>by
      by_cases e3:c.kind=kind
      .rw[show(c.kind==kind)=Z from by simpa using e3]
       refine h2 ?_ w' c hc h;unfold ag.dn;rw[<-hc,<-e3];simp[e]
      .rw[show(c.kind==kind)=G from by simpa using e3]
       refine h1 ?_ (0,n) c w' h;unfold ag.dn;rw[<-hc];simp[e2,e3]
     (repeat' (first|exact trivial|(exact hKK _ h.sub)|(refine h.al λw h=>?_)|(refine h.dr λw h=>?_)|(refine h.aR U ?_)|(refine h.dx U ?_)|(refine h.l1 U ?_)|(refine h.l2 U ?_)|(refine h.hd U ?_)|(refine⟨h.aF U,?_⟩)|(refine⟨h.aE U,?_⟩)|(refine h.aA U U λw h=>?_)|(refine eE ?_)|(refine _root_.Go.Vc.a2 ?_)|(refine h.jH U U λw h=>?_)|(refine h.fK U U λw h=>?_)|(refine And.intro ?_ ?_)))
   .have hKK:∀w',Ow B w0 w' (ai b k::R)->K 0 n c.kind c.obj c.ar c.ay c.guard c.bits G w':=h1 (by unfold ag.dn;rw[<-hc];simp[e]) (0,n) c
    (repeat' (first|exact trivial|(exact hKK _ h.sub)|(refine h.al λw h=>?_)|(refine h.dr λw h=>?_)|(refine h.aR U ?_)|(refine h.dx U ?_)|(refine h.l1 U ?_)|(refine h.l2 U ?_)|(refine h.hd U ?_)|(refine⟨h.aF U,?_⟩)|(refine⟨h.aE U,?_⟩)|(refine h.aA U U λw h=>?_)|(refine eE ?_)|(refine _root_.Go.Vc.a2 ?_)|(refine h.jH U U λw h=>?_)|(refine h.fK U U λw h=>?_)|(refine And.intro ?_ ?_)))
 obtain⟨x,h⟩:=h.cq.ui;refine h.dr λw h=>?_;refine⟨_,U,h.l1 U ?_⟩;have hcap:∀c:cN,c=(Sl.xq k.bits k.H s).1->is=Z->c=k.aZ n:=λc hc e=>by obtain⟨rfl,hn⟩:=ht e;rw[hc,pA hk hn]
 refine h.aR U ⟨?_,?_,trivial⟩
 .refine pB (s:=s) hk.rk h λw c e hc hr h=>?_
  refine⟨h.al λw' h=>⟨?_,trivial⟩,trivial⟩
  generalize w.heap.size=sb at h|-;refine h.aA U U λw h=>?_;exact fin sb c w (hcap c hc) (Ow.sub (L:=ai b k::aa sb c.cells::aa c2 [.z s.1,.z s.2]::aa c1 [.z 0,.z 0,.z 0,.y 0,.y 0,.z 0]::aa c0 [.z 0,.z 0]::R) (Ow.bT x h.sub))
 .refine h.al λw' h=>⟨?_,trivial⟩
  generalize w.heap.size=sb at h|-;refine pB (s:=s) hk.rk h λw c e hc hr h=>?_;refine⟨h.aA U U λw h=>?_,trivial⟩;exact fin sb c w (hcap c hc) (Ow.sub (L:=ai b k::aa sb c.cells::aa c2 [.z s.1,.z s.2]::aa c1 [.z 0,.z 0,.z 0,.y 0,.y 0,.z 0]::aa c0 [.z 0,.z 0]::R) (Ow.bT x h.sub))
abbrev aC:dT Slot:=Sl.aC
theorem jW{w:J}{A:qg}{x:Slot}{f:O->O->Prop}(g:∀c v,(aC.enc x)[c]?=S v->w.cell? (A.add c)=S v)(hf:f x.1 x.2):ax w A 0 [.o,.o] f:=⟨_,g 0 _ U,_,g 1 _ U,hf⟩
theorem Ii{w:J}{A:qg}{x:Slot × cN}{f:O->O->O->O->O->O->O->O->Prop}(g:∀c v,(Sl.dW.enc x)[c]?=S v->w.cell? (A.add c)=S v)(hf:f x.1.1 x.1.2 x.2.kind x.2.obj x.2.ar x.2.ay x.2.guard x.2.bits):
  ax w A 0 [.o,.o,.o,.o,.o,.u,.u,.o] f:=⟨_,g 0 _ U,_,g 1 _ U,_,g 2 _ U,_,g 3 _ U,_,g 4 _ U,_,g 5 _ U,_,g 6 _ U,_,g 7 _ U,hf⟩
theorem tN{p:Slot->W}{f:Q}{xs:Y Slot}{K:O->Pw}[abw:cu s L Slot aC xs](h:Ow B w0 w L)(hbig:xs.length<=1000000000)
  (hf:∀(y:Slot)(w:J)(aby:W->Pw),y∈xs->Ow B w0 w L->(∀w',Ow B w0 w' L->aby (p y) w')->dU qe f [.agg ⟨aC.enc y⟩] w λen w'=>∃r:W,en= .returned (.bool r)/\aby r w')
  (hK:∀w',Ow B w0 w' L->K (fj p xs) w'):UE s f K w:=by
 apply VM;have hlen:=h.aL s;intro l hl;have loop:∀(m j:X)(w:J),j+m=xs.length->(∀i,i<j->∀y,xs[i]?=S y->p y=G)->Ow B w0 w L->l (j:O) w:=by
  intro m;induction m with
  |zero=>
   intro j w hj hno h;apply hl;refine aw om ?_;have hn:xs.findIdx? p=none:=by rw[Mu];intro y hy;obtain⟨i,hi⟩:=Mp.1 hy;exact hno i (by have:=(Lu.1 hi).1;omega) y hi
   have e:fj p xs= -1:=by unfold fj;rw[hn]
   rw[<-e];exact hK _ h
  |succ m ih=>
   intro j w hj hno h;have hx:xs[j]?=S xs[j]:=gE om;apply hl;refine az om ?_;refine h.cz (s:=s) U hx λa ha h0 hc=>?_;refine jW hc ?_;refine hf xs[j] w _ (Mq _) h λw h=>?_;cases hp:p xs[j]with
   |true=>
    refine bh U ?_;have hn:xs.findIdx? p=S j:=by rw[L9];refine⟨om,hp,λi hi=>?_⟩;have:=hno i hi xs[i] (gE om);simp[this]
    have e:fj p xs=(j:O):=by unfold fj;rw[hn]
    rw[<-e];exact hK _ h
   |false=>
    refine bc U ?_;rw[wr om om];refine ih (j+1) w om (λi hi z hz=>?_) h;by_cases e:i=j
    .subst e;rw[hx]at hz;cases hz;exact hp
    .exact hno i om z hz
 exact loop xs.length 0 w om (λi hi=>by omega) h
theorem oW{p:Slot->W}{f:Q}{xs:Y Slot}{K:W->Pw}[abw:cu s L Slot aC xs](h:Ow B w0 w L)(hbig:xs.length<=1000000000)
  (hf:∀(y:Slot)(w:J)(aby:W->Pw),y∈xs->Ow B w0 w L->(∀w',Ow B w0 w' L->aby (p y) w')->dU qe f [.agg ⟨aC.enc y⟩] w λen w'=>∃r:W,en= .returned (.bool r)/\aby r w')
  (hK:∀w',Ow B w0 w' L->K (xs.any p) w'):Uk s f K w:=by
 apply VH;refine tN h hbig hf λw h=>?_;rw[mC];exact hK w h
theorem tL{p:Slot × cN->W}{f:Q}{xs:Y (Slot × cN)}{K:O->Pw}[abw:cu s L (Slot × cN) Sl.dW xs](h:Ow B w0 w L)(hbig:xs.length<=1000000000)
  (hf:∀(y:Slot × cN)(w:J)(aby:W->Pw),Ow B w0 w L->(∀w',Ow B w0 w' L->aby (p y) w')->dU qe f [.agg ⟨Sl.dW.enc y⟩] w λen w'=>∃r:W,en= .returned (.bool r)/\aby r w')
  (hK:∀w',Ow B w0 w' L->K (fj p xs) w'):UF s f K w:=by
 apply VP;have hlen:=h.aL s;intro l hl;have loop:∀(m j:X)(w:J),j+m=xs.length->(∀i,i<j->∀y,xs[i]?=S y->p y=G)->Ow B w0 w L->l (j:O) w:=by
  intro m;induction m with
  |zero=>
   intro j w hj hno h;apply hl;refine aw om ?_;have hn:xs.findIdx? p=none:=by rw[Mu];intro y hy;obtain⟨i,hi⟩:=Mp.1 hy;exact hno i (by have:=(Lu.1 hi).1;omega) y hi
   have e:fj p xs= -1:=by unfold fj;rw[hn]
   rw[<-e];exact hK _ h
  |succ m ih=>
   intro j w hj hno h;have hx:xs[j]?=S xs[j]:=gE om;apply hl;refine az om ?_;refine h.cz (s:=s) U hx λa ha h0 hc=>?_;refine Ii hc ?_;refine hf xs[j] w _ h λw h=>?_;cases hp:p xs[j]with
   |true=>
    refine bh U ?_;have hn:xs.findIdx? p=S j:=by rw[L9];refine⟨om,hp,λi hi=>?_⟩;have:=hno i hi xs[i] (gE om);simp[this]
    have e:fj p xs=(j:O):=by unfold fj;rw[hn]
    rw[<-e];exact hK _ h
   |false=>
    refine bc U ?_;rw[wr om om];refine ih (j+1) w om (λi hi z hz=>?_) h;by_cases e:i=j
    .subst e;rw[hx]at hz;cases hz;exact hp
    .exact hno i om z hz
 exact loop xs.length 0 w om (λi hi=>by omega) h
theorem oV{p:Slot × cN->W}{f:Q}{xs:Y (Slot × cN)}{K:W->Pw}[abw:cu s L (Slot × cN) Sl.dW xs](h:Ow B w0 w L)(hbig:xs.length<=1000000000)
  (hf:∀(y:Slot × cN)(w:J)(aby:W->Pw),Ow B w0 w L->(∀w',Ow B w0 w' L->aby (p y) w')->dU qe f [.agg ⟨Sl.dW.enc y⟩] w λen w'=>∃r:W,en= .returned (.bool r)/\aby r w')
  (hK:∀w',Ow B w0 w' L->K (xs.any p) w'):Up s f K w:=by
 apply VI;refine tL h hbig hf λw h=>?_;rw[mC];exact hK w h
theorem jc{ys:Y Slot}{y:Slot}{c:X}{k:Sl->Pw}[abw:cu s L Slot aC ys][abq:fh (af aC s ys) L R](h:Ow B w0 w (aa c [.z y.1,.z y.2]::L))(hbig:ys.length<=1000000000)
  (hk:∀s' w',s'.len=ys.length+1->Ow B w0 w' (af aC s' (ys++ [y])::R)->k s' w'):
  ∃s' w',aM qe [124,124] 124 s.v (.slice (S c.p) 1 1) w s' w'/\k s' w':=
 Ow.eL (E:=aC) (y:=y) aaz (show qe.info? 155=S qW from by kernel_rfl) (zv:= .agg #[.z 0,.z 0]) qa qa U qb h (by
  have e:qW.bytes=16:=qa
  rw[e];omega) hk
theorem yD{ys:Y nP}{y:nP}{c:X}{k:Sl->Pw}[abw:cu s L nP df ys][abq:fh (af df s ys) L R](h:Ow B w0 w (aa c [.y (y.base:O),.z (y.bits:O),.y (y.used:O)]::L))(hbig:ys.length<=1000000000)
  (hk:∀s' w',s'.len=ys.length+1->Ow B w0 w' (af df s' (ys++ [y])::R)->k s' w'):
  ∃s' w',aM qe [52,52] 52 s.v (.slice (S c.p) 1 1) w s' w'/\k s' w':=
 Ow.eL (E:=df) (y:=y) underlying52 (show qe.info? 98=S aaN from by kernel_rfl) (zv:= .agg #[.y 0,.z 0,.y 0]) qa qa U qb h (by
  have e:aaN.bytes=24:=qa
  rw[e];omega) hk
theorem yz{ys:Y lM}{y:lM}{c:X}{k:Sl->Pw}[abw:cu s L lM aP ys][abq:fh (af aP s ys) L R](h:Ow B w0 w (aa c [.z y.space,.z y.FF,.z y.frame,.z y.ar]::L))(hbig:ys.length<=1000000000)
  (hk:∀s' w',s'.len=ys.length+1->Ow B w0 w' (af aP s' (ys++ [y])::R)->k s' w'):
  ∃s' w',aM qe [40,40] 40 s.v (.slice (S c.p) 1 1) w s' w'/\k s' w':=
 Ow.eL (E:=aP) (y:=y) underlying40 (show qe.info? 289=S abh from by kernel_rfl) (zv:= .agg #[.z 0,.z 0,.z 0,.z 0]) qa qa U qb h (by
  have e:abh.bytes=32:=qa
  rw[e];omega) hk
theorem Ex{ys:Y X}{y:X}{c:X}{k:Sl->Pw}[abw:cu s L X bS ys][abq:fh (af bS s ys) L R](h:Ow B w0 w (aa c [.q y]::L))(hbig:ys.length<=1000000000)
  (hk:∀s' w',s'.len=ys.length+1->Ow B w0 w' (af bS s' (ys++ [y])::R)->k s' w'):
  ∃s' w',aM qe [104,104] 104 s.v (.slice (S c.p) 1 1) w s' w'/\k s' w':=
 Ow.eL (E:=bS) (y:=y) abi (show qe.info? 173=S aaT from by kernel_rfl) (zv:= .pointer N) qa qa U qb h (by
  have e:aaT.bytes=8:=qa
  rw[e];omega) hk
theorem CR{ys:Y X}{y:X}{c:X}{k:Sl->Pw}[abw:cu s L X bS ys][abq:fh (af bS s ys) L R](h:Ow B w0 w (aa c [.q y]::L))(hbig:ys.length<=1000000000)
  (hk:∀s' w',s'.len=ys.length+1->Ow B w0 w' (af bS s' (ys++ [y])::R)->k s' w'):
  ∃s' w',aM qe [105,105] 105 s.v (.slice (S c.p) 1 1) w s' w'/\k s' w':=
 Ow.eL (E:=bS) (y:=y) abj (show qe.info? 177=S aaU from by kernel_rfl) (zv:= .pointer N) qa qa U qb h (by
  have e:aaU.bytes=8:=qa
  rw[e];omega) hk
theorem AD{ys:Y X}{y:X}{c:X}{k:Sl->Pw}[abw:cu s L X bS ys][abq:fh (af bS s ys) L R](h:Ow B w0 w (aa c [.q y]::L))(hbig:ys.length<=1000000000)
  (hk:∀s' w',s'.len=ys.length+1->Ow B w0 w' (af bS s' (ys++ [y])::R)->k s' w'):
  ∃s' w',aM qe [101,101] 101 s.v (.slice (S c.p) 1 1) w s' w'/\k s' w':=
 Ow.eL (E:=bS) (y:=y) abk (show qe.info? 99=S aaV from by kernel_rfl) (zv:= .pointer N) qa qa U qb h (by
  have e:aaV.bytes=8:=qa
  rw[e];omega) hk
theorem rZ{a c:cN}{K:W->Pw}(h:Ow B w0 w R)(hK:∀w',Ow B w0 w' R->K (ag.lJ a c) w'):Ur a.kind a.obj a.ar a.ay a.guard a.bits c.kind c.obj c.ar c.ay c.guard c.bits K w:=by
 apply WE;refine h.a λc0 w1 h=>?_;refine h.a λc1 w2 h=>?_;unfold ag.lJ at hK;refine h.l1 U ?_;refine oU (λe=>?_) (λe=>?_)
 .refine ⟨_,h.aF U,h.l1 U ?_⟩
  refine dE (λe2=>?_) (λe2=>?_)
  .refine ⟨_,h.aE U,h.l2 U ?_⟩
   have:=hK w2 h.drop.drop;rw[qu e,qu e2,M6,M6]at this;exact this
  .have:=hK w2 h.drop.drop
   rw[qm e2,M0,Bool.and_false]at this;exact this
 .have:=hK w2 h.drop.drop
  rw[qm (by simpa using e),M0]at this;exact this
theorem wz{c:cN}{r g:O}{K:O->O->O->O->O->O->O->Pw}(hc:Sl.fg c)(h:Ow B w0 w R)
  (hK:∀w' x,x=(ag.fI c r g).1->Ow B w0 w' R->K x.kind x.obj x.ar x.ay x.guard x.bits (ag.fI c r g).2 w'):RA c.kind c.obj c.ar c.ay c.guard c.bits r g K w:=by
 apply Wz;refine h.a λc0 w1 h=>?_;refine h.a λc1 w2 h=>?_;refine h.dx U ?_;refine Sl.iI h hc λw h=>?_;unfold ag.fI at hK;have bad:∀(q:O)(w:J),(∀w',Ow B w0 w' R->K 0 0 0 0 0 0 q w')->Ow B w0 w (aa c1 [.z 0,.z 0,.z 0,.y 0,.y 0,.z 0]::aa c0 c.cells::R)->
   aB w c1.p 0 [.z (0:O),.z (0:O),.z (0:O),.y (0:O),.y (0:O),.z (0:O)] λw28=>
    ax w28 c1.p 0 [.o,.o,.o,.u,.u,.o] λ(r29:O)(r30:O)(r31:O)(r32:O)(r33:O)(r34:O)=>K r29 r30 r31 r32 r33 r34 q w28:=λq w hK h=>by
  refine h.aA U U λw h=>?_;refine h.dx U ?_;exact hK w h.drop.drop
 by_cases h1:Sl.bY c≠0
 .rw[qd h1]at hK
  refine iv h1 (bad _ w (λw' h=>hK w' _ U h) h)
 rw[F h1]at hK;refine fa om ?_;refine Sl.ky ?_;by_cases h2:¬(0<=r/\r<=7)
 .rw[qd h2]at hK
  rw[show(!(V (0<=r)&&V (r<=7)))=Z from by simp;omega];exact bh U (bad _ w (λw' h=>hK w' _ U h) h)
 rw[F h2]at hK;rw[show(!(V (0<=r)&&V (r<=7)))=G from by simp;omega];refine bc U (h.l1 U ?_);intro k36 hk36;have no:(c.kind=0\/(g≠0/\(Sl.cW c.kind=G\/c.ay≠0)))->k36 Z w:=λe=>by rw[qd e]at hK;apply hk36;exact bh U (bad _ w (λw' h=>hK w' _ U h) h)
 have yes:¬(c.kind=0\/(g≠0/\(Sl.cW c.kind=G\/c.ay≠0)))->k36 G w:=λe=>by
  rw[F e]at hK;apply hk36;refine bc U (h.l1 U ?_);refine Sl.jO ?_;intro k49 hk49;have fin:∀(r':O)(w:J),r'=(if Sl.cP c.kind then di .i64 c.ar r else c.ar)->Ow B w0 w (aa c1 [.z 0,.z 0,.z 0,.y 0,.y 0,.z 0]::aa c0 [.z c.kind,.z c.obj,.z r',.y c.ay,.y c.guard,.z c.bits]::R)->k49 w:=λr' w hr h=>by
   apply hk49;refine oU (λe=>?_) (λe=>?_)
   .refine h.fK U U λw h=>?_
    refine h.dx U ?_;refine h.aA U U λw h=>?_;refine h.dx U ?_;have:=hK w _ U h.drop.drop;rw[qd e,<-hr]at this;exact this
   .refine h.dx U ?_
    refine h.aA U U λw h=>?_;refine h.dx U ?_;have:=hK w _ U h.drop.drop;rw[F (λhh=>hh e:¬g≠0),<-hr]at this;exact this
  cases hl:Sl.cP c.kind with
  |true=>
   refine bh U (h.l2 U ?_);refine h.fK U U λw h=>?_;exact fin _ w (by rw[hl];rfl) h
  |false=>
   refine bc U ?_;exact fin _ w (by rw[hl];rfl) h
 refine dE (λe=>?_) (λe=>?_)
 .rw[show(c.kind==0)=Z from by simpa using e];exact no (.inl e)
 refine oU (λe2=>?_) (λe2=>?_)
 .refine h.l1 U ?_
  refine Sl.kv ?_;cases hb:Sl.cW c.kind with
  |false=>exact bh U (no (.inr ⟨e2,.inl hb⟩))
  |true=>
   refine bc U (h.l2 U ?_);by_cases e3:c.ay=0
   .rw[show(c.ay !=0)=G from by simpa using e3]
    exact yes (λhh=>hh.elim e λhh=>hh.2.elim (λh=>by rw[hb]at h;cases h) λh=>h e3)
   .rw[show(c.ay !=0)=Z from by simpa using e3]
    exact no (.inr ⟨e2,.inr e3⟩)
 .exact yes (λhh=>hh.elim e λhh=>hh.1 e2)
theorem Ea{a:O}{i:X}(h0: -9223372036854775808<=a)(h1:a<9223372036854775808)(hi:i<=1000):(qf.wrap (a+(i:O))=a+(i:O)\/(qf.wrap (a+(i:O))<0/\64<=a+(i:O))):=by
 by_cases e:a+(i:O)<9223372036854775808
 .exact .inl (wr om om)
 .refine .inr ⟨?_,om⟩
  have e1:(2:O)^64=18446744073709551616:=qb
  have e2:(2:O)^63=9223372036854775808:=qb
  have:qf.wrap (a+(i:O))=a+(i:O)-18446744073709551616:=by have hm:(a+(i:O))%18446744073709551616=a+(i:O):=Int.emod_eq_of_lt om om;simp only[IntKind.wrap,IntKind.bits,IntKind.signed,e1,M6];rw[hm];simp;omega
  omega
theorem AO{n:O}{bx:X}{K:W->Pw}(hk:ba abz k)(hn:0<=n/\n<64)(h:Ow B w0 w (aa bx [.q bd]::aa bd (ah bk d ec wv wk fs)::ai bk k::R))
  (hK:∀w',Ow B w0 w' (aa bx [.q bd]::aa bd (ah bk d ec wv wk fs)::ai bk k::R)->K (V ((k.aZ n).kind≠0)) w'):Uj 0 n bx.p K w:=by
 apply Zz;refine h.a λc0 w1 h=>?_;intro k5 hk5;have fin:∀(s:X)(c:cN)(w:J),c=k.aZ n->Ow B w0 w (aa s c.cells::aa bx [.q bd]::aa bd (ah bk d ec wv wk fs)::ai bk k::R)->k5 s.p w:=λs c w hc h=>by
  apply hk5;refine h.l1 U ?_;have:=hK w h.drop;rw[<-hc,show V (c.kind≠0)=(c.kind !=0)from by
   by_cases e:c.kind=0
   .simp[e]
   .simp[e]]at this
  exact this
 obtain⟨x,h⟩:=(h.pick (A:=ai bk k)).ui;refine h.dr λw h=>?_;refine⟨_,h.aF U,_,U,_,h.aF U,_,U,h.l1 U (h.aR U ⟨?_,?_,trivial⟩)⟩
 .refine pB (s:=(0,n)) hk.rk h λw c e hc hr h=>?_
  rw[pA hk hn]at hc;refine⟨h.al λw' h=>⟨?_,trivial⟩,trivial⟩
  generalize w.heap.size=sb at h|-;refine h.aA U U λw h=>?_;refine fin sb c w hc ((show Ow B w0 w (ai bk k::aa sb c.cells::aa bx [.q bd]::aa bd (ah bk d ec wv wk fs)::R) from Ow.bT x h.sub).sub)
 .refine h.al λw' h=>⟨?_,trivial⟩
  generalize w.heap.size=sb at h|-;refine pB (s:=(0,n)) hk.rk h λw c e hc hr h=>?_;rw[pA hk hn]at hc;refine⟨h.aA U U λw h=>?_,trivial⟩;refine fin sb c w hc ((show Ow B w0 w (ai bk k::aa sb c.cells::aa bx [.q bd]::aa bd (ah bk d ec wv wk fs)::R) from Ow.bT x h.sub).sub)
def cG(a:O)(n:X):Y Slot:=(LA n).map λi:X=>(0,a+(i:O))
theorem free_spec{n:X}{K:Sl->O->Pw}(hk:ba abz k)(hw0: -9223372036854775808<=d.call.ao)(hw1:d.call.ao<9223372036854775808)(hn:1<=n/\n<=64)(h:Ow B w0 w (aa bd (ah bk d ec wv wk fs)::ai bk k::R))
  (h1:k.fc d.call.ao n≠0->∀s w',Ow B w0 w' (aa bd (ah bk d ec wv wk fs)::ai bk k::R)->K s (k.fc d.call.ao n) w')
  (h2:k.fc d.call.ao n=0->∀s w',Ow B w0 w' (af aC s (cG d.call.ao n)::aa bd (ah bk d ec wv wk fs)::ai bk k::R)->K s 0 w'):QN bd.o (n:O) K w:=by
 apply Zq;refine h.a λbx w1 h=>?_;intro l4 hl4;have bad:(d.call.ao<0\/64<d.call.ao+n)->∀w,Ow B w0 w (aa bd (ah bk d ec wv wk fs)::ai bk k::R)->K z0 181 w:=λhb w h=>by
  have e:k.fc d.call.ao n=181:=by unfold ag.fc;rw[qd hb]
  have:=h1 (by rw[e];decide) z0 w h;rw[e]at this;exact this
 have loop:∀(m j:X)(o:Sl)(w:J),j+m=n->(0<j->0<=d.call.ao/\d.call.ao+j<=64)->Ow B w0 w (af aC o (cG d.call.ao j)::aa bx [.q bd]::aa bd (ah bk d ec wv wk fs)::ai bk k::R)->l4 o (j:O) w:=by
  intro m;induction m with
  |zero=>
   intro j o w hj hin h;have hj:j=n:=om
   subst hj;obtain⟨i0,i1⟩:=hin om;apply hl4;refine aw om ?_;have hpv:∀y∈cG d.call.ao j,y.1=0/\0<=y.2/\y.2<64:=λy hy=>by obtain⟨i,hi,rfl⟩:=L2.1 hy;rw[Nf]at hi;exact⟨U,by show 0<=d.call.ao+(i:O);omega,by show d.call.ao+(i:O)<64;omega⟩
   refine oW (s:=o) (p:=λy=>V ((k.aZ y.2).kind≠0)) h (by unfold cG;simp;omega) (λy w aby hy h hQ=>?_) λw h=>?_
   .refine bq ?_
    obtain⟨y1,y2⟩:=y;obtain⟨e1,e2⟩:=hpv _ hy;dsimp only at e1 e2;subst e1;show Uj 0 y2 bx.p aby w;refine AO (bd:=bd) (bk:=bk) (k:=k) (d:=d) (ec:=ec) (wv:=wv) (wk:=wk) (fs:=fs) (R:=af aC o (cG d.call.ao j)::R) hk e2 h.sub λw h=>hQ w h.sub
   .have e:(cG d.call.ao j).any (λy=>V ((k.aZ y.2).kind≠0))=(LA j).any λi=>V ((k.aZ (d.call.ao+(i:O))).kind≠0):=by unfold cG;rw[List.any_map];rfl
    rw[e];cases hb:(LA j).any λi=>V ((k.aZ (d.call.ao+(i:O))).kind≠0)with
    |true=>
     have e:k.fc d.call.ao j=51:=by unfold ag.fc;rw[F om,qd hb]
     refine bh U ?_;have:=h1 (by rw[e];decide) z0 w h.drop.drop;rw[e]at this;exact this
    |false=>
     have e:k.fc d.call.ao j=0:=by unfold ag.fc;rw[F om,F (by rw[hb];decide)]
     refine bc U ?_;exact h2 e o w h.sub
  |succ m ih=>
   intro j o w hj hin h;apply hl4;refine az om ?_;intro k8 hk8;have hwr:=Ea (a:=d.call.ao) (i:=j) hw0 hw1 om;obtain⟨v,hwv⟩:∃v,qf.wrap (d.call.ao+(j:O))=v:=⟨_,U⟩
   rw[hwv]at hwr;have fin:∀(sb:X)(s:Slot)(is:W)(w:J),(is=Z->s=(0,v)/\0<=v/\v<64)->(is=G->¬(0<=v/\v<64))->Ow B w0 w (aa sb [.z s.1,.z s.2]::af aC o (cG d.call.ao j)::aa bx [.q bd]::aa bd (ah bk d ec wv wk fs)::ai bk k::R)->k8 sb.p is w:=λsb s is w ht hf h=>by
    apply hk8;intro k12 hk12;have kbad:∀w,(d.call.ao<0\/64<d.call.ao+n)->Ow B w0 w (aa bd (ah bk d ec wv wk fs)::ai bk k::R)->k12 Z w:=λw hb h=>by apply hk12;exact bh U (bad hb w h)
    cases is with
    |false=>
     have:=hf U;refine bh U (kbad w ?_ h.sub);omega
    |true=>
     obtain⟨rfl,v0,v1⟩:=ht U;refine bc U ?_;refine⟨_,h.aF U,_,U,_,bj (h.aE U),?_⟩;by_cases hneg:d.call.ao<0
     .rw[qu hneg]
      exact kbad w (.inl hneg) h.sub
     rw[qm hneg];apply hk12;refine bc U ?_;have hv:v=d.call.ao+(j:O):=om
     subst hv;refine h.aR U ?_;refine h.a λg w2 h=>?_;refine jc (s:=o) (y:=(0,d.call.ao+(j:O))) h (by unfold cG;simp;omega) λo' w ho' h=>?_;rw[wI j om];refine ih (j+1) o' w om (λ_=>by omega) ?_;have e:cG d.call.ao (j+1)=cG d.call.ao j++ [(0,d.call.ao+(j:O))]:=by unfold cG;rw[List.range_succ,LU];rfl
     rw[e];exact h.sub
   refine h.dr λw h=>?_;refine⟨_,h.aF U,_,U,_,h.aF U,_,h.aF U,_,U,_,bj (h.aE U),?_⟩;rw[hwv];refine⟨?_,?_,trivial⟩
   .refine sj hk.b0 (h.pick (A:=ai bk k)) λw s is ht hf h=>?_
    refine⟨h.al λw' h=>⟨?_,trivial⟩,trivial⟩
    generalize w.heap.size=sb at h|-;refine h.aA U U λw h=>?_;exact fin sb s is w ht hf h.sub
   .refine h.al λw' h=>⟨?_,trivial⟩
    generalize w.heap.size=sb at h|-;refine sj hk.b0 (h.pick (A:=ai bk k)) λw s is ht hf h=>?_;refine⟨h.aA U U λw h=>?_,trivial⟩;exact fin sb s is w ht hf h.sub
 have e0:cG d.call.ao 0= []:=rfl;exact loop n 0 z0 w1 om (λhh=>qj hh om) (by rw[e0];exact Ow.cZ h)
theorem nz{s:Slot}{c:cN}{K:Pw}(hc:Sl.fg c)(hl:k.T.length<1000000)(h:Ow B w0 w (aa bd (ah bk d ec wv wk fs)::ai bk k::R))
  (hK:∀w',Ow B w0 w' (aa bd (ah bk d ec wv wk fs)::ai bk (k.laid d.s s c)::R)->K w'):Rz bd.o s.1 s.2 c.kind c.obj c.ar c.ay c.guard c.bits K w:=by
 apply Zr;refine h.a λc0 w1 h=>?_;refine h.a λc1 w2 h=>?_;obtain⟨x,h⟩:=(h.pick (A:=ai bk k)).ui;refine h.dr λw h=>?_;refine⟨_,U,_,h.aF U,_,U,h.l1 U (h.aR U (h.dx U ⟨Sl.iE (s:=s) (c:=c) hc (h.pick (A:=Sl.av x.n k.bits k.H)) λw h=>?_,trivial⟩))⟩;refine h.dr λw h=>?_;refine⟨_,U,_,h.aF U,_,U,_,h.aE U,_,U,dR (h.aR U (h.aR U ⟨Tr.vK (p:=d.s) (s:=s) hl (h.pick (A:=Tr.bD x.tr k.T)) λw h=>?_,trivial⟩))⟩;refine hK w ((show Ow B w0 w (ai bk (k.laid d.s s c)::aa bd (ah bk d ec wv wk fs)::R) from Ow.bT x h.sub).sub)
def ag.zH(k:ag)(core a b:O):Prop:=(a=1->0<=b)/\(a=2->1<=b/\b<=8/\k.bits.length<64)/\(a=3->k.t.fC core=Z/\k.t.br.length<64)
theorem Dn{at_:X}{K:O->Pw}(hk:ba abz k)(hN:abz<=100000)(hr:k.zH d.core d.call.a d.call.b)(h:Ow B w0 w (aa bd (ah bk d ec wv wk fs)::ai bk k::R))
  (hK:∀w',Ow B w0 w' (aa bd (ah bk d ec wv wk fs)::ai bk (k.made d.core d.call.a d.call.b at_).2::R)->K (k.made d.core d.call.a d.call.b at_).1 w'):TP bd.o (at_:O) K w:=by
 apply Zs;have nu:=hk.nu;have ne:=hk.ne;have nn:=hk.nn;have ns:=hk.ns;have nf:=hk.nf;have nt:=hk.nt;obtain⟨r1,r2,r3⟩:=hr;unfold ag.made at hK;obtain⟨x,h⟩:=(h.pick (A:=ai bk k)).ui;refine⟨_,U,_,bj (h.aE U),dE (λe=>?_) (λe=>?_)⟩
 .rw[qd e]at hK
  obtain⟨bn,hbn⟩:=LB (r1 e);rw[hbn,Int.toNat_natCast]at hK;refine h.dr λw h=>?_;refine⟨_,U,_,U,_,h.aF U,_,U,x.su,h.aE U,_,U,_,bj (h.aE U),_,h.aF U,h.al λw2 h=>⟨?_,trivial⟩,trivial⟩
  generalize w.heap.size=g at h|-;have h:Ow B w0 w2 (aa g [.y (((show nP from ⟨at_,bn,0⟩).base:X):O),.z (((show nP from ⟨at_,bn,0⟩).bits:X):O),.y (((show nP from ⟨at_,bn,0⟩).used:X):O)]::_):=h.xg (by rw[hbn];rfl);refine yD (s:=x.su) (y:=⟨at_,bn,0⟩) h om λs' w hs' h=>?_;refine⟨h.aF U,_,U,h.fK U U λw h=>?_,trivial⟩;refine⟨_,U,_,h.aF U,_,U,s',h.aE U,?_⟩;rw[hs',show qf.wrap (((k.u.length+1:X):O)-1)=(k.u.length:O)from by rw[wr om om];omega]
  (try dsimp only[bR,ah,putAt,Mf,LM,LF]at h)
  refine hK w ((show Ow B w0 w (ai bk { k with u:=k.u++ [⟨at_,bn,0⟩]}::aa bd (ah bk d ec wv wk fs)::R) from Ow.bT { x with su:=s'} h.sub).sub)
 rw[F e]at hK;refine dE (λe2=>?_) (λe2=>?_)
 .rw[qd e2]at hK
  obtain⟨b1,b2,b3⟩:=r2 e2;have hm:Sl.eD k.bits d.call.b=((k.bits.length:O),0,k.bits++ [d.call.b]):=by unfold Sl.eD;rw[F om,F om]
  rw[hm]at hK;refine⟨_,U,_,h.aF U,_,U,_,h.aE U,_,U,?_⟩;rw[show qf.wrap ((k.bits.length:O)+1)=(((k.bits++ [d.call.b]).length:X):O)from by rw[wr om om];simp];refine h.fK U U λw h=>?_;refine h.dr λw h=>?_
  (try dsimp only[bR,ah,putAt,Mf,LM,LF]at h)
  refine⟨_,U,_,h.aF U,_,U,_,h.aF U,_,U,_,bj (h.aE U),Sl.gN (h.pick (A:=Sl.av x.n k.bits k.H)) λw h=>?_,trivial⟩;rw[hm]at h|-;dsimp only at h|-;refine hK w ((show Ow B w0 w (ai bk { k with bits:=k.bits++ [d.call.b]}::aa bd (ah bk d ec wv wk fs)::R) from Ow.bT x h.sub).sub)
 rw[F e2]at hK;refine dE (λe3=>?_) (λe3=>?_)
 .rw[qd e3]at hK
  obtain⟨b1,b2⟩:=r3 e3;have hm:k.t.cw 0 d.core=((k.t.br.length:O),0,k.t.make 0 d.core):=by unfold Th.Mt.cw;rw[F (λhh=>hh ⟨qb,qb,b1⟩),F om]
  rw[hm]at hK;have hml:(k.t.make 0 d.core).br.length=k.t.br.length+1:=by unfold Th.Mt.make;simp
  refine⟨_,U,_,h.aF U,_,U,_,h.aE U,_,U,?_⟩;rw[show qf.wrap ((k.t.br.length:O)+1)=(((k.t.make 0 d.core).br.length:X):O)from by rw[wr om om,hml];simp];refine h.fK U U λw h=>?_;refine h.dr λw h=>?_
  (try dsimp only[bR,ah,putAt,Mf,LM,LF]at h)
  refine⟨_,U,_,h.aF U,_,U,_,h.aE U,_,U,_,h.aE U,Th.Il hk.inv.ok (h.pick (A:=Th.bu x.t k.t)) λw h=>?_,trivial⟩;rw[hm]at h|-;dsimp only at h|-;refine hK w ((show Ow B w0 w (ai bk { k with t:=k.t.make 0 d.core}::aa bd (ah bk d ec wv wk fs)::R) from Ow.bT x h.sub).sub)
 rw[F e3]at hK;refine dE (λe4=>?_) (λe4=>?_)
 .rw[qd e4]at hK
  have hpl:=(h.pick (A:=au ck x.pe k.ends)).cA;refine h.dr λw h=>?_;refine⟨_,U,_,U,_,h.aF U,_,h.aF U,_,U,x.se,h.aE U,pv h λp w h=>?_,trivial⟩;refine⟨h.aE U,h.aF U,h.aF U,h.al λw2 h=>⟨?_,trivial⟩,trivial⟩
  generalize w.heap.size=g at h|-;refine Ex (s:=x.se) (y:=p) h om λs' w hs' h=>?_;refine⟨h.aF U,_,U,h.fK U U λw h=>?_,trivial⟩;refine⟨_,U,_,h.aF U,_,U,s',h.aE U,?_⟩;rw[hs',show qf.wrap (((x.pe.length+1:X):O)-1)=(k.ends.length:O)from by rw[wr om om];omega]
  (try dsimp only[bR,ah,putAt,Mf,LM,LF]at h)
  have h:=Ow.oI ((h.pick (A:=au ck x.pe k.ends)).pick (A:=ck p ⟨[],G⟩));refine hK w ((show Ow B w0 w (ai bk { k with ends:=k.ends++ [⟨[],G⟩]}::aa bd (ah bk d ec wv wk fs)::R) from Ow.bT { x with se:=s',pe:=x.pe++ [p]} h.sub).sub)
 rw[F e4]at hK;refine dE (λe5=>?_) (λe5=>?_)
 .rw[qd e5]at hK
  have hpl:=(h.pick (A:=au bL x.pn k.notes)).cA;refine h.dr λw h=>?_;refine⟨_,U,_,U,_,h.aF U,_,h.aF U,_,U,x.sn,h.aE U,s7 h λp w h=>?_,trivial⟩;refine⟨h.aE U,h.aF U,h.aF U,h.al λw2 h=>⟨?_,trivial⟩,trivial⟩
  generalize w.heap.size=g at h|-;refine CR (s:=x.sn) (y:=p) h om λs' w hs' h=>?_;refine⟨h.aF U,_,U,h.fK U U λw h=>?_,trivial⟩;refine⟨_,U,_,h.aF U,_,U,s',h.aE U,?_⟩;rw[hs',show qf.wrap (((x.pn.length+1:X):O)-1)=(k.notes.length:O)from by rw[wr om om];omega]
  (try dsimp only[bR,ah,putAt,Mf,LM,LF]at h)
  have h:=Ow.oI ((h.pick (A:=au bL x.pn k.notes)).pick (A:=bL p ⟨0,G,[]⟩));refine hK w ((show Ow B w0 w (ai bk { k with notes:=k.notes++ [⟨0,G,[]⟩]}::aa bd (ah bk d ec wv wk fs)::R) from Ow.bT { x with sn:=s',pn:=x.pn++ [p]} h.sub).sub)
 rw[F e5]at hK;refine dE (λe8=>?_) (λe8=>?_)
 .rw[qd e8]at hK
  have hpl:=(h.pick (A:=au Tb.bC x.ps k.ae)).cA;refine h.dr λw h=>?_;refine⟨_,U,_,U,_,h.aF U,_,h.aF U,_,U,x.ss,h.aE U,Tb.l0 h λp w h=>?_,trivial⟩;refine⟨h.aE U,h.aF U,h.aF U,h.al λw2 h=>⟨?_,trivial⟩,trivial⟩
  generalize w.heap.size=g at h|-;refine AD (s:=x.ss) (y:=p) h om λs' w hs' h=>?_;refine⟨h.aF U,_,U,h.fK U U λw h=>?_,trivial⟩;refine⟨_,U,_,h.aF U,_,U,s',h.aE U,?_⟩;rw[hs',show qf.wrap (((x.ps.length+1:X):O)-1)=(k.ae.length:O)from by rw[wr om om];omega]
  (try dsimp only[bR,ah,putAt,Mf,LM,LF]at h)
  have h:=Ow.oI ((h.pick (A:=au Tb.bC x.ps k.ae)).pick (A:=Tb.bC p Tb.iM));refine hK w ((show Ow B w0 w (ai bk { k with ae:=k.ae++ [Tb.iM]}::aa bd (ah bk d ec wv wk fs)::R) from Ow.bT { x with ss:=s',ps:=x.ps++ [p]} h.sub).sub)
 rw[F e8]at hK;refine dE (λe6=>?_) (λe6=>?_)
 .rw[qd e6]at hK
  refine⟨_,U,_,h.aF U,_,U,_,h.aE U,_,U,?_⟩;rw[show qf.wrap ((k.aS:O)+1)=((k.aS+1:X):O)from by rw[wr om om];omega];refine h.fK U U λw h=>?_;refine⟨_,U,_,h.aF U,_,U,h.l2 U ?_⟩;rw[show qf.wrap (((k.aS+1:X):O)-1)=(k.aS:O)from by rw[wr om om];omega]
  (try dsimp only[bR,ah,putAt,Mf,LM,LF]at h)
  refine hK w ((show Ow B w0 w (ai bk { k with aS:=k.aS+1}::aa bd (ah bk d ec wv wk fs)::R) from Ow.bT x h.sub).sub)
 .rw[F e6]at hK
  refine⟨_,U,_,h.aF U,_,U,_,h.aE U,_,U,?_⟩;rw[show qf.wrap ((k.cB:O)+1)=((k.cB+1:X):O)from by rw[wr om om];omega];refine h.fK U U λw h=>?_;refine⟨_,U,_,h.aF U,_,U,h.l2 U ?_⟩;rw[show qf.wrap (((k.cB+1:X):O)-1)=(k.cB:O)from by rw[wr om om];omega]
  (try dsimp only[bR,ah,putAt,Mf,LM,LF]at h)
  refine hK w ((show Ow B w0 w (ai bk { k with cB:=k.cB+1}::aa bd (ah bk d ec wv wk fs)::R) from Ow.bT x h.sub).sub)
theorem gS{a n:O}(ha:1<=a/\a<=9)(hn:0<=n/\n<2147483648):Sl.bY ⟨a,n,7,0,0,0⟩=0:=by
 have hg:Sl.dZ 0 0=true:=qb
 unfold Sl.bY;split
 .rfl
 .rw[F]
  have:a=1\/a=2\/a=3\/a=4\/a=5\/a=6\/a=7\/a=8\/a=9:=om
  unfold Sl.fU;rcases this with rfl|rfl|rfl|rfl|rfl|rfl|rfl|rfl|rfl<;>simp[hn.1,hn.2,hg,Sl.cP,Sl.cW]
theorem kr{a n:O}:Sl.fg ⟨a,n,7,0,0,0⟩:=⟨by show(0:O)<=0;decide,by show(0:O)<_;decide,by show(0:O)<=0;decide,by show(0:O)<_;decide⟩
end
section
variable{abz:X}{k:ag}
theorem fN{a n:O}(h0:0<=n)(h1:a=1->n<(k.u.length:O))(h2:a=2->n<(k.bits.length:O))(h3:a=3->n<(k.t.br.length:O))(h4:a=4->n<(k.ends.length:O))(h5:a=5->n<(k.notes.length:O))
  (h6:a=6->n<(k.aS:O)) (h7:a=7->n<(k.cB:O)) (h8:a=8->n<(k.ae.length:O)) (h9:a=9->n<8):k.fe ⟨a,n,7,0,0,0⟩:=⟨h0,h1,h2,h3,h4,h5,h6,h7,h8,h9⟩
theorem ba.Gp(h:ba abz k){l:Y nP}(hl:∀x∈l,wZ x)(hg:k.u.length<=l.length)(hm:l.length<=abz):ba abz { k with u:=l}:=
 h.same (k':={ k with u:=l}) U U U ⟨hg,Lv _,Lv _,Lv _,Lv _,Lv _,Lv _,Lv _⟩ h.inv h.ln h.Ee hl h.xZ hm h.ne h.nn h.ns h.nf h.nt h.el h.nl
theorem Fq(hi:Th.bF (-1) k.t){c:O}(h1:k.t.fC c=Z)(h2:k.t.br.length<64):k.t.cw 0 c=((k.t.br.length:O),0,k.t.make 0 c):=by unfold Th.Mt.cw;rw[F (λhh=>hh ⟨qb,qb,h1⟩),F om]
theorem ba.made(h:ba abz k)(hN:abz<=100000){core a b:O}{at_:X}(ha:1<=a/\a<=8)(hr:k.zH core a b)(hu:a=1->wZ ⟨at_,b.toNat,0⟩):
  ba (abz+1) (k.made core a b at_).2/\Gr k (k.made core a b at_).2/\(k.made core a b at_).2.H=k.H/\(k.made core a b at_).2.T=k.T/\(k.made core a b at_).2.fe ⟨a,(k.made core a b at_).1,7,0,0,0⟩/\
   (k.made core a b at_).2.bits.length<=k.bits.length+1/\(k.made core a b at_).2.t.br.length<=k.t.br.length+1/\(k.made core a b at_).2.t.qs.length=k.t.qs.length/\(k.made core a b at_).1<=200000:=by
 have hM:=h.mono (MY abz);have h1:=h.nu;have h2:=h.ne;have h3:=h.nn;have h4:=h.ns;have h5:=h.nf;have h6:=h.nt;have hbl:=h.rk.eC;have htl:=h.inv.ok.eC;obtain⟨r1,r2,r3⟩:=hr;have noty:∀{p:Prop},a≠a->p:=λhh=>qj U hh;unfold ag.made;by_cases e:a=1
 .rw[qd e]
  subst e;refine⟨hM.Gp (λx hx=>?_) qc (by simp;omega),⟨qc,Lv _,Lv _,Lv _,Lv _,Lv _,Lv _,Lv _⟩,rfl,rfl,?_,by dsimp only;omega,by dsimp only;omega,rfl,by dsimp only;omega⟩
  .rcases Mm.1 hx with hx|hx
   .exact h.u x hx
   .rw[Mk.1 hx];exact hu U
  .dsimp only
   refine fN ?_ ?_ ?_ ?_ ?_ ?_ ?_ ?_ ?_ ?_<;>(try simp)<;>(try omega)
 rw[F e];by_cases e2:a=2
 .rw[qd e2]
  subst e2;obtain⟨b1,b2,b3⟩:=r2 U;have hm:Sl.eD k.bits b=((k.bits.length:O),0,k.bits++ [b]):=by unfold Sl.eD;rw[F om,F om]
  rw[hm];have hG:Gr k { k with bits:=k.bits++ [b]}:=⟨Lv _,qc,Lv _,Lv _,Lv _,Lv _,Lv _,Lv _⟩
  refine⟨{ hM with b0:= ?_,rk:=h.rk.make b1 b2 b3,held:=λs c hc=>⟨(h.held s c hc).1,hG.obj (h.held s c hc).2⟩},hG,U,U,?_,qc,by dsimp only;omega,rfl,by dsimp only;omega⟩
  .dsimp only
   rw[LI (by have:=(Lu.1 h.b0).1;omega)];exact h.b0
  .dsimp only
   refine fN ?_ ?_ ?_ ?_ ?_ ?_ ?_ ?_ ?_ ?_<;>(try simp)<;>(try omega)
 rw[F e2];by_cases e3:a=3
 .rw[qd e3]
  subst e3;obtain⟨b1,b2⟩:=r3 U;rw[Fq h.inv b1 b2];have hml:(k.t.make 0 core).br.length=k.t.br.length+1:=by unfold Th.Mt.make;simp
  have hG:Gr k { k with t:=k.t.make 0 core}:=⟨Lv _,Lv _,by dsimp only;omega,Lv _,Lv _,Lv _,Lv _,Lv _⟩
  refine⟨{ hM with inv:=h.inv.make b2 b1 qb,held:=λs c hc=>⟨(h.held s c hc).1,hG.obj (h.held s c hc).2⟩},hG,U,U,?_,by dsimp only;omega,by dsimp only;omega,rfl,by dsimp only;omega⟩
  .dsimp only
   refine fN ?_ ?_ ?_ ?_ ?_ ?_ ?_ ?_ ?_ ?_<;>(try simp)<;>(try omega)
 rw[F e3];by_cases e4:a=4
 .rw[qd e4]
  subst e4;have hG:Gr k { k with ends:=k.ends++ [⟨[],G⟩]}:=⟨Lv _,Lv _,Lv _,qc,Lv _,Lv _,Lv _,Lv _⟩
  refine⟨{ hM with ne:=by simp;omega,el:=λp hp=>?_,held:=λs c hc=>⟨(h.held s c hc).1,hG.obj (h.held s c hc).2⟩},hG,U,U,?_,by dsimp only;omega,by dsimp only;omega,rfl,by dsimp only;omega⟩
  .rcases Mm.1 hp with hp|hp
   .exact hM.el p hp
   .rw[Mk.1 hp];simp
  .dsimp only
   refine fN ?_ ?_ ?_ ?_ ?_ ?_ ?_ ?_ ?_ ?_<;>(try simp)<;>(try omega)
 rw[F e4];by_cases e5:a=5
 .rw[qd e5]
  subst e5;have hG:Gr k { k with notes:=k.notes++ [⟨0,G,[]⟩]}:=⟨Lv _,Lv _,Lv _,Lv _,qc,Lv _,Lv _,Lv _⟩
  refine⟨{ hM with nn:=by simp;omega,nl:=λp hp=>?_,Ee:=λx hx hx2=>?_,held:=λs c hc=>⟨(h.held s c hc).1,hG.obj (h.held s c hc).2⟩},hG,U,U,?_,by dsimp only;omega,by dsimp only;omega,rfl,by dsimp only;omega⟩
  .have:=h.Ee x hx hx2
   dsimp only;rw[LC];exact⟨this.1,by have:=this.2;simp;omega⟩
  .rcases Mm.1 hp with hp|hp
   .exact hM.nl p hp
   .rw[Mk.1 hp];simp
  .dsimp only
   refine fN ?_ ?_ ?_ ?_ ?_ ?_ ?_ ?_ ?_ ?_<;>(try simp)<;>(try omega)
 rw[F e5];by_cases e8:a=8
 .rw[qd e8]
  subst e8;have hG:Gr k { k with ae:=k.ae++ [Tb.iM]}:=⟨Lv _,Lv _,Lv _,Lv _,Lv _,Lv _,Lv _,qc⟩
  refine⟨{ hM with ns:=by simp;omega,xZ:=λp hp=>?_,held:=λs c hc=>⟨(h.held s c hc).1,hG.obj (h.held s c hc).2⟩},hG,U,U,?_,by dsimp only;omega,by dsimp only;omega,rfl,by dsimp only;omega⟩
  .rcases Mm.1 hp with hp|hp
   .exact hM.xZ p hp
   .rw[Mk.1 hp];exact Tb.eZ.new
  .dsimp only
   refine fN ?_ ?_ ?_ ?_ ?_ ?_ ?_ ?_ ?_ ?_<;>(try simp)<;>(try omega)
 rw[F e8];by_cases e6:a=6
 .rw[qd e6]
  subst e6;have hG:Gr k { k with aS:=k.aS+1}:=⟨Lv _,Lv _,Lv _,Lv _,Lv _,by dsimp only;omega,Lv _,Lv _⟩
  refine⟨{ hM with nf:=by dsimp only;omega,held:=λs c hc=>⟨(h.held s c hc).1,hG.obj (h.held s c hc).2⟩},hG,U,U,?_,by dsimp only;omega,by dsimp only;omega,rfl,by dsimp only;omega⟩
  .dsimp only
   refine fN ?_ ?_ ?_ ?_ ?_ ?_ ?_ ?_ ?_ ?_<;>(try simp)<;>(try omega)
 .rw[F e6]
  have e7:a=7:=om
  subst e7;have hG:Gr k { k with cB:=k.cB+1}:=⟨Lv _,Lv _,Lv _,Lv _,Lv _,Lv _,by dsimp only;omega,Lv _⟩
  refine⟨{ hM with nt:=by dsimp only;omega,held:=λs c hc=>⟨(h.held s c hc).1,hG.obj (h.held s c hc).2⟩},hG,U,U,?_,by dsimp only;omega,by dsimp only;omega,rfl,by dsimp only;omega⟩
  .dsimp only
   refine fN ?_ ?_ ?_ ?_ ?_ ?_ ?_ ?_ ?_ ?_<;>(try simp)<;>(try omega)
theorem Fp{core a b:O}{at_:X}(ho:(k.made core a b at_).2.fe ⟨a,(k.made core a b at_).1,7,0,0,0⟩):0<=(k.made core a b at_).1:=ho.1
def ag.lz(core a b w:O)(s:Slot)(j:X)(at_:X)(k:ag):ag:=(k.made core a b at_).2.laid s (0,w+(j:O)) ⟨a,(k.made core a b at_).1,7,0,0,0⟩
theorem ba.lz(h:ba abz k)(hN:abz<=100000){core a b w:O}{s:Slot}{j at_:X}(ha:1<=a/\a<=8)(hr:k.zH core a b)(hu:a=1->wZ ⟨at_,b.toNat,0⟩)(hs:(k.H s).isSome=Z)
  (hw:0<=w/\w+(j:O)<64) (hn:k.H (0,w+(j:O))=N):
  ba (abz+1) (k.lz core a b w s j at_)/\Gr k (k.lz core a b w s j at_)/\(k.lz core a b w s j at_).H=Sl.cC k.H (0,w+(j:O)) (S ⟨a,(k.made core a b at_).1,7,0,0,0⟩)/\
   (k.lz core a b w s j at_).bits.length<=k.bits.length+1/\(k.lz core a b w s j at_).t.br.length<=k.t.br.length+1/\(k.lz core a b w s j at_).t.qs.length=k.t.qs.length:=by
 obtain⟨m1,m2,m3,m4,m5,m6,m7,m8,m9⟩:=h.made hN ha hr hu;have hl:=m1.laid (f:=s) (t:=(0,w+(j:O))) (c:=⟨a,(k.made core a b at_).1,7,0,0,0⟩) (by rw[m3];exact hs) ⟨U,by show 0<=w+(j:O);omega,hw.2⟩ (by rw[m3];exact hn)
  (gS ⟨ha.1,om⟩ ⟨Fp m5,om⟩) (show a≠0 by omega) kr m5
 refine⟨hl.1,⟨m2.u,m2.b,m2.t,m2.e,m2.n,m2.f,m2.tb,m2.s⟩,?_,m6,m7,m8⟩;show(ag.laid _ _ _ _).H=_;rw[hl.2,m3]
structure tO(core a b w:O)(s:Slot)(ats:Y X)(j M:X)(k:ag):Prop where
 ok:ba M k
 le:M+ats.length<=100000
 kind:1<=a/\a<=8
 r1:a=1->0<=b/\∀x∈ats,wZ ⟨x,b.toNat,0⟩
 r2:a=2->1<=b/\b<=8/\k.bits.length+ats.length<=64
 r3:a=3->k.t.fC core=Z/\k.t.br.length+ats.length<=64
 hs:(k.H s).isSome=Z
 w0:0<=w
 w1:w+(j:O)+(ats.length:O)<=64
 fr:∀i:X,i<ats.length->k.H (0,w+((j+i:X):O))=N
theorem tO.room{core a b w:O}{s:Slot}{x:X}{ats:Y X}{j M:X}{k:ag}(h:tO core a b w s (x::ats) j M k):k.zH core a b/\(a=1->wZ ⟨x,b.toNat,0⟩)/\(w+(j:O)<64)/\k.H (0,w+(j:O))=none:=by have h1:=h.r1;have h2:=h.r2;have h3:=h.r3;have h4:=h.w1;have h5:=h.fr 0 qc;simp only[LL]at h2 h3 h4;exact⟨⟨λe=>(h1 e).1,λe=>⟨(h2 e).1,(h2 e).2.1,by have:=(h2 e).2.2;omega⟩,λe=>⟨(h3 e).1,by have:=(h3 e).2;omega⟩⟩,λe=>(h1 e).2 x MH,om,by simpa using h5⟩
theorem tO.step{core a b w:O}{s:Slot}{x:X}{ats:Y X}{j M:X}{k:ag}(h:tO core a b w s (x::ats) j M k):tO core a b w s ats (j+1) (M+1) (k.lz core a b w s j x):=by
 obtain⟨g1,g2,g3,g4⟩:=h.room;have hle:=h.le;have hw1:=h.w1;have hr2:=h.r2;have hr3:=h.r3;simp only[LL]at hle hw1 hr2 hr3;obtain⟨m1,m2,m3,m4,m5,m6⟩:=h.ok.lz om h.kind g1 g2 h.hs ⟨h.w0,g3⟩ g4;refine⟨m1,om,h.kind,λe=>⟨(h.r1 e).1,λy hy=>(h.r1 e).2 y (MF _ hy)⟩,λe=>⟨(hr2 e).1,(hr2 e).2.1,by have:=(hr2 e).2.2;omega⟩,λe=>⟨?_,by have:=(hr3 e).2;omega⟩,?_,h.w0,om,λi hi=>?_⟩
 .have:=(hr3 e).1
  unfold Th.Mt.fC at this|-;rw[m6];exact this
 .rw[m3]
  unfold Sl.cC;split
  .rfl
  .exact h.hs
 .rw[m3]
  unfold Sl.cC;rw[F (λe=>by have:=qz Prod.snd e;dsimp only at this;omega)];have:=h.fr (i+1) (by simp;omega)
  rwa [show j+(i+1)=j+1+i from by omega]at this
theorem tO.all{core a b w:O}{s:Slot}:∀{ats:Y X}{j M:X}{k:ag},tO core a b w s ats j M k->ba (M+ats.length) (ag.makes core a b w s ats j k)
 | [],j,M,k,h=>h.ok
 |x::ats,j,M,k,h=>by have:=tO.all h.step;rw[show M+1+ats.length=M+(x::ats).length from by simp;omega]at this;exact this
theorem Gc{a b:O}(h:(eP a b).2=0):(1<=a/\a<=8)/\(a=1->4<=b/\b<=20/\(eP a b).1=b)/\(a=2->1<=b/\b<=8):=by
 unfold eP at*
 by_cases e1:a=1
 .rw[qd e1]at h|-
  split at h
  .rename_i hb
   rw[qd hb];exact⟨om,λ_=>⟨hb.1,hb.2,U⟩,om⟩
  .cases h
 rw[F e1]at h|-;by_cases e2:a=2
 .rw[qd e2]at h|-
  split at h
  .rename_i hb
   exact⟨om,om,λ_=>hb⟩
  .cases h
 rw[F e2]at h|-;refine⟨?_,λe=>qj e e1,λe=>qj e e2⟩;split at h
 .omega
 split at h
 .omega
 split at h
 .omega
 .cases h
end
section
variable{B:X}{w0 w:J}{R:Y aH}{α:Type}{A:X->α->aH}{ps:Y X}{xs:Y α}{L:Y aH}{b bd bk:X}{k:ag}{d:oX}{ec wv wk:O}{fs:Sl}{abz:X}
theorem ba.ij(hk:ba abz k){n:O}(h0:0<=n)(h1:n<(k.u.length:O)):k.u[n.toNat]?=S (k.ij n)/\wZ (k.ij n):=by have hx:k.u[n.toNat]?=S k.u[n.toNat]:=gE om;unfold ag.ij;rw[hx];exact⟨U,hk.u _ (Mq _)⟩
theorem kZ(hk:ba abz k)(hN:abz+64<=100000)(hs:(k.H d.s).isSome=Z)(hc:d.c.kind=1)(ho:k.fe d.c)(hcore:k.t.fC d.core=Z)
  (h0:(bH (k.ij d.c.obj) d.call.a d.call.b d.call.c).2.2=0) (h1:k.fc d.call.ao d.call.c.toNat=0) (h2:¬((d.call.a=2/\64<(k.bits.length:O)+d.call.c)\/(d.call.a=3/\64<(k.t.br.length:O)+d.call.c))):
  tO d.core d.call.a d.call.b d.call.ao d.s (bH (k.ij d.c.obj) d.call.a d.call.b d.call.c).1 0 abz { k with u:=k.u.set d.c.obj.toNat (bH (k.ij d.c.obj) d.call.a d.call.b d.call.c).2.1}:=by
 obtain⟨hu1,hu2⟩:=hk.ij ho.1 (ho.2.1 hc);obtain⟨p1,p2,p3,p4,p5,p6⟩:=hu2.place h0;obtain⟨s1,s2,s3⟩:=Gc p5;obtain⟨f1,f2,f3⟩:=hk.vZ h1;refine⟨hk.Gp (λx hx=>?_) qc (by simpa using hk.nu),om,s1,λe=>⟨by have:=s2 e;omega,λx hx=>?_⟩,λe=>⟨(s3 e).1,(s3 e).2,?_⟩,λe=>⟨hcore,?_⟩,hs,f1,by rw[p4];omega,λi hi=>?_⟩
 .rcases Mz hx with hx|hx
  .exact hk.u x hx
  .rw[hx];exact p3
 .obtain ⟨q1,q2⟩:=p6 x hx
  rw[(s2 e).2.2]at q1 q2;exact⟨by show d.call.b.toNat<=20;have:=s2 e;omega,q2,q1,MN _⟩
 .dsimp only;rw[p4];omega
 .dsimp only;rw[p4];omega
 .rw[p4]at hi
  have:=f3 i hi
  rwa [show((0+i:X):O)=(i:O)from by omega]
theorem ba.eS(hk:ba abz k)(hN:abz+64<=100000)(hs:(k.H d.s).isSome=Z)(hc:d.c.kind=1)(ho:k.fe d.c)(hcore:k.t.fC d.core=Z):ba (abz+64) (k.eS d).2:=by
 unfold ag.eS;by_cases h0:(bH (k.ij d.c.obj) d.call.a d.call.b d.call.c).2.2≠0
 .rw[qd h0];exact hk.mono om
 rw[F h0];by_cases h1:k.fc d.call.ao d.call.c.toNat≠0
 .rw[qd h1];exact hk.mono om
 rw[F h1];split
 .exact hk.mono om
 rename_i h2;have hm:=kZ hk hN hs hc ho hcore om om h2;obtain⟨hu1,hu2⟩:=hk.ij ho.1 (ho.2.1 hc);obtain⟨p1,p2,p3,p4,p5,p6⟩:=hu2.place (show(bH (k.ij d.c.obj) d.call.a d.call.b d.call.c).2.2=0 by omega);exact hm.all.mono (by rw[p4];omega)
theorem zD{K:O->Pw}(hk:ba abz k)(hN:abz+64<=100000)(hs:(k.H d.s).isSome=Z)(hc:d.c.kind=1)(ho:k.fe d.c)(hcore:k.t.fC d.core=Z)
  (hw0: -9223372036854775808<=d.call.ao) (hw1:d.call.ao<9223372036854775808) (h:Ow B w0 w (aa bd (ah bk d ec wv wk fs)::ai bk k::R))
  (hK:∀w',Ow B w0 w' (aa bd (ah bk d ec wv wk fs)::ai bk (k.eS d).2::R)->K (k.eS d).1 w'):S2 bd.o K w:=by
 apply Xv;obtain⟨hu1,hu2⟩:=hk.ij ho.1 (ho.2.1 hc);have o0:=ho.1;have o1:=ho.2.1 hc;have hst:=kZ (d:=d) hk hN hs hc ho hcore;have hpl:=hu2.place (kind:=d.call.a) (bits:=d.call.b) (n:=d.call.c);unfold ag.eS at hK;refine⟨_,U,dR (h.dx U (h.a λcb w1 h=>?_))⟩;refine h.aA U U λw h=>?_;intro k11 hk11;have fin:∀(l:X)(s:Sl)(w:J),Ow B w0 w (aa l [.y ((bH (k.ij d.c.obj) d.call.a d.call.b d.call.c).2.1.base:O),.z ((bH (k.ij d.c.obj) d.call.a d.call.b d.call.c).2.1.bits:O),.y ((bH (k.ij d.c.obj) d.call.a d.call.b d.call.c).2.1.used:O)]::af wE s (bH (k.ij d.c.obj) d.call.a d.call.b d.call.c).1::
   aa cb d.call.cl::aa bd (ah bk d ec wv wk fs)::ai bk k::R)->k11 s l.p (bH (k.ij d.c.obj) d.call.a d.call.b d.call.c).2.2 w:=λl s w h=>by
  apply hk11;generalize bH (k.ij d.c.obj) d.call.a d.call.b d.call.c=P at h hK hst hpl|-;obtain⟨ats,left,er⟩:=P;dsimp only at h hK hst hpl|-;by_cases h0:er≠0
  .rw[qd h0]at hK
   exact iv h0 (hK w h.sub)
  rw[F h0]at hK;have h0:er=0:=om
  obtain⟨p1,p2,p3,p4,p5,p6⟩:=hpl h0;refine fa h0 (h.l2 U ?_);obtain⟨cn,hcn⟩:=LB (show 0<=d.call.c by omega);have hcn2:d.call.c.toNat=cn:=om
  rw[hcn2]at hK;rw[hcn];refine free_spec (n:=cn) hk hw0 hw1 om ((h.pick (A:=ai bk k)).pick (A:=aa bd (ah bk d ec wv wk fs))) (λhf s w h=>?_) (λhf so w h=>?_)
  .rw[qd hf]at hK
   exact iv hf (hK w h.sub)
  rw[F om]at hK;refine fa U ?_;intro k20 hk20;have kbad:((d.call.a=2/\64<(k.bits.length:O)+d.call.c)\/(d.call.a=3/\64<(k.t.br.length:O)+d.call.c))->∀w,Ow B w0 w (aa bd (ah bk d ec wv wk fs)::ai bk k::R)->k20 Z w:=λhb w h=>by rw[qd hb]at hK;apply hk20;exact bh U (hK w h)
  have kgood:¬((d.call.a=2/\64<(k.bits.length:O)+d.call.c)\/(d.call.a=3/\64<(k.t.br.length:O)+d.call.c))->∀w,Ow B w0 w (af aC so (cG d.call.ao cn)::aa l [.y (left.base:O),.z (left.bits:O),.y (left.used:O)]::af wE s ats::
   aa cb d.call.cl::aa bd (ah bk d ec wv wk fs)::ai bk k::R)->k20 G w:=λhb w h=>by
   rw[F hb]at hK;have hst:=hst h0 (by rw[hcn2];exact hf) hb;apply hk20;refine bc U ?_;obtain⟨x,h⟩:=(h.pick (A:=ai bk k)).ui;refine h.dr λw h=>?_;refine⟨_,U,_,h.aF U,_,U,x.su,h.aE U,_,U,_,bj (h.aE U),h.nS U (h.cz (s:=x.su) (i:=d.c.obj) (j:=d.c.obj.toNat) om hu1 λa ha _ _=>⟨?_,trivial⟩)⟩
   refine h.sU (s:=x.su) (xs:=k.u) (i:=d.c.obj) (j:=d.c.obj.toNat) left om om ha λw h=>?_;have h:Ow B w0 w (ai bk { k with u:=k.u.set d.c.obj.toNat left}::af aC so (cG d.call.ao cn)::af wE s ats::
    aa cb d.call.cl::aa bd (ah bk d ec wv wk fs)::R):=Ow.bT x h.sub
   intro l35 hl35;have loop:∀(r j M:X)(kj:ag)(w:J),j+r=cn->tO d.core d.call.a d.call.b d.call.ao d.s (ats.drop j) j M kj->ag.makes d.core d.call.a d.call.b d.call.ao d.s (ats.drop j) j kj=ag.makes d.core d.call.a d.call.b d.call.ao d.s ats 0 { k with u:=k.u.set d.c.obj.toNat left}->
     Ow B w0 w (ai bk kj::af aC so (cG d.call.ao cn)::af wE s ats::
    aa cb d.call.cl::aa bd (ah bk d ec wv wk fs)::R)->l35 (j:O) w:=by
    intro r;induction r with
    |zero=>
     intro j M kj w hj hm he h;have hlen:=h.aL so;unfold cG at hlen;simp only[L3,List.length_range]at hlen;apply hl35;refine aw om ?_;rw[MX om]at he;have he:kj=_:=he;refine hK w ?_;rw[<-he];exact h.sub
    |succ r ih=>
     intro j M kj w hj hm he h;have hlen:=h.aL so;have hlt:(cG d.call.ao cn).length=cn:=by unfold cG;simp
     have hx:(cG d.call.ao cn)[j]?=S (0,d.call.ao+(j:O)):=by unfold cG;rw[LV,List.getElem?_range om];rfl
     have ha:ats[j]?=S ats[j]:=gE om;rw[Mr (show j<ats.length from by omega)]at hm he;generalize ats[j]=at_ at ha hm he;apply hl35;refine az om ?_;refine h.cz (s:=so) U hx λa1 ha1 _ hc1=>jW hc1 ?_;refine h.a λg w2 h=>?_;refine h.aA U U λw h=>?_;refine h.dr λw h=>?_;refine h.cz (s:=s) U ha λa2 ha2 h02 _=>⟨_,h02 _ U,?_⟩
     refine h.aR U ⟨_,h.aE U,?_,trivial⟩;refine Dn (at_:=at_) hm.ok (by have:=hm.le;omega) hm.room.1 ((h.pick (A:=ai bk kj)).pick (A:=aa bd (ah bk d ec wv wk fs))) λw h=>?_;refine⟨h.aE U,h.hd U ⟨?_,trivial⟩⟩;obtain⟨g1,g2,g3,g4⟩:=hm.room;obtain⟨q1,q2,q3,q4,q5,q6,q7,q8,q9⟩:=hm.ok.made (by have:=hm.le;omega) hm.kind g1 g2;refine nz (k:=(kj.made d.core d.call.a d.call.b at_).2) (s:=(0,d.call.ao+(j:O))) (c:=⟨d.call.a,(kj.made d.core d.call.a d.call.b at_).1,7,0,0,0⟩) kr (by rw[q4];have:=hm.ok.eC;omega) h λw h=>?_;have h:Ow B w0 w (aa bd (ah bk d ec wv wk fs)::ai bk (kj.lz d.core d.call.a d.call.b d.call.ao d.s j at_)::_):=h;rw[wI j om];exact ih (j+1) (M+1) (kj.lz d.core d.call.a d.call.b d.call.ao d.s j at_) w om hm.step he h.sub
   exact loop cn 0 abz _ w om hst U h
  obtain⟨x,h⟩:=(h.pick (A:=ai bk k)).ui;have hbl:=hk.rk.eC;have htl:=hk.inv.ok.eC;refine h.dr λw h=>?_;refine h.l2 U ?_;refine dE (λe2=>?_) (λe2=>?_)
  .refine ⟨_,U,_,h.aF U,_,U,_,h.aE U,h.l2 U ?_⟩
   rw[wr om om];refine bo (λe3=>?_) (λe3=>?_)
   .exact kbad (.inl ⟨e2,om⟩) w ((show Ow B w0 w (ai bk k::aa bd (ah bk d ec wv wk fs)::R) from Ow.bT x h.sub).sub)
   .refine h.l2 U ?_
    refine nQ om ?_;exact kgood om w ((show Ow B w0 w (ai bk k::af aC so (cG d.call.ao cn)::aa l [.y (left.base:O),.z (left.bits:O),.y (left.used:O)]::af wE s ats::
     aa cb d.call.cl::aa bd (ah bk d ec wv wk fs)::R)from Ow.bT x h.sub).sub)
  .refine h.l2 U ?_
   refine dE (λe3=>?_) (λe3=>?_)
   .refine ⟨_,U,_,h.aF U,_,U,_,h.aE U,h.l2 U ?_⟩
    rw[wr om om];by_cases e4:64<(k.t.br.length:O)+d.call.c
    .rw[qu (show (k.t.br.length:O)+d.call.c>64 from e4)]
     exact kbad (.inr ⟨e3,om⟩) w ((show Ow B w0 w (ai bk k::aa bd (ah bk d ec wv wk fs)::R) from Ow.bT x h.sub).sub)
    .rw[qm (show ¬(k.t.br.length:O)+d.call.c>64 from e4)]
     exact kgood om w ((show Ow B w0 w (ai bk k::af aC so (cG d.call.ao cn)::aa l [.y (left.base:O),.z (left.bits:O),.y (left.used:O)]::af wE s ats::
      aa cb d.call.cl::aa bd (ah bk d ec wv wk fs)::R)from Ow.bT x h.sub).sub)
   .exact kgood om w ((show Ow B w0 w (ai bk k::af aC so (cG d.call.ao cn)::aa l [.y (left.base:O),.z (left.bits:O),.y (left.used:O)]::af wE s ats::
     aa cb d.call.cl::aa bd (ah bk d ec wv wk fs)::R)from Ow.bT x h.sub).sub)
 obtain⟨x,h⟩:=(h.pick (A:=ai bk k)).ui;refine h.dr λw h=>?_;refine⟨_,U,_,h.aF U,_,U,x.su,h.aE U,_,U,_,bj (h.aE U),h.cz (s:=x.su) (i:=d.c.obj) (j:=d.c.obj.toNat) om hu1 λa ha _ hcu=>?_⟩;refine⟨_,hcu 0 _ U,_,hcu 1 _ U,_,hcu 2 _ U,⟨_,h.aE U,_,h.aE U,_,h.aE U,?_,?_,trivial⟩⟩
 .refine tP hu2 h λs w h=>?_
  refine⟨h.al λw' h=>⟨?_,trivial⟩,trivial⟩
  generalize w.heap.size=l at h|-;refine h.aA U U λw h=>?_;exact fin l s w ((show Ow B w0 w (ai bk k::aa l [.y ((bH (k.ij d.c.obj) d.call.a d.call.b d.call.c).2.1.base:O),.z ((bH (k.ij d.c.obj) d.call.a d.call.b d.call.c).2.1.bits:O),.y ((bH (k.ij d.c.obj) d.call.a d.call.b d.call.c).2.1.used:O)]::af wE s (bH (k.ij d.c.obj) d.call.a d.call.b d.call.c).1::
   aa cb d.call.cl::aa bd (ah bk d ec wv wk fs)::R)from Ow.bT x h.sub).sub)
 .refine h.al λw' h=>⟨?_,trivial⟩
  generalize w.heap.size=l at h|-;refine tP hu2 h λs w h=>?_;refine⟨h.aA U U λw h=>?_,trivial⟩;exact fin l s w ((show Ow B w0 w (ai bk k::aa l [.y ((bH (k.ij d.c.obj) d.call.a d.call.b d.call.c).2.1.base:O),.z ((bH (k.ij d.c.obj) d.call.a d.call.b d.call.c).2.1.bits:O),.y ((bH (k.ij d.c.obj) d.call.a d.call.b d.call.c).2.1.used:O)]::af wE s (bH (k.ij d.c.obj) d.call.a d.call.b d.call.c).1::
   aa cb d.call.cl::aa bd (ah bk d ec wv wk fs)::R)from Ow.bT x h.sub).sub)
theorem zW(a:O):cG a 1= [(0,a)]:=by simp[cG]
theorem ly(b:O):0<=qv.wrap b/\qv.wrap b<18446744073709551616:=by
 have e1:(2:O)^64=18446744073709551616:=qb
 have h:qv.wrap b=b%18446744073709551616:=by simp only[IntKind.wrap,IntKind.bits,IntKind.signed,e1,M0,LK,qy]
 rw[h];exact⟨Int.emod_nonneg _ qb,Int.emod_lt_of_pos _ qb⟩
theorem rK{c:cN}{r g:O}(hc:Sl.fg c)(hg:0<=g/\g<18446744073709551616):Sl.fg (ag.fI c r g).1:=by
 have hz:Sl.fg Sl.ak:=⟨qb,qb,qb,qb⟩
 unfold ag.fI;split
 .exact hz
 split
 .exact hz
 split
 .exact hz
 .refine ⟨?_,?_,hc.g0,hc.g1⟩
  .dsimp only
   split
   .exact hg.1
   .exact hc.b0
  .dsimp only
   split
   .exact hg.2
   .exact hc.b1
theorem Ds{K:O->Pw}(hk:ba abz k)(hc:Sl.fg d.c)(hw0: -9223372036854775808<=d.call.ao)(hw1:d.call.ao<9223372036854775808)(h:Ow B w0 w (aa bd (ah bk d ec wv wk fs)::ai bk k::R))
  (hK:∀w',Ow B w0 w' (aa bd (ah bk d ec wv wk fs)::ai bk (k.mG d).2::R)->K (k.mG d).1 w'):S3 bd.o K w:=by
 apply Xw;unfold ag.mG at hK;have hr:=rK (r:=d.call.a) hc (ly d.call.b);have hfew:=hk.eC;refine⟨_,U,h.l2 U (dE (λe=>?_) (λe=>?_))⟩
 .rw[qd e]at hK;exact hK w h
 rw[F e]at hK;refine free_spec (n:=1) hk hw0 hw1 om h (λhf s w h=>?_) (λhf so w h=>?_)
 .rw[qd hf]at hK
  exact iv hf (hK w h)
 rw[F om]at hK;rw[zW]at h;refine fa U ?_;intro k7 hk7;have fin:∀(s:X)(w:J),Ow B w0 w (aa s (ag.fI d.c d.call.a (qv.wrap d.call.b)).1.cells::af aC so [(0,d.call.ao)]::aa bd (ah bk d ec wv wk fs)::ai bk k::R)->k7 (ag.fI d.c d.call.a (qv.wrap d.call.b)).2 s.p w:=λs w h=>by
  apply hk7;by_cases he:(ag.fI d.c d.call.a (qv.wrap d.call.b)).2≠0
  .rw[qd he]at hK
   exact iv he (hK w h.sub)
  rw[F he]at hK;refine fa om ?_;refine h.dr λw h=>?_;refine h.cz (s:=so) (i:=0) (j:=0) (x:=(0,d.call.ao)) U U λa ha _ hc1=>jW hc1 ?_;refine h.dx U ⟨?_,trivial⟩;refine nz (s:=(0,d.call.ao)) (c:=(ag.fI d.c d.call.a (qv.wrap d.call.b)).1) hr om ((h.pick (A:=ai bk k)).pick (A:=aa bd (ah bk d ec wv wk fs))) λw h=>?_;exact hK w h.sub
 refine h.dr λw h=>?_;refine⟨_,U,dR (h.dx U ⟨_,U,_,bj (h.aE U),_,U,_,bj (h.aE U),?_,?_,trivial⟩)⟩
 .refine wz hc h λw x hx h=>?_
  subst hx;refine⟨h.al λw' h=>⟨?_,trivial⟩,trivial⟩
  generalize w.heap.size=s at h|-;refine h.aA U U λw h=>?_;exact fin s w h
 .refine h.al λw' h=>⟨?_,trivial⟩
  generalize w.heap.size=s at h|-;refine wz hc h λw x hx h=>?_;subst hx;refine⟨h.aA U U λw h=>?_,trivial⟩;exact fin s w h
theorem Du{K:O->Pw}(hk:ba abz k)(hw0: -9223372036854775808<=d.call.ao)(hw1:d.call.ao<9223372036854775808)(h:Ow B w0 w (aa bd (ah bk d ec wv wk fs)::ai bk k::R))
  (hK:∀w',Ow B w0 w' (aa bd (ah bk d ec wv wk fs)::ai bk (k.move d).2::R)->K (k.move d).1 w'):S4 bd.o K w:=by
 apply Xx;unfold ag.move at hK;refine free_spec (n:=1) hk hw0 hw1 om h (λhf s w h=>?_) (λhf so w h=>?_)
 .rw[qd hf]at hK
  exact iv hf (hK w h)
 rw[F om]at hK;rw[zW]at h;refine fa U ?_;obtain⟨x,h⟩:=(h.pick (A:=ai bk k)).ui;refine h.dr λw h=>?_;refine⟨_,U,_,h.aF U,_,U,_,h.aF U,_,U,dR (h.aR U (h.cz (s:=so) (i:=0) (j:=0) (x:=(0,d.call.ao)) U U λa ha _ hc1=>jW hc1 ⟨?_,trivial⟩))⟩;refine Sl.lX (f:=d.s) (t:=(0,d.call.ao)) (h.pick (A:=Sl.av x.n k.bits k.H)) λw h=>?_;refine h.dr λw h=>?_;refine⟨_,U,_,h.aF U,_,U,_,h.aE U,_,U,dR (h.aR U (h.cz (s:=so) (i:=0) (j:=0) (x:=(0,d.call.ao)) U U λa ha _ hc1=>jW hc1 ⟨?_,trivial⟩))⟩;refine Tr.uZ (f:=d.s) (t:=(0,d.call.ao)) (h.pick (A:=Tr.bD x.tr k.T)) λw h=>?_;exact hK w ((show Ow B w0 w (ai bk { k with H:=(Sl.dI k.bits k.H d.s (0,d.call.ao)).2,T:=(Tr.dI k.T d.s (0,d.call.ao)).2}::aa bd (ah bk d ec wv wk fs)::R) from Ow.bT x h.sub).sub)
def jt{α:Type}(f:α->α)(j:X)(l:Y α):Y α:=(l.take j).map f++l.drop j
theorem uu{α:Type}(f:α->α)(l:Y α):jt f 0 l=l:=by simp[jt]
theorem wo{α:Type}(f:α->α){j:X}{l:Y α}(h:l.length<=j):jt f j l=l.map f:=by unfold jt;rw[Lz h,MX h,LQ]
theorem wq{α:Type}{f:α->α}{j:X}{l:Y α}{x:α}(h:l[j]?=S x):(jt f j l)[j]?=S x/\(jt f j l).set j (f x)=jt f (j+1) l:=by
 have hj:=(Lu.1 h).1;have hl:((l.take j).map f).length=j:=by simp;omega
 have hd:l.drop j=x::l.drop (j+1):=by rw[Mr hj];congr 1;exact(Lu.1 h).2
 unfold jt;refine⟨?_,?_⟩
 .rw[LH om,hl,MV,hd];rfl
 .rw[Ng _ _ om,hl,MV,hd,LJ,h,LU]
  simp
theorem wu{α:Type}(f:α->α)(j:X)(l:Y α):(jt f j l).length=l.length:=by unfold jt;simp;omega
theorem oq{id:O}{K:Pw}(h:Ow B w0 w (ai bk k::R))(hN:k.ends.length<=200000/\k.notes.length<=200000)(hK:∀w',Ow B w0 w' (ai bk (k.dz id)::R)->K w'):QP bk.o id K w:=by
 apply Zu;obtain⟨x,h⟩:=h.ui;have hle:=h.aL x.se;have hln:=h.aL x.sn;have hpe:=(h.pick (A:=au ck x.pe k.ends)).cA;have hpn:=(h.pick (A:=au bL x.pn k.notes)).cA;refine⟨_,U,x.se,h.aE U,?_⟩;intro l5 hl5;have loop:∀(m j:X)(w:J),j+m=k.ends.length->Ow B w0 w (ai bk { k with ends:=jt (·.cancel id) j k.ends}::R)->l5 (j:O) w->I:=λ_ _ _ _ _ _=>trivial;clear loop;have loop:∀(m j:X)(w:J),j+m=k.ends.length->Ow B w0 w (aa bk (bR x k.aS k.cB k.bits.length k.t.br.length)::Sl.av x.n k.bits k.H::Tr.bD x.tr k.T::Th.bu x.t k.t::bG x.ln k.ln::af df x.su k.u::af bS x.se x.pe::au ck x.pe (jt (·.cancel id) j k.ends)::af bS x.sn x.pn::au bL x.pn k.notes::af bS x.ss x.ps::au Tb.bC x.ps k.ae::R)->l5 (j:O) w:=by
  intro m;induction m with
  |zero=>
   intro j w hj h;apply hl5;refine aw om ?_;rw[wo _ om]at h;refine⟨_,U,x.sn,h.aE U,?_⟩;intro l14 hl14;have loop2:∀(m j:X)(w:J),j+m=k.notes.length->Ow B w0 w (aa bk (bR x k.aS k.cB k.bits.length k.t.br.length)::Sl.av x.n k.bits k.H::Tr.bD x.tr k.T::Th.bu x.t k.t::bG x.ln k.ln::af df x.su k.u::af bS x.se x.pe::au ck x.pe (k.ends.map (·.cancel id))::af bS x.sn x.pn::au bL x.pn (jt (·.cancel id) j k.notes)::af bS x.ss x.ps::au Tb.bC x.ps k.ae::R)->l14 (j:O) w:=by
    intro m;induction m with
    |zero=>
     intro j w hj h;apply hl14;refine aw om ?_;rw[wo _ om]at h;exact hK w (Ow.bT x h:Ow B w0 w (ai bk (k.dz id)::R))
    |succ m ih=>
     intro j w hj h;have hx:k.notes[j]?=S k.notes[j]:=gE om;have hp:x.pn[j]?=S x.pn[j]:=gE om;obtain⟨g1,g2⟩:=wq (f:=(·.cancel id)) hx;apply hl14;refine az om ?_;refine dG (s:=x.sn) h U hp λa ha hc=>⟨_,hc,?_⟩
     have h:=(h.pick (A:=au bL x.pn (jt (·.cancel id) j k.notes))).pt hp g1;refine oD h λr w h=>?_;have h:=h.xK (by rw[wu];omega) hp;rw[g2]at h;rw[wI j om];exact ih (j+1) w om h.sub
   refine loop2 k.notes.length 0 w om ?_;rw[uu];exact h
  |succ m ih=>
   intro j w hj h;have hx:k.ends[j]?=S k.ends[j]:=gE om;have hp:x.pe[j]?=S x.pe[j]:=gE om;obtain⟨g1,g2⟩:=wq (f:=(·.cancel id)) hx;apply hl5;refine az om ?_;refine dG (s:=x.se) h U hp λa ha hc=>⟨_,hc,?_⟩
   have h:=(h.pick (A:=au ck x.pe (jt (·.cancel id) j k.ends))).pt hp g1;refine mu h λr w h=>?_;have h:=h.xK (by rw[wu];omega) hp;rw[g2]at h;rw[wI j om];exact ih (j+1) w om h.sub
 refine loop k.ends.length 0 w om ?_;rw[uu];exact h
theorem kS{sp:O}{l:O × Tb.Pg}{abu:Y lM}{K:Pw}(hF:abu.length<=1000000000)(h:Ow B w0 w (aa bd (ah bk d ec wv wk fs)::af aP fs abu::R))
  (hK:∀fs' w',Ow B w0 w' (aa bd (ah bk d ec wv wk fs')::af aP fs' (abu++ [⟨sp,l.1,l.2.1,l.2.2⟩])::R)->K w'):QU bd.o sp l.1 l.2.1 l.2.2 K w:=by
 apply Zy;refine h.a λc w1 h=>?_;refine h.dr λw h=>?_;refine⟨_,U,fs,bj (h.aE U),h.l1 U (dR (h.aR U ⟨h.al λw2 h=>⟨?_,trivial⟩,trivial⟩))⟩
 generalize w.heap.size=g at h|-;refine yz (s:=fs) (y:=⟨sp,l.1,l.2.1,l.2.2⟩) h om λfs' w hs' h=>⟨_,U,?_,trivial⟩
 refine gR ?_;refine h.fK U U λw h=>?_
 (try dsimp only[bR,ah,putAt,Mf,LM,LF]at h)
 exact hK fs' w h.sub
theorem Ow.ny(h:Ow B w0 w (ai b k::R)):∃(ss:Sl)(ps:Y X)(abp:aH),Ow B w0 w (af bS ss ps::au Tb.bC ps k.ae::abp::R)/\w.cell? (b.p.add 7)=S ss.v/\ps.length=k.ae.length/\
  ∀R' w' sp,Ow B w0 w' (af bS ss ps::au Tb.bC ps sp::abp::R')->Ow B w0 w' (ai b { k with ae:=sp}::R'):=by
 obtain⟨x,h⟩:=h.ui;refine⟨x.ss,x.ps,cj [aa b (bR x k.aS k.cB k.bits.length k.t.br.length),Sl.av x.n k.bits k.H,Tr.bD x.tr k.T,Th.bu x.t k.t,bG x.ln k.ln,af df x.su k.u,af bS x.se x.pe,au ck x.pe k.ends,af bS x.sn x.pn,au bL x.pn k.notes],?_,h.aE U,(h.pick (A:=au Tb.bC x.ps k.ae)).cA,λR' w' sp h=>?_⟩
 .exact Ow.cq (Ow.kh (Ow.cq (Ow.bW (show Ow B w0 w (aa b (bR x k.aS k.cB k.bits.length k.t.br.length)::Sl.av x.n k.bits k.H::Tr.bD x.tr k.T::Th.bu x.t k.t::bG x.ln k.ln::af df x.su k.u::af bS x.se x.pe::au ck x.pe k.ends::af bS x.sn x.pn::au bL x.pn k.notes::af bS x.ss x.ps::au Tb.bC x.ps k.ae::R)from h.sub))))
 .have h:Ow B w0 w' (aa b (bR x k.aS k.cB k.bits.length k.t.br.length)::Sl.av x.n k.bits k.H::Tr.bD x.tr k.T::Th.bu x.t k.t::bG x.ln k.ln::af df x.su k.u::af bS x.se x.pe::au ck x.pe k.ends::af bS x.sn x.pn::au bL x.pn k.notes::af bS x.ss x.ps::au Tb.bC x.ps sp::R'):=(h.kh).star
  exact Ow.bT x h.sub
theorem Ow.Fa(h:Ow B w0 w (ai b k::R)):∃(ss:Sl)(ps:Y X)(abp:aH),Ow B w0 w (af bS ss ps::au ck ps k.ends::abp::R)/\w.cell? (b.p.add 5)=S ss.v/\ps.length=k.ends.length/\
  ∀R' w' sp,Ow B w0 w' (af bS ss ps::au ck ps sp::abp::R')->Ow B w0 w' (ai b { k with ends:=sp}::R'):=by
 obtain⟨x,h⟩:=h.ui;refine⟨x.se,x.pe,cj [aa b (bR x k.aS k.cB k.bits.length k.t.br.length),Sl.av x.n k.bits k.H,Tr.bD x.tr k.T,Th.bu x.t k.t,bG x.ln k.ln,af df x.su k.u,af bS x.sn x.pn,au bL x.pn k.notes,af bS x.ss x.ps,au Tb.bC x.ps k.ae],?_,h.aE U,(h.pick (A:=au ck x.pe k.ends)).cA,λR' w' sp h=>?_⟩
 .exact Ow.cq (Ow.kh (Ow.cq (Ow.bW (show Ow B w0 w (aa b (bR x k.aS k.cB k.bits.length k.t.br.length)::Sl.av x.n k.bits k.H::Tr.bD x.tr k.T::Th.bu x.t k.t::bG x.ln k.ln::af df x.su k.u::af bS x.sn x.pn::au bL x.pn k.notes::af bS x.ss x.ps::au Tb.bC x.ps k.ae::af bS x.se x.pe::au ck x.pe k.ends::R)from h.sub))))
 .have h:Ow B w0 w' (aa b (bR x k.aS k.cB k.bits.length k.t.br.length)::Sl.av x.n k.bits k.H::Tr.bD x.tr k.T::Th.bu x.t k.t::bG x.ln k.ln::af df x.su k.u::af bS x.sn x.pn::au bL x.pn k.notes::af bS x.ss x.ps::au Tb.bC x.ps k.ae::af bS x.se x.pe::au ck x.pe sp::R'):=(h.kh).star
  exact Ow.bT x h.sub
theorem Ow.A5(h:Ow B w0 w (ai b k::R)):∃(ss:Sl)(ps:Y X)(abp:aH),Ow B w0 w (af bS ss ps::au bL ps k.notes::abp::R)/\w.cell? (b.p.add 6)=S ss.v/\ps.length=k.notes.length/\
  ∀R' w' sp,Ow B w0 w' (af bS ss ps::au bL ps sp::abp::R')->Ow B w0 w' (ai b { k with notes:=sp}::R'):=by
 obtain⟨x,h⟩:=h.ui;refine⟨x.sn,x.pn,cj [aa b (bR x k.aS k.cB k.bits.length k.t.br.length),Sl.av x.n k.bits k.H,Tr.bD x.tr k.T,Th.bu x.t k.t,bG x.ln k.ln,af df x.su k.u,af bS x.se x.pe,au ck x.pe k.ends,af bS x.ss x.ps,au Tb.bC x.ps k.ae],?_,h.aE U,(h.pick (A:=au bL x.pn k.notes)).cA,λR' w' sp h=>?_⟩
 .exact Ow.cq (Ow.kh (Ow.cq (Ow.bW (show Ow B w0 w (aa b (bR x k.aS k.cB k.bits.length k.t.br.length)::Sl.av x.n k.bits k.H::Tr.bD x.tr k.T::Th.bu x.t k.t::bG x.ln k.ln::af df x.su k.u::af bS x.se x.pe::au ck x.pe k.ends::af bS x.ss x.ps::au Tb.bC x.ps k.ae::af bS x.sn x.pn::au bL x.pn k.notes::R)from h.sub))))
 .have h:Ow B w0 w' (aa b (bR x k.aS k.cB k.bits.length k.t.br.length)::Sl.av x.n k.bits k.H::Tr.bD x.tr k.T::Th.bu x.t k.t::bG x.ln k.ln::af df x.su k.u::af bS x.se x.pe::au ck x.pe k.ends::af bS x.ss x.ps::au Tb.bC x.ps k.ae::af bS x.sn x.pn::au bL x.pn sp::R'):=(h.kh).star
  exact Ow.bT x h.sub
theorem Ow.ow(h:Ow B w0 w (ai b k::R)):∃(bt:X)(abp:aH),Ow B w0 w (Th.bu bt k.t::abp::R)/\w.cell? (b.p.add 2)=S (.q bt)/\
  ∀R' w' t,t.br.length=k.t.br.length->Ow B w0 w' (Th.bu bt t::abp::R')->Ow B w0 w' (ai b (k.bZ t)::R'):=by
 obtain⟨x,h⟩:=h.ui;refine⟨x.t,cj [aa b (bR x k.aS k.cB k.bits.length k.t.br.length),Sl.av x.n k.bits k.H,Tr.bD x.tr k.T,bG x.ln k.ln,af df x.su k.u,af bS x.se x.pe,au ck x.pe k.ends,af bS x.sn x.pn,au bL x.pn k.notes,af bS x.ss x.ps,au Tb.bC x.ps k.ae],?_,h.aE U,λR' w' t ht h=>?_⟩
 .exact Ow.cq (Ow.bW (show Ow B w0 w (aa b (bR x k.aS k.cB k.bits.length k.t.br.length)::Sl.av x.n k.bits k.H::Tr.bD x.tr k.T::bG x.ln k.ln::af df x.su k.u::af bS x.se x.pe::au ck x.pe k.ends::af bS x.sn x.pn::au bL x.pn k.notes::af bS x.ss x.ps::au Tb.bC x.ps k.ae::Th.bu x.t k.t::R)from h.sub))
 .have h:Ow B w0 w' (aa b (bR x k.aS k.cB k.bits.length k.t.br.length)::Sl.av x.n k.bits k.H::Tr.bD x.tr k.T::bG x.ln k.ln::af df x.su k.u::af bS x.se x.pe::au ck x.pe k.ends::af bS x.sn x.pn::au bL x.pn k.notes::af bS x.ss x.ps::au Tb.bC x.ps k.ae::Th.bu x.t t::R'):=(h.cq).star
  rw[<-ht]at h;exact(Ow.bT x h.sub:Ow B w0 w' (ai b (k.bZ t)::R'))
theorem Ow.AZ(h:Ow B w0 w (ai b k::R)):∃(bt:X)(abp:aH),Ow B w0 w (bG bt k.ln::abp::R)/\w.cell? (b.p.add 3)=S (.q bt)/\
  ∀R' w' t,Ow B w0 w' (bG bt t::abp::R')->Ow B w0 w' (ai b { k with ln:=t}::R'):=by
 obtain⟨x,h⟩:=h.ui;refine⟨x.ln,cj [aa b (bR x k.aS k.cB k.bits.length k.t.br.length),Sl.av x.n k.bits k.H,Tr.bD x.tr k.T,Th.bu x.t k.t,af df x.su k.u,af bS x.se x.pe,au ck x.pe k.ends,af bS x.sn x.pn,au bL x.pn k.notes,af bS x.ss x.ps,au Tb.bC x.ps k.ae],?_,h.aE U,λR' w' t h=>?_⟩
 .exact Ow.cq (Ow.bW (show Ow B w0 w (aa b (bR x k.aS k.cB k.bits.length k.t.br.length)::Sl.av x.n k.bits k.H::Tr.bD x.tr k.T::Th.bu x.t k.t::af df x.su k.u::af bS x.se x.pe::au ck x.pe k.ends::af bS x.sn x.pn::au bL x.pn k.notes::af bS x.ss x.ps::au Tb.bC x.ps k.ae::bG x.ln k.ln::R)from h.sub))
 .have h:Ow B w0 w' (aa b (bR x k.aS k.cB k.bits.length k.t.br.length)::Sl.av x.n k.bits k.H::Tr.bD x.tr k.T::Th.bu x.t k.t::af df x.su k.u::af bS x.se x.pe::au ck x.pe k.ends::af bS x.sn x.pn::au bL x.pn k.notes::af bS x.ss x.ps::au Tb.bC x.ps k.ae::bG x.ln t::R'):=(h.cq).star
  exact(Ow.bT x h.sub:Ow B w0 w' (ai b { k with ln:=t}::R'))
def iK(P:Tb.fA)(l:Tb.fA):Tb.fA:=P.filter λy=>l.all λx=>x.1 !=y.1
theorem yU(P:Tb.fA):iK P []=P:=by unfold iK;simp
theorem vX(P l:Tb.fA)(x:O × Tb.Pg):iK P (l++ [x])=Tb.mr (iK P l) x.1:=by unfold iK Tb.mr;rw[M7];congr 1;funext y;rw[List.all_append];simp only[List.all_cons,List.all_nil,Bool.and_true];rw[Bool.and_comm];congr 1;rw[Nh];simp only[qN,ne_eq];exact⟨λh e=>h e.symm,λh e=>h e.symm⟩
theorem yT{P:Tb.fA}(hP:Tb.kn P)(f:O × Tb.Pg->W):iK P (P.filter f)=P.filter λx=> !f x:=by
 unfold iK;apply List.filter_congr;intro y hy;rw[Nh];simp only[NT,LP,qN,ne_eq,N2,and_imp];constructor
 .intro h
  cases e:f y with
  |false=>rfl
  |true=>exact qj U (h y hy e)
 .intro h x hx hfx e
  have:=hP.inj hx hy e;rw[this,h]at hfx;cases hfx
theorem vW{P:Tb.fA}(hP:Tb.kn P)(f:O × Tb.Pg->W){q:X}{x:O × Tb.Pg}(hx:(P.filter f)[q]?=S x):Tb.look (iK P ((P.filter f).take q)) x.1=S x.2:=by
 have hS:Tb.kn (iK P ((P.filter f).take q)):=hP.filter _;refine hS.look ?_;unfold iK;rw[LP];have hm:x∈P.filter f:=L4 hx;refine⟨(LP.1 hm).1,?_⟩;rw[NT];intro y hy;obtain⟨i,hi⟩:=Mp.1 hy;rw[LS]at hi;split at hi
 .rename_i hlt
  have hF:Tb.kn (P.filter f):=hP.filter f;have h1:=(Lu.1 hx)
  have h2:=(Lu.1 hi)
  have:=(List.pairwise_iff_getElem.1 hF) i q h2.1 h1.1 hlt;rw[h1.2,h2.2]at this;simp only[qN,ne_eq];omega
 .cases hi
theorem lr(f:O)(m:Tb.dV):∀(l:Y Tb.dV)(i:X),ag.bp f i (l++ [m])=((ag.bp f i l).1++ag.aT (i+l.length) (m.pg.filter λx=>x.2.1==f),(ag.bp f i l).2++ [{ m with pg:=m.pg.filter λx=> !(x.2.1==f)}])
 | [],i=>by simp[ag.bp]
 |a::l,i=>by simp only[MO,ag.bp,LL];rw[lr f m l (i+1)];simp only[LN,MO];rw[show i+1+l.length=i+(l.length+1)from by omega]
theorem fy(f:O):∀(l:Y Tb.dV)(i:X),(ag.bp f i l).2.length=l.length
 | [],i=>rfl
 |a::l,i=>by simp[ag.bp,fy f l (i+1)]
theorem oR(n:O)(m:Tb.dV):∀(l:Y Tb.dV)(i:X),ag.cO n i (l++ [m])=((ag.cO n i l).1++(ag.dH n (i+l.length) 64 0 m).1,(ag.cO n i l).2++ [(ag.dH n (i+l.length) 64 0 m).2])
 | [],i=>by simp[ag.cO]
 |a::l,i=>by simp only[MO,ag.cO,LL];rw[oR n m l (i+1)];simp only[LN,MO];rw[show i+1+l.length=i+(l.length+1)from by omega]
theorem jh(n:O):∀(l:Y Tb.dV)(i:X),(ag.cO n i l).2.length=l.length
 | [],i=>rfl
 |a::l,i=>by simp[ag.cO,jh n l (i+1)]
def lB(l:Y Tb.dV):X:=(l.map λm=>m.pg.length).sum
theorem tD(a b:Y Tb.dV):lB (a++b)=lB a+lB b:=by unfold lB;simp
theorem oj{α:Type}(f:α->W):∀l:Y α,(l.filter f).length+(l.filter λx=> !f x).length=l.length
 | []=>rfl
 |a::l=>by have:=oj f l;cases h:f a<;>simp[h]<;>omega
theorem lq(f:O):∀(l:Y Tb.dV)(i:X),(ag.bp f i l).1.length+lB (ag.bp f i l).2=lB l
 | [],i=>rfl
 |a::l,i=>by
  have h1:=lq f l (i+1);have h2:=oj (λx:O × Tb.Pg=>x.2.1==f) a.pg;unfold lB at*
  simp only[ag.bp,ag.aT,LC,L3,L1,PH];omega
theorem GO(m:Tb.dV)(j:O):(m.bw j).1.length+(m.bw j).2.2.pg.length=m.pg.length:=by
 unfold Tb.dV.bw;split
 .simp
 split
 .simp
 .have:=oj (λx:O × Tb.Pg=>x.1.toNat / 64==j.toNat) m.pg
  exact this
theorem sr(n:O)(i:X):∀(q j:X)(m:Tb.dV),(ag.dH n i q j m).1.length+(ag.dH n i q j m).2.pg.length=m.pg.length
 |0,j,m=>by simp[ag.dH]
 |q+1,j,m=>by
  unfold ag.dH;split
  .have h1:=sr n i q (j+1) (m.bw (j:O)).2.2
   have h2:=GO m (j:O);simp only[ag.aT,LC,L3];omega
  .exact sr n i q (j+1) m
theorem ra(n:O):∀(l:Y Tb.dV)(i:X),(ag.cO n i l).1.length+lB (ag.cO n i l).2=lB l
 | [],i=>rfl
 |a::l,i=>by
  have h1:=ra n l (i+1);have h2:=sr n i 64 0 a;unfold lB at*
  simp only[ag.cO,LC,L1,PH];omega
theorem GU(k:ag)(c:cN):(k.last c).1.length+lB (k.last c).2.ae=lB k.ae:=by
 unfold ag.last;split
 .simp[ag.dz]
 split
 .exact lq _ _ _
 split
 .exact ra _ _ _
 .simp
theorem B7(k:ag)(s:Slot):(k.gone s).1.length+lB (k.gone s).2.ae=lB k.ae:=by
 unfold ag.gone;split
 .simp[ag.taken]
 .exact GU _ _
theorem eZ.Cn{m:Tb.dV}(h:Tb.eZ m):m.pg.length<=4096:=by have:=Tb.nJ m.pg 0 4096 h.kg (λx hx=>⟨(h.sD x hx).1,(h.sD x hx).2.1⟩);omega
theorem rQ:∀(l:Y Tb.dV),(∀m∈l,Tb.eZ m)->lB l<=4096*l.length
 | [],_=>Lv _
 |a::l,h=>by
  have h1:=rQ l λm hm=>h m (MF _ hm);have h2:=eZ.Cn (h a MH);unfold lB at*
  simp only[L1,PH,LL];omega
theorem Ow.s8(h:Ow B w0 w (au A ps xs::R)){j:X}{p:X}{x:α}(hp:ps[j]?=S p)(hx:xs[j]?=S x):Ow B w0 w (A p x::cj ((Lx A ps xs).eraseIdx j)::R):=
 Ow.cq (Ow.bW ((h.pt hp hx).perm Ml.symm))
theorem Ow.cd{j:X}{p:X}{x':α}(hl:ps.length=xs.length)(hp:ps[j]?=S p)(h:Ow B w0 w (A p x'::cj ((Lx A ps xs).eraseIdx j)::R)):Ow B w0 w (au A ps (xs.set j x')::R):=
 Ow.xK hl hp ((h.cq).star.perm Ml)
theorem zq{f:X->Y Tb.dV->Y lM × Y Tb.dV}(hlen:∀l i,(f i l).2.length=l.length){l:Y Tb.dV}{i:X}{m:Tb.dV}(hm:l[i]?=S m):
  ((f 0 (l.take i)).2++l.drop i)[i]?=S m/\∀m',((f 0 (l.take i)).2++l.drop i).set i m'=(f 0 (l.take i)).2++ [m']++l.drop (i+1):=by
 have hi:=(Lu.1 hm).1;have h1:((f 0 (l.take i)).2).length=i:=by rw[hlen,LX];omega
 have hd:l.drop i=m::l.drop (i+1):=by rw[Mr hi];congr 1;exact(Lu.1 hm).2
 refine⟨?_,λm'=>?_⟩
 .rw[LH om,h1,MV,hd];rfl
 .rw[Ng _ _ om,h1,MV,hd];simp
theorem ng(n:O)(i q j:X)(m:Tb.dV):ag.dH n i (q+1) j m=if m.at (j:O)=S n then(ag.aT i (m.bw (j:O)).1++(ag.dH n i q (j+1) (m.bw (j:O)).2.2).1,(ag.dH n i q (j+1) (m.bw (j:O)).2.2).2)else ag.dH n i q (j+1) m:=rfl
theorem Dg{c:cN}{abu:Y lM}{K:Pw}(hN:k.ends.length<=200000/\k.notes.length<=200000/\k.ae.length<=200000)(ht:Th.fH k.t)(hs:∀m∈k.ae,Tb.eZ m)(hF:abu.length+lB k.ae<=1000000000)
  (h:Ow B w0 w (aa bd (ah bk d ec wv wk fs)::af aP fs abu::ai bk k::R))
  (hK:∀fs' w',Ow B w0 w' (aa bd (ah bk d ec wv wk fs')::af aP fs' (abu++(k.last c).1)::ai bk (k.last c).2::R)->K w'):Us bd.o c.kind c.obj c.ar c.ay c.guard c.bits K w:=by
 apply ZB;unfold ag.last at hK;refine h.a λcc w1 h=>?_;refine h.l1 U ?_;refine dE (λe=>?_) (λe=>?_)
 .rw[qd e]at hK
  refine h.dr λw h=>?_;refine⟨_,U,_,h.aF U,_,h.aE U,oq (id:=c.obj) (h.pick (A:=ai bk k)) ⟨hN.1,hN.2.1⟩ λw h=>?_,trivial⟩;refine h.dr λw h=>?_;obtain⟨bt,abp,h2,hc2,hback⟩:=h.ow;refine⟨_,U,_,h.aF U,_,U,_,hc2,_,h.aE U,Th.wM ht h2 λw h=>?_,trivial⟩;have hl:(k.t.bV c.obj).2.br.length=k.t.br.length:=by
   unfold Th.Mt.bV;split
   .rfl
   split
   .rfl
   .unfold Th.Mt.leave Th.Mt.aJ;simp[Th.cX.1]
  have h:=hback _ w _ hl h;dsimp only at hK;rw[LQ]at hK;have hK3:∀fs' w',Ow B w0 w' (aa bd (ah bk d ec wv wk fs')::af aP fs' abu::ai bk ((k.dz c.obj).bZ (k.t.bV c.obj).2)::R)->K w':=hK;exact hK3 fs w h.sub
 rw[F e]at hK;refine dE (λe6=>?_) (λe6=>?_)
 .rw[qd e6]at hK
  obtain⟨ss,ps,abp,h2,hc2,hpl,hback⟩:=(h.pick (A:=ai bk k)).ny;refine⟨_,U,_,h.aF U,_,U,ss,hc2,?_⟩;have h:=h2;clear h2 hc2;intro l27 hl27;have loop:∀(r i:X)(fs:Sl)(w:J),i+r=k.ae.length->Ow B w0 w (af bS ss ps::au Tb.bC ps ((ag.bp c.obj 0 (k.ae.take i)).2++k.ae.drop i)::abp::aa cc c.cells::aa bd (ah bk d ec wv wk fs)::af aP fs (abu++(ag.bp c.obj 0 (k.ae.take i)).1)::R)->l27 (i:O) w:=by
   intro r;induction r with
   |zero=>
    intro i fs w hi h;have hlen:=h.aL ss;apply hl27;refine aw om ?_;rw[Lz om,MX om,LQ]at h;exact hK fs w (Ow.sub (L:=ai bk { k with ae:=(ag.bp c.obj 0 k.ae).2}::aa cc c.cells::aa bd (ah bk d ec wv wk fs)::af aP fs (abu++(ag.bp c.obj 0 k.ae).1)::R) (hback _ w _ h))
   |succ r ih=>
    intro i fs w hi h;have hlen:=h.aL ss;have hm:k.ae[i]?=S k.ae[i]:=gE om;have hmm:k.ae[i]∈k.ae:=Mq _;have hp:ps[i]?=S ps[i]:=gE om;generalize k.ae[i]=m at hm hmm;generalize ps[i]=p at hp;have hsm:=hs m hmm;obtain⟨g1,g2⟩:=zq (f:=ag.bp c.obj) (fy c.obj) hm;have htk:k.ae.take (i+1)=k.ae.take i++ [m]:=by rw[LJ,hm];rfl
    have hul:((ag.bp c.obj 0 (k.ae.take i)).2++k.ae.drop i).length=ps.length:=by simp[fy];omega
    have hpg1:=lq c.obj (k.ae.take (i+1)) 0;have hpg2:lB (k.ae.take (i+1))<=lB k.ae:=by have:=tD (k.ae.take (i+1)) (k.ae.drop (i+1));rw[Ma]at this;omega
    have hsn:=lr c.obj m (k.ae.take i) 0;rw[htk]at hpg1 hpg2;rw[hsn]at hpg1;rw[LF,LX,Ms om]at hsn hpg1;simp only[LC]at hpg1;apply hl27;refine az om ?_;refine dG (s:=ss) h U hp λa ha hc=>⟨_,hc,h.l2 U ?_⟩
    have h:=(h.pick (A:=au Tb.bC ps ((ag.bp c.obj 0 (k.ae.take i)).2++k.ae.drop i))).s8 hp g1;refine Tb.yq h λs w h=>?_;intro l35 hl35;have hfl:∀q:X,(Tb.cy m.pg c.obj)[q]?=((m.pg.filter λx=>x.2.1==c.obj)[q]?).map (·.1):=λq=>by unfold Tb.cy;rw[LV]
    have hfn:(Tb.cy m.pg c.obj).length=(m.pg.filter λx=>x.2.1==c.obj).length:=by unfold Tb.cy;rw[L3]
    have hll:(ag.aT i (m.pg.filter λx=>x.2.1==c.obj)).length=(m.pg.filter λx=>x.2.1==c.obj).length:=by unfold ag.aT;rw[L3]
    have inner:∀(r q:X)(fs:Sl)(w:J),q+r=(m.pg.filter λx=>x.2.1==c.obj).length->Ow B w0 w (af aq s (Tb.cy m.pg c.obj)::Tb.bC p { m with pg:=iK m.pg ((m.pg.filter λx=>x.2.1==c.obj).take q)}::cj ((Lx Tb.bC ps ((ag.bp c.obj 0 (k.ae.take i)).2++k.ae.drop i)).eraseIdx i)::
      af bS ss ps::abp::aa cc c.cells::aa bd (ah bk d ec wv wk fs)::af aP fs (abu++(ag.bp c.obj 0 (k.ae.take i)).1++ag.aT i ((m.pg.filter λx=>x.2.1==c.obj).take q))::R)->l35 (q:O) w:=by
     intro r;induction r with
     |zero=>
      intro q fs w hq h;have hsl:=h.aL s;apply hl35;refine aw om ?_;rw[Lz om,yT hsm.kg]at h;have h:=(h.drop).cd om hp;rw[g2]at h;rw[wI i om];refine ih (i+1) fs w om ?_;rw[htk,hsn,<-LN];exact h.sub
     |succ r ih2=>
      intro q fs w hq h;have hsl:=h.aL s;have hx:(m.pg.filter λx=>x.2.1==c.obj)[q]?=S (m.pg.filter λx=>x.2.1==c.obj)[q]:=gE om;have hlk:=vW hsm.kg (λx=>x.2.1==c.obj) hx;have htq:(m.pg.filter λx=>x.2.1==c.obj).take (q+1)=(m.pg.filter λx=>x.2.1==c.obj).take q++ [(m.pg.filter λx=>x.2.1==c.obj)[q]]:=by rw[LJ,hx];rfl
      have hmem:(m.pg.filter λx=>x.2.1==c.obj)[q]∈m.pg:=(LP.1 (Mq _)).1;have hfx:=hfl q;rw[hx]at hfx;generalize (m.pg.filter λx=>x.2.1==c.obj)[q]=y at hx hlk htq hmem hfx;have hbnd:=hsm.sD y hmem;have hun:(show Tb.dV from { m with pg:=iK m.pg ((m.pg.filter λx=>x.2.1==c.obj).take q)}).cg y.1=(y.2,0,{ m with pg:=iK m.pg ((m.pg.filter λx=>x.2.1==c.obj).take (q+1))}):=by unfold Tb.dV.cg;rw[F om,hlk,htq,vX]
      have hqlen:(abu++(ag.bp c.obj 0 (k.ae.take i)).1++ag.aT i ((m.pg.filter λx=>x.2.1==c.obj).take q)).length<=1000000000:=by unfold ag.aT at hpg1|-;simp only[LC,L3,LX]at hpg1|-;omega
      apply hl35;refine az om ?_;refine h.cz (s:=s) U hfx λa ha h0 _=>⟨_,h0 _ U,?_⟩
      refine Tb.od (h.pick (A:=Tb.bC p { m with pg:=iK m.pg ((m.pg.filter λx=>x.2.1==c.obj).take q)})) λw h=>?_;rw[hun]at h|-;refine h.a λg w2 h=>?_;refine h.aA U U λw h=>?_;refine h.aR U ?_;refine kS (sp:=(i:O)) (l:=(y.1,y.2)) hqlen ((h.pick (A:=af aP fs (abu++(ag.bp c.obj 0 (k.ae.take i)).1++ag.aT i ((m.pg.filter λx=>x.2.1==c.obj).take q)))).pick (A:=aa bd (ah bk d ec wv wk fs))) λfs' w h=>?_;rw[show qf.wrap ((q:O)+1)=((q+1:X):O)from by have:=eZ.Cn hsm;have:=L6 (λx:O × Tb.Pg=>x.2.1==c.obj) m.pg;rw[wr om om];omega];refine ih2 (q+1) fs' w om ?_;have e9:abu++(ag.bp c.obj 0 (k.ae.take i)).1++ag.aT i ((m.pg.filter λx=>x.2.1==c.obj).take (q+1))=abu++(ag.bp c.obj 0 (k.ae.take i)).1++ag.aT i ((m.pg.filter λx=>x.2.1==c.obj).take q)++ [⟨(i:O),y.1,y.2.1,y.2.2⟩]:=by rw[htq];unfold ag.aT;rw[LU];simp only[LN];rfl
      rw[e9];exact h.sub
    refine inner _ 0 fs w (LF _) ?_;have e1:iK m.pg ((m.pg.filter λx=>x.2.1==c.obj).take 0)=m.pg:=by rw[MU,yU]
    have e2:ag.aT i ((m.pg.filter λx=>x.2.1==c.obj).take 0)= []:=rfl;rw[e1,e2,LQ];exact h.sub
  refine loop k.ae.length 0 fs w1 (LF _) ?_;rw[MU,M3];show Ow B w0 w1 (af bS ss ps::au Tb.bC ps ([]++k.ae)::abp::aa cc c.cells::aa bd (ah bk d ec wv wk fs)::af aP fs (abu++ [])::R);rw[Mw,LQ];exact h.sub
 rw[F e6]at hK;refine dE (λe7=>?_) (λe7=>?_)
 .rw[qd e7]at hK
  obtain⟨ss,ps,abp,h2,hc2,hpl,hback⟩:=(h.pick (A:=ai bk k)).ny;refine⟨_,U,_,h.aF U,_,U,ss,hc2,?_⟩;have h:=h2;clear h2 hc2;intro l53 hl53;have loop:∀(r i:X)(fs:Sl)(w:J),i+r=k.ae.length->Ow B w0 w (af bS ss ps::au Tb.bC ps ((ag.cO c.obj 0 (k.ae.take i)).2++k.ae.drop i)::abp::aa cc c.cells::aa bd (ah bk d ec wv wk fs)::af aP fs (abu++(ag.cO c.obj 0 (k.ae.take i)).1)::R)->l53 (i:O) w:=by
   intro r;induction r with
   |zero=>
    intro i fs w hi h;have hlen:=h.aL ss;apply hl53;refine aw om ?_;rw[Lz om,MX om,LQ]at h;exact hK fs w (Ow.sub (L:=ai bk { k with ae:=(ag.cO c.obj 0 k.ae).2}::aa cc c.cells::aa bd (ah bk d ec wv wk fs)::af aP fs (abu++(ag.cO c.obj 0 k.ae).1)::R) (hback _ w _ h))
   |succ r ih=>
    intro i fs w hi h;have hlen:=h.aL ss;have hm:k.ae[i]?=S k.ae[i]:=gE om;have hp:ps[i]?=S ps[i]:=gE om;generalize k.ae[i]=m at hm;generalize ps[i]=p at hp;obtain⟨g1,g2⟩:=zq (f:=ag.cO c.obj) (jh c.obj) hm;have htk:k.ae.take (i+1)=k.ae.take i++ [m]:=by rw[LJ,hm];rfl
    have hul:((ag.cO c.obj 0 (k.ae.take i)).2++k.ae.drop i).length=ps.length:=by simp[jh];omega
    have hpg1:=ra c.obj (k.ae.take (i+1)) 0;have hpg2:lB (k.ae.take (i+1))<=lB k.ae:=by have:=tD (k.ae.take (i+1)) (k.ae.drop (i+1));rw[Ma]at this;omega
    have hsn:=oR c.obj m (k.ae.take i) 0;rw[htk]at hpg1 hpg2;rw[hsn]at hpg1;rw[LF,LX,Ms om]at hsn hpg1;simp only[LC]at hpg1;apply hl53;refine az om ?_;refine dG (s:=ss) h U hp λa ha hc=>⟨_,hc,?_⟩
    have h:=(h.pick (A:=au Tb.bC ps ((ag.cO c.obj 0 (k.ae.take i)).2++k.ae.drop i))).s8 hp g1;intro l58 hl58;have places:∀(r j:X)(mj:Tb.dV)(abx:Y lM)(fs:Sl)(w:J),j+r=64->(abx++(ag.dH c.obj i r j mj).1=(ag.dH c.obj i 64 0 m).1)->((ag.dH c.obj i r j mj).2=(ag.dH c.obj i 64 0 m).2)->
      Ow B w0 w (Tb.bC p mj::cj ((Lx Tb.bC ps ((ag.cO c.obj 0 (k.ae.take i)).2++k.ae.drop i)).eraseIdx i)::
      af bS ss ps::abp::aa cc c.cells::aa bd (ah bk d ec wv wk fs)::af aP fs (abu++(ag.cO c.obj 0 (k.ae.take i)).1++abx)::R)->l58 (j:O) w:=by
     intro r;induction r with
     |zero=>
      intro j mj abx fs w hj hG hM h;apply hl58;refine aw om ?_;have hM:mj=_:=hM;have hG:abx++ []=_:=hG;rw[LQ]at hG;rw[hM,hG]at h;have h:=h.cd om hp;rw[g2]at h;rw[wI i om];refine ih (i+1) fs w om ?_;rw[htk,hsn,<-LN];exact h.sub
     |succ r ih2=>
      intro j mj abx fs w hj hG hM h;apply hl58;refine az om ?_;refine Tb.El h ?_;intro k64 hk64;rw[ng]at hG hM;rw[wI j om]at hk64;have no:mj.at (j:O)≠S c.obj->k64 G w:=λhn=>by rw[F hn]at hG hM;apply hk64;refine bc U ?_;exact ih2 (j+1) mj abx fs w om hG hM h
      have yes:mj.at (j:O)=S c.obj->k64 Z w:=λhy=>by
       rw[qd hy]at hG hM;apply hk64;refine bh U ?_;refine Tb.CI h λs w h=>?_;intro l70 hl70;have hGl:=qz Nc hG;simp only[LC]at hGl;have hlines:(ag.aT i (mj.bw (j:O)).1).length=(mj.bw (j:O)).1.length:=by unfold ag.aT;rw[L3]
       have inner:∀(r q:X)(fs:Sl)(w:J),q+r=(mj.bw (j:O)).1.length->Ow B w0 w (af Tb.aK s (mj.bw (j:O)).1::Tb.bC p (mj.bw (j:O)).2.2::cj ((Lx Tb.bC ps ((ag.cO c.obj 0 (k.ae.take i)).2++k.ae.drop i)).eraseIdx i)::
         af bS ss ps::abp::aa cc c.cells::aa bd (ah bk d ec wv wk fs)::af aP fs (abu++(ag.cO c.obj 0 (k.ae.take i)).1++(abx++ag.aT i ((mj.bw (j:O)).1.take q)))::R)->l70 (q:O) w:=by
        intro r;induction r with
        |zero=>
         intro q fs w hq h;have hsl:=h.aL s;apply hl70;refine aw om ?_;rw[Lz (l:=(mj.bw (j:O)).1) om]at h;exact ih2 (j+1) _ (abx++ag.aT i (mj.bw (j:O)).1) fs w om (by rw[LN];exact hG) hM h.drop
        |succ r ih3=>
         intro q fs w hq h;have hsl:=h.aL s;have hx:(mj.bw (j:O)).1[q]?=S (mj.bw (j:O)).1[q]:=gE om;have htq:(mj.bw (j:O)).1.take (q+1)=(mj.bw (j:O)).1.take q++ [(mj.bw (j:O)).1[q]]:=by rw[LJ,hx];rfl
         generalize (mj.bw (j:O)).1[q]=y at hx htq;have hqlen:(abu++(ag.cO c.obj 0 (k.ae.take i)).1++(abx++ag.aT i ((mj.bw (j:O)).1.take q))).length<=1000000000:=by
          have e8:(ag.aT i ((mj.bw (j:O)).1.take q)).length<=(mj.bw (j:O)).1.length:=by unfold ag.aT;rw[L3,LX];omega
          simp only[LC];omega
         apply hl70;refine az om ?_;refine h.cz (s:=s) U hx λa ha _ hc1=>Tb.rE hc1 ?_;refine h.a λg w2 h=>?_;refine h.aA U U λw h=>?_;refine h.nS U ?_;refine kS (sp:=(i:O)) (l:=y) hqlen ((h.pick (A:=af aP fs (abu++(ag.cO c.obj 0 (k.ae.take i)).1++(abx++ag.aT i ((mj.bw (j:O)).1.take q))))).pick (A:=aa bd (ah bk d ec wv wk fs))) λfs' w h=>?_;rw[wI q om];refine ih3 (q+1) fs' w om ?_;have e9:abu++(ag.cO c.obj 0 (k.ae.take i)).1++(abx++ag.aT i ((mj.bw (j:O)).1.take (q+1)))=abu++(ag.cO c.obj 0 (k.ae.take i)).1++(abx++ag.aT i ((mj.bw (j:O)).1.take q))++ [⟨(i:O),y.1,y.2.1,y.2.2⟩]:=by rw[htq];unfold ag.aT;rw[LU];simp only[LN];rfl
         rw[e9];exact h.sub
       refine inner _ 0 fs w (LF _) ?_;rw[MU];show Ow B w0 w (af Tb.aK s (mj.bw (j:O)).1::Tb.bC p (mj.bw (j:O)).2.2::cj _::af bS ss ps::abp::aa cc c.cells::aa bd (ah bk d ec wv wk fs)::af aP fs (abu++(ag.cO c.obj 0 (k.ae.take i)).1++(abx++ []))::R);rw[LQ];exact h
      cases hat:mj.at (j:O)with
      |none=>exact bc U (no (by rw[hat];simp))
      |some n=>
       refine bh U (h.l2 U ?_);show k64 (n==c.obj) w;by_cases en:n=c.obj
       .rw[show(n==c.obj)=Z from by simpa using en];exact yes (by rw[hat,en])
       .rw[show(n==c.obj)=G from by simpa using en];exact no (by rw[hat];simpa using en)
    refine places 64 0 m [] fs w (LF _) (Mw _) U ?_;rw[LQ];exact h.sub
  refine loop k.ae.length 0 fs w1 (LF _) ?_;rw[MU,M3];show Ow B w0 w1 (af bS ss ps::au Tb.bC ps ([]++k.ae)::abp::aa cc c.cells::aa bd (ah bk d ec wv wk fs)::af aP fs (abu++ [])::R);rw[Mw,LQ];exact h.sub
 .rw[F e7,LQ]at hK
  exact hK fs w1 h.drop
def fi(H:Sl.Hs):Y (Slot × cN):=(LA 64).filterMap λi:X=>(H (0,(i:O))).map λc=>(((0,(i:O)):Slot),c)
theorem pE{H:Sl.Hs}(h:∀s c,H s=S c->s.1=0/\0<=s.2/\s.2<64):Sl.kM H (fi H):=by
 unfold fi;refine⟨?_,λs c=>?_⟩
 .rw[List.pairwise_filterMap]
  refine List.Pairwise.imp ?_ (List.pairwise_lt_range (n:=64));intro a b hab x hx y hy;rw[MZ]at hx hy;obtain⟨_,_,rfl⟩:=hx;obtain⟨_,_,rfl⟩:=hy;unfold Sl.nC;dsimp only;exact qu (.inr ⟨U,om⟩)
 .rw[List.mem_filterMap]
  constructor
  .rintro ⟨i,_,hi⟩
   rw[MZ]at hi;obtain⟨c',hc,e⟩:=hi;cases e;exact hc
  .intro hc
   obtain⟨h1,h2,h3⟩:=h s c hc;refine⟨s.2.toNat,Nf.2 om,?_⟩;have e:((0:O),((s.2.toNat:X):O))=s:=Prod.ext h1.symm (by dsimp only;omega);rw[e,hc];rfl
theorem rC(H:Sl.Hs):(fi H).length<=64:=by unfold fi;exact LY (List.length_filterMap_le _ _) qc
theorem wb(H:Sl.Hs)(c:cN):(fi H).any (λy=>ag.lJ y.2 c)=(LA 64).any λi=>match H (0,(i:O))with|some x=>ag.lJ x c|none=>false:=by unfold fi;rw[List.any_filterMap];congr 1;funext i;cases H (0,(i:O))<;>rfl
theorem Fj(l:Tr.Tr):(Tr.eM l).map (·.1)=l.map (·.1):=by unfold Tr.eM;rw[Nl];rfl
theorem Gk{T:Tr.Tr}{i:X}(hi:i<T.length):(T.take i++(Tr.eM ((T.drop (i+1)).take (Tr.dD T i-(i+1)))++T.drop (Tr.dD T i))).map (·.1)=(T.map (·.1)).eraseIdx i:=by
 obtain⟨e1,e2⟩:=Tr.ru T hi;have hd:T.drop (Tr.dD T i)=(T.drop (i+1)).drop (Tr.dD T i-(i+1)):=by rw[List.drop_drop];congr 1;omega
 rw[hd,LU,LU,Fj,<-LU,Ma,<-LU,OR];simp[List.map_take,List.map_drop]
end
section
variable{abz:X}{k:ag}
theorem ba.taken(h:ba abz k){s:Slot}(hs:(k.H s).isSome=Z):ba abz (k.taken s):=by
 obtain⟨i,hi⟩:=rR ((h.mem s).2 hs);obtain⟨x,hx,hxs⟩:=Tr.du hi;have hlt:=(Lu.1 hx).1;have hT:(k.taken s).T=k.T.take i++(Tr.eM ((k.T.drop (i+1)).take (Tr.dD k.T i-(i+1)))++k.T.drop (Tr.dD k.T i)):=by unfold ag.taken Tr.takeN;rw[hi]
 refine { h with
  rk:=h.rk.del s
  held:=λt c hc=>?_
  tok:=by rw[hT];exact h.tok.take hi
  mem:=λt=>?_}
 .have hc:Sl.cC k.H s N t=S c:=hc
  unfold Sl.cC at hc;split at hc
  .cases hc
  .exact h.held t c hc
 .rw[hT,Gk hlt]
  have hgi:(k.T.map (·.1))[i]?=S s:=by rw[LV,hx];exact qz S hxs
  rw[Sl.oA h.tok.nd hgi,h.mem];show _↔(Sl.cC k.H s N t).isSome=Z;unfold Sl.cC;by_cases e:t=s
  .simp[e]
  .rw[F e];simp[e]
theorem ba.dz(h:ba abz k)(id:O):ba abz (k.dz id):=by
 have hG:Gr k (k.dz id):=⟨Lv _,Lv _,Lv _,by simp[ag.dz],by simp[ag.dz],Lv _,Lv _,Lv _⟩
 refine h.same (k':=k.dz id) U U U hG h.inv h.ln (λx hx hx2=>?_) h.u h.xZ h.nu (by simpa [ag.dz]using h.ne) (by simpa [ag.dz]using h.nn) h.ns h.nf h.nt (λp hp=>?_) (λp hp=>?_)
 .have:=h.Ee x hx hx2
  simpa [ag.dz]using this
 .obtain ⟨q,hq,rfl⟩:=L2.1 hp
  exact LY (L6 _ _) (h.el q hq)
 .obtain ⟨q,hq,rfl⟩:=L2.1 hp
  exact LY (L6 _ _) (h.nl q hq)
theorem ba.ae(h:ba abz k){l:Y Tb.dV}(hl:l.length=k.ae.length)(hs:∀m∈l,Tb.eZ m):ba abz { k with ae:=l}:=
 h.same (k':={ k with ae:=l}) U U U ⟨Lv _,Lv _,Lv _,Lv _,Lv _,Lv _,Lv _,by dsimp only;omega⟩ h.inv h.ln h.Ee h.u hs h.nu h.ne h.nn (by have:=h.ns;dsimp only;omega) h.nf h.nt h.el h.nl
theorem eZ.J5{m:Tb.dV}(h:Tb.eZ m)(f:O × Tb.Pg->W):Tb.eZ { m with pg:=m.pg.filter f}:=
 ⟨h.kg.filter f,λx hx=>h.sD x (LP.1 hx).1,h.eC⟩
theorem vb(f:O):∀(l:Y Tb.dV)(i:X),(∀m∈l,Tb.eZ m)->∀m∈(ag.bp f i l).2,Tb.eZ m
 | [],i,_,m,hm=>by simp[ag.bp]at hm
 |a::l,i,h,m,hm=>by
  simp only[ag.bp,LD]at hm;rcases hm with rfl|hm
  .exact eZ.J5 (h a MH) _
  .exact vb f l (i+1) (λm hm=>h m (MF _ hm)) m hm
theorem sq(n:O)(i:X):∀(q j:X)(m:Tb.dV),Tb.eZ m->Tb.eZ (ag.dH n i q j m).2
 |0,j,m,h=>h
 |q+1,j,m,h=>by
  rw[ng];split
  .exact sq n i q (j+1) _ (h.drop _)
  .exact sq n i q (j+1) m h
theorem zZ(n:O):∀(l:Y Tb.dV)(i:X),(∀m∈l,Tb.eZ m)->∀m∈(ag.cO n i l).2,Tb.eZ m
 | [],i,_,m,hm=>by simp[ag.cO]at hm
 |a::l,i,h,m,hm=>by
  simp only[ag.cO,LD]at hm;rcases hm with rfl|hm
  .exact sq n i 64 0 a (h a MH)
  .exact zZ n l (i+1) (λm hm=>h m (MF _ hm)) m hm
theorem mW(t:Th.Mt)(id:O):(t.bV id).2.br.length=t.br.length:=by
 unfold Th.Mt.bV;split
 .rfl
 split
 .rfl
 .unfold Th.Mt.leave Th.Mt.aJ;simp[Th.cX.1]
theorem ba.last(h:ba abz k)(c:cN):ba abz (k.last c).2/\(k.last c).2.H=k.H/\(k.last c).2.T=k.T/\(k.last c).2.bits=k.bits:=by
 unfold ag.last;split
 .exact ⟨(h.dz c.obj).bZ (h.inv.suspend c.obj) (by rw[mW];exact Lv _),U,U,U⟩
 split
 .exact ⟨h.ae (fy _ _ _) (vb _ _ _ h.xZ),U,U,U⟩
 split
 .exact ⟨h.ae (jh _ _ _) (zZ _ _ _ h.xZ),U,U,U⟩
 .exact ⟨h,U,U,U⟩
theorem ba.gone(h:ba abz k){s:Slot}(hs:(k.H s).isSome=Z):ba abz (k.gone s).2/\(k.gone s).2.H=Sl.cC k.H s N/\(k.gone s).2.T=(Tr.takeN k.T s).2:=by
 have ht:=h.taken hs;unfold ag.gone;split
 .exact ⟨ht,U,U⟩
 .obtain ⟨h1,h2,h3,_⟩:=ht.last ((k.H s).getD Sl.ak)
  exact⟨h1,h2,h3⟩
theorem pC{abz:X}:∀(l:Y Slot)(k:ag),ba abz k->l.Nodup->(∀s∈l,(k.H s).isSome=Z)->ba abz (ag.cI l k).2/\(∀s,(ag.cI l k).2.H s=if s∈l then N else k.H s)
 | [],k,h,_,_=>⟨h,λs=>by simp[ag.cI]⟩
 |a::l,k,h,hn,hs=>by
  obtain⟨h1,h2,h3⟩:=h.gone (hs a MH);rw[Mj]at hn;have hl:∀s∈l,((k.gone a).2.H s).isSome=true:=λs hm=>by rw[h2];unfold Sl.cC;rw[F (λe:s=a=>hn.1 (e▸hm))];exact hs s (MF _ hm)
  obtain⟨g1,g2⟩:=pC l _ h1 hn.2 hl;refine⟨g1,λs=>?_⟩;show(ag.cI l (k.gone a).2).2.H s=_;rw[g2,h2];unfold Sl.cC;by_cases e:s∈l
  .rw[qd e,qd (MF _ e)]
  .rw[F e]
   by_cases e2:s=a
   .rw[qd e2,qd (by rw[e2];exact MH)]
   .rw[F e2,F (by simp[e,e2])]
theorem pD:∀(l:Y Slot)(k:ag),(ag.cI l k).1.length+lB (ag.cI l k).2.ae=lB k.ae
 | [],k=>by simp[ag.cI]
 |a::l,k=>by have h1:=B7 k a;have h2:=pD l (k.gone a).2;simp only[ag.cI,LC];omega
end
section
variable{abu:Fence}{n:X}{P:qq}{m:Th.Mt}{B:X}{w0 w:J}{R L:Y aH}{bd bk:X}{k:ag}{d:oX}{ec wv wk:O}{fs:Sl}{abz:X}
theorem AR{y:Slot × cN}{c:cN}{sb:X}{K:W->Pw}(h:Ow B w0 w L)(i:X)(hi:L[i]?=S (aa sb c.cells))
  (hK:∀w',Ow B w0 w' L->K (ag.lJ y.2 c) w'):Uq y.1.1 y.1.2 y.2.kind y.2.obj y.2.ar y.2.ay y.2.guard y.2.bits sb.p K w:=by
 apply ZA;refine h.a λc0 w1 h=>?_;refine dR (h.dx U ?_);refine h.s0 (i+1) (by simpa using hi) U ?_;exact rZ h λw h=>hK w h.drop
theorem v8{s:Slot}{abu:Y lM}{K:Pw}(hk:ba abz k)(hN:abz<=200000)(hs:(k.H s).isSome=Z)(hF:abu.length+lB k.ae<=1000000000)
  (h:Ow B w0 w (aa bd (ah bk d ec wv wk fs)::af aP fs abu::ai bk k::R))
  (hK:∀fs' w',Ow B w0 w' (aa bd (ah bk d ec wv wk fs')::af aP fs' (abu++(k.gone s).1)::ai bk (k.gone s).2::R)->K w'):QO bd.o s.1 s.2 K w:=by
 apply Zt;have hkt:=hk.taken hs;obtain⟨c,hc⟩:=MS.1 hs;unfold ag.gone at hK;rw[hc]at hK;have hth:Sl.aQ k.bits s=true:=lk hk.b0 (hk.held s c hc).1;refine h.a λc0 w1 h=>?_;obtain⟨x,h⟩:=(h.pick (A:=ai bk k)).ui;refine h.dr λw h=>?_;refine⟨_,U,_,h.aF U,_,U,h.l2 U (h.aR U ⟨Tr.u3 (s:=s) (h.pick (A:=Tr.bD x.tr k.T)) λw h=>?_,trivial⟩)⟩;intro k14 hk14;have fin:∀(sb:X)(w:J),Ow B w0 w (aa sb c.cells::aa bd (ah bk d ec wv wk fs)::af aP fs abu::ai bk (k.taken s)::R)->k14 sb.p w:=λsb w h=>by
  apply hk14;have hF2:abu.length+lB (k.taken s).ae<=1000000000:=hF;generalize k.taken s=kt at hkt hK hF2 h|-;obtain⟨x,h⟩:=(h.pick (A:=ai bk kt)).ui;refine⟨_,U,_,h.aF U,_,U,h.l1 U (Sl.gM (h.pick (A:=Sl.av x.n kt.bits kt.H)) λs2 hs2 w hih h=>?_)⟩;have e2:hs2=fi kt.H:=hih.uniq (pE λt c hc=>(hkt.held t c hc).1);subst e2;have h:Ow B w0 w (ai bk kt::af Sl.dW s2 (fi kt.H)::aa sb c.cells::aa bd (ah bk d ec wv wk fs)::af aP fs abu::R):=Ow.bT x h.sub;refine oV (s:=s2) (p:=λy=>ag.lJ y.2 c) h (LY (rC _) qb) (λy w aby h hQ=>?_) λw h=>?_
  .refine bq ?_
   show Uq y.1.1 y.1.2 y.2.kind y.2.obj y.2.ar y.2.ay y.2.guard y.2.bits sb.p aby w;exact AR (c:=c) h 2 U hQ
  .have e3:((fi kt.H).any λy=>ag.lJ y.2 c)=kt.more c:=wb _ _
   rw[e3];cases hm:kt.more c with
   |true=>
    refine bc U ?_;rw[Nd,qd hm]at hK;refine hK fs w ?_;show Ow B w0 w (aa bd (ah bk d ec wv wk fs)::af aP fs (abu++ [])::ai bk kt::R);rw[LQ];exact h.sub
   |false=>
    refine bh U ?_;rw[Nd,F (by rw[hm];decide)]at hK;refine h.dx U ?_;refine Dg (c:=c) (abu:=abu) ⟨LY hkt.ne hN,LY hkt.nn hN,LY hkt.ns hN⟩ hkt.inv.ok hkt.xZ hF2 (h.sub:Ow B w0 w (aa bd (ah bk d ec wv wk fs)::af aP fs abu::ai bk kt::R)) λfs' w h=>?_;exact hK fs' w h
 refine h.dr λw h=>?_;refine⟨_,U,_,h.aF U,_,U,h.l1 U (h.aR U ⟨?_,?_,trivial⟩)⟩
 .refine Sl.gP (s:=s) (h.pick (A:=Sl.av x.n k.bits k.H)) (λe=>by rw[hth]at e;cases e) (λ_ e=>by rw[hc]at e;cases e) λ_ c2 hc2 w h=>?_
  rw[hc]at hc2;cases hc2;refine⟨h.al λw' h=>⟨?_,trivial⟩,trivial⟩
  generalize w.heap.size=sb at h|-;refine h.aA U U λw h=>?_;exact fin sb w ((show Ow B w0 w (ai bk (k.taken s)::aa sb c.cells::aa bd (ah bk d ec wv wk fs)::af aP fs abu::R) from Ow.bT x h.sub).sub)
 .refine h.al λw' h=>⟨?_,trivial⟩
  generalize w.heap.size=sb at h|-;refine Sl.gP (s:=s) (h.pick (A:=Sl.av x.n k.bits k.H)) (λe=>by rw[hth]at e;cases e) (λ_ e=>by rw[hc]at e;cases e) λ_ c2 hc2 w h=>?_;rw[hc]at hc2;cases hc2;refine⟨h.aA U U λw h=>?_,trivial⟩;exact fin sb w ((show Ow B w0 w (ai bk (k.taken s)::aa sb c.cells::aa bd (ah bk d ec wv wk fs)::af aP fs abu::R) from Ow.bT x h.sub).sub)
theorem yV{K:O->Pw}(hk:ba abz k)(hN:abz<=200000)(hs:(k.H d.s).isSome=Z)
  (h:Ow B w0 w (aa bd (ah bk d ec wv wk fs)::af aP fs []::ai bk k::R))
  (h1:d.call.at_=0->∀w',Ow B w0 w' (aa bd (ah bk d ec wv wk fs)::af aP fs []::ai bk k::R)->K 181 w')
  (h2:d.call.at_≠0->∀fs' w',Ow B w0 w' (aa bd (ah bk d ec wv wk fs')::af aP fs' (k.gone d.s).1::ai bk (k.gone d.s).2::R)->K 0 w'):S5 bd.o K w:=by
 apply Xy;have hp:=rQ k.ae hk.xZ;have hn:=hk.ns;refine⟨_,U,_,bj (h.aE U),dE (λe=>h1 e w h) (λe=>?_)⟩;refine⟨_,U,dR (h.aR U (v8 hk hN hs (by simp only[M5];omega) h λfs' w h=>?_))⟩;exact h2 e fs' w h
theorem gd{n:O}{t:Th.rj}:(m.aJ n t).br.length=m.br.length:=by unfold Th.Mt.aJ;simp
theorem kU{n:O}:(m.cr n).br.length=m.br.length:=by unfold Th.Mt.cr Th.Mt.ib;exact gd
theorem jd{n s:O}:(m.leave n s).br.length=m.br.length:=by unfold Th.Mt.leave;rw[gd,Th.cX.1]
theorem zK{n v:O}:(m.gD n v).br.length=m.br.length:=rfl
theorem gZ{c:O}:(m.aW c).br.length=m.br.length:=by
 unfold Th.Mt.aW Th.Mt.pick;split
 .split
  .rfl
  .split
   .rw[zK,jd]
   .split
    .rfl
    .rw[zK,jd,kU,jd]
 .rfl
theorem ga{n:O}:(m.bJ n).2.br.length=m.br.length:=by
 unfold Th.Mt.bJ;split
 .rfl
 split
 .rfl
 .exact kU
theorem tY{n:O}:(m.gl n).2.br.length=m.br.length:=by
 unfold Th.Mt.gl;split
 .rfl
 split
 .rfl
 .exact jd
theorem wH{n p:O}:(m.fO n p).2.br.length=m.br.length:=by
 unfold Th.Mt.fO;split
 .rfl
 split
 .rfl
 split
 .rw[kU,gd,jd]
 .exact gd
theorem kI{n i v:O}:(m.mQ n i v).2.br.length=m.br.length:=by
 unfold Th.Mt.mQ;split
 .rfl
 split
 .rfl
 .unfold Th.Mt.zA;exact gd
theorem sw{c:O}:(m.yield c).br.length=m.br.length:=by
 unfold Th.Mt.yield;split
 .rfl
 .rw[gZ,kU,jd,gd]
theorem zV{c:O}:(m.tick c).br.length=m.br.length:=by
 unfold Th.Mt.tick;split
 .rfl
 .dsimp only
  split
  .rw[sw,gd]
  .rw[gd]
theorem lx{id:O}{K:O->Pw}(hm:Th.fH k.t)(h:Ow B w0 w (aa bd (ah bk d ec wv (-1) fs)::ai bk k::R))
  (hK:∀w',Ow B w0 w' (aa bd (ah bk d ec wv (k.dQ id).2.1 fs)::ai bk (k.dQ id).2.2::R)->K (k.dQ id).1 w'):QQ bd.o id K w:=by
 apply Zv;unfold ag.dQ at hK;dsimp only at hK;obtain⟨bt,abp,h,hc2,hback⟩:=(h.pick (A:=ai bk k)).ow;refine⟨_,U,_,h.aF U,_,U,_,hc2,Th.uL hm h λw h=>?_⟩;have h:=hback _ w _ ga h;refine dE (λe=>?_) (λe=>?_)
 .rw[qd e]at hK
  refine⟨_,U,gR (h.fK U U λw h=>?_)⟩
  (try dsimp only[bR,ah,putAt,Mf,LM,LF]at h)
  exact hK w h.sub
 .rw[F e]at hK
  exact hK w h.sub
theorem yc{K:O->Pw}(hk:ba abz k)(hN:abz<=200000)(h:Ow B w0 w (aa bd (ah bk d ec wv wk fs)::ai bk k::R))
  (hK:∀w',Ow B w0 w' (aa bd (ah bk d ec wv wk fs)::ai bk ((k.dz d.c.obj).bZ (k.t.bV d.c.obj).2)::R)->K (k.t.bV d.c.obj).1 w'):S8 bd.o K w:=by
 apply Ze;refine h.dr λw h=>?_;refine⟨_,U,_,h.aF U,_,U,_,bj (h.aE U),oq (id:=d.c.obj) h.cq ⟨LY hk.ne hN,LY hk.nn hN⟩ λw h=>?_,trivial⟩;refine h.dr λw h=>?_;obtain⟨bt,abp,h,hc2,hback⟩:=h.ow;refine⟨_,U,_,h.aF U,_,U,_,hc2,_,U,_,bj (h.aE U),Th.wM hk.inv.ok h λw h=>?_,trivial⟩;have h:Ow B w0 w (ai bk ((k.dz d.c.obj).bZ (k.t.bV d.c.obj).2)::_):=hback _ w _ (mW _ _) h;exact hK w h.sub
theorem DB{K:O->Pw}(hm:Th.fH k.t)(h:Ow B w0 w (aa bd (ah bk d ec wv wk fs)::ai bk k::R))
  (hK:∀w',Ow B w0 w' (aa bd (ah bk d ec wv wk fs)::ai bk (k.bZ (k.t.fO d.c.obj d.call.a).2)::R)->K (k.t.fO d.c.obj d.call.a).1 w'):S9 bd.o K w:=by
 apply Zf;refine h.dr λw h=>?_;obtain⟨bt,abp,h,hc2,hback⟩:=(h.pick (A:=ai bk k)).ow;refine⟨_,U,_,h.aF U,_,U,_,hc2,_,U,_,bj (h.aE U),_,U,_,bj (h.aE U),Th.It hm h λw h=>?_,trivial⟩;have h:=hback _ w _ wH h;exact hK w h.sub
theorem zC{K:O->Pw}(hk:ba abz k)(hN:abz<=200000)(h:Ow B w0 w (aa bd (ah bk d ec wv (-1) fs)::ai bk k::R))
  (hK:∀w',Ow B w0 w' (aa bd (ah bk d ec wv (k.resume d).2.1 fs)::ai bk (k.resume d).2.2::R)->K (k.resume d).1 w'):S7 bd.o K w:=by
 apply Zd;unfold ag.resume at hK;intro k2 hk2;have fin:∀(sb:X)(t:Th.rj)(w:J),t=(if k.t.cH d.c.obj then k.t.th d.c.obj else Th.GA)->Ow B w0 w (aa sb (Th.ff.enc t)::aa bd (ah bk d ec wv (-1) fs)::ai bk k::R)->k2 sb.p w:=λsb t w ht h=>by
  apply hk2;refine h.l1 U ?_;have hst:(k.t.cH d.c.obj=Z/\(k.t.th d.c.obj).st=3)↔t.st=3:=by
   rw[ht];cases hT:k.t.cH d.c.obj with
   |true=>simp
   |false=>
    have:Th.GA.st≠3:=qb
    simp[this]
  intro k6 hk6;refine dE (λe=>?_) (λe=>?_)
  .rw[qd (hst.2 e)]at hK
   refine h.dr λw h=>?_;refine⟨_,U,_,h.aF U,_,U,_,bj (h.aE U),oq (id:=d.c.obj) h.kh ⟨LY hk.ne hN,LY hk.nn hN⟩ λw h=>?_,trivial⟩;apply hk6;exact⟨_,U,_,bj (h.aE U),lx (k:=k.dz d.c.obj) hk.inv.ok (Ow.sub (L':=aa bd (ah bk d ec wv (-1) fs)::ai bk (k.dz d.c.obj)::R) h) λw h=>hK w h⟩
  .rw[F (λhh=>e (hst.1 hh))]at hK
   apply hk6;exact⟨_,U,_,bj (h.aE U),lx hk.inv.ok h.drop λw h=>hK w h⟩
 refine h.dr λw h=>?_;obtain⟨bt,abp,h,hc2,hback⟩:=(h.pick (A:=ai bk k)).ow;have hsame:k.bZ k.t=k:=rfl;refine⟨_,U,_,h.aF U,_,U,_,hc2,_,U,_,bj (h.aE U),?_,?_,trivial⟩
 .refine Th.ll h λw t ht h=>?_
  have h:=hback _ w _ U h;rw[hsame]at h;refine⟨h.al λw' h=>⟨?_,trivial⟩,trivial⟩
  generalize w.heap.size=sb at h|-;refine h.aA U U λw h=>?_;have h:Ow B w0 w (aa sb (Th.ff.enc t)::_):=h;exact fin sb t w ht h.sub
 .refine h.al λw' h=>⟨?_,trivial⟩
  generalize w.heap.size=sb at h|-;refine Th.ll h.cq λw t ht h=>?_;have h:=hback _ w _ U (h.pick (A:=abp)).cq;rw[hsame]at h;refine⟨h.aA U U λw h=>?_,trivial⟩;have h:Ow B w0 w (ai bk k::aa sb (Th.ff.enc t)::_):=h;exact fin sb t w ht h.sub
theorem rW{K:Pw}(hk:ba abz k)(h:Ow B w0 w (aa bd (ah bk d ec wv wk fs)::ai bk k::R))
  (hK:∀w',Ow B w0 w' (aa bd (ah bk d ec wv wk fs)::ai bk (k.rest d)::R)->K w'):QS bd.o K w:=by
 apply Zw;unfold ag.rest at hK;refine⟨_,U,_,bj (h.aE U),oU (λe=>?_) (λe=>?_)⟩
 .rw[qd e]at hK
  refine h.dr λw h=>?_;obtain⟨bt,abp,h,hc2,hback⟩:=(h.pick (A:=ai bk k)).ow;refine⟨_,U,_,h.aF U,_,U,_,hc2,_,U,_,h.aE U,Th.GK hk.inv.ok h λw h=>?_,trivial⟩;have h:=hback _ w _ tY h;refine h.dr λw h=>?_;obtain⟨bt,abp,h,hc2,hback⟩:=h.ow;refine⟨_,U,_,h.aF U,_,U,_,hc2,_,U,_,h.aE U,Th.iq (hk.inv.block _).ok h λw h=>?_,trivial⟩;have h:=hback _ w _ gZ h;exact hK w (Ow.sub (L:=ai bk (k.bZ ((k.t.gl d.cur).2.aW d.core))::aa bd (ah bk d ec wv wk fs)::R) h)
 .rw[F (λhh=>hh e)]at hK
  exact hK w h
theorem v7{id:O}{m:Eb}{K:Pw}(hk:ba abz k)(h:Ow B w0 w (aa bd (ah bk d ec wv wk fs)::ai bk k::R))
  (hK:∀w',Ow B w0 w' (aa bd (ah bk d ec wv wk fs)::ai bk (k.jq id m)::R)->K w'):RC bd.o id m.label m.w0 m.w1 m.w2 m.w3 m.ay m.calls K w:=by
 apply Zx;unfold ag.jq at hK;refine h.a λc0 w1 h=>?_;refine⟨_,h.aE U,_,h.aF U,qb,qb,_,bj (h.aE U),?_⟩;refine h.a λg w2 h=>?_;intro l15 hl15;have one:∀(i:X)(kk:ag)(v:O)(w:J),i<3->Th.bF (-1) kk.t->[m.ay,qv.wrap m.label,m.w0][i]?=S v->Ow B w0 w (aa g [.y m.ay,.y (qv.wrap m.label),.y m.w0]::aa bd (ah bk d ec wv wk fs)::ai bk kk::R)->
   (∀w',Ow B w0 w' (aa g [.y m.ay,.y (qv.wrap m.label),.y m.w0]::aa bd (ah bk d ec wv wk fs)::ai bk (kk.bZ (kk.t.mQ id (i:O) v).2)::R)->l15 ((i+1:X):O) w')->l15 (i:O) w:=λi kk v w hi hm hv h hnext=>by
  apply hl15;refine az om ?_;obtain⟨bt,abp,h,hc2,hback⟩:=(h.pick (A:=ai bk kk)).ow;have hcell:w.cell? (g.p.add ((show O from i).toNat*1))=S (.y v):=by
   refine h.aE ?_;have:i=0\/i=1\/i=2:=om
   rcases this with rfl|rfl|rfl<;>(simp at hv;subst hv;rfl)
  refine⟨_,U,om,om,_,hcell,_,U,_,h.aF U,_,U,_,hc2,Th.HU hm.ok h λw h=>?_⟩;have h:=hback _ w _ kI h;rw[wI i om];exact hnext w h.sub
 refine one 0 k m.ay w2 qb hk.inv U h.uN λw h=>?_;refine one 1 _ _ w qb (hk.inv.zA _ _ _) U h λw h=>?_;refine one 2 _ _ w qb ((hk.inv.zA _ _ _).zA _ _ _) U h λw h=>?_;apply hl15;refine aw qb ?_;exact hK w h.drop
theorem ba.fB(hk:ba abz k){n:O}(h0:0<=n)(h1:n<(k.ends.length:O)):k.ends[n.toNat]?=S (k.fB n)/\(k.fB n).l.length<=abz:=by have hx:k.ends[n.toNat]?=S k.ends[n.toNat]:=gE om;unfold ag.fB;rw[hx];exact⟨U,hk.el _ (Mq _)⟩
theorem ba.ju(hk:ba abz k){n:O}(h0:0<=n)(h1:n<(k.notes.length:O)):k.notes[n.toNat]?=S (k.ju n)/\(k.ju n).l.length<=abz:=by have hx:k.notes[n.toNat]?=S k.notes[n.toNat]:=gE om;unfold ag.ju;rw[hx];exact⟨U,hk.nl _ (Mq _)⟩
theorem ba.iB(hk:ba abz k){n:O}(h0:0<=n)(h1:n<(k.ae.length:O)):k.ae[n.toNat]?=S (k.iB n)/\Tb.eZ (k.iB n):=by have hx:k.ae[n.toNat]?=S k.ae[n.toNat]:=gE om;unfold ag.iB;rw[hx];exact⟨U,hk.xZ _ (Mq _)⟩
theorem yY(p:eB)(t:W):(p.first t).2.l.length<=p.l.length:=by
 unfold eB.first
 split
 .exact Lv _
 .rename_i o r e
  split
  .dsimp only;rw[e];simp
  .exact Lv _
theorem xW(p:eB)(n:O)(m:Eb)(wt:W):(p.send n m wt).2.2.l.length<=p.l.length+1:=by
 have:=yY p G;unfold eB.send;split
 .exact MY _
 split
 .rename_i h;rw[h]at this;dsimp only at this|-;omega
 .split
  .simp
  .exact MY _
theorem xS(p:eB)(n:O)(wt:W):(p.recv n wt).2.2.l.length<=p.l.length+1:=by
 have:=yY p Z;unfold eB.recv;split
 .exact MY _
 split
 .rename_i h;rw[h]at this;dsimp only at this|-;omega
 .split
  .simp
  .exact MY _
theorem ba.eA(hk:ba abz k){n:O}{p:eB}(hp:p.l.length<=abz+1):ba (abz+1) (k.eA n p):=by
 have hM:=hk.mono (MY abz);have hG:Gr k (k.eA n p):=⟨Lv _,Lv _,Lv _,by simp[ag.eA],Lv _,Lv _,Lv _,Lv _⟩
 refine hM.same (k':=k.eA n p) U U U hG hk.inv hk.ln hk.Ee hk.u hk.xZ hM.nu (by simpa [ag.eA]using hM.ne) hM.nn hM.ns hM.nf hM.nt (λq hq=>?_) hM.nl;rcases Mz hq with hq|hq
 .exact hM.el q hq
 .rw[hq];exact hp
theorem ba.iO(hk:ba abz k){n:O}{p:nO}(hp:p.l.length<=abz+1):ba (abz+1) (k.iO n p):=by
 have hM:=hk.mono (MY abz);have hG:Gr k (k.iO n p):=⟨Lv _,Lv _,Lv _,Lv _,by simp[ag.iO],Lv _,Lv _,Lv _⟩
 refine hM.same (k':=k.iO n p) U U U hG hk.inv hk.ln (λx hx hx2=>by have:=hk.Ee x hx hx2;simpa [ag.iO]using this) hk.u hk.xZ hM.nu hM.ne (by simpa [ag.iO]using hM.nn) hM.ns hM.nf hM.nt hM.el (λq hq=>?_);rcases Mz hq with hq|hq
 .exact hM.nl q hq
 .rw[hq];exact hp
theorem ba.jq(hk:ba abz k){id:O}{m:Eb}:ba abz (k.jq id m):=
 hk.bZ (((hk.inv.zA _ _ _).zA _ _ _).zA _ _ _) (by rw[kI,kI,kI];exact Lv _)
theorem ba.rest(hk:ba abz k):ba abz (k.rest d):=by
 unfold ag.rest;split
 .exact hk.bZ ((hk.inv.block _).aW _) (by rw[gZ,tY];exact Lv _)
 .exact hk
theorem ba.dQ(hk:ba abz k)(id:O):ba abz (k.dQ id).2.2:=hk.bZ (hk.inv.resume id) (by rw[ga];exact Lv _)
abbrev Im(x:Met):Y Q:=[.bool x.is,.z x.EY,.z x.to,.z x.m.label,.y x.m.w0,.y x.m.w1,.y x.m.w2,.y x.m.w3,.y x.m.ay,.bool x.m.calls]
theorem DT{K:O->Pw}(hk:ba abz k)(hN:abz<=200000)(h0:0<=d.c.obj)(h1:d.c.obj<(k.ends.length:O))(h:Ow B w0 w (aa bd (ah bk d ec 0 (-1) fs)::ai bk k::R))
  (hK:∀w',Ow B w0 w' (aa bd (ah bk d ec 0 (k.send d).1.dY fs)::ai bk (k.send d).2::R)->K (k.send d).1.e w'):Ta bd.o K w:=by
 apply Zg;obtain⟨hp,hpl⟩:=hk.fB h0 h1;have hse:=xW (k.fB d.c.obj) d.cur (ag.eN d) (d.call.c !=0);have hkE:=hk.eA (n:=d.c.obj) (p:=((k.fB d.c.obj).send d.cur (ag.eN d) (d.call.c !=0)).2.2) om;unfold ag.send at hK;refine h.dr λw h=>?_;refine⟨_,U,_,bj (h.aE U),_,U,_,bj (h.aE U),_,U,_,bj (h.aE U),h.al λw1 h=>⟨?_,trivial⟩,trivial⟩
 generalize w.heap.size=cm at h|-;refine h.aA U U λw h=>?_;intro k11 hk11;have fin:∀(sb:X)(x:Met)(w:J),x=((k.fB d.c.obj).send d.cur (ag.eN d) (d.call.c !=0)).1->Ow B w0 w (aa sb (Im x)::aa bd (ah bk d ec 0 (-1) fs)::ai bk (k.eA d.c.obj ((k.fB d.c.obj).send d.cur (ag.eN d) (d.call.c !=0)).2.2)::R)->k11 sb.p ((k.fB d.c.obj).send d.cur (ag.eN d) (d.call.c !=0)).2.1 w:=λsb x w hx h=>by
  apply hk11;generalize (k.fB d.c.obj).send d.cur (ag.eN d) (d.call.c !=0)=P at hx h hK hkE|-;obtain⟨y,e,p'⟩:=P;dsimp only at hx h hK hkE|-;subst hx;by_cases he:e≠0
  .rw[qd he]at hK
   exact iv he (hK w h.drop)
  rw[F he]at hK;refine fa om (h.l1 U ?_);cases hi:x.is with
  |false=>
   rw[qd hi]at hK;refine bh U ?_;refine rW hkE h.drop λw h=>?_;exact hK w h
  |true=>
   rw[F (by rw[hi];decide)]at hK;refine bc U (h.l2 U ?_);refine dR (h.xw U ?_);refine v7 (id:=x.to) (m:=x.m) hkE ((h.pick (A:=ai bk (k.eA d.c.obj p'))).pick (A:=aa bd (ah bk d ec 0 (-1) fs))) λw h=>?_;refine h.l2 U ?_;have hK2:∀w',Ow B w0 w' (aa bd (ah bk d ec 0 (((k.eA d.c.obj p').jq x.to x.m).dQ x.to).2.1 fs)::ai bk (((k.eA d.c.obj p').jq x.to x.m).dQ x.to).2.2::R)->K (((k.eA d.c.obj p').jq x.to x.m).dQ x.to).1 w':=hK;refine lx hkE.jq.inv.ok h λw h=>?_;exact hK2 w h.sub
 refine h.dr λw h=>?_;obtain⟨ss,ps,abp,h,hc2,hpn,hback⟩:=(h.pick (A:=ai bk k)).Fa;have hq:ps[d.c.obj.toNat]?=S ps[d.c.obj.toNat]:=gE om;generalize ps[d.c.obj.toNat]=pp at hq;refine⟨_,U,_,h.aF U,_,U,ss,hc2,_,U,_,bj (h.aE U),dG (s:=ss) (i:=d.c.obj) (j:=d.c.obj.toNat) h om hq λa ha hc=>⟨_,hc,?_⟩⟩
 refine⟨_,U,h.l2 U (h.xw U ⟨_,U,_,bj (h.aE U),?_,?_,trivial⟩)⟩
 .have h:=(h.pick (A:=au ck ps k.ends)).s8 hq hp
  refine jm (m:=ag.eN d) om h λw x hx h=>?_;have h:=(h.cd hpn hq).cq;have h:Ow B w0 w (ai bk (k.eA d.c.obj ((k.fB d.c.obj).send d.cur (ag.eN d) (d.call.c !=0)).2.2)::_):=hback _ w _ h;refine⟨h.al λw' h=>⟨?_,trivial⟩,trivial⟩
  generalize w.heap.size=sb at h|-;refine h.aA U U λw h=>?_;exact fin sb x w hx h.sub
 .refine h.al λw' h=>⟨?_,trivial⟩
  generalize w.heap.size=sb at h|-;have h:=(h.pick (A:=au ck ps k.ends)).s8 hq hp;refine jm (m:=ag.eN d) om h λw x hx h=>?_;have h:=(h.cd hpn hq)
  have h:Ow B w0 w (ai bk (k.eA d.c.obj ((k.fB d.c.obj).send d.cur (ag.eN d) (d.call.c !=0)).2.2)::_):=hback _ w _ (h.pick (A:=abp)).cq.vd;refine⟨h.aA U U λw h=>?_,trivial⟩;exact fin sb x w hx h.sub
theorem DM{K:O->Pw}(hk:ba abz k)(hN:abz<=200000)(h0:0<=d.c.obj)(h1:d.c.obj<(k.ends.length:O))(h:Ow B w0 w (aa bd (ah bk d ec 0 (-1) fs)::ai bk k::R))
  (hK:∀w',Ow B w0 w' (aa bd (ah bk d ec 0 (k.recv d).1.dY fs)::ai bk (k.recv d).2::R)->K (k.recv d).1.e w'):Tc bd.o K w:=by
 apply Zh;obtain⟨hp,hpl⟩:=hk.fB h0 h1;have hse:=xS (k.fB d.c.obj) d.cur (d.call.c !=0);have hkE:=hk.eA (n:=d.c.obj) (p:=((k.fB d.c.obj).recv d.cur (d.call.c !=0)).2.2) om;unfold ag.recv at hK;intro k11 hk11;have fin:∀(sb:X)(x:Met)(w:J),x=((k.fB d.c.obj).recv d.cur (d.call.c !=0)).1->Ow B w0 w (aa sb (Im x)::aa bd (ah bk d ec 0 (-1) fs)::ai bk (k.eA d.c.obj ((k.fB d.c.obj).recv d.cur (d.call.c !=0)).2.2)::R)->k11 sb.p ((k.fB d.c.obj).recv d.cur (d.call.c !=0)).2.1 w:=λsb x w hx h=>by
  apply hk11;generalize (k.fB d.c.obj).recv d.cur (d.call.c !=0)=P at hx h hK hkE|-;obtain⟨y,e,p'⟩:=P;dsimp only at hx h hK hkE|-;subst hx;by_cases he:e≠0
  .rw[qd he]at hK
   exact iv he (hK w h.drop)
  rw[F he]at hK;refine fa om (h.l1 U ?_);cases hi:x.is with
  |false=>
   rw[qd hi]at hK;refine bh U ?_;refine rW hkE h.drop λw h=>?_;exact hK w h
  |true=>
   rw[F (by rw[hi];decide)]at hK;refine bc U ?_;refine h.dr λw h=>?_;refine⟨_,U,h.l2 U (dR (h.xw U ⟨v7 (id:=d.cur) (m:=x.m) hkE ((h.pick (A:=ai bk (k.eA d.c.obj p'))).pick (A:=aa bd (ah bk d ec 0 (-1) fs))) λw h=>?_,trivial⟩))⟩;refine h.l2 U ?_;have hK2:∀w',Ow B w0 w' (aa bd (ah bk d ec 0 (((k.eA d.c.obj p').jq d.cur x.m).dQ x.EY).2.1 fs)::ai bk (((k.eA d.c.obj p').jq d.cur x.m).dQ x.EY).2.2::R)->K (((k.eA d.c.obj p').jq d.cur x.m).dQ x.EY).1 w':=hK;refine lx hkE.jq.inv.ok h λw h=>?_;exact hK2 w h.sub
 refine h.dr λw h=>?_;obtain⟨ss,ps,abp,h,hc2,hpn,hback⟩:=(h.pick (A:=ai bk k)).Fa;have hq:ps[d.c.obj.toNat]?=S ps[d.c.obj.toNat]:=gE om;generalize ps[d.c.obj.toNat]=pp at hq;refine⟨_,U,_,h.aF U,_,U,ss,hc2,_,U,_,bj (h.aE U),dG (s:=ss) (i:=d.c.obj) (j:=d.c.obj.toNat) h om hq λa ha hc=>⟨_,hc,?_⟩⟩
 refine⟨_,U,_,h.aE U,_,U,_,bj (h.aE U),?_,?_,trivial⟩
 .have h:=(h.pick (A:=au ck ps k.ends)).s8 hq hp
  refine jl om h λw x hx h=>?_;have h:=(h.cd hpn hq).cq;have h:Ow B w0 w (ai bk (k.eA d.c.obj ((k.fB d.c.obj).recv d.cur (d.call.c !=0)).2.2)::_):=hback _ w _ h;refine⟨h.al λw' h=>⟨?_,trivial⟩,trivial⟩
  generalize w.heap.size=sb at h|-;refine h.aA U U λw h=>?_;exact fin sb x w hx h.sub
 .refine h.al λw' h=>⟨?_,trivial⟩
  generalize w.heap.size=sb at h|-;have h:=(h.pick (A:=au ck ps k.ends)).s8 hq hp;refine jl om h λw x hx h=>?_;have h:=(h.cd hpn hq)
  have h:Ow B w0 w (ai bk (k.eA d.c.obj ((k.fB d.c.obj).recv d.cur (d.call.c !=0)).2.2)::_):=hback _ w _ (h.pick (A:=abp)).cq.vd;refine⟨h.aA U U λw h=>?_,trivial⟩;exact fin sb x w hx h.sub
theorem DX(n:nO)(g:O):(n.bm g).2.l.length<=n.l.length:=by
 unfold nO.bm;split
 .rename_i x r e;dsimp only;rw[e];simp
 .rename_i e;dsimp only;rw[e];simp
theorem yk(n:nO)(who:O)(wt:W):(n.wait who wt).2.l.length<=n.l.length+1:=by
 unfold nO.wait;split
 .exact MY _
 split
 .exact MY _
 .dsimp only
  split
  .simp
  .exact MY _
theorem mU{n g:O}{K:O->Pw}(hk:ba abz k)(hN:abz<=200000)(h0:0<=n)(h1:n<(k.notes.length:O))(h:Ow B w0 w (ai bk k::R))
  (hK:∀w',Ow B w0 w' (ai bk (k.bm n g).2::R)->K (k.bm n g).1 w'):Qz bk.o n g K w:=by
 apply Xk;obtain⟨hp,hpl⟩:=hk.ju h0 h1;unfold ag.bm at hK;obtain⟨ss,ps,abp,h,hc2,hpn,hback⟩:=h.A5;have hq:ps[n.toNat]?=S ps[n.toNat]:=gE om;generalize ps[n.toNat]=pp at hq;refine⟨_,U,ss,hc2,dG (s:=ss) (i:=n) (j:=n.toNat) h om hq λa ha hc=>⟨_,hc,?_⟩⟩
 have h:=(h.pick (A:=au bL ps k.notes)).s8 hq hp;refine oE h λw h=>?_;have h:=(h.cd hpn hq).cq;have h:Ow B w0 w (ai bk (k.iO n ((k.ju n).bm g).2)::R):=hback _ w _ h;cases hs:((k.ju n).bm g).1 with
 |none=>
  rw[hs]at hK;exact bh U (hK w h)
 |some who=>
  rw[hs]at hK;refine bc U ?_;obtain⟨bt,abp,h,hc2,hback⟩:=h.ow;refine⟨_,U,_,hc2,Th.HU hk.inv.ok h λw h=>?_⟩;have h:=hback _ w _ kI h;obtain⟨bt,abp,h,hc2,hback⟩:=h.ow;refine⟨_,U,_,hc2,Th.uL (hk.inv.zA _ _ _).ok h λw h=>?_⟩;have h:=hback _ w _ ga h;exact hK w h
theorem uS{K:O->Pw}(hk:ba abz k)(hN:abz<=200000)(h0:0<=d.c.obj)(h1:d.c.obj<(k.notes.length:O))(h:Ow B w0 w (aa bd (ah bk d ec wv wk fs)::ai bk k::R))
  (hK:∀w',Ow B w0 w' (aa bd (ah bk d ec wv (k.bm d.c.obj d.c.ay).1 fs)::ai bk (k.bm d.c.obj d.c.ay).2::R)->K 0 w'):Td bd.o K w:=by
 apply Zi;refine h.dr λw h=>?_;refine⟨_,U,_,h.aF U,_,U,_,bj (h.aE U),_,U,_,bj (h.aE U),mU hk hN h0 h1 h.cq λw h=>?_,trivial⟩;refine⟨_,U,gR (h.fK U U λw h=>?_),trivial⟩
 (try dsimp only[bR,ah,putAt,Mf,LM,LF]at h)
 exact hK w h.sub
theorem D8{K:O->Pw}(hk:ba abz k)(hN:abz<=200000)(h0:0<=d.c.obj)(h1:d.c.obj<(k.notes.length:O))(h:Ow B w0 w (aa bd (ah bk d ec 0 wk fs)::ai bk k::R))
  (hK:∀w',Ow B w0 w' (aa bd (ah bk d ec (k.wait d).1.w wk fs)::ai bk (k.wait d).2::R)->K (k.wait d).1.e w'):Te bd.o K w:=by
 apply Zj;obtain⟨hp,hpl⟩:=hk.ju h0 h1;have hwl:=yk (k.ju d.c.obj) d.cur (d.call.c !=0);have hkN:=hk.iO (n:=d.c.obj) (p:=((k.ju d.c.obj).wait d.cur (d.call.c !=0)).2) om;unfold ag.wait at hK;refine h.dr λw h=>?_;obtain⟨ss,ps,abp,h,hc2,hpn,hback⟩:=(h.pick (A:=ai bk k)).A5;have hq:ps[d.c.obj.toNat]?=S ps[d.c.obj.toNat]:=gE om;generalize ps[d.c.obj.toNat]=pp at hq;refine⟨_,U,_,h.aF U,_,U,ss,hc2,_,U,_,bj (h.aE U),dG (s:=ss) (i:=d.c.obj) (j:=d.c.obj.toNat) h om hq λa ha hc=>⟨_,hc,?_⟩⟩
 refine⟨_,U,_,h.aE U,_,U,_,bj (h.aE U),?_,trivial⟩;have h:=(h.pick (A:=au bL ps k.notes)).s8 hq hp;refine rN om h λw h=>?_;have h:=(h.cd hpn hq).cq;have h:Ow B w0 w (ai bk (k.iO d.c.obj ((k.ju d.c.obj).wait d.cur (d.call.c !=0)).2)::aa bd (ah bk d ec 0 wk fs)::R):=hback _ w _ h;generalize (k.ju d.c.obj).wait d.cur (d.call.c !=0)=P at h hK hkN|-;obtain⟨⟨y,is,e⟩,p'⟩:=P;dsimp only at h hK hkN|-;by_cases he:e≠0
 .rw[qd he]at hK
  exact iv he (hK w h.cq)
 rw[F he]at hK;refine fa om ?_;intro k19 hk19;have fin:∀(k':ag)(w:J),(∀w',Ow B w0 w' (aa bd (ah bk d ec y wk fs)::ai bk k'::R)->K 0 w')->Ow B w0 w (aa bd (ah bk d ec 0 wk fs)::ai bk k'::R)->k19 w:=λk' w hK h=>by
  apply hk19;refine⟨_,U,gR (h.fK U U λw h=>?_)⟩
  (try dsimp only[bR,ah,putAt,Mf,LM,LF]at h)
  exact hK w h
 cases is with
 |false=>
  refine bh U ?_;refine rW hkN h.cq λw h=>?_;exact fin _ w (λw' h=>hK w' h) h
 |true=>
  refine bc U ?_;exact fin _ w (λw' h=>hK w' h) h.cq
theorem BP{K:O->Pw}(hk:ba abz k)(h:Ow B w0 w (aa bd (ah bk d ec wv wk fs)::ai bk k::R))
  (hK:∀w',Ow B w0 w' (aa bd (ah bk d ec wv wk fs)::ai bk (k.table d).2::R)->K (k.table d).1.e w'):Tf bd.o K w:=by
 apply Zk;unfold ag.table at hK;intro k2 hk2;have fbad:k.dn d.call.ao 8=G->∀(sb:qg)(w:J),Ow B w0 w (aa bd (ah bk d ec wv wk fs)::ai bk k::R)->k2 sb G w:=λhB sb w h=>by rw[qd hB]at hK;apply hk2;exact bh U (hK w h)
 have fgood:k.dn d.call.ao 8=Z->∀(sb:X)(c:cN)(w:J),c=k.aZ d.call.ao->Ow B w0 w (aa sb c.cells::aa bd (ah bk d ec wv wk fs)::ai bk k::R)->k2 sb.p Z w:=λhB sb c w hc h=>by
  rw[F (by rw[hB];decide)]at hK;dsimp only[ag.tell]at hK;obtain⟨hb1,hb2⟩:=gT hB;obtain⟨_,_,ho,_,_⟩:=hk.cap hb1;rw[<-hc]at ho hb2 hK;have o0:=ho.1;have o1:=ho.2.2.2.2.2.2.2.2.1 (hb2 qb);obtain⟨hp,hsk⟩:=hk.iB o0 o1;apply hk2;refine bc U ?_;refine h.dr λw h=>?_;obtain⟨ss,ps,abp,h,hc2,hpn,hback⟩:=(h.pick (A:=ai bk k)).ny;have hq:ps[c.obj.toNat]?=S ps[c.obj.toNat]:=gE om;generalize ps[c.obj.toNat]=pp at hq;refine⟨_,U,_,h.aF U,_,U,ss,hc2,h.l2 U (dG (s:=ss) (i:=c.obj) (j:=c.obj.toNat) h om hq λa ha hcc=>⟨_,hcc,?_⟩)⟩
  refine⟨_,U,_,bj (h.aE U),_,U,_,bj (h.aE U),?_,trivial⟩;have h:=(h.pick (A:=au Tb.bC ps k.ae)).s8 hq hp;refine Tb.Au h λw h=>?_;have h:=(h.cd hpn hq).cq;have h:Ow B w0 w (ai bk (k.pX c.obj ((k.iB c.obj).iQ d.call.a d.c.obj).2)::_):=hback _ w _ h;exact hK w h.sub
 refine h.dr λw h=>?_;refine⟨_,U,_,h.aF U,_,U,_,bj (h.aE U),?_⟩
 (repeat' (first|exact trivial|(exact fbad (by assumption) _ _ h.sub)|(exact fgood (by assumption) _ _ _ (by assumption) h.sub)|(refine nq hk (h.pick (A:=ai bk k)) (λhB s c w h=>?_) (λhB w c hc h=>?_))|(refine h.al λw h=>?_)|(refine h.dr λw h=>?_)|(refine h.aR U ?_)|(refine h.dx U ?_)|(refine h.l1 U ?_)|(refine h.l2 U ?_)|(refine h.hd U ?_)|(refine⟨h.aF U,?_⟩)|(refine⟨h.aE U,?_⟩)|((refine h.aA U U λw h=>?_);(try dsimp only[putAt,Mf,LM]at h))|(refine eE ?_)|(refine _root_.Go.Vc.a2 ?_)|(refine h.jH U U λw h=>?_)|(refine h.fK U U λw h=>?_)|(refine And.intro ?_ ?_)))
theorem zj{K:O->Pw}(hk:ba abz k)(h:Ow B w0 w (aa bd (ah bk d ec wv wk fs)::ai bk k::R))
  (hK:∀w',Ow B w0 w' (aa bd (ah bk d ec wv wk fs)::ai bk (k.mapped d).2::R)->K (k.mapped d).1.e w'):Tg bd.o K w:=by
 apply Zl;unfold ag.mapped at hK;intro k2 hk2;have fbad:k.dn d.call.ao 8=G->∀(sb:qg)(w:J),Ow B w0 w (aa bd (ah bk d ec wv wk fs)::ai bk k::R)->k2 sb G w:=λhB sb w h=>by rw[qd hB]at hK;apply hk2;exact bh U (hK w h)
 have fgood:k.dn d.call.ao 8=Z->∀(sb:X)(c:cN)(w:J),c=k.aZ d.call.ao->Ow B w0 w (aa sb c.cells::aa bd (ah bk d ec wv wk fs)::ai bk k::R)->k2 sb.p Z w:=λhB sb c w hc h=>by
  rw[F (by rw[hB];decide)]at hK;dsimp only[ag.tell]at hK;obtain⟨hb1,hb2⟩:=gT hB;obtain⟨_,_,ho,_,_⟩:=hk.cap hb1;rw[<-hc]at ho hb2 hK;have o0:=ho.1;have o1:=ho.2.2.2.2.2.2.2.2.1 (hb2 qb);obtain⟨hp,hsk⟩:=hk.iB o0 o1;apply hk2;refine bc U ?_;refine h.dr λw h=>?_;obtain⟨ss,ps,abp,h,hc2,hpn,hback⟩:=(h.pick (A:=ai bk k)).ny;have hq:ps[c.obj.toNat]?=S ps[c.obj.toNat]:=gE om;generalize ps[c.obj.toNat]=pp at hq;refine⟨_,U,_,h.aF U,_,U,ss,hc2,h.l2 U (dG (s:=ss) (i:=c.obj) (j:=c.obj.toNat) h om hq λa ha hcc=>⟨_,hcc,?_⟩)⟩
  have h:=(h.pick (A:=au Tb.bC ps k.ae)).s8 hq hp;have fin:∀w,Ow B w0 w (Tb.bC pp ((k.iB c.obj).pJ d.call.a (d.c.obj,di .i64 d.c.ar d.call.b)).2::cj ((Lx Tb.bC ps k.ae).eraseIdx c.obj.toNat)::af bS ss ps::abp::aa bd (ah bk d ec wv wk fs)::R)->K ((k.iB c.obj).pJ d.call.a (d.c.obj,di .i64 d.c.ar d.call.b)).1 w:=λw h=>by have h:=(h.cd hpn hq).cq;have h:Ow B w0 w (ai bk (k.pX c.obj ((k.iB c.obj).pJ d.call.a (d.c.obj,di .i64 d.c.ar d.call.b)).2)::_):=hback _ w _ h;exact hK w h.sub
  have go:∀w,Ow B w0 w (Tb.bC pp (k.iB c.obj)::cj ((Lx Tb.bC ps k.ae).eraseIdx c.obj.toNat)::af bS ss ps::abp::aa bd (ah bk d ec wv wk fs)::R)->RE pp.o d.call.a d.c.obj (di .i64 d.c.ar d.call.b) (λr w=>K r w) w:=λw h=>Tb.En (p:=(d.c.obj,di .i64 d.c.ar d.call.b)) h λw h=>fin w h;have rd:∀{w:J},Ow B w0 w (aa bd (ah bk d ec wv wk fs)::R)->I:=λ_=>trivial;refine⟨_,U,_,bj (h.aE U),_,U,_,bj (h.aE U),_,U,_,bj (h.aE U),_,U,_,bj (h.aE U),?_⟩
  (repeat' (first|exact trivial|(exact go _ h.sub)|(refine h.al λw h=>?_)|(refine h.dr λw h=>?_)|(refine h.aR U ?_)|(refine h.dx U ?_)|(refine h.l1 U ?_)|(refine h.l2 U ?_)|(refine h.hd U ?_)|(refine⟨h.aF U,?_⟩)|(refine⟨h.aE U,?_⟩)|((refine h.aA U U λw h=>?_);(try dsimp only[putAt,Mf,LM]at h))|(refine eE ?_)|(refine _root_.Go.Vc.a2 ?_)|(refine h.jH U U λw h=>?_)|(refine h.fK U U λw h=>?_)|(refine And.intro ?_ ?_)))
 refine h.dr λw h=>?_;refine⟨_,U,_,h.aF U,_,U,_,bj (h.aE U),?_⟩
 (repeat' (first|exact trivial|(exact fbad (by assumption) _ _ h.sub)|(exact fgood (by assumption) _ _ _ (by assumption) h.sub)|(refine nq hk (h.pick (A:=ai bk k)) (λhB s c w h=>?_) (λhB w c hc h=>?_))|(refine h.al λw h=>?_)|(refine h.dr λw h=>?_)|(refine h.aR U ?_)|(refine h.dx U ?_)|(refine h.l1 U ?_)|(refine h.l2 U ?_)|(refine h.hd U ?_)|(refine⟨h.aF U,?_⟩)|(refine⟨h.aE U,?_⟩)|((refine h.aA U U λw h=>?_);(try dsimp only[putAt,Mf,LM]at h))|(refine eE ?_)|(refine _root_.Go.Vc.a2 ?_)|(refine h.jH U U λw h=>?_)|(refine h.fK U U λw h=>?_)|(refine And.intro ?_ ?_)))
theorem CX{K:O->Pw}(hk:ba abz k)(h:Ow B w0 w (aa bd (ah bk d ec wv wk fs)::ai bk k::R))
  (hK:∀w',Ow B w0 w' (aa bd (ah bk d ec wv wk fs)::ai bk (k.bind d).2::R)->K (k.bind d).1.e w'):Tj bd.o K w:=by
 apply Zn;unfold ag.bind at hK;intro k2 hk2;have fbad:k.dn d.call.ao 5=G->∀(sb:qg)(w:J),Ow B w0 w (aa bd (ah bk d ec wv wk fs)::ai bk k::R)->k2 sb G w:=λhB sb w h=>by rw[qd hB]at hK;apply hk2;exact bh U (hK w h)
 have fgood:k.dn d.call.ao 5=Z->∀(sb:X)(c:cN)(w:J),c=k.aZ d.call.ao->Ow B w0 w (aa sb c.cells::aa bd (ah bk d ec wv wk fs)::ai bk k::R)->k2 sb.p Z w:=λhB sb c w hc h=>by
  rw[F (by rw[hB];decide)]at hK;dsimp only[ag.tell]at hK;rw[<-hc]at hK;apply hk2;refine bc U ?_;refine h.dr λw h=>?_;obtain⟨bl,abp,h,hc2,hback⟩:=(h.pick (A:=ai bk k)).AZ;refine⟨_,U,_,h.aF U,_,U,_,hc2,_,U,_,bj (h.aE U),_,h.aE U,_,h.aE U,vA h λw h=>?_,trivial⟩;have h:=hback _ w _ h;exact hK w (Ow.sub (L:=ai bk { k with ln:=(mc k.ln d.c.obj c.obj c.ay).2}::aa sb c.cells::aa bd (ah bk d ec wv wk fs)::R) h)
 refine h.dr λw h=>?_;refine⟨_,U,_,h.aF U,_,U,_,bj (h.aE U),?_⟩
 (repeat' (first|exact trivial|(exact fbad (by assumption) _ _ h.sub)|(exact fgood (by assumption) _ _ _ (by assumption) h.sub)|(refine nq hk (h.pick (A:=ai bk k)) (λhB s c w h=>?_) (λhB w c hc h=>?_))|(refine h.al λw h=>?_)|(refine h.dr λw h=>?_)|(refine h.aR U ?_)|(refine h.dx U ?_)|(refine h.l1 U ?_)|(refine h.l2 U ?_)|(refine h.hd U ?_)|(refine⟨h.aF U,?_⟩)|(refine⟨h.aE U,?_⟩)|((refine h.aA U U λw h=>?_);(try dsimp only[putAt,Mf,LM]at h))|(refine eE ?_)|(refine _root_.Go.Vc.a2 ?_)|(refine h.jH U U λw h=>?_)|(refine h.fK U U λw h=>?_)|(refine And.intro ?_ ?_)))
theorem BQ{K:O->Pw}(hk:ba abz k)(h0:0<=d.c.obj)(h1:d.c.obj<(k.ae.length:O))(h:Ow B w0 w (aa bd (ah bk d ec wv wk fs)::af aP fs []::ai bk k::R))
  (hK:∀fs' w',Ow B w0 w' (aa bd (ah bk d ec wv wk fs')::af aP fs' (k.lL d).1.forget::ai bk (k.lL d).2::R)->K (k.lL d).1.e w'):Ti bd.o K w:=by
 apply Zm;unfold ag.lL at hK;obtain⟨hp,hsk⟩:=hk.iB h0 h1;intro k2 hk2;have fin:∀(sb:X)(w:J),Ow B w0 w (aa sb [.z ((k.iB d.c.obj).cg d.call.a).1.1,.z ((k.iB d.c.obj).cg d.call.a).1.2]::aa bd (ah bk d ec wv wk fs)::af aP fs []::ai bk (k.pX d.c.obj ((k.iB d.c.obj).cg d.call.a).2.2)::R)->k2 sb.p ((k.iB d.c.obj).cg d.call.a).2.1 w:=λsb w h=>by
  apply hk2;dsimp only at hK;refine dE (λe=>?_) (λe=>?_)
  .rw[qd e]at hK
   refine h.dr λw h=>?_;refine⟨_,U,_,bj (h.aE U),_,U,_,bj (h.aE U),h.aR U ⟨kS (sp:=d.c.obj) (l:=(d.call.a,((k.iB d.c.obj).cg d.call.a).1)) (abu:=[]) qc ((h.pick (A:=af aP fs [])).pick (A:=aa bd (ah bk d ec wv wk fs))) λfs' w h=>?_,trivial⟩⟩;exact hK fs' w (Ow.sub (L:=aa bd (ah bk d ec wv wk fs')::af aP fs' [⟨d.c.obj,d.call.a,((k.iB d.c.obj).cg d.call.a).1.1,((k.iB d.c.obj).cg d.call.a).1.2⟩]::aa sb [.z ((k.iB d.c.obj).cg d.call.a).1.1,.z ((k.iB d.c.obj).cg d.call.a).1.2]::ai bk (k.pX d.c.obj ((k.iB d.c.obj).cg d.call.a).2.2)::R) h)
  .rw[F e]at hK
   exact hK fs w h.drop
 refine h.dr λw h=>?_;obtain⟨ss,ps,abp,h,hc2,hpn,hback⟩:=(h.pick (A:=ai bk k)).ny;have hq:ps[d.c.obj.toNat]?=S ps[d.c.obj.toNat]:=gE om;generalize ps[d.c.obj.toNat]=pp at hq;refine⟨_,U,_,h.aF U,_,U,ss,hc2,_,U,_,bj (h.aE U),dG (s:=ss) (i:=d.c.obj) (j:=d.c.obj.toNat) h om hq λa ha hcc=>⟨_,hcc,?_⟩⟩
 refine⟨_,U,_,bj (h.aE U),?_,?_,trivial⟩
 .have h:=(h.pick (A:=au Tb.bC ps k.ae)).s8 hq hp
  refine Tb.od h λw h=>?_;have h:=(h.cd hpn hq).cq;have h:Ow B w0 w (ai bk (k.pX d.c.obj ((k.iB d.c.obj).cg d.call.a).2.2)::_):=hback _ w _ h;refine⟨h.al λw' h=>⟨?_,trivial⟩,trivial⟩
  generalize w.heap.size=sb at h|-;refine h.aA U U λw h=>?_;exact fin sb w h.sub
 .refine h.al λw' h=>⟨?_,trivial⟩
  generalize w.heap.size=sb at h|-;have h:=(h.pick (A:=au Tb.bC ps k.ae)).s8 hq hp;refine Tb.od h λw h=>?_;have h:=(h.cd hpn hq)
  have h:Ow B w0 w (ai bk (k.pX d.c.obj ((k.iB d.c.obj).cg d.call.a).2.2)::_):=hback _ w _ (h.pick (A:=abp)).cq.vd;refine⟨h.aA U U λw h=>?_,trivial⟩;exact fin sb w h.sub
theorem ba.A7(hk:ba abz k){n:O}{x:Ln}(hx:jK k.ln n=S x):x∈k.ln:=L4 (pH hx).2
theorem oN(hk:ba abz k){n:O}{y:O × O}(h:(eI k.ln n).1.1=S y):0<=y.1/\y.1<(k.notes.length:O):=by
 unfold eI at h;cases hx:jK k.ln n with
 |none=>rw[hx]at h;cases h
 |some x=>
  rw[hx]at h;dsimp only at h;split at h
  .rename_i e
   cases h;exact hk.Ee x (hk.A7 hx) om
  .split at h<;>cases h
theorem tV(hk:ba abz k){n:O}{y:O × O}(h:(iu k.ln n).1.1=S y):0<=y.1/\y.1<(k.notes.length:O):=by
 unfold iu at h;cases hx:jK k.ln n with
 |none=>rw[hx]at h;cases h
 |some x=>
  rw[hx]at h;dsimp only at h;split at h
  .rename_i e
   cases h;exact hk.Ee x (hk.A7 hx) om
  .split at h<;>cases h
theorem ba.Le(hk:ba abz k){l:wU}(hl:l.length=8)(hb:∀x∈l,x.is≠0->0<=x.note/\x.note<(k.notes.length:O)):ba abz { k with ln:=l}:=
 hk.same (k':={ k with ln:=l}) U U U ⟨Lv _,Lv _,Lv _,Lv _,Lv _,Lv _,Lv _,Lv _⟩ hk.inv hl hb hk.u hk.xZ hk.nu hk.ne hk.nn hk.ns hk.nf hk.nt hk.el hk.nl
theorem ba.Ce(hk:ba abz k){n:O}{x:Ln}(hx:jK k.ln n=S x)(v:O)(h0:x.is≠0):ba abz { k with ln:=k.ln.set n.toNat { x with is:=v}}:=
 hk.Le (by rw[MJ];exact hk.ln) λy hy hy2=>by
  rcases Mz hy with hy|hy
  .exact hk.Ee y hy hy2
  .rw[hy];exact hk.Ee x (hk.A7 hx) h0
theorem ba.raise(hk:ba abz k){n:O}:ba abz { k with ln:=(eI k.ln n).2}:=by
 unfold eI;cases hx:jK k.ln n with
 |none=>exact hk
 |some x=>
  dsimp only;split
  .exact hk.Ce hx 2 om
  split
  .exact hk.Ce hx 3 om
  .exact hk
theorem ba.JZ(hk:ba abz k){n:O}:ba abz { k with ln:=(iu k.ln n).2}:=by
 unfold iu;cases hx:jK k.ln n with
 |none=>exact hk
 |some x=>
  dsimp only;split
  .exact hk.Ce hx 2 om
  split
  .exact hk.Ce hx 1 om
  .exact hk
theorem ba.bm(hk:ba abz k){n g:O}(h0:0<=n)(h1:n<(k.notes.length:O)):ba (abz+1) (k.bm n g).2:=by
 obtain⟨hp,hpl⟩:=hk.ju h0 h1;have hs:=DX (k.ju n) g;have hN:=hk.iO (n:=n) (p:=((k.ju n).bm g).2) om;unfold ag.bm;split
 .exact hN
 .exact hN.bZ ((hk.inv.zA _ _ _).resume _) (by rw[ga,kI];exact Lv _)
theorem Es{K:O->Pw}(hk:ba abz k)(hN:abz<=200000)(h:Ow B w0 w (aa bd (ah bk d ec wv (-1) fs)::ai bk k::R))
  (hK:∀w',Ow B w0 w' (aa bd (ah bk d ec wv (k.iw (iu k.ln d.c.obj)).2.1 fs)::ai bk (k.iw (iu k.ln d.c.obj)).2.2::R)->K (k.iw (iu k.ln d.c.obj)).1 w'):Tk bd.o K w:=by
 apply Zo;have hka:=hk.JZ (n:=d.c.obj);have hno:=λy=>tV (y:=y) hk (n:=d.c.obj);unfold ag.iw at hK;refine h.dr λw h=>?_;obtain⟨bl,abp,h,hc2,hback⟩:=(h.pick (A:=ai bk k)).AZ;refine⟨_,U,_,h.aF U,_,U,_,hc2,_,U,_,bj (h.aE U),xu h λw h=>?_,trivial⟩;have h:=hback _ w _ h;generalize iu k.ln d.c.obj=P at h hK hka hno|-;obtain⟨⟨o,e⟩,l⟩:=P;cases o with
 |none=>exact bc U (hK w h.cq)
 |some y=>
  obtain⟨n0,n1⟩:=hno y U;refine bh U ⟨_,U,h.l1 U ?_⟩;refine mU (n:=y.1) (g:=y.2) hka hN n0 n1 h λw h=>?_;refine⟨_,U,gR (h.fK U U λw h=>?_)⟩
  (try dsimp only[bR,ah,putAt,Mf,LM,LF]at h)
  exact hK w h.cq
theorem E8{line:O}{K:O->O->Pw}(hk:ba abz k)(hN:abz<=200000)(h:Ow B w0 w (ai bk k::R))
  (hK:∀w',Ow B w0 w' (ai bk (k.irq line).2.2::R)->K (k.irq line).2.1 (k.irq line).1 w'):Sb bk.o line K w:=by
 apply W6;have hka:=hk.raise (n:=line);have hno:=λy=>oN (y:=y) hk (n:=line);unfold ag.irq ag.iw at hK;obtain⟨bl,abp,h,hc2,hback⟩:=h.AZ;refine⟨_,U,_,hc2,uh h λw h=>?_⟩;have h:=hback _ w _ h;generalize eI k.ln line=P at h hK hka hno|-;obtain⟨⟨o,e⟩,l⟩:=P;cases o with
 |none=>exact bh U (hK w h)
 |some y=>
  obtain⟨n0,n1⟩:=hno y U;refine bc U ?_;exact mU (n:=y.1) (g:=y.2) hka hN n0 n1 h λw h=>hK w h
def jJ(k:X)(o:Obj):aH where
 holds abx w:=abx k/\w.heap[k]?=S o
 loc abx w w' h hk:=⟨h.1,by rw[hk k h.1];exact h.2⟩
 up abx G' w h hk:=⟨hk k h.1,h.2⟩
theorem Ow.obj{k:X}{o:Obj}(h:Ow B w0 w (jJ k o::R)):w.heap[k]?=S o:=h.head λ_ h=>h.2
theorem Ow.putObj{k:X}{o:Obj}(o':Obj)(h:Ow B w0 w (jJ k o::R)):Ow B w0 (w.putObj k o') (jJ k o'::R):=by
 have hk:=h.obj;have hlt:k<w.heap.size:=(LW.1 hk).1;refine h.step λabx hA hG=>⟨⟨U,U,U,qc,λj _ hj=>?_⟩,abx,⟨hA.1,World.putObj_heap_same hlt⟩,λj hj=>⟨.inl hj,by have:=(hG j hj).2;simpa using this⟩⟩
 exact World.putObj_heap_other λe=>hj (by rw[e];exact hA.1)
theorem Ow.newObj(o:Obj)(h:Ow B w0 w R):Ow B w0 (w.alloc o) (jJ w.heap.size o::R):=
 h.new (A':=jJ w.heap.size o) (G':=λk=>k=w.heap.size) (ej _ _) ⟨U,World.alloc_heap_new _ _⟩ λk e=>⟨om,by rw[e];simp⟩
theorem DK{α:Type}{g:qD}{ps:qo Tmp}{assign body:Code}{aby:Exit->Act->Pw}{a:Act}
  (hro:abu.round=N) (h1:1<=n) {gf:X} {lb:qo Q} (hg:a.eval g= .func (.func gf) #[] lb) (hFg:abu.fn gf) (eg:∀args w,(callFunc gf args).run P w= .ok (.enter gf args) w)
  (encs:α->qo Q) (hps:∀x,(encs x).size=ps.size) (xs:Y α) (abw:Y α->aH) (Ax:Act->α->aH) (Reads:Pw)
  (h0:Ow B w0 w (abw []::L))
  (hreads:∀(abr:Y aH)pre abv,Ow B w0 abv (abw pre::abr++L)->Reads abv)
  (hseq:∀(l:X)(abq:Y α->Pw)(abt:J),
   (∀pre abv V',abq pre abv->gg No abv V'->abq pre V')->(∀pre abv,abq pre abv->Reads abv)->
   (∀pre x abv,abq pre abv->(pre++ [x]) <+: xs->YieldAt abu (n-1-1) P l (encs x) abv λe V'=>e= .returned (.bool Z)/\abq (pre++ [x]) V')->
   abq [] abt->CallsIn abu (n-1) P gf (#[.func (.yield l) #[] #[]]++lb) abt λe W'=>(∃v,e= .returned v)/\abq xs W')
  (hassign:∀(l:X)(abr:Y aH)(pre:Y α)(x:α)(abv:J)(K:Act->Pw),Ow B w0 abv (abw pre::abr++L)->(∀a' V',Ow B w0 V' (Ax a' x::abw pre::abr++L)->K a' V')->
   assign.wpIn (abu.inRound l) (n-1-1) P (Exit.then K (λ_ _ _=>qk)) { tmps:=(ps.zip (encs x)).foldl (λt(p,v)=>t.setIfInBounds p v) a.tmps,defers:=[]} abv)
  (hbody:∀(l:X)(abr:Y aH)(pre:Y α)(x:α)(a':Act)(abv:J),(pre++ [x]) <+: xs->Ow B w0 abv (Ax a' x::abw pre::abr++L)->
   body.wpIn (abu.inRound l) (n-1-1) P (λe _ V'=>e= .normal/\Ow B w0 V' (abw (pre++ [x])::abr++L)) a' abv)
  (hdone:∀(D:X)(abv:J),Ow B w0 abv (jJ D (.deferred (S []))::abw xs::L)->aby .normal { a with defers:={ target:= .collected D,args:= #[]}::a.defers} abv):
  (Code.rangeFunc g ps assign body).wpIn abu n P aby a w:=by
 refine wpIn_rangeFunc λfn hfn=>?_;rw[hro];obtain⟨rec,hrec⟩:∃rec:LoopState->Loop,rec=λst=>{ state:=st,pending:=N,fn,tmps:=a.tmps,params:=ps,assign,body,defers:=w.heap.size}:=⟨_,U⟩
 obtain⟨W1,hW1⟩:∃W1,(w.alloc (.deferred (S []))).alloc (.loop (rec .ready))=W1:=⟨_,U⟩
 have hO1:Ow B w0 W1 (jJ (w.heap.size+1) (.loop (rec .ready))::jJ w.heap.size (.deferred (S []))::abw []::L):=by have h2:=(h0.newObj (.deferred (S []))).newObj (.loop (rec .ready));rw[hW1,World.size_alloc]at h2;exact h2
 refine⟨w.heap.size+1,[{ target:= .collected w.heap.size,args:= #[]}],W1,{ target:= .fn (.func gf) lb,args:= #[.func (.yield (w.heap.size+1)) #[] #[]]},W1,gf,
  #[.func (.yield (w.heap.size+1)) #[] #[]]++lb,W1,?_,?_,?_,?_,λ_=>h1,?_⟩
 .rw[<-hW1,hrec];exact run_enterLoop_outer _ _ _ _ _
 .simp only[resolve,hg]
  simp[go_sem]
 .intro f' hf';simp[Target.leads]at hf';subst hf';exact hFg
 .simp[invoke,go_sem,eg]
 generalize w.heap.size+1=l at hO1|-;generalize w.heap.size=D at hO1 hrec|-;refine(hseq l (λpre abv=>Ow B w0 abv (jJ l (.loop (rec .ready))::jJ D (.deferred (S []))::abw pre::L)) W1 ?_ ?_ ?_ hO1).mono ?_
 .exact λpre abv V' h hu=>h.same hu
 .exact λpre abv h=>hreads [jJ l (.loop (rec .ready)),jJ D (.deferred (S []))] pre abv h.kh
 .intro pre x abv h hpre
  have hy:=run_yield (P:=P) (args:=encs x) h.obj (by rw[hrec];exact hps x);rw[hrec]at hy;refine⟨fn,_,assign,body,hy,roundIn_of_wpIn hfn (hassign l [jJ l (.loop (rec .ready)),jJ D (.deferred (S []))] pre x abv _ h.kh λa' V' h=>?_)⟩;have h:=h.kh;have hb:=run_beginRound (P:=P) h.obj (by rw[hrec]);refine⟨_,hb,?_⟩;have h:=h.putObj (.loop { rec .ready with state:= .busy});refine wpIn_mono (hbody l [jJ l (.loop { rec .ready with state:= .busy}),jJ D (.deferred (S []))] pre x a' _ hpre ?_) ?_
  .have h2:=h.perm (List.Perm.swap _ _ _)
   exact h2.perm (List.Perm.cons _ (List.Perm.swap _ _ _))
  .rintro e a2 V2 ⟨rfl,h⟩
   have h:Ow B w0 V2 (jJ l (.loop { rec .ready with state:= .busy})::abw (pre++ [x])::jJ D (.deferred (S []))::L):=h.perm (List.Perm.swap _ _ _);have he:=run_endRound (P:=P) N h.obj;refine⟨_,_,he,U,?_⟩;have h:=h.putObj (.loop {({ rec .ready with state:= .busy}:Loop)with state:=if(show qh Code from N).isNone then .ready else .done,pending:=N});have e2:({({ rec .ready with state:= .busy}:Loop)with state:=if(show qh Code from N).isNone then .ready else .done,pending:=N}:Loop)=rec .ready:=by rw[hrec];rfl
   rw[e2]at h|-;exact h.perm (List.Perm.cons _ (List.Perm.swap _ _ _))
 .rintro e W2 ⟨⟨v,rfl⟩,h⟩
  have he:=run_endLoop (P:=P) h.obj (by rw[hrec];simp);rw[show(rec .ready).pending=N from by rw[hrec]]at he;exact⟨N,_,he,hdone D _ (h.putObj _).drop⟩
end
end Go.Vc
namespace Go.Vc
open Go.Proofs Go.RowKit Go.Shelf
attribute [local go_sem] Oper.semAt_some
section
variable{B:X}{w0 w:J}{R L:Y aH}{bd bk:X}{k:ag}{d:oX}{ec wv wk:O}{fs:Sl}{abz:X}
def back(abn:Y Slot):X->Y (O × Slot)
 |0=>[]
 |t+1=>back abn t++ [((abn.length:O)-1-(t:O),(abn[abn.length-1-t]?).getD (0,0))]
theorem yL(abn:Y Slot):∀(d t:X),back abn t <+: back abn (t+d)
 |0,t=>List.prefix_refl _
 |d+1,t=>(yL abn d t).trans (List.prefix_append _ _)
theorem yM(abn:Y Slot):(back abn abn.length).map (·.2)=abn.reverse:=by
 have h:∀t,t<=abn.length->(back abn t).map (·.2)=abn.reverse.take t:=by
  intro t;induction t with
  |zero=>intro _;rfl
  |succ t ih=>
   intro ht;have hx:abn.reverse[t]?=S abn[abn.length-1-t]:=by rw[List.getElem?_reverse om];exact gE om
   rw[LJ,hx,<-ih om];simp only[back,LU,L1,M9,Option.toList_some];rw[gE om];rfl
 rw[h _ (Lv _),<-List.length_reverse,List.take_length]
def I5(x:O × Slot):qo Q:= #[.z x.1,.agg #[.z x.2.1,.z x.2.2]]
theorem GI(n:X)(hn:1<=n)(l box b off len cap:X)(abn:Y Slot)(hS:abn.length=len)(hlen:len<=1000000)(abq:Y (O × Slot)->Pw)
  (hR:∀pre abv,abq pre abv->abv.cell? box.p=S (.slice (S ⟨b,off,N⟩) len cap)/\∀j x,abn[j]?=S x->∀u v,[Value.z x.1,Value.z x.2][u]?=S v->abv.cell? ((show qg from ⟨b,off+j*2,N⟩).add u)=S v)
  (hY:∀pre x abv,abq pre abv->(pre++ [x]) <+: back abn len->YieldAt Fence.wide (n-1) qe l (I5 x) abv λe V'=>e= .returned (.bool Z)/\abq (pre++ [x]) V') (abt:J) (h0:abq [] abt):
  CallsIn Fence.wide n qe 350 #[.func (.yield l) #[] #[],.q box] abt λe W'=>(∃v,e= .returned v)/\abq (back abn len) W':=by
 refine callsIn_of_wp func350 U trivial ?_ U;simp only[Tryz.ntmps350,N4,LL,M5,O7,OJ,Og,Oh,OH,Oy,Mw,MO];have hBs:=(hR [] abt h0).1
 gi_wp2
 gi_loopw [3] (λi wr=>∃t:X,t<=len/\i= .z ((len:O)-1-(t:O))/\abq (back abn t) wr)
  (λi _=>(Go.Proofs.intOf i+1).toNat)
 case atStart=>exact⟨0,MN _,qc,h0⟩
 case round=>
  obtain⟨t,ht,rfl,hJs⟩:=hrel;obtain⟨hB2,hc2⟩:=hR _ _ hJs;by_cases hlt:t<len
  .obtain ⟨y,hx⟩:∃y,abn[abn.length-1-t]?=S y:=⟨_,gE om⟩
   obtain⟨j,hj⟩:∃j:X,((len:O)-1-(t:O))=(j:O)/\j=abn.length-1-t:=⟨abn.length-1-t,om,U⟩
   obtain⟨fn,tmps,assign,body,hy,hRn⟩:=hY _ ((len:O)-1-(t:O),(abn[abn.length-1-t]?).getD (0,0)) wr hJs (by have:=yL abn (len-(t+1)) (t+1);rw[show t+1+(len-(t+1))=len from by omega]at this;simpa [back,hS]using this);rw[hx,Nd]at hy hRn;dsimp only[I5]at hy;rw[<-hj.2]at hx;have hcx:=hc2 j _ hx;obtain rfl:j=len-1-t:=om
   have hj2:=hj.2;have hcA:wr.cell? ⟨b,off+(len-1-t)*2,N⟩=S (.z y.1):=by have:=hcx 0 _ U;simpa [Addr.add]using this
   have hcB:wr.cell? ⟨b,off+(len-1-t)*2+1,N⟩=S (.z y.2):=by have:=hcx 1 _ U;simpa [Addr.add,Nv]using this
   have hj1:=hj.1;clear hj hj2;rw[hj1]at hy|-
   gi_wp2
   refine hRn.mono ?_;rintro e W3 ⟨rfl,hJ3⟩
   gi_wp2
   go_roundw
   case rel=>exact⟨t+1,om,by simp;omega,(by have hx':abn[len-1-t]?=S y:=hx;simpa [back,hS,hx']using hJ3)⟩
   case measure=>
    show(((len-1-t:X):O)-1+1).toNat<(((len-1-t:X):O)+1).toNat;omega
  .obtain rfl:t=len:=om
   rw[show((t:O)-1-(t:O))= -1 from by omega]
   gi_wp2
   go_end0
   exact⟨⟨_,U⟩,hJs⟩
theorem BD{P:qq}{e:Env}{w:J}:∀(l:Y X)(acc:Y Q)(k:Y Q->Prop),pT P (l.map ResultVar.tmp) e w acc k->
  ∃vs:Y Q,vs.length=l.length/\(∀(i t:X),l[i]?=S t->∃v,vs[i]?=S v/\e t=S v)/\k (acc.reverse++vs)
 | [],acc,k,h=>⟨[],U,λi t ht=>by simp at ht,by simpa [pT]using h⟩
 |t::l,acc,k,h=>by
  simp only[L1,pT]at h;split at h
  .rename_i v hv
   obtain⟨vs,h1,h2,h3⟩:=BD l (v::acc) k h;refine⟨v::vs,by simp[h1],λi u hu=>?_,by simpa using h3⟩
   match i,hu with
   |0,hu=>simp at hu;subst hu;exact⟨v,U,hv⟩
   |i+1,hu=>simp at hu;simpa using h2 i u hu
  .exact h.elim
theorem CT{s:X}{x:Sc}{l:Y (X × Sh)}{K:vN ((s,.c x)::l)}{e:Env}{w:J}(h:iH ((s,.c x)::l) K e w):∃d:x.D,e s=S (x.mk d)/\iH l (K d) e w:=by
 simp only[iH]at h;split at h
 .rename_i v hv
  obtain⟨d,e1,h⟩:=u6 h;exact⟨d,hv.trans (qz S e1),h⟩
 .exact h.elim
theorem I2{e:Env}{w:J}{K:qh qg->qg->O->Sl->Q->Pw}(h:iH B1 K e w):
  ∃d c t s v,e 0=S (.pointer d)/\e 1=S (.pointer (S c))/\e 2=S (.z t)/\e 3=S s.v/\e 4=S v/\K d c t s v w:=by
 obtain⟨d,h0,h⟩:=CT h;obtain⟨c,h1,h⟩:=CT h;obtain⟨t,h2,h⟩:=CT h;obtain⟨s,h3,h⟩:=CT h;obtain⟨v,h4,h⟩:=CT h;exact⟨d,c,t,s,v,h0,h1,h2,h3,h4,h⟩
theorem FU{K:qh qg->qg->O->Sl->Q->Pw}(h:Ow B w0 w (aa bd (ah bk d ec wv wk fs)::af aP fs []::ai bk k::R))
  (hK:∀c0 s2 bx w',Ow B w0 w' (aa bd (ah bk d ec wv wk fs)::af aP fs []::ai bk k::aa c0 [.q bd]::af Tr.aC s2 (Tr.cF k.T d.s)::aa bx [s2.v]::R)->
   K bd.o c0.p 0 s2 (.func (.func 350) #[] #[.q bx]) w'):US bd.o K w:=by
 unfold US;refine h.al λw1 h=>?_;generalize w.heap.size=c0 at h|-;obtain⟨x,h⟩:=(h.pick (A:=ai bk k)).ui;refine h.dr λw h=>?_;refine⟨_,h.aF U,_,U,_,h.aF U,_,U,_,h.aE U,_,h.aF U,_,U,dR (h.aR U ⟨Tr.tu (s:=d.s) (h.pick (A:=Tr.bD x.tr k.T)) λs2 w h=>?_,trivial⟩)⟩;apply VC;refine h.al λw1 h=>?_;generalize w.heap.size=bx at h|-;refine hK c0 s2 bx _ ?_;exact((show Ow B w0 w1 (ai bk k::aa bx [s2.v]::af Tr.aC s2 (Tr.cF k.T d.s)::aa c0 [.q bd]::aa bd (ah bk d ec wv wk fs)::af aP fs []::R) from Ow.bT x h.sub).sub)
theorem ou:∀(l:Y Slot)(s:Slot)(k:ag),ag.cI (l++ [s]) k=((ag.cI l k).1++((ag.cI l k).2.gone s).1,((ag.cI l k).2.gone s).2)
 | [],s,k=>by simp[ag.cI]
 |a::l,s,k=>by have:=ou l s (k.gone a).2;simp only[MO,ag.cI,this,LN]
theorem FV{K:O->Pw}{c0 bx:X}{s2:Sl}{abu:Y lM}{n:X}(hn:s2.len=n)(hn2:n<=1000000)(hu:d.c.kind=1->0<=d.c.obj/\d.c.obj<(k.u.length:O))
  (h:Ow B w0 w (aa bd (ah bk d ec wv wk fs)::af aP fs abu::ai bk k::aa c0 [.q bd]::R))
  (hK:∀w',Ow B w0 w' (aa bd (ah bk d ec (n:O) wk fs)::af aP fs abu::ai bk (if d.c.kind=1 then k.ka d.c.obj else k)::R)->K 0 w'):UT bd.o c0.p 0 s2 K w:=by
 unfold UT;rw[hn,IJ om om];refine⟨_,h.aF U,_,U,gR (h.fK U U λw h=>?_)⟩;refine⟨_,h.aF U,_,U,h.l2 U (dE (λe=>?_) (λe=>?_))⟩
 .rw[qd e]at hK
  obtain⟨u0,u1⟩:=hu e;have hux:k.u[d.c.obj.toNat]?=S (k.ij d.c.obj):=by unfold ag.ij;rw[gE om];rfl
  obtain⟨x,h⟩:=(h.pick (A:=ai bk k)).ui;refine h.dr λw h=>?_;refine⟨_,h.aF U,_,U,_,h.aF U,_,U,x.su,h.aE U,_,h.aF U,_,U,_,bj (h.aE U),h.cz (s:=x.su) (i:=d.c.obj) (j:=d.c.obj.toNat) om hux λa ha _ hcu=>?_⟩;refine⟨_,hcu 0 _ U,_,hcu 1 _ U,_,hcu 2 _ U,⟨_,h.aF U,_,U,_,h.aF U,_,U,x.su,h.aE U,_,h.aF U,_,U,_,bj (h.aE U),Aq h λw h=>?_,trivial⟩⟩;refine⟨bj (h.aE U),h.aF U,h.aE U,h.aF U,h.aF U,h.cz (s:=x.su) (i:=d.c.obj) (j:=d.c.obj.toNat) om hux λa ha _ _=>⟨?_,trivial⟩⟩
  refine h.sU (s:=x.su) (xs:=k.u) (i:=d.c.obj) (j:=d.c.obj.toNat) { k.ij d.c.obj with used:=0} om om ha λw h=>?_;refine hK w ?_;exact((show Ow B w0 w (ai bk (k.ka d.c.obj)::aa bd (ah bk d ec (n:O) wk fs)::af aP fs abu::R) from Ow.bT x h.sub).sub)
 .rw[F e]at hK
  exact hK w h.sub
theorem Jv(t:qo Q)(h:t.size=66):∃f:X->Q,(∀i,f i=t.getD i undef)/\t= #[f 0,f 1,f 2,f 3,f 4,f 5,f 6,f 7,f 8,f 9,f 10,f 11,f 12,f 13,f 14,f 15,f 16,f 17,f 18,f 19,f 20,f 21,f 22,f 23,f 24,f 25,f 26,f 27,f 28,f 29,f 30,f 31,f 32,f 33,f 34,f 35,f 36,f 37,f 38,f 39,f 40,f 41,f 42,f 43,f 44,f 45,f 46,f 47,f 48,f 49,f 50,f 51,f 52,f 53,f 54,f 55,f 56,f 57,f 58,f 59,f 60,f 61,f 62,f 63,f 64,f 65]:=by
 refine⟨λi=>t.getD i undef,λ_=>rfl,?_⟩;have e:t=((LA 66).map λi=>t.getD i undef).toArray:=by
  apply Array.ext
  .simp[h]
  .intro i h1 h2
   simp[h1]
 exact e
theorem yK(n:X)(hn:1<=n)(l box:X)(abq:Y (O × Slot)->Pw)(abt:J)(hB:abt.cell? box.p=S (.slice N 0 0))(h0:abq [] abt):
  CallsIn Fence.wide n qe 350 #[.func (.yield l) #[] #[],.q box] abt λe W'=>(∃v,e= .returned v)/\abq [] W':=by
 refine callsIn_of_wp func350 U trivial ?_ U;simp only[Tryz.ntmps350,N4,LL,M5,O7,OJ,Og,Oh,OH,Oy,Mw,MO]
 gi_wp2
 gi_loopw [3] (λi wr=>i= .z (-1)/\abq [] wr) (λ_ _=>0)
 case atStart=>exact⟨U,h0⟩
 case round=>
  obtain⟨rfl,hJs⟩:=hrel
  gi_wp2
  go_end0
  exact⟨⟨_,U⟩,hJs⟩
def uM(bd bk c0 bx:X)(d:oX)(ec wv wk:O)(k:ag)(s2:Sl)(xs:Y Slot)(pre:Y (O × Slot)):aH:=
 sB λfs:Sl=>cj [aa bd (ah bk d ec wv wk fs),af aP fs (ag.cI (pre.map (·.2)) k).1,ai bk (ag.cI (pre.map (·.2)) k).2,aa c0 [.q bd],af Tr.aC s2 xs,aa bx [s2.v]]
def Iu(s2:Sl)(xs:Y Slot)(bx:X)(abv:J):Prop:=abv.cell? bx.p=S s2.v/\jN 2 abv s2 (xs.flatMap Tr.aC.enc)
theorem pU{c0 bx:X}{s2:Sl}{xs:Y Slot}{pre:Y (O × Slot)}(h:Ow B w0 w (uM bd bk c0 bx d ec wv wk k s2 xs pre::R)):
  ∃fs:Sl,Ow B w0 w (aa bd (ah bk d ec wv wk fs)::af aP fs (ag.cI (pre.map (·.2)) k).1::ai bk (ag.cI (pre.map (·.2)) k).2::aa c0 [.q bd]::af Tr.aC s2 xs::aa bx [s2.v]::R):=by
 obtain⟨fs,h⟩:=Ow.ex h;exact⟨fs,h.star⟩
theorem Cr{c0 bx:X}{s2:Sl}{xs:Y Slot}{pre:Y (O × Slot)}(fs:Sl)
  (h:Ow B w0 w (aa bd (ah bk d ec wv wk fs)::af aP fs (ag.cI (pre.map (·.2)) k).1::ai bk (ag.cI (pre.map (·.2)) k).2::aa c0 [.q bd]::af Tr.aC s2 xs::aa bx [s2.v]::R)):
  Ow B w0 w (uM bd bk c0 bx d ec wv wk k s2 xs pre::R):=Ow.fk fs (Ow.bW h)
theorem DN{c0 bx:X}{s2:Sl}{xs:Y Slot}{pre:Y (O × Slot)}(h:Ow B w0 w (uM bd bk c0 bx d ec wv wk k s2 xs pre::R)):Iu s2 xs bx w:=by obtain⟨fs,h⟩:=pU h;exact⟨h.aF U,h.sR 4 U⟩
theorem Hg{s2:Sl}{xs:Y Slot}{bx:X}(hl:s2.len=xs.length)(hx:xs.length<=1000000)(l:X)(abq:Y (O × Slot)->Pw)(abt:J)
  (hJR:∀pre abv,abq pre abv->Iu s2 xs bx abv)
  (hY:∀pre x abv,abq pre abv->(pre++ [x]) <+: back xs xs.length->YieldAt Fence.wide 2 qe l (I5 x) abv λe V'=>e= .returned (.bool Z)/\abq (pre++ [x]) V') (h0:abq [] abt):
  CallsIn Fence.wide 3 qe 350 (#[.func (.yield l) #[] #[]]++ #[.q bx]) abt λe W'=>(∃v,e= .returned v)/\abq (back xs xs.length) W':=by
 obtain⟨h1,h2⟩:=hJR _ _ h0;have h1:abt.cell? bx.p=S (.slice s2.a s2.len s2.cap):=h1;rw[hl]at h1;cases h2 with
 |nil ha hl' hc hcs=>
  have hx0:xs= []:=MA om;subst hx0;rw[ha,hc]at h1;exact yK 3 qb l bx abq abt h1 h0
 |mk b o l' ha hb hl' hc hcs=>
  refine GI 3 qb l bx b o xs.length s2.cap xs U hx abq (λpre abv hJ=>?_) hY abt h0;obtain⟨r1,r2⟩:=hJR _ _ hJ;have r1:abv.cell? bx.p=S (.slice s2.a s2.len s2.cap):=r1;rw[hl,ha]at r1;refine⟨r1,λj x hj u v hv=>?_⟩;obtain⟨b',o',ha',hc'⟩:=jN.get (E:=Tr.aC) r2 hj;rw[ha]at ha';cases ha';have:=hc' u v hv;rw[aI,Nv];exact this
theorem FW{c0 bx:X}{s2:Sl}{xs:Y Slot}{t:qo Q}{aby:Exit->Act->Pw}(hk:ba abz k)(hN:abz<=200000)(hnd:xs.Nodup)(hheld:∀s∈xs,(k.H s).isSome=Z)(hlen:xs.length<=1000000)
  (ht:t.size=66) (h1:t.getD 1 undef= .q c0) (h19:t.getD 19 undef= .func (.func 350) #[] #[.q bx])
  (h:Ow B w0 w (uM bd bk c0 bx d ec wv wk k s2 xs []::R))
  (hQ:∀(D:X)(abv:J),Ow B w0 abv (jJ D (.deferred (S []))::uM bd bk c0 bx d ec wv wk k s2 xs (back xs xs.length)::R)->aby .normal { tmps:=t,defers:=[{ target:= .collected D,args:= #[]}]} abv):
  EG.wpIn Fence.wide 4 qe aby { tmps:=t,defers:=[]} w:=by
 obtain⟨f,hf,he⟩:=Jv t ht;rw[<-hf]at h1 h19;have hl:s2.len=xs.length:=by obtain⟨fs,h⟩:=pU h;exact(h.aL s2)
 show(Code.block 0 (.rangeFunc _ _ _ _)).wpIn Fence.wide 4 qe aby { tmps:=t,defers:=[]} w;refine wpIn_block ?_;refine DK (n:=4) (α:=O × Slot) U qb (gf:=350) (lb:= #[.q bx]) ?_ trivial (enters_of func350 qa U) I5 (λ_=>rfl) (back xs xs.length)
  (uM bd bk c0 bx d ec wv wk k s2 xs) (λa' x=>sB λp:X=>cj [dh (a'={ tmps:=((t.setIfInBounds 20 (.z x.1)).setIfInBounds 21 (.agg #[.z x.2.1,.z x.2.2])).setIfInBounds 5 (.q p),defers:=[]}),aa p [.z x.2.1,.z x.2.2]])
  (Iu s2 xs bx) h (λabr pre abv h=>DN h) (λl abq abt _ hJR hY h0=>Hg hl hlen l abq abt hJR hY h0) ?_ ?_ hQ
 .show t.getD 19 undef=_
  rw[<-hf];exact h19
 .intro l abr pre x abv K hO hK
  have hK:=λw' h=>hK { tmps:=((t.setIfInBounds 20 (.z x.1)).setIfInBounds 21 (.agg #[.z x.2.1,.z x.2.2])).setIfInBounds 5 (.q abv.heap.size),defers:=[]} w' (Ow.fk abv.heap.size (Ow.bW (Ow.cT U h)));have hO:=hO.al (t:=155) (l:=[.z x.2.1,.z x.2.2]) (k:=λw'=>Ow B w0 w' (aa abv.heap.size [.z x.2.1,.z x.2.2]::uM bd bk c0 bx d ec wv wk k s2 xs pre::abr++R)) (λw' h=>h);have hK:=hK _ hO;clear hO hf;obtain⟨x1,x2,x3⟩:=x;dsimp only at hK|-;subst he;dsimp only[I5]
  gi_wp2
  simpa [h1,h19]using hK
 .intro l abr pre x a' abv hpre hO
  obtain⟨p,hO⟩:=Ow.ex (hO:Ow B w0 abv (sB _::(uM bd bk c0 bx d ec wv wk k s2 xs pre::abr++R)));have hO:=hO.star;obtain⟨ea,hO1⟩:=Ow.pure (hO:Ow B w0 abv (dh _::(aa p [.z x.2.1,.z x.2.2]::uM bd bk c0 bx d ec wv wk k s2 xs pre::abr++R)));clear hO;have hO1:=hO1.perm (List.Perm.swap _ _ _);obtain⟨fs,hO⟩:=pU hO1;have hx2:(pre.map (·.2)++ [x.2]) <+: xs.reverse:=by have:=hpre.map (·.2);rw[yM]at this;simpa using this
  have hnd2:(pre.map (·.2)++ [x.2]).Nodup:=(hx2.sublist).nodup (Oe.2 (hnd.imp Ne.symm));have hall:∀s∈pre.map (·.2)++ [x.2],(k.H s).isSome=true:=λs hs=>hheld s (Ol.1 (hx2.subset hs));obtain⟨g1,g2⟩:=pC (pre.map (·.2)) k hk (Np.1 hnd2).1 (λs hs=>hall s (List.mem_append_left _ hs));have g3:=pD (pre.map (·.2)) k;have g4:=rQ k.ae hk.xZ;have g5:=hk.ns;have hg:QO bd.o x.2.1 x.2.2 (λw'=>Ow B w0 w' (uM bd bk c0 bx d ec wv wk k s2 xs (pre++ [x])::abr++R)) abv:=by
   refine v8 (abu:=(ag.cI (pre.map (·.2)) k).1) (k:=(ag.cI (pre.map (·.2)) k).2) (s:=x.2) g1 hN ?_ om hO λfs' w' h=>?_
   .rw[g2,F]
    .exact hall _ (List.mem_append_right _ MH)
    .intro hm
     have:=(Np.1 hnd2).2.2 _ hm _ MH;exact this U
   .refine Cr fs' ?_
    rw[LU,L1,M9,ou];exact h.sub
  dsimp only[QO]at hg;have hg:=xH hg;have hg:=(callsIn_wide (n:=1)).2 hg;have c1:abv.cell? c0.p=S (.q bd):=hO.aF U;have c2:abv.cell? p.p=S (.z x.2.1):=hO.aF U;have c3:abv.cell? ⟨p,1,N⟩=S (.z x.2.2):=hO.aF U;clear hO hO1 hall hnd2 hx2 hQ h g1 g2 g3 g4 g5 hpre hheld hnd hl;obtain⟨x1,x2,x3⟩:=x;dsimp only at ea hg c2 c3|-;subst ea;subst he;clear hf;have hg:=hg.inRound l
  gi_wp2
  refine⟨trivial,hg.mono ?_⟩;rintro e w' ⟨rfl,hw⟩
  gi_wp2
  exact hw
theorem u7{s x:Slot}(hx:x∈Tr.cF k.T s):x∈k.T.map (·.1):=by
 unfold Tr.cF at hx;split at hx
 .simp at hx
 .obtain ⟨y,hy,rfl⟩:=L2.1 hx
  exact L2.2 ⟨y,List.mem_of_mem_drop (List.mem_of_mem_take hy),U⟩
theorem va{s:Slot}(h:Tr.oc k.T):(Tr.cF k.T s).Nodup:=by
 unfold Tr.cF;split
 .exact List.nodup_nil
 .exact ((List.take_sublist _ _).trans (List.drop_sublist _ _) |>.map (λx:Tr.eG=>x.1)).nodup h.nd
theorem wP{s:Slot}(hk:ba abz k):(Tr.cF k.T s).length<=64:=by
 have:=hk.eC;unfold Tr.cF;split
 .simp
 .simp;omega
theorem xr:∀(l:Y Slot)(k:ag),ba abz k->l.Nodup->(∀s∈l,(k.H s).isSome=Z)->(ag.cI l k).2.u=k.u
 | [],k,_,_,_=>rfl
 |a::l,k,h,hn,hs=>by
  obtain⟨h1,h2,h3⟩:=h.gone (hs a MH);rw[Mj]at hn;have hl:∀s∈l,((k.gone a).2.H s).isSome=true:=λs hm=>by rw[h2];unfold Sl.cC;rw[F (λe:s=a=>hn.1 (e▸hm))];exact hs s (MF _ hm)
  have h4:(ag.cI (a::l) k).2.u=(k.gone a).2.u:=xr l _ h1 hn.2 hl;rw[h4];unfold ag.gone;split
  .rfl
  .unfold ag.last
   split
   .rfl
   split
   .rfl
   split
   .rfl
   .rfl
theorem zE{K:O->Pw}(hk:ba abz k)(hN:abz<=200000)(ho:k.fe d.c)(h:Ow B w0 w (aa bd (ah bk d ec wv wk fs)::af aP fs []::ai bk k::R))
  (hK:∀fs' w',Ow B w0 w' (aa bd (ah bk d ec ((Tr.cF k.T d.s).length:O) wk fs')::af aP fs' (ag.cI (Tr.cF k.T d.s).reverse k).1::ai bk (k.jC d).2::R)->K 0 w'):S6 bd.o K w:=by
 have hlen:=wP (s:=d.s) hk;have hnd:=va (s:=d.s) hk.tok;have hheld:∀s∈Tr.cF k.T d.s,(k.H s).isSome=true:=λs hs=>(hk.mem s).1 (u7 hs);unfold S6;refine jx func154 U ((callsIn_wide (n:=4)).1 ?_);refine callsIn_of_wp_marks (c:= .seq (cL mq) (.seq (cL (cR mq)) (.seq (.seq (cL (cL (cR (cR mq)))) EG) vV))) func154 qa trivial ?_ U;have hA:=FU (fs:=fs) h (K:=λd1 c t s v w'=>∃c0 bx,d1=S bd.p/\c=⟨c0,0,N⟩/\t=0/\v= .func (.func 350) #[] #[.q bx]/\
  Ow B w0 w' (aa bd (ah bk d ec wv wk fs)::af aP fs []::ai bk k::aa c0 [.q bd]::af Tr.aC s (Tr.cF k.T d.s)::aa bx [s.v]::R)) (λc0 s2 bx w' h=>⟨c0,bx,U,U,U,U,h⟩)
 rw[<-ZC]at hA;unfold ag.jC at hK;dsimp only at hK;generalize Tr.cF k.T d.s=xs at hA hK hlen hnd hheld;refine wpIn_seq (wpIn_wide.2 (wp_mono (ni (ds:=[]) (n:=66) mH jo (cL mq) tx.a _ (λ_ _ _=>qk) (λ_ _=>qk) (nth [.q bd]) _ w qa ?_ hA) ?_))
 .refine ⟨by simp[Tryz.ntmps154],rfl,λt v ht=>?_⟩
  rw[dw]at ht
  match t,ht with
  |0,ht=>simp at ht;subst ht;simp
  |t+1,ht=>simp at ht
 intro en a1 w1 hq;cases en with
 |exit i=>obtain⟨_,_,_,h⟩:=hq;exact h.elim
 |ret=>obtain⟨_,_,_,h⟩:=hq;exact h.elim
 |goto l=>exact hq.elim
 |panic ch=>exact hq.elim
 |outgrown=>exact hq.elim
 |normal=>
 obtain⟨_,e1,hr1,h1⟩:=hq;refine wpIn_seq (wpIn_wide.2 (wp_mono (ni (ds:=[]) (n:=66) mH jo (cL (cR mq)) tx.b.a _ (λ_ _ _=>qk) (λ_ _=>qk) e1 _ w1 qa hr1 h1) ?_));intro en a2 w2 hq;cases en with
 |exit i=>obtain⟨_,_,_,h⟩:=hq;exact h.elim
 |ret=>obtain⟨_,_,_,h⟩:=hq;exact h.elim
 |goto l=>exact hq.elim
 |panic ch=>exact hq.elim
 |outgrown=>exact hq.elim
 |normal=>
 obtain⟨_,e2,hr2,h2⟩:=hq;refine wpIn_seq (wpIn_seq (wpIn_wide.2 (wp_mono (ni (ds:=[]) (n:=66) mH jo (cL (cL (cR (cR mq)))) tx.b.b _ (λ_ _ _=>qk) (λ_ _=>qk) e2 _ w2 qa hr2 h2) ?_)));intro en a3 w3 hq;cases en with
 |exit i=>obtain⟨_,_,_,h⟩:=hq;exact h.elim
 |ret=>obtain⟨_,_,_,h⟩:=hq;exact h.elim
 |goto l=>exact hq.elim
 |panic ch=>exact hq.elim
 |outgrown=>exact hq.elim
 |normal=>
 obtain⟨_,e3,⟨hs3,hd3,hr3⟩,h3⟩:=hq;obtain⟨vs,hv1,hv2,h3⟩:=BD [0,1,2,3,19] [] _ h3;obtain⟨d0,c,t,s,v,v0,v1,v2,v3,v4,c0,bx,rfl,rfl,rfl,rfl,h3⟩:=I2 h3;have key:∀(i t:X)(v:Q),[0,1,2,3,19][i]?=S t->nth ([].reverse++vs) i=S v->a3.tmps.getD t undef=v:=λi t v hi hv=>by obtain⟨v',h1,h2⟩:=hv2 i t hi;rw[dw]at hv;simp only[OM,Mw]at hv;rw[h1]at hv;cases hv;exact hr3 t v h2
 have k0:=key 0 0 _ U v0;have k1:=key 1 1 _ U v1;have k2:=key 2 2 _ U v2;have k3:=key 3 3 _ U v3;have k4:=key 4 19 _ U v4;have hsl:s.len=xs.length:=h3.aL s;obtain⟨t3,d3⟩:=a3;dsimp only at hs3 hd3 k0 k1 k2 k3 k4;subst hd3;have hO:Ow B w0 w3 (uM bd bk c0 bx d ec wv wk k s xs []::R):=Cr fs h3;show EG.wpIn Fence.wide 4 qe _ { tmps:=t3,defers:=[]} w3;refine FW hk hN hnd hheld om hs3 k1 k4 hO λD abv hO=>?_;obtain⟨fs',hO⟩:=pU (hO.perm (List.Perm.swap _ _ _));rw[yM]at hO;show vV.wpIn Fence.wide 4 qe _ { tmps:=t3,defers:=[{ target:= .collected D,args:= #[]}]} abv;have hnd2:xs.reverse.Nodup:=Oe.2 (hnd.imp Ne.symm);have hu2:=xr xs.reverse k hk hnd2 (λs hs=>hheld s (Ol.1 hs));have hZ:=FV (K:=λr w'=>r=0/\Ow B w0 w' (jJ D (.deferred (S []))::aa bd (ah bk d ec (xs.length:O) wk fs')::af aP fs' (ag.cI xs.reverse k).1::ai bk (if d.c.kind=1 then(ag.cI xs.reverse k).2.ka d.c.obj else(ag.cI xs.reverse k).2)::R)) (bx:=bx) hsl om (λe=>by rw[hu2];exact⟨ho.1,ho.2.1 e⟩) (hO.sub:Ow B w0 abv (aa bd (ah bk d ec wv wk fs')::af aP fs' (ag.cI xs.reverse k).1::ai bk (ag.cI xs.reverse k).2::aa c0 [.q bd]::jJ D (.deferred (S []))::R)) λw' h=>⟨U,h.sub⟩
 rw[<-ZD]at hZ;refine wpIn_wide.2 (wp_mono (ni (ds:=[{ target:= .collected D,args:= #[]}]) (n:=66) mH jo vV B2 _ (λ_ _ _=>qk) _ (nth [.q bd,.q c0,.z 0,s.v]) _ abv qa ?_ hZ) ?_)
 .refine ⟨hs3,U,λt v ht=>?_⟩
  rw[dw]at ht
  match t,ht with
  |0,ht=>simp at ht;subst ht;exact k0
  |1,ht=>simp at ht;subst ht;exact k1
  |2,ht=>simp at ht;subst ht;exact k2
  |3,ht=>simp at ht;subst ht;exact k3
  |t+4,ht=>simp at ht
 have fin:∀(a:Act)(w':J),At [{ target:= .collected D,args:= #[]}] 66 (dm vV) { tmps:=t3,defers:=[{ target:= .collected D,args:= #[]}]} (λe w'=>pT qe EH.results.toList e w' [] λvs=>iH B3 (λr w'=>r=0/\Ow B w0 w' (jJ D (.deferred (S []))::aa bd (ah bk d ec (xs.length:O) wk fs')::af aP fs' (ag.cI xs.reverse k).1::ai bk (if d.c.kind=1 then(ag.cI xs.reverse k).2.ka d.c.obj else(ag.cI xs.reverse k).2)::R)) (nth vs) w') a w'->
   LeavesInM Fence.wide 4 qe aaI a.tmps (λen w'=>∃r2:O,en= .returned (.z r2)/\K r2 w') a.defers .returning w':=by
  rintro⟨t4,d4⟩ w' ⟨_,e,⟨hs,hd,hr⟩,hN⟩;obtain⟨vs,hv1,hv2,hN⟩:=BD [2] [] _ hN;obtain⟨r,hr0,rfl,hO⟩:=CT hN;obtain⟨v',e1,e2⟩:=hv2 0 2 U;rw[dw]at hr0;simp only[OM,Mw]at hr0;rw[e1]at hr0;cases hr0;have hr2:=hr 2 _ e2;dsimp only at hd hr2|-;subst hd;refine⟨qc,.inl ⟨D,_,U,run_takeDeferred hO.obj,?_⟩⟩;have hO:=(hO.putObj (.deferred N)).drop;refine⟨_,results_tmp U _ _ _,0,?_,hK fs' _ ?_⟩
  .rw[hr2]
  .exact hO
 intro en a4 w4 hq;cases en with
 |normal=>exact fin a4 w4 hq
 |ret=>exact fin a4 w4 hq
 |exit i=>obtain⟨_,_,_,h⟩:=hq;exact h.elim
 |goto l=>exact hq.elim
 |panic ch=>exact hq.elim
 |outgrown=>exact hq.elim
end
end Go.Vc
namespace Go.Vc
open Go.Proofs
section
variable{B:X}{w0 w:J}{R L:Y aH}{bd bk:X}{k:ag}{d:oX}{ec wv wk:O}{fs:Sl}{abz:X}
def HQ:Y Q:=[.z (1:O),.z (0:O),.z (0:O),.z (0:O),.z (0:O),.z (0:O),.z (0:O),.z (0:O),.z (0:O),.z (0:O),.z (3:O),.z (0:O),.z (3:O),.z (0:O),.z (3:O),.z (0:O),.z (4:O),.z (2:O),.z (4:O),.z (1:O),.z (5:O),.z (2:O),.z (5:O),.z (1:O),.z (7:O),.z (0:O),.z (6:O),.z (0:O),.z (8:O),.z (0:O),.z (9:O),.z (0:O),.z (9:O),.z (0:O),.z (0:O),.z (0:O)]
theorem G3:∀n:X,n<18->(HQ.drop (n*2)).take 2= [.z (ag.aG (n:O)).1,.z (ag.aG (n:O)).2]
 |0,_=>rfl|1,_=>rfl|2,_=>rfl|3,_=>rfl|4,_=>rfl|5,_=>rfl|6,_=>rfl|7,_=>rfl|8,_=>rfl
 |9,_=>rfl|10,_=>rfl|11,_=>rfl|12,_=>rfl|13,_=>rfl|14,_=>rfl|15,_=>rfl|16,_=>rfl|17,_=>rfl
 |n+18,h=>qj h om
theorem Bc{ask:O}{K:O->O->Pw}(h0:0<=ask)(h1:ask<18)(h:Ow B w0 w R)(hK:∀w',Ow B w0 w' R->K (ag.aG ask).1 (ag.aG ask).2 w'):S1 ask K w:=by
 apply Xt;obtain⟨n,rfl⟩:=LB h0;refine h.a λc0 w1 h=>?_;refine h.a λc1 w2 h=>?_;refine h.aA U U λw h=>?_;have h:Ow B w0 w (aa c1 HQ::aa c0 [.z 0,.z 0]::R):=h;refine⟨h0,h1,dR (h.aR (o:=0+(show O from n).toNat*2) (c0:= .i .i64) (c1:= .i .i64) (x0:=(ag.aG (n:O)).1) (x1:=(ag.aG (n:O)).2) ?_ ?_)⟩
 .rw[LF]
  exact G3 n om
 refine h.aA U U λw h=>?_;refine h.aR U ?_;exact hK w h.sub
def HZ:Y (O × X):=[(0,150),(1,151),(2,152),(3,153),(4,154),(5,155),(6,156),(7,157),
 (8,158),(9,159),(10,160),(11,161),(12,162),(13,163),(14,164),(15,165),(16,166)]
def cY(bd:X)(f:X):Q:= .func (.func f) #[.q bd] #[]
theorem AG{K:O->Pw}{m:X}(hk:ba abz k)(hN:abz+64<=100000)(hcore:k.t.fC d.core=Z)(hH:k.H d.s=S d.c)(hr:Sl.fg d.c)(ho:k.fe d.c)(ha0:0<=d.call.ask)(ha1:d.call.ask<17)
  (hkind:(ag.aG d.call.ask).1≠0->d.c.kind=(ag.aG d.call.ask).1) (hw0: -9223372036854775808<=d.call.ao) (hw1:d.call.ao<9223372036854775808)
  (h:Ow B w0 w (kl (Value.int .i64) (cY bd) m HZ::aa bd (ah bk d 0 0 (-1) z0)::af aP z0 []::ai bk k::R))
  (hK:∀fs' w',Ow B w0 w' (aa bd (ah bk d 0 (k.asks d).1.w (k.asks d).1.dY fs')::af aP fs' (k.asks d).1.forget::ai bk (k.asks d).2::R)->K (k.asks d).1.e w'):
  ∃t50:Q,yv qe 287 (.map (S m)) (.z d.call.ask) t50 w/\dU qe t50 [] w λen w'=>∃r:O,en= .returned (.z r)/\K r w':=by
 have hN2:abz<=200000:=om
 have hsome:(k.H d.s).isSome=true:=by rw[hH];rfl
 have hlook:∀f,de HZ d.call.ask=S f->yv qe 287 (.map (S m)) (.z d.call.ask) (cY bd f) w:=λf hf=>
  (h.sL (enc:=Value.int .i64) (encV:=cY bd) qJ (aX .i64 qA) 0 U hf).2
 have hask:d.call.ask=0\/d.call.ask=1\/d.call.ask=2\/d.call.ask=3\/d.call.ask=4\/d.call.ask=5\/d.call.ask=6\/d.call.ask=7\/d.call.ask=8\/d.call.ask=9\/d.call.ask=10\/d.call.ask=11\/d.call.ask=12\/d.call.ask=13\/d.call.ask=14\/d.call.ask=15\/d.call.ask=16:=om
 rcases hask with e|e|e|e|e|e|e|e|e|e|e|e|e|e|e|e|e
 .refine ⟨cY bd 150,hlook _ (by rw[e];rfl),bq ?_⟩
  show S2 bd.o K w;have hkd:(ag.aG 0).1≠0->d.c.kind=(ag.aG 0).1:=by rw[e]at hkind;exact hkind
  have hkd:=hkd qb;have ea:k.asks d=ag.tell (k.eS d).1 (k.eS d).2:=by unfold ag.asks;rw[e];rfl
  rw[ea]at hK
  try dsimp only[ag.tell,ag.dC]at hK
  exact zD hk hN hsome (hkd) ho hcore hw0 hw1 (h.sub:Ow B w0 w (aa bd (ah bk d 0 0 (-1) z0)::ai bk k::af aP z0 []::R)) λw' h=>hK z0 w' h.sub
 .refine ⟨cY bd 151,hlook _ (by rw[e];rfl),bq ?_⟩
  show S3 bd.o K w;have hkd:(ag.aG 1).1≠0->d.c.kind=(ag.aG 1).1:=by rw[e]at hkind;exact hkind
  have ea:k.asks d=ag.tell (k.mG d).1 (k.mG d).2:=by unfold ag.asks;rw[e];rfl
  rw[ea]at hK
  try dsimp only[ag.tell,ag.dC]at hK
  exact Ds hk hr hw0 hw1 (h.sub:Ow B w0 w (aa bd (ah bk d 0 0 (-1) z0)::ai bk k::af aP z0 []::R)) λw' h=>hK z0 w' h.sub
 .refine ⟨cY bd 152,hlook _ (by rw[e];rfl),bq ?_⟩
  show S4 bd.o K w;have hkd:(ag.aG 2).1≠0->d.c.kind=(ag.aG 2).1:=by rw[e]at hkind;exact hkind
  have ea:k.asks d=ag.tell (k.move d).1 (k.move d).2:=by unfold ag.asks;rw[e];rfl
  rw[ea]at hK
  try dsimp only[ag.tell,ag.dC]at hK
  exact Du hk hw0 hw1 (h.sub:Ow B w0 w (aa bd (ah bk d 0 0 (-1) z0)::ai bk k::af aP z0 []::R)) λw' h=>hK z0 w' h.sub
 .refine ⟨cY bd 153,hlook _ (by rw[e];rfl),bq ?_⟩
  show S5 bd.o K w;have hkd:(ag.aG 3).1≠0->d.c.kind=(ag.aG 3).1:=by rw[e]at hkind;exact hkind
  have ea:k.asks d=if d.call.at_=0 then ag.tell 181 k else(⟨0,0,-1,(k.gone d.s).1⟩,(k.gone d.s).2):=by unfold ag.asks;rw[e];rfl
  rw[ea]at hK
  try dsimp only[ag.tell,ag.dC]at hK
  refine yV hk hN2 hsome (h.sub:Ow B w0 w (aa bd (ah bk d 0 0 (-1) z0)::af aP z0 []::ai bk k::R)) (λe0 w' h=>?_) (λe0 fs' w' h=>?_)
  .rw[qd e0]at hK;exact hK z0 w' h.sub
  .rw[F e0]at hK;exact hK fs' w' h.sub
 .refine ⟨cY bd 154,hlook _ (by rw[e];rfl),bq ?_⟩
  show S6 bd.o K w;have hkd:(ag.aG 4).1≠0->d.c.kind=(ag.aG 4).1:=by rw[e]at hkind;exact hkind
  have ea:k.asks d=k.jC d:=by unfold ag.asks;rw[e];rfl
  rw[ea]at hK
  try dsimp only[ag.tell,ag.dC]at hK
  exact zE hk hN2 ho (h.sub:Ow B w0 w (aa bd (ah bk d 0 0 (-1) z0)::af aP z0 []::ai bk k::R)) λfs' w' h=>hK fs' w' h
 .refine ⟨cY bd 155,hlook _ (by rw[e];rfl),bq ?_⟩
  show S7 bd.o K w;have hkd:(ag.aG 5).1≠0->d.c.kind=(ag.aG 5).1:=by rw[e]at hkind;exact hkind
  have hkd:=hkd qb;have ea:k.asks d=ag.dC (k.resume d):=by unfold ag.asks;rw[e];rfl
  rw[ea]at hK
  try dsimp only[ag.tell,ag.dC]at hK
  exact zC hk hN2 (h.sub:Ow B w0 w (aa bd (ah bk d 0 0 (-1) z0)::ai bk k::af aP z0 []::R)) λw' h=>hK z0 w' h.sub
 .refine ⟨cY bd 156,hlook _ (by rw[e];rfl),bq ?_⟩
  show S8 bd.o K w;have hkd:(ag.aG 6).1≠0->d.c.kind=(ag.aG 6).1:=by rw[e]at hkind;exact hkind
  have hkd:=hkd qb;have ea:k.asks d=ag.tell (k.t.bV d.c.obj).1 ((k.dz d.c.obj).bZ (k.t.bV d.c.obj).2):=by unfold ag.asks;rw[e];rfl
  rw[ea]at hK
  try dsimp only[ag.tell,ag.dC]at hK
  exact yc hk hN2 (h.sub:Ow B w0 w (aa bd (ah bk d 0 0 (-1) z0)::ai bk k::af aP z0 []::R)) λw' h=>hK z0 w' h.sub
 .refine ⟨cY bd 157,hlook _ (by rw[e];rfl),bq ?_⟩
  show S9 bd.o K w;have hkd:(ag.aG 7).1≠0->d.c.kind=(ag.aG 7).1:=by rw[e]at hkind;exact hkind
  have hkd:=hkd qb;have ea:k.asks d=ag.tell (k.t.fO d.c.obj d.call.a).1 (k.bZ (k.t.fO d.c.obj d.call.a).2):=by unfold ag.asks;rw[e];rfl
  rw[ea]at hK
  try dsimp only[ag.tell,ag.dC]at hK
  exact DB hk.inv.ok (show Ow B w0 w (aa bd (ah bk d 0 0 (-1) z0)::ai bk k::af aP z0 []::R)from h.sub) λw' h=>hK z0 w' h.sub
 .refine ⟨cY bd 158,hlook _ (by rw[e];rfl),bq ?_⟩
  show Ta bd.o K w;have hkd:(ag.aG 8).1≠0->d.c.kind=(ag.aG 8).1:=by rw[e]at hkind;exact hkind
  have hkd:=hkd qb;have ea:k.asks d=k.send d:=by unfold ag.asks;rw[e];rfl
  rw[ea]at hK
  try dsimp only[ag.tell,ag.dC]at hK
  have t1:(k.send d).1.w=0/\(k.send d).1.forget= []:=by
   unfold ag.send ag.tell ag.dC;split
   .exact ⟨U,U⟩
   split
   .exact ⟨U,U⟩
   .exact ⟨U,U⟩
  rw[t1.1,t1.2]at hK;exact DT hk hN2 ho.1 (ho.2.2.2.2.1 (hkd)) (h.sub:Ow B w0 w (aa bd (ah bk d 0 0 (-1) z0)::ai bk k::af aP z0 []::R)) λw' h=>hK z0 w' h.sub
 .refine ⟨cY bd 159,hlook _ (by rw[e];rfl),bq ?_⟩
  show Tc bd.o K w;have hkd:(ag.aG 9).1≠0->d.c.kind=(ag.aG 9).1:=by rw[e]at hkind;exact hkind
  have hkd:=hkd qb;have ea:k.asks d=k.recv d:=by unfold ag.asks;rw[e];rfl
  rw[ea]at hK
  try dsimp only[ag.tell,ag.dC]at hK
  have t1:(k.recv d).1.w=0/\(k.recv d).1.forget= []:=by
   unfold ag.recv ag.tell ag.dC;split
   .exact ⟨U,U⟩
   split
   .exact ⟨U,U⟩
   .exact ⟨U,U⟩
  rw[t1.1,t1.2]at hK;exact DM hk hN2 ho.1 (ho.2.2.2.2.1 (hkd)) (h.sub:Ow B w0 w (aa bd (ah bk d 0 0 (-1) z0)::ai bk k::af aP z0 []::R)) λw' h=>hK z0 w' h.sub
 .refine ⟨cY bd 160,hlook _ (by rw[e];rfl),bq ?_⟩
  show Td bd.o K w;have hkd:(ag.aG 10).1≠0->d.c.kind=(ag.aG 10).1:=by rw[e]at hkind;exact hkind
  have hkd:=hkd qb;have ea:k.asks d=(⟨0,0,(k.bm d.c.obj d.c.ay).1,[]⟩,(k.bm d.c.obj d.c.ay).2):=by unfold ag.asks;rw[e];rfl
  rw[ea]at hK
  try dsimp only[ag.tell,ag.dC]at hK
  exact uS hk hN2 ho.1 (ho.2.2.2.2.2.1 (hkd)) (h.sub:Ow B w0 w (aa bd (ah bk d 0 0 (-1) z0)::ai bk k::af aP z0 []::R)) λw' h=>hK z0 w' h.sub
 .refine ⟨cY bd 161,hlook _ (by rw[e];rfl),bq ?_⟩
  show Te bd.o K w;have hkd:(ag.aG 11).1≠0->d.c.kind=(ag.aG 11).1:=by rw[e]at hkind;exact hkind
  have hkd:=hkd qb;have ea:k.asks d=k.wait d:=by unfold ag.asks;rw[e];rfl
  rw[ea]at hK
  try dsimp only[ag.tell,ag.dC]at hK
  have t1:(k.wait d).1.dY= -1/\(k.wait d).1.forget= []:=by
   unfold ag.wait ag.tell;split
   .exact ⟨U,U⟩
   .exact ⟨U,U⟩
  rw[t1.1,t1.2]at hK;exact D8 hk hN2 ho.1 (ho.2.2.2.2.2.1 (hkd)) (h.sub:Ow B w0 w (aa bd (ah bk d 0 0 (-1) z0)::ai bk k::af aP z0 []::R)) λw' h=>hK z0 w' h.sub
 .refine ⟨cY bd 162,hlook _ (by rw[e];rfl),bq ?_⟩
  show Tf bd.o K w;have hkd:(ag.aG 12).1≠0->d.c.kind=(ag.aG 12).1:=by rw[e]at hkind;exact hkind
  have hkd:=hkd qb;have ea:k.asks d=k.table d:=by unfold ag.asks;rw[e];rfl
  rw[ea]at hK
  try dsimp only[ag.tell,ag.dC]at hK
  have t1:(k.table d).1.w=0/\(k.table d).1.dY= -1/\(k.table d).1.forget= []:=by
   unfold ag.table ag.tell;split
   .exact ⟨U,U,U⟩
   .exact ⟨U,U,U⟩
  rw[t1.1,t1.2.1,t1.2.2]at hK;exact BP hk (h.sub:Ow B w0 w (aa bd (ah bk d 0 0 (-1) z0)::ai bk k::af aP z0 []::R)) λw' h=>hK z0 w' h.sub
 .refine ⟨cY bd 163,hlook _ (by rw[e];rfl),bq ?_⟩
  show Tg bd.o K w;have hkd:(ag.aG 13).1≠0->d.c.kind=(ag.aG 13).1:=by rw[e]at hkind;exact hkind
  have hkd:=hkd qb;have ea:k.asks d=k.mapped d:=by unfold ag.asks;rw[e];rfl
  rw[ea]at hK
  try dsimp only[ag.tell,ag.dC]at hK
  have t1:(k.mapped d).1.w=0/\(k.mapped d).1.dY= -1/\(k.mapped d).1.forget= []:=by
   unfold ag.mapped ag.tell;split
   .exact ⟨U,U,U⟩
   .exact ⟨U,U,U⟩
  rw[t1.1,t1.2.1,t1.2.2]at hK;exact zj hk (h.sub:Ow B w0 w (aa bd (ah bk d 0 0 (-1) z0)::ai bk k::af aP z0 []::R)) λw' h=>hK z0 w' h.sub
 .refine ⟨cY bd 164,hlook _ (by rw[e];rfl),bq ?_⟩
  show Ti bd.o K w;have hkd:(ag.aG 14).1≠0->d.c.kind=(ag.aG 14).1:=by rw[e]at hkind;exact hkind
  have hkd:=hkd qb;have ea:k.asks d=k.lL d:=by unfold ag.asks;rw[e];rfl
  rw[ea]at hK
  try dsimp only[ag.tell,ag.dC]at hK
  exact BQ hk ho.1 (ho.2.2.2.2.2.2.2.2.1 (hkd)) (h.sub:Ow B w0 w (aa bd (ah bk d 0 0 (-1) z0)::af aP z0 []::ai bk k::R)) λfs' w' h=>hK fs' w' h
 .refine ⟨cY bd 165,hlook _ (by rw[e];rfl),bq ?_⟩
  show Tj bd.o K w;have hkd:(ag.aG 15).1≠0->d.c.kind=(ag.aG 15).1:=by rw[e]at hkind;exact hkind
  have hkd:=hkd qb;have ea:k.asks d=k.bind d:=by unfold ag.asks;rw[e];rfl
  rw[ea]at hK
  try dsimp only[ag.tell,ag.dC]at hK
  have t1:(k.bind d).1.w=0/\(k.bind d).1.dY= -1/\(k.bind d).1.forget= []:=by
   unfold ag.bind ag.tell;split
   .exact ⟨U,U,U⟩
   .exact ⟨U,U,U⟩
  rw[t1.1,t1.2.1,t1.2.2]at hK;exact CX hk (h.sub:Ow B w0 w (aa bd (ah bk d 0 0 (-1) z0)::ai bk k::af aP z0 []::R)) λw' h=>hK z0 w' h.sub
 .refine ⟨cY bd 166,hlook _ (by rw[e];rfl),bq ?_⟩
  show Tk bd.o K w;have hkd:(ag.aG 16).1≠0->d.c.kind=(ag.aG 16).1:=by rw[e]at hkind;exact hkind
  have hkd:=hkd qb;have ea:k.asks d=ag.dC (k.iw (iu k.ln d.c.obj)):=by unfold ag.asks;rw[e];rfl
  rw[ea]at hK
  try dsimp only[ag.tell,ag.dC]at hK
  exact Es hk hN2 (h.sub:Ow B w0 w (aa bd (ah bk d 0 0 (-1) z0)::ai bk k::af aP z0 []::R)) λw' h=>hK z0 w' h.sub
theorem AH{core cur:O}{c:Call}{K:O->Pw}(hk:ba abz k)(hN:abz+64<=100000)(hcore:k.t.fC core=Z)(ha0:0<=c.ask)(ha1:c.ask<17)
  (hw0: -9223372036854775808<=c.ao) (hw1:c.ao<9223372036854775808)
  (h:Ow B w0 w (aa bd (ah bk ⟨core,cur,c,(0,0),Sl.ak⟩ 0 0 (-1) z0)::af aP z0 []::ai bk k::R))
  (hK:∀d' fs' w',Ow B w0 w' (aa bd (ah bk d' 0 (k.asked core cur c).1.w (k.asked core cur c).1.dY fs')::af aP fs' (k.asked core cur c).1.forget::ai bk (k.asked core cur c).2::R)->K (k.asked core cur c).1.e w'):
  Sy bd.o K w:=by
 apply Xj;unfold ag.asked at hK;refine⟨_,U,h.l2 U (Bc (ask:=c.ask) ha0 om h λw h=>?_)⟩;have hask:(ag.aG c.ask).1=(ag.aG c.ask).1:=rfl;refine h.a λnb w1 h=>?_;refine h.aA U U λw h=>?_;intro k9 hk9;have hbad:k.dn c.at_ (ag.aG c.ask).1=G->∀(sb cb:qg)(w:J),Ow B w0 w (aa bd (ah bk ⟨core,cur,c,(0,0),Sl.ak⟩ 0 0 (-1) z0)::af aP z0 []::ai bk k::R)->k9 sb cb G w:=λhB sb cb w h=>by rw[qd hB]at hK;apply hk9;intro k14 hk14;have hfin:k14 Z w:=hk14 _ _ (bh U (hK _ _ w h));exact bh U hfin
 have hgood:k.dn c.at_ (ag.aG c.ask).1=Z->∀(sb cb:X)(cc:cN)(w:J),cc=k.aZ c.at_->Ow B w0 w (aa sb [.z 0,.z c.at_]::aa cb cc.cells::aa nb [.z (ag.aG c.ask).1,.z (ag.aG c.ask).2]::aa bd (ah bk ⟨core,cur,c,(0,0),Sl.ak⟩ 0 0 (-1) z0)::af aP z0 []::ai bk k::R)->k9 sb.p cb.p Z w:=λhB sb cb cc w hcc h=>by
  subst hcc;rw[F (by rw[hB];decide)]at hK;obtain⟨hb1,hb2⟩:=gT hB;obtain⟨_,hH,ho,hcr,_⟩:=hk.cap hb1;apply hk9;intro k14 hk14;refine bc U ⟨_,h.aE U,_,h.aE U,h.l2 U ?_⟩;apply hk14;refine oU (λe=>?_) (λe=>?_)
  .rw[qd e]at hK
   exact hK ⟨core,cur,c,(0,0),Sl.ak⟩ z0 w (h.sub:Ow B w0 w (aa bd (ah bk ⟨core,cur,c,(0,0),Sl.ak⟩ 0 0 (-1) z0)::af aP z0 []::ai bk k::R))
  rw[F (by rw[e];exact λhh=>hh U)]at hK;refine h.dr λw h=>?_;refine h.aR U ⟨_,U,?_⟩;refine h.dx U ⟨?_,trivial⟩;refine wY (h.aA U U λw h=>?_);refine h.hd U ⟨_,U,?_,trivial⟩;refine wY (h.aA U U λw h=>?_);have h:Ow B w0 w (aa bd (ah bk ⟨core,cur,c,(0,c.at_),k.aZ c.at_⟩ 0 0 (-1) z0)::af aP z0 []::ai bk k::R):=h.sub;refine h.BX (Value.int .i64) (cY bd) λw1 h=>?_;generalize w.heap.size=m at h|-;refine h.jL (k:=(0:O)) (v:=150) (enc:=Value.int .i64) (encV:=cY bd) qJ (aX .i64 qA) 0 U λw h=>?_;refine h.jL (k:=(1:O)) (v:=151) (enc:=Value.int .i64) (encV:=cY bd) qJ (aX .i64 qA) 0 U λw h=>?_;refine h.jL (k:=(2:O)) (v:=152) (enc:=Value.int .i64) (encV:=cY bd) qJ (aX .i64 qA) 0 U λw h=>?_;refine h.jL (k:=(3:O)) (v:=153) (enc:=Value.int .i64) (encV:=cY bd) qJ (aX .i64 qA) 0 U λw h=>?_;refine h.jL (k:=(4:O)) (v:=154) (enc:=Value.int .i64) (encV:=cY bd) qJ (aX .i64 qA) 0 U λw h=>?_;refine h.jL (k:=(5:O)) (v:=155) (enc:=Value.int .i64) (encV:=cY bd) qJ (aX .i64 qA) 0 U λw h=>?_;refine h.jL (k:=(6:O)) (v:=156) (enc:=Value.int .i64) (encV:=cY bd) qJ (aX .i64 qA) 0 U λw h=>?_;refine h.jL (k:=(7:O)) (v:=157) (enc:=Value.int .i64) (encV:=cY bd) qJ (aX .i64 qA) 0 U λw h=>?_;refine h.jL (k:=(8:O)) (v:=158) (enc:=Value.int .i64) (encV:=cY bd) qJ (aX .i64 qA) 0 U λw h=>?_;refine h.jL (k:=(9:O)) (v:=159) (enc:=Value.int .i64) (encV:=cY bd) qJ (aX .i64 qA) 0 U λw h=>?_;refine h.jL (k:=(10:O)) (v:=160) (enc:=Value.int .i64) (encV:=cY bd) qJ (aX .i64 qA) 0 U λw h=>?_;refine h.jL (k:=(11:O)) (v:=161) (enc:=Value.int .i64) (encV:=cY bd) qJ (aX .i64 qA) 0 U λw h=>?_;refine h.jL (k:=(12:O)) (v:=162) (enc:=Value.int .i64) (encV:=cY bd) qJ (aX .i64 qA) 0 U λw h=>?_;refine h.jL (k:=(13:O)) (v:=163) (enc:=Value.int .i64) (encV:=cY bd) qJ (aX .i64 qA) 0 U λw h=>?_;refine h.jL (k:=(14:O)) (v:=164) (enc:=Value.int .i64) (encV:=cY bd) qJ (aX .i64 qA) 0 U λw h=>?_;refine h.jL (k:=(15:O)) (v:=165) (enc:=Value.int .i64) (encV:=cY bd) qJ (aX .i64 qA) 0 U λw h=>?_;refine h.jL (k:=(16:O)) (v:=166) (enc:=Value.int .i64) (encV:=cY bd) qJ (aX .i64 qA) 0 U λw h=>?_;have h:Ow B w0 w (kl (Value.int .i64) (cY bd) m HZ::aa bd (ah bk ⟨core,cur,c,(0,c.at_),k.aZ c.at_⟩ 0 0 (-1) z0)::af aP z0 []::ai bk k::R):=h;exact⟨_,U,h.l2 U (AG (d:=⟨core,cur,c,(0,c.at_),k.aZ c.at_⟩) hk hN hcore hH hcr ho ha0 ha1 hb2 hw0 hw1 h λfs' w' h=>hK _ fs' w' h)⟩
 refine h.dr λw h=>?_;refine⟨_,U,_,h.aF U,_,U,_,bj (h.aE U),h.l1 U ?_⟩
 (repeat' (first|exact trivial|(exact hbad (by assumption) _ _ _ h.sub)|(exact hgood (by assumption) _ _ _ _ (by assumption) h.sub)|(refine nq hk (h.pick (A:=ai bk k)) (λhB s c w h=>?_) (λhB w c hc h=>?_))|(refine h.al λw h=>?_)|(refine h.dr λw h=>?_)|(refine h.aR U ?_)|(refine h.dx U ?_)|(refine h.l1 U ?_)|(refine h.l2 U ?_)|(refine h.hd U ?_)|(refine⟨h.aF U,?_⟩)|(refine⟨h.aE U,?_⟩)|((refine h.aA U U λw h=>?_);(try dsimp only[putAt,Mf,LM]at h))|(refine eE ?_)|(refine _root_.Go.Vc.a2 ?_)|(refine h.jH U U λw h=>?_)|(refine h.fK U U λw h=>?_)|(refine And.intro ?_ ?_)))
theorem J0(x:O)(y:O)(hy:0<=y/\y<=7):0<=di .i64 x y/\di .i64 x y<=7:=by obtain⟨m,rfl⟩:=LB hy.1;obtain⟨p,hp,e⟩:=Sl.yy x m om;rw[e];omega
theorem jj{c:cN}:Sl.fU c=G↔((0<c.kind/\c.kind<10)/\0<=c.obj/\c.obj<2147483648)/\(0<=c.ar/\c.ar<=7)/\Sl.dZ c.guard c.bits=Z/\(Sl.cP c.kind=G->c.ar=7)/\(c.ay≠0->Sl.cW c.kind=Z)/\(c.bits≠0->c.kind=2):=by unfold Sl.fU;simp only[Bool.or_eq_false_iff,Bool.not_eq_false',LO,qB,Bool.and_eq_false_imp,qN,ne_eq,bne_eq_false_iff_eq,N2,and_assoc]
theorem GL{c:cN}(h:Sl.fU c=G):Sl.bY c=0:=by
 unfold Sl.bY;rw[h];split
 .rfl
 .rfl
theorem Fu{c:cN}{r g:O}(hc:Sl.bY c=0)(hm:(ag.fI c r g).2=0):Sl.bY (ag.fI c r g).1=0/\(ag.fI c r g).1.kind=c.kind/\(ag.fI c r g).1.obj=c.obj/\c.kind≠0:=by
 unfold ag.fI at*
 rw[F (by rw[hc];exact λh=>h U)]at*
 by_cases hr:¬(0<=r/\r<=7)
 .rw[qd hr]at hm;cases hm
 rw[F hr]at hm|-;by_cases h2:c.kind=0\/(g≠0/\(Sl.cW c.kind=G\/c.ay≠0))
 .rw[qd h2]at hm;cases hm
 rw[F h2];have hk:c.kind≠0:=λe=>h2 (.inl e);refine⟨?_,U,U,hk⟩;have hz:c≠Sl.ak:=λe=>hk (by rw[e];rfl);have hb:Sl.fU c=false:=by
  unfold Sl.bY at hc;rw[F hz]at hc;cases e:Sl.fU c with
  |false=>rfl
  |true=>rw[e,qd U]at hc;cases hc
 obtain⟨b1,b2,b3,b4,b5,b6⟩:=jj.1 hb;have hr7:0<=r/\r<=7:=Oz hr;have ha:=J0 c.ar r hr7;have hb2:Sl.fU { c with ar:=if Sl.cP c.kind then di .i64 c.ar r else c.ar,ay:=if g≠0 then g else c.ay}=false:=by
  refine jj.2 ⟨b1,?_,b3,λe=>?_,λe=>?_,b6⟩
  .dsimp only
   split
   .exact ha
   .exact b2
  .dsimp only at e|-
   rw[F (by rw[e];decide)];exact b4 e
  .dsimp only at e|-
   by_cases e0:g≠0
   .cases hh:Sl.cW c.kind with
    |true=>rfl
    |false=>exact qj (.inr ⟨e0,.inl hh⟩) h2
   .rw[F e0]at e;exact b5 e
 exact GL hb2
end
section
variable{abz:X}{k:ag}{d:oX}
theorem EX(hk:ba abz k){w:O}(hf:k.fc w 1=0):0<=w/\w<64/\k.H (0,w)=none:=by obtain⟨h1,h2,h3⟩:=hk.vZ hf;refine⟨h1,om,?_⟩;have:=h3 0 om;rw[show w+((0:X):O)=w from by omega]at this;exact this
theorem ba.mG(hk:ba abz k)(hs:k.H d.s=S d.c)(hr:Sl.fg d.c)(ho:k.fe d.c):ba abz (k.mG d).2:=by
 unfold ag.mG;split
 .exact hk
 split
 .exact hk
 rename_i hf;split
 .exact hk
 rename_i hm;obtain⟨h1,h2,h3⟩:=EX hk (Oz hf);obtain⟨_,he,_,_⟩:=hk.rk.held _ _ hs;obtain⟨m1,m2,m3,m4⟩:=Fu he (by omega:(ag.fI d.c d.call.a (qv.wrap d.call.b)).2=0);refine(hk.laid (by rw[hs];rfl) ⟨rfl,h1,h2⟩ h3 m1 (by rw[m2];exact m4) (rK hr (ly _)) ?_).1;unfold ag.fe at ho|-;rw[m2,m3];exact ho
theorem ba.move(hk:ba abz k)(hs:k.H d.s=S d.c):ba abz (k.move d).2:=by
 unfold ag.move;split
 .exact hk
 rename_i hf;obtain⟨h1,h2,h3⟩:=EX hk (Oz hf);have hsl:=(hk.held _ _ hs).1;obtain⟨i,hi⟩:=rR ((hk.mem d.s).2 (by rw[hs];rfl));obtain⟨x,hx,hxs⟩:=Tr.du hi;have hno:Tr.bA k.T (0,d.call.ao)=none:=pP λe=>by rw[hk.mem,h3]at e;cases e
 have hH:(Sl.dI k.bits k.H d.s (0,d.call.ao)).2=Sl.cC (Sl.cC k.H d.s N) (0,d.call.ao) (S d.c):=by unfold Sl.dI;rw[lk hk.b0 hsl,lk hk.b0 (s:=(0,d.call.ao)) ⟨U,h1,h2⟩,F qc,hs];dsimp only;rw[h3,F qb]
 have hT:(Tr.dI k.T d.s (0,d.call.ao)).2=k.T.set i ((0,d.call.ao),Tr.ud k.T i):=by unfold Tr.dI;rw[hi];dsimp only;rw[hno]
 obtain⟨n1,n2,n3,n4⟩:=hk.rk.held _ _ hs;rw[hH,hT];have hgi:(k.T.map (·.1))[i]?=S d.s:=by rw[LV,hx];exact qz S hxs
 show ba abz { k with H:=Sl.cC (Sl.cC k.H d.s N) (0,d.call.ao) (S d.c),T:=k.T.set i ((0,d.call.ao),Tr.ud k.T i)};refine { hk with
  rk:=(hk.rk.del d.s).put (lk hk.b0 ⟨U,h1,h2⟩) n2 n3 n4
  held:=λt c hc=>?_
  tok:=hk.tok.move hi hno
  mem:=λt=>?_}
 .have hc:Sl.cC (Sl.cC k.H d.s N) (0,d.call.ao) (S d.c) t=S c:=hc
  unfold Sl.cC at hc;split at hc
  .rename_i e
   cases hc;rw[e];exact⟨⟨U,h1,h2⟩,(hk.held _ _ hs).2⟩
  split at hc
  .cases hc
  .exact hk.held t c hc
 .rw[List.map_set]
  have hnd:=hk.tok.nd;have hlt:=(Lu.1 hgi).1;have hne:(0,d.call.ao)≠d.s:=λe=>by rw[<-e,h3]at hs;cases hs
  have hm:t∈(k.T.map (·.1)).set i (0,d.call.ao)↔t=(0,d.call.ao)\/(t∈k.T.map (·.1)/\t≠d.s):=by
   rw[List.set_eq_take_append_cons_drop,qd hlt,<-Sl.oA hnd hgi,OR];simp only[Mm,LD];constructor
   .rintro (h|h|h)
    .exact .inr (.inl h)
    .exact .inl h
    .exact .inr (.inr h)
   .rintro (h|h|h)
    .exact .inr (.inl h)
    .exact .inl h
    .exact .inr (.inr h)
  show t∈(k.T.map (·.1)).set i (0,d.call.ao)↔_;rw[hm,hk.mem];show _↔(Sl.cC (Sl.cC k.H d.s N) (0,d.call.ao) (S d.c) t).isSome=Z;unfold Sl.cC;by_cases e1:t=(0,d.call.ao)
  .simp[e1]
  .rw[F e1]
   by_cases e2:t=d.s
   .rw[qd e2];simp[e2,hne.symm]
   .rw[F e2];simp[e1,e2]
theorem ba.pX(hk:ba abz k){n:O}{m:Tb.dV}(hm:Tb.eZ m):ba abz (k.pX n m):=
 hk.ae (by rw[MJ]) λy hy=>by
  rcases Mz hy with hy|hy
  .exact hk.xZ y hy
  .rw[hy];exact hm
theorem ba.F6(hk:ba abz k)(n:O):Tb.eZ (k.iB n):=by
 unfold ag.iB;cases e:k.ae[n.toNat]? with
 |none=>exact Tb.eZ.new
 |some m=>exact hk.xZ m (L4 e)
theorem ba.ka(hk:ba abz k)(n:O):ba abz (k.ka n):=by
 unfold ag.ka;have hu:∀x∈k.u.set n.toNat { k.ij n with used:=0},wZ x:=λx hx=>by
  by_cases hlt:n.toNat<k.u.length
  .rcases Mz hx with hx|hx
   .exact hk.u x hx
   .have h1:wZ (k.ij n):=by unfold ag.ij;rw[gE hlt];exact hk.u _ (Mq _)
    rw[hx];exact⟨h1.bits,h1.top,h1.dvd,MN _⟩
  .rw[List.set_eq_of_length_le om]at hx
   exact hk.u x hx
 exact hk.Gp hu (by rw[MJ];exact Lv _) (by rw[MJ];exact hk.nu)
theorem ba.jC(hk:ba abz k):ba abz (k.jC d).2:=by
 have hnd:=va (s:=d.s) hk.tok;have hheld:∀s∈Tr.cF k.T d.s,(k.H s).isSome=true:=λs hs=>(hk.mem s).1 (u7 hs);obtain⟨h1,_⟩:=pC (Tr.cF k.T d.s).reverse k hk (Oe.2 (hnd.imp Ne.symm)) (λs hs=>hheld s (Ol.1 hs));unfold ag.jC;dsimp only;split
 .exact h1.ka _
 .exact h1
theorem ba.send(hk:ba abz k)(h0:0<=d.c.obj)(h1:d.c.obj<(k.ends.length:O)):ba (abz+1) (k.send d).2:=by
 obtain⟨_,hl⟩:=hk.fB h0 h1;have hse:=xW (k.fB d.c.obj) d.cur (ag.eN d) (d.call.c !=0);have hE:=hk.eA (n:=d.c.obj) (p:=((k.fB d.c.obj).send d.cur (ag.eN d) (d.call.c !=0)).2.2) om;unfold ag.send;split
 .exact hE
 split
 .exact hE.rest
 .exact hE.jq.dQ _
theorem ba.recv(hk:ba abz k)(h0:0<=d.c.obj)(h1:d.c.obj<(k.ends.length:O)):ba (abz+1) (k.recv d).2:=by
 obtain⟨_,hl⟩:=hk.fB h0 h1;have hse:=xS (k.fB d.c.obj) d.cur (d.call.c !=0);have hE:=hk.eA (n:=d.c.obj) (p:=((k.fB d.c.obj).recv d.cur (d.call.c !=0)).2.2) om;unfold ag.recv;split
 .exact hE
 split
 .exact hE.rest
 .exact hE.jq.dQ _
theorem ba.wait(hk:ba abz k)(h0:0<=d.c.obj)(h1:d.c.obj<(k.notes.length:O)):ba (abz+1) (k.wait d).2:=by
 obtain⟨_,hl⟩:=hk.ju h0 h1;have hwl:=yk (k.ju d.c.obj) d.cur (d.call.c !=0);have hE:=hk.iO (n:=d.c.obj) (p:=((k.ju d.c.obj).wait d.cur (d.call.c !=0)).2) om;unfold ag.wait;split
 .exact hE
 dsimp only;split
 .exact hE
 .exact hE.rest
theorem ba.bind(hk:ba abz k):ba abz (k.bind d).2:=by
 unfold ag.bind;split
 .exact hk
 rename_i hB;have hB:k.dn d.call.ao 5=true:=by
  cases e:k.dn d.call.ao 5 with
  |true=>rfl
  |false=>exact qj e hB
 obtain⟨hb1,hb2⟩:=gT hB;obtain⟨_,_,ho,_,_⟩:=hk.cap hb1;unfold ag.tell;dsimp only;unfold mc;cases hx:jK k.ln d.c.obj with
 |none=>exact hk
 |some x=>
  dsimp only;split
  .exact hk
  split
  .exact hk
  .refine hk.Le (by rw[MJ];exact hk.ln) λy hy hy2=>?_
   rcases Mz hy with hy|hy
   .exact hk.Ee y hy hy2
   .rw[hy];exact⟨ho.1,ho.2.2.2.2.2.1 (hb2 qb)⟩
theorem ba.iw(hk:ba abz k){r:(qh (O × O)× O)× wU}(h1:ba abz { k with ln:=r.2})(h2:∀y,r.1.1=S y->0<=y.1/\y.1<(k.notes.length:O)):ba (abz+1) (k.iw r).2.2:=by
 unfold ag.iw;split
 .exact h1.mono om
 .rename_i x e
  obtain⟨a,b⟩:=h2 x e;exact h1.bm a b
theorem ba.asks(hk:ba abz k)(hN:abz+64<=100000)(hcore:k.t.fC d.core=Z)(hH:k.H d.s=S d.c)(hr:Sl.fg d.c)(ho:k.fe d.c)(ha0:0<=d.call.ask)(ha1:d.call.ask<17)
  (hkind:(ag.aG d.call.ask).1≠0->d.c.kind=(ag.aG d.call.ask).1):ba (abz+64) (k.asks d).2:=by
 have hsome:(k.H d.s).isSome=true:=by rw[hH];rfl
 have hask:d.call.ask=0\/d.call.ask=1\/d.call.ask=2\/d.call.ask=3\/d.call.ask=4\/d.call.ask=5\/d.call.ask=6\/d.call.ask=7\/d.call.ask=8\/d.call.ask=9\/d.call.ask=10\/d.call.ask=11\/d.call.ask=12\/d.call.ask=13\/d.call.ask=14\/d.call.ask=15\/d.call.ask=16:=om
 have m0:∀{x:ag},ba abz x->ba (abz+64) x:=λh=>h.mono om;have m1:∀{x:ag},ba (abz+1) x->ba (abz+64) x:=λh=>h.mono om;rcases hask with e|e|e|e|e|e|e|e|e|e|e|e|e|e|e|e|e
 .have ea:k.asks d=ag.tell (k.eS d).1 (k.eS d).2:=by unfold ag.asks;rw[e];rfl
  rw[ea];have hkd:(ag.aG 0).1≠0->d.c.kind=(ag.aG 0).1:=by rw[e]at hkind;exact hkind
  have hkd:=hkd qb;exact hk.eS hN hsome hkd ho hcore
 .have ea:k.asks d=ag.tell (k.mG d).1 (k.mG d).2:=by unfold ag.asks;rw[e];rfl
  rw[ea];exact m0 (hk.mG hH hr ho)
 .have ea:k.asks d=ag.tell (k.move d).1 (k.move d).2:=by unfold ag.asks;rw[e];rfl
  rw[ea];exact m0 (hk.move hH)
 .have ea:k.asks d=if d.call.at_=0 then ag.tell 181 k else(⟨0,0,-1,(k.gone d.s).1⟩,(k.gone d.s).2):=by unfold ag.asks;rw[e];rfl
  rw[ea];split
  .exact m0 hk
  .exact m0 (hk.gone hsome).1
 .have ea:k.asks d=k.jC d:=by unfold ag.asks;rw[e];rfl
  rw[ea];exact m0 hk.jC
 .have ea:k.asks d=ag.dC (k.resume d):=by unfold ag.asks;rw[e];rfl
  rw[ea];have hkd:(ag.aG 5).1≠0->d.c.kind=(ag.aG 5).1:=by rw[e]at hkind;exact hkind
  have hkd:=hkd qb;have h2:ba abz (if k.t.cH d.c.obj=Z/\(k.t.th d.c.obj).st=3 then k.dz d.c.obj else k):=by
   split
   .exact hk.dz _
   .exact hk
  exact m0 (h2.dQ _)
 .have ea:k.asks d=ag.tell (k.t.bV d.c.obj).1 ((k.dz d.c.obj).bZ (k.t.bV d.c.obj).2):=by unfold ag.asks;rw[e];rfl
  rw[ea];have hkd:(ag.aG 6).1≠0->d.c.kind=(ag.aG 6).1:=by rw[e]at hkind;exact hkind
  have hkd:=hkd qb;exact m0 ((hk.dz d.c.obj).bZ (hk.inv.suspend _) (by rw[mW];exact Lv _))
 .have ea:k.asks d=ag.tell (k.t.fO d.c.obj d.call.a).1 (k.bZ (k.t.fO d.c.obj d.call.a).2):=by unfold ag.asks;rw[e];rfl
  rw[ea];have hkd:(ag.aG 7).1≠0->d.c.kind=(ag.aG 7).1:=by rw[e]at hkind;exact hkind
  have hkd:=hkd qb;exact m0 (hk.bZ (hk.inv.prio _ _) (by rw[wH];exact Lv _))
 .have ea:k.asks d=k.send d:=by unfold ag.asks;rw[e];rfl
  rw[ea];have hkd:(ag.aG 8).1≠0->d.c.kind=(ag.aG 8).1:=by rw[e]at hkind;exact hkind
  have hkd:=hkd qb;exact m1 (hk.send ho.1 (ho.2.2.2.2.1 hkd))
 .have ea:k.asks d=k.recv d:=by unfold ag.asks;rw[e];rfl
  rw[ea];have hkd:(ag.aG 9).1≠0->d.c.kind=(ag.aG 9).1:=by rw[e]at hkind;exact hkind
  have hkd:=hkd qb;exact m1 (hk.recv ho.1 (ho.2.2.2.2.1 hkd))
 .have ea:k.asks d=(⟨0,0,(k.bm d.c.obj d.c.ay).1,[]⟩,(k.bm d.c.obj d.c.ay).2):=by unfold ag.asks;rw[e];rfl
  rw[ea];have hkd:(ag.aG 10).1≠0->d.c.kind=(ag.aG 10).1:=by rw[e]at hkind;exact hkind
  have hkd:=hkd qb;exact m1 (hk.bm ho.1 (ho.2.2.2.2.2.1 hkd))
 .have ea:k.asks d=k.wait d:=by unfold ag.asks;rw[e];rfl
  rw[ea];have hkd:(ag.aG 11).1≠0->d.c.kind=(ag.aG 11).1:=by rw[e]at hkind;exact hkind
  have hkd:=hkd qb;exact m1 (hk.wait ho.1 (ho.2.2.2.2.2.1 hkd))
 .have ea:k.asks d=k.table d:=by unfold ag.asks;rw[e];rfl
  rw[ea];have hkd:(ag.aG 12).1≠0->d.c.kind=(ag.aG 12).1:=by rw[e]at hkind;exact hkind
  have hkd:=hkd qb;unfold ag.table;split
  .exact m0 hk
  .exact m0 (hk.pX ((hk.F6 _).table _ _))
 .have ea:k.asks d=k.mapped d:=by unfold ag.asks;rw[e];rfl
  rw[ea];have hkd:(ag.aG 13).1≠0->d.c.kind=(ag.aG 13).1:=by rw[e]at hkind;exact hkind
  have hkd:=hkd qb;unfold ag.mapped;split
  .exact m0 hk
  .exact m0 (hk.pX ((hk.F6 _).map _ _))
 .have ea:k.asks d=k.lL d:=by unfold ag.asks;rw[e];rfl
  rw[ea];have hkd:(ag.aG 14).1≠0->d.c.kind=(ag.aG 14).1:=by rw[e]at hkind;exact hkind
  have hkd:=hkd qb;exact m0 (hk.pX ((hk.F6 _).lL _))
 .have ea:k.asks d=k.bind d:=by unfold ag.asks;rw[e];rfl
  rw[ea];have hkd:(ag.aG 15).1≠0->d.c.kind=(ag.aG 15).1:=by rw[e]at hkind;exact hkind
  have hkd:=hkd qb;exact m0 hk.bind
 .have ea:k.asks d=ag.dC (k.iw (iu k.ln d.c.obj)):=by unfold ag.asks;rw[e];rfl
  rw[ea];have hkd:(ag.aG 16).1≠0->d.c.kind=(ag.aG 16).1:=by rw[e]at hkind;exact hkind
  have hkd:=hkd qb;exact m1 (hk.iw hk.JZ λy hy=>tV hk hy)
end
section
variable{B:X}{w0 w:J}{R L:Y aH}{bd bk:X}{k:ag}{d:oX}{ec wv wk:O}{fs:Sl}{abz:X}
theorem ba.pick(hk:ba abz k)(core:O):ba abz (k.bZ (k.t.aW core)):=hk.bZ (hk.inv.aW _) (by rw[gZ];exact Lv _)
theorem ba.asked(hk:ba abz k)(hN:abz+64<=100000){core cur:O}{c:Call}(hcore:k.t.fC core=Z)(ha0:0<=c.ask)(ha1:c.ask<17):ba (abz+64) (k.asked core cur c).2:=by
 unfold ag.asked;split
 .exact hk.mono om
 rename_i hB;have hB:k.dn c.at_ (ag.aG c.ask).1=true:=by
  cases e:k.dn c.at_ (ag.aG c.ask).1 with
  |true=>rfl
  |false=>exact qj e hB
 split
 .exact hk.mono om
 obtain⟨hb1,hb2⟩:=gT hB;obtain⟨_,hH,ho,hcr,_⟩:=hk.cap hb1;exact hk.asks hN hcore hH hcr ho ha0 ha1 hb2
theorem ba.do(hk:ba abz k)(hN:abz+64<=100000)(core:O)(c:Call):ba (abz+64) (k.do core c).2:=by
 have hp:=hk.pick core;unfold ag.do
 cases hr:(k.t.aW core).bP core with
 |none=>exact hp.mono om
 |some cur=>
  dsimp only;split
  .exact hp.mono om
  split
  .exact (hp.bZ (hp.inv.yield core) (by rw[sw];exact Lv _)).mono om
  .rename_i h1 h2
   exact hp.asked hN (hp.inv.runIn hr).1 om om
theorem ba.tick(hk:ba abz k)(core:O):ba abz (k.tick core):=hk.bZ (hk.inv.tick _) (by rw[zV];exact Lv _)
theorem ba.irq(hk:ba abz k)(line:O):ba (abz+1) (k.irq line).2.2:=hk.iw hk.raise λy hy=>oN hk hy
theorem gk{core:O}{c:Call}{K:O->O->O->Sl->Pw}(hk:ba abz k)(hN:abz+64<=100000)(hw0: -9223372036854775808<=c.ao)(hw1:c.ao<9223372036854775808)
  (h:Ow B w0 w (ai bk k::R))
  (hK:∀fs' w',Ow B w0 w' (af aP fs' (k.do core c).1.forget::ai bk (k.do core c).2::R)->K (k.do core c).1.e (k.do core c).1.w (k.do core c).1.dY fs' w'):
  OF bk.o core c.ask c.at_ c.ao c.a c.b c.c K w:=by
 apply W5;refine h.a λcb w1 h=>?_;refine h.a λob w2 h=>?_;refine h.dx U ?_;refine h.a λbd w3 h=>?_;have h:=Ow.cZ (E:=aP) h;have h:Ow B w0 w3 (af aP z0 []::aa bd (ah bk ⟨core,0,c,(0,0),Sl.ak⟩ 0 0 (-1) z0)::aa ob [.z 0,.y 0,.z 0,.slice N 0 0]::aa cb c.cl::ai bk k::R):=h;have h:Ow B w0 w3 (ai bk k::aa bd (ah bk ⟨core,0,c,(0,0),Sl.ak⟩ 0 0 (-1) z0)::af aP z0 []::aa ob [.z 0,.y 0,.z 0,.slice N 0 0]::aa cb c.cl::R):=h.sub;obtain⟨bt,abp,h,hc2,hback⟩:=h.ow;refine⟨_,U,_,hc2,Th.iq hk.inv.ok h λw h=>?_⟩;have h:=hback _ w _ gZ h;have hp:=hk.pick core;unfold ag.do at hK
 refine⟨_,U,h.fK U U λw h=>?_⟩;intro k25 hk25;have fin:∀(d':oX)(e wv wk:O)(fs:Sl)(abu:Y lM)(k':ag)(w:J),(∀w',Ow B w0 w' (af aP fs abu::ai bk k'::R)->K e wv wk fs w')->
   Ow B w0 w (aa bd (ah bk d' e wv wk fs)::af aP fs abu::ai bk k'::aa ob [.z 0,.y 0,.z 0,.slice N 0 0]::R)->k25 w:=λd' e wv wk fs abu k' w hK h=>by
  apply hk25;refine⟨_,U,dR (h.nT U (h.aA U U λw h=>?_))⟩;refine h.nT U ?_;exact hK w h.sub
 cases hr:(k.t.aW core).bP core with
 |none=>
  rw[hr]at hK;refine bh U ?_;refine⟨_,U,h.fK U U λw h=>?_⟩;refine fin ⟨core,0,c,(0,0),Sl.ak⟩ 182 0 (-1) z0 [] (k.bZ (k.t.aW core)) w (λw' h=>hK _ w' h) ?_;have h:Ow B w0 w (ai bk (k.bZ (k.t.aW core))::aa bd (ah bk ⟨core,0,c,(0,0),Sl.ak⟩ 182 0 (-1) z0)::af aP z0 []::aa ob [.z 0,.y 0,.z 0,.slice N 0 0]::aa cb c.cl::R):=by rw[hr]at h;exact h
  exact h.sub
 |some cur=>
  rw[hr]at hK;dsimp only at hK;have h:Ow B w0 w (ai bk (k.bZ (k.t.aW core))::aa bd (ah bk ⟨core,cur,c,(0,0),Sl.ak⟩ 0 0 (-1) z0)::af aP z0 []::aa ob [.z 0,.y 0,.z 0,.slice N 0 0]::aa cb c.cl::R):=by rw[hr]at h;exact h
  refine bc U ?_;intro k39 hk39;have hbad:c.ask<0\/18<=c.ask->k39 Z w:=λhb=>by
   rw[qd hb]at hK;apply hk39;refine bh U ?_;refine⟨_,U,h.fK U U λw h=>?_⟩;refine fin ⟨core,cur,c,(0,0),Sl.ak⟩ 180 0 (-1) z0 [] (k.bZ (k.t.aW core)) w (λw' h=>hK _ w' h) ?_;have h:Ow B w0 w (ai bk (k.bZ (k.t.aW core))::aa bd (ah bk ⟨core,cur,c,(0,0),Sl.ak⟩ 180 0 (-1) z0)::af aP z0 []::aa ob [.z 0,.y 0,.z 0,.slice N 0 0]::aa cb c.cl::R):=h;exact h.sub
  have hgood:¬(c.ask<0\/18<=c.ask)->k39 G w:=λhb=>by
   rw[F hb]at hK;apply hk39;refine bc U ?_;refine h.l1 U ?_;refine dE (λe=>?_) (λe=>?_)
   .rw[qd e]at hK
    obtain⟨bt,abp,h,hc2,hback⟩:=h.ow;refine⟨_,U,_,hc2,Th.mY hp.inv.ok h λw h=>?_⟩;have h:=hback _ w _ sw h;refine fin ⟨core,cur,c,(0,0),Sl.ak⟩ 0 0 (-1) z0 [] ((k.bZ (k.t.aW core)).bZ ((k.t.aW core).yield core)) w (λw' h=>hK _ w' h) ?_;have h:Ow B w0 w (ai bk ((k.bZ (k.t.aW core)).bZ ((k.t.aW core).yield core))::aa bd (ah bk ⟨core,cur,c,(0,0),Sl.ak⟩ 0 0 (-1) z0)::af aP z0 []::aa ob [.z 0,.y 0,.z 0,.slice N 0 0]::aa cb c.cl::R):=h;exact h.sub
   .rw[F e]at hK
    have hk1:=hp.asked (core:=core) (cur:=cur) (c:=c) hN (hp.inv.runIn hr).1 om om;refine AH (core:=core) (cur:=cur) (c:=c) hp hN (hp.inv.runIn hr).1 om om hw0 hw1 (h.sub:Ow B w0 w (aa bd (ah bk ⟨core,cur,c,(0,0),Sl.ak⟩ 0 0 (-1) z0)::af aP z0 []::ai bk (k.bZ (k.t.aW core))::aa ob [.z 0,.y 0,.z 0,.slice N 0 0]::R)) λd' fs' w h=>?_;refine⟨_,U,h.fK U U λw h=>?_⟩;generalize (k.bZ (k.t.aW core)).asked core cur c=A at h hK;exact fin d' A.1.e A.1.w A.1.dY fs' A.1.forget A.2 w (λw' h=>hK _ w' h) h
  refine h.l1 U ?_;refine bo (λe=>?_) (λe=>?_)
  .exact hbad (.inl e)
  .refine h.l1 U ?_
   by_cases e2:c.ask>=18
   .rw[qu e2];exact hbad (.inr e2)
   .rw[qm e2];exact hgood om
end
namespace Sl
section
variable{B:X}{w0 w:J}{R L:Y aH}{b:X}{bits:Y O}{H:Hs}
structure xa(H:Hs)(t:Slot)(hs:Y (Slot × cN)):Prop where
 kg:hs.Pairwise (λx y=>nC x.1 y.1=Z)
 mem:∀k c,(k,c)∈hs↔H k=S c/\nC k t=Z
theorem xa.none{H:Hs}{t t':Slot}{hs:Y (Slot × cN)}(h:xa H t hs)(hn:∀k c,H k=S c->(nC k t=Z↔nC k t'=Z)):xa H t' hs:=
 ⟨h.kg,λk c=>by
  rw[h.mem];constructor
  .rintro ⟨h1,h2⟩;exact⟨h1,(hn k c h1).1 h2⟩
  .rintro ⟨h1,h2⟩;exact⟨h1,(hn k c h1).2 h2⟩⟩
theorem xa.add{H:Hs}{i k:O}{c:cN}{hs:Y (Slot × cN)}(h:xa H (i,k) hs)(hc:H (i,k)=S c):xa H (i,k+1) (hs++ [((i,k),c)]):=by
 refine⟨?_,λs d=>?_⟩
 .rw[List.pairwise_append]
  refine⟨h.kg,qc,λx hx y hy=>?_⟩;simp only[Mk]at hy;subst hy;exact((h.mem x.1 x.2).1 hx).2
 .rw[Mm,h.mem,Mk]
  constructor
  .rintro (⟨h1,h2⟩|e)
   .exact ⟨h1,by simp only[nC,qB]at *;omega⟩
   .cases e
    exact⟨hc,by simp only[nC,qB];exact .inr ⟨trivial,Int.lt_succ k⟩⟩
  .rintro ⟨h1,h2⟩
   by_cases e:s=(i,k)
   .subst e
    rw[hc]at h1;cases h1;exact .inr U
   .refine .inl ⟨h1,?_⟩
    have:s.1≠i\/s.2≠k:=by
     by_cases e1:s.1=i
     .exact .inr λe2=>e (Prod.ext e1 e2)
     .exact .inl e1
    simp only[nC,qB]at*
    omega
theorem Gq{t:Slot}{hs:Y (Slot × cN)}(hk:rh bits H)(hu:xa H t hs):hs.length<=16384:=by
 have:=tE 16384 (hs.map λx=>x.1.1*256+x.1.2) (by
  refine N3.2 (List.Pairwise.imp_of_mem (λ{x y}hx hy hne e=>?_) hu.kg);have:=hk.bound ((hu.mem x.1 x.2).1 hx).1;have:=hk.bound ((hu.mem y.1 y.2).1 hy).1;simp only[nC,qB]at hne;omega) λz hz=>by
  obtain⟨x,hx,rfl⟩:=L2.1 hz;have:=hk.bound ((hu.mem x.1 x.2).1 hx).1;omega
 simpa using this
theorem E2{i:X}{z:O}(hk:rh bits H)(hb:bits[i]?=S z){k:Slot}{c:cN}(e:H k=S c)(ek:k.1=(i:O)):0<=k.2/\k.2<((rowOf H i z).length:O):=by
 obtain⟨n',k',z',e2,hb',hz',hk'⟩:=fX (hk.held _ _ e).1;subst e2;have:n'=i:=by simp only at ek;omega
 subst this;rw[hb]at hb';cases hb';rw[gC hz'];exact⟨by simp only;omega,by simp only;omega⟩
theorem lC{K:Sl->Pw}(h:Ow B w0 w (bf b bits H::R))(hK:∀s hs w',kM H hs->Ow B w0 w' (af dW s hs::bf b bits H::R)->K s w'):Q7 b.o K w:=by
 apply ZF;refine h.a λp w1 h=>?_;have h:=Ow.yI (E:=dW) h [] U;have h:=h.cq;obtain⟨sl,ss,hk,hsl,h⟩:=h.lg;have hfew:=hk.eC;intro l3 hl3;have loop:∀(j i:X)(out:Sl)(hs:Y (Slot × cN))(w:J),i+j=bits.length->xa H ((i:O),0) hs->Ow B w0 w (af dW out hs::fb mm ss (rowsOf bits H)::aa b [bg sl]::af Ah sl ss::R)->l3 out (i:O) w:=by
  intro j;induction j with
  |zero=>
   intro i out hs w hi hu h;apply hl3;have hlen:=h.aL sl;repeat first|refine h.l1 U ?_|refine eE ?_
   refine aw om ?_;refine hK out hs _ ⟨hu.kg,λk c=>?_⟩ (Ow.cq (Ow.dL (s:=sl) (ss:=ss) hk h.sub));rw[hu.mem];refine⟨λe=>e.1,λe=>⟨e,?_⟩⟩;obtain⟨n',k',z',rfl,hb',hz',hk'⟩:=fX (hk.held _ _ e).1;have:=(Lu.1 hb').1;simp only[nC,qB];omega
  |succ j ih=>
   intro i out hs w hi hu h;apply hl3;have hlen:=h.aL sl;repeat first|refine h.l1 U ?_|refine eE ?_
   refine az om ?_;have hb:bits[i]?=S bits[i]:=gE om;generalize bits[i]=z at hb;obtain⟨sn,hss⟩:∃sn,ss[i]?=S sn:=⟨_,gE om⟩
   have hrl:=h.cq.gC hss (dq hb);have hr256:(rowOf H i z).length<=256:=by
    by_cases hz:z= -1
    .unfold rowOf;rw[qd hz];simp
    .rw[gC hz]
     rcases hk.Eg z (L4 hb)with e|e
     .exact qj e hz
     .have:2^z.toNat<=2^8:=Mh om om
      omega
   intro l9 hl9;have loop2:∀(j k:X)(out:Sl)(hs:Y (Slot × cN))(w:J),k+j=(rowOf H i z).length->xa H ((i:O),(k:O)) hs->Ow B w0 w (af dW out hs::fb mm ss (rowsOf bits H)::aa b [bg sl]::af Ah sl ss::R)->l9 out (k:O) w:=by
    intro j2;induction j2 with
    |zero=>
     intro k out hs w hkj hu h;apply hl9;repeat first|refine h.l1 U ?_|refine eE ?_
     refine h.cz U hss λa ha hc0 hc1=>?_;refine⟨_,hc0 _ U,aw om ?_⟩;rw[wI i om];refine ih (i+1) out hs w om (hu.none λs c e=>?_) h;have hbd:=hk.bound e;have:s.1=(i:O)->s.2<((rowOf H i z).length:O):=λek=>(E2 hk hb e ek).2;simp only[nC,qB];omega
    |succ j2 ih2=>
     intro k out hs w hkj hu h;apply hl9;repeat first|refine h.l1 U ?_|refine eE ?_
     refine h.cz U hss λa ha hc0 hc1=>?_;refine⟨_,hc0 _ U,az om ?_⟩;have hz:z≠ -1:=λe=>by
      have:(rowOf H i z).length=0:=by unfold rowOf;rw[qd e];rfl
      omega
     have hkl:k<2^z.toNat:=by rw[gC hz]at hkj;omega
     repeat first|refine h.l1 U ?_|refine eE ?_
     refine h.cz U hss λa ha hc0 hc1=>?_;refine⟨_,hc0 _ U,h.cq.tp hss (dq hb) (k:=k) U (fS hz hkl) λa2 ha2 hd0 hd=>?_⟩;refine⟨((H ((i:O),(k:O))).getD ak).kind,hd0 _ U,?_⟩;have hw1:qf.wrap ((k:O)+1)=((k+1:X):O):=by rw[wr om om];omega
     cases hx:H ((i:O),(k:O))with
     |none=>
      refine fa U ?_;rw[hw1];refine ih2 (k+1) out hs w om (hu.none λs c e=>?_) h;have:s≠((i:O),(k:O)):=λe2=>by rw[e2,hx]at e;cases e
      have:s.1≠(i:O)\/s.2≠(k:O):=by
       by_cases e1:s.1=(i:O)
       .exact .inr λe2=>this (Prod.ext e1 e2)
       .exact .inl e1
      simp only[nC,qB];omega
     |some x=>
      refine iv (hk.held _ _ hx).2.2.1 ?_;have hul:=Gq hk hu;repeat first|refine h.l1 U ?_|refine eE ?_
      refine h.cz U hss λa ha hc0 hc1=>?_;refine⟨_,hc0 _ U,h.cq.tp hss (dq hb) (k:=k) U (fS hz hkl) λa2 ha2 hd0 hd=>?_⟩;rw[hx]at hd;refine Cc hd ?_;refine h.a λd3 w3 h=>?_;refine vQ (s:=out) (y:=(((i:O),(k:O)),x)) h om λs' w hs' h=>?_;rw[hw1];exact ih2 (k+1) s' _ w om (by
       have:=hu.add hx
       rwa [show((k:O)+1)=((k+1:X):O)from by omega]at this) h.sub
   exact loop2 (rowOf H i z).length 0 out hs w om hu h
 refine loop bits.length 0 _ [] w1 om ⟨List.Pairwise.nil,λk c=>?_⟩ h.sub;constructor
 .intro e;cases e
 .rintro ⟨e,e2⟩
  have:=hk.bound e;simp only[nC,qB]at e2;omega
theorem lE{s:Slot}{K:O->O->O->O->O->O->O->Pw}(h:Ow B w0 w (bf b bits H::R))
  (h1:aQ bits s=G->∀w',Ow B w0 w' (bf b bits H::R)->K 0 0 0 0 0 0 50 w')
  (h2:aQ bits s=Z->H s=N->∀w',Ow B w0 w' (bf b bits H::R)->K 0 0 0 0 0 0 52 w')
  (h3:aQ bits s=Z->∀c,H s=S c->∀w',Ow B w0 w' (bf b bits (cC H s N)::R)->K c.kind c.obj c.ar c.ay c.guard c.bits 0 w'):RH b.o s.1 s.2 K w:=by
 apply ZL;repeat first|refine h.al λw h=>?_|refine h.aR U ?_
 refine fP (s:=s) h.kh λw h=>?_;refine HH (λe=>?_) (λe=>?_)
 ·(repeat first|refine h.aR U ?_|refine h.aA U U λw h=>?_)
  exact h1 e _ h.sub
 have hth:=e;obtain⟨n,k,z,rfl,hb,hz,hkl⟩:=fX e;obtain⟨sl,ss,hk,hsl,h⟩:=h.lg;obtain⟨sn,hss⟩:∃sn,ss[n]?=S sn:=⟨_,gE (by have:=(Lu.1 hb).1;omega)⟩
 repeat first|refine h.dr λw h=>?_|refine h.l1 U ?_|refine eE ?_
 refine h.cz U hss λa ha hc0 hc1=>?_;refine⟨_,hc0 _ U,?_⟩
 (refine h.l1 U ?_)
 refine h.tp hss (dq hb) U (fS hz hkl) λa2 ha2 hd0 hd=>?_;refine Cc hd ?_;repeat first|refine h.al λw h=>?_|refine h.l1 U ?_|refine h.aA U U λw h=>?_|refine _root_.Go.Vc.a2 ?_
 cases hs:H ((n:O),(k:O))with
 |none=>
  refine bh U ?_;repeat first|refine h.aR U ?_|refine h.aA U U λw h=>?_
  exact h2 hth hs _ (Ow.dL (s:=sl) (ss:=ss) hk h.sub)
 |some c=>
  rw[hs]at h;dsimp only[Nd]at h|-;refine nQ (hk.held _ _ hs).2.2.1 ?_;repeat first|refine h.dr λw h=>?_|refine h.l1 U ?_|refine eE ?_
  refine h.cz U hss λa ha hc0 hc1=>?_;refine⟨_,hc0 _ U,?_⟩
  (refine h.l1 U ?_)
  refine h.cq.tp hss (dq hb) U (fS hz hkl) λa2 ha2 hd0 hd=>?_
  (refine _root_.Go.Vc.a2 ?_)
  refine h.cq.Hi ak hss (dq hb) U (by rw[gC hz];exact hkl) ha2 λw h=>?_;rw[show(rowsOf bits H).set n ((rowOf H n z).set k ak)=rowsOf bits (cC H ((n:O),(k:O)) N)from(pV hb hz hkl N).symm]at h;repeat first|refine h.aR U ?_|refine h.aA U U λw h=>?_
  exact h3 hth c hs _ (Ow.dL (s:=sl) (ss:=ss) (hk.del _) h.sub)
theorem te{a c:Slot}{K:O->Pw}(h:Ow B w0 w (bf b bits H::R))(hK:∀w',Ow B w0 w' (bf b bits (dI bits H a c).2::R)->K (dI bits H a c).1 w'):Tn b.o a.1 a.2 c.1 c.2 K w:=by
 apply ZI;refine h.al λw1 h=>?_;refine h.a λp w2 h=>?_;generalize w1.heap.size=q at h|-;intro k8 hk8;have no:∀w,(aQ bits a=G\/aQ bits c=G)->Ow B w0 w (bf b bits H::R)->k8 Z w:=λw e h=>by
  apply hk8;refine bh U ?_;have es:dI bits H a c=(50,H):=by unfold dI;rw[qd e]
  rw[es]at hK;exact hK _ h
 (refine h.aR U ?_)
 refine fP (s:=a) h.kh λw h=>?_;refine HH (λe=>no _ (.inl e) h.sub) (λta=>?_)
 (refine h.aR U ?_)
 refine fP (s:=c) h λw h=>?_;cases tc:aQ bits c with
 |false=>exact no _ (.inr tc) h.sub
 |true=>
  apply hk8;refine bc U ?_;have hkk:=h.JE;have hn:¬(aQ bits a=G\/aQ bits c=G):=by rw[ta,tc];simp
  have ta':=ta;have tc':=tc;obtain⟨n,k,z,rfl,hb,hz,hkl⟩:=fX ta;obtain⟨n2,k2,z2,rfl,hb2,hz2,hkl2⟩:=fX tc;obtain⟨sl,ss,hk,hsl,h⟩:=h.lg;obtain⟨sn,hss⟩:∃sn,ss[n]?=S sn:=⟨_,gE (by have:=(Lu.1 hb).1;omega)⟩
  obtain⟨sn2,hss2⟩:∃sn,ss[n2]?=S sn:=⟨_,gE (by have:=(Lu.1 hb2).1;omega)⟩
  repeat first|refine h.dr λw h=>?_|refine h.l1 U ?_|refine eE ?_
  refine h.cz U hss λa ha hc0 hc1=>?_;refine⟨_,hc0 _ U,?_⟩
  (refine h.l1 U ?_)
  refine h.tp hss (dq hb) U (fS hz hkl) λa2 ha2 hd0 hd=>?_;refine⟨((H ((n:O),(k:O))).getD ak).kind,hd0 _ U,?_⟩;unfold dI at hK;rw[F hn]at hK;cases hx:H ((n:O),(k:O))with
  |none=>
   rw[hx]at hK;refine bh U ?_;exact hK _ (Ow.dL (s:=sl) (ss:=ss) hk h.sub)
  |some x=>
   rw[hx]at hK;dsimp only at hK;refine nQ (hk.held _ _ hx).2.2.1 ?_;repeat first|refine h.dr λw h=>?_|refine h.l1 U ?_|refine eE ?_
   refine h.cz U hss2 λa ha hc0 hc1=>?_;refine⟨_,hc0 _ U,?_⟩
   (refine h.l1 U ?_)
   refine h.tp hss2 (dq hb2) U (fS hz2 hkl2) λa3 ha3 hf0 hf=>?_;refine⟨((H ((n2:O),(k2:O))).getD ak).kind,hf0 _ U,?_⟩;cases hy:H ((n2:O),(k2:O))with
   |some y=>
    rw[hy]at hK;simp only[Option.isSome_some,qC]at hK;refine iv (hk.held _ _ hy).2.2.1 ?_;exact hK _ (Ow.dL (s:=sl) (ss:=ss) hk h.sub)
   |none=>
    rw[hy]at hK;simp only[Option.isSome_none,LK,qy]at hK;refine fa U ?_;repeat first|refine h.dr λw h=>?_|refine h.l1 U ?_|refine eE ?_
    refine h.cz U hss2 λa ha hc0 hc1=>?_;refine⟨_,hc0 _ U,?_⟩;repeat first|refine h.l1 U ?_|refine eE ?_
    refine h.cz U hss λa ha hc0 hc1=>?_;refine⟨_,hc0 _ U,?_⟩
    (refine h.l1 U ?_)
    refine h.tp hss (dq hb) U (fS hz hkl) λa2 ha2 hd0 hd=>?_;rw[hx]at hd;refine Cc hd ?_;refine h.tp hss2 (dq hb2) U (fS hz2 hkl2) λa3 ha3 hf0 hf=>?_
    (refine _root_.Go.Vc.a2 ?_)
    refine h.Hi x hss2 (dq hb2) U (by rw[gC hz2];exact hkl2) ha3 λw h=>?_;rw[show(rowsOf bits H).set n2 ((rowOf H n2 z2).set k2 x)=rowsOf bits (cC H ((n2:O),(k2:O)) (S x))from(pV hb2 hz2 hkl2 (S x)).symm]at h;repeat first|refine h.dr λw h=>?_|refine h.l1 U ?_|refine eE ?_
    refine h.cz U hss λa ha hc0 hc1=>?_;refine⟨_,hc0 _ U,?_⟩
    (refine h.l1 U ?_)
    refine h.tp hss (dq hb) U (fS hz hkl) λa2 ha2 hd0 hd=>?_
    (refine _root_.Go.Vc.a2 ?_)
    refine h.Hi ak hss (dq hb) U (by rw[gC hz];exact hkl) ha2 λw h=>?_;rw[show(rowsOf bits (cC H ((n2:O),(k2:O)) (S x))).set n ((rowOf (cC H ((n2:O),(k2:O)) (S x)) n z).set k ak)=rowsOf bits (cC (cC H ((n2:O),(k2:O)) (S x)) ((n:O),(k:O)) N)from(pV hb hz hkl N).symm]at h;have hne:((n:O),(k:O))≠((n2:O),(k2:O)):=λe=>by rw[e,hy]at hx;cases hx
    have ee:cC (cC H ((n2:O),(k2:O)) (S x)) ((n:O),(k:O)) N=cC (cC H ((n:O),(k:O)) N) ((n2:O),(k2:O)) (S x):=by
     funext s;unfold cC;by_cases e1:s=((n:O),(k:O))
     .subst e1;rw[qd U,F hne,qd U]
     .by_cases e2:s=((n2:O),(k2:O))
      .subst e2;rw[F e1,qd U,qd U]
      .rw[F e1,F e2,F e2,F e1]
    rw[ee]at h;obtain⟨g1,g2,g3⟩:=hk.held _ _ hx;exact hK _ (Ow.dL (s:=sl) (ss:=ss) ((hk.del _).put tc' g2 g3.1 g3.2) h.sub)
end
end Sl
section
variable{T:Sl->Y lM->aH}{M abz B:X}{w0 w:J}{R:Y aH}{α:Type}{A A':X->α->aH}{ps:Y X}{xs:Y α}{L:Y aH}{rb:X}{k:ag}{d:Told}
structure Rx where
 n:X
 t:X
 th:X
 ln:X
 su:Sl
 se:Sl
 sn:Sl
 ss:Sl
 sf:Sl
 pe:Y X
 pn:Y X
 ps:Y X
abbrev Gy(x:Rx)(fr tb:X)(d:Told):Y Q:=[.q x.n,.q x.t,.q x.th,.q x.ln,x.su.v,x.se.v,x.sn.v,x.ss.v,
 .z (fr:O),.z (tb:O),.z d.e,.y d.w,.z d.dY,x.sf.v]
abbrev Lp(T:Sl->Y lM->aH)(M rb:X)(x:Rx)(k:ag)(d:Told):Y aH:=[aa rb (Gy x k.aS k.cB d),Sl.bf x.n k.bits k.H,Tr.cD x.t k.T,Th.bN x.th k.t,cV x.ln k.ln,af df x.su k.u,af bS x.se x.pe,au cU x.pe k.ends,af bS x.sn x.pn,au (bQ M) x.pn k.notes,af bS x.ss x.ps,au Tb.dv x.ps k.ae,T x.sf d.forget]
def gI(T:Sl->Y lM->aH)(M rb:X)(k:ag)(d:Told):aH:=sB λx:Rx=>cj (Lp T M rb x k d)
abbrev cv(M rb:X)(k:ag)(d:Told):aH:=gI (af aP) M rb k d
abbrev Ci(_:Sl)(_:Y lM):aH:=dh I
abbrev a8:Told:=⟨0,0,-1,[]⟩
theorem iz(h:Ow B w0 w (gI T M rb k d::R)):∃x:Rx,Ow B w0 w (aa rb (Gy x k.aS k.cB d)::Sl.bf x.n k.bits k.H::Tr.cD x.t k.T::Th.bN x.th k.t::cV x.ln k.ln::af df x.su k.u::af bS x.se x.pe::au cU x.pe k.ends::af bS x.sn x.pn::au (bQ M) x.pn k.notes::af bS x.ss x.ps::au Tb.dv x.ps k.ae::T x.sf d.forget::R):=by obtain⟨x,h⟩:=h.ex;exact⟨x,h.star⟩
theorem aY(x:Rx){bits:Y O}{H:Sl.Hs}{T7:Tr.Tr}{t:Th.Mt}{ln:wU}{u:Y nP}{ends:Y eB}{notes:Y nO}{ae:Y Tb.dV}{fr tb:X}{d:Told}
  (h:Ow B w0 w (aa rb (Gy x fr tb d)::Sl.bf x.n bits H::Tr.cD x.t T7::Th.bN x.th t::cV x.ln ln::af df x.su u::af bS x.se x.pe::au cU x.pe ends::af bS x.sn x.pn::au (bQ M) x.pn notes::af bS x.ss x.ps::au Tb.dv x.ps ae::T x.sf d.forget::R)):
  Ow B w0 w (gI T M rb ⟨bits,H,T7,t,ln,u,ends,notes,ae,fr,tb⟩ d::R):=Ow.fk x (Ow.bW h)
theorem jf{n:O}{K:O->O->O->O->O->O->Pw}(hk:ba abz k)(h:Ow B w0 w (cv M rb k d::R))
  (hK:∀w' c,c=k.aZ n->Sl.fg c->Ow B w0 w' (cv M rb k d::R)->K c.kind c.obj c.ar c.ay c.guard c.bits w'):Oo rb.o n K w:=by
 apply aai;refine h.a λa w1 h=>?_;intro k4 hk4;have bad:¬(0<=n/\n<64)->k4 Z w1:=λe=>by
  apply hk4;refine bh U ?_;refine h.aA U U λw h=>?_;refine h.dx U ?_;exact hK w Sl.ak (by unfold ag.aZ;rw[F e]) ⟨qb,qb,qb,qb⟩ h.drop
 refine bo (λe=>bad om) (λe=>?_);by_cases e2:n>63
 .rw[qu e2];exact bad om
 rw[qm e2];apply hk4;refine bc U ?_;obtain⟨x,h⟩:=iz h.cq;refine⟨_,U,h.l1 U (Sl.uJ (s:=(0,n)) (h.pick (A:=Sl.bf x.n k.bits k.H)) λw c e he hr h=>?_)⟩;have hc:c=k.aZ n:=by rw[<-pA hk ⟨om,om⟩,<-he]
 refine h.a λa2 w2 h=>?_;refine h.aA U U λw h=>?_;refine h.dx U ?_;refine h.aA U U λw h=>?_;refine h.dx U ?_;exact hK w c hc hr (aY x h.sub:Ow B w0 w (cv M rb k d::R))
theorem oL{f:O}{n:X}{K:O->Pw}(hk:ba abz k)(hn:1<=n/\n<=64)(h:Ow B w0 w (cv M rb k d::R))
  (hK:∀w',Ow B w0 w' (cv M rb k d::R)->K (k.fc f n) w'):PI rb.o f (n:O) K w:=by
 apply aal;unfold ag.fc at hK;intro k4 hk4;have bad:(f<0\/64<f+n)->k4 Z w:=λe=>by rw[qd e]at hK;exact hk4 _ _ (bh U (hK w h))
 refine bo (λe=>bad (.inl e)) (λe=>?_);refine bo (λe=>bad om) (λe1=>?_);rw[wr om om];by_cases e2:f+(n:O)>64
 .rw[qu e2];exact bad om
 rw[qm e2];rw[F om]at hK;apply hk4;refine bc U ?_;obtain⟨f,rfl⟩:=LB (show 0<=f by omega);rw[wr om om];intro l hL;have loop:∀(m j:X)(w:J),j+m=n->(∀i,i<j->(k.aZ ((f:O)+(i:O))).kind=0)->Ow B w0 w (cv M rb k d::R)->l ((f+j:X):O) w:=by
  intro m;induction m with
  |zero=>
   intro j w hj hno h;apply hL;refine aw om ?_;have e:((LA n).any λi=>V ((k.aZ ((f:O)+(i:O))).kind≠0))=false:=by rw[List.any_eq_false];intro i hi;rw[Nf]at hi;simp[hno i om]
   rw[e,F qc]at hK;exact hK w h
  |succ m ih=>
   intro j w hj hno h;apply hL;refine az om ?_;refine jf hk h λw c hc hr h=>?_;rw[show((f+j:X):O)=(f:O)+(j:O)from by omega]at hc;refine oU (λe=>?_) (λe=>?_)
   .have e:((LA n).any λi=>V ((k.aZ ((f:O)+(i:O))).kind≠0))=true:=Na.2 ⟨j,Nf.2 om,by rw[<-hc];simpa using e⟩
    rw[e,qd U]at hK;exact hK w h
   .rw[wr om om,show((f+j:X):O)+1=((f+(j+1):X):O)from by omega]
    refine ih (j+1) w om (λi hi=>?_) h;by_cases e3:i=j
    .subst e3;rw[<-hc];exact e
    .exact hno i om
 exact loop n 0 w om (λi hi=>by omega) h
theorem wJ{a t:O}{c:cN}{K:Pw}(hc:Sl.fg c)(hT:Tr.oc k.T)(hl:k.T.length<1000000)(h:Ow B w0 w (cv M rb k d::R))(hK:∀w',Ow B w0 w' (cv M rb (k.laid (0,a) (0,t) c) d::R)->K w'):
  Rq rb.o a t c.kind c.obj c.ar c.ay c.guard c.bits K w:=by
 apply aam;refine h.a λz w1 h=>?_;refine h.dr λw h=>?_;obtain⟨x,h⟩:=iz h.cq;refine⟨_,U,h.l1 U (h.dx U ⟨Sl.mN (s:=(0,t)) (c:=c) hc (h.pick (A:=Sl.bf x.n k.bits k.H)) λw h=>?_,trivial⟩)⟩;refine⟨_,U,h.l2 U (Tr.DE (p:=(0,a)) (s:=(0,t)) hT hl (h.pick (A:=Tr.cD x.t k.T)) λw h=>?_)⟩;exact hK w (aY x h.sub:Ow B w0 w (cv M rb (k.laid (0,a) (0,t) c) d::R))
theorem kX{sp pg p1 p2:O}{K:Pw}(hbig:d.forget.length<=1000000000)(h:Ow B w0 w (cv M rb k d::R))
  (hK:∀w',Ow B w0 w' (cv M rb k { d with forget:=d.forget++ [⟨sp,pg,p1,p2⟩]}::R)->K w'):QE rb.o sp pg p1 p2 K w:=by
 apply aas;refine h.a λz w1 h=>?_;refine h.dr λw h=>?_;obtain⟨x,h⟩:=iz h.cq;refine⟨_,U,x.sf,bj (h.aE U),h.aR U ⟨h.al λw2 h=>⟨?_,trivial⟩,trivial⟩⟩
 generalize w.heap.size=g at h|-;refine yz (s:=x.sf) (y:=⟨sp,pg,p1,p2⟩) h hbig λs' w hs' h=>⟨_,U,?_⟩
 refine⟨gR (h.fK U U λw h=>?_),trivial⟩;exact hK w (aY { x with sf:=s'} h.sub)
theorem BA{id:O}{K:O->Pw}(hi:Th.bF (-1) k.t)(h:Ow B w0 w (cv M rb k d::R))
  (hK:∀w',Ow B w0 w' (cv M rb (k.dQ id).2.2 (if(k.dQ id).1=0 then { d with dY:=id}else d)::R)->K (k.dQ id).1 w'):Pt rb.o id K w:=by
 apply aap;obtain⟨x,h⟩:=iz h;refine⟨_,U,h.l2 U (Th.gB hi (h.pick (A:=Th.bN x.th k.t)) λw h=>?_)⟩;refine dE (λe=>⟨_,U,?_⟩) (λe=>?_)
 .rw[qd (show (k.dQ id).1=0 from e)]at hK
  refine gR (h.fK U U λw h=>?_);exact hK w (aY x h.sub:Ow B w0 w (cv M rb (k.bZ (k.t.bJ id).2) { d with dY:=id}::R))
 .rw[F (show ¬(k.dQ id).1=0 from e)]at hK
  exact hK w (aY x h.sub:Ow B w0 w (cv M rb (k.bZ (k.t.bJ id).2) d::R))
theorem DF{id:O}{m:Eb}{K:Pw}(h:Ow B w0 w (cv M rb k d::R))(hK:∀w',Ow B w0 w' (cv M rb (k.jq id m) d::R)->K w'):
  Tv rb.o id m.label m.w0 m.w1 m.w2 m.w3 m.ay m.calls K w:=by
 apply aar;refine h.a λz w1 h=>?_;refine h.dr λw h=>?_;obtain⟨x,h⟩:=iz h.cq;refine⟨_,U,_,h.aE U,_,h.aE U,Th.gA (h.pick (A:=Th.bN x.th k.t)) λw h=>?_,trivial⟩;refine h.dr λw h=>?_;refine⟨_,U,_,h.aE U,_,h.aF U,Th.gA h λw h=>?_,trivial⟩;refine h.dr λw h=>?_;refine⟨_,U,_,h.aE U,om,om,_,bj (h.aE U),Th.gA h λw h=>?_,trivial⟩;exact hK w (aY x h.sub:Ow B w0 w (cv M rb (k.jq id m) d::R))
theorem uG{core cur:O}{c:Call}{K:Pw}(hi:Th.bF (-1) k.t)(h:Ow B w0 w (cv M rb k d::R))(hK:∀w',Ow B w0 w' (cv M rb (if c.c≠0 then k.bZ ((k.t.gl cur).2.aW core)else k) d::R)->K w'):
  Rt rb.o core cur c.ask c.at_ c.ao c.a c.b c.c K w:=by
 apply aaq;refine h.a λz w1 h=>?_;refine h.l2 U ?_;refine oU (λe=>?_) (λe=>?_)
 .rw[qd e]at hK
  obtain⟨x,h⟩:=iz h.cq;refine⟨_,U,h.l2 U (Th.rU hi (h.pick (A:=Th.bN x.th k.t)) λw h=>?_)⟩;refine⟨_,U,h.l2 U (Th.fR (hi.block _) h λw h=>?_)⟩;exact hK w (aY x h.sub:Ow B w0 w (cv M rb (k.bZ ((k.t.gl cur).2.aW core)) d::R))
 .rw[F (λhh=>hh e:¬c.c≠0)]at hK
  exact hK _ h.drop
theorem vk(hA:∀(p:X)(x:α)(L:Y aH),Ow B w0 w (A p x::L)->Ow B w0 w (A' p x::L)):∀(ps:Y X)(xs:Y α)(R:Y aH),Ow B w0 w (Lx A ps xs++R)->Ow B w0 w (Lx A' ps xs++R)
 | [],_,_,h=>by simpa using h
 |_::_,[],_,h=>by simpa using h
 |p::ps,x::xs,R,h=>by simp only[List.zipWith_cons_cons,MO]at h|-;exact(vk hA ps xs (A' p x::R) ((hA p x _ h).perm Ml.symm)).perm Ml
theorem sy(A:X->α->aH):∀(ps:Y X)(xs:Y α)(j:X),(Lx A ps xs).eraseIdx j=Lx A (ps.eraseIdx j) (xs.eraseIdx j)
 | [],_,_=>by simp
 |_::ps,[],j=>by cases j<;>simp
 |_::_,_::_,0=>rfl
 |p::ps,x::xs,j+1=>by simp[sy A ps xs j]
theorem FL(hA:∀(p:X)(x:α)(L:Y aH),Ow B w0 w (A p x::L)->Ow B w0 w (A' p x::L))(h:Ow B w0 w (au A ps xs::R)):Ow B w0 w (au A' ps xs::R):=by obtain⟨hl,h⟩:=h.Ha;exact Ow.jX hl (vk hA ps xs R h)
theorem FK{j:X}(hA:∀(p:X)(x:α)(L:Y aH),Ow B w0 w (A p x::L)->Ow B w0 w (A' p x::L))(h:Ow B w0 w (cj ((Lx A ps xs).eraseIdx j)::R)):Ow B w0 w (cj ((Lx A' ps xs).eraseIdx j)::R):=by have h:=h.star;rw[sy]at h;have h:=vk hA _ _ R h;rw[<-sy]at h;exact Ow.bW h
theorem lf{M':X}(hm:M<=M')(h:Ow B w0 w (gI T M rb k d::R)):Ow B w0 w (gI T M' rb k d::R):=by obtain⟨x,h⟩:=iz h;have h:=FL (A':=bQ M') (λp x L h=>uO hm h) (h.pick (A:=au (bQ M) x.pn k.notes));exact(aY x h.sub:Ow B w0 w (gI T M' rb k d::R))
theorem jZ{n g:O}{K:O->Pw}(hM:M<1000000)(hi:Th.bF (-1) k.t)(h0:0<=n)(h1:n<(k.notes.length:O))(h:Ow B w0 w (gI T M rb k d::R))
  (hK:∀w',Ow B w0 w' (gI T (M+1) rb (k.bm n g).2 d::R)->K (k.bm n g).1 w'):P6 rb.o n g K w:=by
 apply aah;obtain⟨x,h⟩:=iz h;have hpl:=(h.pick (A:=au (bQ M) x.pn k.notes)).cA;have hx:k.notes[n.toNat]?=S (k.ju n):=by unfold ag.ju;rw[gE om];rfl
 have hp:x.pn[n.toNat]?=S x.pn[n.toNat]:=gE om;generalize x.pn[n.toNat]=p at hp;refine⟨_,U,x.sn,h.aE U,dG (s:=x.sn) (i:=n) (j:=n.toNat) h om hp λa ha hc=>⟨_,hc,?_⟩⟩
 have h:=(h.pick (A:=au (bQ M) x.pn k.notes)).s8 hp hx;refine xP (g:=g) hM h λw h=>?_;have h:=FK (A':=bQ (M+1)) (λp x L h=>uO (MY M) h) h.cq;have h:=(h.cq).cd hpl hp;unfold ag.bm at hK;have hn:k.iO n ((k.ju n).bm g).2={ k with notes:=k.notes.set n.toNat ((k.ju n).bm g).2}:=rfl;cases e:((k.ju n).bm g).1 with
 |none=>
  rw[e]at hK;refine bh U ?_;exact hK w (aY x h.sub:Ow B w0 w (gI T (M+1) rb (k.iO n ((k.ju n).bm g).2) d::R))
 |some who=>
  rw[e]at hK;refine bc U ⟨_,U,h.l2 U ?_⟩;refine Th.gA (h.pick (A:=Th.bN x.th k.t)) λw h=>?_;refine⟨_,U,h.l2 U (Th.gB (hi.zA _ _ _) h λw h=>?_)⟩;have h:Ow B w0 w (Th.bN x.th ((k.t.mQ who 0 g).2.bJ who).2::_):=h;exact hK w (aY x h.sub:Ow B w0 w (gI T (M+1) rb { k with notes:=k.notes.set n.toNat ((k.ju n).bm g).2,t:=((k.t.mQ who 0 g).2.bJ who).2} d::R))
theorem Ct{α:Type}{f:α->α}{l:Y α}{i:X}{m:α}(hm:l[i]?=S m):((l.take i).map f++l.drop i)[i]?=S m/\((l.take i).map f++l.drop i).set i (f m)=(l.take (i+1)).map f++l.drop (i+1):=by
 have hi:=(Lu.1 hm).1;have h1:((l.take i).map f).length=i:=by simp;omega
 have hd:l.drop i=m::l.drop (i+1):=by rw[Mr hi];congr 1;exact(Lu.1 hm).2
 refine⟨?_,?_⟩
 .rw[LH om,h1,MV,hd];rfl
 .rw[Ng _ _ om,h1,MV,hd,LJ,hm];simp
theorem mJ{id:O}{K:Pw}(hN:k.ends.length<=200000/\k.notes.length<=200000)(h:Ow B w0 w (cv M rb k d::R))(hK:∀w',Ow B w0 w' (cv M rb (k.dz id) d::R)->K w'):QD rb.o id K w:=by
 apply aao;obtain⟨x,h⟩:=iz h;have hpe:=(h.pick (A:=au cU x.pe k.ends)).cA;have hpn:=(h.pick (A:=au (bQ M) x.pn k.notes)).cA;have hse:=h.aL x.se;have hsn:=h.aL x.sn;intro l hL;have loop:∀(m i:X)(w:J),i+m=k.ends.length->Ow B w0 w (au cU x.pe ((k.ends.take i).map (·.cancel id)++k.ends.drop i)::aa rb (Gy x k.aS k.cB d)::Sl.bf x.n k.bits k.H::Tr.cD x.t k.T::Th.bN x.th k.t::cV x.ln k.ln::af df x.su k.u::af bS x.se x.pe::af bS x.sn x.pn::au (bQ M) x.pn k.notes::af bS x.ss x.ps::au Tb.dv x.ps k.ae::af aP x.sf d.forget::R)->l (i:O) w:=by
  intro m;induction m with
  |zero=>
   intro i w hi h;apply hL;refine⟨_,U,x.se,h.aE U,aw om ?_⟩;rw[Lz om,MX om,LQ]at h;intro l2 hL2;have loop:∀(m i:X)(w:J),i+m=k.notes.length->Ow B w0 w (au (bQ M) x.pn ((k.notes.take i).map (·.cancel id)++k.notes.drop i)::aa rb (Gy x k.aS k.cB d)::Sl.bf x.n k.bits k.H::Tr.cD x.t k.T::Th.bN x.th k.t::cV x.ln k.ln::af df x.su k.u::af bS x.se x.pe::au cU x.pe (k.ends.map (·.cancel id))::af bS x.sn x.pn::af bS x.ss x.ps::au Tb.dv x.ps k.ae::af aP x.sf d.forget::R)->l2 (i:O) w:=by
    intro m;induction m with
    |zero=>
     intro i w hi h;apply hL2;refine⟨_,U,x.sn,h.aE U,aw om ?_⟩;rw[Lz om,MX om,LQ]at h;exact hK w (aY x h.sub:Ow B w0 w (cv M rb (k.dz id) d::R))
    |succ m ih=>
     intro i w hi h;have hm:k.notes[i]?=S k.notes[i]:=gE om;have hp:x.pn[i]?=S x.pn[i]:=gE om;obtain⟨g1,g2⟩:=Ct (f:=λn:nO=>n.cancel id) hm;apply hL2;refine⟨_,U,x.sn,h.aE U,az om ⟨_,U,x.sn,h.aE U,dG (s:=x.sn) h U hp λa ha hc=>⟨_,hc,?_⟩⟩⟩
     refine vF (who:=id) (h.s8 hp g1) λ_ w h=>?_;have h:=h.cd (by simp;omega) hp;rw[g2]at h;rw[wI i om];exact ih (i+1) w om h
   refine loop k.notes.length 0 w om ?_;rw[MU,M9,Mw,M3];exact h.sub
  |succ m ih=>
   intro i w hi h;have hm:k.ends[i]?=S k.ends[i]:=gE om;have hp:x.pe[i]?=S x.pe[i]:=gE om;obtain⟨g1,g2⟩:=Ct (f:=λn:eB=>n.cancel id) hm;apply hL;refine⟨_,U,x.se,h.aE U,az om ⟨_,U,x.se,h.aE U,dG (s:=x.se) h U hp λa ha hc=>⟨_,hc,?_⟩⟩⟩
   refine vE (n:=id) (h.s8 hp g1) λ_ w h=>?_;have h:=h.cd (by simp;omega) hp;rw[g2]at h;rw[wI i om];exact ih (i+1) w om h
 refine loop k.ends.length 0 w om ?_;rw[MU,M9,Mw,M3];exact h.sub
theorem DG{n:O}{K:O->O->Pw}(hM:M<1000000)(hk:ba abz k)(h:Ow B w0 w (gI T M rb k d::R))
  (hK:∀w',Ow B w0 w' (gI T (M+1) rb (k.irq n).2.2 d::R)->K (k.irq n).2.1 (k.irq n).1 w'):Sd rb.o n K w:=by
 apply Z9;have hnote:=λy(hy:(eI k.ln n).1.1=S y)=>oN hk hy;have hok:=hk.raise (n:=n);unfold ag.irq ag.iw at hK;obtain⟨x,h⟩:=iz h;refine⟨_,U,h.l2 U (zu (n:=n) (h.pick (A:=cV x.ln k.ln)) λw h=>?_)⟩;generalize eI k.ln n=r at hK hnote hok h|-;have h:Ow B w0 w (gI T M rb { k with ln:=r.2} d::R):=aY x h.sub;cases e:r.1.1 with
 |none=>
  rw[e]at hK;exact bc U (hK w (lf (MY M) h))
 |some y=>
  rw[e]at hK;obtain⟨n0,n1⟩:=hnote y e;refine bh U ?_;exact jZ hM hok.inv n0 n1 h λw h=>hK w h
end
end Go.Vc
