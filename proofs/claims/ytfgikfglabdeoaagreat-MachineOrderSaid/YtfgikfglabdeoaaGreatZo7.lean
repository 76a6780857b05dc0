/- What the row rests on: the declarations that it needs, out of my texts (part 7). -/
import Derived.Test.YtfgikfglabdeoaaGreatZo6
import Derived.LoopIn
import Derived.LoopNIn
import Derived.Maps.AppendAt
import Derived.OwnWalkIn
import Derived.RangeFuncBox
import Derived.RangeFuncCalls
import Derived.RangeFuncGives
import Derived.RangeFuncIn
import Derived.RangeFuncLeaves
import Derived.RangeFuncNested
import Derived.RangeFuncRecord
import Derived.RangeFuncSeq
import Derived.Shelf.Abstract
import Derived.Sort.MapsRangeIn
import Derived.TacticsInMore
open Bool renaming false->Z,true->V
open Decidable renaming decide->F
open Go renaming Addr->qf,MapEntry->qD,Oper->qu,Operand->qB,Program->qo,TypeId->qh,Value->N,World->Y,execOp->qv
open Go.IntKind renaming i64->qd,u64->qq
open Go.Proofs.Tryz renaming f154->aeb,prog->qe,t155->qS,t173->aeM,t177->aeN,t201->aen,t289->aeg,t98->aeL,t99->aeO,underlying124->qX,underlying232->qM,underlying287->qF,underlying3->qy,underlying40->ad8
open Option renaming none->I,some->S
open _root_ renaming Array->qn,Bool->W,False->qj,Int->O,List->J,Nat->X,Option->qg,True->G,absurd->qi,bne_iff_ne->qN,congrArg->qw,decide_eq_decide->qL,decide_eq_false->qk,decide_eq_false_iff_not->qW,decide_eq_true->qm,decide_eq_true_eq->qA,if_false->qx,if_neg->Q,if_pos->A,if_true->qz,or_false->qC,rfl->U
open Go.Proofs.Tryz
open Array renaming getElem?_append_left->Ro,getElem?_eq_some_iff->OW,getElem?_modify->QG,getElem?_setIfInBounds_ne->QM,length_toList->Pr,mem_toList_iff->Ri,replicate_succ->Rj,replicate_zero->Rk,toList_filter->R7
open Bool renaming and_eq_true->OH,eq_iff_iff->Qm,false_and->P5,not_eq_true'->Q1,or_eq_true->PE,true_and->Qa
open Decidable renaming byContradiction->Rz
open Int renaming eq_ofNat_of_zero_le->Ox,le_refl->RK
open List renaming all_eq_true->QW,any_eq_true->PS,append_assoc->O1,append_nil->OD,append_toArray->Rw,cons_append->P9,drop_eq_getElem_cons->Pt,drop_of_length_le->P2,drop_zero->P6,eq_nil_of_length_eq_zero->P1,eraseIdx_eq_take_drop_succ->RU,filter_eq_self->Py,filter_filter->Qq,findIdx?_eq_none_iff->Pa,findIdx?_eq_some_iff_getElem->OT,flatMap_cons->PO,getElem!_eq_getElem?_getD->Rb,getElem!_toArray->SG,getElem?_append_left->Oy,getElem?_append_right->OA,getElem?_drop->OP,getElem?_eq_some_iff->Om,getElem?_map->OX,getElem?_set_self->O0,getElem?_take->OM,getElem_mem->Ph,length->PI,length_append->Ov,length_cons->OB,length_filter_le->OR,length_map->O3,length_nil->PY,length_set->Pe,length_take->OO,map_append->OS,map_cons->OZ,map_map->Qk,map_nil->Qb,mem_append->Pn,mem_append_left->Qw,mem_append_right->QJ,mem_cons->Oz,mem_cons_of_mem->Pq,mem_cons_self->Po,mem_filter->OE,mem_iff_getElem?->O5,mem_map->O4,mem_of_getElem?->OV,mem_or_eq_of_mem_set->Px,mem_range->PQ,mem_reverse->Rm,mem_singleton->OY,mergeSort_perm->Sa,nil_append->PF,nodup_append->PZ,nodup_cons->Pu,not_mem_nil->Ps,pairwise_map->QS,pairwise_reverse->Rg,perm_middle->PD,push_toArray->RJ,range->OC,reverse_nil->RP,set_append_right->Qg,set_cons_succ->OI,set_cons_zero->Pj,set_eq_of_length_le->RC,set_getElem_self->Qn,size_toArray->Q2,sum_cons->Rt,take_add_one->OG,take_append_drop->O8,take_of_length_le->Ou,take_zero->PT,zipWith->Ot
open Nat renaming add_assoc->Ql,add_mul->PJ,le_add_right->Qt,le_refl->On,le_succ->P3,le_trans->ON,min_eq_left->Pv,mod_eq_of_lt->O6,reduceAdd->Sn,reduceSub->RM,sub_self->P0,zero_add->OJ,zero_le->Qi
open Option renaming getD_some->PM,isSome_iff_exists->PW,map_eq_some_iff->P4
set_option maxRecDepth 100000
set_option maxHeartbeats 4000000
set_option linter.all false
namespace Go.Vc
open Go.Proofs Go.RowKit Go.Shelf
open Go.ChangeMaps (setBlock)
attribute [local go_sem] Oper.semAt_some
namespace Sl
section
variable{ae2:Fence}{n:X}{P:qo}(w:Y){ops:qn qu}{rest:J qu}{o:qu}{a:Act}{ae5:Exit->Act->Pw}
theorem pY(hg:o.guard=I)(m:qB)(t:qh)(hop:o.op=Op.range t m){b:X}(hm:a.eval m= .map (S b)){v:N}{w':Y}(hrun:(Instr.range t (.map (S b))).run P w= .ok v w')
  (hK:wpListIn ae2 n P ops ae5 rest (a.put o.dst v) w'):wpListIn ae2 n P ops ae5 (o::rest) a w:=by
 refine wpListIn_plain hg λK' hK'=>?_;unfold Oper.wpIn;refine⟨?_,?_⟩
 .simp[Oper.about,hop]
 .rw[Oper.semAt_plain ae2 _ _ (by rw[hop];intro c hc';cases hc')]
  simp[qv,hop,hm,hrun,Result.andThen];exact hK' _ _ hK
theorem kJ(hg:o.guard=I)(it:qB)(hop:o.op=Op.next it Z){p:N}(hit:a.eval it=p){v:N}{w':Y}(hrun:(Instr.next p Z o.type).run P w= .ok v w')
  (hK:wpListIn ae2 n P ops ae5 rest (a.put o.dst v) w'):wpListIn ae2 n P ops ae5 (o::rest) a w:=by
 refine wpListIn_plain hg λK' hK'=>?_;unfold Oper.wpIn;refine⟨by simp[Oper.about,hop],?_⟩;rw[Oper.semAt_plain ae2 _ _ (by rw[hop];intro c hc';cases hc')];simp[qv,hop,hit,hrun,Result.andThen];exact hK' _ _ hK
theorem xR:∀(l:J qD)(e:qD),(l.map (·.born)).Nodup->e∈l->l.Perm (e::l.filter λx=>x.born !=e.born)
 | [],e,_,h=>by simp at h
 |a::l,e,hn,h=>by
  rw[OZ,Pu]at hn;rw[List.filter_cons];rcases Oz.1 h with rfl|h
  .have:l.filter (λx=>x.born !=e.born)=l:=Py.2 λx hx=>by simp only[qN,ne_eq];exact λe'=>hn.1 (O4.2 ⟨x,hx,e'⟩)
   simp[this]
  .have hne:(a.born !=e.born)=true:=by simp only[qN,ne_eq];exact λe'=>hn.1 (O4.2 ⟨e,h,e'.symm⟩)
   rw[hne,A U];exact((xR l e hn.2 h).cons a).trans (List.Perm.swap _ _ _)
theorem ET(es:qn qD)(seen:qn X)(e:qD):(leftOf es (seen.push e.born)).toList=(leftOf es seen).toList.filter λx=>x.born !=e.born:=by unfold leftOf;rw[R7,R7,Qq];congr 1;funext x;rw[Array.contains_push];cases hq:(x.born==e.born)<;>simp[bne,hq]
def G7(b it:X)(w:Y):X:=match w.heap[b]?,w.heap[it]? with
 |some (.map es _),S (.mapIter _ _ seen _)=>(leftOf es seen).size
 |_,_=>0
theorem AT{b it:X}{w:Y}{es:qn qD}{c:X}{m:qg X}{since c0:X}{seen:qn X}(h1:w.heap[b]?=S (.map es c))(h2:w.heap[it]?=S (.mapIter m since seen c0)):G7 b it w=(leftOf es seen).size:=by unfold G7;rw[h1,h2]
def kE(x:O × O):N:= .agg #[.z x.1,.z x.2]
def fN(x:O × O):J N:=[.z x.1,.z x.2]
theorem yN(w:Y)(x y:N)(t:qh):∀j u,[x,y][j]?=S u->(w.alloc (.cells #[x,y] t)).cell? ((w.heap.size.p:qf).add j)=S u:=by
 intro j u hj
 match j,hj with
 |0,hj=>simp at hj;subst hj;simp[Addr.add]
 |1,hj=>simp at hj;subst hj;simp[Addr.add]
theorem J7(x:O × O):kE x= .agg #[.z x.1,.z x.2]:=rfl
def Lu:N->O × O
 | .agg ⟨[.int _ a,.int _ b]⟩=>(a,b)
 |_=>(0,0)
theorem GZ(n:X)(hn:1<=n)(l Bm b:X)(es:qn qD)(c:X)(ks:J (O × O))(hks:es.toList.map (·.key)=ks.map kE)(hborn:(es.toList.map (·.born)).Nodup)(hlt:∀e∈es.toList,e.born<c)(aeX Jx:J (O × O)->Pw)
  (hY:∀pre x aeZ,aeX pre aeZ->pre.length<ks.length->YieldAt Fence.wide (n-1) qe l #[kE x] aeZ λe W'=>
   (e= .returned (.bool V)/\aeX (pre++ [x]) W'/\KeepsWalks aeZ W')\/(e= .returned (.bool Z)/\Jx (pre++ [x]) W'))
  (aeZ:Y) (hJ:AbidesFrom aeZ.heap.size aeX) (hm:aeZ.cell? Bm.p=S (.map (S b))) (hb:aeZ.heap[b]?=S (.map es c)) (h0:aeX [] aeZ):
  CallsIn Fence.wide n qe 329 #[.func (.yield l) #[] #[],.q Bm] aeZ λe W'=>(∃v,e= .returned v)/\
   ((∃ss:J (O × O),ss.Perm ks/\aeX ss W')\/(∃pre:J (O × O),G/\Jx pre W')):=by
 have hblt:b<aeZ.heap.size:=(OW.1 hb).1;refine callsIn_of_wp func329 U trivial ?_ U;simp only[Tryz.ntmps329,Q2,OB,PY,Sn,RM,Rj,Rk,RJ,Rw,PF,P9];have hrun:=run_range_map (P:=qe) aeZ 232 155 157 b es c qM hb
 gi_wp2_with (first
  |(gi_at_range;refine pY _ U _ 232 U U hrun ?_)
  |gi_in)
 go_frame
 have hW0:∀k,k<aeZ.heap.size->(aeZ.alloc (.mapIter (S b) c #[] c)).heap[k]?=aeZ.heap[k]?:=λk hk=>Below.heap_alloc aeZ _ k hk
 gi_loopw [3] (λ_ wr=>∃(ss:J (O × O))(seen:qn X)(c0:X),wr.heap[b]?=S (.map es c)/\wr.heap[aeZ.heap.size]?=S (.mapIter (S b) c seen c0)/\c<=c0/\(ss.map kE++(leftOf es seen).toList.map (·.key)).Perm (es.toList.map (·.key))/\aeX ss wr)
  (λ_ wr=>G7 b aeZ.heap.size wr)
 case atStart=>
  refine⟨[],#[],c,(hW0 b hblt).trans hb,by show(aeZ.heap.push _)[aeZ.heap.size]?=_;simp,On _,?_,hJ [] aeZ _ I h0 (World.grownBy_alloc aeZ _ I) (λr e=>by cases e)⟩;have:leftOf es #[]=es:=by unfold leftOf;simp
  rw[this];exact List.Perm.refl _
 case round=>
  obtain⟨ss,seen,c0,hb1,hi1,hc0,hp,hJs⟩:=hrel;rcases run_next_at (P:=qe) wr 0 aeZ.heap.size b c c0 seen es c hi1 hb1 hlt hc0 with⟨hsz,hnx⟩|⟨e,he,w1,hw1,hnx⟩
  .gi_wp2_with (first
    |(gi_at_next;refine kJ _ U _ U U hnx ?_)
    |gi_in)
   go_end0
   have hl:(leftOf es seen).toList= []:=P1 (by simpa using hsz);rw[hl,hks]at hp;simp only[Qb,OD]at hp;have hp2:=hp.map Lu;rw[Qk,Qk]at hp2;have hid:∀l:J (O × O),l.map (Lu∘kE)=l:=λl=>by refine(List.map_congr_left λx _=>rfl).trans (List.map_id _)
   rw[hid,hid]at hp2;exact⟨⟨_,U⟩,.inl ⟨ss,hp2,hJs⟩⟩
  .have hmem:e∈es.toList:=by have:=Ri.1 he;unfold leftOf at this;exact Ri.2 (Array.mem_filter.1 this).1
   obtain⟨x,hx,hkx⟩:∃x∈ks,kE x=e.key:=by have:e.key∈es.toList.map (·.key):=O4.2 ⟨e,hmem,U⟩;rw[hks]at this;obtain⟨x,hx,h⟩:=O4.1 this;exact⟨x,hx,h⟩
   have hne:b≠aeZ.heap.size:=om
   have hw1h:w1.heap=wr.heap:=by rcases hw1 with rfl|rfl<;>rfl
   obtain⟨w2,hw2⟩:∃w2,setBlock w1 aeZ.heap.size (.mapIter (S b) c (seen.push e.born) c)=w2:=⟨_,U⟩
   rw[hw2]at hnx;have hilt:aeZ.heap.size<w1.heap.size:=by rw[hw1h];exact(OW.1 hi1).1
   have hi2:w2.heap[aeZ.heap.size]?=S (.mapIter (S b) c (seen.push e.born) c):=by rw[<-hw2];simp[setBlock,Array.getElem?_setIfInBounds_self_of_lt hilt]
   have hb2:w2.heap[b]?=S (.map es c):=by rw[<-hw2];show(w1.heap.setIfInBounds aeZ.heap.size _)[b]?=_;rw[QM om,hw1h];exact hb1
   have hen:=run_entry_at (P:=qe) w2 aeZ.heap.size b c seen es c e hi2 hb2 hmem hborn;have hg2:wr.grownBy w2 (S aeZ.heap.size):=by
    rw[<-hw2];refine⟨?_,?_,?_,?_,λk hk hkr=>?_⟩
    .rcases hw1 with rfl|rfl<;>rfl
    .rcases hw1 with rfl|rfl<;>rfl
    .rcases hw1 with rfl|rfl<;>rfl
    .show wr.heap.size<=(w1.heap.setIfInBounds aeZ.heap.size _).size
     rw[Array.size_setIfInBounds,hw1h];exact On _
    .show (w1.heap.setIfInBounds aeZ.heap.size _)[k]?=_
     rw[QM (λe'=>hkr (by rw[e'])),hw1h]
   have hlp:=xR (leftOf es seen).toList e (by unfold leftOf;rw[R7];exact hborn.sublist (List.filter_sublist.map _)) he;rw[<-ET]at hlp;have hp2:((ss++ [x]).map kE++(leftOf es (seen.push e.born)).toList.map (·.key)).Perm (es.toList.map (·.key)):=by refine List.Perm.trans ?_ hp;rw[OS,O1];refine List.Perm.append_left _ ?_;have:=hlp.map (·.key);rw[OZ]at this;show(kE x::_).Perm _;rw[hkx];exact this.symm
   have hsslt:ss.length<ks.length:=by have h1:=hp2.length_eq;have h2:=qw PI hks;simp only[Ov,O3,OB,PY]at h1 h2;omega
   have hJ2:aeX ss w2:=hJ ss wr w2 (S aeZ.heap.size) hJs hg2 (λr e'=>by cases e';exact⟨On _,_,hi1,U⟩);rw[<-hkx,J7]at hnx hen;obtain⟨x1,x2⟩:=x;dsimp only at hnx hen;have hb2':(w2.alloc (.cells #[.z x1,.z x2] 155)).heap[b]?=S (.map es c):=(Below.heap_alloc w2 _ b (OW.1 hb2).1).trans hb2;have hi2':(w2.alloc (.cells #[.z x1,.z x2] 155)).heap[aeZ.heap.size]?=S (.mapIter (S b) c (seen.push e.born) c):=(Below.heap_alloc w2 _ _ (OW.1 hi2).1).trans hi2;have hJ2':=hJ ss w2 _ I hJ2 (World.grownBy_alloc w2 (.cells #[.z x1,.z x2] 155) I) (λr e=>by cases e);obtain⟨fn,tmps,assign,body,hy,hR⟩:=hY ss (x1,x2) _ hJ2' hsslt;rw[J7]at hy;dsimp only at hy;have hms:(leftOf es (seen.push e.born)).size<(leftOf es seen).size:=by have h1:=hlp.length_eq;simp only[Pr,OB]at h1;omega
   clear hw2 hkx
   gi_wp2_with (first
    |(gi_at_next;refine kJ _ U _ U U hnx ?_)
    |gi_in)
   refine hR.mono ?_;rintro e2 W3 (⟨rfl,hJ3,hk3⟩|⟨rfl,hJx3⟩)
   .gi_wp2
    have hb3:=hk3.same b _ hb2' U;have hi3:=hk3.same aeZ.heap.size _ hi2' U
    go_roundw
    case rel=>exact⟨ss++ [(x1,x2)],seen.push e.born,c,hb3,hi3,On _,hp2,hJ3⟩
    case measure=>rw[AT hb3 hi3,AT hb1 hi1];exact hms
   .gi_wp2
    refine bodyPost_ret (results_none U _ _ _) U ?_;exact⟨⟨_,U⟩,.inr ⟨ss++ [(x1,x2)],trivial,hJx3⟩⟩
theorem AR(n:X)(hn:1<=n)(Bm b:X)(es:qn qD)(c:X)(ks:J (O × O))(hks:es.toList.map (·.key)=ks.map kE)(hborn:(es.toList.map (·.born)).Nodup)(hlt:∀e∈es.toList,e.born<c)
  (w:Y) (hBm:Bm<w.heap.size) (hm:w.cell? Bm.p=S (.map (S b))) (hb:w.heap[b]?=S (.map es c)):
  SeqStops Fence.wide n qe 329 #[.q Bm] kE (λss=>ss.Perm ks) (λ_=>G) ks.length w:=λl aeX Jx aeZ hW hJ _ hY h0=>
 GZ n hn l Bm b es c ks hks hborn hlt aeX Jx hY aeZ hJ ((hW.cell (p:=⟨Bm,0,I⟩) hBm).trans hm) ((hW.block b (OW.1 hb).1).trans hb) h0
theorem LK:(qe.info? 155).map (λi=>(i.zero,i.size,i.bytes))=S (S (.agg #[.z 0,.z 0]),2,16):=qa
theorem Cj(g:X)(lb:qn N)(eg:∀args w,(callFunc g args).run qe w= .ok (.enter g args) w)(aeV:J (O × O)->Prop)(ae6:X)(hN:ae6<=1000000)(w:Y)(hseq:SeqStops Fence.wide 1 qe g lb kE aeV (λ_=>G) ae6 w):
  CallsIn Fence.wide 2 qe 384 #[.slice I 0 0,.func (.func g) #[] lb] w λe w'=>∃(v:N)(ss:J (O × O)),e= .returned v/\aeV ss/\w'.ownsRow w.heap.size 155 2 v ss.length (ss.flatMap fN)/\Below w.heap.size w w':=by
 obtain⟨i0,hi,hz0,hz1,hz2⟩:=info_parts LK;refine callsIn_of_wp_marks func384 U trivial ?_ U;simp only[Tryz.ntmps384,Q2,OB,PY,Sn,RM,Rj,Rk,RJ,Rw,PF,P9]
 gi_wp2
 have bO:=Boxed.new w 124 (.slice I 0 0);have hB0:Below w.heap.size w (w.alloc (.cells #[.slice I 0 0] 124)):=(Below.refl _ w).alloc (On _) _;refine wpIn_rangeFunc_ownH (α:=O × O) (encs:=λx=> #[kE x]) (Kp:=KeepsWalks) U qb (gf:=g) (lb:=lb) U trivial eg hseq walksK_t walksK_b hB0 (λ_=>rfl)
  (λ(pre:J (O × O))aeZ=>(∃v,Boxed aeZ w.heap.size 124 v/\aeZ.ownsRow w.heap.size 155 2 v pre.length (pre.flatMap fN)/\G)/\Below w.heap.size w aeZ)
  (λ_ _ _=>qj)
  (OwnFrom.and (Own.from (holdsRow_own w.heap.size w.heap.size 124 155 2 (λ(pre:J (O × O))=>pre.length) (λ(pre:J (O × O))=>pre.flatMap fN) (λ(pre:J (O × O))v=>G)) _) (ownFrom_below (On _) qc))
  (λ_ _ _ _ _ hs _ _=>hs)
  ⟨⟨_,bO,World.ownsRow_nil _ _ _ _,trivial⟩,hB0⟩
  (λx a' aeZ=>∃p,a'={ tmps:= #[.slice I 0 0,.func (.func g) #[] lb,.q w.heap.size,undef,.slice I 0 0,.q p,.func (.func g) #[] lb,.agg #[.z x.1,.z x.2],undef,undef,undef,undef,undef],defers:=[]}/\aeZ.heap[p]?=S (.cells #[.z x.1,.z x.2] 155 (0,0)))
  (λx a'=>by rintro _ aeW aeY row ⟨p,ha,hp⟩ hg hr;refine⟨p,ha,(hg.block p (OW.1 hp).1 λe=>?_).trans hp⟩;obtain⟨_,o,ho,hc⟩:=hr p e.symm;rw[hp]at ho;cases ho;cases hc)
  ?assign ?body ?done ?stop
 case assign=>
  rintro l pre ⟨x1,x2⟩ aeZ K ⟨⟨v,hv,hrow,_⟩,hB⟩ hK;dsimp only[kE]
  gi_wp2
  refine hK _ _ ((KeepsOthers.alloc aeZ _).from _) ⟨(KeepsOthers.alloc aeZ _).size,λk o h1 h2=>(KeepsOthers.alloc aeZ _).same k o h1 (by cases o<;>simp_all [Obj.isWalk,Obj.isCells])⟩ ⟨⟨v,hv.alloc _,hrow.alloc _,trivial⟩,hB.alloc (by have:=hB.size;omega) _⟩ ⟨_,U,World.alloc_heap_new _ _⟩
 case body=>
  rintro l pre ⟨x1,x2⟩ a' aeZ _ _ ⟨⟨v,hv,hrow,_⟩,hB⟩ ⟨p,rfl,hp⟩ hlt;have hc:=hv.cell;have hp0:aeZ.cell? p.p=S (.z x1):=by simp[World.cell?,hp]
  have hp1:aeZ.cell? ⟨p,1,I⟩=S (.z x2):=by simp[World.cell?,hp]
  gi_wp2_with (gi_at_builtin;refine wpListIn_append_own _ U _ _ 124 U w.heap.size 155 i0 (.agg #[.z 0,.z 0]) 2 16 qX hi hz0 hz1 hz2 U qb _ _ _ U (hrow.alloc _) aeZ.heap.size.p 1 1 [.z x1,.z x2] U U (yN _ _ _ _) (by simp[Value.oneCell']) (ON (show pre.length+1<=1000001 by omega) qb) om (by have:=hB.size;simp;omega) ?_;intro v' w1 hown' hgrow _;obtain⟨g',cap',rfl⟩:=ownsRow_succ hown';obtain⟨hv1,hv2,hr2,hk2,hb2⟩:=hv.appended qb hrow hB.size (On _) hown' hgrow;have hc1:=hv1.cell;have hf1:=hv1.frozen)
  exact⟨hk2.from _,⟨hk2.size,λk o h1 h2=>hk2.same k o h1 (by cases o<;>simp_all [Obj.isWalk,Obj.isCells])⟩,⟨_,hv2,by rw[List.flatMap_append,Ov];exact hr2⟩,hB.trans hb2⟩
 case done=>
  rintro D ys aeZ hD hS ⟨⟨v,hv,hrow,_⟩,hB⟩ hK;have hc:=hv.cell
  gi_wp2
  refine⟨qc,.inl ⟨_,_,U,run_takeDeferred hK,?_⟩⟩;exact⟨_,results_tmp U _ _ _,v,ys,U,hS,ownsRow_putObj hrow _ hK U,hB.trans (belowK_b (w:=w) (On _) aeZ D _ _ (by simp at hD;omega) hK U U)⟩
 case stop=>
  rintro D c pre aeZ _ _ h _;exact h.elim
end
end Sl
end Go.Vc
namespace Go.Vc
open Go.Proofs Go.Shelf
namespace Sl
section
variable{B:X}{w0 w:Y}{R L:J aH}{b:X}{bits:J O}{H:Hs}
def pv(x y:O):O:=if x<y then -1 else if y<x then 1 else 0
def yO(a b:Slot):O:=if pv a.1 b.1≠0 then pv a.1 b.1 else pv a.2 b.2
def oB(a b:Slot):W:=F (a.1<b.1\/(a.1=b.1/\a.2<b.2))
theorem iD(a b:Slot):Go.Proofs.ltOf yO a b=oB a b:=by
 unfold Go.Proofs.ltOf oB yO pv;rw[qL];by_cases h1:a.1<b.1
 .simp[h1]
 .by_cases h2:b.1<a.1
  .simp[h1,h2];omega
  .have:a.1=b.1:=om
   simp[h1,h2,this];by_cases h3:a.2<b.2
   .simp[h3]
   .by_cases h4:b.2<a.2<;>simp[h3,h4]
theorem Ni:Go.Sort.SWO (Go.Proofs.ltOf yO) where
 irrefl x:=by rw[iD];simp[oB]
 trans x y z h1 h2:=by rw[iD]at *;simp only[oB,qA]at *;omega
 ntrans x y z h1 h2:=by rw[iD]at *;simp only[oB,qW]at *;omega
theorem Nj(x y:Slot)(h1:Go.Proofs.ltOf yO x y=Z)(h2:Go.Proofs.ltOf yO y x=Z):x=y:=by
 rw[iD]at*
 simp only[oB,qW]at*
 exact Prod.ext om om
theorem nm{x:O}{K:W->Pw}{w:Y}(h:K Z w):Va x K w:=by apply YW;rw[show(x !=x)=Z from by simp];exact h
theorem lu{x y:O}{K:O->Pw}{w:Y}(h:K (pv x y) w):UY x y K w:=by
 apply YV;refine nm (nm ?_);refine aW U (aW U ?_);by_cases h1:x<y
 .refine az h1 ?_
  rwa [show pv x y= -1 from by unfold pv;rw[A h1]]at h
 .refine aw h1 ?_
  by_cases h2:x>y
  .refine az h2 ?_
   rwa [show pv x y=1 from by unfold pv;rw[Q h1,A h2]]at h
  .refine aw h2 ?_
   rwa [show pv x y=0 from by unfold pv;rw[Q h1,Q h2]]at h
theorem Av{p:X}{x y:O}{K:O->Pw}{w:Y}(h0:w.cell? p.p=S (.z x))(h1:w.cell? ⟨p,1,I⟩=S (.z y))(h:K (if x≠0 then x else y) w):Xq ⟨S p.p,2,2⟩ K w:=by
 apply YU;intro l2 hl2;apply hl2;refine az (show(0:O)<((2:X):O) by decide) ?_;refine⟨_,U,(show(0:O)<=0 by decide),(show(0:O)<((2:X):O) by decide),x,h0,?_⟩;by_cases e:x=0
 .subst e
  refine aW U ?_;rw[show qd.wrap ((0:O)+1)=1 from by decide];apply hl2;refine az (show(1:O)<((2:X):O) by decide) ?_;refine⟨_,U,(show(0:O)<=1 by decide),(show(1:O)<((2:X):O) by decide),y,h1,?_⟩;rw[Q qc]at h;by_cases e2:y=0
  .subst e2
   refine aW U ?_;rw[show qd.wrap ((1:O)+1)=2 from by decide];apply hl2;refine aw (show ¬(2:O)<((2:X):O) by decide) ?_;exact h
  .exact aU (by simpa using e2) h
 .rw[A e]at h
  exact aU (by simpa using e) h
theorem cell_of{w:Y}{b:X}{l:J N}{t:qh}(h:w.heap[b]?=S (.cells ⟨l⟩ t)){o:X}{v:N}(hv:l[o]?=S v):w.cell? ⟨b,o,I⟩=S v:=by simp[World.cell?,h,hv]
theorem CL(a b:Slot)(w:Y):Yb a.1 a.2 b.1 b.2 (λr w'=>r=yO a b/\∃q os',w'=Go.Sort.grow (w.drewN q) os') w:=by
 apply Zo;unfold YC;have hA:(((w.alloc (.cells #[.z a.1,.z a.2] 155)).alloc (.cells #[.z b.1,.z b.2] 155)).drew).heap[w.heap.size]?=S (.cells #[.z a.1,.z a.2] 155):=
  (RowKit.Below.heap_alloc (w.alloc (.cells #[.z a.1,.z a.2] 155)) _ w.heap.size (by rw[World.size_alloc];omega)).trans (World.alloc_heap_new w _)
 have hB:(((w.alloc (.cells #[.z a.1,.z a.2] 155)).alloc (.cells #[.z b.1,.z b.2] 155)).drew).heap[(w.alloc (.cells #[.z a.1,.z a.2] 155)).heap.size]?=S (.cells #[.z b.1,.z b.2] 155):=World.alloc_heap_new _ _;refine⟨a.1,cell_of hA U,b.1,cell_of hB U,a.2,cell_of (o:=0+1) hA U,b.2,cell_of (o:=0+1) hB U,lu ⟨cell_of (o:=0+1) hB U,cell_of (o:=0+1) hA U,lu ⟨⟨Av (x:=pv a.1 b.1) (y:=pv a.2 b.2) (cell_of (World.alloc_heap_new _ _) U) (cell_of (World.alloc_heap_new _ _) U) ⟨U,1,#[.cells #[.z a.1,.z a.2] 155,.cells #[.z b.1,.z b.2] 155,.cells #[.z (pv a.1 b.1),.z (pv a.2 b.2)] 3],?_⟩,trivial⟩,trivial⟩,trivial⟩,trivial⟩;show World.mk _ _ _ _ _=World.mk _ _ _ _ _;congr 1
theorem IS(wV off size:X)(w:Y):CmpLays qe 244 #[] fN 2 yO wV off size w:=λm os dk _ x y=>
 (zj (CL x y _)).mono λe w'⟨r,he,hr,hw⟩=>⟨by rw[he,hr],hw⟩
def aI:dF Slot:=⟨2,fN,λ_=>rfl,λx v h=>by simp only[fN,Oz,Ps,qC]at h;rcases h with rfl|rfl<;>rfl,qb⟩
theorem rr{α:Type}[Inhabited α](enc:α->J N)(k:X)(hk:∀x,(enc x).length=k)(k0:0<k):∀(l:J α)(t:X),t<l.length*k->(l.flatMap enc)[t]?=S (enc (l.toArray[t / k]!))[t%k]!
 | [],t,h=>by simp at h
 |x::l,t,h=>by
  rw[PO];by_cases e:t<k
  .rw[Oy (by rw[hk];exact e),Nat.div_eq_of_lt e,O6 e]
   have:t<(enc x).length:=by rw[hk];exact e
   rw[gE this];congr 1;simp[this]
  .obtain ⟨u,rfl⟩:∃u,t=k+u:=⟨t-k,om⟩
   have hu:u<l.length*k:=by rw[OB,PJ,Nat.one_mul]at h;omega
   rw[OA (by rw[hk];omega),hk,show k+u-k=u from by omega,rr enc k hk k0 l u hu];rw[Nat.add_comm k u,Nat.add_div_right _ k0,Nat.add_mod_right];have hq:u / k<l.length:=Nat.div_lt_of_lt_mul (by rw[Nat.mul_comm];exact hu);congr 3;simp[hq]
theorem Cp{α:Type}[Inhabited α](enc:α->J N)(k:X)(hk:∀x,(enc x).length=k)(k0:0<k)(l:J α):Go.Sort.flatK enc k l.toArray=(l.flatMap enc).toArray:=by
 have hl:(l.flatMap enc).length=l.length*k:=by
  clear k0;induction l with
  |nil=>simp
  |cons x l ih=>rw[PO,Ov,ih,hk,OB,PJ];omega
 refine Go.Sort.ext_get! (by rw[Go.Sort.size_flatK];simp only[Q2];exact hl.symm) λt ht=>?_;rw[Go.Sort.size_flatK]at ht;rw[Go.Sort.get_flatK _ _ _ _ ht];have:=rr enc k hk k0 l t (by simpa using ht);simp[Rb,this]
def LR(x y:Slot):W:= !(Go.Proofs.ltOf yO) y x
def gq(xs:J Slot):J Slot:=xs.mergeSort LR
theorem wS{s:Sl}{xs:J Slot}{K:Pw}(h:Ow B w0 w (af aI s xs::R))(hsz:xs.length<4611686018427387904)(hK:∀w',Ow B w0 w' (af aI s (gq xs)::R)->K w'):
  Xp s (.func (.func 244) #[] #[]) K w:=by
 have hs:=h.wN 0 U;have hlen:=h.len 0 U;unfold Xp;refine nI func328 U ?_;obtain⟨a,n,cap⟩:=s;dsimp only at hlen;subst hlen;cases hs with
 |nil ha hl hc hcs=>
  dsimp only at ha hl hc;subst ha;subst hc;have:xs= []:=P1 hl;subst this;refine(AnyF.slices_SortFunc_none Tryz.yn I 0 _ w).mono ?_;rintro e w' ⟨rfl,rfl⟩;exact⟨U,hK _ (by rw[show gq []= []from List.mergeSort_nil];exact h)⟩
 |mk b o l ha hb hl hc hcs=>
  dsimp only at ha hl hc hcs;subst ha;obtain⟨t,ht⟩:=hb;have hblk:b<w.heap.size:=(OW.1 ht).1;have hfl:∀ys:J Slot,Go.Sort.flatK fN 2 ys.toArray=(ys.flatMap fN).toArray:=Cp fN 2 (λ_=>rfl) qb;have hfl2:∀ys:J Slot,(ys.flatMap fN).length=ys.length*2:=λys=>aK aI ys;have hcap:xs.length*2<=cap*2:=Nat.mul_le_mul_right 2 hl;have hc:o+cap*2<=l.length:=hc;have hH:Go.Sort.HoldsK fN 2 w b o xs.toArray:=by
   unfold Go.Sort.HoldsK;rw[hfl];intro j hj;have hj:j<xs.length*2:=by rw[<-hfl2];simpa using hj
   have hcj:(xs.flatMap fN)[j]?=l[o+j]?:=by have hcs:xs.flatMap fN=(l.drop o).take (xs.length*2):=hcs;rw[hcs,OM,A hj,OP]
   have hjl:j<(xs.flatMap fN).length:=by rw[hfl2];exact hj
   refine⟨?_,?_⟩
   .have h1:l[o+j]?=S (xs.flatMap fN)[j]:=by rw[<-hcj,gE hjl]
    rw[cell_of ht h1];simp only[id,SG,Rb,gE hjl,PM]
   .simp[World.frozen?,ht]
  refine(AnyQ.slices_SortFunc_total Tryz.yn 2 isAgg155 sizeOf155 fN (λ_=>rfl) aI.one yO Ni 244 #[] b o cap xs.toArray w (enters_of func244 qa U) (IS b o _ w) hH hblk (by simpa using hsz) Nj).mono ?_;rintro e w' ⟨rfl,q,os,hw'⟩;refine⟨U,hK _ ?_⟩;have hperm:(gq xs).Perm xs:=Sa _ _;have hsl:(gq xs).length=xs.length:=hperm.length_eq;have hw':w'=Go.Sort.grow (Go.Sort.mapBlock (Go.Sort.ahead w q) b (Go.Sort.putCells id o ((gq xs).flatMap fN).toArray)) os:=by rw[hw',<-hfl];rfl
  have hheap:w'.heap=(w.heap.modify b (Go.Sort.onCells (Go.Sort.putCells id o ((gq xs).flatMap fN).toArray)))++os:=by rw[hw'];rfl
  have hu:ia (λk=>k=b) w w':=by refine⟨by rw[hw'];rfl,by rw[hw'];rfl,by rw[hw'];rfl,by rw[hheap];simp,λk hk hn=>?_⟩;rw[hheap,Ro (by simpa using hk),QG,Q (λe=>hn e.symm)]
  have hblk':w'.heap[b]?=S (.cells (Go.Sort.putCells id o ((gq xs).flatMap fN).toArray ⟨l⟩) t):=by rw[hheap,Ro (by simpa using hblk),QG,A U,ht];rfl
  refine h.step λae3 hA hG=>?_;have hGb:ae3 b:=hA.1 _ U;refine⟨hu.mono λk _ e=>by rw[e];exact hGb,ae3,⟨hA.1,hsl.symm,?_⟩,λk hk=>⟨.inl hk,by have:=(hG k hk).2;have:=hu.size;omega⟩⟩;refine .mk b o (Go.Sort.putCells id o ((gq xs).flatMap fN).toArray ⟨l⟩).toList U ⟨t,hblk'⟩ hl ?_ ?_
  .show o+cap*2<=_
   rw[Pr];unfold Go.Sort.putCells;rw[Array.size_mapIdx];exact hc
  .show (gq xs).flatMap fN=(List.drop o _).take (xs.length*2)
   refine List.ext_getElem? λj=>?_;rw[OM];by_cases hj:j<xs.length*2
   .rw[A hj,OP]
    have hjs:j<((gq xs).flatMap fN).length:=by rw[hfl2,hsl];exact hj
    have hoj:o+j<l.length:=om
    unfold Go.Sort.putCells;rw[Array.toList_mapIdx,List.getElem?_mapIdx,gE hjs,show(Array.mk l).toList[o+j]?=S (l[o+j]'hoj)from gE hoj,Option.map_some,A ⟨om,by simp only[Q2];omega⟩,show o+j-o=j from by omega];simp only[id,SG,Rb,gE hjs,PM]
   .rw[Q hj,List.getElem?_eq_none (by rw[hfl2,hsl];omega)]
theorem uG:∀(n:X)(l:J O),l.Nodup->(∀x∈l,0<=x/\x<(n:O))->l.length<=n
 |0,l,_,h=>by
  cases l with
  |nil=>simp
  |cons a l=>have:=h a qc;omega
 |n+1,l,hn,h=>by
  have h1:=uG n (l.filter λx=>x !=(n:O)) (hn.sublist List.filter_sublist) λx hx=>by
   have h2:=OE.1 hx;have h3:=h x h2.1;have h4:x≠(n:O):=by simpa using h2.2
   omega
  have h2:l.length<=(l.filter λx=>x !=(n:O)).length+1:=by
   clear h1 h;induction l with
   |nil=>simp
   |cons a l ih=>
    rw[Pu]at hn;by_cases e:a=(n:O)
    .have:l.filter (λx=>x !=(n:O))=l:=by
      rw[Py];intro x hx;have:x≠(n:O):=λe2=>hn.1 (by rw[e,<-e2];exact hx);simpa using this
     rw[List.filter_cons_of_neg (by simp[e]),this,OB];exact On _
    .rw[List.filter_cons_of_pos (by simpa using e),OB,OB]
     have:=ih hn.2;omega
  omega
theorem xW{x y z:Slot}(h1:oB x y=V)(h2:oB y z=V):oB x z=true:=by simp only[oB,qA]at *;omega
theorem pF{x:Slot}(h:oB x x=V):qj:=by simp[oB]at h
theorem Jc{x y:Slot}(h:x≠y):oB x y=V\/oB y x=true:=by
 simp only[oB,qA];by_cases e:x.1=y.1
 .have:x.2≠y.2:=λe2=>h (Prod.ext e e2)
  omega
 .omega
theorem gD(xs:J Slot):(gq xs).Perm xs:=Sa _ _
theorem mh{xs:J Slot}(hn:xs.Nodup):(gq xs).Pairwise (λx y=>oB x y=V):=by
 have h1:(gq xs).Pairwise (λx y=>LR x y=V):=by
  refine List.pairwise_mergeSort (λa b c h1 h2=>?_) (λa b=>?_) _
  .simp only[LR,iD,oB,Q1,qW]at *;omega
  .simp only[LR,iD,oB,PE,Q1,qW];omega
 have h2:(gq xs).Pairwise (λx y=>x≠y):=(gD xs).nodup_iff.2 hn;refine(h1.and h2).imp λ{x y}h=>?_;rcases Jc h.2 with e|e
 .exact e
 .have:=h.1
  simp only[LR,iD,e]at this;cases this
structure lO(H:Hs)(hs:J (Slot × cO)):Prop where
 kU:hs.Pairwise (λx y=>oB x.1 y.1=V)
 mem:∀k c,(k,c)∈hs↔H k=S c
theorem lO.nodup{H:Hs}{hs:J (Slot × cO)}(h:lO H hs):hs.Nodup:=h.kU.imp λ{x y}h e=>by rw[e]at h;exact pF h
theorem lO.uniq{H:Hs}{hs hs':J (Slot × cO)}(h:lO H hs)(h':lO H hs'):hs=hs':=by
 have hp:hs.Perm hs':=(List.perm_ext_iff_of_nodup h.nodup h'.nodup).2 λx=>by rw[show x=(x.1,x.2)from U,h.mem,h'.mem]
 refine List.Perm.eq_of_pairwise (le:=λx y=>oB x.1 y.1=V) (λa b _ _ h1 h2=>(pF (xW h1 h2)).elim) h.kU h'.kU hp
theorem AP{M:J (Slot × cO)}{H:Hs}(hn:(M.map (·.1)).Nodup)(hM:∀k,dO M k=H k):lO H ((gq (M.map (·.1))).map λk=>(k,(H k).getD aq)):=by
 refine⟨?_,λk c=>?_⟩
 .rw[QS];exact mh hn
 .rw[O4]
  constructor
  .rintro ⟨k',hk,e⟩
   cases e;have hk:=(gD _).mem_iff.1 hk;cases e:H k with
   |none=>rw[<-hM]at e;exact qi hk (fX.1 e)
   |some c=>rfl
  .intro e
   refine⟨k,(gD _).mem_iff.2 ?_,by rw[e];rfl⟩;rw[<-hM]at e;exact O4.2 ⟨_,rF e,U⟩
theorem sq.bound{bits:J O}{H:Hs}(h:sq bits H){k:Slot}{c:cO}(e:H k=S c):0<=k.1/\k.1<64/\0<=k.2/\k.2<256:=by
 obtain⟨ht,_⟩:=h.held k c e;unfold aR at ht;cases hz:eC bits k.1 with
 |none=>rw[hz]at ht;cases ht
 |some z=>
  rw[hz]at ht;simp only[qA]at ht;obtain⟨h0,h1,h2⟩:=kn hz;obtain⟨r1,r2⟩:=ti h hz;have hlt:k.1.toNat<bits.length:=(Om.1 h1).1;have:=h.fh;have hp:(2:O)^z.toNat<=2^8:=by
   have:(2:X)^z.toNat<=2^8:=Nat.pow_le_pow_right om om;have h3:(2:O)^z.toNat=((2^z.toNat:X):O):=by simp
   rw[h3];omega
  omega
theorem GB{bits:J O}{M:J (Slot × cO)}{H:Hs}(h:sq bits H)(hn:(M.map (·.1)).Nodup)(hM:∀k,dO M k=H k):M.length<=16384:=by
 have hb:∀k∈M.map (·.1),0<=k.1/\k.1<64/\0<=k.2/\k.2<256:=λk hk=>by
  cases e:H k with
  |none=>rw[<-hM]at e;exact qi hk (fX.1 e)
  |some c=>exact h.bound e
 have:=uG 16384 ((M.map (·.1)).map λk=>k.1*256+k.2) (by
  refine QS.2 (List.Pairwise.imp_of_mem (λ{x y}hx hy hne e=>hne ?_) hn);have:=hb x hx;have:=hb y hy;exact Prod.ext om om) λx hx=>by
  obtain⟨k,hk,rfl⟩:=O4.1 hx;have:=hb k hk;omega
 simpa using this
theorem zk{w':Y}{t:qh}{v:N}{xs:J Slot}(h:Ow B w0 w R)(hb:RowKit.Below w.heap.size w w')(hr:w'.ownsRow w.heap.size t 2 v xs.length (xs.flatMap fN)):
  ∃s:Sl,v= s.v/\Ow B w0 w' (af aI s xs::R):=by
 have hu:ia No w w':=⟨hb.os,hb.tape,hb.output,hb.size,λk hk _=>hb.block k hk⟩
 rcases hr.2 with⟨rfl,hz⟩|⟨g,cap,cur,rfl,hbase,hgb,r1,r2,r3,r4⟩
 .have:xs= []:=P1 hz
  subst this;exact⟨z0,U,(h.same hu).cH⟩
 .refine ⟨⟨S g.p,xs.length,cap⟩,U,h.new (A':=af aI ⟨S g.p,xs.length,cap⟩ xs) (G':=λk=>k=g) hu ⟨λa ha=>?_,U,?_⟩ λk e=>?_⟩
  .cases ha;rfl
  .refine .mk g 0 cur.toList U ⟨t,hgb⟩ r1 ?_ ?_
   .show 0+cap*2<=cur.toList.length
    rw[Pr];omega
   .rw[P6];exact r4.symm
  .subst e
   exact⟨hbase,(OW.1 hgb).1⟩
theorem nC{m:X}{M:J (Slot × cO)}{K:Sl->Pw}(h:Ow B w0 w L)(i:X)(hi:L[i]?=S (kT m M))(hsz:M.length<=1000000)
  (hK:∀(s:Sl)(w':Y),Ow B w0 w' (af aI s (gq (M.map (·.1)))::L)->K s w'):
  WQ (S m) (λr5 w6=>UB r5 (.func (.func 244) #[] #[]) K w6) w:=by
 have hM:lP dT jN w m M:=(h.take i hi).head λ_ h=>h.2;obtain⟨es,c,hb,hmap,hborn,hlt⟩:=hM.ex;have hkeys:es.toList.map (·.key)=(M.map (·.1)).map kE:=by have:=qw (List.map (·.1)) hmap;rw[Qk,Qk]at this;rw[Qk];exact this
 have hml:(M.map (·.1)).length<=1000000:=by rw[O3];exact hsz
 have hblt:m<w.heap.size:=(OW.1 hb).1;apply aaM;show UB _ _ K (w.alloc _);have h1:Ow B w0 (w.alloc (.cells #[.map (S m)] 232)) L:=h.same (gd _ _);have hseq:=AR 1 (On _) w.heap.size m es c (M.map (·.1)) hkeys hborn hlt (w.alloc (.cells #[.map (S m)] 232)) (by rw[World.size_alloc];omega) (cell_of (World.alloc_heap_new _ _) U) ((RowKit.Below.heap_alloc _ _ m hblt).trans hb);generalize w.alloc (.cells #[.map (S m)] 232)=w1 at h1 hseq;apply aac;apply aai;unfold Ym;refine nI func384 U ?_;refine(callsIn_wide (n:=2)).1 ((Cj 329 #[.q w.heap.size] (enters_of func329 qa U) _ _ hml w1 hseq).mono ?_);rintro e w2 ⟨v,ss,rfl,hS,hrow,hbel⟩;obtain⟨s,rfl,h2⟩:=zk h1 hbel hrow;refine⟨s,U,?_⟩;have hsl:ss.length<=1000000:=by rw[hS.length_eq];exact hml
 refine wS h2 om λw3 h3=>?_;have:gq ss=gq (M.map (·.1)):=by have hn:ss.Nodup:=hS.nodup_iff.2 hM.nodup;refine List.Perm.eq_of_pairwise (le:=λx y=>oB x y=V) (λa b _ _ h1 h2=>(pF (xW h1 h2)).elim) (mh hn) (mh hM.nodup) ?_;exact(gD _).trans (hS.trans (gD _).symm)
 rw[this]at h3;exact hK s w3 h3
theorem xu{s:Sl}{ys:J (Slot × cO)}{y:Slot × cO}{c:X}{L:J aH}{k:Sl->Pw}[ae4:bY s L (Slot × cO) dV ys][aeX:eD (af dV s ys) L R](h:Ow B w0 w (aa c [.z y.1.1,.z y.1.2,.z y.2.kind,.z y.2.obj,.z y.2.ak,.y y.2.ax,.y y.2.guard,.z y.2.bits]::L))(hbig:ys.length<=1000000000)
  (hk:∀s' w',s'.len=ys.length+1->Ow B w0 w' (af dV s' (ys++ [y])::R)->k s' w'):
  ∃s' w',aP qe [78,78] 78 s.v (.slice (S c.p) 1 1) w s' w'/\k s' w':=
 Ow.eR (E:=dV) (y:=y) underlying78 (show qe.info? 201=S aen from by kernel_rfl) (zv:=(aen.zero).get qa) qa qa qa qb h (by
  have e:aen.bytes=64:=qa
  rw[e];omega) hk
theorem MX{w:Y}{ae7:qf}{x:Slot}{f:O->O->Prop}(g:∀c v,(aI.enc x)[c]?=S v->w.cell? (ae7.add c)=S v)(hf:f x.1 x.2):av w ae7 0 [.o,.o] f:=
 ⟨_,g 0 _ U,_,g 1 _ U,hf⟩
theorem il{K:Sl->Pw}(h:Ow B w0 w (aC b bits H::R))(hK:∀s hs w',lO H hs->Ow B w0 w' (af dV s hs::aC b bits H::R)->K s w'):Uq b.o K w:=by
 apply Zm;obtain⟨⟨xs,m,M⟩,hk,hM,h⟩:=h.nodes;dsimp only at hM h;have hnd:=h.CH 2 U;have hfew:=GB hk hnd hM;refine⟨_,U,S m,h.ld 0 U U,nC h 2 U om λs w h=>?_⟩;have hih:=AP hnd hM;have hkl:(gq (M.map (·.1))).length=M.length:=by rw[(gD _).length_eq,O3]
 have hkH:∀k∈gq (M.map (·.1)),H k=S ((H k).getD aq):=λk hk'=>by
  have:=(gD _).mem_iff.1 hk';cases e:H k with
  |none=>rw[<-hM]at e;exact qi this (fX.1 e)
  |some c=>rfl
 generalize gq (M.map (·.1))=ks at h hih hkl hkH;have hlen:=h.aL s;intro l8 hl8;have loop:∀(j t:X)(out:Sl)(w:Y),t+j=ks.length->Ow B w0 w (af dV out ((ks.take t).map λk=>(k,(H k).getD aq))::af aI s ks::aa b [bL xs,.map (S m)]::af aB xs bits::kT m M::R)->l8 out (t:O) w:=by
  intro j;induction j with
  |zero=>
   intro t out w ht h;apply hl8;refine aw om ?_;rw[Ou om]at h;exact hK out _ w hih (Ow.cw (Ow.fo (s:=xs) (m:=m) hk hM h.sub))
  |succ j ih=>
   intro t out w ht h;apply hl8;refine az om ?_;have hx:ks[t]?=S ks[t]:=gE om;refine h.bX (s:=s) (i:=(t:O)) (j:=t) U hx λa ha h0 hc=>MX hc ?_;have hHx:=hkH ks[t] (Ph _);have hnext:(ks.take (t+1)).map (λk=>(k,(H k).getD aq))=(ks.take t).map (λk=>(k,(H k).getD aq))++ [(ks[t],(H ks[t]).getD aq)]:=by rw[OG,hx,OS];rfl
   generalize (H ks[t]).getD aq=c at hHx hnext;generalize ks[t]=kx at hHx hnext;refine h.a λd1 w1 h=>?_;refine h.ay U U λw2 h=>?_;refine h.dr λw3 h=>?_;refine⟨_,U,S m,h.aF U,h.aN U (h.aN U ?_)⟩;have hl2:dO M kx=S c:=by rw[hM];exact hHx
   refine⟨⟨c.kind,c.obj,c.ak,c.ax,c.guard,c.bits,(h.tI qM jw 5 U hl2).2,h.hd U ⟨h.al λw4 h=>⟨?_,trivial⟩,trivial⟩⟩,trivial⟩
   generalize w3.heap.size=d3 at h|-;refine xu (s:=out) (y:=(kx,c)) h (by rw[O3,OO];omega) λs' w hs' h=>?_;rw[wI t om];refine ih (t+1) s' w om ?_;rw[hnext];exact h.sub
 exact loop ks.length 0 z0 w om (Ow.cH h)
end
end Sl
end Go.Vc
namespace Go.Vc
open Go.Proofs
abbrev Slot:=O × O
abbrev cO:=Sl.cO
structure Call where
 ask:O
 at_:O
 ar:O
 a:O
 b:O
 c:O
deriving DecidableEq
abbrev Call.cl(c:Call):J N:=[.z c.ask,.z c.at_,.z c.ar,.z c.a,.z c.b,.z c.c]
structure dP where
 space:O
 bC:O
 frame:O
 ak:O
deriving DecidableEq
structure Told where
 e:O
 w:O
 cN:O
 forget:J dP
deriving DecidableEq
structure ag where
 bits:J O
 H:Sl.Hs
 T:Tr.Tr
 t:Th.Mt
 ln:wR
 u:J sw
 ends:J eN
 notes:J oN
 ae:J Tb.dv
 aZ:X
 cM:X
structure pZ where
 core:O
 cur:O
 call:Call
 s:Slot
 c:cO
namespace ag
def aX(k:ag)(n:O):cO:=if 0<=n/\n<64 then(k.H (0,n)).getD Sl.aq else Sl.aq
def dx(k:ag)(n kind:O):W:=F ((k.aX n).kind≠0)&&(F (kind=0)||F ((k.aX n).kind=kind))
def fD(k:ag)(w:O)(n:X):O:=if w<0\/64<w+n then 181 else if(OC n).any (λi=>F ((k.aX (w+(i:O))).kind≠0))then 51 else 0
def laid(k:ag)(f t:Slot)(c:cO):ag:={ k with H:=(Sl.jl k.bits k.H t c).2,T:=(Tr.yE k.T f t).2}
def made(k:ag)(core a b:O)(at_:X):O × ag:=
 if a=1 then((k.u.length:O),{ k with u:=k.u++ [⟨at_,b.toNat,0⟩]})
 else if a=2 then((Sl.eO k.bits b).1,{ k with bits:=(Sl.eO k.bits b).2.2})
 else if a=3 then((k.t.cv 0 core).1,{ k with t:=(k.t.cv 0 core).2.2})
 else if a=4 then((k.ends.length:O),{ k with ends:=k.ends++ [⟨[],Z⟩]})
 else if a=5 then((k.notes.length:O),{ k with notes:=k.notes++ [⟨0,Z,[]⟩]})
 else if a=8 then((k.ae.length:O),{ k with ae:=k.ae++ [Tb.iF]})
 else if a=6 then((k.aZ:O),{ k with aZ:=k.aZ+1})
 else((k.cM:O),{ k with cM:=k.cM+1})
def makes(core a b w:O)(s:Slot):J X->X->ag->ag
 | [],_,k=>k
 |at_::r,j,k=>makes core a b w s r (j+1) ((k.made core a b at_).2.laid s (0,w+(j:O)) ⟨a,(k.made core a b at_).1,7,0,0,0⟩)
def jy(k:ag)(n:O):sw:=(k.u[n.toNat]?).getD zU
def eG(k:ag)(d:pZ):O × ag:=
 if(bA (k.jy d.c.obj) d.call.a d.call.b d.call.c).2.2≠0 then((bA (k.jy d.c.obj) d.call.a d.call.b d.call.c).2.2,k)
 else if k.fD d.call.ar d.call.c.toNat≠0 then(k.fD d.call.ar d.call.c.toNat,k)
 else if(d.call.a=2/\64<(k.bits.length:O)+d.call.c)\/(d.call.a=3/\64<(k.t.bF.length:O)+d.call.c)then(2,k)
 else(0,makes d.core d.call.a d.call.b d.call.ar d.s (bA (k.jy d.c.obj) d.call.a d.call.b d.call.c).1 0 { k with u:=k.u.set d.c.obj.toNat (bA (k.jy d.c.obj) d.call.a d.call.b d.call.c).2.1})
def gg(c:cO)(r g:O):cO × O:=
 if Sl.bT c≠0 then(Sl.aq,Sl.bT c)else if ¬(0<=r/\r<=7)then(Sl.aq,1)
 else if c.kind=0\/(g≠0/\(Sl.df c.kind=Z\/c.ax≠0))then(Sl.aq,41)
 else({ c with ak:=if Sl.cW c.kind then da .i64 c.ak r else c.ak,ax:=if g≠0 then g else c.ax},0)
def mK(k:ag)(d:pZ):O × ag:=
 if d.c.kind=1 then(181,k)else if k.fD d.call.ar 1≠0 then(k.fD d.call.ar 1,k)
 else if(gg d.c d.call.a (qq.wrap d.call.b)).2≠0 then((gg d.c d.call.a (qq.wrap d.call.b)).2,k)
 else(0,k.laid d.s (0,d.call.ar) (gg d.c d.call.a (qq.wrap d.call.b)).1)
def move(k:ag)(d:pZ):O × ag:=
 if k.fD d.call.ar 1≠0 then(k.fD d.call.ar 1,k)
 else(0,{ k with H:=(Sl.dW k.bits k.H d.s (0,d.call.ar)).2,T:=(Tr.dW k.T d.s (0,d.call.ar)).2})
def dL(k:ag)(id:O):ag:={ k with ends:=k.ends.map (·.cancel id),notes:=k.notes.map (·.cancel id)}
def aQ(i:X)(P:Tb.fH):J dP:=P.map λx=>⟨(i:O),x.1,x.2.1,x.2.2⟩
def bh(f:O):X->J Tb.dv->J dP × J Tb.dv
 |_,[]=>([],[])
 |i,m::r=>(aQ i (m.pg.filter λx=>x.2.1==f)++(bh f (i+1) r).1,{ m with pg:=m.pg.filter λx=> !(x.2.1==f)}::(bh f (i+1) r).2)
def dB(n:O)(i:X):X->X->Tb.dv->J dP × Tb.dv
 |0,_,m=>([],m)
 |q+1,j,m=>if m.at (j:O)=S n then(aQ i (m.bp (j:O)).1++(dB n i q (j+1) (m.bp (j:O)).2.2).1,(dB n i q (j+1) (m.bp (j:O)).2.2).2)
  else dB n i q (j+1) m
def cF(n:O):X->J Tb.dv->J dP × J Tb.dv
 |_,[]=>([],[])
 |i,m::r=>((dB n i 64 0 m).1++(cF n (i+1) r).1,(dB n i 64 0 m).2::(cF n (i+1) r).2)
def last(k:ag)(c:cO):J dP × ag:=
 if c.kind=3 then([],{ k.dL c.obj with t:=(k.t.bM c.obj).2})
 else if c.kind=6 then((bh c.obj 0 k.ae).1,{ k with ae:=(bh c.obj 0 k.ae).2})
 else if c.kind=7 then((cF c.obj 0 k.ae).1,{ k with ae:=(cF c.obj 0 k.ae).2})
 else([],k)
def mG(a c:cO):W:=F (a.kind≠0)&&(F (a.kind=c.kind)&&F (a.obj=c.obj))
def more(k:ag)(c:cO):W:=(OC 64).any λi=>match k.H (0,(i:O))with|some x=>mG x c|none=>Z
def taken(k:ag)(s:Slot):ag:={ k with H:=Sl.cz k.H s I,T:=(Tr.takeN k.T s).2}
def gone(k:ag)(s:Slot):J dP × ag:=
 if(k.taken s).more ((k.H s).getD Sl.aq)then([],k.taken s)else(k.taken s).last ((k.H s).getD Sl.aq)
def cA:J Slot->ag->J dP × ag
 | [],k=>([],k)
 |s::r,k=>((k.gone s).1++(cA r (k.gone s).2).1,(cA r (k.gone s).2).2)
def kP(k:ag)(n:O):ag:={ k with u:=k.u.set n.toNat { k.jy n with used:=0}}
def bQ(k:ag)(t:Th.Mt):ag:={ k with t:=t}
def eu(k:ag)(id:O):O × O × ag:=((k.t.bE id).1,if(k.t.bE id).1=0 then id else -1,k.bQ (k.t.bE id).2)
def jS(k:ag)(id:O)(m:FY):ag:=k.bQ ((((k.t.nS id 0 m.ax).2.nS id 1 (qq.wrap m.label)).2.nS id 2 m.w0).2)
def rest(k:ag)(d:pZ):ag:=if d.call.c≠0 then k.bQ ((k.t.gL d.cur).2.aV d.core)else k
def ic(k:ag)(n:O):eN:=(k.ends[n.toNat]?).getD ⟨[],Z⟩
def lM(k:ag)(n:O):oN:=(k.notes[n.toNat]?).getD ⟨0,Z,[]⟩
def hI(k:ag)(n:O):Tb.dv:=(k.ae[n.toNat]?).getD Tb.iF
def eL(k:ag)(n:O)(p:eN):ag:={ k with ends:=k.ends.set n.toNat p}
def jn(k:ag)(n:O)(p:oN):ag:={ k with notes:=k.notes.set n.toNat p}
def kR(k:ag)(n:O)(p:Tb.dv):ag:={ k with ae:=k.ae.set n.toNat p}
def tell(e:O)(k:ag):Told × ag:=(⟨e,0,-1,[]⟩,k)
def dR(x:O × O × ag):Told × ag:=(⟨x.1,0,x.2.1,[]⟩,x.2.2)
def fa(d:pZ):FY:=⟨d.call.a,qq.wrap d.call.b,0,0,0,d.c.ax,Z⟩
def send(k:ag)(d:pZ):Told × ag:=
 if((k.ic d.c.obj).send d.cur (fa d) (d.call.c !=0)).2.1≠0 then tell ((k.ic d.c.obj).send d.cur (fa d) (d.call.c !=0)).2.1 (k.eL d.c.obj ((k.ic d.c.obj).send d.cur (fa d) (d.call.c !=0)).2.2)
 else if((k.ic d.c.obj).send d.cur (fa d) (d.call.c !=0)).1.is=Z then tell 0 ((k.eL d.c.obj ((k.ic d.c.obj).send d.cur (fa d) (d.call.c !=0)).2.2).rest d)
 else dR (((k.eL d.c.obj ((k.ic d.c.obj).send d.cur (fa d) (d.call.c !=0)).2.2).jS ((k.ic d.c.obj).send d.cur (fa d) (d.call.c !=0)).1.to ((k.ic d.c.obj).send d.cur (fa d) (d.call.c !=0)).1.m).eu ((k.ic d.c.obj).send d.cur (fa d) (d.call.c !=0)).1.to)
def recv(k:ag)(d:pZ):Told × ag:=
 if((k.ic d.c.obj).recv d.cur (d.call.c !=0)).2.1≠0 then tell ((k.ic d.c.obj).recv d.cur (d.call.c !=0)).2.1 (k.eL d.c.obj ((k.ic d.c.obj).recv d.cur (d.call.c !=0)).2.2)
 else if((k.ic d.c.obj).recv d.cur (d.call.c !=0)).1.is=Z then tell 0 ((k.eL d.c.obj ((k.ic d.c.obj).recv d.cur (d.call.c !=0)).2.2).rest d)
 else dR (((k.eL d.c.obj ((k.ic d.c.obj).recv d.cur (d.call.c !=0)).2.2).jS d.cur ((k.ic d.c.obj).recv d.cur (d.call.c !=0)).1.m).eu ((k.ic d.c.obj).recv d.cur (d.call.c !=0)).1.gk)
def a8(k:ag)(n g:O):O × ag:=match((k.lM n).a8 g).1 with
 |none=>(-1,k.jn n ((k.lM n).a8 g).2)
 |some who=>(who,(k.jn n ((k.lM n).a8 g).2).bQ (((k.t.nS who 0 g).2.bE who).2))
def wait(k:ag)(d:pZ):Told × ag:=
 if((k.lM d.c.obj).wait d.cur (d.call.c !=0)).1.2.2≠0 then tell ((k.lM d.c.obj).wait d.cur (d.call.c !=0)).1.2.2 (k.jn d.c.obj ((k.lM d.c.obj).wait d.cur (d.call.c !=0)).2)
 else(⟨0,((k.lM d.c.obj).wait d.cur (d.call.c !=0)).1.1,-1,[]⟩,if((k.lM d.c.obj).wait d.cur (d.call.c !=0)).1.2.1 then k.jn d.c.obj ((k.lM d.c.obj).wait d.cur (d.call.c !=0)).2 else(k.jn d.c.obj ((k.lM d.c.obj).wait d.cur (d.call.c !=0)).2).rest d)
def table(k:ag)(d:pZ):Told × ag:=
 if k.dx d.call.ar 8=Z then tell 181 k
 else tell ((k.hI (k.aX d.call.ar).obj).gZ d.call.a d.c.obj).1 (k.kR (k.aX d.call.ar).obj ((k.hI (k.aX d.call.ar).obj).gZ d.call.a d.c.obj).2)
def mapped(k:ag)(d:pZ):Told × ag:=
 if k.dx d.call.ar 8=Z then tell 181 k
 else tell ((k.hI (k.aX d.call.ar).obj).nF d.call.a (d.c.obj,da .i64 d.c.ak d.call.b)).1 (k.kR (k.aX d.call.ar).obj ((k.hI (k.aX d.call.ar).obj).nF d.call.a (d.c.obj,da .i64 d.c.ak d.call.b)).2)
def lJ(k:ag)(d:pZ):Told × ag:=
 (⟨((k.hI d.c.obj).bV d.call.a).2.1,0,-1,if((k.hI d.c.obj).bV d.call.a).2.1=0 then [⟨d.c.obj,d.call.a,((k.hI d.c.obj).bV d.call.a).1.1,((k.hI d.c.obj).bV d.call.a).1.2⟩]else []⟩,k.kR d.c.obj ((k.hI d.c.obj).bV d.call.a).2.2)
def bind(k:ag)(d:pZ):Told × ag:=
 if k.dx d.call.ar 5=Z then tell 181 k
 else tell (mW k.ln d.c.obj (k.aX d.call.ar).obj (k.aX d.call.ar).ax).1 { k with ln:=(mW k.ln d.c.obj (k.aX d.call.ar).obj (k.aX d.call.ar).ax).2}
def gP(k:ag)(r:(qg (O × O)× O)× wR):O × O × ag:=match r.1.1 with
 |none=>(r.1.2,-1,{ k with ln:=r.2})
 |some x=>(r.1.2,((ag.a8 { k with ln:=r.2} x.1 x.2).1),(ag.a8 { k with ln:=r.2} x.1 x.2).2)
def resume(k:ag)(d:pZ):O × O × ag:=(if k.t.cP d.c.obj=V/\(k.t.th d.c.obj).st=3 then k.dL d.c.obj else k).eu d.c.obj
def jm(k:ag)(d:pZ):Told × ag:=
 (⟨0,((Tr.cq k.T d.s).length:O),-1,(cA (Tr.cq k.T d.s).reverse k).1⟩,
  if d.c.kind=1 then(cA (Tr.cq k.T d.s).reverse k).2.kP d.c.obj else(cA (Tr.cq k.T d.s).reverse k).2)
def asks(k:ag)(d:pZ):Told × ag:=match d.call.ask with
 |0=>tell (k.eG d).1 (k.eG d).2
 |1=>tell (k.mK d).1 (k.mK d).2
 |2=>tell (k.move d).1 (k.move d).2
 |3=>if d.call.at_=0 then tell 181 k else(⟨0,0,-1,(k.gone d.s).1⟩,(k.gone d.s).2)
 |4=>k.jm d
 |5=>dR (k.resume d)
 |6=>tell (k.t.bM d.c.obj).1 ((k.dL d.c.obj).bQ (k.t.bM d.c.obj).2)
 |7=>tell (k.t.gn d.c.obj d.call.a).1 (k.bQ (k.t.gn d.c.obj d.call.a).2)
 |8=>k.send d
 |9=>k.recv d
 |10=>(⟨0,0,(k.a8 d.c.obj d.c.ax).1,[]⟩,(k.a8 d.c.obj d.c.ax).2)
 |11=>k.wait d
 |12=>k.table d
 |13=>k.mapped d
 |14=>k.lJ d
 |15=>k.bind d
 |_=>dR (k.gP (iQ k.ln d.c.obj))
def aG(ask:O):O × O:=([(1,0),(0,0),(0,0),(0,0),(0,0),(3,0),(3,0),(3,0),(4,2),(4,1),(5,2),(5,1),(7,0),(6,0),(8,0),(9,0),(9,0),(0,0)][ask.toNat]?).getD (0,0)
def asked(k:ag)(core cur:O)(c:Call):Told × ag:=
 if k.dx c.at_ (aG c.ask).1=Z then tell 181 k
 else if da .i64 (k.aX c.at_).ak (aG c.ask).2≠(aG c.ask).2 then tell 181 k
 else k.asks ⟨core,cur,c,(0,c.at_),k.aX c.at_⟩
def «do»(k:ag)(core:O)(c:Call):Told × ag:=match(k.t.aV core).bJ core with
 |none=>tell 182 (k.bQ (k.t.aV core))
 |some cur=>if c.ask<0\/18<=c.ask then tell 180 (k.bQ (k.t.aV core))
  else if c.ask=17 then tell 0 (k.bQ ((k.t.aV core).yield core))
  else(k.bQ (k.t.aV core)).asked core cur c
def irq(k:ag)(line:O):O × O × ag:=k.gP (eU k.ln line)
def tick(k:ag)(core:O):ag:=k.bQ (k.t.tick core)
end ag
section
variable{B:X}{w0 w:Y}{R L:J aH}{s:Sl}{b ae6:X}{k:ag}
def ag.fF(k:ag)(c:cO):Prop:=0<=c.obj/\(c.kind=1->c.obj<(k.u.length:O))/\(c.kind=2->c.obj<(k.bits.length:O))/\(c.kind=3->c.obj<(k.t.bF.length:O))/\
 (c.kind=4->c.obj<(k.ends.length:O))/\(c.kind=5->c.obj<(k.notes.length:O))/\(c.kind=6->c.obj<(k.aZ:O))/\(c.kind=7->c.obj<(k.cM:O))/\(c.kind=8->c.obj<(k.ae.length:O))/\(c.kind=9->c.obj<8)
structure bj(ae6:X)(k:ag):Prop where
 b0:k.bits[0]?=S 6
 sr:Sl.sq k.bits k.H
 held:∀s c,k.H s=S c->(s.1=0/\0<=s.2/\s.2<64)/\k.fF c
 tok:Tr.ph k.T
 mem:∀s,s∈k.T.map (·.1)↔(k.H s).isSome=V
 inv:Th.bB (-1) k.t
 ln:k.ln.length=8
 F0:∀x∈k.ln,x.is≠0->0<=x.note/\x.note<(k.notes.length:O)
 u:∀x∈k.u,yC x
 zG:∀m∈k.ae,Tb.fx m
 nu:k.u.length<=ae6
 ne:k.ends.length<=ae6
 nn:k.notes.length<=ae6
 ns:k.ae.length<=ae6
 nf:k.aZ<=ae6
 nt:k.cM<=ae6
 el:∀p∈k.ends,p.l.length<=ae6
 nl:∀p∈k.notes,p.l.length<=ae6
structure Gr(k k':ag):Prop where
 u:k.u.length<=k'.u.length
 b:k.bits.length<=k'.bits.length
 t:k.t.bF.length<=k'.t.bF.length
 e:k.ends.length<=k'.ends.length
 n:k.notes.length<=k'.notes.length
 f:k.aZ<=k'.aZ
 tb:k.cM<=k'.cM
 s:k.ae.length<=k'.ae.length
theorem Gr.obj{k k':ag}(h:Gr k k'){c:cO}(ho:k.fF c):k'.fF c:=by have h1:=h.u;have h2:=h.b;have h3:=h.t;have h4:=h.e;have h5:=h.n;have h6:=h.f;have h7:=h.tb;have h8:=h.s;obtain⟨o0,o1,o2,o3,o4,o5,o6,o7,o8,o9⟩:=ho;exact⟨o0,λe=>by have:=o1 e;omega,λe=>by have:=o2 e;omega,λe=>by have:=o3 e;omega,λe=>by have:=o4 e;omega,λe=>by have:=o5 e;omega,λe=>by have:=o6 e;omega,λe=>by have:=o7 e;omega,λe=>by have:=o8 e;omega,o9⟩
theorem bj.mono{ae6 M:X}{k:ag}(h:bj ae6 k)(hm:ae6<=M):bj M k:=
 { h with
  nu:=ON h.nu hm,ne:=ON h.ne hm,nn:=ON h.nn hm,ns:=ON h.ns hm,nf:=ON h.nf hm,nt:=ON h.nt hm
  el:=λp hp=>ON (h.el p hp) hm,nl:=λp hp=>ON (h.nl p hp) hm}
theorem HY{bits:J O}(h:bits[0]?=S 6):Sl.eC bits 0=S 6:=by unfold Sl.eC;rw[Q qb,show((0:O).toNat)=0 from U,h];rfl
theorem mi{bits:J O}(h:bits[0]?=S 6){s:Slot}(hs:s.1=0/\0<=s.2/\s.2<64):Sl.aR bits s=true:=by unfold Sl.aR;rw[hs.1,HY h];exact qm ⟨hs.2.1,by show s.2<2^6;omega⟩
theorem yi{T:Tr.Tr}{s:Slot}:(Tr.bz T s).isSome=V↔s∈T.map (·.1):=by unfold Tr.bz;rw[List.findIdx?_isSome,PS,O4];simp only[qA]
theorem rL{T:Tr.Tr}{s:Slot}(h:s∉T.map (·.1)):Tr.bz T s=none:=by
 cases e:Tr.bz T s with
 |none=>rfl
 |some i=>exact qi (yi.1 (by rw[e];rfl)) h
theorem sW{T:Tr.Tr}{s:Slot}(h:s∈T.map (·.1)):∃i,Tr.bz T s=S i:=PW.1 (yi.2 h)
theorem bj.fh(h:bj ae6 k):k.T.length<=64:=by
 have h1:=Sl.uG 64 ((k.T.map (·.1)).map (·.2)) (by
  refine QS.2 (List.Pairwise.imp_of_mem (λ{x y}hx hy hne e=>hne ?_) h.tok.nd);obtain⟨c,hc⟩:=PW.1 ((h.mem x).1 hx);obtain⟨d,hd⟩:=PW.1 ((h.mem y).1 hy);exact Prod.ext (by rw[(h.held x c hc).1.1,(h.held y d hd).1.1]) e) λx hx=>by
  obtain⟨s,hs,rfl⟩:=O4.1 hx;obtain⟨c,hc⟩:=PW.1 ((h.mem s).1 hs);exact(h.held s c hc).1.2
 simpa using h1
theorem bj.bQ(h:bj ae6 k){t:Th.Mt}(hi:Th.bB (-1) t)(hl:k.t.bF.length<=t.bF.length):bj ae6 (k.bQ t):=
 { h with
  inv:=hi
  held:=λs c hc=>⟨(h.held s c hc).1,Gr.obj (k:=k) (k':=k.bQ t) ⟨On _,On _,hl,On _,On _,On _,On _,On _⟩ (h.held s c hc).2⟩}
theorem bj.put(h:bj ae6 k){t:Slot}{c:cO}(ht:t.1=0/\0<=t.2/\t.2<64)(hn:k.H t=I)(hc:Sl.bT c=0)(h0:c.kind≠0):Sl.jl k.bits k.H t c=(0,Sl.cz k.H t (S c)):=by unfold Sl.jl;rw[mi h.b0 ht,Q qb,Q (by rw[hc];decide),Q h0,hn,Q qb]
theorem bj.laid(h:bj ae6 k){f t:Slot}{c:cO}(hf:(k.H f).isSome=V)(ht:t.1=0/\0<=t.2/\t.2<64)(hn:k.H t=I)(hc:Sl.bT c=0)(h0:c.kind≠0)(hr:Sl.fI c)(ho:k.fF c):
  bj ae6 (k.laid f t c)/\(k.laid f t c).H=Sl.cz k.H t (S c):=by
 have hput:=h.put ht hn hc h0;obtain⟨i,hi⟩:=sW ((h.mem f).2 hf);have hno:Tr.bz k.T t=none:=rL λe=>by rw[h.mem,hn]at e;cases e
 have hT:Tr.yE k.T f t=(0,k.T.take (i+1)++ [(t,Tr.vh k.T i+1)]++k.T.drop (i+1)):=by unfold Tr.yE;rw[hi];dsimp only;rw[hno]
 have hH:(k.laid f t c).H=Sl.cz k.H t (S c):=by unfold ag.laid;rw[hput]
 have hT2:(k.laid f t c).T=k.T.take (i+1)++ [(t,Tr.vh k.T i+1)]++k.T.drop (i+1):=by unfold ag.laid;rw[hT]
 have hfew:=h.fh;refine⟨{ h with
  sr:=by rw[hH];exact h.sr.put (mi h.b0 ht) hc h0 hr
  held:=λs x hx=>?_
  tok:=by rw[hT2];exact h.tok.add om hi hno
  mem:=λs=>?_},hH⟩
 .rw[hH]at hx
  unfold Sl.cz at hx;by_cases e:s=t
  .rw[A e]at hx;cases hx;rw[e];exact⟨ht,ho⟩
  .rw[Q e]at hx;exact h.held s x hx
 .rw[hH,hT2]
  unfold Sl.cz;have hm:s∈(k.T.take (i+1)++ [(t,Tr.vh k.T i+1)]++k.T.drop (i+1)).map (·.1)↔(s=t\/s∈k.T.map (·.1)):=by
   conv=>rhs;rw[<-O8 (i+1) k.T]
   simp only[OS,Pn,OZ,Qb,OY];constructor
   .rintro ((h|h)|h)
    .exact .inr (.inl h)
    .exact .inl h
    .exact .inr (.inr h)
   .rintro (h|h|h)
    .exact .inl (.inr h)
    .exact .inl (.inl h)
    .exact .inr h
  rw[hm];by_cases e:s=t
  .simp[e]
  .rw[Q e,<-h.mem];simp[e]
theorem bj.same(h:bj ae6 k){k':ag}(hb:k'.bits=k.bits)(hH:k'.H=k.H)(hT:k'.T=k.T)(hg:Gr k k')(hi:Th.bB (-1) k'.t)(hl:k'.ln.length=8)(hlb:∀x∈k'.ln,x.is≠0->0<=x.note/\x.note<(k'.notes.length:O))
  (hu:∀x∈k'.u,yC x) (hs:∀m∈k'.ae,Tb.fx m) {M:X} (nu:k'.u.length<=M) (ne:k'.ends.length<=M) (nn:k'.notes.length<=M) (ns:k'.ae.length<=M) (nf:k'.aZ<=M) (nt:k'.cM<=M) (el:∀p∈k'.ends,p.l.length<=M) (nl:∀p∈k'.notes,p.l.length<=M):bj M k':=
 ⟨by rw[hb];exact h.b0,by rw[hb,hH];exact h.sr,λs c hc=>by rw[hH]at hc;exact⟨(h.held s c hc).1,hg.obj (h.held s c hc).2⟩,by rw[hT];exact h.tok,λs=>by rw[hT,hH];exact h.mem s,hi,hl,hlb,hu,hs,nu,ne,nn,ns,nf,nt,el,nl⟩
theorem bj.cap(h:bj ae6 k){n:O}(hn:(k.aX n).kind≠0):(0<=n/\n<64)/\k.H (0,n)=S (k.aX n)/\k.fF (k.aX n)/\Sl.fI (k.aX n)/\Sl.bT (k.aX n)=0:=by
 unfold ag.aX at*
 split at hn
 .rename_i e
  rw[A e];cases hc:k.H (0,n)with
  |none=>rw[hc]at hn;exact qi U hn
  |some c=>exact⟨e,U,(h.held _ c hc).2,(h.sr.held _ c hc).2.2.2,(h.sr.held _ c hc).2.1⟩
 .exact qi U hn
theorem iA{n kind:O}(h:k.dx n kind=V):(k.aX n).kind≠0/\(kind≠0->(k.aX n).kind=kind):=by unfold ag.dx at h;simp only[OH,PE,qA]at h;exact⟨h.1,λe=>h.2.elim (λh=>qi h e) id⟩
theorem bj.xJ(h:bj ae6 k){w:O}{n:X}(hf:k.fD w n=0):0<=w/\w+n<=64/\∀i:X,i<n->k.H (0,w+(i:O))=none:=by
 unfold ag.fD at hf;split at hf
 .cases hf
 rename_i h1;split at hf
 .cases hf
 rename_i h2;refine⟨om,om,λi hi=>?_⟩;cases hc:k.H (0,w+(i:O))with
 |none=>rfl
 |some c=>
  exfalso;apply h2;rw[PS];refine⟨i,PQ.2 hi,qm ?_⟩;unfold ag.aX;rw[A om,hc];exact(h.sr.held _ c hc).2.2.1
theorem eJ{w:Y}{b o n i:X}{ss:J Sc}{f:u2 ss Prop}(h:av w (Addr.mk b (o+n) I) i ss f):av w ((Addr.mk b o I).add n) i ss f:=by rw[aO];exact h
theorem yB{w:Y}{b o n i:X}{vs:J N}{k:Pw}(h:aD w (Addr.mk b (o+n) I) i vs k):aD w ((Addr.mk b o I).add n) i vs k:=by rw[aO];exact h
theorem bc{w:Y}{b o n m:X}{v:qg N}(h:w.cell? ((Addr.mk b (o+n) I).add m)=v):w.cell? (((Addr.mk b o I).add n).add m)=v:=by rw[aO b o n];exact h
theorem iv{w:Y}{b o n m:X}{v:N}{k:Pw}(h:St w ((Addr.mk b (o+n) I).add m) v k):St w (((Addr.mk b o I).add n).add m) v k:=by rw[aO b o n];exact h
structure Kx where
 n:X
 tr:X
 t:X
 ln:X
 su:Sl
 se:Sl
 sn:Sl
 ss:Sl
 pe:J X
 pn:J X
 ps:J X
abbrev bN(x:Kx)(fr tb nb nt:X):J N:=[.q x.n,.q x.tr,.q x.t,.q x.ln,x.su.v,x.se.v,x.sn.v,x.ss.v,
 .z (fr:O),.z (tb:O),.z (nb:O),.z (nt:O)]
def aj(b:X)(k:ag):aH:=pa λx:Kx=>bo [aa b (bN x k.aZ k.cM k.bits.length k.t.bF.length),Sl.aC x.n k.bits k.H,Tr.bZ x.tr k.T,Th.bG x.t k.t,bR x.ln k.ln,af eM x.su k.u,af cd x.se x.pe,au cV x.pe k.ends,af cd x.sn x.pn,au cj x.pn k.notes,af cd x.ss x.ps,au Tb.bK x.ps k.ae]
def aA:dF dP:=⟨4,λo=>[.z o.space,.z o.bC,.z o.frame,.z o.ak],λ_=>rfl,λx v h=>by simp only[Oz,Ps,qC]at h;rcases h with rfl|rfl|rfl|rfl<;>rfl,qb⟩
abbrev ah(bk:X)(d:pZ)(e w wk:O)(fs:Sl):J N:=[.q bk,.z d.core,.z d.cur,.z d.call.ask,.z d.call.at_,.z d.call.ar,.z d.call.a,.z d.call.b,.z d.call.c,
 .z d.s.1,.z d.s.2,.z d.c.kind,.z d.c.obj,.z d.c.ak,.y d.c.ax,.y d.c.guard,.z d.c.bits,.z e,.y w,.z wk,fs.v]
theorem Ow.xP(h:Ow B w0 w (aj b k::R)):∃x:Kx,Ow B w0 w (aa b (bN x k.aZ k.cM k.bits.length k.t.bF.length)::Sl.aC x.n k.bits k.H::Tr.bZ x.tr k.T::Th.bG x.t k.t::bR x.ln k.ln::af eM x.su k.u::af cd x.se x.pe::au cV x.pe k.ends::af cd x.sn x.pn::au cj x.pn k.notes::af cd x.ss x.ps::au Tb.bK x.ps k.ae::R):=by obtain⟨x,h⟩:=h.ex;exact⟨x,h.star⟩
theorem Ow.cg(x:Kx){bits:J O}{H:Sl.Hs}{T:Tr.Tr}{t:Th.Mt}{ln:wR}{u:J sw}{ends:J eN}{notes:J oN}{ae:J Tb.dv}{fr tb:X}
  (h:Ow B w0 w (aa b (bN x fr tb bits.length t.bF.length)::Sl.aC x.n bits H::Tr.bZ x.tr T::Th.bG x.t t::bR x.ln ln::af eM x.su u::af cd x.se x.pe::au cV x.pe ends::af cd x.sn x.pn::au cj x.pn notes::af cd x.ss x.ps::au Tb.bK x.ps ae::R)):
  Ow B w0 w (aj b ⟨bits,H,T,t,ln,u,ends,notes,ae,fr,tb⟩::R):=Ow.eP x (Ow.br h)
def mF:cO:=⟨2,0,7,0,0,0⟩
theorem ym{bits:J O}{H:Sl.Hs}{n:X}(hb:bits[0]?=S 6)(hn:n<64):Sl.rU bits H mF n 6=((0,(n:O)),0):=by
 have hnode:Sl.oU bits mF=S 6:=by unfold Sl.oU;rw[Q qb,Q qb];exact HY hb
 have hstep:Sl.eo bits n mF 6=(0,(0,(n:O)),0):=by
  unfold Sl.eo;rw[hnode];dsimp only;rw[Q (show ¬6<mF.bits.toNat by decide),Q (show ¬((n / 2^(6-mF.bits.toNat)%2^mF.bits.toNat:X):O)≠mF.guard from λhh=>hh (by show((n / 64%1:X):O)=0;omega)),Q (show ¬(6-mF.bits.toNat<(show O from 6).toNat) by decide)];have e:n / 2^(6-mF.bits.toNat-(show O from 6).toNat)%2^(show O from 6).toNat=n:=by show n / 1%64=n;omega
  rw[e];rfl
 unfold Sl.rU;rw[Q qb];show Sl.kH bits H n 6 mF 6=_;unfold Sl.kH;rw[hstep];rfl
theorem tk{n:O}{K:O->O->W->Pw}(hb:k.bits[0]?=S 6)(h:Ow B w0 w (aj b k::R))
  (hK:∀w'(s:Slot)is,(is=V->s=(0,n)/\0<=n/\n<64)->(is=Z->¬(0<=n/\n<64))->Ow B w0 w' (aj b k::R)->K s.1 s.2 is w'):TM b.o n K w:=by
 apply acM;refine h.a λc w1 h=>?_;intro k4 hk4;have bad:¬(0<=n/\n<64)->k4 V w1:=λe=>by
  apply hk4;refine aU U ?_;refine h.ay U U λw h=>?_;refine h.aN U ?_;exact hK w (0,0) Z (λe=>by cases e) (λ_=>e) h.drop
 refine bg (λe=>bad om) (λe=>?_);by_cases e2:n>=64
 .rw[qm e2];exact bad om
 rw[qk e2];apply hk4;refine aW U ?_;obtain⟨n,rfl⟩:=Ox (show 0<=n by omega);refine h.a λd w2 h=>?_;refine h.ay U U λw h=>?_;intro k12 hk12;have fin:∀(s:X)(w:Y),Ow B w0 w (aa s [.z 0,.z (n:O)]::aa c [.z 0,.z 0]::aj b k::R)->k12 s.p 0 w:=λs w h=>by
  apply hk12;refine h.aN U ?_;refine h.ay U U λw h=>?_;refine h.aN U ?_;exact hK w (0,(n:O)) V (λ_=>⟨U,om,om⟩) (λe=>by cases e) h.drop.drop
 obtain⟨x,h⟩:=h.lK.xP;refine h.dr λw h=>?_;refine⟨_,U,h.l1 U ?_⟩;rw[show qq.wrap (n:O)=(n:O)from by rw[Sl.wrap_u64,O6 om]];refine h.dI U ⟨?_,?_,trivial⟩
 .refine Sl.lA (root:=mF) (addr:=n) (depth:=6) ⟨qb,qb,qb,qb⟩ om (h.pick (ae7:=Sl.aC x.n k.bits k.H)) λw h=>?_
  rw[ym hb om];refine⟨h.al λw' h=>⟨?_,trivial⟩,trivial⟩
  generalize w.heap.size=s at h|-;refine h.ay U U λw h=>?_;refine fin s w ((show Ow B w0 w (aj b k::aa s [.z 0,.z (n:O)]::aa c [.z 0,.z 0]::R) from Ow.cg x h.sub).sub)
 .refine h.al λw' h=>⟨?_,trivial⟩
  generalize w.heap.size=s at h|-;refine Sl.lA (root:=mF) (addr:=n) (depth:=6) ⟨qb,qb,qb,qb⟩ om (h.pick (ae7:=Sl.aC x.n k.bits k.H)) λw h=>?_;rw[ym hb om];refine⟨h.ay U U λw h=>?_,trivial⟩;refine fin s w ((show Ow B w0 w (aj b k::aa s [.z 0,.z (n:O)]::aa c [.z 0,.z 0]::R) from Ow.cg x h.sub).sub)
theorem rv{x:Kx}{s:Slot}{K:O->O->O->O->O->O->O->Pw}{L:J aH}(hk:Sl.sq k.bits k.H)(h:Ow B w0 w L)[ae4:eD (Sl.aC x.n k.bits k.H) L R]
  (hK:∀w' c e,c=(Sl.yX k.bits k.H s).1->Sl.fI c->Ow B w0 w' (Sl.aC x.n k.bits k.H::R)->K c.kind c.obj c.ak c.ax c.guard c.bits e w'):R6 x.n.o s.1 s.2 K w:=
 Sl.BH h.pick 0 U λw' c e he hr h=>hK w' c e (qw Prod.fst he) hr h
theorem ru{ae6:X}(hk:bj ae6 k){n:O}(hn:0<=n/\n<64):(Sl.yX k.bits k.H (0,n)).1=k.aX n:=by unfold Sl.yX;rw[Q (by rw[mi hk.b0 ⟨rfl,hn⟩];decide)];unfold ag.aX;rw[A hn]
theorem oq{ae6:X}{n kind:O}{K:O->O->O->O->O->O->O->O->W->Pw}(hk:bj ae6 k)(h:Ow B w0 w (aj b k::R))
  (h1:k.dx n kind=Z->∀(s:Slot)(c:cO)w',Ow B w0 w' (aj b k::R)->K s.1 s.2 c.kind c.obj c.ak c.ax c.guard c.bits Z w')
  (h2:k.dx n kind=V->∀w' c,c=k.aX n->Ow B w0 w' (aj b k::R)->K 0 n c.kind c.obj c.ak c.ax c.guard c.bits V w'):Rq b.o n kind K w:=by
 apply abd;refine h.a λc0 w1 h=>?_;refine h.a λc1 w2 h=>?_;refine tk hk.b0 h.lK λw s is ht hf h=>?_;refine h.a λc2 w' h=>?_;refine h.ay U U λw h=>?_;intro k12 hk12;have fin:∀(sb:X)(c:cO)(w:Y),(is=V->c=k.aX n)->Ow B w0 w (aa sb c.cells::aa c2 [.z s.1,.z s.2]::aj b k::aa c1 [.z 0,.z 0,.z 0,.y 0,.y 0,.z 0]::aa c0 [.z 0,.z 0]::R)->k12 sb.p w:=λsb c w hc h=>by
  apply hk12;refine h.dr λw h=>?_;refine h.aN U ?_;cases is with
  |false=>
   have hB:k.dx n kind=false:=by unfold ag.dx ag.aX;rw[Q (hf U)];rfl
   refine aW U ?_;have hKK:∀w',Ow B w0 w' (aj b k::R)->K s.1 s.2 c.kind c.obj c.ak c.ax c.guard c.bits Z w':=h1 hB s c
   (repeat' (first|exact trivial|(exact hKK _ h.sub)|(refine h.al λw h=>?_)|(refine h.dr λw h=>?_)|(refine h.aN U ?_)|(refine h.dI U ?_)|(refine h.l1 U ?_)|(refine h.l2 U ?_)|(refine h.hd U ?_)|(refine⟨h.aF U,?_⟩)|(refine⟨h.aE U,?_⟩)|(refine h.ay U U λw h=>?_)|(refine eX ?_)|(refine _root_.Go.Vc.a2 ?_)|(refine h.jx U U λw h=>?_)|(refine h.gh U U λw h=>?_)|(refine And.intro ?_ ?_)))
  |true=>
   obtain⟨rfl,hn⟩:=ht U;have hc:=hc U;refine aU U (h.l1 U ?_);refine oO (λe=>?_) (λe=>?_)
   .refine dK (λe2=>?_) (λe2=>?_)
    .have hB:k.dx n kind=true:=by unfold ag.dx;rw[<-hc];simp[e,e2]
     have hKK:∀w',Ow B w0 w' (aj b k::R)->K 0 n c.kind c.obj c.ak c.ax c.guard c.bits V w':=λw' h=>h2 hB w' c hc h
     (repeat' (first|exact trivial|(exact hKK _ h.sub)|(refine h.al λw h=>?_)|(refine h.dr λw h=>?_)|(refine h.aN U ?_)|(refine h.dI U ?_)|(refine h.l1 U ?_)|(refine h.l2 U ?_)|(refine h.hd U ?_)|(refine⟨h.aF U,?_⟩)|(refine⟨h.aE U,?_⟩)|(refine h.ay U U λw h=>?_)|(refine eX ?_)|(refine _root_.Go.Vc.a2 ?_)|(refine h.jx U U λw h=>?_)|(refine h.gh U U λw h=>?_)|(refine And.intro ?_ ?_)))
    .have hKK:∀w',Ow B w0 w' (aj b k::R)->K 0 n c.kind c.obj c.ak c.ax c.guard c.bits (c.kind==kind) w':=λw' h=>by
      by_cases e3:c.kind=kind
      .rw[show(c.kind==kind)=V from by simpa using e3]
       refine h2 ?_ w' c hc h;unfold ag.dx;rw[<-hc,<-e3];simp[e]
      .rw[show(c.kind==kind)=Z from by simpa using e3]
       refine h1 ?_ (0,n) c w' h;unfold ag.dx;rw[<-hc];simp[e2,e3]
     (repeat' (first|exact trivial|(exact hKK _ h.sub)|(refine h.al λw h=>?_)|(refine h.dr λw h=>?_)|(refine h.aN U ?_)|(refine h.dI U ?_)|(refine h.l1 U ?_)|(refine h.l2 U ?_)|(refine h.hd U ?_)|(refine⟨h.aF U,?_⟩)|(refine⟨h.aE U,?_⟩)|(refine h.ay U U λw h=>?_)|(refine eX ?_)|(refine _root_.Go.Vc.a2 ?_)|(refine h.jx U U λw h=>?_)|(refine h.gh U U λw h=>?_)|(refine And.intro ?_ ?_)))
   .have hKK:∀w',Ow B w0 w' (aj b k::R)->K 0 n c.kind c.obj c.ak c.ax c.guard c.bits Z w':=h1 (by unfold ag.dx;rw[<-hc];simp[e]) (0,n) c
    (repeat' (first|exact trivial|(exact hKK _ h.sub)|(refine h.al λw h=>?_)|(refine h.dr λw h=>?_)|(refine h.aN U ?_)|(refine h.dI U ?_)|(refine h.l1 U ?_)|(refine h.l2 U ?_)|(refine h.hd U ?_)|(refine⟨h.aF U,?_⟩)|(refine⟨h.aE U,?_⟩)|(refine h.ay U U λw h=>?_)|(refine eX ?_)|(refine _root_.Go.Vc.a2 ?_)|(refine h.jx U U λw h=>?_)|(refine h.gh U U λw h=>?_)|(refine And.intro ?_ ?_)))
 obtain⟨x,h⟩:=h.cw.xP;refine h.dr λw h=>?_;refine⟨_,U,h.l1 U ?_⟩;have hcap:∀c:cO,c=(Sl.yX k.bits k.H s).1->is=V->c=k.aX n:=λc hc e=>by obtain⟨rfl,hn⟩:=ht e;rw[hc,ru hk hn]
 refine h.aN U ⟨?_,?_,trivial⟩
 .refine rv (s:=s) hk.sr h λw c e hc hr h=>?_
  refine⟨h.al λw' h=>⟨?_,trivial⟩,trivial⟩
  generalize w.heap.size=sb at h|-;refine h.ay U U λw h=>?_;exact fin sb c w (hcap c hc) (Ow.sub (L:=aj b k::aa sb c.cells::aa c2 [.z s.1,.z s.2]::aa c1 [.z 0,.z 0,.z 0,.y 0,.y 0,.z 0]::aa c0 [.z 0,.z 0]::R) (Ow.cg x h.sub))
 .refine h.al λw' h=>⟨?_,trivial⟩
  generalize w.heap.size=sb at h|-;refine rv (s:=s) hk.sr h λw c e hc hr h=>?_;refine⟨h.ay U U λw h=>?_,trivial⟩;exact fin sb c w (hcap c hc) (Ow.sub (L:=aj b k::aa sb c.cells::aa c2 [.z s.1,.z s.2]::aa c1 [.z 0,.z 0,.z 0,.y 0,.y 0,.z 0]::aa c0 [.z 0,.z 0]::R) (Ow.cg x h.sub))
abbrev aI:dF Slot:=Sl.aI
theorem kL{w:Y}{ae7:qf}{x:Slot}{f:O->O->Prop}(g:∀c v,(aI.enc x)[c]?=S v->w.cell? (ae7.add c)=S v)(hf:f x.1 x.2):av w ae7 0 [.o,.o] f:=⟨_,g 0 _ U,_,g 1 _ U,hf⟩
theorem KG{w:Y}{ae7:qf}{x:Slot × cO}{f:O->O->O->O->O->O->O->O->Prop}(g:∀c v,(Sl.dV.enc x)[c]?=S v->w.cell? (ae7.add c)=S v)(hf:f x.1.1 x.1.2 x.2.kind x.2.obj x.2.ak x.2.ax x.2.guard x.2.bits):
  av w ae7 0 [.o,.o,.o,.o,.o,.u,.u,.o] f:=⟨_,g 0 _ U,_,g 1 _ U,_,g 2 _ U,_,g 3 _ U,_,g 4 _ U,_,g 5 _ U,_,g 6 _ U,_,g 7 _ U,hf⟩
theorem uT{p:Slot->W}{f:N}{xs:J Slot}{K:O->Pw}[ae4:bY s L Slot aI xs](h:Ow B w0 w L)(hbig:xs.length<=1000000000)
  (hf:∀(y:Slot)(w:Y)(ae5:W->Pw),y∈xs->Ow B w0 w L->(∀w',Ow B w0 w' L->ae5 (p y) w')->cT qe f [.agg ⟨aI.enc y⟩] w λen w'=>∃r:W,en= .returned (.bool r)/\ae5 r w')
  (hK:∀w',Ow B w0 w' L->K (dH p xs) w'):XS s f K w:=by
 apply aar;have hlen:=h.aL s;intro l hl;have loop:∀(m j:X)(w:Y),j+m=xs.length->(∀i,i<j->∀y,xs[i]?=S y->p y=Z)->Ow B w0 w L->l (j:O) w:=by
  intro m;induction m with
  |zero=>
   intro j w hj hno h;apply hl;refine aw om ?_;have hn:xs.findIdx? p=none:=by rw[Pa];intro y hy;obtain⟨i,hi⟩:=O5.1 hy;exact hno i (by have:=(Om.1 hi).1;omega) y hi
   have e:dH p xs= -1:=by unfold dH;rw[hn]
   rw[<-e];exact hK _ h
  |succ m ih=>
   intro j w hj hno h;have hx:xs[j]?=S xs[j]:=gE om;apply hl;refine az om ?_;refine h.bX (s:=s) U hx λa ha h0 hc=>?_;refine kL hc ?_;refine hf xs[j] w _ (Ph _) h λw h=>?_;cases hp:p xs[j]with
   |true=>
    refine aU U ?_;have hn:xs.findIdx? p=S j:=by rw[OT];refine⟨om,hp,λi hi=>?_⟩;have:=hno i hi xs[i] (gE om);simp[this]
    have e:dH p xs=(j:O):=by unfold dH;rw[hn]
    rw[<-e];exact hK _ h
   |false=>
    refine aW U ?_;rw[wr om om];refine ih (j+1) w om (λi hi z hz=>?_) h;by_cases e:i=j
    .subst e;rw[hx]at hz;cases hz;exact hp
    .exact hno i om z hz
 exact loop xs.length 0 w om (λi hi=>by omega) h
theorem p8{p:Slot->W}{f:N}{xs:J Slot}{K:W->Pw}[ae4:bY s L Slot aI xs](h:Ow B w0 w L)(hbig:xs.length<=1000000000)
  (hf:∀(y:Slot)(w:Y)(ae5:W->Pw),y∈xs->Ow B w0 w L->(∀w',Ow B w0 w' L->ae5 (p y) w')->cT qe f [.agg ⟨aI.enc y⟩] w λen w'=>∃r:W,en= .returned (.bool r)/\ae5 r w')
  (hK:∀w',Ow B w0 w' L->K (xs.any p) w'):Xu s f K w:=by
 apply aaj;refine uT h hbig hf λw h=>?_;rw[jT];exact hK w h
theorem uP{p:Slot × cO->W}{f:N}{xs:J (Slot × cO)}{K:O->Pw}[ae4:bY s L (Slot × cO) Sl.dV xs](h:Ow B w0 w L)(hbig:xs.length<=1000000000)
  (hf:∀(y:Slot × cO)(w:Y)(ae5:W->Pw),Ow B w0 w L->(∀w',Ow B w0 w' L->ae5 (p y) w')->cT qe f [.agg ⟨Sl.dV.enc y⟩] w λen w'=>∃r:W,en= .returned (.bool r)/\ae5 r w')
  (hK:∀w',Ow B w0 w' L->K (dH p xs) w'):XT s f K w:=by
 apply aau;have hlen:=h.aL s;intro l hl;have loop:∀(m j:X)(w:Y),j+m=xs.length->(∀i,i<j->∀y,xs[i]?=S y->p y=Z)->Ow B w0 w L->l (j:O) w:=by
  intro m;induction m with
  |zero=>
   intro j w hj hno h;apply hl;refine aw om ?_;have hn:xs.findIdx? p=none:=by rw[Pa];intro y hy;obtain⟨i,hi⟩:=O5.1 hy;exact hno i (by have:=(Om.1 hi).1;omega) y hi
   have e:dH p xs= -1:=by unfold dH;rw[hn]
   rw[<-e];exact hK _ h
  |succ m ih=>
   intro j w hj hno h;have hx:xs[j]?=S xs[j]:=gE om;apply hl;refine az om ?_;refine h.bX (s:=s) U hx λa ha h0 hc=>?_;refine KG hc ?_;refine hf xs[j] w _ h λw h=>?_;cases hp:p xs[j]with
   |true=>
    refine aU U ?_;have hn:xs.findIdx? p=S j:=by rw[OT];refine⟨om,hp,λi hi=>?_⟩;have:=hno i hi xs[i] (gE om);simp[this]
    have e:dH p xs=(j:O):=by unfold dH;rw[hn]
    rw[<-e];exact hK _ h
   |false=>
    refine aW U ?_;rw[wr om om];refine ih (j+1) w om (λi hi z hz=>?_) h;by_cases e:i=j
    .subst e;rw[hx]at hz;cases hz;exact hp
    .exact hno i om z hz
 exact loop xs.length 0 w om (λi hi=>by omega) h
theorem p7{p:Slot × cO->W}{f:N}{xs:J (Slot × cO)}{K:W->Pw}[ae4:bY s L (Slot × cO) Sl.dV xs](h:Ow B w0 w L)(hbig:xs.length<=1000000000)
  (hf:∀(y:Slot × cO)(w:Y)(ae5:W->Pw),Ow B w0 w L->(∀w',Ow B w0 w' L->ae5 (p y) w')->cT qe f [.agg ⟨Sl.dV.enc y⟩] w λen w'=>∃r:W,en= .returned (.bool r)/\ae5 r w')
  (hK:∀w',Ow B w0 w' L->K (xs.any p) w'):Xz s f K w:=by
 apply aak;refine uP h hbig hf λw h=>?_;rw[jT];exact hK w h
theorem jA{ys:J Slot}{y:Slot}{c:X}{k:Sl->Pw}[ae4:bY s L Slot aI ys][aeX:eD (af aI s ys) L R](h:Ow B w0 w (aa c [.z y.1,.z y.2]::L))(hbig:ys.length<=1000000000)
  (hk:∀s' w',s'.len=ys.length+1->Ow B w0 w' (af aI s' (ys++ [y])::R)->k s' w'):
  ∃s' w',aP qe [124,124] 124 s.v (.slice (S c.p) 1 1) w s' w'/\k s' w':=
 Ow.eR (E:=aI) (y:=y) qX (show qe.info? 155=S qS from by kernel_rfl) (zv:= .agg #[.z 0,.z 0]) qa qa U qb h (by
  have e:qS.bytes=16:=qa
  rw[e];omega) hk
theorem Af{ys:J sw}{y:sw}{c:X}{k:Sl->Pw}[ae4:bY s L sw eM ys][aeX:eD (af eM s ys) L R](h:Ow B w0 w (aa c [.y (y.base:O),.z (y.bits:O),.y (y.used:O)]::L))(hbig:ys.length<=1000000000)
  (hk:∀s' w',s'.len=ys.length+1->Ow B w0 w' (af eM s' (ys++ [y])::R)->k s' w'):
  ∃s' w',aP qe [52,52] 52 s.v (.slice (S c.p) 1 1) w s' w'/\k s' w':=
 Ow.eR (E:=eM) (y:=y) underlying52 (show qe.info? 98=S aeL from by kernel_rfl) (zv:= .agg #[.y 0,.z 0,.y 0]) qa qa U qb h (by
  have e:aeL.bytes=24:=qa
  rw[e];omega) hk
theorem u6{ys:J dP}{y:dP}{c:X}{k:Sl->Pw}[ae4:bY s L dP aA ys][aeX:eD (af aA s ys) L R](h:Ow B w0 w (aa c [.z y.space,.z y.bC,.z y.frame,.z y.ak]::L))(hbig:ys.length<=1000000000)
  (hk:∀s' w',s'.len=ys.length+1->Ow B w0 w' (af aA s' (ys++ [y])::R)->k s' w'):
  ∃s' w',aP qe [40,40] 40 s.v (.slice (S c.p) 1 1) w s' w'/\k s' w':=
 Ow.eR (E:=aA) (y:=y) ad8 (show qe.info? 289=S aeg from by kernel_rfl) (zv:= .agg #[.z 0,.z 0,.z 0,.z 0]) qa qa U qb h (by
  have e:aeg.bytes=32:=qa
  rw[e];omega) hk
theorem Gf{ys:J X}{y:X}{c:X}{k:Sl->Pw}[ae4:bY s L X cd ys][aeX:eD (af cd s ys) L R](h:Ow B w0 w (aa c [.q y]::L))(hbig:ys.length<=1000000000)
  (hk:∀s' w',s'.len=ys.length+1->Ow B w0 w' (af cd s' (ys++ [y])::R)->k s' w'):
  ∃s' w',aP qe [104,104] 104 s.v (.slice (S c.p) 1 1) w s' w'/\k s' w':=
 Ow.eR (E:=cd) (y:=y) underlying104 (show qe.info? 173=S aeM from by kernel_rfl) (zv:= .pointer I) qa qa U qb h (by
  have e:aeM.bytes=8:=qa
  rw[e];omega) hk
theorem Eu{ys:J X}{y:X}{c:X}{k:Sl->Pw}[ae4:bY s L X cd ys][aeX:eD (af cd s ys) L R](h:Ow B w0 w (aa c [.q y]::L))(hbig:ys.length<=1000000000)
  (hk:∀s' w',s'.len=ys.length+1->Ow B w0 w' (af cd s' (ys++ [y])::R)->k s' w'):
  ∃s' w',aP qe [105,105] 105 s.v (.slice (S c.p) 1 1) w s' w'/\k s' w':=
 Ow.eR (E:=cd) (y:=y) underlying105 (show qe.info? 177=S aeN from by kernel_rfl) (zv:= .pointer I) qa qa U qb h (by
  have e:aeN.bytes=8:=qa
  rw[e];omega) hk
theorem Ci{ys:J X}{y:X}{c:X}{k:Sl->Pw}[ae4:bY s L X cd ys][aeX:eD (af cd s ys) L R](h:Ow B w0 w (aa c [.q y]::L))(hbig:ys.length<=1000000000)
  (hk:∀s' w',s'.len=ys.length+1->Ow B w0 w' (af cd s' (ys++ [y])::R)->k s' w'):
  ∃s' w',aP qe [101,101] 101 s.v (.slice (S c.p) 1 1) w s' w'/\k s' w':=
 Ow.eR (E:=cd) (y:=y) underlying101 (show qe.info? 99=S aeO from by kernel_rfl) (zv:= .pointer I) qa qa U qb h (by
  have e:aeO.bytes=8:=qa
  rw[e];omega) hk
theorem tf{a c:cO}{K:W->Pw}(h:Ow B w0 w R)(hK:∀w',Ow B w0 w' R->K (ag.mG a c) w'):XB a.kind a.obj a.ak a.ax a.guard a.bits c.kind c.obj c.ak c.ax c.guard c.bits K w:=by
 apply YT;refine h.a λc0 w1 h=>?_;refine h.a λc1 w2 h=>?_;unfold ag.mG at hK;refine h.l1 U ?_;refine oO (λe=>?_) (λe=>?_)
 .refine ⟨_,h.aF U,h.l1 U ?_⟩
  refine dK (λe2=>?_) (λe2=>?_)
  .refine ⟨_,h.aE U,h.l2 U ?_⟩
   have:=hK w2 h.drop.drop;rw[qm e,qm e2,Qa,Qa]at this;exact this
  .have:=hK w2 h.drop.drop
   rw[qk e2,P5,Bool.and_false]at this;exact this
 .have:=hK w2 h.drop.drop
  rw[qk (by simpa using e),P5]at this;exact this
theorem yd{c:cO}{r g:O}{K:O->O->O->O->O->O->O->Pw}(hc:Sl.fI c)(h:Ow B w0 w R)
  (hK:∀w' x,x=(ag.gg c r g).1->Ow B w0 w' R->K x.kind x.obj x.ak x.ax x.guard x.bits (ag.gg c r g).2 w'):UE c.kind c.obj c.ak c.ax c.guard c.bits r g K w:=by
 apply YO;refine h.a λc0 w1 h=>?_;refine h.a λc1 w2 h=>?_;refine h.dI U ?_;refine Sl.jd h hc λw h=>?_;unfold ag.gg at hK;have bad:∀(q:O)(w:Y),(∀w',Ow B w0 w' R->K 0 0 0 0 0 0 q w')->Ow B w0 w (aa c1 [.z 0,.z 0,.z 0,.y 0,.y 0,.z 0]::aa c0 c.cells::R)->
   aD w c1.p 0 [.z (0:O),.z (0:O),.z (0:O),.y (0:O),.y (0:O),.z (0:O)] λw28=>
    av w28 c1.p 0 [.o,.o,.o,.u,.u,.o] λ(r29:O)(r30:O)(r31:O)(r32:O)(r33:O)(r34:O)=>K r29 r30 r31 r32 r33 r34 q w28:=λq w hK h=>by
  refine h.ay U U λw h=>?_;refine h.dI U ?_;exact hK w h.drop.drop
 by_cases h1:Sl.bT c≠0
 .rw[A h1]at hK
  refine iy h1 (bad _ w (λw' h=>hK w' _ U h) h)
 rw[Q h1]at hK;refine fG om ?_;refine Sl.lq ?_;by_cases h2:¬(0<=r/\r<=7)
 .rw[A h2]at hK
  rw[show(!(F (0<=r)&&F (r<=7)))=V from by simp;omega];exact aU U (bad _ w (λw' h=>hK w' _ U h) h)
 rw[Q h2]at hK;rw[show(!(F (0<=r)&&F (r<=7)))=Z from by simp;omega];refine aW U (h.l1 U ?_);intro k36 hk36;have no:(c.kind=0\/(g≠0/\(Sl.df c.kind=Z\/c.ax≠0)))->k36 V w:=λe=>by rw[A e]at hK;apply hk36;exact aU U (bad _ w (λw' h=>hK w' _ U h) h)
 have yes:¬(c.kind=0\/(g≠0/\(Sl.df c.kind=Z\/c.ax≠0)))->k36 Z w:=λe=>by
  rw[Q e]at hK;apply hk36;refine aW U (h.l1 U ?_);refine Sl.ky ?_;intro k49 hk49;have fin:∀(r':O)(w:Y),r'=(if Sl.cW c.kind then da .i64 c.ak r else c.ak)->Ow B w0 w (aa c1 [.z 0,.z 0,.z 0,.y 0,.y 0,.z 0]::aa c0 [.z c.kind,.z c.obj,.z r',.y c.ax,.y c.guard,.z c.bits]::R)->k49 w:=λr' w hr h=>by
   apply hk49;refine oO (λe=>?_) (λe=>?_)
   .refine h.gh U U λw h=>?_
    refine h.dI U ?_;refine h.ay U U λw h=>?_;refine h.dI U ?_;have:=hK w _ U h.drop.drop;rw[A e,<-hr]at this;exact this
   .refine h.dI U ?_
    refine h.ay U U λw h=>?_;refine h.dI U ?_;have:=hK w _ U h.drop.drop;rw[Q (λhh=>hh e:¬g≠0),<-hr]at this;exact this
  cases hl:Sl.cW c.kind with
  |true=>
   refine aU U (h.l2 U ?_);refine h.gh U U λw h=>?_;exact fin _ w (by rw[hl];rfl) h
  |false=>
   refine aW U ?_;exact fin _ w (by rw[hl];rfl) h
 refine dK (λe=>?_) (λe=>?_)
 .rw[show(c.kind==0)=V from by simpa using e];exact no (.inl e)
 refine oO (λe2=>?_) (λe2=>?_)
 .refine h.l1 U ?_
  refine Sl.ll ?_;cases hb:Sl.df c.kind with
  |false=>exact aU U (no (.inr ⟨e2,.inl hb⟩))
  |true=>
   refine aW U (h.l2 U ?_);by_cases e3:c.ax=0
   .rw[show(c.ax !=0)=Z from by simpa using e3]
    exact yes (λhh=>hh.elim e λhh=>hh.2.elim (λh=>by rw[hb]at h;cases h) λh=>h e3)
   .rw[show(c.ax !=0)=V from by simpa using e3]
    exact no (.inr ⟨e2,.inr e3⟩)
 .exact yes (λhh=>hh.elim e λhh=>hh.1 e2)
theorem FX{a:O}{i:X}(h0: -9223372036854775808<=a)(h1:a<9223372036854775808)(hi:i<=1000):(qd.wrap (a+(i:O))=a+(i:O)\/(qd.wrap (a+(i:O))<0/\64<=a+(i:O))):=by
 by_cases e:a+(i:O)<9223372036854775808
 .exact .inl (wr om om)
 .refine .inr ⟨?_,om⟩
  have e1:(2:O)^64=18446744073709551616:=qb
  have e2:(2:O)^63=9223372036854775808:=qb
  have:qd.wrap (a+(i:O))=a+(i:O)-18446744073709551616:=by have hm:(a+(i:O))%18446744073709551616=a+(i:O):=Int.emod_eq_of_lt om om;simp only[IntKind.wrap,IntKind.bits,IntKind.signed,e1,Qa];rw[hm];simp;omega
  omega
end
section
variable{B:X}{w0 w:Y}{R L:J aH}{bd bk:X}{k:ag}{d:pZ}{ec wv wk:O}{fs:Sl}{ae6:X}
theorem Cq{n:O}{bx:X}{K:W->Pw}(hk:bj ae6 k)(hn:0<=n/\n<64)(h:Ow B w0 w (aa bx [.q bd]::aa bd (ah bk d ec wv wk fs)::aj bk k::R))
  (hK:∀w',Ow B w0 w' (aa bx [.q bd]::aa bd (ah bk d ec wv wk fs)::aj bk k::R)->K (F ((k.aX n).kind≠0)) w'):Xt 0 n bx.p K w:=by
 apply acW;refine h.a λc0 w1 h=>?_;intro k5 hk5;have fin:∀(s:X)(c:cO)(w:Y),c=k.aX n->Ow B w0 w (aa s c.cells::aa bx [.q bd]::aa bd (ah bk d ec wv wk fs)::aj bk k::R)->k5 s.p w:=λs c w hc h=>by
  apply hk5;refine h.l1 U ?_;have:=hK w h.drop;rw[<-hc,show F (c.kind≠0)=(c.kind !=0)from by
   by_cases e:c.kind=0
   .simp[e]
   .simp[e]]at this
  exact this
 obtain⟨x,h⟩:=(h.pick (ae7:=aj bk k)).xP;refine h.dr λw h=>?_;refine⟨_,h.aF U,_,U,_,h.aF U,_,U,h.l1 U (h.aN U ⟨?_,?_,trivial⟩)⟩
 .refine rv (s:=(0,n)) hk.sr h λw c e hc hr h=>?_
  rw[ru hk hn]at hc;refine⟨h.al λw' h=>⟨?_,trivial⟩,trivial⟩
  generalize w.heap.size=sb at h|-;refine h.ay U U λw h=>?_;refine fin sb c w hc ((show Ow B w0 w (aj bk k::aa sb c.cells::aa bx [.q bd]::aa bd (ah bk d ec wv wk fs)::R) from Ow.cg x h.sub).sub)
 .refine h.al λw' h=>⟨?_,trivial⟩
  generalize w.heap.size=sb at h|-;refine rv (s:=(0,n)) hk.sr h λw c e hc hr h=>?_;rw[ru hk hn]at hc;refine⟨h.ay U U λw h=>?_,trivial⟩;refine fin sb c w hc ((show Ow B w0 w (aj bk k::aa sb c.cells::aa bx [.q bd]::aa bd (ah bk d ec wv wk fs)::R) from Ow.cg x h.sub).sub)
def cE(a:O)(n:X):J Slot:=(OC n).map λi:X=>(0,a+(i:O))
theorem free_spec{n:X}{K:Sl->O->Pw}(hk:bj ae6 k)(hw0: -9223372036854775808<=d.call.ar)(hw1:d.call.ar<9223372036854775808)(hn:1<=n/\n<=64)(h:Ow B w0 w (aa bd (ah bk d ec wv wk fs)::aj bk k::R))
  (h1:k.fD d.call.ar n≠0->∀s w',Ow B w0 w' (aa bd (ah bk d ec wv wk fs)::aj bk k::R)->K s (k.fD d.call.ar n) w')
  (h2:k.fD d.call.ar n=0->∀s w',Ow B w0 w' (af aI s (cE d.call.ar n)::aa bd (ah bk d ec wv wk fs)::aj bk k::R)->K s 0 w'):TN bd.o (n:O) K w:=by
 apply acN;refine h.a λbx w1 h=>?_;intro l4 hl4;have bad:(d.call.ar<0\/64<d.call.ar+n)->∀w,Ow B w0 w (aa bd (ah bk d ec wv wk fs)::aj bk k::R)->K z0 181 w:=λhb w h=>by
  have e:k.fD d.call.ar n=181:=by unfold ag.fD;rw[A hb]
  have:=h1 (by rw[e];decide) z0 w h;rw[e]at this;exact this
 have loop:∀(m j:X)(o:Sl)(w:Y),j+m=n->(0<j->0<=d.call.ar/\d.call.ar+j<=64)->Ow B w0 w (af aI o (cE d.call.ar j)::aa bx [.q bd]::aa bd (ah bk d ec wv wk fs)::aj bk k::R)->l4 o (j:O) w:=by
  intro m;induction m with
  |zero=>
   intro j o w hj hin h;have hj:j=n:=om
   subst hj;obtain⟨i0,i1⟩:=hin om;apply hl4;refine aw om ?_;have hpv:∀y∈cE d.call.ar j,y.1=0/\0<=y.2/\y.2<64:=λy hy=>by obtain⟨i,hi,rfl⟩:=O4.1 hy;rw[PQ]at hi;exact⟨U,by show 0<=d.call.ar+(i:O);omega,by show d.call.ar+(i:O)<64;omega⟩
   refine p8 (s:=o) (p:=λy=>F ((k.aX y.2).kind≠0)) h (by unfold cE;simp;omega) (λy w ae5 hy h hQ=>?_) λw h=>?_
   .refine aT ?_
    obtain⟨y1,y2⟩:=y;obtain⟨e1,e2⟩:=hpv _ hy;dsimp only at e1 e2;subst e1;show Xt 0 y2 bx.p ae5 w;refine Cq (bd:=bd) (bk:=bk) (k:=k) (d:=d) (ec:=ec) (wv:=wv) (wk:=wk) (fs:=fs) (R:=af aI o (cE d.call.ar j)::R) hk e2 h.sub λw h=>hQ w h.sub
   .have e:(cE d.call.ar j).any (λy=>F ((k.aX y.2).kind≠0))=(OC j).any λi=>F ((k.aX (d.call.ar+(i:O))).kind≠0):=by unfold cE;rw[List.any_map];rfl
    rw[e];cases hb:(OC j).any λi=>F ((k.aX (d.call.ar+(i:O))).kind≠0)with
    |true=>
     have e:k.fD d.call.ar j=51:=by unfold ag.fD;rw[Q om,A hb]
     refine aU U ?_;have:=h1 (by rw[e];decide) z0 w h.drop.drop;rw[e]at this;exact this
    |false=>
     have e:k.fD d.call.ar j=0:=by unfold ag.fD;rw[Q om,Q (by rw[hb];decide)]
     refine aW U ?_;exact h2 e o w h.sub
  |succ m ih=>
   intro j o w hj hin h;apply hl4;refine az om ?_;intro k8 hk8;have hwr:=FX (a:=d.call.ar) (i:=j) hw0 hw1 om;obtain⟨v,hwv⟩:∃v,qd.wrap (d.call.ar+(j:O))=v:=⟨_,U⟩
   rw[hwv]at hwr;have fin:∀(sb:X)(s:Slot)(is:W)(w:Y),(is=V->s=(0,v)/\0<=v/\v<64)->(is=Z->¬(0<=v/\v<64))->Ow B w0 w (aa sb [.z s.1,.z s.2]::af aI o (cE d.call.ar j)::aa bx [.q bd]::aa bd (ah bk d ec wv wk fs)::aj bk k::R)->k8 sb.p is w:=λsb s is w ht hf h=>by
    apply hk8;intro k12 hk12;have kbad:∀w,(d.call.ar<0\/64<d.call.ar+n)->Ow B w0 w (aa bd (ah bk d ec wv wk fs)::aj bk k::R)->k12 V w:=λw hb h=>by apply hk12;exact aU U (bad hb w h)
    cases is with
    |false=>
     have:=hf U;refine aU U (kbad w ?_ h.sub);omega
    |true=>
     obtain⟨rfl,v0,v1⟩:=ht U;refine aW U ?_;refine⟨_,h.aF U,_,U,_,bc (h.aE U),?_⟩;by_cases hneg:d.call.ar<0
     .rw[qm hneg]
      exact kbad w (.inl hneg) h.sub
     rw[qk hneg];apply hk12;refine aW U ?_;have hv:v=d.call.ar+(j:O):=om
     subst hv;refine h.aN U ?_;refine h.a λg w2 h=>?_;refine jA (s:=o) (y:=(0,d.call.ar+(j:O))) h (by unfold cE;simp;omega) λo' w ho' h=>?_;rw[wI j om];refine ih (j+1) o' w om (λ_=>by omega) ?_;have e:cE d.call.ar (j+1)=cE d.call.ar j++ [(0,d.call.ar+(j:O))]:=by unfold cE;rw[List.range_succ,OS];rfl
     rw[e];exact h.sub
   refine h.dr λw h=>?_;refine⟨_,h.aF U,_,U,_,h.aF U,_,h.aF U,_,U,_,bc (h.aE U),?_⟩;rw[hwv];refine⟨?_,?_,trivial⟩
   .refine tk hk.b0 (h.pick (ae7:=aj bk k)) λw s is ht hf h=>?_
    refine⟨h.al λw' h=>⟨?_,trivial⟩,trivial⟩
    generalize w.heap.size=sb at h|-;refine h.ay U U λw h=>?_;exact fin sb s is w ht hf h.sub
   .refine h.al λw' h=>⟨?_,trivial⟩
    generalize w.heap.size=sb at h|-;refine tk hk.b0 (h.pick (ae7:=aj bk k)) λw s is ht hf h=>?_;refine⟨h.ay U U λw h=>?_,trivial⟩;exact fin sb s is w ht hf h.sub
 have e0:cE d.call.ar 0= []:=rfl;exact loop n 0 z0 w1 om (λhh=>qi hh om) (by rw[e0];exact Ow.cH h)
theorem oy{s:Slot}{c:cO}{K:Pw}(hc:Sl.fI c)(hl:k.T.length<1000000)(h:Ow B w0 w (aa bd (ah bk d ec wv wk fs)::aj bk k::R))
  (hK:∀w',Ow B w0 w' (aa bd (ah bk d ec wv wk fs)::aj bk (k.laid d.s s c)::R)->K w'):UD bd.o s.1 s.2 c.kind c.obj c.ak c.ax c.guard c.bits K w:=by
 apply acO;refine h.a λc0 w1 h=>?_;refine h.a λc1 w2 h=>?_;obtain⟨x,h⟩:=(h.pick (ae7:=aj bk k)).xP;refine h.dr λw h=>?_;refine⟨_,U,_,h.aF U,_,U,h.l1 U (h.aN U (h.dI U ⟨Sl.iW (s:=s) (c:=c) hc (h.pick (ae7:=Sl.aC x.n k.bits k.H)) λw h=>?_,trivial⟩))⟩;refine h.dr λw h=>?_;refine⟨_,U,_,h.aF U,_,U,_,h.aE U,_,U,eJ (h.aN U (h.aN U ⟨Tr.xl (p:=d.s) (s:=s) hl (h.pick (ae7:=Tr.bZ x.tr k.T)) λw h=>?_,trivial⟩))⟩;refine hK w ((show Ow B w0 w (aj bk (k.laid d.s s c)::aa bd (ah bk d ec wv wk fs)::R) from Ow.cg x h.sub).sub)
def ag.Bx(k:ag)(core a b:O):Prop:=(a=1->0<=b)/\(a=2->1<=b/\b<=8/\k.bits.length<64)/\(a=3->k.t.fS core=V/\k.t.bF.length<64)
theorem E0{at_:X}{K:O->Pw}(hk:bj ae6 k)(hN:ae6<=100000)(hr:k.Bx d.core d.call.a d.call.b)(h:Ow B w0 w (aa bd (ah bk d ec wv wk fs)::aj bk k::R))
  (hK:∀w',Ow B w0 w' (aa bd (ah bk d ec wv wk fs)::aj bk (k.made d.core d.call.a d.call.b at_).2::R)->K (k.made d.core d.call.a d.call.b at_).1 w'):WR bd.o (at_:O) K w:=by
 apply acP;have nu:=hk.nu;have ne:=hk.ne;have nn:=hk.nn;have ns:=hk.ns;have nf:=hk.nf;have nt:=hk.nt;obtain⟨r1,r2,r3⟩:=hr;unfold ag.made at hK;obtain⟨x,h⟩:=(h.pick (ae7:=aj bk k)).xP;refine⟨_,U,_,bc (h.aE U),dK (λe=>?_) (λe=>?_)⟩
 .rw[A e]at hK
  obtain⟨bn,hbn⟩:=Ox (r1 e);rw[hbn,Int.toNat_natCast]at hK;refine h.dr λw h=>?_;refine⟨_,U,_,U,_,h.aF U,_,U,x.su,h.aE U,_,U,_,bc (h.aE U),_,h.aF U,h.al λw2 h=>⟨?_,trivial⟩,trivial⟩
  generalize w.heap.size=g at h|-;have h:Ow B w0 w2 (aa g [.y (((show sw from ⟨at_,bn,0⟩).base:X):O),.z (((show sw from ⟨at_,bn,0⟩).bits:X):O),.y (((show sw from ⟨at_,bn,0⟩).used:X):O)]::_):=h.yK (by rw[hbn];rfl);refine Af (s:=x.su) (y:=⟨at_,bn,0⟩) h om λs' w hs' h=>?_;refine⟨h.aF U,_,U,h.gh U U λw h=>?_,trivial⟩;refine⟨_,U,_,h.aF U,_,U,s',h.aE U,?_⟩;rw[hs',show qd.wrap (((k.u.length+1:X):O)-1)=(k.u.length:O)from by rw[wr om om];omega]
  (try dsimp only[bN,ah,putAt,Pj,OI,OJ]at h)
  refine hK w ((show Ow B w0 w (aj bk { k with u:=k.u++ [⟨at_,bn,0⟩]}::aa bd (ah bk d ec wv wk fs)::R) from Ow.cg { x with su:=s'} h.sub).sub)
 rw[Q e]at hK;refine dK (λe2=>?_) (λe2=>?_)
 .rw[A e2]at hK
  obtain⟨b1,b2,b3⟩:=r2 e2;have hm:Sl.eO k.bits d.call.b=((k.bits.length:O),0,k.bits++ [d.call.b]):=by unfold Sl.eO;rw[Q om,Q om]
  rw[hm]at hK;refine⟨_,U,_,h.aF U,_,U,_,h.aE U,_,U,?_⟩;rw[show qd.wrap ((k.bits.length:O)+1)=(((k.bits++ [d.call.b]).length:X):O)from by rw[wr om om];simp];refine h.gh U U λw h=>?_;refine h.dr λw h=>?_
  (try dsimp only[bN,ah,putAt,Pj,OI,OJ]at h)
  refine⟨_,U,_,h.aF U,_,U,_,h.aF U,_,U,_,bc (h.aE U),Sl.im (h.pick (ae7:=Sl.aC x.n k.bits k.H)) λw h=>?_,trivial⟩;rw[hm]at h|-;dsimp only at h|-;refine hK w ((show Ow B w0 w (aj bk { k with bits:=k.bits++ [d.call.b]}::aa bd (ah bk d ec wv wk fs)::R) from Ow.cg x h.sub).sub)
 rw[Q e2]at hK;refine dK (λe3=>?_) (λe3=>?_)
 .rw[A e3]at hK
  obtain⟨b1,b2⟩:=r3 e3;have hm:k.t.cv 0 d.core=((k.t.bF.length:O),0,k.t.make 0 d.core):=by unfold Th.Mt.cv;rw[Q (λhh=>hh ⟨qb,qb,b1⟩),Q om]
  rw[hm]at hK;have hml:(k.t.make 0 d.core).bF.length=k.t.bF.length+1:=by unfold Th.Mt.make;simp
  refine⟨_,U,_,h.aF U,_,U,_,h.aE U,_,U,?_⟩;rw[show qd.wrap ((k.t.bF.length:O)+1)=(((k.t.make 0 d.core).bF.length:X):O)from by rw[wr om om,hml];simp];refine h.gh U U λw h=>?_;refine h.dr λw h=>?_
  (try dsimp only[bN,ah,putAt,Pj,OI,OJ]at h)
  refine⟨_,U,_,h.aF U,_,U,_,h.aE U,_,U,_,h.aE U,Th.KK hk.inv.ok (h.pick (ae7:=Th.bG x.t k.t)) λw h=>?_,trivial⟩;rw[hm]at h|-;dsimp only at h|-;refine hK w ((show Ow B w0 w (aj bk { k with t:=k.t.make 0 d.core}::aa bd (ah bk d ec wv wk fs)::R) from Ow.cg x h.sub).sub)
 rw[Q e3]at hK;refine dK (λe4=>?_) (λe4=>?_)
 .rw[A e4]at hK
  have hpl:=(h.pick (ae7:=au cV x.pe k.ends)).cQ;refine h.dr λw h=>?_;refine⟨_,U,_,U,_,h.aF U,_,h.aF U,_,U,x.se,h.aE U,rl h λp w h=>?_,trivial⟩;refine⟨h.aE U,h.aF U,h.aF U,h.al λw2 h=>⟨?_,trivial⟩,trivial⟩
  generalize w.heap.size=g at h|-;refine Gf (s:=x.se) (y:=p) h om λs' w hs' h=>?_;refine⟨h.aF U,_,U,h.gh U U λw h=>?_,trivial⟩;refine⟨_,U,_,h.aF U,_,U,s',h.aE U,?_⟩;rw[hs',show qd.wrap (((x.pe.length+1:X):O)-1)=(k.ends.length:O)from by rw[wr om om];omega]
  (try dsimp only[bN,ah,putAt,Pj,OI,OJ]at h)
  have h:=Ow.nL ((h.pick (ae7:=au cV x.pe k.ends)).pick (ae7:=cV p ⟨[],Z⟩));refine hK w ((show Ow B w0 w (aj bk { k with ends:=k.ends++ [⟨[],Z⟩]}::aa bd (ah bk d ec wv wk fs)::R) from Ow.cg { x with se:=s',pe:=x.pe++ [p]} h.sub).sub)
 rw[Q e4]at hK;refine dK (λe5=>?_) (λe5=>?_)
 .rw[A e5]at hK
  have hpl:=(h.pick (ae7:=au cj x.pn k.notes)).cQ;refine h.dr λw h=>?_;refine⟨_,U,_,U,_,h.aF U,_,h.aF U,_,U,x.sn,h.aE U,ud h λp w h=>?_,trivial⟩;refine⟨h.aE U,h.aF U,h.aF U,h.al λw2 h=>⟨?_,trivial⟩,trivial⟩
  generalize w.heap.size=g at h|-;refine Eu (s:=x.sn) (y:=p) h om λs' w hs' h=>?_;refine⟨h.aF U,_,U,h.gh U U λw h=>?_,trivial⟩;refine⟨_,U,_,h.aF U,_,U,s',h.aE U,?_⟩;rw[hs',show qd.wrap (((x.pn.length+1:X):O)-1)=(k.notes.length:O)from by rw[wr om om];omega]
  (try dsimp only[bN,ah,putAt,Pj,OI,OJ]at h)
  have h:=Ow.nL ((h.pick (ae7:=au cj x.pn k.notes)).pick (ae7:=cj p ⟨0,Z,[]⟩));refine hK w ((show Ow B w0 w (aj bk { k with notes:=k.notes++ [⟨0,Z,[]⟩]}::aa bd (ah bk d ec wv wk fs)::R) from Ow.cg { x with sn:=s',pn:=x.pn++ [p]} h.sub).sub)
 rw[Q e5]at hK;refine dK (λe8=>?_) (λe8=>?_)
 .rw[A e8]at hK
  have hpl:=(h.pick (ae7:=au Tb.bK x.ps k.ae)).cQ;refine h.dr λw h=>?_;refine⟨_,U,_,U,_,h.aF U,_,h.aF U,_,U,x.ss,h.aE U,Tb.iP h λp w h=>?_,trivial⟩;refine⟨h.aE U,h.aF U,h.aF U,h.al λw2 h=>⟨?_,trivial⟩,trivial⟩
  generalize w.heap.size=g at h|-;refine Ci (s:=x.ss) (y:=p) h om λs' w hs' h=>?_;refine⟨h.aF U,_,U,h.gh U U λw h=>?_,trivial⟩;refine⟨_,U,_,h.aF U,_,U,s',h.aE U,?_⟩;rw[hs',show qd.wrap (((x.ps.length+1:X):O)-1)=(k.ae.length:O)from by rw[wr om om];omega]
  (try dsimp only[bN,ah,putAt,Pj,OI,OJ]at h)
  have h:=Ow.nL ((h.pick (ae7:=au Tb.bK x.ps k.ae)).pick (ae7:=Tb.bK p Tb.iF));refine hK w ((show Ow B w0 w (aj bk { k with ae:=k.ae++ [Tb.iF]}::aa bd (ah bk d ec wv wk fs)::R) from Ow.cg { x with ss:=s',ps:=x.ps++ [p]} h.sub).sub)
 rw[Q e8]at hK;refine dK (λe6=>?_) (λe6=>?_)
 .rw[A e6]at hK
  refine⟨_,U,_,h.aF U,_,U,_,h.aE U,_,U,?_⟩;rw[show qd.wrap ((k.aZ:O)+1)=((k.aZ+1:X):O)from by rw[wr om om];omega];refine h.gh U U λw h=>?_;refine⟨_,U,_,h.aF U,_,U,h.l2 U ?_⟩;rw[show qd.wrap (((k.aZ+1:X):O)-1)=(k.aZ:O)from by rw[wr om om];omega]
  (try dsimp only[bN,ah,putAt,Pj,OI,OJ]at h)
  refine hK w ((show Ow B w0 w (aj bk { k with aZ:=k.aZ+1}::aa bd (ah bk d ec wv wk fs)::R) from Ow.cg x h.sub).sub)
 .rw[Q e6]at hK
  refine⟨_,U,_,h.aF U,_,U,_,h.aE U,_,U,?_⟩;rw[show qd.wrap ((k.cM:O)+1)=((k.cM+1:X):O)from by rw[wr om om];omega];refine h.gh U U λw h=>?_;refine⟨_,U,_,h.aF U,_,U,h.l2 U ?_⟩;rw[show qd.wrap (((k.cM+1:X):O)-1)=(k.cM:O)from by rw[wr om om];omega]
  (try dsimp only[bN,ah,putAt,Pj,OI,OJ]at h)
  refine hK w ((show Ow B w0 w (aj bk { k with cM:=k.cM+1}::aa bd (ah bk d ec wv wk fs)::R) from Ow.cg x h.sub).sub)
theorem iw{a n:O}(ha:1<=a/\a<=9)(hn:0<=n/\n<2147483648):Sl.bT ⟨a,n,7,0,0,0⟩=0:=by
 have hg:Sl.eE 0 0=true:=qb
 unfold Sl.bT;split
 .rfl
 .rw[Q]
  have:a=1\/a=2\/a=3\/a=4\/a=5\/a=6\/a=7\/a=8\/a=9:=om
  unfold Sl.gx;rcases this with rfl|rfl|rfl|rfl|rfl|rfl|rfl|rfl|rfl<;>simp[hn.1,hn.2,hg,Sl.cW,Sl.df]
theorem lk{a n:O}:Sl.fI ⟨a,n,7,0,0,0⟩:=⟨by show(0:O)<=0;decide,by show(0:O)<_;decide,by show(0:O)<=0;decide,by show(0:O)<_;decide⟩
end
section
variable{ae6:X}{k:ag}
theorem gl{a n:O}(h0:0<=n)(h1:a=1->n<(k.u.length:O))(h2:a=2->n<(k.bits.length:O))(h3:a=3->n<(k.t.bF.length:O))(h4:a=4->n<(k.ends.length:O))(h5:a=5->n<(k.notes.length:O))
  (h6:a=6->n<(k.aZ:O)) (h7:a=7->n<(k.cM:O)) (h8:a=8->n<(k.ae.length:O)) (h9:a=9->n<8):k.fF ⟨a,n,7,0,0,0⟩:=⟨h0,h1,h2,h3,h4,h5,h6,h7,h8,h9⟩
theorem bj.Ib(h:bj ae6 k){l:J sw}(hl:∀x∈l,yC x)(hg:k.u.length<=l.length)(hm:l.length<=ae6):bj ae6 { k with u:=l}:=
 h.same (k':={ k with u:=l}) U U U ⟨hg,On _,On _,On _,On _,On _,On _,On _⟩ h.inv h.ln h.F0 hl h.zG hm h.ne h.nn h.ns h.nf h.nt h.el h.nl
theorem Hg(hi:Th.bB (-1) k.t){c:O}(h1:k.t.fS c=V)(h2:k.t.bF.length<64):k.t.cv 0 c=((k.t.bF.length:O),0,k.t.make 0 c):=by unfold Th.Mt.cv;rw[Q (λhh=>hh ⟨qb,qb,h1⟩),Q om]
theorem bj.made(h:bj ae6 k)(hN:ae6<=100000){core a b:O}{at_:X}(ha:1<=a/\a<=8)(hr:k.Bx core a b)(hu:a=1->yC ⟨at_,b.toNat,0⟩):
  bj (ae6+1) (k.made core a b at_).2/\Gr k (k.made core a b at_).2/\(k.made core a b at_).2.H=k.H/\(k.made core a b at_).2.T=k.T/\(k.made core a b at_).2.fF ⟨a,(k.made core a b at_).1,7,0,0,0⟩/\
   (k.made core a b at_).2.bits.length<=k.bits.length+1/\(k.made core a b at_).2.t.bF.length<=k.t.bF.length+1/\(k.made core a b at_).2.t.qs.length=k.t.qs.length/\(k.made core a b at_).1<=200000:=by
 have hM:=h.mono (P3 ae6);have h1:=h.nu;have h2:=h.ne;have h3:=h.nn;have h4:=h.ns;have h5:=h.nf;have h6:=h.nt;have hbl:=h.sr.fh;have htl:=h.inv.ok.fh;obtain⟨r1,r2,r3⟩:=hr;have noty:∀{p:Prop},a≠a->p:=λhh=>qi U hh;unfold ag.made;by_cases e:a=1
 .rw[A e]
  subst e;refine⟨hM.Ib (λx hx=>?_) qc (by simp;omega),⟨qc,On _,On _,On _,On _,On _,On _,On _⟩,rfl,rfl,?_,by dsimp only;omega,by dsimp only;omega,rfl,by dsimp only;omega⟩
  .rcases Pn.1 hx with hx|hx
   .exact h.u x hx
   .rw[OY.1 hx];exact hu U
  .dsimp only
   refine gl ?_ ?_ ?_ ?_ ?_ ?_ ?_ ?_ ?_ ?_<;>(try simp)<;>(try omega)
 rw[Q e];by_cases e2:a=2
 .rw[A e2]
  subst e2;obtain⟨b1,b2,b3⟩:=r2 U;have hm:Sl.eO k.bits b=((k.bits.length:O),0,k.bits++ [b]):=by unfold Sl.eO;rw[Q om,Q om]
  rw[hm];have hG:Gr k { k with bits:=k.bits++ [b]}:=⟨On _,qc,On _,On _,On _,On _,On _,On _⟩
  refine⟨{ hM with b0:= ?_,sr:=h.sr.make b1 b2 b3,held:=λs c hc=>⟨(h.held s c hc).1,hG.obj (h.held s c hc).2⟩},hG,U,U,?_,qc,by dsimp only;omega,rfl,by dsimp only;omega⟩
  .dsimp only
   rw[Oy (by have:=(Om.1 h.b0).1;omega)];exact h.b0
  .dsimp only
   refine gl ?_ ?_ ?_ ?_ ?_ ?_ ?_ ?_ ?_ ?_<;>(try simp)<;>(try omega)
 rw[Q e2];by_cases e3:a=3
 .rw[A e3]
  subst e3;obtain⟨b1,b2⟩:=r3 U;rw[Hg h.inv b1 b2];have hml:(k.t.make 0 core).bF.length=k.t.bF.length+1:=by unfold Th.Mt.make;simp
  have hG:Gr k { k with t:=k.t.make 0 core}:=⟨On _,On _,by dsimp only;omega,On _,On _,On _,On _,On _⟩
  refine⟨{ hM with inv:=h.inv.make b2 b1 qb,held:=λs c hc=>⟨(h.held s c hc).1,hG.obj (h.held s c hc).2⟩},hG,U,U,?_,by dsimp only;omega,by dsimp only;omega,rfl,by dsimp only;omega⟩
  .dsimp only
   refine gl ?_ ?_ ?_ ?_ ?_ ?_ ?_ ?_ ?_ ?_<;>(try simp)<;>(try omega)
 rw[Q e3];by_cases e4:a=4
 .rw[A e4]
  subst e4;have hG:Gr k { k with ends:=k.ends++ [⟨[],Z⟩]}:=⟨On _,On _,On _,qc,On _,On _,On _,On _⟩
  refine⟨{ hM with ne:=by simp;omega,el:=λp hp=>?_,held:=λs c hc=>⟨(h.held s c hc).1,hG.obj (h.held s c hc).2⟩},hG,U,U,?_,by dsimp only;omega,by dsimp only;omega,rfl,by dsimp only;omega⟩
  .rcases Pn.1 hp with hp|hp
   .exact hM.el p hp
   .rw[OY.1 hp];simp
  .dsimp only
   refine gl ?_ ?_ ?_ ?_ ?_ ?_ ?_ ?_ ?_ ?_<;>(try simp)<;>(try omega)
 rw[Q e4];by_cases e5:a=5
 .rw[A e5]
  subst e5;have hG:Gr k { k with notes:=k.notes++ [⟨0,Z,[]⟩]}:=⟨On _,On _,On _,On _,qc,On _,On _,On _⟩
  refine⟨{ hM with nn:=by simp;omega,nl:=λp hp=>?_,F0:=λx hx hx2=>?_,held:=λs c hc=>⟨(h.held s c hc).1,hG.obj (h.held s c hc).2⟩},hG,U,U,?_,by dsimp only;omega,by dsimp only;omega,rfl,by dsimp only;omega⟩
  .have:=h.F0 x hx hx2
   dsimp only;rw[Ov];exact⟨this.1,by have:=this.2;simp;omega⟩
  .rcases Pn.1 hp with hp|hp
   .exact hM.nl p hp
   .rw[OY.1 hp];simp
  .dsimp only
   refine gl ?_ ?_ ?_ ?_ ?_ ?_ ?_ ?_ ?_ ?_<;>(try simp)<;>(try omega)
 rw[Q e5];by_cases e8:a=8
 .rw[A e8]
  subst e8;have hG:Gr k { k with ae:=k.ae++ [Tb.iF]}:=⟨On _,On _,On _,On _,On _,On _,On _,qc⟩
  refine⟨{ hM with ns:=by simp;omega,zG:=λp hp=>?_,held:=λs c hc=>⟨(h.held s c hc).1,hG.obj (h.held s c hc).2⟩},hG,U,U,?_,by dsimp only;omega,by dsimp only;omega,rfl,by dsimp only;omega⟩
  .rcases Pn.1 hp with hp|hp
   .exact hM.zG p hp
   .rw[OY.1 hp];exact Tb.fx.new
  .dsimp only
   refine gl ?_ ?_ ?_ ?_ ?_ ?_ ?_ ?_ ?_ ?_<;>(try simp)<;>(try omega)
 rw[Q e8];by_cases e6:a=6
 .rw[A e6]
  subst e6;have hG:Gr k { k with aZ:=k.aZ+1}:=⟨On _,On _,On _,On _,On _,by dsimp only;omega,On _,On _⟩
  refine⟨{ hM with nf:=by dsimp only;omega,held:=λs c hc=>⟨(h.held s c hc).1,hG.obj (h.held s c hc).2⟩},hG,U,U,?_,by dsimp only;omega,by dsimp only;omega,rfl,by dsimp only;omega⟩
  .dsimp only
   refine gl ?_ ?_ ?_ ?_ ?_ ?_ ?_ ?_ ?_ ?_<;>(try simp)<;>(try omega)
 .rw[Q e6]
  have e7:a=7:=om
  subst e7;have hG:Gr k { k with cM:=k.cM+1}:=⟨On _,On _,On _,On _,On _,On _,by dsimp only;omega,On _⟩
  refine⟨{ hM with nt:=by dsimp only;omega,held:=λs c hc=>⟨(h.held s c hc).1,hG.obj (h.held s c hc).2⟩},hG,U,U,?_,by dsimp only;omega,by dsimp only;omega,rfl,by dsimp only;omega⟩
  .dsimp only
   refine gl ?_ ?_ ?_ ?_ ?_ ?_ ?_ ?_ ?_ ?_<;>(try simp)<;>(try omega)
theorem Hf{core a b:O}{at_:X}(ho:(k.made core a b at_).2.fF ⟨a,(k.made core a b at_).1,7,0,0,0⟩):0<=(k.made core a b at_).1:=ho.1
def ag.mv(core a b w:O)(s:Slot)(j:X)(at_:X)(k:ag):ag:=(k.made core a b at_).2.laid s (0,w+(j:O)) ⟨a,(k.made core a b at_).1,7,0,0,0⟩
theorem bj.mv(h:bj ae6 k)(hN:ae6<=100000){core a b w:O}{s:Slot}{j at_:X}(ha:1<=a/\a<=8)(hr:k.Bx core a b)(hu:a=1->yC ⟨at_,b.toNat,0⟩)(hs:(k.H s).isSome=V)
  (hw:0<=w/\w+(j:O)<64) (hn:k.H (0,w+(j:O))=I):
  bj (ae6+1) (k.mv core a b w s j at_)/\Gr k (k.mv core a b w s j at_)/\(k.mv core a b w s j at_).H=Sl.cz k.H (0,w+(j:O)) (S ⟨a,(k.made core a b at_).1,7,0,0,0⟩)/\
   (k.mv core a b w s j at_).bits.length<=k.bits.length+1/\(k.mv core a b w s j at_).t.bF.length<=k.t.bF.length+1/\(k.mv core a b w s j at_).t.qs.length=k.t.qs.length:=by
 obtain⟨m1,m2,m3,m4,m5,m6,m7,m8,m9⟩:=h.made hN ha hr hu;have hl:=m1.laid (f:=s) (t:=(0,w+(j:O))) (c:=⟨a,(k.made core a b at_).1,7,0,0,0⟩) (by rw[m3];exact hs) ⟨U,by show 0<=w+(j:O);omega,hw.2⟩ (by rw[m3];exact hn)
  (iw ⟨ha.1,om⟩ ⟨Hf m5,om⟩) (show a≠0 by omega) lk m5
 refine⟨hl.1,⟨m2.u,m2.b,m2.t,m2.e,m2.n,m2.f,m2.tb,m2.s⟩,?_,m6,m7,m8⟩;show(ag.laid _ _ _ _).H=_;rw[hl.2,m3]
structure uV(core a b w:O)(s:Slot)(ats:J X)(j M:X)(k:ag):Prop where
 ok:bj M k
 le:M+ats.length<=100000
 kind:1<=a/\a<=8
 r1:a=1->0<=b/\∀x∈ats,yC ⟨x,b.toNat,0⟩
 r2:a=2->1<=b/\b<=8/\k.bits.length+ats.length<=64
 r3:a=3->k.t.fS core=V/\k.t.bF.length+ats.length<=64
 hs:(k.H s).isSome=V
 w0:0<=w
 w1:w+(j:O)+(ats.length:O)<=64
 fr:∀i:X,i<ats.length->k.H (0,w+((j+i:X):O))=I
theorem uV.room{core a b w:O}{s:Slot}{x:X}{ats:J X}{j M:X}{k:ag}(h:uV core a b w s (x::ats) j M k):k.Bx core a b/\(a=1->yC ⟨x,b.toNat,0⟩)/\(w+(j:O)<64)/\k.H (0,w+(j:O))=none:=by have h1:=h.r1;have h2:=h.r2;have h3:=h.r3;have h4:=h.w1;have h5:=h.fr 0 qc;simp only[OB]at h2 h3 h4;exact⟨⟨λe=>(h1 e).1,λe=>⟨(h2 e).1,(h2 e).2.1,by have:=(h2 e).2.2;omega⟩,λe=>⟨(h3 e).1,by have:=(h3 e).2;omega⟩⟩,λe=>(h1 e).2 x Po,om,by simpa using h5⟩
theorem uV.step{core a b w:O}{s:Slot}{x:X}{ats:J X}{j M:X}{k:ag}(h:uV core a b w s (x::ats) j M k):uV core a b w s ats (j+1) (M+1) (k.mv core a b w s j x):=by
 obtain⟨g1,g2,g3,g4⟩:=h.room;have hle:=h.le;have hw1:=h.w1;have hr2:=h.r2;have hr3:=h.r3;simp only[OB]at hle hw1 hr2 hr3;obtain⟨m1,m2,m3,m4,m5,m6⟩:=h.ok.mv om h.kind g1 g2 h.hs ⟨h.w0,g3⟩ g4;refine⟨m1,om,h.kind,λe=>⟨(h.r1 e).1,λy hy=>(h.r1 e).2 y (Pq _ hy)⟩,λe=>⟨(hr2 e).1,(hr2 e).2.1,by have:=(hr2 e).2.2;omega⟩,λe=>⟨?_,by have:=(hr3 e).2;omega⟩,?_,h.w0,om,λi hi=>?_⟩
 .have:=(hr3 e).1
  unfold Th.Mt.fS at this|-;rw[m6];exact this
 .rw[m3]
  unfold Sl.cz;split
  .rfl
  .exact h.hs
 .rw[m3]
  unfold Sl.cz;rw[Q (λe=>by have:=qw Prod.snd e;dsimp only at this;omega)];have:=h.fr (i+1) (by simp;omega)
  rwa [show j+(i+1)=j+1+i from by omega]at this
theorem uV.all{core a b w:O}{s:Slot}:∀{ats:J X}{j M:X}{k:ag},uV core a b w s ats j M k->bj (M+ats.length) (ag.makes core a b w s ats j k)
 | [],j,M,k,h=>h.ok
 |x::ats,j,M,k,h=>by have:=uV.all h.step;rw[show M+1+ats.length=M+(x::ats).length from by simp;omega]at this;exact this
theorem HX{a b:O}(h:(fb a b).2=0):(1<=a/\a<=8)/\(a=1->4<=b/\b<=20/\(fb a b).1=b)/\(a=2->1<=b/\b<=8):=by
 unfold fb at*
 by_cases e1:a=1
 .rw[A e1]at h|-
  split at h
  .rename_i hb
   rw[A hb];exact⟨om,λ_=>⟨hb.1,hb.2,U⟩,om⟩
  .cases h
 rw[Q e1]at h|-;by_cases e2:a=2
 .rw[A e2]at h|-
  split at h
  .rename_i hb
   exact⟨om,om,λ_=>hb⟩
  .cases h
 rw[Q e2]at h|-;refine⟨?_,λe=>qi e e1,λe=>qi e e2⟩;split at h
 .omega
 split at h
 .omega
 split at h
 .omega
 .cases h
end
section
variable{B:X}{w0 w:Y}{R:J aH}{α:Type}{ae7:X->α->aH}{ps:J X}{xs:J α}{L:J aH}{b bd bk:X}{k:ag}{d:pZ}{ec wv wk:O}{fs:Sl}{ae6:X}
theorem bj.jy(hk:bj ae6 k){n:O}(h0:0<=n)(h1:n<(k.u.length:O)):k.u[n.toNat]?=S (k.jy n)/\yC (k.jy n):=by have hx:k.u[n.toNat]?=S k.u[n.toNat]:=gE om;unfold ag.jy;rw[hx];exact⟨U,hk.u _ (Ph _)⟩
theorem mc(hk:bj ae6 k)(hN:ae6+64<=100000)(hs:(k.H d.s).isSome=V)(hc:d.c.kind=1)(ho:k.fF d.c)(hcore:k.t.fS d.core=V)
  (h0:(bA (k.jy d.c.obj) d.call.a d.call.b d.call.c).2.2=0) (h1:k.fD d.call.ar d.call.c.toNat=0) (h2:¬((d.call.a=2/\64<(k.bits.length:O)+d.call.c)\/(d.call.a=3/\64<(k.t.bF.length:O)+d.call.c))):
  uV d.core d.call.a d.call.b d.call.ar d.s (bA (k.jy d.c.obj) d.call.a d.call.b d.call.c).1 0 ae6 { k with u:=k.u.set d.c.obj.toNat (bA (k.jy d.c.obj) d.call.a d.call.b d.call.c).2.1}:=by
 obtain⟨hu1,hu2⟩:=hk.jy ho.1 (ho.2.1 hc);obtain⟨p1,p2,p3,p4,p5,p6⟩:=hu2.place h0;obtain⟨s1,s2,s3⟩:=HX p5;obtain⟨f1,f2,f3⟩:=hk.xJ h1;refine⟨hk.Ib (λx hx=>?_) qc (by simpa using hk.nu),om,s1,λe=>⟨by have:=s2 e;omega,λx hx=>?_⟩,λe=>⟨(s3 e).1,(s3 e).2,?_⟩,λe=>⟨hcore,?_⟩,hs,f1,by rw[p4];omega,λi hi=>?_⟩
 .rcases Px hx with hx|hx
  .exact hk.u x hx
  .rw[hx];exact p3
 .obtain ⟨q1,q2⟩:=p6 x hx
  rw[(s2 e).2.2]at q1 q2;exact⟨by show d.call.b.toNat<=20;have:=s2 e;omega,q2,q1,Qi _⟩
 .dsimp only;rw[p4];omega
 .dsimp only;rw[p4];omega
 .rw[p4]at hi
  have:=f3 i hi
  rwa [show((0+i:X):O)=(i:O)from by omega]
theorem bj.eG(hk:bj ae6 k)(hN:ae6+64<=100000)(hs:(k.H d.s).isSome=V)(hc:d.c.kind=1)(ho:k.fF d.c)(hcore:k.t.fS d.core=V):bj (ae6+64) (k.eG d).2:=by
 unfold ag.eG;by_cases h0:(bA (k.jy d.c.obj) d.call.a d.call.b d.call.c).2.2≠0
 .rw[A h0];exact hk.mono om
 rw[Q h0];by_cases h1:k.fD d.call.ar d.call.c.toNat≠0
 .rw[A h1];exact hk.mono om
 rw[Q h1];split
 .exact hk.mono om
 rename_i h2;have hm:=mc hk hN hs hc ho hcore om om h2;obtain⟨hu1,hu2⟩:=hk.jy ho.1 (ho.2.1 hc);obtain⟨p1,p2,p3,p4,p5,p6⟩:=hu2.place (show(bA (k.jy d.c.obj) d.call.a d.call.b d.call.c).2.2=0 by omega);exact hm.all.mono (by rw[p4];omega)
theorem Bt{K:O->Pw}(hk:bj ae6 k)(hN:ae6+64<=100000)(hs:(k.H d.s).isSome=V)(hc:d.c.kind=1)(ho:k.fF d.c)(hcore:k.t.fS d.core=V)
  (hw0: -9223372036854775808<=d.call.ar) (hw1:d.call.ar<9223372036854775808) (h:Ow B w0 w (aa bd (ah bk d ec wv wk fs)::aj bk k::R))
  (hK:∀w',Ow B w0 w' (aa bd (ah bk d ec wv wk fs)::aj bk (k.eG d).2::R)->K (k.eG d).1 w'):V1 bd.o K w:=by
 apply abe;obtain⟨hu1,hu2⟩:=hk.jy ho.1 (ho.2.1 hc);have o0:=ho.1;have o1:=ho.2.1 hc;have hst:=mc (d:=d) hk hN hs hc ho hcore;have hpl:=hu2.place (kind:=d.call.a) (bits:=d.call.b) (n:=d.call.c);unfold ag.eG at hK;refine⟨_,U,eJ (h.dI U (h.a λcb w1 h=>?_))⟩;refine h.ay U U λw h=>?_;intro k11 hk11;have fin:∀(l:X)(s:Sl)(w:Y),Ow B w0 w (aa l [.y ((bA (k.jy d.c.obj) d.call.a d.call.b d.call.c).2.1.base:O),.z ((bA (k.jy d.c.obj) d.call.a d.call.b d.call.c).2.1.bits:O),.y ((bA (k.jy d.c.obj) d.call.a d.call.b d.call.c).2.1.used:O)]::af wE s (bA (k.jy d.c.obj) d.call.a d.call.b d.call.c).1::
   aa cb d.call.cl::aa bd (ah bk d ec wv wk fs)::aj bk k::R)->k11 s l.p (bA (k.jy d.c.obj) d.call.a d.call.b d.call.c).2.2 w:=λl s w h=>by
  apply hk11;generalize bA (k.jy d.c.obj) d.call.a d.call.b d.call.c=P at h hK hst hpl|-;obtain⟨ats,left,er⟩:=P;dsimp only at h hK hst hpl|-;by_cases h0:er≠0
  .rw[A h0]at hK
   exact iy h0 (hK w h.sub)
  rw[Q h0]at hK;have h0:er=0:=om
  obtain⟨p1,p2,p3,p4,p5,p6⟩:=hpl h0;refine fG h0 (h.l2 U ?_);obtain⟨cn,hcn⟩:=Ox (show 0<=d.call.c by omega);have hcn2:d.call.c.toNat=cn:=om
  rw[hcn2]at hK;rw[hcn];refine free_spec (n:=cn) hk hw0 hw1 om ((h.pick (ae7:=aj bk k)).pick (ae7:=aa bd (ah bk d ec wv wk fs))) (λhf s w h=>?_) (λhf so w h=>?_)
  .rw[A hf]at hK
   exact iy hf (hK w h.sub)
  rw[Q om]at hK;refine fG U ?_;intro k20 hk20;have kbad:((d.call.a=2/\64<(k.bits.length:O)+d.call.c)\/(d.call.a=3/\64<(k.t.bF.length:O)+d.call.c))->∀w,Ow B w0 w (aa bd (ah bk d ec wv wk fs)::aj bk k::R)->k20 V w:=λhb w h=>by rw[A hb]at hK;apply hk20;exact aU U (hK w h)
  have kgood:¬((d.call.a=2/\64<(k.bits.length:O)+d.call.c)\/(d.call.a=3/\64<(k.t.bF.length:O)+d.call.c))->∀w,Ow B w0 w (af aI so (cE d.call.ar cn)::aa l [.y (left.base:O),.z (left.bits:O),.y (left.used:O)]::af wE s ats::
   aa cb d.call.cl::aa bd (ah bk d ec wv wk fs)::aj bk k::R)->k20 Z w:=λhb w h=>by
   rw[Q hb]at hK;have hst:=hst h0 (by rw[hcn2];exact hf) hb;apply hk20;refine aW U ?_;obtain⟨x,h⟩:=(h.pick (ae7:=aj bk k)).xP;refine h.dr λw h=>?_;refine⟨_,U,_,h.aF U,_,U,x.su,h.aE U,_,U,_,bc (h.aE U),h.oP U (h.bX (s:=x.su) (i:=d.c.obj) (j:=d.c.obj.toNat) om hu1 λa ha _ _=>⟨?_,trivial⟩)⟩
   refine h.rW (s:=x.su) (xs:=k.u) (i:=d.c.obj) (j:=d.c.obj.toNat) left om om ha λw h=>?_;have h:Ow B w0 w (aj bk { k with u:=k.u.set d.c.obj.toNat left}::af aI so (cE d.call.ar cn)::af wE s ats::
    aa cb d.call.cl::aa bd (ah bk d ec wv wk fs)::R):=Ow.cg x h.sub
   intro l35 hl35;have loop:∀(r j M:X)(kj:ag)(w:Y),j+r=cn->uV d.core d.call.a d.call.b d.call.ar d.s (ats.drop j) j M kj->ag.makes d.core d.call.a d.call.b d.call.ar d.s (ats.drop j) j kj=ag.makes d.core d.call.a d.call.b d.call.ar d.s ats 0 { k with u:=k.u.set d.c.obj.toNat left}->
     Ow B w0 w (aj bk kj::af aI so (cE d.call.ar cn)::af wE s ats::
    aa cb d.call.cl::aa bd (ah bk d ec wv wk fs)::R)->l35 (j:O) w:=by
    intro r;induction r with
    |zero=>
     intro j M kj w hj hm he h;have hlen:=h.aL so;unfold cE at hlen;simp only[O3,List.length_range]at hlen;apply hl35;refine aw om ?_;rw[P2 om]at he;have he:kj=_:=he;refine hK w ?_;rw[<-he];exact h.sub
    |succ r ih=>
     intro j M kj w hj hm he h;have hlen:=h.aL so;have hlt:(cE d.call.ar cn).length=cn:=by unfold cE;simp
     have hx:(cE d.call.ar cn)[j]?=S (0,d.call.ar+(j:O)):=by unfold cE;rw[OX,List.getElem?_range om];rfl
     have ha:ats[j]?=S ats[j]:=gE om;rw[Pt (show j<ats.length from by omega)]at hm he;generalize ats[j]=at_ at ha hm he;apply hl35;refine az om ?_;refine h.bX (s:=so) U hx λa1 ha1 _ hc1=>kL hc1 ?_;refine h.a λg w2 h=>?_;refine h.ay U U λw h=>?_;refine h.dr λw h=>?_;refine h.bX (s:=s) U ha λa2 ha2 h02 _=>⟨_,h02 _ U,?_⟩
     refine h.aN U ⟨_,h.aE U,?_,trivial⟩;refine E0 (at_:=at_) hm.ok (by have:=hm.le;omega) hm.room.1 ((h.pick (ae7:=aj bk kj)).pick (ae7:=aa bd (ah bk d ec wv wk fs))) λw h=>?_;refine⟨h.aE U,h.hd U ⟨?_,trivial⟩⟩;obtain⟨g1,g2,g3,g4⟩:=hm.room;obtain⟨q1,q2,q3,q4,q5,q6,q7,q8,q9⟩:=hm.ok.made (by have:=hm.le;omega) hm.kind g1 g2;refine oy (k:=(kj.made d.core d.call.a d.call.b at_).2) (s:=(0,d.call.ar+(j:O))) (c:=⟨d.call.a,(kj.made d.core d.call.a d.call.b at_).1,7,0,0,0⟩) lk (by rw[q4];have:=hm.ok.fh;omega) h λw h=>?_;have h:Ow B w0 w (aa bd (ah bk d ec wv wk fs)::aj bk (kj.mv d.core d.call.a d.call.b d.call.ar d.s j at_)::_):=h;rw[wI j om];exact ih (j+1) (M+1) (kj.mv d.core d.call.a d.call.b d.call.ar d.s j at_) w om hm.step he h.sub
   exact loop cn 0 ae6 _ w om hst U h
  obtain⟨x,h⟩:=(h.pick (ae7:=aj bk k)).xP;have hbl:=hk.sr.fh;have htl:=hk.inv.ok.fh;refine h.dr λw h=>?_;refine h.l2 U ?_;refine dK (λe2=>?_) (λe2=>?_)
  .refine ⟨_,U,_,h.aF U,_,U,_,h.aE U,h.l2 U ?_⟩
   rw[wr om om];refine bg (λe3=>?_) (λe3=>?_)
   .exact kbad (.inl ⟨e2,om⟩) w ((show Ow B w0 w (aj bk k::aa bd (ah bk d ec wv wk fs)::R) from Ow.cg x h.sub).sub)
   .refine h.l2 U ?_
    refine jf om ?_;exact kgood om w ((show Ow B w0 w (aj bk k::af aI so (cE d.call.ar cn)::aa l [.y (left.base:O),.z (left.bits:O),.y (left.used:O)]::af wE s ats::
     aa cb d.call.cl::aa bd (ah bk d ec wv wk fs)::R)from Ow.cg x h.sub).sub)
  .refine h.l2 U ?_
   refine dK (λe3=>?_) (λe3=>?_)
   .refine ⟨_,U,_,h.aF U,_,U,_,h.aE U,h.l2 U ?_⟩
    rw[wr om om];by_cases e4:64<(k.t.bF.length:O)+d.call.c
    .rw[qm (show (k.t.bF.length:O)+d.call.c>64 from e4)]
     exact kbad (.inr ⟨e3,om⟩) w ((show Ow B w0 w (aj bk k::aa bd (ah bk d ec wv wk fs)::R) from Ow.cg x h.sub).sub)
    .rw[qk (show ¬(k.t.bF.length:O)+d.call.c>64 from e4)]
     exact kgood om w ((show Ow B w0 w (aj bk k::af aI so (cE d.call.ar cn)::aa l [.y (left.base:O),.z (left.bits:O),.y (left.used:O)]::af wE s ats::
      aa cb d.call.cl::aa bd (ah bk d ec wv wk fs)::R)from Ow.cg x h.sub).sub)
   .exact kgood om w ((show Ow B w0 w (aj bk k::af aI so (cE d.call.ar cn)::aa l [.y (left.base:O),.z (left.bits:O),.y (left.used:O)]::af wE s ats::
     aa cb d.call.cl::aa bd (ah bk d ec wv wk fs)::R)from Ow.cg x h.sub).sub)
 obtain⟨x,h⟩:=(h.pick (ae7:=aj bk k)).xP;refine h.dr λw h=>?_;refine⟨_,U,_,h.aF U,_,U,x.su,h.aE U,_,U,_,bc (h.aE U),h.bX (s:=x.su) (i:=d.c.obj) (j:=d.c.obj.toNat) om hu1 λa ha _ hcu=>?_⟩;refine⟨_,hcu 0 _ U,_,hcu 1 _ U,_,hcu 2 _ U,⟨_,h.aE U,_,h.aE U,_,h.aE U,?_,?_,trivial⟩⟩
 .refine uW hu2 h λs w h=>?_
  refine⟨h.al λw' h=>⟨?_,trivial⟩,trivial⟩
  generalize w.heap.size=l at h|-;refine h.ay U U λw h=>?_;exact fin l s w ((show Ow B w0 w (aj bk k::aa l [.y ((bA (k.jy d.c.obj) d.call.a d.call.b d.call.c).2.1.base:O),.z ((bA (k.jy d.c.obj) d.call.a d.call.b d.call.c).2.1.bits:O),.y ((bA (k.jy d.c.obj) d.call.a d.call.b d.call.c).2.1.used:O)]::af wE s (bA (k.jy d.c.obj) d.call.a d.call.b d.call.c).1::
   aa cb d.call.cl::aa bd (ah bk d ec wv wk fs)::R)from Ow.cg x h.sub).sub)
 .refine h.al λw' h=>⟨?_,trivial⟩
  generalize w.heap.size=l at h|-;refine uW hu2 h λs w h=>?_;refine⟨h.ay U U λw h=>?_,trivial⟩;exact fin l s w ((show Ow B w0 w (aj bk k::aa l [.y ((bA (k.jy d.c.obj) d.call.a d.call.b d.call.c).2.1.base:O),.z ((bA (k.jy d.c.obj) d.call.a d.call.b d.call.c).2.1.bits:O),.y ((bA (k.jy d.c.obj) d.call.a d.call.b d.call.c).2.1.used:O)]::af wE s (bA (k.jy d.c.obj) d.call.a d.call.b d.call.c).1::
   aa cb d.call.cl::aa bd (ah bk d ec wv wk fs)::R)from Ow.cg x h.sub).sub)
theorem BQ(a:O):cE a 1= [(0,a)]:=by simp[cE]
theorem mr(b:O):0<=qq.wrap b/\qq.wrap b<18446744073709551616:=by
 have e1:(2:O)^64=18446744073709551616:=qb
 have h:qq.wrap b=b%18446744073709551616:=by simp only[IntKind.wrap,IntKind.bits,IntKind.signed,e1,P5,Bool.false_eq_true,qx]
 rw[h];exact⟨Int.emod_nonneg _ qb,Int.emod_lt_of_pos _ qb⟩
theorem sQ{c:cO}{r g:O}(hc:Sl.fI c)(hg:0<=g/\g<18446744073709551616):Sl.fI (ag.gg c r g).1:=by
 have hz:Sl.fI Sl.aq:=⟨qb,qb,qb,qb⟩
 unfold ag.gg;split
 .exact hz
 split
 .exact hz
 split
 .exact hz
 .refine ⟨?_,?_,hc.g0,hc.g1⟩
  .dsimp only
   split
   .exact hg.1
   .exact hc.b0
  .dsimp only
   split
   .exact hg.2
   .exact hc.b1
theorem E3{K:O->Pw}(hk:bj ae6 k)(hc:Sl.fI d.c)(hw0: -9223372036854775808<=d.call.ar)(hw1:d.call.ar<9223372036854775808)(h:Ow B w0 w (aa bd (ah bk d ec wv wk fs)::aj bk k::R))
  (hK:∀w',Ow B w0 w' (aa bd (ah bk d ec wv wk fs)::aj bk (k.mK d).2::R)->K (k.mK d).1 w'):V3 bd.o K w:=by
 apply abf;unfold ag.mK at hK;have hr:=sQ (r:=d.call.a) hc (mr d.call.b);have hfew:=hk.fh;refine⟨_,U,h.l2 U (dK (λe=>?_) (λe=>?_))⟩
 .rw[A e]at hK;exact hK w h
 rw[Q e]at hK;refine free_spec (n:=1) hk hw0 hw1 om h (λhf s w h=>?_) (λhf so w h=>?_)
 .rw[A hf]at hK
  exact iy hf (hK w h)
 rw[Q om]at hK;rw[BQ]at h;refine fG U ?_;intro k7 hk7;have fin:∀(s:X)(w:Y),Ow B w0 w (aa s (ag.gg d.c d.call.a (qq.wrap d.call.b)).1.cells::af aI so [(0,d.call.ar)]::aa bd (ah bk d ec wv wk fs)::aj bk k::R)->k7 (ag.gg d.c d.call.a (qq.wrap d.call.b)).2 s.p w:=λs w h=>by
  apply hk7;by_cases he:(ag.gg d.c d.call.a (qq.wrap d.call.b)).2≠0
  .rw[A he]at hK
   exact iy he (hK w h.sub)
  rw[Q he]at hK;refine fG om ?_;refine h.dr λw h=>?_;refine h.bX (s:=so) (i:=0) (j:=0) (x:=(0,d.call.ar)) U U λa ha _ hc1=>kL hc1 ?_;refine h.dI U ⟨?_,trivial⟩;refine oy (s:=(0,d.call.ar)) (c:=(ag.gg d.c d.call.a (qq.wrap d.call.b)).1) hr om ((h.pick (ae7:=aj bk k)).pick (ae7:=aa bd (ah bk d ec wv wk fs))) λw h=>?_;exact hK w h.sub
 refine h.dr λw h=>?_;refine⟨_,U,eJ (h.dI U ⟨_,U,_,bc (h.aE U),_,U,_,bc (h.aE U),?_,?_,trivial⟩)⟩
 .refine yd hc h λw x hx h=>?_
  subst hx;refine⟨h.al λw' h=>⟨?_,trivial⟩,trivial⟩
  generalize w.heap.size=s at h|-;refine h.ay U U λw h=>?_;exact fin s w h
 .refine h.al λw' h=>⟨?_,trivial⟩
  generalize w.heap.size=s at h|-;refine yd hc h λw x hx h=>?_;subst hx;refine⟨h.ay U U λw h=>?_,trivial⟩;exact fin s w h
theorem E5{K:O->Pw}(hk:bj ae6 k)(hw0: -9223372036854775808<=d.call.ar)(hw1:d.call.ar<9223372036854775808)(h:Ow B w0 w (aa bd (ah bk d ec wv wk fs)::aj bk k::R))
  (hK:∀w',Ow B w0 w' (aa bd (ah bk d ec wv wk fs)::aj bk (k.move d).2::R)->K (k.move d).1 w'):V4 bd.o K w:=by
 apply abg;unfold ag.move at hK;refine free_spec (n:=1) hk hw0 hw1 om h (λhf s w h=>?_) (λhf so w h=>?_)
 .rw[A hf]at hK
  exact iy hf (hK w h)
 rw[Q om]at hK;rw[BQ]at h;refine fG U ?_;obtain⟨x,h⟩:=(h.pick (ae7:=aj bk k)).xP;refine h.dr λw h=>?_;refine⟨_,U,_,h.aF U,_,U,_,h.aF U,_,U,eJ (h.aN U (h.bX (s:=so) (i:=0) (j:=0) (x:=(0,d.call.ar)) U U λa ha _ hc1=>kL hc1 ⟨?_,trivial⟩))⟩;refine Sl.mQ (f:=d.s) (t:=(0,d.call.ar)) (h.pick (ae7:=Sl.aC x.n k.bits k.H)) λw h=>?_;refine h.dr λw h=>?_;refine⟨_,U,_,h.aF U,_,U,_,h.aE U,_,U,eJ (h.aN U (h.bX (s:=so) (i:=0) (j:=0) (x:=(0,d.call.ar)) U U λa ha _ hc1=>kL hc1 ⟨?_,trivial⟩))⟩;refine Tr.wq (f:=d.s) (t:=(0,d.call.ar)) (h.pick (ae7:=Tr.bZ x.tr k.T)) λw h=>?_;exact hK w ((show Ow B w0 w (aj bk { k with H:=(Sl.dW k.bits k.H d.s (0,d.call.ar)).2,T:=(Tr.dW k.T d.s (0,d.call.ar)).2}::aa bd (ah bk d ec wv wk fs)::R) from Ow.cg x h.sub).sub)
def jX{α:Type}(f:α->α)(j:X)(l:J α):J α:=(l.take j).map f++l.drop j
theorem vu{α:Type}(f:α->α)(l:J α):jX f 0 l=l:=by simp[jX]
theorem xX{α:Type}(f:α->α){j:X}{l:J α}(h:l.length<=j):jX f j l=l.map f:=by unfold jX;rw[Ou h,P2 h,OD]
theorem xY{α:Type}{f:α->α}{j:X}{l:J α}{x:α}(h:l[j]?=S x):(jX f j l)[j]?=S x/\(jX f j l).set j (f x)=jX f (j+1) l:=by
 have hj:=(Om.1 h).1;have hl:((l.take j).map f).length=j:=by simp;omega
 have hd:l.drop j=x::l.drop (j+1):=by rw[Pt hj];congr 1;exact(Om.1 h).2
 unfold jX;refine⟨?_,?_⟩
 .rw[OA om,hl,P0,hd];rfl
 .rw[Qg _ _ om,hl,P0,hd,OG,h,OS]
  simp
theorem xZ{α:Type}(f:α->α)(j:X)(l:J α):(jX f j l).length=l.length:=by unfold jX;simp;omega
theorem pz{id:O}{K:Pw}(h:Ow B w0 w (aj bk k::R))(hN:k.ends.length<=200000/\k.notes.length<=200000)(hK:∀w',Ow B w0 w' (aj bk (k.dL id)::R)->K w'):TP bk.o id K w:=by
 apply acR;obtain⟨x,h⟩:=h.xP;have hle:=h.aL x.se;have hln:=h.aL x.sn;have hpe:=(h.pick (ae7:=au cV x.pe k.ends)).cQ;have hpn:=(h.pick (ae7:=au cj x.pn k.notes)).cQ;refine⟨_,U,x.se,h.aE U,?_⟩;intro l5 hl5;have loop:∀(m j:X)(w:Y),j+m=k.ends.length->Ow B w0 w (aj bk { k with ends:=jX (·.cancel id) j k.ends}::R)->l5 (j:O) w->G:=λ_ _ _ _ _ _=>trivial;clear loop;have loop:∀(m j:X)(w:Y),j+m=k.ends.length->Ow B w0 w (aa bk (bN x k.aZ k.cM k.bits.length k.t.bF.length)::Sl.aC x.n k.bits k.H::Tr.bZ x.tr k.T::Th.bG x.t k.t::bR x.ln k.ln::af eM x.su k.u::af cd x.se x.pe::au cV x.pe (jX (·.cancel id) j k.ends)::af cd x.sn x.pn::au cj x.pn k.notes::af cd x.ss x.ps::au Tb.bK x.ps k.ae::R)->l5 (j:O) w:=by
  intro m;induction m with
  |zero=>
   intro j w hj h;apply hl5;refine aw om ?_;rw[xX _ om]at h;refine⟨_,U,x.sn,h.aE U,?_⟩;intro l14 hl14;have loop2:∀(m j:X)(w:Y),j+m=k.notes.length->Ow B w0 w (aa bk (bN x k.aZ k.cM k.bits.length k.t.bF.length)::Sl.aC x.n k.bits k.H::Tr.bZ x.tr k.T::Th.bG x.t k.t::bR x.ln k.ln::af eM x.su k.u::af cd x.se x.pe::au cV x.pe (k.ends.map (·.cancel id))::af cd x.sn x.pn::au cj x.pn (jX (·.cancel id) j k.notes)::af cd x.ss x.ps::au Tb.bK x.ps k.ae::R)->l14 (j:O) w:=by
    intro m;induction m with
    |zero=>
     intro j w hj h;apply hl14;refine aw om ?_;rw[xX _ om]at h;exact hK w (Ow.cg x h:Ow B w0 w (aj bk (k.dL id)::R))
    |succ m ih=>
     intro j w hj h;have hx:k.notes[j]?=S k.notes[j]:=gE om;have hp:x.pn[j]?=S x.pn[j]:=gE om;obtain⟨g1,g2⟩:=xY (f:=(·.cancel id)) hx;apply hl14;refine az om ?_;refine eF (s:=x.sn) h U hp λa ha hc=>⟨_,hc,?_⟩
     have h:=(h.pick (ae7:=au cj x.pn (jX (·.cancel id) j k.notes))).pt hp g1;refine pK h λr w h=>?_;have h:=h.zm (by rw[xZ];omega) hp;rw[g2]at h;rw[wI j om];exact ih (j+1) w om h.sub
   refine loop2 k.notes.length 0 w om ?_;rw[vu];exact h
  |succ m ih=>
   intro j w hj h;have hx:k.ends[j]?=S k.ends[j]:=gE om;have hp:x.pe[j]?=S x.pe[j]:=gE om;obtain⟨g1,g2⟩:=xY (f:=(·.cancel id)) hx;apply hl5;refine az om ?_;refine eF (s:=x.se) h U hp λa ha hc=>⟨_,hc,?_⟩
   have h:=(h.pick (ae7:=au cV x.pe (jX (·.cancel id) j k.ends))).pt hp g1;refine nv h λr w h=>?_;have h:=h.zm (by rw[xZ];omega) hp;rw[g2]at h;rw[wI j om];exact ih (j+1) w om h.sub
 refine loop k.ends.length 0 w om ?_;rw[vu];exact h
theorem lU{sp:O}{l:O × Tb.Pg}{ae2:J dP}{K:Pw}(hF:ae2.length<=1000000000)(h:Ow B w0 w (aa bd (ah bk d ec wv wk fs)::af aA fs ae2::R))
  (hK:∀fs' w',Ow B w0 w' (aa bd (ah bk d ec wv wk fs')::af aA fs' (ae2++ [⟨sp,l.1,l.2.1,l.2.2⟩])::R)->K w'):TU bd.o sp l.1 l.2.1 l.2.2 K w:=by
 apply acV;refine h.a λc w1 h=>?_;refine h.dr λw h=>?_;refine⟨_,U,fs,bc (h.aE U),h.l1 U (eJ (h.aN U ⟨h.al λw2 h=>⟨?_,trivial⟩,trivial⟩))⟩
 generalize w.heap.size=g at h|-;refine u6 (s:=fs) (y:=⟨sp,l.1,l.2.1,l.2.2⟩) h om λfs' w hs' h=>⟨_,U,?_,trivial⟩
 refine iv ?_;refine h.gh U U λw h=>?_
 (try dsimp only[bN,ah,putAt,Pj,OI,OJ]at h)
 exact hK fs' w h.sub
theorem Ow.ow(h:Ow B w0 w (aj b k::R)):∃(ss:Sl)(ps:J X)(aeY:aH),Ow B w0 w (af cd ss ps::au Tb.bK ps k.ae::aeY::R)/\w.cell? (b.p.add 7)=S ss.v/\ps.length=k.ae.length/\
  ∀R' w' sp,Ow B w0 w' (af cd ss ps::au Tb.bK ps sp::aeY::R')->Ow B w0 w' (aj b { k with ae:=sp}::R'):=by
 obtain⟨x,h⟩:=h.xP;refine⟨x.ss,x.ps,bo [aa b (bN x k.aZ k.cM k.bits.length k.t.bF.length),Sl.aC x.n k.bits k.H,Tr.bZ x.tr k.T,Th.bG x.t k.t,bR x.ln k.ln,af eM x.su k.u,af cd x.se x.pe,au cV x.pe k.ends,af cd x.sn x.pn,au cj x.pn k.notes],?_,h.aE U,(h.pick (ae7:=au Tb.bK x.ps k.ae)).cQ,λR' w' sp h=>?_⟩
 .exact Ow.cw (Ow.lK (Ow.cw (Ow.br (show Ow B w0 w (aa b (bN x k.aZ k.cM k.bits.length k.t.bF.length)::Sl.aC x.n k.bits k.H::Tr.bZ x.tr k.T::Th.bG x.t k.t::bR x.ln k.ln::af eM x.su k.u::af cd x.se x.pe::au cV x.pe k.ends::af cd x.sn x.pn::au cj x.pn k.notes::af cd x.ss x.ps::au Tb.bK x.ps k.ae::R)from h.sub))))
 .have h:Ow B w0 w' (aa b (bN x k.aZ k.cM k.bits.length k.t.bF.length)::Sl.aC x.n k.bits k.H::Tr.bZ x.tr k.T::Th.bG x.t k.t::bR x.ln k.ln::af eM x.su k.u::af cd x.se x.pe::au cV x.pe k.ends::af cd x.sn x.pn::au cj x.pn k.notes::af cd x.ss x.ps::au Tb.bK x.ps sp::R'):=(h.lK).star
  exact Ow.cg x h.sub
theorem Ow.J8(h:Ow B w0 w (aj b k::R)):∃(ss:Sl)(ps:J X)(aeY:aH),Ow B w0 w (af cd ss ps::au cV ps k.ends::aeY::R)/\w.cell? (b.p.add 5)=S ss.v/\ps.length=k.ends.length/\
  ∀R' w' sp,Ow B w0 w' (af cd ss ps::au cV ps sp::aeY::R')->Ow B w0 w' (aj b { k with ends:=sp}::R'):=by
 obtain⟨x,h⟩:=h.xP;refine⟨x.se,x.pe,bo [aa b (bN x k.aZ k.cM k.bits.length k.t.bF.length),Sl.aC x.n k.bits k.H,Tr.bZ x.tr k.T,Th.bG x.t k.t,bR x.ln k.ln,af eM x.su k.u,af cd x.sn x.pn,au cj x.pn k.notes,af cd x.ss x.ps,au Tb.bK x.ps k.ae],?_,h.aE U,(h.pick (ae7:=au cV x.pe k.ends)).cQ,λR' w' sp h=>?_⟩
 .exact Ow.cw (Ow.lK (Ow.cw (Ow.br (show Ow B w0 w (aa b (bN x k.aZ k.cM k.bits.length k.t.bF.length)::Sl.aC x.n k.bits k.H::Tr.bZ x.tr k.T::Th.bG x.t k.t::bR x.ln k.ln::af eM x.su k.u::af cd x.sn x.pn::au cj x.pn k.notes::af cd x.ss x.ps::au Tb.bK x.ps k.ae::af cd x.se x.pe::au cV x.pe k.ends::R)from h.sub))))
 .have h:Ow B w0 w' (aa b (bN x k.aZ k.cM k.bits.length k.t.bF.length)::Sl.aC x.n k.bits k.H::Tr.bZ x.tr k.T::Th.bG x.t k.t::bR x.ln k.ln::af eM x.su k.u::af cd x.sn x.pn::au cj x.pn k.notes::af cd x.ss x.ps::au Tb.bK x.ps k.ae::af cd x.se x.pe::au cV x.pe sp::R'):=(h.lK).star
  exact Ow.cg x h.sub
theorem Ow.G1(h:Ow B w0 w (aj b k::R)):∃(ss:Sl)(ps:J X)(aeY:aH),Ow B w0 w (af cd ss ps::au cj ps k.notes::aeY::R)/\w.cell? (b.p.add 6)=S ss.v/\ps.length=k.notes.length/\
  ∀R' w' sp,Ow B w0 w' (af cd ss ps::au cj ps sp::aeY::R')->Ow B w0 w' (aj b { k with notes:=sp}::R'):=by
 obtain⟨x,h⟩:=h.xP;refine⟨x.sn,x.pn,bo [aa b (bN x k.aZ k.cM k.bits.length k.t.bF.length),Sl.aC x.n k.bits k.H,Tr.bZ x.tr k.T,Th.bG x.t k.t,bR x.ln k.ln,af eM x.su k.u,af cd x.se x.pe,au cV x.pe k.ends,af cd x.ss x.ps,au Tb.bK x.ps k.ae],?_,h.aE U,(h.pick (ae7:=au cj x.pn k.notes)).cQ,λR' w' sp h=>?_⟩
 .exact Ow.cw (Ow.lK (Ow.cw (Ow.br (show Ow B w0 w (aa b (bN x k.aZ k.cM k.bits.length k.t.bF.length)::Sl.aC x.n k.bits k.H::Tr.bZ x.tr k.T::Th.bG x.t k.t::bR x.ln k.ln::af eM x.su k.u::af cd x.se x.pe::au cV x.pe k.ends::af cd x.ss x.ps::au Tb.bK x.ps k.ae::af cd x.sn x.pn::au cj x.pn k.notes::R)from h.sub))))
 .have h:Ow B w0 w' (aa b (bN x k.aZ k.cM k.bits.length k.t.bF.length)::Sl.aC x.n k.bits k.H::Tr.bZ x.tr k.T::Th.bG x.t k.t::bR x.ln k.ln::af eM x.su k.u::af cd x.se x.pe::au cV x.pe k.ends::af cd x.ss x.ps::au Tb.bK x.ps k.ae::af cd x.sn x.pn::au cj x.pn sp::R'):=(h.lK).star
  exact Ow.cg x h.sub
theorem Ow.sH(h:Ow B w0 w (aj b k::R)):∃(bt:X)(aeY:aH),Ow B w0 w (Th.bG bt k.t::aeY::R)/\w.cell? (b.p.add 2)=S (.q bt)/\
  ∀R' w' t,t.bF.length=k.t.bF.length->Ow B w0 w' (Th.bG bt t::aeY::R')->Ow B w0 w' (aj b (k.bQ t)::R'):=by
 obtain⟨x,h⟩:=h.xP;refine⟨x.t,bo [aa b (bN x k.aZ k.cM k.bits.length k.t.bF.length),Sl.aC x.n k.bits k.H,Tr.bZ x.tr k.T,bR x.ln k.ln,af eM x.su k.u,af cd x.se x.pe,au cV x.pe k.ends,af cd x.sn x.pn,au cj x.pn k.notes,af cd x.ss x.ps,au Tb.bK x.ps k.ae],?_,h.aE U,λR' w' t ht h=>?_⟩
 .exact Ow.cw (Ow.br (show Ow B w0 w (aa b (bN x k.aZ k.cM k.bits.length k.t.bF.length)::Sl.aC x.n k.bits k.H::Tr.bZ x.tr k.T::bR x.ln k.ln::af eM x.su k.u::af cd x.se x.pe::au cV x.pe k.ends::af cd x.sn x.pn::au cj x.pn k.notes::af cd x.ss x.ps::au Tb.bK x.ps k.ae::Th.bG x.t k.t::R)from h.sub))
 .have h:Ow B w0 w' (aa b (bN x k.aZ k.cM k.bits.length k.t.bF.length)::Sl.aC x.n k.bits k.H::Tr.bZ x.tr k.T::bR x.ln k.ln::af eM x.su k.u::af cd x.se x.pe::au cV x.pe k.ends::af cd x.sn x.pn::au cj x.pn k.notes::af cd x.ss x.ps::au Tb.bK x.ps k.ae::Th.bG x.t t::R'):=(h.cw).star
  rw[<-ht]at h;exact(Ow.cg x h.sub:Ow B w0 w' (aj b (k.bQ t)::R'))
theorem Ow.CB(h:Ow B w0 w (aj b k::R)):∃(bt:X)(aeY:aH),Ow B w0 w (bR bt k.ln::aeY::R)/\w.cell? (b.p.add 3)=S (.q bt)/\
  ∀R' w' t,Ow B w0 w' (bR bt t::aeY::R')->Ow B w0 w' (aj b { k with ln:=t}::R'):=by
 obtain⟨x,h⟩:=h.xP;refine⟨x.ln,bo [aa b (bN x k.aZ k.cM k.bits.length k.t.bF.length),Sl.aC x.n k.bits k.H,Tr.bZ x.tr k.T,Th.bG x.t k.t,af eM x.su k.u,af cd x.se x.pe,au cV x.pe k.ends,af cd x.sn x.pn,au cj x.pn k.notes,af cd x.ss x.ps,au Tb.bK x.ps k.ae],?_,h.aE U,λR' w' t h=>?_⟩
 .exact Ow.cw (Ow.br (show Ow B w0 w (aa b (bN x k.aZ k.cM k.bits.length k.t.bF.length)::Sl.aC x.n k.bits k.H::Tr.bZ x.tr k.T::Th.bG x.t k.t::af eM x.su k.u::af cd x.se x.pe::au cV x.pe k.ends::af cd x.sn x.pn::au cj x.pn k.notes::af cd x.ss x.ps::au Tb.bK x.ps k.ae::bR x.ln k.ln::R)from h.sub))
 .have h:Ow B w0 w' (aa b (bN x k.aZ k.cM k.bits.length k.t.bF.length)::Sl.aC x.n k.bits k.H::Tr.bZ x.tr k.T::Th.bG x.t k.t::af eM x.su k.u::af cd x.se x.pe::au cV x.pe k.ends::af cd x.sn x.pn::au cj x.pn k.notes::af cd x.ss x.ps::au Tb.bK x.ps k.ae::bR x.ln t::R'):=(h.cw).star
  exact(Ow.cg x h.sub:Ow B w0 w' (aj b { k with ln:=t}::R'))
def jh(P:Tb.fH)(l:Tb.fH):Tb.fH:=P.filter λy=>l.all λx=>x.1 !=y.1
theorem Az(P:Tb.fH):jh P []=P:=by unfold jh;simp
theorem xG(P l:Tb.fH)(x:O × Tb.Pg):jh P (l++ [x])=Tb.mJ (jh P l) x.1:=by unfold jh Tb.mJ;rw[Qq];congr 1;funext y;rw[List.all_append];simp only[List.all_cons,List.all_nil,Bool.and_true];rw[Bool.and_comm];congr 1;rw[Qm];simp only[qN,ne_eq];exact⟨λh e=>h e.symm,λh e=>h e.symm⟩
theorem Ay{P:Tb.fH}(hP:Tb.lg P)(f:O × Tb.Pg->W):jh P (P.filter f)=P.filter λx=> !f x:=by
 unfold jh;apply List.filter_congr;intro y hy;rw[Qm];simp only[QW,OE,qN,ne_eq,Q1,and_imp];constructor
 .intro h
  cases e:f y with
  |false=>rfl
  |true=>exact qi U (h y hy e)
 .intro h x hx hfx e
  have:=hP.inj hx hy e;rw[this,h]at hfx;cases hfx
theorem xF{P:Tb.fH}(hP:Tb.lg P)(f:O × Tb.Pg->W){q:X}{x:O × Tb.Pg}(hx:(P.filter f)[q]?=S x):Tb.look (jh P ((P.filter f).take q)) x.1=S x.2:=by
 have hS:Tb.lg (jh P ((P.filter f).take q)):=hP.filter _;refine hS.look ?_;unfold jh;rw[OE];have hm:x∈P.filter f:=OV hx;refine⟨(OE.1 hm).1,?_⟩;rw[QW];intro y hy;obtain⟨i,hi⟩:=O5.1 hy;rw[OM]at hi;split at hi
 .rename_i hlt
  have hF:Tb.lg (P.filter f):=hP.filter f;have h1:=(Om.1 hx)
  have h2:=(Om.1 hi)
  have:=(List.pairwise_iff_getElem.1 hF) i q h2.1 h1.1 hlt;rw[h1.2,h2.2]at this;simp only[qN,ne_eq];omega
 .cases hi
theorem mm(f:O)(m:Tb.dv):∀(l:J Tb.dv)(i:X),ag.bh f i (l++ [m])=((ag.bh f i l).1++ag.aQ (i+l.length) (m.pg.filter λx=>x.2.1==f),(ag.bh f i l).2++ [{ m with pg:=m.pg.filter λx=> !(x.2.1==f)}])
 | [],i=>by simp[ag.bh]
 |a::l,i=>by simp only[P9,ag.bh,OB];rw[mm f m l (i+1)];simp only[O1,P9];rw[show i+1+l.length=i+(l.length+1)from by omega]
theorem fQ(f:O):∀(l:J Tb.dv)(i:X),(ag.bh f i l).2.length=l.length
 | [],i=>rfl
 |a::l,i=>by simp[ag.bh,fQ f l (i+1)]
theorem pX(n:O)(m:Tb.dv):∀(l:J Tb.dv)(i:X),ag.cF n i (l++ [m])=((ag.cF n i l).1++(ag.dB n (i+l.length) 64 0 m).1,(ag.cF n i l).2++ [(ag.dB n (i+l.length) 64 0 m).2])
 | [],i=>by simp[ag.cF]
 |a::l,i=>by simp only[P9,ag.cF,OB];rw[pX n m l (i+1)];simp only[O1,P9];rw[show i+1+l.length=i+(l.length+1)from by omega]
theorem jG(n:O):∀(l:J Tb.dv)(i:X),(ag.cF n i l).2.length=l.length
 | [],i=>rfl
 |a::l,i=>by simp[ag.cF,jG n l (i+1)]
def jC(l:J Tb.dv):X:=(l.map λm=>m.pg.length).sum
theorem oE(a b:J Tb.dv):jC (a++b)=jC a+jC b:=by unfold jC;simp
theorem px{α:Type}(f:α->W):∀l:J α,(l.filter f).length+(l.filter λx=> !f x).length=l.length
 | []=>rfl
 |a::l=>by have:=px f l;cases h:f a<;>simp[h]<;>omega
theorem ml(f:O):∀(l:J Tb.dv)(i:X),(ag.bh f i l).1.length+jC (ag.bh f i l).2=jC l
 | [],i=>rfl
 |a::l,i=>by
  have h1:=ml f l (i+1);have h2:=px (λx:O × Tb.Pg=>x.2.1==f) a.pg;unfold jC at*
  simp only[ag.bh,ag.aQ,Ov,O3,OZ,Rt];omega
theorem IU(m:Tb.dv)(j:O):(m.bp j).1.length+(m.bp j).2.2.pg.length=m.pg.length:=by
 unfold Tb.dv.bp;split
 .simp
 split
 .simp
 .have:=px (λx:O × Tb.Pg=>x.1.toNat / 64==j.toNat) m.pg
  exact this
theorem tq(n:O)(i:X):∀(q j:X)(m:Tb.dv),(ag.dB n i q j m).1.length+(ag.dB n i q j m).2.pg.length=m.pg.length
 |0,j,m=>by simp[ag.dB]
 |q+1,j,m=>by
  unfold ag.dB;split
  .have h1:=tq n i q (j+1) (m.bp (j:O)).2.2
   have h2:=IU m (j:O);simp only[ag.aQ,Ov,O3];omega
  .exact tq n i q (j+1) m
theorem sh(n:O):∀(l:J Tb.dv)(i:X),(ag.cF n i l).1.length+jC (ag.cF n i l).2=jC l
 | [],i=>rfl
 |a::l,i=>by
  have h1:=sh n l (i+1);have h2:=tq n i 64 0 a;unfold jC at*
  simp only[ag.cF,Ov,OZ,Rt];omega
theorem I7(k:ag)(c:cO):(k.last c).1.length+jC (k.last c).2.ae=jC k.ae:=by
 unfold ag.last;split
 .simp[ag.dL]
 split
 .exact ml _ _ _
 split
 .exact sh _ _ _
 .simp
theorem DE(k:ag)(s:Slot):(k.gone s).1.length+jC (k.gone s).2.ae=jC k.ae:=by
 unfold ag.gone;split
 .simp[ag.taken]
 .exact I7 _ _
theorem fx.Bj{m:Tb.dv}(h:Tb.fx m):m.pg.length<=4096:=by have:=Tb.oK m.pg 0 4096 h.kU (λx hx=>⟨(h.tA x hx).1,(h.tA x hx).2.1⟩);omega
theorem vE:∀(l:J Tb.dv),(∀m∈l,Tb.fx m)->jC l<=4096*l.length
 | [],_=>On _
 |a::l,h=>by
  have h1:=vE l λm hm=>h m (Pq _ hm);have h2:=fx.Bj (h a Po);unfold jC at*
  simp only[OZ,Rt,OB];omega
theorem Ow.wL(h:Ow B w0 w (au ae7 ps xs::R)){j:X}{p:X}{x:α}(hp:ps[j]?=S p)(hx:xs[j]?=S x):Ow B w0 w (ae7 p x::bo ((Ot ae7 ps xs).eraseIdx j)::R):=
 Ow.cw (Ow.br ((h.pt hp hx).perm PD.symm))
theorem Ow.cI{j:X}{p:X}{x':α}(hl:ps.length=xs.length)(hp:ps[j]?=S p)(h:Ow B w0 w (ae7 p x'::bo ((Ot ae7 ps xs).eraseIdx j)::R)):Ow B w0 w (au ae7 ps (xs.set j x')::R):=
 Ow.zm hl hp ((h.cw).star.perm PD)
theorem Bi{f:X->J Tb.dv->J dP × J Tb.dv}(hlen:∀l i,(f i l).2.length=l.length){l:J Tb.dv}{i:X}{m:Tb.dv}(hm:l[i]?=S m):
  ((f 0 (l.take i)).2++l.drop i)[i]?=S m/\∀m',((f 0 (l.take i)).2++l.drop i).set i m'=(f 0 (l.take i)).2++ [m']++l.drop (i+1):=by
 have hi:=(Om.1 hm).1;have h1:((f 0 (l.take i)).2).length=i:=by rw[hlen,OO];omega
 have hd:l.drop i=m::l.drop (i+1):=by rw[Pt hi];congr 1;exact(Om.1 hm).2
 refine⟨?_,λm'=>?_⟩
 .rw[OA om,h1,P0,hd];rfl
 .rw[Qg _ _ om,h1,P0,hd];simp
theorem oe(n:O)(i q j:X)(m:Tb.dv):ag.dB n i (q+1) j m=if m.at (j:O)=S n then(ag.aQ i (m.bp (j:O)).1++(ag.dB n i q (j+1) (m.bp (j:O)).2.2).1,(ag.dB n i q (j+1) (m.bp (j:O)).2.2).2)else ag.dB n i q (j+1) m:=rfl
theorem ES{c:cO}{ae2:J dP}{K:Pw}(hN:k.ends.length<=200000/\k.notes.length<=200000/\k.ae.length<=200000)(ht:Th.de k.t)(hs:∀m∈k.ae,Tb.fx m)(hF:ae2.length+jC k.ae<=1000000000)
  (h:Ow B w0 w (aa bd (ah bk d ec wv wk fs)::af aA fs ae2::aj bk k::R))
  (hK:∀fs' w',Ow B w0 w' (aa bd (ah bk d ec wv wk fs')::af aA fs' (ae2++(k.last c).1)::aj bk (k.last c).2::R)->K w'):XC bd.o c.kind c.obj c.ak c.ax c.guard c.bits K w:=by
 apply acY;unfold ag.last at hK;refine h.a λcc w1 h=>?_;refine h.l1 U ?_;refine dK (λe=>?_) (λe=>?_)
 .rw[A e]at hK
  refine h.dr λw h=>?_;refine⟨_,U,_,h.aF U,_,h.aE U,pz (id:=c.obj) (h.pick (ae7:=aj bk k)) ⟨hN.1,hN.2.1⟩ λw h=>?_,trivial⟩;refine h.dr λw h=>?_;obtain⟨bt,aeY,h2,hc2,hback⟩:=h.sH;refine⟨_,U,_,h.aF U,_,U,_,hc2,_,h.aE U,Th.yo ht h2 λw h=>?_,trivial⟩;have hl:(k.t.bM c.obj).2.bF.length=k.t.bF.length:=by
   unfold Th.Mt.bM;split
   .rfl
   split
   .rfl
   .unfold Th.Mt.leave Th.Mt.aM;simp[Th.dh.1]
  have h:=hback _ w _ hl h;dsimp only at hK;rw[OD]at hK;have hK3:∀fs' w',Ow B w0 w' (aa bd (ah bk d ec wv wk fs')::af aA fs' ae2::aj bk ((k.dL c.obj).bQ (k.t.bM c.obj).2)::R)->K w':=hK;exact hK3 fs w h.sub
 rw[Q e]at hK;refine dK (λe6=>?_) (λe6=>?_)
 .rw[A e6]at hK
  obtain⟨ss,ps,aeY,h2,hc2,hpl,hback⟩:=(h.pick (ae7:=aj bk k)).ow;refine⟨_,U,_,h.aF U,_,U,ss,hc2,?_⟩;have h:=h2;clear h2 hc2;intro l27 hl27;have loop:∀(r i:X)(fs:Sl)(w:Y),i+r=k.ae.length->Ow B w0 w (af cd ss ps::au Tb.bK ps ((ag.bh c.obj 0 (k.ae.take i)).2++k.ae.drop i)::aeY::aa cc c.cells::aa bd (ah bk d ec wv wk fs)::af aA fs (ae2++(ag.bh c.obj 0 (k.ae.take i)).1)::R)->l27 (i:O) w:=by
   intro r;induction r with
   |zero=>
    intro i fs w hi h;have hlen:=h.aL ss;apply hl27;refine aw om ?_;rw[Ou om,P2 om,OD]at h;exact hK fs w (Ow.sub (L:=aj bk { k with ae:=(ag.bh c.obj 0 k.ae).2}::aa cc c.cells::aa bd (ah bk d ec wv wk fs)::af aA fs (ae2++(ag.bh c.obj 0 k.ae).1)::R) (hback _ w _ h))
   |succ r ih=>
    intro i fs w hi h;have hlen:=h.aL ss;have hm:k.ae[i]?=S k.ae[i]:=gE om;have hmm:k.ae[i]∈k.ae:=Ph _;have hp:ps[i]?=S ps[i]:=gE om;generalize k.ae[i]=m at hm hmm;generalize ps[i]=p at hp;have hsm:=hs m hmm;obtain⟨g1,g2⟩:=Bi (f:=ag.bh c.obj) (fQ c.obj) hm;have htk:k.ae.take (i+1)=k.ae.take i++ [m]:=by rw[OG,hm];rfl
    have hul:((ag.bh c.obj 0 (k.ae.take i)).2++k.ae.drop i).length=ps.length:=by simp[fQ];omega
    have hpg1:=ml c.obj (k.ae.take (i+1)) 0;have hpg2:jC (k.ae.take (i+1))<=jC k.ae:=by have:=oE (k.ae.take (i+1)) (k.ae.drop (i+1));rw[O8]at this;omega
    have hsn:=mm c.obj m (k.ae.take i) 0;rw[htk]at hpg1 hpg2;rw[hsn]at hpg1;rw[OJ,OO,Pv om]at hsn hpg1;simp only[Ov]at hpg1;apply hl27;refine az om ?_;refine eF (s:=ss) h U hp λa ha hc=>⟨_,hc,h.l2 U ?_⟩
    have h:=(h.pick (ae7:=au Tb.bK ps ((ag.bh c.obj 0 (k.ae.take i)).2++k.ae.drop i))).wL hp g1;refine Tb.zZ h λs w h=>?_;intro l35 hl35;have hfl:∀q:X,(Tb.cy m.pg c.obj)[q]?=((m.pg.filter λx=>x.2.1==c.obj)[q]?).map (·.1):=λq=>by unfold Tb.cy;rw[OX]
    have hfn:(Tb.cy m.pg c.obj).length=(m.pg.filter λx=>x.2.1==c.obj).length:=by unfold Tb.cy;rw[O3]
    have hll:(ag.aQ i (m.pg.filter λx=>x.2.1==c.obj)).length=(m.pg.filter λx=>x.2.1==c.obj).length:=by unfold ag.aQ;rw[O3]
    have inner:∀(r q:X)(fs:Sl)(w:Y),q+r=(m.pg.filter λx=>x.2.1==c.obj).length->Ow B w0 w (af aB s (Tb.cy m.pg c.obj)::Tb.bK p { m with pg:=jh m.pg ((m.pg.filter λx=>x.2.1==c.obj).take q)}::bo ((Ot Tb.bK ps ((ag.bh c.obj 0 (k.ae.take i)).2++k.ae.drop i)).eraseIdx i)::
      af cd ss ps::aeY::aa cc c.cells::aa bd (ah bk d ec wv wk fs)::af aA fs (ae2++(ag.bh c.obj 0 (k.ae.take i)).1++ag.aQ i ((m.pg.filter λx=>x.2.1==c.obj).take q))::R)->l35 (q:O) w:=by
     intro r;induction r with
     |zero=>
      intro q fs w hq h;have hsl:=h.aL s;apply hl35;refine aw om ?_;rw[Ou om,Ay hsm.kU]at h;have h:=(h.drop).cI om hp;rw[g2]at h;rw[wI i om];refine ih (i+1) fs w om ?_;rw[htk,hsn,<-O1];exact h.sub
     |succ r ih2=>
      intro q fs w hq h;have hsl:=h.aL s;have hx:(m.pg.filter λx=>x.2.1==c.obj)[q]?=S (m.pg.filter λx=>x.2.1==c.obj)[q]:=gE om;have hlk:=xF hsm.kU (λx=>x.2.1==c.obj) hx;have htq:(m.pg.filter λx=>x.2.1==c.obj).take (q+1)=(m.pg.filter λx=>x.2.1==c.obj).take q++ [(m.pg.filter λx=>x.2.1==c.obj)[q]]:=by rw[OG,hx];rfl
      have hmem:(m.pg.filter λx=>x.2.1==c.obj)[q]∈m.pg:=(OE.1 (Ph _)).1;have hfx:=hfl q;rw[hx]at hfx;generalize (m.pg.filter λx=>x.2.1==c.obj)[q]=y at hx hlk htq hmem hfx;have hbnd:=hsm.tA y hmem;have hun:(show Tb.dv from { m with pg:=jh m.pg ((m.pg.filter λx=>x.2.1==c.obj).take q)}).bV y.1=(y.2,0,{ m with pg:=jh m.pg ((m.pg.filter λx=>x.2.1==c.obj).take (q+1))}):=by unfold Tb.dv.bV;rw[Q om,hlk,htq,xG]
      have hqlen:(ae2++(ag.bh c.obj 0 (k.ae.take i)).1++ag.aQ i ((m.pg.filter λx=>x.2.1==c.obj).take q)).length<=1000000000:=by unfold ag.aQ at hpg1|-;simp only[Ov,O3,OO]at hpg1|-;omega
      apply hl35;refine az om ?_;refine h.bX (s:=s) U hfx λa ha h0 _=>⟨_,h0 _ U,?_⟩
      refine Tb.pj (h.pick (ae7:=Tb.bK p { m with pg:=jh m.pg ((m.pg.filter λx=>x.2.1==c.obj).take q)})) λw h=>?_;rw[hun]at h|-;refine h.a λg w2 h=>?_;refine h.ay U U λw h=>?_;refine h.aN U ?_;refine lU (sp:=(i:O)) (l:=(y.1,y.2)) hqlen ((h.pick (ae7:=af aA fs (ae2++(ag.bh c.obj 0 (k.ae.take i)).1++ag.aQ i ((m.pg.filter λx=>x.2.1==c.obj).take q)))).pick (ae7:=aa bd (ah bk d ec wv wk fs))) λfs' w h=>?_;rw[show qd.wrap ((q:O)+1)=((q+1:X):O)from by have:=fx.Bj hsm;have:=OR (λx:O × Tb.Pg=>x.2.1==c.obj) m.pg;rw[wr om om];omega];refine ih2 (q+1) fs' w om ?_;have e9:ae2++(ag.bh c.obj 0 (k.ae.take i)).1++ag.aQ i ((m.pg.filter λx=>x.2.1==c.obj).take (q+1))=ae2++(ag.bh c.obj 0 (k.ae.take i)).1++ag.aQ i ((m.pg.filter λx=>x.2.1==c.obj).take q)++ [⟨(i:O),y.1,y.2.1,y.2.2⟩]:=by rw[htq];unfold ag.aQ;rw[OS];simp only[O1];rfl
      rw[e9];exact h.sub
    refine inner _ 0 fs w (OJ _) ?_;have e1:jh m.pg ((m.pg.filter λx=>x.2.1==c.obj).take 0)=m.pg:=by rw[PT,Az]
    have e2:ag.aQ i ((m.pg.filter λx=>x.2.1==c.obj).take 0)= []:=rfl;rw[e1,e2,OD];exact h.sub
  refine loop k.ae.length 0 fs w1 (OJ _) ?_;rw[PT,P6];show Ow B w0 w1 (af cd ss ps::au Tb.bK ps ([]++k.ae)::aeY::aa cc c.cells::aa bd (ah bk d ec wv wk fs)::af aA fs (ae2++ [])::R);rw[PF,OD];exact h.sub
 rw[Q e6]at hK;refine dK (λe7=>?_) (λe7=>?_)
 .rw[A e7]at hK
  obtain⟨ss,ps,aeY,h2,hc2,hpl,hback⟩:=(h.pick (ae7:=aj bk k)).ow;refine⟨_,U,_,h.aF U,_,U,ss,hc2,?_⟩;have h:=h2;clear h2 hc2;intro l53 hl53;have loop:∀(r i:X)(fs:Sl)(w:Y),i+r=k.ae.length->Ow B w0 w (af cd ss ps::au Tb.bK ps ((ag.cF c.obj 0 (k.ae.take i)).2++k.ae.drop i)::aeY::aa cc c.cells::aa bd (ah bk d ec wv wk fs)::af aA fs (ae2++(ag.cF c.obj 0 (k.ae.take i)).1)::R)->l53 (i:O) w:=by
   intro r;induction r with
   |zero=>
    intro i fs w hi h;have hlen:=h.aL ss;apply hl53;refine aw om ?_;rw[Ou om,P2 om,OD]at h;exact hK fs w (Ow.sub (L:=aj bk { k with ae:=(ag.cF c.obj 0 k.ae).2}::aa cc c.cells::aa bd (ah bk d ec wv wk fs)::af aA fs (ae2++(ag.cF c.obj 0 k.ae).1)::R) (hback _ w _ h))
   |succ r ih=>
    intro i fs w hi h;have hlen:=h.aL ss;have hm:k.ae[i]?=S k.ae[i]:=gE om;have hp:ps[i]?=S ps[i]:=gE om;generalize k.ae[i]=m at hm;generalize ps[i]=p at hp;obtain⟨g1,g2⟩:=Bi (f:=ag.cF c.obj) (jG c.obj) hm;have htk:k.ae.take (i+1)=k.ae.take i++ [m]:=by rw[OG,hm];rfl
    have hul:((ag.cF c.obj 0 (k.ae.take i)).2++k.ae.drop i).length=ps.length:=by simp[jG];omega
    have hpg1:=sh c.obj (k.ae.take (i+1)) 0;have hpg2:jC (k.ae.take (i+1))<=jC k.ae:=by have:=oE (k.ae.take (i+1)) (k.ae.drop (i+1));rw[O8]at this;omega
    have hsn:=pX c.obj m (k.ae.take i) 0;rw[htk]at hpg1 hpg2;rw[hsn]at hpg1;rw[OJ,OO,Pv om]at hsn hpg1;simp only[Ov]at hpg1;apply hl53;refine az om ?_;refine eF (s:=ss) h U hp λa ha hc=>⟨_,hc,?_⟩
    have h:=(h.pick (ae7:=au Tb.bK ps ((ag.cF c.obj 0 (k.ae.take i)).2++k.ae.drop i))).wL hp g1;intro l58 hl58;have places:∀(r j:X)(mj:Tb.dv)(ae3:J dP)(fs:Sl)(w:Y),j+r=64->(ae3++(ag.dB c.obj i r j mj).1=(ag.dB c.obj i 64 0 m).1)->((ag.dB c.obj i r j mj).2=(ag.dB c.obj i 64 0 m).2)->
      Ow B w0 w (Tb.bK p mj::bo ((Ot Tb.bK ps ((ag.cF c.obj 0 (k.ae.take i)).2++k.ae.drop i)).eraseIdx i)::
      af cd ss ps::aeY::aa cc c.cells::aa bd (ah bk d ec wv wk fs)::af aA fs (ae2++(ag.cF c.obj 0 (k.ae.take i)).1++ae3)::R)->l58 (j:O) w:=by
     intro r;induction r with
     |zero=>
      intro j mj ae3 fs w hj hG hM h;apply hl58;refine aw om ?_;have hM:mj=_:=hM;have hG:ae3++ []=_:=hG;rw[OD]at hG;rw[hM,hG]at h;have h:=h.cI om hp;rw[g2]at h;rw[wI i om];refine ih (i+1) fs w om ?_;rw[htk,hsn,<-O1];exact h.sub
     |succ r ih2=>
      intro j mj ae3 fs w hj hG hM h;apply hl58;refine az om ?_;refine Tb.F3 h ?_;intro k64 hk64;rw[oe]at hG hM;rw[wI j om]at hk64;have no:mj.at (j:O)≠S c.obj->k64 Z w:=λhn=>by rw[Q hn]at hG hM;apply hk64;refine aW U ?_;exact ih2 (j+1) mj ae3 fs w om hG hM h
      have yes:mj.at (j:O)=S c.obj->k64 V w:=λhy=>by
       rw[A hy]at hG hM;apply hk64;refine aU U ?_;refine Tb.Ei h λs w h=>?_;intro l70 hl70;have hGl:=qw PI hG;simp only[Ov]at hGl;have hlines:(ag.aQ i (mj.bp (j:O)).1).length=(mj.bp (j:O)).1.length:=by unfold ag.aQ;rw[O3]
       have inner:∀(r q:X)(fs:Sl)(w:Y),q+r=(mj.bp (j:O)).1.length->Ow B w0 w (af Tb.aJ s (mj.bp (j:O)).1::Tb.bK p (mj.bp (j:O)).2.2::bo ((Ot Tb.bK ps ((ag.cF c.obj 0 (k.ae.take i)).2++k.ae.drop i)).eraseIdx i)::
         af cd ss ps::aeY::aa cc c.cells::aa bd (ah bk d ec wv wk fs)::af aA fs (ae2++(ag.cF c.obj 0 (k.ae.take i)).1++(ae3++ag.aQ i ((mj.bp (j:O)).1.take q)))::R)->l70 (q:O) w:=by
        intro r;induction r with
        |zero=>
         intro q fs w hq h;have hsl:=h.aL s;apply hl70;refine aw om ?_;rw[Ou (l:=(mj.bp (j:O)).1) om]at h;exact ih2 (j+1) _ (ae3++ag.aQ i (mj.bp (j:O)).1) fs w om (by rw[O1];exact hG) hM h.drop
        |succ r ih3=>
         intro q fs w hq h;have hsl:=h.aL s;have hx:(mj.bp (j:O)).1[q]?=S (mj.bp (j:O)).1[q]:=gE om;have htq:(mj.bp (j:O)).1.take (q+1)=(mj.bp (j:O)).1.take q++ [(mj.bp (j:O)).1[q]]:=by rw[OG,hx];rfl
         generalize (mj.bp (j:O)).1[q]=y at hx htq;have hqlen:(ae2++(ag.cF c.obj 0 (k.ae.take i)).1++(ae3++ag.aQ i ((mj.bp (j:O)).1.take q))).length<=1000000000:=by
          have e8:(ag.aQ i ((mj.bp (j:O)).1.take q)).length<=(mj.bp (j:O)).1.length:=by unfold ag.aQ;rw[O3,OO];omega
          simp only[Ov];omega
         apply hl70;refine az om ?_;refine h.bX (s:=s) U hx λa ha _ hc1=>Tb.nD hc1 ?_;refine h.a λg w2 h=>?_;refine h.ay U U λw h=>?_;refine h.oP U ?_;refine lU (sp:=(i:O)) (l:=y) hqlen ((h.pick (ae7:=af aA fs (ae2++(ag.cF c.obj 0 (k.ae.take i)).1++(ae3++ag.aQ i ((mj.bp (j:O)).1.take q))))).pick (ae7:=aa bd (ah bk d ec wv wk fs))) λfs' w h=>?_;rw[wI q om];refine ih3 (q+1) fs' w om ?_;have e9:ae2++(ag.cF c.obj 0 (k.ae.take i)).1++(ae3++ag.aQ i ((mj.bp (j:O)).1.take (q+1)))=ae2++(ag.cF c.obj 0 (k.ae.take i)).1++(ae3++ag.aQ i ((mj.bp (j:O)).1.take q))++ [⟨(i:O),y.1,y.2.1,y.2.2⟩]:=by rw[htq];unfold ag.aQ;rw[OS];simp only[O1];rfl
         rw[e9];exact h.sub
       refine inner _ 0 fs w (OJ _) ?_;rw[PT];show Ow B w0 w (af Tb.aJ s (mj.bp (j:O)).1::Tb.bK p (mj.bp (j:O)).2.2::bo _::af cd ss ps::aeY::aa cc c.cells::aa bd (ah bk d ec wv wk fs)::af aA fs (ae2++(ag.cF c.obj 0 (k.ae.take i)).1++(ae3++ []))::R);rw[OD];exact h
      cases hat:mj.at (j:O)with
      |none=>exact aW U (no (by rw[hat];simp))
      |some n=>
       refine aU U (h.l2 U ?_);show k64 (n==c.obj) w;by_cases en:n=c.obj
       .rw[show(n==c.obj)=V from by simpa using en];exact yes (by rw[hat,en])
       .rw[show(n==c.obj)=Z from by simpa using en];exact no (by rw[hat];simpa using en)
    refine places 64 0 m [] fs w (OJ _) (PF _) U ?_;rw[OD];exact h.sub
  refine loop k.ae.length 0 fs w1 (OJ _) ?_;rw[PT,P6];show Ow B w0 w1 (af cd ss ps::au Tb.bK ps ([]++k.ae)::aeY::aa cc c.cells::aa bd (ah bk d ec wv wk fs)::af aA fs (ae2++ [])::R);rw[PF,OD];exact h.sub
 .rw[Q e7,OD]at hK
  exact hK fs w1 h.drop
def fE(H:Sl.Hs):J (Slot × cO):=(OC 64).filterMap λi:X=>(H (0,(i:O))).map λc=>(((0,(i:O)):Slot),c)
theorem rA{H:Sl.Hs}(h:∀s c,H s=S c->s.1=0/\0<=s.2/\s.2<64):Sl.lO H (fE H):=by
 unfold fE;refine⟨?_,λs c=>?_⟩
 .rw[List.pairwise_filterMap]
  refine List.Pairwise.imp ?_ (List.pairwise_lt_range (n:=64));intro a b hab x hx y hy;rw[P4]at hx hy;obtain⟨_,_,rfl⟩:=hx;obtain⟨_,_,rfl⟩:=hy;unfold Sl.oB;dsimp only;exact qm (.inr ⟨U,om⟩)
 .rw[List.mem_filterMap]
  constructor
  .rintro ⟨i,_,hi⟩
   rw[P4]at hi;obtain⟨c',hc,e⟩:=hi;cases e;exact hc
  .intro hc
   obtain⟨h1,h2,h3⟩:=h s c hc;refine⟨s.2.toNat,PQ.2 om,?_⟩;have e:((0:O),((s.2.toNat:X):O))=s:=Prod.ext h1.symm (by dsimp only;omega);rw[e,hc];rfl
theorem sF(H:Sl.Hs):(fE H).length<=64:=by unfold fE;exact ON (List.length_filterMap_le _ _) qc
theorem xO(H:Sl.Hs)(c:cO):(fE H).any (λy=>ag.mG y.2 c)=(OC 64).any λi=>match H (0,(i:O))with|some x=>ag.mG x c|none=>false:=by unfold fE;rw[List.any_filterMap];congr 1;funext i;cases H (0,(i:O))<;>rfl
theorem Ha(l:Tr.Tr):(Tr.eZ l).map (·.1)=l.map (·.1):=by unfold Tr.eZ;rw[Qk];rfl
theorem H6{T:Tr.Tr}{i:X}(hi:i<T.length):(T.take i++(Tr.eZ ((T.drop (i+1)).take (Tr.dN T i-(i+1)))++T.drop (Tr.dN T i))).map (·.1)=(T.map (·.1)).eraseIdx i:=by
 obtain⟨e1,e2⟩:=Tr.sA T hi;have hd:T.drop (Tr.dN T i)=(T.drop (i+1)).drop (Tr.dN T i-(i+1)):=by rw[List.drop_drop];congr 1;omega
 rw[hd,OS,OS,Ha,<-OS,O8,<-OS,RU];simp[List.map_take,List.map_drop]
end
section
variable{ae6:X}{k:ag}
theorem bj.taken(h:bj ae6 k){s:Slot}(hs:(k.H s).isSome=V):bj ae6 (k.taken s):=by
 obtain⟨i,hi⟩:=sW ((h.mem s).2 hs);obtain⟨x,hx,hxs⟩:=Tr.dA hi;have hlt:=(Om.1 hx).1;have hT:(k.taken s).T=k.T.take i++(Tr.eZ ((k.T.drop (i+1)).take (Tr.dN k.T i-(i+1)))++k.T.drop (Tr.dN k.T i)):=by unfold ag.taken Tr.takeN;rw[hi]
 refine { h with
  sr:=h.sr.del s
  held:=λt c hc=>?_
  tok:=by rw[hT];exact h.tok.take hi
  mem:=λt=>?_}
 .have hc:Sl.cz k.H s I t=S c:=hc
  unfold Sl.cz at hc;split at hc
  .cases hc
  .exact h.held t c hc
 .rw[hT,H6 hlt]
  have hgi:(k.T.map (·.1))[i]?=S s:=by rw[OX,hx];exact qw S hxs
  rw[Sl.pG h.tok.nd hgi,h.mem];show _↔(Sl.cz k.H s I t).isSome=V;unfold Sl.cz;by_cases e:t=s
  .simp[e]
  .rw[Q e];simp[e]
theorem bj.dL(h:bj ae6 k)(id:O):bj ae6 (k.dL id):=by
 have hG:Gr k (k.dL id):=⟨On _,On _,On _,by simp[ag.dL],by simp[ag.dL],On _,On _,On _⟩
 refine h.same (k':=k.dL id) U U U hG h.inv h.ln (λx hx hx2=>?_) h.u h.zG h.nu (by simpa [ag.dL]using h.ne) (by simpa [ag.dL]using h.nn) h.ns h.nf h.nt (λp hp=>?_) (λp hp=>?_)
 .have:=h.F0 x hx hx2
  simpa [ag.dL]using this
 .obtain ⟨q,hq,rfl⟩:=O4.1 hp
  exact ON (OR _ _) (h.el q hq)
 .obtain ⟨q,hq,rfl⟩:=O4.1 hp
  exact ON (OR _ _) (h.nl q hq)
theorem bj.ae(h:bj ae6 k){l:J Tb.dv}(hl:l.length=k.ae.length)(hs:∀m∈l,Tb.fx m):bj ae6 { k with ae:=l}:=
 h.same (k':={ k with ae:=l}) U U U ⟨On _,On _,On _,On _,On _,On _,On _,by dsimp only;omega⟩ h.inv h.ln h.F0 h.u hs h.nu h.ne h.nn (by have:=h.ns;dsimp only;omega) h.nf h.nt h.el h.nl
theorem fx.Mz{m:Tb.dv}(h:Tb.fx m)(f:O × Tb.Pg->W):Tb.fx { m with pg:=m.pg.filter f}:=
 ⟨h.kU.filter f,λx hx=>h.tA x (OE.1 hx).1,h.fh⟩
theorem wC(f:O):∀(l:J Tb.dv)(i:X),(∀m∈l,Tb.fx m)->∀m∈(ag.bh f i l).2,Tb.fx m
 | [],i,_,m,hm=>by simp[ag.bh]at hm
 |a::l,i,h,m,hm=>by
  simp only[ag.bh,Oz]at hm;rcases hm with rfl|hm
  .exact fx.Mz (h a Po) _
  .exact wC f l (i+1) (λm hm=>h m (Pq _ hm)) m hm
theorem tp(n:O)(i:X):∀(q j:X)(m:Tb.dv),Tb.fx m->Tb.fx (ag.dB n i q j m).2
 |0,j,m,h=>h
 |q+1,j,m,h=>by
  rw[oe];split
  .exact tp n i q (j+1) _ (h.drop _)
  .exact tp n i q (j+1) m h
theorem BS(n:O):∀(l:J Tb.dv)(i:X),(∀m∈l,Tb.fx m)->∀m∈(ag.cF n i l).2,Tb.fx m
 | [],i,_,m,hm=>by simp[ag.cF]at hm
 |a::l,i,h,m,hm=>by
  simp only[ag.cF,Oz]at hm;rcases hm with rfl|hm
  .exact tp n i 64 0 a (h a Po)
  .exact BS n l (i+1) (λm hm=>h m (Pq _ hm)) m hm
theorem nZ(t:Th.Mt)(id:O):(t.bM id).2.bF.length=t.bF.length:=by
 unfold Th.Mt.bM;split
 .rfl
 split
 .rfl
 .unfold Th.Mt.leave Th.Mt.aM;simp[Th.dh.1]
theorem bj.last(h:bj ae6 k)(c:cO):bj ae6 (k.last c).2/\(k.last c).2.H=k.H/\(k.last c).2.T=k.T/\(k.last c).2.bits=k.bits:=by
 unfold ag.last;split
 .exact ⟨(h.dL c.obj).bQ (h.inv.suspend c.obj) (by rw[nZ];exact On _),U,U,U⟩
 split
 .exact ⟨h.ae (fQ _ _ _) (wC _ _ _ h.zG),U,U,U⟩
 split
 .exact ⟨h.ae (jG _ _ _) (BS _ _ _ h.zG),U,U,U⟩
 .exact ⟨h,U,U,U⟩
theorem bj.gone(h:bj ae6 k){s:Slot}(hs:(k.H s).isSome=V):bj ae6 (k.gone s).2/\(k.gone s).2.H=Sl.cz k.H s I/\(k.gone s).2.T=(Tr.takeN k.T s).2:=by
 have ht:=h.taken hs;unfold ag.gone;split
 .exact ⟨ht,U,U⟩
 .obtain ⟨h1,h2,h3,_⟩:=ht.last ((k.H s).getD Sl.aq)
  exact⟨h1,h2,h3⟩
theorem ry{ae6:X}:∀(l:J Slot)(k:ag),bj ae6 k->l.Nodup->(∀s∈l,(k.H s).isSome=V)->bj ae6 (ag.cA l k).2/\(∀s,(ag.cA l k).2.H s=if s∈l then I else k.H s)
 | [],k,h,_,_=>⟨h,λs=>by simp[ag.cA]⟩
 |a::l,k,h,hn,hs=>by
  obtain⟨h1,h2,h3⟩:=h.gone (hs a Po);rw[Pu]at hn;have hl:∀s∈l,((k.gone a).2.H s).isSome=true:=λs hm=>by rw[h2];unfold Sl.cz;rw[Q (λe:s=a=>hn.1 (e▸hm))];exact hs s (Pq _ hm)
  obtain⟨g1,g2⟩:=ry l _ h1 hn.2 hl;refine⟨g1,λs=>?_⟩;show(ag.cA l (k.gone a).2).2.H s=_;rw[g2,h2];unfold Sl.cz;by_cases e:s∈l
  .rw[A e,A (Pq _ e)]
  .rw[Q e]
   by_cases e2:s=a
   .rw[A e2,A (by rw[e2];exact Po)]
   .rw[Q e2,Q (by simp[e,e2])]
theorem rz:∀(l:J Slot)(k:ag),(ag.cA l k).1.length+jC (ag.cA l k).2.ae=jC k.ae
 | [],k=>by simp[ag.cA]
 |a::l,k=>by have h1:=DE k a;have h2:=rz l (k.gone a).2;simp only[ag.cA,Ov];omega
end
section
variable{ae2:Fence}{n:X}{P:qo}{m:Th.Mt}{B:X}{w0 w:Y}{R L:J aH}{bd bk:X}{k:ag}{d:pZ}{ec wv wk:O}{fs:Sl}{ae6:X}
theorem Cs{y:Slot × cO}{c:cO}{sb:X}{K:W->Pw}(h:Ow B w0 w L)(i:X)(hi:L[i]?=S (aa sb c.cells))
  (hK:∀w',Ow B w0 w' L->K (ag.mG y.2 c) w'):XA y.1.1 y.1.2 y.2.kind y.2.obj y.2.ak y.2.ax y.2.guard y.2.bits sb.p K w:=by
 apply acX;refine h.a λc0 w1 h=>?_;refine eJ (h.dI U ?_);refine h.tY (i+1) (by simpa using hi) U ?_;exact tf h λw h=>hK w h.drop
theorem xL{s:Slot}{ae2:J dP}{K:Pw}(hk:bj ae6 k)(hN:ae6<=200000)(hs:(k.H s).isSome=V)(hF:ae2.length+jC k.ae<=1000000000)
  (h:Ow B w0 w (aa bd (ah bk d ec wv wk fs)::af aA fs ae2::aj bk k::R))
  (hK:∀fs' w',Ow B w0 w' (aa bd (ah bk d ec wv wk fs')::af aA fs' (ae2++(k.gone s).1)::aj bk (k.gone s).2::R)->K w'):TO bd.o s.1 s.2 K w:=by
 apply acQ;have hkt:=hk.taken hs;obtain⟨c,hc⟩:=PW.1 hs;unfold ag.gone at hK;rw[hc]at hK;have hth:Sl.aR k.bits s=true:=mi hk.b0 (hk.held s c hc).1;refine h.a λc0 w1 h=>?_;obtain⟨x,h⟩:=(h.pick (ae7:=aj bk k)).xP;refine h.dr λw h=>?_;refine⟨_,U,_,h.aF U,_,U,h.l2 U (h.aN U ⟨Tr.wx (s:=s) (h.pick (ae7:=Tr.bZ x.tr k.T)) λw h=>?_,trivial⟩)⟩;intro k14 hk14;have fin:∀(sb:X)(w:Y),Ow B w0 w (aa sb c.cells::aa bd (ah bk d ec wv wk fs)::af aA fs ae2::aj bk (k.taken s)::R)->k14 sb.p w:=λsb w h=>by
  apply hk14;have hF2:ae2.length+jC (k.taken s).ae<=1000000000:=hF;generalize k.taken s=kt at hkt hK hF2 h|-;obtain⟨x,h⟩:=(h.pick (ae7:=aj bk kt)).xP;refine⟨_,U,_,h.aF U,_,U,h.l1 U (Sl.il (h.pick (ae7:=Sl.aC x.n kt.bits kt.H)) λs2 hs2 w hih h=>?_)⟩;have e2:hs2=fE kt.H:=hih.uniq (rA λt c hc=>(hkt.held t c hc).1);subst e2;have h:Ow B w0 w (aj bk kt::af Sl.dV s2 (fE kt.H)::aa sb c.cells::aa bd (ah bk d ec wv wk fs)::af aA fs ae2::R):=Ow.cg x h.sub;refine p7 (s:=s2) (p:=λy=>ag.mG y.2 c) h (ON (sF _) qb) (λy w ae5 h hQ=>?_) λw h=>?_
  .refine aT ?_
   show XA y.1.1 y.1.2 y.2.kind y.2.obj y.2.ak y.2.ax y.2.guard y.2.bits sb.p ae5 w;exact Cs (c:=c) h 2 U hQ
  .have e3:((fE kt.H).any λy=>ag.mG y.2 c)=kt.more c:=xO _ _
   rw[e3];cases hm:kt.more c with
   |true=>
    refine aW U ?_;rw[PM,A hm]at hK;refine hK fs w ?_;show Ow B w0 w (aa bd (ah bk d ec wv wk fs)::af aA fs (ae2++ [])::aj bk kt::R);rw[OD];exact h.sub
   |false=>
    refine aU U ?_;rw[PM,Q (by rw[hm];decide)]at hK;refine h.dI U ?_;refine ES (c:=c) (ae2:=ae2) ⟨ON hkt.ne hN,ON hkt.nn hN,ON hkt.ns hN⟩ hkt.inv.ok hkt.zG hF2 (h.sub:Ow B w0 w (aa bd (ah bk d ec wv wk fs)::af aA fs ae2::aj bk kt::R)) λfs' w h=>?_;exact hK fs' w h
 refine h.dr λw h=>?_;refine⟨_,U,_,h.aF U,_,U,h.l1 U (h.aN U ⟨?_,?_,trivial⟩)⟩
 .refine Sl.ir (s:=s) (h.pick (ae7:=Sl.aC x.n k.bits k.H)) (λe=>by rw[hth]at e;cases e) (λ_ e=>by rw[hc]at e;cases e) λ_ c2 hc2 w h=>?_
  rw[hc]at hc2;cases hc2;refine⟨h.al λw' h=>⟨?_,trivial⟩,trivial⟩
  generalize w.heap.size=sb at h|-;refine h.ay U U λw h=>?_;exact fin sb w ((show Ow B w0 w (aj bk (k.taken s)::aa sb c.cells::aa bd (ah bk d ec wv wk fs)::af aA fs ae2::R) from Ow.cg x h.sub).sub)
 .refine h.al λw' h=>⟨?_,trivial⟩
  generalize w.heap.size=sb at h|-;refine Sl.ir (s:=s) (h.pick (ae7:=Sl.aC x.n k.bits k.H)) (λe=>by rw[hth]at e;cases e) (λ_ e=>by rw[hc]at e;cases e) λ_ c2 hc2 w h=>?_;rw[hc]at hc2;cases hc2;refine⟨h.ay U U λw h=>?_,trivial⟩;exact fin sb w ((show Ow B w0 w (aj bk (k.taken s)::aa sb c.cells::aa bd (ah bk d ec wv wk fs)::af aA fs ae2::R) from Ow.cg x h.sub).sub)
theorem AA{K:O->Pw}(hk:bj ae6 k)(hN:ae6<=200000)(hs:(k.H d.s).isSome=V)
  (h:Ow B w0 w (aa bd (ah bk d ec wv wk fs)::af aA fs []::aj bk k::R))
  (h1:d.call.at_=0->∀w',Ow B w0 w' (aa bd (ah bk d ec wv wk fs)::af aA fs []::aj bk k::R)->K 181 w')
  (h2:d.call.at_≠0->∀fs' w',Ow B w0 w' (aa bd (ah bk d ec wv wk fs')::af aA fs' (k.gone d.s).1::aj bk (k.gone d.s).2::R)->K 0 w'):V5 bd.o K w:=by
 apply abh;have hp:=vE k.ae hk.zG;have hn:=hk.ns;refine⟨_,U,_,bc (h.aE U),dK (λe=>h1 e w h) (λe=>?_)⟩;refine⟨_,U,eJ (h.aN U (xL hk hN hs (by simp only[PY];omega) h λfs' w h=>?_))⟩;exact h2 e fs' w h
theorem gJ{n:O}{t:Th.u3}:(m.aM n t).bF.length=m.bF.length:=by unfold Th.Mt.aM;simp
theorem lX{n:O}:(m.cp n).bF.length=m.bF.length:=by unfold Th.Mt.cp Th.Mt.iI;exact gJ
theorem jB{n s:O}:(m.leave n s).bF.length=m.bF.length:=by unfold Th.Mt.leave;rw[gJ,Th.dh.1]
theorem BF{n v:O}:(m.gW n v).bF.length=m.bF.length:=rfl
theorem iG{c:O}:(m.aV c).bF.length=m.bF.length:=by
 unfold Th.Mt.aV Th.Mt.pick;split
 .split
  .rfl
  .split
   .rw[BF,jB]
   .split
    .rfl
    .rw[BF,jB,lX,jB]
 .rfl
theorem gI{n:O}:(m.bE n).2.bF.length=m.bF.length:=by
 unfold Th.Mt.bE;split
 .rfl
 split
 .rfl
 .exact lX
theorem va{n:O}:(m.gL n).2.bF.length=m.bF.length:=by
 unfold Th.Mt.gL;split
 .rfl
 split
 .rfl
 .exact jB
theorem yj{n p:O}:(m.gn n p).2.bF.length=m.bF.length:=by
 unfold Th.Mt.gn;split
 .rfl
 split
 .rfl
 split
 .rw[lX,gJ,jB]
 .exact gJ
theorem lG{n i v:O}:(m.nS n i v).2.bF.length=m.bF.length:=by
 unfold Th.Mt.nS;split
 .rfl
 split
 .rfl
 .unfold Th.Mt.Br;exact gJ
theorem tu{c:O}:(m.yield c).bF.length=m.bF.length:=by
 unfold Th.Mt.yield;split
 .rfl
 .rw[iG,lX,jB,gJ]
theorem BP{c:O}:(m.tick c).bF.length=m.bF.length:=by
 unfold Th.Mt.tick;split
 .rfl
 .dsimp only
  split
  .rw[tu,gJ]
  .rw[gJ]
theorem mq{id:O}{K:O->Pw}(hm:Th.de k.t)(h:Ow B w0 w (aa bd (ah bk d ec wv (-1) fs)::aj bk k::R))
  (hK:∀w',Ow B w0 w' (aa bd (ah bk d ec wv (k.eu id).2.1 fs)::aj bk (k.eu id).2.2::R)->K (k.eu id).1 w'):TQ bd.o id K w:=by
 apply acS;unfold ag.eu at hK;dsimp only at hK;obtain⟨bt,aeY,h,hc2,hback⟩:=(h.pick (ae7:=aj bk k)).sH;refine⟨_,U,_,h.aF U,_,U,_,hc2,Th.vS hm h λw h=>?_⟩;have h:=hback _ w _ gI h;refine dK (λe=>?_) (λe=>?_)
 .rw[A e]at hK
  refine⟨_,U,iv (h.gh U U λw h=>?_)⟩
  (try dsimp only[bN,ah,putAt,Pj,OI,OJ]at h)
  exact hK w h.sub
 .rw[Q e]at hK
  exact hK w h.sub
theorem zI{K:O->Pw}(hk:bj ae6 k)(hN:ae6<=200000)(h:Ow B w0 w (aa bd (ah bk d ec wv wk fs)::aj bk k::R))
  (hK:∀w',Ow B w0 w' (aa bd (ah bk d ec wv wk fs)::aj bk ((k.dL d.c.obj).bQ (k.t.bM d.c.obj).2)::R)->K (k.t.bM d.c.obj).1 w'):V8 bd.o K w:=by
 apply acB;refine h.dr λw h=>?_;refine⟨_,U,_,h.aF U,_,U,_,bc (h.aE U),pz (id:=d.c.obj) h.cw ⟨ON hk.ne hN,ON hk.nn hN⟩ λw h=>?_,trivial⟩;refine h.dr λw h=>?_;obtain⟨bt,aeY,h,hc2,hback⟩:=h.sH;refine⟨_,U,_,h.aF U,_,U,_,hc2,_,U,_,bc (h.aE U),Th.yo hk.inv.ok h λw h=>?_,trivial⟩;have h:Ow B w0 w (aj bk ((k.dL d.c.obj).bQ (k.t.bM d.c.obj).2)::_):=hback _ w _ (nZ _ _) h;exact hK w h.sub
theorem Fc{K:O->Pw}(hm:Th.de k.t)(h:Ow B w0 w (aa bd (ah bk d ec wv wk fs)::aj bk k::R))
  (hK:∀w',Ow B w0 w' (aa bd (ah bk d ec wv wk fs)::aj bk (k.bQ (k.t.gn d.c.obj d.call.a).2)::R)->K (k.t.gn d.c.obj d.call.a).1 w'):V9 bd.o K w:=by
 apply acC;refine h.dr λw h=>?_;obtain⟨bt,aeY,h,hc2,hback⟩:=(h.pick (ae7:=aj bk k)).sH;refine⟨_,U,_,h.aF U,_,U,_,hc2,_,U,_,bc (h.aE U),_,U,_,bc (h.aE U),Th.KS hm h λw h=>?_,trivial⟩;have h:=hback _ w _ yj h;exact hK w h.sub
theorem Bs{K:O->Pw}(hk:bj ae6 k)(hN:ae6<=200000)(h:Ow B w0 w (aa bd (ah bk d ec wv (-1) fs)::aj bk k::R))
  (hK:∀w',Ow B w0 w' (aa bd (ah bk d ec wv (k.resume d).2.1 fs)::aj bk (k.resume d).2.2::R)->K (k.resume d).1 w'):V7 bd.o K w:=by
 apply acA;unfold ag.resume at hK;intro k2 hk2;have fin:∀(sb:X)(t:Th.u3)(w:Y),t=(if k.t.cP d.c.obj then k.t.th d.c.obj else Th.JK)->Ow B w0 w (aa sb (Th.ko.enc t)::aa bd (ah bk d ec wv (-1) fs)::aj bk k::R)->k2 sb.p w:=λsb t w ht h=>by
  apply hk2;refine h.l1 U ?_;have hst:(k.t.cP d.c.obj=V/\(k.t.th d.c.obj).st=3)↔t.st=3:=by
   rw[ht];cases hT:k.t.cP d.c.obj with
   |true=>simp
   |false=>
    have:Th.JK.st≠3:=qb
    simp[this]
  intro k6 hk6;refine dK (λe=>?_) (λe=>?_)
  .rw[A (hst.2 e)]at hK
   refine h.dr λw h=>?_;refine⟨_,U,_,h.aF U,_,U,_,bc (h.aE U),pz (id:=d.c.obj) h.lK ⟨ON hk.ne hN,ON hk.nn hN⟩ λw h=>?_,trivial⟩;apply hk6;exact⟨_,U,_,bc (h.aE U),mq (k:=k.dL d.c.obj) hk.inv.ok (Ow.sub (L':=aa bd (ah bk d ec wv (-1) fs)::aj bk (k.dL d.c.obj)::R) h) λw h=>hK w h⟩
  .rw[Q (λhh=>e (hst.1 hh))]at hK
   apply hk6;exact⟨_,U,_,bc (h.aE U),mq hk.inv.ok h.drop λw h=>hK w h⟩
 refine h.dr λw h=>?_;obtain⟨bt,aeY,h,hc2,hback⟩:=(h.pick (ae7:=aj bk k)).sH;have hsame:k.bQ k.t=k:=rfl;refine⟨_,U,_,h.aF U,_,U,_,hc2,_,U,_,bc (h.aE U),?_,?_,trivial⟩
 .refine Th.sg h λw t ht h=>?_
  have h:=hback _ w _ U h;rw[hsame]at h;refine⟨h.al λw' h=>⟨?_,trivial⟩,trivial⟩
  generalize w.heap.size=sb at h|-;refine h.ay U U λw h=>?_;have h:Ow B w0 w (aa sb (Th.ko.enc t)::_):=h;exact fin sb t w ht h.sub
 .refine h.al λw' h=>⟨?_,trivial⟩
  generalize w.heap.size=sb at h|-;refine Th.sg h.cw λw t ht h=>?_;have h:=hback _ w _ U (h.pick (ae7:=aeY)).cw;rw[hsame]at h;refine⟨h.ay U U λw h=>?_,trivial⟩;have h:Ow B w0 w (aj bk k::aa sb (Th.ko.enc t)::_):=h;exact fin sb t w ht h.sub
theorem s8{K:Pw}(hk:bj ae6 k)(h:Ow B w0 w (aa bd (ah bk d ec wv wk fs)::aj bk k::R))
  (hK:∀w',Ow B w0 w' (aa bd (ah bk d ec wv wk fs)::aj bk (k.rest d)::R)->K w'):TS bd.o K w:=by
 apply acT;unfold ag.rest at hK;refine⟨_,U,_,bc (h.aE U),oO (λe=>?_) (λe=>?_)⟩
 .rw[A e]at hK
  refine h.dr λw h=>?_;obtain⟨bt,aeY,h,hc2,hback⟩:=(h.pick (ae7:=aj bk k)).sH;refine⟨_,U,_,h.aF U,_,U,_,hc2,_,U,_,h.aE U,Th.IK hk.inv.ok h λw h=>?_,trivial⟩;have h:=hback _ w _ va h;refine h.dr λw h=>?_;obtain⟨bt,aeY,h,hc2,hback⟩:=h.sH;refine⟨_,U,_,h.aF U,_,U,_,hc2,_,U,_,h.aE U,Th.iO (hk.inv.block _).ok h λw h=>?_,trivial⟩;have h:=hback _ w _ iG h;exact hK w (Ow.sub (L:=aj bk (k.bQ ((k.t.gL d.cur).2.aV d.core))::aa bd (ah bk d ec wv wk fs)::R) h)
 .rw[Q (λhh=>hh e)]at hK
  exact hK w h
theorem xK{id:O}{m:FY}{K:Pw}(hk:bj ae6 k)(h:Ow B w0 w (aa bd (ah bk d ec wv wk fs)::aj bk k::R))
  (hK:∀w',Ow B w0 w' (aa bd (ah bk d ec wv wk fs)::aj bk (k.jS id m)::R)->K w'):UG bd.o id m.label m.w0 m.w1 m.w2 m.w3 m.ax m.calls K w:=by
 apply acU;unfold ag.jS at hK;refine h.a λc0 w1 h=>?_;refine⟨_,h.aE U,_,h.aF U,qb,qb,_,bc (h.aE U),?_⟩;refine h.a λg w2 h=>?_;intro l15 hl15;have one:∀(i:X)(kk:ag)(v:O)(w:Y),i<3->Th.bB (-1) kk.t->[m.ax,qq.wrap m.label,m.w0][i]?=S v->Ow B w0 w (aa g [.y m.ax,.y (qq.wrap m.label),.y m.w0]::aa bd (ah bk d ec wv wk fs)::aj bk kk::R)->
   (∀w',Ow B w0 w' (aa g [.y m.ax,.y (qq.wrap m.label),.y m.w0]::aa bd (ah bk d ec wv wk fs)::aj bk (kk.bQ (kk.t.nS id (i:O) v).2)::R)->l15 ((i+1:X):O) w')->l15 (i:O) w:=λi kk v w hi hm hv h hnext=>by
  apply hl15;refine az om ?_;obtain⟨bt,aeY,h,hc2,hback⟩:=(h.pick (ae7:=aj bk kk)).sH;have hcell:w.cell? (g.p.add ((show O from i).toNat*1))=S (.y v):=by
   refine h.aE ?_;have:i=0\/i=1\/i=2:=om
   rcases this with rfl|rfl|rfl<;>(simp at hv;subst hv;rfl)
  refine⟨_,U,om,om,_,hcell,_,U,_,h.aF U,_,U,_,hc2,Th.Kb hm.ok h λw h=>?_⟩;have h:=hback _ w _ lG h;rw[wI i om];exact hnext w h.sub
 refine one 0 k m.ax w2 qb hk.inv U h.vU λw h=>?_;refine one 1 _ _ w qb (hk.inv.Br _ _ _) U h λw h=>?_;refine one 2 _ _ w qb ((hk.inv.Br _ _ _).Br _ _ _) U h λw h=>?_;apply hl15;refine aw qb ?_;exact hK w h.drop
theorem bj.ic(hk:bj ae6 k){n:O}(h0:0<=n)(h1:n<(k.ends.length:O)):k.ends[n.toNat]?=S (k.ic n)/\(k.ic n).l.length<=ae6:=by have hx:k.ends[n.toNat]?=S k.ends[n.toNat]:=gE om;unfold ag.ic;rw[hx];exact⟨U,hk.el _ (Ph _)⟩
theorem bj.lM(hk:bj ae6 k){n:O}(h0:0<=n)(h1:n<(k.notes.length:O)):k.notes[n.toNat]?=S (k.lM n)/\(k.lM n).l.length<=ae6:=by have hx:k.notes[n.toNat]?=S k.notes[n.toNat]:=gE om;unfold ag.lM;rw[hx];exact⟨U,hk.nl _ (Ph _)⟩
theorem bj.hI(hk:bj ae6 k){n:O}(h0:0<=n)(h1:n<(k.ae.length:O)):k.ae[n.toNat]?=S (k.hI n)/\Tb.fx (k.hI n):=by have hx:k.ae[n.toNat]?=S k.ae[n.toNat]:=gE om;unfold ag.hI;rw[hx];exact⟨U,hk.zG _ (Ph _)⟩
theorem AF(p:eN)(t:W):(p.first t).2.l.length<=p.l.length:=by
 unfold eN.first
 split
 .exact On _
 .rename_i o r e
  split
  .dsimp only;rw[e];simp
  .exact On _
theorem zC(p:eN)(n:O)(m:FY)(wt:W):(p.send n m wt).2.2.l.length<=p.l.length+1:=by
 have:=AF p Z;unfold eN.send;split
 .exact P3 _
 split
 .rename_i h;rw[h]at this;dsimp only at this|-;omega
 .split
  .simp
  .exact P3 _
theorem zu(p:eN)(n:O)(wt:W):(p.recv n wt).2.2.l.length<=p.l.length+1:=by
 have:=AF p V;unfold eN.recv;split
 .exact P3 _
 split
 .rename_i h;rw[h]at this;dsimp only at this|-;omega
 .split
  .simp
  .exact P3 _
theorem bj.eL(hk:bj ae6 k){n:O}{p:eN}(hp:p.l.length<=ae6+1):bj (ae6+1) (k.eL n p):=by
 have hM:=hk.mono (P3 ae6);have hG:Gr k (k.eL n p):=⟨On _,On _,On _,by simp[ag.eL],On _,On _,On _,On _⟩
 refine hM.same (k':=k.eL n p) U U U hG hk.inv hk.ln hk.F0 hk.u hk.zG hM.nu (by simpa [ag.eL]using hM.ne) hM.nn hM.ns hM.nf hM.nt (λq hq=>?_) hM.nl;rcases Px hq with hq|hq
 .exact hM.el q hq
 .rw[hq];exact hp
theorem bj.jn(hk:bj ae6 k){n:O}{p:oN}(hp:p.l.length<=ae6+1):bj (ae6+1) (k.jn n p):=by
 have hM:=hk.mono (P3 ae6);have hG:Gr k (k.jn n p):=⟨On _,On _,On _,On _,by simp[ag.jn],On _,On _,On _⟩
 refine hM.same (k':=k.jn n p) U U U hG hk.inv hk.ln (λx hx hx2=>by have:=hk.F0 x hx hx2;simpa [ag.jn]using this) hk.u hk.zG hM.nu hM.ne (by simpa [ag.jn]using hM.nn) hM.ns hM.nf hM.nt hM.el (λq hq=>?_);rcases Px hq with hq|hq
 .exact hM.nl q hq
 .rw[hq];exact hp
theorem bj.jS(hk:bj ae6 k){id:O}{m:FY}:bj ae6 (k.jS id m):=
 hk.bQ (((hk.inv.Br _ _ _).Br _ _ _).Br _ _ _) (by rw[lG,lG,lG];exact On _)
theorem bj.rest(hk:bj ae6 k):bj ae6 (k.rest d):=by
 unfold ag.rest;split
 .exact hk.bQ ((hk.inv.block _).aV _) (by rw[iG,va];exact On _)
 .exact hk
theorem bj.eu(hk:bj ae6 k)(id:O):bj ae6 (k.eu id).2.2:=hk.bQ (hk.inv.resume id) (by rw[gI];exact On _)
abbrev KN(x:Met):J N:=[.bool x.is,.z x.gk,.z x.to,.z x.m.label,.y x.m.w0,.y x.m.w1,.y x.m.w2,.y x.m.w3,.y x.m.ax,.bool x.m.calls]
theorem FB{K:O->Pw}(hk:bj ae6 k)(hN:ae6<=200000)(h0:0<=d.c.obj)(h1:d.c.obj<(k.ends.length:O))(h:Ow B w0 w (aa bd (ah bk d ec 0 (-1) fs)::aj bk k::R))
  (hK:∀w',Ow B w0 w' (aa bd (ah bk d ec 0 (k.send d).1.cN fs)::aj bk (k.send d).2::R)->K (k.send d).1.e w'):Wa bd.o K w:=by
 apply acD;obtain⟨hp,hpl⟩:=hk.ic h0 h1;have hse:=zC (k.ic d.c.obj) d.cur (ag.fa d) (d.call.c !=0);have hkE:=hk.eL (n:=d.c.obj) (p:=((k.ic d.c.obj).send d.cur (ag.fa d) (d.call.c !=0)).2.2) om;unfold ag.send at hK;refine h.dr λw h=>?_;refine⟨_,U,_,bc (h.aE U),_,U,_,bc (h.aE U),_,U,_,bc (h.aE U),h.al λw1 h=>⟨?_,trivial⟩,trivial⟩
 generalize w.heap.size=cm at h|-;refine h.ay U U λw h=>?_;intro k11 hk11;have fin:∀(sb:X)(x:Met)(w:Y),x=((k.ic d.c.obj).send d.cur (ag.fa d) (d.call.c !=0)).1->Ow B w0 w (aa sb (KN x)::aa bd (ah bk d ec 0 (-1) fs)::aj bk (k.eL d.c.obj ((k.ic d.c.obj).send d.cur (ag.fa d) (d.call.c !=0)).2.2)::R)->k11 sb.p ((k.ic d.c.obj).send d.cur (ag.fa d) (d.call.c !=0)).2.1 w:=λsb x w hx h=>by
  apply hk11;generalize (k.ic d.c.obj).send d.cur (ag.fa d) (d.call.c !=0)=P at hx h hK hkE|-;obtain⟨y,e,p'⟩:=P;dsimp only at hx h hK hkE|-;subst hx;by_cases he:e≠0
  .rw[A he]at hK
   exact iy he (hK w h.drop)
  rw[Q he]at hK;refine fG om (h.l1 U ?_);cases hi:x.is with
  |false=>
   rw[A hi]at hK;refine aU U ?_;refine s8 hkE h.drop λw h=>?_;exact hK w h
  |true=>
   rw[Q (by rw[hi];decide)]at hK;refine aW U (h.l2 U ?_);refine eJ (h.y6 U ?_);refine xK (id:=x.to) (m:=x.m) hkE ((h.pick (ae7:=aj bk (k.eL d.c.obj p'))).pick (ae7:=aa bd (ah bk d ec 0 (-1) fs))) λw h=>?_;refine h.l2 U ?_;have hK2:∀w',Ow B w0 w' (aa bd (ah bk d ec 0 (((k.eL d.c.obj p').jS x.to x.m).eu x.to).2.1 fs)::aj bk (((k.eL d.c.obj p').jS x.to x.m).eu x.to).2.2::R)->K (((k.eL d.c.obj p').jS x.to x.m).eu x.to).1 w':=hK;refine mq hkE.jS.inv.ok h λw h=>?_;exact hK2 w h.sub
 refine h.dr λw h=>?_;obtain⟨ss,ps,aeY,h,hc2,hpn,hback⟩:=(h.pick (ae7:=aj bk k)).J8;have hq:ps[d.c.obj.toNat]?=S ps[d.c.obj.toNat]:=gE om;generalize ps[d.c.obj.toNat]=pp at hq;refine⟨_,U,_,h.aF U,_,U,ss,hc2,_,U,_,bc (h.aE U),eF (s:=ss) (i:=d.c.obj) (j:=d.c.obj.toNat) h om hq λa ha hc=>⟨_,hc,?_⟩⟩
 refine⟨_,U,h.l2 U (h.y6 U ⟨_,U,_,bc (h.aE U),?_,?_,trivial⟩)⟩
 .have h:=(h.pick (ae7:=au cV ps k.ends)).wL hq hp
  refine jP (m:=ag.fa d) om h λw x hx h=>?_;have h:=(h.cI hpn hq).cw;have h:Ow B w0 w (aj bk (k.eL d.c.obj ((k.ic d.c.obj).send d.cur (ag.fa d) (d.call.c !=0)).2.2)::_):=hback _ w _ h;refine⟨h.al λw' h=>⟨?_,trivial⟩,trivial⟩
  generalize w.heap.size=sb at h|-;refine h.ay U U λw h=>?_;exact fin sb x w hx h.sub
 .refine h.al λw' h=>⟨?_,trivial⟩
  generalize w.heap.size=sb at h|-;have h:=(h.pick (ae7:=au cV ps k.ends)).wL hq hp;refine jP (m:=ag.fa d) om h λw x hx h=>?_;have h:=(h.cI hpn hq)
  have h:Ow B w0 w (aj bk (k.eL d.c.obj ((k.ic d.c.obj).send d.cur (ag.fa d) (d.call.c !=0)).2.2)::_):=hback _ w _ (h.pick (ae7:=aeY)).cw.xm;refine⟨h.ay U U λw h=>?_,trivial⟩;exact fin sb x w hx h.sub
theorem Fq{K:O->Pw}(hk:bj ae6 k)(hN:ae6<=200000)(h0:0<=d.c.obj)(h1:d.c.obj<(k.ends.length:O))(h:Ow B w0 w (aa bd (ah bk d ec 0 (-1) fs)::aj bk k::R))
  (hK:∀w',Ow B w0 w' (aa bd (ah bk d ec 0 (k.recv d).1.cN fs)::aj bk (k.recv d).2::R)->K (k.recv d).1.e w'):Wb bd.o K w:=by
 apply acE;obtain⟨hp,hpl⟩:=hk.ic h0 h1;have hse:=zu (k.ic d.c.obj) d.cur (d.call.c !=0);have hkE:=hk.eL (n:=d.c.obj) (p:=((k.ic d.c.obj).recv d.cur (d.call.c !=0)).2.2) om;unfold ag.recv at hK;intro k11 hk11;have fin:∀(sb:X)(x:Met)(w:Y),x=((k.ic d.c.obj).recv d.cur (d.call.c !=0)).1->Ow B w0 w (aa sb (KN x)::aa bd (ah bk d ec 0 (-1) fs)::aj bk (k.eL d.c.obj ((k.ic d.c.obj).recv d.cur (d.call.c !=0)).2.2)::R)->k11 sb.p ((k.ic d.c.obj).recv d.cur (d.call.c !=0)).2.1 w:=λsb x w hx h=>by
  apply hk11;generalize (k.ic d.c.obj).recv d.cur (d.call.c !=0)=P at hx h hK hkE|-;obtain⟨y,e,p'⟩:=P;dsimp only at hx h hK hkE|-;subst hx;by_cases he:e≠0
  .rw[A he]at hK
   exact iy he (hK w h.drop)
  rw[Q he]at hK;refine fG om (h.l1 U ?_);cases hi:x.is with
  |false=>
   rw[A hi]at hK;refine aU U ?_;refine s8 hkE h.drop λw h=>?_;exact hK w h
  |true=>
   rw[Q (by rw[hi];decide)]at hK;refine aW U ?_;refine h.dr λw h=>?_;refine⟨_,U,h.l2 U (eJ (h.y6 U ⟨xK (id:=d.cur) (m:=x.m) hkE ((h.pick (ae7:=aj bk (k.eL d.c.obj p'))).pick (ae7:=aa bd (ah bk d ec 0 (-1) fs))) λw h=>?_,trivial⟩))⟩;refine h.l2 U ?_;have hK2:∀w',Ow B w0 w' (aa bd (ah bk d ec 0 (((k.eL d.c.obj p').jS d.cur x.m).eu x.gk).2.1 fs)::aj bk (((k.eL d.c.obj p').jS d.cur x.m).eu x.gk).2.2::R)->K (((k.eL d.c.obj p').jS d.cur x.m).eu x.gk).1 w':=hK;refine mq hkE.jS.inv.ok h λw h=>?_;exact hK2 w h.sub
 refine h.dr λw h=>?_;obtain⟨ss,ps,aeY,h,hc2,hpn,hback⟩:=(h.pick (ae7:=aj bk k)).J8;have hq:ps[d.c.obj.toNat]?=S ps[d.c.obj.toNat]:=gE om;generalize ps[d.c.obj.toNat]=pp at hq;refine⟨_,U,_,h.aF U,_,U,ss,hc2,_,U,_,bc (h.aE U),eF (s:=ss) (i:=d.c.obj) (j:=d.c.obj.toNat) h om hq λa ha hc=>⟨_,hc,?_⟩⟩
 refine⟨_,U,_,h.aE U,_,U,_,bc (h.aE U),?_,?_,trivial⟩
 .have h:=(h.pick (ae7:=au cV ps k.ends)).wL hq hp
  refine jO om h λw x hx h=>?_;have h:=(h.cI hpn hq).cw;have h:Ow B w0 w (aj bk (k.eL d.c.obj ((k.ic d.c.obj).recv d.cur (d.call.c !=0)).2.2)::_):=hback _ w _ h;refine⟨h.al λw' h=>⟨?_,trivial⟩,trivial⟩
  generalize w.heap.size=sb at h|-;refine h.ay U U λw h=>?_;exact fin sb x w hx h.sub
 .refine h.al λw' h=>⟨?_,trivial⟩
  generalize w.heap.size=sb at h|-;have h:=(h.pick (ae7:=au cV ps k.ends)).wL hq hp;refine jO om h λw x hx h=>?_;have h:=(h.cI hpn hq)
  have h:Ow B w0 w (aj bk (k.eL d.c.obj ((k.ic d.c.obj).recv d.cur (d.call.c !=0)).2.2)::_):=hback _ w _ (h.pick (ae7:=aeY)).cw.xm;refine⟨h.ay U U λw h=>?_,trivial⟩;exact fin sb x w hx h.sub
theorem FG(n:oN)(g:O):(n.a8 g).2.l.length<=n.l.length:=by
 unfold oN.a8;split
 .rename_i x r e;dsimp only;rw[e];simp
 .rename_i e;dsimp only;rw[e];simp
theorem zO(n:oN)(who:O)(wt:W):(n.wait who wt).2.l.length<=n.l.length+1:=by
 unfold oN.wait;split
 .exact P3 _
 split
 .exact P3 _
 .dsimp only
  split
  .simp
  .exact P3 _
theorem nX{n g:O}{K:O->Pw}(hk:bj ae6 k)(hN:ae6<=200000)(h0:0<=n)(h1:n<(k.notes.length:O))(h:Ow B w0 w (aj bk k::R))
  (hK:∀w',Ow B w0 w' (aj bk (k.a8 n g).2::R)->K (k.a8 n g).1 w'):Tz bk.o n g K w:=by
 apply aa9;obtain⟨hp,hpl⟩:=hk.lM h0 h1;unfold ag.a8 at hK;obtain⟨ss,ps,aeY,h,hc2,hpn,hback⟩:=h.G1;have hq:ps[n.toNat]?=S ps[n.toNat]:=gE om;generalize ps[n.toNat]=pp at hq;refine⟨_,U,ss,hc2,eF (s:=ss) (i:=n) (j:=n.toNat) h om hq λa ha hc=>⟨_,hc,?_⟩⟩
 have h:=(h.pick (ae7:=au cj ps k.notes)).wL hq hp;refine pL h λw h=>?_;have h:=(h.cI hpn hq).cw;have h:Ow B w0 w (aj bk (k.jn n ((k.lM n).a8 g).2)::R):=hback _ w _ h;cases hs:((k.lM n).a8 g).1 with
 |none=>
  rw[hs]at hK;exact aU U (hK w h)
 |some who=>
  rw[hs]at hK;refine aW U ?_;obtain⟨bt,aeY,h,hc2,hback⟩:=h.sH;refine⟨_,U,_,hc2,Th.Kb hk.inv.ok h λw h=>?_⟩;have h:=hback _ w _ lG h;obtain⟨bt,aeY,h,hc2,hback⟩:=h.sH;refine⟨_,U,_,hc2,Th.vS (hk.inv.Br _ _ _).ok h λw h=>?_⟩;have h:=hback _ w _ gI h;exact hK w h
theorem wa{K:O->Pw}(hk:bj ae6 k)(hN:ae6<=200000)(h0:0<=d.c.obj)(h1:d.c.obj<(k.notes.length:O))(h:Ow B w0 w (aa bd (ah bk d ec wv wk fs)::aj bk k::R))
  (hK:∀w',Ow B w0 w' (aa bd (ah bk d ec wv (k.a8 d.c.obj d.c.ax).1 fs)::aj bk (k.a8 d.c.obj d.c.ax).2::R)->K 0 w'):Wc bd.o K w:=by
 apply acF;refine h.dr λw h=>?_;refine⟨_,U,_,h.aF U,_,U,_,bc (h.aE U),_,U,_,bc (h.aE U),nX hk hN h0 h1 h.cw λw h=>?_,trivial⟩;refine⟨_,U,iv (h.gh U U λw h=>?_),trivial⟩
 (try dsimp only[bN,ah,putAt,Pj,OI,OJ]at h)
 exact hK w h.sub
theorem FU{K:O->Pw}(hk:bj ae6 k)(hN:ae6<=200000)(h0:0<=d.c.obj)(h1:d.c.obj<(k.notes.length:O))(h:Ow B w0 w (aa bd (ah bk d ec 0 wk fs)::aj bk k::R))
  (hK:∀w',Ow B w0 w' (aa bd (ah bk d ec (k.wait d).1.w wk fs)::aj bk (k.wait d).2::R)->K (k.wait d).1.e w'):Wd bd.o K w:=by
 apply acG;obtain⟨hp,hpl⟩:=hk.lM h0 h1;have hwl:=zO (k.lM d.c.obj) d.cur (d.call.c !=0);have hkN:=hk.jn (n:=d.c.obj) (p:=((k.lM d.c.obj).wait d.cur (d.call.c !=0)).2) om;unfold ag.wait at hK;refine h.dr λw h=>?_;obtain⟨ss,ps,aeY,h,hc2,hpn,hback⟩:=(h.pick (ae7:=aj bk k)).G1;have hq:ps[d.c.obj.toNat]?=S ps[d.c.obj.toNat]:=gE om;generalize ps[d.c.obj.toNat]=pp at hq;refine⟨_,U,_,h.aF U,_,U,ss,hc2,_,U,_,bc (h.aE U),eF (s:=ss) (i:=d.c.obj) (j:=d.c.obj.toNat) h om hq λa ha hc=>⟨_,hc,?_⟩⟩
 refine⟨_,U,_,h.aE U,_,U,_,bc (h.aE U),?_,trivial⟩;have h:=(h.pick (ae7:=au cj ps k.notes)).wL hq hp;refine sU om h λw h=>?_;have h:=(h.cI hpn hq).cw;have h:Ow B w0 w (aj bk (k.jn d.c.obj ((k.lM d.c.obj).wait d.cur (d.call.c !=0)).2)::aa bd (ah bk d ec 0 wk fs)::R):=hback _ w _ h;generalize (k.lM d.c.obj).wait d.cur (d.call.c !=0)=P at h hK hkN|-;obtain⟨⟨y,is,e⟩,p'⟩:=P;dsimp only at h hK hkN|-;by_cases he:e≠0
 .rw[A he]at hK
  exact iy he (hK w h.cw)
 rw[Q he]at hK;refine fG om ?_;intro k19 hk19;have fin:∀(k':ag)(w:Y),(∀w',Ow B w0 w' (aa bd (ah bk d ec y wk fs)::aj bk k'::R)->K 0 w')->Ow B w0 w (aa bd (ah bk d ec 0 wk fs)::aj bk k'::R)->k19 w:=λk' w hK h=>by
  apply hk19;refine⟨_,U,iv (h.gh U U λw h=>?_)⟩
  (try dsimp only[bN,ah,putAt,Pj,OI,OJ]at h)
  exact hK w h
 cases is with
 |false=>
  refine aU U ?_;refine s8 hkN h.cw λw h=>?_;exact fin _ w (λw' h=>hK w' h) h
 |true=>
  refine aW U ?_;exact fin _ w (λw' h=>hK w' h) h.cw
theorem Dl{K:O->Pw}(hk:bj ae6 k)(h:Ow B w0 w (aa bd (ah bk d ec wv wk fs)::aj bk k::R))
  (hK:∀w',Ow B w0 w' (aa bd (ah bk d ec wv wk fs)::aj bk (k.table d).2::R)->K (k.table d).1.e w'):We bd.o K w:=by
 apply acH;unfold ag.table at hK;intro k2 hk2;have fbad:k.dx d.call.ar 8=Z->∀(sb:qf)(w:Y),Ow B w0 w (aa bd (ah bk d ec wv wk fs)::aj bk k::R)->k2 sb Z w:=λhB sb w h=>by rw[A hB]at hK;apply hk2;exact aU U (hK w h)
 have fgood:k.dx d.call.ar 8=V->∀(sb:X)(c:cO)(w:Y),c=k.aX d.call.ar->Ow B w0 w (aa sb c.cells::aa bd (ah bk d ec wv wk fs)::aj bk k::R)->k2 sb.p V w:=λhB sb c w hc h=>by
  rw[Q (by rw[hB];decide)]at hK;dsimp only[ag.tell]at hK;obtain⟨hb1,hb2⟩:=iA hB;obtain⟨_,_,ho,_,_⟩:=hk.cap hb1;rw[<-hc]at ho hb2 hK;have o0:=ho.1;have o1:=ho.2.2.2.2.2.2.2.2.1 (hb2 qb);obtain⟨hp,hsk⟩:=hk.hI o0 o1;apply hk2;refine aW U ?_;refine h.dr λw h=>?_;obtain⟨ss,ps,aeY,h,hc2,hpn,hback⟩:=(h.pick (ae7:=aj bk k)).ow;have hq:ps[c.obj.toNat]?=S ps[c.obj.toNat]:=gE om;generalize ps[c.obj.toNat]=pp at hq;refine⟨_,U,_,h.aF U,_,U,ss,hc2,h.l2 U (eF (s:=ss) (i:=c.obj) (j:=c.obj.toNat) h om hq λa ha hcc=>⟨_,hcc,?_⟩)⟩
  refine⟨_,U,_,bc (h.aE U),_,U,_,bc (h.aE U),?_,trivial⟩;have h:=(h.pick (ae7:=au Tb.bK ps k.ae)).wL hq hp;refine Tb.Cc h λw h=>?_;have h:=(h.cI hpn hq).cw;have h:Ow B w0 w (aj bk (k.kR c.obj ((k.hI c.obj).gZ d.call.a d.c.obj).2)::_):=hback _ w _ h;exact hK w h.sub
 refine h.dr λw h=>?_;refine⟨_,U,_,h.aF U,_,U,_,bc (h.aE U),?_⟩
 (repeat' (first|exact trivial|(exact fbad (by assumption) _ _ h.sub)|(exact fgood (by assumption) _ _ _ (by assumption) h.sub)|(refine oq hk (h.pick (ae7:=aj bk k)) (λhB s c w h=>?_) (λhB w c hc h=>?_))|(refine h.al λw h=>?_)|(refine h.dr λw h=>?_)|(refine h.aN U ?_)|(refine h.dI U ?_)|(refine h.l1 U ?_)|(refine h.l2 U ?_)|(refine h.hd U ?_)|(refine⟨h.aF U,?_⟩)|(refine⟨h.aE U,?_⟩)|((refine h.ay U U λw h=>?_);(try dsimp only[putAt,Pj,OI]at h))|(refine eX ?_)|(refine _root_.Go.Vc.a2 ?_)|(refine h.jx U U λw h=>?_)|(refine h.gh U U λw h=>?_)|(refine And.intro ?_ ?_)))
theorem Ba{K:O->Pw}(hk:bj ae6 k)(h:Ow B w0 w (aa bd (ah bk d ec wv wk fs)::aj bk k::R))
  (hK:∀w',Ow B w0 w' (aa bd (ah bk d ec wv wk fs)::aj bk (k.mapped d).2::R)->K (k.mapped d).1.e w'):Wf bd.o K w:=by
 apply acI;unfold ag.mapped at hK;intro k2 hk2;have fbad:k.dx d.call.ar 8=Z->∀(sb:qf)(w:Y),Ow B w0 w (aa bd (ah bk d ec wv wk fs)::aj bk k::R)->k2 sb Z w:=λhB sb w h=>by rw[A hB]at hK;apply hk2;exact aU U (hK w h)
 have fgood:k.dx d.call.ar 8=V->∀(sb:X)(c:cO)(w:Y),c=k.aX d.call.ar->Ow B w0 w (aa sb c.cells::aa bd (ah bk d ec wv wk fs)::aj bk k::R)->k2 sb.p V w:=λhB sb c w hc h=>by
  rw[Q (by rw[hB];decide)]at hK;dsimp only[ag.tell]at hK;obtain⟨hb1,hb2⟩:=iA hB;obtain⟨_,_,ho,_,_⟩:=hk.cap hb1;rw[<-hc]at ho hb2 hK;have o0:=ho.1;have o1:=ho.2.2.2.2.2.2.2.2.1 (hb2 qb);obtain⟨hp,hsk⟩:=hk.hI o0 o1;apply hk2;refine aW U ?_;refine h.dr λw h=>?_;obtain⟨ss,ps,aeY,h,hc2,hpn,hback⟩:=(h.pick (ae7:=aj bk k)).ow;have hq:ps[c.obj.toNat]?=S ps[c.obj.toNat]:=gE om;generalize ps[c.obj.toNat]=pp at hq;refine⟨_,U,_,h.aF U,_,U,ss,hc2,h.l2 U (eF (s:=ss) (i:=c.obj) (j:=c.obj.toNat) h om hq λa ha hcc=>⟨_,hcc,?_⟩)⟩
  have h:=(h.pick (ae7:=au Tb.bK ps k.ae)).wL hq hp;have fin:∀w,Ow B w0 w (Tb.bK pp ((k.hI c.obj).nF d.call.a (d.c.obj,da .i64 d.c.ak d.call.b)).2::bo ((Ot Tb.bK ps k.ae).eraseIdx c.obj.toNat)::af cd ss ps::aeY::aa bd (ah bk d ec wv wk fs)::R)->K ((k.hI c.obj).nF d.call.a (d.c.obj,da .i64 d.c.ak d.call.b)).1 w:=λw h=>by have h:=(h.cI hpn hq).cw;have h:Ow B w0 w (aj bk (k.kR c.obj ((k.hI c.obj).nF d.call.a (d.c.obj,da .i64 d.c.ak d.call.b)).2)::_):=hback _ w _ h;exact hK w h.sub
  have go:∀w,Ow B w0 w (Tb.bK pp (k.hI c.obj)::bo ((Ot Tb.bK ps k.ae).eraseIdx c.obj.toNat)::af cd ss ps::aeY::aa bd (ah bk d ec wv wk fs)::R)->UI pp.o d.call.a d.c.obj (da .i64 d.c.ak d.call.b) (λr w=>K r w) w:=λw h=>Tb.F5 (p:=(d.c.obj,da .i64 d.c.ak d.call.b)) h λw h=>fin w h;have rd:∀{w:Y},Ow B w0 w (aa bd (ah bk d ec wv wk fs)::R)->G:=λ_=>trivial;refine⟨_,U,_,bc (h.aE U),_,U,_,bc (h.aE U),_,U,_,bc (h.aE U),_,U,_,bc (h.aE U),?_⟩
  (repeat' (first|exact trivial|(exact go _ h.sub)|(refine h.al λw h=>?_)|(refine h.dr λw h=>?_)|(refine h.aN U ?_)|(refine h.dI U ?_)|(refine h.l1 U ?_)|(refine h.l2 U ?_)|(refine h.hd U ?_)|(refine⟨h.aF U,?_⟩)|(refine⟨h.aE U,?_⟩)|((refine h.ay U U λw h=>?_);(try dsimp only[putAt,Pj,OI]at h))|(refine eX ?_)|(refine _root_.Go.Vc.a2 ?_)|(refine h.jx U U λw h=>?_)|(refine h.gh U U λw h=>?_)|(refine And.intro ?_ ?_)))
 refine h.dr λw h=>?_;refine⟨_,U,_,h.aF U,_,U,_,bc (h.aE U),?_⟩
 (repeat' (first|exact trivial|(exact fbad (by assumption) _ _ h.sub)|(exact fgood (by assumption) _ _ _ (by assumption) h.sub)|(refine oq hk (h.pick (ae7:=aj bk k)) (λhB s c w h=>?_) (λhB w c hc h=>?_))|(refine h.al λw h=>?_)|(refine h.dr λw h=>?_)|(refine h.aN U ?_)|(refine h.dI U ?_)|(refine h.l1 U ?_)|(refine h.l2 U ?_)|(refine h.hd U ?_)|(refine⟨h.aF U,?_⟩)|(refine⟨h.aE U,?_⟩)|((refine h.ay U U λw h=>?_);(try dsimp only[putAt,Pj,OI]at h))|(refine eX ?_)|(refine _root_.Go.Vc.a2 ?_)|(refine h.jx U U λw h=>?_)|(refine h.gh U U λw h=>?_)|(refine And.intro ?_ ?_)))
theorem Ey{K:O->Pw}(hk:bj ae6 k)(h:Ow B w0 w (aa bd (ah bk d ec wv wk fs)::aj bk k::R))
  (hK:∀w',Ow B w0 w' (aa bd (ah bk d ec wv wk fs)::aj bk (k.bind d).2::R)->K (k.bind d).1.e w'):Wh bd.o K w:=by
 apply acK;unfold ag.bind at hK;intro k2 hk2;have fbad:k.dx d.call.ar 5=Z->∀(sb:qf)(w:Y),Ow B w0 w (aa bd (ah bk d ec wv wk fs)::aj bk k::R)->k2 sb Z w:=λhB sb w h=>by rw[A hB]at hK;apply hk2;exact aU U (hK w h)
 have fgood:k.dx d.call.ar 5=V->∀(sb:X)(c:cO)(w:Y),c=k.aX d.call.ar->Ow B w0 w (aa sb c.cells::aa bd (ah bk d ec wv wk fs)::aj bk k::R)->k2 sb.p V w:=λhB sb c w hc h=>by
  rw[Q (by rw[hB];decide)]at hK;dsimp only[ag.tell]at hK;rw[<-hc]at hK;apply hk2;refine aW U ?_;refine h.dr λw h=>?_;obtain⟨bl,aeY,h,hc2,hback⟩:=(h.pick (ae7:=aj bk k)).CB;refine⟨_,U,_,h.aF U,_,U,_,hc2,_,U,_,bc (h.aE U),_,h.aE U,_,h.aE U,xa h λw h=>?_,trivial⟩;have h:=hback _ w _ h;exact hK w (Ow.sub (L:=aj bk { k with ln:=(mW k.ln d.c.obj c.obj c.ax).2}::aa sb c.cells::aa bd (ah bk d ec wv wk fs)::R) h)
 refine h.dr λw h=>?_;refine⟨_,U,_,h.aF U,_,U,_,bc (h.aE U),?_⟩
 (repeat' (first|exact trivial|(exact fbad (by assumption) _ _ h.sub)|(exact fgood (by assumption) _ _ _ (by assumption) h.sub)|(refine oq hk (h.pick (ae7:=aj bk k)) (λhB s c w h=>?_) (λhB w c hc h=>?_))|(refine h.al λw h=>?_)|(refine h.dr λw h=>?_)|(refine h.aN U ?_)|(refine h.dI U ?_)|(refine h.l1 U ?_)|(refine h.l2 U ?_)|(refine h.hd U ?_)|(refine⟨h.aF U,?_⟩)|(refine⟨h.aE U,?_⟩)|((refine h.ay U U λw h=>?_);(try dsimp only[putAt,Pj,OI]at h))|(refine eX ?_)|(refine _root_.Go.Vc.a2 ?_)|(refine h.jx U U λw h=>?_)|(refine h.gh U U λw h=>?_)|(refine And.intro ?_ ?_)))
theorem Dm{K:O->Pw}(hk:bj ae6 k)(h0:0<=d.c.obj)(h1:d.c.obj<(k.ae.length:O))(h:Ow B w0 w (aa bd (ah bk d ec wv wk fs)::af aA fs []::aj bk k::R))
  (hK:∀fs' w',Ow B w0 w' (aa bd (ah bk d ec wv wk fs')::af aA fs' (k.lJ d).1.forget::aj bk (k.lJ d).2::R)->K (k.lJ d).1.e w'):Wg bd.o K w:=by
 apply acJ;unfold ag.lJ at hK;obtain⟨hp,hsk⟩:=hk.hI h0 h1;intro k2 hk2;have fin:∀(sb:X)(w:Y),Ow B w0 w (aa sb [.z ((k.hI d.c.obj).bV d.call.a).1.1,.z ((k.hI d.c.obj).bV d.call.a).1.2]::aa bd (ah bk d ec wv wk fs)::af aA fs []::aj bk (k.kR d.c.obj ((k.hI d.c.obj).bV d.call.a).2.2)::R)->k2 sb.p ((k.hI d.c.obj).bV d.call.a).2.1 w:=λsb w h=>by
  apply hk2;dsimp only at hK;refine dK (λe=>?_) (λe=>?_)
  .rw[A e]at hK
   refine h.dr λw h=>?_;refine⟨_,U,_,bc (h.aE U),_,U,_,bc (h.aE U),h.aN U ⟨lU (sp:=d.c.obj) (l:=(d.call.a,((k.hI d.c.obj).bV d.call.a).1)) (ae2:=[]) qc ((h.pick (ae7:=af aA fs [])).pick (ae7:=aa bd (ah bk d ec wv wk fs))) λfs' w h=>?_,trivial⟩⟩;exact hK fs' w (Ow.sub (L:=aa bd (ah bk d ec wv wk fs')::af aA fs' [⟨d.c.obj,d.call.a,((k.hI d.c.obj).bV d.call.a).1.1,((k.hI d.c.obj).bV d.call.a).1.2⟩]::aa sb [.z ((k.hI d.c.obj).bV d.call.a).1.1,.z ((k.hI d.c.obj).bV d.call.a).1.2]::aj bk (k.kR d.c.obj ((k.hI d.c.obj).bV d.call.a).2.2)::R) h)
  .rw[Q e]at hK
   exact hK fs w h.drop
 refine h.dr λw h=>?_;obtain⟨ss,ps,aeY,h,hc2,hpn,hback⟩:=(h.pick (ae7:=aj bk k)).ow;have hq:ps[d.c.obj.toNat]?=S ps[d.c.obj.toNat]:=gE om;generalize ps[d.c.obj.toNat]=pp at hq;refine⟨_,U,_,h.aF U,_,U,ss,hc2,_,U,_,bc (h.aE U),eF (s:=ss) (i:=d.c.obj) (j:=d.c.obj.toNat) h om hq λa ha hcc=>⟨_,hcc,?_⟩⟩
 refine⟨_,U,_,bc (h.aE U),?_,?_,trivial⟩
 .have h:=(h.pick (ae7:=au Tb.bK ps k.ae)).wL hq hp
  refine Tb.pj h λw h=>?_;have h:=(h.cI hpn hq).cw;have h:Ow B w0 w (aj bk (k.kR d.c.obj ((k.hI d.c.obj).bV d.call.a).2.2)::_):=hback _ w _ h;refine⟨h.al λw' h=>⟨?_,trivial⟩,trivial⟩
  generalize w.heap.size=sb at h|-;refine h.ay U U λw h=>?_;exact fin sb w h.sub
 .refine h.al λw' h=>⟨?_,trivial⟩
  generalize w.heap.size=sb at h|-;have h:=(h.pick (ae7:=au Tb.bK ps k.ae)).wL hq hp;refine Tb.pj h λw h=>?_;have h:=(h.cI hpn hq)
  have h:Ow B w0 w (aj bk (k.kR d.c.obj ((k.hI d.c.obj).bV d.call.a).2.2)::_):=hback _ w _ (h.pick (ae7:=aeY)).cw.xm;refine⟨h.ay U U λw h=>?_,trivial⟩;exact fin sb w h.sub
theorem bj.CD(hk:bj ae6 k){n:O}{x:Ln}(hx:kq k.ln n=S x):x∈k.ln:=OV (rC hx).2
theorem pR(hk:bj ae6 k){n:O}{y:O × O}(h:(eU k.ln n).1.1=S y):0<=y.1/\y.1<(k.notes.length:O):=by
 unfold eU at h;cases hx:kq k.ln n with
 |none=>rw[hx]at h;cases h
 |some x=>
  rw[hx]at h;dsimp only at h;split at h
  .rename_i e
   cases h;exact hk.F0 x (hk.CD hx) om
  .split at h<;>cases h
theorem u4(hk:bj ae6 k){n:O}{y:O × O}(h:(iQ k.ln n).1.1=S y):0<=y.1/\y.1<(k.notes.length:O):=by
 unfold iQ at h;cases hx:kq k.ln n with
 |none=>rw[hx]at h;cases h
 |some x=>
  rw[hx]at h;dsimp only at h;split at h
  .rename_i e
   cases h;exact hk.F0 x (hk.CD hx) om
  .split at h<;>cases h
theorem bj.N2(hk:bj ae6 k){l:wR}(hl:l.length=8)(hb:∀x∈l,x.is≠0->0<=x.note/\x.note<(k.notes.length:O)):bj ae6 { k with ln:=l}:=
 hk.same (k':={ k with ln:=l}) U U U ⟨On _,On _,On _,On _,On _,On _,On _,On _⟩ hk.inv hl hb hk.u hk.zG hk.nu hk.ne hk.nn hk.ns hk.nf hk.nt hk.el hk.nl
theorem bj.DO(hk:bj ae6 k){n:O}{x:Ln}(hx:kq k.ln n=S x)(v:O)(h0:x.is≠0):bj ae6 { k with ln:=k.ln.set n.toNat { x with is:=v}}:=
 hk.N2 (by rw[Pe];exact hk.ln) λy hy hy2=>by
  rcases Px hy with hy|hy
  .exact hk.F0 y hy hy2
  .rw[hy];exact hk.F0 x (hk.CD hx) h0
theorem bj.raise(hk:bj ae6 k){n:O}:bj ae6 { k with ln:=(eU k.ln n).2}:=by
 unfold eU;cases hx:kq k.ln n with
 |none=>exact hk
 |some x=>
  dsimp only;split
  .exact hk.DO hx 2 om
  split
  .exact hk.DO hx 3 om
  .exact hk
theorem bj.Mp(hk:bj ae6 k){n:O}:bj ae6 { k with ln:=(iQ k.ln n).2}:=by
 unfold iQ;cases hx:kq k.ln n with
 |none=>exact hk
 |some x=>
  dsimp only;split
  .exact hk.DO hx 2 om
  split
  .exact hk.DO hx 1 om
  .exact hk
theorem bj.a8(hk:bj ae6 k){n g:O}(h0:0<=n)(h1:n<(k.notes.length:O)):bj (ae6+1) (k.a8 n g).2:=by
 obtain⟨hp,hpl⟩:=hk.lM h0 h1;have hs:=FG (k.lM n) g;have hN:=hk.jn (n:=n) (p:=((k.lM n).a8 g).2) om;unfold ag.a8;split
 .exact hN
 .exact hN.bQ ((hk.inv.Br _ _ _).resume _) (by rw[gI,lG];exact On _)
theorem Gb{K:O->Pw}(hk:bj ae6 k)(hN:ae6<=200000)(h:Ow B w0 w (aa bd (ah bk d ec wv (-1) fs)::aj bk k::R))
  (hK:∀w',Ow B w0 w' (aa bd (ah bk d ec wv (k.gP (iQ k.ln d.c.obj)).2.1 fs)::aj bk (k.gP (iQ k.ln d.c.obj)).2.2::R)->K (k.gP (iQ k.ln d.c.obj)).1 w'):Wi bd.o K w:=by
 apply acL;have hka:=hk.Mp (n:=d.c.obj);have hno:=λy=>u4 (y:=y) hk (n:=d.c.obj);unfold ag.gP at hK;refine h.dr λw h=>?_;obtain⟨bl,aeY,h,hc2,hback⟩:=(h.pick (ae7:=aj bk k)).CB;refine⟨_,U,_,h.aF U,_,U,_,hc2,_,U,_,bc (h.aE U),y4 h λw h=>?_,trivial⟩;have h:=hback _ w _ h;generalize iQ k.ln d.c.obj=P at h hK hka hno|-;obtain⟨⟨o,e⟩,l⟩:=P;cases o with
 |none=>exact aW U (hK w h.cw)
 |some y=>
  obtain⟨n0,n1⟩:=hno y U;refine aU U ⟨_,U,h.l1 U ?_⟩;refine nX (n:=y.1) (g:=y.2) hka hN n0 n1 h λw h=>?_;refine⟨_,U,iv (h.gh U U λw h=>?_)⟩
  (try dsimp only[bN,ah,putAt,Pj,OI,OJ]at h)
  exact hK w h.cw
theorem GW{line:O}{K:O->O->Pw}(hk:bj ae6 k)(hN:ae6<=200000)(h:Ow B w0 w (aj bk k::R))
  (hK:∀w',Ow B w0 w' (aj bk (k.irq line).2.2::R)->K (k.irq line).2.1 (k.irq line).1 w'):Vn bk.o line K w:=by
 apply aa2;have hka:=hk.raise (n:=line);have hno:=λy=>pR (y:=y) hk (n:=line);unfold ag.irq ag.gP at hK;obtain⟨bl,aeY,h,hc2,hback⟩:=h.CB;refine⟨_,U,_,hc2,vl h λw h=>?_⟩;have h:=hback _ w _ h;generalize eU k.ln line=P at h hK hka hno|-;obtain⟨⟨o,e⟩,l⟩:=P;cases o with
 |none=>exact aU U (hK w h)
 |some y=>
  obtain⟨n0,n1⟩:=hno y U;refine aW U ?_;exact nX (n:=y.1) (g:=y.2) hka hN n0 n1 h λw h=>hK w h
def kp(k:X)(o:Obj):aH where
 holds ae3 w:=ae3 k/\w.heap[k]?=S o
 loc ae3 w w' h hk:=⟨h.1,by rw[hk k h.1];exact h.2⟩
 up ae3 G' w h hk:=⟨hk k h.1,h.2⟩
theorem Ow.obj{k:X}{o:Obj}(h:Ow B w0 w (kp k o::R)):w.heap[k]?=S o:=h.head λ_ h=>h.2
theorem Ow.putObj{k:X}{o:Obj}(o':Obj)(h:Ow B w0 w (kp k o::R)):Ow B w0 (w.putObj k o') (kp k o'::R):=by
 have hk:=h.obj;have hlt:k<w.heap.size:=(OW.1 hk).1;refine h.step λae3 hA hG=>⟨⟨U,U,U,qc,λj _ hj=>?_⟩,ae3,⟨hA.1,World.putObj_heap_same hlt⟩,λj hj=>⟨.inl hj,by have:=(hG j hj).2;simpa using this⟩⟩
 exact World.putObj_heap_other λe=>hj (by rw[e];exact hA.1)
theorem Ow.newObj(o:Obj)(h:Ow B w0 w R):Ow B w0 (w.alloc o) (kp w.heap.size o::R):=
 h.new (A':=kp w.heap.size o) (G':=λk=>k=w.heap.size) (gd _ _) ⟨U,World.alloc_heap_new _ _⟩ λk e=>⟨om,by rw[e];simp⟩
theorem Fo{α:Type}{g:qB}{ps:qn Tmp}{assign body:Code}{ae5:Exit->Act->Pw}{a:Act}
  (hro:ae2.round=I) (h1:1<=n) {gf:X} {lb:qn N} (hg:a.eval g= .func (.func gf) #[] lb) (hFg:ae2.fn gf) (eg:∀args w,(callFunc gf args).run P w= .ok (.enter gf args) w)
  (encs:α->qn N) (hps:∀x,(encs x).size=ps.size) (xs:J α) (ae4:J α->aH) (Ax:Act->α->aH) (Reads:Pw)
  (h0:Ow B w0 w (ae4 []::L))
  (hreads:∀(ae1:J aH)pre ae0,Ow B w0 ae0 (ae4 pre::ae1++L)->Reads ae0)
  (hseq:∀(l:X)(aeX:J α->Pw)(aeZ:Y),
   (∀pre ae0 V',aeX pre ae0->ia No ae0 V'->aeX pre V')->(∀pre ae0,aeX pre ae0->Reads ae0)->
   (∀pre x ae0,aeX pre ae0->(pre++ [x]) <+: xs->YieldAt ae2 (n-1-1) P l (encs x) ae0 λe V'=>e= .returned (.bool V)/\aeX (pre++ [x]) V')->
   aeX [] aeZ->CallsIn ae2 (n-1) P gf (#[.func (.yield l) #[] #[]]++lb) aeZ λe W'=>(∃v,e= .returned v)/\aeX xs W')
  (hassign:∀(l:X)(ae1:J aH)(pre:J α)(x:α)(ae0:Y)(K:Act->Pw),Ow B w0 ae0 (ae4 pre::ae1++L)->(∀a' V',Ow B w0 V' (Ax a' x::ae4 pre::ae1++L)->K a' V')->
   assign.wpIn (ae2.inRound l) (n-1-1) P (Exit.then K (λ_ _ _=>qj)) { tmps:=(ps.zip (encs x)).foldl (λt(p,v)=>t.setIfInBounds p v) a.tmps,defers:=[]} ae0)
  (hbody:∀(l:X)(ae1:J aH)(pre:J α)(x:α)(a':Act)(ae0:Y),(pre++ [x]) <+: xs->Ow B w0 ae0 (Ax a' x::ae4 pre::ae1++L)->
   body.wpIn (ae2.inRound l) (n-1-1) P (λe _ V'=>e= .normal/\Ow B w0 V' (ae4 (pre++ [x])::ae1++L)) a' ae0)
  (hdone:∀(D:X)(ae0:Y),Ow B w0 ae0 (kp D (.deferred (S []))::ae4 xs::L)->ae5 .normal { a with defers:={ target:= .collected D,args:= #[]}::a.defers} ae0):
  (Code.rangeFunc g ps assign body).wpIn ae2 n P ae5 a w:=by
 refine wpIn_rangeFunc λfn hfn=>?_;rw[hro];obtain⟨rec,hrec⟩:∃rec:LoopState->Loop,rec=λst=>{ state:=st,pending:=I,fn,tmps:=a.tmps,params:=ps,assign,body,defers:=w.heap.size}:=⟨_,U⟩
 obtain⟨W1,hW1⟩:∃W1,(w.alloc (.deferred (S []))).alloc (.loop (rec .ready))=W1:=⟨_,U⟩
 have hO1:Ow B w0 W1 (kp (w.heap.size+1) (.loop (rec .ready))::kp w.heap.size (.deferred (S []))::ae4 []::L):=by have h2:=(h0.newObj (.deferred (S []))).newObj (.loop (rec .ready));rw[hW1,World.size_alloc]at h2;exact h2
 refine⟨w.heap.size+1,[{ target:= .collected w.heap.size,args:= #[]}],W1,{ target:= .fn (.func gf) lb,args:= #[.func (.yield (w.heap.size+1)) #[] #[]]},W1,gf,
  #[.func (.yield (w.heap.size+1)) #[] #[]]++lb,W1,?_,?_,?_,?_,λ_=>h1,?_⟩
 .rw[<-hW1,hrec];exact run_enterLoop_outer _ _ _ _ _
 .simp only[resolve,hg]
  simp[go_sem]
 .intro f' hf';simp[Target.leads]at hf';subst hf';exact hFg
 .simp[invoke,go_sem,eg]
 generalize w.heap.size+1=l at hO1|-;generalize w.heap.size=D at hO1 hrec|-;refine(hseq l (λpre ae0=>Ow B w0 ae0 (kp l (.loop (rec .ready))::kp D (.deferred (S []))::ae4 pre::L)) W1 ?_ ?_ ?_ hO1).mono ?_
 .exact λpre ae0 V' h hu=>h.same hu
 .exact λpre ae0 h=>hreads [kp l (.loop (rec .ready)),kp D (.deferred (S []))] pre ae0 h.lK
 .intro pre x ae0 h hpre
  have hy:=run_yield (P:=P) (args:=encs x) h.obj (by rw[hrec];exact hps x);rw[hrec]at hy;refine⟨fn,_,assign,body,hy,roundIn_of_wpIn hfn (hassign l [kp l (.loop (rec .ready)),kp D (.deferred (S []))] pre x ae0 _ h.lK λa' V' h=>?_)⟩;have h:=h.lK;have hb:=run_beginRound (P:=P) h.obj (by rw[hrec]);refine⟨_,hb,?_⟩;have h:=h.putObj (.loop { rec .ready with state:= .busy});refine wpIn_mono (hbody l [kp l (.loop { rec .ready with state:= .busy}),kp D (.deferred (S []))] pre x a' _ hpre ?_) ?_
  .have h2:=h.perm (List.Perm.swap _ _ _)
   exact h2.perm (List.Perm.cons _ (List.Perm.swap _ _ _))
  .rintro e a2 V2 ⟨rfl,h⟩
   have h:Ow B w0 V2 (kp l (.loop { rec .ready with state:= .busy})::ae4 (pre++ [x])::kp D (.deferred (S []))::L):=h.perm (List.Perm.swap _ _ _);have he:=run_endRound (P:=P) I h.obj;refine⟨_,_,he,U,?_⟩;have h:=h.putObj (.loop {({ rec .ready with state:= .busy}:Loop)with state:=if(show qg Code from I).isNone then .ready else .done,pending:=I});have e2:({({ rec .ready with state:= .busy}:Loop)with state:=if(show qg Code from I).isNone then .ready else .done,pending:=I}:Loop)=rec .ready:=by rw[hrec];rfl
   rw[e2]at h|-;exact h.perm (List.Perm.cons _ (List.Perm.swap _ _ _))
 .rintro e W2 ⟨⟨v,rfl⟩,h⟩
  have he:=run_endLoop (P:=P) h.obj (by rw[hrec];simp);rw[show(rec .ready).pending=I from by rw[hrec]]at he;exact⟨I,_,he,hdone D _ (h.putObj _).drop⟩
end
end Go.Vc
namespace Go.Vc
open Go.Proofs Go.RowKit Go.Shelf
attribute [local go_sem] Oper.semAt_some
section
variable{B:X}{w0 w:Y}{R L:J aH}{bd bk:X}{k:ag}{d:pZ}{ec wv wk:O}{fs:Sl}{ae6:X}
def back(aeV:J Slot):X->J (O × Slot)
 |0=>[]
 |t+1=>back aeV t++ [((aeV.length:O)-1-(t:O),(aeV[aeV.length-1-t]?).getD (0,0))]
theorem Ao(aeV:J Slot):∀(d t:X),back aeV t <+: back aeV (t+d)
 |0,t=>List.prefix_refl _
 |d+1,t=>(Ao aeV d t).trans (List.prefix_append _ _)
theorem Ap(aeV:J Slot):(back aeV aeV.length).map (·.2)=aeV.reverse:=by
 have h:∀t,t<=aeV.length->(back aeV t).map (·.2)=aeV.reverse.take t:=by
  intro t;induction t with
  |zero=>intro _;rfl
  |succ t ih=>
   intro ht;have hx:aeV.reverse[t]?=S aeV[aeV.length-1-t]:=by rw[List.getElem?_reverse om];exact gE om
   rw[OG,hx,<-ih om];simp only[back,OS,OZ,Qb,Option.toList_some];rw[gE om];rfl
 rw[h _ (On _),<-List.length_reverse,List.take_length]
def Lr(x:O × Slot):qn N:= #[.z x.1,.agg #[.z x.2.1,.z x.2.2]]
theorem IH(n:X)(hn:1<=n)(l box b off len cap:X)(aeV:J Slot)(hS:aeV.length=len)(hlen:len<=1000000)(aeX:J (O × Slot)->Pw)
  (hR:∀pre ae0,aeX pre ae0->ae0.cell? box.p=S (.slice (S ⟨b,off,I⟩) len cap)/\∀j x,aeV[j]?=S x->∀u v,[Value.z x.1,Value.z x.2][u]?=S v->ae0.cell? ((show qf from ⟨b,off+j*2,I⟩).add u)=S v)
  (hY:∀pre x ae0,aeX pre ae0->(pre++ [x]) <+: back aeV len->YieldAt Fence.wide (n-1) qe l (Lr x) ae0 λe V'=>e= .returned (.bool V)/\aeX (pre++ [x]) V') (aeZ:Y) (h0:aeX [] aeZ):
  CallsIn Fence.wide n qe 350 #[.func (.yield l) #[] #[],.q box] aeZ λe W'=>(∃v,e= .returned v)/\aeX (back aeV len) W':=by
 refine callsIn_of_wp func350 U trivial ?_ U;simp only[Tryz.ntmps350,Q2,OB,PY,Sn,RM,Rj,Rk,RJ,Rw,PF,P9];have hBs:=(hR [] aeZ h0).1
 gi_wp2
 gi_loopw [3] (λi wr=>∃t:X,t<=len/\i= .z ((len:O)-1-(t:O))/\aeX (back aeV t) wr)
  (λi _=>(Go.Proofs.intOf i+1).toNat)
 case atStart=>exact⟨0,Qi _,qc,h0⟩
 case round=>
  obtain⟨t,ht,rfl,hJs⟩:=hrel;obtain⟨hB2,hc2⟩:=hR _ _ hJs;by_cases hlt:t<len
  .obtain ⟨y,hx⟩:∃y,aeV[aeV.length-1-t]?=S y:=⟨_,gE om⟩
   obtain⟨j,hj⟩:∃j:X,((len:O)-1-(t:O))=(j:O)/\j=aeV.length-1-t:=⟨aeV.length-1-t,om,U⟩
   obtain⟨fn,tmps,assign,body,hy,hRn⟩:=hY _ ((len:O)-1-(t:O),(aeV[aeV.length-1-t]?).getD (0,0)) wr hJs (by have:=Ao aeV (len-(t+1)) (t+1);rw[show t+1+(len-(t+1))=len from by omega]at this;simpa [back,hS]using this);rw[hx,PM]at hy hRn;dsimp only[Lr]at hy;rw[<-hj.2]at hx;have hcx:=hc2 j _ hx;obtain rfl:j=len-1-t:=om
   have hj2:=hj.2;have hcA:wr.cell? ⟨b,off+(len-1-t)*2,I⟩=S (.z y.1):=by have:=hcx 0 _ U;simpa [Addr.add]using this
   have hcB:wr.cell? ⟨b,off+(len-1-t)*2+1,I⟩=S (.z y.2):=by have:=hcx 1 _ U;simpa [Addr.add,Ql]using this
   have hj1:=hj.1;clear hj hj2;rw[hj1]at hy|-
   gi_wp2
   refine hRn.mono ?_;rintro e W3 ⟨rfl,hJ3⟩
   gi_wp2
   go_roundw
   case rel=>exact⟨t+1,om,by simp;omega,(by have hx':aeV[len-1-t]?=S y:=hx;simpa [back,hS,hx']using hJ3)⟩
   case measure=>
    show(((len-1-t:X):O)-1+1).toNat<(((len-1-t:X):O)+1).toNat;omega
  .obtain rfl:t=len:=om
   rw[show((t:O)-1-(t:O))= -1 from by omega]
   gi_wp2
   go_end0
   exact⟨⟨_,U⟩,hJs⟩
theorem C9{P:qo}{e:Env}{w:Y}:∀(l:J X)(acc:J N)(k:J N->Prop),rP P (l.map ResultVar.tmp) e w acc k->
  ∃vs:J N,vs.length=l.length/\(∀(i t:X),l[i]?=S t->∃v,vs[i]?=S v/\e t=S v)/\k (acc.reverse++vs)
 | [],acc,k,h=>⟨[],U,λi t ht=>by simp at ht,by simpa [rP]using h⟩
 |t::l,acc,k,h=>by
  simp only[OZ,rP]at h;split at h
  .rename_i v hv
   obtain⟨vs,h1,h2,h3⟩:=C9 l (v::acc) k h;refine⟨v::vs,by simp[h1],λi u hu=>?_,by simpa using h3⟩
   match i,hu with
   |0,hu=>simp at hu;subst hu;exact⟨v,U,hv⟩
   |i+1,hu=>simp at hu;simpa using h2 i u hu
  .exact h.elim
theorem Ew{s:X}{x:Sc}{l:J (X × Sh)}{K:xp ((s,.c x)::l)}{e:Env}{w:Y}(h:jc ((s,.c x)::l) K e w):∃d:x.D,e s=S (x.mk d)/\jc l (K d) e w:=by
 simp only[jc]at h;split at h
 .rename_i v hv
  obtain⟨d,e1,h⟩:=wz h;exact⟨d,hv.trans (qw S e1),h⟩
 .exact h.elim
theorem Lm{e:Env}{w:Y}{K:qg qf->qf->O->Sl->N->Pw}(h:jc Dy K e w):
  ∃d c t s v,e 0=S (.pointer d)/\e 1=S (.pointer (S c))/\e 2=S (.z t)/\e 3=S s.v/\e 4=S v/\K d c t s v w:=by
 obtain⟨d,h0,h⟩:=Ew h;obtain⟨c,h1,h⟩:=Ew h;obtain⟨t,h2,h⟩:=Ew h;obtain⟨s,h3,h⟩:=Ew h;obtain⟨v,h4,h⟩:=Ew h;exact⟨d,c,t,s,v,h0,h1,h2,h3,h4,h⟩
theorem HI{K:qg qf->qf->O->Sl->N->Pw}(h:Ow B w0 w (aa bd (ah bk d ec wv wk fs)::af aA fs []::aj bk k::R))
  (hK:∀c0 s2 bx w',Ow B w0 w' (aa bd (ah bk d ec wv wk fs)::af aA fs []::aj bk k::aa c0 [.q bd]::af Tr.aI s2 (Tr.cq k.T d.s)::aa bx [s2.v]::R)->
   K bd.o c0.p 0 s2 (.func (.func 350) #[] #[.q bx]) w'):X6 bd.o K w:=by
 unfold X6;refine h.al λw1 h=>?_;generalize w.heap.size=c0 at h|-;obtain⟨x,h⟩:=(h.pick (ae7:=aj bk k)).xP;refine h.dr λw h=>?_;refine⟨_,h.aF U,_,U,_,h.aF U,_,U,_,h.aE U,_,h.aF U,_,U,eJ (h.aN U ⟨Tr.ur (s:=d.s) (h.pick (ae7:=Tr.bZ x.tr k.T)) λs2 w h=>?_,trivial⟩)⟩;apply aad;refine h.al λw1 h=>?_;generalize w.heap.size=bx at h|-;refine hK c0 s2 bx _ ?_;exact((show Ow B w0 w1 (aj bk k::aa bx [s2.v]::af Tr.aI s2 (Tr.cq k.T d.s)::aa c0 [.q bd]::aa bd (ah bk d ec wv wk fs)::af aA fs []::R) from Ow.cg x h.sub).sub)
theorem pA:∀(l:J Slot)(s:Slot)(k:ag),ag.cA (l++ [s]) k=((ag.cA l k).1++((ag.cA l k).2.gone s).1,((ag.cA l k).2.gone s).2)
 | [],s,k=>by simp[ag.cA]
 |a::l,s,k=>by have:=pA l s (k.gone a).2;simp only[P9,ag.cA,this,O1]
theorem HJ{K:O->Pw}{c0 bx:X}{s2:Sl}{ae2:J dP}{n:X}(hn:s2.len=n)(hn2:n<=1000000)(hu:d.c.kind=1->0<=d.c.obj/\d.c.obj<(k.u.length:O))
  (h:Ow B w0 w (aa bd (ah bk d ec wv wk fs)::af aA fs ae2::aj bk k::aa c0 [.q bd]::R))
  (hK:∀w',Ow B w0 w' (aa bd (ah bk d ec (n:O) wk fs)::af aA fs ae2::aj bk (if d.c.kind=1 then k.kP d.c.obj else k)::R)->K 0 w'):X7 bd.o c0.p 0 s2 K w:=by
 unfold X7;rw[hn,K8 om om];refine⟨_,h.aF U,_,U,iv (h.gh U U λw h=>?_)⟩;refine⟨_,h.aF U,_,U,h.l2 U (dK (λe=>?_) (λe=>?_))⟩
 .rw[A e]at hK
  obtain⟨u0,u1⟩:=hu e;have hux:k.u[d.c.obj.toNat]?=S (k.jy d.c.obj):=by unfold ag.jy;rw[gE om];rfl
  obtain⟨x,h⟩:=(h.pick (ae7:=aj bk k)).xP;refine h.dr λw h=>?_;refine⟨_,h.aF U,_,U,_,h.aF U,_,U,x.su,h.aE U,_,h.aF U,_,U,_,bc (h.aE U),h.bX (s:=x.su) (i:=d.c.obj) (j:=d.c.obj.toNat) om hux λa ha _ hcu=>?_⟩;refine⟨_,hcu 0 _ U,_,hcu 1 _ U,_,hcu 2 _ U,⟨_,h.aF U,_,U,_,h.aF U,_,U,x.su,h.aE U,_,h.aF U,_,U,_,bc (h.aE U),Ca h λw h=>?_,trivial⟩⟩;refine⟨bc (h.aE U),h.aF U,h.aE U,h.aF U,h.aF U,h.bX (s:=x.su) (i:=d.c.obj) (j:=d.c.obj.toNat) om hux λa ha _ _=>⟨?_,trivial⟩⟩
  refine h.rW (s:=x.su) (xs:=k.u) (i:=d.c.obj) (j:=d.c.obj.toNat) { k.jy d.c.obj with used:=0} om om ha λw h=>?_;refine hK w ?_;exact((show Ow B w0 w (aj bk (k.kP d.c.obj)::aa bd (ah bk d ec (n:O) wk fs)::af aA fs ae2::R) from Ow.cg x h.sub).sub)
 .rw[Q e]at hK
  exact hK w h.sub
theorem LS(t:qn N)(h:t.size=66):∃f:X->N,(∀i,f i=t.getD i undef)/\t= #[f 0,f 1,f 2,f 3,f 4,f 5,f 6,f 7,f 8,f 9,f 10,f 11,f 12,f 13,f 14,f 15,f 16,f 17,f 18,f 19,f 20,f 21,f 22,f 23,f 24,f 25,f 26,f 27,f 28,f 29,f 30,f 31,f 32,f 33,f 34,f 35,f 36,f 37,f 38,f 39,f 40,f 41,f 42,f 43,f 44,f 45,f 46,f 47,f 48,f 49,f 50,f 51,f 52,f 53,f 54,f 55,f 56,f 57,f 58,f 59,f 60,f 61,f 62,f 63,f 64,f 65]:=by
 refine⟨λi=>t.getD i undef,λ_=>rfl,?_⟩;have e:t=((OC 66).map λi=>t.getD i undef).toArray:=by
  apply Array.ext
  .simp[h]
  .intro i h1 h2
   simp[h1]
 exact e
theorem Am(n:X)(hn:1<=n)(l box:X)(aeX:J (O × Slot)->Pw)(aeZ:Y)(hB:aeZ.cell? box.p=S (.slice I 0 0))(h0:aeX [] aeZ):
  CallsIn Fence.wide n qe 350 #[.func (.yield l) #[] #[],.q box] aeZ λe W'=>(∃v,e= .returned v)/\aeX [] W':=by
 refine callsIn_of_wp func350 U trivial ?_ U;simp only[Tryz.ntmps350,Q2,OB,PY,Sn,RM,Rj,Rk,RJ,Rw,PF,P9]
 gi_wp2
 gi_loopw [3] (λi wr=>i= .z (-1)/\aeX [] wr) (λ_ _=>0)
 case atStart=>exact⟨U,h0⟩
 case round=>
  obtain⟨rfl,hJs⟩:=hrel
  gi_wp2
  go_end0
  exact⟨⟨_,U⟩,hJs⟩
def vT(bd bk c0 bx:X)(d:pZ)(ec wv wk:O)(k:ag)(s2:Sl)(xs:J Slot)(pre:J (O × Slot)):aH:=
 pa λfs:Sl=>bo [aa bd (ah bk d ec wv wk fs),af aA fs (ag.cA (pre.map (·.2)) k).1,aj bk (ag.cA (pre.map (·.2)) k).2,aa c0 [.q bd],af Tr.aI s2 xs,aa bx [s2.v]]
def KU(s2:Sl)(xs:J Slot)(bx:X)(ae0:Y):Prop:=ae0.cell? bx.p=S s2.v/\lf 2 ae0 s2 (xs.flatMap Tr.aI.enc)
theorem rQ{c0 bx:X}{s2:Sl}{xs:J Slot}{pre:J (O × Slot)}(h:Ow B w0 w (vT bd bk c0 bx d ec wv wk k s2 xs pre::R)):
  ∃fs:Sl,Ow B w0 w (aa bd (ah bk d ec wv wk fs)::af aA fs (ag.cA (pre.map (·.2)) k).1::aj bk (ag.cA (pre.map (·.2)) k).2::aa c0 [.q bd]::af Tr.aI s2 xs::aa bx [s2.v]::R):=by
 obtain⟨fs,h⟩:=Ow.ex h;exact⟨fs,h.star⟩
theorem D1{c0 bx:X}{s2:Sl}{xs:J Slot}{pre:J (O × Slot)}(fs:Sl)
  (h:Ow B w0 w (aa bd (ah bk d ec wv wk fs)::af aA fs (ag.cA (pre.map (·.2)) k).1::aj bk (ag.cA (pre.map (·.2)) k).2::aa c0 [.q bd]::af Tr.aI s2 xs::aa bx [s2.v]::R)):
  Ow B w0 w (vT bd bk c0 bx d ec wv wk k s2 xs pre::R):=Ow.eP fs (Ow.br h)
theorem Fu{c0 bx:X}{s2:Sl}{xs:J Slot}{pre:J (O × Slot)}(h:Ow B w0 w (vT bd bk c0 bx d ec wv wk k s2 xs pre::R)):KU s2 xs bx w:=by obtain⟨fs,h⟩:=rQ h;exact⟨h.aF U,h.wN 4 U⟩
theorem Jt{s2:Sl}{xs:J Slot}{bx:X}(hl:s2.len=xs.length)(hx:xs.length<=1000000)(l:X)(aeX:J (O × Slot)->Pw)(aeZ:Y)
  (hJR:∀pre ae0,aeX pre ae0->KU s2 xs bx ae0)
  (hY:∀pre x ae0,aeX pre ae0->(pre++ [x]) <+: back xs xs.length->YieldAt Fence.wide 2 qe l (Lr x) ae0 λe V'=>e= .returned (.bool V)/\aeX (pre++ [x]) V') (h0:aeX [] aeZ):
  CallsIn Fence.wide 3 qe 350 (#[.func (.yield l) #[] #[]]++ #[.q bx]) aeZ λe W'=>(∃v,e= .returned v)/\aeX (back xs xs.length) W':=by
 obtain⟨h1,h2⟩:=hJR _ _ h0;have h1:aeZ.cell? bx.p=S (.slice s2.a s2.len s2.cap):=h1;rw[hl]at h1;cases h2 with
 |nil ha hl' hc hcs=>
  have hx0:xs= []:=P1 om;subst hx0;rw[ha,hc]at h1;exact Am 3 qb l bx aeX aeZ h1 h0
 |mk b o l' ha hb hl' hc hcs=>
  refine IH 3 qb l bx b o xs.length s2.cap xs U hx aeX (λpre ae0 hJ=>?_) hY aeZ h0;obtain⟨r1,r2⟩:=hJR _ _ hJ;have r1:ae0.cell? bx.p=S (.slice s2.a s2.len s2.cap):=r1;rw[hl,ha]at r1;refine⟨r1,λj x hj u v hv=>?_⟩;obtain⟨b',o',ha',hc'⟩:=lf.get (E:=Tr.aI) r2 hj;rw[ha]at ha';cases ha';have:=hc' u v hv;rw[aO,Ql];exact this
theorem HK{c0 bx:X}{s2:Sl}{xs:J Slot}{t:qn N}{ae5:Exit->Act->Pw}(hk:bj ae6 k)(hN:ae6<=200000)(hnd:xs.Nodup)(hheld:∀s∈xs,(k.H s).isSome=V)(hlen:xs.length<=1000000)
  (ht:t.size=66) (h1:t.getD 1 undef= .q c0) (h19:t.getD 19 undef= .func (.func 350) #[] #[.q bx])
  (h:Ow B w0 w (vT bd bk c0 bx d ec wv wk k s2 xs []::R))
  (hQ:∀(D:X)(ae0:Y),Ow B w0 ae0 (kp D (.deferred (S []))::vT bd bk c0 bx d ec wv wk k s2 xs (back xs xs.length)::R)->ae5 .normal { tmps:=t,defers:=[{ target:= .collected D,args:= #[]}]} ae0):
  Gs.wpIn Fence.wide 4 qe ae5 { tmps:=t,defers:=[]} w:=by
 obtain⟨f,hf,he⟩:=LS t ht;rw[<-hf]at h1 h19;have hl:s2.len=xs.length:=by obtain⟨fs,h⟩:=rQ h;exact(h.aL s2)
 show(Code.block 0 (.rangeFunc _ _ _ _)).wpIn Fence.wide 4 qe ae5 { tmps:=t,defers:=[]} w;refine wpIn_block ?_;refine Fo (n:=4) (α:=O × Slot) U qb (gf:=350) (lb:= #[.q bx]) ?_ trivial (enters_of func350 qa U) Lr (λ_=>rfl) (back xs xs.length)
  (vT bd bk c0 bx d ec wv wk k s2 xs) (λa' x=>pa λp:X=>bo [dJ (a'={ tmps:=((t.setIfInBounds 20 (.z x.1)).setIfInBounds 21 (.agg #[.z x.2.1,.z x.2.2])).setIfInBounds 5 (.q p),defers:=[]}),aa p [.z x.2.1,.z x.2.2]])
  (KU s2 xs bx) h (λae1 pre ae0 h=>Fu h) (λl aeX aeZ _ hJR hY h0=>Jt hl hlen l aeX aeZ hJR hY h0) ?_ ?_ hQ
 .show t.getD 19 undef=_
  rw[<-hf];exact h19
 .intro l ae1 pre x ae0 K hO hK
  have hK:=λw' h=>hK { tmps:=((t.setIfInBounds 20 (.z x.1)).setIfInBounds 21 (.agg #[.z x.2.1,.z x.2.2])).setIfInBounds 5 (.q ae0.heap.size),defers:=[]} w' (Ow.eP ae0.heap.size (Ow.br (Ow.cZ U h)));have hO:=hO.al (t:=155) (l:=[.z x.2.1,.z x.2.2]) (k:=λw'=>Ow B w0 w' (aa ae0.heap.size [.z x.2.1,.z x.2.2]::vT bd bk c0 bx d ec wv wk k s2 xs pre::ae1++R)) (λw' h=>h);have hK:=hK _ hO;clear hO hf;obtain⟨x1,x2,x3⟩:=x;dsimp only at hK|-;subst he;dsimp only[Lr]
  gi_wp2
  simpa [h1,h19]using hK
 .intro l ae1 pre x a' ae0 hpre hO
  obtain⟨p,hO⟩:=Ow.ex (hO:Ow B w0 ae0 (pa _::(vT bd bk c0 bx d ec wv wk k s2 xs pre::ae1++R)));have hO:=hO.star;obtain⟨ea,hO1⟩:=Ow.pure (hO:Ow B w0 ae0 (dJ _::(aa p [.z x.2.1,.z x.2.2]::vT bd bk c0 bx d ec wv wk k s2 xs pre::ae1++R)));clear hO;have hO1:=hO1.perm (List.Perm.swap _ _ _);obtain⟨fs,hO⟩:=rQ hO1;have hx2:(pre.map (·.2)++ [x.2]) <+: xs.reverse:=by have:=hpre.map (·.2);rw[Ap]at this;simpa using this
  have hnd2:(pre.map (·.2)++ [x.2]).Nodup:=(hx2.sublist).nodup (Rg.2 (hnd.imp Ne.symm));have hall:∀s∈pre.map (·.2)++ [x.2],(k.H s).isSome=true:=λs hs=>hheld s (Rm.1 (hx2.subset hs));obtain⟨g1,g2⟩:=ry (pre.map (·.2)) k hk (PZ.1 hnd2).1 (λs hs=>hall s (Qw _ hs));have g3:=rz (pre.map (·.2)) k;have g4:=vE k.ae hk.zG;have g5:=hk.ns;have hg:TO bd.o x.2.1 x.2.2 (λw'=>Ow B w0 w' (vT bd bk c0 bx d ec wv wk k s2 xs (pre++ [x])::ae1++R)) ae0:=by
   refine xL (ae2:=(ag.cA (pre.map (·.2)) k).1) (k:=(ag.cA (pre.map (·.2)) k).2) (s:=x.2) g1 hN ?_ om hO λfs' w' h=>?_
   .rw[g2,Q]
    .exact hall _ (QJ _ Po)
    .intro hm
     have:=(PZ.1 hnd2).2.2 _ hm _ Po;exact this U
   .refine D1 fs' ?_
    rw[OS,OZ,Qb,pA];exact h.sub
  dsimp only[TO]at hg;have hg:=zj hg;have hg:=(callsIn_wide (n:=1)).2 hg;have c1:ae0.cell? c0.p=S (.q bd):=hO.aF U;have c2:ae0.cell? p.p=S (.z x.2.1):=hO.aF U;have c3:ae0.cell? ⟨p,1,I⟩=S (.z x.2.2):=hO.aF U;clear hO hO1 hall hnd2 hx2 hQ h g1 g2 g3 g4 g5 hpre hheld hnd hl;obtain⟨x1,x2,x3⟩:=x;dsimp only at ea hg c2 c3|-;subst ea;subst he;clear hf;have hg:=hg.inRound l
  gi_wp2
  refine⟨trivial,hg.mono ?_⟩;rintro e w' ⟨rfl,hw⟩
  gi_wp2
  exact hw
theorem wA{s x:Slot}(hx:x∈Tr.cq k.T s):x∈k.T.map (·.1):=by
 unfold Tr.cq at hx;split at hx
 .simp at hx
 .obtain ⟨y,hy,rfl⟩:=O4.1 hx
  exact O4.2 ⟨y,List.mem_of_mem_drop (List.mem_of_mem_take hy),U⟩
theorem wB{s:Slot}(h:Tr.ph k.T):(Tr.cq k.T s).Nodup:=by
 unfold Tr.cq;split
 .exact List.nodup_nil
 .exact ((List.take_sublist _ _).trans (List.drop_sublist _ _) |>.map (λx:Tr.fc=>x.1)).nodup h.nd
theorem yu{s:Slot}(hk:bj ae6 k):(Tr.cq k.T s).length<=64:=by
 have:=hk.fh;unfold Tr.cq;split
 .simp
 .simp;omega
theorem yY:∀(l:J Slot)(k:ag),bj ae6 k->l.Nodup->(∀s∈l,(k.H s).isSome=V)->(ag.cA l k).2.u=k.u
 | [],k,_,_,_=>rfl
 |a::l,k,h,hn,hs=>by
  obtain⟨h1,h2,h3⟩:=h.gone (hs a Po);rw[Pu]at hn;have hl:∀s∈l,((k.gone a).2.H s).isSome=true:=λs hm=>by rw[h2];unfold Sl.cz;rw[Q (λe:s=a=>hn.1 (e▸hm))];exact hs s (Pq _ hm)
  have h4:(ag.cA (a::l) k).2.u=(k.gone a).2.u:=yY l _ h1 hn.2 hl;rw[h4];unfold ag.gone;split
  .rfl
  .unfold ag.last
   split
   .rfl
   split
   .rfl
   split
   .rfl
   .rfl
theorem Bu{K:O->Pw}(hk:bj ae6 k)(hN:ae6<=200000)(ho:k.fF d.c)(h:Ow B w0 w (aa bd (ah bk d ec wv wk fs)::af aA fs []::aj bk k::R))
  (hK:∀fs' w',Ow B w0 w' (aa bd (ah bk d ec ((Tr.cq k.T d.s).length:O) wk fs')::af aA fs' (ag.cA (Tr.cq k.T d.s).reverse k).1::aj bk (k.jm d).2::R)->K 0 w'):V6 bd.o K w:=by
 have hlen:=yu (s:=d.s) hk;have hnd:=wB (s:=d.s) hk.tok;have hheld:∀s∈Tr.cq k.T d.s,(k.H s).isSome=true:=λs hs=>(hk.mem s).1 (wA hs);unfold V6;refine nI func154 U ((callsIn_wide (n:=4)).1 ?_);refine callsIn_of_wp_marks (c:= .seq (cL np) (.seq (cL (cR np)) (.seq (.seq (cL (cL (cR (cR np)))) Gs) xC))) func154 qa trivial ?_ U;have hA:=HI (fs:=fs) h (K:=λd1 c t s v w'=>∃c0 bx,d1=S bd.p/\c=⟨c0,0,I⟩/\t=0/\v= .func (.func 350) #[] #[.q bx]/\
  Ow B w0 w' (aa bd (ah bk d ec wv wk fs)::af aA fs []::aj bk k::aa c0 [.q bd]::af Tr.aI s (Tr.cq k.T d.s)::aa bx [s.v]::R)) (λc0 s2 bx w' h=>⟨c0,bx,U,U,U,U,h⟩)
 rw[<-acZ]at hA;unfold ag.jm at hK;dsimp only at hK;generalize Tr.cq k.T d.s=xs at hA hK hlen hnd hheld;refine wpIn_seq (wpIn_wide.2 (wp_mono (og (ds:=[]) (n:=66) nH jR (cL np) ux.a _ (λ_ _ _=>qj) (λ_ _=>qj) (nth [.q bd]) _ w qa ?_ hA) ?_))
 .refine ⟨by simp[Tryz.ntmps154],rfl,λt v ht=>?_⟩
  rw[dz]at ht
  match t,ht with
  |0,ht=>simp at ht;subst ht;simp
  |t+1,ht=>simp at ht
 intro en a1 w1 hq;cases en with
 |exit i=>obtain⟨_,_,_,h⟩:=hq;exact h.elim
 |ret=>obtain⟨_,_,_,h⟩:=hq;exact h.elim
 |goto l=>exact hq.elim
 |panic ch=>exact hq.elim
 |outgrown=>exact hq.elim
 |normal=>
 obtain⟨_,e1,hr1,h1⟩:=hq;refine wpIn_seq (wpIn_wide.2 (wp_mono (og (ds:=[]) (n:=66) nH jR (cL (cR np)) ux.b.a _ (λ_ _ _=>qj) (λ_ _=>qj) e1 _ w1 qa hr1 h1) ?_));intro en a2 w2 hq;cases en with
 |exit i=>obtain⟨_,_,_,h⟩:=hq;exact h.elim
 |ret=>obtain⟨_,_,_,h⟩:=hq;exact h.elim
 |goto l=>exact hq.elim
 |panic ch=>exact hq.elim
 |outgrown=>exact hq.elim
 |normal=>
 obtain⟨_,e2,hr2,h2⟩:=hq;refine wpIn_seq (wpIn_seq (wpIn_wide.2 (wp_mono (og (ds:=[]) (n:=66) nH jR (cL (cL (cR (cR np)))) ux.b.b _ (λ_ _ _=>qj) (λ_ _=>qj) e2 _ w2 qa hr2 h2) ?_)));intro en a3 w3 hq;cases en with
 |exit i=>obtain⟨_,_,_,h⟩:=hq;exact h.elim
 |ret=>obtain⟨_,_,_,h⟩:=hq;exact h.elim
 |goto l=>exact hq.elim
 |panic ch=>exact hq.elim
 |outgrown=>exact hq.elim
 |normal=>
 obtain⟨_,e3,⟨hs3,hd3,hr3⟩,h3⟩:=hq;obtain⟨vs,hv1,hv2,h3⟩:=C9 [0,1,2,3,19] [] _ h3;obtain⟨d0,c,t,s,v,v0,v1,v2,v3,v4,c0,bx,rfl,rfl,rfl,rfl,h3⟩:=Lm h3;have key:∀(i t:X)(v:N),[0,1,2,3,19][i]?=S t->nth ([].reverse++vs) i=S v->a3.tmps.getD t undef=v:=λi t v hi hv=>by obtain⟨v',h1,h2⟩:=hv2 i t hi;rw[dz]at hv;simp only[RP,PF]at hv;rw[h1]at hv;cases hv;exact hr3 t v h2
 have k0:=key 0 0 _ U v0;have k1:=key 1 1 _ U v1;have k2:=key 2 2 _ U v2;have k3:=key 3 3 _ U v3;have k4:=key 4 19 _ U v4;have hsl:s.len=xs.length:=h3.aL s;obtain⟨t3,d3⟩:=a3;dsimp only at hs3 hd3 k0 k1 k2 k3 k4;subst hd3;have hO:Ow B w0 w3 (vT bd bk c0 bx d ec wv wk k s xs []::R):=D1 fs h3;show Gs.wpIn Fence.wide 4 qe _ { tmps:=t3,defers:=[]} w3;refine HK hk hN hnd hheld om hs3 k1 k4 hO λD ae0 hO=>?_;obtain⟨fs',hO⟩:=rQ (hO.perm (List.Perm.swap _ _ _));rw[Ap]at hO;show xC.wpIn Fence.wide 4 qe _ { tmps:=t3,defers:=[{ target:= .collected D,args:= #[]}]} ae0;have hnd2:xs.reverse.Nodup:=Rg.2 (hnd.imp Ne.symm);have hu2:=yY xs.reverse k hk hnd2 (λs hs=>hheld s (Rm.1 hs));have hZ:=HJ (K:=λr w'=>r=0/\Ow B w0 w' (kp D (.deferred (S []))::aa bd (ah bk d ec (xs.length:O) wk fs')::af aA fs' (ag.cA xs.reverse k).1::aj bk (if d.c.kind=1 then(ag.cA xs.reverse k).2.kP d.c.obj else(ag.cA xs.reverse k).2)::R)) (bx:=bx) hsl om (λe=>by rw[hu2];exact⟨ho.1,ho.2.1 e⟩) (hO.sub:Ow B w0 ae0 (aa bd (ah bk d ec wv wk fs')::af aA fs' (ag.cA xs.reverse k).1::aj bk (ag.cA xs.reverse k).2::aa c0 [.q bd]::kp D (.deferred (S []))::R)) λw' h=>⟨U,h.sub⟩
 rw[<-ac0]at hZ;refine wpIn_wide.2 (wp_mono (og (ds:=[{ target:= .collected D,args:= #[]}]) (n:=66) nH jR xC Dz _ (λ_ _ _=>qj) _ (nth [.q bd,.q c0,.z 0,s.v]) _ ae0 qa ?_ hZ) ?_)
 .refine ⟨hs3,U,λt v ht=>?_⟩
  rw[dz]at ht
  match t,ht with
  |0,ht=>simp at ht;subst ht;exact k0
  |1,ht=>simp at ht;subst ht;exact k1
  |2,ht=>simp at ht;subst ht;exact k2
  |3,ht=>simp at ht;subst ht;exact k3
  |t+4,ht=>simp at ht
 have fin:∀(a:Act)(w':Y),At [{ target:= .collected D,args:= #[]}] 66 (dm xC) { tmps:=t3,defers:=[{ target:= .collected D,args:= #[]}]} (λe w'=>rP qe Gt.results.toList e w' [] λvs=>jc DA (λr w'=>r=0/\Ow B w0 w' (kp D (.deferred (S []))::aa bd (ah bk d ec (xs.length:O) wk fs')::af aA fs' (ag.cA xs.reverse k).1::aj bk (if d.c.kind=1 then(ag.cA xs.reverse k).2.kP d.c.obj else(ag.cA xs.reverse k).2)::R)) (nth vs) w') a w'->
   LeavesInM Fence.wide 4 qe aeb a.tmps (λen w'=>∃r2:O,en= .returned (.z r2)/\K r2 w') a.defers .returning w':=by
  rintro⟨t4,d4⟩ w' ⟨_,e,⟨hs,hd,hr⟩,hN⟩;obtain⟨vs,hv1,hv2,hN⟩:=C9 [2] [] _ hN;obtain⟨r,hr0,rfl,hO⟩:=Ew hN;obtain⟨v',e1,e2⟩:=hv2 0 2 U;rw[dz]at hr0;simp only[RP,PF]at hr0;rw[e1]at hr0;cases hr0;have hr2:=hr 2 _ e2;dsimp only at hd hr2|-;subst hd;refine⟨qc,.inl ⟨D,_,U,run_takeDeferred hO.obj,?_⟩⟩;have hO:=(hO.putObj (.deferred I)).drop;refine⟨_,results_tmp U _ _ _,0,?_,hK fs' _ ?_⟩
  .rw[hr2]
  .exact hO
 intro en a4 w4 hq;cases en with
 |normal=>exact fin a4 w4 hq
 |ret=>exact fin a4 w4 hq
 |exit i=>obtain⟨_,_,_,h⟩:=hq;exact h.elim
 |goto l=>exact hq.elim
 |panic ch=>exact hq.elim
 |outgrown=>exact hq.elim
end
end Go.Vc
namespace Go.Vc
open Go.Proofs
section
variable{B:X}{w0 w:Y}{R L:J aH}{bd bk:X}{k:ag}{d:pZ}{ec wv wk:O}{fs:Sl}{ae6:X}
def J9:J N:=[.z (1:O),.z (0:O),.z (0:O),.z (0:O),.z (0:O),.z (0:O),.z (0:O),.z (0:O),.z (0:O),.z (0:O),.z (3:O),.z (0:O),.z (3:O),.z (0:O),.z (3:O),.z (0:O),.z (4:O),.z (2:O),.z (4:O),.z (1:O),.z (5:O),.z (2:O),.z (5:O),.z (1:O),.z (7:O),.z (0:O),.z (6:O),.z (0:O),.z (8:O),.z (0:O),.z (9:O),.z (0:O),.z (9:O),.z (0:O),.z (0:O),.z (0:O)]
theorem Jh:∀n:X,n<18->(J9.drop (n*2)).take 2= [.z (ag.aG (n:O)).1,.z (ag.aG (n:O)).2]
 |0,_=>rfl|1,_=>rfl|2,_=>rfl|3,_=>rfl|4,_=>rfl|5,_=>rfl|6,_=>rfl|7,_=>rfl|8,_=>rfl
 |9,_=>rfl|10,_=>rfl|11,_=>rfl|12,_=>rfl|13,_=>rfl|14,_=>rfl|15,_=>rfl|16,_=>rfl|17,_=>rfl
 |n+18,h=>qi h om
theorem CJ{ask:O}{K:O->O->Pw}(h0:0<=ask)(h1:ask<18)(h:Ow B w0 w R)(hK:∀w',Ow B w0 w' R->K (ag.aG ask).1 (ag.aG ask).2 w'):V0 ask K w:=by
 apply abc;obtain⟨n,rfl⟩:=Ox h0;refine h.a λc0 w1 h=>?_;refine h.a λc1 w2 h=>?_;refine h.ay U U λw h=>?_;have h:Ow B w0 w (aa c1 J9::aa c0 [.z 0,.z 0]::R):=h;refine⟨h0,h1,eJ (h.aN (o:=0+(show O from n).toNat*2) (c0:= .i .i64) (c1:= .i .i64) (x0:=(ag.aG (n:O)).1) (x1:=(ag.aG (n:O)).2) ?_ ?_)⟩
 .rw[OJ]
  exact Jh n om
 refine h.ay U U λw h=>?_;refine h.aN U ?_;exact hK w h.sub
def Ki:J (O × X):=[(0,150),(1,151),(2,152),(3,153),(4,154),(5,155),(6,156),(7,157),
 (8,158),(9,159),(10,160),(11,161),(12,162),(13,163),(14,164),(15,165),(16,166)]
def dj(bd:X)(f:X):N:= .func (.func f) #[.q bd] #[]
theorem Ck{K:O->Pw}{m:X}(hk:bj ae6 k)(hN:ae6+64<=100000)(hcore:k.t.fS d.core=V)(hH:k.H d.s=S d.c)(hr:Sl.fI d.c)(ho:k.fF d.c)(ha0:0<=d.call.ask)(ha1:d.call.ask<17)
  (hkind:(ag.aG d.call.ask).1≠0->d.c.kind=(ag.aG d.call.ask).1) (hw0: -9223372036854775808<=d.call.ar) (hw1:d.call.ar<9223372036854775808)
  (h:Ow B w0 w (mU (Value.int .i64) (dj bd) m Ki::aa bd (ah bk d 0 0 (-1) z0)::af aA z0 []::aj bk k::R))
  (hK:∀fs' w',Ow B w0 w' (aa bd (ah bk d 0 (k.asks d).1.w (k.asks d).1.cN fs')::af aA fs' (k.asks d).1.forget::aj bk (k.asks d).2::R)->K (k.asks d).1.e w'):
  ∃t50:N,z7 qe 287 (.map (S m)) (.z d.call.ask) t50 w/\cT qe t50 [] w λen w'=>∃r:O,en= .returned (.z r)/\K r w':=by
 have hN2:ae6<=200000:=om
 have hsome:(k.H d.s).isSome=true:=by rw[hH];rfl
 have hlook:∀f,dO Ki d.call.ask=S f->z7 qe 287 (.map (S m)) (.z d.call.ask) (dj bd f) w:=λf hf=>
  (h.tI (enc:=Value.int .i64) (encV:=dj bd) qF (bf .i64 qy) 0 U hf).2
 have hask:d.call.ask=0\/d.call.ask=1\/d.call.ask=2\/d.call.ask=3\/d.call.ask=4\/d.call.ask=5\/d.call.ask=6\/d.call.ask=7\/d.call.ask=8\/d.call.ask=9\/d.call.ask=10\/d.call.ask=11\/d.call.ask=12\/d.call.ask=13\/d.call.ask=14\/d.call.ask=15\/d.call.ask=16:=om
 rcases hask with e|e|e|e|e|e|e|e|e|e|e|e|e|e|e|e|e
 .refine ⟨dj bd 150,hlook _ (by rw[e];rfl),aT ?_⟩
  show V1 bd.o K w;have hkd:(ag.aG 0).1≠0->d.c.kind=(ag.aG 0).1:=by rw[e]at hkind;exact hkind
  have hkd:=hkd qb;have ea:k.asks d=ag.tell (k.eG d).1 (k.eG d).2:=by unfold ag.asks;rw[e];rfl
  rw[ea]at hK
  try dsimp only[ag.tell,ag.dR]at hK
  exact Bt hk hN hsome (hkd) ho hcore hw0 hw1 (h.sub:Ow B w0 w (aa bd (ah bk d 0 0 (-1) z0)::aj bk k::af aA z0 []::R)) λw' h=>hK z0 w' h.sub
 .refine ⟨dj bd 151,hlook _ (by rw[e];rfl),aT ?_⟩
  show V3 bd.o K w;have hkd:(ag.aG 1).1≠0->d.c.kind=(ag.aG 1).1:=by rw[e]at hkind;exact hkind
  have ea:k.asks d=ag.tell (k.mK d).1 (k.mK d).2:=by unfold ag.asks;rw[e];rfl
  rw[ea]at hK
  try dsimp only[ag.tell,ag.dR]at hK
  exact E3 hk hr hw0 hw1 (h.sub:Ow B w0 w (aa bd (ah bk d 0 0 (-1) z0)::aj bk k::af aA z0 []::R)) λw' h=>hK z0 w' h.sub
 .refine ⟨dj bd 152,hlook _ (by rw[e];rfl),aT ?_⟩
  show V4 bd.o K w;have hkd:(ag.aG 2).1≠0->d.c.kind=(ag.aG 2).1:=by rw[e]at hkind;exact hkind
  have ea:k.asks d=ag.tell (k.move d).1 (k.move d).2:=by unfold ag.asks;rw[e];rfl
  rw[ea]at hK
  try dsimp only[ag.tell,ag.dR]at hK
  exact E5 hk hw0 hw1 (h.sub:Ow B w0 w (aa bd (ah bk d 0 0 (-1) z0)::aj bk k::af aA z0 []::R)) λw' h=>hK z0 w' h.sub
 .refine ⟨dj bd 153,hlook _ (by rw[e];rfl),aT ?_⟩
  show V5 bd.o K w;have hkd:(ag.aG 3).1≠0->d.c.kind=(ag.aG 3).1:=by rw[e]at hkind;exact hkind
  have ea:k.asks d=if d.call.at_=0 then ag.tell 181 k else(⟨0,0,-1,(k.gone d.s).1⟩,(k.gone d.s).2):=by unfold ag.asks;rw[e];rfl
  rw[ea]at hK
  try dsimp only[ag.tell,ag.dR]at hK
  refine AA hk hN2 hsome (h.sub:Ow B w0 w (aa bd (ah bk d 0 0 (-1) z0)::af aA z0 []::aj bk k::R)) (λe0 w' h=>?_) (λe0 fs' w' h=>?_)
  .rw[A e0]at hK;exact hK z0 w' h.sub
  .rw[Q e0]at hK;exact hK fs' w' h.sub
 .refine ⟨dj bd 154,hlook _ (by rw[e];rfl),aT ?_⟩
  show V6 bd.o K w;have hkd:(ag.aG 4).1≠0->d.c.kind=(ag.aG 4).1:=by rw[e]at hkind;exact hkind
  have ea:k.asks d=k.jm d:=by unfold ag.asks;rw[e];rfl
  rw[ea]at hK
  try dsimp only[ag.tell,ag.dR]at hK
  exact Bu hk hN2 ho (h.sub:Ow B w0 w (aa bd (ah bk d 0 0 (-1) z0)::af aA z0 []::aj bk k::R)) λfs' w' h=>hK fs' w' h
 .refine ⟨dj bd 155,hlook _ (by rw[e];rfl),aT ?_⟩
  show V7 bd.o K w;have hkd:(ag.aG 5).1≠0->d.c.kind=(ag.aG 5).1:=by rw[e]at hkind;exact hkind
  have hkd:=hkd qb;have ea:k.asks d=ag.dR (k.resume d):=by unfold ag.asks;rw[e];rfl
  rw[ea]at hK
  try dsimp only[ag.tell,ag.dR]at hK
  exact Bs hk hN2 (h.sub:Ow B w0 w (aa bd (ah bk d 0 0 (-1) z0)::aj bk k::af aA z0 []::R)) λw' h=>hK z0 w' h.sub
 .refine ⟨dj bd 156,hlook _ (by rw[e];rfl),aT ?_⟩
  show V8 bd.o K w;have hkd:(ag.aG 6).1≠0->d.c.kind=(ag.aG 6).1:=by rw[e]at hkind;exact hkind
  have hkd:=hkd qb;have ea:k.asks d=ag.tell (k.t.bM d.c.obj).1 ((k.dL d.c.obj).bQ (k.t.bM d.c.obj).2):=by unfold ag.asks;rw[e];rfl
  rw[ea]at hK
  try dsimp only[ag.tell,ag.dR]at hK
  exact zI hk hN2 (h.sub:Ow B w0 w (aa bd (ah bk d 0 0 (-1) z0)::aj bk k::af aA z0 []::R)) λw' h=>hK z0 w' h.sub
 .refine ⟨dj bd 157,hlook _ (by rw[e];rfl),aT ?_⟩
  show V9 bd.o K w;have hkd:(ag.aG 7).1≠0->d.c.kind=(ag.aG 7).1:=by rw[e]at hkind;exact hkind
  have hkd:=hkd qb;have ea:k.asks d=ag.tell (k.t.gn d.c.obj d.call.a).1 (k.bQ (k.t.gn d.c.obj d.call.a).2):=by unfold ag.asks;rw[e];rfl
  rw[ea]at hK
  try dsimp only[ag.tell,ag.dR]at hK
  exact Fc hk.inv.ok (show Ow B w0 w (aa bd (ah bk d 0 0 (-1) z0)::aj bk k::af aA z0 []::R)from h.sub) λw' h=>hK z0 w' h.sub
 .refine ⟨dj bd 158,hlook _ (by rw[e];rfl),aT ?_⟩
  show Wa bd.o K w;have hkd:(ag.aG 8).1≠0->d.c.kind=(ag.aG 8).1:=by rw[e]at hkind;exact hkind
  have hkd:=hkd qb;have ea:k.asks d=k.send d:=by unfold ag.asks;rw[e];rfl
  rw[ea]at hK
  try dsimp only[ag.tell,ag.dR]at hK
  have t1:(k.send d).1.w=0/\(k.send d).1.forget= []:=by
   unfold ag.send ag.tell ag.dR;split
   .exact ⟨U,U⟩
   split
   .exact ⟨U,U⟩
   .exact ⟨U,U⟩
  rw[t1.1,t1.2]at hK;exact FB hk hN2 ho.1 (ho.2.2.2.2.1 (hkd)) (h.sub:Ow B w0 w (aa bd (ah bk d 0 0 (-1) z0)::aj bk k::af aA z0 []::R)) λw' h=>hK z0 w' h.sub
 .refine ⟨dj bd 159,hlook _ (by rw[e];rfl),aT ?_⟩
  show Wb bd.o K w;have hkd:(ag.aG 9).1≠0->d.c.kind=(ag.aG 9).1:=by rw[e]at hkind;exact hkind
  have hkd:=hkd qb;have ea:k.asks d=k.recv d:=by unfold ag.asks;rw[e];rfl
  rw[ea]at hK
  try dsimp only[ag.tell,ag.dR]at hK
  have t1:(k.recv d).1.w=0/\(k.recv d).1.forget= []:=by
   unfold ag.recv ag.tell ag.dR;split
   .exact ⟨U,U⟩
   split
   .exact ⟨U,U⟩
   .exact ⟨U,U⟩
  rw[t1.1,t1.2]at hK;exact Fq hk hN2 ho.1 (ho.2.2.2.2.1 (hkd)) (h.sub:Ow B w0 w (aa bd (ah bk d 0 0 (-1) z0)::aj bk k::af aA z0 []::R)) λw' h=>hK z0 w' h.sub
 .refine ⟨dj bd 160,hlook _ (by rw[e];rfl),aT ?_⟩
  show Wc bd.o K w;have hkd:(ag.aG 10).1≠0->d.c.kind=(ag.aG 10).1:=by rw[e]at hkind;exact hkind
  have hkd:=hkd qb;have ea:k.asks d=(⟨0,0,(k.a8 d.c.obj d.c.ax).1,[]⟩,(k.a8 d.c.obj d.c.ax).2):=by unfold ag.asks;rw[e];rfl
  rw[ea]at hK
  try dsimp only[ag.tell,ag.dR]at hK
  exact wa hk hN2 ho.1 (ho.2.2.2.2.2.1 (hkd)) (h.sub:Ow B w0 w (aa bd (ah bk d 0 0 (-1) z0)::aj bk k::af aA z0 []::R)) λw' h=>hK z0 w' h.sub
 .refine ⟨dj bd 161,hlook _ (by rw[e];rfl),aT ?_⟩
  show Wd bd.o K w;have hkd:(ag.aG 11).1≠0->d.c.kind=(ag.aG 11).1:=by rw[e]at hkind;exact hkind
  have hkd:=hkd qb;have ea:k.asks d=k.wait d:=by unfold ag.asks;rw[e];rfl
  rw[ea]at hK
  try dsimp only[ag.tell,ag.dR]at hK
  have t1:(k.wait d).1.cN= -1/\(k.wait d).1.forget= []:=by
   unfold ag.wait ag.tell;split
   .exact ⟨U,U⟩
   .exact ⟨U,U⟩
  rw[t1.1,t1.2]at hK;exact FU hk hN2 ho.1 (ho.2.2.2.2.2.1 (hkd)) (h.sub:Ow B w0 w (aa bd (ah bk d 0 0 (-1) z0)::aj bk k::af aA z0 []::R)) λw' h=>hK z0 w' h.sub
 .refine ⟨dj bd 162,hlook _ (by rw[e];rfl),aT ?_⟩
  show We bd.o K w;have hkd:(ag.aG 12).1≠0->d.c.kind=(ag.aG 12).1:=by rw[e]at hkind;exact hkind
  have hkd:=hkd qb;have ea:k.asks d=k.table d:=by unfold ag.asks;rw[e];rfl
  rw[ea]at hK
  try dsimp only[ag.tell,ag.dR]at hK
  have t1:(k.table d).1.w=0/\(k.table d).1.cN= -1/\(k.table d).1.forget= []:=by
   unfold ag.table ag.tell;split
   .exact ⟨U,U,U⟩
   .exact ⟨U,U,U⟩
  rw[t1.1,t1.2.1,t1.2.2]at hK;exact Dl hk (h.sub:Ow B w0 w (aa bd (ah bk d 0 0 (-1) z0)::aj bk k::af aA z0 []::R)) λw' h=>hK z0 w' h.sub
 .refine ⟨dj bd 163,hlook _ (by rw[e];rfl),aT ?_⟩
  show Wf bd.o K w;have hkd:(ag.aG 13).1≠0->d.c.kind=(ag.aG 13).1:=by rw[e]at hkind;exact hkind
  have hkd:=hkd qb;have ea:k.asks d=k.mapped d:=by unfold ag.asks;rw[e];rfl
  rw[ea]at hK
  try dsimp only[ag.tell,ag.dR]at hK
  have t1:(k.mapped d).1.w=0/\(k.mapped d).1.cN= -1/\(k.mapped d).1.forget= []:=by
   unfold ag.mapped ag.tell;split
   .exact ⟨U,U,U⟩
   .exact ⟨U,U,U⟩
  rw[t1.1,t1.2.1,t1.2.2]at hK;exact Ba hk (h.sub:Ow B w0 w (aa bd (ah bk d 0 0 (-1) z0)::aj bk k::af aA z0 []::R)) λw' h=>hK z0 w' h.sub
 .refine ⟨dj bd 164,hlook _ (by rw[e];rfl),aT ?_⟩
  show Wg bd.o K w;have hkd:(ag.aG 14).1≠0->d.c.kind=(ag.aG 14).1:=by rw[e]at hkind;exact hkind
  have hkd:=hkd qb;have ea:k.asks d=k.lJ d:=by unfold ag.asks;rw[e];rfl
  rw[ea]at hK
  try dsimp only[ag.tell,ag.dR]at hK
  exact Dm hk ho.1 (ho.2.2.2.2.2.2.2.2.1 (hkd)) (h.sub:Ow B w0 w (aa bd (ah bk d 0 0 (-1) z0)::af aA z0 []::aj bk k::R)) λfs' w' h=>hK fs' w' h
 .refine ⟨dj bd 165,hlook _ (by rw[e];rfl),aT ?_⟩
  show Wh bd.o K w;have hkd:(ag.aG 15).1≠0->d.c.kind=(ag.aG 15).1:=by rw[e]at hkind;exact hkind
  have hkd:=hkd qb;have ea:k.asks d=k.bind d:=by unfold ag.asks;rw[e];rfl
  rw[ea]at hK
  try dsimp only[ag.tell,ag.dR]at hK
  have t1:(k.bind d).1.w=0/\(k.bind d).1.cN= -1/\(k.bind d).1.forget= []:=by
   unfold ag.bind ag.tell;split
   .exact ⟨U,U,U⟩
   .exact ⟨U,U,U⟩
  rw[t1.1,t1.2.1,t1.2.2]at hK;exact Ey hk (h.sub:Ow B w0 w (aa bd (ah bk d 0 0 (-1) z0)::aj bk k::af aA z0 []::R)) λw' h=>hK z0 w' h.sub
 .refine ⟨dj bd 166,hlook _ (by rw[e];rfl),aT ?_⟩
  show Wi bd.o K w;have hkd:(ag.aG 16).1≠0->d.c.kind=(ag.aG 16).1:=by rw[e]at hkind;exact hkind
  have hkd:=hkd qb;have ea:k.asks d=ag.dR (k.gP (iQ k.ln d.c.obj)):=by unfold ag.asks;rw[e];rfl
  rw[ea]at hK
  try dsimp only[ag.tell,ag.dR]at hK
  exact Gb hk hN2 (h.sub:Ow B w0 w (aa bd (ah bk d 0 0 (-1) z0)::aj bk k::af aA z0 []::R)) λw' h=>hK z0 w' h.sub
theorem Cl{core cur:O}{c:Call}{K:O->Pw}(hk:bj ae6 k)(hN:ae6+64<=100000)(hcore:k.t.fS core=V)(ha0:0<=c.ask)(ha1:c.ask<17)
  (hw0: -9223372036854775808<=c.ar) (hw1:c.ar<9223372036854775808)
  (h:Ow B w0 w (aa bd (ah bk ⟨core,cur,c,(0,0),Sl.aq⟩ 0 0 (-1) z0)::af aA z0 []::aj bk k::R))
  (hK:∀d' fs' w',Ow B w0 w' (aa bd (ah bk d' 0 (k.asked core cur c).1.w (k.asked core cur c).1.cN fs')::af aA fs' (k.asked core cur c).1.forget::aj bk (k.asked core cur c).2::R)->K (k.asked core cur c).1.e w'):
  VA bd.o K w:=by
 apply aa8;unfold ag.asked at hK;refine⟨_,U,h.l2 U (CJ (ask:=c.ask) ha0 om h λw h=>?_)⟩;have hask:(ag.aG c.ask).1=(ag.aG c.ask).1:=rfl;refine h.a λnb w1 h=>?_;refine h.ay U U λw h=>?_;intro k9 hk9;have hbad:k.dx c.at_ (ag.aG c.ask).1=Z->∀(sb cb:qf)(w:Y),Ow B w0 w (aa bd (ah bk ⟨core,cur,c,(0,0),Sl.aq⟩ 0 0 (-1) z0)::af aA z0 []::aj bk k::R)->k9 sb cb Z w:=λhB sb cb w h=>by rw[A hB]at hK;apply hk9;intro k14 hk14;have hfin:k14 V w:=hk14 _ _ (aU U (hK _ _ w h));exact aU U hfin
 have hgood:k.dx c.at_ (ag.aG c.ask).1=V->∀(sb cb:X)(cc:cO)(w:Y),cc=k.aX c.at_->Ow B w0 w (aa sb [.z 0,.z c.at_]::aa cb cc.cells::aa nb [.z (ag.aG c.ask).1,.z (ag.aG c.ask).2]::aa bd (ah bk ⟨core,cur,c,(0,0),Sl.aq⟩ 0 0 (-1) z0)::af aA z0 []::aj bk k::R)->k9 sb.p cb.p V w:=λhB sb cb cc w hcc h=>by
  subst hcc;rw[Q (by rw[hB];decide)]at hK;obtain⟨hb1,hb2⟩:=iA hB;obtain⟨_,hH,ho,hcr,_⟩:=hk.cap hb1;apply hk9;intro k14 hk14;refine aW U ⟨_,h.aE U,_,h.aE U,h.l2 U ?_⟩;apply hk14;refine oO (λe=>?_) (λe=>?_)
  .rw[A e]at hK
   exact hK ⟨core,cur,c,(0,0),Sl.aq⟩ z0 w (h.sub:Ow B w0 w (aa bd (ah bk ⟨core,cur,c,(0,0),Sl.aq⟩ 0 0 (-1) z0)::af aA z0 []::aj bk k::R))
  rw[Q (by rw[e];exact λhh=>hh U)]at hK;refine h.dr λw h=>?_;refine h.aN U ⟨_,U,?_⟩;refine h.dI U ⟨?_,trivial⟩;refine yB (h.ay U U λw h=>?_);refine h.hd U ⟨_,U,?_,trivial⟩;refine yB (h.ay U U λw h=>?_);have h:Ow B w0 w (aa bd (ah bk ⟨core,cur,c,(0,c.at_),k.aX c.at_⟩ 0 0 (-1) z0)::af aA z0 []::aj bk k::R):=h.sub;refine h.Dt (Value.int .i64) (dj bd) λw1 h=>?_;generalize w.heap.size=m at h|-;refine h.kM (k:=(0:O)) (v:=150) (enc:=Value.int .i64) (encV:=dj bd) qF (bf .i64 qy) 0 U λw h=>?_;refine h.kM (k:=(1:O)) (v:=151) (enc:=Value.int .i64) (encV:=dj bd) qF (bf .i64 qy) 0 U λw h=>?_;refine h.kM (k:=(2:O)) (v:=152) (enc:=Value.int .i64) (encV:=dj bd) qF (bf .i64 qy) 0 U λw h=>?_;refine h.kM (k:=(3:O)) (v:=153) (enc:=Value.int .i64) (encV:=dj bd) qF (bf .i64 qy) 0 U λw h=>?_;refine h.kM (k:=(4:O)) (v:=154) (enc:=Value.int .i64) (encV:=dj bd) qF (bf .i64 qy) 0 U λw h=>?_;refine h.kM (k:=(5:O)) (v:=155) (enc:=Value.int .i64) (encV:=dj bd) qF (bf .i64 qy) 0 U λw h=>?_;refine h.kM (k:=(6:O)) (v:=156) (enc:=Value.int .i64) (encV:=dj bd) qF (bf .i64 qy) 0 U λw h=>?_;refine h.kM (k:=(7:O)) (v:=157) (enc:=Value.int .i64) (encV:=dj bd) qF (bf .i64 qy) 0 U λw h=>?_;refine h.kM (k:=(8:O)) (v:=158) (enc:=Value.int .i64) (encV:=dj bd) qF (bf .i64 qy) 0 U λw h=>?_;refine h.kM (k:=(9:O)) (v:=159) (enc:=Value.int .i64) (encV:=dj bd) qF (bf .i64 qy) 0 U λw h=>?_;refine h.kM (k:=(10:O)) (v:=160) (enc:=Value.int .i64) (encV:=dj bd) qF (bf .i64 qy) 0 U λw h=>?_;refine h.kM (k:=(11:O)) (v:=161) (enc:=Value.int .i64) (encV:=dj bd) qF (bf .i64 qy) 0 U λw h=>?_;refine h.kM (k:=(12:O)) (v:=162) (enc:=Value.int .i64) (encV:=dj bd) qF (bf .i64 qy) 0 U λw h=>?_;refine h.kM (k:=(13:O)) (v:=163) (enc:=Value.int .i64) (encV:=dj bd) qF (bf .i64 qy) 0 U λw h=>?_;refine h.kM (k:=(14:O)) (v:=164) (enc:=Value.int .i64) (encV:=dj bd) qF (bf .i64 qy) 0 U λw h=>?_;refine h.kM (k:=(15:O)) (v:=165) (enc:=Value.int .i64) (encV:=dj bd) qF (bf .i64 qy) 0 U λw h=>?_;refine h.kM (k:=(16:O)) (v:=166) (enc:=Value.int .i64) (encV:=dj bd) qF (bf .i64 qy) 0 U λw h=>?_;have h:Ow B w0 w (mU (Value.int .i64) (dj bd) m Ki::aa bd (ah bk ⟨core,cur,c,(0,c.at_),k.aX c.at_⟩ 0 0 (-1) z0)::af aA z0 []::aj bk k::R):=h;exact⟨_,U,h.l2 U (Ck (d:=⟨core,cur,c,(0,c.at_),k.aX c.at_⟩) hk hN hcore hH hcr ho ha0 ha1 hb2 hw0 hw1 h λfs' w' h=>hK _ fs' w' h)⟩
 refine h.dr λw h=>?_;refine⟨_,U,_,h.aF U,_,U,_,bc (h.aE U),h.l1 U ?_⟩
 (repeat' (first|exact trivial|(exact hbad (by assumption) _ _ _ h.sub)|(exact hgood (by assumption) _ _ _ _ (by assumption) h.sub)|(refine oq hk (h.pick (ae7:=aj bk k)) (λhB s c w h=>?_) (λhB w c hc h=>?_))|(refine h.al λw h=>?_)|(refine h.dr λw h=>?_)|(refine h.aN U ?_)|(refine h.dI U ?_)|(refine h.l1 U ?_)|(refine h.l2 U ?_)|(refine h.hd U ?_)|(refine⟨h.aF U,?_⟩)|(refine⟨h.aE U,?_⟩)|((refine h.ay U U λw h=>?_);(try dsimp only[putAt,Pj,OI]at h))|(refine eX ?_)|(refine _root_.Go.Vc.a2 ?_)|(refine h.jx U U λw h=>?_)|(refine h.gh U U λw h=>?_)|(refine And.intro ?_ ?_)))
theorem Mq(x:O)(y:O)(hy:0<=y/\y<=7):0<=da .i64 x y/\da .i64 x y<=7:=by obtain⟨m,rfl⟩:=Ox hy.1;obtain⟨p,hp,e⟩:=Sl.xt x m om;rw[e];omega
theorem jM{c:cO}:Sl.gx c=Z↔((0<c.kind/\c.kind<10)/\0<=c.obj/\c.obj<2147483648)/\(0<=c.ak/\c.ak<=7)/\Sl.eE c.guard c.bits=V/\(Sl.cW c.kind=Z->c.ak=7)/\(c.ax≠0->Sl.df c.kind=V)/\(c.bits≠0->c.kind=2):=by unfold Sl.gx;simp only[Bool.or_eq_false_iff,Bool.not_eq_false',OH,qA,Bool.and_eq_false_imp,qN,ne_eq,bne_eq_false_iff_eq,Q1,and_assoc]
theorem IP{c:cO}(h:Sl.gx c=Z):Sl.bT c=0:=by
 unfold Sl.bT;rw[h];split
 .rfl
 .rfl
theorem Hi{c:cO}{r g:O}(hc:Sl.bT c=0)(hm:(ag.gg c r g).2=0):Sl.bT (ag.gg c r g).1=0/\(ag.gg c r g).1.kind=c.kind/\(ag.gg c r g).1.obj=c.obj/\c.kind≠0:=by
 unfold ag.gg at*
 rw[Q (by rw[hc];exact λh=>h U)]at*
 by_cases hr:¬(0<=r/\r<=7)
 .rw[A hr]at hm;cases hm
 rw[Q hr]at hm|-;by_cases h2:c.kind=0\/(g≠0/\(Sl.df c.kind=Z\/c.ax≠0))
 .rw[A h2]at hm;cases hm
 rw[Q h2];have hk:c.kind≠0:=λe=>h2 (.inl e);refine⟨?_,U,U,hk⟩;have hz:c≠Sl.aq:=λe=>hk (by rw[e];rfl);have hb:Sl.gx c=false:=by
  unfold Sl.bT at hc;rw[Q hz]at hc;cases e:Sl.gx c with
  |false=>rfl
  |true=>rw[e,A U]at hc;cases hc
 obtain⟨b1,b2,b3,b4,b5,b6⟩:=jM.1 hb;have hr7:0<=r/\r<=7:=Rz hr;have ha:=Mq c.ak r hr7;have hb2:Sl.gx { c with ak:=if Sl.cW c.kind then da .i64 c.ak r else c.ak,ax:=if g≠0 then g else c.ax}=false:=by
  refine jM.2 ⟨b1,?_,b3,λe=>?_,λe=>?_,b6⟩
  .dsimp only
   split
   .exact ha
   .exact b2
  .dsimp only at e|-
   rw[Q (by rw[e];decide)];exact b4 e
  .dsimp only at e|-
   by_cases e0:g≠0
   .cases hh:Sl.df c.kind with
    |true=>rfl
    |false=>exact qi (.inr ⟨e0,.inl hh⟩) h2
   .rw[Q e0]at e;exact b5 e
 exact IP hb2
end
section
variable{ae6:X}{k:ag}{d:pZ}
theorem GH(hk:bj ae6 k){w:O}(hf:k.fD w 1=0):0<=w/\w<64/\k.H (0,w)=none:=by obtain⟨h1,h2,h3⟩:=hk.xJ hf;refine⟨h1,om,?_⟩;have:=h3 0 om;rw[show w+((0:X):O)=w from by omega]at this;exact this
theorem bj.mK(hk:bj ae6 k)(hs:k.H d.s=S d.c)(hr:Sl.fI d.c)(ho:k.fF d.c):bj ae6 (k.mK d).2:=by
 unfold ag.mK;split
 .exact hk
 split
 .exact hk
 rename_i hf;split
 .exact hk
 rename_i hm;obtain⟨h1,h2,h3⟩:=GH hk (Rz hf);obtain⟨_,he,_,_⟩:=hk.sr.held _ _ hs;obtain⟨m1,m2,m3,m4⟩:=Hi he (by omega:(ag.gg d.c d.call.a (qq.wrap d.call.b)).2=0);refine(hk.laid (by rw[hs];rfl) ⟨rfl,h1,h2⟩ h3 m1 (by rw[m2];exact m4) (sQ hr (mr _)) ?_).1;unfold ag.fF at ho|-;rw[m2,m3];exact ho
theorem bj.move(hk:bj ae6 k)(hs:k.H d.s=S d.c):bj ae6 (k.move d).2:=by
 unfold ag.move;split
 .exact hk
 rename_i hf;obtain⟨h1,h2,h3⟩:=GH hk (Rz hf);have hsl:=(hk.held _ _ hs).1;obtain⟨i,hi⟩:=sW ((hk.mem d.s).2 (by rw[hs];rfl));obtain⟨x,hx,hxs⟩:=Tr.dA hi;have hno:Tr.bz k.T (0,d.call.ar)=none:=rL λe=>by rw[hk.mem,h3]at e;cases e
 have hH:(Sl.dW k.bits k.H d.s (0,d.call.ar)).2=Sl.cz (Sl.cz k.H d.s I) (0,d.call.ar) (S d.c):=by unfold Sl.dW;rw[mi hk.b0 hsl,mi hk.b0 (s:=(0,d.call.ar)) ⟨U,h1,h2⟩,Q qc,hs];dsimp only;rw[h3,Q qb]
 have hT:(Tr.dW k.T d.s (0,d.call.ar)).2=k.T.set i ((0,d.call.ar),Tr.vh k.T i):=by unfold Tr.dW;rw[hi];dsimp only;rw[hno]
 obtain⟨n1,n2,n3,n4⟩:=hk.sr.held _ _ hs;rw[hH,hT];have hgi:(k.T.map (·.1))[i]?=S d.s:=by rw[OX,hx];exact qw S hxs
 show bj ae6 { k with H:=Sl.cz (Sl.cz k.H d.s I) (0,d.call.ar) (S d.c),T:=k.T.set i ((0,d.call.ar),Tr.vh k.T i)};refine { hk with
  sr:=(hk.sr.del d.s).put (mi hk.b0 ⟨U,h1,h2⟩) n2 n3 n4
  held:=λt c hc=>?_
  tok:=hk.tok.move hi hno
  mem:=λt=>?_}
 .have hc:Sl.cz (Sl.cz k.H d.s I) (0,d.call.ar) (S d.c) t=S c:=hc
  unfold Sl.cz at hc;split at hc
  .rename_i e
   cases hc;rw[e];exact⟨⟨U,h1,h2⟩,(hk.held _ _ hs).2⟩
  split at hc
  .cases hc
  .exact hk.held t c hc
 .rw[List.map_set]
  have hnd:=hk.tok.nd;have hlt:=(Om.1 hgi).1;have hne:(0,d.call.ar)≠d.s:=λe=>by rw[<-e,h3]at hs;cases hs
  have hm:t∈(k.T.map (·.1)).set i (0,d.call.ar)↔t=(0,d.call.ar)\/(t∈k.T.map (·.1)/\t≠d.s):=by
   rw[List.set_eq_take_append_cons_drop,A hlt,<-Sl.pG hnd hgi,RU];simp only[Pn,Oz];constructor
   .rintro (h|h|h)
    .exact .inr (.inl h)
    .exact .inl h
    .exact .inr (.inr h)
   .rintro (h|h|h)
    .exact .inr (.inl h)
    .exact .inl h
    .exact .inr (.inr h)
  show t∈(k.T.map (·.1)).set i (0,d.call.ar)↔_;rw[hm,hk.mem];show _↔(Sl.cz (Sl.cz k.H d.s I) (0,d.call.ar) (S d.c) t).isSome=V;unfold Sl.cz;by_cases e1:t=(0,d.call.ar)
  .simp[e1]
  .rw[Q e1]
   by_cases e2:t=d.s
   .rw[A e2];simp[e2,hne.symm]
   .rw[Q e2];simp[e1,e2]
theorem bj.kR(hk:bj ae6 k){n:O}{m:Tb.dv}(hm:Tb.fx m):bj ae6 (k.kR n m):=
 hk.ae (by rw[Pe]) λy hy=>by
  rcases Px hy with hy|hy
  .exact hk.zG y hy
  .rw[hy];exact hm
theorem bj.BC(hk:bj ae6 k)(n:O):Tb.fx (k.hI n):=by
 unfold ag.hI;cases e:k.ae[n.toNat]? with
 |none=>exact Tb.fx.new
 |some m=>exact hk.zG m (OV e)
theorem bj.kP(hk:bj ae6 k)(n:O):bj ae6 (k.kP n):=by
 unfold ag.kP;have hu:∀x∈k.u.set n.toNat { k.jy n with used:=0},yC x:=λx hx=>by
  by_cases hlt:n.toNat<k.u.length
  .rcases Px hx with hx|hx
   .exact hk.u x hx
   .have h1:yC (k.jy n):=by unfold ag.jy;rw[gE hlt];exact hk.u _ (Ph _)
    rw[hx];exact⟨h1.bits,h1.top,h1.dvd,Qi _⟩
  .rw[RC om]at hx
   exact hk.u x hx
 exact hk.Ib hu (by rw[Pe];exact On _) (by rw[Pe];exact hk.nu)
theorem bj.jm(hk:bj ae6 k):bj ae6 (k.jm d).2:=by
 have hnd:=wB (s:=d.s) hk.tok;have hheld:∀s∈Tr.cq k.T d.s,(k.H s).isSome=true:=λs hs=>(hk.mem s).1 (wA hs);obtain⟨h1,_⟩:=ry (Tr.cq k.T d.s).reverse k hk (Rg.2 (hnd.imp Ne.symm)) (λs hs=>hheld s (Rm.1 hs));unfold ag.jm;dsimp only;split
 .exact h1.kP _
 .exact h1
theorem bj.send(hk:bj ae6 k)(h0:0<=d.c.obj)(h1:d.c.obj<(k.ends.length:O)):bj (ae6+1) (k.send d).2:=by
 obtain⟨_,hl⟩:=hk.ic h0 h1;have hse:=zC (k.ic d.c.obj) d.cur (ag.fa d) (d.call.c !=0);have hE:=hk.eL (n:=d.c.obj) (p:=((k.ic d.c.obj).send d.cur (ag.fa d) (d.call.c !=0)).2.2) om;unfold ag.send;split
 .exact hE
 split
 .exact hE.rest
 .exact hE.jS.eu _
theorem bj.recv(hk:bj ae6 k)(h0:0<=d.c.obj)(h1:d.c.obj<(k.ends.length:O)):bj (ae6+1) (k.recv d).2:=by
 obtain⟨_,hl⟩:=hk.ic h0 h1;have hse:=zu (k.ic d.c.obj) d.cur (d.call.c !=0);have hE:=hk.eL (n:=d.c.obj) (p:=((k.ic d.c.obj).recv d.cur (d.call.c !=0)).2.2) om;unfold ag.recv;split
 .exact hE
 split
 .exact hE.rest
 .exact hE.jS.eu _
theorem bj.wait(hk:bj ae6 k)(h0:0<=d.c.obj)(h1:d.c.obj<(k.notes.length:O)):bj (ae6+1) (k.wait d).2:=by
 obtain⟨_,hl⟩:=hk.lM h0 h1;have hwl:=zO (k.lM d.c.obj) d.cur (d.call.c !=0);have hE:=hk.jn (n:=d.c.obj) (p:=((k.lM d.c.obj).wait d.cur (d.call.c !=0)).2) om;unfold ag.wait;split
 .exact hE
 dsimp only;split
 .exact hE
 .exact hE.rest
theorem bj.bind(hk:bj ae6 k):bj ae6 (k.bind d).2:=by
 unfold ag.bind;split
 .exact hk
 rename_i hB;have hB:k.dx d.call.ar 5=true:=by
  cases e:k.dx d.call.ar 5 with
  |true=>rfl
  |false=>exact qi e hB
 obtain⟨hb1,hb2⟩:=iA hB;obtain⟨_,_,ho,_,_⟩:=hk.cap hb1;unfold ag.tell;dsimp only;unfold mW;cases hx:kq k.ln d.c.obj with
 |none=>exact hk
 |some x=>
  dsimp only;split
  .exact hk
  split
  .exact hk
  .refine hk.N2 (by rw[Pe];exact hk.ln) λy hy hy2=>?_
   rcases Px hy with hy|hy
   .exact hk.F0 y hy hy2
   .rw[hy];exact⟨ho.1,ho.2.2.2.2.2.1 (hb2 qb)⟩
theorem bj.gP(hk:bj ae6 k){r:(qg (O × O)× O)× wR}(h1:bj ae6 { k with ln:=r.2})(h2:∀y,r.1.1=S y->0<=y.1/\y.1<(k.notes.length:O)):bj (ae6+1) (k.gP r).2.2:=by
 unfold ag.gP;split
 .exact h1.mono om
 .rename_i x e
  obtain⟨a,b⟩:=h2 x e;exact h1.a8 a b
theorem bj.asks(hk:bj ae6 k)(hN:ae6+64<=100000)(hcore:k.t.fS d.core=V)(hH:k.H d.s=S d.c)(hr:Sl.fI d.c)(ho:k.fF d.c)(ha0:0<=d.call.ask)(ha1:d.call.ask<17)
  (hkind:(ag.aG d.call.ask).1≠0->d.c.kind=(ag.aG d.call.ask).1):bj (ae6+64) (k.asks d).2:=by
 have hsome:(k.H d.s).isSome=true:=by rw[hH];rfl
 have hask:d.call.ask=0\/d.call.ask=1\/d.call.ask=2\/d.call.ask=3\/d.call.ask=4\/d.call.ask=5\/d.call.ask=6\/d.call.ask=7\/d.call.ask=8\/d.call.ask=9\/d.call.ask=10\/d.call.ask=11\/d.call.ask=12\/d.call.ask=13\/d.call.ask=14\/d.call.ask=15\/d.call.ask=16:=om
 have m0:∀{x:ag},bj ae6 x->bj (ae6+64) x:=λh=>h.mono om;have m1:∀{x:ag},bj (ae6+1) x->bj (ae6+64) x:=λh=>h.mono om;rcases hask with e|e|e|e|e|e|e|e|e|e|e|e|e|e|e|e|e
 .have ea:k.asks d=ag.tell (k.eG d).1 (k.eG d).2:=by unfold ag.asks;rw[e];rfl
  rw[ea];have hkd:(ag.aG 0).1≠0->d.c.kind=(ag.aG 0).1:=by rw[e]at hkind;exact hkind
  have hkd:=hkd qb;exact hk.eG hN hsome hkd ho hcore
 .have ea:k.asks d=ag.tell (k.mK d).1 (k.mK d).2:=by unfold ag.asks;rw[e];rfl
  rw[ea];exact m0 (hk.mK hH hr ho)
 .have ea:k.asks d=ag.tell (k.move d).1 (k.move d).2:=by unfold ag.asks;rw[e];rfl
  rw[ea];exact m0 (hk.move hH)
 .have ea:k.asks d=if d.call.at_=0 then ag.tell 181 k else(⟨0,0,-1,(k.gone d.s).1⟩,(k.gone d.s).2):=by unfold ag.asks;rw[e];rfl
  rw[ea];split
  .exact m0 hk
  .exact m0 (hk.gone hsome).1
 .have ea:k.asks d=k.jm d:=by unfold ag.asks;rw[e];rfl
  rw[ea];exact m0 hk.jm
 .have ea:k.asks d=ag.dR (k.resume d):=by unfold ag.asks;rw[e];rfl
  rw[ea];have hkd:(ag.aG 5).1≠0->d.c.kind=(ag.aG 5).1:=by rw[e]at hkind;exact hkind
  have hkd:=hkd qb;have h2:bj ae6 (if k.t.cP d.c.obj=V/\(k.t.th d.c.obj).st=3 then k.dL d.c.obj else k):=by
   split
   .exact hk.dL _
   .exact hk
  exact m0 (h2.eu _)
 .have ea:k.asks d=ag.tell (k.t.bM d.c.obj).1 ((k.dL d.c.obj).bQ (k.t.bM d.c.obj).2):=by unfold ag.asks;rw[e];rfl
  rw[ea];have hkd:(ag.aG 6).1≠0->d.c.kind=(ag.aG 6).1:=by rw[e]at hkind;exact hkind
  have hkd:=hkd qb;exact m0 ((hk.dL d.c.obj).bQ (hk.inv.suspend _) (by rw[nZ];exact On _))
 .have ea:k.asks d=ag.tell (k.t.gn d.c.obj d.call.a).1 (k.bQ (k.t.gn d.c.obj d.call.a).2):=by unfold ag.asks;rw[e];rfl
  rw[ea];have hkd:(ag.aG 7).1≠0->d.c.kind=(ag.aG 7).1:=by rw[e]at hkind;exact hkind
  have hkd:=hkd qb;exact m0 (hk.bQ (hk.inv.prio _ _) (by rw[yj];exact On _))
 .have ea:k.asks d=k.send d:=by unfold ag.asks;rw[e];rfl
  rw[ea];have hkd:(ag.aG 8).1≠0->d.c.kind=(ag.aG 8).1:=by rw[e]at hkind;exact hkind
  have hkd:=hkd qb;exact m1 (hk.send ho.1 (ho.2.2.2.2.1 hkd))
 .have ea:k.asks d=k.recv d:=by unfold ag.asks;rw[e];rfl
  rw[ea];have hkd:(ag.aG 9).1≠0->d.c.kind=(ag.aG 9).1:=by rw[e]at hkind;exact hkind
  have hkd:=hkd qb;exact m1 (hk.recv ho.1 (ho.2.2.2.2.1 hkd))
 .have ea:k.asks d=(⟨0,0,(k.a8 d.c.obj d.c.ax).1,[]⟩,(k.a8 d.c.obj d.c.ax).2):=by unfold ag.asks;rw[e];rfl
  rw[ea];have hkd:(ag.aG 10).1≠0->d.c.kind=(ag.aG 10).1:=by rw[e]at hkind;exact hkind
  have hkd:=hkd qb;exact m1 (hk.a8 ho.1 (ho.2.2.2.2.2.1 hkd))
 .have ea:k.asks d=k.wait d:=by unfold ag.asks;rw[e];rfl
  rw[ea];have hkd:(ag.aG 11).1≠0->d.c.kind=(ag.aG 11).1:=by rw[e]at hkind;exact hkind
  have hkd:=hkd qb;exact m1 (hk.wait ho.1 (ho.2.2.2.2.2.1 hkd))
 .have ea:k.asks d=k.table d:=by unfold ag.asks;rw[e];rfl
  rw[ea];have hkd:(ag.aG 12).1≠0->d.c.kind=(ag.aG 12).1:=by rw[e]at hkind;exact hkind
  have hkd:=hkd qb;unfold ag.table;split
  .exact m0 hk
  .exact m0 (hk.kR ((hk.BC _).table _ _))
 .have ea:k.asks d=k.mapped d:=by unfold ag.asks;rw[e];rfl
  rw[ea];have hkd:(ag.aG 13).1≠0->d.c.kind=(ag.aG 13).1:=by rw[e]at hkind;exact hkind
  have hkd:=hkd qb;unfold ag.mapped;split
  .exact m0 hk
  .exact m0 (hk.kR ((hk.BC _).map _ _))
 .have ea:k.asks d=k.lJ d:=by unfold ag.asks;rw[e];rfl
  rw[ea];have hkd:(ag.aG 14).1≠0->d.c.kind=(ag.aG 14).1:=by rw[e]at hkind;exact hkind
  have hkd:=hkd qb;exact m0 (hk.kR ((hk.BC _).lJ _))
 .have ea:k.asks d=k.bind d:=by unfold ag.asks;rw[e];rfl
  rw[ea];have hkd:(ag.aG 15).1≠0->d.c.kind=(ag.aG 15).1:=by rw[e]at hkind;exact hkind
  have hkd:=hkd qb;exact m0 hk.bind
 .have ea:k.asks d=ag.dR (k.gP (iQ k.ln d.c.obj)):=by unfold ag.asks;rw[e];rfl
  rw[ea];have hkd:(ag.aG 16).1≠0->d.c.kind=(ag.aG 16).1:=by rw[e]at hkind;exact hkind
  have hkd:=hkd qb;exact m1 (hk.gP hk.Mp λy hy=>u4 hk hy)
end
section
variable{B:X}{w0 w:Y}{R L:J aH}{bd bk:X}{k:ag}{d:pZ}{ec wv wk:O}{fs:Sl}{ae6:X}
theorem bj.pick(hk:bj ae6 k)(core:O):bj ae6 (k.bQ (k.t.aV core)):=hk.bQ (hk.inv.aV _) (by rw[iG];exact On _)
theorem bj.asked(hk:bj ae6 k)(hN:ae6+64<=100000){core cur:O}{c:Call}(hcore:k.t.fS core=V)(ha0:0<=c.ask)(ha1:c.ask<17):bj (ae6+64) (k.asked core cur c).2:=by
 unfold ag.asked;split
 .exact hk.mono om
 rename_i hB;have hB:k.dx c.at_ (ag.aG c.ask).1=true:=by
  cases e:k.dx c.at_ (ag.aG c.ask).1 with
  |true=>rfl
  |false=>exact qi e hB
 split
 .exact hk.mono om
 obtain⟨hb1,hb2⟩:=iA hB;obtain⟨_,hH,ho,hcr,_⟩:=hk.cap hb1;exact hk.asks hN hcore hH hcr ho ha0 ha1 hb2
theorem bj.do(hk:bj ae6 k)(hN:ae6+64<=100000)(core:O)(c:Call):bj (ae6+64) (k.do core c).2:=by
 have hp:=hk.pick core;unfold ag.do
 cases hr:(k.t.aV core).bJ core with
 |none=>exact hp.mono om
 |some cur=>
  dsimp only;split
  .exact hp.mono om
  split
  .exact (hp.bQ (hp.inv.yield core) (by rw[tu];exact On _)).mono om
  .rename_i h1 h2
   exact hp.asked hN (hp.inv.runIn hr).1 om om
theorem bj.tick(hk:bj ae6 k)(core:O):bj ae6 (k.tick core):=hk.bQ (hk.inv.tick _) (by rw[BP];exact On _)
theorem bj.irq(hk:bj ae6 k)(line:O):bj (ae6+1) (k.irq line).2.2:=hk.gP hk.raise λy hy=>pR hk hy
theorem Iw{core:O}{c:Call}{K:O->O->O->Sl->Pw}(hk:bj ae6 k)(hN:ae6+64<=100000)(hw0: -9223372036854775808<=c.ar)(hw1:c.ar<9223372036854775808)
  (h:Ow B w0 w (aj bk k::R))
  (hK:∀fs' w',Ow B w0 w' (af aA fs' (k.do core c).1.forget::aj bk (k.do core c).2::R)->K (k.do core c).1.e (k.do core c).1.w (k.do core c).1.cN fs' w'):
  Vl bk.o core c.ask c.at_ c.ar c.a c.b c.c K w:=by
 apply aa1;refine h.a λcb w1 h=>?_;refine h.a λob w2 h=>?_;refine h.dI U ?_;refine h.a λbd w3 h=>?_;have h:=Ow.cH (E:=aA) h;have h:Ow B w0 w3 (af aA z0 []::aa bd (ah bk ⟨core,0,c,(0,0),Sl.aq⟩ 0 0 (-1) z0)::aa ob [.z 0,.y 0,.z 0,.slice I 0 0]::aa cb c.cl::aj bk k::R):=h;have h:Ow B w0 w3 (aj bk k::aa bd (ah bk ⟨core,0,c,(0,0),Sl.aq⟩ 0 0 (-1) z0)::af aA z0 []::aa ob [.z 0,.y 0,.z 0,.slice I 0 0]::aa cb c.cl::R):=h.sub;obtain⟨bt,aeY,h,hc2,hback⟩:=h.sH;refine⟨_,U,_,hc2,Th.iO hk.inv.ok h λw h=>?_⟩;have h:=hback _ w _ iG h;have hp:=hk.pick core;unfold ag.do at hK
 refine⟨_,U,h.gh U U λw h=>?_⟩;intro k25 hk25;have fin:∀(d':pZ)(e wv wk:O)(fs:Sl)(ae2:J dP)(k':ag)(w:Y),(∀w',Ow B w0 w' (af aA fs ae2::aj bk k'::R)->K e wv wk fs w')->
   Ow B w0 w (aa bd (ah bk d' e wv wk fs)::af aA fs ae2::aj bk k'::aa ob [.z 0,.y 0,.z 0,.slice I 0 0]::R)->k25 w:=λd' e wv wk fs ae2 k' w hK h=>by
  apply hk25;refine⟨_,U,eJ (h.gO U (h.ay U U λw h=>?_))⟩;refine h.gO U ?_;exact hK w h.sub
 cases hr:(k.t.aV core).bJ core with
 |none=>
  rw[hr]at hK;refine aU U ?_;refine⟨_,U,h.gh U U λw h=>?_⟩;refine fin ⟨core,0,c,(0,0),Sl.aq⟩ 182 0 (-1) z0 [] (k.bQ (k.t.aV core)) w (λw' h=>hK _ w' h) ?_;have h:Ow B w0 w (aj bk (k.bQ (k.t.aV core))::aa bd (ah bk ⟨core,0,c,(0,0),Sl.aq⟩ 182 0 (-1) z0)::af aA z0 []::aa ob [.z 0,.y 0,.z 0,.slice I 0 0]::aa cb c.cl::R):=by rw[hr]at h;exact h
  exact h.sub
 |some cur=>
  rw[hr]at hK;dsimp only at hK;have h:Ow B w0 w (aj bk (k.bQ (k.t.aV core))::aa bd (ah bk ⟨core,cur,c,(0,0),Sl.aq⟩ 0 0 (-1) z0)::af aA z0 []::aa ob [.z 0,.y 0,.z 0,.slice I 0 0]::aa cb c.cl::R):=by rw[hr]at h;exact h
  refine aW U ?_;intro k39 hk39;have hbad:c.ask<0\/18<=c.ask->k39 V w:=λhb=>by
   rw[A hb]at hK;apply hk39;refine aU U ?_;refine⟨_,U,h.gh U U λw h=>?_⟩;refine fin ⟨core,cur,c,(0,0),Sl.aq⟩ 180 0 (-1) z0 [] (k.bQ (k.t.aV core)) w (λw' h=>hK _ w' h) ?_;have h:Ow B w0 w (aj bk (k.bQ (k.t.aV core))::aa bd (ah bk ⟨core,cur,c,(0,0),Sl.aq⟩ 180 0 (-1) z0)::af aA z0 []::aa ob [.z 0,.y 0,.z 0,.slice I 0 0]::aa cb c.cl::R):=h;exact h.sub
  have hgood:¬(c.ask<0\/18<=c.ask)->k39 Z w:=λhb=>by
   rw[Q hb]at hK;apply hk39;refine aW U ?_;refine h.l1 U ?_;refine dK (λe=>?_) (λe=>?_)
   .rw[A e]at hK
    obtain⟨bt,aeY,h,hc2,hback⟩:=h.sH;refine⟨_,U,_,hc2,Th.oa hp.inv.ok h λw h=>?_⟩;have h:=hback _ w _ tu h;refine fin ⟨core,cur,c,(0,0),Sl.aq⟩ 0 0 (-1) z0 [] ((k.bQ (k.t.aV core)).bQ ((k.t.aV core).yield core)) w (λw' h=>hK _ w' h) ?_;have h:Ow B w0 w (aj bk ((k.bQ (k.t.aV core)).bQ ((k.t.aV core).yield core))::aa bd (ah bk ⟨core,cur,c,(0,0),Sl.aq⟩ 0 0 (-1) z0)::af aA z0 []::aa ob [.z 0,.y 0,.z 0,.slice I 0 0]::aa cb c.cl::R):=h;exact h.sub
   .rw[Q e]at hK
    have hk1:=hp.asked (core:=core) (cur:=cur) (c:=c) hN (hp.inv.runIn hr).1 om om;refine Cl (core:=core) (cur:=cur) (c:=c) hp hN (hp.inv.runIn hr).1 om om hw0 hw1 (h.sub:Ow B w0 w (aa bd (ah bk ⟨core,cur,c,(0,0),Sl.aq⟩ 0 0 (-1) z0)::af aA z0 []::aj bk (k.bQ (k.t.aV core))::aa ob [.z 0,.y 0,.z 0,.slice I 0 0]::R)) λd' fs' w h=>?_;refine⟨_,U,h.gh U U λw h=>?_⟩;generalize (k.bQ (k.t.aV core)).asked core cur c=ae7 at h hK;exact fin d' ae7.1.e ae7.1.w ae7.1.cN fs' ae7.1.forget ae7.2 w (λw' h=>hK _ w' h) h
  refine h.l1 U ?_;refine bg (λe=>?_) (λe=>?_)
  .exact hbad (.inl e)
  .refine h.l1 U ?_
   by_cases e2:c.ask>=18
   .rw[qm e2];exact hbad (.inr e2)
   .rw[qk e2];exact hgood om
end
namespace ag
def KB{α:Type}(l:J α)(n:O):W:=F (0<=n)&&F (n<(l.length:O))
def gA(k:ag)(n:O):Tb.fH:=if KB k.ae n then(k.hI n).pg else []
end ag
section
variable{B:X}{w0 w:Y}{R L:J aH}{bd bk:X}{k:ag}{d:pZ}{ec wv wk:O}{fs:Sl}{ae6:X}
theorem uB{α:Type}{l:J α}{n:O}:ag.KB l n=V↔0<=n/\n<(l.length:O):=by unfold ag.KB;simp
theorem Jw{α:Type}{l:J α}{j:X}{x:α}(h:l[j]?=S x):l.set j x=l:=by obtain⟨hi,rfl⟩:=Om.1 h;exact Qn hi
theorem Eo{core:O}{K:W->Pw}(hk:bj ae6 k)(h:Ow B w0 w (aj bk k::R))(hK:∀w',Ow B w0 w' (aj bk (k.tick core)::R)->K (k.t.bJ core).isSome w'):Vp bk.o core K w:=by
 apply aa3;obtain⟨bt,aeY,h,hc2,hback⟩:=h.sH;refine⟨_,U,_,hc2,Th.xh hk.inv.ok h λw h=>?_⟩;exact hK w (hback _ w _ BP h)
theorem Ej{K:Sl->Pw}(hk:bj ae6 k)(h:Ow B w0 w (aj bk k::R))(hK:∀s w',Ow B w0 w' (af Sl.dV s (fE k.H)::aj bk k::R)->K s w'):Vx bk.o K w:=by
 apply aa6;obtain⟨x,h⟩:=h.xP;refine⟨_,U,h.l1 U (Sl.il (h.pick (ae7:=Sl.aC x.n k.bits k.H)) λs2 hs2 w hih h=>?_)⟩;have e2:hs2=fE k.H:=hih.uniq (rA λt c hc=>(hk.held t c hc).1);subst e2;have h:Ow B w0 w (aj bk k::af Sl.dV s2 (fE k.H)::R):=Ow.cg x h.sub;exact hK s2 w h.sub
theorem jI{n:O}{K:Sl->Pw}(h:Ow B w0 w (aj bk k::R))(hK:∀s w',Ow B w0 w' (af Tb.aJ s (k.gA n)::aj bk k::R)->K s w'):Uh bk.o n K w:=by
 apply aa7;unfold ag.gA at hK;have h0:=h;obtain⟨ss,ps,aeY,h,hc2,hp,hback⟩:=h.ow;have hlen:=h.aL ss;refine⟨_,U,ss,hc2,?_⟩;have bad:ag.KB k.ae n=Z->K z0 w:=λe=>by rw[Q (by rw[e];decide)]at hK;exact hK _ w (Ow.cH h0)
 apply abb;refine bg (λe0=>?_) (λe0=>?_)
 .by_cases e1:n<(ss.len:O)
  .rw[qm e1]
   refine aW U ?_;have hin:ag.KB k.ae n=true:=uB.2 ⟨e0,om⟩;rw[A hin]at hK;have hx:k.ae[n.toNat]?=S (k.hI n):=by unfold ag.hI;rw[gE om];rfl
   refine⟨_,U,ss,hc2,?_⟩;have hq:ps[n.toNat]?=S ps[n.toNat]:=gE om;generalize ps[n.toNat]=pp at hq;refine eF (s:=ss) (i:=n) (j:=n.toNat) h om hq λa ha hcc=>⟨_,hcc,?_⟩
   have h:=(h.pick (ae7:=au Tb.bK ps k.ae)).wL hq hx;refine Tb.jI h λs w h=>?_;have h:=(h.pick (ae7:=Tb.bK pp (k.hI n))).perm (List.Perm.cons _ (List.Perm.swap _ _ _));have h:=(h.cI hp hq)
   rw[Jw hx]at h;have h:Ow B w0 w (aj bk k::_):=hback (af Tb.aJ s (k.hI n).pg::R) w _ h.sub;exact hK s w h.sub
  .rw[qk e1]
   refine aU U ?_;exact bad (by
    cases e:ag.KB k.ae n with
    |false=>rfl
    |true=>have:=(uB.1 e).2;omega)
 .refine aU U ?_
  exact bad (by
    cases e:ag.KB k.ae n with
    |false=>rfl
    |true=>have:=(uB.1 e).1;omega)
end
namespace Mc
structure fk where
 gk:O
 kind:O
 about:O
deriving DecidableEq
structure Item where
 kind:O
 core:O
 a:O
 b:O
structure zV where
 tl:J dP
 dw:O
 n:O
 told:Told
structure Seen where
 kind:O
 core:O
 n:O
 t:Told
 p:O × O
 is:W
structure dC where
 k:ag
 line:J O
 bx:J (J fk)
 cs:J zV
 room:O
 prog:J Call
def tZ:Told:=⟨0,0,0,[]⟩
def fi:Seen:=⟨0,0,0,tZ,(0,0),Z⟩
def tX(space bC:O)(l:dP):W:=F (l.space=space)&&F (l.bC=bC)
def drop(space bC:O)(l:J dP):J dP:=l.filter λx=> !tX space bC x
def look(space bC:O)(l:J dP):qg (O × O):=(l.find? (tX space bC)).map λx=>(x.frame,x.ak)
def fill(room:O)(x:dP)(l:J dP):J dP:=
 if(drop x.space x.bC l).length=l.length/\room<=(l.length:O)then(drop x.space x.bC l).drop 1++ [x]else drop x.space x.bC l++ [x]
def lS(line:J O)(c:O):J O:=if c∈line then line else line++ [c]
def nK(line:J O)(c:O):W:=F (line.head?=S c)
def lW(line:J O)(c:O):J O:=if line.head?=S c then line.tail else line
def pk(gk about:O)(bx:J (J fk)):J (J fk):=
 if(OC bx.length).any λi=>F ((i:O)≠gk)&&F (64<=((bx[i]?).getD []).length)then bx
 else bx.mapIdx λi l=>if(i:O)=gk then l else l++ [⟨gk,0,about⟩]
def kD(bx:J (J fk))(c:O):O:=((bx.map λl=>(l.filter λm=>F (m.gk=c)).length).sum:X)
def iH(x:Item)(jr:O):W:=F (0<=x.kind/\x.kind<4/\0<=x.core/\x.core<min jr 8/\(0<=x.a/\x.a<=255)/\(0<=x.b/\x.b<=255))
end Mc
namespace Mc.dC
def ao(m:dC)(n:O):zV:=(m.cs[n.toNat]?).getD ⟨[],0,0,tZ⟩
def ib(m:dC)(n:O)(c:zV):dC:={ m with cs:=m.cs.set n.toNat c}
def walk(m:dC)(bC:O):qg (O × O):=((m.k.gA 0).find? λx=>x.1==bC).map (·.2)
def loadT(m:dC)(bC:O)(t:J dP):(O × O)× W × J dP:=match look 0 bC t with
 |some p=>(p,V,t)
 |none=>match m.walk bC with
  |some p=>(p,V,fill m.room ⟨0,bC,p.1,p.2⟩ t)
  |none=>((0,0),Z,t)
def load(m:dC)(n bC:O):Seen × dC:=
 (⟨3,n,bC,tZ,(m.loadT bC (m.ao n).tl).1,(m.loadT bC (m.ao n).tl).2.1⟩,m.ib n { m.ao n with tl:=(m.loadT bC (m.ao n).tl).2.2})
def user(m:dC)(x:Item):qg Seen × dC:=
 if(m.ao x.core).dw≠0 then(I,m)
 else if 0<x.b then(S (m.load x.core x.a).1,(m.load x.core x.a).2)
 else if x.a<(m.prog.length:O)then(I,m.ib x.core { m.ao x.core with dw:=1,n:=x.a})
 else(I,m)
def box(m:dC)(n:O):J fk:=(m.bx[n.toNat]?).getD []
def heard(m:dC)(n:O)(x:fk):dC:=
 { m with bx:=m.bx.set n.toNat (m.box n).tail,cs:=m.cs.set n.toNat { m.ao n with tl:=drop (qd.wrap (x.about.tdiv 4096)) (x.about.tmod 4096) (m.ao n).tl}}
def kI(n:O):J dP->dC->dC
 | [],m=>m
 |l::r,m=>kI n r { m with cs:=m.cs.set n.toNat { m.ao n with tl:=drop l.space l.bC (m.ao n).tl},bx:=pk n (qd.wrap (qd.wrap (l.space*4096)+l.bC)) m.bx}
def bS(m:dC)(n:O):Call:=(m.prog[(m.ao n).n.toNat]?).getD ⟨0,0,0,0,0,0⟩
def Gv(m:dC)(n:O):Seen × dC:=
 let t:=(m.k.do n (m.bS n)).1
 let m1:=kI n t.forget ({ m with k:=(m.k.do n (m.bS n)).2}.ib n { m.ao n with told:=t})
 (⟨1,n,(m.ao n).n,t,(0,0),Z⟩,m1.ib n { m1.ao n with dw:=3})
def step(m:dC)(n:O):qg Seen × dC:=match m.box n with
 |x::_=>(I,m.heard n x)
 | []=>
  if(m.ao n).dw=1 then(S ⟨0,n,(m.ao n).n,tZ,(0,0),Z⟩,{ m with line:=lS m.line n}.ib n { m.ao n with dw:=2})
  else if(m.ao n).dw=2 then if nK m.line n then(S (m.Gv n).1,(m.Gv n).2)else(I,m)
  else if(m.ao n).dw=3/\kD m.bx n=0 then(S ⟨2,n,(m.ao n).n,(m.ao n).told,(0,0),Z⟩,{ m with line:=lW m.line n}.ib n { m.ao n with dw:=0})
  else(I,m)
def item(m:dC)(x:Item):qg Seen × dC:=
 if iH x m.cs.length=Z then(I,m)
 else if x.kind=1 then m.user x
 else if x.kind=0 then m.step x.core
 else if m.line≠ []then(I,m)
 else if x.kind=2 then(S ⟨4,x.core,x.a,⟨(m.k.irq x.a).1,0,(m.k.irq x.a).2.1,[]⟩,(0,0),Z⟩,{ m with k:=(m.k.irq x.a).2.2})
 else(S ⟨5,x.core,0,tZ,(0,0),(m.k.t.bJ x.core).isSome⟩,{ m with k:=m.k.tick x.core})
end Mc.dC
section
variable{ae6:X}{k:ag}{d:pZ}
def tG(i:X)(x:O × Tb.Pg):dP:=⟨(i:O),x.1,x.2.1,x.2.2⟩
def gj(l l':J Tb.dv)(ae2:J dP):Prop:=∀i m,l[i]?=S m->∃m',l'[i]?=S m'/\∀x∈m.pg,x∈m'.pg\/tG i x∈ae2
theorem gj.refl(l:J Tb.dv)(ae2:J dP):gj l l ae2:=λi m h=>⟨m,h,λx hx=> .inl hx⟩
theorem gj.trans{l l1 l2:J Tb.dv}{ae2 ae3:J dP}(h1:gj l l1 ae2)(h2:gj l1 l2 ae3):gj l l2 (ae2++ae3):=λi m hm=>by
 obtain⟨m1,e1,g1⟩:=h1 i m hm;obtain⟨m2,e2,g2⟩:=h2 i m1 e1;refine⟨m2,e2,λx hx=>?_⟩;rcases g1 x hx with h|h
 .rcases g2 x h with h|h
  .exact .inl h
  .exact .inr (QJ _ h)
 .exact .inr (Qw _ h)
theorem gj.app(l ae1:J Tb.dv)(ae2:J dP):gj l (l++ae1) ae2:=λi m h=>⟨m,by rw[Oy (Om.1 h).1];exact h,λx hx=> .inl hx⟩
theorem gj.set{l:J Tb.dv}{ae2:J dP}{j:X}{m m':Tb.dv}(hm:l[j]?=S m)(h:∀x∈m.pg,x∈m'.pg\/tG j x∈ae2):gj l (l.set j m') ae2:=λi a ha=>by
 by_cases e:i=j
 .subst e
  rw[hm]at ha;cases ha;exact⟨m',by rw[O0 (Om.1 hm).1],h⟩
 .exact ⟨a,by rw[List.getElem?_set_ne (Ne.symm e)];exact ha,λx hx=> .inl hx⟩
theorem xU{i:X}{P:Tb.fH}{x:O × Tb.Pg}(hx:x∈P):tG i x∈ag.aQ i P:=O4.2 ⟨x,hx,U⟩
theorem tT(f:O):∀(l:J Tb.dv)(j i:X)(m:Tb.dv),l[i]?=S m->∃m',(ag.bh f j l).2[i]?=S m'/\∀x∈m.pg,x∈m'.pg\/tG (j+i) x∈(ag.bh f j l).1
 | [],_,_,_,h=>by simp at h
 |a::l,j,0,m,h=>by
  cases h;refine⟨_,U,λx hx=>?_⟩;cases e:(x.2.1==f)with
  |true=>exact .inr (Qw _ (xU (OE.2 ⟨hx,e⟩)))
  |false=>exact .inl (OE.2 ⟨hx,by rw[e];rfl⟩)
 |a::l,j,i+1,m,h=>by
  obtain⟨m',e,g⟩:=tT f l (j+1) i m h;refine⟨m',e,λx hx=>?_⟩;rcases g x hx with g|g
  .exact .inl g
  .rw[show j+(i+1)=j+1+i from by omega]
   exact .inr (QJ _ g)
theorem Gy(m:Tb.dv)(j:O){x:O × Tb.Pg}(hx:x∈m.pg):x∈(m.bp j).2.2.pg\/x∈(m.bp j).1:=by
 unfold Tb.dv.bp;split
 .exact .inl hx
 split
 .exact .inl hx
 .cases e:(x.1.toNat / 64==j.toNat)with
  |true=>exact .inr (OE.2 ⟨hx,e⟩)
  |false=>exact .inl (OE.2 ⟨hx,by simpa using e⟩)
theorem pW(n:O)(i:X):∀(q j:X)(m:Tb.dv)(x:O × Tb.Pg),x∈m.pg->x∈(ag.dB n i q j m).2.pg\/tG i x∈(ag.dB n i q j m).1
 |0,_,_,_,hx=> .inl hx
 |q+1,j,m,x,hx=>by
  unfold ag.dB;split
  .rcases Gy m (j:O) hx with h|h
   .rcases pW n i q (j+1) _ x h with h|h
    .exact .inl h
    .exact .inr (QJ _ h)
   .exact .inr (Qw _ (xU h))
  .exact pW n i q (j+1) m x hx
theorem yv(n:O):∀(l:J Tb.dv)(j i:X)(m:Tb.dv),l[i]?=S m->∃m',(ag.cF n j l).2[i]?=S m'/\∀x∈m.pg,x∈m'.pg\/tG (j+i) x∈(ag.cF n j l).1
 | [],_,_,_,h=>by simp at h
 |a::l,j,0,m,h=>by
  cases h;refine⟨_,U,λx hx=>?_⟩;rcases pW n j 64 0 a x hx with g|g
  .exact .inl g
  .exact .inr (Qw _ g)
 |a::l,j,i+1,m,h=>by
  obtain⟨m',e,g⟩:=yv n l (j+1) i m h;refine⟨m',e,λx hx=>?_⟩;rcases g x hx with g|g
  .exact .inl g
  .rw[show j+(i+1)=j+1+i from by omega]
   exact .inr (QJ _ g)
theorem G3(k:ag)(c:cO):gj k.ae (k.last c).2.ae (k.last c).1:=by
 unfold ag.last;split
 .exact gj.refl _ _
 split
 .intro i m hm
  have:=tT c.obj k.ae 0 i m hm
  rwa [OJ]at this
 split
 .intro i m hm
  have:=yv c.obj k.ae 0 i m hm
  rwa [OJ]at this
 .exact gj.refl _ _
theorem AI(k:ag)(s:Slot):gj k.ae (k.gone s).2.ae (k.gone s).1:=by
 unfold ag.gone;split
 .exact gj.refl _ _
 .exact G3 (k.taken s) _
theorem xM:∀(l:J Slot)(k:ag),gj k.ae (ag.cA l k).2.ae (ag.cA l k).1
 | [],k=>gj.refl _ _
 |a::l,k=>(AI k a).trans (xM l (k.gone a).2)
def Pp(k:ag)(r:Told × ag):Prop:=r.1.forget.length+jC r.2.ae<=jC k.ae+1/\gj k.ae r.2.ae r.1.forget
theorem Pp.same{k:ag}{r:Told × ag}(h1:r.1.forget= [])(h2:r.2.ae=k.ae):Pp k r:=by unfold Pp;rw[h1,h2];exact⟨qc,gj.refl _ _⟩
theorem Pp.from{k k1:ag}{r:Told × ag}(e:k1.ae=k.ae)(h:Pp k1 r):Pp k r:=by
 unfold Pp at*
 rw[e]at h;exact h
theorem DV:∀{l:J Tb.dv}{j:X}{m p:Tb.dv},l[j]?=S m->jC (l.set j p)+m.pg.length=jC l+p.pg.length
 | [],_,_,_,h=>by simp at h
 |a::l,0,m,p,h=>by cases h;simp only[jC,Pj,OZ,Rt];omega
 |a::l,j+1,m,p,h=>by
  have:=DV (l:=l) (j:=j) (m:=m) (p:=p) h;simp only[jC,OI,OZ,Rt]at*
  omega
theorem Pp.kR{k:ag}{n:O}{p:Tb.dv}{t:Told}(hl:t.forget.length+p.pg.length<=(k.hI n).pg.length+1)(hs:∀x∈(k.hI n).pg,x∈p.pg\/tG n.toNat x∈t.forget)
  (h0:(k.hI n).pg= []->t.forget= []):Pp k (t,k.kR n p):=by
 unfold ag.hI at hl hs h0;cases hm:k.ae[n.toNat]? with
 |none=>
  rw[hm]at h0;refine Pp.same (h0 U) ?_;show k.ae.set n.toNat p=k.ae;exact RC (List.getElem?_eq_none_iff.1 hm)
 |some m=>
  rw[hm]at hl hs;have h1:=DV (p:=p) hm;simp only[PM]at hl hs;exact⟨by show t.forget.length+jC (k.ae.set n.toNat p)<=_;omega,gj.set hm hs⟩
theorem GP(P:Tb.fH)(k:O)(v:Tb.Pg):(Tb.jU P k v).length<=P.length+1:=by
 induction P with
 |nil=>simp[Tb.jU]
 |cons x P ih=>
  simp only[Tb.jU];split
  .simp
  split
  .simp
  .simp only[OB];omega
theorem GQ{P:Tb.fH}{k:O}{v:Tb.Pg}(h:Tb.look P k=I){x:O × Tb.Pg}(hx:x∈P):x∈Tb.jU P k v:=by
 induction P with
 |nil=>cases hx
 |cons y P ih=>
  have hn:=Tb.cX.1 h;have hy:y.1≠k:=hn y Po;simp only[Tb.jU];split
  .exact Pq _ hx
  rcases Oz.1 hx with e|hx
  .subst e;exact Po
  .exact Pq _ (ih (Tb.cX.2 λz hz=>hn z (Pq _ hz)) hx)
theorem KL(m:Tb.dv)(a:O)(p:Tb.Pg):(m.nF a p).2.pg.length<=m.pg.length+1/\∀x∈m.pg,x∈(m.nF a p).2.pg:=by
 unfold Tb.dv.nF;split
 .exact ⟨qc,λx hx=>hx⟩
 split
 .exact ⟨qc,λx hx=>hx⟩
 split
 .exact ⟨qc,λx hx=>hx⟩
 .rename_i hl
  exact⟨GP _ _ _,λx hx=>GQ (by cases e:Tb.look m.pg a with|none=>rfl|some v=>rw[e]at hl;exact qi U hl) hx⟩
theorem BM(m:Tb.dv)(i n:O):(m.gZ i n).2.pg=m.pg:=by
 unfold Tb.dv.gZ;split
 .rfl
 split<;>rfl
theorem Jd(k:ag)(core a b:O)(at_:X):∃ae1,(k.made core a b at_).2.ae=k.ae++ae1/\jC ae1=0:=by
 unfold ag.made;repeat' split
 all_goals first
  |exact⟨[Tb.iF],U,U⟩
  |exact⟨[],(OD _).symm,U⟩
theorem A9(core a b w:O)(s:Slot):∀(l:J X)(j:X)(k:ag),∃ae1,(ag.makes core a b w s l j k).ae=k.ae++ae1/\jC ae1=0
 | [],j,k=>⟨[],by simp[ag.makes],rfl⟩
 |at_::r,j,k=>by obtain⟨ae1,h1,h2⟩:=Jd k core a b at_;obtain⟨aeY,h3,h4⟩:=A9 core a b w s r (j+1) ((k.made core a b at_).2.laid s (0,w+(j:O)) ⟨a,(k.made core a b at_).1,7,0,0,0⟩);refine⟨ae1++aeY,?_,by rw[oE,h2,h4]⟩;rw[<-O1,<-h1];exact h3
theorem yl(k:ag)(n g:O):(k.a8 n g).2.ae=k.ae:=by unfold ag.a8;split<;>rfl
theorem AZ(k:ag)(r:(qg (O × O)× O)× wR):(k.gP r).2.2.ae=k.ae:=by
 unfold ag.gP;split
 .rfl
 .exact yl _ _ _
theorem zy(k:ag)(d:pZ):(k.rest d).ae=k.ae:=by unfold ag.rest;split<;>rfl
theorem Fs:Pp k (ag.tell (k.eG d).1 (k.eG d).2):=by
 unfold ag.eG;split
 .exact Pp.same U U
 split
 .exact Pp.same U U
 split
 .exact Pp.same U U
 .obtain ⟨ae1,h1,h2⟩:=A9 d.core d.call.a d.call.b d.call.ar d.s (bA (k.jy d.c.obj) d.call.a d.call.b d.call.c).1 0 { k with u:=k.u.set d.c.obj.toNat (bA (k.jy d.c.obj) d.call.a d.call.b d.call.c).2.1}
  unfold Pp ag.tell;dsimp only at h1|-;rw[h1];exact⟨by rw[oE,h2];simp,gj.app _ _ _⟩
theorem IG(hk:bj ae6 k)(ho:0<=d.c.obj):Pp k (k.asks d):=by
 unfold ag.asks;split
 .exact Fs
 .unfold ag.mK;repeat' split
  all_goals exact Pp.same U U
 .unfold ag.move;repeat' split
  all_goals exact Pp.same U U
 .split
  .exact Pp.same U U
  .exact ⟨by have:=DE k d.s;dsimp only;omega,AI k d.s⟩
 .unfold ag.jm
  have h1:=rz (Tr.cq k.T d.s).reverse k;have h2:=xM (Tr.cq k.T d.s).reverse k;split
  .exact ⟨by show _+jC (ag.cA (Tr.cq k.T d.s).reverse k).2.ae<=_;dsimp only;omega,h2⟩
  .exact ⟨by dsimp only;omega,h2⟩
 .unfold ag.resume;split
  all_goals exact Pp.same U U
 .exact Pp.same U U
 .exact Pp.same U U
 .unfold ag.send;repeat' split
  .exact Pp.same U U
  .exact Pp.same U (zy _ _)
  .exact Pp.same U U
 .unfold ag.recv;repeat' split
  .exact Pp.same U U
  .exact Pp.same U (zy _ _)
  .exact Pp.same U U
 .exact Pp.same U (yl _ _ _)
 .unfold ag.wait;split
  .exact Pp.same U U
  .refine Pp.same U ?_
   dsimp only;split
   .rfl
   .exact zy _ _
 .unfold ag.table;split
  .exact Pp.same U U
  .exact Pp.kR (by rw[BM];simp) (λx hx=> .inl (by rw[BM];exact hx)) λ_=>rfl
 .unfold ag.mapped;split
  .exact Pp.same U U
  .obtain ⟨h1,h2⟩:=KL (k.hI (k.aX d.call.ar).obj) d.call.a (d.c.obj,da .i64 d.c.ak d.call.b)
   exact Pp.kR (by simpa using h1) (λx hx=> .inl (h2 x hx)) λ_=>rfl
 .unfold ag.lJ
  unfold Tb.dv.bV;split
  .exact Pp.kR qc (λx hx=> .inl hx) λ_=>rfl
  .cases hl:Tb.look (k.hI d.c.obj).pg d.call.a with
   |none=>exact Pp.kR qc (λx hx=> .inl hx) λ_=>rfl
   |some p=>
    refine Pp.kR ?_ (λx hx=>?_) λe=>?_
    .have:=OR (λx:O × Tb.Pg=>x.1 !=d.call.a) (k.hI d.c.obj).pg
     simp only[Tb.mJ,qz,OB,PY];omega
    .by_cases e:x.1=d.call.a
     .refine .inr ?_
      obtain⟨x1,x2⟩:=x;dsimp only at e;subst e;have hu:x2=p:=by have:=(hk.BC d.c.obj).kU.look hx;rw[hl]at this;exact(Option.some.inj this).symm
      subst hu;dsimp only;rw[A U];unfold tG;rw[Int.toNat_of_nonneg ho];exact OY.2 U
     .exact .inl ((Tb.uy _).2 ⟨hx,e⟩)
    .rw[e]at hl;cases hl
 .unfold ag.bind;split
  .exact Pp.same U U
  .exact Pp.same U U
 .exact Pp.same U (AZ _ _)
theorem Gx(hk:bj ae6 k)(core:O)(c:Call):Pp k (k.do core c):=by
 unfold ag.do
 split
 .exact Pp.same U U
 split
 .exact Pp.same U U
 split
 .exact Pp.same U U
 .unfold ag.asked
  split
  .exact Pp.same U U
  split
  .exact Pp.same U U
  .refine Pp.from (k1:=k.bQ (k.t.aV core)) U (IG (hk.pick core) ?_)
   show 0<=(ag.aX _ _).obj;unfold ag.aX;split
   .cases hh:(k.bQ (k.t.aV core)).H (0,c.at_)with
    |none=>exact RK 0
    |some x=>exact((hk.held _ _ hh).2).1
   .exact RK 0
theorem GV(k:ag)(line:O):(k.irq line).2.2.ae=k.ae:=AZ _ _
end
namespace Mc
section
variable{B:X}{w0 w:Y}{R L:J aH}{b nc ae6 g:X}{m:dC}
theorem nq(s p:O)(l:J dP):(drop s p l).length<=l.length:=OR _ _
theorem GC{room:O}{x:dP}{l:J dP}(h1:1<=room)(h:(l.length:O)<=room):((fill room x l).length:O)<=room:=by
 have hd:=nq x.space x.bC l;unfold fill;split
 .rename_i e
  simp only[Ov,List.length_drop,OB,PY];omega
 .rename_i e
  simp only[Ov,OB,PY];omega
structure de(nc ae6 g:X)(m:dC):Prop where
 n1:1<=nc
 n8:nc<=8
 cs:m.cs.length=nc
 bx:m.bx.length=nc
 r1:1<=m.room
 r8:m.room<=8
 tl:∀c∈m.cs,(c.tl.length:O)<=m.room
 nr:∀c∈m.cs,c.dw≠0->0<=c.n/\c.n<(m.prog.length:O)
 fg:∀c∈m.cs,c.told.forget.length<=g
 JT:∀l∈m.bx,l.length<=64
 LU:m.line.Nodup
 lr:∀c∈m.line,0<=c/\c<(nc:O)
 k:bj ae6 m.k
 pg:jC m.k.ae<=g
theorem de.mono{nc ae6 g N' g':X}{m:dC}(h:de nc ae6 g m)(h1:ae6<=N')(h2:g<=g'):de nc N' g' m:=
 { h with fg:=λc hc=>ON (h.fg c hc) h2,k:=h.k.mono h1,pg:=ON h.pg h2}
theorem jY{α:Type}{l:J α}{i:X}{x y:α}(h:y∈l.set i x):y∈l\/y=x:=Px h
theorem de.IT(h:de nc ae6 g m){n:O}(h0:0<=n)(h1:n<(nc:O)):m.cs[n.toNat]?=S (m.ao n)/\m.ao n∈m.cs:=by
 have hc:=h.cs;have hl:n.toNat<m.cs.length:=om
 have e:m.cs[n.toNat]?=S m.cs[n.toNat]:=gE hl;unfold dC.ao;rw[e];exact⟨U,Ph hl⟩
theorem de.ib(h:de nc ae6 g m){n:O}{c:zV}(ht:(c.tl.length:O)<=m.room)(hn:c.dw≠0->0<=c.n/\c.n<(m.prog.length:O))(hf:c.told.forget.length<=g):de nc ae6 g (m.ib n c):=
 { h with
  cs:=by show(m.cs.set _ _).length=nc;rw[Pe];exact h.cs
  tl:=λx hx=>(jY hx).elim (λhx=>h.tl x hx) λe=>by rw[e];exact ht
  nr:=λx hx=>(jY hx).elim (λhx=>h.nr x hx) λe=>by rw[e];exact hn
  fg:=λx hx=>(jY hx).elim (λhx=>h.fg x hx) λe=>by rw[e];exact hf}
theorem Ab(f a:O)(bx:J (J fk)):(pk f a bx).length=bx.length:=by
 unfold pk;split
 .rfl
 .simp
theorem Du{f a:O}{bx:J (J fk)}(h:∀l∈bx,l.length<=64):∀l∈pk f a bx,l.length<=64:=by
 unfold pk;split
 .exact h
 .rename_i hn
  intro l hl;obtain⟨i,hi,e⟩:=List.mem_mapIdx.1 hl;have hm:=h _ (Ph hi);split at e
  .rw[<-e];exact hm
  .rename_i hne
   have hlt:(bx[i]).length<64:=by rw[Bool.not_eq_true,List.any_eq_false]at hn;have:=hn i (PQ.2 hi);rw[gE hi]at this;simp only[PM,OH,qA,not_and]at this;have:=this hne;omega
   rw[<-e];simp;omega
theorem de.kI(hN:G)(n:O):∀(l:J dP)(m:dC),de nc ae6 g m->de nc ae6 g (dC.kI n l m)/\(dC.kI n l m).prog=m.prog
 | [],m,h=>⟨h,U⟩
 |x::l,m,h=>by
  have hb:de nc ae6 g { m with cs:=m.cs.set n.toNat { m.ao n with tl:=drop x.space x.bC (m.ao n).tl},bx:=pk n (qd.wrap (qd.wrap (x.space*4096)+x.bC)) m.bx}:=by
   have hz:∀c∈m.cs.set n.toNat { m.ao n with tl:=drop x.space x.bC (m.ao n).tl},c∈m.cs\/∃c'∈m.cs,c={ c' with tl:=drop x.space x.bC c'.tl}:=λc hc=>by
    by_cases hl:n.toNat<m.cs.length
    .rcases jY hc with hc|hc
     .exact .inl hc
     .refine .inr ⟨m.ao n,?_,hc⟩
      unfold dC.ao;rw[gE hl];exact Ph hl
    .rw[RC om]at hc
     exact .inl hc
   exact { h with
    cs:=by show(m.cs.set _ _).length=nc;rw[Pe];exact h.cs
    bx:=by show(pk _ _ _).length=nc;rw[Ab];exact h.bx
    tl:=λc hc=>by
     rcases hz c hc with hm|⟨c',hm,rfl⟩
     .exact h.tl c hm
     .have:=h.tl c' hm
      have:=nq x.space x.bC c'.tl;dsimp only;omega
    nr:=λc hc=>by
     rcases hz c hc with hm|⟨c',hm,rfl⟩
     .exact h.nr c hm
     .exact h.nr c' hm
    fg:=λc hc=>by
     rcases hz c hc with hm|⟨c',hm,rfl⟩
     .exact h.fg c hm
     .exact h.fg c' hm
    JT:=Du h.JT}
  exact de.kI hN n l _ hb
theorem xD{n:O}{c:zV}(hn:n.toNat<m.cs.length):(m.ib n c).ao n=c:=by unfold dC.ao dC.ib;dsimp only;rw[O0 hn];rfl
def eA(l:J dP)(t:J dP):J dP:=l.foldl (λt x=>drop x.space x.bC t) t
def uw(x:dP):O:=qd.wrap (qd.wrap (x.space*4096)+x.bC)
def sendAll(n:O)(l:J dP)(b:J (J fk)):J (J fk):=l.foldl (λb x=>pk n (uw x) b) b
theorem wm(n:O):∀(l:J dP)(m:dC),n.toNat<m.cs.length->dC.kI n l m={ m with cs:=m.cs.set n.toNat { m.ao n with tl:=eA l (m.ao n).tl},bx:=sendAll n l m.bx}
 | [],m,h=>by
  have e:m.cs.set n.toNat { m.ao n with tl:=eA [] (m.ao n).tl}=m.cs:=by show m.cs.set n.toNat (m.ao n)=m.cs;unfold dC.ao;rw[gE h];exact Qn h
  show m=_;rw[e];rfl
 |x::l,m,h=>by
  show dC.kI n l _=_;rw[wm n l _ (by show n.toNat<(m.cs.set _ _).length;rw[Pe];exact h)];have e:(dC.ao { m with cs:=m.cs.set n.toNat { m.ao n with tl:=drop x.space x.bC (m.ao n).tl},bx:=pk n (qd.wrap (qd.wrap (x.space*4096)+x.bC)) m.bx} n)={ m.ao n with tl:=drop x.space x.bC (m.ao n).tl}:=by unfold dC.ao;dsimp only;rw[O0 h];rfl
  rw[e];dsimp only;rw[List.set_set];rfl
theorem de.Gv(h:de nc ae6 g m)(hN:ae6+64<=100000){n:O}(h0:0<=n)(h1:n<(nc:O))(hd:(m.ao n).dw≠0):de nc (ae6+64) (g+1) (m.Gv n).2/\(m.Gv n).1.t.forget.length<=g+1:=by
 obtain⟨hc1,hc2⟩:=h.IT h0 h1;obtain⟨p1,p2⟩:=Gx h.k n (m.bS n);have hpg:=h.pg;have a1:de nc (ae6+64) (g+1) ({ m with k:=(m.k.do n (m.bS n)).2}.ib n { m.ao n with told:=(m.k.do n (m.bS n)).1}):=by refine de.ib (m:={ m with k:=(m.k.do n (m.bS n)).2}) ?_ (h.tl (m.ao n) hc2) (λ_=>h.nr (m.ao n) hc2 hd) (by show(m.k.do n (m.bS n)).1.forget.length<=_;omega);exact { h.mono (Qt ae6 64) (Qt g 1)with k:=h.k.do hN n (m.bS n),pg:=by show jC (m.k.do n (m.bS n)).2.ae<=_;omega}
 obtain⟨a2,hp⟩:=a1.kI trivial n (m.k.do n (m.bS n)).1.forget _;refine⟨?_,by show(m.k.do n (m.bS n)).1.forget.length<=_;omega⟩;obtain⟨_,hc3⟩:=a2.IT h0 h1;have hlt:n.toNat<m.cs.length:=(Om.1 hc1).1;have hq:(dC.kI n (m.k.do n (m.bS n)).1.forget ({ m with k:=(m.k.do n (m.bS n)).2}.ib n { m.ao n with told:=(m.k.do n (m.bS n)).1})).ao n={ m.ao n with tl:=eA (m.k.do n (m.bS n)).1.forget (m.ao n).tl,told:=(m.k.do n (m.bS n)).1}:=by rw[wm n _ _ (by show n.toNat<(m.cs.set _ _).length;rw[Pe];exact hlt)];rw[xD (m:={ m with k:=(m.k.do n (m.bS n)).2}) hlt];unfold dC.ao dC.ib;dsimp only;rw[O0 (by rw[Pe];exact hlt)];rfl
 have t3:=a2.tl _ hc3;have t4:=a2.fg _ hc3;refine a2.ib t3 (λ_=>?_) t4;rw[hq,hp];exact h.nr (m.ao n) hc2 hd
theorem de.step(h:de nc ae6 g m)(hN:ae6+64<=100000){n:O}(h0:0<=n)(h1:n<(nc:O)):de nc (ae6+64) (g+1) (m.step n).2/\∀s,(m.step n).1=S s->s.t.forget.length<=g+1:=by
 obtain⟨hc1,hc2⟩:=h.IT h0 h1;have h':=h.mono (Qt ae6 64) (Qt g 1);unfold dC.step;split
 .rename_i x r hb
  refine⟨?_,λs e=>by cases e⟩;have hd:=nq (qd.wrap (x.about.tdiv 4096)) (x.about.tmod 4096) (m.ao n).tl;have ht:=h.tl (m.ao n) hc2;have a:=h'.ib (n:=n) (c:={ m.ao n with tl:=drop (qd.wrap (x.about.tdiv 4096)) (x.about.tmod 4096) (m.ao n).tl}) (by dsimp only;omega) (h.nr (m.ao n) hc2) (h'.fg (m.ao n) hc2);exact { a with
   bx:=by show(m.bx.set _ _).length=nc;rw[Pe];exact h.bx
   JT:=λl hl=>by
    rcases jY hl with hl|hl
    .exact h.JT l hl
    .have hm:m.box n∈m.bx:=by
      unfold dC.box at hb|-;cases e:m.bx[n.toNat]? with
      |none=>rw[e]at hb;cases hb
      |some l=>exact OV e
     have:=h.JT _ hm;rw[hl,List.length_tail];omega}
 .split
  .refine ⟨?_,λs e=>by cases e;exact Qi _⟩
   rename_i hd;have a:=h'.ib (n:=n) (c:={ m.ao n with dw:=2}) (h.tl (m.ao n) hc2) (λ_=>h.nr (m.ao n) hc2 (by rw[hd];decide)) (h'.fg (m.ao n) hc2);exact { a with
    LU:=by
     show(lS m.line n).Nodup;unfold lS;split
     .exact h.LU
     .rename_i hn
      exact PZ.2 ⟨h.LU,qc,λa ha b hb=>by rw[OY]at hb;rintro rfl;exact hn (hb▸ha)⟩
    lr:=λc hc=>by
     unfold dC.ib lS at hc;dsimp only at hc;split at hc
     .exact h.lr c hc
     .rcases Pn.1 hc with hc|hc
      .exact h.lr c hc
      .rw[OY.1 hc];exact⟨h0,h1⟩}
  split
  .split
   .rename_i hd _
    obtain⟨a,b⟩:=h.Gv hN h0 h1 (by rw[hd];decide);exact⟨a,λs e=>by cases e;exact b⟩
   .exact ⟨h',λs e=>by cases e⟩
  split
  .refine ⟨?_,λs e=>by cases e;exact(h'.fg (m.ao n) hc2)⟩
   have a:=h'.ib (n:=n) (c:={ m.ao n with dw:=0}) (h.tl (m.ao n) hc2) (λhh=>qi U hh) (h'.fg (m.ao n) hc2);have hsub:(lW m.line n).Sublist m.line:=by
    unfold lW;split
    .exact List.tail_sublist _
    .exact List.Sublist.refl _
   exact { a with
    LU:=h.LU.sublist hsub
    lr:=λc hc=>h.lr c (hsub.subset hc)}
  .exact ⟨h',λs e=>by cases e⟩
theorem EY{bC:O}{t:J dP}(h1:1<=m.room)(ht:(t.length:O)<=m.room):((m.loadT bC t).2.2.length:O)<=m.room:=by
 unfold dC.loadT;split
 .exact ht
 split
 .exact GC h1 ht
 .exact ht
theorem de.load(h:de nc ae6 g m){n bC:O}(h0:0<=n)(h1:n<(nc:O)):de nc ae6 g (m.load n bC).2:=by obtain⟨hc1,hc2⟩:=h.IT h0 h1;exact h.ib (EY h.r1 (h.tl (m.ao n) hc2)) (h.nr (m.ao n) hc2) (h.fg (m.ao n) hc2)
theorem de.user(h:de nc ae6 g m){x:Item}(h0:0<=x.core)(h1:x.core<(nc:O))(ha:0<=x.a):de nc ae6 g (m.user x).2/\∀s,(m.user x).1=S s->s.t.forget.length<=g:=by
 obtain⟨hc1,hc2⟩:=h.IT h0 h1;unfold dC.user;split
 .exact ⟨h,λs e=>by cases e⟩
 split
 .exact ⟨h.load h0 h1,λs e=>by cases e;exact Qi _⟩
 split
 .rename_i hl
  exact⟨h.ib (h.tl (m.ao x.core) hc2) (λ_=>⟨ha,hl⟩) (h.fg (m.ao x.core) hc2),λs e=>by cases e⟩
 .exact ⟨h,λs e=>by cases e⟩
theorem td{x:Item}{c:O}:iH x c=V↔0<=x.kind/\x.kind<4/\0<=x.core/\x.core<min c 8/\(0<=x.a/\x.a<=255)/\(0<=x.b/\x.b<=255):=by unfold iH;exact decide_eq_true_iff
theorem de.item(h:de nc ae6 g m)(hN:ae6+64<=100000)(x:Item):de nc (ae6+64) (g+1) (m.item x).2/\∀s,(m.item x).1=S s->s.t.forget.length<=g+1:=by
 have h':=h.mono (Qt ae6 64) (Qt g 1);have hcs:=h.cs;unfold dC.item;split
 .exact ⟨h',λs e=>by cases e⟩
 rename_i hr;have hr:iH x m.cs.length=true:=by cases e:iH x m.cs.length with|true=>rfl|false=>exact qi e hr
 obtain⟨k0,k1,c0,c1,⟨a0,a1⟩,b0,b1⟩:=td.1 hr;have c2:x.core<(nc:O):=om
 split
 .obtain ⟨a,b⟩:=h.user c0 c2 a0
  exact⟨a.mono (Qt ae6 64) (Qt g 1),λs e=>ON (b s e) (Qt g 1)⟩
 split
 .exact h.step hN c0 c2
 split
 .exact ⟨h',λs e=>by cases e⟩
 split
 .refine ⟨{ h' with k:=(h.k.irq x.a).mono om,pg:=by show jC (m.k.irq x.a).2.2.ae<=_;rw[GV];exact h'.pg},λs e=>by cases e;exact Qi _⟩
 .exact ⟨{ h' with k:=(h.k.tick x.core).mono om},λs e=>by cases e;exact Qi _⟩
def cD:dF fk:=⟨3,λo=>[.z o.gk,.z o.kind,.z o.about],λ_=>rfl,λx v h=>by simp only[Oz,Ps,qC]at h;rcases h with rfl|rfl|rfl<;>rfl,qb⟩
def bW:dF Call:=⟨6,λo=>o.cl,λ_=>rfl,λx v h=>by simp only[Oz,Ps,qC]at h;rcases h with rfl|rfl|rfl|rfl|rfl|rfl<;>rfl,qb⟩
def mL:dF (qg X):=⟨1,λo=>[.pointer (o.map λp=>⟨p,0,I⟩)],λ_=>rfl,λx v h=>by simp only[Oz,Ps,qC]at h;subst h;rfl,qb⟩
structure Cm where
 p:X
 dw:O
 n:O
 e:O
 w:O
 wk:O
 fs:Sl
def db:dF Cm:=⟨7,λo=>[.q o.p,.z o.dw,.z o.n,.z o.e,.y o.w,.z o.wk,o.fs.v],λ_=>rfl,λx v h=>by simp only[Oz,Ps,qC]at h;rcases h with rfl|rfl|rfl|rfl|rfl|rfl|rfl<;>rfl,qb⟩
def fm(b:X)(room:O)(l:J dP):aH:=pa λs:Sl=>bo [aa b [s.v,.z room],af aA s l]
def eY(room:O)(p:X)(x:zV × Sl):aH:=bo [fm p room x.1.tl,af aA x.2 x.1.told.forget]
def dY(b:X)(bx:J (J fk)):aH:=pa λx:Sl × J Sl=>bo [aa b [x.1.v],af pU x.1 x.2,cU cD x.2 bx]
def fJ(p:X)(x:qg X × O):aH:=aa p [.z x.2,.pointer (x.1.map λq=>⟨q,0,I⟩),.bool V]
def kr:qg X->aH
 |none=>bo []
 |some q=>pa λc:O=>aa q [.z c,.pointer I,.bool Z]
structure Lx where
 a0:qg X
 s:Sl
 vd:J (qg X)
 ps:J X
structure Ix(nc:X)(line:J O)(x:Lx):Prop where
 len:x.vd.length=nc
 ps:x.ps.length=line.length
 nd:line.Nodup
 zT:∀c∈line,0<=c/\c<(nc:O)
 at_:∀(j:X)(c:O)(p:X),line[j]?=S c->x.ps[j]?=S p->x.vd[c.toNat]?=S (S p)
 no:∀i:X,i<nc->(i:O)∉line->x.vd[i]?=S I
def kz:qg X->J X->qg X
 |a,[]=>a
 |_,p::ps=>kz (S p) ps
def chain:qg X->J X->J O->J (qg X × O)
 |a,p::ps,c::cs=>(a,c)::chain (S p) ps cs
 |_,_,_=>[]
abbrev H5(x:Lx):qg X:=kz x.a0 x.ps
abbrev AV(x:Lx)(line:J O):J (qg X × O):=chain x.a0 x.ps line
def ct(b nc:X)(line:J O):aH:=pa λx:Lx=>bo [dJ (Ix nc line x),aa b [.z (nc:O),.pointer ((H5 x).map λq=>⟨q,0,I⟩),x.s.v],af mL x.s x.vd,kr x.a0,au fJ x.ps (AV x line)]
def cm(p:X)(x:zV × Sl):Cm:=⟨p,x.1.dw,x.1.n,x.1.told.e,x.1.told.w,x.1.told.cN,x.2⟩
abbrev kK(ps:J X)(xs:J (zV × Sl)):J Cm:=Ot cm ps xs
structure Mx where
 k:X
 l:X
 b:X
 cs:Sl
 pr:Sl
 ps:J X
 xs:J (zV × Sl)
abbrev dU(x:Mx):J N:=[.q x.k,.q x.l,.q x.b,x.cs.v,x.pr.v]
def dQ(b:X)(m:dC):aH:=pa λx:Mx=>bo [dJ (x.xs.map (·.1)=m.cs),aa b (dU x),aj x.k m.k,ct x.l m.cs.length m.line,dY x.b m.bx,af db x.cs (kK x.ps x.xs),au (eY m.room) x.ps x.xs,af bW x.pr m.prog]
theorem H9{room:O}{l:J dP}(h:Ow B w0 w (fm b room l::R)):∃s:Sl,Ow B w0 w (aa b [s.v,.z room]::af aA s l::R):=by obtain⟨s,h⟩:=h.ex;exact⟨s,h.star⟩
theorem sR{s:Sl}{room:O}{l:J dP}(h:Ow B w0 w (aa b [s.v,.z room]::af aA s l::R)):Ow B w0 w (fm b room l::R):=Ow.eP s (Ow.br h)
theorem Ez{bx:J (J fk)}(h:Ow B w0 w (dY b bx::R)):∃(s:Sl)(ss:J Sl),Ow B w0 w (aa b [s.v]::af pU s ss::cU cD ss bx::R):=by obtain⟨x,h⟩:=h.ex;exact⟨x.1,x.2,h.star⟩
theorem vv{s:Sl}{ss:J Sl}{bx:J (J fk)}(h:Ow B w0 w (aa b [s.v]::af pU s ss::cU cD ss bx::R)):Ow B w0 w (dY b bx::R):=Ow.eP (s,ss) (Ow.br h)
theorem vt{nc:X}{line:J O}(h:Ow B w0 w (ct b nc line::R)):∃x:Lx,Ix nc line x/\Ow B w0 w (aa b [.z (nc:O),.pointer ((H5 x).map λq=>⟨q,0,I⟩),x.s.v]::af mL x.s x.vd::kr x.a0::au fJ x.ps (AV x line)::R):=by obtain⟨x,h⟩:=h.ex;obtain⟨h1,h⟩:=Ow.pure h.star;exact⟨x,h1,h⟩
theorem rI{nc:X}{line:J O}(x:Lx)(hx:Ix nc line x)(h:Ow B w0 w (aa b [.z (nc:O),.pointer ((H5 x).map λq=>⟨q,0,I⟩),x.s.v]::af mL x.s x.vd::kr x.a0::au fJ x.ps (AV x line)::R)):Ow B w0 w (ct b nc line::R):=
 Ow.eP x (Ow.br (Ow.cZ hx h))
theorem CG{m:dC}(h:Ow B w0 w (dQ b m::R)):∃x:Mx,x.xs.map (·.1)=m.cs/\Ow B w0 w (aa b (dU x)::aj x.k m.k::ct x.l m.cs.length m.line::dY x.b m.bx::af db x.cs (kK x.ps x.xs)::au (eY m.room) x.ps x.xs::af bW x.pr m.prog::R):=by obtain⟨x,h⟩:=h.ex;obtain⟨h1,h⟩:=Ow.pure h.star;exact⟨x,h1,h⟩
theorem pH(x:Mx){m:dC}(hx:x.xs.map (·.1)=m.cs)(h:Ow B w0 w (aa b (dU x)::aj x.k m.k::ct x.l m.cs.length m.line::dY x.b m.bx::af db x.cs (kK x.ps x.xs)::au (eY m.room) x.ps x.xs::af bW x.pr m.prog::R)):Ow B w0 w (dQ b m::R):=
 Ow.eP x (Ow.br (Ow.cZ hx h))
end
end Mc
end Go.Vc
