/- What the row rests on: the declarations that it needs, out of my texts (part 7). -/
import Derived.Test.YtfgikfglabdeoaaGreatZp6
import Derived.LoopIn
import Derived.LoopNIn
import Derived.Maps.AppendAt
import Derived.OwnWalkIn
import Derived.RangeFuncBox
import Derived.RangeFuncCalls
import Derived.RangeFuncGives
import Derived.RangeFuncIn
import Derived.RangeFuncLeaves
import Derived.RangeFuncNested
import Derived.RangeFuncRecord
import Derived.RangeFuncSeq
import Derived.Shelf.Abstract
import Derived.Sort.MapsRangeIn
import Derived.TacticsInMore
open Bool renaming false->qd,true->G
open Decidable renaming decide->qe
open Go renaming Addr->qf,MapEntry->qH,Oper->qx,Operand->qD,Program->qo,TypeId->qi,Value->V,World->W,execOp->qy
open Go.IntKind renaming i64->qj,u64->qA
open Go.Proofs.Tryz renaming f154->akh,prog->qh,t155->qY,t173->akv,t177->akw,t201->aku,t289->akn,t98->akm,t99->akx,underlying101->akY,underlying104->akW,underlying105->akX,underlying124->aj8,underlying232->qR,underlying287->qM,underlying3->qC,underlying40->aj4
open Option renaming none->Q,some->X
open _root_ renaming Array->qw,Bool->I,False->qm,Int->U,List->J,Nat->S,Option->qg,True->qu,absurd->qk,bne_iff_ne->qQ,congrArg->qz,decide_eq_decide->qP,decide_eq_false->ql,decide_eq_false_iff_not->aj6,decide_eq_true->qp,decide_eq_true_eq->qF,if_false->qB,if_neg->Y,if_pos->Z,if_true->qE,or_false->qG,rfl->O
open Go.Proofs.Tryz
open Array renaming getElem?_append_left->VG,getElem?_eq_some_iff->Te,getElem?_modify->UX,getElem?_setIfInBounds_ne->UE,length_toList->TH,mem_toList_iff->U4,replicate_succ->VA,replicate_zero->VB,toList_filter->Va
open Bool renaming and_eq_true->S4,eq_iff_iff->UF,false_and->Uj,not_eq_true'->Vk,or_eq_true->TV,true_and->Uo
open Decidable renaming byContradiction->VO
open Int renaming eq_ofNat_of_zero_le->SI,le_refl->VM
open List renaming all_eq_true->Vd,any_eq_true->TY,append_assoc->S6,append_nil->SL,append_toArray->VN,cons_append->T2,drop_eq_getElem_cons->TB,drop_of_length_le->Ui,drop_zero->T9,eq_nil_of_length_eq_zero->TQ,eraseIdx_eq_take_drop_succ->Wd,filter_eq_self->TF,filter_filter->Up,findIdx?_eq_none_iff->Tt,findIdx?_eq_some_iff_getElem->Tc,flatMap_cons->T5,getElem!_eq_getElem?_getD->Vu,getElem!_toArray->WW,getElem?_append_left->SM,getElem?_append_right->SP,getElem?_drop->S8,getElem?_eq_some_iff->Sz,getElem?_map->S2,getElem?_set_self->SQ,getElem?_take->S5,getElem_mem->Tq,length->TO,length_append->SG,length_cons->SJ,length_filter_le->S3,length_map->S9,length_nil->TU,length_set->Ti,length_take->SN,map_append->S0,map_cons->S7,map_map->Ux,map_nil->Uf,mem_append->Tv,mem_append_left->UO,mem_append_right->UZ,mem_cons->SH,mem_cons_of_mem->TC,mem_cons_self->Tz,mem_filter->SV,mem_iff_getElem?->Tg,mem_map->Tj,mem_of_getElem?->SU,mem_or_eq_of_mem_set->TN,mem_range->T6,mem_reverse->VE,mem_singleton->Tf,mergeSort_perm->Wp,nil_append->TG,nodup_append->Ug,nodup_cons->Tx,not_mem_nil->TE,pairwise_map->UR,pairwise_reverse->Vy,perm_middle->Tw,push_toArray->V0,range->SF,reverse_nil->V7,set_append_right->Uy,set_cons_succ->S1,set_cons_zero->Tu,set_eq_of_length_le->VS,set_getElem_self->UH,size_toArray->Vl,sum_cons->UW,take_add_one->SO,take_append_drop->Tl,take_of_length_le->SE,take_zero->TZ,zipWith->SC
open Nat renaming add_assoc->UN,add_mul->TX,le_add_right->UL,le_refl->SA,le_succ->Ue,le_trans->SY,min_eq_left->TL,mod_eq_of_lt->Tn,reduceAdd->V3,reduceSub->V4,sub_self->Uh,zero_add->SS,zero_le->UA
open Option renaming getD_some->TR,isSome_iff_exists->Uc,map_eq_some_iff->Ut
set_option maxRecDepth 100000
set_option maxHeartbeats 4000000
set_option linter.all false
namespace Go.Vc
open Go.Proofs Go.RowKit Go.Shelf
open Go.ChangeMaps (setBlock)
attribute [local go_sem] Oper.semAt_some
namespace Sl
section
variable{F:Fence}{n:S}{P:qo}(w:W){ops:qw qx}{rest:J qx}{o:qx}{a:Act}{alf:Exit->Act->Pw}
theorem sM(hg:o.guard=Q)(m:qD)(t:qi)(hop:o.op=Op.range t m){b:S}(hm:a.eval m= .map (X b)){v:V}{w':W}(hrun:(Instr.range t (.map (X b))).run P w= .ok v w')
  (hK:wpListIn F n P ops alf rest (a.put o.dst v) w'):wpListIn F n P ops alf (o::rest) a w:=by
 refine wpListIn_plain hg λK' hK'=>?_;unfold Oper.wpIn;refine⟨?_,?_⟩
 .simp[Oper.about,hop]
 .rw[Oper.semAt_plain F _ _ (by rw[hop];intro c hc';cases hc')]
  simp[qy,hop,hm,hrun,Result.andThen];exact hK' _ _ hK
theorem lZ(hg:o.guard=Q)(it:qD)(hop:o.op=Op.next it qd){p:V}(hit:a.eval it=p){v:V}{w':W}(hrun:(Instr.next p qd o.type).run P w= .ok v w')
  (hK:wpListIn F n P ops alf rest (a.put o.dst v) w'):wpListIn F n P ops alf (o::rest) a w:=by
 refine wpListIn_plain hg λK' hK'=>?_;unfold Oper.wpIn;refine⟨by simp[Oper.about,hop],?_⟩;rw[Oper.semAt_plain F _ _ (by rw[hop];intro c hc';cases hc')];simp[qy,hop,hit,hrun,Result.andThen];exact hK' _ _ hK
theorem Ag:∀(l:J qH)(e:qH),(l.map (·.born)).Nodup->e∈l->l.Perm (e::l.filter λx=>x.born !=e.born)
 | [],e,_,h=>by simp at h
 |a::l,e,hn,h=>by
  rw[S7,Tx]at hn;rw[List.filter_cons];rcases SH.1 h with rfl|h
  .have:l.filter (λx=>x.born !=e.born)=l:=TF.2 λx hx=>by simp only[qQ,ne_eq];exact λe'=>hn.1 (Tj.2 ⟨x,hx,e'⟩)
   simp[this]
  .have hne:(a.born !=e.born)=true:=by simp only[qQ,ne_eq];exact λe'=>hn.1 (Tj.2 ⟨e,h,e'.symm⟩)
   rw[hne,Z O];exact((Ag l e hn.2 h).cons a).trans (List.Perm.swap _ _ _)
theorem HT(es:qw qH)(seen:qw S)(e:qH):(leftOf es (seen.push e.born)).toList=(leftOf es seen).toList.filter λx=>x.born !=e.born:=by unfold leftOf;rw[Va,Va,Up];congr 1;funext x;rw[Array.contains_push];cases hq:(x.born==e.born)<;>simp[bne,hq]
def KD(b it:S)(w:W):S:=match w.heap[b]?,w.heap[it]? with
 |some (.map es _),X (.mapIter _ _ seen _)=>(leftOf es seen).size
 |_,_=>0
theorem Dj{b it:S}{w:W}{es:qw qH}{c:S}{m:qg S}{since c0:S}{seen:qw S}(h1:w.heap[b]?=X (.map es c))(h2:w.heap[it]?=X (.mapIter m since seen c0)):KD b it w=(leftOf es seen).size:=by unfold KD;rw[h1,h2]
def lU(x:U × U):V:= .agg #[.z x.1,.z x.2]
def gu(x:U × U):J V:=[.z x.1,.z x.2]
theorem Bi(w:W)(x y:V)(t:qi):∀j u,[x,y][j]?=X u->(w.alloc (.cells #[x,y] t)).cell? ((w.heap.size.p:qf).add j)=X u:=by
 intro j u hj
 match j,hj with
 |0,hj=>simp at hj;subst hj;simp[Addr.add]
 |1,hj=>simp at hj;subst hj;simp[Addr.add]
theorem NC(x:U × U):lU x= .agg #[.z x.1,.z x.2]:=rfl
def Pm:V->U × U
 | .agg ⟨[.int _ a,.int _ b]⟩=>(a,b)
 |_=>(0,0)
theorem Kt(n:S)(hn:1<=n)(l Bm b:S)(es:qw qH)(c:S)(ks:J (U × U))(hks:es.toList.map (·.key)=ks.map lU)(hborn:(es.toList.map (·.born)).Nodup)(hlt:∀e∈es.toList,e.born<c)(ak8 Jx:J (U × U)->Pw)
  (hY:∀pre x ak9,ak8 pre ak9->pre.length<ks.length->YieldAt Fence.wide (n-1) qh l #[lU x] ak9 λe W'=>
   (e= .returned (.bool G)/\ak8 (pre++ [x]) W'/\KeepsWalks ak9 W')\/(e= .returned (.bool qd)/\Jx (pre++ [x]) W'))
  (ak9:W) (hJ:AbidesFrom ak9.heap.size ak8) (hm:ak9.cell? Bm.p=X (.map (X b))) (hb:ak9.heap[b]?=X (.map es c)) (h0:ak8 [] ak9):
  CallsIn Fence.wide n qh 329 #[.func (.yield l) #[] #[],.q Bm] ak9 λe W'=>(∃v,e= .returned v)/\
   ((∃ss:J (U × U),ss.Perm ks/\ak8 ss W')\/(∃pre:J (U × U),qu/\Jx pre W')):=by
 have hblt:b<ak9.heap.size:=(Te.1 hb).1;refine callsIn_of_wp func329 O trivial ?_ O;simp only[Tryz.ntmps329,Vl,SJ,TU,V3,V4,VA,VB,V0,VN,TG,T2];have hrun:=run_range_map (P:=qh) ak9 232 155 157 b es c qR hb
 gi_wp2_with (first
  |(gi_at_range;refine sM _ O _ 232 O O hrun ?_)
  |gi_in)
 go_frame
 have hW0:∀k,k<ak9.heap.size->(ak9.alloc (.mapIter (X b) c #[] c)).heap[k]?=ak9.heap[k]?:=λk hk=>Below.heap_alloc ak9 _ k hk
 gi_loopw [3] (λ_ wr=>∃(ss:J (U × U))(seen:qw S)(c0:S),wr.heap[b]?=X (.map es c)/\wr.heap[ak9.heap.size]?=X (.mapIter (X b) c seen c0)/\c<=c0/\(ss.map lU++(leftOf es seen).toList.map (·.key)).Perm (es.toList.map (·.key))/\ak8 ss wr)
  (λ_ wr=>KD b ak9.heap.size wr)
 case atStart=>
  refine⟨[],#[],c,(hW0 b hblt).trans hb,by show(ak9.heap.push _)[ak9.heap.size]?=_;simp,SA _,?_,hJ [] ak9 _ Q h0 (World.grownBy_alloc ak9 _ Q) (λr e=>by cases e)⟩;have:leftOf es #[]=es:=by unfold leftOf;simp
  rw[this];exact List.Perm.refl _
 case round=>
  obtain⟨ss,seen,c0,hb1,hi1,hc0,hp,hJs⟩:=hrel;rcases run_next_at (P:=qh) wr 0 ak9.heap.size b c c0 seen es c hi1 hb1 hlt hc0 with⟨hsz,hnx⟩|⟨e,he,w1,hw1,hnx⟩
  .gi_wp2_with (first
    |(gi_at_next;refine lZ _ O _ O O hnx ?_)
    |gi_in)
   go_end0
   have hl:(leftOf es seen).toList= []:=TQ (by simpa using hsz);rw[hl,hks]at hp;simp only[Uf,SL]at hp;have hp2:=hp.map Pm;rw[Ux,Ux]at hp2;have hid:∀l:J (U × U),l.map (Pm∘lU)=l:=λl=>by refine(List.map_congr_left λx _=>rfl).trans (List.map_id _)
   rw[hid,hid]at hp2;exact⟨⟨_,O⟩,.inl ⟨ss,hp2,hJs⟩⟩
  .have hmem:e∈es.toList:=by have:=U4.1 he;unfold leftOf at this;exact U4.2 (Array.mem_filter.1 this).1
   obtain⟨x,hx,hkx⟩:∃x∈ks,lU x=e.key:=by have:e.key∈es.toList.map (·.key):=Tj.2 ⟨e,hmem,O⟩;rw[hks]at this;obtain⟨x,hx,h⟩:=Tj.1 this;exact⟨x,hx,h⟩
   have hne:b≠ak9.heap.size:=om
   have hw1h:w1.heap=wr.heap:=by rcases hw1 with rfl|rfl<;>rfl
   obtain⟨w2,hw2⟩:∃w2,setBlock w1 ak9.heap.size (.mapIter (X b) c (seen.push e.born) c)=w2:=⟨_,O⟩
   rw[hw2]at hnx;have hilt:ak9.heap.size<w1.heap.size:=by rw[hw1h];exact(Te.1 hi1).1
   have hi2:w2.heap[ak9.heap.size]?=X (.mapIter (X b) c (seen.push e.born) c):=by rw[<-hw2];simp[setBlock,Array.getElem?_setIfInBounds_self_of_lt hilt]
   have hb2:w2.heap[b]?=X (.map es c):=by rw[<-hw2];show(w1.heap.setIfInBounds ak9.heap.size _)[b]?=_;rw[UE om,hw1h];exact hb1
   have hen:=run_entry_at (P:=qh) w2 ak9.heap.size b c seen es c e hi2 hb2 hmem hborn;have hg2:wr.grownBy w2 (X ak9.heap.size):=by
    rw[<-hw2];refine⟨?_,?_,?_,?_,λk hk hkr=>?_⟩
    .rcases hw1 with rfl|rfl<;>rfl
    .rcases hw1 with rfl|rfl<;>rfl
    .rcases hw1 with rfl|rfl<;>rfl
    .show wr.heap.size<=(w1.heap.setIfInBounds ak9.heap.size _).size
     rw[Array.size_setIfInBounds,hw1h];exact SA _
    .show (w1.heap.setIfInBounds ak9.heap.size _)[k]?=_
     rw[UE (λe'=>hkr (by rw[e'])),hw1h]
   have hlp:=Ag (leftOf es seen).toList e (by unfold leftOf;rw[Va];exact hborn.sublist (List.filter_sublist.map _)) he;rw[<-HT]at hlp;have hp2:((ss++ [x]).map lU++(leftOf es (seen.push e.born)).toList.map (·.key)).Perm (es.toList.map (·.key)):=by refine List.Perm.trans ?_ hp;rw[S0,S6];refine List.Perm.append_left _ ?_;have:=hlp.map (·.key);rw[S7]at this;show(lU x::_).Perm _;rw[hkx];exact this.symm
   have hsslt:ss.length<ks.length:=by have h1:=hp2.length_eq;have h2:=qz TO hks;simp only[SG,S9,SJ,TU]at h1 h2;omega
   have hJ2:ak8 ss w2:=hJ ss wr w2 (X ak9.heap.size) hJs hg2 (λr e'=>by cases e';exact⟨SA _,_,hi1,O⟩);rw[<-hkx,NC]at hnx hen;obtain⟨x1,x2⟩:=x;dsimp only at hnx hen;have hb2':(w2.alloc (.cells #[.z x1,.z x2] 155)).heap[b]?=X (.map es c):=(Below.heap_alloc w2 _ b (Te.1 hb2).1).trans hb2;have hi2':(w2.alloc (.cells #[.z x1,.z x2] 155)).heap[ak9.heap.size]?=X (.mapIter (X b) c (seen.push e.born) c):=(Below.heap_alloc w2 _ _ (Te.1 hi2).1).trans hi2;have hJ2':=hJ ss w2 _ Q hJ2 (World.grownBy_alloc w2 (.cells #[.z x1,.z x2] 155) Q) (λr e=>by cases e);obtain⟨fn,tmps,assign,body,hy,hR⟩:=hY ss (x1,x2) _ hJ2' hsslt;rw[NC]at hy;dsimp only at hy;have hms:(leftOf es (seen.push e.born)).size<(leftOf es seen).size:=by have h1:=hlp.length_eq;simp only[TH,SJ]at h1;omega
   clear hw2 hkx
   gi_wp2_with (first
    |(gi_at_next;refine lZ _ O _ O O hnx ?_)
    |gi_in)
   refine hR.mono ?_;rintro e2 W3 (⟨rfl,hJ3,hk3⟩|⟨rfl,hJx3⟩)
   .gi_wp2
    have hb3:=hk3.same b _ hb2' O;have hi3:=hk3.same ak9.heap.size _ hi2' O
    go_roundw
    case rel=>exact⟨ss++ [(x1,x2)],seen.push e.born,c,hb3,hi3,SA _,hp2,hJ3⟩
    case measure=>rw[Dj hb3 hi3,Dj hb1 hi1];exact hms
   .gi_wp2
    refine bodyPost_ret (results_none O _ _ _) O ?_;exact⟨⟨_,O⟩,.inr ⟨ss++ [(x1,x2)],trivial,hJx3⟩⟩
theorem Dg(n:S)(hn:1<=n)(Bm b:S)(es:qw qH)(c:S)(ks:J (U × U))(hks:es.toList.map (·.key)=ks.map lU)(hborn:(es.toList.map (·.born)).Nodup)(hlt:∀e∈es.toList,e.born<c)
  (w:W) (hBm:Bm<w.heap.size) (hm:w.cell? Bm.p=X (.map (X b))) (hb:w.heap[b]?=X (.map es c)):
  SeqStops Fence.wide n qh 329 #[.q Bm] lU (λss=>ss.Perm ks) (λ_=>qu) ks.length w:=λl ak8 Jx ak9 hW hJ _ hY h0=>
 Kt n hn l Bm b es c ks hks hborn hlt ak8 Jx hY ak9 hJ ((hW.cell (p:=⟨Bm,0,Q⟩) hBm).trans hm) ((hW.block b (Te.1 hb).1).trans hb) h0
theorem PA:(qh.info? 155).map (λi=>(i.zero,i.size,i.bytes))=X (X (.agg #[.z 0,.z 0]),2,16):=qa
theorem EH(g:S)(lb:qw V)(eg:∀args w,(callFunc g args).run qh w= .ok (.enter g args) w)(ak6:J (U × U)->Prop)(N:S)(hN:N<=1000000)(w:W)(hseq:SeqStops Fence.wide 1 qh g lb lU ak6 (λ_=>qu) N w):
  CallsIn Fence.wide 2 qh 384 #[.slice Q 0 0,.func (.func g) #[] lb] w λe w'=>∃(v:V)(ss:J (U × U)),e= .returned v/\ak6 ss/\w'.ownsRow w.heap.size 155 2 v ss.length (ss.flatMap gu)/\Below w.heap.size w w':=by
 obtain⟨i0,hi,hz0,hz1,hz2⟩:=info_parts PA;refine callsIn_of_wp_marks func384 O trivial ?_ O;simp only[Tryz.ntmps384,Vl,SJ,TU,V3,V4,VA,VB,V0,VN,TG,T2]
 gi_wp2
 have bO:=Boxed.new w 124 (.slice Q 0 0);have hB0:Below w.heap.size w (w.alloc (.cells #[.slice Q 0 0] 124)):=(Below.refl _ w).alloc (SA _) _;refine wpIn_rangeFunc_ownH (α:=U × U) (encs:=λx=> #[lU x]) (Kp:=KeepsWalks) O qb (gf:=g) (lb:=lb) O trivial eg hseq walksK_t walksK_b hB0 (λ_=>rfl)
  (λ(pre:J (U × U))ak9=>(∃v,Boxed ak9 w.heap.size 124 v/\ak9.ownsRow w.heap.size 155 2 v pre.length (pre.flatMap gu)/\qu)/\Below w.heap.size w ak9)
  (λ_ _ _=>qm)
  (OwnFrom.and (Own.from (holdsRow_own w.heap.size w.heap.size 124 155 2 (λ(pre:J (U × U))=>pre.length) (λ(pre:J (U × U))=>pre.flatMap gu) (λ(pre:J (U × U))v=>qu)) _) (ownFrom_below (SA _) qc))
  (λ_ _ _ _ _ hs _ _=>hs)
  ⟨⟨_,bO,World.ownsRow_nil _ _ _ _,trivial⟩,hB0⟩
  (λx a' ak9=>∃p,a'={ tmps:= #[.slice Q 0 0,.func (.func g) #[] lb,.q w.heap.size,undef,.slice Q 0 0,.q p,.func (.func g) #[] lb,.agg #[.z x.1,.z x.2],undef,undef,undef,undef,undef],defers:=[]}/\ak9.heap[p]?=X (.cells #[.z x.1,.z x.2] 155 (0,0)))
  (λx a'=>by rintro _ ak7 ala row ⟨p,ha,hp⟩ hg hr;refine⟨p,ha,(hg.block p (Te.1 hp).1 λe=>?_).trans hp⟩;obtain⟨_,o,ho,hc⟩:=hr p e.symm;rw[hp]at ho;cases ho;cases hc)
  ?assign ?body ?done ?stop
 case assign=>
  rintro l pre ⟨x1,x2⟩ ak9 K ⟨⟨v,hv,hrow,_⟩,hB⟩ hK;dsimp only[lU]
  gi_wp2
  refine hK _ _ ((KeepsOthers.alloc ak9 _).from _) ⟨(KeepsOthers.alloc ak9 _).size,λk o h1 h2=>(KeepsOthers.alloc ak9 _).same k o h1 (by cases o<;>simp_all [Obj.isWalk,Obj.isCells])⟩ ⟨⟨v,hv.alloc _,hrow.alloc _,trivial⟩,hB.alloc (by have:=hB.size;omega) _⟩ ⟨_,O,World.alloc_heap_new _ _⟩
 case body=>
  rintro l pre ⟨x1,x2⟩ a' ak9 _ _ ⟨⟨v,hv,hrow,_⟩,hB⟩ ⟨p,rfl,hp⟩ hlt;have hc:=hv.cell;have hp0:ak9.cell? p.p=X (.z x1):=by simp[World.cell?,hp]
  have hp1:ak9.cell? ⟨p,1,Q⟩=X (.z x2):=by simp[World.cell?,hp]
  gi_wp2_with (gi_at_builtin;refine wpListIn_append_own _ O _ _ 124 O w.heap.size 155 i0 (.agg #[.z 0,.z 0]) 2 16 aj8 hi hz0 hz1 hz2 O qb _ _ _ O (hrow.alloc _) ak9.heap.size.p 1 1 [.z x1,.z x2] O O (Bi _ _ _ _) (by simp[Value.oneCell']) (SY (show pre.length+1<=1000001 by omega) qb) om (by have:=hB.size;simp;omega) ?_;intro v' w1 hown' hgrow _;obtain⟨g',cap',rfl⟩:=ownsRow_succ hown';obtain⟨hv1,hv2,hr2,hk2,hb2⟩:=hv.appended qb hrow hB.size (SA _) hown' hgrow;have hc1:=hv1.cell;have hf1:=hv1.frozen)
  exact⟨hk2.from _,⟨hk2.size,λk o h1 h2=>hk2.same k o h1 (by cases o<;>simp_all [Obj.isWalk,Obj.isCells])⟩,⟨_,hv2,by rw[List.flatMap_append,SG];exact hr2⟩,hB.trans hb2⟩
 case done=>
  rintro D ys ak9 hD hS ⟨⟨v,hv,hrow,_⟩,hB⟩ hK;have hc:=hv.cell
  gi_wp2
  refine⟨qc,.inl ⟨_,_,O,run_takeDeferred hK,?_⟩⟩;exact⟨_,results_tmp O _ _ _,v,ys,O,hS,ownsRow_putObj hrow _ hK O,hB.trans (belowK_b (w:=w) (SA _) ak9 D _ _ (by simp at hD;omega) hK O O)⟩
 case stop=>
  rintro D c pre ak9 _ _ h _;exact h.elim
end
end Sl
end Go.Vc
namespace Go.Vc
open Go.Proofs Go.Shelf
namespace Sl
section
variable{B:S}{w0 w:W}{R L:J aG}{b:S}{bits:J U}{H:Hs}
def rT(x y:U):U:=if x<y then -1 else if y<x then 1 else 0
def Bj(a b:Slot):U:=if rT a.1 b.1≠0 then rT a.1 b.1 else rT a.2 b.2
def ra(a b:Slot):I:=qe (a.1<b.1\/(a.1=b.1/\a.2<b.2))
theorem jr(a b:Slot):Go.Proofs.ltOf Bj a b=ra a b:=by
 unfold Go.Proofs.ltOf ra Bj rT;rw[qP];by_cases h1:a.1<b.1
 .simp[h1]
 .by_cases h2:b.1<a.1
  .simp[h1,h2];omega
  .have:a.1=b.1:=om
   simp[h1,h2,this];by_cases h3:a.2<b.2
   .simp[h3]
   .by_cases h4:b.2<a.2<;>simp[h3,h4]
theorem Ra:Go.Sort.SWO (Go.Proofs.ltOf Bj) where
 irrefl x:=by rw[jr];simp[ra]
 trans x y z h1 h2:=by rw[jr]at *;simp only[ra,qF]at *;omega
 ntrans x y z h1 h2:=by rw[jr]at *;simp only[ra,aj6]at *;omega
theorem Rb(x y:Slot)(h1:Go.Proofs.ltOf Bj x y=qd)(h2:Go.Proofs.ltOf Bj y x=qd):x=y:=by
 rw[jr]at*
 simp only[ra,aj6]at*
 exact Prod.ext om om
theorem oP{x:U}{K:I->Pw}{w:W}(h:K qd w):ac4 x K w:=by apply ad5;rw[show(x !=x)=qd from by simp];exact h
theorem mG{x y:U}{K:U->Pw}{w:W}(h:K (rT x y) w):WV x y K w:=by
 apply ad4;refine oP (oP ?_);refine aV O (aV O ?_);by_cases h1:x<y
 .refine az h1 ?_
  rwa [show rT x y= -1 from by unfold rT;rw[Z h1]]at h
 .refine av h1 ?_
  by_cases h2:x>y
  .refine az h2 ?_
   rwa [show rT x y=1 from by unfold rT;rw[Y h1,Z h2]]at h
  .refine av h2 ?_
   rwa [show rT x y=0 from by unfold rT;rw[Y h1,Y h2]]at h
theorem CX{p:S}{x y:U}{K:U->Pw}{w:W}(h0:w.cell? p.p=X (.z x))(h1:w.cell? ⟨p,1,Q⟩=X (.z y))(h:K (if x≠0 then x else y) w):X5 ⟨X p.p,2,2⟩ K w:=by
 apply ad3;intro l2 hl2;apply hl2;refine az (show(0:U)<((2:S):U) by decide) ?_;refine⟨_,O,(show(0:U)<=0 by decide),(show(0:U)<((2:S):U) by decide),x,h0,?_⟩;by_cases e:x=0
 .subst e
  refine aV O ?_;rw[show qj.wrap ((0:U)+1)=1 from by decide];apply hl2;refine az (show(1:U)<((2:S):U) by decide) ?_;refine⟨_,O,(show(0:U)<=1 by decide),(show(1:U)<((2:S):U) by decide),y,h1,?_⟩;rw[Y qc]at h;by_cases e2:y=0
  .subst e2
   refine aV O ?_;rw[show qj.wrap ((1:U)+1)=2 from by decide];apply hl2;refine av (show ¬(2:U)<((2:S):U) by decide) ?_;exact h
  .exact aW (by simpa using e2) h
 .rw[Z e]at h
  exact aW (by simpa using e) h
theorem cell_of{w:W}{b:S}{l:J V}{t:qi}(h:w.heap[b]?=X (.cells ⟨l⟩ t)){o:S}{v:V}(hv:l[o]?=X v):w.cell? ⟨b,o,Q⟩=X v:=by simp[World.cell?,h,hv]
theorem Fh(a b:Slot)(w:W):aa8 a.1 a.2 b.1 b.2 (λr w'=>r=Bj a b/\∃q os',w'=Go.Sort.grow (w.drewN q) os') w:=by
 apply aex;unfold adA;have hA:(((w.alloc (.cells #[.z a.1,.z a.2] 155)).alloc (.cells #[.z b.1,.z b.2] 155)).drew).heap[w.heap.size]?=X (.cells #[.z a.1,.z a.2] 155):=
  (RowKit.Below.heap_alloc (w.alloc (.cells #[.z a.1,.z a.2] 155)) _ w.heap.size (by rw[World.size_alloc];omega)).trans (World.alloc_heap_new w _)
 have hB:(((w.alloc (.cells #[.z a.1,.z a.2] 155)).alloc (.cells #[.z b.1,.z b.2] 155)).drew).heap[(w.alloc (.cells #[.z a.1,.z a.2] 155)).heap.size]?=X (.cells #[.z b.1,.z b.2] 155):=World.alloc_heap_new _ _;refine⟨a.1,cell_of hA O,b.1,cell_of hB O,a.2,cell_of (o:=0+1) hA O,b.2,cell_of (o:=0+1) hB O,mG ⟨cell_of (o:=0+1) hB O,cell_of (o:=0+1) hA O,mG ⟨⟨CX (x:=rT a.1 b.1) (y:=rT a.2 b.2) (cell_of (World.alloc_heap_new _ _) O) (cell_of (World.alloc_heap_new _ _) O) ⟨O,1,#[.cells #[.z a.1,.z a.2] 155,.cells #[.z b.1,.z b.2] 155,.cells #[.z (rT a.1 b.1),.z (rT a.2 b.2)] 3],?_⟩,trivial⟩,trivial⟩,trivial⟩,trivial⟩;show World.mk _ _ _ _ _=World.mk _ _ _ _ _;congr 1
theorem Ml(yX off size:S)(w:W):CmpLays qh 244 #[] gu 2 Bj yX off size w:=λm os dk _ x y=>
 (BN (Fh x y _)).mono λe w'⟨r,he,hr,hw⟩=>⟨by rw[he,hr],hw⟩
def aK:dX Slot:=⟨2,gu,λ_=>rfl,λx v h=>by simp only[gu,SH,TE,qG]at h;rcases h with rfl|rfl<;>rfl,qb⟩
theorem tm{α:Type}[Inhabited α](enc:α->J V)(k:S)(hk:∀x,(enc x).length=k)(k0:0<k):∀(l:J α)(t:S),t<l.length*k->(l.flatMap enc)[t]?=X (enc (l.toArray[t / k]!))[t%k]!
 | [],t,h=>by simp at h
 |x::l,t,h=>by
  rw[T5];by_cases e:t<k
  .rw[SM (by rw[hk];exact e),Nat.div_eq_of_lt e,Tn e]
   have:t<(enc x).length:=by rw[hk];exact e
   rw[gE this];congr 1;simp[this]
  .obtain ⟨u,rfl⟩:∃u,t=k+u:=⟨t-k,om⟩
   have hu:u<l.length*k:=by rw[SJ,TX,Nat.one_mul]at h;omega
   rw[SP (by rw[hk];omega),hk,show k+u-k=u from by omega,tm enc k hk k0 l u hu];rw[Nat.add_comm k u,Nat.add_div_right _ k0,Nat.add_mod_right];have hq:u / k<l.length:=Nat.div_lt_of_lt_mul (by rw[Nat.mul_comm];exact hu);congr 3;simp[hq]
theorem ES{α:Type}[Inhabited α](enc:α->J V)(k:S)(hk:∀x,(enc x).length=k)(k0:0<k)(l:J α):Go.Sort.flatK enc k l.toArray=(l.flatMap enc).toArray:=by
 have hl:(l.flatMap enc).length=l.length*k:=by
  clear k0;induction l with
  |nil=>simp
  |cons x l ih=>rw[T5,SG,ih,hk,SJ,TX];omega
 refine Go.Sort.ext_get! (by rw[Go.Sort.size_flatK];simp only[Vl];exact hl.symm) λt ht=>?_;rw[Go.Sort.size_flatK]at ht;rw[Go.Sort.get_flatK _ _ _ _ ht];have:=tm enc k hk k0 l t (by simpa using ht);simp[Vu,this]
def PI(x y:Slot):I:= !(Go.Proofs.ltOf Bj) y x
def gT(xs:J Slot):J Slot:=xs.mergeSort PI
theorem y8{s:Sl}{xs:J Slot}{K:Pw}(h:Ow B w0 w (ag aK s xs::R))(hsz:xs.length<4611686018427387904)(hK:∀w',Ow B w0 w' (ag aK s (gT xs)::R)->K w'):
  aci s (.func (.func 244) #[] #[]) K w:=by
 have hs:=h.tX 0 O;have hlen:=h.len 0 O;unfold aci;refine lk func328 O ?_;obtain⟨a,n,cap⟩:=s;dsimp only at hlen;subst hlen;cases hs with
 |nil ha hl hc hcs=>
  dsimp only at ha hl hc;subst ha;subst hc;have:xs= []:=TQ hl;subst this;refine(AnyF.slices_SortFunc_none Tryz.AO Q 0 _ w).mono ?_;rintro e w' ⟨rfl,rfl⟩;exact⟨O,hK _ (by rw[show gT []= []from List.mergeSort_nil];exact h)⟩
 |mk b o l ha hb hl hc hcs=>
  dsimp only at ha hl hc hcs;subst ha;obtain⟨t,ht⟩:=hb;have hblk:b<w.heap.size:=(Te.1 ht).1;have hfl:∀ys:J Slot,Go.Sort.flatK gu 2 ys.toArray=(ys.flatMap gu).toArray:=ES gu 2 (λ_=>rfl) qb;have hfl2:∀ys:J Slot,(ys.flatMap gu).length=ys.length*2:=λys=>aO aK ys;have hcap:xs.length*2<=cap*2:=Nat.mul_le_mul_right 2 hl;have hc:o+cap*2<=l.length:=hc;have hH:Go.Sort.HoldsK gu 2 w b o xs.toArray:=by
   unfold Go.Sort.HoldsK;rw[hfl];intro j hj;have hj:j<xs.length*2:=by rw[<-hfl2];simpa using hj
   have hcj:(xs.flatMap gu)[j]?=l[o+j]?:=by have hcs:xs.flatMap gu=(l.drop o).take (xs.length*2):=hcs;rw[hcs,S5,Z hj,S8]
   have hjl:j<(xs.flatMap gu).length:=by rw[hfl2];exact hj
   refine⟨?_,?_⟩
   .have h1:l[o+j]?=X (xs.flatMap gu)[j]:=by rw[<-hcj,gE hjl]
    rw[cell_of ht h1];simp only[id,WW,Vu,gE hjl,TR]
   .simp[World.frozen?,ht]
  refine(AnyQ.slices_SortFunc_total Tryz.AO 2 isAgg155 sizeOf155 gu (λ_=>rfl) aK.one Bj Ra 244 #[] b o cap xs.toArray w (enters_of func244 qa O) (Ml b o _ w) hH hblk (by simpa using hsz) Rb).mono ?_;rintro e w' ⟨rfl,q,os,hw'⟩;refine⟨O,hK _ ?_⟩;have hperm:(gT xs).Perm xs:=Wp _ _;have hsl:(gT xs).length=xs.length:=hperm.length_eq;have hw':w'=Go.Sort.grow (Go.Sort.mapBlock (Go.Sort.ahead w q) b (Go.Sort.putCells id o ((gT xs).flatMap gu).toArray)) os:=by rw[hw',<-hfl];rfl
  have hheap:w'.heap=(w.heap.modify b (Go.Sort.onCells (Go.Sort.putCells id o ((gT xs).flatMap gu).toArray)))++os:=by rw[hw'];rfl
  have hu:iA (λk=>k=b) w w':=by refine⟨by rw[hw'];rfl,by rw[hw'];rfl,by rw[hw'];rfl,by rw[hheap];simp,λk hk hn=>?_⟩;rw[hheap,VG (by simpa using hk),UX,Y (λe=>hn e.symm)]
  have hblk':w'.heap[b]?=X (.cells (Go.Sort.putCells id o ((gT xs).flatMap gu).toArray ⟨l⟩) t):=by rw[hheap,VG (by simpa using hblk),UX,Z O,ht];rfl
  refine h.step λalc hA hG=>?_;have hGb:alc b:=hA.1 _ O;refine⟨hu.mono λk _ e=>by rw[e];exact hGb,alc,⟨hA.1,hsl.symm,?_⟩,λk hk=>⟨.inl hk,by have:=(hG k hk).2;have:=hu.size;omega⟩⟩;refine .mk b o (Go.Sort.putCells id o ((gT xs).flatMap gu).toArray ⟨l⟩).toList O ⟨t,hblk'⟩ hl ?_ ?_
  .show o+cap*2<=_
   rw[TH];unfold Go.Sort.putCells;rw[Array.size_mapIdx];exact hc
  .show (gT xs).flatMap gu=(List.drop o _).take (xs.length*2)
   refine List.ext_getElem? λj=>?_;rw[S5];by_cases hj:j<xs.length*2
   .rw[Z hj,S8]
    have hjs:j<((gT xs).flatMap gu).length:=by rw[hfl2,hsl];exact hj
    have hoj:o+j<l.length:=om
    unfold Go.Sort.putCells;rw[Array.toList_mapIdx,List.getElem?_mapIdx,gE hjs,show(Array.mk l).toList[o+j]?=X (l[o+j]'hoj)from gE hoj,Option.map_some,Z ⟨om,by simp only[Vl];omega⟩,show o+j-o=j from by omega];simp only[id,WW,Vu,gE hjs,TR]
   .rw[Y hj,List.getElem?_eq_none (by rw[hfl2,hsl];omega)]
theorem rk:∀(n:S)(l:J U),l.Nodup->(∀x∈l,0<=x/\x<(n:U))->l.length<=n
 |0,l,_,h=>by
  cases l with
  |nil=>simp
  |cons a l=>have:=h a qc;omega
 |n+1,l,hn,h=>by
  have h1:=rk n (l.filter λx=>x !=(n:U)) (hn.sublist List.filter_sublist) λx hx=>by
   have h2:=SV.1 hx;have h3:=h x h2.1;have h4:x≠(n:U):=by simpa using h2.2
   omega
  have h2:l.length<=(l.filter λx=>x !=(n:U)).length+1:=by
   clear h1 h;induction l with
   |nil=>simp
   |cons a l ih=>
    rw[Tx]at hn;by_cases e:a=(n:U)
    .have:l.filter (λx=>x !=(n:U))=l:=by
      rw[TF];intro x hx;have:x≠(n:U):=λe2=>hn.1 (by rw[e,<-e2];exact hx);simpa using this
     rw[List.filter_cons_of_neg (by simp[e]),this,SJ];exact SA _
    .rw[List.filter_cons_of_pos (by simpa using e),SJ,SJ]
     have:=ih hn.2;omega
  omega
theorem Ap{x y z:Slot}(h1:ra x y=G)(h2:ra y z=G):ra x z=true:=by simp only[ra,qF]at *;omega
theorem sg{x:Slot}(h:ra x x=G):qm:=by simp[ra]at h
theorem MI{x y:Slot}(h:x≠y):ra x y=G\/ra y x=true:=by
 simp only[ra,qF];by_cases e:x.1=y.1
 .have:x.2≠y.2:=λe2=>h (Prod.ext e e2)
  omega
 .omega
theorem ik(xs:J Slot):(gT xs).Perm xs:=Wp _ _
theorem nG{xs:J Slot}(hn:xs.Nodup):(gT xs).Pairwise (λx y=>ra x y=G):=by
 have h1:(gT xs).Pairwise (λx y=>PI x y=G):=by
  refine List.pairwise_mergeSort (λa b c h1 h2=>?_) (λa b=>?_) _
  .simp only[PI,jr,ra,Vk,aj6]at *;omega
  .simp only[PI,jr,ra,TV,Vk,aj6];omega
 have h2:(gT xs).Pairwise (λx y=>x≠y):=(ik xs).nodup_iff.2 hn;refine(h1.and h2).imp λ{x y}h=>?_;rcases MI h.2 with e|e
 .exact e
 .have:=h.1
  simp only[PI,jr,e]at this;cases this
structure mW(H:Hs)(hs:J (Slot × dB)):Prop where
 mo:hs.Pairwise (λx y=>ra x.1 y.1=G)
 mem:∀k c,(k,c)∈hs↔H k=X c
theorem mW.nodup{H:Hs}{hs:J (Slot × dB)}(h:mW H hs):hs.Nodup:=h.mo.imp λ{x y}h e=>by rw[e]at h;exact sg h
theorem mW.uniq{H:Hs}{hs hs':J (Slot × dB)}(h:mW H hs)(h':mW H hs'):hs=hs':=by
 have hp:hs.Perm hs':=(List.perm_ext_iff_of_nodup h.nodup h'.nodup).2 λx=>by rw[show x=(x.1,x.2)from O,h.mem,h'.mem]
 refine List.Perm.eq_of_pairwise (le:=λx y=>ra x.1 y.1=G) (λa b _ _ h1 h2=>(sg (Ap h1 h2)).elim) h.mo h'.mo hp
theorem Dd{M:J (Slot × dB)}{H:Hs}(hn:(M.map (·.1)).Nodup)(hM:∀k,dQ M k=H k):mW H ((gT (M.map (·.1))).map λk=>(k,(H k).getD aw)):=by
 refine⟨?_,λk c=>?_⟩
 .rw[UR];exact nG hn
 .rw[Tj]
  constructor
  .rintro ⟨k',hk,e⟩
   cases e;have hk:=(ik _).mem_iff.1 hk;cases e:H k with
   |none=>rw[<-hM]at e;exact qk hk (fW.1 e)
   |some c=>rfl
  .intro e
   refine⟨k,(ik _).mem_iff.2 ?_,by rw[e];rfl⟩;rw[<-hM]at e;exact Tj.2 ⟨_,tG e,O⟩
theorem uj.bound{bits:J U}{H:Hs}(h:uj bits H){k:Slot}{c:dB}(e:H k=X c):0<=k.1/\k.1<64/\0<=k.2/\k.2<256:=by
 obtain⟨ht,_⟩:=h.held k c e;unfold bc at ht;cases hz:fa bits k.1 with
 |none=>rw[hz]at ht;cases ht
 |some z=>
  rw[hz]at ht;simp only[qF]at ht;obtain⟨h0,h1,h2⟩:=lE hz;obtain⟨r1,r2⟩:=u7 h hz;have hlt:k.1.toNat<bits.length:=(Sz.1 h1).1;have:=h.fu;have hp:(2:U)^z.toNat<=2^8:=by
   have:(2:S)^z.toNat<=2^8:=Nat.pow_le_pow_right om om;have h3:(2:U)^z.toNat=((2^z.toNat:S):U):=by simp
   rw[h3];omega
  omega
theorem J4{bits:J U}{M:J (Slot × dB)}{H:Hs}(h:uj bits H)(hn:(M.map (·.1)).Nodup)(hM:∀k,dQ M k=H k):M.length<=16384:=by
 have hb:∀k∈M.map (·.1),0<=k.1/\k.1<64/\0<=k.2/\k.2<256:=λk hk=>by
  cases e:H k with
  |none=>rw[<-hM]at e;exact qk hk (fW.1 e)
  |some c=>exact h.bound e
 have:=rk 16384 ((M.map (·.1)).map λk=>k.1*256+k.2) (by
  refine UR.2 (List.Pairwise.imp_of_mem (λ{x y}hx hy hne e=>hne ?_) hn);have:=hb x hx;have:=hb y hy;exact Prod.ext om om) λx hx=>by
  obtain⟨k,hk,rfl⟩:=Tj.1 hx;have:=hb k hk;omega
 simpa using this
theorem BO{w':W}{t:qi}{v:V}{xs:J Slot}(h:Ow B w0 w R)(hb:RowKit.Below w.heap.size w w')(hr:w'.ownsRow w.heap.size t 2 v xs.length (xs.flatMap gu)):
  ∃s:Sl,v= s.v/\Ow B w0 w' (ag aK s xs::R):=by
 have hu:iA No w w':=⟨hb.os,hb.tape,hb.output,hb.size,λk hk _=>hb.block k hk⟩
 rcases hr.2 with⟨rfl,hz⟩|⟨g,cap,cur,rfl,hbase,hgb,r1,r2,r3,r4⟩
 .have:xs= []:=TQ hz
  subst this;exact⟨z0,O,(h.same hu).cB⟩
 .refine ⟨⟨X g.p,xs.length,cap⟩,O,h.new (A':=ag aK ⟨X g.p,xs.length,cap⟩ xs) (G':=λk=>k=g) hu ⟨λa ha=>?_,O,?_⟩ λk e=>?_⟩
  .cases ha;rfl
  .refine .mk g 0 cur.toList O ⟨t,hgb⟩ r1 ?_ ?_
   .show 0+cap*2<=cur.toList.length
    rw[TH];omega
   .rw[T9];exact r4.symm
  .subst e
   exact⟨hbase,(Te.1 hgb).1⟩
theorem oZ{m:S}{M:J (Slot × dB)}{K:Sl->Pw}(h:Ow B w0 w L)(i:S)(hi:L[i]?=X (iV m M))(hsz:M.length<=1000000)
  (hK:∀(s:Sl)(w':W),Ow B w0 w' (ag aK s (gT (M.map (·.1)))::L)->K s w'):
  aa7 (X m) (λr5 w6=>XY r5 (.func (.func 244) #[] #[]) K w6) w:=by
 have hM:lJ eF jX w m M:=(h.take i hi).head λ_ h=>h.2;obtain⟨es,c,hb,hmap,hborn,hlt⟩:=hM.ex;have hkeys:es.toList.map (·.key)=(M.map (·.1)).map lU:=by have:=qz (List.map (·.1)) hmap;rw[Ux,Ux]at this;rw[Ux];exact this
 have hml:(M.map (·.1)).length<=1000000:=by rw[S9];exact hsz
 have hblt:m<w.heap.size:=(Te.1 hb).1;apply af8;show XY _ _ K (w.alloc _);have h1:Ow B w0 (w.alloc (.cells #[.map (X m)] 232)) L:=h.same (ff _ _);have hseq:=Dg 1 (SA _) w.heap.size m es c (M.map (·.1)) hkeys hborn hlt (w.alloc (.cells #[.map (X m)] 232)) (by rw[World.size_alloc];omega) (cell_of (World.alloc_heap_new _ _) O) ((RowKit.Below.heap_alloc _ _ m hblt).trans hb);generalize w.alloc (.cells #[.map (X m)] 232)=w1 at h1 hseq;apply afw;apply afD;show adS _ _ _ _;unfold adS;refine lk func384 O ?_;refine(callsIn_wide (n:=2)).1 ((EH 329 #[.q w.heap.size] (enters_of func329 qa O) _ _ hml w1 hseq).mono ?_);rintro e w2 ⟨v,ss,rfl,hS,hrow,hbel⟩;obtain⟨s,rfl,h2⟩:=BO h1 hbel hrow;refine⟨s,O,?_⟩;have hsl:ss.length<=1000000:=by rw[hS.length_eq];exact hml
 refine y8 h2 om λw3 h3=>?_;have:gT ss=gT (M.map (·.1)):=by have hn:ss.Nodup:=hS.nodup_iff.2 hM.nodup;refine List.Perm.eq_of_pairwise (le:=λx y=>ra x y=G) (λa b _ _ h1 h2=>(sg (Ap h1 h2)).elim) (nG hn) (nG hM.nodup) ?_;exact(ik _).trans (hS.trans (ik _).symm)
 rw[this]at h3;exact hK s w3 h3
theorem zM{s:Sl}{ys:J (Slot × dB)}{y:Slot × dB}{c:S}{L:J aG}{k:Sl->Pw}[ale:bG s L (Slot × dB) eM ys][ak8:eL (ag eM s ys) L R](h:Ow B w0 w (ae c [.z y.1.1,.z y.1.2,.z y.2.kind,.z y.2.obj,.z y.2.ar,.y y.2.aD,.y y.2.guard,.z y.2.bits]::L))(hbig:ys.length<=1000000000)
  (hk:∀s' w',s'.len=ys.length+1->Ow B w0 w' (ag eM s' (ys++ [y])::R)->k s' w'):
  ∃s' w',dO qh [78,78] 78 s.v (.slice (X c.p) 1 1) w s' w'/\k s' w':=
 Ow.eZ (E:=eM) (y:=y) underlying78 (show qh.info? 201=X aku from by kernel_rfl) (zv:=(aku.zero).get qa) qa qa qa qb h (by
  have e:aku.bytes=64:=qa
  rw[e];omega) hk
theorem QS{w:W}{A:qf}{x:Slot}{f:U->U->Prop}(g:∀c v,(aK.enc x)[c]?=X v->w.cell? (A.add c)=X v)(hf:f x.1 x.2):hI w A 0 [.o,.o] f:=
 ⟨_,g 0 _ O,_,g 1 _ O,hf⟩
theorem jd{K:Sl->Pw}(h:Ow B w0 w (aC b bits H::R))(hK:∀s hs w',mW H hs->Ow B w0 w' (ag eM s hs::aC b bits H::R)->K s w'):ZX b.o K w:=by
 apply aev;obtain⟨⟨xs,m,M⟩,hk,hM,h⟩:=h.nodes;dsimp only at hM h;have hnd:=h.Fc 2 O;have hfew:=J4 hk hnd hM;refine⟨_,O,X m,h.ld 0 O O,oZ h 2 O om λs w h=>?_⟩;have hih:=Dd hnd hM;have hkl:(gT (M.map (·.1))).length=M.length:=by rw[(ik _).length_eq,S9]
 have hkH:∀k∈gT (M.map (·.1)),H k=X ((H k).getD aw):=λk hk'=>by
  have:=(ik _).mem_iff.1 hk';cases e:H k with
  |none=>rw[<-hM]at e;exact qk this (fW.1 e)
  |some c=>rfl
 generalize gT (M.map (·.1))=ks at h hih hkl hkH;have hlen:=h.aF s;intro l8 hl8;have loop:∀(j t:S)(out:Sl)(w:W),t+j=ks.length->Ow B w0 w (ag eM out ((ks.take t).map λk=>(k,(H k).getD aw))::ag aK s ks::ae b [bz xs,.map (X m)]::ag ax xs bits::iV m M::R)->l8 out (t:U) w:=by
  intro j;induction j with
  |zero=>
   intro t out w ht h;apply hl8;refine av om ?_;rw[SE om]at h;exact hK out _ w hih (Ow.cC (Ow.fi (s:=xs) (m:=m) hk hM h.sub))
  |succ j ih=>
   intro t out w ht h;apply hl8;refine az om ?_;have hx:ks[t]?=X ks[t]:=gE om;refine h.cd (s:=s) (i:=(t:U)) (j:=t) O hx λa ha h0 hc=>QS hc ?_;have hHx:=hkH ks[t] (Tq _);have hnext:(ks.take (t+1)).map (λk=>(k,(H k).getD aw))=(ks.take t).map (λk=>(k,(H k).getD aw))++ [(ks[t],(H ks[t]).getD aw)]:=by rw[SO,hx,S0];rfl
   generalize (H ks[t]).getD aw=c at hHx hnext;generalize ks[t]=kx at hHx hnext;refine h.a λd1 w1 h=>?_;refine h.aB O O λw2 h=>?_;refine h.dr λw3 h=>?_;refine⟨_,O,X m,h.aE O,h.aM O (h.aM O ?_)⟩;have hl2:dQ M kx=X c:=by rw[hM];exact hHx
   refine⟨⟨c.kind,c.obj,c.ar,c.aD,c.guard,c.bits,(h.vB qR kq 5 O hl2).2,h.hd O ⟨h.al λw4 h=>⟨?_,trivial⟩,trivial⟩⟩,trivial⟩
   generalize w3.heap.size=d3 at h|-;refine zM (s:=out) (y:=(kx,c)) h (by rw[S9,SN];omega) λs' w hs' h=>?_;rw[wI t om];refine ih (t+1) s' w om ?_;rw[hnext];exact h.sub
 exact loop ks.length 0 z0 w om (Ow.cB h)
end
end Sl
end Go.Vc
namespace Go.Vc
open Go.Proofs
abbrev Slot:=U × U
abbrev dB:=Sl.dB
structure Call where
 ask:U
 at_:U
 ay:U
 a:U
 b:U
 c:U
deriving DecidableEq
abbrev Call.cl(c:Call):J V:=[.z c.ask,.z c.at_,.z c.ay,.z c.a,.z c.b,.z c.c]
structure dM where
 space:U
 aX:U
 frame:U
 ar:U
deriving DecidableEq
structure Told where
 e:U
 w:U
 cv:U
 forget:J dM
deriving DecidableEq
structure ai where
 bits:J U
 H:Sl.Hs
 T:Tr.Tr
 t:Th.Mt
 ln:y7
 u:J sV
 ends:J fp
 notes:J rB
 af:J Tb.dS
 aU:S
 cP:S
structure sN where
 core:U
 cur:U
 call:Call
 s:Slot
 c:dB
namespace ai
def bm(k:ai)(n:U):dB:=if 0<=n/\n<64 then(k.H (0,n)).getD Sl.aw else Sl.aw
def dT(k:ai)(n kind:U):I:=qe ((k.bm n).kind≠0)&&(qe (kind=0)||qe ((k.bm n).kind=kind))
def gi(k:ai)(w:U)(n:S):U:=if w<0\/64<w+n then 181 else if(SF n).any (λi=>qe ((k.bm (w+(i:U))).kind≠0))then 51 else 0
def laid(k:ai)(f t:Slot)(c:dB):ai:={ k with H:=(Sl.kc k.bits k.H t c).2,T:=(Tr.A7 k.T f t).2}
def made(k:ai)(core a b:U)(at_:S):U × ai:=
 if a=1 then((k.u.length:U),{ k with u:=k.u++ [⟨at_,b.toNat,0⟩]})
 else if a=2 then((Sl.fq k.bits b).1,{ k with bits:=(Sl.fq k.bits b).2.2})
 else if a=3 then((k.t.df 0 core).1,{ k with t:=(k.t.df 0 core).2.2})
 else if a=4 then((k.ends.length:U),{ k with ends:=k.ends++ [⟨[],qd⟩]})
 else if a=5 then((k.notes.length:U),{ k with notes:=k.notes++ [⟨0,qd,[]⟩]})
 else if a=8 then((k.af.length:U),{ k with af:=k.af++ [Tb.js]})
 else if a=6 then((k.aU:U),{ k with aU:=k.aU+1})
 else((k.cP:U),{ k with cP:=k.cP+1})
def makes(core a b w:U)(s:Slot):J S->S->ai->ai
 | [],_,k=>k
 |at_::r,j,k=>makes core a b w s r (j+1) ((k.made core a b at_).2.laid s (0,w+(j:U)) ⟨a,(k.made core a b at_).1,7,0,0,0⟩)
def kr(k:ai)(n:U):sV:=(k.u[n.toNat]?).getD zU
def fc(k:ai)(d:sN):U × ai:=
 if(bN (k.kr d.c.obj) d.call.a d.call.b d.call.c).2.2≠0 then((bN (k.kr d.c.obj) d.call.a d.call.b d.call.c).2.2,k)
 else if k.gi d.call.ay d.call.c.toNat≠0 then(k.gi d.call.ay d.call.c.toNat,k)
 else if(d.call.a=2/\64<(k.bits.length:U)+d.call.c)\/(d.call.a=3/\64<(k.t.bK.length:U)+d.call.c)then(2,k)
 else(0,makes d.core d.call.a d.call.b d.call.ay d.s (bN (k.kr d.c.obj) d.call.a d.call.b d.call.c).1 0 { k with u:=k.u.set d.c.obj.toNat (bN (k.kr d.c.obj) d.call.a d.call.b d.call.c).2.1})
def gI(c:dB)(r g:U):dB × U:=
 if Sl.cH c≠0 then(Sl.aw,Sl.cH c)else if ¬(0<=r/\r<=7)then(Sl.aw,1)
 else if c.kind=0\/(g≠0/\(Sl.dH c.kind=qd\/c.aD≠0))then(Sl.aw,41)
 else({ c with ar:=if Sl.dD c.kind then fE .i64 c.ar r else c.ar,aD:=if g≠0 then g else c.aD},0)
def og(k:ai)(d:sN):U × ai:=
 if d.c.kind=1 then(181,k)else if k.gi d.call.ay 1≠0 then(k.gi d.call.ay 1,k)
 else if(gI d.c d.call.a (qA.wrap d.call.b)).2≠0 then((gI d.c d.call.a (qA.wrap d.call.b)).2,k)
 else(0,k.laid d.s (0,d.call.ay) (gI d.c d.call.a (qA.wrap d.call.b)).1)
def move(k:ai)(d:sN):U × ai:=
 if k.gi d.call.ay 1≠0 then(k.gi d.call.ay 1,k)
 else(0,{ k with H:=(Sl.eP k.bits k.H d.s (0,d.call.ay)).2,T:=(Tr.eP k.T d.s (0,d.call.ay)).2})
def eH(k:ai)(id:U):ai:={ k with ends:=k.ends.map (·.cancel id),notes:=k.notes.map (·.cancel id)}
def ba(i:S)(P:Tb.gh):J dM:=P.map λx=>⟨(i:U),x.1,x.2.1,x.2.2⟩
def bC(f:U):S->J Tb.dS->J dM × J Tb.dS
 |_,[]=>([],[])
 |i,m::r=>(ba i (m.pg.filter λx=>x.2.1==f)++(bC f (i+1) r).1,{ m with pg:=m.pg.filter λx=> !(x.2.1==f)}::(bC f (i+1) r).2)
def ed(n:U)(i:S):S->S->Tb.dS->J dM × Tb.dS
 |0,_,m=>([],m)
 |q+1,j,m=>if m.at (j:U)=X n then(ba i (m.bE (j:U)).1++(ed n i q (j+1) (m.bE (j:U)).2.2).1,(ed n i q (j+1) (m.bE (j:U)).2.2).2)
  else ed n i q (j+1) m
def dv(n:U):S->J Tb.dS->J dM × J Tb.dS
 |_,[]=>([],[])
 |i,m::r=>((ed n i 64 0 m).1++(dv n (i+1) r).1,(ed n i 64 0 m).2::(dv n (i+1) r).2)
def last(k:ai)(c:dB):J dM × ai:=
 if c.kind=3 then([],{ k.eH c.obj with t:=(k.t.cy c.obj).2})
 else if c.kind=6 then((bC c.obj 0 k.af).1,{ k with af:=(bC c.obj 0 k.af).2})
 else if c.kind=7 then((dv c.obj 0 k.af).1,{ k with af:=(dv c.obj 0 k.af).2})
 else([],k)
def oa(a c:dB):I:=qe (a.kind≠0)&&(qe (a.kind=c.kind)&&qe (a.obj=c.obj))
def more(k:ai)(c:dB):I:=(SF 64).any λi=>match k.H (0,(i:U))with|some x=>oa x c|none=>qd
def taken(k:ai)(s:Slot):ai:={ k with H:=Sl.dj k.H s Q,T:=(Tr.takeN k.T s).2}
def gone(k:ai)(s:Slot):J dM × ai:=
 if(k.taken s).more ((k.H s).getD Sl.aw)then([],k.taken s)else(k.taken s).last ((k.H s).getD Sl.aw)
def dq:J Slot->ai->J dM × ai
 | [],k=>([],k)
 |s::r,k=>((k.gone s).1++(dq r (k.gone s).2).1,(dq r (k.gone s).2).2)
def mg(k:ai)(n:U):ai:={ k with u:=k.u.set n.toNat { k.kr n with used:=0}}
def cG(k:ai)(t:Th.Mt):ai:={ k with t:=t}
def eY(k:ai)(id:U):U × U × ai:=((k.t.bW id).1,if(k.t.bW id).1=0 then id else -1,k.cG (k.t.bW id).2)
def kS(k:ai)(id:U)(m:Je):ai:=k.cG ((((k.t.pB id 0 m.aD).2.pB id 1 (qA.wrap m.label)).2.pB id 2 m.w0).2)
def rest(k:ai)(d:sN):ai:=if d.call.c≠0 then k.cG ((k.t.iE d.cur).2.bj d.core)else k
def iZ(k:ai)(n:U):fp:=(k.ends[n.toNat]?).getD ⟨[],qd⟩
def mV(k:ai)(n:U):rB:=(k.notes[n.toNat]?).getD ⟨0,qd,[]⟩
def iR(k:ai)(n:U):Tb.dS:=(k.af[n.toNat]?).getD Tb.js
def fk(k:ai)(n:U)(p:fp):ai:={ k with ends:=k.ends.set n.toNat p}
def ke(k:ai)(n:U)(p:rB):ai:={ k with notes:=k.notes.set n.toNat p}
def mi(k:ai)(n:U)(p:Tb.dS):ai:={ k with af:=k.af.set n.toNat p}
def tell(e:U)(k:ai):Told × ai:=(⟨e,0,-1,[]⟩,k)
def eN(x:U × U × ai):Told × ai:=(⟨x.1,0,x.2.1,[]⟩,x.2.2)
def fG(d:sN):Je:=⟨d.call.a,qA.wrap d.call.b,0,0,0,d.c.aD,qd⟩
def send(k:ai)(d:sN):Told × ai:=
 if((k.iZ d.c.obj).send d.cur (fG d) (d.call.c !=0)).2.1≠0 then tell ((k.iZ d.c.obj).send d.cur (fG d) (d.call.c !=0)).2.1 (k.fk d.c.obj ((k.iZ d.c.obj).send d.cur (fG d) (d.call.c !=0)).2.2)
 else if((k.iZ d.c.obj).send d.cur (fG d) (d.call.c !=0)).1.is=qd then tell 0 ((k.fk d.c.obj ((k.iZ d.c.obj).send d.cur (fG d) (d.call.c !=0)).2.2).rest d)
 else eN (((k.fk d.c.obj ((k.iZ d.c.obj).send d.cur (fG d) (d.call.c !=0)).2.2).kS ((k.iZ d.c.obj).send d.cur (fG d) (d.call.c !=0)).1.to ((k.iZ d.c.obj).send d.cur (fG d) (d.call.c !=0)).1.m).eY ((k.iZ d.c.obj).send d.cur (fG d) (d.call.c !=0)).1.to)
def recv(k:ai)(d:sN):Told × ai:=
 if((k.iZ d.c.obj).recv d.cur (d.call.c !=0)).2.1≠0 then tell ((k.iZ d.c.obj).recv d.cur (d.call.c !=0)).2.1 (k.fk d.c.obj ((k.iZ d.c.obj).recv d.cur (d.call.c !=0)).2.2)
 else if((k.iZ d.c.obj).recv d.cur (d.call.c !=0)).1.is=qd then tell 0 ((k.fk d.c.obj ((k.iZ d.c.obj).recv d.cur (d.call.c !=0)).2.2).rest d)
 else eN (((k.fk d.c.obj ((k.iZ d.c.obj).recv d.cur (d.call.c !=0)).2.2).kS d.cur ((k.iZ d.c.obj).recv d.cur (d.call.c !=0)).1.m).eY ((k.iZ d.c.obj).recv d.cur (d.call.c !=0)).1.dP)
def bq(k:ai)(n g:U):U × ai:=match((k.mV n).bq g).1 with
 |none=>(-1,k.ke n ((k.mV n).bq g).2)
 |some who=>(who,(k.ke n ((k.mV n).bq g).2).cG (((k.t.pB who 0 g).2.bW who).2))
def wait(k:ai)(d:sN):Told × ai:=
 if((k.mV d.c.obj).wait d.cur (d.call.c !=0)).1.2.2≠0 then tell ((k.mV d.c.obj).wait d.cur (d.call.c !=0)).1.2.2 (k.ke d.c.obj ((k.mV d.c.obj).wait d.cur (d.call.c !=0)).2)
 else(⟨0,((k.mV d.c.obj).wait d.cur (d.call.c !=0)).1.1,-1,[]⟩,if((k.mV d.c.obj).wait d.cur (d.call.c !=0)).1.2.1 then k.ke d.c.obj ((k.mV d.c.obj).wait d.cur (d.call.c !=0)).2 else(k.ke d.c.obj ((k.mV d.c.obj).wait d.cur (d.call.c !=0)).2).rest d)
def table(k:ai)(d:sN):Told × ai:=
 if k.dT d.call.ay 8=qd then tell 181 k
 else tell ((k.iR (k.bm d.call.ay).obj).iX d.call.a d.c.obj).1 (k.mi (k.bm d.call.ay).obj ((k.iR (k.bm d.call.ay).obj).iX d.call.a d.c.obj).2)
def mapped(k:ai)(d:sN):Told × ai:=
 if k.dT d.call.ay 8=qd then tell 181 k
 else tell ((k.iR (k.bm d.call.ay).obj).ph d.call.a (d.c.obj,fE .i64 d.c.ar d.call.b)).1 (k.mi (k.bm d.call.ay).obj ((k.iR (k.bm d.call.ay).obj).ph d.call.a (d.c.obj,fE .i64 d.c.ar d.call.b)).2)
def mU(k:ai)(d:sN):Told × ai:=
 (⟨((k.iR d.c.obj).cJ d.call.a).2.1,0,-1,if((k.iR d.c.obj).cJ d.call.a).2.1=0 then [⟨d.c.obj,d.call.a,((k.iR d.c.obj).cJ d.call.a).1.1,((k.iR d.c.obj).cJ d.call.a).1.2⟩]else []⟩,k.mi d.c.obj ((k.iR d.c.obj).cJ d.call.a).2.2)
def bind(k:ai)(d:sN):Told × ai:=
 if k.dT d.call.ay 5=qd then tell 181 k
 else tell (oF k.ln d.c.obj (k.bm d.call.ay).obj (k.bm d.call.ay).aD).1 { k with ln:=(oF k.ln d.c.obj (k.bm d.call.ay).obj (k.bm d.call.ay).aD).2}
def iK(k:ai)(r:(qg (U × U)× U)× y7):U × U × ai:=match r.1.1 with
 |none=>(r.1.2,-1,{ k with ln:=r.2})
 |some x=>(r.1.2,((ai.bq { k with ln:=r.2} x.1 x.2).1),(ai.bq { k with ln:=r.2} x.1 x.2).2)
def resume(k:ai)(d:sN):U × U × ai:=(if k.t.dC d.c.obj=G/\(k.t.th d.c.obj).st=3 then k.eH d.c.obj else k).eY d.c.obj
def kd(k:ai)(d:sN):Told × ai:=
 (⟨0,((Tr.cY k.T d.s).length:U),-1,(dq (Tr.cY k.T d.s).reverse k).1⟩,
  if d.c.kind=1 then(dq (Tr.cY k.T d.s).reverse k).2.mg d.c.obj else(dq (Tr.cY k.T d.s).reverse k).2)
def asks(k:ai)(d:sN):Told × ai:=match d.call.ask with
 |0=>tell (k.fc d).1 (k.fc d).2
 |1=>tell (k.og d).1 (k.og d).2
 |2=>tell (k.move d).1 (k.move d).2
 |3=>if d.call.at_=0 then tell 181 k else(⟨0,0,-1,(k.gone d.s).1⟩,(k.gone d.s).2)
 |4=>k.kd d
 |5=>eN (k.resume d)
 |6=>tell (k.t.cy d.c.obj).1 ((k.eH d.c.obj).cG (k.t.cy d.c.obj).2)
 |7=>tell (k.t.gP d.c.obj d.call.a).1 (k.cG (k.t.gP d.c.obj d.call.a).2)
 |8=>k.send d
 |9=>k.recv d
 |10=>(⟨0,0,(k.bq d.c.obj d.c.aD).1,[]⟩,(k.bq d.c.obj d.c.aD).2)
 |11=>k.wait d
 |12=>k.table d
 |13=>k.mapped d
 |14=>k.mU d
 |15=>k.bind d
 |_=>eN (k.iK (jG k.ln d.c.obj))
def aJ(ask:U):U × U:=([(1,0),(0,0),(0,0),(0,0),(0,0),(3,0),(3,0),(3,0),(4,2),(4,1),(5,2),(5,1),(7,0),(6,0),(8,0),(9,0),(9,0),(0,0)][ask.toNat]?).getD (0,0)
def asked(k:ai)(core cur:U)(c:Call):Told × ai:=
 if k.dT c.at_ (aJ c.ask).1=qd then tell 181 k
 else if fE .i64 (k.bm c.at_).ar (aJ c.ask).2≠(aJ c.ask).2 then tell 181 k
 else k.asks ⟨core,cur,c,(0,c.at_),k.bm c.at_⟩
def «do»(k:ai)(core:U)(c:Call):Told × ai:=match(k.t.bj core).cj core with
 |none=>tell 182 (k.cG (k.t.bj core))
 |some cur=>if c.ask<0\/18<=c.ask then tell 180 (k.cG (k.t.bj core))
  else if c.ask=17 then tell 0 (k.cG ((k.t.bj core).yield core))
  else(k.cG (k.t.bj core)).asked core cur c
def irq(k:ai)(line:U):U × U × ai:=k.iK (fA k.ln line)
def tick(k:ai)(core:U):ai:=k.cG (k.t.tick core)
end ai
section
variable{B:S}{w0 w:W}{R L:J aG}{s:Sl}{b N:S}{k:ai}
def ai.gj(k:ai)(c:dB):Prop:=0<=c.obj/\(c.kind=1->c.obj<(k.u.length:U))/\(c.kind=2->c.obj<(k.bits.length:U))/\(c.kind=3->c.obj<(k.t.bK.length:U))/\
 (c.kind=4->c.obj<(k.ends.length:U))/\(c.kind=5->c.obj<(k.notes.length:U))/\(c.kind=6->c.obj<(k.aU:U))/\(c.kind=7->c.obj<(k.cP:U))/\(c.kind=8->c.obj<(k.af.length:U))/\(c.kind=9->c.obj<8)
structure bD(N:S)(k:ai):Prop where
 b0:k.bits[0]?=X 6
 um:Sl.uj k.bits k.H
 held:∀s c,k.H s=X c->(s.1=0/\0<=s.2/\s.2<64)/\k.gj c
 tok:Tr.rP k.T
 mem:∀s,s∈k.T.map (·.1)↔(k.H s).isSome=G
 inv:Th.bR (-1) k.t
 ln:k.ln.length=8
 Jg:∀x∈k.ln,x.is≠0->0<=x.note/\x.note<(k.notes.length:U)
 u:∀x∈k.u,A5 x
 Cd:∀m∈k.af,Tb.fV m
 nu:k.u.length<=N
 ne:k.ends.length<=N
 nn:k.notes.length<=N
 ns:k.af.length<=N
 nf:k.aU<=N
 nt:k.cP<=N
 el:∀p∈k.ends,p.l.length<=N
 nl:∀p∈k.notes,p.l.length<=N
structure Gr(k k':ai):Prop where
 u:k.u.length<=k'.u.length
 b:k.bits.length<=k'.bits.length
 t:k.t.bK.length<=k'.t.bK.length
 e:k.ends.length<=k'.ends.length
 n:k.notes.length<=k'.notes.length
 f:k.aU<=k'.aU
 tb:k.cP<=k'.cP
 s:k.af.length<=k'.af.length
theorem Gr.obj{k k':ai}(h:Gr k k'){c:dB}(ho:k.gj c):k'.gj c:=by have h1:=h.u;have h2:=h.b;have h3:=h.t;have h4:=h.e;have h5:=h.n;have h6:=h.f;have h7:=h.tb;have h8:=h.s;obtain⟨o0,o1,o2,o3,o4,o5,o6,o7,o8,o9⟩:=ho;exact⟨o0,λe=>by have:=o1 e;omega,λe=>by have:=o2 e;omega,λe=>by have:=o3 e;omega,λe=>by have:=o4 e;omega,λe=>by have:=o5 e;omega,λe=>by have:=o6 e;omega,λe=>by have:=o7 e;omega,λe=>by have:=o8 e;omega,o9⟩
theorem bD.mono{N M:S}{k:ai}(h:bD N k)(hm:N<=M):bD M k:=
 { h with
  nu:=SY h.nu hm,ne:=SY h.ne hm,nn:=SY h.nn hm,ns:=SY h.ns hm,nf:=SY h.nf hm,nt:=SY h.nt hm
  el:=λp hp=>SY (h.el p hp) hm,nl:=λp hp=>SY (h.nl p hp) hm}
theorem LC{bits:J U}(h:bits[0]?=X 6):Sl.fa bits 0=X 6:=by unfold Sl.fa;rw[Y qb,show((0:U).toNat)=0 from O,h];rfl
theorem nH{bits:J U}(h:bits[0]?=X 6){s:Slot}(hs:s.1=0/\0<=s.2/\s.2<64):Sl.bc bits s=true:=by unfold Sl.bc;rw[hs.1,LC h];exact qp ⟨hs.2.1,by show s.2<2^6;omega⟩
theorem AE{T:Tr.Tr}{s:Slot}:(Tr.bM T s).isSome=G↔s∈T.map (·.1):=by unfold Tr.bM;rw[List.findIdx?_isSome,TY,Tj];simp only[qF]
theorem tK{T:Tr.Tr}{s:Slot}(h:s∉T.map (·.1)):Tr.bM T s=none:=by
 cases e:Tr.bM T s with
 |none=>rfl
 |some i=>exact qk (AE.1 (by rw[e];rfl)) h
theorem uV{T:Tr.Tr}{s:Slot}(h:s∈T.map (·.1)):∃i,Tr.bM T s=X i:=Uc.1 (AE.2 h)
theorem bD.fu(h:bD N k):k.T.length<=64:=by
 have h1:=Sl.rk 64 ((k.T.map (·.1)).map (·.2)) (by
  refine UR.2 (List.Pairwise.imp_of_mem (λ{x y}hx hy hne e=>hne ?_) h.tok.nd);obtain⟨c,hc⟩:=Uc.1 ((h.mem x).1 hx);obtain⟨d,hd⟩:=Uc.1 ((h.mem y).1 hy);exact Prod.ext (by rw[(h.held x c hc).1.1,(h.held y d hd).1.1]) e) λx hx=>by
  obtain⟨s,hs,rfl⟩:=Tj.1 hx;obtain⟨c,hc⟩:=Uc.1 ((h.mem s).1 hs);exact(h.held s c hc).1.2
 simpa using h1
theorem bD.cG(h:bD N k){t:Th.Mt}(hi:Th.bR (-1) t)(hl:k.t.bK.length<=t.bK.length):bD N (k.cG t):=
 { h with
  inv:=hi
  held:=λs c hc=>⟨(h.held s c hc).1,Gr.obj (k:=k) (k':=k.cG t) ⟨SA _,SA _,hl,SA _,SA _,SA _,SA _,SA _⟩ (h.held s c hc).2⟩}
theorem bD.put(h:bD N k){t:Slot}{c:dB}(ht:t.1=0/\0<=t.2/\t.2<64)(hn:k.H t=Q)(hc:Sl.cH c=0)(h0:c.kind≠0):Sl.kc k.bits k.H t c=(0,Sl.dj k.H t (X c)):=by unfold Sl.kc;rw[nH h.b0 ht,Y qb,Y (by rw[hc];decide),Y h0,hn,Y qb]
theorem bD.laid(h:bD N k){f t:Slot}{c:dB}(hf:(k.H f).isSome=G)(ht:t.1=0/\0<=t.2/\t.2<64)(hn:k.H t=Q)(hc:Sl.cH c=0)(h0:c.kind≠0)(hr:Sl.gl c)(ho:k.gj c):
  bD N (k.laid f t c)/\(k.laid f t c).H=Sl.dj k.H t (X c):=by
 have hput:=h.put ht hn hc h0;obtain⟨i,hi⟩:=uV ((h.mem f).2 hf);have hno:Tr.bM k.T t=none:=tK λe=>by rw[h.mem,hn]at e;cases e
 have hT:Tr.A7 k.T f t=(0,k.T.take (i+1)++ [(t,Tr.xt k.T i+1)]++k.T.drop (i+1)):=by unfold Tr.A7;rw[hi];dsimp only;rw[hno]
 have hH:(k.laid f t c).H=Sl.dj k.H t (X c):=by unfold ai.laid;rw[hput]
 have hT2:(k.laid f t c).T=k.T.take (i+1)++ [(t,Tr.xt k.T i+1)]++k.T.drop (i+1):=by unfold ai.laid;rw[hT]
 have hfew:=h.fu;refine⟨{ h with
  um:=by rw[hH];exact h.um.put (nH h.b0 ht) hc h0 hr
  held:=λs x hx=>?_
  tok:=by rw[hT2];exact h.tok.add om hi hno
  mem:=λs=>?_},hH⟩
 .rw[hH]at hx
  unfold Sl.dj at hx;by_cases e:s=t
  .rw[Z e]at hx;cases hx;rw[e];exact⟨ht,ho⟩
  .rw[Y e]at hx;exact h.held s x hx
 .rw[hH,hT2]
  unfold Sl.dj;have hm:s∈(k.T.take (i+1)++ [(t,Tr.xt k.T i+1)]++k.T.drop (i+1)).map (·.1)↔(s=t\/s∈k.T.map (·.1)):=by
   conv=>rhs;rw[<-Tl (i+1) k.T]
   simp only[S0,Tv,S7,Uf,Tf];constructor
   .rintro ((h|h)|h)
    .exact .inr (.inl h)
    .exact .inl h
    .exact .inr (.inr h)
   .rintro (h|h|h)
    .exact .inl (.inr h)
    .exact .inl (.inl h)
    .exact .inr h
  rw[hm];by_cases e:s=t
  .simp[e]
  .rw[Y e,<-h.mem];simp[e]
theorem bD.same(h:bD N k){k':ai}(hb:k'.bits=k.bits)(hH:k'.H=k.H)(hT:k'.T=k.T)(hg:Gr k k')(hi:Th.bR (-1) k'.t)(hl:k'.ln.length=8)(hlb:∀x∈k'.ln,x.is≠0->0<=x.note/\x.note<(k'.notes.length:U))
  (hu:∀x∈k'.u,A5 x) (hs:∀m∈k'.af,Tb.fV m) {M:S} (nu:k'.u.length<=M) (ne:k'.ends.length<=M) (nn:k'.notes.length<=M) (ns:k'.af.length<=M) (nf:k'.aU<=M) (nt:k'.cP<=M) (el:∀p∈k'.ends,p.l.length<=M) (nl:∀p∈k'.notes,p.l.length<=M):bD M k':=
 ⟨by rw[hb];exact h.b0,by rw[hb,hH];exact h.um,λs c hc=>by rw[hH]at hc;exact⟨(h.held s c hc).1,hg.obj (h.held s c hc).2⟩,by rw[hT];exact h.tok,λs=>by rw[hT,hH];exact h.mem s,hi,hl,hlb,hu,hs,nu,ne,nn,ns,nf,nt,el,nl⟩
theorem bD.cap(h:bD N k){n:U}(hn:(k.bm n).kind≠0):(0<=n/\n<64)/\k.H (0,n)=X (k.bm n)/\k.gj (k.bm n)/\Sl.gl (k.bm n)/\Sl.cH (k.bm n)=0:=by
 unfold ai.bm at*
 split at hn
 .rename_i e
  rw[Z e];cases hc:k.H (0,n)with
  |none=>rw[hc]at hn;exact qk O hn
  |some c=>exact⟨e,O,(h.held _ c hc).2,(h.um.held _ c hc).2.2.2,(h.um.held _ c hc).2.1⟩
 .exact qk O hn
theorem jm{n kind:U}(h:k.dT n kind=G):(k.bm n).kind≠0/\(kind≠0->(k.bm n).kind=kind):=by unfold ai.dT at h;simp only[S4,TV,qF]at h;exact⟨h.1,λe=>h.2.elim (λh=>qk h e) id⟩
theorem bD.z8(h:bD N k){w:U}{n:S}(hf:k.gi w n=0):0<=w/\w+n<=64/\∀i:S,i<n->k.H (0,w+(i:U))=none:=by
 unfold ai.gi at hf;split at hf
 .cases hf
 rename_i h1;split at hf
 .cases hf
 rename_i h2;refine⟨om,om,λi hi=>?_⟩;cases hc:k.H (0,w+(i:U))with
 |none=>rfl
 |some c=>
  exfalso;apply h2;rw[TY];refine⟨i,T6.2 hi,qp ?_⟩;unfold ai.bm;rw[Z om,hc];exact(h.um.held _ c hc).2.2.1
theorem eA{w:W}{b o n i:S}{ss:J Sc}{f:rQ ss Prop}(h:hI w (Addr.mk b (o+n) Q) i ss f):hI w ((Addr.mk b o Q).add n) i ss f:=by rw[aL];exact h
theorem wu{w:W}{b o n i:S}{vs:J V}{k:Pw}(h:oy w (Addr.mk b (o+n) Q) i vs k):oy w ((Addr.mk b o Q).add n) i vs k:=by rw[aL];exact h
theorem L4{w:W}{b o n i:S}{vs:J V}{C:Prop}(h:Np w (Addr.mk b (o+n) Q) i vs C):Np w ((Addr.mk b o Q).add n) i vs C:=by rw[aL];exact h
theorem bB{w:W}{b o n m:S}{v:qg V}(h:w.cell? ((Addr.mk b (o+n) Q).add m)=v):w.cell? (((Addr.mk b o Q).add n).add m)=v:=by rw[aL b o n];exact h
theorem ji{w:W}{b o n m:S}{v:V}{k:Pw}(h:St w ((Addr.mk b (o+n) Q).add m) v k):St w (((Addr.mk b o Q).add n).add m) v k:=by rw[aL b o n];exact h
structure Kx where
 n:S
 tr:S
 t:S
 ln:S
 su:Sl
 se:Sl
 sn:Sl
 ss:Sl
 pe:J S
 pn:J S
 ps:J S
abbrev cr(x:Kx)(fr tb nb nt:S):J V:=[.q x.n,.q x.tr,.q x.t,.q x.ln,x.su.v,x.se.v,x.sn.v,x.ss.v,
 .z (fr:U),.z (tb:U),.z (nb:U),.z (nt:U)]
def ao(b:S)(k:ai):aG:=oA λx:Kx=>aQ [ae b (cr x k.aU k.cP k.bits.length k.t.bK.length),Sl.aC x.n k.bits k.H,Tr.cg x.tr k.T,Th.bJ x.t k.t,bS x.ln k.ln,ag dV x.su k.u,ag bw x.se x.pe,aq da x.pe k.ends,ag bw x.sn x.pn,aq cu x.pn k.notes,ag bw x.ss x.ps,aq Tb.bP x.ps k.af]
def au:dX dM:=⟨4,λo=>[.z o.space,.z o.aX,.z o.frame,.z o.ar],λ_=>rfl,λx v h=>by simp only[SH,TE,qG]at h;rcases h with rfl|rfl|rfl|rfl<;>rfl,qb⟩
abbrev ak(bk:S)(d:sN)(e w wk:U)(fs:Sl):J V:=[.q bk,.z d.core,.z d.cur,.z d.call.ask,.z d.call.at_,.z d.call.ay,.z d.call.a,.z d.call.b,.z d.call.c,
 .z d.s.1,.z d.s.2,.z d.c.kind,.z d.c.obj,.z d.c.ar,.y d.c.aD,.y d.c.guard,.z d.c.bits,.z e,.y w,.z wk,fs.v]
theorem Ow.zi(h:Ow B w0 w (ao b k::R)):∃x:Kx,Ow B w0 w (ae b (cr x k.aU k.cP k.bits.length k.t.bK.length)::Sl.aC x.n k.bits k.H::Tr.cg x.tr k.T::Th.bJ x.t k.t::bS x.ln k.ln::ag dV x.su k.u::ag bw x.se x.pe::aq da x.pe k.ends::ag bw x.sn x.pn::aq cu x.pn k.notes::ag bw x.ss x.ps::aq Tb.bP x.ps k.af::R):=by obtain⟨x,h⟩:=h.ex;exact⟨x,h.star⟩
theorem Ow.cN(x:Kx){bits:J U}{H:Sl.Hs}{T:Tr.Tr}{t:Th.Mt}{ln:y7}{u:J sV}{ends:J fp}{notes:J rB}{af:J Tb.dS}{fr tb:S}
  (h:Ow B w0 w (ae b (cr x fr tb bits.length t.bK.length)::Sl.aC x.n bits H::Tr.cg x.tr T::Th.bJ x.t t::bS x.ln ln::ag dV x.su u::ag bw x.se x.pe::aq da x.pe ends::ag bw x.sn x.pn::aq cu x.pn notes::ag bw x.ss x.ps::aq Tb.bP x.ps af::R)):
  Ow B w0 w (ao b ⟨bits,H,T,t,ln,u,ends,notes,af,fr,tb⟩::R):=Ow.eu x (Ow.aR h)
def nZ:dB:=⟨2,0,7,0,0,0⟩
theorem AN{bits:J U}{H:Sl.Hs}{n:S}(hb:bits[0]?=X 6)(hn:n<64):Sl.tY bits H nZ n 6=((0,(n:U)),0):=by
 have hnode:Sl.rH bits nZ=X 6:=by unfold Sl.rH;rw[Y qb,Y qb];exact LC hb
 have hstep:Sl.eX bits n nZ 6=(0,(0,(n:U)),0):=by
  unfold Sl.eX;rw[hnode];dsimp only;rw[Y (show ¬6<nZ.bits.toNat by decide),Y (show ¬((n / 2^(6-nZ.bits.toNat)%2^nZ.bits.toNat:S):U)≠nZ.guard from λhh=>hh (by show((n / 64%1:S):U)=0;omega)),Y (show ¬(6-nZ.bits.toNat<(6:U).toNat) by decide)];have e:n / 2^(6-nZ.bits.toNat-(6:U).toNat)%2^(6:U).toNat=n:=by show n / 1%64=n;omega
  rw[e];rfl
 unfold Sl.tY;rw[Y qb];show Sl.lX bits H n 6 nZ 6=_;unfold Sl.lX;rw[hstep];rfl
theorem va{n:U}{K:U->U->I->Pw}(hb:k.bits[0]?=X 6)(h:Ow B w0 w (ao b k::R))
  (hK:∀w'(s:Slot)is,(is=G->s=(0,n)/\0<=n/\n<64)->(is=qd->¬(0<=n/\n<64))->Ow B w0 w' (ao b k::R)->K s.1 s.2 is w'):aa9 b.o n K w:=by
 apply aij;refine h.a λc w1 h=>?_;intro k4 hk4;have bad:¬(0<=n/\n<64)->k4 G w1:=λe=>by
  apply hk4;refine aW O ?_;refine h.aB O O λw h=>?_;refine h.aM O ?_;exact hK w (0,0) qd (λe=>by cases e) (λ_=>e) h.drop
 refine bh (λe=>bad om) (λe=>?_);by_cases e2:n>=64
 .rw[qp e2];exact bad om
 rw[ql e2];apply hk4;refine aV O ?_;obtain⟨n,rfl⟩:=SI (show 0<=n by omega);refine h.a λd w2 h=>?_;refine h.aB O O λw h=>?_;intro k12 hk12;have fin:∀(s:S)(w:W),Ow B w0 w (ae s [.z 0,.z (n:U)]::ae c [.z 0,.z 0]::ao b k::R)->k12 s.p 0 w:=λs w h=>by
  apply hk12;refine h.aM O ?_;refine h.aB O O λw h=>?_;refine h.aM O ?_;exact hK w (0,(n:U)) G (λ_=>⟨O,om,om⟩) (λe=>by cases e) h.drop.drop
 obtain⟨x,h⟩:=h.lI.zi;refine h.dr λw h=>?_;refine⟨_,O,h.l1 O ?_⟩;rw[show qA.wrap (n:U)=(n:U)from by rw[Sl.wrap_u64,Tn om]];refine h.eE O ⟨?_,?_,trivial⟩
 .refine Sl.mJ (root:=nZ) (addr:=n) (depth:=6) ⟨qb,qb,qb,qb⟩ om (h.pick (A:=Sl.aC x.n k.bits k.H)) λw h=>?_
  rw[AN hb om];refine⟨h.al λw' h=>⟨?_,trivial⟩,trivial⟩
  generalize w.heap.size=s at h|-;refine h.aB O O λw h=>?_;refine fin s w ((show Ow B w0 w (ao b k::ae s [.z 0,.z (n:U)]::ae c [.z 0,.z 0]::R)from Ow.cN x h.sub).sub)
 .refine h.al λw' h=>⟨?_,trivial⟩
  generalize w.heap.size=s at h|-;refine Sl.mJ (root:=nZ) (addr:=n) (depth:=6) ⟨qb,qb,qb,qb⟩ om (h.pick (A:=Sl.aC x.n k.bits k.H)) λw h=>?_;rw[AN hb om];refine⟨h.aB O O λw h=>?_,trivial⟩;refine fin s w ((show Ow B w0 w (ao b k::ae s [.z 0,.z (n:U)]::ae c [.z 0,.z 0]::R)from Ow.cN x h.sub).sub)
theorem tt{x:Kx}{s:Slot}{K:U->U->U->U->U->U->U->Pw}{L:J aG}(hk:Sl.uj k.bits k.H)(h:Ow B w0 w L)[ale:eL (Sl.aC x.n k.bits k.H) L R]
  (hK:∀w' c e,c=(Sl.Bs k.bits k.H s).1->Sl.gl c->Ow B w0 w' (Sl.aC x.n k.bits k.H::R)->K c.kind c.obj c.ar c.aD c.guard c.bits e w'):WR x.n.o s.1 s.2 K w:=
 Sl.DY h.pick 0 O λw' c e he hr h=>hK w' c e (qz Prod.fst he) hr h
theorem tq{N:S}(hk:bD N k){n:U}(hn:0<=n/\n<64):(Sl.Bs k.bits k.H (0,n)).1=k.bm n:=by unfold Sl.Bs;rw[Y (by rw[nH hk.b0 ⟨rfl,hn⟩];decide)];unfold ai.bm;rw[Z hn]
theorem pV{N:S}{n kind:U}{K:U->U->U->U->U->U->U->U->I->Pw}(hk:bD N k)(h:Ow B w0 w (ao b k::R))
  (h1:k.dT n kind=qd->∀(s:Slot)(c:dB)w',Ow B w0 w' (ao b k::R)->K s.1 s.2 c.kind c.obj c.ar c.aD c.guard c.bits qd w')
  (h2:k.dT n kind=G->∀w' c,c=k.bm n->Ow B w0 w' (ao b k::R)->K 0 n c.kind c.obj c.ar c.aD c.guard c.bits G w'):Z3 b.o n kind K w:=by
 apply agG;refine h.a λc0 w1 h=>?_;refine h.a λc1 w2 h=>?_;refine va hk.b0 h.lI λw s is ht hf h=>?_;refine h.a λc2 w' h=>?_;refine h.aB O O λw h=>?_;intro k12 hk12;have fin:∀(sb:S)(c:dB)(w:W),(is=G->c=k.bm n)->Ow B w0 w (ae sb c.cells::ae c2 [.z s.1,.z s.2]::ao b k::ae c1 [.z 0,.z 0,.z 0,.y 0,.y 0,.z 0]::ae c0 [.z 0,.z 0]::R)->k12 sb.p w:=λsb c w hc h=>by
  apply hk12;refine h.dr λw h=>?_;refine h.aM O ?_;cases is with
  |false=>
   have hB:k.dT n kind=false:=by unfold ai.dT ai.bm;rw[Y (hf O)];rfl
   refine aV O ?_;have hKK:∀w',Ow B w0 w' (ao b k::R)->K s.1 s.2 c.kind c.obj c.ar c.aD c.guard c.bits qd w':=h1 hB s c
   (repeat' (first|exact trivial|(exact hKK _ h.sub)|(refine h.al λw h=>?_)|(refine h.dr λw h=>?_)|(refine h.aM O ?_)|(refine h.eE O ?_)|(refine h.l1 O ?_)|(refine h.l2 O ?_)|(refine h.hd O ?_)|(refine⟨h.aE O,?_⟩)|(refine⟨h.aA O,?_⟩)|(refine h.aB O O λw h=>?_)|(refine fy ?_)|(refine _root_.Go.Vc.a2 ?_)|(refine h.jD O O λw h=>?_)|(refine h.fD O O λw h=>?_)|(refine And.intro ?_ ?_)))
  |true=>
   obtain⟨rfl,hn⟩:=ht O;have hc:=hc O;refine aW O (h.l1 O ?_);refine pR (λe=>?_) (λe=>?_)
   .refine dW (λe2=>?_) (λe2=>?_)
    .have hB:k.dT n kind=true:=by unfold ai.dT;rw[<-hc];simp[e,e2]
     have hKK:∀w',Ow B w0 w' (ao b k::R)->K 0 n c.kind c.obj c.ar c.aD c.guard c.bits G w':=λw' h=>h2 hB w' c hc h
     (repeat' (first|exact trivial|(exact hKK _ h.sub)|(refine h.al λw h=>?_)|(refine h.dr λw h=>?_)|(refine h.aM O ?_)|(refine h.eE O ?_)|(refine h.l1 O ?_)|(refine h.l2 O ?_)|(refine h.hd O ?_)|(refine⟨h.aE O,?_⟩)|(refine⟨h.aA O,?_⟩)|(refine h.aB O O λw h=>?_)|(refine fy ?_)|(refine _root_.Go.Vc.a2 ?_)|(refine h.jD O O λw h=>?_)|(refine h.fD O O λw h=>?_)|(refine And.intro ?_ ?_)))
    .have hKK:∀w',Ow B w0 w' (ao b k::R)->K 0 n c.kind c.obj c.ar c.aD c.guard c.bits (c.kind==kind) w':=λw' h=>by
      by_cases e3:c.kind=kind
      .rw[show(c.kind==kind)=G from by simpa using e3]
       refine h2 ?_ w' c hc h;unfold ai.dT;rw[<-hc,<-e3];simp[e]
      .rw[show(c.kind==kind)=qd from by simpa using e3]
       refine h1 ?_ (0,n) c w' h;unfold ai.dT;rw[<-hc];simp[e2,e3]
     (repeat' (first|exact trivial|(exact hKK _ h.sub)|(refine h.al λw h=>?_)|(refine h.dr λw h=>?_)|(refine h.aM O ?_)|(refine h.eE O ?_)|(refine h.l1 O ?_)|(refine h.l2 O ?_)|(refine h.hd O ?_)|(refine⟨h.aE O,?_⟩)|(refine⟨h.aA O,?_⟩)|(refine h.aB O O λw h=>?_)|(refine fy ?_)|(refine _root_.Go.Vc.a2 ?_)|(refine h.jD O O λw h=>?_)|(refine h.fD O O λw h=>?_)|(refine And.intro ?_ ?_)))
   .have hKK:∀w',Ow B w0 w' (ao b k::R)->K 0 n c.kind c.obj c.ar c.aD c.guard c.bits qd w':=h1 (by unfold ai.dT;rw[<-hc];simp[e]) (0,n) c
    (repeat' (first|exact trivial|(exact hKK _ h.sub)|(refine h.al λw h=>?_)|(refine h.dr λw h=>?_)|(refine h.aM O ?_)|(refine h.eE O ?_)|(refine h.l1 O ?_)|(refine h.l2 O ?_)|(refine h.hd O ?_)|(refine⟨h.aE O,?_⟩)|(refine⟨h.aA O,?_⟩)|(refine h.aB O O λw h=>?_)|(refine fy ?_)|(refine _root_.Go.Vc.a2 ?_)|(refine h.jD O O λw h=>?_)|(refine h.fD O O λw h=>?_)|(refine And.intro ?_ ?_)))
 obtain⟨x,h⟩:=h.cC.zi;refine h.dr λw h=>?_;refine⟨_,O,h.l1 O ?_⟩;have hcap:∀c:dB,c=(Sl.Bs k.bits k.H s).1->is=G->c=k.bm n:=λc hc e=>by obtain⟨rfl,hn⟩:=ht e;rw[hc,tq hk hn]
 refine h.aM O ⟨?_,?_,trivial⟩
 .refine tt (s:=s) hk.um h λw c e hc hr h=>?_
  refine⟨h.al λw' h=>⟨?_,trivial⟩,trivial⟩
  generalize w.heap.size=sb at h|-;refine h.aB O O λw h=>?_;exact fin sb c w (hcap c hc) (Ow.sub (L:=ao b k::ae sb c.cells::ae c2 [.z s.1,.z s.2]::ae c1 [.z 0,.z 0,.z 0,.y 0,.y 0,.z 0]::ae c0 [.z 0,.z 0]::R) (Ow.cN x h.sub))
 .refine h.al λw' h=>⟨?_,trivial⟩
  generalize w.heap.size=sb at h|-;refine tt (s:=s) hk.um h λw c e hc hr h=>?_;refine⟨h.aB O O λw h=>?_,trivial⟩;exact fin sb c w (hcap c hc) (Ow.sub (L:=ao b k::ae sb c.cells::ae c2 [.z s.1,.z s.2]::ae c1 [.z 0,.z 0,.z 0,.y 0,.y 0,.z 0]::ae c0 [.z 0,.z 0]::R) (Ow.cN x h.sub))
abbrev aK:dX Slot:=Sl.aK
theorem l0{w:W}{A:qf}{x:Slot}{f:U->U->Prop}(g:∀c v,(aK.enc x)[c]?=X v->w.cell? (A.add c)=X v)(hf:f x.1 x.2):hI w A 0 [.o,.o] f:=⟨_,g 0 _ O,_,g 1 _ O,hf⟩
theorem Oi{w:W}{A:qf}{x:Slot × dB}{f:U->U->U->U->U->U->U->U->Prop}(g:∀c v,(Sl.eM.enc x)[c]?=X v->w.cell? (A.add c)=X v)(hf:f x.1.1 x.1.2 x.2.kind x.2.obj x.2.ar x.2.aD x.2.guard x.2.bits):
  hI w A 0 [.o,.o,.o,.o,.o,.u,.u,.o] f:=⟨_,g 0 _ O,_,g 1 _ O,_,g 2 _ O,_,g 3 _ O,_,g 4 _ O,_,g 5 _ O,_,g 6 _ O,_,g 7 _ O,hf⟩
theorem wY{p:Slot->I}{f:V}{xs:J Slot}{K:U->Pw}[ale:bG s L Slot aK xs](h:Ow B w0 w L)(hbig:xs.length<=1000000000)
  (hf:∀(y:Slot)(w:W)(alf:I->Pw),y∈xs->Ow B w0 w L->(∀w',Ow B w0 w' L->alf (p y) w')->fP qh f [.agg ⟨aK.enc y⟩] w λen w'=>∃r:I,en= .returned (.bool r)/\alf r w')
  (hK:∀w',Ow B w0 w' L->K (eC p xs) w'):ac9 s f K w:=by
 apply afM;have hlen:=h.aF s;intro l hl;have loop:∀(m j:S)(w:W),j+m=xs.length->(∀i,i<j->∀y,xs[i]?=X y->p y=qd)->Ow B w0 w L->l (j:U) w:=by
  intro m;induction m with
  |zero=>
   intro j w hj hno h;apply hl;refine av om ?_;have hn:xs.findIdx? p=none:=by rw[Tt];intro y hy;obtain⟨i,hi⟩:=Tg.1 hy;exact hno i (by have:=(Sz.1 hi).1;omega) y hi
   have e:eC p xs= -1:=by unfold eC;rw[hn]
   rw[<-e];exact hK _ h
  |succ m ih=>
   intro j w hj hno h;have hx:xs[j]?=X xs[j]:=gE om;apply hl;refine az om ?_;refine h.cd (s:=s) O hx λa ha h0 hc=>?_;refine l0 hc ?_;refine hf xs[j] w _ (Tq _) h λw h=>?_;cases hp:p xs[j]with
   |true=>
    refine aW O ?_;have hn:xs.findIdx? p=X j:=by rw[Tc];refine⟨om,hp,λi hi=>?_⟩;have:=hno i hi xs[i] (gE om);simp[this]
    have e:eC p xs=(j:U):=by unfold eC;rw[hn]
    rw[<-e];exact hK _ h
   |false=>
    refine aV O ?_;rw[wr om om];refine ih (j+1) w om (λi hi z hz=>?_) h;by_cases e:i=j
    .subst e;rw[hx]at hz;cases hz;exact hp
    .exact hno i om z hz
 exact loop xs.length 0 w om (λi hi=>by omega) h
theorem sQ{p:Slot->I}{f:V}{xs:J Slot}{K:I->Pw}[ale:bG s L Slot aK xs](h:Ow B w0 w L)(hbig:xs.length<=1000000000)
  (hf:∀(y:Slot)(w:W)(alf:I->Pw),y∈xs->Ow B w0 w L->(∀w',Ow B w0 w' L->alf (p y) w')->fP qh f [.agg ⟨aK.enc y⟩] w λen w'=>∃r:I,en= .returned (.bool r)/\alf r w')
  (hK:∀w',Ow B w0 w' L->K (xs.any p) w'):aco s f K w:=by
 apply afE;refine wY h hbig hf λw h=>?_;rw[kT];exact hK w h
theorem wU{p:Slot × dB->I}{f:V}{xs:J (Slot × dB)}{K:U->Pw}[ale:bG s L (Slot × dB) Sl.eM xs](h:Ow B w0 w L)(hbig:xs.length<=1000000000)
  (hf:∀(y:Slot × dB)(w:W)(alf:I->Pw),Ow B w0 w L->(∀w',Ow B w0 w' L->alf (p y) w')->fP qh f [.agg ⟨Sl.eM.enc y⟩] w λen w'=>∃r:I,en= .returned (.bool r)/\alf r w')
  (hK:∀w',Ow B w0 w' L->K (eC p xs) w'):ada s f K w:=by
 apply afP;have hlen:=h.aF s;intro l hl;have loop:∀(m j:S)(w:W),j+m=xs.length->(∀i,i<j->∀y,xs[i]?=X y->p y=qd)->Ow B w0 w L->l (j:U) w:=by
  intro m;induction m with
  |zero=>
   intro j w hj hno h;apply hl;refine av om ?_;have hn:xs.findIdx? p=none:=by rw[Tt];intro y hy;obtain⟨i,hi⟩:=Tg.1 hy;exact hno i (by have:=(Sz.1 hi).1;omega) y hi
   have e:eC p xs= -1:=by unfold eC;rw[hn]
   rw[<-e];exact hK _ h
  |succ m ih=>
   intro j w hj hno h;have hx:xs[j]?=X xs[j]:=gE om;apply hl;refine az om ?_;refine h.cd (s:=s) O hx λa ha h0 hc=>?_;refine Oi hc ?_;refine hf xs[j] w _ h λw h=>?_;cases hp:p xs[j]with
   |true=>
    refine aW O ?_;have hn:xs.findIdx? p=X j:=by rw[Tc];refine⟨om,hp,λi hi=>?_⟩;have:=hno i hi xs[i] (gE om);simp[this]
    have e:eC p xs=(j:U):=by unfold eC;rw[hn]
    rw[<-e];exact hK _ h
   |false=>
    refine aV O ?_;rw[wr om om];refine ih (j+1) w om (λi hi z hz=>?_) h;by_cases e:i=j
    .subst e;rw[hx]at hz;cases hz;exact hp
    .exact hno i om z hz
 exact loop xs.length 0 w om (λi hi=>by omega) h
theorem sO{p:Slot × dB->I}{f:V}{xs:J (Slot × dB)}{K:I->Pw}[ale:bG s L (Slot × dB) Sl.eM xs](h:Ow B w0 w L)(hbig:xs.length<=1000000000)
  (hf:∀(y:Slot × dB)(w:W)(alf:I->Pw),Ow B w0 w L->(∀w',Ow B w0 w' L->alf (p y) w')->fP qh f [.agg ⟨Sl.eM.enc y⟩] w λen w'=>∃r:I,en= .returned (.bool r)/\alf r w')
  (hK:∀w',Ow B w0 w' L->K (xs.any p) w'):acv s f K w:=by
 apply afF;refine wU h hbig hf λw h=>?_;rw[kT];exact hK w h
theorem ky{ys:J Slot}{y:Slot}{c:S}{k:Sl->Pw}[ale:bG s L Slot aK ys][ak8:eL (ag aK s ys) L R](h:Ow B w0 w (ae c [.z y.1,.z y.2]::L))(hbig:ys.length<=1000000000)
  (hk:∀s' w',s'.len=ys.length+1->Ow B w0 w' (ag aK s' (ys++ [y])::R)->k s' w'):
  ∃s' w',dO qh [124,124] 124 s.v (.slice (X c.p) 1 1) w s' w'/\k s' w':=
 Ow.eZ (E:=aK) (y:=y) aj8 (show qh.info? 155=X qY from by kernel_rfl) (zv:= .agg #[.z 0,.z 0]) qa qa O qb h (by
  have e:qY.bytes=16:=qa
  rw[e];omega) hk
theorem CJ{ys:J sV}{y:sV}{c:S}{k:Sl->Pw}[ale:bG s L sV dV ys][ak8:eL (ag dV s ys) L R](h:Ow B w0 w (ae c [.y (y.base:U),.z (y.bits:U),.y (y.used:U)]::L))(hbig:ys.length<=1000000000)
  (hk:∀s' w',s'.len=ys.length+1->Ow B w0 w' (ag dV s' (ys++ [y])::R)->k s' w'):
  ∃s' w',dO qh [52,52] 52 s.v (.slice (X c.p) 1 1) w s' w'/\k s' w':=
 Ow.eZ (E:=dV) (y:=y) underlying52 (show qh.info? 98=X akm from by kernel_rfl) (zv:= .agg #[.y 0,.z 0,.y 0]) qa qa O qb h (by
  have e:akm.bytes=24:=qa
  rw[e];omega) hk
theorem sX{ys:J dM}{y:dM}{c:S}{k:Sl->Pw}[ale:bG s L dM au ys][ak8:eL (ag au s ys) L R](h:Ow B w0 w (ae c [.z y.space,.z y.aX,.z y.frame,.z y.ar]::L))(hbig:ys.length<=1000000000)
  (hk:∀s' w',s'.len=ys.length+1->Ow B w0 w' (ag au s' (ys++ [y])::R)->k s' w'):
  ∃s' w',dO qh [40,40] 40 s.v (.slice (X c.p) 1 1) w s' w'/\k s' w':=
 Ow.eZ (E:=au) (y:=y) aj4 (show qh.info? 289=X akn from by kernel_rfl) (zv:= .agg #[.z 0,.z 0,.z 0,.z 0]) qa qa O qb h (by
  have e:akn.bytes=32:=qa
  rw[e];omega) hk
theorem JC{ys:J S}{y:S}{c:S}{k:Sl->Pw}[ale:bG s L S bw ys][ak8:eL (ag bw s ys) L R](h:Ow B w0 w (ae c [.q y]::L))(hbig:ys.length<=1000000000)
  (hk:∀s' w',s'.len=ys.length+1->Ow B w0 w' (ag bw s' (ys++ [y])::R)->k s' w'):
  ∃s' w',dO qh [104,104] 104 s.v (.slice (X c.p) 1 1) w s' w'/\k s' w':=
 Ow.eZ (E:=bw) (y:=y) akW (show qh.info? 173=X akv from by kernel_rfl) (zv:= .pointer Q) qa qa O qb h (by
  have e:akv.bytes=8:=qa
  rw[e];omega) hk
theorem Hp{ys:J S}{y:S}{c:S}{k:Sl->Pw}[ale:bG s L S bw ys][ak8:eL (ag bw s ys) L R](h:Ow B w0 w (ae c [.q y]::L))(hbig:ys.length<=1000000000)
  (hk:∀s' w',s'.len=ys.length+1->Ow B w0 w' (ag bw s' (ys++ [y])::R)->k s' w'):
  ∃s' w',dO qh [105,105] 105 s.v (.slice (X c.p) 1 1) w s' w'/\k s' w':=
 Ow.eZ (E:=bw) (y:=y) akX (show qh.info? 177=X akw from by kernel_rfl) (zv:= .pointer Q) qa qa O qb h (by
  have e:akw.bytes=8:=qa
  rw[e];omega) hk
theorem EG{ys:J S}{y:S}{c:S}{k:Sl->Pw}[ale:bG s L S bw ys][ak8:eL (ag bw s ys) L R](h:Ow B w0 w (ae c [.q y]::L))(hbig:ys.length<=1000000000)
  (hk:∀s' w',s'.len=ys.length+1->Ow B w0 w' (ag bw s' (ys++ [y])::R)->k s' w'):
  ∃s' w',dO qh [101,101] 101 s.v (.slice (X c.p) 1 1) w s' w'/\k s' w':=
 Ow.eZ (E:=bw) (y:=y) akY (show qh.info? 99=X akx from by kernel_rfl) (zv:= .pointer Q) qa qa O qb h (by
  have e:akx.bytes=8:=qa
  rw[e];omega) hk
theorem u6{a c:dB}{K:I->Pw}(h:Ow B w0 w R)(hK:∀w',Ow B w0 w' R->K (ai.oa a c) w'):acw a.kind a.obj a.ar a.aD a.guard a.bits c.kind c.obj c.ar c.aD c.guard c.bits K w:=by
 apply ad2;refine h.a λc0 w1 h=>?_;refine h.a λc1 w2 h=>?_;unfold ai.oa at hK;refine h.l1 O ?_;refine pR (λe=>?_) (λe=>?_)
 .refine ⟨_,h.aE O,h.l1 O ?_⟩
  refine dW (λe2=>?_) (λe2=>?_)
  .refine ⟨_,h.aA O,h.l2 O ?_⟩
   have:=hK w2 h.drop.drop;rw[qp e,qp e2,Uo,Uo]at this;exact this
  .have:=hK w2 h.drop.drop
   rw[ql e2,Uj,Bool.and_false]at this;exact this
 .have:=hK w2 h.drop.drop
  rw[ql (by simpa using e),Uj]at this;exact this
theorem Aw{c:dB}{r g:U}{K:U->U->U->U->U->U->U->Pw}(hc:Sl.gl c)(h:Ow B w0 w R)
  (hK:∀w' x,x=(ai.gI c r g).1->Ow B w0 w' R->K x.kind x.obj x.ar x.aD x.guard x.bits (ai.gI c r g).2 w'):abe c.kind c.obj c.ar c.aD c.guard c.bits r g K w:=by
 apply adX;refine h.a λc0 w1 h=>?_;refine h.a λc1 w2 h=>?_;refine h.eE O ?_;refine Sl.jU h hc λw h=>?_;unfold ai.gI at hK;have bad:∀(q:U)(w:W),(∀w',Ow B w0 w' R->K 0 0 0 0 0 0 q w')->Ow B w0 w (ae c1 [.z 0,.z 0,.z 0,.y 0,.y 0,.z 0]::ae c0 c.cells::R)->
   oy w c1.p 0 [.z (0:U),.z (0:U),.z (0:U),.y (0:U),.y (0:U),.z (0:U)] λw28=>
    hI w28 c1.p 0 [.o,.o,.o,.u,.u,.o] λ(r29:U)(r30:U)(r31:U)(r32:U)(r33:U)(r34:U)=>K r29 r30 r31 r32 r33 r34 q w28:=λq w hK h=>by
  refine h.aB O O λw h=>?_;refine h.eE O ?_;exact hK w h.drop.drop
 by_cases h1:Sl.cH c≠0
 .rw[Z h1]at hK
  refine iw h1 (bad _ w (λw' h=>hK w' _ O h) h)
 rw[Y h1]at hK;refine fh om ?_;refine Sl.mF ?_;by_cases h2:¬(0<=r/\r<=7)
 .rw[Z h2]at hK
  rw[show(!(qe (0<=r)&&qe (r<=7)))=G from by simp;omega];exact aW O (bad _ w (λw' h=>hK w' _ O h) h)
 rw[Y h2]at hK;rw[show(!(qe (0<=r)&&qe (r<=7)))=qd from by simp;omega];refine aV O (h.l1 O ?_);intro k36 hk36;have no:(c.kind=0\/(g≠0/\(Sl.dH c.kind=qd\/c.aD≠0)))->k36 G w:=λe=>by rw[Z e]at hK;apply hk36;exact aW O (bad _ w (λw' h=>hK w' _ O h) h)
 have yes:¬(c.kind=0\/(g≠0/\(Sl.dH c.kind=qd\/c.aD≠0)))->k36 qd w:=λe=>by
  rw[Y e]at hK;apply hk36;refine aV O (h.l1 O ?_);refine Sl.lQ ?_;intro k49 hk49;have fin:∀(r':U)(w:W),r'=(if Sl.dD c.kind then fE .i64 c.ar r else c.ar)->Ow B w0 w (ae c1 [.z 0,.z 0,.z 0,.y 0,.y 0,.z 0]::ae c0 [.z c.kind,.z c.obj,.z r',.y c.aD,.y c.guard,.z c.bits]::R)->k49 w:=λr' w hr h=>by
   apply hk49;refine pR (λe=>?_) (λe=>?_)
   .refine h.fD O O λw h=>?_
    refine h.eE O ?_;refine h.aB O O λw h=>?_;refine h.eE O ?_;have:=hK w _ O h.drop.drop;rw[Z e,<-hr]at this;exact this
   .refine h.eE O ?_
    refine h.aB O O λw h=>?_;refine h.eE O ?_;have:=hK w _ O h.drop.drop;rw[Y (show ¬g≠0 from λhh=>hh e),<-hr]at this;exact this
  cases hl:Sl.dD c.kind with
  |true=>
   refine aW O (h.l2 O ?_);refine h.fD O O λw h=>?_;exact fin _ w (by rw[hl];rfl) h
  |false=>
   refine aV O ?_;exact fin _ w (by rw[hl];rfl) h
 refine dW (λe=>?_) (λe=>?_)
 .rw[show(c.kind==0)=G from by simpa using e];exact no (.inl e)
 refine pR (λe2=>?_) (λe2=>?_)
 .refine h.l1 O ?_
  refine Sl.mE ?_;cases hb:Sl.dH c.kind with
  |false=>exact aW O (no (.inr ⟨e2,.inl hb⟩))
  |true=>
   refine aV O (h.l2 O ?_);by_cases e3:c.aD=0
   .rw[show(c.aD !=0)=qd from by simpa using e3]
    exact yes (λhh=>hh.elim e λhh=>hh.2.elim (λh=>by rw[hb]at h;cases h) λh=>h e3)
   .rw[show(c.aD !=0)=G from by simpa using e3]
    exact no (.inr ⟨e2,.inr e3⟩)
 .exact yes (λhh=>hh.elim e λhh=>hh.1 e2)
theorem Ja{a:U}{i:S}(h0: -9223372036854775808<=a)(h1:a<9223372036854775808)(hi:i<=1000):(qj.wrap (a+(i:U))=a+(i:U)\/(qj.wrap (a+(i:U))<0/\64<=a+(i:U))):=by
 by_cases e:a+(i:U)<9223372036854775808
 .exact .inl (wr om om)
 .refine .inr ⟨?_,om⟩
  have e1:(2:U)^64=18446744073709551616:=qb
  have e2:(2:U)^63=9223372036854775808:=qb
  have:qj.wrap (a+(i:U))=a+(i:U)-18446744073709551616:=by have hm:(a+(i:U))%18446744073709551616=a+(i:U):=Int.emod_eq_of_lt om om;simp only[IntKind.wrap,IntKind.bits,IntKind.signed,e1,Uo];rw[hm];simp;omega
  omega
end
section
variable{B:S}{w0 w:W}{R L:J aG}{bd bk:S}{k:ai}{d:sN}{ec wv wk:U}{fs:Sl}{N:S}
theorem ET{n:U}{bx:S}{K:I->Pw}(hk:bD N k)(hn:0<=n/\n<64)(h:Ow B w0 w (ae bx [.q bd]::ae bd (ak bk d ec wv wk fs)::ao bk k::R))
  (hK:∀w',Ow B w0 w' (ae bx [.q bd]::ae bd (ak bk d ec wv wk fs)::ao bk k::R)->K (qe ((k.bm n).kind≠0)) w'):X6 0 n bx.p K w:=by
 apply ait;refine h.a λc0 w1 h=>?_;intro k5 hk5;have fin:∀(s:S)(c:dB)(w:W),c=k.bm n->Ow B w0 w (ae s c.cells::ae bx [.q bd]::ae bd (ak bk d ec wv wk fs)::ao bk k::R)->k5 s.p w:=λs c w hc h=>by
  apply hk5;refine h.l1 O ?_;have:=hK w h.drop;rw[<-hc,show qe (c.kind≠0)=(c.kind !=0)from by
   by_cases e:c.kind=0
   .simp[e]
   .simp[e]]at this
  exact this
 obtain⟨x,h⟩:=(h.pick (A:=ao bk k)).zi;refine h.dr λw h=>?_;refine⟨_,h.aE O,_,O,_,h.aE O,_,O,h.l1 O (h.aM O ⟨?_,?_,trivial⟩)⟩
 .refine tt (s:=(0,n)) hk.um h λw c e hc hr h=>?_
  rw[tq hk hn]at hc;refine⟨h.al λw' h=>⟨?_,trivial⟩,trivial⟩
  generalize w.heap.size=sb at h|-;refine h.aB O O λw h=>?_;refine fin sb c w hc ((show Ow B w0 w (ao bk k::ae sb c.cells::ae bx [.q bd]::ae bd (ak bk d ec wv wk fs)::R)from Ow.cN x h.sub).sub)
 .refine h.al λw' h=>⟨?_,trivial⟩
  generalize w.heap.size=sb at h|-;refine tt (s:=(0,n)) hk.um h λw c e hc hr h=>?_;rw[tq hk hn]at hc;refine⟨h.aB O O λw h=>?_,trivial⟩;refine fin sb c w hc ((show Ow B w0 w (ao bk k::ae sb c.cells::ae bx [.q bd]::ae bd (ak bk d ec wv wk fs)::R)from Ow.cN x h.sub).sub)
def du(a:U)(n:S):J Slot:=(SF n).map λi:S=>(0,a+(i:U))
theorem free_spec{n:S}{K:Sl->U->Pw}(hk:bD N k)(hw0: -9223372036854775808<=d.call.ay)(hw1:d.call.ay<9223372036854775808)(hn:1<=n/\n<=64)(h:Ow B w0 w (ae bd (ak bk d ec wv wk fs)::ao bk k::R))
  (h1:k.gi d.call.ay n≠0->∀s w',Ow B w0 w' (ae bd (ak bk d ec wv wk fs)::ao bk k::R)->K s (k.gi d.call.ay n) w')
  (h2:k.gi d.call.ay n=0->∀s w',Ow B w0 w' (ag aK s (du d.call.ay n)::ae bd (ak bk d ec wv wk fs)::ao bk k::R)->K s 0 w'):abb bd.o (n:U) K w:=by
 apply aik;refine h.a λbx w1 h=>?_;intro l4 hl4;have bad:(d.call.ay<0\/64<d.call.ay+n)->∀w,Ow B w0 w (ae bd (ak bk d ec wv wk fs)::ao bk k::R)->K z0 181 w:=λhb w h=>by
  have e:k.gi d.call.ay n=181:=by unfold ai.gi;rw[Z hb]
  have:=h1 (by rw[e];decide) z0 w h;rw[e]at this;exact this
 have loop:∀(m j:S)(o:Sl)(w:W),j+m=n->(0<j->0<=d.call.ay/\d.call.ay+j<=64)->Ow B w0 w (ag aK o (du d.call.ay j)::ae bx [.q bd]::ae bd (ak bk d ec wv wk fs)::ao bk k::R)->l4 o (j:U) w:=by
  intro m;induction m with
  |zero=>
   intro j o w hj hin h;have hj:j=n:=om
   subst hj;obtain⟨i0,i1⟩:=hin om;apply hl4;refine av om ?_;have hpv:∀y∈du d.call.ay j,y.1=0/\0<=y.2/\y.2<64:=λy hy=>by obtain⟨i,hi,rfl⟩:=Tj.1 hy;rw[T6]at hi;exact⟨O,by show 0<=d.call.ay+(i:U);omega,by show d.call.ay+(i:U)<64;omega⟩
   refine sQ (s:=o) (p:=λy=>qe ((k.bm y.2).kind≠0)) h (by unfold du;simp;omega) (λy w alf hy h hQ=>?_) λw h=>?_
   .refine aY ?_
    obtain⟨y1,y2⟩:=y;obtain⟨e1,e2⟩:=hpv _ hy;dsimp only at e1 e2;subst e1;show X6 0 y2 bx.p alf w;refine ET (bd:=bd) (bk:=bk) (k:=k) (d:=d) (ec:=ec) (wv:=wv) (wk:=wk) (fs:=fs) (R:=ag aK o (du d.call.ay j)::R) hk e2 h.sub λw h=>hQ w h.sub
   .have e:(du d.call.ay j).any (λy=>qe ((k.bm y.2).kind≠0))=(SF j).any λi=>qe ((k.bm (d.call.ay+(i:U))).kind≠0):=by unfold du;rw[List.any_map];rfl
    rw[e];cases hb:(SF j).any λi=>qe ((k.bm (d.call.ay+(i:U))).kind≠0)with
    |true=>
     have e:k.gi d.call.ay j=51:=by unfold ai.gi;rw[Y om,Z hb]
     refine aW O ?_;have:=h1 (by rw[e];decide) z0 w h.drop.drop;rw[e]at this;exact this
    |false=>
     have e:k.gi d.call.ay j=0:=by unfold ai.gi;rw[Y om,Y (by rw[hb];decide)]
     refine aV O ?_;exact h2 e o w h.sub
  |succ m ih=>
   intro j o w hj hin h;apply hl4;refine az om ?_;intro k8 hk8;have hwr:=Ja (a:=d.call.ay) (i:=j) hw0 hw1 om;obtain⟨v,hwv⟩:∃v,qj.wrap (d.call.ay+(j:U))=v:=⟨_,O⟩
   rw[hwv]at hwr;have fin:∀(sb:S)(s:Slot)(is:I)(w:W),(is=G->s=(0,v)/\0<=v/\v<64)->(is=qd->¬(0<=v/\v<64))->Ow B w0 w (ae sb [.z s.1,.z s.2]::ag aK o (du d.call.ay j)::ae bx [.q bd]::ae bd (ak bk d ec wv wk fs)::ao bk k::R)->k8 sb.p is w:=λsb s is w ht hf h=>by
    apply hk8;intro k12 hk12;have kbad:∀w,(d.call.ay<0\/64<d.call.ay+n)->Ow B w0 w (ae bd (ak bk d ec wv wk fs)::ao bk k::R)->k12 G w:=λw hb h=>by apply hk12;exact aW O (bad hb w h)
    cases is with
    |false=>
     have:=hf O;refine aW O (kbad w ?_ h.sub);omega
    |true=>
     obtain⟨rfl,v0,v1⟩:=ht O;refine aV O ?_;refine⟨_,h.aE O,_,O,_,bB (h.aA O),?_⟩;by_cases hneg:d.call.ay<0
     .rw[qp hneg]
      exact kbad w (.inl hneg) h.sub
     rw[ql hneg];apply hk12;refine aV O ?_;have hv:v=d.call.ay+(j:U):=om
     subst hv;refine h.aM O ?_;refine h.a λg w2 h=>?_;refine ky (s:=o) (y:=(0,d.call.ay+(j:U))) h (by unfold du;simp;omega) λo' w ho' h=>?_;rw[wI j om];refine ih (j+1) o' w om (λ_=>by omega) ?_;have e:du d.call.ay (j+1)=du d.call.ay j++ [(0,d.call.ay+(j:U))]:=by unfold du;rw[List.range_succ,S0];rfl
     rw[e];exact h.sub
   refine h.dr λw h=>?_;refine⟨_,h.aE O,_,O,_,h.aE O,_,h.aE O,_,O,_,bB (h.aA O),?_⟩;rw[hwv];refine⟨?_,?_,trivial⟩
   .refine va hk.b0 (h.pick (A:=ao bk k)) λw s is ht hf h=>?_
    refine⟨h.al λw' h=>⟨?_,trivial⟩,trivial⟩
    generalize w.heap.size=sb at h|-;refine h.aB O O λw h=>?_;exact fin sb s is w ht hf h.sub
   .refine h.al λw' h=>⟨?_,trivial⟩
    generalize w.heap.size=sb at h|-;refine va hk.b0 (h.pick (A:=ao bk k)) λw s is ht hf h=>?_;refine⟨h.aB O O λw h=>?_,trivial⟩;exact fin sb s is w ht hf h.sub
 have e0:du d.call.ay 0= []:=rfl;exact loop n 0 z0 w1 om (λhh=>qk hh om) (by rw[e0];exact Ow.cB h)
theorem pZ{s:Slot}{c:dB}{K:Pw}(hc:Sl.gl c)(hl:k.T.length<1000000)(h:Ow B w0 w (ae bd (ak bk d ec wv wk fs)::ao bk k::R))
  (hK:∀w',Ow B w0 w' (ae bd (ak bk d ec wv wk fs)::ao bk (k.laid d.s s c)::R)->K w'):abc bd.o s.1 s.2 c.kind c.obj c.ar c.aD c.guard c.bits K w:=by
 apply ail;refine h.a λc0 w1 h=>?_;refine h.a λc1 w2 h=>?_;obtain⟨x,h⟩:=(h.pick (A:=ao bk k)).zi;refine h.dr λw h=>?_;refine⟨_,O,_,h.aE O,_,O,h.l1 O (h.aM O (h.eE O ⟨Sl.jQ (s:=s) (c:=c) hc (h.pick (A:=Sl.aC x.n k.bits k.H)) λw h=>?_,trivial⟩))⟩;refine h.dr λw h=>?_;refine⟨_,O,_,h.aE O,_,O,_,h.aA O,_,O,eA (h.aM O (h.aM O ⟨Tr.zD (p:=d.s) (s:=s) hl (h.pick (A:=Tr.cg x.tr k.T)) λw h=>?_,trivial⟩))⟩;refine hK w ((show Ow B w0 w (ao bk (k.laid d.s s c)::ae bd (ak bk d ec wv wk fs)::R)from Ow.cN x h.sub).sub)
def ai.DQ(k:ai)(core a b:U):Prop:=(a=1->0<=b)/\(a=2->1<=b/\b<=8/\k.bits.length<64)/\(a=3->k.t.gA core=G/\k.t.bK.length<64)
theorem H0{at_:S}{K:U->Pw}(hk:bD N k)(hN:N<=100000)(hr:k.DQ d.core d.call.a d.call.b)(h:Ow B w0 w (ae bd (ak bk d ec wv wk fs)::ao bk k::R))
  (hK:∀w',Ow B w0 w' (ae bd (ak bk d ec wv wk fs)::ao bk (k.made d.core d.call.a d.call.b at_).2::R)->K (k.made d.core d.call.a d.call.b at_).1 w'):abd bd.o (at_:U) K w:=by
 apply aim;have nu:=hk.nu;have ne:=hk.ne;have nn:=hk.nn;have ns:=hk.ns;have nf:=hk.nf;have nt:=hk.nt;obtain⟨r1,r2,r3⟩:=hr;unfold ai.made at hK;obtain⟨x,h⟩:=(h.pick (A:=ao bk k)).zi;refine⟨_,O,_,bB (h.aA O),dW (λe=>?_) (λe=>?_)⟩
 .rw[Z e]at hK
  obtain⟨bn,hbn⟩:=SI (r1 e);rw[hbn,Int.toNat_natCast]at hK;refine h.dr λw h=>?_;refine⟨_,O,_,O,_,h.aE O,_,O,x.su,h.aA O,_,O,_,bB (h.aA O),_,h.aE O,h.al λw2 h=>⟨?_,trivial⟩,trivial⟩
  generalize w.heap.size=g at h|-;have h:Ow B w0 w2 (ae g [.y (((⟨at_,bn,0⟩:sV).base:S):U),.z (((⟨at_,bn,0⟩:sV).bits:S):U),.y (((⟨at_,bn,0⟩:sV).used:S):U)]::_):=h.Be (by rw[hbn];rfl);refine CJ (s:=x.su) (y:=⟨at_,bn,0⟩) h om λs' w hs' h=>?_;refine⟨h.aE O,_,O,h.fD O O λw h=>?_,trivial⟩;refine⟨_,O,_,h.aE O,_,O,s',h.aA O,?_⟩;rw[hs',show qj.wrap (((k.u.length+1:S):U)-1)=(k.u.length:U)from by rw[wr om om];omega]
  (try dsimp only[cr,ak,putAt,Tu,S1,SS]at h)
  refine hK w ((show Ow B w0 w (ao bk { k with u:=k.u++ [⟨at_,bn,0⟩]}::ae bd (ak bk d ec wv wk fs)::R)from Ow.cN { x with su:=s'} h.sub).sub)
 rw[Y e]at hK;refine dW (λe2=>?_) (λe2=>?_)
 .rw[Z e2]at hK
  obtain⟨b1,b2,b3⟩:=r2 e2;have hm:Sl.fq k.bits d.call.b=((k.bits.length:U),0,k.bits++ [d.call.b]):=by unfold Sl.fq;rw[Y om,Y om]
  rw[hm]at hK;refine⟨_,O,_,h.aE O,_,O,_,h.aA O,_,O,?_⟩;rw[show qj.wrap ((k.bits.length:U)+1)=(((k.bits++ [d.call.b]).length:S):U)from by rw[wr om om];simp];refine h.fD O O λw h=>?_;refine h.dr λw h=>?_
  (try dsimp only[cr,ak,putAt,Tu,S1,SS]at h)
  refine⟨_,O,_,h.aE O,_,O,_,h.aE O,_,O,_,bB (h.aA O),Sl.je (h.pick (A:=Sl.aC x.n k.bits k.H)) λw h=>?_,trivial⟩;rw[hm]at h|-;dsimp only at h|-;refine hK w ((show Ow B w0 w (ao bk { k with bits:=k.bits++ [d.call.b]}::ae bd (ak bk d ec wv wk fs)::R)from Ow.cN x h.sub).sub)
 rw[Y e2]at hK;refine dW (λe3=>?_) (λe3=>?_)
 .rw[Z e3]at hK
  obtain⟨b1,b2⟩:=r3 e3;have hm:k.t.df 0 d.core=((k.t.bK.length:U),0,k.t.make 0 d.core):=by unfold Th.Mt.df;rw[Y (λhh=>hh ⟨qb,qb,b1⟩),Y om]
  rw[hm]at hK;have hml:(k.t.make 0 d.core).bK.length=k.t.bK.length+1:=by unfold Th.Mt.make;simp
  refine⟨_,O,_,h.aE O,_,O,_,h.aA O,_,O,?_⟩;rw[show qj.wrap ((k.t.bK.length:U)+1)=(((k.t.make 0 d.core).bK.length:S):U)from by rw[wr om om,hml];simp];refine h.fD O O λw h=>?_;refine h.dr λw h=>?_
  (try dsimp only[cr,ak,putAt,Tu,S1,SS]at h)
  refine⟨_,O,_,h.aE O,_,O,_,h.aA O,_,O,_,h.aA O,Th.Om hk.inv.ok (h.pick (A:=Th.bJ x.t k.t)) λw h=>?_,trivial⟩;rw[hm]at h|-;dsimp only at h|-;refine hK w ((show Ow B w0 w (ao bk { k with t:=k.t.make 0 d.core}::ae bd (ak bk d ec wv wk fs)::R)from Ow.cN x h.sub).sub)
 rw[Y e3]at hK;refine dW (λe4=>?_) (λe4=>?_)
 .rw[Z e4]at hK
  have hpl:=(h.pick (A:=aq da x.pe k.ends)).cz;refine h.dr λw h=>?_;refine⟨_,O,_,O,_,h.aE O,_,h.aE O,_,O,x.se,h.aA O,tg h λp w h=>?_,trivial⟩;refine⟨h.aA O,h.aE O,h.aE O,h.al λw2 h=>⟨?_,trivial⟩,trivial⟩
  generalize w.heap.size=g at h|-;refine JC (s:=x.se) (y:=p) h om λs' w hs' h=>?_;refine⟨h.aE O,_,O,h.fD O O λw h=>?_,trivial⟩;refine⟨_,O,_,h.aE O,_,O,s',h.aA O,?_⟩;rw[hs',show qj.wrap (((x.pe.length+1:S):U)-1)=(k.ends.length:U)from by rw[wr om om];omega]
  (try dsimp only[cr,ak,putAt,Tu,S1,SS]at h)
  have h:=Ow.ll ((h.pick (A:=aq da x.pe k.ends)).pick (A:=da p ⟨[],qd⟩));refine hK w ((show Ow B w0 w (ao bk { k with ends:=k.ends++ [⟨[],qd⟩]}::ae bd (ak bk d ec wv wk fs)::R)from Ow.cN { x with se:=s',pe:=x.pe++ [p]} h.sub).sub)
 rw[Y e4]at hK;refine dW (λe5=>?_) (λe5=>?_)
 .rw[Z e5]at hK
  have hpl:=(h.pick (A:=aq cu x.pn k.notes)).cz;refine h.dr λw h=>?_;refine⟨_,O,_,O,_,h.aE O,_,h.aE O,_,O,x.sn,h.aA O,vW h λp w h=>?_,trivial⟩;refine⟨h.aA O,h.aE O,h.aE O,h.al λw2 h=>⟨?_,trivial⟩,trivial⟩
  generalize w.heap.size=g at h|-;refine Hp (s:=x.sn) (y:=p) h om λs' w hs' h=>?_;refine⟨h.aE O,_,O,h.fD O O λw h=>?_,trivial⟩;refine⟨_,O,_,h.aE O,_,O,s',h.aA O,?_⟩;rw[hs',show qj.wrap (((x.pn.length+1:S):U)-1)=(k.notes.length:U)from by rw[wr om om];omega]
  (try dsimp only[cr,ak,putAt,Tu,S1,SS]at h)
  have h:=Ow.ll ((h.pick (A:=aq cu x.pn k.notes)).pick (A:=cu p ⟨0,qd,[]⟩));refine hK w ((show Ow B w0 w (ao bk { k with notes:=k.notes++ [⟨0,qd,[]⟩]}::ae bd (ak bk d ec wv wk fs)::R)from Ow.cN { x with sn:=s',pn:=x.pn++ [p]} h.sub).sub)
 rw[Y e5]at hK;refine dW (λe8=>?_) (λe8=>?_)
 .rw[Z e8]at hK
  have hpl:=(h.pick (A:=aq Tb.bP x.ps k.af)).cz;refine h.dr λw h=>?_;refine⟨_,O,_,O,_,h.aE O,_,h.aE O,_,O,x.ss,h.aA O,Tb.jF h λp w h=>?_,trivial⟩;refine⟨h.aA O,h.aE O,h.aE O,h.al λw2 h=>⟨?_,trivial⟩,trivial⟩
  generalize w.heap.size=g at h|-;refine EG (s:=x.ss) (y:=p) h om λs' w hs' h=>?_;refine⟨h.aE O,_,O,h.fD O O λw h=>?_,trivial⟩;refine⟨_,O,_,h.aE O,_,O,s',h.aA O,?_⟩;rw[hs',show qj.wrap (((x.ps.length+1:S):U)-1)=(k.af.length:U)from by rw[wr om om];omega]
  (try dsimp only[cr,ak,putAt,Tu,S1,SS]at h)
  have h:=Ow.ll ((h.pick (A:=aq Tb.bP x.ps k.af)).pick (A:=Tb.bP p Tb.js));refine hK w ((show Ow B w0 w (ao bk { k with af:=k.af++ [Tb.js]}::ae bd (ak bk d ec wv wk fs)::R)from Ow.cN { x with ss:=s',ps:=x.ps++ [p]} h.sub).sub)
 rw[Y e8]at hK;refine dW (λe6=>?_) (λe6=>?_)
 .rw[Z e6]at hK
  refine⟨_,O,_,h.aE O,_,O,_,h.aA O,_,O,?_⟩;rw[show qj.wrap ((k.aU:U)+1)=((k.aU+1:S):U)from by rw[wr om om];omega];refine h.fD O O λw h=>?_;refine⟨_,O,_,h.aE O,_,O,h.l2 O ?_⟩;rw[show qj.wrap (((k.aU+1:S):U)-1)=(k.aU:U)from by rw[wr om om];omega]
  (try dsimp only[cr,ak,putAt,Tu,S1,SS]at h)
  refine hK w ((show Ow B w0 w (ao bk { k with aU:=k.aU+1}::ae bd (ak bk d ec wv wk fs)::R)from Ow.cN x h.sub).sub)
 .rw[Y e6]at hK
  refine⟨_,O,_,h.aE O,_,O,_,h.aA O,_,O,?_⟩;rw[show qj.wrap ((k.cP:U)+1)=((k.cP+1:S):U)from by rw[wr om om];omega];refine h.fD O O λw h=>?_;refine⟨_,O,_,h.aE O,_,O,h.l2 O ?_⟩;rw[show qj.wrap (((k.cP+1:S):U)-1)=(k.cP:U)from by rw[wr om om];omega]
  (try dsimp only[cr,ak,putAt,Tu,S1,SS]at h)
  refine hK w ((show Ow B w0 w (ao bk { k with cP:=k.cP+1}::ae bd (ak bk d ec wv wk fs)::R)from Ow.cN x h.sub).sub)
theorem jj{a n:U}(ha:1<=a/\a<=9)(hn:0<=n/\n<2147483648):Sl.cH ⟨a,n,7,0,0,0⟩=0:=by
 have hg:Sl.fb 0 0=true:=qb
 unfold Sl.cH;split
 .rfl
 .rw[Y]
  have:a=1\/a=2\/a=3\/a=4\/a=5\/a=6\/a=7\/a=8\/a=9:=om
  unfold Sl.ia;rcases this with rfl|rfl|rfl|rfl|rfl|rfl|rfl|rfl|rfl<;>simp[hn.1,hn.2,hg,Sl.dD,Sl.dH]
theorem mD{a n:U}:Sl.gl ⟨a,n,7,0,0,0⟩:=⟨by show(0:U)<=0;decide,by show(0:U)<_;decide,by show(0:U)<=0;decide,by show(0:U)<_;decide⟩
end
section
variable{N:S}{k:ai}
theorem gO{a n:U}(h0:0<=n)(h1:a=1->n<(k.u.length:U))(h2:a=2->n<(k.bits.length:U))(h3:a=3->n<(k.t.bK.length:U))(h4:a=4->n<(k.ends.length:U))(h5:a=5->n<(k.notes.length:U))
  (h6:a=6->n<(k.aU:U)) (h7:a=7->n<(k.cP:U)) (h8:a=8->n<(k.af.length:U)) (h9:a=9->n<8):k.gj ⟨a,n,7,0,0,0⟩:=⟨h0,h1,h2,h3,h4,h5,h6,h7,h8,h9⟩
theorem bD.LN(h:bD N k){l:J sV}(hl:∀x∈l,A5 x)(hg:k.u.length<=l.length)(hm:l.length<=N):bD N { k with u:=l}:=
 h.same (k':={ k with u:=l}) O O O ⟨hg,SA _,SA _,SA _,SA _,SA _,SA _,SA _⟩ h.inv h.ln h.Jg hl h.Cd hm h.ne h.nn h.ns h.nf h.nt h.el h.nl
theorem KM(hi:Th.bR (-1) k.t){c:U}(h1:k.t.gA c=G)(h2:k.t.bK.length<64):k.t.df 0 c=((k.t.bK.length:U),0,k.t.make 0 c):=by unfold Th.Mt.df;rw[Y (λhh=>hh ⟨qb,qb,h1⟩),Y om]
theorem bD.made(h:bD N k)(hN:N<=100000){core a b:U}{at_:S}(ha:1<=a/\a<=8)(hr:k.DQ core a b)(hu:a=1->A5 ⟨at_,b.toNat,0⟩):
  bD (N+1) (k.made core a b at_).2/\Gr k (k.made core a b at_).2/\(k.made core a b at_).2.H=k.H/\(k.made core a b at_).2.T=k.T/\(k.made core a b at_).2.gj ⟨a,(k.made core a b at_).1,7,0,0,0⟩/\
   (k.made core a b at_).2.bits.length<=k.bits.length+1/\(k.made core a b at_).2.t.bK.length<=k.t.bK.length+1/\(k.made core a b at_).2.t.qs.length=k.t.qs.length/\(k.made core a b at_).1<=200000:=by
 have hM:=h.mono (Ue N);have h1:=h.nu;have h2:=h.ne;have h3:=h.nn;have h4:=h.ns;have h5:=h.nf;have h6:=h.nt;have hbl:=h.um.fu;have htl:=h.inv.ok.fu;obtain⟨r1,r2,r3⟩:=hr;have noty:∀{p:Prop},a≠a->p:=λhh=>qk O hh;unfold ai.made;by_cases e:a=1
 .rw[Z e]
  subst e;refine⟨hM.LN (λx hx=>?_) qc (by simp;omega),⟨qc,SA _,SA _,SA _,SA _,SA _,SA _,SA _⟩,rfl,rfl,?_,by dsimp only;omega,by dsimp only;omega,rfl,by dsimp only;omega⟩
  .rcases Tv.1 hx with hx|hx
   .exact h.u x hx
   .rw[Tf.1 hx];exact hu O
  .dsimp only
   refine gO ?_ ?_ ?_ ?_ ?_ ?_ ?_ ?_ ?_ ?_<;>(try simp)<;>(try omega)
 rw[Y e];by_cases e2:a=2
 .rw[Z e2]
  subst e2;obtain⟨b1,b2,b3⟩:=r2 O;have hm:Sl.fq k.bits b=((k.bits.length:U),0,k.bits++ [b]):=by unfold Sl.fq;rw[Y om,Y om]
  rw[hm];have hG:Gr k { k with bits:=k.bits++ [b]}:=⟨SA _,qc,SA _,SA _,SA _,SA _,SA _,SA _⟩
  refine⟨{ hM with b0:= ?_,um:=h.um.make b1 b2 b3,held:=λs c hc=>⟨(h.held s c hc).1,hG.obj (h.held s c hc).2⟩},hG,O,O,?_,qc,by dsimp only;omega,rfl,by dsimp only;omega⟩
  .dsimp only
   rw[SM (by have:=(Sz.1 h.b0).1;omega)];exact h.b0
  .dsimp only
   refine gO ?_ ?_ ?_ ?_ ?_ ?_ ?_ ?_ ?_ ?_<;>(try simp)<;>(try omega)
 rw[Y e2];by_cases e3:a=3
 .rw[Z e3]
  subst e3;obtain⟨b1,b2⟩:=r3 O;rw[KM h.inv b1 b2];have hml:(k.t.make 0 core).bK.length=k.t.bK.length+1:=by unfold Th.Mt.make;simp
  have hG:Gr k { k with t:=k.t.make 0 core}:=⟨SA _,SA _,by dsimp only;omega,SA _,SA _,SA _,SA _,SA _⟩
  refine⟨{ hM with inv:=h.inv.make b2 b1 qb,held:=λs c hc=>⟨(h.held s c hc).1,hG.obj (h.held s c hc).2⟩},hG,O,O,?_,by dsimp only;omega,by dsimp only;omega,rfl,by dsimp only;omega⟩
  .dsimp only
   refine gO ?_ ?_ ?_ ?_ ?_ ?_ ?_ ?_ ?_ ?_<;>(try simp)<;>(try omega)
 rw[Y e3];by_cases e4:a=4
 .rw[Z e4]
  subst e4;have hG:Gr k { k with ends:=k.ends++ [⟨[],qd⟩]}:=⟨SA _,SA _,SA _,qc,SA _,SA _,SA _,SA _⟩
  refine⟨{ hM with ne:=by simp;omega,el:=λp hp=>?_,held:=λs c hc=>⟨(h.held s c hc).1,hG.obj (h.held s c hc).2⟩},hG,O,O,?_,by dsimp only;omega,by dsimp only;omega,rfl,by dsimp only;omega⟩
  .rcases Tv.1 hp with hp|hp
   .exact hM.el p hp
   .rw[Tf.1 hp];simp
  .dsimp only
   refine gO ?_ ?_ ?_ ?_ ?_ ?_ ?_ ?_ ?_ ?_<;>(try simp)<;>(try omega)
 rw[Y e4];by_cases e5:a=5
 .rw[Z e5]
  subst e5;have hG:Gr k { k with notes:=k.notes++ [⟨0,qd,[]⟩]}:=⟨SA _,SA _,SA _,SA _,qc,SA _,SA _,SA _⟩
  refine⟨{ hM with nn:=by simp;omega,nl:=λp hp=>?_,Jg:=λx hx hx2=>?_,held:=λs c hc=>⟨(h.held s c hc).1,hG.obj (h.held s c hc).2⟩},hG,O,O,?_,by dsimp only;omega,by dsimp only;omega,rfl,by dsimp only;omega⟩
  .have:=h.Jg x hx hx2
   dsimp only;rw[SG];exact⟨this.1,by have:=this.2;simp;omega⟩
  .rcases Tv.1 hp with hp|hp
   .exact hM.nl p hp
   .rw[Tf.1 hp];simp
  .dsimp only
   refine gO ?_ ?_ ?_ ?_ ?_ ?_ ?_ ?_ ?_ ?_<;>(try simp)<;>(try omega)
 rw[Y e5];by_cases e8:a=8
 .rw[Z e8]
  subst e8;have hG:Gr k { k with af:=k.af++ [Tb.js]}:=⟨SA _,SA _,SA _,SA _,SA _,SA _,SA _,qc⟩
  refine⟨{ hM with ns:=by simp;omega,Cd:=λp hp=>?_,held:=λs c hc=>⟨(h.held s c hc).1,hG.obj (h.held s c hc).2⟩},hG,O,O,?_,by dsimp only;omega,by dsimp only;omega,rfl,by dsimp only;omega⟩
  .rcases Tv.1 hp with hp|hp
   .exact hM.Cd p hp
   .rw[Tf.1 hp];exact Tb.fV.new
  .dsimp only
   refine gO ?_ ?_ ?_ ?_ ?_ ?_ ?_ ?_ ?_ ?_<;>(try simp)<;>(try omega)
 rw[Y e8];by_cases e6:a=6
 .rw[Z e6]
  subst e6;have hG:Gr k { k with aU:=k.aU+1}:=⟨SA _,SA _,SA _,SA _,SA _,by dsimp only;omega,SA _,SA _⟩
  refine⟨{ hM with nf:=by dsimp only;omega,held:=λs c hc=>⟨(h.held s c hc).1,hG.obj (h.held s c hc).2⟩},hG,O,O,?_,by dsimp only;omega,by dsimp only;omega,rfl,by dsimp only;omega⟩
  .dsimp only
   refine gO ?_ ?_ ?_ ?_ ?_ ?_ ?_ ?_ ?_ ?_<;>(try simp)<;>(try omega)
 .rw[Y e6]
  have e7:a=7:=om
  subst e7;have hG:Gr k { k with cP:=k.cP+1}:=⟨SA _,SA _,SA _,SA _,SA _,SA _,by dsimp only;omega,SA _⟩
  refine⟨{ hM with nt:=by dsimp only;omega,held:=λs c hc=>⟨(h.held s c hc).1,hG.obj (h.held s c hc).2⟩},hG,O,O,?_,by dsimp only;omega,by dsimp only;omega,rfl,by dsimp only;omega⟩
  .dsimp only
   refine gO ?_ ?_ ?_ ?_ ?_ ?_ ?_ ?_ ?_ ?_<;>(try simp)<;>(try omega)
theorem KL{core a b:U}{at_:S}(ho:(k.made core a b at_).2.gj ⟨a,(k.made core a b at_).1,7,0,0,0⟩):0<=(k.made core a b at_).1:=ho.1
def ai.nR(core a b w:U)(s:Slot)(j:S)(at_:S)(k:ai):ai:=(k.made core a b at_).2.laid s (0,w+(j:U)) ⟨a,(k.made core a b at_).1,7,0,0,0⟩
theorem bD.nR(h:bD N k)(hN:N<=100000){core a b w:U}{s:Slot}{j at_:S}(ha:1<=a/\a<=8)(hr:k.DQ core a b)(hu:a=1->A5 ⟨at_,b.toNat,0⟩)(hs:(k.H s).isSome=G)
  (hw:0<=w/\w+(j:U)<64) (hn:k.H (0,w+(j:U))=Q):
  bD (N+1) (k.nR core a b w s j at_)/\Gr k (k.nR core a b w s j at_)/\(k.nR core a b w s j at_).H=Sl.dj k.H (0,w+(j:U)) (X ⟨a,(k.made core a b at_).1,7,0,0,0⟩)/\
   (k.nR core a b w s j at_).bits.length<=k.bits.length+1/\(k.nR core a b w s j at_).t.bK.length<=k.t.bK.length+1/\(k.nR core a b w s j at_).t.qs.length=k.t.qs.length:=by
 obtain⟨m1,m2,m3,m4,m5,m6,m7,m8,m9⟩:=h.made hN ha hr hu;have hl:=m1.laid (f:=s) (t:=(0,w+(j:U))) (c:=⟨a,(k.made core a b at_).1,7,0,0,0⟩) (by rw[m3];exact hs) ⟨O,by show 0<=w+(j:U);omega,hw.2⟩ (by rw[m3];exact hn)
  (jj ⟨ha.1,om⟩ ⟨KL m5,om⟩) (show a≠0 by omega) mD m5
 refine⟨hl.1,⟨m2.u,m2.b,m2.t,m2.e,m2.n,m2.f,m2.tb,m2.s⟩,?_,m6,m7,m8⟩;show(ai.laid _ _ _ _).H=_;rw[hl.2,m3]
structure xa(core a b w:U)(s:Slot)(ats:J S)(j M:S)(k:ai):Prop where
 ok:bD M k
 le:M+ats.length<=100000
 kind:1<=a/\a<=8
 r1:a=1->0<=b/\∀x∈ats,A5 ⟨x,b.toNat,0⟩
 r2:a=2->1<=b/\b<=8/\k.bits.length+ats.length<=64
 r3:a=3->k.t.gA core=G/\k.t.bK.length+ats.length<=64
 hs:(k.H s).isSome=G
 w0:0<=w
 w1:w+(j:U)+(ats.length:U)<=64
 fr:∀i:S,i<ats.length->k.H (0,w+((j+i:S):U))=Q
theorem xa.room{core a b w:U}{s:Slot}{x:S}{ats:J S}{j M:S}{k:ai}(h:xa core a b w s (x::ats) j M k):k.DQ core a b/\(a=1->A5 ⟨x,b.toNat,0⟩)/\(w+(j:U)<64)/\k.H (0,w+(j:U))=none:=by have h1:=h.r1;have h2:=h.r2;have h3:=h.r3;have h4:=h.w1;have h5:=h.fr 0 qc;simp only[SJ]at h2 h3 h4;exact⟨⟨λe=>(h1 e).1,λe=>⟨(h2 e).1,(h2 e).2.1,by have:=(h2 e).2.2;omega⟩,λe=>⟨(h3 e).1,by have:=(h3 e).2;omega⟩⟩,λe=>(h1 e).2 x Tz,om,by simpa using h5⟩
theorem xa.step{core a b w:U}{s:Slot}{x:S}{ats:J S}{j M:S}{k:ai}(h:xa core a b w s (x::ats) j M k):xa core a b w s ats (j+1) (M+1) (k.nR core a b w s j x):=by
 obtain⟨g1,g2,g3,g4⟩:=h.room;have hle:=h.le;have hw1:=h.w1;have hr2:=h.r2;have hr3:=h.r3;simp only[SJ]at hle hw1 hr2 hr3;obtain⟨m1,m2,m3,m4,m5,m6⟩:=h.ok.nR om h.kind g1 g2 h.hs ⟨h.w0,g3⟩ g4;refine⟨m1,om,h.kind,λe=>⟨(h.r1 e).1,λy hy=>(h.r1 e).2 y (TC _ hy)⟩,λe=>⟨(hr2 e).1,(hr2 e).2.1,by have:=(hr2 e).2.2;omega⟩,λe=>⟨?_,by have:=(hr3 e).2;omega⟩,?_,h.w0,om,λi hi=>?_⟩
 .have:=(hr3 e).1
  unfold Th.Mt.gA at this|-;rw[m6];exact this
 .rw[m3]
  unfold Sl.dj;split
  .rfl
  .exact h.hs
 .rw[m3]
  unfold Sl.dj;rw[Y (λe=>by have:=qz Prod.snd e;dsimp only at this;omega)];have:=h.fr (i+1) (by simp;omega)
  rwa [show j+(i+1)=j+1+i from by omega]at this
theorem xa.all{core a b w:U}{s:Slot}:∀{ats:J S}{j M:S}{k:ai},xa core a b w s ats j M k->bD (M+ats.length) (ai.makes core a b w s ats j k)
 | [],j,M,k,h=>h.ok
 |x::ats,j,M,k,h=>by have:=xa.all h.step;rw[show M+1+ats.length=M+(x::ats).length from by simp;omega]at this;exact this
theorem LB{a b:U}(h:(fI a b).2=0):(1<=a/\a<=8)/\(a=1->4<=b/\b<=20/\(fI a b).1=b)/\(a=2->1<=b/\b<=8):=by
 unfold fI at*
 by_cases e1:a=1
 .rw[Z e1]at h|-
  split at h
  .rename_i hb
   rw[Z hb];exact⟨om,λ_=>⟨hb.1,hb.2,O⟩,om⟩
  .cases h
 rw[Y e1]at h|-;by_cases e2:a=2
 .rw[Z e2]at h|-
  split at h
  .rename_i hb
   exact⟨om,om,λ_=>hb⟩
  .cases h
 rw[Y e2]at h|-;refine⟨?_,λe=>qk e e1,λe=>qk e e2⟩;split at h
 .omega
 split at h
 .omega
 split at h
 .omega
 .cases h
end
section
variable{B:S}{w0 w:W}{R:J aG}{α:Type}{A:S->α->aG}{ps:J S}{xs:J α}{L:J aG}{b bd bk:S}{k:ai}{d:sN}{ec wv wk:U}{fs:Sl}{N:S}
theorem bD.kr(hk:bD N k){n:U}(h0:0<=n)(h1:n<(k.u.length:U)):k.u[n.toNat]?=X (k.kr n)/\A5 (k.kr n):=by have hx:k.u[n.toNat]?=X k.u[n.toNat]:=gE om;unfold ai.kr;rw[hx];exact⟨O,hk.u _ (Tq _)⟩
theorem nD(hk:bD N k)(hN:N+64<=100000)(hs:(k.H d.s).isSome=G)(hc:d.c.kind=1)(ho:k.gj d.c)(hcore:k.t.gA d.core=G)
  (h0:(bN (k.kr d.c.obj) d.call.a d.call.b d.call.c).2.2=0) (h1:k.gi d.call.ay d.call.c.toNat=0) (h2:¬((d.call.a=2/\64<(k.bits.length:U)+d.call.c)\/(d.call.a=3/\64<(k.t.bK.length:U)+d.call.c))):
  xa d.core d.call.a d.call.b d.call.ay d.s (bN (k.kr d.c.obj) d.call.a d.call.b d.call.c).1 0 N { k with u:=k.u.set d.c.obj.toNat (bN (k.kr d.c.obj) d.call.a d.call.b d.call.c).2.1}:=by
 obtain⟨hu1,hu2⟩:=hk.kr ho.1 (ho.2.1 hc);obtain⟨p1,p2,p3,p4,p5,p6⟩:=hu2.place h0;obtain⟨s1,s2,s3⟩:=LB p5;obtain⟨f1,f2,f3⟩:=hk.z8 h1;refine⟨hk.LN (λx hx=>?_) qc (by simpa using hk.nu),om,s1,λe=>⟨by have:=s2 e;omega,λx hx=>?_⟩,λe=>⟨(s3 e).1,(s3 e).2,?_⟩,λe=>⟨hcore,?_⟩,hs,f1,by rw[p4];omega,λi hi=>?_⟩
 .rcases TN hx with hx|hx
  .exact hk.u x hx
  .rw[hx];exact p3
 .obtain ⟨q1,q2⟩:=p6 x hx
  rw[(s2 e).2.2]at q1 q2;exact⟨by show d.call.b.toNat<=20;have:=s2 e;omega,q2,q1,UA _⟩
 .dsimp only;rw[p4];omega
 .dsimp only;rw[p4];omega
 .rw[p4]at hi
  have:=f3 i hi
  rwa [show((0+i:S):U)=(i:U)from by omega]
theorem bD.fc(hk:bD N k)(hN:N+64<=100000)(hs:(k.H d.s).isSome=G)(hc:d.c.kind=1)(ho:k.gj d.c)(hcore:k.t.gA d.core=G):bD (N+64) (k.fc d).2:=by
 unfold ai.fc;by_cases h0:(bN (k.kr d.c.obj) d.call.a d.call.b d.call.c).2.2≠0
 .rw[Z h0];exact hk.mono om
 rw[Y h0];by_cases h1:k.gi d.call.ay d.call.c.toNat≠0
 .rw[Z h1];exact hk.mono om
 rw[Y h1];split
 .exact hk.mono om
 rename_i h2;have hm:=nD hk hN hs hc ho hcore om om h2;obtain⟨hu1,hu2⟩:=hk.kr ho.1 (ho.2.1 hc);obtain⟨p1,p2,p3,p4,p5,p6⟩:=hu2.place (show(bN (k.kr d.c.obj) d.call.a d.call.b d.call.c).2.2=0 by omega);exact hm.all.mono (by rw[p4];omega)
theorem DM{K:U->Pw}(hk:bD N k)(hN:N+64<=100000)(hs:(k.H d.s).isSome=G)(hc:d.c.kind=1)(ho:k.gj d.c)(hcore:k.t.gA d.core=G)
  (hw0: -9223372036854775808<=d.call.ay) (hw1:d.call.ay<9223372036854775808) (h:Ow B w0 w (ae bd (ak bk d ec wv wk fs)::ao bk k::R))
  (hK:∀w',Ow B w0 w' (ae bd (ak bk d ec wv wk fs)::ao bk (k.fc d).2::R)->K (k.fc d).1 w'):Xz bd.o K w:=by
 apply agH;obtain⟨hu1,hu2⟩:=hk.kr ho.1 (ho.2.1 hc);have o0:=ho.1;have o1:=ho.2.1 hc;have hst:=nD (d:=d) hk hN hs hc ho hcore;have hpl:=hu2.place (kind:=d.call.a) (bits:=d.call.b) (n:=d.call.c);unfold ai.fc at hK;refine⟨_,O,eA (h.eE O (h.a λcb w1 h=>?_))⟩;refine h.aB O O λw h=>?_;intro k11 hk11;have fin:∀(l:S)(s:Sl)(w:W),Ow B w0 w (ae l [.y ((bN (k.kr d.c.obj) d.call.a d.call.b d.call.c).2.1.base:U),.z ((bN (k.kr d.c.obj) d.call.a d.call.b d.call.c).2.1.bits:U),.y ((bN (k.kr d.c.obj) d.call.a d.call.b d.call.c).2.1.used:U)]::ag wE s (bN (k.kr d.c.obj) d.call.a d.call.b d.call.c).1::
   ae cb d.call.cl::ae bd (ak bk d ec wv wk fs)::ao bk k::R)->k11 s l.p (bN (k.kr d.c.obj) d.call.a d.call.b d.call.c).2.2 w:=λl s w h=>by
  apply hk11;generalize bN (k.kr d.c.obj) d.call.a d.call.b d.call.c=P at h hK hst hpl|-;obtain⟨ats,left,er⟩:=P;dsimp only at h hK hst hpl|-;by_cases h0:er≠0
  .rw[Z h0]at hK
   exact iw h0 (hK w h.sub)
  rw[Y h0]at hK;have h0:er=0:=om
  obtain⟨p1,p2,p3,p4,p5,p6⟩:=hpl h0;refine fh h0 (h.l2 O ?_);obtain⟨cn,hcn⟩:=SI (show 0<=d.call.c by omega);have hcn2:d.call.c.toNat=cn:=om
  rw[hcn2]at hK;rw[hcn];refine free_spec (n:=cn) hk hw0 hw1 om ((h.pick (A:=ao bk k)).pick (A:=ae bd (ak bk d ec wv wk fs))) (λhf s w h=>?_) (λhf so w h=>?_)
  .rw[Z hf]at hK
   exact iw hf (hK w h.sub)
  rw[Y om]at hK;refine fh O ?_;intro k20 hk20;have kbad:((d.call.a=2/\64<(k.bits.length:U)+d.call.c)\/(d.call.a=3/\64<(k.t.bK.length:U)+d.call.c))->∀w,Ow B w0 w (ae bd (ak bk d ec wv wk fs)::ao bk k::R)->k20 G w:=λhb w h=>by rw[Z hb]at hK;apply hk20;exact aW O (hK w h)
  have kgood:¬((d.call.a=2/\64<(k.bits.length:U)+d.call.c)\/(d.call.a=3/\64<(k.t.bK.length:U)+d.call.c))->∀w,Ow B w0 w (ag aK so (du d.call.ay cn)::ae l [.y (left.base:U),.z (left.bits:U),.y (left.used:U)]::ag wE s ats::
   ae cb d.call.cl::ae bd (ak bk d ec wv wk fs)::ao bk k::R)->k20 qd w:=λhb w h=>by
   rw[Y hb]at hK;have hst:=hst h0 (by rw[hcn2];exact hf) hb;apply hk20;refine aV O ?_;obtain⟨x,h⟩:=(h.pick (A:=ao bk k)).zi;refine h.dr λw h=>?_;refine⟨_,O,_,h.aE O,_,O,x.su,h.aA O,_,O,_,bB (h.aA O),h.nq O (h.cd (s:=x.su) (i:=d.c.obj) (j:=d.c.obj.toNat) om hu1 λa ha _ _=>⟨?_,trivial⟩)⟩
   refine h.uc (s:=x.su) (xs:=k.u) (i:=d.c.obj) (j:=d.c.obj.toNat) left om om ha λw h=>?_;have h:Ow B w0 w (ao bk { k with u:=k.u.set d.c.obj.toNat left}::ag aK so (du d.call.ay cn)::ag wE s ats::
    ae cb d.call.cl::ae bd (ak bk d ec wv wk fs)::R):=Ow.cN x h.sub
   intro l35 hl35;have loop:∀(r j M:S)(kj:ai)(w:W),j+r=cn->xa d.core d.call.a d.call.b d.call.ay d.s (ats.drop j) j M kj->ai.makes d.core d.call.a d.call.b d.call.ay d.s (ats.drop j) j kj=ai.makes d.core d.call.a d.call.b d.call.ay d.s ats 0 { k with u:=k.u.set d.c.obj.toNat left}->
     Ow B w0 w (ao bk kj::ag aK so (du d.call.ay cn)::ag wE s ats::
    ae cb d.call.cl::ae bd (ak bk d ec wv wk fs)::R)->l35 (j:U) w:=by
    intro r;induction r with
    |zero=>
     intro j M kj w hj hm he h;have hlen:=h.aF so;unfold du at hlen;simp only[S9,List.length_range]at hlen;apply hl35;refine av om ?_;rw[Ui om]at he;have he:kj=_:=he;refine hK w ?_;rw[<-he];exact h.sub
    |succ r ih=>
     intro j M kj w hj hm he h;have hlen:=h.aF so;have hlt:(du d.call.ay cn).length=cn:=by unfold du;simp
     have hx:(du d.call.ay cn)[j]?=X (0,d.call.ay+(j:U)):=by unfold du;rw[S2,List.getElem?_range om];rfl
     have ha:ats[j]?=X ats[j]:=gE om;rw[TB (by omega:j<ats.length)]at hm he;generalize ats[j]=at_ at ha hm he;apply hl35;refine az om ?_;refine h.cd (s:=so) O hx λa1 ha1 _ hc1=>l0 hc1 ?_;refine h.a λg w2 h=>?_;refine h.aB O O λw h=>?_;refine h.dr λw h=>?_;refine h.cd (s:=s) O ha λa2 ha2 h02 _=>⟨_,h02 _ O,?_⟩
     refine h.aM O ⟨_,h.aA O,?_,trivial⟩;refine H0 (at_:=at_) hm.ok (by have:=hm.le;omega) hm.room.1 ((h.pick (A:=ao bk kj)).pick (A:=ae bd (ak bk d ec wv wk fs))) λw h=>?_;refine⟨h.aA O,h.hd O ⟨?_,trivial⟩⟩;obtain⟨g1,g2,g3,g4⟩:=hm.room;obtain⟨q1,q2,q3,q4,q5,q6,q7,q8,q9⟩:=hm.ok.made (by have:=hm.le;omega) hm.kind g1 g2;refine pZ (k:=(kj.made d.core d.call.a d.call.b at_).2) (s:=(0,d.call.ay+(j:U))) (c:=⟨d.call.a,(kj.made d.core d.call.a d.call.b at_).1,7,0,0,0⟩) mD (by rw[q4];have:=hm.ok.fu;omega) h λw h=>?_;have h:Ow B w0 w (ae bd (ak bk d ec wv wk fs)::ao bk (kj.nR d.core d.call.a d.call.b d.call.ay d.s j at_)::_):=h;rw[wI j om];exact ih (j+1) (M+1) (kj.nR d.core d.call.a d.call.b d.call.ay d.s j at_) w om hm.step he h.sub
   exact loop cn 0 N _ w om hst O h
  obtain⟨x,h⟩:=(h.pick (A:=ao bk k)).zi;have hbl:=hk.um.fu;have htl:=hk.inv.ok.fu;refine h.dr λw h=>?_;refine h.l2 O ?_;refine dW (λe2=>?_) (λe2=>?_)
  .refine ⟨_,O,_,h.aE O,_,O,_,h.aA O,h.l2 O ?_⟩
   rw[wr om om];refine bh (λe3=>?_) (λe3=>?_)
   .exact kbad (.inl ⟨e2,om⟩) w ((show Ow B w0 w (ao bk k::ae bd (ak bk d ec wv wk fs)::R)from Ow.cN x h.sub).sub)
   .refine h.l2 O ?_
    refine jk om ?_;exact kgood om w ((show Ow B w0 w (ao bk k::ag aK so (du d.call.ay cn)::ae l [.y (left.base:U),.z (left.bits:U),.y (left.used:U)]::ag wE s ats::
     ae cb d.call.cl::ae bd (ak bk d ec wv wk fs)::R)from Ow.cN x h.sub).sub)
  .refine h.l2 O ?_
   refine dW (λe3=>?_) (λe3=>?_)
   .refine ⟨_,O,_,h.aE O,_,O,_,h.aA O,h.l2 O ?_⟩
    rw[wr om om];by_cases e4:64<(k.t.bK.length:U)+d.call.c
    .rw[qp (show(k.t.bK.length:U)+d.call.c>64 from e4)]
     exact kbad (.inr ⟨e3,om⟩) w ((show Ow B w0 w (ao bk k::ae bd (ak bk d ec wv wk fs)::R)from Ow.cN x h.sub).sub)
    .rw[ql (show ¬(k.t.bK.length:U)+d.call.c>64 from e4)]
     exact kgood om w ((show Ow B w0 w (ao bk k::ag aK so (du d.call.ay cn)::ae l [.y (left.base:U),.z (left.bits:U),.y (left.used:U)]::ag wE s ats::
      ae cb d.call.cl::ae bd (ak bk d ec wv wk fs)::R)from Ow.cN x h.sub).sub)
   .exact kgood om w ((show Ow B w0 w (ao bk k::ag aK so (du d.call.ay cn)::ae l [.y (left.base:U),.z (left.bits:U),.y (left.used:U)]::ag wE s ats::
     ae cb d.call.cl::ae bd (ak bk d ec wv wk fs)::R)from Ow.cN x h.sub).sub)
 obtain⟨x,h⟩:=(h.pick (A:=ao bk k)).zi;refine h.dr λw h=>?_;refine⟨_,O,_,h.aE O,_,O,x.su,h.aA O,_,O,_,bB (h.aA O),h.cd (s:=x.su) (i:=d.c.obj) (j:=d.c.obj.toNat) om hu1 λa ha _ hcu=>?_⟩;refine⟨_,hcu 0 _ O,_,hcu 1 _ O,_,hcu 2 _ O,⟨_,h.aA O,_,h.aA O,_,h.aA O,?_,?_,trivial⟩⟩
 .refine xc hu2 h λs w h=>?_
  refine⟨h.al λw' h=>⟨?_,trivial⟩,trivial⟩
  generalize w.heap.size=l at h|-;refine h.aB O O λw h=>?_;exact fin l s w ((show Ow B w0 w (ao bk k::ae l [.y ((bN (k.kr d.c.obj) d.call.a d.call.b d.call.c).2.1.base:U),.z ((bN (k.kr d.c.obj) d.call.a d.call.b d.call.c).2.1.bits:U),.y ((bN (k.kr d.c.obj) d.call.a d.call.b d.call.c).2.1.used:U)]::ag wE s (bN (k.kr d.c.obj) d.call.a d.call.b d.call.c).1::
   ae cb d.call.cl::ae bd (ak bk d ec wv wk fs)::R)from Ow.cN x h.sub).sub)
 .refine h.al λw' h=>⟨?_,trivial⟩
  generalize w.heap.size=l at h|-;refine xc hu2 h λs w h=>?_;refine⟨h.aB O O λw h=>?_,trivial⟩;exact fin l s w ((show Ow B w0 w (ao bk k::ae l [.y ((bN (k.kr d.c.obj) d.call.a d.call.b d.call.c).2.1.base:U),.z ((bN (k.kr d.c.obj) d.call.a d.call.b d.call.c).2.1.bits:U),.y ((bN (k.kr d.c.obj) d.call.a d.call.b d.call.c).2.1.used:U)]::ag wE s (bN (k.kr d.c.obj) d.call.a d.call.b d.call.c).1::
   ae cb d.call.cl::ae bd (ak bk d ec wv wk fs)::R)from Ow.cN x h.sub).sub)
theorem D8(a:U):du a 1= [(0,a)]:=by simp[du]
theorem nN(b:U):0<=qA.wrap b/\qA.wrap b<18446744073709551616:=by
 have e1:(2:U)^64=18446744073709551616:=qb
 have h:qA.wrap b=b%18446744073709551616:=by simp only[IntKind.wrap,IntKind.bits,IntKind.signed,e1,Uj,Bool.false_eq_true,qB]
 rw[h];exact⟨Int.emod_nonneg _ qb,Int.emod_lt_of_pos _ qb⟩
theorem uP{c:dB}{r g:U}(hc:Sl.gl c)(hg:0<=g/\g<18446744073709551616):Sl.gl (ai.gI c r g).1:=by
 have hz:Sl.gl Sl.aw:=⟨qb,qb,qb,qb⟩
 unfold ai.gI;split
 .exact hz
 split
 .exact hz
 split
 .exact hz
 .refine ⟨?_,?_,hc.g0,hc.g1⟩
  .dsimp only
   split
   .exact hg.1
   .exact hc.b0
  .dsimp only
   split
   .exact hg.2
   .exact hc.b1
theorem H4{K:U->Pw}(hk:bD N k)(hc:Sl.gl d.c)(hw0: -9223372036854775808<=d.call.ay)(hw1:d.call.ay<9223372036854775808)(h:Ow B w0 w (ae bd (ak bk d ec wv wk fs)::ao bk k::R))
  (hK:∀w',Ow B w0 w' (ae bd (ak bk d ec wv wk fs)::ao bk (k.og d).2::R)->K (k.og d).1 w'):XA bd.o K w:=by
 apply agI;unfold ai.og at hK;have hr:=uP (r:=d.call.a) hc (nN d.call.b);have hfew:=hk.fu;refine⟨_,O,h.l2 O (dW (λe=>?_) (λe=>?_))⟩
 .rw[Z e]at hK;exact hK w h
 rw[Y e]at hK;refine free_spec (n:=1) hk hw0 hw1 om h (λhf s w h=>?_) (λhf so w h=>?_)
 .rw[Z hf]at hK
  exact iw hf (hK w h)
 rw[Y om]at hK;rw[D8]at h;refine fh O ?_;intro k7 hk7;have fin:∀(s:S)(w:W),Ow B w0 w (ae s (ai.gI d.c d.call.a (qA.wrap d.call.b)).1.cells::ag aK so [(0,d.call.ay)]::ae bd (ak bk d ec wv wk fs)::ao bk k::R)->k7 (ai.gI d.c d.call.a (qA.wrap d.call.b)).2 s.p w:=λs w h=>by
  apply hk7;by_cases he:(ai.gI d.c d.call.a (qA.wrap d.call.b)).2≠0
  .rw[Z he]at hK
   exact iw he (hK w h.sub)
  rw[Y he]at hK;refine fh om ?_;refine h.dr λw h=>?_;refine h.cd (s:=so) (i:=0) (j:=0) (x:=(0,d.call.ay)) O O λa ha _ hc1=>l0 hc1 ?_;refine h.eE O ⟨?_,trivial⟩;refine pZ (s:=(0,d.call.ay)) (c:=(ai.gI d.c d.call.a (qA.wrap d.call.b)).1) hr om ((h.pick (A:=ao bk k)).pick (A:=ae bd (ak bk d ec wv wk fs))) λw h=>?_;exact hK w h.sub
 refine h.dr λw h=>?_;refine⟨_,O,eA (h.eE O ⟨_,O,_,bB (h.aA O),_,O,_,bB (h.aA O),?_,?_,trivial⟩)⟩
 .refine Aw hc h λw x hx h=>?_
  subst hx;refine⟨h.al λw' h=>⟨?_,trivial⟩,trivial⟩
  generalize w.heap.size=s at h|-;refine h.aB O O λw h=>?_;exact fin s w h
 .refine h.al λw' h=>⟨?_,trivial⟩
  generalize w.heap.size=s at h|-;refine Aw hc h λw x hx h=>?_;subst hx;refine⟨h.aB O O λw h=>?_,trivial⟩;exact fin s w h
theorem H6{K:U->Pw}(hk:bD N k)(hw0: -9223372036854775808<=d.call.ay)(hw1:d.call.ay<9223372036854775808)(h:Ow B w0 w (ae bd (ak bk d ec wv wk fs)::ao bk k::R))
  (hK:∀w',Ow B w0 w' (ae bd (ak bk d ec wv wk fs)::ao bk (k.move d).2::R)->K (k.move d).1 w'):XC bd.o K w:=by
 apply agJ;unfold ai.move at hK;refine free_spec (n:=1) hk hw0 hw1 om h (λhf s w h=>?_) (λhf so w h=>?_)
 .rw[Z hf]at hK
  exact iw hf (hK w h)
 rw[Y om]at hK;rw[D8]at h;refine fh O ?_;obtain⟨x,h⟩:=(h.pick (A:=ao bk k)).zi;refine h.dr λw h=>?_;refine⟨_,O,_,h.aE O,_,O,_,h.aE O,_,O,eA (h.aM O (h.cd (s:=so) (i:=0) (j:=0) (x:=(0,d.call.ay)) O O λa ha _ hc1=>l0 hc1 ⟨?_,trivial⟩))⟩;refine Sl.ov (f:=d.s) (t:=(0,d.call.ay)) (h.pick (A:=Sl.aC x.n k.bits k.H)) λw h=>?_;refine h.dr λw h=>?_;refine⟨_,O,_,h.aE O,_,O,_,h.aA O,_,O,eA (h.aM O (h.cd (s:=so) (i:=0) (j:=0) (x:=(0,d.call.ay)) O O λa ha _ hc1=>l0 hc1 ⟨?_,trivial⟩))⟩;refine Tr.yH (f:=d.s) (t:=(0,d.call.ay)) (h.pick (A:=Tr.cg x.tr k.T)) λw h=>?_;exact hK w ((show Ow B w0 w (ao bk { k with H:=(Sl.eP k.bits k.H d.s (0,d.call.ay)).2,T:=(Tr.eP k.T d.s (0,d.call.ay)).2}::ae bd (ak bk d ec wv wk fs)::R)from Ow.cN x h.sub).sub)
def kZ{α:Type}(f:α->α)(j:S)(l:J α):J α:=(l.take j).map f++l.drop j
theorem xH{α:Type}(f:α->α)(l:J α):kZ f 0 l=l:=by simp[kZ]
theorem Aq{α:Type}(f:α->α){j:S}{l:J α}(h:l.length<=j):kZ f j l=l.map f:=by unfold kZ;rw[SE h,Ui h,SL]
theorem Ar{α:Type}{f:α->α}{j:S}{l:J α}{x:α}(h:l[j]?=X x):(kZ f j l)[j]?=X x/\(kZ f j l).set j (f x)=kZ f (j+1) l:=by
 have hj:=(Sz.1 h).1;have hl:((l.take j).map f).length=j:=by simp;omega
 have hd:l.drop j=x::l.drop (j+1):=by rw[TB hj];congr 1;exact(Sz.1 h).2
 unfold kZ;refine⟨?_,?_⟩
 .rw[SP om,hl,Uh,hd];rfl
 .rw[Uy _ _ om,hl,Uh,hd,SO,h,S0]
  simp
theorem As{α:Type}(f:α->α)(j:S)(l:J α):(kZ f j l).length=l.length:=by unfold kZ;simp;omega
theorem rW{id:U}{K:Pw}(h:Ow B w0 w (ao bk k::R))(hN:k.ends.length<=200000/\k.notes.length<=200000)(hK:∀w',Ow B w0 w' (ao bk (k.eH id)::R)->K w'):abi bk.o id K w:=by
 apply aio;obtain⟨x,h⟩:=h.zi;have hle:=h.aF x.se;have hln:=h.aF x.sn;have hpe:=(h.pick (A:=aq da x.pe k.ends)).cz;have hpn:=(h.pick (A:=aq cu x.pn k.notes)).cz;refine⟨_,O,x.se,h.aA O,?_⟩;intro l5 hl5;have loop:∀(m j:S)(w:W),j+m=k.ends.length->Ow B w0 w (ao bk { k with ends:=kZ (·.cancel id) j k.ends}::R)->l5 (j:U) w->qu:=λ_ _ _ _ _ _=>trivial;clear loop;have loop:∀(m j:S)(w:W),j+m=k.ends.length->Ow B w0 w (ae bk (cr x k.aU k.cP k.bits.length k.t.bK.length)::Sl.aC x.n k.bits k.H::Tr.cg x.tr k.T::Th.bJ x.t k.t::bS x.ln k.ln::ag dV x.su k.u::ag bw x.se x.pe::aq da x.pe (kZ (·.cancel id) j k.ends)::ag bw x.sn x.pn::aq cu x.pn k.notes::ag bw x.ss x.ps::aq Tb.bP x.ps k.af::R)->l5 (j:U) w:=by
  intro m;induction m with
  |zero=>
   intro j w hj h;apply hl5;refine av om ?_;rw[Aq _ om]at h;refine⟨_,O,x.sn,h.aA O,?_⟩;intro l14 hl14;have loop2:∀(m j:S)(w:W),j+m=k.notes.length->Ow B w0 w (ae bk (cr x k.aU k.cP k.bits.length k.t.bK.length)::Sl.aC x.n k.bits k.H::Tr.cg x.tr k.T::Th.bJ x.t k.t::bS x.ln k.ln::ag dV x.su k.u::ag bw x.se x.pe::aq da x.pe (k.ends.map (·.cancel id))::ag bw x.sn x.pn::aq cu x.pn (kZ (·.cancel id) j k.notes)::ag bw x.ss x.ps::aq Tb.bP x.ps k.af::R)->l14 (j:U) w:=by
    intro m;induction m with
    |zero=>
     intro j w hj h;apply hl14;refine av om ?_;rw[Aq _ om]at h;exact hK w (show Ow B w0 w (ao bk (k.eH id)::R)from Ow.cN x h)
    |succ m ih=>
     intro j w hj h;have hx:k.notes[j]?=X k.notes[j]:=gE om;have hp:x.pn[j]?=X x.pn[j]:=gE om;obtain⟨g1,g2⟩:=Ar (f:=(·.cancel id)) hx;apply hl14;refine az om ?_;refine dG (s:=x.sn) h O hp λa ha hc=>⟨_,hc,?_⟩
     have h:=(h.pick (A:=aq cu x.pn (kZ (·.cancel id) j k.notes))).pt hp g1;refine sr h λr w h=>?_;have h:=h.BS (by rw[As];omega) hp;rw[g2]at h;rw[wI j om];exact ih (j+1) w om h.sub
   refine loop2 k.notes.length 0 w om ?_;rw[xH];exact h
  |succ m ih=>
   intro j w hj h;have hx:k.ends[j]?=X k.ends[j]:=gE om;have hp:x.pe[j]?=X x.pe[j]:=gE om;obtain⟨g1,g2⟩:=Ar (f:=(·.cancel id)) hx;apply hl5;refine az om ?_;refine dG (s:=x.se) h O hp λa ha hc=>⟨_,hc,?_⟩
   have h:=(h.pick (A:=aq da x.pe (kZ (·.cancel id) j k.ends))).pt hp g1;refine oS h λr w h=>?_;have h:=h.BS (by rw[As];omega) hp;rw[g2]at h;rw[wI j om];exact ih (j+1) w om h.sub
 refine loop k.ends.length 0 w om ?_;rw[xH];exact h
theorem nj{sp:U}{l:U × Tb.Pg}{F:J dM}{K:Pw}(hF:F.length<=1000000000)(h:Ow B w0 w (ae bd (ak bk d ec wv wk fs)::ag au fs F::R))
  (hK:∀fs' w',Ow B w0 w' (ae bd (ak bk d ec wv wk fs')::ag au fs' (F++ [⟨sp,l.1,l.2.1,l.2.2⟩])::R)->K w'):abt bd.o sp l.1 l.2.1 l.2.2 K w:=by
 apply ais;refine h.a λc w1 h=>?_;refine h.dr λw h=>?_;refine⟨_,O,fs,bB (h.aA O),h.l1 O (eA (h.aM O ⟨h.al λw2 h=>⟨?_,trivial⟩,trivial⟩))⟩
 generalize w.heap.size=g at h|-;refine sX (s:=fs) (y:=⟨sp,l.1,l.2.1,l.2.2⟩) h om λfs' w hs' h=>⟨_,O,?_,trivial⟩
 refine ji ?_;refine h.fD O O λw h=>?_
 (try dsimp only[cr,ak,putAt,Tu,S1,SS]at h)
 exact hK fs' w h.sub
theorem Ow.pY(h:Ow B w0 w (ao b k::R)):∃(ss:Sl)(ps:J S)(ala:aG),Ow B w0 w (ag bw ss ps::aq Tb.bP ps k.af::ala::R)/\w.cell? (b.p.add 7)=X ss.v/\ps.length=k.af.length/\
  ∀R' w' sp,Ow B w0 w' (ag bw ss ps::aq Tb.bP ps sp::ala::R')->Ow B w0 w' (ao b { k with af:=sp}::R'):=by
 obtain⟨x,h⟩:=h.zi;refine⟨x.ss,x.ps,aQ [ae b (cr x k.aU k.cP k.bits.length k.t.bK.length),Sl.aC x.n k.bits k.H,Tr.cg x.tr k.T,Th.bJ x.t k.t,bS x.ln k.ln,ag dV x.su k.u,ag bw x.se x.pe,aq da x.pe k.ends,ag bw x.sn x.pn,aq cu x.pn k.notes],?_,h.aA O,(h.pick (A:=aq Tb.bP x.ps k.af)).cz,λR' w' sp h=>?_⟩
 .exact Ow.cC (Ow.lI (Ow.cC (Ow.aR (show Ow B w0 w (ae b (cr x k.aU k.cP k.bits.length k.t.bK.length)::Sl.aC x.n k.bits k.H::Tr.cg x.tr k.T::Th.bJ x.t k.t::bS x.ln k.ln::ag dV x.su k.u::ag bw x.se x.pe::aq da x.pe k.ends::ag bw x.sn x.pn::aq cu x.pn k.notes::ag bw x.ss x.ps::aq Tb.bP x.ps k.af::R)from h.sub))))
 .have h:Ow B w0 w' (ae b (cr x k.aU k.cP k.bits.length k.t.bK.length)::Sl.aC x.n k.bits k.H::Tr.cg x.tr k.T::Th.bJ x.t k.t::bS x.ln k.ln::ag dV x.su k.u::ag bw x.se x.pe::aq da x.pe k.ends::ag bw x.sn x.pn::aq cu x.pn k.notes::ag bw x.ss x.ps::aq Tb.bP x.ps sp::R'):=(h.lI).star
  exact Ow.cN x h.sub
theorem Ow.NF(h:Ow B w0 w (ao b k::R)):∃(ss:Sl)(ps:J S)(ala:aG),Ow B w0 w (ag bw ss ps::aq da ps k.ends::ala::R)/\w.cell? (b.p.add 5)=X ss.v/\ps.length=k.ends.length/\
  ∀R' w' sp,Ow B w0 w' (ag bw ss ps::aq da ps sp::ala::R')->Ow B w0 w' (ao b { k with ends:=sp}::R'):=by
 obtain⟨x,h⟩:=h.zi;refine⟨x.se,x.pe,aQ [ae b (cr x k.aU k.cP k.bits.length k.t.bK.length),Sl.aC x.n k.bits k.H,Tr.cg x.tr k.T,Th.bJ x.t k.t,bS x.ln k.ln,ag dV x.su k.u,ag bw x.sn x.pn,aq cu x.pn k.notes,ag bw x.ss x.ps,aq Tb.bP x.ps k.af],?_,h.aA O,(h.pick (A:=aq da x.pe k.ends)).cz,λR' w' sp h=>?_⟩
 .exact Ow.cC (Ow.lI (Ow.cC (Ow.aR (show Ow B w0 w (ae b (cr x k.aU k.cP k.bits.length k.t.bK.length)::Sl.aC x.n k.bits k.H::Tr.cg x.tr k.T::Th.bJ x.t k.t::bS x.ln k.ln::ag dV x.su k.u::ag bw x.sn x.pn::aq cu x.pn k.notes::ag bw x.ss x.ps::aq Tb.bP x.ps k.af::ag bw x.se x.pe::aq da x.pe k.ends::R)from h.sub))))
 .have h:Ow B w0 w' (ae b (cr x k.aU k.cP k.bits.length k.t.bK.length)::Sl.aC x.n k.bits k.H::Tr.cg x.tr k.T::Th.bJ x.t k.t::bS x.ln k.ln::ag dV x.su k.u::ag bw x.sn x.pn::aq cu x.pn k.notes::ag bw x.ss x.ps::aq Tb.bP x.ps k.af::ag bw x.se x.pe::aq da x.pe sp::R'):=(h.lI).star
  exact Ow.cN x h.sub
theorem Ow.Ku(h:Ow B w0 w (ao b k::R)):∃(ss:Sl)(ps:J S)(ala:aG),Ow B w0 w (ag bw ss ps::aq cu ps k.notes::ala::R)/\w.cell? (b.p.add 6)=X ss.v/\ps.length=k.notes.length/\
  ∀R' w' sp,Ow B w0 w' (ag bw ss ps::aq cu ps sp::ala::R')->Ow B w0 w' (ao b { k with notes:=sp}::R'):=by
 obtain⟨x,h⟩:=h.zi;refine⟨x.sn,x.pn,aQ [ae b (cr x k.aU k.cP k.bits.length k.t.bK.length),Sl.aC x.n k.bits k.H,Tr.cg x.tr k.T,Th.bJ x.t k.t,bS x.ln k.ln,ag dV x.su k.u,ag bw x.se x.pe,aq da x.pe k.ends,ag bw x.ss x.ps,aq Tb.bP x.ps k.af],?_,h.aA O,(h.pick (A:=aq cu x.pn k.notes)).cz,λR' w' sp h=>?_⟩
 .exact Ow.cC (Ow.lI (Ow.cC (Ow.aR (show Ow B w0 w (ae b (cr x k.aU k.cP k.bits.length k.t.bK.length)::Sl.aC x.n k.bits k.H::Tr.cg x.tr k.T::Th.bJ x.t k.t::bS x.ln k.ln::ag dV x.su k.u::ag bw x.se x.pe::aq da x.pe k.ends::ag bw x.ss x.ps::aq Tb.bP x.ps k.af::ag bw x.sn x.pn::aq cu x.pn k.notes::R)from h.sub))))
 .have h:Ow B w0 w' (ae b (cr x k.aU k.cP k.bits.length k.t.bK.length)::Sl.aC x.n k.bits k.H::Tr.cg x.tr k.T::Th.bJ x.t k.t::bS x.ln k.ln::ag dV x.su k.u::ag bw x.se x.pe::aq da x.pe k.ends::ag bw x.ss x.ps::aq Tb.bP x.ps k.af::ag bw x.sn x.pn::aq cu x.pn sp::R'):=(h.lI).star
  exact Ow.cN x h.sub
theorem Ow.uI(h:Ow B w0 w (ao b k::R)):∃(bt:S)(ala:aG),Ow B w0 w (Th.bJ bt k.t::ala::R)/\w.cell? (b.p.add 2)=X (.q bt)/\
  ∀R' w' t,t.bK.length=k.t.bK.length->Ow B w0 w' (Th.bJ bt t::ala::R')->Ow B w0 w' (ao b (k.cG t)::R'):=by
 obtain⟨x,h⟩:=h.zi;refine⟨x.t,aQ [ae b (cr x k.aU k.cP k.bits.length k.t.bK.length),Sl.aC x.n k.bits k.H,Tr.cg x.tr k.T,bS x.ln k.ln,ag dV x.su k.u,ag bw x.se x.pe,aq da x.pe k.ends,ag bw x.sn x.pn,aq cu x.pn k.notes,ag bw x.ss x.ps,aq Tb.bP x.ps k.af],?_,h.aA O,λR' w' t ht h=>?_⟩
 .exact Ow.cC (Ow.aR (show Ow B w0 w (ae b (cr x k.aU k.cP k.bits.length k.t.bK.length)::Sl.aC x.n k.bits k.H::Tr.cg x.tr k.T::bS x.ln k.ln::ag dV x.su k.u::ag bw x.se x.pe::aq da x.pe k.ends::ag bw x.sn x.pn::aq cu x.pn k.notes::ag bw x.ss x.ps::aq Tb.bP x.ps k.af::Th.bJ x.t k.t::R)from h.sub))
 .have h:Ow B w0 w' (ae b (cr x k.aU k.cP k.bits.length k.t.bK.length)::Sl.aC x.n k.bits k.H::Tr.cg x.tr k.T::bS x.ln k.ln::ag dV x.su k.u::ag bw x.se x.pe::aq da x.pe k.ends::ag bw x.sn x.pn::aq cu x.pn k.notes::ag bw x.ss x.ps::aq Tb.bP x.ps k.af::Th.bJ x.t t::R'):=(h.cC).star
  rw[<-ht]at h;exact(show Ow B w0 w' (ao b (k.cG t)::R')from Ow.cN x h.sub)
theorem Ow.E6(h:Ow B w0 w (ao b k::R)):∃(bt:S)(ala:aG),Ow B w0 w (bS bt k.ln::ala::R)/\w.cell? (b.p.add 3)=X (.q bt)/\
  ∀R' w' t,Ow B w0 w' (bS bt t::ala::R')->Ow B w0 w' (ao b { k with ln:=t}::R'):=by
 obtain⟨x,h⟩:=h.zi;refine⟨x.ln,aQ [ae b (cr x k.aU k.cP k.bits.length k.t.bK.length),Sl.aC x.n k.bits k.H,Tr.cg x.tr k.T,Th.bJ x.t k.t,ag dV x.su k.u,ag bw x.se x.pe,aq da x.pe k.ends,ag bw x.sn x.pn,aq cu x.pn k.notes,ag bw x.ss x.ps,aq Tb.bP x.ps k.af],?_,h.aA O,λR' w' t h=>?_⟩
 .exact Ow.cC (Ow.aR (show Ow B w0 w (ae b (cr x k.aU k.cP k.bits.length k.t.bK.length)::Sl.aC x.n k.bits k.H::Tr.cg x.tr k.T::Th.bJ x.t k.t::ag dV x.su k.u::ag bw x.se x.pe::aq da x.pe k.ends::ag bw x.sn x.pn::aq cu x.pn k.notes::ag bw x.ss x.ps::aq Tb.bP x.ps k.af::bS x.ln k.ln::R)from h.sub))
 .have h:Ow B w0 w' (ae b (cr x k.aU k.cP k.bits.length k.t.bK.length)::Sl.aC x.n k.bits k.H::Tr.cg x.tr k.T::Th.bJ x.t k.t::ag dV x.su k.u::ag bw x.se x.pe::aq da x.pe k.ends::ag bw x.sn x.pn::aq cu x.pn k.notes::ag bw x.ss x.ps::aq Tb.bP x.ps k.af::bS x.ln t::R'):=(h.cC).star
  exact(show Ow B w0 w' (ao b { k with ln:=t}::R')from Ow.cN x h.sub)
def jW(P:Tb.gh)(l:Tb.gh):Tb.gh:=P.filter λy=>l.all λx=>x.1 !=y.1
theorem CZ(P:Tb.gh):jW P []=P:=by unfold jW;simp
theorem zZ(P l:Tb.gh)(x:U × Tb.Pg):jW P (l++ [x])=Tb.od (jW P l) x.1:=by unfold jW Tb.od;rw[Up];congr 1;funext y;rw[List.all_append];simp only[List.all_cons,List.all_nil,Bool.and_true];rw[Bool.and_comm];congr 1;rw[UF];simp only[qQ,ne_eq];exact⟨λh e=>h e.symm,λh e=>h e.symm⟩
theorem CY{P:Tb.gh}(hP:Tb.mz P)(f:U × Tb.Pg->I):jW P (P.filter f)=P.filter λx=> !f x:=by
 unfold jW;apply List.filter_congr;intro y hy;rw[UF];simp only[Vd,SV,qQ,ne_eq,Vk,and_imp];constructor
 .intro h
  cases e:f y with
  |false=>rfl
  |true=>exact qk O (h y hy e)
 .intro h x hx hfx e
  have:=hP.inj hx hy e;rw[this,h]at hfx;cases hfx
theorem zY{P:Tb.gh}(hP:Tb.mz P)(f:U × Tb.Pg->I){q:S}{x:U × Tb.Pg}(hx:(P.filter f)[q]?=X x):Tb.look (jW P ((P.filter f).take q)) x.1=X x.2:=by
 have hS:Tb.mz (jW P ((P.filter f).take q)):=hP.filter _;refine hS.look ?_;unfold jW;rw[SV];have hm:x∈P.filter f:=SU hx;refine⟨(SV.1 hm).1,?_⟩;rw[Vd];intro y hy;obtain⟨i,hi⟩:=Tg.1 hy;rw[S5]at hi;split at hi
 .rename_i hlt
  have hF:Tb.mz (P.filter f):=hP.filter f;have h1:=(Sz.1 hx)
  have h2:=(Sz.1 hi)
  have:=(List.pairwise_iff_getElem.1 hF) i q h2.1 h1.1 hlt;rw[h1.2,h2.2]at this;simp only[qQ,ne_eq];omega
 .cases hi
theorem nJ(f:U)(m:Tb.dS):∀(l:J Tb.dS)(i:S),ai.bC f i (l++ [m])=((ai.bC f i l).1++ai.ba (i+l.length) (m.pg.filter λx=>x.2.1==f),(ai.bC f i l).2++ [{ m with pg:=m.pg.filter λx=> !(x.2.1==f)}])
 | [],i=>by simp[ai.bC]
 |a::l,i=>by simp only[T2,ai.bC,SJ];rw[nJ f m l (i+1)];simp only[S6,T2];rw[show i+1+l.length=i+(l.length+1)from by omega]
theorem gy(f:U):∀(l:J Tb.dS)(i:S),(ai.bC f i l).2.length=l.length
 | [],i=>rfl
 |a::l,i=>by simp[ai.bC,gy f l (i+1)]
theorem sL(n:U)(m:Tb.dS):∀(l:J Tb.dS)(i:S),ai.dv n i (l++ [m])=((ai.dv n i l).1++(ai.ed n (i+l.length) 64 0 m).1,(ai.dv n i l).2++ [(ai.ed n (i+l.length) 64 0 m).2])
 | [],i=>by simp[ai.dv]
 |a::l,i=>by simp only[T2,ai.dv,SJ];rw[sL n m l (i+1)];simp only[S6,T2];rw[show i+1+l.length=i+(l.length+1)from by omega]
theorem kH(n:U):∀(l:J Tb.dS)(i:S),(ai.dv n i l).2.length=l.length
 | [],i=>rfl
 |a::l,i=>by simp[ai.dv,kH n l (i+1)]
def kC(l:J Tb.dS):S:=(l.map λm=>m.pg.length).sum
theorem rj(a b:J Tb.dS):kC (a++b)=kC a+kC b:=by unfold kC;simp
theorem rV{α:Type}(f:α->I):∀l:J α,(l.filter f).length+(l.filter λx=> !f x).length=l.length
 | []=>rfl
 |a::l=>by have:=rV f l;cases h:f a<;>simp[h]<;>omega
theorem nI(f:U):∀(l:J Tb.dS)(i:S),(ai.bC f i l).1.length+kC (ai.bC f i l).2=kC l
 | [],i=>rfl
 |a::l,i=>by
  have h1:=nI f l (i+1);have h2:=rV (λx:U × Tb.Pg=>x.2.1==f) a.pg;unfold kC at*
  simp only[ai.bC,ai.ba,SG,S9,S7,UW];omega
theorem Mn(m:Tb.dS)(j:U):(m.bE j).1.length+(m.bE j).2.2.pg.length=m.pg.length:=by
 unfold Tb.dS.bE;split
 .simp
 split
 .simp
 .have:=rV (λx:U × Tb.Pg=>x.1.toNat / 64==j.toNat) m.pg
  exact this
theorem vg(n:U)(i:S):∀(q j:S)(m:Tb.dS),(ai.ed n i q j m).1.length+(ai.ed n i q j m).2.pg.length=m.pg.length
 |0,j,m=>by simp[ai.ed]
 |q+1,j,m=>by
  unfold ai.ed;split
  .have h1:=vg n i q (j+1) (m.bE (j:U)).2.2
   have h2:=Mn m (j:U);simp only[ai.ba,SG,S9];omega
  .exact vg n i q (j+1) m
theorem ug(n:U):∀(l:J Tb.dS)(i:S),(ai.dv n i l).1.length+kC (ai.dv n i l).2=kC l
 | [],i=>rfl
 |a::l,i=>by
  have h1:=ug n l (i+1);have h2:=vg n i 64 0 a;unfold kC at*
  simp only[ai.dv,SG,S7,UW];omega
theorem ME(k:ai)(c:dB):(k.last c).1.length+kC (k.last c).2.af=kC k.af:=by
 unfold ai.last;split
 .simp[ai.eH]
 split
 .exact nI _ _ _
 split
 .exact ug _ _ _
 .simp
theorem Gt(k:ai)(s:Slot):(k.gone s).1.length+kC (k.gone s).2.af=kC k.af:=by
 unfold ai.gone;split
 .simp[ai.taken]
 .exact ME _ _
theorem fV.DD{m:Tb.dS}(h:Tb.fV m):m.pg.length<=4096:=by have:=Tb.rr m.pg 0 4096 h.mo (λx hx=>⟨(h.vp x hx).1,(h.vp x hx).2.1⟩);omega
theorem xP:∀(l:J Tb.dS),(∀m∈l,Tb.fV m)->kC l<=4096*l.length
 | [],_=>SA _
 |a::l,h=>by
  have h1:=xP l λm hm=>h m (TC _ hm);have h2:=fV.DD (h a Tz);unfold kC at*
  simp only[S7,UW,SJ];omega
theorem Ow.vF(h:Ow B w0 w (aq A ps xs::R)){j:S}{p:S}{x:α}(hp:ps[j]?=X p)(hx:xs[j]?=X x):Ow B w0 w (A p x::aQ ((SC A ps xs).eraseIdx j)::R):=
 Ow.cC (Ow.aR ((h.pt hp hx).perm Tw.symm))
theorem Ow.cF{j:S}{p:S}{x':α}(hl:ps.length=xs.length)(hp:ps[j]?=X p)(h:Ow B w0 w (A p x'::aQ ((SC A ps xs).eraseIdx j)::R)):Ow B w0 w (aq A ps (xs.set j x')::R):=
 Ow.BS hl hp ((h.cC).star.perm Tw)
theorem DC{f:S->J Tb.dS->J dM × J Tb.dS}(hlen:∀l i,(f i l).2.length=l.length){l:J Tb.dS}{i:S}{m:Tb.dS}(hm:l[i]?=X m):
  ((f 0 (l.take i)).2++l.drop i)[i]?=X m/\∀m',((f 0 (l.take i)).2++l.drop i).set i m'=(f 0 (l.take i)).2++ [m']++l.drop (i+1):=by
 have hi:=(Sz.1 hm).1;have h1:((f 0 (l.take i)).2).length=i:=by rw[hlen,SN];omega
 have hd:l.drop i=m::l.drop (i+1):=by rw[TB hi];congr 1;exact(Sz.1 hm).2
 refine⟨?_,λm'=>?_⟩
 .rw[SP om,h1,Uh,hd];rfl
 .rw[Uy _ _ om,h1,Uh,hd];simp
theorem pN(n:U)(i q j:S)(m:Tb.dS):ai.ed n i (q+1) j m=if m.at (j:U)=X n then(ai.ba i (m.bE (j:U)).1++(ai.ed n i q (j+1) (m.bE (j:U)).2.2).1,(ai.ed n i q (j+1) (m.bE (j:U)).2.2).2)else ai.ed n i q (j+1) m:=rfl
theorem HS{c:dB}{F:J dM}{K:Pw}(hN:k.ends.length<=200000/\k.notes.length<=200000/\k.af.length<=200000)(ht:Th.dn k.t)(hs:∀m∈k.af,Tb.fV m)(hF:F.length+kC k.af<=1000000000)
  (h:Ow B w0 w (ae bd (ak bk d ec wv wk fs)::ag au fs F::ao bk k::R))
  (hK:∀fs' w',Ow B w0 w' (ae bd (ak bk d ec wv wk fs')::ag au fs' (F++(k.last c).1)::ao bk (k.last c).2::R)->K w'):acx bd.o c.kind c.obj c.ar c.aD c.guard c.bits K w:=by
 apply aiv;unfold ai.last at hK;refine h.a λcc w1 h=>?_;refine h.l1 O ?_;refine dW (λe=>?_) (λe=>?_)
 .rw[Z e]at hK
  refine h.dr λw h=>?_;refine⟨_,O,_,h.aE O,_,h.aA O,rW (id:=c.obj) (h.pick (A:=ao bk k)) ⟨hN.1,hN.2.1⟩ λw h=>?_,trivial⟩;refine h.dr λw h=>?_;obtain⟨bt,ala,h2,hc2,hback⟩:=h.uI;refine⟨_,O,_,h.aE O,_,O,_,hc2,_,h.aA O,Th.AP ht h2 λw h=>?_,trivial⟩;have hl:(k.t.cy c.obj).2.bK.length=k.t.bK.length:=by
   unfold Th.Mt.cy;split
   .rfl
   split
   .rfl
   .unfold Th.Mt.leave Th.Mt.aS;simp[Th.dI.1]
  have h:=hback _ w _ hl h;dsimp only at hK;rw[SL]at hK;have hK3:∀fs' w',Ow B w0 w' (ae bd (ak bk d ec wv wk fs')::ag au fs' F::ao bk ((k.eH c.obj).cG (k.t.cy c.obj).2)::R)->K w':=hK;exact hK3 fs w h.sub
 rw[Y e]at hK;refine dW (λe6=>?_) (λe6=>?_)
 .rw[Z e6]at hK
  obtain⟨ss,ps,ala,h2,hc2,hpl,hback⟩:=(h.pick (A:=ao bk k)).pY;refine⟨_,O,_,h.aE O,_,O,ss,hc2,?_⟩;have h:=h2;clear h2 hc2;intro l27 hl27;have loop:∀(r i:S)(fs:Sl)(w:W),i+r=k.af.length->Ow B w0 w (ag bw ss ps::aq Tb.bP ps ((ai.bC c.obj 0 (k.af.take i)).2++k.af.drop i)::ala::ae cc c.cells::ae bd (ak bk d ec wv wk fs)::ag au fs (F++(ai.bC c.obj 0 (k.af.take i)).1)::R)->l27 (i:U) w:=by
   intro r;induction r with
   |zero=>
    intro i fs w hi h;have hlen:=h.aF ss;apply hl27;refine av om ?_;rw[SE om,Ui om,SL]at h;exact hK fs w (Ow.sub (L:=ao bk { k with af:=(ai.bC c.obj 0 k.af).2}::ae cc c.cells::ae bd (ak bk d ec wv wk fs)::ag au fs (F++(ai.bC c.obj 0 k.af).1)::R) (hback _ w _ h))
   |succ r ih=>
    intro i fs w hi h;have hlen:=h.aF ss;have hm:k.af[i]?=X k.af[i]:=gE om;have hmm:k.af[i]∈k.af:=Tq _;have hp:ps[i]?=X ps[i]:=gE om;generalize k.af[i]=m at hm hmm;generalize ps[i]=p at hp;have hsm:=hs m hmm;obtain⟨g1,g2⟩:=DC (f:=ai.bC c.obj) (gy c.obj) hm;have htk:k.af.take (i+1)=k.af.take i++ [m]:=by rw[SO,hm];rfl
    have hul:((ai.bC c.obj 0 (k.af.take i)).2++k.af.drop i).length=ps.length:=by simp[gy];omega
    have hpg1:=nI c.obj (k.af.take (i+1)) 0;have hpg2:kC (k.af.take (i+1))<=kC k.af:=by have:=rj (k.af.take (i+1)) (k.af.drop (i+1));rw[Tl]at this;omega
    have hsn:=nJ c.obj m (k.af.take i) 0;rw[htk]at hpg1 hpg2;rw[hsn]at hpg1;rw[SS,SN,TL om]at hsn hpg1;simp only[SG]at hpg1;apply hl27;refine az om ?_;refine dG (s:=ss) h O hp λa ha hc=>⟨_,hc,h.l2 O ?_⟩
    have h:=(h.pick (A:=aq Tb.bP ps ((ai.bC c.obj 0 (k.af.take i)).2++k.af.drop i))).vF hp g1;refine Tb.Cy h λs w h=>?_;intro l35 hl35;have hfl:∀q:S,(Tb.di m.pg c.obj)[q]?=((m.pg.filter λx=>x.2.1==c.obj)[q]?).map (·.1):=λq=>by unfold Tb.di;rw[S2]
    have hfn:(Tb.di m.pg c.obj).length=(m.pg.filter λx=>x.2.1==c.obj).length:=by unfold Tb.di;rw[S9]
    have hll:(ai.ba i (m.pg.filter λx=>x.2.1==c.obj)).length=(m.pg.filter λx=>x.2.1==c.obj).length:=by unfold ai.ba;rw[S9]
    have inner:∀(r q:S)(fs:Sl)(w:W),q+r=(m.pg.filter λx=>x.2.1==c.obj).length->Ow B w0 w (ag ax s (Tb.di m.pg c.obj)::Tb.bP p { m with pg:=jW m.pg ((m.pg.filter λx=>x.2.1==c.obj).take q)}::aQ ((SC Tb.bP ps ((ai.bC c.obj 0 (k.af.take i)).2++k.af.drop i)).eraseIdx i)::
      ag bw ss ps::ala::ae cc c.cells::ae bd (ak bk d ec wv wk fs)::ag au fs (F++(ai.bC c.obj 0 (k.af.take i)).1++ai.ba i ((m.pg.filter λx=>x.2.1==c.obj).take q))::R)->l35 (q:U) w:=by
     intro r;induction r with
     |zero=>
      intro q fs w hq h;have hsl:=h.aF s;apply hl35;refine av om ?_;rw[SE om,CY hsm.mo]at h;have h:=(h.drop).cF om hp;rw[g2]at h;rw[wI i om];refine ih (i+1) fs w om ?_;rw[htk,hsn,<-S6];exact h.sub
     |succ r ih2=>
      intro q fs w hq h;have hsl:=h.aF s;have hx:(m.pg.filter λx=>x.2.1==c.obj)[q]?=X (m.pg.filter λx=>x.2.1==c.obj)[q]:=gE om;have hlk:=zY hsm.mo (λx=>x.2.1==c.obj) hx;have htq:(m.pg.filter λx=>x.2.1==c.obj).take (q+1)=(m.pg.filter λx=>x.2.1==c.obj).take q++ [(m.pg.filter λx=>x.2.1==c.obj)[q]]:=by rw[SO,hx];rfl
      have hmem:(m.pg.filter λx=>x.2.1==c.obj)[q]∈m.pg:=(SV.1 (Tq _)).1;have hfx:=hfl q;rw[hx]at hfx;generalize (m.pg.filter λx=>x.2.1==c.obj)[q]=y at hx hlk htq hmem hfx;have hbnd:=hsm.vp y hmem;have hun:({ m with pg:=jW m.pg ((m.pg.filter λx=>x.2.1==c.obj).take q)}:Tb.dS).cJ y.1=(y.2,0,{ m with pg:=jW m.pg ((m.pg.filter λx=>x.2.1==c.obj).take (q+1))}):=by unfold Tb.dS.cJ;rw[Y om,hlk,htq,zZ]
      have hqlen:(F++(ai.bC c.obj 0 (k.af.take i)).1++ai.ba i ((m.pg.filter λx=>x.2.1==c.obj).take q)).length<=1000000000:=by unfold ai.ba at hpg1|-;simp only[SG,S9,SN]at hpg1|-;omega
      apply hl35;refine az om ?_;refine h.cd (s:=s) O hfx λa ha h0 _=>⟨_,h0 _ O,?_⟩
      refine Tb.rR (h.pick (A:=Tb.bP p { m with pg:=jW m.pg ((m.pg.filter λx=>x.2.1==c.obj).take q)})) λw h=>?_;rw[hun]at h|-;refine h.a λg w2 h=>?_;refine h.aB O O λw h=>?_;refine h.aM O ?_;refine nj (sp:=(i:U)) (l:=(y.1,y.2)) hqlen ((h.pick (A:=ag au fs (F++(ai.bC c.obj 0 (k.af.take i)).1++ai.ba i ((m.pg.filter λx=>x.2.1==c.obj).take q)))).pick (A:=ae bd (ak bk d ec wv wk fs))) λfs' w h=>?_;rw[show qj.wrap ((q:U)+1)=((q+1:S):U)from by have:=fV.DD hsm;have:=S3 (λx:U × Tb.Pg=>x.2.1==c.obj) m.pg;rw[wr om om];omega];refine ih2 (q+1) fs' w om ?_;have e9:F++(ai.bC c.obj 0 (k.af.take i)).1++ai.ba i ((m.pg.filter λx=>x.2.1==c.obj).take (q+1))=F++(ai.bC c.obj 0 (k.af.take i)).1++ai.ba i ((m.pg.filter λx=>x.2.1==c.obj).take q)++ [⟨(i:U),y.1,y.2.1,y.2.2⟩]:=by rw[htq];unfold ai.ba;rw[S0];simp only[S6];rfl
      rw[e9];exact h.sub
    refine inner _ 0 fs w (SS _) ?_;have e1:jW m.pg ((m.pg.filter λx=>x.2.1==c.obj).take 0)=m.pg:=by rw[TZ,CZ]
    have e2:ai.ba i ((m.pg.filter λx=>x.2.1==c.obj).take 0)= []:=rfl;rw[e1,e2,SL];exact h.sub
  refine loop k.af.length 0 fs w1 (SS _) ?_;rw[TZ,T9];show Ow B w0 w1 (ag bw ss ps::aq Tb.bP ps ([]++k.af)::ala::ae cc c.cells::ae bd (ak bk d ec wv wk fs)::ag au fs (F++ [])::R);rw[TG,SL];exact h.sub
 rw[Y e6]at hK;refine dW (λe7=>?_) (λe7=>?_)
 .rw[Z e7]at hK
  obtain⟨ss,ps,ala,h2,hc2,hpl,hback⟩:=(h.pick (A:=ao bk k)).pY;refine⟨_,O,_,h.aE O,_,O,ss,hc2,?_⟩;have h:=h2;clear h2 hc2;intro l53 hl53;have loop:∀(r i:S)(fs:Sl)(w:W),i+r=k.af.length->Ow B w0 w (ag bw ss ps::aq Tb.bP ps ((ai.dv c.obj 0 (k.af.take i)).2++k.af.drop i)::ala::ae cc c.cells::ae bd (ak bk d ec wv wk fs)::ag au fs (F++(ai.dv c.obj 0 (k.af.take i)).1)::R)->l53 (i:U) w:=by
   intro r;induction r with
   |zero=>
    intro i fs w hi h;have hlen:=h.aF ss;apply hl53;refine av om ?_;rw[SE om,Ui om,SL]at h;exact hK fs w (Ow.sub (L:=ao bk { k with af:=(ai.dv c.obj 0 k.af).2}::ae cc c.cells::ae bd (ak bk d ec wv wk fs)::ag au fs (F++(ai.dv c.obj 0 k.af).1)::R) (hback _ w _ h))
   |succ r ih=>
    intro i fs w hi h;have hlen:=h.aF ss;have hm:k.af[i]?=X k.af[i]:=gE om;have hp:ps[i]?=X ps[i]:=gE om;generalize k.af[i]=m at hm;generalize ps[i]=p at hp;obtain⟨g1,g2⟩:=DC (f:=ai.dv c.obj) (kH c.obj) hm;have htk:k.af.take (i+1)=k.af.take i++ [m]:=by rw[SO,hm];rfl
    have hul:((ai.dv c.obj 0 (k.af.take i)).2++k.af.drop i).length=ps.length:=by simp[kH];omega
    have hpg1:=ug c.obj (k.af.take (i+1)) 0;have hpg2:kC (k.af.take (i+1))<=kC k.af:=by have:=rj (k.af.take (i+1)) (k.af.drop (i+1));rw[Tl]at this;omega
    have hsn:=sL c.obj m (k.af.take i) 0;rw[htk]at hpg1 hpg2;rw[hsn]at hpg1;rw[SS,SN,TL om]at hsn hpg1;simp only[SG]at hpg1;apply hl53;refine az om ?_;refine dG (s:=ss) h O hp λa ha hc=>⟨_,hc,?_⟩
    have h:=(h.pick (A:=aq Tb.bP ps ((ai.dv c.obj 0 (k.af.take i)).2++k.af.drop i))).vF hp g1;intro l58 hl58;have places:∀(r j:S)(mj:Tb.dS)(alc:J dM)(fs:Sl)(w:W),j+r=64->(alc++(ai.ed c.obj i r j mj).1=(ai.ed c.obj i 64 0 m).1)->((ai.ed c.obj i r j mj).2=(ai.ed c.obj i 64 0 m).2)->
      Ow B w0 w (Tb.bP p mj::aQ ((SC Tb.bP ps ((ai.dv c.obj 0 (k.af.take i)).2++k.af.drop i)).eraseIdx i)::
      ag bw ss ps::ala::ae cc c.cells::ae bd (ak bk d ec wv wk fs)::ag au fs (F++(ai.dv c.obj 0 (k.af.take i)).1++alc)::R)->l58 (j:U) w:=by
     intro r;induction r with
     |zero=>
      intro j mj alc fs w hj hG hM h;apply hl58;refine av om ?_;have hM:mj=_:=hM;have hG:alc++ []=_:=hG;rw[SL]at hG;rw[hM,hG]at h;have h:=h.cF om hp;rw[g2]at h;rw[wI i om];refine ih (i+1) fs w om ?_;rw[htk,hsn,<-S6];exact h.sub
     |succ r ih2=>
      intro j mj alc fs w hj hG hM h;apply hl58;refine az om ?_;refine Tb.Jn h ?_;intro k64 hk64;rw[pN]at hG hM;rw[wI j om]at hk64;have no:mj.at (j:U)≠X c.obj->k64 qd w:=λhn=>by rw[Y hn]at hG hM;apply hk64;refine aV O ?_;exact ih2 (j+1) mj alc fs w om hG hM h
      have yes:mj.at (j:U)=X c.obj->k64 G w:=λhy=>by
       rw[Z hy]at hG hM;apply hk64;refine aW O ?_;refine Tb.Hg h λs w h=>?_;intro l70 hl70;have hGl:=qz TO hG;simp only[SG]at hGl;have hlines:(ai.ba i (mj.bE (j:U)).1).length=(mj.bE (j:U)).1.length:=by unfold ai.ba;rw[S9]
       have inner:∀(r q:S)(fs:Sl)(w:W),q+r=(mj.bE (j:U)).1.length->Ow B w0 w (ag Tb.aP s (mj.bE (j:U)).1::Tb.bP p (mj.bE (j:U)).2.2::aQ ((SC Tb.bP ps ((ai.dv c.obj 0 (k.af.take i)).2++k.af.drop i)).eraseIdx i)::
         ag bw ss ps::ala::ae cc c.cells::ae bd (ak bk d ec wv wk fs)::ag au fs (F++(ai.dv c.obj 0 (k.af.take i)).1++(alc++ai.ba i ((mj.bE (j:U)).1.take q)))::R)->l70 (q:U) w:=by
        intro r;induction r with
        |zero=>
         intro q fs w hq h;have hsl:=h.aF s;apply hl70;refine av om ?_;rw[SE (l:=(mj.bE (j:U)).1) om]at h;exact ih2 (j+1) _ (alc++ai.ba i (mj.bE (j:U)).1) fs w om (by rw[S6];exact hG) hM h.drop
        |succ r ih3=>
         intro q fs w hq h;have hsl:=h.aF s;have hx:(mj.bE (j:U)).1[q]?=X (mj.bE (j:U)).1[q]:=gE om;have htq:(mj.bE (j:U)).1.take (q+1)=(mj.bE (j:U)).1.take q++ [(mj.bE (j:U)).1[q]]:=by rw[SO,hx];rfl
         generalize (mj.bE (j:U)).1[q]=y at hx htq;have hqlen:(F++(ai.dv c.obj 0 (k.af.take i)).1++(alc++ai.ba i ((mj.bE (j:U)).1.take q))).length<=1000000000:=by
          have e8:(ai.ba i ((mj.bE (j:U)).1.take q)).length<=(mj.bE (j:U)).1.length:=by unfold ai.ba;rw[S9,SN];omega
          simp only[SG];omega
         apply hl70;refine az om ?_;refine h.cd (s:=s) O hx λa ha _ hc1=>Tb.pa hc1 ?_;refine h.a λg w2 h=>?_;refine h.aB O O λw h=>?_;refine h.nq O ?_;refine nj (sp:=(i:U)) (l:=y) hqlen ((h.pick (A:=ag au fs (F++(ai.dv c.obj 0 (k.af.take i)).1++(alc++ai.ba i ((mj.bE (j:U)).1.take q))))).pick (A:=ae bd (ak bk d ec wv wk fs))) λfs' w h=>?_;rw[wI q om];refine ih3 (q+1) fs' w om ?_;have e9:F++(ai.dv c.obj 0 (k.af.take i)).1++(alc++ai.ba i ((mj.bE (j:U)).1.take (q+1)))=F++(ai.dv c.obj 0 (k.af.take i)).1++(alc++ai.ba i ((mj.bE (j:U)).1.take q))++ [⟨(i:U),y.1,y.2.1,y.2.2⟩]:=by rw[htq];unfold ai.ba;rw[S0];simp only[S6];rfl
         rw[e9];exact h.sub
       refine inner _ 0 fs w (SS _) ?_;rw[TZ];show Ow B w0 w (ag Tb.aP s (mj.bE (j:U)).1::Tb.bP p (mj.bE (j:U)).2.2::aQ _::ag bw ss ps::ala::ae cc c.cells::ae bd (ak bk d ec wv wk fs)::ag au fs (F++(ai.dv c.obj 0 (k.af.take i)).1++(alc++ []))::R);rw[SL];exact h
      cases hat:mj.at (j:U)with
      |none=>exact aV O (no (by rw[hat];simp))
      |some n=>
       refine aW O (h.l2 O ?_);show k64 (n==c.obj) w;by_cases en:n=c.obj
       .rw[show(n==c.obj)=G from by simpa using en];exact yes (by rw[hat,en])
       .rw[show(n==c.obj)=qd from by simpa using en];exact no (by rw[hat];simpa using en)
    refine places 64 0 m [] fs w (SS _) (TG _) O ?_;rw[SL];exact h.sub
  refine loop k.af.length 0 fs w1 (SS _) ?_;rw[TZ,T9];show Ow B w0 w1 (ag bw ss ps::aq Tb.bP ps ([]++k.af)::ala::ae cc c.cells::ae bd (ak bk d ec wv wk fs)::ag au fs (F++ [])::R);rw[TG,SL];exact h.sub
 .rw[Y e7,SL]at hK
  exact hK fs w1 h.drop
def fS(H:Sl.Hs):J (Slot × dB):=(SF 64).filterMap λi:S=>(H (0,(i:U))).map λc=>(((0,(i:U)):Slot),c)
theorem tw{H:Sl.Hs}(h:∀s c,H s=X c->s.1=0/\0<=s.2/\s.2<64):Sl.mW H (fS H):=by
 unfold fS;refine⟨?_,λs c=>?_⟩
 .rw[List.pairwise_filterMap]
  refine List.Pairwise.imp ?_ (List.pairwise_lt_range (n:=64));intro a b hab x hx y hy;rw[Ut]at hx hy;obtain⟨_,_,rfl⟩:=hx;obtain⟨_,_,rfl⟩:=hy;unfold Sl.ra;dsimp only;exact qp (.inr ⟨O,om⟩)
 .rw[List.mem_filterMap]
  constructor
  .rintro ⟨i,_,hi⟩
   rw[Ut]at hi;obtain⟨c',hc,e⟩:=hi;cases e;exact hc
  .intro hc
   obtain⟨h1,h2,h3⟩:=h s c hc;refine⟨s.2.toNat,T6.2 om,?_⟩;have e:((0:U),((s.2.toNat:S):U))=s:=Prod.ext h1.symm (by dsimp only;omega);rw[e,hc];rfl
theorem uF(H:Sl.Hs):(fS H).length<=64:=by unfold fS;exact SY (List.length_filterMap_le _ _) qc
theorem Ae(H:Sl.Hs)(c:dB):(fS H).any (λy=>ai.oa y.2 c)=(SF 64).any λi=>match H (0,(i:U))with|some x=>ai.oa x c|none=>false:=by unfold fS;rw[List.any_filterMap];congr 1;funext i;cases H (0,(i:U))<;>rfl
theorem KG(l:Tr.Tr):(Tr.fF l).map (·.1)=l.map (·.1):=by unfold Tr.fF;rw[Ux];rfl
theorem LJ{T:Tr.Tr}{i:S}(hi:i<T.length):(T.take i++(Tr.fF ((T.drop (i+1)).take (Tr.eJ T i-(i+1)))++T.drop (Tr.eJ T i))).map (·.1)=(T.map (·.1)).eraseIdx i:=by
 obtain⟨e1,e2⟩:=Tr.uA T hi;have hd:T.drop (Tr.eJ T i)=(T.drop (i+1)).drop (Tr.eJ T i-(i+1)):=by rw[List.drop_drop];congr 1;omega
 rw[hd,S0,S0,KG,<-S0,Tl,<-S0,Wd];simp[List.map_take,List.map_drop]
end
section
variable{N:S}{k:ai}
theorem bD.taken(h:bD N k){s:Slot}(hs:(k.H s).isSome=G):bD N (k.taken s):=by
 obtain⟨i,hi⟩:=uV ((h.mem s).2 hs);obtain⟨x,hx,hxs⟩:=Tr.dZ hi;have hlt:=(Sz.1 hx).1;have hT:(k.taken s).T=k.T.take i++(Tr.fF ((k.T.drop (i+1)).take (Tr.eJ k.T i-(i+1)))++k.T.drop (Tr.eJ k.T i)):=by unfold ai.taken Tr.takeN;rw[hi]
 refine { h with
  um:=h.um.del s
  held:=λt c hc=>?_
  tok:=by rw[hT];exact h.tok.take hi
  mem:=λt=>?_}
 .have hc:Sl.dj k.H s Q t=X c:=hc
  unfold Sl.dj at hc;split at hc
  .cases hc
  .exact h.held t c hc
 .rw[hT,LJ hlt]
  have hgi:(k.T.map (·.1))[i]?=X s:=by rw[S2,hx];exact qz X hxs
  rw[Sl.sh h.tok.nd hgi,h.mem];show _↔(Sl.dj k.H s Q t).isSome=G;unfold Sl.dj;by_cases e:t=s
  .simp[e]
  .rw[Y e];simp[e]
theorem bD.eH(h:bD N k)(id:U):bD N (k.eH id):=by
 have hG:Gr k (k.eH id):=⟨SA _,SA _,SA _,by simp[ai.eH],by simp[ai.eH],SA _,SA _,SA _⟩
 refine h.same (k':=k.eH id) O O O hG h.inv h.ln (λx hx hx2=>?_) h.u h.Cd h.nu (by simpa [ai.eH]using h.ne) (by simpa [ai.eH]using h.nn) h.ns h.nf h.nt (λp hp=>?_) (λp hp=>?_)
 .have:=h.Jg x hx hx2
  simpa [ai.eH]using this
 .obtain ⟨q,hq,rfl⟩:=Tj.1 hp
  exact SY (S3 _ _) (h.el q hq)
 .obtain ⟨q,hq,rfl⟩:=Tj.1 hp
  exact SY (S3 _ _) (h.nl q hq)
theorem bD.af(h:bD N k){l:J Tb.dS}(hl:l.length=k.af.length)(hs:∀m∈l,Tb.fV m):bD N { k with af:=l}:=
 h.same (k':={ k with af:=l}) O O O ⟨SA _,SA _,SA _,SA _,SA _,SA _,SA _,by dsimp only;omega⟩ h.inv h.ln h.Jg h.u hs h.nu h.ne h.nn (by have:=h.ns;dsimp only;omega) h.nf h.nt h.el h.nl
theorem fV.Qr{m:Tb.dS}(h:Tb.fV m)(f:U × Tb.Pg->I):Tb.fV { m with pg:=m.pg.filter f}:=
 ⟨h.mo.filter f,λx hx=>h.vp x (SV.1 hx).1,h.fu⟩
theorem yP(f:U):∀(l:J Tb.dS)(i:S),(∀m∈l,Tb.fV m)->∀m∈(ai.bC f i l).2,Tb.fV m
 | [],i,_,m,hm=>by simp[ai.bC]at hm
 |a::l,i,h,m,hm=>by
  simp only[ai.bC,SH]at hm;rcases hm with rfl|hm
  .exact fV.Qr (h a Tz) _
  .exact yP f l (i+1) (λm hm=>h m (TC _ hm)) m hm
theorem vf(n:U)(i:S):∀(q j:S)(m:Tb.dS),Tb.fV m->Tb.fV (ai.ed n i q j m).2
 |0,j,m,h=>h
 |q+1,j,m,h=>by
  rw[pN];split
  .exact vf n i q (j+1) _ (h.drop _)
  .exact vf n i q (j+1) m h
theorem Ea(n:U):∀(l:J Tb.dS)(i:S),(∀m∈l,Tb.fV m)->∀m∈(ai.dv n i l).2,Tb.fV m
 | [],i,_,m,hm=>by simp[ai.dv]at hm
 |a::l,i,h,m,hm=>by
  simp only[ai.dv,SH]at hm;rcases hm with rfl|hm
  .exact vf n i 64 0 a (h a Tz)
  .exact Ea n l (i+1) (λm hm=>h m (TC _ hm)) m hm
theorem pI(t:Th.Mt)(id:U):(t.cy id).2.bK.length=t.bK.length:=by
 unfold Th.Mt.cy;split
 .rfl
 split
 .rfl
 .unfold Th.Mt.leave Th.Mt.aS;simp[Th.dI.1]
theorem bD.last(h:bD N k)(c:dB):bD N (k.last c).2/\(k.last c).2.H=k.H/\(k.last c).2.T=k.T/\(k.last c).2.bits=k.bits:=by
 unfold ai.last;split
 .exact ⟨(h.eH c.obj).cG (h.inv.suspend c.obj) (by rw[pI];exact SA _),O,O,O⟩
 split
 .exact ⟨h.af (gy _ _ _) (yP _ _ _ h.Cd),O,O,O⟩
 split
 .exact ⟨h.af (kH _ _ _) (Ea _ _ _ h.Cd),O,O,O⟩
 .exact ⟨h,O,O,O⟩
theorem bD.gone(h:bD N k){s:Slot}(hs:(k.H s).isSome=G):bD N (k.gone s).2/\(k.gone s).2.H=Sl.dj k.H s Q/\(k.gone s).2.T=(Tr.takeN k.T s).2:=by
 have ht:=h.taken hs;unfold ai.gone;split
 .exact ⟨ht,O,O⟩
 .obtain ⟨h1,h2,h3,_⟩:=ht.last ((k.H s).getD Sl.aw)
  exact⟨h1,h2,h3⟩
theorem tu{N:S}:∀(l:J Slot)(k:ai),bD N k->l.Nodup->(∀s∈l,(k.H s).isSome=G)->bD N (ai.dq l k).2/\(∀s,(ai.dq l k).2.H s=if s∈l then Q else k.H s)
 | [],k,h,_,_=>⟨h,λs=>by simp[ai.dq]⟩
 |a::l,k,h,hn,hs=>by
  obtain⟨h1,h2,h3⟩:=h.gone (hs a Tz);rw[Tx]at hn;have hl:∀s∈l,((k.gone a).2.H s).isSome=true:=λs hm=>by rw[h2];unfold Sl.dj;rw[Y (λe:s=a=>hn.1 (e▸hm))];exact hs s (TC _ hm)
  obtain⟨g1,g2⟩:=tu l _ h1 hn.2 hl;refine⟨g1,λs=>?_⟩;show(ai.dq l (k.gone a).2).2.H s=_;rw[g2,h2];unfold Sl.dj;by_cases e:s∈l
  .rw[Z e,Z (TC _ e)]
  .rw[Y e]
   by_cases e2:s=a
   .rw[Z e2,Z (by rw[e2];exact Tz)]
   .rw[Y e2,Y (by simp[e,e2])]
theorem tv:∀(l:J Slot)(k:ai),(ai.dq l k).1.length+kC (ai.dq l k).2.af=kC k.af
 | [],k=>by simp[ai.dq]
 |a::l,k=>by have h1:=Gt k a;have h2:=tv l (k.gone a).2;simp only[ai.dq,SG];omega
end
section
variable{F:Fence}{n:S}{P:qo}{m:Th.Mt}{B:S}{w0 w:W}{R L:J aG}{bd bk:S}{k:ai}{d:sN}{ec wv wk:U}{fs:Sl}{N:S}
theorem EW{y:Slot × dB}{c:dB}{sb:S}{K:I->Pw}(h:Ow B w0 w L)(i:S)(hi:L[i]?=X (ae sb c.cells))
  (hK:∀w',Ow B w0 w' L->K (ai.oa y.2 c) w'):X7 y.1.1 y.1.2 y.2.kind y.2.obj y.2.ar y.2.aD y.2.guard y.2.bits sb.p K w:=by
 apply aiu;refine h.a λc0 w1 h=>?_;refine eA (h.eE O ?_);refine h.vU (i+1) (by simpa using hi) O ?_;exact u6 h λw h=>hK w h.drop
theorem Ab{s:Slot}{F:J dM}{K:Pw}(hk:bD N k)(hN:N<=200000)(hs:(k.H s).isSome=G)(hF:F.length+kC k.af<=1000000000)
  (h:Ow B w0 w (ae bd (ak bk d ec wv wk fs)::ag au fs F::ao bk k::R))
  (hK:∀fs' w',Ow B w0 w' (ae bd (ak bk d ec wv wk fs')::ag au fs' (F++(k.gone s).1)::ao bk (k.gone s).2::R)->K w'):WS bd.o s.1 s.2 K w:=by
 apply ain;have hkt:=hk.taken hs;obtain⟨c,hc⟩:=Uc.1 hs;unfold ai.gone at hK;rw[hc]at hK;have hth:Sl.bc k.bits s=true:=nH hk.b0 (hk.held s c hc).1;refine h.a λc0 w1 h=>?_;obtain⟨x,h⟩:=(h.pick (A:=ao bk k)).zi;refine h.dr λw h=>?_;refine⟨_,O,_,h.aE O,_,O,h.l2 O (h.aM O ⟨Tr.yJ (s:=s) (h.pick (A:=Tr.cg x.tr k.T)) λw h=>?_,trivial⟩)⟩;intro k14 hk14;have fin:∀(sb:S)(w:W),Ow B w0 w (ae sb c.cells::ae bd (ak bk d ec wv wk fs)::ag au fs F::ao bk (k.taken s)::R)->k14 sb.p w:=λsb w h=>by
  apply hk14;have hF2:F.length+kC (k.taken s).af<=1000000000:=hF;generalize k.taken s=kt at hkt hK hF2 h|-;obtain⟨x,h⟩:=(h.pick (A:=ao bk kt)).zi;refine⟨_,O,_,h.aE O,_,O,h.l1 O (Sl.jd (h.pick (A:=Sl.aC x.n kt.bits kt.H)) λs2 hs2 w hih h=>?_)⟩;have e2:hs2=fS kt.H:=hih.uniq (tw λt c hc=>(hkt.held t c hc).1);subst e2;have h:Ow B w0 w (ao bk kt::ag Sl.eM s2 (fS kt.H)::ae sb c.cells::ae bd (ak bk d ec wv wk fs)::ag au fs F::R):=Ow.cN x h.sub;refine sO (s:=s2) (p:=λy=>ai.oa y.2 c) h (SY (uF _) qb) (λy w alf h hQ=>?_) λw h=>?_
  .refine aY ?_
   show X7 y.1.1 y.1.2 y.2.kind y.2.obj y.2.ar y.2.aD y.2.guard y.2.bits sb.p alf w;exact EW (c:=c) h 2 O hQ
  .have e3:((fS kt.H).any λy=>ai.oa y.2 c)=kt.more c:=Ae _ _
   rw[e3];cases hm:kt.more c with
   |true=>
    refine aV O ?_;rw[TR,Z hm]at hK;refine hK fs w ?_;show Ow B w0 w (ae bd (ak bk d ec wv wk fs)::ag au fs (F++ [])::ao bk kt::R);rw[SL];exact h.sub
   |false=>
    refine aW O ?_;rw[TR,Y (by rw[hm];decide)]at hK;refine h.eE O ?_;refine HS (c:=c) (F:=F) ⟨SY hkt.ne hN,SY hkt.nn hN,SY hkt.ns hN⟩ hkt.inv.ok hkt.Cd hF2 (show Ow B w0 w (ae bd (ak bk d ec wv wk fs)::ag au fs F::ao bk kt::R)from h.sub) λfs' w h=>?_;exact hK fs' w h
 refine h.dr λw h=>?_;refine⟨_,O,_,h.aE O,_,O,h.l1 O (h.aM O ⟨?_,?_,trivial⟩)⟩
 .refine Sl.jg (s:=s) (h.pick (A:=Sl.aC x.n k.bits k.H)) (λe=>by rw[hth]at e;cases e) (λ_ e=>by rw[hc]at e;cases e) λ_ c2 hc2 w h=>?_
  rw[hc]at hc2;cases hc2;refine⟨h.al λw' h=>⟨?_,trivial⟩,trivial⟩
  generalize w.heap.size=sb at h|-;refine h.aB O O λw h=>?_;exact fin sb w ((show Ow B w0 w (ao bk (k.taken s)::ae sb c.cells::ae bd (ak bk d ec wv wk fs)::ag au fs F::R)from Ow.cN x h.sub).sub)
 .refine h.al λw' h=>⟨?_,trivial⟩
  generalize w.heap.size=sb at h|-;refine Sl.jg (s:=s) (h.pick (A:=Sl.aC x.n k.bits k.H)) (λe=>by rw[hth]at e;cases e) (λ_ e=>by rw[hc]at e;cases e) λ_ c2 hc2 w h=>?_;rw[hc]at hc2;cases hc2;refine⟨h.aB O O λw h=>?_,trivial⟩;exact fin sb w ((show Ow B w0 w (ao bk (k.taken s)::ae sb c.cells::ae bd (ak bk d ec wv wk fs)::ag au fs F::R)from Ow.cN x h.sub).sub)
theorem C0{K:U->Pw}(hk:bD N k)(hN:N<=200000)(hs:(k.H d.s).isSome=G)
  (h:Ow B w0 w (ae bd (ak bk d ec wv wk fs)::ag au fs []::ao bk k::R))
  (h1:d.call.at_=0->∀w',Ow B w0 w' (ae bd (ak bk d ec wv wk fs)::ag au fs []::ao bk k::R)->K 181 w')
  (h2:d.call.at_≠0->∀fs' w',Ow B w0 w' (ae bd (ak bk d ec wv wk fs')::ag au fs' (k.gone d.s).1::ao bk (k.gone d.s).2::R)->K 0 w'):XD bd.o K w:=by
 apply agK;have hp:=xP k.af hk.Cd;have hn:=hk.ns;refine⟨_,O,_,bB (h.aA O),dW (λe=>h1 e w h) (λe=>?_)⟩;refine⟨_,O,eA (h.aM O (Ab hk hN hs (by simp only[TU];omega) h λfs' w h=>?_))⟩;exact h2 e fs' w h
theorem iv{n:U}{t:Th.vR}:(m.aS n t).bK.length=m.bK.length:=by unfold Th.Mt.aS;simp
theorem nv{n:U}:(m.cW n).bK.length=m.bK.length:=by unfold Th.Mt.cW Th.Mt.jx;exact iv
theorem kB{n s:U}:(m.leave n s).bK.length=m.bK.length:=by unfold Th.Mt.leave;rw[iv,Th.dI.1]
theorem DW{n v:U}:(m.iS n v).bK.length=m.bK.length:=rfl
theorem jt{c:U}:(m.bj c).bK.length=m.bK.length:=by
 unfold Th.Mt.bj Th.Mt.pick;split
 .split
  .rfl
  .split
   .rw[DW,kB]
   .split
    .rfl
    .rw[DW,kB,nv,kB]
 .rfl
theorem iu{n:U}:(m.bW n).2.bK.length=m.bK.length:=by
 unfold Th.Mt.bW;split
 .rfl
 split
 .rfl
 .exact nv
theorem xl{n:U}:(m.iE n).2.bK.length=m.bK.length:=by
 unfold Th.Mt.iE;split
 .rfl
 split
 .rfl
 .exact kB
theorem AF{n p:U}:(m.gP n p).2.bK.length=m.bK.length:=by
 unfold Th.Mt.gP;split
 .rfl
 split
 .rfl
 split
 .rw[nv,iv,kB]
 .exact iv
theorem mO{n i v:U}:(m.pB n i v).2.bK.length=m.bK.length:=by
 unfold Th.Mt.pB;split
 .rfl
 split
 .rfl
 .unfold Th.Mt.DK;exact iv
theorem vj{c:U}:(m.yield c).bK.length=m.bK.length:=by
 unfold Th.Mt.yield;split
 .rfl
 .rw[jt,nv,kB,iv]
theorem D7{c:U}:(m.tick c).bK.length=m.bK.length:=by
 unfold Th.Mt.tick;split
 .rfl
 .dsimp only
  split
  .rw[vj,iv]
  .rw[iv]
theorem nM{id:U}{K:U->Pw}(hm:Th.dn k.t)(h:Ow B w0 w (ae bd (ak bk d ec wv (-1) fs)::ao bk k::R))
  (hK:∀w',Ow B w0 w' (ae bd (ak bk d ec wv (k.eY id).2.1 fs)::ao bk (k.eY id).2.2::R)->K (k.eY id).1 w'):abj bd.o id K w:=by
 apply aip;unfold ai.eY at hK;dsimp only at hK;obtain⟨bt,ala,h,hc2,hback⟩:=(h.pick (A:=ao bk k)).uI;refine⟨_,O,_,h.aE O,_,O,_,hc2,Th.yg hm h λw h=>?_⟩;have h:=hback _ w _ iu h;refine dW (λe=>?_) (λe=>?_)
 .rw[Z e]at hK
  refine⟨_,O,ji (h.fD O O λw h=>?_)⟩
  (try dsimp only[cr,ak,putAt,Tu,S1,SS]at h)
  exact hK w h.sub
 .rw[Y e]at hK
  exact hK w h.sub
theorem Cg{K:U->Pw}(hk:bD N k)(hN:N<=200000)(h:Ow B w0 w (ae bd (ak bk d ec wv wk fs)::ao bk k::R))
  (hK:∀w',Ow B w0 w' (ae bd (ak bk d ec wv wk fs)::ao bk ((k.eH d.c.obj).cG (k.t.cy d.c.obj).2)::R)->K (k.t.cy d.c.obj).1 w'):XH bd.o K w:=by
 apply ah7;refine h.dr λw h=>?_;refine⟨_,O,_,h.aE O,_,O,_,bB (h.aA O),rW (id:=d.c.obj) h.cC ⟨SY hk.ne hN,SY hk.nn hN⟩ λw h=>?_,trivial⟩;refine h.dr λw h=>?_;obtain⟨bt,ala,h,hc2,hback⟩:=h.uI;refine⟨_,O,_,h.aE O,_,O,_,hc2,_,O,_,bB (h.aA O),Th.AP hk.inv.ok h λw h=>?_,trivial⟩;have h:Ow B w0 w (ao bk ((k.eH d.c.obj).cG (k.t.cy d.c.obj).2)::_):=hback _ w _ (pI _ _) h;exact hK w h.sub
theorem Ih{K:U->Pw}(hm:Th.dn k.t)(h:Ow B w0 w (ae bd (ak bk d ec wv wk fs)::ao bk k::R))
  (hK:∀w',Ow B w0 w' (ae bd (ak bk d ec wv wk fs)::ao bk (k.cG (k.t.gP d.c.obj d.call.a).2)::R)->K (k.t.gP d.c.obj d.call.a).1 w'):XI bd.o K w:=by
 apply ah8;refine h.dr λw h=>?_;obtain⟨bt,ala,h,hc2,hback⟩:=(h.pick (A:=ao bk k)).uI;refine⟨_,O,_,h.aE O,_,O,_,hc2,_,O,_,bB (h.aA O),_,O,_,bB (h.aA O),Th.OC hm h λw h=>?_,trivial⟩;have h:=hback _ w _ AF h;exact hK w h.sub
theorem DL{K:U->Pw}(hk:bD N k)(hN:N<=200000)(h:Ow B w0 w (ae bd (ak bk d ec wv (-1) fs)::ao bk k::R))
  (hK:∀w',Ow B w0 w' (ae bd (ak bk d ec wv (k.resume d).2.1 fs)::ao bk (k.resume d).2.2::R)->K (k.resume d).1 w'):XG bd.o K w:=by
 apply ah6;unfold ai.resume at hK;intro k2 hk2;have fin:∀(sb:S)(t:Th.vR)(w:W),t=(if k.t.dC d.c.obj then k.t.th d.c.obj else Th.Nj)->Ow B w0 w (ae sb (Th.gU.enc t)::ae bd (ak bk d ec wv (-1) fs)::ao bk k::R)->k2 sb.p w:=λsb t w ht h=>by
  apply hk2;refine h.l1 O ?_;have hst:(k.t.dC d.c.obj=G/\(k.t.th d.c.obj).st=3)↔t.st=3:=by
   rw[ht];cases hT:k.t.dC d.c.obj with
   |true=>simp
   |false=>
    have:Th.Nj.st≠3:=qb
    simp[this]
  intro k6 hk6;refine dW (λe=>?_) (λe=>?_)
  .rw[Z (hst.2 e)]at hK
   refine h.dr λw h=>?_;refine⟨_,O,_,h.aE O,_,O,_,bB (h.aA O),rW (id:=d.c.obj) h.lI ⟨SY hk.ne hN,SY hk.nn hN⟩ λw h=>?_,trivial⟩;apply hk6;exact⟨_,O,_,bB (h.aA O),nM (k:=k.eH d.c.obj) hk.inv.ok (Ow.sub (L':=ae bd (ak bk d ec wv (-1) fs)::ao bk (k.eH d.c.obj)::R) h) λw h=>hK w h⟩
  .rw[Y (λhh=>e (hst.1 hh))]at hK
   apply hk6;exact⟨_,O,_,bB (h.aA O),nM hk.inv.ok h.drop λw h=>hK w h⟩
 refine h.dr λw h=>?_;obtain⟨bt,ala,h,hc2,hback⟩:=(h.pick (A:=ao bk k)).uI;have hsame:k.cG k.t=k:=rfl;refine⟨_,O,_,h.aE O,_,O,_,hc2,_,O,_,bB (h.aA O),?_,?_,trivial⟩
 .refine Th.uf h λw t ht h=>?_
  have h:=hback _ w _ O h;rw[hsame]at h;refine⟨h.al λw' h=>⟨?_,trivial⟩,trivial⟩
  generalize w.heap.size=sb at h|-;refine h.aB O O λw h=>?_;have h:Ow B w0 w (ae sb (Th.gU.enc t)::_):=h;exact fin sb t w ht h.sub
 .refine h.al λw' h=>⟨?_,trivial⟩
  generalize w.heap.size=sb at h|-;refine Th.uf h.cC λw t ht h=>?_;have h:=hback _ w _ O (h.pick (A:=ala)).cC;rw[hsame]at h;refine⟨h.aB O O λw h=>?_,trivial⟩;have h:Ow B w0 w (ao bk k::ae sb (Th.gU.enc t)::_):=h;exact fin sb t w ht h.sub
theorem u2{K:Pw}(hk:bD N k)(h:Ow B w0 w (ae bd (ak bk d ec wv wk fs)::ao bk k::R))
  (hK:∀w',Ow B w0 w' (ae bd (ak bk d ec wv wk fs)::ao bk (k.rest d)::R)->K w'):abm bd.o K w:=by
 apply aiq;unfold ai.rest at hK;refine⟨_,O,_,bB (h.aA O),pR (λe=>?_) (λe=>?_)⟩
 .rw[Z e]at hK
  refine h.dr λw h=>?_;obtain⟨bt,ala,h,hc2,hback⟩:=(h.pick (A:=ao bk k)).uI;refine⟨_,O,_,h.aE O,_,O,_,hc2,_,O,_,h.aA O,Th.Mh hk.inv.ok h λw h=>?_,trivial⟩;have h:=hback _ w _ xl h;refine h.dr λw h=>?_;obtain⟨bt,ala,h,hc2,hback⟩:=h.uI;refine⟨_,O,_,h.aE O,_,O,_,hc2,_,O,_,h.aA O,Th.jE (hk.inv.block _).ok h λw h=>?_,trivial⟩;have h:=hback _ w _ jt h;exact hK w (Ow.sub (L:=ao bk (k.cG ((k.t.iE d.cur).2.bj d.core))::ae bd (ak bk d ec wv wk fs)::R) h)
 .rw[Y (λhh=>hh e)]at hK
  exact hK w h
theorem Aa{id:U}{m:Je}{K:Pw}(hk:bD N k)(h:Ow B w0 w (ae bd (ak bk d ec wv wk fs)::ao bk k::R))
  (hK:∀w',Ow B w0 w' (ae bd (ak bk d ec wv wk fs)::ao bk (k.kS id m)::R)->K w'):abn bd.o id m.label m.w0 m.w1 m.w2 m.w3 m.aD m.calls K w:=by
 apply air;unfold ai.kS at hK;refine h.a λc0 w1 h=>?_;refine⟨_,h.aA O,_,h.aE O,qb,qb,_,bB (h.aA O),?_⟩;refine h.a λg w2 h=>?_;intro l15 hl15;have one:∀(i:S)(kk:ai)(v:U)(w:W),i<3->Th.bR (-1) kk.t->[m.aD,qA.wrap m.label,m.w0][i]?=X v->Ow B w0 w (ae g [.y m.aD,.y (qA.wrap m.label),.y m.w0]::ae bd (ak bk d ec wv wk fs)::ao bk kk::R)->
   (∀w',Ow B w0 w' (ae g [.y m.aD,.y (qA.wrap m.label),.y m.w0]::ae bd (ak bk d ec wv wk fs)::ao bk (kk.cG (kk.t.pB id (i:U) v).2)::R)->l15 ((i+1:S):U) w')->l15 (i:U) w:=λi kk v w hi hm hv h hnext=>by
  apply hl15;refine az om ?_;obtain⟨bt,ala,h,hc2,hback⟩:=(h.pick (A:=ao bk kk)).uI;have hcell:w.cell? (g.p.add ((i:U).toNat*1))=X (.y v):=by
   refine h.aA ?_;have:i=0\/i=1\/i=2:=om
   rcases this with rfl|rfl|rfl<;>(simp at hv;subst hv;rfl)
  refine⟨_,O,om,om,_,hcell,_,O,_,h.aE O,_,O,_,hc2,Th.NM hm.ok h λw h=>?_⟩;have h:=hback _ w _ mO h;rw[wI i om];exact hnext w h.sub
 refine one 0 k m.aD w2 qb hk.inv O h.vI λw h=>?_;refine one 1 _ _ w qb (hk.inv.DK _ _ _) O h λw h=>?_;refine one 2 _ _ w qb ((hk.inv.DK _ _ _).DK _ _ _) O h λw h=>?_;apply hl15;refine av qb ?_;exact hK w h.drop
theorem bD.iZ(hk:bD N k){n:U}(h0:0<=n)(h1:n<(k.ends.length:U)):k.ends[n.toNat]?=X (k.iZ n)/\(k.iZ n).l.length<=N:=by have hx:k.ends[n.toNat]?=X k.ends[n.toNat]:=gE om;unfold ai.iZ;rw[hx];exact⟨O,hk.el _ (Tq _)⟩
theorem bD.mV(hk:bD N k){n:U}(h0:0<=n)(h1:n<(k.notes.length:U)):k.notes[n.toNat]?=X (k.mV n)/\(k.mV n).l.length<=N:=by have hx:k.notes[n.toNat]?=X k.notes[n.toNat]:=gE om;unfold ai.mV;rw[hx];exact⟨O,hk.nl _ (Tq _)⟩
theorem bD.iR(hk:bD N k){n:U}(h0:0<=n)(h1:n<(k.af.length:U)):k.af[n.toNat]?=X (k.iR n)/\Tb.fV (k.iR n):=by have hx:k.af[n.toNat]?=X k.af[n.toNat]:=gE om;unfold ai.iR;rw[hx];exact⟨O,hk.Cd _ (Tq _)⟩
theorem C3(p:fp)(t:I):(p.first t).2.l.length<=p.l.length:=by
 unfold fp.first
 split
 .exact SA _
 .rename_i o r e
  split
  .dsimp only;rw[e];simp
  .exact SA _
theorem B8(p:fp)(n:U)(m:Je)(wt:I):(p.send n m wt).2.2.l.length<=p.l.length+1:=by
 have:=C3 p qd;unfold fp.send;split
 .exact Ue _
 split
 .rename_i h;rw[h]at this;dsimp only at this|-;omega
 .split
  .simp
  .exact Ue _
theorem B2(p:fp)(n:U)(wt:I):(p.recv n wt).2.2.l.length<=p.l.length+1:=by
 have:=C3 p G;unfold fp.recv;split
 .exact Ue _
 split
 .rename_i h;rw[h]at this;dsimp only at this|-;omega
 .split
  .simp
  .exact Ue _
theorem bD.fk(hk:bD N k){n:U}{p:fp}(hp:p.l.length<=N+1):bD (N+1) (k.fk n p):=by
 have hM:=hk.mono (Ue N);have hG:Gr k (k.fk n p):=⟨SA _,SA _,SA _,by simp[ai.fk],SA _,SA _,SA _,SA _⟩
 refine hM.same (k':=k.fk n p) O O O hG hk.inv hk.ln hk.Jg hk.u hk.Cd hM.nu (by simpa [ai.fk]using hM.ne) hM.nn hM.ns hM.nf hM.nt (λq hq=>?_) hM.nl;rcases TN hq with hq|hq
 .exact hM.el q hq
 .rw[hq];exact hp
theorem bD.ke(hk:bD N k){n:U}{p:rB}(hp:p.l.length<=N+1):bD (N+1) (k.ke n p):=by
 have hM:=hk.mono (Ue N);have hG:Gr k (k.ke n p):=⟨SA _,SA _,SA _,SA _,by simp[ai.ke],SA _,SA _,SA _⟩
 refine hM.same (k':=k.ke n p) O O O hG hk.inv hk.ln (λx hx hx2=>by have:=hk.Jg x hx hx2;simpa [ai.ke]using this) hk.u hk.Cd hM.nu hM.ne (by simpa [ai.ke]using hM.nn) hM.ns hM.nf hM.nt hM.el (λq hq=>?_);rcases TN hq with hq|hq
 .exact hM.nl q hq
 .rw[hq];exact hp
theorem bD.kS(hk:bD N k){id:U}{m:Je}:bD N (k.kS id m):=
 hk.cG (((hk.inv.DK _ _ _).DK _ _ _).DK _ _ _) (by rw[mO,mO,mO];exact SA _)
theorem bD.rest(hk:bD N k):bD N (k.rest d):=by
 unfold ai.rest;split
 .exact hk.cG ((hk.inv.block _).bj _) (by rw[jt,xl];exact SA _)
 .exact hk
theorem bD.eY(hk:bD N k)(id:U):bD N (k.eY id).2.2:=hk.cG (hk.inv.resume id) (by rw[iu];exact SA _)
abbrev Oq(x:Met):J V:=[.bool x.is,.z x.dP,.z x.to,.z x.m.label,.y x.m.w0,.y x.m.w1,.y x.m.w2,.y x.m.w3,.y x.m.aD,.bool x.m.calls]
theorem II{K:U->Pw}(hk:bD N k)(hN:N<=200000)(h0:0<=d.c.obj)(h1:d.c.obj<(k.ends.length:U))(h:Ow B w0 w (ae bd (ak bk d ec 0 (-1) fs)::ao bk k::R))
  (hK:∀w',Ow B w0 w' (ae bd (ak bk d ec 0 (k.send d).1.cv fs)::ao bk (k.send d).2::R)->K (k.send d).1.e w'):XJ bd.o K w:=by
 apply ah9;obtain⟨hp,hpl⟩:=hk.iZ h0 h1;have hse:=B8 (k.iZ d.c.obj) d.cur (ai.fG d) (d.call.c !=0);have hkE:=hk.fk (n:=d.c.obj) (p:=((k.iZ d.c.obj).send d.cur (ai.fG d) (d.call.c !=0)).2.2) om;unfold ai.send at hK;refine h.dr λw h=>?_;refine⟨_,O,_,bB (h.aA O),_,O,_,bB (h.aA O),_,O,_,bB (h.aA O),h.al λw1 h=>⟨?_,trivial⟩,trivial⟩
 generalize w.heap.size=cm at h|-;refine h.aB O O λw h=>?_;intro k11 hk11;have fin:∀(sb:S)(x:Met)(w:W),x=((k.iZ d.c.obj).send d.cur (ai.fG d) (d.call.c !=0)).1->Ow B w0 w (ae sb (Oq x)::ae bd (ak bk d ec 0 (-1) fs)::ao bk (k.fk d.c.obj ((k.iZ d.c.obj).send d.cur (ai.fG d) (d.call.c !=0)).2.2)::R)->k11 sb.p ((k.iZ d.c.obj).send d.cur (ai.fG d) (d.call.c !=0)).2.1 w:=λsb x w hx h=>by
  apply hk11;generalize (k.iZ d.c.obj).send d.cur (ai.fG d) (d.call.c !=0)=P at hx h hK hkE|-;obtain⟨y,e,p'⟩:=P;dsimp only at hx h hK hkE|-;subst hx;by_cases he:e≠0
  .rw[Z he]at hK
   exact iw he (hK w h.drop)
  rw[Y he]at hK;refine fh om (h.l1 O ?_);cases hi:x.is with
  |false=>
   rw[Z hi]at hK;refine aW O ?_;refine u2 hkE h.drop λw h=>?_;exact hK w h
  |true=>
   rw[Y (by rw[hi];decide)]at hK;refine aV O (h.l2 O ?_);refine eA (h.zj O ?_);refine Aa (id:=x.to) (m:=x.m) hkE ((h.pick (A:=ao bk (k.fk d.c.obj p'))).pick (A:=ae bd (ak bk d ec 0 (-1) fs))) λw h=>?_;refine h.l2 O ?_;have hK2:∀w',Ow B w0 w' (ae bd (ak bk d ec 0 (((k.fk d.c.obj p').kS x.to x.m).eY x.to).2.1 fs)::ao bk (((k.fk d.c.obj p').kS x.to x.m).eY x.to).2.2::R)->K (((k.fk d.c.obj p').kS x.to x.m).eY x.to).1 w':=hK;refine nM hkE.kS.inv.ok h λw h=>?_;exact hK2 w h.sub
 refine h.dr λw h=>?_;obtain⟨ss,ps,ala,h,hc2,hpn,hback⟩:=(h.pick (A:=ao bk k)).NF;have hq:ps[d.c.obj.toNat]?=X ps[d.c.obj.toNat]:=gE om;generalize ps[d.c.obj.toNat]=pp at hq;refine⟨_,O,_,h.aE O,_,O,ss,hc2,_,O,_,bB (h.aA O),dG (s:=ss) (i:=d.c.obj) (j:=d.c.obj.toNat) h om hq λa ha hc=>⟨_,hc,?_⟩⟩
 refine⟨_,O,h.l2 O (h.zj O ⟨_,O,_,bB (h.aA O),?_,?_,trivial⟩)⟩
 .have h:=(h.pick (A:=aq da ps k.ends)).vF hq hp
  refine kP (m:=ai.fG d) om h λw x hx h=>?_;have h:=(h.cF hpn hq).cC;have h:Ow B w0 w (ao bk (k.fk d.c.obj ((k.iZ d.c.obj).send d.cur (ai.fG d) (d.call.c !=0)).2.2)::_):=hback _ w _ h;refine⟨h.al λw' h=>⟨?_,trivial⟩,trivial⟩
  generalize w.heap.size=sb at h|-;refine h.aB O O λw h=>?_;exact fin sb x w hx h.sub
 .refine h.al λw' h=>⟨?_,trivial⟩
  generalize w.heap.size=sb at h|-;have h:=(h.pick (A:=aq da ps k.ends)).vF hq hp;refine kP (m:=ai.fG d) om h λw x hx h=>?_;have h:=(h.cF hpn hq)
  have h:Ow B w0 w (ao bk (k.fk d.c.obj ((k.iZ d.c.obj).send d.cur (ai.fG d) (d.call.c !=0)).2.2)::_):=hback _ w _ (h.pick (A:=ala)).cC.yQ;refine⟨h.aB O O λw h=>?_,trivial⟩;exact fin sb x w hx h.sub
theorem Iy{K:U->Pw}(hk:bD N k)(hN:N<=200000)(h0:0<=d.c.obj)(h1:d.c.obj<(k.ends.length:U))(h:Ow B w0 w (ae bd (ak bk d ec 0 (-1) fs)::ao bk k::R))
  (hK:∀w',Ow B w0 w' (ae bd (ak bk d ec 0 (k.recv d).1.cv fs)::ao bk (k.recv d).2::R)->K (k.recv d).1.e w'):XK bd.o K w:=by
 apply aia;obtain⟨hp,hpl⟩:=hk.iZ h0 h1;have hse:=B2 (k.iZ d.c.obj) d.cur (d.call.c !=0);have hkE:=hk.fk (n:=d.c.obj) (p:=((k.iZ d.c.obj).recv d.cur (d.call.c !=0)).2.2) om;unfold ai.recv at hK;intro k11 hk11;have fin:∀(sb:S)(x:Met)(w:W),x=((k.iZ d.c.obj).recv d.cur (d.call.c !=0)).1->Ow B w0 w (ae sb (Oq x)::ae bd (ak bk d ec 0 (-1) fs)::ao bk (k.fk d.c.obj ((k.iZ d.c.obj).recv d.cur (d.call.c !=0)).2.2)::R)->k11 sb.p ((k.iZ d.c.obj).recv d.cur (d.call.c !=0)).2.1 w:=λsb x w hx h=>by
  apply hk11;generalize (k.iZ d.c.obj).recv d.cur (d.call.c !=0)=P at hx h hK hkE|-;obtain⟨y,e,p'⟩:=P;dsimp only at hx h hK hkE|-;subst hx;by_cases he:e≠0
  .rw[Z he]at hK
   exact iw he (hK w h.drop)
  rw[Y he]at hK;refine fh om (h.l1 O ?_);cases hi:x.is with
  |false=>
   rw[Z hi]at hK;refine aW O ?_;refine u2 hkE h.drop λw h=>?_;exact hK w h
  |true=>
   rw[Y (by rw[hi];decide)]at hK;refine aV O ?_;refine h.dr λw h=>?_;refine⟨_,O,h.l2 O (eA (h.zj O ⟨Aa (id:=d.cur) (m:=x.m) hkE ((h.pick (A:=ao bk (k.fk d.c.obj p'))).pick (A:=ae bd (ak bk d ec 0 (-1) fs))) λw h=>?_,trivial⟩))⟩;refine h.l2 O ?_;have hK2:∀w',Ow B w0 w' (ae bd (ak bk d ec 0 (((k.fk d.c.obj p').kS d.cur x.m).eY x.dP).2.1 fs)::ao bk (((k.fk d.c.obj p').kS d.cur x.m).eY x.dP).2.2::R)->K (((k.fk d.c.obj p').kS d.cur x.m).eY x.dP).1 w':=hK;refine nM hkE.kS.inv.ok h λw h=>?_;exact hK2 w h.sub
 refine h.dr λw h=>?_;obtain⟨ss,ps,ala,h,hc2,hpn,hback⟩:=(h.pick (A:=ao bk k)).NF;have hq:ps[d.c.obj.toNat]?=X ps[d.c.obj.toNat]:=gE om;generalize ps[d.c.obj.toNat]=pp at hq;refine⟨_,O,_,h.aE O,_,O,ss,hc2,_,O,_,bB (h.aA O),dG (s:=ss) (i:=d.c.obj) (j:=d.c.obj.toNat) h om hq λa ha hc=>⟨_,hc,?_⟩⟩
 refine⟨_,O,_,h.aA O,_,O,_,bB (h.aA O),?_,?_,trivial⟩
 .have h:=(h.pick (A:=aq da ps k.ends)).vF hq hp
  refine kO om h λw x hx h=>?_;have h:=(h.cF hpn hq).cC;have h:Ow B w0 w (ao bk (k.fk d.c.obj ((k.iZ d.c.obj).recv d.cur (d.call.c !=0)).2.2)::_):=hback _ w _ h;refine⟨h.al λw' h=>⟨?_,trivial⟩,trivial⟩
  generalize w.heap.size=sb at h|-;refine h.aB O O λw h=>?_;exact fin sb x w hx h.sub
 .refine h.al λw' h=>⟨?_,trivial⟩
  generalize w.heap.size=sb at h|-;have h:=(h.pick (A:=aq da ps k.ends)).vF hq hp;refine kO om h λw x hx h=>?_;have h:=(h.cF hpn hq)
  have h:Ow B w0 w (ao bk (k.fk d.c.obj ((k.iZ d.c.obj).recv d.cur (d.call.c !=0)).2.2)::_):=hback _ w _ (h.pick (A:=ala)).cC.yQ;refine⟨h.aB O O λw h=>?_,trivial⟩;exact fin sb x w hx h.sub
theorem IM(n:rB)(g:U):(n.bq g).2.l.length<=n.l.length:=by
 unfold rB.bq;split
 .rename_i x r e;dsimp only;rw[e];simp
 .rename_i e;dsimp only;rw[e];simp
theorem Cq(n:rB)(who:U)(wt:I):(n.wait who wt).2.l.length<=n.l.length+1:=by
 unfold rB.wait;split
 .exact Ue _
 split
 .exact Ue _
 .dsimp only
  split
  .simp
  .exact Ue _
theorem pG{n g:U}{K:U->Pw}(hk:bD N k)(hN:N<=200000)(h0:0<=n)(h1:n<(k.notes.length:U))(h:Ow B w0 w (ao bk k::R))
  (hK:∀w',Ow B w0 w' (ao bk (k.bq n g).2::R)->K (k.bq n g).1 w'):Y7 bk.o n g K w:=by
 apply agz;obtain⟨hp,hpl⟩:=hk.mV h0 h1;unfold ai.bq at hK;obtain⟨ss,ps,ala,h,hc2,hpn,hback⟩:=h.Ku;have hq:ps[n.toNat]?=X ps[n.toNat]:=gE om;generalize ps[n.toNat]=pp at hq;refine⟨_,O,ss,hc2,dG (s:=ss) (i:=n) (j:=n.toNat) h om hq λa ha hc=>⟨_,hc,?_⟩⟩
 have h:=(h.pick (A:=aq cu ps k.notes)).vF hq hp;refine sv h λw h=>?_;have h:=(h.cF hpn hq).cC;have h:Ow B w0 w (ao bk (k.ke n ((k.mV n).bq g).2)::R):=hback _ w _ h;cases hs:((k.mV n).bq g).1 with
 |none=>
  rw[hs]at hK;exact aW O (hK w h)
 |some who=>
  rw[hs]at hK;refine aV O ?_;obtain⟨bt,ala,h,hc2,hback⟩:=h.uI;refine⟨_,O,_,hc2,Th.NM hk.inv.ok h λw h=>?_⟩;have h:=hback _ w _ mO h;obtain⟨bt,ala,h,hc2,hback⟩:=h.uI;refine⟨_,O,_,hc2,Th.yg (hk.inv.DK _ _ _).ok h λw h=>?_⟩;have h:=hback _ w _ iu h;exact hK w h
theorem yw{K:U->Pw}(hk:bD N k)(hN:N<=200000)(h0:0<=d.c.obj)(h1:d.c.obj<(k.notes.length:U))(h:Ow B w0 w (ae bd (ak bk d ec wv wk fs)::ao bk k::R))
  (hK:∀w',Ow B w0 w' (ae bd (ak bk d ec wv (k.bq d.c.obj d.c.aD).1 fs)::ao bk (k.bq d.c.obj d.c.aD).2::R)->K 0 w'):XL bd.o K w:=by
 apply aib;refine h.dr λw h=>?_;refine⟨_,O,_,h.aE O,_,O,_,bB (h.aA O),_,O,_,bB (h.aA O),pG hk hN h0 h1 h.cC λw h=>?_,trivial⟩;refine⟨_,O,ji (h.fD O O λw h=>?_),trivial⟩
 (try dsimp only[cr,ak,putAt,Tu,S1,SS]at h)
 exact hK w h.sub
theorem I7{K:U->Pw}(hk:bD N k)(hN:N<=200000)(h0:0<=d.c.obj)(h1:d.c.obj<(k.notes.length:U))(h:Ow B w0 w (ae bd (ak bk d ec 0 wk fs)::ao bk k::R))
  (hK:∀w',Ow B w0 w' (ae bd (ak bk d ec (k.wait d).1.w wk fs)::ao bk (k.wait d).2::R)->K (k.wait d).1.e w'):XM bd.o K w:=by
 apply aic;obtain⟨hp,hpl⟩:=hk.mV h0 h1;have hwl:=Cq (k.mV d.c.obj) d.cur (d.call.c !=0);have hkN:=hk.ke (n:=d.c.obj) (p:=((k.mV d.c.obj).wait d.cur (d.call.c !=0)).2) om;unfold ai.wait at hK;refine h.dr λw h=>?_;obtain⟨ss,ps,ala,h,hc2,hpn,hback⟩:=(h.pick (A:=ao bk k)).Ku;have hq:ps[d.c.obj.toNat]?=X ps[d.c.obj.toNat]:=gE om;generalize ps[d.c.obj.toNat]=pp at hq;refine⟨_,O,_,h.aE O,_,O,ss,hc2,_,O,_,bB (h.aA O),dG (s:=ss) (i:=d.c.obj) (j:=d.c.obj.toNat) h om hq λa ha hc=>⟨_,hc,?_⟩⟩
 refine⟨_,O,_,h.aA O,_,O,_,bB (h.aA O),?_,trivial⟩;have h:=(h.pick (A:=aq cu ps k.notes)).vF hq hp;refine uT om h λw h=>?_;have h:=(h.cF hpn hq).cC;have h:Ow B w0 w (ao bk (k.ke d.c.obj ((k.mV d.c.obj).wait d.cur (d.call.c !=0)).2)::ae bd (ak bk d ec 0 wk fs)::R):=hback _ w _ h;generalize (k.mV d.c.obj).wait d.cur (d.call.c !=0)=P at h hK hkN|-;obtain⟨⟨y,is,e⟩,p'⟩:=P;dsimp only at h hK hkN|-;by_cases he:e≠0
 .rw[Z he]at hK
  exact iw he (hK w h.cC)
 rw[Y he]at hK;refine fh om ?_;intro k19 hk19;have fin:∀(k':ai)(w:W),(∀w',Ow B w0 w' (ae bd (ak bk d ec y wk fs)::ao bk k'::R)->K 0 w')->Ow B w0 w (ae bd (ak bk d ec 0 wk fs)::ao bk k'::R)->k19 w:=λk' w hK h=>by
  apply hk19;refine⟨_,O,ji (h.fD O O λw h=>?_)⟩
  (try dsimp only[cr,ak,putAt,Tu,S1,SS]at h)
  exact hK w h
 cases is with
 |false=>
  refine aW O ?_;refine u2 hkN h.cC λw h=>?_;exact fin _ w (λw' h=>hK w' h) h
 |true=>
  refine aV O ?_;exact fin _ w (λw' h=>hK w' h) h.cC
theorem F4{K:U->Pw}(hk:bD N k)(h:Ow B w0 w (ae bd (ak bk d ec wv wk fs)::ao bk k::R))
  (hK:∀w',Ow B w0 w' (ae bd (ak bk d ec wv wk fs)::ao bk (k.table d).2::R)->K (k.table d).1.e w'):XN bd.o K w:=by
 apply aid;unfold ai.table at hK;intro k2 hk2;have fbad:k.dT d.call.ay 8=qd->∀(sb:qf)(w:W),Ow B w0 w (ae bd (ak bk d ec wv wk fs)::ao bk k::R)->k2 sb qd w:=λhB sb w h=>by rw[Z hB]at hK;apply hk2;exact aW O (hK w h)
 have fgood:k.dT d.call.ay 8=G->∀(sb:S)(c:dB)(w:W),c=k.bm d.call.ay->Ow B w0 w (ae sb c.cells::ae bd (ak bk d ec wv wk fs)::ao bk k::R)->k2 sb.p G w:=λhB sb c w hc h=>by
  rw[Y (by rw[hB];decide)]at hK;dsimp only[ai.tell]at hK;obtain⟨hb1,hb2⟩:=jm hB;obtain⟨_,_,ho,_,_⟩:=hk.cap hb1;rw[<-hc]at ho hb2 hK;have o0:=ho.1;have o1:=ho.2.2.2.2.2.2.2.2.1 (hb2 qb);obtain⟨hp,hsk⟩:=hk.iR o0 o1;apply hk2;refine aV O ?_;refine h.dr λw h=>?_;obtain⟨ss,ps,ala,h,hc2,hpn,hback⟩:=(h.pick (A:=ao bk k)).pY;have hq:ps[c.obj.toNat]?=X ps[c.obj.toNat]:=gE om;generalize ps[c.obj.toNat]=pp at hq;refine⟨_,O,_,h.aE O,_,O,ss,hc2,h.l2 O (dG (s:=ss) (i:=c.obj) (j:=c.obj.toNat) h om hq λa ha hcc=>⟨_,hcc,?_⟩)⟩
  refine⟨_,O,_,bB (h.aA O),_,O,_,bB (h.aA O),?_,trivial⟩;have h:=(h.pick (A:=aq Tb.bP ps k.af)).vF hq hp;refine Tb.EA h λw h=>?_;have h:=(h.cF hpn hq).cC;have h:Ow B w0 w (ao bk (k.mi c.obj ((k.iR c.obj).iX d.call.a d.c.obj).2)::_):=hback _ w _ h;exact hK w h.sub
 refine h.dr λw h=>?_;refine⟨_,O,_,h.aE O,_,O,_,bB (h.aA O),?_⟩
 (repeat' (first|exact trivial|(exact fbad (by assumption) _ _ h.sub)|(exact fgood (by assumption) _ _ _ (by assumption) h.sub)|(refine pV hk (h.pick (A:=ao bk k)) (λhB s c w h=>?_) (λhB w c hc h=>?_))|(refine h.al λw h=>?_)|(refine h.dr λw h=>?_)|(refine h.aM O ?_)|(refine h.eE O ?_)|(refine h.l1 O ?_)|(refine h.l2 O ?_)|(refine h.hd O ?_)|(refine⟨h.aE O,?_⟩)|(refine⟨h.aA O,?_⟩)|((refine h.aB O O λw h=>?_);(try dsimp only[putAt,Tu,S1]at h))|(refine fy ?_)|(refine _root_.Go.Vc.a2 ?_)|(refine h.jD O O λw h=>?_)|(refine h.fD O O λw h=>?_)|(refine And.intro ?_ ?_)))
theorem Dv{K:U->Pw}(hk:bD N k)(h:Ow B w0 w (ae bd (ak bk d ec wv wk fs)::ao bk k::R))
  (hK:∀w',Ow B w0 w' (ae bd (ak bk d ec wv wk fs)::ao bk (k.mapped d).2::R)->K (k.mapped d).1.e w'):XO bd.o K w:=by
 apply aie;unfold ai.mapped at hK;intro k2 hk2;have fbad:k.dT d.call.ay 8=qd->∀(sb:qf)(w:W),Ow B w0 w (ae bd (ak bk d ec wv wk fs)::ao bk k::R)->k2 sb qd w:=λhB sb w h=>by rw[Z hB]at hK;apply hk2;exact aW O (hK w h)
 have fgood:k.dT d.call.ay 8=G->∀(sb:S)(c:dB)(w:W),c=k.bm d.call.ay->Ow B w0 w (ae sb c.cells::ae bd (ak bk d ec wv wk fs)::ao bk k::R)->k2 sb.p G w:=λhB sb c w hc h=>by
  rw[Y (by rw[hB];decide)]at hK;dsimp only[ai.tell]at hK;obtain⟨hb1,hb2⟩:=jm hB;obtain⟨_,_,ho,_,_⟩:=hk.cap hb1;rw[<-hc]at ho hb2 hK;have o0:=ho.1;have o1:=ho.2.2.2.2.2.2.2.2.1 (hb2 qb);obtain⟨hp,hsk⟩:=hk.iR o0 o1;apply hk2;refine aV O ?_;refine h.dr λw h=>?_;obtain⟨ss,ps,ala,h,hc2,hpn,hback⟩:=(h.pick (A:=ao bk k)).pY;have hq:ps[c.obj.toNat]?=X ps[c.obj.toNat]:=gE om;generalize ps[c.obj.toNat]=pp at hq;refine⟨_,O,_,h.aE O,_,O,ss,hc2,h.l2 O (dG (s:=ss) (i:=c.obj) (j:=c.obj.toNat) h om hq λa ha hcc=>⟨_,hcc,?_⟩)⟩
  have h:=(h.pick (A:=aq Tb.bP ps k.af)).vF hq hp;have fin:∀w,Ow B w0 w (Tb.bP pp ((k.iR c.obj).ph d.call.a (d.c.obj,fE .i64 d.c.ar d.call.b)).2::aQ ((SC Tb.bP ps k.af).eraseIdx c.obj.toNat)::ag bw ss ps::ala::ae bd (ak bk d ec wv wk fs)::R)->K ((k.iR c.obj).ph d.call.a (d.c.obj,fE .i64 d.c.ar d.call.b)).1 w:=λw h=>by have h:=(h.cF hpn hq).cC;have h:Ow B w0 w (ao bk (k.mi c.obj ((k.iR c.obj).ph d.call.a (d.c.obj,fE .i64 d.c.ar d.call.b)).2)::_):=hback _ w _ h;exact hK w h.sub
  have go:∀w,Ow B w0 w (Tb.bP pp (k.iR c.obj)::aQ ((SC Tb.bP ps k.af).eraseIdx c.obj.toNat)::ag bw ss ps::ala::ae bd (ak bk d ec wv wk fs)::R)->X2 pp.o d.call.a d.c.obj (fE .i64 d.c.ar d.call.b) (λr w=>K r w) w:=λw h=>Tb.Jp (p:=(d.c.obj,fE .i64 d.c.ar d.call.b)) h λw h=>fin w h;have rd:∀{w:W},Ow B w0 w (ae bd (ak bk d ec wv wk fs)::R)->qu:=λ_=>trivial;refine⟨_,O,_,bB (h.aA O),_,O,_,bB (h.aA O),_,O,_,bB (h.aA O),_,O,_,bB (h.aA O),?_⟩
  (repeat' (first|exact trivial|(exact go _ h.sub)|(refine h.al λw h=>?_)|(refine h.dr λw h=>?_)|(refine h.aM O ?_)|(refine h.eE O ?_)|(refine h.l1 O ?_)|(refine h.l2 O ?_)|(refine h.hd O ?_)|(refine⟨h.aE O,?_⟩)|(refine⟨h.aA O,?_⟩)|((refine h.aB O O λw h=>?_);(try dsimp only[putAt,Tu,S1]at h))|(refine fy ?_)|(refine _root_.Go.Vc.a2 ?_)|(refine h.jD O O λw h=>?_)|(refine h.fD O O λw h=>?_)|(refine And.intro ?_ ?_)))
 refine h.dr λw h=>?_;refine⟨_,O,_,h.aE O,_,O,_,bB (h.aA O),?_⟩
 (repeat' (first|exact trivial|(exact fbad (by assumption) _ _ h.sub)|(exact fgood (by assumption) _ _ _ (by assumption) h.sub)|(refine pV hk (h.pick (A:=ao bk k)) (λhB s c w h=>?_) (λhB w c hc h=>?_))|(refine h.al λw h=>?_)|(refine h.dr λw h=>?_)|(refine h.aM O ?_)|(refine h.eE O ?_)|(refine h.l1 O ?_)|(refine h.l2 O ?_)|(refine h.hd O ?_)|(refine⟨h.aE O,?_⟩)|(refine⟨h.aA O,?_⟩)|((refine h.aB O O λw h=>?_);(try dsimp only[putAt,Tu,S1]at h))|(refine fy ?_)|(refine _root_.Go.Vc.a2 ?_)|(refine h.jD O O λw h=>?_)|(refine h.fD O O λw h=>?_)|(refine And.intro ?_ ?_)))
theorem Hw{K:U->Pw}(hk:bD N k)(h:Ow B w0 w (ae bd (ak bk d ec wv wk fs)::ao bk k::R))
  (hK:∀w',Ow B w0 w' (ae bd (ak bk d ec wv wk fs)::ao bk (k.bind d).2::R)->K (k.bind d).1.e w'):XQ bd.o K w:=by
 apply aih;unfold ai.bind at hK;intro k2 hk2;have fbad:k.dT d.call.ay 5=qd->∀(sb:qf)(w:W),Ow B w0 w (ae bd (ak bk d ec wv wk fs)::ao bk k::R)->k2 sb qd w:=λhB sb w h=>by rw[Z hB]at hK;apply hk2;exact aW O (hK w h)
 have fgood:k.dT d.call.ay 5=G->∀(sb:S)(c:dB)(w:W),c=k.bm d.call.ay->Ow B w0 w (ae sb c.cells::ae bd (ak bk d ec wv wk fs)::ao bk k::R)->k2 sb.p G w:=λhB sb c w hc h=>by
  rw[Y (by rw[hB];decide)]at hK;dsimp only[ai.tell]at hK;rw[<-hc]at hK;apply hk2;refine aV O ?_;refine h.dr λw h=>?_;obtain⟨bl,ala,h,hc2,hback⟩:=(h.pick (A:=ao bk k)).E6;refine⟨_,O,_,h.aE O,_,O,_,hc2,_,O,_,bB (h.aA O),_,h.aA O,_,h.aA O,zg h λw h=>?_,trivial⟩;have h:=hback _ w _ h;exact hK w (Ow.sub (L:=ao bk { k with ln:=(oF k.ln d.c.obj c.obj c.aD).2}::ae sb c.cells::ae bd (ak bk d ec wv wk fs)::R) h)
 refine h.dr λw h=>?_;refine⟨_,O,_,h.aE O,_,O,_,bB (h.aA O),?_⟩
 (repeat' (first|exact trivial|(exact fbad (by assumption) _ _ h.sub)|(exact fgood (by assumption) _ _ _ (by assumption) h.sub)|(refine pV hk (h.pick (A:=ao bk k)) (λhB s c w h=>?_) (λhB w c hc h=>?_))|(refine h.al λw h=>?_)|(refine h.dr λw h=>?_)|(refine h.aM O ?_)|(refine h.eE O ?_)|(refine h.l1 O ?_)|(refine h.l2 O ?_)|(refine h.hd O ?_)|(refine⟨h.aE O,?_⟩)|(refine⟨h.aA O,?_⟩)|((refine h.aB O O λw h=>?_);(try dsimp only[putAt,Tu,S1]at h))|(refine fy ?_)|(refine _root_.Go.Vc.a2 ?_)|(refine h.jD O O λw h=>?_)|(refine h.fD O O λw h=>?_)|(refine And.intro ?_ ?_)))
theorem F5{K:U->Pw}(hk:bD N k)(h0:0<=d.c.obj)(h1:d.c.obj<(k.af.length:U))(h:Ow B w0 w (ae bd (ak bk d ec wv wk fs)::ag au fs []::ao bk k::R))
  (hK:∀fs' w',Ow B w0 w' (ae bd (ak bk d ec wv wk fs')::ag au fs' (k.mU d).1.forget::ao bk (k.mU d).2::R)->K (k.mU d).1.e w'):XP bd.o K w:=by
 apply aif;unfold ai.mU at hK;obtain⟨hp,hsk⟩:=hk.iR h0 h1;intro k2 hk2;have fin:∀(sb:S)(w:W),Ow B w0 w (ae sb [.z ((k.iR d.c.obj).cJ d.call.a).1.1,.z ((k.iR d.c.obj).cJ d.call.a).1.2]::ae bd (ak bk d ec wv wk fs)::ag au fs []::ao bk (k.mi d.c.obj ((k.iR d.c.obj).cJ d.call.a).2.2)::R)->k2 sb.p ((k.iR d.c.obj).cJ d.call.a).2.1 w:=λsb w h=>by
  apply hk2;dsimp only at hK;refine dW (λe=>?_) (λe=>?_)
  .rw[Z e]at hK
   refine h.dr λw h=>?_;refine⟨_,O,_,bB (h.aA O),_,O,_,bB (h.aA O),h.aM O ⟨nj (sp:=d.c.obj) (l:=(d.call.a,((k.iR d.c.obj).cJ d.call.a).1)) (F:=[]) qc ((h.pick (A:=ag au fs [])).pick (A:=ae bd (ak bk d ec wv wk fs))) λfs' w h=>?_,trivial⟩⟩;exact hK fs' w (Ow.sub (L:=ae bd (ak bk d ec wv wk fs')::ag au fs' [⟨d.c.obj,d.call.a,((k.iR d.c.obj).cJ d.call.a).1.1,((k.iR d.c.obj).cJ d.call.a).1.2⟩]::ae sb [.z ((k.iR d.c.obj).cJ d.call.a).1.1,.z ((k.iR d.c.obj).cJ d.call.a).1.2]::ao bk (k.mi d.c.obj ((k.iR d.c.obj).cJ d.call.a).2.2)::R) h)
  .rw[Y e]at hK
   exact hK fs w h.drop
 refine h.dr λw h=>?_;obtain⟨ss,ps,ala,h,hc2,hpn,hback⟩:=(h.pick (A:=ao bk k)).pY;have hq:ps[d.c.obj.toNat]?=X ps[d.c.obj.toNat]:=gE om;generalize ps[d.c.obj.toNat]=pp at hq;refine⟨_,O,_,h.aE O,_,O,ss,hc2,_,O,_,bB (h.aA O),dG (s:=ss) (i:=d.c.obj) (j:=d.c.obj.toNat) h om hq λa ha hcc=>⟨_,hcc,?_⟩⟩
 refine⟨_,O,_,bB (h.aA O),?_,?_,trivial⟩
 .have h:=(h.pick (A:=aq Tb.bP ps k.af)).vF hq hp
  refine Tb.rR h λw h=>?_;have h:=(h.cF hpn hq).cC;have h:Ow B w0 w (ao bk (k.mi d.c.obj ((k.iR d.c.obj).cJ d.call.a).2.2)::_):=hback _ w _ h;refine⟨h.al λw' h=>⟨?_,trivial⟩,trivial⟩
  generalize w.heap.size=sb at h|-;refine h.aB O O λw h=>?_;exact fin sb w h.sub
 .refine h.al λw' h=>⟨?_,trivial⟩
  generalize w.heap.size=sb at h|-;have h:=(h.pick (A:=aq Tb.bP ps k.af)).vF hq hp;refine Tb.rR h λw h=>?_;have h:=(h.cF hpn hq)
  have h:Ow B w0 w (ao bk (k.mi d.c.obj ((k.iR d.c.obj).cJ d.call.a).2.2)::_):=hback _ w _ (h.pick (A:=ala)).cC.yQ;refine⟨h.aB O O λw h=>?_,trivial⟩;exact fin sb w h.sub
theorem bD.E9(hk:bD N k){n:U}{x:Ln}(hx:lL k.ln n=X x):x∈k.ln:=SU (tC hx).2
theorem sD(hk:bD N k){n:U}{y:U × U}(h:(fA k.ln n).1.1=X y):0<=y.1/\y.1<(k.notes.length:U):=by
 unfold fA at h;cases hx:lL k.ln n with
 |none=>rw[hx]at h;cases h
 |some x=>
  rw[hx]at h;dsimp only at h;split at h
  .rename_i e
   cases h;exact hk.Jg x (hk.E9 hx) om
  .split at h<;>cases h
theorem xg(hk:bD N k){n:U}{y:U × U}(h:(jG k.ln n).1.1=X y):0<=y.1/\y.1<(k.notes.length:U):=by
 unfold jG at h;cases hx:lL k.ln n with
 |none=>rw[hx]at h;cases h
 |some x=>
  rw[hx]at h;dsimp only at h;split at h
  .rename_i e
   cases h;exact hk.Jg x (hk.E9 hx) om
  .split at h<;>cases h
theorem bD.Sa(hk:bD N k){l:y7}(hl:l.length=8)(hb:∀x∈l,x.is≠0->0<=x.note/\x.note<(k.notes.length:U)):bD N { k with ln:=l}:=
 hk.same (k':={ k with ln:=l}) O O O ⟨SA _,SA _,SA _,SA _,SA _,SA _,SA _,SA _⟩ hk.inv hl hb hk.u hk.Cd hk.nu hk.ne hk.nn hk.ns hk.nf hk.nt hk.el hk.nl
theorem bD.GF(hk:bD N k){n:U}{x:Ln}(hx:lL k.ln n=X x)(v:U)(h0:x.is≠0):bD N { k with ln:=k.ln.set n.toNat { x with is:=v}}:=
 hk.Sa (by rw[Ti];exact hk.ln) λy hy hy2=>by
  rcases TN hy with hy|hy
  .exact hk.Jg y hy hy2
  .rw[hy];exact hk.Jg x (hk.E9 hx) h0
theorem bD.raise(hk:bD N k){n:U}:bD N { k with ln:=(fA k.ln n).2}:=by
 unfold fA;cases hx:lL k.ln n with
 |none=>exact hk
 |some x=>
  dsimp only;split
  .exact hk.GF hx 2 om
  split
  .exact hk.GF hx 3 om
  .exact hk
theorem bD.Qi(hk:bD N k){n:U}:bD N { k with ln:=(jG k.ln n).2}:=by
 unfold jG;cases hx:lL k.ln n with
 |none=>exact hk
 |some x=>
  dsimp only;split
  .exact hk.GF hx 2 om
  split
  .exact hk.GF hx 1 om
  .exact hk
theorem bD.bq(hk:bD N k){n g:U}(h0:0<=n)(h1:n<(k.notes.length:U)):bD (N+1) (k.bq n g).2:=by
 obtain⟨hp,hpl⟩:=hk.mV h0 h1;have hs:=IM (k.mV n) g;have hN:=hk.ke (n:=n) (p:=((k.mV n).bq g).2) om;unfold ai.bq;split
 .exact hN
 .exact hN.cG ((hk.inv.DK _ _ _).resume _) (by rw[iu,mO];exact SA _)
theorem Ju{K:U->Pw}(hk:bD N k)(hN:N<=200000)(h:Ow B w0 w (ae bd (ak bk d ec wv (-1) fs)::ao bk k::R))
  (hK:∀w',Ow B w0 w' (ae bd (ak bk d ec wv (k.iK (jG k.ln d.c.obj)).2.1 fs)::ao bk (k.iK (jG k.ln d.c.obj)).2.2::R)->K (k.iK (jG k.ln d.c.obj)).1 w'):XR bd.o K w:=by
 apply aii;have hka:=hk.Qi (n:=d.c.obj);have hno:=λy=>xg (y:=y) hk (n:=d.c.obj);unfold ai.iK at hK;refine h.dr λw h=>?_;obtain⟨bl,ala,h,hc2,hback⟩:=(h.pick (A:=ao bk k)).E6;refine⟨_,O,_,h.aE O,_,O,_,hc2,_,O,_,bB (h.aA O),Bw h λw h=>?_,trivial⟩;have h:=hback _ w _ h;generalize jG k.ln d.c.obj=P at h hK hka hno|-;obtain⟨⟨o,e⟩,l⟩:=P;cases o with
 |none=>exact aV O (hK w h.cC)
 |some y=>
  obtain⟨n0,n1⟩:=hno y O;refine aW O ⟨_,O,h.l1 O ?_⟩;refine pG (n:=y.1) (g:=y.2) hka hN n0 n1 h λw h=>?_;refine⟨_,O,ji (h.fD O O λw h=>?_)⟩
  (try dsimp only[cr,ak,putAt,Tu,S1,SS]at h)
  exact hK w h.cC
theorem Kq{line:U}{K:U->U->Pw}(hk:bD N k)(hN:N<=200000)(h:Ow B w0 w (ao bk k::R))
  (hK:∀w',Ow B w0 w' (ao bk (k.irq line).2.2::R)->K (k.irq line).2.1 (k.irq line).1 w'):Yo bk.o line K w:=by
 apply agr;have hka:=hk.raise (n:=line);have hno:=λy=>sD (y:=y) hk (n:=line);unfold ai.irq ai.iK at hK;obtain⟨bl,ala,h,hc2,hback⟩:=h.E6;refine⟨_,O,_,hc2,xz h λw h=>?_⟩;have h:=hback _ w _ h;generalize fA k.ln line=P at h hK hka hno|-;obtain⟨⟨o,e⟩,l⟩:=P;cases o with
 |none=>exact aW O (hK w h)
 |some y=>
  obtain⟨n0,n1⟩:=hno y O;refine aV O ?_;exact pG (n:=y.1) (g:=y.2) hka hN n0 n1 h λw h=>hK w h
def lK(k:S)(o:Obj):aG where
 holds alc w:=alc k/\w.heap[k]?=X o
 loc alc w w' h hk:=⟨h.1,by rw[hk k h.1];exact h.2⟩
 up alc G' w h hk:=⟨hk k h.1,h.2⟩
theorem Ow.obj{k:S}{o:Obj}(h:Ow B w0 w (lK k o::R)):w.heap[k]?=X o:=h.head λ_ h=>h.2
theorem Ow.putObj{k:S}{o:Obj}(o':Obj)(h:Ow B w0 w (lK k o::R)):Ow B w0 (w.putObj k o') (lK k o'::R):=by
 have hk:=h.obj;have hlt:k<w.heap.size:=(Te.1 hk).1;refine h.step λalc hA hG=>⟨⟨O,O,O,qc,λj _ hj=>?_⟩,alc,⟨hA.1,World.putObj_heap_same hlt⟩,λj hj=>⟨.inl hj,by have:=(hG j hj).2;simpa using this⟩⟩
 exact World.putObj_heap_other λe=>hj (by rw[e];exact hA.1)
theorem Ow.newObj(o:Obj)(h:Ow B w0 w R):Ow B w0 (w.alloc o) (lK w.heap.size o::R):=
 h.new (A':=lK w.heap.size o) (G':=λk=>k=w.heap.size) (ff _ _) ⟨O,World.alloc_heap_new _ _⟩ λk e=>⟨om,by rw[e];simp⟩
theorem Iv{α:Type}{g:qD}{ps:qw Tmp}{assign body:Code}{alf:Exit->Act->Pw}{a:Act}
  (hro:F.round=Q) (h1:1<=n) {gf:S} {lb:qw V} (hg:a.eval g= .func (.func gf) #[] lb) (hFg:F.fn gf) (eg:∀args w,(callFunc gf args).run P w= .ok (.enter gf args) w)
  (encs:α->qw V) (hps:∀x,(encs x).size=ps.size) (xs:J α) (ale:J α->aG) (Ax:Act->α->aG) (Reads:Pw)
  (h0:Ow B w0 w (ale []::L))
  (hreads:∀(ald:J aG)pre alb,Ow B w0 alb (ale pre::ald++L)->Reads alb)
  (hseq:∀(l:S)(ak8:J α->Pw)(ak9:W),
   (∀pre alb V',ak8 pre alb->iA No alb V'->ak8 pre V')->(∀pre alb,ak8 pre alb->Reads alb)->
   (∀pre x alb,ak8 pre alb->(pre++ [x]) <+: xs->YieldAt F (n-1-1) P l (encs x) alb λe V'=>e= .returned (.bool G)/\ak8 (pre++ [x]) V')->
   ak8 [] ak9->CallsIn F (n-1) P gf (#[.func (.yield l) #[] #[]]++lb) ak9 λe W'=>(∃v,e= .returned v)/\ak8 xs W')
  (hassign:∀(l:S)(ald:J aG)(pre:J α)(x:α)(alb:W)(K:Act->Pw),Ow B w0 alb (ale pre::ald++L)->(∀a' V',Ow B w0 V' (Ax a' x::ale pre::ald++L)->K a' V')->
   assign.wpIn (F.inRound l) (n-1-1) P (Exit.then K (λ_ _ _=>qm)) { tmps:=(ps.zip (encs x)).foldl (λt(p,v)=>t.setIfInBounds p v) a.tmps,defers:=[]} alb)
  (hbody:∀(l:S)(ald:J aG)(pre:J α)(x:α)(a':Act)(alb:W),(pre++ [x]) <+: xs->Ow B w0 alb (Ax a' x::ale pre::ald++L)->
   body.wpIn (F.inRound l) (n-1-1) P (λe _ V'=>e= .normal/\Ow B w0 V' (ale (pre++ [x])::ald++L)) a' alb)
  (hdone:∀(D:S)(alb:W),Ow B w0 alb (lK D (.deferred (X []))::ale xs::L)->alf .normal { a with defers:={ target:= .collected D,args:= #[]}::a.defers} alb):
  (Code.rangeFunc g ps assign body).wpIn F n P alf a w:=by
 refine wpIn_rangeFunc λfn hfn=>?_;rw[hro];obtain⟨rec,hrec⟩:∃rec:LoopState->Loop,rec=λst=>{ state:=st,pending:=Q,fn,tmps:=a.tmps,params:=ps,assign,body,defers:=w.heap.size}:=⟨_,O⟩
 obtain⟨W1,hW1⟩:∃W1,(w.alloc (.deferred (X []))).alloc (.loop (rec .ready))=W1:=⟨_,O⟩
 have hO1:Ow B w0 W1 (lK (w.heap.size+1) (.loop (rec .ready))::lK w.heap.size (.deferred (X []))::ale []::L):=by have h2:=(h0.newObj (.deferred (X []))).newObj (.loop (rec .ready));rw[hW1,World.size_alloc]at h2;exact h2
 refine⟨w.heap.size+1,[{ target:= .collected w.heap.size,args:= #[]}],W1,{ target:= .fn (.func gf) lb,args:= #[.func (.yield (w.heap.size+1)) #[] #[]]},W1,gf,
  #[.func (.yield (w.heap.size+1)) #[] #[]]++lb,W1,?_,?_,?_,?_,λ_=>h1,?_⟩
 .rw[<-hW1,hrec];exact run_enterLoop_outer _ _ _ _ _
 .simp only[resolve,hg]
  simp[go_sem]
 .intro f' hf';simp[Target.leads]at hf';subst hf';exact hFg
 .simp[invoke,go_sem,eg]
 generalize w.heap.size+1=l at hO1|-;generalize w.heap.size=D at hO1 hrec|-;refine(hseq l (λpre alb=>Ow B w0 alb (lK l (.loop (rec .ready))::lK D (.deferred (X []))::ale pre::L)) W1 ?_ ?_ ?_ hO1).mono ?_
 .exact λpre alb V' h hu=>h.same hu
 .exact λpre alb h=>hreads [lK l (.loop (rec .ready)),lK D (.deferred (X []))] pre alb h.lI
 .intro pre x alb h hpre
  have hy:=run_yield (P:=P) (args:=encs x) h.obj (by rw[hrec];exact hps x);rw[hrec]at hy;refine⟨fn,_,assign,body,hy,roundIn_of_wpIn hfn (hassign l [lK l (.loop (rec .ready)),lK D (.deferred (X []))] pre x alb _ h.lI λa' V' h=>?_)⟩;have h:=h.lI;have hb:=run_beginRound (P:=P) h.obj (by rw[hrec]);refine⟨_,hb,?_⟩;have h:=h.putObj (.loop { rec .ready with state:= .busy});refine wpIn_mono (hbody l [lK l (.loop { rec .ready with state:= .busy}),lK D (.deferred (X []))] pre x a' _ hpre ?_) ?_
  .have h2:=h.perm (List.Perm.swap _ _ _)
   exact h2.perm (List.Perm.cons _ (List.Perm.swap _ _ _))
  .rintro e a2 V2 ⟨rfl,h⟩
   have h:Ow B w0 V2 (lK l (.loop { rec .ready with state:= .busy})::ale (pre++ [x])::lK D (.deferred (X []))::L):=h.perm (List.Perm.swap _ _ _);have he:=run_endRound (P:=P) Q h.obj;refine⟨_,_,he,O,?_⟩;have h:=h.putObj (.loop {({ rec .ready with state:= .busy}:Loop)with state:=if(Q:qg Code).isNone then .ready else .done,pending:=Q});have e2:({({ rec .ready with state:= .busy}:Loop)with state:=if(Q:qg Code).isNone then .ready else .done,pending:=Q}:Loop)=rec .ready:=by rw[hrec];rfl
   rw[e2]at h|-;exact h.perm (List.Perm.cons _ (List.Perm.swap _ _ _))
 .rintro e W2 ⟨⟨v,rfl⟩,h⟩
  have he:=run_endLoop (P:=P) h.obj (by rw[hrec];simp);rw[show(rec .ready).pending=Q from by rw[hrec]]at he;exact⟨Q,_,he,hdone D _ (h.putObj _).drop⟩
end
end Go.Vc
namespace Go.Vc
open Go.Proofs Go.RowKit Go.Shelf
attribute [local go_sem] Oper.semAt_some
section
variable{B:S}{w0 w:W}{R L:J aG}{bd bk:S}{k:ai}{d:sN}{ec wv wk:U}{fs:Sl}{N:S}
def back(ak6:J Slot):S->J (U × Slot)
 |0=>[]
 |t+1=>back ak6 t++ [((ak6.length:U)-1-(t:U),(ak6[ak6.length-1-t]?).getD (0,0))]
theorem CQ(ak6:J Slot):∀(d t:S),back ak6 t <+: back ak6 (t+d)
 |0,t=>List.prefix_refl _
 |d+1,t=>(CQ ak6 d t).trans (List.prefix_append _ _)
theorem CR(ak6:J Slot):(back ak6 ak6.length).map (·.2)=ak6.reverse:=by
 have h:∀t,t<=ak6.length->(back ak6 t).map (·.2)=ak6.reverse.take t:=by
  intro t;induction t with
  |zero=>intro _;rfl
  |succ t ih=>
   intro ht;have hx:ak6.reverse[t]?=X ak6[ak6.length-1-t]:=by rw[List.getElem?_reverse om];exact gE om
   rw[SO,hx,<-ih om];simp only[back,S0,S7,Uf,Option.toList_some];rw[gE om];rfl
 rw[h _ (SA _),<-List.length_reverse,List.take_length]
def Pj(x:U × Slot):qw V:= #[.z x.1,.agg #[.z x.2.1,.z x.2.2]]
theorem Me(n:S)(hn:1<=n)(l box b off len cap:S)(ak6:J Slot)(hS:ak6.length=len)(hlen:len<=1000000)(ak8:J (U × Slot)->Pw)
  (hR:∀pre alb,ak8 pre alb->alb.cell? box.p=X (.slice (X ⟨b,off,Q⟩) len cap)/\∀j x,ak6[j]?=X x->∀u v,[Value.z x.1,Value.z x.2][u]?=X v->alb.cell? ((⟨b,off+j*2,Q⟩:qf).add u)=X v)
  (hY:∀pre x alb,ak8 pre alb->(pre++ [x]) <+: back ak6 len->YieldAt Fence.wide (n-1) qh l (Pj x) alb λe V'=>e= .returned (.bool G)/\ak8 (pre++ [x]) V') (ak9:W) (h0:ak8 [] ak9):
  CallsIn Fence.wide n qh 350 #[.func (.yield l) #[] #[],.q box] ak9 λe W'=>(∃v,e= .returned v)/\ak8 (back ak6 len) W':=by
 refine callsIn_of_wp func350 O trivial ?_ O;simp only[Tryz.ntmps350,Vl,SJ,TU,V3,V4,VA,VB,V0,VN,TG,T2];have hBs:=(hR [] ak9 h0).1
 gi_wp2
 gi_loopw [3] (λi wr=>∃t:S,t<=len/\i= .z ((len:U)-1-(t:U))/\ak8 (back ak6 t) wr)
  (λi _=>(Go.Proofs.intOf i+1).toNat)
 case atStart=>exact⟨0,UA _,qc,h0⟩
 case round=>
  obtain⟨t,ht,rfl,hJs⟩:=hrel;obtain⟨hB2,hc2⟩:=hR _ _ hJs;by_cases hlt:t<len
  .obtain ⟨y,hx⟩:∃y,ak6[ak6.length-1-t]?=X y:=⟨_,gE om⟩
   obtain⟨j,hj⟩:∃j:S,((len:U)-1-(t:U))=(j:U)/\j=ak6.length-1-t:=⟨ak6.length-1-t,om,O⟩
   obtain⟨fn,tmps,assign,body,hy,hRn⟩:=hY _ ((len:U)-1-(t:U),(ak6[ak6.length-1-t]?).getD (0,0)) wr hJs (by have:=CQ ak6 (len-(t+1)) (t+1);rw[show t+1+(len-(t+1))=len from by omega]at this;simpa [back,hS]using this);rw[hx,TR]at hy hRn;dsimp only[Pj]at hy;rw[<-hj.2]at hx;have hcx:=hc2 j _ hx;obtain rfl:j=len-1-t:=om
   have hj2:=hj.2;have hcA:wr.cell? ⟨b,off+(len-1-t)*2,Q⟩=X (.z y.1):=by have:=hcx 0 _ O;simpa [Addr.add]using this
   have hcB:wr.cell? ⟨b,off+(len-1-t)*2+1,Q⟩=X (.z y.2):=by have:=hcx 1 _ O;simpa [Addr.add,UN]using this
   have hj1:=hj.1;clear hj hj2;rw[hj1]at hy|-
   gi_wp2
   refine hRn.mono ?_;rintro e W3 ⟨rfl,hJ3⟩
   gi_wp2
   go_roundw
   case rel=>exact⟨t+1,om,by simp;omega,(by have hx':ak6[len-1-t]?=X y:=hx;simpa [back,hS,hx']using hJ3)⟩
   case measure=>
    show(((len-1-t:S):U)-1+1).toNat<(((len-1-t:S):U)+1).toNat;omega
  .obtain rfl:t=len:=om
   rw[show((t:U)-1-(t:U))= -1 from by omega]
   gi_wp2
   go_end0
   exact⟨⟨_,O⟩,hJs⟩
theorem FM{P:qo}{e:Env}{w:W}:∀(l:J S)(acc:J V)(k:J V->Prop),tP P (l.map ResultVar.tmp) e w acc k->
  ∃vs:J V,vs.length=l.length/\(∀(i t:S),l[i]?=X t->∃v,vs[i]?=X v/\e t=X v)/\k (acc.reverse++vs)
 | [],acc,k,h=>⟨[],O,λi t ht=>by simp at ht,by simpa [tP]using h⟩
 |t::l,acc,k,h=>by
  simp only[S7,tP]at h;split at h
  .rename_i v hv
   obtain⟨vs,h1,h2,h3⟩:=FM l (v::acc) k h;refine⟨v::vs,by simp[h1],λi u hu=>?_,by simpa using h3⟩
   match i,hu with
   |0,hu=>simp at hu;subst hu;exact⟨v,O,hv⟩
   |i+1,hu=>simp at hu;simpa using h2 i u hu
  .exact h.elim
theorem Hr{s:S}{x:Sc}{l:J (S × Sh)}{K:uk ((s,.c x)::l)}{e:Env}{w:W}(h:jT ((s,.c x)::l) K e w):∃d:x.D,e s=X (x.mk d)/\jT l (K d) e w:=by
 simp only[jT]at h;split at h
 .rename_i v hv
  obtain⟨d,e1,h⟩:=yL h;exact⟨d,hv.trans (qz X e1),h⟩
 .exact h.elim
theorem Pc{e:Env}{w:W}{K:qg qf->qf->U->Sl->V->Pw}(h:jT Gi K e w):
  ∃d c t s v,e 0=X (.pointer d)/\e 1=X (.pointer (X c))/\e 2=X (.z t)/\e 3=X s.v/\e 4=X v/\K d c t s v w:=by
 obtain⟨d,h0,h⟩:=Hr h;obtain⟨c,h1,h⟩:=Hr h;obtain⟨t,h2,h⟩:=Hr h;obtain⟨s,h3,h⟩:=Hr h;obtain⟨v,h4,h⟩:=Hr h;exact⟨d,c,t,s,v,h0,h1,h2,h3,h4,h⟩
theorem Lh{K:qg qf->qf->U->Sl->V->Pw}(h:Ow B w0 w (ae bd (ak bk d ec wv wk fs)::ag au fs []::ao bk k::R))
  (hK:∀c0 s2 bx w',Ow B w0 w' (ae bd (ak bk d ec wv wk fs)::ag au fs []::ao bk k::ae c0 [.q bd]::ag Tr.aK s2 (Tr.cY k.T d.s)::ae bx [s2.v]::R)->
   K bd.o c0.p 0 s2 (.func (.func 350) #[] #[.q bx]) w'):Yg bd.o K w:=by
 unfold Yg;refine h.al λw1 h=>?_;generalize w.heap.size=c0 at h|-;obtain⟨x,h⟩:=(h.pick (A:=ao bk k)).zi;refine h.dr λw h=>?_;refine⟨_,h.aE O,_,O,_,h.aE O,_,O,_,h.aA O,_,h.aE O,_,O,eA (h.aM O ⟨Tr.wo (s:=d.s) (h.pick (A:=Tr.cg x.tr k.T)) λs2 w h=>?_,trivial⟩)⟩;apply afx;refine h.al λw1 h=>?_;generalize w.heap.size=bx at h|-;refine hK c0 s2 bx _ ?_;exact((show Ow B w0 w1 (ao bk k::ae bx [s2.v]::ag Tr.aK s2 (Tr.cY k.T d.s)::ae c0 [.q bd]::ae bd (ak bk d ec wv wk fs)::ag au fs []::R)from Ow.cN x h.sub).sub)
theorem rX:∀(l:J Slot)(s:Slot)(k:ai),ai.dq (l++ [s]) k=((ai.dq l k).1++((ai.dq l k).2.gone s).1,((ai.dq l k).2.gone s).2)
 | [],s,k=>by simp[ai.dq]
 |a::l,s,k=>by have:=rX l s (k.gone a).2;simp only[T2,ai.dq,this,S6]
theorem Li{K:U->Pw}{c0 bx:S}{s2:Sl}{F:J dM}{n:S}(hn:s2.len=n)(hn2:n<=1000000)(hu:d.c.kind=1->0<=d.c.obj/\d.c.obj<(k.u.length:U))
  (h:Ow B w0 w (ae bd (ak bk d ec wv wk fs)::ag au fs F::ao bk k::ae c0 [.q bd]::R))
  (hK:∀w',Ow B w0 w' (ae bd (ak bk d ec (n:U) wk fs)::ag au fs F::ao bk (if d.c.kind=1 then k.mg d.c.obj else k)::R)->K 0 w'):Yh bd.o c0.p 0 s2 K w:=by
 unfold Yh;rw[hn,OV om om];refine⟨_,h.aE O,_,O,ji (h.fD O O λw h=>?_)⟩;refine⟨_,h.aE O,_,O,h.l2 O (dW (λe=>?_) (λe=>?_))⟩
 .rw[Z e]at hK
  obtain⟨u0,u1⟩:=hu e;have hux:k.u[d.c.obj.toNat]?=X (k.kr d.c.obj):=by unfold ai.kr;rw[gE om];rfl
  obtain⟨x,h⟩:=(h.pick (A:=ao bk k)).zi;refine h.dr λw h=>?_;refine⟨_,h.aE O,_,O,_,h.aE O,_,O,x.su,h.aA O,_,h.aE O,_,O,_,bB (h.aA O),h.cd (s:=x.su) (i:=d.c.obj) (j:=d.c.obj.toNat) om hux λa ha _ hcu=>?_⟩;refine⟨_,hcu 0 _ O,_,hcu 1 _ O,_,hcu 2 _ O,⟨_,h.aE O,_,O,_,h.aE O,_,O,x.su,h.aA O,_,h.aE O,_,O,_,bB (h.aA O),Ey h λw h=>?_,trivial⟩⟩;refine⟨bB (h.aA O),h.aE O,h.aA O,h.aE O,h.aE O,h.cd (s:=x.su) (i:=d.c.obj) (j:=d.c.obj.toNat) om hux λa ha _ _=>⟨?_,trivial⟩⟩
  refine h.uc (s:=x.su) (xs:=k.u) (i:=d.c.obj) (j:=d.c.obj.toNat) { k.kr d.c.obj with used:=0} om om ha λw h=>?_;refine hK w ?_;exact((show Ow B w0 w (ao bk (k.mg d.c.obj)::ae bd (ak bk d ec (n:U) wk fs)::ag au fs F::R)from Ow.cN x h.sub).sub)
 .rw[Y e]at hK
  exact hK w h.sub
theorem PJ(t:qw V)(h:t.size=66):∃f:S->V,(∀i,f i=t.getD i undef)/\t= #[f 0,f 1,f 2,f 3,f 4,f 5,f 6,f 7,f 8,f 9,f 10,f 11,f 12,f 13,f 14,f 15,f 16,f 17,f 18,f 19,f 20,f 21,f 22,f 23,f 24,f 25,f 26,f 27,f 28,f 29,f 30,f 31,f 32,f 33,f 34,f 35,f 36,f 37,f 38,f 39,f 40,f 41,f 42,f 43,f 44,f 45,f 46,f 47,f 48,f 49,f 50,f 51,f 52,f 53,f 54,f 55,f 56,f 57,f 58,f 59,f 60,f 61,f 62,f 63,f 64,f 65]:=by
 refine⟨λi=>t.getD i undef,λ_=>rfl,?_⟩;have e:t=((SF 66).map λi=>t.getD i undef).toArray:=by
  apply Array.ext
  .simp[h]
  .intro i h1 h2
   simp[h1]
 exact e
theorem CP(n:S)(hn:1<=n)(l box:S)(ak8:J (U × Slot)->Pw)(ak9:W)(hB:ak9.cell? box.p=X (.slice Q 0 0))(h0:ak8 [] ak9):
  CallsIn Fence.wide n qh 350 #[.func (.yield l) #[] #[],.q box] ak9 λe W'=>(∃v,e= .returned v)/\ak8 [] W':=by
 refine callsIn_of_wp func350 O trivial ?_ O;simp only[Tryz.ntmps350,Vl,SJ,TU,V3,V4,VA,VB,V0,VN,TG,T2]
 gi_wp2
 gi_loopw [3] (λi wr=>i= .z (-1)/\ak8 [] wr) (λ_ _=>0)
 case atStart=>exact⟨O,h0⟩
 case round=>
  obtain⟨rfl,hJs⟩:=hrel
  gi_wp2
  go_end0
  exact⟨⟨_,O⟩,hJs⟩
def yh(bd bk c0 bx:S)(d:sN)(ec wv wk:U)(k:ai)(s2:Sl)(xs:J Slot)(pre:J (U × Slot)):aG:=
 oA λfs:Sl=>aQ [ae bd (ak bk d ec wv wk fs),ag au fs (ai.dq (pre.map (·.2)) k).1,ao bk (ai.dq (pre.map (·.2)) k).2,ae c0 [.q bd],ag Tr.aK s2 xs,ae bx [s2.v]]
def OG(s2:Sl)(xs:J Slot)(bx:S)(alb:W):Prop:=alb.cell? bx.p=X s2.v/\lP 2 alb s2 (xs.flatMap Tr.aK.enc)
theorem tQ{c0 bx:S}{s2:Sl}{xs:J Slot}{pre:J (U × Slot)}(h:Ow B w0 w (yh bd bk c0 bx d ec wv wk k s2 xs pre::R)):
  ∃fs:Sl,Ow B w0 w (ae bd (ak bk d ec wv wk fs)::ag au fs (ai.dq (pre.map (·.2)) k).1::ao bk (ai.dq (pre.map (·.2)) k).2::ae c0 [.q bd]::ag Tr.aK s2 xs::ae bx [s2.v]::R):=by
 obtain⟨fs,h⟩:=Ow.ex h;exact⟨fs,h.star⟩
theorem GU{c0 bx:S}{s2:Sl}{xs:J Slot}{pre:J (U × Slot)}(fs:Sl)
  (h:Ow B w0 w (ae bd (ak bk d ec wv wk fs)::ag au fs (ai.dq (pre.map (·.2)) k).1::ao bk (ai.dq (pre.map (·.2)) k).2::ae c0 [.q bd]::ag Tr.aK s2 xs::ae bx [s2.v]::R)):
  Ow B w0 w (yh bd bk c0 bx d ec wv wk k s2 xs pre::R):=Ow.eu fs (Ow.aR h)
theorem IA{c0 bx:S}{s2:Sl}{xs:J Slot}{pre:J (U × Slot)}(h:Ow B w0 w (yh bd bk c0 bx d ec wv wk k s2 xs pre::R)):OG s2 xs bx w:=by obtain⟨fs,h⟩:=tQ h;exact⟨h.aE O,h.tX 4 O⟩
theorem M0{s2:Sl}{xs:J Slot}{bx:S}(hl:s2.len=xs.length)(hx:xs.length<=1000000)(l:S)(ak8:J (U × Slot)->Pw)(ak9:W)
  (hJR:∀pre alb,ak8 pre alb->OG s2 xs bx alb)
  (hY:∀pre x alb,ak8 pre alb->(pre++ [x]) <+: back xs xs.length->YieldAt Fence.wide 2 qh l (Pj x) alb λe V'=>e= .returned (.bool G)/\ak8 (pre++ [x]) V') (h0:ak8 [] ak9):
  CallsIn Fence.wide 3 qh 350 (#[.func (.yield l) #[] #[]]++ #[.q bx]) ak9 λe W'=>(∃v,e= .returned v)/\ak8 (back xs xs.length) W':=by
 obtain⟨h1,h2⟩:=hJR _ _ h0;have h1:ak9.cell? bx.p=X (.slice (s2.a) (s2.len) s2.cap):=h1;rw[hl]at h1;cases h2 with
 |nil ha hl' hc hcs=>
  have hx0:xs= []:=TQ om;subst hx0;rw[ha,hc]at h1;exact CP 3 qb l bx ak8 ak9 h1 h0
 |mk b o l' ha hb hl' hc hcs=>
  refine Me 3 qb l bx b o xs.length s2.cap xs O hx ak8 (λpre alb hJ=>?_) hY ak9 h0;obtain⟨r1,r2⟩:=hJR _ _ hJ;have r1:alb.cell? bx.p=X (.slice (s2.a) (s2.len) s2.cap):=r1;rw[hl,ha]at r1;refine⟨r1,λj x hj u v hv=>?_⟩;obtain⟨b',o',ha',hc'⟩:=lP.get (E:=Tr.aK) r2 hj;rw[ha]at ha';cases ha';have:=hc' u v hv;rw[aL,UN];exact this
theorem Lj{c0 bx:S}{s2:Sl}{xs:J Slot}{t:qw V}{alf:Exit->Act->Pw}(hk:bD N k)(hN:N<=200000)(hnd:xs.Nodup)(hheld:∀s∈xs,(k.H s).isSome=G)(hlen:xs.length<=1000000)
  (ht:t.size=66) (h1:t.getD 1 undef= .q c0) (h19:t.getD 19 undef= .func (.func 350) #[] #[.q bx])
  (h:Ow B w0 w (yh bd bk c0 bx d ec wv wk k s2 xs []::R))
  (hQ:∀(D:S)(alb:W),Ow B w0 alb (lK D (.deferred (X []))::yh bd bk c0 bx d ec wv wk k s2 xs (back xs xs.length)::R)->alf .normal { tmps:=t,defers:=[{ target:= .collected D,args:= #[]}]} alb):
  JR.wpIn Fence.wide 4 qh alf { tmps:=t,defers:=[]} w:=by
 obtain⟨f,hf,he⟩:=PJ t ht;rw[<-hf]at h1 h19;have hl:s2.len=xs.length:=by obtain⟨fs,h⟩:=tQ h;exact(h.aF s2)
 show(Code.block 0 (.rangeFunc _ _ _ _)).wpIn Fence.wide 4 qh alf { tmps:=t,defers:=[]} w;refine wpIn_block ?_;refine Iv (n:=4) (α:=U × Slot) O qb (gf:=350) (lb:= #[.q bx]) ?_ trivial (enters_of func350 qa O) Pj (λ_=>rfl) (back xs xs.length)
  (yh bd bk c0 bx d ec wv wk k s2 xs) (λa' x=>oA λp:S=>aQ [dw (a'={ tmps:=((t.setIfInBounds 20 (.z x.1)).setIfInBounds 21 (.agg #[.z x.2.1,.z x.2.2])).setIfInBounds 5 (.q p),defers:=[]}),ae p [.z x.2.1,.z x.2.2]])
  (OG s2 xs bx) h (λald pre alb h=>IA h) (λl ak8 ak9 _ hJR hY h0=>M0 hl hlen l ak8 ak9 hJR hY h0) ?_ ?_ hQ
 .show t.getD 19 undef=_
  rw[<-hf];exact h19
 .intro l ald pre x alb K hO hK
  have hK:=λw' h=>hK { tmps:=((t.setIfInBounds 20 (.z x.1)).setIfInBounds 21 (.agg #[.z x.2.1,.z x.2.2])).setIfInBounds 5 (.q alb.heap.size),defers:=[]} w' (Ow.eu alb.heap.size (Ow.aR (Ow.cI O h)));have hO:=hO.al (t:=155) (l:=[.z x.2.1,.z x.2.2]) (k:=λw'=>Ow B w0 w' (ae alb.heap.size [.z x.2.1,.z x.2.2]::yh bd bk c0 bx d ec wv wk k s2 xs pre::ald++R)) (λw' h=>h);have hK:=hK _ hO;clear hO hf;obtain⟨x1,x2,x3⟩:=x;dsimp only at hK|-;subst he;dsimp only[Pj]
  gi_wp2
  simpa [h1,h19]using hK
 .intro l ald pre x a' alb hpre hO
  obtain⟨p,hO⟩:=Ow.ex (hO:Ow B w0 alb (oA _::(yh bd bk c0 bx d ec wv wk k s2 xs pre::ald++R)));have hO:=hO.star;obtain⟨ea,hO1⟩:=Ow.pure (hO:Ow B w0 alb (dw _::(ae p [.z x.2.1,.z x.2.2]::yh bd bk c0 bx d ec wv wk k s2 xs pre::ald++R)));clear hO;have hO1:=hO1.perm (List.Perm.swap _ _ _);obtain⟨fs,hO⟩:=tQ hO1;have hx2:(pre.map (·.2)++ [x.2]) <+: xs.reverse:=by have:=hpre.map (·.2);rw[CR]at this;simpa using this
  have hnd2:(pre.map (·.2)++ [x.2]).Nodup:=(hx2.sublist).nodup (Vy.2 (hnd.imp Ne.symm));have hall:∀s∈pre.map (·.2)++ [x.2],(k.H s).isSome=true:=λs hs=>hheld s (VE.1 (hx2.subset hs));obtain⟨g1,g2⟩:=tu (pre.map (·.2)) k hk (Ug.1 hnd2).1 (λs hs=>hall s (UO _ hs));have g3:=tv (pre.map (·.2)) k;have g4:=xP k.af hk.Cd;have g5:=hk.ns;have hg:WS bd.o x.2.1 x.2.2 (λw'=>Ow B w0 w' (yh bd bk c0 bx d ec wv wk k s2 xs (pre++ [x])::ald++R)) alb:=by
   refine Ab (F:=(ai.dq (pre.map (·.2)) k).1) (k:=(ai.dq (pre.map (·.2)) k).2) (s:=x.2) g1 hN ?_ om hO λfs' w' h=>?_
   .rw[g2,Y]
    .exact hall _ (UZ _ Tz)
    .intro hm
     have:=(Ug.1 hnd2).2.2 _ hm _ Tz;exact this O
   .refine GU fs' ?_
    rw[S0,S7,Uf,rX];exact h.sub
  dsimp only[WS]at hg;have hg:=BN hg;have hg:=(callsIn_wide (n:=1)).2 hg;have c1:alb.cell? c0.p=X (.q bd):=hO.aE O;have c2:alb.cell? p.p=X (.z x.2.1):=hO.aE O;have c3:alb.cell? ⟨p,1,Q⟩=X (.z x.2.2):=hO.aE O;clear hO hO1 hall hnd2 hx2 hQ h g1 g2 g3 g4 g5 hpre hheld hnd hl;obtain⟨x1,x2,x3⟩:=x;dsimp only at ea hg c2 c3|-;subst ea;subst he;clear hf;have hg:=hg.inRound l
  gi_wp2
  refine⟨trivial,hg.mono ?_⟩;rintro e w' ⟨rfl,hw⟩
  gi_wp2
  exact hw
theorem yM{s x:Slot}(hx:x∈Tr.cY k.T s):x∈k.T.map (·.1):=by
 unfold Tr.cY at hx;split at hx
 .simp at hx
 .obtain ⟨y,hy,rfl⟩:=Tj.1 hx
  exact Tj.2 ⟨y,List.mem_of_mem_drop (List.mem_of_mem_take hy),O⟩
theorem yO{s:Slot}(h:Tr.rP k.T):(Tr.cY k.T s).Nodup:=by
 unfold Tr.cY;split
 .exact List.nodup_nil
 .exact ((List.take_sublist _ _).trans (List.drop_sublist _ _) |>.map (λx:Tr.fw=>x.1)).nodup h.nd
theorem AS{s:Slot}(hk:bD N k):(Tr.cY k.T s).length<=64:=by
 have:=hk.fu;unfold Tr.cY;split
 .simp
 .simp;omega
theorem Bt:∀(l:J Slot)(k:ai),bD N k->l.Nodup->(∀s∈l,(k.H s).isSome=G)->(ai.dq l k).2.u=k.u
 | [],k,_,_,_=>rfl
 |a::l,k,h,hn,hs=>by
  obtain⟨h1,h2,h3⟩:=h.gone (hs a Tz);rw[Tx]at hn;have hl:∀s∈l,((k.gone a).2.H s).isSome=true:=λs hm=>by rw[h2];unfold Sl.dj;rw[Y (λe:s=a=>hn.1 (e▸hm))];exact hs s (TC _ hm)
  have h4:(ai.dq (a::l) k).2.u=(k.gone a).2.u:=Bt l _ h1 hn.2 hl;rw[h4];unfold ai.gone;split
  .rfl
  .unfold ai.last
   split
   .rfl
   split
   .rfl
   split
   .rfl
   .rfl
theorem DN{K:U->Pw}(hk:bD N k)(hN:N<=200000)(ho:k.gj d.c)(h:Ow B w0 w (ae bd (ak bk d ec wv wk fs)::ag au fs []::ao bk k::R))
  (hK:∀fs' w',Ow B w0 w' (ae bd (ak bk d ec ((Tr.cY k.T d.s).length:U) wk fs')::ag au fs' (ai.dq (Tr.cY k.T d.s).reverse k).1::ao bk (k.kd d).2::R)->K 0 w'):XF bd.o K w:=by
 have hlen:=AS (s:=d.s) hk;have hnd:=yO (s:=d.s) hk.tok;have hheld:∀s∈Tr.cY k.T d.s,(k.H s).isSome=true:=λs hs=>(hk.mem s).1 (yM hs);unfold XF;refine lk func154 O ((callsIn_wide (n:=4)).1 ?_);refine callsIn_of_wp_marks (c:= .seq (cL oQ) (.seq (cL (cR oQ)) (.seq (.seq (cL (cL (cR (cR oQ)))) JR) zW))) func154 qa trivial ?_ O;have hA:=Lh (fs:=fs) h (K:=λd1 c t s v w'=>∃c0 bx,d1=X bd.p/\c=⟨c0,0,Q⟩/\t=0/\v= .func (.func 350) #[] #[.q bx]/\
  Ow B w0 w' (ae bd (ak bk d ec wv wk fs)::ag au fs []::ao bk k::ae c0 [.q bd]::ag Tr.aK s (Tr.cY k.T d.s)::ae bx [s.v]::R)) (λc0 s2 bx w' h=>⟨c0,bx,O,O,O,O,h⟩)
 rw[<-aiw]at hA;unfold ai.kd at hK;dsimp only at hK;generalize Tr.cY k.T d.s=xs at hA hK hlen hnd hheld;refine wpIn_seq (wpIn_wide.2 (wp_mono (pP (ds:=[]) (n:=66) pk kR (cL oQ) wy.a _ (λ_ _ _=>qm) (λ_ _=>qm) (nth [.q bd]) _ w qa ?_ hA) ?_))
 .refine ⟨by simp[Tryz.ntmps154],rfl,λt v ht=>?_⟩
  rw[dY]at ht
  match t,ht with
  |0,ht=>simp at ht;subst ht;simp
  |t+1,ht=>simp at ht
 intro en a1 w1 hq;cases en with
 |exit i=>obtain⟨_,_,_,h⟩:=hq;exact h.elim
 |ret=>obtain⟨_,_,_,h⟩:=hq;exact h.elim
 |goto l=>exact hq.elim
 |panic ch=>exact hq.elim
 |outgrown=>exact hq.elim
 |normal=>
 obtain⟨_,e1,hr1,h1⟩:=hq;refine wpIn_seq (wpIn_wide.2 (wp_mono (pP (ds:=[]) (n:=66) pk kR (cL (cR oQ)) wy.b.a _ (λ_ _ _=>qm) (λ_ _=>qm) e1 _ w1 qa hr1 h1) ?_));intro en a2 w2 hq;cases en with
 |exit i=>obtain⟨_,_,_,h⟩:=hq;exact h.elim
 |ret=>obtain⟨_,_,_,h⟩:=hq;exact h.elim
 |goto l=>exact hq.elim
 |panic ch=>exact hq.elim
 |outgrown=>exact hq.elim
 |normal=>
 obtain⟨_,e2,hr2,h2⟩:=hq;refine wpIn_seq (wpIn_seq (wpIn_wide.2 (wp_mono (pP (ds:=[]) (n:=66) pk kR (cL (cL (cR (cR oQ)))) wy.b.b _ (λ_ _ _=>qm) (λ_ _=>qm) e2 _ w2 qa hr2 h2) ?_)));intro en a3 w3 hq;cases en with
 |exit i=>obtain⟨_,_,_,h⟩:=hq;exact h.elim
 |ret=>obtain⟨_,_,_,h⟩:=hq;exact h.elim
 |goto l=>exact hq.elim
 |panic ch=>exact hq.elim
 |outgrown=>exact hq.elim
 |normal=>
 obtain⟨_,e3,⟨hs3,hd3,hr3⟩,h3⟩:=hq;obtain⟨vs,hv1,hv2,h3⟩:=FM [0,1,2,3,19] [] _ h3;obtain⟨d0,c,t,s,v,v0,v1,v2,v3,v4,c0,bx,rfl,rfl,rfl,rfl,h3⟩:=Pc h3;have key:∀(i t:S)(v:V),[0,1,2,3,19][i]?=X t->nth ([].reverse++vs) i=X v->a3.tmps.getD t undef=v:=λi t v hi hv=>by obtain⟨v',h1,h2⟩:=hv2 i t hi;rw[dY]at hv;simp only[V7,TG]at hv;rw[h1]at hv;cases hv;exact hr3 t v h2
 have k0:=key 0 0 _ O v0;have k1:=key 1 1 _ O v1;have k2:=key 2 2 _ O v2;have k3:=key 3 3 _ O v3;have k4:=key 4 19 _ O v4;have hsl:s.len=xs.length:=h3.aF s;obtain⟨t3,d3⟩:=a3;dsimp only at hs3 hd3 k0 k1 k2 k3 k4;subst hd3;have hO:Ow B w0 w3 (yh bd bk c0 bx d ec wv wk k s xs []::R):=GU fs h3;show JR.wpIn Fence.wide 4 qh _ { tmps:=t3,defers:=[]} w3;refine Lj hk hN hnd hheld om hs3 k1 k4 hO λD alb hO=>?_;obtain⟨fs',hO⟩:=tQ (hO.perm (List.Perm.swap _ _ _));rw[CR]at hO;show zW.wpIn Fence.wide 4 qh _ { tmps:=t3,defers:=[{ target:= .collected D,args:= #[]}]} alb;have hnd2:xs.reverse.Nodup:=Vy.2 (hnd.imp Ne.symm);have hu2:=Bt xs.reverse k hk hnd2 (λs hs=>hheld s (VE.1 hs));have hZ:=Li (K:=λr w'=>r=0/\Ow B w0 w' (lK D (.deferred (X []))::ae bd (ak bk d ec (xs.length:U) wk fs')::ag au fs' (ai.dq xs.reverse k).1::ao bk (if d.c.kind=1 then(ai.dq xs.reverse k).2.mg d.c.obj else(ai.dq xs.reverse k).2)::R)) (bx:=bx) hsl om (λe=>by rw[hu2];exact⟨ho.1,ho.2.1 e⟩) (show Ow B w0 alb (ae bd (ak bk d ec wv wk fs')::ag au fs' (ai.dq xs.reverse k).1::ao bk (ai.dq xs.reverse k).2::ae c0 [.q bd]::lK D (.deferred (X []))::R)from hO.sub) λw' h=>⟨O,h.sub⟩
 rw[<-aix]at hZ;refine wpIn_wide.2 (wp_mono (pP (ds:=[{ target:= .collected D,args:= #[]}]) (n:=66) pk kR zW Gj _ (λ_ _ _=>qm) _ (nth [.q bd,.q c0,.z 0,s.v]) _ alb qa ?_ hZ) ?_)
 .refine ⟨hs3,O,λt v ht=>?_⟩
  rw[dY]at ht
  match t,ht with
  |0,ht=>simp at ht;subst ht;exact k0
  |1,ht=>simp at ht;subst ht;exact k1
  |2,ht=>simp at ht;subst ht;exact k2
  |3,ht=>simp at ht;subst ht;exact k3
  |t+4,ht=>simp at ht
 have fin:∀(a:Act)(w':W),At [{ target:= .collected D,args:= #[]}] 66 (dm zW) { tmps:=t3,defers:=[{ target:= .collected D,args:= #[]}]} (λe w'=>tP qh JS.results.toList e w' [] λvs=>jT Gk (λr w'=>r=0/\Ow B w0 w' (lK D (.deferred (X []))::ae bd (ak bk d ec (xs.length:U) wk fs')::ag au fs' (ai.dq xs.reverse k).1::ao bk (if d.c.kind=1 then(ai.dq xs.reverse k).2.mg d.c.obj else(ai.dq xs.reverse k).2)::R)) (nth vs) w') a w'->
   LeavesInM Fence.wide 4 qh akh a.tmps (λen w'=>∃r2:U,en= .returned (.z r2)/\K r2 w') a.defers .returning w':=by
  rintro⟨t4,d4⟩ w' ⟨_,e,⟨hs,hd,hr⟩,hN⟩;obtain⟨vs,hv1,hv2,hN⟩:=FM [2] [] _ hN;obtain⟨r,hr0,rfl,hO⟩:=Hr hN;obtain⟨v',e1,e2⟩:=hv2 0 2 O;rw[dY]at hr0;simp only[V7,TG]at hr0;rw[e1]at hr0;cases hr0;have hr2:=hr 2 _ e2;dsimp only at hd hr2|-;subst hd;refine⟨qc,.inl ⟨D,_,O,run_takeDeferred hO.obj,?_⟩⟩;have hO:=(hO.putObj (.deferred Q)).drop;refine⟨_,results_tmp O _ _ _,0,?_,hK fs' _ ?_⟩
  .rw[hr2]
  .exact hO
 intro en a4 w4 hq;cases en with
 |normal=>exact fin a4 w4 hq
 |ret=>exact fin a4 w4 hq
 |exit i=>obtain⟨_,_,_,h⟩:=hq;exact h.elim
 |goto l=>exact hq.elim
 |panic ch=>exact hq.elim
 |outgrown=>exact hq.elim
end
end Go.Vc
namespace Go.Vc
open Go.Proofs
section
variable{B:S}{w0 w:W}{R L:J aG}{bd bk:S}{k:ai}{d:sN}{ec wv wk:U}{fs:Sl}{N:S}
def NI:J V:=[.z (1:U),.z (0:U),.z (0:U),.z (0:U),.z (0:U),.z (0:U),.z (0:U),.z (0:U),.z (0:U),.z (0:U),.z (3:U),.z (0:U),.z (3:U),.z (0:U),.z (3:U),.z (0:U),.z (4:U),.z (2:U),.z (4:U),.z (1:U),.z (5:U),.z (2:U),.z (5:U),.z (1:U),.z (7:U),.z (0:U),.z (6:U),.z (0:U),.z (8:U),.z (0:U),.z (9:U),.z (0:U),.z (9:U),.z (0:U),.z (0:U),.z (0:U)]
theorem MN:∀n:S,n<18->(NI.drop (n*2)).take 2= [.z (ai.aJ (n:U)).1,.z (ai.aJ (n:U)).2]
 |0,_=>rfl|1,_=>rfl|2,_=>rfl|3,_=>rfl|4,_=>rfl|5,_=>rfl|6,_=>rfl|7,_=>rfl|8,_=>rfl
 |9,_=>rfl|10,_=>rfl|11,_=>rfl|12,_=>rfl|13,_=>rfl|14,_=>rfl|15,_=>rfl|16,_=>rfl|17,_=>rfl
 |n+18,h=>qk h om
theorem Ff{ask:U}{K:U->U->Pw}(h0:0<=ask)(h1:ask<18)(h:Ow B w0 w R)(hK:∀w',Ow B w0 w' R->K (ai.aJ ask).1 (ai.aJ ask).2 w'):Z0 ask K w:=by
 apply agF;obtain⟨n,rfl⟩:=SI h0;refine h.a λc0 w1 h=>?_;refine h.a λc1 w2 h=>?_;refine h.aB O O λw h=>?_;have h:Ow B w0 w (ae c1 NI::ae c0 [.z 0,.z 0]::R):=h;refine⟨h0,h1,eA (h.aM (o:=0+(n:U).toNat*2) (c0:= .i .i64) (c1:= .i .i64) (x0:=(ai.aJ (n:U)).1) (x1:=(ai.aJ (n:U)).2) ?_ ?_)⟩
 .rw[SS]
  exact MN n om
 refine h.aB O O λw h=>?_;refine h.aM O ?_;exact hK w h.sub
def NT:J (U × S):=[(0,150),(1,151),(2,152),(3,153),(4,154),(5,155),(6,156),(7,157),
 (8,158),(9,159),(10,160),(11,161),(12,162),(13,163),(14,164),(15,165),(16,166)]
def dK(bd:S)(f:S):V:= .func (.func f) #[.q bd] #[]
theorem EI{K:U->Pw}{m:S}(hk:bD N k)(hN:N+64<=100000)(hcore:k.t.gA d.core=G)(hH:k.H d.s=X d.c)(hr:Sl.gl d.c)(ho:k.gj d.c)(ha0:0<=d.call.ask)(ha1:d.call.ask<17)
  (hkind:(ai.aJ d.call.ask).1≠0->d.c.kind=(ai.aJ d.call.ask).1) (hw0: -9223372036854775808<=d.call.ay) (hw1:d.call.ay<9223372036854775808)
  (h:Ow B w0 w (mw (Value.int .i64) (dK bd) m NT::ae bd (ak bk d 0 0 (-1) z0)::ag au z0 []::ao bk k::R))
  (hK:∀fs' w',Ow B w0 w' (ae bd (ak bk d 0 (k.asks d).1.w (k.asks d).1.cv fs')::ag au fs' (k.asks d).1.forget::ao bk (k.asks d).2::R)->K (k.asks d).1.e w'):
  ∃t50:V,F9 qh 287 (.map (X m)) (.z d.call.ask) t50 w/\fP qh t50 [] w λen w'=>∃r:U,en= .returned (.z r)/\K r w':=by
 have hN2:N<=200000:=om
 have hsome:(k.H d.s).isSome=true:=by rw[hH];rfl
 have hlook:∀f,dQ NT d.call.ask=X f->F9 qh 287 (.map (X m)) (.z d.call.ask) (dK bd f) w:=λf hf=>
  (h.vB (enc:=Value.int .i64) (encV:=dK bd) qM (bp .i64 qC) 0 O hf).2
 have hask:d.call.ask=0\/d.call.ask=1\/d.call.ask=2\/d.call.ask=3\/d.call.ask=4\/d.call.ask=5\/d.call.ask=6\/d.call.ask=7\/d.call.ask=8\/d.call.ask=9\/d.call.ask=10\/d.call.ask=11\/d.call.ask=12\/d.call.ask=13\/d.call.ask=14\/d.call.ask=15\/d.call.ask=16:=om
 rcases hask with e|e|e|e|e|e|e|e|e|e|e|e|e|e|e|e|e
 .refine ⟨dK bd 150,hlook _ (by rw[e];rfl),aY ?_⟩
  show Xz bd.o K w;have hkd:(ai.aJ 0).1≠0->d.c.kind=(ai.aJ 0).1:=by rw[e]at hkind;exact hkind
  have hkd:=hkd qb;have ea:k.asks d=ai.tell (k.fc d).1 (k.fc d).2:=by unfold ai.asks;rw[e];rfl
  rw[ea]at hK
  try dsimp only[ai.tell,ai.eN]at hK
  exact DM hk hN hsome (hkd) ho hcore hw0 hw1 (show Ow B w0 w (ae bd (ak bk d 0 0 (-1) z0)::ao bk k::ag au z0 []::R)from h.sub) λw' h=>hK z0 w' h.sub
 .refine ⟨dK bd 151,hlook _ (by rw[e];rfl),aY ?_⟩
  show XA bd.o K w;have hkd:(ai.aJ 1).1≠0->d.c.kind=(ai.aJ 1).1:=by rw[e]at hkind;exact hkind
  have ea:k.asks d=ai.tell (k.og d).1 (k.og d).2:=by unfold ai.asks;rw[e];rfl
  rw[ea]at hK
  try dsimp only[ai.tell,ai.eN]at hK
  exact H4 hk hr hw0 hw1 (show Ow B w0 w (ae bd (ak bk d 0 0 (-1) z0)::ao bk k::ag au z0 []::R)from h.sub) λw' h=>hK z0 w' h.sub
 .refine ⟨dK bd 152,hlook _ (by rw[e];rfl),aY ?_⟩
  show XC bd.o K w;have hkd:(ai.aJ 2).1≠0->d.c.kind=(ai.aJ 2).1:=by rw[e]at hkind;exact hkind
  have ea:k.asks d=ai.tell (k.move d).1 (k.move d).2:=by unfold ai.asks;rw[e];rfl
  rw[ea]at hK
  try dsimp only[ai.tell,ai.eN]at hK
  exact H6 hk hw0 hw1 (show Ow B w0 w (ae bd (ak bk d 0 0 (-1) z0)::ao bk k::ag au z0 []::R)from h.sub) λw' h=>hK z0 w' h.sub
 .refine ⟨dK bd 153,hlook _ (by rw[e];rfl),aY ?_⟩
  show XD bd.o K w;have hkd:(ai.aJ 3).1≠0->d.c.kind=(ai.aJ 3).1:=by rw[e]at hkind;exact hkind
  have ea:k.asks d=if d.call.at_=0 then ai.tell 181 k else(⟨0,0,-1,(k.gone d.s).1⟩,(k.gone d.s).2):=by unfold ai.asks;rw[e];rfl
  rw[ea]at hK
  try dsimp only[ai.tell,ai.eN]at hK
  refine C0 hk hN2 hsome (show Ow B w0 w (ae bd (ak bk d 0 0 (-1) z0)::ag au z0 []::ao bk k::R)from h.sub) (λe0 w' h=>?_) (λe0 fs' w' h=>?_)
  .rw[Z e0]at hK;exact hK z0 w' h.sub
  .rw[Y e0]at hK;exact hK fs' w' h.sub
 .refine ⟨dK bd 154,hlook _ (by rw[e];rfl),aY ?_⟩
  show XF bd.o K w;have hkd:(ai.aJ 4).1≠0->d.c.kind=(ai.aJ 4).1:=by rw[e]at hkind;exact hkind
  have ea:k.asks d=k.kd d:=by unfold ai.asks;rw[e];rfl
  rw[ea]at hK
  try dsimp only[ai.tell,ai.eN]at hK
  exact DN hk hN2 ho (show Ow B w0 w (ae bd (ak bk d 0 0 (-1) z0)::ag au z0 []::ao bk k::R)from h.sub) λfs' w' h=>hK fs' w' h
 .refine ⟨dK bd 155,hlook _ (by rw[e];rfl),aY ?_⟩
  show XG bd.o K w;have hkd:(ai.aJ 5).1≠0->d.c.kind=(ai.aJ 5).1:=by rw[e]at hkind;exact hkind
  have hkd:=hkd qb;have ea:k.asks d=ai.eN (k.resume d):=by unfold ai.asks;rw[e];rfl
  rw[ea]at hK
  try dsimp only[ai.tell,ai.eN]at hK
  exact DL hk hN2 (show Ow B w0 w (ae bd (ak bk d 0 0 (-1) z0)::ao bk k::ag au z0 []::R)from h.sub) λw' h=>hK z0 w' h.sub
 .refine ⟨dK bd 156,hlook _ (by rw[e];rfl),aY ?_⟩
  show XH bd.o K w;have hkd:(ai.aJ 6).1≠0->d.c.kind=(ai.aJ 6).1:=by rw[e]at hkind;exact hkind
  have hkd:=hkd qb;have ea:k.asks d=ai.tell (k.t.cy d.c.obj).1 ((k.eH d.c.obj).cG (k.t.cy d.c.obj).2):=by unfold ai.asks;rw[e];rfl
  rw[ea]at hK
  try dsimp only[ai.tell,ai.eN]at hK
  exact Cg hk hN2 (show Ow B w0 w (ae bd (ak bk d 0 0 (-1) z0)::ao bk k::ag au z0 []::R)from h.sub) λw' h=>hK z0 w' h.sub
 .refine ⟨dK bd 157,hlook _ (by rw[e];rfl),aY ?_⟩
  show XI bd.o K w;have hkd:(ai.aJ 7).1≠0->d.c.kind=(ai.aJ 7).1:=by rw[e]at hkind;exact hkind
  have hkd:=hkd qb;have ea:k.asks d=ai.tell (k.t.gP d.c.obj d.call.a).1 (k.cG (k.t.gP d.c.obj d.call.a).2):=by unfold ai.asks;rw[e];rfl
  rw[ea]at hK
  try dsimp only[ai.tell,ai.eN]at hK
  exact Ih hk.inv.ok (show Ow B w0 w (ae bd (ak bk d 0 0 (-1) z0)::ao bk k::ag au z0 []::R)from h.sub) λw' h=>hK z0 w' h.sub
 .refine ⟨dK bd 158,hlook _ (by rw[e];rfl),aY ?_⟩
  show XJ bd.o K w;have hkd:(ai.aJ 8).1≠0->d.c.kind=(ai.aJ 8).1:=by rw[e]at hkind;exact hkind
  have hkd:=hkd qb;have ea:k.asks d=k.send d:=by unfold ai.asks;rw[e];rfl
  rw[ea]at hK
  try dsimp only[ai.tell,ai.eN]at hK
  have t1:(k.send d).1.w=0/\(k.send d).1.forget= []:=by
   unfold ai.send ai.tell ai.eN;split
   .exact ⟨O,O⟩
   split
   .exact ⟨O,O⟩
   .exact ⟨O,O⟩
  rw[t1.1,t1.2]at hK;exact II hk hN2 ho.1 (ho.2.2.2.2.1 (hkd)) (show Ow B w0 w (ae bd (ak bk d 0 0 (-1) z0)::ao bk k::ag au z0 []::R)from h.sub) λw' h=>hK z0 w' h.sub
 .refine ⟨dK bd 159,hlook _ (by rw[e];rfl),aY ?_⟩
  show XK bd.o K w;have hkd:(ai.aJ 9).1≠0->d.c.kind=(ai.aJ 9).1:=by rw[e]at hkind;exact hkind
  have hkd:=hkd qb;have ea:k.asks d=k.recv d:=by unfold ai.asks;rw[e];rfl
  rw[ea]at hK
  try dsimp only[ai.tell,ai.eN]at hK
  have t1:(k.recv d).1.w=0/\(k.recv d).1.forget= []:=by
   unfold ai.recv ai.tell ai.eN;split
   .exact ⟨O,O⟩
   split
   .exact ⟨O,O⟩
   .exact ⟨O,O⟩
  rw[t1.1,t1.2]at hK;exact Iy hk hN2 ho.1 (ho.2.2.2.2.1 (hkd)) (show Ow B w0 w (ae bd (ak bk d 0 0 (-1) z0)::ao bk k::ag au z0 []::R)from h.sub) λw' h=>hK z0 w' h.sub
 .refine ⟨dK bd 160,hlook _ (by rw[e];rfl),aY ?_⟩
  show XL bd.o K w;have hkd:(ai.aJ 10).1≠0->d.c.kind=(ai.aJ 10).1:=by rw[e]at hkind;exact hkind
  have hkd:=hkd qb;have ea:k.asks d=(⟨0,0,(k.bq d.c.obj d.c.aD).1,[]⟩,(k.bq d.c.obj d.c.aD).2):=by unfold ai.asks;rw[e];rfl
  rw[ea]at hK
  try dsimp only[ai.tell,ai.eN]at hK
  exact yw hk hN2 ho.1 (ho.2.2.2.2.2.1 (hkd)) (show Ow B w0 w (ae bd (ak bk d 0 0 (-1) z0)::ao bk k::ag au z0 []::R)from h.sub) λw' h=>hK z0 w' h.sub
 .refine ⟨dK bd 161,hlook _ (by rw[e];rfl),aY ?_⟩
  show XM bd.o K w;have hkd:(ai.aJ 11).1≠0->d.c.kind=(ai.aJ 11).1:=by rw[e]at hkind;exact hkind
  have hkd:=hkd qb;have ea:k.asks d=k.wait d:=by unfold ai.asks;rw[e];rfl
  rw[ea]at hK
  try dsimp only[ai.tell,ai.eN]at hK
  have t1:(k.wait d).1.cv= -1/\(k.wait d).1.forget= []:=by
   unfold ai.wait ai.tell;split
   .exact ⟨O,O⟩
   .exact ⟨O,O⟩
  rw[t1.1,t1.2]at hK;exact I7 hk hN2 ho.1 (ho.2.2.2.2.2.1 (hkd)) (show Ow B w0 w (ae bd (ak bk d 0 0 (-1) z0)::ao bk k::ag au z0 []::R)from h.sub) λw' h=>hK z0 w' h.sub
 .refine ⟨dK bd 162,hlook _ (by rw[e];rfl),aY ?_⟩
  show XN bd.o K w;have hkd:(ai.aJ 12).1≠0->d.c.kind=(ai.aJ 12).1:=by rw[e]at hkind;exact hkind
  have hkd:=hkd qb;have ea:k.asks d=k.table d:=by unfold ai.asks;rw[e];rfl
  rw[ea]at hK
  try dsimp only[ai.tell,ai.eN]at hK
  have t1:(k.table d).1.w=0/\(k.table d).1.cv= -1/\(k.table d).1.forget= []:=by
   unfold ai.table ai.tell;split
   .exact ⟨O,O,O⟩
   .exact ⟨O,O,O⟩
  rw[t1.1,t1.2.1,t1.2.2]at hK;exact F4 hk (show Ow B w0 w (ae bd (ak bk d 0 0 (-1) z0)::ao bk k::ag au z0 []::R)from h.sub) λw' h=>hK z0 w' h.sub
 .refine ⟨dK bd 163,hlook _ (by rw[e];rfl),aY ?_⟩
  show XO bd.o K w;have hkd:(ai.aJ 13).1≠0->d.c.kind=(ai.aJ 13).1:=by rw[e]at hkind;exact hkind
  have hkd:=hkd qb;have ea:k.asks d=k.mapped d:=by unfold ai.asks;rw[e];rfl
  rw[ea]at hK
  try dsimp only[ai.tell,ai.eN]at hK
  have t1:(k.mapped d).1.w=0/\(k.mapped d).1.cv= -1/\(k.mapped d).1.forget= []:=by
   unfold ai.mapped ai.tell;split
   .exact ⟨O,O,O⟩
   .exact ⟨O,O,O⟩
  rw[t1.1,t1.2.1,t1.2.2]at hK;exact Dv hk (show Ow B w0 w (ae bd (ak bk d 0 0 (-1) z0)::ao bk k::ag au z0 []::R)from h.sub) λw' h=>hK z0 w' h.sub
 .refine ⟨dK bd 164,hlook _ (by rw[e];rfl),aY ?_⟩
  show XP bd.o K w;have hkd:(ai.aJ 14).1≠0->d.c.kind=(ai.aJ 14).1:=by rw[e]at hkind;exact hkind
  have hkd:=hkd qb;have ea:k.asks d=k.mU d:=by unfold ai.asks;rw[e];rfl
  rw[ea]at hK
  try dsimp only[ai.tell,ai.eN]at hK
  exact F5 hk ho.1 (ho.2.2.2.2.2.2.2.2.1 (hkd)) (show Ow B w0 w (ae bd (ak bk d 0 0 (-1) z0)::ag au z0 []::ao bk k::R)from h.sub) λfs' w' h=>hK fs' w' h
 .refine ⟨dK bd 165,hlook _ (by rw[e];rfl),aY ?_⟩
  show XQ bd.o K w;have hkd:(ai.aJ 15).1≠0->d.c.kind=(ai.aJ 15).1:=by rw[e]at hkind;exact hkind
  have hkd:=hkd qb;have ea:k.asks d=k.bind d:=by unfold ai.asks;rw[e];rfl
  rw[ea]at hK
  try dsimp only[ai.tell,ai.eN]at hK
  have t1:(k.bind d).1.w=0/\(k.bind d).1.cv= -1/\(k.bind d).1.forget= []:=by
   unfold ai.bind ai.tell;split
   .exact ⟨O,O,O⟩
   .exact ⟨O,O,O⟩
  rw[t1.1,t1.2.1,t1.2.2]at hK;exact Hw hk (show Ow B w0 w (ae bd (ak bk d 0 0 (-1) z0)::ao bk k::ag au z0 []::R)from h.sub) λw' h=>hK z0 w' h.sub
 .refine ⟨dK bd 166,hlook _ (by rw[e];rfl),aY ?_⟩
  show XR bd.o K w;have hkd:(ai.aJ 16).1≠0->d.c.kind=(ai.aJ 16).1:=by rw[e]at hkind;exact hkind
  have hkd:=hkd qb;have ea:k.asks d=ai.eN (k.iK (jG k.ln d.c.obj)):=by unfold ai.asks;rw[e];rfl
  rw[ea]at hK
  try dsimp only[ai.tell,ai.eN]at hK
  exact Ju hk hN2 (show Ow B w0 w (ae bd (ak bk d 0 0 (-1) z0)::ao bk k::ag au z0 []::R)from h.sub) λw' h=>hK z0 w' h.sub
theorem EJ{core cur:U}{c:Call}{K:U->Pw}(hk:bD N k)(hN:N+64<=100000)(hcore:k.t.gA core=G)(ha0:0<=c.ask)(ha1:c.ask<17)
  (hw0: -9223372036854775808<=c.ay) (hw1:c.ay<9223372036854775808)
  (h:Ow B w0 w (ae bd (ak bk ⟨core,cur,c,(0,0),Sl.aw⟩ 0 0 (-1) z0)::ag au z0 []::ao bk k::R))
  (hK:∀d' fs' w',Ow B w0 w' (ae bd (ak bk d' 0 (k.asked core cur c).1.w (k.asked core cur c).1.cv fs')::ag au fs' (k.asked core cur c).1.forget::ao bk (k.asked core cur c).2::R)->K (k.asked core cur c).1.e w'):
  YV bd.o K w:=by
 apply agy;unfold ai.asked at hK;refine⟨_,O,h.l2 O (Ff (ask:=c.ask) ha0 om h λw h=>?_)⟩;have hask:(ai.aJ c.ask).1=(ai.aJ c.ask).1:=rfl;refine h.a λnb w1 h=>?_;refine h.aB O O λw h=>?_;intro k9 hk9;have hbad:k.dT c.at_ (ai.aJ c.ask).1=qd->∀(sb cb:qf)(w:W),Ow B w0 w (ae bd (ak bk ⟨core,cur,c,(0,0),Sl.aw⟩ 0 0 (-1) z0)::ag au z0 []::ao bk k::R)->k9 sb cb qd w:=λhB sb cb w h=>by rw[Z hB]at hK;apply hk9;intro k14 hk14;have hfin:k14 G w:=hk14 _ _ (aW O (hK _ _ w h));exact aW O hfin
 have hgood:k.dT c.at_ (ai.aJ c.ask).1=G->∀(sb cb:S)(cc:dB)(w:W),cc=k.bm c.at_->Ow B w0 w (ae sb [.z 0,.z c.at_]::ae cb cc.cells::ae nb [.z (ai.aJ c.ask).1,.z (ai.aJ c.ask).2]::ae bd (ak bk ⟨core,cur,c,(0,0),Sl.aw⟩ 0 0 (-1) z0)::ag au z0 []::ao bk k::R)->k9 sb.p cb.p G w:=λhB sb cb cc w hcc h=>by
  subst hcc;rw[Y (by rw[hB];decide)]at hK;obtain⟨hb1,hb2⟩:=jm hB;obtain⟨_,hH,ho,hcr,_⟩:=hk.cap hb1;apply hk9;intro k14 hk14;refine aV O ⟨_,h.aA O,_,h.aA O,h.l2 O ?_⟩;apply hk14;refine pR (λe=>?_) (λe=>?_)
  .rw[Z e]at hK
   exact hK ⟨core,cur,c,(0,0),Sl.aw⟩ z0 w (show Ow B w0 w (ae bd (ak bk ⟨core,cur,c,(0,0),Sl.aw⟩ 0 0 (-1) z0)::ag au z0 []::ao bk k::R)from h.sub)
  rw[Y (by rw[e];exact λhh=>hh O)]at hK;refine h.dr λw h=>?_;refine h.aM O ⟨_,O,?_⟩;refine h.eE O ⟨?_,trivial⟩;refine wu (h.aB O O λw h=>?_);refine h.hd O ⟨_,O,?_,trivial⟩;refine wu (h.aB O O λw h=>?_);have h:Ow B w0 w (ae bd (ak bk ⟨core,cur,c,(0,c.at_),k.bm c.at_⟩ 0 0 (-1) z0)::ag au z0 []::ao bk k::R):=h.sub;refine h.Gb (Value.int .i64) (dK bd) λw1 h=>?_;generalize w.heap.size=m at h|-;refine h.lM (k:=(0:U)) (v:=150) (enc:=Value.int .i64) (encV:=dK bd) qM (bp .i64 qC) 0 O λw h=>?_;refine h.lM (k:=(1:U)) (v:=151) (enc:=Value.int .i64) (encV:=dK bd) qM (bp .i64 qC) 0 O λw h=>?_;refine h.lM (k:=(2:U)) (v:=152) (enc:=Value.int .i64) (encV:=dK bd) qM (bp .i64 qC) 0 O λw h=>?_;refine h.lM (k:=(3:U)) (v:=153) (enc:=Value.int .i64) (encV:=dK bd) qM (bp .i64 qC) 0 O λw h=>?_;refine h.lM (k:=(4:U)) (v:=154) (enc:=Value.int .i64) (encV:=dK bd) qM (bp .i64 qC) 0 O λw h=>?_;refine h.lM (k:=(5:U)) (v:=155) (enc:=Value.int .i64) (encV:=dK bd) qM (bp .i64 qC) 0 O λw h=>?_;refine h.lM (k:=(6:U)) (v:=156) (enc:=Value.int .i64) (encV:=dK bd) qM (bp .i64 qC) 0 O λw h=>?_;refine h.lM (k:=(7:U)) (v:=157) (enc:=Value.int .i64) (encV:=dK bd) qM (bp .i64 qC) 0 O λw h=>?_;refine h.lM (k:=(8:U)) (v:=158) (enc:=Value.int .i64) (encV:=dK bd) qM (bp .i64 qC) 0 O λw h=>?_;refine h.lM (k:=(9:U)) (v:=159) (enc:=Value.int .i64) (encV:=dK bd) qM (bp .i64 qC) 0 O λw h=>?_;refine h.lM (k:=(10:U)) (v:=160) (enc:=Value.int .i64) (encV:=dK bd) qM (bp .i64 qC) 0 O λw h=>?_;refine h.lM (k:=(11:U)) (v:=161) (enc:=Value.int .i64) (encV:=dK bd) qM (bp .i64 qC) 0 O λw h=>?_;refine h.lM (k:=(12:U)) (v:=162) (enc:=Value.int .i64) (encV:=dK bd) qM (bp .i64 qC) 0 O λw h=>?_;refine h.lM (k:=(13:U)) (v:=163) (enc:=Value.int .i64) (encV:=dK bd) qM (bp .i64 qC) 0 O λw h=>?_;refine h.lM (k:=(14:U)) (v:=164) (enc:=Value.int .i64) (encV:=dK bd) qM (bp .i64 qC) 0 O λw h=>?_;refine h.lM (k:=(15:U)) (v:=165) (enc:=Value.int .i64) (encV:=dK bd) qM (bp .i64 qC) 0 O λw h=>?_;refine h.lM (k:=(16:U)) (v:=166) (enc:=Value.int .i64) (encV:=dK bd) qM (bp .i64 qC) 0 O λw h=>?_;have h:Ow B w0 w (mw (Value.int .i64) (dK bd) m NT::ae bd (ak bk ⟨core,cur,c,(0,c.at_),k.bm c.at_⟩ 0 0 (-1) z0)::ag au z0 []::ao bk k::R):=h;exact⟨_,O,h.l2 O (EI (d:=⟨core,cur,c,(0,c.at_),k.bm c.at_⟩) hk hN hcore hH hcr ho ha0 ha1 hb2 hw0 hw1 h λfs' w' h=>hK _ fs' w' h)⟩
 refine h.dr λw h=>?_;refine⟨_,O,_,h.aE O,_,O,_,bB (h.aA O),h.l1 O ?_⟩
 (repeat' (first|exact trivial|(exact hbad (by assumption) _ _ _ h.sub)|(exact hgood (by assumption) _ _ _ _ (by assumption) h.sub)|(refine pV hk (h.pick (A:=ao bk k)) (λhB s c w h=>?_) (λhB w c hc h=>?_))|(refine h.al λw h=>?_)|(refine h.dr λw h=>?_)|(refine h.aM O ?_)|(refine h.eE O ?_)|(refine h.l1 O ?_)|(refine h.l2 O ?_)|(refine h.hd O ?_)|(refine⟨h.aE O,?_⟩)|(refine⟨h.aA O,?_⟩)|((refine h.aB O O λw h=>?_);(try dsimp only[putAt,Tu,S1]at h))|(refine fy ?_)|(refine _root_.Go.Vc.a2 ?_)|(refine h.jD O O λw h=>?_)|(refine h.fD O O λw h=>?_)|(refine And.intro ?_ ?_)))
theorem Qj(x:U)(y:U)(hy:0<=y/\y<=7):0<=fE .i64 x y/\fE .i64 x y<=7:=by obtain⟨m,rfl⟩:=SI hy.1;obtain⟨p,hp,e⟩:=Sl.zK x m om;rw[e];omega
theorem kM{c:dB}:Sl.ia c=qd↔((0<c.kind/\c.kind<10)/\0<=c.obj/\c.obj<2147483648)/\(0<=c.ar/\c.ar<=7)/\Sl.fb c.guard c.bits=G/\(Sl.dD c.kind=qd->c.ar=7)/\(c.aD≠0->Sl.dH c.kind=G)/\(c.bits≠0->c.kind=2):=by unfold Sl.ia;simp only[Bool.or_eq_false_iff,Bool.not_eq_false',S4,qF,Bool.and_eq_false_imp,qQ,ne_eq,bne_eq_false_iff_eq,Vk,and_assoc]
theorem Mk{c:dB}(h:Sl.ia c=qd):Sl.cH c=0:=by
 unfold Sl.cH;rw[h];split
 .rfl
 .rfl
theorem KO{c:dB}{r g:U}(hc:Sl.cH c=0)(hm:(ai.gI c r g).2=0):Sl.cH (ai.gI c r g).1=0/\(ai.gI c r g).1.kind=c.kind/\(ai.gI c r g).1.obj=c.obj/\c.kind≠0:=by
 unfold ai.gI at*
 rw[Y (by rw[hc];exact λh=>h O)]at*
 by_cases hr:¬(0<=r/\r<=7)
 .rw[Z hr]at hm;cases hm
 rw[Y hr]at hm|-;by_cases h2:c.kind=0\/(g≠0/\(Sl.dH c.kind=qd\/c.aD≠0))
 .rw[Z h2]at hm;cases hm
 rw[Y h2];have hk:c.kind≠0:=λe=>h2 (.inl e);refine⟨?_,O,O,hk⟩;have hz:c≠Sl.aw:=λe=>hk (by rw[e];rfl);have hb:Sl.ia c=false:=by
  unfold Sl.cH at hc;rw[Y hz]at hc;cases e:Sl.ia c with
  |false=>rfl
  |true=>rw[e,Z O]at hc;cases hc
 obtain⟨b1,b2,b3,b4,b5,b6⟩:=kM.1 hb;have hr7:0<=r/\r<=7:=VO hr;have ha:=Qj c.ar r hr7;have hb2:Sl.ia { c with ar:=if Sl.dD c.kind then fE .i64 c.ar r else c.ar,aD:=if g≠0 then g else c.aD}=false:=by
  refine kM.2 ⟨b1,?_,b3,λe=>?_,λe=>?_,b6⟩
  .dsimp only
   split
   .exact ha
   .exact b2
  .dsimp only at e|-
   rw[Y (by rw[e];decide)];exact b4 e
  .dsimp only at e|-
   by_cases e0:g≠0
   .cases hh:Sl.dH c.kind with
    |true=>rfl
    |false=>exact qk (.inr ⟨e0,.inl hh⟩) h2
   .rw[Y e0]at e;exact b5 e
 exact Mk hb2
end
section
variable{N:S}{k:ai}{d:sN}
theorem Ka(hk:bD N k){w:U}(hf:k.gi w 1=0):0<=w/\w<64/\k.H (0,w)=none:=by obtain⟨h1,h2,h3⟩:=hk.z8 hf;refine⟨h1,om,?_⟩;have:=h3 0 om;rw[show w+((0:S):U)=w from by omega]at this;exact this
theorem bD.og(hk:bD N k)(hs:k.H d.s=X d.c)(hr:Sl.gl d.c)(ho:k.gj d.c):bD N (k.og d).2:=by
 unfold ai.og;split
 .exact hk
 split
 .exact hk
 rename_i hf;split
 .exact hk
 rename_i hm;obtain⟨h1,h2,h3⟩:=Ka hk (VO hf);obtain⟨_,he,_,_⟩:=hk.um.held _ _ hs;obtain⟨m1,m2,m3,m4⟩:=KO he (by omega:(ai.gI d.c d.call.a (qA.wrap d.call.b)).2=0);refine(hk.laid (by rw[hs];rfl) ⟨rfl,h1,h2⟩ h3 m1 (by rw[m2];exact m4) (uP hr (nN _)) ?_).1;unfold ai.gj at ho|-;rw[m2,m3];exact ho
theorem bD.move(hk:bD N k)(hs:k.H d.s=X d.c):bD N (k.move d).2:=by
 unfold ai.move;split
 .exact hk
 rename_i hf;obtain⟨h1,h2,h3⟩:=Ka hk (VO hf);have hsl:=(hk.held _ _ hs).1;obtain⟨i,hi⟩:=uV ((hk.mem d.s).2 (by rw[hs];rfl));obtain⟨x,hx,hxs⟩:=Tr.dZ hi;have hno:Tr.bM k.T (0,d.call.ay)=none:=tK λe=>by rw[hk.mem,h3]at e;cases e
 have hH:(Sl.eP k.bits k.H d.s (0,d.call.ay)).2=Sl.dj (Sl.dj k.H d.s Q) (0,d.call.ay) (X d.c):=by unfold Sl.eP;rw[nH hk.b0 hsl,nH hk.b0 (s:=(0,d.call.ay)) ⟨O,h1,h2⟩,Y qc,hs];dsimp only;rw[h3,Y qb]
 have hT:(Tr.eP k.T d.s (0,d.call.ay)).2=k.T.set i ((0,d.call.ay),Tr.xt k.T i):=by unfold Tr.eP;rw[hi];dsimp only;rw[hno]
 obtain⟨n1,n2,n3,n4⟩:=hk.um.held _ _ hs;rw[hH,hT];have hgi:(k.T.map (·.1))[i]?=X d.s:=by rw[S2,hx];exact qz X hxs
 show bD N { k with H:=Sl.dj (Sl.dj k.H d.s Q) (0,d.call.ay) (X d.c),T:=k.T.set i ((0,d.call.ay),Tr.xt k.T i)};refine { hk with
  um:=(hk.um.del d.s).put (nH hk.b0 ⟨O,h1,h2⟩) n2 n3 n4
  held:=λt c hc=>?_
  tok:=hk.tok.move hi hno
  mem:=λt=>?_}
 .have hc:Sl.dj (Sl.dj k.H d.s Q) (0,d.call.ay) (X d.c) t=X c:=hc
  unfold Sl.dj at hc;split at hc
  .rename_i e
   cases hc;rw[e];exact⟨⟨O,h1,h2⟩,(hk.held _ _ hs).2⟩
  split at hc
  .cases hc
  .exact hk.held t c hc
 .rw[List.map_set]
  have hnd:=hk.tok.nd;have hlt:=(Sz.1 hgi).1;have hne:(0,d.call.ay)≠d.s:=λe=>by rw[<-e,h3]at hs;cases hs
  have hm:t∈(k.T.map (·.1)).set i (0,d.call.ay)↔t=(0,d.call.ay)\/(t∈k.T.map (·.1)/\t≠d.s):=by
   rw[List.set_eq_take_append_cons_drop,Z hlt,<-Sl.sh hnd hgi,Wd];simp only[Tv,SH];constructor
   .rintro (h|h|h)
    .exact .inr (.inl h)
    .exact .inl h
    .exact .inr (.inr h)
   .rintro (h|h|h)
    .exact .inr (.inl h)
    .exact .inl h
    .exact .inr (.inr h)
  show t∈(k.T.map (·.1)).set i (0,d.call.ay)↔_;rw[hm,hk.mem];show _↔(Sl.dj (Sl.dj k.H d.s Q) (0,d.call.ay) (X d.c) t).isSome=G;unfold Sl.dj;by_cases e1:t=(0,d.call.ay)
  .simp[e1]
  .rw[Y e1]
   by_cases e2:t=d.s
   .rw[Z e2];simp[e2,hne.symm]
   .rw[Y e2];simp[e1,e2]
theorem bD.mi(hk:bD N k){n:U}{m:Tb.dS}(hm:Tb.fV m):bD N (k.mi n m):=
 hk.af (by rw[Ti]) λy hy=>by
  rcases TN hy with hy|hy
  .exact hk.Cd y hy
  .rw[hy];exact hm
theorem bD.DU(hk:bD N k)(n:U):Tb.fV (k.iR n):=by
 unfold ai.iR;cases e:k.af[n.toNat]? with
 |none=>exact Tb.fV.new
 |some m=>exact hk.Cd m (SU e)
theorem bD.mg(hk:bD N k)(n:U):bD N (k.mg n):=by
 unfold ai.mg;have hu:∀x∈k.u.set n.toNat { k.kr n with used:=0},A5 x:=λx hx=>by
  by_cases hlt:n.toNat<k.u.length
  .rcases TN hx with hx|hx
   .exact hk.u x hx
   .have h1:A5 (k.kr n):=by unfold ai.kr;rw[gE hlt];exact hk.u _ (Tq _)
    rw[hx];exact⟨h1.bits,h1.top,h1.dvd,UA _⟩
  .rw[VS om]at hx
   exact hk.u x hx
 exact hk.LN hu (by rw[Ti];exact SA _) (by rw[Ti];exact hk.nu)
theorem bD.kd(hk:bD N k):bD N (k.kd d).2:=by
 have hnd:=yO (s:=d.s) hk.tok;have hheld:∀s∈Tr.cY k.T d.s,(k.H s).isSome=true:=λs hs=>(hk.mem s).1 (yM hs);obtain⟨h1,_⟩:=tu (Tr.cY k.T d.s).reverse k hk (Vy.2 (hnd.imp Ne.symm)) (λs hs=>hheld s (VE.1 hs));unfold ai.kd;dsimp only;split
 .exact h1.mg _
 .exact h1
theorem bD.send(hk:bD N k)(h0:0<=d.c.obj)(h1:d.c.obj<(k.ends.length:U)):bD (N+1) (k.send d).2:=by
 obtain⟨_,hl⟩:=hk.iZ h0 h1;have hse:=B8 (k.iZ d.c.obj) d.cur (ai.fG d) (d.call.c !=0);have hE:=hk.fk (n:=d.c.obj) (p:=((k.iZ d.c.obj).send d.cur (ai.fG d) (d.call.c !=0)).2.2) om;unfold ai.send;split
 .exact hE
 split
 .exact hE.rest
 .exact hE.kS.eY _
theorem bD.recv(hk:bD N k)(h0:0<=d.c.obj)(h1:d.c.obj<(k.ends.length:U)):bD (N+1) (k.recv d).2:=by
 obtain⟨_,hl⟩:=hk.iZ h0 h1;have hse:=B2 (k.iZ d.c.obj) d.cur (d.call.c !=0);have hE:=hk.fk (n:=d.c.obj) (p:=((k.iZ d.c.obj).recv d.cur (d.call.c !=0)).2.2) om;unfold ai.recv;split
 .exact hE
 split
 .exact hE.rest
 .exact hE.kS.eY _
theorem bD.wait(hk:bD N k)(h0:0<=d.c.obj)(h1:d.c.obj<(k.notes.length:U)):bD (N+1) (k.wait d).2:=by
 obtain⟨_,hl⟩:=hk.mV h0 h1;have hwl:=Cq (k.mV d.c.obj) d.cur (d.call.c !=0);have hE:=hk.ke (n:=d.c.obj) (p:=((k.mV d.c.obj).wait d.cur (d.call.c !=0)).2) om;unfold ai.wait;split
 .exact hE
 dsimp only;split
 .exact hE
 .exact hE.rest
theorem bD.bind(hk:bD N k):bD N (k.bind d).2:=by
 unfold ai.bind;split
 .exact hk
 rename_i hB;have hB:k.dT d.call.ay 5=true:=by
  cases e:k.dT d.call.ay 5 with
  |true=>rfl
  |false=>exact qk e hB
 obtain⟨hb1,hb2⟩:=jm hB;obtain⟨_,_,ho,_,_⟩:=hk.cap hb1;unfold ai.tell;dsimp only;unfold oF;cases hx:lL k.ln d.c.obj with
 |none=>exact hk
 |some x=>
  dsimp only;split
  .exact hk
  split
  .exact hk
  .refine hk.Sa (by rw[Ti];exact hk.ln) λy hy hy2=>?_
   rcases TN hy with hy|hy
   .exact hk.Jg y hy hy2
   .rw[hy];exact⟨ho.1,ho.2.2.2.2.2.1 (hb2 qb)⟩
theorem bD.iK(hk:bD N k){r:(qg (U × U)× U)× y7}(h1:bD N { k with ln:=r.2})(h2:∀y,r.1.1=X y->0<=y.1/\y.1<(k.notes.length:U)):bD (N+1) (k.iK r).2.2:=by
 unfold ai.iK;split
 .exact h1.mono om
 .rename_i x e
  obtain⟨a,b⟩:=h2 x e;exact h1.bq a b
theorem bD.asks(hk:bD N k)(hN:N+64<=100000)(hcore:k.t.gA d.core=G)(hH:k.H d.s=X d.c)(hr:Sl.gl d.c)(ho:k.gj d.c)(ha0:0<=d.call.ask)(ha1:d.call.ask<17)
  (hkind:(ai.aJ d.call.ask).1≠0->d.c.kind=(ai.aJ d.call.ask).1):bD (N+64) (k.asks d).2:=by
 have hsome:(k.H d.s).isSome=true:=by rw[hH];rfl
 have hask:d.call.ask=0\/d.call.ask=1\/d.call.ask=2\/d.call.ask=3\/d.call.ask=4\/d.call.ask=5\/d.call.ask=6\/d.call.ask=7\/d.call.ask=8\/d.call.ask=9\/d.call.ask=10\/d.call.ask=11\/d.call.ask=12\/d.call.ask=13\/d.call.ask=14\/d.call.ask=15\/d.call.ask=16:=om
 have m0:∀{x:ai},bD N x->bD (N+64) x:=λh=>h.mono om;have m1:∀{x:ai},bD (N+1) x->bD (N+64) x:=λh=>h.mono om;rcases hask with e|e|e|e|e|e|e|e|e|e|e|e|e|e|e|e|e
 .have ea:k.asks d=ai.tell (k.fc d).1 (k.fc d).2:=by unfold ai.asks;rw[e];rfl
  rw[ea];have hkd:(ai.aJ 0).1≠0->d.c.kind=(ai.aJ 0).1:=by rw[e]at hkind;exact hkind
  have hkd:=hkd qb;exact hk.fc hN hsome hkd ho hcore
 .have ea:k.asks d=ai.tell (k.og d).1 (k.og d).2:=by unfold ai.asks;rw[e];rfl
  rw[ea];exact m0 (hk.og hH hr ho)
 .have ea:k.asks d=ai.tell (k.move d).1 (k.move d).2:=by unfold ai.asks;rw[e];rfl
  rw[ea];exact m0 (hk.move hH)
 .have ea:k.asks d=if d.call.at_=0 then ai.tell 181 k else(⟨0,0,-1,(k.gone d.s).1⟩,(k.gone d.s).2):=by unfold ai.asks;rw[e];rfl
  rw[ea];split
  .exact m0 hk
  .exact m0 (hk.gone hsome).1
 .have ea:k.asks d=k.kd d:=by unfold ai.asks;rw[e];rfl
  rw[ea];exact m0 hk.kd
 .have ea:k.asks d=ai.eN (k.resume d):=by unfold ai.asks;rw[e];rfl
  rw[ea];have hkd:(ai.aJ 5).1≠0->d.c.kind=(ai.aJ 5).1:=by rw[e]at hkind;exact hkind
  have hkd:=hkd qb;have h2:bD N (if k.t.dC d.c.obj=G/\(k.t.th d.c.obj).st=3 then k.eH d.c.obj else k):=by
   split
   .exact hk.eH _
   .exact hk
  exact m0 (h2.eY _)
 .have ea:k.asks d=ai.tell (k.t.cy d.c.obj).1 ((k.eH d.c.obj).cG (k.t.cy d.c.obj).2):=by unfold ai.asks;rw[e];rfl
  rw[ea];have hkd:(ai.aJ 6).1≠0->d.c.kind=(ai.aJ 6).1:=by rw[e]at hkind;exact hkind
  have hkd:=hkd qb;exact m0 ((hk.eH d.c.obj).cG (hk.inv.suspend _) (by rw[pI];exact SA _))
 .have ea:k.asks d=ai.tell (k.t.gP d.c.obj d.call.a).1 (k.cG (k.t.gP d.c.obj d.call.a).2):=by unfold ai.asks;rw[e];rfl
  rw[ea];have hkd:(ai.aJ 7).1≠0->d.c.kind=(ai.aJ 7).1:=by rw[e]at hkind;exact hkind
  have hkd:=hkd qb;exact m0 (hk.cG (hk.inv.prio _ _) (by rw[AF];exact SA _))
 .have ea:k.asks d=k.send d:=by unfold ai.asks;rw[e];rfl
  rw[ea];have hkd:(ai.aJ 8).1≠0->d.c.kind=(ai.aJ 8).1:=by rw[e]at hkind;exact hkind
  have hkd:=hkd qb;exact m1 (hk.send ho.1 (ho.2.2.2.2.1 hkd))
 .have ea:k.asks d=k.recv d:=by unfold ai.asks;rw[e];rfl
  rw[ea];have hkd:(ai.aJ 9).1≠0->d.c.kind=(ai.aJ 9).1:=by rw[e]at hkind;exact hkind
  have hkd:=hkd qb;exact m1 (hk.recv ho.1 (ho.2.2.2.2.1 hkd))
 .have ea:k.asks d=(⟨0,0,(k.bq d.c.obj d.c.aD).1,[]⟩,(k.bq d.c.obj d.c.aD).2):=by unfold ai.asks;rw[e];rfl
  rw[ea];have hkd:(ai.aJ 10).1≠0->d.c.kind=(ai.aJ 10).1:=by rw[e]at hkind;exact hkind
  have hkd:=hkd qb;exact m1 (hk.bq ho.1 (ho.2.2.2.2.2.1 hkd))
 .have ea:k.asks d=k.wait d:=by unfold ai.asks;rw[e];rfl
  rw[ea];have hkd:(ai.aJ 11).1≠0->d.c.kind=(ai.aJ 11).1:=by rw[e]at hkind;exact hkind
  have hkd:=hkd qb;exact m1 (hk.wait ho.1 (ho.2.2.2.2.2.1 hkd))
 .have ea:k.asks d=k.table d:=by unfold ai.asks;rw[e];rfl
  rw[ea];have hkd:(ai.aJ 12).1≠0->d.c.kind=(ai.aJ 12).1:=by rw[e]at hkind;exact hkind
  have hkd:=hkd qb;unfold ai.table;split
  .exact m0 hk
  .exact m0 (hk.mi ((hk.DU _).table _ _))
 .have ea:k.asks d=k.mapped d:=by unfold ai.asks;rw[e];rfl
  rw[ea];have hkd:(ai.aJ 13).1≠0->d.c.kind=(ai.aJ 13).1:=by rw[e]at hkind;exact hkind
  have hkd:=hkd qb;unfold ai.mapped;split
  .exact m0 hk
  .exact m0 (hk.mi ((hk.DU _).map _ _))
 .have ea:k.asks d=k.mU d:=by unfold ai.asks;rw[e];rfl
  rw[ea];have hkd:(ai.aJ 14).1≠0->d.c.kind=(ai.aJ 14).1:=by rw[e]at hkind;exact hkind
  have hkd:=hkd qb;exact m0 (hk.mi ((hk.DU _).mU _))
 .have ea:k.asks d=k.bind d:=by unfold ai.asks;rw[e];rfl
  rw[ea];have hkd:(ai.aJ 15).1≠0->d.c.kind=(ai.aJ 15).1:=by rw[e]at hkind;exact hkind
  have hkd:=hkd qb;exact m0 hk.bind
 .have ea:k.asks d=ai.eN (k.iK (jG k.ln d.c.obj)):=by unfold ai.asks;rw[e];rfl
  rw[ea];have hkd:(ai.aJ 16).1≠0->d.c.kind=(ai.aJ 16).1:=by rw[e]at hkind;exact hkind
  have hkd:=hkd qb;exact m1 (hk.iK hk.Qi λy hy=>xg hk hy)
end
section
variable{B:S}{w0 w:W}{R L:J aG}{bd bk:S}{k:ai}{d:sN}{ec wv wk:U}{fs:Sl}{N:S}
theorem bD.pick(hk:bD N k)(core:U):bD N (k.cG (k.t.bj core)):=hk.cG (hk.inv.bj _) (by rw[jt];exact SA _)
theorem bD.asked(hk:bD N k)(hN:N+64<=100000){core cur:U}{c:Call}(hcore:k.t.gA core=G)(ha0:0<=c.ask)(ha1:c.ask<17):bD (N+64) (k.asked core cur c).2:=by
 unfold ai.asked;split
 .exact hk.mono om
 rename_i hB;have hB:k.dT c.at_ (ai.aJ c.ask).1=true:=by
  cases e:k.dT c.at_ (ai.aJ c.ask).1 with
  |true=>rfl
  |false=>exact qk e hB
 split
 .exact hk.mono om
 obtain⟨hb1,hb2⟩:=jm hB;obtain⟨_,hH,ho,hcr,_⟩:=hk.cap hb1;exact hk.asks hN hcore hH hcr ho ha0 ha1 hb2
theorem bD.do(hk:bD N k)(hN:N+64<=100000)(core:U)(c:Call):bD (N+64) (k.do core c).2:=by
 have hp:=hk.pick core;unfold ai.do
 cases hr:(k.t.bj core).cj core with
 |none=>exact hp.mono om
 |some cur=>
  dsimp only;split
  .exact hp.mono om
  split
  .exact (hp.cG (hp.inv.yield core) (by rw[vj];exact SA _)).mono om
  .rename_i h1 h2
   exact hp.asked hN (hp.inv.runIn hr).1 om om
theorem bD.tick(hk:bD N k)(core:U):bD N (k.tick core):=hk.cG (hk.inv.tick _) (by rw[D7];exact SA _)
theorem bD.irq(hk:bD N k)(line:U):bD (N+1) (k.irq line).2.2:=hk.iK hk.raise λy hy=>sD hk hy
theorem L3{core:U}{c:Call}{K:U->U->U->Sl->Pw}(hk:bD N k)(hN:N+64<=100000)(hw0: -9223372036854775808<=c.ay)(hw1:c.ay<9223372036854775808)
  (h:Ow B w0 w (ao bk k::R))
  (hK:∀fs' w',Ow B w0 w' (ag au fs' (k.do core c).1.forget::ao bk (k.do core c).2::R)->K (k.do core c).1.e (k.do core c).1.w (k.do core c).1.cv fs' w'):
  Yl bk.o core c.ask c.at_ c.ay c.a c.b c.c K w:=by
 apply agq;refine h.a λcb w1 h=>?_;refine h.a λob w2 h=>?_;refine h.eE O ?_;refine h.a λbd w3 h=>?_;have h:=Ow.cB (E:=au) h;have h:Ow B w0 w3 (ag au z0 []::ae bd (ak bk ⟨core,0,c,(0,0),Sl.aw⟩ 0 0 (-1) z0)::ae ob [.z 0,.y 0,.z 0,.slice Q 0 0]::ae cb c.cl::ao bk k::R):=h;have h:Ow B w0 w3 (ao bk k::ae bd (ak bk ⟨core,0,c,(0,0),Sl.aw⟩ 0 0 (-1) z0)::ag au z0 []::ae ob [.z 0,.y 0,.z 0,.slice Q 0 0]::ae cb c.cl::R):=h.sub;obtain⟨bt,ala,h,hc2,hback⟩:=h.uI;refine⟨_,O,_,hc2,Th.jE hk.inv.ok h λw h=>?_⟩;have h:=hback _ w _ jt h;have hp:=hk.pick core;unfold ai.do at hK
 refine⟨_,O,h.fD O O λw h=>?_⟩;intro k25 hk25;have fin:∀(d':sN)(e wv wk:U)(fs:Sl)(F:J dM)(k':ai)(w:W),(∀w',Ow B w0 w' (ag au fs F::ao bk k'::R)->K e wv wk fs w')->
   Ow B w0 w (ae bd (ak bk d' e wv wk fs)::ag au fs F::ao bk k'::ae ob [.z 0,.y 0,.z 0,.slice Q 0 0]::R)->k25 w:=λd' e wv wk fs F k' w hK h=>by
  apply hk25;refine⟨_,O,eA (h.gn O (h.aB O O λw h=>?_))⟩;refine h.gn O ?_;exact hK w h.sub
 cases hr:(k.t.bj core).cj core with
 |none=>
  rw[hr]at hK;refine aW O ?_;refine⟨_,O,h.fD O O λw h=>?_⟩;refine fin ⟨core,0,c,(0,0),Sl.aw⟩ 182 0 (-1) z0 [] (k.cG (k.t.bj core)) w (λw' h=>hK _ w' h) ?_;have h:Ow B w0 w (ao bk (k.cG (k.t.bj core))::ae bd (ak bk ⟨core,0,c,(0,0),Sl.aw⟩ 182 0 (-1) z0)::ag au z0 []::ae ob [.z 0,.y 0,.z 0,.slice Q 0 0]::ae cb c.cl::R):=by rw[hr]at h;exact h
  exact h.sub
 |some cur=>
  rw[hr]at hK;dsimp only at hK;have h:Ow B w0 w (ao bk (k.cG (k.t.bj core))::ae bd (ak bk ⟨core,cur,c,(0,0),Sl.aw⟩ 0 0 (-1) z0)::ag au z0 []::ae ob [.z 0,.y 0,.z 0,.slice Q 0 0]::ae cb c.cl::R):=by rw[hr]at h;exact h
  refine aV O ?_;intro k39 hk39;have hbad:c.ask<0\/18<=c.ask->k39 G w:=λhb=>by
   rw[Z hb]at hK;apply hk39;refine aW O ?_;refine⟨_,O,h.fD O O λw h=>?_⟩;refine fin ⟨core,cur,c,(0,0),Sl.aw⟩ 180 0 (-1) z0 [] (k.cG (k.t.bj core)) w (λw' h=>hK _ w' h) ?_;have h:Ow B w0 w (ao bk (k.cG (k.t.bj core))::ae bd (ak bk ⟨core,cur,c,(0,0),Sl.aw⟩ 180 0 (-1) z0)::ag au z0 []::ae ob [.z 0,.y 0,.z 0,.slice Q 0 0]::ae cb c.cl::R):=h;exact h.sub
  have hgood:¬(c.ask<0\/18<=c.ask)->k39 qd w:=λhb=>by
   rw[Y hb]at hK;apply hk39;refine aV O ?_;refine h.l1 O ?_;refine dW (λe=>?_) (λe=>?_)
   .rw[Z e]at hK
    obtain⟨bt,ala,h,hc2,hback⟩:=h.uI;refine⟨_,O,_,hc2,Th.pK hp.inv.ok h λw h=>?_⟩;have h:=hback _ w _ vj h;refine fin ⟨core,cur,c,(0,0),Sl.aw⟩ 0 0 (-1) z0 [] ((k.cG (k.t.bj core)).cG ((k.t.bj core).yield core)) w (λw' h=>hK _ w' h) ?_;have h:Ow B w0 w (ao bk ((k.cG (k.t.bj core)).cG ((k.t.bj core).yield core))::ae bd (ak bk ⟨core,cur,c,(0,0),Sl.aw⟩ 0 0 (-1) z0)::ag au z0 []::ae ob [.z 0,.y 0,.z 0,.slice Q 0 0]::ae cb c.cl::R):=h;exact h.sub
   .rw[Y e]at hK
    have hk1:=hp.asked (core:=core) (cur:=cur) (c:=c) hN (hp.inv.runIn hr).1 om om;refine EJ (core:=core) (cur:=cur) (c:=c) hp hN (hp.inv.runIn hr).1 om om hw0 hw1 (show Ow B w0 w (ae bd (ak bk ⟨core,cur,c,(0,0),Sl.aw⟩ 0 0 (-1) z0)::ag au z0 []::ao bk (k.cG (k.t.bj core))::ae ob [.z 0,.y 0,.z 0,.slice Q 0 0]::R)from h.sub) λd' fs' w h=>?_;refine⟨_,O,h.fD O O λw h=>?_⟩;generalize (k.cG (k.t.bj core)).asked core cur c=A at h hK;exact fin d' A.1.e A.1.w A.1.cv fs' A.1.forget A.2 w (λw' h=>hK _ w' h) h
  refine h.l1 O ?_;refine bh (λe=>?_) (λe=>?_)
  .exact hbad (.inl e)
  .refine h.l1 O ?_
   by_cases e2:c.ask>=18
   .rw[qp e2];exact hbad (.inr e2)
   .rw[ql e2];exact hgood om
end
namespace ai
def Od{α:Type}(l:J α)(n:U):I:=qe (0<=n)&&qe (n<(l.length:U))
def fo(k:ai)(n:U):Tb.gh:=if Od k.af n then(k.iR n).pg else []
end ai
section
variable{B:S}{w0 w:W}{R L:J aG}{bd bk:S}{k:ai}{d:sN}{ec wv wk:U}{fs:Sl}{N:S}
theorem tz{α:Type}{l:J α}{n:U}:ai.Od l n=G↔0<=n/\n<(l.length:U):=by unfold ai.Od;simp
theorem M6{α:Type}{l:J α}{j:S}{x:α}(h:l[j]?=X x):l.set j x=l:=by obtain⟨hi,rfl⟩:=Sz.1 h;exact UH hi
theorem Hm{core:U}{K:I->Pw}(hk:bD N k)(h:Ow B w0 w (ao bk k::R))(hK:∀w',Ow B w0 w' (ao bk (k.tick core)::R)->K (k.t.cj core).isSome w'):Yq bk.o core K w:=by
 apply ags;obtain⟨bt,ala,h,hc2,hback⟩:=h.uI;refine⟨_,O,_,hc2,Th.zx hk.inv.ok h λw h=>?_⟩;exact hK w (hback _ w _ D7 h)
theorem Hh{K:Sl->Pw}(hk:bD N k)(h:Ow B w0 w (ao bk k::R))(hK:∀s w',Ow B w0 w' (ag Sl.eM s (fS k.H)::ao bk k::R)->K s w'):YQ bk.o K w:=by
 apply agw;obtain⟨x,h⟩:=h.zi;refine⟨_,O,h.l1 O (Sl.jd (h.pick (A:=Sl.aC x.n k.bits k.H)) λs2 hs2 w hih h=>?_)⟩;have e2:hs2=fS k.H:=hih.uniq (tw λt c hc=>(hk.held t c hc).1);subst e2;have h:Ow B w0 w (ao bk k::ag Sl.eM s2 (fS k.H)::R):=Ow.cN x h.sub;exact hK s2 w h.sub
theorem kJ{n:U}{K:Sl->Pw}(h:Ow B w0 w (ao bk k::R))(hK:∀s w',Ow B w0 w' (ag Tb.aP s (k.fo n)::ao bk k::R)->K s w'):YT bk.o n K w:=by
 apply agx;unfold ai.fo at hK;have h0:=h;obtain⟨ss,ps,ala,h,hc2,hp,hback⟩:=h.pY;have hlen:=h.aF ss;refine⟨_,O,ss,hc2,?_⟩;have bad:ai.Od k.af n=qd->K z0 w:=λe=>by rw[Y (by rw[e];decide)]at hK;exact hK _ w (Ow.cB h0)
 apply agE;refine bh (λe0=>?_) (λe0=>?_)
 .by_cases e1:n<(ss.len:U)
  .rw[qp e1]
   refine aV O ?_;have hin:ai.Od k.af n=true:=tz.2 ⟨e0,om⟩;rw[Z hin]at hK;have hx:k.af[n.toNat]?=X (k.iR n):=by unfold ai.iR;rw[gE om];rfl
   refine⟨_,O,ss,hc2,?_⟩;have hq:ps[n.toNat]?=X ps[n.toNat]:=gE om;generalize ps[n.toNat]=pp at hq;refine dG (s:=ss) (i:=n) (j:=n.toNat) h om hq λa ha hcc=>⟨_,hcc,?_⟩
   have h:=(h.pick (A:=aq Tb.bP ps k.af)).vF hq hx;refine Tb.kJ h λs w h=>?_;have h:=(h.pick (A:=Tb.bP pp (k.iR n))).perm (List.Perm.cons _ (List.Perm.swap _ _ _));have h:=(h.cF hp hq)
   rw[M6 hx]at h;have h:Ow B w0 w (ao bk k::_):=hback (ag Tb.aP s (k.iR n).pg::R) w _ h.sub;exact hK s w h.sub
  .rw[ql e1]
   refine aW O ?_;exact bad (by
    cases e:ai.Od k.af n with
    |false=>rfl
    |true=>have:=(tz.1 e).2;omega)
 .refine aW O ?_
  exact bad (by
    cases e:ai.Od k.af n with
    |false=>rfl
    |true=>have:=(tz.1 e).1;omega)
end
namespace Mc
structure cD where
 dP:U
 kind:U
 about:U
deriving DecidableEq
structure Item where
 kind:U
 core:U
 a:U
 b:U
structure uu where
 tl:J dM
 bH:U
 n:U
 told:Told
structure Seen where
 kind:U
 core:U
 n:U
 t:Told
 p:U × U
 is:I
structure cV where
 k:ai
 line:J U
 bx:J (J cD)
 cs:J uu
 room:U
 prog:J Call
def tZ:Told:=⟨0,0,0,[]⟩
def eD:Seen:=⟨0,0,0,tZ,(0,0),qd⟩
def jn(space aX:U)(l:dM):I:=qe (l.space=space)&&qe (l.aX=aX)
def drop(space aX:U)(l:J dM):J dM:=l.filter λx=> !jn space aX x
def look(space aX:U)(l:J dM):qg (U × U):=(l.find? (jn space aX)).map λx=>(x.frame,x.ar)
def fill(room:U)(x:dM)(l:J dM):J dM:=
 if(drop x.space x.aX l).length=l.length/\room<=(l.length:U)then(drop x.space x.aX l).drop 1++ [x]else drop x.space x.aX l++ [x]
def iG(line:J U)(c:U):J U:=if c∈line then line else line++ [c]
def me(line:J U)(c:U):I:=qe (line.head?=X c)
def gd(line:J U)(c:U):J U:=if line.head?=X c then line.tail else line
def oB(dP about:U)(bx:J (J cD)):J (J cD):=
 if(SF bx.length).any λi=>qe ((i:U)≠dP)&&qe (64<=((bx[i]?).getD []).length)then bx
 else bx.mapIdx λi l=>if(i:U)=dP then l else l++ [⟨dP,0,about⟩]
def gk(bx:J (J cD))(c:U):U:=((bx.map λl=>(l.filter λm=>qe (m.dP=c)).length).sum:S)
def fN(x:Item)(gH:U):I:=qe (0<=x.kind/\x.kind<4/\0<=x.core/\x.core<min gH 8/\(0<=x.a/\x.a<=255)/\(0<=x.b/\x.b<=255))
end Mc
namespace Mc.cV
def aj(m:cV)(n:U):uu:=(m.cs[n.toNat]?).getD ⟨[],0,0,tZ⟩
def gF(m:cV)(n:U)(c:uu):cV:={ m with cs:=m.cs.set n.toNat c}
def walk(m:cV)(aX:U):qg (U × U):=((m.k.fo 0).find? λx=>x.1==aX).map (·.2)
def loadT(m:cV)(aX:U)(t:J dM):(U × U)× I × J dM:=match look 0 aX t with
 |some p=>(p,G,t)
 |none=>match m.walk aX with
  |some p=>(p,G,fill m.room ⟨0,aX,p.1,p.2⟩ t)
  |none=>((0,0),qd,t)
def load(m:cV)(n aX:U):Seen × cV:=
 (⟨3,n,aX,tZ,(m.loadT aX (m.aj n).tl).1,(m.loadT aX (m.aj n).tl).2.1⟩,m.gF n { m.aj n with tl:=(m.loadT aX (m.aj n).tl).2.2})
def user(m:cV)(x:Item):qg Seen × cV:=
 if(m.aj x.core).bH≠0 then(Q,m)
 else if 0<x.b then(X (m.load x.core x.a).1,(m.load x.core x.a).2)
 else if x.a<(m.prog.length:U)then(Q,m.gF x.core { m.aj x.core with bH:=1,n:=x.a})
 else(Q,m)
def box(m:cV)(n:U):J cD:=(m.bx[n.toNat]?).getD []
def heard(m:cV)(n:U)(x:cD):cV:=
 { m with bx:=m.bx.set n.toNat (m.box n).tail,cs:=m.cs.set n.toNat { m.aj n with tl:=drop (qj.wrap (x.about.tdiv 4096)) (x.about.tmod 4096) (m.aj n).tl}}
def lY(n:U):J dM->cV->cV
 | [],m=>m
 |l::r,m=>lY n r { m with cs:=m.cs.set n.toNat { m.aj n with tl:=drop l.space l.aX (m.aj n).tl},bx:=oB n (qj.wrap (qj.wrap (l.space*4096)+l.aX)) m.bx}
def aI(m:cV)(n:U):Call:=(m.prog[(m.aj n).n.toNat]?).getD ⟨0,0,0,0,0,0⟩
def HD(m:cV)(n:U):Seen × cV:=
 let t:=(m.k.do n (m.aI n)).1
 let m1:=lY n t.forget ({ m with k:=(m.k.do n (m.aI n)).2}.gF n { m.aj n with told:=t})
 (⟨1,n,(m.aj n).n,t,(0,0),qd⟩,m1.gF n { m1.aj n with bH:=3})
def step(m:cV)(n:U):qg Seen × cV:=match m.box n with
 |x::_=>(Q,m.heard n x)
 | []=>
  if(m.aj n).bH=1 then(X ⟨0,n,(m.aj n).n,tZ,(0,0),qd⟩,{ m with line:=iG m.line n}.gF n { m.aj n with bH:=2})
  else if(m.aj n).bH=2 then if me m.line n then(X (m.HD n).1,(m.HD n).2)else(Q,m)
  else if(m.aj n).bH=3/\gk m.bx n=0 then(X ⟨2,n,(m.aj n).n,(m.aj n).told,(0,0),qd⟩,{ m with line:=gd m.line n}.gF n { m.aj n with bH:=0})
  else(Q,m)
def item(m:cV)(x:Item):qg Seen × cV:=
 if fN x m.cs.length=qd then(Q,m)
 else if x.kind=1 then m.user x
 else if x.kind=0 then m.step x.core
 else if m.line≠ []then(Q,m)
 else if x.kind=2 then(X ⟨4,x.core,x.a,⟨(m.k.irq x.a).1,0,(m.k.irq x.a).2.1,[]⟩,(0,0),qd⟩,{ m with k:=(m.k.irq x.a).2.2})
 else(X ⟨5,x.core,0,tZ,(0,0),(m.k.t.cj x.core).isSome⟩,{ m with k:=m.k.tick x.core})
end Mc.cV
section
variable{N:S}{k:ai}{d:sN}
def vw(i:S)(x:U × Tb.Pg):dM:=⟨(i:U),x.1,x.2.1,x.2.2⟩
def gM(l l':J Tb.dS)(F:J dM):Prop:=∀i m,l[i]?=X m->∃m',l'[i]?=X m'/\∀x∈m.pg,x∈m'.pg\/vw i x∈F
theorem gM.refl(l:J Tb.dS)(F:J dM):gM l l F:=λi m h=>⟨m,h,λx hx=> .inl hx⟩
theorem gM.trans{l l1 l2:J Tb.dS}{F alc:J dM}(h1:gM l l1 F)(h2:gM l1 l2 alc):gM l l2 (F++alc):=λi m hm=>by
 obtain⟨m1,e1,g1⟩:=h1 i m hm;obtain⟨m2,e2,g2⟩:=h2 i m1 e1;refine⟨m2,e2,λx hx=>?_⟩;rcases g1 x hx with h|h
 .rcases g2 x h with h|h
  .exact .inl h
  .exact .inr (UZ _ h)
 .exact .inr (UO _ h)
theorem gM.app(l ald:J Tb.dS)(F:J dM):gM l (l++ald) F:=λi m h=>⟨m,by rw[SM (Sz.1 h).1];exact h,λx hx=> .inl hx⟩
theorem gM.set{l:J Tb.dS}{F:J dM}{j:S}{m m':Tb.dS}(hm:l[j]?=X m)(h:∀x∈m.pg,x∈m'.pg\/vw j x∈F):gM l (l.set j m') F:=λi a ha=>by
 by_cases e:i=j
 .subst e
  rw[hm]at ha;cases ha;exact⟨m',by rw[SQ (Sz.1 hm).1],h⟩
 .exact ⟨a,by rw[List.getElem?_set_ne (Ne.symm e)];exact ha,λx hx=> .inl hx⟩
theorem Ak{i:S}{P:Tb.gh}{x:U × Tb.Pg}(hx:x∈P):vw i x∈ai.ba i P:=Tj.2 ⟨x,hx,O⟩
theorem vO(f:U):∀(l:J Tb.dS)(j i:S)(m:Tb.dS),l[i]?=X m->∃m',(ai.bC f j l).2[i]?=X m'/\∀x∈m.pg,x∈m'.pg\/vw (j+i) x∈(ai.bC f j l).1
 | [],_,_,_,h=>by simp at h
 |a::l,j,0,m,h=>by
  cases h;refine⟨_,O,λx hx=>?_⟩;cases e:(x.2.1==f)with
  |true=>exact .inr (UO _ (Ak (SV.2 ⟨hx,e⟩)))
  |false=>exact .inl (SV.2 ⟨hx,by rw[e];rfl⟩)
 |a::l,j,i+1,m,h=>by
  obtain⟨m',e,g⟩:=vO f l (j+1) i m h;refine⟨m',e,λx hx=>?_⟩;rcases g x hx with g|g
  .exact .inl g
  .rw[show j+(i+1)=j+1+i from by omega]
   exact .inr (UZ _ g)
theorem JX(m:Tb.dS)(j:U){x:U × Tb.Pg}(hx:x∈m.pg):x∈(m.bE j).2.2.pg\/x∈(m.bE j).1:=by
 unfold Tb.dS.bE;split
 .exact .inl hx
 split
 .exact .inl hx
 .cases e:(x.1.toNat / 64==j.toNat)with
  |true=>exact .inr (SV.2 ⟨hx,e⟩)
  |false=>exact .inl (SV.2 ⟨hx,by simpa using e⟩)
theorem sK(n:U)(i:S):∀(q j:S)(m:Tb.dS)(x:U × Tb.Pg),x∈m.pg->x∈(ai.ed n i q j m).2.pg\/vw i x∈(ai.ed n i q j m).1
 |0,_,_,_,hx=> .inl hx
 |q+1,j,m,x,hx=>by
  unfold ai.ed;split
  .rcases JX m (j:U) hx with h|h
   .rcases sK n i q (j+1) _ x h with h|h
    .exact .inl h
    .exact .inr (UZ _ h)
   .exact .inr (UO _ (Ak h))
  .exact sK n i q (j+1) m x hx
theorem AT(n:U):∀(l:J Tb.dS)(j i:S)(m:Tb.dS),l[i]?=X m->∃m',(ai.dv n j l).2[i]?=X m'/\∀x∈m.pg,x∈m'.pg\/vw (j+i) x∈(ai.dv n j l).1
 | [],_,_,_,h=>by simp at h
 |a::l,j,0,m,h=>by
  cases h;refine⟨_,O,λx hx=>?_⟩;rcases sK n j 64 0 a x hx with g|g
  .exact .inl g
  .exact .inr (UO _ g)
 |a::l,j,i+1,m,h=>by
  obtain⟨m',e,g⟩:=AT n l (j+1) i m h;refine⟨m',e,λx hx=>?_⟩;rcases g x hx with g|g
  .exact .inl g
  .rw[show j+(i+1)=j+1+i from by omega]
   exact .inr (UZ _ g)
theorem Kw(k:ai)(c:dB):gM k.af (k.last c).2.af (k.last c).1:=by
 unfold ai.last;split
 .exact gM.refl _ _
 split
 .intro i m hm
  have:=vO c.obj k.af 0 i m hm
  rwa [SS]at this
 split
 .intro i m hm
  have:=AT c.obj k.af 0 i m hm
  rwa [SS]at this
 .exact gM.refl _ _
theorem C8(k:ai)(s:Slot):gM k.af (k.gone s).2.af (k.gone s).1:=by
 unfold ai.gone;split
 .exact gM.refl _ _
 .exact Kw (k.taken s) _
theorem Ac:∀(l:J Slot)(k:ai),gM k.af (ai.dq l k).2.af (ai.dq l k).1
 | [],k=>gM.refl _ _
 |a::l,k=>(C8 k a).trans (Ac l (k.gone a).2)
def Pp(k:ai)(r:Told × ai):Prop:=r.1.forget.length+kC r.2.af<=kC k.af+1/\gM k.af r.2.af r.1.forget
theorem Pp.same{k:ai}{r:Told × ai}(h1:r.1.forget= [])(h2:r.2.af=k.af):Pp k r:=by unfold Pp;rw[h1,h2];exact⟨qc,gM.refl _ _⟩
theorem Pp.from{k k1:ai}{r:Told × ai}(e:k1.af=k.af)(h:Pp k1 r):Pp k r:=by
 unfold Pp at*
 rw[e]at h;exact h
theorem GM:∀{l:J Tb.dS}{j:S}{m p:Tb.dS},l[j]?=X m->kC (l.set j p)+m.pg.length=kC l+p.pg.length
 | [],_,_,_,h=>by simp at h
 |a::l,0,m,p,h=>by cases h;simp only[kC,Tu,S7,UW];omega
 |a::l,j+1,m,p,h=>by
  have:=GM (l:=l) (j:=j) (m:=m) (p:=p) h;simp only[kC,S1,S7,UW]at*
  omega
theorem Pp.mi{k:ai}{n:U}{p:Tb.dS}{t:Told}(hl:t.forget.length+p.pg.length<=(k.iR n).pg.length+1)(hs:∀x∈(k.iR n).pg,x∈p.pg\/vw n.toNat x∈t.forget)
  (h0:(k.iR n).pg= []->t.forget= []):Pp k (t,k.mi n p):=by
 unfold ai.iR at hl hs h0;cases hm:k.af[n.toNat]? with
 |none=>
  rw[hm]at h0;refine Pp.same (h0 O) ?_;show k.af.set n.toNat p=k.af;exact VS (List.getElem?_eq_none_iff.1 hm)
 |some m=>
  rw[hm]at hl hs;have h1:=GM (p:=p) hm;simp only[TR]at hl hs;exact⟨by show t.forget.length+kC (k.af.set n.toNat p)<=_;omega,gM.set hm hs⟩
theorem Kj(P:Tb.gh)(k:U)(v:Tb.Pg):(Tb.kU P k v).length<=P.length+1:=by
 induction P with
 |nil=>simp[Tb.kU]
 |cons x P ih=>
  simp only[Tb.kU];split
  .simp
  split
  .simp
  .simp only[SJ];omega
theorem Kk{P:Tb.gh}{k:U}{v:Tb.Pg}(h:Tb.look P k=Q){x:U × Tb.Pg}(hx:x∈P):x∈Tb.kU P k v:=by
 induction P with
 |nil=>cases hx
 |cons y P ih=>
  have hn:=Tb.dE.1 h;have hy:y.1≠k:=hn y Tz;simp only[Tb.kU];split
  .exact TC _ hx
  rcases SH.1 hx with e|hx
  .subst e;exact Tz
  .exact TC _ (ih (Tb.dE.2 λz hz=>hn z (TC _ hz)) hx)
theorem On(m:Tb.dS)(a:U)(p:Tb.Pg):(m.ph a p).2.pg.length<=m.pg.length+1/\∀x∈m.pg,x∈(m.ph a p).2.pg:=by
 unfold Tb.dS.ph;split
 .exact ⟨qc,λx hx=>hx⟩
 split
 .exact ⟨qc,λx hx=>hx⟩
 split
 .exact ⟨qc,λx hx=>hx⟩
 .rename_i hl
  exact⟨Kj _ _ _,λx hx=>Kk (by cases e:Tb.look m.pg a with|none=>rfl|some v=>rw[e]at hl;exact qk O hl) hx⟩
theorem D4(m:Tb.dS)(i n:U):(m.iX i n).2.pg=m.pg:=by
 unfold Tb.dS.iX;split
 .rfl
 split<;>rfl
theorem MJ(k:ai)(core a b:U)(at_:S):∃ald,(k.made core a b at_).2.af=k.af++ald/\kC ald=0:=by
 unfold ai.made;repeat' split
 all_goals first
  |exact⟨[Tb.js],O,O⟩
  |exact⟨[],(SL _).symm,O⟩
theorem Du(core a b w:U)(s:Slot):∀(l:J S)(j:S)(k:ai),∃ald,(ai.makes core a b w s l j k).af=k.af++ald/\kC ald=0
 | [],j,k=>⟨[],by simp[ai.makes],rfl⟩
 |at_::r,j,k=>by obtain⟨ald,h1,h2⟩:=MJ k core a b at_;obtain⟨ala,h3,h4⟩:=Du core a b w s r (j+1) ((k.made core a b at_).2.laid s (0,w+(j:U)) ⟨a,(k.made core a b at_).1,7,0,0,0⟩);refine⟨ald++ala,?_,by rw[rj,h2,h4]⟩;rw[<-S6,<-h1];exact h3
theorem AM(k:ai)(n g:U):(k.bq n g).2.af=k.af:=by unfold ai.bq;split<;>rfl
theorem Dn(k:ai)(r:(qg (U × U)× U)× y7):(k.iK r).2.2.af=k.af:=by
 unfold ai.iK;split
 .rfl
 .exact AM _ _ _
theorem B5(k:ai)(d:sN):(k.rest d).af=k.af:=by unfold ai.rest;split<;>rfl
theorem Iz:Pp k (ai.tell (k.fc d).1 (k.fc d).2):=by
 unfold ai.fc;split
 .exact Pp.same O O
 split
 .exact Pp.same O O
 split
 .exact Pp.same O O
 .obtain ⟨ald,h1,h2⟩:=Du d.core d.call.a d.call.b d.call.ay d.s (bN (k.kr d.c.obj) d.call.a d.call.b d.call.c).1 0 { k with u:=k.u.set d.c.obj.toNat (bN (k.kr d.c.obj) d.call.a d.call.b d.call.c).2.1}
  unfold Pp ai.tell;dsimp only at h1|-;rw[h1];exact⟨by rw[rj,h2];simp,gM.app _ _ _⟩
theorem Md(hk:bD N k)(ho:0<=d.c.obj):Pp k (k.asks d):=by
 unfold ai.asks;split
 .exact Iz
 .unfold ai.og;repeat' split
  all_goals exact Pp.same O O
 .unfold ai.move;repeat' split
  all_goals exact Pp.same O O
 .split
  .exact Pp.same O O
  .exact ⟨by have:=Gt k d.s;dsimp only;omega,C8 k d.s⟩
 .unfold ai.kd
  have h1:=tv (Tr.cY k.T d.s).reverse k;have h2:=Ac (Tr.cY k.T d.s).reverse k;split
  .exact ⟨by show _+kC (ai.dq (Tr.cY k.T d.s).reverse k).2.af<=_;dsimp only;omega,h2⟩
  .exact ⟨by dsimp only;omega,h2⟩
 .unfold ai.resume;split
  all_goals exact Pp.same O O
 .exact Pp.same O O
 .exact Pp.same O O
 .unfold ai.send;repeat' split
  .exact Pp.same O O
  .exact Pp.same O (B5 _ _)
  .exact Pp.same O O
 .unfold ai.recv;repeat' split
  .exact Pp.same O O
  .exact Pp.same O (B5 _ _)
  .exact Pp.same O O
 .exact Pp.same O (AM _ _ _)
 .unfold ai.wait;split
  .exact Pp.same O O
  .refine Pp.same O ?_
   dsimp only;split
   .rfl
   .exact B5 _ _
 .unfold ai.table;split
  .exact Pp.same O O
  .exact Pp.mi (by rw[D4];simp) (λx hx=> .inl (by rw[D4];exact hx)) λ_=>rfl
 .unfold ai.mapped;split
  .exact Pp.same O O
  .obtain ⟨h1,h2⟩:=On (k.iR (k.bm d.call.ay).obj) d.call.a (d.c.obj,fE .i64 d.c.ar d.call.b)
   exact Pp.mi (by simpa using h1) (λx hx=> .inl (h2 x hx)) λ_=>rfl
 .unfold ai.mU
  unfold Tb.dS.cJ;split
  .exact Pp.mi qc (λx hx=> .inl hx) λ_=>rfl
  .cases hl:Tb.look (k.iR d.c.obj).pg d.call.a with
   |none=>exact Pp.mi qc (λx hx=> .inl hx) λ_=>rfl
   |some p=>
    refine Pp.mi ?_ (λx hx=>?_) λe=>?_
    .have:=S3 (λx:U × Tb.Pg=>x.1 !=d.call.a) (k.iR d.c.obj).pg
     simp only[Tb.od,qE,SJ,TU];omega
    .by_cases e:x.1=d.call.a
     .refine .inr ?_
      obtain⟨x1,x2⟩:=x;dsimp only at e;subst e;have hu:x2=p:=by have:=(hk.DU d.c.obj).mo.look hx;rw[hl]at this;exact(Option.some.inj this).symm
      subst hu;dsimp only;rw[Z O];unfold vw;rw[Int.toNat_of_nonneg ho];exact Tf.2 O
     .exact .inl ((Tb.wz _).2 ⟨hx,e⟩)
    .rw[e]at hl;cases hl
 .unfold ai.bind;split
  .exact Pp.same O O
  .exact Pp.same O O
 .exact Pp.same O (Dn _ _)
theorem Gq(hk:bD N k)(core:U)(c:Call):Pp k (k.do core c):=by
 unfold ai.do
 split
 .exact Pp.same O O
 split
 .exact Pp.same O O
 split
 .exact Pp.same O O
 .unfold ai.asked
  split
  .exact Pp.same O O
  split
  .exact Pp.same O O
  .refine Pp.from (k1:=k.cG (k.t.bj core)) O (Md (hk.pick core) ?_)
   show 0<=(ai.bm _ _).obj;unfold ai.bm;split
   .cases hh:(k.cG (k.t.bj core)).H (0,c.at_)with
    |none=>exact VM 0
    |some x=>exact((hk.held _ _ hh).2).1
   .exact VM 0
theorem Ko(k:ai)(line:U):(k.irq line).2.2.af=k.af:=Dn _ _
end
namespace Mc
section
variable{B:S}{w0 w:W}{R L:J aG}{b nc N g:S}{m:cV}
theorem kN(s p:U)(l:J dM):(drop s p l).length<=l.length:=S3 _ _
theorem J5{room:U}{x:dM}{l:J dM}(h1:1<=room)(h:(l.length:U)<=room):((fill room x l).length:U)<=room:=by
 have hd:=kN x.space x.aX l;unfold fill;split
 .rename_i e
  simp only[SG,List.length_drop,SJ,TU];omega
 .rename_i e
  simp only[SG,SJ,TU];omega
structure dn(nc N g:S)(m:cV):Prop where
 n1:1<=nc
 n8:nc<=8
 cs:m.cs.length=nc
 bx:m.bx.length=nc
 r1:1<=m.room
 r8:m.room<=8
 tl:∀c∈m.cs,(c.tl.length:U)<=m.room
 nr:∀c∈m.cs,c.bH≠0->0<=c.n/\c.n<(m.prog.length:U)
 fg:∀c∈m.cs,c.told.forget.length<=g
 EK:∀l∈m.bx,l.length<=64
 NH:m.line.Nodup
 lr:∀c∈m.line,0<=c/\c<(nc:U)
 k:bD N m.k
 pg:kC m.k.af<=g
theorem dn.mono{nc N g N' g':S}{m:cV}(h:dn nc N g m)(h1:N<=N')(h2:g<=g'):dn nc N' g' m:=
 { h with fg:=λc hc=>SY (h.fg c hc) h2,k:=h.k.mono h1,pg:=SY h.pg h2}
theorem lg{α:Type}{l:J α}{i:S}{x y:α}(h:y∈l.set i x):y∈l\/y=x:=TN h
theorem dn.Gm(h:dn nc N g m){n:U}(h0:0<=n)(h1:n<(nc:U)):m.cs[n.toNat]?=X (m.aj n)/\m.aj n∈m.cs:=by
 have hc:=h.cs;have hl:n.toNat<m.cs.length:=om
 have e:m.cs[n.toNat]?=X m.cs[n.toNat]:=gE hl;unfold cV.aj;rw[e];exact⟨O,Tq hl⟩
theorem dn.gF(h:dn nc N g m){n:U}{c:uu}(ht:(c.tl.length:U)<=m.room)(hn:c.bH≠0->0<=c.n/\c.n<(m.prog.length:U))(hf:c.told.forget.length<=g):dn nc N g (m.gF n c):=
 { h with
  cs:=by show(m.cs.set _ _).length=nc;rw[Ti];exact h.cs
  tl:=λx hx=>(lg hx).elim (λhx=>h.tl x hx) λe=>by rw[e];exact ht
  nr:=λx hx=>(lg hx).elim (λhx=>h.nr x hx) λe=>by rw[e];exact hn
  fg:=λx hx=>(lg hx).elim (λhx=>h.fg x hx) λe=>by rw[e];exact hf}
theorem CE(f a:U)(bx:J (J cD)):(oB f a bx).length=bx.length:=by
 unfold oB;split
 .rfl
 .simp
theorem Gc{f a:U}{bx:J (J cD)}(h:∀l∈bx,l.length<=64):∀l∈oB f a bx,l.length<=64:=by
 unfold oB;split
 .exact h
 .rename_i hn
  intro l hl;obtain⟨i,hi,e⟩:=List.mem_mapIdx.1 hl;have hm:=h _ (Tq hi);split at e
  .rw[<-e];exact hm
  .rename_i hne
   have hlt:(bx[i]).length<64:=by rw[Bool.not_eq_true,List.any_eq_false]at hn;have:=hn i (T6.2 hi);rw[gE hi]at this;simp only[TR,S4,qF,not_and]at this;have:=this hne;omega
   rw[<-e];simp;omega
theorem dn.lY(hN:qu)(n:U):∀(l:J dM)(m:cV),dn nc N g m->dn nc N g (cV.lY n l m)/\(cV.lY n l m).prog=m.prog
 | [],m,h=>⟨h,O⟩
 |x::l,m,h=>by
  have hb:dn nc N g { m with cs:=m.cs.set n.toNat { m.aj n with tl:=drop x.space x.aX (m.aj n).tl},bx:=oB n (qj.wrap (qj.wrap (x.space*4096)+x.aX)) m.bx}:=by
   have hz:∀c∈m.cs.set n.toNat { m.aj n with tl:=drop x.space x.aX (m.aj n).tl},c∈m.cs\/∃c'∈m.cs,c={ c' with tl:=drop x.space x.aX c'.tl}:=λc hc=>by
    by_cases hl:n.toNat<m.cs.length
    .rcases lg hc with hc|hc
     .exact .inl hc
     .refine .inr ⟨m.aj n,?_,hc⟩
      unfold cV.aj;rw[gE hl];exact Tq hl
    .rw[VS om]at hc
     exact .inl hc
   exact { h with
    cs:=by show(m.cs.set _ _).length=nc;rw[Ti];exact h.cs
    bx:=by show(oB _ _ _).length=nc;rw[CE];exact h.bx
    tl:=λc hc=>by
     rcases hz c hc with hm|⟨c',hm,rfl⟩
     .exact h.tl c hm
     .have:=h.tl c' hm
      have:=kN x.space x.aX c'.tl;dsimp only;omega
    nr:=λc hc=>by
     rcases hz c hc with hm|⟨c',hm,rfl⟩
     .exact h.nr c hm
     .exact h.nr c' hm
    fg:=λc hc=>by
     rcases hz c hc with hm|⟨c',hm,rfl⟩
     .exact h.fg c hm
     .exact h.fg c' hm
    EK:=Gc h.EK}
  exact dn.lY hN n l _ hb
theorem zX{n:U}{c:uu}(hn:n.toNat<m.cs.length):(m.gF n c).aj n=c:=by unfold cV.aj cV.gF;dsimp only;rw[SQ hn];rfl
def bU(l:J dM)(t:J dM):J dM:=l.foldl (λt x=>drop x.space x.aX t) t
def sW(x:dM):U:=qj.wrap (qj.wrap (x.space*4096)+x.aX)
def sendAll(n:U)(l:J dM)(b:J (J cD)):J (J cD):=l.foldl (λb x=>oB n (sW x) b) b
theorem yD(n:U):∀(l:J dM)(m:cV),n.toNat<m.cs.length->cV.lY n l m={ m with cs:=m.cs.set n.toNat { m.aj n with tl:=bU l (m.aj n).tl},bx:=sendAll n l m.bx}
 | [],m,h=>by
  have e:m.cs.set n.toNat { m.aj n with tl:=bU [] (m.aj n).tl}=m.cs:=by show m.cs.set n.toNat (m.aj n)=m.cs;unfold cV.aj;rw[gE h];exact UH h
  show m=_;rw[e];rfl
 |x::l,m,h=>by
  show cV.lY n l _=_;rw[yD n l _ (by show n.toNat<(m.cs.set _ _).length;rw[Ti];exact h)];have e:(cV.aj { m with cs:=m.cs.set n.toNat { m.aj n with tl:=drop x.space x.aX (m.aj n).tl},bx:=oB n (qj.wrap (qj.wrap (x.space*4096)+x.aX)) m.bx} n)={ m.aj n with tl:=drop x.space x.aX (m.aj n).tl}:=by unfold cV.aj;dsimp only;rw[SQ h];rfl
  rw[e];dsimp only;rw[List.set_set];rfl
theorem dn.HD(h:dn nc N g m)(hN:N+64<=100000){n:U}(h0:0<=n)(h1:n<(nc:U))(hd:(m.aj n).bH≠0):dn nc (N+64) (g+1) (m.HD n).2/\(m.HD n).1.t.forget.length<=g+1:=by
 obtain⟨hc1,hc2⟩:=h.Gm h0 h1;obtain⟨p1,p2⟩:=Gq h.k n (m.aI n);have hpg:=h.pg;have a1:dn nc (N+64) (g+1) ({ m with k:=(m.k.do n (m.aI n)).2}.gF n { m.aj n with told:=(m.k.do n (m.aI n)).1}):=by refine dn.gF (m:={ m with k:=(m.k.do n (m.aI n)).2}) ?_ (h.tl (m.aj n) hc2) (λ_=>h.nr (m.aj n) hc2 hd) (by show(m.k.do n (m.aI n)).1.forget.length<=_;omega);exact { h.mono (UL N 64) (UL g 1)with k:=h.k.do hN n (m.aI n),pg:=by show kC (m.k.do n (m.aI n)).2.af<=_;omega}
 obtain⟨a2,hp⟩:=a1.lY trivial n (m.k.do n (m.aI n)).1.forget _;refine⟨?_,by show(m.k.do n (m.aI n)).1.forget.length<=_;omega⟩;obtain⟨_,hc3⟩:=a2.Gm h0 h1;have hlt:n.toNat<m.cs.length:=(Sz.1 hc1).1;have hq:(cV.lY n (m.k.do n (m.aI n)).1.forget ({ m with k:=(m.k.do n (m.aI n)).2}.gF n { m.aj n with told:=(m.k.do n (m.aI n)).1})).aj n={ m.aj n with tl:=bU (m.k.do n (m.aI n)).1.forget (m.aj n).tl,told:=(m.k.do n (m.aI n)).1}:=by rw[yD n _ _ (by show n.toNat<(m.cs.set _ _).length;rw[Ti];exact hlt)];rw[zX (m:={ m with k:=(m.k.do n (m.aI n)).2}) hlt];unfold cV.aj cV.gF;dsimp only;rw[SQ (by rw[Ti];exact hlt)];rfl
 have t3:=a2.tl _ hc3;have t4:=a2.fg _ hc3;refine a2.gF t3 (λ_=>?_) t4;rw[hq,hp];exact h.nr (m.aj n) hc2 hd
theorem dn.step(h:dn nc N g m)(hN:N+64<=100000){n:U}(h0:0<=n)(h1:n<(nc:U)):dn nc (N+64) (g+1) (m.step n).2/\∀s,(m.step n).1=X s->s.t.forget.length<=g+1:=by
 obtain⟨hc1,hc2⟩:=h.Gm h0 h1;have h':=h.mono (UL N 64) (UL g 1);unfold cV.step;split
 .rename_i x r hb
  refine⟨?_,λs e=>by cases e⟩;have hd:=kN (qj.wrap (x.about.tdiv 4096)) (x.about.tmod 4096) (m.aj n).tl;have ht:=h.tl (m.aj n) hc2;have a:=h'.gF (n:=n) (c:={ m.aj n with tl:=drop (qj.wrap (x.about.tdiv 4096)) (x.about.tmod 4096) (m.aj n).tl}) (by dsimp only;omega) (h.nr (m.aj n) hc2) (h'.fg (m.aj n) hc2);exact { a with
   bx:=by show(m.bx.set _ _).length=nc;rw[Ti];exact h.bx
   EK:=λl hl=>by
    rcases lg hl with hl|hl
    .exact h.EK l hl
    .have hm:m.box n∈m.bx:=by
      unfold cV.box at hb|-;cases e:m.bx[n.toNat]? with
      |none=>rw[e]at hb;cases hb
      |some l=>exact SU e
     have:=h.EK _ hm;rw[hl,List.length_tail];omega}
 .split
  .refine ⟨?_,λs e=>by cases e;exact UA _⟩
   rename_i hd;have a:=h'.gF (n:=n) (c:={ m.aj n with bH:=2}) (h.tl (m.aj n) hc2) (λ_=>h.nr (m.aj n) hc2 (by rw[hd];decide)) (h'.fg (m.aj n) hc2);exact { a with
    NH:=by
     show(iG m.line n).Nodup;unfold iG;split
     .exact h.NH
     .rename_i hn
      exact Ug.2 ⟨h.NH,qc,λa ha b hb=>by rw[Tf]at hb;rintro rfl;exact hn (hb▸ha)⟩
    lr:=λc hc=>by
     unfold cV.gF iG at hc;dsimp only at hc;split at hc
     .exact h.lr c hc
     .rcases Tv.1 hc with hc|hc
      .exact h.lr c hc
      .rw[Tf.1 hc];exact⟨h0,h1⟩}
  split
  .split
   .rename_i hd _
    obtain⟨a,b⟩:=h.HD hN h0 h1 (by rw[hd];decide);exact⟨a,λs e=>by cases e;exact b⟩
   .exact ⟨h',λs e=>by cases e⟩
  split
  .refine ⟨?_,λs e=>by cases e;exact(h'.fg (m.aj n) hc2)⟩
   have a:=h'.gF (n:=n) (c:={ m.aj n with bH:=0}) (h.tl (m.aj n) hc2) (λhh=>qk O hh) (h'.fg (m.aj n) hc2);have hsub:(gd m.line n).Sublist m.line:=by
    unfold gd;split
    .exact List.tail_sublist _
    .exact List.Sublist.refl _
   exact { a with
    NH:=h.NH.sublist hsub
    lr:=λc hc=>h.lr c (hsub.subset hc)}
  .exact ⟨h',λs e=>by cases e⟩
theorem HY{aX:U}{t:J dM}(h1:1<=m.room)(ht:(t.length:U)<=m.room):((m.loadT aX t).2.2.length:U)<=m.room:=by
 unfold cV.loadT;split
 .exact ht
 split
 .exact J5 h1 ht
 .exact ht
theorem dn.load(h:dn nc N g m){n aX:U}(h0:0<=n)(h1:n<(nc:U)):dn nc N g (m.load n aX).2:=by obtain⟨hc1,hc2⟩:=h.Gm h0 h1;exact h.gF (HY h.r1 (h.tl (m.aj n) hc2)) (h.nr (m.aj n) hc2) (h.fg (m.aj n) hc2)
theorem dn.user(h:dn nc N g m){x:Item}(h0:0<=x.core)(h1:x.core<(nc:U))(ha:0<=x.a):dn nc N g (m.user x).2/\∀s,(m.user x).1=X s->s.t.forget.length<=g:=by
 obtain⟨hc1,hc2⟩:=h.Gm h0 h1;unfold cV.user;split
 .exact ⟨h,λs e=>by cases e⟩
 split
 .exact ⟨h.load h0 h1,λs e=>by cases e;exact UA _⟩
 split
 .rename_i hl
  exact⟨h.gF (h.tl (m.aj x.core) hc2) (λ_=>⟨ha,hl⟩) (h.fg (m.aj x.core) hc2),λs e=>by cases e⟩
 .exact ⟨h,λs e=>by cases e⟩
theorem rn{x:Item}{c:U}:fN x c=G↔0<=x.kind/\x.kind<4/\0<=x.core/\x.core<min c 8/\(0<=x.a/\x.a<=255)/\(0<=x.b/\x.b<=255):=by unfold fN;exact decide_eq_true_iff
theorem dn.item(h:dn nc N g m)(hN:N+64<=100000)(x:Item):dn nc (N+64) (g+1) (m.item x).2/\∀s,(m.item x).1=X s->s.t.forget.length<=g+1:=by
 have h':=h.mono (UL N 64) (UL g 1);have hcs:=h.cs;unfold cV.item;split
 .exact ⟨h',λs e=>by cases e⟩
 rename_i hr;have hr:fN x m.cs.length=true:=by cases e:fN x m.cs.length with|true=>rfl|false=>exact qk e hr
 obtain⟨k0,k1,c0,c1,⟨a0,a1⟩,b0,b1⟩:=rn.1 hr;have c2:x.core<(nc:U):=om
 split
 .obtain ⟨a,b⟩:=h.user c0 c2 a0
  exact⟨a.mono (UL N 64) (UL g 1),λs e=>SY (b s e) (UL g 1)⟩
 split
 .exact h.step hN c0 c2
 split
 .exact ⟨h',λs e=>by cases e⟩
 split
 .refine ⟨{ h' with k:=(h.k.irq x.a).mono om,pg:=by show kC (m.k.irq x.a).2.2.af<=_;rw[Ko];exact h'.pg},λs e=>by cases e;exact UA _⟩
 .exact ⟨{ h' with k:=(h.k.tick x.core).mono om},λs e=>by cases e;exact UA _⟩
def bF:dX cD:=⟨3,λo=>[.z o.dP,.z o.kind,.z o.about],λ_=>rfl,λx v h=>by simp only[SH,TE,qG]at h;rcases h with rfl|rfl|rfl<;>rfl,qb⟩
def aN:dX Call:=⟨6,λo=>o.cl,λ_=>rfl,λx v h=>by simp only[SH,TE,qG]at h;rcases h with rfl|rfl|rfl|rfl|rfl|rfl<;>rfl,qb⟩
def nz:dX (qg S):=⟨1,λo=>[.pointer (o.map λp=>⟨p,0,Q⟩)],λ_=>rfl,λx v h=>by simp only[SH,TE,qG]at h;subst h;rfl,qb⟩
structure Cm where
 p:S
 bH:U
 n:U
 e:U
 w:U
 wk:U
 fs:Sl
def cE:dX Cm:=⟨7,λo=>[.q o.p,.z o.bH,.z o.n,.z o.e,.y o.w,.z o.wk,o.fs.v],λ_=>rfl,λx v h=>by simp only[SH,TE,qG]at h;rcases h with rfl|rfl|rfl|rfl|rfl|rfl|rfl<;>rfl,qb⟩
def bu(b:S)(room:U)(l:J dM):aG:=oA λs:Sl=>aQ [ae b [s.v,.z room],ag au s l]
def cM(room:U)(p:S)(x:uu × Sl):aG:=aQ [bu p room x.1.tl,ag au x.2 x.1.told.forget]
def cU(b:S)(bx:J (J cD)):aG:=oA λx:Sl × J Sl=>aQ [ae b [x.1.v],ag lH x.1 x.2,bA bF x.2 bx]
def gg(p:S)(x:qg S × U):aG:=ae p [.z x.2,.pointer (x.1.map λq=>⟨q,0,Q⟩),.bool G]
def kI:qg S->aG
 |none=>aQ []
 |some q=>oA λc:U=>ae q [.z c,.pointer Q,.bool qd]
structure Lx where
 a0:qg S
 s:Sl
 wx:J (qg S)
 ps:J S
structure L5(nc:S)(line:J U)(x:Lx):Prop where
 len:x.wx.length=nc
 ps:x.ps.length=line.length
 nd:line.Nodup
 zr:∀c∈line,0<=c/\c<(nc:U)
 at_:∀(j:S)(c:U)(p:S),line[j]?=X c->x.ps[j]?=X p->x.wx[c.toNat]?=X (X p)
 no:∀i:S,i<nc->(i:U)∉line->x.wx[i]?=X Q
def kW:qg S->J S->qg S
 |a,[]=>a
 |_,p::ps=>kW (X p) ps
def chain:qg S->J S->J U->J (qg S × U)
 |a,p::ps,c::cs=>(a,c)::chain (X p) ps cs
 |_,_,_=>[]
abbrev G2(x:Lx):qg S:=kW x.a0 x.ps
abbrev Ai(x:Lx)(line:J U):J (qg S × U):=chain x.a0 x.ps line
def bo(b nc:S)(line:J U):aG:=oA λx:Lx=>aQ [dw (L5 nc line x),ae b [.z (nc:U),.pointer ((G2 x).map λq=>⟨q,0,Q⟩),x.s.v],ag nz x.s x.wx,kI x.a0,aq gg x.ps (Ai x line)]
def cm(p:S)(x:uu × Sl):Cm:=⟨p,x.1.bH,x.1.n,x.1.told.e,x.1.told.w,x.1.told.cv,x.2⟩
abbrev gV(ps:J S)(xs:J (uu × Sl)):J Cm:=SC cm ps xs
structure Mx where
 k:S
 l:S
 b:S
 cs:Sl
 pr:Sl
 ps:J S
 xs:J (uu × Sl)
abbrev cX(x:Mx):J V:=[.q x.k,.q x.l,.q x.b,x.cs.v,x.pr.v]
def bX(pr:Sl)(b:S)(m:cV):aG:=oA λx:Mx=>aQ [dw (x.xs.map (·.1)=m.cs/\x.pr=pr),ae b (cX x),ao x.k m.k,bo x.l m.cs.length m.line,cU x.b m.bx,ag cE x.cs (gV x.ps x.xs),aq (cM m.room) x.ps x.xs,ag aN x.pr m.prog]
theorem wm{room:U}{l:J dM}(h:Ow B w0 w (bu b room l::R)):∃s:Sl,Ow B w0 w (ae b [s.v,.z room]::ag au s l::R):=by obtain⟨s,h⟩:=h.ex;exact⟨s,h.star⟩
theorem gK{s:Sl}{room:U}{l:J dM}(h:Ow B w0 w (ae b [s.v,.z room]::ag au s l::R)):Ow B w0 w (bu b room l::R):=Ow.eu s (Ow.aR h)
theorem EM{bx:J (J cD)}(h:Ow B w0 w (cU b bx::R)):∃(s:Sl)(ss:J Sl),Ow B w0 w (ae b [s.v]::ag lH s ss::bA bF ss bx::R):=by obtain⟨x,h⟩:=h.ex;exact⟨x.1,x.2,h.star⟩
theorem sk{s:Sl}{ss:J Sl}{bx:J (J cD)}(h:Ow B w0 w (ae b [s.v]::ag lH s ss::bA bF ss bx::R)):Ow B w0 w (cU b bx::R):=Ow.eu (s,ss) (Ow.aR h)
theorem tD{nc:S}{line:J U}(h:Ow B w0 w (bo b nc line::R)):∃x:Lx,L5 nc line x/\Ow B w0 w (ae b [.z (nc:U),.pointer ((G2 x).map λq=>⟨q,0,Q⟩),x.s.v]::ag nz x.s x.wx::kI x.a0::aq gg x.ps (Ai x line)::R):=by obtain⟨x,h⟩:=h.ex;obtain⟨h1,h⟩:=Ow.pure h.star;exact⟨x,h1,h⟩
theorem rf{nc:S}{line:J U}(x:Lx)(hx:L5 nc line x)(h:Ow B w0 w (ae b [.z (nc:U),.pointer ((G2 x).map λq=>⟨q,0,Q⟩),x.s.v]::ag nz x.s x.wx::kI x.a0::aq gg x.ps (Ai x line)::R)):Ow B w0 w (bo b nc line::R):=
 Ow.eu x (Ow.aR (Ow.cI hx h))
theorem xI{pr:Sl}{m:cV}(h:Ow B w0 w (bX pr b m::R)):∃x:Mx,(x.xs.map (·.1)=m.cs/\x.pr=pr)/\Ow B w0 w (ae b (cX x)::ao x.k m.k::bo x.l m.cs.length m.line::cU x.b m.bx::ag cE x.cs (gV x.ps x.xs)::aq (cM m.room) x.ps x.xs::ag aN x.pr m.prog::R):=by obtain⟨x,h⟩:=h.ex;obtain⟨h1,h⟩:=Ow.pure h.star;exact⟨x,h1,h⟩
theorem lh{pr:Sl}(x:Mx){m:cV}(hx:x.xs.map (·.1)=m.cs/\x.pr=pr)(h:Ow B w0 w (ae b (cX x)::ao x.k m.k::bo x.l m.cs.length m.line::cU x.b m.bx::ag cE x.cs (gV x.ps x.xs)::aq (cM m.room) x.ps x.xs::ag aN x.pr m.prog::R)):Ow B w0 w (bX pr b m::R):=
 Ow.eu x (Ow.aR (Ow.cI hx h))
end
end Mc
end Go.Vc
