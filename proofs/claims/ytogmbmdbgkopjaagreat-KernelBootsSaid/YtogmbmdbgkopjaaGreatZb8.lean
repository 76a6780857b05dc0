/- What the row rests on: the declarations that it needs, out of my texts (part 8). -/
import Derived.Test.YtogmbmdbgkopjaaGreatZb7
import Derived.LoopIn
import Derived.LoopNIn
import Derived.Maps.AppendAt
import Derived.OwnWalkIn
import Derived.RangeFuncBox
import Derived.RangeFuncCalls
import Derived.RangeFuncGives
import Derived.RangeFuncIn
import Derived.RangeFuncLeaves
import Derived.RangeFuncNested
import Derived.RangeFuncRecord
import Derived.RangeFuncSeq
import Derived.Shelf.Abstract
import Derived.Sort.MapsRangeIn
import Derived.TacticsInMore
set_option linter.unusedVariables false
set_option linter.unusedSimpArgs false
set_option linter.unusedSectionVars false
section
namespace Go.Proofs.YtogmbmdbgkopjaaGreat.Sl
open Go Go.Proofs Go.RowKit Go.Shelf
open Go.ChangeMaps (setBlock)
attribute [local go_sem] Oper.semAt_some
section
variable {F:Fence} {n:Nat} {P:Program} (w:World) {ops:Array Oper} {rest:List Oper} {o:Oper} {a:Act} {Q:Exit->Act->Pw}
theorem wpListIn_range_raw (hg:o.guard=none) (m:Operand) (t:TypeId) (hop:o.op=Op.range t m) {b:Nat} (hm:a.eval m= .map (some b)) {v:Value} {w':World} (hrun:(Instr.range t (.map (some b))).run P w= .ok v w')
  (hK:wpListIn F n P ops Q rest (a.put o.dst v) w'):wpListIn F n P ops Q (o::rest) a w:=by
 refine wpListIn_plain hg fun K' hK'=>?_
 unfold Oper.wpIn;refine ⟨?_,?_⟩
 ·simp[Oper.about,hop]
 ·rw[Oper.semAt_plain F _ _ (by rw[hop];intro c hc';cases hc')]
  simp[execOp,hop,hm,hrun,Result.andThen];exact hK' _ _ hK
theorem wpListIn_next_raw (hg:o.guard=none) (it:Operand) (hop:o.op=Op.next it false) {p:Value} (hit:a.eval it=p) {v:Value} {w':World} (hrun:(Instr.next p false o.type).run P w= .ok v w')
  (hK:wpListIn F n P ops Q rest (a.put o.dst v) w'):wpListIn F n P ops Q (o::rest) a w:=by
 refine wpListIn_plain hg fun K' hK'=>?_
 unfold Oper.wpIn;refine ⟨by simp[Oper.about,hop],?_⟩;rw[Oper.semAt_plain F _ _ (by rw[hop];intro c hc';cases hc')];simp[execOp,hop,hit,hrun,Result.andThen];exact hK' _ _ hK
end
theorem left_perm:∀(l:List MapEntry) (e:MapEntry),(l.map (·.born)).Nodup->e∈l->l.Perm (e::l.filter fun x=>x.born !=e.born)
 | [],e,_,h=>by simp at h
 |a::l,e,hn,h=>by
  rw[List.map_cons,List.nodup_cons] at hn;rw[List.filter_cons];rcases List.mem_cons.1 h with rfl|h
  ·have:l.filter (fun x=>x.born !=e.born)=l:=List.filter_eq_self.2 fun x hx=>by
    simp only[bne_iff_ne,ne_eq];exact fun e'=>hn.1 (List.mem_map.2 ⟨x,hx,e'⟩)
   simp[this]
  ·have hne:(a.born !=e.born)=true:=by
    simp only[bne_iff_ne,ne_eq];exact fun e'=>hn.1 (List.mem_map.2 ⟨e,h,e'.symm⟩)
   rw[hne,if_pos rfl];exact ((left_perm l e hn.2 h).cons a).trans (List.Perm.swap _ _ _)
theorem left_push (es:Array MapEntry) (seen:Array Nat) (e:MapEntry):(leftOf es (seen.push e.born)).toList=(leftOf es seen).toList.filter fun x=>x.born !=e.born:=by
 unfold leftOf;rw[Array.toList_filter,Array.toList_filter,List.filter_filter];congr 1;funext x;rw[Array.contains_push];cases hq:(x.born==e.born)<;>simp[bne,hq]
def leftN (b it:Nat) (w:World):Nat:=match w.heap[b]?,w.heap[it]? with
 |some (.map es _),some (.mapIter _ _ seen _)=>(leftOf es seen).size
 |_,_=>0
theorem leftN_eq {b it:Nat} {w:World} {es:Array MapEntry} {c:Nat} {m:Option Nat} {since c0:Nat} {seen:Array Nat} (h1:w.heap[b]?=some (.map es c)) (h2:w.heap[it]?=some (.mapIter m since seen c0)):leftN b it w=(leftOf es seen).size:=by
 unfold leftN;rw[h1,h2]
def pairV (x:Int × Int):Value:= .agg #[.z x.1, .z x.2]
def pairC (x:Int × Int):List Value:=[.z x.1, .z x.2]
theorem cell_two_new (w:World) (x y:Value) (t:TypeId):∀j u,[x,y][j]?=some u->(w.alloc (.cells #[x,y] t)).cell? ((⟨w.heap.size,0,none⟩:Addr).add j)=some u:=by
 intro j u hj
 match j,hj with
 |0,hj=>simp at hj;subst hj;simp[Addr.add]
 |1,hj=>simp at hj;subst hj;simp[Addr.add]
theorem hpair (x:Int × Int):pairV x= .agg #[.z x.1, .z x.2]:=rfl
def decP:Value->Int × Int
 | .agg ⟨[.int _ a, .int _ b]⟩=>(a,b)
 |_=>(0,0)
set_option maxRecDepth 100000 in
set_option maxHeartbeats 2000000 in
theorem keysK_in (n:Nat) (hn:1≤n) (l Bm b:Nat) (es:Array MapEntry) (c:Nat) (ks:List (Int × Int)) (hks:es.toList.map (·.key)=ks.map pairV) (hborn:(es.toList.map (·.born)).Nodup) (hlt:∀e∈es.toList,e.born<c) (J Jx:List (Int × Int)->Pw)
  (hY:∀pre x W,J pre W->pre.length<ks.length->YieldAt Fence.wide (n-1) Tryz.prog l #[pairV x] W fun e W'=>
   (e= .returned (.bool true)/\J (pre++ [x]) W'/\KeepsWalks W W')∨(e= .returned (.bool false)/\Jx (pre++ [x]) W'))
  (W:World) (hJ:AbidesFrom W.heap.size J) (hm:W.cell? ⟨Bm,0,none⟩=some (.map (some b))) (hb:W.heap[b]?=some (.map es c)) (h0:J [] W):
  CallsIn Fence.wide n Tryz.prog 196 #[.func (.yield l) #[] #[], .pointer (some ⟨Bm,0,none⟩)] W fun e W'=>(∃v,e= .returned v)/\
   ((∃ss:List (Int × Int),ss.Perm ks/\J ss W')∨(∃pre:List (Int × Int),True/\Jx pre W')):=by
 have hblt:b<W.heap.size:=(Array.getElem?_eq_some_iff.1 hb).1;refine callsIn_of_wp Tryz.func196 rfl trivial ?_ rfl;simp only[Tryz.ntmps196,List.size_toArray,List.length_cons,List.length_nil,Nat.reduceAdd,Nat.reduceSub,Array.replicate_succ,Array.replicate_zero,List.push_toArray,List.append_toArray,List.nil_append,List.cons_append];have hrun:=run_range_map (P:=Tryz.prog) W 180 40 42 b es c Tryz.underlying180 hb
 gi_wp2_with (first
  |(gi_at_range;refine wpListIn_range_raw _ rfl _ 180 rfl rfl hrun ?_)
  |gi_in)
 go_frame
 have hW0:∀k,k<W.heap.size->(W.alloc (.mapIter (some b) c #[] c)).heap[k]?=W.heap[k]?:=fun k hk=>Below.heap_alloc W _ k hk
 gi_loopw [3] (fun _ wr=>∃(ss:List (Int × Int)) (seen:Array Nat) (c0:Nat),wr.heap[b]?=some (.map es c)/\wr.heap[W.heap.size]?=some (.mapIter (some b) c seen c0)/\c≤c0/\(ss.map pairV++(leftOf es seen).toList.map (·.key)).Perm (es.toList.map (·.key))/\J ss wr)
  (fun _ wr=>leftN b W.heap.size wr)
 case atStart=>
  refine ⟨[], #[],c,(hW0 b hblt).trans hb,by show (W.heap.push _)[W.heap.size]?=_;simp,Nat.le_refl _,?_,hJ [] W _ none h0 (World.grownBy_alloc W _ none) (fun r e=>by cases e)⟩;have:leftOf es #[]=es:=by unfold leftOf;simp
  rw[this];exact List.Perm.refl _
 case round=>
  obtain ⟨ss,seen,c0,hb1,hi1,hc0,hp,hJs⟩:=hrel;rcases run_next_at (P:=Tryz.prog) wr 0 W.heap.size b c c0 seen es c hi1 hb1 hlt hc0 with ⟨hsz,hnx⟩|⟨e,he,w1,hw1,hnx⟩
  ·gi_wp2_with (first
    |(gi_at_next;refine wpListIn_next_raw _ rfl _ rfl rfl hnx ?_)
    |gi_in)
   go_end0
   have hl:(leftOf es seen).toList= []:=List.eq_nil_of_length_eq_zero (by simpa using hsz);rw[hl,hks] at hp;simp only[List.map_nil,List.append_nil] at hp;have hp2:=hp.map decP;rw[List.map_map,List.map_map] at hp2
   have hid:∀l:List (Int × Int),l.map (decP∘pairV)=l:=fun l=>by
    refine (List.map_congr_left fun x _=>rfl).trans (List.map_id _)
   rw[hid,hid] at hp2;exact ⟨⟨_,rfl⟩, .inl ⟨ss,hp2,hJs⟩⟩
  ·have hmem:e∈es.toList:=by
    have:=Array.mem_toList_iff.1 he;unfold leftOf at this;exact Array.mem_toList_iff.2 (Array.mem_filter.1 this).1
   obtain ⟨x,hx,hkx⟩:∃x∈ks,pairV x=e.key:=by
    have:e.key∈es.toList.map (·.key):=List.mem_map.2 ⟨e,hmem,rfl⟩;rw[hks] at this;obtain ⟨x,hx,h⟩:=List.mem_map.1 this;exact ⟨x,hx,h⟩
   have hne:b≠W.heap.size:=by omega
   have hw1h:w1.heap=wr.heap:=by rcases hw1 with rfl|rfl<;>rfl
   obtain ⟨w2,hw2⟩:∃w2,setBlock w1 W.heap.size (.mapIter (some b) c (seen.push e.born) c)=w2:=⟨_,rfl⟩
   rw[hw2] at hnx;have hilt:W.heap.size<w1.heap.size:=by rw[hw1h];exact (Array.getElem?_eq_some_iff.1 hi1).1
   have hi2:w2.heap[W.heap.size]?=some (.mapIter (some b) c (seen.push e.born) c):=by rw[←hw2];simp[setBlock,Array.getElem?_setIfInBounds_self_of_lt hilt]
   have hb2:w2.heap[b]?=some (.map es c):=by
    rw[←hw2];show (w1.heap.setIfInBounds W.heap.size _)[b]?=_;rw[Array.getElem?_setIfInBounds_ne (by omega),hw1h];exact hb1
   have hen:=run_entry_at (P:=Tryz.prog) w2 W.heap.size b c seen es c e hi2 hb2 hmem hborn
   have hg2:wr.grownBy w2 (some W.heap.size):=by
    rw[←hw2];refine ⟨?_,?_,?_,?_,fun k hk hkr=>?_⟩
    ·rcases hw1 with rfl|rfl<;>rfl
    ·rcases hw1 with rfl|rfl<;>rfl
    ·rcases hw1 with rfl|rfl<;>rfl
    ·show wr.heap.size≤(w1.heap.setIfInBounds W.heap.size _).size
     rw[Array.size_setIfInBounds,hw1h];exact Nat.le_refl _
    ·show (w1.heap.setIfInBounds W.heap.size _)[k]?=_
     rw[Array.getElem?_setIfInBounds_ne (fun e'=>hkr (by rw[e'])),hw1h]
   have hlp:=left_perm (leftOf es seen).toList e (by
    unfold leftOf;rw[Array.toList_filter];exact hborn.sublist (List.filter_sublist.map _)) he
   rw[←left_push] at hlp
   have hp2:((ss++ [x]).map pairV++(leftOf es (seen.push e.born)).toList.map (·.key)).Perm (es.toList.map (·.key)):=by
    refine List.Perm.trans ?_ hp;rw[List.map_append,List.append_assoc];refine List.Perm.append_left _ ?_;have:=hlp.map (·.key);rw[List.map_cons] at this;show (pairV x::_).Perm _;rw[hkx];exact this.symm
   have hsslt:ss.length<ks.length:=by
    have h1:=hp2.length_eq;have h2:=congrArg List.length hks;simp only[List.length_append,List.length_map,List.length_cons,List.length_nil] at h1 h2;omega
   have hJ2:J ss w2:=hJ ss wr w2 (some W.heap.size) hJs hg2 (fun r e'=>by cases e';exact ⟨Nat.le_refl _,_,hi1,rfl⟩);rw[←hkx,hpair] at hnx hen;obtain ⟨x1,x2⟩:=x;dsimp only at hnx hen;have hb2':(w2.alloc (.cells #[.z x1, .z x2] 40)).heap[b]?=some (.map es c):=(Below.heap_alloc w2 _ b (Array.getElem?_eq_some_iff.1 hb2).1).trans hb2;have hi2':(w2.alloc (.cells #[.z x1, .z x2] 40)).heap[W.heap.size]?=some (.mapIter (some b) c (seen.push e.born) c):=(Below.heap_alloc w2 _ _ (Array.getElem?_eq_some_iff.1 hi2).1).trans hi2;have hJ2':=hJ ss w2 _ none hJ2 (World.grownBy_alloc w2 (.cells #[.z x1, .z x2] 40) none) (fun r e=>by cases e);obtain ⟨fn,tmps,assign,body,hy,hR⟩:=hY ss (x1,x2) _ hJ2' hsslt;rw[hpair] at hy;dsimp only at hy
   have hms:(leftOf es (seen.push e.born)).size<(leftOf es seen).size:=by
    have h1:=hlp.length_eq;simp only[Array.length_toList,List.length_cons] at h1;omega
   clear hw2 hkx
   gi_wp2_with (first
    |(gi_at_next;refine wpListIn_next_raw _ rfl _ rfl rfl hnx ?_)
    |gi_in)
   refine hR.mono ?_;rintro e2 W3 (⟨rfl,hJ3,hk3⟩|⟨rfl,hJx3⟩)
   ·gi_wp2
    have hb3:=hk3.same b _ hb2' rfl;have hi3:=hk3.same W.heap.size _ hi2' rfl
    go_roundw
    case rel=>exact ⟨ss++ [(x1,x2)],seen.push e.born,c,hb3,hi3,Nat.le_refl _,hp2,hJ3⟩
    case measure=>rw[leftN_eq hb3 hi3,leftN_eq hb1 hi1];exact hms
   ·gi_wp2
    refine bodyPost_ret (results_none rfl _ _ _) rfl ?_;exact ⟨⟨_,rfl⟩, .inr ⟨ss++ [(x1,x2)],trivial,hJx3⟩⟩
theorem keysK_stops (n:Nat) (hn:1≤n) (Bm b:Nat) (es:Array MapEntry) (c:Nat) (ks:List (Int × Int)) (hks:es.toList.map (·.key)=ks.map pairV) (hborn:(es.toList.map (·.born)).Nodup) (hlt:∀e∈es.toList,e.born<c)
  (w:World) (hBm:Bm<w.heap.size) (hm:w.cell? ⟨Bm,0,none⟩=some (.map (some b))) (hb:w.heap[b]?=some (.map es c)):
  SeqStops Fence.wide n Tryz.prog 196 #[.pointer (some ⟨Bm,0,none⟩)] pairV (fun ss=>ss.Perm ks) (fun _=>True) ks.length w:=fun l J Jx W hW hJ _ hY h0=>
 keysK_in n hn l Bm b es c ks hks hborn hlt J Jx hY W hJ ((hW.cell (p:=⟨Bm,0,none⟩) hBm).trans hm) ((hW.block b (Array.getElem?_eq_some_iff.1 hb).1).trans hb) h0
theorem infoS:(Tryz.prog.info? 40).map (fun i=>(i.zero,i.size,i.bytes))=some (some (.agg #[.z 0, .z 0]),2,16):=by kernel_rfl
set_option maxRecDepth 100000 in
set_option maxHeartbeats 2000000 in
theorem appendSeqK (g:Nat) (lb:Array Value) (eg:∀args w,(callFunc g args).run Tryz.prog w= .ok (.enter g args) w) (S:List (Int × Int)->Prop) (N:Nat) (hN:N≤1000000) (w:World) (hseq:SeqStops Fence.wide 1 Tryz.prog g lb pairV S (fun _=>True) N w):
  CallsIn Fence.wide 2 Tryz.prog 271 #[.slice none 0 0, .func (.func g) #[] lb] w fun e w'=>∃(v:Value) (ss:List (Int × Int)),e= .returned v/\S ss/\w'.ownsRow w.heap.size 40 2 v ss.length (ss.flatMap pairC)/\Below w.heap.size w w':=by
 obtain ⟨i0,hi,hz0,hz1,hz2⟩:=info_parts infoS;refine callsIn_of_wp_marks Tryz.func271 rfl trivial ?_ rfl;simp only[Tryz.ntmps271,List.size_toArray,List.length_cons,List.length_nil,Nat.reduceAdd,Nat.reduceSub,Array.replicate_succ,Array.replicate_zero,List.push_toArray,List.append_toArray,List.nil_append,List.cons_append]
 gi_wp2
 have bO:=Boxed.new w 79 (.slice none 0 0);have hB0:Below w.heap.size w (w.alloc (.cells #[.slice none 0 0] 79)):=(Below.refl _ w).alloc (Nat.le_refl _) _
 refine wpIn_rangeFunc_ownH (α:=Int × Int) (encs:=fun x=> #[pairV x]) (Kp:=KeepsWalks) rfl (by decide) (gf:=g) (lb:=lb) rfl trivial eg hseq walksK_t walksK_b hB0 (fun _=>rfl)
  (fun (pre:List (Int × Int)) W=>(∃v,Boxed W w.heap.size 79 v/\W.ownsRow w.heap.size 40 2 v pre.length (pre.flatMap pairC)/\True)/\Below w.heap.size w W)
  (fun _ _ _=>False)
  (OwnFrom.and (Own.from (holdsRow_own w.heap.size w.heap.size 79 40 2 (fun (pre:List (Int × Int))=>pre.length) (fun (pre:List (Int × Int))=>pre.flatMap pairC) (fun (pre:List (Int × Int)) v=>True)) _) (ownFrom_below (Nat.le_refl _) (by simp)))
  (fun _ _ _ _ _ hs _ _=>hs)
  ⟨⟨_,bO,World.ownsRow_nil _ _ _ _,trivial⟩,hB0⟩
  (fun x a' W=>∃p,a'={ tmps:= #[.slice none 0 0, .func (.func g) #[] lb, .pointer (some ⟨w.heap.size,0,none⟩),undef, .slice none 0 0, .pointer (some ⟨p,0,none⟩), .func (.func g) #[] lb, .agg #[.z x.1, .z x.2],undef,undef,undef,undef,undef],defers:=[]}/\W.heap[p]?=some (.cells #[.z x.1, .z x.2] 40 (0,0)))
  (fun x a'=>by
   rintro _ X Y row ⟨p,ha,hp⟩ hg hr;refine ⟨p,ha,(hg.block p (Array.getElem?_eq_some_iff.1 hp).1 fun e=>?_).trans hp⟩;obtain ⟨_,o,ho,hc⟩:=hr p e.symm;rw[hp] at ho;cases ho;cases hc)
  ?assign ?body ?done ?stop
 case assign=>
  rintro l pre ⟨x1,x2⟩ W K ⟨⟨v,hv,hrow,_⟩,hB⟩ hK;dsimp only[pairV]
  gi_wp2
  refine hK _ _ ((KeepsOthers.alloc W _).from _) ⟨(KeepsOthers.alloc W _).size,fun k o h1 h2=>(KeepsOthers.alloc W _).same k o h1 (by cases o<;>simp_all [Obj.isWalk,Obj.isCells])⟩ ⟨⟨v,hv.alloc _,hrow.alloc _,trivial⟩,hB.alloc (by have:=hB.size;omega) _⟩ ⟨_,rfl,World.alloc_heap_new _ _⟩
 case body=>
  rintro l pre ⟨x1,x2⟩ a' W _ _ ⟨⟨v,hv,hrow,_⟩,hB⟩ ⟨p,rfl,hp⟩ hlt;have hc:=hv.cell;have hp0:W.cell? ⟨p,0,none⟩=some (.z x1):=by simp[World.cell?,hp]
  have hp1:W.cell? ⟨p,1,none⟩=some (.z x2):=by simp[World.cell?,hp]
  gi_wp2_with (gi_at_builtin;refine wpListIn_append_own _ rfl _ _ 79 rfl w.heap.size 40 i0 (.agg #[.z 0, .z 0]) 2 16 Tryz.underlying79 hi hz0 hz1 hz2 rfl (by decide) _ _ _ rfl (hrow.alloc _) ⟨W.heap.size,0,none⟩ 1 1 [.z x1, .z x2] rfl rfl (cell_two_new _ _ _ _) (by simp[Value.oneCell']) (Nat.le_trans (show pre.length+1≤1000001 by omega) (by decide)) (by omega) (by have:=hB.size;simp;omega) ?_;intro v' w1 hown' hgrow _;obtain ⟨g',cap',rfl⟩:=ownsRow_succ hown';obtain ⟨hv1,hv2,hr2,hk2,hb2⟩:=hv.appended (by decide) hrow hB.size (Nat.le_refl _) hown' hgrow;have hc1:=hv1.cell;have hf1:=hv1.frozen)
  exact ⟨hk2.from _,⟨hk2.size,fun k o h1 h2=>hk2.same k o h1 (by cases o<;>simp_all [Obj.isWalk,Obj.isCells])⟩,⟨_,hv2,by rw[List.flatMap_append,List.length_append];exact hr2⟩,hB.trans hb2⟩
 case done=>
  rintro D ys W hD hS ⟨⟨v,hv,hrow,_⟩,hB⟩ hK;have hc:=hv.cell
  gi_wp2
  refine ⟨by simp, .inl ⟨_,_,rfl,run_takeDeferred hK,?_⟩⟩;exact ⟨_,results_tmp rfl _ _ _,v,ys,rfl,hS,ownsRow_putObj hrow _ hK rfl,hB.trans (belowK_b (w:=w) (Nat.le_refl _) W D _ _ (by simp at hD;omega) hK rfl rfl)⟩
 case stop=>
  rintro D c pre W _ _ h _;exact h.elim
end Go.Proofs.YtogmbmdbgkopjaaGreat.Sl
end
section
set_option maxRecDepth 8000
namespace Go.Proofs.YtogmbmdbgkopjaaGreat.Sl
open Go Go.Vc Go.Proofs Go.Shelf
def cmpI (x y:Int):Int:=if x<y then -1 else if y<x then 1 else 0
def cmpS (a b:Slot):Int:=if cmpI a.1 b.1≠0 then cmpI a.1 b.1 else cmpI a.2 b.2
def ltS (a b:Slot):Bool:=decide (a.1<b.1∨(a.1=b.1/\a.2<b.2))
theorem ltOf_cmpS (a b:Slot):Go.Proofs.ltOf cmpS a b=ltS a b:=by
 unfold Go.Proofs.ltOf ltS cmpS cmpI;rw[decide_eq_decide];by_cases h1:a.1<b.1
 ·simp[h1]
 ·by_cases h2:b.1<a.1
  ·simp[h1,h2];omega
  ·have:a.1=b.1:=by omega
   simp[h1,h2,this];by_cases h3:a.2<b.2
   ·simp[h3]
   ·by_cases h4:b.2<a.2<;>simp[h3,h4]
theorem swoS:Go.Sort.SWO (Go.Proofs.ltOf cmpS) where
 irrefl x:=by rw[ltOf_cmpS];simp[ltS]
 trans x y z h1 h2:=by rw[ltOf_cmpS] at *;simp only[ltS,decide_eq_true_eq] at *;omega
 ntrans x y z h1 h2:=by rw[ltOf_cmpS] at *;simp only[ltS,decide_eq_false_iff_not] at *;omega
theorem totS (x y:Slot) (h1:Go.Proofs.ltOf cmpS x y=false) (h2:Go.Proofs.ltOf cmpS y x=false):x=y:=by
 rw[ltOf_cmpS] at*
 simp only[ltS,decide_eq_false_iff_not] at*
 exact Prod.ext (by omega) (by omega)
theorem cmp_isNaN_spec {x:Int} {K:Bool->Pw} {w:World} (h:K false w):C.qcc x K w:=by
 apply S.qcc0;rw[show (x !=x)=false from by simp];exact h
theorem cmp_Compare_spec {x y:Int} {K:Int->Pw} {w:World} (h:K (cmpI x y) w):C.qbx x y K w:=by
 apply S.qbx0;refine cmp_isNaN_spec (cmp_isNaN_spec ?_);refine cbF rfl (cbF rfl ?_);by_cases h1:x<y
 ·refine cdecT h1 ?_
  rwa [show cmpI x y= -1 from by unfold cmpI;rw[if_pos h1]] at h
 ·refine cdecF h1 ?_
  by_cases h2:x>y
  ·refine cdecT h2 ?_
   rwa [show cmpI x y=1 from by unfold cmpI;rw[if_neg h1,if_pos h2]] at h
  ·refine cdecF h2 ?_
   rwa [show cmpI x y=0 from by unfold cmpI;rw[if_neg h1,if_neg h2]] at h
theorem cmp_Or_spec {p:Nat} {x y:Int} {K:Int->Pw} {w:World} (h0:w.cell? ⟨p,0,none⟩=some (.z x)) (h1:w.cell? ⟨p,1,none⟩=some (.z y)) (h:K (if x≠0 then x else y) w):C.qcZ ⟨some ⟨p,0,none⟩,2,2⟩ K w:=by
 apply S.qcZ0;intro l2 hl2;apply hl2;refine cdecT (show (0:Int)<((2:Nat):Int) by decide) ?_;refine ⟨_,rfl,(show (0:Int)≤0 by decide),(show (0:Int)<((2:Nat):Int) by decide),x,h0,?_⟩;by_cases e:x=0
 ·subst e
  refine cbF rfl ?_;rw[show IntKind.i64.wrap ((0:Int)+1)=1 from by decide];apply hl2;refine cdecT (show (1:Int)<((2:Nat):Int) by decide) ?_;refine ⟨_,rfl,(show (0:Int)≤1 by decide),(show (1:Int)<((2:Nat):Int) by decide),y,h1,?_⟩;rw[if_neg (by simp)] at h;by_cases e2:y=0
  ·subst e2
   refine cbF rfl ?_;rw[show IntKind.i64.wrap ((1:Int)+1)=2 from by decide];apply hl2;refine cdecF (show ¬(2:Int)<((2:Nat):Int) by decide) ?_;exact h
  ·exact cbT (by simpa using e2) h
 ·rw[if_pos e] at h
  exact cbT (by simpa using e) h
theorem cell_of {w:World} {b:Nat} {l:List Value} {t:TypeId} (h:w.heap[b]?=some (.cells ⟨l⟩ t)) {o:Nat} {v:Value} (hv:l[o]?=some v):w.cell? ⟨b,o,none⟩=some v:=by
 simp[World.cell?,h,hv]
theorem order_grow (a b:Slot) (w:World):C.qdf a.1 a.2 b.1 b.2 (fun r w'=>r=cmpS a b/\∃q os',w'=Go.Sort.grow (w.drewN q) os') w:=by
 apply S.qdf0;unfold S.qdf
 have hA:(((w.alloc (.cells #[.z a.1, .z a.2] 40)).alloc (.cells #[.z b.1, .z b.2] 40)).drew).heap[w.heap.size]?=some (.cells #[.z a.1, .z a.2] 40):=
  (RowKit.Below.heap_alloc (w.alloc (.cells #[.z a.1, .z a.2] 40)) _ w.heap.size (by rw[World.size_alloc];omega)).trans (World.alloc_heap_new w _)
 have hB:(((w.alloc (.cells #[.z a.1, .z a.2] 40)).alloc (.cells #[.z b.1, .z b.2] 40)).drew).heap[(w.alloc (.cells #[.z a.1, .z a.2] 40)).heap.size]?=some (.cells #[.z b.1, .z b.2] 40):=World.alloc_heap_new _ _;refine ⟨a.1,cell_of hA rfl,b.1,cell_of hB rfl,a.2,cell_of (o:=0+1) hA rfl,b.2,cell_of (o:=0+1) hB rfl,?_,trivial⟩;refine cmp_Compare_spec ⟨cell_of (o:=0+1) hB rfl,cell_of (o:=0+1) hA rfl,?_,trivial⟩;refine cmp_Compare_spec ⟨⟨?_,trivial⟩,trivial⟩;refine cmp_Or_spec (x:=cmpI a.1 b.1) (y:=cmpI a.2 b.2) (cell_of (World.alloc_heap_new _ _) rfl) (cell_of (World.alloc_heap_new _ _) rfl) ⟨rfl,1, #[.cells #[.z a.1, .z a.2] 40, .cells #[.z b.1, .z b.2] 40, .cells #[.z (cmpI a.1 b.1), .z (cmpI a.2 b.2)] 3],?_⟩;show World.mk _ _ _ _ _=World.mk _ _ _ _ _;congr 1
theorem cmpLays (blk off size:Nat) (w:World):CmpLays Tryz.prog 116 #[] pairC 2 cmpS blk off size w:=fun m os dk _ x y=>
 (okF_out (order_grow x y _)).mono fun e w' ⟨r,he,hr,hw⟩=>⟨by rw[he,hr],hw⟩
def slotE:EncT Slot:=⟨2,pairC,fun _=>rfl,fun x v h=>by
 simp only[pairC,List.mem_cons,List.not_mem_nil,or_false] at h;rcases h with rfl|rfl<;>rfl,by decide⟩
theorem flat_at {α:Type} [Inhabited α] (enc:α->List Value) (k:Nat) (hk:∀x,(enc x).length=k) (k0:0<k):∀(l:List α) (t:Nat),t<l.length*k->(l.flatMap enc)[t]?=some (enc (l.toArray[t / k]!))[t%k]!
 | [],t,h=>by simp at h
 |x::l,t,h=>by
  rw[List.flatMap_cons];by_cases e:t<k
  ·rw[List.getElem?_append_left (by rw[hk];exact e),Nat.div_eq_of_lt e,Nat.mod_eq_of_lt e]
   have:t<(enc x).length:=by rw[hk];exact e
   rw[gE this];congr 1;simp[this]
  ·obtain ⟨u,rfl⟩:∃u,t=k+u:=⟨t-k,by omega⟩
   have hu:u<l.length*k:=by
    rw[List.length_cons,Nat.add_mul,Nat.one_mul] at h;omega
   rw[List.getElem?_append_right (by rw[hk];omega),hk,show k+u-k=u from by omega,flat_at enc k hk k0 l u hu];rw[Nat.add_comm k u,Nat.add_div_right _ k0,Nat.add_mod_right];have hq:u / k<l.length:=Nat.div_lt_of_lt_mul (by rw[Nat.mul_comm];exact hu);congr 3;simp[hq]
theorem flatK_list {α:Type} [Inhabited α] (enc:α->List Value) (k:Nat) (hk:∀x,(enc x).length=k) (k0:0<k) (l:List α):Go.Sort.flatK enc k l.toArray=(l.flatMap enc).toArray:=by
 have hl:(l.flatMap enc).length=l.length*k:=by
  clear k0
  induction l with
  |nil=>simp
  |cons x l ih=>rw[List.flatMap_cons,List.length_append,ih,hk,List.length_cons,Nat.add_mul];omega
 refine Go.Sort.ext_get! (by rw[Go.Sort.size_flatK];simp only[List.size_toArray];exact hl.symm) fun t ht=>?_
 rw[Go.Sort.size_flatK] at ht;rw[Go.Sort.get_flatK _ _ _ _ ht];have:=flat_at enc k hk k0 l t (by simpa using ht);simp[List.getElem!_eq_getElem?_getD,this]
def leS (x y:Slot):Bool:= !(Go.Proofs.ltOf cmpS) y x
def sortS (xs:List Slot):List Slot:=xs.mergeSort leS
section
variable {B:Nat} {w0 w:World} {R L:List Asn}
theorem SortFunc_spec {s:Sl} {xs:List Slot} {K:Pw} (h:Vc.Own B w0 w (SlT slotE s xs::R)) (hsz:xs.length<4611686018427387904) (hK:∀w',Vc.Own B w0 w' (SlT slotE s (sortS xs)::R)->K w'):
  C.qbW s (.func (.func 116) #[] #[]) K w:=by
 have hs:=h.slO 0 rfl;have hlen:=h.len 0 rfl;unfold C.qbW;refine okF_mk Tryz.func195 rfl ?_;obtain ⟨a,n,cap⟩:=s;dsimp only at hlen;subst hlen;cases hs with
 |nil ha hl hc hcs=>
  dsimp only at ha hl hc;subst ha;subst hc;have:xs= []:=List.eq_nil_of_length_eq_zero hl;subst this;refine (AnyF.slices_SortFunc_none Tryz.sortFuncA none 0 _ w).mono ?_;rintro e w' ⟨rfl,rfl⟩;exact ⟨rfl,hK _ (by rw[show sortS []= [] from List.mergeSort_nil];exact h)⟩
 |mk b o l ha hb hl hc hcs=>
  dsimp only at ha hl hc hcs;subst ha;obtain ⟨t,ht⟩:=hb;have hblk:b<w.heap.size:=(Array.getElem?_eq_some_iff.1 ht).1;have hfl:∀ys:List Slot,Go.Sort.flatK pairC 2 ys.toArray=(ys.flatMap pairC).toArray:=flatK_list pairC 2 (fun _=>rfl) (by decide);have hfl2:∀ys:List Slot,(ys.flatMap pairC).length=ys.length*2:=fun ys=>flat_len slotE ys
  have hcap:xs.length*2≤cap*2:=Nat.mul_le_mul_right 2 hl;have hc:o+cap*2≤l.length:=hc
  have hH:Go.Sort.HoldsK pairC 2 w b o xs.toArray:=by
   unfold Go.Sort.HoldsK;rw[hfl];intro j hj;have hj:j<xs.length*2:=by rw[←hfl2];simpa using hj
   have hcj:(xs.flatMap pairC)[j]?=l[o+j]?:=by
    have hcs:xs.flatMap pairC=(l.drop o).take (xs.length*2):=hcs;rw[hcs,List.getElem?_take,if_pos hj,List.getElem?_drop]
   have hjl:j<(xs.flatMap pairC).length:=by rw[hfl2];exact hj
   refine ⟨?_,?_⟩
   ·have h1:l[o+j]?=some (xs.flatMap pairC)[j]:=by rw[←hcj,gE hjl]
    rw[cell_of ht h1];simp only[id,List.getElem!_toArray,List.getElem!_eq_getElem?_getD,gE hjl,Option.getD_some]
   ·simp[World.frozen?,ht]
  refine (AnyQ.slices_SortFunc_total Tryz.sortFuncA 2 Tryz.isAgg40 Tryz.sizeOf40 pairC (fun _=>rfl) slotE.one cmpS swoS 116 #[] b o cap xs.toArray w (enters_of Tryz.func116 (by kernel_rfl) rfl) (cmpLays b o _ w) hH hblk (by simpa using hsz) totS).mono ?_;rintro e w' ⟨rfl,q,os,hw'⟩;refine ⟨rfl,hK _ ?_⟩;have hperm:(sortS xs).Perm xs:=List.mergeSort_perm _ _;have hsl:(sortS xs).length=xs.length:=hperm.length_eq
  have hw':w'=Go.Sort.grow (Go.Sort.mapBlock (Go.Sort.ahead w q) b (Go.Sort.putCells id o ((sortS xs).flatMap pairC).toArray)) os:=by
   rw[hw',←hfl];rfl
  have hheap:w'.heap=(w.heap.modify b (Go.Sort.onCells (Go.Sort.putCells id o ((sortS xs).flatMap pairC).toArray)))++os:=by rw[hw'];rfl
  have hu:Upd (fun k=>k=b) w w':=by
   refine ⟨by rw[hw'];rfl,by rw[hw'];rfl,by rw[hw'];rfl,by rw[hheap];simp,fun k hk hn=>?_⟩;rw[hheap,Array.getElem?_append_left (by simpa using hk),Array.getElem?_modify,if_neg (fun e=>hn e.symm)]
  have hblk':w'.heap[b]?=some (.cells (Go.Sort.putCells id o ((sortS xs).flatMap pairC).toArray ⟨l⟩) t):=by
   rw[hheap,Array.getElem?_append_left (by simpa using hblk),Array.getElem?_modify,if_pos rfl,ht];rfl
  refine h.step fun G hA hG=>?_
  have hGb:G b:=hA.1 _ rfl;refine ⟨hu.mono fun k _ e=>by rw[e];exact hGb,G,⟨hA.1,hsl.symm,?_⟩,fun k hk=>⟨.inl hk,by have:=(hG k hk).2;have:=hu.size;omega⟩⟩;refine .mk b o (Go.Sort.putCells id o ((sortS xs).flatMap pairC).toArray ⟨l⟩).toList rfl ⟨t,hblk'⟩ hl ?_ ?_
  ·show o+cap*2≤_
   rw[Array.length_toList];unfold Go.Sort.putCells;rw[Array.size_mapIdx];exact hc
  ·show (sortS xs).flatMap pairC=(List.drop o _).take (xs.length*2)
   refine List.ext_getElem? fun j=>?_
   rw[List.getElem?_take];by_cases hj:j<xs.length*2
   ·rw[if_pos hj,List.getElem?_drop]
    have hjs:j<((sortS xs).flatMap pairC).length:=by rw[hfl2,hsl];exact hj
    have hoj:o+j<l.length:=by omega
    unfold Go.Sort.putCells;rw[Array.toList_mapIdx,List.getElem?_mapIdx,gE hjs,show (Array.mk l).toList[o+j]?=some (l[o+j]'hoj) from gE hoj,Option.map_some,if_pos ⟨by omega,by simp only[List.size_toArray];omega⟩,show o+j-o=j from by omega];simp only[id,List.getElem!_toArray,List.getElem!_eq_getElem?_getD,gE hjs,Option.getD_some]
   ·rw[if_neg hj,List.getElem?_eq_none (by rw[hfl2,hsl];omega)]
end
theorem pigeonS:∀(n:Nat) (l:List Int),l.Nodup->(∀x∈l,0≤x/\x<(n:Int))->l.length≤n
 |0,l,_,h=>by
  cases l with
  |nil=>simp
  |cons a l=>have:=h a (by simp);omega
 |n+1,l,hn,h=>by
  have h1:=pigeonS n (l.filter fun x=>x !=(n:Int)) (hn.sublist List.filter_sublist) fun x hx=>by
   have h2:=List.mem_filter.1 hx;have h3:=h x h2.1;have h4:x≠(n:Int):=by simpa using h2.2
   omega
  have h2:l.length≤(l.filter fun x=>x !=(n:Int)).length+1:=by
   clear h1 h
   induction l with
   |nil=>simp
   |cons a l ih=>
    rw[List.nodup_cons] at hn;by_cases e:a=(n:Int)
    ·have:l.filter (fun x=>x !=(n:Int))=l:=by
      rw[List.filter_eq_self];intro x hx;have:x≠(n:Int):=fun e2=>hn.1 (by rw[e,←e2];exact hx)
      simpa using this
     rw[List.filter_cons_of_neg (by simp[e]),this,List.length_cons];exact Nat.le_refl _
    ·rw[List.filter_cons_of_pos (by simpa using e),List.length_cons,List.length_cons]
     have:=ih hn.2;omega
  omega
theorem ltS_trans {x y z:Slot} (h1:ltS x y=true) (h2:ltS y z=true):ltS x z=true:=by
 simp only[ltS,decide_eq_true_eq] at *;omega
theorem ltS_irrefl {x:Slot} (h:ltS x x=true):False:=by simp[ltS] at h
theorem ltS_tri {x y:Slot} (h:x≠y):ltS x y=true∨ltS y x=true:=by
 simp only[ltS,decide_eq_true_eq];by_cases e:x.1=y.1
 ·have:x.2≠y.2:=fun e2=>h (Prod.ext e e2)
  omega
 ·omega
theorem sortS_perm (xs:List Slot):(sortS xs).Perm xs:=List.mergeSort_perm _ _
theorem sortS_sorted {xs:List Slot} (hn:xs.Nodup):(sortS xs).Pairwise (fun x y=>ltS x y=true):=by
 have h1:(sortS xs).Pairwise (fun x y=>leS x y=true):=by
  refine List.pairwise_mergeSort (fun a b c h1 h2=>?_) (fun a b=>?_) _
  ·simp only[leS,ltOf_cmpS,ltS,Bool.not_eq_true',decide_eq_false_iff_not] at *;omega
  ·simp only[leS,ltOf_cmpS,ltS,Bool.or_eq_true,Bool.not_eq_true',decide_eq_false_iff_not];omega
 have h2:(sortS xs).Pairwise (fun x y=>x≠y):=(sortS_perm xs).nodup_iff.2 hn;refine (h1.and h2).imp fun {x y} h=>?_
 rcases ltS_tri h.2 with e|e
 ·exact e
 ·have:=h.1
  simp only[leS,ltOf_cmpS,e] at this;cases this
structure IsHeld (H:Hs) (hs:List (Slot × Cap)):Prop where
 srt:hs.Pairwise (fun x y=>ltS x.1 y.1=true)
 mem:∀k c,(k,c)∈hs↔H k=some c
theorem IsHeld.nodup {H:Hs} {hs:List (Slot × Cap)} (h:IsHeld H hs):hs.Nodup:=h.srt.imp fun {x y} h e=>by rw[e] at h;exact ltS_irrefl h
theorem IsHeld.uniq {H:Hs} {hs hs':List (Slot × Cap)} (h:IsHeld H hs) (h':IsHeld H hs'):hs=hs':=by
 have hp:hs.Perm hs':=(List.perm_ext_iff_of_nodup h.nodup h'.nodup).2 fun x=>by
  rw[show x=(x.1,x.2) from rfl,h.mem,h'.mem]
 refine List.Perm.eq_of_pairwise (le:=fun x y=>ltS x.1 y.1=true) (fun a b _ _ h1 h2=>(ltS_irrefl (ltS_trans h1 h2)).elim) h.srt h'.srt hp
theorem isHeld_sort {M:List (Slot × Cap)} {H:Hs} (hn:(M.map (·.1)).Nodup) (hM:∀k,mget M k=H k):IsHeld H ((sortS (M.map (·.1))).map fun k=>(k,(H k).getD zeroCap)):=by
 refine ⟨?_,fun k c=>?_⟩
 ·rw[List.pairwise_map];exact sortS_sorted hn
 ·rw[List.mem_map]
  constructor
  ·rintro ⟨k',hk,e⟩
   cases e;have hk:=(sortS_perm _).mem_iff.1 hk;cases e:H k with
   |none=>rw[←hM] at e;exact absurd hk (mget_none.1 e)
   |some c=>rfl
  ·intro e
   refine ⟨k,(sortS_perm _).mem_iff.2 ?_,by rw[e];rfl⟩;rw[←hM] at e;exact List.mem_map.2 ⟨_,mget_mem e,rfl⟩
theorem NOk.bound {bits:List Int} {H:Hs} (h:NOk bits H) {k:Slot} {c:Cap} (e:H k=some c):0≤k.1/\k.1<64/\0≤k.2/\k.2<256:=by
 obtain ⟨ht,_⟩:=h.held k c e;unfold thereB at ht;cases hz:sizeN bits k.1 with
 |none=>rw[hz] at ht;cases ht
 |some z=>
  rw[hz] at ht;simp only[decide_eq_true_eq] at ht;obtain ⟨h0,h1,h2⟩:=sizeN_some hz;obtain ⟨r1,r2⟩:=sizeN_rng h hz;have hlt:k.1.toNat<bits.length:=(List.getElem?_eq_some_iff.1 h1).1;have:=h.few
  have hp:(2:Int)^z.toNat≤2^8:=by
   have:(2:Nat)^z.toNat≤2^8:=Nat.pow_le_pow_right (by omega) (by omega);have h3:(2:Int)^z.toNat=((2^z.toNat:Nat):Int):=by simp
   rw[h3];omega
  omega
theorem few_keys {bits:List Int} {M:List (Slot × Cap)} {H:Hs} (h:NOk bits H) (hn:(M.map (·.1)).Nodup) (hM:∀k,mget M k=H k):M.length≤16384:=by
 have hb:∀k∈M.map (·.1),0≤k.1/\k.1<64/\0≤k.2/\k.2<256:=fun k hk=>by
  cases e:H k with
  |none=>rw[←hM] at e;exact absurd hk (mget_none.1 e)
  |some c=>exact h.bound e
 have:=pigeonS 16384 ((M.map (·.1)).map fun k=>k.1*256+k.2) (by
  refine List.pairwise_map.2 (List.Pairwise.imp_of_mem (fun {x y} hx hy hne e=>hne ?_) hn);have:=hb x hx;have:=hb y hy;exact Prod.ext (by omega) (by omega)) fun x hx=>by
  obtain ⟨k,hk,rfl⟩:=List.mem_map.1 hx;have:=hb k hk;omega
 simpa using this
section
variable {B:Nat} {w0 w:World} {R L:List Asn} {b:Nat} {bits:List Int} {H:Hs}
theorem ownsRow_ownS {w':World} {t:TypeId} {v:Value} {xs:List Slot} (h:Vc.Own B w0 w R) (hb:RowKit.Below w.heap.size w w') (hr:w'.ownsRow w.heap.size t 2 v xs.length (xs.flatMap pairC)):
  ∃s:Sl,v= .slice s.a s.len s.cap/\Vc.Own B w0 w' (SlT slotE s xs::R):=by
 have hu:Upd No w w':=⟨hb.os,hb.tape,hb.output,hb.size,fun k hk _=>hb.block k hk⟩
 rcases hr.2 with ⟨rfl,hz⟩|⟨g,cap,cur,rfl,hbase,hgb,r1,r2,r3,r4⟩
 ·have:xs= []:=List.eq_nil_of_length_eq_zero hz
  subst this;exact ⟨⟨none,0,0⟩,rfl,(h.same hu).nilS⟩
 ·refine ⟨⟨some ⟨g,0,none⟩,xs.length,cap⟩,rfl,h.new (A':=SlT slotE ⟨some ⟨g,0,none⟩,xs.length,cap⟩ xs) (G':=fun k=>k=g) hu ⟨fun a ha=>?_,rfl,?_⟩ fun k e=>?_⟩
  ·cases ha;rfl
  ·refine .mk g 0 cur.toList rfl ⟨t,hgb⟩ r1 ?_ ?_
   ·show 0+cap*2≤cur.toList.length
    rw[Array.length_toList];omega
   ·rw[List.drop_zero];exact r4.symm
  ·subst e
   exact ⟨hbase,(Array.getElem?_eq_some_iff.1 hgb).1⟩
theorem keys_sorted {m:Nat} {M:List (Slot × Cap)} {K:Sl->Pw} (h:Vc.Own B w0 w L) (i:Nat) (hi:L[i]?=some (slotsA m M)) (hsz:M.length≤1000000)
  (hK:∀(s:Sl) (w':World),Vc.Own B w0 w' (SlT slotE s (sortS (M.map (·.1)))::L)->K s w'):
  C.qb (some m) (fun r5 w6=>C.qy r5 (.func (.func 116) #[] #[]) K w6) w:=by
 have hM:MapR encPair encCap w m M:=(h.take i hi).head fun _ h=>h.2
 obtain ⟨es,c,hb,hmap,hborn,hlt⟩:=hM.ex
 have hkeys:es.toList.map (·.key)=(M.map (·.1)).map pairV:=by
  have:=congrArg (List.map (·.1)) hmap;rw[List.map_map,List.map_map] at this;rw[List.map_map];exact this
 have hml:(M.map (·.1)).length≤1000000:=by rw[List.length_map];exact hsz
 have hblt:m<w.heap.size:=(Array.getElem?_eq_some_iff.1 hb).1;apply S.qb0;show C.qy _ _ K (w.alloc _);have h1:Vc.Own B w0 (w.alloc (.cells #[.map (some m)] 180)) L:=h.same (upd_alloc _ _);have hseq:=keysK_stops 1 (Nat.le_refl _) w.heap.size m es c (M.map (·.1)) hkeys hborn hlt (w.alloc (.cells #[.map (some m)] 180)) (by rw[World.size_alloc];omega) (cell_of (World.alloc_heap_new _ _) rfl) ((RowKit.Below.heap_alloc _ _ m hblt).trans hb);generalize w.alloc (.cells #[.map (some m)] 180)=w1 at h1 hseq;apply S.qy0;apply S.qap0;unfold C.qcN;refine okF_mk Tryz.func271 rfl ?_;refine (callsIn_wide (n:=2)).1 ((appendSeqK 196 #[.pointer (some ⟨w.heap.size,0,none⟩)] (enters_of Tryz.func196 (by kernel_rfl) rfl) _ _ hml w1 hseq).mono ?_);rintro e w2 ⟨v,ss,rfl,hS,hrow,hbel⟩;obtain ⟨s,rfl,h2⟩:=ownsRow_ownS h1 hbel hrow;refine ⟨s,rfl,?_⟩;have hsl:ss.length≤1000000:=by rw[hS.length_eq];exact hml
 refine SortFunc_spec h2 (by omega) fun w3 h3=>?_
 have:sortS ss=sortS (M.map (·.1)):=by
  have hn:ss.Nodup:=hS.nodup_iff.2 hM.nodup;refine List.Perm.eq_of_pairwise (le:=fun x y=>ltS x y=true) (fun a b _ _ h1 h2=>(ltS_irrefl (ltS_trans h1 h2)).elim) (sortS_sorted hn) (sortS_sorted hM.nodup) ?_;exact (sortS_perm _).trans (hS.trans (sortS_perm _).symm)
 rw[this] at h3;exact hK s w3 h3
theorem app1_held {s:Sl} {ys:List (Slot × Cap)} {y:Slot × Cap} {c:Nat} {L:List Asn} {k:Sl->Pw} [I:SlIn s L (Slot × Cap) heldE ys] [J:Pick (SlT heldE s ys) L R] (h:Vc.Own B w0 w (BlkA c [.z y.1.1, .z y.1.2, .z y.2.kind, .z y.2.obj, .z y.2.rights, .y y.2.badge, .y y.2.guard, .z y.2.bits]::L)) (hbig:ys.length≤1000000000)
  (hk:∀s' w',s'.len=ys.length+1->Vc.Own B w0 w' (SlT heldE s' (ys++ [y])::R)->k s' w'):
  ∃s' w',AppR Tryz.prog [29,29] 29 (.slice s.a s.len s.cap) (.slice (some (Addr.mk c 0 none)) 1 1) w s' w'/\k s' w':=
 Vc.Own.app1c (E:=heldE) (y:=y) Tryz.underlying29 (show Tryz.prog.info? 44=some Tryz.t44 from by kernel_rfl) (zv:=(Tryz.t44.zero).get (by kernel_rfl)) (by kernel_rfl) (by kernel_rfl) (by kernel_rfl) (by decide) h (by
  have e:Tryz.t44.bytes=64:=by kernel_rfl
  rw[e];omega) hk
theorem ldPr {w:World} {A:Addr} {x:Slot} {f:Int->Int->Prop} (g:∀c v,(slotE.enc x)[c]?=some v->w.cell? (A.add c)=some v) (hf:f x.1 x.2):LdL w A 0 [.o, .o] f:=
 ⟨_,g 0 _ rfl,_,g 1 _ rfl,hf⟩
theorem slots_Nodes_Held_spec {K:Sl->Pw} (h:Vc.Own B w0 w (NodesA b bits H::R)) (hK:∀s hs w',IsHeld H hs->Vc.Own B w0 w' (SlT heldE s hs::NodesA b bits H::R)->K s w'):C.qaY (some ⟨b,0,none⟩) K w:=by
 apply S.qaY0;obtain ⟨⟨xs,m,M⟩,hk,hM,h⟩:=h.nodes;dsimp only at hM h;have hnd:=h.mnodup 2 rfl;have hfew:=few_keys hk hnd hM;refine ⟨_,rfl,some m,h.ld 0 rfl rfl,?_⟩;refine keys_sorted h 2 rfl (by omega) fun s w h=>?_
 have hih:=isHeld_sort hnd hM;have hkl:(sortS (M.map (·.1))).length=M.length:=by rw[(sortS_perm _).length_eq,List.length_map]
 have hkH:∀k∈sortS (M.map (·.1)),H k=some ((H k).getD zeroCap):=fun k hk'=>by
  have:=(sortS_perm _).mem_iff.1 hk';cases e:H k with
  |none=>rw[←hM] at e;exact absurd this (mget_none.1 e)
  |some c=>rfl
 generalize sortS (M.map (·.1))=ks at h hih hkl hkH;have hlen:=h.lenc s;intro l8 hl8
 have loop:∀(j t:Nat) (out:Sl) (w:World),t+j=ks.length->Vc.Own B w0 w (SlT heldE out ((ks.take t).map fun k=>(k,(H k).getD zeroCap))::SlT slotE s ks::BlkA b [slV xs, .map (some m)]::SlT intE xs bits::slotsA m M::R)->l8 out (t:Int) w:=by
  intro j
  induction j with
  |zero=>
   intro t out w ht h;apply hl8;refine cdecF (by omega) ?_;rw[List.take_of_length_le (by omega)] at h;exact hK out _ w hih (Vc.Own.up1 (Vc.Own.mk_nodes (s:=xs) (m:=m) hk hM h.sub))
  |succ j ih=>
   intro t out w ht h;apply hl8;refine cdecT (by omega) ?_;have hx:ks[t]?=some ks[t]:=gE (by omega);refine h.ixc (s:=s) (i:=(t:Int)) (j:=t) rfl hx fun a ha h0 hc=>ldPr hc ?_
   have hHx:=hkH ks[t] (List.getElem_mem _)
   have hnext:(ks.take (t+1)).map (fun k=>(k,(H k).getD zeroCap))=(ks.take t).map (fun k=>(k,(H k).getD zeroCap))++ [(ks[t],(H ks[t]).getD zeroCap)]:=by
    rw[List.take_add_one,hx,List.map_append];rfl
   generalize (H ks[t]).getD zeroCap=c at hHx hnext;generalize ks[t]=kx at hHx hnext;refine h.al fun w1 h=>?_
   generalize w.heap.size=d1 at h⊢;refine h.stLc rfl rfl fun w2 h=>?_
   refine h.dr fun w3 h=>?_
   refine ⟨_,rfl,some m,h.ldc rfl,?_⟩;refine h.lc_2 rfl ?_;refine h.lc_2 rfl ?_;have hl2:mget M kx=some c:=by rw[hM];exact hHx
   refine ⟨?_,trivial⟩;refine ⟨c.kind,c.obj,c.rights,c.badge,c.guard,c.bits,(h.mlook Tryz.underlying180 keySlot 5 rfl hl2).2,?_⟩;refine h.hd rfl ?_;refine ⟨?_,trivial⟩;refine h.al fun w4 h=>⟨?_,trivial⟩
   generalize w3.heap.size=d3 at h⊢;refine app1_held (s:=out) (y:=(kx,c)) h (by rw[List.length_map,List.length_take];omega) fun s' w hs' h=>?_
   rw[show IntKind.i64.wrap ((t:Int)+1)=((t+1:Nat):Int) from by rw[wr (by omega) (by omega)];omega];refine ih (t+1) s' w (by omega) ?_;rw[hnext];exact h.sub
 exact loop ks.length 0 ⟨none,0,0⟩ w (by omega) (Vc.Own.nilS h)
end
end Go.Proofs.YtogmbmdbgkopjaaGreat.Sl
end
section
set_option maxRecDepth 8000
namespace Go.Proofs.YtogmbmdbgkopjaaGreat
open Go Go.Vc Go.Proofs
abbrev Slot:=Int × Int
abbrev Cap:=Sl.Cap
structure Call where
 ask:Int
 at_:Int
 with_:Int
 a:Int
 b:Int
 c:Int
deriving DecidableEq
structure Lne where
 space:Int
 page:Int
 frame:Int
 rights:Int
deriving DecidableEq
structure Told where
 e:Int
 w:Int
 wakes:Int
 forget:List Lne
deriving DecidableEq
structure Ker where
 bits:List Int
 H:Sl.Hs
 T:Tr.Tr
 t:Th.Mt
 ln:Lns
 u:List Unt
 ends:List Ept
 notes:List Nte
 spaces:List Tb.Spc
 frames:Nat
 tabs:Nat
structure Dng where
 core:Int
 cur:Int
 call:Call
 s:Slot
 c:Cap
namespace Ker
def capAt (k:Ker) (n:Int):Cap:=if 0≤n/\n<64 then (k.H (0,n)).getD Sl.zeroCap else Sl.zeroCap
def heldB (k:Ker) (n kind:Int):Bool:=decide ((k.capAt n).kind≠0)&&(decide (kind=0)||decide ((k.capAt n).kind=kind))
def freeK (k:Ker) (w:Int) (n:Nat):Int:=if w<0∨64<w+n then 181 else if (List.range n).any (fun i=>decide ((k.capAt (w+(i:Int))).kind≠0)) then 51 else 0
def laid (k:Ker) (f t:Slot) (c:Cap):Ker:={ k with H:=(Sl.putN k.bits k.H t c).2,T:=(Tr.addN k.T f t).2}
def made (k:Ker) (core a b:Int) (at_:Nat):Int × Ker:=
 if a=1 then ((k.u.length:Int),{ k with u:=k.u++ [⟨at_,b.toNat,0⟩]})
 else if a=2 then ((Sl.makeN k.bits b).1,{ k with bits:=(Sl.makeN k.bits b).2.2})
 else if a=3 then ((k.t.makeR 0 core).1,{ k with t:=(k.t.makeR 0 core).2.2})
 else if a=4 then ((k.ends.length:Int),{ k with ends:=k.ends++ [⟨[],false⟩]})
 else if a=5 then ((k.notes.length:Int),{ k with notes:=k.notes++ [⟨0,false,[]⟩]})
 else if a=8 then ((k.spaces.length:Int),{ k with spaces:=k.spaces++ [Tb.newS]})
 else if a=6 then ((k.frames:Int),{ k with frames:=k.frames+1})
 else ((k.tabs:Int),{ k with tabs:=k.tabs+1})
def makes (core a b w:Int) (s:Slot):List Nat->Nat->Ker->Ker
 | [],_,k=>k
 |at_::r,j,k=>makes core a b w s r (j+1) ((k.made core a b at_).2.laid s (0,w+(j:Int)) ⟨a,(k.made core a b at_).1,7,0,0,0⟩)
def uAt (k:Ker) (n:Int):Unt:=(k.u[n.toNat]?).getD zU
def retype (k:Ker) (d:Dng):Int × Ker:=
 if (placeU (k.uAt d.c.obj) d.call.a d.call.b d.call.c).2.2≠0 then ((placeU (k.uAt d.c.obj) d.call.a d.call.b d.call.c).2.2,k)
 else if k.freeK d.call.with_ d.call.c.toNat≠0 then (k.freeK d.call.with_ d.call.c.toNat,k)
 else if (d.call.a=2/\64<(k.bits.length:Int)+d.call.c)∨(d.call.a=3/\64<(k.t.ths.length:Int)+d.call.c) then (2,k)
 else (0,makes d.core d.call.a d.call.b d.call.with_ d.s (placeU (k.uAt d.c.obj) d.call.a d.call.b d.call.c).1 0 { k with u:=k.u.set d.c.obj.toNat (placeU (k.uAt d.c.obj) d.call.a d.call.b d.call.c).2.1})
def mintC (c:Cap) (r g:Int):Cap × Int:=
 if Sl.capErr c≠0 then (Sl.zeroCap,Sl.capErr c) else if ¬(0≤r/\r≤7) then (Sl.zeroCap,1)
 else if c.kind=0∨(g≠0/\(Sl.badgedB c.kind=false∨c.badge≠0)) then (Sl.zeroCap,41)
 else ({ c with rights:=if Sl.limitedB c.kind then andI .i64 c.rights r else c.rights,badge:=if g≠0 then g else c.badge},0)
def mint (k:Ker) (d:Dng):Int × Ker:=
 if d.c.kind=1 then (181,k) else if k.freeK d.call.with_ 1≠0 then (k.freeK d.call.with_ 1,k)
 else if (mintC d.c d.call.a (IntKind.u64.wrap d.call.b)).2≠0 then ((mintC d.c d.call.a (IntKind.u64.wrap d.call.b)).2,k)
 else (0,k.laid d.s (0,d.call.with_) (mintC d.c d.call.a (IntKind.u64.wrap d.call.b)).1)
def move (k:Ker) (d:Dng):Int × Ker:=
 if k.freeK d.call.with_ 1≠0 then (k.freeK d.call.with_ 1,k)
 else (0,{ k with H:=(Sl.moveN k.bits k.H d.s (0,d.call.with_)).2,T:=(Tr.moveN k.T d.s (0,d.call.with_)).2})
def freed (k:Ker) (id:Int):Ker:={ k with ends:=k.ends.map (·.cancel id),notes:=k.notes.map (·.cancel id)}
def linesOf (i:Nat) (P:Tb.Pgs):List Lne:=P.map fun x=>⟨(i:Int),x.1,x.2.1,x.2.2⟩
def unframe (f:Int):Nat->List Tb.Spc->List Lne × List Tb.Spc
 |_,[]=>([],[])
 |i,m::r=>(linesOf i (m.pg.filter fun x=>x.2.1==f)++(unframe f (i+1) r).1,{ m with pg:=m.pg.filter fun x=> !(x.2.1==f)}::(unframe f (i+1) r).2)
def untab1 (n:Int) (i:Nat):Nat->Nat->Tb.Spc->List Lne × Tb.Spc
 |0,_,m=>([],m)
 |q+1,j,m=>if m.at (j:Int)=some n then (linesOf i (m.dropR (j:Int)).1++(untab1 n i q (j+1) (m.dropR (j:Int)).2.2).1,(untab1 n i q (j+1) (m.dropR (j:Int)).2.2).2)
  else untab1 n i q (j+1) m
def untab (n:Int):Nat->List Tb.Spc->List Lne × List Tb.Spc
 |_,[]=>([],[])
 |i,m::r=>((untab1 n i 64 0 m).1++(untab n (i+1) r).1,(untab1 n i 64 0 m).2::(untab n (i+1) r).2)
def last (k:Ker) (c:Cap):List Lne × Ker:=
 if c.kind=3 then ([],{ k.freed c.obj with t:=(k.t.suspendR c.obj).2})
 else if c.kind=6 then ((unframe c.obj 0 k.spaces).1,{ k with spaces:=(unframe c.obj 0 k.spaces).2})
 else if c.kind=7 then ((untab c.obj 0 k.spaces).1,{ k with spaces:=(untab c.obj 0 k.spaces).2})
 else ([],k)
def sameC (a c:Cap):Bool:=decide (a.kind≠0)&&(decide (a.kind=c.kind)&&decide (a.obj=c.obj))
def more (k:Ker) (c:Cap):Bool:=(List.range 64).any fun i=>match k.H (0,(i:Int)) with|some x=>sameC x c|none=>false
def taken (k:Ker) (s:Slot):Ker:={ k with H:=Sl.updH k.H s none,T:=(Tr.takeN k.T s).2}
def gone (k:Ker) (s:Slot):List Lne × Ker:=
 if (k.taken s).more ((k.H s).getD Sl.zeroCap) then ([],k.taken s) else (k.taken s).last ((k.H s).getD Sl.zeroCap)
def gones:List Slot->Ker->List Lne × Ker
 | [],k=>([],k)
 |s::r,k=>((k.gone s).1++(gones r (k.gone s).2).1,(gones r (k.gone s).2).2)
def resetU (k:Ker) (n:Int):Ker:={ k with u:=k.u.set n.toNat { k.uAt n with used:=0}}
def setT (k:Ker) (t:Th.Mt):Ker:={ k with t:=t}
def woken (k:Ker) (id:Int):Int × Int × Ker:=((k.t.resumeR id).1,if (k.t.resumeR id).1=0 then id else -1,k.setT (k.t.resumeR id).2)
def gets (k:Ker) (id:Int) (m:Msg):Ker:=k.setT ((((k.t.regR id 0 m.badge).2.regR id 1 (IntKind.u64.wrap m.label)).2.regR id 2 m.w0).2)
def rest (k:Ker) (d:Dng):Ker:=if d.call.c≠0 then k.setT ((k.t.blockR d.cur).2.pickC d.core) else k
def eAt (k:Ker) (n:Int):Ept:=(k.ends[n.toNat]?).getD ⟨[],false⟩
def nAt (k:Ker) (n:Int):Nte:=(k.notes[n.toNat]?).getD ⟨0,false,[]⟩
def sAt (k:Ker) (n:Int):Tb.Spc:=(k.spaces[n.toNat]?).getD Tb.newS
def setE (k:Ker) (n:Int) (p:Ept):Ker:={ k with ends:=k.ends.set n.toNat p}
def setN (k:Ker) (n:Int) (p:Nte):Ker:={ k with notes:=k.notes.set n.toNat p}
def setS (k:Ker) (n:Int) (p:Tb.Spc):Ker:={ k with spaces:=k.spaces.set n.toNat p}
def tell (e:Int) (k:Ker):Told × Ker:=(⟨e,0, -1,[]⟩,k)
def tellW (x:Int × Int × Ker):Told × Ker:=(⟨x.1,0,x.2.1,[]⟩,x.2.2)
def msgOf (d:Dng):Msg:=⟨d.call.a,IntKind.u64.wrap d.call.b,0,0,0,d.c.badge,false⟩
def send (k:Ker) (d:Dng):Told × Ker:=
 if ((k.eAt d.c.obj).send d.cur (msgOf d) (d.call.c !=0)).2.1≠0 then tell ((k.eAt d.c.obj).send d.cur (msgOf d) (d.call.c !=0)).2.1 (k.setE d.c.obj ((k.eAt d.c.obj).send d.cur (msgOf d) (d.call.c !=0)).2.2)
 else if ((k.eAt d.c.obj).send d.cur (msgOf d) (d.call.c !=0)).1.is=false then tell 0 ((k.setE d.c.obj ((k.eAt d.c.obj).send d.cur (msgOf d) (d.call.c !=0)).2.2).rest d)
 else tellW (((k.setE d.c.obj ((k.eAt d.c.obj).send d.cur (msgOf d) (d.call.c !=0)).2.2).gets ((k.eAt d.c.obj).send d.cur (msgOf d) (d.call.c !=0)).1.to ((k.eAt d.c.obj).send d.cur (msgOf d) (d.call.c !=0)).1.m).woken ((k.eAt d.c.obj).send d.cur (msgOf d) (d.call.c !=0)).1.to)
def recv (k:Ker) (d:Dng):Told × Ker:=
 if ((k.eAt d.c.obj).recv d.cur (d.call.c !=0)).2.1≠0 then tell ((k.eAt d.c.obj).recv d.cur (d.call.c !=0)).2.1 (k.setE d.c.obj ((k.eAt d.c.obj).recv d.cur (d.call.c !=0)).2.2)
 else if ((k.eAt d.c.obj).recv d.cur (d.call.c !=0)).1.is=false then tell 0 ((k.setE d.c.obj ((k.eAt d.c.obj).recv d.cur (d.call.c !=0)).2.2).rest d)
 else tellW (((k.setE d.c.obj ((k.eAt d.c.obj).recv d.cur (d.call.c !=0)).2.2).gets d.cur ((k.eAt d.c.obj).recv d.cur (d.call.c !=0)).1.m).woken ((k.eAt d.c.obj).recv d.cur (d.call.c !=0)).1.frm)
def signal (k:Ker) (n g:Int):Int × Ker:=match ((k.nAt n).signal g).1 with
 |none=>(-1,k.setN n ((k.nAt n).signal g).2)
 |some who=>(who,(k.setN n ((k.nAt n).signal g).2).setT (((k.t.regR who 0 g).2.resumeR who).2))
def wait (k:Ker) (d:Dng):Told × Ker:=
 if ((k.nAt d.c.obj).wait d.cur (d.call.c !=0)).1.2.2≠0 then tell ((k.nAt d.c.obj).wait d.cur (d.call.c !=0)).1.2.2 (k.setN d.c.obj ((k.nAt d.c.obj).wait d.cur (d.call.c !=0)).2)
 else (⟨0,((k.nAt d.c.obj).wait d.cur (d.call.c !=0)).1.1, -1,[]⟩,if ((k.nAt d.c.obj).wait d.cur (d.call.c !=0)).1.2.1 then k.setN d.c.obj ((k.nAt d.c.obj).wait d.cur (d.call.c !=0)).2 else (k.setN d.c.obj ((k.nAt d.c.obj).wait d.cur (d.call.c !=0)).2).rest d)
def table (k:Ker) (d:Dng):Told × Ker:=
 if k.heldB d.call.with_ 8=false then tell 181 k
 else tell ((k.sAt (k.capAt d.call.with_).obj).tableR d.call.a d.c.obj).1 (k.setS (k.capAt d.call.with_).obj ((k.sAt (k.capAt d.call.with_).obj).tableR d.call.a d.c.obj).2)
def mapped (k:Ker) (d:Dng):Told × Ker:=
 if k.heldB d.call.with_ 8=false then tell 181 k
 else tell ((k.sAt (k.capAt d.call.with_).obj).mapR d.call.a (d.c.obj,andI .i64 d.c.rights d.call.b)).1 (k.setS (k.capAt d.call.with_).obj ((k.sAt (k.capAt d.call.with_).obj).mapR d.call.a (d.c.obj,andI .i64 d.c.rights d.call.b)).2)
def unmap (k:Ker) (d:Dng):Told × Ker:=
 (⟨((k.sAt d.c.obj).unmapR d.call.a).2.1,0, -1,if ((k.sAt d.c.obj).unmapR d.call.a).2.1=0 then [⟨d.c.obj,d.call.a,((k.sAt d.c.obj).unmapR d.call.a).1.1,((k.sAt d.c.obj).unmapR d.call.a).1.2⟩] else []⟩,k.setS d.c.obj ((k.sAt d.c.obj).unmapR d.call.a).2.2)
def bind (k:Ker) (d:Dng):Told × Ker:=
 if k.heldB d.call.with_ 5=false then tell 181 k
 else tell (bindL k.ln d.c.obj (k.capAt d.call.with_).obj (k.capAt d.call.with_).badge).1 { k with ln:=(bindL k.ln d.c.obj (k.capAt d.call.with_).obj (k.capAt d.call.with_).badge).2}
def lined (k:Ker) (r:(Option (Int × Int)× Int)× Lns):Int × Int × Ker:=match r.1.1 with
 |none=>(r.1.2, -1,{ k with ln:=r.2})
 |some x=>(r.1.2,((Ker.signal { k with ln:=r.2} x.1 x.2).1),(Ker.signal { k with ln:=r.2} x.1 x.2).2)
def resume (k:Ker) (d:Dng):Int × Int × Ker:=(if k.t.isT d.c.obj=true/\(k.t.th d.c.obj).st=3 then k.freed d.c.obj else k).woken d.c.obj
def revoke (k:Ker) (d:Dng):Told × Ker:=
 (⟨0,((Tr.underN k.T d.s).length:Int), -1,(gones (Tr.underN k.T d.s).reverse k).1⟩,
  if d.c.kind=1 then (gones (Tr.underN k.T d.s).reverse k).2.resetU d.c.obj else (gones (Tr.underN k.T d.s).reverse k).2)
def asks (k:Ker) (d:Dng):Told × Ker:=match d.call.ask with
 |0=>tell (k.retype d).1 (k.retype d).2
 |1=>tell (k.mint d).1 (k.mint d).2
 |2=>tell (k.move d).1 (k.move d).2
 |3=>if d.call.at_=0 then tell 181 k else (⟨0,0, -1,(k.gone d.s).1⟩,(k.gone d.s).2)
 |4=>k.revoke d
 |5=>tellW (k.resume d)
 |6=>tell (k.t.suspendR d.c.obj).1 ((k.freed d.c.obj).setT (k.t.suspendR d.c.obj).2)
 |7=>tell (k.t.prioR d.c.obj d.call.a).1 (k.setT (k.t.prioR d.c.obj d.call.a).2)
 |8=>k.send d
 |9=>k.recv d
 |10=>(⟨0,0,(k.signal d.c.obj d.c.badge).1,[]⟩,(k.signal d.c.obj d.c.badge).2)
 |11=>k.wait d
 |12=>k.table d
 |13=>k.mapped d
 |14=>k.unmap d
 |15=>k.bind d
 |_=>tellW (k.lined (ackL k.ln d.c.obj))
def needK (ask:Int):Int × Int:=([(1,0),(0,0),(0,0),(0,0),(0,0),(3,0),(3,0),(3,0),(4,2),(4,1),(5,2),(5,1),(7,0),(6,0),(8,0),(9,0),(9,0),(0,0)][ask.toNat]?).getD (0,0)
def asked (k:Ker) (core cur:Int) (c:Call):Told × Ker:=
 if k.heldB c.at_ (needK c.ask).1=false then tell 181 k
 else if andI .i64 (k.capAt c.at_).rights (needK c.ask).2≠(needK c.ask).2 then tell 181 k
 else k.asks ⟨core,cur,c,(0,c.at_),k.capAt c.at_⟩
def «do» (k:Ker) (core:Int) (c:Call):Told × Ker:=match (k.t.pickC core).runs? core with
 |none=>tell 182 (k.setT (k.t.pickC core))
 |some cur=>if c.ask<0∨18≤c.ask then tell 180 (k.setT (k.t.pickC core))
  else if c.ask=17 then tell 0 (k.setT ((k.t.pickC core).yield core))
  else (k.setT (k.t.pickC core)).asked core cur c
end Ker
def Ker.objOk (k:Ker) (c:Cap):Prop:=0≤c.obj/\(c.kind=1->c.obj<(k.u.length:Int))/\(c.kind=2->c.obj<(k.bits.length:Int))/\(c.kind=3->c.obj<(k.t.ths.length:Int))/\
 (c.kind=4->c.obj<(k.ends.length:Int))/\(c.kind=5->c.obj<(k.notes.length:Int))/\(c.kind=6->c.obj<(k.frames:Int))/\(c.kind=7->c.obj<(k.tabs:Int))/\(c.kind=8->c.obj<(k.spaces.length:Int))/\(c.kind=9->c.obj<8)
structure KOk (N:Nat) (k:Ker):Prop where
 b0:k.bits[0]?=some 6
 nok:Sl.NOk k.bits k.H
 held:∀s c,k.H s=some c->(s.1=0/\0≤s.2/\s.2<64)/\k.objOk c
 tok:Tr.TOk k.T
 mem:∀s,s∈k.T.map (·.1)↔(k.H s).isSome=true
 inv:Th.InvX (-1) k.t
 ln:k.ln.length=8
 lnb:∀x∈k.ln,x.is≠0->0≤x.note/\x.note<(k.notes.length:Int)
 u:∀x∈k.u,UOk x
 sok:∀m∈k.spaces,Tb.SOk m
 nu:k.u.length≤N
 ne:k.ends.length≤N
 nn:k.notes.length≤N
 ns:k.spaces.length≤N
 nf:k.frames≤N
 nt:k.tabs≤N
 el:∀p∈k.ends,p.l.length≤N
 nl:∀p∈k.notes,p.l.length≤N
structure Gr (k k':Ker):Prop where
 u:k.u.length≤k'.u.length
 b:k.bits.length≤k'.bits.length
 t:k.t.ths.length≤k'.t.ths.length
 e:k.ends.length≤k'.ends.length
 n:k.notes.length≤k'.notes.length
 f:k.frames≤k'.frames
 tb:k.tabs≤k'.tabs
 s:k.spaces.length≤k'.spaces.length
theorem Gr.obj {k k':Ker} (h:Gr k k') {c:Cap} (ho:k.objOk c):k'.objOk c:=by
 have h1:=h.u;have h2:=h.b;have h3:=h.t;have h4:=h.e;have h5:=h.n;have h6:=h.f;have h7:=h.tb;have h8:=h.s;obtain ⟨o0,o1,o2,o3,o4,o5,o6,o7,o8,o9⟩:=ho;exact ⟨o0,fun e=>by have:=o1 e;omega,fun e=>by have:=o2 e;omega,fun e=>by have:=o3 e;omega,fun e=>by have:=o4 e;omega,fun e=>by have:=o5 e;omega,fun e=>by have:=o6 e;omega,fun e=>by have:=o7 e;omega,fun e=>by have:=o8 e;omega,o9⟩
theorem KOk.mono {N M:Nat} {k:Ker} (h:KOk N k) (hm:N≤M):KOk M k:=
 { h with
  nu:=Nat.le_trans h.nu hm,ne:=Nat.le_trans h.ne hm,nn:=Nat.le_trans h.nn hm,ns:=Nat.le_trans h.ns hm,nf:=Nat.le_trans h.nf hm,nt:=Nat.le_trans h.nt hm
  el:=fun p hp=>Nat.le_trans (h.el p hp) hm,nl:=fun p hp=>Nat.le_trans (h.nl p hp) hm}
theorem sizeN0 {bits:List Int} (h:bits[0]?=some 6):Sl.sizeN bits 0=some 6:=by
 unfold Sl.sizeN;rw[if_neg (by decide),show ((0:Int).toNat)=0 from rfl,h];rfl
theorem there0 {bits:List Int} (h:bits[0]?=some 6) {s:Slot} (hs:s.1=0/\0≤s.2/\s.2<64):Sl.thereB bits s=true:=by
 unfold Sl.thereB;rw[hs.1,sizeN0 h];exact decide_eq_true ⟨hs.2.1,by show s.2<2^6;omega⟩
theorem place_iff {T:Tr.Tr} {s:Slot}:(Tr.placeN T s).isSome=true↔s∈T.map (·.1):=by
 unfold Tr.placeN;rw[List.findIdx?_isSome,List.any_eq_true,List.mem_map];simp only[decide_eq_true_eq]
theorem place_no {T:Tr.Tr} {s:Slot} (h:s∉T.map (·.1)):Tr.placeN T s=none:=by
 cases e:Tr.placeN T s with
 |none=>rfl
 |some i=>exact absurd (place_iff.1 (by rw[e];rfl)) h
theorem place_yes {T:Tr.Tr} {s:Slot} (h:s∈T.map (·.1)):∃i,Tr.placeN T s=some i:=Option.isSome_iff_exists.1 (place_iff.2 h)
section
variable {N:Nat} {k:Ker}
theorem KOk.few (h:KOk N k):k.T.length≤64:=by
 have h1:=Sl.pigeonS 64 ((k.T.map (·.1)).map (·.2)) (by
  refine List.pairwise_map.2 (List.Pairwise.imp_of_mem (fun {x y} hx hy hne e=>hne ?_) h.tok.nd);obtain ⟨c,hc⟩:=Option.isSome_iff_exists.1 ((h.mem x).1 hx);obtain ⟨d,hd⟩:=Option.isSome_iff_exists.1 ((h.mem y).1 hy);exact Prod.ext (by rw[(h.held x c hc).1.1,(h.held y d hd).1.1]) e) fun x hx=>by
  obtain ⟨s,hs,rfl⟩:=List.mem_map.1 hx;obtain ⟨c,hc⟩:=Option.isSome_iff_exists.1 ((h.mem s).1 hs);exact (h.held s c hc).1.2
 simpa using h1
theorem KOk.setT (h:KOk N k) {t:Th.Mt} (hi:Th.InvX (-1) t) (hl:k.t.ths.length≤t.ths.length):KOk N (k.setT t):=
 { h with
  inv:=hi
  held:=fun s c hc=>⟨(h.held s c hc).1,Gr.obj (k:=k) (k':=k.setT t) ⟨Nat.le_refl _,Nat.le_refl _,hl,Nat.le_refl _,Nat.le_refl _,Nat.le_refl _,Nat.le_refl _,Nat.le_refl _⟩ (h.held s c hc).2⟩}
theorem KOk.put (h:KOk N k) {t:Slot} {c:Cap} (ht:t.1=0/\0≤t.2/\t.2<64) (hn:k.H t=none) (hc:Sl.capErr c=0) (h0:c.kind≠0):Sl.putN k.bits k.H t c=(0,Sl.updH k.H t (some c)):=by
 unfold Sl.putN;rw[there0 h.b0 ht,if_neg (by decide),if_neg (by rw[hc];decide),if_neg h0,hn,if_neg (by decide)]
theorem KOk.laid (h:KOk N k) {f t:Slot} {c:Cap} (hf:(k.H f).isSome=true) (ht:t.1=0/\0≤t.2/\t.2<64) (hn:k.H t=none) (hc:Sl.capErr c=0) (h0:c.kind≠0) (hr:Sl.CapR c) (ho:k.objOk c):
  KOk N (k.laid f t c)/\(k.laid f t c).H=Sl.updH k.H t (some c):=by
 have hput:=h.put ht hn hc h0;obtain ⟨i,hi⟩:=place_yes ((h.mem f).2 hf);have hno:Tr.placeN k.T t=none:=place_no fun e=>by rw[h.mem,hn] at e;cases e
 have hT:Tr.addN k.T f t=(0,k.T.take (i+1)++ [(t,Tr.dOf k.T i+1)]++k.T.drop (i+1)):=by unfold Tr.addN;rw[hi];dsimp only;rw[hno]
 have hH:(k.laid f t c).H=Sl.updH k.H t (some c):=by unfold Ker.laid;rw[hput]
 have hT2:(k.laid f t c).T=k.T.take (i+1)++ [(t,Tr.dOf k.T i+1)]++k.T.drop (i+1):=by unfold Ker.laid;rw[hT]
 have hfew:=h.few
 refine ⟨{ h with
  nok:=by rw[hH];exact h.nok.put (there0 h.b0 ht) hc h0 hr
  held:=fun s x hx=>?_
  tok:=by rw[hT2];exact h.tok.add (by omega) hi hno
  mem:=fun s=>?_},hH⟩
 ·rw[hH] at hx
  unfold Sl.updH at hx;by_cases e:s=t
  ·rw[if_pos e] at hx;cases hx;rw[e];exact ⟨ht,ho⟩
  ·rw[if_neg e] at hx;exact h.held s x hx
 ·rw[hH,hT2]
  unfold Sl.updH
  have hm:s∈(k.T.take (i+1)++ [(t,Tr.dOf k.T i+1)]++k.T.drop (i+1)).map (·.1)↔(s=t∨s∈k.T.map (·.1)):=by
   conv=>rhs;rw[←List.take_append_drop (i+1) k.T]
   simp only[List.map_append,List.mem_append,List.map_cons,List.map_nil,List.mem_singleton];constructor
   ·rintro ((h|h)|h)
    ·exact .inr (.inl h)
    ·exact .inl h
    ·exact .inr (.inr h)
   ·rintro (h|h|h)
    ·exact .inl (.inr h)
    ·exact .inl (.inl h)
    ·exact .inr h
  rw[hm];by_cases e:s=t
  ·simp[e]
  ·rw[if_neg e,←h.mem];simp[e]
theorem KOk.same (h:KOk N k) {k':Ker} (hb:k'.bits=k.bits) (hH:k'.H=k.H) (hT:k'.T=k.T) (hg:Gr k k') (hi:Th.InvX (-1) k'.t) (hl:k'.ln.length=8) (hlb:∀x∈k'.ln,x.is≠0->0≤x.note/\x.note<(k'.notes.length:Int))
  (hu:∀x∈k'.u,UOk x) (hs:∀m∈k'.spaces,Tb.SOk m) {M:Nat} (nu:k'.u.length≤M) (ne:k'.ends.length≤M) (nn:k'.notes.length≤M) (ns:k'.spaces.length≤M) (nf:k'.frames≤M) (nt:k'.tabs≤M) (el:∀p∈k'.ends,p.l.length≤M) (nl:∀p∈k'.notes,p.l.length≤M):KOk M k':=
 ⟨by rw[hb];exact h.b0,by rw[hb,hH];exact h.nok,fun s c hc=>by rw[hH] at hc;exact ⟨(h.held s c hc).1,hg.obj (h.held s c hc).2⟩,by rw[hT];exact h.tok,fun s=>by rw[hT,hH];exact h.mem s,hi,hl,hlb,hu,hs,nu,ne,nn,ns,nf,nt,el,nl⟩
theorem KOk.cap (h:KOk N k) {n:Int} (hn:(k.capAt n).kind≠0):(0≤n/\n<64)/\k.H (0,n)=some (k.capAt n)/\k.objOk (k.capAt n)/\Sl.CapR (k.capAt n)/\Sl.capErr (k.capAt n)=0:=by
 unfold Ker.capAt at*
 split at hn
 ·rename_i e
  rw[if_pos e];cases hc:k.H (0,n) with
  |none=>rw[hc] at hn;exact absurd rfl hn
  |some c=>exact ⟨e,rfl,(h.held _ c hc).2,(h.nok.held _ c hc).2.2.2,(h.nok.held _ c hc).2.1⟩
 ·exact absurd rfl hn
theorem heldB_out {n kind:Int} (h:k.heldB n kind=true):(k.capAt n).kind≠0/\(kind≠0->(k.capAt n).kind=kind):=by
 unfold Ker.heldB at h;simp only[Bool.and_eq_true,Bool.or_eq_true,decide_eq_true_eq] at h;exact ⟨h.1,fun e=>h.2.elim (fun h=>absurd h e) id⟩
theorem KOk.freeK_out (h:KOk N k) {w:Int} {n:Nat} (hf:k.freeK w n=0):0≤w/\w+n≤64/\∀i:Nat,i<n->k.H (0,w+(i:Int))=none:=by
 unfold Ker.freeK at hf;split at hf
 ·cases hf
 rename_i h1;split at hf
 ·cases hf
 rename_i h2;refine ⟨by omega,by omega,fun i hi=>?_⟩;cases hc:k.H (0,w+(i:Int)) with
 |none=>rfl
 |some c=>
  exfalso;apply h2;rw[List.any_eq_true];refine ⟨i,List.mem_range.2 hi,decide_eq_true ?_⟩;unfold Ker.capAt;rw[if_pos (by omega),hc];exact (h.nok.held _ c hc).2.2.1
end
theorem LdL_add {w:World} {b o n i:Nat} {ss:List Sc} {f:TelA ss Prop} (h:LdL w (Addr.mk b (o+n) none) i ss f):LdL w ((Addr.mk b o none).add n) i ss f:=by rw[add_mk];exact h
theorem StL_add {w:World} {b o n i:Nat} {vs:List Value} {k:Pw} (h:StL w (Addr.mk b (o+n) none) i vs k):StL w ((Addr.mk b o none).add n) i vs k:=by rw[add_mk];exact h
theorem ld_add {w:World} {b o n m:Nat} {v:Option Value} (h:w.cell? ((Addr.mk b (o+n) none).add m)=v):w.cell? (((Addr.mk b o none).add n).add m)=v:=by rw[add_mk b o n];exact h
theorem St_add {w:World} {b o n m:Nat} {v:Value} {k:Pw} (h:St w ((Addr.mk b (o+n) none).add m) v k):St w (((Addr.mk b o none).add n).add m) v k:=by rw[add_mk b o n];exact h
structure Kx where
 n:Nat
 tr:Nat
 t:Nat
 ln:Nat
 su:Sl
 se:Sl
 sn:Sl
 ss:Sl
 pe:List Nat
 pn:List Nat
 ps:List Nat
abbrev kcells (x:Kx) (fr tb nb nt:Nat):List Value:=[.pointer (some ⟨x.n,0,none⟩), .pointer (some ⟨x.tr,0,none⟩), .pointer (some ⟨x.t,0,none⟩), .pointer (some ⟨x.ln,0,none⟩), .slice x.su.a x.su.len x.su.cap, .slice x.se.a x.se.len x.se.cap, .slice x.sn.a x.sn.len x.sn.cap, .slice x.ss.a x.ss.len x.ss.cap,
 .z (fr:Int), .z (tb:Int), .z (nb:Int), .z (nt:Int)]
def KerA (b:Nat) (k:Ker):Asn:=ExA fun x:Kx=>StarA [BlkA b (kcells x k.frames k.tabs k.bits.length k.t.ths.length),Sl.NodesA x.n k.bits k.H,Tr.TreeA x.tr k.T,Th.ThrA x.t k.t,LinesA x.ln k.ln,SlT untE x.su k.u,SlT ptE x.se x.pe,PtsA EndA x.pe k.ends,SlT ptE x.sn x.pn,PtsA NoteA x.pn k.notes,SlT ptE x.ss x.ps,PtsA Tb.SpcA x.ps k.spaces]
def lneE:EncT Lne:=⟨4,fun o=>[.z o.space, .z o.page, .z o.frame, .z o.rights],fun _=>rfl,fun x v h=>by
 simp only[List.mem_cons,List.not_mem_nil,or_false] at h;rcases h with rfl|rfl|rfl|rfl<;>rfl,by decide⟩
abbrev dcells (bk:Nat) (d:Dng) (e w wk:Int) (fs:Sl):List Value:=[.pointer (some ⟨bk,0,none⟩), .z d.core, .z d.cur, .z d.call.ask, .z d.call.at_, .z d.call.with_, .z d.call.a, .z d.call.b, .z d.call.c,
 .z d.s.1, .z d.s.2, .z d.c.kind, .z d.c.obj, .z d.c.rights, .y d.c.badge, .y d.c.guard, .z d.c.bits, .z e, .y w, .z wk, .slice fs.a fs.len fs.cap]
section
variable {B:Nat} {w0 w:World} {R L:List Asn} {b:Nat} {k:Ker}
theorem _root_.Go.Vc.Own.ker (h:Vc.Own B w0 w (KerA b k::R)):∃x:Kx,Vc.Own B w0 w (BlkA b (kcells x k.frames k.tabs k.bits.length k.t.ths.length)::Sl.NodesA x.n k.bits k.H::Tr.TreeA x.tr k.T::Th.ThrA x.t k.t::LinesA x.ln k.ln::SlT untE x.su k.u::SlT ptE x.se x.pe::PtsA EndA x.pe k.ends::SlT ptE x.sn x.pn::PtsA NoteA x.pn k.notes::SlT ptE x.ss x.ps::PtsA Tb.SpcA x.ps k.spaces::R):=by
 obtain ⟨x,h⟩:=h.ex;exact ⟨x,h.star⟩
theorem _root_.Go.Vc.Own.mk_ker (x:Kx) {bits:List Int} {H:Sl.Hs} {T:Tr.Tr} {t:Th.Mt} {ln:Lns} {u:List Unt} {ends:List Ept} {notes:List Nte} {spaces:List Tb.Spc} {fr tb:Nat}
  (h:Vc.Own B w0 w (BlkA b (kcells x fr tb bits.length t.ths.length)::Sl.NodesA x.n bits H::Tr.TreeA x.tr T::Th.ThrA x.t t::LinesA x.ln ln::SlT untE x.su u::SlT ptE x.se x.pe::PtsA EndA x.pe ends::SlT ptE x.sn x.pn::PtsA NoteA x.pn notes::SlT ptE x.ss x.ps::PtsA Tb.SpcA x.ps spaces::R)):
  Vc.Own B w0 w (KerA b ⟨bits,H,T,t,ln,u,ends,notes,spaces,fr,tb⟩::R):=Vc.Own.mk_ex x (Vc.Own.mk_star h)
def rootC:Cap:=⟨2,0,7,0,0,0⟩
theorem slot_root {bits:List Int} {H:Sl.Hs} {n:Nat} (hb:bits[0]?=some 6) (hn:n<64):Sl.slotT bits H rootC n 6=((0,(n:Int)),0):=by
 have hnode:Sl.nodeN bits rootC=some 6:=by
  unfold Sl.nodeN;rw[if_neg (by decide),if_neg (by decide)];exact sizeN0 hb
 have hstep:Sl.stepN bits n rootC 6=(0,(0,(n:Int)),0):=by
  unfold Sl.stepN;rw[hnode];dsimp only
  rw[if_neg (show ¬6<rootC.bits.toNat by decide),if_neg (show ¬((n / 2^(6-rootC.bits.toNat)%2^rootC.bits.toNat:Nat):Int)≠rootC.guard from fun hh=>hh (by
   show ((n / 64%1:Nat):Int)=0;omega)),if_neg (show ¬(6-rootC.bits.toNat<(6:Int).toNat) by decide)]
  have e:n / 2^(6-rootC.bits.toNat-(6:Int).toNat)%2^(6:Int).toNat=n:=by
   show n / 1%64=n;omega
  rw[e];rfl
 unfold Sl.slotT;rw[if_neg (by decide)];show Sl.slotN bits H n 6 rootC 6=_;unfold Sl.slotN;rw[hstep];rfl
theorem slot_spec {n:Int} {K:Int->Int->Bool->Pw} (hb:k.bits[0]?=some 6) (h:Vc.Own B w0 w (KerA b k::R))
  (hK:∀w' (s:Slot) is,(is=true->s=(0,n)/\0≤n/\n<64)->(is=false->¬(0≤n/\n<64))->Vc.Own B w0 w' (KerA b k::R)->K s.1 s.2 is w'):C.qag (some ⟨b,0,none⟩) n K w:=by
 apply S.qag0;refine h.al fun w1 h=>?_
 generalize w.heap.size=c at h⊢;intro k4 hk4
 have bad:¬(0≤n/\n<64)->k4 true w1:=fun e=>by
  apply hk4;refine cbT rfl ?_;refine h.stLc rfl rfl fun w h=>?_
  (try dsimp only[putAt,List.set_cons_zero,List.set_cons_succ] at h)
  refine h.lc_2 rfl ?_;exact hK w (0,0) false (fun e=>by cases e) (fun _=>e) h.drop
 refine cdec (fun e=>bad (by omega)) (fun e=>?_);by_cases e2:n≥64
 ·rw[decide_eq_true e2];exact bad (by omega)
 rw[decide_eq_false e2];apply hk4;refine cbF rfl ?_;obtain ⟨n,rfl⟩:=Int.eq_ofNat_of_zero_le (show 0≤n by omega);refine h.al fun w2 h=>?_
 generalize w1.heap.size=d at h⊢;refine h.stLc rfl rfl fun w h=>?_
 (try dsimp only[putAt,List.set_cons_zero,List.set_cons_succ] at h)
 intro k12 hk12
 have fin:∀(s:Nat) (w:World),Vc.Own B w0 w (BlkA s [.z 0, .z (n:Int)]::BlkA c [.z 0, .z 0]::KerA b k::R)->k12 ⟨s,0,none⟩ 0 w:=fun s w h=>by
  apply hk12;refine h.lc_2 rfl ?_;refine h.stLc rfl rfl fun w h=>?_
  (try dsimp only[putAt,List.set_cons_zero,List.set_cons_succ] at h)
  refine h.lc_2 rfl ?_;exact hK w (0,(n:Int)) true (fun _=>⟨rfl,by omega,by omega⟩) (fun e=>by cases e) h.drop.drop
 obtain ⟨x,h⟩:=h.up2.ker;refine h.dr fun w h=>?_
 refine ⟨_,rfl,_,h.ldc rfl,?_⟩;rw[show IntKind.u64.wrap (n:Int)=(n:Int) from by rw[Sl.wrap_u64,Nat.mod_eq_of_lt (by omega)]];refine h.lc_6 rfl ⟨?_,?_,trivial⟩
 ·refine Sl.lookup_Slot_spec (root:=rootC) (addr:=n) (depth:=6) ⟨by decide,by decide,by decide,by decide⟩ (by omega) (h.pick (A:=Sl.NodesA x.n k.bits k.H)) fun w h=>?_
  rw[slot_root hb (by omega)];refine ⟨?_,trivial⟩;refine h.al fun w' h=>⟨?_,trivial⟩
  generalize w.heap.size=s at h⊢;refine h.stLc rfl rfl fun w h=>?_
  (try dsimp only[putAt,List.set_cons_zero,List.set_cons_succ] at h)
  refine fin s w ((show Vc.Own B w0 w (KerA b k::BlkA s [.z 0, .z (n:Int)]::BlkA c [.z 0, .z 0]::R) from Vc.Own.mk_ker x h.sub).sub)
 ·refine h.al fun w' h=>⟨?_,trivial⟩
  generalize w.heap.size=s at h⊢;refine Sl.lookup_Slot_spec (root:=rootC) (addr:=n) (depth:=6) ⟨by decide,by decide,by decide,by decide⟩ (by omega) (h.pick (A:=Sl.NodesA x.n k.bits k.H)) fun w h=>?_
  rw[slot_root hb (by omega)];refine ⟨?_,trivial⟩;refine h.stLc rfl rfl fun w h=>?_
  (try dsimp only[putAt,List.set_cons_zero,List.set_cons_succ] at h)
  refine fin s w ((show Vc.Own B w0 w (KerA b k::BlkA s [.z 0, .z (n:Int)]::BlkA c [.z 0, .z 0]::R) from Vc.Own.mk_ker x h.sub).sub)
theorem get_spec {x:Kx} {s:Slot} {K:Int->Int->Int->Int->Int->Int->Int->Pw} {L:List Asn} (hk:Sl.NOk k.bits k.H) (h:Vc.Own B w0 w L) [I:Pick (Sl.NodesA x.n k.bits k.H) L R]
  (hK:∀w' c e,c=(Sl.getN k.bits k.H s).1->Sl.CapR c->Vc.Own B w0 w' (Sl.NodesA x.n k.bits k.H::R)->K c.kind c.obj c.rights c.badge c.guard c.bits e w'):C.qL (some ⟨x.n,0,none⟩) s.1 s.2 K w:=
 Sl.slots_Get_n h.pick 0 rfl fun w' c e he hr h=>hK w' c e (congrArg Prod.fst he) hr h
theorem getN_cap {N:Nat} (hk:KOk N k) {n:Int} (hn:0≤n/\n<64):(Sl.getN k.bits k.H (0,n)).1=k.capAt n:=by
 unfold Sl.getN;rw[if_neg (by rw[there0 hk.b0 ⟨rfl,hn⟩];decide)];unfold Ker.capAt;rw[if_pos hn]
theorem held_spec {N:Nat} {n kind:Int} {K:Int->Int->Int->Int->Int->Int->Int->Int->Bool->Pw} (hk:KOk N k) (h:Vc.Own B w0 w (KerA b k::R))
  (h1:k.heldB n kind=false->∀(s:Slot) (c:Cap) w',Vc.Own B w0 w' (KerA b k::R)->K s.1 s.2 c.kind c.obj c.rights c.badge c.guard c.bits false w')
  (h2:k.heldB n kind=true->∀w' c,c=k.capAt n->Vc.Own B w0 w' (KerA b k::R)->K 0 n c.kind c.obj c.rights c.badge c.guard c.bits true w'):C.qa (some ⟨b,0,none⟩) n kind K w:=by
 apply S.qa0;refine h.al fun w1 h=>?_
 generalize w.heap.size=c0 at h⊢;refine h.al fun w2 h=>?_
 generalize w1.heap.size=c1 at h⊢;refine slot_spec hk.b0 h.up2 fun w s is ht hf h=>?_
 refine h.al fun w' h=>?_
 generalize w.heap.size=c2 at h⊢;refine h.stLc rfl rfl fun w h=>?_
 (try dsimp only[putAt,List.set_cons_zero,List.set_cons_succ] at h)
 intro k12 hk12
 have fin:∀(sb:Nat) (c:Cap) (w:World),(is=true->c=k.capAt n)->Vc.Own B w0 w (BlkA sb c.cells::BlkA c2 [.z s.1, .z s.2]::KerA b k::BlkA c1 [.z 0, .z 0, .z 0, .y 0, .y 0, .z 0]::BlkA c0 [.z 0, .z 0]::R)->k12 ⟨sb,0,none⟩ w:=fun sb c w hc h=>by
  apply hk12;refine h.dr fun w h=>?_
  refine h.lc_2 rfl ?_;cases is with
  |false=>
   have hB:k.heldB n kind=false:=by
    unfold Ker.heldB Ker.capAt;rw[if_neg (hf rfl)];rfl
   refine cbF rfl ?_;have hKK:∀w',Vc.Own B w0 w' (KerA b k::R)->K s.1 s.2 c.kind c.obj c.rights c.badge c.guard c.bits false w':=h1 hB s c
   (repeat' (first|exact trivial|(exact hKK _ h.sub)|(refine h.al fun w h=>?_)|(refine h.dr fun w h=>?_)|(refine h.lc_2 rfl ?_)|(refine h.lc_6 rfl ?_)|(refine ⟨_,h.ldc rfl,?_⟩)|(refine ⟨_,h.ldd rfl,?_⟩)|(refine h.hd rfl ?_)|(refine ⟨h.ldc rfl,?_⟩)|(refine ⟨h.ldd rfl,?_⟩)|(refine h.stLc rfl rfl fun w h=>?_)|(refine exs ?_)|(refine _root_.Go.Vc.a2 ?_)|(refine h.stc rfl rfl fun w h=>?_)|(refine h.std rfl rfl fun w h=>?_)|(refine And.intro ?_ ?_)))
  |true=>
   obtain ⟨rfl,hn⟩:=ht rfl;have hc:=hc rfl;refine cbT rfl ⟨_,h.ldc rfl,?_⟩;refine cne (fun e=>?_) (fun e=>?_)
   ·refine ceq (fun e2=>?_) (fun e2=>?_)
    ·have hB:k.heldB n kind=true:=by
      unfold Ker.heldB;rw[←hc];simp[e,e2]
     have hKK:∀w',Vc.Own B w0 w' (KerA b k::R)->K 0 n c.kind c.obj c.rights c.badge c.guard c.bits true w':=fun w' h=>h2 hB w' c hc h
     (repeat' (first|exact trivial|(exact hKK _ h.sub)|(refine h.al fun w h=>?_)|(refine h.dr fun w h=>?_)|(refine h.lc_2 rfl ?_)|(refine h.lc_6 rfl ?_)|(refine ⟨_,h.ldc rfl,?_⟩)|(refine ⟨_,h.ldd rfl,?_⟩)|(refine h.hd rfl ?_)|(refine ⟨h.ldc rfl,?_⟩)|(refine ⟨h.ldd rfl,?_⟩)|(refine h.stLc rfl rfl fun w h=>?_)|(refine exs ?_)|(refine _root_.Go.Vc.a2 ?_)|(refine h.stc rfl rfl fun w h=>?_)|(refine h.std rfl rfl fun w h=>?_)|(refine And.intro ?_ ?_)))
    ·have hKK:∀w',Vc.Own B w0 w' (KerA b k::R)->K 0 n c.kind c.obj c.rights c.badge c.guard c.bits (c.kind==kind) w':=fun w' h=>by
      by_cases e3:c.kind=kind
      ·rw[show (c.kind==kind)=true from by simpa using e3]
       refine h2 ?_ w' c hc h;unfold Ker.heldB;rw[←hc,←e3];simp[e]
      ·rw[show (c.kind==kind)=false from by simpa using e3]
       refine h1 ?_ (0,n) c w' h;unfold Ker.heldB;rw[←hc];simp[e2,e3]
     (repeat' (first|exact trivial|(exact hKK _ h.sub)|(refine h.al fun w h=>?_)|(refine h.dr fun w h=>?_)|(refine h.lc_2 rfl ?_)|(refine h.lc_6 rfl ?_)|(refine ⟨_,h.ldc rfl,?_⟩)|(refine ⟨_,h.ldd rfl,?_⟩)|(refine h.hd rfl ?_)|(refine ⟨h.ldc rfl,?_⟩)|(refine ⟨h.ldd rfl,?_⟩)|(refine h.stLc rfl rfl fun w h=>?_)|(refine exs ?_)|(refine _root_.Go.Vc.a2 ?_)|(refine h.stc rfl rfl fun w h=>?_)|(refine h.std rfl rfl fun w h=>?_)|(refine And.intro ?_ ?_)))
   ·have hKK:∀w',Vc.Own B w0 w' (KerA b k::R)->K 0 n c.kind c.obj c.rights c.badge c.guard c.bits false w':=h1 (by
      unfold Ker.heldB;rw[←hc];simp[e]) (0,n) c
    (repeat' (first|exact trivial|(exact hKK _ h.sub)|(refine h.al fun w h=>?_)|(refine h.dr fun w h=>?_)|(refine h.lc_2 rfl ?_)|(refine h.lc_6 rfl ?_)|(refine ⟨_,h.ldc rfl,?_⟩)|(refine ⟨_,h.ldd rfl,?_⟩)|(refine h.hd rfl ?_)|(refine ⟨h.ldc rfl,?_⟩)|(refine ⟨h.ldd rfl,?_⟩)|(refine h.stLc rfl rfl fun w h=>?_)|(refine exs ?_)|(refine _root_.Go.Vc.a2 ?_)|(refine h.stc rfl rfl fun w h=>?_)|(refine h.std rfl rfl fun w h=>?_)|(refine And.intro ?_ ?_)))
 obtain ⟨x,h⟩:=h.up1.ker;refine h.dr fun w h=>?_
 refine ⟨_,rfl,_,h.ldc rfl,?_⟩
 have hcap:∀c:Cap,c=(Sl.getN k.bits k.H s).1->is=true->c=k.capAt n:=fun c hc e=>by
  obtain ⟨rfl,hn⟩:=ht e;rw[hc,getN_cap hk hn]
 refine h.lc_2 rfl ⟨?_,?_,trivial⟩
 ·refine get_spec (s:=s) hk.nok h fun w c e hc hr h=>?_
  refine ⟨?_,trivial⟩;refine h.al fun w' h=>⟨?_,trivial⟩
  generalize w.heap.size=sb at h⊢;refine h.stLc rfl rfl fun w h=>?_
  (try dsimp only[putAt,List.set_cons_zero,List.set_cons_succ] at h)
  exact fin sb c w (hcap c hc) (Vc.Own.sub (L:=KerA b k::BlkA sb c.cells::BlkA c2 [.z s.1, .z s.2]::BlkA c1 [.z 0, .z 0, .z 0, .y 0, .y 0, .z 0]::BlkA c0 [.z 0, .z 0]::R) (Vc.Own.mk_ker x h.sub))
 ·refine h.al fun w' h=>⟨?_,trivial⟩
  generalize w.heap.size=sb at h⊢;refine get_spec (s:=s) hk.nok h fun w c e hc hr h=>?_
  refine ⟨?_,trivial⟩;refine h.stLc rfl rfl fun w h=>?_
  (try dsimp only[putAt,List.set_cons_zero,List.set_cons_succ] at h)
  exact fin sb c w (hcap c hc) (Vc.Own.sub (L:=KerA b k::BlkA sb c.cells::BlkA c2 [.z s.1, .z s.2]::BlkA c1 [.z 0, .z 0, .z 0, .y 0, .y 0, .z 0]::BlkA c0 [.z 0, .z 0]::R) (Vc.Own.mk_ker x h.sub))
end
abbrev slotE:EncT Slot:=Sl.slotE
section
variable {B:Nat} {w0 w:World} {R L:List Asn} {s:Sl}
theorem ldSlot {w:World} {A:Addr} {x:Slot} {f:Int->Int->Prop} (g:∀c v,(slotE.enc x)[c]?=some v->w.cell? (A.add c)=some v) (hf:f x.1 x.2):LdL w A 0 [.o, .o] f:=⟨_,g 0 _ rfl,_,g 1 _ rfl,hf⟩
theorem ldHeld {w:World} {A:Addr} {x:Slot × Cap} {f:Int->Int->Int->Int->Int->Int->Int->Int->Prop} (g:∀c v,(Sl.heldE.enc x)[c]?=some v->w.cell? (A.add c)=some v) (hf:f x.1.1 x.1.2 x.2.kind x.2.obj x.2.rights x.2.badge x.2.guard x.2.bits):
  LdL w A 0 [.o, .o, .o, .o, .o, .u, .u, .o] f:=⟨_,g 0 _ rfl,_,g 1 _ rfl,_,g 2 _ rfl,_,g 3 _ rfl,_,g 4 _ rfl,_,g 5 _ rfl,_,g 6 _ rfl,_,g 7 _ rfl,hf⟩
theorem IndexFunc_slot {p:Slot->Bool} {f:Value} {xs:List Slot} {K:Int->Pw} [I:SlIn s L Slot slotE xs] (h:Vc.Own B w0 w L) (hbig:xs.length≤1000000000)
  (hf:∀(y:Slot) (w:World) (Q:Bool->Pw),y∈xs->Vc.Own B w0 w L->(∀w',Vc.Own B w0 w' L->Q (p y) w')->CallV Tryz.prog f [.agg ⟨slotE.enc y⟩] w fun en w'=>∃r:Bool,en= .returned (.bool r)/\Q r w')
  (hK:∀w',Vc.Own B w0 w' L->K (idxI p xs) w'):C.qq s f K w:=by
 apply S.qq0;have hlen:=h.lenc s;intro l hl
 have loop:∀(m j:Nat) (w:World),j+m=xs.length->(∀i,i<j->∀y,xs[i]?=some y->p y=false)->Vc.Own B w0 w L->l (j:Int) w:=by
  intro m
  induction m with
  |zero=>
   intro j w hj hno h;apply hl;refine cdecF (by omega) ?_
   have hn:xs.findIdx? p=none:=by
    rw[List.findIdx?_eq_none_iff];intro y hy;obtain ⟨i,hi⟩:=List.mem_iff_getElem?.1 hy;exact hno i (by have:=(List.getElem?_eq_some_iff.1 hi).1;omega) y hi
   have e:idxI p xs= -1:=by unfold idxI;rw[hn]
   rw[←e];exact hK _ h
  |succ m ih=>
   intro j w hj hno h;have hx:xs[j]?=some xs[j]:=gE (by omega);apply hl;refine cdecT (by omega) ?_;refine h.ixc (s:=s) rfl hx fun a ha h0 hc=>?_
   refine ldSlot hc ?_;refine hf xs[j] w _ (List.getElem_mem _) h fun w h=>?_
   cases hp:p xs[j] with
   |true=>
    refine cbT rfl ?_
    have hn:xs.findIdx? p=some j:=by
     rw[List.findIdx?_eq_some_iff_getElem];refine ⟨by omega,hp,fun i hi=>?_⟩;have:=hno i hi xs[i] (gE (by omega));simp[this]
    have e:idxI p xs=(j:Int):=by unfold idxI;rw[hn]
    rw[←e];exact hK _ h
   |false=>
    refine cbF rfl ?_;rw[wr (by omega) (by omega)];refine ih (j+1) w (by omega) (fun i hi z hz=>?_) h;by_cases e:i=j
    ·subst e;rw[hx] at hz;cases hz;exact hp
    ·exact hno i (by omega) z hz
 exact loop xs.length 0 w (by omega) (fun i hi=>by omega) h
theorem ContainsFunc_slot {p:Slot->Bool} {f:Value} {xs:List Slot} {K:Bool->Pw} [I:SlIn s L Slot slotE xs] (h:Vc.Own B w0 w L) (hbig:xs.length≤1000000000)
  (hf:∀(y:Slot) (w:World) (Q:Bool->Pw),y∈xs->Vc.Own B w0 w L->(∀w',Vc.Own B w0 w' L->Q (p y) w')->CallV Tryz.prog f [.agg ⟨slotE.enc y⟩] w fun en w'=>∃r:Bool,en= .returned (.bool r)/\Q r w')
  (hK:∀w',Vc.Own B w0 w' L->K (xs.any p) w'):C.qj s f K w:=by
 apply S.qj0;refine IndexFunc_slot h hbig hf fun w h=>?_
 rw[idxI_pos];exact hK w h
theorem IndexFunc_held {p:Slot × Cap->Bool} {f:Value} {xs:List (Slot × Cap)} {K:Int->Pw} [I:SlIn s L (Slot × Cap) Sl.heldE xs] (h:Vc.Own B w0 w L) (hbig:xs.length≤1000000000)
  (hf:∀(y:Slot × Cap) (w:World) (Q:Bool->Pw),Vc.Own B w0 w L->(∀w',Vc.Own B w0 w' L->Q (p y) w')->CallV Tryz.prog f [.agg ⟨Sl.heldE.enc y⟩] w fun en w'=>∃r:Bool,en= .returned (.bool r)/\Q r w')
  (hK:∀w',Vc.Own B w0 w' L->K (idxI p xs) w'):C.qr s f K w:=by
 apply S.qr0;have hlen:=h.lenc s;intro l hl
 have loop:∀(m j:Nat) (w:World),j+m=xs.length->(∀i,i<j->∀y,xs[i]?=some y->p y=false)->Vc.Own B w0 w L->l (j:Int) w:=by
  intro m
  induction m with
  |zero=>
   intro j w hj hno h;apply hl;refine cdecF (by omega) ?_
   have hn:xs.findIdx? p=none:=by
    rw[List.findIdx?_eq_none_iff];intro y hy;obtain ⟨i,hi⟩:=List.mem_iff_getElem?.1 hy;exact hno i (by have:=(List.getElem?_eq_some_iff.1 hi).1;omega) y hi
   have e:idxI p xs= -1:=by unfold idxI;rw[hn]
   rw[←e];exact hK _ h
  |succ m ih=>
   intro j w hj hno h;have hx:xs[j]?=some xs[j]:=gE (by omega);apply hl;refine cdecT (by omega) ?_;refine h.ixc (s:=s) rfl hx fun a ha h0 hc=>?_
   refine ldHeld hc ?_;refine hf xs[j] w _ h fun w h=>?_
   cases hp:p xs[j] with
   |true=>
    refine cbT rfl ?_
    have hn:xs.findIdx? p=some j:=by
     rw[List.findIdx?_eq_some_iff_getElem];refine ⟨by omega,hp,fun i hi=>?_⟩;have:=hno i hi xs[i] (gE (by omega));simp[this]
    have e:idxI p xs=(j:Int):=by unfold idxI;rw[hn]
    rw[←e];exact hK _ h
   |false=>
    refine cbF rfl ?_;rw[wr (by omega) (by omega)];refine ih (j+1) w (by omega) (fun i hi z hz=>?_) h;by_cases e:i=j
    ·subst e;rw[hx] at hz;cases hz;exact hp
    ·exact hno i (by omega) z hz
 exact loop xs.length 0 w (by omega) (fun i hi=>by omega) h
theorem ContainsFunc_held {p:Slot × Cap->Bool} {f:Value} {xs:List (Slot × Cap)} {K:Bool->Pw} [I:SlIn s L (Slot × Cap) Sl.heldE xs] (h:Vc.Own B w0 w L) (hbig:xs.length≤1000000000)
  (hf:∀(y:Slot × Cap) (w:World) (Q:Bool->Pw),Vc.Own B w0 w L->(∀w',Vc.Own B w0 w' L->Q (p y) w')->CallV Tryz.prog f [.agg ⟨Sl.heldE.enc y⟩] w fun en w'=>∃r:Bool,en= .returned (.bool r)/\Q r w')
  (hK:∀w',Vc.Own B w0 w' L->K (xs.any p) w'):C.qk s f K w:=by
 apply S.qk0;refine IndexFunc_held h hbig hf fun w h=>?_
 rw[idxI_pos];exact hK w h
theorem app1_slot {ys:List Slot} {y:Slot} {c:Nat} {k:Sl->Pw} [I:SlIn s L Slot slotE ys] [J:Pick (SlT slotE s ys) L R] (h:Vc.Own B w0 w (BlkA c [.z y.1, .z y.2]::L)) (hbig:ys.length≤1000000000)
  (hk:∀s' w',s'.len=ys.length+1->Vc.Own B w0 w' (SlT slotE s' (ys++ [y])::R)->k s' w'):
  ∃s' w',AppR Tryz.prog [79,79] 79 (.slice s.a s.len s.cap) (.slice (some (Addr.mk c 0 none)) 1 1) w s' w'/\k s' w':=
 Vc.Own.app1c (E:=slotE) (y:=y) Tryz.underlying79 (show Tryz.prog.info? 40=some Tryz.t40 from by kernel_rfl) (zv:= .agg #[.z 0, .z 0]) (by kernel_rfl) (by kernel_rfl) rfl (by decide) h (by
  have e:Tryz.t40.bytes=16:=by kernel_rfl
  rw[e];omega) hk
theorem app1_unt {ys:List Unt} {y:Unt} {c:Nat} {k:Sl->Pw} [I:SlIn s L Unt untE ys] [J:Pick (SlT untE s ys) L R] (h:Vc.Own B w0 w (BlkA c [.y (y.base:Int), .z (y.bits:Int), .y (y.used:Int)]::L)) (hbig:ys.length≤1000000000)
  (hk:∀s' w',s'.len=ys.length+1->Vc.Own B w0 w' (SlT untE s' (ys++ [y])::R)->k s' w'):
  ∃s' w',AppR Tryz.prog [84,84] 84 (.slice s.a s.len s.cap) (.slice (some (Addr.mk c 0 none)) 1 1) w s' w'/\k s' w':=
 Vc.Own.app1c (E:=untE) (y:=y) Tryz.underlying84 (show Tryz.prog.info? 86=some Tryz.t86 from by kernel_rfl) (zv:= .agg #[.y 0, .z 0, .y 0]) (by kernel_rfl) (by kernel_rfl) rfl (by decide) h (by
  have e:Tryz.t86.bytes=24:=by kernel_rfl
  rw[e];omega) hk
theorem app1_lne {ys:List Lne} {y:Lne} {c:Nat} {k:Sl->Pw} [I:SlIn s L Lne lneE ys] [J:Pick (SlT lneE s ys) L R] (h:Vc.Own B w0 w (BlkA c [.z y.space, .z y.page, .z y.frame, .z y.rights]::L)) (hbig:ys.length≤1000000000)
  (hk:∀s' w',s'.len=ys.length+1->Vc.Own B w0 w' (SlT lneE s' (ys++ [y])::R)->k s' w'):
  ∃s' w',AppR Tryz.prog [32,32] 32 (.slice s.a s.len s.cap) (.slice (some (Addr.mk c 0 none)) 1 1) w s' w'/\k s' w':=
 Vc.Own.app1c (E:=lneE) (y:=y) Tryz.underlying32 (show Tryz.prog.info? 63=some Tryz.t63 from by kernel_rfl) (zv:= .agg #[.z 0, .z 0, .z 0, .z 0]) (by kernel_rfl) (by kernel_rfl) rfl (by decide) h (by
  have e:Tryz.t63.bytes=32:=by kernel_rfl
  rw[e];omega) hk
theorem app1_end {ys:List Nat} {y:Nat} {c:Nat} {k:Sl->Pw} [I:SlIn s L Nat ptE ys] [J:Pick (SlT ptE s ys) L R] (h:Vc.Own B w0 w (BlkA c [.pointer (some ⟨y,0,none⟩)]::L)) (hbig:ys.length≤1000000000)
  (hk:∀s' w',s'.len=ys.length+1->Vc.Own B w0 w' (SlT ptE s' (ys++ [y])::R)->k s' w'):
  ∃s' w',AppR Tryz.prog [114,114] 114 (.slice s.a s.len s.cap) (.slice (some (Addr.mk c 0 none)) 1 1) w s' w'/\k s' w':=
 Vc.Own.app1c (E:=ptE) (y:=y) Tryz.underlying114 (show Tryz.prog.info? 133=some Tryz.t133 from by kernel_rfl) (zv:= .pointer none) (by kernel_rfl) (by kernel_rfl) rfl (by decide) h (by
  have e:Tryz.t133.bytes=8:=by kernel_rfl
  rw[e];omega) hk
theorem app1_note {ys:List Nat} {y:Nat} {c:Nat} {k:Sl->Pw} [I:SlIn s L Nat ptE ys] [J:Pick (SlT ptE s ys) L R] (h:Vc.Own B w0 w (BlkA c [.pointer (some ⟨y,0,none⟩)]::L)) (hbig:ys.length≤1000000000)
  (hk:∀s' w',s'.len=ys.length+1->Vc.Own B w0 w' (SlT ptE s' (ys++ [y])::R)->k s' w'):
  ∃s' w',AppR Tryz.prog [115,115] 115 (.slice s.a s.len s.cap) (.slice (some (Addr.mk c 0 none)) 1 1) w s' w'/\k s' w':=
 Vc.Own.app1c (E:=ptE) (y:=y) Tryz.underlying115 (show Tryz.prog.info? 161=some Tryz.t161 from by kernel_rfl) (zv:= .pointer none) (by kernel_rfl) (by kernel_rfl) rfl (by decide) h (by
  have e:Tryz.t161.bytes=8:=by kernel_rfl
  rw[e];omega) hk
theorem app1_space {ys:List Nat} {y:Nat} {c:Nat} {k:Sl->Pw} [I:SlIn s L Nat ptE ys] [J:Pick (SlT ptE s ys) L R] (h:Vc.Own B w0 w (BlkA c [.pointer (some ⟨y,0,none⟩)]::L)) (hbig:ys.length≤1000000000)
  (hk:∀s' w',s'.len=ys.length+1->Vc.Own B w0 w' (SlT ptE s' (ys++ [y])::R)->k s' w'):
  ∃s' w',AppR Tryz.prog [111,111] 111 (.slice s.a s.len s.cap) (.slice (some (Addr.mk c 0 none)) 1 1) w s' w'/\k s' w':=
 Vc.Own.app1c (E:=ptE) (y:=y) Tryz.underlying111 (show Tryz.prog.info? 109=some Tryz.t109 from by kernel_rfl) (zv:= .pointer none) (by kernel_rfl) (by kernel_rfl) rfl (by decide) h (by
  have e:Tryz.t109.bytes=8:=by kernel_rfl
  rw[e];omega) hk
theorem same_spec {a c:Cap} {K:Bool->Pw} (h:Vc.Own B w0 w R) (hK:∀w',Vc.Own B w0 w' R->K (Ker.sameC a c) w'):C.qdk a.kind a.obj a.rights a.badge a.guard a.bits c.kind c.obj c.rights c.badge c.guard c.bits K w:=by
 apply S.qdk0;refine h.al fun w1 h=>?_
 generalize w.heap.size=c0 at h⊢;refine h.al fun w2 h=>?_
 generalize w1.heap.size=c1 at h⊢;unfold Ker.sameC at hK;refine ⟨_,h.ldc rfl,?_⟩;refine cne (fun e=>?_) (fun e=>?_)
 ·refine ⟨_,h.ldc rfl,_,h.ldc rfl,?_⟩
  refine ceq (fun e2=>?_) (fun e2=>?_)
  ·refine ⟨_,h.ldd rfl,_,h.ldd rfl,?_⟩
   have:=hK w2 h.drop.drop;rw[decide_eq_true e,decide_eq_true e2,Bool.true_and,Bool.true_and] at this;exact this
  ·have:=hK w2 h.drop.drop
   rw[decide_eq_false e2,Bool.false_and,Bool.and_false] at this;exact this
 ·have:=hK w2 h.drop.drop
  rw[decide_eq_false (by simpa using e),Bool.false_and] at this;exact this
theorem mint_caps {c:Cap} {r g:Int} {K:Int->Int->Int->Int->Int->Int->Int->Pw} (hc:Sl.CapR c) (h:Vc.Own B w0 w R)
  (hK:∀w' x,x=(Ker.mintC c r g).1->Vc.Own B w0 w' R->K x.kind x.obj x.rights x.badge x.guard x.bits (Ker.mintC c r g).2 w'):C.qda c.kind c.obj c.rights c.badge c.guard c.bits r g K w:=by
 apply S.qda0;refine h.al fun w1 h=>?_
 generalize w.heap.size=c0 at h⊢;refine h.al fun w2 h=>?_
 generalize w1.heap.size=c1 at h⊢;refine h.lc_6 rfl ?_;refine Sl.caps_Check_spec h hc fun w h=>?_
 unfold Ker.mintC at hK
 have bad:∀(q:Int) (w:World),(∀w',Vc.Own B w0 w' R->K 0 0 0 0 0 0 q w')->Vc.Own B w0 w (BlkA c1 [.z 0, .z 0, .z 0, .y 0, .y 0, .z 0]::BlkA c0 c.cells::R)->
   StL w (Addr.mk c1 0 none) 0 [.z (0:Int), .z (0:Int), .z (0:Int), .y (0:Int), .y (0:Int), .z (0:Int)] fun w28=>
    LdL w28 (Addr.mk c1 0 none) 0 [.o, .o, .o, .u, .u, .o] fun (r29:Int) (r30:Int) (r31:Int) (r32:Int) (r33:Int) (r34:Int)=>K r29 r30 r31 r32 r33 r34 q w28:=fun q w hK h=>by
  refine h.stLc rfl rfl fun w h=>?_
  (try dsimp only[putAt,List.set_cons_zero,List.set_cons_succ] at h)
  refine h.lc_6 rfl ?_;exact hK w h.drop.drop
 by_cases h1:Sl.capErr c≠0
 ·rw[if_pos h1] at hK
  refine cneT h1 (bad _ w (fun w' h=>hK w' _ rfl h) h)
 rw[if_neg h1] at hK;refine cneF (by omega) ?_;refine Sl.caps_rights_spec ?_;by_cases h2:¬(0≤r/\r≤7)
 ·rw[if_pos h2] at hK
  rw[show (!(decide (0≤r)&&decide (r≤7)))=true from by simp;omega];exact cbT rfl (bad _ w (fun w' h=>hK w' _ rfl h) h)
 rw[if_neg h2] at hK;rw[show (!(decide (0≤r)&&decide (r≤7)))=false from by simp;omega];refine cbF rfl ⟨_,h.ldc rfl,?_⟩;intro k36 hk36
 have no:(c.kind=0∨(g≠0/\(Sl.badgedB c.kind=false∨c.badge≠0)))->k36 true w:=fun e=>by
  rw[if_pos e] at hK;apply hk36;exact cbT rfl (bad _ w (fun w' h=>hK w' _ rfl h) h)
 have yes:¬(c.kind=0∨(g≠0/\(Sl.badgedB c.kind=false∨c.badge≠0)))->k36 false w:=fun e=>by
  rw[if_neg e] at hK;apply hk36;refine cbF rfl ⟨_,h.ldc rfl,?_⟩;refine Sl.caps_limited_spec ?_;intro k49 hk49
  have fin:∀(r':Int) (w:World),r'=(if Sl.limitedB c.kind then andI .i64 c.rights r else c.rights)->Vc.Own B w0 w (BlkA c1 [.z 0, .z 0, .z 0, .y 0, .y 0, .z 0]::BlkA c0 [.z c.kind, .z c.obj, .z r', .y c.badge, .y c.guard, .z c.bits]::R)->k49 w:=fun r' w hr h=>by
   apply hk49;refine cne (fun e=>?_) (fun e=>?_)
   ·refine h.std rfl rfl fun w h=>?_
    (try dsimp only[putAt,List.set_cons_zero,List.set_cons_succ] at h)
    refine h.lc_6 rfl ?_;refine h.stLc rfl rfl fun w h=>?_
    (try dsimp only[putAt,List.set_cons_zero,List.set_cons_succ] at h)
    refine h.lc_6 rfl ?_;have:=hK w _ rfl h.drop.drop;rw[if_pos e,←hr] at this;exact this
   ·refine h.lc_6 rfl ?_
    refine h.stLc rfl rfl fun w h=>?_
    (try dsimp only[putAt,List.set_cons_zero,List.set_cons_succ] at h)
    refine h.lc_6 rfl ?_;have:=hK w _ rfl h.drop.drop;rw[if_neg (show ¬g≠0 from fun hh=>hh e),←hr] at this;exact this
  cases hl:Sl.limitedB c.kind with
  |true=>
   refine cbT rfl ⟨_,h.ldd rfl,?_⟩;refine h.std rfl rfl fun w h=>?_
   (try dsimp only[putAt,List.set_cons_zero,List.set_cons_succ] at h)
   exact fin _ w (by rw[hl];rfl) h
  |false=>
   refine cbF rfl ?_;exact fin _ w (by rw[hl];rfl) h
 refine ceq (fun e=>?_) (fun e=>?_)
 ·rw[show (c.kind==0)=true from by simpa using e];exact no (.inl e)
 refine cne (fun e2=>?_) (fun e2=>?_)
 ·refine ⟨_,h.ldc rfl,?_⟩
  refine Sl.caps_badged_spec ?_;cases hb:Sl.badgedB c.kind with
  |false=>exact cbT rfl (no (.inr ⟨e2, .inl hb⟩))
  |true=>
   refine cbF rfl ⟨_,h.ldd rfl,?_⟩;by_cases e3:c.badge=0
   ·rw[show (c.badge !=0)=false from by simpa using e3]
    exact yes (fun hh=>hh.elim e fun hh=>hh.2.elim (fun h=>by rw[hb] at h;cases h) fun h=>h e3)
   ·rw[show (c.badge !=0)=true from by simpa using e3]
    exact no (.inr ⟨e2, .inr e3⟩)
 ·exact yes (fun hh=>hh.elim e fun hh=>hh.1 e2)
end
theorem wrap_near {a:Int} {i:Nat} (h0: -9223372036854775808≤a) (h1:a<9223372036854775808) (hi:i≤1000):(IntKind.i64.wrap (a+(i:Int))=a+(i:Int)∨(IntKind.i64.wrap (a+(i:Int))<0/\64≤a+(i:Int))):=by
 by_cases e:a+(i:Int)<9223372036854775808
 ·exact .inl (wr (by omega) (by omega))
 ·refine .inr ⟨?_,by omega⟩
  have e1:(2:Int)^64=18446744073709551616:=by decide
  have e2:(2:Int)^63=9223372036854775808:=by decide
  have:IntKind.i64.wrap (a+(i:Int))=a+(i:Int)-18446744073709551616:=by
   have hm:(a+(i:Int))%18446744073709551616=a+(i:Int):=Int.emod_eq_of_lt (by omega) (by omega);simp only[IntKind.wrap,IntKind.bits,IntKind.signed,e1,Bool.true_and];rw[hm];simp;omega
  omega
section
variable {B:Nat} {w0 w:World} {R L:List Asn} {bd bk:Nat} {k:Ker} {d:Dng} {ec wv wk:Int} {fs:Sl} {N:Nat}
theorem free1_spec {n:Int} {bx:Nat} {K:Bool->Pw} (hk:KOk N k) (hn:0≤n/\n<64) (h:Vc.Own B w0 w (BlkA bx [.pointer (some ⟨bd,0,none⟩)]::BlkA bd (dcells bk d ec wv wk fs)::KerA bk k::R))
  (hK:∀w',Vc.Own B w0 w' (BlkA bx [.pointer (some ⟨bd,0,none⟩)]::BlkA bd (dcells bk d ec wv wk fs)::KerA bk k::R)->K (decide ((k.capAt n).kind≠0)) w'):C.qaH 0 n ⟨bx,0,none⟩ K w:=by
 apply S.qaH0;refine h.al fun w1 h=>?_
 generalize w.heap.size=c0 at h⊢;intro k5 hk5
 have fin:∀(s:Nat) (c:Cap) (w:World),c=k.capAt n->Vc.Own B w0 w (BlkA s c.cells::BlkA bx [.pointer (some ⟨bd,0,none⟩)]::BlkA bd (dcells bk d ec wv wk fs)::KerA bk k::R)->k5 ⟨s,0,none⟩ w:=fun s c w hc h=>by
  apply hk5;refine ⟨_,h.ldc rfl,?_⟩;have:=hK w h.drop
  rw[←hc,show decide (c.kind≠0)=(c.kind !=0) from by
   by_cases e:c.kind=0
   ·simp[e]
   ·simp[e]] at this
  exact this
 obtain ⟨x,h⟩:=(h.pick (A:=KerA bk k)).ker;refine h.dr fun w h=>?_
 refine ⟨_,h.ldc rfl,_,rfl,_,h.ldc rfl,_,rfl,_,h.ldc rfl,?_⟩;refine h.lc_2 rfl ⟨?_,?_,trivial⟩
 ·refine get_spec (s:=(0,n)) hk.nok h fun w c e hc hr h=>?_
  rw[getN_cap hk hn] at hc;refine ⟨?_,trivial⟩;refine h.al fun w' h=>⟨?_,trivial⟩
  generalize w.heap.size=sb at h⊢;refine h.stLc rfl rfl fun w h=>?_
  (try dsimp only[putAt,List.set_cons_zero,List.set_cons_succ] at h)
  refine fin sb c w hc ((show Vc.Own B w0 w (KerA bk k::BlkA sb c.cells::BlkA bx [.pointer (some ⟨bd,0,none⟩)]::BlkA bd (dcells bk d ec wv wk fs)::R) from Vc.Own.mk_ker x h.sub).sub)
 ·refine h.al fun w' h=>⟨?_,trivial⟩
  generalize w.heap.size=sb at h⊢;refine get_spec (s:=(0,n)) hk.nok h fun w c e hc hr h=>?_
  rw[getN_cap hk hn] at hc;refine ⟨?_,trivial⟩;refine h.stLc rfl rfl fun w h=>?_
  (try dsimp only[putAt,List.set_cons_zero,List.set_cons_succ] at h)
  refine fin sb c w hc ((show Vc.Own B w0 w (KerA bk k::BlkA sb c.cells::BlkA bx [.pointer (some ⟨bd,0,none⟩)]::BlkA bd (dcells bk d ec wv wk fs)::R) from Vc.Own.mk_ker x h.sub).sub)
def toSlots (a:Int) (n:Nat):List Slot:=(List.range n).map fun i:Nat=>(0,a+(i:Int))
theorem free_spec {n:Nat} {K:Sl->Int->Pw} (hk:KOk N k) (hw0: -9223372036854775808≤d.call.with_) (hw1:d.call.with_<9223372036854775808) (hn:1≤n/\n≤64) (h:Vc.Own B w0 w (BlkA bd (dcells bk d ec wv wk fs)::KerA bk k::R))
  (h1:k.freeK d.call.with_ n≠0->∀s w',Vc.Own B w0 w' (BlkA bd (dcells bk d ec wv wk fs)::KerA bk k::R)->K s (k.freeK d.call.with_ n) w')
  (h2:k.freeK d.call.with_ n=0->∀s w',Vc.Own B w0 w' (SlT slotE s (toSlots d.call.with_ n)::BlkA bd (dcells bk d ec wv wk fs)::KerA bk k::R)->K s 0 w'):C.qam (some ⟨bd,0,none⟩) (n:Int) K w:=by
 apply S.qam0;refine h.al fun w1 h=>?_
 generalize w.heap.size=bx at h⊢;intro l4 hl4
 have bad:(d.call.with_<0∨64<d.call.with_+n)->∀w,Vc.Own B w0 w (BlkA bd (dcells bk d ec wv wk fs)::KerA bk k::R)->K ⟨none,0,0⟩ 181 w:=fun hb w h=>by
  have e:k.freeK d.call.with_ n=181:=by unfold Ker.freeK;rw[if_pos hb]
  have:=h1 (by rw[e];decide) ⟨none,0,0⟩ w h;rw[e] at this;exact this
 have loop:∀(m j:Nat) (o:Sl) (w:World),j+m=n->(0<j->0≤d.call.with_/\d.call.with_+j≤64)->Vc.Own B w0 w (SlT slotE o (toSlots d.call.with_ j)::BlkA bx [.pointer (some ⟨bd,0,none⟩)]::BlkA bd (dcells bk d ec wv wk fs)::KerA bk k::R)->l4 o (j:Int) w:=by
  intro m
  induction m with
  |zero=>
   intro j o w hj hin h;have hj:j=n:=by omega
   subst hj;obtain ⟨i0,i1⟩:=hin (by omega);apply hl4;refine cdecF (by omega) ?_
   have hpv:∀y∈toSlots d.call.with_ j,y.1=0/\0≤y.2/\y.2<64:=fun y hy=>by
    obtain ⟨i,hi,rfl⟩:=List.mem_map.1 hy;rw[List.mem_range] at hi;exact ⟨rfl,by show 0≤d.call.with_+(i:Int);omega,by show d.call.with_+(i:Int)<64;omega⟩
   refine ContainsFunc_slot (s:=o) (p:=fun y=>decide ((k.capAt y.2).kind≠0)) h (by unfold toSlots;simp;omega) (fun y w Q hy h hQ=>?_) fun w h=>?_
   ·refine callV_mk ?_
    obtain ⟨y1,y2⟩:=y;obtain ⟨e1,e2⟩:=hpv _ hy;dsimp only at e1 e2;subst e1;show C.qaH 0 y2 ⟨bx,0,none⟩ Q w;refine free1_spec (bd:=bd) (bk:=bk) (k:=k) (d:=d) (ec:=ec) (wv:=wv) (wk:=wk) (fs:=fs) (R:=SlT slotE o (toSlots d.call.with_ j)::R) hk e2 h.sub fun w h=>hQ w h.sub
   ·have e:(toSlots d.call.with_ j).any (fun y=>decide ((k.capAt y.2).kind≠0))=(List.range j).any fun i=>decide ((k.capAt (d.call.with_+(i:Int))).kind≠0):=by
     unfold toSlots;rw[List.any_map];rfl
    rw[e];cases hb:(List.range j).any fun i=>decide ((k.capAt (d.call.with_+(i:Int))).kind≠0) with
    |true=>
     have e:k.freeK d.call.with_ j=51:=by unfold Ker.freeK;rw[if_neg (by omega),if_pos hb]
     refine cbT rfl ?_;have:=h1 (by rw[e];decide) ⟨none,0,0⟩ w h.drop.drop;rw[e] at this;exact this
    |false=>
     have e:k.freeK d.call.with_ j=0:=by unfold Ker.freeK;rw[if_neg (by omega),if_neg (by rw[hb];decide)]
     refine cbF rfl ?_;exact h2 e o w h.sub
  |succ m ih=>
   intro j o w hj hin h;apply hl4;refine cdecT (by omega) ?_;intro k8 hk8;have hwr:=wrap_near (a:=d.call.with_) (i:=j) hw0 hw1 (by omega);obtain ⟨v,hwv⟩:∃v,IntKind.i64.wrap (d.call.with_+(j:Int))=v:=⟨_,rfl⟩
   rw[hwv] at hwr
   have fin:∀(sb:Nat) (s:Slot) (is:Bool) (w:World),(is=true->s=(0,v)/\0≤v/\v<64)->(is=false->¬(0≤v/\v<64))->Vc.Own B w0 w (BlkA sb [.z s.1, .z s.2]::SlT slotE o (toSlots d.call.with_ j)::BlkA bx [.pointer (some ⟨bd,0,none⟩)]::BlkA bd (dcells bk d ec wv wk fs)::KerA bk k::R)->k8 ⟨sb,0,none⟩ is w:=fun sb s is w ht hf h=>by
    apply hk8;intro k12 hk12
    have kbad:∀w,(d.call.with_<0∨64<d.call.with_+n)->Vc.Own B w0 w (BlkA bd (dcells bk d ec wv wk fs)::KerA bk k::R)->k12 true w:=fun w hb h=>by
     apply hk12;exact cbT rfl (bad hb w h)
    cases is with
    |false=>
     have:=hf rfl;refine cbT rfl (kbad w ?_ h.sub);omega
    |true=>
     obtain ⟨rfl,v0,v1⟩:=ht rfl;refine cbF rfl ?_;refine ⟨_,h.ldc rfl,_,rfl,_,ld_add (h.ldd rfl),?_⟩;by_cases hneg:d.call.with_<0
     ·rw[decide_eq_true hneg]
      exact kbad w (.inl hneg) h.sub
     rw[decide_eq_false hneg];apply hk12;refine cbF rfl ?_;have hv:v=d.call.with_+(j:Int):=by omega
     subst hv;refine h.lc_2 rfl ?_;refine h.al fun w2 h=>?_
     generalize w.heap.size=g at h⊢;refine app1_slot (s:=o) (y:=(0,d.call.with_+(j:Int))) h (by unfold toSlots;simp;omega) fun o' w ho' h=>?_
     rw[show IntKind.i64.wrap ((j:Int)+1)=((j+1:Nat):Int) from by rw[wr (by omega) (by omega)];omega];refine ih (j+1) o' w (by omega) (fun _=>by omega) ?_;have e:toSlots d.call.with_ (j+1)=toSlots d.call.with_ j++ [(0,d.call.with_+(j:Int))]:=by unfold toSlots;rw[List.range_succ,List.map_append];rfl
     rw[e];exact h.sub
   refine h.dr fun w h=>?_
   refine ⟨_,h.ldc rfl,_,rfl,_,h.ldc rfl,_,h.ldc rfl,_,rfl,_,ld_add (h.ldd rfl),?_⟩;rw[hwv];refine ⟨?_,?_,trivial⟩
   ·refine slot_spec hk.b0 (h.pick (A:=KerA bk k)) fun w s is ht hf h=>?_
    refine ⟨?_,trivial⟩;refine h.al fun w' h=>⟨?_,trivial⟩
    generalize w.heap.size=sb at h⊢;refine h.stLc rfl rfl fun w h=>?_
    (try dsimp only[putAt,List.set_cons_zero,List.set_cons_succ] at h)
    exact fin sb s is w ht hf h.sub
   ·refine h.al fun w' h=>⟨?_,trivial⟩
    generalize w.heap.size=sb at h⊢;refine slot_spec hk.b0 (h.pick (A:=KerA bk k)) fun w s is ht hf h=>?_
    refine ⟨?_,trivial⟩;refine h.stLc rfl rfl fun w h=>?_
    (try dsimp only[putAt,List.set_cons_zero,List.set_cons_succ] at h)
    exact fin sb s is w ht hf h.sub
 have e0:toSlots d.call.with_ 0= []:=rfl;exact loop n 0 ⟨none,0,0⟩ w1 (by omega) (fun hh=>absurd hh (by omega)) (by rw[e0];exact Vc.Own.nilS h)
theorem laid_spec {s:Slot} {c:Cap} {K:Pw} (hc:Sl.CapR c) (hl:k.T.length<1000000) (h:Vc.Own B w0 w (BlkA bd (dcells bk d ec wv wk fs)::KerA bk k::R))
  (hK:∀w',Vc.Own B w0 w' (BlkA bd (dcells bk d ec wv wk fs)::KerA bk (k.laid d.s s c)::R)->K w'):C.qaL (some ⟨bd,0,none⟩) s.1 s.2 c.kind c.obj c.rights c.badge c.guard c.bits K w:=by
 apply S.qaL0;refine h.al fun w1 h=>?_
 generalize w.heap.size=c0 at h⊢;refine h.al fun w2 h=>?_
 generalize w1.heap.size=c1 at h⊢;obtain ⟨x,h⟩:=(h.pick (A:=KerA bk k)).ker;refine h.dr fun w h=>?_
 refine ⟨_,rfl,_,h.ldc rfl,_,rfl,_,h.ldc rfl,?_⟩;refine h.lc_2 rfl ?_;refine h.lc_6 rfl ⟨?_,trivial⟩;refine Sl.slots_Nodes_Put_spec (s:=s) (c:=c) hc (h.pick (A:=Sl.NodesA x.n k.bits k.H)) fun w h=>?_
 refine h.dr fun w h=>?_
 refine ⟨_,rfl,_,h.ldc rfl,_,rfl,_,h.ldd rfl,_,rfl,?_⟩;refine LdL_add (h.lc_2 rfl ?_);refine h.lc_2 rfl ⟨?_,trivial⟩;refine Tr.tree_Add_spec (p:=d.s) (s:=s) hl (h.pick (A:=Tr.TreeA x.tr k.T)) fun w h=>?_
 refine hK w ((show Vc.Own B w0 w (KerA bk (k.laid d.s s c)::BlkA bd (dcells bk d ec wv wk fs)::R) from Vc.Own.mk_ker x h.sub).sub)
end
section
variable {B:Nat} {w0 w:World} {R L:List Asn} {bd bk:Nat} {k:Ker} {d:Dng} {ec wv wk:Int} {fs:Sl} {N:Nat}
def Ker.roomB (k:Ker) (core a b:Int):Prop:=(a=1->0≤b)/\(a=2->1≤b/\b≤8/\k.bits.length<64)/\(a=3->k.t.isC core=true/\k.t.ths.length<64)
theorem made_spec {at_:Nat} {K:Int->Pw} (hk:KOk N k) (hN:N≤100000) (hr:k.roomB d.core d.call.a d.call.b) (h:Vc.Own B w0 w (BlkA bd (dcells bk d ec wv wk fs)::KerA bk k::R))
  (hK:∀w',Vc.Own B w0 w' (BlkA bd (dcells bk d ec wv wk fs)::KerA bk (k.made d.core d.call.a d.call.b at_).2::R)->K (k.made d.core d.call.a d.call.b at_).1 w'):C.qbr (some ⟨bd,0,none⟩) (at_:Int) K w:=by
 apply S.qbr0;have nu:=hk.nu;have ne:=hk.ne;have nn:=hk.nn;have ns:=hk.ns;have nf:=hk.nf;have nt:=hk.nt;obtain ⟨r1,r2,r3⟩:=hr;unfold Ker.made at hK;obtain ⟨x,h⟩:=(h.pick (A:=KerA bk k)).ker;refine ⟨_,rfl,_,ld_add (h.ldd rfl),?_⟩;refine ceq (fun e=>?_) (fun e=>?_)
 ·rw[if_pos e] at hK
  obtain ⟨bn,hbn⟩:=Int.eq_ofNat_of_zero_le (r1 e);rw[hbn,Int.toNat_natCast] at hK;refine h.dr fun w h=>?_
  refine ⟨_,rfl,_,rfl,_,h.ldc rfl,_,rfl,x.su,h.ldd rfl,_,rfl,_,ld_add (h.ldd rfl),_,h.ldc rfl,?_,trivial⟩;refine h.al fun w2 h=>⟨?_,trivial⟩
  generalize w.heap.size=g at h⊢;have h:Vc.Own B w0 w2 (BlkA g [.y (((⟨at_,bn,0⟩:Unt).base:Nat):Int), .z (((⟨at_,bn,0⟩:Unt).bits:Nat):Int), .y (((⟨at_,bn,0⟩:Unt).used:Nat):Int)]::_):=h.blk_eq (by rw[hbn];rfl);refine app1_unt (s:=x.su) (y:=⟨at_,bn,0⟩) h (by omega) fun s' w hs' h=>?_
  refine ⟨h.ldc rfl,_,rfl,?_,trivial⟩;refine h.std rfl rfl fun w h=>?_
  refine ⟨_,rfl,_,h.ldc rfl,_,rfl,s',h.ldd rfl,?_⟩;rw[hs',show IntKind.i64.wrap (((k.u.length+1:Nat):Int)-1)=(k.u.length:Int) from by rw[wr (by omega) (by omega)];omega]
  (dsimp only[kcells,dcells,putAt,List.set_cons_zero,List.set_cons_succ,Nat.zero_add] at h)
  refine hK w ((show Vc.Own B w0 w (KerA bk { k with u:=k.u++ [⟨at_,bn,0⟩]}::BlkA bd (dcells bk d ec wv wk fs)::R) from Vc.Own.mk_ker { x with su:=s'} h.sub).sub)
 rw[if_neg e] at hK;refine ceq (fun e2=>?_) (fun e2=>?_)
 ·rw[if_pos e2] at hK
  obtain ⟨b1,b2,b3⟩:=r2 e2
  have hm:Sl.makeN k.bits d.call.b=((k.bits.length:Int),0,k.bits++ [d.call.b]):=by
   unfold Sl.makeN;rw[if_neg (by omega),if_neg (by omega)]
  rw[hm] at hK;refine ⟨_,rfl,_,h.ldc rfl,_,rfl,_,h.ldd rfl,_,rfl,?_⟩;rw[show IntKind.i64.wrap ((k.bits.length:Int)+1)=(((k.bits++ [d.call.b]).length:Nat):Int) from by rw[wr (by omega) (by omega)];simp];refine h.std rfl rfl fun w h=>?_
  refine h.dr fun w h=>?_
  (dsimp only[kcells,dcells,putAt,List.set_cons_zero,List.set_cons_succ,Nat.zero_add] at h)
  refine ⟨_,rfl,_,h.ldc rfl,_,rfl,_,h.ldc rfl,_,rfl,_,ld_add (h.ldd rfl),?_,trivial⟩;refine Sl.slots_Nodes_Make_spec (h.pick (A:=Sl.NodesA x.n k.bits k.H)) fun w h=>?_
  rw[hm] at h⊢;dsimp only at h⊢;refine hK w ((show Vc.Own B w0 w (KerA bk { k with bits:=k.bits++ [d.call.b]}::BlkA bd (dcells bk d ec wv wk fs)::R) from Vc.Own.mk_ker x h.sub).sub)
 rw[if_neg e2] at hK;refine ceq (fun e3=>?_) (fun e3=>?_)
 ·rw[if_pos e3] at hK
  obtain ⟨b1,b2⟩:=r3 e3
  have hm:k.t.makeR 0 d.core=((k.t.ths.length:Int),0,k.t.make 0 d.core):=by
   unfold Th.Mt.makeR;rw[if_neg (fun hh=>hh ⟨by decide,by decide,b1⟩),if_neg (by omega)]
  rw[hm] at hK;have hml:(k.t.make 0 d.core).ths.length=k.t.ths.length+1:=by unfold Th.Mt.make;simp
  refine ⟨_,rfl,_,h.ldc rfl,_,rfl,_,h.ldd rfl,_,rfl,?_⟩;rw[show IntKind.i64.wrap ((k.t.ths.length:Int)+1)=(((k.t.make 0 d.core).ths.length:Nat):Int) from by rw[wr (by omega) (by omega),hml];simp];refine h.std rfl rfl fun w h=>?_
  refine h.dr fun w h=>?_
  (dsimp only[kcells,dcells,putAt,List.set_cons_zero,List.set_cons_succ,Nat.zero_add] at h)
  refine ⟨_,rfl,_,h.ldc rfl,_,rfl,_,h.ldd rfl,_,rfl,_,h.ldd rfl,?_,trivial⟩;refine Th.make_g hk.inv.ok (h.pick (A:=Th.ThrA x.t k.t)) fun w h=>?_
  rw[hm] at h⊢;dsimp only at h⊢;refine hK w ((show Vc.Own B w0 w (KerA bk { k with t:=k.t.make 0 d.core}::BlkA bd (dcells bk d ec wv wk fs)::R) from Vc.Own.mk_ker x h.sub).sub)
 rw[if_neg e3] at hK;refine ceq (fun e4=>?_) (fun e4=>?_)
 ·rw[if_pos e4] at hK
  have hpl:=(h.pick (A:=PtsA EndA x.pe k.ends)).pts_len;refine h.dr fun w h=>?_
  refine ⟨_,rfl,_,rfl,_,h.ldc rfl,_,h.ldc rfl,_,rfl,x.se,h.ldd rfl,?_,trivial⟩;refine endpoint_New_spec h fun p w h=>?_
  refine ⟨h.ldd rfl,h.ldc rfl,h.ldc rfl,?_,trivial⟩;refine h.al fun w2 h=>⟨?_,trivial⟩
  generalize w.heap.size=g at h⊢;refine app1_end (s:=x.se) (y:=p) h (by omega) fun s' w hs' h=>?_
  refine ⟨h.ldc rfl,_,rfl,?_,trivial⟩;refine h.std rfl rfl fun w h=>?_
  refine ⟨_,rfl,_,h.ldc rfl,_,rfl,s',h.ldd rfl,?_⟩;rw[hs',show IntKind.i64.wrap (((x.pe.length+1:Nat):Int)-1)=(k.ends.length:Int) from by rw[wr (by omega) (by omega)];omega]
  (dsimp only[kcells,dcells,putAt,List.set_cons_zero,List.set_cons_succ,Nat.zero_add] at h)
  have h:=Vc.Own.pt_add ((h.pick (A:=PtsA EndA x.pe k.ends)).pick (A:=EndA p ⟨[],false⟩));refine hK w ((show Vc.Own B w0 w (KerA bk { k with ends:=k.ends++ [⟨[],false⟩]}::BlkA bd (dcells bk d ec wv wk fs)::R) from Vc.Own.mk_ker { x with se:=s',pe:=x.pe++ [p]} h.sub).sub)
 rw[if_neg e4] at hK;refine ceq (fun e5=>?_) (fun e5=>?_)
 ·rw[if_pos e5] at hK
  have hpl:=(h.pick (A:=PtsA NoteA x.pn k.notes)).pts_len;refine h.dr fun w h=>?_
  refine ⟨_,rfl,_,rfl,_,h.ldc rfl,_,h.ldc rfl,_,rfl,x.sn,h.ldd rfl,?_,trivial⟩;refine notify_New_spec h fun p w h=>?_
  refine ⟨h.ldd rfl,h.ldc rfl,h.ldc rfl,?_,trivial⟩;refine h.al fun w2 h=>⟨?_,trivial⟩
  generalize w.heap.size=g at h⊢;refine app1_note (s:=x.sn) (y:=p) h (by omega) fun s' w hs' h=>?_
  refine ⟨h.ldc rfl,_,rfl,?_,trivial⟩;refine h.std rfl rfl fun w h=>?_
  refine ⟨_,rfl,_,h.ldc rfl,_,rfl,s',h.ldd rfl,?_⟩;rw[hs',show IntKind.i64.wrap (((x.pn.length+1:Nat):Int)-1)=(k.notes.length:Int) from by rw[wr (by omega) (by omega)];omega]
  (dsimp only[kcells,dcells,putAt,List.set_cons_zero,List.set_cons_succ,Nat.zero_add] at h)
  have h:=Vc.Own.pt_add ((h.pick (A:=PtsA NoteA x.pn k.notes)).pick (A:=NoteA p ⟨0,false,[]⟩));refine hK w ((show Vc.Own B w0 w (KerA bk { k with notes:=k.notes++ [⟨0,false,[]⟩]}::BlkA bd (dcells bk d ec wv wk fs)::R) from Vc.Own.mk_ker { x with sn:=s',pn:=x.pn++ [p]} h.sub).sub)
 rw[if_neg e5] at hK;refine ceq (fun e8=>?_) (fun e8=>?_)
 ·rw[if_pos e8] at hK
  have hpl:=(h.pick (A:=PtsA Tb.SpcA x.ps k.spaces)).pts_len;refine h.dr fun w h=>?_
  refine ⟨_,rfl,_,rfl,_,h.ldc rfl,_,h.ldc rfl,_,rfl,x.ss,h.ldd rfl,?_,trivial⟩;refine Tb.New_spec h fun p w h=>?_
  refine ⟨h.ldd rfl,h.ldc rfl,h.ldc rfl,?_,trivial⟩;refine h.al fun w2 h=>⟨?_,trivial⟩
  generalize w.heap.size=g at h⊢;refine app1_space (s:=x.ss) (y:=p) h (by omega) fun s' w hs' h=>?_
  refine ⟨h.ldc rfl,_,rfl,?_,trivial⟩;refine h.std rfl rfl fun w h=>?_
  refine ⟨_,rfl,_,h.ldc rfl,_,rfl,s',h.ldd rfl,?_⟩;rw[hs',show IntKind.i64.wrap (((x.ps.length+1:Nat):Int)-1)=(k.spaces.length:Int) from by rw[wr (by omega) (by omega)];omega]
  (dsimp only[kcells,dcells,putAt,List.set_cons_zero,List.set_cons_succ,Nat.zero_add] at h)
  have h:=Vc.Own.pt_add ((h.pick (A:=PtsA Tb.SpcA x.ps k.spaces)).pick (A:=Tb.SpcA p Tb.newS));refine hK w ((show Vc.Own B w0 w (KerA bk { k with spaces:=k.spaces++ [Tb.newS]}::BlkA bd (dcells bk d ec wv wk fs)::R) from Vc.Own.mk_ker { x with ss:=s',ps:=x.ps++ [p]} h.sub).sub)
 rw[if_neg e8] at hK;refine ceq (fun e6=>?_) (fun e6=>?_)
 ·rw[if_pos e6] at hK
  refine ⟨_,rfl,_,h.ldc rfl,_,rfl,_,h.ldd rfl,_,rfl,?_⟩;rw[show IntKind.i64.wrap ((k.frames:Int)+1)=((k.frames+1:Nat):Int) from by rw[wr (by omega) (by omega)];omega];refine h.std rfl rfl fun w h=>?_
  refine ⟨_,rfl,_,h.ldc rfl,_,rfl,_,h.ldd rfl,?_⟩;rw[show IntKind.i64.wrap (((k.frames+1:Nat):Int)-1)=(k.frames:Int) from by rw[wr (by omega) (by omega)];omega]
  (dsimp only[kcells,dcells,putAt,List.set_cons_zero,List.set_cons_succ,Nat.zero_add] at h)
  refine hK w ((show Vc.Own B w0 w (KerA bk { k with frames:=k.frames+1}::BlkA bd (dcells bk d ec wv wk fs)::R) from Vc.Own.mk_ker x h.sub).sub)
 ·rw[if_neg e6] at hK
  refine ⟨_,rfl,_,h.ldc rfl,_,rfl,_,h.ldd rfl,_,rfl,?_⟩;rw[show IntKind.i64.wrap ((k.tabs:Int)+1)=((k.tabs+1:Nat):Int) from by rw[wr (by omega) (by omega)];omega];refine h.std rfl rfl fun w h=>?_
  refine ⟨_,rfl,_,h.ldc rfl,_,rfl,_,h.ldd rfl,?_⟩;rw[show IntKind.i64.wrap (((k.tabs+1:Nat):Int)-1)=(k.tabs:Int) from by rw[wr (by omega) (by omega)];omega]
  (dsimp only[kcells,dcells,putAt,List.set_cons_zero,List.set_cons_succ,Nat.zero_add] at h)
  refine hK w ((show Vc.Own B w0 w (KerA bk { k with tabs:=k.tabs+1}::BlkA bd (dcells bk d ec wv wk fs)::R) from Vc.Own.mk_ker x h.sub).sub)
end
theorem capErr_new {a n:Int} (ha:1≤a/\a≤9) (hn:0≤n/\n<2147483648):Sl.capErr ⟨a,n,7,0,0,0⟩=0:=by
 have hg:Sl.guardB 0 0=true:=by decide
 unfold Sl.capErr;split
 ·rfl
 ·rw[if_neg]
  have:a=1∨a=2∨a=3∨a=4∨a=5∨a=6∨a=7∨a=8∨a=9:=by omega
  unfold Sl.capBad;rcases this with rfl|rfl|rfl|rfl|rfl|rfl|rfl|rfl|rfl<;>simp[hn.1,hn.2,hg,Sl.limitedB,Sl.badgedB]
theorem capR_new {a n:Int}:Sl.CapR ⟨a,n,7,0,0,0⟩:=⟨by show (0:Int)≤0;decide,by show (0:Int)<_;decide,by show (0:Int)≤0;decide,by show (0:Int)<_;decide⟩
section
variable {N:Nat} {k:Ker}
theorem objOk_mk {a n:Int} (h0:0≤n) (h1:a=1->n<(k.u.length:Int)) (h2:a=2->n<(k.bits.length:Int)) (h3:a=3->n<(k.t.ths.length:Int)) (h4:a=4->n<(k.ends.length:Int)) (h5:a=5->n<(k.notes.length:Int))
  (h6:a=6->n<(k.frames:Int)) (h7:a=7->n<(k.tabs:Int)) (h8:a=8->n<(k.spaces.length:Int)) (h9:a=9->n<8):k.objOk ⟨a,n,7,0,0,0⟩:=⟨h0,h1,h2,h3,h4,h5,h6,h7,h8,h9⟩
theorem KOk.ulift (h:KOk N k) {l:List Unt} (hl:∀x∈l,UOk x) (hg:k.u.length≤l.length) (hm:l.length≤N):KOk N { k with u:=l}:=
 h.same (k':={ k with u:=l}) rfl rfl rfl ⟨hg,Nat.le_refl _,Nat.le_refl _,Nat.le_refl _,Nat.le_refl _,Nat.le_refl _,Nat.le_refl _,Nat.le_refl _⟩ h.inv h.ln h.lnb hl h.sok hm h.ne h.nn h.ns h.nf h.nt h.el h.nl
theorem makeR_ok (hi:Th.InvX (-1) k.t) {c:Int} (h1:k.t.isC c=true) (h2:k.t.ths.length<64):k.t.makeR 0 c=((k.t.ths.length:Int),0,k.t.make 0 c):=by
 unfold Th.Mt.makeR;rw[if_neg (fun hh=>hh ⟨by decide,by decide,h1⟩),if_neg (by omega)]
theorem KOk.made (h:KOk N k) (hN:N≤100000) {core a b:Int} {at_:Nat} (ha:1≤a/\a≤8) (hr:k.roomB core a b) (hu:a=1->UOk ⟨at_,b.toNat,0⟩):
  KOk (N+1) (k.made core a b at_).2/\Gr k (k.made core a b at_).2/\(k.made core a b at_).2.H=k.H/\(k.made core a b at_).2.T=k.T/\(k.made core a b at_).2.objOk ⟨a,(k.made core a b at_).1,7,0,0,0⟩/\
   (k.made core a b at_).2.bits.length≤k.bits.length+1/\(k.made core a b at_).2.t.ths.length≤k.t.ths.length+1/\(k.made core a b at_).2.t.qs.length=k.t.qs.length/\(k.made core a b at_).1≤200000:=by
 have hM:=h.mono (Nat.le_succ N);have h1:=h.nu;have h2:=h.ne;have h3:=h.nn;have h4:=h.ns;have h5:=h.nf;have h6:=h.nt;have hbl:=h.nok.few;have htl:=h.inv.ok.few;obtain ⟨r1,r2,r3⟩:=hr;have noty:∀{p:Prop},a≠a->p:=fun hh=>absurd rfl hh
 unfold Ker.made;by_cases e:a=1
 ·rw[if_pos e]
  subst e;refine ⟨hM.ulift (fun x hx=>?_) (by simp) (by simp;omega),⟨by simp,Nat.le_refl _,Nat.le_refl _,Nat.le_refl _,Nat.le_refl _,Nat.le_refl _,Nat.le_refl _,Nat.le_refl _⟩,rfl,rfl,?_,by dsimp only;omega,by dsimp only;omega,rfl,by dsimp only;omega⟩
  ·rcases List.mem_append.1 hx with hx|hx
   ·exact h.u x hx
   ·rw[List.mem_singleton.1 hx];exact hu rfl
  ·dsimp only
   refine objOk_mk ?_ ?_ ?_ ?_ ?_ ?_ ?_ ?_ ?_ ?_<;>(try simp)<;>(try omega)
 rw[if_neg e];by_cases e2:a=2
 ·rw[if_pos e2]
  subst e2;obtain ⟨b1,b2,b3⟩:=r2 rfl
  have hm:Sl.makeN k.bits b=((k.bits.length:Int),0,k.bits++ [b]):=by
   unfold Sl.makeN;rw[if_neg (by omega),if_neg (by omega)]
  rw[hm];have hG:Gr k { k with bits:=k.bits++ [b]}:=⟨Nat.le_refl _,by simp,Nat.le_refl _,Nat.le_refl _,Nat.le_refl _,Nat.le_refl _,Nat.le_refl _,Nat.le_refl _⟩
  refine ⟨{ hM with b0:= ?_,nok:=h.nok.make b1 b2 b3,held:=fun s c hc=>⟨(h.held s c hc).1,hG.obj (h.held s c hc).2⟩},hG,rfl,rfl,?_,by simp,by dsimp only;omega,rfl,by dsimp only;omega⟩
  ·dsimp only
   rw[List.getElem?_append_left (by have:=(List.getElem?_eq_some_iff.1 h.b0).1;omega)];exact h.b0
  ·dsimp only
   refine objOk_mk ?_ ?_ ?_ ?_ ?_ ?_ ?_ ?_ ?_ ?_<;>(try simp)<;>(try omega)
 rw[if_neg e2];by_cases e3:a=3
 ·rw[if_pos e3]
  subst e3;obtain ⟨b1,b2⟩:=r3 rfl;rw[makeR_ok h.inv b1 b2];have hml:(k.t.make 0 core).ths.length=k.t.ths.length+1:=by unfold Th.Mt.make;simp
  have hG:Gr k { k with t:=k.t.make 0 core}:=⟨Nat.le_refl _,Nat.le_refl _,by dsimp only;omega,Nat.le_refl _,Nat.le_refl _,Nat.le_refl _,Nat.le_refl _,Nat.le_refl _⟩
  refine ⟨{ hM with inv:=h.inv.make b2 b1 (by decide),held:=fun s c hc=>⟨(h.held s c hc).1,hG.obj (h.held s c hc).2⟩},hG,rfl,rfl,?_,by dsimp only;omega,by dsimp only;omega,rfl,by dsimp only;omega⟩
  ·dsimp only
   refine objOk_mk ?_ ?_ ?_ ?_ ?_ ?_ ?_ ?_ ?_ ?_<;>(try simp)<;>(try omega)
 rw[if_neg e3];by_cases e4:a=4
 ·rw[if_pos e4]
  subst e4;have hG:Gr k { k with ends:=k.ends++ [⟨[],false⟩]}:=⟨Nat.le_refl _,Nat.le_refl _,Nat.le_refl _,by simp,Nat.le_refl _,Nat.le_refl _,Nat.le_refl _,Nat.le_refl _⟩
  refine ⟨{ hM with ne:=by simp;omega,el:=fun p hp=>?_,held:=fun s c hc=>⟨(h.held s c hc).1,hG.obj (h.held s c hc).2⟩},hG,rfl,rfl,?_,by dsimp only;omega,by dsimp only;omega,rfl,by dsimp only;omega⟩
  ·rcases List.mem_append.1 hp with hp|hp
   ·exact hM.el p hp
   ·rw[List.mem_singleton.1 hp];simp
  ·dsimp only
   refine objOk_mk ?_ ?_ ?_ ?_ ?_ ?_ ?_ ?_ ?_ ?_<;>(try simp)<;>(try omega)
 rw[if_neg e4];by_cases e5:a=5
 ·rw[if_pos e5]
  subst e5;have hG:Gr k { k with notes:=k.notes++ [⟨0,false,[]⟩]}:=⟨Nat.le_refl _,Nat.le_refl _,Nat.le_refl _,Nat.le_refl _,by simp,Nat.le_refl _,Nat.le_refl _,Nat.le_refl _⟩
  refine ⟨{ hM with nn:=by simp;omega,nl:=fun p hp=>?_,lnb:=fun x hx hx2=>?_,held:=fun s c hc=>⟨(h.held s c hc).1,hG.obj (h.held s c hc).2⟩},hG,rfl,rfl,?_,by dsimp only;omega,by dsimp only;omega,rfl,by dsimp only;omega⟩
  ·have:=h.lnb x hx hx2
   dsimp only;rw[List.length_append];exact ⟨this.1,by have:=this.2;simp;omega⟩
  ·rcases List.mem_append.1 hp with hp|hp
   ·exact hM.nl p hp
   ·rw[List.mem_singleton.1 hp];simp
  ·dsimp only
   refine objOk_mk ?_ ?_ ?_ ?_ ?_ ?_ ?_ ?_ ?_ ?_<;>(try simp)<;>(try omega)
 rw[if_neg e5];by_cases e8:a=8
 ·rw[if_pos e8]
  subst e8;have hG:Gr k { k with spaces:=k.spaces++ [Tb.newS]}:=⟨Nat.le_refl _,Nat.le_refl _,Nat.le_refl _,Nat.le_refl _,Nat.le_refl _,Nat.le_refl _,Nat.le_refl _,by simp⟩
  refine ⟨{ hM with ns:=by simp;omega,sok:=fun p hp=>?_,held:=fun s c hc=>⟨(h.held s c hc).1,hG.obj (h.held s c hc).2⟩},hG,rfl,rfl,?_,by dsimp only;omega,by dsimp only;omega,rfl,by dsimp only;omega⟩
  ·rcases List.mem_append.1 hp with hp|hp
   ·exact hM.sok p hp
   ·rw[List.mem_singleton.1 hp];exact Tb.SOk.new
  ·dsimp only
   refine objOk_mk ?_ ?_ ?_ ?_ ?_ ?_ ?_ ?_ ?_ ?_<;>(try simp)<;>(try omega)
 rw[if_neg e8];by_cases e6:a=6
 ·rw[if_pos e6]
  subst e6;have hG:Gr k { k with frames:=k.frames+1}:=⟨Nat.le_refl _,Nat.le_refl _,Nat.le_refl _,Nat.le_refl _,Nat.le_refl _,by dsimp only;omega,Nat.le_refl _,Nat.le_refl _⟩
  refine ⟨{ hM with nf:=by dsimp only;omega,held:=fun s c hc=>⟨(h.held s c hc).1,hG.obj (h.held s c hc).2⟩},hG,rfl,rfl,?_,by dsimp only;omega,by dsimp only;omega,rfl,by dsimp only;omega⟩
  ·dsimp only
   refine objOk_mk ?_ ?_ ?_ ?_ ?_ ?_ ?_ ?_ ?_ ?_<;>(try simp)<;>(try omega)
 ·rw[if_neg e6]
  have e7:a=7:=by omega
  subst e7;have hG:Gr k { k with tabs:=k.tabs+1}:=⟨Nat.le_refl _,Nat.le_refl _,Nat.le_refl _,Nat.le_refl _,Nat.le_refl _,Nat.le_refl _,by dsimp only;omega,Nat.le_refl _⟩
  refine ⟨{ hM with nt:=by dsimp only;omega,held:=fun s c hc=>⟨(h.held s c hc).1,hG.obj (h.held s c hc).2⟩},hG,rfl,rfl,?_,by dsimp only;omega,by dsimp only;omega,rfl,by dsimp only;omega⟩
  ·dsimp only
   refine objOk_mk ?_ ?_ ?_ ?_ ?_ ?_ ?_ ?_ ?_ ?_<;>(try simp)<;>(try omega)
theorem made_pos {core a b:Int} {at_:Nat} (ho:(k.made core a b at_).2.objOk ⟨a,(k.made core a b at_).1,7,0,0,0⟩):0≤(k.made core a b at_).1:=ho.1
def Ker.make1 (core a b w:Int) (s:Slot) (j:Nat) (at_:Nat) (k:Ker):Ker:=(k.made core a b at_).2.laid s (0,w+(j:Int)) ⟨a,(k.made core a b at_).1,7,0,0,0⟩
theorem KOk.make1 (h:KOk N k) (hN:N≤100000) {core a b w:Int} {s:Slot} {j at_:Nat} (ha:1≤a/\a≤8) (hr:k.roomB core a b) (hu:a=1->UOk ⟨at_,b.toNat,0⟩) (hs:(k.H s).isSome=true)
  (hw:0≤w/\w+(j:Int)<64) (hn:k.H (0,w+(j:Int))=none):
  KOk (N+1) (k.make1 core a b w s j at_)/\Gr k (k.make1 core a b w s j at_)/\(k.make1 core a b w s j at_).H=Sl.updH k.H (0,w+(j:Int)) (some ⟨a,(k.made core a b at_).1,7,0,0,0⟩)/\
   (k.make1 core a b w s j at_).bits.length≤k.bits.length+1/\(k.make1 core a b w s j at_).t.ths.length≤k.t.ths.length+1/\(k.make1 core a b w s j at_).t.qs.length=k.t.qs.length:=by
 obtain ⟨m1,m2,m3,m4,m5,m6,m7,m8,m9⟩:=h.made hN ha hr hu
 have hl:=m1.laid (f:=s) (t:=(0,w+(j:Int))) (c:=⟨a,(k.made core a b at_).1,7,0,0,0⟩) (by rw[m3];exact hs) ⟨rfl,by show 0≤w+(j:Int);omega,hw.2⟩ (by rw[m3];exact hn)
  (capErr_new ⟨ha.1,by omega⟩ ⟨made_pos m5,by omega⟩) (show a≠0 by omega) capR_new m5
 refine ⟨hl.1,⟨m2.u,m2.b,m2.t,m2.e,m2.n,m2.f,m2.tb,m2.s⟩,?_,m6,m7,m8⟩;show (Ker.laid _ _ _ _).H=_;rw[hl.2,m3]
end
structure MkOk (core a b w:Int) (s:Slot) (ats:List Nat) (j M:Nat) (k:Ker):Prop where
 ok:KOk M k
 le:M+ats.length≤100000
 kind:1≤a/\a≤8
 r1:a=1->0≤b/\∀x∈ats,UOk ⟨x,b.toNat,0⟩
 r2:a=2->1≤b/\b≤8/\k.bits.length+ats.length≤64
 r3:a=3->k.t.isC core=true/\k.t.ths.length+ats.length≤64
 hs:(k.H s).isSome=true
 w0:0≤w
 w1:w+(j:Int)+(ats.length:Int)≤64
 fr:∀i:Nat,i<ats.length->k.H (0,w+((j+i:Nat):Int))=none
theorem MkOk.room {core a b w:Int} {s:Slot} {x:Nat} {ats:List Nat} {j M:Nat} {k:Ker} (h:MkOk core a b w s (x::ats) j M k):k.roomB core a b/\(a=1->UOk ⟨x,b.toNat,0⟩)/\(w+(j:Int)<64)/\k.H (0,w+(j:Int))=none:=by
 have h1:=h.r1;have h2:=h.r2;have h3:=h.r3;have h4:=h.w1;have h5:=h.fr 0 (by simp);simp only[List.length_cons] at h2 h3 h4;exact ⟨⟨fun e=>(h1 e).1,fun e=>⟨(h2 e).1,(h2 e).2.1,by have:=(h2 e).2.2;omega⟩,fun e=>⟨(h3 e).1,by have:=(h3 e).2;omega⟩⟩,fun e=>(h1 e).2 x List.mem_cons_self,by omega,by simpa using h5⟩
theorem MkOk.step {core a b w:Int} {s:Slot} {x:Nat} {ats:List Nat} {j M:Nat} {k:Ker} (h:MkOk core a b w s (x::ats) j M k):MkOk core a b w s ats (j+1) (M+1) (k.make1 core a b w s j x):=by
 obtain ⟨g1,g2,g3,g4⟩:=h.room;have hle:=h.le;have hw1:=h.w1;have hr2:=h.r2;have hr3:=h.r3;simp only[List.length_cons] at hle hw1 hr2 hr3;obtain ⟨m1,m2,m3,m4,m5,m6⟩:=h.ok.make1 (by omega) h.kind g1 g2 h.hs ⟨h.w0,g3⟩ g4;refine ⟨m1,by omega,h.kind,fun e=>⟨(h.r1 e).1,fun y hy=>(h.r1 e).2 y (List.mem_cons_of_mem _ hy)⟩,fun e=>⟨(hr2 e).1,(hr2 e).2.1,by have:=(hr2 e).2.2;omega⟩,fun e=>⟨?_,by have:=(hr3 e).2;omega⟩,?_,h.w0,by omega,fun i hi=>?_⟩
 ·have:=(hr3 e).1
  unfold Th.Mt.isC at this⊢;rw[m6];exact this
 ·rw[m3]
  unfold Sl.updH;split
  ·rfl
  ·exact h.hs
 ·rw[m3]
  unfold Sl.updH;rw[if_neg (fun e=>by have:=congrArg Prod.snd e;dsimp only at this;omega)];have:=h.fr (i+1) (by simp;omega)
  rwa [show j+(i+1)=j+1+i from by omega] at this
theorem MkOk.all {core a b w:Int} {s:Slot}:∀{ats:List Nat} {j M:Nat} {k:Ker},MkOk core a b w s ats j M k->KOk (M+ats.length) (Ker.makes core a b w s ats j k)
 | [],j,M,k,h=>h.ok
 |x::ats,j,M,k,h=>by
  have:=MkOk.all h.step;rw[show M+1+ats.length=M+(x::ats).length from by simp;omega] at this;exact this
theorem sizeK_ok {a b:Int} (h:(sizeK a b).2=0):(1≤a/\a≤8)/\(a=1->4≤b/\b≤20/\(sizeK a b).1=b)/\(a=2->1≤b/\b≤8):=by
 unfold sizeK at*
 by_cases e1:a=1
 ·rw[if_pos e1] at h⊢
  split at h
  ·rename_i hb
   rw[if_pos hb];exact ⟨by omega,fun _=>⟨hb.1,hb.2,rfl⟩,by omega⟩
  ·cases h
 rw[if_neg e1] at h⊢;by_cases e2:a=2
 ·rw[if_pos e2] at h⊢
  split at h
  ·rename_i hb
   exact ⟨by omega,by omega,fun _=>hb⟩
  ·cases h
 rw[if_neg e2] at h⊢;refine ⟨?_,fun e=>absurd e e1,fun e=>absurd e e2⟩;split at h
 ·omega
 split at h
 ·omega
 split at h
 ·omega
 ·cases h
section
variable {B:Nat} {w0 w:World} {R L:List Asn} {bd bk:Nat} {k:Ker} {d:Dng} {ec wv wk:Int} {fs:Sl} {N:Nat}
theorem KOk.uAt (hk:KOk N k) {n:Int} (h0:0≤n) (h1:n<(k.u.length:Int)):k.u[n.toNat]?=some (k.uAt n)/\UOk (k.uAt n):=by
 have hx:k.u[n.toNat]?=some k.u[n.toNat]:=gE (by omega);unfold Ker.uAt;rw[hx];exact ⟨rfl,hk.u _ (List.getElem_mem _)⟩
theorem retype_start (hk:KOk N k) (hN:N+64≤100000) (hs:(k.H d.s).isSome=true) (hc:d.c.kind=1) (ho:k.objOk d.c) (hcore:k.t.isC d.core=true)
  (h0:(placeU (k.uAt d.c.obj) d.call.a d.call.b d.call.c).2.2=0) (h1:k.freeK d.call.with_ d.call.c.toNat=0) (h2:¬((d.call.a=2/\64<(k.bits.length:Int)+d.call.c)∨(d.call.a=3/\64<(k.t.ths.length:Int)+d.call.c))):
  MkOk d.core d.call.a d.call.b d.call.with_ d.s (placeU (k.uAt d.c.obj) d.call.a d.call.b d.call.c).1 0 N { k with u:=k.u.set d.c.obj.toNat (placeU (k.uAt d.c.obj) d.call.a d.call.b d.call.c).2.1}:=by
 obtain ⟨hu1,hu2⟩:=hk.uAt ho.1 (ho.2.1 hc);obtain ⟨p1,p2,p3,p4,p5,p6⟩:=hu2.place h0;obtain ⟨s1,s2,s3⟩:=sizeK_ok p5;obtain ⟨f1,f2,f3⟩:=hk.freeK_out h1;refine ⟨hk.ulift (fun x hx=>?_) (by simp) (by simpa using hk.nu),by omega,s1,fun e=>⟨by have:=s2 e;omega,fun x hx=>?_⟩,fun e=>⟨(s3 e).1,(s3 e).2,?_⟩,fun e=>⟨hcore,?_⟩,hs,f1,by rw[p4];omega,fun i hi=>?_⟩
 ·rcases List.mem_or_eq_of_mem_set hx with hx|hx
  ·exact hk.u x hx
  ·rw[hx];exact p3
 ·obtain ⟨q1,q2⟩:=p6 x hx
  rw[(s2 e).2.2] at q1 q2;exact ⟨by show d.call.b.toNat≤20;have:=s2 e;omega,q2,q1,Nat.zero_le _⟩
 ·dsimp only;rw[p4];omega
 ·dsimp only;rw[p4];omega
 ·rw[p4] at hi
  have:=f3 i hi
  rwa [show ((0+i:Nat):Int)=(i:Int) from by omega]
theorem KOk.retype (hk:KOk N k) (hN:N+64≤100000) (hs:(k.H d.s).isSome=true) (hc:d.c.kind=1) (ho:k.objOk d.c) (hcore:k.t.isC d.core=true):KOk (N+64) (k.retype d).2:=by
 unfold Ker.retype;by_cases h0:(placeU (k.uAt d.c.obj) d.call.a d.call.b d.call.c).2.2≠0
 ·rw[if_pos h0];exact hk.mono (by omega)
 rw[if_neg h0];by_cases h1:k.freeK d.call.with_ d.call.c.toNat≠0
 ·rw[if_pos h1];exact hk.mono (by omega)
 rw[if_neg h1];split
 ·exact hk.mono (by omega)
 rename_i h2;have hm:=retype_start hk hN hs hc ho hcore (by omega) (by omega) h2;obtain ⟨hu1,hu2⟩:=hk.uAt ho.1 (ho.2.1 hc);obtain ⟨p1,p2,p3,p4,p5,p6⟩:=hu2.place (show (placeU (k.uAt d.c.obj) d.call.a d.call.b d.call.c).2.2=0 by omega);exact hm.all.mono (by rw[p4];omega)
theorem retype_spec {K:Int->Pw} (hk:KOk N k) (hN:N+64≤100000) (hs:(k.H d.s).isSome=true) (hc:d.c.kind=1) (ho:k.objOk d.c) (hcore:k.t.isC d.core=true)
  (hw0: -9223372036854775808≤d.call.with_) (hw1:d.call.with_<9223372036854775808) (h:Vc.Own B w0 w (BlkA bd (dcells bk d ec wv wk fs)::KerA bk k::R))
  (hK:∀w',Vc.Own B w0 w' (BlkA bd (dcells bk d ec wv wk fs)::KerA bk (k.retype d).2::R)->K (k.retype d).1 w'):C.qaD (some ⟨bd,0,none⟩) K w:=by
 apply S.qaD0;obtain ⟨hu1,hu2⟩:=hk.uAt ho.1 (ho.2.1 hc);have o0:=ho.1;have o1:=ho.2.1 hc;have hst:=retype_start (d:=d) hk hN hs hc ho hcore;have hpl:=hu2.place (kind:=d.call.a) (bits:=d.call.b) (n:=d.call.c);unfold Ker.retype at hK;refine ⟨_,rfl,?_⟩;refine LdL_add (h.lc_6 rfl ?_);refine h.al fun w1 h=>?_
 generalize w.heap.size=cb at h⊢;refine h.stLc rfl rfl fun w h=>?_
 (try dsimp only[putAt,List.set_cons_zero,List.set_cons_succ] at h)
 intro k11 hk11
 have fin:∀(l:Nat) (s:Sl) (w:World),Vc.Own B w0 w (BlkA l [.y ((placeU (k.uAt d.c.obj) d.call.a d.call.b d.call.c).2.1.base:Int), .z ((placeU (k.uAt d.c.obj) d.call.a d.call.b d.call.c).2.1.bits:Int), .y ((placeU (k.uAt d.c.obj) d.call.a d.call.b d.call.c).2.1.used:Int)]::SlT wE s (placeU (k.uAt d.c.obj) d.call.a d.call.b d.call.c).1::
   BlkA cb [.z d.call.ask, .z d.call.at_, .z d.call.with_, .z d.call.a, .z d.call.b, .z d.call.c]::BlkA bd (dcells bk d ec wv wk fs)::KerA bk k::R)->k11 s ⟨l,0,none⟩ (placeU (k.uAt d.c.obj) d.call.a d.call.b d.call.c).2.2 w:=fun l s w h=>by
  apply hk11;generalize placeU (k.uAt d.c.obj) d.call.a d.call.b d.call.c=P at h hK hst hpl⊢;obtain ⟨ats,left,er⟩:=P;dsimp only at h hK hst hpl⊢;by_cases h0:er≠0
  ·rw[if_pos h0] at hK
   exact cneT h0 (hK w h.sub)
  rw[if_neg h0] at hK;have h0:er=0:=by omega
  obtain ⟨p1,p2,p3,p4,p5,p6⟩:=hpl h0;refine cneF h0 ⟨_,h.ldd rfl,?_⟩;obtain ⟨cn,hcn⟩:=Int.eq_ofNat_of_zero_le (show 0≤d.call.c by omega);have hcn2:d.call.c.toNat=cn:=by omega
  rw[hcn2] at hK;rw[hcn];refine free_spec (n:=cn) hk hw0 hw1 (by omega) ((h.pick (A:=KerA bk k)).pick (A:=BlkA bd (dcells bk d ec wv wk fs))) (fun hf s w h=>?_) (fun hf so w h=>?_)
  ·rw[if_pos hf] at hK
   exact cneT hf (hK w h.sub)
  rw[if_neg (by omega)] at hK;refine cneF rfl ?_;intro k20 hk20
  have kbad:((d.call.a=2/\64<(k.bits.length:Int)+d.call.c)∨(d.call.a=3/\64<(k.t.ths.length:Int)+d.call.c))->∀w,Vc.Own B w0 w (BlkA bd (dcells bk d ec wv wk fs)::KerA bk k::R)->k20 true w:=fun hb w h=>by
   rw[if_pos hb] at hK;apply hk20;exact cbT rfl (hK w h)
  have kgood:¬((d.call.a=2/\64<(k.bits.length:Int)+d.call.c)∨(d.call.a=3/\64<(k.t.ths.length:Int)+d.call.c))->∀w,Vc.Own B w0 w (SlT slotE so (toSlots d.call.with_ cn)::BlkA l [.y (left.base:Int), .z (left.bits:Int), .y (left.used:Int)]::SlT wE s ats::
   BlkA cb [.z d.call.ask, .z d.call.at_, .z d.call.with_, .z d.call.a, .z d.call.b, .z d.call.c]::BlkA bd (dcells bk d ec wv wk fs)::KerA bk k::R)->k20 false w:=fun hb w h=>by
   rw[if_neg hb] at hK;have hst:=hst h0 (by rw[hcn2];exact hf) hb;apply hk20;refine cbF rfl ?_;obtain ⟨x,h⟩:=(h.pick (A:=KerA bk k)).ker;refine h.dr fun w h=>?_
   refine ⟨_,rfl,_,h.ldc rfl,_,rfl,x.su,h.ldd rfl,_,rfl,_,ld_add (h.ldd rfl),?_⟩;refine h.lc_3 rfl ?_;refine h.ixc (s:=x.su) (i:=d.c.obj) (j:=d.c.obj.toNat) (by omega) hu1 fun a ha _ _=>⟨?_,trivial⟩
   refine h.stELc (s:=x.su) (xs:=k.u) (i:=d.c.obj) (j:=d.c.obj.toNat) left (by omega) (by omega) ha fun w h=>?_
   have h:Vc.Own B w0 w (KerA bk { k with u:=k.u.set d.c.obj.toNat left}::SlT slotE so (toSlots d.call.with_ cn)::SlT wE s ats::
    BlkA cb [.z d.call.ask, .z d.call.at_, .z d.call.with_, .z d.call.a, .z d.call.b, .z d.call.c]::BlkA bd (dcells bk d ec wv wk fs)::R):=Vc.Own.mk_ker x h.sub
   intro l35 hl35
   have loop:∀(r j M:Nat) (kj:Ker) (w:World),j+r=cn->MkOk d.core d.call.a d.call.b d.call.with_ d.s (ats.drop j) j M kj->Ker.makes d.core d.call.a d.call.b d.call.with_ d.s (ats.drop j) j kj=Ker.makes d.core d.call.a d.call.b d.call.with_ d.s ats 0 { k with u:=k.u.set d.c.obj.toNat left}->
     Vc.Own B w0 w (KerA bk kj::SlT slotE so (toSlots d.call.with_ cn)::SlT wE s ats::
    BlkA cb [.z d.call.ask, .z d.call.at_, .z d.call.with_, .z d.call.a, .z d.call.b, .z d.call.c]::BlkA bd (dcells bk d ec wv wk fs)::R)->l35 (j:Int) w:=by
    intro r
    induction r with
    |zero=>
     intro j M kj w hj hm he h;have hlen:=h.lenc so;unfold toSlots at hlen;simp only[List.length_map,List.length_range] at hlen;apply hl35;refine cdecF (by omega) ?_;rw[List.drop_of_length_le (by omega)] at he;have he:kj=_:=he;refine hK w ?_;rw[←he];exact h.sub
    |succ r ih=>
     intro j M kj w hj hm he h;have hlen:=h.lenc so;have hlt:(toSlots d.call.with_ cn).length=cn:=by unfold toSlots;simp
     have hx:(toSlots d.call.with_ cn)[j]?=some (0,d.call.with_+(j:Int)):=by
      unfold toSlots;rw[List.getElem?_map,List.getElem?_range (by omega)];rfl
     have ha:ats[j]?=some ats[j]:=gE (by omega);rw[List.drop_eq_getElem_cons (by omega:j<ats.length)] at hm he;generalize ats[j]=at_ at ha hm he;apply hl35;refine cdecT (by omega) ?_;refine h.ixc (s:=so) rfl hx fun a1 ha1 _ hc1=>ldSlot hc1 ?_
     refine h.al fun w2 h=>?_
     generalize w.heap.size=g at h⊢;refine h.stLc rfl rfl fun w h=>?_
     (try dsimp only[putAt,List.set_cons_zero,List.set_cons_succ] at h)
     refine h.dr fun w h=>?_
     refine h.ixc (s:=s) rfl ha fun a2 ha2 h02 _=>⟨_,h02 _ rfl,?_⟩
     refine h.lc_2 rfl ⟨_,h.ldd rfl,?_,trivial⟩;refine made_spec (at_:=at_) hm.ok (by have:=hm.le;omega) hm.room.1 ((h.pick (A:=KerA bk kj)).pick (A:=BlkA bd (dcells bk d ec wv wk fs))) fun w h=>?_
     refine ⟨h.ldd rfl,h.hd rfl ⟨?_,trivial⟩⟩;obtain ⟨g1,g2,g3,g4⟩:=hm.room;obtain ⟨q1,q2,q3,q4,q5,q6,q7,q8,q9⟩:=hm.ok.made (by have:=hm.le;omega) hm.kind g1 g2;refine laid_spec (k:=(kj.made d.core d.call.a d.call.b at_).2) (s:=(0,d.call.with_+(j:Int))) (c:=⟨d.call.a,(kj.made d.core d.call.a d.call.b at_).1,7,0,0,0⟩) capR_new (by rw[q4];have:=hm.ok.few;omega) h fun w h=>?_
     have h:Vc.Own B w0 w (BlkA bd (dcells bk d ec wv wk fs)::KerA bk (kj.make1 d.core d.call.a d.call.b d.call.with_ d.s j at_)::_):=h;rw[show IntKind.i64.wrap ((j:Int)+1)=((j+1:Nat):Int) from by rw[wr (by omega) (by omega)];omega];exact ih (j+1) (M+1) (kj.make1 d.core d.call.a d.call.b d.call.with_ d.s j at_) w (by omega) hm.step he h.sub
   exact loop cn 0 N _ w (by omega) hst rfl h
  obtain ⟨x,h⟩:=(h.pick (A:=KerA bk k)).ker;have hbl:=hk.nok.few;have htl:=hk.inv.ok.few;refine h.dr fun w h=>?_
  refine ⟨_,h.ldd rfl,?_⟩;refine ceq (fun e2=>?_) (fun e2=>?_)
  ·refine ⟨_,rfl,_,h.ldc rfl,_,rfl,_,h.ldd rfl,_,h.ldd rfl,?_⟩
   rw[wr (by omega) (by omega)];refine cdec (fun e3=>?_) (fun e3=>?_)
   ·exact kbad (.inl ⟨e2,by omega⟩) w ((show Vc.Own B w0 w (KerA bk k::BlkA bd (dcells bk d ec wv wk fs)::R) from Vc.Own.mk_ker x h.sub).sub)
   ·refine ⟨_,h.ldd rfl,?_⟩
    refine ceqF (by omega) ?_
    exact kgood (by omega) w ((show Vc.Own B w0 w (KerA bk k::SlT slotE so (toSlots d.call.with_ cn)::BlkA l [.y (left.base:Int), .z (left.bits:Int), .y (left.used:Int)]::SlT wE s ats::
     BlkA cb [.z d.call.ask, .z d.call.at_, .z d.call.with_, .z d.call.a, .z d.call.b, .z d.call.c]::BlkA bd (dcells bk d ec wv wk fs)::R) from Vc.Own.mk_ker x h.sub).sub)
  ·refine ⟨_,h.ldd rfl,?_⟩
   refine ceq (fun e3=>?_) (fun e3=>?_)
   ·refine ⟨_,rfl,_,h.ldc rfl,_,rfl,_,h.ldd rfl,_,h.ldd rfl,?_⟩
    rw[wr (by omega) (by omega)];by_cases e4:64<(k.t.ths.length:Int)+d.call.c
    ·rw[decide_eq_true (show (k.t.ths.length:Int)+d.call.c>64 from e4)]
     exact kbad (.inr ⟨e3,by omega⟩) w ((show Vc.Own B w0 w (KerA bk k::BlkA bd (dcells bk d ec wv wk fs)::R) from Vc.Own.mk_ker x h.sub).sub)
    ·rw[decide_eq_false (show ¬(k.t.ths.length:Int)+d.call.c>64 from e4)]
     exact kgood (by omega) w ((show Vc.Own B w0 w (KerA bk k::SlT slotE so (toSlots d.call.with_ cn)::BlkA l [.y (left.base:Int), .z (left.bits:Int), .y (left.used:Int)]::SlT wE s ats::
      BlkA cb [.z d.call.ask, .z d.call.at_, .z d.call.with_, .z d.call.a, .z d.call.b, .z d.call.c]::BlkA bd (dcells bk d ec wv wk fs)::R) from Vc.Own.mk_ker x h.sub).sub)
   ·exact kgood (by omega) w ((show Vc.Own B w0 w (KerA bk k::SlT slotE so (toSlots d.call.with_ cn)::BlkA l [.y (left.base:Int), .z (left.bits:Int), .y (left.used:Int)]::SlT wE s ats::
     BlkA cb [.z d.call.ask, .z d.call.at_, .z d.call.with_, .z d.call.a, .z d.call.b, .z d.call.c]::BlkA bd (dcells bk d ec wv wk fs)::R) from Vc.Own.mk_ker x h.sub).sub)
 obtain ⟨x,h⟩:=(h.pick (A:=KerA bk k)).ker;refine h.dr fun w h=>?_
 refine ⟨_,rfl,_,h.ldc rfl,_,rfl,x.su,h.ldd rfl,_,rfl,_,ld_add (h.ldd rfl),?_⟩;refine h.ixc (s:=x.su) (i:=d.c.obj) (j:=d.c.obj.toNat) (by omega) hu1 fun a ha _ hcu=>?_
 refine ⟨_,hcu 0 _ rfl,_,hcu 1 _ rfl,_,hcu 2 _ rfl,?_⟩;refine ⟨_,h.ldd rfl,_,h.ldd rfl,_,h.ldd rfl,?_,?_,trivial⟩
 ·refine Place_spec hu2 h fun s w h=>?_
  refine ⟨?_,trivial⟩;refine h.al fun w' h=>⟨?_,trivial⟩
  generalize w.heap.size=l at h⊢;refine h.stLc rfl rfl fun w h=>?_
  (try dsimp only[putAt,List.set_cons_zero,List.set_cons_succ] at h)
  exact fin l s w ((show Vc.Own B w0 w (KerA bk k::BlkA l [.y ((placeU (k.uAt d.c.obj) d.call.a d.call.b d.call.c).2.1.base:Int), .z ((placeU (k.uAt d.c.obj) d.call.a d.call.b d.call.c).2.1.bits:Int), .y ((placeU (k.uAt d.c.obj) d.call.a d.call.b d.call.c).2.1.used:Int)]::SlT wE s (placeU (k.uAt d.c.obj) d.call.a d.call.b d.call.c).1::
   BlkA cb [.z d.call.ask, .z d.call.at_, .z d.call.with_, .z d.call.a, .z d.call.b, .z d.call.c]::BlkA bd (dcells bk d ec wv wk fs)::R) from Vc.Own.mk_ker x h.sub).sub)
 ·refine h.al fun w' h=>⟨?_,trivial⟩
  generalize w.heap.size=l at h⊢;refine Place_spec hu2 h fun s w h=>?_
  refine ⟨?_,trivial⟩;refine h.stLc rfl rfl fun w h=>?_
  (try dsimp only[putAt,List.set_cons_zero,List.set_cons_succ] at h)
  exact fin l s w ((show Vc.Own B w0 w (KerA bk k::BlkA l [.y ((placeU (k.uAt d.c.obj) d.call.a d.call.b d.call.c).2.1.base:Int), .z ((placeU (k.uAt d.c.obj) d.call.a d.call.b d.call.c).2.1.bits:Int), .y ((placeU (k.uAt d.c.obj) d.call.a d.call.b d.call.c).2.1.used:Int)]::SlT wE s (placeU (k.uAt d.c.obj) d.call.a d.call.b d.call.c).1::
   BlkA cb [.z d.call.ask, .z d.call.at_, .z d.call.with_, .z d.call.a, .z d.call.b, .z d.call.c]::BlkA bd (dcells bk d ec wv wk fs)::R) from Vc.Own.mk_ker x h.sub).sub)
end
section
variable {B:Nat} {w0 w:World} {R L:List Asn} {bd bk:Nat} {k:Ker} {d:Dng} {ec wv wk:Int} {fs:Sl} {N:Nat}
theorem toSlots1 (a:Int):toSlots a 1= [(0,a)]:=by simp[toSlots]
theorem wrap_u64_rng (b:Int):0≤IntKind.u64.wrap b/\IntKind.u64.wrap b<18446744073709551616:=by
 have e1:(2:Int)^64=18446744073709551616:=by decide
 have h:IntKind.u64.wrap b=b%18446744073709551616:=by
  simp only[IntKind.wrap,IntKind.bits,IntKind.signed,e1,Bool.false_and,Bool.false_eq_true,if_false]
 rw[h];exact ⟨Int.emod_nonneg _ (by decide),Int.emod_lt_of_pos _ (by decide)⟩
theorem mintC_rng {c:Cap} {r g:Int} (hc:Sl.CapR c) (hg:0≤g/\g<18446744073709551616):Sl.CapR (Ker.mintC c r g).1:=by
 have hz:Sl.CapR Sl.zeroCap:=⟨by decide,by decide,by decide,by decide⟩
 unfold Ker.mintC;split
 ·exact hz
 split
 ·exact hz
 split
 ·exact hz
 ·refine ⟨?_,?_,hc.g0,hc.g1⟩
  ·dsimp only
   split
   ·exact hg.1
   ·exact hc.b0
  ·dsimp only
   split
   ·exact hg.2
   ·exact hc.b1
theorem mint_spec {K:Int->Pw} (hk:KOk N k) (hc:Sl.CapR d.c) (hw0: -9223372036854775808≤d.call.with_) (hw1:d.call.with_<9223372036854775808) (h:Vc.Own B w0 w (BlkA bd (dcells bk d ec wv wk fs)::KerA bk k::R))
  (hK:∀w',Vc.Own B w0 w' (BlkA bd (dcells bk d ec wv wk fs)::KerA bk (k.mint d).2::R)->K (k.mint d).1 w'):C.qbk (some ⟨bd,0,none⟩) K w:=by
 apply S.qbk0;unfold Ker.mint at hK;have hr:=mintC_rng (r:=d.call.a) hc (wrap_u64_rng d.call.b);have hfew:=hk.few;refine ⟨_,rfl,_,h.ldd rfl,?_⟩;refine ceq (fun e=>?_) (fun e=>?_)
 ·rw[if_pos e] at hK;exact hK w h
 rw[if_neg e] at hK;refine free_spec (n:=1) hk hw0 hw1 (by omega) h (fun hf s w h=>?_) (fun hf so w h=>?_)
 ·rw[if_pos hf] at hK
  exact cneT hf (hK w h)
 rw[if_neg (by omega)] at hK;rw[toSlots1] at h;refine cneF rfl ?_;intro k7 hk7
 have fin:∀(s:Nat) (w:World),Vc.Own B w0 w (BlkA s (Ker.mintC d.c d.call.a (IntKind.u64.wrap d.call.b)).1.cells::SlT slotE so [(0,d.call.with_)]::BlkA bd (dcells bk d ec wv wk fs)::KerA bk k::R)->k7 (Ker.mintC d.c d.call.a (IntKind.u64.wrap d.call.b)).2 ⟨s,0,none⟩ w:=fun s w h=>by
  apply hk7;by_cases he:(Ker.mintC d.c d.call.a (IntKind.u64.wrap d.call.b)).2≠0
  ·rw[if_pos he] at hK
   exact cneT he (hK w h.sub)
  rw[if_neg he] at hK;refine cneF (by omega) ?_;refine h.dr fun w h=>?_
  refine h.ixc (s:=so) (i:=0) (j:=0) (x:=(0,d.call.with_)) rfl rfl fun a ha _ hc1=>ldSlot hc1 ?_
  refine h.lc_6 rfl ⟨?_,trivial⟩;refine laid_spec (s:=(0,d.call.with_)) (c:=(Ker.mintC d.c d.call.a (IntKind.u64.wrap d.call.b)).1) hr (by omega) ((h.pick (A:=KerA bk k)).pick (A:=BlkA bd (dcells bk d ec wv wk fs))) fun w h=>?_
  exact hK w h.sub
 refine h.dr fun w h=>?_
 refine ⟨_,rfl,?_⟩;refine LdL_add (h.lc_6 rfl ?_);refine ⟨_,rfl,_,ld_add (h.ldd rfl),_,rfl,_,ld_add (h.ldd rfl),?_,?_,trivial⟩
 ·refine mint_caps hc h fun w x hx h=>?_
  subst hx;refine ⟨?_,trivial⟩;refine h.al fun w' h=>⟨?_,trivial⟩
  generalize w.heap.size=s at h⊢;refine h.stLc rfl rfl fun w h=>?_
  (try dsimp only[putAt,List.set_cons_zero,List.set_cons_succ] at h)
  exact fin s w h
 ·refine h.al fun w' h=>⟨?_,trivial⟩
  generalize w.heap.size=s at h⊢;refine mint_caps hc h fun w x hx h=>?_
  subst hx;refine ⟨?_,trivial⟩;refine h.stLc rfl rfl fun w h=>?_
  (try dsimp only[putAt,List.set_cons_zero,List.set_cons_succ] at h)
  exact fin s w h
theorem move_spec {K:Int->Pw} (hk:KOk N k) (hw0: -9223372036854775808≤d.call.with_) (hw1:d.call.with_<9223372036854775808) (h:Vc.Own B w0 w (BlkA bd (dcells bk d ec wv wk fs)::KerA bk k::R))
  (hK:∀w',Vc.Own B w0 w' (BlkA bd (dcells bk d ec wv wk fs)::KerA bk (k.move d).2::R)->K (k.move d).1 w'):C.qbl (some ⟨bd,0,none⟩) K w:=by
 apply S.qbl0;unfold Ker.move at hK;refine free_spec (n:=1) hk hw0 hw1 (by omega) h (fun hf s w h=>?_) (fun hf so w h=>?_)
 ·rw[if_pos hf] at hK
  exact cneT hf (hK w h)
 rw[if_neg (by omega)] at hK;rw[toSlots1] at h;refine cneF rfl ?_;obtain ⟨x,h⟩:=(h.pick (A:=KerA bk k)).ker;refine h.dr fun w h=>?_
 refine ⟨_,rfl,_,h.ldc rfl,_,rfl,_,h.ldc rfl,_,rfl,?_⟩;refine LdL_add (h.lc_2 rfl ?_);refine h.ixc (s:=so) (i:=0) (j:=0) (x:=(0,d.call.with_)) rfl rfl fun a ha _ hc1=>ldSlot hc1 ⟨?_,trivial⟩
 refine Sl.slots_Nodes_Move_spec (f:=d.s) (t:=(0,d.call.with_)) (h.pick (A:=Sl.NodesA x.n k.bits k.H)) fun w h=>?_
 refine h.dr fun w h=>?_
 refine ⟨_,rfl,_,h.ldc rfl,_,rfl,_,h.ldd rfl,_,rfl,?_⟩;refine LdL_add (h.lc_2 rfl ?_);refine h.ixc (s:=so) (i:=0) (j:=0) (x:=(0,d.call.with_)) rfl rfl fun a ha _ hc1=>ldSlot hc1 ⟨?_,trivial⟩
 refine Tr.tree_Move_spec (f:=d.s) (t:=(0,d.call.with_)) (h.pick (A:=Tr.TreeA x.tr k.T)) fun w h=>?_
 exact hK w ((show Vc.Own B w0 w (KerA bk { k with H:=(Sl.moveN k.bits k.H d.s (0,d.call.with_)).2,T:=(Tr.moveN k.T d.s (0,d.call.with_)).2}::BlkA bd (dcells bk d ec wv wk fs)::R) from Vc.Own.mk_ker x h.sub).sub)
def mapTo {α:Type} (f:α->α) (j:Nat) (l:List α):List α:=(l.take j).map f++l.drop j
theorem mapTo_zero {α:Type} (f:α->α) (l:List α):mapTo f 0 l=l:=by simp[mapTo]
theorem mapTo_all {α:Type} (f:α->α) {j:Nat} {l:List α} (h:l.length≤j):mapTo f j l=l.map f:=by unfold mapTo;rw[List.take_of_length_le h,List.drop_of_length_le h,List.append_nil]
theorem mapTo_get {α:Type} {f:α->α} {j:Nat} {l:List α} {x:α} (h:l[j]?=some x):(mapTo f j l)[j]?=some x/\(mapTo f j l).set j (f x)=mapTo f (j+1) l:=by
 have hj:=(List.getElem?_eq_some_iff.1 h).1;have hl:((l.take j).map f).length=j:=by simp;omega
 have hd:l.drop j=x::l.drop (j+1):=by
  rw[List.drop_eq_getElem_cons hj];congr 1;exact (List.getElem?_eq_some_iff.1 h).2
 unfold mapTo;refine ⟨?_,?_⟩
 ·rw[List.getElem?_append_right (by omega),hl,Nat.sub_self,hd];rfl
 ·rw[List.set_append_right _ _ (by omega),hl,Nat.sub_self,hd,List.take_add_one,h,List.map_append]
  simp
theorem mapTo_len {α:Type} (f:α->α) (j:Nat) (l:List α):(mapTo f j l).length=l.length:=by unfold mapTo;simp;omega
theorem freed_spec {id:Int} {K:Pw} (h:Vc.Own B w0 w (KerA bk k::R)) (hN:k.ends.length≤200000/\k.notes.length≤200000) (hK:∀w',Vc.Own B w0 w' (KerA bk (k.freed id)::R)->K w'):C.qZ (some ⟨bk,0,none⟩) id K w:=by
 apply S.qZ0;obtain ⟨x,h⟩:=h.ker;have hle:=h.lenc x.se;have hln:=h.lenc x.sn;have hpe:=(h.pick (A:=PtsA EndA x.pe k.ends)).pts_len;have hpn:=(h.pick (A:=PtsA NoteA x.pn k.notes)).pts_len;refine ⟨_,rfl,x.se,h.ldd rfl,?_⟩;intro l5 hl5;have loop:∀(m j:Nat) (w:World),j+m=k.ends.length->Vc.Own B w0 w (KerA bk { k with ends:=mapTo (·.cancel id) j k.ends}::R)->l5 (j:Int) w->True:=fun _ _ _ _ _ _=>trivial
 clear loop
 have loop:∀(m j:Nat) (w:World),j+m=k.ends.length->Vc.Own B w0 w (BlkA bk (kcells x k.frames k.tabs k.bits.length k.t.ths.length)::Sl.NodesA x.n k.bits k.H::Tr.TreeA x.tr k.T::Th.ThrA x.t k.t::LinesA x.ln k.ln::SlT untE x.su k.u::SlT ptE x.se x.pe::PtsA EndA x.pe (mapTo (·.cancel id) j k.ends)::SlT ptE x.sn x.pn::PtsA NoteA x.pn k.notes::SlT ptE x.ss x.ps::PtsA Tb.SpcA x.ps k.spaces::R)->l5 (j:Int) w:=by
  intro m
  induction m with
  |zero=>
   intro j w hj h;apply hl5;refine cdecF (by omega) ?_;rw[mapTo_all _ (by omega)] at h;refine ⟨_,rfl,x.sn,h.ldd rfl,?_⟩;intro l14 hl14
   have loop2:∀(m j:Nat) (w:World),j+m=k.notes.length->Vc.Own B w0 w (BlkA bk (kcells x k.frames k.tabs k.bits.length k.t.ths.length)::Sl.NodesA x.n k.bits k.H::Tr.TreeA x.tr k.T::Th.ThrA x.t k.t::LinesA x.ln k.ln::SlT untE x.su k.u::SlT ptE x.se x.pe::PtsA EndA x.pe (k.ends.map (·.cancel id))::SlT ptE x.sn x.pn::PtsA NoteA x.pn (mapTo (·.cancel id) j k.notes)::SlT ptE x.ss x.ps::PtsA Tb.SpcA x.ps k.spaces::R)->l14 (j:Int) w:=by
    intro m
    induction m with
    |zero=>
     intro j w hj h;apply hl14;refine cdecF (by omega) ?_;rw[mapTo_all _ (by omega)] at h;exact hK w (show Vc.Own B w0 w (KerA bk (k.freed id)::R) from Vc.Own.mk_ker x h)
    |succ m ih=>
     intro j w hj h;have hx:k.notes[j]?=some k.notes[j]:=gE (by omega);have hp:x.pn[j]?=some x.pn[j]:=gE (by omega);obtain ⟨g1,g2⟩:=mapTo_get (f:=(·.cancel id)) hx;apply hl14;refine cdecT (by omega) ?_;refine ptE_ix (s:=x.sn) h rfl hp fun a ha hc=>⟨_,hc,?_⟩
     have h:=(h.pick (A:=PtsA NoteA x.pn (mapTo (·.cancel id) j k.notes))).pt hp g1;refine notify_Cancel_spec h fun r w h=>?_
     have h:=h.pt_back (by rw[mapTo_len];omega) hp;rw[g2] at h;rw[show IntKind.i64.wrap ((j:Int)+1)=((j+1:Nat):Int) from by rw[wr (by omega) (by omega)];omega];exact ih (j+1) w (by omega) h.sub
   refine loop2 k.notes.length 0 w (by omega) ?_;rw[mapTo_zero];exact h
  |succ m ih=>
   intro j w hj h;have hx:k.ends[j]?=some k.ends[j]:=gE (by omega);have hp:x.pe[j]?=some x.pe[j]:=gE (by omega);obtain ⟨g1,g2⟩:=mapTo_get (f:=(·.cancel id)) hx;apply hl5;refine cdecT (by omega) ?_;refine ptE_ix (s:=x.se) h rfl hp fun a ha hc=>⟨_,hc,?_⟩
   have h:=(h.pick (A:=PtsA EndA x.pe (mapTo (·.cancel id) j k.ends))).pt hp g1;refine endpoint_Cancel_spec h fun r w h=>?_
   have h:=h.pt_back (by rw[mapTo_len];omega) hp;rw[g2] at h;rw[show IntKind.i64.wrap ((j:Int)+1)=((j+1:Nat):Int) from by rw[wr (by omega) (by omega)];omega];exact ih (j+1) w (by omega) h.sub
 refine loop k.ends.length 0 w (by omega) ?_;rw[mapTo_zero];exact h
theorem forgets_spec {sp:Int} {l:Int × Tb.Pg} {F:List Lne} {K:Pw} (hF:F.length≤1000000000) (h:Vc.Own B w0 w (BlkA bd (dcells bk d ec wv wk fs)::SlT lneE fs F::R))
  (hK:∀fs' w',Vc.Own B w0 w' (BlkA bd (dcells bk d ec wv wk fs')::SlT lneE fs' (F++ [⟨sp,l.1,l.2.1,l.2.2⟩])::R)->K w'):C.qS (some ⟨bd,0,none⟩) sp l.1 l.2.1 l.2.2 K w:=by
 apply S.qS0;refine h.al fun w1 h=>?_
 generalize w.heap.size=c at h⊢;refine h.dr fun w h=>?_
 refine ⟨_,rfl,fs,ld_add (h.ldd rfl),_,h.ldc rfl,?_⟩;refine LdL_add (h.lc_2 rfl ⟨?_,trivial⟩);refine h.al fun w2 h=>⟨?_,trivial⟩
 generalize w.heap.size=g at h⊢;refine app1_lne (s:=fs) (y:=⟨sp,l.1,l.2.1,l.2.2⟩) h (by omega) fun fs' w hs' h=>⟨_,rfl,?_,trivial⟩
 refine St_add ?_;refine h.std rfl rfl fun w h=>?_
 (dsimp only[kcells,dcells,putAt,List.set_cons_zero,List.set_cons_succ,Nat.zero_add] at h)
 exact hK fs' w h.sub
end
section
variable {B:Nat} {w0 w:World} {R L:List Asn} {b:Nat} {k:Ker}
theorem _root_.Go.Vc.Own.kspaces (h:Vc.Own B w0 w (KerA b k::R)):∃(ss:Sl) (ps:List Nat) (Y:Asn),Vc.Own B w0 w (SlT ptE ss ps::PtsA Tb.SpcA ps k.spaces::Y::R)/\w.cell? ((Addr.mk b 0 none).add 7)=some (.slice ss.a ss.len ss.cap)/\ps.length=k.spaces.length/\
  ∀R' w' sp,Vc.Own B w0 w' (SlT ptE ss ps::PtsA Tb.SpcA ps sp::Y::R')->Vc.Own B w0 w' (KerA b { k with spaces:=sp}::R'):=by
 obtain ⟨x,h⟩:=h.ker;refine ⟨x.ss,x.ps,StarA [BlkA b (kcells x k.frames k.tabs k.bits.length k.t.ths.length),Sl.NodesA x.n k.bits k.H,Tr.TreeA x.tr k.T,Th.ThrA x.t k.t,LinesA x.ln k.ln,SlT untE x.su k.u,SlT ptE x.se x.pe,PtsA EndA x.pe k.ends,SlT ptE x.sn x.pn,PtsA NoteA x.pn k.notes],?_,h.ldd rfl,(h.pick (A:=PtsA Tb.SpcA x.ps k.spaces)).pts_len,fun R' w' sp h=>?_⟩
 ·exact Vc.Own.up1 (Vc.Own.up2 (Vc.Own.up1 (Vc.Own.mk_star (show Vc.Own B w0 w (BlkA b (kcells x k.frames k.tabs k.bits.length k.t.ths.length)::Sl.NodesA x.n k.bits k.H::Tr.TreeA x.tr k.T::Th.ThrA x.t k.t::LinesA x.ln k.ln::SlT untE x.su k.u::SlT ptE x.se x.pe::PtsA EndA x.pe k.ends::SlT ptE x.sn x.pn::PtsA NoteA x.pn k.notes::SlT ptE x.ss x.ps::PtsA Tb.SpcA x.ps k.spaces::R) from h.sub))))
 ·have h:Vc.Own B w0 w' (BlkA b (kcells x k.frames k.tabs k.bits.length k.t.ths.length)::Sl.NodesA x.n k.bits k.H::Tr.TreeA x.tr k.T::Th.ThrA x.t k.t::LinesA x.ln k.ln::SlT untE x.su k.u::SlT ptE x.se x.pe::PtsA EndA x.pe k.ends::SlT ptE x.sn x.pn::PtsA NoteA x.pn k.notes::SlT ptE x.ss x.ps::PtsA Tb.SpcA x.ps sp::R'):=(h.up2).star
  exact Vc.Own.mk_ker x h.sub
theorem _root_.Go.Vc.Own.kends (h:Vc.Own B w0 w (KerA b k::R)):∃(ss:Sl) (ps:List Nat) (Y:Asn),Vc.Own B w0 w (SlT ptE ss ps::PtsA EndA ps k.ends::Y::R)/\w.cell? ((Addr.mk b 0 none).add 5)=some (.slice ss.a ss.len ss.cap)/\ps.length=k.ends.length/\
  ∀R' w' sp,Vc.Own B w0 w' (SlT ptE ss ps::PtsA EndA ps sp::Y::R')->Vc.Own B w0 w' (KerA b { k with ends:=sp}::R'):=by
 obtain ⟨x,h⟩:=h.ker;refine ⟨x.se,x.pe,StarA [BlkA b (kcells x k.frames k.tabs k.bits.length k.t.ths.length),Sl.NodesA x.n k.bits k.H,Tr.TreeA x.tr k.T,Th.ThrA x.t k.t,LinesA x.ln k.ln,SlT untE x.su k.u,SlT ptE x.sn x.pn,PtsA NoteA x.pn k.notes,SlT ptE x.ss x.ps,PtsA Tb.SpcA x.ps k.spaces],?_,h.ldd rfl,(h.pick (A:=PtsA EndA x.pe k.ends)).pts_len,fun R' w' sp h=>?_⟩
 ·exact Vc.Own.up1 (Vc.Own.up2 (Vc.Own.up1 (Vc.Own.mk_star (show Vc.Own B w0 w (BlkA b (kcells x k.frames k.tabs k.bits.length k.t.ths.length)::Sl.NodesA x.n k.bits k.H::Tr.TreeA x.tr k.T::Th.ThrA x.t k.t::LinesA x.ln k.ln::SlT untE x.su k.u::SlT ptE x.sn x.pn::PtsA NoteA x.pn k.notes::SlT ptE x.ss x.ps::PtsA Tb.SpcA x.ps k.spaces::SlT ptE x.se x.pe::PtsA EndA x.pe k.ends::R) from h.sub))))
 ·have h:Vc.Own B w0 w' (BlkA b (kcells x k.frames k.tabs k.bits.length k.t.ths.length)::Sl.NodesA x.n k.bits k.H::Tr.TreeA x.tr k.T::Th.ThrA x.t k.t::LinesA x.ln k.ln::SlT untE x.su k.u::SlT ptE x.sn x.pn::PtsA NoteA x.pn k.notes::SlT ptE x.ss x.ps::PtsA Tb.SpcA x.ps k.spaces::SlT ptE x.se x.pe::PtsA EndA x.pe sp::R'):=(h.up2).star
  exact Vc.Own.mk_ker x h.sub
theorem _root_.Go.Vc.Own.knotes (h:Vc.Own B w0 w (KerA b k::R)):∃(ss:Sl) (ps:List Nat) (Y:Asn),Vc.Own B w0 w (SlT ptE ss ps::PtsA NoteA ps k.notes::Y::R)/\w.cell? ((Addr.mk b 0 none).add 6)=some (.slice ss.a ss.len ss.cap)/\ps.length=k.notes.length/\
  ∀R' w' sp,Vc.Own B w0 w' (SlT ptE ss ps::PtsA NoteA ps sp::Y::R')->Vc.Own B w0 w' (KerA b { k with notes:=sp}::R'):=by
 obtain ⟨x,h⟩:=h.ker;refine ⟨x.sn,x.pn,StarA [BlkA b (kcells x k.frames k.tabs k.bits.length k.t.ths.length),Sl.NodesA x.n k.bits k.H,Tr.TreeA x.tr k.T,Th.ThrA x.t k.t,LinesA x.ln k.ln,SlT untE x.su k.u,SlT ptE x.se x.pe,PtsA EndA x.pe k.ends,SlT ptE x.ss x.ps,PtsA Tb.SpcA x.ps k.spaces],?_,h.ldd rfl,(h.pick (A:=PtsA NoteA x.pn k.notes)).pts_len,fun R' w' sp h=>?_⟩
 ·exact Vc.Own.up1 (Vc.Own.up2 (Vc.Own.up1 (Vc.Own.mk_star (show Vc.Own B w0 w (BlkA b (kcells x k.frames k.tabs k.bits.length k.t.ths.length)::Sl.NodesA x.n k.bits k.H::Tr.TreeA x.tr k.T::Th.ThrA x.t k.t::LinesA x.ln k.ln::SlT untE x.su k.u::SlT ptE x.se x.pe::PtsA EndA x.pe k.ends::SlT ptE x.ss x.ps::PtsA Tb.SpcA x.ps k.spaces::SlT ptE x.sn x.pn::PtsA NoteA x.pn k.notes::R) from h.sub))))
 ·have h:Vc.Own B w0 w' (BlkA b (kcells x k.frames k.tabs k.bits.length k.t.ths.length)::Sl.NodesA x.n k.bits k.H::Tr.TreeA x.tr k.T::Th.ThrA x.t k.t::LinesA x.ln k.ln::SlT untE x.su k.u::SlT ptE x.se x.pe::PtsA EndA x.pe k.ends::SlT ptE x.ss x.ps::PtsA Tb.SpcA x.ps k.spaces::SlT ptE x.sn x.pn::PtsA NoteA x.pn sp::R'):=(h.up2).star
  exact Vc.Own.mk_ker x h.sub
theorem _root_.Go.Vc.Own.kthr (h:Vc.Own B w0 w (KerA b k::R)):∃(bt:Nat) (Y:Asn),Vc.Own B w0 w (Th.ThrA bt k.t::Y::R)/\w.cell? ((Addr.mk b 0 none).add 2)=some (.pointer (some ⟨bt,0,none⟩))/\
  ∀R' w' t,t.ths.length=k.t.ths.length->Vc.Own B w0 w' (Th.ThrA bt t::Y::R')->Vc.Own B w0 w' (KerA b (k.setT t)::R'):=by
 obtain ⟨x,h⟩:=h.ker;refine ⟨x.t,StarA [BlkA b (kcells x k.frames k.tabs k.bits.length k.t.ths.length),Sl.NodesA x.n k.bits k.H,Tr.TreeA x.tr k.T,LinesA x.ln k.ln,SlT untE x.su k.u,SlT ptE x.se x.pe,PtsA EndA x.pe k.ends,SlT ptE x.sn x.pn,PtsA NoteA x.pn k.notes,SlT ptE x.ss x.ps,PtsA Tb.SpcA x.ps k.spaces],?_,h.ldd rfl,fun R' w' t ht h=>?_⟩
 ·exact Vc.Own.up1 (Vc.Own.mk_star (show Vc.Own B w0 w (BlkA b (kcells x k.frames k.tabs k.bits.length k.t.ths.length)::Sl.NodesA x.n k.bits k.H::Tr.TreeA x.tr k.T::LinesA x.ln k.ln::SlT untE x.su k.u::SlT ptE x.se x.pe::PtsA EndA x.pe k.ends::SlT ptE x.sn x.pn::PtsA NoteA x.pn k.notes::SlT ptE x.ss x.ps::PtsA Tb.SpcA x.ps k.spaces::Th.ThrA x.t k.t::R) from h.sub))
 ·have h:Vc.Own B w0 w' (BlkA b (kcells x k.frames k.tabs k.bits.length k.t.ths.length)::Sl.NodesA x.n k.bits k.H::Tr.TreeA x.tr k.T::LinesA x.ln k.ln::SlT untE x.su k.u::SlT ptE x.se x.pe::PtsA EndA x.pe k.ends::SlT ptE x.sn x.pn::PtsA NoteA x.pn k.notes::SlT ptE x.ss x.ps::PtsA Tb.SpcA x.ps k.spaces::Th.ThrA x.t t::R'):=(h.up1).star
  rw[←ht] at h;exact (show Vc.Own B w0 w' (KerA b (k.setT t)::R') from Vc.Own.mk_ker x h.sub)
theorem _root_.Go.Vc.Own.klines (h:Vc.Own B w0 w (KerA b k::R)):∃(bt:Nat) (Y:Asn),Vc.Own B w0 w (LinesA bt k.ln::Y::R)/\w.cell? ((Addr.mk b 0 none).add 3)=some (.pointer (some ⟨bt,0,none⟩))/\
  ∀R' w' t,Vc.Own B w0 w' (LinesA bt t::Y::R')->Vc.Own B w0 w' (KerA b { k with ln:=t}::R'):=by
 obtain ⟨x,h⟩:=h.ker;refine ⟨x.ln,StarA [BlkA b (kcells x k.frames k.tabs k.bits.length k.t.ths.length),Sl.NodesA x.n k.bits k.H,Tr.TreeA x.tr k.T,Th.ThrA x.t k.t,SlT untE x.su k.u,SlT ptE x.se x.pe,PtsA EndA x.pe k.ends,SlT ptE x.sn x.pn,PtsA NoteA x.pn k.notes,SlT ptE x.ss x.ps,PtsA Tb.SpcA x.ps k.spaces],?_,h.ldd rfl,fun R' w' t h=>?_⟩
 ·exact Vc.Own.up1 (Vc.Own.mk_star (show Vc.Own B w0 w (BlkA b (kcells x k.frames k.tabs k.bits.length k.t.ths.length)::Sl.NodesA x.n k.bits k.H::Tr.TreeA x.tr k.T::Th.ThrA x.t k.t::SlT untE x.su k.u::SlT ptE x.se x.pe::PtsA EndA x.pe k.ends::SlT ptE x.sn x.pn::PtsA NoteA x.pn k.notes::SlT ptE x.ss x.ps::PtsA Tb.SpcA x.ps k.spaces::LinesA x.ln k.ln::R) from h.sub))
 ·have h:Vc.Own B w0 w' (BlkA b (kcells x k.frames k.tabs k.bits.length k.t.ths.length)::Sl.NodesA x.n k.bits k.H::Tr.TreeA x.tr k.T::Th.ThrA x.t k.t::SlT untE x.su k.u::SlT ptE x.se x.pe::PtsA EndA x.pe k.ends::SlT ptE x.sn x.pn::PtsA NoteA x.pn k.notes::SlT ptE x.ss x.ps::PtsA Tb.SpcA x.ps k.spaces::LinesA x.ln t::R'):=(h.up1).star
  exact (show Vc.Own B w0 w' (KerA b { k with ln:=t}::R') from Vc.Own.mk_ker x h.sub)
end
def delL (P:Tb.Pgs) (l:Tb.Pgs):Tb.Pgs:=P.filter fun y=>l.all fun x=>x.1 !=y.1
theorem delL_nil (P:Tb.Pgs):delL P []=P:=by unfold delL;simp
theorem delL_snoc (P l:Tb.Pgs) (x:Int × Tb.Pg):delL P (l++ [x])=Tb.delS (delL P l) x.1:=by
 unfold delL Tb.delS;rw[List.filter_filter];congr 1;funext y;rw[List.all_append];simp only[List.all_cons,List.all_nil,Bool.and_true];rw[Bool.and_comm];congr 1;rw[Bool.eq_iff_iff];simp only[bne_iff_ne,ne_eq];exact ⟨fun h e=>h e.symm,fun h e=>h e.symm⟩
theorem delL_all {P:Tb.Pgs} (hP:Tb.Srt P) (f:Int × Tb.Pg->Bool):delL P (P.filter f)=P.filter fun x=> !f x:=by
 unfold delL;apply List.filter_congr;intro y hy;rw[Bool.eq_iff_iff];simp only[List.all_eq_true,List.mem_filter,bne_iff_ne,ne_eq,Bool.not_eq_true',and_imp];constructor
 ·intro h
  cases e:f y with
  |false=>rfl
  |true=>exact absurd rfl (h y hy e)
 ·intro h x hx hfx e
  have:=hP.inj hx hy e;rw[this,h] at hfx;cases hfx
theorem delL_look {P:Tb.Pgs} (hP:Tb.Srt P) (f:Int × Tb.Pg->Bool) {q:Nat} {x:Int × Tb.Pg} (hx:(P.filter f)[q]?=some x):Tb.look (delL P ((P.filter f).take q)) x.1=some x.2:=by
 have hS:Tb.Srt (delL P ((P.filter f).take q)):=hP.filter _;refine hS.look ?_;unfold delL;rw[List.mem_filter];have hm:x∈P.filter f:=List.mem_of_getElem? hx;refine ⟨(List.mem_filter.1 hm).1,?_⟩;rw[List.all_eq_true];intro y hy;obtain ⟨i,hi⟩:=List.mem_iff_getElem?.1 hy;rw[List.getElem?_take] at hi;split at hi
 ·rename_i hlt
  have hF:Tb.Srt (P.filter f):=hP.filter f;have h1:=(List.getElem?_eq_some_iff.1 hx)
  have h2:=(List.getElem?_eq_some_iff.1 hi)
  have:=(List.pairwise_iff_getElem.1 hF) i q h2.1 h1.1 hlt;rw[h1.2,h2.2] at this;simp only[bne_iff_ne,ne_eq];omega
 ·cases hi
theorem unframe_snoc (f:Int) (m:Tb.Spc):∀(l:List Tb.Spc) (i:Nat),Ker.unframe f i (l++ [m])=((Ker.unframe f i l).1++Ker.linesOf (i+l.length) (m.pg.filter fun x=>x.2.1==f),(Ker.unframe f i l).2++ [{ m with pg:=m.pg.filter fun x=> !(x.2.1==f)}])
 | [],i=>by simp[Ker.unframe]
 |a::l,i=>by
  simp only[List.cons_append,Ker.unframe,List.length_cons];rw[unframe_snoc f m l (i+1)];simp only[List.append_assoc,List.cons_append];rw[show i+1+l.length=i+(l.length+1) from by omega]
theorem unframe_len (f:Int):∀(l:List Tb.Spc) (i:Nat),(Ker.unframe f i l).2.length=l.length
 | [],i=>rfl
 |a::l,i=>by simp[Ker.unframe,unframe_len f l (i+1)]
theorem untab_snoc (n:Int) (m:Tb.Spc):∀(l:List Tb.Spc) (i:Nat),Ker.untab n i (l++ [m])=((Ker.untab n i l).1++(Ker.untab1 n (i+l.length) 64 0 m).1,(Ker.untab n i l).2++ [(Ker.untab1 n (i+l.length) 64 0 m).2])
 | [],i=>by simp[Ker.untab]
 |a::l,i=>by
  simp only[List.cons_append,Ker.untab,List.length_cons];rw[untab_snoc n m l (i+1)];simp only[List.append_assoc,List.cons_append];rw[show i+1+l.length=i+(l.length+1) from by omega]
theorem untab_len (n:Int):∀(l:List Tb.Spc) (i:Nat),(Ker.untab n i l).2.length=l.length
 | [],i=>rfl
 |a::l,i=>by simp[Ker.untab,untab_len n l (i+1)]
def pgN (l:List Tb.Spc):Nat:=(l.map fun m=>m.pg.length).sum
theorem pgN_app (a b:List Tb.Spc):pgN (a++b)=pgN a+pgN b:=by unfold pgN;simp
theorem filter_two {α:Type} (f:α->Bool):∀l:List α,(l.filter f).length+(l.filter fun x=> !f x).length=l.length
 | []=>rfl
 |a::l=>by
  have:=filter_two f l;cases h:f a<;>simp[h]<;>omega
theorem unframe_pg (f:Int):∀(l:List Tb.Spc) (i:Nat),(Ker.unframe f i l).1.length+pgN (Ker.unframe f i l).2=pgN l
 | [],i=>rfl
 |a::l,i=>by
  have h1:=unframe_pg f l (i+1);have h2:=filter_two (fun x:Int × Tb.Pg=>x.2.1==f) a.pg;unfold pgN at*
  simp only[Ker.unframe,Ker.linesOf,List.length_append,List.length_map,List.map_cons,List.sum_cons];omega
theorem drop_pg (m:Tb.Spc) (j:Int):(m.dropR j).1.length+(m.dropR j).2.2.pg.length=m.pg.length:=by
 unfold Tb.Spc.dropR;split
 ·simp
 split
 ·simp
 ·have:=filter_two (fun x:Int × Tb.Pg=>x.1.toNat / 64==j.toNat) m.pg
  exact this
theorem untab1_pg (n:Int) (i:Nat):∀(q j:Nat) (m:Tb.Spc),(Ker.untab1 n i q j m).1.length+(Ker.untab1 n i q j m).2.pg.length=m.pg.length
 |0,j,m=>by simp[Ker.untab1]
 |q+1,j,m=>by
  unfold Ker.untab1;split
  ·have h1:=untab1_pg n i q (j+1) (m.dropR (j:Int)).2.2
   have h2:=drop_pg m (j:Int);simp only[Ker.linesOf,List.length_append,List.length_map];omega
  ·exact untab1_pg n i q (j+1) m
theorem untab_pg (n:Int):∀(l:List Tb.Spc) (i:Nat),(Ker.untab n i l).1.length+pgN (Ker.untab n i l).2=pgN l
 | [],i=>rfl
 |a::l,i=>by
  have h1:=untab_pg n l (i+1);have h2:=untab1_pg n i 64 0 a;unfold pgN at*
  simp only[Ker.untab,List.length_append,List.map_cons,List.sum_cons];omega
theorem last_pg (k:Ker) (c:Cap):(k.last c).1.length+pgN (k.last c).2.spaces=pgN k.spaces:=by
 unfold Ker.last;split
 ·simp[Ker.freed]
 split
 ·exact unframe_pg _ _ _
 split
 ·exact untab_pg _ _ _
 ·simp
theorem gone_pg (k:Ker) (s:Slot):(k.gone s).1.length+pgN (k.gone s).2.spaces=pgN k.spaces:=by
 unfold Ker.gone;split
 ·simp[Ker.taken]
 ·exact last_pg _ _
theorem SOk.pg_le {m:Tb.Spc} (h:Tb.SOk m):m.pg.length≤4096:=by
 have:=Tb.srt_len m.pg 0 4096 h.srt (fun x hx=>⟨(h.bnd x hx).1,(h.bnd x hx).2.1⟩);omega
theorem pgN_le:∀(l:List Tb.Spc),(∀m∈l,Tb.SOk m)->pgN l≤4096*l.length
 | [],_=>Nat.le_refl _
 |a::l,h=>by
  have h1:=pgN_le l fun m hm=>h m (List.mem_cons_of_mem _ hm)
  have h2:=SOk.pg_le (h a List.mem_cons_self);unfold pgN at*
  simp only[List.map_cons,List.sum_cons,List.length_cons];omega
section
variable {B:Nat} {w0 w:World} {R:List Asn} {α:Type} {A:Nat->α->Asn} {ps:List Nat} {xs:List α}
theorem _root_.Go.Vc.Own.ptS (h:Vc.Own B w0 w (PtsA A ps xs::R)) {j:Nat} {p:Nat} {x:α} (hp:ps[j]?=some p) (hx:xs[j]?=some x):Vc.Own B w0 w (A p x::StarA ((List.zipWith A ps xs).eraseIdx j)::R):=
 Vc.Own.up1 (Vc.Own.mk_star ((h.pt hp hx).perm List.perm_middle.symm))
theorem _root_.Go.Vc.Own.ptS_back {j:Nat} {p:Nat} {x':α} (hl:ps.length=xs.length) (hp:ps[j]?=some p) (h:Vc.Own B w0 w (A p x'::StarA ((List.zipWith A ps xs).eraseIdx j)::R)):Vc.Own B w0 w (PtsA A ps (xs.set j x')::R):=
 Vc.Own.pt_back hl hp ((h.up1).star.perm List.perm_middle)
end
section
variable {B:Nat} {w0 w:World} {R L:List Asn} {bd bk:Nat} {k:Ker} {d:Dng} {ec wv wk:Int} {fs:Sl} {N:Nat}
theorem part_get {f:Nat->List Tb.Spc->List Lne × List Tb.Spc} (hlen:∀l i,(f i l).2.length=l.length) {l:List Tb.Spc} {i:Nat} {m:Tb.Spc} (hm:l[i]?=some m):
  ((f 0 (l.take i)).2++l.drop i)[i]?=some m/\∀m',((f 0 (l.take i)).2++l.drop i).set i m'=(f 0 (l.take i)).2++ [m']++l.drop (i+1):=by
 have hi:=(List.getElem?_eq_some_iff.1 hm).1;have h1:((f 0 (l.take i)).2).length=i:=by rw[hlen,List.length_take];omega
 have hd:l.drop i=m::l.drop (i+1):=by
  rw[List.drop_eq_getElem_cons hi];congr 1;exact (List.getElem?_eq_some_iff.1 hm).2
 refine ⟨?_,fun m'=>?_⟩
 ·rw[List.getElem?_append_right (by omega),h1,Nat.sub_self,hd];rfl
 ·rw[List.set_append_right _ _ (by omega),h1,Nat.sub_self,hd];simp
theorem untab1_succ (n:Int) (i q j:Nat) (m:Tb.Spc):Ker.untab1 n i (q+1) j m=if m.at (j:Int)=some n then (Ker.linesOf i (m.dropR (j:Int)).1++(Ker.untab1 n i q (j+1) (m.dropR (j:Int)).2.2).1,(Ker.untab1 n i q (j+1) (m.dropR (j:Int)).2.2).2) else Ker.untab1 n i q (j+1) m:=rfl
set_option maxHeartbeats 1000000 in
theorem last_spec {c:Cap} {F:List Lne} {K:Pw} (hN:k.ends.length≤200000/\k.notes.length≤200000/\k.spaces.length≤200000) (ht:Th.MOk k.t) (hs:∀m∈k.spaces,Tb.SOk m) (hF:F.length+pgN k.spaces≤1000000000)
  (h:Vc.Own B w0 w (BlkA bd (dcells bk d ec wv wk fs)::SlT lneE fs F::KerA bk k::R))
  (hK:∀fs' w',Vc.Own B w0 w' (BlkA bd (dcells bk d ec wv wk fs')::SlT lneE fs' (F++(k.last c).1)::KerA bk (k.last c).2::R)->K w'):C.qbs (some ⟨bd,0,none⟩) c.kind c.obj c.rights c.badge c.guard c.bits K w:=by
 apply S.qbs0;unfold Ker.last at hK;refine h.al fun w1 h=>?_
 generalize w.heap.size=cc at h⊢;refine ⟨_,h.ldc rfl,?_⟩;refine ceq (fun e=>?_) (fun e=>?_)
 ·rw[if_pos e] at hK
  refine h.dr fun w h=>?_
  refine ⟨_,rfl,_,h.ldc rfl,_,h.ldd rfl,?_,trivial⟩;refine freed_spec (id:=c.obj) (h.pick (A:=KerA bk k)) ⟨hN.1,hN.2.1⟩ fun w h=>?_
  refine h.dr fun w h=>?_
  obtain ⟨bt,Y,h2,hc2,hback⟩:=h.kthr;refine ⟨_,rfl,_,h.ldc rfl,_,rfl,_,hc2,_,h.ldd rfl,?_,trivial⟩;refine Th.suspend_g ht h2 fun w h=>?_
  have hl:(k.t.suspendR c.obj).2.ths.length=k.t.ths.length:=by
   unfold Th.Mt.suspendR;split
   ·rfl
   split
   ·rfl
   ·unfold Th.Mt.leave Th.Mt.setTh;simp[Th.leave0_len.1]
  have h:=hback _ w _ hl h;dsimp only at hK;rw[List.append_nil] at hK;have hK3:∀fs' w',Vc.Own B w0 w' (BlkA bd (dcells bk d ec wv wk fs')::SlT lneE fs' F::KerA bk ((k.freed c.obj).setT (k.t.suspendR c.obj).2)::R)->K w':=hK;exact hK3 fs w h.sub
 rw[if_neg e] at hK;refine ceq (fun e6=>?_) (fun e6=>?_)
 ·rw[if_pos e6] at hK
  obtain ⟨ss,ps,Y,h2,hc2,hpl,hback⟩:=(h.pick (A:=KerA bk k)).kspaces;refine ⟨_,rfl,_,h.ldc rfl,_,rfl,ss,hc2,?_⟩;have h:=h2;clear h2 hc2;intro l27 hl27
  have loop:∀(r i:Nat) (fs:Sl) (w:World),i+r=k.spaces.length->Vc.Own B w0 w (SlT ptE ss ps::PtsA Tb.SpcA ps ((Ker.unframe c.obj 0 (k.spaces.take i)).2++k.spaces.drop i)::Y::BlkA cc c.cells::BlkA bd (dcells bk d ec wv wk fs)::SlT lneE fs (F++(Ker.unframe c.obj 0 (k.spaces.take i)).1)::R)->l27 (i:Int) w:=by
   intro r
   induction r with
   |zero=>
    intro i fs w hi h;have hlen:=h.lenc ss;apply hl27;refine cdecF (by omega) ?_;rw[List.take_of_length_le (by omega),List.drop_of_length_le (by omega),List.append_nil] at h;exact hK fs w (Vc.Own.sub (L:=KerA bk { k with spaces:=(Ker.unframe c.obj 0 k.spaces).2}::BlkA cc c.cells::BlkA bd (dcells bk d ec wv wk fs)::SlT lneE fs (F++(Ker.unframe c.obj 0 k.spaces).1)::R) (hback _ w _ h))
   |succ r ih=>
    intro i fs w hi h;have hlen:=h.lenc ss;have hm:k.spaces[i]?=some k.spaces[i]:=gE (by omega);have hmm:k.spaces[i]∈k.spaces:=List.getElem_mem _;have hp:ps[i]?=some ps[i]:=gE (by omega);generalize k.spaces[i]=m at hm hmm;generalize ps[i]=p at hp;have hsm:=hs m hmm;obtain ⟨g1,g2⟩:=part_get (f:=Ker.unframe c.obj) (unframe_len c.obj) hm;have htk:k.spaces.take (i+1)=k.spaces.take i++ [m]:=by rw[List.take_add_one,hm];rfl
    have hul:((Ker.unframe c.obj 0 (k.spaces.take i)).2++k.spaces.drop i).length=ps.length:=by simp[unframe_len];omega
    have hpg1:=unframe_pg c.obj (k.spaces.take (i+1)) 0
    have hpg2:pgN (k.spaces.take (i+1))≤pgN k.spaces:=by
     have:=pgN_app (k.spaces.take (i+1)) (k.spaces.drop (i+1));rw[List.take_append_drop] at this;omega
    have hsn:=unframe_snoc c.obj m (k.spaces.take i) 0;rw[htk] at hpg1 hpg2;rw[hsn] at hpg1;rw[Nat.zero_add,List.length_take,Nat.min_eq_left (by omega)] at hsn hpg1;simp only[List.length_append] at hpg1;apply hl27;refine cdecT (by omega) ?_;refine ptE_ix (s:=ss) h rfl hp fun a ha hc=>⟨_,hc,_,h.ldd rfl,?_⟩
    have h:=(h.pick (A:=PtsA Tb.SpcA ps ((Ker.unframe c.obj 0 (k.spaces.take i)).2++k.spaces.drop i))).ptS hp g1;refine Tb.Frames_spec h fun s w h=>?_
    intro l35 hl35;have hfl:∀q:Nat,(Tb.framesP m.pg c.obj)[q]?=((m.pg.filter fun x=>x.2.1==c.obj)[q]?).map (·.1):=fun q=>by unfold Tb.framesP;rw[List.getElem?_map]
    have hfn:(Tb.framesP m.pg c.obj).length=(m.pg.filter fun x=>x.2.1==c.obj).length:=by unfold Tb.framesP;rw[List.length_map]
    have hll:(Ker.linesOf i (m.pg.filter fun x=>x.2.1==c.obj)).length=(m.pg.filter fun x=>x.2.1==c.obj).length:=by unfold Ker.linesOf;rw[List.length_map]
    have inner:∀(r q:Nat) (fs:Sl) (w:World),q+r=(m.pg.filter fun x=>x.2.1==c.obj).length->Vc.Own B w0 w (SlT intE s (Tb.framesP m.pg c.obj)::Tb.SpcA p { m with pg:=delL m.pg ((m.pg.filter fun x=>x.2.1==c.obj).take q)}::StarA ((List.zipWith Tb.SpcA ps ((Ker.unframe c.obj 0 (k.spaces.take i)).2++k.spaces.drop i)).eraseIdx i)::
      SlT ptE ss ps::Y::BlkA cc c.cells::BlkA bd (dcells bk d ec wv wk fs)::SlT lneE fs (F++(Ker.unframe c.obj 0 (k.spaces.take i)).1++Ker.linesOf i ((m.pg.filter fun x=>x.2.1==c.obj).take q))::R)->l35 (q:Int) w:=by
     intro r
     induction r with
     |zero=>
      intro q fs w hq h;have hsl:=h.lenc s;apply hl35;refine cdecF (by omega) ?_;rw[List.take_of_length_le (by omega),delL_all hsm.srt] at h;have h:=(h.drop).ptS_back (by omega) hp;rw[g2] at h;rw[show IntKind.i64.wrap ((i:Int)+1)=((i+1:Nat):Int) from by rw[wr (by omega) (by omega)];omega];refine ih (i+1) fs w (by omega) ?_;rw[htk,hsn,←List.append_assoc];exact h.sub
     |succ r ih2=>
      intro q fs w hq h;have hsl:=h.lenc s;have hx:(m.pg.filter fun x=>x.2.1==c.obj)[q]?=some (m.pg.filter fun x=>x.2.1==c.obj)[q]:=gE (by omega);have hlk:=delL_look hsm.srt (fun x=>x.2.1==c.obj) hx;have htq:(m.pg.filter fun x=>x.2.1==c.obj).take (q+1)=(m.pg.filter fun x=>x.2.1==c.obj).take q++ [(m.pg.filter fun x=>x.2.1==c.obj)[q]]:=by rw[List.take_add_one,hx];rfl
      have hmem:(m.pg.filter fun x=>x.2.1==c.obj)[q]∈m.pg:=(List.mem_filter.1 (List.getElem_mem _)).1;have hfx:=hfl q;rw[hx] at hfx;generalize (m.pg.filter fun x=>x.2.1==c.obj)[q]=y at hx hlk htq hmem hfx;have hbnd:=hsm.bnd y hmem
      have hun:({ m with pg:=delL m.pg ((m.pg.filter fun x=>x.2.1==c.obj).take q)}:Tb.Spc).unmapR y.1=(y.2,0,{ m with pg:=delL m.pg ((m.pg.filter fun x=>x.2.1==c.obj).take (q+1))}):=by
       unfold Tb.Spc.unmapR;rw[if_neg (by omega),hlk,htq,delL_snoc]
      have hqlen:(F++(Ker.unframe c.obj 0 (k.spaces.take i)).1++Ker.linesOf i ((m.pg.filter fun x=>x.2.1==c.obj).take q)).length≤1000000000:=by
       unfold Ker.linesOf at hpg1⊢;simp only[List.length_append,List.length_map,List.length_take] at hpg1⊢;omega
      apply hl35;refine cdecT (by omega) ?_;refine h.ixc (s:=s) rfl hfx fun a ha h0 _=>⟨_,h0 _ rfl,?_⟩
      refine Tb.Unmap_spec (h.pick (A:=Tb.SpcA p { m with pg:=delL m.pg ((m.pg.filter fun x=>x.2.1==c.obj).take q)})) fun w h=>?_
      rw[hun] at h⊢;refine h.al fun w2 h=>?_
      generalize w.heap.size=g at h⊢;refine h.stLc rfl rfl fun w h=>?_
      (try dsimp only[putAt,List.set_cons_zero,List.set_cons_succ] at h)
      refine h.lc_2 rfl ?_;refine forgets_spec (sp:=(i:Int)) (l:=(y.1,y.2)) hqlen ((h.pick (A:=SlT lneE fs (F++(Ker.unframe c.obj 0 (k.spaces.take i)).1++Ker.linesOf i ((m.pg.filter fun x=>x.2.1==c.obj).take q)))).pick (A:=BlkA bd (dcells bk d ec wv wk fs))) fun fs' w h=>?_
      rw[show IntKind.i64.wrap ((q:Int)+1)=((q+1:Nat):Int) from by
       have:=SOk.pg_le hsm;have:=List.length_filter_le (fun x:Int × Tb.Pg=>x.2.1==c.obj) m.pg;rw[wr (by omega) (by omega)];omega]
      refine ih2 (q+1) fs' w (by omega) ?_
      have e9:F++(Ker.unframe c.obj 0 (k.spaces.take i)).1++Ker.linesOf i ((m.pg.filter fun x=>x.2.1==c.obj).take (q+1))=F++(Ker.unframe c.obj 0 (k.spaces.take i)).1++Ker.linesOf i ((m.pg.filter fun x=>x.2.1==c.obj).take q)++ [⟨(i:Int),y.1,y.2.1,y.2.2⟩]:=by
       rw[htq];unfold Ker.linesOf;rw[List.map_append];simp only[List.append_assoc];rfl
      rw[e9];exact h.sub
    refine inner _ 0 fs w (Nat.zero_add _) ?_;have e1:delL m.pg ((m.pg.filter fun x=>x.2.1==c.obj).take 0)=m.pg:=by rw[List.take_zero,delL_nil]
    have e2:Ker.linesOf i ((m.pg.filter fun x=>x.2.1==c.obj).take 0)= []:=rfl;rw[e1,e2,List.append_nil];exact h.sub
  refine loop k.spaces.length 0 fs w1 (Nat.zero_add _) ?_;rw[List.take_zero,List.drop_zero];show Vc.Own B w0 w1 (SlT ptE ss ps::PtsA Tb.SpcA ps ([]++k.spaces)::Y::BlkA cc c.cells::BlkA bd (dcells bk d ec wv wk fs)::SlT lneE fs (F++ [])::R);rw[List.nil_append,List.append_nil];exact h.sub
 rw[if_neg e6] at hK;refine ceq (fun e7=>?_) (fun e7=>?_)
 ·rw[if_pos e7] at hK
  obtain ⟨ss,ps,Y,h2,hc2,hpl,hback⟩:=(h.pick (A:=KerA bk k)).kspaces;refine ⟨_,rfl,_,h.ldc rfl,_,rfl,ss,hc2,?_⟩;have h:=h2;clear h2 hc2;intro l53 hl53
  have loop:∀(r i:Nat) (fs:Sl) (w:World),i+r=k.spaces.length->Vc.Own B w0 w (SlT ptE ss ps::PtsA Tb.SpcA ps ((Ker.untab c.obj 0 (k.spaces.take i)).2++k.spaces.drop i)::Y::BlkA cc c.cells::BlkA bd (dcells bk d ec wv wk fs)::SlT lneE fs (F++(Ker.untab c.obj 0 (k.spaces.take i)).1)::R)->l53 (i:Int) w:=by
   intro r
   induction r with
   |zero=>
    intro i fs w hi h;have hlen:=h.lenc ss;apply hl53;refine cdecF (by omega) ?_;rw[List.take_of_length_le (by omega),List.drop_of_length_le (by omega),List.append_nil] at h;exact hK fs w (Vc.Own.sub (L:=KerA bk { k with spaces:=(Ker.untab c.obj 0 k.spaces).2}::BlkA cc c.cells::BlkA bd (dcells bk d ec wv wk fs)::SlT lneE fs (F++(Ker.untab c.obj 0 k.spaces).1)::R) (hback _ w _ h))
   |succ r ih=>
    intro i fs w hi h;have hlen:=h.lenc ss;have hm:k.spaces[i]?=some k.spaces[i]:=gE (by omega);have hp:ps[i]?=some ps[i]:=gE (by omega);generalize k.spaces[i]=m at hm;generalize ps[i]=p at hp;obtain ⟨g1,g2⟩:=part_get (f:=Ker.untab c.obj) (untab_len c.obj) hm;have htk:k.spaces.take (i+1)=k.spaces.take i++ [m]:=by rw[List.take_add_one,hm];rfl
    have hul:((Ker.untab c.obj 0 (k.spaces.take i)).2++k.spaces.drop i).length=ps.length:=by simp[untab_len];omega
    have hpg1:=untab_pg c.obj (k.spaces.take (i+1)) 0
    have hpg2:pgN (k.spaces.take (i+1))≤pgN k.spaces:=by
     have:=pgN_app (k.spaces.take (i+1)) (k.spaces.drop (i+1));rw[List.take_append_drop] at this;omega
    have hsn:=untab_snoc c.obj m (k.spaces.take i) 0;rw[htk] at hpg1 hpg2;rw[hsn] at hpg1;rw[Nat.zero_add,List.length_take,Nat.min_eq_left (by omega)] at hsn hpg1;simp only[List.length_append] at hpg1;apply hl53;refine cdecT (by omega) ?_;refine ptE_ix (s:=ss) h rfl hp fun a ha hc=>⟨_,hc,?_⟩
    have h:=(h.pick (A:=PtsA Tb.SpcA ps ((Ker.untab c.obj 0 (k.spaces.take i)).2++k.spaces.drop i))).ptS hp g1;intro l58 hl58
    have places:∀(r j:Nat) (mj:Tb.Spc) (G:List Lne) (fs:Sl) (w:World),j+r=64->(G++(Ker.untab1 c.obj i r j mj).1=(Ker.untab1 c.obj i 64 0 m).1)->((Ker.untab1 c.obj i r j mj).2=(Ker.untab1 c.obj i 64 0 m).2)->
      Vc.Own B w0 w (Tb.SpcA p mj::StarA ((List.zipWith Tb.SpcA ps ((Ker.untab c.obj 0 (k.spaces.take i)).2++k.spaces.drop i)).eraseIdx i)::
      SlT ptE ss ps::Y::BlkA cc c.cells::BlkA bd (dcells bk d ec wv wk fs)::SlT lneE fs (F++(Ker.untab c.obj 0 (k.spaces.take i)).1++G)::R)->l58 (j:Int) w:=by
     intro r
     induction r with
     |zero=>
      intro j mj G fs w hj hG hM h;apply hl58;refine cdecF (by omega) ?_;have hM:mj=_:=hM;have hG:G++ []=_:=hG;rw[List.append_nil] at hG;rw[hM,hG] at h;have h:=h.ptS_back (by omega) hp;rw[g2] at h;rw[show IntKind.i64.wrap ((i:Int)+1)=((i+1:Nat):Int) from by rw[wr (by omega) (by omega)];omega];refine ih (i+1) fs w (by omega) ?_;rw[htk,hsn,←List.append_assoc];exact h.sub
     |succ r ih2=>
      intro j mj G fs w hj hG hM h;apply hl58;refine cdecT (by omega) ?_;refine Tb.Has_spec h ?_;intro k64 hk64;rw[untab1_succ] at hG hM;rw[show IntKind.i64.wrap ((j:Int)+1)=((j+1:Nat):Int) from by rw[wr (by omega) (by omega)];omega] at hk64
      have no:mj.at (j:Int)≠some c.obj->k64 false w:=fun hn=>by
       rw[if_neg hn] at hG hM;apply hk64;refine cbF rfl ?_;exact ih2 (j+1) mj G fs w (by omega) hG hM h
      have yes:mj.at (j:Int)=some c.obj->k64 true w:=fun hy=>by
       rw[if_pos hy] at hG hM;apply hk64;refine cbT rfl ?_;refine Tb.Drop_spec h fun s w h=>?_
       intro l70 hl70;have hGl:=congrArg List.length hG;simp only[List.length_append] at hGl;have hlines:(Ker.linesOf i (mj.dropR (j:Int)).1).length=(mj.dropR (j:Int)).1.length:=by unfold Ker.linesOf;rw[List.length_map]
       have inner:∀(r q:Nat) (fs:Sl) (w:World),q+r=(mj.dropR (j:Int)).1.length->Vc.Own B w0 w (SlT Tb.laidE s (mj.dropR (j:Int)).1::Tb.SpcA p (mj.dropR (j:Int)).2.2::StarA ((List.zipWith Tb.SpcA ps ((Ker.untab c.obj 0 (k.spaces.take i)).2++k.spaces.drop i)).eraseIdx i)::
         SlT ptE ss ps::Y::BlkA cc c.cells::BlkA bd (dcells bk d ec wv wk fs)::SlT lneE fs (F++(Ker.untab c.obj 0 (k.spaces.take i)).1++(G++Ker.linesOf i ((mj.dropR (j:Int)).1.take q)))::R)->l70 (q:Int) w:=by
        intro r
        induction r with
        |zero=>
         intro q fs w hq h;have hsl:=h.lenc s;apply hl70;refine cdecF (by omega) ?_;rw[List.take_of_length_le (l:=(mj.dropR (j:Int)).1) (by omega)] at h;exact ih2 (j+1) _ (G++Ker.linesOf i (mj.dropR (j:Int)).1) fs w (by omega) (by rw[List.append_assoc];exact hG) hM h.drop
        |succ r ih3=>
         intro q fs w hq h;have hsl:=h.lenc s;have hx:(mj.dropR (j:Int)).1[q]?=some (mj.dropR (j:Int)).1[q]:=gE (by omega);have htq:(mj.dropR (j:Int)).1.take (q+1)=(mj.dropR (j:Int)).1.take q++ [(mj.dropR (j:Int)).1[q]]:=by rw[List.take_add_one,hx];rfl
         generalize (mj.dropR (j:Int)).1[q]=y at hx htq
         have hqlen:(F++(Ker.untab c.obj 0 (k.spaces.take i)).1++(G++Ker.linesOf i ((mj.dropR (j:Int)).1.take q))).length≤1000000000:=by
          have e8:(Ker.linesOf i ((mj.dropR (j:Int)).1.take q)).length≤(mj.dropR (j:Int)).1.length:=by
           unfold Ker.linesOf;rw[List.length_map,List.length_take];omega
          simp only[List.length_append];omega
         apply hl70;refine cdecT (by omega) ?_;refine h.ixc (s:=s) rfl hx fun a ha _ hc1=>Tb.ldLaid hc1 ?_
         refine h.al fun w2 h=>?_
         generalize w.heap.size=g at h⊢;refine h.stLc rfl rfl fun w h=>?_
         (try dsimp only[putAt,List.set_cons_zero,List.set_cons_succ] at h)
         refine h.lc_3 rfl ?_;refine forgets_spec (sp:=(i:Int)) (l:=y) hqlen ((h.pick (A:=SlT lneE fs (F++(Ker.untab c.obj 0 (k.spaces.take i)).1++(G++Ker.linesOf i ((mj.dropR (j:Int)).1.take q))))).pick (A:=BlkA bd (dcells bk d ec wv wk fs))) fun fs' w h=>?_
         rw[show IntKind.i64.wrap ((q:Int)+1)=((q+1:Nat):Int) from by rw[wr (by omega) (by omega)];omega];refine ih3 (q+1) fs' w (by omega) ?_
         have e9:F++(Ker.untab c.obj 0 (k.spaces.take i)).1++(G++Ker.linesOf i ((mj.dropR (j:Int)).1.take (q+1)))=F++(Ker.untab c.obj 0 (k.spaces.take i)).1++(G++Ker.linesOf i ((mj.dropR (j:Int)).1.take q))++ [⟨(i:Int),y.1,y.2.1,y.2.2⟩]:=by
          rw[htq];unfold Ker.linesOf;rw[List.map_append];simp only[List.append_assoc];rfl
         rw[e9];exact h.sub
       refine inner _ 0 fs w (Nat.zero_add _) ?_;rw[List.take_zero];show Vc.Own B w0 w (SlT Tb.laidE s (mj.dropR (j:Int)).1::Tb.SpcA p (mj.dropR (j:Int)).2.2::StarA _::SlT ptE ss ps::Y::BlkA cc c.cells::BlkA bd (dcells bk d ec wv wk fs)::SlT lneE fs (F++(Ker.untab c.obj 0 (k.spaces.take i)).1++(G++ []))::R);rw[List.append_nil];exact h
      cases hat:mj.at (j:Int) with
      |none=>exact cbF rfl (no (by rw[hat];simp))
      |some n=>
       refine cbT rfl ⟨_,h.ldd rfl,?_⟩;show k64 (n==c.obj) w;by_cases en:n=c.obj
       ·rw[show (n==c.obj)=true from by simpa using en];exact yes (by rw[hat,en])
       ·rw[show (n==c.obj)=false from by simpa using en];exact no (by rw[hat];simpa using en)
    refine places 64 0 m [] fs w (Nat.zero_add _) (List.nil_append _) rfl ?_;rw[List.append_nil];exact h.sub
  refine loop k.spaces.length 0 fs w1 (Nat.zero_add _) ?_;rw[List.take_zero,List.drop_zero];show Vc.Own B w0 w1 (SlT ptE ss ps::PtsA Tb.SpcA ps ([]++k.spaces)::Y::BlkA cc c.cells::BlkA bd (dcells bk d ec wv wk fs)::SlT lneE fs (F++ [])::R);rw[List.nil_append,List.append_nil];exact h.sub
 ·rw[if_neg e7,List.append_nil] at hK
  exact hK fs w1 h.drop
end
def heldL (H:Sl.Hs):List (Slot × Cap):=(List.range 64).filterMap fun i:Nat=>(H (0,(i:Int))).map fun c=>(((0,(i:Int)):Slot),c)
theorem heldL_ok {H:Sl.Hs} (h:∀s c,H s=some c->s.1=0/\0≤s.2/\s.2<64):Sl.IsHeld H (heldL H):=by
 unfold heldL;refine ⟨?_,fun s c=>?_⟩
 ·rw[List.pairwise_filterMap]
  refine List.Pairwise.imp ?_ (List.pairwise_lt_range (n:=64));intro a b hab x hx y hy;rw[Option.map_eq_some_iff] at hx hy;obtain ⟨_,_,rfl⟩:=hx;obtain ⟨_,_,rfl⟩:=hy;unfold Sl.ltS;dsimp only;exact decide_eq_true (.inr ⟨rfl,by omega⟩)
 ·rw[List.mem_filterMap]
  constructor
  ·rintro ⟨i,_,hi⟩
   rw[Option.map_eq_some_iff] at hi;obtain ⟨c',hc,e⟩:=hi;cases e;exact hc
  ·intro hc
   obtain ⟨h1,h2,h3⟩:=h s c hc;refine ⟨s.2.toNat,List.mem_range.2 (by omega),?_⟩;have e:((0:Int),((s.2.toNat:Nat):Int))=s:=Prod.ext h1.symm (by dsimp only;omega);rw[e,hc];rfl
theorem heldL_len (H:Sl.Hs):(heldL H).length≤64:=by
 unfold heldL;exact Nat.le_trans (List.length_filterMap_le _ _) (by simp)
theorem heldL_any (H:Sl.Hs) (c:Cap):(heldL H).any (fun y=>Ker.sameC y.2 c)=(List.range 64).any fun i=>match H (0,(i:Int)) with|some x=>Ker.sameC x c|none=>false:=by
 unfold heldL;rw[List.any_filterMap];congr 1;funext i;cases H (0,(i:Int))<;>rfl
theorem lift_fst (l:Tr.Tr):(Tr.lift1 l).map (·.1)=l.map (·.1):=by unfold Tr.lift1;rw[List.map_map];rfl
theorem take_fst {T:Tr.Tr} {i:Nat} (hi:i<T.length):(T.take i++(Tr.lift1 ((T.drop (i+1)).take (Tr.endN T i-(i+1)))++T.drop (Tr.endN T i))).map (·.1)=(T.map (·.1)).eraseIdx i:=by
 obtain ⟨e1,e2⟩:=Tr.end_le T hi;have hd:T.drop (Tr.endN T i)=(T.drop (i+1)).drop (Tr.endN T i-(i+1)):=by rw[List.drop_drop];congr 1;omega
 rw[hd,List.map_append,List.map_append,lift_fst,←List.map_append,List.take_append_drop,←List.map_append,List.eraseIdx_eq_take_drop_succ];simp[List.map_take,List.map_drop]
section
variable {N:Nat} {k:Ker}
theorem KOk.taken (h:KOk N k) {s:Slot} (hs:(k.H s).isSome=true):KOk N (k.taken s):=by
 obtain ⟨i,hi⟩:=place_yes ((h.mem s).2 hs);obtain ⟨x,hx,hxs⟩:=Tr.place_some hi;have hlt:=(List.getElem?_eq_some_iff.1 hx).1;have hT:(k.taken s).T=k.T.take i++(Tr.lift1 ((k.T.drop (i+1)).take (Tr.endN k.T i-(i+1)))++k.T.drop (Tr.endN k.T i)):=by unfold Ker.taken Tr.takeN;rw[hi]
 refine { h with
  nok:=h.nok.del s
  held:=fun t c hc=>?_
  tok:=by rw[hT];exact h.tok.take hi
  mem:=fun t=>?_}
 ·have hc:Sl.updH k.H s none t=some c:=hc
  unfold Sl.updH at hc;split at hc
  ·cases hc
  ·exact h.held t c hc
 ·rw[hT,take_fst hlt]
  have hgi:(k.T.map (·.1))[i]?=some s:=by rw[List.getElem?_map,hx];exact congrArg some hxs
  rw[Sl.mem_erase' h.tok.nd hgi,h.mem];show _↔(Sl.updH k.H s none t).isSome=true;unfold Sl.updH;by_cases e:t=s
  ·simp[e]
  ·rw[if_neg e];simp[e]
theorem KOk.freed (h:KOk N k) (id:Int):KOk N (k.freed id):=by
 have hG:Gr k (k.freed id):=⟨Nat.le_refl _,Nat.le_refl _,Nat.le_refl _,by simp[Ker.freed],by simp[Ker.freed],Nat.le_refl _,Nat.le_refl _,Nat.le_refl _⟩
 refine h.same (k':=k.freed id) rfl rfl rfl hG h.inv h.ln (fun x hx hx2=>?_) h.u h.sok h.nu (by simpa [Ker.freed] using h.ne) (by simpa [Ker.freed] using h.nn) h.ns h.nf h.nt (fun p hp=>?_) (fun p hp=>?_)
 ·have:=h.lnb x hx hx2
  simpa [Ker.freed] using this
 ·obtain ⟨q,hq,rfl⟩:=List.mem_map.1 hp
  exact Nat.le_trans (List.length_filter_le _ _) (h.el q hq)
 ·obtain ⟨q,hq,rfl⟩:=List.mem_map.1 hp
  exact Nat.le_trans (List.length_filter_le _ _) (h.nl q hq)
theorem KOk.spaces (h:KOk N k) {l:List Tb.Spc} (hl:l.length=k.spaces.length) (hs:∀m∈l,Tb.SOk m):KOk N { k with spaces:=l}:=
 h.same (k':={ k with spaces:=l}) rfl rfl rfl ⟨Nat.le_refl _,Nat.le_refl _,Nat.le_refl _,Nat.le_refl _,Nat.le_refl _,Nat.le_refl _,Nat.le_refl _,by dsimp only;omega⟩ h.inv h.ln h.lnb h.u hs h.nu h.ne h.nn (by have:=h.ns;dsimp only;omega) h.nf h.nt h.el h.nl
theorem SOk.filt {m:Tb.Spc} (h:Tb.SOk m) (f:Int × Tb.Pg->Bool):Tb.SOk { m with pg:=m.pg.filter f}:=
 ⟨h.srt.filter f,fun x hx=>h.bnd x (List.mem_filter.1 hx).1,h.few⟩
theorem unframe_ok (f:Int):∀(l:List Tb.Spc) (i:Nat),(∀m∈l,Tb.SOk m)->∀m∈(Ker.unframe f i l).2,Tb.SOk m
 | [],i,_,m,hm=>by simp[Ker.unframe] at hm
 |a::l,i,h,m,hm=>by
  simp only[Ker.unframe,List.mem_cons] at hm;rcases hm with rfl|hm
  ·exact SOk.filt (h a List.mem_cons_self) _
  ·exact unframe_ok f l (i+1) (fun m hm=>h m (List.mem_cons_of_mem _ hm)) m hm
theorem untab1_ok (n:Int) (i:Nat):∀(q j:Nat) (m:Tb.Spc),Tb.SOk m->Tb.SOk (Ker.untab1 n i q j m).2
 |0,j,m,h=>h
 |q+1,j,m,h=>by
  rw[untab1_succ];split
  ·exact untab1_ok n i q (j+1) _ (h.drop _)
  ·exact untab1_ok n i q (j+1) m h
theorem untab_ok (n:Int):∀(l:List Tb.Spc) (i:Nat),(∀m∈l,Tb.SOk m)->∀m∈(Ker.untab n i l).2,Tb.SOk m
 | [],i,_,m,hm=>by simp[Ker.untab] at hm
 |a::l,i,h,m,hm=>by
  simp only[Ker.untab,List.mem_cons] at hm;rcases hm with rfl|hm
  ·exact untab1_ok n i 64 0 a (h a List.mem_cons_self)
  ·exact untab_ok n l (i+1) (fun m hm=>h m (List.mem_cons_of_mem _ hm)) m hm
theorem suspend_len (t:Th.Mt) (id:Int):(t.suspendR id).2.ths.length=t.ths.length:=by
 unfold Th.Mt.suspendR;split
 ·rfl
 split
 ·rfl
 ·unfold Th.Mt.leave Th.Mt.setTh;simp[Th.leave0_len.1]
theorem KOk.last (h:KOk N k) (c:Cap):KOk N (k.last c).2/\(k.last c).2.H=k.H/\(k.last c).2.T=k.T/\(k.last c).2.bits=k.bits:=by
 unfold Ker.last;split
 ·exact ⟨(h.freed c.obj).setT (h.inv.suspend c.obj) (by rw[suspend_len];exact Nat.le_refl _),rfl,rfl,rfl⟩
 split
 ·exact ⟨h.spaces (unframe_len _ _ _) (unframe_ok _ _ _ h.sok),rfl,rfl,rfl⟩
 split
 ·exact ⟨h.spaces (untab_len _ _ _) (untab_ok _ _ _ h.sok),rfl,rfl,rfl⟩
 ·exact ⟨h,rfl,rfl,rfl⟩
theorem KOk.gone (h:KOk N k) {s:Slot} (hs:(k.H s).isSome=true):KOk N (k.gone s).2/\(k.gone s).2.H=Sl.updH k.H s none/\(k.gone s).2.T=(Tr.takeN k.T s).2:=by
 have ht:=h.taken hs;unfold Ker.gone;split
 ·exact ⟨ht,rfl,rfl⟩
 ·obtain ⟨h1,h2,h3,_⟩:=ht.last ((k.H s).getD Sl.zeroCap)
  exact ⟨h1,h2,h3⟩
end
theorem gones_ok {N:Nat}:∀(l:List Slot) (k:Ker),KOk N k->l.Nodup->(∀s∈l,(k.H s).isSome=true)->KOk N (Ker.gones l k).2/\(∀s,(Ker.gones l k).2.H s=if s∈l then none else k.H s)
 | [],k,h,_,_=>⟨h,fun s=>by simp[Ker.gones]⟩
 |a::l,k,h,hn,hs=>by
  obtain ⟨h1,h2,h3⟩:=h.gone (hs a List.mem_cons_self);rw[List.nodup_cons] at hn
  have hl:∀s∈l,((k.gone a).2.H s).isSome=true:=fun s hm=>by
   rw[h2];unfold Sl.updH;rw[if_neg (fun e:s=a=>hn.1 (e▸hm))];exact hs s (List.mem_cons_of_mem _ hm)
  obtain ⟨g1,g2⟩:=gones_ok l _ h1 hn.2 hl;refine ⟨g1,fun s=>?_⟩;show (Ker.gones l (k.gone a).2).2.H s=_;rw[g2,h2];unfold Sl.updH;by_cases e:s∈l
  ·rw[if_pos e,if_pos (List.mem_cons_of_mem _ e)]
  ·rw[if_neg e]
   by_cases e2:s=a
   ·rw[if_pos e2,if_pos (by rw[e2];exact List.mem_cons_self)]
   ·rw[if_neg e2,if_neg (by simp[e,e2])]
theorem gones_pg:∀(l:List Slot) (k:Ker),(Ker.gones l k).1.length+pgN (Ker.gones l k).2.spaces=pgN k.spaces
 | [],k=>by simp[Ker.gones]
 |a::l,k=>by
  have h1:=gone_pg k a;have h2:=gones_pg l (k.gone a).2;simp only[Ker.gones,List.length_append];omega
section
variable {B:Nat} {w0 w:World} {R L:List Asn} {bd bk:Nat} {k:Ker} {d:Dng} {ec wv wk:Int} {fs:Sl} {N:Nat}
theorem gone1_spec {y:Slot × Cap} {c:Cap} {sb:Nat} {K:Bool->Pw} (h:Vc.Own B w0 w L) (i:Nat) (hi:L[i]?=some (BlkA sb c.cells))
  (hK:∀w',Vc.Own B w0 w' L->K (Ker.sameC y.2 c) w'):C.qaI y.1.1 y.1.2 y.2.kind y.2.obj y.2.rights y.2.badge y.2.guard y.2.bits ⟨sb,0,none⟩ K w:=by
 apply S.qaI0;refine h.al fun w1 h=>?_
 generalize w.heap.size=c0 at h⊢;refine LdL_add (h.lc_6 rfl ?_);refine h.ld_6 (i+1) (by simpa using hi) rfl ?_;exact same_spec h fun w h=>hK w h.drop
theorem gone_spec {s:Slot} {F:List Lne} {K:Pw} (hk:KOk N k) (hN:N≤200000) (hs:(k.H s).isSome=true) (hF:F.length+pgN k.spaces≤1000000000)
  (h:Vc.Own B w0 w (BlkA bd (dcells bk d ec wv wk fs)::SlT lneE fs F::KerA bk k::R))
  (hK:∀fs' w',Vc.Own B w0 w' (BlkA bd (dcells bk d ec wv wk fs')::SlT lneE fs' (F++(k.gone s).1)::KerA bk (k.gone s).2::R)->K w'):C.qan (some ⟨bd,0,none⟩) s.1 s.2 K w:=by
 apply S.qan0;have hkt:=hk.taken hs;obtain ⟨c,hc⟩:=Option.isSome_iff_exists.1 hs;unfold Ker.gone at hK;rw[hc] at hK;have hth:Sl.thereB k.bits s=true:=there0 hk.b0 (hk.held s c hc).1;refine h.al fun w1 h=>?_
 generalize w.heap.size=c0 at h⊢;obtain ⟨x,h⟩:=(h.pick (A:=KerA bk k)).ker;refine h.dr fun w h=>?_
 refine ⟨_,rfl,_,h.ldc rfl,_,rfl,_,h.ldd rfl,?_⟩;refine h.lc_2 rfl ⟨?_,trivial⟩;refine Tr.tree_Take_spec (s:=s) (h.pick (A:=Tr.TreeA x.tr k.T)) fun w h=>?_
 intro k14 hk14
 have fin:∀(sb:Nat) (w:World),Vc.Own B w0 w (BlkA sb c.cells::BlkA bd (dcells bk d ec wv wk fs)::SlT lneE fs F::KerA bk (k.taken s)::R)->k14 ⟨sb,0,none⟩ w:=fun sb w h=>by
  apply hk14;have hF2:F.length+pgN (k.taken s).spaces≤1000000000:=hF;generalize k.taken s=kt at hkt hK hF2 h⊢;obtain ⟨x,h⟩:=(h.pick (A:=KerA bk kt)).ker;refine ⟨_,rfl,_,h.ldc rfl,_,rfl,_,h.ldc rfl,?_⟩;refine Sl.slots_Nodes_Held_spec (h.pick (A:=Sl.NodesA x.n kt.bits kt.H)) fun s2 hs2 w hih h=>?_
  have e2:hs2=heldL kt.H:=hih.uniq (heldL_ok fun t c hc=>(hkt.held t c hc).1);subst e2;have h:Vc.Own B w0 w (KerA bk kt::SlT Sl.heldE s2 (heldL kt.H)::BlkA sb c.cells::BlkA bd (dcells bk d ec wv wk fs)::SlT lneE fs F::R):=Vc.Own.mk_ker x h.sub;refine ContainsFunc_held (s:=s2) (p:=fun y=>Ker.sameC y.2 c) h (Nat.le_trans (heldL_len _) (by decide)) (fun y w Q h hQ=>?_) fun w h=>?_
  ·refine callV_mk ?_
   show C.qaI y.1.1 y.1.2 y.2.kind y.2.obj y.2.rights y.2.badge y.2.guard y.2.bits ⟨sb,0,none⟩ Q w;exact gone1_spec (c:=c) h 2 rfl hQ
  ·have e3:((heldL kt.H).any fun y=>Ker.sameC y.2 c)=kt.more c:=heldL_any _ _
   rw[e3];cases hm:kt.more c with
   |true=>
    refine cbF rfl ?_;rw[Option.getD_some,if_pos hm] at hK;refine hK fs w ?_;show Vc.Own B w0 w (BlkA bd (dcells bk d ec wv wk fs)::SlT lneE fs (F++ [])::KerA bk kt::R);rw[List.append_nil];exact h.sub
   |false=>
    refine cbT rfl ?_;rw[Option.getD_some,if_neg (by rw[hm];decide)] at hK;refine h.lc_6 rfl ?_;refine last_spec (c:=c) (F:=F) ⟨Nat.le_trans hkt.ne hN,Nat.le_trans hkt.nn hN,Nat.le_trans hkt.ns hN⟩ hkt.inv.ok hkt.sok hF2 (show Vc.Own B w0 w (BlkA bd (dcells bk d ec wv wk fs)::SlT lneE fs F::KerA bk kt::R) from h.sub) fun fs' w h=>?_
    exact hK fs' w h
 refine h.dr fun w h=>?_
 refine ⟨_,rfl,_,h.ldc rfl,_,rfl,_,h.ldc rfl,?_⟩;refine h.lc_2 rfl ⟨?_,?_,trivial⟩
 ·refine Sl.slots_Nodes_Take_spec (s:=s) (h.pick (A:=Sl.NodesA x.n k.bits k.H)) (fun e=>by rw[hth] at e;cases e) (fun _ e=>by rw[hc] at e;cases e) fun _ c2 hc2 w h=>?_
  rw[hc] at hc2;cases hc2;refine ⟨?_,trivial⟩;refine h.al fun w' h=>⟨?_,trivial⟩
  generalize w.heap.size=sb at h⊢;refine h.stLc rfl rfl fun w h=>?_
  (try dsimp only[putAt,List.set_cons_zero,List.set_cons_succ] at h)
  exact fin sb w ((show Vc.Own B w0 w (KerA bk (k.taken s)::BlkA sb c.cells::BlkA bd (dcells bk d ec wv wk fs)::SlT lneE fs F::R) from Vc.Own.mk_ker x h.sub).sub)
 ·refine h.al fun w' h=>⟨?_,trivial⟩
  generalize w.heap.size=sb at h⊢;refine Sl.slots_Nodes_Take_spec (s:=s) (h.pick (A:=Sl.NodesA x.n k.bits k.H)) (fun e=>by rw[hth] at e;cases e) (fun _ e=>by rw[hc] at e;cases e) fun _ c2 hc2 w h=>?_
  rw[hc] at hc2;cases hc2;refine ⟨?_,trivial⟩;refine h.stLc rfl rfl fun w h=>?_
  (try dsimp only[putAt,List.set_cons_zero,List.set_cons_succ] at h)
  exact fin sb w ((show Vc.Own B w0 w (KerA bk (k.taken s)::BlkA sb c.cells::BlkA bd (dcells bk d ec wv wk fs)::SlT lneE fs F::R) from Vc.Own.mk_ker x h.sub).sub)
theorem delete_spec {K:Int->Pw} (hk:KOk N k) (hN:N≤200000) (hs:(k.H d.s).isSome=true)
  (h:Vc.Own B w0 w (BlkA bd (dcells bk d ec wv wk fs)::SlT lneE fs []::KerA bk k::R))
  (h1:d.call.at_=0->∀w',Vc.Own B w0 w' (BlkA bd (dcells bk d ec wv wk fs)::SlT lneE fs []::KerA bk k::R)->K 181 w')
  (h2:d.call.at_≠0->∀fs' w',Vc.Own B w0 w' (BlkA bd (dcells bk d ec wv wk fs')::SlT lneE fs' (k.gone d.s).1::KerA bk (k.gone d.s).2::R)->K 0 w'):C.qaE (some ⟨bd,0,none⟩) K w:=by
 apply S.qaE0;have hp:=pgN_le k.spaces hk.sok;have hn:=hk.ns;refine ⟨_,rfl,_,ld_add (h.ldd rfl),?_⟩;refine ceq (fun e=>h1 e w h) (fun e=>?_);refine ⟨_,rfl,?_⟩;refine LdL_add (h.lc_2 rfl ?_);refine gone_spec hk hN hs (by simp only[List.length_nil];omega) h fun fs' w h=>?_
 exact h2 e fs' w h
end
section
variable {m:Th.Mt}
theorem setTh_len {n:Int} {t:Th.Thd}:(m.setTh n t).ths.length=m.ths.length:=by unfold Th.Mt.setTh;simp
theorem lineUp_len {n:Int}:(m.lineUp n).ths.length=m.ths.length:=by unfold Th.Mt.lineUp Th.Mt.setQ;exact setTh_len
theorem leave_len {n s:Int}:(m.leave n s).ths.length=m.ths.length:=by unfold Th.Mt.leave;rw[setTh_len,Th.leave0_len.1]
theorem setR_len {n v:Int}:(m.setR n v).ths.length=m.ths.length:=rfl
theorem pickC_len {c:Int}:(m.pickC c).ths.length=m.ths.length:=by
 unfold Th.Mt.pickC Th.Mt.pick;split
 ·split
  ·rfl
  ·split
   ·rw[setR_len,leave_len]
   ·split
    ·rfl
    ·rw[setR_len,leave_len,lineUp_len,leave_len]
 ·rfl
theorem resumeR_len {n:Int}:(m.resumeR n).2.ths.length=m.ths.length:=by
 unfold Th.Mt.resumeR;split
 ·rfl
 split
 ·rfl
 ·exact lineUp_len
theorem blockR_len {n:Int}:(m.blockR n).2.ths.length=m.ths.length:=by
 unfold Th.Mt.blockR;split
 ·rfl
 split
 ·rfl
 ·exact leave_len
theorem prioR_len {n p:Int}:(m.prioR n p).2.ths.length=m.ths.length:=by
 unfold Th.Mt.prioR;split
 ·rfl
 split
 ·rfl
 split
 ·rw[lineUp_len,setTh_len,leave_len]
 ·exact setTh_len
theorem regR_len {n i v:Int}:(m.regR n i v).2.ths.length=m.ths.length:=by
 unfold Th.Mt.regR;split
 ·rfl
 split
 ·rfl
 ·unfold Th.Mt.reg;exact setTh_len
theorem yield_len {c:Int}:(m.yield c).ths.length=m.ths.length:=by
 unfold Th.Mt.yield;split
 ·rfl
 ·rw[pickC_len,lineUp_len,leave_len,setTh_len]
end
section
variable {B:Nat} {w0 w:World} {R L:List Asn} {bd bk:Nat} {k:Ker} {d:Dng} {ec wv wk:Int} {fs:Sl} {N:Nat}
theorem woken_spec {id:Int} {K:Int->Pw} (hm:Th.MOk k.t) (h:Vc.Own B w0 w (BlkA bd (dcells bk d ec wv (-1) fs)::KerA bk k::R))
  (hK:∀w',Vc.Own B w0 w' (BlkA bd (dcells bk d ec wv (k.woken id).2.1 fs)::KerA bk (k.woken id).2.2::R)->K (k.woken id).1 w'):C.qah (some ⟨bd,0,none⟩) id K w:=by
 apply S.qah0;unfold Ker.woken at hK;dsimp only at hK;obtain ⟨bt,Y,h,hc2,hback⟩:=(h.pick (A:=KerA bk k)).kthr;refine ⟨_,rfl,_,h.ldc rfl,_,rfl,_,hc2,?_⟩;refine Th.resume_g hm h fun w h=>?_
 have h:=hback _ w _ resumeR_len h;refine ceq (fun e=>?_) (fun e=>?_)
 ·rw[if_pos e] at hK
  refine ⟨_,rfl,?_⟩;refine St_add ?_;refine h.std rfl rfl fun w h=>?_
  (dsimp only[kcells,dcells,putAt,List.set_cons_zero,List.set_cons_succ,Nat.zero_add] at h)
  exact hK w h.sub
 ·rw[if_neg e] at hK
  exact hK w h.sub
theorem suspend_spec {K:Int->Pw} (hk:KOk N k) (hN:N≤200000) (h:Vc.Own B w0 w (BlkA bd (dcells bk d ec wv wk fs)::KerA bk k::R))
  (hK:∀w',Vc.Own B w0 w' (BlkA bd (dcells bk d ec wv wk fs)::KerA bk ((k.freed d.c.obj).setT (k.t.suspendR d.c.obj).2)::R)->K (k.t.suspendR d.c.obj).1 w'):C.qau (some ⟨bd,0,none⟩) K w:=by
 apply S.qau0;refine h.dr fun w h=>?_
 refine ⟨_,rfl,_,h.ldc rfl,_,rfl,_,ld_add (h.ldd rfl),?_,trivial⟩;refine freed_spec (id:=d.c.obj) h.up1 ⟨Nat.le_trans hk.ne hN,Nat.le_trans hk.nn hN⟩ fun w h=>?_
 refine h.dr fun w h=>?_
 obtain ⟨bt,Y,h,hc2,hback⟩:=h.kthr;refine ⟨_,rfl,_,h.ldc rfl,_,rfl,_,hc2,_,rfl,_,ld_add (h.ldd rfl),?_,trivial⟩;refine Th.suspend_g hk.inv.ok h fun w h=>?_
 have h:Vc.Own B w0 w (KerA bk ((k.freed d.c.obj).setT (k.t.suspendR d.c.obj).2)::_):=hback _ w _ (suspend_len _ _) h;exact hK w h.sub
theorem prio_spec {K:Int->Pw} (hm:Th.MOk k.t) (h:Vc.Own B w0 w (BlkA bd (dcells bk d ec wv wk fs)::KerA bk k::R))
  (hK:∀w',Vc.Own B w0 w' (BlkA bd (dcells bk d ec wv wk fs)::KerA bk (k.setT (k.t.prioR d.c.obj d.call.a).2)::R)->K (k.t.prioR d.c.obj d.call.a).1 w'):C.qbm (some ⟨bd,0,none⟩) K w:=by
 apply S.qbm0;refine h.dr fun w h=>?_
 obtain ⟨bt,Y,h,hc2,hback⟩:=(h.pick (A:=KerA bk k)).kthr;refine ⟨_,rfl,_,h.ldc rfl,_,rfl,_,hc2,_,rfl,_,ld_add (h.ldd rfl),_,rfl,_,ld_add (h.ldd rfl),?_,trivial⟩;refine Th.prio_g hm h fun w h=>?_
 have h:=hback _ w _ prioR_len h;exact hK w h.sub
theorem resume_spec {K:Int->Pw} (hk:KOk N k) (hN:N≤200000) (h:Vc.Own B w0 w (BlkA bd (dcells bk d ec wv (-1) fs)::KerA bk k::R))
  (hK:∀w',Vc.Own B w0 w' (BlkA bd (dcells bk d ec wv (k.resume d).2.1 fs)::KerA bk (k.resume d).2.2::R)->K (k.resume d).1 w'):C.qaF (some ⟨bd,0,none⟩) K w:=by
 apply S.qaF0;unfold Ker.resume at hK;intro k2 hk2
 have fin:∀(sb:Nat) (t:Th.Thd) (w:World),t=(if k.t.isT d.c.obj then k.t.th d.c.obj else Th.zTh)->Vc.Own B w0 w (BlkA sb (Th.thE.enc t)::BlkA bd (dcells bk d ec wv (-1) fs)::KerA bk k::R)->k2 ⟨sb,0,none⟩ w:=fun sb t w ht h=>by
  apply hk2;refine ⟨_,h.ldc rfl,?_⟩
  have hst:(k.t.isT d.c.obj=true/\(k.t.th d.c.obj).st=3)↔t.st=3:=by
   rw[ht];cases hT:k.t.isT d.c.obj with
   |true=>simp
   |false=>
    have:Th.zTh.st≠3:=by decide
    simp[this]
  intro k6 hk6;refine ceq (fun e=>?_) (fun e=>?_)
  ·rw[if_pos (hst.2 e)] at hK
   refine h.dr fun w h=>?_
   refine ⟨_,rfl,_,h.ldc rfl,_,rfl,_,ld_add (h.ldd rfl),?_,trivial⟩;refine freed_spec (id:=d.c.obj) h.up2 ⟨Nat.le_trans hk.ne hN,Nat.le_trans hk.nn hN⟩ fun w h=>?_
   apply hk6;refine ⟨_,rfl,_,ld_add (h.ldd rfl),?_⟩;exact woken_spec (k:=k.freed d.c.obj) hk.inv.ok (Vc.Own.sub (L':=BlkA bd (dcells bk d ec wv (-1) fs)::KerA bk (k.freed d.c.obj)::R) h) fun w h=>hK w h
  ·rw[if_neg (fun hh=>e (hst.1 hh))] at hK
   apply hk6;refine ⟨_,rfl,_,ld_add (h.ldd rfl),?_⟩;exact woken_spec hk.inv.ok h.drop fun w h=>hK w h
 refine h.dr fun w h=>?_
 obtain ⟨bt,Y,h,hc2,hback⟩:=(h.pick (A:=KerA bk k)).kthr;have hsame:k.setT k.t=k:=rfl;refine ⟨_,rfl,_,h.ldc rfl,_,rfl,_,hc2,_,rfl,_,ld_add (h.ldd rfl),?_,?_,trivial⟩
 ·refine Th.thr_Get_spec h fun w t ht h=>?_
  have h:=hback _ w _ rfl h;rw[hsame] at h;refine ⟨?_,trivial⟩;refine h.al fun w' h=>⟨?_,trivial⟩
  generalize w.heap.size=sb at h⊢;refine h.stLc rfl rfl fun w h=>?_
  (try dsimp only[putAt,List.set_cons_zero,List.set_cons_succ] at h)
  have h:Vc.Own B w0 w (BlkA sb (Th.thE.enc t)::_):=h;exact fin sb t w ht h.sub
 ·refine h.al fun w' h=>⟨?_,trivial⟩
  generalize w.heap.size=sb at h⊢;refine Th.thr_Get_spec h.up1 fun w t ht h=>?_
  have h:=hback _ w _ rfl (h.pick (A:=Y)).up1;rw[hsame] at h;refine ⟨?_,trivial⟩;refine h.stLc rfl rfl fun w h=>?_
  (try dsimp only[putAt,List.set_cons_zero,List.set_cons_succ] at h)
  have h:Vc.Own B w0 w (KerA bk k::BlkA sb (Th.thE.enc t)::_):=h;exact fin sb t w ht h.sub
theorem rest_spec {K:Pw} (hk:KOk N k) (h:Vc.Own B w0 w (BlkA bd (dcells bk d ec wv wk fs)::KerA bk k::R))
  (hK:∀w',Vc.Own B w0 w' (BlkA bd (dcells bk d ec wv wk fs)::KerA bk (k.rest d)::R)->K w'):C.qao (some ⟨bd,0,none⟩) K w:=by
 apply S.qao0;unfold Ker.rest at hK;refine ⟨_,rfl,_,ld_add (h.ldd rfl),?_⟩;refine cne (fun e=>?_) (fun e=>?_)
 ·rw[if_pos e] at hK
  refine h.dr fun w h=>?_
  obtain ⟨bt,Y,h,hc2,hback⟩:=(h.pick (A:=KerA bk k)).kthr;refine ⟨_,rfl,_,h.ldc rfl,_,rfl,_,hc2,_,rfl,_,h.ldd rfl,?_,trivial⟩;refine Th.block_g hk.inv.ok h fun w h=>?_
  have h:=hback _ w _ blockR_len h;refine h.dr fun w h=>?_
  obtain ⟨bt,Y,h,hc2,hback⟩:=h.kthr;refine ⟨_,rfl,_,h.ldc rfl,_,rfl,_,hc2,_,rfl,_,h.ldd rfl,?_,trivial⟩;refine Th.thr_Pick_spec (hk.inv.block _).ok h fun w h=>?_
  have h:=hback _ w _ pickC_len h;exact hK w (Vc.Own.sub (L:=KerA bk (k.setT ((k.t.blockR d.cur).2.pickC d.core))::BlkA bd (dcells bk d ec wv wk fs)::R) h)
 ·rw[if_neg (fun hh=>hh e)] at hK
  exact hK w h
theorem gets_spec {id:Int} {m:Msg} {K:Pw} (hk:KOk N k) (h:Vc.Own B w0 w (BlkA bd (dcells bk d ec wv wk fs)::KerA bk k::R))
  (hK:∀w',Vc.Own B w0 w' (BlkA bd (dcells bk d ec wv wk fs)::KerA bk (k.gets id m)::R)->K w'):C.qaM (some ⟨bd,0,none⟩) id m.label m.w0 m.w1 m.w2 m.w3 m.badge m.calls K w:=by
 apply S.qaM0;unfold Ker.gets at hK;refine h.al fun w1 h=>?_
 generalize w.heap.size=c0 at h⊢;refine ⟨_,h.ldd rfl,_,h.ldc rfl,by decide,by decide,_,ld_add (h.ldd rfl),?_⟩;refine h.al fun w2 h=>?_
 generalize w1.heap.size=g at h⊢;intro l15 hl15
 have one:∀(i:Nat) (kk:Ker) (v:Int) (w:World),i<3->Th.InvX (-1) kk.t->[m.badge,IntKind.u64.wrap m.label,m.w0][i]?=some v->Vc.Own B w0 w (BlkA g [.y m.badge, .y (IntKind.u64.wrap m.label), .y m.w0]::BlkA bd (dcells bk d ec wv wk fs)::KerA bk kk::R)->
   (∀w',Vc.Own B w0 w' (BlkA g [.y m.badge, .y (IntKind.u64.wrap m.label), .y m.w0]::BlkA bd (dcells bk d ec wv wk fs)::KerA bk (kk.setT (kk.t.regR id (i:Int) v).2)::R)->l15 ((i+1:Nat):Int) w')->l15 (i:Int) w:=fun i kk v w hi hm hv h hnext=>by
  apply hl15;refine cdecT (by omega) ?_;obtain ⟨bt,Y,h,hc2,hback⟩:=(h.pick (A:=KerA bk kk)).kthr
  have hcell:w.cell? ((Addr.mk g 0 none).add ((i:Int).toNat*1))=some (.y v):=by
   refine h.ldd ?_;have:i=0∨i=1∨i=2:=by omega
   rcases this with rfl|rfl|rfl<;>(simp at hv;subst hv;rfl)
  refine ⟨_,rfl,by omega,by omega,_,hcell,_,rfl,_,h.ldc rfl,_,rfl,_,hc2,?_⟩;refine Th.reg_g hm.ok h fun w h=>?_
  have h:=hback _ w _ regR_len h;rw[show IntKind.i64.wrap ((i:Int)+1)=((i+1:Nat):Int) from by rw[wr (by omega) (by omega)];omega];exact hnext w h.sub
 refine one 0 k m.badge w2 (by decide) hk.inv rfl h.rm1 fun w h=>?_
 refine one 1 _ _ w (by decide) (hk.inv.reg _ _ _) rfl h fun w h=>?_
 refine one 2 _ _ w (by decide) ((hk.inv.reg _ _ _).reg _ _ _) rfl h fun w h=>?_
 apply hl15;refine cdecF (by decide) ?_;exact hK w h.drop
end
section
variable {B:Nat} {w0 w:World} {R L:List Asn} {bd bk:Nat} {k:Ker} {d:Dng} {ec wv wk:Int} {fs:Sl} {N:Nat}
theorem KOk.eAt (hk:KOk N k) {n:Int} (h0:0≤n) (h1:n<(k.ends.length:Int)):k.ends[n.toNat]?=some (k.eAt n)/\(k.eAt n).l.length≤N:=by
 have hx:k.ends[n.toNat]?=some k.ends[n.toNat]:=gE (by omega);unfold Ker.eAt;rw[hx];exact ⟨rfl,hk.el _ (List.getElem_mem _)⟩
theorem KOk.nAt (hk:KOk N k) {n:Int} (h0:0≤n) (h1:n<(k.notes.length:Int)):k.notes[n.toNat]?=some (k.nAt n)/\(k.nAt n).l.length≤N:=by
 have hx:k.notes[n.toNat]?=some k.notes[n.toNat]:=gE (by omega);unfold Ker.nAt;rw[hx];exact ⟨rfl,hk.nl _ (List.getElem_mem _)⟩
theorem KOk.sAt (hk:KOk N k) {n:Int} (h0:0≤n) (h1:n<(k.spaces.length:Int)):k.spaces[n.toNat]?=some (k.sAt n)/\Tb.SOk (k.sAt n):=by
 have hx:k.spaces[n.toNat]?=some k.spaces[n.toNat]:=gE (by omega);unfold Ker.sAt;rw[hx];exact ⟨rfl,hk.sok _ (List.getElem_mem _)⟩
theorem first_le (p:Ept) (t:Bool):(p.first t).2.l.length≤p.l.length:=by
 unfold Ept.first
 split
 ·exact Nat.le_refl _
 ·rename_i o r e
  split
  ·dsimp only;rw[e];simp
  ·exact Nat.le_refl _
theorem send_le (p:Ept) (n:Int) (m:Msg) (wt:Bool):(p.send n m wt).2.2.l.length≤p.l.length+1:=by
 have:=first_le p false;unfold Ept.send;split
 ·exact Nat.le_succ _
 split
 ·rename_i h;rw[h] at this;dsimp only at this⊢;omega
 ·split
  ·simp
  ·exact Nat.le_succ _
theorem recv_le (p:Ept) (n:Int) (wt:Bool):(p.recv n wt).2.2.l.length≤p.l.length+1:=by
 have:=first_le p true;unfold Ept.recv;split
 ·exact Nat.le_succ _
 split
 ·rename_i h;rw[h] at this;dsimp only at this⊢;omega
 ·split
  ·simp
  ·exact Nat.le_succ _
theorem KOk.setE (hk:KOk N k) {n:Int} {p:Ept} (hp:p.l.length≤N+1):KOk (N+1) (k.setE n p):=by
 have hM:=hk.mono (Nat.le_succ N);have hG:Gr k (k.setE n p):=⟨Nat.le_refl _,Nat.le_refl _,Nat.le_refl _,by simp[Ker.setE],Nat.le_refl _,Nat.le_refl _,Nat.le_refl _,Nat.le_refl _⟩
 refine hM.same (k':=k.setE n p) rfl rfl rfl hG hk.inv hk.ln hk.lnb hk.u hk.sok hM.nu (by simpa [Ker.setE] using hM.ne) hM.nn hM.ns hM.nf hM.nt (fun q hq=>?_) hM.nl;rcases List.mem_or_eq_of_mem_set hq with hq|hq
 ·exact hM.el q hq
 ·rw[hq];exact hp
theorem KOk.setN (hk:KOk N k) {n:Int} {p:Nte} (hp:p.l.length≤N+1):KOk (N+1) (k.setN n p):=by
 have hM:=hk.mono (Nat.le_succ N);have hG:Gr k (k.setN n p):=⟨Nat.le_refl _,Nat.le_refl _,Nat.le_refl _,Nat.le_refl _,by simp[Ker.setN],Nat.le_refl _,Nat.le_refl _,Nat.le_refl _⟩
 refine hM.same (k':=k.setN n p) rfl rfl rfl hG hk.inv hk.ln (fun x hx hx2=>by have:=hk.lnb x hx hx2;simpa [Ker.setN] using this) hk.u hk.sok hM.nu hM.ne (by simpa [Ker.setN] using hM.nn) hM.ns hM.nf hM.nt hM.el (fun q hq=>?_);rcases List.mem_or_eq_of_mem_set hq with hq|hq
 ·exact hM.nl q hq
 ·rw[hq];exact hp
theorem KOk.gets (hk:KOk N k) {id:Int} {m:Msg}:KOk N (k.gets id m):=
 hk.setT (((hk.inv.reg _ _ _).reg _ _ _).reg _ _ _) (by rw[regR_len,regR_len,regR_len];exact Nat.le_refl _)
theorem KOk.rest (hk:KOk N k):KOk N (k.rest d):=by
 unfold Ker.rest;split
 ·exact hk.setT ((hk.inv.block _).pickC _) (by rw[pickC_len,blockR_len];exact Nat.le_refl _)
 ·exact hk
theorem KOk.woken (hk:KOk N k) (id:Int):KOk N (k.woken id).2.2:=hk.setT (hk.inv.resume id) (by rw[resumeR_len];exact Nat.le_refl _)
abbrev metC (x:Met):List Value:=[.bool x.is, .z x.frm, .z x.to, .z x.m.label, .y x.m.w0, .y x.m.w1, .y x.m.w2, .y x.m.w3, .y x.m.badge, .bool x.m.calls]
theorem send_spec {K:Int->Pw} (hk:KOk N k) (hN:N≤200000) (h0:0≤d.c.obj) (h1:d.c.obj<(k.ends.length:Int)) (h:Vc.Own B w0 w (BlkA bd (dcells bk d ec 0 (-1) fs)::KerA bk k::R))
  (hK:∀w',Vc.Own B w0 w' (BlkA bd (dcells bk d ec 0 (k.send d).1.wakes fs)::KerA bk (k.send d).2::R)->K (k.send d).1.e w'):C.qbn (some ⟨bd,0,none⟩) K w:=by
 apply S.qbn0;obtain ⟨hp,hpl⟩:=hk.eAt h0 h1;have hse:=send_le (k.eAt d.c.obj) d.cur (Ker.msgOf d) (d.call.c !=0);have hkE:=hk.setE (n:=d.c.obj) (p:=((k.eAt d.c.obj).send d.cur (Ker.msgOf d) (d.call.c !=0)).2.2) (by omega);unfold Ker.send at hK;refine h.dr fun w h=>?_
 refine ⟨_,rfl,_,ld_add (h.ldd rfl),_,rfl,_,ld_add (h.ldd rfl),_,rfl,_,ld_add (h.ldd rfl),?_,trivial⟩;refine h.al fun w1 h=>⟨?_,trivial⟩
 generalize w.heap.size=cm at h⊢;refine h.stLc rfl rfl fun w h=>?_
 (try dsimp only[putAt,List.set_cons_zero,List.set_cons_succ] at h)
 intro k11 hk11
 have fin:∀(sb:Nat) (x:Met) (w:World),x=((k.eAt d.c.obj).send d.cur (Ker.msgOf d) (d.call.c !=0)).1->Vc.Own B w0 w (BlkA sb (metC x)::BlkA bd (dcells bk d ec 0 (-1) fs)::KerA bk (k.setE d.c.obj ((k.eAt d.c.obj).send d.cur (Ker.msgOf d) (d.call.c !=0)).2.2)::R)->k11 ⟨sb,0,none⟩ ((k.eAt d.c.obj).send d.cur (Ker.msgOf d) (d.call.c !=0)).2.1 w:=fun sb x w hx h=>by
  apply hk11;generalize (k.eAt d.c.obj).send d.cur (Ker.msgOf d) (d.call.c !=0)=P at hx h hK hkE⊢;obtain ⟨y,e,p'⟩:=P;dsimp only at hx h hK hkE⊢;subst hx;by_cases he:e≠0
  ·rw[if_pos he] at hK
   exact cneT he (hK w h.drop)
  rw[if_neg he] at hK;refine cneF (by omega) ⟨_,h.ldc rfl,?_⟩;cases hi:x.is with
  |false=>
   rw[if_pos hi] at hK;refine cbT rfl ?_;refine rest_spec hkE h.drop fun w h=>?_
   exact hK w h
  |true=>
   rw[if_neg (by rw[hi];decide)] at hK;refine cbF rfl ⟨_,h.ldd rfl,?_⟩;refine LdL_add (h.lc_7 rfl ?_);refine gets_spec (id:=x.to) (m:=x.m) hkE ((h.pick (A:=KerA bk (k.setE d.c.obj p'))).pick (A:=BlkA bd (dcells bk d ec 0 (-1) fs))) fun w h=>?_
   refine ⟨_,h.ldd rfl,?_⟩;have hK2:∀w',Vc.Own B w0 w' (BlkA bd (dcells bk d ec 0 (((k.setE d.c.obj p').gets x.to x.m).woken x.to).2.1 fs)::KerA bk (((k.setE d.c.obj p').gets x.to x.m).woken x.to).2.2::R)->K (((k.setE d.c.obj p').gets x.to x.m).woken x.to).1 w':=hK;refine woken_spec hkE.gets.inv.ok h fun w h=>?_
   exact hK2 w h.sub
 refine h.dr fun w h=>?_
 obtain ⟨ss,ps,Y,h,hc2,hpn,hback⟩:=(h.pick (A:=KerA bk k)).kends;have hq:ps[d.c.obj.toNat]?=some ps[d.c.obj.toNat]:=gE (by omega);generalize ps[d.c.obj.toNat]=pp at hq;refine ⟨_,rfl,_,h.ldc rfl,_,rfl,ss,hc2,_,rfl,_,ld_add (h.ldd rfl),?_⟩;refine ptE_ix (s:=ss) (i:=d.c.obj) (j:=d.c.obj.toNat) h (by omega) hq fun a ha hc=>⟨_,hc,?_⟩
 refine ⟨_,rfl,_,h.ldd rfl,?_⟩;refine h.lc_7 rfl ?_;refine ⟨_,rfl,_,ld_add (h.ldd rfl),?_,?_,trivial⟩
 ·have h:=(h.pick (A:=PtsA EndA ps k.ends)).ptS hq hp
  refine endpoint_Send_spec (m:=Ker.msgOf d) (by omega) h fun w x hx h=>?_
  have h:=(h.ptS_back hpn hq).up1;have h:Vc.Own B w0 w (KerA bk (k.setE d.c.obj ((k.eAt d.c.obj).send d.cur (Ker.msgOf d) (d.call.c !=0)).2.2)::_):=hback _ w _ h;refine ⟨?_,trivial⟩;refine h.al fun w' h=>⟨?_,trivial⟩
  generalize w.heap.size=sb at h⊢;refine h.stLc rfl rfl fun w h=>?_
  (try dsimp only[putAt,List.set_cons_zero,List.set_cons_succ] at h)
  exact fin sb x w hx h.sub
 ·refine h.al fun w' h=>⟨?_,trivial⟩
  generalize w.heap.size=sb at h⊢;have h:=(h.pick (A:=PtsA EndA ps k.ends)).ptS hq hp;refine endpoint_Send_spec (m:=Ker.msgOf d) (by omega) h fun w x hx h=>?_
  have h:=(h.ptS_back hpn hq)
  have h:Vc.Own B w0 w (KerA bk (k.setE d.c.obj ((k.eAt d.c.obj).send d.cur (Ker.msgOf d) (d.call.c !=0)).2.2)::_):=hback _ w _ (h.pick (A:=Y)).up1.up3;refine ⟨?_,trivial⟩;refine h.stLc rfl rfl fun w h=>?_
  (try dsimp only[putAt,List.set_cons_zero,List.set_cons_succ] at h)
  exact fin sb x w hx h.sub
theorem recv_spec {K:Int->Pw} (hk:KOk N k) (hN:N≤200000) (h0:0≤d.c.obj) (h1:d.c.obj<(k.ends.length:Int)) (h:Vc.Own B w0 w (BlkA bd (dcells bk d ec 0 (-1) fs)::KerA bk k::R))
  (hK:∀w',Vc.Own B w0 w' (BlkA bd (dcells bk d ec 0 (k.recv d).1.wakes fs)::KerA bk (k.recv d).2::R)->K (k.recv d).1.e w'):C.qbo (some ⟨bd,0,none⟩) K w:=by
 apply S.qbo0;obtain ⟨hp,hpl⟩:=hk.eAt h0 h1;have hse:=recv_le (k.eAt d.c.obj) d.cur (d.call.c !=0);have hkE:=hk.setE (n:=d.c.obj) (p:=((k.eAt d.c.obj).recv d.cur (d.call.c !=0)).2.2) (by omega);unfold Ker.recv at hK;intro k11 hk11
 have fin:∀(sb:Nat) (x:Met) (w:World),x=((k.eAt d.c.obj).recv d.cur (d.call.c !=0)).1->Vc.Own B w0 w (BlkA sb (metC x)::BlkA bd (dcells bk d ec 0 (-1) fs)::KerA bk (k.setE d.c.obj ((k.eAt d.c.obj).recv d.cur (d.call.c !=0)).2.2)::R)->k11 ⟨sb,0,none⟩ ((k.eAt d.c.obj).recv d.cur (d.call.c !=0)).2.1 w:=fun sb x w hx h=>by
  apply hk11;generalize (k.eAt d.c.obj).recv d.cur (d.call.c !=0)=P at hx h hK hkE⊢;obtain ⟨y,e,p'⟩:=P;dsimp only at hx h hK hkE⊢;subst hx;by_cases he:e≠0
  ·rw[if_pos he] at hK
   exact cneT he (hK w h.drop)
  rw[if_neg he] at hK;refine cneF (by omega) ⟨_,h.ldc rfl,?_⟩;cases hi:x.is with
  |false=>
   rw[if_pos hi] at hK;refine cbT rfl ?_;refine rest_spec hkE h.drop fun w h=>?_
   exact hK w h
  |true=>
   rw[if_neg (by rw[hi];decide)] at hK;refine cbF rfl ?_;refine h.dr fun w h=>?_
   refine ⟨_,rfl,_,h.ldd rfl,?_⟩;refine LdL_add (h.lc_7 rfl ⟨?_,trivial⟩);refine gets_spec (id:=d.cur) (m:=x.m) hkE ((h.pick (A:=KerA bk (k.setE d.c.obj p'))).pick (A:=BlkA bd (dcells bk d ec 0 (-1) fs))) fun w h=>?_
   refine ⟨_,h.ldd rfl,?_⟩;have hK2:∀w',Vc.Own B w0 w' (BlkA bd (dcells bk d ec 0 (((k.setE d.c.obj p').gets d.cur x.m).woken x.frm).2.1 fs)::KerA bk (((k.setE d.c.obj p').gets d.cur x.m).woken x.frm).2.2::R)->K (((k.setE d.c.obj p').gets d.cur x.m).woken x.frm).1 w':=hK;refine woken_spec hkE.gets.inv.ok h fun w h=>?_
   exact hK2 w h.sub
 refine h.dr fun w h=>?_
 obtain ⟨ss,ps,Y,h,hc2,hpn,hback⟩:=(h.pick (A:=KerA bk k)).kends;have hq:ps[d.c.obj.toNat]?=some ps[d.c.obj.toNat]:=gE (by omega);generalize ps[d.c.obj.toNat]=pp at hq;refine ⟨_,rfl,_,h.ldc rfl,_,rfl,ss,hc2,_,rfl,_,ld_add (h.ldd rfl),?_⟩;refine ptE_ix (s:=ss) (i:=d.c.obj) (j:=d.c.obj.toNat) h (by omega) hq fun a ha hc=>⟨_,hc,?_⟩
 refine ⟨_,rfl,_,h.ldd rfl,_,rfl,_,ld_add (h.ldd rfl),?_,?_,trivial⟩
 ·have h:=(h.pick (A:=PtsA EndA ps k.ends)).ptS hq hp
  refine endpoint_Recv_spec (by omega) h fun w x hx h=>?_
  have h:=(h.ptS_back hpn hq).up1;have h:Vc.Own B w0 w (KerA bk (k.setE d.c.obj ((k.eAt d.c.obj).recv d.cur (d.call.c !=0)).2.2)::_):=hback _ w _ h;refine ⟨?_,trivial⟩;refine h.al fun w' h=>⟨?_,trivial⟩
  generalize w.heap.size=sb at h⊢;refine h.stLc rfl rfl fun w h=>?_
  (try dsimp only[putAt,List.set_cons_zero,List.set_cons_succ] at h)
  exact fin sb x w hx h.sub
 ·refine h.al fun w' h=>⟨?_,trivial⟩
  generalize w.heap.size=sb at h⊢;have h:=(h.pick (A:=PtsA EndA ps k.ends)).ptS hq hp;refine endpoint_Recv_spec (by omega) h fun w x hx h=>?_
  have h:=(h.ptS_back hpn hq)
  have h:Vc.Own B w0 w (KerA bk (k.setE d.c.obj ((k.eAt d.c.obj).recv d.cur (d.call.c !=0)).2.2)::_):=hback _ w _ (h.pick (A:=Y)).up1.up3;refine ⟨?_,trivial⟩;refine h.stLc rfl rfl fun w h=>?_
  (try dsimp only[putAt,List.set_cons_zero,List.set_cons_succ] at h)
  exact fin sb x w hx h.sub
theorem signal_le (n:Nte) (g:Int):(n.signal g).2.l.length≤n.l.length:=by
 unfold Nte.signal;split
 ·rename_i x r e;dsimp only;rw[e];simp
 ·rename_i e;dsimp only;rw[e];simp
theorem wait_le (n:Nte) (who:Int) (wt:Bool):(n.wait who wt).2.l.length≤n.l.length+1:=by
 unfold Nte.wait;split
 ·exact Nat.le_succ _
 split
 ·exact Nat.le_succ _
 ·dsimp only
  split
  ·simp
  ·exact Nat.le_succ _
theorem signal_spec {n g:Int} {K:Int->Pw} (hk:KOk N k) (hN:N≤200000) (h0:0≤n) (h1:n<(k.notes.length:Int)) (h:Vc.Own B w0 w (KerA bk k::R))
  (hK:∀w',Vc.Own B w0 w' (KerA bk (k.signal n g).2::R)->K (k.signal n g).1 w'):C.qac (some ⟨bk,0,none⟩) n g K w:=by
 apply S.qac0;obtain ⟨hp,hpl⟩:=hk.nAt h0 h1;unfold Ker.signal at hK;obtain ⟨ss,ps,Y,h,hc2,hpn,hback⟩:=h.knotes;have hq:ps[n.toNat]?=some ps[n.toNat]:=gE (by omega);generalize ps[n.toNat]=pp at hq;refine ⟨_,rfl,ss,hc2,?_⟩;refine ptE_ix (s:=ss) (i:=n) (j:=n.toNat) h (by omega) hq fun a ha hc=>⟨_,hc,?_⟩
 have h:=(h.pick (A:=PtsA NoteA ps k.notes)).ptS hq hp;refine notify_Signal_spec h fun w h=>?_
 have h:=(h.ptS_back hpn hq).up1;have h:Vc.Own B w0 w (KerA bk (k.setN n ((k.nAt n).signal g).2)::R):=hback _ w _ h;cases hs:((k.nAt n).signal g).1 with
 |none=>
  rw[hs] at hK;exact cbT rfl (hK w h)
 |some who=>
  rw[hs] at hK;refine cbF rfl ?_;obtain ⟨bt,Y,h,hc2,hback⟩:=h.kthr;refine ⟨_,rfl,_,hc2,?_⟩;refine Th.reg_g hk.inv.ok h fun w h=>?_
  have h:=hback _ w _ regR_len h;obtain ⟨bt,Y,h,hc2,hback⟩:=h.kthr;refine ⟨_,rfl,_,hc2,?_⟩;refine Th.resume_g (hk.inv.reg _ _ _).ok h fun w h=>?_
  have h:=hback _ w _ resumeR_len h;exact hK w h
theorem signalled_spec {K:Int->Pw} (hk:KOk N k) (hN:N≤200000) (h0:0≤d.c.obj) (h1:d.c.obj<(k.notes.length:Int)) (h:Vc.Own B w0 w (BlkA bd (dcells bk d ec wv wk fs)::KerA bk k::R))
  (hK:∀w',Vc.Own B w0 w' (BlkA bd (dcells bk d ec wv (k.signal d.c.obj d.c.badge).1 fs)::KerA bk (k.signal d.c.obj d.c.badge).2::R)->K 0 w'):C.qaf (some ⟨bd,0,none⟩) K w:=by
 apply S.qaf0;refine h.dr fun w h=>?_
 refine ⟨_,rfl,_,h.ldc rfl,_,rfl,_,ld_add (h.ldd rfl),_,rfl,_,ld_add (h.ldd rfl),?_,trivial⟩;refine signal_spec hk hN h0 h1 h.up1 fun w h=>?_
 refine ⟨_,rfl,?_,trivial⟩;refine St_add ?_;refine h.std rfl rfl fun w h=>?_
 (dsimp only[kcells,dcells,putAt,List.set_cons_zero,List.set_cons_succ,Nat.zero_add] at h)
 exact hK w h.sub
theorem wait_spec {K:Int->Pw} (hk:KOk N k) (hN:N≤200000) (h0:0≤d.c.obj) (h1:d.c.obj<(k.notes.length:Int)) (h:Vc.Own B w0 w (BlkA bd (dcells bk d ec 0 wk fs)::KerA bk k::R))
  (hK:∀w',Vc.Own B w0 w' (BlkA bd (dcells bk d ec (k.wait d).1.w wk fs)::KerA bk (k.wait d).2::R)->K (k.wait d).1.e w'):C.qbp (some ⟨bd,0,none⟩) K w:=by
 apply S.qbp0;obtain ⟨hp,hpl⟩:=hk.nAt h0 h1;have hwl:=wait_le (k.nAt d.c.obj) d.cur (d.call.c !=0);have hkN:=hk.setN (n:=d.c.obj) (p:=((k.nAt d.c.obj).wait d.cur (d.call.c !=0)).2) (by omega);unfold Ker.wait at hK;refine h.dr fun w h=>?_
 obtain ⟨ss,ps,Y,h,hc2,hpn,hback⟩:=(h.pick (A:=KerA bk k)).knotes;have hq:ps[d.c.obj.toNat]?=some ps[d.c.obj.toNat]:=gE (by omega);generalize ps[d.c.obj.toNat]=pp at hq;refine ⟨_,rfl,_,h.ldc rfl,_,rfl,ss,hc2,_,rfl,_,ld_add (h.ldd rfl),?_⟩;refine ptE_ix (s:=ss) (i:=d.c.obj) (j:=d.c.obj.toNat) h (by omega) hq fun a ha hc=>⟨_,hc,?_⟩
 refine ⟨_,rfl,_,h.ldd rfl,_,rfl,_,ld_add (h.ldd rfl),?_,trivial⟩;have h:=(h.pick (A:=PtsA NoteA ps k.notes)).ptS hq hp;refine notify_Wait_spec (by omega) h fun w h=>?_
 have h:=(h.ptS_back hpn hq).up1;have h:Vc.Own B w0 w (KerA bk (k.setN d.c.obj ((k.nAt d.c.obj).wait d.cur (d.call.c !=0)).2)::BlkA bd (dcells bk d ec 0 wk fs)::R):=hback _ w _ h;generalize (k.nAt d.c.obj).wait d.cur (d.call.c !=0)=P at h hK hkN⊢;obtain ⟨⟨y,is,e⟩,p'⟩:=P;dsimp only at h hK hkN⊢;by_cases he:e≠0
 ·rw[if_pos he] at hK
  exact cneT he (hK w h.up1)
 rw[if_neg he] at hK;refine cneF (by omega) ?_;intro k19 hk19
 have fin:∀(k':Ker) (w:World),(∀w',Vc.Own B w0 w' (BlkA bd (dcells bk d ec y wk fs)::KerA bk k'::R)->K 0 w')->Vc.Own B w0 w (BlkA bd (dcells bk d ec 0 wk fs)::KerA bk k'::R)->k19 w:=fun k' w hK h=>by
  apply hk19;refine ⟨_,rfl,?_⟩;refine St_add ?_;refine h.std rfl rfl fun w h=>?_
  (dsimp only[kcells,dcells,putAt,List.set_cons_zero,List.set_cons_succ,Nat.zero_add] at h)
  exact hK w h
 cases is with
 |false=>
  refine cbT rfl ?_;refine rest_spec hkN h.up1 fun w h=>?_
  exact fin _ w (fun w' h=>hK w' h) h
 |true=>
  refine cbF rfl ?_;exact fin _ w (fun w' h=>hK w' h) h.up1
end
section
variable {B:Nat} {w0 w:World} {R L:List Asn} {bd bk:Nat} {k:Ker} {d:Dng} {ec wv wk:Int} {fs:Sl} {N:Nat}
theorem table_spec {K:Int->Pw} (hk:KOk N k) (h:Vc.Own B w0 w (BlkA bd (dcells bk d ec wv wk fs)::KerA bk k::R))
  (hK:∀w',Vc.Own B w0 w' (BlkA bd (dcells bk d ec wv wk fs)::KerA bk (k.table d).2::R)->K (k.table d).1.e w'):C.qaT (some ⟨bd,0,none⟩) K w:=by
 apply S.qaT0;unfold Ker.table at hK;intro k2 hk2
 have fbad:k.heldB d.call.with_ 8=false->∀(sb:Addr) (w:World),Vc.Own B w0 w (BlkA bd (dcells bk d ec wv wk fs)::KerA bk k::R)->k2 sb false w:=fun hB sb w h=>by
  rw[if_pos hB] at hK;apply hk2;exact cbT rfl (hK w h)
 have fgood:k.heldB d.call.with_ 8=true->∀(sb:Nat) (c:Cap) (w:World),c=k.capAt d.call.with_->Vc.Own B w0 w (BlkA sb [.z c.kind, .z c.obj, .z c.rights, .y c.badge, .y c.guard, .z c.bits]::BlkA bd (dcells bk d ec wv wk fs)::KerA bk k::R)->k2 ⟨sb,0,none⟩ true w:=fun hB sb c w hc h=>by
  rw[if_neg (by rw[hB];decide)] at hK;dsimp only[Ker.tell] at hK;obtain ⟨hb1,hb2⟩:=heldB_out hB;obtain ⟨_,_,ho,_,_⟩:=hk.cap hb1;rw[←hc] at ho hb2 hK;have o0:=ho.1;have o1:=ho.2.2.2.2.2.2.2.2.1 (hb2 (by decide));obtain ⟨hp,hsk⟩:=hk.sAt o0 o1;apply hk2;refine cbF rfl ?_;refine h.dr fun w h=>?_
  obtain ⟨ss,ps,Y,h,hc2,hpn,hback⟩:=(h.pick (A:=KerA bk k)).kspaces;have hq:ps[c.obj.toNat]?=some ps[c.obj.toNat]:=gE (by omega);generalize ps[c.obj.toNat]=pp at hq;refine ⟨_,rfl,_,h.ldc rfl,_,rfl,ss,hc2,_,h.ldd rfl,?_⟩;refine ptE_ix (s:=ss) (i:=c.obj) (j:=c.obj.toNat) h (by omega) hq fun a ha hcc=>⟨_,hcc,?_⟩
  refine ⟨_,rfl,_,ld_add (h.ldd rfl),_,rfl,_,ld_add (h.ldd rfl),?_,trivial⟩;have h:=(h.pick (A:=PtsA Tb.SpcA ps k.spaces)).ptS hq hp;refine Tb.Table_spec h fun w h=>?_
  have h:=(h.ptS_back hpn hq).up1;have h:Vc.Own B w0 w (KerA bk (k.setS c.obj ((k.sAt c.obj).tableR d.call.a d.c.obj).2)::_):=hback _ w _ h;exact hK w h.sub
 refine h.dr fun w h=>?_
 refine ⟨_,rfl,_,h.ldc rfl,_,rfl,_,ld_add (h.ldd rfl),?_⟩
 (repeat' (first|exact trivial|(exact fbad (by assumption) _ _ h.sub)|(exact fgood (by assumption) _ _ _ (by assumption) h.sub)|(refine held_spec hk (h.pick (A:=KerA bk k)) (fun hB s c w h=>?_) (fun hB w c hc h=>?_))|(refine h.al fun w h=>?_)|(refine h.dr fun w h=>?_)|(refine h.lc_2 rfl ?_)|(refine h.lc_6 rfl ?_)|(refine ⟨_,h.ldc rfl,?_⟩)|(refine ⟨_,h.ldd rfl,?_⟩)|(refine h.hd rfl ?_)|(refine ⟨h.ldc rfl,?_⟩)|(refine ⟨h.ldd rfl,?_⟩)|((refine h.stLc rfl rfl fun w h=>?_);(try dsimp only[putAt,List.set_cons_zero,List.set_cons_succ] at h))|(refine exs ?_)|(refine _root_.Go.Vc.a2 ?_)|(refine h.stc rfl rfl fun w h=>?_)|(refine h.std rfl rfl fun w h=>?_)|(refine And.intro ?_ ?_)))
theorem mapped_spec {K:Int->Pw} (hk:KOk N k) (h:Vc.Own B w0 w (BlkA bd (dcells bk d ec wv wk fs)::KerA bk k::R))
  (hK:∀w',Vc.Own B w0 w' (BlkA bd (dcells bk d ec wv wk fs)::KerA bk (k.mapped d).2::R)->K (k.mapped d).1.e w'):C.qaG (some ⟨bd,0,none⟩) K w:=by
 apply S.qaG0;unfold Ker.mapped at hK;intro k2 hk2
 have fbad:k.heldB d.call.with_ 8=false->∀(sb:Addr) (w:World),Vc.Own B w0 w (BlkA bd (dcells bk d ec wv wk fs)::KerA bk k::R)->k2 sb false w:=fun hB sb w h=>by
  rw[if_pos hB] at hK;apply hk2;exact cbT rfl (hK w h)
 have fgood:k.heldB d.call.with_ 8=true->∀(sb:Nat) (c:Cap) (w:World),c=k.capAt d.call.with_->Vc.Own B w0 w (BlkA sb [.z c.kind, .z c.obj, .z c.rights, .y c.badge, .y c.guard, .z c.bits]::BlkA bd (dcells bk d ec wv wk fs)::KerA bk k::R)->k2 ⟨sb,0,none⟩ true w:=fun hB sb c w hc h=>by
  rw[if_neg (by rw[hB];decide)] at hK;dsimp only[Ker.tell] at hK;obtain ⟨hb1,hb2⟩:=heldB_out hB;obtain ⟨_,_,ho,_,_⟩:=hk.cap hb1;rw[←hc] at ho hb2 hK;have o0:=ho.1;have o1:=ho.2.2.2.2.2.2.2.2.1 (hb2 (by decide));obtain ⟨hp,hsk⟩:=hk.sAt o0 o1;apply hk2;refine cbF rfl ?_;refine h.dr fun w h=>?_
  obtain ⟨ss,ps,Y,h,hc2,hpn,hback⟩:=(h.pick (A:=KerA bk k)).kspaces;have hq:ps[c.obj.toNat]?=some ps[c.obj.toNat]:=gE (by omega);generalize ps[c.obj.toNat]=pp at hq;refine ⟨_,rfl,_,h.ldc rfl,_,rfl,ss,hc2,_,h.ldd rfl,?_⟩;refine ptE_ix (s:=ss) (i:=c.obj) (j:=c.obj.toNat) h (by omega) hq fun a ha hcc=>⟨_,hcc,?_⟩
  have h:=(h.pick (A:=PtsA Tb.SpcA ps k.spaces)).ptS hq hp
  have fin:∀w,Vc.Own B w0 w (Tb.SpcA pp ((k.sAt c.obj).mapR d.call.a (d.c.obj,andI .i64 d.c.rights d.call.b)).2::StarA ((List.zipWith Tb.SpcA ps k.spaces).eraseIdx c.obj.toNat)::SlT ptE ss ps::Y::BlkA bd (dcells bk d ec wv wk fs)::R)->K ((k.sAt c.obj).mapR d.call.a (d.c.obj,andI .i64 d.c.rights d.call.b)).1 w:=fun w h=>by
   have h:=(h.ptS_back hpn hq).up1;have h:Vc.Own B w0 w (KerA bk (k.setS c.obj ((k.sAt c.obj).mapR d.call.a (d.c.obj,andI .i64 d.c.rights d.call.b)).2)::_):=hback _ w _ h;exact hK w h.sub
  have go:∀w,Vc.Own B w0 w (Tb.SpcA pp (k.sAt c.obj)::StarA ((List.zipWith Tb.SpcA ps k.spaces).eraseIdx c.obj.toNat)::SlT ptE ss ps::Y::BlkA bd (dcells bk d ec wv wk fs)::R)->C.qbb (some ⟨pp,0,none⟩) d.call.a d.c.obj (andI .i64 d.c.rights d.call.b) (fun r w=>K r w) w:=fun w h=>Tb.Map_spec (p:=(d.c.obj,andI .i64 d.c.rights d.call.b)) h fun w h=>fin w h
  have rd:∀{w:World},Vc.Own B w0 w (BlkA bd (dcells bk d ec wv wk fs)::R)->True:=fun _=>trivial
  refine ⟨_,rfl,_,ld_add (h.ldd rfl),_,rfl,_,ld_add (h.ldd rfl),_,rfl,_,ld_add (h.ldd rfl),_,rfl,_,ld_add (h.ldd rfl),?_⟩
  (repeat' (first|exact trivial|(exact go _ h.sub)|(refine h.al fun w h=>?_)|(refine h.dr fun w h=>?_)|(refine h.lc_2 rfl ?_)|(refine h.lc_6 rfl ?_)|(refine ⟨_,h.ldc rfl,?_⟩)|(refine ⟨_,h.ldd rfl,?_⟩)|(refine h.hd rfl ?_)|(refine ⟨h.ldc rfl,?_⟩)|(refine ⟨h.ldd rfl,?_⟩)|((refine h.stLc rfl rfl fun w h=>?_);(try dsimp only[putAt,List.set_cons_zero,List.set_cons_succ] at h))|(refine exs ?_)|(refine _root_.Go.Vc.a2 ?_)|(refine h.stc rfl rfl fun w h=>?_)|(refine h.std rfl rfl fun w h=>?_)|(refine And.intro ?_ ?_)))
 refine h.dr fun w h=>?_
 refine ⟨_,rfl,_,h.ldc rfl,_,rfl,_,ld_add (h.ldd rfl),?_⟩
 (repeat' (first|exact trivial|(exact fbad (by assumption) _ _ h.sub)|(exact fgood (by assumption) _ _ _ (by assumption) h.sub)|(refine held_spec hk (h.pick (A:=KerA bk k)) (fun hB s c w h=>?_) (fun hB w c hc h=>?_))|(refine h.al fun w h=>?_)|(refine h.dr fun w h=>?_)|(refine h.lc_2 rfl ?_)|(refine h.lc_6 rfl ?_)|(refine ⟨_,h.ldc rfl,?_⟩)|(refine ⟨_,h.ldd rfl,?_⟩)|(refine h.hd rfl ?_)|(refine ⟨h.ldc rfl,?_⟩)|(refine ⟨h.ldd rfl,?_⟩)|((refine h.stLc rfl rfl fun w h=>?_);(try dsimp only[putAt,List.set_cons_zero,List.set_cons_succ] at h))|(refine exs ?_)|(refine _root_.Go.Vc.a2 ?_)|(refine h.stc rfl rfl fun w h=>?_)|(refine h.std rfl rfl fun w h=>?_)|(refine And.intro ?_ ?_)))
theorem bind_spec {K:Int->Pw} (hk:KOk N k) (h:Vc.Own B w0 w (BlkA bd (dcells bk d ec wv wk fs)::KerA bk k::R))
  (hK:∀w',Vc.Own B w0 w' (BlkA bd (dcells bk d ec wv wk fs)::KerA bk (k.bind d).2::R)->K (k.bind d).1.e w'):C.qbq (some ⟨bd,0,none⟩) K w:=by
 apply S.qbq0;unfold Ker.bind at hK;intro k2 hk2
 have fbad:k.heldB d.call.with_ 5=false->∀(sb:Addr) (w:World),Vc.Own B w0 w (BlkA bd (dcells bk d ec wv wk fs)::KerA bk k::R)->k2 sb false w:=fun hB sb w h=>by
  rw[if_pos hB] at hK;apply hk2;exact cbT rfl (hK w h)
 have fgood:k.heldB d.call.with_ 5=true->∀(sb:Nat) (c:Cap) (w:World),c=k.capAt d.call.with_->Vc.Own B w0 w (BlkA sb [.z c.kind, .z c.obj, .z c.rights, .y c.badge, .y c.guard, .z c.bits]::BlkA bd (dcells bk d ec wv wk fs)::KerA bk k::R)->k2 ⟨sb,0,none⟩ true w:=fun hB sb c w hc h=>by
  rw[if_neg (by rw[hB];decide)] at hK;dsimp only[Ker.tell] at hK;rw[←hc] at hK;apply hk2;refine cbF rfl ?_;refine h.dr fun w h=>?_
  obtain ⟨bl,Y,h,hc2,hback⟩:=(h.pick (A:=KerA bk k)).klines;refine ⟨_,rfl,_,h.ldc rfl,_,rfl,_,hc2,_,rfl,_,ld_add (h.ldd rfl),_,h.ldd rfl,_,h.ldd rfl,?_,trivial⟩;refine irq_Bind_spec h fun w h=>?_
  have h:=hback _ w _ h;exact hK w (Vc.Own.sub (L:=KerA bk { k with ln:=(bindL k.ln d.c.obj c.obj c.badge).2}::BlkA sb [.z c.kind, .z c.obj, .z c.rights, .y c.badge, .y c.guard, .z c.bits]::BlkA bd (dcells bk d ec wv wk fs)::R) h)
 refine h.dr fun w h=>?_
 refine ⟨_,rfl,_,h.ldc rfl,_,rfl,_,ld_add (h.ldd rfl),?_⟩
 (repeat' (first|exact trivial|(exact fbad (by assumption) _ _ h.sub)|(exact fgood (by assumption) _ _ _ (by assumption) h.sub)|(refine held_spec hk (h.pick (A:=KerA bk k)) (fun hB s c w h=>?_) (fun hB w c hc h=>?_))|(refine h.al fun w h=>?_)|(refine h.dr fun w h=>?_)|(refine h.lc_2 rfl ?_)|(refine h.lc_6 rfl ?_)|(refine ⟨_,h.ldc rfl,?_⟩)|(refine ⟨_,h.ldd rfl,?_⟩)|(refine h.hd rfl ?_)|(refine ⟨h.ldc rfl,?_⟩)|(refine ⟨h.ldd rfl,?_⟩)|((refine h.stLc rfl rfl fun w h=>?_);(try dsimp only[putAt,List.set_cons_zero,List.set_cons_succ] at h))|(refine exs ?_)|(refine _root_.Go.Vc.a2 ?_)|(refine h.stc rfl rfl fun w h=>?_)|(refine h.std rfl rfl fun w h=>?_)|(refine And.intro ?_ ?_)))
theorem unmap_spec {K:Int->Pw} (hk:KOk N k) (h0:0≤d.c.obj) (h1:d.c.obj<(k.spaces.length:Int)) (h:Vc.Own B w0 w (BlkA bd (dcells bk d ec wv wk fs)::SlT lneE fs []::KerA bk k::R))
  (hK:∀fs' w',Vc.Own B w0 w' (BlkA bd (dcells bk d ec wv wk fs')::SlT lneE fs' (k.unmap d).1.forget::KerA bk (k.unmap d).2::R)->K (k.unmap d).1.e w'):C.qaU (some ⟨bd,0,none⟩) K w:=by
 apply S.qaU0;unfold Ker.unmap at hK;obtain ⟨hp,hsk⟩:=hk.sAt h0 h1;intro k2 hk2
 have fin:∀(sb:Nat) (w:World),Vc.Own B w0 w (BlkA sb [.z ((k.sAt d.c.obj).unmapR d.call.a).1.1, .z ((k.sAt d.c.obj).unmapR d.call.a).1.2]::BlkA bd (dcells bk d ec wv wk fs)::SlT lneE fs []::KerA bk (k.setS d.c.obj ((k.sAt d.c.obj).unmapR d.call.a).2.2)::R)->k2 ⟨sb,0,none⟩ ((k.sAt d.c.obj).unmapR d.call.a).2.1 w:=fun sb w h=>by
  apply hk2;dsimp only at hK;refine ceq (fun e=>?_) (fun e=>?_)
  ·rw[if_pos e] at hK
   refine h.dr fun w h=>?_
   refine ⟨_,rfl,_,ld_add (h.ldd rfl),_,rfl,_,ld_add (h.ldd rfl),?_⟩;refine h.lc_2 rfl ⟨?_,trivial⟩;refine forgets_spec (sp:=d.c.obj) (l:=(d.call.a,((k.sAt d.c.obj).unmapR d.call.a).1)) (F:=[]) (by simp) ((h.pick (A:=SlT lneE fs [])).pick (A:=BlkA bd (dcells bk d ec wv wk fs))) fun fs' w h=>?_
   exact hK fs' w (Vc.Own.sub (L:=BlkA bd (dcells bk d ec wv wk fs')::SlT lneE fs' [⟨d.c.obj,d.call.a,((k.sAt d.c.obj).unmapR d.call.a).1.1,((k.sAt d.c.obj).unmapR d.call.a).1.2⟩]::BlkA sb [.z ((k.sAt d.c.obj).unmapR d.call.a).1.1, .z ((k.sAt d.c.obj).unmapR d.call.a).1.2]::KerA bk (k.setS d.c.obj ((k.sAt d.c.obj).unmapR d.call.a).2.2)::R) h)
  ·rw[if_neg e] at hK
   exact hK fs w h.drop
 refine h.dr fun w h=>?_
 obtain ⟨ss,ps,Y,h,hc2,hpn,hback⟩:=(h.pick (A:=KerA bk k)).kspaces;have hq:ps[d.c.obj.toNat]?=some ps[d.c.obj.toNat]:=gE (by omega);generalize ps[d.c.obj.toNat]=pp at hq;refine ⟨_,rfl,_,h.ldc rfl,_,rfl,ss,hc2,_,rfl,_,ld_add (h.ldd rfl),?_⟩;refine ptE_ix (s:=ss) (i:=d.c.obj) (j:=d.c.obj.toNat) h (by omega) hq fun a ha hcc=>⟨_,hcc,?_⟩
 refine ⟨_,rfl,_,ld_add (h.ldd rfl),?_,?_,trivial⟩
 ·have h:=(h.pick (A:=PtsA Tb.SpcA ps k.spaces)).ptS hq hp
  refine Tb.Unmap_spec h fun w h=>?_
  have h:=(h.ptS_back hpn hq).up1;have h:Vc.Own B w0 w (KerA bk (k.setS d.c.obj ((k.sAt d.c.obj).unmapR d.call.a).2.2)::_):=hback _ w _ h;refine ⟨?_,trivial⟩;refine h.al fun w' h=>⟨?_,trivial⟩
  generalize w.heap.size=sb at h⊢;refine h.stLc rfl rfl fun w h=>?_
  (try dsimp only[putAt,List.set_cons_zero,List.set_cons_succ] at h)
  exact fin sb w h.sub
 ·refine h.al fun w' h=>⟨?_,trivial⟩
  generalize w.heap.size=sb at h⊢;have h:=(h.pick (A:=PtsA Tb.SpcA ps k.spaces)).ptS hq hp;refine Tb.Unmap_spec h fun w h=>?_
  have h:=(h.ptS_back hpn hq)
  have h:Vc.Own B w0 w (KerA bk (k.setS d.c.obj ((k.sAt d.c.obj).unmapR d.call.a).2.2)::_):=hback _ w _ (h.pick (A:=Y)).up1.up3;refine ⟨?_,trivial⟩;refine h.stLc rfl rfl fun w h=>?_
  (try dsimp only[putAt,List.set_cons_zero,List.set_cons_succ] at h)
  exact fin sb w h.sub
theorem KOk.ln_out (hk:KOk N k) {n:Int} {x:Ln} (hx:lnAt k.ln n=some x):x∈k.ln:=List.mem_of_getElem? (lnAt_get hx).2
theorem ack_note (hk:KOk N k) {n:Int} {y:Int × Int} (h:(ackL k.ln n).1.1=some y):0≤y.1/\y.1<(k.notes.length:Int):=by
 unfold ackL at h;cases hx:lnAt k.ln n with
 |none=>rw[hx] at h;cases h
 |some x=>
  rw[hx] at h;dsimp only at h;split at h
  ·rename_i e
   cases h;exact hk.lnb x (hk.ln_out hx) (by omega)
  ·split at h<;>cases h
theorem KOk.lns (hk:KOk N k) {l:Lns} (hl:l.length=8) (hb:∀x∈l,x.is≠0->0≤x.note/\x.note<(k.notes.length:Int)):KOk N { k with ln:=l}:=
 hk.same (k':={ k with ln:=l}) rfl rfl rfl ⟨Nat.le_refl _,Nat.le_refl _,Nat.le_refl _,Nat.le_refl _,Nat.le_refl _,Nat.le_refl _,Nat.le_refl _,Nat.le_refl _⟩ hk.inv hl hb hk.u hk.sok hk.nu hk.ne hk.nn hk.ns hk.nf hk.nt hk.el hk.nl
theorem KOk.lnset (hk:KOk N k) {n:Int} {x:Ln} (hx:lnAt k.ln n=some x) (v:Int) (h0:x.is≠0):KOk N { k with ln:=k.ln.set n.toNat { x with is:=v}}:=
 hk.lns (by rw[List.length_set];exact hk.ln) fun y hy hy2=>by
  rcases List.mem_or_eq_of_mem_set hy with hy|hy
  ·exact hk.lnb y hy hy2
  ·rw[hy];exact hk.lnb x (hk.ln_out hx) h0
theorem KOk.ack (hk:KOk N k) {n:Int}:KOk N { k with ln:=(ackL k.ln n).2}:=by
 unfold ackL;cases hx:lnAt k.ln n with
 |none=>exact hk
 |some x=>
  dsimp only;split
  ·exact hk.lnset hx 2 (by omega)
  split
  ·exact hk.lnset hx 1 (by omega)
  ·exact hk
theorem KOk.signal (hk:KOk N k) {n g:Int} (h0:0≤n) (h1:n<(k.notes.length:Int)):KOk (N+1) (k.signal n g).2:=by
 obtain ⟨hp,hpl⟩:=hk.nAt h0 h1;have hs:=signal_le (k.nAt n) g;have hN:=hk.setN (n:=n) (p:=((k.nAt n).signal g).2) (by omega);unfold Ker.signal;split
 ·exact hN
 ·exact hN.setT ((hk.inv.reg _ _ _).resume _) (by rw[resumeR_len,regR_len];exact Nat.le_refl _)
theorem ack_spec {K:Int->Pw} (hk:KOk N k) (hN:N≤200000) (h:Vc.Own B w0 w (BlkA bd (dcells bk d ec wv (-1) fs)::KerA bk k::R))
  (hK:∀w',Vc.Own B w0 w' (BlkA bd (dcells bk d ec wv (k.lined (ackL k.ln d.c.obj)).2.1 fs)::KerA bk (k.lined (ackL k.ln d.c.obj)).2.2::R)->K (k.lined (ackL k.ln d.c.obj)).1 w'):C.qbC (some ⟨bd,0,none⟩) K w:=by
 apply S.qbC0;have hka:=hk.ack (n:=d.c.obj);have hno:=fun y=>ack_note (y:=y) hk (n:=d.c.obj)
 unfold Ker.lined at hK;refine h.dr fun w h=>?_
 obtain ⟨bl,Y,h,hc2,hback⟩:=(h.pick (A:=KerA bk k)).klines;refine ⟨_,rfl,_,h.ldc rfl,_,rfl,_,hc2,_,rfl,_,ld_add (h.ldd rfl),?_,trivial⟩;refine irq_Ack_spec h fun w h=>?_
 have h:=hback _ w _ h;generalize ackL k.ln d.c.obj=P at h hK hka hno⊢;obtain ⟨⟨o,e⟩,l⟩:=P;cases o with
 |none=>exact cbF rfl (hK w h.up1)
 |some y=>
  obtain ⟨n0,n1⟩:=hno y rfl;refine cbT rfl ⟨_,rfl,_,h.ldc rfl,?_⟩;refine signal_spec (n:=y.1) (g:=y.2) hka hN n0 n1 h fun w h=>?_
  refine ⟨_,rfl,?_⟩;refine St_add ?_;refine h.std rfl rfl fun w h=>?_
  (dsimp only[kcells,dcells,putAt,List.set_cons_zero,List.set_cons_succ,Nat.zero_add] at h)
  exact hK w h.up1
end
def ObjA (k:Nat) (o:Obj):Asn where
 holds G w:=G k/\w.heap[k]?=some o
 loc G w w' h hk:=⟨h.1,by rw[hk k h.1];exact h.2⟩
 up G G' w h hk:=⟨hk k h.1,h.2⟩
section
variable {B:Nat} {w0 w:World} {R L:List Asn}
theorem _root_.Go.Vc.Own.obj {k:Nat} {o:Obj} (h:Vc.Own B w0 w (ObjA k o::R)):w.heap[k]?=some o:=h.head fun _ h=>h.2
theorem _root_.Go.Vc.Own.putObj {k:Nat} {o:Obj} (o':Obj) (h:Vc.Own B w0 w (ObjA k o::R)):Vc.Own B w0 (w.putObj k o') (ObjA k o'::R):=by
 have hk:=h.obj;have hlt:k<w.heap.size:=(Array.getElem?_eq_some_iff.1 hk).1;refine h.step fun G hA hG=>⟨⟨rfl,rfl,rfl,by simp,fun j _ hj=>?_⟩,G,⟨hA.1,World.putObj_heap_same hlt⟩,fun j hj=>⟨.inl hj,by have:=(hG j hj).2;simpa using this⟩⟩
 exact World.putObj_heap_other fun e=>hj (by rw[e];exact hA.1)
theorem _root_.Go.Vc.Own.newObj (o:Obj) (h:Vc.Own B w0 w R):Vc.Own B w0 (w.alloc o) (ObjA w.heap.size o::R):=
 h.new (A':=ObjA w.heap.size o) (G':=fun k=>k=w.heap.size) (upd_alloc _ _) ⟨rfl,World.alloc_heap_new _ _⟩ fun k e=>⟨by omega,by rw[e];simp⟩
end
section
variable {F:Fence} {n:Nat} {P:Program} {B:Nat} {w0 w:World} {L:List Asn}
theorem range_own {α:Type} {g:Operand} {ps:Array Tmp} {assign body:Code} {Q:Exit->Act->Pw} {a:Act}
  (hro:F.round=none) (h1:1≤n) {gf:Nat} {lb:Array Value} (hg:a.eval g= .func (.func gf) #[] lb) (hFg:F.fn gf) (eg:∀args w,(callFunc gf args).run P w= .ok (.enter gf args) w)
  (encs:α->Array Value) (hps:∀x,(encs x).size=ps.size) (xs:List α) (I:List α->Asn) (Ax:Act->α->Asn) (Reads:Pw)
  (h0:Vc.Own B w0 w (I []::L))
  (hreads:∀(Z:List Asn) pre V,Vc.Own B w0 V (I pre::Z++L)->Reads V)
  (hseq:∀(l:Nat) (J:List α->Pw) (W:World),
   (∀pre V V',J pre V->Upd No V V'->J pre V')->(∀pre V,J pre V->Reads V)->
   (∀pre x V,J pre V->(pre++ [x]) <+: xs->YieldAt F (n-1-1) P l (encs x) V fun e V'=>e= .returned (.bool true)/\J (pre++ [x]) V')->
   J [] W->CallsIn F (n-1) P gf (#[.func (.yield l) #[] #[]]++lb) W fun e W'=>(∃v,e= .returned v)/\J xs W')
  (hassign:∀(l:Nat) (Z:List Asn) (pre:List α) (x:α) (V:World) (K:Act->Pw),Vc.Own B w0 V (I pre::Z++L)->(∀a' V',Vc.Own B w0 V' (Ax a' x::I pre::Z++L)->K a' V')->
   assign.wpIn (F.inRound l) (n-1-1) P (Exit.then K (fun _ _ _=>False)) { tmps:=(ps.zip (encs x)).foldl (fun t (p,v)=>t.setIfInBounds p v) a.tmps,defers:=[]} V)
  (hbody:∀(l:Nat) (Z:List Asn) (pre:List α) (x:α) (a':Act) (V:World),(pre++ [x]) <+: xs->Vc.Own B w0 V (Ax a' x::I pre::Z++L)->
   body.wpIn (F.inRound l) (n-1-1) P (fun e _ V'=>e= .normal/\Vc.Own B w0 V' (I (pre++ [x])::Z++L)) a' V)
  (hdone:∀(D:Nat) (V:World),Vc.Own B w0 V (ObjA D (.deferred (some []))::I xs::L)->Q .normal { a with defers:={ target:= .collected D,args:= #[]}::a.defers} V):
  (Code.rangeFunc g ps assign body).wpIn F n P Q a w:=by
 refine wpIn_rangeFunc fun fn hfn=>?_
 rw[hro];obtain ⟨rec,hrec⟩:∃rec:LoopState->Loop,rec=fun st=>{ state:=st,pending:=none,fn,tmps:=a.tmps,params:=ps,assign,body,defers:=w.heap.size}:=⟨_,rfl⟩
 obtain ⟨W1,hW1⟩:∃W1,(w.alloc (.deferred (some []))).alloc (.loop (rec .ready))=W1:=⟨_,rfl⟩
 have hO1:Vc.Own B w0 W1 (ObjA (w.heap.size+1) (.loop (rec .ready))::ObjA w.heap.size (.deferred (some []))::I []::L):=by
  have h2:=(h0.newObj (.deferred (some []))).newObj (.loop (rec .ready));rw[hW1,World.size_alloc] at h2;exact h2
 refine ⟨w.heap.size+1,[{ target:= .collected w.heap.size,args:= #[]}],W1,{ target:= .fn (.func gf) lb,args:= #[.func (.yield (w.heap.size+1)) #[] #[]]},W1,gf,
  #[.func (.yield (w.heap.size+1)) #[] #[]]++lb,W1,?_,?_,?_,?_,fun _=>h1,?_⟩
 ·rw[←hW1,hrec];exact run_enterLoop_outer _ _ _ _ _
 ·simp only[resolve,hg]
  simp[go_sem]
 ·intro f' hf';simp[Target.leads] at hf';subst hf';exact hFg
 ·simp[invoke,go_sem,eg]
 generalize w.heap.size+1=l at hO1⊢;generalize w.heap.size=D at hO1 hrec⊢;refine (hseq l (fun pre V=>Vc.Own B w0 V (ObjA l (.loop (rec .ready))::ObjA D (.deferred (some []))::I pre::L)) W1 ?_ ?_ ?_ hO1).mono ?_
 ·exact fun pre V V' h hu=>h.same hu
 ·exact fun pre V h=>hreads [ObjA l (.loop (rec .ready)),ObjA D (.deferred (some []))] pre V h.up2
 ·intro pre x V h hpre
  have hy:=run_yield (P:=P) (args:=encs x) h.obj (by rw[hrec];exact hps x);rw[hrec] at hy;refine ⟨fn,_,assign,body,hy,roundIn_of_wpIn hfn ?_⟩;refine hassign l [ObjA l (.loop (rec .ready)),ObjA D (.deferred (some []))] pre x V _ h.up2 fun a' V' h=>?_
  have h:=h.up2;have hb:=run_beginRound (P:=P) h.obj (by rw[hrec]);refine ⟨_,hb,?_⟩;have h:=h.putObj (.loop { rec .ready with state:= .busy});refine wpIn_mono (hbody l [ObjA l (.loop { rec .ready with state:= .busy}),ObjA D (.deferred (some []))] pre x a' _ hpre ?_) ?_
  ·have h2:=h.perm (List.Perm.swap _ _ _)
   exact h2.perm (List.Perm.cons _ (List.Perm.swap _ _ _))
  ·rintro e a2 V2 ⟨rfl,h⟩
   have h:Vc.Own B w0 V2 (ObjA l (.loop { rec .ready with state:= .busy})::I (pre++ [x])::ObjA D (.deferred (some []))::L):=h.perm (List.Perm.swap _ _ _);have he:=run_endRound (P:=P) none h.obj;refine ⟨_,_,he,rfl,?_⟩;have h:=h.putObj (.loop {({ rec .ready with state:= .busy}:Loop) with state:=if (none:Option Code).isNone then .ready else .done,pending:=none});have e2:({({ rec .ready with state:= .busy}:Loop) with state:=if (none:Option Code).isNone then .ready else .done,pending:=none}:Loop)=rec .ready:=by rw[hrec];rfl
   rw[e2] at h⊢;exact h.perm (List.Perm.cons _ (List.Perm.swap _ _ _))
 ·rintro e W2 ⟨⟨v,rfl⟩,h⟩
  have he:=run_endLoop (P:=P) h.obj (by rw[hrec];simp);rw[show (rec .ready).pending=none from by rw[hrec]] at he;refine ⟨none,_,he,?_⟩;exact hdone D _ (h.putObj _).drop
end
end Go.Proofs.YtogmbmdbgkopjaaGreat
end
section
set_option maxRecDepth 8000
namespace Go.Proofs.YtogmbmdbgkopjaaGreat
open Go Go.Vc Go.Proofs Go.RowKit Go.Shelf
attribute [local go_sem] Oper.semAt_some
def back (S:List Slot):Nat->List (Int × Slot)
 |0=>[]
 |t+1=>back S t++ [((S.length:Int)-1-(t:Int),(S[S.length-1-t]?).getD (0,0))]
theorem back_pre (S:List Slot):∀(d t:Nat),back S t <+: back S (t+d)
 |0,t=>List.prefix_refl _
 |d+1,t=>(back_pre S d t).trans (List.prefix_append _ _)
theorem back_rev (S:List Slot):(back S S.length).map (·.2)=S.reverse:=by
 have h:∀t,t≤S.length->(back S t).map (·.2)=S.reverse.take t:=by
  intro t
  induction t with
  |zero=>intro _;rfl
  |succ t ih=>
   intro ht
   have hx:S.reverse[t]?=some S[S.length-1-t]:=by
    rw[List.getElem?_reverse (by omega)];exact gE (by omega)
   rw[List.take_add_one,hx,←ih (by omega)];simp only[back,List.map_append,List.map_cons,List.map_nil,Option.toList_some];rw[gE (by omega)];rfl
 rw[h _ (Nat.le_refl _),←List.length_reverse,List.take_length]
def bkV (x:Int × Slot):Array Value:= #[.z x.1, .agg #[.z x.2.1, .z x.2.2]]
set_option maxRecDepth 100000 in
set_option maxHeartbeats 2000000 in
theorem back_in (n:Nat) (hn:1≤n) (l box b off len cap:Nat) (S:List Slot) (hS:S.length=len) (hlen:len≤1000000) (J:List (Int × Slot)->Pw)
  (hR:∀pre V,J pre V->V.cell? ⟨box,0,none⟩=some (.slice (some ⟨b,off,none⟩) len cap)/\∀j x,S[j]?=some x->∀u v,[Value.z x.1,Value.z x.2][u]?=some v->V.cell? ((⟨b,off+j*2,none⟩:Addr).add u)=some v)
  (hY:∀pre x V,J pre V->(pre++ [x]) <+: back S len->YieldAt Fence.wide (n-1) Tryz.prog l (bkV x) V fun e V'=>e= .returned (.bool true)/\J (pre++ [x]) V') (W:World) (h0:J [] W):
  CallsIn Fence.wide n Tryz.prog 291 #[.func (.yield l) #[] #[], .pointer (some ⟨box,0,none⟩)] W fun e W'=>(∃v,e= .returned v)/\J (back S len) W':=by
 refine callsIn_of_wp Tryz.func291 rfl trivial ?_ rfl;simp only[Tryz.ntmps291,List.size_toArray,List.length_cons,List.length_nil,Nat.reduceAdd,Nat.reduceSub,Array.replicate_succ,Array.replicate_zero,List.push_toArray,List.append_toArray,List.nil_append,List.cons_append];have hBs:=(hR [] W h0).1
 gi_wp2
 gi_loopw [3] (fun i wr=>∃t:Nat,t≤len/\i= .z ((len:Int)-1-(t:Int))/\J (back S t) wr)
  (fun i _=>(intOf i+1).toNat)
 case atStart=>exact ⟨0,Nat.zero_le _,by simp,h0⟩
 case round=>
  obtain ⟨t,ht,rfl,hJs⟩:=hrel;obtain ⟨hB2,hc2⟩:=hR _ _ hJs;by_cases hlt:t<len
  ·obtain ⟨y,hx⟩:∃y,S[S.length-1-t]?=some y:=⟨_,gE (by omega)⟩
   obtain ⟨j,hj⟩:∃j:Nat,((len:Int)-1-(t:Int))=(j:Int)/\j=S.length-1-t:=⟨S.length-1-t,by omega,rfl⟩
   obtain ⟨fn,tmps,assign,body,hy,hRn⟩:=hY _ ((len:Int)-1-(t:Int),(S[S.length-1-t]?).getD (0,0)) wr hJs (by
    have:=back_pre S (len-(t+1)) (t+1);rw[show t+1+(len-(t+1))=len from by omega] at this;simpa [back,hS] using this)
   rw[hx,Option.getD_some] at hy hRn;dsimp only[bkV] at hy;rw[←hj.2] at hx;have hcx:=hc2 j _ hx;obtain rfl:j=len-1-t:=by omega
   have hj2:=hj.2
   have hcA:wr.cell? ⟨b,off+(len-1-t)*2,none⟩=some (.z y.1):=by
    have:=hcx 0 _ rfl;simpa [Addr.add] using this
   have hcB:wr.cell? ⟨b,off+(len-1-t)*2+1,none⟩=some (.z y.2):=by
    have:=hcx 1 _ rfl;simpa [Addr.add,Nat.add_assoc] using this
   have hj1:=hj.1;clear hj hj2;rw[hj1] at hy⊢
   gi_wp2
   refine hRn.mono ?_;rintro e W3 ⟨rfl,hJ3⟩
   gi_wp2
   go_roundw
   case rel=>exact ⟨t+1,by omega,by simp;omega,(by have hx':S[len-1-t]?=some y:=hx;simpa [back,hS,hx'] using hJ3)⟩
   case measure=>
    show (((len-1-t:Nat):Int)-1+1).toNat<(((len-1-t:Nat):Int)+1).toNat;omega
  ·obtain rfl:t=len:=by omega
   rw[show ((t:Int)-1-(t:Int))= -1 from by omega]
   gi_wp2
   go_end0
   exact ⟨⟨_,rfl⟩,hJs⟩
end Go.Proofs.YtogmbmdbgkopjaaGreat
end
section
set_option maxRecDepth 8000
namespace Go.Proofs.YtogmbmdbgkopjaaGreat
open Go Go.Vc Go.Proofs Go.RowKit Go.Shelf
attribute [local go_sem] Oper.semAt_some
theorem resTmp {P:Program} {e:Env} {w:World}:∀(l:List Nat) (acc:List Value) (k:List Value->Prop),resL P (l.map ResultVar.tmp) e w acc k->
  ∃vs:List Value,vs.length=l.length/\(∀(i t:Nat),l[i]?=some t->∃v,vs[i]?=some v/\e t=some v)/\k (acc.reverse++vs)
 | [],acc,k,h=>⟨[],rfl,fun i t ht=>by simp at ht,by simpa [resL] using h⟩
 |t::l,acc,k,h=>by
  simp only[List.map_cons,resL] at h;split at h
  ·rename_i v hv
   obtain ⟨vs,h1,h2,h3⟩:=resTmp l (v::acc) k h;refine ⟨v::vs,by simp[h1],fun i u hu=>?_,by simpa using h3⟩
   match i,hu with
   |0,hu=>simp at hu;subst hu;exact ⟨v,rfl,hv⟩
   |i+1,hu=>simp at hu;simpa using h2 i u hu
  ·exact h.elim
theorem appC {s:Nat} {x:Sc} {l:List (Nat × Sh)} {K:Tel ((s, .c x)::l)} {e:Env} {w:World} (h:appE ((s, .c x)::l) K e w):∃d:x.D,e s=some (x.mk d)/\appE l (K d) e w:=by
 simp only[appE] at h;split at h
 ·rename_i v hv
  obtain ⟨d,e1,h⟩:=un_out h;exact ⟨d,hv.trans (congrArg some e1),h⟩
 ·exact h.elim
theorem appA5 {e:Env} {w:World} {K:Option Addr->Addr->Int->Sl->Value->Pw} (h:appE codeACs K e w):
  ∃d c t s v,e 0=some (.pointer d)/\e 1=some (.pointer (some c))/\e 2=some (.z t)/\e 3=some (.slice s.a s.len s.cap)/\e 4=some v/\K d c t s v w:=by
 obtain ⟨d,h0,h⟩:=appC h;obtain ⟨c,h1,h⟩:=appC h;obtain ⟨t,h2,h⟩:=appC h;obtain ⟨s,h3,h⟩:=appC h;obtain ⟨v,h4,h⟩:=appC h;exact ⟨d,c,t,s,v,h0,h1,h2,h3,h4,h⟩
section
variable {B:Nat} {w0 w:World} {R L:List Asn} {bd bk:Nat} {k:Ker} {d:Dng} {ec wv wk:Int} {fs:Sl} {N:Nat}
theorem revA_run {K:Option Addr->Addr->Int->Sl->Value->Pw} (h:Vc.Own B w0 w (BlkA bd (dcells bk d ec wv wk fs)::SlT lneE fs []::KerA bk k::R))
  (hK:∀c0 s2 bx w',Vc.Own B w0 w' (BlkA bd (dcells bk d ec wv wk fs)::SlT lneE fs []::KerA bk k::BlkA c0 [.pointer (some ⟨bd,0,none⟩)]::SlT Tr.slotE s2 (Tr.underN k.T d.s)::BlkA bx [.slice s2.a s2.len s2.cap]::R)->
   K (some ⟨bd,0,none⟩) ⟨c0,0,none⟩ 0 s2 (.func (.func 291) #[] #[.pointer (some ⟨bx,0,none⟩)]) w'):S.qdw (some ⟨bd,0,none⟩) K w:=by
 unfold S.qdw;refine h.al fun w1 h=>?_
 generalize w.heap.size=c0 at h⊢;obtain ⟨x,h⟩:=(h.pick (A:=KerA bk k)).ker;refine h.dr fun w h=>?_
 refine ⟨_,h.ldc rfl,_,rfl,_,h.ldc rfl,_,rfl,_,h.ldd rfl,_,h.ldc rfl,_,rfl,?_⟩;refine LdL_add (h.lc_2 rfl ⟨?_,trivial⟩);refine Tr.tree_Under_spec (s:=d.s) (h.pick (A:=Tr.TreeA x.tr k.T)) fun s2 w h=>?_
 apply S.qx0;refine h.al fun w1 h=>?_
 generalize w.heap.size=bx at h⊢;refine hK c0 s2 bx _ ?_;exact ((show Vc.Own B w0 w1 (KerA bk k::BlkA bx [.slice s2.a s2.len s2.cap]::SlT Tr.slotE s2 (Tr.underN k.T d.s)::BlkA c0 [.pointer (some ⟨bd,0,none⟩)]::BlkA bd (dcells bk d ec wv wk fs)::SlT lneE fs []::R) from Vc.Own.mk_ker x h.sub).sub)
theorem gones_snoc:∀(l:List Slot) (s:Slot) (k:Ker),Ker.gones (l++ [s]) k=((Ker.gones l k).1++((Ker.gones l k).2.gone s).1,((Ker.gones l k).2.gone s).2)
 | [],s,k=>by simp[Ker.gones]
 |a::l,s,k=>by
  have:=gones_snoc l s (k.gone a).2;simp only[List.cons_append,Ker.gones,this,List.append_assoc]
theorem revZ_run {K:Int->Pw} {c0 bx:Nat} {s2:Sl} {F:List Lne} {n:Nat} (hn:s2.len=n) (hn2:n≤1000000) (hu:d.c.kind=1->0≤d.c.obj/\d.c.obj<(k.u.length:Int))
  (h:Vc.Own B w0 w (BlkA bd (dcells bk d ec wv wk fs)::SlT lneE fs F::KerA bk k::BlkA c0 [.pointer (some ⟨bd,0,none⟩)]::R))
  (hK:∀w',Vc.Own B w0 w' (BlkA bd (dcells bk d ec (n:Int) wk fs)::SlT lneE fs F::KerA bk (if d.c.kind=1 then k.resetU d.c.obj else k)::R)->K 0 w'):S.qdx (some ⟨bd,0,none⟩) ⟨c0,0,none⟩ 0 s2 K w:=by
 unfold S.qdx;rw[hn,wru (by omega) (by omega)];refine ⟨_,h.ldc rfl,_,rfl,?_⟩;refine St_add (h.std rfl rfl fun w h=>?_)
 (try dsimp only[putAt,List.set_cons_zero,List.set_cons_succ] at h)
 refine ⟨_,h.ldc rfl,_,rfl,_,h.ldd rfl,?_⟩;refine ceq (fun e=>?_) (fun e=>?_)
 ·rw[if_pos e] at hK
  obtain ⟨u0,u1⟩:=hu e
  have hux:k.u[d.c.obj.toNat]?=some (k.uAt d.c.obj):=by
   unfold Ker.uAt;rw[gE (by omega)];rfl
  obtain ⟨x,h⟩:=(h.pick (A:=KerA bk k)).ker;refine h.dr fun w h=>?_
  refine ⟨_,h.ldc rfl,_,rfl,_,h.ldc rfl,_,rfl,x.su,h.ldd rfl,_,h.ldc rfl,_,rfl,_,ld_add (h.ldd rfl),?_⟩;refine h.ixc (s:=x.su) (i:=d.c.obj) (j:=d.c.obj.toNat) (by omega) hux fun a ha _ hcu=>?_
  refine ⟨_,hcu 0 _ rfl,_,hcu 1 _ rfl,_,hcu 2 _ rfl,?_⟩;refine ⟨_,h.ldc rfl,_,rfl,_,h.ldc rfl,_,rfl,x.su,h.ldd rfl,_,h.ldc rfl,_,rfl,_,ld_add (h.ldd rfl),?_,trivial⟩;refine Reset_spec h fun w h=>?_
  refine ⟨ld_add (h.ldd rfl),h.ldc rfl,h.ldd rfl,h.ldc rfl,h.ldc rfl,?_⟩;refine h.ixc (s:=x.su) (i:=d.c.obj) (j:=d.c.obj.toNat) (by omega) hux fun a ha _ _=>⟨?_,trivial⟩
  refine h.stELc (s:=x.su) (xs:=k.u) (i:=d.c.obj) (j:=d.c.obj.toNat) { k.uAt d.c.obj with used:=0} (by omega) (by omega) ha fun w h=>?_
  refine hK w ?_;exact ((show Vc.Own B w0 w (KerA bk (k.resetU d.c.obj)::BlkA bd (dcells bk d ec (n:Int) wk fs)::SlT lneE fs F::R) from Vc.Own.mk_ker x h.sub).sub)
 ·rw[if_neg e] at hK
  exact hK w h.sub
end
end Go.Proofs.YtogmbmdbgkopjaaGreat
end
