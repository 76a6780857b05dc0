/- What the row rests on: the declarations that it needs, out of my texts (part 8). -/
import Derived.Test.YtlhljbbfckbjpaaGreatZo7
import Derived.LoopIn
import Derived.LoopNIn
import Derived.Maps.AppendAt
import Derived.OwnWalkIn
import Derived.RangeFuncBox
import Derived.RangeFuncCalls
import Derived.RangeFuncGives
import Derived.RangeFuncIn
import Derived.RangeFuncLeaves
import Derived.RangeFuncNested
import Derived.RangeFuncRecord
import Derived.RangeFuncSeq
import Derived.Shelf.Abstract
import Derived.Sort.MapsRangeIn
import Derived.TacticsInMore
set_option linter.unusedVariables false
set_option linter.unusedSimpArgs false
set_option linter.unusedSectionVars false
section
namespace Go.Proofs.YtlhljbbfckbjpaaGreat.Sl
open Go Go.Proofs Go.RowKit Go.Shelf
open Go.ChangeMaps (setBlock)
attribute [local go_sem] Oper.semAt_some
section
variable {F:Fence} {n:Nat} {P:Program} (w:World) {ops:Array Oper} {rest:List Oper} {o:Oper} {a:Act} {Q:Exit->Act->Pw}
theorem nD (hg:o.guard=none) (m:Operand) (t:TypeId) (hop:o.op=Op.range t m) {b:Nat} (hm:a.eval m= .map (some b)) {v:Value} {w':World} (hrun:(Instr.range t (.map (some b))).run P w= .ok v w')
  (hK:wpListIn F n P ops Q rest (a.put o.dst v) w'):wpListIn F n P ops Q (o::rest) a w:=by
 refine wpListIn_plain hg fun K' hK'=>?_
 unfold Oper.wpIn;refine ⟨?_, ?_⟩
 ·simp[Oper.about,hop]
 ·rw[Oper.semAt_plain F _ _ (by rw[hop];intro c hc';cases hc')]
  simp[execOp,hop,hm,hrun,Result.andThen];exact hK' _ _ hK
theorem jc (hg:o.guard=none) (it:Operand) (hop:o.op=Op.next it false) {p:Value} (hit:a.eval it=p) {v:Value} {w':World} (hrun:(Instr.next p false o.type).run P w= .ok v w')
  (hK:wpListIn F n P ops Q rest (a.put o.dst v) w'):wpListIn F n P ops Q (o::rest) a w:=by
 refine wpListIn_plain hg fun K' hK'=>?_
 unfold Oper.wpIn;refine ⟨by simp[Oper.about,hop], ?_⟩;rw[Oper.semAt_plain F _ _ (by rw[hop];intro c hc';cases hc')];simp[execOp,hop,hit,hrun,Result.andThen];exact hK' _ _ hK
end
theorem uL:∀(l:List MapEntry) (e:MapEntry),(l.map (·.born)).Nodup->e∈l->l.Perm (e::l.filter fun x=>x.born !=e.born)
 | [],e,_,h=>by simp at h
 |a::l,e,hn,h=>by
  rw[List.map_cons,List.nodup_cons] at hn;rw[List.filter_cons];rcases List.mem_cons.1 h with rfl|h
  ·have:l.filter (fun x=>x.born !=e.born)=l:=List.filter_eq_self.2 fun x hx=>by
    simp only[bne_iff_ne,ne_eq];exact fun e'=>hn.1 (List.mem_map.2 ⟨x,hx,e'⟩)
   simp[this]
  ·have hne:(a.born !=e.born)=true:=by
    simp only[bne_iff_ne,ne_eq];exact fun e'=>hn.1 (List.mem_map.2 ⟨e,h,e'.symm⟩)
   rw[hne,if_pos rfl];exact ((uL l e hn.2 h).cons a).trans (List.Perm.swap _ _ _)
theorem Ca (es:Array MapEntry) (seen:Array Nat) (e:MapEntry):(leftOf es (seen.push e.born)).toList=(leftOf es seen).toList.filter fun x=>x.born !=e.born:=by
 unfold leftOf;rw[Array.toList_filter,Array.toList_filter,List.filter_filter];congr 1;funext x;rw[Array.contains_push];cases hq:(x.born==e.born)<;>simp[bne,hq]
def Ea (b it:Nat) (w:World):Nat:=match w.heap[b]?,w.heap[it]? with
 |some (.map es _),some (.mapIter _ _ seen _)=>(leftOf es seen).size
 |_,_=>0
theorem xP {b it:Nat} {w:World} {es:Array MapEntry} {c:Nat} {m:Option Nat} {since c0:Nat} {seen:Array Nat} (h1:w.heap[b]?=some (.map es c)) (h2:w.heap[it]?=some (.mapIter m since seen c0)):Ea b it w=(leftOf es seen).size:=by
 unfold Ea;rw[h1,h2]
def iZ (x:Int × Int):Value:= .agg #[.z x.1, .z x.2]
def eT (x:Int × Int):List Value:=[.z x.1, .z x.2]
theorem vG (w:World) (x y:Value) (t:TypeId):∀j u,[x,y][j]?=some u->(w.alloc (.cells #[x,y] t)).cell? ((⟨w.heap.size,0,none⟩:Addr).add j)=some u:=by
 intro j u hj
 match j,hj with
 |0,hj=>simp at hj;subst hj;simp[Addr.add]
 |1,hj=>simp at hj;subst hj;simp[Addr.add]
theorem GQ (x:Int × Int):iZ x= .agg #[.z x.1, .z x.2]:=rfl
def H5:Value->Int × Int
 | .agg ⟨[.int _ a, .int _ b]⟩=>(a,b)
 |_=>(0,0)
set_option maxRecDepth 100000 in
set_option maxHeartbeats 2000000 in
theorem D3 (n:Nat) (hn:1≤n) (l Bm b:Nat) (es:Array MapEntry) (c:Nat) (ks:List (Int × Int)) (hks:es.toList.map (·.key)=ks.map iZ) (hborn:(es.toList.map (·.born)).Nodup) (hlt:∀e∈es.toList,e.born<c) (J Jx:List (Int × Int)->Pw)
  (hY:∀pre x W,J pre W->pre.length<ks.length->YieldAt Fence.wide (n-1) Tryz.prog l #[iZ x] W fun e W'=>
   (e= .returned (.bool true)/\J (pre++ [x]) W'/\KeepsWalks W W')∨(e= .returned (.bool false)/\Jx (pre++ [x]) W'))
  (W:World) (hJ:AbidesFrom W.heap.size J) (hm:W.cell? ⟨Bm,0,none⟩=some (.map (some b))) (hb:W.heap[b]?=some (.map es c)) (h0:J [] W):
  CallsIn Fence.wide n Tryz.prog 155 #[.func (.yield l) #[] #[], .pointer (some ⟨Bm,0,none⟩)] W fun e W'=>(∃v,e= .returned v)/\
   ((∃ss:List (Int × Int),ss.Perm ks/\J ss W')∨(∃pre:List (Int × Int),True/\Jx pre W')):=by
 have hblt:b<W.heap.size:=(Array.getElem?_eq_some_iff.1 hb).1;refine callsIn_of_wp Tryz.func155 rfl trivial ?_ rfl;simp only[Tryz.ntmps155,List.size_toArray,List.length_cons,List.length_nil,Nat.reduceAdd,Nat.reduceSub,Array.replicate_succ,Array.replicate_zero,List.push_toArray,List.append_toArray,List.nil_append,List.cons_append];have hrun:=run_range_map (P:=Tryz.prog) W 185 204 207 b es c Tryz.underlying185 hb
 gi_wp2_with (first
  |(gi_at_range;refine nD _ rfl _ 185 rfl rfl hrun ?_)
  |gi_in)
 go_frame
 have hW0:∀k,k<W.heap.size->(W.alloc (.mapIter (some b) c #[] c)).heap[k]?=W.heap[k]?:=fun k hk=>Below.heap_alloc W _ k hk
 gi_loopw [3] (fun _ wr=>∃(ss:List (Int × Int)) (seen:Array Nat) (c0:Nat),wr.heap[b]?=some (.map es c)/\wr.heap[W.heap.size]?=some (.mapIter (some b) c seen c0)/\c≤c0/\(ss.map iZ++(leftOf es seen).toList.map (·.key)).Perm (es.toList.map (·.key))/\J ss wr)
  (fun _ wr=>Ea b W.heap.size wr)
 case atStart=>
  refine ⟨[], #[],c,(hW0 b hblt).trans hb,by show (W.heap.push _)[W.heap.size]?=_;simp,Nat.le_refl _, ?_,hJ [] W _ none h0 (World.grownBy_alloc W _ none) (fun r e=>by cases e)⟩;have:leftOf es #[]=es:=by unfold leftOf;simp
  rw[this];exact List.Perm.refl _
 case round=>
  obtain ⟨ss,seen,c0,hb1,hi1,hc0,hp,hJs⟩:=hrel;rcases run_next_at (P:=Tryz.prog) wr 0 W.heap.size b c c0 seen es c hi1 hb1 hlt hc0 with ⟨hsz,hnx⟩|⟨e,he,w1,hw1,hnx⟩
  ·gi_wp2_with (first
    |(gi_at_next;refine jc _ rfl _ rfl rfl hnx ?_)
    |gi_in)
   go_end0
   have hl:(leftOf es seen).toList= []:=List.eq_nil_of_length_eq_zero (by simpa using hsz);rw[hl,hks] at hp;simp only[List.map_nil,List.append_nil] at hp;have hp2:=hp.map H5;rw[List.map_map,List.map_map] at hp2
   have hid:∀l:List (Int × Int),l.map (H5∘iZ)=l:=fun l=>by
    refine (List.map_congr_left fun x _=>rfl).trans (List.map_id _)
   rw[hid,hid] at hp2;exact ⟨⟨_,rfl⟩, .inl ⟨ss,hp2,hJs⟩⟩
  ·have hmem:e∈es.toList:=by
    have:=Array.mem_toList_iff.1 he;unfold leftOf at this;exact Array.mem_toList_iff.2 (Array.mem_filter.1 this).1
   obtain ⟨x,hx,hkx⟩:∃x∈ks,iZ x=e.key:=by
    have:e.key∈es.toList.map (·.key):=List.mem_map.2 ⟨e,hmem,rfl⟩;rw[hks] at this;obtain ⟨x,hx,h⟩:=List.mem_map.1 this;exact ⟨x,hx,h⟩
   have hne:b≠W.heap.size:=by omega
   have hw1h:w1.heap=wr.heap:=by rcases hw1 with rfl|rfl<;>rfl
   obtain ⟨w2,hw2⟩:∃w2,setBlock w1 W.heap.size (.mapIter (some b) c (seen.push e.born) c)=w2:=⟨_,rfl⟩
   rw[hw2] at hnx;have hilt:W.heap.size<w1.heap.size:=by rw[hw1h];exact (Array.getElem?_eq_some_iff.1 hi1).1
   have hi2:w2.heap[W.heap.size]?=some (.mapIter (some b) c (seen.push e.born) c):=by rw[←hw2];simp[setBlock,Array.getElem?_setIfInBounds_self_of_lt hilt]
   have hb2:w2.heap[b]?=some (.map es c):=by
    rw[←hw2];show (w1.heap.setIfInBounds W.heap.size _)[b]?=_;rw[Array.getElem?_setIfInBounds_ne om,hw1h];exact hb1
   have hen:=run_entry_at (P:=Tryz.prog) w2 W.heap.size b c seen es c e hi2 hb2 hmem hborn
   have hg2:wr.grownBy w2 (some W.heap.size):=by
    rw[←hw2];refine ⟨?_, ?_, ?_, ?_,fun k hk hkr=>?_⟩
    ·rcases hw1 with rfl|rfl<;>rfl
    ·rcases hw1 with rfl|rfl<;>rfl
    ·rcases hw1 with rfl|rfl<;>rfl
    ·show wr.heap.size≤(w1.heap.setIfInBounds W.heap.size _).size
     rw[Array.size_setIfInBounds,hw1h];exact Nat.le_refl _
    ·show (w1.heap.setIfInBounds W.heap.size _)[k]?=_
     rw[Array.getElem?_setIfInBounds_ne (fun e'=>hkr (by rw[e'])),hw1h]
   have hlp:=uL (leftOf es seen).toList e (by
    unfold leftOf;rw[Array.toList_filter];exact hborn.sublist (List.filter_sublist.map _)) he
   rw[←Ca] at hlp
   have hp2:((ss++ [x]).map iZ++(leftOf es (seen.push e.born)).toList.map (·.key)).Perm (es.toList.map (·.key)):=by
    refine List.Perm.trans ?_ hp;rw[List.map_append,List.append_assoc];refine List.Perm.append_left _ ?_;have:=hlp.map (·.key);rw[List.map_cons] at this;show (iZ x::_).Perm _;rw[hkx];exact this.symm
   have hsslt:ss.length<ks.length:=by
    have h1:=hp2.length_eq;have h2:=congrArg List.length hks;simp only[List.length_append,List.length_map,List.length_cons,List.length_nil] at h1 h2;omega
   have hJ2:J ss w2:=hJ ss wr w2 (some W.heap.size) hJs hg2 (fun r e'=>by cases e';exact ⟨Nat.le_refl _,_,hi1,rfl⟩);rw[←hkx,GQ] at hnx hen;obtain ⟨x1,x2⟩:=x;dsimp only at hnx hen;have hb2':(w2.alloc (.cells #[.z x1, .z x2] 204)).heap[b]?=some (.map es c):=(Below.heap_alloc w2 _ b (Array.getElem?_eq_some_iff.1 hb2).1).trans hb2;have hi2':(w2.alloc (.cells #[.z x1, .z x2] 204)).heap[W.heap.size]?=some (.mapIter (some b) c (seen.push e.born) c):=(Below.heap_alloc w2 _ _ (Array.getElem?_eq_some_iff.1 hi2).1).trans hi2;have hJ2':=hJ ss w2 _ none hJ2 (World.grownBy_alloc w2 (.cells #[.z x1, .z x2] 204) none) (fun r e=>by cases e);obtain ⟨fn,tmps,assign,body,hy,hR⟩:=hY ss (x1,x2) _ hJ2' hsslt;rw[GQ] at hy;dsimp only at hy
   have hms:(leftOf es (seen.push e.born)).size<(leftOf es seen).size:=by
    have h1:=hlp.length_eq;simp only[Array.length_toList,List.length_cons] at h1;omega
   clear hw2 hkx
   gi_wp2_with (first
    |(gi_at_next;refine jc _ rfl _ rfl rfl hnx ?_)
    |gi_in)
   refine hR.mono ?_;rintro e2 W3 (⟨rfl,hJ3,hk3⟩|⟨rfl,hJx3⟩)
   ·gi_wp2
    have hb3:=hk3.same b _ hb2' rfl;have hi3:=hk3.same W.heap.size _ hi2' rfl
    go_roundw
    case rel=>exact ⟨ss++ [(x1,x2)],seen.push e.born,c,hb3,hi3,Nat.le_refl _,hp2,hJ3⟩
    case measure=>rw[xP hb3 hi3,xP hb1 hi1];exact hms
   ·gi_wp2
    refine bodyPost_ret (results_none rfl _ _ _) rfl ?_;exact ⟨⟨_,rfl⟩, .inr ⟨ss++ [(x1,x2)],trivial,hJx3⟩⟩
theorem xN (n:Nat) (hn:1≤n) (Bm b:Nat) (es:Array MapEntry) (c:Nat) (ks:List (Int × Int)) (hks:es.toList.map (·.key)=ks.map iZ) (hborn:(es.toList.map (·.born)).Nodup) (hlt:∀e∈es.toList,e.born<c)
  (w:World) (hBm:Bm<w.heap.size) (hm:w.cell? ⟨Bm,0,none⟩=some (.map (some b))) (hb:w.heap[b]?=some (.map es c)):
  SeqStops Fence.wide n Tryz.prog 155 #[.pointer (some ⟨Bm,0,none⟩)] iZ (fun ss=>ss.Perm ks) (fun _=>True) ks.length w:=fun l J Jx W hW hJ _ hY h0=>
 D3 n hn l Bm b es c ks hks hborn hlt J Jx hY W hJ ((hW.cell (p:=⟨Bm,0,none⟩) hBm).trans hm) ((hW.block b (Array.getElem?_eq_some_iff.1 hb).1).trans hb) h0
theorem Ih:(Tryz.prog.info? 204).map (fun i=>(i.zero,i.size,i.bytes))=some (some (.agg #[.z 0, .z 0]),2,16):=by kernel_rfl
set_option maxRecDepth 100000 in
set_option maxHeartbeats 2000000 in
theorem zi (g:Nat) (lb:Array Value) (eg:∀args w,(callFunc g args).run Tryz.prog w= .ok (.enter g args) w) (S:List (Int × Int)->Prop) (N:Nat) (hN:N≤1000000) (w:World) (hseq:SeqStops Fence.wide 1 Tryz.prog g lb iZ S (fun _=>True) N w):
  CallsIn Fence.wide 2 Tryz.prog 203 #[.slice none 0 0, .func (.func g) #[] lb] w fun e w'=>∃(v:Value) (ss:List (Int × Int)),e= .returned v/\S ss/\w'.ownsRow w.heap.size 204 2 v ss.length (ss.flatMap eT)/\Below w.heap.size w w':=by
 obtain ⟨i0,hi,hz0,hz1,hz2⟩:=info_parts Ih;refine callsIn_of_wp_marks Tryz.func203 rfl trivial ?_ rfl;simp only[Tryz.ntmps203,List.size_toArray,List.length_cons,List.length_nil,Nat.reduceAdd,Nat.reduceSub,Array.replicate_succ,Array.replicate_zero,List.push_toArray,List.append_toArray,List.nil_append,List.cons_append]
 gi_wp2
 have bO:=Boxed.new w 236 (.slice none 0 0);have hB0:Below w.heap.size w (w.alloc (.cells #[.slice none 0 0] 236)):=(Below.refl _ w).alloc (Nat.le_refl _) _
 refine wpIn_rangeFunc_ownH (α:=Int × Int) (encs:=fun x=> #[iZ x]) (Kp:=KeepsWalks) rfl (by decide) (gf:=g) (lb:=lb) rfl trivial eg hseq walksK_t walksK_b hB0 (fun _=>rfl)
  (fun (pre:List (Int × Int)) W=>(∃v,Boxed W w.heap.size 236 v/\W.ownsRow w.heap.size 204 2 v pre.length (pre.flatMap eT)/\True)/\Below w.heap.size w W)
  (fun _ _ _=>False)
  (OwnFrom.and (Own.from (holdsRow_own w.heap.size w.heap.size 236 204 2 (fun (pre:List (Int × Int))=>pre.length) (fun (pre:List (Int × Int))=>pre.flatMap eT) (fun (pre:List (Int × Int)) v=>True)) _) (ownFrom_below (Nat.le_refl _) (by simp)))
  (fun _ _ _ _ _ hs _ _=>hs)
  ⟨⟨_,bO,World.ownsRow_nil _ _ _ _,trivial⟩,hB0⟩
  (fun x a' W=>∃p,a'={ tmps:= #[.slice none 0 0, .func (.func g) #[] lb, .pointer (some ⟨w.heap.size,0,none⟩),undef, .slice none 0 0, .pointer (some ⟨p,0,none⟩), .func (.func g) #[] lb, .agg #[.z x.1, .z x.2],undef,undef,undef,undef,undef],defers:=[]}/\W.heap[p]?=some (.cells #[.z x.1, .z x.2] 204 (0,0)))
  (fun x a'=>by
   rintro _ X Y row ⟨p,ha,hp⟩ hg hr;refine ⟨p,ha,(hg.block p (Array.getElem?_eq_some_iff.1 hp).1 fun e=>?_).trans hp⟩;obtain ⟨_,o,ho,hc⟩:=hr p e.symm;rw[hp] at ho;cases ho;cases hc)
  ?assign ?body ?done ?stop
 case assign=>
  rintro l pre ⟨x1,x2⟩ W K ⟨⟨v,hv,hrow,_⟩,hB⟩ hK;dsimp only[iZ]
  gi_wp2
  refine hK _ _ ((KeepsOthers.alloc W _).from _) ⟨(KeepsOthers.alloc W _).size,fun k o h1 h2=>(KeepsOthers.alloc W _).same k o h1 (by cases o<;>simp_all [Obj.isWalk,Obj.isCells])⟩ ⟨⟨v,hv.alloc _,hrow.alloc _,trivial⟩,hB.alloc (by have:=hB.size;omega) _⟩ ⟨_,rfl,World.alloc_heap_new _ _⟩
 case body=>
  rintro l pre ⟨x1,x2⟩ a' W _ _ ⟨⟨v,hv,hrow,_⟩,hB⟩ ⟨p,rfl,hp⟩ hlt;have hc:=hv.cell;have hp0:W.cell? ⟨p,0,none⟩=some (.z x1):=by simp[World.cell?,hp]
  have hp1:W.cell? ⟨p,1,none⟩=some (.z x2):=by simp[World.cell?,hp]
  gi_wp2_with (gi_at_builtin;refine wpListIn_append_own _ rfl _ _ 236 rfl w.heap.size 204 i0 (.agg #[.z 0, .z 0]) 2 16 Tryz.underlying236 hi hz0 hz1 hz2 rfl (by decide) _ _ _ rfl (hrow.alloc _) ⟨W.heap.size,0,none⟩ 1 1 [.z x1, .z x2] rfl rfl (vG _ _ _ _) (by simp[Value.oneCell']) (Nat.le_trans (show pre.length+1≤1000001 by omega) (by decide)) om (by have:=hB.size;simp;omega) ?_;intro v' w1 hown' hgrow _;obtain ⟨g',cap',rfl⟩:=ownsRow_succ hown';obtain ⟨hv1,hv2,hr2,hk2,hb2⟩:=hv.appended (by decide) hrow hB.size (Nat.le_refl _) hown' hgrow;have hc1:=hv1.cell;have hf1:=hv1.frozen)
  exact ⟨hk2.from _,⟨hk2.size,fun k o h1 h2=>hk2.same k o h1 (by cases o<;>simp_all [Obj.isWalk,Obj.isCells])⟩,⟨_,hv2,by rw[List.flatMap_append,List.length_append];exact hr2⟩,hB.trans hb2⟩
 case done=>
  rintro D ys W hD hS ⟨⟨v,hv,hrow,_⟩,hB⟩ hK;have hc:=hv.cell
  gi_wp2
  refine ⟨by simp, .inl ⟨_,_,rfl,run_takeDeferred hK, ?_⟩⟩;exact ⟨_,results_tmp rfl _ _ _,v,ys,rfl,hS,ownsRow_putObj hrow _ hK rfl,hB.trans (belowK_b (w:=w) (Nat.le_refl _) W D _ _ (by simp at hD;omega) hK rfl rfl)⟩
 case stop=>
  rintro D c pre W _ _ h _;exact h.elim
end Go.Proofs.YtlhljbbfckbjpaaGreat.Sl
end
section
set_option maxRecDepth 8000
namespace Go.Proofs.YtlhljbbfckbjpaaGreat.Sl
open Go Go.Vc Go.Proofs Go.Shelf
def mR (x y:Int):Int:=if x<y then -1 else if y<x then 1 else 0
def vI (a b:Slot):Int:=if mR a.1 b.1≠0 then mR a.1 b.1 else mR a.2 b.2
def tG (a b:Slot):Bool:=decide (a.1<b.1∨(a.1=b.1/\a.2<b.2))
theorem gr (a b:Slot):Go.Proofs.ltOf vI a b=tG a b:=by
 unfold Go.Proofs.ltOf tG vI mR;rw[decide_eq_decide];by_cases h1:a.1<b.1
 ·simp[h1]
 ·by_cases h2:b.1<a.1
  ·simp[h1,h2];omega
  ·have:a.1=b.1:=by omega
   simp[h1,h2,this];by_cases h3:a.2<b.2
   ·simp[h3]
   ·by_cases h4:b.2<a.2<;>simp[h3,h4]
theorem Jc:Go.Sort.SWO (Go.Proofs.ltOf vI) where
 irrefl x:=by rw[gr];simp[tG]
 trans x y z h1 h2:=by rw[gr] at *;simp only[tG,decide_eq_true_eq] at *;omega
 ntrans x y z h1 h2:=by rw[gr] at *;simp only[tG,decide_eq_false_iff_not] at *;omega
theorem Jd (x y:Slot) (h1:Go.Proofs.ltOf vI x y=false) (h2:Go.Proofs.ltOf vI y x=false):x=y:=by
 rw[gr] at*
 simp only[tG,decide_eq_false_iff_not] at*
 exact Prod.ext om om
theorem lh {x:Int} {K:Bool->Pw} {w:World} (h:K false w):C.qcs x K w:=by
 apply S.qcs0;rw[show (x !=x)=false from by simp];exact h
theorem jw {x y:Int} {K:Int->Pw} {w:World} (h:K (mR x y) w):C.qbP x y K w:=by
 apply S.qbP0;refine lh (lh ?_);refine bC rfl (bC rfl ?_);by_cases h1:x<y
 ·refine aR h1 ?_
  rwa [show mR x y= -1 from by unfold mR;rw[if_pos h1]] at h
 ·refine aD h1 ?_
  by_cases h2:x>y
  ·refine aR h2 ?_
   rwa [show mR x y=1 from by unfold mR;rw[if_neg h1,if_pos h2]] at h
  ·refine aD h2 ?_
   rwa [show mR x y=0 from by unfold mR;rw[if_neg h1,if_neg h2]] at h
theorem xt {p:Nat} {x y:Int} {K:Int->Pw} {w:World} (h0:w.cell? ⟨p,0,none⟩=some (.z x)) (h1:w.cell? ⟨p,1,none⟩=some (.z y)) (h:K (if x≠0 then x else y) w):C.qdu ⟨some ⟨p,0,none⟩,2,2⟩ K w:=by
 apply S.qdu0;intro l2 hl2;apply hl2;refine aR (show (0:Int)<((2:Nat):Int) by decide) ?_;refine ⟨_,rfl,(show (0:Int)≤0 by decide),(show (0:Int)<((2:Nat):Int) by decide),x,h0, ?_⟩;by_cases e:x=0
 ·subst e
  refine bC rfl ?_;rw[show IntKind.i64.wrap ((0:Int)+1)=1 from by decide];apply hl2;refine aR (show (1:Int)<((2:Nat):Int) by decide) ?_;refine ⟨_,rfl,(show (0:Int)≤1 by decide),(show (1:Int)<((2:Nat):Int) by decide),y,h1, ?_⟩;rw[if_neg (by simp)] at h;by_cases e2:y=0
  ·subst e2
   refine bC rfl ?_;rw[show IntKind.i64.wrap ((1:Int)+1)=2 from by decide];apply hl2;refine aD (show ¬(2:Int)<((2:Nat):Int) by decide) ?_;exact h
  ·exact bP (by simpa using e2) h
 ·rw[if_pos e] at h
  exact bP (by simpa using e) h
theorem cell_of {w:World} {b:Nat} {l:List Value} {t:TypeId} (h:w.heap[b]?=some (.cells ⟨l⟩ t)) {o:Nat} {v:Value} (hv:l[o]?=some v):w.cell? ⟨b,o,none⟩=some v:=by
 simp[World.cell?,h,hv]
theorem zJ (a b:Slot) (w:World):C.qdA a.1 a.2 b.1 b.2 (fun r w'=>r=vI a b/\∃q os',w'=Go.Sort.grow (w.drewN q) os') w:=by
 apply S.qdA0;unfold S.qdA
 have hA:(((w.alloc (.cells #[.z a.1, .z a.2] 204)).alloc (.cells #[.z b.1, .z b.2] 204)).drew).heap[w.heap.size]?=some (.cells #[.z a.1, .z a.2] 204):=
  (RowKit.Below.heap_alloc (w.alloc (.cells #[.z a.1, .z a.2] 204)) _ w.heap.size (by rw[World.size_alloc];omega)).trans (World.alloc_heap_new w _)
 have hB:(((w.alloc (.cells #[.z a.1, .z a.2] 204)).alloc (.cells #[.z b.1, .z b.2] 204)).drew).heap[(w.alloc (.cells #[.z a.1, .z a.2] 204)).heap.size]?=some (.cells #[.z b.1, .z b.2] 204):=World.alloc_heap_new _ _;refine ⟨a.1,cell_of hA rfl,b.1,cell_of hB rfl,a.2,cell_of (o:=0+1) hA rfl,b.2,cell_of (o:=0+1) hB rfl, ?_,trivial⟩;refine jw ⟨cell_of (o:=0+1) hB rfl,cell_of (o:=0+1) hA rfl, ?_,trivial⟩;refine jw ⟨⟨?_,trivial⟩,trivial⟩;refine xt (x:=mR a.1 b.1) (y:=mR a.2 b.2) (cell_of (World.alloc_heap_new _ _) rfl) (cell_of (World.alloc_heap_new _ _) rfl) ⟨rfl,1, #[.cells #[.z a.1, .z a.2] 204, .cells #[.z b.1, .z b.2] 204, .cells #[.z (mR a.1 b.1), .z (mR a.2 b.2)] 3], ?_⟩;show World.mk _ _ _ _ _=World.mk _ _ _ _ _;congr 1
theorem FV (tV off size:Nat) (w:World):CmpLays Tryz.prog 114 #[] eT 2 vI tV off size w:=fun m os dk _ x y=>
 (rP (zJ x y _)).mono fun e w' ⟨r,he,hr,hw⟩=>⟨by rw[he,hr],hw⟩
def bw:cP Slot:=⟨2,eT,fun _=>rfl,fun x v h=>by
 simp only[eT,List.mem_cons,List.not_mem_nil,or_false] at h;rcases h with rfl|rfl<;>rfl,by decide⟩
theorem nV {α:Type} [Inhabited α] (enc:α->List Value) (k:Nat) (hk:∀x,(enc x).length=k) (k0:0<k):∀(l:List α) (t:Nat),t<l.length*k->(l.flatMap enc)[t]?=some (enc (l.toArray[t / k]!))[t%k]!
 | [],t,h=>by simp at h
 |x::l,t,h=>by
  rw[List.flatMap_cons];by_cases e:t<k
  ·rw[List.getElem?_append_left (by rw[hk];exact e),Nat.div_eq_of_lt e,Nat.mod_eq_of_lt e]
   have:t<(enc x).length:=by rw[hk];exact e
   rw[gE this];congr 1;simp[this]
  ·obtain ⟨u,rfl⟩:∃u,t=k+u:=⟨t-k,om⟩
   have hu:u<l.length*k:=by
    rw[List.length_cons,Nat.add_mul,Nat.one_mul] at h;omega
   rw[List.getElem?_append_right (by rw[hk];omega),hk,show k+u-k=u from by omega,nV enc k hk k0 l u hu];rw[Nat.add_comm k u,Nat.add_div_right _ k0,Nat.add_mod_right];have hq:u / k<l.length:=Nat.div_lt_of_lt_mul (by rw[Nat.mul_comm];exact hu);congr 3;simp[hq]
theorem zo {α:Type} [Inhabited α] (enc:α->List Value) (k:Nat) (hk:∀x,(enc x).length=k) (k0:0<k) (l:List α):Go.Sort.flatK enc k l.toArray=(l.flatMap enc).toArray:=by
 have hl:(l.flatMap enc).length=l.length*k:=by
  clear k0
  induction l with
  |nil=>simp
  |cons x l ih=>rw[List.flatMap_cons,List.length_append,ih,hk,List.length_cons,Nat.add_mul];omega
 refine Go.Sort.ext_get! (by rw[Go.Sort.size_flatK];simp only[List.size_toArray];exact hl.symm) fun t ht=>?_
 rw[Go.Sort.size_flatK] at ht;rw[Go.Sort.get_flatK _ _ _ _ ht];have:=nV enc k hk k0 l t (by simpa using ht);simp[List.getElem!_eq_getElem?_getD,this]
def Il (x y:Slot):Bool:= !(Go.Proofs.ltOf vI) y x
def fA (xs:List Slot):List Slot:=xs.mergeSort Il
section
variable {B:Nat} {w0 w:World} {R L:List az}
theorem tP {s:Sl} {xs:List Slot} {K:Pw} (h:Ow B w0 w (af bw s xs::R)) (hsz:xs.length<4611686018427387904) (hK:∀w',Ow B w0 w' (af bw s (fA xs)::R)->K w'):
  C.qcm s (.func (.func 114) #[] #[]) K w:=by
 have hs:=h.u9 0 rfl;have hlen:=h.len 0 rfl;unfold C.qcm;refine kg Tryz.func154 rfl ?_;obtain ⟨a,n,cap⟩:=s;dsimp only at hlen;subst hlen;cases hs with
 |nil ha hl hc hcs=>
  dsimp only at ha hl hc;subst ha;subst hc;have:xs= []:=List.eq_nil_of_length_eq_zero hl;subst this;refine (AnyF.slices_SortFunc_none Tryz.vb none 0 _ w).mono ?_;rintro e w' ⟨rfl,rfl⟩;exact ⟨rfl,hK _ (by rw[show fA []= [] from List.mergeSort_nil];exact h)⟩
 |mk b o l ha hb hl hc hcs=>
  dsimp only at ha hl hc hcs;subst ha;obtain ⟨t,ht⟩:=hb;have hblk:b<w.heap.size:=(Array.getElem?_eq_some_iff.1 ht).1;have hfl:∀ys:List Slot,Go.Sort.flatK eT 2 ys.toArray=(ys.flatMap eT).toArray:=zo eT 2 (fun _=>rfl) (by decide);have hfl2:∀ys:List Slot,(ys.flatMap eT).length=ys.length*2:=fun ys=>aK bw ys
  have hcap:xs.length*2≤cap*2:=Nat.mul_le_mul_right 2 hl;have hc:o+cap*2≤l.length:=hc
  have hH:Go.Sort.HoldsK eT 2 w b o xs.toArray:=by
   unfold Go.Sort.HoldsK;rw[hfl];intro j hj;have hj:j<xs.length*2:=by rw[←hfl2];simpa using hj
   have hcj:(xs.flatMap eT)[j]?=l[o+j]?:=by
    have hcs:xs.flatMap eT=(l.drop o).take (xs.length*2):=hcs;rw[hcs,List.getElem?_take,if_pos hj,List.getElem?_drop]
   have hjl:j<(xs.flatMap eT).length:=by rw[hfl2];exact hj
   refine ⟨?_, ?_⟩
   ·have h1:l[o+j]?=some (xs.flatMap eT)[j]:=by rw[←hcj,gE hjl]
    rw[cell_of ht h1];simp only[id,List.getElem!_toArray,List.getElem!_eq_getElem?_getD,gE hjl,Option.getD_some]
   ·simp[World.frozen?,ht]
  refine (AnyQ.slices_SortFunc_total Tryz.vb 2 Tryz.isAgg204 Tryz.sizeOf204 eT (fun _=>rfl) bw.one vI Jc 114 #[] b o cap xs.toArray w (enters_of Tryz.func114 (by kernel_rfl) rfl) (FV b o _ w) hH hblk (by simpa using hsz) Jd).mono ?_;rintro e w' ⟨rfl,q,os,hw'⟩;refine ⟨rfl,hK _ ?_⟩;have hperm:(fA xs).Perm xs:=List.mergeSort_perm _ _;have hsl:(fA xs).length=xs.length:=hperm.length_eq
  have hw':w'=Go.Sort.grow (Go.Sort.mapBlock (Go.Sort.ahead w q) b (Go.Sort.putCells id o ((fA xs).flatMap eT).toArray)) os:=by
   rw[hw',←hfl];rfl
  have hheap:w'.heap=(w.heap.modify b (Go.Sort.onCells (Go.Sort.putCells id o ((fA xs).flatMap eT).toArray)))++os:=by rw[hw'];rfl
  have hu:fL (fun k=>k=b) w w':=by
   refine ⟨by rw[hw'];rfl,by rw[hw'];rfl,by rw[hw'];rfl,by rw[hheap];simp,fun k hk hn=>?_⟩;rw[hheap,Array.getElem?_append_left (by simpa using hk),Array.getElem?_modify,if_neg (fun e=>hn e.symm)]
  have hblk':w'.heap[b]?=some (.cells (Go.Sort.putCells id o ((fA xs).flatMap eT).toArray ⟨l⟩) t):=by
   rw[hheap,Array.getElem?_append_left (by simpa using hblk),Array.getElem?_modify,if_pos rfl,ht];rfl
  refine h.step fun G hA hG=>?_
  have hGb:G b:=hA.1 _ rfl;refine ⟨hu.mono fun k _ e=>by rw[e];exact hGb,G,⟨hA.1,hsl.symm, ?_⟩,fun k hk=>⟨.inl hk,by have:=(hG k hk).2;have:=hu.size;omega⟩⟩;refine .mk b o (Go.Sort.putCells id o ((fA xs).flatMap eT).toArray ⟨l⟩).toList rfl ⟨t,hblk'⟩ hl ?_ ?_
  ·show o+cap*2≤_
   rw[Array.length_toList];unfold Go.Sort.putCells;rw[Array.size_mapIdx];exact hc
  ·show (fA xs).flatMap eT=(List.drop o _).take (xs.length*2)
   refine List.ext_getElem? fun j=>?_
   rw[List.getElem?_take];by_cases hj:j<xs.length*2
   ·rw[if_pos hj,List.getElem?_drop]
    have hjs:j<((fA xs).flatMap eT).length:=by rw[hfl2,hsl];exact hj
    have hoj:o+j<l.length:=by omega
    unfold Go.Sort.putCells;rw[Array.toList_mapIdx,List.getElem?_mapIdx,gE hjs,show (Array.mk l).toList[o+j]?=some (l[o+j]'hoj) from gE hoj,Option.map_some,if_pos ⟨om,by simp only[List.size_toArray];omega⟩,show o+j-o=j from by omega];simp only[id,List.getElem!_toArray,List.getElem!_eq_getElem?_getD,gE hjs,Option.getD_some]
   ·rw[if_neg hj,List.getElem?_eq_none (by rw[hfl2,hsl];omega)]
end
theorem wm:∀(n:Nat) (l:List Int),l.Nodup->(∀x∈l,0≤x/\x<(n:Int))->l.length≤n
 |0,l,_,h=>by
  cases l with
  |nil=>simp
  |cons a l=>have:=h a (by simp);omega
 |n+1,l,hn,h=>by
  have h1:=wm n (l.filter fun x=>x !=(n:Int)) (hn.sublist List.filter_sublist) fun x hx=>by
   have h2:=List.mem_filter.1 hx;have h3:=h x h2.1;have h4:x≠(n:Int):=by simpa using h2.2
   omega
  have h2:l.length≤(l.filter fun x=>x !=(n:Int)).length+1:=by
   clear h1 h
   induction l with
   |nil=>simp
   |cons a l ih=>
    rw[List.nodup_cons] at hn;by_cases e:a=(n:Int)
    ·have:l.filter (fun x=>x !=(n:Int))=l:=by
      rw[List.filter_eq_self];intro x hx;have:x≠(n:Int):=fun e2=>hn.1 (by rw[e,←e2];exact hx)
      simpa using this
     rw[List.filter_cons_of_neg (by simp[e]),this,List.length_cons];exact Nat.le_refl _
    ·rw[List.filter_cons_of_pos (by simpa using e),List.length_cons,List.length_cons]
     have:=ih hn.2;omega
  omega
theorem uR {x y z:Slot} (h1:tG x y=true) (h2:tG y z=true):tG x z=true:=by
 simp only[tG,decide_eq_true_eq] at *;omega
theorem mY {x:Slot} (h:tG x x=true):False:=by simp[tG] at h
theorem F8 {x y:Slot} (h:x≠y):tG x y=true∨tG y x=true:=by
 simp only[tG,decide_eq_true_eq];by_cases e:x.1=y.1
 ·have:x.2≠y.2:=fun e2=>h (Prod.ext e e2)
  omega
 ·omega
theorem fF (xs:List Slot):(fA xs).Perm xs:=List.mergeSort_perm _ _
theorem kp {xs:List Slot} (hn:xs.Nodup):(fA xs).Pairwise (fun x y=>tG x y=true):=by
 have h1:(fA xs).Pairwise (fun x y=>Il x y=true):=by
  refine List.pairwise_mergeSort (fun a b c h1 h2=>?_) (fun a b=>?_) _
  ·simp only[Il,gr,tG,Bool.not_eq_true',decide_eq_false_iff_not] at *;omega
  ·simp only[Il,gr,tG,Bool.or_eq_true,Bool.not_eq_true',decide_eq_false_iff_not];omega
 have h2:(fA xs).Pairwise (fun x y=>x≠y):=(fF xs).nodup_iff.2 hn;refine (h1.and h2).imp fun {x y} h=>?_
 rcases F8 h.2 with e|e
 ·exact e
 ·have:=h.1
  simp only[Il,gr,e] at this;cases this
structure kR (H:Hs) (hs:List (Slot × dj)):Prop where
 rh:hs.Pairwise (fun x y=>tG x.1 y.1=true)
 mem:∀k c,(k,c)∈hs↔H k=some c
theorem kR.nodup {H:Hs} {hs:List (Slot × dj)} (h:kR H hs):hs.Nodup:=h.rh.imp fun {x y} h e=>by rw[e] at h;exact mY h
theorem kR.uniq {H:Hs} {hs hs':List (Slot × dj)} (h:kR H hs) (h':kR H hs'):hs=hs':=by
 have hp:hs.Perm hs':=(List.perm_ext_iff_of_nodup h.nodup h'.nodup).2 fun x=>by
  rw[show x=(x.1,x.2) from rfl,h.mem,h'.mem]
 refine List.Perm.eq_of_pairwise (le:=fun x y=>tG x.1 y.1=true) (fun a b _ _ h1 h2=>(mY (uR h1 h2)).elim) h.rh h'.rh hp
theorem xM {M:List (Slot × dj)} {H:Hs} (hn:(M.map (·.1)).Nodup) (hM:∀k,cF M k=H k):kR H ((fA (M.map (·.1))).map fun k=>(k,(H k).getD ay)):=by
 refine ⟨?_,fun k c=>?_⟩
 ·rw[List.pairwise_map];exact kp hn
 ·rw[List.mem_map]
  constructor
  ·rintro ⟨k',hk,e⟩
   cases e;have hk:=(fF _).mem_iff.1 hk;cases e:H k with
   |none=>rw[←hM] at e;exact absurd hk (fc.1 e)
   |some c=>rfl
  ·intro e
   refine ⟨k,(fF _).mem_iff.2 ?_,by rw[e];rfl⟩;rw[←hM] at e;exact List.mem_map.2 ⟨_,od e,rfl⟩
theorem tO.bound {bits:List Int} {H:Hs} (h:tO bits H) {k:Slot} {c:dj} (e:H k=some c):0≤k.1/\k.1<64/\0≤k.2/\k.2<256:=by
 obtain ⟨ht,_⟩:=h.held k c e;unfold bB at ht;cases hz:eP bits k.1 with
 |none=>rw[hz] at ht;cases ht
 |some z=>
  rw[hz] at ht;simp only[decide_eq_true_eq] at ht;obtain ⟨h0,h1,h2⟩:=ko hz;obtain ⟨r1,r2⟩:=pG h hz;have hlt:k.1.toNat<bits.length:=(List.getElem?_eq_some_iff.1 h1).1;have:=h.gA
  have hp:(2:Int)^z.toNat≤2^8:=by
   have:(2:Nat)^z.toNat≤2^8:=Nat.pow_le_pow_right om om;have h3:(2:Int)^z.toNat=((2^z.toNat:Nat):Int):=by simp
   rw[h3];omega
  omega
theorem DJ {bits:List Int} {M:List (Slot × dj)} {H:Hs} (h:tO bits H) (hn:(M.map (·.1)).Nodup) (hM:∀k,cF M k=H k):M.length≤16384:=by
 have hb:∀k∈M.map (·.1),0≤k.1/\k.1<64/\0≤k.2/\k.2<256:=fun k hk=>by
  cases e:H k with
  |none=>rw[←hM] at e;exact absurd hk (fc.1 e)
  |some c=>exact h.bound e
 have:=wm 16384 ((M.map (·.1)).map fun k=>k.1*256+k.2) (by
  refine List.pairwise_map.2 (List.Pairwise.imp_of_mem (fun {x y} hx hy hne e=>hne ?_) hn);have:=hb x hx;have:=hb y hy;exact Prod.ext om om) fun x hx=>by
  obtain ⟨k,hk,rfl⟩:=List.mem_map.1 hx;have:=hb k hk;omega
 simpa using this
section
variable {B:Nat} {w0 w:World} {R L:List az} {b:Nat} {bits:List Int} {H:Hs}
theorem wg {w':World} {t:TypeId} {v:Value} {xs:List Slot} (h:Ow B w0 w R) (hb:RowKit.Below w.heap.size w w') (hr:w'.ownsRow w.heap.size t 2 v xs.length (xs.flatMap eT)):
  ∃s:Sl,v= .slice s.a s.len s.cap/\Ow B w0 w' (af bw s xs::R):=by
 have hu:fL No w w':=⟨hb.os,hb.tape,hb.output,hb.size,fun k hk _=>hb.block k hk⟩
 rcases hr.2 with ⟨rfl,hz⟩|⟨g,cap,cur,rfl,hbase,hgb,r1,r2,r3,r4⟩
 ·have:xs= []:=List.eq_nil_of_length_eq_zero hz
  subst this;exact ⟨⟨none,0,0⟩,rfl,(h.same hu).dK⟩
 ·refine ⟨⟨some ⟨g,0,none⟩,xs.length,cap⟩,rfl,h.new (A':=af bw ⟨some ⟨g,0,none⟩,xs.length,cap⟩ xs) (G':=fun k=>k=g) hu ⟨fun a ha=>?_,rfl, ?_⟩ fun k e=>?_⟩
  ·cases ha;rfl
  ·refine .mk g 0 cur.toList rfl ⟨t,hgb⟩ r1 ?_ ?_
   ·show 0+cap*2≤cur.toList.length
    rw[Array.length_toList];omega
   ·rw[List.drop_zero];exact r4.symm
  ·subst e
   exact ⟨hbase,(Array.getElem?_eq_some_iff.1 hgb).1⟩
theorem lC {m:Nat} {M:List (Slot × dj)} {K:Sl->Pw} (h:Ow B w0 w L) (i:Nat) (hi:L[i]?=some (jm m M)) (hsz:M.length≤1000000)
  (hK:∀(s:Sl) (w':World),Ow B w0 w' (af bw s (fA (M.map (·.1)))::L)->K s w'):
  C.qc (some m) (fun r5 w6=>C.qJ r5 (.func (.func 114) #[] #[]) K w6) w:=by
 have hM:jd cX jf w m M:=(h.take i hi).head fun _ h=>h.2
 obtain ⟨es,c,hb,hmap,hborn,hlt⟩:=hM.ex
 have hkeys:es.toList.map (·.key)=(M.map (·.1)).map iZ:=by
  have:=congrArg (List.map (·.1)) hmap;rw[List.map_map,List.map_map] at this;rw[List.map_map];exact this
 have hml:(M.map (·.1)).length≤1000000:=by rw[List.length_map];exact hsz
 have hblt:m<w.heap.size:=(Array.getElem?_eq_some_iff.1 hb).1;apply S.qc0;show C.qJ _ _ K (w.alloc _);have h1:Ow B w0 (w.alloc (.cells #[.map (some m)] 185)) L:=h.same (eI _ _);have hseq:=xN 1 (Nat.le_refl _) w.heap.size m es c (M.map (·.1)) hkeys hborn hlt (w.alloc (.cells #[.map (some m)] 185)) (by rw[World.size_alloc];omega) (cell_of (World.alloc_heap_new _ _) rfl) ((RowKit.Below.heap_alloc _ _ m hblt).trans hb);generalize w.alloc (.cells #[.map (some m)] 185)=w1 at h1 hseq;apply S.qJ0;apply S.qaB0;unfold C.qdg;refine kg Tryz.func203 rfl ?_;refine (callsIn_wide (n:=2)).1 ((zi 155 #[.pointer (some ⟨w.heap.size,0,none⟩)] (enters_of Tryz.func155 (by kernel_rfl) rfl) _ _ hml w1 hseq).mono ?_);rintro e w2 ⟨v,ss,rfl,hS,hrow,hbel⟩;obtain ⟨s,rfl,h2⟩:=wg h1 hbel hrow;refine ⟨s,rfl, ?_⟩;have hsl:ss.length≤1000000:=by rw[hS.length_eq];exact hml
 refine tP h2 om fun w3 h3=>?_
 have:fA ss=fA (M.map (·.1)):=by
  have hn:ss.Nodup:=hS.nodup_iff.2 hM.nodup;refine List.Perm.eq_of_pairwise (le:=fun x y=>tG x y=true) (fun a b _ _ h1 h2=>(mY (uR h1 h2)).elim) (kp hn) (kp hM.nodup) ?_;exact (fF _).trans (hS.trans (fF _).symm)
 rw[this] at h3;exact hK s w3 h3
theorem BE {s:Sl} {ys:List (Slot × dj)} {y:Slot × dj} {c:Nat} {L:List az} {k:Sl->Pw} [I:bM s L (Slot × dj) gX ys] [J:dw (af gX s ys) L R] (h:Ow B w0 w (aa c [.z y.1.1, .z y.1.2, .z y.2.kind, .z y.2.obj, .z y.2.au, .y y.2.aB, .y y.2.guard, .z y.2.bits]::L)) (hbig:ys.length≤1000000000)
  (hk:∀s' w',s'.len=ys.length+1->Ow B w0 w' (af gX s' (ys++ [y])::R)->k s' w'):
  ∃s' w',bp Tryz.prog [79,79] 79 (.slice s.a s.len s.cap) (.slice (some (Addr.mk c 0 none)) 1 1) w s' w'/\k s' w':=
 Ow.fx (E:=gX) (y:=y) Tryz.underlying79 (show Tryz.prog.info? 243=some Tryz.t243 from by kernel_rfl) (zv:=(Tryz.t243.zero).get (by kernel_rfl)) (by kernel_rfl) (by kernel_rfl) (by kernel_rfl) (by decide) h (by
  have e:Tryz.t243.bytes=64:=by kernel_rfl
  rw[e];omega) hk
theorem I0 {w:World} {A:Addr} {x:Slot} {f:Int->Int->Prop} (g:∀c v,(bw.enc x)[c]?=some v->w.cell? (A.add c)=some v) (hf:f x.1 x.2):aA w A 0 [.o, .o] f:=
 ⟨_,g 0 _ rfl,_,g 1 _ rfl,hf⟩
theorem ga {K:Sl->Pw} (h:Ow B w0 w (av b bits H::R)) (hK:∀s hs w',kR H hs->Ow B w0 w' (af gX s hs::av b bits H::R)->K s w'):C.qbr (some ⟨b,0,none⟩) K w:=by
 apply S.qbr0;obtain ⟨⟨xs,m,M⟩,hk,hM,h⟩:=h.nodes;dsimp only at hM h;have hnd:=h.zF 2 rfl;have hfew:=DJ hk hnd hM;refine ⟨_,rfl,some m,h.ld 0 rfl rfl, ?_⟩;refine lC h 2 rfl om fun s w h=>?_
 have hih:=xM hnd hM;have hkl:(fA (M.map (·.1))).length=M.length:=by rw[(fF _).length_eq,List.length_map]
 have hkH:∀k∈fA (M.map (·.1)),H k=some ((H k).getD ay):=fun k hk'=>by
  have:=(fF _).mem_iff.1 hk';cases e:H k with
  |none=>rw[←hM] at e;exact absurd this (fc.1 e)
  |some c=>rfl
 generalize fA (M.map (·.1))=ks at h hih hkl hkH;have hlen:=h.br s;intro l8 hl8
 have loop:∀(j t:Nat) (out:Sl) (w:World),t+j=ks.length->Ow B w0 w (af gX out ((ks.take t).map fun k=>(k,(H k).getD ay))::af bw s ks::aa b [eQ xs, .map (some m)]::af aC xs bits::jm m M::R)->l8 out (t:Int) w:=by
  intro j
  induction j with
  |zero=>
   intro t out w ht h;apply hl8;refine aD om ?_;rw[List.take_of_length_le om] at h;exact hK out _ w hih (Ow.dz (Ow.eF (s:=xs) (m:=m) hk hM h.sub))
  |succ j ih=>
   intro t out w ht h;apply hl8;refine aR om ?_;have hx:ks[t]?=some ks[t]:=gE om;refine h.dV (s:=s) (i:=(t:Int)) (j:=t) rfl hx fun a ha h0 hc=>I0 hc ?_
   have hHx:=hkH ks[t] (List.getElem_mem _)
   have hnext:(ks.take (t+1)).map (fun k=>(k,(H k).getD ay))=(ks.take t).map (fun k=>(k,(H k).getD ay))++ [(ks[t],(H ks[t]).getD ay)]:=by
    rw[List.take_add_one,hx,List.map_append];rfl
   generalize (H ks[t]).getD ay=c at hHx hnext;generalize ks[t]=kx at hHx hnext;refine h.a fun d1 w1 h=>?_;refine h.ax rfl rfl fun w2 h=>?_
   refine h.dr fun w3 h=>?_
   refine ⟨_,rfl,some m,h.aq rfl, ?_⟩;refine h.aL rfl ?_;refine h.aL rfl ?_;have hl2:cF M kx=some c:=by rw[hM];exact hHx
   refine ⟨?_,trivial⟩;refine ⟨c.kind,c.obj,c.au,c.aB,c.guard,c.bits,(h.mE Tryz.underlying185 ia 5 rfl hl2).2, ?_⟩;refine h.hd rfl ?_;refine ⟨?_,trivial⟩;refine h.al fun w4 h=>⟨?_,trivial⟩
   generalize w3.heap.size=d3 at h⊢;refine BE (s:=out) (y:=(kx,c)) h (by rw[List.length_map,List.length_take];omega) fun s' w hs' h=>?_
   rw[wI t om];refine ih (t+1) s' w om ?_;rw[hnext];exact h.sub
 exact loop ks.length 0 ⟨none,0,0⟩ w om (Ow.dK h)
end
end Go.Proofs.YtlhljbbfckbjpaaGreat.Sl
end
section
set_option maxRecDepth 8000
namespace Go.Proofs.YtlhljbbfckbjpaaGreat
open Go Go.Vc Go.Proofs
abbrev Slot:=Int × Int
abbrev dj:=Sl.dj
structure Call where
 ask:Int
 at_:Int
 ak:Int
 a:Int
 b:Int
 c:Int
deriving DecidableEq
structure dC where
 space:Int
 aZ:Int
 frame:Int
 au:Int
deriving DecidableEq
structure Told where
 e:Int
 w:Int
 dg:Int
 forget:List dC
deriving DecidableEq
structure ai where
 bits:List Int
 H:Sl.Hs
 T:Tr.Tr
 t:Th.Mt
 ln:wX
 u:List tU
 ends:List kI
 notes:List rI
 ae:List Tb.dv
 bg:Nat
 dN:Nat
structure kQ where
 core:Int
 cur:Int
 call:Call
 s:Slot
 c:dj
namespace ai
def bN (k:ai) (n:Int):dj:=if 0≤n/\n<64 then (k.H (0,n)).getD Sl.ay else Sl.ay
def dB (k:ai) (n kind:Int):Bool:=decide ((k.bN n).kind≠0)&&(decide (kind=0)||decide ((k.bN n).kind=kind))
def fG (k:ai) (w:Int) (n:Nat):Int:=if w<0∨64<w+n then 181 else if (List.range n).any (fun i=>decide ((k.bN (w+(i:Int))).kind≠0)) then 51 else 0
def laid (k:ai) (f t:Slot) (c:dj):ai:={ k with H:=(Sl.pA k.bits k.H t c).2,T:=(Tr.BB k.T f t).2}
def made (k:ai) (core a b:Int) (at_:Nat):Int × ai:=
 if a=1 then ((k.u.length:Int),{ k with u:=k.u++ [⟨at_,b.toNat,0⟩]})
 else if a=2 then ((Sl.gI k.bits b).1,{ k with bits:=(Sl.gI k.bits b).2.2})
 else if a=3 then ((k.t.cU 0 core).1,{ k with t:=(k.t.cU 0 core).2.2})
 else if a=4 then ((k.ends.length:Int),{ k with ends:=k.ends++ [⟨[],false⟩]})
 else if a=5 then ((k.notes.length:Int),{ k with notes:=k.notes++ [⟨0,false,[]⟩]})
 else if a=8 then ((k.ae.length:Int),{ k with ae:=k.ae++ [Tb.kM]})
 else if a=6 then ((k.bg:Int),{ k with bg:=k.bg+1})
 else ((k.dN:Int),{ k with dN:=k.dN+1})
def makes (core a b w:Int) (s:Slot):List Nat->Nat->ai->ai
 | [],_,k=>k
 |at_::r,j,k=>makes core a b w s r (j+1) ((k.made core a b at_).2.laid s (0,w+(j:Int)) ⟨a,(k.made core a b at_).1,7,0,0,0⟩)
def kq (k:ai) (n:Int):tU:=(k.u[n.toNat]?).getD zU
def fo (k:ai) (d:kQ):Int × ai:=
 if (bE (k.kq d.c.obj) d.call.a d.call.b d.call.c).2.2≠0 then ((bE (k.kq d.c.obj) d.call.a d.call.b d.call.c).2.2,k)
 else if k.fG d.call.ak d.call.c.toNat≠0 then (k.fG d.call.ak d.call.c.toNat,k)
 else if (d.call.a=2/\64<(k.bits.length:Int)+d.call.c)∨(d.call.a=3/\64<(k.t.bz.length:Int)+d.call.c) then (2,k)
 else (0,makes d.core d.call.a d.call.b d.call.ak d.s (bE (k.kq d.c.obj) d.call.a d.call.b d.call.c).1 0 { k with u:=k.u.set d.c.obj.toNat (bE (k.kq d.c.obj) d.call.a d.call.b d.call.c).2.1})
def fX (c:dj) (r g:Int):dj × Int:=
 if Sl.ct c≠0 then (Sl.ay,Sl.ct c) else if ¬(0≤r/\r≤7) then (Sl.ay,1)
 else if c.kind=0∨(g≠0/\(Sl.eN c.kind=false∨c.aB≠0)) then (Sl.ay,41)
 else ({ c with au:=if Sl.eD c.kind then dx .i64 c.au r else c.au,aB:=if g≠0 then g else c.aB},0)
def oe (k:ai) (d:kQ):Int × ai:=
 if d.c.kind=1 then (181,k) else if k.fG d.call.ak 1≠0 then (k.fG d.call.ak 1,k)
 else if (fX d.c d.call.a (IntKind.u64.wrap d.call.b)).2≠0 then ((fX d.c d.call.a (IntKind.u64.wrap d.call.b)).2,k)
 else (0,k.laid d.s (0,d.call.ak) (fX d.c d.call.a (IntKind.u64.wrap d.call.b)).1)
def move (k:ai) (d:kQ):Int × ai:=
 if k.fG d.call.ak 1≠0 then (k.fG d.call.ak 1,k)
 else (0,{ k with H:=(Sl.fj k.bits k.H d.s (0,d.call.ak)).2,T:=(Tr.fj k.T d.s (0,d.call.ak)).2})
def dY (k:ai) (id:Int):ai:={ k with ends:=k.ends.map (·.cancel id),notes:=k.notes.map (·.cancel id)}
def bH (i:Nat) (P:Tb.fp):List dC:=P.map fun x=>⟨(i:Int),x.1,x.2.1,x.2.2⟩
def bj (f:Int):Nat->List Tb.dv->List dC × List Tb.dv
 |_,[]=>([],[])
 |i,m::r=>(bH i (m.pg.filter fun x=>x.2.1==f)++(bj f (i+1) r).1,{ m with pg:=m.pg.filter fun x=> !(x.2.1==f)}::(bj f (i+1) r).2)
def dt (n:Int) (i:Nat):Nat->Nat->Tb.dv->List dC × Tb.dv
 |0,_,m=>([],m)
 |q+1,j,m=>if m.at (j:Int)=some n then (bH i (m.cf (j:Int)).1++(dt n i q (j+1) (m.cf (j:Int)).2.2).1,(dt n i q (j+1) (m.cf (j:Int)).2.2).2)
  else dt n i q (j+1) m
def cO (n:Int):Nat->List Tb.dv->List dC × List Tb.dv
 |_,[]=>([],[])
 |i,m::r=>((dt n i 64 0 m).1++(cO n (i+1) r).1,(dt n i 64 0 m).2::(cO n (i+1) r).2)
def last (k:ai) (c:dj):List dC × ai:=
 if c.kind=3 then ([],{ k.dY c.obj with t:=(k.t.cp c.obj).2})
 else if c.kind=6 then ((bj c.obj 0 k.ae).1,{ k with ae:=(bj c.obj 0 k.ae).2})
 else if c.kind=7 then ((cO c.obj 0 k.ae).1,{ k with ae:=(cO c.obj 0 k.ae).2})
 else ([],k)
def re (a c:dj):Bool:=decide (a.kind≠0)&&(decide (a.kind=c.kind)&&decide (a.obj=c.obj))
def more (k:ai) (c:dj):Bool:=(List.range 64).any fun i=>match k.H (0,(i:Int)) with|some x=>re x c|none=>false
def taken (k:ai) (s:Slot):ai:={ k with H:=Sl.cW k.H s none,T:=(Tr.takeN k.T s).2}
def gone (k:ai) (s:Slot):List dC × ai:=
 if (k.taken s).more ((k.H s).getD Sl.ay) then ([],k.taken s) else (k.taken s).last ((k.H s).getD Sl.ay)
def cg:List Slot->ai->List dC × ai
 | [],k=>([],k)
 |s::r,k=>((k.gone s).1++(cg r (k.gone s).2).1,(cg r (k.gone s).2).2)
def kl (k:ai) (n:Int):ai:={ k with u:=k.u.set n.toNat { k.kq n with used:=0}}
def cr (k:ai) (t:Th.Mt):ai:={ k with t:=t}
def gh (k:ai) (id:Int):Int × Int × ai:=((k.t.cI id).1,if (k.t.cI id).1=0 then id else -1,k.cr (k.t.cI id).2)
def mz (k:ai) (id:Int) (m:Fq):ai:=k.cr ((((k.t.rC id 0 m.aB).2.rC id 1 (IntKind.u64.wrap m.label)).2.rC id 2 m.w0).2)
def rest (k:ai) (d:kQ):ai:=if d.call.c≠0 then k.cr ((k.t.jV d.cur).2.bJ d.core) else k
def iQ (k:ai) (n:Int):kI:=(k.ends[n.toNat]?).getD ⟨[],false⟩
def oK (k:ai) (n:Int):rI:=(k.notes[n.toNat]?).getD ⟨0,false,[]⟩
def iL (k:ai) (n:Int):Tb.dv:=(k.ae[n.toNat]?).getD Tb.kM
def fK (k:ai) (n:Int) (p:kI):ai:={ k with ends:=k.ends.set n.toNat p}
def lO (k:ai) (n:Int) (p:rI):ai:={ k with notes:=k.notes.set n.toNat p}
def jk (k:ai) (n:Int) (p:Tb.dv):ai:={ k with ae:=k.ae.set n.toNat p}
def tell (e:Int) (k:ai):Told × ai:=(⟨e,0, -1,[]⟩,k)
def dT (x:Int × Int × ai):Told × ai:=(⟨x.1,0,x.2.1,[]⟩,x.2.2)
def fy (d:kQ):Fq:=⟨d.call.a,IntKind.u64.wrap d.call.b,0,0,0,d.c.aB,false⟩
def send (k:ai) (d:kQ):Told × ai:=
 if ((k.iQ d.c.obj).send d.cur (fy d) (d.call.c !=0)).2.1≠0 then tell ((k.iQ d.c.obj).send d.cur (fy d) (d.call.c !=0)).2.1 (k.fK d.c.obj ((k.iQ d.c.obj).send d.cur (fy d) (d.call.c !=0)).2.2)
 else if ((k.iQ d.c.obj).send d.cur (fy d) (d.call.c !=0)).1.is=false then tell 0 ((k.fK d.c.obj ((k.iQ d.c.obj).send d.cur (fy d) (d.call.c !=0)).2.2).rest d)
 else dT (((k.fK d.c.obj ((k.iQ d.c.obj).send d.cur (fy d) (d.call.c !=0)).2.2).mz ((k.iQ d.c.obj).send d.cur (fy d) (d.call.c !=0)).1.to ((k.iQ d.c.obj).send d.cur (fy d) (d.call.c !=0)).1.m).gh ((k.iQ d.c.obj).send d.cur (fy d) (d.call.c !=0)).1.to)
def recv (k:ai) (d:kQ):Told × ai:=
 if ((k.iQ d.c.obj).recv d.cur (d.call.c !=0)).2.1≠0 then tell ((k.iQ d.c.obj).recv d.cur (d.call.c !=0)).2.1 (k.fK d.c.obj ((k.iQ d.c.obj).recv d.cur (d.call.c !=0)).2.2)
 else if ((k.iQ d.c.obj).recv d.cur (d.call.c !=0)).1.is=false then tell 0 ((k.fK d.c.obj ((k.iQ d.c.obj).recv d.cur (d.call.c !=0)).2.2).rest d)
 else dT (((k.fK d.c.obj ((k.iQ d.c.obj).recv d.cur (d.call.c !=0)).2.2).mz d.cur ((k.iQ d.c.obj).recv d.cur (d.call.c !=0)).1.m).gh ((k.iQ d.c.obj).recv d.cur (d.call.c !=0)).1.fa)
def bT (k:ai) (n g:Int):Int × ai:=match ((k.oK n).bT g).1 with
 |none=>(-1,k.lO n ((k.oK n).bT g).2)
 |some js=>(js,(k.lO n ((k.oK n).bT g).2).cr (((k.t.rC js 0 g).2.cI js).2))
def wait (k:ai) (d:kQ):Told × ai:=
 if ((k.oK d.c.obj).wait d.cur (d.call.c !=0)).1.2.2≠0 then tell ((k.oK d.c.obj).wait d.cur (d.call.c !=0)).1.2.2 (k.lO d.c.obj ((k.oK d.c.obj).wait d.cur (d.call.c !=0)).2)
 else (⟨0,((k.oK d.c.obj).wait d.cur (d.call.c !=0)).1.1, -1,[]⟩,if ((k.oK d.c.obj).wait d.cur (d.call.c !=0)).1.2.1 then k.lO d.c.obj ((k.oK d.c.obj).wait d.cur (d.call.c !=0)).2 else (k.lO d.c.obj ((k.oK d.c.obj).wait d.cur (d.call.c !=0)).2).rest d)
def table (k:ai) (d:kQ):Told × ai:=
 if k.dB d.call.ak 8=false then tell 181 k
 else tell ((k.iL (k.bN d.call.ak).obj).jn d.call.a d.c.obj).1 (k.jk (k.bN d.call.ak).obj ((k.iL (k.bN d.call.ak).obj).jn d.call.a d.c.obj).2)
def mapped (k:ai) (d:kQ):Told × ai:=
 if k.dB d.call.ak 8=false then tell 181 k
 else tell ((k.iL (k.bN d.call.ak).obj).pf d.call.a (d.c.obj,dx .i64 d.c.au d.call.b)).1 (k.jk (k.bN d.call.ak).obj ((k.iL (k.bN d.call.ak).obj).pf d.call.a (d.c.obj,dx .i64 d.c.au d.call.b)).2)
def mK (k:ai) (d:kQ):Told × ai:=
 (⟨((k.iL d.c.obj).cH d.call.a).2.1,0, -1,if ((k.iL d.c.obj).cH d.call.a).2.1=0 then [⟨d.c.obj,d.call.a,((k.iL d.c.obj).cH d.call.a).1.1,((k.iL d.c.obj).cH d.call.a).1.2⟩] else []⟩,k.jk d.c.obj ((k.iL d.c.obj).cH d.call.a).2.2)
def bind (k:ai) (d:kQ):Told × ai:=
 if k.dB d.call.ak 5=false then tell 181 k
 else tell (sr k.ln d.c.obj (k.bN d.call.ak).obj (k.bN d.call.ak).aB).1 { k with ln:=(sr k.ln d.c.obj (k.bN d.call.ak).obj (k.bN d.call.ak).aB).2}
def gY (k:ai) (r:(Option (Int × Int)× Int)× wX):Int × Int × ai:=match r.1.1 with
 |none=>(r.1.2, -1,{ k with ln:=r.2})
 |some x=>(r.1.2,((ai.bT { k with ln:=r.2} x.1 x.2).1),(ai.bT { k with ln:=r.2} x.1 x.2).2)
def resume (k:ai) (d:kQ):Int × Int × ai:=(if k.t.cQ d.c.obj=true/\(k.t.th d.c.obj).st=3 then k.dY d.c.obj else k).gh d.c.obj
def ji (k:ai) (d:kQ):Told × ai:=
 (⟨0,((Tr.da k.T d.s).length:Int), -1,(cg (Tr.da k.T d.s).reverse k).1⟩,
  if d.c.kind=1 then (cg (Tr.da k.T d.s).reverse k).2.kl d.c.obj else (cg (Tr.da k.T d.s).reverse k).2)
def asks (k:ai) (d:kQ):Told × ai:=match d.call.ask with
 |0=>tell (k.fo d).1 (k.fo d).2
 |1=>tell (k.oe d).1 (k.oe d).2
 |2=>tell (k.move d).1 (k.move d).2
 |3=>if d.call.at_=0 then tell 181 k else (⟨0,0, -1,(k.gone d.s).1⟩,(k.gone d.s).2)
 |4=>k.ji d
 |5=>dT (k.resume d)
 |6=>tell (k.t.cp d.c.obj).1 ((k.dY d.c.obj).cr (k.t.cp d.c.obj).2)
 |7=>tell (k.t.iK d.c.obj d.call.a).1 (k.cr (k.t.iK d.c.obj d.call.a).2)
 |8=>k.send d
 |9=>k.recv d
 |10=>(⟨0,0,(k.bT d.c.obj d.c.aB).1,[]⟩,(k.bT d.c.obj d.c.aB).2)
 |11=>k.wait d
 |12=>k.table d
 |13=>k.mapped d
 |14=>k.mK d
 |15=>k.bind d
 |_=>dT (k.gY (kS k.ln d.c.obj))
def aM (ask:Int):Int × Int:=([(1,0),(0,0),(0,0),(0,0),(0,0),(3,0),(3,0),(3,0),(4,2),(4,1),(5,2),(5,1),(7,0),(6,0),(8,0),(9,0),(9,0),(0,0)][ask.toNat]?).getD (0,0)
def asked (k:ai) (core cur:Int) (c:Call):Told × ai:=
 if k.dB c.at_ (aM c.ask).1=false then tell 181 k
 else if dx .i64 (k.bN c.at_).au (aM c.ask).2≠(aM c.ask).2 then tell 181 k
 else k.asks ⟨core,cur,c,(0,c.at_),k.bN c.at_⟩
def «do» (k:ai) (core:Int) (c:Call):Told × ai:=match (k.t.bJ core).cV core with
 |none=>tell 182 (k.cr (k.t.bJ core))
 |some cur=>if c.ask<0∨18≤c.ask then tell 180 (k.cr (k.t.bJ core))
  else if c.ask=17 then tell 0 (k.cr ((k.t.bJ core).yield core))
  else (k.cr (k.t.bJ core)).asked core cur c
def irq (k:ai) (line:Int):Int × Int × ai:=k.gY (gU k.ln line)
def tick (k:ai) (core:Int):ai:=k.cr (k.t.tick core)
end ai
def ai.fR (k:ai) (c:dj):Prop:=0≤c.obj/\(c.kind=1->c.obj<(k.u.length:Int))/\(c.kind=2->c.obj<(k.bits.length:Int))/\(c.kind=3->c.obj<(k.t.bz.length:Int))/\
 (c.kind=4->c.obj<(k.ends.length:Int))/\(c.kind=5->c.obj<(k.notes.length:Int))/\(c.kind=6->c.obj<(k.bg:Int))/\(c.kind=7->c.obj<(k.dN:Int))/\(c.kind=8->c.obj<(k.ae.length:Int))/\(c.kind=9->c.obj<8)
structure aV (N:Nat) (k:ai):Prop where
 b0:k.bits[0]?=some 6
 pv:Sl.tO k.bits k.H
 held:∀s c,k.H s=some c->(s.1=0/\0≤s.2/\s.2<64)/\k.fR c
 tok:Tr.tT k.T
 mem:∀s,s∈k.T.map (·.1)↔(k.H s).isSome=true
 inv:Th.bG (-1) k.t
 ln:k.ln.length=8
 C1:∀x∈k.ln,x.is≠0->0≤x.note/\x.note<(k.notes.length:Int)
 u:∀x∈k.u,xa x
 z8:∀m∈k.ae,Tb.fM m
 nu:k.u.length≤N
 ne:k.ends.length≤N
 nn:k.notes.length≤N
 ns:k.ae.length≤N
 nf:k.bg≤N
 nt:k.dN≤N
 el:∀p∈k.ends,p.l.length≤N
 nl:∀p∈k.notes,p.l.length≤N
structure Gr (k k':ai):Prop where
 u:k.u.length≤k'.u.length
 b:k.bits.length≤k'.bits.length
 t:k.t.bz.length≤k'.t.bz.length
 e:k.ends.length≤k'.ends.length
 n:k.notes.length≤k'.notes.length
 f:k.bg≤k'.bg
 tb:k.dN≤k'.dN
 s:k.ae.length≤k'.ae.length
theorem Gr.obj {k k':ai} (h:Gr k k') {c:dj} (ho:k.fR c):k'.fR c:=by
 have h1:=h.u;have h2:=h.b;have h3:=h.t;have h4:=h.e;have h5:=h.n;have h6:=h.f;have h7:=h.tb;have h8:=h.s;obtain ⟨o0,o1,o2,o3,o4,o5,o6,o7,o8,o9⟩:=ho;exact ⟨o0,fun e=>by have:=o1 e;omega,fun e=>by have:=o2 e;omega,fun e=>by have:=o3 e;omega,fun e=>by have:=o4 e;omega,fun e=>by have:=o5 e;omega,fun e=>by have:=o6 e;omega,fun e=>by have:=o7 e;omega,fun e=>by have:=o8 e;omega,o9⟩
theorem aV.mono {N M:Nat} {k:ai} (h:aV N k) (hm:N≤M):aV M k:=
 { h with
  nu:=Nat.le_trans h.nu hm,ne:=Nat.le_trans h.ne hm,nn:=Nat.le_trans h.nn hm,ns:=Nat.le_trans h.ns hm,nf:=Nat.le_trans h.nf hm,nt:=Nat.le_trans h.nt hm
  el:=fun p hp=>Nat.le_trans (h.el p hp) hm,nl:=fun p hp=>Nat.le_trans (h.nl p hp) hm}
theorem E2 {bits:List Int} (h:bits[0]?=some 6):Sl.eP bits 0=some 6:=by
 unfold Sl.eP;rw[if_neg (by decide),show ((0:Int).toNat)=0 from rfl,h];rfl
theorem lS {bits:List Int} (h:bits[0]?=some 6) {s:Slot} (hs:s.1=0/\0≤s.2/\s.2<64):Sl.bB bits s=true:=by
 unfold Sl.bB;rw[hs.1,E2 h];exact decide_eq_true ⟨hs.2.1,by show s.2<2^6;omega⟩
theorem u3 {T:Tr.Tr} {s:Slot}:(Tr.bS T s).isSome=true↔s∈T.map (·.1):=by
 unfold Tr.bS;rw[List.findIdx?_isSome,List.any_eq_true,List.mem_map];simp only[decide_eq_true_eq]
theorem sW {T:Tr.Tr} {s:Slot} (h:s∉T.map (·.1)):Tr.bS T s=none:=by
 cases e:Tr.bS T s with
 |none=>rfl
 |some i=>exact absurd (u3.1 (by rw[e];rfl)) h
theorem py {T:Tr.Tr} {s:Slot} (h:s∈T.map (·.1)):∃i,Tr.bS T s=some i:=Option.isSome_iff_exists.1 (u3.2 h)
section
variable {N:Nat} {k:ai}
theorem aV.gA (h:aV N k):k.T.length≤64:=by
 have h1:=Sl.wm 64 ((k.T.map (·.1)).map (·.2)) (by
  refine List.pairwise_map.2 (List.Pairwise.imp_of_mem (fun {x y} hx hy hne e=>hne ?_) h.tok.nd);obtain ⟨c,hc⟩:=Option.isSome_iff_exists.1 ((h.mem x).1 hx);obtain ⟨d,hd⟩:=Option.isSome_iff_exists.1 ((h.mem y).1 hy);exact Prod.ext (by rw[(h.held x c hc).1.1,(h.held y d hd).1.1]) e) fun x hx=>by
  obtain ⟨s,hs,rfl⟩:=List.mem_map.1 hx;obtain ⟨c,hc⟩:=Option.isSome_iff_exists.1 ((h.mem s).1 hs);exact (h.held s c hc).1.2
 simpa using h1
theorem aV.cr (h:aV N k) {t:Th.Mt} (hi:Th.bG (-1) t) (hl:k.t.bz.length≤t.bz.length):aV N (k.cr t):=
 { h with
  inv:=hi
  held:=fun s c hc=>⟨(h.held s c hc).1,Gr.obj (k:=k) (k':=k.cr t) ⟨Nat.le_refl _,Nat.le_refl _,hl,Nat.le_refl _,Nat.le_refl _,Nat.le_refl _,Nat.le_refl _,Nat.le_refl _⟩ (h.held s c hc).2⟩}
theorem aV.put (h:aV N k) {t:Slot} {c:dj} (ht:t.1=0/\0≤t.2/\t.2<64) (hn:k.H t=none) (hc:Sl.ct c=0) (h0:c.kind≠0):Sl.pA k.bits k.H t c=(0,Sl.cW k.H t (some c)):=by
 unfold Sl.pA;rw[lS h.b0 ht,if_neg (by decide),if_neg (by rw[hc];decide),if_neg h0,hn,if_neg (by decide)]
theorem aV.laid (h:aV N k) {f t:Slot} {c:dj} (hf:(k.H f).isSome=true) (ht:t.1=0/\0≤t.2/\t.2<64) (hn:k.H t=none) (hc:Sl.ct c=0) (h0:c.kind≠0) (hr:Sl.hI c) (ho:k.fR c):
  aV N (k.laid f t c)/\(k.laid f t c).H=Sl.cW k.H t (some c):=by
 have hput:=h.put ht hn hc h0;obtain ⟨i,hi⟩:=py ((h.mem f).2 hf);have hno:Tr.bS k.T t=none:=sW fun e=>by rw[h.mem,hn] at e;cases e
 have hT:Tr.BB k.T f t=(0,k.T.take (i+1)++ [(t,Tr.y4 k.T i+1)]++k.T.drop (i+1)):=by unfold Tr.BB;rw[hi];dsimp only;rw[hno]
 have hH:(k.laid f t c).H=Sl.cW k.H t (some c):=by unfold ai.laid;rw[hput]
 have hT2:(k.laid f t c).T=k.T.take (i+1)++ [(t,Tr.y4 k.T i+1)]++k.T.drop (i+1):=by unfold ai.laid;rw[hT]
 have hfew:=h.gA
 refine ⟨{ h with
  pv:=by rw[hH];exact h.pv.put (lS h.b0 ht) hc h0 hr
  held:=fun s x hx=>?_
  tok:=by rw[hT2];exact h.tok.add om hi hno
  mem:=fun s=>?_},hH⟩
 ·rw[hH] at hx
  unfold Sl.cW at hx;by_cases e:s=t
  ·rw[if_pos e] at hx;cases hx;rw[e];exact ⟨ht,ho⟩
  ·rw[if_neg e] at hx;exact h.held s x hx
 ·rw[hH,hT2]
  unfold Sl.cW
  have hm:s∈(k.T.take (i+1)++ [(t,Tr.y4 k.T i+1)]++k.T.drop (i+1)).map (·.1)↔(s=t∨s∈k.T.map (·.1)):=by
   conv=>rhs;rw[←List.take_append_drop (i+1) k.T]
   simp only[List.map_append,List.mem_append,List.map_cons,List.map_nil,List.mem_singleton];constructor
   ·rintro ((h|h)|h)
    ·exact .inr (.inl h)
    ·exact .inl h
    ·exact .inr (.inr h)
   ·rintro (h|h|h)
    ·exact .inl (.inr h)
    ·exact .inl (.inl h)
    ·exact .inr h
  rw[hm];by_cases e:s=t
  ·simp[e]
  ·rw[if_neg e,←h.mem];simp[e]
theorem aV.same (h:aV N k) {k':ai} (hb:k'.bits=k.bits) (hH:k'.H=k.H) (hT:k'.T=k.T) (hg:Gr k k') (hi:Th.bG (-1) k'.t) (hl:k'.ln.length=8) (hlb:∀x∈k'.ln,x.is≠0->0≤x.note/\x.note<(k'.notes.length:Int))
  (hu:∀x∈k'.u,xa x) (hs:∀m∈k'.ae,Tb.fM m) {M:Nat} (nu:k'.u.length≤M) (ne:k'.ends.length≤M) (nn:k'.notes.length≤M) (ns:k'.ae.length≤M) (nf:k'.bg≤M) (nt:k'.dN≤M) (el:∀p∈k'.ends,p.l.length≤M) (nl:∀p∈k'.notes,p.l.length≤M):aV M k':=
 ⟨by rw[hb];exact h.b0,by rw[hb,hH];exact h.pv,fun s c hc=>by rw[hH] at hc;exact ⟨(h.held s c hc).1,hg.obj (h.held s c hc).2⟩,by rw[hT];exact h.tok,fun s=>by rw[hT,hH];exact h.mem s,hi,hl,hlb,hu,hs,nu,ne,nn,ns,nf,nt,el,nl⟩
theorem aV.cap (h:aV N k) {n:Int} (hn:(k.bN n).kind≠0):(0≤n/\n<64)/\k.H (0,n)=some (k.bN n)/\k.fR (k.bN n)/\Sl.hI (k.bN n)/\Sl.ct (k.bN n)=0:=by
 unfold ai.bN at*
 split at hn
 ·rename_i e
  rw[if_pos e];cases hc:k.H (0,n) with
  |none=>rw[hc] at hn;exact absurd rfl hn
  |some c=>exact ⟨e,rfl,(h.held _ c hc).2,(h.pv.held _ c hc).2.2.2,(h.pv.held _ c hc).2.1⟩
 ·exact absurd rfl hn
theorem jA {n kind:Int} (h:k.dB n kind=true):(k.bN n).kind≠0/\(kind≠0->(k.bN n).kind=kind):=by
 unfold ai.dB at h;simp only[Bool.and_eq_true,Bool.or_eq_true,decide_eq_true_eq] at h;exact ⟨h.1,fun e=>h.2.elim (fun h=>absurd h e) id⟩
theorem aV.uE (h:aV N k) {w:Int} {n:Nat} (hf:k.fG w n=0):0≤w/\w+n≤64/\∀i:Nat,i<n->k.H (0,w+(i:Int))=none:=by
 unfold ai.fG at hf;split at hf
 ·cases hf
 rename_i h1;split at hf
 ·cases hf
 rename_i h2;refine ⟨om,om,fun i hi=>?_⟩;cases hc:k.H (0,w+(i:Int)) with
 |none=>rfl
 |some c=>
  exfalso;apply h2;rw[List.any_eq_true];refine ⟨i,List.mem_range.2 hi,decide_eq_true ?_⟩;unfold ai.bN;rw[if_pos om,hc];exact (h.pv.held _ c hc).2.2.1
end
theorem eL {w:World} {b o n i:Nat} {ss:List Sc} {f:sh ss Prop} (h:aA w (Addr.mk b (o+n) none) i ss f):aA w ((Addr.mk b o none).add n) i ss f:=by rw[aI];exact h
theorem Ak {w:World} {b o n i:Nat} {vs:List Value} {k:Pw} (h:aH w (Addr.mk b (o+n) none) i vs k):aH w ((Addr.mk b o none).add n) i vs k:=by rw[aI];exact h
theorem aT {w:World} {b o n m:Nat} {v:Option Value} (h:w.cell? ((Addr.mk b (o+n) none).add m)=v):w.cell? (((Addr.mk b o none).add n).add m)=v:=by rw[aI b o n];exact h
theorem oN {w:World} {b o n m:Nat} {v:Value} {k:Pw} (h:St w ((Addr.mk b (o+n) none).add m) v k):St w (((Addr.mk b o none).add n).add m) v k:=by rw[aI b o n];exact h
structure Kx where
 n:Nat
 tr:Nat
 t:Nat
 ln:Nat
 su:Sl
 se:Sl
 sn:Sl
 ss:Sl
 pe:List Nat
 pn:List Nat
 ps:List Nat
abbrev bm (x:Kx) (fr tb nb nt:Nat):List Value:=[.pointer (some ⟨x.n,0,none⟩), .pointer (some ⟨x.tr,0,none⟩), .pointer (some ⟨x.t,0,none⟩), .pointer (some ⟨x.ln,0,none⟩), .slice x.su.a x.su.len x.su.cap, .slice x.se.a x.se.len x.se.cap, .slice x.sn.a x.sn.len x.sn.cap, .slice x.ss.a x.ss.len x.ss.cap,
 .z (fr:Int), .z (tb:Int), .z (nb:Int), .z (nt:Int)]
def aj (b:Nat) (k:ai):az:=pT fun x:Kx=>bh [aa b (bm x k.bg k.dN k.bits.length k.t.bz.length),Sl.av x.n k.bits k.H,Tr.bA x.tr k.T,Th.aY x.t k.t,bq x.ln k.ln,af fi x.su k.u,af cz x.se x.pe,ar cd x.pe k.ends,af cz x.sn x.pn,ar bF x.pn k.notes,af cz x.ss x.ps,ar Tb.bc x.ps k.ae]
def aw:cP dC:=⟨4,fun o=>[.z o.space, .z o.aZ, .z o.frame, .z o.au],fun _=>rfl,fun x v h=>by
 simp only[List.mem_cons,List.not_mem_nil,or_false] at h;rcases h with rfl|rfl|rfl|rfl<;>rfl,by decide⟩
abbrev ag (bk:Nat) (d:kQ) (e w wk:Int) (fs:Sl):List Value:=[.pointer (some ⟨bk,0,none⟩), .z d.core, .z d.cur, .z d.call.ask, .z d.call.at_, .z d.call.ak, .z d.call.a, .z d.call.b, .z d.call.c,
 .z d.s.1, .z d.s.2, .z d.c.kind, .z d.c.obj, .z d.c.au, .y d.c.aB, .y d.c.guard, .z d.c.bits, .z e, .y w, .z wk, .slice fs.a fs.len fs.cap]
section
variable {B:Nat} {w0 w:World} {R L:List az} {b:Nat} {k:ai}
theorem _root_.Go.Vc.Ow.uJ (h:Ow B w0 w (aj b k::R)):∃x:Kx,Ow B w0 w (aa b (bm x k.bg k.dN k.bits.length k.t.bz.length)::Sl.av x.n k.bits k.H::Tr.bA x.tr k.T::Th.aY x.t k.t::bq x.ln k.ln::af fi x.su k.u::af cz x.se x.pe::ar cd x.pe k.ends::af cz x.sn x.pn::ar bF x.pn k.notes::af cz x.ss x.ps::ar Tb.bc x.ps k.ae::R):=by
 obtain ⟨x,h⟩:=h.ex;exact ⟨x,h.star⟩
theorem _root_.Go.Vc.Ow.bD (x:Kx) {bits:List Int} {H:Sl.Hs} {T:Tr.Tr} {t:Th.Mt} {ln:wX} {u:List tU} {ends:List kI} {notes:List rI} {ae:List Tb.dv} {fr tb:Nat}
  (h:Ow B w0 w (aa b (bm x fr tb bits.length t.bz.length)::Sl.av x.n bits H::Tr.bA x.tr T::Th.aY x.t t::bq x.ln ln::af fi x.su u::af cz x.se x.pe::ar cd x.pe ends::af cz x.sn x.pn::ar bF x.pn notes::af cz x.ss x.ps::ar Tb.bc x.ps ae::R)):
  Ow B w0 w (aj b ⟨bits,H,T,t,ln,u,ends,notes,ae,fr,tb⟩::R):=Ow.eO x (Ow.aX h)
def kE:dj:=⟨2,0,7,0,0,0⟩
theorem va {bits:List Int} {H:Sl.Hs} {n:Nat} (hb:bits[0]?=some 6) (hn:n<64):Sl.oy bits H kE n 6=((0,(n:Int)),0):=by
 have hnode:Sl.mG bits kE=some 6:=by
  unfold Sl.mG;rw[if_neg (by decide),if_neg (by decide)];exact E2 hb
 have hstep:Sl.dq bits n kE 6=(0,(0,(n:Int)),0):=by
  unfold Sl.dq;rw[hnode];dsimp only
  rw[if_neg (show ¬6<kE.bits.toNat by decide),if_neg (show ¬((n / 2^(6-kE.bits.toNat)%2^kE.bits.toNat:Nat):Int)≠kE.guard from fun hh=>hh (by
   show ((n / 64%1:Nat):Int)=0;omega)),if_neg (show ¬(6-kE.bits.toNat<(6:Int).toNat) by decide)]
  have e:n / 2^(6-kE.bits.toNat-(6:Int).toNat)%2^(6:Int).toNat=n:=by
   show n / 1%64=n;omega
  rw[e];rfl
 unfold Sl.oy;rw[if_neg (by decide)];show Sl.ja bits H n 6 kE 6=_;unfold Sl.ja;rw[hstep];rfl
theorem pI {n:Int} {K:Int->Int->Bool->Pw} (hb:k.bits[0]?=some 6) (h:Ow B w0 w (aj b k::R))
  (hK:∀w' (s:Slot) is,(is=true->s=(0,n)/\0≤n/\n<64)->(is=false->¬(0≤n/\n<64))->Ow B w0 w' (aj b k::R)->K s.1 s.2 is w'):C.qao (some ⟨b,0,none⟩) n K w:=by
 apply S.qao0;refine h.a fun c w1 h=>?_;intro k4 hk4
 have bad:¬(0≤n/\n<64)->k4 true w1:=fun e=>by
  apply hk4;refine bP rfl ?_;refine h.ax rfl rfl fun w h=>?_
  (try dsimp only[putAt,List.set_cons_zero,List.set_cons_succ] at h)
  refine h.aL rfl ?_;exact hK w (0,0) false (fun e=>by cases e) (fun _=>e) h.drop
 refine dE (fun e=>bad om) (fun e=>?_);by_cases e2:n≥64
 ·rw[decide_eq_true e2];exact bad om
 rw[decide_eq_false e2];apply hk4;refine bC rfl ?_;obtain ⟨n,rfl⟩:=Int.eq_ofNat_of_zero_le (show 0≤n by omega);refine h.a fun d w2 h=>?_;refine h.ax rfl rfl fun w h=>?_
 (try dsimp only[putAt,List.set_cons_zero,List.set_cons_succ] at h)
 intro k12 hk12
 have fin:∀(s:Nat) (w:World),Ow B w0 w (aa s [.z 0, .z (n:Int)]::aa c [.z 0, .z 0]::aj b k::R)->k12 ⟨s,0,none⟩ 0 w:=fun s w h=>by
  apply hk12;refine h.aL rfl ?_;refine h.ax rfl rfl fun w h=>?_
  (try dsimp only[putAt,List.set_cons_zero,List.set_cons_succ] at h)
  refine h.aL rfl ?_;exact hK w (0,(n:Int)) true (fun _=>⟨rfl,om,om⟩) (fun e=>by cases e) h.drop.drop
 obtain ⟨x,h⟩:=h.nC.uJ;refine h.dr fun w h=>?_
 refine ⟨_,rfl,_,h.aq rfl, ?_⟩;rw[show IntKind.u64.wrap (n:Int)=(n:Int) from by rw[Sl.wrap_u64,Nat.mod_eq_of_lt om]];refine h.aU rfl ⟨?_, ?_,trivial⟩
 ·refine Sl.jC (root:=kE) (addr:=n) (depth:=6) ⟨by decide,by decide,by decide,by decide⟩ om (h.pick (A:=Sl.av x.n k.bits k.H)) fun w h=>?_
  rw[va hb om];refine ⟨?_,trivial⟩;refine h.al fun w' h=>⟨?_,trivial⟩
  generalize w.heap.size=s at h⊢;refine h.ax rfl rfl fun w h=>?_
  (try dsimp only[putAt,List.set_cons_zero,List.set_cons_succ] at h)
  refine fin s w ((show Ow B w0 w (aj b k::aa s [.z 0, .z (n:Int)]::aa c [.z 0, .z 0]::R) from Ow.bD x h.sub).sub)
 ·refine h.al fun w' h=>⟨?_,trivial⟩
  generalize w.heap.size=s at h⊢;refine Sl.jC (root:=kE) (addr:=n) (depth:=6) ⟨by decide,by decide,by decide,by decide⟩ om (h.pick (A:=Sl.av x.n k.bits k.H)) fun w h=>?_
  rw[va hb om];refine ⟨?_,trivial⟩;refine h.ax rfl rfl fun w h=>?_
  (try dsimp only[putAt,List.set_cons_zero,List.set_cons_succ] at h)
  refine fin s w ((show Ow B w0 w (aj b k::aa s [.z 0, .z (n:Int)]::aa c [.z 0, .z 0]::R) from Ow.bD x h.sub).sub)
theorem nW {x:Kx} {s:Slot} {K:Int->Int->Int->Int->Int->Int->Int->Pw} {L:List az} (hk:Sl.tO k.bits k.H) (h:Ow B w0 w L) [I:dw (Sl.av x.n k.bits k.H) L R]
  (hK:∀w' c e,c=(Sl.zr k.bits k.H s).1->Sl.hI c->Ow B w0 w' (Sl.av x.n k.bits k.H::R)->K c.kind c.obj c.au c.aB c.guard c.bits e w'):C.qU (some ⟨x.n,0,none⟩) s.1 s.2 K w:=
 Sl.yz h.pick 0 rfl fun w' c e he hr h=>hK w' c e (congrArg Prod.fst he) hr h
theorem sB {N:Nat} (hk:aV N k) {n:Int} (hn:0≤n/\n<64):(Sl.zr k.bits k.H (0,n)).1=k.bN n:=by
 unfold Sl.zr;rw[if_neg (by rw[lS hk.b0 ⟨rfl,hn⟩];decide)];unfold ai.bN;rw[if_pos hn]
theorem mc {N:Nat} {n kind:Int} {K:Int->Int->Int->Int->Int->Int->Int->Int->Bool->Pw} (hk:aV N k) (h:Ow B w0 w (aj b k::R))
  (h1:k.dB n kind=false->∀(s:Slot) (c:dj) w',Ow B w0 w' (aj b k::R)->K s.1 s.2 c.kind c.obj c.au c.aB c.guard c.bits false w')
  (h2:k.dB n kind=true->∀w' c,c=k.bN n->Ow B w0 w' (aj b k::R)->K 0 n c.kind c.obj c.au c.aB c.guard c.bits true w'):C.qa (some ⟨b,0,none⟩) n kind K w:=by
 apply S.qa0;refine h.a fun c0 w1 h=>?_;refine h.a fun c1 w2 h=>?_;refine pI hk.b0 h.nC fun w s is ht hf h=>?_
 refine h.a fun c2 w' h=>?_;refine h.ax rfl rfl fun w h=>?_
 (try dsimp only[putAt,List.set_cons_zero,List.set_cons_succ] at h)
 intro k12 hk12
 have fin:∀(sb:Nat) (c:dj) (w:World),(is=true->c=k.bN n)->Ow B w0 w (aa sb c.cells::aa c2 [.z s.1, .z s.2]::aj b k::aa c1 [.z 0, .z 0, .z 0, .y 0, .y 0, .z 0]::aa c0 [.z 0, .z 0]::R)->k12 ⟨sb,0,none⟩ w:=fun sb c w hc h=>by
  apply hk12;refine h.dr fun w h=>?_
  refine h.aL rfl ?_;cases is with
  |false=>
   have hB:k.dB n kind=false:=by
    unfold ai.dB ai.bN;rw[if_neg (hf rfl)];rfl
   refine bC rfl ?_;have hKK:∀w',Ow B w0 w' (aj b k::R)->K s.1 s.2 c.kind c.obj c.au c.aB c.guard c.bits false w':=h1 hB s c
   (repeat' (first|exact trivial|(exact hKK _ h.sub)|(refine h.al fun w h=>?_)|(refine h.dr fun w h=>?_)|(refine h.aL rfl ?_)|(refine h.aU rfl ?_)|(refine ⟨_,h.aq rfl, ?_⟩)|(refine ⟨_,h.ao rfl, ?_⟩)|(refine h.hd rfl ?_)|(refine ⟨h.aq rfl, ?_⟩)|(refine ⟨h.ao rfl, ?_⟩)|(refine h.ax rfl rfl fun w h=>?_)|(refine eC ?_)|(refine _root_.Go.Vc.a2 ?_)|(refine h.dy rfl rfl fun w h=>?_)|(refine h.cC rfl rfl fun w h=>?_)|(refine And.intro ?_ ?_)))
  |true=>
   obtain ⟨rfl,hn⟩:=ht rfl;have hc:=hc rfl;refine bP rfl ⟨_,h.aq rfl, ?_⟩;refine yZ (fun e=>?_) (fun e=>?_)
   ·refine gz (fun e2=>?_) (fun e2=>?_)
    ·have hB:k.dB n kind=true:=by
      unfold ai.dB;rw[←hc];simp[e,e2]
     have hKK:∀w',Ow B w0 w' (aj b k::R)->K 0 n c.kind c.obj c.au c.aB c.guard c.bits true w':=fun w' h=>h2 hB w' c hc h
     (repeat' (first|exact trivial|(exact hKK _ h.sub)|(refine h.al fun w h=>?_)|(refine h.dr fun w h=>?_)|(refine h.aL rfl ?_)|(refine h.aU rfl ?_)|(refine ⟨_,h.aq rfl, ?_⟩)|(refine ⟨_,h.ao rfl, ?_⟩)|(refine h.hd rfl ?_)|(refine ⟨h.aq rfl, ?_⟩)|(refine ⟨h.ao rfl, ?_⟩)|(refine h.ax rfl rfl fun w h=>?_)|(refine eC ?_)|(refine _root_.Go.Vc.a2 ?_)|(refine h.dy rfl rfl fun w h=>?_)|(refine h.cC rfl rfl fun w h=>?_)|(refine And.intro ?_ ?_)))
    ·have hKK:∀w',Ow B w0 w' (aj b k::R)->K 0 n c.kind c.obj c.au c.aB c.guard c.bits (c.kind==kind) w':=fun w' h=>by
      by_cases e3:c.kind=kind
      ·rw[show (c.kind==kind)=true from by simpa using e3]
       refine h2 ?_ w' c hc h;unfold ai.dB;rw[←hc,←e3];simp[e]
      ·rw[show (c.kind==kind)=false from by simpa using e3]
       refine h1 ?_ (0,n) c w' h;unfold ai.dB;rw[←hc];simp[e2,e3]
     (repeat' (first|exact trivial|(exact hKK _ h.sub)|(refine h.al fun w h=>?_)|(refine h.dr fun w h=>?_)|(refine h.aL rfl ?_)|(refine h.aU rfl ?_)|(refine ⟨_,h.aq rfl, ?_⟩)|(refine ⟨_,h.ao rfl, ?_⟩)|(refine h.hd rfl ?_)|(refine ⟨h.aq rfl, ?_⟩)|(refine ⟨h.ao rfl, ?_⟩)|(refine h.ax rfl rfl fun w h=>?_)|(refine eC ?_)|(refine _root_.Go.Vc.a2 ?_)|(refine h.dy rfl rfl fun w h=>?_)|(refine h.cC rfl rfl fun w h=>?_)|(refine And.intro ?_ ?_)))
   ·have hKK:∀w',Ow B w0 w' (aj b k::R)->K 0 n c.kind c.obj c.au c.aB c.guard c.bits false w':=h1 (by
      unfold ai.dB;rw[←hc];simp[e]) (0,n) c
    (repeat' (first|exact trivial|(exact hKK _ h.sub)|(refine h.al fun w h=>?_)|(refine h.dr fun w h=>?_)|(refine h.aL rfl ?_)|(refine h.aU rfl ?_)|(refine ⟨_,h.aq rfl, ?_⟩)|(refine ⟨_,h.ao rfl, ?_⟩)|(refine h.hd rfl ?_)|(refine ⟨h.aq rfl, ?_⟩)|(refine ⟨h.ao rfl, ?_⟩)|(refine h.ax rfl rfl fun w h=>?_)|(refine eC ?_)|(refine _root_.Go.Vc.a2 ?_)|(refine h.dy rfl rfl fun w h=>?_)|(refine h.cC rfl rfl fun w h=>?_)|(refine And.intro ?_ ?_)))
 obtain ⟨x,h⟩:=h.dz.uJ;refine h.dr fun w h=>?_
 refine ⟨_,rfl,_,h.aq rfl, ?_⟩
 have hcap:∀c:dj,c=(Sl.zr k.bits k.H s).1->is=true->c=k.bN n:=fun c hc e=>by
  obtain ⟨rfl,hn⟩:=ht e;rw[hc,sB hk hn]
 refine h.aL rfl ⟨?_, ?_,trivial⟩
 ·refine nW (s:=s) hk.pv h fun w c e hc hr h=>?_
  refine ⟨?_,trivial⟩;refine h.al fun w' h=>⟨?_,trivial⟩
  generalize w.heap.size=sb at h⊢;refine h.ax rfl rfl fun w h=>?_
  (try dsimp only[putAt,List.set_cons_zero,List.set_cons_succ] at h)
  exact fin sb c w (hcap c hc) (Ow.sub (L:=aj b k::aa sb c.cells::aa c2 [.z s.1, .z s.2]::aa c1 [.z 0, .z 0, .z 0, .y 0, .y 0, .z 0]::aa c0 [.z 0, .z 0]::R) (Ow.bD x h.sub))
 ·refine h.al fun w' h=>⟨?_,trivial⟩
  generalize w.heap.size=sb at h⊢;refine nW (s:=s) hk.pv h fun w c e hc hr h=>?_
  refine ⟨?_,trivial⟩;refine h.ax rfl rfl fun w h=>?_
  (try dsimp only[putAt,List.set_cons_zero,List.set_cons_succ] at h)
  exact fin sb c w (hcap c hc) (Ow.sub (L:=aj b k::aa sb c.cells::aa c2 [.z s.1, .z s.2]::aa c1 [.z 0, .z 0, .z 0, .y 0, .y 0, .z 0]::aa c0 [.z 0, .z 0]::R) (Ow.bD x h.sub))
end
abbrev bw:cP Slot:=Sl.bw
section
variable {B:Nat} {w0 w:World} {R L:List az} {s:Sl}
theorem sI {w:World} {A:Addr} {x:Slot} {f:Int->Int->Prop} (g:∀c v,(bw.enc x)[c]?=some v->w.cell? (A.add c)=some v) (hf:f x.1 x.2):aA w A 0 [.o, .o] f:=⟨_,g 0 _ rfl,_,g 1 _ rfl,hf⟩
theorem Hl {w:World} {A:Addr} {x:Slot × dj} {f:Int->Int->Int->Int->Int->Int->Int->Int->Prop} (g:∀c v,(Sl.gX.enc x)[c]?=some v->w.cell? (A.add c)=some v) (hf:f x.1.1 x.1.2 x.2.kind x.2.obj x.2.au x.2.aB x.2.guard x.2.bits):
  aA w A 0 [.o, .o, .o, .o, .o, .u, .u, .o] f:=⟨_,g 0 _ rfl,_,g 1 _ rfl,_,g 2 _ rfl,_,g 3 _ rfl,_,g 4 _ rfl,_,g 5 _ rfl,_,g 6 _ rfl,_,g 7 _ rfl,hf⟩
theorem r9 {p:Slot->Bool} {f:Value} {xs:List Slot} {K:Int->Pw} [I:bM s L Slot bw xs] (h:Ow B w0 w L) (hbig:xs.length≤1000000000)
  (hf:∀(y:Slot) (w:World) (Q:Bool->Pw),y∈xs->Ow B w0 w L->(∀w',Ow B w0 w' L->Q (p y) w')->bX Tryz.prog f [.agg ⟨bw.enc y⟩] w fun en w'=>∃r:Bool,en= .returned (.bool r)/\Q r w')
  (hK:∀w',Ow B w0 w' L->K (cN p xs) w'):C.qv s f K w:=by
 apply S.qv0;have hlen:=h.br s;intro l hl
 have loop:∀(m j:Nat) (w:World),j+m=xs.length->(∀i,i<j->∀y,xs[i]?=some y->p y=false)->Ow B w0 w L->l (j:Int) w:=by
  intro m
  induction m with
  |zero=>
   intro j w hj hno h;apply hl;refine aD om ?_
   have hn:xs.findIdx? p=none:=by
    rw[List.findIdx?_eq_none_iff];intro y hy;obtain ⟨i,hi⟩:=List.mem_iff_getElem?.1 hy;exact hno i (by have:=(List.getElem?_eq_some_iff.1 hi).1;omega) y hi
   have e:cN p xs= -1:=by unfold cN;rw[hn]
   rw[←e];exact hK _ h
  |succ m ih=>
   intro j w hj hno h;have hx:xs[j]?=some xs[j]:=gE om;apply hl;refine aR om ?_;refine h.dV (s:=s) rfl hx fun a ha h0 hc=>?_
   refine sI hc ?_;refine hf xs[j] w _ (List.getElem_mem _) h fun w h=>?_
   cases hp:p xs[j] with
   |true=>
    refine bP rfl ?_
    have hn:xs.findIdx? p=some j:=by
     rw[List.findIdx?_eq_some_iff_getElem];refine ⟨om,hp,fun i hi=>?_⟩;have:=hno i hi xs[i] (gE om);simp[this]
    have e:cN p xs=(j:Int):=by unfold cN;rw[hn]
    rw[←e];exact hK _ h
   |false=>
    refine bC rfl ?_;rw[wr om om];refine ih (j+1) w om (fun i hi z hz=>?_) h;by_cases e:i=j
    ·subst e;rw[hx] at hz;cases hz;exact hp
    ·exact hno i om z hz
 exact loop xs.length 0 w om (fun i hi=>by omega) h
theorem nH {p:Slot->Bool} {f:Value} {xs:List Slot} {K:Bool->Pw} [I:bM s L Slot bw xs] (h:Ow B w0 w L) (hbig:xs.length≤1000000000)
  (hf:∀(y:Slot) (w:World) (Q:Bool->Pw),y∈xs->Ow B w0 w L->(∀w',Ow B w0 w' L->Q (p y) w')->bX Tryz.prog f [.agg ⟨bw.enc y⟩] w fun en w'=>∃r:Bool,en= .returned (.bool r)/\Q r w')
  (hK:∀w',Ow B w0 w' L->K (xs.any p) w'):C.ql s f K w:=by
 apply S.ql0;refine r9 h hbig hf fun w h=>?_
 rw[iC];exact hK w h
theorem rY {p:Slot × dj->Bool} {f:Value} {xs:List (Slot × dj)} {K:Int->Pw} [I:bM s L (Slot × dj) Sl.gX xs] (h:Ow B w0 w L) (hbig:xs.length≤1000000000)
  (hf:∀(y:Slot × dj) (w:World) (Q:Bool->Pw),Ow B w0 w L->(∀w',Ow B w0 w' L->Q (p y) w')->bX Tryz.prog f [.agg ⟨Sl.gX.enc y⟩] w fun en w'=>∃r:Bool,en= .returned (.bool r)/\Q r w')
  (hK:∀w',Ow B w0 w' L->K (cN p xs) w'):C.qw s f K w:=by
 apply S.qw0;have hlen:=h.br s;intro l hl
 have loop:∀(m j:Nat) (w:World),j+m=xs.length->(∀i,i<j->∀y,xs[i]?=some y->p y=false)->Ow B w0 w L->l (j:Int) w:=by
  intro m
  induction m with
  |zero=>
   intro j w hj hno h;apply hl;refine aD om ?_
   have hn:xs.findIdx? p=none:=by
    rw[List.findIdx?_eq_none_iff];intro y hy;obtain ⟨i,hi⟩:=List.mem_iff_getElem?.1 hy;exact hno i (by have:=(List.getElem?_eq_some_iff.1 hi).1;omega) y hi
   have e:cN p xs= -1:=by unfold cN;rw[hn]
   rw[←e];exact hK _ h
  |succ m ih=>
   intro j w hj hno h;have hx:xs[j]?=some xs[j]:=gE om;apply hl;refine aR om ?_;refine h.dV (s:=s) rfl hx fun a ha h0 hc=>?_
   refine Hl hc ?_;refine hf xs[j] w _ h fun w h=>?_
   cases hp:p xs[j] with
   |true=>
    refine bP rfl ?_
    have hn:xs.findIdx? p=some j:=by
     rw[List.findIdx?_eq_some_iff_getElem];refine ⟨om,hp,fun i hi=>?_⟩;have:=hno i hi xs[i] (gE om);simp[this]
    have e:cN p xs=(j:Int):=by unfold cN;rw[hn]
    rw[←e];exact hK _ h
   |false=>
    refine bC rfl ?_;rw[wr om om];refine ih (j+1) w om (fun i hi z hz=>?_) h;by_cases e:i=j
    ·subst e;rw[hx] at hz;cases hz;exact hp
    ·exact hno i om z hz
 exact loop xs.length 0 w om (fun i hi=>by omega) h
theorem nG {p:Slot × dj->Bool} {f:Value} {xs:List (Slot × dj)} {K:Bool->Pw} [I:bM s L (Slot × dj) Sl.gX xs] (h:Ow B w0 w L) (hbig:xs.length≤1000000000)
  (hf:∀(y:Slot × dj) (w:World) (Q:Bool->Pw),Ow B w0 w L->(∀w',Ow B w0 w' L->Q (p y) w')->bX Tryz.prog f [.agg ⟨Sl.gX.enc y⟩] w fun en w'=>∃r:Bool,en= .returned (.bool r)/\Q r w')
  (hK:∀w',Ow B w0 w' L->K (xs.any p) w'):C.qm s f K w:=by
 apply S.qm0;refine rY h hbig hf fun w h=>?_
 rw[iC];exact hK w h
theorem oO {ys:List Slot} {y:Slot} {c:Nat} {k:Sl->Pw} [I:bM s L Slot bw ys] [J:dw (af bw s ys) L R] (h:Ow B w0 w (aa c [.z y.1, .z y.2]::L)) (hbig:ys.length≤1000000000)
  (hk:∀s' w',s'.len=ys.length+1->Ow B w0 w' (af bw s' (ys++ [y])::R)->k s' w'):
  ∃s' w',bp Tryz.prog [236,236] 236 (.slice s.a s.len s.cap) (.slice (some (Addr.mk c 0 none)) 1 1) w s' w'/\k s' w':=
 Ow.fx (E:=bw) (y:=y) Tryz.underlying236 (show Tryz.prog.info? 204=some Tryz.t204 from by kernel_rfl) (zv:= .agg #[.z 0, .z 0]) (by kernel_rfl) (by kernel_rfl) rfl (by decide) h (by
  have e:Tryz.t204.bytes=16:=by kernel_rfl
  rw[e];omega) hk
theorem Dk {ys:List tU} {y:tU} {c:Nat} {k:Sl->Pw} [I:bM s L tU fi ys] [J:dw (af fi s ys) L R] (h:Ow B w0 w (aa c [.y (y.base:Int), .z (y.bits:Int), .y (y.used:Int)]::L)) (hbig:ys.length≤1000000000)
  (hk:∀s' w',s'.len=ys.length+1->Ow B w0 w' (af fi s' (ys++ [y])::R)->k s' w'):
  ∃s' w',bp Tryz.prog [110,110] 110 (.slice s.a s.len s.cap) (.slice (some (Addr.mk c 0 none)) 1 1) w s' w'/\k s' w':=
 Ow.fx (E:=fi) (y:=y) Tryz.underlying110 (show Tryz.prog.info? 136=some Tryz.t136 from by kernel_rfl) (zv:= .agg #[.y 0, .z 0, .y 0]) (by kernel_rfl) (by kernel_rfl) rfl (by decide) h (by
  have e:Tryz.t136.bytes=24:=by kernel_rfl
  rw[e];omega) hk
theorem xf {ys:List dC} {y:dC} {c:Nat} {k:Sl->Pw} [I:bM s L dC aw ys] [J:dw (af aw s ys) L R] (h:Ow B w0 w (aa c [.z y.space, .z y.aZ, .z y.frame, .z y.au]::L)) (hbig:ys.length≤1000000000)
  (hk:∀s' w',s'.len=ys.length+1->Ow B w0 w' (af aw s' (ys++ [y])::R)->k s' w'):
  ∃s' w',bp Tryz.prog [34,34] 34 (.slice s.a s.len s.cap) (.slice (some (Addr.mk c 0 none)) 1 1) w s' w'/\k s' w':=
 Ow.fx (E:=aw) (y:=y) Tryz.underlying34 (show Tryz.prog.info? 153=some Tryz.t153 from by kernel_rfl) (zv:= .agg #[.z 0, .z 0, .z 0, .z 0]) (by kernel_rfl) (by kernel_rfl) rfl (by decide) h (by
  have e:Tryz.t153.bytes=32:=by kernel_rfl
  rw[e];omega) hk
theorem Di {ys:List Nat} {y:Nat} {c:Nat} {k:Sl->Pw} [I:bM s L Nat cz ys] [J:dw (af cz s ys) L R] (h:Ow B w0 w (aa c [.pointer (some ⟨y,0,none⟩)]::L)) (hbig:ys.length≤1000000000)
  (hk:∀s' w',s'.len=ys.length+1->Ow B w0 w' (af cz s' (ys++ [y])::R)->k s' w'):
  ∃s' w',bp Tryz.prog [111,111] 111 (.slice s.a s.len s.cap) (.slice (some (Addr.mk c 0 none)) 1 1) w s' w'/\k s' w':=
 Ow.fx (E:=cz) (y:=y) Tryz.underlying111 (show Tryz.prog.info? 321=some Tryz.t321 from by kernel_rfl) (zv:= .pointer none) (by kernel_rfl) (by kernel_rfl) rfl (by decide) h (by
  have e:Tryz.t321.bytes=8:=by kernel_rfl
  rw[e];omega) hk
theorem BJ {ys:List Nat} {y:Nat} {c:Nat} {k:Sl->Pw} [I:bM s L Nat cz ys] [J:dw (af cz s ys) L R] (h:Ow B w0 w (aa c [.pointer (some ⟨y,0,none⟩)]::L)) (hbig:ys.length≤1000000000)
  (hk:∀s' w',s'.len=ys.length+1->Ow B w0 w' (af cz s' (ys++ [y])::R)->k s' w'):
  ∃s' w',bp Tryz.prog [112,112] 112 (.slice s.a s.len s.cap) (.slice (some (Addr.mk c 0 none)) 1 1) w s' w'/\k s' w':=
 Ow.fx (E:=cz) (y:=y) Tryz.underlying112 (show Tryz.prog.info? 167=some Tryz.t167 from by kernel_rfl) (zv:= .pointer none) (by kernel_rfl) (by kernel_rfl) rfl (by decide) h (by
  have e:Tryz.t167.bytes=8:=by kernel_rfl
  rw[e];omega) hk
theorem zh {ys:List Nat} {y:Nat} {c:Nat} {k:Sl->Pw} [I:bM s L Nat cz ys] [J:dw (af cz s ys) L R] (h:Ow B w0 w (aa c [.pointer (some ⟨y,0,none⟩)]::L)) (hbig:ys.length≤1000000000)
  (hk:∀s' w',s'.len=ys.length+1->Ow B w0 w' (af cz s' (ys++ [y])::R)->k s' w'):
  ∃s' w',bp Tryz.prog [113,113] 113 (.slice s.a s.len s.cap) (.slice (some (Addr.mk c 0 none)) 1 1) w s' w'/\k s' w':=
 Ow.fx (E:=cz) (y:=y) Tryz.underlying113 (show Tryz.prog.info? 137=some Tryz.t137 from by kernel_rfl) (zv:= .pointer none) (by kernel_rfl) (by kernel_rfl) rfl (by decide) h (by
  have e:Tryz.t137.bytes=8:=by kernel_rfl
  rw[e];omega) hk
theorem pE {a c:dj} {K:Bool->Pw} (h:Ow B w0 w R) (hK:∀w',Ow B w0 w' R->K (ai.re a c) w'):C.qdF a.kind a.obj a.au a.aB a.guard a.bits c.kind c.obj c.au c.aB c.guard c.bits K w:=by
 apply S.qdF0;refine h.a fun c0 w1 h=>?_;refine h.a fun c1 w2 h=>?_;unfold ai.re at hK;refine ⟨_,h.aq rfl, ?_⟩;refine yZ (fun e=>?_) (fun e=>?_)
 ·refine ⟨_,h.aq rfl,_,h.aq rfl, ?_⟩
  refine gz (fun e2=>?_) (fun e2=>?_)
  ·refine ⟨_,h.ao rfl,_,h.ao rfl, ?_⟩
   have:=hK w2 h.drop.drop;rw[decide_eq_true e,decide_eq_true e2,Bool.true_and,Bool.true_and] at this;exact this
  ·have:=hK w2 h.drop.drop
   rw[decide_eq_false e2,Bool.false_and,Bool.and_false] at this;exact this
 ·have:=hK w2 h.drop.drop
  rw[decide_eq_false (by simpa using e),Bool.false_and] at this;exact this
theorem uY {c:dj} {r g:Int} {K:Int->Int->Int->Int->Int->Int->Int->Pw} (hc:Sl.hI c) (h:Ow B w0 w R)
  (hK:∀w' x,x=(ai.fX c r g).1->Ow B w0 w' R->K x.kind x.obj x.au x.aB x.guard x.bits (ai.fX c r g).2 w'):C.qdw c.kind c.obj c.au c.aB c.guard c.bits r g K w:=by
 apply S.qdw0;refine h.a fun c0 w1 h=>?_;refine h.a fun c1 w2 h=>?_;refine h.aU rfl ?_;refine Sl.gQ h hc fun w h=>?_
 unfold ai.fX at hK
 have bad:∀(q:Int) (w:World),(∀w',Ow B w0 w' R->K 0 0 0 0 0 0 q w')->Ow B w0 w (aa c1 [.z 0, .z 0, .z 0, .y 0, .y 0, .z 0]::aa c0 c.cells::R)->
   aH w (Addr.mk c1 0 none) 0 [.z (0:Int), .z (0:Int), .z (0:Int), .y (0:Int), .y (0:Int), .z (0:Int)] fun w28=>
    aA w28 (Addr.mk c1 0 none) 0 [.o, .o, .o, .u, .u, .o] fun (r29:Int) (r30:Int) (r31:Int) (r32:Int) (r33:Int) (r34:Int)=>K r29 r30 r31 r32 r33 r34 q w28:=fun q w hK h=>by
  refine h.ax rfl rfl fun w h=>?_
  (try dsimp only[putAt,List.set_cons_zero,List.set_cons_succ] at h)
  refine h.aU rfl ?_;exact hK w h.drop.drop
 by_cases h1:Sl.ct c≠0
 ·rw[if_pos h1] at hK
  refine lj h1 (bad _ w (fun w' h=>hK w' _ rfl h) h)
 rw[if_neg h1] at hK;refine fN om ?_;refine Sl.jv ?_;by_cases h2:¬(0≤r/\r≤7)
 ·rw[if_pos h2] at hK
  rw[show (!(decide (0≤r)&&decide (r≤7)))=true from by simp;omega];exact bP rfl (bad _ w (fun w' h=>hK w' _ rfl h) h)
 rw[if_neg h2] at hK;rw[show (!(decide (0≤r)&&decide (r≤7)))=false from by simp;omega];refine bC rfl ⟨_,h.aq rfl, ?_⟩;intro k36 hk36
 have no:(c.kind=0∨(g≠0/\(Sl.eN c.kind=false∨c.aB≠0)))->k36 true w:=fun e=>by
  rw[if_pos e] at hK;apply hk36;exact bP rfl (bad _ w (fun w' h=>hK w' _ rfl h) h)
 have yes:¬(c.kind=0∨(g≠0/\(Sl.eN c.kind=false∨c.aB≠0)))->k36 false w:=fun e=>by
  rw[if_neg e] at hK;apply hk36;refine bC rfl ⟨_,h.aq rfl, ?_⟩;refine Sl.iV ?_;intro k49 hk49
  have fin:∀(r':Int) (w:World),r'=(if Sl.eD c.kind then dx .i64 c.au r else c.au)->Ow B w0 w (aa c1 [.z 0, .z 0, .z 0, .y 0, .y 0, .z 0]::aa c0 [.z c.kind, .z c.obj, .z r', .y c.aB, .y c.guard, .z c.bits]::R)->k49 w:=fun r' w hr h=>by
   apply hk49;refine yZ (fun e=>?_) (fun e=>?_)
   ·refine h.cC rfl rfl fun w h=>?_
    (try dsimp only[putAt,List.set_cons_zero,List.set_cons_succ] at h)
    refine h.aU rfl ?_;refine h.ax rfl rfl fun w h=>?_
    (try dsimp only[putAt,List.set_cons_zero,List.set_cons_succ] at h)
    refine h.aU rfl ?_;have:=hK w _ rfl h.drop.drop;rw[if_pos e,←hr] at this;exact this
   ·refine h.aU rfl ?_
    refine h.ax rfl rfl fun w h=>?_
    (try dsimp only[putAt,List.set_cons_zero,List.set_cons_succ] at h)
    refine h.aU rfl ?_;have:=hK w _ rfl h.drop.drop;rw[if_neg (show ¬g≠0 from fun hh=>hh e),←hr] at this;exact this
  cases hl:Sl.eD c.kind with
  |true=>
   refine bP rfl ⟨_,h.ao rfl, ?_⟩;refine h.cC rfl rfl fun w h=>?_
   (try dsimp only[putAt,List.set_cons_zero,List.set_cons_succ] at h)
   exact fin _ w (by rw[hl];rfl) h
  |false=>
   refine bC rfl ?_;exact fin _ w (by rw[hl];rfl) h
 refine gz (fun e=>?_) (fun e=>?_)
 ·rw[show (c.kind==0)=true from by simpa using e];exact no (.inl e)
 refine yZ (fun e2=>?_) (fun e2=>?_)
 ·refine ⟨_,h.aq rfl, ?_⟩
  refine Sl.ju ?_;cases hb:Sl.eN c.kind with
  |false=>exact bP rfl (no (.inr ⟨e2, .inl hb⟩))
  |true=>
   refine bC rfl ⟨_,h.ao rfl, ?_⟩;by_cases e3:c.aB=0
   ·rw[show (c.aB !=0)=false from by simpa using e3]
    exact yes (fun hh=>hh.elim e fun hh=>hh.2.elim (fun h=>by rw[hb] at h;cases h) fun h=>h e3)
   ·rw[show (c.aB !=0)=true from by simpa using e3]
    exact no (.inr ⟨e2, .inr e3⟩)
 ·exact yes (fun hh=>hh.elim e fun hh=>hh.1 e2)
end
theorem CY {a:Int} {i:Nat} (h0: -9223372036854775808≤a) (h1:a<9223372036854775808) (hi:i≤1000):(IntKind.i64.wrap (a+(i:Int))=a+(i:Int)∨(IntKind.i64.wrap (a+(i:Int))<0/\64≤a+(i:Int))):=by
 by_cases e:a+(i:Int)<9223372036854775808
 ·exact .inl (wr om om)
 ·refine .inr ⟨?_,om⟩
  have e1:(2:Int)^64=18446744073709551616:=by decide
  have e2:(2:Int)^63=9223372036854775808:=by decide
  have:IntKind.i64.wrap (a+(i:Int))=a+(i:Int)-18446744073709551616:=by
   have hm:(a+(i:Int))%18446744073709551616=a+(i:Int):=Int.emod_eq_of_lt om om;simp only[IntKind.wrap,IntKind.bits,IntKind.signed,e1,Bool.true_and];rw[hm];simp;omega
  omega
section
variable {B:Nat} {w0 w:World} {R L:List az} {bd bk:Nat} {k:ai} {d:kQ} {ec wv wk:Int} {fs:Sl} {N:Nat}
theorem zp {n:Int} {bx:Nat} {K:Bool->Pw} (hk:aV N k) (hn:0≤n/\n<64) (h:Ow B w0 w (aa bx [.pointer (some ⟨bd,0,none⟩)]::aa bd (ag bk d ec wv wk fs)::aj bk k::R))
  (hK:∀w',Ow B w0 w' (aa bx [.pointer (some ⟨bd,0,none⟩)]::aa bd (ag bk d ec wv wk fs)::aj bk k::R)->K (decide ((k.bN n).kind≠0)) w'):C.qaZ 0 n ⟨bx,0,none⟩ K w:=by
 apply S.qaZ0;refine h.a fun c0 w1 h=>?_;intro k5 hk5
 have fin:∀(s:Nat) (c:dj) (w:World),c=k.bN n->Ow B w0 w (aa s c.cells::aa bx [.pointer (some ⟨bd,0,none⟩)]::aa bd (ag bk d ec wv wk fs)::aj bk k::R)->k5 ⟨s,0,none⟩ w:=fun s c w hc h=>by
  apply hk5;refine ⟨_,h.aq rfl, ?_⟩;have:=hK w h.drop
  rw[←hc,show decide (c.kind≠0)=(c.kind !=0) from by
   by_cases e:c.kind=0
   ·simp[e]
   ·simp[e]] at this
  exact this
 obtain ⟨x,h⟩:=(h.pick (A:=aj bk k)).uJ;refine h.dr fun w h=>?_
 refine ⟨_,h.aq rfl,_,rfl,_,h.aq rfl,_,rfl,_,h.aq rfl, ?_⟩;refine h.aL rfl ⟨?_, ?_,trivial⟩
 ·refine nW (s:=(0,n)) hk.pv h fun w c e hc hr h=>?_
  rw[sB hk hn] at hc;refine ⟨?_,trivial⟩;refine h.al fun w' h=>⟨?_,trivial⟩
  generalize w.heap.size=sb at h⊢;refine h.ax rfl rfl fun w h=>?_
  (try dsimp only[putAt,List.set_cons_zero,List.set_cons_succ] at h)
  refine fin sb c w hc ((show Ow B w0 w (aj bk k::aa sb c.cells::aa bx [.pointer (some ⟨bd,0,none⟩)]::aa bd (ag bk d ec wv wk fs)::R) from Ow.bD x h.sub).sub)
 ·refine h.al fun w' h=>⟨?_,trivial⟩
  generalize w.heap.size=sb at h⊢;refine nW (s:=(0,n)) hk.pv h fun w c e hc hr h=>?_
  rw[sB hk hn] at hc;refine ⟨?_,trivial⟩;refine h.ax rfl rfl fun w h=>?_
  (try dsimp only[putAt,List.set_cons_zero,List.set_cons_succ] at h)
  refine fin sb c w hc ((show Ow B w0 w (aj bk k::aa sb c.cells::aa bx [.pointer (some ⟨bd,0,none⟩)]::aa bd (ag bk d ec wv wk fs)::R) from Ow.bD x h.sub).sub)
def bV (a:Int) (n:Nat):List Slot:=(List.range n).map fun i:Nat=>(0,a+(i:Int))
theorem free_spec {n:Nat} {K:Sl->Int->Pw} (hk:aV N k) (hw0: -9223372036854775808≤d.call.ak) (hw1:d.call.ak<9223372036854775808) (hn:1≤n/\n≤64) (h:Ow B w0 w (aa bd (ag bk d ec wv wk fs)::aj bk k::R))
  (h1:k.fG d.call.ak n≠0->∀s w',Ow B w0 w' (aa bd (ag bk d ec wv wk fs)::aj bk k::R)->K s (k.fG d.call.ak n) w')
  (h2:k.fG d.call.ak n=0->∀s w',Ow B w0 w' (af bw s (bV d.call.ak n)::aa bd (ag bk d ec wv wk fs)::aj bk k::R)->K s 0 w'):C.qay (some ⟨bd,0,none⟩) (n:Int) K w:=by
 apply S.qay0;refine h.a fun bx w1 h=>?_;intro l4 hl4
 have bad:(d.call.ak<0∨64<d.call.ak+n)->∀w,Ow B w0 w (aa bd (ag bk d ec wv wk fs)::aj bk k::R)->K ⟨none,0,0⟩ 181 w:=fun hb w h=>by
  have e:k.fG d.call.ak n=181:=by unfold ai.fG;rw[if_pos hb]
  have:=h1 (by rw[e];decide) ⟨none,0,0⟩ w h;rw[e] at this;exact this
 have loop:∀(m j:Nat) (o:Sl) (w:World),j+m=n->(0<j->0≤d.call.ak/\d.call.ak+j≤64)->Ow B w0 w (af bw o (bV d.call.ak j)::aa bx [.pointer (some ⟨bd,0,none⟩)]::aa bd (ag bk d ec wv wk fs)::aj bk k::R)->l4 o (j:Int) w:=by
  intro m
  induction m with
  |zero=>
   intro j o w hj hin h;have hj:j=n:=by omega
   subst hj;obtain ⟨i0,i1⟩:=hin om;apply hl4;refine aD om ?_
   have hpv:∀y∈bV d.call.ak j,y.1=0/\0≤y.2/\y.2<64:=fun y hy=>by
    obtain ⟨i,hi,rfl⟩:=List.mem_map.1 hy;rw[List.mem_range] at hi;exact ⟨rfl,by show 0≤d.call.ak+(i:Int);omega,by show d.call.ak+(i:Int)<64;omega⟩
   refine nH (s:=o) (p:=fun y=>decide ((k.bN y.2).kind≠0)) h (by unfold bV;simp;omega) (fun y w Q hy h hQ=>?_) fun w h=>?_
   ·refine aQ ?_
    obtain ⟨y1,y2⟩:=y;obtain ⟨e1,e2⟩:=hpv _ hy;dsimp only at e1 e2;subst e1;show C.qaZ 0 y2 ⟨bx,0,none⟩ Q w;refine zp (bd:=bd) (bk:=bk) (k:=k) (d:=d) (ec:=ec) (wv:=wv) (wk:=wk) (fs:=fs) (R:=af bw o (bV d.call.ak j)::R) hk e2 h.sub fun w h=>hQ w h.sub
   ·have e:(bV d.call.ak j).any (fun y=>decide ((k.bN y.2).kind≠0))=(List.range j).any fun i=>decide ((k.bN (d.call.ak+(i:Int))).kind≠0):=by
     unfold bV;rw[List.any_map];rfl
    rw[e];cases hb:(List.range j).any fun i=>decide ((k.bN (d.call.ak+(i:Int))).kind≠0) with
    |true=>
     have e:k.fG d.call.ak j=51:=by unfold ai.fG;rw[if_neg om,if_pos hb]
     refine bP rfl ?_;have:=h1 (by rw[e];decide) ⟨none,0,0⟩ w h.drop.drop;rw[e] at this;exact this
    |false=>
     have e:k.fG d.call.ak j=0:=by unfold ai.fG;rw[if_neg om,if_neg (by rw[hb];decide)]
     refine bC rfl ?_;exact h2 e o w h.sub
  |succ m ih=>
   intro j o w hj hin h;apply hl4;refine aR om ?_;intro k8 hk8;have hwr:=CY (a:=d.call.ak) (i:=j) hw0 hw1 om;obtain ⟨v,hwv⟩:∃v,IntKind.i64.wrap (d.call.ak+(j:Int))=v:=⟨_,rfl⟩
   rw[hwv] at hwr
   have fin:∀(sb:Nat) (s:Slot) (is:Bool) (w:World),(is=true->s=(0,v)/\0≤v/\v<64)->(is=false->¬(0≤v/\v<64))->Ow B w0 w (aa sb [.z s.1, .z s.2]::af bw o (bV d.call.ak j)::aa bx [.pointer (some ⟨bd,0,none⟩)]::aa bd (ag bk d ec wv wk fs)::aj bk k::R)->k8 ⟨sb,0,none⟩ is w:=fun sb s is w ht hf h=>by
    apply hk8;intro k12 hk12
    have kbad:∀w,(d.call.ak<0∨64<d.call.ak+n)->Ow B w0 w (aa bd (ag bk d ec wv wk fs)::aj bk k::R)->k12 true w:=fun w hb h=>by
     apply hk12;exact bP rfl (bad hb w h)
    cases is with
    |false=>
     have:=hf rfl;refine bP rfl (kbad w ?_ h.sub);omega
    |true=>
     obtain ⟨rfl,v0,v1⟩:=ht rfl;refine bC rfl ?_;refine ⟨_,h.aq rfl,_,rfl,_,aT (h.ao rfl), ?_⟩;by_cases hneg:d.call.ak<0
     ·rw[decide_eq_true hneg]
      exact kbad w (.inl hneg) h.sub
     rw[decide_eq_false hneg];apply hk12;refine bC rfl ?_;have hv:v=d.call.ak+(j:Int):=by omega
     subst hv;refine h.aL rfl ?_;refine h.a fun g w2 h=>?_;refine oO (s:=o) (y:=(0,d.call.ak+(j:Int))) h (by unfold bV;simp;omega) fun o' w ho' h=>?_
     rw[wI j om];refine ih (j+1) o' w om (fun _=>by omega) ?_;have e:bV d.call.ak (j+1)=bV d.call.ak j++ [(0,d.call.ak+(j:Int))]:=by unfold bV;rw[List.range_succ,List.map_append];rfl
     rw[e];exact h.sub
   refine h.dr fun w h=>?_
   refine ⟨_,h.aq rfl,_,rfl,_,h.aq rfl,_,h.aq rfl,_,rfl,_,aT (h.ao rfl), ?_⟩;rw[hwv];refine ⟨?_, ?_,trivial⟩
   ·refine pI hk.b0 (h.pick (A:=aj bk k)) fun w s is ht hf h=>?_
    refine ⟨?_,trivial⟩;refine h.al fun w' h=>⟨?_,trivial⟩
    generalize w.heap.size=sb at h⊢;refine h.ax rfl rfl fun w h=>?_
    (try dsimp only[putAt,List.set_cons_zero,List.set_cons_succ] at h)
    exact fin sb s is w ht hf h.sub
   ·refine h.al fun w' h=>⟨?_,trivial⟩
    generalize w.heap.size=sb at h⊢;refine pI hk.b0 (h.pick (A:=aj bk k)) fun w s is ht hf h=>?_
    refine ⟨?_,trivial⟩;refine h.ax rfl rfl fun w h=>?_
    (try dsimp only[putAt,List.set_cons_zero,List.set_cons_succ] at h)
    exact fin sb s is w ht hf h.sub
 have e0:bV d.call.ak 0= []:=rfl;exact loop n 0 ⟨none,0,0⟩ w1 om (fun hh=>absurd hh om) (by rw[e0];exact Ow.dK h)
theorem mg {s:Slot} {c:dj} {K:Pw} (hc:Sl.hI c) (hl:k.T.length<1000000) (h:Ow B w0 w (aa bd (ag bk d ec wv wk fs)::aj bk k::R))
  (hK:∀w',Ow B w0 w' (aa bd (ag bk d ec wv wk fs)::aj bk (k.laid d.s s c)::R)->K w'):C.qbc (some ⟨bd,0,none⟩) s.1 s.2 c.kind c.obj c.au c.aB c.guard c.bits K w:=by
 apply S.qbc0;refine h.a fun c0 w1 h=>?_;refine h.a fun c1 w2 h=>?_;obtain ⟨x,h⟩:=(h.pick (A:=aj bk k)).uJ;refine h.dr fun w h=>?_
 refine ⟨_,rfl,_,h.aq rfl,_,rfl,_,h.aq rfl, ?_⟩;refine h.aL rfl ?_;refine h.aU rfl ⟨?_,trivial⟩;refine Sl.gM (s:=s) (c:=c) hc (h.pick (A:=Sl.av x.n k.bits k.H)) fun w h=>?_
 refine h.dr fun w h=>?_
 refine ⟨_,rfl,_,h.aq rfl,_,rfl,_,h.ao rfl,_,rfl, ?_⟩;refine eL (h.aL rfl ?_);refine h.aL rfl ⟨?_,trivial⟩;refine Tr.uk (p:=d.s) (s:=s) hl (h.pick (A:=Tr.bA x.tr k.T)) fun w h=>?_
 refine hK w ((show Ow B w0 w (aj bk (k.laid d.s s c)::aa bd (ag bk d ec wv wk fs)::R) from Ow.bD x h.sub).sub)
end
section
variable {B:Nat} {w0 w:World} {R L:List az} {bd bk:Nat} {k:ai} {d:kQ} {ec wv wk:Int} {fs:Sl} {N:Nat}
def ai.A5 (k:ai) (core a b:Int):Prop:=(a=1->0≤b)/\(a=2->1≤b/\b≤8/\k.bits.length<64)/\(a=3->k.t.fP core=true/\k.t.bz.length<64)
theorem Ch {at_:Nat} {K:Int->Pw} (hk:aV N k) (hN:N≤100000) (hr:k.A5 d.core d.call.a d.call.b) (h:Ow B w0 w (aa bd (ag bk d ec wv wk fs)::aj bk k::R))
  (hK:∀w',Ow B w0 w' (aa bd (ag bk d ec wv wk fs)::aj bk (k.made d.core d.call.a d.call.b at_).2::R)->K (k.made d.core d.call.a d.call.b at_).1 w'):C.qbK (some ⟨bd,0,none⟩) (at_:Int) K w:=by
 apply S.qbK0;have nu:=hk.nu;have ne:=hk.ne;have nn:=hk.nn;have ns:=hk.ns;have nf:=hk.nf;have nt:=hk.nt;obtain ⟨r1,r2,r3⟩:=hr;unfold ai.made at hK;obtain ⟨x,h⟩:=(h.pick (A:=aj bk k)).uJ;refine ⟨_,rfl,_,aT (h.ao rfl), ?_⟩;refine gz (fun e=>?_) (fun e=>?_)
 ·rw[if_pos e] at hK
  obtain ⟨bn,hbn⟩:=Int.eq_ofNat_of_zero_le (r1 e);rw[hbn,Int.toNat_natCast] at hK;refine h.dr fun w h=>?_
  refine ⟨_,rfl,_,rfl,_,h.aq rfl,_,rfl,x.su,h.ao rfl,_,rfl,_,aT (h.ao rfl),_,h.aq rfl, ?_,trivial⟩;refine h.al fun w2 h=>⟨?_,trivial⟩
  generalize w.heap.size=g at h⊢;have h:Ow B w0 w2 (aa g [.y (((⟨at_,bn,0⟩:tU).base:Nat):Int), .z (((⟨at_,bn,0⟩:tU).bits:Nat):Int), .y (((⟨at_,bn,0⟩:tU).used:Nat):Int)]::_):=h.Dp (by rw[hbn];rfl);refine Dk (s:=x.su) (y:=⟨at_,bn,0⟩) h om fun s' w hs' h=>?_
  refine ⟨h.aq rfl,_,rfl, ?_,trivial⟩;refine h.cC rfl rfl fun w h=>?_
  refine ⟨_,rfl,_,h.aq rfl,_,rfl,s',h.ao rfl, ?_⟩;rw[hs',show IntKind.i64.wrap (((k.u.length+1:Nat):Int)-1)=(k.u.length:Int) from by rw[wr om om];omega]
  (dsimp only[bm,ag,putAt,List.set_cons_zero,List.set_cons_succ,Nat.zero_add] at h)
  refine hK w ((show Ow B w0 w (aj bk { k with u:=k.u++ [⟨at_,bn,0⟩]}::aa bd (ag bk d ec wv wk fs)::R) from Ow.bD { x with su:=s'} h.sub).sub)
 rw[if_neg e] at hK;refine gz (fun e2=>?_) (fun e2=>?_)
 ·rw[if_pos e2] at hK
  obtain ⟨b1,b2,b3⟩:=r2 e2
  have hm:Sl.gI k.bits d.call.b=((k.bits.length:Int),0,k.bits++ [d.call.b]):=by
   unfold Sl.gI;rw[if_neg om,if_neg om]
  rw[hm] at hK;refine ⟨_,rfl,_,h.aq rfl,_,rfl,_,h.ao rfl,_,rfl, ?_⟩;rw[show IntKind.i64.wrap ((k.bits.length:Int)+1)=(((k.bits++ [d.call.b]).length:Nat):Int) from by rw[wr om om];simp];refine h.cC rfl rfl fun w h=>?_
  refine h.dr fun w h=>?_
  (dsimp only[bm,ag,putAt,List.set_cons_zero,List.set_cons_succ,Nat.zero_add] at h)
  refine ⟨_,rfl,_,h.aq rfl,_,rfl,_,h.aq rfl,_,rfl,_,aT (h.ao rfl), ?_,trivial⟩;refine Sl.gb (h.pick (A:=Sl.av x.n k.bits k.H)) fun w h=>?_
  rw[hm] at h⊢;dsimp only at h⊢;refine hK w ((show Ow B w0 w (aj bk { k with bits:=k.bits++ [d.call.b]}::aa bd (ag bk d ec wv wk fs)::R) from Ow.bD x h.sub).sub)
 rw[if_neg e2] at hK;refine gz (fun e3=>?_) (fun e3=>?_)
 ·rw[if_pos e3] at hK
  obtain ⟨b1,b2⟩:=r3 e3
  have hm:k.t.cU 0 d.core=((k.t.bz.length:Int),0,k.t.make 0 d.core):=by
   unfold Th.Mt.cU;rw[if_neg (fun hh=>hh ⟨by decide,by decide,b1⟩),if_neg om]
  rw[hm] at hK;have hml:(k.t.make 0 d.core).bz.length=k.t.bz.length+1:=by unfold Th.Mt.make;simp
  refine ⟨_,rfl,_,h.aq rfl,_,rfl,_,h.ao rfl,_,rfl, ?_⟩;rw[show IntKind.i64.wrap ((k.t.bz.length:Int)+1)=(((k.t.make 0 d.core).bz.length:Nat):Int) from by rw[wr om om,hml];simp];refine h.cC rfl rfl fun w h=>?_
  refine h.dr fun w h=>?_
  (dsimp only[bm,ag,putAt,List.set_cons_zero,List.set_cons_succ,Nat.zero_add] at h)
  refine ⟨_,rfl,_,h.aq rfl,_,rfl,_,h.ao rfl,_,rfl,_,h.ao rfl, ?_,trivial⟩;refine Th.Hp hk.inv.ok (h.pick (A:=Th.aY x.t k.t)) fun w h=>?_
  rw[hm] at h⊢;dsimp only at h⊢;refine hK w ((show Ow B w0 w (aj bk { k with t:=k.t.make 0 d.core}::aa bd (ag bk d ec wv wk fs)::R) from Ow.bD x h.sub).sub)
 rw[if_neg e3] at hK;refine gz (fun e4=>?_) (fun e4=>?_)
 ·rw[if_pos e4] at hK
  have hpl:=(h.pick (A:=ar cd x.pe k.ends)).ff;refine h.dr fun w h=>?_
  refine ⟨_,rfl,_,rfl,_,h.aq rfl,_,h.aq rfl,_,rfl,x.se,h.ao rfl, ?_,trivial⟩;refine nR h fun p w h=>?_
  refine ⟨h.ao rfl,h.aq rfl,h.aq rfl, ?_,trivial⟩;refine h.al fun w2 h=>⟨?_,trivial⟩
  generalize w.heap.size=g at h⊢;refine Di (s:=x.se) (y:=p) h om fun s' w hs' h=>?_
  refine ⟨h.aq rfl,_,rfl, ?_,trivial⟩;refine h.cC rfl rfl fun w h=>?_
  refine ⟨_,rfl,_,h.aq rfl,_,rfl,s',h.ao rfl, ?_⟩;rw[hs',show IntKind.i64.wrap (((x.pe.length+1:Nat):Int)-1)=(k.ends.length:Int) from by rw[wr om om];omega]
  (dsimp only[bm,ag,putAt,List.set_cons_zero,List.set_cons_succ,Nat.zero_add] at h)
  have h:=Ow.pz ((h.pick (A:=ar cd x.pe k.ends)).pick (A:=cd p ⟨[],false⟩));refine hK w ((show Ow B w0 w (aj bk { k with ends:=k.ends++ [⟨[],false⟩]}::aa bd (ag bk d ec wv wk fs)::R) from Ow.bD { x with se:=s',pe:=x.pe++ [p]} h.sub).sub)
 rw[if_neg e4] at hK;refine gz (fun e5=>?_) (fun e5=>?_)
 ·rw[if_pos e5] at hK
  have hpl:=(h.pick (A:=ar bF x.pn k.notes)).ff;refine h.dr fun w h=>?_
  refine ⟨_,rfl,_,rfl,_,h.aq rfl,_,h.aq rfl,_,rfl,x.sn,h.ao rfl, ?_,trivial⟩;refine rB h fun p w h=>?_
  refine ⟨h.ao rfl,h.aq rfl,h.aq rfl, ?_,trivial⟩;refine h.al fun w2 h=>⟨?_,trivial⟩
  generalize w.heap.size=g at h⊢;refine BJ (s:=x.sn) (y:=p) h om fun s' w hs' h=>?_
  refine ⟨h.aq rfl,_,rfl, ?_,trivial⟩;refine h.cC rfl rfl fun w h=>?_
  refine ⟨_,rfl,_,h.aq rfl,_,rfl,s',h.ao rfl, ?_⟩;rw[hs',show IntKind.i64.wrap (((x.pn.length+1:Nat):Int)-1)=(k.notes.length:Int) from by rw[wr om om];omega]
  (dsimp only[bm,ag,putAt,List.set_cons_zero,List.set_cons_succ,Nat.zero_add] at h)
  have h:=Ow.pz ((h.pick (A:=ar bF x.pn k.notes)).pick (A:=bF p ⟨0,false,[]⟩));refine hK w ((show Ow B w0 w (aj bk { k with notes:=k.notes++ [⟨0,false,[]⟩]}::aa bd (ag bk d ec wv wk fs)::R) from Ow.bD { x with sn:=s',pn:=x.pn++ [p]} h.sub).sub)
 rw[if_neg e5] at hK;refine gz (fun e8=>?_) (fun e8=>?_)
 ·rw[if_pos e8] at hK
  have hpl:=(h.pick (A:=ar Tb.bc x.ps k.ae)).ff;refine h.dr fun w h=>?_
  refine ⟨_,rfl,_,rfl,_,h.aq rfl,_,h.aq rfl,_,rfl,x.ss,h.ao rfl, ?_,trivial⟩;refine Tb.gD h fun p w h=>?_
  refine ⟨h.ao rfl,h.aq rfl,h.aq rfl, ?_,trivial⟩;refine h.al fun w2 h=>⟨?_,trivial⟩
  generalize w.heap.size=g at h⊢;refine zh (s:=x.ss) (y:=p) h om fun s' w hs' h=>?_
  refine ⟨h.aq rfl,_,rfl, ?_,trivial⟩;refine h.cC rfl rfl fun w h=>?_
  refine ⟨_,rfl,_,h.aq rfl,_,rfl,s',h.ao rfl, ?_⟩;rw[hs',show IntKind.i64.wrap (((x.ps.length+1:Nat):Int)-1)=(k.ae.length:Int) from by rw[wr om om];omega]
  (dsimp only[bm,ag,putAt,List.set_cons_zero,List.set_cons_succ,Nat.zero_add] at h)
  have h:=Ow.pz ((h.pick (A:=ar Tb.bc x.ps k.ae)).pick (A:=Tb.bc p Tb.kM));refine hK w ((show Ow B w0 w (aj bk { k with ae:=k.ae++ [Tb.kM]}::aa bd (ag bk d ec wv wk fs)::R) from Ow.bD { x with ss:=s',ps:=x.ps++ [p]} h.sub).sub)
 rw[if_neg e8] at hK;refine gz (fun e6=>?_) (fun e6=>?_)
 ·rw[if_pos e6] at hK
  refine ⟨_,rfl,_,h.aq rfl,_,rfl,_,h.ao rfl,_,rfl, ?_⟩;rw[show IntKind.i64.wrap ((k.bg:Int)+1)=((k.bg+1:Nat):Int) from by rw[wr om om];omega];refine h.cC rfl rfl fun w h=>?_
  refine ⟨_,rfl,_,h.aq rfl,_,rfl,_,h.ao rfl, ?_⟩;rw[show IntKind.i64.wrap (((k.bg+1:Nat):Int)-1)=(k.bg:Int) from by rw[wr om om];omega]
  (dsimp only[bm,ag,putAt,List.set_cons_zero,List.set_cons_succ,Nat.zero_add] at h)
  refine hK w ((show Ow B w0 w (aj bk { k with bg:=k.bg+1}::aa bd (ag bk d ec wv wk fs)::R) from Ow.bD x h.sub).sub)
 ·rw[if_neg e6] at hK
  refine ⟨_,rfl,_,h.aq rfl,_,rfl,_,h.ao rfl,_,rfl, ?_⟩;rw[show IntKind.i64.wrap ((k.dN:Int)+1)=((k.dN+1:Nat):Int) from by rw[wr om om];omega];refine h.cC rfl rfl fun w h=>?_
  refine ⟨_,rfl,_,h.aq rfl,_,rfl,_,h.ao rfl, ?_⟩;rw[show IntKind.i64.wrap (((k.dN+1:Nat):Int)-1)=(k.dN:Int) from by rw[wr om om];omega]
  (dsimp only[bm,ag,putAt,List.set_cons_zero,List.set_cons_succ,Nat.zero_add] at h)
  refine hK w ((show Ow B w0 w (aj bk { k with dN:=k.dN+1}::aa bd (ag bk d ec wv wk fs)::R) from Ow.bD x h.sub).sub)
end
theorem gk {a n:Int} (ha:1≤a/\a≤9) (hn:0≤n/\n<2147483648):Sl.ct ⟨a,n,7,0,0,0⟩=0:=by
 have hg:Sl.iA 0 0=true:=by decide
 unfold Sl.ct;split
 ·rfl
 ·rw[if_neg]
  have:a=1∨a=2∨a=3∨a=4∨a=5∨a=6∨a=7∨a=8∨a=9:=by omega
  unfold Sl.iu;rcases this with rfl|rfl|rfl|rfl|rfl|rfl|rfl|rfl|rfl<;>simp[hn.1,hn.2,hg,Sl.eD,Sl.eN]
theorem nQ {a n:Int}:Sl.hI ⟨a,n,7,0,0,0⟩:=⟨by show (0:Int)≤0;decide,by show (0:Int)<_;decide,by show (0:Int)≤0;decide,by show (0:Int)<_;decide⟩
section
variable {N:Nat} {k:ai}
theorem fz {a n:Int} (h0:0≤n) (h1:a=1->n<(k.u.length:Int)) (h2:a=2->n<(k.bits.length:Int)) (h3:a=3->n<(k.t.bz.length:Int)) (h4:a=4->n<(k.ends.length:Int)) (h5:a=5->n<(k.notes.length:Int))
  (h6:a=6->n<(k.bg:Int)) (h7:a=7->n<(k.dN:Int)) (h8:a=8->n<(k.ae.length:Int)) (h9:a=9->n<8):k.fR ⟨a,n,7,0,0,0⟩:=⟨h0,h1,h2,h3,h4,h5,h6,h7,h8,h9⟩
theorem aV.Fc (h:aV N k) {l:List tU} (hl:∀x∈l,xa x) (hg:k.u.length≤l.length) (hm:l.length≤N):aV N { k with u:=l}:=
 h.same (k':={ k with u:=l}) rfl rfl rfl ⟨hg,Nat.le_refl _,Nat.le_refl _,Nat.le_refl _,Nat.le_refl _,Nat.le_refl _,Nat.le_refl _,Nat.le_refl _⟩ h.inv h.ln h.C1 hl h.z8 hm h.ne h.nn h.ns h.nf h.nt h.el h.nl
theorem Ek (hi:Th.bG (-1) k.t) {c:Int} (h1:k.t.fP c=true) (h2:k.t.bz.length<64):k.t.cU 0 c=((k.t.bz.length:Int),0,k.t.make 0 c):=by
 unfold Th.Mt.cU;rw[if_neg (fun hh=>hh ⟨by decide,by decide,h1⟩),if_neg om]
theorem aV.made (h:aV N k) (hN:N≤100000) {core a b:Int} {at_:Nat} (ha:1≤a/\a≤8) (hr:k.A5 core a b) (hu:a=1->xa ⟨at_,b.toNat,0⟩):
  aV (N+1) (k.made core a b at_).2/\Gr k (k.made core a b at_).2/\(k.made core a b at_).2.H=k.H/\(k.made core a b at_).2.T=k.T/\(k.made core a b at_).2.fR ⟨a,(k.made core a b at_).1,7,0,0,0⟩/\
   (k.made core a b at_).2.bits.length≤k.bits.length+1/\(k.made core a b at_).2.t.bz.length≤k.t.bz.length+1/\(k.made core a b at_).2.t.qs.length=k.t.qs.length/\(k.made core a b at_).1≤200000:=by
 have hM:=h.mono (Nat.le_succ N);have h1:=h.nu;have h2:=h.ne;have h3:=h.nn;have h4:=h.ns;have h5:=h.nf;have h6:=h.nt;have hbl:=h.pv.gA;have htl:=h.inv.ok.gA;obtain ⟨r1,r2,r3⟩:=hr;have noty:∀{p:Prop},a≠a->p:=fun hh=>absurd rfl hh
 unfold ai.made;by_cases e:a=1
 ·rw[if_pos e]
  subst e;refine ⟨hM.Fc (fun x hx=>?_) (by simp) (by simp;omega),⟨by simp,Nat.le_refl _,Nat.le_refl _,Nat.le_refl _,Nat.le_refl _,Nat.le_refl _,Nat.le_refl _,Nat.le_refl _⟩,rfl,rfl, ?_,by dsimp only;omega,by dsimp only;omega,rfl,by dsimp only;omega⟩
  ·rcases List.mem_append.1 hx with hx|hx
   ·exact h.u x hx
   ·rw[List.mem_singleton.1 hx];exact hu rfl
  ·dsimp only
   refine fz ?_ ?_ ?_ ?_ ?_ ?_ ?_ ?_ ?_ ?_<;>(try simp)<;>(try omega)
 rw[if_neg e];by_cases e2:a=2
 ·rw[if_pos e2]
  subst e2;obtain ⟨b1,b2,b3⟩:=r2 rfl
  have hm:Sl.gI k.bits b=((k.bits.length:Int),0,k.bits++ [b]):=by
   unfold Sl.gI;rw[if_neg om,if_neg om]
  rw[hm];have hG:Gr k { k with bits:=k.bits++ [b]}:=⟨Nat.le_refl _,by simp,Nat.le_refl _,Nat.le_refl _,Nat.le_refl _,Nat.le_refl _,Nat.le_refl _,Nat.le_refl _⟩
  refine ⟨{ hM with b0:= ?_,pv:=h.pv.make b1 b2 b3,held:=fun s c hc=>⟨(h.held s c hc).1,hG.obj (h.held s c hc).2⟩},hG,rfl,rfl, ?_,by simp,by dsimp only;omega,rfl,by dsimp only;omega⟩
  ·dsimp only
   rw[List.getElem?_append_left (by have:=(List.getElem?_eq_some_iff.1 h.b0).1;omega)];exact h.b0
  ·dsimp only
   refine fz ?_ ?_ ?_ ?_ ?_ ?_ ?_ ?_ ?_ ?_<;>(try simp)<;>(try omega)
 rw[if_neg e2];by_cases e3:a=3
 ·rw[if_pos e3]
  subst e3;obtain ⟨b1,b2⟩:=r3 rfl;rw[Ek h.inv b1 b2];have hml:(k.t.make 0 core).bz.length=k.t.bz.length+1:=by unfold Th.Mt.make;simp
  have hG:Gr k { k with t:=k.t.make 0 core}:=⟨Nat.le_refl _,Nat.le_refl _,by dsimp only;omega,Nat.le_refl _,Nat.le_refl _,Nat.le_refl _,Nat.le_refl _,Nat.le_refl _⟩
  refine ⟨{ hM with inv:=h.inv.make b2 b1 (by decide),held:=fun s c hc=>⟨(h.held s c hc).1,hG.obj (h.held s c hc).2⟩},hG,rfl,rfl, ?_,by dsimp only;omega,by dsimp only;omega,rfl,by dsimp only;omega⟩
  ·dsimp only
   refine fz ?_ ?_ ?_ ?_ ?_ ?_ ?_ ?_ ?_ ?_<;>(try simp)<;>(try omega)
 rw[if_neg e3];by_cases e4:a=4
 ·rw[if_pos e4]
  subst e4;have hG:Gr k { k with ends:=k.ends++ [⟨[],false⟩]}:=⟨Nat.le_refl _,Nat.le_refl _,Nat.le_refl _,by simp,Nat.le_refl _,Nat.le_refl _,Nat.le_refl _,Nat.le_refl _⟩
  refine ⟨{ hM with ne:=by simp;omega,el:=fun p hp=>?_,held:=fun s c hc=>⟨(h.held s c hc).1,hG.obj (h.held s c hc).2⟩},hG,rfl,rfl, ?_,by dsimp only;omega,by dsimp only;omega,rfl,by dsimp only;omega⟩
  ·rcases List.mem_append.1 hp with hp|hp
   ·exact hM.el p hp
   ·rw[List.mem_singleton.1 hp];simp
  ·dsimp only
   refine fz ?_ ?_ ?_ ?_ ?_ ?_ ?_ ?_ ?_ ?_<;>(try simp)<;>(try omega)
 rw[if_neg e4];by_cases e5:a=5
 ·rw[if_pos e5]
  subst e5;have hG:Gr k { k with notes:=k.notes++ [⟨0,false,[]⟩]}:=⟨Nat.le_refl _,Nat.le_refl _,Nat.le_refl _,Nat.le_refl _,by simp,Nat.le_refl _,Nat.le_refl _,Nat.le_refl _⟩
  refine ⟨{ hM with nn:=by simp;omega,nl:=fun p hp=>?_,C1:=fun x hx hx2=>?_,held:=fun s c hc=>⟨(h.held s c hc).1,hG.obj (h.held s c hc).2⟩},hG,rfl,rfl, ?_,by dsimp only;omega,by dsimp only;omega,rfl,by dsimp only;omega⟩
  ·have:=h.C1 x hx hx2
   dsimp only;rw[List.length_append];exact ⟨this.1,by have:=this.2;simp;omega⟩
  ·rcases List.mem_append.1 hp with hp|hp
   ·exact hM.nl p hp
   ·rw[List.mem_singleton.1 hp];simp
  ·dsimp only
   refine fz ?_ ?_ ?_ ?_ ?_ ?_ ?_ ?_ ?_ ?_<;>(try simp)<;>(try omega)
 rw[if_neg e5];by_cases e8:a=8
 ·rw[if_pos e8]
  subst e8;have hG:Gr k { k with ae:=k.ae++ [Tb.kM]}:=⟨Nat.le_refl _,Nat.le_refl _,Nat.le_refl _,Nat.le_refl _,Nat.le_refl _,Nat.le_refl _,Nat.le_refl _,by simp⟩
  refine ⟨{ hM with ns:=by simp;omega,z8:=fun p hp=>?_,held:=fun s c hc=>⟨(h.held s c hc).1,hG.obj (h.held s c hc).2⟩},hG,rfl,rfl, ?_,by dsimp only;omega,by dsimp only;omega,rfl,by dsimp only;omega⟩
  ·rcases List.mem_append.1 hp with hp|hp
   ·exact hM.z8 p hp
   ·rw[List.mem_singleton.1 hp];exact Tb.fM.new
  ·dsimp only
   refine fz ?_ ?_ ?_ ?_ ?_ ?_ ?_ ?_ ?_ ?_<;>(try simp)<;>(try omega)
 rw[if_neg e8];by_cases e6:a=6
 ·rw[if_pos e6]
  subst e6;have hG:Gr k { k with bg:=k.bg+1}:=⟨Nat.le_refl _,Nat.le_refl _,Nat.le_refl _,Nat.le_refl _,Nat.le_refl _,by dsimp only;omega,Nat.le_refl _,Nat.le_refl _⟩
  refine ⟨{ hM with nf:=by dsimp only;omega,held:=fun s c hc=>⟨(h.held s c hc).1,hG.obj (h.held s c hc).2⟩},hG,rfl,rfl, ?_,by dsimp only;omega,by dsimp only;omega,rfl,by dsimp only;omega⟩
  ·dsimp only
   refine fz ?_ ?_ ?_ ?_ ?_ ?_ ?_ ?_ ?_ ?_<;>(try simp)<;>(try omega)
 ·rw[if_neg e6]
  have e7:a=7:=by omega
  subst e7;have hG:Gr k { k with dN:=k.dN+1}:=⟨Nat.le_refl _,Nat.le_refl _,Nat.le_refl _,Nat.le_refl _,Nat.le_refl _,Nat.le_refl _,by dsimp only;omega,Nat.le_refl _⟩
  refine ⟨{ hM with nt:=by dsimp only;omega,held:=fun s c hc=>⟨(h.held s c hc).1,hG.obj (h.held s c hc).2⟩},hG,rfl,rfl, ?_,by dsimp only;omega,by dsimp only;omega,rfl,by dsimp only;omega⟩
  ·dsimp only
   refine fz ?_ ?_ ?_ ?_ ?_ ?_ ?_ ?_ ?_ ?_<;>(try simp)<;>(try omega)
theorem Ej {core a b:Int} {at_:Nat} (ho:(k.made core a b at_).2.fR ⟨a,(k.made core a b at_).1,7,0,0,0⟩):0≤(k.made core a b at_).1:=ho.1
def ai.lG (core a b w:Int) (s:Slot) (j:Nat) (at_:Nat) (k:ai):ai:=(k.made core a b at_).2.laid s (0,w+(j:Int)) ⟨a,(k.made core a b at_).1,7,0,0,0⟩
theorem aV.lG (h:aV N k) (hN:N≤100000) {core a b w:Int} {s:Slot} {j at_:Nat} (ha:1≤a/\a≤8) (hr:k.A5 core a b) (hu:a=1->xa ⟨at_,b.toNat,0⟩) (hs:(k.H s).isSome=true)
  (hw:0≤w/\w+(j:Int)<64) (hn:k.H (0,w+(j:Int))=none):
  aV (N+1) (k.lG core a b w s j at_)/\Gr k (k.lG core a b w s j at_)/\(k.lG core a b w s j at_).H=Sl.cW k.H (0,w+(j:Int)) (some ⟨a,(k.made core a b at_).1,7,0,0,0⟩)/\
   (k.lG core a b w s j at_).bits.length≤k.bits.length+1/\(k.lG core a b w s j at_).t.bz.length≤k.t.bz.length+1/\(k.lG core a b w s j at_).t.qs.length=k.t.qs.length:=by
 obtain ⟨m1,m2,m3,m4,m5,m6,m7,m8,m9⟩:=h.made hN ha hr hu
 have hl:=m1.laid (f:=s) (t:=(0,w+(j:Int))) (c:=⟨a,(k.made core a b at_).1,7,0,0,0⟩) (by rw[m3];exact hs) ⟨rfl,by show 0≤w+(j:Int);omega,hw.2⟩ (by rw[m3];exact hn)
  (gk ⟨ha.1,om⟩ ⟨Ej m5,om⟩) (show a≠0 by omega) nQ m5
 refine ⟨hl.1,⟨m2.u,m2.b,m2.t,m2.e,m2.n,m2.f,m2.tb,m2.s⟩, ?_,m6,m7,m8⟩;show (ai.laid _ _ _ _).H=_;rw[hl.2,m3]
end
structure tN (core a b w:Int) (s:Slot) (ats:List Nat) (j M:Nat) (k:ai):Prop where
 ok:aV M k
 le:M+ats.length≤100000
 kind:1≤a/\a≤8
 r1:a=1->0≤b/\∀x∈ats,xa ⟨x,b.toNat,0⟩
 r2:a=2->1≤b/\b≤8/\k.bits.length+ats.length≤64
 r3:a=3->k.t.fP core=true/\k.t.bz.length+ats.length≤64
 hs:(k.H s).isSome=true
 w0:0≤w
 w1:w+(j:Int)+(ats.length:Int)≤64
 fr:∀i:Nat,i<ats.length->k.H (0,w+((j+i:Nat):Int))=none
theorem tN.room {core a b w:Int} {s:Slot} {x:Nat} {ats:List Nat} {j M:Nat} {k:ai} (h:tN core a b w s (x::ats) j M k):k.A5 core a b/\(a=1->xa ⟨x,b.toNat,0⟩)/\(w+(j:Int)<64)/\k.H (0,w+(j:Int))=none:=by
 have h1:=h.r1;have h2:=h.r2;have h3:=h.r3;have h4:=h.w1;have h5:=h.fr 0 (by simp);simp only[List.length_cons] at h2 h3 h4;exact ⟨⟨fun e=>(h1 e).1,fun e=>⟨(h2 e).1,(h2 e).2.1,by have:=(h2 e).2.2;omega⟩,fun e=>⟨(h3 e).1,by have:=(h3 e).2;omega⟩⟩,fun e=>(h1 e).2 x List.mem_cons_self,om,by simpa using h5⟩
theorem tN.step {core a b w:Int} {s:Slot} {x:Nat} {ats:List Nat} {j M:Nat} {k:ai} (h:tN core a b w s (x::ats) j M k):tN core a b w s ats (j+1) (M+1) (k.lG core a b w s j x):=by
 obtain ⟨g1,g2,g3,g4⟩:=h.room;have hle:=h.le;have hw1:=h.w1;have hr2:=h.r2;have hr3:=h.r3;simp only[List.length_cons] at hle hw1 hr2 hr3;obtain ⟨m1,m2,m3,m4,m5,m6⟩:=h.ok.lG om h.kind g1 g2 h.hs ⟨h.w0,g3⟩ g4;refine ⟨m1,om,h.kind,fun e=>⟨(h.r1 e).1,fun y hy=>(h.r1 e).2 y (List.mem_cons_of_mem _ hy)⟩,fun e=>⟨(hr2 e).1,(hr2 e).2.1,by have:=(hr2 e).2.2;omega⟩,fun e=>⟨?_,by have:=(hr3 e).2;omega⟩, ?_,h.w0,om,fun i hi=>?_⟩
 ·have:=(hr3 e).1
  unfold Th.Mt.fP at this⊢;rw[m6];exact this
 ·rw[m3]
  unfold Sl.cW;split
  ·rfl
  ·exact h.hs
 ·rw[m3]
  unfold Sl.cW;rw[if_neg (fun e=>by have:=congrArg Prod.snd e;dsimp only at this;omega)];have:=h.fr (i+1) (by simp;omega)
  rwa [show j+(i+1)=j+1+i from by omega] at this
theorem tN.all {core a b w:Int} {s:Slot}:∀{ats:List Nat} {j M:Nat} {k:ai},tN core a b w s ats j M k->aV (M+ats.length) (ai.makes core a b w s ats j k)
 | [],j,M,k,h=>h.ok
 |x::ats,j,M,k,h=>by
  have:=tN.all h.step;rw[show M+1+ats.length=M+(x::ats).length from by simp;omega] at this;exact this
theorem E1 {a b:Int} (h:(fk a b).2=0):(1≤a/\a≤8)/\(a=1->4≤b/\b≤20/\(fk a b).1=b)/\(a=2->1≤b/\b≤8):=by
 unfold fk at*
 by_cases e1:a=1
 ·rw[if_pos e1] at h⊢
  split at h
  ·rename_i hb
   rw[if_pos hb];exact ⟨om,fun _=>⟨hb.1,hb.2,rfl⟩,om⟩
  ·cases h
 rw[if_neg e1] at h⊢;by_cases e2:a=2
 ·rw[if_pos e2] at h⊢
  split at h
  ·rename_i hb
   exact ⟨om,om,fun _=>hb⟩
  ·cases h
 rw[if_neg e2] at h⊢;refine ⟨?_,fun e=>absurd e e1,fun e=>absurd e e2⟩;split at h
 ·omega
 split at h
 ·omega
 split at h
 ·omega
 ·cases h
section
variable {B:Nat} {w0 w:World} {R L:List az} {bd bk:Nat} {k:ai} {d:kQ} {ec wv wk:Int} {fs:Sl} {N:Nat}
theorem aV.kq (hk:aV N k) {n:Int} (h0:0≤n) (h1:n<(k.u.length:Int)):k.u[n.toNat]?=some (k.kq n)/\xa (k.kq n):=by
 have hx:k.u[n.toNat]?=some k.u[n.toNat]:=gE om;unfold ai.kq;rw[hx];exact ⟨rfl,hk.u _ (List.getElem_mem _)⟩
theorem ou (hk:aV N k) (hN:N+64≤100000) (hs:(k.H d.s).isSome=true) (hc:d.c.kind=1) (ho:k.fR d.c) (hcore:k.t.fP d.core=true)
  (h0:(bE (k.kq d.c.obj) d.call.a d.call.b d.call.c).2.2=0) (h1:k.fG d.call.ak d.call.c.toNat=0) (h2:¬((d.call.a=2/\64<(k.bits.length:Int)+d.call.c)∨(d.call.a=3/\64<(k.t.bz.length:Int)+d.call.c))):
  tN d.core d.call.a d.call.b d.call.ak d.s (bE (k.kq d.c.obj) d.call.a d.call.b d.call.c).1 0 N { k with u:=k.u.set d.c.obj.toNat (bE (k.kq d.c.obj) d.call.a d.call.b d.call.c).2.1}:=by
 obtain ⟨hu1,hu2⟩:=hk.kq ho.1 (ho.2.1 hc);obtain ⟨p1,p2,p3,p4,p5,p6⟩:=hu2.place h0;obtain ⟨s1,s2,s3⟩:=E1 p5;obtain ⟨f1,f2,f3⟩:=hk.uE h1;refine ⟨hk.Fc (fun x hx=>?_) (by simp) (by simpa using hk.nu),om,s1,fun e=>⟨by have:=s2 e;omega,fun x hx=>?_⟩,fun e=>⟨(s3 e).1,(s3 e).2, ?_⟩,fun e=>⟨hcore, ?_⟩,hs,f1,by rw[p4];omega,fun i hi=>?_⟩
 ·rcases List.mem_or_eq_of_mem_set hx with hx|hx
  ·exact hk.u x hx
  ·rw[hx];exact p3
 ·obtain ⟨q1,q2⟩:=p6 x hx
  rw[(s2 e).2.2] at q1 q2;exact ⟨by show d.call.b.toNat≤20;have:=s2 e;omega,q2,q1,Nat.zero_le _⟩
 ·dsimp only;rw[p4];omega
 ·dsimp only;rw[p4];omega
 ·rw[p4] at hi
  have:=f3 i hi
  rwa [show ((0+i:Nat):Int)=(i:Int) from by omega]
theorem aV.fo (hk:aV N k) (hN:N+64≤100000) (hs:(k.H d.s).isSome=true) (hc:d.c.kind=1) (ho:k.fR d.c) (hcore:k.t.fP d.core=true):aV (N+64) (k.fo d).2:=by
 unfold ai.fo;by_cases h0:(bE (k.kq d.c.obj) d.call.a d.call.b d.call.c).2.2≠0
 ·rw[if_pos h0];exact hk.mono om
 rw[if_neg h0];by_cases h1:k.fG d.call.ak d.call.c.toNat≠0
 ·rw[if_pos h1];exact hk.mono om
 rw[if_neg h1];split
 ·exact hk.mono om
 rename_i h2;have hm:=ou hk hN hs hc ho hcore om om h2;obtain ⟨hu1,hu2⟩:=hk.kq ho.1 (ho.2.1 hc);obtain ⟨p1,p2,p3,p4,p5,p6⟩:=hu2.place (show (bE (k.kq d.c.obj) d.call.a d.call.b d.call.c).2.2=0 by omega);exact hm.all.mono (by rw[p4];omega)
theorem yn {K:Int->Pw} (hk:aV N k) (hN:N+64≤100000) (hs:(k.H d.s).isSome=true) (hc:d.c.kind=1) (ho:k.fR d.c) (hcore:k.t.fP d.core=true)
  (hw0: -9223372036854775808≤d.call.ak) (hw1:d.call.ak<9223372036854775808) (h:Ow B w0 w (aa bd (ag bk d ec wv wk fs)::aj bk k::R))
  (hK:∀w',Ow B w0 w' (aa bd (ag bk d ec wv wk fs)::aj bk (k.fo d).2::R)->K (k.fo d).1 w'):C.qaV (some ⟨bd,0,none⟩) K w:=by
 apply S.qaV0;obtain ⟨hu1,hu2⟩:=hk.kq ho.1 (ho.2.1 hc);have o0:=ho.1;have o1:=ho.2.1 hc;have hst:=ou (d:=d) hk hN hs hc ho hcore;have hpl:=hu2.place (kind:=d.call.a) (bits:=d.call.b) (n:=d.call.c);unfold ai.fo at hK;refine ⟨_,rfl, ?_⟩;refine eL (h.aU rfl ?_);refine h.a fun cb w1 h=>?_;refine h.ax rfl rfl fun w h=>?_
 (try dsimp only[putAt,List.set_cons_zero,List.set_cons_succ] at h)
 intro k11 hk11
 have fin:∀(l:Nat) (s:Sl) (w:World),Ow B w0 w (aa l [.y ((bE (k.kq d.c.obj) d.call.a d.call.b d.call.c).2.1.base:Int), .z ((bE (k.kq d.c.obj) d.call.a d.call.b d.call.c).2.1.bits:Int), .y ((bE (k.kq d.c.obj) d.call.a d.call.b d.call.c).2.1.used:Int)]::af wE s (bE (k.kq d.c.obj) d.call.a d.call.b d.call.c).1::
   aa cb [.z d.call.ask, .z d.call.at_, .z d.call.ak, .z d.call.a, .z d.call.b, .z d.call.c]::aa bd (ag bk d ec wv wk fs)::aj bk k::R)->k11 s ⟨l,0,none⟩ (bE (k.kq d.c.obj) d.call.a d.call.b d.call.c).2.2 w:=fun l s w h=>by
  apply hk11;generalize bE (k.kq d.c.obj) d.call.a d.call.b d.call.c=P at h hK hst hpl⊢;obtain ⟨ats,left,er⟩:=P;dsimp only at h hK hst hpl⊢;by_cases h0:er≠0
  ·rw[if_pos h0] at hK
   exact lj h0 (hK w h.sub)
  rw[if_neg h0] at hK;have h0:er=0:=by omega
  obtain ⟨p1,p2,p3,p4,p5,p6⟩:=hpl h0;refine fN h0 ⟨_,h.ao rfl, ?_⟩;obtain ⟨cn,hcn⟩:=Int.eq_ofNat_of_zero_le (show 0≤d.call.c by omega);have hcn2:d.call.c.toNat=cn:=by omega
  rw[hcn2] at hK;rw[hcn];refine free_spec (n:=cn) hk hw0 hw1 om ((h.pick (A:=aj bk k)).pick (A:=aa bd (ag bk d ec wv wk fs))) (fun hf s w h=>?_) (fun hf so w h=>?_)
  ·rw[if_pos hf] at hK
   exact lj hf (hK w h.sub)
  rw[if_neg om] at hK;refine fN rfl ?_;intro k20 hk20
  have kbad:((d.call.a=2/\64<(k.bits.length:Int)+d.call.c)∨(d.call.a=3/\64<(k.t.bz.length:Int)+d.call.c))->∀w,Ow B w0 w (aa bd (ag bk d ec wv wk fs)::aj bk k::R)->k20 true w:=fun hb w h=>by
   rw[if_pos hb] at hK;apply hk20;exact bP rfl (hK w h)
  have kgood:¬((d.call.a=2/\64<(k.bits.length:Int)+d.call.c)∨(d.call.a=3/\64<(k.t.bz.length:Int)+d.call.c))->∀w,Ow B w0 w (af bw so (bV d.call.ak cn)::aa l [.y (left.base:Int), .z (left.bits:Int), .y (left.used:Int)]::af wE s ats::
   aa cb [.z d.call.ask, .z d.call.at_, .z d.call.ak, .z d.call.a, .z d.call.b, .z d.call.c]::aa bd (ag bk d ec wv wk fs)::aj bk k::R)->k20 false w:=fun hb w h=>by
   rw[if_neg hb] at hK;have hst:=hst h0 (by rw[hcn2];exact hf) hb;apply hk20;refine bC rfl ?_;obtain ⟨x,h⟩:=(h.pick (A:=aj bk k)).uJ;refine h.dr fun w h=>?_
   refine ⟨_,rfl,_,h.aq rfl,_,rfl,x.su,h.ao rfl,_,rfl,_,aT (h.ao rfl), ?_⟩;refine h.ry rfl ?_;refine h.dV (s:=x.su) (i:=d.c.obj) (j:=d.c.obj.toNat) om hu1 fun a ha _ _=>⟨?_,trivial⟩
   refine h.yB (s:=x.su) (xs:=k.u) (i:=d.c.obj) (j:=d.c.obj.toNat) left om om ha fun w h=>?_
   have h:Ow B w0 w (aj bk { k with u:=k.u.set d.c.obj.toNat left}::af bw so (bV d.call.ak cn)::af wE s ats::
    aa cb [.z d.call.ask, .z d.call.at_, .z d.call.ak, .z d.call.a, .z d.call.b, .z d.call.c]::aa bd (ag bk d ec wv wk fs)::R):=Ow.bD x h.sub
   intro l35 hl35
   have loop:∀(r j M:Nat) (kj:ai) (w:World),j+r=cn->tN d.core d.call.a d.call.b d.call.ak d.s (ats.drop j) j M kj->ai.makes d.core d.call.a d.call.b d.call.ak d.s (ats.drop j) j kj=ai.makes d.core d.call.a d.call.b d.call.ak d.s ats 0 { k with u:=k.u.set d.c.obj.toNat left}->
     Ow B w0 w (aj bk kj::af bw so (bV d.call.ak cn)::af wE s ats::
    aa cb [.z d.call.ask, .z d.call.at_, .z d.call.ak, .z d.call.a, .z d.call.b, .z d.call.c]::aa bd (ag bk d ec wv wk fs)::R)->l35 (j:Int) w:=by
    intro r
    induction r with
    |zero=>
     intro j M kj w hj hm he h;have hlen:=h.br so;unfold bV at hlen;simp only[List.length_map,List.length_range] at hlen;apply hl35;refine aD om ?_;rw[List.drop_of_length_le om] at he;have he:kj=_:=he;refine hK w ?_;rw[←he];exact h.sub
    |succ r ih=>
     intro j M kj w hj hm he h;have hlen:=h.br so;have hlt:(bV d.call.ak cn).length=cn:=by unfold bV;simp
     have hx:(bV d.call.ak cn)[j]?=some (0,d.call.ak+(j:Int)):=by
      unfold bV;rw[List.getElem?_map,List.getElem?_range om];rfl
     have ha:ats[j]?=some ats[j]:=gE om;rw[List.drop_eq_getElem_cons (by omega:j<ats.length)] at hm he;generalize ats[j]=at_ at ha hm he;apply hl35;refine aR om ?_;refine h.dV (s:=so) rfl hx fun a1 ha1 _ hc1=>sI hc1 ?_
     refine h.a fun g w2 h=>?_;refine h.ax rfl rfl fun w h=>?_
     (try dsimp only[putAt,List.set_cons_zero,List.set_cons_succ] at h)
     refine h.dr fun w h=>?_
     refine h.dV (s:=s) rfl ha fun a2 ha2 h02 _=>⟨_,h02 _ rfl, ?_⟩
     refine h.aL rfl ⟨_,h.ao rfl, ?_,trivial⟩;refine Ch (at_:=at_) hm.ok (by have:=hm.le;omega) hm.room.1 ((h.pick (A:=aj bk kj)).pick (A:=aa bd (ag bk d ec wv wk fs))) fun w h=>?_
     refine ⟨h.ao rfl,h.hd rfl ⟨?_,trivial⟩⟩;obtain ⟨g1,g2,g3,g4⟩:=hm.room;obtain ⟨q1,q2,q3,q4,q5,q6,q7,q8,q9⟩:=hm.ok.made (by have:=hm.le;omega) hm.kind g1 g2;refine mg (k:=(kj.made d.core d.call.a d.call.b at_).2) (s:=(0,d.call.ak+(j:Int))) (c:=⟨d.call.a,(kj.made d.core d.call.a d.call.b at_).1,7,0,0,0⟩) nQ (by rw[q4];have:=hm.ok.gA;omega) h fun w h=>?_
     have h:Ow B w0 w (aa bd (ag bk d ec wv wk fs)::aj bk (kj.lG d.core d.call.a d.call.b d.call.ak d.s j at_)::_):=h;rw[wI j om];exact ih (j+1) (M+1) (kj.lG d.core d.call.a d.call.b d.call.ak d.s j at_) w om hm.step he h.sub
   exact loop cn 0 N _ w om hst rfl h
  obtain ⟨x,h⟩:=(h.pick (A:=aj bk k)).uJ;have hbl:=hk.pv.gA;have htl:=hk.inv.ok.gA;refine h.dr fun w h=>?_
  refine ⟨_,h.ao rfl, ?_⟩;refine gz (fun e2=>?_) (fun e2=>?_)
  ·refine ⟨_,rfl,_,h.aq rfl,_,rfl,_,h.ao rfl,_,h.ao rfl, ?_⟩
   rw[wr om om];refine dE (fun e3=>?_) (fun e3=>?_)
   ·exact kbad (.inl ⟨e2,om⟩) w ((show Ow B w0 w (aj bk k::aa bd (ag bk d ec wv wk fs)::R) from Ow.bD x h.sub).sub)
   ·refine ⟨_,h.ao rfl, ?_⟩
    refine vH om ?_
    exact kgood om w ((show Ow B w0 w (aj bk k::af bw so (bV d.call.ak cn)::aa l [.y (left.base:Int), .z (left.bits:Int), .y (left.used:Int)]::af wE s ats::
     aa cb [.z d.call.ask, .z d.call.at_, .z d.call.ak, .z d.call.a, .z d.call.b, .z d.call.c]::aa bd (ag bk d ec wv wk fs)::R) from Ow.bD x h.sub).sub)
  ·refine ⟨_,h.ao rfl, ?_⟩
   refine gz (fun e3=>?_) (fun e3=>?_)
   ·refine ⟨_,rfl,_,h.aq rfl,_,rfl,_,h.ao rfl,_,h.ao rfl, ?_⟩
    rw[wr om om];by_cases e4:64<(k.t.bz.length:Int)+d.call.c
    ·rw[decide_eq_true (show (k.t.bz.length:Int)+d.call.c>64 from e4)]
     exact kbad (.inr ⟨e3,om⟩) w ((show Ow B w0 w (aj bk k::aa bd (ag bk d ec wv wk fs)::R) from Ow.bD x h.sub).sub)
    ·rw[decide_eq_false (show ¬(k.t.bz.length:Int)+d.call.c>64 from e4)]
     exact kgood om w ((show Ow B w0 w (aj bk k::af bw so (bV d.call.ak cn)::aa l [.y (left.base:Int), .z (left.bits:Int), .y (left.used:Int)]::af wE s ats::
      aa cb [.z d.call.ask, .z d.call.at_, .z d.call.ak, .z d.call.a, .z d.call.b, .z d.call.c]::aa bd (ag bk d ec wv wk fs)::R) from Ow.bD x h.sub).sub)
   ·exact kgood om w ((show Ow B w0 w (aj bk k::af bw so (bV d.call.ak cn)::aa l [.y (left.base:Int), .z (left.bits:Int), .y (left.used:Int)]::af wE s ats::
     aa cb [.z d.call.ask, .z d.call.at_, .z d.call.ak, .z d.call.a, .z d.call.b, .z d.call.c]::aa bd (ag bk d ec wv wk fs)::R) from Ow.bD x h.sub).sub)
 obtain ⟨x,h⟩:=(h.pick (A:=aj bk k)).uJ;refine h.dr fun w h=>?_
 refine ⟨_,rfl,_,h.aq rfl,_,rfl,x.su,h.ao rfl,_,rfl,_,aT (h.ao rfl), ?_⟩;refine h.dV (s:=x.su) (i:=d.c.obj) (j:=d.c.obj.toNat) om hu1 fun a ha _ hcu=>?_
 refine ⟨_,hcu 0 _ rfl,_,hcu 1 _ rfl,_,hcu 2 _ rfl, ?_⟩;refine ⟨_,h.ao rfl,_,h.ao rfl,_,h.ao rfl, ?_, ?_,trivial⟩
 ·refine sd hu2 h fun s w h=>?_
  refine ⟨?_,trivial⟩;refine h.al fun w' h=>⟨?_,trivial⟩
  generalize w.heap.size=l at h⊢;refine h.ax rfl rfl fun w h=>?_
  (try dsimp only[putAt,List.set_cons_zero,List.set_cons_succ] at h)
  exact fin l s w ((show Ow B w0 w (aj bk k::aa l [.y ((bE (k.kq d.c.obj) d.call.a d.call.b d.call.c).2.1.base:Int), .z ((bE (k.kq d.c.obj) d.call.a d.call.b d.call.c).2.1.bits:Int), .y ((bE (k.kq d.c.obj) d.call.a d.call.b d.call.c).2.1.used:Int)]::af wE s (bE (k.kq d.c.obj) d.call.a d.call.b d.call.c).1::
   aa cb [.z d.call.ask, .z d.call.at_, .z d.call.ak, .z d.call.a, .z d.call.b, .z d.call.c]::aa bd (ag bk d ec wv wk fs)::R) from Ow.bD x h.sub).sub)
 ·refine h.al fun w' h=>⟨?_,trivial⟩
  generalize w.heap.size=l at h⊢;refine sd hu2 h fun s w h=>?_
  refine ⟨?_,trivial⟩;refine h.ax rfl rfl fun w h=>?_
  (try dsimp only[putAt,List.set_cons_zero,List.set_cons_succ] at h)
  exact fin l s w ((show Ow B w0 w (aj bk k::aa l [.y ((bE (k.kq d.c.obj) d.call.a d.call.b d.call.c).2.1.base:Int), .z ((bE (k.kq d.c.obj) d.call.a d.call.b d.call.c).2.1.bits:Int), .y ((bE (k.kq d.c.obj) d.call.a d.call.b d.call.c).2.1.used:Int)]::af wE s (bE (k.kq d.c.obj) d.call.a d.call.b d.call.c).1::
   aa cb [.z d.call.ask, .z d.call.at_, .z d.call.ak, .z d.call.a, .z d.call.b, .z d.call.c]::aa bd (ag bk d ec wv wk fs)::R) from Ow.bD x h.sub).sub)
end
section
variable {B:Nat} {w0 w:World} {R L:List az} {bd bk:Nat} {k:ai} {d:kQ} {ec wv wk:Int} {fs:Sl} {N:Nat}
theorem yJ (a:Int):bV a 1= [(0,a)]:=by simp[bV]
theorem oI (b:Int):0≤IntKind.u64.wrap b/\IntKind.u64.wrap b<18446744073709551616:=by
 have e1:(2:Int)^64=18446744073709551616:=by decide
 have h:IntKind.u64.wrap b=b%18446744073709551616:=by
  simp only[IntKind.wrap,IntKind.bits,IntKind.signed,e1,Bool.false_and,Bool.false_eq_true,if_false]
 rw[h];exact ⟨Int.emod_nonneg _ (by decide),Int.emod_lt_of_pos _ (by decide)⟩
theorem uX {c:dj} {r g:Int} (hc:Sl.hI c) (hg:0≤g/\g<18446744073709551616):Sl.hI (ai.fX c r g).1:=by
 have hz:Sl.hI Sl.ay:=⟨by decide,by decide,by decide,by decide⟩
 unfold ai.fX;split
 ·exact hz
 split
 ·exact hz
 split
 ·exact hz
 ·refine ⟨?_, ?_,hc.g0,hc.g1⟩
  ·dsimp only
   split
   ·exact hg.1
   ·exact hc.b0
  ·dsimp only
   split
   ·exact hg.2
   ·exact hc.b1
theorem Cn {K:Int->Pw} (hk:aV N k) (hc:Sl.hI d.c) (hw0: -9223372036854775808≤d.call.ak) (hw1:d.call.ak<9223372036854775808) (h:Ow B w0 w (aa bd (ag bk d ec wv wk fs)::aj bk k::R))
  (hK:∀w',Ow B w0 w' (aa bd (ag bk d ec wv wk fs)::aj bk (k.oe d).2::R)->K (k.oe d).1 w'):C.qbD (some ⟨bd,0,none⟩) K w:=by
 apply S.qbD0;unfold ai.oe at hK;have hr:=uX (r:=d.call.a) hc (oI d.call.b);have hfew:=hk.gA;refine ⟨_,rfl,_,h.ao rfl, ?_⟩;refine gz (fun e=>?_) (fun e=>?_)
 ·rw[if_pos e] at hK;exact hK w h
 rw[if_neg e] at hK;refine free_spec (n:=1) hk hw0 hw1 om h (fun hf s w h=>?_) (fun hf so w h=>?_)
 ·rw[if_pos hf] at hK
  exact lj hf (hK w h)
 rw[if_neg om] at hK;rw[yJ] at h;refine fN rfl ?_;intro k7 hk7
 have fin:∀(s:Nat) (w:World),Ow B w0 w (aa s (ai.fX d.c d.call.a (IntKind.u64.wrap d.call.b)).1.cells::af bw so [(0,d.call.ak)]::aa bd (ag bk d ec wv wk fs)::aj bk k::R)->k7 (ai.fX d.c d.call.a (IntKind.u64.wrap d.call.b)).2 ⟨s,0,none⟩ w:=fun s w h=>by
  apply hk7;by_cases he:(ai.fX d.c d.call.a (IntKind.u64.wrap d.call.b)).2≠0
  ·rw[if_pos he] at hK
   exact lj he (hK w h.sub)
  rw[if_neg he] at hK;refine fN om ?_;refine h.dr fun w h=>?_
  refine h.dV (s:=so) (i:=0) (j:=0) (x:=(0,d.call.ak)) rfl rfl fun a ha _ hc1=>sI hc1 ?_
  refine h.aU rfl ⟨?_,trivial⟩;refine mg (s:=(0,d.call.ak)) (c:=(ai.fX d.c d.call.a (IntKind.u64.wrap d.call.b)).1) hr om ((h.pick (A:=aj bk k)).pick (A:=aa bd (ag bk d ec wv wk fs))) fun w h=>?_
  exact hK w h.sub
 refine h.dr fun w h=>?_
 refine ⟨_,rfl, ?_⟩;refine eL (h.aU rfl ?_);refine ⟨_,rfl,_,aT (h.ao rfl),_,rfl,_,aT (h.ao rfl), ?_, ?_,trivial⟩
 ·refine uY hc h fun w x hx h=>?_
  subst hx;refine ⟨?_,trivial⟩;refine h.al fun w' h=>⟨?_,trivial⟩
  generalize w.heap.size=s at h⊢;refine h.ax rfl rfl fun w h=>?_
  (try dsimp only[putAt,List.set_cons_zero,List.set_cons_succ] at h)
  exact fin s w h
 ·refine h.al fun w' h=>⟨?_,trivial⟩
  generalize w.heap.size=s at h⊢;refine uY hc h fun w x hx h=>?_
  subst hx;refine ⟨?_,trivial⟩;refine h.ax rfl rfl fun w h=>?_
  (try dsimp only[putAt,List.set_cons_zero,List.set_cons_succ] at h)
  exact fin s w h
theorem Cp {K:Int->Pw} (hk:aV N k) (hw0: -9223372036854775808≤d.call.ak) (hw1:d.call.ak<9223372036854775808) (h:Ow B w0 w (aa bd (ag bk d ec wv wk fs)::aj bk k::R))
  (hK:∀w',Ow B w0 w' (aa bd (ag bk d ec wv wk fs)::aj bk (k.move d).2::R)->K (k.move d).1 w'):C.qbE (some ⟨bd,0,none⟩) K w:=by
 apply S.qbE0;unfold ai.move at hK;refine free_spec (n:=1) hk hw0 hw1 om h (fun hf s w h=>?_) (fun hf so w h=>?_)
 ·rw[if_pos hf] at hK
  exact lj hf (hK w h)
 rw[if_neg om] at hK;rw[yJ] at h;refine fN rfl ?_;obtain ⟨x,h⟩:=(h.pick (A:=aj bk k)).uJ;refine h.dr fun w h=>?_
 refine ⟨_,rfl,_,h.aq rfl,_,rfl,_,h.aq rfl,_,rfl, ?_⟩;refine eL (h.aL rfl ?_);refine h.dV (s:=so) (i:=0) (j:=0) (x:=(0,d.call.ak)) rfl rfl fun a ha _ hc1=>sI hc1 ⟨?_,trivial⟩
 refine Sl.kO (f:=d.s) (t:=(0,d.call.ak)) (h.pick (A:=Sl.av x.n k.bits k.H)) fun w h=>?_
 refine h.dr fun w h=>?_
 refine ⟨_,rfl,_,h.aq rfl,_,rfl,_,h.ao rfl,_,rfl, ?_⟩;refine eL (h.aL rfl ?_);refine h.dV (s:=so) (i:=0) (j:=0) (x:=(0,d.call.ak)) rfl rfl fun a ha _ hc1=>sI hc1 ⟨?_,trivial⟩
 refine Tr.tq (f:=d.s) (t:=(0,d.call.ak)) (h.pick (A:=Tr.bA x.tr k.T)) fun w h=>?_
 exact hK w ((show Ow B w0 w (aj bk { k with H:=(Sl.fj k.bits k.H d.s (0,d.call.ak)).2,T:=(Tr.fj k.T d.s (0,d.call.ak)).2}::aa bd (ag bk d ec wv wk fs)::R) from Ow.bD x h.sub).sub)
def iF {α:Type} (f:α->α) (j:Nat) (l:List α):List α:=(l.take j).map f++l.drop j
theorem sN {α:Type} (f:α->α) (l:List α):iF f 0 l=l:=by simp[iF]
theorem uS {α:Type} (f:α->α) {j:Nat} {l:List α} (h:l.length≤j):iF f j l=l.map f:=by unfold iF;rw[List.take_of_length_le h,List.drop_of_length_le h,List.append_nil]
theorem uT {α:Type} {f:α->α} {j:Nat} {l:List α} {x:α} (h:l[j]?=some x):(iF f j l)[j]?=some x/\(iF f j l).set j (f x)=iF f (j+1) l:=by
 have hj:=(List.getElem?_eq_some_iff.1 h).1;have hl:((l.take j).map f).length=j:=by simp;omega
 have hd:l.drop j=x::l.drop (j+1):=by
  rw[List.drop_eq_getElem_cons hj];congr 1;exact (List.getElem?_eq_some_iff.1 h).2
 unfold iF;refine ⟨?_, ?_⟩
 ·rw[List.getElem?_append_right om,hl,Nat.sub_self,hd];rfl
 ·rw[List.set_append_right _ _ om,hl,Nat.sub_self,hd,List.take_add_one,h,List.map_append]
  simp
theorem uU {α:Type} (f:α->α) (j:Nat) (l:List α):(iF f j l).length=l.length:=by unfold iF;simp;omega
theorem mV {id:Int} {K:Pw} (h:Ow B w0 w (aj bk k::R)) (hN:k.ends.length≤200000/\k.notes.length≤200000) (hK:∀w',Ow B w0 w' (aj bk (k.dY id)::R)->K w'):C.qah (some ⟨bk,0,none⟩) id K w:=by
 apply S.qah0;obtain ⟨x,h⟩:=h.uJ;have hle:=h.br x.se;have hln:=h.br x.sn;have hpe:=(h.pick (A:=ar cd x.pe k.ends)).ff;have hpn:=(h.pick (A:=ar bF x.pn k.notes)).ff;refine ⟨_,rfl,x.se,h.ao rfl, ?_⟩;intro l5 hl5;have loop:∀(m j:Nat) (w:World),j+m=k.ends.length->Ow B w0 w (aj bk { k with ends:=iF (·.cancel id) j k.ends}::R)->l5 (j:Int) w->True:=fun _ _ _ _ _ _=>trivial
 clear loop
 have loop:∀(m j:Nat) (w:World),j+m=k.ends.length->Ow B w0 w (aa bk (bm x k.bg k.dN k.bits.length k.t.bz.length)::Sl.av x.n k.bits k.H::Tr.bA x.tr k.T::Th.aY x.t k.t::bq x.ln k.ln::af fi x.su k.u::af cz x.se x.pe::ar cd x.pe (iF (·.cancel id) j k.ends)::af cz x.sn x.pn::ar bF x.pn k.notes::af cz x.ss x.ps::ar Tb.bc x.ps k.ae::R)->l5 (j:Int) w:=by
  intro m
  induction m with
  |zero=>
   intro j w hj h;apply hl5;refine aD om ?_;rw[uS _ om] at h;refine ⟨_,rfl,x.sn,h.ao rfl, ?_⟩;intro l14 hl14
   have loop2:∀(m j:Nat) (w:World),j+m=k.notes.length->Ow B w0 w (aa bk (bm x k.bg k.dN k.bits.length k.t.bz.length)::Sl.av x.n k.bits k.H::Tr.bA x.tr k.T::Th.aY x.t k.t::bq x.ln k.ln::af fi x.su k.u::af cz x.se x.pe::ar cd x.pe (k.ends.map (·.cancel id))::af cz x.sn x.pn::ar bF x.pn (iF (·.cancel id) j k.notes)::af cz x.ss x.ps::ar Tb.bc x.ps k.ae::R)->l14 (j:Int) w:=by
    intro m
    induction m with
    |zero=>
     intro j w hj h;apply hl14;refine aD om ?_;rw[uS _ om] at h;exact hK w (show Ow B w0 w (aj bk (k.dY id)::R) from Ow.bD x h)
    |succ m ih=>
     intro j w hj h;have hx:k.notes[j]?=some k.notes[j]:=gE om;have hp:x.pn[j]?=some x.pn[j]:=gE om;obtain ⟨g1,g2⟩:=uT (f:=(·.cancel id)) hx;apply hl14;refine aR om ?_;refine gT (s:=x.sn) h rfl hp fun a ha hc=>⟨_,hc, ?_⟩
     have h:=(h.pick (A:=ar bF x.pn (iF (·.cancel id) j k.notes))).pt hp g1;refine nk h fun r w h=>?_
     have h:=h.wo (by rw[uU];omega) hp;rw[g2] at h;rw[wI j om];exact ih (j+1) w om h.sub
   refine loop2 k.notes.length 0 w om ?_;rw[sN];exact h
  |succ m ih=>
   intro j w hj h;have hx:k.ends[j]?=some k.ends[j]:=gE om;have hp:x.pe[j]?=some x.pe[j]:=gE om;obtain ⟨g1,g2⟩:=uT (f:=(·.cancel id)) hx;apply hl5;refine aR om ?_;refine gT (s:=x.se) h rfl hp fun a ha hc=>⟨_,hc, ?_⟩
   have h:=(h.pick (A:=ar cd x.pe (iF (·.cancel id) j k.ends))).pt hp g1;refine lu h fun r w h=>?_
   have h:=h.wo (by rw[uU];omega) hp;rw[g2] at h;rw[wI j om];exact ih (j+1) w om h.sub
 refine loop k.ends.length 0 w om ?_;rw[sN];exact h
theorem jZ {sp:Int} {l:Int × Tb.Pg} {F:List dC} {K:Pw} (hF:F.length≤1000000000) (h:Ow B w0 w (aa bd (ag bk d ec wv wk fs)::af aw fs F::R))
  (hK:∀fs' w',Ow B w0 w' (aa bd (ag bk d ec wv wk fs')::af aw fs' (F++ [⟨sp,l.1,l.2.1,l.2.2⟩])::R)->K w'):C.qac (some ⟨bd,0,none⟩) sp l.1 l.2.1 l.2.2 K w:=by
 apply S.qac0;refine h.a fun c w1 h=>?_;refine h.dr fun w h=>?_
 refine ⟨_,rfl,fs,aT (h.ao rfl),_,h.aq rfl, ?_⟩;refine eL (h.aL rfl ⟨?_,trivial⟩);refine h.al fun w2 h=>⟨?_,trivial⟩
 generalize w.heap.size=g at h⊢;refine xf (s:=fs) (y:=⟨sp,l.1,l.2.1,l.2.2⟩) h om fun fs' w hs' h=>⟨_,rfl, ?_,trivial⟩
 refine oN ?_;refine h.cC rfl rfl fun w h=>?_
 (dsimp only[bm,ag,putAt,List.set_cons_zero,List.set_cons_succ,Nat.zero_add] at h)
 exact hK fs' w h.sub
end
section
variable {B:Nat} {w0 w:World} {R L:List az} {b:Nat} {k:ai}
theorem _root_.Go.Vc.Ow.mf (h:Ow B w0 w (aj b k::R)):∃(ss:Sl) (ps:List Nat) (Y:az),Ow B w0 w (af cz ss ps::ar Tb.bc ps k.ae::Y::R)/\w.cell? ((Addr.mk b 0 none).add 7)=some (.slice ss.a ss.len ss.cap)/\ps.length=k.ae.length/\
  ∀R' w' sp,Ow B w0 w' (af cz ss ps::ar Tb.bc ps sp::Y::R')->Ow B w0 w' (aj b { k with ae:=sp}::R'):=by
 obtain ⟨x,h⟩:=h.uJ;refine ⟨x.ss,x.ps,bh [aa b (bm x k.bg k.dN k.bits.length k.t.bz.length),Sl.av x.n k.bits k.H,Tr.bA x.tr k.T,Th.aY x.t k.t,bq x.ln k.ln,af fi x.su k.u,af cz x.se x.pe,ar cd x.pe k.ends,af cz x.sn x.pn,ar bF x.pn k.notes], ?_,h.ao rfl,(h.pick (A:=ar Tb.bc x.ps k.ae)).ff,fun R' w' sp h=>?_⟩
 ·exact Ow.dz (Ow.nC (Ow.dz (Ow.aX (show Ow B w0 w (aa b (bm x k.bg k.dN k.bits.length k.t.bz.length)::Sl.av x.n k.bits k.H::Tr.bA x.tr k.T::Th.aY x.t k.t::bq x.ln k.ln::af fi x.su k.u::af cz x.se x.pe::ar cd x.pe k.ends::af cz x.sn x.pn::ar bF x.pn k.notes::af cz x.ss x.ps::ar Tb.bc x.ps k.ae::R) from h.sub))))
 ·have h:Ow B w0 w' (aa b (bm x k.bg k.dN k.bits.length k.t.bz.length)::Sl.av x.n k.bits k.H::Tr.bA x.tr k.T::Th.aY x.t k.t::bq x.ln k.ln::af fi x.su k.u::af cz x.se x.pe::ar cd x.pe k.ends::af cz x.sn x.pn::ar bF x.pn k.notes::af cz x.ss x.ps::ar Tb.bc x.ps sp::R'):=(h.nC).star
  exact Ow.bD x h.sub
theorem _root_.Go.Vc.Ow.GR (h:Ow B w0 w (aj b k::R)):∃(ss:Sl) (ps:List Nat) (Y:az),Ow B w0 w (af cz ss ps::ar cd ps k.ends::Y::R)/\w.cell? ((Addr.mk b 0 none).add 5)=some (.slice ss.a ss.len ss.cap)/\ps.length=k.ends.length/\
  ∀R' w' sp,Ow B w0 w' (af cz ss ps::ar cd ps sp::Y::R')->Ow B w0 w' (aj b { k with ends:=sp}::R'):=by
 obtain ⟨x,h⟩:=h.uJ;refine ⟨x.se,x.pe,bh [aa b (bm x k.bg k.dN k.bits.length k.t.bz.length),Sl.av x.n k.bits k.H,Tr.bA x.tr k.T,Th.aY x.t k.t,bq x.ln k.ln,af fi x.su k.u,af cz x.sn x.pn,ar bF x.pn k.notes,af cz x.ss x.ps,ar Tb.bc x.ps k.ae], ?_,h.ao rfl,(h.pick (A:=ar cd x.pe k.ends)).ff,fun R' w' sp h=>?_⟩
 ·exact Ow.dz (Ow.nC (Ow.dz (Ow.aX (show Ow B w0 w (aa b (bm x k.bg k.dN k.bits.length k.t.bz.length)::Sl.av x.n k.bits k.H::Tr.bA x.tr k.T::Th.aY x.t k.t::bq x.ln k.ln::af fi x.su k.u::af cz x.sn x.pn::ar bF x.pn k.notes::af cz x.ss x.ps::ar Tb.bc x.ps k.ae::af cz x.se x.pe::ar cd x.pe k.ends::R) from h.sub))))
 ·have h:Ow B w0 w' (aa b (bm x k.bg k.dN k.bits.length k.t.bz.length)::Sl.av x.n k.bits k.H::Tr.bA x.tr k.T::Th.aY x.t k.t::bq x.ln k.ln::af fi x.su k.u::af cz x.sn x.pn::ar bF x.pn k.notes::af cz x.ss x.ps::ar Tb.bc x.ps k.ae::af cz x.se x.pe::ar cd x.pe sp::R'):=(h.nC).star
  exact Ow.bD x h.sub
theorem _root_.Go.Vc.Ow.D4 (h:Ow B w0 w (aj b k::R)):∃(ss:Sl) (ps:List Nat) (Y:az),Ow B w0 w (af cz ss ps::ar bF ps k.notes::Y::R)/\w.cell? ((Addr.mk b 0 none).add 6)=some (.slice ss.a ss.len ss.cap)/\ps.length=k.notes.length/\
  ∀R' w' sp,Ow B w0 w' (af cz ss ps::ar bF ps sp::Y::R')->Ow B w0 w' (aj b { k with notes:=sp}::R'):=by
 obtain ⟨x,h⟩:=h.uJ;refine ⟨x.sn,x.pn,bh [aa b (bm x k.bg k.dN k.bits.length k.t.bz.length),Sl.av x.n k.bits k.H,Tr.bA x.tr k.T,Th.aY x.t k.t,bq x.ln k.ln,af fi x.su k.u,af cz x.se x.pe,ar cd x.pe k.ends,af cz x.ss x.ps,ar Tb.bc x.ps k.ae], ?_,h.ao rfl,(h.pick (A:=ar bF x.pn k.notes)).ff,fun R' w' sp h=>?_⟩
 ·exact Ow.dz (Ow.nC (Ow.dz (Ow.aX (show Ow B w0 w (aa b (bm x k.bg k.dN k.bits.length k.t.bz.length)::Sl.av x.n k.bits k.H::Tr.bA x.tr k.T::Th.aY x.t k.t::bq x.ln k.ln::af fi x.su k.u::af cz x.se x.pe::ar cd x.pe k.ends::af cz x.ss x.ps::ar Tb.bc x.ps k.ae::af cz x.sn x.pn::ar bF x.pn k.notes::R) from h.sub))))
 ·have h:Ow B w0 w' (aa b (bm x k.bg k.dN k.bits.length k.t.bz.length)::Sl.av x.n k.bits k.H::Tr.bA x.tr k.T::Th.aY x.t k.t::bq x.ln k.ln::af fi x.su k.u::af cz x.se x.pe::ar cd x.pe k.ends::af cz x.ss x.ps::ar Tb.bc x.ps k.ae::af cz x.sn x.pn::ar bF x.pn sp::R'):=(h.nC).star
  exact Ow.bD x h.sub
theorem _root_.Go.Vc.Ow.oW (h:Ow B w0 w (aj b k::R)):∃(bt:Nat) (Y:az),Ow B w0 w (Th.aY bt k.t::Y::R)/\w.cell? ((Addr.mk b 0 none).add 2)=some (.pointer (some ⟨bt,0,none⟩))/\
  ∀R' w' t,t.bz.length=k.t.bz.length->Ow B w0 w' (Th.aY bt t::Y::R')->Ow B w0 w' (aj b (k.cr t)::R'):=by
 obtain ⟨x,h⟩:=h.uJ;refine ⟨x.t,bh [aa b (bm x k.bg k.dN k.bits.length k.t.bz.length),Sl.av x.n k.bits k.H,Tr.bA x.tr k.T,bq x.ln k.ln,af fi x.su k.u,af cz x.se x.pe,ar cd x.pe k.ends,af cz x.sn x.pn,ar bF x.pn k.notes,af cz x.ss x.ps,ar Tb.bc x.ps k.ae], ?_,h.ao rfl,fun R' w' t ht h=>?_⟩
 ·exact Ow.dz (Ow.aX (show Ow B w0 w (aa b (bm x k.bg k.dN k.bits.length k.t.bz.length)::Sl.av x.n k.bits k.H::Tr.bA x.tr k.T::bq x.ln k.ln::af fi x.su k.u::af cz x.se x.pe::ar cd x.pe k.ends::af cz x.sn x.pn::ar bF x.pn k.notes::af cz x.ss x.ps::ar Tb.bc x.ps k.ae::Th.aY x.t k.t::R) from h.sub))
 ·have h:Ow B w0 w' (aa b (bm x k.bg k.dN k.bits.length k.t.bz.length)::Sl.av x.n k.bits k.H::Tr.bA x.tr k.T::bq x.ln k.ln::af fi x.su k.u::af cz x.se x.pe::ar cd x.pe k.ends::af cz x.sn x.pn::ar bF x.pn k.notes::af cz x.ss x.ps::ar Tb.bc x.ps k.ae::Th.aY x.t t::R'):=(h.dz).star
  rw[←ht] at h;exact (show Ow B w0 w' (aj b (k.cr t)::R') from Ow.bD x h.sub)
theorem _root_.Go.Vc.Ow.zA (h:Ow B w0 w (aj b k::R)):∃(bt:Nat) (Y:az),Ow B w0 w (bq bt k.ln::Y::R)/\w.cell? ((Addr.mk b 0 none).add 3)=some (.pointer (some ⟨bt,0,none⟩))/\
  ∀R' w' t,Ow B w0 w' (bq bt t::Y::R')->Ow B w0 w' (aj b { k with ln:=t}::R'):=by
 obtain ⟨x,h⟩:=h.uJ;refine ⟨x.ln,bh [aa b (bm x k.bg k.dN k.bits.length k.t.bz.length),Sl.av x.n k.bits k.H,Tr.bA x.tr k.T,Th.aY x.t k.t,af fi x.su k.u,af cz x.se x.pe,ar cd x.pe k.ends,af cz x.sn x.pn,ar bF x.pn k.notes,af cz x.ss x.ps,ar Tb.bc x.ps k.ae], ?_,h.ao rfl,fun R' w' t h=>?_⟩
 ·exact Ow.dz (Ow.aX (show Ow B w0 w (aa b (bm x k.bg k.dN k.bits.length k.t.bz.length)::Sl.av x.n k.bits k.H::Tr.bA x.tr k.T::Th.aY x.t k.t::af fi x.su k.u::af cz x.se x.pe::ar cd x.pe k.ends::af cz x.sn x.pn::ar bF x.pn k.notes::af cz x.ss x.ps::ar Tb.bc x.ps k.ae::bq x.ln k.ln::R) from h.sub))
 ·have h:Ow B w0 w' (aa b (bm x k.bg k.dN k.bits.length k.t.bz.length)::Sl.av x.n k.bits k.H::Tr.bA x.tr k.T::Th.aY x.t k.t::af fi x.su k.u::af cz x.se x.pe::ar cd x.pe k.ends::af cz x.sn x.pn::ar bF x.pn k.notes::af cz x.ss x.ps::ar Tb.bc x.ps k.ae::bq x.ln t::R'):=(h.dz).star
  exact (show Ow B w0 w' (aj b { k with ln:=t}::R') from Ow.bD x h.sub)
end
def mS (P:Tb.fp) (l:Tb.fp):Tb.fp:=P.filter fun y=>l.all fun x=>x.1 !=y.1
theorem DD (P:Tb.fp):mS P []=P:=by unfold mS;simp
theorem BS (P l:Tb.fp) (x:Int × Tb.Pg):mS P (l++ [x])=Tb.ll (mS P l) x.1:=by
 unfold mS Tb.ll;rw[List.filter_filter];congr 1;funext y;rw[List.all_append];simp only[List.all_cons,List.all_nil,Bool.and_true];rw[Bool.and_comm];congr 1;rw[Bool.eq_iff_iff];simp only[bne_iff_ne,ne_eq];exact ⟨fun h e=>h e.symm,fun h e=>h e.symm⟩
theorem DC {P:Tb.fp} (hP:Tb.jT P) (f:Int × Tb.Pg->Bool):mS P (P.filter f)=P.filter fun x=> !f x:=by
 unfold mS;apply List.filter_congr;intro y hy;rw[Bool.eq_iff_iff];simp only[List.all_eq_true,List.mem_filter,bne_iff_ne,ne_eq,Bool.not_eq_true',and_imp];constructor
 ·intro h
  cases e:f y with
  |false=>rfl
  |true=>exact absurd rfl (h y hy e)
 ·intro h x hx hfx e
  have:=hP.inj hx hy e;rw[this,h] at hfx;cases hfx
theorem BR {P:Tb.fp} (hP:Tb.jT P) (f:Int × Tb.Pg->Bool) {q:Nat} {x:Int × Tb.Pg} (hx:(P.filter f)[q]?=some x):Tb.look (mS P ((P.filter f).take q)) x.1=some x.2:=by
 have hS:Tb.jT (mS P ((P.filter f).take q)):=hP.filter _;refine hS.look ?_;unfold mS;rw[List.mem_filter];have hm:x∈P.filter f:=List.mem_of_getElem? hx;refine ⟨(List.mem_filter.1 hm).1, ?_⟩;rw[List.all_eq_true];intro y hy;obtain ⟨i,hi⟩:=List.mem_iff_getElem?.1 hy;rw[List.getElem?_take] at hi;split at hi
 ·rename_i hlt
  have hF:Tb.jT (P.filter f):=hP.filter f;have h1:=(List.getElem?_eq_some_iff.1 hx)
  have h2:=(List.getElem?_eq_some_iff.1 hi)
  have:=(List.pairwise_iff_getElem.1 hF) i q h2.1 h1.1 hlt;rw[h1.2,h2.2] at this;simp only[bne_iff_ne,ne_eq];omega
 ·cases hi
theorem oF (f:Int) (m:Tb.dv):∀(l:List Tb.dv) (i:Nat),ai.bj f i (l++ [m])=((ai.bj f i l).1++ai.bH (i+l.length) (m.pg.filter fun x=>x.2.1==f),(ai.bj f i l).2++ [{ m with pg:=m.pg.filter fun x=> !(x.2.1==f)}])
 | [],i=>by simp[ai.bj]
 |a::l,i=>by
  simp only[List.cons_append,ai.bj,List.length_cons];rw[oF f m l (i+1)];simp only[List.append_assoc,List.cons_append];rw[show i+1+l.length=i+(l.length+1) from by omega]
theorem jb (f:Int):∀(l:List Tb.dv) (i:Nat),(ai.bj f i l).2.length=l.length
 | [],i=>rfl
 |a::l,i=>by simp[ai.bj,jb f l (i+1)]
theorem tA (n:Int) (m:Tb.dv):∀(l:List Tb.dv) (i:Nat),ai.cO n i (l++ [m])=((ai.cO n i l).1++(ai.dt n (i+l.length) 64 0 m).1,(ai.cO n i l).2++ [(ai.dt n (i+l.length) 64 0 m).2])
 | [],i=>by simp[ai.cO]
 |a::l,i=>by
  simp only[List.cons_append,ai.cO,List.length_cons];rw[tA n m l (i+1)];simp only[List.append_assoc,List.cons_append];rw[show i+1+l.length=i+(l.length+1) from by omega]
theorem mv (n:Int):∀(l:List Tb.dv) (i:Nat),(ai.cO n i l).2.length=l.length
 | [],i=>rfl
 |a::l,i=>by simp[ai.cO,mv n l (i+1)]
def jF (l:List Tb.dv):Nat:=(l.map fun m=>m.pg.length).sum
theorem rQ (a b:List Tb.dv):jF (a++b)=jF a+jF b:=by unfold jF;simp
theorem mT {α:Type} (f:α->Bool):∀l:List α,(l.filter f).length+(l.filter fun x=> !f x).length=l.length
 | []=>rfl
 |a::l=>by
  have:=mT f l;cases h:f a<;>simp[h]<;>omega
theorem nA (f:Int):∀(l:List Tb.dv) (i:Nat),(ai.bj f i l).1.length+jF (ai.bj f i l).2=jF l
 | [],i=>rfl
 |a::l,i=>by
  have h1:=nA f l (i+1);have h2:=mT (fun x:Int × Tb.Pg=>x.2.1==f) a.pg;unfold jF at*
  simp only[ai.bj,ai.bH,List.length_append,List.length_map,List.map_cons,List.sum_cons];omega
theorem FW (m:Tb.dv) (j:Int):(m.cf j).1.length+(m.cf j).2.2.pg.length=m.pg.length:=by
 unfold Tb.dv.cf;split
 ·simp
 split
 ·simp
 ·have:=mT (fun x:Int × Tb.Pg=>x.1.toNat / 64==j.toNat) m.pg
  exact this
theorem pM (n:Int) (i:Nat):∀(q j:Nat) (m:Tb.dv),(ai.dt n i q j m).1.length+(ai.dt n i q j m).2.pg.length=m.pg.length
 |0,j,m=>by simp[ai.dt]
 |q+1,j,m=>by
  unfold ai.dt;split
  ·have h1:=pM n i q (j+1) (m.cf (j:Int)).2.2
   have h2:=FW m (j:Int);simp only[ai.bH,List.length_append,List.length_map];omega
  ·exact pM n i q (j+1) m
theorem tz (n:Int):∀(l:List Tb.dv) (i:Nat),(ai.cO n i l).1.length+jF (ai.cO n i l).2=jF l
 | [],i=>rfl
 |a::l,i=>by
  have h1:=tz n l (i+1);have h2:=pM n i 64 0 a;unfold jF at*
  simp only[ai.cO,List.length_append,List.map_cons,List.sum_cons];omega
theorem F4 (k:ai) (c:dj):(k.last c).1.length+jF (k.last c).2.ae=jF k.ae:=by
 unfold ai.last;split
 ·simp[ai.dY]
 split
 ·exact nA _ _ _
 split
 ·exact tz _ _ _
 ·simp
theorem Aw (k:ai) (s:Slot):(k.gone s).1.length+jF (k.gone s).2.ae=jF k.ae:=by
 unfold ai.gone;split
 ·simp[ai.taken]
 ·exact F4 _ _
theorem fM.EG {m:Tb.dv} (h:Tb.fM m):m.pg.length≤4096:=by
 have:=Tb.oz m.pg 0 4096 h.rh (fun x hx=>⟨(h.mP x hx).1,(h.mP x hx).2.1⟩);omega
theorem zN:∀(l:List Tb.dv),(∀m∈l,Tb.fM m)->jF l≤4096*l.length
 | [],_=>Nat.le_refl _
 |a::l,h=>by
  have h1:=zN l fun m hm=>h m (List.mem_cons_of_mem _ hm)
  have h2:=fM.EG (h a List.mem_cons_self);unfold jF at*
  simp only[List.map_cons,List.sum_cons,List.length_cons];omega
section
variable {B:Nat} {w0 w:World} {R:List az} {α:Type} {A:Nat->α->az} {ps:List Nat} {xs:List α}
theorem _root_.Go.Vc.Ow.zP (h:Ow B w0 w (ar A ps xs::R)) {j:Nat} {p:Nat} {x:α} (hp:ps[j]?=some p) (hx:xs[j]?=some x):Ow B w0 w (A p x::bh ((List.zipWith A ps xs).eraseIdx j)::R):=
 Ow.dz (Ow.aX ((h.pt hp hx).perm List.perm_middle.symm))
theorem _root_.Go.Vc.Ow.dp {j:Nat} {p:Nat} {x':α} (hl:ps.length=xs.length) (hp:ps[j]?=some p) (h:Ow B w0 w (A p x'::bh ((List.zipWith A ps xs).eraseIdx j)::R)):Ow B w0 w (ar A ps (xs.set j x')::R):=
 Ow.wo hl hp ((h.dz).star.perm List.perm_middle)
end
section
variable {B:Nat} {w0 w:World} {R L:List az} {bd bk:Nat} {k:ai} {d:kQ} {ec wv wk:Int} {fs:Sl} {N:Nat}
theorem yf {f:Nat->List Tb.dv->List dC × List Tb.dv} (hlen:∀l i,(f i l).2.length=l.length) {l:List Tb.dv} {i:Nat} {m:Tb.dv} (hm:l[i]?=some m):
  ((f 0 (l.take i)).2++l.drop i)[i]?=some m/\∀m',((f 0 (l.take i)).2++l.drop i).set i m'=(f 0 (l.take i)).2++ [m']++l.drop (i+1):=by
 have hi:=(List.getElem?_eq_some_iff.1 hm).1;have h1:((f 0 (l.take i)).2).length=i:=by rw[hlen,List.length_take];omega
 have hd:l.drop i=m::l.drop (i+1):=by
  rw[List.drop_eq_getElem_cons hi];congr 1;exact (List.getElem?_eq_some_iff.1 hm).2
 refine ⟨?_,fun m'=>?_⟩
 ·rw[List.getElem?_append_right om,h1,Nat.sub_self,hd];rfl
 ·rw[List.set_append_right _ _ om,h1,Nat.sub_self,hd];simp
theorem rk (n:Int) (i q j:Nat) (m:Tb.dv):ai.dt n i (q+1) j m=if m.at (j:Int)=some n then (ai.bH i (m.cf (j:Int)).1++(ai.dt n i q (j+1) (m.cf (j:Int)).2.2).1,(ai.dt n i q (j+1) (m.cf (j:Int)).2.2).2) else ai.dt n i q (j+1) m:=rfl
set_option maxHeartbeats 1000000 in
theorem B8 {c:dj} {F:List dC} {K:Pw} (hN:k.ends.length≤200000/\k.notes.length≤200000/\k.ae.length≤200000) (ht:Th.cA k.t) (hs:∀m∈k.ae,Tb.fM m) (hF:F.length+jF k.ae≤1000000000)
  (h:Ow B w0 w (aa bd (ag bk d ec wv wk fs)::af aw fs F::aj bk k::R))
  (hK:∀fs' w',Ow B w0 w' (aa bd (ag bk d ec wv wk fs')::af aw fs' (F++(k.last c).1)::aj bk (k.last c).2::R)->K w'):C.qbL (some ⟨bd,0,none⟩) c.kind c.obj c.au c.aB c.guard c.bits K w:=by
 apply S.qbL0;unfold ai.last at hK;refine h.a fun cc w1 h=>?_;refine ⟨_,h.aq rfl, ?_⟩;refine gz (fun e=>?_) (fun e=>?_)
 ·rw[if_pos e] at hK
  refine h.dr fun w h=>?_
  refine ⟨_,rfl,_,h.aq rfl,_,h.ao rfl, ?_,trivial⟩;refine mV (id:=c.obj) (h.pick (A:=aj bk k)) ⟨hN.1,hN.2.1⟩ fun w h=>?_
  refine h.dr fun w h=>?_
  obtain ⟨bt,Y,h2,hc2,hback⟩:=h.oW;refine ⟨_,rfl,_,h.aq rfl,_,rfl,_,hc2,_,h.ao rfl, ?_,trivial⟩;refine Th.vd ht h2 fun w h=>?_
  have hl:(k.t.cp c.obj).2.bz.length=k.t.bz.length:=by
   unfold Th.Mt.cp;split
   ·rfl
   split
   ·rfl
   ·unfold Th.Mt.leave Th.Mt.aW;simp[Th.cD.1]
  have h:=hback _ w _ hl h;dsimp only at hK;rw[List.append_nil] at hK;have hK3:∀fs' w',Ow B w0 w' (aa bd (ag bk d ec wv wk fs')::af aw fs' F::aj bk ((k.dY c.obj).cr (k.t.cp c.obj).2)::R)->K w':=hK;exact hK3 fs w h.sub
 rw[if_neg e] at hK;refine gz (fun e6=>?_) (fun e6=>?_)
 ·rw[if_pos e6] at hK
  obtain ⟨ss,ps,Y,h2,hc2,hpl,hback⟩:=(h.pick (A:=aj bk k)).mf;refine ⟨_,rfl,_,h.aq rfl,_,rfl,ss,hc2, ?_⟩;have h:=h2;clear h2 hc2;intro l27 hl27
  have loop:∀(r i:Nat) (fs:Sl) (w:World),i+r=k.ae.length->Ow B w0 w (af cz ss ps::ar Tb.bc ps ((ai.bj c.obj 0 (k.ae.take i)).2++k.ae.drop i)::Y::aa cc c.cells::aa bd (ag bk d ec wv wk fs)::af aw fs (F++(ai.bj c.obj 0 (k.ae.take i)).1)::R)->l27 (i:Int) w:=by
   intro r
   induction r with
   |zero=>
    intro i fs w hi h;have hlen:=h.br ss;apply hl27;refine aD om ?_;rw[List.take_of_length_le om,List.drop_of_length_le om,List.append_nil] at h;exact hK fs w (Ow.sub (L:=aj bk { k with ae:=(ai.bj c.obj 0 k.ae).2}::aa cc c.cells::aa bd (ag bk d ec wv wk fs)::af aw fs (F++(ai.bj c.obj 0 k.ae).1)::R) (hback _ w _ h))
   |succ r ih=>
    intro i fs w hi h;have hlen:=h.br ss;have hm:k.ae[i]?=some k.ae[i]:=gE om;have hmm:k.ae[i]∈k.ae:=List.getElem_mem _;have hp:ps[i]?=some ps[i]:=gE om;generalize k.ae[i]=m at hm hmm;generalize ps[i]=p at hp;have hsm:=hs m hmm;obtain ⟨g1,g2⟩:=yf (f:=ai.bj c.obj) (jb c.obj) hm;have htk:k.ae.take (i+1)=k.ae.take i++ [m]:=by rw[List.take_add_one,hm];rfl
    have hul:((ai.bj c.obj 0 (k.ae.take i)).2++k.ae.drop i).length=ps.length:=by simp[jb];omega
    have hpg1:=nA c.obj (k.ae.take (i+1)) 0
    have hpg2:jF (k.ae.take (i+1))≤jF k.ae:=by
     have:=rQ (k.ae.take (i+1)) (k.ae.drop (i+1));rw[List.take_append_drop] at this;omega
    have hsn:=oF c.obj m (k.ae.take i) 0;rw[htk] at hpg1 hpg2;rw[hsn] at hpg1;rw[Nat.zero_add,List.length_take,Nat.min_eq_left om] at hsn hpg1;simp only[List.length_append] at hpg1;apply hl27;refine aR om ?_;refine gT (s:=ss) h rfl hp fun a ha hc=>⟨_,hc,_,h.ao rfl, ?_⟩
    have h:=(h.pick (A:=ar Tb.bc ps ((ai.bj c.obj 0 (k.ae.take i)).2++k.ae.drop i))).zP hp g1;refine Tb.wV h fun s w h=>?_
    intro l35 hl35;have hfl:∀q:Nat,(Tb.fB m.pg c.obj)[q]?=((m.pg.filter fun x=>x.2.1==c.obj)[q]?).map (·.1):=fun q=>by unfold Tb.fB;rw[List.getElem?_map]
    have hfn:(Tb.fB m.pg c.obj).length=(m.pg.filter fun x=>x.2.1==c.obj).length:=by unfold Tb.fB;rw[List.length_map]
    have hll:(ai.bH i (m.pg.filter fun x=>x.2.1==c.obj)).length=(m.pg.filter fun x=>x.2.1==c.obj).length:=by unfold ai.bH;rw[List.length_map]
    have inner:∀(r q:Nat) (fs:Sl) (w:World),q+r=(m.pg.filter fun x=>x.2.1==c.obj).length->Ow B w0 w (af aC s (Tb.fB m.pg c.obj)::Tb.bc p { m with pg:=mS m.pg ((m.pg.filter fun x=>x.2.1==c.obj).take q)}::bh ((List.zipWith Tb.bc ps ((ai.bj c.obj 0 (k.ae.take i)).2++k.ae.drop i)).eraseIdx i)::
      af cz ss ps::Y::aa cc c.cells::aa bd (ag bk d ec wv wk fs)::af aw fs (F++(ai.bj c.obj 0 (k.ae.take i)).1++ai.bH i ((m.pg.filter fun x=>x.2.1==c.obj).take q))::R)->l35 (q:Int) w:=by
     intro r
     induction r with
     |zero=>
      intro q fs w hq h;have hsl:=h.br s;apply hl35;refine aD om ?_;rw[List.take_of_length_le om,DC hsm.rh] at h;have h:=(h.drop).dp om hp;rw[g2] at h;rw[wI i om];refine ih (i+1) fs w om ?_;rw[htk,hsn,←List.append_assoc];exact h.sub
     |succ r ih2=>
      intro q fs w hq h;have hsl:=h.br s;have hx:(m.pg.filter fun x=>x.2.1==c.obj)[q]?=some (m.pg.filter fun x=>x.2.1==c.obj)[q]:=gE om;have hlk:=BR hsm.rh (fun x=>x.2.1==c.obj) hx;have htq:(m.pg.filter fun x=>x.2.1==c.obj).take (q+1)=(m.pg.filter fun x=>x.2.1==c.obj).take q++ [(m.pg.filter fun x=>x.2.1==c.obj)[q]]:=by rw[List.take_add_one,hx];rfl
      have hmem:(m.pg.filter fun x=>x.2.1==c.obj)[q]∈m.pg:=(List.mem_filter.1 (List.getElem_mem _)).1;have hfx:=hfl q;rw[hx] at hfx;generalize (m.pg.filter fun x=>x.2.1==c.obj)[q]=y at hx hlk htq hmem hfx;have hbnd:=hsm.mP y hmem
      have hun:({ m with pg:=mS m.pg ((m.pg.filter fun x=>x.2.1==c.obj).take q)}:Tb.dv).cH y.1=(y.2,0,{ m with pg:=mS m.pg ((m.pg.filter fun x=>x.2.1==c.obj).take (q+1))}):=by
       unfold Tb.dv.cH;rw[if_neg om,hlk,htq,BS]
      have hqlen:(F++(ai.bj c.obj 0 (k.ae.take i)).1++ai.bH i ((m.pg.filter fun x=>x.2.1==c.obj).take q)).length≤1000000000:=by
       unfold ai.bH at hpg1⊢;simp only[List.length_append,List.length_map,List.length_take] at hpg1⊢;omega
      apply hl35;refine aR om ?_;refine h.dV (s:=s) rfl hfx fun a ha h0 _=>⟨_,h0 _ rfl, ?_⟩
      refine Tb.mO (h.pick (A:=Tb.bc p { m with pg:=mS m.pg ((m.pg.filter fun x=>x.2.1==c.obj).take q)})) fun w h=>?_
      rw[hun] at h⊢;refine h.a fun g w2 h=>?_;refine h.ax rfl rfl fun w h=>?_
      (try dsimp only[putAt,List.set_cons_zero,List.set_cons_succ] at h)
      refine h.aL rfl ?_;refine jZ (sp:=(i:Int)) (l:=(y.1,y.2)) hqlen ((h.pick (A:=af aw fs (F++(ai.bj c.obj 0 (k.ae.take i)).1++ai.bH i ((m.pg.filter fun x=>x.2.1==c.obj).take q)))).pick (A:=aa bd (ag bk d ec wv wk fs))) fun fs' w h=>?_
      rw[show IntKind.i64.wrap ((q:Int)+1)=((q+1:Nat):Int) from by
       have:=fM.EG hsm;have:=List.length_filter_le (fun x:Int × Tb.Pg=>x.2.1==c.obj) m.pg;rw[wr om om];omega]
      refine ih2 (q+1) fs' w om ?_
      have e9:F++(ai.bj c.obj 0 (k.ae.take i)).1++ai.bH i ((m.pg.filter fun x=>x.2.1==c.obj).take (q+1))=F++(ai.bj c.obj 0 (k.ae.take i)).1++ai.bH i ((m.pg.filter fun x=>x.2.1==c.obj).take q)++ [⟨(i:Int),y.1,y.2.1,y.2.2⟩]:=by
       rw[htq];unfold ai.bH;rw[List.map_append];simp only[List.append_assoc];rfl
      rw[e9];exact h.sub
    refine inner _ 0 fs w (Nat.zero_add _) ?_;have e1:mS m.pg ((m.pg.filter fun x=>x.2.1==c.obj).take 0)=m.pg:=by rw[List.take_zero,DD]
    have e2:ai.bH i ((m.pg.filter fun x=>x.2.1==c.obj).take 0)= []:=rfl;rw[e1,e2,List.append_nil];exact h.sub
  refine loop k.ae.length 0 fs w1 (Nat.zero_add _) ?_;rw[List.take_zero,List.drop_zero];show Ow B w0 w1 (af cz ss ps::ar Tb.bc ps ([]++k.ae)::Y::aa cc c.cells::aa bd (ag bk d ec wv wk fs)::af aw fs (F++ [])::R);rw[List.nil_append,List.append_nil];exact h.sub
 rw[if_neg e6] at hK;refine gz (fun e7=>?_) (fun e7=>?_)
 ·rw[if_pos e7] at hK
  obtain ⟨ss,ps,Y,h2,hc2,hpl,hback⟩:=(h.pick (A:=aj bk k)).mf;refine ⟨_,rfl,_,h.aq rfl,_,rfl,ss,hc2, ?_⟩;have h:=h2;clear h2 hc2;intro l53 hl53
  have loop:∀(r i:Nat) (fs:Sl) (w:World),i+r=k.ae.length->Ow B w0 w (af cz ss ps::ar Tb.bc ps ((ai.cO c.obj 0 (k.ae.take i)).2++k.ae.drop i)::Y::aa cc c.cells::aa bd (ag bk d ec wv wk fs)::af aw fs (F++(ai.cO c.obj 0 (k.ae.take i)).1)::R)->l53 (i:Int) w:=by
   intro r
   induction r with
   |zero=>
    intro i fs w hi h;have hlen:=h.br ss;apply hl53;refine aD om ?_;rw[List.take_of_length_le om,List.drop_of_length_le om,List.append_nil] at h;exact hK fs w (Ow.sub (L:=aj bk { k with ae:=(ai.cO c.obj 0 k.ae).2}::aa cc c.cells::aa bd (ag bk d ec wv wk fs)::af aw fs (F++(ai.cO c.obj 0 k.ae).1)::R) (hback _ w _ h))
   |succ r ih=>
    intro i fs w hi h;have hlen:=h.br ss;have hm:k.ae[i]?=some k.ae[i]:=gE om;have hp:ps[i]?=some ps[i]:=gE om;generalize k.ae[i]=m at hm;generalize ps[i]=p at hp;obtain ⟨g1,g2⟩:=yf (f:=ai.cO c.obj) (mv c.obj) hm;have htk:k.ae.take (i+1)=k.ae.take i++ [m]:=by rw[List.take_add_one,hm];rfl
    have hul:((ai.cO c.obj 0 (k.ae.take i)).2++k.ae.drop i).length=ps.length:=by simp[mv];omega
    have hpg1:=tz c.obj (k.ae.take (i+1)) 0
    have hpg2:jF (k.ae.take (i+1))≤jF k.ae:=by
     have:=rQ (k.ae.take (i+1)) (k.ae.drop (i+1));rw[List.take_append_drop] at this;omega
    have hsn:=tA c.obj m (k.ae.take i) 0;rw[htk] at hpg1 hpg2;rw[hsn] at hpg1;rw[Nat.zero_add,List.length_take,Nat.min_eq_left om] at hsn hpg1;simp only[List.length_append] at hpg1;apply hl53;refine aR om ?_;refine gT (s:=ss) h rfl hp fun a ha hc=>⟨_,hc, ?_⟩
    have h:=(h.pick (A:=ar Tb.bc ps ((ai.cO c.obj 0 (k.ae.take i)).2++k.ae.drop i))).zP hp g1;intro l58 hl58
    have places:∀(r j:Nat) (mj:Tb.dv) (G:List dC) (fs:Sl) (w:World),j+r=64->(G++(ai.dt c.obj i r j mj).1=(ai.dt c.obj i 64 0 m).1)->((ai.dt c.obj i r j mj).2=(ai.dt c.obj i 64 0 m).2)->
      Ow B w0 w (Tb.bc p mj::bh ((List.zipWith Tb.bc ps ((ai.cO c.obj 0 (k.ae.take i)).2++k.ae.drop i)).eraseIdx i)::
      af cz ss ps::Y::aa cc c.cells::aa bd (ag bk d ec wv wk fs)::af aw fs (F++(ai.cO c.obj 0 (k.ae.take i)).1++G)::R)->l58 (j:Int) w:=by
     intro r
     induction r with
     |zero=>
      intro j mj G fs w hj hG hM h;apply hl58;refine aD om ?_;have hM:mj=_:=hM;have hG:G++ []=_:=hG;rw[List.append_nil] at hG;rw[hM,hG] at h;have h:=h.dp om hp;rw[g2] at h;rw[wI i om];refine ih (i+1) fs w om ?_;rw[htk,hsn,←List.append_assoc];exact h.sub
     |succ r ih2=>
      intro j mj G fs w hj hG hM h;apply hl58;refine aR om ?_;refine Tb.C3 h ?_;intro k64 hk64;rw[rk] at hG hM;rw[wI j om] at hk64
      have no:mj.at (j:Int)≠some c.obj->k64 false w:=fun hn=>by
       rw[if_neg hn] at hG hM;apply hk64;refine bC rfl ?_;exact ih2 (j+1) mj G fs w om hG hM h
      have yes:mj.at (j:Int)=some c.obj->k64 true w:=fun hy=>by
       rw[if_pos hy] at hG hM;apply hk64;refine bP rfl ?_;refine Tb.Bq h fun s w h=>?_
       intro l70 hl70;have hGl:=congrArg List.length hG;simp only[List.length_append] at hGl;have hlines:(ai.bH i (mj.cf (j:Int)).1).length=(mj.cf (j:Int)).1.length:=by unfold ai.bH;rw[List.length_map]
       have inner:∀(r q:Nat) (fs:Sl) (w:World),q+r=(mj.cf (j:Int)).1.length->Ow B w0 w (af Tb.db s (mj.cf (j:Int)).1::Tb.bc p (mj.cf (j:Int)).2.2::bh ((List.zipWith Tb.bc ps ((ai.cO c.obj 0 (k.ae.take i)).2++k.ae.drop i)).eraseIdx i)::
         af cz ss ps::Y::aa cc c.cells::aa bd (ag bk d ec wv wk fs)::af aw fs (F++(ai.cO c.obj 0 (k.ae.take i)).1++(G++ai.bH i ((mj.cf (j:Int)).1.take q)))::R)->l70 (q:Int) w:=by
        intro r
        induction r with
        |zero=>
         intro q fs w hq h;have hsl:=h.br s;apply hl70;refine aD om ?_;rw[List.take_of_length_le (l:=(mj.cf (j:Int)).1) om] at h;exact ih2 (j+1) _ (G++ai.bH i (mj.cf (j:Int)).1) fs w om (by rw[List.append_assoc];exact hG) hM h.drop
        |succ r ih3=>
         intro q fs w hq h;have hsl:=h.br s;have hx:(mj.cf (j:Int)).1[q]?=some (mj.cf (j:Int)).1[q]:=gE om;have htq:(mj.cf (j:Int)).1.take (q+1)=(mj.cf (j:Int)).1.take q++ [(mj.cf (j:Int)).1[q]]:=by rw[List.take_add_one,hx];rfl
         generalize (mj.cf (j:Int)).1[q]=y at hx htq
         have hqlen:(F++(ai.cO c.obj 0 (k.ae.take i)).1++(G++ai.bH i ((mj.cf (j:Int)).1.take q))).length≤1000000000:=by
          have e8:(ai.bH i ((mj.cf (j:Int)).1.take q)).length≤(mj.cf (j:Int)).1.length:=by
           unfold ai.bH;rw[List.length_map,List.length_take];omega
          simp only[List.length_append];omega
         apply hl70;refine aR om ?_;refine h.dV (s:=s) rfl hx fun a ha _ hc1=>Tb.vU hc1 ?_
         refine h.a fun g w2 h=>?_;refine h.ax rfl rfl fun w h=>?_
         (try dsimp only[putAt,List.set_cons_zero,List.set_cons_succ] at h)
         refine h.ry rfl ?_;refine jZ (sp:=(i:Int)) (l:=y) hqlen ((h.pick (A:=af aw fs (F++(ai.cO c.obj 0 (k.ae.take i)).1++(G++ai.bH i ((mj.cf (j:Int)).1.take q))))).pick (A:=aa bd (ag bk d ec wv wk fs))) fun fs' w h=>?_
         rw[wI q om];refine ih3 (q+1) fs' w om ?_
         have e9:F++(ai.cO c.obj 0 (k.ae.take i)).1++(G++ai.bH i ((mj.cf (j:Int)).1.take (q+1)))=F++(ai.cO c.obj 0 (k.ae.take i)).1++(G++ai.bH i ((mj.cf (j:Int)).1.take q))++ [⟨(i:Int),y.1,y.2.1,y.2.2⟩]:=by
          rw[htq];unfold ai.bH;rw[List.map_append];simp only[List.append_assoc];rfl
         rw[e9];exact h.sub
       refine inner _ 0 fs w (Nat.zero_add _) ?_;rw[List.take_zero];show Ow B w0 w (af Tb.db s (mj.cf (j:Int)).1::Tb.bc p (mj.cf (j:Int)).2.2::bh _::af cz ss ps::Y::aa cc c.cells::aa bd (ag bk d ec wv wk fs)::af aw fs (F++(ai.cO c.obj 0 (k.ae.take i)).1++(G++ []))::R);rw[List.append_nil];exact h
      cases hat:mj.at (j:Int) with
      |none=>exact bC rfl (no (by rw[hat];simp))
      |some n=>
       refine bP rfl ⟨_,h.ao rfl, ?_⟩;show k64 (n==c.obj) w;by_cases en:n=c.obj
       ·rw[show (n==c.obj)=true from by simpa using en];exact yes (by rw[hat,en])
       ·rw[show (n==c.obj)=false from by simpa using en];exact no (by rw[hat];simpa using en)
    refine places 64 0 m [] fs w (Nat.zero_add _) (List.nil_append _) rfl ?_;rw[List.append_nil];exact h.sub
  refine loop k.ae.length 0 fs w1 (Nat.zero_add _) ?_;rw[List.take_zero,List.drop_zero];show Ow B w0 w1 (af cz ss ps::ar Tb.bc ps ([]++k.ae)::Y::aa cc c.cells::aa bd (ag bk d ec wv wk fs)::af aw fs (F++ [])::R);rw[List.nil_append,List.append_nil];exact h.sub
 ·rw[if_neg e7,List.append_nil] at hK
  exact hK fs w1 h.drop
end
def iB (H:Sl.Hs):List (Slot × dj):=(List.range 64).filterMap fun i:Nat=>(H (0,(i:Int))).map fun c=>(((0,(i:Int)):Slot),c)
theorem xG {H:Sl.Hs} (h:∀s c,H s=some c->s.1=0/\0≤s.2/\s.2<64):Sl.kR H (iB H):=by
 unfold iB;refine ⟨?_,fun s c=>?_⟩
 ·rw[List.pairwise_filterMap]
  refine List.Pairwise.imp ?_ (List.pairwise_lt_range (n:=64));intro a b hab x hx y hy;rw[Option.map_eq_some_iff] at hx hy;obtain ⟨_,_,rfl⟩:=hx;obtain ⟨_,_,rfl⟩:=hy;unfold Sl.tG;dsimp only;exact decide_eq_true (.inr ⟨rfl,om⟩)
 ·rw[List.mem_filterMap]
  constructor
  ·rintro ⟨i,_,hi⟩
   rw[Option.map_eq_some_iff] at hi;obtain ⟨c',hc,e⟩:=hi;cases e;exact hc
  ·intro hc
   obtain ⟨h1,h2,h3⟩:=h s c hc;refine ⟨s.2.toNat,List.mem_range.2 om, ?_⟩;have e:((0:Int),((s.2.toNat:Nat):Int))=s:=Prod.ext h1.symm (by dsimp only;omega);rw[e,hc];rfl
theorem BZ (H:Sl.Hs):(iB H).length≤64:=by
 unfold iB;exact Nat.le_trans (List.length_filterMap_le _ _) (by simp)
theorem BY (H:Sl.Hs) (c:dj):(iB H).any (fun y=>ai.re y.2 c)=(List.range 64).any fun i=>match H (0,(i:Int)) with|some x=>ai.re x c|none=>false:=by
 unfold iB;rw[List.any_filterMap];congr 1;funext i;cases H (0,(i:Int))<;>rfl
theorem Ed (l:Tr.Tr):(Tr.gH l).map (·.1)=l.map (·.1):=by unfold Tr.gH;rw[List.map_map];rfl
theorem E7 {T:Tr.Tr} {i:Nat} (hi:i<T.length):(T.take i++(Tr.gH ((T.drop (i+1)).take (Tr.eB T i-(i+1)))++T.drop (Tr.eB T i))).map (·.1)=(T.map (·.1)).eraseIdx i:=by
 obtain ⟨e1,e2⟩:=Tr.vM T hi;have hd:T.drop (Tr.eB T i)=(T.drop (i+1)).drop (Tr.eB T i-(i+1)):=by rw[List.drop_drop];congr 1;omega
 rw[hd,List.map_append,List.map_append,Ed,←List.map_append,List.take_append_drop,←List.map_append,List.eraseIdx_eq_take_drop_succ];simp[List.map_take,List.map_drop]
section
variable {N:Nat} {k:ai}
theorem aV.taken (h:aV N k) {s:Slot} (hs:(k.H s).isSome=true):aV N (k.taken s):=by
 obtain ⟨i,hi⟩:=py ((h.mem s).2 hs);obtain ⟨x,hx,hxs⟩:=Tr.eh hi;have hlt:=(List.getElem?_eq_some_iff.1 hx).1;have hT:(k.taken s).T=k.T.take i++(Tr.gH ((k.T.drop (i+1)).take (Tr.eB k.T i-(i+1)))++k.T.drop (Tr.eB k.T i)):=by unfold ai.taken Tr.takeN;rw[hi]
 refine { h with
  pv:=h.pv.del s
  held:=fun t c hc=>?_
  tok:=by rw[hT];exact h.tok.take hi
  mem:=fun t=>?_}
 ·have hc:Sl.cW k.H s none t=some c:=hc
  unfold Sl.cW at hc;split at hc
  ·cases hc
  ·exact h.held t c hc
 ·rw[hT,E7 hlt]
  have hgi:(k.T.map (·.1))[i]?=some s:=by rw[List.getElem?_map,hx];exact congrArg some hxs
  rw[Sl.mZ h.tok.nd hgi,h.mem];show _↔(Sl.cW k.H s none t).isSome=true;unfold Sl.cW;by_cases e:t=s
  ·simp[e]
  ·rw[if_neg e];simp[e]
theorem aV.dY (h:aV N k) (id:Int):aV N (k.dY id):=by
 have hG:Gr k (k.dY id):=⟨Nat.le_refl _,Nat.le_refl _,Nat.le_refl _,by simp[ai.dY],by simp[ai.dY],Nat.le_refl _,Nat.le_refl _,Nat.le_refl _⟩
 refine h.same (k':=k.dY id) rfl rfl rfl hG h.inv h.ln (fun x hx hx2=>?_) h.u h.z8 h.nu (by simpa [ai.dY] using h.ne) (by simpa [ai.dY] using h.nn) h.ns h.nf h.nt (fun p hp=>?_) (fun p hp=>?_)
 ·have:=h.C1 x hx hx2
  simpa [ai.dY] using this
 ·obtain ⟨q,hq,rfl⟩:=List.mem_map.1 hp
  exact Nat.le_trans (List.length_filter_le _ _) (h.el q hq)
 ·obtain ⟨q,hq,rfl⟩:=List.mem_map.1 hp
  exact Nat.le_trans (List.length_filter_le _ _) (h.nl q hq)
theorem aV.ae (h:aV N k) {l:List Tb.dv} (hl:l.length=k.ae.length) (hs:∀m∈l,Tb.fM m):aV N { k with ae:=l}:=
 h.same (k':={ k with ae:=l}) rfl rfl rfl ⟨Nat.le_refl _,Nat.le_refl _,Nat.le_refl _,Nat.le_refl _,Nat.le_refl _,Nat.le_refl _,Nat.le_refl _,by dsimp only;omega⟩ h.inv h.ln h.C1 h.u hs h.nu h.ne h.nn (by have:=h.ns;dsimp only;omega) h.nf h.nt h.el h.nl
theorem fM.IM {m:Tb.dv} (h:Tb.fM m) (f:Int × Tb.Pg->Bool):Tb.fM { m with pg:=m.pg.filter f}:=
 ⟨h.rh.filter f,fun x hx=>h.mP x (List.mem_filter.1 hx).1,h.gA⟩
theorem tx (f:Int):∀(l:List Tb.dv) (i:Nat),(∀m∈l,Tb.fM m)->∀m∈(ai.bj f i l).2,Tb.fM m
 | [],i,_,m,hm=>by simp[ai.bj] at hm
 |a::l,i,h,m,hm=>by
  simp only[ai.bj,List.mem_cons] at hm;rcases hm with rfl|hm
  ·exact fM.IM (h a List.mem_cons_self) _
  ·exact tx f l (i+1) (fun m hm=>h m (List.mem_cons_of_mem _ hm)) m hm
theorem pL (n:Int) (i:Nat):∀(q j:Nat) (m:Tb.dv),Tb.fM m->Tb.fM (ai.dt n i q j m).2
 |0,j,m,h=>h
 |q+1,j,m,h=>by
  rw[rk];split
  ·exact pL n i q (j+1) _ (h.drop _)
  ·exact pL n i q (j+1) m h
theorem yN (n:Int):∀(l:List Tb.dv) (i:Nat),(∀m∈l,Tb.fM m)->∀m∈(ai.cO n i l).2,Tb.fM m
 | [],i,_,m,hm=>by simp[ai.cO] at hm
 |a::l,i,h,m,hm=>by
  simp only[ai.cO,List.mem_cons] at hm;rcases hm with rfl|hm
  ·exact pL n i 64 0 a (h a List.mem_cons_self)
  ·exact yN n l (i+1) (fun m hm=>h m (List.mem_cons_of_mem _ hm)) m hm
theorem lR (t:Th.Mt) (id:Int):(t.cp id).2.bz.length=t.bz.length:=by
 unfold Th.Mt.cp;split
 ·rfl
 split
 ·rfl
 ·unfold Th.Mt.leave Th.Mt.aW;simp[Th.cD.1]
theorem aV.last (h:aV N k) (c:dj):aV N (k.last c).2/\(k.last c).2.H=k.H/\(k.last c).2.T=k.T/\(k.last c).2.bits=k.bits:=by
 unfold ai.last;split
 ·exact ⟨(h.dY c.obj).cr (h.inv.suspend c.obj) (by rw[lR];exact Nat.le_refl _),rfl,rfl,rfl⟩
 split
 ·exact ⟨h.ae (jb _ _ _) (tx _ _ _ h.z8),rfl,rfl,rfl⟩
 split
 ·exact ⟨h.ae (mv _ _ _) (yN _ _ _ h.z8),rfl,rfl,rfl⟩
 ·exact ⟨h,rfl,rfl,rfl⟩
theorem aV.gone (h:aV N k) {s:Slot} (hs:(k.H s).isSome=true):aV N (k.gone s).2/\(k.gone s).2.H=Sl.cW k.H s none/\(k.gone s).2.T=(Tr.takeN k.T s).2:=by
 have ht:=h.taken hs;unfold ai.gone;split
 ·exact ⟨ht,rfl,rfl⟩
 ·obtain ⟨h1,h2,h3,_⟩:=ht.last ((k.H s).getD Sl.ay)
  exact ⟨h1,h2,h3⟩
end
theorem sC {N:Nat}:∀(l:List Slot) (k:ai),aV N k->l.Nodup->(∀s∈l,(k.H s).isSome=true)->aV N (ai.cg l k).2/\(∀s,(ai.cg l k).2.H s=if s∈l then none else k.H s)
 | [],k,h,_,_=>⟨h,fun s=>by simp[ai.cg]⟩
 |a::l,k,h,hn,hs=>by
  obtain ⟨h1,h2,h3⟩:=h.gone (hs a List.mem_cons_self);rw[List.nodup_cons] at hn
  have hl:∀s∈l,((k.gone a).2.H s).isSome=true:=fun s hm=>by
   rw[h2];unfold Sl.cW;rw[if_neg (fun e:s=a=>hn.1 (e▸hm))];exact hs s (List.mem_cons_of_mem _ hm)
  obtain ⟨g1,g2⟩:=sC l _ h1 hn.2 hl;refine ⟨g1,fun s=>?_⟩;show (ai.cg l (k.gone a).2).2.H s=_;rw[g2,h2];unfold Sl.cW;by_cases e:s∈l
  ·rw[if_pos e,if_pos (List.mem_cons_of_mem _ e)]
  ·rw[if_neg e]
   by_cases e2:s=a
   ·rw[if_pos e2,if_pos (by rw[e2];exact List.mem_cons_self)]
   ·rw[if_neg e2,if_neg (by simp[e,e2])]
theorem sD:∀(l:List Slot) (k:ai),(ai.cg l k).1.length+jF (ai.cg l k).2.ae=jF k.ae
 | [],k=>by simp[ai.cg]
 |a::l,k=>by
  have h1:=Aw k a;have h2:=sD l (k.gone a).2;simp only[ai.cg,List.length_append];omega
section
variable {B:Nat} {w0 w:World} {R L:List az} {bd bk:Nat} {k:ai} {d:kQ} {ec wv wk:Int} {fs:Sl} {N:Nat}
theorem zt {y:Slot × dj} {c:dj} {sb:Nat} {K:Bool->Pw} (h:Ow B w0 w L) (i:Nat) (hi:L[i]?=some (aa sb c.cells))
  (hK:∀w',Ow B w0 w' L->K (ai.re y.2 c) w'):C.qba y.1.1 y.1.2 y.2.kind y.2.obj y.2.au y.2.aB y.2.guard y.2.bits ⟨sb,0,none⟩ K w:=by
 apply S.qba0;refine h.a fun c0 w1 h=>?_;refine eL (h.aU rfl ?_);refine h.rz (i+1) (by simpa using hi) rfl ?_;exact pE h fun w h=>hK w h.drop
theorem uG {s:Slot} {F:List dC} {K:Pw} (hk:aV N k) (hN:N≤200000) (hs:(k.H s).isSome=true) (hF:F.length+jF k.ae≤1000000000)
  (h:Ow B w0 w (aa bd (ag bk d ec wv wk fs)::af aw fs F::aj bk k::R))
  (hK:∀fs' w',Ow B w0 w' (aa bd (ag bk d ec wv wk fs')::af aw fs' (F++(k.gone s).1)::aj bk (k.gone s).2::R)->K w'):C.qaz (some ⟨bd,0,none⟩) s.1 s.2 K w:=by
 apply S.qaz0;have hkt:=hk.taken hs;obtain ⟨c,hc⟩:=Option.isSome_iff_exists.1 hs;unfold ai.gone at hK;rw[hc] at hK;have hth:Sl.bB k.bits s=true:=lS hk.b0 (hk.held s c hc).1;refine h.a fun c0 w1 h=>?_;obtain ⟨x,h⟩:=(h.pick (A:=aj bk k)).uJ;refine h.dr fun w h=>?_
 refine ⟨_,rfl,_,h.aq rfl,_,rfl,_,h.ao rfl, ?_⟩;refine h.aL rfl ⟨?_,trivial⟩;refine Tr.tu (s:=s) (h.pick (A:=Tr.bA x.tr k.T)) fun w h=>?_
 intro k14 hk14
 have fin:∀(sb:Nat) (w:World),Ow B w0 w (aa sb c.cells::aa bd (ag bk d ec wv wk fs)::af aw fs F::aj bk (k.taken s)::R)->k14 ⟨sb,0,none⟩ w:=fun sb w h=>by
  apply hk14;have hF2:F.length+jF (k.taken s).ae≤1000000000:=hF;generalize k.taken s=kt at hkt hK hF2 h⊢;obtain ⟨x,h⟩:=(h.pick (A:=aj bk kt)).uJ;refine ⟨_,rfl,_,h.aq rfl,_,rfl,_,h.aq rfl, ?_⟩;refine Sl.ga (h.pick (A:=Sl.av x.n kt.bits kt.H)) fun s2 hs2 w hih h=>?_
  have e2:hs2=iB kt.H:=hih.uniq (xG fun t c hc=>(hkt.held t c hc).1);subst e2;have h:Ow B w0 w (aj bk kt::af Sl.gX s2 (iB kt.H)::aa sb c.cells::aa bd (ag bk d ec wv wk fs)::af aw fs F::R):=Ow.bD x h.sub;refine nG (s:=s2) (p:=fun y=>ai.re y.2 c) h (Nat.le_trans (BZ _) (by decide)) (fun y w Q h hQ=>?_) fun w h=>?_
  ·refine aQ ?_
   show C.qba y.1.1 y.1.2 y.2.kind y.2.obj y.2.au y.2.aB y.2.guard y.2.bits ⟨sb,0,none⟩ Q w;exact zt (c:=c) h 2 rfl hQ
  ·have e3:((iB kt.H).any fun y=>ai.re y.2 c)=kt.more c:=BY _ _
   rw[e3];cases hm:kt.more c with
   |true=>
    refine bC rfl ?_;rw[Option.getD_some,if_pos hm] at hK;refine hK fs w ?_;show Ow B w0 w (aa bd (ag bk d ec wv wk fs)::af aw fs (F++ [])::aj bk kt::R);rw[List.append_nil];exact h.sub
   |false=>
    refine bP rfl ?_;rw[Option.getD_some,if_neg (by rw[hm];decide)] at hK;refine h.aU rfl ?_;refine B8 (c:=c) (F:=F) ⟨Nat.le_trans hkt.ne hN,Nat.le_trans hkt.nn hN,Nat.le_trans hkt.ns hN⟩ hkt.inv.ok hkt.z8 hF2 (show Ow B w0 w (aa bd (ag bk d ec wv wk fs)::af aw fs F::aj bk kt::R) from h.sub) fun fs' w h=>?_
    exact hK fs' w h
 refine h.dr fun w h=>?_
 refine ⟨_,rfl,_,h.aq rfl,_,rfl,_,h.aq rfl, ?_⟩;refine h.aL rfl ⟨?_, ?_,trivial⟩
 ·refine Sl.gg (s:=s) (h.pick (A:=Sl.av x.n k.bits k.H)) (fun e=>by rw[hth] at e;cases e) (fun _ e=>by rw[hc] at e;cases e) fun _ c2 hc2 w h=>?_
  rw[hc] at hc2;cases hc2;refine ⟨?_,trivial⟩;refine h.al fun w' h=>⟨?_,trivial⟩
  generalize w.heap.size=sb at h⊢;refine h.ax rfl rfl fun w h=>?_
  (try dsimp only[putAt,List.set_cons_zero,List.set_cons_succ] at h)
  exact fin sb w ((show Ow B w0 w (aj bk (k.taken s)::aa sb c.cells::aa bd (ag bk d ec wv wk fs)::af aw fs F::R) from Ow.bD x h.sub).sub)
 ·refine h.al fun w' h=>⟨?_,trivial⟩
  generalize w.heap.size=sb at h⊢;refine Sl.gg (s:=s) (h.pick (A:=Sl.av x.n k.bits k.H)) (fun e=>by rw[hth] at e;cases e) (fun _ e=>by rw[hc] at e;cases e) fun _ c2 hc2 w h=>?_
  rw[hc] at hc2;cases hc2;refine ⟨?_,trivial⟩;refine h.ax rfl rfl fun w h=>?_
  (try dsimp only[putAt,List.set_cons_zero,List.set_cons_succ] at h)
  exact fin sb w ((show Ow B w0 w (aj bk (k.taken s)::aa sb c.cells::aa bd (ag bk d ec wv wk fs)::af aw fs F::R) from Ow.bD x h.sub).sub)
theorem xw {K:Int->Pw} (hk:aV N k) (hN:N≤200000) (hs:(k.H d.s).isSome=true)
  (h:Ow B w0 w (aa bd (ag bk d ec wv wk fs)::af aw fs []::aj bk k::R))
  (h1:d.call.at_=0->∀w',Ow B w0 w' (aa bd (ag bk d ec wv wk fs)::af aw fs []::aj bk k::R)->K 181 w')
  (h2:d.call.at_≠0->∀fs' w',Ow B w0 w' (aa bd (ag bk d ec wv wk fs')::af aw fs' (k.gone d.s).1::aj bk (k.gone d.s).2::R)->K 0 w'):C.qaW (some ⟨bd,0,none⟩) K w:=by
 apply S.qaW0;have hp:=zN k.ae hk.z8;have hn:=hk.ns;refine ⟨_,rfl,_,aT (h.ao rfl), ?_⟩;refine gz (fun e=>h1 e w h) (fun e=>?_);refine ⟨_,rfl, ?_⟩;refine eL (h.aL rfl ?_);refine uG hk hN hs (by simp only[List.length_nil];omega) h fun fs' w h=>?_
 exact h2 e fs' w h
end
section
variable {m:Th.Mt}
theorem fI {n:Int} {t:Th.uq}:(m.aW n t).bz.length=m.bz.length:=by unfold Th.Mt.aW;simp
theorem kd {n:Int}:(m.cE n).bz.length=m.bz.length:=by unfold Th.Mt.cE Th.Mt.iS;exact fI
theorem ic {n s:Int}:(m.leave n s).bz.length=m.bz.length:=by unfold Th.Mt.leave;rw[fI,Th.cD.1]
theorem yx {n v:Int}:(m.fV n v).bz.length=m.bz.length:=rfl
theorem ig {c:Int}:(m.bJ c).bz.length=m.bz.length:=by
 unfold Th.Mt.bJ Th.Mt.pick;split
 ·split
  ·rfl
  ·split
   ·rw[yx,ic]
   ·split
    ·rfl
    ·rw[yx,ic,kd,ic]
 ·rfl
theorem gJ {n:Int}:(m.cI n).2.bz.length=m.bz.length:=by
 unfold Th.Mt.cI;split
 ·rfl
 split
 ·rfl
 ·exact kd
theorem sv {n:Int}:(m.jV n).2.bz.length=m.bz.length:=by
 unfold Th.Mt.jV;split
 ·rfl
 split
 ·rfl
 ·exact ic
theorem u4 {n p:Int}:(m.iK n p).2.bz.length=m.bz.length:=by
 unfold Th.Mt.iK;split
 ·rfl
 split
 ·rfl
 split
 ·rw[kd,fI,ic]
 ·exact fI
theorem jI {n i v:Int}:(m.rC n i v).2.bz.length=m.bz.length:=by
 unfold Th.Mt.rC;split
 ·rfl
 split
 ·rfl
 ·unfold Th.Mt.zT;exact fI
theorem pO {c:Int}:(m.yield c).bz.length=m.bz.length:=by
 unfold Th.Mt.yield;split
 ·rfl
 ·rw[ig,kd,ic,fI]
theorem yI {c:Int}:(m.tick c).bz.length=m.bz.length:=by
 unfold Th.Mt.tick;split
 ·rfl
 ·dsimp only
  split
  ·rw[pO,fI]
  ·rw[fI]
end
section
variable {B:Nat} {w0 w:World} {R L:List az} {bd bk:Nat} {k:ai} {d:kQ} {ec wv wk:Int} {fs:Sl} {N:Nat}
theorem ky {id:Int} {K:Int->Pw} (hm:Th.cA k.t) (h:Ow B w0 w (aa bd (ag bk d ec wv (-1) fs)::aj bk k::R))
  (hK:∀w',Ow B w0 w' (aa bd (ag bk d ec wv (k.gh id).2.1 fs)::aj bk (k.gh id).2.2::R)->K (k.gh id).1 w'):C.qap (some ⟨bd,0,none⟩) id K w:=by
 apply S.qap0;unfold ai.gh at hK;dsimp only at hK;obtain ⟨bt,Y,h,hc2,hback⟩:=(h.pick (A:=aj bk k)).oW;refine ⟨_,rfl,_,h.aq rfl,_,rfl,_,hc2, ?_⟩;refine Th.tc hm h fun w h=>?_
 have h:=hback _ w _ gJ h;refine gz (fun e=>?_) (fun e=>?_)
 ·rw[if_pos e] at hK
  refine ⟨_,rfl, ?_⟩;refine oN ?_;refine h.cC rfl rfl fun w h=>?_
  (dsimp only[bm,ag,putAt,List.set_cons_zero,List.set_cons_succ,Nat.zero_add] at h)
  exact hK w h.sub
 ·rw[if_neg e] at hK
  exact hK w h.sub
theorem wJ {K:Int->Pw} (hk:aV N k) (hN:N≤200000) (h:Ow B w0 w (aa bd (ag bk d ec wv wk fs)::aj bk k::R))
  (hK:∀w',Ow B w0 w' (aa bd (ag bk d ec wv wk fs)::aj bk ((k.dY d.c.obj).cr (k.t.cp d.c.obj).2)::R)->K (k.t.cp d.c.obj).1 w'):C.qaM (some ⟨bd,0,none⟩) K w:=by
 apply S.qaM0;refine h.dr fun w h=>?_
 refine ⟨_,rfl,_,h.aq rfl,_,rfl,_,aT (h.ao rfl), ?_,trivial⟩;refine mV (id:=d.c.obj) h.dz ⟨Nat.le_trans hk.ne hN,Nat.le_trans hk.nn hN⟩ fun w h=>?_
 refine h.dr fun w h=>?_
 obtain ⟨bt,Y,h,hc2,hback⟩:=h.oW;refine ⟨_,rfl,_,h.aq rfl,_,rfl,_,hc2,_,rfl,_,aT (h.ao rfl), ?_,trivial⟩;refine Th.vd hk.inv.ok h fun w h=>?_
 have h:Ow B w0 w (aj bk ((k.dY d.c.obj).cr (k.t.cp d.c.obj).2)::_):=hback _ w _ (lR _ _) h;exact hK w h.sub
theorem Cw {K:Int->Pw} (hm:Th.cA k.t) (h:Ow B w0 w (aa bd (ag bk d ec wv wk fs)::aj bk k::R))
  (hK:∀w',Ow B w0 w' (aa bd (ag bk d ec wv wk fs)::aj bk (k.cr (k.t.iK d.c.obj d.call.a).2)::R)->K (k.t.iK d.c.obj d.call.a).1 w'):C.qbF (some ⟨bd,0,none⟩) K w:=by
 apply S.qbF0;refine h.dr fun w h=>?_
 obtain ⟨bt,Y,h,hc2,hback⟩:=(h.pick (A:=aj bk k)).oW;refine ⟨_,rfl,_,h.aq rfl,_,rfl,_,hc2,_,rfl,_,aT (h.ao rfl),_,rfl,_,aT (h.ao rfl), ?_,trivial⟩;refine Th.Hx hm h fun w h=>?_
 have h:=hback _ w _ u4 h;exact hK w h.sub
theorem yk {K:Int->Pw} (hk:aV N k) (hN:N≤200000) (h:Ow B w0 w (aa bd (ag bk d ec wv (-1) fs)::aj bk k::R))
  (hK:∀w',Ow B w0 w' (aa bd (ag bk d ec wv (k.resume d).2.1 fs)::aj bk (k.resume d).2.2::R)->K (k.resume d).1 w'):C.qaX (some ⟨bd,0,none⟩) K w:=by
 apply S.qaX0;unfold ai.resume at hK;intro k2 hk2
 have fin:∀(sb:Nat) (t:Th.uq) (w:World),t=(if k.t.cQ d.c.obj then k.t.th d.c.obj else Th.HU)->Ow B w0 w (aa sb (Th.oC.enc t)::aa bd (ag bk d ec wv (-1) fs)::aj bk k::R)->k2 ⟨sb,0,none⟩ w:=fun sb t w ht h=>by
  apply hk2;refine ⟨_,h.aq rfl, ?_⟩
  have hst:(k.t.cQ d.c.obj=true/\(k.t.th d.c.obj).st=3)↔t.st=3:=by
   rw[ht];cases hT:k.t.cQ d.c.obj with
   |true=>simp
   |false=>
    have:Th.HU.st≠3:=by decide
    simp[this]
  intro k6 hk6;refine gz (fun e=>?_) (fun e=>?_)
  ·rw[if_pos (hst.2 e)] at hK
   refine h.dr fun w h=>?_
   refine ⟨_,rfl,_,h.aq rfl,_,rfl,_,aT (h.ao rfl), ?_,trivial⟩;refine mV (id:=d.c.obj) h.nC ⟨Nat.le_trans hk.ne hN,Nat.le_trans hk.nn hN⟩ fun w h=>?_
   apply hk6;refine ⟨_,rfl,_,aT (h.ao rfl), ?_⟩;exact ky (k:=k.dY d.c.obj) hk.inv.ok (Ow.sub (L':=aa bd (ag bk d ec wv (-1) fs)::aj bk (k.dY d.c.obj)::R) h) fun w h=>hK w h
  ·rw[if_neg (fun hh=>e (hst.1 hh))] at hK
   apply hk6;refine ⟨_,rfl,_,aT (h.ao rfl), ?_⟩;exact ky hk.inv.ok h.drop fun w h=>hK w h
 refine h.dr fun w h=>?_
 obtain ⟨bt,Y,h,hc2,hback⟩:=(h.pick (A:=aj bk k)).oW;have hsame:k.cr k.t=k:=rfl;refine ⟨_,rfl,_,h.aq rfl,_,rfl,_,hc2,_,rfl,_,aT (h.ao rfl), ?_, ?_,trivial⟩
 ·refine Th.oD h fun w t ht h=>?_
  have h:=hback _ w _ rfl h;rw[hsame] at h;refine ⟨?_,trivial⟩;refine h.al fun w' h=>⟨?_,trivial⟩
  generalize w.heap.size=sb at h⊢;refine h.ax rfl rfl fun w h=>?_
  (try dsimp only[putAt,List.set_cons_zero,List.set_cons_succ] at h)
  have h:Ow B w0 w (aa sb (Th.oC.enc t)::_):=h;exact fin sb t w ht h.sub
 ·refine h.al fun w' h=>⟨?_,trivial⟩
  generalize w.heap.size=sb at h⊢;refine Th.oD h.dz fun w t ht h=>?_
  have h:=hback _ w _ rfl (h.pick (A:=Y)).dz;rw[hsame] at h;refine ⟨?_,trivial⟩;refine h.ax rfl rfl fun w h=>?_
  (try dsimp only[putAt,List.set_cons_zero,List.set_cons_succ] at h)
  have h:Ow B w0 w (aj bk k::aa sb (Th.oC.enc t)::_):=h;exact fin sb t w ht h.sub
theorem pD {K:Pw} (hk:aV N k) (h:Ow B w0 w (aa bd (ag bk d ec wv wk fs)::aj bk k::R))
  (hK:∀w',Ow B w0 w' (aa bd (ag bk d ec wv wk fs)::aj bk (k.rest d)::R)->K w'):C.qaA (some ⟨bd,0,none⟩) K w:=by
 apply S.qaA0;unfold ai.rest at hK;refine ⟨_,rfl,_,aT (h.ao rfl), ?_⟩;refine yZ (fun e=>?_) (fun e=>?_)
 ·rw[if_pos e] at hK
  refine h.dr fun w h=>?_
  obtain ⟨bt,Y,h,hc2,hback⟩:=(h.pick (A:=aj bk k)).oW;refine ⟨_,rfl,_,h.aq rfl,_,rfl,_,hc2,_,rfl,_,h.ao rfl, ?_,trivial⟩;refine Th.FO hk.inv.ok h fun w h=>?_
  have h:=hback _ w _ sv h;refine h.dr fun w h=>?_
  obtain ⟨bt,Y,h,hc2,hback⟩:=h.oW;refine ⟨_,rfl,_,h.aq rfl,_,rfl,_,hc2,_,rfl,_,h.ao rfl, ?_,trivial⟩;refine Th.gC (hk.inv.block _).ok h fun w h=>?_
  have h:=hback _ w _ ig h;exact hK w (Ow.sub (L:=aj bk (k.cr ((k.t.jV d.cur).2.bJ d.core))::aa bd (ag bk d ec wv wk fs)::R) h)
 ·rw[if_neg (fun hh=>hh e)] at hK
  exact hK w h
theorem uF {id:Int} {m:Fq} {K:Pw} (hk:aV N k) (h:Ow B w0 w (aa bd (ag bk d ec wv wk fs)::aj bk k::R))
  (hK:∀w',Ow B w0 w' (aa bd (ag bk d ec wv wk fs)::aj bk (k.mz id m)::R)->K w'):C.qbd (some ⟨bd,0,none⟩) id m.label m.w0 m.w1 m.w2 m.w3 m.aB m.calls K w:=by
 apply S.qbd0;unfold ai.mz at hK;refine h.a fun c0 w1 h=>?_;refine ⟨_,h.ao rfl,_,h.aq rfl,by decide,by decide,_,aT (h.ao rfl), ?_⟩;refine h.a fun g w2 h=>?_;intro l15 hl15
 have one:∀(i:Nat) (kk:ai) (v:Int) (w:World),i<3->Th.bG (-1) kk.t->[m.aB,IntKind.u64.wrap m.label,m.w0][i]?=some v->Ow B w0 w (aa g [.y m.aB, .y (IntKind.u64.wrap m.label), .y m.w0]::aa bd (ag bk d ec wv wk fs)::aj bk kk::R)->
   (∀w',Ow B w0 w' (aa g [.y m.aB, .y (IntKind.u64.wrap m.label), .y m.w0]::aa bd (ag bk d ec wv wk fs)::aj bk (kk.cr (kk.t.rC id (i:Int) v).2)::R)->l15 ((i+1:Nat):Int) w')->l15 (i:Int) w:=fun i kk v w hi hm hv h hnext=>by
  apply hl15;refine aR om ?_;obtain ⟨bt,Y,h,hc2,hback⟩:=(h.pick (A:=aj bk kk)).oW
  have hcell:w.cell? ((Addr.mk g 0 none).add ((i:Int).toNat*1))=some (.y v):=by
   refine h.ao ?_;have:i=0∨i=1∨i=2:=by omega
   rcases this with rfl|rfl|rfl<;>(simp at hv;subst hv;rfl)
  refine ⟨_,rfl,om,om,_,hcell,_,rfl,_,h.aq rfl,_,rfl,_,hc2, ?_⟩;refine Th.GW hm.ok h fun w h=>?_
  have h:=hback _ w _ jI h;rw[wI i om];exact hnext w h.sub
 refine one 0 k m.aB w2 (by decide) hk.inv rfl h.yq fun w h=>?_
 refine one 1 _ _ w (by decide) (hk.inv.zT _ _ _) rfl h fun w h=>?_
 refine one 2 _ _ w (by decide) ((hk.inv.zT _ _ _).zT _ _ _) rfl h fun w h=>?_
 apply hl15;refine aD (by decide) ?_;exact hK w h.drop
end
section
variable {B:Nat} {w0 w:World} {R L:List az} {bd bk:Nat} {k:ai} {d:kQ} {ec wv wk:Int} {fs:Sl} {N:Nat}
theorem aV.iQ (hk:aV N k) {n:Int} (h0:0≤n) (h1:n<(k.ends.length:Int)):k.ends[n.toNat]?=some (k.iQ n)/\(k.iQ n).l.length≤N:=by
 have hx:k.ends[n.toNat]?=some k.ends[n.toNat]:=gE om;unfold ai.iQ;rw[hx];exact ⟨rfl,hk.el _ (List.getElem_mem _)⟩
theorem aV.oK (hk:aV N k) {n:Int} (h0:0≤n) (h1:n<(k.notes.length:Int)):k.notes[n.toNat]?=some (k.oK n)/\(k.oK n).l.length≤N:=by
 have hx:k.notes[n.toNat]?=some k.notes[n.toNat]:=gE om;unfold ai.oK;rw[hx];exact ⟨rfl,hk.nl _ (List.getElem_mem _)⟩
theorem aV.iL (hk:aV N k) {n:Int} (h0:0≤n) (h1:n<(k.ae.length:Int)):k.ae[n.toNat]?=some (k.iL n)/\Tb.fM (k.iL n):=by
 have hx:k.ae[n.toNat]?=some k.ae[n.toNat]:=gE om;unfold ai.iL;rw[hx];exact ⟨rfl,hk.z8 _ (List.getElem_mem _)⟩
theorem xB (p:kI) (t:Bool):(p.first t).2.l.length≤p.l.length:=by
 unfold kI.first
 split
 ·exact Nat.le_refl _
 ·rename_i o r e
  split
  ·dsimp only;rw[e];simp
  ·exact Nat.le_refl _
theorem A6 (p:kI) (n:Int) (m:Fq) (wt:Bool):(p.send n m wt).2.2.l.length≤p.l.length+1:=by
 have:=xB p false;unfold kI.send;split
 ·exact Nat.le_succ _
 split
 ·rename_i h;rw[h] at this;dsimp only at this⊢;omega
 ·split
  ·simp
  ·exact Nat.le_succ _
theorem AW (p:kI) (n:Int) (wt:Bool):(p.recv n wt).2.2.l.length≤p.l.length+1:=by
 have:=xB p true;unfold kI.recv;split
 ·exact Nat.le_succ _
 split
 ·rename_i h;rw[h] at this;dsimp only at this⊢;omega
 ·split
  ·simp
  ·exact Nat.le_succ _
theorem aV.fK (hk:aV N k) {n:Int} {p:kI} (hp:p.l.length≤N+1):aV (N+1) (k.fK n p):=by
 have hM:=hk.mono (Nat.le_succ N);have hG:Gr k (k.fK n p):=⟨Nat.le_refl _,Nat.le_refl _,Nat.le_refl _,by simp[ai.fK],Nat.le_refl _,Nat.le_refl _,Nat.le_refl _,Nat.le_refl _⟩
 refine hM.same (k':=k.fK n p) rfl rfl rfl hG hk.inv hk.ln hk.C1 hk.u hk.z8 hM.nu (by simpa [ai.fK] using hM.ne) hM.nn hM.ns hM.nf hM.nt (fun q hq=>?_) hM.nl;rcases List.mem_or_eq_of_mem_set hq with hq|hq
 ·exact hM.el q hq
 ·rw[hq];exact hp
theorem aV.lO (hk:aV N k) {n:Int} {p:rI} (hp:p.l.length≤N+1):aV (N+1) (k.lO n p):=by
 have hM:=hk.mono (Nat.le_succ N);have hG:Gr k (k.lO n p):=⟨Nat.le_refl _,Nat.le_refl _,Nat.le_refl _,Nat.le_refl _,by simp[ai.lO],Nat.le_refl _,Nat.le_refl _,Nat.le_refl _⟩
 refine hM.same (k':=k.lO n p) rfl rfl rfl hG hk.inv hk.ln (fun x hx hx2=>by have:=hk.C1 x hx hx2;simpa [ai.lO] using this) hk.u hk.z8 hM.nu hM.ne (by simpa [ai.lO] using hM.nn) hM.ns hM.nf hM.nt hM.el (fun q hq=>?_);rcases List.mem_or_eq_of_mem_set hq with hq|hq
 ·exact hM.nl q hq
 ·rw[hq];exact hp
theorem aV.mz (hk:aV N k) {id:Int} {m:Fq}:aV N (k.mz id m):=
 hk.cr (((hk.inv.zT _ _ _).zT _ _ _).zT _ _ _) (by rw[jI,jI,jI];exact Nat.le_refl _)
theorem aV.rest (hk:aV N k):aV N (k.rest d):=by
 unfold ai.rest;split
 ·exact hk.cr ((hk.inv.block _).bJ _) (by rw[ig,sv];exact Nat.le_refl _)
 ·exact hk
theorem aV.gh (hk:aV N k) (id:Int):aV N (k.gh id).2.2:=hk.cr (hk.inv.resume id) (by rw[gJ];exact Nat.le_refl _)
abbrev Ip (x:Met):List Value:=[.bool x.is, .z x.fa, .z x.to, .z x.m.label, .y x.m.w0, .y x.m.w1, .y x.m.w2, .y x.m.w3, .y x.m.aB, .bool x.m.calls]
theorem CE {K:Int->Pw} (hk:aV N k) (hN:N≤200000) (h0:0≤d.c.obj) (h1:d.c.obj<(k.ends.length:Int)) (h:Ow B w0 w (aa bd (ag bk d ec 0 (-1) fs)::aj bk k::R))
  (hK:∀w',Ow B w0 w' (aa bd (ag bk d ec 0 (k.send d).1.dg fs)::aj bk (k.send d).2::R)->K (k.send d).1.e w'):C.qbG (some ⟨bd,0,none⟩) K w:=by
 apply S.qbG0;obtain ⟨hp,hpl⟩:=hk.iQ h0 h1;have hse:=A6 (k.iQ d.c.obj) d.cur (ai.fy d) (d.call.c !=0);have hkE:=hk.fK (n:=d.c.obj) (p:=((k.iQ d.c.obj).send d.cur (ai.fy d) (d.call.c !=0)).2.2) om;unfold ai.send at hK;refine h.dr fun w h=>?_
 refine ⟨_,rfl,_,aT (h.ao rfl),_,rfl,_,aT (h.ao rfl),_,rfl,_,aT (h.ao rfl), ?_,trivial⟩;refine h.al fun w1 h=>⟨?_,trivial⟩
 generalize w.heap.size=cm at h⊢;refine h.ax rfl rfl fun w h=>?_
 (try dsimp only[putAt,List.set_cons_zero,List.set_cons_succ] at h)
 intro k11 hk11
 have fin:∀(sb:Nat) (x:Met) (w:World),x=((k.iQ d.c.obj).send d.cur (ai.fy d) (d.call.c !=0)).1->Ow B w0 w (aa sb (Ip x)::aa bd (ag bk d ec 0 (-1) fs)::aj bk (k.fK d.c.obj ((k.iQ d.c.obj).send d.cur (ai.fy d) (d.call.c !=0)).2.2)::R)->k11 ⟨sb,0,none⟩ ((k.iQ d.c.obj).send d.cur (ai.fy d) (d.call.c !=0)).2.1 w:=fun sb x w hx h=>by
  apply hk11;generalize (k.iQ d.c.obj).send d.cur (ai.fy d) (d.call.c !=0)=P at hx h hK hkE⊢;obtain ⟨y,e,p'⟩:=P;dsimp only at hx h hK hkE⊢;subst hx;by_cases he:e≠0
  ·rw[if_pos he] at hK
   exact lj he (hK w h.drop)
  rw[if_neg he] at hK;refine fN om ⟨_,h.aq rfl, ?_⟩;cases hi:x.is with
  |false=>
   rw[if_pos hi] at hK;refine bP rfl ?_;refine pD hkE h.drop fun w h=>?_
   exact hK w h
  |true=>
   rw[if_neg (by rw[hi];decide)] at hK;refine bC rfl ⟨_,h.ao rfl, ?_⟩;refine eL (h.F5 rfl ?_);refine uF (id:=x.to) (m:=x.m) hkE ((h.pick (A:=aj bk (k.fK d.c.obj p'))).pick (A:=aa bd (ag bk d ec 0 (-1) fs))) fun w h=>?_
   refine ⟨_,h.ao rfl, ?_⟩;have hK2:∀w',Ow B w0 w' (aa bd (ag bk d ec 0 (((k.fK d.c.obj p').mz x.to x.m).gh x.to).2.1 fs)::aj bk (((k.fK d.c.obj p').mz x.to x.m).gh x.to).2.2::R)->K (((k.fK d.c.obj p').mz x.to x.m).gh x.to).1 w':=hK;refine ky hkE.mz.inv.ok h fun w h=>?_
   exact hK2 w h.sub
 refine h.dr fun w h=>?_
 obtain ⟨ss,ps,Y,h,hc2,hpn,hback⟩:=(h.pick (A:=aj bk k)).GR;have hq:ps[d.c.obj.toNat]?=some ps[d.c.obj.toNat]:=gE om;generalize ps[d.c.obj.toNat]=pp at hq;refine ⟨_,rfl,_,h.aq rfl,_,rfl,ss,hc2,_,rfl,_,aT (h.ao rfl), ?_⟩;refine gT (s:=ss) (i:=d.c.obj) (j:=d.c.obj.toNat) h om hq fun a ha hc=>⟨_,hc, ?_⟩
 refine ⟨_,rfl,_,h.ao rfl, ?_⟩;refine h.F5 rfl ?_;refine ⟨_,rfl,_,aT (h.ao rfl), ?_, ?_,trivial⟩
 ·have h:=(h.pick (A:=ar cd ps k.ends)).zP hq hp
  refine iw (m:=ai.fy d) om h fun w x hx h=>?_
  have h:=(h.dp hpn hq).dz;have h:Ow B w0 w (aj bk (k.fK d.c.obj ((k.iQ d.c.obj).send d.cur (ai.fy d) (d.call.c !=0)).2.2)::_):=hback _ w _ h;refine ⟨?_,trivial⟩;refine h.al fun w' h=>⟨?_,trivial⟩
  generalize w.heap.size=sb at h⊢;refine h.ax rfl rfl fun w h=>?_
  (try dsimp only[putAt,List.set_cons_zero,List.set_cons_succ] at h)
  exact fin sb x w hx h.sub
 ·refine h.al fun w' h=>⟨?_,trivial⟩
  generalize w.heap.size=sb at h⊢;have h:=(h.pick (A:=ar cd ps k.ends)).zP hq hp;refine iw (m:=ai.fy d) om h fun w x hx h=>?_
  have h:=(h.dp hpn hq)
  have h:Ow B w0 w (aj bk (k.fK d.c.obj ((k.iQ d.c.obj).send d.cur (ai.fy d) (d.call.c !=0)).2.2)::_):=hback _ w _ (h.pick (A:=Y)).dz.vj;refine ⟨?_,trivial⟩;refine h.ax rfl rfl fun w h=>?_
  (try dsimp only[putAt,List.set_cons_zero,List.set_cons_succ] at h)
  exact fin sb x w hx h.sub
theorem CB {K:Int->Pw} (hk:aV N k) (hN:N≤200000) (h0:0≤d.c.obj) (h1:d.c.obj<(k.ends.length:Int)) (h:Ow B w0 w (aa bd (ag bk d ec 0 (-1) fs)::aj bk k::R))
  (hK:∀w',Ow B w0 w' (aa bd (ag bk d ec 0 (k.recv d).1.dg fs)::aj bk (k.recv d).2::R)->K (k.recv d).1.e w'):C.qbH (some ⟨bd,0,none⟩) K w:=by
 apply S.qbH0;obtain ⟨hp,hpl⟩:=hk.iQ h0 h1;have hse:=AW (k.iQ d.c.obj) d.cur (d.call.c !=0);have hkE:=hk.fK (n:=d.c.obj) (p:=((k.iQ d.c.obj).recv d.cur (d.call.c !=0)).2.2) om;unfold ai.recv at hK;intro k11 hk11
 have fin:∀(sb:Nat) (x:Met) (w:World),x=((k.iQ d.c.obj).recv d.cur (d.call.c !=0)).1->Ow B w0 w (aa sb (Ip x)::aa bd (ag bk d ec 0 (-1) fs)::aj bk (k.fK d.c.obj ((k.iQ d.c.obj).recv d.cur (d.call.c !=0)).2.2)::R)->k11 ⟨sb,0,none⟩ ((k.iQ d.c.obj).recv d.cur (d.call.c !=0)).2.1 w:=fun sb x w hx h=>by
  apply hk11;generalize (k.iQ d.c.obj).recv d.cur (d.call.c !=0)=P at hx h hK hkE⊢;obtain ⟨y,e,p'⟩:=P;dsimp only at hx h hK hkE⊢;subst hx;by_cases he:e≠0
  ·rw[if_pos he] at hK
   exact lj he (hK w h.drop)
  rw[if_neg he] at hK;refine fN om ⟨_,h.aq rfl, ?_⟩;cases hi:x.is with
  |false=>
   rw[if_pos hi] at hK;refine bP rfl ?_;refine pD hkE h.drop fun w h=>?_
   exact hK w h
  |true=>
   rw[if_neg (by rw[hi];decide)] at hK;refine bC rfl ?_;refine h.dr fun w h=>?_
   refine ⟨_,rfl,_,h.ao rfl, ?_⟩;refine eL (h.F5 rfl ⟨?_,trivial⟩);refine uF (id:=d.cur) (m:=x.m) hkE ((h.pick (A:=aj bk (k.fK d.c.obj p'))).pick (A:=aa bd (ag bk d ec 0 (-1) fs))) fun w h=>?_
   refine ⟨_,h.ao rfl, ?_⟩;have hK2:∀w',Ow B w0 w' (aa bd (ag bk d ec 0 (((k.fK d.c.obj p').mz d.cur x.m).gh x.fa).2.1 fs)::aj bk (((k.fK d.c.obj p').mz d.cur x.m).gh x.fa).2.2::R)->K (((k.fK d.c.obj p').mz d.cur x.m).gh x.fa).1 w':=hK;refine ky hkE.mz.inv.ok h fun w h=>?_
   exact hK2 w h.sub
 refine h.dr fun w h=>?_
 obtain ⟨ss,ps,Y,h,hc2,hpn,hback⟩:=(h.pick (A:=aj bk k)).GR;have hq:ps[d.c.obj.toNat]?=some ps[d.c.obj.toNat]:=gE om;generalize ps[d.c.obj.toNat]=pp at hq;refine ⟨_,rfl,_,h.aq rfl,_,rfl,ss,hc2,_,rfl,_,aT (h.ao rfl), ?_⟩;refine gT (s:=ss) (i:=d.c.obj) (j:=d.c.obj.toNat) h om hq fun a ha hc=>⟨_,hc, ?_⟩
 refine ⟨_,rfl,_,h.ao rfl,_,rfl,_,aT (h.ao rfl), ?_, ?_,trivial⟩
 ·have h:=(h.pick (A:=ar cd ps k.ends)).zP hq hp
  refine iv om h fun w x hx h=>?_
  have h:=(h.dp hpn hq).dz;have h:Ow B w0 w (aj bk (k.fK d.c.obj ((k.iQ d.c.obj).recv d.cur (d.call.c !=0)).2.2)::_):=hback _ w _ h;refine ⟨?_,trivial⟩;refine h.al fun w' h=>⟨?_,trivial⟩
  generalize w.heap.size=sb at h⊢;refine h.ax rfl rfl fun w h=>?_
  (try dsimp only[putAt,List.set_cons_zero,List.set_cons_succ] at h)
  exact fin sb x w hx h.sub
 ·refine h.al fun w' h=>⟨?_,trivial⟩
  generalize w.heap.size=sb at h⊢;have h:=(h.pick (A:=ar cd ps k.ends)).zP hq hp;refine iv om h fun w x hx h=>?_
  have h:=(h.dp hpn hq)
  have h:Ow B w0 w (aj bk (k.fK d.c.obj ((k.iQ d.c.obj).recv d.cur (d.call.c !=0)).2.2)::_):=hback _ w _ (h.pick (A:=Y)).dz.vj;refine ⟨?_,trivial⟩;refine h.ax rfl rfl fun w h=>?_
  (try dsimp only[putAt,List.set_cons_zero,List.set_cons_succ] at h)
  exact fin sb x w hx h.sub
theorem CJ (n:rI) (g:Int):(n.bT g).2.l.length≤n.l.length:=by
 unfold rI.bT;split
 ·rename_i x r e;dsimp only;rw[e];simp
 ·rename_i e;dsimp only;rw[e];simp
theorem Be (n:rI) (js:Int) (wt:Bool):(n.wait js wt).2.l.length≤n.l.length+1:=by
 unfold rI.wait;split
 ·exact Nat.le_succ _
 split
 ·exact Nat.le_succ _
 ·dsimp only
  split
  ·simp
  ·exact Nat.le_succ _
theorem lP {n g:Int} {K:Int->Pw} (hk:aV N k) (hN:N≤200000) (h0:0≤n) (h1:n<(k.notes.length:Int)) (h:Ow B w0 w (aj bk k::R))
  (hK:∀w',Ow B w0 w' (aj bk (k.bT n g).2::R)->K (k.bT n g).1 w'):C.qX (some ⟨bk,0,none⟩) n g K w:=by
 apply S.qX0;obtain ⟨hp,hpl⟩:=hk.oK h0 h1;unfold ai.bT at hK;obtain ⟨ss,ps,Y,h,hc2,hpn,hback⟩:=h.D4;have hq:ps[n.toNat]?=some ps[n.toNat]:=gE om;generalize ps[n.toNat]=pp at hq;refine ⟨_,rfl,ss,hc2, ?_⟩;refine gT (s:=ss) (i:=n) (j:=n.toNat) h om hq fun a ha hc=>⟨_,hc, ?_⟩
 have h:=(h.pick (A:=ar bF ps k.notes)).zP hq hp;refine nm h fun w h=>?_
 have h:=(h.dp hpn hq).dz;have h:Ow B w0 w (aj bk (k.lO n ((k.oK n).bT g).2)::R):=hback _ w _ h;cases hs:((k.oK n).bT g).1 with
 |none=>
  rw[hs] at hK;exact bP rfl (hK w h)
 |some js=>
  rw[hs] at hK;refine bC rfl ?_;obtain ⟨bt,Y,h,hc2,hback⟩:=h.oW;refine ⟨_,rfl,_,hc2, ?_⟩;refine Th.GW hk.inv.ok h fun w h=>?_
  have h:=hback _ w _ jI h;obtain ⟨bt,Y,h,hc2,hback⟩:=h.oW;refine ⟨_,rfl,_,hc2, ?_⟩;refine Th.tc (hk.inv.zT _ _ _).ok h fun w h=>?_
  have h:=hback _ w _ gJ h;exact hK w h
theorem tg {K:Int->Pw} (hk:aV N k) (hN:N≤200000) (h0:0≤d.c.obj) (h1:d.c.obj<(k.notes.length:Int)) (h:Ow B w0 w (aa bd (ag bk d ec wv wk fs)::aj bk k::R))
  (hK:∀w',Ow B w0 w' (aa bd (ag bk d ec wv (k.bT d.c.obj d.c.aB).1 fs)::aj bk (k.bT d.c.obj d.c.aB).2::R)->K 0 w'):C.qan (some ⟨bd,0,none⟩) K w:=by
 apply S.qan0;refine h.dr fun w h=>?_
 refine ⟨_,rfl,_,h.aq rfl,_,rfl,_,aT (h.ao rfl),_,rfl,_,aT (h.ao rfl), ?_,trivial⟩;refine lP hk hN h0 h1 h.dz fun w h=>?_
 refine ⟨_,rfl, ?_,trivial⟩;refine oN ?_;refine h.cC rfl rfl fun w h=>?_
 (dsimp only[bm,ag,putAt,List.set_cons_zero,List.set_cons_succ,Nat.zero_add] at h)
 exact hK w h.sub
theorem CV {K:Int->Pw} (hk:aV N k) (hN:N≤200000) (h0:0≤d.c.obj) (h1:d.c.obj<(k.notes.length:Int)) (h:Ow B w0 w (aa bd (ag bk d ec 0 wk fs)::aj bk k::R))
  (hK:∀w',Ow B w0 w' (aa bd (ag bk d ec (k.wait d).1.w wk fs)::aj bk (k.wait d).2::R)->K (k.wait d).1.e w'):C.qbI (some ⟨bd,0,none⟩) K w:=by
 apply S.qbI0;obtain ⟨hp,hpl⟩:=hk.oK h0 h1;have hwl:=Be (k.oK d.c.obj) d.cur (d.call.c !=0);have hkN:=hk.lO (n:=d.c.obj) (p:=((k.oK d.c.obj).wait d.cur (d.call.c !=0)).2) om;unfold ai.wait at hK;refine h.dr fun w h=>?_
 obtain ⟨ss,ps,Y,h,hc2,hpn,hback⟩:=(h.pick (A:=aj bk k)).D4;have hq:ps[d.c.obj.toNat]?=some ps[d.c.obj.toNat]:=gE om;generalize ps[d.c.obj.toNat]=pp at hq;refine ⟨_,rfl,_,h.aq rfl,_,rfl,ss,hc2,_,rfl,_,aT (h.ao rfl), ?_⟩;refine gT (s:=ss) (i:=d.c.obj) (j:=d.c.obj.toNat) h om hq fun a ha hc=>⟨_,hc, ?_⟩
 refine ⟨_,rfl,_,h.ao rfl,_,rfl,_,aT (h.ao rfl), ?_,trivial⟩;have h:=(h.pick (A:=ar bF ps k.notes)).zP hq hp;refine pw om h fun w h=>?_
 have h:=(h.dp hpn hq).dz;have h:Ow B w0 w (aj bk (k.lO d.c.obj ((k.oK d.c.obj).wait d.cur (d.call.c !=0)).2)::aa bd (ag bk d ec 0 wk fs)::R):=hback _ w _ h;generalize (k.oK d.c.obj).wait d.cur (d.call.c !=0)=P at h hK hkN⊢;obtain ⟨⟨y,is,e⟩,p'⟩:=P;dsimp only at h hK hkN⊢;by_cases he:e≠0
 ·rw[if_pos he] at hK
  exact lj he (hK w h.dz)
 rw[if_neg he] at hK;refine fN om ?_;intro k19 hk19
 have fin:∀(k':ai) (w:World),(∀w',Ow B w0 w' (aa bd (ag bk d ec y wk fs)::aj bk k'::R)->K 0 w')->Ow B w0 w (aa bd (ag bk d ec 0 wk fs)::aj bk k'::R)->k19 w:=fun k' w hK h=>by
  apply hk19;refine ⟨_,rfl, ?_⟩;refine oN ?_;refine h.cC rfl rfl fun w h=>?_
  (dsimp only[bm,ag,putAt,List.set_cons_zero,List.set_cons_succ,Nat.zero_add] at h)
  exact hK w h
 cases is with
 |false=>
  refine bP rfl ?_;refine pD hkN h.dz fun w h=>?_
  exact fin _ w (fun w' h=>hK w' h) h
 |true=>
  refine bC rfl ?_;exact fin _ w (fun w' h=>hK w' h) h.dz
end
section
variable {B:Nat} {w0 w:World} {R L:List az} {bd bk:Nat} {k:ai} {d:kQ} {ec wv wk:Int} {fs:Sl} {N:Nat}
theorem Ad {K:Int->Pw} (hk:aV N k) (h:Ow B w0 w (aa bd (ag bk d ec wv wk fs)::aj bk k::R))
  (hK:∀w',Ow B w0 w' (aa bd (ag bk d ec wv wk fs)::aj bk (k.table d).2::R)->K (k.table d).1.e w'):C.qbm (some ⟨bd,0,none⟩) K w:=by
 apply S.qbm0;unfold ai.table at hK;intro k2 hk2
 have fbad:k.dB d.call.ak 8=false->∀(sb:Addr) (w:World),Ow B w0 w (aa bd (ag bk d ec wv wk fs)::aj bk k::R)->k2 sb false w:=fun hB sb w h=>by
  rw[if_pos hB] at hK;apply hk2;exact bP rfl (hK w h)
 have fgood:k.dB d.call.ak 8=true->∀(sb:Nat) (c:dj) (w:World),c=k.bN d.call.ak->Ow B w0 w (aa sb [.z c.kind, .z c.obj, .z c.au, .y c.aB, .y c.guard, .z c.bits]::aa bd (ag bk d ec wv wk fs)::aj bk k::R)->k2 ⟨sb,0,none⟩ true w:=fun hB sb c w hc h=>by
  rw[if_neg (by rw[hB];decide)] at hK;dsimp only[ai.tell] at hK;obtain ⟨hb1,hb2⟩:=jA hB;obtain ⟨_,_,ho,_,_⟩:=hk.cap hb1;rw[←hc] at ho hb2 hK;have o0:=ho.1;have o1:=ho.2.2.2.2.2.2.2.2.1 (hb2 (by decide));obtain ⟨hp,hsk⟩:=hk.iL o0 o1;apply hk2;refine bC rfl ?_;refine h.dr fun w h=>?_
  obtain ⟨ss,ps,Y,h,hc2,hpn,hback⟩:=(h.pick (A:=aj bk k)).mf;have hq:ps[c.obj.toNat]?=some ps[c.obj.toNat]:=gE om;generalize ps[c.obj.toNat]=pp at hq;refine ⟨_,rfl,_,h.aq rfl,_,rfl,ss,hc2,_,h.ao rfl, ?_⟩;refine gT (s:=ss) (i:=c.obj) (j:=c.obj.toNat) h om hq fun a ha hcc=>⟨_,hcc, ?_⟩
  refine ⟨_,rfl,_,aT (h.ao rfl),_,rfl,_,aT (h.ao rfl), ?_,trivial⟩;have h:=(h.pick (A:=ar Tb.bc ps k.ae)).zP hq hp;refine Tb.zc h fun w h=>?_
  have h:=(h.dp hpn hq).dz;have h:Ow B w0 w (aj bk (k.jk c.obj ((k.iL c.obj).jn d.call.a d.c.obj).2)::_):=hback _ w _ h;exact hK w h.sub
 refine h.dr fun w h=>?_
 refine ⟨_,rfl,_,h.aq rfl,_,rfl,_,aT (h.ao rfl), ?_⟩
 (repeat' (first|exact trivial|(exact fbad (by assumption) _ _ h.sub)|(exact fgood (by assumption) _ _ _ (by assumption) h.sub)|(refine mc hk (h.pick (A:=aj bk k)) (fun hB s c w h=>?_) (fun hB w c hc h=>?_))|(refine h.al fun w h=>?_)|(refine h.dr fun w h=>?_)|(refine h.aL rfl ?_)|(refine h.aU rfl ?_)|(refine ⟨_,h.aq rfl, ?_⟩)|(refine ⟨_,h.ao rfl, ?_⟩)|(refine h.hd rfl ?_)|(refine ⟨h.aq rfl, ?_⟩)|(refine ⟨h.ao rfl, ?_⟩)|((refine h.ax rfl rfl fun w h=>?_);(try dsimp only[putAt,List.set_cons_zero,List.set_cons_succ] at h))|(refine eC ?_)|(refine _root_.Go.Vc.a2 ?_)|(refine h.dy rfl rfl fun w h=>?_)|(refine h.cC rfl rfl fun w h=>?_)|(refine And.intro ?_ ?_)))
theorem xY {K:Int->Pw} (hk:aV N k) (h:Ow B w0 w (aa bd (ag bk d ec wv wk fs)::aj bk k::R))
  (hK:∀w',Ow B w0 w' (aa bd (ag bk d ec wv wk fs)::aj bk (k.mapped d).2::R)->K (k.mapped d).1.e w'):C.qaY (some ⟨bd,0,none⟩) K w:=by
 apply S.qaY0;unfold ai.mapped at hK;intro k2 hk2
 have fbad:k.dB d.call.ak 8=false->∀(sb:Addr) (w:World),Ow B w0 w (aa bd (ag bk d ec wv wk fs)::aj bk k::R)->k2 sb false w:=fun hB sb w h=>by
  rw[if_pos hB] at hK;apply hk2;exact bP rfl (hK w h)
 have fgood:k.dB d.call.ak 8=true->∀(sb:Nat) (c:dj) (w:World),c=k.bN d.call.ak->Ow B w0 w (aa sb [.z c.kind, .z c.obj, .z c.au, .y c.aB, .y c.guard, .z c.bits]::aa bd (ag bk d ec wv wk fs)::aj bk k::R)->k2 ⟨sb,0,none⟩ true w:=fun hB sb c w hc h=>by
  rw[if_neg (by rw[hB];decide)] at hK;dsimp only[ai.tell] at hK;obtain ⟨hb1,hb2⟩:=jA hB;obtain ⟨_,_,ho,_,_⟩:=hk.cap hb1;rw[←hc] at ho hb2 hK;have o0:=ho.1;have o1:=ho.2.2.2.2.2.2.2.2.1 (hb2 (by decide));obtain ⟨hp,hsk⟩:=hk.iL o0 o1;apply hk2;refine bC rfl ?_;refine h.dr fun w h=>?_
  obtain ⟨ss,ps,Y,h,hc2,hpn,hback⟩:=(h.pick (A:=aj bk k)).mf;have hq:ps[c.obj.toNat]?=some ps[c.obj.toNat]:=gE om;generalize ps[c.obj.toNat]=pp at hq;refine ⟨_,rfl,_,h.aq rfl,_,rfl,ss,hc2,_,h.ao rfl, ?_⟩;refine gT (s:=ss) (i:=c.obj) (j:=c.obj.toNat) h om hq fun a ha hcc=>⟨_,hcc, ?_⟩
  have h:=(h.pick (A:=ar Tb.bc ps k.ae)).zP hq hp
  have fin:∀w,Ow B w0 w (Tb.bc pp ((k.iL c.obj).pf d.call.a (d.c.obj,dx .i64 d.c.au d.call.b)).2::bh ((List.zipWith Tb.bc ps k.ae).eraseIdx c.obj.toNat)::af cz ss ps::Y::aa bd (ag bk d ec wv wk fs)::R)->K ((k.iL c.obj).pf d.call.a (d.c.obj,dx .i64 d.c.au d.call.b)).1 w:=fun w h=>by
   have h:=(h.dp hpn hq).dz;have h:Ow B w0 w (aj bk (k.jk c.obj ((k.iL c.obj).pf d.call.a (d.c.obj,dx .i64 d.c.au d.call.b)).2)::_):=hback _ w _ h;exact hK w h.sub
  have go:∀w,Ow B w0 w (Tb.bc pp (k.iL c.obj)::bh ((List.zipWith Tb.bc ps k.ae).eraseIdx c.obj.toNat)::af cz ss ps::Y::aa bd (ag bk d ec wv wk fs)::R)->C.qbw (some ⟨pp,0,none⟩) d.call.a d.c.obj (dx .i64 d.c.au d.call.b) (fun r w=>K r w) w:=fun w h=>Tb.C6 (p:=(d.c.obj,dx .i64 d.c.au d.call.b)) h fun w h=>fin w h
  have rd:∀{w:World},Ow B w0 w (aa bd (ag bk d ec wv wk fs)::R)->True:=fun _=>trivial
  refine ⟨_,rfl,_,aT (h.ao rfl),_,rfl,_,aT (h.ao rfl),_,rfl,_,aT (h.ao rfl),_,rfl,_,aT (h.ao rfl), ?_⟩
  (repeat' (first|exact trivial|(exact go _ h.sub)|(refine h.al fun w h=>?_)|(refine h.dr fun w h=>?_)|(refine h.aL rfl ?_)|(refine h.aU rfl ?_)|(refine ⟨_,h.aq rfl, ?_⟩)|(refine ⟨_,h.ao rfl, ?_⟩)|(refine h.hd rfl ?_)|(refine ⟨h.aq rfl, ?_⟩)|(refine ⟨h.ao rfl, ?_⟩)|((refine h.ax rfl rfl fun w h=>?_);(try dsimp only[putAt,List.set_cons_zero,List.set_cons_succ] at h))|(refine eC ?_)|(refine _root_.Go.Vc.a2 ?_)|(refine h.dy rfl rfl fun w h=>?_)|(refine h.cC rfl rfl fun w h=>?_)|(refine And.intro ?_ ?_)))
 refine h.dr fun w h=>?_
 refine ⟨_,rfl,_,h.aq rfl,_,rfl,_,aT (h.ao rfl), ?_⟩
 (repeat' (first|exact trivial|(exact fbad (by assumption) _ _ h.sub)|(exact fgood (by assumption) _ _ _ (by assumption) h.sub)|(refine mc hk (h.pick (A:=aj bk k)) (fun hB s c w h=>?_) (fun hB w c hc h=>?_))|(refine h.al fun w h=>?_)|(refine h.dr fun w h=>?_)|(refine h.aL rfl ?_)|(refine h.aU rfl ?_)|(refine ⟨_,h.aq rfl, ?_⟩)|(refine ⟨_,h.ao rfl, ?_⟩)|(refine h.hd rfl ?_)|(refine ⟨h.aq rfl, ?_⟩)|(refine ⟨h.ao rfl, ?_⟩)|((refine h.ax rfl rfl fun w h=>?_);(try dsimp only[putAt,List.set_cons_zero,List.set_cons_succ] at h))|(refine eC ?_)|(refine _root_.Go.Vc.a2 ?_)|(refine h.dy rfl rfl fun w h=>?_)|(refine h.cC rfl rfl fun w h=>?_)|(refine And.intro ?_ ?_)))
theorem BN {K:Int->Pw} (hk:aV N k) (h:Ow B w0 w (aa bd (ag bk d ec wv wk fs)::aj bk k::R))
  (hK:∀w',Ow B w0 w' (aa bd (ag bk d ec wv wk fs)::aj bk (k.bind d).2::R)->K (k.bind d).1.e w'):C.qbJ (some ⟨bd,0,none⟩) K w:=by
 apply S.qbJ0;unfold ai.bind at hK;intro k2 hk2
 have fbad:k.dB d.call.ak 5=false->∀(sb:Addr) (w:World),Ow B w0 w (aa bd (ag bk d ec wv wk fs)::aj bk k::R)->k2 sb false w:=fun hB sb w h=>by
  rw[if_pos hB] at hK;apply hk2;exact bP rfl (hK w h)
 have fgood:k.dB d.call.ak 5=true->∀(sb:Nat) (c:dj) (w:World),c=k.bN d.call.ak->Ow B w0 w (aa sb [.z c.kind, .z c.obj, .z c.au, .y c.aB, .y c.guard, .z c.bits]::aa bd (ag bk d ec wv wk fs)::aj bk k::R)->k2 ⟨sb,0,none⟩ true w:=fun hB sb c w hc h=>by
  rw[if_neg (by rw[hB];decide)] at hK;dsimp only[ai.tell] at hK;rw[←hc] at hK;apply hk2;refine bC rfl ?_;refine h.dr fun w h=>?_
  obtain ⟨bl,Y,h,hc2,hback⟩:=(h.pick (A:=aj bk k)).zA;refine ⟨_,rfl,_,h.aq rfl,_,rfl,_,hc2,_,rfl,_,aT (h.ao rfl),_,h.ao rfl,_,h.ao rfl, ?_,trivial⟩;refine ud h fun w h=>?_
  have h:=hback _ w _ h;exact hK w (Ow.sub (L:=aj bk { k with ln:=(sr k.ln d.c.obj c.obj c.aB).2}::aa sb [.z c.kind, .z c.obj, .z c.au, .y c.aB, .y c.guard, .z c.bits]::aa bd (ag bk d ec wv wk fs)::R) h)
 refine h.dr fun w h=>?_
 refine ⟨_,rfl,_,h.aq rfl,_,rfl,_,aT (h.ao rfl), ?_⟩
 (repeat' (first|exact trivial|(exact fbad (by assumption) _ _ h.sub)|(exact fgood (by assumption) _ _ _ (by assumption) h.sub)|(refine mc hk (h.pick (A:=aj bk k)) (fun hB s c w h=>?_) (fun hB w c hc h=>?_))|(refine h.al fun w h=>?_)|(refine h.dr fun w h=>?_)|(refine h.aL rfl ?_)|(refine h.aU rfl ?_)|(refine ⟨_,h.aq rfl, ?_⟩)|(refine ⟨_,h.ao rfl, ?_⟩)|(refine h.hd rfl ?_)|(refine ⟨h.aq rfl, ?_⟩)|(refine ⟨h.ao rfl, ?_⟩)|((refine h.ax rfl rfl fun w h=>?_);(try dsimp only[putAt,List.set_cons_zero,List.set_cons_succ] at h))|(refine eC ?_)|(refine _root_.Go.Vc.a2 ?_)|(refine h.dy rfl rfl fun w h=>?_)|(refine h.cC rfl rfl fun w h=>?_)|(refine And.intro ?_ ?_)))
theorem Ae {K:Int->Pw} (hk:aV N k) (h0:0≤d.c.obj) (h1:d.c.obj<(k.ae.length:Int)) (h:Ow B w0 w (aa bd (ag bk d ec wv wk fs)::af aw fs []::aj bk k::R))
  (hK:∀fs' w',Ow B w0 w' (aa bd (ag bk d ec wv wk fs')::af aw fs' (k.mK d).1.forget::aj bk (k.mK d).2::R)->K (k.mK d).1.e w'):C.qbn (some ⟨bd,0,none⟩) K w:=by
 apply S.qbn0;unfold ai.mK at hK;obtain ⟨hp,hsk⟩:=hk.iL h0 h1;intro k2 hk2
 have fin:∀(sb:Nat) (w:World),Ow B w0 w (aa sb [.z ((k.iL d.c.obj).cH d.call.a).1.1, .z ((k.iL d.c.obj).cH d.call.a).1.2]::aa bd (ag bk d ec wv wk fs)::af aw fs []::aj bk (k.jk d.c.obj ((k.iL d.c.obj).cH d.call.a).2.2)::R)->k2 ⟨sb,0,none⟩ ((k.iL d.c.obj).cH d.call.a).2.1 w:=fun sb w h=>by
  apply hk2;dsimp only at hK;refine gz (fun e=>?_) (fun e=>?_)
  ·rw[if_pos e] at hK
   refine h.dr fun w h=>?_
   refine ⟨_,rfl,_,aT (h.ao rfl),_,rfl,_,aT (h.ao rfl), ?_⟩;refine h.aL rfl ⟨?_,trivial⟩;refine jZ (sp:=d.c.obj) (l:=(d.call.a,((k.iL d.c.obj).cH d.call.a).1)) (F:=[]) (by simp) ((h.pick (A:=af aw fs [])).pick (A:=aa bd (ag bk d ec wv wk fs))) fun fs' w h=>?_
   exact hK fs' w (Ow.sub (L:=aa bd (ag bk d ec wv wk fs')::af aw fs' [⟨d.c.obj,d.call.a,((k.iL d.c.obj).cH d.call.a).1.1,((k.iL d.c.obj).cH d.call.a).1.2⟩]::aa sb [.z ((k.iL d.c.obj).cH d.call.a).1.1, .z ((k.iL d.c.obj).cH d.call.a).1.2]::aj bk (k.jk d.c.obj ((k.iL d.c.obj).cH d.call.a).2.2)::R) h)
  ·rw[if_neg e] at hK
   exact hK fs w h.drop
 refine h.dr fun w h=>?_
 obtain ⟨ss,ps,Y,h,hc2,hpn,hback⟩:=(h.pick (A:=aj bk k)).mf;have hq:ps[d.c.obj.toNat]?=some ps[d.c.obj.toNat]:=gE om;generalize ps[d.c.obj.toNat]=pp at hq;refine ⟨_,rfl,_,h.aq rfl,_,rfl,ss,hc2,_,rfl,_,aT (h.ao rfl), ?_⟩;refine gT (s:=ss) (i:=d.c.obj) (j:=d.c.obj.toNat) h om hq fun a ha hcc=>⟨_,hcc, ?_⟩
 refine ⟨_,rfl,_,aT (h.ao rfl), ?_, ?_,trivial⟩
 ·have h:=(h.pick (A:=ar Tb.bc ps k.ae)).zP hq hp
  refine Tb.mO h fun w h=>?_
  have h:=(h.dp hpn hq).dz;have h:Ow B w0 w (aj bk (k.jk d.c.obj ((k.iL d.c.obj).cH d.call.a).2.2)::_):=hback _ w _ h;refine ⟨?_,trivial⟩;refine h.al fun w' h=>⟨?_,trivial⟩
  generalize w.heap.size=sb at h⊢;refine h.ax rfl rfl fun w h=>?_
  (try dsimp only[putAt,List.set_cons_zero,List.set_cons_succ] at h)
  exact fin sb w h.sub
 ·refine h.al fun w' h=>⟨?_,trivial⟩
  generalize w.heap.size=sb at h⊢;have h:=(h.pick (A:=ar Tb.bc ps k.ae)).zP hq hp;refine Tb.mO h fun w h=>?_
  have h:=(h.dp hpn hq)
  have h:Ow B w0 w (aj bk (k.jk d.c.obj ((k.iL d.c.obj).cH d.call.a).2.2)::_):=hback _ w _ (h.pick (A:=Y)).dz.vj;refine ⟨?_,trivial⟩;refine h.ax rfl rfl fun w h=>?_
  (try dsimp only[putAt,List.set_cons_zero,List.set_cons_succ] at h)
  exact fin sb w h.sub
theorem aV.zC (hk:aV N k) {n:Int} {x:Ln} (hx:lD k.ln n=some x):x∈k.ln:=List.mem_of_getElem? (Ef hx).2
theorem s8 (hk:aV N k) {n:Int} {y:Int × Int} (h:(gU k.ln n).1.1=some y):0≤y.1/\y.1<(k.notes.length:Int):=by
 unfold gU at h;cases hx:lD k.ln n with
 |none=>rw[hx] at h;cases h
 |some x=>
  rw[hx] at h;dsimp only at h;split at h
  ·rename_i e
   cases h;exact hk.C1 x (hk.zC hx) om
  ·split at h<;>cases h
theorem xb (hk:aV N k) {n:Int} {y:Int × Int} (h:(kS k.ln n).1.1=some y):0≤y.1/\y.1<(k.notes.length:Int):=by
 unfold kS at h;cases hx:lD k.ln n with
 |none=>rw[hx] at h;cases h
 |some x=>
  rw[hx] at h;dsimp only at h;split at h
  ·rename_i e
   cases h;exact hk.C1 x (hk.zC hx) om
  ·split at h<;>cases h
theorem aV.Jp (hk:aV N k) {l:wX} (hl:l.length=8) (hb:∀x∈l,x.is≠0->0≤x.note/\x.note<(k.notes.length:Int)):aV N { k with ln:=l}:=
 hk.same (k':={ k with ln:=l}) rfl rfl rfl ⟨Nat.le_refl _,Nat.le_refl _,Nat.le_refl _,Nat.le_refl _,Nat.le_refl _,Nat.le_refl _,Nat.le_refl _,Nat.le_refl _⟩ hk.inv hl hb hk.u hk.z8 hk.nu hk.ne hk.nn hk.ns hk.nf hk.nt hk.el hk.nl
theorem aV.AL (hk:aV N k) {n:Int} {x:Ln} (hx:lD k.ln n=some x) (v:Int) (h0:x.is≠0):aV N { k with ln:=k.ln.set n.toNat { x with is:=v}}:=
 hk.Jp (by rw[List.length_set];exact hk.ln) fun y hy hy2=>by
  rcases List.mem_or_eq_of_mem_set hy with hy|hy
  ·exact hk.C1 y hy hy2
  ·rw[hy];exact hk.C1 x (hk.zC hx) h0
theorem aV.raise (hk:aV N k) {n:Int}:aV N { k with ln:=(gU k.ln n).2}:=by
 unfold gU;cases hx:lD k.ln n with
 |none=>exact hk
 |some x=>
  dsimp only;split
  ·exact hk.AL hx 2 om
  split
  ·exact hk.AL hx 3 om
  ·exact hk
theorem aV.Ji (hk:aV N k) {n:Int}:aV N { k with ln:=(kS k.ln n).2}:=by
 unfold kS;cases hx:lD k.ln n with
 |none=>exact hk
 |some x=>
  dsimp only;split
  ·exact hk.AL hx 2 om
  split
  ·exact hk.AL hx 1 om
  ·exact hk
theorem aV.bT (hk:aV N k) {n g:Int} (h0:0≤n) (h1:n<(k.notes.length:Int)):aV (N+1) (k.bT n g).2:=by
 obtain ⟨hp,hpl⟩:=hk.oK h0 h1;have hs:=CJ (k.oK n) g;have hN:=hk.lO (n:=n) (p:=((k.oK n).bT g).2) om;unfold ai.bT;split
 ·exact hN
 ·exact hN.cr ((hk.inv.zT _ _ _).resume _) (by rw[gJ,jI];exact Nat.le_refl _)
theorem Dd {K:Int->Pw} (hk:aV N k) (hN:N≤200000) (h:Ow B w0 w (aa bd (ag bk d ec wv (-1) fs)::aj bk k::R))
  (hK:∀w',Ow B w0 w' (aa bd (ag bk d ec wv (k.gY (kS k.ln d.c.obj)).2.1 fs)::aj bk (k.gY (kS k.ln d.c.obj)).2.2::R)->K (k.gY (kS k.ln d.c.obj)).1 w'):C.qbX (some ⟨bd,0,none⟩) K w:=by
 apply S.qbX0;have hka:=hk.Ji (n:=d.c.obj);have hno:=fun y=>xb (y:=y) hk (n:=d.c.obj)
 unfold ai.gY at hK;refine h.dr fun w h=>?_
 obtain ⟨bl,Y,h,hc2,hback⟩:=(h.pick (A:=aj bk k)).zA;refine ⟨_,rfl,_,h.aq rfl,_,rfl,_,hc2,_,rfl,_,aT (h.ao rfl), ?_,trivial⟩;refine vS h fun w h=>?_
 have h:=hback _ w _ h;generalize kS k.ln d.c.obj=P at h hK hka hno⊢;obtain ⟨⟨o,e⟩,l⟩:=P;cases o with
 |none=>exact bC rfl (hK w h.dz)
 |some y=>
  obtain ⟨n0,n1⟩:=hno y rfl;refine bP rfl ⟨_,rfl,_,h.aq rfl, ?_⟩;refine lP (n:=y.1) (g:=y.2) hka hN n0 n1 h fun w h=>?_
  refine ⟨_,rfl, ?_⟩;refine oN ?_;refine h.cC rfl rfl fun w h=>?_
  (dsimp only[bm,ag,putAt,List.set_cons_zero,List.set_cons_succ,Nat.zero_add] at h)
  exact hK w h.dz
theorem DZ {line:Int} {K:Int->Int->Pw} (hk:aV N k) (hN:N≤200000) (h:Ow B w0 w (aj bk k::R))
  (hK:∀w',Ow B w0 w' (aj bk (k.irq line).2.2::R)->K (k.irq line).2.1 (k.irq line).1 w'):C.qbB (some ⟨bk,0,none⟩) line K w:=by
 apply S.qbB0;have hka:=hk.raise (n:=line);have hno:=fun y=>s8 (y:=y) hk (n:=line)
 unfold ai.irq ai.gY at hK;obtain ⟨bl,Y,h,hc2,hback⟩:=h.zA;refine ⟨_,rfl,_,hc2, ?_⟩;refine sF h fun w h=>?_
 have h:=hback _ w _ h;generalize gU k.ln line=P at h hK hka hno⊢;obtain ⟨⟨o,e⟩,l⟩:=P;cases o with
 |none=>exact bP rfl (hK w h)
 |some y=>
  obtain ⟨n0,n1⟩:=hno y rfl;refine bC rfl ?_;exact lP (n:=y.1) (g:=y.2) hka hN n0 n1 h fun w h=>hK w h
end
def dM (k:Nat) (o:Obj):az where
 holds G w:=G k/\w.heap[k]?=some o
 loc G w w' h hk:=⟨h.1,by rw[hk k h.1];exact h.2⟩
 up G G' w h hk:=⟨hk k h.1,h.2⟩
section
variable {B:Nat} {w0 w:World} {R L:List az}
theorem _root_.Go.Vc.Ow.obj {k:Nat} {o:Obj} (h:Ow B w0 w (dM k o::R)):w.heap[k]?=some o:=h.head fun _ h=>h.2
theorem _root_.Go.Vc.Ow.putObj {k:Nat} {o:Obj} (o':Obj) (h:Ow B w0 w (dM k o::R)):Ow B w0 (w.putObj k o') (dM k o'::R):=by
 have hk:=h.obj;have hlt:k<w.heap.size:=(Array.getElem?_eq_some_iff.1 hk).1;refine h.step fun G hA hG=>⟨⟨rfl,rfl,rfl,by simp,fun j _ hj=>?_⟩,G,⟨hA.1,World.putObj_heap_same hlt⟩,fun j hj=>⟨.inl hj,by have:=(hG j hj).2;simpa using this⟩⟩
 exact World.putObj_heap_other fun e=>hj (by rw[e];exact hA.1)
theorem _root_.Go.Vc.Ow.newObj (o:Obj) (h:Ow B w0 w R):Ow B w0 (w.alloc o) (dM w.heap.size o::R):=
 h.new (A':=dM w.heap.size o) (G':=fun k=>k=w.heap.size) (eI _ _) ⟨rfl,World.alloc_heap_new _ _⟩ fun k e=>⟨om,by rw[e];simp⟩
end
section
variable {F:Fence} {n:Nat} {P:Program} {B:Nat} {w0 w:World} {L:List az}
theorem Cz {α:Type} {g:Operand} {ps:Array Tmp} {assign body:Code} {Q:Exit->Act->Pw} {a:Act}
  (hro:F.round=none) (h1:1≤n) {gf:Nat} {lb:Array Value} (hg:a.eval g= .func (.func gf) #[] lb) (hFg:F.fn gf) (eg:∀args w,(callFunc gf args).run P w= .ok (.enter gf args) w)
  (encs:α->Array Value) (hps:∀x,(encs x).size=ps.size) (xs:List α) (I:List α->az) (Ax:Act->α->az) (Reads:Pw)
  (h0:Ow B w0 w (I []::L))
  (hreads:∀(Z:List az) pre V,Ow B w0 V (I pre::Z++L)->Reads V)
  (hseq:∀(l:Nat) (J:List α->Pw) (W:World),
   (∀pre V V',J pre V->fL No V V'->J pre V')->(∀pre V,J pre V->Reads V)->
   (∀pre x V,J pre V->(pre++ [x]) <+: xs->YieldAt F (n-1-1) P l (encs x) V fun e V'=>e= .returned (.bool true)/\J (pre++ [x]) V')->
   J [] W->CallsIn F (n-1) P gf (#[.func (.yield l) #[] #[]]++lb) W fun e W'=>(∃v,e= .returned v)/\J xs W')
  (hassign:∀(l:Nat) (Z:List az) (pre:List α) (x:α) (V:World) (K:Act->Pw),Ow B w0 V (I pre::Z++L)->(∀a' V',Ow B w0 V' (Ax a' x::I pre::Z++L)->K a' V')->
   assign.wpIn (F.inRound l) (n-1-1) P (Exit.then K (fun _ _ _=>False)) { tmps:=(ps.zip (encs x)).foldl (fun t (p,v)=>t.setIfInBounds p v) a.tmps,defers:=[]} V)
  (hbody:∀(l:Nat) (Z:List az) (pre:List α) (x:α) (a':Act) (V:World),(pre++ [x]) <+: xs->Ow B w0 V (Ax a' x::I pre::Z++L)->
   body.wpIn (F.inRound l) (n-1-1) P (fun e _ V'=>e= .normal/\Ow B w0 V' (I (pre++ [x])::Z++L)) a' V)
  (hdone:∀(D:Nat) (V:World),Ow B w0 V (dM D (.deferred (some []))::I xs::L)->Q .normal { a with defers:={ target:= .collected D,args:= #[]}::a.defers} V):
  (Code.rangeFunc g ps assign body).wpIn F n P Q a w:=by
 refine wpIn_rangeFunc fun fn hfn=>?_
 rw[hro];obtain ⟨rec,hrec⟩:∃rec:LoopState->Loop,rec=fun st=>{ state:=st,pending:=none,fn,tmps:=a.tmps,params:=ps,assign,body,defers:=w.heap.size}:=⟨_,rfl⟩
 obtain ⟨W1,hW1⟩:∃W1,(w.alloc (.deferred (some []))).alloc (.loop (rec .ready))=W1:=⟨_,rfl⟩
 have hO1:Ow B w0 W1 (dM (w.heap.size+1) (.loop (rec .ready))::dM w.heap.size (.deferred (some []))::I []::L):=by
  have h2:=(h0.newObj (.deferred (some []))).newObj (.loop (rec .ready));rw[hW1,World.size_alloc] at h2;exact h2
 refine ⟨w.heap.size+1,[{ target:= .collected w.heap.size,args:= #[]}],W1,{ target:= .fn (.func gf) lb,args:= #[.func (.yield (w.heap.size+1)) #[] #[]]},W1,gf,
  #[.func (.yield (w.heap.size+1)) #[] #[]]++lb,W1, ?_, ?_, ?_, ?_,fun _=>h1, ?_⟩
 ·rw[←hW1,hrec];exact run_enterLoop_outer _ _ _ _ _
 ·simp only[resolve,hg]
  simp[go_sem]
 ·intro f' hf';simp[Target.leads] at hf';subst hf';exact hFg
 ·simp[invoke,go_sem,eg]
 generalize w.heap.size+1=l at hO1⊢;generalize w.heap.size=D at hO1 hrec⊢;refine (hseq l (fun pre V=>Ow B w0 V (dM l (.loop (rec .ready))::dM D (.deferred (some []))::I pre::L)) W1 ?_ ?_ ?_ hO1).mono ?_
 ·exact fun pre V V' h hu=>h.same hu
 ·exact fun pre V h=>hreads [dM l (.loop (rec .ready)),dM D (.deferred (some []))] pre V h.nC
 ·intro pre x V h hpre
  have hy:=run_yield (P:=P) (args:=encs x) h.obj (by rw[hrec];exact hps x);rw[hrec] at hy;refine ⟨fn,_,assign,body,hy,roundIn_of_wpIn hfn ?_⟩;refine hassign l [dM l (.loop (rec .ready)),dM D (.deferred (some []))] pre x V _ h.nC fun a' V' h=>?_
  have h:=h.nC;have hb:=run_beginRound (P:=P) h.obj (by rw[hrec]);refine ⟨_,hb, ?_⟩;have h:=h.putObj (.loop { rec .ready with state:= .busy});refine wpIn_mono (hbody l [dM l (.loop { rec .ready with state:= .busy}),dM D (.deferred (some []))] pre x a' _ hpre ?_) ?_
  ·have h2:=h.perm (List.Perm.swap _ _ _)
   exact h2.perm (List.Perm.cons _ (List.Perm.swap _ _ _))
  ·rintro e a2 V2 ⟨rfl,h⟩
   have h:Ow B w0 V2 (dM l (.loop { rec .ready with state:= .busy})::I (pre++ [x])::dM D (.deferred (some []))::L):=h.perm (List.Perm.swap _ _ _);have he:=run_endRound (P:=P) none h.obj;refine ⟨_,_,he,rfl, ?_⟩;have h:=h.putObj (.loop {({ rec .ready with state:= .busy}:Loop) with state:=if (none:Option Code).isNone then .ready else .done,pending:=none});have e2:({({ rec .ready with state:= .busy}:Loop) with state:=if (none:Option Code).isNone then .ready else .done,pending:=none}:Loop)=rec .ready:=by rw[hrec];rfl
   rw[e2] at h⊢;exact h.perm (List.Perm.cons _ (List.Perm.swap _ _ _))
 ·rintro e W2 ⟨⟨v,rfl⟩,h⟩
  have he:=run_endLoop (P:=P) h.obj (by rw[hrec];simp);rw[show (rec .ready).pending=none from by rw[hrec]] at he;refine ⟨none,_,he, ?_⟩;exact hdone D _ (h.putObj _).drop
end
end Go.Proofs.YtlhljbbfckbjpaaGreat
end
section
set_option maxRecDepth 8000
namespace Go.Proofs.YtlhljbbfckbjpaaGreat
open Go Go.Vc Go.Proofs Go.RowKit Go.Shelf
attribute [local go_sem] Oper.semAt_some
def back (S:List Slot):Nat->List (Int × Slot)
 |0=>[]
 |t+1=>back S t++ [((S.length:Int)-1-(t:Int),(S[S.length-1-t]?).getD (0,0))]
theorem xm (S:List Slot):∀(d t:Nat),back S t <+: back S (t+d)
 |0,t=>List.prefix_refl _
 |d+1,t=>(xm S d t).trans (List.prefix_append _ _)
theorem xn (S:List Slot):(back S S.length).map (·.2)=S.reverse:=by
 have h:∀t,t≤S.length->(back S t).map (·.2)=S.reverse.take t:=by
  intro t
  induction t with
  |zero=>intro _;rfl
  |succ t ih=>
   intro ht
   have hx:S.reverse[t]?=some S[S.length-1-t]:=by
    rw[List.getElem?_reverse om];exact gE om
   rw[List.take_add_one,hx,←ih om];simp only[back,List.map_append,List.map_cons,List.map_nil,Option.toList_some];rw[gE om];rfl
 rw[h _ (Nat.le_refl _),←List.length_reverse,List.take_length]
def HZ (x:Int × Slot):Array Value:= #[.z x.1, .agg #[.z x.2.1, .z x.2.2]]
set_option maxRecDepth 100000 in
set_option maxHeartbeats 2000000 in
theorem FL (n:Nat) (hn:1≤n) (l box b off len cap:Nat) (S:List Slot) (hS:S.length=len) (hlen:len≤1000000) (J:List (Int × Slot)->Pw)
  (hR:∀pre V,J pre V->V.cell? ⟨box,0,none⟩=some (.slice (some ⟨b,off,none⟩) len cap)/\∀j x,S[j]?=some x->∀u v,[Value.z x.1,Value.z x.2][u]?=some v->V.cell? ((⟨b,off+j*2,none⟩:Addr).add u)=some v)
  (hY:∀pre x V,J pre V->(pre++ [x]) <+: back S len->YieldAt Fence.wide (n-1) Tryz.prog l (HZ x) V fun e V'=>e= .returned (.bool true)/\J (pre++ [x]) V') (W:World) (h0:J [] W):
  CallsIn Fence.wide n Tryz.prog 228 #[.func (.yield l) #[] #[], .pointer (some ⟨box,0,none⟩)] W fun e W'=>(∃v,e= .returned v)/\J (back S len) W':=by
 refine callsIn_of_wp Tryz.func228 rfl trivial ?_ rfl;simp only[Tryz.ntmps228,List.size_toArray,List.length_cons,List.length_nil,Nat.reduceAdd,Nat.reduceSub,Array.replicate_succ,Array.replicate_zero,List.push_toArray,List.append_toArray,List.nil_append,List.cons_append];have hBs:=(hR [] W h0).1
 gi_wp2
 gi_loopw [3] (fun i wr=>∃t:Nat,t≤len/\i= .z ((len:Int)-1-(t:Int))/\J (back S t) wr)
  (fun i _=>(intOf i+1).toNat)
 case atStart=>exact ⟨0,Nat.zero_le _,by simp,h0⟩
 case round=>
  obtain ⟨t,ht,rfl,hJs⟩:=hrel;obtain ⟨hB2,hc2⟩:=hR _ _ hJs;by_cases hlt:t<len
  ·obtain ⟨y,hx⟩:∃y,S[S.length-1-t]?=some y:=⟨_,gE om⟩
   obtain ⟨j,hj⟩:∃j:Nat,((len:Int)-1-(t:Int))=(j:Int)/\j=S.length-1-t:=⟨S.length-1-t,om,rfl⟩
   obtain ⟨fn,tmps,assign,body,hy,hRn⟩:=hY _ ((len:Int)-1-(t:Int),(S[S.length-1-t]?).getD (0,0)) wr hJs (by
    have:=xm S (len-(t+1)) (t+1);rw[show t+1+(len-(t+1))=len from by omega] at this;simpa [back,hS] using this)
   rw[hx,Option.getD_some] at hy hRn;dsimp only[HZ] at hy;rw[←hj.2] at hx;have hcx:=hc2 j _ hx;obtain rfl:j=len-1-t:=by omega
   have hj2:=hj.2
   have hcA:wr.cell? ⟨b,off+(len-1-t)*2,none⟩=some (.z y.1):=by
    have:=hcx 0 _ rfl;simpa [Addr.add] using this
   have hcB:wr.cell? ⟨b,off+(len-1-t)*2+1,none⟩=some (.z y.2):=by
    have:=hcx 1 _ rfl;simpa [Addr.add,Nat.add_assoc] using this
   have hj1:=hj.1;clear hj hj2;rw[hj1] at hy⊢
   gi_wp2
   refine hRn.mono ?_;rintro e W3 ⟨rfl,hJ3⟩
   gi_wp2
   go_roundw
   case rel=>exact ⟨t+1,om,by simp;omega,(by have hx':S[len-1-t]?=some y:=hx;simpa [back,hS,hx'] using hJ3)⟩
   case measure=>
    show (((len-1-t:Nat):Int)-1+1).toNat<(((len-1-t:Nat):Int)+1).toNat;omega
  ·obtain rfl:t=len:=by omega
   rw[show ((t:Int)-1-(t:Int))= -1 from by omega]
   gi_wp2
   go_end0
   exact ⟨⟨_,rfl⟩,hJs⟩
end Go.Proofs.YtlhljbbfckbjpaaGreat
end
section
set_option maxRecDepth 8000
namespace Go.Proofs.YtlhljbbfckbjpaaGreat
open Go Go.Vc Go.Proofs Go.RowKit Go.Shelf
attribute [local go_sem] Oper.semAt_some
theorem zV {P:Program} {e:Env} {w:World}:∀(l:List Nat) (acc:List Value) (k:List Value->Prop),oq P (l.map ResultVar.tmp) e w acc k->
  ∃vs:List Value,vs.length=l.length/\(∀(i t:Nat),l[i]?=some t->∃v,vs[i]?=some v/\e t=some v)/\k (acc.reverse++vs)
 | [],acc,k,h=>⟨[],rfl,fun i t ht=>by simp at ht,by simpa [oq] using h⟩
 |t::l,acc,k,h=>by
  simp only[List.map_cons,oq] at h;split at h
  ·rename_i v hv
   obtain ⟨vs,h1,h2,h3⟩:=zV l (v::acc) k h;refine ⟨v::vs,by simp[h1],fun i u hu=>?_,by simpa using h3⟩
   match i,hu with
   |0,hu=>simp at hu;subst hu;exact ⟨v,rfl,hv⟩
   |i+1,hu=>simp at hu;simpa using h2 i u hu
  ·exact h.elim
theorem BL {s:Nat} {x:Sc} {l:List (Nat × Sh)} {K:vr ((s, .c x)::l)} {e:Env} {w:World} (h:gP ((s, .c x)::l) K e w):∃d:x.D,e s=some (x.mk d)/\gP l (K d) e w:=by
 simp only[gP] at h;split at h
 ·rename_i v hv
  obtain ⟨d,e1,h⟩:=tw h;exact ⟨d,hv.trans (congrArg some e1),h⟩
 ·exact h.elim
theorem HX {e:Env} {w:World} {K:Option Addr->Addr->Int->Sl->Value->Pw} (h:gP Ap K e w):
  ∃d c t s v,e 0=some (.pointer d)/\e 1=some (.pointer (some c))/\e 2=some (.z t)/\e 3=some (.slice s.a s.len s.cap)/\e 4=some v/\K d c t s v w:=by
 obtain ⟨d,h0,h⟩:=BL h;obtain ⟨c,h1,h⟩:=BL h;obtain ⟨t,h2,h⟩:=BL h;obtain ⟨s,h3,h⟩:=BL h;obtain ⟨v,h4,h⟩:=BL h;exact ⟨d,c,t,s,v,h0,h1,h2,h3,h4,h⟩
section
variable {B:Nat} {w0 w:World} {R L:List az} {bd bk:Nat} {k:ai} {d:kQ} {ec wv wk:Int} {fs:Sl} {N:Nat}
theorem EM {K:Option Addr->Addr->Int->Sl->Value->Pw} (h:Ow B w0 w (aa bd (ag bk d ec wv wk fs)::af aw fs []::aj bk k::R))
  (hK:∀c0 s2 bx w',Ow B w0 w' (aa bd (ag bk d ec wv wk fs)::af aw fs []::aj bk k::aa c0 [.pointer (some ⟨bd,0,none⟩)]::af Tr.bw s2 (Tr.da k.T d.s)::aa bx [.slice s2.a s2.len s2.cap]::R)->
   K (some ⟨bd,0,none⟩) ⟨c0,0,none⟩ 0 s2 (.func (.func 228) #[] #[.pointer (some ⟨bx,0,none⟩)]) w'):S.qdV (some ⟨bd,0,none⟩) K w:=by
 unfold S.qdV;refine h.al fun w1 h=>?_
 generalize w.heap.size=c0 at h⊢;obtain ⟨x,h⟩:=(h.pick (A:=aj bk k)).uJ;refine h.dr fun w h=>?_
 refine ⟨_,h.aq rfl,_,rfl,_,h.aq rfl,_,rfl,_,h.ao rfl,_,h.aq rfl,_,rfl, ?_⟩;refine eL (h.aL rfl ⟨?_,trivial⟩);refine Tr.rE (s:=d.s) (h.pick (A:=Tr.bA x.tr k.T)) fun s2 w h=>?_
 apply S.qI0;refine h.al fun w1 h=>?_
 generalize w.heap.size=bx at h⊢;refine hK c0 s2 bx _ ?_;exact ((show Ow B w0 w1 (aj bk k::aa bx [.slice s2.a s2.len s2.cap]::af Tr.bw s2 (Tr.da k.T d.s)::aa c0 [.pointer (some ⟨bd,0,none⟩)]::aa bd (ag bk d ec wv wk fs)::af aw fs []::R) from Ow.bD x h.sub).sub)
theorem sE:∀(l:List Slot) (s:Slot) (k:ai),ai.cg (l++ [s]) k=((ai.cg l k).1++((ai.cg l k).2.gone s).1,((ai.cg l k).2.gone s).2)
 | [],s,k=>by simp[ai.cg]
 |a::l,s,k=>by
  have:=sE l s (k.gone a).2;simp only[List.cons_append,ai.cg,this,List.append_assoc]
theorem EN {K:Int->Pw} {c0 bx:Nat} {s2:Sl} {F:List dC} {n:Nat} (hn:s2.len=n) (hn2:n≤1000000) (hu:d.c.kind=1->0≤d.c.obj/\d.c.obj<(k.u.length:Int))
  (h:Ow B w0 w (aa bd (ag bk d ec wv wk fs)::af aw fs F::aj bk k::aa c0 [.pointer (some ⟨bd,0,none⟩)]::R))
  (hK:∀w',Ow B w0 w' (aa bd (ag bk d ec (n:Int) wk fs)::af aw fs F::aj bk (if d.c.kind=1 then k.kl d.c.obj else k)::R)->K 0 w'):S.qdW (some ⟨bd,0,none⟩) ⟨c0,0,none⟩ 0 s2 K w:=by
 unfold S.qdW;rw[hn,Iz om om];refine ⟨_,h.aq rfl,_,rfl, ?_⟩;refine oN (h.cC rfl rfl fun w h=>?_)
 (try dsimp only[putAt,List.set_cons_zero,List.set_cons_succ] at h)
 refine ⟨_,h.aq rfl,_,rfl,_,h.ao rfl, ?_⟩;refine gz (fun e=>?_) (fun e=>?_)
 ·rw[if_pos e] at hK
  obtain ⟨u0,u1⟩:=hu e
  have hux:k.u[d.c.obj.toNat]?=some (k.kq d.c.obj):=by
   unfold ai.kq;rw[gE om];rfl
  obtain ⟨x,h⟩:=(h.pick (A:=aj bk k)).uJ;refine h.dr fun w h=>?_
  refine ⟨_,h.aq rfl,_,rfl,_,h.aq rfl,_,rfl,x.su,h.ao rfl,_,h.aq rfl,_,rfl,_,aT (h.ao rfl), ?_⟩;refine h.dV (s:=x.su) (i:=d.c.obj) (j:=d.c.obj.toNat) om hux fun a ha _ hcu=>?_
  refine ⟨_,hcu 0 _ rfl,_,hcu 1 _ rfl,_,hcu 2 _ rfl, ?_⟩;refine ⟨_,h.aq rfl,_,rfl,_,h.aq rfl,_,rfl,x.su,h.ao rfl,_,h.aq rfl,_,rfl,_,aT (h.ao rfl), ?_,trivial⟩;refine zb h fun w h=>?_
  refine ⟨aT (h.ao rfl),h.aq rfl,h.ao rfl,h.aq rfl,h.aq rfl, ?_⟩;refine h.dV (s:=x.su) (i:=d.c.obj) (j:=d.c.obj.toNat) om hux fun a ha _ _=>⟨?_,trivial⟩
  refine h.yB (s:=x.su) (xs:=k.u) (i:=d.c.obj) (j:=d.c.obj.toNat) { k.kq d.c.obj with used:=0} om om ha fun w h=>?_
  refine hK w ?_;exact ((show Ow B w0 w (aj bk (k.kl d.c.obj)::aa bd (ag bk d ec (n:Int) wk fs)::af aw fs F::R) from Ow.bD x h.sub).sub)
 ·rw[if_neg e] at hK
  exact hK w h.sub
end
end Go.Proofs.YtlhljbbfckbjpaaGreat
end
