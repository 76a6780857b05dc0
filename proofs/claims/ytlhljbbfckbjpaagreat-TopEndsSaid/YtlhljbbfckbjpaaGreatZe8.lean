/- What the row rests on: the declarations that it needs, out of my texts (part 8). -/
import Derived.Test.YtlhljbbfckbjpaaGreatZe7
import Derived.LoopIn
import Derived.LoopNIn
import Derived.Maps.AppendAt
import Derived.OwnWalkIn
import Derived.RangeFuncBox
import Derived.RangeFuncCalls
import Derived.RangeFuncGives
import Derived.RangeFuncIn
import Derived.RangeFuncLeaves
import Derived.RangeFuncNested
import Derived.RangeFuncRecord
import Derived.RangeFuncSeq
import Derived.Shelf.Abstract
import Derived.Sort.MapsRangeIn
import Derived.TacticsInMore
set_option linter.unusedVariables false
set_option linter.unusedSimpArgs false
set_option linter.unusedSectionVars false
section
namespace Go.Proofs.YtlhljbbfckbjpaaGreat.Sl
open Go Go.Proofs Go.RowKit Go.Shelf
open Go.ChangeMaps (setBlock)
attribute [local go_sem] Oper.semAt_some
section
variable {F:Fence} {n:Nat} {P:Program} (w:World) {ops:Array Oper} {rest:List Oper} {o:Oper} {a:Act} {Q:Exit->Act->Pw}
theorem nD (hg:o.guard=none) (m:Operand) (t:TypeId) (hop:o.op=Op.range t m) {b:Nat} (hm:a.eval m= .map (some b)) {v:Value} {w':World} (hrun:(Instr.range t (.map (some b))).run P w= .ok v w')
  (hK:wpListIn F n P ops Q rest (a.put o.dst v) w'):wpListIn F n P ops Q (o::rest) a w:=by
 refine wpListIn_plain hg fun K' hK'=>?_
 unfold Oper.wpIn;refine ⟨?_, ?_⟩
 ·simp[Oper.about,hop]
 ·rw[Oper.semAt_plain F _ _ (by rw[hop];intro c hc';cases hc')]
  simp[execOp,hop,hm,hrun,Result.andThen];exact hK' _ _ hK
theorem jd (hg:o.guard=none) (it:Operand) (hop:o.op=Op.next it false) {p:Value} (hit:a.eval it=p) {v:Value} {w':World} (hrun:(Instr.next p false o.type).run P w= .ok v w')
  (hK:wpListIn F n P ops Q rest (a.put o.dst v) w'):wpListIn F n P ops Q (o::rest) a w:=by
 refine wpListIn_plain hg fun K' hK'=>?_
 unfold Oper.wpIn;refine ⟨by simp[Oper.about,hop], ?_⟩;rw[Oper.semAt_plain F _ _ (by rw[hop];intro c hc';cases hc')];simp[execOp,hop,hit,hrun,Result.andThen];exact hK' _ _ hK
end
theorem uR:∀(l:List MapEntry) (e:MapEntry),(l.map (·.born)).Nodup->e∈l->l.Perm (e::l.filter fun x=>x.born !=e.born)
 | [],e,_,h=>by simp at h
 |a::l,e,hn,h=>by
  rw[List.map_cons,List.nodup_cons] at hn;rw[List.filter_cons];rcases List.mem_cons.1 h with rfl|h
  ·have:l.filter (fun x=>x.born !=e.born)=l:=List.filter_eq_self.2 fun x hx=>by
    simp only[bne_iff_ne,ne_eq];exact fun e'=>hn.1 (List.mem_map.2 ⟨x,hx,e'⟩)
   simp[this]
  ·have hne:(a.born !=e.born)=true:=by
    simp only[bne_iff_ne,ne_eq];exact fun e'=>hn.1 (List.mem_map.2 ⟨e,h,e'.symm⟩)
   rw[hne,if_pos rfl];exact ((uR l e hn.2 h).cons a).trans (List.Perm.swap _ _ _)
theorem Ck (es:Array MapEntry) (seen:Array Nat) (e:MapEntry):(leftOf es (seen.push e.born)).toList=(leftOf es seen).toList.filter fun x=>x.born !=e.born:=by
 unfold leftOf;rw[Array.toList_filter,Array.toList_filter,List.filter_filter];congr 1;funext x;rw[Array.contains_push];cases hq:(x.born==e.born)<;>simp[bne,hq]
def Ek (b it:Nat) (w:World):Nat:=match w.heap[b]?,w.heap[it]? with
 |some (.map es _),some (.mapIter _ _ seen _)=>(leftOf es seen).size
 |_,_=>0
theorem xU {b it:Nat} {w:World} {es:Array MapEntry} {c:Nat} {m:Option Nat} {since c0:Nat} {seen:Array Nat} (h1:w.heap[b]?=some (.map es c)) (h2:w.heap[it]?=some (.mapIter m since seen c0)):Ek b it w=(leftOf es seen).size:=by
 unfold Ek;rw[h1,h2]
def ja (x:Int × Int):Value:= .agg #[.z x.1, .z x.2]
def eW (x:Int × Int):List Value:=[.z x.1, .z x.2]
theorem vM (w:World) (x y:Value) (t:TypeId):∀j u,[x,y][j]?=some u->(w.alloc (.cells #[x,y] t)).cell? ((⟨w.heap.size,0,none⟩:Addr).add j)=some u:=by
 intro j u hj
 match j,hj with
 |0,hj=>simp at hj;subst hj;simp[Addr.add]
 |1,hj=>simp at hj;subst hj;simp[Addr.add]
theorem G4 (x:Int × Int):ja x= .agg #[.z x.1, .z x.2]:=rfl
def Ij:Value->Int × Int
 | .agg ⟨[.int _ a, .int _ b]⟩=>(a,b)
 |_=>(0,0)
set_option maxRecDepth 100000 in
set_option maxHeartbeats 2000000 in
theorem Ed (n:Nat) (hn:1≤n) (l Bm b:Nat) (es:Array MapEntry) (c:Nat) (ks:List (Int × Int)) (hks:es.toList.map (·.key)=ks.map ja) (hborn:(es.toList.map (·.born)).Nodup) (hlt:∀e∈es.toList,e.born<c) (J Jx:List (Int × Int)->Pw)
  (hY:∀pre x W,J pre W->pre.length<ks.length->YieldAt Fence.wide (n-1) Tryz.prog l #[ja x] W fun e W'=>
   (e= .returned (.bool true)/\J (pre++ [x]) W'/\KeepsWalks W W')∨(e= .returned (.bool false)/\Jx (pre++ [x]) W'))
  (W:World) (hJ:AbidesFrom W.heap.size J) (hm:W.cell? ⟨Bm,0,none⟩=some (.map (some b))) (hb:W.heap[b]?=some (.map es c)) (h0:J [] W):
  CallsIn Fence.wide n Tryz.prog 155 #[.func (.yield l) #[] #[], .pointer (some ⟨Bm,0,none⟩)] W fun e W'=>(∃v,e= .returned v)/\
   ((∃ss:List (Int × Int),ss.Perm ks/\J ss W')∨(∃pre:List (Int × Int),True/\Jx pre W')):=by
 have hblt:b<W.heap.size:=(Array.getElem?_eq_some_iff.1 hb).1;refine callsIn_of_wp Tryz.func155 rfl trivial ?_ rfl;simp only[Tryz.ntmps155,List.size_toArray,List.length_cons,List.length_nil,Nat.reduceAdd,Nat.reduceSub,Array.replicate_succ,Array.replicate_zero,List.push_toArray,List.append_toArray,List.nil_append,List.cons_append];have hrun:=run_range_map (P:=Tryz.prog) W 185 204 207 b es c Tryz.underlying185 hb
 gi_wp2_with (first
  |(gi_at_range;refine nD _ rfl _ 185 rfl rfl hrun ?_)
  |gi_in)
 go_frame
 have hW0:∀k,k<W.heap.size->(W.alloc (.mapIter (some b) c #[] c)).heap[k]?=W.heap[k]?:=fun k hk=>Below.heap_alloc W _ k hk
 gi_loopw [3] (fun _ wr=>∃(ss:List (Int × Int)) (seen:Array Nat) (c0:Nat),wr.heap[b]?=some (.map es c)/\wr.heap[W.heap.size]?=some (.mapIter (some b) c seen c0)/\c≤c0/\(ss.map ja++(leftOf es seen).toList.map (·.key)).Perm (es.toList.map (·.key))/\J ss wr)
  (fun _ wr=>Ek b W.heap.size wr)
 case atStart=>
  refine ⟨[], #[],c,(hW0 b hblt).trans hb,by show (W.heap.push _)[W.heap.size]?=_;simp,Nat.le_refl _, ?_,hJ [] W _ none h0 (World.grownBy_alloc W _ none) (fun r e=>by cases e)⟩;have:leftOf es #[]=es:=by unfold leftOf;simp
  rw[this];exact List.Perm.refl _
 case round=>
  obtain ⟨ss,seen,c0,hb1,hi1,hc0,hp,hJs⟩:=hrel;rcases run_next_at (P:=Tryz.prog) wr 0 W.heap.size b c c0 seen es c hi1 hb1 hlt hc0 with ⟨hsz,hnx⟩|⟨e,he,w1,hw1,hnx⟩
  ·gi_wp2_with (first
    |(gi_at_next;refine jd _ rfl _ rfl rfl hnx ?_)
    |gi_in)
   go_end0
   have hl:(leftOf es seen).toList= []:=List.eq_nil_of_length_eq_zero (by simpa using hsz);rw[hl,hks] at hp;simp only[List.map_nil,List.append_nil] at hp;have hp2:=hp.map Ij;rw[List.map_map,List.map_map] at hp2
   have hid:∀l:List (Int × Int),l.map (Ij∘ja)=l:=fun l=>by
    refine (List.map_congr_left fun x _=>rfl).trans (List.map_id _)
   rw[hid,hid] at hp2;exact ⟨⟨_,rfl⟩, .inl ⟨ss,hp2,hJs⟩⟩
  ·have hmem:e∈es.toList:=by
    have:=Array.mem_toList_iff.1 he;unfold leftOf at this;exact Array.mem_toList_iff.2 (Array.mem_filter.1 this).1
   obtain ⟨x,hx,hkx⟩:∃x∈ks,ja x=e.key:=by
    have:e.key∈es.toList.map (·.key):=List.mem_map.2 ⟨e,hmem,rfl⟩;rw[hks] at this;obtain ⟨x,hx,h⟩:=List.mem_map.1 this;exact ⟨x,hx,h⟩
   have hne:b≠W.heap.size:=by omega
   have hw1h:w1.heap=wr.heap:=by rcases hw1 with rfl|rfl<;>rfl
   obtain ⟨w2,hw2⟩:∃w2,setBlock w1 W.heap.size (.mapIter (some b) c (seen.push e.born) c)=w2:=⟨_,rfl⟩
   rw[hw2] at hnx;have hilt:W.heap.size<w1.heap.size:=by rw[hw1h];exact (Array.getElem?_eq_some_iff.1 hi1).1
   have hi2:w2.heap[W.heap.size]?=some (.mapIter (some b) c (seen.push e.born) c):=by rw[←hw2];simp[setBlock,Array.getElem?_setIfInBounds_self_of_lt hilt]
   have hb2:w2.heap[b]?=some (.map es c):=by
    rw[←hw2];show (w1.heap.setIfInBounds W.heap.size _)[b]?=_;rw[Array.getElem?_setIfInBounds_ne om,hw1h];exact hb1
   have hen:=run_entry_at (P:=Tryz.prog) w2 W.heap.size b c seen es c e hi2 hb2 hmem hborn
   have hg2:wr.grownBy w2 (some W.heap.size):=by
    rw[←hw2];refine ⟨?_, ?_, ?_, ?_,fun k hk hkr=>?_⟩
    ·rcases hw1 with rfl|rfl<;>rfl
    ·rcases hw1 with rfl|rfl<;>rfl
    ·rcases hw1 with rfl|rfl<;>rfl
    ·show wr.heap.size≤(w1.heap.setIfInBounds W.heap.size _).size
     rw[Array.size_setIfInBounds,hw1h];exact Nat.le_refl _
    ·show (w1.heap.setIfInBounds W.heap.size _)[k]?=_
     rw[Array.getElem?_setIfInBounds_ne (fun e'=>hkr (by rw[e'])),hw1h]
   have hlp:=uR (leftOf es seen).toList e (by
    unfold leftOf;rw[Array.toList_filter];exact hborn.sublist (List.filter_sublist.map _)) he
   rw[←Ck] at hlp
   have hp2:((ss++ [x]).map ja++(leftOf es (seen.push e.born)).toList.map (·.key)).Perm (es.toList.map (·.key)):=by
    refine List.Perm.trans ?_ hp;rw[List.map_append,List.append_assoc];refine List.Perm.append_left _ ?_;have:=hlp.map (·.key);rw[List.map_cons] at this;show (ja x::_).Perm _;rw[hkx];exact this.symm
   have hsslt:ss.length<ks.length:=by
    have h1:=hp2.length_eq;have h2:=congrArg List.length hks;simp only[List.length_append,List.length_map,List.length_cons,List.length_nil] at h1 h2;omega
   have hJ2:J ss w2:=hJ ss wr w2 (some W.heap.size) hJs hg2 (fun r e'=>by cases e';exact ⟨Nat.le_refl _,_,hi1,rfl⟩);rw[←hkx,G4] at hnx hen;obtain ⟨x1,x2⟩:=x;dsimp only at hnx hen;have hb2':(w2.alloc (.cells #[.z x1, .z x2] 204)).heap[b]?=some (.map es c):=(Below.heap_alloc w2 _ b (Array.getElem?_eq_some_iff.1 hb2).1).trans hb2;have hi2':(w2.alloc (.cells #[.z x1, .z x2] 204)).heap[W.heap.size]?=some (.mapIter (some b) c (seen.push e.born) c):=(Below.heap_alloc w2 _ _ (Array.getElem?_eq_some_iff.1 hi2).1).trans hi2;have hJ2':=hJ ss w2 _ none hJ2 (World.grownBy_alloc w2 (.cells #[.z x1, .z x2] 204) none) (fun r e=>by cases e);obtain ⟨fn,tmps,assign,body,hy,hR⟩:=hY ss (x1,x2) _ hJ2' hsslt;rw[G4] at hy;dsimp only at hy
   have hms:(leftOf es (seen.push e.born)).size<(leftOf es seen).size:=by
    have h1:=hlp.length_eq;simp only[Array.length_toList,List.length_cons] at h1;omega
   clear hw2 hkx
   gi_wp2_with (first
    |(gi_at_next;refine jd _ rfl _ rfl rfl hnx ?_)
    |gi_in)
   refine hR.mono ?_;rintro e2 W3 (⟨rfl,hJ3,hk3⟩|⟨rfl,hJx3⟩)
   ·gi_wp2
    have hb3:=hk3.same b _ hb2' rfl;have hi3:=hk3.same W.heap.size _ hi2' rfl
    go_roundw
    case rel=>exact ⟨ss++ [(x1,x2)],seen.push e.born,c,hb3,hi3,Nat.le_refl _,hp2,hJ3⟩
    case measure=>rw[xU hb3 hi3,xU hb1 hi1];exact hms
   ·gi_wp2
    refine bodyPost_ret (results_none rfl _ _ _) rfl ?_;exact ⟨⟨_,rfl⟩, .inr ⟨ss++ [(x1,x2)],trivial,hJx3⟩⟩
theorem xS (n:Nat) (hn:1≤n) (Bm b:Nat) (es:Array MapEntry) (c:Nat) (ks:List (Int × Int)) (hks:es.toList.map (·.key)=ks.map ja) (hborn:(es.toList.map (·.born)).Nodup) (hlt:∀e∈es.toList,e.born<c)
  (w:World) (hBm:Bm<w.heap.size) (hm:w.cell? ⟨Bm,0,none⟩=some (.map (some b))) (hb:w.heap[b]?=some (.map es c)):
  SeqStops Fence.wide n Tryz.prog 155 #[.pointer (some ⟨Bm,0,none⟩)] ja (fun ss=>ss.Perm ks) (fun _=>True) ks.length w:=fun l J Jx W hW hJ _ hY h0=>
 Ed n hn l Bm b es c ks hks hborn hlt J Jx hY W hJ ((hW.cell (p:=⟨Bm,0,none⟩) hBm).trans hm) ((hW.block b (Array.getElem?_eq_some_iff.1 hb).1).trans hb) h0
theorem Iu:(Tryz.prog.info? 204).map (fun i=>(i.zero,i.size,i.bytes))=some (some (.agg #[.z 0, .z 0]),2,16):=by kernel_rfl
set_option maxRecDepth 100000 in
set_option maxHeartbeats 2000000 in
theorem zm (g:Nat) (lb:Array Value) (eg:∀args w,(callFunc g args).run Tryz.prog w= .ok (.enter g args) w) (S:List (Int × Int)->Prop) (N:Nat) (hN:N≤1000000) (w:World) (hseq:SeqStops Fence.wide 1 Tryz.prog g lb ja S (fun _=>True) N w):
  CallsIn Fence.wide 2 Tryz.prog 203 #[.slice none 0 0, .func (.func g) #[] lb] w fun e w'=>∃(v:Value) (ss:List (Int × Int)),e= .returned v/\S ss/\w'.ownsRow w.heap.size 204 2 v ss.length (ss.flatMap eW)/\Below w.heap.size w w':=by
 obtain ⟨i0,hi,hz0,hz1,hz2⟩:=info_parts Iu;refine callsIn_of_wp_marks Tryz.func203 rfl trivial ?_ rfl;simp only[Tryz.ntmps203,List.size_toArray,List.length_cons,List.length_nil,Nat.reduceAdd,Nat.reduceSub,Array.replicate_succ,Array.replicate_zero,List.push_toArray,List.append_toArray,List.nil_append,List.cons_append]
 gi_wp2
 have bO:=Boxed.new w 236 (.slice none 0 0);have hB0:Below w.heap.size w (w.alloc (.cells #[.slice none 0 0] 236)):=(Below.refl _ w).alloc (Nat.le_refl _) _
 refine wpIn_rangeFunc_ownH (α:=Int × Int) (encs:=fun x=> #[ja x]) (Kp:=KeepsWalks) rfl (by decide) (gf:=g) (lb:=lb) rfl trivial eg hseq walksK_t walksK_b hB0 (fun _=>rfl)
  (fun (pre:List (Int × Int)) W=>(∃v,Boxed W w.heap.size 236 v/\W.ownsRow w.heap.size 204 2 v pre.length (pre.flatMap eW)/\True)/\Below w.heap.size w W)
  (fun _ _ _=>False)
  (OwnFrom.and (Own.from (holdsRow_own w.heap.size w.heap.size 236 204 2 (fun (pre:List (Int × Int))=>pre.length) (fun (pre:List (Int × Int))=>pre.flatMap eW) (fun (pre:List (Int × Int)) v=>True)) _) (ownFrom_below (Nat.le_refl _) (by simp)))
  (fun _ _ _ _ _ hs _ _=>hs)
  ⟨⟨_,bO,World.ownsRow_nil _ _ _ _,trivial⟩,hB0⟩
  (fun x a' W=>∃p,a'={ tmps:= #[.slice none 0 0, .func (.func g) #[] lb, .pointer (some ⟨w.heap.size,0,none⟩),undef, .slice none 0 0, .pointer (some ⟨p,0,none⟩), .func (.func g) #[] lb, .agg #[.z x.1, .z x.2],undef,undef,undef,undef,undef],defers:=[]}/\W.heap[p]?=some (.cells #[.z x.1, .z x.2] 204 (0,0)))
  (fun x a'=>by
   rintro _ X Y row ⟨p,ha,hp⟩ hg hr;refine ⟨p,ha,(hg.block p (Array.getElem?_eq_some_iff.1 hp).1 fun e=>?_).trans hp⟩;obtain ⟨_,o,ho,hc⟩:=hr p e.symm;rw[hp] at ho;cases ho;cases hc)
  ?assign ?body ?done ?stop
 case assign=>
  rintro l pre ⟨x1,x2⟩ W K ⟨⟨v,hv,hrow,_⟩,hB⟩ hK;dsimp only[ja]
  gi_wp2
  refine hK _ _ ((KeepsOthers.alloc W _).from _) ⟨(KeepsOthers.alloc W _).size,fun k o h1 h2=>(KeepsOthers.alloc W _).same k o h1 (by cases o<;>simp_all [Obj.isWalk,Obj.isCells])⟩ ⟨⟨v,hv.alloc _,hrow.alloc _,trivial⟩,hB.alloc (by have:=hB.size;omega) _⟩ ⟨_,rfl,World.alloc_heap_new _ _⟩
 case body=>
  rintro l pre ⟨x1,x2⟩ a' W _ _ ⟨⟨v,hv,hrow,_⟩,hB⟩ ⟨p,rfl,hp⟩ hlt;have hc:=hv.cell;have hp0:W.cell? ⟨p,0,none⟩=some (.z x1):=by simp[World.cell?,hp]
  have hp1:W.cell? ⟨p,1,none⟩=some (.z x2):=by simp[World.cell?,hp]
  gi_wp2_with (gi_at_builtin;refine wpListIn_append_own _ rfl _ _ 236 rfl w.heap.size 204 i0 (.agg #[.z 0, .z 0]) 2 16 Tryz.underlying236 hi hz0 hz1 hz2 rfl (by decide) _ _ _ rfl (hrow.alloc _) ⟨W.heap.size,0,none⟩ 1 1 [.z x1, .z x2] rfl rfl (vM _ _ _ _) (by simp[Value.oneCell']) (Nat.le_trans (show pre.length+1≤1000001 by omega) (by decide)) om (by have:=hB.size;simp;omega) ?_;intro v' w1 hown' hgrow _;obtain ⟨g',cap',rfl⟩:=ownsRow_succ hown';obtain ⟨hv1,hv2,hr2,hk2,hb2⟩:=hv.appended (by decide) hrow hB.size (Nat.le_refl _) hown' hgrow;have hc1:=hv1.cell;have hf1:=hv1.frozen)
  exact ⟨hk2.from _,⟨hk2.size,fun k o h1 h2=>hk2.same k o h1 (by cases o<;>simp_all [Obj.isWalk,Obj.isCells])⟩,⟨_,hv2,by rw[List.flatMap_append,List.length_append];exact hr2⟩,hB.trans hb2⟩
 case done=>
  rintro D ys W hD hS ⟨⟨v,hv,hrow,_⟩,hB⟩ hK;have hc:=hv.cell
  gi_wp2
  refine ⟨by simp, .inl ⟨_,_,rfl,run_takeDeferred hK, ?_⟩⟩;exact ⟨_,results_tmp rfl _ _ _,v,ys,rfl,hS,ownsRow_putObj hrow _ hK rfl,hB.trans (belowK_b (w:=w) (Nat.le_refl _) W D _ _ (by simp at hD;omega) hK rfl rfl)⟩
 case stop=>
  rintro D c pre W _ _ h _;exact h.elim
end Go.Proofs.YtlhljbbfckbjpaaGreat.Sl
end
section
set_option maxRecDepth 8000
namespace Go.Proofs.YtlhljbbfckbjpaaGreat.Sl
open Go Go.Vc Go.Proofs Go.Shelf
def mR (x y:Int):Int:=if x<y then -1 else if y<x then 1 else 0
def vO (a b:Slot):Int:=if mR a.1 b.1≠0 then mR a.1 b.1 else mR a.2 b.2
def tM (a b:Slot):Bool:=decide (a.1<b.1∨(a.1=b.1/\a.2<b.2))
theorem gv (a b:Slot):Go.Proofs.ltOf vO a b=tM a b:=by
 unfold Go.Proofs.ltOf tM vO mR;rw[decide_eq_decide];by_cases h1:a.1<b.1
 ·simp[h1]
 ·by_cases h2:b.1<a.1
  ·simp[h1,h2];omega
  ·have:a.1=b.1:=by omega
   simp[h1,h2,this];by_cases h3:a.2<b.2
   ·simp[h3]
   ·by_cases h4:b.2<a.2<;>simp[h3,h4]
theorem Jq:Go.Sort.SWO (Go.Proofs.ltOf vO) where
 irrefl x:=by rw[gv];simp[tM]
 trans x y z h1 h2:=by rw[gv] at *;simp only[tM,decide_eq_true_eq] at *;omega
 ntrans x y z h1 h2:=by rw[gv] at *;simp only[tM,decide_eq_false_iff_not] at *;omega
theorem Jr (x y:Slot) (h1:Go.Proofs.ltOf vO x y=false) (h2:Go.Proofs.ltOf vO y x=false):x=y:=by
 rw[gv] at*
 simp only[tM,decide_eq_false_iff_not] at*
 exact Prod.ext om om
theorem lh {x:Int} {K:Bool->Pw} {w:World} (h:K false w):C.qct x K w:=by
 apply S.qct0;rw[show (x !=x)=false from by simp];exact h
theorem jw {x y:Int} {K:Int->Pw} {w:World} (h:K (mR x y) w):C.qbS x y K w:=by
 apply S.qbS0;refine lh (lh ?_);refine bD rfl (bD rfl ?_);by_cases h1:x<y
 ·refine aR h1 ?_
  rwa [show mR x y= -1 from by unfold mR;rw[if_pos h1]] at h
 ·refine aE h1 ?_
  by_cases h2:x>y
  ·refine aR h2 ?_
   rwa [show mR x y=1 from by unfold mR;rw[if_neg h1,if_pos h2]] at h
  ·refine aE h2 ?_
   rwa [show mR x y=0 from by unfold mR;rw[if_neg h1,if_neg h2]] at h
theorem xz {p:Nat} {x y:Int} {K:Int->Pw} {w:World} (h0:w.cell? ⟨p,0,none⟩=some (.z x)) (h1:w.cell? ⟨p,1,none⟩=some (.z y)) (h:K (if x≠0 then x else y) w):C.qdu ⟨some ⟨p,0,none⟩,2,2⟩ K w:=by
 apply S.qdu0;intro l2 hl2;apply hl2;refine aR (show (0:Int)<((2:Nat):Int) by decide) ?_;refine ⟨_,rfl,(show (0:Int)≤0 by decide),(show (0:Int)<((2:Nat):Int) by decide),x,h0, ?_⟩;by_cases e:x=0
 ·subst e
  refine bD rfl ?_;rw[show IntKind.i64.wrap ((0:Int)+1)=1 from by decide];apply hl2;refine aR (show (1:Int)<((2:Nat):Int) by decide) ?_;refine ⟨_,rfl,(show (0:Int)≤1 by decide),(show (1:Int)<((2:Nat):Int) by decide),y,h1, ?_⟩;rw[if_neg (by simp)] at h;by_cases e2:y=0
  ·subst e2
   refine bD rfl ?_;rw[show IntKind.i64.wrap ((1:Int)+1)=2 from by decide];apply hl2;refine aE (show ¬(2:Int)<((2:Nat):Int) by decide) ?_;exact h
  ·exact bN (by simpa using e2) h
 ·rw[if_pos e] at h
  exact bN (by simpa using e) h
theorem cell_of {w:World} {b:Nat} {l:List Value} {t:TypeId} (h:w.heap[b]?=some (.cells ⟨l⟩ t)) {o:Nat} {v:Value} (hv:l[o]?=some v):w.cell? ⟨b,o,none⟩=some v:=by
 simp[World.cell?,h,hv]
theorem zO (a b:Slot) (w:World):C.qdB a.1 a.2 b.1 b.2 (fun r w'=>r=vO a b/\∃q os',w'=Go.Sort.grow (w.drewN q) os') w:=by
 apply S.qdB0;unfold S.qdB
 have hA:(((w.alloc (.cells #[.z a.1, .z a.2] 204)).alloc (.cells #[.z b.1, .z b.2] 204)).drew).heap[w.heap.size]?=some (.cells #[.z a.1, .z a.2] 204):=
  (RowKit.Below.heap_alloc (w.alloc (.cells #[.z a.1, .z a.2] 204)) _ w.heap.size (by rw[World.size_alloc];omega)).trans (World.alloc_heap_new w _)
 have hB:(((w.alloc (.cells #[.z a.1, .z a.2] 204)).alloc (.cells #[.z b.1, .z b.2] 204)).drew).heap[(w.alloc (.cells #[.z a.1, .z a.2] 204)).heap.size]?=some (.cells #[.z b.1, .z b.2] 204):=World.alloc_heap_new _ _;refine ⟨a.1,cell_of hA rfl,b.1,cell_of hB rfl,a.2,cell_of (o:=0+1) hA rfl,b.2,cell_of (o:=0+1) hB rfl, ?_,trivial⟩;refine jw ⟨cell_of (o:=0+1) hB rfl,cell_of (o:=0+1) hA rfl, ?_,trivial⟩;refine jw ⟨⟨?_,trivial⟩,trivial⟩;refine xz (x:=mR a.1 b.1) (y:=mR a.2 b.2) (cell_of (World.alloc_heap_new _ _) rfl) (cell_of (World.alloc_heap_new _ _) rfl) ⟨rfl,1, #[.cells #[.z a.1, .z a.2] 204, .cells #[.z b.1, .z b.2] 204, .cells #[.z (mR a.1 b.1), .z (mR a.2 b.2)] 3], ?_⟩;show World.mk _ _ _ _ _=World.mk _ _ _ _ _;congr 1
theorem F8 (ud off size:Nat) (w:World):CmpLays Tryz.prog 114 #[] eW 2 vO ud off size w:=fun m os dk _ x y=>
 (rR (zO x y _)).mono fun e w' ⟨r,he,hr,hw⟩=>⟨by rw[he,hr],hw⟩
def bw:cQ Slot:=⟨2,eW,fun _=>rfl,fun x v h=>by
 simp only[eW,List.mem_cons,List.not_mem_nil,or_false] at h;rcases h with rfl|rfl<;>rfl,by decide⟩
theorem nV {α:Type} [Inhabited α] (enc:α->List Value) (k:Nat) (hk:∀x,(enc x).length=k) (k0:0<k):∀(l:List α) (t:Nat),t<l.length*k->(l.flatMap enc)[t]?=some (enc (l.toArray[t / k]!))[t%k]!
 | [],t,h=>by simp at h
 |x::l,t,h=>by
  rw[List.flatMap_cons];by_cases e:t<k
  ·rw[List.getElem?_append_left (by rw[hk];exact e),Nat.div_eq_of_lt e,Nat.mod_eq_of_lt e]
   have:t<(enc x).length:=by rw[hk];exact e
   rw[gE this];congr 1;simp[this]
  ·obtain ⟨u,rfl⟩:∃u,t=k+u:=⟨t-k,om⟩
   have hu:u<l.length*k:=by
    rw[List.length_cons,Nat.add_mul,Nat.one_mul] at h;omega
   rw[List.getElem?_append_right (by rw[hk];omega),hk,show k+u-k=u from by omega,nV enc k hk k0 l u hu];rw[Nat.add_comm k u,Nat.add_div_right _ k0,Nat.add_mod_right];have hq:u / k<l.length:=Nat.div_lt_of_lt_mul (by rw[Nat.mul_comm];exact hu);congr 3;simp[hq]
theorem zu {α:Type} [Inhabited α] (enc:α->List Value) (k:Nat) (hk:∀x,(enc x).length=k) (k0:0<k) (l:List α):Go.Sort.flatK enc k l.toArray=(l.flatMap enc).toArray:=by
 have hl:(l.flatMap enc).length=l.length*k:=by
  clear k0
  induction l with
  |nil=>simp
  |cons x l ih=>rw[List.flatMap_cons,List.length_append,ih,hk,List.length_cons,Nat.add_mul];omega
 refine Go.Sort.ext_get! (by rw[Go.Sort.size_flatK];simp only[List.size_toArray];exact hl.symm) fun t ht=>?_
 rw[Go.Sort.size_flatK] at ht;rw[Go.Sort.get_flatK _ _ _ _ ht];have:=nV enc k hk k0 l t (by simpa using ht);simp[List.getElem!_eq_getElem?_getD,this]
def Iy (x y:Slot):Bool:= !(Go.Proofs.ltOf vO) y x
def fB (xs:List Slot):List Slot:=xs.mergeSort Iy
section
variable {B:Nat} {w0 w:World} {R L:List aA}
theorem tW {s:Sl} {xs:List Slot} {K:Pw} (h:Ow B w0 w (ah bw s xs::R)) (hsz:xs.length<4611686018427387904) (hK:∀w',Ow B w0 w' (ah bw s (fB xs)::R)->K w'):
  C.qcn s (.func (.func 114) #[] #[]) K w:=by
 have hs:=h.vg 0 rfl;have hlen:=h.len 0 rfl;unfold C.qcn;refine kh Tryz.func154 rfl ?_;obtain ⟨a,n,cap⟩:=s;dsimp only at hlen;subst hlen;cases hs with
 |nil ha hl hc hcs=>
  dsimp only at ha hl hc;subst ha;subst hc;have:xs= []:=List.eq_nil_of_length_eq_zero hl;subst this;refine (AnyF.slices_SortFunc_none Tryz.vj none 0 _ w).mono ?_;rintro e w' ⟨rfl,rfl⟩;exact ⟨rfl,hK _ (by rw[show fB []= [] from List.mergeSort_nil];exact h)⟩
 |mk b o l ha hb hl hc hcs=>
  dsimp only at ha hl hc hcs;subst ha;obtain ⟨t,ht⟩:=hb;have hblk:b<w.heap.size:=(Array.getElem?_eq_some_iff.1 ht).1;have hfl:∀ys:List Slot,Go.Sort.flatK eW 2 ys.toArray=(ys.flatMap eW).toArray:=zu eW 2 (fun _=>rfl) (by decide);have hfl2:∀ys:List Slot,(ys.flatMap eW).length=ys.length*2:=fun ys=>aK bw ys
  have hcap:xs.length*2≤cap*2:=Nat.mul_le_mul_right 2 hl;have hc:o+cap*2≤l.length:=hc
  have hH:Go.Sort.HoldsK eW 2 w b o xs.toArray:=by
   unfold Go.Sort.HoldsK;rw[hfl];intro j hj;have hj:j<xs.length*2:=by rw[←hfl2];simpa using hj
   have hcj:(xs.flatMap eW)[j]?=l[o+j]?:=by
    have hcs:xs.flatMap eW=(l.drop o).take (xs.length*2):=hcs;rw[hcs,List.getElem?_take,if_pos hj,List.getElem?_drop]
   have hjl:j<(xs.flatMap eW).length:=by rw[hfl2];exact hj
   refine ⟨?_, ?_⟩
   ·have h1:l[o+j]?=some (xs.flatMap eW)[j]:=by rw[←hcj,gE hjl]
    rw[cell_of ht h1];simp only[id,List.getElem!_toArray,List.getElem!_eq_getElem?_getD,gE hjl,Option.getD_some]
   ·simp[World.frozen?,ht]
  refine (AnyQ.slices_SortFunc_total Tryz.vj 2 Tryz.isAgg204 Tryz.sizeOf204 eW (fun _=>rfl) bw.one vO Jq 114 #[] b o cap xs.toArray w (enters_of Tryz.func114 (by kernel_rfl) rfl) (F8 b o _ w) hH hblk (by simpa using hsz) Jr).mono ?_;rintro e w' ⟨rfl,q,os,hw'⟩;refine ⟨rfl,hK _ ?_⟩;have hperm:(fB xs).Perm xs:=List.mergeSort_perm _ _;have hsl:(fB xs).length=xs.length:=hperm.length_eq
  have hw':w'=Go.Sort.grow (Go.Sort.mapBlock (Go.Sort.ahead w q) b (Go.Sort.putCells id o ((fB xs).flatMap eW).toArray)) os:=by
   rw[hw',←hfl];rfl
  have hheap:w'.heap=(w.heap.modify b (Go.Sort.onCells (Go.Sort.putCells id o ((fB xs).flatMap eW).toArray)))++os:=by rw[hw'];rfl
  have hu:fN (fun k=>k=b) w w':=by
   refine ⟨by rw[hw'];rfl,by rw[hw'];rfl,by rw[hw'];rfl,by rw[hheap];simp,fun k hk hn=>?_⟩;rw[hheap,Array.getElem?_append_left (by simpa using hk),Array.getElem?_modify,if_neg (fun e=>hn e.symm)]
  have hblk':w'.heap[b]?=some (.cells (Go.Sort.putCells id o ((fB xs).flatMap eW).toArray ⟨l⟩) t):=by
   rw[hheap,Array.getElem?_append_left (by simpa using hblk),Array.getElem?_modify,if_pos rfl,ht];rfl
  refine h.step fun G hA hG=>?_
  have hGb:G b:=hA.1 _ rfl;refine ⟨hu.mono fun k _ e=>by rw[e];exact hGb,G,⟨hA.1,hsl.symm, ?_⟩,fun k hk=>⟨.inl hk,by have:=(hG k hk).2;have:=hu.size;omega⟩⟩;refine .mk b o (Go.Sort.putCells id o ((fB xs).flatMap eW).toArray ⟨l⟩).toList rfl ⟨t,hblk'⟩ hl ?_ ?_
  ·show o+cap*2≤_
   rw[Array.length_toList];unfold Go.Sort.putCells;rw[Array.size_mapIdx];exact hc
  ·show (fB xs).flatMap eW=(List.drop o _).take (xs.length*2)
   refine List.ext_getElem? fun j=>?_
   rw[List.getElem?_take];by_cases hj:j<xs.length*2
   ·rw[if_pos hj,List.getElem?_drop]
    have hjs:j<((fB xs).flatMap eW).length:=by rw[hfl2,hsl];exact hj
    have hoj:o+j<l.length:=by omega
    unfold Go.Sort.putCells;rw[Array.toList_mapIdx,List.getElem?_mapIdx,gE hjs,show (Array.mk l).toList[o+j]?=some (l[o+j]'hoj) from gE hoj,Option.map_some,if_pos ⟨om,by simp only[List.size_toArray];omega⟩,show o+j-o=j from by omega];simp only[id,List.getElem!_toArray,List.getElem!_eq_getElem?_getD,gE hjs,Option.getD_some]
   ·rw[if_neg hj,List.getElem?_eq_none (by rw[hfl2,hsl];omega)]
end
theorem wx:∀(n:Nat) (l:List Int),l.Nodup->(∀x∈l,0≤x/\x<(n:Int))->l.length≤n
 |0,l,_,h=>by
  cases l with
  |nil=>simp
  |cons a l=>have:=h a (by simp);omega
 |n+1,l,hn,h=>by
  have h1:=wx n (l.filter fun x=>x !=(n:Int)) (hn.sublist List.filter_sublist) fun x hx=>by
   have h2:=List.mem_filter.1 hx;have h3:=h x h2.1;have h4:x≠(n:Int):=by simpa using h2.2
   omega
  have h2:l.length≤(l.filter fun x=>x !=(n:Int)).length+1:=by
   clear h1 h
   induction l with
   |nil=>simp
   |cons a l ih=>
    rw[List.nodup_cons] at hn;by_cases e:a=(n:Int)
    ·have:l.filter (fun x=>x !=(n:Int))=l:=by
      rw[List.filter_eq_self];intro x hx;have:x≠(n:Int):=fun e2=>hn.1 (by rw[e,←e2];exact hx)
      simpa using this
     rw[List.filter_cons_of_neg (by simp[e]),this,List.length_cons];exact Nat.le_refl _
    ·rw[List.filter_cons_of_pos (by simpa using e),List.length_cons,List.length_cons]
     have:=ih hn.2;omega
  omega
theorem uX {x y z:Slot} (h1:tM x y=true) (h2:tM y z=true):tM x z=true:=by
 simp only[tM,decide_eq_true_eq] at *;omega
theorem mY {x:Slot} (h:tM x x=true):False:=by simp[tM] at h
theorem Gm {x y:Slot} (h:x≠y):tM x y=true∨tM y x=true:=by
 simp only[tM,decide_eq_true_eq];by_cases e:x.1=y.1
 ·have:x.2≠y.2:=fun e2=>h (Prod.ext e e2)
  omega
 ·omega
theorem fH (xs:List Slot):(fB xs).Perm xs:=List.mergeSort_perm _ _
theorem kq {xs:List Slot} (hn:xs.Nodup):(fB xs).Pairwise (fun x y=>tM x y=true):=by
 have h1:(fB xs).Pairwise (fun x y=>Iy x y=true):=by
  refine List.pairwise_mergeSort (fun a b c h1 h2=>?_) (fun a b=>?_) _
  ·simp only[Iy,gv,tM,Bool.not_eq_true',decide_eq_false_iff_not] at *;omega
  ·simp only[Iy,gv,tM,Bool.or_eq_true,Bool.not_eq_true',decide_eq_false_iff_not];omega
 have h2:(fB xs).Pairwise (fun x y=>x≠y):=(fH xs).nodup_iff.2 hn;refine (h1.and h2).imp fun {x y} h=>?_
 rcases Gm h.2 with e|e
 ·exact e
 ·have:=h.1
  simp only[Iy,gv,e] at this;cases this
structure kR (H:Hs) (hs:List (Slot × dj)):Prop where
 rj:hs.Pairwise (fun x y=>tM x.1 y.1=true)
 mem:∀k c,(k,c)∈hs↔H k=some c
theorem kR.nodup {H:Hs} {hs:List (Slot × dj)} (h:kR H hs):hs.Nodup:=h.rj.imp fun {x y} h e=>by rw[e] at h;exact mY h
theorem kR.uniq {H:Hs} {hs hs':List (Slot × dj)} (h:kR H hs) (h':kR H hs'):hs=hs':=by
 have hp:hs.Perm hs':=(List.perm_ext_iff_of_nodup h.nodup h'.nodup).2 fun x=>by
  rw[show x=(x.1,x.2) from rfl,h.mem,h'.mem]
 refine List.Perm.eq_of_pairwise (le:=fun x y=>tM x.1 y.1=true) (fun a b _ _ h1 h2=>(mY (uX h1 h2)).elim) h.rj h'.rj hp
theorem xR {M:List (Slot × dj)} {H:Hs} (hn:(M.map (·.1)).Nodup) (hM:∀k,cF M k=H k):kR H ((fB (M.map (·.1))).map fun k=>(k,(H k).getD ay)):=by
 refine ⟨?_,fun k c=>?_⟩
 ·rw[List.pairwise_map];exact kq hn
 ·rw[List.mem_map]
  constructor
  ·rintro ⟨k',hk,e⟩
   cases e;have hk:=(fH _).mem_iff.1 hk;cases e:H k with
   |none=>rw[←hM] at e;exact absurd hk (ff.1 e)
   |some c=>rfl
  ·intro e
   refine ⟨k,(fH _).mem_iff.2 ?_,by rw[e];rfl⟩;rw[←hM] at e;exact List.mem_map.2 ⟨_,od e,rfl⟩
theorem tV.bound {bits:List Int} {H:Hs} (h:tV bits H) {k:Slot} {c:dj} (e:H k=some c):0≤k.1/\k.1<64/\0≤k.2/\k.2<256:=by
 obtain ⟨ht,_⟩:=h.held k c e;unfold bC at ht;cases hz:eR bits k.1 with
 |none=>rw[hz] at ht;cases ht
 |some z=>
  rw[hz] at ht;simp only[decide_eq_true_eq] at ht;obtain ⟨h0,h1,h2⟩:=kp hz;obtain ⟨r1,r2⟩:=pG h hz;have hlt:k.1.toNat<bits.length:=(List.getElem?_eq_some_iff.1 h1).1;have:=h.gT
  have hp:(2:Int)^z.toNat≤2^8:=by
   have:(2:Nat)^z.toNat≤2^8:=Nat.pow_le_pow_right om om;have h3:(2:Int)^z.toNat=((2^z.toNat:Nat):Int):=by simp
   rw[h3];omega
  omega
theorem DT {bits:List Int} {M:List (Slot × dj)} {H:Hs} (h:tV bits H) (hn:(M.map (·.1)).Nodup) (hM:∀k,cF M k=H k):M.length≤16384:=by
 have hb:∀k∈M.map (·.1),0≤k.1/\k.1<64/\0≤k.2/\k.2<256:=fun k hk=>by
  cases e:H k with
  |none=>rw[←hM] at e;exact absurd hk (ff.1 e)
  |some c=>exact h.bound e
 have:=wx 16384 ((M.map (·.1)).map fun k=>k.1*256+k.2) (by
  refine List.pairwise_map.2 (List.Pairwise.imp_of_mem (fun {x y} hx hy hne e=>hne ?_) hn);have:=hb x hx;have:=hb y hy;exact Prod.ext om om) fun x hx=>by
  obtain ⟨k,hk,rfl⟩:=List.mem_map.1 hx;have:=hb k hk;omega
 simpa using this
section
variable {B:Nat} {w0 w:World} {R L:List aA} {b:Nat} {bits:List Int} {H:Hs}
theorem wq {w':World} {t:TypeId} {v:Value} {xs:List Slot} (h:Ow B w0 w R) (hb:RowKit.Below w.heap.size w w') (hr:w'.ownsRow w.heap.size t 2 v xs.length (xs.flatMap eW)):
  ∃s:Sl,v= .slice s.a s.len s.cap/\Ow B w0 w' (ah bw s xs::R):=by
 have hu:fN No w w':=⟨hb.os,hb.tape,hb.output,hb.size,fun k hk _=>hb.block k hk⟩
 rcases hr.2 with ⟨rfl,hz⟩|⟨g,cap,cur,rfl,hbase,hgb,r1,r2,r3,r4⟩
 ·have:xs= []:=List.eq_nil_of_length_eq_zero hz
  subst this;exact ⟨⟨none,0,0⟩,rfl,(h.same hu).dK⟩
 ·refine ⟨⟨some ⟨g,0,none⟩,xs.length,cap⟩,rfl,h.new (A':=ah bw ⟨some ⟨g,0,none⟩,xs.length,cap⟩ xs) (G':=fun k=>k=g) hu ⟨fun a ha=>?_,rfl, ?_⟩ fun k e=>?_⟩
  ·cases ha;rfl
  ·refine .mk g 0 cur.toList rfl ⟨t,hgb⟩ r1 ?_ ?_
   ·show 0+cap*2≤cur.toList.length
    rw[Array.length_toList];omega
   ·rw[List.drop_zero];exact r4.symm
  ·subst e
   exact ⟨hbase,(Array.getElem?_eq_some_iff.1 hgb).1⟩
theorem lC {m:Nat} {M:List (Slot × dj)} {K:Sl->Pw} (h:Ow B w0 w L) (i:Nat) (hi:L[i]?=some (jm m M)) (hsz:M.length≤1000000)
  (hK:∀(s:Sl) (w':World),Ow B w0 w' (ah bw s (fB (M.map (·.1)))::L)->K s w'):
  C.qc (some m) (fun r5 w6=>C.qJ r5 (.func (.func 114) #[] #[]) K w6) w:=by
 have hM:je cY jg w m M:=(h.take i hi).head fun _ h=>h.2
 obtain ⟨es,c,hb,hmap,hborn,hlt⟩:=hM.ex
 have hkeys:es.toList.map (·.key)=(M.map (·.1)).map ja:=by
  have:=congrArg (List.map (·.1)) hmap;rw[List.map_map,List.map_map] at this;rw[List.map_map];exact this
 have hml:(M.map (·.1)).length≤1000000:=by rw[List.length_map];exact hsz
 have hblt:m<w.heap.size:=(Array.getElem?_eq_some_iff.1 hb).1;apply S.qc0;show C.qJ _ _ K (w.alloc _);have h1:Ow B w0 (w.alloc (.cells #[.map (some m)] 185)) L:=h.same (eJ _ _);have hseq:=xS 1 (Nat.le_refl _) w.heap.size m es c (M.map (·.1)) hkeys hborn hlt (w.alloc (.cells #[.map (some m)] 185)) (by rw[World.size_alloc];omega) (cell_of (World.alloc_heap_new _ _) rfl) ((RowKit.Below.heap_alloc _ _ m hblt).trans hb);generalize w.alloc (.cells #[.map (some m)] 185)=w1 at h1 hseq;apply S.qJ0;apply S.qaB0;unfold C.qdi;refine kh Tryz.func203 rfl ?_;refine (callsIn_wide (n:=2)).1 ((zm 155 #[.pointer (some ⟨w.heap.size,0,none⟩)] (enters_of Tryz.func155 (by kernel_rfl) rfl) _ _ hml w1 hseq).mono ?_);rintro e w2 ⟨v,ss,rfl,hS,hrow,hbel⟩;obtain ⟨s,rfl,h2⟩:=wq h1 hbel hrow;refine ⟨s,rfl, ?_⟩;have hsl:ss.length≤1000000:=by rw[hS.length_eq];exact hml
 refine tW h2 om fun w3 h3=>?_
 have:fB ss=fB (M.map (·.1)):=by
  have hn:ss.Nodup:=hS.nodup_iff.2 hM.nodup;refine List.Perm.eq_of_pairwise (le:=fun x y=>tM x y=true) (fun a b _ _ h1 h2=>(mY (uX h1 h2)).elim) (kq hn) (kq hM.nodup) ?_;exact (fH _).trans (hS.trans (fH _).symm)
 rw[this] at h3;exact hK s w3 h3
theorem BO {s:Sl} {ys:List (Slot × dj)} {y:Slot × dj} {c:Nat} {L:List aA} {k:Sl->Pw} [I:bT s L (Slot × dj) gZ ys] [J:dG (ah gZ s ys) L R] (h:Ow B w0 w (aa c [.z y.1.1, .z y.1.2, .z y.2.kind, .z y.2.obj, .z y.2.au, .y y.2.aB, .y y.2.guard, .z y.2.bits]::L)) (hbig:ys.length≤1000000000)
  (hk:∀s' w',s'.len=ys.length+1->Ow B w0 w' (ah gZ s' (ys++ [y])::R)->k s' w'):
  ∃s' w',bo Tryz.prog [79,79] 79 (.slice s.a s.len s.cap) (.slice (some (Addr.mk c 0 none)) 1 1) w s' w'/\k s' w':=
 Ow.fy (E:=gZ) (y:=y) Tryz.underlying79 (show Tryz.prog.info? 243=some Tryz.t243 from by kernel_rfl) (zv:=(Tryz.t243.zero).get (by kernel_rfl)) (by kernel_rfl) (by kernel_rfl) (by kernel_rfl) (by decide) h (by
  have e:Tryz.t243.bytes=64:=by kernel_rfl
  rw[e];omega) hk
theorem Jh {w:World} {A:Addr} {x:Slot} {f:Int->Int->Prop} (g:∀c v,(bw.enc x)[c]?=some v->w.cell? (A.add c)=some v) (hf:f x.1 x.2):az w A 0 [.o, .o] f:=
 ⟨_,g 0 _ rfl,_,g 1 _ rfl,hf⟩
theorem gd {K:Sl->Pw} (h:Ow B w0 w (av b bits H::R)) (hK:∀s hs w',kR H hs->Ow B w0 w' (ah gZ s hs::av b bits H::R)->K s w'):C.qbu (some ⟨b,0,none⟩) K w:=by
 apply S.qbu0;obtain ⟨⟨xs,m,M⟩,hk,hM,h⟩:=h.nodes;dsimp only at hM h;have hnd:=h.zK 2 rfl;have hfew:=DT hk hnd hM;refine ⟨_,rfl,some m,h.ld 0 rfl rfl, ?_⟩;refine lC h 2 rfl om fun s w h=>?_
 have hih:=xR hnd hM;have hkl:(fB (M.map (·.1))).length=M.length:=by rw[(fH _).length_eq,List.length_map]
 have hkH:∀k∈fB (M.map (·.1)),H k=some ((H k).getD ay):=fun k hk'=>by
  have:=(fH _).mem_iff.1 hk';cases e:H k with
  |none=>rw[←hM] at e;exact absurd this (ff.1 e)
  |some c=>rfl
 generalize fB (M.map (·.1))=ks at h hih hkl hkH;have hlen:=h.br s;intro l8 hl8
 have loop:∀(j t:Nat) (out:Sl) (w:World),t+j=ks.length->Ow B w0 w (ah gZ out ((ks.take t).map fun k=>(k,(H k).getD ay))::ah bw s ks::aa b [eT xs, .map (some m)]::ah aG xs bits::jm m M::R)->l8 out (t:Int) w:=by
  intro j
  induction j with
  |zero=>
   intro t out w ht h;apply hl8;refine aE om ?_;rw[List.take_of_length_le om] at h;exact hK out _ w hih (Ow.dz (Ow.eF (s:=xs) (m:=m) hk hM h.sub))
  |succ j ih=>
   intro t out w ht h;apply hl8;refine aR om ?_;have hx:ks[t]?=some ks[t]:=gE om;refine h.dZ (s:=s) (i:=(t:Int)) (j:=t) rfl hx fun a ha h0 hc=>Jh hc ?_
   have hHx:=hkH ks[t] (List.getElem_mem _)
   have hnext:(ks.take (t+1)).map (fun k=>(k,(H k).getD ay))=(ks.take t).map (fun k=>(k,(H k).getD ay))++ [(ks[t],(H ks[t]).getD ay)]:=by
    rw[List.take_add_one,hx,List.map_append];rfl
   generalize (H ks[t]).getD ay=c at hHx hnext;generalize ks[t]=kx at hHx hnext;refine h.a fun d1 w1 h=>?_;refine h.ax rfl rfl fun w2 h=>?_
   refine h.dr fun w3 h=>?_
   refine ⟨_,rfl,some m,h.aq rfl, ?_⟩;refine h.aL rfl ?_;refine h.aL rfl ?_;have hl2:cF M kx=some c:=by rw[hM];exact hHx
   refine ⟨?_,trivial⟩;refine ⟨c.kind,c.obj,c.au,c.aB,c.guard,c.bits,(h.mF Tryz.underlying185 ib 5 rfl hl2).2, ?_⟩;refine h.hd rfl ?_;refine ⟨?_,trivial⟩;refine h.al fun w4 h=>⟨?_,trivial⟩
   generalize w3.heap.size=d3 at h⊢;refine BO (s:=out) (y:=(kx,c)) h (by rw[List.length_map,List.length_take];omega) fun s' w hs' h=>?_
   rw[wI t om];refine ih (t+1) s' w om ?_;rw[hnext];exact h.sub
 exact loop ks.length 0 ⟨none,0,0⟩ w om (Ow.dK h)
end
end Go.Proofs.YtlhljbbfckbjpaaGreat.Sl
end
section
set_option maxRecDepth 8000
namespace Go.Proofs.YtlhljbbfckbjpaaGreat
open Go Go.Vc Go.Proofs
abbrev Slot:=Int × Int
abbrev dj:=Sl.dj
structure Call where
 ask:Int
 at_:Int
 ak:Int
 a:Int
 b:Int
 c:Int
deriving DecidableEq
structure dE where
 space:Int
 a8:Int
 frame:Int
 au:Int
deriving DecidableEq
structure Told where
 e:Int
 w:Int
 dg:Int
 forget:List dE
deriving DecidableEq
structure ai where
 bits:List Int
 H:Sl.Hs
 T:Tr.Tr
 t:Th.Mt
 ln:xe
 u:List ua
 ends:List kI
 notes:List rK
 ae:List Tb.dv
 bg:Nat
 dM:Nat
structure kQ where
 core:Int
 cur:Int
 call:Call
 s:Slot
 c:dj
namespace ai
def bM (k:ai) (n:Int):dj:=if 0≤n/\n<64 then (k.H (0,n)).getD Sl.ay else Sl.ay
def dB (k:ai) (n kind:Int):Bool:=decide ((k.bM n).kind≠0)&&(decide (kind=0)||decide ((k.bM n).kind=kind))
def fI (k:ai) (w:Int) (n:Nat):Int:=if w<0∨64<w+n then 181 else if (List.range n).any (fun i=>decide ((k.bM (w+(i:Int))).kind≠0)) then 51 else 0
def laid (k:ai) (f t:Slot) (c:dj):ai:={ k with H:=(Sl.pA k.bits k.H t c).2,T:=(Tr.BL k.T f t).2}
def made (k:ai) (core a b:Int) (at_:Nat):Int × ai:=
 if a=1 then ((k.u.length:Int),{ k with u:=k.u++ [⟨at_,b.toNat,0⟩]})
 else if a=2 then ((Sl.gJ k.bits b).1,{ k with bits:=(Sl.gJ k.bits b).2.2})
 else if a=3 then ((k.t.cU 0 core).1,{ k with t:=(k.t.cU 0 core).2.2})
 else if a=4 then ((k.ends.length:Int),{ k with ends:=k.ends++ [⟨[],false⟩]})
 else if a=5 then ((k.notes.length:Int),{ k with notes:=k.notes++ [⟨0,false,[]⟩]})
 else if a=8 then ((k.ae.length:Int),{ k with ae:=k.ae++ [Tb.kM]})
 else if a=6 then ((k.bg:Int),{ k with bg:=k.bg+1})
 else ((k.dM:Int),{ k with dM:=k.dM+1})
def makes (core a b w:Int) (s:Slot):List Nat->Nat->ai->ai
 | [],_,k=>k
 |at_::r,j,k=>makes core a b w s r (j+1) ((k.made core a b at_).2.laid s (0,w+(j:Int)) ⟨a,(k.made core a b at_).1,7,0,0,0⟩)
def kr (k:ai) (n:Int):ua:=(k.u[n.toNat]?).getD zU
def fp (k:ai) (d:kQ):Int × ai:=
 if (bF (k.kr d.c.obj) d.call.a d.call.b d.call.c).2.2≠0 then ((bF (k.kr d.c.obj) d.call.a d.call.b d.call.c).2.2,k)
 else if k.fI d.call.ak d.call.c.toNat≠0 then (k.fI d.call.ak d.call.c.toNat,k)
 else if (d.call.a=2/\64<(k.bits.length:Int)+d.call.c)∨(d.call.a=3/\64<(k.t.bA.length:Int)+d.call.c) then (2,k)
 else (0,makes d.core d.call.a d.call.b d.call.ak d.s (bF (k.kr d.c.obj) d.call.a d.call.b d.call.c).1 0 { k with u:=k.u.set d.c.obj.toNat (bF (k.kr d.c.obj) d.call.a d.call.b d.call.c).2.1})
def fZ (c:dj) (r g:Int):dj × Int:=
 if Sl.cv c≠0 then (Sl.ay,Sl.cv c) else if ¬(0≤r/\r≤7) then (Sl.ay,1)
 else if c.kind=0∨(g≠0/\(Sl.eO c.kind=false∨c.aB≠0)) then (Sl.ay,41)
 else ({ c with au:=if Sl.eD c.kind then dw .i64 c.au r else c.au,aB:=if g≠0 then g else c.aB},0)
def oe (k:ai) (d:kQ):Int × ai:=
 if d.c.kind=1 then (181,k) else if k.fI d.call.ak 1≠0 then (k.fI d.call.ak 1,k)
 else if (fZ d.c d.call.a (IntKind.u64.wrap d.call.b)).2≠0 then ((fZ d.c d.call.a (IntKind.u64.wrap d.call.b)).2,k)
 else (0,k.laid d.s (0,d.call.ak) (fZ d.c d.call.a (IntKind.u64.wrap d.call.b)).1)
def move (k:ai) (d:kQ):Int × ai:=
 if k.fI d.call.ak 1≠0 then (k.fI d.call.ak 1,k)
 else (0,{ k with H:=(Sl.fk k.bits k.H d.s (0,d.call.ak)).2,T:=(Tr.fk k.T d.s (0,d.call.ak)).2})
def dY (k:ai) (id:Int):ai:={ k with ends:=k.ends.map (·.cancel id),notes:=k.notes.map (·.cancel id)}
def bI (i:Nat) (P:Tb.fq):List dE:=P.map fun x=>⟨(i:Int),x.1,x.2.1,x.2.2⟩
def bm (f:Int):Nat->List Tb.dv->List dE × List Tb.dv
 |_,[]=>([],[])
 |i,m::r=>(bI i (m.pg.filter fun x=>x.2.1==f)++(bm f (i+1) r).1,{ m with pg:=m.pg.filter fun x=> !(x.2.1==f)}::(bm f (i+1) r).2)
def dt (n:Int) (i:Nat):Nat->Nat->Tb.dv->List dE × Tb.dv
 |0,_,m=>([],m)
 |q+1,j,m=>if m.at (j:Int)=some n then (bI i (m.cf (j:Int)).1++(dt n i q (j+1) (m.cf (j:Int)).2.2).1,(dt n i q (j+1) (m.cf (j:Int)).2.2).2)
  else dt n i q (j+1) m
def cO (n:Int):Nat->List Tb.dv->List dE × List Tb.dv
 |_,[]=>([],[])
 |i,m::r=>((dt n i 64 0 m).1++(cO n (i+1) r).1,(dt n i 64 0 m).2::(cO n (i+1) r).2)
def last (k:ai) (c:dj):List dE × ai:=
 if c.kind=3 then ([],{ k.dY c.obj with t:=(k.t.cp c.obj).2})
 else if c.kind=6 then ((bm c.obj 0 k.ae).1,{ k with ae:=(bm c.obj 0 k.ae).2})
 else if c.kind=7 then ((cO c.obj 0 k.ae).1,{ k with ae:=(cO c.obj 0 k.ae).2})
 else ([],k)
def rh (a c:dj):Bool:=decide (a.kind≠0)&&(decide (a.kind=c.kind)&&decide (a.obj=c.obj))
def more (k:ai) (c:dj):Bool:=(List.range 64).any fun i=>match k.H (0,(i:Int)) with|some x=>rh x c|none=>false
def taken (k:ai) (s:Slot):ai:={ k with H:=Sl.cW k.H s none,T:=(Tr.takeN k.T s).2}
def gone (k:ai) (s:Slot):List dE × ai:=
 if (k.taken s).more ((k.H s).getD Sl.ay) then ([],k.taken s) else (k.taken s).last ((k.H s).getD Sl.ay)
def cg:List Slot->ai->List dE × ai
 | [],k=>([],k)
 |s::r,k=>((k.gone s).1++(cg r (k.gone s).2).1,(cg r (k.gone s).2).2)
def km (k:ai) (n:Int):ai:={ k with u:=k.u.set n.toNat { k.kr n with used:=0}}
def cu (k:ai) (t:Th.Mt):ai:={ k with t:=t}
def gj (k:ai) (id:Int):Int × Int × ai:=((k.t.cI id).1,if (k.t.cI id).1=0 then id else -1,k.cu (k.t.cI id).2)
def mz (k:ai) (id:Int) (m:FE):ai:=k.cu ((((k.t.rF id 0 m.aB).2.rF id 1 (IntKind.u64.wrap m.label)).2.rF id 2 m.w0).2)
def rest (k:ai) (d:kQ):ai:=if d.call.c≠0 then k.cu ((k.t.jW d.cur).2.bK d.core) else k
def iR (k:ai) (n:Int):kI:=(k.ends[n.toNat]?).getD ⟨[],false⟩
def oK (k:ai) (n:Int):rK:=(k.notes[n.toNat]?).getD ⟨0,false,[]⟩
def iM (k:ai) (n:Int):Tb.dv:=(k.ae[n.toNat]?).getD Tb.kM
def fM (k:ai) (n:Int) (p:kI):ai:={ k with ends:=k.ends.set n.toNat p}
def lO (k:ai) (n:Int) (p:rK):ai:={ k with notes:=k.notes.set n.toNat p}
def jk (k:ai) (n:Int) (p:Tb.dv):ai:={ k with ae:=k.ae.set n.toNat p}
def tell (e:Int) (k:ai):Told × ai:=(⟨e,0, -1,[]⟩,k)
def dT (x:Int × Int × ai):Told × ai:=(⟨x.1,0,x.2.1,[]⟩,x.2.2)
def fz (d:kQ):FE:=⟨d.call.a,IntKind.u64.wrap d.call.b,0,0,0,d.c.aB,false⟩
def send (k:ai) (d:kQ):Told × ai:=
 if ((k.iR d.c.obj).send d.cur (fz d) (d.call.c !=0)).2.1≠0 then tell ((k.iR d.c.obj).send d.cur (fz d) (d.call.c !=0)).2.1 (k.fM d.c.obj ((k.iR d.c.obj).send d.cur (fz d) (d.call.c !=0)).2.2)
 else if ((k.iR d.c.obj).send d.cur (fz d) (d.call.c !=0)).1.is=false then tell 0 ((k.fM d.c.obj ((k.iR d.c.obj).send d.cur (fz d) (d.call.c !=0)).2.2).rest d)
 else dT (((k.fM d.c.obj ((k.iR d.c.obj).send d.cur (fz d) (d.call.c !=0)).2.2).mz ((k.iR d.c.obj).send d.cur (fz d) (d.call.c !=0)).1.to ((k.iR d.c.obj).send d.cur (fz d) (d.call.c !=0)).1.m).gj ((k.iR d.c.obj).send d.cur (fz d) (d.call.c !=0)).1.to)
def recv (k:ai) (d:kQ):Told × ai:=
 if ((k.iR d.c.obj).recv d.cur (d.call.c !=0)).2.1≠0 then tell ((k.iR d.c.obj).recv d.cur (d.call.c !=0)).2.1 (k.fM d.c.obj ((k.iR d.c.obj).recv d.cur (d.call.c !=0)).2.2)
 else if ((k.iR d.c.obj).recv d.cur (d.call.c !=0)).1.is=false then tell 0 ((k.fM d.c.obj ((k.iR d.c.obj).recv d.cur (d.call.c !=0)).2.2).rest d)
 else dT (((k.fM d.c.obj ((k.iR d.c.obj).recv d.cur (d.call.c !=0)).2.2).mz d.cur ((k.iR d.c.obj).recv d.cur (d.call.c !=0)).1.m).gj ((k.iR d.c.obj).recv d.cur (d.call.c !=0)).1.eS)
def bS (k:ai) (n g:Int):Int × ai:=match ((k.oK n).bS g).1 with
 |none=>(-1,k.lO n ((k.oK n).bS g).2)
 |some js=>(js,(k.lO n ((k.oK n).bS g).2).cu (((k.t.rF js 0 g).2.cI js).2))
def wait (k:ai) (d:kQ):Told × ai:=
 if ((k.oK d.c.obj).wait d.cur (d.call.c !=0)).1.2.2≠0 then tell ((k.oK d.c.obj).wait d.cur (d.call.c !=0)).1.2.2 (k.lO d.c.obj ((k.oK d.c.obj).wait d.cur (d.call.c !=0)).2)
 else (⟨0,((k.oK d.c.obj).wait d.cur (d.call.c !=0)).1.1, -1,[]⟩,if ((k.oK d.c.obj).wait d.cur (d.call.c !=0)).1.2.1 then k.lO d.c.obj ((k.oK d.c.obj).wait d.cur (d.call.c !=0)).2 else (k.lO d.c.obj ((k.oK d.c.obj).wait d.cur (d.call.c !=0)).2).rest d)
def table (k:ai) (d:kQ):Told × ai:=
 if k.dB d.call.ak 8=false then tell 181 k
 else tell ((k.iM (k.bM d.call.ak).obj).jn d.call.a d.c.obj).1 (k.jk (k.bM d.call.ak).obj ((k.iM (k.bM d.call.ak).obj).jn d.call.a d.c.obj).2)
def mapped (k:ai) (d:kQ):Told × ai:=
 if k.dB d.call.ak 8=false then tell 181 k
 else tell ((k.iM (k.bM d.call.ak).obj).pf d.call.a (d.c.obj,dw .i64 d.c.au d.call.b)).1 (k.jk (k.bM d.call.ak).obj ((k.iM (k.bM d.call.ak).obj).pf d.call.a (d.c.obj,dw .i64 d.c.au d.call.b)).2)
def mL (k:ai) (d:kQ):Told × ai:=
 (⟨((k.iM d.c.obj).cH d.call.a).2.1,0, -1,if ((k.iM d.c.obj).cH d.call.a).2.1=0 then [⟨d.c.obj,d.call.a,((k.iM d.c.obj).cH d.call.a).1.1,((k.iM d.c.obj).cH d.call.a).1.2⟩] else []⟩,k.jk d.c.obj ((k.iM d.c.obj).cH d.call.a).2.2)
def bind (k:ai) (d:kQ):Told × ai:=
 if k.dB d.call.ak 5=false then tell 181 k
 else tell (sx k.ln d.c.obj (k.bM d.call.ak).obj (k.bM d.call.ak).aB).1 { k with ln:=(sx k.ln d.c.obj (k.bM d.call.ak).obj (k.bM d.call.ak).aB).2}
def hI (k:ai) (r:(Option (Int × Int)× Int)× xe):Int × Int × ai:=match r.1.1 with
 |none=>(r.1.2, -1,{ k with ln:=r.2})
 |some x=>(r.1.2,((ai.bS { k with ln:=r.2} x.1 x.2).1),(ai.bS { k with ln:=r.2} x.1 x.2).2)
def resume (k:ai) (d:kQ):Int × Int × ai:=(if k.t.cT d.c.obj=true/\(k.t.th d.c.obj).st=3 then k.dY d.c.obj else k).gj d.c.obj
def ji (k:ai) (d:kQ):Told × ai:=
 (⟨0,((Tr.db k.T d.s).length:Int), -1,(cg (Tr.db k.T d.s).reverse k).1⟩,
  if d.c.kind=1 then (cg (Tr.db k.T d.s).reverse k).2.km d.c.obj else (cg (Tr.db k.T d.s).reverse k).2)
def asks (k:ai) (d:kQ):Told × ai:=match d.call.ask with
 |0=>tell (k.fp d).1 (k.fp d).2
 |1=>tell (k.oe d).1 (k.oe d).2
 |2=>tell (k.move d).1 (k.move d).2
 |3=>if d.call.at_=0 then tell 181 k else (⟨0,0, -1,(k.gone d.s).1⟩,(k.gone d.s).2)
 |4=>k.ji d
 |5=>dT (k.resume d)
 |6=>tell (k.t.cp d.c.obj).1 ((k.dY d.c.obj).cu (k.t.cp d.c.obj).2)
 |7=>tell (k.t.iL d.c.obj d.call.a).1 (k.cu (k.t.iL d.c.obj d.call.a).2)
 |8=>k.send d
 |9=>k.recv d
 |10=>(⟨0,0,(k.bS d.c.obj d.c.aB).1,[]⟩,(k.bS d.c.obj d.c.aB).2)
 |11=>k.wait d
 |12=>k.table d
 |13=>k.mapped d
 |14=>k.mL d
 |15=>k.bind d
 |_=>dT (k.hI (kS k.ln d.c.obj))
def aM (ask:Int):Int × Int:=([(1,0),(0,0),(0,0),(0,0),(0,0),(3,0),(3,0),(3,0),(4,2),(4,1),(5,2),(5,1),(7,0),(6,0),(8,0),(9,0),(9,0),(0,0)][ask.toNat]?).getD (0,0)
def asked (k:ai) (core cur:Int) (c:Call):Told × ai:=
 if k.dB c.at_ (aM c.ask).1=false then tell 181 k
 else if dw .i64 (k.bM c.at_).au (aM c.ask).2≠(aM c.ask).2 then tell 181 k
 else k.asks ⟨core,cur,c,(0,c.at_),k.bM c.at_⟩
def «do» (k:ai) (core:Int) (c:Call):Told × ai:=match (k.t.bK core).cV core with
 |none=>tell 182 (k.cu (k.t.bK core))
 |some cur=>if c.ask<0∨18≤c.ask then tell 180 (k.cu (k.t.bK core))
  else if c.ask=17 then tell 0 (k.cu ((k.t.bK core).yield core))
  else (k.cu (k.t.bK core)).asked core cur c
def irq (k:ai) (line:Int):Int × Int × ai:=k.hI (gW k.ln line)
def tick (k:ai) (core:Int):ai:=k.cu (k.t.tick core)
end ai
def ai.fT (k:ai) (c:dj):Prop:=0≤c.obj/\(c.kind=1->c.obj<(k.u.length:Int))/\(c.kind=2->c.obj<(k.bits.length:Int))/\(c.kind=3->c.obj<(k.t.bA.length:Int))/\
 (c.kind=4->c.obj<(k.ends.length:Int))/\(c.kind=5->c.obj<(k.notes.length:Int))/\(c.kind=6->c.obj<(k.bg:Int))/\(c.kind=7->c.obj<(k.dM:Int))/\(c.kind=8->c.obj<(k.ae.length:Int))/\(c.kind=9->c.obj<8)
structure aW (N:Nat) (k:ai):Prop where
 b0:k.bits[0]?=some 6
 pv:Sl.tV k.bits k.H
 held:∀s c,k.H s=some c->(s.1=0/\0≤s.2/\s.2<64)/\k.fT c
 tok:Tr.tY k.T
 mem:∀s,s∈k.T.map (·.1)↔(k.H s).isSome=true
 inv:Th.bH (-1) k.t
 ln:k.ln.length=8
 Db:∀x∈k.ln,x.is≠0->0≤x.note/\x.note<(k.notes.length:Int)
 u:∀x∈k.u,xh x
 Ah:∀m∈k.ae,Tb.fO m
 nu:k.u.length≤N
 ne:k.ends.length≤N
 nn:k.notes.length≤N
 ns:k.ae.length≤N
 nf:k.bg≤N
 nt:k.dM≤N
 el:∀p∈k.ends,p.l.length≤N
 nl:∀p∈k.notes,p.l.length≤N
structure Gr (k k':ai):Prop where
 u:k.u.length≤k'.u.length
 b:k.bits.length≤k'.bits.length
 t:k.t.bA.length≤k'.t.bA.length
 e:k.ends.length≤k'.ends.length
 n:k.notes.length≤k'.notes.length
 f:k.bg≤k'.bg
 tb:k.dM≤k'.dM
 s:k.ae.length≤k'.ae.length
theorem Gr.obj {k k':ai} (h:Gr k k') {c:dj} (ho:k.fT c):k'.fT c:=by
 have h1:=h.u;have h2:=h.b;have h3:=h.t;have h4:=h.e;have h5:=h.n;have h6:=h.f;have h7:=h.tb;have h8:=h.s;obtain ⟨o0,o1,o2,o3,o4,o5,o6,o7,o8,o9⟩:=ho;exact ⟨o0,fun e=>by have:=o1 e;omega,fun e=>by have:=o2 e;omega,fun e=>by have:=o3 e;omega,fun e=>by have:=o4 e;omega,fun e=>by have:=o5 e;omega,fun e=>by have:=o6 e;omega,fun e=>by have:=o7 e;omega,fun e=>by have:=o8 e;omega,o9⟩
theorem aW.mono {N M:Nat} {k:ai} (h:aW N k) (hm:N≤M):aW M k:=
 { h with
  nu:=Nat.le_trans h.nu hm,ne:=Nat.le_trans h.ne hm,nn:=Nat.le_trans h.nn hm,ns:=Nat.le_trans h.ns hm,nf:=Nat.le_trans h.nf hm,nt:=Nat.le_trans h.nt hm
  el:=fun p hp=>Nat.le_trans (h.el p hp) hm,nl:=fun p hp=>Nat.le_trans (h.nl p hp) hm}
theorem Fe {bits:List Int} (h:bits[0]?=some 6):Sl.eR bits 0=some 6:=by
 unfold Sl.eR;rw[if_neg (by decide),show ((0:Int).toNat)=0 from rfl,h];rfl
theorem lS {bits:List Int} (h:bits[0]?=some 6) {s:Slot} (hs:s.1=0/\0≤s.2/\s.2<64):Sl.bC bits s=true:=by
 unfold Sl.bC;rw[hs.1,Fe h];exact decide_eq_true ⟨hs.2.1,by show s.2<2^6;omega⟩
theorem va {T:Tr.Tr} {s:Slot}:(Tr.bR T s).isSome=true↔s∈T.map (·.1):=by
 unfold Tr.bR;rw[List.findIdx?_isSome,List.any_eq_true,List.mem_map];simp only[decide_eq_true_eq]
theorem s0 {T:Tr.Tr} {s:Slot} (h:s∉T.map (·.1)):Tr.bR T s=none:=by
 cases e:Tr.bR T s with
 |none=>rfl
 |some i=>exact absurd (va.1 (by rw[e];rfl)) h
theorem py {T:Tr.Tr} {s:Slot} (h:s∈T.map (·.1)):∃i,Tr.bR T s=some i:=Option.isSome_iff_exists.1 (va.2 h)
section
variable {N:Nat} {k:ai}
theorem aW.gT (h:aW N k):k.T.length≤64:=by
 have h1:=Sl.wx 64 ((k.T.map (·.1)).map (·.2)) (by
  refine List.pairwise_map.2 (List.Pairwise.imp_of_mem (fun {x y} hx hy hne e=>hne ?_) h.tok.nd);obtain ⟨c,hc⟩:=Option.isSome_iff_exists.1 ((h.mem x).1 hx);obtain ⟨d,hd⟩:=Option.isSome_iff_exists.1 ((h.mem y).1 hy);exact Prod.ext (by rw[(h.held x c hc).1.1,(h.held y d hd).1.1]) e) fun x hx=>by
  obtain ⟨s,hs,rfl⟩:=List.mem_map.1 hx;obtain ⟨c,hc⟩:=Option.isSome_iff_exists.1 ((h.mem s).1 hs);exact (h.held s c hc).1.2
 simpa using h1
theorem aW.cu (h:aW N k) {t:Th.Mt} (hi:Th.bH (-1) t) (hl:k.t.bA.length≤t.bA.length):aW N (k.cu t):=
 { h with
  inv:=hi
  held:=fun s c hc=>⟨(h.held s c hc).1,Gr.obj (k:=k) (k':=k.cu t) ⟨Nat.le_refl _,Nat.le_refl _,hl,Nat.le_refl _,Nat.le_refl _,Nat.le_refl _,Nat.le_refl _,Nat.le_refl _⟩ (h.held s c hc).2⟩}
theorem aW.put (h:aW N k) {t:Slot} {c:dj} (ht:t.1=0/\0≤t.2/\t.2<64) (hn:k.H t=none) (hc:Sl.cv c=0) (h0:c.kind≠0):Sl.pA k.bits k.H t c=(0,Sl.cW k.H t (some c)):=by
 unfold Sl.pA;rw[lS h.b0 ht,if_neg (by decide),if_neg (by rw[hc];decide),if_neg h0,hn,if_neg (by decide)]
theorem aW.laid (h:aW N k) {f t:Slot} {c:dj} (hf:(k.H f).isSome=true) (ht:t.1=0/\0≤t.2/\t.2<64) (hn:k.H t=none) (hc:Sl.cv c=0) (h0:c.kind≠0) (hr:Sl.ia c) (ho:k.fT c):
  aW N (k.laid f t c)/\(k.laid f t c).H=Sl.cW k.H t (some c):=by
 have hput:=h.put ht hn hc h0;obtain ⟨i,hi⟩:=py ((h.mem f).2 hf);have hno:Tr.bR k.T t=none:=s0 fun e=>by rw[h.mem,hn] at e;cases e
 have hT:Tr.BL k.T f t=(0,k.T.take (i+1)++ [(t,Tr.y9 k.T i+1)]++k.T.drop (i+1)):=by unfold Tr.BL;rw[hi];dsimp only;rw[hno]
 have hH:(k.laid f t c).H=Sl.cW k.H t (some c):=by unfold ai.laid;rw[hput]
 have hT2:(k.laid f t c).T=k.T.take (i+1)++ [(t,Tr.y9 k.T i+1)]++k.T.drop (i+1):=by unfold ai.laid;rw[hT]
 have hfew:=h.gT
 refine ⟨{ h with
  pv:=by rw[hH];exact h.pv.put (lS h.b0 ht) hc h0 hr
  held:=fun s x hx=>?_
  tok:=by rw[hT2];exact h.tok.add om hi hno
  mem:=fun s=>?_},hH⟩
 ·rw[hH] at hx
  unfold Sl.cW at hx;by_cases e:s=t
  ·rw[if_pos e] at hx;cases hx;rw[e];exact ⟨ht,ho⟩
  ·rw[if_neg e] at hx;exact h.held s x hx
 ·rw[hH,hT2]
  unfold Sl.cW
  have hm:s∈(k.T.take (i+1)++ [(t,Tr.y9 k.T i+1)]++k.T.drop (i+1)).map (·.1)↔(s=t∨s∈k.T.map (·.1)):=by
   conv=>rhs;rw[←List.take_append_drop (i+1) k.T]
   simp only[List.map_append,List.mem_append,List.map_cons,List.map_nil,List.mem_singleton];constructor
   ·rintro ((h|h)|h)
    ·exact .inr (.inl h)
    ·exact .inl h
    ·exact .inr (.inr h)
   ·rintro (h|h|h)
    ·exact .inl (.inr h)
    ·exact .inl (.inl h)
    ·exact .inr h
  rw[hm];by_cases e:s=t
  ·simp[e]
  ·rw[if_neg e,←h.mem];simp[e]
theorem aW.same (h:aW N k) {k':ai} (hb:k'.bits=k.bits) (hH:k'.H=k.H) (hT:k'.T=k.T) (hg:Gr k k') (hi:Th.bH (-1) k'.t) (hl:k'.ln.length=8) (hlb:∀x∈k'.ln,x.is≠0->0≤x.note/\x.note<(k'.notes.length:Int))
  (hu:∀x∈k'.u,xh x) (hs:∀m∈k'.ae,Tb.fO m) {M:Nat} (nu:k'.u.length≤M) (ne:k'.ends.length≤M) (nn:k'.notes.length≤M) (ns:k'.ae.length≤M) (nf:k'.bg≤M) (nt:k'.dM≤M) (el:∀p∈k'.ends,p.l.length≤M) (nl:∀p∈k'.notes,p.l.length≤M):aW M k':=
 ⟨by rw[hb];exact h.b0,by rw[hb,hH];exact h.pv,fun s c hc=>by rw[hH] at hc;exact ⟨(h.held s c hc).1,hg.obj (h.held s c hc).2⟩,by rw[hT];exact h.tok,fun s=>by rw[hT,hH];exact h.mem s,hi,hl,hlb,hu,hs,nu,ne,nn,ns,nf,nt,el,nl⟩
theorem aW.cap (h:aW N k) {n:Int} (hn:(k.bM n).kind≠0):(0≤n/\n<64)/\k.H (0,n)=some (k.bM n)/\k.fT (k.bM n)/\Sl.ia (k.bM n)/\Sl.cv (k.bM n)=0:=by
 unfold ai.bM at*
 split at hn
 ·rename_i e
  rw[if_pos e];cases hc:k.H (0,n) with
  |none=>rw[hc] at hn;exact absurd rfl hn
  |some c=>exact ⟨e,rfl,(h.held _ c hc).2,(h.pv.held _ c hc).2.2.2,(h.pv.held _ c hc).2.1⟩
 ·exact absurd rfl hn
theorem jA {n kind:Int} (h:k.dB n kind=true):(k.bM n).kind≠0/\(kind≠0->(k.bM n).kind=kind):=by
 unfold ai.dB at h;simp only[Bool.and_eq_true,Bool.or_eq_true,decide_eq_true_eq] at h;exact ⟨h.1,fun e=>h.2.elim (fun h=>absurd h e) id⟩
theorem aW.uJ (h:aW N k) {w:Int} {n:Nat} (hf:k.fI w n=0):0≤w/\w+n≤64/\∀i:Nat,i<n->k.H (0,w+(i:Int))=none:=by
 unfold ai.fI at hf;split at hf
 ·cases hf
 rename_i h1;split at hf
 ·cases hf
 rename_i h2;refine ⟨om,om,fun i hi=>?_⟩;cases hc:k.H (0,w+(i:Int)) with
 |none=>rfl
 |some c=>
  exfalso;apply h2;rw[List.any_eq_true];refine ⟨i,List.mem_range.2 hi,decide_eq_true ?_⟩;unfold ai.bM;rw[if_pos om,hc];exact (h.pv.held _ c hc).2.2.1
end
theorem eM {w:World} {b o n i:Nat} {ss:List Sc} {f:sq ss Prop} (h:az w (Addr.mk b (o+n) none) i ss f):az w ((Addr.mk b o none).add n) i ss f:=by rw[aI];exact h
theorem Av {w:World} {b o n i:Nat} {vs:List Value} {k:Pw} (h:aH w (Addr.mk b (o+n) none) i vs k):aH w ((Addr.mk b o none).add n) i vs k:=by rw[aI];exact h
theorem aU {w:World} {b o n m:Nat} {v:Option Value} (h:w.cell? ((Addr.mk b (o+n) none).add m)=v):w.cell? (((Addr.mk b o none).add n).add m)=v:=by rw[aI b o n];exact h
theorem oN {w:World} {b o n m:Nat} {v:Value} {k:Pw} (h:St w ((Addr.mk b (o+n) none).add m) v k):St w (((Addr.mk b o none).add n).add m) v k:=by rw[aI b o n];exact h
structure Kx where
 n:Nat
 tr:Nat
 t:Nat
 ln:Nat
 su:Sl
 se:Sl
 sn:Sl
 ss:Sl
 pe:List Nat
 pn:List Nat
 ps:List Nat
abbrev bp (x:Kx) (fr tb nb nt:Nat):List Value:=[.pointer (some ⟨x.n,0,none⟩), .pointer (some ⟨x.tr,0,none⟩), .pointer (some ⟨x.t,0,none⟩), .pointer (some ⟨x.ln,0,none⟩), .slice x.su.a x.su.len x.su.cap, .slice x.se.a x.se.len x.se.cap, .slice x.sn.a x.sn.len x.sn.cap, .slice x.ss.a x.ss.len x.ss.cap,
 .z (fr:Int), .z (tb:Int), .z (nb:Int), .z (nt:Int)]
def aj (b:Nat) (k:ai):aA:=pV fun x:Kx=>bh [aa b (bp x k.bg k.dM k.bits.length k.t.bA.length),Sl.av x.n k.bits k.H,Tr.bB x.tr k.T,Th.aZ x.t k.t,bq x.ln k.ln,ah fj x.su k.u,ah cA x.se x.pe,ar cd x.pe k.ends,ah cA x.sn x.pn,ar bG x.pn k.notes,ah cA x.ss x.ps,ar Tb.bf x.ps k.ae]
def aw:cQ dE:=⟨4,fun o=>[.z o.space, .z o.a8, .z o.frame, .z o.au],fun _=>rfl,fun x v h=>by
 simp only[List.mem_cons,List.not_mem_nil,or_false] at h;rcases h with rfl|rfl|rfl|rfl<;>rfl,by decide⟩
abbrev af (bk:Nat) (d:kQ) (e w wk:Int) (fs:Sl):List Value:=[.pointer (some ⟨bk,0,none⟩), .z d.core, .z d.cur, .z d.call.ask, .z d.call.at_, .z d.call.ak, .z d.call.a, .z d.call.b, .z d.call.c,
 .z d.s.1, .z d.s.2, .z d.c.kind, .z d.c.obj, .z d.c.au, .y d.c.aB, .y d.c.guard, .z d.c.bits, .z e, .y w, .z wk, .slice fs.a fs.len fs.cap]
section
variable {B:Nat} {w0 w:World} {R L:List aA} {b:Nat} {k:ai}
theorem _root_.Go.Vc.Ow.uP (h:Ow B w0 w (aj b k::R)):∃x:Kx,Ow B w0 w (aa b (bp x k.bg k.dM k.bits.length k.t.bA.length)::Sl.av x.n k.bits k.H::Tr.bB x.tr k.T::Th.aZ x.t k.t::bq x.ln k.ln::ah fj x.su k.u::ah cA x.se x.pe::ar cd x.pe k.ends::ah cA x.sn x.pn::ar bG x.pn k.notes::ah cA x.ss x.ps::ar Tb.bf x.ps k.ae::R):=by
 obtain ⟨x,h⟩:=h.ex;exact ⟨x,h.star⟩
theorem _root_.Go.Vc.Ow.bE (x:Kx) {bits:List Int} {H:Sl.Hs} {T:Tr.Tr} {t:Th.Mt} {ln:xe} {u:List ua} {ends:List kI} {notes:List rK} {ae:List Tb.dv} {fr tb:Nat}
  (h:Ow B w0 w (aa b (bp x fr tb bits.length t.bA.length)::Sl.av x.n bits H::Tr.bB x.tr T::Th.aZ x.t t::bq x.ln ln::ah fj x.su u::ah cA x.se x.pe::ar cd x.pe ends::ah cA x.sn x.pn::ar bG x.pn notes::ah cA x.ss x.ps::ar Tb.bf x.ps ae::R)):
  Ow B w0 w (aj b ⟨bits,H,T,t,ln,u,ends,notes,ae,fr,tb⟩::R):=Ow.eP x (Ow.aY h)
def kE:dj:=⟨2,0,7,0,0,0⟩
theorem vh {bits:List Int} {H:Sl.Hs} {n:Nat} (hb:bits[0]?=some 6) (hn:n<64):Sl.oy bits H kE n 6=((0,(n:Int)),0):=by
 have hnode:Sl.mH bits kE=some 6:=by
  unfold Sl.mH;rw[if_neg (by decide),if_neg (by decide)];exact Fe hb
 have hstep:Sl.dq bits n kE 6=(0,(0,(n:Int)),0):=by
  unfold Sl.dq;rw[hnode];dsimp only
  rw[if_neg (show ¬6<kE.bits.toNat by decide),if_neg (show ¬((n / 2^(6-kE.bits.toNat)%2^kE.bits.toNat:Nat):Int)≠kE.guard from fun hh=>hh (by
   show ((n / 64%1:Nat):Int)=0;omega)),if_neg (show ¬(6-kE.bits.toNat<(6:Int).toNat) by decide)]
  have e:n / 2^(6-kE.bits.toNat-(6:Int).toNat)%2^(6:Int).toNat=n:=by
   show n / 1%64=n;omega
  rw[e];rfl
 unfold Sl.oy;rw[if_neg (by decide)];show Sl.jb bits H n 6 kE 6=_;unfold Sl.jb;rw[hstep];rfl
theorem pI {n:Int} {K:Int->Int->Bool->Pw} (hb:k.bits[0]?=some 6) (h:Ow B w0 w (aj b k::R))
  (hK:∀w' (s:Slot) is,(is=true->s=(0,n)/\0≤n/\n<64)->(is=false->¬(0≤n/\n<64))->Ow B w0 w' (aj b k::R)->K s.1 s.2 is w'):C.qao (some ⟨b,0,none⟩) n K w:=by
 apply S.qao0;refine h.a fun c w1 h=>?_;intro k4 hk4
 have bad:¬(0≤n/\n<64)->k4 true w1:=fun e=>by
  apply hk4;refine bN rfl ?_;refine h.ax rfl rfl fun w h=>?_
  (try dsimp only[putAt,List.set_cons_zero,List.set_cons_succ] at h)
  refine h.aL rfl ?_;exact hK w (0,0) false (fun e=>by cases e) (fun _=>e) h.drop
 refine dD (fun e=>bad om) (fun e=>?_);by_cases e2:n≥64
 ·rw[decide_eq_true e2];exact bad om
 rw[decide_eq_false e2];apply hk4;refine bD rfl ?_;obtain ⟨n,rfl⟩:=Int.eq_ofNat_of_zero_le (show 0≤n by omega);refine h.a fun d w2 h=>?_;refine h.ax rfl rfl fun w h=>?_
 (try dsimp only[putAt,List.set_cons_zero,List.set_cons_succ] at h)
 intro k12 hk12
 have fin:∀(s:Nat) (w:World),Ow B w0 w (aa s [.z 0, .z (n:Int)]::aa c [.z 0, .z 0]::aj b k::R)->k12 ⟨s,0,none⟩ 0 w:=fun s w h=>by
  apply hk12;refine h.aL rfl ?_;refine h.ax rfl rfl fun w h=>?_
  (try dsimp only[putAt,List.set_cons_zero,List.set_cons_succ] at h)
  refine h.aL rfl ?_;exact hK w (0,(n:Int)) true (fun _=>⟨rfl,om,om⟩) (fun e=>by cases e) h.drop.drop
 obtain ⟨x,h⟩:=h.nC.uP;refine h.dr fun w h=>?_
 refine ⟨_,rfl,_,h.aq rfl, ?_⟩;rw[show IntKind.u64.wrap (n:Int)=(n:Int) from by rw[Sl.wrap_u64,Nat.mod_eq_of_lt om]];refine h.aV rfl ⟨?_, ?_,trivial⟩
 ·refine Sl.jC (root:=kE) (addr:=n) (depth:=6) ⟨by decide,by decide,by decide,by decide⟩ om (h.pick (A:=Sl.av x.n k.bits k.H)) fun w h=>?_
  rw[vh hb om];refine ⟨?_,trivial⟩;refine h.al fun w' h=>⟨?_,trivial⟩
  generalize w.heap.size=s at h⊢;refine h.ax rfl rfl fun w h=>?_
  (try dsimp only[putAt,List.set_cons_zero,List.set_cons_succ] at h)
  refine fin s w ((show Ow B w0 w (aj b k::aa s [.z 0, .z (n:Int)]::aa c [.z 0, .z 0]::R) from Ow.bE x h.sub).sub)
 ·refine h.al fun w' h=>⟨?_,trivial⟩
  generalize w.heap.size=s at h⊢;refine Sl.jC (root:=kE) (addr:=n) (depth:=6) ⟨by decide,by decide,by decide,by decide⟩ om (h.pick (A:=Sl.av x.n k.bits k.H)) fun w h=>?_
  rw[vh hb om];refine ⟨?_,trivial⟩;refine h.ax rfl rfl fun w h=>?_
  (try dsimp only[putAt,List.set_cons_zero,List.set_cons_succ] at h)
  refine fin s w ((show Ow B w0 w (aj b k::aa s [.z 0, .z (n:Int)]::aa c [.z 0, .z 0]::R) from Ow.bE x h.sub).sub)
theorem nW {x:Kx} {s:Slot} {K:Int->Int->Int->Int->Int->Int->Int->Pw} {L:List aA} (hk:Sl.tV k.bits k.H) (h:Ow B w0 w L) [I:dG (Sl.av x.n k.bits k.H) L R]
  (hK:∀w' c e,c=(Sl.zy k.bits k.H s).1->Sl.ia c->Ow B w0 w' (Sl.av x.n k.bits k.H::R)->K c.kind c.obj c.au c.aB c.guard c.bits e w'):C.qV (some ⟨x.n,0,none⟩) s.1 s.2 K w:=
 Sl.yF h.pick 0 rfl fun w' c e he hr h=>hK w' c e (congrArg Prod.fst he) hr h
theorem sF {N:Nat} (hk:aW N k) {n:Int} (hn:0≤n/\n<64):(Sl.zy k.bits k.H (0,n)).1=k.bM n:=by
 unfold Sl.zy;rw[if_neg (by rw[lS hk.b0 ⟨rfl,hn⟩];decide)];unfold ai.bM;rw[if_pos hn]
theorem mc {N:Nat} {n kind:Int} {K:Int->Int->Int->Int->Int->Int->Int->Int->Bool->Pw} (hk:aW N k) (h:Ow B w0 w (aj b k::R))
  (h1:k.dB n kind=false->∀(s:Slot) (c:dj) w',Ow B w0 w' (aj b k::R)->K s.1 s.2 c.kind c.obj c.au c.aB c.guard c.bits false w')
  (h2:k.dB n kind=true->∀w' c,c=k.bM n->Ow B w0 w' (aj b k::R)->K 0 n c.kind c.obj c.au c.aB c.guard c.bits true w'):C.qa (some ⟨b,0,none⟩) n kind K w:=by
 apply S.qa0;refine h.a fun c0 w1 h=>?_;refine h.a fun c1 w2 h=>?_;refine pI hk.b0 h.nC fun w s is ht hf h=>?_
 refine h.a fun c2 w' h=>?_;refine h.ax rfl rfl fun w h=>?_
 (try dsimp only[putAt,List.set_cons_zero,List.set_cons_succ] at h)
 intro k12 hk12
 have fin:∀(sb:Nat) (c:dj) (w:World),(is=true->c=k.bM n)->Ow B w0 w (aa sb c.cells::aa c2 [.z s.1, .z s.2]::aj b k::aa c1 [.z 0, .z 0, .z 0, .y 0, .y 0, .z 0]::aa c0 [.z 0, .z 0]::R)->k12 ⟨sb,0,none⟩ w:=fun sb c w hc h=>by
  apply hk12;refine h.dr fun w h=>?_
  refine h.aL rfl ?_;cases is with
  |false=>
   have hB:k.dB n kind=false:=by
    unfold ai.dB ai.bM;rw[if_neg (hf rfl)];rfl
   refine bD rfl ?_;have hKK:∀w',Ow B w0 w' (aj b k::R)->K s.1 s.2 c.kind c.obj c.au c.aB c.guard c.bits false w':=h1 hB s c
   (repeat' (first|exact trivial|(exact hKK _ h.sub)|(refine h.al fun w h=>?_)|(refine h.dr fun w h=>?_)|(refine h.aL rfl ?_)|(refine h.aV rfl ?_)|(refine ⟨_,h.aq rfl, ?_⟩)|(refine ⟨_,h.ao rfl, ?_⟩)|(refine h.hd rfl ?_)|(refine ⟨h.aq rfl, ?_⟩)|(refine ⟨h.ao rfl, ?_⟩)|(refine h.ax rfl rfl fun w h=>?_)|(refine eC ?_)|(refine _root_.Go.Vc.a2 ?_)|(refine h.dy rfl rfl fun w h=>?_)|(refine h.cC rfl rfl fun w h=>?_)|(refine And.intro ?_ ?_)))
  |true=>
   obtain ⟨rfl,hn⟩:=ht rfl;have hc:=hc rfl;refine bN rfl ⟨_,h.aq rfl, ?_⟩;refine y8 (fun e=>?_) (fun e=>?_)
   ·refine gB (fun e2=>?_) (fun e2=>?_)
    ·have hB:k.dB n kind=true:=by
      unfold ai.dB;rw[←hc];simp[e,e2]
     have hKK:∀w',Ow B w0 w' (aj b k::R)->K 0 n c.kind c.obj c.au c.aB c.guard c.bits true w':=fun w' h=>h2 hB w' c hc h
     (repeat' (first|exact trivial|(exact hKK _ h.sub)|(refine h.al fun w h=>?_)|(refine h.dr fun w h=>?_)|(refine h.aL rfl ?_)|(refine h.aV rfl ?_)|(refine ⟨_,h.aq rfl, ?_⟩)|(refine ⟨_,h.ao rfl, ?_⟩)|(refine h.hd rfl ?_)|(refine ⟨h.aq rfl, ?_⟩)|(refine ⟨h.ao rfl, ?_⟩)|(refine h.ax rfl rfl fun w h=>?_)|(refine eC ?_)|(refine _root_.Go.Vc.a2 ?_)|(refine h.dy rfl rfl fun w h=>?_)|(refine h.cC rfl rfl fun w h=>?_)|(refine And.intro ?_ ?_)))
    ·have hKK:∀w',Ow B w0 w' (aj b k::R)->K 0 n c.kind c.obj c.au c.aB c.guard c.bits (c.kind==kind) w':=fun w' h=>by
      by_cases e3:c.kind=kind
      ·rw[show (c.kind==kind)=true from by simpa using e3]
       refine h2 ?_ w' c hc h;unfold ai.dB;rw[←hc,←e3];simp[e]
      ·rw[show (c.kind==kind)=false from by simpa using e3]
       refine h1 ?_ (0,n) c w' h;unfold ai.dB;rw[←hc];simp[e2,e3]
     (repeat' (first|exact trivial|(exact hKK _ h.sub)|(refine h.al fun w h=>?_)|(refine h.dr fun w h=>?_)|(refine h.aL rfl ?_)|(refine h.aV rfl ?_)|(refine ⟨_,h.aq rfl, ?_⟩)|(refine ⟨_,h.ao rfl, ?_⟩)|(refine h.hd rfl ?_)|(refine ⟨h.aq rfl, ?_⟩)|(refine ⟨h.ao rfl, ?_⟩)|(refine h.ax rfl rfl fun w h=>?_)|(refine eC ?_)|(refine _root_.Go.Vc.a2 ?_)|(refine h.dy rfl rfl fun w h=>?_)|(refine h.cC rfl rfl fun w h=>?_)|(refine And.intro ?_ ?_)))
   ·have hKK:∀w',Ow B w0 w' (aj b k::R)->K 0 n c.kind c.obj c.au c.aB c.guard c.bits false w':=h1 (by
      unfold ai.dB;rw[←hc];simp[e]) (0,n) c
    (repeat' (first|exact trivial|(exact hKK _ h.sub)|(refine h.al fun w h=>?_)|(refine h.dr fun w h=>?_)|(refine h.aL rfl ?_)|(refine h.aV rfl ?_)|(refine ⟨_,h.aq rfl, ?_⟩)|(refine ⟨_,h.ao rfl, ?_⟩)|(refine h.hd rfl ?_)|(refine ⟨h.aq rfl, ?_⟩)|(refine ⟨h.ao rfl, ?_⟩)|(refine h.ax rfl rfl fun w h=>?_)|(refine eC ?_)|(refine _root_.Go.Vc.a2 ?_)|(refine h.dy rfl rfl fun w h=>?_)|(refine h.cC rfl rfl fun w h=>?_)|(refine And.intro ?_ ?_)))
 obtain ⟨x,h⟩:=h.dz.uP;refine h.dr fun w h=>?_
 refine ⟨_,rfl,_,h.aq rfl, ?_⟩
 have hcap:∀c:dj,c=(Sl.zy k.bits k.H s).1->is=true->c=k.bM n:=fun c hc e=>by
  obtain ⟨rfl,hn⟩:=ht e;rw[hc,sF hk hn]
 refine h.aL rfl ⟨?_, ?_,trivial⟩
 ·refine nW (s:=s) hk.pv h fun w c e hc hr h=>?_
  refine ⟨?_,trivial⟩;refine h.al fun w' h=>⟨?_,trivial⟩
  generalize w.heap.size=sb at h⊢;refine h.ax rfl rfl fun w h=>?_
  (try dsimp only[putAt,List.set_cons_zero,List.set_cons_succ] at h)
  exact fin sb c w (hcap c hc) (Ow.sub (L:=aj b k::aa sb c.cells::aa c2 [.z s.1, .z s.2]::aa c1 [.z 0, .z 0, .z 0, .y 0, .y 0, .z 0]::aa c0 [.z 0, .z 0]::R) (Ow.bE x h.sub))
 ·refine h.al fun w' h=>⟨?_,trivial⟩
  generalize w.heap.size=sb at h⊢;refine nW (s:=s) hk.pv h fun w c e hc hr h=>?_
  refine ⟨?_,trivial⟩;refine h.ax rfl rfl fun w h=>?_
  (try dsimp only[putAt,List.set_cons_zero,List.set_cons_succ] at h)
  exact fin sb c w (hcap c hc) (Ow.sub (L:=aj b k::aa sb c.cells::aa c2 [.z s.1, .z s.2]::aa c1 [.z 0, .z 0, .z 0, .y 0, .y 0, .z 0]::aa c0 [.z 0, .z 0]::R) (Ow.bE x h.sub))
end
abbrev bw:cQ Slot:=Sl.bw
section
variable {B:Nat} {w0 w:World} {R L:List aA} {s:Sl}
theorem sM {w:World} {A:Addr} {x:Slot} {f:Int->Int->Prop} (g:∀c v,(bw.enc x)[c]?=some v->w.cell? (A.add c)=some v) (hf:f x.1 x.2):az w A 0 [.o, .o] f:=⟨_,g 0 _ rfl,_,g 1 _ rfl,hf⟩
theorem Hx {w:World} {A:Addr} {x:Slot × dj} {f:Int->Int->Int->Int->Int->Int->Int->Int->Prop} (g:∀c v,(Sl.gZ.enc x)[c]?=some v->w.cell? (A.add c)=some v) (hf:f x.1.1 x.1.2 x.2.kind x.2.obj x.2.au x.2.aB x.2.guard x.2.bits):
  az w A 0 [.o, .o, .o, .o, .o, .u, .u, .o] f:=⟨_,g 0 _ rfl,_,g 1 _ rfl,_,g 2 _ rfl,_,g 3 _ rfl,_,g 4 _ rfl,_,g 5 _ rfl,_,g 6 _ rfl,_,g 7 _ rfl,hf⟩
theorem sg {p:Slot->Bool} {f:Value} {xs:List Slot} {K:Int->Pw} [I:bT s L Slot bw xs] (h:Ow B w0 w L) (hbig:xs.length≤1000000000)
  (hf:∀(y:Slot) (w:World) (Q:Bool->Pw),y∈xs->Ow B w0 w L->(∀w',Ow B w0 w' L->Q (p y) w')->bY Tryz.prog f [.agg ⟨bw.enc y⟩] w fun en w'=>∃r:Bool,en= .returned (.bool r)/\Q r w')
  (hK:∀w',Ow B w0 w' L->K (cN p xs) w'):C.qv s f K w:=by
 apply S.qv0;have hlen:=h.br s;intro l hl
 have loop:∀(m j:Nat) (w:World),j+m=xs.length->(∀i,i<j->∀y,xs[i]?=some y->p y=false)->Ow B w0 w L->l (j:Int) w:=by
  intro m
  induction m with
  |zero=>
   intro j w hj hno h;apply hl;refine aE om ?_
   have hn:xs.findIdx? p=none:=by
    rw[List.findIdx?_eq_none_iff];intro y hy;obtain ⟨i,hi⟩:=List.mem_iff_getElem?.1 hy;exact hno i (by have:=(List.getElem?_eq_some_iff.1 hi).1;omega) y hi
   have e:cN p xs= -1:=by unfold cN;rw[hn]
   rw[←e];exact hK _ h
  |succ m ih=>
   intro j w hj hno h;have hx:xs[j]?=some xs[j]:=gE om;apply hl;refine aR om ?_;refine h.dZ (s:=s) rfl hx fun a ha h0 hc=>?_
   refine sM hc ?_;refine hf xs[j] w _ (List.getElem_mem _) h fun w h=>?_
   cases hp:p xs[j] with
   |true=>
    refine bN rfl ?_
    have hn:xs.findIdx? p=some j:=by
     rw[List.findIdx?_eq_some_iff_getElem];refine ⟨om,hp,fun i hi=>?_⟩;have:=hno i hi xs[i] (gE om);simp[this]
    have e:cN p xs=(j:Int):=by unfold cN;rw[hn]
    rw[←e];exact hK _ h
   |false=>
    refine bD rfl ?_;rw[wr om om];refine ih (j+1) w om (fun i hi z hz=>?_) h;by_cases e:i=j
    ·subst e;rw[hx] at hz;cases hz;exact hp
    ·exact hno i om z hz
 exact loop xs.length 0 w om (fun i hi=>by omega) h
theorem nH {p:Slot->Bool} {f:Value} {xs:List Slot} {K:Bool->Pw} [I:bT s L Slot bw xs] (h:Ow B w0 w L) (hbig:xs.length≤1000000000)
  (hf:∀(y:Slot) (w:World) (Q:Bool->Pw),y∈xs->Ow B w0 w L->(∀w',Ow B w0 w' L->Q (p y) w')->bY Tryz.prog f [.agg ⟨bw.enc y⟩] w fun en w'=>∃r:Bool,en= .returned (.bool r)/\Q r w')
  (hK:∀w',Ow B w0 w' L->K (xs.any p) w'):C.ql s f K w:=by
 apply S.ql0;refine sg h hbig hf fun w h=>?_
 rw[iD];exact hK w h
theorem r7 {p:Slot × dj->Bool} {f:Value} {xs:List (Slot × dj)} {K:Int->Pw} [I:bT s L (Slot × dj) Sl.gZ xs] (h:Ow B w0 w L) (hbig:xs.length≤1000000000)
  (hf:∀(y:Slot × dj) (w:World) (Q:Bool->Pw),Ow B w0 w L->(∀w',Ow B w0 w' L->Q (p y) w')->bY Tryz.prog f [.agg ⟨Sl.gZ.enc y⟩] w fun en w'=>∃r:Bool,en= .returned (.bool r)/\Q r w')
  (hK:∀w',Ow B w0 w' L->K (cN p xs) w'):C.qw s f K w:=by
 apply S.qw0;have hlen:=h.br s;intro l hl
 have loop:∀(m j:Nat) (w:World),j+m=xs.length->(∀i,i<j->∀y,xs[i]?=some y->p y=false)->Ow B w0 w L->l (j:Int) w:=by
  intro m
  induction m with
  |zero=>
   intro j w hj hno h;apply hl;refine aE om ?_
   have hn:xs.findIdx? p=none:=by
    rw[List.findIdx?_eq_none_iff];intro y hy;obtain ⟨i,hi⟩:=List.mem_iff_getElem?.1 hy;exact hno i (by have:=(List.getElem?_eq_some_iff.1 hi).1;omega) y hi
   have e:cN p xs= -1:=by unfold cN;rw[hn]
   rw[←e];exact hK _ h
  |succ m ih=>
   intro j w hj hno h;have hx:xs[j]?=some xs[j]:=gE om;apply hl;refine aR om ?_;refine h.dZ (s:=s) rfl hx fun a ha h0 hc=>?_
   refine Hx hc ?_;refine hf xs[j] w _ h fun w h=>?_
   cases hp:p xs[j] with
   |true=>
    refine bN rfl ?_
    have hn:xs.findIdx? p=some j:=by
     rw[List.findIdx?_eq_some_iff_getElem];refine ⟨om,hp,fun i hi=>?_⟩;have:=hno i hi xs[i] (gE om);simp[this]
    have e:cN p xs=(j:Int):=by unfold cN;rw[hn]
    rw[←e];exact hK _ h
   |false=>
    refine bD rfl ?_;rw[wr om om];refine ih (j+1) w om (fun i hi z hz=>?_) h;by_cases e:i=j
    ·subst e;rw[hx] at hz;cases hz;exact hp
    ·exact hno i om z hz
 exact loop xs.length 0 w om (fun i hi=>by omega) h
theorem nG {p:Slot × dj->Bool} {f:Value} {xs:List (Slot × dj)} {K:Bool->Pw} [I:bT s L (Slot × dj) Sl.gZ xs] (h:Ow B w0 w L) (hbig:xs.length≤1000000000)
  (hf:∀(y:Slot × dj) (w:World) (Q:Bool->Pw),Ow B w0 w L->(∀w',Ow B w0 w' L->Q (p y) w')->bY Tryz.prog f [.agg ⟨Sl.gZ.enc y⟩] w fun en w'=>∃r:Bool,en= .returned (.bool r)/\Q r w')
  (hK:∀w',Ow B w0 w' L->K (xs.any p) w'):C.qm s f K w:=by
 apply S.qm0;refine r7 h hbig hf fun w h=>?_
 rw[iD];exact hK w h
theorem oO {ys:List Slot} {y:Slot} {c:Nat} {k:Sl->Pw} [I:bT s L Slot bw ys] [J:dG (ah bw s ys) L R] (h:Ow B w0 w (aa c [.z y.1, .z y.2]::L)) (hbig:ys.length≤1000000000)
  (hk:∀s' w',s'.len=ys.length+1->Ow B w0 w' (ah bw s' (ys++ [y])::R)->k s' w'):
  ∃s' w',bo Tryz.prog [236,236] 236 (.slice s.a s.len s.cap) (.slice (some (Addr.mk c 0 none)) 1 1) w s' w'/\k s' w':=
 Ow.fy (E:=bw) (y:=y) Tryz.underlying236 (show Tryz.prog.info? 204=some Tryz.t204 from by kernel_rfl) (zv:= .agg #[.z 0, .z 0]) (by kernel_rfl) (by kernel_rfl) rfl (by decide) h (by
  have e:Tryz.t204.bytes=16:=by kernel_rfl
  rw[e];omega) hk
theorem Dx {ys:List ua} {y:ua} {c:Nat} {k:Sl->Pw} [I:bT s L ua fj ys] [J:dG (ah fj s ys) L R] (h:Ow B w0 w (aa c [.y (y.base:Int), .z (y.bits:Int), .y (y.used:Int)]::L)) (hbig:ys.length≤1000000000)
  (hk:∀s' w',s'.len=ys.length+1->Ow B w0 w' (ah fj s' (ys++ [y])::R)->k s' w'):
  ∃s' w',bo Tryz.prog [110,110] 110 (.slice s.a s.len s.cap) (.slice (some (Addr.mk c 0 none)) 1 1) w s' w'/\k s' w':=
 Ow.fy (E:=fj) (y:=y) Tryz.underlying110 (show Tryz.prog.info? 136=some Tryz.t136 from by kernel_rfl) (zv:= .agg #[.y 0, .z 0, .y 0]) (by kernel_rfl) (by kernel_rfl) rfl (by decide) h (by
  have e:Tryz.t136.bytes=24:=by kernel_rfl
  rw[e];omega) hk
theorem xm {ys:List dE} {y:dE} {c:Nat} {k:Sl->Pw} [I:bT s L dE aw ys] [J:dG (ah aw s ys) L R] (h:Ow B w0 w (aa c [.z y.space, .z y.a8, .z y.frame, .z y.au]::L)) (hbig:ys.length≤1000000000)
  (hk:∀s' w',s'.len=ys.length+1->Ow B w0 w' (ah aw s' (ys++ [y])::R)->k s' w'):
  ∃s' w',bo Tryz.prog [34,34] 34 (.slice s.a s.len s.cap) (.slice (some (Addr.mk c 0 none)) 1 1) w s' w'/\k s' w':=
 Ow.fy (E:=aw) (y:=y) Tryz.underlying34 (show Tryz.prog.info? 153=some Tryz.t153 from by kernel_rfl) (zv:= .agg #[.z 0, .z 0, .z 0, .z 0]) (by kernel_rfl) (by kernel_rfl) rfl (by decide) h (by
  have e:Tryz.t153.bytes=32:=by kernel_rfl
  rw[e];omega) hk
theorem Dv {ys:List Nat} {y:Nat} {c:Nat} {k:Sl->Pw} [I:bT s L Nat cA ys] [J:dG (ah cA s ys) L R] (h:Ow B w0 w (aa c [.pointer (some ⟨y,0,none⟩)]::L)) (hbig:ys.length≤1000000000)
  (hk:∀s' w',s'.len=ys.length+1->Ow B w0 w' (ah cA s' (ys++ [y])::R)->k s' w'):
  ∃s' w',bo Tryz.prog [111,111] 111 (.slice s.a s.len s.cap) (.slice (some (Addr.mk c 0 none)) 1 1) w s' w'/\k s' w':=
 Ow.fy (E:=cA) (y:=y) Tryz.underlying111 (show Tryz.prog.info? 321=some Tryz.t321 from by kernel_rfl) (zv:= .pointer none) (by kernel_rfl) (by kernel_rfl) rfl (by decide) h (by
  have e:Tryz.t321.bytes=8:=by kernel_rfl
  rw[e];omega) hk
theorem BU {ys:List Nat} {y:Nat} {c:Nat} {k:Sl->Pw} [I:bT s L Nat cA ys] [J:dG (ah cA s ys) L R] (h:Ow B w0 w (aa c [.pointer (some ⟨y,0,none⟩)]::L)) (hbig:ys.length≤1000000000)
  (hk:∀s' w',s'.len=ys.length+1->Ow B w0 w' (ah cA s' (ys++ [y])::R)->k s' w'):
  ∃s' w',bo Tryz.prog [112,112] 112 (.slice s.a s.len s.cap) (.slice (some (Addr.mk c 0 none)) 1 1) w s' w'/\k s' w':=
 Ow.fy (E:=cA) (y:=y) Tryz.underlying112 (show Tryz.prog.info? 167=some Tryz.t167 from by kernel_rfl) (zv:= .pointer none) (by kernel_rfl) (by kernel_rfl) rfl (by decide) h (by
  have e:Tryz.t167.bytes=8:=by kernel_rfl
  rw[e];omega) hk
theorem zl {ys:List Nat} {y:Nat} {c:Nat} {k:Sl->Pw} [I:bT s L Nat cA ys] [J:dG (ah cA s ys) L R] (h:Ow B w0 w (aa c [.pointer (some ⟨y,0,none⟩)]::L)) (hbig:ys.length≤1000000000)
  (hk:∀s' w',s'.len=ys.length+1->Ow B w0 w' (ah cA s' (ys++ [y])::R)->k s' w'):
  ∃s' w',bo Tryz.prog [113,113] 113 (.slice s.a s.len s.cap) (.slice (some (Addr.mk c 0 none)) 1 1) w s' w'/\k s' w':=
 Ow.fy (E:=cA) (y:=y) Tryz.underlying113 (show Tryz.prog.info? 137=some Tryz.t137 from by kernel_rfl) (zv:= .pointer none) (by kernel_rfl) (by kernel_rfl) rfl (by decide) h (by
  have e:Tryz.t137.bytes=8:=by kernel_rfl
  rw[e];omega) hk
theorem pE {a c:dj} {K:Bool->Pw} (h:Ow B w0 w R) (hK:∀w',Ow B w0 w' R->K (ai.rh a c) w'):C.qdG a.kind a.obj a.au a.aB a.guard a.bits c.kind c.obj c.au c.aB c.guard c.bits K w:=by
 apply S.qdG0;refine h.a fun c0 w1 h=>?_;refine h.a fun c1 w2 h=>?_;unfold ai.rh at hK;refine ⟨_,h.aq rfl, ?_⟩;refine y8 (fun e=>?_) (fun e=>?_)
 ·refine ⟨_,h.aq rfl,_,h.aq rfl, ?_⟩
  refine gB (fun e2=>?_) (fun e2=>?_)
  ·refine ⟨_,h.ao rfl,_,h.ao rfl, ?_⟩
   have:=hK w2 h.drop.drop;rw[decide_eq_true e,decide_eq_true e2,Bool.true_and,Bool.true_and] at this;exact this
  ·have:=hK w2 h.drop.drop
   rw[decide_eq_false e2,Bool.false_and,Bool.and_false] at this;exact this
 ·have:=hK w2 h.drop.drop
  rw[decide_eq_false (by simpa using e),Bool.false_and] at this;exact this
theorem u6 {c:dj} {r g:Int} {K:Int->Int->Int->Int->Int->Int->Int->Pw} (hc:Sl.ia c) (h:Ow B w0 w R)
  (hK:∀w' x,x=(ai.fZ c r g).1->Ow B w0 w' R->K x.kind x.obj x.au x.aB x.guard x.bits (ai.fZ c r g).2 w'):C.qdw c.kind c.obj c.au c.aB c.guard c.bits r g K w:=by
 apply S.qdw0;refine h.a fun c0 w1 h=>?_;refine h.a fun c1 w2 h=>?_;refine h.aV rfl ?_;refine Sl.gR h hc fun w h=>?_
 unfold ai.fZ at hK
 have bad:∀(q:Int) (w:World),(∀w',Ow B w0 w' R->K 0 0 0 0 0 0 q w')->Ow B w0 w (aa c1 [.z 0, .z 0, .z 0, .y 0, .y 0, .z 0]::aa c0 c.cells::R)->
   aH w (Addr.mk c1 0 none) 0 [.z (0:Int), .z (0:Int), .z (0:Int), .y (0:Int), .y (0:Int), .z (0:Int)] fun w28=>
    az w28 (Addr.mk c1 0 none) 0 [.o, .o, .o, .u, .u, .o] fun (r29:Int) (r30:Int) (r31:Int) (r32:Int) (r33:Int) (r34:Int)=>K r29 r30 r31 r32 r33 r34 q w28:=fun q w hK h=>by
  refine h.ax rfl rfl fun w h=>?_
  (try dsimp only[putAt,List.set_cons_zero,List.set_cons_succ] at h)
  refine h.aV rfl ?_;exact hK w h.drop.drop
 by_cases h1:Sl.cv c≠0
 ·rw[if_pos h1] at hK
  refine lj h1 (bad _ w (fun w' h=>hK w' _ rfl h) h)
 rw[if_neg h1] at hK;refine fP om ?_;refine Sl.jv ?_;by_cases h2:¬(0≤r/\r≤7)
 ·rw[if_pos h2] at hK
  rw[show (!(decide (0≤r)&&decide (r≤7)))=true from by simp;omega];exact bN rfl (bad _ w (fun w' h=>hK w' _ rfl h) h)
 rw[if_neg h2] at hK;rw[show (!(decide (0≤r)&&decide (r≤7)))=false from by simp;omega];refine bD rfl ⟨_,h.aq rfl, ?_⟩;intro k36 hk36
 have no:(c.kind=0∨(g≠0/\(Sl.eO c.kind=false∨c.aB≠0)))->k36 true w:=fun e=>by
  rw[if_pos e] at hK;apply hk36;exact bN rfl (bad _ w (fun w' h=>hK w' _ rfl h) h)
 have yes:¬(c.kind=0∨(g≠0/\(Sl.eO c.kind=false∨c.aB≠0)))->k36 false w:=fun e=>by
  rw[if_neg e] at hK;apply hk36;refine bD rfl ⟨_,h.aq rfl, ?_⟩;refine Sl.iW ?_;intro k49 hk49
  have fin:∀(r':Int) (w:World),r'=(if Sl.eD c.kind then dw .i64 c.au r else c.au)->Ow B w0 w (aa c1 [.z 0, .z 0, .z 0, .y 0, .y 0, .z 0]::aa c0 [.z c.kind, .z c.obj, .z r', .y c.aB, .y c.guard, .z c.bits]::R)->k49 w:=fun r' w hr h=>by
   apply hk49;refine y8 (fun e=>?_) (fun e=>?_)
   ·refine h.cC rfl rfl fun w h=>?_
    (try dsimp only[putAt,List.set_cons_zero,List.set_cons_succ] at h)
    refine h.aV rfl ?_;refine h.ax rfl rfl fun w h=>?_
    (try dsimp only[putAt,List.set_cons_zero,List.set_cons_succ] at h)
    refine h.aV rfl ?_;have:=hK w _ rfl h.drop.drop;rw[if_pos e,←hr] at this;exact this
   ·refine h.aV rfl ?_
    refine h.ax rfl rfl fun w h=>?_
    (try dsimp only[putAt,List.set_cons_zero,List.set_cons_succ] at h)
    refine h.aV rfl ?_;have:=hK w _ rfl h.drop.drop;rw[if_neg (show ¬g≠0 from fun hh=>hh e),←hr] at this;exact this
  cases hl:Sl.eD c.kind with
  |true=>
   refine bN rfl ⟨_,h.ao rfl, ?_⟩;refine h.cC rfl rfl fun w h=>?_
   (try dsimp only[putAt,List.set_cons_zero,List.set_cons_succ] at h)
   exact fin _ w (by rw[hl];rfl) h
  |false=>
   refine bD rfl ?_;exact fin _ w (by rw[hl];rfl) h
 refine gB (fun e=>?_) (fun e=>?_)
 ·rw[show (c.kind==0)=true from by simpa using e];exact no (.inl e)
 refine y8 (fun e2=>?_) (fun e2=>?_)
 ·refine ⟨_,h.aq rfl, ?_⟩
  refine Sl.ju ?_;cases hb:Sl.eO c.kind with
  |false=>exact bN rfl (no (.inr ⟨e2, .inl hb⟩))
  |true=>
   refine bD rfl ⟨_,h.ao rfl, ?_⟩;by_cases e3:c.aB=0
   ·rw[show (c.aB !=0)=false from by simpa using e3]
    exact yes (fun hh=>hh.elim e fun hh=>hh.2.elim (fun h=>by rw[hb] at h;cases h) fun h=>h e3)
   ·rw[show (c.aB !=0)=true from by simpa using e3]
    exact no (.inr ⟨e2, .inr e3⟩)
 ·exact yes (fun hh=>hh.elim e fun hh=>hh.1 e2)
end
theorem C8 {a:Int} {i:Nat} (h0: -9223372036854775808≤a) (h1:a<9223372036854775808) (hi:i≤1000):(IntKind.i64.wrap (a+(i:Int))=a+(i:Int)∨(IntKind.i64.wrap (a+(i:Int))<0/\64≤a+(i:Int))):=by
 by_cases e:a+(i:Int)<9223372036854775808
 ·exact .inl (wr om om)
 ·refine .inr ⟨?_,om⟩
  have e1:(2:Int)^64=18446744073709551616:=by decide
  have e2:(2:Int)^63=9223372036854775808:=by decide
  have:IntKind.i64.wrap (a+(i:Int))=a+(i:Int)-18446744073709551616:=by
   have hm:(a+(i:Int))%18446744073709551616=a+(i:Int):=Int.emod_eq_of_lt om om;simp only[IntKind.wrap,IntKind.bits,IntKind.signed,e1,Bool.true_and];rw[hm];simp;omega
  omega
section
variable {B:Nat} {w0 w:World} {R L:List aA} {bd bk:Nat} {k:ai} {d:kQ} {ec wv wk:Int} {fs:Sl} {N:Nat}
theorem zw {n:Int} {bx:Nat} {K:Bool->Pw} (hk:aW N k) (hn:0≤n/\n<64) (h:Ow B w0 w (aa bx [.pointer (some ⟨bd,0,none⟩)]::aa bd (af bk d ec wv wk fs)::aj bk k::R))
  (hK:∀w',Ow B w0 w' (aa bx [.pointer (some ⟨bd,0,none⟩)]::aa bd (af bk d ec wv wk fs)::aj bk k::R)->K (decide ((k.bM n).kind≠0)) w'):C.qbc 0 n ⟨bx,0,none⟩ K w:=by
 apply S.qbc0;refine h.a fun c0 w1 h=>?_;intro k5 hk5
 have fin:∀(s:Nat) (c:dj) (w:World),c=k.bM n->Ow B w0 w (aa s c.cells::aa bx [.pointer (some ⟨bd,0,none⟩)]::aa bd (af bk d ec wv wk fs)::aj bk k::R)->k5 ⟨s,0,none⟩ w:=fun s c w hc h=>by
  apply hk5;refine ⟨_,h.aq rfl, ?_⟩;have:=hK w h.drop
  rw[←hc,show decide (c.kind≠0)=(c.kind !=0) from by
   by_cases e:c.kind=0
   ·simp[e]
   ·simp[e]] at this
  exact this
 obtain ⟨x,h⟩:=(h.pick (A:=aj bk k)).uP;refine h.dr fun w h=>?_
 refine ⟨_,h.aq rfl,_,rfl,_,h.aq rfl,_,rfl,_,h.aq rfl, ?_⟩;refine h.aL rfl ⟨?_, ?_,trivial⟩
 ·refine nW (s:=(0,n)) hk.pv h fun w c e hc hr h=>?_
  rw[sF hk hn] at hc;refine ⟨?_,trivial⟩;refine h.al fun w' h=>⟨?_,trivial⟩
  generalize w.heap.size=sb at h⊢;refine h.ax rfl rfl fun w h=>?_
  (try dsimp only[putAt,List.set_cons_zero,List.set_cons_succ] at h)
  refine fin sb c w hc ((show Ow B w0 w (aj bk k::aa sb c.cells::aa bx [.pointer (some ⟨bd,0,none⟩)]::aa bd (af bk d ec wv wk fs)::R) from Ow.bE x h.sub).sub)
 ·refine h.al fun w' h=>⟨?_,trivial⟩
  generalize w.heap.size=sb at h⊢;refine nW (s:=(0,n)) hk.pv h fun w c e hc hr h=>?_
  rw[sF hk hn] at hc;refine ⟨?_,trivial⟩;refine h.ax rfl rfl fun w h=>?_
  (try dsimp only[putAt,List.set_cons_zero,List.set_cons_succ] at h)
  refine fin sb c w hc ((show Ow B w0 w (aj bk k::aa sb c.cells::aa bx [.pointer (some ⟨bd,0,none⟩)]::aa bd (af bk d ec wv wk fs)::R) from Ow.bE x h.sub).sub)
def bV (a:Int) (n:Nat):List Slot:=(List.range n).map fun i:Nat=>(0,a+(i:Int))
theorem free_spec {n:Nat} {K:Sl->Int->Pw} (hk:aW N k) (hw0: -9223372036854775808≤d.call.ak) (hw1:d.call.ak<9223372036854775808) (hn:1≤n/\n≤64) (h:Ow B w0 w (aa bd (af bk d ec wv wk fs)::aj bk k::R))
  (h1:k.fI d.call.ak n≠0->∀s w',Ow B w0 w' (aa bd (af bk d ec wv wk fs)::aj bk k::R)->K s (k.fI d.call.ak n) w')
  (h2:k.fI d.call.ak n=0->∀s w',Ow B w0 w' (ah bw s (bV d.call.ak n)::aa bd (af bk d ec wv wk fs)::aj bk k::R)->K s 0 w'):C.qay (some ⟨bd,0,none⟩) (n:Int) K w:=by
 apply S.qay0;refine h.a fun bx w1 h=>?_;intro l4 hl4
 have bad:(d.call.ak<0∨64<d.call.ak+n)->∀w,Ow B w0 w (aa bd (af bk d ec wv wk fs)::aj bk k::R)->K ⟨none,0,0⟩ 181 w:=fun hb w h=>by
  have e:k.fI d.call.ak n=181:=by unfold ai.fI;rw[if_pos hb]
  have:=h1 (by rw[e];decide) ⟨none,0,0⟩ w h;rw[e] at this;exact this
 have loop:∀(m j:Nat) (o:Sl) (w:World),j+m=n->(0<j->0≤d.call.ak/\d.call.ak+j≤64)->Ow B w0 w (ah bw o (bV d.call.ak j)::aa bx [.pointer (some ⟨bd,0,none⟩)]::aa bd (af bk d ec wv wk fs)::aj bk k::R)->l4 o (j:Int) w:=by
  intro m
  induction m with
  |zero=>
   intro j o w hj hin h;have hj:j=n:=by omega
   subst hj;obtain ⟨i0,i1⟩:=hin om;apply hl4;refine aE om ?_
   have hpv:∀y∈bV d.call.ak j,y.1=0/\0≤y.2/\y.2<64:=fun y hy=>by
    obtain ⟨i,hi,rfl⟩:=List.mem_map.1 hy;rw[List.mem_range] at hi;exact ⟨rfl,by show 0≤d.call.ak+(i:Int);omega,by show d.call.ak+(i:Int)<64;omega⟩
   refine nH (s:=o) (p:=fun y=>decide ((k.bM y.2).kind≠0)) h (by unfold bV;simp;omega) (fun y w Q hy h hQ=>?_) fun w h=>?_
   ·refine aP ?_
    obtain ⟨y1,y2⟩:=y;obtain ⟨e1,e2⟩:=hpv _ hy;dsimp only at e1 e2;subst e1;show C.qbc 0 y2 ⟨bx,0,none⟩ Q w;refine zw (bd:=bd) (bk:=bk) (k:=k) (d:=d) (ec:=ec) (wv:=wv) (wk:=wk) (fs:=fs) (R:=ah bw o (bV d.call.ak j)::R) hk e2 h.sub fun w h=>hQ w h.sub
   ·have e:(bV d.call.ak j).any (fun y=>decide ((k.bM y.2).kind≠0))=(List.range j).any fun i=>decide ((k.bM (d.call.ak+(i:Int))).kind≠0):=by
     unfold bV;rw[List.any_map];rfl
    rw[e];cases hb:(List.range j).any fun i=>decide ((k.bM (d.call.ak+(i:Int))).kind≠0) with
    |true=>
     have e:k.fI d.call.ak j=51:=by unfold ai.fI;rw[if_neg om,if_pos hb]
     refine bN rfl ?_;have:=h1 (by rw[e];decide) ⟨none,0,0⟩ w h.drop.drop;rw[e] at this;exact this
    |false=>
     have e:k.fI d.call.ak j=0:=by unfold ai.fI;rw[if_neg om,if_neg (by rw[hb];decide)]
     refine bD rfl ?_;exact h2 e o w h.sub
  |succ m ih=>
   intro j o w hj hin h;apply hl4;refine aR om ?_;intro k8 hk8;have hwr:=C8 (a:=d.call.ak) (i:=j) hw0 hw1 om;obtain ⟨v,hwv⟩:∃v,IntKind.i64.wrap (d.call.ak+(j:Int))=v:=⟨_,rfl⟩
   rw[hwv] at hwr
   have fin:∀(sb:Nat) (s:Slot) (is:Bool) (w:World),(is=true->s=(0,v)/\0≤v/\v<64)->(is=false->¬(0≤v/\v<64))->Ow B w0 w (aa sb [.z s.1, .z s.2]::ah bw o (bV d.call.ak j)::aa bx [.pointer (some ⟨bd,0,none⟩)]::aa bd (af bk d ec wv wk fs)::aj bk k::R)->k8 ⟨sb,0,none⟩ is w:=fun sb s is w ht hf h=>by
    apply hk8;intro k12 hk12
    have kbad:∀w,(d.call.ak<0∨64<d.call.ak+n)->Ow B w0 w (aa bd (af bk d ec wv wk fs)::aj bk k::R)->k12 true w:=fun w hb h=>by
     apply hk12;exact bN rfl (bad hb w h)
    cases is with
    |false=>
     have:=hf rfl;refine bN rfl (kbad w ?_ h.sub);omega
    |true=>
     obtain ⟨rfl,v0,v1⟩:=ht rfl;refine bD rfl ?_;refine ⟨_,h.aq rfl,_,rfl,_,aU (h.ao rfl), ?_⟩;by_cases hneg:d.call.ak<0
     ·rw[decide_eq_true hneg]
      exact kbad w (.inl hneg) h.sub
     rw[decide_eq_false hneg];apply hk12;refine bD rfl ?_;have hv:v=d.call.ak+(j:Int):=by omega
     subst hv;refine h.aL rfl ?_;refine h.a fun g w2 h=>?_;refine oO (s:=o) (y:=(0,d.call.ak+(j:Int))) h (by unfold bV;simp;omega) fun o' w ho' h=>?_
     rw[wI j om];refine ih (j+1) o' w om (fun _=>by omega) ?_;have e:bV d.call.ak (j+1)=bV d.call.ak j++ [(0,d.call.ak+(j:Int))]:=by unfold bV;rw[List.range_succ,List.map_append];rfl
     rw[e];exact h.sub
   refine h.dr fun w h=>?_
   refine ⟨_,h.aq rfl,_,rfl,_,h.aq rfl,_,h.aq rfl,_,rfl,_,aU (h.ao rfl), ?_⟩;rw[hwv];refine ⟨?_, ?_,trivial⟩
   ·refine pI hk.b0 (h.pick (A:=aj bk k)) fun w s is ht hf h=>?_
    refine ⟨?_,trivial⟩;refine h.al fun w' h=>⟨?_,trivial⟩
    generalize w.heap.size=sb at h⊢;refine h.ax rfl rfl fun w h=>?_
    (try dsimp only[putAt,List.set_cons_zero,List.set_cons_succ] at h)
    exact fin sb s is w ht hf h.sub
   ·refine h.al fun w' h=>⟨?_,trivial⟩
    generalize w.heap.size=sb at h⊢;refine pI hk.b0 (h.pick (A:=aj bk k)) fun w s is ht hf h=>?_
    refine ⟨?_,trivial⟩;refine h.ax rfl rfl fun w h=>?_
    (try dsimp only[putAt,List.set_cons_zero,List.set_cons_succ] at h)
    exact fin sb s is w ht hf h.sub
 have e0:bV d.call.ak 0= []:=rfl;exact loop n 0 ⟨none,0,0⟩ w1 om (fun hh=>absurd hh om) (by rw[e0];exact Ow.dK h)
theorem mg {s:Slot} {c:dj} {K:Pw} (hc:Sl.ia c) (hl:k.T.length<1000000) (h:Ow B w0 w (aa bd (af bk d ec wv wk fs)::aj bk k::R))
  (hK:∀w',Ow B w0 w' (aa bd (af bk d ec wv wk fs)::aj bk (k.laid d.s s c)::R)->K w'):C.qbf (some ⟨bd,0,none⟩) s.1 s.2 c.kind c.obj c.au c.aB c.guard c.bits K w:=by
 apply S.qbf0;refine h.a fun c0 w1 h=>?_;refine h.a fun c1 w2 h=>?_;obtain ⟨x,h⟩:=(h.pick (A:=aj bk k)).uP;refine h.dr fun w h=>?_
 refine ⟨_,rfl,_,h.aq rfl,_,rfl,_,h.aq rfl, ?_⟩;refine h.aL rfl ?_;refine h.aV rfl ⟨?_,trivial⟩;refine Sl.gN (s:=s) (c:=c) hc (h.pick (A:=Sl.av x.n k.bits k.H)) fun w h=>?_
 refine h.dr fun w h=>?_
 refine ⟨_,rfl,_,h.aq rfl,_,rfl,_,h.ao rfl,_,rfl, ?_⟩;refine eM (h.aL rfl ?_);refine h.aL rfl ⟨?_,trivial⟩;refine Tr.ur (p:=d.s) (s:=s) hl (h.pick (A:=Tr.bB x.tr k.T)) fun w h=>?_
 refine hK w ((show Ow B w0 w (aj bk (k.laid d.s s c)::aa bd (af bk d ec wv wk fs)::R) from Ow.bE x h.sub).sub)
end
section
variable {B:Nat} {w0 w:World} {R L:List aA} {bd bk:Nat} {k:ai} {d:kQ} {ec wv wk:Int} {fs:Sl} {N:Nat}
def ai.Be (k:ai) (core a b:Int):Prop:=(a=1->0≤b)/\(a=2->1≤b/\b≤8/\k.bits.length<64)/\(a=3->k.t.fR core=true/\k.t.bA.length<64)
theorem Cs {at_:Nat} {K:Int->Pw} (hk:aW N k) (hN:N≤100000) (hr:k.Be d.core d.call.a d.call.b) (h:Ow B w0 w (aa bd (af bk d ec wv wk fs)::aj bk k::R))
  (hK:∀w',Ow B w0 w' (aa bd (af bk d ec wv wk fs)::aj bk (k.made d.core d.call.a d.call.b at_).2::R)->K (k.made d.core d.call.a d.call.b at_).1 w'):C.qbN (some ⟨bd,0,none⟩) (at_:Int) K w:=by
 apply S.qbN0;have nu:=hk.nu;have ne:=hk.ne;have nn:=hk.nn;have ns:=hk.ns;have nf:=hk.nf;have nt:=hk.nt;obtain ⟨r1,r2,r3⟩:=hr;unfold ai.made at hK;obtain ⟨x,h⟩:=(h.pick (A:=aj bk k)).uP;refine ⟨_,rfl,_,aU (h.ao rfl), ?_⟩;refine gB (fun e=>?_) (fun e=>?_)
 ·rw[if_pos e] at hK
  obtain ⟨bn,hbn⟩:=Int.eq_ofNat_of_zero_le (r1 e);rw[hbn,Int.toNat_natCast] at hK;refine h.dr fun w h=>?_
  refine ⟨_,rfl,_,rfl,_,h.aq rfl,_,rfl,x.su,h.ao rfl,_,rfl,_,aU (h.ao rfl),_,h.aq rfl, ?_,trivial⟩;refine h.al fun w2 h=>⟨?_,trivial⟩
  generalize w.heap.size=g at h⊢;have h:Ow B w0 w2 (aa g [.y (((⟨at_,bn,0⟩:ua).base:Nat):Int), .z (((⟨at_,bn,0⟩:ua).bits:Nat):Int), .y (((⟨at_,bn,0⟩:ua).used:Nat):Int)]::_):=h.DB (by rw[hbn];rfl);refine Dx (s:=x.su) (y:=⟨at_,bn,0⟩) h om fun s' w hs' h=>?_
  refine ⟨h.aq rfl,_,rfl, ?_,trivial⟩;refine h.cC rfl rfl fun w h=>?_
  refine ⟨_,rfl,_,h.aq rfl,_,rfl,s',h.ao rfl, ?_⟩;rw[hs',show IntKind.i64.wrap (((k.u.length+1:Nat):Int)-1)=(k.u.length:Int) from by rw[wr om om];omega]
  (dsimp only[bp,af,putAt,List.set_cons_zero,List.set_cons_succ,Nat.zero_add] at h)
  refine hK w ((show Ow B w0 w (aj bk { k with u:=k.u++ [⟨at_,bn,0⟩]}::aa bd (af bk d ec wv wk fs)::R) from Ow.bE { x with su:=s'} h.sub).sub)
 rw[if_neg e] at hK;refine gB (fun e2=>?_) (fun e2=>?_)
 ·rw[if_pos e2] at hK
  obtain ⟨b1,b2,b3⟩:=r2 e2
  have hm:Sl.gJ k.bits d.call.b=((k.bits.length:Int),0,k.bits++ [d.call.b]):=by
   unfold Sl.gJ;rw[if_neg om,if_neg om]
  rw[hm] at hK;refine ⟨_,rfl,_,h.aq rfl,_,rfl,_,h.ao rfl,_,rfl, ?_⟩;rw[show IntKind.i64.wrap ((k.bits.length:Int)+1)=(((k.bits++ [d.call.b]).length:Nat):Int) from by rw[wr om om];simp];refine h.cC rfl rfl fun w h=>?_
  refine h.dr fun w h=>?_
  (dsimp only[bp,af,putAt,List.set_cons_zero,List.set_cons_succ,Nat.zero_add] at h)
  refine ⟨_,rfl,_,h.aq rfl,_,rfl,_,h.aq rfl,_,rfl,_,aU (h.ao rfl), ?_,trivial⟩;refine Sl.gg (h.pick (A:=Sl.av x.n k.bits k.H)) fun w h=>?_
  rw[hm] at h⊢;dsimp only at h⊢;refine hK w ((show Ow B w0 w (aj bk { k with bits:=k.bits++ [d.call.b]}::aa bd (af bk d ec wv wk fs)::R) from Ow.bE x h.sub).sub)
 rw[if_neg e2] at hK;refine gB (fun e3=>?_) (fun e3=>?_)
 ·rw[if_pos e3] at hK
  obtain ⟨b1,b2⟩:=r3 e3
  have hm:k.t.cU 0 d.core=((k.t.bA.length:Int),0,k.t.make 0 d.core):=by
   unfold Th.Mt.cU;rw[if_neg (fun hh=>hh ⟨by decide,by decide,b1⟩),if_neg om]
  rw[hm] at hK;have hml:(k.t.make 0 d.core).bA.length=k.t.bA.length+1:=by unfold Th.Mt.make;simp
  refine ⟨_,rfl,_,h.aq rfl,_,rfl,_,h.ao rfl,_,rfl, ?_⟩;rw[show IntKind.i64.wrap ((k.t.bA.length:Int)+1)=(((k.t.make 0 d.core).bA.length:Nat):Int) from by rw[wr om om,hml];simp];refine h.cC rfl rfl fun w h=>?_
  refine h.dr fun w h=>?_
  (dsimp only[bp,af,putAt,List.set_cons_zero,List.set_cons_succ,Nat.zero_add] at h)
  refine ⟨_,rfl,_,h.aq rfl,_,rfl,_,h.ao rfl,_,rfl,_,h.ao rfl, ?_,trivial⟩;refine Th.HB hk.inv.ok (h.pick (A:=Th.aZ x.t k.t)) fun w h=>?_
  rw[hm] at h⊢;dsimp only at h⊢;refine hK w ((show Ow B w0 w (aj bk { k with t:=k.t.make 0 d.core}::aa bd (af bk d ec wv wk fs)::R) from Ow.bE x h.sub).sub)
 rw[if_neg e3] at hK;refine gB (fun e4=>?_) (fun e4=>?_)
 ·rw[if_pos e4] at hK
  have hpl:=(h.pick (A:=ar cd x.pe k.ends)).eQ;refine h.dr fun w h=>?_
  refine ⟨_,rfl,_,rfl,_,h.aq rfl,_,h.aq rfl,_,rfl,x.se,h.ao rfl, ?_,trivial⟩;refine nR h fun p w h=>?_
  refine ⟨h.ao rfl,h.aq rfl,h.aq rfl, ?_,trivial⟩;refine h.al fun w2 h=>⟨?_,trivial⟩
  generalize w.heap.size=g at h⊢;refine Dv (s:=x.se) (y:=p) h om fun s' w hs' h=>?_
  refine ⟨h.aq rfl,_,rfl, ?_,trivial⟩;refine h.cC rfl rfl fun w h=>?_
  refine ⟨_,rfl,_,h.aq rfl,_,rfl,s',h.ao rfl, ?_⟩;rw[hs',show IntKind.i64.wrap (((x.pe.length+1:Nat):Int)-1)=(k.ends.length:Int) from by rw[wr om om];omega]
  (dsimp only[bp,af,putAt,List.set_cons_zero,List.set_cons_succ,Nat.zero_add] at h)
  have h:=Ow.pz ((h.pick (A:=ar cd x.pe k.ends)).pick (A:=cd p ⟨[],false⟩));refine hK w ((show Ow B w0 w (aj bk { k with ends:=k.ends++ [⟨[],false⟩]}::aa bd (af bk d ec wv wk fs)::R) from Ow.bE { x with se:=s',pe:=x.pe++ [p]} h.sub).sub)
 rw[if_neg e4] at hK;refine gB (fun e5=>?_) (fun e5=>?_)
 ·rw[if_pos e5] at hK
  have hpl:=(h.pick (A:=ar bG x.pn k.notes)).eQ;refine h.dr fun w h=>?_
  refine ⟨_,rfl,_,rfl,_,h.aq rfl,_,h.aq rfl,_,rfl,x.sn,h.ao rfl, ?_,trivial⟩;refine rE h fun p w h=>?_
  refine ⟨h.ao rfl,h.aq rfl,h.aq rfl, ?_,trivial⟩;refine h.al fun w2 h=>⟨?_,trivial⟩
  generalize w.heap.size=g at h⊢;refine BU (s:=x.sn) (y:=p) h om fun s' w hs' h=>?_
  refine ⟨h.aq rfl,_,rfl, ?_,trivial⟩;refine h.cC rfl rfl fun w h=>?_
  refine ⟨_,rfl,_,h.aq rfl,_,rfl,s',h.ao rfl, ?_⟩;rw[hs',show IntKind.i64.wrap (((x.pn.length+1:Nat):Int)-1)=(k.notes.length:Int) from by rw[wr om om];omega]
  (dsimp only[bp,af,putAt,List.set_cons_zero,List.set_cons_succ,Nat.zero_add] at h)
  have h:=Ow.pz ((h.pick (A:=ar bG x.pn k.notes)).pick (A:=bG p ⟨0,false,[]⟩));refine hK w ((show Ow B w0 w (aj bk { k with notes:=k.notes++ [⟨0,false,[]⟩]}::aa bd (af bk d ec wv wk fs)::R) from Ow.bE { x with sn:=s',pn:=x.pn++ [p]} h.sub).sub)
 rw[if_neg e5] at hK;refine gB (fun e8=>?_) (fun e8=>?_)
 ·rw[if_pos e8] at hK
  have hpl:=(h.pick (A:=ar Tb.bf x.ps k.ae)).eQ;refine h.dr fun w h=>?_
  refine ⟨_,rfl,_,rfl,_,h.aq rfl,_,h.aq rfl,_,rfl,x.ss,h.ao rfl, ?_,trivial⟩;refine Tb.gF h fun p w h=>?_
  refine ⟨h.ao rfl,h.aq rfl,h.aq rfl, ?_,trivial⟩;refine h.al fun w2 h=>⟨?_,trivial⟩
  generalize w.heap.size=g at h⊢;refine zl (s:=x.ss) (y:=p) h om fun s' w hs' h=>?_
  refine ⟨h.aq rfl,_,rfl, ?_,trivial⟩;refine h.cC rfl rfl fun w h=>?_
  refine ⟨_,rfl,_,h.aq rfl,_,rfl,s',h.ao rfl, ?_⟩;rw[hs',show IntKind.i64.wrap (((x.ps.length+1:Nat):Int)-1)=(k.ae.length:Int) from by rw[wr om om];omega]
  (dsimp only[bp,af,putAt,List.set_cons_zero,List.set_cons_succ,Nat.zero_add] at h)
  have h:=Ow.pz ((h.pick (A:=ar Tb.bf x.ps k.ae)).pick (A:=Tb.bf p Tb.kM));refine hK w ((show Ow B w0 w (aj bk { k with ae:=k.ae++ [Tb.kM]}::aa bd (af bk d ec wv wk fs)::R) from Ow.bE { x with ss:=s',ps:=x.ps++ [p]} h.sub).sub)
 rw[if_neg e8] at hK;refine gB (fun e6=>?_) (fun e6=>?_)
 ·rw[if_pos e6] at hK
  refine ⟨_,rfl,_,h.aq rfl,_,rfl,_,h.ao rfl,_,rfl, ?_⟩;rw[show IntKind.i64.wrap ((k.bg:Int)+1)=((k.bg+1:Nat):Int) from by rw[wr om om];omega];refine h.cC rfl rfl fun w h=>?_
  refine ⟨_,rfl,_,h.aq rfl,_,rfl,_,h.ao rfl, ?_⟩;rw[show IntKind.i64.wrap (((k.bg+1:Nat):Int)-1)=(k.bg:Int) from by rw[wr om om];omega]
  (dsimp only[bp,af,putAt,List.set_cons_zero,List.set_cons_succ,Nat.zero_add] at h)
  refine hK w ((show Ow B w0 w (aj bk { k with bg:=k.bg+1}::aa bd (af bk d ec wv wk fs)::R) from Ow.bE x h.sub).sub)
 ·rw[if_neg e6] at hK
  refine ⟨_,rfl,_,h.aq rfl,_,rfl,_,h.ao rfl,_,rfl, ?_⟩;rw[show IntKind.i64.wrap ((k.dM:Int)+1)=((k.dM+1:Nat):Int) from by rw[wr om om];omega];refine h.cC rfl rfl fun w h=>?_
  refine ⟨_,rfl,_,h.aq rfl,_,rfl,_,h.ao rfl, ?_⟩;rw[show IntKind.i64.wrap (((k.dM+1:Nat):Int)-1)=(k.dM:Int) from by rw[wr om om];omega]
  (dsimp only[bp,af,putAt,List.set_cons_zero,List.set_cons_succ,Nat.zero_add] at h)
  refine hK w ((show Ow B w0 w (aj bk { k with dM:=k.dM+1}::aa bd (af bk d ec wv wk fs)::R) from Ow.bE x h.sub).sub)
end
theorem gn {a n:Int} (ha:1≤a/\a≤9) (hn:0≤n/\n<2147483648):Sl.cv ⟨a,n,7,0,0,0⟩=0:=by
 have hg:Sl.iB 0 0=true:=by decide
 unfold Sl.cv;split
 ·rfl
 ·rw[if_neg]
  have:a=1∨a=2∨a=3∨a=4∨a=5∨a=6∨a=7∨a=8∨a=9:=by omega
  unfold Sl.iv;rcases this with rfl|rfl|rfl|rfl|rfl|rfl|rfl|rfl|rfl<;>simp[hn.1,hn.2,hg,Sl.eD,Sl.eO]
theorem nQ {a n:Int}:Sl.ia ⟨a,n,7,0,0,0⟩:=⟨by show (0:Int)≤0;decide,by show (0:Int)<_;decide,by show (0:Int)≤0;decide,by show (0:Int)<_;decide⟩
section
variable {N:Nat} {k:ai}
theorem fA {a n:Int} (h0:0≤n) (h1:a=1->n<(k.u.length:Int)) (h2:a=2->n<(k.bits.length:Int)) (h3:a=3->n<(k.t.bA.length:Int)) (h4:a=4->n<(k.ends.length:Int)) (h5:a=5->n<(k.notes.length:Int))
  (h6:a=6->n<(k.bg:Int)) (h7:a=7->n<(k.dM:Int)) (h8:a=8->n<(k.ae.length:Int)) (h9:a=9->n<8):k.fT ⟨a,n,7,0,0,0⟩:=⟨h0,h1,h2,h3,h4,h5,h6,h7,h8,h9⟩
theorem aW.Fq (h:aW N k) {l:List ua} (hl:∀x∈l,xh x) (hg:k.u.length≤l.length) (hm:l.length≤N):aW N { k with u:=l}:=
 h.same (k':={ k with u:=l}) rfl rfl rfl ⟨hg,Nat.le_refl _,Nat.le_refl _,Nat.le_refl _,Nat.le_refl _,Nat.le_refl _,Nat.le_refl _,Nat.le_refl _⟩ h.inv h.ln h.Db hl h.Ah hm h.ne h.nn h.ns h.nf h.nt h.el h.nl
theorem Ev (hi:Th.bH (-1) k.t) {c:Int} (h1:k.t.fR c=true) (h2:k.t.bA.length<64):k.t.cU 0 c=((k.t.bA.length:Int),0,k.t.make 0 c):=by
 unfold Th.Mt.cU;rw[if_neg (fun hh=>hh ⟨by decide,by decide,h1⟩),if_neg om]
theorem aW.made (h:aW N k) (hN:N≤100000) {core a b:Int} {at_:Nat} (ha:1≤a/\a≤8) (hr:k.Be core a b) (hu:a=1->xh ⟨at_,b.toNat,0⟩):
  aW (N+1) (k.made core a b at_).2/\Gr k (k.made core a b at_).2/\(k.made core a b at_).2.H=k.H/\(k.made core a b at_).2.T=k.T/\(k.made core a b at_).2.fT ⟨a,(k.made core a b at_).1,7,0,0,0⟩/\
   (k.made core a b at_).2.bits.length≤k.bits.length+1/\(k.made core a b at_).2.t.bA.length≤k.t.bA.length+1/\(k.made core a b at_).2.t.qs.length=k.t.qs.length/\(k.made core a b at_).1≤200000:=by
 have hM:=h.mono (Nat.le_succ N);have h1:=h.nu;have h2:=h.ne;have h3:=h.nn;have h4:=h.ns;have h5:=h.nf;have h6:=h.nt;have hbl:=h.pv.gT;have htl:=h.inv.ok.gT;obtain ⟨r1,r2,r3⟩:=hr;have noty:∀{p:Prop},a≠a->p:=fun hh=>absurd rfl hh
 unfold ai.made;by_cases e:a=1
 ·rw[if_pos e]
  subst e;refine ⟨hM.Fq (fun x hx=>?_) (by simp) (by simp;omega),⟨by simp,Nat.le_refl _,Nat.le_refl _,Nat.le_refl _,Nat.le_refl _,Nat.le_refl _,Nat.le_refl _,Nat.le_refl _⟩,rfl,rfl, ?_,by dsimp only;omega,by dsimp only;omega,rfl,by dsimp only;omega⟩
  ·rcases List.mem_append.1 hx with hx|hx
   ·exact h.u x hx
   ·rw[List.mem_singleton.1 hx];exact hu rfl
  ·dsimp only
   refine fA ?_ ?_ ?_ ?_ ?_ ?_ ?_ ?_ ?_ ?_<;>(try simp)<;>(try omega)
 rw[if_neg e];by_cases e2:a=2
 ·rw[if_pos e2]
  subst e2;obtain ⟨b1,b2,b3⟩:=r2 rfl
  have hm:Sl.gJ k.bits b=((k.bits.length:Int),0,k.bits++ [b]):=by
   unfold Sl.gJ;rw[if_neg om,if_neg om]
  rw[hm];have hG:Gr k { k with bits:=k.bits++ [b]}:=⟨Nat.le_refl _,by simp,Nat.le_refl _,Nat.le_refl _,Nat.le_refl _,Nat.le_refl _,Nat.le_refl _,Nat.le_refl _⟩
  refine ⟨{ hM with b0:= ?_,pv:=h.pv.make b1 b2 b3,held:=fun s c hc=>⟨(h.held s c hc).1,hG.obj (h.held s c hc).2⟩},hG,rfl,rfl, ?_,by simp,by dsimp only;omega,rfl,by dsimp only;omega⟩
  ·dsimp only
   rw[List.getElem?_append_left (by have:=(List.getElem?_eq_some_iff.1 h.b0).1;omega)];exact h.b0
  ·dsimp only
   refine fA ?_ ?_ ?_ ?_ ?_ ?_ ?_ ?_ ?_ ?_<;>(try simp)<;>(try omega)
 rw[if_neg e2];by_cases e3:a=3
 ·rw[if_pos e3]
  subst e3;obtain ⟨b1,b2⟩:=r3 rfl;rw[Ev h.inv b1 b2];have hml:(k.t.make 0 core).bA.length=k.t.bA.length+1:=by unfold Th.Mt.make;simp
  have hG:Gr k { k with t:=k.t.make 0 core}:=⟨Nat.le_refl _,Nat.le_refl _,by dsimp only;omega,Nat.le_refl _,Nat.le_refl _,Nat.le_refl _,Nat.le_refl _,Nat.le_refl _⟩
  refine ⟨{ hM with inv:=h.inv.make b2 b1 (by decide),held:=fun s c hc=>⟨(h.held s c hc).1,hG.obj (h.held s c hc).2⟩},hG,rfl,rfl, ?_,by dsimp only;omega,by dsimp only;omega,rfl,by dsimp only;omega⟩
  ·dsimp only
   refine fA ?_ ?_ ?_ ?_ ?_ ?_ ?_ ?_ ?_ ?_<;>(try simp)<;>(try omega)
 rw[if_neg e3];by_cases e4:a=4
 ·rw[if_pos e4]
  subst e4;have hG:Gr k { k with ends:=k.ends++ [⟨[],false⟩]}:=⟨Nat.le_refl _,Nat.le_refl _,Nat.le_refl _,by simp,Nat.le_refl _,Nat.le_refl _,Nat.le_refl _,Nat.le_refl _⟩
  refine ⟨{ hM with ne:=by simp;omega,el:=fun p hp=>?_,held:=fun s c hc=>⟨(h.held s c hc).1,hG.obj (h.held s c hc).2⟩},hG,rfl,rfl, ?_,by dsimp only;omega,by dsimp only;omega,rfl,by dsimp only;omega⟩
  ·rcases List.mem_append.1 hp with hp|hp
   ·exact hM.el p hp
   ·rw[List.mem_singleton.1 hp];simp
  ·dsimp only
   refine fA ?_ ?_ ?_ ?_ ?_ ?_ ?_ ?_ ?_ ?_<;>(try simp)<;>(try omega)
 rw[if_neg e4];by_cases e5:a=5
 ·rw[if_pos e5]
  subst e5;have hG:Gr k { k with notes:=k.notes++ [⟨0,false,[]⟩]}:=⟨Nat.le_refl _,Nat.le_refl _,Nat.le_refl _,Nat.le_refl _,by simp,Nat.le_refl _,Nat.le_refl _,Nat.le_refl _⟩
  refine ⟨{ hM with nn:=by simp;omega,nl:=fun p hp=>?_,Db:=fun x hx hx2=>?_,held:=fun s c hc=>⟨(h.held s c hc).1,hG.obj (h.held s c hc).2⟩},hG,rfl,rfl, ?_,by dsimp only;omega,by dsimp only;omega,rfl,by dsimp only;omega⟩
  ·have:=h.Db x hx hx2
   dsimp only;rw[List.length_append];exact ⟨this.1,by have:=this.2;simp;omega⟩
  ·rcases List.mem_append.1 hp with hp|hp
   ·exact hM.nl p hp
   ·rw[List.mem_singleton.1 hp];simp
  ·dsimp only
   refine fA ?_ ?_ ?_ ?_ ?_ ?_ ?_ ?_ ?_ ?_<;>(try simp)<;>(try omega)
 rw[if_neg e5];by_cases e8:a=8
 ·rw[if_pos e8]
  subst e8;have hG:Gr k { k with ae:=k.ae++ [Tb.kM]}:=⟨Nat.le_refl _,Nat.le_refl _,Nat.le_refl _,Nat.le_refl _,Nat.le_refl _,Nat.le_refl _,Nat.le_refl _,by simp⟩
  refine ⟨{ hM with ns:=by simp;omega,Ah:=fun p hp=>?_,held:=fun s c hc=>⟨(h.held s c hc).1,hG.obj (h.held s c hc).2⟩},hG,rfl,rfl, ?_,by dsimp only;omega,by dsimp only;omega,rfl,by dsimp only;omega⟩
  ·rcases List.mem_append.1 hp with hp|hp
   ·exact hM.Ah p hp
   ·rw[List.mem_singleton.1 hp];exact Tb.fO.new
  ·dsimp only
   refine fA ?_ ?_ ?_ ?_ ?_ ?_ ?_ ?_ ?_ ?_<;>(try simp)<;>(try omega)
 rw[if_neg e8];by_cases e6:a=6
 ·rw[if_pos e6]
  subst e6;have hG:Gr k { k with bg:=k.bg+1}:=⟨Nat.le_refl _,Nat.le_refl _,Nat.le_refl _,Nat.le_refl _,Nat.le_refl _,by dsimp only;omega,Nat.le_refl _,Nat.le_refl _⟩
  refine ⟨{ hM with nf:=by dsimp only;omega,held:=fun s c hc=>⟨(h.held s c hc).1,hG.obj (h.held s c hc).2⟩},hG,rfl,rfl, ?_,by dsimp only;omega,by dsimp only;omega,rfl,by dsimp only;omega⟩
  ·dsimp only
   refine fA ?_ ?_ ?_ ?_ ?_ ?_ ?_ ?_ ?_ ?_<;>(try simp)<;>(try omega)
 ·rw[if_neg e6]
  have e7:a=7:=by omega
  subst e7;have hG:Gr k { k with dM:=k.dM+1}:=⟨Nat.le_refl _,Nat.le_refl _,Nat.le_refl _,Nat.le_refl _,Nat.le_refl _,Nat.le_refl _,by dsimp only;omega,Nat.le_refl _⟩
  refine ⟨{ hM with nt:=by dsimp only;omega,held:=fun s c hc=>⟨(h.held s c hc).1,hG.obj (h.held s c hc).2⟩},hG,rfl,rfl, ?_,by dsimp only;omega,by dsimp only;omega,rfl,by dsimp only;omega⟩
  ·dsimp only
   refine fA ?_ ?_ ?_ ?_ ?_ ?_ ?_ ?_ ?_ ?_<;>(try simp)<;>(try omega)
theorem Eu {core a b:Int} {at_:Nat} (ho:(k.made core a b at_).2.fT ⟨a,(k.made core a b at_).1,7,0,0,0⟩):0≤(k.made core a b at_).1:=ho.1
def ai.lF (core a b w:Int) (s:Slot) (j:Nat) (at_:Nat) (k:ai):ai:=(k.made core a b at_).2.laid s (0,w+(j:Int)) ⟨a,(k.made core a b at_).1,7,0,0,0⟩
theorem aW.lF (h:aW N k) (hN:N≤100000) {core a b w:Int} {s:Slot} {j at_:Nat} (ha:1≤a/\a≤8) (hr:k.Be core a b) (hu:a=1->xh ⟨at_,b.toNat,0⟩) (hs:(k.H s).isSome=true)
  (hw:0≤w/\w+(j:Int)<64) (hn:k.H (0,w+(j:Int))=none):
  aW (N+1) (k.lF core a b w s j at_)/\Gr k (k.lF core a b w s j at_)/\(k.lF core a b w s j at_).H=Sl.cW k.H (0,w+(j:Int)) (some ⟨a,(k.made core a b at_).1,7,0,0,0⟩)/\
   (k.lF core a b w s j at_).bits.length≤k.bits.length+1/\(k.lF core a b w s j at_).t.bA.length≤k.t.bA.length+1/\(k.lF core a b w s j at_).t.qs.length=k.t.qs.length:=by
 obtain ⟨m1,m2,m3,m4,m5,m6,m7,m8,m9⟩:=h.made hN ha hr hu
 have hl:=m1.laid (f:=s) (t:=(0,w+(j:Int))) (c:=⟨a,(k.made core a b at_).1,7,0,0,0⟩) (by rw[m3];exact hs) ⟨rfl,by show 0≤w+(j:Int);omega,hw.2⟩ (by rw[m3];exact hn)
  (gn ⟨ha.1,om⟩ ⟨Eu m5,om⟩) (show a≠0 by omega) nQ m5
 refine ⟨hl.1,⟨m2.u,m2.b,m2.t,m2.e,m2.n,m2.f,m2.tb,m2.s⟩, ?_,m6,m7,m8⟩;show (ai.laid _ _ _ _).H=_;rw[hl.2,m3]
end
structure tU (core a b w:Int) (s:Slot) (ats:List Nat) (j M:Nat) (k:ai):Prop where
 ok:aW M k
 le:M+ats.length≤100000
 kind:1≤a/\a≤8
 r1:a=1->0≤b/\∀x∈ats,xh ⟨x,b.toNat,0⟩
 r2:a=2->1≤b/\b≤8/\k.bits.length+ats.length≤64
 r3:a=3->k.t.fR core=true/\k.t.bA.length+ats.length≤64
 hs:(k.H s).isSome=true
 w0:0≤w
 w1:w+(j:Int)+(ats.length:Int)≤64
 fr:∀i:Nat,i<ats.length->k.H (0,w+((j+i:Nat):Int))=none
theorem tU.room {core a b w:Int} {s:Slot} {x:Nat} {ats:List Nat} {j M:Nat} {k:ai} (h:tU core a b w s (x::ats) j M k):k.Be core a b/\(a=1->xh ⟨x,b.toNat,0⟩)/\(w+(j:Int)<64)/\k.H (0,w+(j:Int))=none:=by
 have h1:=h.r1;have h2:=h.r2;have h3:=h.r3;have h4:=h.w1;have h5:=h.fr 0 (by simp);simp only[List.length_cons] at h2 h3 h4;exact ⟨⟨fun e=>(h1 e).1,fun e=>⟨(h2 e).1,(h2 e).2.1,by have:=(h2 e).2.2;omega⟩,fun e=>⟨(h3 e).1,by have:=(h3 e).2;omega⟩⟩,fun e=>(h1 e).2 x List.mem_cons_self,om,by simpa using h5⟩
theorem tU.step {core a b w:Int} {s:Slot} {x:Nat} {ats:List Nat} {j M:Nat} {k:ai} (h:tU core a b w s (x::ats) j M k):tU core a b w s ats (j+1) (M+1) (k.lF core a b w s j x):=by
 obtain ⟨g1,g2,g3,g4⟩:=h.room;have hle:=h.le;have hw1:=h.w1;have hr2:=h.r2;have hr3:=h.r3;simp only[List.length_cons] at hle hw1 hr2 hr3;obtain ⟨m1,m2,m3,m4,m5,m6⟩:=h.ok.lF om h.kind g1 g2 h.hs ⟨h.w0,g3⟩ g4;refine ⟨m1,om,h.kind,fun e=>⟨(h.r1 e).1,fun y hy=>(h.r1 e).2 y (List.mem_cons_of_mem _ hy)⟩,fun e=>⟨(hr2 e).1,(hr2 e).2.1,by have:=(hr2 e).2.2;omega⟩,fun e=>⟨?_,by have:=(hr3 e).2;omega⟩, ?_,h.w0,om,fun i hi=>?_⟩
 ·have:=(hr3 e).1
  unfold Th.Mt.fR at this⊢;rw[m6];exact this
 ·rw[m3]
  unfold Sl.cW;split
  ·rfl
  ·exact h.hs
 ·rw[m3]
  unfold Sl.cW;rw[if_neg (fun e=>by have:=congrArg Prod.snd e;dsimp only at this;omega)];have:=h.fr (i+1) (by simp;omega)
  rwa [show j+(i+1)=j+1+i from by omega] at this
theorem tU.all {core a b w:Int} {s:Slot}:∀{ats:List Nat} {j M:Nat} {k:ai},tU core a b w s ats j M k->aW (M+ats.length) (ai.makes core a b w s ats j k)
 | [],j,M,k,h=>h.ok
 |x::ats,j,M,k,h=>by
  have:=tU.all h.step;rw[show M+1+ats.length=M+(x::ats).length from by simp;omega] at this;exact this
theorem Fc {a b:Int} (h:(fm a b).2=0):(1≤a/\a≤8)/\(a=1->4≤b/\b≤20/\(fm a b).1=b)/\(a=2->1≤b/\b≤8):=by
 unfold fm at*
 by_cases e1:a=1
 ·rw[if_pos e1] at h⊢
  split at h
  ·rename_i hb
   rw[if_pos hb];exact ⟨om,fun _=>⟨hb.1,hb.2,rfl⟩,om⟩
  ·cases h
 rw[if_neg e1] at h⊢;by_cases e2:a=2
 ·rw[if_pos e2] at h⊢
  split at h
  ·rename_i hb
   exact ⟨om,om,fun _=>hb⟩
  ·cases h
 rw[if_neg e2] at h⊢;refine ⟨?_,fun e=>absurd e e1,fun e=>absurd e e2⟩;split at h
 ·omega
 split at h
 ·omega
 split at h
 ·omega
 ·cases h
section
variable {B:Nat} {w0 w:World} {R L:List aA} {bd bk:Nat} {k:ai} {d:kQ} {ec wv wk:Int} {fs:Sl} {N:Nat}
theorem aW.kr (hk:aW N k) {n:Int} (h0:0≤n) (h1:n<(k.u.length:Int)):k.u[n.toNat]?=some (k.kr n)/\xh (k.kr n):=by
 have hx:k.u[n.toNat]?=some k.u[n.toNat]:=gE om;unfold ai.kr;rw[hx];exact ⟨rfl,hk.u _ (List.getElem_mem _)⟩
theorem ou (hk:aW N k) (hN:N+64≤100000) (hs:(k.H d.s).isSome=true) (hc:d.c.kind=1) (ho:k.fT d.c) (hcore:k.t.fR d.core=true)
  (h0:(bF (k.kr d.c.obj) d.call.a d.call.b d.call.c).2.2=0) (h1:k.fI d.call.ak d.call.c.toNat=0) (h2:¬((d.call.a=2/\64<(k.bits.length:Int)+d.call.c)∨(d.call.a=3/\64<(k.t.bA.length:Int)+d.call.c))):
  tU d.core d.call.a d.call.b d.call.ak d.s (bF (k.kr d.c.obj) d.call.a d.call.b d.call.c).1 0 N { k with u:=k.u.set d.c.obj.toNat (bF (k.kr d.c.obj) d.call.a d.call.b d.call.c).2.1}:=by
 obtain ⟨hu1,hu2⟩:=hk.kr ho.1 (ho.2.1 hc);obtain ⟨p1,p2,p3,p4,p5,p6⟩:=hu2.place h0;obtain ⟨s1,s2,s3⟩:=Fc p5;obtain ⟨f1,f2,f3⟩:=hk.uJ h1;refine ⟨hk.Fq (fun x hx=>?_) (by simp) (by simpa using hk.nu),om,s1,fun e=>⟨by have:=s2 e;omega,fun x hx=>?_⟩,fun e=>⟨(s3 e).1,(s3 e).2, ?_⟩,fun e=>⟨hcore, ?_⟩,hs,f1,by rw[p4];omega,fun i hi=>?_⟩
 ·rcases List.mem_or_eq_of_mem_set hx with hx|hx
  ·exact hk.u x hx
  ·rw[hx];exact p3
 ·obtain ⟨q1,q2⟩:=p6 x hx
  rw[(s2 e).2.2] at q1 q2;exact ⟨by show d.call.b.toNat≤20;have:=s2 e;omega,q2,q1,Nat.zero_le _⟩
 ·dsimp only;rw[p4];omega
 ·dsimp only;rw[p4];omega
 ·rw[p4] at hi
  have:=f3 i hi
  rwa [show ((0+i:Nat):Int)=(i:Int) from by omega]
theorem aW.fp (hk:aW N k) (hN:N+64≤100000) (hs:(k.H d.s).isSome=true) (hc:d.c.kind=1) (ho:k.fT d.c) (hcore:k.t.fR d.core=true):aW (N+64) (k.fp d).2:=by
 unfold ai.fp;by_cases h0:(bF (k.kr d.c.obj) d.call.a d.call.b d.call.c).2.2≠0
 ·rw[if_pos h0];exact hk.mono om
 rw[if_neg h0];by_cases h1:k.fI d.call.ak d.call.c.toNat≠0
 ·rw[if_pos h1];exact hk.mono om
 rw[if_neg h1];split
 ·exact hk.mono om
 rename_i h2;have hm:=ou hk hN hs hc ho hcore om om h2;obtain ⟨hu1,hu2⟩:=hk.kr ho.1 (ho.2.1 hc);obtain ⟨p1,p2,p3,p4,p5,p6⟩:=hu2.place (show (bF (k.kr d.c.obj) d.call.a d.call.b d.call.c).2.2=0 by omega);exact hm.all.mono (by rw[p4];omega)
theorem yv {K:Int->Pw} (hk:aW N k) (hN:N+64≤100000) (hs:(k.H d.s).isSome=true) (hc:d.c.kind=1) (ho:k.fT d.c) (hcore:k.t.fR d.core=true)
  (hw0: -9223372036854775808≤d.call.ak) (hw1:d.call.ak<9223372036854775808) (h:Ow B w0 w (aa bd (af bk d ec wv wk fs)::aj bk k::R))
  (hK:∀w',Ow B w0 w' (aa bd (af bk d ec wv wk fs)::aj bk (k.fp d).2::R)->K (k.fp d).1 w'):C.qaY (some ⟨bd,0,none⟩) K w:=by
 apply S.qaY0;obtain ⟨hu1,hu2⟩:=hk.kr ho.1 (ho.2.1 hc);have o0:=ho.1;have o1:=ho.2.1 hc;have hst:=ou (d:=d) hk hN hs hc ho hcore;have hpl:=hu2.place (kind:=d.call.a) (bits:=d.call.b) (n:=d.call.c);unfold ai.fp at hK;refine ⟨_,rfl, ?_⟩;refine eM (h.aV rfl ?_);refine h.a fun cb w1 h=>?_;refine h.ax rfl rfl fun w h=>?_
 (try dsimp only[putAt,List.set_cons_zero,List.set_cons_succ] at h)
 intro k11 hk11
 have fin:∀(l:Nat) (s:Sl) (w:World),Ow B w0 w (aa l [.y ((bF (k.kr d.c.obj) d.call.a d.call.b d.call.c).2.1.base:Int), .z ((bF (k.kr d.c.obj) d.call.a d.call.b d.call.c).2.1.bits:Int), .y ((bF (k.kr d.c.obj) d.call.a d.call.b d.call.c).2.1.used:Int)]::ah wE s (bF (k.kr d.c.obj) d.call.a d.call.b d.call.c).1::
   aa cb [.z d.call.ask, .z d.call.at_, .z d.call.ak, .z d.call.a, .z d.call.b, .z d.call.c]::aa bd (af bk d ec wv wk fs)::aj bk k::R)->k11 s ⟨l,0,none⟩ (bF (k.kr d.c.obj) d.call.a d.call.b d.call.c).2.2 w:=fun l s w h=>by
  apply hk11;generalize bF (k.kr d.c.obj) d.call.a d.call.b d.call.c=P at h hK hst hpl⊢;obtain ⟨ats,left,er⟩:=P;dsimp only at h hK hst hpl⊢;by_cases h0:er≠0
  ·rw[if_pos h0] at hK
   exact lj h0 (hK w h.sub)
  rw[if_neg h0] at hK;have h0:er=0:=by omega
  obtain ⟨p1,p2,p3,p4,p5,p6⟩:=hpl h0;refine fP h0 ⟨_,h.ao rfl, ?_⟩;obtain ⟨cn,hcn⟩:=Int.eq_ofNat_of_zero_le (show 0≤d.call.c by omega);have hcn2:d.call.c.toNat=cn:=by omega
  rw[hcn2] at hK;rw[hcn];refine free_spec (n:=cn) hk hw0 hw1 om ((h.pick (A:=aj bk k)).pick (A:=aa bd (af bk d ec wv wk fs))) (fun hf s w h=>?_) (fun hf so w h=>?_)
  ·rw[if_pos hf] at hK
   exact lj hf (hK w h.sub)
  rw[if_neg om] at hK;refine fP rfl ?_;intro k20 hk20
  have kbad:((d.call.a=2/\64<(k.bits.length:Int)+d.call.c)∨(d.call.a=3/\64<(k.t.bA.length:Int)+d.call.c))->∀w,Ow B w0 w (aa bd (af bk d ec wv wk fs)::aj bk k::R)->k20 true w:=fun hb w h=>by
   rw[if_pos hb] at hK;apply hk20;exact bN rfl (hK w h)
  have kgood:¬((d.call.a=2/\64<(k.bits.length:Int)+d.call.c)∨(d.call.a=3/\64<(k.t.bA.length:Int)+d.call.c))->∀w,Ow B w0 w (ah bw so (bV d.call.ak cn)::aa l [.y (left.base:Int), .z (left.bits:Int), .y (left.used:Int)]::ah wE s ats::
   aa cb [.z d.call.ask, .z d.call.at_, .z d.call.ak, .z d.call.a, .z d.call.b, .z d.call.c]::aa bd (af bk d ec wv wk fs)::aj bk k::R)->k20 false w:=fun hb w h=>by
   rw[if_neg hb] at hK;have hst:=hst h0 (by rw[hcn2];exact hf) hb;apply hk20;refine bD rfl ?_;obtain ⟨x,h⟩:=(h.pick (A:=aj bk k)).uP;refine h.dr fun w h=>?_
   refine ⟨_,rfl,_,h.aq rfl,_,rfl,x.su,h.ao rfl,_,rfl,_,aU (h.ao rfl), ?_⟩;refine h.rB rfl ?_;refine h.dZ (s:=x.su) (i:=d.c.obj) (j:=d.c.obj.toNat) om hu1 fun a ha _ _=>⟨?_,trivial⟩
   refine h.yH (s:=x.su) (xs:=k.u) (i:=d.c.obj) (j:=d.c.obj.toNat) left om om ha fun w h=>?_
   have h:Ow B w0 w (aj bk { k with u:=k.u.set d.c.obj.toNat left}::ah bw so (bV d.call.ak cn)::ah wE s ats::
    aa cb [.z d.call.ask, .z d.call.at_, .z d.call.ak, .z d.call.a, .z d.call.b, .z d.call.c]::aa bd (af bk d ec wv wk fs)::R):=Ow.bE x h.sub
   intro l35 hl35
   have loop:∀(r j M:Nat) (kj:ai) (w:World),j+r=cn->tU d.core d.call.a d.call.b d.call.ak d.s (ats.drop j) j M kj->ai.makes d.core d.call.a d.call.b d.call.ak d.s (ats.drop j) j kj=ai.makes d.core d.call.a d.call.b d.call.ak d.s ats 0 { k with u:=k.u.set d.c.obj.toNat left}->
     Ow B w0 w (aj bk kj::ah bw so (bV d.call.ak cn)::ah wE s ats::
    aa cb [.z d.call.ask, .z d.call.at_, .z d.call.ak, .z d.call.a, .z d.call.b, .z d.call.c]::aa bd (af bk d ec wv wk fs)::R)->l35 (j:Int) w:=by
    intro r
    induction r with
    |zero=>
     intro j M kj w hj hm he h;have hlen:=h.br so;unfold bV at hlen;simp only[List.length_map,List.length_range] at hlen;apply hl35;refine aE om ?_;rw[List.drop_of_length_le om] at he;have he:kj=_:=he;refine hK w ?_;rw[←he];exact h.sub
    |succ r ih=>
     intro j M kj w hj hm he h;have hlen:=h.br so;have hlt:(bV d.call.ak cn).length=cn:=by unfold bV;simp
     have hx:(bV d.call.ak cn)[j]?=some (0,d.call.ak+(j:Int)):=by
      unfold bV;rw[List.getElem?_map,List.getElem?_range om];rfl
     have ha:ats[j]?=some ats[j]:=gE om;rw[List.drop_eq_getElem_cons (by omega:j<ats.length)] at hm he;generalize ats[j]=at_ at ha hm he;apply hl35;refine aR om ?_;refine h.dZ (s:=so) rfl hx fun a1 ha1 _ hc1=>sM hc1 ?_
     refine h.a fun g w2 h=>?_;refine h.ax rfl rfl fun w h=>?_
     (try dsimp only[putAt,List.set_cons_zero,List.set_cons_succ] at h)
     refine h.dr fun w h=>?_
     refine h.dZ (s:=s) rfl ha fun a2 ha2 h02 _=>⟨_,h02 _ rfl, ?_⟩
     refine h.aL rfl ⟨_,h.ao rfl, ?_,trivial⟩;refine Cs (at_:=at_) hm.ok (by have:=hm.le;omega) hm.room.1 ((h.pick (A:=aj bk kj)).pick (A:=aa bd (af bk d ec wv wk fs))) fun w h=>?_
     refine ⟨h.ao rfl,h.hd rfl ⟨?_,trivial⟩⟩;obtain ⟨g1,g2,g3,g4⟩:=hm.room;obtain ⟨q1,q2,q3,q4,q5,q6,q7,q8,q9⟩:=hm.ok.made (by have:=hm.le;omega) hm.kind g1 g2;refine mg (k:=(kj.made d.core d.call.a d.call.b at_).2) (s:=(0,d.call.ak+(j:Int))) (c:=⟨d.call.a,(kj.made d.core d.call.a d.call.b at_).1,7,0,0,0⟩) nQ (by rw[q4];have:=hm.ok.gT;omega) h fun w h=>?_
     have h:Ow B w0 w (aa bd (af bk d ec wv wk fs)::aj bk (kj.lF d.core d.call.a d.call.b d.call.ak d.s j at_)::_):=h;rw[wI j om];exact ih (j+1) (M+1) (kj.lF d.core d.call.a d.call.b d.call.ak d.s j at_) w om hm.step he h.sub
   exact loop cn 0 N _ w om hst rfl h
  obtain ⟨x,h⟩:=(h.pick (A:=aj bk k)).uP;have hbl:=hk.pv.gT;have htl:=hk.inv.ok.gT;refine h.dr fun w h=>?_
  refine ⟨_,h.ao rfl, ?_⟩;refine gB (fun e2=>?_) (fun e2=>?_)
  ·refine ⟨_,rfl,_,h.aq rfl,_,rfl,_,h.ao rfl,_,h.ao rfl, ?_⟩
   rw[wr om om];refine dD (fun e3=>?_) (fun e3=>?_)
   ·exact kbad (.inl ⟨e2,om⟩) w ((show Ow B w0 w (aj bk k::aa bd (af bk d ec wv wk fs)::R) from Ow.bE x h.sub).sub)
   ·refine ⟨_,h.ao rfl, ?_⟩
    refine vN om ?_
    exact kgood om w ((show Ow B w0 w (aj bk k::ah bw so (bV d.call.ak cn)::aa l [.y (left.base:Int), .z (left.bits:Int), .y (left.used:Int)]::ah wE s ats::
     aa cb [.z d.call.ask, .z d.call.at_, .z d.call.ak, .z d.call.a, .z d.call.b, .z d.call.c]::aa bd (af bk d ec wv wk fs)::R) from Ow.bE x h.sub).sub)
  ·refine ⟨_,h.ao rfl, ?_⟩
   refine gB (fun e3=>?_) (fun e3=>?_)
   ·refine ⟨_,rfl,_,h.aq rfl,_,rfl,_,h.ao rfl,_,h.ao rfl, ?_⟩
    rw[wr om om];by_cases e4:64<(k.t.bA.length:Int)+d.call.c
    ·rw[decide_eq_true (show (k.t.bA.length:Int)+d.call.c>64 from e4)]
     exact kbad (.inr ⟨e3,om⟩) w ((show Ow B w0 w (aj bk k::aa bd (af bk d ec wv wk fs)::R) from Ow.bE x h.sub).sub)
    ·rw[decide_eq_false (show ¬(k.t.bA.length:Int)+d.call.c>64 from e4)]
     exact kgood om w ((show Ow B w0 w (aj bk k::ah bw so (bV d.call.ak cn)::aa l [.y (left.base:Int), .z (left.bits:Int), .y (left.used:Int)]::ah wE s ats::
      aa cb [.z d.call.ask, .z d.call.at_, .z d.call.ak, .z d.call.a, .z d.call.b, .z d.call.c]::aa bd (af bk d ec wv wk fs)::R) from Ow.bE x h.sub).sub)
   ·exact kgood om w ((show Ow B w0 w (aj bk k::ah bw so (bV d.call.ak cn)::aa l [.y (left.base:Int), .z (left.bits:Int), .y (left.used:Int)]::ah wE s ats::
     aa cb [.z d.call.ask, .z d.call.at_, .z d.call.ak, .z d.call.a, .z d.call.b, .z d.call.c]::aa bd (af bk d ec wv wk fs)::R) from Ow.bE x h.sub).sub)
 obtain ⟨x,h⟩:=(h.pick (A:=aj bk k)).uP;refine h.dr fun w h=>?_
 refine ⟨_,rfl,_,h.aq rfl,_,rfl,x.su,h.ao rfl,_,rfl,_,aU (h.ao rfl), ?_⟩;refine h.dZ (s:=x.su) (i:=d.c.obj) (j:=d.c.obj.toNat) om hu1 fun a ha _ hcu=>?_
 refine ⟨_,hcu 0 _ rfl,_,hcu 1 _ rfl,_,hcu 2 _ rfl, ?_⟩;refine ⟨_,h.ao rfl,_,h.ao rfl,_,h.ao rfl, ?_, ?_,trivial⟩
 ·refine sh hu2 h fun s w h=>?_
  refine ⟨?_,trivial⟩;refine h.al fun w' h=>⟨?_,trivial⟩
  generalize w.heap.size=l at h⊢;refine h.ax rfl rfl fun w h=>?_
  (try dsimp only[putAt,List.set_cons_zero,List.set_cons_succ] at h)
  exact fin l s w ((show Ow B w0 w (aj bk k::aa l [.y ((bF (k.kr d.c.obj) d.call.a d.call.b d.call.c).2.1.base:Int), .z ((bF (k.kr d.c.obj) d.call.a d.call.b d.call.c).2.1.bits:Int), .y ((bF (k.kr d.c.obj) d.call.a d.call.b d.call.c).2.1.used:Int)]::ah wE s (bF (k.kr d.c.obj) d.call.a d.call.b d.call.c).1::
   aa cb [.z d.call.ask, .z d.call.at_, .z d.call.ak, .z d.call.a, .z d.call.b, .z d.call.c]::aa bd (af bk d ec wv wk fs)::R) from Ow.bE x h.sub).sub)
 ·refine h.al fun w' h=>⟨?_,trivial⟩
  generalize w.heap.size=l at h⊢;refine sh hu2 h fun s w h=>?_
  refine ⟨?_,trivial⟩;refine h.ax rfl rfl fun w h=>?_
  (try dsimp only[putAt,List.set_cons_zero,List.set_cons_succ] at h)
  exact fin l s w ((show Ow B w0 w (aj bk k::aa l [.y ((bF (k.kr d.c.obj) d.call.a d.call.b d.call.c).2.1.base:Int), .z ((bF (k.kr d.c.obj) d.call.a d.call.b d.call.c).2.1.bits:Int), .y ((bF (k.kr d.c.obj) d.call.a d.call.b d.call.c).2.1.used:Int)]::ah wE s (bF (k.kr d.c.obj) d.call.a d.call.b d.call.c).1::
   aa cb [.z d.call.ask, .z d.call.at_, .z d.call.ak, .z d.call.a, .z d.call.b, .z d.call.c]::aa bd (af bk d ec wv wk fs)::R) from Ow.bE x h.sub).sub)
end
section
variable {B:Nat} {w0 w:World} {R L:List aA} {bd bk:Nat} {k:ai} {d:kQ} {ec wv wk:Int} {fs:Sl} {N:Nat}
theorem yO (a:Int):bV a 1= [(0,a)]:=by simp[bV]
theorem oH (b:Int):0≤IntKind.u64.wrap b/\IntKind.u64.wrap b<18446744073709551616:=by
 have e1:(2:Int)^64=18446744073709551616:=by decide
 have h:IntKind.u64.wrap b=b%18446744073709551616:=by
  simp only[IntKind.wrap,IntKind.bits,IntKind.signed,e1,Bool.false_and,Bool.false_eq_true,if_false]
 rw[h];exact ⟨Int.emod_nonneg _ (by decide),Int.emod_lt_of_pos _ (by decide)⟩
theorem u5 {c:dj} {r g:Int} (hc:Sl.ia c) (hg:0≤g/\g<18446744073709551616):Sl.ia (ai.fZ c r g).1:=by
 have hz:Sl.ia Sl.ay:=⟨by decide,by decide,by decide,by decide⟩
 unfold ai.fZ;split
 ·exact hz
 split
 ·exact hz
 split
 ·exact hz
 ·refine ⟨?_, ?_,hc.g0,hc.g1⟩
  ·dsimp only
   split
   ·exact hg.1
   ·exact hc.b0
  ·dsimp only
   split
   ·exact hg.2
   ·exact hc.b1
theorem Cw {K:Int->Pw} (hk:aW N k) (hc:Sl.ia d.c) (hw0: -9223372036854775808≤d.call.ak) (hw1:d.call.ak<9223372036854775808) (h:Ow B w0 w (aa bd (af bk d ec wv wk fs)::aj bk k::R))
  (hK:∀w',Ow B w0 w' (aa bd (af bk d ec wv wk fs)::aj bk (k.oe d).2::R)->K (k.oe d).1 w'):C.qbG (some ⟨bd,0,none⟩) K w:=by
 apply S.qbG0;unfold ai.oe at hK;have hr:=u5 (r:=d.call.a) hc (oH d.call.b);have hfew:=hk.gT;refine ⟨_,rfl,_,h.ao rfl, ?_⟩;refine gB (fun e=>?_) (fun e=>?_)
 ·rw[if_pos e] at hK;exact hK w h
 rw[if_neg e] at hK;refine free_spec (n:=1) hk hw0 hw1 om h (fun hf s w h=>?_) (fun hf so w h=>?_)
 ·rw[if_pos hf] at hK
  exact lj hf (hK w h)
 rw[if_neg om] at hK;rw[yO] at h;refine fP rfl ?_;intro k7 hk7
 have fin:∀(s:Nat) (w:World),Ow B w0 w (aa s (ai.fZ d.c d.call.a (IntKind.u64.wrap d.call.b)).1.cells::ah bw so [(0,d.call.ak)]::aa bd (af bk d ec wv wk fs)::aj bk k::R)->k7 (ai.fZ d.c d.call.a (IntKind.u64.wrap d.call.b)).2 ⟨s,0,none⟩ w:=fun s w h=>by
  apply hk7;by_cases he:(ai.fZ d.c d.call.a (IntKind.u64.wrap d.call.b)).2≠0
  ·rw[if_pos he] at hK
   exact lj he (hK w h.sub)
  rw[if_neg he] at hK;refine fP om ?_;refine h.dr fun w h=>?_
  refine h.dZ (s:=so) (i:=0) (j:=0) (x:=(0,d.call.ak)) rfl rfl fun a ha _ hc1=>sM hc1 ?_
  refine h.aV rfl ⟨?_,trivial⟩;refine mg (s:=(0,d.call.ak)) (c:=(ai.fZ d.c d.call.a (IntKind.u64.wrap d.call.b)).1) hr om ((h.pick (A:=aj bk k)).pick (A:=aa bd (af bk d ec wv wk fs))) fun w h=>?_
  exact hK w h.sub
 refine h.dr fun w h=>?_
 refine ⟨_,rfl, ?_⟩;refine eM (h.aV rfl ?_);refine ⟨_,rfl,_,aU (h.ao rfl),_,rfl,_,aU (h.ao rfl), ?_, ?_,trivial⟩
 ·refine u6 hc h fun w x hx h=>?_
  subst hx;refine ⟨?_,trivial⟩;refine h.al fun w' h=>⟨?_,trivial⟩
  generalize w.heap.size=s at h⊢;refine h.ax rfl rfl fun w h=>?_
  (try dsimp only[putAt,List.set_cons_zero,List.set_cons_succ] at h)
  exact fin s w h
 ·refine h.al fun w' h=>⟨?_,trivial⟩
  generalize w.heap.size=s at h⊢;refine u6 hc h fun w x hx h=>?_
  subst hx;refine ⟨?_,trivial⟩;refine h.ax rfl rfl fun w h=>?_
  (try dsimp only[putAt,List.set_cons_zero,List.set_cons_succ] at h)
  exact fin s w h
theorem Cy {K:Int->Pw} (hk:aW N k) (hw0: -9223372036854775808≤d.call.ak) (hw1:d.call.ak<9223372036854775808) (h:Ow B w0 w (aa bd (af bk d ec wv wk fs)::aj bk k::R))
  (hK:∀w',Ow B w0 w' (aa bd (af bk d ec wv wk fs)::aj bk (k.move d).2::R)->K (k.move d).1 w'):C.qbH (some ⟨bd,0,none⟩) K w:=by
 apply S.qbH0;unfold ai.move at hK;refine free_spec (n:=1) hk hw0 hw1 om h (fun hf s w h=>?_) (fun hf so w h=>?_)
 ·rw[if_pos hf] at hK
  exact lj hf (hK w h)
 rw[if_neg om] at hK;rw[yO] at h;refine fP rfl ?_;obtain ⟨x,h⟩:=(h.pick (A:=aj bk k)).uP;refine h.dr fun w h=>?_
 refine ⟨_,rfl,_,h.aq rfl,_,rfl,_,h.aq rfl,_,rfl, ?_⟩;refine eM (h.aL rfl ?_);refine h.dZ (s:=so) (i:=0) (j:=0) (x:=(0,d.call.ak)) rfl rfl fun a ha _ hc1=>sM hc1 ⟨?_,trivial⟩
 refine Sl.kO (f:=d.s) (t:=(0,d.call.ak)) (h.pick (A:=Sl.av x.n k.bits k.H)) fun w h=>?_
 refine h.dr fun w h=>?_
 refine ⟨_,rfl,_,h.aq rfl,_,rfl,_,h.ao rfl,_,rfl, ?_⟩;refine eM (h.aL rfl ?_);refine h.dZ (s:=so) (i:=0) (j:=0) (x:=(0,d.call.ak)) rfl rfl fun a ha _ hc1=>sM hc1 ⟨?_,trivial⟩
 refine Tr.tx (f:=d.s) (t:=(0,d.call.ak)) (h.pick (A:=Tr.bB x.tr k.T)) fun w h=>?_
 exact hK w ((show Ow B w0 w (aj bk { k with H:=(Sl.fk k.bits k.H d.s (0,d.call.ak)).2,T:=(Tr.fk k.T d.s (0,d.call.ak)).2}::aa bd (af bk d ec wv wk fs)::R) from Ow.bE x h.sub).sub)
def iG {α:Type} (f:α->α) (j:Nat) (l:List α):List α:=(l.take j).map f++l.drop j
theorem sR {α:Type} (f:α->α) (l:List α):iG f 0 l=l:=by simp[iG]
theorem uY {α:Type} (f:α->α) {j:Nat} {l:List α} (h:l.length≤j):iG f j l=l.map f:=by unfold iG;rw[List.take_of_length_le h,List.drop_of_length_le h,List.append_nil]
theorem uZ {α:Type} {f:α->α} {j:Nat} {l:List α} {x:α} (h:l[j]?=some x):(iG f j l)[j]?=some x/\(iG f j l).set j (f x)=iG f (j+1) l:=by
 have hj:=(List.getElem?_eq_some_iff.1 h).1;have hl:((l.take j).map f).length=j:=by simp;omega
 have hd:l.drop j=x::l.drop (j+1):=by
  rw[List.drop_eq_getElem_cons hj];congr 1;exact (List.getElem?_eq_some_iff.1 h).2
 unfold iG;refine ⟨?_, ?_⟩
 ·rw[List.getElem?_append_right om,hl,Nat.sub_self,hd];rfl
 ·rw[List.set_append_right _ _ om,hl,Nat.sub_self,hd,List.take_add_one,h,List.map_append]
  simp
theorem u2 {α:Type} (f:α->α) (j:Nat) (l:List α):(iG f j l).length=l.length:=by unfold iG;simp;omega
theorem mV {id:Int} {K:Pw} (h:Ow B w0 w (aj bk k::R)) (hN:k.ends.length≤200000/\k.notes.length≤200000) (hK:∀w',Ow B w0 w' (aj bk (k.dY id)::R)->K w'):C.qah (some ⟨bk,0,none⟩) id K w:=by
 apply S.qah0;obtain ⟨x,h⟩:=h.uP;have hle:=h.br x.se;have hln:=h.br x.sn;have hpe:=(h.pick (A:=ar cd x.pe k.ends)).eQ;have hpn:=(h.pick (A:=ar bG x.pn k.notes)).eQ;refine ⟨_,rfl,x.se,h.ao rfl, ?_⟩;intro l5 hl5;have loop:∀(m j:Nat) (w:World),j+m=k.ends.length->Ow B w0 w (aj bk { k with ends:=iG (·.cancel id) j k.ends}::R)->l5 (j:Int) w->True:=fun _ _ _ _ _ _=>trivial
 clear loop
 have loop:∀(m j:Nat) (w:World),j+m=k.ends.length->Ow B w0 w (aa bk (bp x k.bg k.dM k.bits.length k.t.bA.length)::Sl.av x.n k.bits k.H::Tr.bB x.tr k.T::Th.aZ x.t k.t::bq x.ln k.ln::ah fj x.su k.u::ah cA x.se x.pe::ar cd x.pe (iG (·.cancel id) j k.ends)::ah cA x.sn x.pn::ar bG x.pn k.notes::ah cA x.ss x.ps::ar Tb.bf x.ps k.ae::R)->l5 (j:Int) w:=by
  intro m
  induction m with
  |zero=>
   intro j w hj h;apply hl5;refine aE om ?_;rw[uY _ om] at h;refine ⟨_,rfl,x.sn,h.ao rfl, ?_⟩;intro l14 hl14
   have loop2:∀(m j:Nat) (w:World),j+m=k.notes.length->Ow B w0 w (aa bk (bp x k.bg k.dM k.bits.length k.t.bA.length)::Sl.av x.n k.bits k.H::Tr.bB x.tr k.T::Th.aZ x.t k.t::bq x.ln k.ln::ah fj x.su k.u::ah cA x.se x.pe::ar cd x.pe (k.ends.map (·.cancel id))::ah cA x.sn x.pn::ar bG x.pn (iG (·.cancel id) j k.notes)::ah cA x.ss x.ps::ar Tb.bf x.ps k.ae::R)->l14 (j:Int) w:=by
    intro m
    induction m with
    |zero=>
     intro j w hj h;apply hl14;refine aE om ?_;rw[uY _ om] at h;exact hK w (show Ow B w0 w (aj bk (k.dY id)::R) from Ow.bE x h)
    |succ m ih=>
     intro j w hj h;have hx:k.notes[j]?=some k.notes[j]:=gE om;have hp:x.pn[j]?=some x.pn[j]:=gE om;obtain ⟨g1,g2⟩:=uZ (f:=(·.cancel id)) hx;apply hl14;refine aR om ?_;refine gV (s:=x.sn) h rfl hp fun a ha hc=>⟨_,hc, ?_⟩
     have h:=(h.pick (A:=ar bG x.pn (iG (·.cancel id) j k.notes))).pt hp g1;refine nk h fun r w h=>?_
     have h:=h.wy (by rw[u2];omega) hp;rw[g2] at h;rw[wI j om];exact ih (j+1) w om h.sub
   refine loop2 k.notes.length 0 w om ?_;rw[sR];exact h
  |succ m ih=>
   intro j w hj h;have hx:k.ends[j]?=some k.ends[j]:=gE om;have hp:x.pe[j]?=some x.pe[j]:=gE om;obtain ⟨g1,g2⟩:=uZ (f:=(·.cancel id)) hx;apply hl5;refine aR om ?_;refine gV (s:=x.se) h rfl hp fun a ha hc=>⟨_,hc, ?_⟩
   have h:=(h.pick (A:=ar cd x.pe (iG (·.cancel id) j k.ends))).pt hp g1;refine lu h fun r w h=>?_
   have h:=h.wy (by rw[u2];omega) hp;rw[g2] at h;rw[wI j om];exact ih (j+1) w om h.sub
 refine loop k.ends.length 0 w om ?_;rw[sR];exact h
theorem ka {sp:Int} {l:Int × Tb.Pg} {F:List dE} {K:Pw} (hF:F.length≤1000000000) (h:Ow B w0 w (aa bd (af bk d ec wv wk fs)::ah aw fs F::R))
  (hK:∀fs' w',Ow B w0 w' (aa bd (af bk d ec wv wk fs')::ah aw fs' (F++ [⟨sp,l.1,l.2.1,l.2.2⟩])::R)->K w'):C.qac (some ⟨bd,0,none⟩) sp l.1 l.2.1 l.2.2 K w:=by
 apply S.qac0;refine h.a fun c w1 h=>?_;refine h.dr fun w h=>?_
 refine ⟨_,rfl,fs,aU (h.ao rfl),_,h.aq rfl, ?_⟩;refine eM (h.aL rfl ⟨?_,trivial⟩);refine h.al fun w2 h=>⟨?_,trivial⟩
 generalize w.heap.size=g at h⊢;refine xm (s:=fs) (y:=⟨sp,l.1,l.2.1,l.2.2⟩) h om fun fs' w hs' h=>⟨_,rfl, ?_,trivial⟩
 refine oN ?_;refine h.cC rfl rfl fun w h=>?_
 (dsimp only[bp,af,putAt,List.set_cons_zero,List.set_cons_succ,Nat.zero_add] at h)
 exact hK fs' w h.sub
end
section
variable {B:Nat} {w0 w:World} {R L:List aA} {b:Nat} {k:ai}
theorem _root_.Go.Vc.Ow.mf (h:Ow B w0 w (aj b k::R)):∃(ss:Sl) (ps:List Nat) (Y:aA),Ow B w0 w (ah cA ss ps::ar Tb.bf ps k.ae::Y::R)/\w.cell? ((Addr.mk b 0 none).add 7)=some (.slice ss.a ss.len ss.cap)/\ps.length=k.ae.length/\
  ∀R' w' sp,Ow B w0 w' (ah cA ss ps::ar Tb.bf ps sp::Y::R')->Ow B w0 w' (aj b { k with ae:=sp}::R'):=by
 obtain ⟨x,h⟩:=h.uP;refine ⟨x.ss,x.ps,bh [aa b (bp x k.bg k.dM k.bits.length k.t.bA.length),Sl.av x.n k.bits k.H,Tr.bB x.tr k.T,Th.aZ x.t k.t,bq x.ln k.ln,ah fj x.su k.u,ah cA x.se x.pe,ar cd x.pe k.ends,ah cA x.sn x.pn,ar bG x.pn k.notes], ?_,h.ao rfl,(h.pick (A:=ar Tb.bf x.ps k.ae)).eQ,fun R' w' sp h=>?_⟩
 ·exact Ow.dz (Ow.nC (Ow.dz (Ow.aY (show Ow B w0 w (aa b (bp x k.bg k.dM k.bits.length k.t.bA.length)::Sl.av x.n k.bits k.H::Tr.bB x.tr k.T::Th.aZ x.t k.t::bq x.ln k.ln::ah fj x.su k.u::ah cA x.se x.pe::ar cd x.pe k.ends::ah cA x.sn x.pn::ar bG x.pn k.notes::ah cA x.ss x.ps::ar Tb.bf x.ps k.ae::R) from h.sub))))
 ·have h:Ow B w0 w' (aa b (bp x k.bg k.dM k.bits.length k.t.bA.length)::Sl.av x.n k.bits k.H::Tr.bB x.tr k.T::Th.aZ x.t k.t::bq x.ln k.ln::ah fj x.su k.u::ah cA x.se x.pe::ar cd x.pe k.ends::ah cA x.sn x.pn::ar bG x.pn k.notes::ah cA x.ss x.ps::ar Tb.bf x.ps sp::R'):=(h.nC).star
  exact Ow.bE x h.sub
theorem _root_.Go.Vc.Ow.G5 (h:Ow B w0 w (aj b k::R)):∃(ss:Sl) (ps:List Nat) (Y:aA),Ow B w0 w (ah cA ss ps::ar cd ps k.ends::Y::R)/\w.cell? ((Addr.mk b 0 none).add 5)=some (.slice ss.a ss.len ss.cap)/\ps.length=k.ends.length/\
  ∀R' w' sp,Ow B w0 w' (ah cA ss ps::ar cd ps sp::Y::R')->Ow B w0 w' (aj b { k with ends:=sp}::R'):=by
 obtain ⟨x,h⟩:=h.uP;refine ⟨x.se,x.pe,bh [aa b (bp x k.bg k.dM k.bits.length k.t.bA.length),Sl.av x.n k.bits k.H,Tr.bB x.tr k.T,Th.aZ x.t k.t,bq x.ln k.ln,ah fj x.su k.u,ah cA x.sn x.pn,ar bG x.pn k.notes,ah cA x.ss x.ps,ar Tb.bf x.ps k.ae], ?_,h.ao rfl,(h.pick (A:=ar cd x.pe k.ends)).eQ,fun R' w' sp h=>?_⟩
 ·exact Ow.dz (Ow.nC (Ow.dz (Ow.aY (show Ow B w0 w (aa b (bp x k.bg k.dM k.bits.length k.t.bA.length)::Sl.av x.n k.bits k.H::Tr.bB x.tr k.T::Th.aZ x.t k.t::bq x.ln k.ln::ah fj x.su k.u::ah cA x.sn x.pn::ar bG x.pn k.notes::ah cA x.ss x.ps::ar Tb.bf x.ps k.ae::ah cA x.se x.pe::ar cd x.pe k.ends::R) from h.sub))))
 ·have h:Ow B w0 w' (aa b (bp x k.bg k.dM k.bits.length k.t.bA.length)::Sl.av x.n k.bits k.H::Tr.bB x.tr k.T::Th.aZ x.t k.t::bq x.ln k.ln::ah fj x.su k.u::ah cA x.sn x.pn::ar bG x.pn k.notes::ah cA x.ss x.ps::ar Tb.bf x.ps k.ae::ah cA x.se x.pe::ar cd x.pe sp::R'):=(h.nC).star
  exact Ow.bE x h.sub
theorem _root_.Go.Vc.Ow.Ee (h:Ow B w0 w (aj b k::R)):∃(ss:Sl) (ps:List Nat) (Y:aA),Ow B w0 w (ah cA ss ps::ar bG ps k.notes::Y::R)/\w.cell? ((Addr.mk b 0 none).add 6)=some (.slice ss.a ss.len ss.cap)/\ps.length=k.notes.length/\
  ∀R' w' sp,Ow B w0 w' (ah cA ss ps::ar bG ps sp::Y::R')->Ow B w0 w' (aj b { k with notes:=sp}::R'):=by
 obtain ⟨x,h⟩:=h.uP;refine ⟨x.sn,x.pn,bh [aa b (bp x k.bg k.dM k.bits.length k.t.bA.length),Sl.av x.n k.bits k.H,Tr.bB x.tr k.T,Th.aZ x.t k.t,bq x.ln k.ln,ah fj x.su k.u,ah cA x.se x.pe,ar cd x.pe k.ends,ah cA x.ss x.ps,ar Tb.bf x.ps k.ae], ?_,h.ao rfl,(h.pick (A:=ar bG x.pn k.notes)).eQ,fun R' w' sp h=>?_⟩
 ·exact Ow.dz (Ow.nC (Ow.dz (Ow.aY (show Ow B w0 w (aa b (bp x k.bg k.dM k.bits.length k.t.bA.length)::Sl.av x.n k.bits k.H::Tr.bB x.tr k.T::Th.aZ x.t k.t::bq x.ln k.ln::ah fj x.su k.u::ah cA x.se x.pe::ar cd x.pe k.ends::ah cA x.ss x.ps::ar Tb.bf x.ps k.ae::ah cA x.sn x.pn::ar bG x.pn k.notes::R) from h.sub))))
 ·have h:Ow B w0 w' (aa b (bp x k.bg k.dM k.bits.length k.t.bA.length)::Sl.av x.n k.bits k.H::Tr.bB x.tr k.T::Th.aZ x.t k.t::bq x.ln k.ln::ah fj x.su k.u::ah cA x.se x.pe::ar cd x.pe k.ends::ah cA x.ss x.ps::ar Tb.bf x.ps k.ae::ah cA x.sn x.pn::ar bG x.pn sp::R'):=(h.nC).star
  exact Ow.bE x h.sub
theorem _root_.Go.Vc.Ow.oW (h:Ow B w0 w (aj b k::R)):∃(bt:Nat) (Y:aA),Ow B w0 w (Th.aZ bt k.t::Y::R)/\w.cell? ((Addr.mk b 0 none).add 2)=some (.pointer (some ⟨bt,0,none⟩))/\
  ∀R' w' t,t.bA.length=k.t.bA.length->Ow B w0 w' (Th.aZ bt t::Y::R')->Ow B w0 w' (aj b (k.cu t)::R'):=by
 obtain ⟨x,h⟩:=h.uP;refine ⟨x.t,bh [aa b (bp x k.bg k.dM k.bits.length k.t.bA.length),Sl.av x.n k.bits k.H,Tr.bB x.tr k.T,bq x.ln k.ln,ah fj x.su k.u,ah cA x.se x.pe,ar cd x.pe k.ends,ah cA x.sn x.pn,ar bG x.pn k.notes,ah cA x.ss x.ps,ar Tb.bf x.ps k.ae], ?_,h.ao rfl,fun R' w' t ht h=>?_⟩
 ·exact Ow.dz (Ow.aY (show Ow B w0 w (aa b (bp x k.bg k.dM k.bits.length k.t.bA.length)::Sl.av x.n k.bits k.H::Tr.bB x.tr k.T::bq x.ln k.ln::ah fj x.su k.u::ah cA x.se x.pe::ar cd x.pe k.ends::ah cA x.sn x.pn::ar bG x.pn k.notes::ah cA x.ss x.ps::ar Tb.bf x.ps k.ae::Th.aZ x.t k.t::R) from h.sub))
 ·have h:Ow B w0 w' (aa b (bp x k.bg k.dM k.bits.length k.t.bA.length)::Sl.av x.n k.bits k.H::Tr.bB x.tr k.T::bq x.ln k.ln::ah fj x.su k.u::ah cA x.se x.pe::ar cd x.pe k.ends::ah cA x.sn x.pn::ar bG x.pn k.notes::ah cA x.ss x.ps::ar Tb.bf x.ps k.ae::Th.aZ x.t t::R'):=(h.dz).star
  rw[←ht] at h;exact (show Ow B w0 w' (aj b (k.cu t)::R') from Ow.bE x h.sub)
theorem _root_.Go.Vc.Ow.zF (h:Ow B w0 w (aj b k::R)):∃(bt:Nat) (Y:aA),Ow B w0 w (bq bt k.ln::Y::R)/\w.cell? ((Addr.mk b 0 none).add 3)=some (.pointer (some ⟨bt,0,none⟩))/\
  ∀R' w' t,Ow B w0 w' (bq bt t::Y::R')->Ow B w0 w' (aj b { k with ln:=t}::R'):=by
 obtain ⟨x,h⟩:=h.uP;refine ⟨x.ln,bh [aa b (bp x k.bg k.dM k.bits.length k.t.bA.length),Sl.av x.n k.bits k.H,Tr.bB x.tr k.T,Th.aZ x.t k.t,ah fj x.su k.u,ah cA x.se x.pe,ar cd x.pe k.ends,ah cA x.sn x.pn,ar bG x.pn k.notes,ah cA x.ss x.ps,ar Tb.bf x.ps k.ae], ?_,h.ao rfl,fun R' w' t h=>?_⟩
 ·exact Ow.dz (Ow.aY (show Ow B w0 w (aa b (bp x k.bg k.dM k.bits.length k.t.bA.length)::Sl.av x.n k.bits k.H::Tr.bB x.tr k.T::Th.aZ x.t k.t::ah fj x.su k.u::ah cA x.se x.pe::ar cd x.pe k.ends::ah cA x.sn x.pn::ar bG x.pn k.notes::ah cA x.ss x.ps::ar Tb.bf x.ps k.ae::bq x.ln k.ln::R) from h.sub))
 ·have h:Ow B w0 w' (aa b (bp x k.bg k.dM k.bits.length k.t.bA.length)::Sl.av x.n k.bits k.H::Tr.bB x.tr k.T::Th.aZ x.t k.t::ah fj x.su k.u::ah cA x.se x.pe::ar cd x.pe k.ends::ah cA x.sn x.pn::ar bG x.pn k.notes::ah cA x.ss x.ps::ar Tb.bf x.ps k.ae::bq x.ln t::R'):=(h.dz).star
  exact (show Ow B w0 w' (aj b { k with ln:=t}::R') from Ow.bE x h.sub)
end
def mS (P:Tb.fq) (l:Tb.fq):Tb.fq:=P.filter fun y=>l.all fun x=>x.1 !=y.1
theorem DO (P:Tb.fq):mS P []=P:=by unfold mS;simp
theorem B3 (P l:Tb.fq) (x:Int × Tb.Pg):mS P (l++ [x])=Tb.ll (mS P l) x.1:=by
 unfold mS Tb.ll;rw[List.filter_filter];congr 1;funext y;rw[List.all_append];simp only[List.all_cons,List.all_nil,Bool.and_true];rw[Bool.and_comm];congr 1;rw[Bool.eq_iff_iff];simp only[bne_iff_ne,ne_eq];exact ⟨fun h e=>h e.symm,fun h e=>h e.symm⟩
theorem DN {P:Tb.fq} (hP:Tb.jU P) (f:Int × Tb.Pg->Bool):mS P (P.filter f)=P.filter fun x=> !f x:=by
 unfold mS;apply List.filter_congr;intro y hy;rw[Bool.eq_iff_iff];simp only[List.all_eq_true,List.mem_filter,bne_iff_ne,ne_eq,Bool.not_eq_true',and_imp];constructor
 ·intro h
  cases e:f y with
  |false=>rfl
  |true=>exact absurd rfl (h y hy e)
 ·intro h x hx hfx e
  have:=hP.inj hx hy e;rw[this,h] at hfx;cases hfx
theorem B2 {P:Tb.fq} (hP:Tb.jU P) (f:Int × Tb.Pg->Bool) {q:Nat} {x:Int × Tb.Pg} (hx:(P.filter f)[q]?=some x):Tb.look (mS P ((P.filter f).take q)) x.1=some x.2:=by
 have hS:Tb.jU (mS P ((P.filter f).take q)):=hP.filter _;refine hS.look ?_;unfold mS;rw[List.mem_filter];have hm:x∈P.filter f:=List.mem_of_getElem? hx;refine ⟨(List.mem_filter.1 hm).1, ?_⟩;rw[List.all_eq_true];intro y hy;obtain ⟨i,hi⟩:=List.mem_iff_getElem?.1 hy;rw[List.getElem?_take] at hi;split at hi
 ·rename_i hlt
  have hF:Tb.jU (P.filter f):=hP.filter f;have h1:=(List.getElem?_eq_some_iff.1 hx)
  have h2:=(List.getElem?_eq_some_iff.1 hi)
  have:=(List.pairwise_iff_getElem.1 hF) i q h2.1 h1.1 hlt;rw[h1.2,h2.2] at this;simp only[bne_iff_ne,ne_eq];omega
 ·cases hi
theorem oE (f:Int) (m:Tb.dv):∀(l:List Tb.dv) (i:Nat),ai.bm f i (l++ [m])=((ai.bm f i l).1++ai.bI (i+l.length) (m.pg.filter fun x=>x.2.1==f),(ai.bm f i l).2++ [{ m with pg:=m.pg.filter fun x=> !(x.2.1==f)}])
 | [],i=>by simp[ai.bm]
 |a::l,i=>by
  simp only[List.cons_append,ai.bm,List.length_cons];rw[oE f m l (i+1)];simp only[List.append_assoc,List.cons_append];rw[show i+1+l.length=i+(l.length+1) from by omega]
theorem jc (f:Int):∀(l:List Tb.dv) (i:Nat),(ai.bm f i l).2.length=l.length
 | [],i=>rfl
 |a::l,i=>by simp[ai.bm,jc f l (i+1)]
theorem tG (n:Int) (m:Tb.dv):∀(l:List Tb.dv) (i:Nat),ai.cO n i (l++ [m])=((ai.cO n i l).1++(ai.dt n (i+l.length) 64 0 m).1,(ai.cO n i l).2++ [(ai.dt n (i+l.length) 64 0 m).2])
 | [],i=>by simp[ai.cO]
 |a::l,i=>by
  simp only[List.cons_append,ai.cO,List.length_cons];rw[tG n m l (i+1)];simp only[List.append_assoc,List.cons_append];rw[show i+1+l.length=i+(l.length+1) from by omega]
theorem mv (n:Int):∀(l:List Tb.dv) (i:Nat),(ai.cO n i l).2.length=l.length
 | [],i=>rfl
 |a::l,i=>by simp[ai.cO,mv n l (i+1)]
def jG (l:List Tb.dv):Nat:=(l.map fun m=>m.pg.length).sum
theorem rS (a b:List Tb.dv):jG (a++b)=jG a+jG b:=by unfold jG;simp
theorem mT {α:Type} (f:α->Bool):∀l:List α,(l.filter f).length+(l.filter fun x=> !f x).length=l.length
 | []=>rfl
 |a::l=>by
  have:=mT f l;cases h:f a<;>simp[h]<;>omega
theorem nA (f:Int):∀(l:List Tb.dv) (i:Nat),(ai.bm f i l).1.length+jG (ai.bm f i l).2=jG l
 | [],i=>rfl
 |a::l,i=>by
  have h1:=nA f l (i+1);have h2:=mT (fun x:Int × Tb.Pg=>x.2.1==f) a.pg;unfold jG at*
  simp only[ai.bm,ai.bI,List.length_append,List.length_map,List.map_cons,List.sum_cons];omega
theorem Ga (m:Tb.dv) (j:Int):(m.cf j).1.length+(m.cf j).2.2.pg.length=m.pg.length:=by
 unfold Tb.dv.cf;split
 ·simp
 split
 ·simp
 ·have:=mT (fun x:Int × Tb.Pg=>x.1.toNat / 64==j.toNat) m.pg
  exact this
theorem pO (n:Int) (i:Nat):∀(q j:Nat) (m:Tb.dv),(ai.dt n i q j m).1.length+(ai.dt n i q j m).2.pg.length=m.pg.length
 |0,j,m=>by simp[ai.dt]
 |q+1,j,m=>by
  unfold ai.dt;split
  ·have h1:=pO n i q (j+1) (m.cf (j:Int)).2.2
   have h2:=Ga m (j:Int);simp only[ai.bI,List.length_append,List.length_map];omega
  ·exact pO n i q (j+1) m
theorem tF (n:Int):∀(l:List Tb.dv) (i:Nat),(ai.cO n i l).1.length+jG (ai.cO n i l).2=jG l
 | [],i=>rfl
 |a::l,i=>by
  have h1:=tF n l (i+1);have h2:=pO n i 64 0 a;unfold jG at*
  simp only[ai.cO,List.length_append,List.map_cons,List.sum_cons];omega
theorem Gj (k:ai) (c:dj):(k.last c).1.length+jG (k.last c).2.ae=jG k.ae:=by
 unfold ai.last;split
 ·simp[ai.dY]
 split
 ·exact nA _ _ _
 split
 ·exact tF _ _ _
 ·simp
theorem AH (k:ai) (s:Slot):(k.gone s).1.length+jG (k.gone s).2.ae=jG k.ae:=by
 unfold ai.gone;split
 ·simp[ai.taken]
 ·exact Gj _ _
theorem fO.ER {m:Tb.dv} (h:Tb.fO m):m.pg.length≤4096:=by
 have:=Tb.oz m.pg 0 4096 h.rj (fun x hx=>⟨(h.kA x hx).1,(h.kA x hx).2.1⟩);omega
theorem zS:∀(l:List Tb.dv),(∀m∈l,Tb.fO m)->jG l≤4096*l.length
 | [],_=>Nat.le_refl _
 |a::l,h=>by
  have h1:=zS l fun m hm=>h m (List.mem_cons_of_mem _ hm)
  have h2:=fO.ER (h a List.mem_cons_self);unfold jG at*
  simp only[List.map_cons,List.sum_cons,List.length_cons];omega
section
variable {B:Nat} {w0 w:World} {R:List aA} {α:Type} {A:Nat->α->aA} {ps:List Nat} {xs:List α}
theorem _root_.Go.Vc.Ow.zW (h:Ow B w0 w (ar A ps xs::R)) {j:Nat} {p:Nat} {x:α} (hp:ps[j]?=some p) (hx:xs[j]?=some x):Ow B w0 w (A p x::bh ((List.zipWith A ps xs).eraseIdx j)::R):=
 Ow.dz (Ow.aY ((h.pt hp hx).perm List.perm_middle.symm))
theorem _root_.Go.Vc.Ow.dp {j:Nat} {p:Nat} {x':α} (hl:ps.length=xs.length) (hp:ps[j]?=some p) (h:Ow B w0 w (A p x'::bh ((List.zipWith A ps xs).eraseIdx j)::R)):Ow B w0 w (ar A ps (xs.set j x')::R):=
 Ow.wy hl hp ((h.dz).star.perm List.perm_middle)
end
section
variable {B:Nat} {w0 w:World} {R L:List aA} {bd bk:Nat} {k:ai} {d:kQ} {ec wv wk:Int} {fs:Sl} {N:Nat}
theorem yp {f:Nat->List Tb.dv->List dE × List Tb.dv} (hlen:∀l i,(f i l).2.length=l.length) {l:List Tb.dv} {i:Nat} {m:Tb.dv} (hm:l[i]?=some m):
  ((f 0 (l.take i)).2++l.drop i)[i]?=some m/\∀m',((f 0 (l.take i)).2++l.drop i).set i m'=(f 0 (l.take i)).2++ [m']++l.drop (i+1):=by
 have hi:=(List.getElem?_eq_some_iff.1 hm).1;have h1:((f 0 (l.take i)).2).length=i:=by rw[hlen,List.length_take];omega
 have hd:l.drop i=m::l.drop (i+1):=by
  rw[List.drop_eq_getElem_cons hi];congr 1;exact (List.getElem?_eq_some_iff.1 hm).2
 refine ⟨?_,fun m'=>?_⟩
 ·rw[List.getElem?_append_right om,h1,Nat.sub_self,hd];rfl
 ·rw[List.set_append_right _ _ om,h1,Nat.sub_self,hd];simp
theorem rp (n:Int) (i q j:Nat) (m:Tb.dv):ai.dt n i (q+1) j m=if m.at (j:Int)=some n then (ai.bI i (m.cf (j:Int)).1++(ai.dt n i q (j+1) (m.cf (j:Int)).2.2).1,(ai.dt n i q (j+1) (m.cf (j:Int)).2.2).2) else ai.dt n i q (j+1) m:=rfl
set_option maxHeartbeats 1000000 in
theorem Ci {c:dj} {F:List dE} {K:Pw} (hN:k.ends.length≤200000/\k.notes.length≤200000/\k.ae.length≤200000) (ht:Th.bW k.t) (hs:∀m∈k.ae,Tb.fO m) (hF:F.length+jG k.ae≤1000000000)
  (h:Ow B w0 w (aa bd (af bk d ec wv wk fs)::ah aw fs F::aj bk k::R))
  (hK:∀fs' w',Ow B w0 w' (aa bd (af bk d ec wv wk fs')::ah aw fs' (F++(k.last c).1)::aj bk (k.last c).2::R)->K w'):C.qbO (some ⟨bd,0,none⟩) c.kind c.obj c.au c.aB c.guard c.bits K w:=by
 apply S.qbO0;unfold ai.last at hK;refine h.a fun cc w1 h=>?_;refine ⟨_,h.aq rfl, ?_⟩;refine gB (fun e=>?_) (fun e=>?_)
 ·rw[if_pos e] at hK
  refine h.dr fun w h=>?_
  refine ⟨_,rfl,_,h.aq rfl,_,h.ao rfl, ?_,trivial⟩;refine mV (id:=c.obj) (h.pick (A:=aj bk k)) ⟨hN.1,hN.2.1⟩ fun w h=>?_
  refine h.dr fun w h=>?_
  obtain ⟨bt,Y,h2,hc2,hback⟩:=h.oW;refine ⟨_,rfl,_,h.aq rfl,_,rfl,_,hc2,_,h.ao rfl, ?_,trivial⟩;refine Th.vk ht h2 fun w h=>?_
  have hl:(k.t.cp c.obj).2.bA.length=k.t.bA.length:=by
   unfold Th.Mt.cp;split
   ·rfl
   split
   ·rfl
   ·unfold Th.Mt.leave Th.Mt.aX;simp[Th.cD.1]
  have h:=hback _ w _ hl h;dsimp only at hK;rw[List.append_nil] at hK;have hK3:∀fs' w',Ow B w0 w' (aa bd (af bk d ec wv wk fs')::ah aw fs' F::aj bk ((k.dY c.obj).cu (k.t.cp c.obj).2)::R)->K w':=hK;exact hK3 fs w h.sub
 rw[if_neg e] at hK;refine gB (fun e6=>?_) (fun e6=>?_)
 ·rw[if_pos e6] at hK
  obtain ⟨ss,ps,Y,h2,hc2,hpl,hback⟩:=(h.pick (A:=aj bk k)).mf;refine ⟨_,rfl,_,h.aq rfl,_,rfl,ss,hc2, ?_⟩;have h:=h2;clear h2 hc2;intro l27 hl27
  have loop:∀(r i:Nat) (fs:Sl) (w:World),i+r=k.ae.length->Ow B w0 w (ah cA ss ps::ar Tb.bf ps ((ai.bm c.obj 0 (k.ae.take i)).2++k.ae.drop i)::Y::aa cc c.cells::aa bd (af bk d ec wv wk fs)::ah aw fs (F++(ai.bm c.obj 0 (k.ae.take i)).1)::R)->l27 (i:Int) w:=by
   intro r
   induction r with
   |zero=>
    intro i fs w hi h;have hlen:=h.br ss;apply hl27;refine aE om ?_;rw[List.take_of_length_le om,List.drop_of_length_le om,List.append_nil] at h;exact hK fs w (Ow.sub (L:=aj bk { k with ae:=(ai.bm c.obj 0 k.ae).2}::aa cc c.cells::aa bd (af bk d ec wv wk fs)::ah aw fs (F++(ai.bm c.obj 0 k.ae).1)::R) (hback _ w _ h))
   |succ r ih=>
    intro i fs w hi h;have hlen:=h.br ss;have hm:k.ae[i]?=some k.ae[i]:=gE om;have hmm:k.ae[i]∈k.ae:=List.getElem_mem _;have hp:ps[i]?=some ps[i]:=gE om;generalize k.ae[i]=m at hm hmm;generalize ps[i]=p at hp;have hsm:=hs m hmm;obtain ⟨g1,g2⟩:=yp (f:=ai.bm c.obj) (jc c.obj) hm;have htk:k.ae.take (i+1)=k.ae.take i++ [m]:=by rw[List.take_add_one,hm];rfl
    have hul:((ai.bm c.obj 0 (k.ae.take i)).2++k.ae.drop i).length=ps.length:=by simp[jc];omega
    have hpg1:=nA c.obj (k.ae.take (i+1)) 0
    have hpg2:jG (k.ae.take (i+1))≤jG k.ae:=by
     have:=rS (k.ae.take (i+1)) (k.ae.drop (i+1));rw[List.take_append_drop] at this;omega
    have hsn:=oE c.obj m (k.ae.take i) 0;rw[htk] at hpg1 hpg2;rw[hsn] at hpg1;rw[Nat.zero_add,List.length_take,Nat.min_eq_left om] at hsn hpg1;simp only[List.length_append] at hpg1;apply hl27;refine aR om ?_;refine gV (s:=ss) h rfl hp fun a ha hc=>⟨_,hc,_,h.ao rfl, ?_⟩
    have h:=(h.pick (A:=ar Tb.bf ps ((ai.bm c.obj 0 (k.ae.take i)).2++k.ae.drop i))).zW hp g1;refine Tb.xc h fun s w h=>?_
    intro l35 hl35;have hfl:∀q:Nat,(Tb.fC m.pg c.obj)[q]?=((m.pg.filter fun x=>x.2.1==c.obj)[q]?).map (·.1):=fun q=>by unfold Tb.fC;rw[List.getElem?_map]
    have hfn:(Tb.fC m.pg c.obj).length=(m.pg.filter fun x=>x.2.1==c.obj).length:=by unfold Tb.fC;rw[List.length_map]
    have hll:(ai.bI i (m.pg.filter fun x=>x.2.1==c.obj)).length=(m.pg.filter fun x=>x.2.1==c.obj).length:=by unfold ai.bI;rw[List.length_map]
    have inner:∀(r q:Nat) (fs:Sl) (w:World),q+r=(m.pg.filter fun x=>x.2.1==c.obj).length->Ow B w0 w (ah aG s (Tb.fC m.pg c.obj)::Tb.bf p { m with pg:=mS m.pg ((m.pg.filter fun x=>x.2.1==c.obj).take q)}::bh ((List.zipWith Tb.bf ps ((ai.bm c.obj 0 (k.ae.take i)).2++k.ae.drop i)).eraseIdx i)::
      ah cA ss ps::Y::aa cc c.cells::aa bd (af bk d ec wv wk fs)::ah aw fs (F++(ai.bm c.obj 0 (k.ae.take i)).1++ai.bI i ((m.pg.filter fun x=>x.2.1==c.obj).take q))::R)->l35 (q:Int) w:=by
     intro r
     induction r with
     |zero=>
      intro q fs w hq h;have hsl:=h.br s;apply hl35;refine aE om ?_;rw[List.take_of_length_le om,DN hsm.rj] at h;have h:=(h.drop).dp om hp;rw[g2] at h;rw[wI i om];refine ih (i+1) fs w om ?_;rw[htk,hsn,←List.append_assoc];exact h.sub
     |succ r ih2=>
      intro q fs w hq h;have hsl:=h.br s;have hx:(m.pg.filter fun x=>x.2.1==c.obj)[q]?=some (m.pg.filter fun x=>x.2.1==c.obj)[q]:=gE om;have hlk:=B2 hsm.rj (fun x=>x.2.1==c.obj) hx;have htq:(m.pg.filter fun x=>x.2.1==c.obj).take (q+1)=(m.pg.filter fun x=>x.2.1==c.obj).take q++ [(m.pg.filter fun x=>x.2.1==c.obj)[q]]:=by rw[List.take_add_one,hx];rfl
      have hmem:(m.pg.filter fun x=>x.2.1==c.obj)[q]∈m.pg:=(List.mem_filter.1 (List.getElem_mem _)).1;have hfx:=hfl q;rw[hx] at hfx;generalize (m.pg.filter fun x=>x.2.1==c.obj)[q]=y at hx hlk htq hmem hfx;have hbnd:=hsm.kA y hmem
      have hun:({ m with pg:=mS m.pg ((m.pg.filter fun x=>x.2.1==c.obj).take q)}:Tb.dv).cH y.1=(y.2,0,{ m with pg:=mS m.pg ((m.pg.filter fun x=>x.2.1==c.obj).take (q+1))}):=by
       unfold Tb.dv.cH;rw[if_neg om,hlk,htq,B3]
      have hqlen:(F++(ai.bm c.obj 0 (k.ae.take i)).1++ai.bI i ((m.pg.filter fun x=>x.2.1==c.obj).take q)).length≤1000000000:=by
       unfold ai.bI at hpg1⊢;simp only[List.length_append,List.length_map,List.length_take] at hpg1⊢;omega
      apply hl35;refine aR om ?_;refine h.dZ (s:=s) rfl hfx fun a ha h0 _=>⟨_,h0 _ rfl, ?_⟩
      refine Tb.mP (h.pick (A:=Tb.bf p { m with pg:=mS m.pg ((m.pg.filter fun x=>x.2.1==c.obj).take q)})) fun w h=>?_
      rw[hun] at h⊢;refine h.a fun g w2 h=>?_;refine h.ax rfl rfl fun w h=>?_
      (try dsimp only[putAt,List.set_cons_zero,List.set_cons_succ] at h)
      refine h.aL rfl ?_;refine ka (sp:=(i:Int)) (l:=(y.1,y.2)) hqlen ((h.pick (A:=ah aw fs (F++(ai.bm c.obj 0 (k.ae.take i)).1++ai.bI i ((m.pg.filter fun x=>x.2.1==c.obj).take q)))).pick (A:=aa bd (af bk d ec wv wk fs))) fun fs' w h=>?_
      rw[show IntKind.i64.wrap ((q:Int)+1)=((q+1:Nat):Int) from by
       have:=fO.ER hsm;have:=List.length_filter_le (fun x:Int × Tb.Pg=>x.2.1==c.obj) m.pg;rw[wr om om];omega]
      refine ih2 (q+1) fs' w om ?_
      have e9:F++(ai.bm c.obj 0 (k.ae.take i)).1++ai.bI i ((m.pg.filter fun x=>x.2.1==c.obj).take (q+1))=F++(ai.bm c.obj 0 (k.ae.take i)).1++ai.bI i ((m.pg.filter fun x=>x.2.1==c.obj).take q)++ [⟨(i:Int),y.1,y.2.1,y.2.2⟩]:=by
       rw[htq];unfold ai.bI;rw[List.map_append];simp only[List.append_assoc];rfl
      rw[e9];exact h.sub
    refine inner _ 0 fs w (Nat.zero_add _) ?_;have e1:mS m.pg ((m.pg.filter fun x=>x.2.1==c.obj).take 0)=m.pg:=by rw[List.take_zero,DO]
    have e2:ai.bI i ((m.pg.filter fun x=>x.2.1==c.obj).take 0)= []:=rfl;rw[e1,e2,List.append_nil];exact h.sub
  refine loop k.ae.length 0 fs w1 (Nat.zero_add _) ?_;rw[List.take_zero,List.drop_zero];show Ow B w0 w1 (ah cA ss ps::ar Tb.bf ps ([]++k.ae)::Y::aa cc c.cells::aa bd (af bk d ec wv wk fs)::ah aw fs (F++ [])::R);rw[List.nil_append,List.append_nil];exact h.sub
 rw[if_neg e6] at hK;refine gB (fun e7=>?_) (fun e7=>?_)
 ·rw[if_pos e7] at hK
  obtain ⟨ss,ps,Y,h2,hc2,hpl,hback⟩:=(h.pick (A:=aj bk k)).mf;refine ⟨_,rfl,_,h.aq rfl,_,rfl,ss,hc2, ?_⟩;have h:=h2;clear h2 hc2;intro l53 hl53
  have loop:∀(r i:Nat) (fs:Sl) (w:World),i+r=k.ae.length->Ow B w0 w (ah cA ss ps::ar Tb.bf ps ((ai.cO c.obj 0 (k.ae.take i)).2++k.ae.drop i)::Y::aa cc c.cells::aa bd (af bk d ec wv wk fs)::ah aw fs (F++(ai.cO c.obj 0 (k.ae.take i)).1)::R)->l53 (i:Int) w:=by
   intro r
   induction r with
   |zero=>
    intro i fs w hi h;have hlen:=h.br ss;apply hl53;refine aE om ?_;rw[List.take_of_length_le om,List.drop_of_length_le om,List.append_nil] at h;exact hK fs w (Ow.sub (L:=aj bk { k with ae:=(ai.cO c.obj 0 k.ae).2}::aa cc c.cells::aa bd (af bk d ec wv wk fs)::ah aw fs (F++(ai.cO c.obj 0 k.ae).1)::R) (hback _ w _ h))
   |succ r ih=>
    intro i fs w hi h;have hlen:=h.br ss;have hm:k.ae[i]?=some k.ae[i]:=gE om;have hp:ps[i]?=some ps[i]:=gE om;generalize k.ae[i]=m at hm;generalize ps[i]=p at hp;obtain ⟨g1,g2⟩:=yp (f:=ai.cO c.obj) (mv c.obj) hm;have htk:k.ae.take (i+1)=k.ae.take i++ [m]:=by rw[List.take_add_one,hm];rfl
    have hul:((ai.cO c.obj 0 (k.ae.take i)).2++k.ae.drop i).length=ps.length:=by simp[mv];omega
    have hpg1:=tF c.obj (k.ae.take (i+1)) 0
    have hpg2:jG (k.ae.take (i+1))≤jG k.ae:=by
     have:=rS (k.ae.take (i+1)) (k.ae.drop (i+1));rw[List.take_append_drop] at this;omega
    have hsn:=tG c.obj m (k.ae.take i) 0;rw[htk] at hpg1 hpg2;rw[hsn] at hpg1;rw[Nat.zero_add,List.length_take,Nat.min_eq_left om] at hsn hpg1;simp only[List.length_append] at hpg1;apply hl53;refine aR om ?_;refine gV (s:=ss) h rfl hp fun a ha hc=>⟨_,hc, ?_⟩
    have h:=(h.pick (A:=ar Tb.bf ps ((ai.cO c.obj 0 (k.ae.take i)).2++k.ae.drop i))).zW hp g1;intro l58 hl58
    have places:∀(r j:Nat) (mj:Tb.dv) (G:List dE) (fs:Sl) (w:World),j+r=64->(G++(ai.dt c.obj i r j mj).1=(ai.dt c.obj i 64 0 m).1)->((ai.dt c.obj i r j mj).2=(ai.dt c.obj i 64 0 m).2)->
      Ow B w0 w (Tb.bf p mj::bh ((List.zipWith Tb.bf ps ((ai.cO c.obj 0 (k.ae.take i)).2++k.ae.drop i)).eraseIdx i)::
      ah cA ss ps::Y::aa cc c.cells::aa bd (af bk d ec wv wk fs)::ah aw fs (F++(ai.cO c.obj 0 (k.ae.take i)).1++G)::R)->l58 (j:Int) w:=by
     intro r
     induction r with
     |zero=>
      intro j mj G fs w hj hG hM h;apply hl58;refine aE om ?_;have hM:mj=_:=hM;have hG:G++ []=_:=hG;rw[List.append_nil] at hG;rw[hM,hG] at h;have h:=h.dp om hp;rw[g2] at h;rw[wI i om];refine ih (i+1) fs w om ?_;rw[htk,hsn,←List.append_assoc];exact h.sub
     |succ r ih2=>
      intro j mj G fs w hj hG hM h;apply hl58;refine aR om ?_;refine Tb.De h ?_;intro k64 hk64;rw[rp] at hG hM;rw[wI j om] at hk64
      have no:mj.at (j:Int)≠some c.obj->k64 false w:=fun hn=>by
       rw[if_neg hn] at hG hM;apply hk64;refine bD rfl ?_;exact ih2 (j+1) mj G fs w om hG hM h
      have yes:mj.at (j:Int)=some c.obj->k64 true w:=fun hy=>by
       rw[if_pos hy] at hG hM;apply hk64;refine bN rfl ?_;refine Tb.Bz h fun s w h=>?_
       intro l70 hl70;have hGl:=congrArg List.length hG;simp only[List.length_append] at hGl;have hlines:(ai.bI i (mj.cf (j:Int)).1).length=(mj.cf (j:Int)).1.length:=by unfold ai.bI;rw[List.length_map]
       have inner:∀(r q:Nat) (fs:Sl) (w:World),q+r=(mj.cf (j:Int)).1.length->Ow B w0 w (ah Tb.de s (mj.cf (j:Int)).1::Tb.bf p (mj.cf (j:Int)).2.2::bh ((List.zipWith Tb.bf ps ((ai.cO c.obj 0 (k.ae.take i)).2++k.ae.drop i)).eraseIdx i)::
         ah cA ss ps::Y::aa cc c.cells::aa bd (af bk d ec wv wk fs)::ah aw fs (F++(ai.cO c.obj 0 (k.ae.take i)).1++(G++ai.bI i ((mj.cf (j:Int)).1.take q)))::R)->l70 (q:Int) w:=by
        intro r
        induction r with
        |zero=>
         intro q fs w hq h;have hsl:=h.br s;apply hl70;refine aE om ?_;rw[List.take_of_length_le (l:=(mj.cf (j:Int)).1) om] at h;exact ih2 (j+1) _ (G++ai.bI i (mj.cf (j:Int)).1) fs w om (by rw[List.append_assoc];exact hG) hM h.drop
        |succ r ih3=>
         intro q fs w hq h;have hsl:=h.br s;have hx:(mj.cf (j:Int)).1[q]?=some (mj.cf (j:Int)).1[q]:=gE om;have htq:(mj.cf (j:Int)).1.take (q+1)=(mj.cf (j:Int)).1.take q++ [(mj.cf (j:Int)).1[q]]:=by rw[List.take_add_one,hx];rfl
         generalize (mj.cf (j:Int)).1[q]=y at hx htq
         have hqlen:(F++(ai.cO c.obj 0 (k.ae.take i)).1++(G++ai.bI i ((mj.cf (j:Int)).1.take q))).length≤1000000000:=by
          have e8:(ai.bI i ((mj.cf (j:Int)).1.take q)).length≤(mj.cf (j:Int)).1.length:=by
           unfold ai.bI;rw[List.length_map,List.length_take];omega
          simp only[List.length_append];omega
         apply hl70;refine aR om ?_;refine h.dZ (s:=s) rfl hx fun a ha _ hc1=>Tb.vZ hc1 ?_
         refine h.a fun g w2 h=>?_;refine h.ax rfl rfl fun w h=>?_
         (try dsimp only[putAt,List.set_cons_zero,List.set_cons_succ] at h)
         refine h.rB rfl ?_;refine ka (sp:=(i:Int)) (l:=y) hqlen ((h.pick (A:=ah aw fs (F++(ai.cO c.obj 0 (k.ae.take i)).1++(G++ai.bI i ((mj.cf (j:Int)).1.take q))))).pick (A:=aa bd (af bk d ec wv wk fs))) fun fs' w h=>?_
         rw[wI q om];refine ih3 (q+1) fs' w om ?_
         have e9:F++(ai.cO c.obj 0 (k.ae.take i)).1++(G++ai.bI i ((mj.cf (j:Int)).1.take (q+1)))=F++(ai.cO c.obj 0 (k.ae.take i)).1++(G++ai.bI i ((mj.cf (j:Int)).1.take q))++ [⟨(i:Int),y.1,y.2.1,y.2.2⟩]:=by
          rw[htq];unfold ai.bI;rw[List.map_append];simp only[List.append_assoc];rfl
         rw[e9];exact h.sub
       refine inner _ 0 fs w (Nat.zero_add _) ?_;rw[List.take_zero];show Ow B w0 w (ah Tb.de s (mj.cf (j:Int)).1::Tb.bf p (mj.cf (j:Int)).2.2::bh _::ah cA ss ps::Y::aa cc c.cells::aa bd (af bk d ec wv wk fs)::ah aw fs (F++(ai.cO c.obj 0 (k.ae.take i)).1++(G++ []))::R);rw[List.append_nil];exact h
      cases hat:mj.at (j:Int) with
      |none=>exact bD rfl (no (by rw[hat];simp))
      |some n=>
       refine bN rfl ⟨_,h.ao rfl, ?_⟩;show k64 (n==c.obj) w;by_cases en:n=c.obj
       ·rw[show (n==c.obj)=true from by simpa using en];exact yes (by rw[hat,en])
       ·rw[show (n==c.obj)=false from by simpa using en];exact no (by rw[hat];simpa using en)
    refine places 64 0 m [] fs w (Nat.zero_add _) (List.nil_append _) rfl ?_;rw[List.append_nil];exact h.sub
  refine loop k.ae.length 0 fs w1 (Nat.zero_add _) ?_;rw[List.take_zero,List.drop_zero];show Ow B w0 w1 (ah cA ss ps::ar Tb.bf ps ([]++k.ae)::Y::aa cc c.cells::aa bd (af bk d ec wv wk fs)::ah aw fs (F++ [])::R);rw[List.nil_append,List.append_nil];exact h.sub
 ·rw[if_neg e7,List.append_nil] at hK
  exact hK fs w1 h.drop
end
def iC (H:Sl.Hs):List (Slot × dj):=(List.range 64).filterMap fun i:Nat=>(H (0,(i:Int))).map fun c=>(((0,(i:Int)):Slot),c)
theorem xL {H:Sl.Hs} (h:∀s c,H s=some c->s.1=0/\0≤s.2/\s.2<64):Sl.kR H (iC H):=by
 unfold iC;refine ⟨?_,fun s c=>?_⟩
 ·rw[List.pairwise_filterMap]
  refine List.Pairwise.imp ?_ (List.pairwise_lt_range (n:=64));intro a b hab x hx y hy;rw[Option.map_eq_some_iff] at hx hy;obtain ⟨_,_,rfl⟩:=hx;obtain ⟨_,_,rfl⟩:=hy;unfold Sl.tM;dsimp only;exact decide_eq_true (.inr ⟨rfl,om⟩)
 ·rw[List.mem_filterMap]
  constructor
  ·rintro ⟨i,_,hi⟩
   rw[Option.map_eq_some_iff] at hi;obtain ⟨c',hc,e⟩:=hi;cases e;exact hc
  ·intro hc
   obtain ⟨h1,h2,h3⟩:=h s c hc;refine ⟨s.2.toNat,List.mem_range.2 om, ?_⟩;have e:((0:Int),((s.2.toNat:Nat):Int))=s:=Prod.ext h1.symm (by dsimp only;omega);rw[e,hc];rfl
theorem B9 (H:Sl.Hs):(iC H).length≤64:=by
 unfold iC;exact Nat.le_trans (List.length_filterMap_le _ _) (by simp)
theorem B8 (H:Sl.Hs) (c:dj):(iC H).any (fun y=>ai.rh y.2 c)=(List.range 64).any fun i=>match H (0,(i:Int)) with|some x=>ai.rh x c|none=>false:=by
 unfold iC;rw[List.any_filterMap];congr 1;funext i;cases H (0,(i:Int))<;>rfl
theorem En (l:Tr.Tr):(Tr.gI l).map (·.1)=l.map (·.1):=by unfold Tr.gI;rw[List.map_map];rfl
theorem Fj {T:Tr.Tr} {i:Nat} (hi:i<T.length):(T.take i++(Tr.gI ((T.drop (i+1)).take (Tr.eB T i-(i+1)))++T.drop (Tr.eB T i))).map (·.1)=(T.map (·.1)).eraseIdx i:=by
 obtain ⟨e1,e2⟩:=Tr.vR T hi;have hd:T.drop (Tr.eB T i)=(T.drop (i+1)).drop (Tr.eB T i-(i+1)):=by rw[List.drop_drop];congr 1;omega
 rw[hd,List.map_append,List.map_append,En,←List.map_append,List.take_append_drop,←List.map_append,List.eraseIdx_eq_take_drop_succ];simp[List.map_take,List.map_drop]
section
variable {N:Nat} {k:ai}
theorem aW.taken (h:aW N k) {s:Slot} (hs:(k.H s).isSome=true):aW N (k.taken s):=by
 obtain ⟨i,hi⟩:=py ((h.mem s).2 hs);obtain ⟨x,hx,hxs⟩:=Tr.eo hi;have hlt:=(List.getElem?_eq_some_iff.1 hx).1;have hT:(k.taken s).T=k.T.take i++(Tr.gI ((k.T.drop (i+1)).take (Tr.eB k.T i-(i+1)))++k.T.drop (Tr.eB k.T i)):=by unfold ai.taken Tr.takeN;rw[hi]
 refine { h with
  pv:=h.pv.del s
  held:=fun t c hc=>?_
  tok:=by rw[hT];exact h.tok.take hi
  mem:=fun t=>?_}
 ·have hc:Sl.cW k.H s none t=some c:=hc
  unfold Sl.cW at hc;split at hc
  ·cases hc
  ·exact h.held t c hc
 ·rw[hT,Fj hlt]
  have hgi:(k.T.map (·.1))[i]?=some s:=by rw[List.getElem?_map,hx];exact congrArg some hxs
  rw[Sl.ng h.tok.nd hgi,h.mem];show _↔(Sl.cW k.H s none t).isSome=true;unfold Sl.cW;by_cases e:t=s
  ·simp[e]
  ·rw[if_neg e];simp[e]
theorem aW.dY (h:aW N k) (id:Int):aW N (k.dY id):=by
 have hG:Gr k (k.dY id):=⟨Nat.le_refl _,Nat.le_refl _,Nat.le_refl _,by simp[ai.dY],by simp[ai.dY],Nat.le_refl _,Nat.le_refl _,Nat.le_refl _⟩
 refine h.same (k':=k.dY id) rfl rfl rfl hG h.inv h.ln (fun x hx hx2=>?_) h.u h.Ah h.nu (by simpa [ai.dY] using h.ne) (by simpa [ai.dY] using h.nn) h.ns h.nf h.nt (fun p hp=>?_) (fun p hp=>?_)
 ·have:=h.Db x hx hx2
  simpa [ai.dY] using this
 ·obtain ⟨q,hq,rfl⟩:=List.mem_map.1 hp
  exact Nat.le_trans (List.length_filter_le _ _) (h.el q hq)
 ·obtain ⟨q,hq,rfl⟩:=List.mem_map.1 hp
  exact Nat.le_trans (List.length_filter_le _ _) (h.nl q hq)
theorem aW.ae (h:aW N k) {l:List Tb.dv} (hl:l.length=k.ae.length) (hs:∀m∈l,Tb.fO m):aW N { k with ae:=l}:=
 h.same (k':={ k with ae:=l}) rfl rfl rfl ⟨Nat.le_refl _,Nat.le_refl _,Nat.le_refl _,Nat.le_refl _,Nat.le_refl _,Nat.le_refl _,Nat.le_refl _,by dsimp only;omega⟩ h.inv h.ln h.Db h.u hs h.nu h.ne h.nn (by have:=h.ns;dsimp only;omega) h.nf h.nt h.el h.nl
theorem fO.I6 {m:Tb.dv} (h:Tb.fO m) (f:Int × Tb.Pg->Bool):Tb.fO { m with pg:=m.pg.filter f}:=
 ⟨h.rj.filter f,fun x hx=>h.kA x (List.mem_filter.1 hx).1,h.gT⟩
theorem tE (f:Int):∀(l:List Tb.dv) (i:Nat),(∀m∈l,Tb.fO m)->∀m∈(ai.bm f i l).2,Tb.fO m
 | [],i,_,m,hm=>by simp[ai.bm] at hm
 |a::l,i,h,m,hm=>by
  simp only[ai.bm,List.mem_cons] at hm;rcases hm with rfl|hm
  ·exact fO.I6 (h a List.mem_cons_self) _
  ·exact tE f l (i+1) (fun m hm=>h m (List.mem_cons_of_mem _ hm)) m hm
theorem pN (n:Int) (i:Nat):∀(q j:Nat) (m:Tb.dv),Tb.fO m->Tb.fO (ai.dt n i q j m).2
 |0,j,m,h=>h
 |q+1,j,m,h=>by
  rw[rp];split
  ·exact pN n i q (j+1) _ (h.drop _)
  ·exact pN n i q (j+1) m h
theorem yS (n:Int):∀(l:List Tb.dv) (i:Nat),(∀m∈l,Tb.fO m)->∀m∈(ai.cO n i l).2,Tb.fO m
 | [],i,_,m,hm=>by simp[ai.cO] at hm
 |a::l,i,h,m,hm=>by
  simp only[ai.cO,List.mem_cons] at hm;rcases hm with rfl|hm
  ·exact pN n i 64 0 a (h a List.mem_cons_self)
  ·exact yS n l (i+1) (fun m hm=>h m (List.mem_cons_of_mem _ hm)) m hm
theorem lR (t:Th.Mt) (id:Int):(t.cp id).2.bA.length=t.bA.length:=by
 unfold Th.Mt.cp;split
 ·rfl
 split
 ·rfl
 ·unfold Th.Mt.leave Th.Mt.aX;simp[Th.cD.1]
theorem aW.last (h:aW N k) (c:dj):aW N (k.last c).2/\(k.last c).2.H=k.H/\(k.last c).2.T=k.T/\(k.last c).2.bits=k.bits:=by
 unfold ai.last;split
 ·exact ⟨(h.dY c.obj).cu (h.inv.suspend c.obj) (by rw[lR];exact Nat.le_refl _),rfl,rfl,rfl⟩
 split
 ·exact ⟨h.ae (jc _ _ _) (tE _ _ _ h.Ah),rfl,rfl,rfl⟩
 split
 ·exact ⟨h.ae (mv _ _ _) (yS _ _ _ h.Ah),rfl,rfl,rfl⟩
 ·exact ⟨h,rfl,rfl,rfl⟩
theorem aW.gone (h:aW N k) {s:Slot} (hs:(k.H s).isSome=true):aW N (k.gone s).2/\(k.gone s).2.H=Sl.cW k.H s none/\(k.gone s).2.T=(Tr.takeN k.T s).2:=by
 have ht:=h.taken hs;unfold ai.gone;split
 ·exact ⟨ht,rfl,rfl⟩
 ·obtain ⟨h1,h2,h3,_⟩:=ht.last ((k.H s).getD Sl.ay)
  exact ⟨h1,h2,h3⟩
end
theorem sG {N:Nat}:∀(l:List Slot) (k:ai),aW N k->l.Nodup->(∀s∈l,(k.H s).isSome=true)->aW N (ai.cg l k).2/\(∀s,(ai.cg l k).2.H s=if s∈l then none else k.H s)
 | [],k,h,_,_=>⟨h,fun s=>by simp[ai.cg]⟩
 |a::l,k,h,hn,hs=>by
  obtain ⟨h1,h2,h3⟩:=h.gone (hs a List.mem_cons_self);rw[List.nodup_cons] at hn
  have hl:∀s∈l,((k.gone a).2.H s).isSome=true:=fun s hm=>by
   rw[h2];unfold Sl.cW;rw[if_neg (fun e:s=a=>hn.1 (e▸hm))];exact hs s (List.mem_cons_of_mem _ hm)
  obtain ⟨g1,g2⟩:=sG l _ h1 hn.2 hl;refine ⟨g1,fun s=>?_⟩;show (ai.cg l (k.gone a).2).2.H s=_;rw[g2,h2];unfold Sl.cW;by_cases e:s∈l
  ·rw[if_pos e,if_pos (List.mem_cons_of_mem _ e)]
  ·rw[if_neg e]
   by_cases e2:s=a
   ·rw[if_pos e2,if_pos (by rw[e2];exact List.mem_cons_self)]
   ·rw[if_neg e2,if_neg (by simp[e,e2])]
theorem sH:∀(l:List Slot) (k:ai),(ai.cg l k).1.length+jG (ai.cg l k).2.ae=jG k.ae
 | [],k=>by simp[ai.cg]
 |a::l,k=>by
  have h1:=AH k a;have h2:=sH l (k.gone a).2;simp only[ai.cg,List.length_append];omega
section
variable {B:Nat} {w0 w:World} {R L:List aA} {bd bk:Nat} {k:ai} {d:kQ} {ec wv wk:Int} {fs:Sl} {N:Nat}
theorem zA {y:Slot × dj} {c:dj} {sb:Nat} {K:Bool->Pw} (h:Ow B w0 w L) (i:Nat) (hi:L[i]?=some (aa sb c.cells))
  (hK:∀w',Ow B w0 w' L->K (ai.rh y.2 c) w'):C.qbd y.1.1 y.1.2 y.2.kind y.2.obj y.2.au y.2.aB y.2.guard y.2.bits ⟨sb,0,none⟩ K w:=by
 apply S.qbd0;refine h.a fun c0 w1 h=>?_;refine eM (h.aV rfl ?_);refine h.rC (i+1) (by simpa using hi) rfl ?_;exact pE h fun w h=>hK w h.drop
theorem uL {s:Slot} {F:List dE} {K:Pw} (hk:aW N k) (hN:N≤200000) (hs:(k.H s).isSome=true) (hF:F.length+jG k.ae≤1000000000)
  (h:Ow B w0 w (aa bd (af bk d ec wv wk fs)::ah aw fs F::aj bk k::R))
  (hK:∀fs' w',Ow B w0 w' (aa bd (af bk d ec wv wk fs')::ah aw fs' (F++(k.gone s).1)::aj bk (k.gone s).2::R)->K w'):C.qaz (some ⟨bd,0,none⟩) s.1 s.2 K w:=by
 apply S.qaz0;have hkt:=hk.taken hs;obtain ⟨c,hc⟩:=Option.isSome_iff_exists.1 hs;unfold ai.gone at hK;rw[hc] at hK;have hth:Sl.bC k.bits s=true:=lS hk.b0 (hk.held s c hc).1;refine h.a fun c0 w1 h=>?_;obtain ⟨x,h⟩:=(h.pick (A:=aj bk k)).uP;refine h.dr fun w h=>?_
 refine ⟨_,rfl,_,h.aq rfl,_,rfl,_,h.ao rfl, ?_⟩;refine h.aL rfl ⟨?_,trivial⟩;refine Tr.tA (s:=s) (h.pick (A:=Tr.bB x.tr k.T)) fun w h=>?_
 intro k14 hk14
 have fin:∀(sb:Nat) (w:World),Ow B w0 w (aa sb c.cells::aa bd (af bk d ec wv wk fs)::ah aw fs F::aj bk (k.taken s)::R)->k14 ⟨sb,0,none⟩ w:=fun sb w h=>by
  apply hk14;have hF2:F.length+jG (k.taken s).ae≤1000000000:=hF;generalize k.taken s=kt at hkt hK hF2 h⊢;obtain ⟨x,h⟩:=(h.pick (A:=aj bk kt)).uP;refine ⟨_,rfl,_,h.aq rfl,_,rfl,_,h.aq rfl, ?_⟩;refine Sl.gd (h.pick (A:=Sl.av x.n kt.bits kt.H)) fun s2 hs2 w hih h=>?_
  have e2:hs2=iC kt.H:=hih.uniq (xL fun t c hc=>(hkt.held t c hc).1);subst e2;have h:Ow B w0 w (aj bk kt::ah Sl.gZ s2 (iC kt.H)::aa sb c.cells::aa bd (af bk d ec wv wk fs)::ah aw fs F::R):=Ow.bE x h.sub;refine nG (s:=s2) (p:=fun y=>ai.rh y.2 c) h (Nat.le_trans (B9 _) (by decide)) (fun y w Q h hQ=>?_) fun w h=>?_
  ·refine aP ?_
   show C.qbd y.1.1 y.1.2 y.2.kind y.2.obj y.2.au y.2.aB y.2.guard y.2.bits ⟨sb,0,none⟩ Q w;exact zA (c:=c) h 2 rfl hQ
  ·have e3:((iC kt.H).any fun y=>ai.rh y.2 c)=kt.more c:=B8 _ _
   rw[e3];cases hm:kt.more c with
   |true=>
    refine bD rfl ?_;rw[Option.getD_some,if_pos hm] at hK;refine hK fs w ?_;show Ow B w0 w (aa bd (af bk d ec wv wk fs)::ah aw fs (F++ [])::aj bk kt::R);rw[List.append_nil];exact h.sub
   |false=>
    refine bN rfl ?_;rw[Option.getD_some,if_neg (by rw[hm];decide)] at hK;refine h.aV rfl ?_;refine Ci (c:=c) (F:=F) ⟨Nat.le_trans hkt.ne hN,Nat.le_trans hkt.nn hN,Nat.le_trans hkt.ns hN⟩ hkt.inv.ok hkt.Ah hF2 (show Ow B w0 w (aa bd (af bk d ec wv wk fs)::ah aw fs F::aj bk kt::R) from h.sub) fun fs' w h=>?_
    exact hK fs' w h
 refine h.dr fun w h=>?_
 refine ⟨_,rfl,_,h.aq rfl,_,rfl,_,h.aq rfl, ?_⟩;refine h.aL rfl ⟨?_, ?_,trivial⟩
 ·refine Sl.gi (s:=s) (h.pick (A:=Sl.av x.n k.bits k.H)) (fun e=>by rw[hth] at e;cases e) (fun _ e=>by rw[hc] at e;cases e) fun _ c2 hc2 w h=>?_
  rw[hc] at hc2;cases hc2;refine ⟨?_,trivial⟩;refine h.al fun w' h=>⟨?_,trivial⟩
  generalize w.heap.size=sb at h⊢;refine h.ax rfl rfl fun w h=>?_
  (try dsimp only[putAt,List.set_cons_zero,List.set_cons_succ] at h)
  exact fin sb w ((show Ow B w0 w (aj bk (k.taken s)::aa sb c.cells::aa bd (af bk d ec wv wk fs)::ah aw fs F::R) from Ow.bE x h.sub).sub)
 ·refine h.al fun w' h=>⟨?_,trivial⟩
  generalize w.heap.size=sb at h⊢;refine Sl.gi (s:=s) (h.pick (A:=Sl.av x.n k.bits k.H)) (fun e=>by rw[hth] at e;cases e) (fun _ e=>by rw[hc] at e;cases e) fun _ c2 hc2 w h=>?_
  rw[hc] at hc2;cases hc2;refine ⟨?_,trivial⟩;refine h.ax rfl rfl fun w h=>?_
  (try dsimp only[putAt,List.set_cons_zero,List.set_cons_succ] at h)
  exact fin sb w ((show Ow B w0 w (aj bk (k.taken s)::aa sb c.cells::aa bd (af bk d ec wv wk fs)::ah aw fs F::R) from Ow.bE x h.sub).sub)
theorem xB {K:Int->Pw} (hk:aW N k) (hN:N≤200000) (hs:(k.H d.s).isSome=true)
  (h:Ow B w0 w (aa bd (af bk d ec wv wk fs)::ah aw fs []::aj bk k::R))
  (h1:d.call.at_=0->∀w',Ow B w0 w' (aa bd (af bk d ec wv wk fs)::ah aw fs []::aj bk k::R)->K 181 w')
  (h2:d.call.at_≠0->∀fs' w',Ow B w0 w' (aa bd (af bk d ec wv wk fs')::ah aw fs' (k.gone d.s).1::aj bk (k.gone d.s).2::R)->K 0 w'):C.qaZ (some ⟨bd,0,none⟩) K w:=by
 apply S.qaZ0;have hp:=zS k.ae hk.Ah;have hn:=hk.ns;refine ⟨_,rfl,_,aU (h.ao rfl), ?_⟩;refine gB (fun e=>h1 e w h) (fun e=>?_);refine ⟨_,rfl, ?_⟩;refine eM (h.aL rfl ?_);refine uL hk hN hs (by simp only[List.length_nil];omega) h fun fs' w h=>?_
 exact h2 e fs' w h
end
section
variable {m:Th.Mt}
theorem fK {n:Int} {t:Th.uw}:(m.aX n t).bA.length=m.bA.length:=by unfold Th.Mt.aX;simp
theorem ke {n:Int}:(m.cE n).bA.length=m.bA.length:=by unfold Th.Mt.cE Th.Mt.iT;exact fK
theorem ig {n s:Int}:(m.leave n s).bA.length=m.bA.length:=by unfold Th.Mt.leave;rw[fK,Th.cD.1]
theorem yD {n v:Int}:(m.fX n v).bA.length=m.bA.length:=rfl
theorem ij {c:Int}:(m.bK c).bA.length=m.bA.length:=by
 unfold Th.Mt.bK Th.Mt.pick;split
 ·split
  ·rfl
  ·split
   ·rw[yD,ig]
   ·split
    ·rfl
    ·rw[yD,ig,ke,ig]
 ·rfl
theorem gK {n:Int}:(m.cI n).2.bA.length=m.bA.length:=by
 unfold Th.Mt.cI;split
 ·rfl
 split
 ·rfl
 ·exact ke
theorem sy {n:Int}:(m.jW n).2.bA.length=m.bA.length:=by
 unfold Th.Mt.jW;split
 ·rfl
 split
 ·rfl
 ·exact ig
theorem vb {n p:Int}:(m.iL n p).2.bA.length=m.bA.length:=by
 unfold Th.Mt.iL;split
 ·rfl
 split
 ·rfl
 split
 ·rw[ke,fK,ig]
 ·exact fK
theorem jJ {n i v:Int}:(m.rF n i v).2.bA.length=m.bA.length:=by
 unfold Th.Mt.rF;split
 ·rfl
 split
 ·rfl
 ·unfold Th.Mt.z6;exact fK
theorem pR {c:Int}:(m.yield c).bA.length=m.bA.length:=by
 unfold Th.Mt.yield;split
 ·rfl
 ·rw[ij,ke,ig,fK]
theorem yN {c:Int}:(m.tick c).bA.length=m.bA.length:=by
 unfold Th.Mt.tick;split
 ·rfl
 ·dsimp only
  split
  ·rw[pR,fK]
  ·rw[fK]
end
section
variable {B:Nat} {w0 w:World} {R L:List aA} {bd bk:Nat} {k:ai} {d:kQ} {ec wv wk:Int} {fs:Sl} {N:Nat}
theorem ky {id:Int} {K:Int->Pw} (hm:Th.bW k.t) (h:Ow B w0 w (aa bd (af bk d ec wv (-1) fs)::aj bk k::R))
  (hK:∀w',Ow B w0 w' (aa bd (af bk d ec wv (k.gj id).2.1 fs)::aj bk (k.gj id).2.2::R)->K (k.gj id).1 w'):C.qap (some ⟨bd,0,none⟩) id K w:=by
 apply S.qap0;unfold ai.gj at hK;dsimp only at hK;obtain ⟨bt,Y,h,hc2,hback⟩:=(h.pick (A:=aj bk k)).oW;refine ⟨_,rfl,_,h.aq rfl,_,rfl,_,hc2, ?_⟩;refine Th.tg hm h fun w h=>?_
 have h:=hback _ w _ gK h;refine gB (fun e=>?_) (fun e=>?_)
 ·rw[if_pos e] at hK
  refine ⟨_,rfl, ?_⟩;refine oN ?_;refine h.cC rfl rfl fun w h=>?_
  (dsimp only[bp,af,putAt,List.set_cons_zero,List.set_cons_succ,Nat.zero_add] at h)
  exact hK w h.sub
 ·rw[if_neg e] at hK
  exact hK w h.sub
theorem wN {K:Int->Pw} (hk:aW N k) (hN:N≤200000) (h:Ow B w0 w (aa bd (af bk d ec wv wk fs)::aj bk k::R))
  (hK:∀w',Ow B w0 w' (aa bd (af bk d ec wv wk fs)::aj bk ((k.dY d.c.obj).cu (k.t.cp d.c.obj).2)::R)->K (k.t.cp d.c.obj).1 w'):C.qaP (some ⟨bd,0,none⟩) K w:=by
 apply S.qaP0;refine h.dr fun w h=>?_
 refine ⟨_,rfl,_,h.aq rfl,_,rfl,_,aU (h.ao rfl), ?_,trivial⟩;refine mV (id:=d.c.obj) h.dz ⟨Nat.le_trans hk.ne hN,Nat.le_trans hk.nn hN⟩ fun w h=>?_
 refine h.dr fun w h=>?_
 obtain ⟨bt,Y,h,hc2,hback⟩:=h.oW;refine ⟨_,rfl,_,h.aq rfl,_,rfl,_,hc2,_,rfl,_,aU (h.ao rfl), ?_,trivial⟩;refine Th.vk hk.inv.ok h fun w h=>?_
 have h:Ow B w0 w (aj bk ((k.dY d.c.obj).cu (k.t.cp d.c.obj).2)::_):=hback _ w _ (lR _ _) h;exact hK w h.sub
theorem CF {K:Int->Pw} (hm:Th.bW k.t) (h:Ow B w0 w (aa bd (af bk d ec wv wk fs)::aj bk k::R))
  (hK:∀w',Ow B w0 w' (aa bd (af bk d ec wv wk fs)::aj bk (k.cu (k.t.iL d.c.obj d.call.a).2)::R)->K (k.t.iL d.c.obj d.call.a).1 w'):C.qbI (some ⟨bd,0,none⟩) K w:=by
 apply S.qbI0;refine h.dr fun w h=>?_
 obtain ⟨bt,Y,h,hc2,hback⟩:=(h.pick (A:=aj bk k)).oW;refine ⟨_,rfl,_,h.aq rfl,_,rfl,_,hc2,_,rfl,_,aU (h.ao rfl),_,rfl,_,aU (h.ao rfl), ?_,trivial⟩;refine Th.HJ hm h fun w h=>?_
 have h:=hback _ w _ vb h;exact hK w h.sub
theorem yu {K:Int->Pw} (hk:aW N k) (hN:N≤200000) (h:Ow B w0 w (aa bd (af bk d ec wv (-1) fs)::aj bk k::R))
  (hK:∀w',Ow B w0 w' (aa bd (af bk d ec wv (k.resume d).2.1 fs)::aj bk (k.resume d).2.2::R)->K (k.resume d).1 w'):C.qba (some ⟨bd,0,none⟩) K w:=by
 apply S.qba0;unfold ai.resume at hK;intro k2 hk2
 have fin:∀(sb:Nat) (t:Th.uw) (w:World),t=(if k.t.cT d.c.obj then k.t.th d.c.obj else Th.H8)->Ow B w0 w (aa sb (Th.oC.enc t)::aa bd (af bk d ec wv (-1) fs)::aj bk k::R)->k2 ⟨sb,0,none⟩ w:=fun sb t w ht h=>by
  apply hk2;refine ⟨_,h.aq rfl, ?_⟩
  have hst:(k.t.cT d.c.obj=true/\(k.t.th d.c.obj).st=3)↔t.st=3:=by
   rw[ht];cases hT:k.t.cT d.c.obj with
   |true=>simp
   |false=>
    have:Th.H8.st≠3:=by decide
    simp[this]
  intro k6 hk6;refine gB (fun e=>?_) (fun e=>?_)
  ·rw[if_pos (hst.2 e)] at hK
   refine h.dr fun w h=>?_
   refine ⟨_,rfl,_,h.aq rfl,_,rfl,_,aU (h.ao rfl), ?_,trivial⟩;refine mV (id:=d.c.obj) h.nC ⟨Nat.le_trans hk.ne hN,Nat.le_trans hk.nn hN⟩ fun w h=>?_
   apply hk6;refine ⟨_,rfl,_,aU (h.ao rfl), ?_⟩;exact ky (k:=k.dY d.c.obj) hk.inv.ok (Ow.sub (L':=aa bd (af bk d ec wv (-1) fs)::aj bk (k.dY d.c.obj)::R) h) fun w h=>hK w h
  ·rw[if_neg (fun hh=>e (hst.1 hh))] at hK
   apply hk6;refine ⟨_,rfl,_,aU (h.ao rfl), ?_⟩;exact ky hk.inv.ok h.drop fun w h=>hK w h
 refine h.dr fun w h=>?_
 obtain ⟨bt,Y,h,hc2,hback⟩:=(h.pick (A:=aj bk k)).oW;have hsame:k.cu k.t=k:=rfl;refine ⟨_,rfl,_,h.aq rfl,_,rfl,_,hc2,_,rfl,_,aU (h.ao rfl), ?_, ?_,trivial⟩
 ·refine Th.oD h fun w t ht h=>?_
  have h:=hback _ w _ rfl h;rw[hsame] at h;refine ⟨?_,trivial⟩;refine h.al fun w' h=>⟨?_,trivial⟩
  generalize w.heap.size=sb at h⊢;refine h.ax rfl rfl fun w h=>?_
  (try dsimp only[putAt,List.set_cons_zero,List.set_cons_succ] at h)
  have h:Ow B w0 w (aa sb (Th.oC.enc t)::_):=h;exact fin sb t w ht h.sub
 ·refine h.al fun w' h=>⟨?_,trivial⟩
  generalize w.heap.size=sb at h⊢;refine Th.oD h.dz fun w t ht h=>?_
  have h:=hback _ w _ rfl (h.pick (A:=Y)).dz;rw[hsame] at h;refine ⟨?_,trivial⟩;refine h.ax rfl rfl fun w h=>?_
  (try dsimp only[putAt,List.set_cons_zero,List.set_cons_succ] at h)
  have h:Ow B w0 w (aj bk k::aa sb (Th.oC.enc t)::_):=h;exact fin sb t w ht h.sub
theorem pD {K:Pw} (hk:aW N k) (h:Ow B w0 w (aa bd (af bk d ec wv wk fs)::aj bk k::R))
  (hK:∀w',Ow B w0 w' (aa bd (af bk d ec wv wk fs)::aj bk (k.rest d)::R)->K w'):C.qaA (some ⟨bd,0,none⟩) K w:=by
 apply S.qaA0;unfold ai.rest at hK;refine ⟨_,rfl,_,aU (h.ao rfl), ?_⟩;refine y8 (fun e=>?_) (fun e=>?_)
 ·rw[if_pos e] at hK
  refine h.dr fun w h=>?_
  obtain ⟨bt,Y,h,hc2,hback⟩:=(h.pick (A:=aj bk k)).oW;refine ⟨_,rfl,_,h.aq rfl,_,rfl,_,hc2,_,rfl,_,h.ao rfl, ?_,trivial⟩;refine Th.F2 hk.inv.ok h fun w h=>?_
  have h:=hback _ w _ sy h;refine h.dr fun w h=>?_
  obtain ⟨bt,Y,h,hc2,hback⟩:=h.oW;refine ⟨_,rfl,_,h.aq rfl,_,rfl,_,hc2,_,rfl,_,h.ao rfl, ?_,trivial⟩;refine Th.gD (hk.inv.block _).ok h fun w h=>?_
  have h:=hback _ w _ ij h;exact hK w (Ow.sub (L:=aj bk (k.cu ((k.t.jW d.cur).2.bK d.core))::aa bd (af bk d ec wv wk fs)::R) h)
 ·rw[if_neg (fun hh=>hh e)] at hK
  exact hK w h
theorem uK {id:Int} {m:FE} {K:Pw} (hk:aW N k) (h:Ow B w0 w (aa bd (af bk d ec wv wk fs)::aj bk k::R))
  (hK:∀w',Ow B w0 w' (aa bd (af bk d ec wv wk fs)::aj bk (k.mz id m)::R)->K w'):C.qbg (some ⟨bd,0,none⟩) id m.label m.w0 m.w1 m.w2 m.w3 m.aB m.calls K w:=by
 apply S.qbg0;unfold ai.mz at hK;refine h.a fun c0 w1 h=>?_;refine ⟨_,h.ao rfl,_,h.aq rfl,by decide,by decide,_,aU (h.ao rfl), ?_⟩;refine h.a fun g w2 h=>?_;intro l15 hl15
 have one:∀(i:Nat) (kk:ai) (v:Int) (w:World),i<3->Th.bH (-1) kk.t->[m.aB,IntKind.u64.wrap m.label,m.w0][i]?=some v->Ow B w0 w (aa g [.y m.aB, .y (IntKind.u64.wrap m.label), .y m.w0]::aa bd (af bk d ec wv wk fs)::aj bk kk::R)->
   (∀w',Ow B w0 w' (aa g [.y m.aB, .y (IntKind.u64.wrap m.label), .y m.w0]::aa bd (af bk d ec wv wk fs)::aj bk (kk.cu (kk.t.rF id (i:Int) v).2)::R)->l15 ((i+1:Nat):Int) w')->l15 (i:Int) w:=fun i kk v w hi hm hv h hnext=>by
  apply hl15;refine aR om ?_;obtain ⟨bt,Y,h,hc2,hback⟩:=(h.pick (A:=aj bk kk)).oW
  have hcell:w.cell? ((Addr.mk g 0 none).add ((i:Int).toNat*1))=some (.y v):=by
   refine h.ao ?_;have:i=0∨i=1∨i=2:=by omega
   rcases this with rfl|rfl|rfl<;>(simp at hv;subst hv;rfl)
  refine ⟨_,rfl,om,om,_,hcell,_,rfl,_,h.aq rfl,_,rfl,_,hc2, ?_⟩;refine Th.Ha hm.ok h fun w h=>?_
  have h:=hback _ w _ jJ h;rw[wI i om];exact hnext w h.sub
 refine one 0 k m.aB w2 (by decide) hk.inv rfl h.yy fun w h=>?_
 refine one 1 _ _ w (by decide) (hk.inv.z6 _ _ _) rfl h fun w h=>?_
 refine one 2 _ _ w (by decide) ((hk.inv.z6 _ _ _).z6 _ _ _) rfl h fun w h=>?_
 apply hl15;refine aE (by decide) ?_;exact hK w h.drop
end
section
variable {B:Nat} {w0 w:World} {R L:List aA} {bd bk:Nat} {k:ai} {d:kQ} {ec wv wk:Int} {fs:Sl} {N:Nat}
theorem aW.iR (hk:aW N k) {n:Int} (h0:0≤n) (h1:n<(k.ends.length:Int)):k.ends[n.toNat]?=some (k.iR n)/\(k.iR n).l.length≤N:=by
 have hx:k.ends[n.toNat]?=some k.ends[n.toNat]:=gE om;unfold ai.iR;rw[hx];exact ⟨rfl,hk.el _ (List.getElem_mem _)⟩
theorem aW.oK (hk:aW N k) {n:Int} (h0:0≤n) (h1:n<(k.notes.length:Int)):k.notes[n.toNat]?=some (k.oK n)/\(k.oK n).l.length≤N:=by
 have hx:k.notes[n.toNat]?=some k.notes[n.toNat]:=gE om;unfold ai.oK;rw[hx];exact ⟨rfl,hk.nl _ (List.getElem_mem _)⟩
theorem aW.iM (hk:aW N k) {n:Int} (h0:0≤n) (h1:n<(k.ae.length:Int)):k.ae[n.toNat]?=some (k.iM n)/\Tb.fO (k.iM n):=by
 have hx:k.ae[n.toNat]?=some k.ae[n.toNat]:=gE om;unfold ai.iM;rw[hx];exact ⟨rfl,hk.Ah _ (List.getElem_mem _)⟩
theorem xG (p:kI) (t:Bool):(p.first t).2.l.length≤p.l.length:=by
 unfold kI.first
 split
 ·exact Nat.le_refl _
 ·rename_i o r e
  split
  ·dsimp only;rw[e];simp
  ·exact Nat.le_refl _
theorem Bf (p:kI) (n:Int) (m:FE) (wt:Bool):(p.send n m wt).2.2.l.length≤p.l.length+1:=by
 have:=xG p false;unfold kI.send;split
 ·exact Nat.le_succ _
 split
 ·rename_i h;rw[h] at this;dsimp only at this⊢;omega
 ·split
  ·simp
  ·exact Nat.le_succ _
theorem Ba (p:kI) (n:Int) (wt:Bool):(p.recv n wt).2.2.l.length≤p.l.length+1:=by
 have:=xG p true;unfold kI.recv;split
 ·exact Nat.le_succ _
 split
 ·rename_i h;rw[h] at this;dsimp only at this⊢;omega
 ·split
  ·simp
  ·exact Nat.le_succ _
theorem aW.fM (hk:aW N k) {n:Int} {p:kI} (hp:p.l.length≤N+1):aW (N+1) (k.fM n p):=by
 have hM:=hk.mono (Nat.le_succ N);have hG:Gr k (k.fM n p):=⟨Nat.le_refl _,Nat.le_refl _,Nat.le_refl _,by simp[ai.fM],Nat.le_refl _,Nat.le_refl _,Nat.le_refl _,Nat.le_refl _⟩
 refine hM.same (k':=k.fM n p) rfl rfl rfl hG hk.inv hk.ln hk.Db hk.u hk.Ah hM.nu (by simpa [ai.fM] using hM.ne) hM.nn hM.ns hM.nf hM.nt (fun q hq=>?_) hM.nl;rcases List.mem_or_eq_of_mem_set hq with hq|hq
 ·exact hM.el q hq
 ·rw[hq];exact hp
theorem aW.lO (hk:aW N k) {n:Int} {p:rK} (hp:p.l.length≤N+1):aW (N+1) (k.lO n p):=by
 have hM:=hk.mono (Nat.le_succ N);have hG:Gr k (k.lO n p):=⟨Nat.le_refl _,Nat.le_refl _,Nat.le_refl _,Nat.le_refl _,by simp[ai.lO],Nat.le_refl _,Nat.le_refl _,Nat.le_refl _⟩
 refine hM.same (k':=k.lO n p) rfl rfl rfl hG hk.inv hk.ln (fun x hx hx2=>by have:=hk.Db x hx hx2;simpa [ai.lO] using this) hk.u hk.Ah hM.nu hM.ne (by simpa [ai.lO] using hM.nn) hM.ns hM.nf hM.nt hM.el (fun q hq=>?_);rcases List.mem_or_eq_of_mem_set hq with hq|hq
 ·exact hM.nl q hq
 ·rw[hq];exact hp
theorem aW.mz (hk:aW N k) {id:Int} {m:FE}:aW N (k.mz id m):=
 hk.cu (((hk.inv.z6 _ _ _).z6 _ _ _).z6 _ _ _) (by rw[jJ,jJ,jJ];exact Nat.le_refl _)
theorem aW.rest (hk:aW N k):aW N (k.rest d):=by
 unfold ai.rest;split
 ·exact hk.cu ((hk.inv.block _).bK _) (by rw[ij,sy];exact Nat.le_refl _)
 ·exact hk
theorem aW.gj (hk:aW N k) (id:Int):aW N (k.gj id).2.2:=hk.cu (hk.inv.resume id) (by rw[gK];exact Nat.le_refl _)
abbrev IB (x:Met):List Value:=[.bool x.is, .z x.eS, .z x.to, .z x.m.label, .y x.m.w0, .y x.m.w1, .y x.m.w2, .y x.m.w3, .y x.m.aB, .bool x.m.calls]
theorem CO {K:Int->Pw} (hk:aW N k) (hN:N≤200000) (h0:0≤d.c.obj) (h1:d.c.obj<(k.ends.length:Int)) (h:Ow B w0 w (aa bd (af bk d ec 0 (-1) fs)::aj bk k::R))
  (hK:∀w',Ow B w0 w' (aa bd (af bk d ec 0 (k.send d).1.dg fs)::aj bk (k.send d).2::R)->K (k.send d).1.e w'):C.qbJ (some ⟨bd,0,none⟩) K w:=by
 apply S.qbJ0;obtain ⟨hp,hpl⟩:=hk.iR h0 h1;have hse:=Bf (k.iR d.c.obj) d.cur (ai.fz d) (d.call.c !=0);have hkE:=hk.fM (n:=d.c.obj) (p:=((k.iR d.c.obj).send d.cur (ai.fz d) (d.call.c !=0)).2.2) om;unfold ai.send at hK;refine h.dr fun w h=>?_
 refine ⟨_,rfl,_,aU (h.ao rfl),_,rfl,_,aU (h.ao rfl),_,rfl,_,aU (h.ao rfl), ?_,trivial⟩;refine h.al fun w1 h=>⟨?_,trivial⟩
 generalize w.heap.size=cm at h⊢;refine h.ax rfl rfl fun w h=>?_
 (try dsimp only[putAt,List.set_cons_zero,List.set_cons_succ] at h)
 intro k11 hk11
 have fin:∀(sb:Nat) (x:Met) (w:World),x=((k.iR d.c.obj).send d.cur (ai.fz d) (d.call.c !=0)).1->Ow B w0 w (aa sb (IB x)::aa bd (af bk d ec 0 (-1) fs)::aj bk (k.fM d.c.obj ((k.iR d.c.obj).send d.cur (ai.fz d) (d.call.c !=0)).2.2)::R)->k11 ⟨sb,0,none⟩ ((k.iR d.c.obj).send d.cur (ai.fz d) (d.call.c !=0)).2.1 w:=fun sb x w hx h=>by
  apply hk11;generalize (k.iR d.c.obj).send d.cur (ai.fz d) (d.call.c !=0)=P at hx h hK hkE⊢;obtain ⟨y,e,p'⟩:=P;dsimp only at hx h hK hkE⊢;subst hx;by_cases he:e≠0
  ·rw[if_pos he] at hK
   exact lj he (hK w h.drop)
  rw[if_neg he] at hK;refine fP om ⟨_,h.aq rfl, ?_⟩;cases hi:x.is with
  |false=>
   rw[if_pos hi] at hK;refine bN rfl ?_;refine pD hkE h.drop fun w h=>?_
   exact hK w h
  |true=>
   rw[if_neg (by rw[hi];decide)] at hK;refine bD rfl ⟨_,h.ao rfl, ?_⟩;refine eM (h.Gk rfl ?_);refine uK (id:=x.to) (m:=x.m) hkE ((h.pick (A:=aj bk (k.fM d.c.obj p'))).pick (A:=aa bd (af bk d ec 0 (-1) fs))) fun w h=>?_
   refine ⟨_,h.ao rfl, ?_⟩;have hK2:∀w',Ow B w0 w' (aa bd (af bk d ec 0 (((k.fM d.c.obj p').mz x.to x.m).gj x.to).2.1 fs)::aj bk (((k.fM d.c.obj p').mz x.to x.m).gj x.to).2.2::R)->K (((k.fM d.c.obj p').mz x.to x.m).gj x.to).1 w':=hK;refine ky hkE.mz.inv.ok h fun w h=>?_
   exact hK2 w h.sub
 refine h.dr fun w h=>?_
 obtain ⟨ss,ps,Y,h,hc2,hpn,hback⟩:=(h.pick (A:=aj bk k)).G5;have hq:ps[d.c.obj.toNat]?=some ps[d.c.obj.toNat]:=gE om;generalize ps[d.c.obj.toNat]=pp at hq;refine ⟨_,rfl,_,h.aq rfl,_,rfl,ss,hc2,_,rfl,_,aU (h.ao rfl), ?_⟩;refine gV (s:=ss) (i:=d.c.obj) (j:=d.c.obj.toNat) h om hq fun a ha hc=>⟨_,hc, ?_⟩
 refine ⟨_,rfl,_,h.ao rfl, ?_⟩;refine h.Gk rfl ?_;refine ⟨_,rfl,_,aU (h.ao rfl), ?_, ?_,trivial⟩
 ·have h:=(h.pick (A:=ar cd ps k.ends)).zW hq hp
  refine iy (m:=ai.fz d) om h fun w x hx h=>?_
  have h:=(h.dp hpn hq).dz;have h:Ow B w0 w (aj bk (k.fM d.c.obj ((k.iR d.c.obj).send d.cur (ai.fz d) (d.call.c !=0)).2.2)::_):=hback _ w _ h;refine ⟨?_,trivial⟩;refine h.al fun w' h=>⟨?_,trivial⟩
  generalize w.heap.size=sb at h⊢;refine h.ax rfl rfl fun w h=>?_
  (try dsimp only[putAt,List.set_cons_zero,List.set_cons_succ] at h)
  exact fin sb x w hx h.sub
 ·refine h.al fun w' h=>⟨?_,trivial⟩
  generalize w.heap.size=sb at h⊢;have h:=(h.pick (A:=ar cd ps k.ends)).zW hq hp;refine iy (m:=ai.fz d) om h fun w x hx h=>?_
  have h:=(h.dp hpn hq)
  have h:Ow B w0 w (aj bk (k.fM d.c.obj ((k.iR d.c.obj).send d.cur (ai.fz d) (d.call.c !=0)).2.2)::_):=hback _ w _ (h.pick (A:=Y)).dz.vr;refine ⟨?_,trivial⟩;refine h.ax rfl rfl fun w h=>?_
  (try dsimp only[putAt,List.set_cons_zero,List.set_cons_succ] at h)
  exact fin sb x w hx h.sub
theorem CK {K:Int->Pw} (hk:aW N k) (hN:N≤200000) (h0:0≤d.c.obj) (h1:d.c.obj<(k.ends.length:Int)) (h:Ow B w0 w (aa bd (af bk d ec 0 (-1) fs)::aj bk k::R))
  (hK:∀w',Ow B w0 w' (aa bd (af bk d ec 0 (k.recv d).1.dg fs)::aj bk (k.recv d).2::R)->K (k.recv d).1.e w'):C.qbK (some ⟨bd,0,none⟩) K w:=by
 apply S.qbK0;obtain ⟨hp,hpl⟩:=hk.iR h0 h1;have hse:=Ba (k.iR d.c.obj) d.cur (d.call.c !=0);have hkE:=hk.fM (n:=d.c.obj) (p:=((k.iR d.c.obj).recv d.cur (d.call.c !=0)).2.2) om;unfold ai.recv at hK;intro k11 hk11
 have fin:∀(sb:Nat) (x:Met) (w:World),x=((k.iR d.c.obj).recv d.cur (d.call.c !=0)).1->Ow B w0 w (aa sb (IB x)::aa bd (af bk d ec 0 (-1) fs)::aj bk (k.fM d.c.obj ((k.iR d.c.obj).recv d.cur (d.call.c !=0)).2.2)::R)->k11 ⟨sb,0,none⟩ ((k.iR d.c.obj).recv d.cur (d.call.c !=0)).2.1 w:=fun sb x w hx h=>by
  apply hk11;generalize (k.iR d.c.obj).recv d.cur (d.call.c !=0)=P at hx h hK hkE⊢;obtain ⟨y,e,p'⟩:=P;dsimp only at hx h hK hkE⊢;subst hx;by_cases he:e≠0
  ·rw[if_pos he] at hK
   exact lj he (hK w h.drop)
  rw[if_neg he] at hK;refine fP om ⟨_,h.aq rfl, ?_⟩;cases hi:x.is with
  |false=>
   rw[if_pos hi] at hK;refine bN rfl ?_;refine pD hkE h.drop fun w h=>?_
   exact hK w h
  |true=>
   rw[if_neg (by rw[hi];decide)] at hK;refine bD rfl ?_;refine h.dr fun w h=>?_
   refine ⟨_,rfl,_,h.ao rfl, ?_⟩;refine eM (h.Gk rfl ⟨?_,trivial⟩);refine uK (id:=d.cur) (m:=x.m) hkE ((h.pick (A:=aj bk (k.fM d.c.obj p'))).pick (A:=aa bd (af bk d ec 0 (-1) fs))) fun w h=>?_
   refine ⟨_,h.ao rfl, ?_⟩;have hK2:∀w',Ow B w0 w' (aa bd (af bk d ec 0 (((k.fM d.c.obj p').mz d.cur x.m).gj x.eS).2.1 fs)::aj bk (((k.fM d.c.obj p').mz d.cur x.m).gj x.eS).2.2::R)->K (((k.fM d.c.obj p').mz d.cur x.m).gj x.eS).1 w':=hK;refine ky hkE.mz.inv.ok h fun w h=>?_
   exact hK2 w h.sub
 refine h.dr fun w h=>?_
 obtain ⟨ss,ps,Y,h,hc2,hpn,hback⟩:=(h.pick (A:=aj bk k)).G5;have hq:ps[d.c.obj.toNat]?=some ps[d.c.obj.toNat]:=gE om;generalize ps[d.c.obj.toNat]=pp at hq;refine ⟨_,rfl,_,h.aq rfl,_,rfl,ss,hc2,_,rfl,_,aU (h.ao rfl), ?_⟩;refine gV (s:=ss) (i:=d.c.obj) (j:=d.c.obj.toNat) h om hq fun a ha hc=>⟨_,hc, ?_⟩
 refine ⟨_,rfl,_,h.ao rfl,_,rfl,_,aU (h.ao rfl), ?_, ?_,trivial⟩
 ·have h:=(h.pick (A:=ar cd ps k.ends)).zW hq hp
  refine iw om h fun w x hx h=>?_
  have h:=(h.dp hpn hq).dz;have h:Ow B w0 w (aj bk (k.fM d.c.obj ((k.iR d.c.obj).recv d.cur (d.call.c !=0)).2.2)::_):=hback _ w _ h;refine ⟨?_,trivial⟩;refine h.al fun w' h=>⟨?_,trivial⟩
  generalize w.heap.size=sb at h⊢;refine h.ax rfl rfl fun w h=>?_
  (try dsimp only[putAt,List.set_cons_zero,List.set_cons_succ] at h)
  exact fin sb x w hx h.sub
 ·refine h.al fun w' h=>⟨?_,trivial⟩
  generalize w.heap.size=sb at h⊢;have h:=(h.pick (A:=ar cd ps k.ends)).zW hq hp;refine iw om h fun w x hx h=>?_
  have h:=(h.dp hpn hq)
  have h:Ow B w0 w (aj bk (k.fM d.c.obj ((k.iR d.c.obj).recv d.cur (d.call.c !=0)).2.2)::_):=hback _ w _ (h.pick (A:=Y)).dz.vr;refine ⟨?_,trivial⟩;refine h.ax rfl rfl fun w h=>?_
  (try dsimp only[putAt,List.set_cons_zero,List.set_cons_succ] at h)
  exact fin sb x w hx h.sub
theorem CT (n:rK) (g:Int):(n.bS g).2.l.length≤n.l.length:=by
 unfold rK.bS;split
 ·rename_i x r e;dsimp only;rw[e];simp
 ·rename_i e;dsimp only;rw[e];simp
theorem Bn (n:rK) (js:Int) (wt:Bool):(n.wait js wt).2.l.length≤n.l.length+1:=by
 unfold rK.wait;split
 ·exact Nat.le_succ _
 split
 ·exact Nat.le_succ _
 ·dsimp only
  split
  ·simp
  ·exact Nat.le_succ _
theorem lP {n g:Int} {K:Int->Pw} (hk:aW N k) (hN:N≤200000) (h0:0≤n) (h1:n<(k.notes.length:Int)) (h:Ow B w0 w (aj bk k::R))
  (hK:∀w',Ow B w0 w' (aj bk (k.bS n g).2::R)->K (k.bS n g).1 w'):C.qX (some ⟨bk,0,none⟩) n g K w:=by
 apply S.qX0;obtain ⟨hp,hpl⟩:=hk.oK h0 h1;unfold ai.bS at hK;obtain ⟨ss,ps,Y,h,hc2,hpn,hback⟩:=h.Ee;have hq:ps[n.toNat]?=some ps[n.toNat]:=gE om;generalize ps[n.toNat]=pp at hq;refine ⟨_,rfl,ss,hc2, ?_⟩;refine gV (s:=ss) (i:=n) (j:=n.toNat) h om hq fun a ha hc=>⟨_,hc, ?_⟩
 have h:=(h.pick (A:=ar bG ps k.notes)).zW hq hp;refine nm h fun w h=>?_
 have h:=(h.dp hpn hq).dz;have h:Ow B w0 w (aj bk (k.lO n ((k.oK n).bS g).2)::R):=hback _ w _ h;cases hs:((k.oK n).bS g).1 with
 |none=>
  rw[hs] at hK;exact bN rfl (hK w h)
 |some js=>
  rw[hs] at hK;refine bD rfl ?_;obtain ⟨bt,Y,h,hc2,hback⟩:=h.oW;refine ⟨_,rfl,_,hc2, ?_⟩;refine Th.Ha hk.inv.ok h fun w h=>?_
  have h:=hback _ w _ jJ h;obtain ⟨bt,Y,h,hc2,hback⟩:=h.oW;refine ⟨_,rfl,_,hc2, ?_⟩;refine Th.tg (hk.inv.z6 _ _ _).ok h fun w h=>?_
  have h:=hback _ w _ gK h;exact hK w h
theorem tm {K:Int->Pw} (hk:aW N k) (hN:N≤200000) (h0:0≤d.c.obj) (h1:d.c.obj<(k.notes.length:Int)) (h:Ow B w0 w (aa bd (af bk d ec wv wk fs)::aj bk k::R))
  (hK:∀w',Ow B w0 w' (aa bd (af bk d ec wv (k.bS d.c.obj d.c.aB).1 fs)::aj bk (k.bS d.c.obj d.c.aB).2::R)->K 0 w'):C.qan (some ⟨bd,0,none⟩) K w:=by
 apply S.qan0;refine h.dr fun w h=>?_
 refine ⟨_,rfl,_,h.aq rfl,_,rfl,_,aU (h.ao rfl),_,rfl,_,aU (h.ao rfl), ?_,trivial⟩;refine lP hk hN h0 h1 h.dz fun w h=>?_
 refine ⟨_,rfl, ?_,trivial⟩;refine oN ?_;refine h.cC rfl rfl fun w h=>?_
 (dsimp only[bp,af,putAt,List.set_cons_zero,List.set_cons_succ,Nat.zero_add] at h)
 exact hK w h.sub
theorem C5 {K:Int->Pw} (hk:aW N k) (hN:N≤200000) (h0:0≤d.c.obj) (h1:d.c.obj<(k.notes.length:Int)) (h:Ow B w0 w (aa bd (af bk d ec 0 wk fs)::aj bk k::R))
  (hK:∀w',Ow B w0 w' (aa bd (af bk d ec (k.wait d).1.w wk fs)::aj bk (k.wait d).2::R)->K (k.wait d).1.e w'):C.qbL (some ⟨bd,0,none⟩) K w:=by
 apply S.qbL0;obtain ⟨hp,hpl⟩:=hk.oK h0 h1;have hwl:=Bn (k.oK d.c.obj) d.cur (d.call.c !=0);have hkN:=hk.lO (n:=d.c.obj) (p:=((k.oK d.c.obj).wait d.cur (d.call.c !=0)).2) om;unfold ai.wait at hK;refine h.dr fun w h=>?_
 obtain ⟨ss,ps,Y,h,hc2,hpn,hback⟩:=(h.pick (A:=aj bk k)).Ee;have hq:ps[d.c.obj.toNat]?=some ps[d.c.obj.toNat]:=gE om;generalize ps[d.c.obj.toNat]=pp at hq;refine ⟨_,rfl,_,h.aq rfl,_,rfl,ss,hc2,_,rfl,_,aU (h.ao rfl), ?_⟩;refine gV (s:=ss) (i:=d.c.obj) (j:=d.c.obj.toNat) h om hq fun a ha hc=>⟨_,hc, ?_⟩
 refine ⟨_,rfl,_,h.ao rfl,_,rfl,_,aU (h.ao rfl), ?_,trivial⟩;have h:=(h.pick (A:=ar bG ps k.notes)).zW hq hp;refine pw om h fun w h=>?_
 have h:=(h.dp hpn hq).dz;have h:Ow B w0 w (aj bk (k.lO d.c.obj ((k.oK d.c.obj).wait d.cur (d.call.c !=0)).2)::aa bd (af bk d ec 0 wk fs)::R):=hback _ w _ h;generalize (k.oK d.c.obj).wait d.cur (d.call.c !=0)=P at h hK hkN⊢;obtain ⟨⟨y,is,e⟩,p'⟩:=P;dsimp only at h hK hkN⊢;by_cases he:e≠0
 ·rw[if_pos he] at hK
  exact lj he (hK w h.dz)
 rw[if_neg he] at hK;refine fP om ?_;intro k19 hk19
 have fin:∀(k':ai) (w:World),(∀w',Ow B w0 w' (aa bd (af bk d ec y wk fs)::aj bk k'::R)->K 0 w')->Ow B w0 w (aa bd (af bk d ec 0 wk fs)::aj bk k'::R)->k19 w:=fun k' w hK h=>by
  apply hk19;refine ⟨_,rfl, ?_⟩;refine oN ?_;refine h.cC rfl rfl fun w h=>?_
  (dsimp only[bp,af,putAt,List.set_cons_zero,List.set_cons_succ,Nat.zero_add] at h)
  exact hK w h
 cases is with
 |false=>
  refine bN rfl ?_;refine pD hkN h.dz fun w h=>?_
  exact fin _ w (fun w' h=>hK w' h) h
 |true=>
  refine bD rfl ?_;exact fin _ w (fun w' h=>hK w' h) h.dz
end
section
variable {B:Nat} {w0 w:World} {R L:List aA} {bd bk:Nat} {k:ai} {d:kQ} {ec wv wk:Int} {fs:Sl} {N:Nat}
theorem Am {K:Int->Pw} (hk:aW N k) (h:Ow B w0 w (aa bd (af bk d ec wv wk fs)::aj bk k::R))
  (hK:∀w',Ow B w0 w' (aa bd (af bk d ec wv wk fs)::aj bk (k.table d).2::R)->K (k.table d).1.e w'):C.qbp (some ⟨bd,0,none⟩) K w:=by
 apply S.qbp0;unfold ai.table at hK;intro k2 hk2
 have fbad:k.dB d.call.ak 8=false->∀(sb:Addr) (w:World),Ow B w0 w (aa bd (af bk d ec wv wk fs)::aj bk k::R)->k2 sb false w:=fun hB sb w h=>by
  rw[if_pos hB] at hK;apply hk2;exact bN rfl (hK w h)
 have fgood:k.dB d.call.ak 8=true->∀(sb:Nat) (c:dj) (w:World),c=k.bM d.call.ak->Ow B w0 w (aa sb [.z c.kind, .z c.obj, .z c.au, .y c.aB, .y c.guard, .z c.bits]::aa bd (af bk d ec wv wk fs)::aj bk k::R)->k2 ⟨sb,0,none⟩ true w:=fun hB sb c w hc h=>by
  rw[if_neg (by rw[hB];decide)] at hK;dsimp only[ai.tell] at hK;obtain ⟨hb1,hb2⟩:=jA hB;obtain ⟨_,_,ho,_,_⟩:=hk.cap hb1;rw[←hc] at ho hb2 hK;have o0:=ho.1;have o1:=ho.2.2.2.2.2.2.2.2.1 (hb2 (by decide));obtain ⟨hp,hsk⟩:=hk.iM o0 o1;apply hk2;refine bD rfl ?_;refine h.dr fun w h=>?_
  obtain ⟨ss,ps,Y,h,hc2,hpn,hback⟩:=(h.pick (A:=aj bk k)).mf;have hq:ps[c.obj.toNat]?=some ps[c.obj.toNat]:=gE om;generalize ps[c.obj.toNat]=pp at hq;refine ⟨_,rfl,_,h.aq rfl,_,rfl,ss,hc2,_,h.ao rfl, ?_⟩;refine gV (s:=ss) (i:=c.obj) (j:=c.obj.toNat) h om hq fun a ha hcc=>⟨_,hcc, ?_⟩
  refine ⟨_,rfl,_,aU (h.ao rfl),_,rfl,_,aU (h.ao rfl), ?_,trivial⟩;have h:=(h.pick (A:=ar Tb.bf ps k.ae)).zW hq hp;refine Tb.zg h fun w h=>?_
  have h:=(h.dp hpn hq).dz;have h:Ow B w0 w (aj bk (k.jk c.obj ((k.iM c.obj).jn d.call.a d.c.obj).2)::_):=hback _ w _ h;exact hK w h.sub
 refine h.dr fun w h=>?_
 refine ⟨_,rfl,_,h.aq rfl,_,rfl,_,aU (h.ao rfl), ?_⟩
 (repeat' (first|exact trivial|(exact fbad (by assumption) _ _ h.sub)|(exact fgood (by assumption) _ _ _ (by assumption) h.sub)|(refine mc hk (h.pick (A:=aj bk k)) (fun hB s c w h=>?_) (fun hB w c hc h=>?_))|(refine h.al fun w h=>?_)|(refine h.dr fun w h=>?_)|(refine h.aL rfl ?_)|(refine h.aV rfl ?_)|(refine ⟨_,h.aq rfl, ?_⟩)|(refine ⟨_,h.ao rfl, ?_⟩)|(refine h.hd rfl ?_)|(refine ⟨h.aq rfl, ?_⟩)|(refine ⟨h.ao rfl, ?_⟩)|((refine h.ax rfl rfl fun w h=>?_);(try dsimp only[putAt,List.set_cons_zero,List.set_cons_succ] at h))|(refine eC ?_)|(refine _root_.Go.Vc.a2 ?_)|(refine h.dy rfl rfl fun w h=>?_)|(refine h.cC rfl rfl fun w h=>?_)|(refine And.intro ?_ ?_)))
theorem yd {K:Int->Pw} (hk:aW N k) (h:Ow B w0 w (aa bd (af bk d ec wv wk fs)::aj bk k::R))
  (hK:∀w',Ow B w0 w' (aa bd (af bk d ec wv wk fs)::aj bk (k.mapped d).2::R)->K (k.mapped d).1.e w'):C.qbb (some ⟨bd,0,none⟩) K w:=by
 apply S.qbb0;unfold ai.mapped at hK;intro k2 hk2
 have fbad:k.dB d.call.ak 8=false->∀(sb:Addr) (w:World),Ow B w0 w (aa bd (af bk d ec wv wk fs)::aj bk k::R)->k2 sb false w:=fun hB sb w h=>by
  rw[if_pos hB] at hK;apply hk2;exact bN rfl (hK w h)
 have fgood:k.dB d.call.ak 8=true->∀(sb:Nat) (c:dj) (w:World),c=k.bM d.call.ak->Ow B w0 w (aa sb [.z c.kind, .z c.obj, .z c.au, .y c.aB, .y c.guard, .z c.bits]::aa bd (af bk d ec wv wk fs)::aj bk k::R)->k2 ⟨sb,0,none⟩ true w:=fun hB sb c w hc h=>by
  rw[if_neg (by rw[hB];decide)] at hK;dsimp only[ai.tell] at hK;obtain ⟨hb1,hb2⟩:=jA hB;obtain ⟨_,_,ho,_,_⟩:=hk.cap hb1;rw[←hc] at ho hb2 hK;have o0:=ho.1;have o1:=ho.2.2.2.2.2.2.2.2.1 (hb2 (by decide));obtain ⟨hp,hsk⟩:=hk.iM o0 o1;apply hk2;refine bD rfl ?_;refine h.dr fun w h=>?_
  obtain ⟨ss,ps,Y,h,hc2,hpn,hback⟩:=(h.pick (A:=aj bk k)).mf;have hq:ps[c.obj.toNat]?=some ps[c.obj.toNat]:=gE om;generalize ps[c.obj.toNat]=pp at hq;refine ⟨_,rfl,_,h.aq rfl,_,rfl,ss,hc2,_,h.ao rfl, ?_⟩;refine gV (s:=ss) (i:=c.obj) (j:=c.obj.toNat) h om hq fun a ha hcc=>⟨_,hcc, ?_⟩
  have h:=(h.pick (A:=ar Tb.bf ps k.ae)).zW hq hp
  have fin:∀w,Ow B w0 w (Tb.bf pp ((k.iM c.obj).pf d.call.a (d.c.obj,dw .i64 d.c.au d.call.b)).2::bh ((List.zipWith Tb.bf ps k.ae).eraseIdx c.obj.toNat)::ah cA ss ps::Y::aa bd (af bk d ec wv wk fs)::R)->K ((k.iM c.obj).pf d.call.a (d.c.obj,dw .i64 d.c.au d.call.b)).1 w:=fun w h=>by
   have h:=(h.dp hpn hq).dz;have h:Ow B w0 w (aj bk (k.jk c.obj ((k.iM c.obj).pf d.call.a (d.c.obj,dw .i64 d.c.au d.call.b)).2)::_):=hback _ w _ h;exact hK w h.sub
  have go:∀w,Ow B w0 w (Tb.bf pp (k.iM c.obj)::bh ((List.zipWith Tb.bf ps k.ae).eraseIdx c.obj.toNat)::ah cA ss ps::Y::aa bd (af bk d ec wv wk fs)::R)->C.qbz (some ⟨pp,0,none⟩) d.call.a d.c.obj (dw .i64 d.c.au d.call.b) (fun r w=>K r w) w:=fun w h=>Tb.Dh (p:=(d.c.obj,dw .i64 d.c.au d.call.b)) h fun w h=>fin w h
  have rd:∀{w:World},Ow B w0 w (aa bd (af bk d ec wv wk fs)::R)->True:=fun _=>trivial
  refine ⟨_,rfl,_,aU (h.ao rfl),_,rfl,_,aU (h.ao rfl),_,rfl,_,aU (h.ao rfl),_,rfl,_,aU (h.ao rfl), ?_⟩
  (repeat' (first|exact trivial|(exact go _ h.sub)|(refine h.al fun w h=>?_)|(refine h.dr fun w h=>?_)|(refine h.aL rfl ?_)|(refine h.aV rfl ?_)|(refine ⟨_,h.aq rfl, ?_⟩)|(refine ⟨_,h.ao rfl, ?_⟩)|(refine h.hd rfl ?_)|(refine ⟨h.aq rfl, ?_⟩)|(refine ⟨h.ao rfl, ?_⟩)|((refine h.ax rfl rfl fun w h=>?_);(try dsimp only[putAt,List.set_cons_zero,List.set_cons_succ] at h))|(refine eC ?_)|(refine _root_.Go.Vc.a2 ?_)|(refine h.dy rfl rfl fun w h=>?_)|(refine h.cC rfl rfl fun w h=>?_)|(refine And.intro ?_ ?_)))
 refine h.dr fun w h=>?_
 refine ⟨_,rfl,_,h.aq rfl,_,rfl,_,aU (h.ao rfl), ?_⟩
 (repeat' (first|exact trivial|(exact fbad (by assumption) _ _ h.sub)|(exact fgood (by assumption) _ _ _ (by assumption) h.sub)|(refine mc hk (h.pick (A:=aj bk k)) (fun hB s c w h=>?_) (fun hB w c hc h=>?_))|(refine h.al fun w h=>?_)|(refine h.dr fun w h=>?_)|(refine h.aL rfl ?_)|(refine h.aV rfl ?_)|(refine ⟨_,h.aq rfl, ?_⟩)|(refine ⟨_,h.ao rfl, ?_⟩)|(refine h.hd rfl ?_)|(refine ⟨h.aq rfl, ?_⟩)|(refine ⟨h.ao rfl, ?_⟩)|((refine h.ax rfl rfl fun w h=>?_);(try dsimp only[putAt,List.set_cons_zero,List.set_cons_succ] at h))|(refine eC ?_)|(refine _root_.Go.Vc.a2 ?_)|(refine h.dy rfl rfl fun w h=>?_)|(refine h.cC rfl rfl fun w h=>?_)|(refine And.intro ?_ ?_)))
theorem BY {K:Int->Pw} (hk:aW N k) (h:Ow B w0 w (aa bd (af bk d ec wv wk fs)::aj bk k::R))
  (hK:∀w',Ow B w0 w' (aa bd (af bk d ec wv wk fs)::aj bk (k.bind d).2::R)->K (k.bind d).1.e w'):C.qbM (some ⟨bd,0,none⟩) K w:=by
 apply S.qbM0;unfold ai.bind at hK;intro k2 hk2
 have fbad:k.dB d.call.ak 5=false->∀(sb:Addr) (w:World),Ow B w0 w (aa bd (af bk d ec wv wk fs)::aj bk k::R)->k2 sb false w:=fun hB sb w h=>by
  rw[if_pos hB] at hK;apply hk2;exact bN rfl (hK w h)
 have fgood:k.dB d.call.ak 5=true->∀(sb:Nat) (c:dj) (w:World),c=k.bM d.call.ak->Ow B w0 w (aa sb [.z c.kind, .z c.obj, .z c.au, .y c.aB, .y c.guard, .z c.bits]::aa bd (af bk d ec wv wk fs)::aj bk k::R)->k2 ⟨sb,0,none⟩ true w:=fun hB sb c w hc h=>by
  rw[if_neg (by rw[hB];decide)] at hK;dsimp only[ai.tell] at hK;rw[←hc] at hK;apply hk2;refine bD rfl ?_;refine h.dr fun w h=>?_
  obtain ⟨bl,Y,h,hc2,hback⟩:=(h.pick (A:=aj bk k)).zF;refine ⟨_,rfl,_,h.aq rfl,_,rfl,_,hc2,_,rfl,_,aU (h.ao rfl),_,h.ao rfl,_,h.ao rfl, ?_,trivial⟩;refine uh h fun w h=>?_
  have h:=hback _ w _ h;exact hK w (Ow.sub (L:=aj bk { k with ln:=(sx k.ln d.c.obj c.obj c.aB).2}::aa sb [.z c.kind, .z c.obj, .z c.au, .y c.aB, .y c.guard, .z c.bits]::aa bd (af bk d ec wv wk fs)::R) h)
 refine h.dr fun w h=>?_
 refine ⟨_,rfl,_,h.aq rfl,_,rfl,_,aU (h.ao rfl), ?_⟩
 (repeat' (first|exact trivial|(exact fbad (by assumption) _ _ h.sub)|(exact fgood (by assumption) _ _ _ (by assumption) h.sub)|(refine mc hk (h.pick (A:=aj bk k)) (fun hB s c w h=>?_) (fun hB w c hc h=>?_))|(refine h.al fun w h=>?_)|(refine h.dr fun w h=>?_)|(refine h.aL rfl ?_)|(refine h.aV rfl ?_)|(refine ⟨_,h.aq rfl, ?_⟩)|(refine ⟨_,h.ao rfl, ?_⟩)|(refine h.hd rfl ?_)|(refine ⟨h.aq rfl, ?_⟩)|(refine ⟨h.ao rfl, ?_⟩)|((refine h.ax rfl rfl fun w h=>?_);(try dsimp only[putAt,List.set_cons_zero,List.set_cons_succ] at h))|(refine eC ?_)|(refine _root_.Go.Vc.a2 ?_)|(refine h.dy rfl rfl fun w h=>?_)|(refine h.cC rfl rfl fun w h=>?_)|(refine And.intro ?_ ?_)))
theorem Ao {K:Int->Pw} (hk:aW N k) (h0:0≤d.c.obj) (h1:d.c.obj<(k.ae.length:Int)) (h:Ow B w0 w (aa bd (af bk d ec wv wk fs)::ah aw fs []::aj bk k::R))
  (hK:∀fs' w',Ow B w0 w' (aa bd (af bk d ec wv wk fs')::ah aw fs' (k.mL d).1.forget::aj bk (k.mL d).2::R)->K (k.mL d).1.e w'):C.qbq (some ⟨bd,0,none⟩) K w:=by
 apply S.qbq0;unfold ai.mL at hK;obtain ⟨hp,hsk⟩:=hk.iM h0 h1;intro k2 hk2
 have fin:∀(sb:Nat) (w:World),Ow B w0 w (aa sb [.z ((k.iM d.c.obj).cH d.call.a).1.1, .z ((k.iM d.c.obj).cH d.call.a).1.2]::aa bd (af bk d ec wv wk fs)::ah aw fs []::aj bk (k.jk d.c.obj ((k.iM d.c.obj).cH d.call.a).2.2)::R)->k2 ⟨sb,0,none⟩ ((k.iM d.c.obj).cH d.call.a).2.1 w:=fun sb w h=>by
  apply hk2;dsimp only at hK;refine gB (fun e=>?_) (fun e=>?_)
  ·rw[if_pos e] at hK
   refine h.dr fun w h=>?_
   refine ⟨_,rfl,_,aU (h.ao rfl),_,rfl,_,aU (h.ao rfl), ?_⟩;refine h.aL rfl ⟨?_,trivial⟩;refine ka (sp:=d.c.obj) (l:=(d.call.a,((k.iM d.c.obj).cH d.call.a).1)) (F:=[]) (by simp) ((h.pick (A:=ah aw fs [])).pick (A:=aa bd (af bk d ec wv wk fs))) fun fs' w h=>?_
   exact hK fs' w (Ow.sub (L:=aa bd (af bk d ec wv wk fs')::ah aw fs' [⟨d.c.obj,d.call.a,((k.iM d.c.obj).cH d.call.a).1.1,((k.iM d.c.obj).cH d.call.a).1.2⟩]::aa sb [.z ((k.iM d.c.obj).cH d.call.a).1.1, .z ((k.iM d.c.obj).cH d.call.a).1.2]::aj bk (k.jk d.c.obj ((k.iM d.c.obj).cH d.call.a).2.2)::R) h)
  ·rw[if_neg e] at hK
   exact hK fs w h.drop
 refine h.dr fun w h=>?_
 obtain ⟨ss,ps,Y,h,hc2,hpn,hback⟩:=(h.pick (A:=aj bk k)).mf;have hq:ps[d.c.obj.toNat]?=some ps[d.c.obj.toNat]:=gE om;generalize ps[d.c.obj.toNat]=pp at hq;refine ⟨_,rfl,_,h.aq rfl,_,rfl,ss,hc2,_,rfl,_,aU (h.ao rfl), ?_⟩;refine gV (s:=ss) (i:=d.c.obj) (j:=d.c.obj.toNat) h om hq fun a ha hcc=>⟨_,hcc, ?_⟩
 refine ⟨_,rfl,_,aU (h.ao rfl), ?_, ?_,trivial⟩
 ·have h:=(h.pick (A:=ar Tb.bf ps k.ae)).zW hq hp
  refine Tb.mP h fun w h=>?_
  have h:=(h.dp hpn hq).dz;have h:Ow B w0 w (aj bk (k.jk d.c.obj ((k.iM d.c.obj).cH d.call.a).2.2)::_):=hback _ w _ h;refine ⟨?_,trivial⟩;refine h.al fun w' h=>⟨?_,trivial⟩
  generalize w.heap.size=sb at h⊢;refine h.ax rfl rfl fun w h=>?_
  (try dsimp only[putAt,List.set_cons_zero,List.set_cons_succ] at h)
  exact fin sb w h.sub
 ·refine h.al fun w' h=>⟨?_,trivial⟩
  generalize w.heap.size=sb at h⊢;have h:=(h.pick (A:=ar Tb.bf ps k.ae)).zW hq hp;refine Tb.mP h fun w h=>?_
  have h:=(h.dp hpn hq)
  have h:Ow B w0 w (aj bk (k.jk d.c.obj ((k.iM d.c.obj).cH d.call.a).2.2)::_):=hback _ w _ (h.pick (A:=Y)).dz.vr;refine ⟨?_,trivial⟩;refine h.ax rfl rfl fun w h=>?_
  (try dsimp only[putAt,List.set_cons_zero,List.set_cons_succ] at h)
  exact fin sb w h.sub
theorem aW.zH (hk:aW N k) {n:Int} {x:Ln} (hx:lD k.ln n=some x):x∈k.ln:=List.mem_of_getElem? (Ep hx).2
theorem te (hk:aW N k) {n:Int} {y:Int × Int} (h:(gW k.ln n).1.1=some y):0≤y.1/\y.1<(k.notes.length:Int):=by
 unfold gW at h;cases hx:lD k.ln n with
 |none=>rw[hx] at h;cases h
 |some x=>
  rw[hx] at h;dsimp only at h;split at h
  ·rename_i e
   cases h;exact hk.Db x (hk.zH hx) om
  ·split at h<;>cases h
theorem xj (hk:aW N k) {n:Int} {y:Int × Int} (h:(kS k.ln n).1.1=some y):0≤y.1/\y.1<(k.notes.length:Int):=by
 unfold kS at h;cases hx:lD k.ln n with
 |none=>rw[hx] at h;cases h
 |some x=>
  rw[hx] at h;dsimp only at h;split at h
  ·rename_i e
   cases h;exact hk.Db x (hk.zH hx) om
  ·split at h<;>cases h
theorem aW.JD (hk:aW N k) {l:xe} (hl:l.length=8) (hb:∀x∈l,x.is≠0->0≤x.note/\x.note<(k.notes.length:Int)):aW N { k with ln:=l}:=
 hk.same (k':={ k with ln:=l}) rfl rfl rfl ⟨Nat.le_refl _,Nat.le_refl _,Nat.le_refl _,Nat.le_refl _,Nat.le_refl _,Nat.le_refl _,Nat.le_refl _,Nat.le_refl _⟩ hk.inv hl hb hk.u hk.Ah hk.nu hk.ne hk.nn hk.ns hk.nf hk.nt hk.el hk.nl
theorem aW.AU (hk:aW N k) {n:Int} {x:Ln} (hx:lD k.ln n=some x) (v:Int) (h0:x.is≠0):aW N { k with ln:=k.ln.set n.toNat { x with is:=v}}:=
 hk.JD (by rw[List.length_set];exact hk.ln) fun y hy hy2=>by
  rcases List.mem_or_eq_of_mem_set hy with hy|hy
  ·exact hk.Db y hy hy2
  ·rw[hy];exact hk.Db x (hk.zH hx) h0
theorem aW.raise (hk:aW N k) {n:Int}:aW N { k with ln:=(gW k.ln n).2}:=by
 unfold gW;cases hx:lD k.ln n with
 |none=>exact hk
 |some x=>
  dsimp only;split
  ·exact hk.AU hx 2 om
  split
  ·exact hk.AU hx 3 om
  ·exact hk
theorem aW.Jw (hk:aW N k) {n:Int}:aW N { k with ln:=(kS k.ln n).2}:=by
 unfold kS;cases hx:lD k.ln n with
 |none=>exact hk
 |some x=>
  dsimp only;split
  ·exact hk.AU hx 2 om
  split
  ·exact hk.AU hx 1 om
  ·exact hk
theorem aW.bS (hk:aW N k) {n g:Int} (h0:0≤n) (h1:n<(k.notes.length:Int)):aW (N+1) (k.bS n g).2:=by
 obtain ⟨hp,hpl⟩:=hk.oK h0 h1;have hs:=CT (k.oK n) g;have hN:=hk.lO (n:=n) (p:=((k.oK n).bS g).2) om;unfold ai.bS;split
 ·exact hN
 ·exact hN.cu ((hk.inv.z6 _ _ _).resume _) (by rw[gK,jJ];exact Nat.le_refl _)
theorem Dp {K:Int->Pw} (hk:aW N k) (hN:N≤200000) (h:Ow B w0 w (aa bd (af bk d ec wv (-1) fs)::aj bk k::R))
  (hK:∀w',Ow B w0 w' (aa bd (af bk d ec wv (k.hI (kS k.ln d.c.obj)).2.1 fs)::aj bk (k.hI (kS k.ln d.c.obj)).2.2::R)->K (k.hI (kS k.ln d.c.obj)).1 w'):C.qca (some ⟨bd,0,none⟩) K w:=by
 apply S.qca0;have hka:=hk.Jw (n:=d.c.obj);have hno:=fun y=>xj (y:=y) hk (n:=d.c.obj)
 unfold ai.hI at hK;refine h.dr fun w h=>?_
 obtain ⟨bl,Y,h,hc2,hback⟩:=(h.pick (A:=aj bk k)).zF;refine ⟨_,rfl,_,h.aq rfl,_,rfl,_,hc2,_,rfl,_,aU (h.ao rfl), ?_,trivial⟩;refine vX h fun w h=>?_
 have h:=hback _ w _ h;generalize kS k.ln d.c.obj=P at h hK hka hno⊢;obtain ⟨⟨o,e⟩,l⟩:=P;cases o with
 |none=>exact bD rfl (hK w h.dz)
 |some y=>
  obtain ⟨n0,n1⟩:=hno y rfl;refine bN rfl ⟨_,rfl,_,h.aq rfl, ?_⟩;refine lP (n:=y.1) (g:=y.2) hka hN n0 n1 h fun w h=>?_
  refine ⟨_,rfl, ?_⟩;refine oN ?_;refine h.cC rfl rfl fun w h=>?_
  (dsimp only[bp,af,putAt,List.set_cons_zero,List.set_cons_succ,Nat.zero_add] at h)
  exact hK w h.dz
theorem Ea {line:Int} {K:Int->Int->Pw} (hk:aW N k) (hN:N≤200000) (h:Ow B w0 w (aj bk k::R))
  (hK:∀w',Ow B w0 w' (aj bk (k.irq line).2.2::R)->K (k.irq line).2.1 (k.irq line).1 w'):C.qbE (some ⟨bk,0,none⟩) line K w:=by
 apply S.qbE0;have hka:=hk.raise (n:=line);have hno:=fun y=>te (y:=y) hk (n:=line)
 unfold ai.irq ai.hI at hK;obtain ⟨bl,Y,h,hc2,hback⟩:=h.zF;refine ⟨_,rfl,_,hc2, ?_⟩;refine sJ h fun w h=>?_
 have h:=hback _ w _ h;generalize gW k.ln line=P at h hK hka hno⊢;obtain ⟨⟨o,e⟩,l⟩:=P;cases o with
 |none=>exact bN rfl (hK w h)
 |some y=>
  obtain ⟨n0,n1⟩:=hno y rfl;refine bD rfl ?_;exact lP (n:=y.1) (g:=y.2) hka hN n0 n1 h fun w h=>hK w h
end
def dL (k:Nat) (o:Obj):aA where
 holds G w:=G k/\w.heap[k]?=some o
 loc G w w' h hk:=⟨h.1,by rw[hk k h.1];exact h.2⟩
 up G G' w h hk:=⟨hk k h.1,h.2⟩
section
variable {B:Nat} {w0 w:World} {R L:List aA}
theorem _root_.Go.Vc.Ow.obj {k:Nat} {o:Obj} (h:Ow B w0 w (dL k o::R)):w.heap[k]?=some o:=h.head fun _ h=>h.2
theorem _root_.Go.Vc.Ow.putObj {k:Nat} {o:Obj} (o':Obj) (h:Ow B w0 w (dL k o::R)):Ow B w0 (w.putObj k o') (dL k o'::R):=by
 have hk:=h.obj;have hlt:k<w.heap.size:=(Array.getElem?_eq_some_iff.1 hk).1;refine h.step fun G hA hG=>⟨⟨rfl,rfl,rfl,by simp,fun j _ hj=>?_⟩,G,⟨hA.1,World.putObj_heap_same hlt⟩,fun j hj=>⟨.inl hj,by have:=(hG j hj).2;simpa using this⟩⟩
 exact World.putObj_heap_other fun e=>hj (by rw[e];exact hA.1)
theorem _root_.Go.Vc.Ow.newObj (o:Obj) (h:Ow B w0 w R):Ow B w0 (w.alloc o) (dL w.heap.size o::R):=
 h.new (A':=dL w.heap.size o) (G':=fun k=>k=w.heap.size) (eJ _ _) ⟨rfl,World.alloc_heap_new _ _⟩ fun k e=>⟨om,by rw[e];simp⟩
end
section
variable {F:Fence} {n:Nat} {P:Program} {B:Nat} {w0 w:World} {L:List aA}
theorem CI {α:Type} {g:Operand} {ps:Array Tmp} {assign body:Code} {Q:Exit->Act->Pw} {a:Act}
  (hro:F.round=none) (h1:1≤n) {gf:Nat} {lb:Array Value} (hg:a.eval g= .func (.func gf) #[] lb) (hFg:F.fn gf) (eg:∀args w,(callFunc gf args).run P w= .ok (.enter gf args) w)
  (encs:α->Array Value) (hps:∀x,(encs x).size=ps.size) (xs:List α) (I:List α->aA) (Ax:Act->α->aA) (Reads:Pw)
  (h0:Ow B w0 w (I []::L))
  (hreads:∀(Z:List aA) pre V,Ow B w0 V (I pre::Z++L)->Reads V)
  (hseq:∀(l:Nat) (J:List α->Pw) (W:World),
   (∀pre V V',J pre V->fN No V V'->J pre V')->(∀pre V,J pre V->Reads V)->
   (∀pre x V,J pre V->(pre++ [x]) <+: xs->YieldAt F (n-1-1) P l (encs x) V fun e V'=>e= .returned (.bool true)/\J (pre++ [x]) V')->
   J [] W->CallsIn F (n-1) P gf (#[.func (.yield l) #[] #[]]++lb) W fun e W'=>(∃v,e= .returned v)/\J xs W')
  (hassign:∀(l:Nat) (Z:List aA) (pre:List α) (x:α) (V:World) (K:Act->Pw),Ow B w0 V (I pre::Z++L)->(∀a' V',Ow B w0 V' (Ax a' x::I pre::Z++L)->K a' V')->
   assign.wpIn (F.inRound l) (n-1-1) P (Exit.then K (fun _ _ _=>False)) { tmps:=(ps.zip (encs x)).foldl (fun t (p,v)=>t.setIfInBounds p v) a.tmps,defers:=[]} V)
  (hbody:∀(l:Nat) (Z:List aA) (pre:List α) (x:α) (a':Act) (V:World),(pre++ [x]) <+: xs->Ow B w0 V (Ax a' x::I pre::Z++L)->
   body.wpIn (F.inRound l) (n-1-1) P (fun e _ V'=>e= .normal/\Ow B w0 V' (I (pre++ [x])::Z++L)) a' V)
  (hdone:∀(D:Nat) (V:World),Ow B w0 V (dL D (.deferred (some []))::I xs::L)->Q .normal { a with defers:={ target:= .collected D,args:= #[]}::a.defers} V):
  (Code.rangeFunc g ps assign body).wpIn F n P Q a w:=by
 refine wpIn_rangeFunc fun fn hfn=>?_
 rw[hro];obtain ⟨rec,hrec⟩:∃rec:LoopState->Loop,rec=fun st=>{ state:=st,pending:=none,fn,tmps:=a.tmps,params:=ps,assign,body,defers:=w.heap.size}:=⟨_,rfl⟩
 obtain ⟨W1,hW1⟩:∃W1,(w.alloc (.deferred (some []))).alloc (.loop (rec .ready))=W1:=⟨_,rfl⟩
 have hO1:Ow B w0 W1 (dL (w.heap.size+1) (.loop (rec .ready))::dL w.heap.size (.deferred (some []))::I []::L):=by
  have h2:=(h0.newObj (.deferred (some []))).newObj (.loop (rec .ready));rw[hW1,World.size_alloc] at h2;exact h2
 refine ⟨w.heap.size+1,[{ target:= .collected w.heap.size,args:= #[]}],W1,{ target:= .fn (.func gf) lb,args:= #[.func (.yield (w.heap.size+1)) #[] #[]]},W1,gf,
  #[.func (.yield (w.heap.size+1)) #[] #[]]++lb,W1, ?_, ?_, ?_, ?_,fun _=>h1, ?_⟩
 ·rw[←hW1,hrec];exact run_enterLoop_outer _ _ _ _ _
 ·simp only[resolve,hg]
  simp[go_sem]
 ·intro f' hf';simp[Target.leads] at hf';subst hf';exact hFg
 ·simp[invoke,go_sem,eg]
 generalize w.heap.size+1=l at hO1⊢;generalize w.heap.size=D at hO1 hrec⊢;refine (hseq l (fun pre V=>Ow B w0 V (dL l (.loop (rec .ready))::dL D (.deferred (some []))::I pre::L)) W1 ?_ ?_ ?_ hO1).mono ?_
 ·exact fun pre V V' h hu=>h.same hu
 ·exact fun pre V h=>hreads [dL l (.loop (rec .ready)),dL D (.deferred (some []))] pre V h.nC
 ·intro pre x V h hpre
  have hy:=run_yield (P:=P) (args:=encs x) h.obj (by rw[hrec];exact hps x);rw[hrec] at hy;refine ⟨fn,_,assign,body,hy,roundIn_of_wpIn hfn ?_⟩;refine hassign l [dL l (.loop (rec .ready)),dL D (.deferred (some []))] pre x V _ h.nC fun a' V' h=>?_
  have h:=h.nC;have hb:=run_beginRound (P:=P) h.obj (by rw[hrec]);refine ⟨_,hb, ?_⟩;have h:=h.putObj (.loop { rec .ready with state:= .busy});refine wpIn_mono (hbody l [dL l (.loop { rec .ready with state:= .busy}),dL D (.deferred (some []))] pre x a' _ hpre ?_) ?_
  ·have h2:=h.perm (List.Perm.swap _ _ _)
   exact h2.perm (List.Perm.cons _ (List.Perm.swap _ _ _))
  ·rintro e a2 V2 ⟨rfl,h⟩
   have h:Ow B w0 V2 (dL l (.loop { rec .ready with state:= .busy})::I (pre++ [x])::dL D (.deferred (some []))::L):=h.perm (List.Perm.swap _ _ _);have he:=run_endRound (P:=P) none h.obj;refine ⟨_,_,he,rfl, ?_⟩;have h:=h.putObj (.loop {({ rec .ready with state:= .busy}:Loop) with state:=if (none:Option Code).isNone then .ready else .done,pending:=none});have e2:({({ rec .ready with state:= .busy}:Loop) with state:=if (none:Option Code).isNone then .ready else .done,pending:=none}:Loop)=rec .ready:=by rw[hrec];rfl
   rw[e2] at h⊢;exact h.perm (List.Perm.cons _ (List.Perm.swap _ _ _))
 ·rintro e W2 ⟨⟨v,rfl⟩,h⟩
  have he:=run_endLoop (P:=P) h.obj (by rw[hrec];simp);rw[show (rec .ready).pending=none from by rw[hrec]] at he;refine ⟨none,_,he, ?_⟩;exact hdone D _ (h.putObj _).drop
end
end Go.Proofs.YtlhljbbfckbjpaaGreat
end
section
set_option maxRecDepth 8000
namespace Go.Proofs.YtlhljbbfckbjpaaGreat
open Go Go.Vc Go.Proofs Go.RowKit Go.Shelf
attribute [local go_sem] Oper.semAt_some
def back (S:List Slot):Nat->List (Int × Slot)
 |0=>[]
 |t+1=>back S t++ [((S.length:Int)-1-(t:Int),(S[S.length-1-t]?).getD (0,0))]
theorem xt (S:List Slot):∀(d t:Nat),back S t <+: back S (t+d)
 |0,t=>List.prefix_refl _
 |d+1,t=>(xt S d t).trans (List.prefix_append _ _)
theorem xu (S:List Slot):(back S S.length).map (·.2)=S.reverse:=by
 have h:∀t,t≤S.length->(back S t).map (·.2)=S.reverse.take t:=by
  intro t
  induction t with
  |zero=>intro _;rfl
  |succ t ih=>
   intro ht
   have hx:S.reverse[t]?=some S[S.length-1-t]:=by
    rw[List.getElem?_reverse om];exact gE om
   rw[List.take_add_one,hx,←ih om];simp only[back,List.map_append,List.map_cons,List.map_nil,Option.toList_some];rw[gE om];rfl
 rw[h _ (Nat.le_refl _),←List.length_reverse,List.take_length]
def Ic (x:Int × Slot):Array Value:= #[.z x.1, .agg #[.z x.2.1, .z x.2.2]]
set_option maxRecDepth 100000 in
set_option maxHeartbeats 2000000 in
theorem FZ (n:Nat) (hn:1≤n) (l box b off len cap:Nat) (S:List Slot) (hS:S.length=len) (hlen:len≤1000000) (J:List (Int × Slot)->Pw)
  (hR:∀pre V,J pre V->V.cell? ⟨box,0,none⟩=some (.slice (some ⟨b,off,none⟩) len cap)/\∀j x,S[j]?=some x->∀u v,[Value.z x.1,Value.z x.2][u]?=some v->V.cell? ((⟨b,off+j*2,none⟩:Addr).add u)=some v)
  (hY:∀pre x V,J pre V->(pre++ [x]) <+: back S len->YieldAt Fence.wide (n-1) Tryz.prog l (Ic x) V fun e V'=>e= .returned (.bool true)/\J (pre++ [x]) V') (W:World) (h0:J [] W):
  CallsIn Fence.wide n Tryz.prog 228 #[.func (.yield l) #[] #[], .pointer (some ⟨box,0,none⟩)] W fun e W'=>(∃v,e= .returned v)/\J (back S len) W':=by
 refine callsIn_of_wp Tryz.func228 rfl trivial ?_ rfl;simp only[Tryz.ntmps228,List.size_toArray,List.length_cons,List.length_nil,Nat.reduceAdd,Nat.reduceSub,Array.replicate_succ,Array.replicate_zero,List.push_toArray,List.append_toArray,List.nil_append,List.cons_append];have hBs:=(hR [] W h0).1
 gi_wp2
 gi_loopw [3] (fun i wr=>∃t:Nat,t≤len/\i= .z ((len:Int)-1-(t:Int))/\J (back S t) wr)
  (fun i _=>(intOf i+1).toNat)
 case atStart=>exact ⟨0,Nat.zero_le _,by simp,h0⟩
 case round=>
  obtain ⟨t,ht,rfl,hJs⟩:=hrel;obtain ⟨hB2,hc2⟩:=hR _ _ hJs;by_cases hlt:t<len
  ·obtain ⟨y,hx⟩:∃y,S[S.length-1-t]?=some y:=⟨_,gE om⟩
   obtain ⟨j,hj⟩:∃j:Nat,((len:Int)-1-(t:Int))=(j:Int)/\j=S.length-1-t:=⟨S.length-1-t,om,rfl⟩
   obtain ⟨fn,tmps,assign,body,hy,hRn⟩:=hY _ ((len:Int)-1-(t:Int),(S[S.length-1-t]?).getD (0,0)) wr hJs (by
    have:=xt S (len-(t+1)) (t+1);rw[show t+1+(len-(t+1))=len from by omega] at this;simpa [back,hS] using this)
   rw[hx,Option.getD_some] at hy hRn;dsimp only[Ic] at hy;rw[←hj.2] at hx;have hcx:=hc2 j _ hx;obtain rfl:j=len-1-t:=by omega
   have hj2:=hj.2
   have hcA:wr.cell? ⟨b,off+(len-1-t)*2,none⟩=some (.z y.1):=by
    have:=hcx 0 _ rfl;simpa [Addr.add] using this
   have hcB:wr.cell? ⟨b,off+(len-1-t)*2+1,none⟩=some (.z y.2):=by
    have:=hcx 1 _ rfl;simpa [Addr.add,Nat.add_assoc] using this
   have hj1:=hj.1;clear hj hj2;rw[hj1] at hy⊢
   gi_wp2
   refine hRn.mono ?_;rintro e W3 ⟨rfl,hJ3⟩
   gi_wp2
   go_roundw
   case rel=>exact ⟨t+1,om,by simp;omega,(by have hx':S[len-1-t]?=some y:=hx;simpa [back,hS,hx'] using hJ3)⟩
   case measure=>
    show (((len-1-t:Nat):Int)-1+1).toNat<(((len-1-t:Nat):Int)+1).toNat;omega
  ·obtain rfl:t=len:=by omega
   rw[show ((t:Int)-1-(t:Int))= -1 from by omega]
   gi_wp2
   go_end0
   exact ⟨⟨_,rfl⟩,hJs⟩
end Go.Proofs.YtlhljbbfckbjpaaGreat
end
section
set_option maxRecDepth 8000
namespace Go.Proofs.YtlhljbbfckbjpaaGreat
open Go Go.Vc Go.Proofs Go.RowKit Go.Shelf
attribute [local go_sem] Oper.semAt_some
theorem z7 {P:Program} {e:Env} {w:World}:∀(l:List Nat) (acc:List Value) (k:List Value->Prop),oq P (l.map ResultVar.tmp) e w acc k->
  ∃vs:List Value,vs.length=l.length/\(∀(i t:Nat),l[i]?=some t->∃v,vs[i]?=some v/\e t=some v)/\k (acc.reverse++vs)
 | [],acc,k,h=>⟨[],rfl,fun i t ht=>by simp at ht,by simpa [oq] using h⟩
 |t::l,acc,k,h=>by
  simp only[List.map_cons,oq] at h;split at h
  ·rename_i v hv
   obtain ⟨vs,h1,h2,h3⟩:=z7 l (v::acc) k h;refine ⟨v::vs,by simp[h1],fun i u hu=>?_,by simpa using h3⟩
   match i,hu with
   |0,hu=>simp at hu;subst hu;exact ⟨v,rfl,hv⟩
   |i+1,hu=>simp at hu;simpa using h2 i u hu
  ·exact h.elim
theorem BW {s:Nat} {x:Sc} {l:List (Nat × Sh)} {K:vB ((s, .c x)::l)} {e:Env} {w:World} (h:gQ ((s, .c x)::l) K e w):∃d:x.D,e s=some (x.mk d)/\gQ l (K d) e w:=by
 simp only[gQ] at h;split at h
 ·rename_i v hv
  obtain ⟨d,e1,h⟩:=tD h;exact ⟨d,hv.trans (congrArg some e1),h⟩
 ·exact h.elim
theorem Ia {e:Env} {w:World} {K:Option Addr->Addr->Int->Sl->Value->Pw} (h:gQ Az K e w):
  ∃d c t s v,e 0=some (.pointer d)/\e 1=some (.pointer (some c))/\e 2=some (.z t)/\e 3=some (.slice s.a s.len s.cap)/\e 4=some v/\K d c t s v w:=by
 obtain ⟨d,h0,h⟩:=BW h;obtain ⟨c,h1,h⟩:=BW h;obtain ⟨t,h2,h⟩:=BW h;obtain ⟨s,h3,h⟩:=BW h;obtain ⟨v,h4,h⟩:=BW h;exact ⟨d,c,t,s,v,h0,h1,h2,h3,h4,h⟩
section
variable {B:Nat} {w0 w:World} {R L:List aA} {bd bk:Nat} {k:ai} {d:kQ} {ec wv wk:Int} {fs:Sl} {N:Nat}
theorem EY {K:Option Addr->Addr->Int->Sl->Value->Pw} (h:Ow B w0 w (aa bd (af bk d ec wv wk fs)::ah aw fs []::aj bk k::R))
  (hK:∀c0 s2 bx w',Ow B w0 w' (aa bd (af bk d ec wv wk fs)::ah aw fs []::aj bk k::aa c0 [.pointer (some ⟨bd,0,none⟩)]::ah Tr.bw s2 (Tr.db k.T d.s)::aa bx [.slice s2.a s2.len s2.cap]::R)->
   K (some ⟨bd,0,none⟩) ⟨c0,0,none⟩ 0 s2 (.func (.func 228) #[] #[.pointer (some ⟨bx,0,none⟩)]) w'):S.qdW (some ⟨bd,0,none⟩) K w:=by
 unfold S.qdW;refine h.al fun w1 h=>?_
 generalize w.heap.size=c0 at h⊢;obtain ⟨x,h⟩:=(h.pick (A:=aj bk k)).uP;refine h.dr fun w h=>?_
 refine ⟨_,h.aq rfl,_,rfl,_,h.aq rfl,_,rfl,_,h.ao rfl,_,h.aq rfl,_,rfl, ?_⟩;refine eM (h.aL rfl ⟨?_,trivial⟩);refine Tr.rH (s:=d.s) (h.pick (A:=Tr.bB x.tr k.T)) fun s2 w h=>?_
 apply S.qI0;refine h.al fun w1 h=>?_
 generalize w.heap.size=bx at h⊢;refine hK c0 s2 bx _ ?_;exact ((show Ow B w0 w1 (aj bk k::aa bx [.slice s2.a s2.len s2.cap]::ah Tr.bw s2 (Tr.db k.T d.s)::aa c0 [.pointer (some ⟨bd,0,none⟩)]::aa bd (af bk d ec wv wk fs)::ah aw fs []::R) from Ow.bE x h.sub).sub)
theorem sI:∀(l:List Slot) (s:Slot) (k:ai),ai.cg (l++ [s]) k=((ai.cg l k).1++((ai.cg l k).2.gone s).1,((ai.cg l k).2.gone s).2)
 | [],s,k=>by simp[ai.cg]
 |a::l,s,k=>by
  have:=sI l s (k.gone a).2;simp only[List.cons_append,ai.cg,this,List.append_assoc]
theorem EZ {K:Int->Pw} {c0 bx:Nat} {s2:Sl} {F:List dE} {n:Nat} (hn:s2.len=n) (hn2:n≤1000000) (hu:d.c.kind=1->0≤d.c.obj/\d.c.obj<(k.u.length:Int))
  (h:Ow B w0 w (aa bd (af bk d ec wv wk fs)::ah aw fs F::aj bk k::aa c0 [.pointer (some ⟨bd,0,none⟩)]::R))
  (hK:∀w',Ow B w0 w' (aa bd (af bk d ec (n:Int) wk fs)::ah aw fs F::aj bk (if d.c.kind=1 then k.km d.c.obj else k)::R)->K 0 w'):S.qdX (some ⟨bd,0,none⟩) ⟨c0,0,none⟩ 0 s2 K w:=by
 unfold S.qdX;rw[hn,IM om om];refine ⟨_,h.aq rfl,_,rfl, ?_⟩;refine oN (h.cC rfl rfl fun w h=>?_)
 (try dsimp only[putAt,List.set_cons_zero,List.set_cons_succ] at h)
 refine ⟨_,h.aq rfl,_,rfl,_,h.ao rfl, ?_⟩;refine gB (fun e=>?_) (fun e=>?_)
 ·rw[if_pos e] at hK
  obtain ⟨u0,u1⟩:=hu e
  have hux:k.u[d.c.obj.toNat]?=some (k.kr d.c.obj):=by
   unfold ai.kr;rw[gE om];rfl
  obtain ⟨x,h⟩:=(h.pick (A:=aj bk k)).uP;refine h.dr fun w h=>?_
  refine ⟨_,h.aq rfl,_,rfl,_,h.aq rfl,_,rfl,x.su,h.ao rfl,_,h.aq rfl,_,rfl,_,aU (h.ao rfl), ?_⟩;refine h.dZ (s:=x.su) (i:=d.c.obj) (j:=d.c.obj.toNat) om hux fun a ha _ hcu=>?_
  refine ⟨_,hcu 0 _ rfl,_,hcu 1 _ rfl,_,hcu 2 _ rfl, ?_⟩;refine ⟨_,h.aq rfl,_,rfl,_,h.aq rfl,_,rfl,x.su,h.ao rfl,_,h.aq rfl,_,rfl,_,aU (h.ao rfl), ?_,trivial⟩;refine zf h fun w h=>?_
  refine ⟨aU (h.ao rfl),h.aq rfl,h.ao rfl,h.aq rfl,h.aq rfl, ?_⟩;refine h.dZ (s:=x.su) (i:=d.c.obj) (j:=d.c.obj.toNat) om hux fun a ha _ _=>⟨?_,trivial⟩
  refine h.yH (s:=x.su) (xs:=k.u) (i:=d.c.obj) (j:=d.c.obj.toNat) { k.kr d.c.obj with used:=0} om om ha fun w h=>?_
  refine hK w ?_;exact ((show Ow B w0 w (aj bk (k.km d.c.obj)::aa bd (af bk d ec (n:Int) wk fs)::ah aw fs F::R) from Ow.bE x h.sub).sub)
 ·rw[if_neg e] at hK
  exact hK w h.sub
end
end Go.Proofs.YtlhljbbfckbjpaaGreat
end
