/- What the row rests on: the law, at the model and walked. -/
import Derived.Test.YtfgikfglabdeoaaGreatZp9
set_option maxRecDepth 100000
set_option maxHeartbeats 4000000
set_option linter.all false
namespace Go.Vc
open Go.ChangeShapes Go.WideShapes
section
variable {H:Type} {enc:TypeId × Value->H} {P:Program} {w:World} {base:Nat} {spare:Nat->Bool} {held:Bool}
theorem Ow.start (w:World):Ow w.heap.size w w []:=⟨Nat.le_refl _,iA.refl _ _,[],rfl,by simp, .nil⟩
theorem Fits.append {ks ks':List SK} {vs vs':List Value} (h:Fits ks vs) (h':Fits ks' vs'):Fits (ks++ks') (vs++vs'):=by
 induction h with
 |nil=>exact h'
 |cons h _ ih=>exact .cons h ih
def flatF (f:TypeId->Option (List SK)):List (TypeId × Nat)->Nat->Option (List SK)
 | [],_=>some []
 |(t,o')::r,o=>if Nat.beq o' o then (match f t with|some ks=>(flatF f r (o+ks.length)).map (ks++·)|none=>none) else none
def flatK (P:Program):Nat->TypeId->Option (List SK)
 |0,_=>none
 |d+1,t=>match P.underlying t with
  |some (.int k)=>some [.int k]
  |some .bool=>some [.bool]
  |some .string=>some [.str]
  |some (.struct fs)=>(match flatF (flatK P d) (fs.toList.map fun f=>(f.type,f.offset)) 0 with|some ks=>if Nat.beq ks.length (P.cellsOf t) then some ks else none|none=>none)
  |some (.array n e)=>(match flatF (flatK P d) ((List.range n).map fun i=>(e,i*P.cellsOf e)) 0 with|some ks=>if Nat.beq ks.length (P.cellsOf t) then some ks else none|none=>none)
  |_=>none
theorem flatF_fits {P:Program} {f:TypeId->Option (List SK)} {cs:List Value}:∀(l:List (TypeId × Nat)) (o:Nat) (ks:List SK),flatF f l o=some ks->(∀p∈l,∀ks,f p.1=some ks->Fits ks ((cs.drop p.2).take (P.cellsOf p.1)))->
  ∃vs,Fits ks vs/\cs.drop o=vs++cs.drop (o+ks.length)
 | [],o,ks,h,_=>by
  simp only[flatF,Option.some.injEq] at h;subst h;exact ⟨[], .nil,by simp⟩
 |(t,o')::r,o,ks,h,hp=>by
  simp only[flatF] at h;split at h
  ·rename_i ho
   have ho:=Nat.eq_of_beq_eq_true ho;subst ho;cases hf:f t with
   |none=>rw[hf] at h;cases h
   |some k1=>
    rw[hf] at h;simp only at h;cases hr:flatF f r (o'+k1.length) with
    |none=>rw[hr] at h;cases h
    |some k2=>
     rw[hr] at h;simp only[Option.map_some,Option.some.injEq] at h;subst h;have h1:=hp (t,o') (by simp) k1 hf;obtain ⟨vs,h2,h3⟩:=flatF_fits r _ _ hr fun p hp'=>hp p (by simp[hp'])
     refine ⟨_,h1.append h2,?_⟩;have hlen:min (P.cellsOf t) (cs.length-o')=k1.length:=by have:=h1.length;rwa [List.length_take,List.length_drop] at this
     rw[List.append_assoc,List.length_append,←Nat.add_assoc,←h3,←List.drop_drop]
     have:(cs.drop o').take (P.cellsOf t)=(cs.drop o').take k1.length:=by
      by_cases e:P.cellsOf t≤cs.length-o'
      ·rw[Nat.min_eq_left e] at hlen;rw[hlen]
      ·rw[Nat.min_eq_right om] at hlen
       rw[List.take_of_length_le (by rw[List.length_drop];omega),List.take_of_length_le (by rw[List.length_drop];omega)]
     show _=(cs.drop o').take (P.cellsOf t)++_;rw[this,List.take_append_drop]
  ·cases h
theorem cell_lt {w:World} {a:Addr} {v:Value} (h:w.cell? a=some v):a.block<w.heap.size:=by
 refine Nat.lt_of_not_le fun hn=>?_
 have:w.heap[a.block]?=none:=by simp[hn]
 unfold World.cell? at h;simp[this] at h
theorem flatK_fits:∀(d:Nat) {fuel:Nat} {t:TypeId} {cs:List Value} {x:DataW H × List MemPlace} {ks:List SK},flatK P d t=some ks->DataW.trod enc P w base spare held fuel t cs=some x->Fits ks cs:=by
 intro d
 induction d with
 |zero=>intro fuel t cs x ks h;simp[flatK] at h
 |succ d ih=>
  intro fuel t cs x ks h hx
  have all:∀(ks':List SK),cs.length=P.cellsOf t->Nat.beq ks'.length (P.cellsOf t)=true->(∃vs,Fits ks' vs/\cs.drop 0=vs++cs.drop (0+ks'.length))->Fits ks' cs:=by
   intro ks' h1 h2 ⟨vs,h3,h4⟩;have h2:=Nat.eq_of_beq_eq_true h2;rw[List.drop_zero,List.drop_eq_nil_of_le om,List.append_nil] at h4;rw[h4];exact h3
  cases hu:P.underlying t with
  |none=>simp[flatK,hu] at h
  |some k=>
   simp only[flatK,hu] at h;cases k with
   |int q=>
    simp only[Option.some.injEq] at h;subst h;obtain ⟨n,rfl,_,hw⟩:=DataW.trod_int hu hx;exact .cons ⟨n,rfl,hw⟩ .nil
   |bool=>
    simp only[Option.some.injEq] at h;subst h;obtain ⟨b,rfl,_⟩:=DataW.trod_bool hu hx;exact .cons ⟨b,rfl⟩ .nil
   |string=>
    simp only[Option.some.injEq] at h;subst h;obtain ⟨s,rfl,_,hs⟩:=DataW.trod_string hu hx;exact .cons ⟨s,rfl,hs⟩ .nil
   |struct fs=>
    simp only at h;cases hf:flatF (flatK P d) (fs.toList.map fun f=>(f.type,f.offset)) 0 with
    |none=>rw[hf] at h;cases h
    |some ks'=>
     rw[hf] at h;simp only at h;split at h
     ·rename_i hl
      cases h;obtain ⟨xs,n,rfl,rfl,hlen,hxl,hall⟩:=DataW.trod_struct hu hx;refine all _ hlen hl (flatF_fits (P:=P) _ _ _ hf fun p hp ks'' hk=>?_);obtain ⟨f,hf',rfl⟩:=List.mem_map.1 hp;obtain ⟨i,hi⟩:=List.getElem?_of_mem hf';have hi':fs[i]?=some f:=by simpa using hi
      have hlt:i<xs.length:=by rw[hxl];exact (Array.getElem?_eq_some_iff.1 hi').1
      have:=hall i f hi';rw[gE hlt] at this;exact ih hk this
     ·cases h
   |array n e=>
    simp only at h;cases hf:flatF (flatK P d) ((List.range n).map fun i=>(e,i*P.cellsOf e)) 0 with
    |none=>rw[hf] at h;cases h
    |some ks'=>
     rw[hf] at h;simp only at h;split at h
     ·rename_i hl
      cases h
      obtain ⟨xs,n',rfl,hlen,hall⟩:∃(xs:List (DataW H × List MemPlace)) (m:Nat),fuel=m+1/\cs.length=P.cellsOf t/\∀i,i<n->∃y,DataW.trod enc P w base spare held m e ((cs.drop (i*P.cellsOf e)).take (P.cellsOf e))=some y:=by
       cases fuel with
       |zero=>simp[DataW.trod] at hx
       |succ m=>
        unfold DataW.trod at hx;rw[hu] at hx;simp only at hx;split at hx
        ·rename_i hl2
         simp only[Option.map_eq_some_iff] at hx;obtain ⟨xs,hp,_⟩:=hx;refine ⟨xs,m,rfl,hl2,fun i hi=>?_⟩;have hg:=mapM_some_get hp i i (by simp[hi]);have hl3:=mapM_some_length hp;rw[gE (by rw[List.length_range] at hl3;omega)] at hg;exact ⟨_,hg⟩
        ·cases hx
      refine all _ hlen hl (flatF_fits (P:=P) _ _ _ hf fun p hp ks'' hk=>?_);obtain ⟨i,hi,rfl⟩:=List.mem_map.1 hp;obtain ⟨y,hy⟩:=hall i (List.mem_range.1 hi);exact ih hk hy
     ·cases h
   |_=>simp at h
theorem inp_of {α:Type} {E:dX α} {good:α->Prop} {t e:TypeId} {W:World} {sp:Nat->Bool} {a:Option Addr} {len cap d:Nat} {dd:DataW H} {ps:List MemPlace} {ks:List SK} (ht:P.underlying t=some (.slice e)) (hz:P.cellsOf e=E.z) (hk:flatK P d e=some ks)
  (dec:∀cs,Fits ks cs->∃x,cs=E.enc x/\good x) (h:DataW.Trod enc P W 0 sp held t (.slice a len cap) dd ps):∃xs,Jd E W ⟨a,len,cap⟩ xs/\∀x∈xs,good x:=by
 obtain ⟨fuel,h⟩:=h;rcases Go.Deep.open_slice ht h with ⟨hcs,_⟩|⟨a',len',cap',m,n,D,Pl,hcs,_,hl,hm,hmm,_,hel⟩
 ·simp[Value.cells] at hcs
  obtain ⟨rfl,rfl,rfl⟩:=hcs;exact ⟨[],⟨rfl,Nat.le_refl _,(fun j x hj=>by simp at hj)⟩,(fun x hx=>by cases hx)⟩
 ·simp[Value.cells] at hcs
  obtain ⟨rfl,rfl,rfl⟩:=hcs;have hmlen:len≤m:=by rw[hmm];split<;>omega
  have one:∀i,i<len->∃x,good x/\a'.block<W.heap.size/\∀c v,(E.enc x)[c]?=some v->W.cell? ((a'.add (i*E.z)).add c)=some v:=fun i hi=>by
   obtain ⟨cs',h1,h2⟩:=hel i om;obtain ⟨_,h3,h4⟩:=World.cells?_some h1;obtain ⟨x,rfl,hg⟩:=dec cs' (flatK_fits d hk h2);rw[hz] at h4;have hpos:=E.pos;refine ⟨x,hg,?_,fun c v hv=>?_⟩
   ·have:=h4 0 hpos
    rw[gE (by rw[E.len];exact hpos)] at this;have:=cell_lt this
    rwa [zH,zH] at this
   ·rw[h4 c (by have:=(List.getElem?_eq_some_iff.1 hv).1;rw[E.len] at this;exact this)]
    exact hv
  have ex:∀n,n≤len->∃xs:List α,xs.length=n/\(∀x∈xs,good x)/\∀j x,xs[j]?=some x->a'.block<W.heap.size/\∀c v,(E.enc x)[c]?=some v->W.cell? ((a'.add (j*E.z)).add c)=some v:=by
   intro n
   induction n with
   |zero=>intro _;exact ⟨[],rfl,(fun x hx=>by cases hx),(fun j x hj=>by simp at hj)⟩
   |succ n ih=>
    intro hn;obtain ⟨xs,h1,h2,h3⟩:=ih om;obtain ⟨x,h4,h5,h6⟩:=one n om;refine ⟨xs++ [x],by simp[h1],fun y hy=>?_,fun j y hj=>?_⟩
    ·rcases List.mem_append.1 hy with hy|hy
     ·exact h2 y hy
     ·simp only[List.mem_singleton] at hy;subst hy;exact h4
    ·by_cases hjn:j<xs.length
     ·rw[List.getElem?_append_left hjn] at hj;exact h3 j y hj
     ·rw[List.getElem?_append_right om] at hj
      have hj0:j-xs.length=0:=by
       refine Classical.byContradiction fun hne=>?_
       rw[List.getElem?_eq_none (by simp;omega)] at hj;cases hj
      rw[hj0] at hj;simp only[List.getElem?_cons_zero,Option.some.injEq] at hj;subst hj;have:j=n:=by omega
      subst this;exact ⟨h5,h6⟩
  obtain ⟨xs,h1,h2,h3⟩:=ex len (Nat.le_refl _);exact ⟨xs,⟨h1.symm,‹len≤cap›,fun j x hj=>⟨a',rfl,h3 j x hj⟩⟩,h2⟩
end
end Go.Vc
