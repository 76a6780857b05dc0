/- What the row rests on: the declarations that it needs, out of my texts (part 2). -/
import Derived.Test.YtlhljbbfckbjpaaGreatZe1
import Derived.ChangeKeysEq
import Derived.Deep.Slices
import Derived.Laws.StructEq
import Derived.Lib.Overlaps
import Derived.Lib.SmallJoins
import Derived.Maps.RangeRun
import Derived.ProofKit
import Derived.Test.YtlhljbbfckbjpaaGreatProg
import Derived.WideKeyRuns
set_option linter.unusedVariables false
set_option linter.unusedSimpArgs false
set_option linter.unusedSectionVars false
section
namespace Go.Vc
open Go
def oL (w:World) (b:Nat) (l:List Value):Prop:=∃t,w.heap[b]?=some (.cells ⟨l⟩ t (0,0))
def kJ (w:World) (b:Nat) (es:Array MapEntry) (c:Nat):Prop:=w.heap[b]?=some (.map es c)
structure fN (F:Nat->Prop) (w w':World):Prop where
 os:w'.os=w.os
 tape:w'.tape=w.tape
 output:w'.output=w.output
 size:w.heap.size≤w'.heap.size
 block:∀k,k<w.heap.size->¬F k->w'.heap[k]?=w.heap[k]?
abbrev No:Nat->Prop:=fun _=>False
theorem fN.refl (F:Nat->Prop) (w:World):fN F w w:=⟨rfl,rfl,rfl,Nat.le_refl _,fun _ _ _=>rfl⟩
theorem fN.mono {F F':Nat->Prop} {w w':World} (h:fN F w w') (hf:∀k,k<w.heap.size->F k->F' k):fN F' w w':=
 ⟨h.os,h.tape,h.output,h.size,fun k hk hn=>h.block k hk (fun hF=>hn (hf k hk hF))⟩
theorem fN.trans {F F':Nat->Prop} {a b c:World} (h:fN F a b) (h':fN F' b c) (hf:∀k,k<a.heap.size->F' k->F k):fN F a c:=
 ⟨h'.os.trans h.os,h'.tape.trans h.tape,h'.output.trans h.output,Nat.le_trans h.size h'.size,fun k hk hn=>
  (h'.block k (Nat.lt_of_lt_of_le hk h.size) (fun hF=>hn (hf k hk hF))).trans (h.block k hk hn)⟩
theorem fN.then {F:Nat->Prop} {a b c:World} (h:fN F a b) (h':fN F b c):fN F a c:=h.trans h' fun _ _ h=>h
theorem fN.no {F:Nat->Prop} {a b c:World} (h:fN F a b) (h':fN No b c):fN F a c:=h.trans h' fun _ _ h=>h.elim
theorem fN.EI {F:Nat->Prop} {a b:World} (h:fN No a b):fN F a b:=h.mono fun _ _ h=>h.elim
theorem fN.below {F:Nat->Prop} {w w':World} (h:fN F w w') {B:Nat} (hB:B≤w.heap.size) (hf:∀k,F k->B≤k):RowKit.Below B w w':=
 ⟨h.os,h.tape,h.output,h.size,fun k hk=>h.block k om (fun hF=>by have:=hf k hF;omega)⟩
theorem oL.lt {w:World} {b:Nat} {l:List Value} (h:oL w b l):b<w.heap.size:=by
 obtain ⟨t,h⟩:=h;exact (Array.getElem?_eq_some_iff.1 h).1
theorem kJ.lt {w:World} {b:Nat} {es:Array MapEntry} {c:Nat} (h:kJ w b es c):b<w.heap.size:=(Array.getElem?_eq_some_iff.1 h).1
theorem oL.rr {F:Nat->Prop} {w w':World} {b:Nat} {l:List Value} (h:oL w b l) (u:fN F w w') (hn:¬F b):oL w' b l:=by
 have:=u.block b h.lt hn;obtain ⟨t,h⟩:=h;exact ⟨t,by rw[this];exact h⟩
theorem kJ.rr {F:Nat->Prop} {w w':World} {b:Nat} {es:Array MapEntry} {c:Nat} (h:kJ w b es c) (u:fN F w w') (hn:¬F b):kJ w' b es c:=by
 have:=u.block b h.lt hn;unfold kJ at *;rw[this];exact h
theorem oL.cell {w:World} {b:Nat} {l:List Value} (h:oL w b l) (i:Nat):w.cell? ⟨b,i,none⟩=l[i]?:=by
 obtain ⟨t,h⟩:=h;simp[World.cell?,h]
theorem oL.frozen {w:World} {b:Nat} {l:List Value} (h:oL w b l) (i:Nat):w.frozen? ⟨b,i,none⟩=false:=by
 obtain ⟨t,h⟩:=h;simp[World.frozen?,h]
theorem aI (b o n:Nat):(Addr.mk b o none).add n=⟨b,o+n,none⟩:=by
 unfold Addr.add;by_cases h:n=0
 ·subst h;simp
 ·simp[h]
theorem oL.Ii {w:World} {b o n:Nat} {l:List Value} {v:Value} (h:oL w b l) (hv:l[o+n]?=some v):w.cell? ((Addr.mk b o none).add n)=some v:=by
 rw[aI,h.cell];exact hv
theorem oL.Ih {w:World} {b o:Nat} {l:List Value} {v:Value} (h:oL w b l) (hv:l[o]?=some v):w.cell? (Addr.mk b o none)=some v:=by
 rw[h.cell];exact hv
theorem heap_setCell (w:World) (b i:Nat) (v:Value) (k:Nat):(w.setCell ⟨b,i,none⟩ v).heap[k]?=if k=b then (w.heap[b]?).map (fun o=>match o with| .cells c e f=> .cells (c.setIfInBounds i v) e f|o=>o) else w.heap[k]?:=by
 simp only[World.setCell,Array.getElem?_modify,Option.isSome_none,Bool.false_eq_true,if_false];by_cases h:b=k
 ·subst h;simp only[if_true];rfl
 ·rw[if_neg h,if_neg (fun e=>h e.symm)]
theorem oL.set {w:World} {b:Nat} {l:List Value} (h:oL w b l) (i:Nat) (v:Value):oL (w.setCell ⟨b,i,none⟩ v) b (l.set i v):=by
 obtain ⟨t,h⟩:=h;refine ⟨t, ?_⟩;rw[heap_setCell,if_pos rfl,h];simp
theorem yT (w:World) (b i:Nat) (v:Value):fN (·=b) w (w.setCell ⟨b,i,none⟩ v):=
 ⟨rfl,rfl,rfl,by simp,fun k _ hn=>by rw[heap_setCell,if_neg hn]⟩
theorem eJ (w:World) (o:Obj):fN No w (w.alloc o):=
 ⟨rfl,rfl,rfl,by simp,fun k hk _=>by show (w.heap.push o)[k]?=_;rw[Array.getElem?_push,if_neg om]⟩
theorem jP {w w':World} (h:w'.heap=w.heap) (h1:w'.os=w.os) (h2:w'.tape=w.tape) (h3:w'.output=w.output):fN No w w':=
 ⟨h1,h2,h3,by rw[h];exact Nat.le_refl _,fun k _ _=>by rw[h]⟩
theorem heap_alloc_new (w:World) (o:Obj):(w.alloc o).heap[w.heap.size]?=some o:=by
 show (w.heap.push o)[w.heap.size]?=_;simp
theorem St.mk' {w:World} {b o:Nat} {v:Value} {k:World->Prop} {l:List Value} (hb:oL w b l) (ho:o<l.length) (hv:v.oneCell'=true)
  (h:∀w',fN (·=b) w w'->w'.heap.size=w.heap.size->oL w' b (l.set o v)->k w'):St w ⟨b,o,none⟩ v k:=by
 refine ⟨?_,hb.frozen o,hv,h _ (yT w b o v) (by simp) (hb.set o v)⟩;rw[hb.cell,gE ho];rfl
theorem Al.mk' {w:World} {l:List Value} {t:TypeId} {k:World->Prop} (h:∀w',fN No w w'->w'.heap.size=w.heap.size+1->oL w' w.heap.size l->k w'):Al w (.cells ⟨l⟩ t) k:=
 h _ (eJ _ _) (by simp) ⟨t,heap_alloc_new _ _⟩
theorem Al.map' {w:World} {k:World->Prop} (h:∀w',fN No w w'->w'.heap.size=w.heap.size+1->kJ w' w.heap.size #[] 0->k w'):Al w (.map #[] 0) k:=
 h _ (eJ _ _) (by simp) (heap_alloc_new _ _)
theorem Dr.mk' {w:World} {k:World->Prop} (h:∀w',fN No w w'->w'.heap=w.heap->k w'):Dr w k:=h w.drew (jP rfl rfl rfl rfl) rfl
inductive jR (z:Nat) (w:World) (s:Sl) (cs:List Value):Prop
 |nil (ha:s.a=none) (hl:s.len=0) (hc:s.cap=0) (hcs:cs= [])
 |mk (b o:Nat) (l:List Value) (ha:s.a=some ⟨b,o,none⟩) (hb:oL w b l) (hl:s.len≤s.cap) (hc:o+s.cap*z≤l.length) (hcs:cs=(l.drop o).take (s.len*z))
def Sl.In (s:Sl) (G:Nat->Prop):Prop:=∀a,s.a=some a->G a.block
theorem jR.length {z:Nat} {w:World} {s:Sl} {cs:List Value} (h:jR z w s cs):cs.length=s.len*z:=by
 cases h with
 |nil ha hl hc hcs=>simp[hcs,hl]
 |mk b o l ha hb hl hc hcs=>
  have:s.len*z≤s.cap*z:=Nat.mul_le_mul_right z hl;simp[hcs];omega
theorem jR.rr {F:Nat->Prop} {z:Nat} {w w':World} {s:Sl} {cs:List Value} (h:jR z w s cs) (u:fN F w w') (hn:s.In fun k=>¬F k):jR z w' s cs:=by
 cases h with
 |nil ha hl hc hcs=>exact .nil ha hl hc hcs
 |mk b o l ha hb hl hc hcs=>exact .mk b o l ha (hb.rr u (hn _ ha)) hl hc hcs
theorem jR.lt {z:Nat} {w:World} {s:Sl} {cs:List Value} (h:jR z w s cs):s.In (·<w.heap.size):=fun a ha=>by
 cases h with
 |nil h _ _ _=>rw[h] at ha;cases ha
 |mk b o l h hb _ _ _=>rw[h] at ha;cases ha;exact hb.lt
theorem jR.fo {z:Nat} {w:World} {s:Sl} {cs:List Value} (h:jR z w s cs):s.len≤s.cap:=by
 cases h with
 |nil _ hl _ _=>omega
 |mk _ _ _ _ _ hl _ _=>exact hl
theorem jR.cell {z:Nat} {w:World} {s:Sl} {cs:List Value} (h:jR z w s cs) {i:Nat} {v:Value} (hv:cs[i]?=some v):∃b o,s.a=some ⟨b,o,none⟩/\w.cell? ⟨b,o+i,none⟩=some v:=by
 cases h with
 |nil _ _ _ hcs=>rw[hcs] at hv;simp at hv
 |mk b o l ha hb hl hc hcs=>
  refine ⟨b,o,ha, ?_⟩;rw[hb.cell];rw[hcs,List.getElem?_take] at hv;split at hv
  ·rw[List.getElem?_drop] at hv;exact hv
  ·cases hv
theorem ck:∀(cs:List Value) (o:Nat) (vs:List Value) (i:Nat),o+vs.length≤cs.length->(putAt cs o vs)[i]?=if o≤i/\i<o+vs.length then vs[i-o]? else cs[i]?
 |cs,o,[],i,_=>by
  have:putAt cs o []=cs:=by cases cs<;>cases o<;>rfl
  rw[this,if_neg (by simp only[List.length_nil];omega)]
 | [],o,v::vs,i,h=>by simp at h
 |c::cs,0,v::vs,0,h=>by simp[putAt]
 |c::cs,0,v::vs,i+1,h=>by
  have:=ck cs 0 vs i (by simp at h⊢;omega);simp only[putAt,List.getElem?_cons_succ];rw[this];simp
 |c::cs,o+1,v::vs,0,h=>by simp[putAt]
 |c::cs,o+1,v::vs,i+1,h=>by
  have:=ck cs o (v::vs) i (by simp at h⊢;omega);simp only[putAt,List.getElem?_cons_succ];rw[this];simp only[List.length_cons] at*
  by_cases hi:o≤i/\i<o+(vs.length+1)
  ·rw[if_pos hi,if_pos om];congr 1;omega
  ·rw[if_neg hi,if_neg om]
theorem jI (cs:List Value) (o:Nat):putAt cs o []=cs:=by cases cs<;>cases o<;>rfl
section
variable {P:Program}
theorem fW {b:Nat}:∀(vs:List Value) (l:List Value) (o:Nat) (w:World),oL w b l->o+vs.length≤l.length->(∀v∈vs,v.oneCell'=true)->∀i j,o=j+i->
  ∃w',(storeCells ⟨b,j,none⟩ vs i).run P w= .ok () w'/\fN (·=b) w w'/\w'.heap.size=w.heap.size/\oL w' b (putAt l o vs)
 | [],l,o,w,hb,_,_,i,j,_=>⟨w,by simp[storeCells],fN.refl _ _,rfl,by rw[jI];exact hb⟩
 |v::vs,l,o,w,hb,hl,hv,i,j,ho=>by
  simp only[List.length_cons] at hl;have hs:St w ⟨b,o,none⟩ v (fun w'=>fN (·=b) w w'/\w'.heap.size=w.heap.size/\oL w' b (l.set o v)):=St.mk' hb om (hv v (by simp)) fun w' h1 h2 h3=>⟨h1,h2,h3⟩
  obtain ⟨h1,h2,h3,h4⟩:=sm (P:=P) hs;obtain ⟨w',h5,h6,h7,h8⟩:=fW vs (l.set o v) (o+1) _ h4 (by simp;omega) (fun u hu=>hv u (by simp[hu])) (i+1) j om;refine ⟨w', ?_,h2.then h6,om,by rw[nv];exact h8⟩;simp only[storeCells];rw[Sem.run_bind,show (Addr.mk b j none).add i=⟨b,o,none⟩ from by rw[aI,ho],h1];exact h5
theorem fQ {z:Nat} {w:World} {s:Sl} {cs:List Value} (h:jR z w s cs) (n:Nat) (hn:n≤s.len):(Builtin.firstCells z n (.slice s.a s.len s.cap)).run P w= .ok ⟨cs.take (n*z)⟩ w:=by
 cases h with
 |nil ha hl hc hcs=>
  have:n=0:=by omega
  subst this;simp[Builtin.firstCells,ha]
 |mk b o l ha hb hl hc hcs=>
  have h1:n*z≤s.len*z:=Nat.mul_le_mul_right z hn;have h2:s.len*z≤s.cap*z:=Nat.mul_le_mul_right z hl;have hlen:(cs.take (n*z)).length=n*z:=by rw[hcs];simp;omega
  simp only[Builtin.firstCells,ha];unfold loadCells
  have:=cw (P:=P) w ⟨b,o,none⟩ (cs.take (n*z)) 0 #[] (fun j v hj=>by
   rw[cG,List.getElem?_take] at hj;split at hj
   ·rw[hcs,List.getElem?_take] at hj
    split at hj
    ·rw[List.getElem?_drop] at hj
     rw[aI,Nat.zero_add,hb.cell];exact hj
    ·cases hj
   ·cases hj)
  rw[hlen] at this;rw[this];simp
end
end Go.Vc
namespace Go.Vc
open Go
theorem uN (n:Nat):∀(r c:Nat),Builtin.growBy n r c≤(c+1000)*2^r
 |0,c=>by simp[Builtin.growBy]
 |r+1,c=>by
  unfold Builtin.growBy;have hp:1≤2^r:=Nat.one_le_two_pow;split
  ·rw[Nat.pow_succ]
   have:c+1000≤(c+1000)*(2^r*2):=by
    have:1≤2^r*2:=by omega
    exact Nat.le_mul_of_pos_right _ om
   omega
  ·have h:=uN n r (c+(c+768) / 4)
   rw[Nat.pow_succ];have h2:c+(c+768) / 4+1000≤(c+1000)*2:=by omega
   calc _≤(c+(c+768) / 4+1000)*2^r:=h
    _≤((c+1000)*2)*2^r:=Nat.mul_le_mul_right _ h2
    _=(c+1000)*(2^r*2):=by rw[Nat.mul_assoc,Nat.mul_comm 2]
theorem sV (n c:Nat):Builtin.nextslicecap n c≤n+16*c+16000:=by
 unfold Builtin.nextslicecap;split
 ·omega
 ·split
  ·omega
  ·have h:=uN n 4 c
   simp only[Nat.reducePow] at h;have h2:(c+1000)*16=16*c+16000:=by rw[Nat.add_mul,Nat.mul_comm]
   rw[h2] at h;exact Nat.le_trans h (Nat.add_le_add_right (Nat.le_add_left _ _) _)
structure IW (z:Nat) (w:World) (s:Sl) (cs:List Value) (s':Sl) (w':World):Prop where
 own:jR z w' s' cs
 rr:fN (fun k=>∃a,s.a=some a/\a.block=k) w w'
 size:w'.heap.size≤w.heap.size+1
 here:s'.In fun k=>(∃a,s.a=some a/\a.block=k)∨k=w.heap.size
variable {P:Program}
theorem Dz {T el:TypeId} {inf:TypeInfo} {zv:Value} {z:Nat} {w:World} {s x:Sl} {cs ds:List Value}
  (hu:P.underlying T=some (.slice el)) (hi:P.info? el=some inf) (hz:inf.zero=some zv) (hsz:inf.size=z) (hzc:zv.cells.size=z) (hb:1≤inf.bytes)
  (hs:jR z w s cs) (hdl:ds.length=x.len*z) (hnew:∀W:World,W.heap=w.heap->(Builtin.firstCells z x.len (.slice x.a x.len x.cap)).run P W= .ok ⟨ds⟩ W) (hd:∀v∈ds,v.oneCell'=true)
  (hbig:(17*(s.len+x.len)+16000)*inf.bytes≤2^48):
  ∃s' w',bo P [T,T] T (.slice s.a s.len s.cap) (.slice x.a x.len x.cap) w s' w'/\s'.len=s.len+x.len/\IW z w s (cs++ds) s' w':=by
 have hsize:∀w,(sizeOf el).run P w= .ok z w:=fun w=>by rw[eX hi w];simp[sz,hi,hsz]
 have hinfo:∀w,(typeInfo el).run P w= .ok inf w:=fun w=>by simp[typeInfo,hi]
 have hzero:∀w,(zeroValue el).run P w= .ok zv w:=fun w=>by simp[zeroValue,hinfo,hz]
 have hcl:=hs.length;have hcells:=hnew w rfl;by_cases hcap:s.len+x.len≤s.cap
 ·
  by_cases hnone:s.a=none
  ·have hz0:s.len=0/\s.cap=0/\cs= []:=by
    cases hs with
    |nil _ h1 h2 h3=>exact ⟨h1,h2,h3⟩
    |mk b o l h _ _ _ _=>rw[h] at hnone;cases hnone
   have hx0:x.len=0:=by omega
   have hds:ds= []:=by
    apply List.eq_nil_of_length_eq_zero;rw[hdl,hx0];simp
   refine ⟨⟨none,0,0⟩,w, ?_,by simp[hz0.1,hx0], .nil rfl rfl rfl (by simp[hz0.2.2,hds]),fN.refl _ _,om,fun a ha=>by cases ha⟩;unfold bo Builtin.append_;simp only[hnone,hz0.1,hz0.2.1] at*
   subst hds;rw[hx0] at hcells;simp[aN hu,hsize,Builtin.lenOf,hx0,hcells]
  ·cases hs with
   |nil h _ _ _=>exact absurd h hnone
   |mk b o l ha hbl hl hc hcs=>
    have hmul:(s.len+x.len)*z≤s.cap*z:=Nat.mul_le_mul_right z hcap
    have hroom:o+s.len*z+ds.length≤l.length:=by
     rw[hdl];rw[Nat.add_mul] at hmul;omega
    obtain ⟨w',h1,h2,h3,h4⟩:=fW (P:=P) ds l (o+s.len*z) w hbl hroom hd 0 (o+s.len*z) om;refine ⟨⟨s.a,s.len+x.len,s.cap⟩,w', ?_,rfl, ?_,h2.mono fun k _ hk=>⟨_,ha,hk.symm⟩,om,fun a h=>?_⟩
    ·unfold bo Builtin.append_
     simp only[List.getElem?_toArray,List.getElem?_cons_zero,List.getElem?_cons_succ,Sem.run_bind,aN hu,Result.andThen_ok,hsize,Builtin.lenOf,Sem.run_pure,hcap,if_true,Bool.false_eq_true,if_false,Bool.not_false];rw[hcells];simp only[Result.andThen_ok,ha,aI];rw[Sem.run_bind,h1];rfl
    ·refine .mk b o _ ha h4 (by simpa using hcap) (by rw[fU];exact hc) ?_
     apply List.ext_getElem?;intro i;have hsl:s.len*z≤s.cap*z:=Nat.mul_le_mul_right z hl;rw[List.getElem?_take];simp only[Nat.add_mul] at*
     by_cases hi':i<s.len*z+x.len*z
     ·rw[if_pos hi',List.getElem?_drop,ck _ _ _ _ hroom]
      by_cases h5:i<s.len*z
      ·rw[if_neg om,List.getElem?_append_left om,hcs,List.getElem?_take,if_pos h5,List.getElem?_drop]
      ·rw[if_pos om,List.getElem?_append_right om]
       congr 1;omega
     ·rw[if_neg hi']
      apply List.getElem?_eq_none;simp;omega
    ·exact .inl ⟨a,h,rfl⟩
 ·
  have hlc:=hs.fo
  let need:=s.len+x.len
  have hneed:¬need≤s.cap:=hcap
  let q:Question:= .appendCap need s.cap el
  let n:=q.cut (w.tape w.drawn q)
  have hle:=sV need s.cap
  have hlim:¬(Builtin.nextslicecap need s.cap*inf.bytes>2^48):=by
   have h0:Builtin.nextslicecap need s.cap≤17*(s.len+x.len)+16000:=by
    refine Nat.le_trans hle ?_;show s.len+x.len+16*s.cap+16000≤_;generalize 16000=y;omega
   have:Builtin.nextslicecap need s.cap*inf.bytes≤(17*(s.len+x.len)+16000)*inf.bytes:=Nat.mul_le_mul_right _ h0;omega
  have hneedb:need≤2^48:=by
   have h1:(17*(s.len+x.len)+16000)*1≤(17*(s.len+x.len)+16000)*inf.bytes:=Nat.mul_le_mul_left _ hb;show s.len+x.len≤_;omega
  have hn1:need≤n:=by
   show need≤need+_%_;omega
  let row:List Value:=cs++ds++(Builtin.zeroCells zv.cells (n-need)).toList
  let w':=w.drew.alloc (.cells ⟨row⟩ el)
  have hold:∀W:World,W.heap=w.heap->(Builtin.firstCells z s.len (.slice s.a s.len s.cap)).run P W= .ok ⟨cs⟩ W:=fun W hW=>by
   have hs':jR z W s cs:=by
    cases hs with
    |nil a b c d=>exact .nil a b c d
    |mk b o l a h c d e=>
     obtain ⟨t,ht⟩:=h;exact .mk b o l a ⟨t,by rw[hW];exact ht⟩ c d e
   rw[fQ hs' s.len (Nat.le_refl _),←hcl,List.take_length]
  refine ⟨⟨some ⟨w.heap.size,0,none⟩,need,n⟩,w', ?_,rfl, ?_,((jP (w:=w) (w':=w.drew) rfl rfl rfl rfl).no (eJ _ _)).EI,by simp[w'],fun a h=> .inr (by cases h;rfl)⟩
  ·unfold bo Builtin.append_
   simp only[List.getElem?_toArray,List.getElem?_cons_zero,List.getElem?_cons_succ,Sem.run_bind,aN hu,Result.andThen_ok,hsize,Builtin.lenOf,Sem.run_pure,hcap,Bool.false_eq_true,if_false,Bool.not_false,hinfo]
   have hc1:¬(((s.len+x.len:Nat):Int)>IntKind.i64.max/\(False∨inf.bytes=0)):=by
    rintro ⟨_,h|h⟩
    ·exact h
    ·omega
   rw[if_neg hc1,Sem.run_bind,hinfo];simp only[Result.andThen_ok];rw[if_neg hlim,Sem.run_bind,run_choose];have hf:Question.forced (.appendCap (s.len+x.len) s.cap el)=false:=rfl;simp only[hf,Bool.false_eq_true,if_false,Result.andThen_ok,World.drew_eq];rw[Sem.run_bind,hinfo];simp only[Result.andThen_ok];rw[Sem.run_bind,run_askRoom];simp only[Result.andThen_ok];rw[Sem.run_bind,hold w.drew rfl];simp only[Result.andThen_ok,if_true];rw[Sem.run_bind,hnew w.drew rfl];simp only[Result.andThen_ok];rw[Sem.run_bind,hzero];simp only[Result.andThen_ok,newRow,Sem.run_bind,run_newObj,Sem.run_pure]
   have hrow:((⟨cs⟩:Array Value)++⟨ds⟩++Builtin.zeroCells zv.cells (n-need))=⟨row⟩:=by
    apply Array.ext';simp[row]
   show Result.ok (Value.slice (some ⟨w.heap.size,0,none⟩) (s.len+x.len) n) (w.drew.alloc (.cells ((⟨cs⟩:Array Value)++⟨ds⟩++Builtin.zeroCells zv.cells (n-need)) el))=_;rw[hrow]
  ·have hzl:(Builtin.zeroCells zv.cells (n-need)).toList.length=(n-need)*z:=by
    simp[Builtin.zeroCells,hzc]
   have hrl:row.length=n*z:=by
    simp only[row,List.length_append,hcl,hdl,hzl];rw[←Nat.add_mul,←Nat.add_mul];congr 1;show s.len+x.len+(n-(s.len+x.len))=n;have:s.len+x.len≤n:=hn1;omega
   refine .mk w.heap.size 0 row rfl ⟨el, ?_⟩ hn1 (by rw[hrl];show 0+n*z≤n*z;omega) ?_
   ·exact heap_alloc_new w.drew _
   ·show cs++ds=(row.drop 0).take ((s.len+x.len)*z)
    have:(s.len+x.len)*z=(cs++ds).length:=by rw[List.length_append,hcl,hdl,Nat.add_mul]
    rw[this,List.drop_zero];simp only[row];rw[List.take_left]
theorem sE {z:Nat} {w:World} {x:Sl} {ds:List Value} (hx:jR z w x ds):∀W:World,W.heap=w.heap->(Builtin.firstCells z x.len (.slice x.a x.len x.cap)).run P W= .ok ⟨ds⟩ W:=fun W hW=>by
 have hdl:=hx.length
 have hx':jR z W x ds:=by
  cases hx with
  |nil a b c d=>exact .nil a b c d
  |mk b o l a h c d e=>
   obtain ⟨t,ht⟩:=h;exact .mk b o l a ⟨t,by rw[hW];exact ht⟩ c d e
 rw[fQ hx' x.len (Nat.le_refl _),←hdl,List.take_length]
end Go.Vc
namespace Go.Vc
open Go
theorem gw {α β:Type} (f:α->β):∀(l:List α) (i:Nat),(l.eraseIdx i).map f=(l.map f).eraseIdx i
 | [],_=>rfl
 |_::_,0=>rfl
 |a::l,i+1=>by simp[gw f l i]
section
variable {K V:Type} [DecidableEq K]
def cF:List (K × V)->K->Option V
 | [],_=>none
 |(a,v)::l,k=>if a=k then some v else cF l k
def iQ:List (K × V)->K->V->List (K × V)
 | [],k,v=>[(k,v)]
 |(a,u)::l,k,v=>if a=k then (a,v)::l else (a,u)::iQ l k v
def kL:List (K × V)->K->List (K × V)
 | [],_=>[]
 |(a,u)::l,k=>if a=k then l else (a,u)::kL l k
theorem pk (l:List (K × V)) (k:K) (v:V) (x:K):cF (iQ l k v) x=if k=x then some v else cF l x:=by
 induction l with
 |nil=>simp[iQ,cF]
 |cons p l ih=>
  obtain ⟨a,u⟩:=p;simp only[iQ];by_cases h:a=k
  ·subst h;simp only[if_true,cF];split<;>rfl
  ·simp only[h,if_false,cF,ih]
   by_cases h2:a=x
   ·subst h2;rw[if_pos rfl,if_neg (fun e=>h e.symm)];simp
   ·simp[h2]
theorem od {l:List (K × V)} {k:K} {v:V} (h:cF l k=some v):(k,v)∈l:=by
 induction l with
 |nil=>cases h
 |cons p l ih=>
  obtain ⟨a,u⟩:=p;simp only[cF] at h;split at h
  ·rename_i e;subst e;cases h;simp
  ·exact List.mem_cons_of_mem _ (ih h)
theorem ff {l:List (K × V)} {k:K}:cF l k=none↔k∉l.map (·.1):=by
 induction l with
 |nil=>simp[cF]
 |cons p l ih=>
  obtain ⟨a,u⟩:=p;simp only[cF,List.map_cons,List.mem_cons,not_or];split
  ·rename_i e;subst e;simp
  ·rename_i e;rw[ih];exact ⟨fun h=>⟨fun e'=>e e'.symm,h⟩,fun h=>h.2⟩
theorem pj {l:List (K × V)} (hn:(l.map (·.1)).Nodup) (k x:K):cF (kL l k) x=if k=x then none else cF l x:=by
 induction l with
 |nil=>simp[kL,cF]
 |cons p l ih=>
  obtain ⟨a,u⟩:=p;simp only[List.map_cons,List.nodup_cons] at hn;simp only[kL];by_cases h:a=k
  ·subst h
   simp only[if_true,cF];by_cases h2:a=x
   ·subst h2;rw[if_pos rfl];exact ff.2 hn.1
   ·simp[h2]
  ·simp only[h,if_false,cF,ih hn.2]
   by_cases h2:a=x
   ·subst h2;rw[if_pos rfl,if_neg (fun e=>h e.symm)];simp
   ·simp[h2]
theorem Cg {l:List (K × V)} (k:K) (v:V) (x:K):x∈(iQ l k v).map (·.1)↔x=k∨x∈l.map (·.1):=by
 induction l with
 |nil=>simp[iQ]
 |cons p l ih=>
  obtain ⟨a,u⟩:=p;simp only[iQ];by_cases h:a=k
  ·subst h;simp
  ·simp only[h,if_false,List.map_cons,List.mem_cons,ih]
   constructor
   ·rintro (h|h|h)<;>simp[h]
   ·rintro (h|h|h)<;>simp[h]
theorem nj {l:List (K × V)} (hn:(l.map (·.1)).Nodup) (k:K) (v:V):((iQ l k v).map (·.1)).Nodup:=by
 induction l with
 |nil=>simp[iQ]
 |cons p l ih=>
  obtain ⟨a,u⟩:=p;simp only[List.map_cons,List.nodup_cons] at hn;simp only[iQ];by_cases h:a=k
  ·subst h;simpa using hn
  ·simp only[h,if_false,List.map_cons,List.nodup_cons]
   refine ⟨fun hm=>?_,ih hn.2⟩;rcases (Cg k v a).1 hm with h1|h1
   ·exact h h1
   ·exact hn.1 h1
theorem vE (l:List (K × V)) (k:K):(kL l k).Sublist l:=by
 induction l with
 |nil=>exact .slnil
 |cons p l ih=>
  obtain ⟨a,u⟩:=p;simp only[kL];split
  ·exact List.sublist_cons_self _ _
  ·exact ih.cons_cons _
theorem ni {l:List (K × V)} (hn:(l.map (·.1)).Nodup) (k:K):((kL l k).map (·.1)).Nodup:=List.Nodup.sublist ((vE l k).map _) hn
end
structure iU (P:Program) (kt:TypeId) {K:Type} [DecidableEq K] (enc:K->Value):Prop where
 check:∀b k w,(Instr.checkKey b 10000 kt (enc k)).run P w= .ok () w
 find:∀(k:K) (es:List MapEntry) (ks:List K) (w:World),es.map (·.key)=ks.map enc->
  (Instr.findKey kt (enc k) es).run P w= .ok ((ks.findIdx? fun x=>decide (x=k)).bind fun i=>(es[i]?).map fun e=>(i,e.val)) w
 same:∀k,Instr.sameBits 10000 (enc k) (enc k)=true
structure je {K V:Type} (enc:K->Value) (encV:V->Value) (w:World) (m:Nat) (L:List (K × V)):Prop where
 ex:∃es c,kJ w m es c/\es.toList.map (fun e=>(e.key,e.val))=L.map (fun p=>(enc p.1,encV p.2))/\(es.toList.map (·.born)).Nodup/\∀e∈es.toList,e.born<c
 nodup:(L.map (·.1)).Nodup
theorem je.lt {K V:Type} {enc:K->Value} {encV:V->Value} {w:World} {m:Nat} {L:List (K × V)} (h:je enc encV w m L):m<w.heap.size:=by
 obtain ⟨es,c,h,_⟩:=h.ex;exact h.lt
theorem je.rr {K V:Type} {enc:K->Value} {encV:V->Value} {F:Nat->Prop} {w w':World} {m:Nat} {L:List (K × V)} (h:je enc encV w m L) (u:fN F w w') (hn:¬F m):je enc encV w' m L:=by
 obtain ⟨es,c,h1,h2⟩:=h.ex;exact ⟨⟨es,c,h1.rr u hn,h2⟩,h.nodup⟩
section
variable {P:Program} {T kt el:TypeId} {K V:Type} [DecidableEq K] {enc:K->Value} {encV:V->Value}
theorem run_getObj_map {w:World} {m:Nat} {es:Array MapEntry} {c:Nat} (h:kJ w m es c):(getObj m).run P w= .ok (.map es c) w:=by
 unfold kJ at h;simp[getObj,Sem.run,h]
theorem run_setObj_map {w:World} {m:Nat} {es:Array MapEntry} {c:Nat} (h:kJ w m es c) (o:Obj):(setObj m o).run P w= .ok () { w with heap:=w.heap.setIfInBounds m o}:=by
 unfold kJ at h;simp[setObj,Sem.run,h]
theorem kv (w:World) (m:Nat) (o:Obj):fN (·=m) w { w with heap:=w.heap.setIfInBounds m o}:=
 ⟨rfl,rfl,rfl,by simp,fun k _ hn=>by
  show (w.heap.setIfInBounds m o)[k]?=_;rw[Array.getElem?_setIfInBounds_ne (fun e=>hn e.symm)]⟩
theorem jV {w:World} {m:Nat} {es:Array MapEntry} {c:Nat} (h:kJ w m es c) (es':Array MapEntry) (c':Nat):kJ { w with heap:=w.heap.setIfInBounds m (.map es' c')} m es' c':=by
 have:=h.lt;show (w.heap.setIfInBounds m _)[m]?=_;rw[Array.getElem?_setIfInBounds_self_of_lt this]
theorem vT (L:List (K × V)) (k:K):∀v,cF L k=some v↔∃i,(L.map (·.1)).findIdx? (fun x=>decide (x=k))=some i/\L[i]?.map (·.2)=some v:=by
 intro v
 induction L with
 |nil=>simp[cF]
 |cons p l ih=>
  obtain ⟨a,u⟩:=p;simp only[cF,List.map_cons,List.findIdx?_cons];by_cases h:a=k
  ·simp[h]
  ·simp only[h,if_false,decide_false,Bool.false_eq_true,ih]
   constructor
   ·rintro ⟨i,h1,h2⟩;exact ⟨i+1,by simp[h1],by simpa using h2⟩
   ·rintro ⟨i,h1,h2⟩
    simp only[Option.map_eq_some_iff] at h1;obtain ⟨j,h1,rfl⟩:=h1;exact ⟨j,h1,by simpa using h2⟩
theorem vU (L:List (K × V)) (k:K):cF L k=none↔(L.map (·.1)).findIdx? (fun x=>decide (x=k))=none:=by
 rw[ff,List.findIdx?_eq_none_iff];constructor
 ·intro h x hx;simp;intro e;subst e;exact h hx
 ·intro h hx;have:=h k hx;simp at this
theorem lv {es:List MapEntry} {L:List (K × V)} (h:es.map (fun e=>(e.key,e.val))=L.map (fun p=>(enc p.1,encV p.2))):es.map (·.key)=(L.map (·.1)).map enc:=by
 have:=congrArg (List.map Prod.fst) h;simpa [Function.comp_def] using this
theorem xC {es:List MapEntry} {L:List (K × V)} (h:es.map (fun e=>(e.key,e.val))=L.map (fun p=>(enc p.1,encV p.2))) (i:Nat):(es[i]?).map (·.val)=(L[i]?).map fun p=>encV p.2:=by
 have:=congrArg (fun l=>(l[i]?).map Prod.snd) h;simpa [Function.comp_def] using this
theorem oT (hk:iU P kt enc) {es:Array MapEntry} {L:List (K × V)} (h:es.toList.map (fun e=>(e.key,e.val))=L.map (fun p=>(enc p.1,encV p.2))) {k:K} {v:V} (hl:cF L k=some v) (w:World):
  ∃i,(Instr.findKey kt (enc k) es.toList).run P w= .ok (some (i,encV v)) w/\(L.map (·.1)).findIdx? (fun x=>decide (x=k))=some i:=by
 obtain ⟨i,h1,h2⟩:=(vT L k v).1 hl;refine ⟨i, ?_,h1⟩;rw[hk.find k es.toList (L.map (·.1)) w (lv h),h1];simp only[Option.bind_some];have hv:=xC h i
 have:(L[i]?).map (fun p=>encV p.2)=some (encV v):=by
  have:=congrArg (Option.map encV) h2;simpa [Function.comp_def] using this
 rw[this] at hv;cases he:es.toList[i]? with
 |none=>rw[he] at hv;simp at hv
 |some e=>rw[he] at hv;simp at hv;simp[hv]
theorem ma (hk:iU P kt enc) {es:Array MapEntry} {L:List (K × V)} (h:es.toList.map (fun e=>(e.key,e.val))=L.map (fun p=>(enc p.1,encV p.2))) {k:K} (hl:cF L k=none) (w:World):
  (Instr.findKey kt (enc k) es.toList).run P w= .ok none w:=by
 rw[hk.find k es.toList (L.map (·.1)) w (lv h),(vU L k).1 hl];rfl
theorem je.Cv (hu:P.underlying T=some (.map kt el)) (hk:iU P kt enc) {w:World} {m:Nat} {L:List (K × V)} (h:je enc encV w m L) {k:K} {v:V} (hl:cF L k=some v):
  oM P T (.map (some m)) (enc k) (encV v) true w/\wW P T (.map (some m)) (enc k) (encV v) w:=by
 obtain ⟨es,c,h1,h2,_⟩:=h.ex;obtain ⟨i,h3,_⟩:=oT hk h2 hl w;constructor
 ·unfold oM Instr.lookup
  simp only[Sem.run_bind,aN hu,Result.andThen_ok,run_getObj_map h1,Sem.run_pure,hk.check,h3,if_true]
 ·unfold wW Instr.lookup
  simp only[Sem.run_bind,aN hu,Result.andThen_ok,run_getObj_map h1,Sem.run_pure,hk.check,h3,Bool.false_eq_true,if_false]
theorem je.ff (hu:P.underlying T=some (.map kt el)) (hk:iU P kt enc) {z:Value} (hz:∀w,(zeroValue el).run P w= .ok z w) {w:World} {m:Nat} {L:List (K × V)} (h:je enc encV w m L) {k:K} (hl:cF L k=none):
  oM P T (.map (some m)) (enc k) z false w/\wW P T (.map (some m)) (enc k) z w:=by
 obtain ⟨es,c,h1,h2,_⟩:=h.ex;have h3:=ma hk h2 hl w;constructor
 ·unfold oM Instr.lookup
  simp only[Sem.run_bind,aN hu,Result.andThen_ok,run_getObj_map h1,Sem.run_pure,hk.check,h3,hz,if_true]
 ·unfold wW Instr.lookup
  simp only[Sem.run_bind,aN hu,Result.andThen_ok,run_getObj_map h1,Sem.run_pure,hk.check,h3,hz,Bool.false_eq_true,if_false]
theorem xq:∀(L:List (K × V)) (k:K) (v:V) (i:Nat),(L.map (·.1)).findIdx? (fun x=>decide (x=k))=some i->iQ L k v=L.set i (k,v)
 | [],k,v,i,h=>by simp at h
 |(a,u)::l,k,v,i,h=>by
  simp only[List.map_cons,List.findIdx?_cons] at h;simp only[iQ];by_cases e:a=k
  ·subst e
   simp only[decide_true,if_true,Option.some.injEq] at h;subst h;simp
  ·simp only[e,decide_false,Bool.false_eq_true,if_false,Option.map_eq_some_iff] at h
   obtain ⟨j,h,rfl⟩:=h;simp[e,xq l k v j h]
theorem xp:∀(L:List (K × V)) (k:K) (v:V),cF L k=none->iQ L k v=L++ [(k,v)]
 | [],k,v,_=>rfl
 |(a,u)::l,k,v,h=>by
  simp only[cF] at h;split at h
  ·cases h
  ·rename_i e;simp[iQ,e,xp l k v h]
theorem sv:∀(L:List (K × V)) (k:K) (i:Nat),(L.map (·.1)).findIdx? (fun x=>decide (x=k))=some i->kL L k=L.eraseIdx i
 | [],k,i,h=>by simp at h
 |(a,u)::l,k,i,h=>by
  simp only[List.map_cons,List.findIdx?_cons] at h;simp only[kL];by_cases e:a=k
  ·subst e
   simp only[decide_true,if_true,Option.some.injEq] at h;subst h;simp
  ·simp only[e,decide_false,Bool.false_eq_true,if_false,Option.map_eq_some_iff] at h
   obtain ⟨j,h,rfl⟩:=h;simp[e,sv l k j h]
theorem ux:∀(L:List (K × V)) (k:K),cF L k=none->kL L k=L
 | [],k,_=>rfl
 |(a,u)::l,k,h=>by
  simp only[cF] at h;split at h
  ·cases h
  ·rename_i e;simp[kL,e,ux l k h]
theorem je.put (hu:P.underlying T=some (.map kt el)) (hk:iU P kt enc) {w:World} {m:Nat} {L:List (K × V)} (h:je enc encV w m L) (k:K) (v:V):
  ∃w',fL P T (.map (some m)) (enc k) (encV v) w w'/\fN (·=m) w w'/\w'.heap.size=w.heap.size/\je enc encV w' m (iQ L k v):=by
 obtain ⟨es,c,h1,h2,h3,h4⟩:=h.ex;cases hl:cF L k with
 |some u=>
  obtain ⟨i,h5,h6⟩:=oT hk h2 hl w
  have hi:i<L.length:=by
   have:=(List.findIdx?_eq_some_iff_getElem.1 h6).1;simpa using this
  have hlen:es.size=L.length:=by have:=congrArg List.length h2;simpa using this
  have hkey:((es[i]?).map (·.key)).getD (enc k)=enc k:=by
   have h7:=congrArg (fun l=>l[i]?) (lv h2);obtain ⟨h8,h9,_⟩:=List.findIdx?_eq_some_iff_getElem.1 h6;have h9:L[i].1=k:=by simpa using h9
   simp only[List.getElem?_map,Array.getElem?_toList,gE hi,Option.map_some,h9] at h7;rw[h7];rfl
  refine ⟨_, ?_,kv w m _,by simp,⟨⟨_,_,jV h1 (es.modify i fun e=>{ e with key:=enc k,val:=encV v}) c, ?_, ?_, ?_⟩,nj h.nodup k v⟩⟩
  ·unfold fL Instr.mapUpdate
   simp only[Sem.run_bind,aN hu,Result.andThen_ok,run_getObj_map h1,hk.check,h5,hkey,Instr.keyThatStays,hk.same,if_true,Sem.run_pure];exact run_setObj_map h1 _
  ·rw[xq L k v i h6]
   apply List.ext_getElem?;intro j;have h7:=congrArg (fun l=>l[j]?) h2;simp only[List.getElem?_map,Array.getElem?_toList,Array.getElem?_modify,List.getElem?_set] at h7⊢;by_cases e:i=j
   ·subst e
    have:i<es.size:=by omega
    simp[hi,this]
   ·simp only[e,if_false];exact h7
  ·have:(es.modify i fun e=>{ e with key:=enc k,val:=encV v}).toList.map (·.born)=es.toList.map (·.born):=by
    apply List.ext_getElem?;intro j;simp only[List.getElem?_map,Array.getElem?_toList,Array.getElem?_modify];by_cases e:i=j
    ·subst e;cases es[i]?<;>simp
    ·simp[e]
   rw[this];exact h3
  ·intro e he
   obtain ⟨j,hj⟩:=List.mem_iff_getElem?.1 he;simp only[Array.getElem?_toList,Array.getElem?_modify] at hj;by_cases e':i=j
   ·subst e'
    simp only[if_true,Option.map_eq_some_iff] at hj;obtain ⟨x,hx,rfl⟩:=hj;exact h4 x (List.mem_iff_getElem?.2 ⟨i,by simpa using hx⟩)
   ·simp only[e',if_false] at hj
    exact h4 e (List.mem_iff_getElem?.2 ⟨j,by simpa using hj⟩)
 |none=>
  have h5:=ma hk h2 hl w;refine ⟨_, ?_,kv w m _,by simp,⟨⟨_,_,jV h1 (es.push { key:=enc k,val:=encV v,born:=c}) (c+1), ?_, ?_, ?_⟩,nj h.nodup k v⟩⟩
  ·unfold fL Instr.mapUpdate
   simp only[Sem.run_bind,aN hu,Result.andThen_ok,run_getObj_map h1,hk.check,h5];exact run_setObj_map h1 _
  ·rw[xp L k v hl]
   simp[h2]
  ·simp only[Array.toList_push,List.map_append,List.map_cons,List.map_nil]
   rw[List.nodup_append];refine ⟨h3,by simp, ?_⟩;intro a ha b hb;simp only[List.mem_singleton] at hb;subst hb;obtain ⟨e,he,rfl⟩:=List.mem_map.1 ha;have:=h4 e he;omega
  ·intro e he
   simp only[Array.toList_push,List.mem_append,List.mem_singleton] at he;rcases he with he|he
   ·have:=h4 e he;omega
   ·subst he;show c<c+1;omega
theorem je.del (hu:P.underlying T=some (.map kt el)) (hk:iU P kt enc) {w:World} {m:Nat} {L:List (K × V)} {t:TypeId} {ts:List TypeId} (h:je enc encV w m L) (k:K):
  ∃w',tP P (T::ts) t (.map (some m)) (enc k) w w'/\fN (·=m) w w'/\w'.heap.size=w.heap.size/\je enc encV w' m (kL L k):=by
 obtain ⟨es,c,h1,h2,h3,h4⟩:=h.ex;cases hl:cF L k with
 |some u=>
  obtain ⟨i,h5,h6⟩:=oT hk h2 hl w;refine ⟨_, ?_,kv w m _,by simp,⟨⟨_,_,jV h1 (es.eraseIdxIfInBounds i) c, ?_, ?_, ?_⟩,ni h.nodup k⟩⟩
  ·unfold tP Builtin.delete_
   simp only[List.getElem?_toArray,List.getElem?_cons_zero,List.getElem?_cons_succ,Sem.run_bind,aN hu,Result.andThen_ok,run_getObj_map h1,hk.check,h5];rw[run_setObj_map h1];rfl
  ·rw[sv L k i h6]
   simp only[Array.toList_eraseIdxIfInBounds];rw[gw,gw,h2]
  ·simp only[Array.toList_eraseIdxIfInBounds]
   rw[gw];exact List.Nodup.sublist (List.eraseIdx_sublist _ _) h3
  ·intro e he
   simp only[Array.toList_eraseIdxIfInBounds] at he;exact h4 e ((List.eraseIdx_sublist _ _).mem he)
 |none=>
  have h5:=ma hk h2 hl w;refine ⟨_, ?_,kv w m _,by simp,⟨⟨_,_,jV h1 es c, ?_,h3,h4⟩,ni h.nodup k⟩⟩
  ·unfold tP Builtin.delete_
   simp only[List.getElem?_toArray,List.getElem?_cons_zero,List.getElem?_cons_succ,Sem.run_bind,aN hu,Result.andThen_ok,run_getObj_map h1,hk.check,h5];rw[run_setObj_map h1];rfl
  ·rw[ux L k hl];exact h2
theorem aF (j:IntKind) (hu:P.underlying kt=some (.int j)):iU P kt (fun n:Int=>Value.int j n):=by
 have hfind:∀(k:Int) (es:List MapEntry) (ks:List Int) (i:Nat),es.map (·.key)=ks.map (fun n=>Value.int j n)->
   Instr.findNow (.int j) (.int j k) es i=some ((ks.findIdx? fun x=>decide (x=k)).bind fun q=>(es[q]?).map fun e=>(q+i,e.val)):=by
  intro k es
  induction es with
  |nil=>intro ks i h;cases ks with
   |nil=>rfl
   |cons _ _=>simp at h
  |cons e es ih=>
   intro ks i h;cases ks with
   |nil=>simp at h
   |cons x ks=>
    simp only[List.map_cons,List.cons.injEq] at h;simp only[Instr.findNow,h.1,Instr.sameNow,if_true];by_cases hx:x=k
    ·subst hx;simp[List.findIdx?_cons]
    ·have:(k==x)=false:=by simpa using fun e=>hx e.symm
     rw[this];simp only[ih ks (i+1) h.2,List.findIdx?_cons,hx,decide_false,Bool.false_eq_true,if_false];cases hq:ks.findIdx? (fun x=>decide (x=k)) with
     |none=>rfl
     |some q=>
      simp only[Option.bind_some,Option.map_some,List.getElem?_cons_succ];congr 2;funext e;congr 1;omega
 refine ⟨fun b k w=>?_,fun k es ks w h=>?_,fun k=>by unfold Instr.sameBits;simp⟩
 ·unfold Instr.checkKey
  rw[Sem.run_bind,aN hu];rfl
 ·unfold Instr.findKey
  rw[Sem.run_bind,aN hu];simp only[Result.andThen_ok,hfind k es ks 0 h,Nat.add_zero];rfl
end
end Go.Vc
namespace Go.Vc
open Go
structure aA where
 holds:(Nat->Prop)->World->Prop
 loc:∀(G:Nat->Prop) (w w':World),holds G w->(∀k,G k->w'.heap[k]?=w.heap[k]?)->holds G w'
 up:∀(G G':Nat->Prop) (w:World),holds G w->(∀k,G k->G' k)->holds G' w
def fu (B:Nat) (w:World) (L:List aA):Prop:=
 ∃Z:List (aA ×(Nat->Prop)),Z.map (·.1)=L/\(∀p∈Z,p.1.holds p.2 w/\∀k,p.2 k->B≤k/\k<w.heap.size)/\Z.Pairwise fun p q=>∀k,p.2 k->¬q.2 k
structure Ow (B:Nat) (w0 w:World) (L:List aA):Prop where
 base:B≤w0.heap.size
 rr:fN (B≤·) w0 w
 held:fu B w L
section
variable {B:Nat} {w0 w:World} {L R:List aA}
theorem Ow.size (h:Ow B w0 w L):B≤w.heap.size:=Nat.le_trans h.base h.rr.size
theorem Ow.below (h:Ow B w0 w L):RowKit.Below B w0 w:=h.rr.below h.base fun _ h=>h
theorem Ow.start (w:World):Ow w.heap.size w w []:=⟨Nat.le_refl _,fN.refl _ _,[],rfl,by simp, .nil⟩
theorem fu.take (h:fu B w L) (i:Nat) {A:aA} (hi:L[i]?=some A):fu B w (A::L.eraseIdx i):=by
 obtain ⟨Z,h1,h2,h3⟩:=h;subst h1;rw[List.getElem?_map] at hi;cases hz:Z[i]? with
 |none=>rw[hz] at hi;cases hi
 |some p=>
  rw[hz] at hi;simp only[Option.map_some,Option.some.injEq] at hi;subst hi;refine ⟨p::Z.eraseIdx i,by simp[gw], ?_, ?_⟩
  ·intro q hq
   rcases List.mem_cons.1 hq with rfl|hq
   ·exact h2 _ (List.mem_of_getElem? hz)
   ·exact h2 _ ((List.eraseIdx_sublist _ _).mem hq)
  ·refine List.pairwise_cons.2 ⟨?_,h3.sublist (List.eraseIdx_sublist _ _)⟩
   have:∀(Z:List (aA ×(Nat->Prop))) (i:Nat),Z[i]?=some p->Z.Pairwise (fun p q=>∀k,p.2 k->¬q.2 k)->∀q∈Z.eraseIdx i,∀k,p.2 k->¬q.2 k:=by
    intro Z
    induction Z with
    |nil=>intro i h;simp at h
    |cons x Z ih=>
     intro i hi hp q hq;obtain ⟨hx,hZ⟩:=List.pairwise_cons.1 hp;cases i with
     |zero=>simp at hi;subst hi;exact hx q (by simpa using hq)
     |succ i=>
      simp only[List.getElem?_cons_succ] at hi;simp only[List.eraseIdx_cons_succ,List.mem_cons] at hq;rcases hq with rfl|hq
      ·intro k hk hq';exact hx p (List.mem_of_getElem? hi) k hq' hk
      ·exact ih i hi hZ q hq
   exact this Z i hz h3
theorem fu.drop {A:aA} (h:fu B w (A::R)):fu B w R:=by
 obtain ⟨Z,h1,h2,h3⟩:=h;cases Z with
 |nil=>cases h1
 |cons p Z=>
  simp only[List.map_cons,List.cons.injEq] at h1;exact ⟨Z,h1.2,fun q hq=>h2 q (by simp[hq]),(List.pairwise_cons.1 h3).2⟩
theorem fu.cM {A:aA} (h:fu B w (A::R)):∃G:Nat->Prop,A.holds G w/\(∀k,G k->B≤k/\k<w.heap.size)/\
  ∃Z:List (aA ×(Nat->Prop)),Z.map (·.1)=R/\(∀p∈Z,p.1.holds p.2 w/\∀k,p.2 k->B≤k/\k<w.heap.size)/\Z.Pairwise (fun p q=>∀k,p.2 k->¬q.2 k)/\∀q∈Z,∀k,G k->¬q.2 k:=by
 obtain ⟨Z,h1,h2,h3⟩:=h;cases Z with
 |nil=>cases h1
 |cons p Z=>
  simp only[List.map_cons,List.cons.injEq] at h1;obtain ⟨rfl,h1⟩:=h1;obtain ⟨h4,h5⟩:=h2 p (by simp);exact ⟨p.2,h4,h5,Z,h1,fun q hq=>h2 q (by simp[hq]),(List.pairwise_cons.1 h3).2,(List.pairwise_cons.1 h3).1⟩
theorem fu.lZ {A:aA} {G:Nat->Prop} (hA:A.holds G w) (hG:∀k,G k->B≤k/\k<w.heap.size) {Z:List (aA ×(Nat->Prop))} (h1:Z.map (·.1)=R)
  (h2:∀p∈Z,p.1.holds p.2 w/\∀k,p.2 k->B≤k/\k<w.heap.size) (h3:Z.Pairwise fun p q=>∀k,p.2 k->¬q.2 k) (h4:∀q∈Z,∀k,G k->¬q.2 k):fu B w (A::R):=
 ⟨(A,G)::Z,by simp[h1],fun p hp=>by
  rcases List.mem_cons.1 hp with rfl|hp
  ·exact ⟨hA,hG⟩
  ·exact h2 p hp,List.pairwise_cons.2 ⟨h4,h3⟩⟩
theorem fu.step {A A':aA} {w':World} (h:fu B w (A::R))
  (hs:∀G,A.holds G w->(∀k,G k->B≤k/\k<w.heap.size)->fN G w w'/\∃G',A'.holds G' w'/\∀k,G' k->(G k∨w.heap.size≤k)/\k<w'.heap.size) (hB:B≤w.heap.size):fu B w' (A'::R):=by
 obtain ⟨G,hA,hG,Z,h1,h2,h3,h4⟩:=h.cM;obtain ⟨hu,G',hA',hG'⟩:=hs G hA hG;refine fu.lZ hA' (fun k hk=>?_) h1 (fun p hp=>?_) h3 (fun q hq k hk hq'=>?_)
 ·obtain ⟨h5,h6⟩:=hG' k hk
  refine ⟨?_,h6⟩;rcases h5 with h5|h5
  ·exact (hG k h5).1
  ·omega
 ·obtain ⟨h5,h6⟩:=h2 p hp
  refine ⟨p.1.loc p.2 w w' h5 fun k hk=>hu.block k (h6 k hk).2 fun hGk=>h4 p hp k hGk hk,fun k hk=>⟨(h6 k hk).1,Nat.lt_of_lt_of_le (h6 k hk).2 hu.size⟩⟩
 ·obtain ⟨h5,h6⟩:=hG' k hk
  rcases h5 with h5|h5
  ·exact h4 q hq k h5 hq'
  ·have:=((h2 q hq).2 k hq').2;omega
theorem fu.new {A':aA} {w':World} (h:fu B w R) (hu:fN No w w') {G':Nat->Prop} (hA':A'.holds G' w') (hG':∀k,G' k->w.heap.size≤k/\k<w'.heap.size) (hB:B≤w.heap.size):fu B w' (A'::R):=by
 obtain ⟨Z,h1,h2,h3⟩:=h;refine fu.lZ hA' (fun k hk=>?_) h1 (fun p hp=>?_) h3 (fun q hq k hk hq'=>?_)
 ·have:=hG' k hk;omega
 ·obtain ⟨h5,h6⟩:=h2 p hp
  exact ⟨p.1.loc p.2 w w' h5 fun k hk=>hu.block k (h6 k hk).2 fun h=>h,fun k hk=>⟨(h6 k hk).1,Nat.lt_of_lt_of_le (h6 k hk).2 hu.size⟩⟩
 ·have:=hG' k hk;have:=((h2 q hq).2 k hq').2;omega
theorem fu.same {w':World} (h:fu B w R) (hu:fN No w w'):fu B w' R:=by
 obtain ⟨Z,h1,h2,h3⟩:=h;refine ⟨Z,h1,fun p hp=>?_,h3⟩;obtain ⟨h5,h6⟩:=h2 p hp;exact ⟨p.1.loc p.2 w w' h5 fun k hk=>hu.block k (h6 k hk).2 fun h=>h,fun k hk=>⟨(h6 k hk).1,Nat.lt_of_lt_of_le (h6 k hk).2 hu.size⟩⟩
theorem CD {α β:Type _} (f:α->β) {L L':List β} (hp:L.Perm L'):∀Z:List α,Z.map f=L->∃Z':List α,Z'.Perm Z/\Z'.map f=L':=by
 induction hp with
 |nil=>intro Z h;exact ⟨Z, .refl _,h⟩
 |cons x _ ih=>
  intro Z h;cases Z with
  |nil=>simp at h
  |cons z Z=>
   simp only[List.map_cons,List.cons.injEq] at h;obtain ⟨Z',h1,h2⟩:=ih Z h.2;exact ⟨z::Z',h1.cons z,by simp[h.1,h2]⟩
 |swap x y l=>
  intro Z h
  match Z,h with
  |a::b::Z,h=>
   simp only[List.map_cons,List.cons.injEq] at h;exact ⟨b::a::Z,List.Perm.swap _ _ _,by simp[h.1,h.2.1,h.2.2]⟩
 |trans _ _ ih1 ih2=>
  intro Z h;obtain ⟨Z1,h1,h2⟩:=ih1 Z h;obtain ⟨Z2,h3,h4⟩:=ih2 Z1 h2;exact ⟨Z2,h3.trans h1,h4⟩
theorem fu.perm {L':List aA} (h:fu B w L) (hp:L.Perm L'):fu B w L':=by
 obtain ⟨Z,h1,h2,h3⟩:=h;obtain ⟨Z',h4,h5⟩:=CD (·.1) hp Z h1;exact ⟨Z',h5,fun p hp=>h2 p (h4.mem_iff.1 hp),h3.perm h4.symm fun hR k hk hk'=>hR k hk' hk⟩
theorem Ow.perm {L':List aA} (h:Ow B w0 w L) (hp:L.Perm L'):Ow B w0 w L':=⟨h.base,h.rr,h.held.perm hp⟩
theorem Ow.take (h:Ow B w0 w L) (i:Nat) {A:aA} (hi:L[i]?=some A):Ow B w0 w (A::L.eraseIdx i):=⟨h.base,h.rr,h.held.take i hi⟩
theorem Ow.drop {A:aA} (h:Ow B w0 w (A::R)):Ow B w0 w R:=⟨h.base,h.rr,h.held.drop⟩
theorem Ow.step {A A':aA} {w':World} (h:Ow B w0 w (A::R))
  (hs:∀G,A.holds G w->(∀k,G k->B≤k/\k<w.heap.size)->fN G w w'/\∃G',A'.holds G' w'/\∀k,G' k->(G k∨w.heap.size≤k)/\k<w'.heap.size):Ow B w0 w' (A'::R):=by
 refine ⟨h.base, ?_,h.held.step hs h.size⟩;obtain ⟨G,hA,hG,_⟩:=h.held.cM;exact h.rr.trans (hs G hA hG).1 fun k _ hk=>(hG k hk).1
theorem Ow.new {A':aA} {w':World} (h:Ow B w0 w R) (hu:fN No w w') {G':Nat->Prop} (hA':A'.holds G' w') (hG':∀k,G' k->w.heap.size≤k/\k<w'.heap.size):Ow B w0 w' (A'::R):=
 ⟨h.base,h.rr.no hu,h.held.new hu hA' hG' h.size⟩
theorem Ow.same {w':World} (h:Ow B w0 w R) (hu:fN No w w'):Ow B w0 w' R:=⟨h.base,h.rr.no hu,h.held.same hu⟩
theorem Ow.head {A:aA} {p:Prop} (h:Ow B w0 w (A::R)) (hp:∀G,A.holds G w->p):p:=by
 obtain ⟨G,hA,_⟩:=h.held.cM;exact hp G hA
theorem Ow.conv {A A':aA} (h:Ow B w0 w (A::R)) (hc:∀G,A.holds G w->A'.holds G w):Ow B w0 w (A'::R):=
 h.step fun G hA hG=>⟨fN.refl _ _,G,hc G hA,fun k hk=>⟨.inl hk,(hG k hk).2⟩⟩
def aa (b:Nat) (l:List Value):aA where
 holds G w:=G b/\oL w b l
 loc G w w' h hk:=⟨h.1,by obtain ⟨t,ht⟩:=h.2;exact ⟨t,by rw[hk b h.1];exact ht⟩⟩
 up G G' w h hk:=⟨hk b h.1,h.2⟩
def C9 (z:Nat) (s:Sl) (cs:List Value):aA where
 holds G w:=s.In G/\jR z w s cs
 loc G w w' h hk:=⟨h.1,by
  cases h.2 with
  |nil a b c d=>exact .nil a b c d
  |mk b o l a hb c d e=>
   obtain ⟨t,ht⟩:=hb;exact .mk b o l a ⟨t,by rw[hk b (h.1 _ a)];exact ht⟩ c d e⟩
 up G G' w h hk:=⟨fun a ha=>hk _ (h.1 a ha),h.2⟩
def dI {K V:Type} (enc:K->Value) (encV:V->Value) (m:Nat) (L:List (K × V)):aA where
 holds G w:=G m/\je enc encV w m L
 loc G w w' h hk:=⟨h.1,by
  obtain ⟨es,c,h1,h2⟩:=h.2.ex;exact ⟨⟨es,c,by unfold kJ at *;rw[hk m h.1];exact h1,h2⟩,h.2.nodup⟩⟩
 up G G' w h hk:=⟨hk m h.1,h.2⟩
def dX (p:Prop):aA where
 holds _ _:=p
 loc _ _ _ h _:=h
 up _ _ _ h _:=h
def pV {α:Type} (f:α->aA):aA where
 holds G w:=∃x,(f x).holds G w
 loc G w w' h hk:=by obtain ⟨x,h⟩:=h;exact ⟨x,(f x).loc G w w' h hk⟩
 up G G' w h hk:=by obtain ⟨x,h⟩:=h;exact ⟨x,(f x).up G G' w h hk⟩
def bh (M:List aA):aA where
 holds G w:=∃Z:List (aA ×(Nat->Prop)),Z.map (·.1)=M/\(∀p∈Z,p.1.holds p.2 w/\∀k,p.2 k->G k)/\Z.Pairwise fun p q=>∀k,p.2 k->¬q.2 k
 loc G w w' h hk:=by
  obtain ⟨Z,h1,h2,h3⟩:=h;exact ⟨Z,h1,fun p hp=>⟨p.1.loc p.2 w w' (h2 p hp).1 fun k hk'=>hk k ((h2 p hp).2 k hk'),(h2 p hp).2⟩,h3⟩
 up G G' w h hk:=by
  obtain ⟨Z,h1,h2,h3⟩:=h;exact ⟨Z,h1,fun p hp=>⟨(h2 p hp).1,fun k hk'=>hk k ((h2 p hp).2 k hk')⟩,h3⟩
theorem Ow.ex {α:Type} {f:α->aA} (h:Ow B w0 w (pV f::R)):∃x,Ow B w0 w (f x::R):=by
 obtain ⟨G,⟨x,hx⟩,_⟩:=h.held.cM;obtain ⟨G,hA,hG,Z,h1,h2,h3,h4⟩:=h.held.cM;obtain ⟨x,hx⟩:=hA;exact ⟨x,h.base,h.rr,fu.lZ hx hG h1 h2 h3 h4⟩
theorem Ow.eP {α:Type} {f:α->aA} (x:α) (h:Ow B w0 w (f x::R)):Ow B w0 w (pV f::R):=h.conv fun _ h=>⟨x,h⟩
theorem Ow.pure {p:Prop} (h:Ow B w0 w (dX p::R)):p/\Ow B w0 w R:=⟨h.head fun _ h=>h,h.drop⟩
theorem Ow.dN {p:Prop} (hp:p) (h:Ow B w0 w R):Ow B w0 w (dX p::R):=by
 obtain ⟨Z,h1,h2,h3⟩:=h.held;exact ⟨h.base,h.rr,fu.lZ (G:=No) hp (fun _ h=>h.elim) h1 h2 h3 fun _ _ _ h=>h.elim⟩
theorem Ow.star {M:List aA} (h:Ow B w0 w (bh M::R)):Ow B w0 w (M++R):=by
 obtain ⟨G,hA,hG,Z,h1,h2,h3,h4⟩:=h.held.cM;obtain ⟨Y,y1,y2,y3⟩:=hA;refine ⟨h.base,h.rr,Y++Z,by simp[y1,h1],fun p hp=>?_,List.pairwise_append.2 ⟨y3,h3,fun p hp q hq k hk=>h4 q hq k ((y2 p hp).2 k hk)⟩⟩;rcases List.mem_append.1 hp with hp|hp
 ·exact ⟨(y2 p hp).1,fun k hk=>hG k ((y2 p hp).2 k hk)⟩
 ·exact h2 p hp
theorem Ow.aY {M:List aA} (h:Ow B w0 w (M++R)):Ow B w0 w (bh M::R):=by
 obtain ⟨Z,h1,h2,h3⟩:=h.held;have h1:Z.map (·.1)=M++R:=h1;obtain ⟨Y,Z',hYZ,hY,hZ⟩:=List.map_eq_append_iff.1 h1;subst hYZ;obtain ⟨p1,p2,p3⟩:=List.pairwise_append.1 h3;refine ⟨h.base,h.rr,fu.lZ (G:=fun k=>∃p∈Y,p.2 k) ⟨Y,hY,fun p hp=>⟨(h2 p (by simp[hp])).1,fun k hk=>⟨p,hp,hk⟩⟩,p1⟩ (fun k hk=>?_) hZ (fun p hp=>h2 p (by simp[hp])) p2 ?_⟩
 ·obtain ⟨p,hp,hk⟩:=hk;exact (h2 p (by simp[hp])).2 k hk
 ·rintro q hq k ⟨p,hp,hk⟩;exact p3 p hp q hq k hk
theorem Ow.al {l:List Value} {t:TypeId} {k:World->Prop} (h:Ow B w0 w R) (hk:∀w',Ow B w0 w' (aa w.heap.size l::R)->k w'):Al w (.cells ⟨l⟩ t) k:=
 Al.mk' fun w' hu hs hb=>hk w' (h.new (A':=aa w.heap.size l) (G':=fun k=>k=w.heap.size) hu ⟨rfl,hb⟩ fun k e=>by omega)
abbrev _root_.Nat.p (n:Nat):Addr:= .mk n 0 none
abbrev _root_.Go.Vc.A2 (w:World) (l:List Value) (t:TypeId) (k:Nat->World->Prop):Prop:=Al w (.cells ⟨l⟩ t) (k w.heap.size)
theorem Ow.a {l:List Value} {t:TypeId} {k:Nat->World->Prop} (h:Ow B w0 w R) (hk:∀c w',Ow B w0 w' (aa c l::R)->k c w'):A2 w l t k:=h.al fun w' h=>hk _ w' h
theorem Ow.xk {K V:Type} (enc:K->Value) (encV:V->Value) {k:World->Prop} (h:Ow B w0 w R) (hk:∀w',Ow B w0 w' (dI enc encV w.heap.size []::R)->k w'):Al w (.map #[] 0) k:=
 Al.map' fun w' hu hs hb=>hk w' (h.new (A':=dI enc encV w.heap.size []) (G':=fun k=>k=w.heap.size) hu ⟨rfl,⟨⟨#[],0,hb,by simp,by simp,by simp⟩,by simp⟩⟩ fun k e=>by omega)
theorem Ow.dr {k:World->Prop} (h:Ow B w0 w R) (hk:∀w',Ow B w0 w' R->k w'):Dr w k:=Dr.mk' fun w' hu _=>hk w' (h.same hu)
theorem Ow.ud {b:Nat} {l:List Value} (h:Ow B w0 w L) (i:Nat) (hi:L[i]?=some (aa b l)):oL w b l:=(h.take i hi).head fun _ h=>h.2
theorem Ow.ld {b o n:Nat} {l:List Value} {v:Value} (h:Ow B w0 w L) (i:Nat) (hi:L[i]?=some (aa b l)) (hv:l[o+n]?=some v):w.cell? ((Addr.mk b o none).add n)=some v:=(h.ud i hi).Ii hv
theorem Ow.jS {b o:Nat} {l:List Value} {v:Value} (h:Ow B w0 w L) (i:Nat) (hi:L[i]?=some (aa b l)) (hv:l[o]?=some v):w.cell? (Addr.mk b o none)=some v:=(h.ud i hi).Ih hv
theorem Ow.set {A A':aA} (h:Ow B w0 w (A'::L.eraseIdx 0)) (hi:L[0]?=some A):Ow B w0 w (L.set 0 A'):=by
 cases L with
 |nil=>simp at hi
 |cons x L=>simpa using h
def ins {α:Type _}:List α->Nat->α->List α
 |l,0,a=>a::l
 | [],_+1,a=>[a]
 |x::l,n+1,a=>x::ins l n a
theorem wi {α:Type _} {a x:α}:∀{l:List α} {n:Nat},x∈ins l n a->x=a∨x∈l
 |l,0,h=>by simpa [ins] using h
 | [],_+1,h=>by simp[ins] at h;exact .inl h
 |y::l,n+1,h=>by
  simp only[ins,List.mem_cons] at h;rcases h with h|h
  ·exact .inr (by simp[h])
  ·rcases wi h with h|h
   ·exact .inl h
   ·exact .inr (by simp[h])
theorem fu.put {A':aA} {i:Nat} (h:fu B w (A'::L.eraseIdx i)) (hi:i<L.length):fu B w (L.set i A'):=by
 obtain ⟨G,hA,hG,Z,h1,h2,h3,h4⟩:=h.cM;refine ⟨ins Z i (A',G), ?_,fun p hp=>?_, ?_⟩
 ·have:∀(Z:List (aA ×(Nat->Prop))) (L:List aA) (i:Nat),Z.map (·.1)=L.eraseIdx i->i<L.length->(ins Z i (A',G)).map (·.1)=L.set i A':=by
   intro Z
   induction Z with
   |nil=>
    intro L i h hi;cases L with
    |nil=>simp at hi
    |cons x L=>
     cases i with
     |zero=>simp at h;subst h;simp[ins]
     |succ i=>simp at h
   |cons z Z ih=>
    intro L i h hi;cases L with
    |nil=>simp at hi
    |cons x L=>
     cases i with
     |zero=>simp at h;simp[ins,h]
     |succ i=>
      simp only[List.map_cons,List.eraseIdx_cons_succ,List.cons.injEq] at h;simp only[ins,List.map_cons,List.set_cons_succ,h.1];rw[ih L i h.2 (by simpa using hi)]
  exact this Z L i h1 hi
 ·rcases wi hp with rfl|hp
  ·exact ⟨hA,hG⟩
  ·exact h2 p hp
 ·have:∀(Z:List (aA ×(Nat->Prop))) (i:Nat),Z.Pairwise (fun p q=>∀k,p.2 k->¬q.2 k)->(∀q∈Z,∀k,G k->¬q.2 k)->(ins Z i (A',G)).Pairwise (fun p q=>∀k,p.2 k->¬q.2 k):=by
   intro Z
   induction Z with
   |nil=>intro i _ _;cases i<;>simp[ins]
   |cons z Z ih=>
    intro i hp hq;obtain ⟨h5,h6⟩:=List.pairwise_cons.1 hp;cases i with
    |zero=>simp only[ins];exact List.pairwise_cons.2 ⟨hq,hp⟩
    |succ i=>
     simp only[ins];refine List.pairwise_cons.2 ⟨fun q hq'=>?_,ih i h6 fun q hq'=>hq q (by simp[hq'])⟩;rcases wi hq' with rfl|hq'
     ·intro k hk hk';exact hq z (by simp) k hk' hk
     ·exact h5 q hq'
  exact this Z i h3 h4
theorem Ow.put {A':aA} {i:Nat} (h:Ow B w0 w (A'::L.eraseIdx i)) (hi:i<L.length):Ow B w0 w (L.set i A'):=⟨h.base,h.rr,h.held.put hi⟩
theorem bQ {α:Type} {L:List α} {i:Nat} {A:α} (h:L[i]?=some A):i<L.length:=(List.getElem?_eq_some_iff.1 h).1
theorem Ow.st {b o:Nat} {l:List Value} {v:Value} {k:World->Prop} (h:Ow B w0 w L) (i:Nat) (hi:L[i]?=some (aa b l)) (ho:(l[o]?).isSome=true) (hv:v.oneCell'=true)
  (hk:∀w',Ow B w0 w' (L.set i (aa b (l.set o v)))->k w'):St w ⟨b,o,none⟩ v k:=
 St.mk' (h.ud i hi) (by simpa using ho) hv fun w' hu hs hb=>hk w' (((h.take i hi).step (A':=aa b (l.set o v)) fun G hA hG=>⟨hu.mono fun k _ e=>by rw[e];exact hA.1,G,⟨hA.1,hb⟩,fun k hk=>⟨.inl hk,by have:=(hG k hk).2;omega⟩⟩).put (bQ hi))
theorem Ow.JP {b o n:Nat} {l:List Value} {v:Value} {k:World->Prop} (h:Ow B w0 w L) (i:Nat) (hi:L[i]?=some (aa b l)) (ho:(l[o+n]?).isSome=true) (hv:v.oneCell'=true)
  (hk:∀w',Ow B w0 w' (L.set i (aa b (l.set (o+n) v)))->k w'):St w ((Addr.mk b o none).add n) v k:=by
 rw[aI];exact h.st i hi ho hv hk
end
end Go.Vc
namespace Go.Vc
open Go
theorem wr {x:Int} (h1: -9223372036854775808≤x) (h2:x<9223372036854775808):IntKind.i64.wrap x=x:=by
 have e1:(2:Int)^64=18446744073709551616:=by decide
 have e2:(2:Int)^63=9223372036854775808:=by decide
 simp only[IntKind.wrap,IntKind.bits,IntKind.signed,Nat.reduceSub,e1,e2,Bool.true_and,decide_eq_true_eq];split<;>omega
theorem wI (i:Nat) (h:i<9223372036854775807):IntKind.i64.wrap ((i:Int)+1)=((i+1:Nat):Int):=by rw[wr (by omega) (by omega)];omega
theorem IM {x:Int} (h1:0≤x) (h2:x<18446744073709551616):IntKind.u64.wrap x=x:=by
 have e1:(2:Int)^64=18446744073709551616:=by decide
 simp only[IntKind.wrap,IntKind.bits,IntKind.signed,e1,Bool.false_and,Bool.false_eq_true,if_false];omega
structure cQ (α:Type) where
 z:Nat
 enc:α->List Value
 len:∀x,(enc x).length=z
 one:∀x,∀v∈enc x,v.oneCell'=true
 pos:1≤z
def aG:cQ Int:=⟨1,fun n=>[.int .i64 n],fun _=>rfl,fun x v h=>by simp at h;subst h;rfl,Nat.le_refl _⟩
theorem aK {α:Type} (E:cQ α):∀(xs:List α),(xs.flatMap E.enc).length=xs.length*E.z
 | []=>by simp
 |x::xs=>by simp[aK E xs,E.len,Nat.succ_mul,Nat.add_comm]
theorem lA {α:Type} (E:cQ α):∀(xs:List α) (j c:Nat) (x:α),xs[j]?=some x->c<E.z->(xs.flatMap E.enc)[j*E.z+c]?=(E.enc x)[c]?
 | [],j,c,x,h,_=>by simp at h
 |y::xs,0,c,x,h,hc=>by
  simp at h;subst h;simp only[List.flatMap_cons,Nat.zero_mul,Nat.zero_add];rw[List.getElem?_append_left (by rw[E.len];exact hc)]
 |y::xs,j+1,c,x,h,hc=>by
  simp only[List.flatMap_cons];have:=lA E xs j c x (by simpa using h) hc;rw[List.getElem?_append_right (by rw[E.len,Nat.succ_mul];omega),E.len,Nat.succ_mul];rw[show j*E.z+E.z+c-E.z=j*E.z+c from by omega];exact this
theorem lB {α:Type} (E:cQ α):∀(xs:List α) (j:Nat) (x:α),j<xs.length->(xs.set j x).flatMap E.enc=putAt (xs.flatMap E.enc) (j*E.z) (E.enc x)
 | [],j,x,h=>by simp at h
 |y::xs,0,x,h=>by
  have:∀(us vs cs:List Value),us.length=vs.length->putAt (us++cs) 0 vs=vs++cs:=by
   intro us
   induction us with
   |nil=>intro vs cs h;cases vs with|nil=>simp[jI]|cons _ _=>simp at h
   |cons u us ih=>intro vs cs h;cases vs with|nil=>simp at h|cons v vs=>simp[putAt,ih vs cs (by simpa using h)]
  simp only[List.set_cons_zero,List.flatMap_cons,Nat.zero_mul];rw[this _ _ _ (by rw[E.len,E.len])]
 |y::xs,j+1,x,h=>by
  have:∀(us cs vs:List Value) (o:Nat),putAt (us++cs) (us.length+o) vs=us++putAt cs o vs:=by
   intro us
   induction us with
   |nil=>intro cs vs o;simp
   |cons u us ih=>
    intro cs vs o;simp only[List.cons_append,List.length_cons];rw[show us.length+1+o=(us.length+o)+1 from by omega];cases vs with
    |nil=>rw[jI,jI]
    |cons v vs=>simp only[putAt];rw[ih]
  simp only[List.set_cons_succ,List.flatMap_cons,Nat.succ_mul];rw[lB E xs j x (by simpa using h),show j*E.z+E.z=(E.enc y).length+j*E.z from by rw[E.len];omega,this]
def ah {α:Type} (E:cQ α) (s:Sl) (xs:List α):aA where
 holds G w:=s.In G/\s.len=xs.length/\jR E.z w s (xs.flatMap E.enc)
 loc G w w' h hk:=⟨h.1,h.2.1,((C9 E.z s _).loc G w w' ⟨h.1,h.2.2⟩ hk).2⟩
 up G G' w h hk:=⟨fun a ha=>hk _ (h.1 a ha),h.2⟩
section
variable {P:Program} {B:Nat} {w0 w:World} {L R:List aA} {α:Type} {E:cQ α}
theorem Ow.vg {s:Sl} {xs:List α} (h:Ow B w0 w L) (i:Nat) (hi:L[i]?=some (ah E s xs)):jR E.z w s (xs.flatMap E.enc):=(h.take i hi).head fun _ h=>h.2.2
theorem Ow.len {s:Sl} {xs:List α} (h:Ow B w0 w L) (i:Nat) (hi:L[i]?=some (ah E s xs)):s.len=xs.length:=(h.take i hi).head fun _ h=>h.2.1
theorem jR.get {s:Sl} {xs:List α} (h:jR E.z w s (xs.flatMap E.enc)) {j:Nat} {x:α} (hj:xs[j]?=some x):
  ∃b o,s.a=some ⟨b,o,none⟩/\∀c v,(E.enc x)[c]?=some v->w.cell? ⟨b,o+(j*E.z+c),none⟩=some v:=by
 have hz:=E.pos
 have hg:∀c v,(E.enc x)[c]?=some v->(xs.flatMap E.enc)[j*E.z+c]?=some v:=fun c v hv=>by
  rw[lA E xs j c x hj (by have:=(List.getElem?_eq_some_iff.1 hv).1;rw[E.len] at this;exact this)];exact hv
 cases h with
 |nil ha hl hc hcs=>
  have hl:=aK E xs;rw[hcs] at hl
  have:xs.length=0:=by
   rcases Nat.mul_eq_zero.1 hl.symm with h|h
   ·exact h
   ·omega
  have:=(List.getElem?_eq_some_iff.1 hj).1;omega
 |mk b o l ha hb hl hc hcs=>
  refine ⟨b,o,ha,fun c v hv=>?_⟩;obtain ⟨b',o',ha',h'⟩:=jR.cell (.mk b o l ha hb hl hc hcs:jR E.z w s (xs.flatMap E.enc)) (hg c v hv);rw[ha] at ha';simp only[Option.some.injEq,Addr.mk.injEq] at ha';rw[ha'.1,ha'.2.1];exact h'
theorem Ow.get {s:Sl} {xs:List α} (h:Ow B w0 w L) (i:Nat) (hi:L[i]?=some (ah E s xs)) {j:Nat} {x:α} (hj:xs[j]?=some x):
  ∃b o,s.a=some ⟨b,o,none⟩/\∀c v,(E.enc x)[c]?=some v->w.cell? ⟨b,o+(j*E.z+c),none⟩=some v:=(h.vg i hi).get hj
theorem Ow.Ge {s:Sl} {xs:List Int} (h:Ow B w0 w L) (i:Nat) (hi:L[i]?=some (ah aG s xs)) {j:Nat} {x:Int} (hj:xs[j]?=some x):
  ∃a,s.a=some a/\w.cell? (a.add (j*1))=some (.int .i64 x):=by
 obtain ⟨b,o,ha,hc⟩:=h.get i hi hj;exact ⟨_,ha,by rw[aI];exact hc 0 _ rfl⟩
theorem Ow.JF {s:Sl} {xs:List α} {k:World->Prop} (h:Ow B w0 w L) (i:Nat) (hi:L[i]?=some (ah E s xs)) {j:Nat} (hj:j<xs.length) (x:α) {b o:Nat} (ha:s.a=some ⟨b,o,none⟩)
  {v:Value} (hx:E.enc x= [v]) (hk:∀w',Ow B w0 w' (L.set i (ah E s (xs.set j x)))->k w'):St w ⟨b,o+j*E.z,none⟩ v k:=by
 have hz:E.z=1:=by rw[←E.len x,hx];rfl
 have hone:v.oneCell'=true:=E.one x v (by rw[hx];simp);have hs:=h.vg i hi;have hl:=h.len i hi;cases hs with
 |nil ha' _ _ _=>rw[ha'] at ha;cases ha
 |mk b' o' l ha' hb hle hc hcs=>
  rw[ha'] at ha;simp only[Option.some.injEq,Addr.mk.injEq,and_true] at ha;obtain ⟨rfl,rfl⟩:=ha;have hfl:=aK E xs;have hlt:j*E.z<xs.length*E.z:=by rw[hz];omega
  have hle2:s.len*E.z≤s.cap*E.z:=Nat.mul_le_mul_right _ hle;rw[←hl] at hlt;refine St.mk' hb om hone fun w' hu hsz hb'=>hk w' (((h.take i hi).step (A':=ah E s (xs.set j x)) fun G hA hG=>⟨hu.mono fun k _ e=>by rw[e];exact hA.1 _ ha',G,⟨hA.1,by simpa using hl, ?_⟩,fun k hk=>⟨.inl hk,by have:=(hG k hk).2;omega⟩⟩).put (bQ hi))
  refine .mk b' o' _ ha' hb' hle (by simpa using hc) ?_;rw[lB E xs j x hj,hx,hcs]
  have key:∀(l:List Value) (o n m:Nat),o+n≤l.length->m<n->putAt ((l.drop o).take n) m [v]=((l.set (o+m) v).drop o).take n:=by
   intro l o n m h1 h2;apply List.ext_getElem?;intro t;rw[ck _ _ _ _ (by simp;omega)];simp only[List.length_singleton,List.getElem?_take,List.getElem?_drop,List.getElem?_set];by_cases e:m=t
   ·subst e
    rw[if_pos om,if_pos h2,if_pos rfl,if_pos om];simp
   ·rw[if_neg om,if_neg (show ¬o+m=o+t by omega)]
  exact key l o' (s.len*E.z) (j*E.z) om hlt
theorem Ow.Ib {T el:TypeId} {inf:TypeInfo} {zv:Value} {s x:Sl} {xs ys:List α} {k:Sl->World->Prop}
  (hu:P.underlying T=some (.slice el)) (hi:P.info? el=some inf) (hz:inf.zero=some zv) (hsz:inf.size=E.z) (hzc:zv.cells.size=E.z) (hb:1≤inf.bytes)
  (h:Ow B w0 w L) (i:Nat) (hL:L[i]?=some (ah E s xs)) (hdl:(ys.flatMap E.enc).length=x.len*E.z) (hnew:∀W:World,W.heap=w.heap->(Builtin.firstCells E.z x.len (.slice x.a x.len x.cap)).run P W= .ok ⟨ys.flatMap E.enc⟩ W) (hxl:x.len=ys.length) (hbig:(17*(xs.length+ys.length)+16000)*inf.bytes≤2^48)
  (hk:∀s' w',s'.len=xs.length+ys.length->Ow B w0 w' (L.set i (ah E s' (xs++ys)))->k s' w'):
  ∃s' w',bo P [T,T] T (.slice s.a s.len s.cap) (.slice x.a x.len x.cap) w s' w'/\k s' w':=by
 have hs:=h.vg i hL;have hl:=h.len i hL
 have hone:∀v∈ys.flatMap E.enc,v.oneCell'=true:=fun v hv=>by
  obtain ⟨y,_,hy⟩:=List.mem_flatMap.1 hv;exact E.one y v hy
 obtain ⟨s',w',h1,h2,h3⟩:=Dz (P:=P) (T:=T) hu hi hz hsz hzc hb hs hdl hnew hone (by rw[hl,hxl];exact hbig);refine ⟨s',w',h1,hk s' w' (by rw[h2,hl,hxl]) (((h.take i hL).step (A':=ah E s' (xs++ys)) fun G hA hG=>⟨h3.rr.mono fun k _ ⟨a,ha,e⟩=>by rw[←e];exact hA.1 a ha,fun k=>s'.In (fun j=>j≠k)->False,⟨?_, ?_, ?_⟩, ?_⟩).put (bQ hL))⟩
 ·intro a ha hn;exact hn a ha rfl
 ·rw[h2,hl,hxl,List.length_append]
 ·rw[List.flatMap_append];exact h3.own
 ·intro k hk
  have:∃a,s'.a=some a/\a.block=k:=by
   refine Classical.byContradiction fun hn=>hk fun a ha e=>hn ⟨a,ha,e⟩
  obtain ⟨a,ha,rfl⟩:=this;refine ⟨?_,h3.own.lt a ha⟩;rcases h3.here a ha with ⟨a0,h4,h5⟩|h4
  ·rw[←h5];exact .inl (hA.1 a0 h4)
  ·exact .inr om
theorem Ow.app {T el:TypeId} {inf:TypeInfo} {zv:Value} {s x:Sl} {xs ys:List α} {k:Sl->World->Prop}
  (hu:P.underlying T=some (.slice el)) (hi:P.info? el=some inf) (hz:inf.zero=some zv) (hsz:inf.size=E.z) (hzc:zv.cells.size=E.z) (hb:1≤inf.bytes)
  (h:Ow B w0 w L) (i:Nat) (hL:L[i]?=some (ah E s xs)) (hx:jR E.z w x (ys.flatMap E.enc)) (hxl:x.len=ys.length) (hbig:(17*(xs.length+ys.length)+16000)*inf.bytes≤2^48)
  (hk:∀s' w',s'.len=xs.length+ys.length->Ow B w0 w' (L.set i (ah E s' (xs++ys)))->k s' w'):
  ∃s' w',bo P [T,T] T (.slice s.a s.len s.cap) (.slice x.a x.len x.cap) w s' w'/\k s' w':=
 Ow.Ib hu hi hz hsz hzc hb h i hL hx.length (sE hx) hxl hbig hk
theorem Ow.Hg {T el:TypeId} {inf:TypeInfo} {zv:Value} {s:Sl} {xs:List α} {y:α} {b:Nat} {k:Sl->World->Prop}
  (hu:P.underlying T=some (.slice el)) (hi:P.info? el=some inf) (hz:inf.zero=some zv) (hsz:inf.size=E.z) (hzc:zv.cells.size=E.z) (hb:1≤inf.bytes)
  (h:Ow B w0 w (aa b (E.enc y)::L)) (i:Nat) (hL:L[i]?=some (ah E s xs)) (hbig:(17*(xs.length+1)+16000)*inf.bytes≤2^48)
  (hk:∀s' w',s'.len=xs.length+1->Ow B w0 w' (L.set i (ah E s' (xs++ [y])))->k s' w'):
  ∃s' w',bo P [T,T] T (.slice s.a s.len s.cap) (.slice (some (Addr.mk b 0 none)) 1 1) w s' w'/\k s' w':=by
 have hx:jR E.z w ⟨some (Addr.mk b 0 none),1,1⟩ ([y].flatMap E.enc):=by
  refine .mk b 0 (E.enc y) rfl (h.ud 0 rfl) (Nat.le_refl _) (by simp[E.len]) ?_;have:(1:Nat)*E.z=(E.enc y).length:=by rw[E.len];omega
  simp only[List.flatMap_cons,List.flatMap_nil,List.append_nil,List.drop_zero,this,List.take_length]
 have h':Ow B w0 w L:=h.drop;exact h'.app (x:=⟨some (Addr.mk b 0 none),1,1⟩) (ys:=[y]) hu hi hz hsz hzc hb i hL hx rfl (by simpa using hbig) (by simpa using hk)
theorem jR.no {z:Nat} {w':World} {s:Sl} {cs:List Value} (h:jR z w s cs) (u:fN No w w'):jR z w' s cs:=h.rr u fun _ _ h=>h
theorem jR.sub {z:Nat} {s:Sl} {cs:List Value} (h:jR z w s cs) {l hh:Nat} (hl:l≤hh) (hh':hh≤s.len):jR z w ⟨dV s.a l s.cap z,hh-l,s.cap-l⟩ ((cs.take (hh*z)).drop (l*z)):=by
 cases h with
 |nil ha h1 h2 h3=>
  have:l=0/\hh=0:=by omega
  obtain ⟨rfl,rfl⟩:=this;exact .nil (by simp[dV,ha]) rfl (by simp[h2]) (by simp[h3])
 |mk b o ls ha hb hle hc hcs=>
  have m1:l*z≤hh*z:=Nat.mul_le_mul_right _ hl;have m2:hh*z≤s.len*z:=Nat.mul_le_mul_right _ hh';have m3:s.len*z≤s.cap*z:=Nat.mul_le_mul_right _ hle;by_cases e:s.cap=l
  ·have e2:hh=l:=by omega
   refine .mk b o ls (by simp[dV,e,ha]) hb ?_ ?_ ?_
   ·show hh-l≤s.cap-l
    omega
   ·show o+(s.cap-l)*z≤ls.length
    rw[e,Nat.sub_self,Nat.zero_mul];omega
   ·rw[e2]
    simp only[Nat.sub_self,Nat.zero_mul,List.take_zero];apply List.drop_eq_nil_of_le;rw[List.length_take];omega
  ·refine .mk b (o+l*z) ls ?_ hb ?_ ?_ ?_
   ·simp only[dV,if_neg e,ha,Option.map_some,aI]
   ·show hh-l≤s.cap-l
    omega
   ·show o+l*z+(s.cap-l)*z≤ls.length
    rw[Nat.sub_mul];omega
   ·show _=(ls.drop (o+l*z)).take ((hh-l)*z)
    rw[hcs,List.take_take,Nat.min_eq_left m2,Nat.sub_mul,List.drop_take,List.drop_drop]
theorem Ow.DB {b:Nat} {l l':List Value} (h:Ow B w0 w (aa b l::R)) (e:l=l'):Ow B w0 w (aa b l'::R):=e▸h
theorem aP {id:Nat} {first cap:Array Value} {args:List Value} {R:Ending->World->Prop} (h:okF P id (Calls P id (first++⟨args⟩++cap) w R)):bY P (.func (.func id) first cap) args w R:=⟨id,first,cap,rfl,h⟩
theorem Ow.empty {b:Nat} (h:Ow B w0 w (aa b []::R)):Ow B w0 w (ah E ⟨some (Addr.mk b 0 none),0,0⟩ []::R):=
 h.conv fun G hG=>⟨fun a ha=>by cases ha;exact hG.1,rfl, .mk b 0 [] rfl hG.2 (Nat.le_refl _) (by simp) (by simp)⟩
theorem Ow.dK (h:Ow B w0 w R):Ow B w0 w (ah E ⟨none,0,0⟩ []::R):=by
 have:=Ow.dN (p:=True) trivial h;exact this.conv fun G _=>⟨(fun a ha=>by cases ha),rfl, .nil rfl rfl rfl rfl⟩
theorem CU (a:Option Addr) (cap z:Nat) (h:∀x,a=some x->x.spot=none):dV a 0 cap z=a:=by
 unfold dV;split
 ·rfl
 ·cases a with
  |none=>rfl
  |some x=>simp[Addr.add]
theorem jR.spot {z:Nat} {s:Sl} {cs:List Value} (h:jR z w s cs):∀x,s.a=some x->x.spot=none:=fun x hx=>by
 cases h with
 |nil ha _ _ _=>rw[ha] at hx;cases hx
 |mk b o l ha _ _ _ _=>rw[ha] at hx;cases hx;rfl
theorem Ow.pre {s:Sl} {xs:List α} (h:Ow B w0 w L) (i:Nat) (hi:L[i]?=some (ah E s xs)) {n:Nat} (hn:n≤xs.length):Ow B w0 w (L.set i (ah E ⟨s.a,n,s.cap⟩ (xs.take n))):=by
 refine (Ow.conv (h.take i hi) fun G hG=>?_).put (bQ hi);have hfl:=aK E xs;refine ⟨fun a ha=>hG.1 a ha,by simp[hn], ?_⟩
 have htake:(xs.take n).flatMap E.enc=(xs.flatMap E.enc).take (n*E.z):=by
  have h1:xs.flatMap E.enc=(xs.take n).flatMap E.enc++(xs.drop n).flatMap E.enc:=by rw[←List.flatMap_append,List.take_append_drop]
  have h2:((xs.take n).flatMap E.enc).length=n*E.z:=by rw[aK];simp[hn]
  rw[h1,←h2,List.take_left]
 cases hG.2.2 with
 |nil ha hl hc hcs=>
  have h0:xs.length=0:=by rw[←hG.2.1];exact hl
  have:n=0:=by omega
  subst this;exact .nil ha rfl hc (by simp)
 |mk b o l ha hb hl hc hcs=>
  have:=hG.2.1;refine .mk b o l ha hb (by show n≤s.cap;omega) hc ?_;rw[htake,hcs];show _=(l.drop o).take (n*E.z);rw[List.take_take];congr 1;have:n*E.z≤s.len*E.z:=Nat.mul_le_mul_right _ om;omega
theorem Ow.clear {T el t:TypeId} {zv:Value} {z0:α} {s:Sl} {xs:List α} {C:World->Prop} (hu:P.underlying T=some (.slice el)) (hz:∀w,(zeroValue el).run P w= .ok zv w) (hzc:zv.cells.toList=E.enc z0)
  (h:Ow B w0 w L) (i:Nat) (hi:L[i]?=some (ah E s xs)) {n:Nat} (hn:n≤xs.length) (hC:∀w',Ow B w0 w' (L.set i (ah E s (xs.take n++List.replicate (xs.length-n) z0)))->C w'):
  ∃w',gP P [T] t (.slice (dV s.a n s.cap E.z) (s.len-n) (s.cap-n)) w w'/\C w':=by
 have hs:=h.vg i hi;have hl:=h.len i hi;by_cases hnl:n=xs.length
 ·refine ⟨w, ?_,hC w ?_⟩
  ·unfold gP Builtin.clear_
   have:s.len-n=0:=by omega
   rw[this];simp only[List.getElem?_toArray,List.getElem?_cons_zero,Sem.run_bind,aN hu,Result.andThen_ok];cases dV s.a n s.cap E.z<;>rfl
  ·have:xs.take n++List.replicate (xs.length-n) z0=xs:=by rw[hnl];simp
   rw[this]
   have hset:L.set i (ah E s xs)=L:=by
    apply List.ext_getElem?;intro j;rw[List.getElem?_set];by_cases e:i=j
    ·subst e;rw[if_pos rfl,if_pos (bQ hi),hi]
    ·simp[e]
   rw[hset];exact h
 ·cases hs with
  |nil ha hl' hc hcs=>omega
  |mk b o l ha hb hle hc hcs=>
   have hzl:zv.cells.size=E.z:=by rw[←Array.length_toList,hzc,E.len]
   have hfl:=aK E xs;have hlt:n<s.len:=by omega
   have hmul:s.len*E.z≤s.cap*E.z:=Nat.mul_le_mul_right _ hle;have hnm:n*E.z≤s.len*E.z:=Nat.mul_le_mul_right _ om
   have hA:dV s.a n s.cap E.z=some ⟨b,o+n*E.z,none⟩:=by
    unfold dV;rw[if_neg om,ha];simp only[Option.map_some,aI]
   let zs:List Value:=(Builtin.zeroCells zv.cells (s.len-n)).toList
   have hzs:zs=(List.replicate (xs.length-n) z0).flatMap E.enc:=by
    have h1:(Builtin.zeroCells zv.cells (s.len-n))=⟨rep (s.len-n) zv.cells.toList⟩:=by
     unfold Builtin.zeroCells;exact oI zv.cells (s.len-n) (by rw[hzl];exact E.pos)
    have h2:∀m,rep m (E.enc z0)=(List.replicate m z0).flatMap E.enc:=by
     intro m
     induction m with
     |zero=>rfl
     |succ m ih=>simp[rep,List.replicate_succ,ih]
    show (Builtin.zeroCells zv.cells (s.len-n)).toList=_;rw[h1,hzc,h2,hl]
   have hzlen:zs.length=(s.len-n)*E.z:=by rw[hzs,aK];simp[hl]
   have hroom:o+n*E.z+zs.length≤l.length:=by rw[hzlen,Nat.sub_mul];omega
   have hone:∀v∈zs,v.oneCell'=true:=fun v hv=>by
    rw[hzs] at hv;obtain ⟨y,_,hy⟩:=List.mem_flatMap.1 hv;exact E.one y v hy
   obtain ⟨w',h1,h2,h3,h4⟩:=fW (P:=P) zs l (o+n*E.z) w hb hroom hone 0 (o+n*E.z) om;refine ⟨w', ?_,hC w' (((h.take i hi).step (A':=ah E s (xs.take n++List.replicate (xs.length-n) z0)) fun G hA' hG=>⟨h2.mono fun k _ e=>by rw[e];exact hA'.1 _ ha,G,⟨hA'.1, ?_, ?_⟩,fun k hk=>⟨.inl hk,by have:=(hG k hk).2;omega⟩⟩).put (bQ hi))⟩
   ·unfold gP Builtin.clear_
    rw[hA];obtain ⟨d,hd⟩:∃d,s.len-n=d+1:=⟨s.len-n-1,om⟩
    simp only[List.getElem?_toArray,List.getElem?_cons_zero,Sem.run_bind,aN hu,Result.andThen_ok];have h1':(storeCells ⟨b,o+n*E.z,none⟩ (Builtin.zeroCells zv.cells (d+1)).toList).run P w= .ok () w':=by rw[←hd];exact h1
    rw[hd];simp only[hz,Sem.run_bind,Result.andThen_ok,h1'];rfl
   ·simp[hl];omega
   ·refine .mk b o _ ha h4 hle (by rw[fU];exact hc) ?_
    have hpre:(xs.take n).flatMap E.enc=(xs.flatMap E.enc).take (n*E.z):=by
     have g1:xs.flatMap E.enc=(xs.take n).flatMap E.enc++(xs.drop n).flatMap E.enc:=by rw[←List.flatMap_append,List.take_append_drop]
     have g2:((xs.take n).flatMap E.enc).length=n*E.z:=by rw[aK];simp[hn]
     rw[g1,←g2,List.take_left]
    rw[List.flatMap_append,←hzs,hpre,hcs];apply List.ext_getElem?;intro t;rw[List.getElem?_take,List.getElem?_drop,ck _ _ _ _ hroom,List.take_take,Nat.min_eq_left hnm];by_cases e:t<n*E.z
    ·rw[List.getElem?_append_left (by simp;omega),List.getElem?_take,if_pos e,List.getElem?_drop,if_pos om,if_neg om]
    ·have hl2:(List.take (n*E.z) (List.drop o l)).length=n*E.z:=by simp;omega
     rw[List.getElem?_append_right om,hl2];by_cases e2:t<s.len*E.z
     ·rw[if_pos e2,if_pos (by rw[hzlen,Nat.sub_mul];omega)]
      congr 1;omega
     ·rw[if_neg e2]
      apply List.getElem?_eq_none;rw[hzlen,Nat.sub_mul];omega
theorem Ow.mF {T kt el:TypeId} {K V:Type} [DecidableEq K] {enc:K->Value} {encV:V->Value} {m:Nat} {M:List (K × V)} {k:K} {v:V} (hu:P.underlying T=some (.map kt el)) (hk:iU P kt enc)
  (h:Ow B w0 w L) (i:Nat) (hi:L[i]?=some (dI enc encV m M)) (hl:cF M k=some v):oM P T (.map (some m)) (enc k) (encV v) true w/\wW P T (.map (some m)) (enc k) (encV v) w:=
 ((h.take i hi).head fun _ h=>h.2).Cv hu hk hl
theorem Ow.nh {T kt el:TypeId} {K V:Type} [DecidableEq K] {enc:K->Value} {encV:V->Value} {m:Nat} {M:List (K × V)} {k:K} {z:Value} (hu:P.underlying T=some (.map kt el)) (hk:iU P kt enc) (hz:∀w,(zeroValue el).run P w= .ok z w)
  (h:Ow B w0 w L) (i:Nat) (hi:L[i]?=some (dI enc encV m M)) (hl:cF M k=none):oM P T (.map (some m)) (enc k) z false w/\wW P T (.map (some m)) (enc k) z w:=
 ((h.take i hi).head fun _ h=>h.2).ff hu hk hz hl
theorem Ow.iS {T kt el:TypeId} {K V:Type} [DecidableEq K] {enc:K->Value} {encV:V->Value} {m:Nat} {M:List (K × V)} {k:K} {v:V} {C:World->Prop} (hu:P.underlying T=some (.map kt el)) (hk:iU P kt enc)
  (h:Ow B w0 w L) (i:Nat) (hi:L[i]?=some (dI enc encV m M)) (hC:∀w',Ow B w0 w' (L.set i (dI enc encV m (iQ M k v)))->C w'):∃w',fL P T (.map (some m)) (enc k) (encV v) w w'/\C w':=by
 obtain ⟨w',h1,h2,h3,h4⟩:=((h.take i hi).head fun _ h=>h.2).put (P:=P) (T:=T) hu hk k v;exact ⟨w',h1,hC w' (((h.take i hi).step (A':=dI enc encV m (iQ M k v)) fun G hA hG=>⟨h2.mono fun k _ e=>by rw[e];exact hA.1,G,⟨hA.1,h4⟩,fun k hk=>⟨.inl hk,by have:=(hG k hk).2;omega⟩⟩).put (bQ hi))⟩
theorem Ow.Ez {T kt el t:TypeId} {ts:List TypeId} {K V:Type} [DecidableEq K] {enc:K->Value} {encV:V->Value} {m:Nat} {M:List (K × V)} {k:K} {C:World->Prop} (hu:P.underlying T=some (.map kt el)) (hk:iU P kt enc)
  (h:Ow B w0 w L) (i:Nat) (hi:L[i]?=some (dI enc encV m M)) (hC:∀w',Ow B w0 w' (L.set i (dI enc encV m (kL M k)))->C w'):∃w',tP P (T::ts) t (.map (some m)) (enc k) w w'/\C w':=by
 obtain ⟨w',h1,h2,h3,h4⟩:=((h.take i hi).head fun _ h=>h.2).del (P:=P) (T:=T) (t:=t) (ts:=ts) hu hk k;exact ⟨w',h1,hC w' (((h.take i hi).step (A':=dI enc encV m (kL M k)) fun G hA hG=>⟨h2.mono fun k _ e=>by rw[e];exact hA.1,G,⟨hA.1,h4⟩,fun k hk=>⟨.inl hk,by have:=(hG k hk).2;omega⟩⟩).put (bQ hi))⟩
end
end Go.Vc
namespace Go.Vc
open Go
structure As {α:Type} (E:cQ α) (w0:World) (s:Sl) (xs:List α):Prop where
 len:s.len=xs.length
 cap:s.len≤s.cap
 It:∀j x,xs[j]?=some x->∃a,s.a=some a/\a.block<w0.heap.size/\∀c v,(E.enc x)[c]?=some v->w0.cell? ((a.add (j*E.z)).add c)=some v
theorem lX (a:Addr) (n:Nat):(a.add n).block=a.block:=by
 unfold Addr.add;split<;>rfl
theorem add_nil (a:Addr):a.add 0=a:=by simp[Addr.add]
theorem As.get {α:Type} {E:cQ α} {w0 w:World} {s:Sl} {xs:List α} {L:List aA} (hi:As E w0 s xs) (h:Ow w0.heap.size w0 w L) {j:Nat} {x:α} (hj:xs[j]?=some x):
  ∃a,s.a=some a/\∀c v,(E.enc x)[c]?=some v->w.cell? ((a.add (j*E.z)).add c)=some v:=by
 obtain ⟨a,h1,h2,h3⟩:=hi.It j x hj;refine ⟨a,h1,fun c v hv=>?_⟩;rw[h.below.cell (by rw[lX,lX];exact h2)];exact h3 c v hv
theorem As.lt {α:Type} {E:cQ α} {w0:World} {s:Sl} {xs:List α} (h:As E w0 s xs) {i:Nat} (hi:(i:Int)<(s.len:Int)):∃x,xs[i]?=some x:=⟨_,gE (by have:=h.len;omega)⟩
theorem Ff (a:Option Addr) (m z:Nat):dV a 0 m z=a:=by
 unfold dV;split
 ·rfl
 ·cases a with
  |none=>rfl
  |some x=>simp[Addr.add]
theorem FQ (a:Addr) (i j:Nat):(a.add i).add j=a.add (i+j):=by
 unfold Addr.add;by_cases hj:j=0
 ·subst hj;simp
 ·by_cases hi:i=0
  ·subst hi;simp[hj]
  ·simp[hi,hj,Nat.add_assoc]
section
variable {P:Program} {α:Type} {E:cQ α} {w0 w:World} {L:List aA}
theorem nV (E:cQ α):∀(xs:List α) (i:Nat) (v:Value),(xs.flatMap E.enc)[i]?=some v->∃j x c,xs[j]?=some x/\(E.enc x)[c]?=some v/\i=j*E.z+c
 | [],i,v,h=>by simp at h
 |x::xs,i,v,h=>by
  rw[List.flatMap_cons] at h;by_cases hi:i<E.z
  ·rw[List.getElem?_append_left (by rw[E.len];exact hi)] at h
   exact ⟨0,x,i,rfl,h,om⟩
  ·rw[List.getElem?_append_right (by rw[E.len];omega),E.len] at h
   obtain ⟨j,y,c,h1,h2,h3⟩:=nV E xs (i-E.z) v h;exact ⟨j+1,y,c,h1,h2,by rw[Nat.add_mul];omega⟩
theorem Ow.IZ {T el:TypeId} {inf:TypeInfo} {zv:Value} {s x:Sl} {xs ys:List α} {n:Nat} {k:Sl->World->Prop}
  (hu:P.underlying T=some (.slice el)) (hf:P.info? el=some inf) (hz:inf.zero=some zv) (hsz:inf.size=E.z) (hzc:zv.cells.size=E.z) (hb:1≤inf.bytes) (hi:As E w0 x ys) (hn:n≤ys.length)
  (h:Ow w0.heap.size w0 w L) (i:Nat) (hL:L[i]?=some (ah E s xs)) (hbig:(17*(xs.length+n)+16000)*inf.bytes≤2^48)
  (hk:∀s' w',s'.len=xs.length+n->Ow w0.heap.size w0 w' (L.set i (ah E s' (xs++ys.take n)))->k s' w'):
  ∃s' w',bo P [T,T] T (.slice s.a s.len s.cap) (.slice (dV x.a 0 x.cap E.z) (n-0) (x.cap-0)) w s' w'/\k s' w':=by
 rw[Ff];have hl:(ys.take n).length=n:=by rw[List.length_take];omega
 refine Ow.Ib (x:=⟨x.a,n-0,x.cap-0⟩) (ys:=ys.take n) hu hf hz hsz hzc hb h i hL (by rw[aK,hl];rfl) (fun W hW=>?_) (by rw[hl];rfl) (by rw[hl];exact hbig) (by rw[hl];exact hk);cases hx:x.a with
 |none=>
  have hy:ys.take n= []:=by
   cases ys with
   |nil=>simp
   |cons y ys=>obtain ⟨a,ha,_⟩:=hi.It 0 y rfl;rw[hx] at ha;cases ha
  rw[hy];rfl
 |some a=>
  have hc:∀j v,((ys.take n).flatMap E.enc)[j]?=some v->W.cell? (a.add j)=some v:=fun j v hv=>by
   obtain ⟨q,y,c,h1,h2,h3⟩:=nV E _ j v hv;rw[List.getElem?_take] at h1;split at h1
   ·obtain ⟨a',ha',hg⟩:=hi.get h h1
    rw[hx] at ha';cases ha';have:=hg c v h2;rw[FQ] at this;rw[h3];unfold World.cell? at this⊢;rw[hW];exact this
   ·cases h1
  have hlen:((ys.take n).flatMap E.enc).length=n*E.z:=by rw[aK,hl]
  simp only[Builtin.firstCells];unfold loadCells;have:=cw (P:=P) W a ((ys.take n).flatMap E.enc) 0 #[] (fun j v hj=>by rw[cG] at hj;rw[Nat.zero_add];exact hc j v hj);rw[hlen] at this;rw[show n-0=n from rfl,this];simp
end
end Go.Vc
namespace Go.Vc
open Go
def Gc (f:TypeId->List Value->List Value->Option Bool) (z:TypeId->Nat) (xs ys:List Value):List (TypeId × Nat)->Option Bool
 | []=>some true
 |(t,o)::r=>match f t ((xs.drop o).take (z t)) ((ys.drop o).take (z t)),Gc f z xs ys r with
  |some p,some q=>some (p&&q)
  |_,_=>none
def oQ (P:Program):Nat->TypeId->List Value->List Value->Option Bool
 |0,_,_,_=>none
 |d+1,t,xs,ys=>match P.underlying t with
  |some .bool=>(match xs,ys with| [.bool a],[.bool b]=>some (a==b)|_,_=>none)
  |some (.int _)=>(match xs,ys with| [.int k a],[.int k' b]=>if k=k' then some (a==b) else none|_,_=>none)
  |some .string=>(match xs,ys with| [.string a],[.string b]=>some (a==b)|_,_=>none)
  |some (.array n e)=>if Nat.beq (P.cellsOf e) 0 then none else Gc (oQ P d) P.cellsOf xs ys ((List.range n).map fun i=>(e,i*P.cellsOf e))
  |some (.struct fs)=>if P.stoodInHeld t||fs.any (fun f=>f.name== "_" ||Nat.beq (P.cellsOf f.type) 0) then none else Gc (oQ P d) P.cellsOf xs ys (fs.toList.map fun f=>(f.type,f.offset))
  |_=>none
def kP (P:Program) (t:TypeId) (xs:List Value):Value:=match P.underlying t with
 |some (.array _ _)|some (.struct _)=> .agg ⟨xs⟩
 |_=>xs.headD (.bool false)
theorem wu {P:Program} {t:TypeId} {d:Nat} {xs ys:List Value} {o:Nat} {r:Bool} (z0:P.cellsOf t≠0) (h:oQ P d t ((xs.drop o).take (P.cellsOf t)) ys=some r∨oQ P d t ys ((xs.drop o).take (P.cellsOf t))=some r) (w:World):
  (part t ⟨xs⟩ o).run P w= .ok (kP P t ((xs.drop o).take (P.cellsOf t))) w:=by
 have key:∀v,(xs.drop o).take (P.cellsOf t)= [v]->xs[o]?=some v:=fun v hv=>by
  have:((xs.drop o).take (P.cellsOf t))[0]?=some v:=by rw[hv];rfl
  rw[List.getElem?_take,if_pos om,List.getElem?_drop] at this;simpa using this
 cases d with
 |zero=>rcases h with h|h<;>simp[oQ] at h
 |succ d=>
  cases hu:P.underlying t with
  |none=>rcases h with h|h<;>simp[oQ,hu] at h
  |some k=>
   have hi:∃i,P.info? t=some i:=by
    cases hi:P.info? t with
    |none=>simp[Program.underlying,hi] at hu
    |some i=>exact ⟨i,rfl⟩
   obtain ⟨i,hi⟩:=hi
   have plain:(∃v,(xs.drop o).take (P.cellsOf t)= [v])->(∀n e,k≠ .array n e)->(∀fs,k≠ .struct fs)->(part t ⟨xs⟩ o).run P w= .ok (kP P t ((xs.drop o).take (P.cellsOf t))) w:=by
    intro ⟨v,hv⟩ n1 n2;have hx:=key v hv;have hx':(⟨xs⟩:Array Value)[o]?=some v:=by simpa using hx
    rw[hv];cases k<;>simp_all [part,isAgg,run_underlying hu,kP]
   cases k with
   |array n e=>
    simp[part,isAgg,run_underlying hu,run_sizeOf w hi,kP,hu,List.extract]
   |struct fs=>simp[part,isAgg,run_underlying hu,run_sizeOf w hi,kP,hu,List.extract]
   |bool=>
    refine plain ?_ (by intros;simp) (by intros;simp);rcases h with h|h<;>simp only[oQ,hu] at h<;>split at h<;>simp_all
   |int q=>
    refine plain ?_ (by intros;simp) (by intros;simp);rcases h with h|h<;>simp only[oQ,hu] at h<;>split at h<;>simp_all
   |string=>
    refine plain ?_ (by intros;simp) (by intros;simp);rcases h with h|h<;>simp only[oQ,hu] at h<;>split at h<;>simp_all
   |_=>rcases h with h|h<;>simp[oQ,hu] at h
theorem oR {P:Program}:∀(d:Nat) {t:TypeId} {xs ys:List Value} {r:Bool},oQ P d t xs ys=some r->∀(dd:Nat) (w:World),d≤dd->(Op.equalIn dd t (kP P t xs) (kP P t ys)).run P w= .ok r w:=by
 intro d
 induction d with
 |zero=>intro t xs ys r h;simp[oQ] at h
 |succ d ih=>
  intro t xs ys r h dd w hd;obtain ⟨dd,rfl⟩:∃n,dd=n+1:=⟨dd-1,om⟩
  cases hu:P.underlying t with
  |none=>simp[oQ,hu] at h
  |some k=>
   simp only[oQ,hu] at h;cases k with
   |bool=>
    simp only at h;split at h
    ·cases h;simp only[kP,hu,List.headD];exact run_equalIn_bool w dd t _ _ hu
    ·cases h
   |int q=>
    simp only at h;split at h
    ·split at h
     ·rename_i e;subst e;cases h;simp only[kP,hu,List.headD];exact run_equalIn_int w dd t _ _ _ _ hu
     ·cases h
    ·cases h
   |string=>
    simp only at h;split at h
    ·cases h;simp only[kP,hu,List.headD,beq_toListBytes];exact run_equalIn_string w dd t _ _ hu
    ·cases h
   |array n e=>
    simp only at h;split at h
    ·cases h
    ·rename_i hz
     have hz:P.cellsOf e≠0:=fun e=>hz (by rw[e];rfl)
     have hi:∃i,P.info? e=some i:=by
      cases hi:P.info? e with
      |none=>exfalso;apply hz;simp[Program.cellsOf,hi]
      |some i=>exact ⟨i,rfl⟩
     obtain ⟨i,hi⟩:=hi;simp only[kP,hu];rw[run_equalIn_array w dd _ _ hu hi];generalize List.range n=is at h
     induction is generalizing r with
     |nil=>simp only[List.map_nil,Gc,Option.some.injEq] at h;subst h;simp[Op.eqItems]
     |cons j is ihl=>
      simp only[List.map_cons,Gc] at h;cases hp:oQ P d e ((xs.drop (j*P.cellsOf e)).take (P.cellsOf e)) ((ys.drop (j*P.cellsOf e)).take (P.cellsOf e)) with
      |none=>rw[hp] at h;simp at h
      |some p=>
       cases hq:Gc (oQ P d) P.cellsOf xs ys (is.map fun i=>(e,i*P.cellsOf e)) with
       |none=>rw[hp,hq] at h;simp at h
       |some q=>
        rw[hp,hq] at h;simp only[Option.some.injEq] at h;subst h;simp only[Op.eqItems,Sem.run_bind,wu hz (.inl hp),wu hz (.inr hp),Result.andThen_ok,ih hp dd w om];cases p
        ·simp
        ·simp only[Bool.not_true,Bool.false_eq_true,if_false,Bool.true_and];exact ihl hq
   |struct fs=>
    simp only at h;split at h
    ·cases h
    ·rename_i hc
     simp only[Bool.or_eq_true,not_or,Bool.not_eq_true] at hc;obtain ⟨hst,hfs⟩:=hc;have hf:P.fieldsOf t=fs:=by simp[Program.fieldsOf,hu]
     simp only[kP,hu];rw[run_equalIn_struct w dd t _ _ (by rw[hf];exact hu) hst,hf]
     have hfs:∀f∈fs.toList,f.name≠ "_" /\P.cellsOf f.type≠0:=fun f hf'=>by
      have:=(Array.any_eq_false'.1 hfs) f (Array.mem_toList_iff.1 hf');simp only[Bool.or_eq_true,beq_iff_eq,not_or] at this;exact ⟨this.1,fun e=>this.2 (by rw[e];rfl)⟩
     generalize fs.toList=ls at h hfs
     induction ls generalizing r with
     |nil=>simp only[List.map_nil,Gc,Option.some.injEq] at h;subst h;simp[Op.eqFields]
     |cons f ls ihl=>
      simp only[List.map_cons,Gc] at h;obtain ⟨hn,hz⟩:=hfs f (by simp);cases hp:oQ P d f.type ((xs.drop f.offset).take (P.cellsOf f.type)) ((ys.drop f.offset).take (P.cellsOf f.type)) with
      |none=>rw[hp] at h;simp at h
      |some p=>
       cases hq:Gc (oQ P d) P.cellsOf xs ys (ls.map fun f=>(f.type,f.offset)) with
       |none=>rw[hp,hq] at h;simp at h
       |some q=>
        rw[hp,hq] at h;simp only[Option.some.injEq] at h;subst h;simp only[Op.eqFields,hn,ne_eq,not_false_iff,if_true,Sem.run_bind,wu hz (.inl hp),wu hz (.inr hp),Result.andThen_ok,ih hp dd w om];cases p
        ·simp
        ·simp only[Bool.not_true,Bool.false_eq_true,if_false,Bool.true_and];exact ihl hq fun f hf'=>hfs f (by simp[hf'])
   |_=>simp at h
theorem G0 {P:Program} {t:TypeId} {x y:Operand} {xs ys:List Value} {r:Bool} (ha:kP P t xs= .agg ⟨xs⟩) (hb:kP P t ys= .agg ⟨ys⟩) (hg:P.eqGuardType P.depth t=false) (h:oQ P 9 t xs ys=some r):FM P .eql t x y (.agg ⟨xs⟩) (.agg ⟨ys⟩) r:=by
 intro w;have:=oR 9 h 10000 w (by decide);rw[ha,hb] at this;simp only[Sem.run_bind,run_eqGuard_agg w .eql t x y _ _ hg,Result.andThen_ok,run_eql_struct,this]
theorem IC {P:Program} {t:TypeId} {x y:Operand} {xs ys:List Value} {r:Bool} (ha:kP P t xs= .agg ⟨xs⟩) (hb:kP P t ys= .agg ⟨ys⟩) (hg:P.eqGuardType P.depth t=false) (h:oQ P 9 t xs ys=some r):FM P .neq t x y (.agg ⟨xs⟩) (.agg ⟨ys⟩) (!r):=by
 intro w;have:=oR 9 h 10000 w (by decide);rw[ha,hb] at this;simp only[Sem.run_bind,run_eqGuard_agg w .neq t x y _ _ hg,Result.andThen_ok,run_neq_struct,this]
end Go.Vc
namespace Go.Vc
open Go Go.ChangeShapes Go.WideShapes
inductive SK
 |int (k:IntKind)|bool|str
def SK.fit:SK->Value->Prop
 | .int k,v=>∃n,v= .int k n/\(Lit.int k n).wf=true
 | .bool,v=>∃b,v= .bool b
 | .str,v=>∃s:ByteArray,v= .string s/\s.size≤maxLen
def nU (f:TypeId->Option (List SK)):List (TypeId × Nat)->Nat->Option (List SK)
 | [],_=>some []
 |(t,o')::r,o=>if Nat.beq o' o then (match f t with|some ks=>(nU f r (o+ks.length)).map (ks++·)|none=>none) else none
def flatK (P:Program):Nat->TypeId->Option (List SK)
 |0,_=>none
 |d+1,t=>match P.underlying t with
  |some (.int k)=>some [.int k]
  |some .bool=>some [.bool]
  |some .string=>some [.str]
  |some (.struct fs)=>(match nU (flatK P d) (fs.toList.map fun f=>(f.type,f.offset)) 0 with|some ks=>if Nat.beq ks.length (P.cellsOf t) then some ks else none|none=>none)
  |some (.array n e)=>(match nU (flatK P d) ((List.range n).map fun i=>(e,i*P.cellsOf e)) 0 with|some ks=>if Nat.beq ks.length (P.cellsOf t) then some ks else none|none=>none)
  |_=>none
inductive Fits:List SK->List Value->Prop
 |nil:Fits [] []
 |cons {k:SK} {v:Value} {ks:List SK} {vs:List Value} (h:k.fit v) (hs:Fits ks vs):Fits (k::ks) (v::vs)
theorem Fits.length {ks:List SK} {vs:List Value} (h:Fits ks vs):vs.length=ks.length:=by induction h<;>simp_all
theorem Fits.append {ks ks':List SK} {vs vs':List Value} (h:Fits ks vs) (h':Fits ks' vs'):Fits (ks++ks') (vs++vs'):=by
 induction h with
 |nil=>exact h'
 |cons h _ ih=>exact .cons h ih
theorem Fits.cM {k:SK} {ks:List SK} {vs:List Value} (h:Fits (k::ks) vs):∃v vs',vs=v::vs'/\k.fit v/\Fits ks vs':=by
 cases h with
 |cons h hs=>exact ⟨_,_,rfl,h,hs⟩
theorem Fits.AY {vs:List Value} (h:Fits [] vs):vs= []:=by cases h;rfl
theorem mU {P:Program} {f:TypeId->Option (List SK)} {cs:List Value}:∀(l:List (TypeId × Nat)) (o:Nat) (ks:List SK),nU f l o=some ks->(∀p∈l,∀ks,f p.1=some ks->Fits ks ((cs.drop p.2).take (P.cellsOf p.1)))->
  ∃vs,Fits ks vs/\cs.drop o=vs++cs.drop (o+ks.length)
 | [],o,ks,h,_=>by
  simp only[nU,Option.some.injEq] at h;subst h;exact ⟨[], .nil,by simp⟩
 |(t,o')::r,o,ks,h,hp=>by
  simp only[nU] at h;split at h
  ·rename_i ho
   have ho:=Nat.eq_of_beq_eq_true ho;subst ho;cases hf:f t with
   |none=>rw[hf] at h;cases h
   |some k1=>
    rw[hf] at h;simp only at h;cases hr:nU f r (o'+k1.length) with
    |none=>rw[hr] at h;cases h
    |some k2=>
     rw[hr] at h;simp only[Option.map_some,Option.some.injEq] at h;subst h;have h1:=hp (t,o') (by simp) k1 hf;obtain ⟨vs,h2,h3⟩:=mU r _ _ hr fun p hp'=>hp p (by simp[hp'])
     refine ⟨_,h1.append h2, ?_⟩;have hlen:min (P.cellsOf t) (cs.length-o')=k1.length:=by have:=h1.length;rwa [List.length_take,List.length_drop] at this
     rw[List.append_assoc,List.length_append,←Nat.add_assoc,←h3,←List.drop_drop]
     have:(cs.drop o').take (P.cellsOf t)=(cs.drop o').take k1.length:=by
      by_cases e:P.cellsOf t≤cs.length-o'
      ·rw[Nat.min_eq_left e] at hlen;rw[hlen]
      ·rw[Nat.min_eq_right om] at hlen
       rw[List.take_of_length_le (by rw[List.length_drop];omega),List.take_of_length_le (by rw[List.length_drop];omega)]
     show _=(cs.drop o').take (P.cellsOf t)++_;rw[this,List.take_append_drop]
  ·cases h
section
variable {H:Type} {enc:TypeId × Value->H} {P:Program} {w:World} {base:Nat} {spare:Nat->Bool} {held:Bool}
theorem zt:∀(d:Nat) {fuel:Nat} {t:TypeId} {cs:List Value} {x:DataW H × List MemPlace} {ks:List SK},flatK P d t=some ks->DataW.trod enc P w base spare held fuel t cs=some x->Fits ks cs:=by
 intro d
 induction d with
 |zero=>intro fuel t cs x ks h;simp[flatK] at h
 |succ d ih=>
  intro fuel t cs x ks h hx
  have all:∀(ks':List SK),cs.length=P.cellsOf t->Nat.beq ks'.length (P.cellsOf t)=true->(∃vs,Fits ks' vs/\cs.drop 0=vs++cs.drop (0+ks'.length))->Fits ks' cs:=by
   intro ks' h1 h2 ⟨vs,h3,h4⟩;have h2:=Nat.eq_of_beq_eq_true h2;rw[List.drop_zero,List.drop_eq_nil_of_le om,List.append_nil] at h4;rw[h4];exact h3
  cases hu:P.underlying t with
  |none=>simp[flatK,hu] at h
  |some k=>
   simp only[flatK,hu] at h;cases k with
   |int q=>
    simp only[Option.some.injEq] at h;subst h;obtain ⟨n,rfl,_,hw⟩:=DataW.trod_int hu hx;exact .cons ⟨n,rfl,hw⟩ .nil
   |bool=>
    simp only[Option.some.injEq] at h;subst h;obtain ⟨b,rfl,_⟩:=DataW.trod_bool hu hx;exact .cons ⟨b,rfl⟩ .nil
   |string=>
    simp only[Option.some.injEq] at h;subst h;obtain ⟨s,rfl,_,hs⟩:=DataW.trod_string hu hx;exact .cons ⟨s,rfl,hs⟩ .nil
   |struct fs=>
    simp only at h;cases hf:nU (flatK P d) (fs.toList.map fun f=>(f.type,f.offset)) 0 with
    |none=>rw[hf] at h;cases h
    |some ks'=>
     rw[hf] at h;simp only at h;split at h
     ·rename_i hl
      cases h;obtain ⟨xs,n,rfl,rfl,hlen,hxl,hall⟩:=DataW.trod_struct hu hx;refine all _ hlen hl (mU (P:=P) _ _ _ hf fun p hp ks'' hk=>?_);obtain ⟨f,hf',rfl⟩:=List.mem_map.1 hp;obtain ⟨i,hi⟩:=List.getElem?_of_mem hf';have hi':fs[i]?=some f:=by simpa using hi
      have hlt:i<xs.length:=by rw[hxl];exact (Array.getElem?_eq_some_iff.1 hi').1
      have:=hall i f hi';rw[gE hlt] at this;exact ih hk this
     ·cases h
   |array n e=>
    simp only at h;cases hf:nU (flatK P d) ((List.range n).map fun i=>(e,i*P.cellsOf e)) 0 with
    |none=>rw[hf] at h;cases h
    |some ks'=>
     rw[hf] at h;simp only at h;split at h
     ·rename_i hl
      cases h
      obtain ⟨xs,n',rfl,hlen,hall⟩:∃(xs:List (DataW H × List MemPlace)) (m:Nat),fuel=m+1/\cs.length=P.cellsOf t/\∀i,i<n->∃y,DataW.trod enc P w base spare held m e ((cs.drop (i*P.cellsOf e)).take (P.cellsOf e))=some y:=by
       cases fuel with
       |zero=>simp[DataW.trod] at hx
       |succ m=>
        unfold DataW.trod at hx;rw[hu] at hx;simp only at hx;split at hx
        ·rename_i hl2
         simp only[Option.map_eq_some_iff] at hx;obtain ⟨xs,hp,_⟩:=hx;refine ⟨xs,m,rfl,hl2,fun i hi=>?_⟩;have hg:=mapM_some_get hp i i (by simp[hi]);have hl3:=mapM_some_length hp;rw[gE (by rw[List.length_range] at hl3;omega)] at hg;exact ⟨_,hg⟩
        ·cases hx
      refine all _ hlen hl (mU (P:=P) _ _ _ hf fun p hp ks'' hk=>?_);obtain ⟨i,hi,rfl⟩:=List.mem_map.1 hp;obtain ⟨y,hy⟩:=hall i (List.mem_range.1 hi);exact ih hk hy
     ·cases h
   |_=>simp at h
theorem F7 {w:World} {a:Addr} {v:Value} (h:w.cell? a=some v):a.block<w.heap.size:=by
 refine Nat.lt_of_not_le fun hn=>?_
 have:w.heap[a.block]?=none:=by simp[hn]
 unfold World.cell? at h;simp[this] at h
theorem D4 {α:Type} {E:cQ α} {good:α->Prop} {t e:TypeId} {W:World} {sp:Nat->Bool} {a:Option Addr} {len cap d:Nat} {dd:DataW H} {ps:List MemPlace} {ks:List SK} (ht:P.underlying t=some (.slice e)) (hz:P.cellsOf e=E.z) (hk:flatK P d e=some ks)
  (dec:∀cs,Fits ks cs->∃x,cs=E.enc x/\good x) (h:DataW.Trod enc P W 0 sp held t (.slice a len cap) dd ps):∃xs,As E W ⟨a,len,cap⟩ xs/\∀x∈xs,good x:=by
 obtain ⟨fuel,h⟩:=h;rcases Go.Deep.open_slice ht h with ⟨hcs,_⟩|⟨a',len',cap',m,n,D,Pl,hcs,_,hl,hm,hmm,_,hel⟩
 ·simp[Value.cells] at hcs
  obtain ⟨rfl,rfl,rfl⟩:=hcs;exact ⟨[],⟨rfl,Nat.le_refl _,(fun j x hj=>by simp at hj)⟩,(fun x hx=>by cases hx)⟩
 ·simp[Value.cells] at hcs
  obtain ⟨rfl,rfl,rfl⟩:=hcs;have hmlen:len≤m:=by rw[hmm];split<;>omega
  have one:∀i,i<len->∃x,good x/\a'.block<W.heap.size/\∀c v,(E.enc x)[c]?=some v->W.cell? ((a'.add (i*E.z)).add c)=some v:=fun i hi=>by
   obtain ⟨cs',h1,h2⟩:=hel i om;obtain ⟨_,h3,h4⟩:=World.cells?_some h1;obtain ⟨x,rfl,hg⟩:=dec cs' (zt d hk h2);rw[hz] at h4;have hpos:=E.pos;refine ⟨x,hg, ?_,fun c v hv=>?_⟩
   ·have:=h4 0 hpos
    rw[gE (by rw[E.len];exact hpos)] at this;have:=F7 this
    rwa [lX,lX] at this
   ·rw[h4 c (by have:=(List.getElem?_eq_some_iff.1 hv).1;rw[E.len] at this;exact this)]
    exact hv
  have ex:∀n,n≤len->∃xs:List α,xs.length=n/\(∀x∈xs,good x)/\∀j x,xs[j]?=some x->a'.block<W.heap.size/\∀c v,(E.enc x)[c]?=some v->W.cell? ((a'.add (j*E.z)).add c)=some v:=by
   intro n
   induction n with
   |zero=>intro _;exact ⟨[],rfl,(fun x hx=>by cases hx),(fun j x hj=>by simp at hj)⟩
   |succ n ih=>
    intro hn;obtain ⟨xs,h1,h2,h3⟩:=ih om;obtain ⟨x,h4,h5,h6⟩:=one n om;refine ⟨xs++ [x],by simp[h1],fun y hy=>?_,fun j y hj=>?_⟩
    ·rcases List.mem_append.1 hy with hy|hy
     ·exact h2 y hy
     ·simp only[List.mem_singleton] at hy;subst hy;exact h4
    ·by_cases hjn:j<xs.length
     ·rw[List.getElem?_append_left hjn] at hj;exact h3 j y hj
     ·rw[List.getElem?_append_right om] at hj
      have hj0:j-xs.length=0:=by
       refine Classical.byContradiction fun hne=>?_
       rw[List.getElem?_eq_none (by simp;omega)] at hj;cases hj
      rw[hj0] at hj;simp only[List.getElem?_cons_zero,Option.some.injEq] at hj;subst hj;have:j=n:=by omega
      subst this;exact ⟨h5,h6⟩
  obtain ⟨xs,h1,h2,h3⟩:=ex len (Nat.le_refl _);exact ⟨xs,⟨h1.symm,‹len≤cap›,fun j x hj=>⟨a',rfl,h3 j x hj⟩⟩,h2⟩
end
end Go.Vc
namespace Go.Vc
open Go
open Go.ChangeMaps (setBlock)
structure GV {K V:Type} (enc:K->Value) (encV:V->Value) (w:World) (m it:Nat) (M left:List (K × V)):Prop where
 ex:∃es c since seen c0,kJ w m es c/\es.toList.map (fun e=>(e.key,e.val))=M.map (fun p=>(enc p.1,encV p.2))/\(es.toList.map (·.born)).Nodup/\(∀e∈es.toList,e.born<c)/\
  w.heap[it]?=some (.mapIter (some m) since seen c0)/\(∀e∈es.toList,e.born<since)/\since≤c0/\since≤c/\
  (leftOf es seen).toList.map (fun e=>(e.key,e.val))=left.map (fun p=>(enc p.1,encV p.2))
 nodup:(M.map (·.1)).Nodup
 sub:left.Sublist M
def pW {K V:Type} (enc:K->Value) (encV:V->Value) (m it:Nat) (M left:List (K × V)):aA where
 holds G w:=(G m/\G it)/\GV enc encV w m it M left
 loc G w w' h hk:=⟨h.1,by
  obtain ⟨es,c,since,seen,c0,h1,h2,h3,h4,h5,h6⟩:=h.2.ex;exact ⟨⟨es,c,since,seen,c0,by unfold kJ at *;rw[hk m h.1.1];exact h1,h2,h3,h4,by rw[hk it h.1.2];exact h5,h6⟩,h.2.nodup,h.2.sub⟩⟩
 up G G' w h hk:=⟨⟨hk _ h.1.1,hk _ h.1.2⟩,h.2⟩
theorem pY:∀(l:List MapEntry) (j:Nat) (e:MapEntry),(l.map (·.born)).Nodup->l[j]?=some e->l.filter (fun x=>x.born !=e.born)=l.eraseIdx j
 | [],j,e,_,h=>by simp at h
 |a::l,0,e,hn,h=>by
  simp only[List.getElem?_cons_zero,Option.some.injEq] at h;subst h;rw[List.map_cons,List.nodup_cons] at hn;rw[List.filter_cons];simp only[bne_self_eq_false,Bool.false_eq_true,if_false,List.eraseIdx_cons_zero,List.filter_eq_self,bne_iff_ne,ne_eq];intro x hx e';exact hn.1 (List.mem_map.2 ⟨x,hx,e'⟩)
 |a::l,j+1,e,hn,h=>by
  rw[List.map_cons,List.nodup_cons] at hn;rw[List.getElem?_cons_succ] at h
  have hne:(a.born !=e.born)=true:=by
   simp only[bne_iff_ne,ne_eq];intro e';exact hn.1 (List.mem_map.2 ⟨e,List.mem_of_getElem? h,e'.symm⟩)
  rw[List.filter_cons,hne,if_pos rfl,List.eraseIdx_cons_succ,pY l j e hn.2 h]
section
variable {P:Program} {B:Nat} {w0 w:World} {L R:List aA} {K V:Type} {enc:K->Value} {encV:V->Value} {m:Nat} {M:List (K × V)}
theorem Ow.range {T kt el:TypeId} {C:Addr->World->Prop} (hu:P.underlying T=some (.map kt el)) (h:Ow B w0 w L) (i:Nat) (hi:L[i]?=some (dI enc encV m M)) (hC:∀w',Ow B w0 w' (L.set i (pW enc encV m w.heap.size M M))->C ⟨w.heap.size,0,none⟩ w'):
  ∃(it:Addr) (w':World),vA P T (.map (some m)) w it w'/\C it w':=by
 have hM:je enc encV w m M:=(h.take i hi).head fun _ h=>h.2
 obtain ⟨es,c,h1,h2,h3,h4⟩:=hM.ex;refine ⟨_,_,run_range_map w T kt el m es c hu h1,hC _ (((h.take i hi).step (A':=pW enc encV m w.heap.size M M) fun G hA hG=>?_).put (bQ hi))⟩;have hu':=eJ w (.mapIter (some m) c #[] c);refine ⟨hu'.EI,fun k=>G k∨k=w.heap.size,⟨⟨.inl hA.1, .inr rfl⟩,⟨⟨es,c,c, #[],c,h1.rr hu' (fun h=>h),h2,h3,h4,heap_alloc_new _ _,h4,Nat.le_refl _,Nat.le_refl _, ?_⟩,hM.nodup,List.Sublist.refl _⟩⟩,fun k hk=>?_⟩
 ·have:leftOf es #[]=es:=by unfold leftOf;simp
  rw[this];exact h2
 ·have hsz:(w.alloc (.mapIter (some m) c #[] c)).heap.size=w.heap.size+1:=by show (w.heap.push _).size=_;simp
  rcases hk with hk|hk
  ·exact ⟨.inl hk,by have:=(hG k hk).2;omega⟩
  ·exact ⟨.inr om,om⟩
theorem wS (w:World) (r:Nat) (o:Obj):fN (·=r) w (setBlock w r o):=by
 refine ⟨rfl,rfl,rfl,by simp[setBlock],fun k hk hn=>?_⟩;simp[setBlock,Array.getElem?_setIfInBounds_ne (show r≠k from fun e=>hn e.symm)]
theorem Ow.next {ty:TypeId} {it:Nat} {left:List (K × V)} {C:Bool->List Value->World->Prop} (h:Ow B w0 w L) (i:Nat) (hi:L[i]?=some (pW enc encV m it M left))
  (hend:left= []->C false [] w)
  (hgo:∀(j:Nat) (k:K) (v:V) (w':World),left[j]?=some (k,v)->Ow B w0 w' (L.set i (pW enc encV m it M (left.eraseIdx j)))->vw P (.pointer (some ⟨it,0,none⟩)) (enc k) (encV v) w'->C true [enc k,encV v] w'):
  ∃(more:Bool) (l:List Value) (w':World),Au P (.pointer (some ⟨it,0,none⟩)) false ty w more l w'/\C more l w':=by
 have hM:GV enc encV w m it M left:=(h.take i hi).head fun _ h=>h.2
 obtain ⟨es,c,since,seen,c0,h1,h2,h3,h4,h5,h6,h7,h8,h9⟩:=hM.ex;rcases run_next_at (P:=P) w ty it m since c0 seen es c h5 h1 h6 h7 with ⟨hsz,hrun⟩|⟨e,he,w1,hw1,hrun⟩
 ·refine ⟨false,[],w,hrun,hend ?_⟩
  have:(leftOf es seen).toList= []:=List.eq_nil_of_length_eq_zero (by simpa using hsz);rw[this] at h9;simpa using h9.symm
 ·obtain ⟨j,hj⟩:=List.getElem?_of_mem he
  have hkv:=congrArg (fun l=>l[j]?) h9;simp only[List.getElem?_map,hj,Option.map_some] at hkv;cases hl:left[j]? with
  |none=>rw[hl] at hkv;cases hkv
  |some p=>
   rw[hl] at hkv;simp only[Option.map_some,Option.some.injEq,Prod.mk.injEq] at hkv
   have hu1:fN No w w1:=by
    rcases hw1 with rfl|rfl
    ·exact fN.refl _ _
    ·exact jP rfl rfl rfl rfl
   have hmem:e∈es.toList:=by
    have:=Array.mem_toList_iff.1 he;unfold leftOf at this;exact Array.mem_toList_iff.2 (Array.mem_filter.1 this).1
   have hne:m≠it:=fun e'=>by subst e';rw[h1] at h5;cases h5
   have hset:(setBlock w1 it (.mapIter (some m) since (seen.push e.born) c)).heap[it]?=some (.mapIter (some m) since (seen.push e.born) c):=by
    have hlt:it<w1.heap.size:=by
     have:=(Array.getElem?_eq_some_iff.1 h5).1;exact Nat.lt_of_lt_of_le this hu1.size
    simp[setBlock,Array.getElem?_setIfInBounds_self_of_lt hlt]
   have hu2:=wS w1 it (.mapIter (some m) since (seen.push e.born) c);have hm2:kJ (setBlock w1 it (.mapIter (some m) since (seen.push e.born) c)) m es c:=(h1.rr hu1 (fun h=>h)).rr hu2 hne
   have hleft:(leftOf es (seen.push e.born)).toList.map (fun e=>(e.key,e.val))=(left.eraseIdx j).map (fun p=>(enc p.1,encV p.2)):=by
    have e1:(leftOf es (seen.push e.born)).toList=(leftOf es seen).toList.filter fun x=>x.born !=e.born:=by
     unfold leftOf;rw[Array.toList_filter,Array.toList_filter,List.filter_filter];congr 1;funext x;rw[Array.contains_push];cases hq:(x.born==e.born)<;>simp[bne,hq]
    have hnd:((leftOf es seen).toList.map (·.born)).Nodup:=by
     unfold leftOf;rw[Array.toList_filter];exact h3.sublist (List.filter_sublist.map _)
    rw[e1,pY _ j e hnd hj,gw,gw,h9]
   refine ⟨true,[e.key,e.val],_,hrun, ?_⟩;rw[hkv.1,hkv.2];refine hgo j p.1 p.2 _ hl (((h.take i hi).step (A':=pW enc encV m it M (left.eraseIdx j)) fun G hA hG=>⟨?_,G,⟨hA.1,⟨⟨es,c,since,seen.push e.born,c,hm2,h2,h3,h4,hset,h6,h8,h8,hleft⟩,hM.nodup, ?_⟩⟩,fun k hk=>⟨.inl hk, ?_⟩⟩).put (bQ hi)) ?_
   ·exact (hu1.EI (F:=G)).then (hu2.mono fun k _ e'=>by rw[e'];exact hA.1.2)
   ·exact (List.eraseIdx_sublist _ _).trans hM.sub
   ·exact Nat.lt_of_lt_of_le (hG k hk).2 (Nat.le_trans hu1.size hu2.size)
   ·have:=run_entry_at (P:=P) _ it m since seen es c e hset hm2 hmem h3
    rw[hkv.1,hkv.2] at this;exact this
theorem Ow.Gh {it:Nat} {left:List (K × V)} (h:Ow B w0 w L) (i:Nat) (hi:L[i]?=some (pW enc encV m it M left)):Ow B w0 w (L.set i (dI enc encV m M)):=
 ((h.take i hi).conv (A':=dI enc encV m M) fun G hG=>by
  obtain ⟨es,c,since,seen,c0,h1,h2,h3,h4,_⟩:=hG.2.ex;exact ⟨hG.1.1,⟨⟨es,c,h1,h2,h3,h4⟩,hG.2.nodup⟩⟩).put (bQ hi)
end
end Go.Vc
namespace Go.Vc
open Go
section
variable {P:Program}
theorem lz {K:Type} [DecidableEq K] {kt:TypeId} {enc:K->Value} (heq:∀k x w,(Op.equal kt (enc k) (enc x)).run P w= .ok (decide (x=k)) w) (k:K):∀(es:List MapEntry) (ks:List K) (j:Nat) (w:World),es.map (·.key)=ks.map enc->
  (Instr.findAsking kt (enc k) es j).run P w= .ok ((ks.findIdx? fun x=>decide (x=k)).bind fun i=>(es[i]?).map fun e=>(j+i,e.val)) w
 | [],ks,j,w,h=>by
  cases ks with
  |nil=>simp[Instr.findAsking]
  |cons _ _=>simp at h
 |e::es,ks,j,w,h=>by
  cases ks with
  |nil=>simp at h
  |cons x ks=>
   simp only[List.map_cons,List.cons.injEq] at h;simp only[Instr.findAsking,Sem.run_bind,h.1,heq,Result.andThen_ok];by_cases hx:x=k
   ·subst hx;simp[List.findIdx?_cons]
   ·simp only[hx,decide_false,Bool.false_eq_true,if_false]
    rw[lz heq k es ks (j+1) w h.2];simp only[List.findIdx?_cons,hx,decide_false,Bool.false_eq_true,if_false];cases hq:ks.findIdx? (fun x=>decide (x=k)) with
    |none=>rfl
    |some q=>
     simp only[Option.bind_some,Option.map_some,List.getElem?_cons_succ];congr 3;funext e;congr 1;omega
def cY (p:Int × Int):Value:= .agg #[.int .i64 p.1, .int .i64 p.2]
theorem zE {kt:TypeId} {f0 f1:Field} (hu:P.underlying kt=some (.struct #[f0,f1])) (h0:P.underlying f0.type=some (.int .i64)) (h1:P.underlying f1.type=some (.int .i64)) (n0:f0.name≠ "_") (n1:f1.name≠ "_") (o0:f0.offset=0) (o1:f1.offset=1)
  (heq:∀a b c d:Int,oQ P 9 kt [.int .i64 a, .int .i64 b] [.int .i64 c, .int .i64 d]=some (a==c&&(b==d&&true))):iU P kt cY:=by
 refine ⟨fun em k w=>?_,fun k es ks w h=>?_,fun k=>by unfold Instr.sameBits cY;simp[Instr.sameBits]⟩
 ·have p0:(part f0.type #[Value.int .i64 k.1, .int .i64 k.2] f0.offset).run P w= .ok (.int .i64 k.1) w:=run_part_plain w (by simp[Program.plainKey,h0]) (by rw[o0];rfl)
  have p1:(part f1.type #[Value.int .i64 k.1, .int .i64 k.2] f1.offset).run P w= .ok (.int .i64 k.2) w:=run_part_plain w (by simp[Program.plainKey,h1]) (by rw[o1];rfl)
  have c0:∀n v,(Instr.checkKey em (n+1) f0.type (.int .i64 v)).run P w= .ok () w:=fun n v=>by
   unfold Instr.checkKey;rw[Sem.run_bind,run_underlying h0];rfl
  have c1:∀n v,(Instr.checkKey em (n+1) f1.type (.int .i64 v)).run P w= .ok () w:=fun n v=>by
   unfold Instr.checkKey;rw[Sem.run_bind,run_underlying h1];rfl
  unfold Instr.checkKey cY;rw[Sem.run_bind,run_underlying hu];simp only[Result.andThen_ok];rw[←Array.forIn_toList];simp[n0,n1,Sem.run_bind,p0,p1,c0,c1]
 ·have heq':∀(k x:Int × Int) (w:World),(Op.equal kt (cY k) (cY x)).run P w= .ok (decide (x=k)) w:=fun k x w=>by
   have:=oR 9 (heq k.1 k.2 x.1 x.2) 10000 w (by decide);have e:∀p:Int × Int,kP P kt [.int .i64 p.1, .int .i64 p.2]=cY p:=fun p=>by simp[kP,hu,cY]
   rw[e k,e x] at this;show (Op.equalIn 10000 kt (cY k) (cY x)).run P w=_;rw[this];congr 1;rw[Bool.eq_iff_iff];simp only[Bool.and_true,Bool.and_eq_true,beq_iff_eq,decide_eq_true_eq,Prod.ext_iff];constructor
   ·rintro ⟨h1,h2⟩;exact ⟨h1.symm,h2.symm⟩
   ·rintro ⟨h1,h2⟩;exact ⟨h1.symm,h2.symm⟩
  rw[run_findKey_eq w (by simp[hu])];have:=lz heq' k es ks 0 w h;simpa using this
end
end Go.Vc
namespace Go.Vc
open Go
theorem CS {l:List Value} {o:Nat} {v:Value} {vs:List Value} (h:o+(vs.length+1)≤l.length):putAt (l.set o v) (o+1) vs=putAt l o (v::vs):=by
 apply List.ext_getElem?;intro i;rw[ck _ _ _ _ (by rw[List.length_set];omega),ck _ _ _ _ (by simpa using h)];simp only[List.length_cons,List.getElem?_set];by_cases e:o=i
 ·subst e
  rw[if_neg om,if_pos rfl,if_pos om,if_pos om,Nat.sub_self];rfl
 ·by_cases e2:o+1≤i/\i<o+1+vs.length
  ·rw[if_pos e2,if_pos om,show i-o=(i-(o+1))+1 from by omega,List.getElem?_cons_succ]
  ·rw[if_neg e2,if_neg e,if_neg om]
theorem aH.mk' {b:Nat}:∀(vs:List Value) {w:World} {o p:Nat} {l:List Value} {k:World->Prop},oL w b l->o+p+vs.length≤l.length->vs.all Value.oneCell'=true->
  (∀w',fN (·=b) w w'->w'.heap.size=w.heap.size->oL w' b (putAt l (o+p) vs)->k w')->aH w ⟨b,o,none⟩ p vs k
 | [],w,o,p,l,k,hb,_,_,hk=>hk w (fN.refl _ _) rfl (by rw[jI];exact hb)
 |v::vs,w,o,p,l,k,hb,hl,hone,hk=>by
  simp only[List.all_cons,Bool.and_eq_true] at hone;simp only[List.length_cons] at hl;show St w ((Addr.mk b o none).add p) v _;rw[aI];refine St.mk' hb om hone.1 fun w' hu hs hb'=>?_
  refine aH.mk' vs hb' (by rw[List.length_set];omega) hone.2 fun w2 hu2 hs2 hb2=>?_
  refine hk w2 (hu.then hu2) (hs2.trans hs) ?_;rw[show o+(p+1)=o+p+1 from by omega,CS om] at hb2;exact hb2
theorem mn {l:List Value} {o:Nat} {vs:List Value} (h:o+vs.length≤l.length):(putAt l o vs).length=l.length:=by
 apply Nat.le_antisymm
 ·refine Nat.le_of_not_lt fun hlt=>?_
  have:=ck l o vs l.length h;rw[if_neg om,List.getElem?_eq_none (Nat.le_refl _)] at this;rw[gE hlt] at this;cases this
 ·refine Nat.le_of_not_lt fun hlt=>?_
  have:=ck l o vs (putAt l o vs).length h;rw[List.getElem?_eq_none (Nat.le_refl _)] at this;split at this
  ·rename_i h2
   rw[gE om] at this;cases this
  ·rw[gE hlt] at this;cases this
section
variable {P:Program} {B:Nat} {w0 w:World} {L R:List aA} {α:Type} {E:cQ α}
theorem Ow.FJ {b o:Nat} {l vs:List Value} {k:World->Prop} (h:Ow B w0 w L) (i:Nat) (hi:L[i]?=some (aa b l)) (hle:Nat.ble (o+vs.length) l.length=true) (hone:vs.all Value.oneCell'=true)
  (hk:∀w',Ow B w0 w' (L.set i (aa b (putAt l o vs)))->k w'):aH w ⟨b,o,none⟩ 0 vs k:=
 aH.mk' vs (h.ud i hi) (Nat.le_of_ble_eq_true hle) hone fun w' hu hs hb=>hk w' (((h.take i hi).step (A':=aa b (putAt l o vs)) fun G hA hG=>⟨hu.mono fun k _ e=>by rw[e];exact hA.1,G,⟨hA.1,hb⟩,fun k hk=>⟨.inl hk,by have:=(hG k hk).2;omega⟩⟩).put (bQ hi))
theorem Ow.Jp {s:Sl} {xs:List α} {k:World->Prop} (h:Ow B w0 w L) (i:Nat) (hi:L[i]?=some (ah E s xs)) {j:Nat} (hj:j<xs.length) (x:α) {b o:Nat} (ha:s.a=some ⟨b,o,none⟩)
  (hk:∀w',Ow B w0 w' (L.set i (ah E s (xs.set j x)))->k w'):aH w ⟨b,o+j*E.z,none⟩ 0 (E.enc x) k:=by
 have hone:(E.enc x).all Value.oneCell'=true:=List.all_eq_true.2 fun v hv=>E.one x v hv
 have hs:=h.vg i hi;have hl:=h.len i hi;cases hs with
 |nil ha' _ _ _=>rw[ha'] at ha;cases ha
 |mk b' o' l ha' hb hle hc hcs=>
  rw[ha'] at ha;simp only[Option.some.injEq,Addr.mk.injEq,and_true] at ha;obtain ⟨rfl,rfl⟩:=ha;have hfl:=aK E xs;have hlx:=E.len x;have m1:(j+1)*E.z≤xs.length*E.z:=Nat.mul_le_mul_right _ om;rw[Nat.succ_mul] at m1;have m2:s.len*E.z≤s.cap*E.z:=Nat.mul_le_mul_right _ hle;rw[hl] at m2;have hfit:o'+j*E.z+(E.enc x).length≤l.length:=by rw[hlx];omega
  refine aH.mk' (E.enc x) (o:=o'+j*E.z) (p:=0) hb (by simpa using hfit) hone fun w' hu hsz hb'=>hk w' (((h.take i hi).step (A':=ah E s (xs.set j x)) fun G hA hG=>⟨hu.mono fun k _ e=>by rw[e];exact hA.1 _ ha',G,⟨hA.1,by simpa using hl, ?_⟩,fun k hk=>⟨.inl hk,by have:=(hG k hk).2;omega⟩⟩).put (bQ hi))
  refine .mk b' o' _ ha' hb' hle (by rw[mn (by simpa using hfit)];exact hc) ?_;rw[lB E xs j x hj,hcs,Nat.add_zero];apply List.ext_getElem?;intro t;have hlen2:((l.drop o').take (s.len*E.z)).length=xs.length*E.z:=by rw[←hcs];exact hfl
  rw[ck _ _ _ _ (by rw[hlen2,hlx];omega),List.getElem?_take,List.getElem?_take,List.getElem?_drop,List.getElem?_drop,ck _ _ _ _ hfit,hlx];have hz:s.len*E.z=xs.length*E.z:=by rw[hl]
  by_cases e:j*E.z≤t/\t<j*E.z+E.z
  ·rw[if_pos e,if_pos om,if_pos om]
   congr 1;omega
  ·rw[if_neg e]
   split
   ·rw[if_neg om]
   ·rfl
theorem Ow.JQ {s:Sl} {xs:List α} {k:World->Prop} {x:α} {v:Value} (h:Ow B w0 w L) (i:Nat) (hi:L[i]?=some (ah E s xs)) {j c:Nat} (hj:xs[j]?=some x) (x':α) (hx:E.enc x'=(E.enc x).set c v) (hc:c<E.z) (hv:v.oneCell'=true) {b o:Nat} (ha:s.a=some ⟨b,o,none⟩)
  (hk:∀w',Ow B w0 w' (L.set i (ah E s (xs.set j x')))->k w'):St w ⟨b,o+j*E.z+c,none⟩ v k:=by
 have hs:=h.vg i hi;have hl:=h.len i hi;have hjl:=(List.getElem?_eq_some_iff.1 hj).1;cases hs with
 |nil ha' _ _ _=>rw[ha'] at ha;cases ha
 |mk b' o' l ha' hb hle hc' hcs=>
  rw[ha'] at ha;simp only[Option.some.injEq,Addr.mk.injEq,and_true] at ha;obtain ⟨rfl,rfl⟩:=ha;have hfl:=aK E xs;have hlx:=E.len x;have hlx':=E.len x';have m1:(j+1)*E.z≤xs.length*E.z:=Nat.mul_le_mul_right _ om;rw[Nat.succ_mul] at m1;have m2:s.len*E.z≤s.cap*E.z:=Nat.mul_le_mul_right _ hle;rw[hl] at m2;refine St.mk' hb om hv fun w' hu hsz hb'=>hk w' (((h.take i hi).step (A':=ah E s (xs.set j x')) fun G hA hG=>⟨hu.mono fun k _ e=>by rw[e];exact hA.1 _ ha',G,⟨hA.1,by simpa using hl, ?_⟩,fun k hk=>⟨.inl hk,by have:=(hG k hk).2;omega⟩⟩).put (bQ hi))
  refine .mk b' o' _ ha' hb' hle (by rw[List.length_set];exact hc') ?_;rw[lB E xs j x' hjl];apply List.ext_getElem?;intro t;rw[ck _ _ _ _ (by rw[hfl,hlx'];omega),hlx',List.getElem?_take,List.getElem?_drop,List.getElem?_set];have hz:s.len*E.z=xs.length*E.z:=by rw[hl]
  have hold:(xs.flatMap E.enc)[t]?=if t<s.len*E.z then l[o'+t]? else none:=by rw[hcs,List.getElem?_take,List.getElem?_drop]
  by_cases e:j*E.z≤t/\t<j*E.z+E.z
  ·rw[if_pos e,hx,List.getElem?_set,hlx]
   have hg:=lA E xs j (t-j*E.z) x hj om;rw[show j*E.z+(t-j*E.z)=t from by omega,hold,if_pos om] at hg;rw[if_pos (show t<s.len*E.z by omega),←hg];by_cases e2:c=t-j*E.z
   ·rw[if_pos e2,if_pos hc,if_pos om,if_pos om]
   ·rw[if_neg e2,if_neg om]
  ·rw[if_neg e,hold]
   split
   ·rw[if_neg om]
   ·rfl
theorem Ow.mW {b o:Nat} {l:List Value} {c0 c1:Sc} {x0:c0.D} {x1:c1.D} {f:c0.D->c1.D->Prop} (h:Ow B w0 w L) (i:Nat) (hi:L[i]?=some (aa b l)) (hl:(l.drop o).take 2= [c0.mk x0,c1.mk x1]) (hf:f x0 x1):az w ⟨b,o,none⟩ 0 [c0,c1] f:=by
 have g:∀j,j<2->w.cell? ((Addr.mk b o none).add j)= [c0.mk x0,c1.mk x1][j]?:=fun j hj=>by rw[aI,(h.ud i hi).cell,←hl,List.getElem?_take,if_pos hj,List.getElem?_drop]
 exact ⟨_,g 0 (by decide),_,g 1 (by decide),hf⟩
theorem Ow.Ji {b o:Nat} {l:List Value} {c0 c1 c2:Sc} {x0:c0.D} {x1:c1.D} {x2:c2.D} {f:c0.D->c1.D->c2.D->Prop} (h:Ow B w0 w L) (i:Nat) (hi:L[i]?=some (aa b l)) (hl:(l.drop o).take 3= [c0.mk x0,c1.mk x1,c2.mk x2]) (hf:f x0 x1 x2):az w ⟨b,o,none⟩ 0 [c0,c1,c2] f:=by
 have g:∀j,j<3->w.cell? ((Addr.mk b o none).add j)= [c0.mk x0,c1.mk x1,c2.mk x2][j]?:=fun j hj=>by rw[aI,(h.ud i hi).cell,←hl,List.getElem?_take,if_pos hj,List.getElem?_drop]
 exact ⟨_,g 0 (by decide),_,g 1 (by decide),_,g 2 (by decide),hf⟩
theorem Ow.Jj {b o:Nat} {l:List Value} {c0 c1 c2 c3:Sc} {x0:c0.D} {x1:c1.D} {x2:c2.D} {x3:c3.D} {f:c0.D->c1.D->c2.D->c3.D->Prop} (h:Ow B w0 w L) (i:Nat) (hi:L[i]?=some (aa b l)) (hl:(l.drop o).take 4= [c0.mk x0,c1.mk x1,c2.mk x2,c3.mk x3]) (hf:f x0 x1 x2 x3):az w ⟨b,o,none⟩ 0 [c0,c1,c2,c3] f:=by
 have g:∀j,j<4->w.cell? ((Addr.mk b o none).add j)= [c0.mk x0,c1.mk x1,c2.mk x2,c3.mk x3][j]?:=fun j hj=>by rw[aI,(h.ud i hi).cell,←hl,List.getElem?_take,if_pos hj,List.getElem?_drop]
 exact ⟨_,g 0 (by decide),_,g 1 (by decide),_,g 2 (by decide),_,g 3 (by decide),hf⟩
theorem Ow.rC {b o:Nat} {l:List Value} {c0 c1 c2 c3 c4 c5:Sc} {x0:c0.D} {x1:c1.D} {x2:c2.D} {x3:c3.D} {x4:c4.D} {x5:c5.D} {f:c0.D->c1.D->c2.D->c3.D->c4.D->c5.D->Prop} (h:Ow B w0 w L) (i:Nat) (hi:L[i]?=some (aa b l)) (hl:(l.drop o).take 6= [c0.mk x0,c1.mk x1,c2.mk x2,c3.mk x3,c4.mk x4,c5.mk x5]) (hf:f x0 x1 x2 x3 x4 x5):az w ⟨b,o,none⟩ 0 [c0,c1,c2,c3,c4,c5] f:=by
 have g:∀j,j<6->w.cell? ((Addr.mk b o none).add j)= [c0.mk x0,c1.mk x1,c2.mk x2,c3.mk x3,c4.mk x4,c5.mk x5][j]?:=fun j hj=>by rw[aI,(h.ud i hi).cell,←hl,List.getElem?_take,if_pos hj,List.getElem?_drop]
 exact ⟨_,g 0 (by decide),_,g 1 (by decide),_,g 2 (by decide),_,g 3 (by decide),_,g 4 (by decide),_,g 5 (by decide),hf⟩
theorem Ow.Jk {b o:Nat} {l:List Value} {c0 c1 c2 c3 c4 c5 c6:Sc} {x0:c0.D} {x1:c1.D} {x2:c2.D} {x3:c3.D} {x4:c4.D} {x5:c5.D} {x6:c6.D} {f:c0.D->c1.D->c2.D->c3.D->c4.D->c5.D->c6.D->Prop} (h:Ow B w0 w L) (i:Nat) (hi:L[i]?=some (aa b l)) (hl:(l.drop o).take 7= [c0.mk x0,c1.mk x1,c2.mk x2,c3.mk x3,c4.mk x4,c5.mk x5,c6.mk x6]) (hf:f x0 x1 x2 x3 x4 x5 x6):az w ⟨b,o,none⟩ 0 [c0,c1,c2,c3,c4,c5,c6] f:=by
 have g:∀j,j<7->w.cell? ((Addr.mk b o none).add j)= [c0.mk x0,c1.mk x1,c2.mk x2,c3.mk x3,c4.mk x4,c5.mk x5,c6.mk x6][j]?:=fun j hj=>by rw[aI,(h.ud i hi).cell,←hl,List.getElem?_take,if_pos hj,List.getElem?_drop]
 exact ⟨_,g 0 (by decide),_,g 1 (by decide),_,g 2 (by decide),_,g 3 (by decide),_,g 4 (by decide),_,g 5 (by decide),_,g 6 (by decide),hf⟩
theorem Ow.Jl {b o:Nat} {l:List Value} {c0 c1 c2 c3 c4 c5 c6 c7:Sc} {x0:c0.D} {x1:c1.D} {x2:c2.D} {x3:c3.D} {x4:c4.D} {x5:c5.D} {x6:c6.D} {x7:c7.D} {f:c0.D->c1.D->c2.D->c3.D->c4.D->c5.D->c6.D->c7.D->Prop} (h:Ow B w0 w L) (i:Nat) (hi:L[i]?=some (aa b l)) (hl:(l.drop o).take 8= [c0.mk x0,c1.mk x1,c2.mk x2,c3.mk x3,c4.mk x4,c5.mk x5,c6.mk x6,c7.mk x7]) (hf:f x0 x1 x2 x3 x4 x5 x6 x7):az w ⟨b,o,none⟩ 0 [c0,c1,c2,c3,c4,c5,c6,c7] f:=by
 have g:∀j,j<8->w.cell? ((Addr.mk b o none).add j)= [c0.mk x0,c1.mk x1,c2.mk x2,c3.mk x3,c4.mk x4,c5.mk x5,c6.mk x6,c7.mk x7][j]?:=fun j hj=>by rw[aI,(h.ud i hi).cell,←hl,List.getElem?_take,if_pos hj,List.getElem?_drop]
 exact ⟨_,g 0 (by decide),_,g 1 (by decide),_,g 2 (by decide),_,g 3 (by decide),_,g 4 (by decide),_,g 5 (by decide),_,g 6 (by decide),_,g 7 (by decide),hf⟩
theorem Ow.Iw {b o:Nat} {l:List Value} {c0 c1 c2 c3 c4 c5 c6 c7 c8 c9:Sc} {x0:c0.D} {x1:c1.D} {x2:c2.D} {x3:c3.D} {x4:c4.D} {x5:c5.D} {x6:c6.D} {x7:c7.D} {x8:c8.D} {x9:c9.D} {f:c0.D->c1.D->c2.D->c3.D->c4.D->c5.D->c6.D->c7.D->c8.D->c9.D->Prop} (h:Ow B w0 w L) (i:Nat) (hi:L[i]?=some (aa b l)) (hl:(l.drop o).take 10= [c0.mk x0,c1.mk x1,c2.mk x2,c3.mk x3,c4.mk x4,c5.mk x5,c6.mk x6,c7.mk x7,c8.mk x8,c9.mk x9]) (hf:f x0 x1 x2 x3 x4 x5 x6 x7 x8 x9):az w ⟨b,o,none⟩ 0 [c0,c1,c2,c3,c4,c5,c6,c7,c8,c9] f:=by
 have g:∀j,j<10->w.cell? ((Addr.mk b o none).add j)= [c0.mk x0,c1.mk x1,c2.mk x2,c3.mk x3,c4.mk x4,c5.mk x5,c6.mk x6,c7.mk x7,c8.mk x8,c9.mk x9][j]?:=fun j hj=>by rw[aI,(h.ud i hi).cell,←hl,List.getElem?_take,if_pos hj,List.getElem?_drop]
 exact ⟨_,g 0 (by decide),_,g 1 (by decide),_,g 2 (by decide),_,g 3 (by decide),_,g 4 (by decide),_,g 5 (by decide),_,g 6 (by decide),_,g 7 (by decide),_,g 8 (by decide),_,g 9 (by decide),hf⟩
theorem Ow.Ix {b o:Nat} {l:List Value} {c0 c1 c2 c3 c4 c5 c6 c7 c8 c9 c10 c11:Sc} {x0:c0.D} {x1:c1.D} {x2:c2.D} {x3:c3.D} {x4:c4.D} {x5:c5.D} {x6:c6.D} {x7:c7.D} {x8:c8.D} {x9:c9.D} {x10:c10.D} {x11:c11.D} {f:c0.D->c1.D->c2.D->c3.D->c4.D->c5.D->c6.D->c7.D->c8.D->c9.D->c10.D->c11.D->Prop} (h:Ow B w0 w L) (i:Nat) (hi:L[i]?=some (aa b l)) (hl:(l.drop o).take 12= [c0.mk x0,c1.mk x1,c2.mk x2,c3.mk x3,c4.mk x4,c5.mk x5,c6.mk x6,c7.mk x7,c8.mk x8,c9.mk x9,c10.mk x10,c11.mk x11]) (hf:f x0 x1 x2 x3 x4 x5 x6 x7 x8 x9 x10 x11):az w ⟨b,o,none⟩ 0 [c0,c1,c2,c3,c4,c5,c6,c7,c8,c9,c10,c11] f:=by
 have g:∀j,j<12->w.cell? ((Addr.mk b o none).add j)= [c0.mk x0,c1.mk x1,c2.mk x2,c3.mk x3,c4.mk x4,c5.mk x5,c6.mk x6,c7.mk x7,c8.mk x8,c9.mk x9,c10.mk x10,c11.mk x11][j]?:=fun j hj=>by rw[aI,(h.ud i hi).cell,←hl,List.getElem?_take,if_pos hj,List.getElem?_drop]
 exact ⟨_,g 0 (by decide),_,g 1 (by decide),_,g 2 (by decide),_,g 3 (by decide),_,g 4 (by decide),_,g 5 (by decide),_,g 6 (by decide),_,g 7 (by decide),_,g 8 (by decide),_,g 9 (by decide),_,g 10 (by decide),_,g 11 (by decide),hf⟩
end
end Go.Vc
namespace Go.Vc
open Go
theorem dD {p:Prop} [Decidable p] {A C:Prop} (h1:p->A) (h2:¬p->C):bif decide p then A else C:=by
 by_cases h:p
 ·rw[decide_eq_true h];exact h1 h
 ·rw[decide_eq_false h];exact h2 h
theorem aR {p:Prop} [Decidable p] {A C:Prop} (h:p) (h1:A):bif decide p then A else C:=by rw[decide_eq_true h];exact h1
theorem aE {p:Prop} [Decidable p] {A C:Prop} (h:¬p) (h1:C):bif decide p then A else C:=by rw[decide_eq_false h];exact h1
theorem cb {b:Bool} {A C:Prop} (h1:b=true->A) (h2:b=false->C):bif b then A else C:=by
 cases b with
 |true=>exact h1 rfl
 |false=>exact h2 rfl
theorem bN {b:Bool} {A C:Prop} (h:b=true) (h1:A):bif b then A else C:=by rw[h];exact h1
theorem bD {b:Bool} {A C:Prop} (h:b=false) (h1:C):bif b then A else C:=by rw[h];exact h1
theorem JK {b:Bool} {A C:Prop} (h1:b=false->A) (h2:b=true->C):bif !b then A else C:=by
 cases b with
 |true=>exact h2 rfl
 |false=>exact h1 rfl
theorem gB {x y:Int} {A C:Prop} (h1:x=y->A) (h2:x≠y->C):bif x==y then A else C:=by
 by_cases h:x=y
 ·rw[show (x==y)=true from by simpa using h];exact h1 h
 ·rw[show (x==y)=false from by simpa using h];exact h2 h
theorem rz {x y:Int} {A C:Prop} (h:x=y) (h1:A):bif x==y then A else C:=by rw[show (x==y)=true from by simpa using h];exact h1
theorem vN {x y:Int} {A C:Prop} (h:x≠y) (h1:C):bif x==y then A else C:=by rw[show (x==y)=false from by simpa using h];exact h1
theorem y8 {x y:Int} {A C:Prop} (h1:x≠y->A) (h2:x=y->C):bif x !=y then A else C:=by
 by_cases h:x=y
 ·rw[show (x !=y)=false from by simpa using h];exact h2 h
 ·rw[show (x !=y)=true from by simpa using h];exact h1 h
theorem lj {x y:Int} {A C:Prop} (h:x≠y) (h1:A):bif x !=y then A else C:=by rw[show (x !=y)=true from by simpa using h];exact h1
theorem fP {x y:Int} {A C:Prop} (h:x=y) (h1:C):bif x !=y then A else C:=by rw[show (x !=y)=false from by simpa using h];exact h1
class dA (b:Nat) (L:List aA) (l:outParam (List Value)) where
 i:Nat
 at_:L[i]?=some (aa b l)
instance dA.tail {b:Nat} {X:aA} {L:List aA} {l:List Value} [I:dA b L l]:dA b (X::L) l:=⟨I.i+1,by simpa using I.at_⟩
instance dA.head {b:Nat} {L:List aA} {l:List Value}:dA b (aa b l::L) l:=⟨0,rfl⟩
class pU (b:Nat) (L:List aA) (l:outParam (List Value)) (f:List Value->List Value) (L':outParam (List aA)) where
 i:Nat
 at_:L[i]?=some (aa b l)
 up:L'=L.set i (aa b (f l))
instance pU.tail {b:Nat} {X:aA} {L L':List aA} {l:List Value} {f:List Value->List Value} [I:pU b L l f L']:pU b (X::L) l f (X::L'):=⟨I.i+1,by simpa using I.at_,(congrArg (X::·) I.up)⟩
instance pU.head {b:Nat} {L:List aA} {l:List Value} {f:List Value->List Value}:pU b (aa b l::L) l f (aa b (f l)::L):=⟨0,rfl,rfl⟩
section
variable {B:Nat} {w0 w:World} {L L':List aA} {b o n:Nat} {l:List Value}
theorem Ow.aq {v:Value} [I:dA b L l] (h:Ow B w0 w L) (hv:l[o]?=some v):w.cell? (Addr.mk b o none)=some v:=h.jS I.i I.at_ hv
theorem Ow.ao {v:Value} [I:dA b L l] (h:Ow B w0 w L) (hv:l[o+n]?=some v):w.cell? ((Addr.mk b o none).add n)=some v:=h.ld I.i I.at_ hv
theorem Ow.dy {v:Value} {k:World->Prop} [I:pU b L l (·.set o v) L'] (h:Ow B w0 w L) (ho:(l[o]?).isSome=true) (hv:v.oneCell'=true) (hk:∀w',Ow B w0 w' L'->k w'):St w ⟨b,o,none⟩ v k:=
 h.st I.i I.at_ ho hv fun w' h'=>hk w' (I.up.symm▸h')
theorem Ow.cC {v:Value} {k:World->Prop} [I:pU b L l (·.set (o+n) v) L'] (h:Ow B w0 w L) (ho:(l[o+n]?).isSome=true) (hv:v.oneCell'=true) (hk:∀w',Ow B w0 w' L'->k w'):St w ((Addr.mk b o none).add n) v k:=
 h.JP I.i I.at_ ho hv fun w' h'=>hk w' (I.up.symm▸h')
theorem Ow.aL {c0 c1:Sc} {x0:c0.D} {x1:c1.D} {f:c0.D->c1.D->Prop} [I:dA b L l] (h:Ow B w0 w L) (hl:(l.drop o).take 2= [c0.mk x0,c1.mk x1]) (hf:f x0 x1):az w ⟨b,o,none⟩ 0 [c0,c1] f:=h.mW I.i I.at_ hl hf
theorem Ow.rB {c0 c1 c2:Sc} {x0:c0.D} {x1:c1.D} {x2:c2.D} {f:c0.D->c1.D->c2.D->Prop} [I:dA b L l] (h:Ow B w0 w L) (hl:(l.drop o).take 3= [c0.mk x0,c1.mk x1,c2.mk x2]) (hf:f x0 x1 x2):az w ⟨b,o,none⟩ 0 [c0,c1,c2] f:=h.Ji I.i I.at_ hl hf
theorem Ow.gH {c0 c1 c2 c3:Sc} {x0:c0.D} {x1:c1.D} {x2:c2.D} {x3:c3.D} {f:c0.D->c1.D->c2.D->c3.D->Prop} [I:dA b L l] (h:Ow B w0 w L) (hl:(l.drop o).take 4= [c0.mk x0,c1.mk x1,c2.mk x2,c3.mk x3]) (hf:f x0 x1 x2 x3):az w ⟨b,o,none⟩ 0 [c0,c1,c2,c3] f:=h.Jj I.i I.at_ hl hf
theorem Ow.aV {c0 c1 c2 c3 c4 c5:Sc} {x0:c0.D} {x1:c1.D} {x2:c2.D} {x3:c3.D} {x4:c4.D} {x5:c5.D} {f:c0.D->c1.D->c2.D->c3.D->c4.D->c5.D->Prop} [I:dA b L l] (h:Ow B w0 w L) (hl:(l.drop o).take 6= [c0.mk x0,c1.mk x1,c2.mk x2,c3.mk x3,c4.mk x4,c5.mk x5]) (hf:f x0 x1 x2 x3 x4 x5):az w ⟨b,o,none⟩ 0 [c0,c1,c2,c3,c4,c5] f:=h.rC I.i I.at_ hl hf
theorem Ow.Gk {c0 c1 c2 c3 c4 c5 c6:Sc} {x0:c0.D} {x1:c1.D} {x2:c2.D} {x3:c3.D} {x4:c4.D} {x5:c5.D} {x6:c6.D} {f:c0.D->c1.D->c2.D->c3.D->c4.D->c5.D->c6.D->Prop} [I:dA b L l] (h:Ow B w0 w L) (hl:(l.drop o).take 7= [c0.mk x0,c1.mk x1,c2.mk x2,c3.mk x3,c4.mk x4,c5.mk x5,c6.mk x6]) (hf:f x0 x1 x2 x3 x4 x5 x6):az w ⟨b,o,none⟩ 0 [c0,c1,c2,c3,c4,c5,c6] f:=h.Jk I.i I.at_ hl hf
theorem Ow.Gl {c0 c1 c2 c3 c4 c5 c6 c7:Sc} {x0:c0.D} {x1:c1.D} {x2:c2.D} {x3:c3.D} {x4:c4.D} {x5:c5.D} {x6:c6.D} {x7:c7.D} {f:c0.D->c1.D->c2.D->c3.D->c4.D->c5.D->c6.D->c7.D->Prop} [I:dA b L l] (h:Ow B w0 w L) (hl:(l.drop o).take 8= [c0.mk x0,c1.mk x1,c2.mk x2,c3.mk x3,c4.mk x4,c5.mk x5,c6.mk x6,c7.mk x7]) (hf:f x0 x1 x2 x3 x4 x5 x6 x7):az w ⟨b,o,none⟩ 0 [c0,c1,c2,c3,c4,c5,c6,c7] f:=h.Jl I.i I.at_ hl hf
theorem Ow.nZ {c0 c1 c2 c3 c4 c5 c6 c7 c8 c9:Sc} {x0:c0.D} {x1:c1.D} {x2:c2.D} {x3:c3.D} {x4:c4.D} {x5:c5.D} {x6:c6.D} {x7:c7.D} {x8:c8.D} {x9:c9.D} {f:c0.D->c1.D->c2.D->c3.D->c4.D->c5.D->c6.D->c7.D->c8.D->c9.D->Prop} [I:dA b L l] (h:Ow B w0 w L) (hl:(l.drop o).take 10= [c0.mk x0,c1.mk x1,c2.mk x2,c3.mk x3,c4.mk x4,c5.mk x5,c6.mk x6,c7.mk x7,c8.mk x8,c9.mk x9]) (hf:f x0 x1 x2 x3 x4 x5 x6 x7 x8 x9):az w ⟨b,o,none⟩ 0 [c0,c1,c2,c3,c4,c5,c6,c7,c8,c9] f:=h.Iw I.i I.at_ hl hf
theorem Ow.G6 {c0 c1 c2 c3 c4 c5 c6 c7 c8 c9 c10 c11:Sc} {x0:c0.D} {x1:c1.D} {x2:c2.D} {x3:c3.D} {x4:c4.D} {x5:c5.D} {x6:c6.D} {x7:c7.D} {x8:c8.D} {x9:c9.D} {x10:c10.D} {x11:c11.D} {f:c0.D->c1.D->c2.D->c3.D->c4.D->c5.D->c6.D->c7.D->c8.D->c9.D->c10.D->c11.D->Prop} [I:dA b L l] (h:Ow B w0 w L) (hl:(l.drop o).take 12= [c0.mk x0,c1.mk x1,c2.mk x2,c3.mk x3,c4.mk x4,c5.mk x5,c6.mk x6,c7.mk x7,c8.mk x8,c9.mk x9,c10.mk x10,c11.mk x11]) (hf:f x0 x1 x2 x3 x4 x5 x6 x7 x8 x9 x10 x11):az w ⟨b,o,none⟩ 0 [c0,c1,c2,c3,c4,c5,c6,c7,c8,c9,c10,c11] f:=h.Ix I.i I.at_ hl hf
theorem Ow.dz {a0 a1:aA} (h:Ow B w0 w (a0::a1::L)):Ow B w0 w (a1::a0::L):=h.take 1 rfl
theorem Ow.yy {a0 a1:aA} (h:Ow B w0 w (a0::a1::L)):Ow B w0 w (a0::L):=h.dz.drop
theorem Ow.nC {a0 a1 a2:aA} (h:Ow B w0 w (a0::a1::a2::L)):Ow B w0 w (a2::a0::a1::L):=h.take 2 rfl
theorem Ow.E1 {a0 a1 a2:aA} (h:Ow B w0 w (a0::a1::a2::L)):Ow B w0 w (a0::a1::L):=h.nC.drop
theorem Ow.vr {a0 a1 a2 a3:aA} (h:Ow B w0 w (a0::a1::a2::a3::L)):Ow B w0 w (a3::a0::a1::a2::L):=h.take 3 rfl
theorem Ow.H7 {a0 a1 a2 a3:aA} (h:Ow B w0 w (a0::a1::a2::a3::L)):Ow B w0 w (a0::a1::a2::L):=h.vr.drop
theorem Ow.ax {vs:List Value} {k:World->Prop} [I:pU b L l (putAt · o vs) L'] (h:Ow B w0 w L) (hle:Nat.ble (o+vs.length) l.length=true) (hone:vs.all Value.oneCell'=true) (hk:∀w',Ow B w0 w' L'->k w'):aH w ⟨b,o,none⟩ 0 vs k:=
 h.FJ I.i I.at_ hle hone fun w' h'=>hk w' (I.up.symm▸h')
end
class dG (A:aA) (L:List aA) (R:outParam (List aA)):Prop where
 perm:L.Perm (A::R)
instance dG.tail {A X:aA} {L R:List aA} [I:dG A L R]:dG A (X::L) (X::R):=⟨(I.perm.cons X).trans (List.Perm.swap _ _ _)⟩
instance dG.head {A:aA} {L:List aA}:dG A (A::L) L:=⟨List.Perm.refl _⟩
class tX (L L':List aA):Prop where
 sub:∃Z,L.Perm (Z++L')
instance tX.skip {X:aA} {L L':List aA} [I:tX L L']:tX (X::L) L':=⟨by obtain ⟨Z,h⟩:=I.sub;exact ⟨X::Z,h.cons X⟩⟩
instance tX.pick {A:aA} {L R L':List aA} [I:dG A L R] [J:tX R L']:tX L (A::L'):=⟨by
 obtain ⟨Z,h⟩:=J.sub;exact ⟨Z,I.perm.trans ((h.cons A).trans List.perm_middle.symm)⟩⟩
instance tX.same {L:List aA}:tX L L:=⟨[],List.Perm.refl _⟩
theorem Ow.GZ {B:Nat} {w0 w:World} {L:List aA}:∀{Z:List aA},Ow B w0 w (Z++L)->Ow B w0 w L
 | [],h=>h
 |_::Z,h=>Ow.GZ (Z:=Z) h.drop
theorem Ow.sub {B:Nat} {w0 w:World} {L L':List aA} [I:tX L L'] (h:Ow B w0 w L):Ow B w0 w L':=by
 obtain ⟨Z,hp⟩:=I.sub;exact (h.perm hp).GZ
theorem Ow.pick {B:Nat} {w0 w:World} {L R:List aA} {A:aA} [I:dG A L R] (h:Ow B w0 w L):Ow B w0 w (A::R):=h.perm I.perm
theorem Df {w:World} {A:Addr} {C:Prop}:∀(vs:List Value) (i:Nat),(∀j v,vs[j]?=some v->w.cell? (A.add (i+j))=some v)->C->vz w A i vs C
 | [],_,_,hC=>hC
 |v::vs,i,h,hC=>⟨h 0 v rfl,Df vs (i+1) (fun j u hj=>by rw[show i+1+j=i+(j+1) from by omega];exact h (j+1) u (by simpa using hj)) hC⟩
theorem Ow.hd {B:Nat} {w0 w:World} {L:List aA} {b o:Nat} {l vs:List Value} {C:Prop} [I:dA b L l] (h:Ow B w0 w L) (hl:(l.drop o).take vs.length=vs) (hC:C):vz w ⟨b,o,none⟩ 0 vs C:=
 Df vs 0 (fun j v hj=>by
  rw[aI,(h.ud I.i I.at_).cell,Nat.zero_add];rw[←hl,List.getElem?_take] at hj;split at hj
  ·rw[List.getElem?_drop] at hj;exact hj
  ·cases hj) hC
theorem eC {α:Type} {x:α} {G:α->Prop} (h:G x):∃a,some x=some a/\G a:=⟨x,rfl,h⟩
theorem a2 {p:Prop} (h:p):p/\True:=⟨h,trivial⟩
end Go.Vc
namespace Go.Vc
open Go
class bT (s:Sl) (L:List aA) (α:outParam Type) (E:outParam (cQ α)) (xs:outParam (List α)) where
 i:Nat
 at_:L[i]?=some (ah E s xs)
instance bT.tail {s:Sl} {X:aA} {L:List aA} {α:Type} {E:cQ α} {xs:List α} [I:bT s L α E xs]:bT s (X::L) α E xs:=⟨I.i+1,by simpa using I.at_⟩
instance bT.head {s:Sl} {L:List aA} {α:Type} {E:cQ α} {xs:List α}:bT s (ah E s xs::L) α E xs:=⟨0,rfl⟩
section
variable {P:Program} {B:Nat} {w0 w:World} {L R:List aA} {α:Type} {E:cQ α} {s:Sl} {xs:List α}
theorem Ow.br (s:Sl) [I:bT s L α E xs] (h:Ow B w0 w L):s.len=xs.length:=h.len I.i I.at_
theorem Dt {b o i j z:Nat} (c:Nat) (hij:i=j):((Addr.mk b o none).add (i*z)).add c=⟨b,o+(j*z+c),none⟩:=by rw[aI,aI,hij,Nat.add_assoc]
theorem Ds {b o i j z:Nat} (hij:i=j):(Addr.mk b o none).add (i*z)=⟨b,o+(j*z+0),none⟩:=by rw[aI,hij,Nat.add_zero]
theorem Ow.dZ [I:bT s L α E xs] {i:Int} {j:Nat} {x:α} {G:Addr->Prop} (h:Ow B w0 w L) (hij:i=(j:Int)) (hj:xs[j]?=some x)
  (hG:∀a,s.a=some a->(∀v,(E.enc x)[0]?=some v->w.cell? (a.add (i.toNat*E.z))=some v)->(∀c v,(E.enc x)[c]?=some v->w.cell? ((a.add (i.toNat*E.z)).add c)=some v)->G a):
  ∃a,s.a=some a/\0≤i/\i<(s.len:Int)/\G a:=by
 obtain ⟨b,o,ha,hc⟩:=h.get I.i I.at_ hj;have hlen:=h.len I.i I.at_;have hlt:=(List.getElem?_eq_some_iff.1 hj).1;have hn:i.toNat=j:=by omega
 refine ⟨_,ha,om,om,hG _ ha (fun v hv=>?_) fun c v hv=>?_⟩
 ·rw[Ds hn];exact hc 0 v hv
 ·rw[Dt c hn];exact hc c v hv
theorem Ow.H4 [I:bT s L α E xs] {i:Int} {j:Nat} {x:α} (h:Ow B w0 w L) (hij:i=(j:Int)) (hj:xs[j]?=some x) {a:Addr} (ha:s.a=some a):
  (∀v,(E.enc x)[0]?=some v->w.cell? (a.add (i.toNat*E.z))=some v)/\(∀c v,(E.enc x)[c]?=some v->w.cell? ((a.add (i.toNat*E.z)).add c)=some v):=by
 obtain ⟨b,o,ha',hc⟩:=h.get I.i I.at_ hj;rw[ha] at ha';simp only[Option.some.injEq] at ha';subst ha';have hn:i.toNat=j:=by omega
 refine ⟨fun v hv=>?_,fun c v hv=>?_⟩
 ·rw[Ds hn];exact hc 0 v hv
 ·rw[Dt c hn];exact hc c v hv
theorem Ow.wH (s:Sl) [I:bT s L α E xs] (h:Ow B w0 w L) {a:Addr} (ha:s.a=some a):a=⟨a.block,a.off,none⟩:=by
 have:=(h.vg I.i I.at_).spot a ha;cases a;simp at this;subst this;rfl
theorem sZ {A:aA} {L R:List aA} (I:dG A L R) (h:Ow B w0 w L):Ow B w0 w (A::R):=h.perm I.perm
theorem Ow.wL [I:bT s L α E xs] {R:List aA} [J:dG (ah E s xs) L R] {i:Int} {j:Nat} {a:Addr} {v:Value} {k:World->Prop} (h:Ow B w0 w L) (x:α) (hij:i=(j:Int)) (hj:j<xs.length) (ha:s.a=some a) (hx:E.enc x= [v])
  (hk:∀w',Ow B w0 w' (ah E s (xs.set j x)::R)->k w'):St w (a.add (i.toNat*E.z)) v k:=by
 have e:=h.wH s ha;have hn:i.toNat=j:=by omega
 rw[e,aI,hn];exact (sZ J h).JF 0 rfl hj x (by rw[ha];exact congrArg some e) hx hk
theorem Ow.yH [I:bT s L α E xs] {R:List aA} [J:dG (ah E s xs) L R] {i:Int} {j:Nat} {a:Addr} {k:World->Prop} (h:Ow B w0 w L) (x:α) (hij:i=(j:Int)) (hj:j<xs.length) (ha:s.a=some a)
  (hk:∀w',Ow B w0 w' (ah E s (xs.set j x)::R)->k w'):aH w (a.add (i.toNat*E.z)) 0 (E.enc x) k:=by
 have e:=h.wH s ha;have hn:i.toNat=j:=by omega
 rw[e,aI,hn];exact (sZ J h).Jp 0 rfl hj x (by rw[ha];exact congrArg some e) hk
theorem Ow.tp [I:bT s L α E xs] {R:List aA} [J:dG (ah E s xs) L R] {i:Int} {j c:Nat} {a:Addr} {x:α} {v:Value} {k:World->Prop} (h:Ow B w0 w L) (x':α) (hij:i=(j:Int)) (hj:xs[j]?=some x) (ha:s.a=some a) (hx:E.enc x'=(E.enc x).set c v) (hc:c<E.z) (hv:v.oneCell'=true)
  (hk:∀w',Ow B w0 w' (ah E s (xs.set j x')::R)->k w'):St w ((a.add (i.toNat*E.z)).add c) v k:=by
 have e:=h.wH s ha;have hn:i.toNat=j:=by omega
 rw[e,aI,aI,hn];exact (sZ J h).JQ 0 rfl hj x' hx hc hv (by rw[ha];exact congrArg some e) hk
theorem Ow.fy {T el:TypeId} {inf:TypeInfo} {zv:Value} {y:α} {b:Nat} {k:Sl->World->Prop} [I:bT s L α E xs] {R:List aA} [J:dG (ah E s xs) L R]
  (hu:P.underlying T=some (.slice el)) (hi:P.info? el=some inf) (hz:inf.zero=some zv) (hsz:inf.size=E.z) (hzc:zv.cells.size=E.z) (hb:1≤inf.bytes)
  (h:Ow B w0 w (aa b (E.enc y)::L)) (hbig:(17*(xs.length+1)+16000)*inf.bytes≤2^48)
  (hk:∀s' w',s'.len=xs.length+1->Ow B w0 w' (ah E s' (xs++ [y])::R)->k s' w'):
  ∃s' w',bo P [T,T] T (.slice s.a s.len s.cap) (.slice (some (Addr.mk b 0 none)) 1 1) w s' w'/\k s' w':=
 Ow.Hg hu hi hz hsz hzc hb (h.perm (J.perm.cons _)) 0 rfl hbig hk
theorem Ow.rD {T el:TypeId} {inf:TypeInfo} {zv:Value} {z0:α} {n:Int} {k:Sl->World->Prop} (hu:P.underlying T=some (.slice el)) (hi:P.info? el=some inf) (hz:inf.zero=some zv) (hsz:inf.size=E.z) (hzc:zv.cells.toList=E.enc z0)
  (h:Ow B w0 w L) (h0:0≤n) (hn:(inf.bytes:Int)*n≤2^48) (hnn:n≤2^48) (hk:∀s' w',s'.len=n.toNat->Ow B w0 w' (ah E s' (List.replicate n.toNat z0)::L)->k s' w'):
  ∃s' w',nK P T (.int .i64 n) (.int .i64 n) w s' w'/\k s' w':=by
 obtain ⟨m,rfl⟩:=Int.eq_ofNat_of_zero_le h0;have hp48:(2:Int)^48=281474976710656:=by decide
 rw[hp48] at hn hnn;have hw:IntKind.i64.wrap (m:Int)=(m:Int):=wr om om;have hzl:zv.cells.size=E.z:=by rw[←Array.length_toList,hzc,E.len]
 let row:List Value:=rep m (E.enc z0)
 have hrow:row=(List.replicate m z0).flatMap E.enc:=by
  show rep m (E.enc z0)=_;clear hk hw hn hnn h0
  induction m with
  |zero=>rfl
  |succ m ih=>simp[rep,List.replicate_succ,ih]
 have hrl:row.length=m*E.z:=by rw[hrow,aK];simp
 have hcells:(Array.range (m*sz P el)).map (fun i=>(if m*sz P el=0 then (#[]:Array Value) else zv.cells)[i%(if m*sz P el=0 then (#[]:Array Value) else zv.cells).size]!)=⟨row⟩:=by
  have hsz2:sz P el=zv.cells.size:=by simp[sz,hi,hsz,hzl]
  by_cases e:m*sz P el=0
  ·have hpos:=E.pos
   have:m=0:=by
    rcases Nat.mul_eq_zero.1 e with e|e
    ·exact e
    ·rw[hsz2,hzl] at e;omega
   subst this;simp[row,rep]
  ·simp only[if_neg e]
   rw[hsz2,oI zv.cells m (by rw[hzl];exact E.pos),hzc]
 refine ⟨⟨some ⟨w.heap.size,0,none⟩,m,m⟩,w.alloc (.cells ⟨row⟩ el), ?_,hk _ _ rfl ?_⟩
 ·unfold nK Instr.makeSlice
  have hsize:∀w,(sizeOf el).run P w= .ok (sz P el) w:=fun w=>eX hi w
  have hinfo:∀w,(typeInfo el).run P w= .ok inf w:=fun w=>by simp[typeInfo,hi]
  have hzero:∀w,(zeroValue el).run P w= .ok zv w:=fun w=>by simp[zeroValue,hinfo,hz]
  have hint:∀w,(asInt (.int .i64 (m:Int))).run P w= .ok (m:Int) w:=fun w=>by simp[asInt,asIntOf]
  have c2:¬((inf.bytes:Int)*(m:Int)>2^48):=by rw[hp48];omega
  have c0:¬((m:Int)<0):=by omega
  have c3:¬((m:Int)>(m:Int)):=by omega
  simp only[Sem.run_bind,aN hu,Result.andThen_ok,hint,hinfo,hw,decide_eq_false c2,decide_eq_false c0,decide_eq_false c3,Bool.or_false,Bool.false_eq_true,if_false,Int.toNat_natCast,run_askRoom,hsize];by_cases e:m*sz P el=0
  ·simp only[if_pos e] at hcells
   simp only[e,if_true,Sem.run_pure,Result.andThen_ok,newRow,Sem.run_bind,run_newObj];rw[e] at hcells;rw[hcells];rfl
  ·simp only[if_neg e] at hcells
   simp only[e,if_false,Sem.run_bind,hzero,Sem.run_pure,Result.andThen_ok,newRow,run_newObj];rw[hcells];rfl
 ·refine h.new (A':=ah E ⟨some ⟨w.heap.size,0,none⟩,m,m⟩ (List.replicate m z0)) (G':=fun k=>k=w.heap.size) (eJ _ _) ⟨fun a ha=>by cases ha;rfl,by simp, ?_⟩ fun k e=>by subst e;simp
  refine .mk w.heap.size 0 row rfl ⟨el,heap_alloc_new _ _⟩ (Nat.le_refl _) (by rw[hrl];simp) ?_;show _=(row.drop 0).take (m*E.z);rw[List.drop_zero,←hrl,List.take_length,hrow]
end
def dO {α:Type} (E:cQ α) (ss:List Sl) (rows:List (List α)):aA:=pV fun _:Unit=>bh (dX (ss.length=rows.length)::List.zipWith (ah E) ss rows)
def Af:cQ Sl:=⟨1,fun s=>[.slice s.a s.len s.cap],fun _=>rfl,fun x v h=>by simp at h;subst h;rfl,Nat.le_refl _⟩
section
variable {P:Program} {B:Nat} {w0 w:World} {L R:List aA} {α:Type} {E:cQ α} {ss:List Sl} {rows:List (List α)}
theorem Ow.E3 (h:Ow B w0 w (dO E ss rows::R)):ss.length=rows.length/\Ow B w0 w (List.zipWith (ah E) ss rows++R):=by
 obtain ⟨_,h⟩:=h.ex;exact Ow.pure h.star
theorem Ow.wm (hl:ss.length=rows.length) (h:Ow B w0 w (List.zipWith (ah E) ss rows++R)):Ow B w0 w (dO E ss rows::R):=
 Ow.eP () (Ow.aY (Ow.dN hl h))
theorem GR {j:Nat} {s:Sl} {row:List α} (hs:ss[j]?=some s) (hr:rows[j]?=some row) (R:List aA):(List.zipWith (ah E) ss rows++R)[j]?=some (ah E s row):=by
 have h1:=(List.getElem?_eq_some_iff.1 hs).1;have h2:=(List.getElem?_eq_some_iff.1 hr).1;rw[List.getElem?_append_left (by simp;omega),List.getElem?_zipWith,hs,hr]
theorem Ow.row (h:Ow B w0 w (dO E ss rows::R)) {j:Nat} {s:Sl} {row:List α} (hs:ss[j]?=some s) (hr:rows[j]?=some row):
  Ow B w0 w (ah E s row::((List.zipWith (ah E) ss rows).eraseIdx j++R)):=by
 obtain ⟨hl,h⟩:=h.E3;have h1:=(List.getElem?_eq_some_iff.1 hs).1;have:=h.take j (GR hs hr R)
 rwa [List.eraseIdx_append_of_lt_length (by simp;omega)] at this
theorem Bu {s':Sl} {row':List α}:∀(ss:List Sl) (rows:List (List α)) (j:Nat),List.zipWith (ah E) (ss.set j s') (rows.set j row')=(List.zipWith (ah E) ss rows).set j (ah E s' row')
 | [],rows,j=>by simp
 |_::_,[],j=>by cases j<;>simp
 |s::ss,r::rows,0=>by simp
 |s::ss,r::rows,j+1=>by simp[Bu ss rows j]
theorem Ow.E2 {j:Nat} {s':Sl} {row':List α} (hl:ss.length=rows.length) (hj:j<rows.length) (h:Ow B w0 w (ah E s' row'::((List.zipWith (ah E) ss rows).eraseIdx j++R))):
  Ow B w0 w (dO E (ss.set j s') (rows.set j row')::R):=by
 refine Ow.wm (by simp[hl]) ?_;rw[Bu];have hj':j<(List.zipWith (ah E) ss rows).length:=by simp;omega
 have h2:Ow B w0 w (ah E s' row'::(List.zipWith (ah E) ss rows++R).eraseIdx j):=by rwa [List.eraseIdx_append_of_lt_length hj']
 have:=h2.put (by simp;omega)
 rwa [List.set_append_left _ _ hj'] at this
theorem Ow.E4 (h:Ow B w0 w R):Ow B w0 w (dO E [] []::R):=Ow.wm rfl h
theorem y7 {s:Sl} {row:List α}:∀(ss:List Sl) (rows:List (List α)),ss.length=rows.length->List.zipWith (ah E) (ss++ [s]) (rows++ [row])=List.zipWith (ah E) ss rows++ [ah E s row]
 | [],[],_=>rfl
 | [],_::_,h=>by simp at h
 |_::_,[],h=>by simp at h
 |a::ss,b::rows,h=>by simp[y7 ss rows (by simpa using h)]
theorem Ow.GC {s:Sl} {row:List α} (h:Ow B w0 w (ah E s row::dO E ss rows::R)):Ow B w0 w (dO E (ss++ [s]) (rows++ [row])::R):=by
 have h2:Ow B w0 w (dO E ss rows::ah E s row::R):=h.perm (List.Perm.swap _ _ _);obtain ⟨hl,h3⟩:=h2.E3;refine Ow.wm (by simp[hl]) ?_;rw[y7 _ _ hl,List.append_assoc];exact h3
theorem Ow.GD (h:Ow B w0 w (dO E ss rows::R)) {j:Nat} {s:Sl} {row:List α} (hs:ss[j]?=some s) (hr:rows[j]?=some row):s.len=row.length:=(h.row hs hr).len 0 rfl
end
end Go.Vc
namespace Go.Vc
open Go Go.ChangeShapes Go.WideShapes
structure Rd {α:Type} (E:cQ α) (B:Nat) (w0:World) (L:List aA) (s:Sl) (xs:List α):Prop where
 len:s.len=xs.length
 It:∀w',Ow B w0 w' L->∀(i:Int) (j:Nat) (x:α),i=(j:Int)->xs[j]?=some x->∃a,s.a=some a/\(∀v,(E.enc x)[0]?=some v->w'.cell? (a.add (i.toNat*E.z))=some v)/\(∀c v,(E.enc x)[c]?=some v->w'.cell? ((a.add (i.toNat*E.z)).add c)=some v)
section
variable {B:Nat} {w0 w:World} {L L':List aA} {α:Type} {E:cQ α} {s:Sl} {xs:List α}
theorem Rd.own [I:bT s L α E xs] (hl:s.len=xs.length):Rd E B w0 L s xs:=⟨hl,fun w' h i j x hij hj=>by
 obtain ⟨b,o,ha,_⟩:=h.get I.i I.at_ hj;exact ⟨_,ha,h.H4 hij hj ha⟩⟩
theorem Rd.more (hr:Rd E B w0 L s xs) [I:tX L' L]:Rd E B w0 L' s xs:=⟨hr.len,fun w' h=>hr.It w' h.sub⟩
theorem Rd.ix (hr:Rd E B w0 L s xs) (h:Ow B w0 w L) {i:Int} {j:Nat} {x:α} {G:Addr->Prop} (hij:i=(j:Int)) (hj:xs[j]?=some x)
  (hG:∀a,s.a=some a->(∀v,(E.enc x)[0]?=some v->w.cell? (a.add (i.toNat*E.z))=some v)->(∀c v,(E.enc x)[c]?=some v->w.cell? ((a.add (i.toNat*E.z)).add c)=some v)->G a):
  ∃a,s.a=some a/\0≤i/\i<(s.len:Int)/\G a:=by
 obtain ⟨a,ha,h0,hc⟩:=hr.It w h i j x hij hj;have h1:=(List.getElem?_eq_some_iff.1 hj).1;have h2:=hr.len;exact ⟨a,ha,om,om,hG a ha h0 hc⟩
theorem Ow.DA {b:Nat} {L:List aA} {l:List Value} (h:Ow B w0 w (aa b l::L)) (xs:List α) (hl:l=xs.flatMap E.enc):Ow B w0 w (ah E ⟨some ⟨b,0,none⟩,xs.length,xs.length⟩ xs::L):=by
 subst hl;refine h.conv fun G hG=>⟨fun a ha=>by cases ha;exact hG.1,rfl, .mk b 0 _ rfl hG.2 (Nat.le_refl _) ?_ ?_⟩
 ·rw[aK];simp
 ·rw[List.drop_zero,←aK,List.take_length]
end
end Go.Vc
namespace Go.Vc
open Go
theorem zY (l:List Value) (o n:Nat) {q:Nat} {vs:List Value} (h1:o+n≤l.length) (h2:q+vs.length≤n):((putAt l (o+q) vs).drop o).take n=putAt ((l.drop o).take n) q vs:=by
 apply List.ext_getElem?;intro t;rw[List.getElem?_take,ck _ _ _ _ (by simp;omega),List.getElem?_take];by_cases e:t<n
 ·rw[if_pos e,if_pos e,List.getElem?_drop,ck _ _ _ _ om,List.getElem?_drop]
  by_cases e2:q≤t/\t<q+vs.length
  ·rw[if_pos e2,if_pos om];congr 1;omega
  ·rw[if_neg e2,if_neg om]
 ·rw[if_neg e,if_neg e]
  by_cases e2:q≤t/\t<q+vs.length
  ·omega
  ·rw[if_neg e2]
theorem xH {α:Type} (E:cQ α) (xs ys:List α) (p:Nat) (h:p+ys.length≤xs.length):putAt (xs.flatMap E.enc) (p*E.z) (ys.flatMap E.enc)=(xs.take p++ys++xs.drop (p+ys.length)).flatMap E.enc:=by
 have hl:=aK E xs;have hly:=aK E ys;have hm:(p+ys.length)*E.z≤xs.length*E.z:=Nat.mul_le_mul_right _ h;rw[Nat.add_mul] at hm
 have htake:∀n,(xs.take n).flatMap E.enc=(xs.flatMap E.enc).take (n*E.z):=fun n=>by
  by_cases hn:n≤xs.length
  ·have h1:xs.flatMap E.enc=(xs.take n).flatMap E.enc++(xs.drop n).flatMap E.enc:=by rw[←List.flatMap_append,List.take_append_drop]
   have h2:((xs.take n).flatMap E.enc).length=n*E.z:=by rw[aK];simp[hn]
   rw[h1,←h2,List.take_left]
  ·rw[List.take_of_length_le om,List.take_of_length_le]
   rw[hl];exact Nat.mul_le_mul_right _ om
 have hdrop:(xs.drop (p+ys.length)).flatMap E.enc=(xs.flatMap E.enc).drop ((p+ys.length)*E.z):=by
  have h1:xs.flatMap E.enc=(xs.take (p+ys.length)).flatMap E.enc++(xs.drop (p+ys.length)).flatMap E.enc:=by rw[←List.flatMap_append,List.take_append_drop]
  have h2:((xs.take (p+ys.length)).flatMap E.enc).length=(p+ys.length)*E.z:=by rw[aK,List.length_take,Nat.min_eq_left h]
  rw[h1,←h2,List.drop_left]
 rw[List.flatMap_append,List.flatMap_append,htake,hdrop];generalize xs.flatMap E.enc=cs at*
 generalize ys.flatMap E.enc=ds at*
 apply List.ext_getElem?;intro t;rw[ck _ _ _ _ (by rw[hl,hly];exact hm)];have hlt:(cs.take (p*E.z)).length=p*E.z:=by simp;omega
 by_cases e1:t<p*E.z
 ·rw[if_neg om,List.append_assoc,List.getElem?_append_left om,List.getElem?_take,if_pos e1]
 ·by_cases e2:t<p*E.z+ds.length
  ·rw[if_pos om,List.getElem?_append_left (by rw[List.length_append];omega),List.getElem?_append_right om,hlt]
  ·rw[if_neg om,List.getElem?_append_right (by rw[List.length_append];omega),List.length_append,hlt,List.getElem?_drop,Nat.add_mul,←hly]
   congr 1;omega
section
variable {P:Program} {B:Nat} {w0 w:World} {L R:List aA} {α:Type} {E:cQ α} {s:Sl} {xs:List α}
theorem Ow.jN (h:Ow B w0 w (ah E s xs::R)):jR E.z w s (xs.flatMap E.enc):=h.vg 0 rfl
theorem Ow.Bh {z:Nat} {cs ds:List Value} {q b o:Nat} (h:Ow B w0 w (C9 z s cs::R)) (ha:s.a=some ⟨b,o,none⟩) (hq:q+ds.length≤cs.length) (hone:∀v∈ds,v.oneCell'=true):
  ∃w',(storeCells ⟨b,o+q,none⟩ ds 0).run P w= .ok () w'/\Ow B w0 w' (C9 z s (putAt cs q ds)::R):=by
 have hs:jR z w s cs:=h.head fun _ h=>h.2
 have hlen:=hs.length;cases hs with
 |nil ha' _ _ _=>rw[ha'] at ha;cases ha
 |mk b' o' l ha' hb hle hc hcs=>
  rw[ha'] at ha;simp only[Option.some.injEq,Addr.mk.injEq,and_true] at ha;obtain ⟨rfl,rfl⟩:=ha;have m1:s.len*z≤s.cap*z:=Nat.mul_le_mul_right z hle;obtain ⟨w',h1,h2,h3,h4⟩:=fW (P:=P) ds l (o'+q) w hb om hone 0 (o'+q) om;refine ⟨w',h1,h.step (A':=C9 z s (putAt cs q ds)) fun G hA hG=>⟨h2.mono fun k _ e=>by rw[e];exact hA.1 _ ha',G,⟨hA.1, ?_⟩,fun k hk=>⟨.inl hk,by have:=(hG k hk).2;omega⟩⟩⟩;refine .mk b' o' _ ha' h4 hle (by rw[mn om];exact hc) ?_;rw[hcs,zY l o' (s.len*z) om om]
theorem Ow.JI (h:Ow B w0 w (ah E s xs::R)):Ow B w0 w (C9 E.z s (xs.flatMap E.enc)::R):=h.conv fun _ h=>⟨h.1,h.2.2⟩
theorem Ow.Jn {cs:List Value} (hl:s.len=xs.length) (hc:cs=xs.flatMap E.enc) (h:Ow B w0 w (C9 E.z s cs::R)):Ow B w0 w (ah E s xs::R):=h.conv fun _ h=>⟨h.1,hl,hc▸h.2⟩
theorem ug {z n:Nat} {a:Addr} {cap len:Nat} {ds:List Value} (hn:ds.length=n*z) (hg:∀j v,ds[j]?=some v->w.cell? (a.add j)=some v):(Builtin.firstCells z n (.slice (some a) len cap)).run P w= .ok ⟨ds⟩ w:=by
 simp only[Builtin.firstCells];unfold loadCells;have:=cw (P:=P) w a ds 0 #[] (fun j v hj=>by rw[cG] at hj;rw[Nat.zero_add];exact hg j v hj);rw[hn] at this;rw[this];simp
theorem Ow.DK {T el t:TypeId} {inf:TypeInfo} {z p dl dc b o sl sc:Nat} {cs ds:List Value} {sa:Addr} {k:Int->World->Prop} (hu:P.underlying T=some (.slice el)) (hi:P.info? el=some inf) (hsz:inf.size=z)
  (h:Ow B w0 w (C9 z s cs::R)) (ha:s.a=some ⟨b,o,none⟩) (hd:ds.length=min sl dl*z) (hone:∀v∈ds,v.oneCell'=true) (hp:(p+min sl dl)*z≤cs.length)
  (hsrc:∀j v,ds[j]?=some v->w.cell? (sa.add j)=some v) (hk:∀w',Ow B w0 w' (C9 z s (putAt cs (p*z) ds)::R)->k ((min sl dl:Nat):Int) w'):
  ∃n w',kz P [T,T] t (.slice (some ⟨b,o+p*z,none⟩) dl dc) (.slice (some sa) sl sc) w n w'/\k n w':=by
 have hsize:∀w,(sizeOf el).run P w= .ok z w:=fun w=>by rw[eX hi w];simp[sz,hi,hsz]
 rw[Nat.add_mul] at hp;obtain ⟨w',h1,h2⟩:=h.Bh (P:=P) (q:=p*z) (ds:=ds) ha om hone;refine ⟨_,w', ?_,hk w' h2⟩;unfold kz Builtin.copy_;simp only[List.getElem?_toArray,List.getElem?_cons_zero,List.getElem?_cons_succ,Sem.run_bind,aN hu,Result.andThen_ok,hsize,Builtin.lenOf,Sem.run_pure];rw[show Nat.min sl dl=min sl dl from rfl,ug (w:=w) hd hsrc];simp only[Result.andThen_ok,h1];rfl
theorem Ow.sw {T el:TypeId} {inf:TypeInfo} {i j:Nat} {k:Sl->World->Prop} (hu:P.underlying T=some (.slice el)) (hi:P.info? el=some inf) (hsz:inf.size=E.z) (h:Ow B w0 w (ah E s xs::R)) (hij:i≤j) (hj:j≤xs.length) (hi0:i<xs.length)
  (hk:∀w',Ow B w0 w' (ah E s (xs.take i++xs.drop j++xs.drop (i+(xs.length-j)))::R)->k ⟨s.a,i+(xs.length-j),s.cap⟩ w'):
  ∃t w',bo P [T,T] T (.slice (dV s.a 0 s.cap E.z) (i-0) (s.cap-0)) (.slice (dV s.a j s.cap E.z) (s.len-j) (s.cap-j)) w t w'/\k t w':=by
 have hsize:∀w,(sizeOf el).run P w= .ok E.z w:=fun w=>by rw[eX hi w];simp[sz,hi,hsz]
 have hl:=h.len 0 rfl;have hs:=h.jN;have hsp:=hs.spot;have hsub:=hs.sub (l:=j) (hh:=s.len) om (Nat.le_refl _)
 have hds:((xs.flatMap E.enc).take (s.len*E.z)).drop (j*E.z)=(xs.drop j).flatMap E.enc:=by
  rw[hl,←aK,List.take_length];have h1:xs.flatMap E.enc=(xs.take j).flatMap E.enc++(xs.drop j).flatMap E.enc:=by rw[←List.flatMap_append,List.take_append_drop]
  have h2:((xs.take j).flatMap E.enc).length=j*E.z:=by rw[aK];simp[hj]
  rw[h1,←h2,List.drop_left]
 rw[hds] at hsub;have hcells:=fQ (P:=P) hsub (s.len-j) (Nat.le_refl _);have hdl:((xs.drop j).flatMap E.enc).length=(s.len-j)*E.z:=by rw[aK,List.length_drop,hl]
 rw[←hdl,List.take_length] at hcells;have hcap:=hs.fo;obtain ⟨b,o,ha,_⟩:=h.get 0 rfl (gE hi0)
 obtain ⟨w',h1,h2⟩:=h.JI.Bh (P:=P) (q:=i*E.z) (ds:=(xs.drop j).flatMap E.enc) ha (by
  rw[aK,aK,List.length_drop,←Nat.add_mul];exact Nat.mul_le_mul_right _ om) (fun v hv=>by
  obtain ⟨y,_,hy⟩:=List.mem_flatMap.1 hv;exact E.one y v hy)
 have e0:dV s.a 0 s.cap E.z=s.a:=CU _ _ _ hsp;refine ⟨_,w', ?_,hk w' (Ow.Jn (cs:=putAt (xs.flatMap E.enc) (i*E.z) ((xs.drop j).flatMap E.enc)) ?_ ?_ h2)⟩
 ·unfold bo Builtin.append_
  rw[e0];simp only[Nat.sub_zero];simp only[List.getElem?_toArray,List.getElem?_cons_zero,List.getElem?_cons_succ,Sem.run_bind,aN hu,Result.andThen_ok,hsize,Builtin.lenOf,Sem.run_pure,Bool.false_eq_true,if_false,Bool.not_false];rw[if_pos (show i+(s.len-j)≤s.cap by omega)];simp only[if_true];rw[Sem.run_bind,hcells];simp only[Result.andThen_ok,ha,aI];rw[Sem.run_bind,h1,hl];rfl
 ·simp;omega
 ·rw[xH E xs (xs.drop j) i (by rw[List.length_drop];omega),List.length_drop]
end
end Go.Vc
namespace Go.Vc
open Go
theorem fV {a:Option Addr} {b o i cap z:Nat} (ha:a=some ⟨b,o,none⟩) (hne:cap≠i):Vc.dV a i cap z=some ⟨b,o+i*z,none⟩:=by
 unfold Vc.dV;rw[if_neg hne,ha];simp only[Option.map_some,aI]
section
variable {P:Program} {B:Nat} {w0 w:World} {L R:List aA} {α:Type} {E:cQ α} {s:Sl} {xs:List α}
theorem Ow.AD {T el t:TypeId} {inf:TypeInfo} {p dl dc sl sc b o:Nat} {sa:Addr} {zs:List α} {k:Int->World->Prop} (hu:P.underlying T=some (.slice el)) (hi:P.info? el=some inf) (hsz:inf.size=E.z)
  (h:Ow B w0 w (ah E s xs::R)) (ha:s.a=some ⟨b,o,none⟩) (hzl:zs.length=min sl dl) (hp:p+zs.length≤xs.length) (hsrc:∀j v,(zs.flatMap E.enc)[j]?=some v->w.cell? (sa.add j)=some v)
  (hk:∀w',Ow B w0 w' (ah E s (xs.take p++zs++xs.drop (p+zs.length))::R)->k ((min sl dl:Nat):Int) w'):
  ∃n w',kz P [T,T] t (.slice (some ⟨b,o+p*E.z,none⟩) dl dc) (.slice (some sa) sl sc) w n w'/\k n w':=by
 have hl:=h.len 0 rfl
 refine h.JI.DK hu hi hsz ha (p:=p) (ds:=zs.flatMap E.enc) (by rw[aK,hzl]) (fun v hv=>by
  obtain ⟨y,_,hy⟩:=List.mem_flatMap.1 hv;exact E.one y v hy) (by rw[aK,←hzl];exact Nat.mul_le_mul_right _ hp) hsrc fun w' h'=>hk w' (Ow.Jn ?_ (xH E xs zs p hp) h')
 simp;omega
theorem Ow.grow {m:Nat} (h:Ow B w0 w (ah E s xs::R)) (hm:xs.length+m≤s.cap) {b o:Nat} (ha:s.a=some ⟨b,o,none⟩):∃junk:List Value,junk.length=m*E.z/\Ow B w0 w (C9 E.z ⟨s.a,xs.length+m,s.cap⟩ (xs.flatMap E.enc++junk)::R):=by
 obtain ⟨G,hA,hG,Z,h1,h2,h3,h4⟩:=h.held.cM;obtain ⟨hin,hlen,hs⟩:=hA;cases hs with
 |nil ha' _ _ _=>rw[ha'] at ha;cases ha
 |mk b' o' l ha' hb hle hc hcs=>
  have m1:(xs.length+m)*E.z≤s.cap*E.z:=Nat.mul_le_mul_right _ hm;rw[Nat.add_mul] at m1;refine ⟨(l.drop (o'+xs.length*E.z)).take (m*E.z),by simp;omega,h.base,h.rr,fu.lZ (A:=C9 E.z ⟨s.a,xs.length+m,s.cap⟩ _) ⟨hin, .mk b' o' l ha' hb hm hc ?_⟩ hG h1 h2 h3 h4⟩;show _=(l.drop o').take ((xs.length+m)*E.z);rw[hcs,hlen,Nat.add_mul,List.take_add,List.drop_drop]
theorem Ow.Hf {A A':aA} {p:Prop} (h:Ow B w0 w (A::A'::R)) (hp:∀G G',A.holds G w->A'.holds G' w->(∀k,G k->¬G' k)->p):p:=by
 obtain ⟨Z,h1,h2,h3⟩:=h.held
 match Z,h1 with
 |x::y::Z,h1=>
  simp only[List.map_cons,List.cons.injEq] at h1;obtain ⟨rfl,rfl,_⟩:=h1;exact hp x.2 y.2 (h2 x (by simp)).1 (h2 y (by simp)).1 ((List.pairwise_cons.1 h3).1 y (by simp))
theorem Ow.overlaps {f:FuncId} {fn:Func} {tS tR e:TypeId} {size la ca lb cb c b o o' z:Nat} {l:List Value} {cs:List Value} {s':Sl} (hf:P.funcs[f]?=some fn) (hname:(fn.name== "runtime.NumGoroutine")=false) (hb:fn.body.isNone=true) (hn:Extern.findNext fn=none)
  (he:Extern.find fn=some (Extern.SlicesOverlaps.overlaps #[tS,tS] #[tR])) (ht:P.underlying tS=some (.slice e)) (hz:∀w,(Go.sizeOf e).run P w= .ok size w)
  (h:Ow B w0 w (aa c l::C9 z s' cs::R)) (ha:s'.a=some ⟨b,o,none⟩) (hcs:cs≠ []):xb P f #[.slice (some ⟨c,0,none⟩) la ca, .slice (some ⟨b,o',none⟩) lb cb] w (.bool false) w:=by
 refine h.Hf fun G G' hA hA' hd=>?_
 have hne:c≠b:=fun e=>hd c hA.1 (by have:=hA'.1 _ ha;rw[e];exact this)
 obtain ⟨t1,ht1⟩:=hA.2;cases hA'.2 with
 |nil ha' _ _ _=>rw[ha'] at ha;cases ha
 |mk b' o2 l' ha' hb' hle hc hcs'=>
  rw[ha'] at ha;simp only[Option.some.injEq,Addr.mk.injEq,and_true] at ha;obtain ⟨rfl,rfl⟩:=ha;obtain ⟨t2,ht2⟩:=hb'
  have hl':l'.length≠0:=fun e=>by
   have:l'= []:=List.eq_nil_of_length_eq_zero e;subst this;simp at hcs';exact hcs hcs'
  unfold xb
  rw[run_callFunc_extern hf hname hb hn he,Lib.run_overlaps_apart w tS tR e ht size hz ⟨c,0,none⟩ ⟨b',o',none⟩ la ca lb cb hne t1 t2 l.length l'.length
   (by simp[World.shape?,ht1]) (by simp[World.shape?,ht2]) hl' (by simp[World.frozen?,ht1]) (by simp[World.frozen?,ht1])]
  rfl
theorem Ow.I0 {T U el:TypeId} {inf:TypeInfo} {zv:Value} {z0:α} {i m:Nat} {ku:IntKind} {k:Sl->World->Prop} (hu:P.underlying T=some (.slice el)) (hui:P.underlying U=some (.int ku)) (hi:P.info? el=some inf) (hz:inf.zero=some zv) (hsz:inf.size=E.z) (hzc:zv.cells.toList=E.enc z0) (hb:1≤inf.bytes)
  (h:Ow B w0 w (ah E s xs::R)) (hi0:i≤xs.length) (hm1:1≤m) (hcap:s.cap<i+m) (hbig:(17*(i+m)+16000)*inf.bytes≤2^48)
  (hk:∀s' w',s'.len=i+m->s'.len≤s'.cap->Ow B w0 w' (ah E s' (xs.take i++List.replicate m z0)::ah E s xs::R)->k s' w'):
  ∃s' w',bo P [T,U] T (.slice (dV s.a 0 s.cap E.z) (i-0) (s.cap-0)) (.int .i64 (m:Int)) w s' w'/\k s' w':=by
 have hsize:∀w,(sizeOf el).run P w= .ok E.z w:=fun w=>by rw[eX hi w];simp[sz,hi,hsz]
 have hinfo:∀w,(typeInfo el).run P w= .ok inf w:=fun w=>by simp[typeInfo,hi]
 have hzero:∀w,(zeroValue el).run P w= .ok zv w:=fun w=>by simp[zeroValue,hinfo,hz]
 have hl:=h.len 0 rfl;have hs:=h.jN;have hlc:=hs.fo;have hsp:=hs.spot;have e0:dV s.a 0 s.cap E.z=s.a:=CU _ _ _ hsp;have hzl:zv.cells.size=E.z:=by rw[←Array.length_toList,hzc,E.len]
 let need:=i+m
 let q:Question:= .appendCap need s.cap el
 let n:=q.cut (w.tape w.drawn q)
 have hle:=sV need s.cap
 have hlim:¬(Builtin.nextslicecap need s.cap*inf.bytes>2^48):=by
  have h0:Builtin.nextslicecap need s.cap≤17*(i+m)+16000:=by
   refine Nat.le_trans hle ?_;show i+m+16*s.cap+16000≤_;generalize 16000=y;omega
  have:Builtin.nextslicecap need s.cap*inf.bytes≤(17*(i+m)+16000)*inf.bytes:=Nat.mul_le_mul_right _ h0;omega
 have hneedb:need≤2^44:=by
  have h1:(17*(i+m)+16000)*1≤(17*(i+m)+16000)*inf.bytes:=Nat.mul_le_mul_left _ hb;show i+m≤_;omega
 have e44:(2:Nat)^44=17592186044416:=by decide
 rw[e44] at hneedb;have hneedb:i+m≤17592186044416:=hneedb
 have hn1:need≤n:=by
  show need≤need+_%_;omega
 let row:List Value:=(xs.take i).flatMap E.enc++(List.replicate m z0).flatMap E.enc++(Builtin.zeroCells zv.cells (n-need)).toList
 let w':=w.drew.alloc (.cells ⟨row⟩ el)
 have hpre:(xs.take i).flatMap E.enc=(xs.flatMap E.enc).take (i*E.z):=by
  have g1:xs.flatMap E.enc=(xs.take i).flatMap E.enc++(xs.drop i).flatMap E.enc:=by rw[←List.flatMap_append,List.take_append_drop]
  have g2:((xs.take i).flatMap E.enc).length=i*E.z:=by rw[aK];simp[hi0]
  rw[g1,←g2,List.take_left]
 have hold:(Builtin.firstCells E.z i (.slice s.a i s.cap)).run P w.drew= .ok ⟨(xs.take i).flatMap E.enc⟩ w.drew:=by
  have h1:=h.drop;have hp:=(h.same (w':=w.drew) (jP rfl rfl rfl rfl)).pre 0 rfl (n:=i) hi0;have:=fQ (P:=P) (hp.vg 0 rfl) i (Nat.le_refl _);rw[this,List.take_of_length_le (by rw[aK];simp[hi0])]
 have hzs:(Builtin.zeroCells zv.cells m).toList=(List.replicate m z0).flatMap E.enc:=by
  have h1:(Builtin.zeroCells zv.cells m)=⟨rep m zv.cells.toList⟩:=by
   unfold Builtin.zeroCells;exact oI zv.cells m (by rw[hzl];exact E.pos)
  have h2:∀m,rep m (E.enc z0)=(List.replicate m z0).flatMap E.enc:=by
   intro m
   induction m with
   |zero=>rfl
   |succ m ih=>simp[rep,List.replicate_succ,ih]
  rw[h1,hzc,h2]
 have hzl2:(Builtin.zeroCells zv.cells (n-need)).toList.length=(n-need)*E.z:=by simp[Builtin.zeroCells,hzl]
 refine ⟨⟨some ⟨w.heap.size,0,none⟩,need,n⟩,w', ?_,hk _ _ rfl hn1 ?_⟩
 ·have hint:∀w,(asInt (.int .i64 (m:Int))).run P w= .ok (m:Int) w:=fun w=>by simp[asInt,asIntOf]
  have hwm:IntKind.i64.wrap (m:Int)=(m:Int):=wr om om
  have hmb:¬((m:Int)*(inf.bytes:Int)>2^48):=by
   have h1:m*inf.bytes≤(17*(i+m)+16000)*inf.bytes:=Nat.mul_le_mul_right _ om;have h2:m*inf.bytes≤2^48:=Nat.le_trans h1 hbig;have e48:(2:Int)^48=((2^48:Nat):Int):=by decide
   rw[e48,←Int.natCast_mul];omega
  have hm0:¬((m:Int)<0):=by omega
  have hcap2:¬(i+m≤s.cap):=by omega
  have hmax:¬(((i+m:Nat):Int)>IntKind.i64.max/\(True∨inf.bytes=0)):=by
   have:IntKind.i64.max=9223372036854775807:=by decide
   rw[this];omega
  unfold bo Builtin.append_;rw[e0];simp only[Nat.sub_zero];have hint2:∀w,(asIntOf (.int .i64 (m:Int))).run P w= .ok (.i64,(m:Int)) w:=fun w=>by simp[asIntOf]
  simp only[List.getElem?_toArray,List.getElem?_cons_zero,List.getElem?_cons_succ,Sem.run_bind,aN hu,aN hui,Result.andThen_ok,hsize,Sem.run_pure,if_true,hint,hwm,hm0,if_false,hinfo,hmb,Int.toNat_natCast,hcap2,Bool.not_true,Bool.false_eq_true];rw[if_neg hmax,Sem.run_bind,hinfo];simp only[Result.andThen_ok];rw[if_neg hlim,Sem.run_bind,run_choose];have hf:Question.forced (.appendCap (i+m) s.cap el)=false:=rfl;simp only[hf,Bool.false_eq_true,if_false,Result.andThen_ok,World.drew_eq];rw[Sem.run_bind,hinfo];simp only[Result.andThen_ok];rw[Sem.run_bind,run_askRoom];simp only[Result.andThen_ok];rw[Sem.run_bind,hold];simp only[Result.andThen_ok]
  have hmz:¬(m*E.z=0):=by
   have hpos:=E.pos;intro e;rcases Nat.mul_eq_zero.1 e with e|e<;>omega
  rw[if_neg hmz];simp only[Sem.run_bind,hzero,Result.andThen_ok,Sem.run_pure,newRow,run_newObj]
  have hrow:((⟨(xs.take i).flatMap E.enc⟩:Array Value)++Builtin.zeroCells zv.cells m++Builtin.zeroCells zv.cells (n-need))=⟨row⟩:=by
   apply Array.ext';simp only[row,Array.toList_append,hzs]
  show Result.ok (Value.slice (some ⟨w.heap.size,0,none⟩) (i+m) n) (w.drew.alloc (.cells ((⟨(xs.take i).flatMap E.enc⟩:Array Value)++Builtin.zeroCells zv.cells m++Builtin.zeroCells zv.cells (n-need)) el))=_;rw[hrow]
 ·have hrl:row.length=n*E.z:=by
   simp only[row,List.length_append,aK,hzl2,List.length_take,Nat.min_eq_left hi0,List.length_replicate];rw[←Nat.add_mul,←Nat.add_mul];congr 1;show i+m+(n-(i+m))=n;have:i+m≤n:=hn1;omega
  have h2:=h.same (w':=w.drew) (jP rfl rfl rfl rfl);refine h2.new (A':=ah E ⟨some ⟨w.heap.size,0,none⟩,need,n⟩ (xs.take i++List.replicate m z0)) (G':=fun k=>k=w.heap.size) (eJ _ _) ⟨fun a ha=>by cases ha;rfl,by simp[need,hi0], ?_⟩ fun k e=>by subst e;exact ⟨Nat.le_refl _,by simp[w']⟩
  refine .mk w.heap.size 0 row rfl ⟨el,heap_alloc_new w.drew _⟩ hn1 (by rw[hrl];show 0+n*E.z≤n*E.z;omega) ?_;show _=(row.drop 0).take ((i+m)*E.z);have:(i+m)*E.z=((xs.take i++List.replicate m z0).flatMap E.enc).length:=by rw[aK];simp[hi0]
  rw[this,List.drop_zero];simp only[row];rw[←List.flatMap_append,List.take_left]
end
end Go.Vc
namespace Go.Vc
open Go
section
variable {P:Program} {B:Nat} {w0 w:World} {L R:List aA} {α:Type} {E:cQ α} {s:Sl} {xs:List α}
theorem Ow.G9 [I:bT s L α E xs] (h:Ow B w0 w L) {p n t:Nat} (hp:p+n≤xs.length) (ht:t<n):
  ∃a a0,s.a=some a0/\Vc.dV s.a p s.cap E.z=some a/\a.add (t*E.z)=a0.add ((p+t)*E.z):=by
 obtain ⟨b,o,ha,_⟩:=h.get I.i I.at_ (gE (show p<xs.length by omega));have hl:=h.len I.i I.at_;have hc:=(h.vg I.i I.at_).fo;refine ⟨_,_,ha,fV ha om, ?_⟩;rw[aI,aI,Nat.add_mul,Nat.add_assoc]
theorem Rd.part [I:bT s L α E xs] {p n c:Nat} (hp:p+n≤xs.length):Rd E B w0 L ⟨Vc.dV s.a p s.cap E.z,n,c⟩ ((xs.drop p).take n):=by
 refine ⟨by simp;omega,fun w' h i j x hij hj=>?_⟩;rw[List.getElem?_take] at hj;split at hj
 ·rename_i hjn
  rw[List.getElem?_drop] at hj;obtain ⟨a,a0,ha0,ha,he⟩:=h.G9 (s:=s) (E:=E) (p:=p) (n:=n) (t:=j) hp hjn;obtain ⟨h0,hc⟩:=h.H4 (s:=s) (E:=E) (i:=((p+j:Nat):Int)) (j:=p+j) rfl hj ha0;have hi:i.toNat=j:=by omega
  rw[Int.toNat_natCast] at h0 hc;refine ⟨a,ha,fun v hv=>?_,fun c v hv=>?_⟩
  ·rw[hi,he];exact h0 v hv
  ·rw[hi,he];exact hc c v hv
 ·cases hj
end
end Go.Vc
end
section
namespace Go.Proofs.YtlhljbbfckbjpaaGreat
open Go Go.Vc Go.Proofs
def mQ (f:Func):Code:=f.body.getD .skip
theorem kh {P:Program} {f:FuncId} {fn:Func} {c:Code} {p:Prop} (hf:P.funcs[f]?=some fn) (hb:fn.body=some c) (h:p):okF P f p:=by
 unfold okF;rw[hf];simp only[hb];exact h
theorem rR {P:Program} {f:FuncId} {p:Prop} (h:okF P f p):p:=by
 unfold okF at h;split at h<;>first|exact h.elim|(split at h<;>first|exact h.elim|exact h)
theorem lI:∀(f:Nat) (fn:Func),Tryz.prog.funcs[f]?=some fn->(fn.name== "runtime.NumGoroutine")=false:=by
 have h:Tryz.prog.funcs.toList.all (fun fn=> !(fn.name== "runtime.NumGoroutine"))=true:=by kernel_rfl
 intro f fn hf;have:=List.all_eq_true.1 h fn (by rw[Array.mem_toList_iff];exact Array.mem_of_getElem? hf);simpa using this
theorem iA:Tryz.prog.follows .mixedOrders=true:=by kernel_rfl
set_option maxRecDepth 100000 in
theorem JE {f:FuncId} {fn:Func} (hf:Tryz.prog.funcs[f]?=some fn) (an:An) (cs:List (Nat × Sh)) (args:List Value) (K:vB cs) {w:World} {p:Prop} (hb:fn.body=some (mQ fn)) (hok:Gd Tryz.prog fn (mQ fn) an cs args.length=true) (e:p=IP Tryz.prog fn (mQ fn) an cs args K w) (h:p):okF Tryz.prog f (Calls Tryz.prog f ⟨args⟩ w (DR cs K [])):=
 kh hf hb (DW lI iA hf hb hok (Eq.mp e h))
abbrev _root_.Go.Value.z (n:Int):Value:= .int .i64 n
abbrev _root_.Go.Value.y (n:Int):Value:= .int .u64 n
abbrev _root_.Go.Vc.Sl.v (s:Sl):Value:= .slice s.a s.len s.cap
abbrev _root_.Go.Vc.Sc.o:Sc:= .i .i64
abbrev _root_.Go.Vc.Sc.u:Sc:= .i .u64
abbrev Pw:=World->Prop
abbrev Fr (q p:Prop):Prop:=p->q
abbrev aJ (f:FuncId) (a:List Value) (w:World) (cs:List (Nat × Sh)) (K:vB cs):Prop:=okF Tryz.prog f (Calls Tryz.prog f ⟨a⟩ w (DR cs K []))
set_option maxRecDepth 8000 in
theorem aD {f:FuncId} {fn:Func} (hf:Tryz.prog.funcs[f]?=some fn) (an:An) {cs:List (Nat × Sh)} {args:List Value} {K:vB cs} {w:World} {p:Prop} (hb:fn.body=some (mQ fn):=by rfl) (hok:Gd Tryz.prog fn (mQ fn) an cs args.length=true:=by kernel_rfl) (e:p=IP Tryz.prog fn (mQ fn) an cs args K w:=by kernel_rfl):Fr (aJ f args w cs K) p:=
 by unfold Fr aJ;exact JE hf an cs args K hb hok e
def _root_.Go.Vc.An.w:An:= .t none .u .u
def _root_.Go.Vc.An.v (a:An):An:= .t none .u a
def _root_.Go.Vc.An.x (a:An):An:= .t none a .u
def _root_.Go.Vc.An.y (a b:An):An:= .t none a b
def _root_.Go.Vc.An.z (p:cr):An:= .r none p
def _root_.Go.Vc.cr.o (a b:Nat) (p:cr):cr:= .one a b p
def _root_.Go.Vc.cr.e (a:Nat) (p:cr):cr:= .alt a p .none
def _root_.Go.Vc.cr.f (a:Nat) (p q:cr):cr:= .alt a p q
def _root_.Go.Vc.An.FG:An:= .v (.y .w (.x (.x .w)))
def _root_.Go.Vc.An.G3:An:= .v (.y (.v (.x .w)) .w)
def _root_.Go.Vc.An.G2:An:= .x (.v (.y .w (.v (.x .w))))
def _root_.Go.Vc.cr.Jf:cr:= .o 7 0 (.o 8 0 (.e 9 .done))
def _root_.Go.Vc.An.H3:An:= .v .G3
def _root_.Go.Vc.cr.IS:cr:= .o 6 0 (.o 7 0 (.e 8 .done))
def _root_.Go.Vc.cr.H0:cr:= .e 18 (.e 19 (.o 20 0 .done))
def _root_.Go.Vc.cr.H2:cr:= .e 16 (.e 17 (.o 18 0 .done))
def _root_.Go.Vc.cr.Je:cr:= .o 9 0 (.o 10 0 (.e 11 .done))
def _root_.Go.Vc.An.Jc:An:= .y .w (.v (.y .w (.v (.x .w))))
def _root_.Go.Vc.cr.Jd:cr:= .o 10 0 (.e 11 (.o 12 0 .done))
def _root_.Go.Vc.An.Ja:An:= .v (.y (.v (.x .w)) (.v (.v .w)))
def _root_.Go.Vc.An.Jb:An:= .v (.y .w (.x (.x (.v (.v .w)))))
def _root_.Go.Vc.cr.I9:cr:= .o 4 0 (.o 5 0 (.e 6 (.o 7 0 .done)))
def _root_.Go.Vc.cr.I8:cr:= .e 7 .Jd
def _root_.Go.Vc.An.IQ:An:= .y (.r (some [(14,.c .b)]) .done) (.x .w)
def _root_.Go.Vc.An.JB:An:= .v (.y .G2 (.v (.v .w)))
def _root_.Go.Vc.An.JC:An:= .v (.v (.y .G2 (.v .w)))
def _root_.Go.Vc.cr.JA:cr:= .e 1 (.e 6 .I8)
def _root_.Go.Vc.An.Is:An:= .v (.y (.y (.r (some [(9,.c .b)]) .done) (.x .w)) .w)
def _root_.Go.Vc.An.Jz:An:= .v (.y (.y (.r (some [(15,.c .b)]) .done) (.x .w)) .w)
def _root_.Go.Vc.cr.I7:cr:= .o 4 0 (.o 5 0 (.o 6 0 .Jf))
def _root_.Go.Vc.An.g24:An:= .v (.t (some [(0,.c (.i .u64)),(2,.c (.i .i64))]) .w .u)
def _root_.Go.Vc.An.g23:An:= .v (.y (.v (.x .w)) (.y (.v (.v (.x .w))) (.y (.v .w) .w)))
def _root_.Go.Vc.An.g22:An:= .z (.o 0 16 (.o 1 16 (.o 2 16 (.o 3 16 (.o 4 0 (.e 5 .done))))))
def _root_.Go.Vc.cr.g21:cr:= .o 4 8 (.o 5 8 (.hold 3 64 511 (.e 6 .Jf)))
def _root_.Go.Vc.cr.g20:cr:= .o 5 0 (.e 6 (.o 7 0 (.o 8 512 (.o 9 1024 (.o 10 0 (.o 11 0 .done))))))
def _root_.Go.Vc.An.g19:An:= .y .g22 .w
def _root_.Go.Vc.cr.g18:cr:= .o 8 14336 (.o 9 14336 (.o 10 14336 (.o 11 0 (.o 12 0 (.o 13 0 (.e 14 .done))))))
def _root_.Go.Vc.An.g17:An:= .y (.z (.o 0 48 (.o 1 48 (.o 2 48 (.o 3 48 (.o 4 32 (.o 5 0 (.e 6 .done)))))))) .w
def _root_.Go.Vc.cr.g16:cr:= .e 9 (.o 10 0 (.o 11 12288 (.o 12 73728 (.o 13 196608 .H2))))
def _root_.Go.Vc.cr.g15:cr:= .e 11 (.o 12 0 (.o 13 49152 (.o 14 294912 (.o 15 786432 .H0))))
def _root_.Go.Vc.An.g14:An:= .v (.y (.v (.x (.t (some [(8,.c (.i .i64))]) (.v (.y .w (.x (.x (.v (.v (.x .w))))))) .u))) .w)
def _root_.Go.Vc.An.g13:An:= .z (.o 0 238 (.o 1 228 (.o 2 224 (.o 3 224 (.o 4 224 (.o 5 64 .IS))))))
def _root_.Go.Vc.An.g11:An:= .z (.o 0 112 (.o 1 112 (.o 2 112 (.o 3 112 .I7))))
def _root_.Go.Vc.An.g12:An:= .z (.o 0 496 (.o 1 496 (.o 2 496 (.o 3 496 .I7))))
def _root_.Go.Vc.An.g10:An:= .z (.o 0 14 (.o 1 124 (.o 2 112 .g21)))
def _root_.Go.Vc.An.g9:An:= .z (.o 0 48 (.o 1 48 (.o 2 48 (.o 3 48 (.o 4 0 .g20)))))
def _root_.Go.Vc.An.g8:An:= .v (.v (.y (.v (.x .w)) (.v (.y (.z (.o 0 58 (.o 1 56 (.o 2 56 (.o 3 16 .I9))))) (.v .w)))))
def _root_.Go.Vc.An.g7:An:= .z (.o 0 1920 (.o 1 1920 (.o 2 1920 (.o 3 1920 (.o 4 1920 (.o 5 1920 (.o 6 1920 (.o 7 0 (.o 8 0 .Je)))))))))
def _root_.Go.Vc.An.g6:An:= .v (.v (.y (.v (.x .w)) (.y (.v (.x (.t (some [(5,.c (.i .i64)),(6,.c (.i .i64))]) (.y (.v .w) (.x (.x (.v (.v (.x .w)))))) .u))) (.v .w))))
def _root_.Go.Vc.An.g5:An:= .v (.x (.z (.o 0 240 (.o 1 240 (.o 2 240 (.o 3 240 (.o 4 256 (.o 5 256 (.o 6 256 (.o 7 256 (.o 8 0 (.o 9 0 (.o 10 0 (.o 11 0 .done))))))))))))))
def _root_.Go.Vc.An.g4:An:= .z (.o 0 16256 (.o 1 16256 (.o 2 16256 (.o 3 16256 (.o 4 16256 (.o 5 16256 (.o 6 16256 (.o 7 14336 .g18))))))))
def _root_.Go.Vc.cr.g3:cr:= .o 0 528 (.o 1 528 (.o 2 528 (.o 3 528 (.o 4 512 (.f 5 (.o 6 512 (.o 7 768 (.o 8 1536 (.e 9 (.e 10 (.o 11 0 .done)))))) (.e 9 (.e 5 (.o 6 0 (.o 7 256 (.o 8 1024 (.e 10 (.o 11 0 .done))))))))))))
def _root_.Go.Vc.An.g2:An:= .y (.z (.o 0 16368 (.o 1 16368 (.o 2 16368 (.o 4 6152 (.o 5 6152 (.o 6 6152 (.hold 3 16256 65535 (.hold 7 6144 57343 (.o 8 6144 (.o 9 6144 (.hold 10 6144 57343 (.e 11 (.e 12 (.e 13 (.o 14 0 (.o 15 0 (.e 16 .done)))))))))))))))))) .w
def _root_.Go.Vc.An.g1:An:= .r (some [(4,.c .q)]) (.o 0 4224 (.o 1 4224 (.o 2 4224 (.o 3 4224 (.o 4 4224 (.o 5 4224 (.o 6 4224 (.o 7 4096 (.f 8 (.o 9 4096 (.o 10 6144 (.o 11 12288 (.e 12 (.e 13 (.o 14 0 .done)))))) (.e 12 (.e 8 (.o 9 0 (.o 10 2048 (.o 11 8192 (.e 13 (.o 14 0 .done))))))))))))))))
def _root_.Go.Vc.An.g0:An:= .r (some [(4,.c .q),(5,.c .b)]) (.o 0 49648 (.o 1 49648 (.o 2 49648 (.o 3 49648 (.o 4 49152 (.o 5 49152 (.o 6 49152 (.o 7 49152 (.o 8 49152 (.f 9 (.o 10 49152 (.o 11 61440 (.o 12 122880 (.o 13 245760 (.f 14 (.e 15 .H2) (.e 15 (.e 14 .H2))))))) (.f 14 (.f 9 (.o 10 32768 (.o 11 45056 (.o 12 106496 (.o 13 229376 (.e 15 .H2))))) (.e 15 .g16)) (.e 15 (.f 9 (.o 10 16384 (.o 11 28672 (.o 12 90112 (.o 13 212992 (.e 14 .H2))))) (.e 14 .g16))))))))))))))
def C.qdz (a b c:Int) (d e:Sl) (f:Int) (g:ByteArray) (K:Bool->Pw) (w:World):Prop:=aJ 3 [.agg #[.z a, .z b, .z c, .slice d.a d.len d.cap, .slice e.a e.len e.cap, .z f], .string g] w [(0, .c (.b))] K
def C.qdS (a b c:Int) (d e:Sl) (f:Int) (g:ByteArray) (K:Option Addr->Int->Int->Int->Sl->Sl->Int->Sl->Pw) (w:World):Prop:=aJ 5 [.agg #[.z a, .z b, .z c, .slice d.a d.len d.cap, .slice e.a e.len e.cap, .z f], .string g] w [(0, .c (.p)),(1, .a [.o, .o, .o, .s, .s, .o]),(2, .c (.s))] K
def C.qM (a:Option Addr) (b c d e:Int) (K:Int->Int->Int->Int->Int->Int->Sl->Int->Int->Bool->Bool->Pw) (w:World):Prop:=aJ 6 [.pointer a, .agg #[.z b, .z c, .z d, .z e]] w [(0, .a [.o, .o, .o, .o, .u, .o, .s, .o, .o, .b]),(1, .c (.b))] K
def C.qaC (a:Option Addr) (b:Int) (K:Int->Bool->Pw) (w:World):Prop:=aJ 7 [.pointer a, .z b] w [(0, .c (.i .i64)),(1, .c (.b))] K
def C.qaD (a:Option Addr) (b:Int) (K:Int->Pw) (w:World):Prop:=aJ 8 [.pointer a, .z b] w [(0, .c (.i .i64))] K
def C.qcV (a:Int) (b:Sl) (K:Int->Pw) (w:World):Prop:=aJ 9 [.z a, .slice b.a b.len b.cap] w [(0, .c (.i .i64))] K
def C.qaE (a:Option Addr) (K:Sl->Pw) (w:World):Prop:=aJ 10 [.pointer a] w [(0, .c (.s))] K
def C.qdl (K:Bool->Pw) (w:World):Prop:=aJ 11 [] w [(0, .c (.b))] K
def C.qdm (a b c:Int) (d e:Sl) (f:Int) (K:Int->Int->Int->Sl->Sl->Int->Pw) (w:World):Prop:=aJ 14 [.agg #[.z a, .z b, .z c, .slice d.a d.len d.cap, .slice e.a e.len e.cap, .z f]] w [(0, .a [.o, .o, .o, .s, .s, .o])] K
def C.qcW (a b c:Int) (d e:Sl) (f:Int) (K:Option Addr->Int->Pw) (w:World):Prop:=aJ 15 [.agg #[.z a, .z b, .z c, .slice d.a d.len d.cap], .slice e.a e.len e.cap, .z f] w [(0, .c (.p)),(1, .c (.i .i64))] K
def C.qdK (s1:ByteArray) (cores2:Int) (K:Sl->Pw) (w:World):Prop:=okF Tryz.prog 16 (Calls Tryz.prog 16 #[.string s1, .z cores2] w fun en w'=>∃r3:Sl,en= .returned (.slice r3.a r3.len r3.cap)/\K r3 w')
def C.qcm (a b c d e:Int) (K:Bool->Pw) (w:World):Prop:=aJ 17 [.agg #[.z a, .z b, .z c, .z d], .z e] w [(0, .c (.b))] K
def C.qaF (a:Option Addr) (b c d e:Int) (K:Int->Int->Int->Int->Int->Int->Sl->Int->Int->Bool->Bool->Pw) (w:World):Prop:=aJ 18 [.pointer a, .agg #[.z b, .z c, .z d, .z e]] w [(0, .a [.o, .o, .o, .o, .u, .o, .s, .o, .o, .b]),(1, .c (.b))] K
def C.qaG (a:Option Addr) (b:Int) (K:Int->Int->Int->Int->Int->Int->Sl->Int->Int->Bool->Bool->Pw) (w:World):Prop:=aJ 19 [.pointer a, .z b] w [(0, .a [.o, .o, .o, .o, .u, .o, .s, .o, .o, .b]),(1, .c (.b))] K
def C.qaH (a:Option Addr) (K:Bool->Pw) (w:World):Prop:=aJ 20 [.pointer a] w [(0, .c (.b))] K
def C.qbE (a:Option Addr) (b:Int) (K:Int->Int->Pw) (w:World):Prop:=aJ 21 [.pointer a, .z b] w [(0, .c (.i .i64)),(1, .c (.i .i64))] K
def C.qbj (a:Option Addr) (b:Int) (K:Bool->Pw) (w:World):Prop:=aJ 22 [.pointer a, .z b] w [(0, .c (.b))] K
def C.qbk (a:Option Addr) (b:Int) (K:Bool->Pw) (w:World):Prop:=aJ 23 [.pointer a, .z b] w [(0, .c (.b))] K
def C.qaI (a:Option Addr) (b:Int) (K:Int->Pw) (w:World):Prop:=aJ 24 [.pointer a, .z b] w [(0, .c (.i .i64))] K
def C.qcL (a:Int) (b:Sl) (K:Option Addr->Int->Pw) (w:World):Prop:=aJ 25 [.z a, .slice b.a b.len b.cap] w [(0, .c (.p)),(1, .c (.i .i64))] K
def C.qcw (a:Option Addr) (K:Sl->Pw) (w:World):Prop:=aJ 26 [.pointer a] w [(0, .c (.s))] K
def C.qdC (K:Int->Int->Int->Sl->Pw) (w:World):Prop:=aJ 27 [] w [(0, .a [.o, .o, .o, .s])] K
def C.qaJ (a:Option Addr) (K:Sl->Pw) (w:World):Prop:=aJ 28 [.pointer a] w [(0, .c (.s))] K
def C.qcX (a b c:Int) (d:Sl) (K:Int->Int->Int->Sl->Pw) (w:World):Prop:=aJ 29 [.agg #[.z a, .z b, .z c, .slice d.a d.len d.cap]] w [(0, .a [.o, .o, .o, .s])] K
def C.qdn (a b c:Int) (d:Sl) (K:Option Addr->Int->Pw) (w:World):Prop:=aJ 30 [.agg #[.z a, .z b, .z c, .slice d.a d.len d.cap]] w [(0, .c (.p)),(1, .c (.i .i64))] K
def C.qD (a:Sl) (K:Sl->Pw) (w:World):Prop:=aJ 31 [.slice a.a a.len a.cap] w [(0, .c (.s))] K
def C.qdH (a:Int) (K:Option Addr->Int->Pw) (w:World):Prop:=aJ 32 [.z a] w [(0, .c (.p)),(1, .c (.i .i64))] K
def C.qdo (a:Int) (K:Option Addr->Int->Pw) (w:World):Prop:=aJ 33 [.z a] w [(0, .c (.p)),(1, .c (.i .i64))] K
def C.qdT (a:Int) (K:Option Addr->Int->Pw) (w:World):Prop:=aJ 34 [.z a] w [(0, .c (.p)),(1, .c (.i .i64))] K
def C.qcS (a:Int) (K:Bool->Pw) (w:World):Prop:=aJ 36 [.z a] w [(0, .c (.b))] K
def C.qaK (a:Option Addr) (b c:Int) (K:Int->Int->Int->Int->Int->Int->Sl->Int->Int->Bool->Bool->Pw) (w:World):Prop:=aJ 37 [.pointer a, .z b, .z c] w [(0, .a [.o, .o, .o, .o, .u, .o, .s, .o, .o, .b]),(1, .c (.b))] K
def C.qav (a:Option Addr) (b:Int) (K:Bool->Pw) (w:World):Prop:=aJ 38 [.pointer a, .z b] w [(0, .c (.b))] K
def C.qar (a:Option Addr) (b:Int) (K:Int->Pw) (w:World):Prop:=aJ 39 [.pointer a, .z b] w [(0, .c (.i .i64))] K
def C.qbh (a:Option Addr) (b:Int) (K:Bool->Int->Pw) (w:World):Prop:=aJ 40 [.pointer a, .z b] w [(0, .c (.b)),(1, .c (.i .i64))] K
def C.qaW (a:Option Addr) (b:Int) (K:Int->Int->Int->Int->Int->Int->Sl->Int->Int->Bool->Pw) (w:World):Prop:=aJ 41 [.pointer a, .z b] w [(0, .a [.o, .o, .o, .o, .u, .o, .s, .o, .o, .b])] K
def C.qas (a:Option Addr) (b:Int) (K:Int->Pw) (w:World):Prop:=aJ 42 [.pointer a, .z b] w [(0, .c (.i .i64))] K
def C.qcD (a b c:Int) (d:Sl) (K:Int->Int->Int->Sl->Pw) (w:World):Prop:=aJ 43 [.agg #[.z a, .y b, .z c, .slice d.a d.len d.cap]] w [(0, .a [.o, .u, .o, .s])] K
def C.qbU (a:Option Addr) (K:Int->Bool->Pw) (w:World):Prop:=aJ 44 [.pointer a] w [(0, .c (.i .i64)),(1, .c (.b))] K
def C.qci (a:Option Addr) (b:Int) (K:Int->Int->Bool->Int->Pw) (w:World):Prop:=aJ 45 [.pointer a, .z b] w [(0, .c (.i .i64)),(1, .c (.i .u64)),(2, .c (.b)),(3, .c (.i .i64))] K
def C.qX (a:Option Addr) (b c:Int) (K:Int->Pw) (w:World):Prop:=aJ 46 [.pointer a, .z b, .y c] w [(0, .c (.i .i64))] K
def C.qaL (a:Option Addr) (b:Int) (K:Bool->Pw) (w:World):Prop:=aJ 47 [.pointer a, .z b] w [(0, .c (.b))] K
def C.qat (a:Option Addr) (b c d e f g:Int) (h:Sl) (i j:Int) (k:Bool) (K:Bool->Pw) (w:World):Prop:=aJ 48 [.pointer a, .agg #[.z b, .z c, .z d, .z e, .y f, .z g, .slice h.a h.len h.cap, .z i, .z j, .bool k]] w [(0, .c (.b))] K
def C.qam (a:Sl) (K:Pw) (w:World):Prop:=aJ 49 [.slice a.a a.len a.cap] w [] K
def C.qbl (a:Option Addr) (K:Sl->Pw) (w:World):Prop:=aJ 50 [.pointer a] w [(0, .c (.s))] K
def C.qdc (a b c:Int) (d:Sl) (K:Bool->Pw) (w:World):Prop:=aJ 51 [.agg #[.z a, .z b, .z c, .slice d.a d.len d.cap]] w [(0, .c (.b))] K
def C.qds (K:Option Addr->Pw) (w:World):Prop:=aJ 52 [] w [(0, .c (.p))] K
def C.qdA (K:Option Addr->Pw) (w:World):Prop:=aJ 53 [] w [(0, .c (.p))] K
def C.qcr (K:Option Addr->Pw) (w:World):Prop:=aJ 54 [] w [(0, .c (.p))] K
def C.qdp (a:Int) (K:Option Addr->Int->Pw) (w:World):Prop:=aJ 55 [.z a] w [(0, .c (.p)),(1, .c (.i .i64))] K
def C.qdU (a:Int) (K:Option Addr->Int->Pw) (w:World):Prop:=aJ 56 [.z a] w [(0, .c (.p)),(1, .c (.i .i64))] K
def C.qbt (a:Option Addr) (b:Int) (K:Int->Int->Pw) (w:World):Prop:=aJ 57 [.pointer a, .z b] w [(0, .c (.i .i64)),(1, .c (.i .i64))] K
def C.qQ (a:Option Addr) (b c d:Int) (K:Int->Pw) (w:World):Prop:=aJ 58 [.pointer a, .z b, .z c, .z d] w [(0, .c (.i .i64))] K
def C.qN (a:Option Addr) (b c:Int) (K:Int->Int->Pw) (w:World):Prop:=aJ 59 [.pointer a, .z b, .z c] w [(0, .c (.i .i64)),(1, .c (.i .i64))] K
def C.qG (a:Option Addr) (b:Int) (K:Int->Pw) (w:World):Prop:=aJ 60 [.pointer a, .z b] w [(0, .c (.i .i64))] K
def C.qO (a:Option Addr) (b:Int) (K:Int->Bool->Pw) (w:World):Prop:=aJ 61 [.pointer a, .z b] w [(0, .c (.i .i64)),(1, .c (.b))] K
def C.qdd (a:Option Addr) (b c:Int) (K:Int->Int->Bool->Pw) (w:World):Prop:=aJ 63 [.pointer a, .z b, .z c] w [(0, .a [.o, .o]),(1, .c (.b))] K
def C.qaM (a:Option Addr) (b:Int) (K:Int->Int->Bool->Pw) (w:World):Prop:=aJ 64 [.pointer a, .z b] w [(0, .a [.o, .o]),(1, .c (.b))] K
def C.qde (a:Option Addr) (b c d e:Int) (K:Pw) (w:World):Prop:=aJ 65 [.pointer a, .agg #[.z b, .z c, .z d, .z e]] w [] K
def C.qbm (a:Option Addr) (b:Int) (K:Int->Int->Int->Bool->Pw) (w:World):Prop:=aJ 66 [.pointer a, .z b] w [(0, .a [.o, .o, .o]),(1, .c (.b))] K
def C.qcE (a:Option Addr) (b c:Int) (K:Bool->Pw) (w:World):Prop:=aJ 67 [.pointer a, .z b, .z c] w [(0, .c (.b))] K
def C.qcF (a:Option Addr) (b:Int) (K:Bool->Pw) (w:World):Prop:=aJ 68 [.pointer a, .z b] w [(0, .c (.b))] K
def C.qdk (a:Option Addr) (K:Bool->Pw) (w:World):Prop:=aJ 69 [.pointer a] w [(0, .c (.b))] K
def C.qbV (a:Option Addr) (b c d e f g h:Int) (K:Int->Int->Int->Sl->Pw) (w:World):Prop:=aJ 70 [.pointer a, .z b, .agg #[.z c, .z d, .z e, .z f, .z g, .z h]] w [(0, .a [.o, .u, .o, .s])] K
def C.qbF (a:Option Addr) (b c d:Int) (K:Int->Pw) (w:World):Prop:=aJ 71 [.pointer a, .z b, .z c, .z d] w [(0, .c (.i .i64))] K
def C.qE (a:Sl) (K:Sl->Pw) (w:World):Prop:=aJ 72 [.slice a.a a.len a.cap] w [(0, .c (.s))] K
def C.qp (a:Sl) (b:Value) (K:Int->Pw) (w:World):Prop:=aJ 73 [.slice a.a a.len a.cap,b] w [(0, .c (.i .i64))] K
def C.qbW (a:Option Addr) (K:Bool->Pw) (w:World):Prop:=aJ 74 [.pointer a] w [(0, .c (.b))] K
def C.qcf (a:Option Addr) (b:Int) (K:Option Addr->Pw) (w:World):Prop:=aJ 75 [.pointer a, .z b] w [(0, .c (.p))] K
def C.qaN (a:Option Addr) (b:Int) (K:Int->Int->Bool->Pw) (w:World):Prop:=aJ 76 [.pointer a, .y b] w [(0, .c (.i .i64)),(1, .c (.i .u64)),(2, .c (.b))] K
def C.qA (a:Option Addr) (b c d:Int) (K:Int->Pw) (w:World):Prop:=aJ 77 [.pointer a, .z b, .z c, .y d] w [(0, .c (.i .i64))] K
def C.qY (a:Option Addr) (b:Int) (K:Int->Bool->Pw) (w:World):Prop:=aJ 78 [.pointer a, .z b] w [(0, .c (.i .i64)),(1, .c (.b))] K
def C.qaf (a:Option Addr) (b:Int) (K:Bool->Pw) (w:World):Prop:=aJ 79 [.pointer a, .z b] w [(0, .c (.b))] K
def C.qak (a:Option Addr) (b:Int) (K:Option Addr->Bool->Pw) (w:World):Prop:=aJ 80 [.pointer a, .z b] w [(0, .c (.p)),(1, .c (.b))] K
def C.qdt (a b c:Int) (d:Sl) (e f g:Int) (h:Sl) (K:Bool->Pw) (w:World):Prop:=aJ 81 [.agg #[.z a, .y b, .z c, .slice d.a d.len d.cap], .agg #[.z e, .y f, .z g, .slice h.a h.len h.cap]] w [(0, .c (.b))] K
def C.qbX (a:Option Addr) (b:Int) (c:Option Addr) (K:Pw) (w:World):Prop:=aJ 82 [.pointer a, .z b, .pointer c] w [] K
def C.qbu (a:Option Addr) (K:Sl->Pw) (w:World):Prop:=aJ 83 [.pointer a] w [(0, .c (.s))] K
def C.qcT (a:Int) (K:Bool->Pw) (w:World):Prop:=aJ 84 [.z a] w [(0, .c (.b))] K
def C.qy (a:Sl) (b:Value) (K:Bool->Pw) (w:World):Prop:=aJ 85 [.slice a.a a.len a.cap,b] w [(0, .c (.b))] K
def C.qaw (a:Sl) (b:Int) (K:Sl->Pw) (w:World):Prop:=aJ 86 [.slice a.a a.len a.cap, .z b] w [(0, .c (.s))] K
def C.qdD (K:Option Addr->Pw) (w:World):Prop:=aJ 87 [] w [(0, .c (.p))] K
def C.qbR (a:Option Addr) (b c d e f g h i:Int) (K:Int->Pw) (w:World):Prop:=aJ 88 [.pointer a, .agg #[.z b, .z c], .agg #[.z d, .z e, .z f, .y g, .y h, .z i]] w [(0, .c (.i .i64))] K
def C.qcx (a:Option Addr) (b c:Int) (K:Int->Pw) (w:World):Prop:=aJ 89 [.pointer a, .agg #[.z b, .z c]] w [(0, .c (.i .i64))] K
def C.qcG (a:Int) (K:Bool->Pw) (w:World):Prop:=aJ 90 [.z a] w [(0, .c (.b))] K
def C.qZ (a:Option Addr) (b:Int) (K:Bool->Pw) (w:World):Prop:=aJ 91 [.pointer a, .z b] w [(0, .c (.b))] K
def C.qx (a:Option Addr) (b:Int) (K:Option Addr->Pw) (w:World):Prop:=aJ 92 [.pointer a, .z b] w [(0, .c (.p))] K
def C.qH (a:Option Addr) (b:Int) (K:Pw) (w:World):Prop:=aJ 93 [.pointer a, .z b] w [] K
def C.qbY (a:Option Addr) (K:Int->Bool->Pw) (w:World):Prop:=aJ 94 [.pointer a] w [(0, .c (.i .i64)),(1, .c (.b))] K
def C.qi (a:Option Addr) (b c:Int) (K:Pw) (w:World):Prop:=aJ 95 [.pointer a, .z b, .z c] w [] K
def C.qdN (a b c d:Int) (e:Sl) (K:Bool->Pw) (w:World):Prop:=aJ 96 [.agg #[.z a, .z b, .z c, .z d], .slice e.a e.len e.cap] w [(0, .c (.b))] K
def C.qdO (a:Int) (K:Value->Pw) (w:World):Prop:=aJ 97 [.z a] w [(0, .c (.v))] K
def C.qdP (a:Int) (K:Value->Pw) (w:World):Prop:=aJ 98 [.z a] w [(0, .c (.v))] K
def C.qaX (a:Option Addr) (b:Int) (K:Sl->Pw) (w:World):Prop:=aJ 99 [.pointer a, .z b] w [(0, .c (.s))] K
def C.qt (a:Sl) (b:Value) (K:Int->Pw) (w:World):Prop:=aJ 100 [.slice a.a a.len a.cap,b] w [(0, .c (.i .i64))] K
def C.qaT (a b c:Int) (d:Addr) (K:Bool->Pw) (w:World):Prop:=aJ 101 [.agg #[.z a, .z b, .z c], .pointer (some d)] w [(0, .c (.b))] K
def C.qcH (a:Option Addr) (b:Sl) (K:Int->Pw) (w:World):Prop:=aJ 102 [.pointer a, .slice b.a b.len b.cap] w [(0, .c (.i .i64))] K
def C.qB (a:Sl) (b c:Int) (K:Sl->Pw) (w:World):Prop:=aJ 103 [.slice a.a a.len a.cap, .z b, .z c] w [(0, .c (.s))] K
def C.qbv (a:Option Addr) (b:Int) (K:Bool->Pw) (w:World):Prop:=aJ 104 [.pointer a, .z b] w [(0, .c (.b))] K
def C.qC (a:Sl) (b c:Int) (K:Sl->Pw) (w:World):Prop:=aJ 105 [.slice a.a a.len a.cap, .z b, .z c] w [(0, .c (.s))] K
def C.qbn (a:Option Addr) (K:Int->Pw) (w:World):Prop:=aJ 106 [.pointer a] w [(0, .c (.i .i64))] K
def C.qbo (a:Option Addr) (b c d:Int) (e:Sl) (K:Int->Pw) (w:World):Prop:=aJ 107 [.pointer a, .agg #[.z b, .z c, .z d], .slice e.a e.len e.cap] w [(0, .c (.i .i64))] K
def C.qax (a:Sl) (b c:Int) (K:Sl->Pw) (w:World):Prop:=aJ 108 [.slice a.a a.len a.cap, .z b, .z c] w [(0, .c (.s))] K
def C.qbC (a:Sl) (K:Int->Pw) (w:World):Prop:=aJ 109 [.slice a.a a.len a.cap] w [(0, .c (.i .i64))] K
def C.qbD (a:Bool) (b:Int) (K:Int->Pw) (w:World):Prop:=aJ 110 [.bool a, .z b] w [(0, .c (.i .i64))] K
def C.qF (a b:Sl) (K:Bool->Pw) (w:World):Prop:=aJ 111 [.slice a.a a.len a.cap, .slice b.a b.len b.cap] w [(0, .c (.b))] K
def C.qJ (a b:Value) (K:Sl->Pw) (w:World):Prop:=aJ 112 [a,b] w [(0, .c (.s))] K
def C.qc (a:Option Nat) (K:Value->Pw) (w:World):Prop:=aJ 113 [.map a] w [(0, .c (.v))] K
def C.qdB (a1:Int) (a2:Int) (b3:Int) (b4:Int) (K:Int->Pw) (w:World):Prop:=okF Tryz.prog 114 (Calls Tryz.prog 114 #[.agg #[.z a1, .z a2], .agg #[.z b3, .z b4]] w fun en w'=>∃r5,en= .returned (.z r5)/\K r5 w')
def C.qs (a:Sl) (b:Value) (K:Int->Pw) (w:World):Prop:=aJ 115 [.slice a.a a.len a.cap,b] w [(0, .c (.i .i64))] K
def C.qcM (a b:Int) (K:Int->Int->Pw) (w:World):Prop:=aJ 116 [.y a, .y b] w [(0, .c (.i .u64)),(1, .c (.i .u64))] K
def C.qcY (a b c d e f:Int) (K:Int->Pw) (w:World):Prop:=aJ 117 [.agg #[.z a, .z b, .z c, .y d, .y e, .z f]] w [(0, .c (.i .i64))] K
def C.qW (a:Option Addr) (b c:Int) (K:Bool->Pw) (w:World):Prop:=aJ 118 [.pointer a, .agg #[.z b, .z c]] w [(0, .c (.b))] K
def C.qU (a:Option Addr) (b c:Int) (K:Int->Pw) (w:World):Prop:=aJ 119 [.pointer a, .agg #[.z b, .z c]] w [(0, .c (.i .i64))] K
def C.qcj (a:Option Addr) (b c:Int) (K:Int->Pw) (w:World):Prop:=aJ 120 [.pointer a, .z b, .z c] w [(0, .c (.i .i64))] K
def C.qdE (a b c d:Int) (K:Int->Pw) (w:World):Prop:=aJ 121 [.agg #[.y a, .y b, .y c, .y d]] w [(0, .c (.i .i64))] K
def C.qbZ (a:Option Addr) (b:Int) (K:Int->Pw) (w:World):Prop:=aJ 122 [.pointer a, .z b] w [(0, .c (.i .i64))] K
def C.qb (a:Sl) (b:Value) (K:Bool->Pw) (w:World):Prop:=aJ 123 [.slice a.a a.len a.cap,b] w [(0, .c (.b))] K
def C.qdL (a:Value) (b:Addr) (K:Bool->Pw) (w:World):Prop:=aJ 124 [a, .pointer (some b)] w [(0, .c (.b))] K
def C.qdQ (a b c d:Int) (e:Addr) (K:Bool->Pw) (w:World):Prop:=aJ 125 [.agg #[.z a, .z b, .z c, .z d], .pointer (some e)] w [(0, .c (.b))] K
def C.qdR (a b c d:Int) (e:Addr) (K:Bool->Pw) (w:World):Prop:=aJ 126 [.agg #[.z a, .z b, .z c, .z d], .pointer (some e)] w [(0, .c (.b))] K
def C.qaU (a:Sl) (b:Int) (K:Bool->Pw) (w:World):Prop:=aJ 127 [.slice a.a a.len a.cap, .z b] w [(0, .c (.b))] K
def C.qaO (a:Option Addr) (K:Sl->Pw) (w:World):Prop:=aJ 128 [.pointer a] w [(0, .c (.s))] K
def C.qr (a:Sl) (b:Value) (K:Sl->Pw) (w:World):Prop:=aJ 129 [.slice a.a a.len a.cap,b] w [(0, .c (.s))] K
def C.qcU (a b c d:Int) (e:Addr) (K:Bool->Pw) (w:World):Prop:=aJ 130 [.agg #[.z a, .z b, .z c, .z d], .pointer (some e)] w [(0, .c (.b))] K
def C.qdf (a:Int) (K:Int->Int->Pw) (w:World):Prop:=aJ 131 [.z a] w [(0, .a [.o, .o])] K
def C.qa (a:Option Addr) (b c:Int) (K:Int->Int->Int->Int->Int->Int->Int->Int->Bool->Pw) (w:World):Prop:=aJ 132 [.pointer a, .z b, .z c] w [(0, .a [.o, .o]),(1, .a [.o, .o, .o, .u, .u, .o]),(2, .c (.b))] K
def C.qaY (a:Option Addr) (K:Int->Pw) (w:World):Prop:=aJ 133 [.pointer a] w [(0, .c (.i .i64))] K
def C.qbG (a:Option Addr) (K:Int->Pw) (w:World):Prop:=aJ 134 [.pointer a] w [(0, .c (.i .i64))] K
def C.qbH (a:Option Addr) (K:Int->Pw) (w:World):Prop:=aJ 135 [.pointer a] w [(0, .c (.i .i64))] K
def C.qaZ (a:Option Addr) (K:Int->Pw) (w:World):Prop:=aJ 136 [.pointer a] w [(0, .c (.i .i64))] K
def C.qdJ (d1:Option Addr) (K:Int->Pw) (w:World):Prop:=okF Tryz.prog 137 (Calls Tryz.prog 137 #[.pointer d1] w fun en w'=>∃r2,en= .returned (.z r2)/\K r2 w')
def C.qba (a:Option Addr) (K:Int->Pw) (w:World):Prop:=aJ 138 [.pointer a] w [(0, .c (.i .i64))] K
def C.qaP (a:Option Addr) (K:Int->Pw) (w:World):Prop:=aJ 139 [.pointer a] w [(0, .c (.i .i64))] K
def C.qbI (a:Option Addr) (K:Int->Pw) (w:World):Prop:=aJ 140 [.pointer a] w [(0, .c (.i .i64))] K
def C.qbJ (a:Option Addr) (K:Int->Pw) (w:World):Prop:=aJ 141 [.pointer a] w [(0, .c (.i .i64))] K
def C.qbK (a:Option Addr) (K:Int->Pw) (w:World):Prop:=aJ 142 [.pointer a] w [(0, .c (.i .i64))] K
def C.qan (a:Option Addr) (K:Int->Pw) (w:World):Prop:=aJ 143 [.pointer a] w [(0, .c (.i .i64))] K
def C.qbL (a:Option Addr) (K:Int->Pw) (w:World):Prop:=aJ 144 [.pointer a] w [(0, .c (.i .i64))] K
def C.qbp (a:Option Addr) (K:Int->Pw) (w:World):Prop:=aJ 145 [.pointer a] w [(0, .c (.i .i64))] K
def C.qbb (a:Option Addr) (K:Int->Pw) (w:World):Prop:=aJ 146 [.pointer a] w [(0, .c (.i .i64))] K
def C.qbq (a:Option Addr) (K:Int->Pw) (w:World):Prop:=aJ 147 [.pointer a] w [(0, .c (.i .i64))] K
def C.qbM (a:Option Addr) (K:Int->Pw) (w:World):Prop:=aJ 148 [.pointer a] w [(0, .c (.i .i64))] K
def C.qca (a:Option Addr) (K:Int->Pw) (w:World):Prop:=aJ 149 [.pointer a] w [(0, .c (.i .i64))] K
def C.qbw (a:Int) (b:Addr) (K:Bool->Pw) (w:World):Prop:=aJ 150 [.z a, .pointer (some b)] w [(0, .c (.b))] K
def C.qz (a:Sl) (b:Value) (K:Int->Pw) (w:World):Prop:=aJ 151 [.slice a.a a.len a.cap,b] w [(0, .c (.i .i64))] K
def C.qcI (a:Int) (K:Bool->Pw) (w:World):Prop:=aJ 152 [.z a] w [(0, .c (.b))] K
def C.qaB (a:Value) (K:Sl->Pw) (w:World):Prop:=aJ 153 [a] w [(0, .c (.s))] K
def C.qcn (x1:Sl) (cmp2:Value) (K:Pw) (w:World):Prop:=okF Tryz.prog 154 (Calls Tryz.prog 154 #[.slice x1.a x1.len x1.cap,cmp2] w fun en w'=>en= .returned (.tuple #[])/\K w')
def C.qdu (a:Sl) (K:Int->Pw) (w:World):Prop:=aJ 156 [.slice a.a a.len a.cap] w [(0, .c (.i .i64))] K
def C.qbS (a b:Int) (K:Int->Pw) (w:World):Prop:=aJ 157 [.z a, .z b] w [(0, .c (.i .i64))] K
def C.qcJ (a b:Int) (K:Int->Int->Pw) (w:World):Prop:=aJ 159 [.y a, .y b] w [(0, .c (.i .u64)),(1, .c (.i .u64))] K
def C.qcZ (a:Int) (K:Bool->Pw) (w:World):Prop:=aJ 160 [.z a] w [(0, .c (.b))] K
def C.qdv (a b:Int) (K:Bool->Pw) (w:World):Prop:=aJ 161 [.y a, .z b] w [(0, .c (.b))] K
def C.qcK (a:Int) (K:Bool->Pw) (w:World):Prop:=aJ 162 [.z a] w [(0, .c (.b))] K
def C.qda (a:Int) (K:Bool->Pw) (w:World):Prop:=aJ 163 [.z a] w [(0, .c (.b))] K
def C.qbx (a:Option Addr) (b:Int) (K:Int->Bool->Pw) (w:World):Prop:=aJ 164 [.pointer a, .z b] w [(0, .c (.i .i64)),(1, .c (.b))] K
def C.qq (a:Sl) (b:Value) (K:Int->Pw) (w:World):Prop:=aJ 165 [.slice a.a a.len a.cap,b] w [(0, .c (.i .i64))] K
def C.qch (a b c:Int) (d:Addr) (K:Bool->Pw) (w:World):Prop:=aJ 166 [.agg #[.z a, .z b, .z c], .pointer (some d)] w [(0, .c (.b))] K
def C.qby (a:Option Addr) (b:Int) (K:Pw) (w:World):Prop:=aJ 167 [.pointer a, .z b] w [] K
def C.qck (a:Int) (K:Int->Pw) (w:World):Prop:=aJ 168 [.y a] w [(0, .c (.i .i64))] K
def C.qL (a:Sl) (b:Value) (K:Sl->Pw) (w:World):Prop:=aJ 169 [.slice a.a a.len a.cap,b] w [(0, .c (.s))] K
def C.qcb (a:Int) (b:Addr) (K:Bool->Pw) (w:World):Prop:=aJ 170 [.z a, .pointer (some b)] w [(0, .c (.b))] K
def C.qe (a:Sl) (b:Value) (K:Int->Pw) (w:World):Prop:=aJ 171 [.slice a.a a.len a.cap,b] w [(0, .c (.i .i64))] K
def C.qP (a:Int) (b:Option Nat) (K:Sl->Pw) (w:World):Prop:=aJ 172 [.agg #[.z a, .map b]] w [(0, .c (.s))] K
def C.qu (a:Sl) (b:Value) (K:Int->Pw) (w:World):Prop:=aJ 173 [.slice a.a a.len a.cap,b] w [(0, .c (.i .i64))] K
def C.qao (a:Option Addr) (b:Int) (K:Int->Int->Bool->Pw) (w:World):Prop:=aJ 174 [.pointer a, .z b] w [(0, .a [.o, .o]),(1, .c (.b))] K
def C.qV (a:Option Addr) (b c:Int) (K:Int->Int->Int->Int->Int->Int->Int->Pw) (w:World):Prop:=aJ 175 [.pointer a, .agg #[.z b, .z c]] w [(0, .a [.o, .o, .o, .u, .u, .o]),(1, .c (.i .i64))] K
def C.qcs (a b c d e f:Int) (K:Sl->Int->Int->Int->Int->Pw) (w:World):Prop:=aJ 176 [.agg #[.y a, .z b, .y c], .z d, .z e, .z f] w [(0, .c (.s)),(1, .a [.u, .o, .u]),(2, .c (.i .i64))] K
def C.qay (a:Option Addr) (b:Int) (K:Sl->Int->Pw) (w:World):Prop:=aJ 177 [.pointer a, .z b] w [(0, .c (.s)),(1, .c (.i .i64))] K
def C.qbf (a:Option Addr) (b c d e f g h i:Int) (K:Pw) (w:World):Prop:=aJ 178 [.pointer a, .agg #[.z b, .z c], .agg #[.z d, .z e, .z f, .y g, .y h, .z i]] w [] K
def C.qbN (a:Option Addr) (b:Int) (K:Int->Pw) (w:World):Prop:=aJ 179 [.pointer a, .y b] w [(0, .c (.i .i64))] K
def C.qdw (a b c d e f g h:Int) (K:Int->Int->Int->Int->Int->Int->Int->Pw) (w:World):Prop:=aJ 180 [.agg #[.z a, .z b, .z c, .y d, .y e, .z f], .z g, .y h] w [(0, .a [.o, .o, .o, .u, .u, .o]),(1, .c (.i .i64))] K
def C.qcc (a:Option Addr) (b c d e:Int) (K:Int->Pw) (w:World):Prop:=aJ 181 [.pointer a, .agg #[.z b, .z c], .agg #[.z d, .z e]] w [(0, .c (.i .i64))] K
def C.qcy (a:Option Addr) (b c d e:Int) (K:Int->Pw) (w:World):Prop:=aJ 182 [.pointer a, .agg #[.z b, .z c], .agg #[.z d, .z e]] w [(0, .c (.i .i64))] K
def C.qaz (a:Option Addr) (b c:Int) (K:Pw) (w:World):Prop:=aJ 183 [.pointer a, .agg #[.z b, .z c]] w [] K
def C.qcl (a:Option Addr) (b c:Int) (K:Sl->Pw) (w:World):Prop:=aJ 184 [.pointer a, .agg #[.z b, .z c]] w [(0, .c (.s))] K
def C.qI (a:Sl) (K:Value->Pw) (w:World):Prop:=aJ 185 [.slice a.a a.len a.cap] w [(0, .c (.v))] K
def C.qcN (a b c:Int) (K:Int->Int->Int->Pw) (w:World):Prop:=aJ 186 [.agg #[.y a, .z b, .y c]] w [(0, .a [.u, .o, .u])] K
def C.qau (a:Option Addr) (b:Int) (K:Int->Int->Int->Int->Int->Int->Int->Int->Int->Int->Int->Int->Int->Pw) (w:World):Prop:=aJ 187 [.pointer a, .z b] w [(0, .a [.o, .o, .o, .o, .u, .u, .u, .u, .u, .u, .u, .u]),(1, .c (.i .i64))] K
def C.qah (a:Option Addr) (b:Int) (K:Pw) (w:World):Prop:=aJ 188 [.pointer a, .z b] w [] K
def C.qap (a:Option Addr) (b:Int) (K:Int->Pw) (w:World):Prop:=aJ 189 [.pointer a, .z b] w [(0, .c (.i .i64))] K
def C.qK (a:Option Addr) (b:Int) (K:Int->Pw) (w:World):Prop:=aJ 190 [.pointer a, .z b] w [(0, .c (.i .i64))] K
def C.qaQ (a:Option Addr) (b c:Int) (K:Int->Pw) (w:World):Prop:=aJ 191 [.pointer a, .z b, .z c] w [(0, .c (.i .i64))] K
def C.qaa (a:Option Addr) (b c d e f g h:Int) (i j:Bool) (K:Bool->Int->Int->Int->Int->Int->Int->Int->Int->Bool->Int->Pw) (w:World):Prop:=aJ 192 [.pointer a, .z b, .agg #[.z c, .y d, .y e, .y f, .y g, .y h, .bool i], .bool j] w [(0, .a [.b, .o, .o, .o, .u, .u, .u, .u, .u, .b]),(1, .c (.i .i64))] K
def C.qaA (a:Option Addr) (K:Pw) (w:World):Prop:=aJ 193 [.pointer a] w [] K
def C.qbg (a:Option Addr) (b c d e f g h:Int) (i:Bool) (K:Pw) (w:World):Prop:=aJ 194 [.pointer a, .z b, .agg #[.z c, .y d, .y e, .y f, .y g, .y h, .bool i]] w [] K
def C.qab (a:Option Addr) (b:Int) (c:Bool) (K:Bool->Int->Int->Int->Int->Int->Int->Int->Int->Bool->Int->Pw) (w:World):Prop:=aJ 195 [.pointer a, .z b, .bool c] w [(0, .a [.b, .o, .o, .o, .u, .u, .u, .u, .u, .b]),(1, .c (.i .i64))] K
def C.qbr (a:Option Addr) (b:Int) (c:Bool) (K:Int->Bool->Int->Pw) (w:World):Prop:=aJ 196 [.pointer a, .z b, .bool c] w [(0, .c (.i .u64)),(1, .c (.b)),(2, .c (.i .i64))] K
def C.qbs (a:Option Addr) (b c:Int) (K:Int->Pw) (w:World):Prop:=aJ 197 [.pointer a, .z b, .z c] w [(0, .c (.i .i64))] K
def C.qbz (a:Option Addr) (b c d:Int) (K:Int->Pw) (w:World):Prop:=aJ 198 [.pointer a, .z b, .agg #[.z c, .z d]] w [(0, .c (.i .i64))] K
def C.qaq (a:Option Addr) (b:Int) (K:Int->Int->Int->Pw) (w:World):Prop:=aJ 199 [.pointer a, .z b] w [(0, .a [.o, .o]),(1, .c (.i .i64))] K
def C.qac (a:Option Addr) (b c d e:Int) (K:Pw) (w:World):Prop:=aJ 200 [.pointer a, .z b, .agg #[.z c, .z d, .z e]] w [] K
def C.qcz (a:Option Addr) (b c d:Int) (K:Int->Pw) (w:World):Prop:=aJ 201 [.pointer a, .z b, .z c, .y d] w [(0, .c (.i .i64))] K
def C.qcO (a:Option Addr) (b:Int) (K:Int->Int->Bool->Int->Pw) (w:World):Prop:=aJ 202 [.pointer a, .z b] w [(0, .c (.i .i64)),(1, .c (.i .u64)),(2, .c (.b)),(3, .c (.i .i64))] K
def C.qdi (s1:Sl) (seq2:Value) (K:Sl->Pw) (w:World):Prop:=okF Tryz.prog 203 (Calls Tryz.prog 203 #[.slice s1.a s1.len s1.cap,seq2] w fun en w'=>∃r3:Sl,en= .returned (.slice r3.a r3.len r3.cap)/\K r3 w')
def C.qct (a:Int) (K:Bool->Pw) (w:World):Prop:=aJ 206 [.z a] w [(0, .c (.b))] K
def C.qdx (a:Int) (K:Int->Int->Pw) (w:World):Prop:=aJ 207 [.z a] w [(0, .c (.i .u64)),(1, .c (.i .i64))] K
def C.qdF (a b c d e:Int) (f:Bool) (K:Int->Int->Int->Int->Int->Pw) (w:World):Prop:=aJ 208 [.agg #[.y a, .y b, .y c, .y d], .z e, .bool f] w [(0, .a [.u, .u, .u, .u]),(1, .c (.i .i64))] K
def C.qdj (seq1:Value) (K:Sl->Pw) (w:World):Prop:=okF Tryz.prog 209 (Calls Tryz.prog 209 #[seq1] w fun en w'=>∃r2:Sl,en= .returned (.slice r2.a r2.len r2.cap)/\K r2 w')
def C.qR (m1:Option Nat) (K:Value->Pw) (w:World):Prop:=okF Tryz.prog 210 (Calls Tryz.prog 210 #[.map m1] w fun en w'=>∃r2:Value,en= .returned (r2)/\K r2 w')
def C.qdb (a:Option Addr) (b c d e f g h i:Int) (K:Int->Int->Int->Pw) (w:World):Prop:=aJ 211 [.pointer a, .agg #[.z b, .z c, .z d, .y e, .y f, .z g], .y h, .z i] w [(0, .a [.o, .o]),(1, .c (.i .i64))] K
def C.qcP (a b c:Int) (K:Int->Pw) (w:World):Prop:=aJ 212 [.agg #[.y a, .z b, .y c]] w [(0, .c (.i .i64))] K
def C.qdg (a b:Int) (K:Int->Int->Pw) (w:World):Prop:=aJ 213 [.z a, .z b] w [(0, .c (.i .i64)),(1, .c (.i .i64))] K
def C.qdI (a b:Int) (K:Int->Int->Pw) (w:World):Prop:=aJ 214 [.y a, .z b] w [(0, .c (.i .u64)),(1, .c (.i .i64))] K
def C.qbc (a b:Int) (c:Addr) (K:Bool->Pw) (w:World):Prop:=aJ 215 [.agg #[.z a, .z b], .pointer (some c)] w [(0, .c (.b))] K
def C.ql (a:Sl) (b:Value) (K:Bool->Pw) (w:World):Prop:=aJ 216 [.slice a.a a.len a.cap,b] w [(0, .c (.b))] K
def C.qcQ (a:Option Addr) (b c d e:Int) (K:Int->Pw) (w:World):Prop:=aJ 217 [.pointer a, .agg #[.z b, .z c], .agg #[.z d, .z e]] w [(0, .c (.i .i64))] K
def C.qdh (K:Option Addr->Pw) (w:World):Prop:=aJ 218 [] w [(0, .c (.p))] K
def C.qdy (K:Option Addr->Pw) (w:World):Prop:=aJ 219 [] w [(0, .c (.p))] K
def C.qcA (a:Option Addr) (b c:Int) (K:Int->Pw) (w:World):Prop:=aJ 220 [.pointer a, .agg #[.z b, .z c]] w [(0, .c (.i .i64))] K
def C.qbA (a:Option Addr) (b c:Int) (K:Int->Int->Int->Int->Int->Int->Int->Pw) (w:World):Prop:=aJ 221 [.pointer a, .agg #[.z b, .z c]] w [(0, .a [.o, .o, .o, .u, .u, .o]),(1, .c (.i .i64))] K
def C.qm (a:Sl) (b:Value) (K:Bool->Pw) (w:World):Prop:=aJ 222 [.slice a.a a.len a.cap,b] w [(0, .c (.b))] K
def C.qbd (a b c d e f g h:Int) (i:Addr) (K:Bool->Pw) (w:World):Prop:=aJ 223 [.agg #[.z a, .z b, .z c, .z d, .z e, .y f, .y g, .z h], .pointer (some i)] w [(0, .c (.b))] K
def C.qdG (a b c d e f g h i j k l:Int) (K:Bool->Pw) (w:World):Prop:=aJ 224 [.agg #[.z a, .z b, .z c, .y d, .y e, .z f], .agg #[.z g, .z h, .z i, .y j, .y k, .z l]] w [(0, .c (.b))] K
def C.qbO (a:Option Addr) (b c d e f g:Int) (K:Pw) (w:World):Prop:=aJ 225 [.pointer a, .agg #[.z b, .z c, .z d, .y e, .y f, .z g]] w [] K
def C.qco (a:Sl) (K:Sl->Pw) (w:World):Prop:=aJ 226 [.slice a.a a.len a.cap] w [(0, .c (.s))] K
def C.qcu (a:Option Addr) (b:Int) (K:Int->Pw) (w:World):Prop:=aJ 227 [.pointer a, .z b] w [(0, .c (.i .i64))] K
def C.qae (a:Option Addr) (b:Int) (K:Bool->Pw) (w:World):Prop:=aJ 229 [.pointer a, .z b] w [(0, .c (.b))] K
def C.qaR (a:Option Addr) (b:Int) (K:Bool->Pw) (w:World):Prop:=aJ 230 [.pointer a, .z b] w [(0, .c (.b))] K
def C.qS (a:Option Addr) (b:Int) (K:Bool->Pw) (w:World):Prop:=aJ 231 [.pointer a, .z b] w [(0, .c (.b))] K
def C.qT (a:Option Addr) (b:Bool) (K:Int->Int->Int->Int->Int->Int->Int->Bool->Bool->Pw) (w:World):Prop:=aJ 232 [.pointer a, .bool b] w [(0, .a [.o, .o, .u, .u, .u, .u, .u, .b]),(1, .c (.b))] K
def C.qad (a:Option Addr) (b c d e f g h:Int) (i j:Bool) (K:Pw) (w:World):Prop:=aJ 233 [.pointer a, .agg #[.z b, .z c, .y d, .y e, .y f, .y g, .y h, .bool i], .bool j] w [] K
def C.qag (a:Option Addr) (b:Int) (K:Int->Pw) (w:World):Prop:=aJ 234 [.pointer a, .z b] w [(0, .c (.i .i64))] K
def C.qaj (a:Sl) (b:Int) (K:Bool->Pw) (w:World):Prop:=aJ 235 [.slice a.a a.len a.cap, .z b] w [(0, .c (.b))] K
def C.qcp (a:Int) (K:Bool->Pw) (w:World):Prop:=aJ 236 [.z a] w [(0, .c (.b))] K
def C.qbB (a:Int) (b:Option Nat) (c:Addr) (K:Bool->Pw) (w:World):Prop:=aJ 237 [.agg #[.z a, .map b], .pointer (some c)] w [(0, .c (.b))] K
def C.qf (a:Sl) (b:Value) (K:Bool->Pw) (w:World):Prop:=aJ 238 [.slice a.a a.len a.cap,b] w [(0, .c (.b))] K
def C.qcC (a:Int) (K:Bool->Pw) (w:World):Prop:=aJ 239 [.z a] w [(0, .c (.b))] K
def C.qcR (a:Int) (K:Bool->Pw) (w:World):Prop:=aJ 240 [.z a] w [(0, .c (.b))] K
def C.qbi (a:Option Addr) (b:Int) (K:Option Addr->Bool->Pw) (w:World):Prop:=aJ 241 [.pointer a, .z b] w [(0, .c (.p)),(1, .c (.b))] K
def C.qbP (a:Option Addr) (b:Int) (K:Int->Int->Bool->Pw) (w:World):Prop:=aJ 242 [.pointer a, .z b] w [(0, .a [.o, .o]),(1, .c (.b))] K
def C.qcB (a:Int) (K:Int->Pw) (w:World):Prop:=aJ 252 [.z a] w [(0, .c (.i .u64))] K
def C.qdM (a:Int) (K:Bool->Pw) (w:World):Prop:=aJ 253 [.z a] w [(0, .c (.b))] K
def C.qdq (a:Option Addr) (b c d e f g:Int) (h:Value) (K:Int->Int->Int->Pw) (w:World):Prop:=aJ 257 [.pointer a, .agg #[.z b, .z c, .z d, .y e, .y f, .z g],h] w [(0, .a [.o, .o]),(1, .c (.i .i64))] K
def C.qcd (a:Option Addr) (b:Int) (K:Int->Bool->Pw) (w:World):Prop:=aJ 258 [.pointer a, .z b] w [(0, .c (.i .u64)),(1, .c (.b))] K
def C.qbT (a b c d:Int) (K:Int->Int->Pw) (w:World):Prop:=aJ 259 [.z a, .z b, .z c, .z d] w [(0, .c (.i .i64)),(1, .c (.i .i64))] K
def C.qcv (K:Int->Int->Int->Int->Int->Int->Int->Int->Int->Int->Pw) (w:World):Prop:=aJ 260 [] w [(0, .a [.o, .o, .o, .o, .o, .o, .o, .o, .o, .o])] K
def C.qv (a:Sl) (b:Value) (K:Int->Pw) (w:World):Prop:=aJ 262 [.slice a.a a.len a.cap,b] w [(0, .c (.i .i64))] K
def C.qn (a:Sl) (b:Int) (c:Sl) (K:Sl->Pw) (w:World):Prop:=aJ 263 [.slice a.a a.len a.cap, .z b, .slice c.a c.len c.cap] w [(0, .c (.s))] K
def C.qo (a:Sl) (b c:Int) (K:Sl->Pw) (w:World):Prop:=aJ 264 [.slice a.a a.len a.cap, .z b, .z c] w [(0, .c (.s))] K
def C.qw (a:Sl) (b:Value) (K:Int->Pw) (w:World):Prop:=aJ 265 [.slice a.a a.len a.cap,b] w [(0, .c (.i .i64))] K
def C.qbe (a:Option Addr) (b:Int) (K:Sl->Pw) (w:World):Prop:=aJ 266 [.pointer a, .z b] w [(0, .c (.s))] K
def C.qce (a:Option Addr) (b:Int) (K:Int->Bool->Pw) (w:World):Prop:=aJ 267 [.pointer a, .z b] w [(0, .c (.i .i64)),(1, .c (.b))] K
def C.qbQ (a:Option Addr) (b:Int) (K:Sl->Int->Pw) (w:World):Prop:=aJ 268 [.pointer a, .z b] w [(0, .c (.s)),(1, .c (.i .i64))] K
def C.qh (a:Sl) (b:Value) (K:Sl->Pw) (w:World):Prop:=aJ 269 [.slice a.a a.len a.cap,b] w [(0, .c (.s))] K
def C.qai (a b c d e f g:Int) (h:Bool) (i:Addr) (K:Bool->Pw) (w:World):Prop:=aJ 270 [.agg #[.z a, .z b, .y c, .y d, .y e, .y f, .y g, .bool h], .pointer (some i)] w [(0, .c (.b))] K
def C.qaV (a:Int) (b:Addr) (K:Bool->Pw) (w:World):Prop:=aJ 271 [.z a, .pointer (some b)] w [(0, .c (.b))] K
def C.qg (a:Sl) (b:Value) (K:Bool->Pw) (w:World):Prop:=aJ 272 [.slice a.a a.len a.cap,b] w [(0, .c (.b))] K
def C.qal (a b c d e f g:Int) (h:Bool) (i:Addr) (K:Bool->Pw) (w:World):Prop:=aJ 273 [.agg #[.z a, .z b, .y c, .y d, .y e, .y f, .y g, .bool h], .pointer (some i)] w [(0, .c (.b))] K
def C.qj (a:Sl) (b c:Int) (K:Sl->Pw) (w:World):Prop:=aJ 274 [.slice a.a a.len a.cap, .z b, .z c] w [(0, .c (.s))] K
def C.qaS (a:Sl) (b:Int) (K:Int->Pw) (w:World):Prop:=aJ 275 [.slice a.a a.len a.cap, .z b] w [(0, .c (.i .i64))] K
def C.qk (a:Sl) (b:Value) (K:Int->Pw) (w:World):Prop:=aJ 276 [.slice a.a a.len a.cap,b] w [(0, .c (.i .i64))] K
def C.qcg (a b c:Int) (K:Int->Int->Pw) (w:World):Prop:=aJ 277 [.y a, .z b, .z c] w [(0, .c (.i .u64)),(1, .c (.i .i64))] K
def C.qdr (a:Option Addr) (b c d e f g:Int) (K:Int->Bool->Pw) (w:World):Prop:=aJ 285 [.pointer a, .agg #[.z b, .z c, .z d, .y e, .y f, .z g]] w [(0, .c (.i .i64)),(1, .c (.b))] K
def C.qdV (s1:Sl) (r2:Int) (K:Pw) (w:World):Prop:=okF Tryz.prog 287 (Calls Tryz.prog 287 #[.slice s1.a s1.len s1.cap, .z r2] w fun en w'=>en= .returned (.tuple #[])/\K w')
def C.qd (a:Sl) (b:Value) (K:Int->Pw) (w:World):Prop:=aJ 288 [.slice a.a a.len a.cap,b] w [(0, .c (.i .i64))] K
def C.qcq (a b:Int) (K:Bool->Pw) (w:World):Prop:=aJ 289 [.z a, .z b] w [(0, .c (.b))] K
end Go.Proofs.YtlhljbbfckbjpaaGreat
end
section
set_option maxRecDepth 8000
namespace Go.Proofs.YtlhljbbfckbjpaaGreat
open Go Go.Vc Go.Proofs
def cA:cQ Nat:=⟨1,fun p=>[.pointer (some ⟨p,0,none⟩)],fun _=>rfl,fun x v h=>by
 simp only[List.mem_cons,List.not_mem_nil,or_false] at h;subst h;rfl,by decide⟩
def ar {α:Type} (A:Nat->α->aA) (ps:List Nat) (xs:List α):aA:=pV fun _:Unit=>bh (dX (ps.length=xs.length)::List.zipWith A ps xs)
section
variable {B:Nat} {w0 w:World} {R:List aA} {α:Type} {A:Nat->α->aA} {ps:List Nat} {xs:List α}
theorem _root_.Go.Vc.Ow.zX (h:Ow B w0 w (ar A ps xs::R)):ps.length=xs.length/\Ow B w0 w (List.zipWith A ps xs++R):=by
 obtain ⟨_,h⟩:=h.ex;exact Ow.pure h.star
theorem _root_.Go.Vc.Ow.iH (hl:ps.length=xs.length) (h:Ow B w0 w (List.zipWith A ps xs++R)):Ow B w0 w (ar A ps xs::R):=
 Ow.eP () (Ow.aY (Ow.dN hl h))
theorem FD {p:Nat} {x:α} {j:Nat} (hp:ps[j]?=some p) (hx:xs[j]?=some x) (R:List aA):(List.zipWith A ps xs++R)[j]?=some (A p x):=by
 have h1:=(List.getElem?_eq_some_iff.1 hp).1;have h2:=(List.getElem?_eq_some_iff.1 hx).1;rw[List.getElem?_append_left (by simp;omega),List.getElem?_zipWith,hp,hx]
theorem _root_.Go.Vc.Ow.pt (h:Ow B w0 w (ar A ps xs::R)) {j:Nat} {p:Nat} {x:α} (hp:ps[j]?=some p) (hx:xs[j]?=some x):
  Ow B w0 w (A p x::((List.zipWith A ps xs).eraseIdx j++R)):=by
 obtain ⟨hl,h⟩:=h.zX;have h1:=(List.getElem?_eq_some_iff.1 hp).1;have:=h.take j (FD hp hx R)
 rwa [List.eraseIdx_append_of_lt_length (by simp;omega)] at this
theorem y6 {p:Nat} {x':α}:∀(ps:List Nat) (xs:List α) (j:Nat),ps[j]?=some p->List.zipWith A ps (xs.set j x')=(List.zipWith A ps xs).set j (A p x')
 | [],xs,j,h=>by simp at h
 |_::_,[],j,_=>by cases j<;>simp
 |s::ps,r::xs,0,h=>by simp at h;subst h;simp
 |s::ps,r::xs,j+1,h=>by simp[y6 ps xs j (by simpa using h)]
theorem _root_.Go.Vc.Ow.wy {j:Nat} {p:Nat} {x':α} (hl:ps.length=xs.length) (hp:ps[j]?=some p) (h:Ow B w0 w (A p x'::((List.zipWith A ps xs).eraseIdx j++R))):
  Ow B w0 w (ar A ps (xs.set j x')::R):=by
 have hj:=(List.getElem?_eq_some_iff.1 hp).1;refine Ow.iH (by simp[hl]) ?_;rw[y6 _ _ _ hp];have hj':j<(List.zipWith A ps xs).length:=by simp;omega
 have h2:Ow B w0 w (A p x'::(List.zipWith A ps xs++R).eraseIdx j):=by rwa [List.eraseIdx_append_of_lt_length hj']
 have:=h2.put (by simp;omega)
 rwa [List.set_append_left _ _ hj'] at this
theorem vu {p:Nat} {x:α}:∀(ps:List Nat) (xs:List α),ps.length=xs.length->List.zipWith A (ps++ [p]) (xs++ [x])=List.zipWith A ps xs++ [A p x]
 | [],[],_=>rfl
 | [],_::_,h=>by simp at h
 |_::_,[],h=>by simp at h
 |a::ps,b::xs,h=>by simp[vu ps xs (by simpa using h)]
theorem _root_.Go.Vc.Ow.pz {p:Nat} {x:α} (h:Ow B w0 w (A p x::ar A ps xs::R)):Ow B w0 w (ar A (ps++ [p]) (xs++ [x])::R):=by
 have h2:Ow B w0 w (ar A ps xs::A p x::R):=h.perm (List.Perm.swap _ _ _);obtain ⟨hl,h3⟩:=h2.zX;refine Ow.iH (by simp[hl]) ?_;rw[vu _ _ hl,List.append_assoc];exact h3
theorem _root_.Go.Vc.Ow.eQ (h:Ow B w0 w (ar A ps xs::R)):ps.length=xs.length:=h.zX.1
end
section
variable {B:Nat} {w0 w:World} {R L:List aA} {α:Type} {E:cQ α} {s:Sl} {xs:List α}
theorem Ay {T el t:TypeId} {inf:TypeInfo} {zv:Value} {K:Sl->World->Prop} [I:bT s L α E xs]
  (hu:Tryz.prog.underlying T=some (.slice el)) (hi:Tryz.prog.info? el=some inf) (hz:inf.zero=some zv) (hsz:inf.size=E.z) (hzc:zv.cells.size=E.z) (hb:1≤inf.bytes)
  (h:Ow B w0 w L) (hbig:(17*xs.length+16000)*inf.bytes≤2^48) (hK:∀s' w',Ow B w0 w' (ah E s' xs::L)->K s' w'):
  bif s.a.isNone then (K ⟨none,0,0⟩ w) else (Al w (.cells #[] t) fun w2=>∃(t3:Sl) (w4:World),bo Tryz.prog [T,T] T (.slice (some (Addr.mk w.heap.size 0 none)) 0 0) (.slice s.a s.len s.cap) w2 t3 w4/\K t3 w4):=by
 have hlen:=h.br s;cases hn:s.a with
 |none=>
  refine bN rfl ?_
  have hx:xs= []:=by
   cases xs with
   |nil=>rfl
   |cons x xs=>obtain ⟨_,_,ha,_⟩:=h.get I.i I.at_ (j:=0) (x:=x) rfl;rw[hn] at ha;cases ha
  subst hx;exact hK _ w (Ow.dK h)
 |some a=>
  refine bD rfl ?_;refine h.al fun w' h=>?_
  generalize w.heap.size=b at h⊢;have h2:Ow B w0 w' (ah E ⟨some (Addr.mk b 0 none),0,0⟩ []::L):=Ow.empty h;have hx2:=h2.vg (I.i+1) (by simpa using I.at_);rw[←hn];exact Ow.app (s:=⟨some (Addr.mk b 0 none),0,0⟩) (xs:=[]) (ys:=xs) hu hi hz hsz hzc hb h2 0 rfl hx2 hlen (by simpa using hbig) fun s' w _ h=>hK _ w h
end
section
variable {B:Nat} {w0 w:World} {R L:List aA} {α β:Type} {A:Nat->α->aA}
theorem gV {s:Sl} {ps:List Nat} {j p:Nat} {i:Int} {G:Addr->Prop} [I:bT s L Nat cA ps] (h:Ow B w0 w L) (hij:i=(j:Int)) (hj:ps[j]?=some p)
  (hG:∀a,s.a=some a->w.cell? (a.add (i.toNat*1))=some (.pointer (some ⟨p,0,none⟩))->G a):∃a,s.a=some a/\0≤i/\i<(s.len:Int)/\G a:=
 h.dZ (s:=s) hij hj fun a ha h0 _=>hG a ha (h0 _ rfl)
end
end Go.Proofs.YtlhljbbfckbjpaaGreat
end
