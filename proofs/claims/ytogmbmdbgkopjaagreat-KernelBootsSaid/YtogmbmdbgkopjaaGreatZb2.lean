/- What the row rests on: the declarations that it needs, out of my texts (part 2). -/
import Derived.Test.YtogmbmdbgkopjaaGreatZb1
import Derived.ChangeKeysEq
import Derived.Deep.Slices
import Derived.Laws.StructEq
import Derived.Lib.Overlaps
import Derived.Lib.SmallJoins
import Derived.Maps.RangeRun
import Derived.ProofKit
import Derived.Test.YtogmbmdbgkopjaaGreatProg
import Derived.WideKeyRuns
set_option linter.unusedVariables false
set_option linter.unusedSimpArgs false
set_option linter.unusedSectionVars false
section
namespace Go.Vc
open Go
def Blk (w:World) (b:Nat) (l:List Value):Prop:=∃t,w.heap[b]?=some (.cells ⟨l⟩ t (0,0))
def MBlk (w:World) (b:Nat) (es:Array MapEntry) (c:Nat):Prop:=w.heap[b]?=some (.map es c)
structure Upd (F:Nat->Prop) (w w':World):Prop where
 os:w'.os=w.os
 tape:w'.tape=w.tape
 output:w'.output=w.output
 size:w.heap.size≤w'.heap.size
 block:∀k,k<w.heap.size->¬F k->w'.heap[k]?=w.heap[k]?
abbrev No:Nat->Prop:=fun _=>False
theorem Upd.refl (F:Nat->Prop) (w:World):Upd F w w:=⟨rfl,rfl,rfl,Nat.le_refl _,fun _ _ _=>rfl⟩
theorem Upd.mono {F F':Nat->Prop} {w w':World} (h:Upd F w w') (hf:∀k,k<w.heap.size->F k->F' k):Upd F' w w':=
 ⟨h.os,h.tape,h.output,h.size,fun k hk hn=>h.block k hk (fun hF=>hn (hf k hk hF))⟩
theorem Upd.trans {F F':Nat->Prop} {a b c:World} (h:Upd F a b) (h':Upd F' b c) (hf:∀k,k<a.heap.size->F' k->F k):Upd F a c:=
 ⟨h'.os.trans h.os,h'.tape.trans h.tape,h'.output.trans h.output,Nat.le_trans h.size h'.size,fun k hk hn=>
  (h'.block k (Nat.lt_of_lt_of_le hk h.size) (fun hF=>hn (hf k hk hF))).trans (h.block k hk hn)⟩
theorem Upd.then {F:Nat->Prop} {a b c:World} (h:Upd F a b) (h':Upd F b c):Upd F a c:=h.trans h' fun _ _ h=>h
theorem Upd.no {F:Nat->Prop} {a b c:World} (h:Upd F a b) (h':Upd No b c):Upd F a c:=h.trans h' fun _ _ h=>h.elim
theorem Upd.of_no {F:Nat->Prop} {a b:World} (h:Upd No a b):Upd F a b:=h.mono fun _ _ h=>h.elim
theorem Upd.below {F:Nat->Prop} {w w':World} (h:Upd F w w') {B:Nat} (hB:B≤w.heap.size) (hf:∀k,F k->B≤k):RowKit.Below B w w':=
 ⟨h.os,h.tape,h.output,h.size,fun k hk=>h.block k (by omega) (fun hF=>by have:=hf k hF;omega)⟩
theorem Blk.lt {w:World} {b:Nat} {l:List Value} (h:Blk w b l):b<w.heap.size:=by
 obtain ⟨t,h⟩:=h;exact (Array.getElem?_eq_some_iff.1 h).1
theorem MBlk.lt {w:World} {b:Nat} {es:Array MapEntry} {c:Nat} (h:MBlk w b es c):b<w.heap.size:=(Array.getElem?_eq_some_iff.1 h).1
theorem Blk.upd {F:Nat->Prop} {w w':World} {b:Nat} {l:List Value} (h:Blk w b l) (u:Upd F w w') (hn:¬F b):Blk w' b l:=by
 have:=u.block b h.lt hn;obtain ⟨t,h⟩:=h;exact ⟨t,by rw[this];exact h⟩
theorem MBlk.upd {F:Nat->Prop} {w w':World} {b:Nat} {es:Array MapEntry} {c:Nat} (h:MBlk w b es c) (u:Upd F w w') (hn:¬F b):MBlk w' b es c:=by
 have:=u.block b h.lt hn;unfold MBlk at *;rw[this];exact h
theorem Blk.cell {w:World} {b:Nat} {l:List Value} (h:Blk w b l) (i:Nat):w.cell? ⟨b,i,none⟩=l[i]?:=by
 obtain ⟨t,h⟩:=h;simp[World.cell?,h]
theorem Blk.frozen {w:World} {b:Nat} {l:List Value} (h:Blk w b l) (i:Nat):w.frozen? ⟨b,i,none⟩=false:=by
 obtain ⟨t,h⟩:=h;simp[World.frozen?,h]
theorem add_mk (b o n:Nat):(Addr.mk b o none).add n=⟨b,o+n,none⟩:=by
 unfold Addr.add;by_cases h:n=0
 ·subst h;simp
 ·simp[h]
theorem Blk.cellA {w:World} {b o n:Nat} {l:List Value} {v:Value} (h:Blk w b l) (hv:l[o+n]?=some v):w.cell? ((Addr.mk b o none).add n)=some v:=by
 rw[add_mk,h.cell];exact hv
theorem Blk.cell' {w:World} {b o:Nat} {l:List Value} {v:Value} (h:Blk w b l) (hv:l[o]?=some v):w.cell? (Addr.mk b o none)=some v:=by
 rw[h.cell];exact hv
theorem heap_setCell (w:World) (b i:Nat) (v:Value) (k:Nat):(w.setCell ⟨b,i,none⟩ v).heap[k]?=if k=b then (w.heap[b]?).map (fun o=>match o with| .cells c e f=> .cells (c.setIfInBounds i v) e f|o=>o) else w.heap[k]?:=by
 simp only[World.setCell,Array.getElem?_modify,Option.isSome_none,Bool.false_eq_true,if_false];by_cases h:b=k
 ·subst h;simp only[if_true];rfl
 ·rw[if_neg h,if_neg (fun e=>h e.symm)]
theorem Blk.set {w:World} {b:Nat} {l:List Value} (h:Blk w b l) (i:Nat) (v:Value):Blk (w.setCell ⟨b,i,none⟩ v) b (l.set i v):=by
 obtain ⟨t,h⟩:=h;refine ⟨t,?_⟩;rw[heap_setCell,if_pos rfl,h];simp
theorem upd_setCell (w:World) (b i:Nat) (v:Value):Upd (·=b) w (w.setCell ⟨b,i,none⟩ v):=
 ⟨rfl,rfl,rfl,by simp,fun k _ hn=>by rw[heap_setCell,if_neg hn]⟩
theorem upd_alloc (w:World) (o:Obj):Upd No w (w.alloc o):=
 ⟨rfl,rfl,rfl,by simp,fun k hk _=>by show (w.heap.push o)[k]?=_;rw[Array.getElem?_push,if_neg (by omega)]⟩
theorem upd_heap {w w':World} (h:w'.heap=w.heap) (h1:w'.os=w.os) (h2:w'.tape=w.tape) (h3:w'.output=w.output):Upd No w w':=
 ⟨h1,h2,h3,by rw[h];exact Nat.le_refl _,fun k _ _=>by rw[h]⟩
theorem heap_alloc_new (w:World) (o:Obj):(w.alloc o).heap[w.heap.size]?=some o:=by
 show (w.heap.push o)[w.heap.size]?=_;simp
theorem St.mk' {w:World} {b o:Nat} {v:Value} {k:World->Prop} {l:List Value} (hb:Blk w b l) (ho:o<l.length) (hv:v.oneCell'=true)
  (h:∀w',Upd (·=b) w w'->w'.heap.size=w.heap.size->Blk w' b (l.set o v)->k w'):St w ⟨b,o,none⟩ v k:=by
 refine ⟨?_,hb.frozen o,hv,h _ (upd_setCell w b o v) (by simp) (hb.set o v)⟩;rw[hb.cell,gE ho];rfl
theorem Al.mk' {w:World} {l:List Value} {t:TypeId} {k:World->Prop} (h:∀w',Upd No w w'->w'.heap.size=w.heap.size+1->Blk w' w.heap.size l->k w'):Al w (.cells ⟨l⟩ t) k:=
 h _ (upd_alloc _ _) (by simp) ⟨t,heap_alloc_new _ _⟩
theorem Al.map' {w:World} {k:World->Prop} (h:∀w',Upd No w w'->w'.heap.size=w.heap.size+1->MBlk w' w.heap.size #[] 0->k w'):Al w (.map #[] 0) k:=
 h _ (upd_alloc _ _) (by simp) (heap_alloc_new _ _)
theorem Dr.mk' {w:World} {k:World->Prop} (h:∀w',Upd No w w'->w'.heap=w.heap->k w'):Dr w k:=h w.drew (upd_heap rfl rfl rfl rfl) rfl
inductive SlO (z:Nat) (w:World) (s:Sl) (cs:List Value):Prop
 |nil (ha:s.a=none) (hl:s.len=0) (hc:s.cap=0) (hcs:cs= [])
 |mk (b o:Nat) (l:List Value) (ha:s.a=some ⟨b,o,none⟩) (hb:Blk w b l) (hl:s.len≤s.cap) (hc:o+s.cap*z≤l.length) (hcs:cs=(l.drop o).take (s.len*z))
def Sl.In (s:Sl) (G:Nat->Prop):Prop:=∀a,s.a=some a->G a.block
theorem SlO.length {z:Nat} {w:World} {s:Sl} {cs:List Value} (h:SlO z w s cs):cs.length=s.len*z:=by
 cases h with
 |nil ha hl hc hcs=>simp[hcs,hl]
 |mk b o l ha hb hl hc hcs=>
  have:s.len*z≤s.cap*z:=Nat.mul_le_mul_right z hl;simp[hcs];omega
theorem SlO.upd {F:Nat->Prop} {z:Nat} {w w':World} {s:Sl} {cs:List Value} (h:SlO z w s cs) (u:Upd F w w') (hn:s.In fun k=>¬F k):SlO z w' s cs:=by
 cases h with
 |nil ha hl hc hcs=>exact .nil ha hl hc hcs
 |mk b o l ha hb hl hc hcs=>exact .mk b o l ha (hb.upd u (hn _ ha)) hl hc hcs
theorem SlO.lt {z:Nat} {w:World} {s:Sl} {cs:List Value} (h:SlO z w s cs):s.In (·<w.heap.size):=fun a ha=>by
 cases h with
 |nil h _ _ _=>rw[h] at ha;cases ha
 |mk b o l h hb _ _ _=>rw[h] at ha;cases ha;exact hb.lt
theorem SlO.le_cap {z:Nat} {w:World} {s:Sl} {cs:List Value} (h:SlO z w s cs):s.len≤s.cap:=by
 cases h with
 |nil _ hl _ _=>omega
 |mk _ _ _ _ _ hl _ _=>exact hl
theorem SlO.cell {z:Nat} {w:World} {s:Sl} {cs:List Value} (h:SlO z w s cs) {i:Nat} {v:Value} (hv:cs[i]?=some v):∃b o,s.a=some ⟨b,o,none⟩/\w.cell? ⟨b,o+i,none⟩=some v:=by
 cases h with
 |nil _ _ _ hcs=>rw[hcs] at hv;simp at hv
 |mk b o l ha hb hl hc hcs=>
  refine ⟨b,o,ha,?_⟩;rw[hb.cell];rw[hcs,List.getElem?_take] at hv;split at hv
  ·rw[List.getElem?_drop] at hv;exact hv
  ·cases hv
theorem putAt_get:∀(cs:List Value) (o:Nat) (vs:List Value) (i:Nat),o+vs.length≤cs.length->(putAt cs o vs)[i]?=if o≤i/\i<o+vs.length then vs[i-o]? else cs[i]?
 |cs,o,[],i,_=>by
  have:putAt cs o []=cs:=by cases cs<;>cases o<;>rfl
  rw[this,if_neg (by simp only[List.length_nil];omega)]
 | [],o,v::vs,i,h=>by simp at h
 |c::cs,0,v::vs,0,h=>by simp[putAt]
 |c::cs,0,v::vs,i+1,h=>by
  have:=putAt_get cs 0 vs i (by simp at h⊢;omega);simp only[putAt,List.getElem?_cons_succ];rw[this];simp
 |c::cs,o+1,v::vs,0,h=>by simp[putAt]
 |c::cs,o+1,v::vs,i+1,h=>by
  have:=putAt_get cs o (v::vs) i (by simp at h⊢;omega);simp only[putAt,List.getElem?_cons_succ];rw[this];simp only[List.length_cons] at*
  by_cases hi:o≤i/\i<o+(vs.length+1)
  ·rw[if_pos hi,if_pos (by omega)];congr 1;omega
  ·rw[if_neg hi,if_neg (by omega)]
theorem putAt_nil (cs:List Value) (o:Nat):putAt cs o []=cs:=by cases cs<;>cases o<;>rfl
section
variable {P:Program}
theorem storeCells_run {b:Nat}:∀(vs:List Value) (l:List Value) (o:Nat) (w:World),Blk w b l->o+vs.length≤l.length->(∀v∈vs,v.oneCell'=true)->∀i j,o=j+i->
  ∃w',(storeCells ⟨b,j,none⟩ vs i).run P w= .ok () w'/\Upd (·=b) w w'/\w'.heap.size=w.heap.size/\Blk w' b (putAt l o vs)
 | [],l,o,w,hb,_,_,i,j,_=>⟨w,by simp[storeCells],Upd.refl _ _,rfl,by rw[putAt_nil];exact hb⟩
 |v::vs,l,o,w,hb,hl,hv,i,j,ho=>by
  simp only[List.length_cons] at hl;have hs:St w ⟨b,o,none⟩ v (fun w'=>Upd (·=b) w w'/\w'.heap.size=w.heap.size/\Blk w' b (l.set o v)):=St.mk' hb (by omega) (hv v (by simp)) fun w' h1 h2 h3=>⟨h1,h2,h3⟩
  obtain ⟨h1,h2,h3,h4⟩:=St_sound (P:=P) hs;obtain ⟨w',h5,h6,h7,h8⟩:=storeCells_run vs (l.set o v) (o+1) _ h4 (by simp;omega) (fun u hu=>hv u (by simp[hu])) (i+1) j (by omega);refine ⟨w',?_,h2.then h6,by omega,by rw[putAt_cons];exact h8⟩;simp only[storeCells];rw[Sem.run_bind,show (Addr.mk b j none).add i=⟨b,o,none⟩ from by rw[add_mk,ho],h1];exact h5
theorem firstCells_run {z:Nat} {w:World} {s:Sl} {cs:List Value} (h:SlO z w s cs) (n:Nat) (hn:n≤s.len):(Builtin.firstCells z n (.slice s.a s.len s.cap)).run P w= .ok ⟨cs.take (n*z)⟩ w:=by
 cases h with
 |nil ha hl hc hcs=>
  have:n=0:=by omega
  subst this;simp[Builtin.firstCells,ha]
 |mk b o l ha hb hl hc hcs=>
  have h1:n*z≤s.len*z:=Nat.mul_le_mul_right z hn;have h2:s.len*z≤s.cap*z:=Nat.mul_le_mul_right z hl;have hlen:(cs.take (n*z)).length=n*z:=by rw[hcs];simp;omega
  simp only[Builtin.firstCells,ha];unfold loadCells
  have:=loadCellsFrom_run (P:=P) w ⟨b,o,none⟩ (cs.take (n*z)) 0 #[] (fun j v hj=>by
   rw[nth_eq,List.getElem?_take] at hj;split at hj
   ·rw[hcs,List.getElem?_take] at hj
    split at hj
    ·rw[List.getElem?_drop] at hj
     rw[add_mk,Nat.zero_add,hb.cell];exact hj
    ·cases hj
   ·cases hj)
  rw[hlen] at this;rw[this];simp
end
end Go.Vc
namespace Go.Vc
open Go
theorem growBy_le (n:Nat):∀(r c:Nat),Builtin.growBy n r c≤(c+1000)*2^r
 |0,c=>by simp[Builtin.growBy]
 |r+1,c=>by
  unfold Builtin.growBy;have hp:1≤2^r:=Nat.one_le_two_pow;split
  ·rw[Nat.pow_succ]
   have:c+1000≤(c+1000)*(2^r*2):=by
    have:1≤2^r*2:=by omega
    exact Nat.le_mul_of_pos_right _ (by omega)
   omega
  ·have h:=growBy_le n r (c+(c+768) / 4)
   rw[Nat.pow_succ];have h2:c+(c+768) / 4+1000≤(c+1000)*2:=by omega
   calc _≤(c+(c+768) / 4+1000)*2^r:=h
    _≤((c+1000)*2)*2^r:=Nat.mul_le_mul_right _ h2
    _=(c+1000)*(2^r*2):=by rw[Nat.mul_assoc,Nat.mul_comm 2]
theorem nextcap_le (n c:Nat):Builtin.nextslicecap n c≤n+16*c+16000:=by
 unfold Builtin.nextslicecap;split
 ·omega
 ·split
  ·omega
  ·have h:=growBy_le n 4 c
   simp only[Nat.reducePow] at h;have h2:(c+1000)*16=16*c+16000:=by rw[Nat.add_mul,Nat.mul_comm]
   rw[h2] at h;exact Nat.le_trans h (Nat.add_le_add_right (Nat.le_add_left _ _) _)
structure AppP (z:Nat) (w:World) (s:Sl) (cs:List Value) (s':Sl) (w':World):Prop where
 own:SlO z w' s' cs
 upd:Upd (fun k=>∃a,s.a=some a/\a.block=k) w w'
 size:w'.heap.size≤w.heap.size+1
 here:s'.In fun k=>(∃a,s.a=some a/\a.block=k)∨k=w.heap.size
variable {P:Program}
theorem app_run' {T el:TypeId} {inf:TypeInfo} {zv:Value} {z:Nat} {w:World} {s x:Sl} {cs ds:List Value}
  (hu:P.underlying T=some (.slice el)) (hi:P.info? el=some inf) (hz:inf.zero=some zv) (hsz:inf.size=z) (hzc:zv.cells.size=z) (hb:1≤inf.bytes)
  (hs:SlO z w s cs) (hdl:ds.length=x.len*z) (hnew:∀W:World,W.heap=w.heap->(Builtin.firstCells z x.len (.slice x.a x.len x.cap)).run P W= .ok ⟨ds⟩ W) (hd:∀v∈ds,v.oneCell'=true)
  (hbig:(17*(s.len+x.len)+16000)*inf.bytes≤2^48):
  ∃s' w',AppR P [T,T] T (.slice s.a s.len s.cap) (.slice x.a x.len x.cap) w s' w'/\s'.len=s.len+x.len/\AppP z w s (cs++ds) s' w':=by
 have hsize:∀w,(sizeOf el).run P w= .ok z w:=fun w=>by rw[run_size hi w];simp[sz,hi,hsz]
 have hinfo:∀w,(typeInfo el).run P w= .ok inf w:=fun w=>by simp[typeInfo,hi]
 have hzero:∀w,(zeroValue el).run P w= .ok zv w:=fun w=>by simp[zeroValue,hinfo,hz]
 have hcl:=hs.length;have hcells:=hnew w rfl;by_cases hcap:s.len+x.len≤s.cap
 ·
  by_cases hnone:s.a=none
  ·have hz0:s.len=0/\s.cap=0/\cs= []:=by
    cases hs with
    |nil _ h1 h2 h3=>exact ⟨h1,h2,h3⟩
    |mk b o l h _ _ _ _=>rw[h] at hnone;cases hnone
   have hx0:x.len=0:=by omega
   have hds:ds= []:=by
    apply List.eq_nil_of_length_eq_zero;rw[hdl,hx0];simp
   refine ⟨⟨none,0,0⟩,w,?_,by simp[hz0.1,hx0], .nil rfl rfl rfl (by simp[hz0.2.2,hds]),Upd.refl _ _,by omega,fun a ha=>by cases ha⟩;unfold AppR Builtin.append_;simp only[hnone,hz0.1,hz0.2.1] at*
   subst hds;rw[hx0] at hcells;simp[run_und hu,hsize,Builtin.lenOf,hx0,hcells]
  ·cases hs with
   |nil h _ _ _=>exact absurd h hnone
   |mk b o l ha hbl hl hc hcs=>
    have hmul:(s.len+x.len)*z≤s.cap*z:=Nat.mul_le_mul_right z hcap
    have hroom:o+s.len*z+ds.length≤l.length:=by
     rw[hdl];rw[Nat.add_mul] at hmul;omega
    obtain ⟨w',h1,h2,h3,h4⟩:=storeCells_run (P:=P) ds l (o+s.len*z) w hbl hroom hd 0 (o+s.len*z) (by omega);refine ⟨⟨s.a,s.len+x.len,s.cap⟩,w',?_,rfl,?_,h2.mono fun k _ hk=>⟨_,ha,hk.symm⟩,by omega,fun a h=>?_⟩
    ·unfold AppR Builtin.append_
     simp only[List.getElem?_toArray,List.getElem?_cons_zero,List.getElem?_cons_succ,Sem.run_bind,run_und hu,Result.andThen_ok,hsize,Builtin.lenOf,Sem.run_pure,hcap,if_true,Bool.false_eq_true,if_false,Bool.not_false];rw[hcells];simp only[Result.andThen_ok,ha,add_mk];rw[Sem.run_bind,h1];rfl
    ·refine .mk b o _ ha h4 (by simpa using hcap) (by rw[putAt_length];exact hc) ?_
     apply List.ext_getElem?;intro i;have hsl:s.len*z≤s.cap*z:=Nat.mul_le_mul_right z hl;rw[List.getElem?_take];simp only[Nat.add_mul] at*
     by_cases hi':i<s.len*z+x.len*z
     ·rw[if_pos hi',List.getElem?_drop,putAt_get _ _ _ _ hroom]
      by_cases h5:i<s.len*z
      ·rw[if_neg (by omega),List.getElem?_append_left (by omega),hcs,List.getElem?_take,if_pos h5,List.getElem?_drop]
      ·rw[if_pos (by omega),List.getElem?_append_right (by omega)]
       congr 1;omega
     ·rw[if_neg hi']
      apply List.getElem?_eq_none;simp;omega
    ·exact .inl ⟨a,h,rfl⟩
 ·
  have hlc:=hs.le_cap
  let need:=s.len+x.len
  have hneed:¬need≤s.cap:=hcap
  let q:Question:= .appendCap need s.cap el
  let n:=q.cut (w.tape w.drawn q)
  have hle:=nextcap_le need s.cap
  have hlim:¬(Builtin.nextslicecap need s.cap*inf.bytes>2^48):=by
   have h0:Builtin.nextslicecap need s.cap≤17*(s.len+x.len)+16000:=by
    refine Nat.le_trans hle ?_;show s.len+x.len+16*s.cap+16000≤_;generalize 16000=y;omega
   have:Builtin.nextslicecap need s.cap*inf.bytes≤(17*(s.len+x.len)+16000)*inf.bytes:=Nat.mul_le_mul_right _ h0;omega
  have hneedb:need≤2^48:=by
   have h1:(17*(s.len+x.len)+16000)*1≤(17*(s.len+x.len)+16000)*inf.bytes:=Nat.mul_le_mul_left _ hb;show s.len+x.len≤_;omega
  have hn1:need≤n:=by
   show need≤need+_%_;omega
  let row:List Value:=cs++ds++(Builtin.zeroCells zv.cells (n-need)).toList
  let w':=w.drew.alloc (.cells ⟨row⟩ el)
  have hold:∀W:World,W.heap=w.heap->(Builtin.firstCells z s.len (.slice s.a s.len s.cap)).run P W= .ok ⟨cs⟩ W:=fun W hW=>by
   have hs':SlO z W s cs:=by
    cases hs with
    |nil a b c d=>exact .nil a b c d
    |mk b o l a h c d e=>
     obtain ⟨t,ht⟩:=h;exact .mk b o l a ⟨t,by rw[hW];exact ht⟩ c d e
   rw[firstCells_run hs' s.len (Nat.le_refl _),←hcl,List.take_length]
  refine ⟨⟨some ⟨w.heap.size,0,none⟩,need,n⟩,w',?_,rfl,?_,((upd_heap (w:=w) (w':=w.drew) rfl rfl rfl rfl).no (upd_alloc _ _)).of_no,by simp[w'],fun a h=> .inr (by cases h;rfl)⟩
  ·unfold AppR Builtin.append_
   simp only[List.getElem?_toArray,List.getElem?_cons_zero,List.getElem?_cons_succ,Sem.run_bind,run_und hu,Result.andThen_ok,hsize,Builtin.lenOf,Sem.run_pure,hcap,Bool.false_eq_true,if_false,Bool.not_false,hinfo]
   have hc1:¬(((s.len+x.len:Nat):Int)>IntKind.i64.max/\(False∨inf.bytes=0)):=by
    rintro ⟨_,h|h⟩
    ·exact h
    ·omega
   rw[if_neg hc1,Sem.run_bind,hinfo];simp only[Result.andThen_ok];rw[if_neg hlim,Sem.run_bind,run_choose];have hf:Question.forced (.appendCap (s.len+x.len) s.cap el)=false:=rfl;simp only[hf,Bool.false_eq_true,if_false,Result.andThen_ok,World.drew_eq];rw[Sem.run_bind,hinfo];simp only[Result.andThen_ok];rw[Sem.run_bind,run_askRoom];simp only[Result.andThen_ok];rw[Sem.run_bind,hold w.drew rfl];simp only[Result.andThen_ok,if_true];rw[Sem.run_bind,hnew w.drew rfl];simp only[Result.andThen_ok];rw[Sem.run_bind,hzero];simp only[Result.andThen_ok,newRow,Sem.run_bind,run_newObj,Sem.run_pure]
   have hrow:((⟨cs⟩:Array Value)++⟨ds⟩++Builtin.zeroCells zv.cells (n-need))=⟨row⟩:=by
    apply Array.ext';simp[row]
   show Result.ok (Value.slice (some ⟨w.heap.size,0,none⟩) (s.len+x.len) n) (w.drew.alloc (.cells ((⟨cs⟩:Array Value)++⟨ds⟩++Builtin.zeroCells zv.cells (n-need)) el))=_;rw[hrow]
  ·have hzl:(Builtin.zeroCells zv.cells (n-need)).toList.length=(n-need)*z:=by
    simp[Builtin.zeroCells,hzc]
   have hrl:row.length=n*z:=by
    simp only[row,List.length_append,hcl,hdl,hzl];rw[←Nat.add_mul,←Nat.add_mul];congr 1;show s.len+x.len+(n-(s.len+x.len))=n;have:s.len+x.len≤n:=hn1;omega
   refine .mk w.heap.size 0 row rfl ⟨el,?_⟩ hn1 (by rw[hrl];show 0+n*z≤n*z;omega) ?_
   ·exact heap_alloc_new w.drew _
   ·show cs++ds=(row.drop 0).take ((s.len+x.len)*z)
    have:(s.len+x.len)*z=(cs++ds).length:=by rw[List.length_append,hcl,hdl,Nat.add_mul]
    rw[this,List.drop_zero];simp only[row];rw[List.take_left]
theorem firstCells_all {z:Nat} {w:World} {x:Sl} {ds:List Value} (hx:SlO z w x ds):∀W:World,W.heap=w.heap->(Builtin.firstCells z x.len (.slice x.a x.len x.cap)).run P W= .ok ⟨ds⟩ W:=fun W hW=>by
 have hdl:=hx.length
 have hx':SlO z W x ds:=by
  cases hx with
  |nil a b c d=>exact .nil a b c d
  |mk b o l a h c d e=>
   obtain ⟨t,ht⟩:=h;exact .mk b o l a ⟨t,by rw[hW];exact ht⟩ c d e
 rw[firstCells_run hx' x.len (Nat.le_refl _),←hdl,List.take_length]
end Go.Vc
namespace Go.Vc
open Go
theorem map_erase {α β:Type} (f:α->β):∀(l:List α) (i:Nat),(l.eraseIdx i).map f=(l.map f).eraseIdx i
 | [],_=>rfl
 |_::_,0=>rfl
 |a::l,i+1=>by simp[map_erase f l i]
section
variable {K V:Type} [DecidableEq K]
def mget:List (K × V)->K->Option V
 | [],_=>none
 |(a,v)::l,k=>if a=k then some v else mget l k
def aput:List (K × V)->K->V->List (K × V)
 | [],k,v=>[(k,v)]
 |(a,u)::l,k,v=>if a=k then (a,v)::l else (a,u)::aput l k v
def adel:List (K × V)->K->List (K × V)
 | [],_=>[]
 |(a,u)::l,k=>if a=k then l else (a,u)::adel l k
theorem mget_aput (l:List (K × V)) (k:K) (v:V) (x:K):mget (aput l k v) x=if k=x then some v else mget l x:=by
 induction l with
 |nil=>simp[aput,mget]
 |cons p l ih=>
  obtain ⟨a,u⟩:=p;simp only[aput];by_cases h:a=k
  ·subst h;simp only[if_true,mget];split<;>rfl
  ·simp only[h,if_false,mget,ih]
   by_cases h2:a=x
   ·subst h2;rw[if_pos rfl,if_neg (fun e=>h e.symm)];simp
   ·simp[h2]
theorem mget_mem {l:List (K × V)} {k:K} {v:V} (h:mget l k=some v):(k,v)∈l:=by
 induction l with
 |nil=>cases h
 |cons p l ih=>
  obtain ⟨a,u⟩:=p;simp only[mget] at h;split at h
  ·rename_i e;subst e;cases h;simp
  ·exact List.mem_cons_of_mem _ (ih h)
theorem mget_none {l:List (K × V)} {k:K}:mget l k=none↔k∉l.map (·.1):=by
 induction l with
 |nil=>simp[mget]
 |cons p l ih=>
  obtain ⟨a,u⟩:=p;simp only[mget,List.map_cons,List.mem_cons,not_or];split
  ·rename_i e;subst e;simp
  ·rename_i e;rw[ih];exact ⟨fun h=>⟨fun e'=>e e'.symm,h⟩,fun h=>h.2⟩
theorem mget_adel {l:List (K × V)} (hn:(l.map (·.1)).Nodup) (k x:K):mget (adel l k) x=if k=x then none else mget l x:=by
 induction l with
 |nil=>simp[adel,mget]
 |cons p l ih=>
  obtain ⟨a,u⟩:=p;simp only[List.map_cons,List.nodup_cons] at hn;simp only[adel];by_cases h:a=k
  ·subst h
   simp only[if_true,mget];by_cases h2:a=x
   ·subst h2;rw[if_pos rfl];exact mget_none.2 hn.1
   ·simp[h2]
  ·simp only[h,if_false,mget,ih hn.2]
   by_cases h2:a=x
   ·subst h2;rw[if_pos rfl,if_neg (fun e=>h e.symm)];simp
   ·simp[h2]
theorem keys_aput {l:List (K × V)} (k:K) (v:V) (x:K):x∈(aput l k v).map (·.1)↔x=k∨x∈l.map (·.1):=by
 induction l with
 |nil=>simp[aput]
 |cons p l ih=>
  obtain ⟨a,u⟩:=p;simp only[aput];by_cases h:a=k
  ·subst h;simp
  ·simp only[h,if_false,List.map_cons,List.mem_cons,ih]
   constructor
   ·rintro (h|h|h)<;>simp[h]
   ·rintro (h|h|h)<;>simp[h]
theorem nodup_aput {l:List (K × V)} (hn:(l.map (·.1)).Nodup) (k:K) (v:V):((aput l k v).map (·.1)).Nodup:=by
 induction l with
 |nil=>simp[aput]
 |cons p l ih=>
  obtain ⟨a,u⟩:=p;simp only[List.map_cons,List.nodup_cons] at hn;simp only[aput];by_cases h:a=k
  ·subst h;simpa using hn
  ·simp only[h,if_false,List.map_cons,List.nodup_cons]
   refine ⟨fun hm=>?_,ih hn.2⟩;rcases (keys_aput k v a).1 hm with h1|h1
   ·exact h h1
   ·exact hn.1 h1
theorem adel_sublist (l:List (K × V)) (k:K):(adel l k).Sublist l:=by
 induction l with
 |nil=>exact .slnil
 |cons p l ih=>
  obtain ⟨a,u⟩:=p;simp only[adel];split
  ·exact List.sublist_cons_self _ _
  ·exact ih.cons_cons _
theorem nodup_adel {l:List (K × V)} (hn:(l.map (·.1)).Nodup) (k:K):((adel l k).map (·.1)).Nodup:=List.Nodup.sublist ((adel_sublist l k).map _) hn
end
structure KeyOk (P:Program) (kt:TypeId) {K:Type} [DecidableEq K] (enc:K->Value):Prop where
 check:∀b k w,(Instr.checkKey b 10000 kt (enc k)).run P w= .ok () w
 find:∀(k:K) (es:List MapEntry) (ks:List K) (w:World),es.map (·.key)=ks.map enc->
  (Instr.findKey kt (enc k) es).run P w= .ok ((ks.findIdx? fun x=>decide (x=k)).bind fun i=>(es[i]?).map fun e=>(i,e.val)) w
 same:∀k,Instr.sameBits 10000 (enc k) (enc k)=true
structure MapR {K V:Type} (enc:K->Value) (encV:V->Value) (w:World) (m:Nat) (L:List (K × V)):Prop where
 ex:∃es c,MBlk w m es c/\es.toList.map (fun e=>(e.key,e.val))=L.map (fun p=>(enc p.1,encV p.2))/\(es.toList.map (·.born)).Nodup/\∀e∈es.toList,e.born<c
 nodup:(L.map (·.1)).Nodup
theorem MapR.lt {K V:Type} {enc:K->Value} {encV:V->Value} {w:World} {m:Nat} {L:List (K × V)} (h:MapR enc encV w m L):m<w.heap.size:=by
 obtain ⟨es,c,h,_⟩:=h.ex;exact h.lt
theorem MapR.upd {K V:Type} {enc:K->Value} {encV:V->Value} {F:Nat->Prop} {w w':World} {m:Nat} {L:List (K × V)} (h:MapR enc encV w m L) (u:Upd F w w') (hn:¬F m):MapR enc encV w' m L:=by
 obtain ⟨es,c,h1,h2⟩:=h.ex;exact ⟨⟨es,c,h1.upd u hn,h2⟩,h.nodup⟩
section
variable {P:Program} {T kt el:TypeId} {K V:Type} [DecidableEq K] {enc:K->Value} {encV:V->Value}
theorem run_getObj_map {w:World} {m:Nat} {es:Array MapEntry} {c:Nat} (h:MBlk w m es c):(getObj m).run P w= .ok (.map es c) w:=by
 unfold MBlk at h;simp[getObj,Sem.run,h]
theorem run_setObj_map {w:World} {m:Nat} {es:Array MapEntry} {c:Nat} (h:MBlk w m es c) (o:Obj):(setObj m o).run P w= .ok () { w with heap:=w.heap.setIfInBounds m o}:=by
 unfold MBlk at h;simp[setObj,Sem.run,h]
theorem upd_setObj (w:World) (m:Nat) (o:Obj):Upd (·=m) w { w with heap:=w.heap.setIfInBounds m o}:=
 ⟨rfl,rfl,rfl,by simp,fun k _ hn=>by
  show (w.heap.setIfInBounds m o)[k]?=_;rw[Array.getElem?_setIfInBounds_ne (fun e=>hn e.symm)]⟩
theorem blk_setObj {w:World} {m:Nat} {es:Array MapEntry} {c:Nat} (h:MBlk w m es c) (es':Array MapEntry) (c':Nat):MBlk { w with heap:=w.heap.setIfInBounds m (.map es' c')} m es' c':=by
 have:=h.lt;show (w.heap.setIfInBounds m _)[m]?=_;rw[Array.getElem?_setIfInBounds_self_of_lt this]
theorem findIdx_mget (L:List (K × V)) (k:K):∀v,mget L k=some v↔∃i,(L.map (·.1)).findIdx? (fun x=>decide (x=k))=some i/\L[i]?.map (·.2)=some v:=by
 intro v
 induction L with
 |nil=>simp[mget]
 |cons p l ih=>
  obtain ⟨a,u⟩:=p;simp only[mget,List.map_cons,List.findIdx?_cons];by_cases h:a=k
  ·simp[h]
  ·simp only[h,if_false,decide_false,Bool.false_eq_true,ih]
   constructor
   ·rintro ⟨i,h1,h2⟩;exact ⟨i+1,by simp[h1],by simpa using h2⟩
   ·rintro ⟨i,h1,h2⟩
    simp only[Option.map_eq_some_iff] at h1;obtain ⟨j,h1,rfl⟩:=h1;exact ⟨j,h1,by simpa using h2⟩
theorem findIdx_none (L:List (K × V)) (k:K):mget L k=none↔(L.map (·.1)).findIdx? (fun x=>decide (x=k))=none:=by
 rw[mget_none,List.findIdx?_eq_none_iff];constructor
 ·intro h x hx;simp;intro e;subst e;exact h hx
 ·intro h hx;have:=h k hx;simp at this
theorem entries_key {es:List MapEntry} {L:List (K × V)} (h:es.map (fun e=>(e.key,e.val))=L.map (fun p=>(enc p.1,encV p.2))):es.map (·.key)=(L.map (·.1)).map enc:=by
 have:=congrArg (List.map Prod.fst) h;simpa [Function.comp_def] using this
theorem entries_val {es:List MapEntry} {L:List (K × V)} (h:es.map (fun e=>(e.key,e.val))=L.map (fun p=>(enc p.1,encV p.2))) (i:Nat):(es[i]?).map (·.val)=(L[i]?).map fun p=>encV p.2:=by
 have:=congrArg (fun l=>(l[i]?).map Prod.snd) h;simpa [Function.comp_def] using this
theorem find_some (hk:KeyOk P kt enc) {es:Array MapEntry} {L:List (K × V)} (h:es.toList.map (fun e=>(e.key,e.val))=L.map (fun p=>(enc p.1,encV p.2))) {k:K} {v:V} (hl:mget L k=some v) (w:World):
  ∃i,(Instr.findKey kt (enc k) es.toList).run P w= .ok (some (i,encV v)) w/\(L.map (·.1)).findIdx? (fun x=>decide (x=k))=some i:=by
 obtain ⟨i,h1,h2⟩:=(findIdx_mget L k v).1 hl;refine ⟨i,?_,h1⟩;rw[hk.find k es.toList (L.map (·.1)) w (entries_key h),h1];simp only[Option.bind_some];have hv:=entries_val h i
 have:(L[i]?).map (fun p=>encV p.2)=some (encV v):=by
  have:=congrArg (Option.map encV) h2;simpa [Function.comp_def] using this
 rw[this] at hv;cases he:es.toList[i]? with
 |none=>rw[he] at hv;simp at hv
 |some e=>rw[he] at hv;simp at hv;simp[hv]
theorem find_none (hk:KeyOk P kt enc) {es:Array MapEntry} {L:List (K × V)} (h:es.toList.map (fun e=>(e.key,e.val))=L.map (fun p=>(enc p.1,encV p.2))) {k:K} (hl:mget L k=none) (w:World):
  (Instr.findKey kt (enc k) es.toList).run P w= .ok none w:=by
 rw[hk.find k es.toList (L.map (·.1)) w (entries_key h),(findIdx_none L k).1 hl];rfl
theorem MapR.mget_some (hu:P.underlying T=some (.map kt el)) (hk:KeyOk P kt enc) {w:World} {m:Nat} {L:List (K × V)} (h:MapR enc encV w m L) {k:K} {v:V} (hl:mget L k=some v):
  LkB P T (.map (some m)) (enc k) (encV v) true w/\Lk1 P T (.map (some m)) (enc k) (encV v) w:=by
 obtain ⟨es,c,h1,h2,_⟩:=h.ex;obtain ⟨i,h3,_⟩:=find_some hk h2 hl w;constructor
 ·unfold LkB Instr.lookup
  simp only[Sem.run_bind,run_und hu,Result.andThen_ok,run_getObj_map h1,Sem.run_pure,hk.check,h3,if_true]
 ·unfold Lk1 Instr.lookup
  simp only[Sem.run_bind,run_und hu,Result.andThen_ok,run_getObj_map h1,Sem.run_pure,hk.check,h3,Bool.false_eq_true,if_false]
theorem MapR.mget_none (hu:P.underlying T=some (.map kt el)) (hk:KeyOk P kt enc) {z:Value} (hz:∀w,(zeroValue el).run P w= .ok z w) {w:World} {m:Nat} {L:List (K × V)} (h:MapR enc encV w m L) {k:K} (hl:mget L k=none):
  LkB P T (.map (some m)) (enc k) z false w/\Lk1 P T (.map (some m)) (enc k) z w:=by
 obtain ⟨es,c,h1,h2,_⟩:=h.ex;have h3:=find_none hk h2 hl w;constructor
 ·unfold LkB Instr.lookup
  simp only[Sem.run_bind,run_und hu,Result.andThen_ok,run_getObj_map h1,Sem.run_pure,hk.check,h3,hz,if_true]
 ·unfold Lk1 Instr.lookup
  simp only[Sem.run_bind,run_und hu,Result.andThen_ok,run_getObj_map h1,Sem.run_pure,hk.check,h3,hz,Bool.false_eq_true,if_false]
theorem aput_set:∀(L:List (K × V)) (k:K) (v:V) (i:Nat),(L.map (·.1)).findIdx? (fun x=>decide (x=k))=some i->aput L k v=L.set i (k,v)
 | [],k,v,i,h=>by simp at h
 |(a,u)::l,k,v,i,h=>by
  simp only[List.map_cons,List.findIdx?_cons] at h;simp only[aput];by_cases e:a=k
  ·subst e
   simp only[decide_true,if_true,Option.some.injEq] at h;subst h;simp
  ·simp only[e,decide_false,Bool.false_eq_true,if_false,Option.map_eq_some_iff] at h
   obtain ⟨j,h,rfl⟩:=h;simp[e,aput_set l k v j h]
theorem aput_new:∀(L:List (K × V)) (k:K) (v:V),mget L k=none->aput L k v=L++ [(k,v)]
 | [],k,v,_=>rfl
 |(a,u)::l,k,v,h=>by
  simp only[mget] at h;split at h
  ·cases h
  ·rename_i e;simp[aput,e,aput_new l k v h]
theorem adel_erase:∀(L:List (K × V)) (k:K) (i:Nat),(L.map (·.1)).findIdx? (fun x=>decide (x=k))=some i->adel L k=L.eraseIdx i
 | [],k,i,h=>by simp at h
 |(a,u)::l,k,i,h=>by
  simp only[List.map_cons,List.findIdx?_cons] at h;simp only[adel];by_cases e:a=k
  ·subst e
   simp only[decide_true,if_true,Option.some.injEq] at h;subst h;simp
  ·simp only[e,decide_false,Bool.false_eq_true,if_false,Option.map_eq_some_iff] at h
   obtain ⟨j,h,rfl⟩:=h;simp[e,adel_erase l k j h]
theorem adel_none:∀(L:List (K × V)) (k:K),mget L k=none->adel L k=L
 | [],k,_=>rfl
 |(a,u)::l,k,h=>by
  simp only[mget] at h;split at h
  ·cases h
  ·rename_i e;simp[adel,e,adel_none l k h]
theorem MapR.put (hu:P.underlying T=some (.map kt el)) (hk:KeyOk P kt enc) {w:World} {m:Nat} {L:List (K × V)} (h:MapR enc encV w m L) (k:K) (v:V):
  ∃w',UpdR P T (.map (some m)) (enc k) (encV v) w w'/\Upd (·=m) w w'/\w'.heap.size=w.heap.size/\MapR enc encV w' m (aput L k v):=by
 obtain ⟨es,c,h1,h2,h3,h4⟩:=h.ex;cases hl:mget L k with
 |some u=>
  obtain ⟨i,h5,h6⟩:=find_some hk h2 hl w
  have hi:i<L.length:=by
   have:=(List.findIdx?_eq_some_iff_getElem.1 h6).1;simpa using this
  have hlen:es.size=L.length:=by have:=congrArg List.length h2;simpa using this
  have hkey:((es[i]?).map (·.key)).getD (enc k)=enc k:=by
   have h7:=congrArg (fun l=>l[i]?) (entries_key h2);obtain ⟨h8,h9,_⟩:=List.findIdx?_eq_some_iff_getElem.1 h6;have h9:L[i].1=k:=by simpa using h9
   simp only[List.getElem?_map,Array.getElem?_toList,gE hi,Option.map_some,h9] at h7;rw[h7];rfl
  refine ⟨_,?_,upd_setObj w m _,by simp,⟨⟨_,_,blk_setObj h1 (es.modify i fun e=>{ e with key:=enc k,val:=encV v}) c,?_,?_,?_⟩,nodup_aput h.nodup k v⟩⟩
  ·unfold UpdR Instr.mapUpdate
   simp only[Sem.run_bind,run_und hu,Result.andThen_ok,run_getObj_map h1,hk.check,h5,hkey,Instr.keyThatStays,hk.same,if_true,Sem.run_pure];exact run_setObj_map h1 _
  ·rw[aput_set L k v i h6]
   apply List.ext_getElem?;intro j;have h7:=congrArg (fun l=>l[j]?) h2;simp only[List.getElem?_map,Array.getElem?_toList,Array.getElem?_modify,List.getElem?_set] at h7⊢;by_cases e:i=j
   ·subst e
    have:i<es.size:=by omega
    simp[hi,this]
   ·simp only[e,if_false];exact h7
  ·have:(es.modify i fun e=>{ e with key:=enc k,val:=encV v}).toList.map (·.born)=es.toList.map (·.born):=by
    apply List.ext_getElem?;intro j;simp only[List.getElem?_map,Array.getElem?_toList,Array.getElem?_modify];by_cases e:i=j
    ·subst e;cases es[i]?<;>simp
    ·simp[e]
   rw[this];exact h3
  ·intro e he
   obtain ⟨j,hj⟩:=List.mem_iff_getElem?.1 he;simp only[Array.getElem?_toList,Array.getElem?_modify] at hj;by_cases e':i=j
   ·subst e'
    simp only[if_true,Option.map_eq_some_iff] at hj;obtain ⟨x,hx,rfl⟩:=hj;exact h4 x (List.mem_iff_getElem?.2 ⟨i,by simpa using hx⟩)
   ·simp only[e',if_false] at hj
    exact h4 e (List.mem_iff_getElem?.2 ⟨j,by simpa using hj⟩)
 |none=>
  have h5:=find_none hk h2 hl w;refine ⟨_,?_,upd_setObj w m _,by simp,⟨⟨_,_,blk_setObj h1 (es.push { key:=enc k,val:=encV v,born:=c}) (c+1),?_,?_,?_⟩,nodup_aput h.nodup k v⟩⟩
  ·unfold UpdR Instr.mapUpdate
   simp only[Sem.run_bind,run_und hu,Result.andThen_ok,run_getObj_map h1,hk.check,h5];exact run_setObj_map h1 _
  ·rw[aput_new L k v hl]
   simp[h2]
  ·simp only[Array.toList_push,List.map_append,List.map_cons,List.map_nil]
   rw[List.nodup_append];refine ⟨h3,by simp,?_⟩;intro a ha b hb;simp only[List.mem_singleton] at hb;subst hb;obtain ⟨e,he,rfl⟩:=List.mem_map.1 ha;have:=h4 e he;omega
  ·intro e he
   simp only[Array.toList_push,List.mem_append,List.mem_singleton] at he;rcases he with he|he
   ·have:=h4 e he;omega
   ·subst he;show c<c+1;omega
theorem MapR.del (hu:P.underlying T=some (.map kt el)) (hk:KeyOk P kt enc) {w:World} {m:Nat} {L:List (K × V)} {t:TypeId} {ts:List TypeId} (h:MapR enc encV w m L) (k:K):
  ∃w',DelR P (T::ts) t (.map (some m)) (enc k) w w'/\Upd (·=m) w w'/\w'.heap.size=w.heap.size/\MapR enc encV w' m (adel L k):=by
 obtain ⟨es,c,h1,h2,h3,h4⟩:=h.ex;cases hl:mget L k with
 |some u=>
  obtain ⟨i,h5,h6⟩:=find_some hk h2 hl w;refine ⟨_,?_,upd_setObj w m _,by simp,⟨⟨_,_,blk_setObj h1 (es.eraseIdxIfInBounds i) c,?_,?_,?_⟩,nodup_adel h.nodup k⟩⟩
  ·unfold DelR Builtin.delete_
   simp only[List.getElem?_toArray,List.getElem?_cons_zero,List.getElem?_cons_succ,Sem.run_bind,run_und hu,Result.andThen_ok,run_getObj_map h1,hk.check,h5];rw[run_setObj_map h1];rfl
  ·rw[adel_erase L k i h6]
   simp only[Array.toList_eraseIdxIfInBounds];rw[map_erase,map_erase,h2]
  ·simp only[Array.toList_eraseIdxIfInBounds]
   rw[map_erase];exact List.Nodup.sublist (List.eraseIdx_sublist _ _) h3
  ·intro e he
   simp only[Array.toList_eraseIdxIfInBounds] at he;exact h4 e ((List.eraseIdx_sublist _ _).mem he)
 |none=>
  have h5:=find_none hk h2 hl w;refine ⟨_,?_,upd_setObj w m _,by simp,⟨⟨_,_,blk_setObj h1 es c,?_,h3,h4⟩,nodup_adel h.nodup k⟩⟩
  ·unfold DelR Builtin.delete_
   simp only[List.getElem?_toArray,List.getElem?_cons_zero,List.getElem?_cons_succ,Sem.run_bind,run_und hu,Result.andThen_ok,run_getObj_map h1,hk.check,h5];rw[run_setObj_map h1];rfl
  ·rw[adel_none L k hl];exact h2
theorem keyOk_int (j:IntKind) (hu:P.underlying kt=some (.int j)):KeyOk P kt (fun n:Int=>Value.int j n):=by
 have hfind:∀(k:Int) (es:List MapEntry) (ks:List Int) (i:Nat),es.map (·.key)=ks.map (fun n=>Value.int j n)->
   Instr.findNow (.int j) (.int j k) es i=some ((ks.findIdx? fun x=>decide (x=k)).bind fun q=>(es[q]?).map fun e=>(q+i,e.val)):=by
  intro k es
  induction es with
  |nil=>intro ks i h;cases ks with
   |nil=>rfl
   |cons _ _=>simp at h
  |cons e es ih=>
   intro ks i h;cases ks with
   |nil=>simp at h
   |cons x ks=>
    simp only[List.map_cons,List.cons.injEq] at h;simp only[Instr.findNow,h.1,Instr.sameNow,if_true];by_cases hx:x=k
    ·subst hx;simp[List.findIdx?_cons]
    ·have:(k==x)=false:=by simpa using fun e=>hx e.symm
     rw[this];simp only[ih ks (i+1) h.2,List.findIdx?_cons,hx,decide_false,Bool.false_eq_true,if_false];cases hq:ks.findIdx? (fun x=>decide (x=k)) with
     |none=>rfl
     |some q=>
      simp only[Option.bind_some,Option.map_some,List.getElem?_cons_succ];congr 2;funext e;congr 1;omega
 refine ⟨fun b k w=>?_,fun k es ks w h=>?_,fun k=>by unfold Instr.sameBits;simp⟩
 ·unfold Instr.checkKey
  rw[Sem.run_bind,run_und hu];rfl
 ·unfold Instr.findKey
  rw[Sem.run_bind,run_und hu];simp only[Result.andThen_ok,hfind k es ks 0 h,Nat.add_zero];rfl
end
end Go.Vc
namespace Go.Vc
open Go
structure Asn where
 holds:(Nat->Prop)->World->Prop
 loc:∀(G:Nat->Prop) (w w':World),holds G w->(∀k,G k->w'.heap[k]?=w.heap[k]?)->holds G w'
 up:∀(G G':Nat->Prop) (w:World),holds G w->(∀k,G k->G' k)->holds G' w
def Held (B:Nat) (w:World) (L:List Asn):Prop:=
 ∃Z:List (Asn ×(Nat->Prop)),Z.map (·.1)=L/\(∀p∈Z,p.1.holds p.2 w/\∀k,p.2 k->B≤k/\k<w.heap.size)/\Z.Pairwise fun p q=>∀k,p.2 k->¬q.2 k
structure Own (B:Nat) (w0 w:World) (L:List Asn):Prop where
 base:B≤w0.heap.size
 upd:Upd (B≤·) w0 w
 held:Held B w L
section
variable {B:Nat} {w0 w:World} {L R:List Asn}
theorem Own.size (h:Own B w0 w L):B≤w.heap.size:=Nat.le_trans h.base h.upd.size
theorem Own.below (h:Own B w0 w L):RowKit.Below B w0 w:=h.upd.below h.base fun _ h=>h
theorem Own.start (w:World):Own w.heap.size w w []:=⟨Nat.le_refl _,Upd.refl _ _,[],rfl,by simp, .nil⟩
theorem Held.take (h:Held B w L) (i:Nat) {A:Asn} (hi:L[i]?=some A):Held B w (A::L.eraseIdx i):=by
 obtain ⟨Z,h1,h2,h3⟩:=h;subst h1;rw[List.getElem?_map] at hi;cases hz:Z[i]? with
 |none=>rw[hz] at hi;cases hi
 |some p=>
  rw[hz] at hi;simp only[Option.map_some,Option.some.injEq] at hi;subst hi;refine ⟨p::Z.eraseIdx i,by simp[map_erase],?_,?_⟩
  ·intro q hq
   rcases List.mem_cons.1 hq with rfl|hq
   ·exact h2 _ (List.mem_of_getElem? hz)
   ·exact h2 _ ((List.eraseIdx_sublist _ _).mem hq)
  ·refine List.pairwise_cons.2 ⟨?_,h3.sublist (List.eraseIdx_sublist _ _)⟩
   have:∀(Z:List (Asn ×(Nat->Prop))) (i:Nat),Z[i]?=some p->Z.Pairwise (fun p q=>∀k,p.2 k->¬q.2 k)->∀q∈Z.eraseIdx i,∀k,p.2 k->¬q.2 k:=by
    intro Z
    induction Z with
    |nil=>intro i h;simp at h
    |cons x Z ih=>
     intro i hi hp q hq;obtain ⟨hx,hZ⟩:=List.pairwise_cons.1 hp;cases i with
     |zero=>simp at hi;subst hi;exact hx q (by simpa using hq)
     |succ i=>
      simp only[List.getElem?_cons_succ] at hi;simp only[List.eraseIdx_cons_succ,List.mem_cons] at hq;rcases hq with rfl|hq
      ·intro k hk hq';exact hx p (List.mem_of_getElem? hi) k hq' hk
      ·exact ih i hi hZ q hq
   exact this Z i hz h3
theorem Held.drop {A:Asn} (h:Held B w (A::R)):Held B w R:=by
 obtain ⟨Z,h1,h2,h3⟩:=h;cases Z with
 |nil=>cases h1
 |cons p Z=>
  simp only[List.map_cons,List.cons.injEq] at h1;exact ⟨Z,h1.2,fun q hq=>h2 q (by simp[hq]),(List.pairwise_cons.1 h3).2⟩
theorem Held.cons_out {A:Asn} (h:Held B w (A::R)):∃G:Nat->Prop,A.holds G w/\(∀k,G k->B≤k/\k<w.heap.size)/\
  ∃Z:List (Asn ×(Nat->Prop)),Z.map (·.1)=R/\(∀p∈Z,p.1.holds p.2 w/\∀k,p.2 k->B≤k/\k<w.heap.size)/\Z.Pairwise (fun p q=>∀k,p.2 k->¬q.2 k)/\∀q∈Z,∀k,G k->¬q.2 k:=by
 obtain ⟨Z,h1,h2,h3⟩:=h;cases Z with
 |nil=>cases h1
 |cons p Z=>
  simp only[List.map_cons,List.cons.injEq] at h1;obtain ⟨rfl,h1⟩:=h1;obtain ⟨h4,h5⟩:=h2 p (by simp);exact ⟨p.2,h4,h5,Z,h1,fun q hq=>h2 q (by simp[hq]),(List.pairwise_cons.1 h3).2,(List.pairwise_cons.1 h3).1⟩
theorem Held.cons_in {A:Asn} {G:Nat->Prop} (hA:A.holds G w) (hG:∀k,G k->B≤k/\k<w.heap.size) {Z:List (Asn ×(Nat->Prop))} (h1:Z.map (·.1)=R)
  (h2:∀p∈Z,p.1.holds p.2 w/\∀k,p.2 k->B≤k/\k<w.heap.size) (h3:Z.Pairwise fun p q=>∀k,p.2 k->¬q.2 k) (h4:∀q∈Z,∀k,G k->¬q.2 k):Held B w (A::R):=
 ⟨(A,G)::Z,by simp[h1],fun p hp=>by
  rcases List.mem_cons.1 hp with rfl|hp
  ·exact ⟨hA,hG⟩
  ·exact h2 p hp,List.pairwise_cons.2 ⟨h4,h3⟩⟩
theorem Held.step {A A':Asn} {w':World} (h:Held B w (A::R))
  (hs:∀G,A.holds G w->(∀k,G k->B≤k/\k<w.heap.size)->Upd G w w'/\∃G',A'.holds G' w'/\∀k,G' k->(G k∨w.heap.size≤k)/\k<w'.heap.size) (hB:B≤w.heap.size):Held B w' (A'::R):=by
 obtain ⟨G,hA,hG,Z,h1,h2,h3,h4⟩:=h.cons_out;obtain ⟨hu,G',hA',hG'⟩:=hs G hA hG;refine Held.cons_in hA' (fun k hk=>?_) h1 (fun p hp=>?_) h3 (fun q hq k hk hq'=>?_)
 ·obtain ⟨h5,h6⟩:=hG' k hk
  refine ⟨?_,h6⟩;rcases h5 with h5|h5
  ·exact (hG k h5).1
  ·omega
 ·obtain ⟨h5,h6⟩:=h2 p hp
  refine ⟨p.1.loc p.2 w w' h5 fun k hk=>hu.block k (h6 k hk).2 fun hGk=>h4 p hp k hGk hk,fun k hk=>⟨(h6 k hk).1,Nat.lt_of_lt_of_le (h6 k hk).2 hu.size⟩⟩
 ·obtain ⟨h5,h6⟩:=hG' k hk
  rcases h5 with h5|h5
  ·exact h4 q hq k h5 hq'
  ·have:=((h2 q hq).2 k hq').2;omega
theorem Held.new {A':Asn} {w':World} (h:Held B w R) (hu:Upd No w w') {G':Nat->Prop} (hA':A'.holds G' w') (hG':∀k,G' k->w.heap.size≤k/\k<w'.heap.size) (hB:B≤w.heap.size):Held B w' (A'::R):=by
 obtain ⟨Z,h1,h2,h3⟩:=h;refine Held.cons_in hA' (fun k hk=>?_) h1 (fun p hp=>?_) h3 (fun q hq k hk hq'=>?_)
 ·have:=hG' k hk;omega
 ·obtain ⟨h5,h6⟩:=h2 p hp
  exact ⟨p.1.loc p.2 w w' h5 fun k hk=>hu.block k (h6 k hk).2 fun h=>h,fun k hk=>⟨(h6 k hk).1,Nat.lt_of_lt_of_le (h6 k hk).2 hu.size⟩⟩
 ·have:=hG' k hk;have:=((h2 q hq).2 k hq').2;omega
theorem Held.same {w':World} (h:Held B w R) (hu:Upd No w w'):Held B w' R:=by
 obtain ⟨Z,h1,h2,h3⟩:=h;refine ⟨Z,h1,fun p hp=>?_,h3⟩;obtain ⟨h5,h6⟩:=h2 p hp;exact ⟨p.1.loc p.2 w w' h5 fun k hk=>hu.block k (h6 k hk).2 fun h=>h,fun k hk=>⟨(h6 k hk).1,Nat.lt_of_lt_of_le (h6 k hk).2 hu.size⟩⟩
theorem perm_lift {α β:Type _} (f:α->β) {L L':List β} (hp:L.Perm L'):∀Z:List α,Z.map f=L->∃Z':List α,Z'.Perm Z/\Z'.map f=L':=by
 induction hp with
 |nil=>intro Z h;exact ⟨Z, .refl _,h⟩
 |cons x _ ih=>
  intro Z h;cases Z with
  |nil=>simp at h
  |cons z Z=>
   simp only[List.map_cons,List.cons.injEq] at h;obtain ⟨Z',h1,h2⟩:=ih Z h.2;exact ⟨z::Z',h1.cons z,by simp[h.1,h2]⟩
 |swap x y l=>
  intro Z h
  match Z,h with
  |a::b::Z,h=>
   simp only[List.map_cons,List.cons.injEq] at h;exact ⟨b::a::Z,List.Perm.swap _ _ _,by simp[h.1,h.2.1,h.2.2]⟩
 |trans _ _ ih1 ih2=>
  intro Z h;obtain ⟨Z1,h1,h2⟩:=ih1 Z h;obtain ⟨Z2,h3,h4⟩:=ih2 Z1 h2;exact ⟨Z2,h3.trans h1,h4⟩
theorem Held.perm {L':List Asn} (h:Held B w L) (hp:L.Perm L'):Held B w L':=by
 obtain ⟨Z,h1,h2,h3⟩:=h;obtain ⟨Z',h4,h5⟩:=perm_lift (·.1) hp Z h1;exact ⟨Z',h5,fun p hp=>h2 p (h4.mem_iff.1 hp),h3.perm h4.symm fun hR k hk hk'=>hR k hk' hk⟩
theorem Own.perm {L':List Asn} (h:Own B w0 w L) (hp:L.Perm L'):Own B w0 w L':=⟨h.base,h.upd,h.held.perm hp⟩
theorem Own.take (h:Own B w0 w L) (i:Nat) {A:Asn} (hi:L[i]?=some A):Own B w0 w (A::L.eraseIdx i):=⟨h.base,h.upd,h.held.take i hi⟩
theorem Own.drop {A:Asn} (h:Own B w0 w (A::R)):Own B w0 w R:=⟨h.base,h.upd,h.held.drop⟩
theorem Own.step {A A':Asn} {w':World} (h:Own B w0 w (A::R))
  (hs:∀G,A.holds G w->(∀k,G k->B≤k/\k<w.heap.size)->Upd G w w'/\∃G',A'.holds G' w'/\∀k,G' k->(G k∨w.heap.size≤k)/\k<w'.heap.size):Own B w0 w' (A'::R):=by
 refine ⟨h.base,?_,h.held.step hs h.size⟩;obtain ⟨G,hA,hG,_⟩:=h.held.cons_out;exact h.upd.trans (hs G hA hG).1 fun k _ hk=>(hG k hk).1
theorem Own.new {A':Asn} {w':World} (h:Own B w0 w R) (hu:Upd No w w') {G':Nat->Prop} (hA':A'.holds G' w') (hG':∀k,G' k->w.heap.size≤k/\k<w'.heap.size):Own B w0 w' (A'::R):=
 ⟨h.base,h.upd.no hu,h.held.new hu hA' hG' h.size⟩
theorem Own.same {w':World} (h:Own B w0 w R) (hu:Upd No w w'):Own B w0 w' R:=⟨h.base,h.upd.no hu,h.held.same hu⟩
theorem Own.head {A:Asn} {p:Prop} (h:Own B w0 w (A::R)) (hp:∀G,A.holds G w->p):p:=by
 obtain ⟨G,hA,_⟩:=h.held.cons_out;exact hp G hA
theorem Own.conv {A A':Asn} (h:Own B w0 w (A::R)) (hc:∀G,A.holds G w->A'.holds G w):Own B w0 w (A'::R):=
 h.step fun G hA hG=>⟨Upd.refl _ _,G,hc G hA,fun k hk=>⟨.inl hk,(hG k hk).2⟩⟩
def BlkA (b:Nat) (l:List Value):Asn where
 holds G w:=G b/\Blk w b l
 loc G w w' h hk:=⟨h.1,by obtain ⟨t,ht⟩:=h.2;exact ⟨t,by rw[hk b h.1];exact ht⟩⟩
 up G G' w h hk:=⟨hk b h.1,h.2⟩
def SlA (z:Nat) (s:Sl) (cs:List Value):Asn where
 holds G w:=s.In G/\SlO z w s cs
 loc G w w' h hk:=⟨h.1,by
  cases h.2 with
  |nil a b c d=>exact .nil a b c d
  |mk b o l a hb c d e=>
   obtain ⟨t,ht⟩:=hb;exact .mk b o l a ⟨t,by rw[hk b (h.1 _ a)];exact ht⟩ c d e⟩
 up G G' w h hk:=⟨fun a ha=>hk _ (h.1 a ha),h.2⟩
def MapA {K V:Type} (enc:K->Value) (encV:V->Value) (m:Nat) (L:List (K × V)):Asn where
 holds G w:=G m/\MapR enc encV w m L
 loc G w w' h hk:=⟨h.1,by
  obtain ⟨es,c,h1,h2⟩:=h.2.ex;exact ⟨⟨es,c,by unfold MBlk at *;rw[hk m h.1];exact h1,h2⟩,h.2.nodup⟩⟩
 up G G' w h hk:=⟨hk m h.1,h.2⟩
def PureA (p:Prop):Asn where
 holds _ _:=p
 loc _ _ _ h _:=h
 up _ _ _ h _:=h
def ExA {α:Type} (f:α->Asn):Asn where
 holds G w:=∃x,(f x).holds G w
 loc G w w' h hk:=by obtain ⟨x,h⟩:=h;exact ⟨x,(f x).loc G w w' h hk⟩
 up G G' w h hk:=by obtain ⟨x,h⟩:=h;exact ⟨x,(f x).up G G' w h hk⟩
def StarA (M:List Asn):Asn where
 holds G w:=∃Z:List (Asn ×(Nat->Prop)),Z.map (·.1)=M/\(∀p∈Z,p.1.holds p.2 w/\∀k,p.2 k->G k)/\Z.Pairwise fun p q=>∀k,p.2 k->¬q.2 k
 loc G w w' h hk:=by
  obtain ⟨Z,h1,h2,h3⟩:=h;exact ⟨Z,h1,fun p hp=>⟨p.1.loc p.2 w w' (h2 p hp).1 fun k hk'=>hk k ((h2 p hp).2 k hk'),(h2 p hp).2⟩,h3⟩
 up G G' w h hk:=by
  obtain ⟨Z,h1,h2,h3⟩:=h;exact ⟨Z,h1,fun p hp=>⟨(h2 p hp).1,fun k hk'=>hk k ((h2 p hp).2 k hk')⟩,h3⟩
theorem Own.ex {α:Type} {f:α->Asn} (h:Own B w0 w (ExA f::R)):∃x,Own B w0 w (f x::R):=by
 obtain ⟨G,⟨x,hx⟩,_⟩:=h.held.cons_out;obtain ⟨G,hA,hG,Z,h1,h2,h3,h4⟩:=h.held.cons_out;obtain ⟨x,hx⟩:=hA;exact ⟨x,h.base,h.upd,Held.cons_in hx hG h1 h2 h3 h4⟩
theorem Own.mk_ex {α:Type} {f:α->Asn} (x:α) (h:Own B w0 w (f x::R)):Own B w0 w (ExA f::R):=h.conv fun _ h=>⟨x,h⟩
theorem Own.pure {p:Prop} (h:Own B w0 w (PureA p::R)):p/\Own B w0 w R:=⟨h.head fun _ h=>h,h.drop⟩
theorem Own.mk_pure {p:Prop} (hp:p) (h:Own B w0 w R):Own B w0 w (PureA p::R):=by
 obtain ⟨Z,h1,h2,h3⟩:=h.held;exact ⟨h.base,h.upd,Held.cons_in (G:=No) hp (fun _ h=>h.elim) h1 h2 h3 fun _ _ _ h=>h.elim⟩
theorem Own.star {M:List Asn} (h:Own B w0 w (StarA M::R)):Own B w0 w (M++R):=by
 obtain ⟨G,hA,hG,Z,h1,h2,h3,h4⟩:=h.held.cons_out;obtain ⟨Y,y1,y2,y3⟩:=hA;refine ⟨h.base,h.upd,Y++Z,by simp[y1,h1],fun p hp=>?_,List.pairwise_append.2 ⟨y3,h3,fun p hp q hq k hk=>h4 q hq k ((y2 p hp).2 k hk)⟩⟩;rcases List.mem_append.1 hp with hp|hp
 ·exact ⟨(y2 p hp).1,fun k hk=>hG k ((y2 p hp).2 k hk)⟩
 ·exact h2 p hp
theorem Own.mk_star {M:List Asn} (h:Own B w0 w (M++R)):Own B w0 w (StarA M::R):=by
 obtain ⟨Z,h1,h2,h3⟩:=h.held;have h1:Z.map (·.1)=M++R:=h1;obtain ⟨Y,Z',hYZ,hY,hZ⟩:=List.map_eq_append_iff.1 h1;subst hYZ;obtain ⟨p1,p2,p3⟩:=List.pairwise_append.1 h3;refine ⟨h.base,h.upd,Held.cons_in (G:=fun k=>∃p∈Y,p.2 k) ⟨Y,hY,fun p hp=>⟨(h2 p (by simp[hp])).1,fun k hk=>⟨p,hp,hk⟩⟩,p1⟩ (fun k hk=>?_) hZ (fun p hp=>h2 p (by simp[hp])) p2 ?_⟩
 ·obtain ⟨p,hp,hk⟩:=hk;exact (h2 p (by simp[hp])).2 k hk
 ·rintro q hq k ⟨p,hp,hk⟩;exact p3 p hp q hq k hk
theorem Own.al {l:List Value} {t:TypeId} {k:World->Prop} (h:Own B w0 w R) (hk:∀w',Own B w0 w' (BlkA w.heap.size l::R)->k w'):Al w (.cells ⟨l⟩ t) k:=
 Al.mk' fun w' hu hs hb=>hk w' (h.new (A':=BlkA w.heap.size l) (G':=fun k=>k=w.heap.size) hu ⟨rfl,hb⟩ fun k e=>by omega)
theorem Own.alMap {K V:Type} (enc:K->Value) (encV:V->Value) {k:World->Prop} (h:Own B w0 w R) (hk:∀w',Own B w0 w' (MapA enc encV w.heap.size []::R)->k w'):Al w (.map #[] 0) k:=
 Al.map' fun w' hu hs hb=>hk w' (h.new (A':=MapA enc encV w.heap.size []) (G':=fun k=>k=w.heap.size) hu ⟨rfl,⟨⟨#[],0,hb,by simp,by simp,by simp⟩,by simp⟩⟩ fun k e=>by omega)
theorem Own.dr {k:World->Prop} (h:Own B w0 w R) (hk:∀w',Own B w0 w' R->k w'):Dr w k:=Dr.mk' fun w' hu _=>hk w' (h.same hu)
theorem Own.blk {b:Nat} {l:List Value} (h:Own B w0 w L) (i:Nat) (hi:L[i]?=some (BlkA b l)):Blk w b l:=(h.take i hi).head fun _ h=>h.2
theorem Own.ld {b o n:Nat} {l:List Value} {v:Value} (h:Own B w0 w L) (i:Nat) (hi:L[i]?=some (BlkA b l)) (hv:l[o+n]?=some v):w.cell? ((Addr.mk b o none).add n)=some v:=(h.blk i hi).cellA hv
theorem Own.ld0 {b o:Nat} {l:List Value} {v:Value} (h:Own B w0 w L) (i:Nat) (hi:L[i]?=some (BlkA b l)) (hv:l[o]?=some v):w.cell? (Addr.mk b o none)=some v:=(h.blk i hi).cell' hv
theorem Own.set {A A':Asn} (h:Own B w0 w (A'::L.eraseIdx 0)) (hi:L[0]?=some A):Own B w0 w (L.set 0 A'):=by
 cases L with
 |nil=>simp at hi
 |cons x L=>simpa using h
def ins {α:Type _}:List α->Nat->α->List α
 |l,0,a=>a::l
 | [],_+1,a=>[a]
 |x::l,n+1,a=>x::ins l n a
theorem mem_ins {α:Type _} {a x:α}:∀{l:List α} {n:Nat},x∈ins l n a->x=a∨x∈l
 |l,0,h=>by simpa [ins] using h
 | [],_+1,h=>by simp[ins] at h;exact .inl h
 |y::l,n+1,h=>by
  simp only[ins,List.mem_cons] at h;rcases h with h|h
  ·exact .inr (by simp[h])
  ·rcases mem_ins h with h|h
   ·exact .inl h
   ·exact .inr (by simp[h])
theorem Held.put {A':Asn} {i:Nat} (h:Held B w (A'::L.eraseIdx i)) (hi:i<L.length):Held B w (L.set i A'):=by
 obtain ⟨G,hA,hG,Z,h1,h2,h3,h4⟩:=h.cons_out;refine ⟨ins Z i (A',G),?_,fun p hp=>?_,?_⟩
 ·have:∀(Z:List (Asn ×(Nat->Prop))) (L:List Asn) (i:Nat),Z.map (·.1)=L.eraseIdx i->i<L.length->(ins Z i (A',G)).map (·.1)=L.set i A':=by
   intro Z
   induction Z with
   |nil=>
    intro L i h hi;cases L with
    |nil=>simp at hi
    |cons x L=>
     cases i with
     |zero=>simp at h;subst h;simp[ins]
     |succ i=>simp at h
   |cons z Z ih=>
    intro L i h hi;cases L with
    |nil=>simp at hi
    |cons x L=>
     cases i with
     |zero=>simp at h;simp[ins,h]
     |succ i=>
      simp only[List.map_cons,List.eraseIdx_cons_succ,List.cons.injEq] at h;simp only[ins,List.map_cons,List.set_cons_succ,h.1];rw[ih L i h.2 (by simpa using hi)]
  exact this Z L i h1 hi
 ·rcases mem_ins hp with rfl|hp
  ·exact ⟨hA,hG⟩
  ·exact h2 p hp
 ·have:∀(Z:List (Asn ×(Nat->Prop))) (i:Nat),Z.Pairwise (fun p q=>∀k,p.2 k->¬q.2 k)->(∀q∈Z,∀k,G k->¬q.2 k)->(ins Z i (A',G)).Pairwise (fun p q=>∀k,p.2 k->¬q.2 k):=by
   intro Z
   induction Z with
   |nil=>intro i _ _;cases i<;>simp[ins]
   |cons z Z ih=>
    intro i hp hq;obtain ⟨h5,h6⟩:=List.pairwise_cons.1 hp;cases i with
    |zero=>simp only[ins];exact List.pairwise_cons.2 ⟨hq,hp⟩
    |succ i=>
     simp only[ins];refine List.pairwise_cons.2 ⟨fun q hq'=>?_,ih i h6 fun q hq'=>hq q (by simp[hq'])⟩;rcases mem_ins hq' with rfl|hq'
     ·intro k hk hk';exact hq z (by simp) k hk' hk
     ·exact h5 q hq'
  exact this Z i h3 h4
theorem Own.put {A':Asn} {i:Nat} (h:Own B w0 w (A'::L.eraseIdx i)) (hi:i<L.length):Own B w0 w (L.set i A'):=⟨h.base,h.upd,h.held.put hi⟩
theorem lt_of_get {α:Type} {L:List α} {i:Nat} {A:α} (h:L[i]?=some A):i<L.length:=(List.getElem?_eq_some_iff.1 h).1
theorem Own.st {b o:Nat} {l:List Value} {v:Value} {k:World->Prop} (h:Own B w0 w L) (i:Nat) (hi:L[i]?=some (BlkA b l)) (ho:(l[o]?).isSome=true) (hv:v.oneCell'=true)
  (hk:∀w',Own B w0 w' (L.set i (BlkA b (l.set o v)))->k w'):St w ⟨b,o,none⟩ v k:=
 St.mk' (h.blk i hi) (by simpa using ho) hv fun w' hu hs hb=>hk w' (((h.take i hi).step (A':=BlkA b (l.set o v)) fun G hA hG=>⟨hu.mono fun k _ e=>by rw[e];exact hA.1,G,⟨hA.1,hb⟩,fun k hk=>⟨.inl hk,by have:=(hG k hk).2;omega⟩⟩).put (lt_of_get hi))
theorem Own.stA {b o n:Nat} {l:List Value} {v:Value} {k:World->Prop} (h:Own B w0 w L) (i:Nat) (hi:L[i]?=some (BlkA b l)) (ho:(l[o+n]?).isSome=true) (hv:v.oneCell'=true)
  (hk:∀w',Own B w0 w' (L.set i (BlkA b (l.set (o+n) v)))->k w'):St w ((Addr.mk b o none).add n) v k:=by
 rw[add_mk];exact h.st i hi ho hv hk
end
end Go.Vc
namespace Go.Vc
open Go
theorem wr {x:Int} (h1: -9223372036854775808≤x) (h2:x<9223372036854775808):IntKind.i64.wrap x=x:=by
 have e1:(2:Int)^64=18446744073709551616:=by decide
 have e2:(2:Int)^63=9223372036854775808:=by decide
 simp only[IntKind.wrap,IntKind.bits,IntKind.signed,Nat.reduceSub,e1,e2,Bool.true_and,decide_eq_true_eq];split<;>omega
theorem wru {x:Int} (h1:0≤x) (h2:x<18446744073709551616):IntKind.u64.wrap x=x:=by
 have e1:(2:Int)^64=18446744073709551616:=by decide
 simp only[IntKind.wrap,IntKind.bits,IntKind.signed,e1,Bool.false_and,Bool.false_eq_true,if_false];omega
structure EncT (α:Type) where
 z:Nat
 enc:α->List Value
 len:∀x,(enc x).length=z
 one:∀x,∀v∈enc x,v.oneCell'=true
 pos:1≤z
def intE:EncT Int:=⟨1,fun n=>[.int .i64 n],fun _=>rfl,fun x v h=>by simp at h;subst h;rfl,Nat.le_refl _⟩
theorem flat_len {α:Type} (E:EncT α):∀(xs:List α),(xs.flatMap E.enc).length=xs.length*E.z
 | []=>by simp
 |x::xs=>by simp[flat_len E xs,E.len,Nat.succ_mul,Nat.add_comm]
theorem flat_get {α:Type} (E:EncT α):∀(xs:List α) (j c:Nat) (x:α),xs[j]?=some x->c<E.z->(xs.flatMap E.enc)[j*E.z+c]?=(E.enc x)[c]?
 | [],j,c,x,h,_=>by simp at h
 |y::xs,0,c,x,h,hc=>by
  simp at h;subst h;simp only[List.flatMap_cons,Nat.zero_mul,Nat.zero_add];rw[List.getElem?_append_left (by rw[E.len];exact hc)]
 |y::xs,j+1,c,x,h,hc=>by
  simp only[List.flatMap_cons];have:=flat_get E xs j c x (by simpa using h) hc;rw[List.getElem?_append_right (by rw[E.len,Nat.succ_mul];omega),E.len,Nat.succ_mul];rw[show j*E.z+E.z+c-E.z=j*E.z+c from by omega];exact this
theorem flat_set {α:Type} (E:EncT α):∀(xs:List α) (j:Nat) (x:α),j<xs.length->(xs.set j x).flatMap E.enc=putAt (xs.flatMap E.enc) (j*E.z) (E.enc x)
 | [],j,x,h=>by simp at h
 |y::xs,0,x,h=>by
  have:∀(us vs cs:List Value),us.length=vs.length->putAt (us++cs) 0 vs=vs++cs:=by
   intro us
   induction us with
   |nil=>intro vs cs h;cases vs with|nil=>simp[putAt_nil]|cons _ _=>simp at h
   |cons u us ih=>intro vs cs h;cases vs with|nil=>simp at h|cons v vs=>simp[putAt,ih vs cs (by simpa using h)]
  simp only[List.set_cons_zero,List.flatMap_cons,Nat.zero_mul];rw[this _ _ _ (by rw[E.len,E.len])]
 |y::xs,j+1,x,h=>by
  have:∀(us cs vs:List Value) (o:Nat),putAt (us++cs) (us.length+o) vs=us++putAt cs o vs:=by
   intro us
   induction us with
   |nil=>intro cs vs o;simp
   |cons u us ih=>
    intro cs vs o;simp only[List.cons_append,List.length_cons];rw[show us.length+1+o=(us.length+o)+1 from by omega];cases vs with
    |nil=>rw[putAt_nil,putAt_nil]
    |cons v vs=>simp only[putAt];rw[ih]
  simp only[List.set_cons_succ,List.flatMap_cons,Nat.succ_mul];rw[flat_set E xs j x (by simpa using h),show j*E.z+E.z=(E.enc y).length+j*E.z from by rw[E.len];omega,this]
def SlT {α:Type} (E:EncT α) (s:Sl) (xs:List α):Asn where
 holds G w:=s.In G/\s.len=xs.length/\SlO E.z w s (xs.flatMap E.enc)
 loc G w w' h hk:=⟨h.1,h.2.1,((SlA E.z s _).loc G w w' ⟨h.1,h.2.2⟩ hk).2⟩
 up G G' w h hk:=⟨fun a ha=>hk _ (h.1 a ha),h.2⟩
section
variable {P:Program} {B:Nat} {w0 w:World} {L R:List Asn} {α:Type} {E:EncT α}
theorem Own.slO {s:Sl} {xs:List α} (h:Own B w0 w L) (i:Nat) (hi:L[i]?=some (SlT E s xs)):SlO E.z w s (xs.flatMap E.enc):=(h.take i hi).head fun _ h=>h.2.2
theorem Own.len {s:Sl} {xs:List α} (h:Own B w0 w L) (i:Nat) (hi:L[i]?=some (SlT E s xs)):s.len=xs.length:=(h.take i hi).head fun _ h=>h.2.1
theorem SlO.get {s:Sl} {xs:List α} (h:SlO E.z w s (xs.flatMap E.enc)) {j:Nat} {x:α} (hj:xs[j]?=some x):
  ∃b o,s.a=some ⟨b,o,none⟩/\∀c v,(E.enc x)[c]?=some v->w.cell? ⟨b,o+(j*E.z+c),none⟩=some v:=by
 have hz:=E.pos
 have hg:∀c v,(E.enc x)[c]?=some v->(xs.flatMap E.enc)[j*E.z+c]?=some v:=fun c v hv=>by
  rw[flat_get E xs j c x hj (by have:=(List.getElem?_eq_some_iff.1 hv).1;rw[E.len] at this;exact this)];exact hv
 cases h with
 |nil ha hl hc hcs=>
  have hl:=flat_len E xs;rw[hcs] at hl
  have:xs.length=0:=by
   rcases Nat.mul_eq_zero.1 hl.symm with h|h
   ·exact h
   ·omega
  have:=(List.getElem?_eq_some_iff.1 hj).1;omega
 |mk b o l ha hb hl hc hcs=>
  refine ⟨b,o,ha,fun c v hv=>?_⟩;obtain ⟨b',o',ha',h'⟩:=SlO.cell (.mk b o l ha hb hl hc hcs:SlO E.z w s (xs.flatMap E.enc)) (hg c v hv);rw[ha] at ha';simp only[Option.some.injEq,Addr.mk.injEq] at ha';rw[ha'.1,ha'.2.1];exact h'
theorem Own.get {s:Sl} {xs:List α} (h:Own B w0 w L) (i:Nat) (hi:L[i]?=some (SlT E s xs)) {j:Nat} {x:α} (hj:xs[j]?=some x):
  ∃b o,s.a=some ⟨b,o,none⟩/\∀c v,(E.enc x)[c]?=some v->w.cell? ⟨b,o+(j*E.z+c),none⟩=some v:=(h.slO i hi).get hj
theorem Own.getI {s:Sl} {xs:List Int} (h:Own B w0 w L) (i:Nat) (hi:L[i]?=some (SlT intE s xs)) {j:Nat} {x:Int} (hj:xs[j]?=some x):
  ∃a,s.a=some a/\w.cell? (a.add (j*1))=some (.int .i64 x):=by
 obtain ⟨b,o,ha,hc⟩:=h.get i hi hj;exact ⟨_,ha,by rw[add_mk];exact hc 0 _ rfl⟩
theorem Own.stE {s:Sl} {xs:List α} {k:World->Prop} (h:Own B w0 w L) (i:Nat) (hi:L[i]?=some (SlT E s xs)) {j:Nat} (hj:j<xs.length) (x:α) {b o:Nat} (ha:s.a=some ⟨b,o,none⟩)
  {v:Value} (hx:E.enc x= [v]) (hk:∀w',Own B w0 w' (L.set i (SlT E s (xs.set j x)))->k w'):St w ⟨b,o+j*E.z,none⟩ v k:=by
 have hz:E.z=1:=by rw[←E.len x,hx];rfl
 have hone:v.oneCell'=true:=E.one x v (by rw[hx];simp);have hs:=h.slO i hi;have hl:=h.len i hi;cases hs with
 |nil ha' _ _ _=>rw[ha'] at ha;cases ha
 |mk b' o' l ha' hb hle hc hcs=>
  rw[ha'] at ha;simp only[Option.some.injEq,Addr.mk.injEq,and_true] at ha;obtain ⟨rfl,rfl⟩:=ha;have hfl:=flat_len E xs;have hlt:j*E.z<xs.length*E.z:=by rw[hz];omega
  have hle2:s.len*E.z≤s.cap*E.z:=Nat.mul_le_mul_right _ hle;rw[←hl] at hlt;refine St.mk' hb (by omega) hone fun w' hu hsz hb'=>hk w' (((h.take i hi).step (A':=SlT E s (xs.set j x)) fun G hA hG=>⟨hu.mono fun k _ e=>by rw[e];exact hA.1 _ ha',G,⟨hA.1,by simpa using hl,?_⟩,fun k hk=>⟨.inl hk,by have:=(hG k hk).2;omega⟩⟩).put (lt_of_get hi))
  refine .mk b' o' _ ha' hb' hle (by simpa using hc) ?_;rw[flat_set E xs j x hj,hx,hcs]
  have key:∀(l:List Value) (o n m:Nat),o+n≤l.length->m<n->putAt ((l.drop o).take n) m [v]=((l.set (o+m) v).drop o).take n:=by
   intro l o n m h1 h2;apply List.ext_getElem?;intro t;rw[putAt_get _ _ _ _ (by simp;omega)];simp only[List.length_singleton,List.getElem?_take,List.getElem?_drop,List.getElem?_set];by_cases e:m=t
   ·subst e
    rw[if_pos (by omega),if_pos h2,if_pos rfl,if_pos (by omega)];simp
   ·rw[if_neg (by omega),if_neg (show ¬o+m=o+t by omega)]
  exact key l o' (s.len*E.z) (j*E.z) (by omega) hlt
theorem Own.appG {T el:TypeId} {inf:TypeInfo} {zv:Value} {s x:Sl} {xs ys:List α} {k:Sl->World->Prop}
  (hu:P.underlying T=some (.slice el)) (hi:P.info? el=some inf) (hz:inf.zero=some zv) (hsz:inf.size=E.z) (hzc:zv.cells.size=E.z) (hb:1≤inf.bytes)
  (h:Own B w0 w L) (i:Nat) (hL:L[i]?=some (SlT E s xs)) (hdl:(ys.flatMap E.enc).length=x.len*E.z) (hnew:∀W:World,W.heap=w.heap->(Builtin.firstCells E.z x.len (.slice x.a x.len x.cap)).run P W= .ok ⟨ys.flatMap E.enc⟩ W) (hxl:x.len=ys.length) (hbig:(17*(xs.length+ys.length)+16000)*inf.bytes≤2^48)
  (hk:∀s' w',s'.len=xs.length+ys.length->Own B w0 w' (L.set i (SlT E s' (xs++ys)))->k s' w'):
  ∃s' w',AppR P [T,T] T (.slice s.a s.len s.cap) (.slice x.a x.len x.cap) w s' w'/\k s' w':=by
 have hs:=h.slO i hL;have hl:=h.len i hL
 have hone:∀v∈ys.flatMap E.enc,v.oneCell'=true:=fun v hv=>by
  obtain ⟨y,_,hy⟩:=List.mem_flatMap.1 hv;exact E.one y v hy
 obtain ⟨s',w',h1,h2,h3⟩:=app_run' (P:=P) (T:=T) hu hi hz hsz hzc hb hs hdl hnew hone (by rw[hl,hxl];exact hbig);refine ⟨s',w',h1,hk s' w' (by rw[h2,hl,hxl]) (((h.take i hL).step (A':=SlT E s' (xs++ys)) fun G hA hG=>⟨h3.upd.mono fun k _ ⟨a,ha,e⟩=>by rw[←e];exact hA.1 a ha,fun k=>s'.In (fun j=>j≠k)->False,⟨?_,?_,?_⟩,?_⟩).put (lt_of_get hL))⟩
 ·intro a ha hn;exact hn a ha rfl
 ·rw[h2,hl,hxl,List.length_append]
 ·rw[List.flatMap_append];exact h3.own
 ·intro k hk
  have:∃a,s'.a=some a/\a.block=k:=by
   refine Classical.byContradiction fun hn=>hk fun a ha e=>hn ⟨a,ha,e⟩
  obtain ⟨a,ha,rfl⟩:=this;refine ⟨?_,h3.own.lt a ha⟩;rcases h3.here a ha with ⟨a0,h4,h5⟩|h4
  ·rw[←h5];exact .inl (hA.1 a0 h4)
  ·exact .inr (by omega)
theorem Own.app {T el:TypeId} {inf:TypeInfo} {zv:Value} {s x:Sl} {xs ys:List α} {k:Sl->World->Prop}
  (hu:P.underlying T=some (.slice el)) (hi:P.info? el=some inf) (hz:inf.zero=some zv) (hsz:inf.size=E.z) (hzc:zv.cells.size=E.z) (hb:1≤inf.bytes)
  (h:Own B w0 w L) (i:Nat) (hL:L[i]?=some (SlT E s xs)) (hx:SlO E.z w x (ys.flatMap E.enc)) (hxl:x.len=ys.length) (hbig:(17*(xs.length+ys.length)+16000)*inf.bytes≤2^48)
  (hk:∀s' w',s'.len=xs.length+ys.length->Own B w0 w' (L.set i (SlT E s' (xs++ys)))->k s' w'):
  ∃s' w',AppR P [T,T] T (.slice s.a s.len s.cap) (.slice x.a x.len x.cap) w s' w'/\k s' w':=
 Own.appG hu hi hz hsz hzc hb h i hL hx.length (firstCells_all hx) hxl hbig hk
theorem Own.app1 {T el:TypeId} {inf:TypeInfo} {zv:Value} {s:Sl} {xs:List α} {y:α} {b:Nat} {k:Sl->World->Prop}
  (hu:P.underlying T=some (.slice el)) (hi:P.info? el=some inf) (hz:inf.zero=some zv) (hsz:inf.size=E.z) (hzc:zv.cells.size=E.z) (hb:1≤inf.bytes)
  (h:Own B w0 w (BlkA b (E.enc y)::L)) (i:Nat) (hL:L[i]?=some (SlT E s xs)) (hbig:(17*(xs.length+1)+16000)*inf.bytes≤2^48)
  (hk:∀s' w',s'.len=xs.length+1->Own B w0 w' (L.set i (SlT E s' (xs++ [y])))->k s' w'):
  ∃s' w',AppR P [T,T] T (.slice s.a s.len s.cap) (.slice (some (Addr.mk b 0 none)) 1 1) w s' w'/\k s' w':=by
 have hx:SlO E.z w ⟨some (Addr.mk b 0 none),1,1⟩ ([y].flatMap E.enc):=by
  refine .mk b 0 (E.enc y) rfl (h.blk 0 rfl) (Nat.le_refl _) (by simp[E.len]) ?_;have:(1:Nat)*E.z=(E.enc y).length:=by rw[E.len];omega
  simp only[List.flatMap_cons,List.flatMap_nil,List.append_nil,List.drop_zero,this,List.take_length]
 have h':Own B w0 w L:=h.drop;exact h'.app (x:=⟨some (Addr.mk b 0 none),1,1⟩) (ys:=[y]) hu hi hz hsz hzc hb i hL hx rfl (by simpa using hbig) (by simpa using hk)
theorem SlO.no {z:Nat} {w':World} {s:Sl} {cs:List Value} (h:SlO z w s cs) (u:Upd No w w'):SlO z w' s cs:=h.upd u fun _ _ h=>h
theorem SlO.sub {z:Nat} {s:Sl} {cs:List Value} (h:SlO z w s cs) {l hh:Nat} (hl:l≤hh) (hh':hh≤s.len):SlO z w ⟨slA s.a l s.cap z,hh-l,s.cap-l⟩ ((cs.take (hh*z)).drop (l*z)):=by
 cases h with
 |nil ha h1 h2 h3=>
  have:l=0/\hh=0:=by omega
  obtain ⟨rfl,rfl⟩:=this;exact .nil (by simp[slA,ha]) rfl (by simp[h2]) (by simp[h3])
 |mk b o ls ha hb hle hc hcs=>
  have m1:l*z≤hh*z:=Nat.mul_le_mul_right _ hl;have m2:hh*z≤s.len*z:=Nat.mul_le_mul_right _ hh';have m3:s.len*z≤s.cap*z:=Nat.mul_le_mul_right _ hle;by_cases e:s.cap=l
  ·have e2:hh=l:=by omega
   refine .mk b o ls (by simp[slA,e,ha]) hb ?_ ?_ ?_
   ·show hh-l≤s.cap-l
    omega
   ·show o+(s.cap-l)*z≤ls.length
    rw[e,Nat.sub_self,Nat.zero_mul];omega
   ·rw[e2]
    simp only[Nat.sub_self,Nat.zero_mul,List.take_zero];apply List.drop_eq_nil_of_le;rw[List.length_take];omega
  ·refine .mk b (o+l*z) ls ?_ hb ?_ ?_ ?_
   ·simp only[slA,if_neg e,ha,Option.map_some,add_mk]
   ·show hh-l≤s.cap-l
    omega
   ·show o+l*z+(s.cap-l)*z≤ls.length
    rw[Nat.sub_mul];omega
   ·show _=(ls.drop (o+l*z)).take ((hh-l)*z)
    rw[hcs,List.take_take,Nat.min_eq_left m2,Nat.sub_mul,List.drop_take,List.drop_drop]
theorem Own.blk_eq {b:Nat} {l l':List Value} (h:Own B w0 w (BlkA b l::R)) (e:l=l'):Own B w0 w (BlkA b l'::R):=e▸h
theorem callV_mk {id:Nat} {first cap:Array Value} {args:List Value} {R:Ending->World->Prop} (h:okF P id (Calls P id (first++⟨args⟩++cap) w R)):CallV P (.func (.func id) first cap) args w R:=⟨id,first,cap,rfl,h⟩
theorem Own.empty {b:Nat} (h:Own B w0 w (BlkA b []::R)):Own B w0 w (SlT E ⟨some (Addr.mk b 0 none),0,0⟩ []::R):=
 h.conv fun G hG=>⟨fun a ha=>by cases ha;exact hG.1,rfl, .mk b 0 [] rfl hG.2 (Nat.le_refl _) (by simp) (by simp)⟩
theorem Own.nilS (h:Own B w0 w R):Own B w0 w (SlT E ⟨none,0,0⟩ []::R):=by
 have:=Own.mk_pure (p:=True) trivial h;exact this.conv fun G _=>⟨(fun a ha=>by cases ha),rfl, .nil rfl rfl rfl rfl⟩
theorem slA0 (a:Option Addr) (cap z:Nat) (h:∀x,a=some x->x.spot=none):slA a 0 cap z=a:=by
 unfold slA;split
 ·rfl
 ·cases a with
  |none=>rfl
  |some x=>simp[Addr.add]
theorem SlO.spot {z:Nat} {s:Sl} {cs:List Value} (h:SlO z w s cs):∀x,s.a=some x->x.spot=none:=fun x hx=>by
 cases h with
 |nil ha _ _ _=>rw[ha] at hx;cases hx
 |mk b o l ha _ _ _ _=>rw[ha] at hx;cases hx;rfl
theorem Own.pre {s:Sl} {xs:List α} (h:Own B w0 w L) (i:Nat) (hi:L[i]?=some (SlT E s xs)) {n:Nat} (hn:n≤xs.length):Own B w0 w (L.set i (SlT E ⟨s.a,n,s.cap⟩ (xs.take n))):=by
 refine (Own.conv (h.take i hi) fun G hG=>?_).put (lt_of_get hi);have hfl:=flat_len E xs;refine ⟨fun a ha=>hG.1 a ha,by simp[hn],?_⟩
 have htake:(xs.take n).flatMap E.enc=(xs.flatMap E.enc).take (n*E.z):=by
  have h1:xs.flatMap E.enc=(xs.take n).flatMap E.enc++(xs.drop n).flatMap E.enc:=by rw[←List.flatMap_append,List.take_append_drop]
  have h2:((xs.take n).flatMap E.enc).length=n*E.z:=by rw[flat_len];simp[hn]
  rw[h1,←h2,List.take_left]
 cases hG.2.2 with
 |nil ha hl hc hcs=>
  have h0:xs.length=0:=by rw[←hG.2.1];exact hl
  have:n=0:=by omega
  subst this;exact .nil ha rfl hc (by simp)
 |mk b o l ha hb hl hc hcs=>
  have:=hG.2.1;refine .mk b o l ha hb (by show n≤s.cap;omega) hc ?_;rw[htake,hcs];show _=(l.drop o).take (n*E.z);rw[List.take_take];congr 1;have:n*E.z≤s.len*E.z:=Nat.mul_le_mul_right _ (by omega);omega
theorem Own.clear {T el t:TypeId} {zv:Value} {z0:α} {s:Sl} {xs:List α} {C:World->Prop} (hu:P.underlying T=some (.slice el)) (hz:∀w,(zeroValue el).run P w= .ok zv w) (hzc:zv.cells.toList=E.enc z0)
  (h:Own B w0 w L) (i:Nat) (hi:L[i]?=some (SlT E s xs)) {n:Nat} (hn:n≤xs.length) (hC:∀w',Own B w0 w' (L.set i (SlT E s (xs.take n++List.replicate (xs.length-n) z0)))->C w'):
  ∃w',ClearR P [T] t (.slice (slA s.a n s.cap E.z) (s.len-n) (s.cap-n)) w w'/\C w':=by
 have hs:=h.slO i hi;have hl:=h.len i hi;by_cases hnl:n=xs.length
 ·refine ⟨w,?_,hC w ?_⟩
  ·unfold ClearR Builtin.clear_
   have:s.len-n=0:=by omega
   rw[this];simp only[List.getElem?_toArray,List.getElem?_cons_zero,Sem.run_bind,run_und hu,Result.andThen_ok];cases slA s.a n s.cap E.z<;>rfl
  ·have:xs.take n++List.replicate (xs.length-n) z0=xs:=by rw[hnl];simp
   rw[this]
   have hset:L.set i (SlT E s xs)=L:=by
    apply List.ext_getElem?;intro j;rw[List.getElem?_set];by_cases e:i=j
    ·subst e;rw[if_pos rfl,if_pos (lt_of_get hi),hi]
    ·simp[e]
   rw[hset];exact h
 ·cases hs with
  |nil ha hl' hc hcs=>omega
  |mk b o l ha hb hle hc hcs=>
   have hzl:zv.cells.size=E.z:=by rw[←Array.length_toList,hzc,E.len]
   have hfl:=flat_len E xs;have hlt:n<s.len:=by omega
   have hmul:s.len*E.z≤s.cap*E.z:=Nat.mul_le_mul_right _ hle;have hnm:n*E.z≤s.len*E.z:=Nat.mul_le_mul_right _ (by omega)
   have hA:slA s.a n s.cap E.z=some ⟨b,o+n*E.z,none⟩:=by
    unfold slA;rw[if_neg (by omega),ha];simp only[Option.map_some,add_mk]
   let zs:List Value:=(Builtin.zeroCells zv.cells (s.len-n)).toList
   have hzs:zs=(List.replicate (xs.length-n) z0).flatMap E.enc:=by
    have h1:(Builtin.zeroCells zv.cells (s.len-n))=⟨rep (s.len-n) zv.cells.toList⟩:=by
     unfold Builtin.zeroCells;exact zeros_eq zv.cells (s.len-n) (by rw[hzl];exact E.pos)
    have h2:∀m,rep m (E.enc z0)=(List.replicate m z0).flatMap E.enc:=by
     intro m
     induction m with
     |zero=>rfl
     |succ m ih=>simp[rep,List.replicate_succ,ih]
    show (Builtin.zeroCells zv.cells (s.len-n)).toList=_;rw[h1,hzc,h2,hl]
   have hzlen:zs.length=(s.len-n)*E.z:=by rw[hzs,flat_len];simp[hl]
   have hroom:o+n*E.z+zs.length≤l.length:=by rw[hzlen,Nat.sub_mul];omega
   have hone:∀v∈zs,v.oneCell'=true:=fun v hv=>by
    rw[hzs] at hv;obtain ⟨y,_,hy⟩:=List.mem_flatMap.1 hv;exact E.one y v hy
   obtain ⟨w',h1,h2,h3,h4⟩:=storeCells_run (P:=P) zs l (o+n*E.z) w hb hroom hone 0 (o+n*E.z) (by omega);refine ⟨w',?_,hC w' (((h.take i hi).step (A':=SlT E s (xs.take n++List.replicate (xs.length-n) z0)) fun G hA' hG=>⟨h2.mono fun k _ e=>by rw[e];exact hA'.1 _ ha,G,⟨hA'.1,?_,?_⟩,fun k hk=>⟨.inl hk,by have:=(hG k hk).2;omega⟩⟩).put (lt_of_get hi))⟩
   ·unfold ClearR Builtin.clear_
    rw[hA];obtain ⟨d,hd⟩:∃d,s.len-n=d+1:=⟨s.len-n-1,by omega⟩
    simp only[List.getElem?_toArray,List.getElem?_cons_zero,Sem.run_bind,run_und hu,Result.andThen_ok];have h1':(storeCells ⟨b,o+n*E.z,none⟩ (Builtin.zeroCells zv.cells (d+1)).toList).run P w= .ok () w':=by rw[←hd];exact h1
    rw[hd];simp only[hz,Sem.run_bind,Result.andThen_ok,h1'];rfl
   ·simp[hl];omega
   ·refine .mk b o _ ha h4 hle (by rw[putAt_length];exact hc) ?_
    have hpre:(xs.take n).flatMap E.enc=(xs.flatMap E.enc).take (n*E.z):=by
     have g1:xs.flatMap E.enc=(xs.take n).flatMap E.enc++(xs.drop n).flatMap E.enc:=by rw[←List.flatMap_append,List.take_append_drop]
     have g2:((xs.take n).flatMap E.enc).length=n*E.z:=by rw[flat_len];simp[hn]
     rw[g1,←g2,List.take_left]
    rw[List.flatMap_append,←hzs,hpre,hcs];apply List.ext_getElem?;intro t;rw[List.getElem?_take,List.getElem?_drop,putAt_get _ _ _ _ hroom,List.take_take,Nat.min_eq_left hnm];by_cases e:t<n*E.z
    ·rw[List.getElem?_append_left (by simp;omega),List.getElem?_take,if_pos e,List.getElem?_drop,if_pos (by omega),if_neg (by omega)]
    ·have hl2:(List.take (n*E.z) (List.drop o l)).length=n*E.z:=by simp;omega
     rw[List.getElem?_append_right (by omega),hl2];by_cases e2:t<s.len*E.z
     ·rw[if_pos e2,if_pos (by rw[hzlen,Nat.sub_mul];omega)]
      congr 1;omega
     ·rw[if_neg e2]
      apply List.getElem?_eq_none;rw[hzlen,Nat.sub_mul];omega
theorem Own.mlook {T kt el:TypeId} {K V:Type} [DecidableEq K] {enc:K->Value} {encV:V->Value} {m:Nat} {M:List (K × V)} {k:K} {v:V} (hu:P.underlying T=some (.map kt el)) (hk:KeyOk P kt enc)
  (h:Own B w0 w L) (i:Nat) (hi:L[i]?=some (MapA enc encV m M)) (hl:mget M k=some v):LkB P T (.map (some m)) (enc k) (encV v) true w/\Lk1 P T (.map (some m)) (enc k) (encV v) w:=
 ((h.take i hi).head fun _ h=>h.2).mget_some hu hk hl
theorem Own.mlook0 {T kt el:TypeId} {K V:Type} [DecidableEq K] {enc:K->Value} {encV:V->Value} {m:Nat} {M:List (K × V)} {k:K} {z:Value} (hu:P.underlying T=some (.map kt el)) (hk:KeyOk P kt enc) (hz:∀w,(zeroValue el).run P w= .ok z w)
  (h:Own B w0 w L) (i:Nat) (hi:L[i]?=some (MapA enc encV m M)) (hl:mget M k=none):LkB P T (.map (some m)) (enc k) z false w/\Lk1 P T (.map (some m)) (enc k) z w:=
 ((h.take i hi).head fun _ h=>h.2).mget_none hu hk hz hl
theorem Own.mput {T kt el:TypeId} {K V:Type} [DecidableEq K] {enc:K->Value} {encV:V->Value} {m:Nat} {M:List (K × V)} {k:K} {v:V} {C:World->Prop} (hu:P.underlying T=some (.map kt el)) (hk:KeyOk P kt enc)
  (h:Own B w0 w L) (i:Nat) (hi:L[i]?=some (MapA enc encV m M)) (hC:∀w',Own B w0 w' (L.set i (MapA enc encV m (aput M k v)))->C w'):∃w',UpdR P T (.map (some m)) (enc k) (encV v) w w'/\C w':=by
 obtain ⟨w',h1,h2,h3,h4⟩:=((h.take i hi).head fun _ h=>h.2).put (P:=P) (T:=T) hu hk k v;exact ⟨w',h1,hC w' (((h.take i hi).step (A':=MapA enc encV m (aput M k v)) fun G hA hG=>⟨h2.mono fun k _ e=>by rw[e];exact hA.1,G,⟨hA.1,h4⟩,fun k hk=>⟨.inl hk,by have:=(hG k hk).2;omega⟩⟩).put (lt_of_get hi))⟩
theorem Own.mdel {T kt el t:TypeId} {ts:List TypeId} {K V:Type} [DecidableEq K] {enc:K->Value} {encV:V->Value} {m:Nat} {M:List (K × V)} {k:K} {C:World->Prop} (hu:P.underlying T=some (.map kt el)) (hk:KeyOk P kt enc)
  (h:Own B w0 w L) (i:Nat) (hi:L[i]?=some (MapA enc encV m M)) (hC:∀w',Own B w0 w' (L.set i (MapA enc encV m (adel M k)))->C w'):∃w',DelR P (T::ts) t (.map (some m)) (enc k) w w'/\C w':=by
 obtain ⟨w',h1,h2,h3,h4⟩:=((h.take i hi).head fun _ h=>h.2).del (P:=P) (T:=T) (t:=t) (ts:=ts) hu hk k;exact ⟨w',h1,hC w' (((h.take i hi).step (A':=MapA enc encV m (adel M k)) fun G hA hG=>⟨h2.mono fun k _ e=>by rw[e];exact hA.1,G,⟨hA.1,h4⟩,fun k hk=>⟨.inl hk,by have:=(hG k hk).2;omega⟩⟩).put (lt_of_get hi))⟩
end
end Go.Vc
namespace Go.Vc
open Go
structure Inp {α:Type} (E:EncT α) (w0:World) (s:Sl) (xs:List α):Prop where
 len:s.len=xs.length
 cap:s.len≤s.cap
 got:∀j x,xs[j]?=some x->∃a,s.a=some a/\a.block<w0.heap.size/\∀c v,(E.enc x)[c]?=some v->w0.cell? ((a.add (j*E.z)).add c)=some v
theorem add_block (a:Addr) (n:Nat):(a.add n).block=a.block:=by
 unfold Addr.add;split<;>rfl
theorem Inp.get {α:Type} {E:EncT α} {w0 w:World} {s:Sl} {xs:List α} {L:List Asn} (hi:Inp E w0 s xs) (h:Own w0.heap.size w0 w L) {j:Nat} {x:α} (hj:xs[j]?=some x):
  ∃a,s.a=some a/\∀c v,(E.enc x)[c]?=some v->w.cell? ((a.add (j*E.z)).add c)=some v:=by
 obtain ⟨a,h1,h2,h3⟩:=hi.got j x hj;refine ⟨a,h1,fun c v hv=>?_⟩;rw[h.below.cell (by rw[add_block,add_block];exact h2)];exact h3 c v hv
theorem Inp.lt {α:Type} {E:EncT α} {w0:World} {s:Sl} {xs:List α} (h:Inp E w0 s xs) {i:Nat} (hi:(i:Int)<(s.len:Int)):∃x,xs[i]?=some x:=⟨_,gE (by have:=h.len;omega)⟩
theorem slA_zero (a:Option Addr) (m z:Nat):slA a 0 m z=a:=by
 unfold slA;split
 ·rfl
 ·cases a with
  |none=>rfl
  |some x=>simp[Addr.add]
theorem add_two (a:Addr) (i j:Nat):(a.add i).add j=a.add (i+j):=by
 unfold Addr.add;by_cases hj:j=0
 ·subst hj;simp
 ·by_cases hi:i=0
  ·subst hi;simp[hj]
  ·simp[hi,hj,Nat.add_assoc]
section
variable {P:Program} {α:Type} {E:EncT α} {w0 w:World} {L:List Asn}
theorem flat_at (E:EncT α):∀(xs:List α) (i:Nat) (v:Value),(xs.flatMap E.enc)[i]?=some v->∃j x c,xs[j]?=some x/\(E.enc x)[c]?=some v/\i=j*E.z+c
 | [],i,v,h=>by simp at h
 |x::xs,i,v,h=>by
  rw[List.flatMap_cons] at h;by_cases hi:i<E.z
  ·rw[List.getElem?_append_left (by rw[E.len];exact hi)] at h
   exact ⟨0,x,i,rfl,h,by omega⟩
  ·rw[List.getElem?_append_right (by rw[E.len];omega),E.len] at h
   obtain ⟨j,y,c,h1,h2,h3⟩:=flat_at E xs (i-E.z) v h;exact ⟨j+1,y,c,h1,h2,by rw[Nat.add_mul];omega⟩
theorem Own.appI {T el:TypeId} {inf:TypeInfo} {zv:Value} {s x:Sl} {xs ys:List α} {n:Nat} {k:Sl->World->Prop}
  (hu:P.underlying T=some (.slice el)) (hf:P.info? el=some inf) (hz:inf.zero=some zv) (hsz:inf.size=E.z) (hzc:zv.cells.size=E.z) (hb:1≤inf.bytes) (hi:Inp E w0 x ys) (hn:n≤ys.length)
  (h:Own w0.heap.size w0 w L) (i:Nat) (hL:L[i]?=some (SlT E s xs)) (hbig:(17*(xs.length+n)+16000)*inf.bytes≤2^48)
  (hk:∀s' w',s'.len=xs.length+n->Own w0.heap.size w0 w' (L.set i (SlT E s' (xs++ys.take n)))->k s' w'):
  ∃s' w',AppR P [T,T] T (.slice s.a s.len s.cap) (.slice (slA x.a 0 x.cap E.z) (n-0) (x.cap-0)) w s' w'/\k s' w':=by
 rw[slA_zero];have hl:(ys.take n).length=n:=by rw[List.length_take];omega
 refine Own.appG (x:=⟨x.a,n-0,x.cap-0⟩) (ys:=ys.take n) hu hf hz hsz hzc hb h i hL (by rw[flat_len,hl];rfl) (fun W hW=>?_) (by rw[hl];rfl) (by rw[hl];exact hbig) (by rw[hl];exact hk);cases hx:x.a with
 |none=>
  have hy:ys.take n= []:=by
   cases ys with
   |nil=>simp
   |cons y ys=>obtain ⟨a,ha,_⟩:=hi.got 0 y rfl;rw[hx] at ha;cases ha
  rw[hy];rfl
 |some a=>
  have hc:∀j v,((ys.take n).flatMap E.enc)[j]?=some v->W.cell? (a.add j)=some v:=fun j v hv=>by
   obtain ⟨q,y,c,h1,h2,h3⟩:=flat_at E _ j v hv;rw[List.getElem?_take] at h1;split at h1
   ·obtain ⟨a',ha',hg⟩:=hi.get h h1
    rw[hx] at ha';cases ha';have:=hg c v h2;rw[add_two] at this;rw[h3];unfold World.cell? at this⊢;rw[hW];exact this
   ·cases h1
  have hlen:((ys.take n).flatMap E.enc).length=n*E.z:=by rw[flat_len,hl]
  simp only[Builtin.firstCells];unfold loadCells;have:=loadCellsFrom_run (P:=P) W a ((ys.take n).flatMap E.enc) 0 #[] (fun j v hj=>by rw[nth_eq] at hj;rw[Nat.zero_add];exact hc j v hj);rw[hlen] at this;rw[show n-0=n from rfl,this];simp
end
end Go.Vc
namespace Go.Vc
open Go
def eqL (f:TypeId->List Value->List Value->Option Bool) (z:TypeId->Nat) (xs ys:List Value):List (TypeId × Nat)->Option Bool
 | []=>some true
 |(t,o)::r=>match f t ((xs.drop o).take (z t)) ((ys.drop o).take (z t)),eqL f z xs ys r with
  |some p,some q=>some (p&&q)
  |_,_=>none
def eqX (P:Program):Nat->TypeId->List Value->List Value->Option Bool
 |0,_,_,_=>none
 |d+1,t,xs,ys=>match P.underlying t with
  |some .bool=>(match xs,ys with| [.bool a],[.bool b]=>some (a==b)|_,_=>none)
  |some (.int _)=>(match xs,ys with| [.int k a],[.int k' b]=>if k=k' then some (a==b) else none|_,_=>none)
  |some .string=>(match xs,ys with| [.string a],[.string b]=>some (a==b)|_,_=>none)
  |some (.array n e)=>if Nat.beq (P.cellsOf e) 0 then none else eqL (eqX P d) P.cellsOf xs ys ((List.range n).map fun i=>(e,i*P.cellsOf e))
  |some (.struct fs)=>if P.stoodInHeld t||fs.any (fun f=>f.name== "_" ||Nat.beq (P.cellsOf f.type) 0) then none else eqL (eqX P d) P.cellsOf xs ys (fs.toList.map fun f=>(f.type,f.offset))
  |_=>none
def valX (P:Program) (t:TypeId) (xs:List Value):Value:=match P.underlying t with
 |some (.array _ _)|some (.struct _)=> .agg ⟨xs⟩
 |_=>xs.headD (.bool false)
theorem part_x {P:Program} {t:TypeId} {d:Nat} {xs ys:List Value} {o:Nat} {r:Bool} (z0:P.cellsOf t≠0) (h:eqX P d t ((xs.drop o).take (P.cellsOf t)) ys=some r∨eqX P d t ys ((xs.drop o).take (P.cellsOf t))=some r) (w:World):
  (part t ⟨xs⟩ o).run P w= .ok (valX P t ((xs.drop o).take (P.cellsOf t))) w:=by
 have key:∀v,(xs.drop o).take (P.cellsOf t)= [v]->xs[o]?=some v:=fun v hv=>by
  have:((xs.drop o).take (P.cellsOf t))[0]?=some v:=by rw[hv];rfl
  rw[List.getElem?_take,if_pos (by omega),List.getElem?_drop] at this;simpa using this
 cases d with
 |zero=>rcases h with h|h<;>simp[eqX] at h
 |succ d=>
  cases hu:P.underlying t with
  |none=>rcases h with h|h<;>simp[eqX,hu] at h
  |some k=>
   have hi:∃i,P.info? t=some i:=by
    cases hi:P.info? t with
    |none=>simp[Program.underlying,hi] at hu
    |some i=>exact ⟨i,rfl⟩
   obtain ⟨i,hi⟩:=hi
   have plain:(∃v,(xs.drop o).take (P.cellsOf t)= [v])->(∀n e,k≠ .array n e)->(∀fs,k≠ .struct fs)->(part t ⟨xs⟩ o).run P w= .ok (valX P t ((xs.drop o).take (P.cellsOf t))) w:=by
    intro ⟨v,hv⟩ n1 n2;have hx:=key v hv;have hx':(⟨xs⟩:Array Value)[o]?=some v:=by simpa using hx
    rw[hv];cases k<;>simp_all [part,isAgg,run_underlying hu,valX]
   cases k with
   |array n e=>
    simp[part,isAgg,run_underlying hu,run_sizeOf w hi,valX,hu,List.extract]
   |struct fs=>simp[part,isAgg,run_underlying hu,run_sizeOf w hi,valX,hu,List.extract]
   |bool=>
    refine plain ?_ (by intros;simp) (by intros;simp);rcases h with h|h<;>simp only[eqX,hu] at h<;>split at h<;>simp_all
   |int q=>
    refine plain ?_ (by intros;simp) (by intros;simp);rcases h with h|h<;>simp only[eqX,hu] at h<;>split at h<;>simp_all
   |string=>
    refine plain ?_ (by intros;simp) (by intros;simp);rcases h with h|h<;>simp only[eqX,hu] at h<;>split at h<;>simp_all
   |_=>rcases h with h|h<;>simp[eqX,hu] at h
theorem equalIn_x {P:Program}:∀(d:Nat) {t:TypeId} {xs ys:List Value} {r:Bool},eqX P d t xs ys=some r->∀(dd:Nat) (w:World),d≤dd->(Op.equalIn dd t (valX P t xs) (valX P t ys)).run P w= .ok r w:=by
 intro d
 induction d with
 |zero=>intro t xs ys r h;simp[eqX] at h
 |succ d ih=>
  intro t xs ys r h dd w hd;obtain ⟨dd,rfl⟩:∃n,dd=n+1:=⟨dd-1,by omega⟩
  cases hu:P.underlying t with
  |none=>simp[eqX,hu] at h
  |some k=>
   simp only[eqX,hu] at h;cases k with
   |bool=>
    simp only at h;split at h
    ·cases h;simp only[valX,hu,List.headD];exact run_equalIn_bool w dd t _ _ hu
    ·cases h
   |int q=>
    simp only at h;split at h
    ·split at h
     ·rename_i e;subst e;cases h;simp only[valX,hu,List.headD];exact run_equalIn_int w dd t _ _ _ _ hu
     ·cases h
    ·cases h
   |string=>
    simp only at h;split at h
    ·cases h;simp only[valX,hu,List.headD,beq_toListBytes];exact run_equalIn_string w dd t _ _ hu
    ·cases h
   |array n e=>
    simp only at h;split at h
    ·cases h
    ·rename_i hz
     have hz:P.cellsOf e≠0:=fun e=>hz (by rw[e];rfl)
     have hi:∃i,P.info? e=some i:=by
      cases hi:P.info? e with
      |none=>exfalso;apply hz;simp[Program.cellsOf,hi]
      |some i=>exact ⟨i,rfl⟩
     obtain ⟨i,hi⟩:=hi;simp only[valX,hu];rw[run_equalIn_array w dd _ _ hu hi];generalize List.range n=is at h
     induction is generalizing r with
     |nil=>simp only[List.map_nil,eqL,Option.some.injEq] at h;subst h;simp[Op.eqItems]
     |cons j is ihl=>
      simp only[List.map_cons,eqL] at h;cases hp:eqX P d e ((xs.drop (j*P.cellsOf e)).take (P.cellsOf e)) ((ys.drop (j*P.cellsOf e)).take (P.cellsOf e)) with
      |none=>rw[hp] at h;simp at h
      |some p=>
       cases hq:eqL (eqX P d) P.cellsOf xs ys (is.map fun i=>(e,i*P.cellsOf e)) with
       |none=>rw[hp,hq] at h;simp at h
       |some q=>
        rw[hp,hq] at h;simp only[Option.some.injEq] at h;subst h;simp only[Op.eqItems,Sem.run_bind,part_x hz (.inl hp),part_x hz (.inr hp),Result.andThen_ok,ih hp dd w (by omega)];cases p
        ·simp
        ·simp only[Bool.not_true,Bool.false_eq_true,if_false,Bool.true_and];exact ihl hq
   |struct fs=>
    simp only at h;split at h
    ·cases h
    ·rename_i hc
     simp only[Bool.or_eq_true,not_or,Bool.not_eq_true] at hc;obtain ⟨hst,hfs⟩:=hc;have hf:P.fieldsOf t=fs:=by simp[Program.fieldsOf,hu]
     simp only[valX,hu];rw[run_equalIn_struct w dd t _ _ (by rw[hf];exact hu) hst,hf]
     have hfs:∀f∈fs.toList,f.name≠ "_" /\P.cellsOf f.type≠0:=fun f hf'=>by
      have:=(Array.any_eq_false'.1 hfs) f (Array.mem_toList_iff.1 hf');simp only[Bool.or_eq_true,beq_iff_eq,not_or] at this;exact ⟨this.1,fun e=>this.2 (by rw[e];rfl)⟩
     generalize fs.toList=ls at h hfs
     induction ls generalizing r with
     |nil=>simp only[List.map_nil,eqL,Option.some.injEq] at h;subst h;simp[Op.eqFields]
     |cons f ls ihl=>
      simp only[List.map_cons,eqL] at h;obtain ⟨hn,hz⟩:=hfs f (by simp);cases hp:eqX P d f.type ((xs.drop f.offset).take (P.cellsOf f.type)) ((ys.drop f.offset).take (P.cellsOf f.type)) with
      |none=>rw[hp] at h;simp at h
      |some p=>
       cases hq:eqL (eqX P d) P.cellsOf xs ys (ls.map fun f=>(f.type,f.offset)) with
       |none=>rw[hp,hq] at h;simp at h
       |some q=>
        rw[hp,hq] at h;simp only[Option.some.injEq] at h;subst h;simp only[Op.eqFields,hn,ne_eq,not_false_iff,if_true,Sem.run_bind,part_x hz (.inl hp),part_x hz (.inr hp),Result.andThen_ok,ih hp dd w (by omega)];cases p
        ·simp
        ·simp only[Bool.not_true,Bool.false_eq_true,if_false,Bool.true_and];exact ihl hq fun f hf'=>hfs f (by simp[hf'])
   |_=>simp at h
theorem eqB_x {P:Program} {t:TypeId} {x y:Operand} {xs ys:List Value} {r:Bool} (ha:valX P t xs= .agg ⟨xs⟩) (hb:valX P t ys= .agg ⟨ys⟩) (hg:P.eqGuardType P.depth t=false) (h:eqX P 9 t xs ys=some r):EqB P .eql t x y (.agg ⟨xs⟩) (.agg ⟨ys⟩) r:=by
 intro w;have:=equalIn_x 9 h 10000 w (by decide);rw[ha,hb] at this;simp only[Sem.run_bind,run_eqGuard_agg w .eql t x y _ _ hg,Result.andThen_ok,run_eql_struct,this]
theorem neB_x {P:Program} {t:TypeId} {x y:Operand} {xs ys:List Value} {r:Bool} (ha:valX P t xs= .agg ⟨xs⟩) (hb:valX P t ys= .agg ⟨ys⟩) (hg:P.eqGuardType P.depth t=false) (h:eqX P 9 t xs ys=some r):EqB P .neq t x y (.agg ⟨xs⟩) (.agg ⟨ys⟩) (!r):=by
 intro w;have:=equalIn_x 9 h 10000 w (by decide);rw[ha,hb] at this;simp only[Sem.run_bind,run_eqGuard_agg w .neq t x y _ _ hg,Result.andThen_ok,run_neq_struct,this]
end Go.Vc
namespace Go.Vc
open Go Go.ChangeShapes Go.WideShapes
inductive SK
 |int (k:IntKind)|bool|str
def SK.fit:SK->Value->Prop
 | .int k,v=>∃n,v= .int k n/\(Lit.int k n).wf=true
 | .bool,v=>∃b,v= .bool b
 | .str,v=>∃s:ByteArray,v= .string s/\s.size≤maxLen
def flatF (f:TypeId->Option (List SK)):List (TypeId × Nat)->Nat->Option (List SK)
 | [],_=>some []
 |(t,o')::r,o=>if Nat.beq o' o then (match f t with|some ks=>(flatF f r (o+ks.length)).map (ks++·)|none=>none) else none
def flatK (P:Program):Nat->TypeId->Option (List SK)
 |0,_=>none
 |d+1,t=>match P.underlying t with
  |some (.int k)=>some [.int k]
  |some .bool=>some [.bool]
  |some .string=>some [.str]
  |some (.struct fs)=>(match flatF (flatK P d) (fs.toList.map fun f=>(f.type,f.offset)) 0 with|some ks=>if Nat.beq ks.length (P.cellsOf t) then some ks else none|none=>none)
  |some (.array n e)=>(match flatF (flatK P d) ((List.range n).map fun i=>(e,i*P.cellsOf e)) 0 with|some ks=>if Nat.beq ks.length (P.cellsOf t) then some ks else none|none=>none)
  |_=>none
inductive Fits:List SK->List Value->Prop
 |nil:Fits [] []
 |cons {k:SK} {v:Value} {ks:List SK} {vs:List Value} (h:k.fit v) (hs:Fits ks vs):Fits (k::ks) (v::vs)
theorem Fits.length {ks:List SK} {vs:List Value} (h:Fits ks vs):vs.length=ks.length:=by induction h<;>simp_all
theorem Fits.append {ks ks':List SK} {vs vs':List Value} (h:Fits ks vs) (h':Fits ks' vs'):Fits (ks++ks') (vs++vs'):=by
 induction h with
 |nil=>exact h'
 |cons h _ ih=>exact .cons h ih
theorem Fits.cons_out {k:SK} {ks:List SK} {vs:List Value} (h:Fits (k::ks) vs):∃v vs',vs=v::vs'/\k.fit v/\Fits ks vs':=by
 cases h with
 |cons h hs=>exact ⟨_,_,rfl,h,hs⟩
theorem Fits.nil_out {vs:List Value} (h:Fits [] vs):vs= []:=by cases h;rfl
theorem flatF_fits {P:Program} {f:TypeId->Option (List SK)} {cs:List Value}:∀(l:List (TypeId × Nat)) (o:Nat) (ks:List SK),flatF f l o=some ks->(∀p∈l,∀ks,f p.1=some ks->Fits ks ((cs.drop p.2).take (P.cellsOf p.1)))->
  ∃vs,Fits ks vs/\cs.drop o=vs++cs.drop (o+ks.length)
 | [],o,ks,h,_=>by
  simp only[flatF,Option.some.injEq] at h;subst h;exact ⟨[], .nil,by simp⟩
 |(t,o')::r,o,ks,h,hp=>by
  simp only[flatF] at h;split at h
  ·rename_i ho
   have ho:=Nat.eq_of_beq_eq_true ho;subst ho;cases hf:f t with
   |none=>rw[hf] at h;cases h
   |some k1=>
    rw[hf] at h;simp only at h;cases hr:flatF f r (o'+k1.length) with
    |none=>rw[hr] at h;cases h
    |some k2=>
     rw[hr] at h;simp only[Option.map_some,Option.some.injEq] at h;subst h;have h1:=hp (t,o') (by simp) k1 hf;obtain ⟨vs,h2,h3⟩:=flatF_fits r _ _ hr fun p hp'=>hp p (by simp[hp'])
     refine ⟨_,h1.append h2,?_⟩;have hlen:min (P.cellsOf t) (cs.length-o')=k1.length:=by have:=h1.length;rwa [List.length_take,List.length_drop] at this
     rw[List.append_assoc,List.length_append,←Nat.add_assoc,←h3,←List.drop_drop]
     have:(cs.drop o').take (P.cellsOf t)=(cs.drop o').take k1.length:=by
      by_cases e:P.cellsOf t≤cs.length-o'
      ·rw[Nat.min_eq_left e] at hlen;rw[hlen]
      ·rw[Nat.min_eq_right (by omega)] at hlen
       rw[List.take_of_length_le (by rw[List.length_drop];omega),List.take_of_length_le (by rw[List.length_drop];omega)]
     show _=(cs.drop o').take (P.cellsOf t)++_;rw[this,List.take_append_drop]
  ·cases h
section
variable {H:Type} {enc:TypeId × Value->H} {P:Program} {w:World} {base:Nat} {spare:Nat->Bool} {held:Bool}
theorem flatK_fits:∀(d:Nat) {fuel:Nat} {t:TypeId} {cs:List Value} {x:DataW H × List MemPlace} {ks:List SK},flatK P d t=some ks->DataW.trod enc P w base spare held fuel t cs=some x->Fits ks cs:=by
 intro d
 induction d with
 |zero=>intro fuel t cs x ks h;simp[flatK] at h
 |succ d ih=>
  intro fuel t cs x ks h hx
  have all:∀(ks':List SK),cs.length=P.cellsOf t->Nat.beq ks'.length (P.cellsOf t)=true->(∃vs,Fits ks' vs/\cs.drop 0=vs++cs.drop (0+ks'.length))->Fits ks' cs:=by
   intro ks' h1 h2 ⟨vs,h3,h4⟩;have h2:=Nat.eq_of_beq_eq_true h2;rw[List.drop_zero,List.drop_eq_nil_of_le (by omega),List.append_nil] at h4;rw[h4];exact h3
  cases hu:P.underlying t with
  |none=>simp[flatK,hu] at h
  |some k=>
   simp only[flatK,hu] at h;cases k with
   |int q=>
    simp only[Option.some.injEq] at h;subst h;obtain ⟨n,rfl,_,hw⟩:=DataW.trod_int hu hx;exact .cons ⟨n,rfl,hw⟩ .nil
   |bool=>
    simp only[Option.some.injEq] at h;subst h;obtain ⟨b,rfl,_⟩:=DataW.trod_bool hu hx;exact .cons ⟨b,rfl⟩ .nil
   |string=>
    simp only[Option.some.injEq] at h;subst h;obtain ⟨s,rfl,_,hs⟩:=DataW.trod_string hu hx;exact .cons ⟨s,rfl,hs⟩ .nil
   |struct fs=>
    simp only at h;cases hf:flatF (flatK P d) (fs.toList.map fun f=>(f.type,f.offset)) 0 with
    |none=>rw[hf] at h;cases h
    |some ks'=>
     rw[hf] at h;simp only at h;split at h
     ·rename_i hl
      cases h;obtain ⟨xs,n,rfl,rfl,hlen,hxl,hall⟩:=DataW.trod_struct hu hx;refine all _ hlen hl (flatF_fits (P:=P) _ _ _ hf fun p hp ks'' hk=>?_);obtain ⟨f,hf',rfl⟩:=List.mem_map.1 hp;obtain ⟨i,hi⟩:=List.getElem?_of_mem hf';have hi':fs[i]?=some f:=by simpa using hi
      have hlt:i<xs.length:=by rw[hxl];exact (Array.getElem?_eq_some_iff.1 hi').1
      have:=hall i f hi';rw[gE hlt] at this;exact ih hk this
     ·cases h
   |array n e=>
    simp only at h;cases hf:flatF (flatK P d) ((List.range n).map fun i=>(e,i*P.cellsOf e)) 0 with
    |none=>rw[hf] at h;cases h
    |some ks'=>
     rw[hf] at h;simp only at h;split at h
     ·rename_i hl
      cases h
      obtain ⟨xs,n',rfl,hlen,hall⟩:∃(xs:List (DataW H × List MemPlace)) (m:Nat),fuel=m+1/\cs.length=P.cellsOf t/\∀i,i<n->∃y,DataW.trod enc P w base spare held m e ((cs.drop (i*P.cellsOf e)).take (P.cellsOf e))=some y:=by
       cases fuel with
       |zero=>simp[DataW.trod] at hx
       |succ m=>
        unfold DataW.trod at hx;rw[hu] at hx;simp only at hx;split at hx
        ·rename_i hl2
         simp only[Option.map_eq_some_iff] at hx;obtain ⟨xs,hp,_⟩:=hx;refine ⟨xs,m,rfl,hl2,fun i hi=>?_⟩;have hg:=mapM_some_get hp i i (by simp[hi]);have hl3:=mapM_some_length hp;rw[gE (by rw[List.length_range] at hl3;omega)] at hg;exact ⟨_,hg⟩
        ·cases hx
      refine all _ hlen hl (flatF_fits (P:=P) _ _ _ hf fun p hp ks'' hk=>?_);obtain ⟨i,hi,rfl⟩:=List.mem_map.1 hp;obtain ⟨y,hy⟩:=hall i (List.mem_range.1 hi);exact ih hk hy
     ·cases h
   |_=>simp at h
theorem cell_lt {w:World} {a:Addr} {v:Value} (h:w.cell? a=some v):a.block<w.heap.size:=by
 refine Nat.lt_of_not_le fun hn=>?_
 have:w.heap[a.block]?=none:=by simp[hn]
 unfold World.cell? at h;simp[this] at h
theorem inp_of {α:Type} {E:EncT α} {good:α->Prop} {t e:TypeId} {W:World} {sp:Nat->Bool} {a:Option Addr} {len cap d:Nat} {dd:DataW H} {ps:List MemPlace} {ks:List SK} (ht:P.underlying t=some (.slice e)) (hz:P.cellsOf e=E.z) (hk:flatK P d e=some ks)
  (dec:∀cs,Fits ks cs->∃x,cs=E.enc x/\good x) (h:DataW.Trod enc P W 0 sp held t (.slice a len cap) dd ps):∃xs,Inp E W ⟨a,len,cap⟩ xs/\∀x∈xs,good x:=by
 obtain ⟨fuel,h⟩:=h;rcases Go.Deep.open_slice ht h with ⟨hcs,_⟩|⟨a',len',cap',m,n,D,Pl,hcs,_,hl,hm,hmm,_,hel⟩
 ·simp[Value.cells] at hcs
  obtain ⟨rfl,rfl,rfl⟩:=hcs;exact ⟨[],⟨rfl,Nat.le_refl _,(fun j x hj=>by simp at hj)⟩,(fun x hx=>by cases hx)⟩
 ·simp[Value.cells] at hcs
  obtain ⟨rfl,rfl,rfl⟩:=hcs;have hmlen:len≤m:=by rw[hmm];split<;>omega
  have one:∀i,i<len->∃x,good x/\a'.block<W.heap.size/\∀c v,(E.enc x)[c]?=some v->W.cell? ((a'.add (i*E.z)).add c)=some v:=fun i hi=>by
   obtain ⟨cs',h1,h2⟩:=hel i (by omega);obtain ⟨_,h3,h4⟩:=World.cells?_some h1;obtain ⟨x,rfl,hg⟩:=dec cs' (flatK_fits d hk h2);rw[hz] at h4;have hpos:=E.pos;refine ⟨x,hg,?_,fun c v hv=>?_⟩
   ·have:=h4 0 hpos
    rw[gE (by rw[E.len];exact hpos)] at this;have:=cell_lt this
    rwa [add_block,add_block] at this
   ·rw[h4 c (by have:=(List.getElem?_eq_some_iff.1 hv).1;rw[E.len] at this;exact this)]
    exact hv
  have ex:∀n,n≤len->∃xs:List α,xs.length=n/\(∀x∈xs,good x)/\∀j x,xs[j]?=some x->a'.block<W.heap.size/\∀c v,(E.enc x)[c]?=some v->W.cell? ((a'.add (j*E.z)).add c)=some v:=by
   intro n
   induction n with
   |zero=>intro _;exact ⟨[],rfl,(fun x hx=>by cases hx),(fun j x hj=>by simp at hj)⟩
   |succ n ih=>
    intro hn;obtain ⟨xs,h1,h2,h3⟩:=ih (by omega);obtain ⟨x,h4,h5,h6⟩:=one n (by omega);refine ⟨xs++ [x],by simp[h1],fun y hy=>?_,fun j y hj=>?_⟩
    ·rcases List.mem_append.1 hy with hy|hy
     ·exact h2 y hy
     ·simp only[List.mem_singleton] at hy;subst hy;exact h4
    ·by_cases hjn:j<xs.length
     ·rw[List.getElem?_append_left hjn] at hj;exact h3 j y hj
     ·rw[List.getElem?_append_right (by omega)] at hj
      have hj0:j-xs.length=0:=by
       refine Classical.byContradiction fun hne=>?_
       rw[List.getElem?_eq_none (by simp;omega)] at hj;cases hj
      rw[hj0] at hj;simp only[List.getElem?_cons_zero,Option.some.injEq] at hj;subst hj;have:j=n:=by omega
      subst this;exact ⟨h5,h6⟩
  obtain ⟨xs,h1,h2,h3⟩:=ex len (Nat.le_refl _);exact ⟨xs,⟨h1.symm,‹len≤cap›,fun j x hj=>⟨a',rfl,h3 j x hj⟩⟩,h2⟩
end
theorem okF_out {P:Program} {f:FuncId} {p:Prop} (h:okF P f p):p:=by
 unfold okF at h;split at h
 ·exact h.elim
 ·split at h
  ·exact h.elim
  ·exact h
end Go.Vc
namespace Go.Vc
open Go
section
variable {P:Program}
theorem findAsking_run {K:Type} [DecidableEq K] {kt:TypeId} {enc:K->Value} (heq:∀k x w,(Op.equal kt (enc k) (enc x)).run P w= .ok (decide (x=k)) w) (k:K):∀(es:List MapEntry) (ks:List K) (j:Nat) (w:World),es.map (·.key)=ks.map enc->
  (Instr.findAsking kt (enc k) es j).run P w= .ok ((ks.findIdx? fun x=>decide (x=k)).bind fun i=>(es[i]?).map fun e=>(j+i,e.val)) w
 | [],ks,j,w,h=>by
  cases ks with
  |nil=>simp[Instr.findAsking]
  |cons _ _=>simp at h
 |e::es,ks,j,w,h=>by
  cases ks with
  |nil=>simp at h
  |cons x ks=>
   simp only[List.map_cons,List.cons.injEq] at h;simp only[Instr.findAsking,Sem.run_bind,h.1,heq,Result.andThen_ok];by_cases hx:x=k
   ·subst hx;simp[List.findIdx?_cons]
   ·simp only[hx,decide_false,Bool.false_eq_true,if_false]
    rw[findAsking_run heq k es ks (j+1) w h.2];simp only[List.findIdx?_cons,hx,decide_false,Bool.false_eq_true,if_false];cases hq:ks.findIdx? (fun x=>decide (x=k)) with
    |none=>rfl
    |some q=>
     simp only[Option.bind_some,Option.map_some,List.getElem?_cons_succ];congr 3;funext e;congr 1;omega
def encPair (p:Int × Int):Value:= .agg #[.int .i64 p.1, .int .i64 p.2]
theorem keyOk_pair {kt:TypeId} {f0 f1:Field} (hu:P.underlying kt=some (.struct #[f0,f1])) (h0:P.underlying f0.type=some (.int .i64)) (h1:P.underlying f1.type=some (.int .i64)) (n0:f0.name≠ "_") (n1:f1.name≠ "_") (o0:f0.offset=0) (o1:f1.offset=1)
  (heq:∀a b c d:Int,eqX P 9 kt [.int .i64 a, .int .i64 b] [.int .i64 c, .int .i64 d]=some (a==c&&(b==d&&true))):KeyOk P kt encPair:=by
 refine ⟨fun em k w=>?_,fun k es ks w h=>?_,fun k=>by unfold Instr.sameBits encPair;simp[Instr.sameBits]⟩
 ·have p0:(part f0.type #[Value.int .i64 k.1, .int .i64 k.2] f0.offset).run P w= .ok (.int .i64 k.1) w:=run_part_plain w (by simp[Program.plainKey,h0]) (by rw[o0];rfl)
  have p1:(part f1.type #[Value.int .i64 k.1, .int .i64 k.2] f1.offset).run P w= .ok (.int .i64 k.2) w:=run_part_plain w (by simp[Program.plainKey,h1]) (by rw[o1];rfl)
  have c0:∀n v,(Instr.checkKey em (n+1) f0.type (.int .i64 v)).run P w= .ok () w:=fun n v=>by
   unfold Instr.checkKey;rw[Sem.run_bind,run_underlying h0];rfl
  have c1:∀n v,(Instr.checkKey em (n+1) f1.type (.int .i64 v)).run P w= .ok () w:=fun n v=>by
   unfold Instr.checkKey;rw[Sem.run_bind,run_underlying h1];rfl
  unfold Instr.checkKey encPair;rw[Sem.run_bind,run_underlying hu];simp only[Result.andThen_ok];rw[←Array.forIn_toList];simp[n0,n1,Sem.run_bind,p0,p1,c0,c1]
 ·have heq':∀(k x:Int × Int) (w:World),(Op.equal kt (encPair k) (encPair x)).run P w= .ok (decide (x=k)) w:=fun k x w=>by
   have:=equalIn_x 9 (heq k.1 k.2 x.1 x.2) 10000 w (by decide);have e:∀p:Int × Int,valX P kt [.int .i64 p.1, .int .i64 p.2]=encPair p:=fun p=>by simp[valX,hu,encPair]
   rw[e k,e x] at this;show (Op.equalIn 10000 kt (encPair k) (encPair x)).run P w=_;rw[this];congr 1;rw[Bool.eq_iff_iff];simp only[Bool.and_true,Bool.and_eq_true,beq_iff_eq,decide_eq_true_eq,Prod.ext_iff];constructor
   ·rintro ⟨h1,h2⟩;exact ⟨h1.symm,h2.symm⟩
   ·rintro ⟨h1,h2⟩;exact ⟨h1.symm,h2.symm⟩
  rw[run_findKey_eq w (by simp[hu])];have:=findAsking_run heq' k es ks 0 w h;simpa using this
end
end Go.Vc
namespace Go.Vc
open Go
theorem set_putAt {l:List Value} {o:Nat} {v:Value} {vs:List Value} (h:o+(vs.length+1)≤l.length):putAt (l.set o v) (o+1) vs=putAt l o (v::vs):=by
 apply List.ext_getElem?;intro i;rw[putAt_get _ _ _ _ (by rw[List.length_set];omega),putAt_get _ _ _ _ (by simpa using h)];simp only[List.length_cons,List.getElem?_set];by_cases e:o=i
 ·subst e
  rw[if_neg (by omega),if_pos rfl,if_pos (by omega),if_pos (by omega),Nat.sub_self];rfl
 ·by_cases e2:o+1≤i/\i<o+1+vs.length
  ·rw[if_pos e2,if_pos (by omega),show i-o=(i-(o+1))+1 from by omega,List.getElem?_cons_succ]
  ·rw[if_neg e2,if_neg e,if_neg (by omega)]
theorem StL.mk' {b:Nat}:∀(vs:List Value) {w:World} {o p:Nat} {l:List Value} {k:World->Prop},Blk w b l->o+p+vs.length≤l.length->vs.all Value.oneCell'=true->
  (∀w',Upd (·=b) w w'->w'.heap.size=w.heap.size->Blk w' b (putAt l (o+p) vs)->k w')->StL w ⟨b,o,none⟩ p vs k
 | [],w,o,p,l,k,hb,_,_,hk=>hk w (Upd.refl _ _) rfl (by rw[putAt_nil];exact hb)
 |v::vs,w,o,p,l,k,hb,hl,hone,hk=>by
  simp only[List.all_cons,Bool.and_eq_true] at hone;simp only[List.length_cons] at hl;show St w ((Addr.mk b o none).add p) v _;rw[add_mk];refine St.mk' hb (by omega) hone.1 fun w' hu hs hb'=>?_
  refine StL.mk' vs hb' (by rw[List.length_set];omega) hone.2 fun w2 hu2 hs2 hb2=>?_
  refine hk w2 (hu.then hu2) (hs2.trans hs) ?_;rw[show o+(p+1)=o+p+1 from by omega,set_putAt (by omega)] at hb2;exact hb2
theorem putAt_len {l:List Value} {o:Nat} {vs:List Value} (h:o+vs.length≤l.length):(putAt l o vs).length=l.length:=by
 apply Nat.le_antisymm
 ·refine Nat.le_of_not_lt fun hlt=>?_
  have:=putAt_get l o vs l.length h;rw[if_neg (by omega),List.getElem?_eq_none (Nat.le_refl _)] at this;rw[gE hlt] at this;cases this
 ·refine Nat.le_of_not_lt fun hlt=>?_
  have:=putAt_get l o vs (putAt l o vs).length h;rw[List.getElem?_eq_none (Nat.le_refl _)] at this;split at this
  ·rename_i h2
   rw[gE (by omega)] at this;cases this
  ·rw[gE hlt] at this;cases this
section
variable {P:Program} {B:Nat} {w0 w:World} {L R:List Asn} {α:Type} {E:EncT α}
theorem Own.stL {b o:Nat} {l vs:List Value} {k:World->Prop} (h:Own B w0 w L) (i:Nat) (hi:L[i]?=some (BlkA b l)) (hle:Nat.ble (o+vs.length) l.length=true) (hone:vs.all Value.oneCell'=true)
  (hk:∀w',Own B w0 w' (L.set i (BlkA b (putAt l o vs)))->k w'):StL w ⟨b,o,none⟩ 0 vs k:=
 StL.mk' vs (h.blk i hi) (Nat.le_of_ble_eq_true hle) hone fun w' hu hs hb=>hk w' (((h.take i hi).step (A':=BlkA b (putAt l o vs)) fun G hA hG=>⟨hu.mono fun k _ e=>by rw[e];exact hA.1,G,⟨hA.1,hb⟩,fun k hk=>⟨.inl hk,by have:=(hG k hk).2;omega⟩⟩).put (lt_of_get hi))
theorem Own.stEL {s:Sl} {xs:List α} {k:World->Prop} (h:Own B w0 w L) (i:Nat) (hi:L[i]?=some (SlT E s xs)) {j:Nat} (hj:j<xs.length) (x:α) {b o:Nat} (ha:s.a=some ⟨b,o,none⟩)
  (hk:∀w',Own B w0 w' (L.set i (SlT E s (xs.set j x)))->k w'):StL w ⟨b,o+j*E.z,none⟩ 0 (E.enc x) k:=by
 have hone:(E.enc x).all Value.oneCell'=true:=List.all_eq_true.2 fun v hv=>E.one x v hv
 have hs:=h.slO i hi;have hl:=h.len i hi;cases hs with
 |nil ha' _ _ _=>rw[ha'] at ha;cases ha
 |mk b' o' l ha' hb hle hc hcs=>
  rw[ha'] at ha;simp only[Option.some.injEq,Addr.mk.injEq,and_true] at ha;obtain ⟨rfl,rfl⟩:=ha;have hfl:=flat_len E xs;have hlx:=E.len x;have m1:(j+1)*E.z≤xs.length*E.z:=Nat.mul_le_mul_right _ (by omega);rw[Nat.succ_mul] at m1;have m2:s.len*E.z≤s.cap*E.z:=Nat.mul_le_mul_right _ hle;rw[hl] at m2;have hfit:o'+j*E.z+(E.enc x).length≤l.length:=by rw[hlx];omega
  refine StL.mk' (E.enc x) (o:=o'+j*E.z) (p:=0) hb (by simpa using hfit) hone fun w' hu hsz hb'=>hk w' (((h.take i hi).step (A':=SlT E s (xs.set j x)) fun G hA hG=>⟨hu.mono fun k _ e=>by rw[e];exact hA.1 _ ha',G,⟨hA.1,by simpa using hl,?_⟩,fun k hk=>⟨.inl hk,by have:=(hG k hk).2;omega⟩⟩).put (lt_of_get hi))
  refine .mk b' o' _ ha' hb' hle (by rw[putAt_len (by simpa using hfit)];exact hc) ?_;rw[flat_set E xs j x hj,hcs,Nat.add_zero];apply List.ext_getElem?;intro t;have hlen2:((l.drop o').take (s.len*E.z)).length=xs.length*E.z:=by rw[←hcs];exact hfl
  rw[putAt_get _ _ _ _ (by rw[hlen2,hlx];omega),List.getElem?_take,List.getElem?_take,List.getElem?_drop,List.getElem?_drop,putAt_get _ _ _ _ hfit,hlx];have hz:s.len*E.z=xs.length*E.z:=by rw[hl]
  by_cases e:j*E.z≤t/\t<j*E.z+E.z
  ·rw[if_pos e,if_pos (by omega),if_pos (by omega)]
   congr 1;omega
  ·rw[if_neg e]
   split
   ·rw[if_neg (by omega)]
   ·rfl
theorem Own.stF {s:Sl} {xs:List α} {k:World->Prop} {x:α} {v:Value} (h:Own B w0 w L) (i:Nat) (hi:L[i]?=some (SlT E s xs)) {j c:Nat} (hj:xs[j]?=some x) (x':α) (hx:E.enc x'=(E.enc x).set c v) (hc:c<E.z) (hv:v.oneCell'=true) {b o:Nat} (ha:s.a=some ⟨b,o,none⟩)
  (hk:∀w',Own B w0 w' (L.set i (SlT E s (xs.set j x')))->k w'):St w ⟨b,o+j*E.z+c,none⟩ v k:=by
 have hs:=h.slO i hi;have hl:=h.len i hi;have hjl:=(List.getElem?_eq_some_iff.1 hj).1;cases hs with
 |nil ha' _ _ _=>rw[ha'] at ha;cases ha
 |mk b' o' l ha' hb hle hc' hcs=>
  rw[ha'] at ha;simp only[Option.some.injEq,Addr.mk.injEq,and_true] at ha;obtain ⟨rfl,rfl⟩:=ha;have hfl:=flat_len E xs;have hlx:=E.len x;have hlx':=E.len x';have m1:(j+1)*E.z≤xs.length*E.z:=Nat.mul_le_mul_right _ (by omega);rw[Nat.succ_mul] at m1;have m2:s.len*E.z≤s.cap*E.z:=Nat.mul_le_mul_right _ hle;rw[hl] at m2;refine St.mk' hb (by omega) hv fun w' hu hsz hb'=>hk w' (((h.take i hi).step (A':=SlT E s (xs.set j x')) fun G hA hG=>⟨hu.mono fun k _ e=>by rw[e];exact hA.1 _ ha',G,⟨hA.1,by simpa using hl,?_⟩,fun k hk=>⟨.inl hk,by have:=(hG k hk).2;omega⟩⟩).put (lt_of_get hi))
  refine .mk b' o' _ ha' hb' hle (by rw[List.length_set];exact hc') ?_;rw[flat_set E xs j x' hjl];apply List.ext_getElem?;intro t;rw[putAt_get _ _ _ _ (by rw[hfl,hlx'];omega),hlx',List.getElem?_take,List.getElem?_drop,List.getElem?_set];have hz:s.len*E.z=xs.length*E.z:=by rw[hl]
  have hold:(xs.flatMap E.enc)[t]?=if t<s.len*E.z then l[o'+t]? else none:=by rw[hcs,List.getElem?_take,List.getElem?_drop]
  by_cases e:j*E.z≤t/\t<j*E.z+E.z
  ·rw[if_pos e,hx,List.getElem?_set,hlx]
   have hg:=flat_get E xs j (t-j*E.z) x hj (by omega);rw[show j*E.z+(t-j*E.z)=t from by omega,hold,if_pos (by omega)] at hg;rw[if_pos (show t<s.len*E.z by omega),←hg];by_cases e2:c=t-j*E.z
   ·rw[if_pos e2,if_pos hc,if_pos (by omega),if_pos (by omega)]
   ·rw[if_neg e2,if_neg (by omega)]
  ·rw[if_neg e,hold]
   split
   ·rw[if_neg (by omega)]
   ·rfl
theorem Own.ld_2 {b o:Nat} {l:List Value} {c0 c1:Sc} {x0:c0.D} {x1:c1.D} {f:c0.D->c1.D->Prop} (h:Own B w0 w L) (i:Nat) (hi:L[i]?=some (BlkA b l)) (hl:(l.drop o).take 2= [c0.mk x0,c1.mk x1]) (hf:f x0 x1):LdL w ⟨b,o,none⟩ 0 [c0,c1] f:=by
 have g:∀j,j<2->w.cell? ((Addr.mk b o none).add j)= [c0.mk x0,c1.mk x1][j]?:=fun j hj=>by rw[add_mk,(h.blk i hi).cell,←hl,List.getElem?_take,if_pos hj,List.getElem?_drop]
 exact ⟨_,g 0 (by decide),_,g 1 (by decide),hf⟩
theorem Own.ld_3 {b o:Nat} {l:List Value} {c0 c1 c2:Sc} {x0:c0.D} {x1:c1.D} {x2:c2.D} {f:c0.D->c1.D->c2.D->Prop} (h:Own B w0 w L) (i:Nat) (hi:L[i]?=some (BlkA b l)) (hl:(l.drop o).take 3= [c0.mk x0,c1.mk x1,c2.mk x2]) (hf:f x0 x1 x2):LdL w ⟨b,o,none⟩ 0 [c0,c1,c2] f:=by
 have g:∀j,j<3->w.cell? ((Addr.mk b o none).add j)= [c0.mk x0,c1.mk x1,c2.mk x2][j]?:=fun j hj=>by rw[add_mk,(h.blk i hi).cell,←hl,List.getElem?_take,if_pos hj,List.getElem?_drop]
 exact ⟨_,g 0 (by decide),_,g 1 (by decide),_,g 2 (by decide),hf⟩
theorem Own.ld_4 {b o:Nat} {l:List Value} {c0 c1 c2 c3:Sc} {x0:c0.D} {x1:c1.D} {x2:c2.D} {x3:c3.D} {f:c0.D->c1.D->c2.D->c3.D->Prop} (h:Own B w0 w L) (i:Nat) (hi:L[i]?=some (BlkA b l)) (hl:(l.drop o).take 4= [c0.mk x0,c1.mk x1,c2.mk x2,c3.mk x3]) (hf:f x0 x1 x2 x3):LdL w ⟨b,o,none⟩ 0 [c0,c1,c2,c3] f:=by
 have g:∀j,j<4->w.cell? ((Addr.mk b o none).add j)= [c0.mk x0,c1.mk x1,c2.mk x2,c3.mk x3][j]?:=fun j hj=>by rw[add_mk,(h.blk i hi).cell,←hl,List.getElem?_take,if_pos hj,List.getElem?_drop]
 exact ⟨_,g 0 (by decide),_,g 1 (by decide),_,g 2 (by decide),_,g 3 (by decide),hf⟩
theorem Own.ld_6 {b o:Nat} {l:List Value} {c0 c1 c2 c3 c4 c5:Sc} {x0:c0.D} {x1:c1.D} {x2:c2.D} {x3:c3.D} {x4:c4.D} {x5:c5.D} {f:c0.D->c1.D->c2.D->c3.D->c4.D->c5.D->Prop} (h:Own B w0 w L) (i:Nat) (hi:L[i]?=some (BlkA b l)) (hl:(l.drop o).take 6= [c0.mk x0,c1.mk x1,c2.mk x2,c3.mk x3,c4.mk x4,c5.mk x5]) (hf:f x0 x1 x2 x3 x4 x5):LdL w ⟨b,o,none⟩ 0 [c0,c1,c2,c3,c4,c5] f:=by
 have g:∀j,j<6->w.cell? ((Addr.mk b o none).add j)= [c0.mk x0,c1.mk x1,c2.mk x2,c3.mk x3,c4.mk x4,c5.mk x5][j]?:=fun j hj=>by rw[add_mk,(h.blk i hi).cell,←hl,List.getElem?_take,if_pos hj,List.getElem?_drop]
 exact ⟨_,g 0 (by decide),_,g 1 (by decide),_,g 2 (by decide),_,g 3 (by decide),_,g 4 (by decide),_,g 5 (by decide),hf⟩
theorem Own.ld_7 {b o:Nat} {l:List Value} {c0 c1 c2 c3 c4 c5 c6:Sc} {x0:c0.D} {x1:c1.D} {x2:c2.D} {x3:c3.D} {x4:c4.D} {x5:c5.D} {x6:c6.D} {f:c0.D->c1.D->c2.D->c3.D->c4.D->c5.D->c6.D->Prop} (h:Own B w0 w L) (i:Nat) (hi:L[i]?=some (BlkA b l)) (hl:(l.drop o).take 7= [c0.mk x0,c1.mk x1,c2.mk x2,c3.mk x3,c4.mk x4,c5.mk x5,c6.mk x6]) (hf:f x0 x1 x2 x3 x4 x5 x6):LdL w ⟨b,o,none⟩ 0 [c0,c1,c2,c3,c4,c5,c6] f:=by
 have g:∀j,j<7->w.cell? ((Addr.mk b o none).add j)= [c0.mk x0,c1.mk x1,c2.mk x2,c3.mk x3,c4.mk x4,c5.mk x5,c6.mk x6][j]?:=fun j hj=>by rw[add_mk,(h.blk i hi).cell,←hl,List.getElem?_take,if_pos hj,List.getElem?_drop]
 exact ⟨_,g 0 (by decide),_,g 1 (by decide),_,g 2 (by decide),_,g 3 (by decide),_,g 4 (by decide),_,g 5 (by decide),_,g 6 (by decide),hf⟩
theorem Own.ld_8 {b o:Nat} {l:List Value} {c0 c1 c2 c3 c4 c5 c6 c7:Sc} {x0:c0.D} {x1:c1.D} {x2:c2.D} {x3:c3.D} {x4:c4.D} {x5:c5.D} {x6:c6.D} {x7:c7.D} {f:c0.D->c1.D->c2.D->c3.D->c4.D->c5.D->c6.D->c7.D->Prop} (h:Own B w0 w L) (i:Nat) (hi:L[i]?=some (BlkA b l)) (hl:(l.drop o).take 8= [c0.mk x0,c1.mk x1,c2.mk x2,c3.mk x3,c4.mk x4,c5.mk x5,c6.mk x6,c7.mk x7]) (hf:f x0 x1 x2 x3 x4 x5 x6 x7):LdL w ⟨b,o,none⟩ 0 [c0,c1,c2,c3,c4,c5,c6,c7] f:=by
 have g:∀j,j<8->w.cell? ((Addr.mk b o none).add j)= [c0.mk x0,c1.mk x1,c2.mk x2,c3.mk x3,c4.mk x4,c5.mk x5,c6.mk x6,c7.mk x7][j]?:=fun j hj=>by rw[add_mk,(h.blk i hi).cell,←hl,List.getElem?_take,if_pos hj,List.getElem?_drop]
 exact ⟨_,g 0 (by decide),_,g 1 (by decide),_,g 2 (by decide),_,g 3 (by decide),_,g 4 (by decide),_,g 5 (by decide),_,g 6 (by decide),_,g 7 (by decide),hf⟩
theorem Own.ld_10 {b o:Nat} {l:List Value} {c0 c1 c2 c3 c4 c5 c6 c7 c8 c9:Sc} {x0:c0.D} {x1:c1.D} {x2:c2.D} {x3:c3.D} {x4:c4.D} {x5:c5.D} {x6:c6.D} {x7:c7.D} {x8:c8.D} {x9:c9.D} {f:c0.D->c1.D->c2.D->c3.D->c4.D->c5.D->c6.D->c7.D->c8.D->c9.D->Prop} (h:Own B w0 w L) (i:Nat) (hi:L[i]?=some (BlkA b l)) (hl:(l.drop o).take 10= [c0.mk x0,c1.mk x1,c2.mk x2,c3.mk x3,c4.mk x4,c5.mk x5,c6.mk x6,c7.mk x7,c8.mk x8,c9.mk x9]) (hf:f x0 x1 x2 x3 x4 x5 x6 x7 x8 x9):LdL w ⟨b,o,none⟩ 0 [c0,c1,c2,c3,c4,c5,c6,c7,c8,c9] f:=by
 have g:∀j,j<10->w.cell? ((Addr.mk b o none).add j)= [c0.mk x0,c1.mk x1,c2.mk x2,c3.mk x3,c4.mk x4,c5.mk x5,c6.mk x6,c7.mk x7,c8.mk x8,c9.mk x9][j]?:=fun j hj=>by rw[add_mk,(h.blk i hi).cell,←hl,List.getElem?_take,if_pos hj,List.getElem?_drop]
 exact ⟨_,g 0 (by decide),_,g 1 (by decide),_,g 2 (by decide),_,g 3 (by decide),_,g 4 (by decide),_,g 5 (by decide),_,g 6 (by decide),_,g 7 (by decide),_,g 8 (by decide),_,g 9 (by decide),hf⟩
theorem Own.ld_12 {b o:Nat} {l:List Value} {c0 c1 c2 c3 c4 c5 c6 c7 c8 c9 c10 c11:Sc} {x0:c0.D} {x1:c1.D} {x2:c2.D} {x3:c3.D} {x4:c4.D} {x5:c5.D} {x6:c6.D} {x7:c7.D} {x8:c8.D} {x9:c9.D} {x10:c10.D} {x11:c11.D} {f:c0.D->c1.D->c2.D->c3.D->c4.D->c5.D->c6.D->c7.D->c8.D->c9.D->c10.D->c11.D->Prop} (h:Own B w0 w L) (i:Nat) (hi:L[i]?=some (BlkA b l)) (hl:(l.drop o).take 12= [c0.mk x0,c1.mk x1,c2.mk x2,c3.mk x3,c4.mk x4,c5.mk x5,c6.mk x6,c7.mk x7,c8.mk x8,c9.mk x9,c10.mk x10,c11.mk x11]) (hf:f x0 x1 x2 x3 x4 x5 x6 x7 x8 x9 x10 x11):LdL w ⟨b,o,none⟩ 0 [c0,c1,c2,c3,c4,c5,c6,c7,c8,c9,c10,c11] f:=by
 have g:∀j,j<12->w.cell? ((Addr.mk b o none).add j)= [c0.mk x0,c1.mk x1,c2.mk x2,c3.mk x3,c4.mk x4,c5.mk x5,c6.mk x6,c7.mk x7,c8.mk x8,c9.mk x9,c10.mk x10,c11.mk x11][j]?:=fun j hj=>by rw[add_mk,(h.blk i hi).cell,←hl,List.getElem?_take,if_pos hj,List.getElem?_drop]
 exact ⟨_,g 0 (by decide),_,g 1 (by decide),_,g 2 (by decide),_,g 3 (by decide),_,g 4 (by decide),_,g 5 (by decide),_,g 6 (by decide),_,g 7 (by decide),_,g 8 (by decide),_,g 9 (by decide),_,g 10 (by decide),_,g 11 (by decide),hf⟩
end
end Go.Vc
namespace Go.Vc
open Go
theorem cdec {p:Prop} [Decidable p] {A C:Prop} (h1:p->A) (h2:¬p->C):bif decide p then A else C:=by
 by_cases h:p
 ·rw[decide_eq_true h];exact h1 h
 ·rw[decide_eq_false h];exact h2 h
theorem cdecT {p:Prop} [Decidable p] {A C:Prop} (h:p) (h1:A):bif decide p then A else C:=by rw[decide_eq_true h];exact h1
theorem cdecF {p:Prop} [Decidable p] {A C:Prop} (h:¬p) (h1:C):bif decide p then A else C:=by rw[decide_eq_false h];exact h1
theorem cb {b:Bool} {A C:Prop} (h1:b=true->A) (h2:b=false->C):bif b then A else C:=by
 cases b with
 |true=>exact h1 rfl
 |false=>exact h2 rfl
theorem cbT {b:Bool} {A C:Prop} (h:b=true) (h1:A):bif b then A else C:=by rw[h];exact h1
theorem cbF {b:Bool} {A C:Prop} (h:b=false) (h1:C):bif b then A else C:=by rw[h];exact h1
theorem cnb {b:Bool} {A C:Prop} (h1:b=false->A) (h2:b=true->C):bif !b then A else C:=by
 cases b with
 |true=>exact h2 rfl
 |false=>exact h1 rfl
theorem ceq {x y:Int} {A C:Prop} (h1:x=y->A) (h2:x≠y->C):bif x==y then A else C:=by
 by_cases h:x=y
 ·rw[show (x==y)=true from by simpa using h];exact h1 h
 ·rw[show (x==y)=false from by simpa using h];exact h2 h
theorem ceqT {x y:Int} {A C:Prop} (h:x=y) (h1:A):bif x==y then A else C:=by rw[show (x==y)=true from by simpa using h];exact h1
theorem ceqF {x y:Int} {A C:Prop} (h:x≠y) (h1:C):bif x==y then A else C:=by rw[show (x==y)=false from by simpa using h];exact h1
theorem cne {x y:Int} {A C:Prop} (h1:x≠y->A) (h2:x=y->C):bif x !=y then A else C:=by
 by_cases h:x=y
 ·rw[show (x !=y)=false from by simpa using h];exact h2 h
 ·rw[show (x !=y)=true from by simpa using h];exact h1 h
theorem cneT {x y:Int} {A C:Prop} (h:x≠y) (h1:A):bif x !=y then A else C:=by rw[show (x !=y)=true from by simpa using h];exact h1
theorem cneF {x y:Int} {A C:Prop} (h:x=y) (h1:C):bif x !=y then A else C:=by rw[show (x !=y)=false from by simpa using h];exact h1
class BlkIn (b:Nat) (L:List Asn) (l:outParam (List Value)) where
 i:Nat
 at_:L[i]?=some (BlkA b l)
instance BlkIn.tail {b:Nat} {X:Asn} {L:List Asn} {l:List Value} [I:BlkIn b L l]:BlkIn b (X::L) l:=⟨I.i+1,by simpa using I.at_⟩
instance BlkIn.head {b:Nat} {L:List Asn} {l:List Value}:BlkIn b (BlkA b l::L) l:=⟨0,rfl⟩
class BlkUp (b:Nat) (L:List Asn) (l:outParam (List Value)) (f:List Value->List Value) (L':outParam (List Asn)) where
 i:Nat
 at_:L[i]?=some (BlkA b l)
 up:L'=L.set i (BlkA b (f l))
instance BlkUp.tail {b:Nat} {X:Asn} {L L':List Asn} {l:List Value} {f:List Value->List Value} [I:BlkUp b L l f L']:BlkUp b (X::L) l f (X::L'):=⟨I.i+1,by simpa using I.at_,(congrArg (X::·) I.up)⟩
instance BlkUp.head {b:Nat} {L:List Asn} {l:List Value} {f:List Value->List Value}:BlkUp b (BlkA b l::L) l f (BlkA b (f l)::L):=⟨0,rfl,rfl⟩
section
variable {B:Nat} {w0 w:World} {L L':List Asn} {b o n:Nat} {l:List Value}
theorem Own.ldc {v:Value} [I:BlkIn b L l] (h:Own B w0 w L) (hv:l[o]?=some v):w.cell? (Addr.mk b o none)=some v:=h.ld0 I.i I.at_ hv
theorem Own.ldd {v:Value} [I:BlkIn b L l] (h:Own B w0 w L) (hv:l[o+n]?=some v):w.cell? ((Addr.mk b o none).add n)=some v:=h.ld I.i I.at_ hv
theorem Own.stc {v:Value} {k:World->Prop} [I:BlkUp b L l (·.set o v) L'] (h:Own B w0 w L) (ho:(l[o]?).isSome=true) (hv:v.oneCell'=true) (hk:∀w',Own B w0 w' L'->k w'):St w ⟨b,o,none⟩ v k:=
 h.st I.i I.at_ ho hv fun w' h'=>hk w' (I.up.symm▸h')
theorem Own.std {v:Value} {k:World->Prop} [I:BlkUp b L l (·.set (o+n) v) L'] (h:Own B w0 w L) (ho:(l[o+n]?).isSome=true) (hv:v.oneCell'=true) (hk:∀w',Own B w0 w' L'->k w'):St w ((Addr.mk b o none).add n) v k:=
 h.stA I.i I.at_ ho hv fun w' h'=>hk w' (I.up.symm▸h')
theorem Own.lc_2 {c0 c1:Sc} {x0:c0.D} {x1:c1.D} {f:c0.D->c1.D->Prop} [I:BlkIn b L l] (h:Own B w0 w L) (hl:(l.drop o).take 2= [c0.mk x0,c1.mk x1]) (hf:f x0 x1):LdL w ⟨b,o,none⟩ 0 [c0,c1] f:=h.ld_2 I.i I.at_ hl hf
theorem Own.lc_3 {c0 c1 c2:Sc} {x0:c0.D} {x1:c1.D} {x2:c2.D} {f:c0.D->c1.D->c2.D->Prop} [I:BlkIn b L l] (h:Own B w0 w L) (hl:(l.drop o).take 3= [c0.mk x0,c1.mk x1,c2.mk x2]) (hf:f x0 x1 x2):LdL w ⟨b,o,none⟩ 0 [c0,c1,c2] f:=h.ld_3 I.i I.at_ hl hf
theorem Own.lc_4 {c0 c1 c2 c3:Sc} {x0:c0.D} {x1:c1.D} {x2:c2.D} {x3:c3.D} {f:c0.D->c1.D->c2.D->c3.D->Prop} [I:BlkIn b L l] (h:Own B w0 w L) (hl:(l.drop o).take 4= [c0.mk x0,c1.mk x1,c2.mk x2,c3.mk x3]) (hf:f x0 x1 x2 x3):LdL w ⟨b,o,none⟩ 0 [c0,c1,c2,c3] f:=h.ld_4 I.i I.at_ hl hf
theorem Own.lc_6 {c0 c1 c2 c3 c4 c5:Sc} {x0:c0.D} {x1:c1.D} {x2:c2.D} {x3:c3.D} {x4:c4.D} {x5:c5.D} {f:c0.D->c1.D->c2.D->c3.D->c4.D->c5.D->Prop} [I:BlkIn b L l] (h:Own B w0 w L) (hl:(l.drop o).take 6= [c0.mk x0,c1.mk x1,c2.mk x2,c3.mk x3,c4.mk x4,c5.mk x5]) (hf:f x0 x1 x2 x3 x4 x5):LdL w ⟨b,o,none⟩ 0 [c0,c1,c2,c3,c4,c5] f:=h.ld_6 I.i I.at_ hl hf
theorem Own.lc_7 {c0 c1 c2 c3 c4 c5 c6:Sc} {x0:c0.D} {x1:c1.D} {x2:c2.D} {x3:c3.D} {x4:c4.D} {x5:c5.D} {x6:c6.D} {f:c0.D->c1.D->c2.D->c3.D->c4.D->c5.D->c6.D->Prop} [I:BlkIn b L l] (h:Own B w0 w L) (hl:(l.drop o).take 7= [c0.mk x0,c1.mk x1,c2.mk x2,c3.mk x3,c4.mk x4,c5.mk x5,c6.mk x6]) (hf:f x0 x1 x2 x3 x4 x5 x6):LdL w ⟨b,o,none⟩ 0 [c0,c1,c2,c3,c4,c5,c6] f:=h.ld_7 I.i I.at_ hl hf
theorem Own.lc_8 {c0 c1 c2 c3 c4 c5 c6 c7:Sc} {x0:c0.D} {x1:c1.D} {x2:c2.D} {x3:c3.D} {x4:c4.D} {x5:c5.D} {x6:c6.D} {x7:c7.D} {f:c0.D->c1.D->c2.D->c3.D->c4.D->c5.D->c6.D->c7.D->Prop} [I:BlkIn b L l] (h:Own B w0 w L) (hl:(l.drop o).take 8= [c0.mk x0,c1.mk x1,c2.mk x2,c3.mk x3,c4.mk x4,c5.mk x5,c6.mk x6,c7.mk x7]) (hf:f x0 x1 x2 x3 x4 x5 x6 x7):LdL w ⟨b,o,none⟩ 0 [c0,c1,c2,c3,c4,c5,c6,c7] f:=h.ld_8 I.i I.at_ hl hf
theorem Own.lc_10 {c0 c1 c2 c3 c4 c5 c6 c7 c8 c9:Sc} {x0:c0.D} {x1:c1.D} {x2:c2.D} {x3:c3.D} {x4:c4.D} {x5:c5.D} {x6:c6.D} {x7:c7.D} {x8:c8.D} {x9:c9.D} {f:c0.D->c1.D->c2.D->c3.D->c4.D->c5.D->c6.D->c7.D->c8.D->c9.D->Prop} [I:BlkIn b L l] (h:Own B w0 w L) (hl:(l.drop o).take 10= [c0.mk x0,c1.mk x1,c2.mk x2,c3.mk x3,c4.mk x4,c5.mk x5,c6.mk x6,c7.mk x7,c8.mk x8,c9.mk x9]) (hf:f x0 x1 x2 x3 x4 x5 x6 x7 x8 x9):LdL w ⟨b,o,none⟩ 0 [c0,c1,c2,c3,c4,c5,c6,c7,c8,c9] f:=h.ld_10 I.i I.at_ hl hf
theorem Own.lc_12 {c0 c1 c2 c3 c4 c5 c6 c7 c8 c9 c10 c11:Sc} {x0:c0.D} {x1:c1.D} {x2:c2.D} {x3:c3.D} {x4:c4.D} {x5:c5.D} {x6:c6.D} {x7:c7.D} {x8:c8.D} {x9:c9.D} {x10:c10.D} {x11:c11.D} {f:c0.D->c1.D->c2.D->c3.D->c4.D->c5.D->c6.D->c7.D->c8.D->c9.D->c10.D->c11.D->Prop} [I:BlkIn b L l] (h:Own B w0 w L) (hl:(l.drop o).take 12= [c0.mk x0,c1.mk x1,c2.mk x2,c3.mk x3,c4.mk x4,c5.mk x5,c6.mk x6,c7.mk x7,c8.mk x8,c9.mk x9,c10.mk x10,c11.mk x11]) (hf:f x0 x1 x2 x3 x4 x5 x6 x7 x8 x9 x10 x11):LdL w ⟨b,o,none⟩ 0 [c0,c1,c2,c3,c4,c5,c6,c7,c8,c9,c10,c11] f:=h.ld_12 I.i I.at_ hl hf
theorem Own.up1 {a0 a1:Asn} (h:Own B w0 w (a0::a1::L)):Own B w0 w (a1::a0::L):=h.take 1 rfl
theorem Own.rm1 {a0 a1:Asn} (h:Own B w0 w (a0::a1::L)):Own B w0 w (a0::L):=h.up1.drop
theorem Own.up2 {a0 a1 a2:Asn} (h:Own B w0 w (a0::a1::a2::L)):Own B w0 w (a2::a0::a1::L):=h.take 2 rfl
theorem Own.rm2 {a0 a1 a2:Asn} (h:Own B w0 w (a0::a1::a2::L)):Own B w0 w (a0::a1::L):=h.up2.drop
theorem Own.up3 {a0 a1 a2 a3:Asn} (h:Own B w0 w (a0::a1::a2::a3::L)):Own B w0 w (a3::a0::a1::a2::L):=h.take 3 rfl
theorem Own.rm3 {a0 a1 a2 a3:Asn} (h:Own B w0 w (a0::a1::a2::a3::L)):Own B w0 w (a0::a1::a2::L):=h.up3.drop
theorem Own.stLc {vs:List Value} {k:World->Prop} [I:BlkUp b L l (putAt · o vs) L'] (h:Own B w0 w L) (hle:Nat.ble (o+vs.length) l.length=true) (hone:vs.all Value.oneCell'=true) (hk:∀w',Own B w0 w' L'->k w'):StL w ⟨b,o,none⟩ 0 vs k:=
 h.stL I.i I.at_ hle hone fun w' h'=>hk w' (I.up.symm▸h')
end
class Pick (A:Asn) (L:List Asn) (R:outParam (List Asn)):Prop where
 perm:L.Perm (A::R)
instance Pick.tail {A X:Asn} {L R:List Asn} [I:Pick A L R]:Pick A (X::L) (X::R):=⟨(I.perm.cons X).trans (List.Perm.swap _ _ _)⟩
instance Pick.head {A:Asn} {L:List Asn}:Pick A (A::L) L:=⟨List.Perm.refl _⟩
class SubP (L L':List Asn):Prop where
 sub:∃Z,L.Perm (Z++L')
instance SubP.skip {X:Asn} {L L':List Asn} [I:SubP L L']:SubP (X::L) L':=⟨by obtain ⟨Z,h⟩:=I.sub;exact ⟨X::Z,h.cons X⟩⟩
instance SubP.pick {A:Asn} {L R L':List Asn} [I:Pick A L R] [J:SubP R L']:SubP L (A::L'):=⟨by
 obtain ⟨Z,h⟩:=J.sub;exact ⟨Z,I.perm.trans ((h.cons A).trans List.perm_middle.symm)⟩⟩
instance SubP.same {L:List Asn}:SubP L L:=⟨[],List.Perm.refl _⟩
theorem Own.dropL {B:Nat} {w0 w:World} {L:List Asn}:∀{Z:List Asn},Own B w0 w (Z++L)->Own B w0 w L
 | [],h=>h
 |_::Z,h=>Own.dropL (Z:=Z) h.drop
theorem Own.sub {B:Nat} {w0 w:World} {L L':List Asn} [I:SubP L L'] (h:Own B w0 w L):Own B w0 w L':=by
 obtain ⟨Z,hp⟩:=I.sub;exact (h.perm hp).dropL
theorem Own.pick {B:Nat} {w0 w:World} {L R:List Asn} {A:Asn} [I:Pick A L R] (h:Own B w0 w L):Own B w0 w (A::R):=h.perm I.perm
theorem HdL_mk {w:World} {A:Addr} {C:Prop}:∀(vs:List Value) (i:Nat),(∀j v,vs[j]?=some v->w.cell? (A.add (i+j))=some v)->C->HdL w A i vs C
 | [],_,_,hC=>hC
 |v::vs,i,h,hC=>⟨h 0 v rfl,HdL_mk vs (i+1) (fun j u hj=>by rw[show i+1+j=i+(j+1) from by omega];exact h (j+1) u (by simpa using hj)) hC⟩
theorem Own.hd {B:Nat} {w0 w:World} {L:List Asn} {b o:Nat} {l vs:List Value} {C:Prop} [I:BlkIn b L l] (h:Own B w0 w L) (hl:(l.drop o).take vs.length=vs) (hC:C):HdL w ⟨b,o,none⟩ 0 vs C:=
 HdL_mk vs 0 (fun j v hj=>by
  rw[add_mk,(h.blk I.i I.at_).cell,Nat.zero_add];rw[←hl,List.getElem?_take] at hj;split at hj
  ·rw[List.getElem?_drop] at hj;exact hj
  ·cases hj) hC
theorem exs {α:Type} {x:α} {G:α->Prop} (h:G x):∃a,some x=some a/\G a:=⟨x,rfl,h⟩
theorem a2 {p:Prop} (h:p):p/\True:=⟨h,trivial⟩
end Go.Vc
namespace Go.Vc
open Go
class SlIn (s:Sl) (L:List Asn) (α:outParam Type) (E:outParam (EncT α)) (xs:outParam (List α)) where
 i:Nat
 at_:L[i]?=some (SlT E s xs)
instance SlIn.tail {s:Sl} {X:Asn} {L:List Asn} {α:Type} {E:EncT α} {xs:List α} [I:SlIn s L α E xs]:SlIn s (X::L) α E xs:=⟨I.i+1,by simpa using I.at_⟩
instance SlIn.head {s:Sl} {L:List Asn} {α:Type} {E:EncT α} {xs:List α}:SlIn s (SlT E s xs::L) α E xs:=⟨0,rfl⟩
section
variable {P:Program} {B:Nat} {w0 w:World} {L R:List Asn} {α:Type} {E:EncT α} {s:Sl} {xs:List α}
theorem Own.lenc (s:Sl) [I:SlIn s L α E xs] (h:Own B w0 w L):s.len=xs.length:=h.len I.i I.at_
theorem addr_c {b o i j z:Nat} (c:Nat) (hij:i=j):((Addr.mk b o none).add (i*z)).add c=⟨b,o+(j*z+c),none⟩:=by rw[add_mk,add_mk,hij,Nat.add_assoc]
theorem addr_0 {b o i j z:Nat} (hij:i=j):(Addr.mk b o none).add (i*z)=⟨b,o+(j*z+0),none⟩:=by rw[add_mk,hij,Nat.add_zero]
theorem Own.ixc [I:SlIn s L α E xs] {i:Int} {j:Nat} {x:α} {G:Addr->Prop} (h:Own B w0 w L) (hij:i=(j:Int)) (hj:xs[j]?=some x)
  (hG:∀a,s.a=some a->(∀v,(E.enc x)[0]?=some v->w.cell? (a.add (i.toNat*E.z))=some v)->(∀c v,(E.enc x)[c]?=some v->w.cell? ((a.add (i.toNat*E.z)).add c)=some v)->G a):
  ∃a,s.a=some a/\0≤i/\i<(s.len:Int)/\G a:=by
 obtain ⟨b,o,ha,hc⟩:=h.get I.i I.at_ hj;have hlen:=h.len I.i I.at_;have hlt:=(List.getElem?_eq_some_iff.1 hj).1;have hn:i.toNat=j:=by omega
 refine ⟨_,ha,by omega,by omega,hG _ ha (fun v hv=>?_) fun c v hv=>?_⟩
 ·rw[addr_0 hn];exact hc 0 v hv
 ·rw[addr_c c hn];exact hc c v hv
theorem Own.ixa [I:SlIn s L α E xs] {i:Int} {j:Nat} {x:α} (h:Own B w0 w L) (hij:i=(j:Int)) (hj:xs[j]?=some x) {a:Addr} (ha:s.a=some a):
  (∀v,(E.enc x)[0]?=some v->w.cell? (a.add (i.toNat*E.z))=some v)/\(∀c v,(E.enc x)[c]?=some v->w.cell? ((a.add (i.toNat*E.z)).add c)=some v):=by
 obtain ⟨b,o,ha',hc⟩:=h.get I.i I.at_ hj;rw[ha] at ha';simp only[Option.some.injEq] at ha';subst ha';have hn:i.toNat=j:=by omega
 refine ⟨fun v hv=>?_,fun c v hv=>?_⟩
 ·rw[addr_0 hn];exact hc 0 v hv
 ·rw[addr_c c hn];exact hc c v hv
theorem Own.slAddr (s:Sl) [I:SlIn s L α E xs] (h:Own B w0 w L) {a:Addr} (ha:s.a=some a):a=⟨a.block,a.off,none⟩:=by
 have:=(h.slO I.i I.at_).spot a ha;cases a;simp at this;subst this;rfl
theorem pick_mem {A:Asn} {L R:List Asn} (I:Pick A L R) (h:Own B w0 w L):Own B w0 w (A::R):=h.perm I.perm
theorem Own.stEc [I:SlIn s L α E xs] {R:List Asn} [J:Pick (SlT E s xs) L R] {i:Int} {j:Nat} {a:Addr} {v:Value} {k:World->Prop} (h:Own B w0 w L) (x:α) (hij:i=(j:Int)) (hj:j<xs.length) (ha:s.a=some a) (hx:E.enc x= [v])
  (hk:∀w',Own B w0 w' (SlT E s (xs.set j x)::R)->k w'):St w (a.add (i.toNat*E.z)) v k:=by
 have e:=h.slAddr s ha;have hn:i.toNat=j:=by omega
 rw[e,add_mk,hn];exact (pick_mem J h).stE 0 rfl hj x (by rw[ha];exact congrArg some e) hx hk
theorem Own.stELc [I:SlIn s L α E xs] {R:List Asn} [J:Pick (SlT E s xs) L R] {i:Int} {j:Nat} {a:Addr} {k:World->Prop} (h:Own B w0 w L) (x:α) (hij:i=(j:Int)) (hj:j<xs.length) (ha:s.a=some a)
  (hk:∀w',Own B w0 w' (SlT E s (xs.set j x)::R)->k w'):StL w (a.add (i.toNat*E.z)) 0 (E.enc x) k:=by
 have e:=h.slAddr s ha;have hn:i.toNat=j:=by omega
 rw[e,add_mk,hn];exact (pick_mem J h).stEL 0 rfl hj x (by rw[ha];exact congrArg some e) hk
theorem Own.stFc [I:SlIn s L α E xs] {R:List Asn} [J:Pick (SlT E s xs) L R] {i:Int} {j c:Nat} {a:Addr} {x:α} {v:Value} {k:World->Prop} (h:Own B w0 w L) (x':α) (hij:i=(j:Int)) (hj:xs[j]?=some x) (ha:s.a=some a) (hx:E.enc x'=(E.enc x).set c v) (hc:c<E.z) (hv:v.oneCell'=true)
  (hk:∀w',Own B w0 w' (SlT E s (xs.set j x')::R)->k w'):St w ((a.add (i.toNat*E.z)).add c) v k:=by
 have e:=h.slAddr s ha;have hn:i.toNat=j:=by omega
 rw[e,add_mk,add_mk,hn];exact (pick_mem J h).stF 0 rfl hj x' hx hc hv (by rw[ha];exact congrArg some e) hk
theorem Own.app1c {T el:TypeId} {inf:TypeInfo} {zv:Value} {y:α} {b:Nat} {k:Sl->World->Prop} [I:SlIn s L α E xs] {R:List Asn} [J:Pick (SlT E s xs) L R]
  (hu:P.underlying T=some (.slice el)) (hi:P.info? el=some inf) (hz:inf.zero=some zv) (hsz:inf.size=E.z) (hzc:zv.cells.size=E.z) (hb:1≤inf.bytes)
  (h:Own B w0 w (BlkA b (E.enc y)::L)) (hbig:(17*(xs.length+1)+16000)*inf.bytes≤2^48)
  (hk:∀s' w',s'.len=xs.length+1->Own B w0 w' (SlT E s' (xs++ [y])::R)->k s' w'):
  ∃s' w',AppR P [T,T] T (.slice s.a s.len s.cap) (.slice (some (Addr.mk b 0 none)) 1 1) w s' w'/\k s' w':=
 Own.app1 hu hi hz hsz hzc hb (h.perm (J.perm.cons _)) 0 rfl hbig hk
theorem Own.mkSl {T el:TypeId} {inf:TypeInfo} {zv:Value} {z0:α} {n:Int} {k:Sl->World->Prop} (hu:P.underlying T=some (.slice el)) (hi:P.info? el=some inf) (hz:inf.zero=some zv) (hsz:inf.size=E.z) (hzc:zv.cells.toList=E.enc z0)
  (h:Own B w0 w L) (h0:0≤n) (hn:(inf.bytes:Int)*n≤2^48) (hnn:n≤2^48) (hk:∀s' w',s'.len=n.toNat->Own B w0 w' (SlT E s' (List.replicate n.toNat z0)::L)->k s' w'):
  ∃s' w',MkSlR P T (.int .i64 n) (.int .i64 n) w s' w'/\k s' w':=by
 obtain ⟨m,rfl⟩:=Int.eq_ofNat_of_zero_le h0;have hp48:(2:Int)^48=281474976710656:=by decide
 rw[hp48] at hn hnn;have hw:IntKind.i64.wrap (m:Int)=(m:Int):=wr (by omega) (by omega);have hzl:zv.cells.size=E.z:=by rw[←Array.length_toList,hzc,E.len]
 let row:List Value:=rep m (E.enc z0)
 have hrow:row=(List.replicate m z0).flatMap E.enc:=by
  show rep m (E.enc z0)=_;clear hk hw hn hnn h0
  induction m with
  |zero=>rfl
  |succ m ih=>simp[rep,List.replicate_succ,ih]
 have hrl:row.length=m*E.z:=by rw[hrow,flat_len];simp
 have hcells:(Array.range (m*sz P el)).map (fun i=>(if m*sz P el=0 then (#[]:Array Value) else zv.cells)[i%(if m*sz P el=0 then (#[]:Array Value) else zv.cells).size]!)=⟨row⟩:=by
  have hsz2:sz P el=zv.cells.size:=by simp[sz,hi,hsz,hzl]
  by_cases e:m*sz P el=0
  ·have hpos:=E.pos
   have:m=0:=by
    rcases Nat.mul_eq_zero.1 e with e|e
    ·exact e
    ·rw[hsz2,hzl] at e;omega
   subst this;simp[row,rep]
  ·simp only[if_neg e]
   rw[hsz2,zeros_eq zv.cells m (by rw[hzl];exact E.pos),hzc]
 refine ⟨⟨some ⟨w.heap.size,0,none⟩,m,m⟩,w.alloc (.cells ⟨row⟩ el),?_,hk _ _ rfl ?_⟩
 ·unfold MkSlR Instr.makeSlice
  have hsize:∀w,(sizeOf el).run P w= .ok (sz P el) w:=fun w=>run_size hi w
  have hinfo:∀w,(typeInfo el).run P w= .ok inf w:=fun w=>by simp[typeInfo,hi]
  have hzero:∀w,(zeroValue el).run P w= .ok zv w:=fun w=>by simp[zeroValue,hinfo,hz]
  have hint:∀w,(asInt (.int .i64 (m:Int))).run P w= .ok (m:Int) w:=fun w=>by simp[asInt,asIntOf]
  have c2:¬((inf.bytes:Int)*(m:Int)>2^48):=by rw[hp48];omega
  have c0:¬((m:Int)<0):=by omega
  have c3:¬((m:Int)>(m:Int)):=by omega
  simp only[Sem.run_bind,run_und hu,Result.andThen_ok,hint,hinfo,hw,decide_eq_false c2,decide_eq_false c0,decide_eq_false c3,Bool.or_false,Bool.false_eq_true,if_false,Int.toNat_natCast,run_askRoom,hsize];by_cases e:m*sz P el=0
  ·simp only[if_pos e] at hcells
   simp only[e,if_true,Sem.run_pure,Result.andThen_ok,newRow,Sem.run_bind,run_newObj];rw[e] at hcells;rw[hcells];rfl
  ·simp only[if_neg e] at hcells
   simp only[e,if_false,Sem.run_bind,hzero,Sem.run_pure,Result.andThen_ok,newRow,run_newObj];rw[hcells];rfl
 ·refine h.new (A':=SlT E ⟨some ⟨w.heap.size,0,none⟩,m,m⟩ (List.replicate m z0)) (G':=fun k=>k=w.heap.size) (upd_alloc _ _) ⟨fun a ha=>by cases ha;rfl,by simp,?_⟩ fun k e=>by subst e;simp
  refine .mk w.heap.size 0 row rfl ⟨el,heap_alloc_new _ _⟩ (Nat.le_refl _) (by rw[hrl];simp) ?_;show _=(row.drop 0).take (m*E.z);rw[List.drop_zero,←hrl,List.take_length,hrow]
end
def RowsA {α:Type} (E:EncT α) (ss:List Sl) (rows:List (List α)):Asn:=ExA fun _:Unit=>StarA (PureA (ss.length=rows.length)::List.zipWith (SlT E) ss rows)
def slE:EncT Sl:=⟨1,fun s=>[.slice s.a s.len s.cap],fun _=>rfl,fun x v h=>by simp at h;subst h;rfl,Nat.le_refl _⟩
section
variable {P:Program} {B:Nat} {w0 w:World} {L R:List Asn} {α:Type} {E:EncT α} {ss:List Sl} {rows:List (List α)}
theorem Own.rowsO (h:Own B w0 w (RowsA E ss rows::R)):ss.length=rows.length/\Own B w0 w (List.zipWith (SlT E) ss rows++R):=by
 obtain ⟨_,h⟩:=h.ex;exact Own.pure h.star
theorem Own.mk_rows (hl:ss.length=rows.length) (h:Own B w0 w (List.zipWith (SlT E) ss rows++R)):Own B w0 w (RowsA E ss rows::R):=
 Own.mk_ex () (Own.mk_star (Own.mk_pure hl h))
theorem zip_get {j:Nat} {s:Sl} {row:List α} (hs:ss[j]?=some s) (hr:rows[j]?=some row) (R:List Asn):(List.zipWith (SlT E) ss rows++R)[j]?=some (SlT E s row):=by
 have h1:=(List.getElem?_eq_some_iff.1 hs).1;have h2:=(List.getElem?_eq_some_iff.1 hr).1;rw[List.getElem?_append_left (by simp;omega),List.getElem?_zipWith,hs,hr]
theorem Own.row (h:Own B w0 w (RowsA E ss rows::R)) {j:Nat} {s:Sl} {row:List α} (hs:ss[j]?=some s) (hr:rows[j]?=some row):
  Own B w0 w (SlT E s row::((List.zipWith (SlT E) ss rows).eraseIdx j++R)):=by
 obtain ⟨hl,h⟩:=h.rowsO;have h1:=(List.getElem?_eq_some_iff.1 hs).1;have:=h.take j (zip_get hs hr R)
 rwa [List.eraseIdx_append_of_lt_length (by simp;omega)] at this
theorem zip_set {s':Sl} {row':List α}:∀(ss:List Sl) (rows:List (List α)) (j:Nat),List.zipWith (SlT E) (ss.set j s') (rows.set j row')=(List.zipWith (SlT E) ss rows).set j (SlT E s' row')
 | [],rows,j=>by simp
 |_::_,[],j=>by cases j<;>simp
 |s::ss,r::rows,0=>by simp
 |s::ss,r::rows,j+1=>by simp[zip_set ss rows j]
theorem Own.row_back {j:Nat} {s':Sl} {row':List α} (hl:ss.length=rows.length) (hj:j<rows.length) (h:Own B w0 w (SlT E s' row'::((List.zipWith (SlT E) ss rows).eraseIdx j++R))):
  Own B w0 w (RowsA E (ss.set j s') (rows.set j row')::R):=by
 refine Own.mk_rows (by simp[hl]) ?_;rw[zip_set];have hj':j<(List.zipWith (SlT E) ss rows).length:=by simp;omega
 have h2:Own B w0 w (SlT E s' row'::(List.zipWith (SlT E) ss rows++R).eraseIdx j):=by rwa [List.eraseIdx_append_of_lt_length hj']
 have:=h2.put (by simp;omega)
 rwa [List.set_append_left _ _ hj'] at this
theorem Own.rows_nil (h:Own B w0 w R):Own B w0 w (RowsA E [] []::R):=Own.mk_rows rfl h
theorem zip_snoc {s:Sl} {row:List α}:∀(ss:List Sl) (rows:List (List α)),ss.length=rows.length->List.zipWith (SlT E) (ss++ [s]) (rows++ [row])=List.zipWith (SlT E) ss rows++ [SlT E s row]
 | [],[],_=>rfl
 | [],_::_,h=>by simp at h
 |_::_,[],h=>by simp at h
 |a::ss,b::rows,h=>by simp[zip_snoc ss rows (by simpa using h)]
theorem Own.row_add {s:Sl} {row:List α} (h:Own B w0 w (SlT E s row::RowsA E ss rows::R)):Own B w0 w (RowsA E (ss++ [s]) (rows++ [row])::R):=by
 have h2:Own B w0 w (RowsA E ss rows::SlT E s row::R):=h.perm (List.Perm.swap _ _ _);obtain ⟨hl,h3⟩:=h2.rowsO;refine Own.mk_rows (by simp[hl]) ?_;rw[zip_snoc _ _ hl,List.append_assoc];exact h3
theorem Own.rget (h:Own B w0 w (RowsA E ss rows::R)) {j k:Nat} {s:Sl} {row:List α} {x:α} {i:Int} {G:Addr->Prop} (hs:ss[j]?=some s) (hr:rows[j]?=some row) (hik:i=(k:Int)) (hk:row[k]?=some x)
  (hG:∀a,s.a=some a->(∀v,(E.enc x)[0]?=some v->w.cell? (a.add (i.toNat*E.z))=some v)->(∀c v,(E.enc x)[c]?=some v->w.cell? ((a.add (i.toNat*E.z)).add c)=some v)->G a):
  ∃a,s.a=some a/\0≤i/\i<(s.len:Int)/\G a:=(h.row hs hr).ixc hik hk hG
theorem Own.rset (h:Own B w0 w (RowsA E ss rows::R)) {j k:Nat} {s:Sl} {row:List α} {i:Int} {a:Addr} {K:World->Prop} (x:α) (hs:ss[j]?=some s) (hr:rows[j]?=some row) (hik:i=(k:Int)) (hk:k<row.length) (ha:s.a=some a)
  (hK:∀w',Own B w0 w' (RowsA E ss (rows.set j (row.set k x))::R)->K w'):StL w (a.add (i.toNat*E.z)) 0 (E.enc x) K:=by
 obtain ⟨hl,_⟩:=h.rowsO;have h1:=(List.getElem?_eq_some_iff.1 hr).1;refine (h.row hs hr).stELc x hik hk ha fun w' h'=>hK w' ?_
 have:=h'.row_back (ss:=ss) (rows:=rows) (j:=j) hl h1
 have hset:ss.set j s=ss:=by
  apply List.ext_getElem?;intro t;rw[List.getElem?_set];by_cases e:j=t
  ·subst e;rw[if_pos rfl,if_pos (by omega),hs]
  ·rw[if_neg e]
 rwa [hset] at this
theorem Own.row_len (h:Own B w0 w (RowsA E ss rows::R)) {j:Nat} {s:Sl} {row:List α} (hs:ss[j]?=some s) (hr:rows[j]?=some row):s.len=row.length:=(h.row hs hr).len 0 rfl
end
end Go.Vc
namespace Go.Vc
open Go Go.ChangeShapes Go.WideShapes
structure Rd {α:Type} (E:EncT α) (B:Nat) (w0:World) (L:List Asn) (s:Sl) (xs:List α):Prop where
 len:s.len=xs.length
 got:∀w',Own B w0 w' L->∀(i:Int) (j:Nat) (x:α),i=(j:Int)->xs[j]?=some x->∃a,s.a=some a/\(∀v,(E.enc x)[0]?=some v->w'.cell? (a.add (i.toNat*E.z))=some v)/\(∀c v,(E.enc x)[c]?=some v->w'.cell? ((a.add (i.toNat*E.z)).add c)=some v)
section
variable {B:Nat} {w0 w:World} {L L':List Asn} {α:Type} {E:EncT α} {s:Sl} {xs:List α}
theorem Rd.own [I:SlIn s L α E xs] (hl:s.len=xs.length):Rd E B w0 L s xs:=⟨hl,fun w' h i j x hij hj=>by
 obtain ⟨b,o,ha,_⟩:=h.get I.i I.at_ hj;exact ⟨_,ha,h.ixa hij hj ha⟩⟩
theorem Rd.more (hr:Rd E B w0 L s xs) [I:SubP L' L]:Rd E B w0 L' s xs:=⟨hr.len,fun w' h=>hr.got w' h.sub⟩
theorem Rd.ix (hr:Rd E B w0 L s xs) (h:Own B w0 w L) {i:Int} {j:Nat} {x:α} {G:Addr->Prop} (hij:i=(j:Int)) (hj:xs[j]?=some x)
  (hG:∀a,s.a=some a->(∀v,(E.enc x)[0]?=some v->w.cell? (a.add (i.toNat*E.z))=some v)->(∀c v,(E.enc x)[c]?=some v->w.cell? ((a.add (i.toNat*E.z)).add c)=some v)->G a):
  ∃a,s.a=some a/\0≤i/\i<(s.len:Int)/\G a:=by
 obtain ⟨a,ha,h0,hc⟩:=hr.got w h i j x hij hj;have h1:=(List.getElem?_eq_some_iff.1 hj).1;have h2:=hr.len;exact ⟨a,ha,by omega,by omega,hG a ha h0 hc⟩
theorem Own.asSl {b:Nat} {L:List Asn} {l:List Value} (h:Own B w0 w (BlkA b l::L)) (xs:List α) (hl:l=xs.flatMap E.enc):Own B w0 w (SlT E ⟨some ⟨b,0,none⟩,xs.length,xs.length⟩ xs::L):=by
 subst hl;refine h.conv fun G hG=>⟨fun a ha=>by cases ha;exact hG.1,rfl, .mk b 0 _ rfl hG.2 (Nat.le_refl _) ?_ ?_⟩
 ·rw[flat_len];simp
 ·rw[List.drop_zero,←flat_len,List.take_length]
end
end Go.Vc
namespace Go.Vc
open Go
theorem putAt_same (l:List Value) (o n:Nat) {q:Nat} {vs:List Value} (h1:o+n≤l.length) (h2:q+vs.length≤n):((putAt l (o+q) vs).drop o).take n=putAt ((l.drop o).take n) q vs:=by
 apply List.ext_getElem?;intro t;rw[List.getElem?_take,putAt_get _ _ _ _ (by simp;omega),List.getElem?_take];by_cases e:t<n
 ·rw[if_pos e,if_pos e,List.getElem?_drop,putAt_get _ _ _ _ (by omega),List.getElem?_drop]
  by_cases e2:q≤t/\t<q+vs.length
  ·rw[if_pos e2,if_pos (by omega)];congr 1;omega
  ·rw[if_neg e2,if_neg (by omega)]
 ·rw[if_neg e,if_neg e]
  by_cases e2:q≤t/\t<q+vs.length
  ·omega
  ·rw[if_neg e2]
theorem flat_put {α:Type} (E:EncT α) (xs ys:List α) (p:Nat) (h:p+ys.length≤xs.length):putAt (xs.flatMap E.enc) (p*E.z) (ys.flatMap E.enc)=(xs.take p++ys++xs.drop (p+ys.length)).flatMap E.enc:=by
 have hl:=flat_len E xs;have hly:=flat_len E ys;have hm:(p+ys.length)*E.z≤xs.length*E.z:=Nat.mul_le_mul_right _ h;rw[Nat.add_mul] at hm
 have htake:∀n,(xs.take n).flatMap E.enc=(xs.flatMap E.enc).take (n*E.z):=fun n=>by
  by_cases hn:n≤xs.length
  ·have h1:xs.flatMap E.enc=(xs.take n).flatMap E.enc++(xs.drop n).flatMap E.enc:=by rw[←List.flatMap_append,List.take_append_drop]
   have h2:((xs.take n).flatMap E.enc).length=n*E.z:=by rw[flat_len];simp[hn]
   rw[h1,←h2,List.take_left]
  ·rw[List.take_of_length_le (by omega),List.take_of_length_le]
   rw[hl];exact Nat.mul_le_mul_right _ (by omega)
 have hdrop:(xs.drop (p+ys.length)).flatMap E.enc=(xs.flatMap E.enc).drop ((p+ys.length)*E.z):=by
  have h1:xs.flatMap E.enc=(xs.take (p+ys.length)).flatMap E.enc++(xs.drop (p+ys.length)).flatMap E.enc:=by rw[←List.flatMap_append,List.take_append_drop]
  have h2:((xs.take (p+ys.length)).flatMap E.enc).length=(p+ys.length)*E.z:=by rw[flat_len,List.length_take,Nat.min_eq_left h]
  rw[h1,←h2,List.drop_left]
 rw[List.flatMap_append,List.flatMap_append,htake,hdrop];generalize xs.flatMap E.enc=cs at*
 generalize ys.flatMap E.enc=ds at*
 apply List.ext_getElem?;intro t;rw[putAt_get _ _ _ _ (by rw[hl,hly];exact hm)];have hlt:(cs.take (p*E.z)).length=p*E.z:=by simp;omega
 by_cases e1:t<p*E.z
 ·rw[if_neg (by omega),List.append_assoc,List.getElem?_append_left (by omega),List.getElem?_take,if_pos e1]
 ·by_cases e2:t<p*E.z+ds.length
  ·rw[if_pos (by omega),List.getElem?_append_left (by rw[List.length_append];omega),List.getElem?_append_right (by omega),hlt]
  ·rw[if_neg (by omega),List.getElem?_append_right (by rw[List.length_append];omega),List.length_append,hlt,List.getElem?_drop,Nat.add_mul,←hly]
   congr 1;omega
section
variable {P:Program} {B:Nat} {w0 w:World} {L R:List Asn} {α:Type} {E:EncT α} {s:Sl} {xs:List α}
theorem Own.slRaw (h:Own B w0 w (SlT E s xs::R)):SlO E.z w s (xs.flatMap E.enc):=h.slO 0 rfl
theorem Own.stCells {z:Nat} {cs ds:List Value} {q b o:Nat} (h:Own B w0 w (SlA z s cs::R)) (ha:s.a=some ⟨b,o,none⟩) (hq:q+ds.length≤cs.length) (hone:∀v∈ds,v.oneCell'=true):
  ∃w',(storeCells ⟨b,o+q,none⟩ ds 0).run P w= .ok () w'/\Own B w0 w' (SlA z s (putAt cs q ds)::R):=by
 have hs:SlO z w s cs:=h.head fun _ h=>h.2
 have hlen:=hs.length;cases hs with
 |nil ha' _ _ _=>rw[ha'] at ha;cases ha
 |mk b' o' l ha' hb hle hc hcs=>
  rw[ha'] at ha;simp only[Option.some.injEq,Addr.mk.injEq,and_true] at ha;obtain ⟨rfl,rfl⟩:=ha;have m1:s.len*z≤s.cap*z:=Nat.mul_le_mul_right z hle;obtain ⟨w',h1,h2,h3,h4⟩:=storeCells_run (P:=P) ds l (o'+q) w hb (by omega) hone 0 (o'+q) (by omega);refine ⟨w',h1,h.step (A':=SlA z s (putAt cs q ds)) fun G hA hG=>⟨h2.mono fun k _ e=>by rw[e];exact hA.1 _ ha',G,⟨hA.1,?_⟩,fun k hk=>⟨.inl hk,by have:=(hG k hk).2;omega⟩⟩⟩;refine .mk b' o' _ ha' h4 hle (by rw[putAt_len (by omega)];exact hc) ?_;rw[hcs,putAt_same l o' (s.len*z) (by omega) (by omega)]
theorem Own.toA (h:Own B w0 w (SlT E s xs::R)):Own B w0 w (SlA E.z s (xs.flatMap E.enc)::R):=h.conv fun _ h=>⟨h.1,h.2.2⟩
theorem Own.ofA {cs:List Value} (hl:s.len=xs.length) (hc:cs=xs.flatMap E.enc) (h:Own B w0 w (SlA E.z s cs::R)):Own B w0 w (SlT E s xs::R):=h.conv fun _ h=>⟨h.1,hl,hc▸h.2⟩
theorem firstCells_of {z n:Nat} {a:Addr} {cap len:Nat} {ds:List Value} (hn:ds.length=n*z) (hg:∀j v,ds[j]?=some v->w.cell? (a.add j)=some v):(Builtin.firstCells z n (.slice (some a) len cap)).run P w= .ok ⟨ds⟩ w:=by
 simp only[Builtin.firstCells];unfold loadCells;have:=loadCellsFrom_run (P:=P) w a ds 0 #[] (fun j v hj=>by rw[nth_eq] at hj;rw[Nat.zero_add];exact hg j v hj);rw[hn] at this;rw[this];simp
theorem Own.copyA {T el t:TypeId} {inf:TypeInfo} {z p dl dc b o sl sc:Nat} {cs ds:List Value} {sa:Addr} {k:Int->World->Prop} (hu:P.underlying T=some (.slice el)) (hi:P.info? el=some inf) (hsz:inf.size=z)
  (h:Own B w0 w (SlA z s cs::R)) (ha:s.a=some ⟨b,o,none⟩) (hd:ds.length=min sl dl*z) (hone:∀v∈ds,v.oneCell'=true) (hp:(p+min sl dl)*z≤cs.length)
  (hsrc:∀j v,ds[j]?=some v->w.cell? (sa.add j)=some v) (hk:∀w',Own B w0 w' (SlA z s (putAt cs (p*z) ds)::R)->k ((min sl dl:Nat):Int) w'):
  ∃n w',CopyR P [T,T] t (.slice (some ⟨b,o+p*z,none⟩) dl dc) (.slice (some sa) sl sc) w n w'/\k n w':=by
 have hsize:∀w,(sizeOf el).run P w= .ok z w:=fun w=>by rw[run_size hi w];simp[sz,hi,hsz]
 rw[Nat.add_mul] at hp;obtain ⟨w',h1,h2⟩:=h.stCells (P:=P) (q:=p*z) (ds:=ds) ha (by omega) hone;refine ⟨_,w',?_,hk w' h2⟩;unfold CopyR Builtin.copy_;simp only[List.getElem?_toArray,List.getElem?_cons_zero,List.getElem?_cons_succ,Sem.run_bind,run_und hu,Result.andThen_ok,hsize,Builtin.lenOf,Sem.run_pure];rw[show Nat.min sl dl=min sl dl from rfl,firstCells_of (w:=w) hd hsrc];simp only[Result.andThen_ok,h1];rfl
theorem Own.appDel {T el:TypeId} {inf:TypeInfo} {i j:Nat} {k:Sl->World->Prop} (hu:P.underlying T=some (.slice el)) (hi:P.info? el=some inf) (hsz:inf.size=E.z) (h:Own B w0 w (SlT E s xs::R)) (hij:i≤j) (hj:j≤xs.length) (hi0:i<xs.length)
  (hk:∀w',Own B w0 w' (SlT E s (xs.take i++xs.drop j++xs.drop (i+(xs.length-j)))::R)->k ⟨s.a,i+(xs.length-j),s.cap⟩ w'):
  ∃t w',AppR P [T,T] T (.slice (slA s.a 0 s.cap E.z) (i-0) (s.cap-0)) (.slice (slA s.a j s.cap E.z) (s.len-j) (s.cap-j)) w t w'/\k t w':=by
 have hsize:∀w,(sizeOf el).run P w= .ok E.z w:=fun w=>by rw[run_size hi w];simp[sz,hi,hsz]
 have hl:=h.len 0 rfl;have hs:=h.slRaw;have hsp:=hs.spot;have hsub:=hs.sub (l:=j) (hh:=s.len) (by omega) (Nat.le_refl _)
 have hds:((xs.flatMap E.enc).take (s.len*E.z)).drop (j*E.z)=(xs.drop j).flatMap E.enc:=by
  rw[hl,←flat_len,List.take_length];have h1:xs.flatMap E.enc=(xs.take j).flatMap E.enc++(xs.drop j).flatMap E.enc:=by rw[←List.flatMap_append,List.take_append_drop]
  have h2:((xs.take j).flatMap E.enc).length=j*E.z:=by rw[flat_len];simp[hj]
  rw[h1,←h2,List.drop_left]
 rw[hds] at hsub;have hcells:=firstCells_run (P:=P) hsub (s.len-j) (Nat.le_refl _);have hdl:((xs.drop j).flatMap E.enc).length=(s.len-j)*E.z:=by rw[flat_len,List.length_drop,hl]
 rw[←hdl,List.take_length] at hcells;have hcap:=hs.le_cap;obtain ⟨b,o,ha,_⟩:=h.get 0 rfl (gE hi0)
 obtain ⟨w',h1,h2⟩:=h.toA.stCells (P:=P) (q:=i*E.z) (ds:=(xs.drop j).flatMap E.enc) ha (by
  rw[flat_len,flat_len,List.length_drop,←Nat.add_mul];exact Nat.mul_le_mul_right _ (by omega)) (fun v hv=>by
  obtain ⟨y,_,hy⟩:=List.mem_flatMap.1 hv;exact E.one y v hy)
 have e0:slA s.a 0 s.cap E.z=s.a:=slA0 _ _ _ hsp;refine ⟨_,w',?_,hk w' (Own.ofA (cs:=putAt (xs.flatMap E.enc) (i*E.z) ((xs.drop j).flatMap E.enc)) ?_ ?_ h2)⟩
 ·unfold AppR Builtin.append_
  rw[e0];simp only[Nat.sub_zero];simp only[List.getElem?_toArray,List.getElem?_cons_zero,List.getElem?_cons_succ,Sem.run_bind,run_und hu,Result.andThen_ok,hsize,Builtin.lenOf,Sem.run_pure,Bool.false_eq_true,if_false,Bool.not_false];rw[if_pos (show i+(s.len-j)≤s.cap by omega)];simp only[if_true];rw[Sem.run_bind,hcells];simp only[Result.andThen_ok,ha,add_mk];rw[Sem.run_bind,h1,hl];rfl
 ·simp;omega
 ·rw[flat_put E xs (xs.drop j) i (by rw[List.length_drop];omega),List.length_drop]
end
end Go.Vc
namespace Go.Vc
open Go
theorem slA_some {a:Option Addr} {b o i cap z:Nat} (ha:a=some ⟨b,o,none⟩) (hne:cap≠i):Vc.slA a i cap z=some ⟨b,o+i*z,none⟩:=by
 unfold Vc.slA;rw[if_neg hne,ha];simp only[Option.map_some,add_mk]
section
variable {P:Program} {B:Nat} {w0 w:World} {L R:List Asn} {α:Type} {E:EncT α} {s:Sl} {xs:List α}
theorem Own.copyT {T el t:TypeId} {inf:TypeInfo} {p dl dc sl sc b o:Nat} {sa:Addr} {zs:List α} {k:Int->World->Prop} (hu:P.underlying T=some (.slice el)) (hi:P.info? el=some inf) (hsz:inf.size=E.z)
  (h:Own B w0 w (SlT E s xs::R)) (ha:s.a=some ⟨b,o,none⟩) (hzl:zs.length=min sl dl) (hp:p+zs.length≤xs.length) (hsrc:∀j v,(zs.flatMap E.enc)[j]?=some v->w.cell? (sa.add j)=some v)
  (hk:∀w',Own B w0 w' (SlT E s (xs.take p++zs++xs.drop (p+zs.length))::R)->k ((min sl dl:Nat):Int) w'):
  ∃n w',CopyR P [T,T] t (.slice (some ⟨b,o+p*E.z,none⟩) dl dc) (.slice (some sa) sl sc) w n w'/\k n w':=by
 have hl:=h.len 0 rfl
 refine h.toA.copyA hu hi hsz ha (p:=p) (ds:=zs.flatMap E.enc) (by rw[flat_len,hzl]) (fun v hv=>by
  obtain ⟨y,_,hy⟩:=List.mem_flatMap.1 hv;exact E.one y v hy) (by rw[flat_len,←hzl];exact Nat.mul_le_mul_right _ hp) hsrc fun w' h'=>hk w' (Own.ofA ?_ (flat_put E xs zs p hp) h')
 simp;omega
theorem Own.grow {m:Nat} (h:Own B w0 w (SlT E s xs::R)) (hm:xs.length+m≤s.cap) {b o:Nat} (ha:s.a=some ⟨b,o,none⟩):∃junk:List Value,junk.length=m*E.z/\Own B w0 w (SlA E.z ⟨s.a,xs.length+m,s.cap⟩ (xs.flatMap E.enc++junk)::R):=by
 obtain ⟨G,hA,hG,Z,h1,h2,h3,h4⟩:=h.held.cons_out;obtain ⟨hin,hlen,hs⟩:=hA;cases hs with
 |nil ha' _ _ _=>rw[ha'] at ha;cases ha
 |mk b' o' l ha' hb hle hc hcs=>
  have m1:(xs.length+m)*E.z≤s.cap*E.z:=Nat.mul_le_mul_right _ hm;rw[Nat.add_mul] at m1;refine ⟨(l.drop (o'+xs.length*E.z)).take (m*E.z),by simp;omega,h.base,h.upd,Held.cons_in (A:=SlA E.z ⟨s.a,xs.length+m,s.cap⟩ _) ⟨hin, .mk b' o' l ha' hb hm hc ?_⟩ hG h1 h2 h3 h4⟩;show _=(l.drop o').take ((xs.length+m)*E.z);rw[hcs,hlen,Nat.add_mul,List.take_add,List.drop_drop]
theorem Own.apart2 {A A':Asn} {p:Prop} (h:Own B w0 w (A::A'::R)) (hp:∀G G',A.holds G w->A'.holds G' w->(∀k,G k->¬G' k)->p):p:=by
 obtain ⟨Z,h1,h2,h3⟩:=h.held
 match Z,h1 with
 |x::y::Z,h1=>
  simp only[List.map_cons,List.cons.injEq] at h1;obtain ⟨rfl,rfl,_⟩:=h1;exact hp x.2 y.2 (h2 x (by simp)).1 (h2 y (by simp)).1 ((List.pairwise_cons.1 h3).1 y (by simp))
theorem Own.overlaps {f:FuncId} {fn:Func} {tS tR e:TypeId} {size la ca lb cb c b o o' z:Nat} {l:List Value} {cs:List Value} {s':Sl} (hf:P.funcs[f]?=some fn) (hname:(fn.name== "runtime.NumGoroutine")=false) (hb:fn.body.isNone=true) (hn:Extern.findNext fn=none)
  (he:Extern.find fn=some (Extern.SlicesOverlaps.overlaps #[tS,tS] #[tR])) (ht:P.underlying tS=some (.slice e)) (hz:∀w,(Go.sizeOf e).run P w= .ok size w)
  (h:Own B w0 w (BlkA c l::SlA z s' cs::R)) (ha:s'.a=some ⟨b,o,none⟩) (hcs:cs≠ []):ExtR P f #[.slice (some ⟨c,0,none⟩) la ca, .slice (some ⟨b,o',none⟩) lb cb] w (.bool false) w:=by
 refine h.apart2 fun G G' hA hA' hd=>?_
 have hne:c≠b:=fun e=>hd c hA.1 (by have:=hA'.1 _ ha;rw[e];exact this)
 obtain ⟨t1,ht1⟩:=hA.2;cases hA'.2 with
 |nil ha' _ _ _=>rw[ha'] at ha;cases ha
 |mk b' o2 l' ha' hb' hle hc hcs'=>
  rw[ha'] at ha;simp only[Option.some.injEq,Addr.mk.injEq,and_true] at ha;obtain ⟨rfl,rfl⟩:=ha;obtain ⟨t2,ht2⟩:=hb'
  have hl':l'.length≠0:=fun e=>by
   have:l'= []:=List.eq_nil_of_length_eq_zero e;subst this;simp at hcs';exact hcs hcs'
  unfold ExtR
  rw[run_callFunc_extern hf hname hb hn he,Lib.run_overlaps_apart w tS tR e ht size hz ⟨c,0,none⟩ ⟨b',o',none⟩ la ca lb cb hne t1 t2 l.length l'.length
   (by simp[World.shape?,ht1]) (by simp[World.shape?,ht2]) hl' (by simp[World.frozen?,ht1]) (by simp[World.frozen?,ht1])]
  rfl
theorem Own.appZ {T U el:TypeId} {inf:TypeInfo} {zv:Value} {z0:α} {i m:Nat} {ku:IntKind} {k:Sl->World->Prop} (hu:P.underlying T=some (.slice el)) (hui:P.underlying U=some (.int ku)) (hi:P.info? el=some inf) (hz:inf.zero=some zv) (hsz:inf.size=E.z) (hzc:zv.cells.toList=E.enc z0) (hb:1≤inf.bytes)
  (h:Own B w0 w (SlT E s xs::R)) (hi0:i≤xs.length) (hm1:1≤m) (hcap:s.cap<i+m) (hbig:(17*(i+m)+16000)*inf.bytes≤2^48)
  (hk:∀s' w',s'.len=i+m->s'.len≤s'.cap->Own B w0 w' (SlT E s' (xs.take i++List.replicate m z0)::SlT E s xs::R)->k s' w'):
  ∃s' w',AppR P [T,U] T (.slice (slA s.a 0 s.cap E.z) (i-0) (s.cap-0)) (.int .i64 (m:Int)) w s' w'/\k s' w':=by
 have hsize:∀w,(sizeOf el).run P w= .ok E.z w:=fun w=>by rw[run_size hi w];simp[sz,hi,hsz]
 have hinfo:∀w,(typeInfo el).run P w= .ok inf w:=fun w=>by simp[typeInfo,hi]
 have hzero:∀w,(zeroValue el).run P w= .ok zv w:=fun w=>by simp[zeroValue,hinfo,hz]
 have hl:=h.len 0 rfl;have hs:=h.slRaw;have hlc:=hs.le_cap;have hsp:=hs.spot;have e0:slA s.a 0 s.cap E.z=s.a:=slA0 _ _ _ hsp;have hzl:zv.cells.size=E.z:=by rw[←Array.length_toList,hzc,E.len]
 let need:=i+m
 let q:Question:= .appendCap need s.cap el
 let n:=q.cut (w.tape w.drawn q)
 have hle:=nextcap_le need s.cap
 have hlim:¬(Builtin.nextslicecap need s.cap*inf.bytes>2^48):=by
  have h0:Builtin.nextslicecap need s.cap≤17*(i+m)+16000:=by
   refine Nat.le_trans hle ?_;show i+m+16*s.cap+16000≤_;generalize 16000=y;omega
  have:Builtin.nextslicecap need s.cap*inf.bytes≤(17*(i+m)+16000)*inf.bytes:=Nat.mul_le_mul_right _ h0;omega
 have hneedb:need≤2^44:=by
  have h1:(17*(i+m)+16000)*1≤(17*(i+m)+16000)*inf.bytes:=Nat.mul_le_mul_left _ hb;show i+m≤_;omega
 have e44:(2:Nat)^44=17592186044416:=by decide
 rw[e44] at hneedb;have hneedb:i+m≤17592186044416:=hneedb
 have hn1:need≤n:=by
  show need≤need+_%_;omega
 let row:List Value:=(xs.take i).flatMap E.enc++(List.replicate m z0).flatMap E.enc++(Builtin.zeroCells zv.cells (n-need)).toList
 let w':=w.drew.alloc (.cells ⟨row⟩ el)
 have hpre:(xs.take i).flatMap E.enc=(xs.flatMap E.enc).take (i*E.z):=by
  have g1:xs.flatMap E.enc=(xs.take i).flatMap E.enc++(xs.drop i).flatMap E.enc:=by rw[←List.flatMap_append,List.take_append_drop]
  have g2:((xs.take i).flatMap E.enc).length=i*E.z:=by rw[flat_len];simp[hi0]
  rw[g1,←g2,List.take_left]
 have hold:(Builtin.firstCells E.z i (.slice s.a i s.cap)).run P w.drew= .ok ⟨(xs.take i).flatMap E.enc⟩ w.drew:=by
  have h1:=h.drop;have hp:=(h.same (w':=w.drew) (upd_heap rfl rfl rfl rfl)).pre 0 rfl (n:=i) hi0;have:=firstCells_run (P:=P) (hp.slO 0 rfl) i (Nat.le_refl _);rw[this,List.take_of_length_le (by rw[flat_len];simp[hi0])]
 have hzs:(Builtin.zeroCells zv.cells m).toList=(List.replicate m z0).flatMap E.enc:=by
  have h1:(Builtin.zeroCells zv.cells m)=⟨rep m zv.cells.toList⟩:=by
   unfold Builtin.zeroCells;exact zeros_eq zv.cells m (by rw[hzl];exact E.pos)
  have h2:∀m,rep m (E.enc z0)=(List.replicate m z0).flatMap E.enc:=by
   intro m
   induction m with
   |zero=>rfl
   |succ m ih=>simp[rep,List.replicate_succ,ih]
  rw[h1,hzc,h2]
 have hzl2:(Builtin.zeroCells zv.cells (n-need)).toList.length=(n-need)*E.z:=by simp[Builtin.zeroCells,hzl]
 refine ⟨⟨some ⟨w.heap.size,0,none⟩,need,n⟩,w',?_,hk _ _ rfl hn1 ?_⟩
 ·have hint:∀w,(asInt (.int .i64 (m:Int))).run P w= .ok (m:Int) w:=fun w=>by simp[asInt,asIntOf]
  have hwm:IntKind.i64.wrap (m:Int)=(m:Int):=wr (by omega) (by omega)
  have hmb:¬((m:Int)*(inf.bytes:Int)>2^48):=by
   have h1:m*inf.bytes≤(17*(i+m)+16000)*inf.bytes:=Nat.mul_le_mul_right _ (by omega);have h2:m*inf.bytes≤2^48:=Nat.le_trans h1 hbig;have e48:(2:Int)^48=((2^48:Nat):Int):=by decide
   rw[e48,←Int.natCast_mul];omega
  have hm0:¬((m:Int)<0):=by omega
  have hcap2:¬(i+m≤s.cap):=by omega
  have hmax:¬(((i+m:Nat):Int)>IntKind.i64.max/\(True∨inf.bytes=0)):=by
   have:IntKind.i64.max=9223372036854775807:=by decide
   rw[this];omega
  unfold AppR Builtin.append_;rw[e0];simp only[Nat.sub_zero];have hint2:∀w,(asIntOf (.int .i64 (m:Int))).run P w= .ok (.i64,(m:Int)) w:=fun w=>by simp[asIntOf]
  simp only[List.getElem?_toArray,List.getElem?_cons_zero,List.getElem?_cons_succ,Sem.run_bind,run_und hu,run_und hui,Result.andThen_ok,hsize,Sem.run_pure,if_true,hint,hwm,hm0,if_false,hinfo,hmb,Int.toNat_natCast,hcap2,Bool.not_true,Bool.false_eq_true];rw[if_neg hmax,Sem.run_bind,hinfo];simp only[Result.andThen_ok];rw[if_neg hlim,Sem.run_bind,run_choose];have hf:Question.forced (.appendCap (i+m) s.cap el)=false:=rfl;simp only[hf,Bool.false_eq_true,if_false,Result.andThen_ok,World.drew_eq];rw[Sem.run_bind,hinfo];simp only[Result.andThen_ok];rw[Sem.run_bind,run_askRoom];simp only[Result.andThen_ok];rw[Sem.run_bind,hold];simp only[Result.andThen_ok]
  have hmz:¬(m*E.z=0):=by
   have hpos:=E.pos;intro e;rcases Nat.mul_eq_zero.1 e with e|e<;>omega
  rw[if_neg hmz];simp only[Sem.run_bind,hzero,Result.andThen_ok,Sem.run_pure,newRow,run_newObj]
  have hrow:((⟨(xs.take i).flatMap E.enc⟩:Array Value)++Builtin.zeroCells zv.cells m++Builtin.zeroCells zv.cells (n-need))=⟨row⟩:=by
   apply Array.ext';simp only[row,Array.toList_append,hzs]
  show Result.ok (Value.slice (some ⟨w.heap.size,0,none⟩) (i+m) n) (w.drew.alloc (.cells ((⟨(xs.take i).flatMap E.enc⟩:Array Value)++Builtin.zeroCells zv.cells m++Builtin.zeroCells zv.cells (n-need)) el))=_;rw[hrow]
 ·have hrl:row.length=n*E.z:=by
   simp only[row,List.length_append,flat_len,hzl2,List.length_take,Nat.min_eq_left hi0,List.length_replicate];rw[←Nat.add_mul,←Nat.add_mul];congr 1;show i+m+(n-(i+m))=n;have:i+m≤n:=hn1;omega
  have h2:=h.same (w':=w.drew) (upd_heap rfl rfl rfl rfl);refine h2.new (A':=SlT E ⟨some ⟨w.heap.size,0,none⟩,need,n⟩ (xs.take i++List.replicate m z0)) (G':=fun k=>k=w.heap.size) (upd_alloc _ _) ⟨fun a ha=>by cases ha;rfl,by simp[need,hi0],?_⟩ fun k e=>by subst e;exact ⟨Nat.le_refl _,by simp[w']⟩
  refine .mk w.heap.size 0 row rfl ⟨el,heap_alloc_new w.drew _⟩ hn1 (by rw[hrl];show 0+n*E.z≤n*E.z;omega) ?_;show _=(row.drop 0).take ((i+m)*E.z);have:(i+m)*E.z=((xs.take i++List.replicate m z0).flatMap E.enc).length:=by rw[flat_len];simp[hi0]
  rw[this,List.drop_zero];simp only[row];rw[←List.flatMap_append,List.take_left]
end
end Go.Vc
namespace Go.Vc
open Go
section
variable {P:Program} {B:Nat} {w0 w:World} {L R:List Asn} {α:Type} {E:EncT α} {s:Sl} {xs:List α}
theorem Own.partA [I:SlIn s L α E xs] (h:Own B w0 w L) {p n t:Nat} (hp:p+n≤xs.length) (ht:t<n):
  ∃a a0,s.a=some a0/\Vc.slA s.a p s.cap E.z=some a/\a.add (t*E.z)=a0.add ((p+t)*E.z):=by
 obtain ⟨b,o,ha,_⟩:=h.get I.i I.at_ (gE (show p<xs.length by omega));have hl:=h.len I.i I.at_;have hc:=(h.slO I.i I.at_).le_cap;refine ⟨_,_,ha,slA_some ha (by omega),?_⟩;rw[add_mk,add_mk,Nat.add_mul,Nat.add_assoc]
theorem Rd.part [I:SlIn s L α E xs] {p n c:Nat} (hp:p+n≤xs.length):Rd E B w0 L ⟨Vc.slA s.a p s.cap E.z,n,c⟩ ((xs.drop p).take n):=by
 refine ⟨by simp;omega,fun w' h i j x hij hj=>?_⟩;rw[List.getElem?_take] at hj;split at hj
 ·rename_i hjn
  rw[List.getElem?_drop] at hj;obtain ⟨a,a0,ha0,ha,he⟩:=h.partA (s:=s) (E:=E) (p:=p) (n:=n) (t:=j) hp hjn;obtain ⟨h0,hc⟩:=h.ixa (s:=s) (E:=E) (i:=((p+j:Nat):Int)) (j:=p+j) rfl hj ha0;have hi:i.toNat=j:=by omega
  rw[Int.toNat_natCast] at h0 hc;refine ⟨a,ha,fun v hv=>?_,fun c v hv=>?_⟩
  ·rw[hi,he];exact h0 v hv
  ·rw[hi,he];exact hc c v hv
 ·cases hj
end
end Go.Vc
end
section
namespace Go.Proofs.YtogmbmdbgkopjaaGreat
open Go Go.Vc Go.Proofs
def bodyOf (f:Func):Code:=f.body.getD .skip
theorem okF_mk {P:Program} {f:FuncId} {fn:Func} {c:Code} {p:Prop} (hf:P.funcs[f]?=some fn) (hb:fn.body=some c) (h:p):okF P f p:=by
 unfold okF;rw[hf];simp only[hb];exact h
theorem okF_out {P:Program} {f:FuncId} {p:Prop} (h:okF P f p):p:=by
 unfold okF at h;split at h<;>first|exact h.elim|(split at h<;>first|exact h.elim|exact h)
theorem names_ok:∀(f:Nat) (fn:Func),Tryz.prog.funcs[f]?=some fn->(fn.name== "runtime.NumGoroutine")=false:=by
 have h:Tryz.prog.funcs.toList.all (fun fn=> !(fn.name== "runtime.NumGoroutine"))=true:=by kernel_rfl
 intro f fn hf;have:=List.all_eq_true.1 h fn (by rw[Array.mem_toList_iff];exact Array.mem_of_getElem? hf);simpa using this
theorem follows_ok:Tryz.prog.follows .mixedOrders=true:=by kernel_rfl
set_option maxRecDepth 100000 in
theorem okS {f:FuncId} {fn:Func} (hf:Tryz.prog.funcs[f]?=some fn) (an:An) (cs:List (Nat × Sh)) (args:List Value) (K:Tel cs) {w:World} {p:Prop} (hb:fn.body=some (bodyOf fn)) (hok:fnOk Tryz.prog fn (bodyOf fn) an cs args.length=true) (e:p=fnV Tryz.prog fn (bodyOf fn) an cs args K w) (h:p):okF Tryz.prog f (Calls Tryz.prog f ⟨args⟩ w (exK cs K [])):=
 okF_mk hf hb (fn_sound names_ok follows_ok hf hb hok (Eq.mp e h))
abbrev _root_.Go.Value.z (n:Int):Value:= .int .i64 n
abbrev _root_.Go.Value.y (n:Int):Value:= .int .u64 n
abbrev _root_.Go.Vc.Sl.v (s:Sl):Value:= .slice s.a s.len s.cap
abbrev _root_.Go.Vc.Sc.o:Sc:= .i .i64
abbrev _root_.Go.Vc.Sc.u:Sc:= .i .u64
abbrev Pw:=World->Prop
abbrev Fr (q p:Prop):Prop:=p->q
abbrev okG (f:FuncId) (a:List Value) (w:World) (cs:List (Nat × Sh)) (K:Tel cs):Prop:=okF Tryz.prog f (Calls Tryz.prog f ⟨a⟩ w (exK cs K []))
set_option maxRecDepth 8000 in
theorem okT {f:FuncId} {fn:Func} (hf:Tryz.prog.funcs[f]?=some fn) (an:An) {cs:List (Nat × Sh)} {args:List Value} {K:Tel cs} {w:World} {p:Prop} (hb:fn.body=some (bodyOf fn):=by rfl) (hok:fnOk Tryz.prog fn (bodyOf fn) an cs args.length=true:=by kernel_rfl) (e:p=fnV Tryz.prog fn (bodyOf fn) an cs args K w:=by kernel_rfl):Fr (okG f args w cs K) p:=
 by unfold Fr okG;exact okS hf an cs args K hb hok e
def _root_.Go.Vc.An.w:An:= .t none .u .u
def _root_.Go.Vc.An.v (a:An):An:= .t none .u a
def _root_.Go.Vc.An.x (a:An):An:= .t none a .u
def _root_.Go.Vc.An.y (a b:An):An:= .t none a b
def _root_.Go.Vc.An.z (p:Plan):An:= .r none p
def _root_.Go.Vc.Plan.o (a b:Nat) (p:Plan):Plan:= .one a b p
def _root_.Go.Vc.Plan.e (a:Nat) (p:Plan):Plan:= .alt a p .none
def _root_.Go.Vc.Plan.f (a:Nat) (p q:Plan):Plan:= .alt a p q
def _root_.Go.Vc.An.g50:An:= .v (.t (some []) .u .u)
def _root_.Go.Vc.An.g51:An:= .v (.y (.v (.x .w)) .w)
def _root_.Go.Vc.An.g52:An:= .v (.y .w (.x (.x .w)))
def _root_.Go.Vc.An.g53:An:= .y (.v (.x .w)) (.v .w)
def _root_.Go.Vc.An.g45:An:= .v .g51
def _root_.Go.Vc.Plan.g46:Plan:= .o 7 0 (.o 8 0 (.e 9 .done))
def _root_.Go.Vc.An.g47:An:= .r (some [(26,.c .b)]) .done
def _root_.Go.Vc.An.g48:An:= .x (.v (.y .w (.v (.x .w))))
def _root_.Go.Vc.Plan.g49:Plan:= .o 6 0 (.o 7 0 (.e 8 .done))
def _root_.Go.Vc.Plan.g43:Plan:= .e 18 (.e 19 (.o 20 0 .done))
def _root_.Go.Vc.Plan.g44:Plan:= .e 16 (.e 17 (.o 18 0 .done))
def _root_.Go.Vc.An.g40:An:= .y .w (.v (.y .w (.v (.x .w))))
def _root_.Go.Vc.Plan.g41:Plan:= .o 11 0 (.o 12 0 (.e 13 .done))
def _root_.Go.Vc.Plan.g42:Plan:= .e 19 (.o 20 0 (.o 21 0 .done))
def _root_.Go.Vc.An.g39:An:= .v (.y (.v (.x .w)) (.v (.v .w)))
def _root_.Go.Vc.Plan.g38:Plan:= .e 7 (.o 10 0 (.e 11 (.o 12 0 .done)))
def _root_.Go.Vc.An.g37:An:= .y (.r (some [(14,.c .b)]) .done) (.x .w)
def _root_.Go.Vc.An.g36:An:= .v (.v (.y .g48 (.v .w)))
def _root_.Go.Vc.Plan.g34:Plan:= .o 9 0 (.o 10 0 (.o 11 0 (.o 12 0 (.o 13 0 .done))))
def _root_.Go.Vc.Plan.g35:Plan:= .e 1 (.e 6 .g38)
def _root_.Go.Vc.An.g32:An:= .v (.y (.y (.r (some [(9,.c .b)]) .done) (.x .w)) .w)
def _root_.Go.Vc.Plan.g33:Plan:= .e 8 (.e 9 (.e 10 .g41))
def _root_.Go.Vc.An.g31:An:= .v (.y (.y (.r (some [(15,.c .b)]) .done) (.x .w)) .w)
def _root_.Go.Vc.Plan.g29:Plan:= .o 4 0 (.o 5 0 (.o 6 0 .g46))
def _root_.Go.Vc.An.g30:An:= .v (.v (.v (.v (.v (.v (.v (.v (.v (.v (.v .w))))))))))
def _root_.Go.Vc.An.g28:An:= .v (.t (some [(0,.c (.i .u64)),(2,.c (.i .i64))]) .w .u)
def _root_.Go.Vc.An.g27:An:= .v (.y (.v (.x .w)) (.y (.v (.v (.x .w))) (.y (.v .w) .w)))
def _root_.Go.Vc.Plan.g26:Plan:= .o 15 0 (.o 16 0 (.o 17 0 (.e 18 (.o 19 0 (.o 20 0 .done)))))
def _root_.Go.Vc.An.g25:An:= .z (.o 0 16 (.o 1 16 (.o 2 16 (.o 3 16 (.o 4 0 (.e 5 .done))))))
def _root_.Go.Vc.Plan.g24:Plan:= .o 14 0 .g26
def _root_.Go.Vc.An.g23:An:= .y .g25 .w
def _root_.Go.Vc.Plan.g22:Plan:= .o 10 16384 (.o 11 16384 (.o 12 16384 (.o 13 16384 (.o 14 0 (.e 15 .done)))))
def _root_.Go.Vc.Plan.g21:Plan:= .o 13 0 .g24
def _root_.Go.Vc.An.g19:An:= .y (.z (.o 0 48 (.o 1 48 (.o 2 48 (.o 3 48 (.o 4 32 (.o 5 0 (.e 6 .done)))))))) .w
def _root_.Go.Vc.An.g20:An:= .v (.x (.t (some [(5,.c .s),(6,.c (.i .i64))]) (.y (.v .w) (.x (.x (.v .w)))) .u))
def _root_.Go.Vc.Plan.g17:Plan:= .e 9 (.o 10 0 (.o 11 12288 (.o 12 73728 (.o 13 196608 .g44))))
def _root_.Go.Vc.Plan.g18:Plan:= .o 14 384 (.e 7 (.o 8 0 .g26))
def _root_.Go.Vc.Plan.g16:Plan:= .e 11 (.o 12 0 (.o 13 49152 (.o 14 294912 (.o 15 786432 .g43))))
def _root_.Go.Vc.An.g15:An:= .x (.x (.v (.x (.t (some [(3,.c .s),(5,.c (.i .i64))]) (.y (.v .w) (.x (.x (.v .w)))) .u))))
def _root_.Go.Vc.An.g14:An:= .v (.y (.v (.x (.t (some [(8,.c (.i .i64))]) (.v (.y .w (.x (.x (.v (.v (.x .w))))))) .u))) .w)
def _root_.Go.Vc.An.g12:An:= .z (.o 0 238 (.o 1 228 (.o 2 224 (.o 3 224 (.o 4 224 (.o 5 64 .g49))))))
def _root_.Go.Vc.An.g13:An:= .z (.o 0 240 (.o 1 240 (.o 2 240 (.o 3 240 (.o 4 224 (.o 5 64 .g49))))))
def _root_.Go.Vc.An.g10:An:= .z (.o 0 112 (.o 1 112 (.o 2 112 (.o 3 112 .g29))))
def _root_.Go.Vc.An.g11:An:= .z (.o 0 496 (.o 1 496 (.o 2 496 (.o 3 496 .g29))))
def _root_.Go.Vc.An.g9:An:= .v (.v (.y (.v (.x .w)) (.v (.y (.z (.o 0 58 (.o 1 56 (.o 2 56 (.o 3 16 (.o 4 0 (.o 5 0 (.e 6 (.o 7 0 .done))))))))) (.v .w)))))
def _root_.Go.Vc.An.g8:An:= .z (.o 0 1920 (.o 1 1920 (.o 2 1920 (.o 3 1920 (.o 4 1920 (.o 5 1920 (.o 6 1920 (.o 7 0 (.o 8 0 (.o 9 0 (.o 10 0 (.e 11 .done))))))))))))
def _root_.Go.Vc.An.g7:An:= .v (.v (.y (.v (.x .w)) (.y (.v (.x (.t (some [(5,.c (.i .i64)),(6,.c (.i .i64))]) (.y (.v .w) (.x (.x (.v (.v (.x .w)))))) .u))) (.v .w))))
def _root_.Go.Vc.An.g6:An:= .z (.o 0 16256 (.o 1 16256 (.o 2 16256 (.o 3 16256 (.o 4 16256 (.o 5 16256 (.o 6 16256 (.o 7 14336 (.o 8 14336 (.o 9 14336 (.o 10 14336 (.o 11 0 (.o 12 0 (.o 13 0 (.e 14 .done)))))))))))))))
def _root_.Go.Vc.Plan.g5:Plan:= .o 0 528 (.o 1 528 (.o 2 528 (.o 3 528 (.o 4 512 (.f 5 (.o 6 512 (.o 7 768 (.o 8 1536 (.e 9 (.e 10 (.o 11 0 .done)))))) (.e 9 (.e 5 (.o 6 0 (.o 7 256 (.o 8 1024 (.e 10 (.o 11 0 .done))))))))))))
def _root_.Go.Vc.An.g4:An:= .v (.y (.v (.x .w)) (.y (.v (.x (.t (some [(5,.c (.i .i64))]) (.y (.v .w) (.x (.x (.y (.z (.o 0 242 (.o 1 240 (.o 2 240 (.o 3 240 (.o 4 32 (.o 5 0 (.o 6 0 (.o 7 0 (.o 8 0 .done)))))))))) (.x .w))))) .u))) .w))
def _root_.Go.Vc.An.g3:An:= .y (.z (.o 0 16368 (.o 1 16368 (.o 2 16368 (.o 4 6152 (.o 5 6152 (.o 6 6152 (.hold 3 16256 65535 (.hold 7 6144 57343 (.o 8 6144 (.o 9 6144 (.hold 10 6144 57343 (.e 11 (.e 12 (.e 13 (.o 14 0 (.o 15 0 (.e 16 .done)))))))))))))))))) .w
def _root_.Go.Vc.An.g2:An:= .r (some [(4,.c .q)]) (.o 0 4224 (.o 1 4224 (.o 2 4224 (.o 3 4224 (.o 4 4224 (.o 5 4224 (.o 6 4224 (.o 7 4096 (.f 8 (.o 9 4096 (.o 10 6144 (.o 11 12288 (.e 12 (.e 13 (.o 14 0 .done)))))) (.e 12 (.e 8 (.o 9 0 (.o 10 2048 (.o 11 8192 (.e 13 (.o 14 0 .done))))))))))))))))
def _root_.Go.Vc.An.g1:An:= .r (some [(54,.c .b)]) (.o 0 0 (.o 1 0 (.o 2 0 (.o 3 0 (.o 4 0 (.o 5 2089472 (.o 6 2089472 (.o 7 2089472 (.o 8 2089472 (.o 9 2088960 (.o 10 2088960 (.o 11 2088960 (.o 12 2088960 (.o 13 131072 (.o 14 131072 (.o 15 131072 (.o 16 131072 (.o 17 0 (.o 18 0 (.o 19 0 (.o 20 0 (.o 21 0 (.o 22 0 (.o 23 0 .done))))))))))))))))))))))))
def _root_.Go.Vc.An.g0:An:= .r (some [(4,.c .q),(5,.c .b)]) (.o 0 49648 (.o 1 49648 (.o 2 49648 (.o 3 49648 (.o 4 49152 (.o 5 49152 (.o 6 49152 (.o 7 49152 (.o 8 49152 (.f 9 (.o 10 49152 (.o 11 61440 (.o 12 122880 (.o 13 245760 (.f 14 (.e 15 .g44) (.e 15 (.e 14 .g44))))))) (.f 14 (.f 9 (.o 10 32768 (.o 11 45056 (.o 12 106496 (.o 13 229376 (.e 15 .g44))))) (.e 15 .g17)) (.e 15 (.f 9 (.o 10 16384 (.o 11 28672 (.o 12 90112 (.o 13 212992 (.e 14 .g44))))) (.e 14 .g17))))))))))))))
def C.qbO (a b c:Int) (d:Sl) (K:Bool->Pw) (w:World):Prop:=okG 8 [.agg #[.z a, .z b, .z c, .slice d.a d.len d.cap]] w [(0, .c (.b))] K
def C.qcm (a b c:Int) (d:Sl) (K:Option Addr->Int->Pw) (w:World):Prop:=okG 14 [.agg #[.z a, .z b, .z c, .slice d.a d.len d.cap]] w [(0, .c (.p)),(1, .c (.i .i64))] K
def C.qp (a:Option Addr) (K:Sl->Pw) (w:World):Prop:=okG 15 [.pointer a] w [(0, .c (.s))] K
def C.qz (a:Option Addr) (b c d e f g h:Int) (K:Int->Int->Int->Sl->Pw) (w:World):Prop:=okG 16 [.pointer a, .z b, .agg #[.z c, .z d, .z e, .z f, .z g, .z h]] w [(0, .a [.o, .u, .o, .s])] K
def C.qcT (a b:Sl) (K:Bool->Pw) (w:World):Prop:=okG 17 [.slice a.a a.len a.cap, .slice b.a b.len b.cap] w [(0, .c (.b))] K
def C.qaO (K:Bool->Pw) (w:World):Prop:=okG 18 [] w [(0, .c (.b))] K
def C.qaq (a:Option Addr) (b:Int) (K:Int->Bool->Pw) (w:World):Prop:=okG 19 [.pointer a, .z b] w [(0, .c (.i .i64)),(1, .c (.b))] K
def C.qar (a:Option Addr) (b:Int) (K:Int->Int->Int->Int->Int->Int->Int->Int->Int->Int->Int->Int->Int->Pw) (w:World):Prop:=okG 20 [.pointer a, .z b] w [(0, .a [.o, .o, .o, .o, .u, .u, .u, .u, .u, .u, .u, .u]),(1, .c (.i .i64))] K
def C.qaC (a:Option Addr) (b:Int) (K:Sl->Pw) (w:World):Prop:=okG 21 [.pointer a, .z b] w [(0, .c (.s))] K
def C.qdt (k1:Option Addr) (n2:Int) (K:Sl->Bool->Pw) (w:World):Prop:=okF Tryz.prog 22 (Calls Tryz.prog 22 #[.pointer k1, .z n2] w fun en w'=>∃r3:Sl,∃r4,en= .returned (.tuple #[.slice r3.a r3.len r3.cap, .bool r4])/\K r3 r4 w')
def C.qcU (a b c:Int) (d:Sl) (K:Option Addr->Int->Pw) (w:World):Prop:=okG 24 [.agg #[.z a, .z b, .z c, .slice d.a d.len d.cap]] w [(0, .c (.p)),(1, .c (.i .i64))] K
def C.qcV (a b:Option Addr) (c:Int) (K:Bool->Pw) (w:World):Prop:=okG 25 [.pointer a, .pointer b, .z c] w [(0, .c (.b))] K
def C.qdu (k1:Option Addr) (n2:Int) (K:Int->Bool->Pw) (w:World):Prop:=okF Tryz.prog 27 (Calls Tryz.prog 27 #[.pointer k1, .z n2] w fun en w'=>∃r3,∃r4,en= .returned (.tuple #[.y r3, .bool r4])/\K r3 r4 w')
def C.qae (a:Option Addr) (K:Sl->Pw) (w:World):Prop:=okG 29 [.pointer a] w [(0, .c (.s))] K
def C.qH (k1:Option Addr) (n2:Int) (K:Int->Int->Int->Bool->Pw) (w:World):Prop:=okF Tryz.prog 30 (Calls Tryz.prog 30 #[.pointer k1, .z n2] w fun en w'=>∃r3,∃r4,∃r5,∃r6,en= .returned (.tuple #[.agg #[.y r3, .z r4, .y r5], .bool r6])/\K r3 r4 r5 r6 w')
def C.qco (a b:Sl) (K:Bool->Pw) (w:World):Prop:=okG 31 [.slice a.a a.len a.cap, .slice b.a b.len b.cap] w [(0, .c (.b))] K
def C.qcW (a b:Sl) (K:Bool->Pw) (w:World):Prop:=okG 32 [.slice a.a a.len a.cap, .slice b.a b.len b.cap] w [(0, .c (.b))] K
def C.qcI (a b c:Int) (d:Sl) (K:Bool->Pw) (w:World):Prop:=okG 40 [.agg #[.z a, .z b, .z c, .slice d.a d.len d.cap]] w [(0, .c (.b))] K
def C.qcX (K:Option Addr->Pw) (w:World):Prop:=okG 41 [] w [(0, .c (.p))] K
def C.qde (K:Option Addr->Pw) (w:World):Prop:=okG 42 [] w [(0, .c (.p))] K
def C.qbZ (K:Option Addr->Pw) (w:World):Prop:=okG 43 [] w [(0, .c (.p))] K
def C.qcO (a:Int) (K:Option Addr->Int->Pw) (w:World):Prop:=okG 44 [.z a] w [(0, .c (.p)),(1, .c (.i .i64))] K
def C.qdq (a:Int) (K:Option Addr->Int->Pw) (w:World):Prop:=okG 45 [.z a] w [(0, .c (.p)),(1, .c (.i .i64))] K
def C.qaX (a:Option Addr) (b:Int) (K:Int->Int->Pw) (w:World):Prop:=okG 46 [.pointer a, .z b] w [(0, .c (.i .i64)),(1, .c (.i .i64))] K
def C.qF (a:Option Addr) (b c d:Int) (K:Int->Pw) (w:World):Prop:=okG 47 [.pointer a, .z b, .z c, .z d] w [(0, .c (.i .i64))] K
def C.qC (a:Option Addr) (b c:Int) (K:Int->Int->Pw) (w:World):Prop:=okG 48 [.pointer a, .z b, .z c] w [(0, .c (.i .i64)),(1, .c (.i .i64))] K
def C.qv (a:Option Addr) (b:Int) (K:Int->Pw) (w:World):Prop:=okG 49 [.pointer a, .z b] w [(0, .c (.i .i64))] K
def C.qD (a:Option Addr) (b:Int) (K:Int->Bool->Pw) (w:World):Prop:=okG 50 [.pointer a, .z b] w [(0, .c (.i .i64)),(1, .c (.b))] K
def C.qaY (a:Option Addr) (K:Sl->Pw) (w:World):Prop:=okG 51 [.pointer a] w [(0, .c (.s))] K
def C.qaj (a:Option Addr) (b:Int) (K:Bool->Pw) (w:World):Prop:=okG 52 [.pointer a, .z b] w [(0, .c (.b))] K
def C.qaQ (a:Option Addr) (K:Int->Pw) (w:World):Prop:=okG 53 [.pointer a] w [(0, .c (.i .i64))] K
def C.qdo (K:Int->Int->Int->Sl->Pw) (w:World):Prop:=okG 54 [] w [(0, .a [.o, .o, .o, .s])] K
def C.qO (a:Option Addr) (b:Int) (K:Int->Bool->Pw) (w:World):Prop:=okG 55 [.pointer a, .z b] w [(0, .c (.i .i64)),(1, .c (.b))] K
def C.qY (a:Option Addr) (b:Int) (K:Int->Int->Int->Int->Int->Int->Int->Int->Int->Int->Int->Int->Int->Pw) (w:World):Prop:=okG 56 [.pointer a, .z b] w [(0, .a [.o, .o, .o, .o, .u, .u, .u, .u, .u, .u, .u, .u]),(1, .c (.i .i64))] K
def C.qaA (a:Sl) (b:Int) (K:Bool->Pw) (w:World):Prop:=okG 57 [.slice a.a a.len a.cap, .z b] w [(0, .c (.b))] K
def C.qas (a:Option Addr) (K:Sl->Pw) (w:World):Prop:=okG 58 [.pointer a] w [(0, .c (.s))] K
def C.qdg (a:Int) (K:Option Addr->Int->Pw) (w:World):Prop:=okG 61 [.z a] w [(0, .c (.p)),(1, .c (.i .i64))] K
def C.qdh (a:Int) (K:Option Addr->Int->Pw) (w:World):Prop:=okG 62 [.z a] w [(0, .c (.p)),(1, .c (.i .i64))] K
def C.qbz (a:Option Addr) (b:Int) (K:Int->Int->Pw) (w:World):Prop:=okG 63 [.pointer a, .z b] w [(0, .c (.i .i64)),(1, .c (.i .i64))] K
def C.qM (a:Option Addr) (b c:Int) (K:Pw) (w:World):Prop:=okG 64 [.pointer a, .z b, .z c] w [] K
def C.qaR (a:Option Addr) (b c:Int) (K:Int->Int->Pw) (w:World):Prop:=okG 65 [.pointer a, .z b, .z c] w [(0, .c (.i .i64)),(1, .c (.i .i64))] K
def C.qat (a:Option Addr) (b:Int) (K:Int->Pw) (w:World):Prop:=okG 66 [.pointer a, .z b] w [(0, .c (.i .i64))] K
def C.qaS (a:Option Addr) (b:Int) (K:Int->Bool->Pw) (w:World):Prop:=okG 67 [.pointer a, .z b] w [(0, .c (.i .i64)),(1, .c (.b))] K
def C.qbA (a:Option Addr) (K:Sl->Pw) (w:World):Prop:=okG 68 [.pointer a] w [(0, .c (.s))] K
def C.qbi (a:Option Addr) (b:Int) (K:Int->Int->Int->Int->Int->Int->Int->Int->Int->Int->Int->Int->Int->Pw) (w:World):Prop:=okG 69 [.pointer a, .z b] w [(0, .a [.o, .o, .o, .o, .u, .u, .u, .u, .u, .u, .u, .u]),(1, .c (.i .i64))] K
def C.qds (p1:Option Addr) (K:Sl->Bool->Pw) (w:World):Prop:=okF Tryz.prog 70 (Calls Tryz.prog 70 #[.pointer p1] w fun en w'=>∃r2:Sl,∃r3,en= .returned (.tuple #[.slice r2.a r2.len r2.cap, .bool r3])/\K r2 r3 w')
def C.qdy (a1:Sl) (b2:Sl) (K:Bool->Pw) (w:World):Prop:=okF Tryz.prog 71 (Calls Tryz.prog 71 #[.slice a1.a a1.len a1.cap, .slice b2.a b2.len b2.cap] w fun en w'=>∃r3,en= .returned (.bool r3)/\K r3 w')
def C.qdv (n1:Option Addr) (K:Int->Bool->Pw) (w:World):Prop:=okF Tryz.prog 72 (Calls Tryz.prog 72 #[.pointer n1] w fun en w'=>∃r2,∃r3,en= .returned (.tuple #[.y r2, .bool r3])/\K r2 r3 w')
def C.qbj (a:Option Addr) (K:Sl->Pw) (w:World):Prop:=okG 73 [.pointer a] w [(0, .c (.s))] K
def C.qU (a:Option Addr) (b:Int) (K:Int->Bool->Pw) (w:World):Prop:=okG 74 [.pointer a, .z b] w [(0, .c (.i .i64)),(1, .c (.b))] K
def C.qac (a:Option Addr) (b c:Int) (K:Int->Pw) (w:World):Prop:=okG 76 [.pointer a, .z b, .y c] w [(0, .c (.i .i64))] K
def C.qcu (a:Option Addr) (K:Sl->Pw) (w:World):Prop:=okG 79 [.pointer a] w [(0, .c (.s))] K
def C.qaN (a:Sl) (b:Int) (K:Bool->Pw) (w:World):Prop:=okG 80 [.slice a.a a.len a.cap, .z b] w [(0, .c (.b))] K
def C.qcC (a:Int) (K:Bool->Pw) (w:World):Prop:=okG 102 [.z a] w [(0, .c (.b))] K
def C.qV (a:Sl) (b:Value) (K:Bool->Pw) (w:World):Prop:=okG 103 [.slice a.a a.len a.cap,b] w [(0, .c (.b))] K
def C.qak (a:Sl) (b:Int) (K:Sl->Pw) (w:World):Prop:=okG 104 [.slice a.a a.len a.cap, .z b] w [(0, .c (.s))] K
def C.qdi (K:Option Addr->Pw) (w:World):Prop:=okG 105 [] w [(0, .c (.p))] K
def C.qbw (a:Option Addr) (b c d e f g h i:Int) (K:Int->Pw) (w:World):Prop:=okG 106 [.pointer a, .agg #[.z b, .z c], .agg #[.z d, .z e, .z f, .y g, .y h, .z i]] w [(0, .c (.i .i64))] K
def C.qcf (a:Option Addr) (b c:Int) (K:Int->Pw) (w:World):Prop:=okG 107 [.pointer a, .agg #[.z b, .z c]] w [(0, .c (.i .i64))] K
def C.qcp (a:Int) (K:Bool->Pw) (w:World):Prop:=okG 108 [.z a] w [(0, .c (.b))] K
def C.qP (a:Option Addr) (b:Int) (K:Bool->Pw) (w:World):Prop:=okG 109 [.pointer a, .z b] w [(0, .c (.b))] K
def C.qs (a:Option Addr) (b:Int) (K:Option Addr->Pw) (w:World):Prop:=okG 110 [.pointer a, .z b] w [(0, .c (.p))] K
def C.qw (a:Option Addr) (b:Int) (K:Pw) (w:World):Prop:=okG 111 [.pointer a, .z b] w [] K
def C.qbB (a:Option Addr) (K:Int->Bool->Pw) (w:World):Prop:=okG 112 [.pointer a] w [(0, .c (.i .i64)),(1, .c (.b))] K
def C.qg (a:Option Addr) (b c:Int) (K:Pw) (w:World):Prop:=okG 113 [.pointer a, .z b, .z c] w [] K
def C.qy (a b:Value) (K:Sl->Pw) (w:World):Prop:=okG 114 [a,b] w [(0, .c (.s))] K
def C.qb (a:Option Nat) (K:Value->Pw) (w:World):Prop:=okG 115 [.map a] w [(0, .c (.v))] K
def C.qdf (a1:Int) (a2:Int) (b3:Int) (b4:Int) (K:Int->Pw) (w:World):Prop:=okF Tryz.prog 116 (Calls Tryz.prog 116 #[.agg #[.z a1, .z a2], .agg #[.z b3, .z b4]] w fun en w'=>∃r5,en= .returned (.z r5)/\K r5 w')
def C.qcJ (a:Int) (K:Int->Int->Pw) (w:World):Prop:=okG 117 [.z a] w [(0, .a [.o, .o])] K
def C.qa (a:Option Addr) (b c:Int) (K:Int->Int->Int->Int->Int->Int->Int->Int->Bool->Pw) (w:World):Prop:=okG 118 [.pointer a, .z b, .z c] w [(0, .a [.o, .o]),(1, .a [.o, .o, .o, .u, .u, .o]),(2, .c (.b))] K
def C.qaD (a:Option Addr) (K:Int->Pw) (w:World):Prop:=okG 119 [.pointer a] w [(0, .c (.i .i64))] K
def C.qbk (a:Option Addr) (K:Int->Pw) (w:World):Prop:=okG 120 [.pointer a] w [(0, .c (.i .i64))] K
def C.qbl (a:Option Addr) (K:Int->Pw) (w:World):Prop:=okG 121 [.pointer a] w [(0, .c (.i .i64))] K
def C.qaE (a:Option Addr) (K:Int->Pw) (w:World):Prop:=okG 122 [.pointer a] w [(0, .c (.i .i64))] K
def C.qdn (d1:Option Addr) (K:Int->Pw) (w:World):Prop:=okF Tryz.prog 123 (Calls Tryz.prog 123 #[.pointer d1] w fun en w'=>∃r2,en= .returned (.z r2)/\K r2 w')
def C.qaF (a:Option Addr) (K:Int->Pw) (w:World):Prop:=okG 124 [.pointer a] w [(0, .c (.i .i64))] K
def C.qau (a:Option Addr) (K:Int->Pw) (w:World):Prop:=okG 125 [.pointer a] w [(0, .c (.i .i64))] K
def C.qbm (a:Option Addr) (K:Int->Pw) (w:World):Prop:=okG 126 [.pointer a] w [(0, .c (.i .i64))] K
def C.qbn (a:Option Addr) (K:Int->Pw) (w:World):Prop:=okG 127 [.pointer a] w [(0, .c (.i .i64))] K
def C.qbo (a:Option Addr) (K:Int->Pw) (w:World):Prop:=okG 128 [.pointer a] w [(0, .c (.i .i64))] K
def C.qaf (a:Option Addr) (K:Int->Pw) (w:World):Prop:=okG 129 [.pointer a] w [(0, .c (.i .i64))] K
def C.qbp (a:Option Addr) (K:Int->Pw) (w:World):Prop:=okG 130 [.pointer a] w [(0, .c (.i .i64))] K
def C.qaT (a:Option Addr) (K:Int->Pw) (w:World):Prop:=okG 131 [.pointer a] w [(0, .c (.i .i64))] K
def C.qaG (a:Option Addr) (K:Int->Pw) (w:World):Prop:=okG 132 [.pointer a] w [(0, .c (.i .i64))] K
def C.qaU (a:Option Addr) (K:Int->Pw) (w:World):Prop:=okG 133 [.pointer a] w [(0, .c (.i .i64))] K
def C.qbq (a:Option Addr) (K:Int->Pw) (w:World):Prop:=okG 134 [.pointer a] w [(0, .c (.i .i64))] K
def C.qbC (a:Option Addr) (K:Int->Pw) (w:World):Prop:=okG 135 [.pointer a] w [(0, .c (.i .i64))] K
def C.qE (a:Int) (b:Option Nat) (K:Sl->Pw) (w:World):Prop:=okG 136 [.agg #[.z a, .map b]] w [(0, .c (.s))] K
def C.qcP (a:Int) (K:Int->Pw) (w:World):Prop:=okG 137 [.z a] w [(0, .c (.i .u64))] K
def C.qbQ (a:Option Addr) (b c d e f g h i:Int) (K:Int->Pw) (w:World):Prop:=okG 138 [.pointer a, .agg #[.z b, .z c], .agg #[.z d, .z e, .z f, .y g, .y h, .z i]] w [(0, .c (.i .i64))] K
def C.qbR (a:Option Addr) (b c:Int) (K:Int->Pw) (w:World):Prop:=okG 139 [.pointer a, .agg #[.z b, .z c]] w [(0, .c (.i .i64))] K
def C.qcY (a:Int) (K:Bool->Pw) (w:World):Prop:=okG 140 [.z a] w [(0, .c (.b))] K
def C.qav (a:Option Addr) (b:Int) (K:Bool->Pw) (w:World):Prop:=okG 141 [.pointer a, .z b] w [(0, .c (.b))] K
def C.qaZ (a:Option Addr) (b:Int) (K:Bool->Pw) (w:World):Prop:=okG 142 [.pointer a, .z b] w [(0, .c (.b))] K
def C.qba (a:Option Addr) (b:Int) (K:Pw) (w:World):Prop:=okG 143 [.pointer a, .z b] w [] K
def C.qbD (a:Option Addr) (K:Int->Bool->Pw) (w:World):Prop:=okG 144 [.pointer a] w [(0, .c (.i .i64)),(1, .c (.b))] K
def C.qaK (a:Option Addr) (b:Int) (K:Pw) (w:World):Prop:=okG 145 [.pointer a, .z b] w [] K
def C.qca (a:Option Addr) (b:Int) (K:Option Addr->Pw) (w:World):Prop:=okG 146 [.pointer a, .z b] w [(0, .c (.p))] K
def C.qaw (a:Option Addr) (b:Int) (K:Int->Int->Bool->Pw) (w:World):Prop:=okG 147 [.pointer a, .y b] w [(0, .c (.i .i64)),(1, .c (.i .u64)),(2, .c (.b))] K
def C.qu (a:Option Addr) (b c d:Int) (K:Int->Pw) (w:World):Prop:=okG 148 [.pointer a, .z b, .z c, .y d] w [(0, .c (.i .i64))] K
def C.qbE (a:Sl) (K:Sl->Pw) (w:World):Prop:=okG 149 [.slice a.a a.len a.cap] w [(0, .c (.s))] K
def C.qo (a:Sl) (b:Value) (K:Int->Pw) (w:World):Prop:=okG 186 [.slice a.a a.len a.cap,b] w [(0, .c (.i .i64))] K
def C.qcv (a b:Int) (K:Int->Int->Pw) (w:World):Prop:=okG 187 [.y a, .y b] w [(0, .c (.i .u64)),(1, .c (.i .u64))] K
def C.qcD (a b c d e f:Int) (K:Int->Pw) (w:World):Prop:=okG 188 [.agg #[.z a, .z b, .z c, .y d, .y e, .z f]] w [(0, .c (.i .i64))] K
def C.qN (a:Option Addr) (b c:Int) (K:Bool->Pw) (w:World):Prop:=okG 189 [.pointer a, .agg #[.z b, .z c]] w [(0, .c (.b))] K
def C.qK (a:Option Addr) (b c:Int) (K:Int->Pw) (w:World):Prop:=okG 190 [.pointer a, .agg #[.z b, .z c]] w [(0, .c (.i .i64))] K
def C.qbS (a:Option Addr) (b c:Int) (K:Int->Pw) (w:World):Prop:=okG 191 [.pointer a, .z b, .z c] w [(0, .c (.i .i64))] K
def C.qdj (a b c d:Int) (K:Int->Pw) (w:World):Prop:=okG 192 [.agg #[.y a, .y b, .y c, .y d]] w [(0, .c (.i .i64))] K
def C.qbF (a:Option Addr) (b:Int) (K:Int->Pw) (w:World):Prop:=okG 193 [.pointer a, .z b] w [(0, .c (.i .i64))] K
def C.qap (a:Value) (K:Sl->Pw) (w:World):Prop:=okG 194 [a] w [(0, .c (.s))] K
def C.qbW (x1:Sl) (cmp2:Value) (K:Pw) (w:World):Prop:=okF Tryz.prog 195 (Calls Tryz.prog 195 #[.slice x1.a x1.len x1.cap,cmp2] w fun en w'=>en= .returned (.tuple #[])/\K w')
def C.qcZ (a:Sl) (K:Int->Pw) (w:World):Prop:=okG 197 [.slice a.a a.len a.cap] w [(0, .c (.i .i64))] K
def C.qbx (a b:Int) (K:Int->Pw) (w:World):Prop:=okG 198 [.z a, .z b] w [(0, .c (.i .i64))] K
def C.qag (a:Option Addr) (b:Int) (K:Int->Int->Bool->Pw) (w:World):Prop:=okG 199 [.pointer a, .z b] w [(0, .a [.o, .o]),(1, .c (.b))] K
def C.qL (a:Option Addr) (b c:Int) (K:Int->Int->Int->Int->Int->Int->Int->Pw) (w:World):Prop:=okG 200 [.pointer a, .agg #[.z b, .z c]] w [(0, .a [.o, .o, .o, .u, .u, .o]),(1, .c (.i .i64))] K
def C.qcb (a b c d e f:Int) (K:Sl->Int->Int->Int->Int->Pw) (w:World):Prop:=okG 201 [.agg #[.y a, .z b, .y c], .z d, .z e, .z f] w [(0, .c (.s)),(1, .a [.u, .o, .u]),(2, .c (.i .i64))] K
def C.qam (a:Option Addr) (b:Int) (K:Sl->Int->Pw) (w:World):Prop:=okG 202 [.pointer a, .z b] w [(0, .c (.s)),(1, .c (.i .i64))] K
def C.qaL (a:Option Addr) (b c d e f g h i:Int) (K:Pw) (w:World):Prop:=okG 203 [.pointer a, .agg #[.z b, .z c], .agg #[.z d, .z e, .z f, .y g, .y h, .z i]] w [] K
def C.qbr (a:Option Addr) (b:Int) (K:Int->Pw) (w:World):Prop:=okG 204 [.pointer a, .y b] w [(0, .c (.i .i64))] K
def C.qda (a b c d e f g h:Int) (K:Int->Int->Int->Int->Int->Int->Int->Pw) (w:World):Prop:=okG 205 [.agg #[.z a, .z b, .z c, .y d, .y e, .z f], .z g, .y h] w [(0, .a [.o, .o, .o, .u, .u, .o]),(1, .c (.i .i64))] K
def C.qbG (a:Option Addr) (b c d e:Int) (K:Int->Pw) (w:World):Prop:=okG 206 [.pointer a, .agg #[.z b, .z c], .agg #[.z d, .z e]] w [(0, .c (.i .i64))] K
def C.qcg (a:Option Addr) (b c d e:Int) (K:Int->Pw) (w:World):Prop:=okG 207 [.pointer a, .agg #[.z b, .z c], .agg #[.z d, .z e]] w [(0, .c (.i .i64))] K
def C.qan (a:Option Addr) (b c:Int) (K:Pw) (w:World):Prop:=okG 208 [.pointer a, .agg #[.z b, .z c]] w [] K
def C.qbT (a:Option Addr) (b c:Int) (K:Sl->Pw) (w:World):Prop:=okG 209 [.pointer a, .agg #[.z b, .z c]] w [(0, .c (.s))] K
def C.qx (a:Sl) (K:Value->Pw) (w:World):Prop:=okG 210 [.slice a.a a.len a.cap] w [(0, .c (.v))] K
def C.qcw (a b c:Int) (K:Int->Int->Int->Pw) (w:World):Prop:=okG 211 [.agg #[.y a, .z b, .y c]] w [(0, .a [.u, .o, .u])] K
def C.qZ (a:Option Addr) (b:Int) (K:Pw) (w:World):Prop:=okG 212 [.pointer a, .z b] w [] K
def C.qah (a:Option Addr) (b:Int) (K:Int->Pw) (w:World):Prop:=okG 213 [.pointer a, .z b] w [(0, .c (.i .i64))] K
def C.qA (a:Option Addr) (b:Int) (K:Int->Pw) (w:World):Prop:=okG 214 [.pointer a, .z b] w [(0, .c (.i .i64))] K
def C.qax (a:Option Addr) (b c:Int) (K:Int->Pw) (w:World):Prop:=okG 215 [.pointer a, .z b, .z c] w [(0, .c (.i .i64))] K
def C.qQ (a:Option Addr) (b c d e f g h:Int) (i j:Bool) (K:Bool->Int->Int->Int->Int->Int->Int->Int->Int->Bool->Int->Pw) (w:World):Prop:=okG 216 [.pointer a, .z b, .agg #[.z c, .y d, .y e, .y f, .y g, .y h, .bool i], .bool j] w [(0, .a [.b, .o, .o, .o, .u, .u, .u, .u, .u, .b]),(1, .c (.i .i64))] K
def C.qao (a:Option Addr) (K:Pw) (w:World):Prop:=okG 217 [.pointer a] w [] K
def C.qaM (a:Option Addr) (b c d e f g h:Int) (i:Bool) (K:Pw) (w:World):Prop:=okG 218 [.pointer a, .z b, .agg #[.z c, .y d, .y e, .y f, .y g, .y h, .bool i]] w [] K
def C.qR (a:Option Addr) (b:Int) (c:Bool) (K:Bool->Int->Int->Int->Int->Int->Int->Int->Int->Bool->Int->Pw) (w:World):Prop:=okG 219 [.pointer a, .z b, .bool c] w [(0, .a [.b, .o, .o, .o, .u, .u, .u, .u, .u, .b]),(1, .c (.i .i64))] K
def C.qaV (a:Option Addr) (b:Int) (c:Bool) (K:Int->Bool->Int->Pw) (w:World):Prop:=okG 220 [.pointer a, .z b, .bool c] w [(0, .c (.i .u64)),(1, .c (.b)),(2, .c (.i .i64))] K
def C.qaW (a:Option Addr) (b c:Int) (K:Int->Pw) (w:World):Prop:=okG 221 [.pointer a, .z b, .z c] w [(0, .c (.i .i64))] K
def C.qbb (a:Option Addr) (b c d:Int) (K:Int->Pw) (w:World):Prop:=okG 222 [.pointer a, .z b, .agg #[.z c, .z d]] w [(0, .c (.i .i64))] K
def C.qai (a:Option Addr) (b:Int) (K:Int->Int->Int->Pw) (w:World):Prop:=okG 223 [.pointer a, .z b] w [(0, .a [.o, .o]),(1, .c (.i .i64))] K
def C.qS (a:Option Addr) (b c d e:Int) (K:Pw) (w:World):Prop:=okG 224 [.pointer a, .z b, .agg #[.z c, .z d, .z e]] w [] K
def C.qch (a:Option Addr) (b c d:Int) (K:Int->Pw) (w:World):Prop:=okG 225 [.pointer a, .z b, .z c, .y d] w [(0, .c (.i .i64))] K
def C.qcx (a:Option Addr) (b:Int) (K:Int->Int->Bool->Int->Pw) (w:World):Prop:=okG 226 [.pointer a, .z b] w [(0, .c (.i .i64)),(1, .c (.i .u64)),(2, .c (.b)),(3, .c (.i .i64))] K
def C.qcM (seq1:Value) (K:Sl->Pw) (w:World):Prop:=okF Tryz.prog 227 (Calls Tryz.prog 227 #[seq1] w fun en w'=>∃r2:Sl,en= .returned (.slice r2.a r2.len r2.cap)/\K r2 w')
def C.qG (m1:Option Nat) (K:Value->Pw) (w:World):Prop:=okF Tryz.prog 228 (Calls Tryz.prog 228 #[.map m1] w fun en w'=>∃r2:Value,en= .returned (r2)/\K r2 w')
def C.qci (a:Option Addr) (b c:Int) (K:Bool->Pw) (w:World):Prop:=okG 229 [.pointer a, .agg #[.z b, .z c]] w [(0, .c (.b))] K
def C.qcQ (a b c d e f:Int) (K:Int->Pw) (w:World):Prop:=okG 230 [.agg #[.z a, .z b, .z c, .y d, .y e, .z f]] w [(0, .c (.i .i64))] K
def C.qbH (a:Option Addr) (b c:Int) (K:Int->Pw) (w:World):Prop:=okG 231 [.pointer a, .agg #[.z b, .z c]] w [(0, .c (.i .i64))] K
def C.qcj (a:Option Addr) (b c d e:Int) (K:Pw) (w:World):Prop:=okG 232 [.pointer a, .z b, .agg #[.z c, .z d], .z e] w [] K
def C.qbU (a:Option Addr) (b c:Int) (K:Int->Pw) (w:World):Prop:=okG 233 [.pointer a, .z b, .z c] w [(0, .c (.i .i64))] K
def C.qbI (a:Option Addr) (b:Int) (K:Sl->Pw) (w:World):Prop:=okG 234 [.pointer a, .z b] w [(0, .c (.s))] K
def C.qbJ (a:Option Addr) (b:Int) (K:Int->Pw) (w:World):Prop:=okG 235 [.pointer a, .z b] w [(0, .c (.i .i64))] K
def C.qal (a:Sl) (b c:Int) (K:Sl->Pw) (w:World):Prop:=okG 236 [.slice a.a a.len a.cap, .z b, .z c] w [(0, .c (.s))] K
def C.qbg (a:Sl) (K:Int->Pw) (w:World):Prop:=okG 237 [.slice a.a a.len a.cap] w [(0, .c (.i .i64))] K
def C.qbh (a:Bool) (b:Int) (K:Int->Pw) (w:World):Prop:=okG 238 [.bool a, .z b] w [(0, .c (.i .i64))] K
def C.qcq (a:Int) (K:Bool->Pw) (w:World):Prop:=okG 242 [.z a] w [(0, .c (.b))] K
def C.qcy (a:Int) (K:Bool->Pw) (w:World):Prop:=okG 243 [.z a] w [(0, .c (.b))] K
def C.qcr (a b:Int) (K:Int->Int->Pw) (w:World):Prop:=okG 259 [.y a, .y b] w [(0, .c (.i .u64)),(1, .c (.i .u64))] K
def C.qcE (a:Int) (K:Bool->Pw) (w:World):Prop:=okG 260 [.z a] w [(0, .c (.b))] K
def C.qdb (a b:Int) (K:Bool->Pw) (w:World):Prop:=okG 261 [.y a, .z b] w [(0, .c (.b))] K
def C.qcs (a:Int) (K:Bool->Pw) (w:World):Prop:=okG 262 [.z a] w [(0, .c (.b))] K
def C.qcF (a:Int) (K:Bool->Pw) (w:World):Prop:=okG 263 [.z a] w [(0, .c (.b))] K
def C.qbc (a:Option Addr) (b:Int) (K:Int->Bool->Pw) (w:World):Prop:=okG 264 [.pointer a, .z b] w [(0, .c (.i .i64)),(1, .c (.b))] K
def C.qn (a:Sl) (b:Value) (K:Int->Pw) (w:World):Prop:=okG 265 [.slice a.a a.len a.cap,b] w [(0, .c (.i .i64))] K
def C.qbP (a b c:Int) (d:Addr) (K:Bool->Pw) (w:World):Prop:=okG 266 [.agg #[.z a, .z b, .z c], .pointer (some d)] w [(0, .c (.b))] K
def C.qbd (a:Option Addr) (b:Int) (K:Pw) (w:World):Prop:=okG 267 [.pointer a, .z b] w [] K
def C.qbV (a:Int) (K:Int->Pw) (w:World):Prop:=okG 268 [.y a] w [(0, .c (.i .i64))] K
def C.qB (a:Sl) (b:Value) (K:Sl->Pw) (w:World):Prop:=okG 269 [.slice a.a a.len a.cap,b] w [(0, .c (.s))] K
def C.qbK (a:Int) (b:Addr) (K:Bool->Pw) (w:World):Prop:=okG 270 [.z a, .pointer (some b)] w [(0, .c (.b))] K
def C.qcN (s1:Sl) (seq2:Value) (K:Sl->Pw) (w:World):Prop:=okF Tryz.prog 271 (Calls Tryz.prog 271 #[.slice s1.a s1.len s1.cap,seq2] w fun en w'=>∃r3:Sl,en= .returned (.slice r3.a r3.len r3.cap)/\K r3 w')
def C.qcc (a:Int) (K:Bool->Pw) (w:World):Prop:=okG 274 [.z a] w [(0, .c (.b))] K
def C.qcG (a:Option Addr) (b c d e f g h i:Int) (K:Int->Int->Int->Pw) (w:World):Prop:=okG 275 [.pointer a, .agg #[.z b, .z c, .z d, .y e, .y f, .z g], .y h, .z i] w [(0, .a [.o, .o]),(1, .c (.i .i64))] K
def C.qcz (a b c:Int) (K:Int->Pw) (w:World):Prop:=okG 276 [.agg #[.y a, .z b, .y c]] w [(0, .c (.i .i64))] K
def C.qcK (a b:Int) (K:Int->Int->Pw) (w:World):Prop:=okG 277 [.z a, .z b] w [(0, .c (.i .i64)),(1, .c (.i .i64))] K
def C.qdm (a b:Int) (K:Int->Int->Pw) (w:World):Prop:=okG 278 [.y a, .z b] w [(0, .c (.i .u64)),(1, .c (.i .i64))] K
def C.qaH (a b:Int) (c:Addr) (K:Bool->Pw) (w:World):Prop:=okG 279 [.agg #[.z a, .z b], .pointer (some c)] w [(0, .c (.b))] K
def C.qj (a:Sl) (b:Value) (K:Bool->Pw) (w:World):Prop:=okG 280 [.slice a.a a.len a.cap,b] w [(0, .c (.b))] K
def C.qcA (a:Option Addr) (b c d e:Int) (K:Int->Pw) (w:World):Prop:=okG 281 [.pointer a, .agg #[.z b, .z c], .agg #[.z d, .z e]] w [(0, .c (.i .i64))] K
def C.qcL (K:Option Addr->Pw) (w:World):Prop:=okG 282 [] w [(0, .c (.p))] K
def C.qdc (K:Option Addr->Pw) (w:World):Prop:=okG 283 [] w [(0, .c (.p))] K
def C.qck (a:Option Addr) (b c:Int) (K:Int->Pw) (w:World):Prop:=okG 284 [.pointer a, .agg #[.z b, .z c]] w [(0, .c (.i .i64))] K
def C.qbe (a:Option Addr) (b c:Int) (K:Int->Int->Int->Int->Int->Int->Int->Pw) (w:World):Prop:=okG 285 [.pointer a, .agg #[.z b, .z c]] w [(0, .a [.o, .o, .o, .u, .u, .o]),(1, .c (.i .i64))] K
def C.qk (a:Sl) (b:Value) (K:Bool->Pw) (w:World):Prop:=okG 286 [.slice a.a a.len a.cap,b] w [(0, .c (.b))] K
def C.qaI (a b c d e f g h:Int) (i:Addr) (K:Bool->Pw) (w:World):Prop:=okG 287 [.agg #[.z a, .z b, .z c, .z d, .z e, .y f, .y g, .z h], .pointer (some i)] w [(0, .c (.b))] K
def C.qdk (a b c d e f g h i j k l:Int) (K:Bool->Pw) (w:World):Prop:=okG 288 [.agg #[.z a, .z b, .z c, .y d, .y e, .z f], .agg #[.z g, .z h, .z i, .y j, .y k, .z l]] w [(0, .c (.b))] K
def C.qbs (a:Option Addr) (b c d e f g:Int) (K:Pw) (w:World):Prop:=okG 289 [.pointer a, .agg #[.z b, .z c, .z d, .y e, .y f, .z g]] w [] K
def C.qcd (a:Option Addr) (b:Int) (K:Int->Pw) (w:World):Prop:=okG 290 [.pointer a, .z b] w [(0, .c (.i .i64))] K
def C.qW (a:Option Addr) (b:Int) (K:Bool->Pw) (w:World):Prop:=okG 292 [.pointer a, .z b] w [(0, .c (.b))] K
def C.qay (a:Option Addr) (b:Int) (K:Bool->Pw) (w:World):Prop:=okG 293 [.pointer a, .z b] w [(0, .c (.b))] K
def C.qI (a:Option Addr) (b:Int) (K:Bool->Pw) (w:World):Prop:=okG 294 [.pointer a, .z b] w [(0, .c (.b))] K
def C.qJ (a:Option Addr) (b:Bool) (K:Int->Int->Int->Int->Int->Int->Int->Bool->Bool->Pw) (w:World):Prop:=okG 295 [.pointer a, .bool b] w [(0, .a [.o, .o, .u, .u, .u, .u, .u, .b]),(1, .c (.b))] K
def C.qT (a:Option Addr) (b c d e f g h:Int) (i j:Bool) (K:Pw) (w:World):Prop:=okG 296 [.pointer a, .agg #[.z b, .z c, .y d, .y e, .y f, .y g, .y h, .bool i], .bool j] w [] K
def C.qX (a:Option Addr) (b:Int) (K:Int->Pw) (w:World):Prop:=okG 297 [.pointer a, .z b] w [(0, .c (.i .i64))] K
def C.qab (a:Sl) (b:Int) (K:Bool->Pw) (w:World):Prop:=okG 298 [.slice a.a a.len a.cap, .z b] w [(0, .c (.b))] K
def C.qbX (a:Int) (K:Bool->Pw) (w:World):Prop:=okG 299 [.z a] w [(0, .c (.b))] K
def C.qbf (a:Int) (b:Option Nat) (c:Addr) (K:Bool->Pw) (w:World):Prop:=okG 300 [.agg #[.z a, .map b], .pointer (some c)] w [(0, .c (.b))] K
def C.qd (a:Sl) (b:Value) (K:Bool->Pw) (w:World):Prop:=okG 301 [.slice a.a a.len a.cap,b] w [(0, .c (.b))] K
def C.qcn (a:Int) (K:Bool->Pw) (w:World):Prop:=okG 302 [.z a] w [(0, .c (.b))] K
def C.qcB (a:Int) (K:Bool->Pw) (w:World):Prop:=okG 303 [.z a] w [(0, .c (.b))] K
def C.qaP (a:Option Addr) (b:Int) (K:Option Addr->Bool->Pw) (w:World):Prop:=okG 304 [.pointer a, .z b] w [(0, .c (.p)),(1, .c (.b))] K
def C.qbt (a:Option Addr) (b:Int) (K:Int->Int->Bool->Pw) (w:World):Prop:=okG 305 [.pointer a, .z b] w [(0, .a [.o, .o]),(1, .c (.b))] K
def C.qcH (a b:Int) (K:Bool->Pw) (w:World):Prop:=okG 309 [.y a, .z b] w [(0, .c (.b))] K
def C.qbu (a:Option Addr) (b:Int) (K:Int->Bool->Pw) (w:World):Prop:=okG 310 [.pointer a, .z b] w [(0, .c (.i .i64)),(1, .c (.b))] K
def C.qt (a:Sl) (b:Value) (K:Int->Pw) (w:World):Prop:=okG 311 [.slice a.a a.len a.cap,b] w [(0, .c (.i .i64))] K
def C.qct (a:Int) (K:Bool->Pw) (w:World):Prop:=okG 312 [.z a] w [(0, .c (.b))] K
def C.qdd (a:Int) (K:Int->Int->Pw) (w:World):Prop:=okG 315 [.z a] w [(0, .c (.i .u64)),(1, .c (.i .i64))] K
def C.qdl (a b c d e:Int) (f:Bool) (K:Int->Int->Int->Int->Int->Pw) (w:World):Prop:=okG 316 [.agg #[.y a, .y b, .y c, .y d], .z e, .bool f] w [(0, .a [.u, .u, .u, .u]),(1, .c (.i .i64))] K
def C.qcR (a:Option Addr) (b c d e f g:Int) (h:Value) (K:Int->Int->Int->Pw) (w:World):Prop:=okG 326 [.pointer a, .agg #[.z b, .z c, .z d, .y e, .y f, .z g],h] w [(0, .a [.o, .o]),(1, .c (.i .i64))] K
def C.qbL (a:Option Addr) (b:Int) (K:Int->Bool->Pw) (w:World):Prop:=okG 327 [.pointer a, .z b] w [(0, .c (.i .u64)),(1, .c (.b))] K
def C.qby (a b c d:Int) (K:Int->Int->Pw) (w:World):Prop:=okG 328 [.z a, .z b, .z c, .z d] w [(0, .c (.i .i64)),(1, .c (.i .i64))] K
def C.qce (K:Int->Int->Int->Int->Int->Int->Int->Int->Int->Int->Pw) (w:World):Prop:=okG 329 [] w [(0, .a [.o, .o, .o, .o, .o, .o, .o, .o, .o, .o])] K
def C.qcl (a:Int) (K:Int->Pw) (w:World):Prop:=okG 330 [.z a] w [(0, .c (.i .u64))] K
def C.qq (a:Sl) (b:Value) (K:Int->Pw) (w:World):Prop:=okG 332 [.slice a.a a.len a.cap,b] w [(0, .c (.i .i64))] K
def C.ql (a:Sl) (b:Int) (c:Sl) (K:Sl->Pw) (w:World):Prop:=okG 333 [.slice a.a a.len a.cap, .z b, .slice c.a c.len c.cap] w [(0, .c (.s))] K
def C.qm (a:Sl) (b c:Int) (K:Sl->Pw) (w:World):Prop:=okG 334 [.slice a.a a.len a.cap, .z b, .z c] w [(0, .c (.s))] K
def C.qr (a:Sl) (b:Value) (K:Int->Pw) (w:World):Prop:=okG 335 [.slice a.a a.len a.cap,b] w [(0, .c (.i .i64))] K
def C.qaJ (a:Option Addr) (b:Int) (K:Sl->Pw) (w:World):Prop:=okG 336 [.pointer a, .z b] w [(0, .c (.s))] K
def C.qbM (a:Option Addr) (b:Int) (K:Int->Bool->Pw) (w:World):Prop:=okG 337 [.pointer a, .z b] w [(0, .c (.i .i64)),(1, .c (.b))] K
def C.qbv (a:Option Addr) (b:Int) (K:Sl->Int->Pw) (w:World):Prop:=okG 338 [.pointer a, .z b] w [(0, .c (.s)),(1, .c (.i .i64))] K
def C.qf (a:Sl) (b:Value) (K:Sl->Pw) (w:World):Prop:=okG 339 [.slice a.a a.len a.cap,b] w [(0, .c (.s))] K
def C.qaa (a b c d e f g:Int) (h:Bool) (i:Addr) (K:Bool->Pw) (w:World):Prop:=okG 340 [.agg #[.z a, .z b, .y c, .y d, .y e, .y f, .y g, .bool h], .pointer (some i)] w [(0, .c (.b))] K
def C.qaB (a:Int) (b:Addr) (K:Bool->Pw) (w:World):Prop:=okG 341 [.z a, .pointer (some b)] w [(0, .c (.b))] K
def C.qe (a:Sl) (b:Value) (K:Bool->Pw) (w:World):Prop:=okG 342 [.slice a.a a.len a.cap,b] w [(0, .c (.b))] K
def C.qad (a b c d e f g:Int) (h:Bool) (i:Addr) (K:Bool->Pw) (w:World):Prop:=okG 343 [.agg #[.z a, .z b, .y c, .y d, .y e, .y f, .y g, .bool h], .pointer (some i)] w [(0, .c (.b))] K
def C.qh (a:Sl) (b c:Int) (K:Sl->Pw) (w:World):Prop:=okG 344 [.slice a.a a.len a.cap, .z b, .z c] w [(0, .c (.s))] K
def C.qaz (a:Sl) (b:Int) (K:Int->Pw) (w:World):Prop:=okG 345 [.slice a.a a.len a.cap, .z b] w [(0, .c (.i .i64))] K
def C.qi (a:Sl) (b:Value) (K:Int->Pw) (w:World):Prop:=okG 346 [.slice a.a a.len a.cap,b] w [(0, .c (.i .i64))] K
def C.qbN (a b c:Int) (K:Int->Int->Pw) (w:World):Prop:=okG 347 [.y a, .z b, .z c] w [(0, .c (.i .u64)),(1, .c (.i .i64))] K
def C.qdp (a:Int) (K:Bool->Pw) (w:World):Prop:=okG 350 [.z a] w [(0, .c (.b))] K
def C.qcS (a:Option Addr) (b c d e f g:Int) (K:Int->Bool->Pw) (w:World):Prop:=okG 356 [.pointer a, .agg #[.z b, .z c, .z d, .y e, .y f, .z g]] w [(0, .c (.i .i64)),(1, .c (.b))] K
def C.qdr (s1:Sl) (r2:Int) (K:Pw) (w:World):Prop:=okF Tryz.prog 358 (Calls Tryz.prog 358 #[.slice s1.a s1.len s1.cap, .z r2] w fun en w'=>en= .returned (.tuple #[])/\K w')
def C.qc (a:Sl) (b:Value) (K:Int->Pw) (w:World):Prop:=okG 359 [.slice a.a a.len a.cap,b] w [(0, .c (.i .i64))] K
def C.qbY (a b:Int) (K:Bool->Pw) (w:World):Prop:=okG 360 [.z a, .z b] w [(0, .c (.b))] K
end Go.Proofs.YtogmbmdbgkopjaaGreat
end
section
set_option maxRecDepth 8000
namespace Go.Proofs.YtogmbmdbgkopjaaGreat
open Go Go.Vc Go.Proofs
def ptE:EncT Nat:=⟨1,fun p=>[.pointer (some ⟨p,0,none⟩)],fun _=>rfl,fun x v h=>by
 simp only[List.mem_cons,List.not_mem_nil,or_false] at h;subst h;rfl,by decide⟩
def PtsA {α:Type} (A:Nat->α->Asn) (ps:List Nat) (xs:List α):Asn:=ExA fun _:Unit=>StarA (PureA (ps.length=xs.length)::List.zipWith A ps xs)
section
variable {B:Nat} {w0 w:World} {R:List Asn} {α:Type} {A:Nat->α->Asn} {ps:List Nat} {xs:List α}
theorem _root_.Go.Vc.Own.ptsO (h:Own B w0 w (PtsA A ps xs::R)):ps.length=xs.length/\Own B w0 w (List.zipWith A ps xs++R):=by
 obtain ⟨_,h⟩:=h.ex;exact Own.pure h.star
theorem _root_.Go.Vc.Own.mk_pts (hl:ps.length=xs.length) (h:Own B w0 w (List.zipWith A ps xs++R)):Own B w0 w (PtsA A ps xs::R):=
 Own.mk_ex () (Own.mk_star (Own.mk_pure hl h))
theorem zipP_get {p:Nat} {x:α} {j:Nat} (hp:ps[j]?=some p) (hx:xs[j]?=some x) (R:List Asn):(List.zipWith A ps xs++R)[j]?=some (A p x):=by
 have h1:=(List.getElem?_eq_some_iff.1 hp).1;have h2:=(List.getElem?_eq_some_iff.1 hx).1;rw[List.getElem?_append_left (by simp;omega),List.getElem?_zipWith,hp,hx]
theorem _root_.Go.Vc.Own.pt (h:Own B w0 w (PtsA A ps xs::R)) {j:Nat} {p:Nat} {x:α} (hp:ps[j]?=some p) (hx:xs[j]?=some x):
  Own B w0 w (A p x::((List.zipWith A ps xs).eraseIdx j++R)):=by
 obtain ⟨hl,h⟩:=h.ptsO;have h1:=(List.getElem?_eq_some_iff.1 hp).1;have:=h.take j (zipP_get hp hx R)
 rwa [List.eraseIdx_append_of_lt_length (by simp;omega)] at this
theorem zipP_set {p:Nat} {x':α}:∀(ps:List Nat) (xs:List α) (j:Nat),ps[j]?=some p->List.zipWith A ps (xs.set j x')=(List.zipWith A ps xs).set j (A p x')
 | [],xs,j,h=>by simp at h
 |_::_,[],j,_=>by cases j<;>simp
 |s::ps,r::xs,0,h=>by simp at h;subst h;simp
 |s::ps,r::xs,j+1,h=>by simp[zipP_set ps xs j (by simpa using h)]
theorem _root_.Go.Vc.Own.pt_back {j:Nat} {p:Nat} {x':α} (hl:ps.length=xs.length) (hp:ps[j]?=some p) (h:Own B w0 w (A p x'::((List.zipWith A ps xs).eraseIdx j++R))):
  Own B w0 w (PtsA A ps (xs.set j x')::R):=by
 have hj:=(List.getElem?_eq_some_iff.1 hp).1;refine Own.mk_pts (by simp[hl]) ?_;rw[zipP_set _ _ _ hp];have hj':j<(List.zipWith A ps xs).length:=by simp;omega
 have h2:Own B w0 w (A p x'::(List.zipWith A ps xs++R).eraseIdx j):=by rwa [List.eraseIdx_append_of_lt_length hj']
 have:=h2.put (by simp;omega)
 rwa [List.set_append_left _ _ hj'] at this
theorem zipP_snoc {p:Nat} {x:α}:∀(ps:List Nat) (xs:List α),ps.length=xs.length->List.zipWith A (ps++ [p]) (xs++ [x])=List.zipWith A ps xs++ [A p x]
 | [],[],_=>rfl
 | [],_::_,h=>by simp at h
 |_::_,[],h=>by simp at h
 |a::ps,b::xs,h=>by simp[zipP_snoc ps xs (by simpa using h)]
theorem _root_.Go.Vc.Own.pt_add {p:Nat} {x:α} (h:Own B w0 w (A p x::PtsA A ps xs::R)):Own B w0 w (PtsA A (ps++ [p]) (xs++ [x])::R):=by
 have h2:Own B w0 w (PtsA A ps xs::A p x::R):=h.perm (List.Perm.swap _ _ _);obtain ⟨hl,h3⟩:=h2.ptsO;refine Own.mk_pts (by simp[hl]) ?_;rw[zipP_snoc _ _ hl,List.append_assoc];exact h3
theorem _root_.Go.Vc.Own.pts_len (h:Own B w0 w (PtsA A ps xs::R)):ps.length=xs.length:=h.ptsO.1
end
section
variable {B:Nat} {w0 w:World} {R L:List Asn} {α β:Type} {A:Nat->α->Asn}
theorem ptE_ix {s:Sl} {ps:List Nat} {j p:Nat} {i:Int} {G:Addr->Prop} [I:SlIn s L Nat ptE ps] (h:Own B w0 w L) (hij:i=(j:Int)) (hj:ps[j]?=some p)
  (hG:∀a,s.a=some a->w.cell? (a.add (i.toNat*1))=some (.pointer (some ⟨p,0,none⟩))->G a):∃a,s.a=some a/\0≤i/\i<(s.len:Int)/\G a:=
 h.ixc (s:=s) hij hj fun a ha h0 _=>hG a ha (h0 _ rfl)
end
end Go.Proofs.YtogmbmdbgkopjaaGreat
end
section
set_option maxRecDepth 100000
namespace Go.Proofs.YtogmbmdbgkopjaaGreat
open Go Go.Vc Go.Proofs
theorem S.qcD0 {a b c d e f K w}:Fr (C.qcD a b c d e f K w) (Al w (.cells #[.z a, .z b, .z c, .y d, .y e, .z f] 42) fun a=>∀b:Bool->Pw,(∀(a:Bool) (c:World),(LdL c (.mk w.heap.size 0 none) 0 [.o, .o, .o, .u, .u, .o] fun (b d e f g h:Int)=>∃i,EqB Tryz.prog .eql 42 (.tmp 35) (.tmp 36) (.agg #[.z b, .z d, .z e, .y f, .y g, .z h]) (.agg #[.z 0, .z 0, .z 0, .y 0, .y 0, .z 0]) i/\bif i then (K 0 c) else (∀b:Bool->Pw,(∀(a:Bool) (c:World),(bif a then (K 40 c) else (∀a:Bool->Pw,(∀(b:Bool) (c:World),(bif b then (bif b then (K 40 c) else (K 0 c)) else (∃a,c.cell? ((Addr.mk w.heap.size 0 none).add 5)=some (.z a)/\bif a !=0 then (∃a,c.cell? (Addr.mk w.heap.size 0 none)=some (.z a)/\bif a !=2 then (K 40 c) else (K 0 c)) else (K 0 c)))->a b c)->(∃b,c.cell? ((Addr.mk w.heap.size 0 none).add 3)=some (.y b)/\bif b !=0 then (∃b,c.cell? (Addr.mk w.heap.size 0 none)=some (.z b)/\C.qcF b (fun b c=>a (!b) c) c) else (a false c))))->b a c)->(bif !a then (b (!a) c) else (∃a,c.cell? (Addr.mk w.heap.size 0 none)=some (.z a)/\C.qcs a (fun a c=>bif !a then (∃a,c.cell? ((Addr.mk w.heap.size 0 none).add 2)=some (.z a)/\b (a !=7) c) else (b false c)) c))))->b a c)->(∃c,a.cell? (Addr.mk w.heap.size 0 none)=some (.z c)/\bif decide (c>0) then (∃c,a.cell? (Addr.mk w.heap.size 0 none)=some (.z c)/\bif decide (c<10) then (∃c,a.cell? ((Addr.mk w.heap.size 0 none).add 1)=some (.z c)/\bif decide (c≥0) then (∃c,a.cell? ((Addr.mk w.heap.size 0 none).add 1)=some (.z c)/\bif decide (c<2147483648) then (∃c,a.cell? ((Addr.mk w.heap.size 0 none).add 2)=some (.z c)/\C.qcE c (fun a c=>bif a then (∃a,c.cell? ((Addr.mk w.heap.size 0 none).add 4)=some (.y a)/\∃d,c.cell? ((Addr.mk w.heap.size 0 none).add 5)=some (.z d)/\C.qdb a d (fun a c=>b a c) c) else (b false c)) a) else (b false a)) else (b false a)) else (b false a)) else (b false a))):=okT Tryz.func188 (.v (.y (.r (some [(3,.c .b)]) .done) (.y (.x (.v (.y .w (.y (.v (.t (some [(38,.c .b)]) .u .u)) (.y .w (.y (.y (.r (some [(50,.c .b)]) .done) .w) (.x .w))))))) .w)))
theorem S.qda0 {a b c d e f g h K w}:Fr (C.qda a b c d e f g h K w) (Al w (.cells #[.z a, .z b, .z c, .y d, .y e, .z f] 42) fun a=>Al a (.cells #[.z 0, .z 0, .z 0, .y 0, .y 0, .z 0] 42) fun b=>LdL b (.mk w.heap.size 0 none) 0 [.o, .o, .o, .u, .u, .o] fun (c d e f i j:Int)=>C.qcD c d e f i j (fun b c=>bif b !=0 then (StL c (.mk a.heap.size 0 none) 0 [.z 0, .z 0, .z 0, .y 0, .y 0, .z 0] fun c=>LdL c (.mk a.heap.size 0 none) 0 [.o, .o, .o, .u, .u, .o] fun (a d e f g h:Int)=>K a d e f g h b c) else (C.qcE g (fun b c=>bif !b then (StL c (.mk a.heap.size 0 none) 0 [.z 0, .z 0, .z 0, .y 0, .y 0, .z 0] fun b=>LdL b (.mk a.heap.size 0 none) 0 [.o, .o, .o, .u, .u, .o] fun (a c d e f g:Int)=>K a c d e f g 1 b) else (∃b,c.cell? (Addr.mk w.heap.size 0 none)=some (.z b)/\∀d:Bool->Pw,(∀(b:Bool) (c:World),(bif b then (StL c (.mk a.heap.size 0 none) 0 [.z 0, .z 0, .z 0, .y 0, .y 0, .z 0] fun b=>LdL b (.mk a.heap.size 0 none) 0 [.o, .o, .o, .u, .u, .o] fun (a c d e f g:Int)=>K a c d e f g 41 b) else (∃b,c.cell? (Addr.mk w.heap.size 0 none)=some (.z b)/\C.qcs b (fun b c=>∀d:Pw,(∀b:World,(bif h !=0 then (St b ((Addr.mk w.heap.size 0 none).add 3) (.y h) fun b=>LdL b (.mk w.heap.size 0 none) 0 [.o, .o, .o, .u, .u, .o] fun (c d e f g h:Int)=>StL b (.mk a.heap.size 0 none) 0 [.z c, .z d, .z e, .y f, .y g, .z h] fun b=>LdL b (.mk a.heap.size 0 none) 0 [.o, .o, .o, .u, .u, .o] fun (a c d e f g:Int)=>K a c d e f g 0 b) else (LdL b (.mk w.heap.size 0 none) 0 [.o, .o, .o, .u, .u, .o] fun (c d e f g h:Int)=>StL b (.mk a.heap.size 0 none) 0 [.z c, .z d, .z e, .y f, .y g, .z h] fun b=>LdL b (.mk a.heap.size 0 none) 0 [.o, .o, .o, .u, .u, .o] fun (a c d e f g:Int)=>K a c d e f g 0 b))->d b)->(bif b then (∃a,c.cell? ((Addr.mk w.heap.size 0 none).add 2)=some (.z a)/\St c ((Addr.mk w.heap.size 0 none).add 2) (.z (andI .i64 a g)) fun a=>d a) else (d c))) c))->d b c)->(bif b==0 then (d (b==0) c) else (bif h !=0 then (∃a,c.cell? (Addr.mk w.heap.size 0 none)=some (.z a)/\C.qcF a (fun a b=>bif !a then (d true b) else (∃a,b.cell? ((Addr.mk w.heap.size 0 none).add 3)=some (.y a)/\d (a !=0) b)) c) else (d false c))))) c)) b):=okT Tryz.func205 (.v (.v (.y (.x (.v (.y .w (.v (.y .w (.y (.v (.t (some [(21,.c .b)]) .u .u)) (.x .w))))))) (.y .g50 (.y (.v .w) .w)))))
theorem S.qcE0 {a K w}:Fr (C.qcE a K w) (bif decide (a≥0) then (K (decide (a≤7)) w) else (K false w)):=okT Tryz.func260 (.v .w)
theorem S.qdb0 {a b K w}:Fr (C.qdb a b K w) (C.qdd b (fun b c d=>bif c==0 then (K ((andNotI .u64 a b)==0) d) else (K false d)) w):=okT Tryz.func261 (.v (.v .w))
theorem S.qcs0 {a K w}:Fr (C.qcs a K w) (bif a==4 then (K true w) else (bif a==5 then (K true w) else (K (a==6) w))):=okT Tryz.func262 (.v .w)
theorem S.qcF0 {a K w}:Fr (C.qcF a K w) (bif a==4 then (K true w) else (K (a==5) w)):=okT Tryz.func263 (.v .w)
theorem S.qdk0 {a b c d e f g h i j k l K w}:Fr (C.qdk a b c d e f g h i j k l K w) (Al w (.cells #[.z a, .z b, .z c, .y d, .y e, .z f] 42) fun a=>Al a (.cells #[.z g, .z h, .z i, .y j, .y k, .z l] 42) fun b=>∃c,b.cell? (Addr.mk w.heap.size 0 none)=some (.z c)/\bif c !=0 then (∃c,b.cell? (Addr.mk w.heap.size 0 none)=some (.z c)/\∃d,b.cell? (Addr.mk a.heap.size 0 none)=some (.z d)/\bif c==d then (∃c,b.cell? ((Addr.mk w.heap.size 0 none).add 1)=some (.z c)/\∃d,b.cell? ((Addr.mk a.heap.size 0 none).add 1)=some (.z d)/\K (c==d) b) else (K false b)) else (K false b)):=okT Tryz.func288 (.v .w)
theorem S.qcZ0 {a K w}:Fr (C.qcZ a K w) (∀b:Int->Pw,(∀(c:Int) (d:World),(bif decide (c<(a.len:Int)) then (∃e,a.a=some e/\0≤c/\c<(a.len:Int)/\∃a,d.cell? (e.add (c.toNat*1))=some (.z a)/\bif a !=0 then (K a d) else (b (IntKind.i64.wrap (c+1)) d)) else (K 0 d))->b c d)->b 0 w):=okT Tryz.func197 (.v .g14)
theorem S.qbx0 {a b K w}:Fr (C.qbx a b K w) (C.qcc a (fun c d=>C.qcc b (fun d e=>bif c then (bif d then (K 0 e) else (K (-1) e)) else (bif d then (K 1 e) else (bif decide (a<b) then (K (-1) e) else (bif decide (a>b) then (K 1 e) else (K 0 e))))) d) w):=okT Tryz.func198 (.v (.v (.v (.y (.v (.x (.y (.v (.x .w)) .w))) (.y (.v (.x .w)) (.y (.v (.x .w)) (.y (.v (.x .w)) .w)))))))
theorem S.qcc0 {a K w}:Fr (C.qcc a K w) (K (a !=a) w):=okT Tryz.func274 (.v .w)
theorem S.qQ0 {a b c d e f g h i j K w}:Fr (C.qQ a b c d e f g h i j K w) (Al w (.cells #[.z c, .y d, .y e, .y f, .y g, .y h, .bool i] 223) fun c=>Al c (.cells #[.bool false, .z 0, .z 0, .z 0, .y 0, .y 0, .y 0, .y 0, .y 0, .bool false] 267) fun d=>C.qI a b (fun d e=>bif d then (StL e (.mk c.heap.size 0 none) 0 [.bool false, .z 0, .z 0, .z 0, .y 0, .y 0, .y 0, .y 0, .y 0, .bool false] fun a=>LdL a (.mk c.heap.size 0 none) 0 [.b, .o, .o, .o, .u, .u, .u, .u, .u, .b] fun (b:Bool) (c d e f g h i j:Int) (k:Bool)=>K b c d e f g h i j k 110 a) else (C.qJ a false (fun d e f g h i k l m n=>Al n (.cells #[.z 0, .z 0, .y 0, .y 0, .y 0, .y 0, .y 0, .bool false] 225) fun o=>StL o (.mk n.heap.size 0 none) 0 [.z d, .z e, .y f, .y g, .y h, .y i, .y k, .bool l] fun d=>bif m then (∃a,d.cell? (Addr.mk n.heap.size 0 none)=some (.z a)/\LdL d (.mk w.heap.size 0 none) 0 [.o, .u, .u, .u, .u, .u, .b] fun (e f g h i j:Int) (k:Bool)=>StL d (.mk c.heap.size 0 none) 0 [.bool true, .z b, .z a, .z e, .y f, .y g, .y h, .y i, .y j, .bool k] fun a=>LdL a (.mk c.heap.size 0 none) 0 [.b, .o, .o, .o, .u, .u, .u, .u, .u, .b] fun (b:Bool) (c d e f g h i j:Int) (k:Bool)=>K b c d e f g h i j k 0 a) else (bif j then (LdL d (.mk w.heap.size 0 none) 0 [.o, .u, .u, .u, .u, .u, .b] fun (e f g h i j:Int) (k:Bool)=>C.qT a b e f g h i j k true (fun a=>StL a (.mk c.heap.size 0 none) 0 [.bool false, .z 0, .z 0, .z 0, .y 0, .y 0, .y 0, .y 0, .y 0, .bool false] fun a=>LdL a (.mk c.heap.size 0 none) 0 [.b, .o, .o, .o, .u, .u, .u, .u, .u, .b] fun (b:Bool) (c d e f g h i j:Int) (k:Bool)=>K b c d e f g h i j k 0 a) d) else (StL d (.mk c.heap.size 0 none) 0 [.bool false, .z 0, .z 0, .z 0, .y 0, .y 0, .y 0, .y 0, .y 0, .bool false] fun a=>LdL a (.mk c.heap.size 0 none) 0 [.b, .o, .o, .o, .u, .u, .u, .u, .u, .b] fun (b:Bool) (c d e f g h i j:Int) (k:Bool)=>K b c d e f g h i j k 0 a))) e)) d):=okT Tryz.func216 .g27
theorem S.qR0 {a b c K w}:Fr (C.qR a b c K w) (Al w (.cells #[.bool false, .z 0, .z 0, .z 0, .y 0, .y 0, .y 0, .y 0, .y 0, .bool false] 267) fun d=>C.qI a b (fun d e=>bif d then (StL e (.mk w.heap.size 0 none) 0 [.bool false, .z 0, .z 0, .z 0, .y 0, .y 0, .y 0, .y 0, .y 0, .bool false] fun a=>LdL a (.mk w.heap.size 0 none) 0 [.b, .o, .o, .o, .u, .u, .u, .u, .u, .b] fun (b:Bool) (c d e f g h i j:Int) (k:Bool)=>K b c d e f g h i j k 110 a) else (C.qJ a true (fun d e f g h i j k l m=>Al m (.cells #[.z 0, .z 0, .y 0, .y 0, .y 0, .y 0, .y 0, .bool false] 225) fun n=>StL n (.mk m.heap.size 0 none) 0 [.z d, .z e, .y f, .y g, .y h, .y i, .y j, .bool k] fun d=>bif l then (∃a,d.cell? (Addr.mk m.heap.size 0 none)=some (.z a)/\LdL d ((Addr.mk m.heap.size 0 none).add 1) 0 [.o, .u, .u, .u, .u, .u, .b] fun (c e f g h i:Int) (j:Bool)=>StL d (.mk w.heap.size 0 none) 0 [.bool true, .z a, .z b, .z c, .y e, .y f, .y g, .y h, .y i, .bool j] fun a=>LdL a (.mk w.heap.size 0 none) 0 [.b, .o, .o, .o, .u, .u, .u, .u, .u, .b] fun (b:Bool) (c d e f g h i j:Int) (k:Bool)=>K b c d e f g h i j k 0 a) else (bif c then (C.qT a b 0 0 0 0 0 0 false false (fun a=>StL a (.mk w.heap.size 0 none) 0 [.bool false, .z 0, .z 0, .z 0, .y 0, .y 0, .y 0, .y 0, .y 0, .bool false] fun a=>LdL a (.mk w.heap.size 0 none) 0 [.b, .o, .o, .o, .u, .u, .u, .u, .u, .b] fun (b:Bool) (c d e f g h i j:Int) (k:Bool)=>K b c d e f g h i j k 0 a) d) else (StL d (.mk w.heap.size 0 none) 0 [.bool false, .z 0, .z 0, .z 0, .y 0, .y 0, .y 0, .y 0, .y 0, .bool false] fun a=>LdL a (.mk w.heap.size 0 none) 0 [.b, .o, .o, .o, .u, .u, .u, .u, .u, .b] fun (b:Bool) (c d e f g h i j:Int) (k:Bool)=>K b c d e f g h i j k 0 a))) e)) d):=okT Tryz.func219 .g27
theorem S.qcL0 {K w}:Fr (C.qcL K w) (Al w (.cells #[.slice none 0 0, .bool false] 220) fun a=>K (some (.mk w.heap.size 0 none)) a):=okT Tryz.func282 (.v .w)
theorem S.qW0 {a b K w}:Fr (C.qW a b K w) (Al w (.cells #[.z b] 3) fun b=>∃c,a=some c/\∃d:Sl,b.cell? c=some (.slice d.a d.len d.cap)/\∃c,a=some c/\∃e:Sl,b.cell? c=some (.slice e.a e.len e.cap)/\C.qf e (.func (.func 340) #[] #[.pointer (some (.mk w.heap.size 0 none))]) (fun b c=>∃e,a=some e/\St c e (.slice b.a b.len b.cap) fun b=>∃c,a=some c/\∃a:Sl,b.cell? c=some (.slice a.a a.len a.cap)/\K (decide ((a.len:Int)<(d.len:Int))) b) b):=okT Tryz.func292 (.v (.v (.v .w)))
theorem S.qI0 {a b K w}:Fr (C.qI a b K w) (Al w (.cells #[.z b] 3) fun b=>∃c,a=some c/\∃a:Sl,b.cell? c=some (.slice a.a a.len a.cap)/\C.qe a (.func (.func 343) #[] #[.pointer (some (.mk w.heap.size 0 none))]) (fun a b=>K a b) b):=okT Tryz.func294 (.v .w)
theorem S.qJ0 {a b K w}:Fr (C.qJ a b K w) (Al w (.cells #[.z 0, .z 0, .y 0, .y 0, .y 0, .y 0, .y 0, .bool false] 225) fun c=>∀d:Bool->Pw,(∀(b:Bool) (c:World),(bif b then (StL c (.mk w.heap.size 0 none) 0 [.z 0, .z 0, .y 0, .y 0, .y 0, .y 0, .y 0, .bool false] fun a=>LdL a (.mk w.heap.size 0 none) 0 [.o, .o, .u, .u, .u, .u, .u, .b] fun (b c d e f g h:Int) (i:Bool)=>K b c d e f g h i false a) else (∃b,a=some b/\∃d:Sl,c.cell? b=some (.slice d.a d.len d.cap)/\∃b,d.a=some b/\(0:Int)≤0/\0<(d.len:Int)/\LdL c (b.add ((0:Int).toNat*8)) 0 [.o, .o, .u, .u, .u, .u, .u, .b] fun (b d e f g h i:Int) (j:Bool)=>Al c (.cells #[.z 0, .z 0, .y 0, .y 0, .y 0, .y 0, .y 0, .bool false] 225) fun k=>StL k (.mk c.heap.size 0 none) 0 [.z b, .z d, .y e, .y f, .y g, .y h, .y i, .bool j] fun b=>∃d,a=some d/\∃e:Sl,b.cell? d=some (.slice e.a e.len e.cap)/\C.qh e 0 1 (fun b d=>∃e,a=some e/\St d e (.slice b.a b.len b.cap) fun a=>LdL a (.mk c.heap.size 0 none) 0 [.o, .o, .u, .u, .u, .u, .u, .b] fun (b c d e f g h:Int) (i:Bool)=>StL a (.mk w.heap.size 0 none) 0 [.z b, .z c, .y d, .y e, .y f, .y g, .y h, .bool i] fun a=>LdL a (.mk w.heap.size 0 none) 0 [.o, .o, .u, .u, .u, .u, .u, .b] fun (b c d e f g h:Int) (i:Bool)=>K b c d e f g h i true a) b))->d b c)->(∃e,a=some e/\∃f:Sl,c.cell? e=some (.slice f.a f.len f.cap)/\bif (f.len:Int)==0 then (d true c) else (∃e,a=some e/\∃a,c.cell? (e.add 1)=some (.bool a)/\d (!(a==b)) c))):=okT Tryz.func295 (.v (.y (.y (.r (some [(20,.c .b)]) .done) (.x .w)) (.v (.v .w))))
theorem S.qT0 {a b c d e f g h i j K w}:Fr (C.qT a b c d e f g h i j K w) (Al w (.cells #[.z b, .z c, .y d, .y e, .y f, .y g, .y h, .bool i] 225) fun b=>Dr b fun b=>∃c,a=some c/\∃d:Sl,b.cell? c=some (.slice d.a d.len d.cap)/\LdL b (.mk w.heap.size 0 none) 0 [.o, .o, .u, .u, .u, .u, .u, .b] fun (c e f g h i k:Int) (l:Bool)=>(Al b (.cells #[.z c, .z e, .y f, .y g, .y h, .y i, .y k, .bool l] 225) fun c=>(∃e f,AppR Tryz.prog [218,218] 218 (.slice d.a d.len d.cap) (.slice (some (.mk b.heap.size 0 none)) 1 1) c e f/\∃b,a=some b/\(St f b (.slice e.a e.len e.cap) fun b=>∃c,a=some c/\(St b (c.add 1) (.bool j) fun a=>K a)/\True)/\True)/\True)/\True):=okT Tryz.func296 (.v (.z (.o 0 1022 (.o 1 8188 (.o 2 704 (.o 3 704 (.o 4 704 (.o 5 704 (.o 6 512 (.o 9 7552 (.e 7 (.e 8 (.o 10 0 (.o 11 0 (.e 12 (.o 13 0 (.o 14 0 (.e 15 .done))))))))))))))))))
theorem S.qaa0 {a b c d e f g h i K w}:Fr (C.qaa a b c d e f g h i K w) (Al w (.cells #[.z a, .z b, .y c, .y d, .y e, .y f, .y g, .bool h] 225) fun a=>∃b,a.cell? (Addr.mk w.heap.size 0 none)=some (.z b)/\∃c,a.cell? i=some (.z c)/\K (b==c) a):=okT Tryz.func340 (.v .w)
theorem S.qad0 {a b c d e f g h i K w}:Fr (C.qad a b c d e f g h i K w) (Al w (.cells #[.z a, .z b, .y c, .y d, .y e, .y f, .y g, .bool h] 225) fun a=>∃b,a.cell? (Addr.mk w.heap.size 0 none)=some (.z b)/\∃c,a.cell? i=some (.z c)/\K (b==c) a):=okT Tryz.func343 (.v .w)
end Go.Proofs.YtogmbmdbgkopjaaGreat
end
