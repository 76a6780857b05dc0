/- What the row rests on: the declarations that it needs, out of my texts (part 2). -/
import Derived.Test.YtogmbmdbgkopjaaGreatZn1
import Derived.ChangeKeysEq
import Derived.Deep.Slices
import Derived.Laws.StructEq
import Derived.Lib.Overlaps
import Derived.Lib.SmallJoins
import Derived.Maps.RangeRun
import Derived.ProofKit
import Derived.Test.YtogmbmdbgkopjaaGreatProg
import Derived.WideKeyRuns
set_option linter.unusedVariables false
set_option linter.unusedSimpArgs false
set_option linter.unusedSectionVars false
section
namespace Go.Vc
open Go
def Blk (w:World) (b:Nat) (l:List Value):Prop:=∃t,w.heap[b]?=some (.cells ⟨l⟩ t (0,0))
def MBlk (w:World) (b:Nat) (es:Array MapEntry) (c:Nat):Prop:=w.heap[b]?=some (.map es c)
structure Upd (F:Nat->Prop) (w w':World):Prop where
 os:w'.os=w.os
 tape:w'.tape=w.tape
 output:w'.output=w.output
 size:w.heap.size≤w'.heap.size
 block:∀k,k<w.heap.size->¬F k->w'.heap[k]?=w.heap[k]?
abbrev No:Nat->Prop:=fun _=>False
theorem Upd.refl (F:Nat->Prop) (w:World):Upd F w w:=⟨rfl,rfl,rfl,Nat.le_refl _,fun _ _ _=>rfl⟩
theorem Upd.mono {F F':Nat->Prop} {w w':World} (h:Upd F w w') (hf:∀k,k<w.heap.size->F k->F' k):Upd F' w w':=
 ⟨h.os,h.tape,h.output,h.size,fun k hk hn=>h.block k hk (fun hF=>hn (hf k hk hF))⟩
theorem Upd.trans {F F':Nat->Prop} {a b c:World} (h:Upd F a b) (h':Upd F' b c) (hf:∀k,k<a.heap.size->F' k->F k):Upd F a c:=
 ⟨h'.os.trans h.os,h'.tape.trans h.tape,h'.output.trans h.output,Nat.le_trans h.size h'.size,fun k hk hn=>
  (h'.block k (Nat.lt_of_lt_of_le hk h.size) (fun hF=>hn (hf k hk hF))).trans (h.block k hk hn)⟩
theorem Upd.then {F:Nat->Prop} {a b c:World} (h:Upd F a b) (h':Upd F b c):Upd F a c:=h.trans h' fun _ _ h=>h
theorem Upd.no {F:Nat->Prop} {a b c:World} (h:Upd F a b) (h':Upd No b c):Upd F a c:=h.trans h' fun _ _ h=>h.elim
theorem Upd.of_no {F:Nat->Prop} {a b:World} (h:Upd No a b):Upd F a b:=h.mono fun _ _ h=>h.elim
theorem Upd.below {F:Nat->Prop} {w w':World} (h:Upd F w w') {B:Nat} (hB:B≤w.heap.size) (hf:∀k,F k->B≤k):RowKit.Below B w w':=
 ⟨h.os,h.tape,h.output,h.size,fun k hk=>h.block k (by omega) (fun hF=>by have:=hf k hF;omega)⟩
theorem Blk.lt {w:World} {b:Nat} {l:List Value} (h:Blk w b l):b<w.heap.size:=by
 obtain ⟨t,h⟩:=h;exact (Array.getElem?_eq_some_iff.1 h).1
theorem MBlk.lt {w:World} {b:Nat} {es:Array MapEntry} {c:Nat} (h:MBlk w b es c):b<w.heap.size:=(Array.getElem?_eq_some_iff.1 h).1
theorem Blk.upd {F:Nat->Prop} {w w':World} {b:Nat} {l:List Value} (h:Blk w b l) (u:Upd F w w') (hn:¬F b):Blk w' b l:=by
 have:=u.block b h.lt hn;obtain ⟨t,h⟩:=h;exact ⟨t,by rw[this];exact h⟩
theorem MBlk.upd {F:Nat->Prop} {w w':World} {b:Nat} {es:Array MapEntry} {c:Nat} (h:MBlk w b es c) (u:Upd F w w') (hn:¬F b):MBlk w' b es c:=by
 have:=u.block b h.lt hn;unfold MBlk at *;rw[this];exact h
theorem Blk.cell {w:World} {b:Nat} {l:List Value} (h:Blk w b l) (i:Nat):w.cell? ⟨b,i,none⟩=l[i]?:=by
 obtain ⟨t,h⟩:=h;simp[World.cell?,h]
theorem Blk.frozen {w:World} {b:Nat} {l:List Value} (h:Blk w b l) (i:Nat):w.frozen? ⟨b,i,none⟩=false:=by
 obtain ⟨t,h⟩:=h;simp[World.frozen?,h]
theorem add_mk (b o n:Nat):(Addr.mk b o none).add n=⟨b,o+n,none⟩:=by
 unfold Addr.add;by_cases h:n=0
 ·subst h;simp
 ·simp[h]
theorem Blk.cellA {w:World} {b o n:Nat} {l:List Value} {v:Value} (h:Blk w b l) (hv:l[o+n]?=some v):w.cell? ((Addr.mk b o none).add n)=some v:=by
 rw[add_mk,h.cell];exact hv
theorem Blk.cell' {w:World} {b o:Nat} {l:List Value} {v:Value} (h:Blk w b l) (hv:l[o]?=some v):w.cell? (Addr.mk b o none)=some v:=by
 rw[h.cell];exact hv
theorem heap_setCell (w:World) (b i:Nat) (v:Value) (k:Nat):(w.setCell ⟨b,i,none⟩ v).heap[k]?=if k=b then (w.heap[b]?).map (fun o=>match o with| .cells c e f=> .cells (c.setIfInBounds i v) e f|o=>o) else w.heap[k]?:=by
 simp only[World.setCell,Array.getElem?_modify,Option.isSome_none,Bool.false_eq_true,if_false];by_cases h:b=k
 ·subst h;simp only[if_true];rfl
 ·rw[if_neg h,if_neg (fun e=>h e.symm)]
theorem Blk.set {w:World} {b:Nat} {l:List Value} (h:Blk w b l) (i:Nat) (v:Value):Blk (w.setCell ⟨b,i,none⟩ v) b (l.set i v):=by
 obtain ⟨t,h⟩:=h;refine ⟨t, ?_⟩;rw[heap_setCell,if_pos rfl,h];simp
theorem upd_setCell (w:World) (b i:Nat) (v:Value):Upd (·=b) w (w.setCell ⟨b,i,none⟩ v):=
 ⟨rfl,rfl,rfl,by simp,fun k _ hn=>by rw[heap_setCell,if_neg hn]⟩
theorem upd_alloc (w:World) (o:Obj):Upd No w (w.alloc o):=
 ⟨rfl,rfl,rfl,by simp,fun k hk _=>by show (w.heap.push o)[k]?=_;rw[Array.getElem?_push,if_neg (by omega)]⟩
theorem upd_heap {w w':World} (h:w'.heap=w.heap) (h1:w'.os=w.os) (h2:w'.tape=w.tape) (h3:w'.output=w.output):Upd No w w':=
 ⟨h1,h2,h3,by rw[h];exact Nat.le_refl _,fun k _ _=>by rw[h]⟩
theorem heap_alloc_new (w:World) (o:Obj):(w.alloc o).heap[w.heap.size]?=some o:=by
 show (w.heap.push o)[w.heap.size]?=_;simp
theorem St.mk' {w:World} {b o:Nat} {v:Value} {k:World->Prop} {l:List Value} (hb:Blk w b l) (ho:o<l.length) (hv:v.oneCell'=true)
  (h:∀w',Upd (·=b) w w'->w'.heap.size=w.heap.size->Blk w' b (l.set o v)->k w'):St w ⟨b,o,none⟩ v k:=by
 refine ⟨?_,hb.frozen o,hv,h _ (upd_setCell w b o v) (by simp) (hb.set o v)⟩;rw[hb.cell,gE ho];rfl
theorem Al.mk' {w:World} {l:List Value} {t:TypeId} {k:World->Prop} (h:∀w',Upd No w w'->w'.heap.size=w.heap.size+1->Blk w' w.heap.size l->k w'):Al w (.cells ⟨l⟩ t) k:=
 h _ (upd_alloc _ _) (by simp) ⟨t,heap_alloc_new _ _⟩
theorem Al.map' {w:World} {k:World->Prop} (h:∀w',Upd No w w'->w'.heap.size=w.heap.size+1->MBlk w' w.heap.size #[] 0->k w'):Al w (.map #[] 0) k:=
 h _ (upd_alloc _ _) (by simp) (heap_alloc_new _ _)
theorem Dr.mk' {w:World} {k:World->Prop} (h:∀w',Upd No w w'->w'.heap=w.heap->k w'):Dr w k:=h w.drew (upd_heap rfl rfl rfl rfl) rfl
inductive SlO (z:Nat) (w:World) (s:Sl) (cs:List Value):Prop
 |nil (ha:s.a=none) (hl:s.len=0) (hc:s.cap=0) (hcs:cs= [])
 |mk (b o:Nat) (l:List Value) (ha:s.a=some ⟨b,o,none⟩) (hb:Blk w b l) (hl:s.len≤s.cap) (hc:o+s.cap*z≤l.length) (hcs:cs=(l.drop o).take (s.len*z))
def Sl.In (s:Sl) (G:Nat->Prop):Prop:=∀a,s.a=some a->G a.block
theorem SlO.length {z:Nat} {w:World} {s:Sl} {cs:List Value} (h:SlO z w s cs):cs.length=s.len*z:=by
 cases h with
 |nil ha hl hc hcs=>simp[hcs,hl]
 |mk b o l ha hb hl hc hcs=>
  have:s.len*z≤s.cap*z:=Nat.mul_le_mul_right z hl;simp[hcs];omega
theorem SlO.upd {F:Nat->Prop} {z:Nat} {w w':World} {s:Sl} {cs:List Value} (h:SlO z w s cs) (u:Upd F w w') (hn:s.In fun k=>¬F k):SlO z w' s cs:=by
 cases h with
 |nil ha hl hc hcs=>exact .nil ha hl hc hcs
 |mk b o l ha hb hl hc hcs=>exact .mk b o l ha (hb.upd u (hn _ ha)) hl hc hcs
theorem SlO.lt {z:Nat} {w:World} {s:Sl} {cs:List Value} (h:SlO z w s cs):s.In (·<w.heap.size):=fun a ha=>by
 cases h with
 |nil h _ _ _=>rw[h] at ha;cases ha
 |mk b o l h hb _ _ _=>rw[h] at ha;cases ha;exact hb.lt
theorem SlO.le_cap {z:Nat} {w:World} {s:Sl} {cs:List Value} (h:SlO z w s cs):s.len≤s.cap:=by
 cases h with
 |nil _ hl _ _=>omega
 |mk _ _ _ _ _ hl _ _=>exact hl
theorem SlO.cell {z:Nat} {w:World} {s:Sl} {cs:List Value} (h:SlO z w s cs) {i:Nat} {v:Value} (hv:cs[i]?=some v):∃b o,s.a=some ⟨b,o,none⟩/\w.cell? ⟨b,o+i,none⟩=some v:=by
 cases h with
 |nil _ _ _ hcs=>rw[hcs] at hv;simp at hv
 |mk b o l ha hb hl hc hcs=>
  refine ⟨b,o,ha, ?_⟩;rw[hb.cell];rw[hcs,List.getElem?_take] at hv;split at hv
  ·rw[List.getElem?_drop] at hv;exact hv
  ·cases hv
theorem putAt_get:∀(cs:List Value) (o:Nat) (vs:List Value) (i:Nat),o+vs.length≤cs.length->(putAt cs o vs)[i]?=if o≤i/\i<o+vs.length then vs[i-o]? else cs[i]?
 |cs,o,[],i,_=>by
  have:putAt cs o []=cs:=by cases cs<;>cases o<;>rfl
  rw[this,if_neg (by simp only[List.length_nil];omega)]
 | [],o,v::vs,i,h=>by simp at h
 |c::cs,0,v::vs,0,h=>by simp[putAt]
 |c::cs,0,v::vs,i+1,h=>by
  have:=putAt_get cs 0 vs i (by simp at h⊢;omega);simp only[putAt,List.getElem?_cons_succ];rw[this];simp
 |c::cs,o+1,v::vs,0,h=>by simp[putAt]
 |c::cs,o+1,v::vs,i+1,h=>by
  have:=putAt_get cs o (v::vs) i (by simp at h⊢;omega);simp only[putAt,List.getElem?_cons_succ];rw[this];simp only[List.length_cons] at*
  by_cases hi:o≤i/\i<o+(vs.length+1)
  ·rw[if_pos hi,if_pos (by omega)];congr 1;omega
  ·rw[if_neg hi,if_neg (by omega)]
theorem putAt_nil (cs:List Value) (o:Nat):putAt cs o []=cs:=by cases cs<;>cases o<;>rfl
section
variable {P:Program}
theorem storeCells_run {b:Nat}:∀(vs:List Value) (l:List Value) (o:Nat) (w:World),Blk w b l->o+vs.length≤l.length->(∀v∈vs,v.oneCell'=true)->∀i j,o=j+i->
  ∃w',(storeCells ⟨b,j,none⟩ vs i).run P w= .ok () w'/\Upd (·=b) w w'/\w'.heap.size=w.heap.size/\Blk w' b (putAt l o vs)
 | [],l,o,w,hb,_,_,i,j,_=>⟨w,by simp[storeCells],Upd.refl _ _,rfl,by rw[putAt_nil];exact hb⟩
 |v::vs,l,o,w,hb,hl,hv,i,j,ho=>by
  simp only[List.length_cons] at hl;have hs:St w ⟨b,o,none⟩ v (fun w'=>Upd (·=b) w w'/\w'.heap.size=w.heap.size/\Blk w' b (l.set o v)):=St.mk' hb (by omega) (hv v (by simp)) fun w' h1 h2 h3=>⟨h1,h2,h3⟩
  obtain ⟨h1,h2,h3,h4⟩:=St_sound (P:=P) hs;obtain ⟨w',h5,h6,h7,h8⟩:=storeCells_run vs (l.set o v) (o+1) _ h4 (by simp;omega) (fun u hu=>hv u (by simp[hu])) (i+1) j (by omega);refine ⟨w', ?_,h2.then h6,by omega,by rw[putAt_cons];exact h8⟩;simp only[storeCells];rw[Sem.run_bind,show (Addr.mk b j none).add i=⟨b,o,none⟩ from by rw[add_mk,ho],h1];exact h5
theorem firstCells_run {z:Nat} {w:World} {s:Sl} {cs:List Value} (h:SlO z w s cs) (n:Nat) (hn:n≤s.len):(Builtin.firstCells z n (.slice s.a s.len s.cap)).run P w= .ok ⟨cs.take (n*z)⟩ w:=by
 cases h with
 |nil ha hl hc hcs=>
  have:n=0:=by omega
  subst this;simp[Builtin.firstCells,ha]
 |mk b o l ha hb hl hc hcs=>
  have h1:n*z≤s.len*z:=Nat.mul_le_mul_right z hn;have h2:s.len*z≤s.cap*z:=Nat.mul_le_mul_right z hl;have hlen:(cs.take (n*z)).length=n*z:=by rw[hcs];simp;omega
  simp only[Builtin.firstCells,ha];unfold loadCells
  have:=loadCellsFrom_run (P:=P) w ⟨b,o,none⟩ (cs.take (n*z)) 0 #[] (fun j v hj=>by
   rw[nth_eq,List.getElem?_take] at hj;split at hj
   ·rw[hcs,List.getElem?_take] at hj
    split at hj
    ·rw[List.getElem?_drop] at hj
     rw[add_mk,Nat.zero_add,hb.cell];exact hj
    ·cases hj
   ·cases hj)
  rw[hlen] at this;rw[this];simp
end
end Go.Vc
namespace Go.Vc
open Go
theorem growBy_le (n:Nat):∀(r c:Nat),Builtin.growBy n r c≤(c+1000)*2^r
 |0,c=>by simp[Builtin.growBy]
 |r+1,c=>by
  unfold Builtin.growBy;have hp:1≤2^r:=Nat.one_le_two_pow;split
  ·rw[Nat.pow_succ]
   have:c+1000≤(c+1000)*(2^r*2):=by
    have:1≤2^r*2:=by omega
    exact Nat.le_mul_of_pos_right _ (by omega)
   omega
  ·have h:=growBy_le n r (c+(c+768) / 4)
   rw[Nat.pow_succ];have h2:c+(c+768) / 4+1000≤(c+1000)*2:=by omega
   calc _≤(c+(c+768) / 4+1000)*2^r:=h
    _≤((c+1000)*2)*2^r:=Nat.mul_le_mul_right _ h2
    _=(c+1000)*(2^r*2):=by rw[Nat.mul_assoc,Nat.mul_comm 2]
theorem nextcap_le (n c:Nat):Builtin.nextslicecap n c≤n+16*c+16000:=by
 unfold Builtin.nextslicecap;split
 ·omega
 ·split
  ·omega
  ·have h:=growBy_le n 4 c
   simp only[Nat.reducePow] at h;have h2:(c+1000)*16=16*c+16000:=by rw[Nat.add_mul,Nat.mul_comm]
   rw[h2] at h;exact Nat.le_trans h (Nat.add_le_add_right (Nat.le_add_left _ _) _)
structure AppP (z:Nat) (w:World) (s:Sl) (cs:List Value) (s':Sl) (w':World):Prop where
 own:SlO z w' s' cs
 upd:Upd (fun k=>∃a,s.a=some a/\a.block=k) w w'
 size:w'.heap.size≤w.heap.size+1
 here:s'.In fun k=>(∃a,s.a=some a/\a.block=k)∨k=w.heap.size
variable {P:Program}
theorem app_run {T el:TypeId} {inf:TypeInfo} {zv:Value} {z:Nat} {w:World} {s x:Sl} {cs ds:List Value}
  (hu:P.underlying T=some (.slice el)) (hi:P.info? el=some inf) (hz:inf.zero=some zv) (hsz:inf.size=z) (hzc:zv.cells.size=z) (hb:1≤inf.bytes)
  (hs:SlO z w s cs) (hx:SlO z w x ds) (hd:∀v∈ds,v.oneCell'=true)
  (hbig:(17*(s.len+x.len)+16000)*inf.bytes≤2^48):
  ∃s' w',AppR P [T,T] T (.slice s.a s.len s.cap) (.slice x.a x.len x.cap) w s' w'/\s'.len=s.len+x.len/\AppP z w s (cs++ds) s' w':=by
 have hsize:∀w,(sizeOf el).run P w= .ok z w:=fun w=>by rw[run_size hi w];simp[sz,hi,hsz]
 have hinfo:∀w,(typeInfo el).run P w= .ok inf w:=fun w=>by simp[typeInfo,hi]
 have hzero:∀w,(zeroValue el).run P w= .ok zv w:=fun w=>by simp[zeroValue,hinfo,hz]
 have hdl:=hx.length;have hcl:=hs.length
 have hcells:(Builtin.firstCells z x.len (.slice x.a x.len x.cap)).run P w= .ok ⟨ds⟩ w:=by
  rw[firstCells_run hx x.len (Nat.le_refl _),←hdl,List.take_length]
 by_cases hcap:s.len+x.len≤s.cap
 ·
  by_cases hnone:s.a=none
  ·have hz0:s.len=0/\s.cap=0/\cs= []:=by
    cases hs with
    |nil _ h1 h2 h3=>exact ⟨h1,h2,h3⟩
    |mk b o l h _ _ _ _=>rw[h] at hnone;cases hnone
   have hx0:x.len=0:=by omega
   have hds:ds= []:=by
    apply List.eq_nil_of_length_eq_zero;rw[hdl,hx0];simp
   refine ⟨⟨none,0,0⟩,w, ?_,by simp[hz0.1,hx0], .nil rfl rfl rfl (by simp[hz0.2.2,hds]),Upd.refl _ _,by omega,fun a ha=>by cases ha⟩;unfold AppR Builtin.append_;simp only[hnone,hz0.1,hz0.2.1] at*
   subst hds;rw[hx0] at hcells;simp[run_und hu,hsize,Builtin.lenOf,hx0,hcells]
  ·cases hs with
   |nil h _ _ _=>exact absurd h hnone
   |mk b o l ha hbl hl hc hcs=>
    have hmul:(s.len+x.len)*z≤s.cap*z:=Nat.mul_le_mul_right z hcap
    have hroom:o+s.len*z+ds.length≤l.length:=by
     rw[hdl];rw[Nat.add_mul] at hmul;omega
    obtain ⟨w',h1,h2,h3,h4⟩:=storeCells_run (P:=P) ds l (o+s.len*z) w hbl hroom hd 0 (o+s.len*z) (by omega);refine ⟨⟨s.a,s.len+x.len,s.cap⟩,w', ?_,rfl, ?_,h2.mono fun k _ hk=>⟨_,ha,hk.symm⟩,by omega,fun a h=>?_⟩
    ·unfold AppR Builtin.append_
     simp only[List.getElem?_toArray,List.getElem?_cons_zero,List.getElem?_cons_succ,Sem.run_bind,run_und hu,Result.andThen_ok,hsize,Builtin.lenOf,Sem.run_pure,hcap,if_true,Bool.false_eq_true,if_false,Bool.not_false];rw[hcells];simp only[Result.andThen_ok,ha,add_mk];rw[Sem.run_bind,h1];rfl
    ·refine .mk b o _ ha h4 (by simpa using hcap) (by rw[putAt_length];exact hc) ?_
     apply List.ext_getElem?;intro i;have hsl:s.len*z≤s.cap*z:=Nat.mul_le_mul_right z hl;rw[List.getElem?_take];simp only[Nat.add_mul] at*
     by_cases hi':i<s.len*z+x.len*z
     ·rw[if_pos hi',List.getElem?_drop,putAt_get _ _ _ _ hroom]
      by_cases h5:i<s.len*z
      ·rw[if_neg (by omega),List.getElem?_append_left (by omega),hcs,List.getElem?_take,if_pos h5,List.getElem?_drop]
      ·rw[if_pos (by omega),List.getElem?_append_right (by omega)]
       congr 1;omega
     ·rw[if_neg hi']
      apply List.getElem?_eq_none;simp;omega
    ·exact .inl ⟨a,h,rfl⟩
 ·
  have hlc:=hs.le_cap
  let need:=s.len+x.len
  have hneed:¬need≤s.cap:=hcap
  let q:Question:= .appendCap need s.cap el
  let n:=q.cut (w.tape w.drawn q)
  have hle:=nextcap_le need s.cap
  have hlim:¬(Builtin.nextslicecap need s.cap*inf.bytes>2^48):=by
   have h0:Builtin.nextslicecap need s.cap≤17*(s.len+x.len)+16000:=by
    refine Nat.le_trans hle ?_;show s.len+x.len+16*s.cap+16000≤_;generalize 16000=y;omega
   have:Builtin.nextslicecap need s.cap*inf.bytes≤(17*(s.len+x.len)+16000)*inf.bytes:=Nat.mul_le_mul_right _ h0;omega
  have hneedb:need≤2^48:=by
   have h1:(17*(s.len+x.len)+16000)*1≤(17*(s.len+x.len)+16000)*inf.bytes:=Nat.mul_le_mul_left _ hb;show s.len+x.len≤_;omega
  have hn1:need≤n:=by
   show need≤need+_%_;omega
  let row:List Value:=cs++ds++(Builtin.zeroCells zv.cells (n-need)).toList
  let w':=w.drew.alloc (.cells ⟨row⟩ el)
  have hold:∀W:World,W.heap=w.heap->(Builtin.firstCells z s.len (.slice s.a s.len s.cap)).run P W= .ok ⟨cs⟩ W:=fun W hW=>by
   have hs':SlO z W s cs:=by
    cases hs with
    |nil a b c d=>exact .nil a b c d
    |mk b o l a h c d e=>
     obtain ⟨t,ht⟩:=h;exact .mk b o l a ⟨t,by rw[hW];exact ht⟩ c d e
   rw[firstCells_run hs' s.len (Nat.le_refl _),←hcl,List.take_length]
  have hnew:∀W:World,W.heap=w.heap->(Builtin.firstCells z x.len (.slice x.a x.len x.cap)).run P W= .ok ⟨ds⟩ W:=fun W hW=>by
   have hx':SlO z W x ds:=by
    cases hx with
    |nil a b c d=>exact .nil a b c d
    |mk b o l a h c d e=>
     obtain ⟨t,ht⟩:=h;exact .mk b o l a ⟨t,by rw[hW];exact ht⟩ c d e
   rw[firstCells_run hx' x.len (Nat.le_refl _),←hdl,List.take_length]
  refine ⟨⟨some ⟨w.heap.size,0,none⟩,need,n⟩,w', ?_,rfl, ?_,((upd_heap (w:=w) (w':=w.drew) rfl rfl rfl rfl).no (upd_alloc _ _)).of_no,by simp[w'],fun a h=> .inr (by cases h;rfl)⟩
  ·unfold AppR Builtin.append_
   simp only[List.getElem?_toArray,List.getElem?_cons_zero,List.getElem?_cons_succ,Sem.run_bind,run_und hu,Result.andThen_ok,hsize,Builtin.lenOf,Sem.run_pure,hcap,Bool.false_eq_true,if_false,Bool.not_false,hinfo]
   have hc1:¬(((s.len+x.len:Nat):Int)>IntKind.i64.max/\(False∨inf.bytes=0)):=by
    rintro ⟨_,h|h⟩
    ·exact h
    ·omega
   rw[if_neg hc1,Sem.run_bind,hinfo];simp only[Result.andThen_ok];rw[if_neg hlim,Sem.run_bind,run_choose];have hf:Question.forced (.appendCap (s.len+x.len) s.cap el)=false:=rfl;simp only[hf,Bool.false_eq_true,if_false,Result.andThen_ok,World.drew_eq];rw[Sem.run_bind,hinfo];simp only[Result.andThen_ok];rw[Sem.run_bind,run_askRoom];simp only[Result.andThen_ok];rw[Sem.run_bind,hold w.drew rfl];simp only[Result.andThen_ok,if_true];rw[Sem.run_bind,hnew w.drew rfl];simp only[Result.andThen_ok];rw[Sem.run_bind,hzero];simp only[Result.andThen_ok,newRow,Sem.run_bind,run_newObj,Sem.run_pure]
   have hrow:((⟨cs⟩:Array Value)++⟨ds⟩++Builtin.zeroCells zv.cells (n-need))=⟨row⟩:=by
    apply Array.ext';simp[row]
   show Result.ok (Value.slice (some ⟨w.heap.size,0,none⟩) (s.len+x.len) n) (w.drew.alloc (.cells ((⟨cs⟩:Array Value)++⟨ds⟩++Builtin.zeroCells zv.cells (n-need)) el))=_;rw[hrow]
  ·have hzl:(Builtin.zeroCells zv.cells (n-need)).toList.length=(n-need)*z:=by
    simp[Builtin.zeroCells,hzc]
   have hrl:row.length=n*z:=by
    simp only[row,List.length_append,hcl,hdl,hzl];rw[←Nat.add_mul,←Nat.add_mul];congr 1;show s.len+x.len+(n-(s.len+x.len))=n;have:s.len+x.len≤n:=hn1;omega
   refine .mk w.heap.size 0 row rfl ⟨el, ?_⟩ hn1 (by rw[hrl];show 0+n*z≤n*z;omega) ?_
   ·exact heap_alloc_new w.drew _
   ·show cs++ds=(row.drop 0).take ((s.len+x.len)*z)
    have:(s.len+x.len)*z=(cs++ds).length:=by rw[List.length_append,hcl,hdl,Nat.add_mul]
    rw[this,List.drop_zero];simp only[row];rw[List.take_left]
end Go.Vc
namespace Go.Vc
open Go
theorem map_erase {α β:Type} (f:α->β):∀(l:List α) (i:Nat),(l.eraseIdx i).map f=(l.map f).eraseIdx i
 | [],_=>rfl
 |_::_,0=>rfl
 |a::l,i+1=>by simp[map_erase f l i]
section
variable {K V:Type} [DecidableEq K]
def mget:List (K × V)->K->Option V
 | [],_=>none
 |(a,v)::l,k=>if a=k then some v else mget l k
def aput:List (K × V)->K->V->List (K × V)
 | [],k,v=>[(k,v)]
 |(a,u)::l,k,v=>if a=k then (a,v)::l else (a,u)::aput l k v
def adel:List (K × V)->K->List (K × V)
 | [],_=>[]
 |(a,u)::l,k=>if a=k then l else (a,u)::adel l k
theorem mget_aput (l:List (K × V)) (k:K) (v:V) (x:K):mget (aput l k v) x=if k=x then some v else mget l x:=by
 induction l with
 |nil=>simp[aput,mget]
 |cons p l ih=>
  obtain ⟨a,u⟩:=p;simp only[aput];by_cases h:a=k
  ·subst h;simp only[if_true,mget];split<;>rfl
  ·simp only[h,if_false,mget,ih]
   by_cases h2:a=x
   ·subst h2;rw[if_pos rfl,if_neg (fun e=>h e.symm)];simp
   ·simp[h2]
theorem mget_mem {l:List (K × V)} {k:K} {v:V} (h:mget l k=some v):(k,v)∈l:=by
 induction l with
 |nil=>cases h
 |cons p l ih=>
  obtain ⟨a,u⟩:=p;simp only[mget] at h;split at h
  ·rename_i e;subst e;cases h;simp
  ·exact List.mem_cons_of_mem _ (ih h)
theorem mget_none {l:List (K × V)} {k:K}:mget l k=none↔k∉l.map (·.1):=by
 induction l with
 |nil=>simp[mget]
 |cons p l ih=>
  obtain ⟨a,u⟩:=p;simp only[mget,List.map_cons,List.mem_cons,not_or];split
  ·rename_i e;subst e;simp
  ·rename_i e;rw[ih];exact ⟨fun h=>⟨fun e'=>e e'.symm,h⟩,fun h=>h.2⟩
theorem mget_adel {l:List (K × V)} (hn:(l.map (·.1)).Nodup) (k x:K):mget (adel l k) x=if k=x then none else mget l x:=by
 induction l with
 |nil=>simp[adel,mget]
 |cons p l ih=>
  obtain ⟨a,u⟩:=p;simp only[List.map_cons,List.nodup_cons] at hn;simp only[adel];by_cases h:a=k
  ·subst h
   simp only[if_true,mget];by_cases h2:a=x
   ·subst h2;rw[if_pos rfl];exact mget_none.2 hn.1
   ·simp[h2]
  ·simp only[h,if_false,mget,ih hn.2]
   by_cases h2:a=x
   ·subst h2;rw[if_pos rfl,if_neg (fun e=>h e.symm)];simp
   ·simp[h2]
theorem keys_aput {l:List (K × V)} (k:K) (v:V) (x:K):x∈(aput l k v).map (·.1)↔x=k∨x∈l.map (·.1):=by
 induction l with
 |nil=>simp[aput]
 |cons p l ih=>
  obtain ⟨a,u⟩:=p;simp only[aput];by_cases h:a=k
  ·subst h;simp
  ·simp only[h,if_false,List.map_cons,List.mem_cons,ih]
   constructor
   ·rintro (h|h|h)<;>simp[h]
   ·rintro (h|h|h)<;>simp[h]
theorem nodup_aput {l:List (K × V)} (hn:(l.map (·.1)).Nodup) (k:K) (v:V):((aput l k v).map (·.1)).Nodup:=by
 induction l with
 |nil=>simp[aput]
 |cons p l ih=>
  obtain ⟨a,u⟩:=p;simp only[List.map_cons,List.nodup_cons] at hn;simp only[aput];by_cases h:a=k
  ·subst h;simpa using hn
  ·simp only[h,if_false,List.map_cons,List.nodup_cons]
   refine ⟨fun hm=>?_,ih hn.2⟩;rcases (keys_aput k v a).1 hm with h1|h1
   ·exact h h1
   ·exact hn.1 h1
theorem adel_sublist (l:List (K × V)) (k:K):(adel l k).Sublist l:=by
 induction l with
 |nil=>exact .slnil
 |cons p l ih=>
  obtain ⟨a,u⟩:=p;simp only[adel];split
  ·exact List.sublist_cons_self _ _
  ·exact ih.cons_cons _
theorem nodup_adel {l:List (K × V)} (hn:(l.map (·.1)).Nodup) (k:K):((adel l k).map (·.1)).Nodup:=List.Nodup.sublist ((adel_sublist l k).map _) hn
end
structure KeyOk (P:Program) (kt:TypeId) {K:Type} [DecidableEq K] (enc:K->Value):Prop where
 check:∀b k w,(Instr.checkKey b 10000 kt (enc k)).run P w= .ok () w
 find:∀(k:K) (es:List MapEntry) (ks:List K) (w:World),es.map (·.key)=ks.map enc->
  (Instr.findKey kt (enc k) es).run P w= .ok ((ks.findIdx? fun x=>decide (x=k)).bind fun i=>(es[i]?).map fun e=>(i,e.val)) w
 same:∀k,Instr.sameBits 10000 (enc k) (enc k)=true
structure MapR {K V:Type} (enc:K->Value) (encV:V->Value) (w:World) (m:Nat) (L:List (K × V)):Prop where
 ex:∃es c,MBlk w m es c/\es.toList.map (fun e=>(e.key,e.val))=L.map (fun p=>(enc p.1,encV p.2))/\(es.toList.map (·.born)).Nodup/\∀e∈es.toList,e.born<c
 nodup:(L.map (·.1)).Nodup
theorem MapR.lt {K V:Type} {enc:K->Value} {encV:V->Value} {w:World} {m:Nat} {L:List (K × V)} (h:MapR enc encV w m L):m<w.heap.size:=by
 obtain ⟨es,c,h,_⟩:=h.ex;exact h.lt
theorem MapR.upd {K V:Type} {enc:K->Value} {encV:V->Value} {F:Nat->Prop} {w w':World} {m:Nat} {L:List (K × V)} (h:MapR enc encV w m L) (u:Upd F w w') (hn:¬F m):MapR enc encV w' m L:=by
 obtain ⟨es,c,h1,h2⟩:=h.ex;exact ⟨⟨es,c,h1.upd u hn,h2⟩,h.nodup⟩
section
variable {P:Program} {T kt el:TypeId} {K V:Type} [DecidableEq K] {enc:K->Value} {encV:V->Value}
theorem run_getObj_map {w:World} {m:Nat} {es:Array MapEntry} {c:Nat} (h:MBlk w m es c):(getObj m).run P w= .ok (.map es c) w:=by
 unfold MBlk at h;simp[getObj,Sem.run,h]
theorem run_setObj_map {w:World} {m:Nat} {es:Array MapEntry} {c:Nat} (h:MBlk w m es c) (o:Obj):(setObj m o).run P w= .ok () { w with heap:=w.heap.setIfInBounds m o}:=by
 unfold MBlk at h;simp[setObj,Sem.run,h]
theorem upd_setObj (w:World) (m:Nat) (o:Obj):Upd (·=m) w { w with heap:=w.heap.setIfInBounds m o}:=
 ⟨rfl,rfl,rfl,by simp,fun k _ hn=>by
  show (w.heap.setIfInBounds m o)[k]?=_;rw[Array.getElem?_setIfInBounds_ne (fun e=>hn e.symm)]⟩
theorem blk_setObj {w:World} {m:Nat} {es:Array MapEntry} {c:Nat} (h:MBlk w m es c) (es':Array MapEntry) (c':Nat):MBlk { w with heap:=w.heap.setIfInBounds m (.map es' c')} m es' c':=by
 have:=h.lt;show (w.heap.setIfInBounds m _)[m]?=_;rw[Array.getElem?_setIfInBounds_self_of_lt this]
theorem findIdx_mget (L:List (K × V)) (k:K):∀v,mget L k=some v↔∃i,(L.map (·.1)).findIdx? (fun x=>decide (x=k))=some i/\L[i]?.map (·.2)=some v:=by
 intro v
 induction L with
 |nil=>simp[mget]
 |cons p l ih=>
  obtain ⟨a,u⟩:=p;simp only[mget,List.map_cons,List.findIdx?_cons];by_cases h:a=k
  ·simp[h]
  ·simp only[h,if_false,decide_false,Bool.false_eq_true,ih]
   constructor
   ·rintro ⟨i,h1,h2⟩;exact ⟨i+1,by simp[h1],by simpa using h2⟩
   ·rintro ⟨i,h1,h2⟩
    simp only[Option.map_eq_some_iff] at h1;obtain ⟨j,h1,rfl⟩:=h1;exact ⟨j,h1,by simpa using h2⟩
theorem findIdx_none (L:List (K × V)) (k:K):mget L k=none↔(L.map (·.1)).findIdx? (fun x=>decide (x=k))=none:=by
 rw[mget_none,List.findIdx?_eq_none_iff];constructor
 ·intro h x hx;simp;intro e;subst e;exact h hx
 ·intro h hx;have:=h k hx;simp at this
theorem entries_key {es:List MapEntry} {L:List (K × V)} (h:es.map (fun e=>(e.key,e.val))=L.map (fun p=>(enc p.1,encV p.2))):es.map (·.key)=(L.map (·.1)).map enc:=by
 have:=congrArg (List.map Prod.fst) h;simpa [Function.comp_def] using this
theorem entries_val {es:List MapEntry} {L:List (K × V)} (h:es.map (fun e=>(e.key,e.val))=L.map (fun p=>(enc p.1,encV p.2))) (i:Nat):(es[i]?).map (·.val)=(L[i]?).map fun p=>encV p.2:=by
 have:=congrArg (fun l=>(l[i]?).map Prod.snd) h;simpa [Function.comp_def] using this
theorem find_some (hk:KeyOk P kt enc) {es:Array MapEntry} {L:List (K × V)} (h:es.toList.map (fun e=>(e.key,e.val))=L.map (fun p=>(enc p.1,encV p.2))) {k:K} {v:V} (hl:mget L k=some v) (w:World):
  ∃i,(Instr.findKey kt (enc k) es.toList).run P w= .ok (some (i,encV v)) w/\(L.map (·.1)).findIdx? (fun x=>decide (x=k))=some i:=by
 obtain ⟨i,h1,h2⟩:=(findIdx_mget L k v).1 hl;refine ⟨i, ?_,h1⟩;rw[hk.find k es.toList (L.map (·.1)) w (entries_key h),h1];simp only[Option.bind_some];have hv:=entries_val h i
 have:(L[i]?).map (fun p=>encV p.2)=some (encV v):=by
  have:=congrArg (Option.map encV) h2;simpa [Function.comp_def] using this
 rw[this] at hv;cases he:es.toList[i]? with
 |none=>rw[he] at hv;simp at hv
 |some e=>rw[he] at hv;simp at hv;simp[hv]
theorem find_none (hk:KeyOk P kt enc) {es:Array MapEntry} {L:List (K × V)} (h:es.toList.map (fun e=>(e.key,e.val))=L.map (fun p=>(enc p.1,encV p.2))) {k:K} (hl:mget L k=none) (w:World):
  (Instr.findKey kt (enc k) es.toList).run P w= .ok none w:=by
 rw[hk.find k es.toList (L.map (·.1)) w (entries_key h),(findIdx_none L k).1 hl];rfl
theorem MapR.mget_some (hu:P.underlying T=some (.map kt el)) (hk:KeyOk P kt enc) {w:World} {m:Nat} {L:List (K × V)} (h:MapR enc encV w m L) {k:K} {v:V} (hl:mget L k=some v):
  LkB P T (.map (some m)) (enc k) (encV v) true w/\Lk1 P T (.map (some m)) (enc k) (encV v) w:=by
 obtain ⟨es,c,h1,h2,_⟩:=h.ex;obtain ⟨i,h3,_⟩:=find_some hk h2 hl w;constructor
 ·unfold LkB Instr.lookup
  simp only[Sem.run_bind,run_und hu,Result.andThen_ok,run_getObj_map h1,Sem.run_pure,hk.check,h3,if_true]
 ·unfold Lk1 Instr.lookup
  simp only[Sem.run_bind,run_und hu,Result.andThen_ok,run_getObj_map h1,Sem.run_pure,hk.check,h3,Bool.false_eq_true,if_false]
theorem MapR.mget_none (hu:P.underlying T=some (.map kt el)) (hk:KeyOk P kt enc) {z:Value} (hz:∀w,(zeroValue el).run P w= .ok z w) {w:World} {m:Nat} {L:List (K × V)} (h:MapR enc encV w m L) {k:K} (hl:mget L k=none):
  LkB P T (.map (some m)) (enc k) z false w/\Lk1 P T (.map (some m)) (enc k) z w:=by
 obtain ⟨es,c,h1,h2,_⟩:=h.ex;have h3:=find_none hk h2 hl w;constructor
 ·unfold LkB Instr.lookup
  simp only[Sem.run_bind,run_und hu,Result.andThen_ok,run_getObj_map h1,Sem.run_pure,hk.check,h3,hz,if_true]
 ·unfold Lk1 Instr.lookup
  simp only[Sem.run_bind,run_und hu,Result.andThen_ok,run_getObj_map h1,Sem.run_pure,hk.check,h3,hz,Bool.false_eq_true,if_false]
theorem aput_set:∀(L:List (K × V)) (k:K) (v:V) (i:Nat),(L.map (·.1)).findIdx? (fun x=>decide (x=k))=some i->aput L k v=L.set i (k,v)
 | [],k,v,i,h=>by simp at h
 |(a,u)::l,k,v,i,h=>by
  simp only[List.map_cons,List.findIdx?_cons] at h;simp only[aput];by_cases e:a=k
  ·subst e
   simp only[decide_true,if_true,Option.some.injEq] at h;subst h;simp
  ·simp only[e,decide_false,Bool.false_eq_true,if_false,Option.map_eq_some_iff] at h
   obtain ⟨j,h,rfl⟩:=h;simp[e,aput_set l k v j h]
theorem aput_new:∀(L:List (K × V)) (k:K) (v:V),mget L k=none->aput L k v=L++ [(k,v)]
 | [],k,v,_=>rfl
 |(a,u)::l,k,v,h=>by
  simp only[mget] at h;split at h
  ·cases h
  ·rename_i e;simp[aput,e,aput_new l k v h]
theorem adel_erase:∀(L:List (K × V)) (k:K) (i:Nat),(L.map (·.1)).findIdx? (fun x=>decide (x=k))=some i->adel L k=L.eraseIdx i
 | [],k,i,h=>by simp at h
 |(a,u)::l,k,i,h=>by
  simp only[List.map_cons,List.findIdx?_cons] at h;simp only[adel];by_cases e:a=k
  ·subst e
   simp only[decide_true,if_true,Option.some.injEq] at h;subst h;simp
  ·simp only[e,decide_false,Bool.false_eq_true,if_false,Option.map_eq_some_iff] at h
   obtain ⟨j,h,rfl⟩:=h;simp[e,adel_erase l k j h]
theorem adel_none:∀(L:List (K × V)) (k:K),mget L k=none->adel L k=L
 | [],k,_=>rfl
 |(a,u)::l,k,h=>by
  simp only[mget] at h;split at h
  ·cases h
  ·rename_i e;simp[adel,e,adel_none l k h]
theorem MapR.put (hu:P.underlying T=some (.map kt el)) (hk:KeyOk P kt enc) {w:World} {m:Nat} {L:List (K × V)} (h:MapR enc encV w m L) (k:K) (v:V):
  ∃w',UpdR P T (.map (some m)) (enc k) (encV v) w w'/\Upd (·=m) w w'/\w'.heap.size=w.heap.size/\MapR enc encV w' m (aput L k v):=by
 obtain ⟨es,c,h1,h2,h3,h4⟩:=h.ex;cases hl:mget L k with
 |some u=>
  obtain ⟨i,h5,h6⟩:=find_some hk h2 hl w
  have hi:i<L.length:=by
   have:=(List.findIdx?_eq_some_iff_getElem.1 h6).1;simpa using this
  have hlen:es.size=L.length:=by have:=congrArg List.length h2;simpa using this
  have hkey:((es[i]?).map (·.key)).getD (enc k)=enc k:=by
   have h7:=congrArg (fun l=>l[i]?) (entries_key h2);obtain ⟨h8,h9,_⟩:=List.findIdx?_eq_some_iff_getElem.1 h6;have h9:L[i].1=k:=by simpa using h9
   simp only[List.getElem?_map,Array.getElem?_toList,gE hi,Option.map_some,h9] at h7;rw[h7];rfl
  refine ⟨_, ?_,upd_setObj w m _,by simp,⟨⟨_,_,blk_setObj h1 (es.modify i fun e=>{ e with key:=enc k,val:=encV v}) c, ?_, ?_, ?_⟩,nodup_aput h.nodup k v⟩⟩
  ·unfold UpdR Instr.mapUpdate
   simp only[Sem.run_bind,run_und hu,Result.andThen_ok,run_getObj_map h1,hk.check,h5,hkey,Instr.keyThatStays,hk.same,if_true,Sem.run_pure];exact run_setObj_map h1 _
  ·rw[aput_set L k v i h6]
   apply List.ext_getElem?;intro j;have h7:=congrArg (fun l=>l[j]?) h2;simp only[List.getElem?_map,Array.getElem?_toList,Array.getElem?_modify,List.getElem?_set] at h7⊢;by_cases e:i=j
   ·subst e
    have:i<es.size:=by omega
    simp[hi,this]
   ·simp only[e,if_false];exact h7
  ·have:(es.modify i fun e=>{ e with key:=enc k,val:=encV v}).toList.map (·.born)=es.toList.map (·.born):=by
    apply List.ext_getElem?;intro j;simp only[List.getElem?_map,Array.getElem?_toList,Array.getElem?_modify];by_cases e:i=j
    ·subst e;cases es[i]?<;>simp
    ·simp[e]
   rw[this];exact h3
  ·intro e he
   obtain ⟨j,hj⟩:=List.mem_iff_getElem?.1 he;simp only[Array.getElem?_toList,Array.getElem?_modify] at hj;by_cases e':i=j
   ·subst e'
    simp only[if_true,Option.map_eq_some_iff] at hj;obtain ⟨x,hx,rfl⟩:=hj;exact h4 x (List.mem_iff_getElem?.2 ⟨i,by simpa using hx⟩)
   ·simp only[e',if_false] at hj
    exact h4 e (List.mem_iff_getElem?.2 ⟨j,by simpa using hj⟩)
 |none=>
  have h5:=find_none hk h2 hl w;refine ⟨_, ?_,upd_setObj w m _,by simp,⟨⟨_,_,blk_setObj h1 (es.push { key:=enc k,val:=encV v,born:=c}) (c+1), ?_, ?_, ?_⟩,nodup_aput h.nodup k v⟩⟩
  ·unfold UpdR Instr.mapUpdate
   simp only[Sem.run_bind,run_und hu,Result.andThen_ok,run_getObj_map h1,hk.check,h5];exact run_setObj_map h1 _
  ·rw[aput_new L k v hl]
   simp[h2]
  ·simp only[Array.toList_push,List.map_append,List.map_cons,List.map_nil]
   rw[List.nodup_append];refine ⟨h3,by simp, ?_⟩;intro a ha b hb;simp only[List.mem_singleton] at hb;subst hb;obtain ⟨e,he,rfl⟩:=List.mem_map.1 ha;have:=h4 e he;omega
  ·intro e he
   simp only[Array.toList_push,List.mem_append,List.mem_singleton] at he;rcases he with he|he
   ·have:=h4 e he;omega
   ·subst he;show c<c+1;omega
theorem MapR.del (hu:P.underlying T=some (.map kt el)) (hk:KeyOk P kt enc) {w:World} {m:Nat} {L:List (K × V)} {t:TypeId} {ts:List TypeId} (h:MapR enc encV w m L) (k:K):
  ∃w',DelR P (T::ts) t (.map (some m)) (enc k) w w'/\Upd (·=m) w w'/\w'.heap.size=w.heap.size/\MapR enc encV w' m (adel L k):=by
 obtain ⟨es,c,h1,h2,h3,h4⟩:=h.ex;cases hl:mget L k with
 |some u=>
  obtain ⟨i,h5,h6⟩:=find_some hk h2 hl w;refine ⟨_, ?_,upd_setObj w m _,by simp,⟨⟨_,_,blk_setObj h1 (es.eraseIdxIfInBounds i) c, ?_, ?_, ?_⟩,nodup_adel h.nodup k⟩⟩
  ·unfold DelR Builtin.delete_
   simp only[List.getElem?_toArray,List.getElem?_cons_zero,List.getElem?_cons_succ,Sem.run_bind,run_und hu,Result.andThen_ok,run_getObj_map h1,hk.check,h5];rw[run_setObj_map h1];rfl
  ·rw[adel_erase L k i h6]
   simp only[Array.toList_eraseIdxIfInBounds];rw[map_erase,map_erase,h2]
  ·simp only[Array.toList_eraseIdxIfInBounds]
   rw[map_erase];exact List.Nodup.sublist (List.eraseIdx_sublist _ _) h3
  ·intro e he
   simp only[Array.toList_eraseIdxIfInBounds] at he;exact h4 e ((List.eraseIdx_sublist _ _).mem he)
 |none=>
  have h5:=find_none hk h2 hl w;refine ⟨_, ?_,upd_setObj w m _,by simp,⟨⟨_,_,blk_setObj h1 es c, ?_,h3,h4⟩,nodup_adel h.nodup k⟩⟩
  ·unfold DelR Builtin.delete_
   simp only[List.getElem?_toArray,List.getElem?_cons_zero,List.getElem?_cons_succ,Sem.run_bind,run_und hu,Result.andThen_ok,run_getObj_map h1,hk.check,h5];rw[run_setObj_map h1];rfl
  ·rw[adel_none L k hl];exact h2
theorem keyOk_int (j:IntKind) (hu:P.underlying kt=some (.int j)):KeyOk P kt (fun n:Int=>Value.int j n):=by
 have hfind:∀(k:Int) (es:List MapEntry) (ks:List Int) (i:Nat),es.map (·.key)=ks.map (fun n=>Value.int j n)->
   Instr.findNow (.int j) (.int j k) es i=some ((ks.findIdx? fun x=>decide (x=k)).bind fun q=>(es[q]?).map fun e=>(q+i,e.val)):=by
  intro k es
  induction es with
  |nil=>intro ks i h;cases ks with
   |nil=>rfl
   |cons _ _=>simp at h
  |cons e es ih=>
   intro ks i h;cases ks with
   |nil=>simp at h
   |cons x ks=>
    simp only[List.map_cons,List.cons.injEq] at h;simp only[Instr.findNow,h.1,Instr.sameNow,if_true];by_cases hx:x=k
    ·subst hx;simp[List.findIdx?_cons]
    ·have:(k==x)=false:=by simpa using fun e=>hx e.symm
     rw[this];simp only[ih ks (i+1) h.2,List.findIdx?_cons,hx,decide_false,Bool.false_eq_true,if_false];cases hq:ks.findIdx? (fun x=>decide (x=k)) with
     |none=>rfl
     |some q=>
      simp only[Option.bind_some,Option.map_some,List.getElem?_cons_succ];congr 2;funext e;congr 1;omega
 refine ⟨fun b k w=>?_,fun k es ks w h=>?_,fun k=>by unfold Instr.sameBits;simp⟩
 ·unfold Instr.checkKey
  rw[Sem.run_bind,run_und hu];rfl
 ·unfold Instr.findKey
  rw[Sem.run_bind,run_und hu];simp only[Result.andThen_ok,hfind k es ks 0 h,Nat.add_zero];rfl
end
end Go.Vc
namespace Go.Vc
open Go
structure Asn where
 holds:(Nat->Prop)->World->Prop
 loc:∀(G:Nat->Prop) (w w':World),holds G w->(∀k,G k->w'.heap[k]?=w.heap[k]?)->holds G w'
 up:∀(G G':Nat->Prop) (w:World),holds G w->(∀k,G k->G' k)->holds G' w
def Held (B:Nat) (w:World) (L:List Asn):Prop:=
 ∃Z:List (Asn ×(Nat->Prop)),Z.map (·.1)=L/\(∀p∈Z,p.1.holds p.2 w/\∀k,p.2 k->B≤k/\k<w.heap.size)/\Z.Pairwise fun p q=>∀k,p.2 k->¬q.2 k
structure Own (B:Nat) (w0 w:World) (L:List Asn):Prop where
 base:B≤w0.heap.size
 upd:Upd (B≤·) w0 w
 held:Held B w L
section
variable {B:Nat} {w0 w:World} {L R:List Asn}
theorem Own.size (h:Own B w0 w L):B≤w.heap.size:=Nat.le_trans h.base h.upd.size
theorem Own.below (h:Own B w0 w L):RowKit.Below B w0 w:=h.upd.below h.base fun _ h=>h
theorem Own.start (w:World):Own w.heap.size w w []:=⟨Nat.le_refl _,Upd.refl _ _,[],rfl,by simp, .nil⟩
theorem Held.take (h:Held B w L) (i:Nat) {A:Asn} (hi:L[i]?=some A):Held B w (A::L.eraseIdx i):=by
 obtain ⟨Z,h1,h2,h3⟩:=h;subst h1;rw[List.getElem?_map] at hi;cases hz:Z[i]? with
 |none=>rw[hz] at hi;cases hi
 |some p=>
  rw[hz] at hi;simp only[Option.map_some,Option.some.injEq] at hi;subst hi;refine ⟨p::Z.eraseIdx i,by simp[map_erase], ?_, ?_⟩
  ·intro q hq
   rcases List.mem_cons.1 hq with rfl|hq
   ·exact h2 _ (List.mem_of_getElem? hz)
   ·exact h2 _ ((List.eraseIdx_sublist _ _).mem hq)
  ·refine List.pairwise_cons.2 ⟨?_,h3.sublist (List.eraseIdx_sublist _ _)⟩
   have:∀(Z:List (Asn ×(Nat->Prop))) (i:Nat),Z[i]?=some p->Z.Pairwise (fun p q=>∀k,p.2 k->¬q.2 k)->∀q∈Z.eraseIdx i,∀k,p.2 k->¬q.2 k:=by
    intro Z
    induction Z with
    |nil=>intro i h;simp at h
    |cons x Z ih=>
     intro i hi hp q hq;obtain ⟨hx,hZ⟩:=List.pairwise_cons.1 hp;cases i with
     |zero=>simp at hi;subst hi;exact hx q (by simpa using hq)
     |succ i=>
      simp only[List.getElem?_cons_succ] at hi;simp only[List.eraseIdx_cons_succ,List.mem_cons] at hq;rcases hq with rfl|hq
      ·intro k hk hq';exact hx p (List.mem_of_getElem? hi) k hq' hk
      ·exact ih i hi hZ q hq
   exact this Z i hz h3
theorem Held.drop {A:Asn} (h:Held B w (A::R)):Held B w R:=by
 obtain ⟨Z,h1,h2,h3⟩:=h;cases Z with
 |nil=>cases h1
 |cons p Z=>
  simp only[List.map_cons,List.cons.injEq] at h1;exact ⟨Z,h1.2,fun q hq=>h2 q (by simp[hq]),(List.pairwise_cons.1 h3).2⟩
theorem Held.cons_out {A:Asn} (h:Held B w (A::R)):∃G:Nat->Prop,A.holds G w/\(∀k,G k->B≤k/\k<w.heap.size)/\
  ∃Z:List (Asn ×(Nat->Prop)),Z.map (·.1)=R/\(∀p∈Z,p.1.holds p.2 w/\∀k,p.2 k->B≤k/\k<w.heap.size)/\Z.Pairwise (fun p q=>∀k,p.2 k->¬q.2 k)/\∀q∈Z,∀k,G k->¬q.2 k:=by
 obtain ⟨Z,h1,h2,h3⟩:=h;cases Z with
 |nil=>cases h1
 |cons p Z=>
  simp only[List.map_cons,List.cons.injEq] at h1;obtain ⟨rfl,h1⟩:=h1;obtain ⟨h4,h5⟩:=h2 p (by simp);exact ⟨p.2,h4,h5,Z,h1,fun q hq=>h2 q (by simp[hq]),(List.pairwise_cons.1 h3).2,(List.pairwise_cons.1 h3).1⟩
theorem Held.cons_in {A:Asn} {G:Nat->Prop} (hA:A.holds G w) (hG:∀k,G k->B≤k/\k<w.heap.size) {Z:List (Asn ×(Nat->Prop))} (h1:Z.map (·.1)=R)
  (h2:∀p∈Z,p.1.holds p.2 w/\∀k,p.2 k->B≤k/\k<w.heap.size) (h3:Z.Pairwise fun p q=>∀k,p.2 k->¬q.2 k) (h4:∀q∈Z,∀k,G k->¬q.2 k):Held B w (A::R):=
 ⟨(A,G)::Z,by simp[h1],fun p hp=>by
  rcases List.mem_cons.1 hp with rfl|hp
  ·exact ⟨hA,hG⟩
  ·exact h2 p hp,List.pairwise_cons.2 ⟨h4,h3⟩⟩
theorem Held.step {A A':Asn} {w':World} (h:Held B w (A::R))
  (hs:∀G,A.holds G w->(∀k,G k->B≤k/\k<w.heap.size)->Upd G w w'/\∃G',A'.holds G' w'/\∀k,G' k->(G k∨w.heap.size≤k)/\k<w'.heap.size) (hB:B≤w.heap.size):Held B w' (A'::R):=by
 obtain ⟨G,hA,hG,Z,h1,h2,h3,h4⟩:=h.cons_out;obtain ⟨hu,G',hA',hG'⟩:=hs G hA hG;refine Held.cons_in hA' (fun k hk=>?_) h1 (fun p hp=>?_) h3 (fun q hq k hk hq'=>?_)
 ·obtain ⟨h5,h6⟩:=hG' k hk
  refine ⟨?_,h6⟩;rcases h5 with h5|h5
  ·exact (hG k h5).1
  ·omega
 ·obtain ⟨h5,h6⟩:=h2 p hp
  refine ⟨p.1.loc p.2 w w' h5 fun k hk=>hu.block k (h6 k hk).2 fun hGk=>h4 p hp k hGk hk,fun k hk=>⟨(h6 k hk).1,Nat.lt_of_lt_of_le (h6 k hk).2 hu.size⟩⟩
 ·obtain ⟨h5,h6⟩:=hG' k hk
  rcases h5 with h5|h5
  ·exact h4 q hq k h5 hq'
  ·have:=((h2 q hq).2 k hq').2;omega
theorem Held.new {A':Asn} {w':World} (h:Held B w R) (hu:Upd No w w') {G':Nat->Prop} (hA':A'.holds G' w') (hG':∀k,G' k->w.heap.size≤k/\k<w'.heap.size) (hB:B≤w.heap.size):Held B w' (A'::R):=by
 obtain ⟨Z,h1,h2,h3⟩:=h;refine Held.cons_in hA' (fun k hk=>?_) h1 (fun p hp=>?_) h3 (fun q hq k hk hq'=>?_)
 ·have:=hG' k hk;omega
 ·obtain ⟨h5,h6⟩:=h2 p hp
  exact ⟨p.1.loc p.2 w w' h5 fun k hk=>hu.block k (h6 k hk).2 fun h=>h,fun k hk=>⟨(h6 k hk).1,Nat.lt_of_lt_of_le (h6 k hk).2 hu.size⟩⟩
 ·have:=hG' k hk;have:=((h2 q hq).2 k hq').2;omega
theorem Held.same {w':World} (h:Held B w R) (hu:Upd No w w'):Held B w' R:=by
 obtain ⟨Z,h1,h2,h3⟩:=h;refine ⟨Z,h1,fun p hp=>?_,h3⟩;obtain ⟨h5,h6⟩:=h2 p hp;exact ⟨p.1.loc p.2 w w' h5 fun k hk=>hu.block k (h6 k hk).2 fun h=>h,fun k hk=>⟨(h6 k hk).1,Nat.lt_of_lt_of_le (h6 k hk).2 hu.size⟩⟩
theorem perm_lift {α β:Type _} (f:α->β) {L L':List β} (hp:L.Perm L'):∀Z:List α,Z.map f=L->∃Z':List α,Z'.Perm Z/\Z'.map f=L':=by
 induction hp with
 |nil=>intro Z h;exact ⟨Z, .refl _,h⟩
 |cons x _ ih=>
  intro Z h;cases Z with
  |nil=>simp at h
  |cons z Z=>
   simp only[List.map_cons,List.cons.injEq] at h;obtain ⟨Z',h1,h2⟩:=ih Z h.2;exact ⟨z::Z',h1.cons z,by simp[h.1,h2]⟩
 |swap x y l=>
  intro Z h
  match Z,h with
  |a::b::Z,h=>
   simp only[List.map_cons,List.cons.injEq] at h;exact ⟨b::a::Z,List.Perm.swap _ _ _,by simp[h.1,h.2.1,h.2.2]⟩
 |trans _ _ ih1 ih2=>
  intro Z h;obtain ⟨Z1,h1,h2⟩:=ih1 Z h;obtain ⟨Z2,h3,h4⟩:=ih2 Z1 h2;exact ⟨Z2,h3.trans h1,h4⟩
theorem Held.perm {L':List Asn} (h:Held B w L) (hp:L.Perm L'):Held B w L':=by
 obtain ⟨Z,h1,h2,h3⟩:=h;obtain ⟨Z',h4,h5⟩:=perm_lift (·.1) hp Z h1;exact ⟨Z',h5,fun p hp=>h2 p (h4.mem_iff.1 hp),h3.perm h4.symm fun hR k hk hk'=>hR k hk' hk⟩
theorem Own.perm {L':List Asn} (h:Own B w0 w L) (hp:L.Perm L'):Own B w0 w L':=⟨h.base,h.upd,h.held.perm hp⟩
theorem Own.take (h:Own B w0 w L) (i:Nat) {A:Asn} (hi:L[i]?=some A):Own B w0 w (A::L.eraseIdx i):=⟨h.base,h.upd,h.held.take i hi⟩
theorem Own.drop {A:Asn} (h:Own B w0 w (A::R)):Own B w0 w R:=⟨h.base,h.upd,h.held.drop⟩
theorem Own.step {A A':Asn} {w':World} (h:Own B w0 w (A::R))
  (hs:∀G,A.holds G w->(∀k,G k->B≤k/\k<w.heap.size)->Upd G w w'/\∃G',A'.holds G' w'/\∀k,G' k->(G k∨w.heap.size≤k)/\k<w'.heap.size):Own B w0 w' (A'::R):=by
 refine ⟨h.base, ?_,h.held.step hs h.size⟩;obtain ⟨G,hA,hG,_⟩:=h.held.cons_out;exact h.upd.trans (hs G hA hG).1 fun k _ hk=>(hG k hk).1
theorem Own.new {A':Asn} {w':World} (h:Own B w0 w R) (hu:Upd No w w') {G':Nat->Prop} (hA':A'.holds G' w') (hG':∀k,G' k->w.heap.size≤k/\k<w'.heap.size):Own B w0 w' (A'::R):=
 ⟨h.base,h.upd.no hu,h.held.new hu hA' hG' h.size⟩
theorem Own.same {w':World} (h:Own B w0 w R) (hu:Upd No w w'):Own B w0 w' R:=⟨h.base,h.upd.no hu,h.held.same hu⟩
theorem Own.head {A:Asn} {p:Prop} (h:Own B w0 w (A::R)) (hp:∀G,A.holds G w->p):p:=by
 obtain ⟨G,hA,_⟩:=h.held.cons_out;exact hp G hA
theorem Own.conv {A A':Asn} (h:Own B w0 w (A::R)) (hc:∀G,A.holds G w->A'.holds G w):Own B w0 w (A'::R):=
 h.step fun G hA hG=>⟨Upd.refl _ _,G,hc G hA,fun k hk=>⟨.inl hk,(hG k hk).2⟩⟩
def BlkA (b:Nat) (l:List Value):Asn where
 holds G w:=G b/\Blk w b l
 loc G w w' h hk:=⟨h.1,by obtain ⟨t,ht⟩:=h.2;exact ⟨t,by rw[hk b h.1];exact ht⟩⟩
 up G G' w h hk:=⟨hk b h.1,h.2⟩
def SlA (z:Nat) (s:Sl) (cs:List Value):Asn where
 holds G w:=s.In G/\SlO z w s cs
 loc G w w' h hk:=⟨h.1,by
  cases h.2 with
  |nil a b c d=>exact .nil a b c d
  |mk b o l a hb c d e=>
   obtain ⟨t,ht⟩:=hb;exact .mk b o l a ⟨t,by rw[hk b (h.1 _ a)];exact ht⟩ c d e⟩
 up G G' w h hk:=⟨fun a ha=>hk _ (h.1 a ha),h.2⟩
def MapA {K V:Type} (enc:K->Value) (encV:V->Value) (m:Nat) (L:List (K × V)):Asn where
 holds G w:=G m/\MapR enc encV w m L
 loc G w w' h hk:=⟨h.1,by
  obtain ⟨es,c,h1,h2⟩:=h.2.ex;exact ⟨⟨es,c,by unfold MBlk at *;rw[hk m h.1];exact h1,h2⟩,h.2.nodup⟩⟩
 up G G' w h hk:=⟨hk m h.1,h.2⟩
def PureA (p:Prop):Asn where
 holds _ _:=p
 loc _ _ _ h _:=h
 up _ _ _ h _:=h
def ExA {α:Type} (f:α->Asn):Asn where
 holds G w:=∃x,(f x).holds G w
 loc G w w' h hk:=by obtain ⟨x,h⟩:=h;exact ⟨x,(f x).loc G w w' h hk⟩
 up G G' w h hk:=by obtain ⟨x,h⟩:=h;exact ⟨x,(f x).up G G' w h hk⟩
def StarA (M:List Asn):Asn where
 holds G w:=∃Z:List (Asn ×(Nat->Prop)),Z.map (·.1)=M/\(∀p∈Z,p.1.holds p.2 w/\∀k,p.2 k->G k)/\Z.Pairwise fun p q=>∀k,p.2 k->¬q.2 k
 loc G w w' h hk:=by
  obtain ⟨Z,h1,h2,h3⟩:=h;exact ⟨Z,h1,fun p hp=>⟨p.1.loc p.2 w w' (h2 p hp).1 fun k hk'=>hk k ((h2 p hp).2 k hk'),(h2 p hp).2⟩,h3⟩
 up G G' w h hk:=by
  obtain ⟨Z,h1,h2,h3⟩:=h;exact ⟨Z,h1,fun p hp=>⟨(h2 p hp).1,fun k hk'=>hk k ((h2 p hp).2 k hk')⟩,h3⟩
theorem Own.ex {α:Type} {f:α->Asn} (h:Own B w0 w (ExA f::R)):∃x,Own B w0 w (f x::R):=by
 obtain ⟨G,⟨x,hx⟩,_⟩:=h.held.cons_out;obtain ⟨G,hA,hG,Z,h1,h2,h3,h4⟩:=h.held.cons_out;obtain ⟨x,hx⟩:=hA;exact ⟨x,h.base,h.upd,Held.cons_in hx hG h1 h2 h3 h4⟩
theorem Own.mk_ex {α:Type} {f:α->Asn} (x:α) (h:Own B w0 w (f x::R)):Own B w0 w (ExA f::R):=h.conv fun _ h=>⟨x,h⟩
theorem Own.pure {p:Prop} (h:Own B w0 w (PureA p::R)):p/\Own B w0 w R:=⟨h.head fun _ h=>h,h.drop⟩
theorem Own.mk_pure {p:Prop} (hp:p) (h:Own B w0 w R):Own B w0 w (PureA p::R):=by
 obtain ⟨Z,h1,h2,h3⟩:=h.held;exact ⟨h.base,h.upd,Held.cons_in (G:=No) hp (fun _ h=>h.elim) h1 h2 h3 fun _ _ _ h=>h.elim⟩
theorem Own.star {M:List Asn} (h:Own B w0 w (StarA M::R)):Own B w0 w (M++R):=by
 obtain ⟨G,hA,hG,Z,h1,h2,h3,h4⟩:=h.held.cons_out;obtain ⟨Y,y1,y2,y3⟩:=hA;refine ⟨h.base,h.upd,Y++Z,by simp[y1,h1],fun p hp=>?_,List.pairwise_append.2 ⟨y3,h3,fun p hp q hq k hk=>h4 q hq k ((y2 p hp).2 k hk)⟩⟩;rcases List.mem_append.1 hp with hp|hp
 ·exact ⟨(y2 p hp).1,fun k hk=>hG k ((y2 p hp).2 k hk)⟩
 ·exact h2 p hp
theorem Own.mk_star {M:List Asn} (h:Own B w0 w (M++R)):Own B w0 w (StarA M::R):=by
 obtain ⟨Z,h1,h2,h3⟩:=h.held;have h1:Z.map (·.1)=M++R:=h1;obtain ⟨Y,Z',hYZ,hY,hZ⟩:=List.map_eq_append_iff.1 h1;subst hYZ;obtain ⟨p1,p2,p3⟩:=List.pairwise_append.1 h3;refine ⟨h.base,h.upd,Held.cons_in (G:=fun k=>∃p∈Y,p.2 k) ⟨Y,hY,fun p hp=>⟨(h2 p (by simp[hp])).1,fun k hk=>⟨p,hp,hk⟩⟩,p1⟩ (fun k hk=>?_) hZ (fun p hp=>h2 p (by simp[hp])) p2 ?_⟩
 ·obtain ⟨p,hp,hk⟩:=hk;exact (h2 p (by simp[hp])).2 k hk
 ·rintro q hq k ⟨p,hp,hk⟩;exact p3 p hp q hq k hk
theorem Own.al {l:List Value} {t:TypeId} {k:World->Prop} (h:Own B w0 w R) (hk:∀w',Own B w0 w' (BlkA w.heap.size l::R)->k w'):Al w (.cells ⟨l⟩ t) k:=
 Al.mk' fun w' hu hs hb=>hk w' (h.new (A':=BlkA w.heap.size l) (G':=fun k=>k=w.heap.size) hu ⟨rfl,hb⟩ fun k e=>by omega)
theorem Own.alMap {K V:Type} (enc:K->Value) (encV:V->Value) {k:World->Prop} (h:Own B w0 w R) (hk:∀w',Own B w0 w' (MapA enc encV w.heap.size []::R)->k w'):Al w (.map #[] 0) k:=
 Al.map' fun w' hu hs hb=>hk w' (h.new (A':=MapA enc encV w.heap.size []) (G':=fun k=>k=w.heap.size) hu ⟨rfl,⟨⟨#[],0,hb,by simp,by simp,by simp⟩,by simp⟩⟩ fun k e=>by omega)
theorem Own.dr {k:World->Prop} (h:Own B w0 w R) (hk:∀w',Own B w0 w' R->k w'):Dr w k:=Dr.mk' fun w' hu _=>hk w' (h.same hu)
theorem Own.blk {b:Nat} {l:List Value} (h:Own B w0 w L) (i:Nat) (hi:L[i]?=some (BlkA b l)):Blk w b l:=(h.take i hi).head fun _ h=>h.2
theorem Own.ld {b o n:Nat} {l:List Value} {v:Value} (h:Own B w0 w L) (i:Nat) (hi:L[i]?=some (BlkA b l)) (hv:l[o+n]?=some v):w.cell? ((Addr.mk b o none).add n)=some v:=(h.blk i hi).cellA hv
theorem Own.ld0 {b o:Nat} {l:List Value} {v:Value} (h:Own B w0 w L) (i:Nat) (hi:L[i]?=some (BlkA b l)) (hv:l[o]?=some v):w.cell? (Addr.mk b o none)=some v:=(h.blk i hi).cell' hv
theorem Own.set {A A':Asn} (h:Own B w0 w (A'::L.eraseIdx 0)) (hi:L[0]?=some A):Own B w0 w (L.set 0 A'):=by
 cases L with
 |nil=>simp at hi
 |cons x L=>simpa using h
def ins {α:Type _}:List α->Nat->α->List α
 |l,0,a=>a::l
 | [],_+1,a=>[a]
 |x::l,n+1,a=>x::ins l n a
theorem mem_ins {α:Type _} {a x:α}:∀{l:List α} {n:Nat},x∈ins l n a->x=a∨x∈l
 |l,0,h=>by simpa [ins] using h
 | [],_+1,h=>by simp[ins] at h;exact .inl h
 |y::l,n+1,h=>by
  simp only[ins,List.mem_cons] at h;rcases h with h|h
  ·exact .inr (by simp[h])
  ·rcases mem_ins h with h|h
   ·exact .inl h
   ·exact .inr (by simp[h])
theorem Held.put {A':Asn} {i:Nat} (h:Held B w (A'::L.eraseIdx i)) (hi:i<L.length):Held B w (L.set i A'):=by
 obtain ⟨G,hA,hG,Z,h1,h2,h3,h4⟩:=h.cons_out;refine ⟨ins Z i (A',G), ?_,fun p hp=>?_, ?_⟩
 ·have:∀(Z:List (Asn ×(Nat->Prop))) (L:List Asn) (i:Nat),Z.map (·.1)=L.eraseIdx i->i<L.length->(ins Z i (A',G)).map (·.1)=L.set i A':=by
   intro Z
   induction Z with
   |nil=>
    intro L i h hi;cases L with
    |nil=>simp at hi
    |cons x L=>
     cases i with
     |zero=>simp at h;subst h;simp[ins]
     |succ i=>simp at h
   |cons z Z ih=>
    intro L i h hi;cases L with
    |nil=>simp at hi
    |cons x L=>
     cases i with
     |zero=>simp at h;simp[ins,h]
     |succ i=>
      simp only[List.map_cons,List.eraseIdx_cons_succ,List.cons.injEq] at h;simp only[ins,List.map_cons,List.set_cons_succ,h.1];rw[ih L i h.2 (by simpa using hi)]
  exact this Z L i h1 hi
 ·rcases mem_ins hp with rfl|hp
  ·exact ⟨hA,hG⟩
  ·exact h2 p hp
 ·have:∀(Z:List (Asn ×(Nat->Prop))) (i:Nat),Z.Pairwise (fun p q=>∀k,p.2 k->¬q.2 k)->(∀q∈Z,∀k,G k->¬q.2 k)->(ins Z i (A',G)).Pairwise (fun p q=>∀k,p.2 k->¬q.2 k):=by
   intro Z
   induction Z with
   |nil=>intro i _ _;cases i<;>simp[ins]
   |cons z Z ih=>
    intro i hp hq;obtain ⟨h5,h6⟩:=List.pairwise_cons.1 hp;cases i with
    |zero=>simp only[ins];exact List.pairwise_cons.2 ⟨hq,hp⟩
    |succ i=>
     simp only[ins];refine List.pairwise_cons.2 ⟨fun q hq'=>?_,ih i h6 fun q hq'=>hq q (by simp[hq'])⟩;rcases mem_ins hq' with rfl|hq'
     ·intro k hk hk';exact hq z (by simp) k hk' hk
     ·exact h5 q hq'
  exact this Z i h3 h4
theorem Own.put {A':Asn} {i:Nat} (h:Own B w0 w (A'::L.eraseIdx i)) (hi:i<L.length):Own B w0 w (L.set i A'):=⟨h.base,h.upd,h.held.put hi⟩
theorem lt_of_get {α:Type} {L:List α} {i:Nat} {A:α} (h:L[i]?=some A):i<L.length:=(List.getElem?_eq_some_iff.1 h).1
theorem Own.st {b o:Nat} {l:List Value} {v:Value} {k:World->Prop} (h:Own B w0 w L) (i:Nat) (hi:L[i]?=some (BlkA b l)) (ho:(l[o]?).isSome=true) (hv:v.oneCell'=true)
  (hk:∀w',Own B w0 w' (L.set i (BlkA b (l.set o v)))->k w'):St w ⟨b,o,none⟩ v k:=
 St.mk' (h.blk i hi) (by simpa using ho) hv fun w' hu hs hb=>hk w' (((h.take i hi).step (A':=BlkA b (l.set o v)) fun G hA hG=>⟨hu.mono fun k _ e=>by rw[e];exact hA.1,G,⟨hA.1,hb⟩,fun k hk=>⟨.inl hk,by have:=(hG k hk).2;omega⟩⟩).put (lt_of_get hi))
theorem Own.stA {b o n:Nat} {l:List Value} {v:Value} {k:World->Prop} (h:Own B w0 w L) (i:Nat) (hi:L[i]?=some (BlkA b l)) (ho:(l[o+n]?).isSome=true) (hv:v.oneCell'=true)
  (hk:∀w',Own B w0 w' (L.set i (BlkA b (l.set (o+n) v)))->k w'):St w ((Addr.mk b o none).add n) v k:=by
 rw[add_mk];exact h.st i hi ho hv hk
end
end Go.Vc
namespace Go.Vc
open Go
theorem wr {x:Int} (h1: -9223372036854775808≤x) (h2:x<9223372036854775808):IntKind.i64.wrap x=x:=by
 have e1:(2:Int)^64=18446744073709551616:=by decide
 have e2:(2:Int)^63=9223372036854775808:=by decide
 simp only[IntKind.wrap,IntKind.bits,IntKind.signed,Nat.reduceSub,e1,e2,Bool.true_and,decide_eq_true_eq];split<;>omega
theorem wru {x:Int} (h1:0≤x) (h2:x<18446744073709551616):IntKind.u64.wrap x=x:=by
 have e1:(2:Int)^64=18446744073709551616:=by decide
 simp only[IntKind.wrap,IntKind.bits,IntKind.signed,e1,Bool.false_and,Bool.false_eq_true,if_false];omega
structure EncT (α:Type) where
 z:Nat
 enc:α->List Value
 len:∀x,(enc x).length=z
 one:∀x,∀v∈enc x,v.oneCell'=true
 pos:1≤z
def intE:EncT Int:=⟨1,fun n=>[.int .i64 n],fun _=>rfl,fun x v h=>by simp at h;subst h;rfl,Nat.le_refl _⟩
theorem flat_len {α:Type} (E:EncT α):∀(xs:List α),(xs.flatMap E.enc).length=xs.length*E.z
 | []=>by simp
 |x::xs=>by simp[flat_len E xs,E.len,Nat.succ_mul,Nat.add_comm]
theorem flat_get {α:Type} (E:EncT α):∀(xs:List α) (j c:Nat) (x:α),xs[j]?=some x->c<E.z->(xs.flatMap E.enc)[j*E.z+c]?=(E.enc x)[c]?
 | [],j,c,x,h,_=>by simp at h
 |y::xs,0,c,x,h,hc=>by
  simp at h;subst h;simp only[List.flatMap_cons,Nat.zero_mul,Nat.zero_add];rw[List.getElem?_append_left (by rw[E.len];exact hc)]
 |y::xs,j+1,c,x,h,hc=>by
  simp only[List.flatMap_cons];have:=flat_get E xs j c x (by simpa using h) hc;rw[List.getElem?_append_right (by rw[E.len,Nat.succ_mul];omega),E.len,Nat.succ_mul];rw[show j*E.z+E.z+c-E.z=j*E.z+c from by omega];exact this
theorem flat_set {α:Type} (E:EncT α):∀(xs:List α) (j:Nat) (x:α),j<xs.length->(xs.set j x).flatMap E.enc=putAt (xs.flatMap E.enc) (j*E.z) (E.enc x)
 | [],j,x,h=>by simp at h
 |y::xs,0,x,h=>by
  have:∀(us vs cs:List Value),us.length=vs.length->putAt (us++cs) 0 vs=vs++cs:=by
   intro us
   induction us with
   |nil=>intro vs cs h;cases vs with|nil=>simp[putAt_nil]|cons _ _=>simp at h
   |cons u us ih=>intro vs cs h;cases vs with|nil=>simp at h|cons v vs=>simp[putAt,ih vs cs (by simpa using h)]
  simp only[List.set_cons_zero,List.flatMap_cons,Nat.zero_mul];rw[this _ _ _ (by rw[E.len,E.len])]
 |y::xs,j+1,x,h=>by
  have:∀(us cs vs:List Value) (o:Nat),putAt (us++cs) (us.length+o) vs=us++putAt cs o vs:=by
   intro us
   induction us with
   |nil=>intro cs vs o;simp
   |cons u us ih=>
    intro cs vs o;simp only[List.cons_append,List.length_cons];rw[show us.length+1+o=(us.length+o)+1 from by omega];cases vs with
    |nil=>rw[putAt_nil,putAt_nil]
    |cons v vs=>simp only[putAt];rw[ih]
  simp only[List.set_cons_succ,List.flatMap_cons,Nat.succ_mul];rw[flat_set E xs j x (by simpa using h),show j*E.z+E.z=(E.enc y).length+j*E.z from by rw[E.len];omega,this]
def SlT {α:Type} (E:EncT α) (s:Sl) (xs:List α):Asn where
 holds G w:=s.In G/\s.len=xs.length/\SlO E.z w s (xs.flatMap E.enc)
 loc G w w' h hk:=⟨h.1,h.2.1,((SlA E.z s _).loc G w w' ⟨h.1,h.2.2⟩ hk).2⟩
 up G G' w h hk:=⟨fun a ha=>hk _ (h.1 a ha),h.2⟩
section
variable {P:Program} {B:Nat} {w0 w:World} {L R:List Asn} {α:Type} {E:EncT α}
theorem Own.slO {s:Sl} {xs:List α} (h:Own B w0 w L) (i:Nat) (hi:L[i]?=some (SlT E s xs)):SlO E.z w s (xs.flatMap E.enc):=(h.take i hi).head fun _ h=>h.2.2
theorem Own.len {s:Sl} {xs:List α} (h:Own B w0 w L) (i:Nat) (hi:L[i]?=some (SlT E s xs)):s.len=xs.length:=(h.take i hi).head fun _ h=>h.2.1
theorem SlO.get {s:Sl} {xs:List α} (h:SlO E.z w s (xs.flatMap E.enc)) {j:Nat} {x:α} (hj:xs[j]?=some x):
  ∃b o,s.a=some ⟨b,o,none⟩/\∀c v,(E.enc x)[c]?=some v->w.cell? ⟨b,o+(j*E.z+c),none⟩=some v:=by
 have hz:=E.pos
 have hg:∀c v,(E.enc x)[c]?=some v->(xs.flatMap E.enc)[j*E.z+c]?=some v:=fun c v hv=>by
  rw[flat_get E xs j c x hj (by have:=(List.getElem?_eq_some_iff.1 hv).1;rw[E.len] at this;exact this)];exact hv
 cases h with
 |nil ha hl hc hcs=>
  have hl:=flat_len E xs;rw[hcs] at hl
  have:xs.length=0:=by
   rcases Nat.mul_eq_zero.1 hl.symm with h|h
   ·exact h
   ·omega
  have:=(List.getElem?_eq_some_iff.1 hj).1;omega
 |mk b o l ha hb hl hc hcs=>
  refine ⟨b,o,ha,fun c v hv=>?_⟩;obtain ⟨b',o',ha',h'⟩:=SlO.cell (.mk b o l ha hb hl hc hcs:SlO E.z w s (xs.flatMap E.enc)) (hg c v hv);rw[ha] at ha';simp only[Option.some.injEq,Addr.mk.injEq] at ha';rw[ha'.1,ha'.2.1];exact h'
theorem Own.get {s:Sl} {xs:List α} (h:Own B w0 w L) (i:Nat) (hi:L[i]?=some (SlT E s xs)) {j:Nat} {x:α} (hj:xs[j]?=some x):
  ∃b o,s.a=some ⟨b,o,none⟩/\∀c v,(E.enc x)[c]?=some v->w.cell? ⟨b,o+(j*E.z+c),none⟩=some v:=(h.slO i hi).get hj
theorem Own.getI {s:Sl} {xs:List Int} (h:Own B w0 w L) (i:Nat) (hi:L[i]?=some (SlT intE s xs)) {j:Nat} {x:Int} (hj:xs[j]?=some x):
  ∃a,s.a=some a/\w.cell? (a.add (j*1))=some (.int .i64 x):=by
 obtain ⟨b,o,ha,hc⟩:=h.get i hi hj;exact ⟨_,ha,by rw[add_mk];exact hc 0 _ rfl⟩
theorem Own.stE {s:Sl} {xs:List α} {k:World->Prop} (h:Own B w0 w L) (i:Nat) (hi:L[i]?=some (SlT E s xs)) {j:Nat} (hj:j<xs.length) (x:α) {b o:Nat} (ha:s.a=some ⟨b,o,none⟩)
  {v:Value} (hx:E.enc x= [v]) (hk:∀w',Own B w0 w' (L.set i (SlT E s (xs.set j x)))->k w'):St w ⟨b,o+j*E.z,none⟩ v k:=by
 have hz:E.z=1:=by rw[←E.len x,hx];rfl
 have hone:v.oneCell'=true:=E.one x v (by rw[hx];simp);have hs:=h.slO i hi;have hl:=h.len i hi;cases hs with
 |nil ha' _ _ _=>rw[ha'] at ha;cases ha
 |mk b' o' l ha' hb hle hc hcs=>
  rw[ha'] at ha;simp only[Option.some.injEq,Addr.mk.injEq,and_true] at ha;obtain ⟨rfl,rfl⟩:=ha;have hfl:=flat_len E xs;have hlt:j*E.z<xs.length*E.z:=by rw[hz];omega
  have hle2:s.len*E.z≤s.cap*E.z:=Nat.mul_le_mul_right _ hle;rw[←hl] at hlt;refine St.mk' hb (by omega) hone fun w' hu hsz hb'=>hk w' (((h.take i hi).step (A':=SlT E s (xs.set j x)) fun G hA hG=>⟨hu.mono fun k _ e=>by rw[e];exact hA.1 _ ha',G,⟨hA.1,by simpa using hl, ?_⟩,fun k hk=>⟨.inl hk,by have:=(hG k hk).2;omega⟩⟩).put (lt_of_get hi))
  refine .mk b' o' _ ha' hb' hle (by simpa using hc) ?_;rw[flat_set E xs j x hj,hx,hcs]
  have key:∀(l:List Value) (o n m:Nat),o+n≤l.length->m<n->putAt ((l.drop o).take n) m [v]=((l.set (o+m) v).drop o).take n:=by
   intro l o n m h1 h2;apply List.ext_getElem?;intro t;rw[putAt_get _ _ _ _ (by simp;omega)];simp only[List.length_singleton,List.getElem?_take,List.getElem?_drop,List.getElem?_set];by_cases e:m=t
   ·subst e
    rw[if_pos (by omega),if_pos h2,if_pos rfl,if_pos (by omega)];simp
   ·rw[if_neg (by omega),if_neg (show ¬o+m=o+t by omega)]
  exact key l o' (s.len*E.z) (j*E.z) (by omega) hlt
theorem Own.app {T el:TypeId} {inf:TypeInfo} {zv:Value} {s x:Sl} {xs ys:List α} {k:Sl->World->Prop}
  (hu:P.underlying T=some (.slice el)) (hi:P.info? el=some inf) (hz:inf.zero=some zv) (hsz:inf.size=E.z) (hzc:zv.cells.size=E.z) (hb:1≤inf.bytes)
  (h:Own B w0 w L) (i:Nat) (hL:L[i]?=some (SlT E s xs)) (hx:SlO E.z w x (ys.flatMap E.enc)) (hxl:x.len=ys.length) (hbig:(17*(xs.length+ys.length)+16000)*inf.bytes≤2^48)
  (hk:∀s' w',s'.len=xs.length+ys.length->Own B w0 w' (L.set i (SlT E s' (xs++ys)))->k s' w'):
  ∃s' w',AppR P [T,T] T (.slice s.a s.len s.cap) (.slice x.a x.len x.cap) w s' w'/\k s' w':=by
 have hs:=h.slO i hL;have hl:=h.len i hL
 have hone:∀v∈ys.flatMap E.enc,v.oneCell'=true:=fun v hv=>by
  obtain ⟨y,_,hy⟩:=List.mem_flatMap.1 hv;exact E.one y v hy
 obtain ⟨s',w',h1,h2,h3⟩:=app_run (P:=P) (T:=T) hu hi hz hsz hzc hb hs hx hone (by rw[hl,hxl];exact hbig);refine ⟨s',w',h1,hk s' w' (by rw[h2,hl,hxl]) (((h.take i hL).step (A':=SlT E s' (xs++ys)) fun G hA hG=>⟨h3.upd.mono fun k _ ⟨a,ha,e⟩=>by rw[←e];exact hA.1 a ha,fun k=>s'.In (fun j=>j≠k)->False,⟨?_, ?_, ?_⟩, ?_⟩).put (lt_of_get hL))⟩
 ·intro a ha hn;exact hn a ha rfl
 ·rw[h2,hl,hxl,List.length_append]
 ·rw[List.flatMap_append];exact h3.own
 ·intro k hk
  have:∃a,s'.a=some a/\a.block=k:=by
   refine Classical.byContradiction fun hn=>hk fun a ha e=>hn ⟨a,ha,e⟩
  obtain ⟨a,ha,rfl⟩:=this;refine ⟨?_,h3.own.lt a ha⟩;rcases h3.here a ha with ⟨a0,h4,h5⟩|h4
  ·rw[←h5];exact .inl (hA.1 a0 h4)
  ·exact .inr (by omega)
theorem Own.app1 {T el:TypeId} {inf:TypeInfo} {zv:Value} {s:Sl} {xs:List α} {y:α} {b:Nat} {k:Sl->World->Prop}
  (hu:P.underlying T=some (.slice el)) (hi:P.info? el=some inf) (hz:inf.zero=some zv) (hsz:inf.size=E.z) (hzc:zv.cells.size=E.z) (hb:1≤inf.bytes)
  (h:Own B w0 w (BlkA b (E.enc y)::L)) (i:Nat) (hL:L[i]?=some (SlT E s xs)) (hbig:(17*(xs.length+1)+16000)*inf.bytes≤2^48)
  (hk:∀s' w',s'.len=xs.length+1->Own B w0 w' (L.set i (SlT E s' (xs++ [y])))->k s' w'):
  ∃s' w',AppR P [T,T] T (.slice s.a s.len s.cap) (.slice (some (Addr.mk b 0 none)) 1 1) w s' w'/\k s' w':=by
 have hx:SlO E.z w ⟨some (Addr.mk b 0 none),1,1⟩ ([y].flatMap E.enc):=by
  refine .mk b 0 (E.enc y) rfl (h.blk 0 rfl) (Nat.le_refl _) (by simp[E.len]) ?_;have:(1:Nat)*E.z=(E.enc y).length:=by rw[E.len];omega
  simp only[List.flatMap_cons,List.flatMap_nil,List.append_nil,List.drop_zero,this,List.take_length]
 have h':Own B w0 w L:=h.drop;exact h'.app (x:=⟨some (Addr.mk b 0 none),1,1⟩) (ys:=[y]) hu hi hz hsz hzc hb i hL hx rfl (by simpa using hbig) (by simpa using hk)
theorem SlO.no {z:Nat} {w':World} {s:Sl} {cs:List Value} (h:SlO z w s cs) (u:Upd No w w'):SlO z w' s cs:=h.upd u fun _ _ h=>h
theorem SlO.sub {z:Nat} {s:Sl} {cs:List Value} (h:SlO z w s cs) {l hh:Nat} (hl:l≤hh) (hh':hh≤s.len):SlO z w ⟨slA s.a l s.cap z,hh-l,s.cap-l⟩ ((cs.take (hh*z)).drop (l*z)):=by
 cases h with
 |nil ha h1 h2 h3=>
  have:l=0/\hh=0:=by omega
  obtain ⟨rfl,rfl⟩:=this;exact .nil (by simp[slA,ha]) rfl (by simp[h2]) (by simp[h3])
 |mk b o ls ha hb hle hc hcs=>
  have m1:l*z≤hh*z:=Nat.mul_le_mul_right _ hl;have m2:hh*z≤s.len*z:=Nat.mul_le_mul_right _ hh';have m3:s.len*z≤s.cap*z:=Nat.mul_le_mul_right _ hle;by_cases e:s.cap=l
  ·have e2:hh=l:=by omega
   refine .mk b o ls (by simp[slA,e,ha]) hb ?_ ?_ ?_
   ·show hh-l≤s.cap-l
    omega
   ·show o+(s.cap-l)*z≤ls.length
    rw[e,Nat.sub_self,Nat.zero_mul];omega
   ·rw[e2]
    simp only[Nat.sub_self,Nat.zero_mul,List.take_zero];apply List.drop_eq_nil_of_le;rw[List.length_take];omega
  ·refine .mk b (o+l*z) ls ?_ hb ?_ ?_ ?_
   ·simp only[slA,if_neg e,ha,Option.map_some,add_mk]
   ·show hh-l≤s.cap-l
    omega
   ·show o+l*z+(s.cap-l)*z≤ls.length
    rw[Nat.sub_mul];omega
   ·show _=(ls.drop (o+l*z)).take ((hh-l)*z)
    rw[hcs,List.take_take,Nat.min_eq_left m2,Nat.sub_mul,List.drop_take,List.drop_drop]
theorem Own.blk_eq {b:Nat} {l l':List Value} (h:Own B w0 w (BlkA b l::R)) (e:l=l'):Own B w0 w (BlkA b l'::R):=e▸h
theorem callV_mk {id:Nat} {first cap:Array Value} {args:List Value} {R:Ending->World->Prop} (h:okF P id (Calls P id (first++⟨args⟩++cap) w R)):CallV P (.func (.func id) first cap) args w R:=⟨id,first,cap,rfl,h⟩
theorem Own.nilS (h:Own B w0 w R):Own B w0 w (SlT E ⟨none,0,0⟩ []::R):=by
 have:=Own.mk_pure (p:=True) trivial h;exact this.conv fun G _=>⟨(fun a ha=>by cases ha),rfl, .nil rfl rfl rfl rfl⟩
theorem slA0 (a:Option Addr) (cap z:Nat) (h:∀x,a=some x->x.spot=none):slA a 0 cap z=a:=by
 unfold slA;split
 ·rfl
 ·cases a with
  |none=>rfl
  |some x=>simp[Addr.add]
theorem SlO.spot {z:Nat} {s:Sl} {cs:List Value} (h:SlO z w s cs):∀x,s.a=some x->x.spot=none:=fun x hx=>by
 cases h with
 |nil ha _ _ _=>rw[ha] at hx;cases hx
 |mk b o l ha _ _ _ _=>rw[ha] at hx;cases hx;rfl
theorem Own.pre {s:Sl} {xs:List α} (h:Own B w0 w L) (i:Nat) (hi:L[i]?=some (SlT E s xs)) {n:Nat} (hn:n≤xs.length):Own B w0 w (L.set i (SlT E ⟨s.a,n,s.cap⟩ (xs.take n))):=by
 refine (Own.conv (h.take i hi) fun G hG=>?_).put (lt_of_get hi);have hfl:=flat_len E xs;refine ⟨fun a ha=>hG.1 a ha,by simp[hn], ?_⟩
 have htake:(xs.take n).flatMap E.enc=(xs.flatMap E.enc).take (n*E.z):=by
  have h1:xs.flatMap E.enc=(xs.take n).flatMap E.enc++(xs.drop n).flatMap E.enc:=by rw[←List.flatMap_append,List.take_append_drop]
  have h2:((xs.take n).flatMap E.enc).length=n*E.z:=by rw[flat_len];simp[hn]
  rw[h1,←h2,List.take_left]
 cases hG.2.2 with
 |nil ha hl hc hcs=>
  have h0:xs.length=0:=by rw[←hG.2.1];exact hl
  have:n=0:=by omega
  subst this;exact .nil ha rfl hc (by simp)
 |mk b o l ha hb hl hc hcs=>
  have:=hG.2.1;refine .mk b o l ha hb (by show n≤s.cap;omega) hc ?_;rw[htake,hcs];show _=(l.drop o).take (n*E.z);rw[List.take_take];congr 1;have:n*E.z≤s.len*E.z:=Nat.mul_le_mul_right _ (by omega);omega
theorem Own.clear {T el t:TypeId} {zv:Value} {z0:α} {s:Sl} {xs:List α} {C:World->Prop} (hu:P.underlying T=some (.slice el)) (hz:∀w,(zeroValue el).run P w= .ok zv w) (hzc:zv.cells.toList=E.enc z0)
  (h:Own B w0 w L) (i:Nat) (hi:L[i]?=some (SlT E s xs)) {n:Nat} (hn:n≤xs.length) (hC:∀w',Own B w0 w' (L.set i (SlT E s (xs.take n++List.replicate (xs.length-n) z0)))->C w'):
  ∃w',ClearR P [T] t (.slice (slA s.a n s.cap E.z) (s.len-n) (s.cap-n)) w w'/\C w':=by
 have hs:=h.slO i hi;have hl:=h.len i hi;by_cases hnl:n=xs.length
 ·refine ⟨w, ?_,hC w ?_⟩
  ·unfold ClearR Builtin.clear_
   have:s.len-n=0:=by omega
   rw[this];simp only[List.getElem?_toArray,List.getElem?_cons_zero,Sem.run_bind,run_und hu,Result.andThen_ok];cases slA s.a n s.cap E.z<;>rfl
  ·have:xs.take n++List.replicate (xs.length-n) z0=xs:=by rw[hnl];simp
   rw[this]
   have hset:L.set i (SlT E s xs)=L:=by
    apply List.ext_getElem?;intro j;rw[List.getElem?_set];by_cases e:i=j
    ·subst e;rw[if_pos rfl,if_pos (lt_of_get hi),hi]
    ·simp[e]
   rw[hset];exact h
 ·cases hs with
  |nil ha hl' hc hcs=>omega
  |mk b o l ha hb hle hc hcs=>
   have hzl:zv.cells.size=E.z:=by rw[←Array.length_toList,hzc,E.len]
   have hfl:=flat_len E xs;have hlt:n<s.len:=by omega
   have hmul:s.len*E.z≤s.cap*E.z:=Nat.mul_le_mul_right _ hle;have hnm:n*E.z≤s.len*E.z:=Nat.mul_le_mul_right _ (by omega)
   have hA:slA s.a n s.cap E.z=some ⟨b,o+n*E.z,none⟩:=by
    unfold slA;rw[if_neg (by omega),ha];simp only[Option.map_some,add_mk]
   let zs:List Value:=(Builtin.zeroCells zv.cells (s.len-n)).toList
   have hzs:zs=(List.replicate (xs.length-n) z0).flatMap E.enc:=by
    have h1:(Builtin.zeroCells zv.cells (s.len-n))=⟨rep (s.len-n) zv.cells.toList⟩:=by
     unfold Builtin.zeroCells;exact zeros_eq zv.cells (s.len-n) (by rw[hzl];exact E.pos)
    have h2:∀m,rep m (E.enc z0)=(List.replicate m z0).flatMap E.enc:=by
     intro m
     induction m with
     |zero=>rfl
     |succ m ih=>simp[rep,List.replicate_succ,ih]
    show (Builtin.zeroCells zv.cells (s.len-n)).toList=_;rw[h1,hzc,h2,hl]
   have hzlen:zs.length=(s.len-n)*E.z:=by rw[hzs,flat_len];simp[hl]
   have hroom:o+n*E.z+zs.length≤l.length:=by rw[hzlen,Nat.sub_mul];omega
   have hone:∀v∈zs,v.oneCell'=true:=fun v hv=>by
    rw[hzs] at hv;obtain ⟨y,_,hy⟩:=List.mem_flatMap.1 hv;exact E.one y v hy
   obtain ⟨w',h1,h2,h3,h4⟩:=storeCells_run (P:=P) zs l (o+n*E.z) w hb hroom hone 0 (o+n*E.z) (by omega);refine ⟨w', ?_,hC w' (((h.take i hi).step (A':=SlT E s (xs.take n++List.replicate (xs.length-n) z0)) fun G hA' hG=>⟨h2.mono fun k _ e=>by rw[e];exact hA'.1 _ ha,G,⟨hA'.1, ?_, ?_⟩,fun k hk=>⟨.inl hk,by have:=(hG k hk).2;omega⟩⟩).put (lt_of_get hi))⟩
   ·unfold ClearR Builtin.clear_
    rw[hA];obtain ⟨d,hd⟩:∃d,s.len-n=d+1:=⟨s.len-n-1,by omega⟩
    simp only[List.getElem?_toArray,List.getElem?_cons_zero,Sem.run_bind,run_und hu,Result.andThen_ok];have h1':(storeCells ⟨b,o+n*E.z,none⟩ (Builtin.zeroCells zv.cells (d+1)).toList).run P w= .ok () w':=by rw[←hd];exact h1
    rw[hd];simp only[hz,Sem.run_bind,Result.andThen_ok,h1'];rfl
   ·simp[hl];omega
   ·refine .mk b o _ ha h4 hle (by rw[putAt_length];exact hc) ?_
    have hpre:(xs.take n).flatMap E.enc=(xs.flatMap E.enc).take (n*E.z):=by
     have g1:xs.flatMap E.enc=(xs.take n).flatMap E.enc++(xs.drop n).flatMap E.enc:=by rw[←List.flatMap_append,List.take_append_drop]
     have g2:((xs.take n).flatMap E.enc).length=n*E.z:=by rw[flat_len];simp[hn]
     rw[g1,←g2,List.take_left]
    rw[List.flatMap_append,←hzs,hpre,hcs];apply List.ext_getElem?;intro t;rw[List.getElem?_take,List.getElem?_drop,putAt_get _ _ _ _ hroom,List.take_take,Nat.min_eq_left hnm];by_cases e:t<n*E.z
    ·rw[List.getElem?_append_left (by simp;omega),List.getElem?_take,if_pos e,List.getElem?_drop,if_pos (by omega),if_neg (by omega)]
    ·have hl2:(List.take (n*E.z) (List.drop o l)).length=n*E.z:=by simp;omega
     rw[List.getElem?_append_right (by omega),hl2];by_cases e2:t<s.len*E.z
     ·rw[if_pos e2,if_pos (by rw[hzlen,Nat.sub_mul];omega)]
      congr 1;omega
     ·rw[if_neg e2]
      apply List.getElem?_eq_none;rw[hzlen,Nat.sub_mul];omega
theorem Own.mlook {T kt el:TypeId} {K V:Type} [DecidableEq K] {enc:K->Value} {encV:V->Value} {m:Nat} {M:List (K × V)} {k:K} {v:V} (hu:P.underlying T=some (.map kt el)) (hk:KeyOk P kt enc)
  (h:Own B w0 w L) (i:Nat) (hi:L[i]?=some (MapA enc encV m M)) (hl:mget M k=some v):LkB P T (.map (some m)) (enc k) (encV v) true w/\Lk1 P T (.map (some m)) (enc k) (encV v) w:=
 ((h.take i hi).head fun _ h=>h.2).mget_some hu hk hl
theorem Own.mlook0 {T kt el:TypeId} {K V:Type} [DecidableEq K] {enc:K->Value} {encV:V->Value} {m:Nat} {M:List (K × V)} {k:K} {z:Value} (hu:P.underlying T=some (.map kt el)) (hk:KeyOk P kt enc) (hz:∀w,(zeroValue el).run P w= .ok z w)
  (h:Own B w0 w L) (i:Nat) (hi:L[i]?=some (MapA enc encV m M)) (hl:mget M k=none):LkB P T (.map (some m)) (enc k) z false w/\Lk1 P T (.map (some m)) (enc k) z w:=
 ((h.take i hi).head fun _ h=>h.2).mget_none hu hk hz hl
theorem Own.mput {T kt el:TypeId} {K V:Type} [DecidableEq K] {enc:K->Value} {encV:V->Value} {m:Nat} {M:List (K × V)} {k:K} {v:V} {C:World->Prop} (hu:P.underlying T=some (.map kt el)) (hk:KeyOk P kt enc)
  (h:Own B w0 w L) (i:Nat) (hi:L[i]?=some (MapA enc encV m M)) (hC:∀w',Own B w0 w' (L.set i (MapA enc encV m (aput M k v)))->C w'):∃w',UpdR P T (.map (some m)) (enc k) (encV v) w w'/\C w':=by
 obtain ⟨w',h1,h2,h3,h4⟩:=((h.take i hi).head fun _ h=>h.2).put (P:=P) (T:=T) hu hk k v;exact ⟨w',h1,hC w' (((h.take i hi).step (A':=MapA enc encV m (aput M k v)) fun G hA hG=>⟨h2.mono fun k _ e=>by rw[e];exact hA.1,G,⟨hA.1,h4⟩,fun k hk=>⟨.inl hk,by have:=(hG k hk).2;omega⟩⟩).put (lt_of_get hi))⟩
theorem Own.mdel {T kt el t:TypeId} {ts:List TypeId} {K V:Type} [DecidableEq K] {enc:K->Value} {encV:V->Value} {m:Nat} {M:List (K × V)} {k:K} {C:World->Prop} (hu:P.underlying T=some (.map kt el)) (hk:KeyOk P kt enc)
  (h:Own B w0 w L) (i:Nat) (hi:L[i]?=some (MapA enc encV m M)) (hC:∀w',Own B w0 w' (L.set i (MapA enc encV m (adel M k)))->C w'):∃w',DelR P (T::ts) t (.map (some m)) (enc k) w w'/\C w':=by
 obtain ⟨w',h1,h2,h3,h4⟩:=((h.take i hi).head fun _ h=>h.2).del (P:=P) (T:=T) (t:=t) (ts:=ts) hu hk k;exact ⟨w',h1,hC w' (((h.take i hi).step (A':=MapA enc encV m (adel M k)) fun G hA hG=>⟨h2.mono fun k _ e=>by rw[e];exact hA.1,G,⟨hA.1,h4⟩,fun k hk=>⟨.inl hk,by have:=(hG k hk).2;omega⟩⟩).put (lt_of_get hi))⟩
end
end Go.Vc
namespace Go.Vc
open Go
structure Inp {α:Type} (E:EncT α) (w0:World) (s:Sl) (xs:List α):Prop where
 len:s.len=xs.length
 cap:s.len≤s.cap
 got:∀j x,xs[j]?=some x->∃a,s.a=some a/\a.block<w0.heap.size/\∀c v,(E.enc x)[c]?=some v->w0.cell? ((a.add (j*E.z)).add c)=some v
theorem add_block (a:Addr) (n:Nat):(a.add n).block=a.block:=by
 unfold Addr.add;split<;>rfl
theorem add_nil (a:Addr):a.add 0=a:=by simp[Addr.add]
theorem Inp.get {α:Type} {E:EncT α} {w0 w:World} {s:Sl} {xs:List α} {L:List Asn} (hi:Inp E w0 s xs) (h:Own w0.heap.size w0 w L) {j:Nat} {x:α} (hj:xs[j]?=some x):
  ∃a,s.a=some a/\∀c v,(E.enc x)[c]?=some v->w.cell? ((a.add (j*E.z)).add c)=some v:=by
 obtain ⟨a,h1,h2,h3⟩:=hi.got j x hj;refine ⟨a,h1,fun c v hv=>?_⟩;rw[h.below.cell (by rw[add_block,add_block];exact h2)];exact h3 c v hv
theorem Inp.get0 {α:Type} {E:EncT α} {w0 w:World} {s:Sl} {xs:List α} {L:List Asn} (hi:Inp E w0 s xs) (h:Own w0.heap.size w0 w L) {j:Nat} {x:α} (hj:xs[j]?=some x):
  ∃a,s.a=some a/\(∀v,(E.enc x)[0]?=some v->w.cell? (a.add (j*E.z))=some v)/\∀c v,(E.enc x)[c]?=some v->w.cell? ((a.add (j*E.z)).add c)=some v:=by
 obtain ⟨a,h1,h2⟩:=hi.get h hj;exact ⟨a,h1,fun v hv=>by have:=h2 0 v hv;rwa [add_nil] at this,h2⟩
theorem Inp.lt {α:Type} {E:EncT α} {w0:World} {s:Sl} {xs:List α} (h:Inp E w0 s xs) {i:Nat} (hi:(i:Int)<(s.len:Int)):∃x,xs[i]?=some x:=⟨_,gE (by have:=h.len;omega)⟩
end Go.Vc
namespace Go.Vc
open Go
def eqL (f:TypeId->List Value->List Value->Option Bool) (z:TypeId->Nat) (xs ys:List Value):List (TypeId × Nat)->Option Bool
 | []=>some true
 |(t,o)::r=>match f t ((xs.drop o).take (z t)) ((ys.drop o).take (z t)),eqL f z xs ys r with
  |some p,some q=>some (p&&q)
  |_,_=>none
def eqX (P:Program):Nat->TypeId->List Value->List Value->Option Bool
 |0,_,_,_=>none
 |d+1,t,xs,ys=>match P.underlying t with
  |some .bool=>(match xs,ys with| [.bool a],[.bool b]=>some (a==b)|_,_=>none)
  |some (.int _)=>(match xs,ys with| [.int k a],[.int k' b]=>if k=k' then some (a==b) else none|_,_=>none)
  |some .string=>(match xs,ys with| [.string a],[.string b]=>some (a==b)|_,_=>none)
  |some (.array n e)=>if Nat.beq (P.cellsOf e) 0 then none else eqL (eqX P d) P.cellsOf xs ys ((List.range n).map fun i=>(e,i*P.cellsOf e))
  |some (.struct fs)=>if P.stoodInHeld t||fs.any (fun f=>f.name== "_" ||Nat.beq (P.cellsOf f.type) 0) then none else eqL (eqX P d) P.cellsOf xs ys (fs.toList.map fun f=>(f.type,f.offset))
  |_=>none
def valX (P:Program) (t:TypeId) (xs:List Value):Value:=match P.underlying t with
 |some (.array _ _)|some (.struct _)=> .agg ⟨xs⟩
 |_=>xs.headD (.bool false)
theorem part_x {P:Program} {t:TypeId} {d:Nat} {xs ys:List Value} {o:Nat} {r:Bool} (z0:P.cellsOf t≠0) (h:eqX P d t ((xs.drop o).take (P.cellsOf t)) ys=some r∨eqX P d t ys ((xs.drop o).take (P.cellsOf t))=some r) (w:World):
  (part t ⟨xs⟩ o).run P w= .ok (valX P t ((xs.drop o).take (P.cellsOf t))) w:=by
 have key:∀v,(xs.drop o).take (P.cellsOf t)= [v]->xs[o]?=some v:=fun v hv=>by
  have:((xs.drop o).take (P.cellsOf t))[0]?=some v:=by rw[hv];rfl
  rw[List.getElem?_take,if_pos (by omega),List.getElem?_drop] at this;simpa using this
 cases d with
 |zero=>rcases h with h|h<;>simp[eqX] at h
 |succ d=>
  cases hu:P.underlying t with
  |none=>rcases h with h|h<;>simp[eqX,hu] at h
  |some k=>
   have hi:∃i,P.info? t=some i:=by
    cases hi:P.info? t with
    |none=>simp[Program.underlying,hi] at hu
    |some i=>exact ⟨i,rfl⟩
   obtain ⟨i,hi⟩:=hi
   have plain:(∃v,(xs.drop o).take (P.cellsOf t)= [v])->(∀n e,k≠ .array n e)->(∀fs,k≠ .struct fs)->(part t ⟨xs⟩ o).run P w= .ok (valX P t ((xs.drop o).take (P.cellsOf t))) w:=by
    intro ⟨v,hv⟩ n1 n2;have hx:=key v hv;have hx':(⟨xs⟩:Array Value)[o]?=some v:=by simpa using hx
    rw[hv];cases k<;>simp_all [part,isAgg,run_underlying hu,valX]
   cases k with
   |array n e=>
    simp[part,isAgg,run_underlying hu,run_sizeOf w hi,valX,hu,List.extract]
   |struct fs=>simp[part,isAgg,run_underlying hu,run_sizeOf w hi,valX,hu,List.extract]
   |bool=>
    refine plain ?_ (by intros;simp) (by intros;simp);rcases h with h|h<;>simp only[eqX,hu] at h<;>split at h<;>simp_all
   |int q=>
    refine plain ?_ (by intros;simp) (by intros;simp);rcases h with h|h<;>simp only[eqX,hu] at h<;>split at h<;>simp_all
   |string=>
    refine plain ?_ (by intros;simp) (by intros;simp);rcases h with h|h<;>simp only[eqX,hu] at h<;>split at h<;>simp_all
   |_=>rcases h with h|h<;>simp[eqX,hu] at h
theorem equalIn_x {P:Program}:∀(d:Nat) {t:TypeId} {xs ys:List Value} {r:Bool},eqX P d t xs ys=some r->∀(dd:Nat) (w:World),d≤dd->(Op.equalIn dd t (valX P t xs) (valX P t ys)).run P w= .ok r w:=by
 intro d
 induction d with
 |zero=>intro t xs ys r h;simp[eqX] at h
 |succ d ih=>
  intro t xs ys r h dd w hd;obtain ⟨dd,rfl⟩:∃n,dd=n+1:=⟨dd-1,by omega⟩
  cases hu:P.underlying t with
  |none=>simp[eqX,hu] at h
  |some k=>
   simp only[eqX,hu] at h;cases k with
   |bool=>
    simp only at h;split at h
    ·cases h;simp only[valX,hu,List.headD];exact run_equalIn_bool w dd t _ _ hu
    ·cases h
   |int q=>
    simp only at h;split at h
    ·split at h
     ·rename_i e;subst e;cases h;simp only[valX,hu,List.headD];exact run_equalIn_int w dd t _ _ _ _ hu
     ·cases h
    ·cases h
   |string=>
    simp only at h;split at h
    ·cases h;simp only[valX,hu,List.headD,beq_toListBytes];exact run_equalIn_string w dd t _ _ hu
    ·cases h
   |array n e=>
    simp only at h;split at h
    ·cases h
    ·rename_i hz
     have hz:P.cellsOf e≠0:=fun e=>hz (by rw[e];rfl)
     have hi:∃i,P.info? e=some i:=by
      cases hi:P.info? e with
      |none=>exfalso;apply hz;simp[Program.cellsOf,hi]
      |some i=>exact ⟨i,rfl⟩
     obtain ⟨i,hi⟩:=hi;simp only[valX,hu];rw[run_equalIn_array w dd _ _ hu hi];generalize List.range n=is at h
     induction is generalizing r with
     |nil=>simp only[List.map_nil,eqL,Option.some.injEq] at h;subst h;simp[Op.eqItems]
     |cons j is ihl=>
      simp only[List.map_cons,eqL] at h;cases hp:eqX P d e ((xs.drop (j*P.cellsOf e)).take (P.cellsOf e)) ((ys.drop (j*P.cellsOf e)).take (P.cellsOf e)) with
      |none=>rw[hp] at h;simp at h
      |some p=>
       cases hq:eqL (eqX P d) P.cellsOf xs ys (is.map fun i=>(e,i*P.cellsOf e)) with
       |none=>rw[hp,hq] at h;simp at h
       |some q=>
        rw[hp,hq] at h;simp only[Option.some.injEq] at h;subst h;simp only[Op.eqItems,Sem.run_bind,part_x hz (.inl hp),part_x hz (.inr hp),Result.andThen_ok,ih hp dd w (by omega)];cases p
        ·simp
        ·simp only[Bool.not_true,Bool.false_eq_true,if_false,Bool.true_and];exact ihl hq
   |struct fs=>
    simp only at h;split at h
    ·cases h
    ·rename_i hc
     simp only[Bool.or_eq_true,not_or,Bool.not_eq_true] at hc;obtain ⟨hst,hfs⟩:=hc;have hf:P.fieldsOf t=fs:=by simp[Program.fieldsOf,hu]
     simp only[valX,hu];rw[run_equalIn_struct w dd t _ _ (by rw[hf];exact hu) hst,hf]
     have hfs:∀f∈fs.toList,f.name≠ "_" /\P.cellsOf f.type≠0:=fun f hf'=>by
      have:=(Array.any_eq_false'.1 hfs) f (Array.mem_toList_iff.1 hf');simp only[Bool.or_eq_true,beq_iff_eq,not_or] at this;exact ⟨this.1,fun e=>this.2 (by rw[e];rfl)⟩
     generalize fs.toList=ls at h hfs
     induction ls generalizing r with
     |nil=>simp only[List.map_nil,eqL,Option.some.injEq] at h;subst h;simp[Op.eqFields]
     |cons f ls ihl=>
      simp only[List.map_cons,eqL] at h;obtain ⟨hn,hz⟩:=hfs f (by simp);cases hp:eqX P d f.type ((xs.drop f.offset).take (P.cellsOf f.type)) ((ys.drop f.offset).take (P.cellsOf f.type)) with
      |none=>rw[hp] at h;simp at h
      |some p=>
       cases hq:eqL (eqX P d) P.cellsOf xs ys (ls.map fun f=>(f.type,f.offset)) with
       |none=>rw[hp,hq] at h;simp at h
       |some q=>
        rw[hp,hq] at h;simp only[Option.some.injEq] at h;subst h;simp only[Op.eqFields,hn,ne_eq,not_false_iff,if_true,Sem.run_bind,part_x hz (.inl hp),part_x hz (.inr hp),Result.andThen_ok,ih hp dd w (by omega)];cases p
        ·simp
        ·simp only[Bool.not_true,Bool.false_eq_true,if_false,Bool.true_and];exact ihl hq fun f hf'=>hfs f (by simp[hf'])
   |_=>simp at h
theorem eqB_x {P:Program} {t:TypeId} {x y:Operand} {xs ys:List Value} {r:Bool} (ha:valX P t xs= .agg ⟨xs⟩) (hb:valX P t ys= .agg ⟨ys⟩) (hg:P.eqGuardType P.depth t=false) (h:eqX P 9 t xs ys=some r):EqB P .eql t x y (.agg ⟨xs⟩) (.agg ⟨ys⟩) r:=by
 intro w;have:=equalIn_x 9 h 10000 w (by decide);rw[ha,hb] at this;simp only[Sem.run_bind,run_eqGuard_agg w .eql t x y _ _ hg,Result.andThen_ok,run_eql_struct,this]
theorem neB_x {P:Program} {t:TypeId} {x y:Operand} {xs ys:List Value} {r:Bool} (ha:valX P t xs= .agg ⟨xs⟩) (hb:valX P t ys= .agg ⟨ys⟩) (hg:P.eqGuardType P.depth t=false) (h:eqX P 9 t xs ys=some r):EqB P .neq t x y (.agg ⟨xs⟩) (.agg ⟨ys⟩) (!r):=by
 intro w;have:=equalIn_x 9 h 10000 w (by decide);rw[ha,hb] at this;simp only[Sem.run_bind,run_eqGuard_agg w .neq t x y _ _ hg,Result.andThen_ok,run_neq_struct,this]
end Go.Vc
namespace Go.Vc
open Go Go.ChangeShapes Go.WideShapes
inductive SK
 |int (k:IntKind)|bool|str
def SK.fit:SK->Value->Prop
 | .int k,v=>∃n,v= .int k n/\(Lit.int k n).wf=true
 | .bool,v=>∃b,v= .bool b
 | .str,v=>∃s:ByteArray,v= .string s/\s.size≤maxLen
def flatF (f:TypeId->Option (List SK)):List (TypeId × Nat)->Nat->Option (List SK)
 | [],_=>some []
 |(t,o')::r,o=>if Nat.beq o' o then (match f t with|some ks=>(flatF f r (o+ks.length)).map (ks++·)|none=>none) else none
def flatK (P:Program):Nat->TypeId->Option (List SK)
 |0,_=>none
 |d+1,t=>match P.underlying t with
  |some (.int k)=>some [.int k]
  |some .bool=>some [.bool]
  |some .string=>some [.str]
  |some (.struct fs)=>(match flatF (flatK P d) (fs.toList.map fun f=>(f.type,f.offset)) 0 with|some ks=>if Nat.beq ks.length (P.cellsOf t) then some ks else none|none=>none)
  |some (.array n e)=>(match flatF (flatK P d) ((List.range n).map fun i=>(e,i*P.cellsOf e)) 0 with|some ks=>if Nat.beq ks.length (P.cellsOf t) then some ks else none|none=>none)
  |_=>none
inductive Fits:List SK->List Value->Prop
 |nil:Fits [] []
 |cons {k:SK} {v:Value} {ks:List SK} {vs:List Value} (h:k.fit v) (hs:Fits ks vs):Fits (k::ks) (v::vs)
theorem Fits.length {ks:List SK} {vs:List Value} (h:Fits ks vs):vs.length=ks.length:=by induction h<;>simp_all
theorem Fits.append {ks ks':List SK} {vs vs':List Value} (h:Fits ks vs) (h':Fits ks' vs'):Fits (ks++ks') (vs++vs'):=by
 induction h with
 |nil=>exact h'
 |cons h _ ih=>exact .cons h ih
theorem Fits.cons_out {k:SK} {ks:List SK} {vs:List Value} (h:Fits (k::ks) vs):∃v vs',vs=v::vs'/\k.fit v/\Fits ks vs':=by
 cases h with
 |cons h hs=>exact ⟨_,_,rfl,h,hs⟩
theorem okF_out {P:Program} {f:FuncId} {p:Prop} (h:okF P f p):p:=by
 unfold okF at h;split at h
 ·exact h.elim
 ·split at h
  ·exact h.elim
  ·exact h
end Go.Vc
namespace Go.Vc
open Go
open Go.ChangeMaps (setBlock)
structure IterR {K V:Type} (enc:K->Value) (encV:V->Value) (w:World) (m it:Nat) (M left:List (K × V)):Prop where
 ex:∃es c since seen c0,MBlk w m es c/\es.toList.map (fun e=>(e.key,e.val))=M.map (fun p=>(enc p.1,encV p.2))/\(es.toList.map (·.born)).Nodup/\(∀e∈es.toList,e.born<c)/\
  w.heap[it]?=some (.mapIter (some m) since seen c0)/\(∀e∈es.toList,e.born<since)/\since≤c0/\since≤c/\
  (leftOf es seen).toList.map (fun e=>(e.key,e.val))=left.map (fun p=>(enc p.1,encV p.2))
 nodup:(M.map (·.1)).Nodup
 sub:left.Sublist M
def IterA {K V:Type} (enc:K->Value) (encV:V->Value) (m it:Nat) (M left:List (K × V)):Asn where
 holds G w:=(G m/\G it)/\IterR enc encV w m it M left
 loc G w w' h hk:=⟨h.1,by
  obtain ⟨es,c,since,seen,c0,h1,h2,h3,h4,h5,h6⟩:=h.2.ex;exact ⟨⟨es,c,since,seen,c0,by unfold MBlk at *;rw[hk m h.1.1];exact h1,h2,h3,h4,by rw[hk it h.1.2];exact h5,h6⟩,h.2.nodup,h.2.sub⟩⟩
 up G G' w h hk:=⟨⟨hk _ h.1.1,hk _ h.1.2⟩,h.2⟩
theorem filter_born:∀(l:List MapEntry) (j:Nat) (e:MapEntry),(l.map (·.born)).Nodup->l[j]?=some e->l.filter (fun x=>x.born !=e.born)=l.eraseIdx j
 | [],j,e,_,h=>by simp at h
 |a::l,0,e,hn,h=>by
  simp only[List.getElem?_cons_zero,Option.some.injEq] at h;subst h;rw[List.map_cons,List.nodup_cons] at hn;rw[List.filter_cons];simp only[bne_self_eq_false,Bool.false_eq_true,if_false,List.eraseIdx_cons_zero,List.filter_eq_self,bne_iff_ne,ne_eq];intro x hx e';exact hn.1 (List.mem_map.2 ⟨x,hx,e'⟩)
 |a::l,j+1,e,hn,h=>by
  rw[List.map_cons,List.nodup_cons] at hn;rw[List.getElem?_cons_succ] at h
  have hne:(a.born !=e.born)=true:=by
   simp only[bne_iff_ne,ne_eq];intro e';exact hn.1 (List.mem_map.2 ⟨e,List.mem_of_getElem? h,e'.symm⟩)
  rw[List.filter_cons,hne,if_pos rfl,List.eraseIdx_cons_succ,filter_born l j e hn.2 h]
section
variable {P:Program} {B:Nat} {w0 w:World} {L R:List Asn} {K V:Type} {enc:K->Value} {encV:V->Value} {m:Nat} {M:List (K × V)}
theorem Own.range {T kt el:TypeId} {C:Addr->World->Prop} (hu:P.underlying T=some (.map kt el)) (h:Own B w0 w L) (i:Nat) (hi:L[i]?=some (MapA enc encV m M)) (hC:∀w',Own B w0 w' (L.set i (IterA enc encV m w.heap.size M M))->C ⟨w.heap.size,0,none⟩ w'):
  ∃(it:Addr) (w':World),RangeR P T (.map (some m)) w it w'/\C it w':=by
 have hM:MapR enc encV w m M:=(h.take i hi).head fun _ h=>h.2
 obtain ⟨es,c,h1,h2,h3,h4⟩:=hM.ex;refine ⟨_,_,run_range_map w T kt el m es c hu h1,hC _ (((h.take i hi).step (A':=IterA enc encV m w.heap.size M M) fun G hA hG=>?_).put (lt_of_get hi))⟩;have hu':=upd_alloc w (.mapIter (some m) c #[] c);refine ⟨hu'.of_no,fun k=>G k∨k=w.heap.size,⟨⟨.inl hA.1, .inr rfl⟩,⟨⟨es,c,c, #[],c,h1.upd hu' (fun h=>h),h2,h3,h4,heap_alloc_new _ _,h4,Nat.le_refl _,Nat.le_refl _, ?_⟩,hM.nodup,List.Sublist.refl _⟩⟩,fun k hk=>?_⟩
 ·have:leftOf es #[]=es:=by unfold leftOf;simp
  rw[this];exact h2
 ·have hsz:(w.alloc (.mapIter (some m) c #[] c)).heap.size=w.heap.size+1:=by show (w.heap.push _).size=_;simp
  rcases hk with hk|hk
  ·exact ⟨.inl hk,by have:=(hG k hk).2;omega⟩
  ·exact ⟨.inr (by omega),by omega⟩
theorem upd_setBlock (w:World) (r:Nat) (o:Obj):Upd (·=r) w (setBlock w r o):=by
 refine ⟨rfl,rfl,rfl,by simp[setBlock],fun k hk hn=>?_⟩;simp[setBlock,Array.getElem?_setIfInBounds_ne (show r≠k from fun e=>hn e.symm)]
theorem Own.next {ty:TypeId} {it:Nat} {left:List (K × V)} {C:Bool->List Value->World->Prop} (h:Own B w0 w L) (i:Nat) (hi:L[i]?=some (IterA enc encV m it M left))
  (hend:left= []->C false [] w)
  (hgo:∀(j:Nat) (k:K) (v:V) (w':World),left[j]?=some (k,v)->Own B w0 w' (L.set i (IterA enc encV m it M (left.eraseIdx j)))->EntryR P (.pointer (some ⟨it,0,none⟩)) (enc k) (encV v) w'->C true [enc k,encV v] w'):
  ∃(more:Bool) (l:List Value) (w':World),NextR P (.pointer (some ⟨it,0,none⟩)) false ty w more l w'/\C more l w':=by
 have hM:IterR enc encV w m it M left:=(h.take i hi).head fun _ h=>h.2
 obtain ⟨es,c,since,seen,c0,h1,h2,h3,h4,h5,h6,h7,h8,h9⟩:=hM.ex;rcases run_next_at (P:=P) w ty it m since c0 seen es c h5 h1 h6 h7 with ⟨hsz,hrun⟩|⟨e,he,w1,hw1,hrun⟩
 ·refine ⟨false,[],w,hrun,hend ?_⟩
  have:(leftOf es seen).toList= []:=List.eq_nil_of_length_eq_zero (by simpa using hsz);rw[this] at h9;simpa using h9.symm
 ·obtain ⟨j,hj⟩:=List.getElem?_of_mem he
  have hkv:=congrArg (fun l=>l[j]?) h9;simp only[List.getElem?_map,hj,Option.map_some] at hkv;cases hl:left[j]? with
  |none=>rw[hl] at hkv;cases hkv
  |some p=>
   rw[hl] at hkv;simp only[Option.map_some,Option.some.injEq,Prod.mk.injEq] at hkv
   have hu1:Upd No w w1:=by
    rcases hw1 with rfl|rfl
    ·exact Upd.refl _ _
    ·exact upd_heap rfl rfl rfl rfl
   have hmem:e∈es.toList:=by
    have:=Array.mem_toList_iff.1 he;unfold leftOf at this;exact Array.mem_toList_iff.2 (Array.mem_filter.1 this).1
   have hne:m≠it:=fun e'=>by subst e';rw[h1] at h5;cases h5
   have hset:(setBlock w1 it (.mapIter (some m) since (seen.push e.born) c)).heap[it]?=some (.mapIter (some m) since (seen.push e.born) c):=by
    have hlt:it<w1.heap.size:=by
     have:=(Array.getElem?_eq_some_iff.1 h5).1;exact Nat.lt_of_lt_of_le this hu1.size
    simp[setBlock,Array.getElem?_setIfInBounds_self_of_lt hlt]
   have hu2:=upd_setBlock w1 it (.mapIter (some m) since (seen.push e.born) c);have hm2:MBlk (setBlock w1 it (.mapIter (some m) since (seen.push e.born) c)) m es c:=(h1.upd hu1 (fun h=>h)).upd hu2 hne
   have hleft:(leftOf es (seen.push e.born)).toList.map (fun e=>(e.key,e.val))=(left.eraseIdx j).map (fun p=>(enc p.1,encV p.2)):=by
    have e1:(leftOf es (seen.push e.born)).toList=(leftOf es seen).toList.filter fun x=>x.born !=e.born:=by
     unfold leftOf;rw[Array.toList_filter,Array.toList_filter,List.filter_filter];congr 1;funext x;rw[Array.contains_push];cases hq:(x.born==e.born)<;>simp[bne,hq]
    have hnd:((leftOf es seen).toList.map (·.born)).Nodup:=by
     unfold leftOf;rw[Array.toList_filter];exact h3.sublist (List.filter_sublist.map _)
    rw[e1,filter_born _ j e hnd hj,map_erase,map_erase,h9]
   refine ⟨true,[e.key,e.val],_,hrun, ?_⟩;rw[hkv.1,hkv.2];refine hgo j p.1 p.2 _ hl (((h.take i hi).step (A':=IterA enc encV m it M (left.eraseIdx j)) fun G hA hG=>⟨?_,G,⟨hA.1,⟨⟨es,c,since,seen.push e.born,c,hm2,h2,h3,h4,hset,h6,h8,h8,hleft⟩,hM.nodup, ?_⟩⟩,fun k hk=>⟨.inl hk, ?_⟩⟩).put (lt_of_get hi)) ?_
   ·exact (hu1.of_no (F:=G)).then (hu2.mono fun k _ e'=>by rw[e'];exact hA.1.2)
   ·exact (List.eraseIdx_sublist _ _).trans hM.sub
   ·exact Nat.lt_of_lt_of_le (hG k hk).2 (Nat.le_trans hu1.size hu2.size)
   ·have:=run_entry_at (P:=P) _ it m since seen es c e hset hm2 hmem h3
    rw[hkv.1,hkv.2] at this;exact this
end
end Go.Vc
namespace Go.Vc
open Go
section
variable {P:Program}
theorem findAsking_run {K:Type} [DecidableEq K] {kt:TypeId} {enc:K->Value} (heq:∀k x w,(Op.equal kt (enc k) (enc x)).run P w= .ok (decide (x=k)) w) (k:K):∀(es:List MapEntry) (ks:List K) (j:Nat) (w:World),es.map (·.key)=ks.map enc->
  (Instr.findAsking kt (enc k) es j).run P w= .ok ((ks.findIdx? fun x=>decide (x=k)).bind fun i=>(es[i]?).map fun e=>(j+i,e.val)) w
 | [],ks,j,w,h=>by
  cases ks with
  |nil=>simp[Instr.findAsking]
  |cons _ _=>simp at h
 |e::es,ks,j,w,h=>by
  cases ks with
  |nil=>simp at h
  |cons x ks=>
   simp only[List.map_cons,List.cons.injEq] at h;simp only[Instr.findAsking,Sem.run_bind,h.1,heq,Result.andThen_ok];by_cases hx:x=k
   ·subst hx;simp[List.findIdx?_cons]
   ·simp only[hx,decide_false,Bool.false_eq_true,if_false]
    rw[findAsking_run heq k es ks (j+1) w h.2];simp only[List.findIdx?_cons,hx,decide_false,Bool.false_eq_true,if_false];cases hq:ks.findIdx? (fun x=>decide (x=k)) with
    |none=>rfl
    |some q=>
     simp only[Option.bind_some,Option.map_some,List.getElem?_cons_succ];congr 3;funext e;congr 1;omega
def encPair (p:Int × Int):Value:= .agg #[.int .i64 p.1, .int .i64 p.2]
theorem keyOk_pair {kt:TypeId} {f0 f1:Field} (hu:P.underlying kt=some (.struct #[f0,f1])) (h0:P.underlying f0.type=some (.int .i64)) (h1:P.underlying f1.type=some (.int .i64)) (n0:f0.name≠ "_") (n1:f1.name≠ "_") (o0:f0.offset=0) (o1:f1.offset=1)
  (heq:∀a b c d:Int,eqX P 9 kt [.int .i64 a, .int .i64 b] [.int .i64 c, .int .i64 d]=some (a==c&&(b==d&&true))):KeyOk P kt encPair:=by
 refine ⟨fun em k w=>?_,fun k es ks w h=>?_,fun k=>by unfold Instr.sameBits encPair;simp[Instr.sameBits]⟩
 ·have p0:(part f0.type #[Value.int .i64 k.1, .int .i64 k.2] f0.offset).run P w= .ok (.int .i64 k.1) w:=run_part_plain w (by simp[Program.plainKey,h0]) (by rw[o0];rfl)
  have p1:(part f1.type #[Value.int .i64 k.1, .int .i64 k.2] f1.offset).run P w= .ok (.int .i64 k.2) w:=run_part_plain w (by simp[Program.plainKey,h1]) (by rw[o1];rfl)
  have c0:∀n v,(Instr.checkKey em (n+1) f0.type (.int .i64 v)).run P w= .ok () w:=fun n v=>by
   unfold Instr.checkKey;rw[Sem.run_bind,run_underlying h0];rfl
  have c1:∀n v,(Instr.checkKey em (n+1) f1.type (.int .i64 v)).run P w= .ok () w:=fun n v=>by
   unfold Instr.checkKey;rw[Sem.run_bind,run_underlying h1];rfl
  unfold Instr.checkKey encPair;rw[Sem.run_bind,run_underlying hu];simp only[Result.andThen_ok];rw[←Array.forIn_toList];simp[n0,n1,Sem.run_bind,p0,p1,c0,c1]
 ·have heq':∀(k x:Int × Int) (w:World),(Op.equal kt (encPair k) (encPair x)).run P w= .ok (decide (x=k)) w:=fun k x w=>by
   have:=equalIn_x 9 (heq k.1 k.2 x.1 x.2) 10000 w (by decide);have e:∀p:Int × Int,valX P kt [.int .i64 p.1, .int .i64 p.2]=encPair p:=fun p=>by simp[valX,hu,encPair]
   rw[e k,e x] at this;show (Op.equalIn 10000 kt (encPair k) (encPair x)).run P w=_;rw[this];congr 1;rw[Bool.eq_iff_iff];simp only[Bool.and_true,Bool.and_eq_true,beq_iff_eq,decide_eq_true_eq,Prod.ext_iff];constructor
   ·rintro ⟨h1,h2⟩;exact ⟨h1.symm,h2.symm⟩
   ·rintro ⟨h1,h2⟩;exact ⟨h1.symm,h2.symm⟩
  rw[run_findKey_eq w (by simp[hu])];have:=findAsking_run heq' k es ks 0 w h;simpa using this
end
end Go.Vc
namespace Go.Vc
open Go
theorem set_putAt {l:List Value} {o:Nat} {v:Value} {vs:List Value} (h:o+(vs.length+1)≤l.length):putAt (l.set o v) (o+1) vs=putAt l o (v::vs):=by
 apply List.ext_getElem?;intro i;rw[putAt_get _ _ _ _ (by rw[List.length_set];omega),putAt_get _ _ _ _ (by simpa using h)];simp only[List.length_cons,List.getElem?_set];by_cases e:o=i
 ·subst e
  rw[if_neg (by omega),if_pos rfl,if_pos (by omega),if_pos (by omega),Nat.sub_self];rfl
 ·by_cases e2:o+1≤i/\i<o+1+vs.length
  ·rw[if_pos e2,if_pos (by omega),show i-o=(i-(o+1))+1 from by omega,List.getElem?_cons_succ]
  ·rw[if_neg e2,if_neg e,if_neg (by omega)]
theorem StL.mk' {b:Nat}:∀(vs:List Value) {w:World} {o p:Nat} {l:List Value} {k:World->Prop},Blk w b l->o+p+vs.length≤l.length->vs.all Value.oneCell'=true->
  (∀w',Upd (·=b) w w'->w'.heap.size=w.heap.size->Blk w' b (putAt l (o+p) vs)->k w')->StL w ⟨b,o,none⟩ p vs k
 | [],w,o,p,l,k,hb,_,_,hk=>hk w (Upd.refl _ _) rfl (by rw[putAt_nil];exact hb)
 |v::vs,w,o,p,l,k,hb,hl,hone,hk=>by
  simp only[List.all_cons,Bool.and_eq_true] at hone;simp only[List.length_cons] at hl;show St w ((Addr.mk b o none).add p) v _;rw[add_mk];refine St.mk' hb (by omega) hone.1 fun w' hu hs hb'=>?_
  refine StL.mk' vs hb' (by rw[List.length_set];omega) hone.2 fun w2 hu2 hs2 hb2=>?_
  refine hk w2 (hu.then hu2) (hs2.trans hs) ?_;rw[show o+(p+1)=o+p+1 from by omega,set_putAt (by omega)] at hb2;exact hb2
theorem putAt_len {l:List Value} {o:Nat} {vs:List Value} (h:o+vs.length≤l.length):(putAt l o vs).length=l.length:=by
 apply Nat.le_antisymm
 ·refine Nat.le_of_not_lt fun hlt=>?_
  have:=putAt_get l o vs l.length h;rw[if_neg (by omega),List.getElem?_eq_none (Nat.le_refl _)] at this;rw[gE hlt] at this;cases this
 ·refine Nat.le_of_not_lt fun hlt=>?_
  have:=putAt_get l o vs (putAt l o vs).length h;rw[List.getElem?_eq_none (Nat.le_refl _)] at this;split at this
  ·rename_i h2
   rw[gE (by omega)] at this;cases this
  ·rw[gE hlt] at this;cases this
section
variable {P:Program} {B:Nat} {w0 w:World} {L R:List Asn} {α:Type} {E:EncT α}
theorem Own.stL {b o:Nat} {l vs:List Value} {k:World->Prop} (h:Own B w0 w L) (i:Nat) (hi:L[i]?=some (BlkA b l)) (hle:Nat.ble (o+vs.length) l.length=true) (hone:vs.all Value.oneCell'=true)
  (hk:∀w',Own B w0 w' (L.set i (BlkA b (putAt l o vs)))->k w'):StL w ⟨b,o,none⟩ 0 vs k:=
 StL.mk' vs (h.blk i hi) (Nat.le_of_ble_eq_true hle) hone fun w' hu hs hb=>hk w' (((h.take i hi).step (A':=BlkA b (putAt l o vs)) fun G hA hG=>⟨hu.mono fun k _ e=>by rw[e];exact hA.1,G,⟨hA.1,hb⟩,fun k hk=>⟨.inl hk,by have:=(hG k hk).2;omega⟩⟩).put (lt_of_get hi))
theorem Own.stEL {s:Sl} {xs:List α} {k:World->Prop} (h:Own B w0 w L) (i:Nat) (hi:L[i]?=some (SlT E s xs)) {j:Nat} (hj:j<xs.length) (x:α) {b o:Nat} (ha:s.a=some ⟨b,o,none⟩)
  (hk:∀w',Own B w0 w' (L.set i (SlT E s (xs.set j x)))->k w'):StL w ⟨b,o+j*E.z,none⟩ 0 (E.enc x) k:=by
 have hone:(E.enc x).all Value.oneCell'=true:=List.all_eq_true.2 fun v hv=>E.one x v hv
 have hs:=h.slO i hi;have hl:=h.len i hi;cases hs with
 |nil ha' _ _ _=>rw[ha'] at ha;cases ha
 |mk b' o' l ha' hb hle hc hcs=>
  rw[ha'] at ha;simp only[Option.some.injEq,Addr.mk.injEq,and_true] at ha;obtain ⟨rfl,rfl⟩:=ha;have hfl:=flat_len E xs;have hlx:=E.len x;have m1:(j+1)*E.z≤xs.length*E.z:=Nat.mul_le_mul_right _ (by omega);rw[Nat.succ_mul] at m1;have m2:s.len*E.z≤s.cap*E.z:=Nat.mul_le_mul_right _ hle;rw[hl] at m2;have hfit:o'+j*E.z+(E.enc x).length≤l.length:=by rw[hlx];omega
  refine StL.mk' (E.enc x) (o:=o'+j*E.z) (p:=0) hb (by simpa using hfit) hone fun w' hu hsz hb'=>hk w' (((h.take i hi).step (A':=SlT E s (xs.set j x)) fun G hA hG=>⟨hu.mono fun k _ e=>by rw[e];exact hA.1 _ ha',G,⟨hA.1,by simpa using hl, ?_⟩,fun k hk=>⟨.inl hk,by have:=(hG k hk).2;omega⟩⟩).put (lt_of_get hi))
  refine .mk b' o' _ ha' hb' hle (by rw[putAt_len (by simpa using hfit)];exact hc) ?_;rw[flat_set E xs j x hj,hcs,Nat.add_zero];apply List.ext_getElem?;intro t;have hlen2:((l.drop o').take (s.len*E.z)).length=xs.length*E.z:=by rw[←hcs];exact hfl
  rw[putAt_get _ _ _ _ (by rw[hlen2,hlx];omega),List.getElem?_take,List.getElem?_take,List.getElem?_drop,List.getElem?_drop,putAt_get _ _ _ _ hfit,hlx];have hz:s.len*E.z=xs.length*E.z:=by rw[hl]
  by_cases e:j*E.z≤t/\t<j*E.z+E.z
  ·rw[if_pos e,if_pos (by omega),if_pos (by omega)]
   congr 1;omega
  ·rw[if_neg e]
   split
   ·rw[if_neg (by omega)]
   ·rfl
theorem Own.stF {s:Sl} {xs:List α} {k:World->Prop} {x:α} {v:Value} (h:Own B w0 w L) (i:Nat) (hi:L[i]?=some (SlT E s xs)) {j c:Nat} (hj:xs[j]?=some x) (x':α) (hx:E.enc x'=(E.enc x).set c v) (hc:c<E.z) (hv:v.oneCell'=true) {b o:Nat} (ha:s.a=some ⟨b,o,none⟩)
  (hk:∀w',Own B w0 w' (L.set i (SlT E s (xs.set j x')))->k w'):St w ⟨b,o+j*E.z+c,none⟩ v k:=by
 have hs:=h.slO i hi;have hl:=h.len i hi;have hjl:=(List.getElem?_eq_some_iff.1 hj).1;cases hs with
 |nil ha' _ _ _=>rw[ha'] at ha;cases ha
 |mk b' o' l ha' hb hle hc' hcs=>
  rw[ha'] at ha;simp only[Option.some.injEq,Addr.mk.injEq,and_true] at ha;obtain ⟨rfl,rfl⟩:=ha;have hfl:=flat_len E xs;have hlx:=E.len x;have hlx':=E.len x';have m1:(j+1)*E.z≤xs.length*E.z:=Nat.mul_le_mul_right _ (by omega);rw[Nat.succ_mul] at m1;have m2:s.len*E.z≤s.cap*E.z:=Nat.mul_le_mul_right _ hle;rw[hl] at m2;refine St.mk' hb (by omega) hv fun w' hu hsz hb'=>hk w' (((h.take i hi).step (A':=SlT E s (xs.set j x')) fun G hA hG=>⟨hu.mono fun k _ e=>by rw[e];exact hA.1 _ ha',G,⟨hA.1,by simpa using hl, ?_⟩,fun k hk=>⟨.inl hk,by have:=(hG k hk).2;omega⟩⟩).put (lt_of_get hi))
  refine .mk b' o' _ ha' hb' hle (by rw[List.length_set];exact hc') ?_;rw[flat_set E xs j x' hjl];apply List.ext_getElem?;intro t;rw[putAt_get _ _ _ _ (by rw[hfl,hlx'];omega),hlx',List.getElem?_take,List.getElem?_drop,List.getElem?_set];have hz:s.len*E.z=xs.length*E.z:=by rw[hl]
  have hold:(xs.flatMap E.enc)[t]?=if t<s.len*E.z then l[o'+t]? else none:=by rw[hcs,List.getElem?_take,List.getElem?_drop]
  by_cases e:j*E.z≤t/\t<j*E.z+E.z
  ·rw[if_pos e,hx,List.getElem?_set,hlx]
   have hg:=flat_get E xs j (t-j*E.z) x hj (by omega);rw[show j*E.z+(t-j*E.z)=t from by omega,hold,if_pos (by omega)] at hg;rw[if_pos (show t<s.len*E.z by omega),←hg];by_cases e2:c=t-j*E.z
   ·rw[if_pos e2,if_pos hc,if_pos (by omega),if_pos (by omega)]
   ·rw[if_neg e2,if_neg (by omega)]
  ·rw[if_neg e,hold]
   split
   ·rw[if_neg (by omega)]
   ·rfl
theorem Own.ld_2 {b o:Nat} {l:List Value} {c0 c1:Sc} {x0:c0.D} {x1:c1.D} {f:c0.D->c1.D->Prop} (h:Own B w0 w L) (i:Nat) (hi:L[i]?=some (BlkA b l)) (hl:(l.drop o).take 2= [c0.mk x0,c1.mk x1]) (hf:f x0 x1):LdL w ⟨b,o,none⟩ 0 [c0,c1] f:=by
 have g:∀j,j<2->w.cell? ((Addr.mk b o none).add j)= [c0.mk x0,c1.mk x1][j]?:=fun j hj=>by rw[add_mk,(h.blk i hi).cell,←hl,List.getElem?_take,if_pos hj,List.getElem?_drop]
 exact ⟨_,g 0 (by decide),_,g 1 (by decide),hf⟩
theorem Own.ld_3 {b o:Nat} {l:List Value} {c0 c1 c2:Sc} {x0:c0.D} {x1:c1.D} {x2:c2.D} {f:c0.D->c1.D->c2.D->Prop} (h:Own B w0 w L) (i:Nat) (hi:L[i]?=some (BlkA b l)) (hl:(l.drop o).take 3= [c0.mk x0,c1.mk x1,c2.mk x2]) (hf:f x0 x1 x2):LdL w ⟨b,o,none⟩ 0 [c0,c1,c2] f:=by
 have g:∀j,j<3->w.cell? ((Addr.mk b o none).add j)= [c0.mk x0,c1.mk x1,c2.mk x2][j]?:=fun j hj=>by rw[add_mk,(h.blk i hi).cell,←hl,List.getElem?_take,if_pos hj,List.getElem?_drop]
 exact ⟨_,g 0 (by decide),_,g 1 (by decide),_,g 2 (by decide),hf⟩
theorem Own.ld_4 {b o:Nat} {l:List Value} {c0 c1 c2 c3:Sc} {x0:c0.D} {x1:c1.D} {x2:c2.D} {x3:c3.D} {f:c0.D->c1.D->c2.D->c3.D->Prop} (h:Own B w0 w L) (i:Nat) (hi:L[i]?=some (BlkA b l)) (hl:(l.drop o).take 4= [c0.mk x0,c1.mk x1,c2.mk x2,c3.mk x3]) (hf:f x0 x1 x2 x3):LdL w ⟨b,o,none⟩ 0 [c0,c1,c2,c3] f:=by
 have g:∀j,j<4->w.cell? ((Addr.mk b o none).add j)= [c0.mk x0,c1.mk x1,c2.mk x2,c3.mk x3][j]?:=fun j hj=>by rw[add_mk,(h.blk i hi).cell,←hl,List.getElem?_take,if_pos hj,List.getElem?_drop]
 exact ⟨_,g 0 (by decide),_,g 1 (by decide),_,g 2 (by decide),_,g 3 (by decide),hf⟩
theorem Own.ld_6 {b o:Nat} {l:List Value} {c0 c1 c2 c3 c4 c5:Sc} {x0:c0.D} {x1:c1.D} {x2:c2.D} {x3:c3.D} {x4:c4.D} {x5:c5.D} {f:c0.D->c1.D->c2.D->c3.D->c4.D->c5.D->Prop} (h:Own B w0 w L) (i:Nat) (hi:L[i]?=some (BlkA b l)) (hl:(l.drop o).take 6= [c0.mk x0,c1.mk x1,c2.mk x2,c3.mk x3,c4.mk x4,c5.mk x5]) (hf:f x0 x1 x2 x3 x4 x5):LdL w ⟨b,o,none⟩ 0 [c0,c1,c2,c3,c4,c5] f:=by
 have g:∀j,j<6->w.cell? ((Addr.mk b o none).add j)= [c0.mk x0,c1.mk x1,c2.mk x2,c3.mk x3,c4.mk x4,c5.mk x5][j]?:=fun j hj=>by rw[add_mk,(h.blk i hi).cell,←hl,List.getElem?_take,if_pos hj,List.getElem?_drop]
 exact ⟨_,g 0 (by decide),_,g 1 (by decide),_,g 2 (by decide),_,g 3 (by decide),_,g 4 (by decide),_,g 5 (by decide),hf⟩
theorem Own.ld_7 {b o:Nat} {l:List Value} {c0 c1 c2 c3 c4 c5 c6:Sc} {x0:c0.D} {x1:c1.D} {x2:c2.D} {x3:c3.D} {x4:c4.D} {x5:c5.D} {x6:c6.D} {f:c0.D->c1.D->c2.D->c3.D->c4.D->c5.D->c6.D->Prop} (h:Own B w0 w L) (i:Nat) (hi:L[i]?=some (BlkA b l)) (hl:(l.drop o).take 7= [c0.mk x0,c1.mk x1,c2.mk x2,c3.mk x3,c4.mk x4,c5.mk x5,c6.mk x6]) (hf:f x0 x1 x2 x3 x4 x5 x6):LdL w ⟨b,o,none⟩ 0 [c0,c1,c2,c3,c4,c5,c6] f:=by
 have g:∀j,j<7->w.cell? ((Addr.mk b o none).add j)= [c0.mk x0,c1.mk x1,c2.mk x2,c3.mk x3,c4.mk x4,c5.mk x5,c6.mk x6][j]?:=fun j hj=>by rw[add_mk,(h.blk i hi).cell,←hl,List.getElem?_take,if_pos hj,List.getElem?_drop]
 exact ⟨_,g 0 (by decide),_,g 1 (by decide),_,g 2 (by decide),_,g 3 (by decide),_,g 4 (by decide),_,g 5 (by decide),_,g 6 (by decide),hf⟩
theorem Own.ld_8 {b o:Nat} {l:List Value} {c0 c1 c2 c3 c4 c5 c6 c7:Sc} {x0:c0.D} {x1:c1.D} {x2:c2.D} {x3:c3.D} {x4:c4.D} {x5:c5.D} {x6:c6.D} {x7:c7.D} {f:c0.D->c1.D->c2.D->c3.D->c4.D->c5.D->c6.D->c7.D->Prop} (h:Own B w0 w L) (i:Nat) (hi:L[i]?=some (BlkA b l)) (hl:(l.drop o).take 8= [c0.mk x0,c1.mk x1,c2.mk x2,c3.mk x3,c4.mk x4,c5.mk x5,c6.mk x6,c7.mk x7]) (hf:f x0 x1 x2 x3 x4 x5 x6 x7):LdL w ⟨b,o,none⟩ 0 [c0,c1,c2,c3,c4,c5,c6,c7] f:=by
 have g:∀j,j<8->w.cell? ((Addr.mk b o none).add j)= [c0.mk x0,c1.mk x1,c2.mk x2,c3.mk x3,c4.mk x4,c5.mk x5,c6.mk x6,c7.mk x7][j]?:=fun j hj=>by rw[add_mk,(h.blk i hi).cell,←hl,List.getElem?_take,if_pos hj,List.getElem?_drop]
 exact ⟨_,g 0 (by decide),_,g 1 (by decide),_,g 2 (by decide),_,g 3 (by decide),_,g 4 (by decide),_,g 5 (by decide),_,g 6 (by decide),_,g 7 (by decide),hf⟩
theorem Own.ld_10 {b o:Nat} {l:List Value} {c0 c1 c2 c3 c4 c5 c6 c7 c8 c9:Sc} {x0:c0.D} {x1:c1.D} {x2:c2.D} {x3:c3.D} {x4:c4.D} {x5:c5.D} {x6:c6.D} {x7:c7.D} {x8:c8.D} {x9:c9.D} {f:c0.D->c1.D->c2.D->c3.D->c4.D->c5.D->c6.D->c7.D->c8.D->c9.D->Prop} (h:Own B w0 w L) (i:Nat) (hi:L[i]?=some (BlkA b l)) (hl:(l.drop o).take 10= [c0.mk x0,c1.mk x1,c2.mk x2,c3.mk x3,c4.mk x4,c5.mk x5,c6.mk x6,c7.mk x7,c8.mk x8,c9.mk x9]) (hf:f x0 x1 x2 x3 x4 x5 x6 x7 x8 x9):LdL w ⟨b,o,none⟩ 0 [c0,c1,c2,c3,c4,c5,c6,c7,c8,c9] f:=by
 have g:∀j,j<10->w.cell? ((Addr.mk b o none).add j)= [c0.mk x0,c1.mk x1,c2.mk x2,c3.mk x3,c4.mk x4,c5.mk x5,c6.mk x6,c7.mk x7,c8.mk x8,c9.mk x9][j]?:=fun j hj=>by rw[add_mk,(h.blk i hi).cell,←hl,List.getElem?_take,if_pos hj,List.getElem?_drop]
 exact ⟨_,g 0 (by decide),_,g 1 (by decide),_,g 2 (by decide),_,g 3 (by decide),_,g 4 (by decide),_,g 5 (by decide),_,g 6 (by decide),_,g 7 (by decide),_,g 8 (by decide),_,g 9 (by decide),hf⟩
theorem Own.ld_12 {b o:Nat} {l:List Value} {c0 c1 c2 c3 c4 c5 c6 c7 c8 c9 c10 c11:Sc} {x0:c0.D} {x1:c1.D} {x2:c2.D} {x3:c3.D} {x4:c4.D} {x5:c5.D} {x6:c6.D} {x7:c7.D} {x8:c8.D} {x9:c9.D} {x10:c10.D} {x11:c11.D} {f:c0.D->c1.D->c2.D->c3.D->c4.D->c5.D->c6.D->c7.D->c8.D->c9.D->c10.D->c11.D->Prop} (h:Own B w0 w L) (i:Nat) (hi:L[i]?=some (BlkA b l)) (hl:(l.drop o).take 12= [c0.mk x0,c1.mk x1,c2.mk x2,c3.mk x3,c4.mk x4,c5.mk x5,c6.mk x6,c7.mk x7,c8.mk x8,c9.mk x9,c10.mk x10,c11.mk x11]) (hf:f x0 x1 x2 x3 x4 x5 x6 x7 x8 x9 x10 x11):LdL w ⟨b,o,none⟩ 0 [c0,c1,c2,c3,c4,c5,c6,c7,c8,c9,c10,c11] f:=by
 have g:∀j,j<12->w.cell? ((Addr.mk b o none).add j)= [c0.mk x0,c1.mk x1,c2.mk x2,c3.mk x3,c4.mk x4,c5.mk x5,c6.mk x6,c7.mk x7,c8.mk x8,c9.mk x9,c10.mk x10,c11.mk x11][j]?:=fun j hj=>by rw[add_mk,(h.blk i hi).cell,←hl,List.getElem?_take,if_pos hj,List.getElem?_drop]
 exact ⟨_,g 0 (by decide),_,g 1 (by decide),_,g 2 (by decide),_,g 3 (by decide),_,g 4 (by decide),_,g 5 (by decide),_,g 6 (by decide),_,g 7 (by decide),_,g 8 (by decide),_,g 9 (by decide),_,g 10 (by decide),_,g 11 (by decide),hf⟩
end
end Go.Vc
namespace Go.Vc
open Go
theorem cdec {p:Prop} [Decidable p] {A C:Prop} (h1:p->A) (h2:¬p->C):bif decide p then A else C:=by
 by_cases h:p
 ·rw[decide_eq_true h];exact h1 h
 ·rw[decide_eq_false h];exact h2 h
theorem cdecT {p:Prop} [Decidable p] {A C:Prop} (h:p) (h1:A):bif decide p then A else C:=by rw[decide_eq_true h];exact h1
theorem cdecF {p:Prop} [Decidable p] {A C:Prop} (h:¬p) (h1:C):bif decide p then A else C:=by rw[decide_eq_false h];exact h1
theorem cb {b:Bool} {A C:Prop} (h1:b=true->A) (h2:b=false->C):bif b then A else C:=by
 cases b with
 |true=>exact h1 rfl
 |false=>exact h2 rfl
theorem cbT {b:Bool} {A C:Prop} (h:b=true) (h1:A):bif b then A else C:=by rw[h];exact h1
theorem cbF {b:Bool} {A C:Prop} (h:b=false) (h1:C):bif b then A else C:=by rw[h];exact h1
theorem cnb {b:Bool} {A C:Prop} (h1:b=false->A) (h2:b=true->C):bif !b then A else C:=by
 cases b with
 |true=>exact h2 rfl
 |false=>exact h1 rfl
theorem ceq {x y:Int} {A C:Prop} (h1:x=y->A) (h2:x≠y->C):bif x==y then A else C:=by
 by_cases h:x=y
 ·rw[show (x==y)=true from by simpa using h];exact h1 h
 ·rw[show (x==y)=false from by simpa using h];exact h2 h
theorem ceqT {x y:Int} {A C:Prop} (h:x=y) (h1:A):bif x==y then A else C:=by rw[show (x==y)=true from by simpa using h];exact h1
theorem ceqF {x y:Int} {A C:Prop} (h:x≠y) (h1:C):bif x==y then A else C:=by rw[show (x==y)=false from by simpa using h];exact h1
theorem cne {x y:Int} {A C:Prop} (h1:x≠y->A) (h2:x=y->C):bif x !=y then A else C:=by
 by_cases h:x=y
 ·rw[show (x !=y)=false from by simpa using h];exact h2 h
 ·rw[show (x !=y)=true from by simpa using h];exact h1 h
theorem cneT {x y:Int} {A C:Prop} (h:x≠y) (h1:A):bif x !=y then A else C:=by rw[show (x !=y)=true from by simpa using h];exact h1
theorem cneF {x y:Int} {A C:Prop} (h:x=y) (h1:C):bif x !=y then A else C:=by rw[show (x !=y)=false from by simpa using h];exact h1
class BlkIn (b:Nat) (L:List Asn) (l:outParam (List Value)) where
 i:Nat
 at_:L[i]?=some (BlkA b l)
instance BlkIn.tail {b:Nat} {X:Asn} {L:List Asn} {l:List Value} [I:BlkIn b L l]:BlkIn b (X::L) l:=⟨I.i+1,by simpa using I.at_⟩
instance BlkIn.head {b:Nat} {L:List Asn} {l:List Value}:BlkIn b (BlkA b l::L) l:=⟨0,rfl⟩
class BlkUp (b:Nat) (L:List Asn) (l:outParam (List Value)) (f:List Value->List Value) (L':outParam (List Asn)) where
 i:Nat
 at_:L[i]?=some (BlkA b l)
 up:L'=L.set i (BlkA b (f l))
instance BlkUp.tail {b:Nat} {X:Asn} {L L':List Asn} {l:List Value} {f:List Value->List Value} [I:BlkUp b L l f L']:BlkUp b (X::L) l f (X::L'):=⟨I.i+1,by simpa using I.at_,(congrArg (X::·) I.up)⟩
instance BlkUp.head {b:Nat} {L:List Asn} {l:List Value} {f:List Value->List Value}:BlkUp b (BlkA b l::L) l f (BlkA b (f l)::L):=⟨0,rfl,rfl⟩
section
variable {B:Nat} {w0 w:World} {L L':List Asn} {b o n:Nat} {l:List Value}
theorem Own.ldc {v:Value} [I:BlkIn b L l] (h:Own B w0 w L) (hv:l[o]?=some v):w.cell? (Addr.mk b o none)=some v:=h.ld0 I.i I.at_ hv
theorem Own.ldd {v:Value} [I:BlkIn b L l] (h:Own B w0 w L) (hv:l[o+n]?=some v):w.cell? ((Addr.mk b o none).add n)=some v:=h.ld I.i I.at_ hv
theorem Own.stc {v:Value} {k:World->Prop} [I:BlkUp b L l (·.set o v) L'] (h:Own B w0 w L) (ho:(l[o]?).isSome=true) (hv:v.oneCell'=true) (hk:∀w',Own B w0 w' L'->k w'):St w ⟨b,o,none⟩ v k:=
 h.st I.i I.at_ ho hv fun w' h'=>hk w' (I.up.symm▸h')
theorem Own.std {v:Value} {k:World->Prop} [I:BlkUp b L l (·.set (o+n) v) L'] (h:Own B w0 w L) (ho:(l[o+n]?).isSome=true) (hv:v.oneCell'=true) (hk:∀w',Own B w0 w' L'->k w'):St w ((Addr.mk b o none).add n) v k:=
 h.stA I.i I.at_ ho hv fun w' h'=>hk w' (I.up.symm▸h')
theorem Own.lc_2 {c0 c1:Sc} {x0:c0.D} {x1:c1.D} {f:c0.D->c1.D->Prop} [I:BlkIn b L l] (h:Own B w0 w L) (hl:(l.drop o).take 2= [c0.mk x0,c1.mk x1]) (hf:f x0 x1):LdL w ⟨b,o,none⟩ 0 [c0,c1] f:=h.ld_2 I.i I.at_ hl hf
theorem Own.lc_3 {c0 c1 c2:Sc} {x0:c0.D} {x1:c1.D} {x2:c2.D} {f:c0.D->c1.D->c2.D->Prop} [I:BlkIn b L l] (h:Own B w0 w L) (hl:(l.drop o).take 3= [c0.mk x0,c1.mk x1,c2.mk x2]) (hf:f x0 x1 x2):LdL w ⟨b,o,none⟩ 0 [c0,c1,c2] f:=h.ld_3 I.i I.at_ hl hf
theorem Own.lc_4 {c0 c1 c2 c3:Sc} {x0:c0.D} {x1:c1.D} {x2:c2.D} {x3:c3.D} {f:c0.D->c1.D->c2.D->c3.D->Prop} [I:BlkIn b L l] (h:Own B w0 w L) (hl:(l.drop o).take 4= [c0.mk x0,c1.mk x1,c2.mk x2,c3.mk x3]) (hf:f x0 x1 x2 x3):LdL w ⟨b,o,none⟩ 0 [c0,c1,c2,c3] f:=h.ld_4 I.i I.at_ hl hf
theorem Own.lc_6 {c0 c1 c2 c3 c4 c5:Sc} {x0:c0.D} {x1:c1.D} {x2:c2.D} {x3:c3.D} {x4:c4.D} {x5:c5.D} {f:c0.D->c1.D->c2.D->c3.D->c4.D->c5.D->Prop} [I:BlkIn b L l] (h:Own B w0 w L) (hl:(l.drop o).take 6= [c0.mk x0,c1.mk x1,c2.mk x2,c3.mk x3,c4.mk x4,c5.mk x5]) (hf:f x0 x1 x2 x3 x4 x5):LdL w ⟨b,o,none⟩ 0 [c0,c1,c2,c3,c4,c5] f:=h.ld_6 I.i I.at_ hl hf
theorem Own.lc_7 {c0 c1 c2 c3 c4 c5 c6:Sc} {x0:c0.D} {x1:c1.D} {x2:c2.D} {x3:c3.D} {x4:c4.D} {x5:c5.D} {x6:c6.D} {f:c0.D->c1.D->c2.D->c3.D->c4.D->c5.D->c6.D->Prop} [I:BlkIn b L l] (h:Own B w0 w L) (hl:(l.drop o).take 7= [c0.mk x0,c1.mk x1,c2.mk x2,c3.mk x3,c4.mk x4,c5.mk x5,c6.mk x6]) (hf:f x0 x1 x2 x3 x4 x5 x6):LdL w ⟨b,o,none⟩ 0 [c0,c1,c2,c3,c4,c5,c6] f:=h.ld_7 I.i I.at_ hl hf
theorem Own.lc_8 {c0 c1 c2 c3 c4 c5 c6 c7:Sc} {x0:c0.D} {x1:c1.D} {x2:c2.D} {x3:c3.D} {x4:c4.D} {x5:c5.D} {x6:c6.D} {x7:c7.D} {f:c0.D->c1.D->c2.D->c3.D->c4.D->c5.D->c6.D->c7.D->Prop} [I:BlkIn b L l] (h:Own B w0 w L) (hl:(l.drop o).take 8= [c0.mk x0,c1.mk x1,c2.mk x2,c3.mk x3,c4.mk x4,c5.mk x5,c6.mk x6,c7.mk x7]) (hf:f x0 x1 x2 x3 x4 x5 x6 x7):LdL w ⟨b,o,none⟩ 0 [c0,c1,c2,c3,c4,c5,c6,c7] f:=h.ld_8 I.i I.at_ hl hf
theorem Own.lc_10 {c0 c1 c2 c3 c4 c5 c6 c7 c8 c9:Sc} {x0:c0.D} {x1:c1.D} {x2:c2.D} {x3:c3.D} {x4:c4.D} {x5:c5.D} {x6:c6.D} {x7:c7.D} {x8:c8.D} {x9:c9.D} {f:c0.D->c1.D->c2.D->c3.D->c4.D->c5.D->c6.D->c7.D->c8.D->c9.D->Prop} [I:BlkIn b L l] (h:Own B w0 w L) (hl:(l.drop o).take 10= [c0.mk x0,c1.mk x1,c2.mk x2,c3.mk x3,c4.mk x4,c5.mk x5,c6.mk x6,c7.mk x7,c8.mk x8,c9.mk x9]) (hf:f x0 x1 x2 x3 x4 x5 x6 x7 x8 x9):LdL w ⟨b,o,none⟩ 0 [c0,c1,c2,c3,c4,c5,c6,c7,c8,c9] f:=h.ld_10 I.i I.at_ hl hf
theorem Own.lc_12 {c0 c1 c2 c3 c4 c5 c6 c7 c8 c9 c10 c11:Sc} {x0:c0.D} {x1:c1.D} {x2:c2.D} {x3:c3.D} {x4:c4.D} {x5:c5.D} {x6:c6.D} {x7:c7.D} {x8:c8.D} {x9:c9.D} {x10:c10.D} {x11:c11.D} {f:c0.D->c1.D->c2.D->c3.D->c4.D->c5.D->c6.D->c7.D->c8.D->c9.D->c10.D->c11.D->Prop} [I:BlkIn b L l] (h:Own B w0 w L) (hl:(l.drop o).take 12= [c0.mk x0,c1.mk x1,c2.mk x2,c3.mk x3,c4.mk x4,c5.mk x5,c6.mk x6,c7.mk x7,c8.mk x8,c9.mk x9,c10.mk x10,c11.mk x11]) (hf:f x0 x1 x2 x3 x4 x5 x6 x7 x8 x9 x10 x11):LdL w ⟨b,o,none⟩ 0 [c0,c1,c2,c3,c4,c5,c6,c7,c8,c9,c10,c11] f:=h.ld_12 I.i I.at_ hl hf
theorem Own.up1 {a0 a1:Asn} (h:Own B w0 w (a0::a1::L)):Own B w0 w (a1::a0::L):=h.take 1 rfl
theorem Own.rm1 {a0 a1:Asn} (h:Own B w0 w (a0::a1::L)):Own B w0 w (a0::L):=h.up1.drop
theorem Own.up2 {a0 a1 a2:Asn} (h:Own B w0 w (a0::a1::a2::L)):Own B w0 w (a2::a0::a1::L):=h.take 2 rfl
theorem Own.rm2 {a0 a1 a2:Asn} (h:Own B w0 w (a0::a1::a2::L)):Own B w0 w (a0::a1::L):=h.up2.drop
theorem Own.up3 {a0 a1 a2 a3:Asn} (h:Own B w0 w (a0::a1::a2::a3::L)):Own B w0 w (a3::a0::a1::a2::L):=h.take 3 rfl
theorem Own.rm3 {a0 a1 a2 a3:Asn} (h:Own B w0 w (a0::a1::a2::a3::L)):Own B w0 w (a0::a1::a2::L):=h.up3.drop
theorem Own.stLc {vs:List Value} {k:World->Prop} [I:BlkUp b L l (putAt · o vs) L'] (h:Own B w0 w L) (hle:Nat.ble (o+vs.length) l.length=true) (hone:vs.all Value.oneCell'=true) (hk:∀w',Own B w0 w' L'->k w'):StL w ⟨b,o,none⟩ 0 vs k:=
 h.stL I.i I.at_ hle hone fun w' h'=>hk w' (I.up.symm▸h')
end
class Pick (A:Asn) (L:List Asn) (R:outParam (List Asn)):Prop where
 perm:L.Perm (A::R)
instance Pick.tail {A X:Asn} {L R:List Asn} [I:Pick A L R]:Pick A (X::L) (X::R):=⟨(I.perm.cons X).trans (List.Perm.swap _ _ _)⟩
instance Pick.head {A:Asn} {L:List Asn}:Pick A (A::L) L:=⟨List.Perm.refl _⟩
class SubP (L L':List Asn):Prop where
 sub:∃Z,L.Perm (Z++L')
instance SubP.skip {X:Asn} {L L':List Asn} [I:SubP L L']:SubP (X::L) L':=⟨by obtain ⟨Z,h⟩:=I.sub;exact ⟨X::Z,h.cons X⟩⟩
instance SubP.pick {A:Asn} {L R L':List Asn} [I:Pick A L R] [J:SubP R L']:SubP L (A::L'):=⟨by
 obtain ⟨Z,h⟩:=J.sub;exact ⟨Z,I.perm.trans ((h.cons A).trans List.perm_middle.symm)⟩⟩
instance SubP.same {L:List Asn}:SubP L L:=⟨[],List.Perm.refl _⟩
theorem Own.dropL {B:Nat} {w0 w:World} {L:List Asn}:∀{Z:List Asn},Own B w0 w (Z++L)->Own B w0 w L
 | [],h=>h
 |_::Z,h=>Own.dropL (Z:=Z) h.drop
theorem Own.sub {B:Nat} {w0 w:World} {L L':List Asn} [I:SubP L L'] (h:Own B w0 w L):Own B w0 w L':=by
 obtain ⟨Z,hp⟩:=I.sub;exact (h.perm hp).dropL
theorem Own.pick {B:Nat} {w0 w:World} {L R:List Asn} {A:Asn} [I:Pick A L R] (h:Own B w0 w L):Own B w0 w (A::R):=h.perm I.perm
theorem HdL_mk {w:World} {A:Addr} {C:Prop}:∀(vs:List Value) (i:Nat),(∀j v,vs[j]?=some v->w.cell? (A.add (i+j))=some v)->C->HdL w A i vs C
 | [],_,_,hC=>hC
 |v::vs,i,h,hC=>⟨h 0 v rfl,HdL_mk vs (i+1) (fun j u hj=>by rw[show i+1+j=i+(j+1) from by omega];exact h (j+1) u (by simpa using hj)) hC⟩
theorem Own.hd {B:Nat} {w0 w:World} {L:List Asn} {b o:Nat} {l vs:List Value} {C:Prop} [I:BlkIn b L l] (h:Own B w0 w L) (hl:(l.drop o).take vs.length=vs) (hC:C):HdL w ⟨b,o,none⟩ 0 vs C:=
 HdL_mk vs 0 (fun j v hj=>by
  rw[add_mk,(h.blk I.i I.at_).cell,Nat.zero_add];rw[←hl,List.getElem?_take] at hj;split at hj
  ·rw[List.getElem?_drop] at hj;exact hj
  ·cases hj) hC
theorem exs {α:Type} {x:α} {G:α->Prop} (h:G x):∃a,some x=some a/\G a:=⟨x,rfl,h⟩
theorem a2 {p:Prop} (h:p):p/\True:=⟨h,trivial⟩
end Go.Vc
namespace Go.Vc
open Go
class SlIn (s:Sl) (L:List Asn) (α:outParam Type) (E:outParam (EncT α)) (xs:outParam (List α)) where
 i:Nat
 at_:L[i]?=some (SlT E s xs)
instance SlIn.tail {s:Sl} {X:Asn} {L:List Asn} {α:Type} {E:EncT α} {xs:List α} [I:SlIn s L α E xs]:SlIn s (X::L) α E xs:=⟨I.i+1,by simpa using I.at_⟩
instance SlIn.head {s:Sl} {L:List Asn} {α:Type} {E:EncT α} {xs:List α}:SlIn s (SlT E s xs::L) α E xs:=⟨0,rfl⟩
section
variable {P:Program} {B:Nat} {w0 w:World} {L R:List Asn} {α:Type} {E:EncT α} {s:Sl} {xs:List α}
theorem Own.lenc (s:Sl) [I:SlIn s L α E xs] (h:Own B w0 w L):s.len=xs.length:=h.len I.i I.at_
theorem addr_c {b o i j z:Nat} (c:Nat) (hij:i=j):((Addr.mk b o none).add (i*z)).add c=⟨b,o+(j*z+c),none⟩:=by rw[add_mk,add_mk,hij,Nat.add_assoc]
theorem addr_0 {b o i j z:Nat} (hij:i=j):(Addr.mk b o none).add (i*z)=⟨b,o+(j*z+0),none⟩:=by rw[add_mk,hij,Nat.add_zero]
theorem Own.ixc [I:SlIn s L α E xs] {i:Int} {j:Nat} {x:α} {G:Addr->Prop} (h:Own B w0 w L) (hij:i=(j:Int)) (hj:xs[j]?=some x)
  (hG:∀a,s.a=some a->(∀v,(E.enc x)[0]?=some v->w.cell? (a.add (i.toNat*E.z))=some v)->(∀c v,(E.enc x)[c]?=some v->w.cell? ((a.add (i.toNat*E.z)).add c)=some v)->G a):
  ∃a,s.a=some a/\0≤i/\i<(s.len:Int)/\G a:=by
 obtain ⟨b,o,ha,hc⟩:=h.get I.i I.at_ hj;have hlen:=h.len I.i I.at_;have hlt:=(List.getElem?_eq_some_iff.1 hj).1;have hn:i.toNat=j:=by omega
 refine ⟨_,ha,by omega,by omega,hG _ ha (fun v hv=>?_) fun c v hv=>?_⟩
 ·rw[addr_0 hn];exact hc 0 v hv
 ·rw[addr_c c hn];exact hc c v hv
theorem Own.ixa [I:SlIn s L α E xs] {i:Int} {j:Nat} {x:α} (h:Own B w0 w L) (hij:i=(j:Int)) (hj:xs[j]?=some x) {a:Addr} (ha:s.a=some a):
  (∀v,(E.enc x)[0]?=some v->w.cell? (a.add (i.toNat*E.z))=some v)/\(∀c v,(E.enc x)[c]?=some v->w.cell? ((a.add (i.toNat*E.z)).add c)=some v):=by
 obtain ⟨b,o,ha',hc⟩:=h.get I.i I.at_ hj;rw[ha] at ha';simp only[Option.some.injEq] at ha';subst ha';have hn:i.toNat=j:=by omega
 refine ⟨fun v hv=>?_,fun c v hv=>?_⟩
 ·rw[addr_0 hn];exact hc 0 v hv
 ·rw[addr_c c hn];exact hc c v hv
theorem Own.slAddr (s:Sl) [I:SlIn s L α E xs] (h:Own B w0 w L) {a:Addr} (ha:s.a=some a):a=⟨a.block,a.off,none⟩:=by
 have:=(h.slO I.i I.at_).spot a ha;cases a;simp at this;subst this;rfl
theorem pick_mem {A:Asn} {L R:List Asn} (I:Pick A L R) (h:Own B w0 w L):Own B w0 w (A::R):=h.perm I.perm
theorem Own.stEc [I:SlIn s L α E xs] {R:List Asn} [J:Pick (SlT E s xs) L R] {i:Int} {j:Nat} {a:Addr} {v:Value} {k:World->Prop} (h:Own B w0 w L) (x:α) (hij:i=(j:Int)) (hj:j<xs.length) (ha:s.a=some a) (hx:E.enc x= [v])
  (hk:∀w',Own B w0 w' (SlT E s (xs.set j x)::R)->k w'):St w (a.add (i.toNat*E.z)) v k:=by
 have e:=h.slAddr s ha;have hn:i.toNat=j:=by omega
 rw[e,add_mk,hn];exact (pick_mem J h).stE 0 rfl hj x (by rw[ha];exact congrArg some e) hx hk
theorem Own.stELc [I:SlIn s L α E xs] {R:List Asn} [J:Pick (SlT E s xs) L R] {i:Int} {j:Nat} {a:Addr} {k:World->Prop} (h:Own B w0 w L) (x:α) (hij:i=(j:Int)) (hj:j<xs.length) (ha:s.a=some a)
  (hk:∀w',Own B w0 w' (SlT E s (xs.set j x)::R)->k w'):StL w (a.add (i.toNat*E.z)) 0 (E.enc x) k:=by
 have e:=h.slAddr s ha;have hn:i.toNat=j:=by omega
 rw[e,add_mk,hn];exact (pick_mem J h).stEL 0 rfl hj x (by rw[ha];exact congrArg some e) hk
theorem Own.stFc [I:SlIn s L α E xs] {R:List Asn} [J:Pick (SlT E s xs) L R] {i:Int} {j c:Nat} {a:Addr} {x:α} {v:Value} {k:World->Prop} (h:Own B w0 w L) (x':α) (hij:i=(j:Int)) (hj:xs[j]?=some x) (ha:s.a=some a) (hx:E.enc x'=(E.enc x).set c v) (hc:c<E.z) (hv:v.oneCell'=true)
  (hk:∀w',Own B w0 w' (SlT E s (xs.set j x')::R)->k w'):St w ((a.add (i.toNat*E.z)).add c) v k:=by
 have e:=h.slAddr s ha;have hn:i.toNat=j:=by omega
 rw[e,add_mk,add_mk,hn];exact (pick_mem J h).stF 0 rfl hj x' hx hc hv (by rw[ha];exact congrArg some e) hk
theorem Own.app1c {T el:TypeId} {inf:TypeInfo} {zv:Value} {y:α} {b:Nat} {k:Sl->World->Prop} [I:SlIn s L α E xs] {R:List Asn} [J:Pick (SlT E s xs) L R]
  (hu:P.underlying T=some (.slice el)) (hi:P.info? el=some inf) (hz:inf.zero=some zv) (hsz:inf.size=E.z) (hzc:zv.cells.size=E.z) (hb:1≤inf.bytes)
  (h:Own B w0 w (BlkA b (E.enc y)::L)) (hbig:(17*(xs.length+1)+16000)*inf.bytes≤2^48)
  (hk:∀s' w',s'.len=xs.length+1->Own B w0 w' (SlT E s' (xs++ [y])::R)->k s' w'):
  ∃s' w',AppR P [T,T] T (.slice s.a s.len s.cap) (.slice (some (Addr.mk b 0 none)) 1 1) w s' w'/\k s' w':=
 Own.app1 hu hi hz hsz hzc hb (h.perm (J.perm.cons _)) 0 rfl hbig hk
theorem Own.mkSl {T el:TypeId} {inf:TypeInfo} {zv:Value} {z0:α} {n:Int} {k:Sl->World->Prop} (hu:P.underlying T=some (.slice el)) (hi:P.info? el=some inf) (hz:inf.zero=some zv) (hsz:inf.size=E.z) (hzc:zv.cells.toList=E.enc z0)
  (h:Own B w0 w L) (h0:0≤n) (hn:(inf.bytes:Int)*n≤2^48) (hnn:n≤2^48) (hk:∀s' w',s'.len=n.toNat->Own B w0 w' (SlT E s' (List.replicate n.toNat z0)::L)->k s' w'):
  ∃s' w',MkSlR P T (.int .i64 n) (.int .i64 n) w s' w'/\k s' w':=by
 obtain ⟨m,rfl⟩:=Int.eq_ofNat_of_zero_le h0;have hp48:(2:Int)^48=281474976710656:=by decide
 rw[hp48] at hn hnn;have hw:IntKind.i64.wrap (m:Int)=(m:Int):=wr (by omega) (by omega);have hzl:zv.cells.size=E.z:=by rw[←Array.length_toList,hzc,E.len]
 let row:List Value:=rep m (E.enc z0)
 have hrow:row=(List.replicate m z0).flatMap E.enc:=by
  show rep m (E.enc z0)=_;clear hk hw hn hnn h0
  induction m with
  |zero=>rfl
  |succ m ih=>simp[rep,List.replicate_succ,ih]
 have hrl:row.length=m*E.z:=by rw[hrow,flat_len];simp
 have hcells:(Array.range (m*sz P el)).map (fun i=>(if m*sz P el=0 then (#[]:Array Value) else zv.cells)[i%(if m*sz P el=0 then (#[]:Array Value) else zv.cells).size]!)=⟨row⟩:=by
  have hsz2:sz P el=zv.cells.size:=by simp[sz,hi,hsz,hzl]
  by_cases e:m*sz P el=0
  ·have hpos:=E.pos
   have:m=0:=by
    rcases Nat.mul_eq_zero.1 e with e|e
    ·exact e
    ·rw[hsz2,hzl] at e;omega
   subst this;simp[row,rep]
  ·simp only[if_neg e]
   rw[hsz2,zeros_eq zv.cells m (by rw[hzl];exact E.pos),hzc]
 refine ⟨⟨some ⟨w.heap.size,0,none⟩,m,m⟩,w.alloc (.cells ⟨row⟩ el), ?_,hk _ _ rfl ?_⟩
 ·unfold MkSlR Instr.makeSlice
  have hsize:∀w,(sizeOf el).run P w= .ok (sz P el) w:=fun w=>run_size hi w
  have hinfo:∀w,(typeInfo el).run P w= .ok inf w:=fun w=>by simp[typeInfo,hi]
  have hzero:∀w,(zeroValue el).run P w= .ok zv w:=fun w=>by simp[zeroValue,hinfo,hz]
  have hint:∀w,(asInt (.int .i64 (m:Int))).run P w= .ok (m:Int) w:=fun w=>by simp[asInt,asIntOf]
  have c2:¬((inf.bytes:Int)*(m:Int)>2^48):=by rw[hp48];omega
  have c0:¬((m:Int)<0):=by omega
  have c3:¬((m:Int)>(m:Int)):=by omega
  simp only[Sem.run_bind,run_und hu,Result.andThen_ok,hint,hinfo,hw,decide_eq_false c2,decide_eq_false c0,decide_eq_false c3,Bool.or_false,Bool.false_eq_true,if_false,Int.toNat_natCast,run_askRoom,hsize];by_cases e:m*sz P el=0
  ·simp only[if_pos e] at hcells
   simp only[e,if_true,Sem.run_pure,Result.andThen_ok,newRow,Sem.run_bind,run_newObj];rw[e] at hcells;rw[hcells];rfl
  ·simp only[if_neg e] at hcells
   simp only[e,if_false,Sem.run_bind,hzero,Sem.run_pure,Result.andThen_ok,newRow,run_newObj];rw[hcells];rfl
 ·refine h.new (A':=SlT E ⟨some ⟨w.heap.size,0,none⟩,m,m⟩ (List.replicate m z0)) (G':=fun k=>k=w.heap.size) (upd_alloc _ _) ⟨fun a ha=>by cases ha;rfl,by simp, ?_⟩ fun k e=>by subst e;simp
  refine .mk w.heap.size 0 row rfl ⟨el,heap_alloc_new _ _⟩ (Nat.le_refl _) (by rw[hrl];simp) ?_;show _=(row.drop 0).take (m*E.z);rw[List.drop_zero,←hrl,List.take_length,hrow]
end
def RowsA {α:Type} (E:EncT α) (ss:List Sl) (rows:List (List α)):Asn:=ExA fun _:Unit=>StarA (PureA (ss.length=rows.length)::List.zipWith (SlT E) ss rows)
section
variable {P:Program} {B:Nat} {w0 w:World} {L R:List Asn} {α:Type} {E:EncT α} {ss:List Sl} {rows:List (List α)}
theorem Own.rowsO (h:Own B w0 w (RowsA E ss rows::R)):ss.length=rows.length/\Own B w0 w (List.zipWith (SlT E) ss rows++R):=by
 obtain ⟨_,h⟩:=h.ex;exact Own.pure h.star
theorem zip_get {j:Nat} {s:Sl} {row:List α} (hs:ss[j]?=some s) (hr:rows[j]?=some row) (R:List Asn):(List.zipWith (SlT E) ss rows++R)[j]?=some (SlT E s row):=by
 have h1:=(List.getElem?_eq_some_iff.1 hs).1;have h2:=(List.getElem?_eq_some_iff.1 hr).1;rw[List.getElem?_append_left (by simp;omega),List.getElem?_zipWith,hs,hr]
theorem Own.row (h:Own B w0 w (RowsA E ss rows::R)) {j:Nat} {s:Sl} {row:List α} (hs:ss[j]?=some s) (hr:rows[j]?=some row):
  Own B w0 w (SlT E s row::((List.zipWith (SlT E) ss rows).eraseIdx j++R)):=by
 obtain ⟨hl,h⟩:=h.rowsO;have h1:=(List.getElem?_eq_some_iff.1 hs).1;have:=h.take j (zip_get hs hr R)
 rwa [List.eraseIdx_append_of_lt_length (by simp;omega)] at this
end
end Go.Vc
namespace Go.Vc
open Go Go.ChangeShapes Go.WideShapes
structure Rd {α:Type} (E:EncT α) (B:Nat) (w0:World) (L:List Asn) (s:Sl) (xs:List α):Prop where
 len:s.len=xs.length
 got:∀w',Own B w0 w' L->∀(i:Int) (j:Nat) (x:α),i=(j:Int)->xs[j]?=some x->∃a,s.a=some a/\(∀v,(E.enc x)[0]?=some v->w'.cell? (a.add (i.toNat*E.z))=some v)/\(∀c v,(E.enc x)[c]?=some v->w'.cell? ((a.add (i.toNat*E.z)).add c)=some v)
section
variable {B:Nat} {w0 w:World} {L L':List Asn} {α:Type} {E:EncT α} {s:Sl} {xs:List α}
theorem Inp.rd (hi:Inp E w0 s xs) (L:List Asn):Rd E w0.heap.size w0 L s xs:=⟨hi.len,fun w' h i j x hij hj=>by
 obtain ⟨a,ha,h0,hc⟩:=hi.get0 h hj;have:i.toNat=j:=by omega
 exact ⟨a,ha,by rw[this];exact h0,by rw[this];exact hc⟩⟩
theorem Rd.own [I:SlIn s L α E xs] (hl:s.len=xs.length):Rd E B w0 L s xs:=⟨hl,fun w' h i j x hij hj=>by
 obtain ⟨b,o,ha,_⟩:=h.get I.i I.at_ hj;exact ⟨_,ha,h.ixa hij hj ha⟩⟩
theorem Rd.more (hr:Rd E B w0 L s xs) [I:SubP L' L]:Rd E B w0 L' s xs:=⟨hr.len,fun w' h=>hr.got w' h.sub⟩
theorem Rd.ix (hr:Rd E B w0 L s xs) (h:Own B w0 w L) {i:Int} {j:Nat} {x:α} {G:Addr->Prop} (hij:i=(j:Int)) (hj:xs[j]?=some x)
  (hG:∀a,s.a=some a->(∀v,(E.enc x)[0]?=some v->w.cell? (a.add (i.toNat*E.z))=some v)->(∀c v,(E.enc x)[c]?=some v->w.cell? ((a.add (i.toNat*E.z)).add c)=some v)->G a):
  ∃a,s.a=some a/\0≤i/\i<(s.len:Int)/\G a:=by
 obtain ⟨a,ha,h0,hc⟩:=hr.got w h i j x hij hj;have h1:=(List.getElem?_eq_some_iff.1 hj).1;have h2:=hr.len;exact ⟨a,ha,by omega,by omega,hG a ha h0 hc⟩
theorem Own.asSl {b:Nat} {L:List Asn} {l:List Value} (h:Own B w0 w (BlkA b l::L)) (xs:List α) (hl:l=xs.flatMap E.enc):Own B w0 w (SlT E ⟨some ⟨b,0,none⟩,xs.length,xs.length⟩ xs::L):=by
 subst hl;refine h.conv fun G hG=>⟨fun a ha=>by cases ha;exact hG.1,rfl, .mk b 0 _ rfl hG.2 (Nat.le_refl _) ?_ ?_⟩
 ·rw[flat_len];simp
 ·rw[List.drop_zero,←flat_len,List.take_length]
end
end Go.Vc
namespace Go.Vc
open Go
theorem putAt_same (l:List Value) (o n:Nat) {q:Nat} {vs:List Value} (h1:o+n≤l.length) (h2:q+vs.length≤n):((putAt l (o+q) vs).drop o).take n=putAt ((l.drop o).take n) q vs:=by
 apply List.ext_getElem?;intro t;rw[List.getElem?_take,putAt_get _ _ _ _ (by simp;omega),List.getElem?_take];by_cases e:t<n
 ·rw[if_pos e,if_pos e,List.getElem?_drop,putAt_get _ _ _ _ (by omega),List.getElem?_drop]
  by_cases e2:q≤t/\t<q+vs.length
  ·rw[if_pos e2,if_pos (by omega)];congr 1;omega
  ·rw[if_neg e2,if_neg (by omega)]
 ·rw[if_neg e,if_neg e]
  by_cases e2:q≤t/\t<q+vs.length
  ·omega
  ·rw[if_neg e2]
theorem flat_put {α:Type} (E:EncT α) (xs ys:List α) (p:Nat) (h:p+ys.length≤xs.length):putAt (xs.flatMap E.enc) (p*E.z) (ys.flatMap E.enc)=(xs.take p++ys++xs.drop (p+ys.length)).flatMap E.enc:=by
 have hl:=flat_len E xs;have hly:=flat_len E ys;have hm:(p+ys.length)*E.z≤xs.length*E.z:=Nat.mul_le_mul_right _ h;rw[Nat.add_mul] at hm
 have htake:∀n,(xs.take n).flatMap E.enc=(xs.flatMap E.enc).take (n*E.z):=fun n=>by
  by_cases hn:n≤xs.length
  ·have h1:xs.flatMap E.enc=(xs.take n).flatMap E.enc++(xs.drop n).flatMap E.enc:=by rw[←List.flatMap_append,List.take_append_drop]
   have h2:((xs.take n).flatMap E.enc).length=n*E.z:=by rw[flat_len];simp[hn]
   rw[h1,←h2,List.take_left]
  ·rw[List.take_of_length_le (by omega),List.take_of_length_le]
   rw[hl];exact Nat.mul_le_mul_right _ (by omega)
 have hdrop:(xs.drop (p+ys.length)).flatMap E.enc=(xs.flatMap E.enc).drop ((p+ys.length)*E.z):=by
  have h1:xs.flatMap E.enc=(xs.take (p+ys.length)).flatMap E.enc++(xs.drop (p+ys.length)).flatMap E.enc:=by rw[←List.flatMap_append,List.take_append_drop]
  have h2:((xs.take (p+ys.length)).flatMap E.enc).length=(p+ys.length)*E.z:=by rw[flat_len,List.length_take,Nat.min_eq_left h]
  rw[h1,←h2,List.drop_left]
 rw[List.flatMap_append,List.flatMap_append,htake,hdrop];generalize xs.flatMap E.enc=cs at*
 generalize ys.flatMap E.enc=ds at*
 apply List.ext_getElem?;intro t;rw[putAt_get _ _ _ _ (by rw[hl,hly];exact hm)];have hlt:(cs.take (p*E.z)).length=p*E.z:=by simp;omega
 by_cases e1:t<p*E.z
 ·rw[if_neg (by omega),List.append_assoc,List.getElem?_append_left (by omega),List.getElem?_take,if_pos e1]
 ·by_cases e2:t<p*E.z+ds.length
  ·rw[if_pos (by omega),List.getElem?_append_left (by rw[List.length_append];omega),List.getElem?_append_right (by omega),hlt]
  ·rw[if_neg (by omega),List.getElem?_append_right (by rw[List.length_append];omega),List.length_append,hlt,List.getElem?_drop,Nat.add_mul,←hly]
   congr 1;omega
section
variable {P:Program} {B:Nat} {w0 w:World} {L R:List Asn} {α:Type} {E:EncT α} {s:Sl} {xs:List α}
theorem Own.slRaw (h:Own B w0 w (SlT E s xs::R)):SlO E.z w s (xs.flatMap E.enc):=h.slO 0 rfl
theorem Own.stCells {z:Nat} {cs ds:List Value} {q b o:Nat} (h:Own B w0 w (SlA z s cs::R)) (ha:s.a=some ⟨b,o,none⟩) (hq:q+ds.length≤cs.length) (hone:∀v∈ds,v.oneCell'=true):
  ∃w',(storeCells ⟨b,o+q,none⟩ ds 0).run P w= .ok () w'/\Own B w0 w' (SlA z s (putAt cs q ds)::R):=by
 have hs:SlO z w s cs:=h.head fun _ h=>h.2
 have hlen:=hs.length;cases hs with
 |nil ha' _ _ _=>rw[ha'] at ha;cases ha
 |mk b' o' l ha' hb hle hc hcs=>
  rw[ha'] at ha;simp only[Option.some.injEq,Addr.mk.injEq,and_true] at ha;obtain ⟨rfl,rfl⟩:=ha;have m1:s.len*z≤s.cap*z:=Nat.mul_le_mul_right z hle;obtain ⟨w',h1,h2,h3,h4⟩:=storeCells_run (P:=P) ds l (o'+q) w hb (by omega) hone 0 (o'+q) (by omega);refine ⟨w',h1,h.step (A':=SlA z s (putAt cs q ds)) fun G hA hG=>⟨h2.mono fun k _ e=>by rw[e];exact hA.1 _ ha',G,⟨hA.1, ?_⟩,fun k hk=>⟨.inl hk,by have:=(hG k hk).2;omega⟩⟩⟩;refine .mk b' o' _ ha' h4 hle (by rw[putAt_len (by omega)];exact hc) ?_;rw[hcs,putAt_same l o' (s.len*z) (by omega) (by omega)]
theorem Own.toA (h:Own B w0 w (SlT E s xs::R)):Own B w0 w (SlA E.z s (xs.flatMap E.enc)::R):=h.conv fun _ h=>⟨h.1,h.2.2⟩
theorem Own.ofA {cs:List Value} (hl:s.len=xs.length) (hc:cs=xs.flatMap E.enc) (h:Own B w0 w (SlA E.z s cs::R)):Own B w0 w (SlT E s xs::R):=h.conv fun _ h=>⟨h.1,hl,hc▸h.2⟩
theorem firstCells_of {z n:Nat} {a:Addr} {cap len:Nat} {ds:List Value} (hn:ds.length=n*z) (hg:∀j v,ds[j]?=some v->w.cell? (a.add j)=some v):(Builtin.firstCells z n (.slice (some a) len cap)).run P w= .ok ⟨ds⟩ w:=by
 simp only[Builtin.firstCells];unfold loadCells;have:=loadCellsFrom_run (P:=P) w a ds 0 #[] (fun j v hj=>by rw[nth_eq] at hj;rw[Nat.zero_add];exact hg j v hj);rw[hn] at this;rw[this];simp
theorem Own.copyA {T el t:TypeId} {inf:TypeInfo} {z p dl dc b o sl sc:Nat} {cs ds:List Value} {sa:Addr} {k:Int->World->Prop} (hu:P.underlying T=some (.slice el)) (hi:P.info? el=some inf) (hsz:inf.size=z)
  (h:Own B w0 w (SlA z s cs::R)) (ha:s.a=some ⟨b,o,none⟩) (hd:ds.length=min sl dl*z) (hone:∀v∈ds,v.oneCell'=true) (hp:(p+min sl dl)*z≤cs.length)
  (hsrc:∀j v,ds[j]?=some v->w.cell? (sa.add j)=some v) (hk:∀w',Own B w0 w' (SlA z s (putAt cs (p*z) ds)::R)->k ((min sl dl:Nat):Int) w'):
  ∃n w',CopyR P [T,T] t (.slice (some ⟨b,o+p*z,none⟩) dl dc) (.slice (some sa) sl sc) w n w'/\k n w':=by
 have hsize:∀w,(sizeOf el).run P w= .ok z w:=fun w=>by rw[run_size hi w];simp[sz,hi,hsz]
 rw[Nat.add_mul] at hp;obtain ⟨w',h1,h2⟩:=h.stCells (P:=P) (q:=p*z) (ds:=ds) ha (by omega) hone;refine ⟨_,w', ?_,hk w' h2⟩;unfold CopyR Builtin.copy_;simp only[List.getElem?_toArray,List.getElem?_cons_zero,List.getElem?_cons_succ,Sem.run_bind,run_und hu,Result.andThen_ok,hsize,Builtin.lenOf,Sem.run_pure];rw[show Nat.min sl dl=min sl dl from rfl,firstCells_of (w:=w) hd hsrc];simp only[Result.andThen_ok,h1];rfl
theorem Own.appDel {T el:TypeId} {inf:TypeInfo} {i j:Nat} {k:Sl->World->Prop} (hu:P.underlying T=some (.slice el)) (hi:P.info? el=some inf) (hsz:inf.size=E.z) (h:Own B w0 w (SlT E s xs::R)) (hij:i≤j) (hj:j≤xs.length) (hi0:i<xs.length)
  (hk:∀w',Own B w0 w' (SlT E s (xs.take i++xs.drop j++xs.drop (i+(xs.length-j)))::R)->k ⟨s.a,i+(xs.length-j),s.cap⟩ w'):
  ∃t w',AppR P [T,T] T (.slice (slA s.a 0 s.cap E.z) (i-0) (s.cap-0)) (.slice (slA s.a j s.cap E.z) (s.len-j) (s.cap-j)) w t w'/\k t w':=by
 have hsize:∀w,(sizeOf el).run P w= .ok E.z w:=fun w=>by rw[run_size hi w];simp[sz,hi,hsz]
 have hl:=h.len 0 rfl;have hs:=h.slRaw;have hsp:=hs.spot;have hsub:=hs.sub (l:=j) (hh:=s.len) (by omega) (Nat.le_refl _)
 have hds:((xs.flatMap E.enc).take (s.len*E.z)).drop (j*E.z)=(xs.drop j).flatMap E.enc:=by
  rw[hl,←flat_len,List.take_length];have h1:xs.flatMap E.enc=(xs.take j).flatMap E.enc++(xs.drop j).flatMap E.enc:=by rw[←List.flatMap_append,List.take_append_drop]
  have h2:((xs.take j).flatMap E.enc).length=j*E.z:=by rw[flat_len];simp[hj]
  rw[h1,←h2,List.drop_left]
 rw[hds] at hsub;have hcells:=firstCells_run (P:=P) hsub (s.len-j) (Nat.le_refl _);have hdl:((xs.drop j).flatMap E.enc).length=(s.len-j)*E.z:=by rw[flat_len,List.length_drop,hl]
 rw[←hdl,List.take_length] at hcells;have hcap:=hs.le_cap;obtain ⟨b,o,ha,_⟩:=h.get 0 rfl (gE hi0)
 obtain ⟨w',h1,h2⟩:=h.toA.stCells (P:=P) (q:=i*E.z) (ds:=(xs.drop j).flatMap E.enc) ha (by
  rw[flat_len,flat_len,List.length_drop,←Nat.add_mul];exact Nat.mul_le_mul_right _ (by omega)) (fun v hv=>by
  obtain ⟨y,_,hy⟩:=List.mem_flatMap.1 hv;exact E.one y v hy)
 have e0:slA s.a 0 s.cap E.z=s.a:=slA0 _ _ _ hsp;refine ⟨_,w', ?_,hk w' (Own.ofA (cs:=putAt (xs.flatMap E.enc) (i*E.z) ((xs.drop j).flatMap E.enc)) ?_ ?_ h2)⟩
 ·unfold AppR Builtin.append_
  rw[e0];simp only[Nat.sub_zero];simp only[List.getElem?_toArray,List.getElem?_cons_zero,List.getElem?_cons_succ,Sem.run_bind,run_und hu,Result.andThen_ok,hsize,Builtin.lenOf,Sem.run_pure,Bool.false_eq_true,if_false,Bool.not_false];rw[if_pos (show i+(s.len-j)≤s.cap by omega)];simp only[if_true];rw[Sem.run_bind,hcells];simp only[Result.andThen_ok,ha,add_mk];rw[Sem.run_bind,h1,hl];rfl
 ·simp;omega
 ·rw[flat_put E xs (xs.drop j) i (by rw[List.length_drop];omega),List.length_drop]
end
end Go.Vc
namespace Go.Vc
open Go
theorem slA_some {a:Option Addr} {b o i cap z:Nat} (ha:a=some ⟨b,o,none⟩) (hne:cap≠i):Vc.slA a i cap z=some ⟨b,o+i*z,none⟩:=by
 unfold Vc.slA;rw[if_neg hne,ha];simp only[Option.map_some,add_mk]
section
variable {P:Program} {B:Nat} {w0 w:World} {L R:List Asn} {α:Type} {E:EncT α} {s:Sl} {xs:List α}
theorem Own.copyT {T el t:TypeId} {inf:TypeInfo} {p dl dc sl sc b o:Nat} {sa:Addr} {zs:List α} {k:Int->World->Prop} (hu:P.underlying T=some (.slice el)) (hi:P.info? el=some inf) (hsz:inf.size=E.z)
  (h:Own B w0 w (SlT E s xs::R)) (ha:s.a=some ⟨b,o,none⟩) (hzl:zs.length=min sl dl) (hp:p+zs.length≤xs.length) (hsrc:∀j v,(zs.flatMap E.enc)[j]?=some v->w.cell? (sa.add j)=some v)
  (hk:∀w',Own B w0 w' (SlT E s (xs.take p++zs++xs.drop (p+zs.length))::R)->k ((min sl dl:Nat):Int) w'):
  ∃n w',CopyR P [T,T] t (.slice (some ⟨b,o+p*E.z,none⟩) dl dc) (.slice (some sa) sl sc) w n w'/\k n w':=by
 have hl:=h.len 0 rfl
 refine h.toA.copyA hu hi hsz ha (p:=p) (ds:=zs.flatMap E.enc) (by rw[flat_len,hzl]) (fun v hv=>by
  obtain ⟨y,_,hy⟩:=List.mem_flatMap.1 hv;exact E.one y v hy) (by rw[flat_len,←hzl];exact Nat.mul_le_mul_right _ hp) hsrc fun w' h'=>hk w' (Own.ofA ?_ (flat_put E xs zs p hp) h')
 simp;omega
theorem Own.grow {m:Nat} (h:Own B w0 w (SlT E s xs::R)) (hm:xs.length+m≤s.cap) {b o:Nat} (ha:s.a=some ⟨b,o,none⟩):∃junk:List Value,junk.length=m*E.z/\Own B w0 w (SlA E.z ⟨s.a,xs.length+m,s.cap⟩ (xs.flatMap E.enc++junk)::R):=by
 obtain ⟨G,hA,hG,Z,h1,h2,h3,h4⟩:=h.held.cons_out;obtain ⟨hin,hlen,hs⟩:=hA;cases hs with
 |nil ha' _ _ _=>rw[ha'] at ha;cases ha
 |mk b' o' l ha' hb hle hc hcs=>
  have m1:(xs.length+m)*E.z≤s.cap*E.z:=Nat.mul_le_mul_right _ hm;rw[Nat.add_mul] at m1;refine ⟨(l.drop (o'+xs.length*E.z)).take (m*E.z),by simp;omega,h.base,h.upd,Held.cons_in (A:=SlA E.z ⟨s.a,xs.length+m,s.cap⟩ _) ⟨hin, .mk b' o' l ha' hb hm hc ?_⟩ hG h1 h2 h3 h4⟩;show _=(l.drop o').take ((xs.length+m)*E.z);rw[hcs,hlen,Nat.add_mul,List.take_add,List.drop_drop]
theorem Own.apart2 {A A':Asn} {p:Prop} (h:Own B w0 w (A::A'::R)) (hp:∀G G',A.holds G w->A'.holds G' w->(∀k,G k->¬G' k)->p):p:=by
 obtain ⟨Z,h1,h2,h3⟩:=h.held
 match Z,h1 with
 |x::y::Z,h1=>
  simp only[List.map_cons,List.cons.injEq] at h1;obtain ⟨rfl,rfl,_⟩:=h1;exact hp x.2 y.2 (h2 x (by simp)).1 (h2 y (by simp)).1 ((List.pairwise_cons.1 h3).1 y (by simp))
theorem Own.overlaps {f:FuncId} {fn:Func} {tS tR e:TypeId} {size la ca lb cb c b o o' z:Nat} {l:List Value} {cs:List Value} {s':Sl} (hf:P.funcs[f]?=some fn) (hname:(fn.name== "runtime.NumGoroutine")=false) (hb:fn.body.isNone=true) (hn:Extern.findNext fn=none)
  (he:Extern.find fn=some (Extern.SlicesOverlaps.overlaps #[tS,tS] #[tR])) (ht:P.underlying tS=some (.slice e)) (hz:∀w,(Go.sizeOf e).run P w= .ok size w)
  (h:Own B w0 w (BlkA c l::SlA z s' cs::R)) (ha:s'.a=some ⟨b,o,none⟩) (hcs:cs≠ []):ExtR P f #[.slice (some ⟨c,0,none⟩) la ca, .slice (some ⟨b,o',none⟩) lb cb] w (.bool false) w:=by
 refine h.apart2 fun G G' hA hA' hd=>?_
 have hne:c≠b:=fun e=>hd c hA.1 (by have:=hA'.1 _ ha;rw[e];exact this)
 obtain ⟨t1,ht1⟩:=hA.2;cases hA'.2 with
 |nil ha' _ _ _=>rw[ha'] at ha;cases ha
 |mk b' o2 l' ha' hb' hle hc hcs'=>
  rw[ha'] at ha;simp only[Option.some.injEq,Addr.mk.injEq,and_true] at ha;obtain ⟨rfl,rfl⟩:=ha;obtain ⟨t2,ht2⟩:=hb'
  have hl':l'.length≠0:=fun e=>by
   have:l'= []:=List.eq_nil_of_length_eq_zero e;subst this;simp at hcs';exact hcs hcs'
  unfold ExtR
  rw[run_callFunc_extern hf hname hb hn he,Lib.run_overlaps_apart w tS tR e ht size hz ⟨c,0,none⟩ ⟨b',o',none⟩ la ca lb cb hne t1 t2 l.length l'.length
   (by simp[World.shape?,ht1]) (by simp[World.shape?,ht2]) hl' (by simp[World.frozen?,ht1]) (by simp[World.frozen?,ht1])]
  rfl
theorem Own.appZ {T U el:TypeId} {inf:TypeInfo} {zv:Value} {z0:α} {i m:Nat} {ku:IntKind} {k:Sl->World->Prop} (hu:P.underlying T=some (.slice el)) (hui:P.underlying U=some (.int ku)) (hi:P.info? el=some inf) (hz:inf.zero=some zv) (hsz:inf.size=E.z) (hzc:zv.cells.toList=E.enc z0) (hb:1≤inf.bytes)
  (h:Own B w0 w (SlT E s xs::R)) (hi0:i≤xs.length) (hm1:1≤m) (hcap:s.cap<i+m) (hbig:(17*(i+m)+16000)*inf.bytes≤2^48)
  (hk:∀s' w',s'.len=i+m->s'.len≤s'.cap->Own B w0 w' (SlT E s' (xs.take i++List.replicate m z0)::SlT E s xs::R)->k s' w'):
  ∃s' w',AppR P [T,U] T (.slice (slA s.a 0 s.cap E.z) (i-0) (s.cap-0)) (.int .i64 (m:Int)) w s' w'/\k s' w':=by
 have hsize:∀w,(sizeOf el).run P w= .ok E.z w:=fun w=>by rw[run_size hi w];simp[sz,hi,hsz]
 have hinfo:∀w,(typeInfo el).run P w= .ok inf w:=fun w=>by simp[typeInfo,hi]
 have hzero:∀w,(zeroValue el).run P w= .ok zv w:=fun w=>by simp[zeroValue,hinfo,hz]
 have hl:=h.len 0 rfl;have hs:=h.slRaw;have hlc:=hs.le_cap;have hsp:=hs.spot;have e0:slA s.a 0 s.cap E.z=s.a:=slA0 _ _ _ hsp;have hzl:zv.cells.size=E.z:=by rw[←Array.length_toList,hzc,E.len]
 let need:=i+m
 let q:Question:= .appendCap need s.cap el
 let n:=q.cut (w.tape w.drawn q)
 have hle:=nextcap_le need s.cap
 have hlim:¬(Builtin.nextslicecap need s.cap*inf.bytes>2^48):=by
  have h0:Builtin.nextslicecap need s.cap≤17*(i+m)+16000:=by
   refine Nat.le_trans hle ?_;show i+m+16*s.cap+16000≤_;generalize 16000=y;omega
  have:Builtin.nextslicecap need s.cap*inf.bytes≤(17*(i+m)+16000)*inf.bytes:=Nat.mul_le_mul_right _ h0;omega
 have hneedb:need≤2^44:=by
  have h1:(17*(i+m)+16000)*1≤(17*(i+m)+16000)*inf.bytes:=Nat.mul_le_mul_left _ hb;show i+m≤_;omega
 have e44:(2:Nat)^44=17592186044416:=by decide
 rw[e44] at hneedb;have hneedb:i+m≤17592186044416:=hneedb
 have hn1:need≤n:=by
  show need≤need+_%_;omega
 let row:List Value:=(xs.take i).flatMap E.enc++(List.replicate m z0).flatMap E.enc++(Builtin.zeroCells zv.cells (n-need)).toList
 let w':=w.drew.alloc (.cells ⟨row⟩ el)
 have hpre:(xs.take i).flatMap E.enc=(xs.flatMap E.enc).take (i*E.z):=by
  have g1:xs.flatMap E.enc=(xs.take i).flatMap E.enc++(xs.drop i).flatMap E.enc:=by rw[←List.flatMap_append,List.take_append_drop]
  have g2:((xs.take i).flatMap E.enc).length=i*E.z:=by rw[flat_len];simp[hi0]
  rw[g1,←g2,List.take_left]
 have hold:(Builtin.firstCells E.z i (.slice s.a i s.cap)).run P w.drew= .ok ⟨(xs.take i).flatMap E.enc⟩ w.drew:=by
  have h1:=h.drop;have hp:=(h.same (w':=w.drew) (upd_heap rfl rfl rfl rfl)).pre 0 rfl (n:=i) hi0;have:=firstCells_run (P:=P) (hp.slO 0 rfl) i (Nat.le_refl _);rw[this,List.take_of_length_le (by rw[flat_len];simp[hi0])]
 have hzs:(Builtin.zeroCells zv.cells m).toList=(List.replicate m z0).flatMap E.enc:=by
  have h1:(Builtin.zeroCells zv.cells m)=⟨rep m zv.cells.toList⟩:=by
   unfold Builtin.zeroCells;exact zeros_eq zv.cells m (by rw[hzl];exact E.pos)
  have h2:∀m,rep m (E.enc z0)=(List.replicate m z0).flatMap E.enc:=by
   intro m
   induction m with
   |zero=>rfl
   |succ m ih=>simp[rep,List.replicate_succ,ih]
  rw[h1,hzc,h2]
 have hzl2:(Builtin.zeroCells zv.cells (n-need)).toList.length=(n-need)*E.z:=by simp[Builtin.zeroCells,hzl]
 refine ⟨⟨some ⟨w.heap.size,0,none⟩,need,n⟩,w', ?_,hk _ _ rfl hn1 ?_⟩
 ·have hint:∀w,(asInt (.int .i64 (m:Int))).run P w= .ok (m:Int) w:=fun w=>by simp[asInt,asIntOf]
  have hwm:IntKind.i64.wrap (m:Int)=(m:Int):=wr (by omega) (by omega)
  have hmb:¬((m:Int)*(inf.bytes:Int)>2^48):=by
   have h1:m*inf.bytes≤(17*(i+m)+16000)*inf.bytes:=Nat.mul_le_mul_right _ (by omega);have h2:m*inf.bytes≤2^48:=Nat.le_trans h1 hbig;have e48:(2:Int)^48=((2^48:Nat):Int):=by decide
   rw[e48,←Int.natCast_mul];omega
  have hm0:¬((m:Int)<0):=by omega
  have hcap2:¬(i+m≤s.cap):=by omega
  have hmax:¬(((i+m:Nat):Int)>IntKind.i64.max/\(True∨inf.bytes=0)):=by
   have:IntKind.i64.max=9223372036854775807:=by decide
   rw[this];omega
  unfold AppR Builtin.append_;rw[e0];simp only[Nat.sub_zero];have hint2:∀w,(asIntOf (.int .i64 (m:Int))).run P w= .ok (.i64,(m:Int)) w:=fun w=>by simp[asIntOf]
  simp only[List.getElem?_toArray,List.getElem?_cons_zero,List.getElem?_cons_succ,Sem.run_bind,run_und hu,run_und hui,Result.andThen_ok,hsize,Sem.run_pure,if_true,hint,hwm,hm0,if_false,hinfo,hmb,Int.toNat_natCast,hcap2,Bool.not_true,Bool.false_eq_true];rw[if_neg hmax,Sem.run_bind,hinfo];simp only[Result.andThen_ok];rw[if_neg hlim,Sem.run_bind,run_choose];have hf:Question.forced (.appendCap (i+m) s.cap el)=false:=rfl;simp only[hf,Bool.false_eq_true,if_false,Result.andThen_ok,World.drew_eq];rw[Sem.run_bind,hinfo];simp only[Result.andThen_ok];rw[Sem.run_bind,run_askRoom];simp only[Result.andThen_ok];rw[Sem.run_bind,hold];simp only[Result.andThen_ok]
  have hmz:¬(m*E.z=0):=by
   have hpos:=E.pos;intro e;rcases Nat.mul_eq_zero.1 e with e|e<;>omega
  rw[if_neg hmz];simp only[Sem.run_bind,hzero,Result.andThen_ok,Sem.run_pure,newRow,run_newObj]
  have hrow:((⟨(xs.take i).flatMap E.enc⟩:Array Value)++Builtin.zeroCells zv.cells m++Builtin.zeroCells zv.cells (n-need))=⟨row⟩:=by
   apply Array.ext';simp only[row,Array.toList_append,hzs]
  show Result.ok (Value.slice (some ⟨w.heap.size,0,none⟩) (i+m) n) (w.drew.alloc (.cells ((⟨(xs.take i).flatMap E.enc⟩:Array Value)++Builtin.zeroCells zv.cells m++Builtin.zeroCells zv.cells (n-need)) el))=_;rw[hrow]
 ·have hrl:row.length=n*E.z:=by
   simp only[row,List.length_append,flat_len,hzl2,List.length_take,Nat.min_eq_left hi0,List.length_replicate];rw[←Nat.add_mul,←Nat.add_mul];congr 1;show i+m+(n-(i+m))=n;have:i+m≤n:=hn1;omega
  have h2:=h.same (w':=w.drew) (upd_heap rfl rfl rfl rfl);refine h2.new (A':=SlT E ⟨some ⟨w.heap.size,0,none⟩,need,n⟩ (xs.take i++List.replicate m z0)) (G':=fun k=>k=w.heap.size) (upd_alloc _ _) ⟨fun a ha=>by cases ha;rfl,by simp[need,hi0], ?_⟩ fun k e=>by subst e;exact ⟨Nat.le_refl _,by simp[w']⟩
  refine .mk w.heap.size 0 row rfl ⟨el,heap_alloc_new w.drew _⟩ hn1 (by rw[hrl];show 0+n*E.z≤n*E.z;omega) ?_;show _=(row.drop 0).take ((i+m)*E.z);have:(i+m)*E.z=((xs.take i++List.replicate m z0).flatMap E.enc).length:=by rw[flat_len];simp[hi0]
  rw[this,List.drop_zero];simp only[row];rw[←List.flatMap_append,List.take_left]
end
end Go.Vc
namespace Go.Vc
open Go
section
variable {P:Program} {B:Nat} {w0 w:World} {L R:List Asn} {α:Type} {E:EncT α} {s:Sl} {xs:List α}
theorem Own.partA [I:SlIn s L α E xs] (h:Own B w0 w L) {p n t:Nat} (hp:p+n≤xs.length) (ht:t<n):
  ∃a a0,s.a=some a0/\Vc.slA s.a p s.cap E.z=some a/\a.add (t*E.z)=a0.add ((p+t)*E.z):=by
 obtain ⟨b,o,ha,_⟩:=h.get I.i I.at_ (gE (show p<xs.length by omega));have hl:=h.len I.i I.at_;have hc:=(h.slO I.i I.at_).le_cap;refine ⟨_,_,ha,slA_some ha (by omega), ?_⟩;rw[add_mk,add_mk,Nat.add_mul,Nat.add_assoc]
theorem Rd.part [I:SlIn s L α E xs] {p n c:Nat} (hp:p+n≤xs.length):Rd E B w0 L ⟨Vc.slA s.a p s.cap E.z,n,c⟩ ((xs.drop p).take n):=by
 refine ⟨by simp;omega,fun w' h i j x hij hj=>?_⟩;rw[List.getElem?_take] at hj;split at hj
 ·rename_i hjn
  rw[List.getElem?_drop] at hj;obtain ⟨a,a0,ha0,ha,he⟩:=h.partA (s:=s) (E:=E) (p:=p) (n:=n) (t:=j) hp hjn;obtain ⟨h0,hc⟩:=h.ixa (s:=s) (E:=E) (i:=((p+j:Nat):Int)) (j:=p+j) rfl hj ha0;have hi:i.toNat=j:=by omega
  rw[Int.toNat_natCast] at h0 hc;refine ⟨a,ha,fun v hv=>?_,fun c v hv=>?_⟩
  ·rw[hi,he];exact h0 v hv
  ·rw[hi,he];exact hc c v hv
 ·cases hj
end
end Go.Vc
end
section
namespace Go.Proofs.YtogmbmdbgkopjaaGreat
open Go Go.Vc Go.Proofs
def bodyOf (f:Func):Code:=f.body.getD .skip
theorem okF_mk {P:Program} {f:FuncId} {fn:Func} {c:Code} {p:Prop} (hf:P.funcs[f]?=some fn) (hb:fn.body=some c) (h:p):okF P f p:=by
 unfold okF;rw[hf];simp only[hb];exact h
theorem okF_out {P:Program} {f:FuncId} {p:Prop} (h:okF P f p):p:=by
 unfold okF at h;split at h<;>first|exact h.elim|(split at h<;>first|exact h.elim|exact h)
theorem names_ok:∀(f:Nat) (fn:Func),Tryz.prog.funcs[f]?=some fn->(fn.name== "runtime.NumGoroutine")=false:=by
 have h:Tryz.prog.funcs.toList.all (fun fn=> !(fn.name== "runtime.NumGoroutine"))=true:=by kernel_rfl
 intro f fn hf;have:=List.all_eq_true.1 h fn (by rw[Array.mem_toList_iff];exact Array.mem_of_getElem? hf);simpa using this
theorem follows_ok:Tryz.prog.follows .mixedOrders=true:=by kernel_rfl
set_option maxRecDepth 100000 in
theorem okS {f:FuncId} {fn:Func} (hf:Tryz.prog.funcs[f]?=some fn) (an:An) (cs:List (Nat × Sh)) (args:List Value) (K:Tel cs) {w:World} {p:Prop} (hb:fn.body=some (bodyOf fn)) (hok:fnOk Tryz.prog fn (bodyOf fn) an cs args.length=true) (e:p=fnV Tryz.prog fn (bodyOf fn) an cs args K w) (h:p):okF Tryz.prog f (Calls Tryz.prog f ⟨args⟩ w (exK cs K [])):=
 okF_mk hf hb (fn_sound names_ok follows_ok hf hb hok (Eq.mp e h))
def C.qbE (kind1:Int) (n2:Int) (with3:Int) (K:Bool->World->Prop) (w:World):Prop:=okF Tryz.prog 3 (Calls Tryz.prog 3 #[.int .i64 kind1, .int .i64 n2, .int .i64 with3] w fun en w'=>∃r4,en= .returned (.bool r4)/\K r4 w')
def C.qbu (n1:Int) (prio2:Int) (K:Bool->World->Prop) (w:World):Prop:=okF Tryz.prog 4 (Calls Tryz.prog 4 #[.int .i64 n1, .int .i64 prio2] w fun en w'=>∃r3,en= .returned (.bool r3)/\K r3 w')
def C.qbF (label1:Int) (word2:Int) (badge3:Int) (K:Bool->World->Prop) (w:World):Prop:=okF Tryz.prog 5 (Calls Tryz.prog 5 #[.int .i64 label1, .int .i64 word2, .int .i64 badge3] w fun en w'=>∃r4,en= .returned (.bool r4)/\K r4 w')
def C.qbG (page1:Int) (rights2:Int) (some3:Int) (K:Bool->World->Prop) (w:World):Prop:=okF Tryz.prog 6 (Calls Tryz.prog 6 #[.int .i64 page1, .int .i64 rights2, .int .i64 some3] w fun en w'=>∃r4,en= .returned (.bool r4)/\K r4 w')
def C.qbH (rights1:Int) (badge2:Int) (K:Bool->World->Prop) (w:World):Prop:=okF Tryz.prog 7 (Calls Tryz.prog 7 #[.int .i64 rights1, .int .i64 badge2] w fun en w'=>∃r3,en= .returned (.bool r3)/\K r3 w')
def C.qbW (badge1:Int) (times2:Int) (K:Bool->World->Prop) (w:World):Prop:=okF Tryz.prog 9 (Calls Tryz.prog 9 #[.int .i64 badge1, .int .i64 times2] w fun en w'=>∃r3,en= .returned (.bool r3)/\K r3 w')
def C.qH (b1:Int) (b2:Int) (b3:Int) (b4:Sl) (K:Option Addr->Int->World->Prop) (w:World):Prop:=okF Tryz.prog 14 (Calls Tryz.prog 14 #[.agg #[.int .i64 b1, .int .i64 b2, .int .i64 b3, .slice b4.a b4.len b4.cap]] w fun en w'=>∃r5,∃r6,en= .returned (.tuple #[.pointer r5, .int .i64 r6])/\K r5 r6 w')
def C.qE (k1:Option Addr) (K:Sl->World->Prop) (w:World):Prop:=okF Tryz.prog 15 (Calls Tryz.prog 15 #[.pointer k1] w fun en w'=>∃r2:Sl,en= .returned (.slice r2.a r2.len r2.cap)/\K r2 w')
def C.qa (k1:Option Addr) (core2:Int) (c3:Int) (c4:Int) (c5:Int) (c6:Int) (c7:Int) (c8:Int) (K:Int->Int->Int->Sl->World->Prop) (w:World):Prop:=okF Tryz.prog 16 (Calls Tryz.prog 16 #[.pointer k1, .int .i64 core2, .agg #[.int .i64 c3, .int .i64 c4, .int .i64 c5, .int .i64 c6, .int .i64 c7, .int .i64 c8]] w fun en w'=>∃r9,∃r10,∃r11,∃r12:Sl,en= .returned (.agg #[.int .i64 r9, .int .u64 r10, .int .i64 r11, .slice r12.a r12.len r12.cap])/\K r9 r10 r11 r12 w')
def C.qcz (a1:Sl) (b2:Sl) (K:Bool->World->Prop) (w:World):Prop:=okF Tryz.prog 17 (Calls Tryz.prog 17 #[.slice a1.a a1.len a1.cap, .slice b2.a b2.len b2.cap] w fun en w'=>∃r3,en= .returned (.bool r3)/\K r3 w')
def C.qaA (K:Bool->World->Prop) (w:World):Prop:=okF Tryz.prog 18 (Calls Tryz.prog 18 #[] w fun en w'=>∃r1,en= .returned (.bool r1)/\K r1 w')
def C.qag (k1:Option Addr) (core2:Int) (K:Int->Bool->World->Prop) (w:World):Prop:=okF Tryz.prog 19 (Calls Tryz.prog 19 #[.pointer k1, .int .i64 core2] w fun en w'=>∃r3,∃r4,en= .returned (.tuple #[.int .i64 r3, .bool r4])/\K r3 r4 w')
def C.qN (k1:Option Addr) (id2:Int) (K:Int->Int->Int->Int->Int->Int->Int->Int->Int->Int->Int->Int->Int->World->Prop) (w:World):Prop:=okF Tryz.prog 20 (Calls Tryz.prog 20 #[.pointer k1, .int .i64 id2] w fun en w'=>∃r3,∃r4,∃r5,∃r6,∃r7,∃r8,∃r9,∃r10,∃r11,∃r12,∃r13,∃r14,∃r15,en= .returned (.tuple #[.agg #[.int .i64 r3, .int .i64 r4, .int .i64 r5, .int .i64 r6, .int .u64 r7, .int .u64 r8, .int .u64 r9, .int .u64 r10, .int .u64 r11, .int .u64 r12, .int .u64 r13, .int .u64 r14], .int .i64 r15])/\K r3 r4 r5 r6 r7 r8 r9 r10 r11 r12 r13 r14 r15 w')
def C.qal (k1:Option Addr) (n2:Int) (K:Sl->World->Prop) (w:World):Prop:=okF Tryz.prog 21 (Calls Tryz.prog 21 #[.pointer k1, .int .i64 n2] w fun en w'=>∃r3:Sl,en= .returned (.slice r3.a r3.len r3.cap)/\K r3 w')
def C.qaD (k1:Option Addr) (n2:Int) (K:Sl->Bool->World->Prop) (w:World):Prop:=okF Tryz.prog 22 (Calls Tryz.prog 22 #[.pointer k1, .int .i64 n2] w fun en w'=>∃r3:Sl,∃r4,en= .returned (.tuple #[.slice r3.a r3.len r3.cap, .bool r4])/\K r3 r4 w')
def C.qco (a1:Bool) (b2:Bool) (K:Bool->World->Prop) (w:World):Prop:=okF Tryz.prog 23 (Calls Tryz.prog 23 #[.bool a1, .bool b2] w fun en w'=>∃r3,en= .returned (.bool r3)/\K r3 w')
def C.qaL (k1:Option Addr) (line2:Int) (K:Int->Int->World->Prop) (w:World):Prop:=okF Tryz.prog 26 (Calls Tryz.prog 26 #[.pointer k1, .int .i64 line2] w fun en w'=>∃r3,∃r4,en= .returned (.tuple #[.int .i64 r3, .int .i64 r4])/\K r3 r4 w')
def C.qat (k1:Option Addr) (n2:Int) (K:Int->Bool->World->Prop) (w:World):Prop:=okF Tryz.prog 27 (Calls Tryz.prog 27 #[.pointer k1, .int .i64 n2] w fun en w'=>∃r3,∃r4,en= .returned (.tuple #[.int .u64 r3, .bool r4])/\K r3 r4 w')
def C.qY (k1:Option Addr) (n2:Int) (K:Int->Int->Int->Bool->World->Prop) (w:World):Prop:=okF Tryz.prog 30 (Calls Tryz.prog 30 #[.pointer k1, .int .i64 n2] w fun en w'=>∃r3,∃r4,∃r5,∃r6,en= .returned (.tuple #[.agg #[.int .u64 r3, .int .i64 r4, .int .u64 r5], .bool r6])/\K r3 r4 r5 r6 w')
def C.qct (b1:Int) (b2:Int) (b3:Int) (b4:Sl) (K:Bool->World->Prop) (w:World):Prop:=okF Tryz.prog 40 (Calls Tryz.prog 40 #[.agg #[.int .i64 b1, .int .i64 b2, .int .i64 b3, .slice b4.a b4.len b4.cap]] w fun en w'=>∃r5,en= .returned (.bool r5)/\K r5 w')
def C.qcD (K:Option Addr->World->Prop) (w:World):Prop:=okF Tryz.prog 41 (Calls Tryz.prog 41 #[] w fun en w'=>∃r1,en= .returned (.pointer r1)/\K r1 w')
def C.qcJ (K:Option Addr->World->Prop) (w:World):Prop:=okF Tryz.prog 42 (Calls Tryz.prog 42 #[] w fun en w'=>∃r1,en= .returned (.pointer r1)/\K r1 w')
def C.qbR (K:Option Addr->World->Prop) (w:World):Prop:=okF Tryz.prog 43 (Calls Tryz.prog 43 #[] w fun en w'=>∃r1,en= .returned (.pointer r1)/\K r1 w')
def C.qcA (cores1:Int) (K:Option Addr->Int->World->Prop) (w:World):Prop:=okF Tryz.prog 44 (Calls Tryz.prog 44 #[.int .i64 cores1] w fun en w'=>∃r2,∃r3,en= .returned (.tuple #[.pointer r2, .int .i64 r3])/\K r2 r3 w')
def C.qcT (n1:Int) (K:Option Addr->Int->World->Prop) (w:World):Prop:=okF Tryz.prog 45 (Calls Tryz.prog 45 #[.int .i64 n1] w fun en w'=>∃r2,∃r3,en= .returned (.tuple #[.pointer r2, .int .i64 r3])/\K r2 r3 w')
def C.qaX (n1:Option Addr) (bits2:Int) (K:Int->Int->World->Prop) (w:World):Prop:=okF Tryz.prog 46 (Calls Tryz.prog 46 #[.pointer n1, .int .i64 bits2] w fun en w'=>∃r3,∃r4,en= .returned (.tuple #[.int .i64 r3, .int .i64 r4])/\K r3 r4 w')
def C.qF (k1:Option Addr) (i2:Int) (kind3:Int) (obj4:Int) (K:Int->World->Prop) (w:World):Prop:=okF Tryz.prog 47 (Calls Tryz.prog 47 #[.pointer k1, .int .i64 i2, .int .i64 kind3, .int .i64 obj4] w fun en w'=>∃r5,en= .returned (.int .i64 r5)/\K r5 w')
def C.qB (t1:Option Addr) (p2:Int) (core3:Int) (K:Int->Int->World->Prop) (w:World):Prop:=okF Tryz.prog 48 (Calls Tryz.prog 48 #[.pointer t1, .int .i64 p2, .int .i64 core3] w fun en w'=>∃r4,∃r5,en= .returned (.tuple #[.int .i64 r4, .int .i64 r5])/\K r4 r5 w')
def C.qv (t1:Option Addr) (id2:Int) (K:Int->World->Prop) (w:World):Prop:=okF Tryz.prog 49 (Calls Tryz.prog 49 #[.pointer t1, .int .i64 id2] w fun en w'=>∃r3,en= .returned (.int .i64 r3)/\K r3 w')
def C.qC (t1:Option Addr) (core2:Int) (K:Int->Bool->World->Prop) (w:World):Prop:=okF Tryz.prog 50 (Calls Tryz.prog 50 #[.pointer t1, .int .i64 core2] w fun en w'=>∃r3,∃r4,en= .returned (.tuple #[.int .i64 r3, .bool r4])/\K r3 r4 w')
def C.qaY (n1:Option Addr) (K:Sl->World->Prop) (w:World):Prop:=okF Tryz.prog 51 (Calls Tryz.prog 51 #[.pointer n1] w fun en w'=>∃r2:Sl,en= .returned (.slice r2.a r2.len r2.cap)/\K r2 w')
def C.qam (t1:Option Addr) (core2:Int) (K:Bool->World->Prop) (w:World):Prop:=okF Tryz.prog 52 (Calls Tryz.prog 52 #[.pointer t1, .int .i64 core2] w fun en w'=>∃r3,en= .returned (.bool r3)/\K r3 w')
def C.qaR (d1:Option Addr) (K:Int->World->Prop) (w:World):Prop:=okF Tryz.prog 53 (Calls Tryz.prog 53 #[.pointer d1] w fun en w'=>∃r2,en= .returned (.int .i64 r2)/\K r2 w')
def C.qcR (K:Int->Int->Int->Sl->World->Prop) (w:World):Prop:=okF Tryz.prog 54 (Calls Tryz.prog 54 #[] w fun en w'=>∃r1,∃r2,∃r3,∃r4:Sl,en= .returned (.agg #[.int .i64 r1, .int .i64 r2, .int .i64 r3, .slice r4.a r4.len r4.cap])/\K r1 r2 r3 r4 w')
def C.qO (t1:Option Addr) (core2:Int) (K:Int->Bool->World->Prop) (w:World):Prop:=okF Tryz.prog 55 (Calls Tryz.prog 55 #[.pointer t1, .int .i64 core2] w fun en w'=>∃r3,∃r4,en= .returned (.tuple #[.int .i64 r3, .bool r4])/\K r3 r4 w')
def C.qaa (t1:Option Addr) (id2:Int) (K:Int->Int->Int->Int->Int->Int->Int->Int->Int->Int->Int->Int->Int->World->Prop) (w:World):Prop:=okF Tryz.prog 56 (Calls Tryz.prog 56 #[.pointer t1, .int .i64 id2] w fun en w'=>∃r3,∃r4,∃r5,∃r6,∃r7,∃r8,∃r9,∃r10,∃r11,∃r12,∃r13,∃r14,∃r15,en= .returned (.tuple #[.agg #[.int .i64 r3, .int .i64 r4, .int .i64 r5, .int .i64 r6, .int .u64 r7, .int .u64 r8, .int .u64 r9, .int .u64 r10, .int .u64 r11, .int .u64 r12, .int .u64 r13, .int .u64 r14], .int .i64 r15])/\K r3 r4 r5 r6 r7 r8 r9 r10 r11 r12 r13 r14 r15 w')
def C.qaB (l1:Sl) (n2:Int) (K:Bool->World->Prop) (w:World):Prop:=okF Tryz.prog 57 (Calls Tryz.prog 57 #[.slice l1.a l1.len l1.cap, .int .i64 n2] w fun en w'=>∃r3,en= .returned (.bool r3)/\K r3 w')
def C.qau (s1:Option Addr) (K:Sl->World->Prop) (w:World):Prop:=okF Tryz.prog 58 (Calls Tryz.prog 58 #[.pointer s1] w fun en w'=>∃r2:Sl,en= .returned (.slice r2.a r2.len r2.cap)/\K r2 w')
def C.qV (l1:Sl) (n2:Int) (K:Bool->World->Prop) (w:World):Prop:=okF Tryz.prog 59 (Calls Tryz.prog 59 #[.slice l1.a l1.len l1.cap, .int .i64 n2] w fun en w'=>∃r3,en= .returned (.bool r3)/\K r3 w')
def C.qad (p1:Option Addr) (K:Sl->Bool->World->Prop) (w:World):Prop:=okF Tryz.prog 60 (Calls Tryz.prog 60 #[.pointer p1] w fun en w'=>∃r2:Sl,∃r3,en= .returned (.tuple #[.slice r2.a r2.len r2.cap, .bool r3])/\K r2 r3 w')
def C.qbJ (l1:Option Addr) (n2:Int) (K:Int->Int->Bool->Int->World->Prop) (w:World):Prop:=okF Tryz.prog 75 (Calls Tryz.prog 75 #[.pointer l1, .int .i64 n2] w fun en w'=>∃r3,∃r4,∃r5,∃r6,en= .returned (.tuple #[.int .i64 r3, .int .u64 r4, .bool r5, .int .i64 r6])/\K r3 r4 r5 r6 w')
def C.qP (k1:Option Addr) (n2:Int) (badge3:Int) (K:Int->World->Prop) (w:World):Prop:=okF Tryz.prog 76 (Calls Tryz.prog 76 #[.pointer k1, .int .i64 n2, .int .u64 badge3] w fun en w'=>∃r4,en= .returned (.int .i64 r4)/\K r4 w')
def C.qar (l1:Sl) (n2:Int) (K:Bool->World->Prop) (w:World):Prop:=okF Tryz.prog 77 (Calls Tryz.prog 77 #[.slice l1.a l1.len l1.cap, .int .i64 n2] w fun en w'=>∃r3,en= .returned (.bool r3)/\K r3 w')
def C.qaS (n1:Option Addr) (K:Int->Bool->World->Prop) (w:World):Prop:=okF Tryz.prog 78 (Calls Tryz.prog 78 #[.pointer n1] w fun en w'=>∃r2,∃r3,en= .returned (.tuple #[.int .u64 r2, .bool r3])/\K r2 r3 w')
def C.qaP (l1:Sl) (n2:Int) (K:Bool->World->Prop) (w:World):Prop:=okF Tryz.prog 80 (Calls Tryz.prog 80 #[.slice l1.a l1.len l1.cap, .int .i64 n2] w fun en w'=>∃r3,en= .returned (.bool r3)/\K r3 w')
def C.qcn (p1:Int) (K:Bool->World->Prop) (w:World):Prop:=okF Tryz.prog 102 (Calls Tryz.prog 102 #[.int .i64 p1] w fun en w'=>∃r2,en= .returned (.bool r2)/\K r2 w')
def C.qW (s1:Sl) (f2:Value) (K:Bool->World->Prop) (w:World):Prop:=okF Tryz.prog 103 (Calls Tryz.prog 103 #[.slice s1.a s1.len s1.cap,f2] w fun en w'=>∃r3,en= .returned (.bool r3)/\K r3 w')
def C.qan (x1:Sl) (count2:Int) (K:Sl->World->Prop) (w:World):Prop:=okF Tryz.prog 104 (Calls Tryz.prog 104 #[.slice x1.a x1.len x1.cap, .int .i64 count2] w fun en w'=>∃r3:Sl,en= .returned (.slice r3.a r3.len r3.cap)/\K r3 w')
def C.qcL (K:Option Addr->World->Prop) (w:World):Prop:=okF Tryz.prog 105 (Calls Tryz.prog 105 #[] w fun en w'=>∃r1,en= .returned (.pointer r1)/\K r1 w')
def C.qbr (n1:Option Addr) (s2:Int) (s3:Int) (c4:Int) (c5:Int) (c6:Int) (c7:Int) (c8:Int) (c9:Int) (K:Int->World->Prop) (w:World):Prop:=okF Tryz.prog 106 (Calls Tryz.prog 106 #[.pointer n1, .agg #[.int .i64 s2, .int .i64 s3], .agg #[.int .i64 c4, .int .i64 c5, .int .i64 c6, .int .u64 c7, .int .u64 c8, .int .i64 c9]] w fun en w'=>∃r10,en= .returned (.int .i64 r10)/\K r10 w')
def C.qbX (t1:Option Addr) (s2:Int) (s3:Int) (K:Int->World->Prop) (w:World):Prop:=okF Tryz.prog 107 (Calls Tryz.prog 107 #[.pointer t1, .agg #[.int .i64 s2, .int .i64 s3]] w fun en w'=>∃r4,en= .returned (.int .i64 r4)/\K r4 w')
def C.qcd (n1:Int) (K:Bool->World->Prop) (w:World):Prop:=okF Tryz.prog 108 (Calls Tryz.prog 108 #[.int .i64 n1] w fun en w'=>∃r2,en= .returned (.bool r2)/\K r2 w')
def C.qQ (t1:Option Addr) (n2:Int) (K:Bool->World->Prop) (w:World):Prop:=okF Tryz.prog 109 (Calls Tryz.prog 109 #[.pointer t1, .int .i64 n2] w fun en w'=>∃r3,en= .returned (.bool r3)/\K r3 w')
def C.qs (t1:Option Addr) (id2:Int) (K:Option Addr->World->Prop) (w:World):Prop:=okF Tryz.prog 110 (Calls Tryz.prog 110 #[.pointer t1, .int .i64 id2] w fun en w'=>∃r3,en= .returned (.pointer r3)/\K r3 w')
def C.qw (t1:Option Addr) (id2:Int) (K:World->Prop) (w:World):Prop:=okF Tryz.prog 111 (Calls Tryz.prog 111 #[.pointer t1, .int .i64 id2] w fun en w'=>en= .returned (.tuple #[])/\K w')
def C.qbv (q1:Option Addr) (K:Int->Bool->World->Prop) (w:World):Prop:=okF Tryz.prog 112 (Calls Tryz.prog 112 #[.pointer q1] w fun en w'=>∃r2,∃r3,en= .returned (.tuple #[.int .i64 r2, .bool r3])/\K r2 r3 w')
def C.qh (t1:Option Addr) (id2:Int) (state3:Int) (K:World->Prop) (w:World):Prop:=okF Tryz.prog 113 (Calls Tryz.prog 113 #[.pointer t1, .int .i64 id2, .int .i64 state3] w fun en w'=>en= .returned (.tuple #[])/\K w')
def C.qy (seq1:Value) (cmp2:Value) (K:Sl->World->Prop) (w:World):Prop:=okF Tryz.prog 114 (Calls Tryz.prog 114 #[seq1,cmp2] w fun en w'=>∃r3:Sl,en= .returned (.slice r3.a r3.len r3.cap)/\K r3 w')
def C.qc (m1:Option Nat) (K:Value->World->Prop) (w:World):Prop:=okF Tryz.prog 115 (Calls Tryz.prog 115 #[.map m1] w fun en w'=>∃r2:Value,en= .returned (r2)/\K r2 w')
def C.qcK (a1:Int) (a2:Int) (b3:Int) (b4:Int) (K:Int->World->Prop) (w:World):Prop:=okF Tryz.prog 116 (Calls Tryz.prog 116 #[.agg #[.int .i64 a1, .int .i64 a2], .agg #[.int .i64 b3, .int .i64 b4]] w fun en w'=>∃r5,en= .returned (.int .i64 r5)/\K r5 w')
def C.qcu (ask1:Int) (K:Int->Int->World->Prop) (w:World):Prop:=okF Tryz.prog 117 (Calls Tryz.prog 117 #[.int .i64 ask1] w fun en w'=>∃r2,∃r3,en= .returned (.agg #[.int .i64 r2, .int .i64 r3])/\K r2 r3 w')
def C.qb (k1:Option Addr) (n2:Int) (kind3:Int) (K:Int->Int->Int->Int->Int->Int->Int->Int->Bool->World->Prop) (w:World):Prop:=okF Tryz.prog 118 (Calls Tryz.prog 118 #[.pointer k1, .int .i64 n2, .int .i64 kind3] w fun en w'=>∃r4,∃r5,∃r6,∃r7,∃r8,∃r9,∃r10,∃r11,∃r12,en= .returned (.tuple #[.agg #[.int .i64 r4, .int .i64 r5], .agg #[.int .i64 r6, .int .i64 r7, .int .i64 r8, .int .u64 r9, .int .u64 r10, .int .i64 r11], .bool r12])/\K r4 r5 r6 r7 r8 r9 r10 r11 r12 w')
def C.qaE (d1:Option Addr) (K:Int->World->Prop) (w:World):Prop:=okF Tryz.prog 119 (Calls Tryz.prog 119 #[.pointer d1] w fun en w'=>∃r2,en= .returned (.int .i64 r2)/\K r2 w')
def C.qbg (d1:Option Addr) (K:Int->World->Prop) (w:World):Prop:=okF Tryz.prog 120 (Calls Tryz.prog 120 #[.pointer d1] w fun en w'=>∃r2,en= .returned (.int .i64 r2)/\K r2 w')
def C.qbh (d1:Option Addr) (K:Int->World->Prop) (w:World):Prop:=okF Tryz.prog 121 (Calls Tryz.prog 121 #[.pointer d1] w fun en w'=>∃r2,en= .returned (.int .i64 r2)/\K r2 w')
def C.qaF (d1:Option Addr) (K:Int->World->Prop) (w:World):Prop:=okF Tryz.prog 122 (Calls Tryz.prog 122 #[.pointer d1] w fun en w'=>∃r2,en= .returned (.int .i64 r2)/\K r2 w')
def C.qcQ (d1:Option Addr) (K:Int->World->Prop) (w:World):Prop:=okF Tryz.prog 123 (Calls Tryz.prog 123 #[.pointer d1] w fun en w'=>∃r2,en= .returned (.int .i64 r2)/\K r2 w')
def C.qaG (d1:Option Addr) (K:Int->World->Prop) (w:World):Prop:=okF Tryz.prog 124 (Calls Tryz.prog 124 #[.pointer d1] w fun en w'=>∃r2,en= .returned (.int .i64 r2)/\K r2 w')
def C.qav (d1:Option Addr) (K:Int->World->Prop) (w:World):Prop:=okF Tryz.prog 125 (Calls Tryz.prog 125 #[.pointer d1] w fun en w'=>∃r2,en= .returned (.int .i64 r2)/\K r2 w')
def C.qbi (d1:Option Addr) (K:Int->World->Prop) (w:World):Prop:=okF Tryz.prog 126 (Calls Tryz.prog 126 #[.pointer d1] w fun en w'=>∃r2,en= .returned (.int .i64 r2)/\K r2 w')
def C.qbj (d1:Option Addr) (K:Int->World->Prop) (w:World):Prop:=okF Tryz.prog 127 (Calls Tryz.prog 127 #[.pointer d1] w fun en w'=>∃r2,en= .returned (.int .i64 r2)/\K r2 w')
def C.qbk (d1:Option Addr) (K:Int->World->Prop) (w:World):Prop:=okF Tryz.prog 128 (Calls Tryz.prog 128 #[.pointer d1] w fun en w'=>∃r2,en= .returned (.int .i64 r2)/\K r2 w')
def C.qah (d1:Option Addr) (K:Int->World->Prop) (w:World):Prop:=okF Tryz.prog 129 (Calls Tryz.prog 129 #[.pointer d1] w fun en w'=>∃r2,en= .returned (.int .i64 r2)/\K r2 w')
def C.qbl (d1:Option Addr) (K:Int->World->Prop) (w:World):Prop:=okF Tryz.prog 130 (Calls Tryz.prog 130 #[.pointer d1] w fun en w'=>∃r2,en= .returned (.int .i64 r2)/\K r2 w')
def C.qaT (d1:Option Addr) (K:Int->World->Prop) (w:World):Prop:=okF Tryz.prog 131 (Calls Tryz.prog 131 #[.pointer d1] w fun en w'=>∃r2,en= .returned (.int .i64 r2)/\K r2 w')
def C.qaH (d1:Option Addr) (K:Int->World->Prop) (w:World):Prop:=okF Tryz.prog 132 (Calls Tryz.prog 132 #[.pointer d1] w fun en w'=>∃r2,en= .returned (.int .i64 r2)/\K r2 w')
def C.qaU (d1:Option Addr) (K:Int->World->Prop) (w:World):Prop:=okF Tryz.prog 133 (Calls Tryz.prog 133 #[.pointer d1] w fun en w'=>∃r2,en= .returned (.int .i64 r2)/\K r2 w')
def C.qbm (d1:Option Addr) (K:Int->World->Prop) (w:World):Prop:=okF Tryz.prog 134 (Calls Tryz.prog 134 #[.pointer d1] w fun en w'=>∃r2,en= .returned (.int .i64 r2)/\K r2 w')
def C.qbw (d1:Option Addr) (K:Int->World->Prop) (w:World):Prop:=okF Tryz.prog 135 (Calls Tryz.prog 135 #[.pointer d1] w fun en w'=>∃r2,en= .returned (.int .i64 r2)/\K r2 w')
def C.qD (t1:Int) (t2:Option Nat) (K:Sl->World->Prop) (w:World):Prop:=okF Tryz.prog 136 (Calls Tryz.prog 136 #[.agg #[.int .i64 t1, .map t2]] w fun en w'=>∃r3:Sl,en= .returned (.slice r3.a r3.len r3.cap)/\K r3 w')
def C.qbC (l1:Option Addr) (n2:Int) (K:Option Addr->World->Prop) (w:World):Prop:=okF Tryz.prog 146 (Calls Tryz.prog 146 #[.pointer l1, .int .i64 n2] w fun en w'=>∃r3,en= .returned (.pointer r3)/\K r3 w')
def C.qaw (n1:Option Addr) (badge2:Int) (K:Int->Int->Bool->World->Prop) (w:World):Prop:=okF Tryz.prog 147 (Calls Tryz.prog 147 #[.pointer n1, .int .u64 badge2] w fun en w'=>∃r3,∃r4,∃r5,en= .returned (.tuple #[.int .i64 r3, .int .u64 r4, .bool r5])/\K r3 r4 r5 w')
def C.qu (t1:Option Addr) (id2:Int) (i3:Int) (v4:Int) (K:Int->World->Prop) (w:World):Prop:=okF Tryz.prog 148 (Calls Tryz.prog 148 #[.pointer t1, .int .i64 id2, .int .i64 i3, .int .u64 v4] w fun en w'=>∃r5,en= .returned (.int .i64 r5)/\K r5 w')
def C.qbN (l1:Sl) (K:Sl->World->Prop) (w:World):Prop:=okF Tryz.prog 149 (Calls Tryz.prog 149 #[.slice l1.a l1.len l1.cap] w fun en w'=>∃r2:Sl,en= .returned (.slice r2.a r2.len r2.cap)/\K r2 w')
def C.qp (s1:Sl) (f2:Value) (K:Int->World->Prop) (w:World):Prop:=okF Tryz.prog 186 (Calls Tryz.prog 186 #[.slice s1.a s1.len s1.cap,f2] w fun en w'=>∃r3,en= .returned (.int .i64 r3)/\K r3 w')
def C.qch (x1:Int) (y2:Int) (K:Int->Int->World->Prop) (w:World):Prop:=okF Tryz.prog 187 (Calls Tryz.prog 187 #[.int .u64 x1, .int .u64 y2] w fun en w'=>∃r3,∃r4,en= .returned (.tuple #[.int .u64 r3, .int .u64 r4])/\K r3 r4 w')
def C.qcp (c1:Int) (c2:Int) (c3:Int) (c4:Int) (c5:Int) (c6:Int) (K:Int->World->Prop) (w:World):Prop:=okF Tryz.prog 188 (Calls Tryz.prog 188 #[.agg #[.int .i64 c1, .int .i64 c2, .int .i64 c3, .int .u64 c4, .int .u64 c5, .int .i64 c6]] w fun en w'=>∃r7,en= .returned (.int .i64 r7)/\K r7 w')
def C.qM (n1:Option Addr) (s2:Int) (s3:Int) (K:Bool->World->Prop) (w:World):Prop:=okF Tryz.prog 189 (Calls Tryz.prog 189 #[.pointer n1, .agg #[.int .i64 s2, .int .i64 s3]] w fun en w'=>∃r4,en= .returned (.bool r4)/\K r4 w')
def C.qK (t1:Option Addr) (s2:Int) (s3:Int) (K:Int->World->Prop) (w:World):Prop:=okF Tryz.prog 190 (Calls Tryz.prog 190 #[.pointer t1, .agg #[.int .i64 s2, .int .i64 s3]] w fun en w'=>∃r4,en= .returned (.int .i64 r4)/\K r4 w')
def C.qbK (q1:Option Addr) (prio2:Int) (n3:Int) (K:Int->World->Prop) (w:World):Prop:=okF Tryz.prog 191 (Calls Tryz.prog 191 #[.pointer q1, .int .i64 prio2, .int .i64 n3] w fun en w'=>∃r4,en= .returned (.int .i64 r4)/\K r4 w')
def C.qcM (b1:Int) (b2:Int) (b3:Int) (b4:Int) (K:Int->World->Prop) (w:World):Prop:=okF Tryz.prog 192 (Calls Tryz.prog 192 #[.agg #[.int .u64 b1, .int .u64 b2, .int .u64 b3, .int .u64 b4]] w fun en w'=>∃r5,en= .returned (.int .i64 r5)/\K r5 w')
def C.qbx (q1:Option Addr) (n2:Int) (K:Int->World->Prop) (w:World):Prop:=okF Tryz.prog 193 (Calls Tryz.prog 193 #[.pointer q1, .int .i64 n2] w fun en w'=>∃r3,en= .returned (.int .i64 r3)/\K r3 w')
def C.qas (seq1:Value) (K:Sl->World->Prop) (w:World):Prop:=okF Tryz.prog 194 (Calls Tryz.prog 194 #[seq1] w fun en w'=>∃r2:Sl,en= .returned (.slice r2.a r2.len r2.cap)/\K r2 w')
def C.qbO (x1:Sl) (cmp2:Value) (K:World->Prop) (w:World):Prop:=okF Tryz.prog 195 (Calls Tryz.prog 195 #[.slice x1.a x1.len x1.cap,cmp2] w fun en w'=>en= .returned (.tuple #[])/\K w')
def C.qcE (vals1:Sl) (K:Int->World->Prop) (w:World):Prop:=okF Tryz.prog 197 (Calls Tryz.prog 197 #[.slice vals1.a vals1.len vals1.cap] w fun en w'=>∃r2,en= .returned (.int .i64 r2)/\K r2 w')
def C.qbs (x1:Int) (y2:Int) (K:Int->World->Prop) (w:World):Prop:=okF Tryz.prog 198 (Calls Tryz.prog 198 #[.int .i64 x1, .int .i64 y2] w fun en w'=>∃r3,en= .returned (.int .i64 r3)/\K r3 w')
def C.qai (k1:Option Addr) (n2:Int) (K:Int->Int->Bool->World->Prop) (w:World):Prop:=okF Tryz.prog 199 (Calls Tryz.prog 199 #[.pointer k1, .int .i64 n2] w fun en w'=>∃r3,∃r4,∃r5,en= .returned (.tuple #[.agg #[.int .i64 r3, .int .i64 r4], .bool r5])/\K r3 r4 r5 w')
def C.qL (n1:Option Addr) (s2:Int) (s3:Int) (K:Int->Int->Int->Int->Int->Int->Int->World->Prop) (w:World):Prop:=okF Tryz.prog 200 (Calls Tryz.prog 200 #[.pointer n1, .agg #[.int .i64 s2, .int .i64 s3]] w fun en w'=>∃r4,∃r5,∃r6,∃r7,∃r8,∃r9,∃r10,en= .returned (.tuple #[.agg #[.int .i64 r4, .int .i64 r5, .int .i64 r6, .int .u64 r7, .int .u64 r8, .int .i64 r9], .int .i64 r10])/\K r4 r5 r6 r7 r8 r9 r10 w')
def C.qbS (u1:Int) (u2:Int) (u3:Int) (kind4:Int) (bits5:Int) (n6:Int) (K:Sl->Int->Int->Int->Int->World->Prop) (w:World):Prop:=okF Tryz.prog 201 (Calls Tryz.prog 201 #[.agg #[.int .u64 u1, .int .i64 u2, .int .u64 u3], .int .i64 kind4, .int .i64 bits5, .int .i64 n6] w fun en w'=>∃r7:Sl,∃r8,∃r9,∃r10,∃r11,en= .returned (.tuple #[.slice r7.a r7.len r7.cap, .agg #[.int .u64 r8, .int .i64 r9, .int .u64 r10], .int .i64 r11])/\K r7 r8 r9 r10 r11 w')
def C.qap (d1:Option Addr) (n2:Int) (K:Sl->Int->World->Prop) (w:World):Prop:=okF Tryz.prog 202 (Calls Tryz.prog 202 #[.pointer d1, .int .i64 n2] w fun en w'=>∃r3:Sl,∃r4,en= .returned (.tuple #[.slice r3.a r3.len r3.cap, .int .i64 r4])/\K r3 r4 w')
def C.qaM (d1:Option Addr) (s2:Int) (s3:Int) (c4:Int) (c5:Int) (c6:Int) (c7:Int) (c8:Int) (c9:Int) (K:World->Prop) (w:World):Prop:=okF Tryz.prog 203 (Calls Tryz.prog 203 #[.pointer d1, .agg #[.int .i64 s2, .int .i64 s3], .agg #[.int .i64 c4, .int .i64 c5, .int .i64 c6, .int .u64 c7, .int .u64 c8, .int .i64 c9]] w fun en w'=>en= .returned (.tuple #[])/\K w')
def C.qbn (d1:Option Addr) (at2:Int) (K:Int->World->Prop) (w:World):Prop:=okF Tryz.prog 204 (Calls Tryz.prog 204 #[.pointer d1, .int .u64 at2] w fun en w'=>∃r3,en= .returned (.int .i64 r3)/\K r3 w')
def C.qcF (c1:Int) (c2:Int) (c3:Int) (c4:Int) (c5:Int) (c6:Int) (some7:Int) (badge8:Int) (K:Int->Int->Int->Int->Int->Int->Int->World->Prop) (w:World):Prop:=okF Tryz.prog 205 (Calls Tryz.prog 205 #[.agg #[.int .i64 c1, .int .i64 c2, .int .i64 c3, .int .u64 c4, .int .u64 c5, .int .i64 c6], .int .i64 some7, .int .u64 badge8] w fun en w'=>∃r9,∃r10,∃r11,∃r12,∃r13,∃r14,∃r15,en= .returned (.tuple #[.agg #[.int .i64 r9, .int .i64 r10, .int .i64 r11, .int .u64 r12, .int .u64 r13, .int .i64 r14], .int .i64 r15])/\K r9 r10 r11 r12 r13 r14 r15 w')
def C.qby (n1:Option Addr) (from2:Int) (from3:Int) (to4:Int) (to5:Int) (K:Int->World->Prop) (w:World):Prop:=okF Tryz.prog 206 (Calls Tryz.prog 206 #[.pointer n1, .agg #[.int .i64 from2, .int .i64 from3], .agg #[.int .i64 to4, .int .i64 to5]] w fun en w'=>∃r6,en= .returned (.int .i64 r6)/\K r6 w')
def C.qbY (t1:Option Addr) (from2:Int) (from3:Int) (to4:Int) (to5:Int) (K:Int->World->Prop) (w:World):Prop:=okF Tryz.prog 207 (Calls Tryz.prog 207 #[.pointer t1, .agg #[.int .i64 from2, .int .i64 from3], .agg #[.int .i64 to4, .int .i64 to5]] w fun en w'=>∃r6,en= .returned (.int .i64 r6)/\K r6 w')
def C.qaN (d1:Option Addr) (s2:Int) (s3:Int) (K:World->Prop) (w:World):Prop:=okF Tryz.prog 208 (Calls Tryz.prog 208 #[.pointer d1, .agg #[.int .i64 s2, .int .i64 s3]] w fun en w'=>en= .returned (.tuple #[])/\K w')
def C.qbL (t1:Option Addr) (s2:Int) (s3:Int) (K:Sl->World->Prop) (w:World):Prop:=okF Tryz.prog 209 (Calls Tryz.prog 209 #[.pointer t1, .agg #[.int .i64 s2, .int .i64 s3]] w fun en w'=>∃r4:Sl,en= .returned (.slice r4.a r4.len r4.cap)/\K r4 w')
def C.qx (s1:Sl) (K:Value->World->Prop) (w:World):Prop:=okF Tryz.prog 210 (Calls Tryz.prog 210 #[.slice s1.a s1.len s1.cap] w fun en w'=>∃r2:Value,en= .returned (r2)/\K r2 w')
def C.qci (u1:Int) (u2:Int) (u3:Int) (K:Int->Int->Int->World->Prop) (w:World):Prop:=okF Tryz.prog 211 (Calls Tryz.prog 211 #[.agg #[.int .u64 u1, .int .i64 u2, .int .u64 u3]] w fun en w'=>∃r4,∃r5,∃r6,en= .returned (.agg #[.int .u64 r4, .int .i64 r5, .int .u64 r6])/\K r4 r5 r6 w')
def C.qab (k1:Option Addr) (id2:Int) (K:World->Prop) (w:World):Prop:=okF Tryz.prog 212 (Calls Tryz.prog 212 #[.pointer k1, .int .i64 id2] w fun en w'=>en= .returned (.tuple #[])/\K w')
def C.qaj (d1:Option Addr) (id2:Int) (K:Int->World->Prop) (w:World):Prop:=okF Tryz.prog 213 (Calls Tryz.prog 213 #[.pointer d1, .int .i64 id2] w fun en w'=>∃r3,en= .returned (.int .i64 r3)/\K r3 w')
def C.qz (t1:Option Addr) (id2:Int) (K:Int->World->Prop) (w:World):Prop:=okF Tryz.prog 214 (Calls Tryz.prog 214 #[.pointer t1, .int .i64 id2] w fun en w'=>∃r3,en= .returned (.int .i64 r3)/\K r3 w')
def C.qax (t1:Option Addr) (id2:Int) (p3:Int) (K:Int->World->Prop) (w:World):Prop:=okF Tryz.prog 215 (Calls Tryz.prog 215 #[.pointer t1, .int .i64 id2, .int .i64 p3] w fun en w'=>∃r4,en= .returned (.int .i64 r4)/\K r4 w')
def C.qR (p1:Option Addr) (who2:Int) (m3:Int) (m4:Int) (m5:Int) (m6:Int) (m7:Int) (m8:Int) (m9:Bool) (waits10:Bool) (K:Bool->Int->Int->Int->Int->Int->Int->Int->Int->Bool->Int->World->Prop) (w:World):Prop:=okF Tryz.prog 216 (Calls Tryz.prog 216 #[.pointer p1, .int .i64 who2, .agg #[.int .i64 m3, .int .u64 m4, .int .u64 m5, .int .u64 m6, .int .u64 m7, .int .u64 m8, .bool m9], .bool waits10] w fun en w'=>∃r11,∃r12,∃r13,∃r14,∃r15,∃r16,∃r17,∃r18,∃r19,∃r20,∃r21,en= .returned (.tuple #[.agg #[.bool r11, .int .i64 r12, .int .i64 r13, .int .i64 r14, .int .u64 r15, .int .u64 r16, .int .u64 r17, .int .u64 r18, .int .u64 r19, .bool r20], .int .i64 r21])/\K r11 r12 r13 r14 r15 r16 r17 r18 r19 r20 r21 w')
def C.qaq (d1:Option Addr) (K:World->Prop) (w:World):Prop:=okF Tryz.prog 217 (Calls Tryz.prog 217 #[.pointer d1] w fun en w'=>en= .returned (.tuple #[])/\K w')
def C.qaO (d1:Option Addr) (id2:Int) (m3:Int) (m4:Int) (m5:Int) (m6:Int) (m7:Int) (m8:Int) (m9:Bool) (K:World->Prop) (w:World):Prop:=okF Tryz.prog 218 (Calls Tryz.prog 218 #[.pointer d1, .int .i64 id2, .agg #[.int .i64 m3, .int .u64 m4, .int .u64 m5, .int .u64 m6, .int .u64 m7, .int .u64 m8, .bool m9]] w fun en w'=>en= .returned (.tuple #[])/\K w')
def C.qS (p1:Option Addr) (who2:Int) (waits3:Bool) (K:Bool->Int->Int->Int->Int->Int->Int->Int->Int->Bool->Int->World->Prop) (w:World):Prop:=okF Tryz.prog 219 (Calls Tryz.prog 219 #[.pointer p1, .int .i64 who2, .bool waits3] w fun en w'=>∃r4,∃r5,∃r6,∃r7,∃r8,∃r9,∃r10,∃r11,∃r12,∃r13,∃r14,en= .returned (.tuple #[.agg #[.bool r4, .int .i64 r5, .int .i64 r6, .int .i64 r7, .int .u64 r8, .int .u64 r9, .int .u64 r10, .int .u64 r11, .int .u64 r12, .bool r13], .int .i64 r14])/\K r4 r5 r6 r7 r8 r9 r10 r11 r12 r13 r14 w')
def C.qaV (n1:Option Addr) (who2:Int) (waits3:Bool) (K:Int->Bool->Int->World->Prop) (w:World):Prop:=okF Tryz.prog 220 (Calls Tryz.prog 220 #[.pointer n1, .int .i64 who2, .bool waits3] w fun en w'=>∃r4,∃r5,∃r6,en= .returned (.tuple #[.int .u64 r4, .bool r5, .int .i64 r6])/\K r4 r5 r6 w')
def C.qaW (s1:Option Addr) (i2:Int) (n3:Int) (K:Int->World->Prop) (w:World):Prop:=okF Tryz.prog 221 (Calls Tryz.prog 221 #[.pointer s1, .int .i64 i2, .int .i64 n3] w fun en w'=>∃r4,en= .returned (.int .i64 r4)/\K r4 w')
def C.qaZ (s1:Option Addr) (n2:Int) (p3:Int) (p4:Int) (K:Int->World->Prop) (w:World):Prop:=okF Tryz.prog 222 (Calls Tryz.prog 222 #[.pointer s1, .int .i64 n2, .agg #[.int .i64 p3, .int .i64 p4]] w fun en w'=>∃r5,en= .returned (.int .i64 r5)/\K r5 w')
def C.qak (s1:Option Addr) (n2:Int) (K:Int->Int->Int->World->Prop) (w:World):Prop:=okF Tryz.prog 223 (Calls Tryz.prog 223 #[.pointer s1, .int .i64 n2] w fun en w'=>∃r3,∃r4,∃r5,en= .returned (.tuple #[.agg #[.int .i64 r3, .int .i64 r4], .int .i64 r5])/\K r3 r4 r5 w')
def C.qT (d1:Option Addr) (space2:Int) (l3:Int) (l4:Int) (l5:Int) (K:World->Prop) (w:World):Prop:=okF Tryz.prog 224 (Calls Tryz.prog 224 #[.pointer d1, .int .i64 space2, .agg #[.int .i64 l3, .int .i64 l4, .int .i64 l5]] w fun en w'=>en= .returned (.tuple #[])/\K w')
def C.qbZ (l1:Option Addr) (n2:Int) (note3:Int) (badge4:Int) (K:Int->World->Prop) (w:World):Prop:=okF Tryz.prog 225 (Calls Tryz.prog 225 #[.pointer l1, .int .i64 n2, .int .i64 note3, .int .u64 badge4] w fun en w'=>∃r5,en= .returned (.int .i64 r5)/\K r5 w')
def C.qcj (l1:Option Addr) (n2:Int) (K:Int->Int->Bool->Int->World->Prop) (w:World):Prop:=okF Tryz.prog 226 (Calls Tryz.prog 226 #[.pointer l1, .int .i64 n2] w fun en w'=>∃r3,∃r4,∃r5,∃r6,en= .returned (.tuple #[.int .i64 r3, .int .u64 r4, .bool r5, .int .i64 r6])/\K r3 r4 r5 r6 w')
def C.qcx (seq1:Value) (K:Sl->World->Prop) (w:World):Prop:=okF Tryz.prog 227 (Calls Tryz.prog 227 #[seq1] w fun en w'=>∃r2:Sl,en= .returned (.slice r2.a r2.len r2.cap)/\K r2 w')
def C.qG (m1:Option Nat) (K:Value->World->Prop) (w:World):Prop:=okF Tryz.prog 228 (Calls Tryz.prog 228 #[.map m1] w fun en w'=>∃r2:Value,en= .returned (r2)/\K r2 w')
def C.qao (s1:Sl) (i2:Int) (j3:Int) (K:Sl->World->Prop) (w:World):Prop:=okF Tryz.prog 236 (Calls Tryz.prog 236 #[.slice s1.a s1.len s1.cap, .int .i64 i2, .int .i64 j3] w fun en w'=>∃r4:Sl,en= .returned (.slice r4.a r4.len r4.cap)/\K r4 w')
def C.qbe (l1:Sl) (K:Int->World->Prop) (w:World):Prop:=okF Tryz.prog 237 (Calls Tryz.prog 237 #[.slice l1.a l1.len l1.cap] w fun en w'=>∃r2,en= .returned (.int .i64 r2)/\K r2 w')
def C.qbf (so1:Bool) (e2:Int) (K:Int->World->Prop) (w:World):Prop:=okF Tryz.prog 238 (Calls Tryz.prog 238 #[.bool so1, .int .i64 e2] w fun en w'=>∃r3,en= .returned (.int .i64 r3)/\K r3 w')
def C.qce (x1:Int) (y2:Int) (K:Int->Int->World->Prop) (w:World):Prop:=okF Tryz.prog 259 (Calls Tryz.prog 259 #[.int .u64 x1, .int .u64 y2] w fun en w'=>∃r3,∃r4,en= .returned (.tuple #[.int .u64 r3, .int .u64 r4])/\K r3 r4 w')
def C.qcq (n1:Int) (K:Bool->World->Prop) (w:World):Prop:=okF Tryz.prog 260 (Calls Tryz.prog 260 #[.int .i64 n1] w fun en w'=>∃r2,en= .returned (.bool r2)/\K r2 w')
def C.qcG (g1:Int) (bits2:Int) (K:Bool->World->Prop) (w:World):Prop:=okF Tryz.prog 261 (Calls Tryz.prog 261 #[.int .u64 g1, .int .i64 bits2] w fun en w'=>∃r3,en= .returned (.bool r3)/\K r3 w')
def C.qcf (kind1:Int) (K:Bool->World->Prop) (w:World):Prop:=okF Tryz.prog 262 (Calls Tryz.prog 262 #[.int .i64 kind1] w fun en w'=>∃r2,en= .returned (.bool r2)/\K r2 w')
def C.qcr (kind1:Int) (K:Bool->World->Prop) (w:World):Prop:=okF Tryz.prog 263 (Calls Tryz.prog 263 #[.int .i64 kind1] w fun en w'=>∃r2,en= .returned (.bool r2)/\K r2 w')
def C.qba (n1:Option Addr) (node2:Int) (K:Int->Bool->World->Prop) (w:World):Prop:=okF Tryz.prog 264 (Calls Tryz.prog 264 #[.pointer n1, .int .i64 node2] w fun en w'=>∃r3,∃r4,en= .returned (.tuple #[.int .i64 r3, .bool r4])/\K r3 r4 w')
def C.qo (s1:Sl) (f2:Value) (K:Int->World->Prop) (w:World):Prop:=okF Tryz.prog 265 (Calls Tryz.prog 265 #[.slice s1.a s1.len s1.cap,f2] w fun en w'=>∃r3,en= .returned (.int .i64 r3)/\K r3 w')
def C.qbI (x1:Int) (x2:Int) (x3:Int) (a4:Addr) (K:Bool->World->Prop) (w:World):Prop:=okF Tryz.prog 266 (Calls Tryz.prog 266 #[.agg #[.int .i64 x1, .int .i64 x2, .int .i64 x3], .pointer (some a4)] w fun en w'=>∃r5,en= .returned (.bool r5)/\K r5 w')
def C.qbb (q1:Option Addr) (prio2:Int) (K:World->Prop) (w:World):Prop:=okF Tryz.prog 267 (Calls Tryz.prog 267 #[.pointer q1, .int .i64 prio2] w fun en w'=>en= .returned (.tuple #[])/\K w')
def C.qbM (x1:Int) (K:Int->World->Prop) (w:World):Prop:=okF Tryz.prog 268 (Calls Tryz.prog 268 #[.int .u64 x1] w fun en w'=>∃r2,en= .returned (.int .i64 r2)/\K r2 w')
def C.qA (s1:Sl) (del2:Value) (K:Sl->World->Prop) (w:World):Prop:=okF Tryz.prog 269 (Calls Tryz.prog 269 #[.slice s1.a s1.len s1.cap,del2] w fun en w'=>∃r3:Sl,en= .returned (.slice r3.a r3.len r3.cap)/\K r3 w')
def C.qbz (x1:Int) (a2:Addr) (K:Bool->World->Prop) (w:World):Prop:=okF Tryz.prog 270 (Calls Tryz.prog 270 #[.int .i64 x1, .pointer (some a2)] w fun en w'=>∃r3,en= .returned (.bool r3)/\K r3 w')
def C.qcy (s1:Sl) (seq2:Value) (K:Sl->World->Prop) (w:World):Prop:=okF Tryz.prog 271 (Calls Tryz.prog 271 #[.slice s1.a s1.len s1.cap,seq2] w fun en w'=>∃r3:Sl,en= .returned (.slice r3.a r3.len r3.cap)/\K r3 w')
def C.qbT (x1:Int) (K:Bool->World->Prop) (w:World):Prop:=okF Tryz.prog 274 (Calls Tryz.prog 274 #[.int .i64 x1] w fun en w'=>∃r2,en= .returned (.bool r2)/\K r2 w')
def C.qcs (n1:Option Addr) (root2:Int) (root3:Int) (root4:Int) (root5:Int) (root6:Int) (root7:Int) (addr8:Int) (depth9:Int) (K:Int->Int->Int->World->Prop) (w:World):Prop:=okF Tryz.prog 275 (Calls Tryz.prog 275 #[.pointer n1, .agg #[.int .i64 root2, .int .i64 root3, .int .i64 root4, .int .u64 root5, .int .u64 root6, .int .i64 root7], .int .u64 addr8, .int .i64 depth9] w fun en w'=>∃r10,∃r11,∃r12,en= .returned (.tuple #[.agg #[.int .i64 r10, .int .i64 r11], .int .i64 r12])/\K r10 r11 r12 w')
def C.qck (u1:Int) (u2:Int) (u3:Int) (K:Int->World->Prop) (w:World):Prop:=okF Tryz.prog 276 (Calls Tryz.prog 276 #[.agg #[.int .u64 u1, .int .i64 u2, .int .u64 u3]] w fun en w'=>∃r4,en= .returned (.int .i64 r4)/\K r4 w')
def C.qcv (kind1:Int) (bits2:Int) (K:Int->Int->World->Prop) (w:World):Prop:=okF Tryz.prog 277 (Calls Tryz.prog 277 #[.int .i64 kind1, .int .i64 bits2] w fun en w'=>∃r3,∃r4,en= .returned (.tuple #[.int .i64 r3, .int .i64 r4])/\K r3 r4 w')
def C.qcP (v1:Int) (n2:Int) (K:Int->Int->World->Prop) (w:World):Prop:=okF Tryz.prog 278 (Calls Tryz.prog 278 #[.int .u64 v1, .int .i64 n2] w fun en w'=>∃r3,∃r4,en= .returned (.tuple #[.int .u64 r3, .int .i64 r4])/\K r3 r4 w')
def C.qaI (s1:Int) (s2:Int) (a3:Addr) (K:Bool->World->Prop) (w:World):Prop:=okF Tryz.prog 279 (Calls Tryz.prog 279 #[.agg #[.int .i64 s1, .int .i64 s2], .pointer (some a3)] w fun en w'=>∃r4,en= .returned (.bool r4)/\K r4 w')
def C.qk (s1:Sl) (f2:Value) (K:Bool->World->Prop) (w:World):Prop:=okF Tryz.prog 280 (Calls Tryz.prog 280 #[.slice s1.a s1.len s1.cap,f2] w fun en w'=>∃r3,en= .returned (.bool r3)/\K r3 w')
def C.qcl (t1:Option Addr) (parent2:Int) (parent3:Int) (s4:Int) (s5:Int) (K:Int->World->Prop) (w:World):Prop:=okF Tryz.prog 281 (Calls Tryz.prog 281 #[.pointer t1, .agg #[.int .i64 parent2, .int .i64 parent3], .agg #[.int .i64 s4, .int .i64 s5]] w fun en w'=>∃r6,en= .returned (.int .i64 r6)/\K r6 w')
def C.qcw (K:Option Addr->World->Prop) (w:World):Prop:=okF Tryz.prog 282 (Calls Tryz.prog 282 #[] w fun en w'=>∃r1,en= .returned (.pointer r1)/\K r1 w')
def C.qcH (K:Option Addr->World->Prop) (w:World):Prop:=okF Tryz.prog 283 (Calls Tryz.prog 283 #[] w fun en w'=>∃r1,en= .returned (.pointer r1)/\K r1 w')
def C.qca (t1:Option Addr) (s2:Int) (s3:Int) (K:Int->World->Prop) (w:World):Prop:=okF Tryz.prog 284 (Calls Tryz.prog 284 #[.pointer t1, .agg #[.int .i64 s2, .int .i64 s3]] w fun en w'=>∃r4,en= .returned (.int .i64 r4)/\K r4 w')
def C.qbc (n1:Option Addr) (s2:Int) (s3:Int) (K:Int->Int->Int->Int->Int->Int->Int->World->Prop) (w:World):Prop:=okF Tryz.prog 285 (Calls Tryz.prog 285 #[.pointer n1, .agg #[.int .i64 s2, .int .i64 s3]] w fun en w'=>∃r4,∃r5,∃r6,∃r7,∃r8,∃r9,∃r10,en= .returned (.tuple #[.agg #[.int .i64 r4, .int .i64 r5, .int .i64 r6, .int .u64 r7, .int .u64 r8, .int .i64 r9], .int .i64 r10])/\K r4 r5 r6 r7 r8 r9 r10 w')
def C.ql (s1:Sl) (f2:Value) (K:Bool->World->Prop) (w:World):Prop:=okF Tryz.prog 286 (Calls Tryz.prog 286 #[.slice s1.a s1.len s1.cap,f2] w fun en w'=>∃r3,en= .returned (.bool r3)/\K r3 w')
def C.qaJ (h1:Int) (h2:Int) (h3:Int) (h4:Int) (h5:Int) (h6:Int) (h7:Int) (h8:Int) (a9:Addr) (K:Bool->World->Prop) (w:World):Prop:=okF Tryz.prog 287 (Calls Tryz.prog 287 #[.agg #[.int .i64 h1, .int .i64 h2, .int .i64 h3, .int .i64 h4, .int .i64 h5, .int .u64 h6, .int .u64 h7, .int .i64 h8], .pointer (some a9)] w fun en w'=>∃r10,en= .returned (.bool r10)/\K r10 w')
def C.qcN (a1:Int) (a2:Int) (a3:Int) (a4:Int) (a5:Int) (a6:Int) (b7:Int) (b8:Int) (b9:Int) (b10:Int) (b11:Int) (b12:Int) (K:Bool->World->Prop) (w:World):Prop:=okF Tryz.prog 288 (Calls Tryz.prog 288 #[.agg #[.int .i64 a1, .int .i64 a2, .int .i64 a3, .int .u64 a4, .int .u64 a5, .int .i64 a6], .agg #[.int .i64 b7, .int .i64 b8, .int .i64 b9, .int .u64 b10, .int .u64 b11, .int .i64 b12]] w fun en w'=>∃r13,en= .returned (.bool r13)/\K r13 w')
def C.qbo (d1:Option Addr) (c2:Int) (c3:Int) (c4:Int) (c5:Int) (c6:Int) (c7:Int) (K:World->Prop) (w:World):Prop:=okF Tryz.prog 289 (Calls Tryz.prog 289 #[.pointer d1, .agg #[.int .i64 c2, .int .i64 c3, .int .i64 c4, .int .u64 c5, .int .u64 c6, .int .i64 c7]] w fun en w'=>en= .returned (.tuple #[])/\K w')
def C.qbU (t1:Option Addr) (i2:Int) (K:Int->World->Prop) (w:World):Prop:=okF Tryz.prog 290 (Calls Tryz.prog 290 #[.pointer t1, .int .i64 i2] w fun en w'=>∃r3,en= .returned (.int .i64 r3)/\K r3 w')
def C.qX (p1:Option Addr) (who2:Int) (K:Bool->World->Prop) (w:World):Prop:=okF Tryz.prog 292 (Calls Tryz.prog 292 #[.pointer p1, .int .i64 who2] w fun en w'=>∃r3,en= .returned (.bool r3)/\K r3 w')
def C.qay (n1:Option Addr) (who2:Int) (K:Bool->World->Prop) (w:World):Prop:=okF Tryz.prog 293 (Calls Tryz.prog 293 #[.pointer n1, .int .i64 who2] w fun en w'=>∃r3,en= .returned (.bool r3)/\K r3 w')
def C.qI (p1:Option Addr) (who2:Int) (K:Bool->World->Prop) (w:World):Prop:=okF Tryz.prog 294 (Calls Tryz.prog 294 #[.pointer p1, .int .i64 who2] w fun en w'=>∃r3,en= .returned (.bool r3)/\K r3 w')
def C.qJ (p1:Option Addr) (sends2:Bool) (K:Int->Int->Int->Int->Int->Int->Int->Bool->Bool->World->Prop) (w:World):Prop:=okF Tryz.prog 295 (Calls Tryz.prog 295 #[.pointer p1, .bool sends2] w fun en w'=>∃r3,∃r4,∃r5,∃r6,∃r7,∃r8,∃r9,∃r10,∃r11,en= .returned (.tuple #[.agg #[.int .i64 r3, .int .i64 r4, .int .u64 r5, .int .u64 r6, .int .u64 r7, .int .u64 r8, .int .u64 r9, .bool r10], .bool r11])/\K r3 r4 r5 r6 r7 r8 r9 r10 r11 w')
def C.qU (p1:Option Addr) (o2:Int) (o3:Int) (o4:Int) (o5:Int) (o6:Int) (o7:Int) (o8:Int) (o9:Bool) (sends10:Bool) (K:World->Prop) (w:World):Prop:=okF Tryz.prog 296 (Calls Tryz.prog 296 #[.pointer p1, .agg #[.int .i64 o2, .int .i64 o3, .int .u64 o4, .int .u64 o5, .int .u64 o6, .int .u64 o7, .int .u64 o8, .bool o9], .bool sends10] w fun en w'=>en= .returned (.tuple #[])/\K w')
def C.qZ (t1:Option Addr) (id2:Int) (K:Int->World->Prop) (w:World):Prop:=okF Tryz.prog 297 (Calls Tryz.prog 297 #[.pointer t1, .int .i64 id2] w fun en w'=>∃r3,en= .returned (.int .i64 r3)/\K r3 w')
def C.qae (s1:Sl) (v2:Int) (K:Bool->World->Prop) (w:World):Prop:=okF Tryz.prog 298 (Calls Tryz.prog 298 #[.slice s1.a s1.len s1.cap, .int .i64 v2] w fun en w'=>∃r3,en= .returned (.bool r3)/\K r3 w')
def C.qbP (i1:Int) (K:Bool->World->Prop) (w:World):Prop:=okF Tryz.prog 299 (Calls Tryz.prog 299 #[.int .i64 i1] w fun en w'=>∃r2,en= .returned (.bool r2)/\K r2 w')
def C.qbd (t1:Int) (t2:Option Nat) (a3:Addr) (K:Bool->World->Prop) (w:World):Prop:=okF Tryz.prog 300 (Calls Tryz.prog 300 #[.agg #[.int .i64 t1, .map t2], .pointer (some a3)] w fun en w'=>∃r4,en= .returned (.bool r4)/\K r4 w')
def C.qe (s1:Sl) (f2:Value) (K:Bool->World->Prop) (w:World):Prop:=okF Tryz.prog 301 (Calls Tryz.prog 301 #[.slice s1.a s1.len s1.cap,f2] w fun en w'=>∃r3,en= .returned (.bool r3)/\K r3 w')
def C.qcc (n1:Int) (K:Bool->World->Prop) (w:World):Prop:=okF Tryz.prog 302 (Calls Tryz.prog 302 #[.int .i64 n1] w fun en w'=>∃r2,en= .returned (.bool r2)/\K r2 w')
def C.qcm (n1:Int) (K:Bool->World->Prop) (w:World):Prop:=okF Tryz.prog 303 (Calls Tryz.prog 303 #[.int .i64 n1] w fun en w'=>∃r2,en= .returned (.bool r2)/\K r2 w')
def C.qaQ (s1:Option Addr) (n2:Int) (K:Option Addr->Bool->World->Prop) (w:World):Prop:=okF Tryz.prog 304 (Calls Tryz.prog 304 #[.pointer s1, .int .i64 n2] w fun en w'=>∃r3,∃r4,en= .returned (.tuple #[.pointer r3, .bool r4])/\K r3 r4 w')
def C.qbp (s1:Option Addr) (n2:Int) (K:Int->Int->Bool->World->Prop) (w:World):Prop:=okF Tryz.prog 305 (Calls Tryz.prog 305 #[.pointer s1, .int .i64 n2] w fun en w'=>∃r3,∃r4,∃r5,en= .returned (.tuple #[.agg #[.int .i64 r3, .int .i64 r4], .bool r5])/\K r3 r4 r5 w')
def C.qt (s1:Sl) (f2:Value) (K:Int->World->Prop) (w:World):Prop:=okF Tryz.prog 311 (Calls Tryz.prog 311 #[.slice s1.a s1.len s1.cap,f2] w fun en w'=>∃r3,en= .returned (.int .i64 r3)/\K r3 w')
def C.qcg (e1:Int) (K:Bool->World->Prop) (w:World):Prop:=okF Tryz.prog 312 (Calls Tryz.prog 312 #[.int .i64 e1] w fun en w'=>∃r2,en= .returned (.bool r2)/\K r2 w')
def C.qcI (n1:Int) (K:Int->Int->World->Prop) (w:World):Prop:=okF Tryz.prog 315 (Calls Tryz.prog 315 #[.int .i64 n1] w fun en w'=>∃r2,∃r3,en= .returned (.tuple #[.int .u64 r2, .int .i64 r3])/\K r2 r3 w')
def C.qcO (b1:Int) (b2:Int) (b3:Int) (b4:Int) (n5:Int) (on6:Bool) (K:Int->Int->Int->Int->Int->World->Prop) (w:World):Prop:=okF Tryz.prog 316 (Calls Tryz.prog 316 #[.agg #[.int .u64 b1, .int .u64 b2, .int .u64 b3, .int .u64 b4], .int .i64 n5, .bool on6] w fun en w'=>∃r7,∃r8,∃r9,∃r10,∃r11,en= .returned (.tuple #[.agg #[.int .u64 r7, .int .u64 r8, .int .u64 r9, .int .u64 r10], .int .i64 r11])/\K r7 r8 r9 r10 r11 w')
def C.qcB (n1:Option Addr) (c2:Int) (c3:Int) (c4:Int) (c5:Int) (c6:Int) (c7:Int) (next8:Value) (K:Int->Int->Int->World->Prop) (w:World):Prop:=okF Tryz.prog 326 (Calls Tryz.prog 326 #[.pointer n1, .agg #[.int .i64 c2, .int .i64 c3, .int .i64 c4, .int .u64 c5, .int .u64 c6, .int .i64 c7],next8] w fun en w'=>∃r9,∃r10,∃r11,en= .returned (.tuple #[.agg #[.int .i64 r9, .int .i64 r10], .int .i64 r11])/\K r9 r10 r11 w')
def C.qbA (r1:Option Addr) (n2:Int) (K:Int->Bool->World->Prop) (w:World):Prop:=okF Tryz.prog 327 (Calls Tryz.prog 327 #[.pointer r1, .int .i64 n2] w fun en w'=>∃r3,∃r4,en= .returned (.tuple #[.int .u64 r3, .bool r4])/\K r3 r4 w')
def C.qbt (n1:Int) (from2:Int) (to3:Int) (add4:Int) (K:Int->Int->World->Prop) (w:World):Prop:=okF Tryz.prog 328 (Calls Tryz.prog 328 #[.int .i64 n1, .int .i64 from2, .int .i64 to3, .int .i64 add4] w fun en w'=>∃r5,∃r6,en= .returned (.tuple #[.int .i64 r5, .int .i64 r6])/\K r5 r6 w')
def C.qbV (K:Int->Int->Int->Int->Int->Int->Int->Int->Int->Int->World->Prop) (w:World):Prop:=okF Tryz.prog 329 (Calls Tryz.prog 329 #[] w fun en w'=>∃r1,∃r2,∃r3,∃r4,∃r5,∃r6,∃r7,∃r8,∃r9,∃r10,en= .returned (.agg #[.int .i64 r1, .int .i64 r2, .int .i64 r3, .int .i64 r4, .int .i64 r5, .int .i64 r6, .int .i64 r7, .int .i64 r8, .int .i64 r9, .int .i64 r10])/\K r1 r2 r3 r4 r5 r6 r7 r8 r9 r10 w')
def C.qcb (n1:Int) (K:Int->World->Prop) (w:World):Prop:=okF Tryz.prog 330 (Calls Tryz.prog 330 #[.int .i64 n1] w fun en w'=>∃r2,en= .returned (.int .u64 r2)/\K r2 w')
def C.qq (s1:Sl) (f2:Value) (K:Int->World->Prop) (w:World):Prop:=okF Tryz.prog 332 (Calls Tryz.prog 332 #[.slice s1.a s1.len s1.cap,f2] w fun en w'=>∃r3,en= .returned (.int .i64 r3)/\K r3 w')
def C.qm (s1:Sl) (i2:Int) (v3:Sl) (K:Sl->World->Prop) (w:World):Prop:=okF Tryz.prog 333 (Calls Tryz.prog 333 #[.slice s1.a s1.len s1.cap, .int .i64 i2, .slice v3.a v3.len v3.cap] w fun en w'=>∃r4:Sl,en= .returned (.slice r4.a r4.len r4.cap)/\K r4 w')
def C.qn (s1:Sl) (i2:Int) (j3:Int) (K:Sl->World->Prop) (w:World):Prop:=okF Tryz.prog 334 (Calls Tryz.prog 334 #[.slice s1.a s1.len s1.cap, .int .i64 i2, .int .i64 j3] w fun en w'=>∃r4:Sl,en= .returned (.slice r4.a r4.len r4.cap)/\K r4 w')
def C.qr (s1:Sl) (f2:Value) (K:Int->World->Prop) (w:World):Prop:=okF Tryz.prog 335 (Calls Tryz.prog 335 #[.slice s1.a s1.len s1.cap,f2] w fun en w'=>∃r3,en= .returned (.int .i64 r3)/\K r3 w')
def C.qaK (s1:Option Addr) (frame2:Int) (K:Sl->World->Prop) (w:World):Prop:=okF Tryz.prog 336 (Calls Tryz.prog 336 #[.pointer s1, .int .i64 frame2] w fun en w'=>∃r3:Sl,en= .returned (.slice r3.a r3.len r3.cap)/\K r3 w')
def C.qbB (s1:Option Addr) (i2:Int) (K:Int->Bool->World->Prop) (w:World):Prop:=okF Tryz.prog 337 (Calls Tryz.prog 337 #[.pointer s1, .int .i64 i2] w fun en w'=>∃r3,∃r4,en= .returned (.tuple #[.int .i64 r3, .bool r4])/\K r3 r4 w')
def C.qbq (s1:Option Addr) (i2:Int) (K:Sl->Int->World->Prop) (w:World):Prop:=okF Tryz.prog 338 (Calls Tryz.prog 338 #[.pointer s1, .int .i64 i2] w fun en w'=>∃r3:Sl,∃r4,en= .returned (.tuple #[.slice r3.a r3.len r3.cap, .int .i64 r4])/\K r3 r4 w')
def C.qg (s1:Sl) (del2:Value) (K:Sl->World->Prop) (w:World):Prop:=okF Tryz.prog 339 (Calls Tryz.prog 339 #[.slice s1.a s1.len s1.cap,del2] w fun en w'=>∃r3:Sl,en= .returned (.slice r3.a r3.len r3.cap)/\K r3 w')
def C.qac (o1:Int) (o2:Int) (o3:Int) (o4:Int) (o5:Int) (o6:Int) (o7:Int) (o8:Bool) (a9:Addr) (K:Bool->World->Prop) (w:World):Prop:=okF Tryz.prog 340 (Calls Tryz.prog 340 #[.agg #[.int .i64 o1, .int .i64 o2, .int .u64 o3, .int .u64 o4, .int .u64 o5, .int .u64 o6, .int .u64 o7, .bool o8], .pointer (some a9)] w fun en w'=>∃r10,en= .returned (.bool r10)/\K r10 w')
def C.qaC (x1:Int) (a2:Addr) (K:Bool->World->Prop) (w:World):Prop:=okF Tryz.prog 341 (Calls Tryz.prog 341 #[.int .i64 x1, .pointer (some a2)] w fun en w'=>∃r3,en= .returned (.bool r3)/\K r3 w')
def C.qf (s1:Sl) (f2:Value) (K:Bool->World->Prop) (w:World):Prop:=okF Tryz.prog 342 (Calls Tryz.prog 342 #[.slice s1.a s1.len s1.cap,f2] w fun en w'=>∃r3,en= .returned (.bool r3)/\K r3 w')
def C.qaf (o1:Int) (o2:Int) (o3:Int) (o4:Int) (o5:Int) (o6:Int) (o7:Int) (o8:Bool) (a9:Addr) (K:Bool->World->Prop) (w:World):Prop:=okF Tryz.prog 343 (Calls Tryz.prog 343 #[.agg #[.int .i64 o1, .int .i64 o2, .int .u64 o3, .int .u64 o4, .int .u64 o5, .int .u64 o6, .int .u64 o7, .bool o8], .pointer (some a9)] w fun en w'=>∃r10,en= .returned (.bool r10)/\K r10 w')
def C.qi (s1:Sl) (i2:Int) (j3:Int) (K:Sl->World->Prop) (w:World):Prop:=okF Tryz.prog 344 (Calls Tryz.prog 344 #[.slice s1.a s1.len s1.cap, .int .i64 i2, .int .i64 j3] w fun en w'=>∃r4:Sl,en= .returned (.slice r4.a r4.len r4.cap)/\K r4 w')
def C.qaz (s1:Sl) (v2:Int) (K:Int->World->Prop) (w:World):Prop:=okF Tryz.prog 345 (Calls Tryz.prog 345 #[.slice s1.a s1.len s1.cap, .int .i64 v2] w fun en w'=>∃r3,en= .returned (.int .i64 r3)/\K r3 w')
def C.qj (s1:Sl) (f2:Value) (K:Int->World->Prop) (w:World):Prop:=okF Tryz.prog 346 (Calls Tryz.prog 346 #[.slice s1.a s1.len s1.cap,f2] w fun en w'=>∃r3,en= .returned (.int .i64 r3)/\K r3 w')
def C.qbD (v1:Int) (at2:Int) (n3:Int) (K:Int->Int->World->Prop) (w:World):Prop:=okF Tryz.prog 347 (Calls Tryz.prog 347 #[.int .u64 v1, .int .i64 at2, .int .i64 n3] w fun en w'=>∃r4,∃r5,en= .returned (.tuple #[.int .u64 r4, .int .i64 r5])/\K r4 r5 w')
def C.qcS (n1:Int) (K:Bool->World->Prop) (w:World):Prop:=okF Tryz.prog 350 (Calls Tryz.prog 350 #[.int .i64 n1] w fun en w'=>∃r2,en= .returned (.bool r2)/\K r2 w')
def C.qcC (n1:Option Addr) (c2:Int) (c3:Int) (c4:Int) (c5:Int) (c6:Int) (c7:Int) (K:Int->Bool->World->Prop) (w:World):Prop:=okF Tryz.prog 356 (Calls Tryz.prog 356 #[.pointer n1, .agg #[.int .i64 c2, .int .i64 c3, .int .i64 c4, .int .u64 c5, .int .u64 c6, .int .i64 c7]] w fun en w'=>∃r8,∃r9,en= .returned (.tuple #[.int .i64 r8, .bool r9])/\K r8 r9 w')
def C.qcU (s1:Sl) (r2:Int) (K:World->Prop) (w:World):Prop:=okF Tryz.prog 358 (Calls Tryz.prog 358 #[.slice s1.a s1.len s1.cap, .int .i64 r2] w fun en w'=>en= .returned (.tuple #[])/\K w')
def C.qd (s1:Sl) (f2:Value) (K:Int->World->Prop) (w:World):Prop:=okF Tryz.prog 359 (Calls Tryz.prog 359 #[.slice s1.a s1.len s1.cap,f2] w fun en w'=>∃r3,en= .returned (.int .i64 r3)/\K r3 w')
def C.qbQ (at1:Int) (n2:Int) (K:Bool->World->Prop) (w:World):Prop:=okF Tryz.prog 360 (Calls Tryz.prog 360 #[.int .i64 at1, .int .i64 n2] w fun en w'=>∃r3,en= .returned (.bool r3)/\K r3 w')
end Go.Proofs.YtogmbmdbgkopjaaGreat
end
section
set_option maxRecDepth 8000
namespace Go.Proofs.YtogmbmdbgkopjaaGreat
open Go Go.Vc Go.Proofs
def ptE:EncT Nat:=⟨1,fun p=>[.pointer (some ⟨p,0,none⟩)],fun _=>rfl,fun x v h=>by
 simp only[List.mem_cons,List.not_mem_nil,or_false] at h;subst h;rfl,by decide⟩
def PtsA {α:Type} (A:Nat->α->Asn) (ps:List Nat) (xs:List α):Asn:=ExA fun _:Unit=>StarA (PureA (ps.length=xs.length)::List.zipWith A ps xs)
section
variable {B:Nat} {w0 w:World} {R:List Asn} {α:Type} {A:Nat->α->Asn} {ps:List Nat} {xs:List α}
theorem _root_.Go.Vc.Own.ptsO (h:Own B w0 w (PtsA A ps xs::R)):ps.length=xs.length/\Own B w0 w (List.zipWith A ps xs++R):=by
 obtain ⟨_,h⟩:=h.ex;exact Own.pure h.star
theorem _root_.Go.Vc.Own.mk_pts (hl:ps.length=xs.length) (h:Own B w0 w (List.zipWith A ps xs++R)):Own B w0 w (PtsA A ps xs::R):=
 Own.mk_ex () (Own.mk_star (Own.mk_pure hl h))
theorem zipP_get {p:Nat} {x:α} {j:Nat} (hp:ps[j]?=some p) (hx:xs[j]?=some x) (R:List Asn):(List.zipWith A ps xs++R)[j]?=some (A p x):=by
 have h1:=(List.getElem?_eq_some_iff.1 hp).1;have h2:=(List.getElem?_eq_some_iff.1 hx).1;rw[List.getElem?_append_left (by simp;omega),List.getElem?_zipWith,hp,hx]
theorem _root_.Go.Vc.Own.pt (h:Own B w0 w (PtsA A ps xs::R)) {j:Nat} {p:Nat} {x:α} (hp:ps[j]?=some p) (hx:xs[j]?=some x):
  Own B w0 w (A p x::((List.zipWith A ps xs).eraseIdx j++R)):=by
 obtain ⟨hl,h⟩:=h.ptsO;have h1:=(List.getElem?_eq_some_iff.1 hp).1;have:=h.take j (zipP_get hp hx R)
 rwa [List.eraseIdx_append_of_lt_length (by simp;omega)] at this
theorem zipP_set {p:Nat} {x':α}:∀(ps:List Nat) (xs:List α) (j:Nat),ps[j]?=some p->List.zipWith A ps (xs.set j x')=(List.zipWith A ps xs).set j (A p x')
 | [],xs,j,h=>by simp at h
 |_::_,[],j,_=>by cases j<;>simp
 |s::ps,r::xs,0,h=>by simp at h;subst h;simp
 |s::ps,r::xs,j+1,h=>by simp[zipP_set ps xs j (by simpa using h)]
theorem _root_.Go.Vc.Own.pt_back {j:Nat} {p:Nat} {x':α} (hl:ps.length=xs.length) (hp:ps[j]?=some p) (h:Own B w0 w (A p x'::((List.zipWith A ps xs).eraseIdx j++R))):
  Own B w0 w (PtsA A ps (xs.set j x')::R):=by
 have hj:=(List.getElem?_eq_some_iff.1 hp).1;refine Own.mk_pts (by simp[hl]) ?_;rw[zipP_set _ _ _ hp];have hj':j<(List.zipWith A ps xs).length:=by simp;omega
 have h2:Own B w0 w (A p x'::(List.zipWith A ps xs++R).eraseIdx j):=by rwa [List.eraseIdx_append_of_lt_length hj']
 have:=h2.put (by simp;omega)
 rwa [List.set_append_left _ _ hj'] at this
theorem zipP_snoc {p:Nat} {x:α}:∀(ps:List Nat) (xs:List α),ps.length=xs.length->List.zipWith A (ps++ [p]) (xs++ [x])=List.zipWith A ps xs++ [A p x]
 | [],[],_=>rfl
 | [],_::_,h=>by simp at h
 |_::_,[],h=>by simp at h
 |a::ps,b::xs,h=>by simp[zipP_snoc ps xs (by simpa using h)]
theorem _root_.Go.Vc.Own.pt_add {p:Nat} {x:α} (h:Own B w0 w (A p x::PtsA A ps xs::R)):Own B w0 w (PtsA A (ps++ [p]) (xs++ [x])::R):=by
 have h2:Own B w0 w (PtsA A ps xs::A p x::R):=h.perm (List.Perm.swap _ _ _);obtain ⟨hl,h3⟩:=h2.ptsO;refine Own.mk_pts (by simp[hl]) ?_;rw[zipP_snoc _ _ hl,List.append_assoc];exact h3
theorem _root_.Go.Vc.Own.pts_len (h:Own B w0 w (PtsA A ps xs::R)):ps.length=xs.length:=h.ptsO.1
end
section
variable {B:Nat} {w0 w:World} {R L:List Asn} {α β:Type} {A:Nat->α->Asn}
theorem ptE_ix {s:Sl} {ps:List Nat} {j p:Nat} {i:Int} {G:Addr->Prop} [I:SlIn s L Nat ptE ps] (h:Own B w0 w L) (hij:i=(j:Int)) (hj:ps[j]?=some p)
  (hG:∀a,s.a=some a->w.cell? (a.add (i.toNat*1))=some (.pointer (some ⟨p,0,none⟩))->G a):∃a,s.a=some a/\0≤i/\i<(s.len:Int)/\G a:=
 h.ixc (s:=s) hij hj fun a ha h0 _=>hG a ha (h0 _ rfl)
end
end Go.Proofs.YtogmbmdbgkopjaaGreat
end
section
set_option maxRecDepth 100000
namespace Go.Proofs.YtogmbmdbgkopjaaGreat
open Go Go.Vc Go.Proofs
def S.qcp (c1:Int) (c2:Int) (c3:Int) (c4:Int) (c5:Int) (c6:Int) (K:Int->World->Prop) (w:World):Prop:=Al w (.cells #[.int .i64 c1, .int .i64 c2, .int .i64 c3, .int .u64 c4, .int .u64 c5, .int .i64 c6] 42) fun w7=>∀k8:Bool->World->Prop,(∀(right9:Bool) (w10:World),(LdL w10 (Addr.mk w.heap.size 0 none) 0 [.i .i64, .i .i64, .i .i64, .i .u64, .i .u64, .i .i64] fun (t11:Int) (t12:Int) (t13:Int) (t14:Int) (t15:Int) (t16:Int)=>∃eq17,EqB Tryz.prog .eql 42 (.tmp 35) (.tmp 36) (.agg #[.int .i64 t11, .int .i64 t12, .int .i64 t13, .int .u64 t14, .int .u64 t15, .int .i64 t16]) (.agg #[.int .i64 0, .int .i64 0, .int .i64 0, .int .u64 0, .int .u64 0, .int .i64 0]) eq17/\bif eq17 then (K (0:Int) w10) else (∀k18:Bool->World->Prop,(∀(t19:Bool) (w20:World),(bif t19 then (K (40:Int) w20) else (∀k21:Bool->World->Prop,(∀(t22:Bool) (w23:World),(bif t22 then (bif t22 then (K (40:Int) w23) else (K (0:Int) w23)) else (∃bits24,w23.cell? ((Addr.mk w.heap.size 0 none).add 5)=some (.int .i64 bits24)/\bif bits24 !=(0:Int) then (∃kind25,w23.cell? (Addr.mk w.heap.size 0 none)=some (.int .i64 kind25)/\bif kind25 !=(2:Int) then (K (40:Int) w23) else (K (0:Int) w23)) else (K (0:Int) w23)))->k21 t22 w23)->(∃badge26,w20.cell? ((Addr.mk w.heap.size 0 none).add 3)=some (.int .u64 badge26)/\bif badge26 !=(0:Int) then (∃kind27,w20.cell? (Addr.mk w.heap.size 0 none)=some (.int .i64 kind27)/\C.qcr kind27 (fun r28 w29=>k21 (!r28) w29) w20) else (k21 false w20))))->k18 t19 w20)->(bif !right9 then (k18 (!right9) w10) else (∃kind30,w10.cell? (Addr.mk w.heap.size 0 none)=some (.int .i64 kind30)/\C.qcf kind30 (fun r31 w32=>bif !r31 then (∃rights33,w32.cell? ((Addr.mk w.heap.size 0 none).add 2)=some (.int .i64 rights33)/\k18 (rights33 !=(7:Int)) w32) else (k18 false w32)) w10))))->k8 right9 w10)->(∃kind34,w7.cell? (Addr.mk w.heap.size 0 none)=some (.int .i64 kind34)/\bif decide (kind34>(0:Int)) then (∃kind35,w7.cell? (Addr.mk w.heap.size 0 none)=some (.int .i64 kind35)/\bif decide (kind35<(10:Int)) then (∃obj36,w7.cell? ((Addr.mk w.heap.size 0 none).add 1)=some (.int .i64 obj36)/\bif decide (obj36≥(0:Int)) then (∃obj37,w7.cell? ((Addr.mk w.heap.size 0 none).add 1)=some (.int .i64 obj37)/\bif decide (obj37<(2147483648:Int)) then (∃rights38,w7.cell? ((Addr.mk w.heap.size 0 none).add 2)=some (.int .i64 rights38)/\C.qcq rights38 (fun r39 w40=>bif r39 then (∃guard41,w40.cell? ((Addr.mk w.heap.size 0 none).add 4)=some (.int .u64 guard41)/\∃bits42,w40.cell? ((Addr.mk w.heap.size 0 none).add 5)=some (.int .i64 bits42)/\C.qcG guard41 bits42 (fun r43 w44=>k8 r43 w44) w40) else (k8 false w40)) w7) else (k8 false w7)) else (k8 false w7)) else (k8 false w7)) else (k8 false w7))
theorem S.qcp0 (c1:Int) (c2:Int) (c3:Int) (c4:Int) (c5:Int) (c6:Int) (K:Int->World->Prop) (w:World) (h:S.qcp c1 c2 c3 c4 c5 c6 K w):C.qcp c1 c2 c3 c4 c5 c6 K w:=
 okS Tryz.func188 (.t none (.u) (.t none (.r (some [(3, .c (.b))]) .done) (.t none (.t none (.t none (.u) (.t none (.t none (.u) (.u)) (.t none (.t none (.u) (.t (some [(38, .c (.b))]) (.u) (.u))) (.t none (.t none (.u) (.u)) (.t none (.t none (.r (some [(50, .c (.b))]) .done) (.t none (.u) (.u))) (.t none (.t none (.u) (.u)) (.u))))))) (.u)) (.t none (.u) (.u))))) [(0, .c (.i .i64))] [.agg #[.int .i64 c1, .int .i64 c2, .int .i64 c3, .int .u64 c4, .int .u64 c5, .int .i64 c6]] K rfl (by kernel_rfl) (by kernel_rfl) h
def S.qcF (c1:Int) (c2:Int) (c3:Int) (c4:Int) (c5:Int) (c6:Int) (some7:Int) (badge8:Int) (K:Int->Int->Int->Int->Int->Int->Int->World->Prop) (w:World):Prop:=Al w (.cells #[.int .i64 c1, .int .i64 c2, .int .i64 c3, .int .u64 c4, .int .u64 c5, .int .i64 c6] 42) fun w9=>Al w9 (.cells #[.int .i64 0, .int .i64 0, .int .i64 0, .int .u64 0, .int .u64 0, .int .i64 0] 42) fun w10=>LdL w10 (Addr.mk w.heap.size 0 none) 0 [.i .i64, .i .i64, .i .i64, .i .u64, .i .u64, .i .i64] fun (t11:Int) (t12:Int) (t13:Int) (t14:Int) (t15:Int) (t16:Int)=>C.qcp t11 t12 t13 t14 t15 t16 (fun r17 w18=>bif r17 !=(0:Int) then (StL w18 (Addr.mk w9.heap.size 0 none) 0 [.int .i64 0, .int .i64 0, .int .i64 0, .int .u64 0, .int .u64 0, .int .i64 0] fun w19=>LdL w19 (Addr.mk w9.heap.size 0 none) 0 [.i .i64, .i .i64, .i .i64, .i .u64, .i .u64, .i .i64] fun (r20:Int) (r21:Int) (r22:Int) (r23:Int) (r24:Int) (r25:Int)=>K r20 r21 r22 r23 r24 r25 r17 w19) else (C.qcq some7 (fun r26 w27=>bif !r26 then (StL w27 (Addr.mk w9.heap.size 0 none) 0 [.int .i64 0, .int .i64 0, .int .i64 0, .int .u64 0, .int .u64 0, .int .i64 0] fun w28=>LdL w28 (Addr.mk w9.heap.size 0 none) 0 [.i .i64, .i .i64, .i .i64, .i .u64, .i .u64, .i .i64] fun (r29:Int) (r30:Int) (r31:Int) (r32:Int) (r33:Int) (r34:Int)=>K r29 r30 r31 r32 r33 r34 (1:Int) w28) else (∃kind35,w27.cell? (Addr.mk w.heap.size 0 none)=some (.int .i64 kind35)/\∀k36:Bool->World->Prop,(∀(t37:Bool) (w38:World),(bif t37 then (StL w38 (Addr.mk w9.heap.size 0 none) 0 [.int .i64 0, .int .i64 0, .int .i64 0, .int .u64 0, .int .u64 0, .int .i64 0] fun w39=>LdL w39 (Addr.mk w9.heap.size 0 none) 0 [.i .i64, .i .i64, .i .i64, .i .u64, .i .u64, .i .i64] fun (r40:Int) (r41:Int) (r42:Int) (r43:Int) (r44:Int) (r45:Int)=>K r40 r41 r42 r43 r44 r45 (41:Int) w39) else (∃kind46,w38.cell? (Addr.mk w.heap.size 0 none)=some (.int .i64 kind46)/\C.qcf kind46 (fun r47 w48=>∀k49:World->Prop,(∀(w50:World),(bif badge8 !=(0:Int) then (St w50 ((Addr.mk w.heap.size 0 none).add 3) (.int .u64 badge8) fun w51=>LdL w51 (Addr.mk w.heap.size 0 none) 0 [.i .i64, .i .i64, .i .i64, .i .u64, .i .u64, .i .i64] fun (kind52:Int) (kind53:Int) (kind54:Int) (kind55:Int) (kind56:Int) (kind57:Int)=>StL w51 (Addr.mk w9.heap.size 0 none) 0 [.int .i64 kind52, .int .i64 kind53, .int .i64 kind54, .int .u64 kind55, .int .u64 kind56, .int .i64 kind57] fun w58=>LdL w58 (Addr.mk w9.heap.size 0 none) 0 [.i .i64, .i .i64, .i .i64, .i .u64, .i .u64, .i .i64] fun (r59:Int) (r60:Int) (r61:Int) (r62:Int) (r63:Int) (r64:Int)=>K r59 r60 r61 r62 r63 r64 (0:Int) w58) else (LdL w50 (Addr.mk w.heap.size 0 none) 0 [.i .i64, .i .i64, .i .i64, .i .u64, .i .u64, .i .i64] fun (kind65:Int) (kind66:Int) (kind67:Int) (kind68:Int) (kind69:Int) (kind70:Int)=>StL w50 (Addr.mk w9.heap.size 0 none) 0 [.int .i64 kind65, .int .i64 kind66, .int .i64 kind67, .int .u64 kind68, .int .u64 kind69, .int .i64 kind70] fun w71=>LdL w71 (Addr.mk w9.heap.size 0 none) 0 [.i .i64, .i .i64, .i .i64, .i .u64, .i .u64, .i .i64] fun (r72:Int) (r73:Int) (r74:Int) (r75:Int) (r76:Int) (r77:Int)=>K r72 r73 r74 r75 r76 r77 (0:Int) w71))->k49 w50)->(bif r47 then (∃rights78,w48.cell? ((Addr.mk w.heap.size 0 none).add 2)=some (.int .i64 rights78)/\St w48 ((Addr.mk w.heap.size 0 none).add 2) (.int .i64 (andI .i64 rights78 some7)) fun w79=>k49 w79) else (k49 w48))) w38))->k36 t37 w38)->(bif kind35==(0:Int) then (k36 (kind35==(0:Int)) w27) else (bif badge8 !=(0:Int) then (∃kind80,w27.cell? (Addr.mk w.heap.size 0 none)=some (.int .i64 kind80)/\C.qcr kind80 (fun r81 w82=>bif !r81 then (k36 true w82) else (∃badge83,w82.cell? ((Addr.mk w.heap.size 0 none).add 3)=some (.int .u64 badge83)/\k36 (badge83 !=(0:Int)) w82)) w27) else (k36 false w27))))) w18)) w10
theorem S.qcF0 (c1:Int) (c2:Int) (c3:Int) (c4:Int) (c5:Int) (c6:Int) (some7:Int) (badge8:Int) (K:Int->Int->Int->Int->Int->Int->Int->World->Prop) (w:World) (h:S.qcF c1 c2 c3 c4 c5 c6 some7 badge8 K w):C.qcF c1 c2 c3 c4 c5 c6 some7 badge8 K w:=
 okS Tryz.func205 (.t none (.u) (.t none (.u) (.t none (.t none (.t none (.u) (.t none (.t none (.u) (.u)) (.t none (.u) (.t none (.t none (.u) (.u)) (.t none (.t none (.u) (.t (some [(21, .c (.b))]) (.u) (.u))) (.t none (.t none (.u) (.u)) (.u))))))) (.u)) (.t none (.t none (.u) (.t (some []) (.u) (.u))) (.t none (.t none (.u) (.t none (.u) (.u))) (.t none (.u) (.u))))))) [(0, .a [.i .i64, .i .i64, .i .i64, .i .u64, .i .u64, .i .i64]),(1, .c (.i .i64))] [.agg #[.int .i64 c1, .int .i64 c2, .int .i64 c3, .int .u64 c4, .int .u64 c5, .int .i64 c6], .int .i64 some7, .int .u64 badge8] K rfl (by kernel_rfl) (by kernel_rfl) h
def S.qcq (n1:Int) (K:Bool->World->Prop) (w:World):Prop:=bif decide (n1≥(0:Int)) then (K (decide (n1≤(7:Int))) w) else (K false w)
theorem S.qcq0 (n1:Int) (K:Bool->World->Prop) (w:World) (h:S.qcq n1 K w):C.qcq n1 K w:=
 okS Tryz.func260 (.t none (.u) (.t none (.u) (.u))) [(0, .c (.b))] [.int .i64 n1] K rfl (by kernel_rfl) (by kernel_rfl) h
def S.qcG (g1:Int) (bits2:Int) (K:Bool->World->Prop) (w:World):Prop:=C.qcI bits2 (fun r3 r4 w5=>bif r4==(0:Int) then (K ((andNotI .u64 g1 r3)==(0:Int)) w5) else (K false w5)) w
theorem S.qcG0 (g1:Int) (bits2:Int) (K:Bool->World->Prop) (w:World) (h:S.qcG g1 bits2 K w):C.qcG g1 bits2 K w:=
 okS Tryz.func261 (.t none (.u) (.t none (.u) (.t none (.u) (.u)))) [(0, .c (.b))] [.int .u64 g1, .int .i64 bits2] K rfl (by kernel_rfl) (by kernel_rfl) h
def S.qcf (kind1:Int) (K:Bool->World->Prop) (w:World):Prop:=bif kind1==(4:Int) then (K true w) else (bif kind1==(5:Int) then (K true w) else (K (kind1==(6:Int)) w))
theorem S.qcf0 (kind1:Int) (K:Bool->World->Prop) (w:World) (h:S.qcf kind1 K w):C.qcf kind1 K w:=
 okS Tryz.func262 (.t none (.u) (.t none (.u) (.u))) [(0, .c (.b))] [.int .i64 kind1] K rfl (by kernel_rfl) (by kernel_rfl) h
def S.qcr (kind1:Int) (K:Bool->World->Prop) (w:World):Prop:=bif kind1==(4:Int) then (K true w) else (K (kind1==(5:Int)) w)
theorem S.qcr0 (kind1:Int) (K:Bool->World->Prop) (w:World) (h:S.qcr kind1 K w):C.qcr kind1 K w:=
 okS Tryz.func263 (.t none (.u) (.t none (.u) (.u))) [(0, .c (.b))] [.int .i64 kind1] K rfl (by kernel_rfl) (by kernel_rfl) h
def S.qcN (a1:Int) (a2:Int) (a3:Int) (a4:Int) (a5:Int) (a6:Int) (b7:Int) (b8:Int) (b9:Int) (b10:Int) (b11:Int) (b12:Int) (K:Bool->World->Prop) (w:World):Prop:=Al w (.cells #[.int .i64 a1, .int .i64 a2, .int .i64 a3, .int .u64 a4, .int .u64 a5, .int .i64 a6] 42) fun w13=>Al w13 (.cells #[.int .i64 b7, .int .i64 b8, .int .i64 b9, .int .u64 b10, .int .u64 b11, .int .i64 b12] 42) fun w14=>∃kind15,w14.cell? (Addr.mk w.heap.size 0 none)=some (.int .i64 kind15)/\bif kind15 !=(0:Int) then (∃kind16,w14.cell? (Addr.mk w.heap.size 0 none)=some (.int .i64 kind16)/\∃kind17,w14.cell? (Addr.mk w13.heap.size 0 none)=some (.int .i64 kind17)/\bif kind16==kind17 then (∃obj18,w14.cell? ((Addr.mk w.heap.size 0 none).add 1)=some (.int .i64 obj18)/\∃obj19,w14.cell? ((Addr.mk w13.heap.size 0 none).add 1)=some (.int .i64 obj19)/\K (obj18==obj19) w14) else (K false w14)) else (K false w14)
theorem S.qcN0 (a1:Int) (a2:Int) (a3:Int) (a4:Int) (a5:Int) (a6:Int) (b7:Int) (b8:Int) (b9:Int) (b10:Int) (b11:Int) (b12:Int) (K:Bool->World->Prop) (w:World) (h:S.qcN a1 a2 a3 a4 a5 a6 b7 b8 b9 b10 b11 b12 K w):C.qcN a1 a2 a3 a4 a5 a6 b7 b8 b9 b10 b11 b12 K w:=
 okS Tryz.func288 (.t none (.u) (.t none (.u) (.u))) [(0, .c (.b))] [.agg #[.int .i64 a1, .int .i64 a2, .int .i64 a3, .int .u64 a4, .int .u64 a5, .int .i64 a6], .agg #[.int .i64 b7, .int .i64 b8, .int .i64 b9, .int .u64 b10, .int .u64 b11, .int .i64 b12]] K rfl (by kernel_rfl) (by kernel_rfl) h
def S.qcE (vals1:Sl) (K:Int->World->Prop) (w:World):Prop:=∀l2:Int->World->Prop,(∀(t3:Int) (w4:World),(bif decide (t3<(vals1.len:Int)) then (∃a5,vals1.a=some a5/\0≤t3/\t3<(vals1.len:Int)/\∃t6,w4.cell? (a5.add (t3.toNat*1))=some (.int .i64 t6)/\bif t6 !=(0:Int) then (K t6 w4) else (l2 (IntKind.i64.wrap (t3+(1:Int))) w4)) else (K (0:Int) w4))->l2 t3 w4)->l2 (0:Int) w
theorem S.qcE0 (vals1:Sl) (K:Int->World->Prop) (w:World) (h:S.qcE vals1 K w):C.qcE vals1 K w:=
 okS Tryz.func197 (.t none (.u) (.t none (.u) (.t none (.t none (.u) (.t none (.t (some [(8, .c (.i .i64))]) (.t none (.u) (.t none (.t none (.u) (.u)) (.t none (.t none (.t none (.u) (.t none (.u) (.t none (.t none (.u) (.u)) (.u)))) (.u)) (.u)))) (.u)) (.u))) (.t none (.u) (.u))))) [(0, .c (.i .i64))] [.slice vals1.a vals1.len vals1.cap] K rfl (by kernel_rfl) (by kernel_rfl) h
def S.qbs (x1:Int) (y2:Int) (K:Int->World->Prop) (w:World):Prop:=C.qbT x1 (fun r3 w4=>C.qbT y2 (fun r5 w6=>bif r3 then (bif r5 then (K (0:Int) w6) else (K (-1:Int) w6)) else (bif r5 then (K (1:Int) w6) else (bif decide (x1<y2) then (K (-1:Int) w6) else (bif decide (x1>y2) then (K (1:Int) w6) else (K (0:Int) w6))))) w4) w
theorem S.qbs0 (x1:Int) (y2:Int) (K:Int->World->Prop) (w:World) (h:S.qbs x1 y2 K w):C.qbs x1 y2 K w:=
 okS Tryz.func198 (.t none (.u) (.t none (.u) (.t none (.u) (.t none (.t none (.u) (.t none (.t none (.t none (.u) (.t none (.t none (.u) (.u)) (.u))) (.t none (.u) (.u))) (.u))) (.t none (.t none (.u) (.t none (.t none (.u) (.u)) (.u))) (.t none (.t none (.u) (.t none (.t none (.u) (.u)) (.u))) (.t none (.t none (.u) (.t none (.t none (.u) (.u)) (.u))) (.t none (.u) (.u))))))))) [(0, .c (.i .i64))] [.int .i64 x1, .int .i64 y2] K rfl (by kernel_rfl) (by kernel_rfl) h
def S.qbT (x1:Int) (K:Bool->World->Prop) (w:World):Prop:=K (x1 !=x1) w
theorem S.qbT0 (x1:Int) (K:Bool->World->Prop) (w:World) (h:S.qbT x1 K w):C.qbT x1 K w:=
 okS Tryz.func274 (.t none (.u) (.t none (.u) (.u))) [(0, .c (.b))] [.int .i64 x1] K rfl (by kernel_rfl) (by kernel_rfl) h
def S.qad (p1:Option Addr) (K:Sl->Bool->World->Prop) (w:World):Prop:=∃a2,p1=some a2/\∃l3:Sl,w.cell? a2=some (.slice l3.a l3.len l3.cap)/\∀l4:Sl->Int->World->Prop,(∀(out5:Sl) (t6:Int) (w7:World),(bif decide (t6<(l3.len:Int)) then (∃a8,l3.a=some a8/\0≤t6/\t6<(l3.len:Int)/\LdL w7 (a8.add (t6.toNat*8)) 0 [.i .i64, .i .i64, .i .u64, .i .u64, .i .u64, .i .u64, .i .u64, .b] fun (t9:Int) (t10:Int) (t11:Int) (t12:Int) (t13:Int) (t14:Int) (t15:Int) (t16:Bool)=>Al w7 (.cells #[.int .i64 0, .int .i64 0, .int .u64 0, .int .u64 0, .int .u64 0, .int .u64 0, .int .u64 0, .bool false] 225) fun w17=>StL w17 (Addr.mk w7.heap.size 0 none) 0 [.int .i64 t9, .int .i64 t10, .int .u64 t11, .int .u64 t12, .int .u64 t13, .int .u64 t14, .int .u64 t15, .bool t16] fun w18=>∃who19,w18.cell? (Addr.mk w7.heap.size 0 none)=some (.int .i64 who19)/\Al w18 (.cells #[.int .i64 who19] 3) fun w20=>∃(t21:Sl) (w22:World),AppR Tryz.prog [26,26] 26 (.slice out5.a out5.len out5.cap) (.slice (some (Addr.mk w18.heap.size 0 none)) 1 1) w20 t21 w22/\l4 t21 (IntKind.i64.wrap (t6+(1:Int))) w22) else (∃a23,p1=some a23/\∃sends24,w7.cell? (a23.add 1)=some (.bool sends24)/\bif sends24 then (K out5 (decide ((out5.len:Int)>(0:Int))) w7) else (K out5 false w7)))->l4 out5 t6 w7)->l4 ⟨none,0,0⟩ (0:Int) w
theorem S.qad0 (p1:Option Addr) (K:Sl->Bool->World->Prop) (w:World) (h:S.qad p1 K w):C.qad p1 K w:=
 okS Tryz.func60 (.t none (.u) (.t none (.u) (.t none (.t none (.u) (.t none (.t (some [(4, .c (.s)),(12, .c (.i .i64))]) (.t none (.u) (.t none (.t none (.u) (.u)) (.t none (.t none (.t none (.u) (.u)) (.u)) (.u)))) (.u)) (.u))) (.t none (.u) (.u))))) [(0, .c (.s)),(1, .c (.b))] [.pointer p1] K rfl (by kernel_rfl) (by kernel_rfl) h
def S.qR (p1:Option Addr) (who2:Int) (m3:Int) (m4:Int) (m5:Int) (m6:Int) (m7:Int) (m8:Int) (m9:Bool) (waits10:Bool) (K:Bool->Int->Int->Int->Int->Int->Int->Int->Int->Bool->Int->World->Prop) (w:World):Prop:=Al w (.cells #[.int .i64 m3, .int .u64 m4, .int .u64 m5, .int .u64 m6, .int .u64 m7, .int .u64 m8, .bool m9] 223) fun w11=>Al w11 (.cells #[.bool false, .int .i64 0, .int .i64 0, .int .i64 0, .int .u64 0, .int .u64 0, .int .u64 0, .int .u64 0, .int .u64 0, .bool false] 267) fun w12=>C.qI p1 who2 (fun r13 w14=>bif r13 then (StL w14 (Addr.mk w11.heap.size 0 none) 0 [.bool false, .int .i64 0, .int .i64 0, .int .i64 0, .int .u64 0, .int .u64 0, .int .u64 0, .int .u64 0, .int .u64 0, .bool false] fun w15=>LdL w15 (Addr.mk w11.heap.size 0 none) 0 [.b, .i .i64, .i .i64, .i .i64, .i .u64, .i .u64, .i .u64, .i .u64, .i .u64, .b] fun (r16:Bool) (r17:Int) (r18:Int) (r19:Int) (r20:Int) (r21:Int) (r22:Int) (r23:Int) (r24:Int) (r25:Bool)=>K r16 r17 r18 r19 r20 r21 r22 r23 r24 r25 (110:Int) w15) else (C.qJ p1 false (fun r26 r27 r28 r29 r30 r31 r32 r33 r34 w35=>Al w35 (.cells #[.int .i64 0, .int .i64 0, .int .u64 0, .int .u64 0, .int .u64 0, .int .u64 0, .int .u64 0, .bool false] 225) fun w36=>StL w36 (Addr.mk w35.heap.size 0 none) 0 [.int .i64 r26, .int .i64 r27, .int .u64 r28, .int .u64 r29, .int .u64 r30, .int .u64 r31, .int .u64 r32, .bool r33] fun w37=>bif r34 then (∃who38,w37.cell? (Addr.mk w35.heap.size 0 none)=some (.int .i64 who38)/\LdL w37 (Addr.mk w.heap.size 0 none) 0 [.i .i64, .i .u64, .i .u64, .i .u64, .i .u64, .i .u64, .b] fun (t39:Int) (t40:Int) (t41:Int) (t42:Int) (t43:Int) (t44:Int) (t45:Bool)=>StL w37 (Addr.mk w11.heap.size 0 none) 0 [.bool true, .int .i64 who2, .int .i64 who38, .int .i64 t39, .int .u64 t40, .int .u64 t41, .int .u64 t42, .int .u64 t43, .int .u64 t44, .bool t45] fun w46=>LdL w46 (Addr.mk w11.heap.size 0 none) 0 [.b, .i .i64, .i .i64, .i .i64, .i .u64, .i .u64, .i .u64, .i .u64, .i .u64, .b] fun (r47:Bool) (r48:Int) (r49:Int) (r50:Int) (r51:Int) (r52:Int) (r53:Int) (r54:Int) (r55:Int) (r56:Bool)=>K r47 r48 r49 r50 r51 r52 r53 r54 r55 r56 (0:Int) w46) else (bif waits10 then (LdL w37 (Addr.mk w.heap.size 0 none) 0 [.i .i64, .i .u64, .i .u64, .i .u64, .i .u64, .i .u64, .b] fun (t57:Int) (t58:Int) (t59:Int) (t60:Int) (t61:Int) (t62:Int) (t63:Bool)=>C.qU p1 who2 t57 t58 t59 t60 t61 t62 t63 true (fun w64=>StL w64 (Addr.mk w11.heap.size 0 none) 0 [.bool false, .int .i64 0, .int .i64 0, .int .i64 0, .int .u64 0, .int .u64 0, .int .u64 0, .int .u64 0, .int .u64 0, .bool false] fun w65=>LdL w65 (Addr.mk w11.heap.size 0 none) 0 [.b, .i .i64, .i .i64, .i .i64, .i .u64, .i .u64, .i .u64, .i .u64, .i .u64, .b] fun (r66:Bool) (r67:Int) (r68:Int) (r69:Int) (r70:Int) (r71:Int) (r72:Int) (r73:Int) (r74:Int) (r75:Bool)=>K r66 r67 r68 r69 r70 r71 r72 r73 r74 r75 (0:Int) w65) w37) else (StL w37 (Addr.mk w11.heap.size 0 none) 0 [.bool false, .int .i64 0, .int .i64 0, .int .i64 0, .int .u64 0, .int .u64 0, .int .u64 0, .int .u64 0, .int .u64 0, .bool false] fun w76=>LdL w76 (Addr.mk w11.heap.size 0 none) 0 [.b, .i .i64, .i .i64, .i .i64, .i .u64, .i .u64, .i .u64, .i .u64, .i .u64, .b] fun (r77:Bool) (r78:Int) (r79:Int) (r80:Int) (r81:Int) (r82:Int) (r83:Int) (r84:Int) (r85:Int) (r86:Bool)=>K r77 r78 r79 r80 r81 r82 r83 r84 r85 r86 (0:Int) w76))) w14)) w12
theorem S.qR0 (p1:Option Addr) (who2:Int) (m3:Int) (m4:Int) (m5:Int) (m6:Int) (m7:Int) (m8:Int) (m9:Bool) (waits10:Bool) (K:Bool->Int->Int->Int->Int->Int->Int->Int->Int->Bool->Int->World->Prop) (w:World) (h:S.qR p1 who2 m3 m4 m5 m6 m7 m8 m9 waits10 K w):C.qR p1 who2 m3 m4 m5 m6 m7 m8 m9 waits10 K w:=
 okS Tryz.func216 (.t none (.u) (.t none (.t none (.u) (.t none (.t none (.u) (.u)) (.u))) (.t none (.t none (.u) (.t none (.u) (.t none (.t none (.u) (.u)) (.u)))) (.t none (.t none (.u) (.t none (.u) (.u))) (.t none (.u) (.u)))))) [(0, .a [.b, .i .i64, .i .i64, .i .i64, .i .u64, .i .u64, .i .u64, .i .u64, .i .u64, .b]),(1, .c (.i .i64))] [.pointer p1, .int .i64 who2, .agg #[.int .i64 m3, .int .u64 m4, .int .u64 m5, .int .u64 m6, .int .u64 m7, .int .u64 m8, .bool m9], .bool waits10] K rfl (by kernel_rfl) (by kernel_rfl) h
def S.qS (p1:Option Addr) (who2:Int) (waits3:Bool) (K:Bool->Int->Int->Int->Int->Int->Int->Int->Int->Bool->Int->World->Prop) (w:World):Prop:=Al w (.cells #[.bool false, .int .i64 0, .int .i64 0, .int .i64 0, .int .u64 0, .int .u64 0, .int .u64 0, .int .u64 0, .int .u64 0, .bool false] 267) fun w4=>C.qI p1 who2 (fun r5 w6=>bif r5 then (StL w6 (Addr.mk w.heap.size 0 none) 0 [.bool false, .int .i64 0, .int .i64 0, .int .i64 0, .int .u64 0, .int .u64 0, .int .u64 0, .int .u64 0, .int .u64 0, .bool false] fun w7=>LdL w7 (Addr.mk w.heap.size 0 none) 0 [.b, .i .i64, .i .i64, .i .i64, .i .u64, .i .u64, .i .u64, .i .u64, .i .u64, .b] fun (r8:Bool) (r9:Int) (r10:Int) (r11:Int) (r12:Int) (r13:Int) (r14:Int) (r15:Int) (r16:Int) (r17:Bool)=>K r8 r9 r10 r11 r12 r13 r14 r15 r16 r17 (110:Int) w7) else (C.qJ p1 true (fun r18 r19 r20 r21 r22 r23 r24 r25 r26 w27=>Al w27 (.cells #[.int .i64 0, .int .i64 0, .int .u64 0, .int .u64 0, .int .u64 0, .int .u64 0, .int .u64 0, .bool false] 225) fun w28=>StL w28 (Addr.mk w27.heap.size 0 none) 0 [.int .i64 r18, .int .i64 r19, .int .u64 r20, .int .u64 r21, .int .u64 r22, .int .u64 r23, .int .u64 r24, .bool r25] fun w29=>bif r26 then (∃who30,w29.cell? (Addr.mk w27.heap.size 0 none)=some (.int .i64 who30)/\LdL w29 ((Addr.mk w27.heap.size 0 none).add 1) 0 [.i .i64, .i .u64, .i .u64, .i .u64, .i .u64, .i .u64, .b] fun (m31:Int) (m32:Int) (m33:Int) (m34:Int) (m35:Int) (m36:Int) (m37:Bool)=>StL w29 (Addr.mk w.heap.size 0 none) 0 [.bool true, .int .i64 who30, .int .i64 who2, .int .i64 m31, .int .u64 m32, .int .u64 m33, .int .u64 m34, .int .u64 m35, .int .u64 m36, .bool m37] fun w38=>LdL w38 (Addr.mk w.heap.size 0 none) 0 [.b, .i .i64, .i .i64, .i .i64, .i .u64, .i .u64, .i .u64, .i .u64, .i .u64, .b] fun (r39:Bool) (r40:Int) (r41:Int) (r42:Int) (r43:Int) (r44:Int) (r45:Int) (r46:Int) (r47:Int) (r48:Bool)=>K r39 r40 r41 r42 r43 r44 r45 r46 r47 r48 (0:Int) w38) else (bif waits3 then (C.qU p1 who2 (0:Int) (0:Int) (0:Int) (0:Int) (0:Int) (0:Int) false false (fun w49=>StL w49 (Addr.mk w.heap.size 0 none) 0 [.bool false, .int .i64 0, .int .i64 0, .int .i64 0, .int .u64 0, .int .u64 0, .int .u64 0, .int .u64 0, .int .u64 0, .bool false] fun w50=>LdL w50 (Addr.mk w.heap.size 0 none) 0 [.b, .i .i64, .i .i64, .i .i64, .i .u64, .i .u64, .i .u64, .i .u64, .i .u64, .b] fun (r51:Bool) (r52:Int) (r53:Int) (r54:Int) (r55:Int) (r56:Int) (r57:Int) (r58:Int) (r59:Int) (r60:Bool)=>K r51 r52 r53 r54 r55 r56 r57 r58 r59 r60 (0:Int) w50) w29) else (StL w29 (Addr.mk w.heap.size 0 none) 0 [.bool false, .int .i64 0, .int .i64 0, .int .i64 0, .int .u64 0, .int .u64 0, .int .u64 0, .int .u64 0, .int .u64 0, .bool false] fun w61=>LdL w61 (Addr.mk w.heap.size 0 none) 0 [.b, .i .i64, .i .i64, .i .i64, .i .u64, .i .u64, .i .u64, .i .u64, .i .u64, .b] fun (r62:Bool) (r63:Int) (r64:Int) (r65:Int) (r66:Int) (r67:Int) (r68:Int) (r69:Int) (r70:Int) (r71:Bool)=>K r62 r63 r64 r65 r66 r67 r68 r69 r70 r71 (0:Int) w61))) w6)) w4
theorem S.qS0 (p1:Option Addr) (who2:Int) (waits3:Bool) (K:Bool->Int->Int->Int->Int->Int->Int->Int->Int->Bool->Int->World->Prop) (w:World) (h:S.qS p1 who2 waits3 K w):C.qS p1 who2 waits3 K w:=
 okS Tryz.func219 (.t none (.u) (.t none (.t none (.u) (.t none (.t none (.u) (.u)) (.u))) (.t none (.t none (.u) (.t none (.u) (.t none (.t none (.u) (.u)) (.u)))) (.t none (.t none (.u) (.t none (.u) (.u))) (.t none (.u) (.u)))))) [(0, .a [.b, .i .i64, .i .i64, .i .i64, .i .u64, .i .u64, .i .u64, .i .u64, .i .u64, .b]),(1, .c (.i .i64))] [.pointer p1, .int .i64 who2, .bool waits3] K rfl (by kernel_rfl) (by kernel_rfl) h
def S.qcw (K:Option Addr->World->Prop) (w:World):Prop:=Al w (.cells #[.slice none 0 0, .bool false] 220) fun w1=>K (some (Addr.mk w.heap.size 0 none)) w1
theorem S.qcw0 (K:Option Addr->World->Prop) (w:World) (h:S.qcw K w):C.qcw K w:=
 okS Tryz.func282 (.t none (.u) (.t none (.u) (.u))) [(0, .c (.p))] [] K rfl (by kernel_rfl) (by kernel_rfl) h
def S.qX (p1:Option Addr) (who2:Int) (K:Bool->World->Prop) (w:World):Prop:=Al w (.cells #[.int .i64 who2] 3) fun w3=>∃a4,p1=some a4/\∃l5:Sl,w3.cell? a4=some (.slice l5.a l5.len l5.cap)/\∃a6,p1=some a6/\∃l7:Sl,w3.cell? a6=some (.slice l7.a l7.len l7.cap)/\C.qg l7 (.func (.func 340) #[] #[.pointer (some (Addr.mk w.heap.size 0 none))]) (fun r8 w9=>∃a10,p1=some a10/\St w9 a10 (.slice r8.a r8.len r8.cap) fun w11=>∃a12,p1=some a12/\∃l13:Sl,w11.cell? a12=some (.slice l13.a l13.len l13.cap)/\K (decide ((l13.len:Int)<(l5.len:Int))) w11) w3
theorem S.qX0 (p1:Option Addr) (who2:Int) (K:Bool->World->Prop) (w:World) (h:S.qX p1 who2 K w):C.qX p1 who2 K w:=
 okS Tryz.func292 (.t none (.u) (.t none (.u) (.t none (.u) (.t none (.u) (.u))))) [(0, .c (.b))] [.pointer p1, .int .i64 who2] K rfl (by kernel_rfl) (by kernel_rfl) h
def S.qI (p1:Option Addr) (who2:Int) (K:Bool->World->Prop) (w:World):Prop:=Al w (.cells #[.int .i64 who2] 3) fun w3=>∃a4,p1=some a4/\∃l5:Sl,w3.cell? a4=some (.slice l5.a l5.len l5.cap)/\C.qf l5 (.func (.func 343) #[] #[.pointer (some (Addr.mk w.heap.size 0 none))]) (fun r6 w7=>K r6 w7) w3
theorem S.qI0 (p1:Option Addr) (who2:Int) (K:Bool->World->Prop) (w:World) (h:S.qI p1 who2 K w):C.qI p1 who2 K w:=
 okS Tryz.func294 (.t none (.u) (.t none (.u) (.u))) [(0, .c (.b))] [.pointer p1, .int .i64 who2] K rfl (by kernel_rfl) (by kernel_rfl) h
def S.qJ (p1:Option Addr) (sends2:Bool) (K:Int->Int->Int->Int->Int->Int->Int->Bool->Bool->World->Prop) (w:World):Prop:=Al w (.cells #[.int .i64 0, .int .i64 0, .int .u64 0, .int .u64 0, .int .u64 0, .int .u64 0, .int .u64 0, .bool false] 225) fun w3=>∀k4:Bool->World->Prop,(∀(t5:Bool) (w6:World),(bif t5 then (StL w6 (Addr.mk w.heap.size 0 none) 0 [.int .i64 0, .int .i64 0, .int .u64 0, .int .u64 0, .int .u64 0, .int .u64 0, .int .u64 0, .bool false] fun w7=>LdL w7 (Addr.mk w.heap.size 0 none) 0 [.i .i64, .i .i64, .i .u64, .i .u64, .i .u64, .i .u64, .i .u64, .b] fun (r8:Int) (r9:Int) (r10:Int) (r11:Int) (r12:Int) (r13:Int) (r14:Int) (r15:Bool)=>K r8 r9 r10 r11 r12 r13 r14 r15 false w7) else (∃a16,p1=some a16/\∃l17:Sl,w6.cell? a16=some (.slice l17.a l17.len l17.cap)/\∃a18,l17.a=some a18/\0≤(0:Int)/\(0:Int)<(l17.len:Int)/\LdL w6 (a18.add ((0:Int).toNat*8)) 0 [.i .i64, .i .i64, .i .u64, .i .u64, .i .u64, .i .u64, .i .u64, .b] fun (t19:Int) (t20:Int) (t21:Int) (t22:Int) (t23:Int) (t24:Int) (t25:Int) (t26:Bool)=>Al w6 (.cells #[.int .i64 0, .int .i64 0, .int .u64 0, .int .u64 0, .int .u64 0, .int .u64 0, .int .u64 0, .bool false] 225) fun w27=>StL w27 (Addr.mk w6.heap.size 0 none) 0 [.int .i64 t19, .int .i64 t20, .int .u64 t21, .int .u64 t22, .int .u64 t23, .int .u64 t24, .int .u64 t25, .bool t26] fun w28=>∃a29,p1=some a29/\∃l30:Sl,w28.cell? a29=some (.slice l30.a l30.len l30.cap)/\C.qi l30 (0:Int) (1:Int) (fun r31 w32=>∃a33,p1=some a33/\St w32 a33 (.slice r31.a r31.len r31.cap) fun w34=>LdL w34 (Addr.mk w6.heap.size 0 none) 0 [.i .i64, .i .i64, .i .u64, .i .u64, .i .u64, .i .u64, .i .u64, .b] fun (t35:Int) (t36:Int) (t37:Int) (t38:Int) (t39:Int) (t40:Int) (t41:Int) (t42:Bool)=>StL w34 (Addr.mk w.heap.size 0 none) 0 [.int .i64 t35, .int .i64 t36, .int .u64 t37, .int .u64 t38, .int .u64 t39, .int .u64 t40, .int .u64 t41, .bool t42] fun w43=>LdL w43 (Addr.mk w.heap.size 0 none) 0 [.i .i64, .i .i64, .i .u64, .i .u64, .i .u64, .i .u64, .i .u64, .b] fun (r44:Int) (r45:Int) (r46:Int) (r47:Int) (r48:Int) (r49:Int) (r50:Int) (r51:Bool)=>K r44 r45 r46 r47 r48 r49 r50 r51 true w43) w28))->k4 t5 w6)->(∃a52,p1=some a52/\∃l53:Sl,w3.cell? a52=some (.slice l53.a l53.len l53.cap)/\bif (l53.len:Int)==(0:Int) then (k4 true w3) else (∃a54,p1=some a54/\∃sends55,w3.cell? (a54.add 1)=some (.bool sends55)/\k4 (!(sends55==sends2)) w3))
theorem S.qJ0 (p1:Option Addr) (sends2:Bool) (K:Int->Int->Int->Int->Int->Int->Int->Bool->Bool->World->Prop) (w:World) (h:S.qJ p1 sends2 K w):C.qJ p1 sends2 K w:=
 okS Tryz.func295 (.t none (.u) (.t none (.t none (.r (some [(20, .c (.b))]) .done) (.t none (.t none (.u) (.u)) (.u))) (.t none (.u) (.t none (.u) (.t none (.u) (.u)))))) [(0, .a [.i .i64, .i .i64, .i .u64, .i .u64, .i .u64, .i .u64, .i .u64, .b]),(1, .c (.b))] [.pointer p1, .bool sends2] K rfl (by kernel_rfl) (by kernel_rfl) h
def S.qU (p1:Option Addr) (o2:Int) (o3:Int) (o4:Int) (o5:Int) (o6:Int) (o7:Int) (o8:Int) (o9:Bool) (sends10:Bool) (K:World->Prop) (w:World):Prop:=Al w (.cells #[.int .i64 o2, .int .i64 o3, .int .u64 o4, .int .u64 o5, .int .u64 o6, .int .u64 o7, .int .u64 o8, .bool o9] 225) fun w11=>Dr w11 fun w12=>∃a13,p1=some a13/\∃l14:Sl,w12.cell? a13=some (.slice l14.a l14.len l14.cap)/\LdL w12 (Addr.mk w.heap.size 0 none) 0 [.i .i64, .i .i64, .i .u64, .i .u64, .i .u64, .i .u64, .i .u64, .b] fun (t15:Int) (t16:Int) (t17:Int) (t18:Int) (t19:Int) (t20:Int) (t21:Int) (t22:Bool)=>(Al w12 (.cells #[.int .i64 t15, .int .i64 t16, .int .u64 t17, .int .u64 t18, .int .u64 t19, .int .u64 t20, .int .u64 t21, .bool t22] 225) fun w23=>(∃(t24:Sl) (w25:World),AppR Tryz.prog [218,218] 218 (.slice l14.a l14.len l14.cap) (.slice (some (Addr.mk w12.heap.size 0 none)) 1 1) w23 t24 w25/\∃a26,p1=some a26/\(St w25 a26 (.slice t24.a t24.len t24.cap) fun w27=>∃a28,p1=some a28/\(St w27 (a28.add 1) (.bool sends10) fun w29=>K w29)/\True)/\True)/\True)/\True
theorem S.qU0 (p1:Option Addr) (o2:Int) (o3:Int) (o4:Int) (o5:Int) (o6:Int) (o7:Int) (o8:Int) (o9:Bool) (sends10:Bool) (K:World->Prop) (w:World) (h:S.qU p1 o2 o3 o4 o5 o6 o7 o8 o9 sends10 K w):C.qU p1 o2 o3 o4 o5 o6 o7 o8 o9 sends10 K w:=
 okS Tryz.func296 (.t none (.u) (.r none (.one 0 1022 (.one 1 8188 (.one 2 704 (.one 3 704 (.one 4 704 (.one 5 704 (.one 6 512 (.one 9 7552 (.alt 7 (.alt 8 (.one 10 0 (.one 11 0 (.alt 12 (.one 13 0 (.one 14 0 (.alt 15 (.done) (.none)))) (.none)))) (.none)) (.none)))))))))))) [] [.pointer p1, .agg #[.int .i64 o2, .int .i64 o3, .int .u64 o4, .int .u64 o5, .int .u64 o6, .int .u64 o7, .int .u64 o8, .bool o9], .bool sends10] K rfl (by kernel_rfl) (by kernel_rfl) h
def S.qac (o1:Int) (o2:Int) (o3:Int) (o4:Int) (o5:Int) (o6:Int) (o7:Int) (o8:Bool) (t9:Addr) (K:Bool->World->Prop) (w:World):Prop:=Al w (.cells #[.int .i64 o1, .int .i64 o2, .int .u64 o3, .int .u64 o4, .int .u64 o5, .int .u64 o6, .int .u64 o7, .bool o8] 225) fun w10=>∃who11,w10.cell? (Addr.mk w.heap.size 0 none)=some (.int .i64 who11)/\∃t12,w10.cell? t9=some (.int .i64 t12)/\K (who11==t12) w10
theorem S.qac0 (o1:Int) (o2:Int) (o3:Int) (o4:Int) (o5:Int) (o6:Int) (o7:Int) (o8:Bool) (t9:Addr) (K:Bool->World->Prop) (w:World) (h:S.qac o1 o2 o3 o4 o5 o6 o7 o8 t9 K w):C.qac o1 o2 o3 o4 o5 o6 o7 o8 t9 K w:=
 okS Tryz.func340 (.t none (.u) (.t none (.u) (.u))) [(0, .c (.b))] [.agg #[.int .i64 o1, .int .i64 o2, .int .u64 o3, .int .u64 o4, .int .u64 o5, .int .u64 o6, .int .u64 o7, .bool o8], .pointer (some t9)] K rfl (by kernel_rfl) (by kernel_rfl) h
def S.qaf (o1:Int) (o2:Int) (o3:Int) (o4:Int) (o5:Int) (o6:Int) (o7:Int) (o8:Bool) (t9:Addr) (K:Bool->World->Prop) (w:World):Prop:=Al w (.cells #[.int .i64 o1, .int .i64 o2, .int .u64 o3, .int .u64 o4, .int .u64 o5, .int .u64 o6, .int .u64 o7, .bool o8] 225) fun w10=>∃who11,w10.cell? (Addr.mk w.heap.size 0 none)=some (.int .i64 who11)/\∃t12,w10.cell? t9=some (.int .i64 t12)/\K (who11==t12) w10
theorem S.qaf0 (o1:Int) (o2:Int) (o3:Int) (o4:Int) (o5:Int) (o6:Int) (o7:Int) (o8:Bool) (t9:Addr) (K:Bool->World->Prop) (w:World) (h:S.qaf o1 o2 o3 o4 o5 o6 o7 o8 t9 K w):C.qaf o1 o2 o3 o4 o5 o6 o7 o8 t9 K w:=
 okS Tryz.func343 (.t none (.u) (.t none (.u) (.u))) [(0, .c (.b))] [.agg #[.int .i64 o1, .int .i64 o2, .int .u64 o3, .int .u64 o4, .int .u64 o5, .int .u64 o6, .int .u64 o7, .bool o8], .pointer (some t9)] K rfl (by kernel_rfl) (by kernel_rfl) h
def S.qcM (b1:Int) (b2:Int) (b3:Int) (b4:Int) (K:Int->World->Prop) (w:World):Prop:=Al w (.cells #[.int .u64 b1, .int .u64 b2, .int .u64 b3, .int .u64 b4] 293) fun w5=>∀l6:Int->World->Prop,(∀(t7:Int) (w8:World),(bif decide (t7<(4:Int)) then (0≤IntKind.i64.wrap ((3:Int)-t7)/\IntKind.i64.wrap ((3:Int)-t7)<(4:Int)/\∃t9,w8.cell? ((Addr.mk w.heap.size 0 none).add ((IntKind.i64.wrap ((3:Int)-t7)).toNat*1))=some (.int .u64 t9)/\bif t9 !=(0:Int) then (0≤IntKind.i64.wrap ((3:Int)-t7)/\IntKind.i64.wrap ((3:Int)-t7)<(4:Int)/\∃t10,w8.cell? ((Addr.mk w.heap.size 0 none).add ((IntKind.i64.wrap ((3:Int)-t7)).toNat*1))=some (.int .u64 t10)/\C.qbM t10 (fun r11 w12=>K (IntKind.i64.wrap ((IntKind.i64.wrap ((IntKind.i64.wrap ((IntKind.i64.wrap ((3:Int)-t7))*(64:Int)))+r11))-(1:Int))) w12) w8) else (l6 (IntKind.i64.wrap (t7+(1:Int))) w8)) else (K (-1:Int) w8))->l6 t7 w8)->l6 (0:Int) w5
theorem S.qcM0 (b1:Int) (b2:Int) (b3:Int) (b4:Int) (K:Int->World->Prop) (w:World) (h:S.qcM b1 b2 b3 b4 K w):C.qcM b1 b2 b3 b4 K w:=
 okS Tryz.func192 (.t none (.u) (.t none (.t none (.u) (.t none (.t (some [(5, .c (.i .i64))]) (.t none (.u) (.t none (.t none (.u) (.u)) (.t none (.t none (.t none (.u) (.t none (.u) (.t none (.u) (.t none (.t none (.u) (.u)) (.u))))) (.u)) (.u)))) (.u)) (.u))) (.t none (.u) (.u)))) [(0, .c (.i .i64))] [.agg #[.int .u64 b1, .int .u64 b2, .int .u64 b3, .int .u64 b4]] K rfl (by kernel_rfl) (by kernel_rfl) h
def S.qcP (v1:Int) (n2:Int) (K:Int->Int->World->Prop) (w:World):Prop:=∀k3:Bool->World->Prop,(∀(t4:Bool) (w5:World),(bif t4 then (K (0:Int) (1:Int) w5) else (C.qcb n2 (fun r6 w7=>∃r8,∃r9,∃w10:World,ExtR Tryz.prog 331 #[.int .u64 v1, .int .u64 r6, .int .u64 0] w7 (.tuple #[.int .u64 r8, .int .u64 r9]) w10/\bif r9 !=(0:Int) then (K (0:Int) (2:Int) w10) else (K (andNotI .u64 r8 r6) (0:Int) w10)) w5))->k3 t4 w5)->(bif decide (n2<(0:Int)) then (k3 true w) else (k3 (decide (n2≥(64:Int))) w))
theorem S.qcP0 (v1:Int) (n2:Int) (K:Int->Int->World->Prop) (w:World) (h:S.qcP v1 n2 K w):C.qcP v1 n2 K w:=
 okS Tryz.func278 (.t none (.u) (.t none (.t none (.r (some [(14, .c (.b))]) .done) (.t none (.t none (.u) (.u)) (.u))) (.t none (.u) (.t none (.u) (.t none (.t none (.u) (.t none (.t none (.u) (.u)) (.u))) (.t none (.u) (.u))))))) [(0, .c (.i .u64)),(1, .c (.i .i64))] [.int .u64 v1, .int .i64 n2] K rfl (by kernel_rfl) (by kernel_rfl) h
def S.qcI (n1:Int) (K:Int->Int->World->Prop) (w:World):Prop:=∀k2:Bool->World->Prop,(∀(t3:Bool) (w4:World),(bif t3 then (K (0:Int) (1:Int) w4) else (C.qcb n1 (fun r5 w6=>K r5 (0:Int) w6) w4))->k2 t3 w4)->(bif decide (n1<(0:Int)) then (k2 true w) else (k2 (decide (n1>(64:Int))) w))
theorem S.qcI0 (n1:Int) (K:Int->Int->World->Prop) (w:World) (h:S.qcI n1 K w):C.qcI n1 K w:=
 okS Tryz.func315 (.t none (.u) (.t none (.t none (.r (some [(9, .c (.b))]) .done) (.t none (.t none (.u) (.u)) (.u))) (.t none (.u) (.u)))) [(0, .c (.i .u64)),(1, .c (.i .i64))] [.int .i64 n1] K rfl (by kernel_rfl) (by kernel_rfl) h
def S.qcO (b1:Int) (b2:Int) (b3:Int) (b4:Int) (n5:Int) (on6:Bool) (K:Int->Int->Int->Int->Int->World->Prop) (w:World):Prop:=Al w (.cells #[.int .u64 b1, .int .u64 b2, .int .u64 b3, .int .u64 b4] 293) fun w7=>Al w7 (.cells #[.int .u64 0, .int .u64 0, .int .u64 0, .int .u64 0] 293) fun w8=>C.qcS n5 (fun r9 w10=>bif !r9 then (StL w10 (Addr.mk w7.heap.size 0 none) 0 [.int .u64 0, .int .u64 0, .int .u64 0, .int .u64 0] fun w11=>LdL w11 (Addr.mk w7.heap.size 0 none) 0 [.i .u64, .i .u64, .i .u64, .i .u64] fun (r12:Int) (r13:Int) (r14:Int) (r15:Int)=>K r12 r13 r14 r15 (1:Int) w11) else (Dr w10 fun w16=>(64:Int)≠0/\0≤IntKind.i64.wrap (n5.tdiv (64:Int))/\IntKind.i64.wrap (n5.tdiv (64:Int))<(4:Int)/\∃t17,w16.cell? ((Addr.mk w.heap.size 0 none).add ((IntKind.i64.wrap (n5.tdiv (64:Int))).toNat*1))=some (.int .u64 t17)/\(64:Int)≠0/\0≤(n5.tmod (64:Int))/\0≤IntKind.i64.wrap (n5.tdiv (64:Int))/\IntKind.i64.wrap (n5.tdiv (64:Int))<(4:Int)/\(St w16 ((Addr.mk w.heap.size 0 none).add ((IntKind.i64.wrap (n5.tdiv (64:Int))).toNat*1)) (.int .u64 (andNotI .u64 t17 (shlI .u64 (1:Int) (n5.tmod (64:Int))))) fun w18=>bif on6 then (Dr w18 fun w19=>(64:Int)≠0/\0≤IntKind.i64.wrap (n5.tdiv (64:Int))/\IntKind.i64.wrap (n5.tdiv (64:Int))<(4:Int)/\∃t20,w19.cell? ((Addr.mk w.heap.size 0 none).add ((IntKind.i64.wrap (n5.tdiv (64:Int))).toNat*1))=some (.int .u64 t20)/\(64:Int)≠0/\0≤(n5.tmod (64:Int))/\0≤IntKind.i64.wrap (n5.tdiv (64:Int))/\IntKind.i64.wrap (n5.tdiv (64:Int))<(4:Int)/\(St w19 ((Addr.mk w.heap.size 0 none).add ((IntKind.i64.wrap (n5.tdiv (64:Int))).toNat*1)) (.int .u64 (orI .u64 t20 (shlI .u64 (1:Int) (n5.tmod (64:Int))))) fun w21=>LdL w21 (Addr.mk w.heap.size 0 none) 0 [.i .u64, .i .u64, .i .u64, .i .u64] fun (t22:Int) (t23:Int) (t24:Int) (t25:Int)=>StL w21 (Addr.mk w7.heap.size 0 none) 0 [.int .u64 t22, .int .u64 t23, .int .u64 t24, .int .u64 t25] fun w26=>LdL w26 (Addr.mk w7.heap.size 0 none) 0 [.i .u64, .i .u64, .i .u64, .i .u64] fun (r27:Int) (r28:Int) (r29:Int) (r30:Int)=>K r27 r28 r29 r30 (0:Int) w26)/\True) else (LdL w18 (Addr.mk w.heap.size 0 none) 0 [.i .u64, .i .u64, .i .u64, .i .u64] fun (t31:Int) (t32:Int) (t33:Int) (t34:Int)=>StL w18 (Addr.mk w7.heap.size 0 none) 0 [.int .u64 t31, .int .u64 t32, .int .u64 t33, .int .u64 t34] fun w35=>LdL w35 (Addr.mk w7.heap.size 0 none) 0 [.i .u64, .i .u64, .i .u64, .i .u64] fun (r36:Int) (r37:Int) (r38:Int) (r39:Int)=>K r36 r37 r38 r39 (0:Int) w35))/\True)) w8
theorem S.qcO0 (b1:Int) (b2:Int) (b3:Int) (b4:Int) (n5:Int) (on6:Bool) (K:Int->Int->Int->Int->Int->World->Prop) (w:World) (h:S.qcO b1 b2 b3 b4 n5 on6 K w):C.qcO b1 b2 b3 b4 n5 on6 K w:=
 okS Tryz.func316 (.t none (.u) (.t none (.t none (.u) (.t none (.t none (.u) (.u)) (.u))) (.t none (.r none (.one 0 112 (.one 1 112 (.one 2 112 (.one 3 112 (.one 4 0 (.one 5 0 (.one 6 0 (.one 7 0 (.one 8 0 (.alt 9 (.done) (.none)))))))))))) (.t none (.t none (.u) (.t none (.r none (.one 0 112 (.one 1 112 (.one 2 112 (.one 3 112 (.one 4 0 (.one 5 0 (.one 6 0 (.one 7 0 (.one 8 0 (.alt 9 (.done) (.none)))))))))))) (.u))) (.t none (.u) (.u)))))) [(0, .a [.i .u64, .i .u64, .i .u64, .i .u64]),(1, .c (.i .i64))] [.agg #[.int .u64 b1, .int .u64 b2, .int .u64 b3, .int .u64 b4], .int .i64 n5, .bool on6] K rfl (by kernel_rfl) (by kernel_rfl) h
def S.qcb (n1:Int) (K:Int->World->Prop) (w:World):Prop:=0≤n1/\K (IntKind.u64.wrap ((shlI .u64 (1:Int) n1)-(1:Int))) w
theorem S.qcb0 (n1:Int) (K:Int->World->Prop) (w:World) (h:S.qcb n1 K w):C.qcb n1 K w:=
 okS Tryz.func330 (.t none (.u) (.t none (.u) (.u))) [(0, .c (.i .u64))] [.int .i64 n1] K rfl (by kernel_rfl) (by kernel_rfl) h
def S.qbD (v1:Int) (at2:Int) (n3:Int) (K:Int->Int->World->Prop) (w:World):Prop:=C.qbQ at2 n3 (fun r4 w5=>bif !r4 then (K (0:Int) (1:Int) w5) else (Dr w5 fun w6=>0≤at2/\(C.qcb n3 (fun r7 w8=>K (andI .u64 (shrI .u64 v1 at2) r7) (0:Int) w8) w6)/\True)) w
theorem S.qbD0 (v1:Int) (at2:Int) (n3:Int) (K:Int->Int->World->Prop) (w:World) (h:S.qbD v1 at2 n3 K w):C.qbD v1 at2 n3 K w:=
 okS Tryz.func347 (.t none (.u) (.t none (.t none (.u) (.t none (.t none (.u) (.u)) (.u))) (.t none (.r none (.one 0 26 (.one 1 24 (.one 2 24 (.one 3 0 (.alt 4 (.one 5 0 (.one 6 0 (.one 7 0 (.done)))) (.none))))))) (.u)))) [(0, .c (.i .u64)),(1, .c (.i .i64))] [.int .u64 v1, .int .i64 at2, .int .i64 n3] K rfl (by kernel_rfl) (by kernel_rfl) h
def S.qcS (n1:Int) (K:Bool->World->Prop) (w:World):Prop:=bif decide (n1≥(0:Int)) then (K (decide (n1<(256:Int))) w) else (K false w)
theorem S.qcS0 (n1:Int) (K:Bool->World->Prop) (w:World) (h:S.qcS n1 K w):C.qcS n1 K w:=
 okS Tryz.func350 (.t none (.u) (.t none (.u) (.u))) [(0, .c (.b))] [.int .i64 n1] K rfl (by kernel_rfl) (by kernel_rfl) h
def S.qbQ (at1:Int) (n2:Int) (K:Bool->World->Prop) (w:World):Prop:=bif decide (at1≥(0:Int)) then (bif decide (n2≥(0:Int)) then (bif decide (at1≤(64:Int)) then (K (decide (n2≤(IntKind.i64.wrap ((64:Int)-at1)))) w) else (K false w)) else (K false w)) else (K false w)
theorem S.qbQ0 (at1:Int) (n2:Int) (K:Bool->World->Prop) (w:World) (h:S.qbQ at1 n2 K w):C.qbQ at1 n2 K w:=
 okS Tryz.func360 (.t none (.u) (.t none (.u) (.u))) [(0, .c (.b))] [.int .i64 at1, .int .i64 n2] K rfl (by kernel_rfl) (by kernel_rfl) h
end Go.Proofs.YtogmbmdbgkopjaaGreat
end
