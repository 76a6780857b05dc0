/- What the row rests on: the law, at the model and walked. -/
import Derived.Test.YtghikphgplamkaaGreatZw9
set_option linter.unusedVariables false
set_option linter.unusedSimpArgs false
set_option linter.unusedSectionVars false
section
namespace Go.Proofs.YtghikphgplamkaaGreat
open Go Go.Vc Go.ChangeShapes Go.WideShapes
theorem intDec18:∀cs,Fits [.int .i64] cs->∃x,cs=intE.enc x/\(Lit.int .i64 x).wf=true:=fun cs h=>by
 obtain ⟨_,_,rfl,⟨a,rfl,ha⟩,h1⟩:=h.cons_out;obtain rfl:=h1.nil_out;exact ⟨a,rfl,ha⟩
end Go.Proofs.YtghikphgplamkaaGreat
end
section
set_option maxRecDepth 8000
namespace Go.Proofs.YtghikphgplamkaaGreat.Mc
open Go Go.Vc Go.Proofs
def itemE:EncT Item:=⟨4,fun o=>[.z o.kind, .z o.core, .z o.a, .z o.b],fun _=>rfl,fun x v h=>by
 simp only[List.mem_cons,List.not_mem_nil,or_false] at h;rcases h with rfl|rfl|rfl|rfl<;>rfl,by decide⟩
theorem ldItem {w:World} {a:Addr} {x:Item} {f:Int->Int->Int->Int->Prop} (g:∀c v,(itemE.enc x)[c]?=some v->w.cell? (a.add c)=some v) (hf:f x.kind x.core x.a x.b):
  LdL w a 0 [.o, .o, .o, .o] f:=⟨_,g 0 _ rfl,_,g 1 _ rfl,_,g 2 _ rfl,_,g 3 _ rfl,hf⟩
def callGood (c:Call):Prop:=(Lit.int .i64 c.with_).wf=true
def itemGood (_:Item):Prop:=True
theorem wf64 {x:Int} (h:(Lit.int .i64 x).wf=true): -9223372036854775808≤x/\x<9223372036854775808:=by
 have h1:(decide (IntKind.i64.min≤x)&&decide (x≤IntKind.i64.max))=true:=h;rw[show IntKind.i64.min= -9223372036854775808 from rfl,show IntKind.i64.max=9223372036854775807 from rfl] at h1;simp only[Bool.and_eq_true,decide_eq_true_eq] at h1;omega
theorem prOk_of {calls:List Call} (h:∀c∈calls,callGood c):PrOk (calls.take 40):=fun c hc=>wf64 (h c (List.mem_of_mem_take hc))
section
variable {nc N g:Nat} {m:Mch}
theorem step_prog (n:Int):(m.step n).2.prog=m.prog:=by
 unfold Mch.step;split
 ·rfl
 split
 ·rfl
 split
 ·split
  ·show (Mch.tells n _ _).prog=m.prog
   have:∀(l:List Lne) (m:Mch),(Mch.tells n l m).prog=m.prog:=fun l=>by
    induction l with
    |nil=>exact fun _=>rfl
    |cons x l ih=>exact fun m=>ih _
   exact this _ _
  ·rfl
 split
 ·rfl
 ·rfl
theorem user_prog (x:Item):(m.user x).2.prog=m.prog:=by
 unfold Mch.user;split
 ·rfl
 split
 ·rfl
 split<;>rfl
theorem item_prog (x:Item):(m.item x).2.prog=m.prog:=by
 unfold Mch.item;split
 ·rfl
 split
 ·exact user_prog x
 split
 ·exact step_prog _
 split
 ·rfl
 split<;>rfl
end
structure LOk (nc:Nat) (m:Mch):Prop where
 ds:∀c:Int,0≤c->c<(nc:Int)->((m.corAt c).does=0∨(m.corAt c).does=1)/\c∉m.line∨((m.corAt c).does=2∨(m.corAt c).does=3)/\c∈m.line
 hd:∀c:Int,0≤c->c<(nc:Int)->(m.corAt c).does=3->m.line.head?=some c
 bx:∀l∈m.bx,∀y∈l,(0≤y.frm/\y.frm<(nc:Int))/\(m.corAt y.frm).does=3
section
variable {nc N g:Nat} {m:Mch}
theorem toNat_ne {a c:Int} (ha:0≤a) (hc:0≤c) (h:a≠c):a.toNat≠c.toNat:=fun e=>h (by omega)
theorem corAt_if {n c:Int} {x:Cor} (h0:0≤n) (hc:0≤c) (hl:n.toNat<m.cs.length):(m.setC n x).corAt c=if c=n then x else m.corAt c:=by
 by_cases e:c=n
 ·rw[if_pos e,e];exact corAt_set hl
 ·rw[if_neg e];exact corAt_ne (toNat_ne hc h0 e)
theorem LOk.same {m':Mch} (h:LOk nc m) (hd:∀c:Int,0≤c->(m'.corAt c).does=(m.corAt c).does) (hl:m'.line=m.line) (hb:∀l∈m'.bx,∀y∈l,∃l'∈m.bx,y∈l'):LOk nc m':=by
 refine ⟨fun c h0 h1=>?_,fun c h0 h1 e=>?_,fun l hl' y hy=>?_⟩
 ·rw[hd c h0,hl];exact h.ds c h0 h1
 ·rw[hl];exact h.hd c h0 h1 (by rw[←hd c h0];exact e)
 ·obtain ⟨l',hl2,hy2⟩:=hb l hl' y hy
  obtain ⟨h1,h2⟩:=h.bx l' hl2 y hy2;exact ⟨h1,by rw[hd _ h1.1];exact h2⟩
theorem mem_allB {f a:Int} {bx:List (List Mail)} {l:List Mail} {y:Mail} (hl:l∈allB f a bx) (hy:y∈l):(∃l'∈bx,y∈l')∨y=⟨f,0,a⟩:=by
 unfold allB at hl;split at hl
 ·exact .inl ⟨l,hl,hy⟩
 ·obtain ⟨i,hi,e⟩:=List.mem_mapIdx.1 hl
  split at e
  ·exact .inl ⟨_,List.getElem_mem hi,by rw[e];exact hy⟩
  ·rw[←e] at hy
   rcases List.mem_append.1 hy with hy|hy
   ·exact .inl ⟨_,List.getElem_mem hi,hy⟩
   ·exact .inr (List.mem_singleton.1 hy)
theorem mem_sendAll {n:Int}:∀(F:List Lne) {bx:List (List Mail)} {l:List Mail} {y:Mail},l∈sendAll n F bx->y∈l->(∃l'∈bx,y∈l')∨y.frm=n
 | [],bx,l,y,hl,hy=> .inl ⟨l,hl,hy⟩
 |x::F,bx,l,y,hl,hy=>by
  rcases mem_sendAll F (show l∈sendAll n F (allB n (aboutOf x) bx) from hl) hy with ⟨l',h1,h2⟩|h
  ·rcases mem_allB h1 h2 with h|h
   ·exact .inl h
   ·exact .inr (by rw[h])
  ·exact .inr h
theorem owed_none {bx:List (List Mail)} {c:Int} (h:owedB bx c=0):∀l∈bx,∀y∈l,y.frm≠c:=fun l hl y hy e=>by
 have h1:(l.filter fun m=>decide (m.frm=c)).length≠0:=fun h0=>by
  have:=List.eq_nil_of_length_eq_zero h0;rw[List.filter_eq_nil_iff] at this;exact this y hy (decide_eq_true e)
 have h2:∀(bx:List (List Mail)),l∈bx->(l.filter fun m=>decide (m.frm=c)).length≤(bx.map fun l=>(l.filter fun m=>decide (m.frm=c)).length).sum:=fun bx hb=>by
  induction bx with
  |nil=>cases hb
  |cons r bx ih=>
   simp only[List.map_cons,List.sum_cons];rcases List.mem_cons.1 hb with e|hb
   ·rw[e];omega
   ·have:=ih hb;omega
 have:=h2 bx hl;unfold owedB at h;omega
theorem LOk.new (k:Ker) (prog:List Call) (room:Int):LOk nc (newM k nc prog room):=by
 have hc:∀c:Int,((newM k nc prog room).corAt c).does=0:=fun c=>by
  unfold Mch.corAt newM;dsimp only;rw[List.getElem?_replicate];split<;>rfl
 refine ⟨fun c h0 h1=> .inl ⟨.inl (hc c),fun hh=>by cases hh⟩,fun c h0 h1 e=>?_,fun l hl y hy=>?_⟩
 ·rw[hc c] at e;cases e
 ·have:=List.eq_of_mem_replicate hl
  rw[this] at hy;cases hy
theorem LOk.step (h:LOk nc m) (hm:MOk nc N g m) {n:Int} (h0:0≤n) (h1:n<(nc:Int)):LOk nc (m.step n).2:=by
 have hcs:=hm.cs;have hlt:n.toNat<m.cs.length:=by omega
 unfold Mch.step;split
 ·rename_i x r hb
  refine h.same (fun c hc=>?_) rfl (fun l hl y hy=>?_)
  ·show ((Mch.setC { m with bx:=m.bx.set n.toNat (m.box n).tail} n { m.corAt n with tl:=_}).corAt c).does=_
   rw[corAt_if (m:={ m with bx:=m.bx.set n.toNat (m.box n).tail}) h0 hc hlt];split
   ·rename_i e;rw[e]
   ·rfl
  ·rcases mem_set_or hl with hl|hl
   ·exact ⟨l,hl,hy⟩
   ·rw[hl] at hy
    have hm2:m.box n∈m.bx:=by
     unfold Mch.box at hb⊢;cases e:m.bx[n.toNat]? with
     |none=>rw[e] at hb;cases hb
     |some l=>exact List.mem_of_getElem? e
    exact ⟨m.box n,hm2,List.mem_of_mem_tail hy⟩
 split
 ·rename_i e1
  have hn:n∉m.line:=by
   rcases h.ds n h0 h1 with ⟨_,h⟩|⟨h,_⟩
   ·exact h
   ·rw[e1] at h;omega
  have he:enterL m.line n=m.line++ [n]:=by unfold enterL;rw[if_neg hn]
  have hca:∀c:Int,0≤c->((Mch.setC { m with line:=enterL m.line n} n { m.corAt n with does:=2}).corAt c)=if c=n then { m.corAt n with does:=2} else m.corAt c:=fun c hc=>corAt_if (m:={ m with line:=enterL m.line n}) h0 hc hlt
  refine ⟨fun c hc hc1=>?_,fun c hc hc1 e=>?_,fun l hl y hy=>?_⟩
  ·show (_∨_)/\c∉enterL m.line n∨(_∨_)/\c∈enterL m.line n
   rw[hca c hc,he];by_cases e:c=n
   ·rw[if_pos e];exact .inr ⟨.inl rfl,by rw[e];exact List.mem_append_right _ (List.mem_singleton.2 rfl)⟩
   ·rw[if_neg e]
    rcases h.ds c hc hc1 with ⟨a,b⟩|⟨a,b⟩
    ·exact .inl ⟨a,fun hh=>(List.mem_append.1 hh).elim b fun hh=>e (List.mem_singleton.1 hh)⟩
    ·exact .inr ⟨a,List.mem_append_left _ b⟩
  ·rw[hca c hc] at e
   by_cases e2:c=n
   ·rw[if_pos e2] at e;cases e
   ·rw[if_neg e2] at e
    have:=h.hd c hc hc1 e;show (enterL m.line n).head?=_;rw[he];cases hl:m.line with
    |nil=>rw[hl] at this;cases this
    |cons d ds=>rw[hl] at this;exact this
  ·obtain ⟨a,b⟩:=h.bx l hl y hy
   refine ⟨a,?_⟩;rw[hca _ a.1];split
   ·rename_i e2;rw[e2,e1] at b;cases b
   ·exact b
 split
 ·split
  ·rename_i e2 hp
   have hhd:m.line.head?=some n:=of_decide_eq_true hp;rw[did_eq hlt];have hca:∀c:Int,0≤c->((Mch.setC { m with k:=(m.k.do n (m.callOf n)).2,bx:=sendAll n (m.k.do n (m.callOf n)).1.forget m.bx} n ⟨dropAll (m.k.do n (m.callOf n)).1.forget (m.corAt n).tl,3,(m.corAt n).n,(m.k.do n (m.callOf n)).1⟩).corAt c)=if c=n then ⟨dropAll (m.k.do n (m.callOf n)).1.forget (m.corAt n).tl,3,(m.corAt n).n,(m.k.do n (m.callOf n)).1⟩ else m.corAt c:=fun c hc=>corAt_if (m:={ m with k:=(m.k.do n (m.callOf n)).2,bx:=sendAll n (m.k.do n (m.callOf n)).1.forget m.bx}) h0 hc hlt
   show LOk nc (Mch.setC { m with k:=(m.k.do n (m.callOf n)).2,bx:=sendAll n (m.k.do n (m.callOf n)).1.forget m.bx} n ⟨dropAll (m.k.do n (m.callOf n)).1.forget (m.corAt n).tl,3,(m.corAt n).n,(m.k.do n (m.callOf n)).1⟩);refine ⟨fun c hc hc1=>?_,fun c hc hc1 e=>?_,fun l hl y hy=>?_⟩
   ·rw[hca c hc]
    by_cases e:c=n
    ·rw[if_pos e];exact .inr ⟨.inr rfl,by rw[e];exact List.mem_of_mem_head? hhd⟩
    ·rw[if_neg e];exact h.ds c hc hc1
   ·rw[hca c hc] at e
    by_cases e3:c=n
    ·rw[e3];exact hhd
    ·rw[if_neg e3] at e;exact h.hd c hc hc1 e
   ·rcases mem_sendAll _ (show l∈sendAll n _ m.bx from hl) hy with ⟨l',h2,h3⟩|hf
    ·obtain ⟨a,b⟩:=h.bx l' h2 y h3
     refine ⟨a,?_⟩;rw[hca _ a.1];split
     ·rfl
     ·exact b
    ·rw[hf,hca _ h0,if_pos rfl]
     exact ⟨⟨h0,h1⟩,rfl⟩
  ·exact h
 split
 ·rename_i e1 e2 e3
  obtain ⟨e3,e4⟩:=e3;have hhd:=h.hd n h0 h1 e3;have hnone:=owed_none e4;have hlv:leaveL m.line n=m.line.tail:=by unfold leaveL;rw[if_pos hhd]
  obtain ⟨cs,hline⟩:∃cs,m.line=n::cs:=by
   cases hl:m.line with
   |nil=>rw[hl] at hhd;cases hhd
   |cons d ds=>rw[hl] at hhd;cases hhd;exact ⟨ds,rfl⟩
  have hnd:=hm.lnd;rw[hline] at hnd hlv;have hnn:=(List.nodup_cons.1 hnd).1;have hca:∀c:Int,0≤c->((Mch.setC { m with line:=leaveL m.line n} n { m.corAt n with does:=0}).corAt c)=if c=n then { m.corAt n with does:=0} else m.corAt c:=fun c hc=>corAt_if (m:={ m with line:=leaveL m.line n}) h0 hc hlt
  have hlv2:(Mch.setC { m with line:=leaveL m.line n} n { m.corAt n with does:=0}).line=cs:=by show leaveL m.line n=cs;rw[hline,hlv];rfl
  refine ⟨fun c hc hc1=>?_,fun c hc hc1 e=>?_,fun l hl y hy=>?_⟩
  ·rw[hca c hc,hlv2]
   by_cases e:c=n
   ·rw[if_pos e];exact .inl ⟨.inl rfl,by rw[e];exact hnn⟩
   ·rw[if_neg e]
    have:=h.ds c hc hc1;rw[hline] at this;rcases this with ⟨a,b⟩|⟨a,b⟩
    ·exact .inl ⟨a,fun hh=>b (List.mem_cons_of_mem _ hh)⟩
    ·exact .inr ⟨a,(List.mem_cons.1 b).resolve_left e⟩
  ·rw[hca c hc] at e
   by_cases e5:c=n
   ·rw[if_pos e5] at e;cases e
   ·rw[if_neg e5] at e
    have:=h.hd c hc hc1 e;rw[hhd] at this;exact absurd (Option.some.inj this).symm e5
  ·obtain ⟨a,b⟩:=h.bx l hl y hy
   have:=h.hd _ a.1 a.2 b;rw[hhd] at this;exact absurd (Option.some.inj this).symm (hnone l hl y hy)
 ·exact h
theorem LOk.user (h:LOk nc m) (hm:MOk nc N g m) {x:Item} (h0:0≤x.core) (h1:x.core<(nc:Int)):LOk nc (m.user x).2:=by
 have hcs:=hm.cs;have hlt:x.core.toNat<m.cs.length:=by omega
 unfold Mch.user;split
 ·exact h
 rename_i e0;have e0:(m.corAt x.core).does=0:=Decidable.byContradiction e0
 have hn:x.core∉m.line:=by
  rcases h.ds x.core h0 h1 with ⟨_,h⟩|⟨h,_⟩
  ·exact h
  ·rw[e0] at h;omega
 split
 ·refine h.same (fun c hc=>?_) rfl fun l hl y hy=>⟨l,hl,hy⟩
  show ((Mch.setC m x.core _).corAt c).does=_;rw[corAt_if h0 hc hlt];split
  ·rename_i e;rw[e]
  ·rfl
 split
 ·have hca:∀c:Int,0≤c->((Mch.setC m x.core { m.corAt x.core with does:=1,n:=x.a}).corAt c)=if c=x.core then { m.corAt x.core with does:=1,n:=x.a} else m.corAt c:=fun c hc=>corAt_if h0 hc hlt
  refine ⟨fun c hc hc1=>?_,fun c hc hc1 e=>?_,fun l hl y hy=>?_⟩
  ·rw[hca c hc]
   by_cases e:c=x.core
   ·rw[if_pos e];exact .inl ⟨.inr rfl,by rw[e];exact hn⟩
   ·rw[if_neg e];exact h.ds c hc hc1
  ·rw[hca c hc] at e
   by_cases e2:c=x.core
   ·rw[if_pos e2] at e;cases e
   ·rw[if_neg e2] at e;exact h.hd c hc hc1 e
  ·obtain ⟨a,b⟩:=h.bx l hl y hy
   refine ⟨a,?_⟩;rw[hca _ a.1];split
   ·rename_i e2;rw[e2,e0] at b;cases b
   ·exact b
 ·exact h
theorem LOk.item (h:LOk nc m) (hm:MOk nc N g m) (x:Item):LOk nc (m.item x).2:=by
 have hcs:=hm.cs;unfold Mch.item;split
 ·exact h
 rename_i hr;have hr:rightI x m.cs.length=true:=by cases e:rightI x m.cs.length with|true=>rfl|false=>exact absurd e hr
 obtain ⟨k0,k1,c0,c1,_,_⟩:=right_iff.1 hr;have c2:x.core<(nc:Int):=by omega
 split
 ·exact h.user hm c0 c2
 split
 ·exact h.step hm c0 c2
 split
 ·exact h
 split
 ·exact h.same (fun _ _=>rfl) rfl fun l hl y hy=>⟨l,hl,hy⟩
 ·exact h.same (fun _ _=>rfl) rfl fun l hl y hy=>⟨l,hl,hy⟩
theorem LOk.free (h:LOk nc m) (hl:m.line= []):∀l∈m.bx,l= []:=fun l hb=>by
 cases l with
 |nil=>rfl
 |cons y r=>
  obtain ⟨a,b⟩:=h.bx _ hb y List.mem_cons_self;have:=h.hd _ a.1 a.2 b;rw[hl] at this;cases this
end
theorem sum_set {α:Type} (f:α->Nat):∀{l:List α} {i:Nat} {x y:α},l[i]?=some y->((l.set i x).map f).sum+f y=(l.map f).sum+f x
 | [],_,_,_,h=>by simp at h
 |a::l,0,x,y,h=>by
  cases h;simp only[List.set_cons_zero,List.map_cons,List.sum_cons];omega
 |a::l,i+1,x,y,h=>by
  have:=sum_set f (l:=l) (i:=i) (x:=x) (y:=y) h;simp only[List.set_cons_succ,List.map_cons,List.sum_cons];omega
section
variable {nc N g:Nat} {m:Mch}
theorem box_at (hm:MOk nc N g m) {n:Int} (h0:0≤n) (h1:n<(nc:Int)):m.bx[n.toNat]?=some (m.box n):=by
 have:=hm.bx;have e:m.bx[n.toNat]?=some (m.bx[n.toNat]'(by omega)):=gE (by omega);unfold Mch.box;rw[e];rfl
end
section
variable {nc N g:Nat} {m:Mch}
theorem about_page {l:Lne} (h:l.space=0) (h0:0≤l.page) (h1:l.page≤255):aboutOf l=l.page:=by
 unfold aboutOf;rw[h,show IntKind.i64.wrap ((0:Int)*4096)=0 from rfl,Int.zero_add,wr (by omega) (by omega)]
theorem mem_pages {k:Ker} {x:Int × Tb.Pg}:x∈k.pagesR 0↔∃s,k.spaces[0]?=some s/\x∈s.pg:=by
 unfold Ker.pagesR Ker.sAt Ker.inB;cases hs:k.spaces with
 |nil=>simp
 |cons s r=>simp
theorem pages_srt (hm:MOk nc N g m):Tb.Srt (m.k.pagesR 0):=by
 cases hs:m.k.spaces with
 |nil=>unfold Ker.pagesR Ker.inB;rw[hs];exact List.Pairwise.nil
 |cons s r=>
  have h:=(hm.k.sok s (by rw[hs];exact List.mem_cons_self)).srt
  have e:m.k.pagesR 0=s.pg:=by
   unfold Ker.pagesR Ker.sAt Ker.inB;rw[hs];simp
  rw[e];exact h
theorem walk_of (hm:MOk nc N g m) {p:Int} {q:Int × Int} (h:(p,q)∈m.k.pagesR 0):m.walk p=some q:=by
 unfold Mch.walk;cases e:(m.k.pagesR 0).find? fun x=>x.1==p with
 |none=>rw[List.find?_eq_none] at e;exact absurd (beq_self_eq_true p) (e _ h)
 |some y=>
  have h2:(y.1==p)=true:=List.find?_some (p:=fun x:Int × Tb.Pg=>x.1==p) e;rw[(pages_srt hm).inj (List.mem_of_find?_eq_some e) h (eq_of_beq h2)];rfl
theorem of_walk {p:Int} {q:Int × Int} (h:m.walk p=some q):(p,q)∈m.k.pagesR 0:=by
 unfold Mch.walk at h;cases e:(m.k.pagesR 0).find? fun x=>x.1==p with
 |none=>rw[e] at h;cases h
 |some y=>
  have h2:(y.1==p)=true:=List.find?_some (p:=fun x:Int × Tb.Pg=>x.1==p) e;rw[e] at h;cases h;rw[←eq_of_beq h2];exact List.mem_of_find?_eq_some e
def FOk (nc:Nat) (m:Mch):Prop:=∀c:Int,0≤c->c<(nc:Int)->∀l∈(m.corAt c).tl,(l.space=0/\0≤l.page/\l.page≤255)/\((l.page,(l.frame,l.rights))∈m.k.pagesR 0∨∃y∈m.box c,y.about=l.page)
theorem FOk.same {m':Mch} (h:FOk nc m) (ht:∀c:Int,0≤c->(m'.corAt c).tl=(m.corAt c).tl) (hp:m'.k.spaces=m.k.spaces) (hb:m'.bx=m.bx):FOk nc m':=fun c c0 c1 l hl=>by
 obtain ⟨a,b⟩:=h c c0 c1 l (by rw[←ht c c0];exact hl);refine ⟨a,b.imp (fun b=>?_) fun b=>?_⟩
 ·rw[mem_pages] at b⊢;rw[hp];exact b
 ·unfold Mch.box at b⊢;rw[hb];exact b
theorem dropAll_mem:∀(F:List Lne) {t:List Lne} {l:Lne},l∈dropAll F t->l∈t/\∀x∈F,isAt x.space x.page l=false
 | [],t,l,h=>⟨h,nofun⟩
 |x::F,t,l,h=>by
  obtain ⟨a,b⟩:=dropAll_mem F (show l∈dropAll F (drop x.space x.page t) from h);obtain ⟨c,d⟩:=List.mem_filter.1 a;refine ⟨c,fun y hy=>?_⟩;rcases List.mem_cons.1 hy with e|hy
  ·rw[e];simpa using d
  ·exact b y hy
theorem isAt_self (l:Lne):isAt l.space l.page l=true:=by simp[isAt]
theorem send_box (n:Int):∀(F:List Lne) {bx:List (List Mail)},(∀l∈bx,l.length+F.length≤64)->∀{i:Nat} {l:List Mail},(i:Int)≠n->bx[i]?=some l->∃l',(sendAll n F bx)[i]?=some l'/\(∀y∈l,y∈l')/\∀x∈F,∃y∈l',y.about=aboutOf x
 | [],bx,_,i,l,_,h=>⟨l,h,fun _ h=>h,nofun⟩
 |x::F,bx,hb,i,l,hn,h=>by
  have he:allB n (aboutOf x) bx=bx.mapIdx fun i l=>if (i:Int)=n then l else l++ [⟨n,0,aboutOf x⟩]:=by
   unfold allB;rw[if_neg];intro ha;obtain ⟨j,hj,h2⟩:=List.any_eq_true.1 ha;have hj:=List.mem_range.1 hj;rw[gE hj] at h2;simp only[Bool.and_eq_true,decide_eq_true_eq,Option.getD_some] at h2;have:=hb _ (List.getElem_mem hj);simp only[List.length_cons] at this;omega
  have h1:∀l∈allB n (aboutOf x) bx,l.length+F.length≤64:=fun l hl=>by
   rw[he] at hl;obtain ⟨j,hj,e⟩:=List.mem_mapIdx.1 hl;have:=hb _ (List.getElem_mem hj);simp only[List.length_cons] at this;rw[←e];split
   ·omega
   ·rw[List.length_append];simp only[List.length_cons,List.length_nil];omega
  have h2:(allB n (aboutOf x) bx)[i]?=some (l++ [⟨n,0,aboutOf x⟩]):=by
   rw[he,List.getElem?_mapIdx,h];show some (if (i:Int)=n then l else _)=_;rw[if_neg hn]
  obtain ⟨l',a,b,c⟩:=send_box n F h1 hn h2;refine ⟨l',a,fun y hy=>b y (List.mem_append_left _ hy),fun y hy=>?_⟩;rcases List.mem_cons.1 hy with e|hy
  ·exact ⟨_,b _ (List.mem_append_right _ (List.mem_singleton.2 rfl)),by rw[e]⟩
  ·exact c y hy
theorem FOk.did (h:FOk nc m) (hm:MOk nc N g m) (hb:∀l∈m.bx,l= []) (hpg:pgN m.k.spaces≤63) {n:Int} (h0:0≤n) (h1:n<(nc:Int)):FOk nc (m.did n).2:=by
 have hcs:=hm.cs;have hbx:=hm.bx;have hlt:n.toNat<m.cs.length:=by omega
 rw[did_eq hlt];obtain ⟨p1,p2⟩:=do_pp hm.k n (m.callOf n);generalize (m.k.do n (m.callOf n)).1=t at p1 p2⊢;generalize (m.k.do n (m.callOf n)).2=k' at p1 p2⊢
 have hmap:∀l:Lne,l.space=0->(l.page,(l.frame,l.rights))∈m.k.pagesR 0->(l.page,(l.frame,l.rights))∈k'.pagesR 0∨l∈t.forget:=fun l hs hl=>by
  obtain ⟨s,hs0,hx⟩:=mem_pages.1 hl;obtain ⟨s',hs1,hy⟩:=p2 0 s hs0;rcases hy _ hx with h|h
  ·exact .inl (mem_pages.2 ⟨s',hs1,h⟩)
  ·refine .inr ?_
   have e:lneAt 0 (l.page,(l.frame,l.rights))=l:=by
    cases l;cases hs;rfl
   rw[←e];exact h
 intro c c0 c1 l hl;have hbc:=box_at hm c0 c1;have he:m.box c= []:=hb _ (List.mem_of_getElem? hbc);have hca:=corAt_if (m:={ m with k:=k',bx:=sendAll n t.forget m.bx}) (x:=⟨dropAll t.forget (m.corAt n).tl,3,(m.corAt n).n,t⟩) h0 c0 hlt;have hl:l∈((Mch.setC { m with k:=k',bx:=sendAll n t.forget m.bx} n ⟨dropAll t.forget (m.corAt n).tl,3,(m.corAt n).n,t⟩).corAt c).tl:=hl;rw[hca] at hl;by_cases e:c=n
 ·rw[if_pos e] at hl
  obtain ⟨a,b⟩:=dropAll_mem _ (show l∈dropAll t.forget (m.corAt n).tl from hl);obtain ⟨q,r⟩:=h n h0 h1 l a;refine ⟨q, .inl ?_⟩;rcases r with r|⟨y,hy,_⟩
  ·rcases hmap l q.1 r with h|h
   ·exact h
   ·have:=b l h;rw[isAt_self] at this;cases this
  ·rw[←e,he] at hy;cases hy
 ·rw[if_neg e] at hl
  obtain ⟨q,r⟩:=h c c0 c1 l hl;refine ⟨q,?_⟩;rcases r with r|⟨y,hy,_⟩
  ·rcases hmap l q.1 r with h|h
   ·exact .inl h
   ·refine .inr ?_
    obtain ⟨l',e1,_,e3⟩:=send_box n t.forget (bx:=m.bx) (fun l hl=>by rw[hb l hl];simp only[List.length_nil];omega) (i:=c.toNat) (by omega) hbc;obtain ⟨y,hy,e4⟩:=e3 l h;refine ⟨y,?_,by rw[e4,about_page q.1 q.2.1 q.2.2]⟩;unfold Mch.box;dsimp only;rw[e1];exact hy
  ·rw[he] at hy;cases hy
theorem FOk.step (h:FOk nc m) (ho:LOk nc m) (hm:MOk nc N g m) (hpg:pgN m.k.spaces≤63) {n:Int} (h0:0≤n) (h1:n<(nc:Int)):FOk nc (m.step n).2:=by
 have hcs:=hm.cs;have hbx:=hm.bx;have hlt:n.toNat<m.cs.length:=by omega
 unfold Mch.step;split
 ·rename_i x r hb
  intro c c0 c1 l hl;have hl:l∈((Mch.setC { m with bx:=m.bx.set n.toNat (m.box n).tail} n { m.corAt n with tl:=drop (IntKind.i64.wrap (x.about.tdiv 4096)) (x.about.tmod 4096) (m.corAt n).tl}).corAt c).tl:=hl;rw[corAt_if (m:={ m with bx:=m.bx.set n.toNat (m.box n).tail}) h0 c0 hlt] at hl
  have hbb:(m.heard n x).box c=if c=n then r else m.box c:=by
   unfold Mch.box Mch.heard;dsimp only;rw[hb,List.tail_cons];by_cases e:c=n
   ·rw[if_pos e,e,List.getElem?_set_self (by omega)];rfl
   ·rw[if_neg e,List.getElem?_set_ne (by omega)]
  rw[show ((none:Option Seen),m.heard n x).2.box c=_ from hbb];by_cases e:c=n
  ·rw[if_pos e] at hl⊢
   obtain ⟨a,b⟩:=List.mem_filter.1 (show l∈drop _ _ (m.corAt n).tl from hl);obtain ⟨q,r⟩:=h n h0 h1 l a;refine ⟨q,r.imp (fun r=>r) fun ⟨y,hy,e2⟩=>?_⟩;rw[hb] at hy;rcases List.mem_cons.1 hy with e3|hy
   ·exfalso
    rw[←e3,e2,Int.tdiv_eq_zero_of_lt (by omega) (by omega),Int.tmod_eq_of_lt (by omega) (by omega),show IntKind.i64.wrap 0=0 from rfl,←q.1,isAt_self] at b;cases b
   ·exact ⟨y,hy,e2⟩
  ·rw[if_neg e] at hl⊢
   exact h c c0 c1 l hl
 have hsame:∀(d:Int) (li:List Int),FOk nc (Mch.setC { m with line:=li} n { m.corAt n with does:=d}):=fun d li=>h.same (fun c c0=>by
  rw[corAt_if (m:={ m with line:=li}) h0 c0 hlt];split
  ·rename_i e;rw[e]
  ·rfl) rfl rfl
 split
 ·exact hsame _ _
 split
 ·rename_i e2
  split
  ·rename_i hp
   refine h.did hm (fun l hl=>?_) hpg h0 h1;cases l with
   |nil=>rfl
   |cons y r=>
    obtain ⟨a,b⟩:=ho.bx _ hl y List.mem_cons_self;have h3:=ho.hd _ a.1 a.2 b;have h4:m.line.head?=some n:=of_decide_eq_true hp;rw[h3] at h4;cases h4;omega
  ·exact h
 split
 ·exact hsame _ _
 ·exact h
theorem FOk.user (h:FOk nc m) (hm:MOk nc N g m) {x:Item} (h0:0≤x.core) (h1:x.core<(nc:Int)) (ha:0≤x.a/\x.a≤255):FOk nc (m.user x).2:=by
 have hcs:=hm.cs;have hlt:x.core.toNat<m.cs.length:=by omega
 unfold Mch.user;split
 ·exact h
 split
 ·intro c c0 c1 l hl
  have hl:l∈((Mch.setC m x.core { m.corAt x.core with tl:=(m.loadT x.a (m.corAt x.core).tl).2.2}).corAt c).tl:=hl;rw[corAt_if h0 c0 hlt] at hl;by_cases e:c=x.core
  ·rw[if_pos e] at hl
   rw[e];have hl:l∈(m.loadT x.a (m.corAt x.core).tl).2.2:=hl;have old:l∈(m.corAt x.core).tl->(l.space=0/\0≤l.page/\l.page≤255)/\((l.page,(l.frame,l.rights))∈m.k.pagesR 0∨∃y∈m.box x.core,y.about=l.page):=fun hl=>h _ h0 h1 l hl
   unfold Mch.loadT at hl;cases e1:look 0 x.a (m.corAt x.core).tl with
   |some p=>rw[e1] at hl;exact old hl
   |none=>
    rw[e1] at hl;cases e2:m.walk x.a with
    |none=>rw[e2] at hl;exact old hl
    |some p=>
     rw[e2] at hl;have hl:l∈fill m.room ⟨0,x.a,p.1,p.2⟩ (m.corAt x.core).tl:=hl
     have hc:l∈drop 0 x.a (m.corAt x.core).tl∨l=⟨0,x.a,p.1,p.2⟩:=by
      unfold fill at hl;split at hl
      ·exact (List.mem_append.1 hl).imp List.mem_of_mem_drop List.mem_singleton.1
      ·exact (List.mem_append.1 hl).imp (fun h=>h) List.mem_singleton.1
     rcases hc with hc|hc
     ·exact old (List.mem_filter.1 hc).1
     ·rw[hc];exact ⟨⟨rfl,ha⟩, .inl (of_walk e2)⟩
  ·rw[if_neg e] at hl
   exact h c c0 c1 l hl
 split
 ·refine h.same (fun c c0=>?_) rfl rfl
  show ((Mch.setC m x.core { m.corAt x.core with does:=1,n:=x.a}).corAt c).tl=_;rw[corAt_if h0 c0 hlt];split
  ·rename_i e;rw[e]
  ·rfl
 ·exact h
theorem FOk.item (h:FOk nc m) (ho:LOk nc m) (hm:MOk nc N g m) (hpg:pgN m.k.spaces≤63) (x:Item):FOk nc (m.item x).2:=by
 have hcs:=hm.cs;unfold Mch.item;split
 ·exact h
 rename_i hr;have hr:rightI x m.cs.length=true:=by cases e:rightI x m.cs.length with|true=>rfl|false=>exact absurd e hr
 obtain ⟨k0,k1,c0,c1,a0,_⟩:=right_iff.1 hr;have c2:x.core<(nc:Int):=by omega
 split
 ·exact h.user hm c0 c2 a0
 split
 ·exact h.step ho hm hpg c0 c2
 split
 ·exact h
 split
 ·exact h.same (fun _ _=>rfl) (irq_sp _ _) rfl
 ·exact h.same (fun _ _=>rfl) rfl rfl
def w2 (d:Int):Nat:=if d=2 then 1 else 0
def cnt (m:Mch):Nat:=2*pgN m.k.spaces+(m.cs.map fun c=>w2 c.does).sum
theorem cnt_item (hm:MOk nc N g m) (x:Item):cnt (m.item x).2≤cnt m+1:=by
 have hcs:=hm.cs;unfold Mch.item;split
 ·exact Nat.le_succ _
 rename_i hr;have hr:rightI x m.cs.length=true:=by cases e:rightI x m.cs.length with|true=>rfl|false=>exact absurd e hr
 obtain ⟨k0,k1,c0,c1,a0,_⟩:=right_iff.1 hr;have c2:x.core<(nc:Int):=by omega
 have hc1:=(hm.cor c0 c2).1;have hset:∀c:Cor,((m.cs.set x.core.toNat c).map fun c=>w2 c.does).sum+w2 (m.corAt x.core).does=(m.cs.map fun c=>w2 c.does).sum+w2 c.does:=fun c=>sum_set (fun c=>w2 c.does) hc1
 have same:∀(c:Cor) (bx:List (List Mail)) (li:List Int),w2 c.does≤w2 (m.corAt x.core).does+1->cnt { m with cs:=m.cs.set x.core.toNat c,bx:=bx,line:=li}≤cnt m+1:=fun c bx li hw=>by
  have:=hset c;unfold cnt;dsimp only;omega
 have le1:∀d,w2 d≤1:=fun d=>by unfold w2;split<;>omega
 split
 ·unfold Mch.user
  split
  ·exact Nat.le_succ _
  split
  ·exact same _ _ _ (Nat.le_succ _)
  split
  ·exact same _ _ _ (Nat.le_trans (le1 _) (Nat.le_add_left _ _))
  ·exact Nat.le_succ _
 split
 ·unfold Mch.step
  split
  ·exact same _ _ _ (Nat.le_succ _)
  split
  ·exact same _ _ _ (Nat.le_trans (le1 _) (Nat.le_add_left _ _))
  split
  ·rename_i e2
   split
   ·dsimp only
    rw[did_eq (show x.core.toNat<m.cs.length by omega)];obtain ⟨p1,_⟩:=do_pp hm.k x.core (m.callOf x.core);have h2:=hset ⟨dropAll (m.k.do x.core (m.callOf x.core)).1.forget (m.corAt x.core).tl,3,(m.corAt x.core).n,(m.k.do x.core (m.callOf x.core)).1⟩;rw[e2] at h2;have w1:w2 3=0:=rfl;have w3:w2 2=1:=rfl;unfold cnt;dsimp only at h2⊢;omega
   ·exact Nat.le_succ _
  split
  ·exact same _ _ _ (Nat.le_trans (le1 _) (Nat.le_add_left _ _))
  ·exact Nat.le_succ _
 split
 ·exact Nat.le_succ _
 split
 ·unfold cnt
  dsimp only;rw[irq_sp];omega
 ·exact Nat.le_succ _
theorem FOk.new (k:Ker) (prog:List Call) (room:Int):FOk nc (newM k nc prog room):=fun c c0 c1 l hl=>by
 have e:((newM k nc prog room).corAt c).tl= []:=by
  unfold Mch.corAt newM;dsimp only;rw[List.getElem?_replicate];split<;>rfl
 rw[e] at hl;cases hl
theorem cnt_new (k:Ker) (prog:List Call) (room:Int) (hk:pgN k.spaces=0):cnt (newM k nc prog room)≤0:=by
 unfold cnt newM;dsimp only;rw[hk]
 have:∀n:Nat,((List.replicate n corZ).map fun c=>w2 c.does).sum=0:=fun n=>by
  induction n with
  |zero=>rfl
  |succ n ih=>rw[List.replicate_succ,List.map_cons,List.sum_cons,ih];rfl
 rw[this];exact Nat.le_refl _
theorem lines_fresh (h:FOk nc m) (ho:LOk nc m) (hm:MOk nc N g m) (hl:m.line= []) {c:Int} (c0:0≤c) (c1:c<(nc:Int)) {l:Lne} (hx:l∈(m.corAt c).tl):l.space=0/\m.walk l.page=some (l.frame,l.rights):=by
 obtain ⟨q,r⟩:=h c c0 c1 l hx;refine ⟨q.1,?_⟩;rcases r with r|⟨y,hy,_⟩
 ·exact walk_of hm r
 ·rw[ho.free hl _ (List.mem_of_getElem? (box_at hm c0 c1))] at hy;cases hy
theorem seen_fresh (h:FOk nc m) (ho:LOk nc m) (hm:MOk nc N g m) (hl:m.line= []) {x:Item} {s:Seen} (he:(m.item x).1=some s) (hk:s.kind=3):s.is=((m.item x).2.walk s.n).isSome/\s.p=((m.item x).2.walk s.n).getD (0,0):=by
 have hcs:=hm.cs;unfold Mch.item at he⊢;split at he
 ·cases he
 rename_i hr0;have hr:rightI x m.cs.length=true:=by cases e:rightI x m.cs.length with|true=>rfl|false=>exact absurd e hr0
 obtain ⟨k0,k1,c0,c1,a0,_⟩:=right_iff.1 hr;have c2:x.core<(nc:Int):=by omega
 rw[if_neg hr0];split at he
 ·rename_i e1
  rw[if_pos e1];unfold Mch.user at he⊢;split at he
  ·cases he
  rename_i d0;rw[if_neg d0];split at he
  ·rename_i b0
   rw[if_pos b0];cases he;show (m.loadT x.a (m.corAt x.core).tl).2.1=(m.walk x.a).isSome/\(m.loadT x.a (m.corAt x.core).tl).1=(m.walk x.a).getD (0,0);unfold Mch.loadT;cases e2:look 0 x.a (m.corAt x.core).tl with
   |some p=>
    unfold look at e2;cases e3:(m.corAt x.core).tl.find? (isAt 0 x.a) with
    |none=>rw[e3] at e2;cases e2
    |some l=>
     rw[e3] at e2;cases e2;have h1:=(lines_fresh h ho hm hl c0 c2 (List.mem_of_find?_eq_some e3)).2;have h2:=List.find?_some e3;have h3:l.page=x.a:=by simp only[isAt,Bool.and_eq_true,decide_eq_true_eq] at h2;exact h2.2
     rw[h3] at h1;rw[h1];exact ⟨rfl,rfl⟩
   |none=>
    cases e3:m.walk x.a with
    |some p=>exact ⟨rfl,rfl⟩
    |none=>exact ⟨rfl,rfl⟩
  split at he<;>cases he
 split at he
 ·exfalso
  unfold Mch.step at he;split at he
  ·cases he
  split at he
  ·cases he;exact absurd hk (by show ¬(0:Int)=3;decide)
  split at he
  ·split at he
   ·cases he;exact absurd hk (by show ¬(1:Int)=3;decide)
   ·cases he
  split at he
  ·cases he;exact absurd hk (by show ¬(2:Int)=3;decide)
  ·cases he
 split at he
 ·cases he
 exfalso;split at he
 ·cases he;exact absurd hk (by show ¬(4:Int)=3;decide)
 ·cases he;exact absurd hk (by show ¬(5:Int)=3;decide)
end
theorem pgNe {x y:Operand} (p q:Int × Int):EqB Tryz.prog .neq 38 x y (.agg #[.z p.1, .z p.2]) (.agg #[.z q.1, .z q.2]) (!decide (p=q)):=by
 have h:eqX Tryz.prog 9 38 [.z p.1, .z p.2] [.z q.1, .z q.2]=some (p.1==q.1&&(p.2==q.2&&true)):=by kernel_rfl
 refine neB_x (xs:=[.z p.1, .z p.2]) (ys:=[.z q.1, .z q.2]) (by kernel_rfl) (by kernel_rfl) (by kernel_rfl) ?_;rw[h];congr 1;rw[Bool.eq_iff_iff];simp only[Bool.and_true,Bool.and_eq_true,beq_iff_eq,decide_eq_true_eq];cases p;cases q;simp only[Prod.mk.injEq]
def fnd (P:Tb.Pgs) (page:Int):Option (Int × Int):=(P.find? fun x=>x.1==page).map (·.2)
section
variable {B:Nat} {w0 w:World} {R L:List Asn} {b nc N g:Nat} {m:Mch}
theorem find_spec {s:Sl} {P:Tb.Pgs} {page:Int} {K:Int->Int->Bool->Pw} [I:SlIn s L (Int × Tb.Pg) Tb.laidE P] (h:Vc.Own B w0 w L) (hbig:P.length≤1000000000)
  (hK:∀w',Vc.Own B w0 w' L->K ((fnd P page).getD (0,0)).1 ((fnd P page).getD (0,0)).2 (fnd P page).isSome w'):C.qdh s page K w:=by
 apply S.qdh0;have hl:s.len=P.length:=h.lenc s;refine h.al fun w1 h=>?_
 generalize w.heap.size=c at h⊢;intro l hll
 have loop:∀(d i:Nat) (w:World),i+d=P.length->fnd (P.drop i) page=fnd P page->Vc.Own B w0 w (BlkA c [.z 0, .z 0]::L)->l (i:Int) w:=by
  intro d
  induction d with
  |zero=>
   intro i w hi hf h;rw[List.drop_eq_nil_of_le (by omega)] at hf;apply hll;refine cdecF (by omega) ?_;refine h.stLc rfl rfl fun w h=>?_
   (try dsimp only[putAt,List.set_cons_zero,List.set_cons_succ] at h)
   refine h.lc_2 rfl ?_;rw[←hf] at hK;exact hK w h.drop
  |succ d ih=>
   intro i w hi hf h;have hlt:i<P.length:=by omega
   rw[List.drop_eq_getElem_cons hlt] at hf;have hx:P[i]?=some P[i]:=gE hlt;generalize P[i]=x at hx hf;apply hll;refine cdecT (by omega) ?_;refine h.ixc (s:=s) rfl hx fun a ha hc0 hc=>⟨_,hc0 _ rfl,?_⟩
   by_cases e:x.1=page
   ·refine cbT (beq_iff_eq.2 e) ?_
    refine h.ixc (s:=s) rfl hx fun a ha hc0 hc=>⟨_,hc 1 _ rfl,_,hc 2 _ rfl,?_⟩
    refine h.stLc rfl rfl fun w h=>?_
    (try dsimp only[putAt,List.set_cons_zero,List.set_cons_succ] at h)
    refine h.lc_2 rfl ?_;have e2:fnd (x::P.drop (i+1)) page=some x.2:=by unfold fnd;rw[List.find?_cons_of_pos (p:=fun x:Int × Tb.Pg=>x.1==page) (beq_iff_eq.2 e)];rfl
    rw[←hf,e2] at hK;exact hK w h.drop
   ·refine cbF (beq_eq_false_iff_ne.2 e) ?_
    rw[show IntKind.i64.wrap ((i:Int)+1)=((i+1:Nat):Int) from by rw[wr (by omega) (by omega)];omega];refine ih (i+1) w (by omega) ?_ h;rw[←hf];unfold fnd;rw[List.find?_cons_of_neg (p:=fun x:Int × Tb.Pg=>x.1==page) (fun hh=>e (beq_iff_eq.1 hh))]
 exact loop P.length 0 w1 (by omega) rfl h
set_option maxHeartbeats 2000000 in
theorem law19_MachineFresh_spec {o1 o2 o3 o6:Int} {prios:List Int} {calls:List Call} {items:List Item} {s4 s5 s7:Sl} {K:Bool->Pw}
  (_:(Lit.int .i64 o1).wf=true) (_:(Lit.int .i64 o2).wf=true) (_:(Lit.int .i64 o3).wf=true) (hi4:Inp intE w0 s4 prios) (_:∀x∈prios,(Lit.int .i64 x).wf=true) (hi5:Inp callE w0 s5 calls) (hg5:∀c∈calls,callGood c) (_:(Lit.int .i64 o6).wf=true)
  (hi7:Inp itemE w0 s7 items) (_:∀x∈items,itemGood x)
  (h:Vc.Own w0.heap.size w0 w []) (hK:∀w',Vc.Own w0.heap.size w0 w' []->K true w'):C.qbT o1 o2 o3 s4 s5 o6 s7 K w:=by
 apply S.qbT0;have hl7:=hi7.len;refine h.al fun w1 h=>?_
 generalize w.heap.size=ab at h⊢;refine h.lc_6 (x3:=s4) (x4:=s5) rfl ?_;refine R19_spec hi4 hi5 h fun n bi li ps room s' s5' w n1 n3 b6 b12 l3 hpn hps r1 r8 h=>?_
 refine h.al fun w3 h=>?_
 generalize w.heap.size=pb at h⊢;refine h.stLc rfl rfl fun w h=>?_
 (try dsimp only[putAt,List.set_cons_zero,List.set_cons_succ] at h)
 refine h.lc_4 (x3:=s') rfl ?_;refine ⟨s5',h.ldd rfl,_,h.ldd rfl,?_⟩;have hct:(calls.take 40).length≤40:=by rw[List.length_take];omega
 have hpr:=prOk_of hg5;refine New_spec (prios:=ps) (prog:=calls.take 40) (s:=s') (s5:=s5') n1 (by omega) (by omega) (by omega) hpn hps r1 r8 (by omega) h fun mb w h=>?_
 have k0:MOk n 1 0 (newM (Ker.bootK n bi li ps) n (calls.take 40) room):=newM_ok n1 (by omega) (by omega) (by omega) hpn hps r1 r8;have q0:LOk n (newM (Ker.bootK n bi li ps) n (calls.take 40) room):=LOk.new _ _ _;have f0:FOk n (newM (Ker.bootK n bi li ps) n (calls.take 40) room):=FOk.new _ _ _;have c0:cnt (newM (Ker.bootK n bi li ps) n (calls.take 40) room)≤0:=cnt_new _ _ _ (Nat.le_zero.1 k0.pg);have p0:(newM (Ker.bootK n bi li ps) n (calls.take 40) room).prog=calls.take 40:=rfl;generalize newM (Ker.bootK n bi li ps) n (calls.take 40) room=m0 at h k0 q0 f0 c0 p0;intro k33 hk33;refine cbF rfl ?_;apply hk33;refine cneF rfl ?_;intro l36 hl36
 have loop:∀(d i:Nat) (m:Mch) (w:World),i+d=80->MOk n (1+64*i) i m->LOk n m->FOk n m->cnt m≤i->m.prog=calls.take 40->Vc.Own w0.heap.size w0 w [MchA mb m,BlkA pb [.z (n:Int), .z (bi:Int), .z (li:Int), .slice s'.a s'.len s'.cap, .slice s5'.a s5'.len s5'.cap, .z room]]->l36 (i:Int) w:=by
  intro d
  induction d with
  |zero=>
   intro i m w hi hm ho hf hc hp h;apply hl36;intro k39 hk39
   have fin:k39 false w:=by
    apply hk39;refine cbF rfl ?_;exact fixed19_spec (h.sub:Vc.Own w0.heap.size w0 w []) hK
   refine cdec (fun e=>?_) (fun e=>fin);rw[decide_eq_false (show ¬(i:Int)<80 by omega)];exact fin
  |succ d ih=>
   intro i m w hi hm ho hf hc hp h;have hprm:PrOk m.prog:=by rw[hp];exact hpr
   apply hl36;intro k39 hk39;refine cdec (fun e=>?_) (fun e=>?_)
   case refine_2=>
    apply hk39;refine cbF rfl ?_;exact fixed19_spec (h.sub:Vc.Own w0.heap.size w0 w []) hK
   rw[decide_eq_true (show (i:Int)<80 by omega)];apply hk39;refine cbT rfl ?_;refine Line_spec hm h fun sl w h=>?_
   have hsl:sl.len=m.line.length:=h.lenc sl;have hlt:i<items.length:=by omega
   obtain ⟨x,hxx⟩:∃x,items[i]?=some x:=⟨_,gE hlt⟩
   rw[show (i:Int).toNat=i from Int.toNat_natCast i];obtain ⟨a,ha,hcc⟩:=hi7.get h hxx;refine ⟨a,ha,by omega,e,?_⟩;refine ldItem hcc ?_;refine Step_spec (it:=x) hm (by omega) (by omega) hprm (h.pick (A:=MchA mb m)) fun fs w h=>?_
   have hpg:pgN m.k.spaces≤63:=by unfold cnt at hc;omega
   have hm':MOk n (1+64*(i+1)) (i+1) (m.item x).2:=(hm.item (by omega) x).1.mono (by omega) (Nat.le_refl _);have ho':=ho.item hm x;have hf':=hf.item ho hm hpg x;have hc':cnt (m.item x).2≤i+1:=by have:=cnt_item hm x;omega
   have hp':(m.item x).2.prog=calls.take 40:=by rw[item_prog];exact hp
   have hseen:∀s,(m.item x).1=some s->s.kind=3->m.line= []->s.is=(fnd ((m.item x).2.k.pagesR 0) s.n).isSome/\s.p=(fnd ((m.item x).2.k.pagesR 0) s.n).getD (0,0):=fun s e1 e2 e3=>seen_fresh hf ho hm e3 e1 e2
   generalize (m.item x).2=m' at h hm' ho' hf' hc' hp' hseen;generalize (m.item x).1=r at h hseen⊢;have hple:=pages_le hm' (by omega);refine h.al fun w2 h=>?_
   generalize w.heap.size=sb at h⊢;refine h.stLc rfl rfl fun w h=>?_
   (try dsimp only[putAt,List.set_cons_zero,List.set_cons_succ] at h)
   refine MPages_spec (n:=0) (h.pick (A:=MchA mb m')) fun sp w h=>?_
   have nx:∀w,Vc.Own w0.heap.size w0 w [SlT Tb.laidE sp (m'.k.pagesR 0),MchA mb m',BlkA pb [.z (n:Int), .z (bi:Int), .z (li:Int), .slice s'.a s'.len s'.cap, .slice s5'.a s5'.len s5'.cap, .z room]]->l36 (IntKind.i64.wrap ((i:Int)+1)) w:=fun w h=>by
    rw[show IntKind.i64.wrap ((i:Int)+1)=((i+1:Nat):Int) from by rw[wr (by omega) (by omega)];omega];exact ih (i+1) m' w (by omega) hm' ho' hf' hc' hp' h.sub
   intro k65 hk65
   have J:∀(t:Bool) (w:World),(t=true->∃s,r=some s/\s.kind=3/\m.line= [])->Vc.Own w0.heap.size w0 w [SlT Tb.laidE sp (m'.k.pagesR 0),MchA mb m',BlkA sb [.z (r.getD noSeen).kind, .z (r.getD noSeen).core, .z (r.getD noSeen).n, .z (r.getD noSeen).t.e, .y (r.getD noSeen).t.w, .z (r.getD noSeen).t.wakes, .slice fs.a fs.len fs.cap, .z (r.getD noSeen).p.1, .z (r.getD noSeen).p.2, .bool (r.getD noSeen).is],BlkA pb [.z (n:Int), .z (bi:Int), .z (li:Int), .slice s'.a s'.len s'.cap, .slice s5'.a s5'.len s5'.cap, .z room]]->k65 t w:=fun t w ht h=>by
    apply hk65;intro k68 hk68
    have go:∀w,Vc.Own w0.heap.size w0 w [SlT Tb.laidE sp (m'.k.pagesR 0),MchA mb m',BlkA pb [.z (n:Int), .z (bi:Int), .z (li:Int), .slice s'.a s'.len s'.cap, .slice s5'.a s5'.len s5'.cap, .z room]]->k68 w:=fun w h=>by
     apply hk68;intro l70 hl70
     have cl:∀(d j:Nat) (w:World),j+d=n->Vc.Own w0.heap.size w0 w [SlT Tb.laidE sp (m'.k.pagesR 0),MchA mb m',BlkA pb [.z (n:Int), .z (bi:Int), .z (li:Int), .slice s'.a s'.len s'.cap, .slice s5'.a s5'.len s5'.cap, .z room]]->l70 (j:Int) w:=by
      intro d
      induction d with
      |zero=>
       intro j w hj h;apply hl70;intro k73 hk73;refine ⟨_,h.ldc rfl,?_⟩;refine cdecF (by omega) ?_;apply hk73;exact cbF rfl (nx w h)
      |succ d ihc=>
       intro j w hj h;apply hl70;intro k73 hk73;refine ⟨_,h.ldc rfl,?_⟩;refine cdecT (by omega) ?_;have hjn:(0:Int)≤(j:Int)/\(j:Int)<(n:Int):=by omega
       refine Line_spec hm' (h.pick (A:=MchA mb m')) fun s2 w h=>?_
       have hs2:s2.len=m'.line.length:=h.lenc s2;by_cases hle:m'.line= []
       case neg=>
        rw[show ((s2.len:Int)==0)=false from beq_eq_false_iff_ne.2 fun e0=>hle (List.eq_nil_of_length_eq_zero (by omega))];apply hk73;exact cbF rfl (nx w h.sub)
       rw[show ((s2.len:Int)==0)=true from beq_iff_eq.2 (by rw[hs2,hle];rfl)];apply hk73;refine cbT rfl ?_;refine Lines_spec (n:=(j:Int)) hm' (h.pick (A:=MchA mb m')) fun s3 w h=>?_
       rw[if_pos hjn] at h;have hs3:s3.len=(m'.corAt (j:Int)).tl.length:=h.lenc s3;have hfr:∀y∈(m'.corAt (j:Int)).tl,y.space=0/\fnd (m'.k.pagesR 0) y.page=some (y.frame,y.rights):=fun y hy=>lines_fresh hf' ho' hm' hle hjn.1 hjn.2 hy
       have htl:(m'.corAt (j:Int)).tl.length≤1000000:=by have h1:=hm'.tl _ (hm'.cor hjn.1 hjn.2).2;have h2:=hm'.r8;omega
       generalize (m'.corAt (j:Int)).tl=T at h hs3 hfr htl;intro l78 hl78
       have inner:∀(d q:Nat) (w:World),q+d=T.length->Vc.Own w0.heap.size w0 w [SlT lneE s3 T,SlT Tb.laidE sp (m'.k.pagesR 0),MchA mb m',BlkA pb [.z (n:Int), .z (bi:Int), .z (li:Int), .slice s'.a s'.len s'.cap, .slice s5'.a s5'.len s5'.cap, .z room]]->l78 (q:Int) w:=by
        intro d
        induction d with
        |zero=>
         intro q w hq h;apply hl78;refine cdecF (by omega) ?_;rw[show IntKind.i64.wrap ((j:Int)+1)=((j+1:Nat):Int) from by rw[wr (by omega) (by omega)];omega];exact ihc (j+1) w (by omega) h.sub
        |succ d ihq=>
         intro q w hq h;have hqt:q<T.length:=by omega
         obtain ⟨y,hy⟩:∃y,T[q]?=some y:=⟨_,gE hqt⟩
         obtain ⟨y1,y2⟩:=hfr y (List.mem_of_getElem? hy);apply hl78;refine cdecT (by omega) ?_;refine h.ixc (s:=s3) rfl hy fun a ha hc0 hc=>⟨_,hc 1 _ rfl,?_⟩
         refine find_spec (s:=sp) (P:=m'.k.pagesR 0) h hple fun w h=>?_
         rw[y2];refine h.al fun w2 h=>?_
         generalize w.heap.size=fb at h⊢;refine h.stLc rfl rfl fun w h=>?_
         (try dsimp only[putAt,List.set_cons_zero,List.set_cons_succ] at h)
         intro k89 hk89;refine h.dr fun w h=>?_
         refine cbF rfl ?_;refine h.lc_2 rfl ?_;refine h.ixc (s:=s3) rfl hy fun a ha hc0 hc=>⟨_,hc 2 _ rfl,_,hc 3 _ rfl,_,pgNe (y.frame,y.rights) (y.frame,y.rights),?_⟩
         refine cbF (by rw[decide_eq_true rfl];rfl) ?_;refine h.ixc (s:=s3) rfl hy fun a ha hc0 hc=>⟨_,hc0 _ rfl,?_⟩
         rw[y1];apply hk89;refine cbF rfl ?_;rw[show IntKind.i64.wrap ((q:Int)+1)=((q+1:Nat):Int) from by rw[wr (by omega) (by omega)];omega];exact ihq (q+1) w (by omega) h.sub
       exact inner T.length 0 w (by omega) h.sub
     exact cl n 0 w (by omega) h
    cases t with
    |false=>exact cbF rfl (go w h.sub)
    |true=>
     obtain ⟨s,rfl,s3,hl0⟩:=ht rfl;obtain ⟨z1,z2⟩:=hseen s rfl s3 hl0;refine cbT rfl ⟨_,h.ldd rfl,?_⟩;refine find_spec (s:=sp) (P:=m'.k.pagesR 0) h hple fun w h=>?_
     have z1:((some s).getD noSeen).is=_:=z1;have z2:((some s).getD noSeen).p=_:=z2;refine h.al fun w2 h=>?_
     generalize w.heap.size=fb at h⊢;refine h.stLc rfl rfl fun w h=>?_
     (try dsimp only[putAt,List.set_cons_zero,List.set_cons_succ] at h)
     refine ⟨_,h.ldd rfl,?_⟩;refine cbF (by rw[z1];simp) ?_;refine h.lc_2 rfl ?_;refine h.lc_2 rfl ?_;refine ⟨_,pgNe ((some s).getD noSeen).p ((fnd (m'.k.pagesR 0) s.n).getD (0,0)),?_⟩;refine cbF (by rw[z2,decide_eq_true rfl];rfl) ?_;exact go w h.sub
   cases r with
   |none=>exact cbF rfl (J false w (fun e=>by cases e) h.sub)
   |some s=>
    refine cbT rfl ⟨_,h.ldc rfl,?_⟩;by_cases e3:s.kind=3
    ·refine cbT (beq_iff_eq.2 e3) ?_
     exact J _ w (fun e=>⟨s,rfl,e3,List.eq_nil_of_length_eq_zero (by have:=beq_iff_eq.1 e;omega)⟩) h.sub
    ·refine cbF (beq_eq_false_iff_ne.2 e3) ?_
     exact J false w (fun e=>by cases e) h.sub
 exact loop 80 0 m0 w rfl k0 q0 f0 c0 p0 h.sub
end
end Go.Proofs.YtghikphgplamkaaGreat.Mc
end
section
namespace Go.Proofs.YtghikphgplamkaaGreat
open Go Go.Vc Go.ChangeShapes Go.WideShapes
theorem Mc.callDec:∀cs,Fits [.int .i64, .int .i64, .int .i64, .int .i64, .int .i64, .int .i64] cs->∃x,cs=Mc.callE.enc x/\Mc.callGood x:=fun cs h0=>by
 obtain ⟨_,_,rfl,⟨a,rfl,_⟩,h1⟩:=h0.cons_out;obtain ⟨_,_,rfl,⟨b,rfl,_⟩,h2⟩:=h1.cons_out;obtain ⟨_,_,rfl,⟨c,rfl,hc⟩,h3⟩:=h2.cons_out;obtain ⟨_,_,rfl,⟨d,rfl,_⟩,h4⟩:=h3.cons_out;obtain ⟨_,_,rfl,⟨e,rfl,_⟩,h5⟩:=h4.cons_out;obtain ⟨_,_,rfl,⟨f,rfl,_⟩,h6⟩:=h5.cons_out;obtain rfl:=h6.nil_out;exact ⟨⟨a,b,c,d,e,f⟩,rfl,hc⟩
theorem Mc.itemDec:∀cs,Fits [.int .i64, .int .i64, .int .i64, .int .i64] cs->∃x,cs=Mc.itemE.enc x/\Mc.itemGood x:=fun cs h0=>by
 obtain ⟨_,_,rfl,⟨a,rfl,_⟩,h1⟩:=h0.cons_out;obtain ⟨_,_,rfl,⟨b,rfl,_⟩,h2⟩:=h1.cons_out;obtain ⟨_,_,rfl,⟨c,rfl,_⟩,h3⟩:=h2.cons_out;obtain ⟨_,_,rfl,⟨d,rfl,_⟩,h4⟩:=h3.cons_out;obtain rfl:=h4.nil_out;exact ⟨⟨a,b,c,d⟩,rfl,trivial⟩
section
variable {H:Type} {enc:TypeId × Value->H} {P:Program} {held:Bool}
theorem aggP_of {t e e1:TypeId} {f0 f1 f2 g0 g1 g2 g3:Field} {W:World} {sp:Nat->Bool} {v:Value} {dd:DataW H} {ps:List MemPlace} {r:Reach} {b0:Nat} (ht:P.underlying t=some (.struct #[f0,f1,f2])) (hb:P.underlying f0.type=some (.struct #[g0,g1,g2,g3]))
  (h0:P.underlying g0.type=some (.int .i64)) (h1:P.underlying g1.type=some (.int .i64)) (h2:P.underlying g2.type=some (.int .i64)) (h3:P.underlying g3.type=some (.slice e)) (h4:P.underlying f1.type=some (.slice e1)) (h5:P.underlying f2.type=some (.int .i64))
  (ho:(f0.offset,f1.offset,f2.offset,g0.offset,g1.offset,g2.offset,g3.offset)=(0,4,5,0,1,2,3)) (hcc:(P.cellsOf f0.type,P.cellsOf f1.type,P.cellsOf f2.type,P.cellsOf g0.type,P.cellsOf g1.type,P.cellsOf g2.type,P.cellsOf g3.type)=(4,1,1,1,1,1,1)) (hc:P.cellsOf t=6)
  (hval:Value.okWide P W r b0 t v) (h:DataW.Trod enc P W 0 sp held t v dd ps):
  ∃(x0 x1 x2 x5:Int) (s s':Sl) (d d':DataW H) (p p':List MemPlace),v= .agg #[.z x0, .z x1, .z x2, .slice s.a s.len s.cap, .slice s'.a s'.len s'.cap, .z x5]/\(Lit.int .i64 x0).wf=true/\(Lit.int .i64 x1).wf=true/\(Lit.int .i64 x2).wf=true/\(Lit.int .i64 x5).wf=true/\
   DataW.Trod enc P W 0 sp held g3.type (.slice s.a s.len s.cap) d p/\DataW.Trod enc P W 0 sp held f1.type (.slice s'.a s'.len s'.cap) d' p':=by
 simp only[Prod.mk.injEq] at ho hcc;obtain ⟨o0,o1,o2,q0,q1,q2,q3⟩:=ho;obtain ⟨c0,c1,c2,r0,r1,r2,r3⟩:=hcc;obtain ⟨cs,rfl,hsz⟩:=okWide_struct ht hval
 obtain ⟨x0,x1,x2,x3,x4,x5,rfl⟩:∃x0 x1 x2 x3 x4 x5,cs= #[x0,x1,x2,x3,x4,x5]:=by
  obtain ⟨l⟩:=cs
  match l,(hsz.trans hc) with
  | [c0,c1,c2,c3,c4,c5],_=>exact ⟨c0,c1,c2,c3,c4,c5,rfl⟩
 obtain ⟨fuel,hf⟩:=h;obtain ⟨xs,n,_,_,hl,hlen,hfs⟩:=DataW.trod_struct ht hf
 match xs,hlen with
 | [y0,y1,y2],_=>
  have k0:=hfs 0 f0 rfl;have k1:=hfs 1 f1 rfl;have k2:=hfs 2 f2 rfl;simp only[o0,o1,o2,c0,c1,c2,Value.cells] at k0 k1 k2;simp at k0 k1 k2;obtain ⟨zs,n',_,_,_,hlen',hgs⟩:=DataW.trod_struct hb k0
  match zs,hlen' with
  | [z0,z1,z2,z3],_=>
   have j0:=hgs 0 g0 rfl;have j1:=hgs 1 g1 rfl;have j2:=hgs 2 g2 rfl;have j3:=hgs 3 g3 rfl;simp only[q0,q1,q2,q3,r0,r1,r2,r3] at j0 j1 j2 j3;simp at j0 j1 j2 j3;obtain ⟨n0,e0,_,w0⟩:=DataW.trod_int h0 j0;obtain ⟨n1,e1,_,w1⟩:=DataW.trod_int h1 j1;obtain ⟨n2,e2,_,w2⟩:=DataW.trod_int h2 j2;obtain ⟨a3,l3,k3,e3⟩:=Go.Joins.slice_form h3 j3;obtain ⟨a4,l4,k4,e4⟩:=Go.Joins.slice_form h4 k1;obtain ⟨n5,e5,_,w5⟩:=DataW.trod_int h5 k2;simp only[List.cons.injEq,and_true] at e0 e1 e2 e3 e4 e5;subst e0;subst e1;subst e2;subst e3;subst e4;subst e5;exact ⟨n0,n1,n2,n5,⟨a3,l3,k3⟩,⟨a4,l4,k4⟩,z3.1,y1.1,z3.2,y1.2,rfl,w0,w1,w2,w5,⟨n',by simpa [Value.cells] using j3⟩,⟨n,by simpa [Value.cells] using k1⟩⟩
end
end Go.Proofs.YtghikphgplamkaaGreat
end
