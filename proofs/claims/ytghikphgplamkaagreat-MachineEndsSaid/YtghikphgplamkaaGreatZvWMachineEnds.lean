/- What the row rests on: the law, at the model and walked. -/
import Derived.Test.YtghikphgplamkaaGreatZv9
set_option linter.unusedVariables false
set_option linter.unusedSimpArgs false
set_option linter.unusedSectionVars false
section
namespace Go.Proofs.YtghikphgplamkaaGreat
open Go Go.Vc Go.ChangeShapes Go.WideShapes
theorem intDec18:∀cs,Fits [.int .i64] cs->∃x,cs=intE.enc x/\(Lit.int .i64 x).wf=true:=fun cs h=>by
 obtain ⟨_,_,rfl,⟨a,rfl,ha⟩,h1⟩:=h.cons_out;obtain rfl:=h1.nil_out;exact ⟨a,rfl,ha⟩
end Go.Proofs.YtghikphgplamkaaGreat
end
section
set_option maxRecDepth 8000
namespace Go.Proofs.YtghikphgplamkaaGreat.Mc
open Go Go.Vc Go.Proofs
def itemE:EncT Item:=⟨4,fun o=>[.z o.kind, .z o.core, .z o.a, .z o.b],fun _=>rfl,fun x v h=>by
 simp only[List.mem_cons,List.not_mem_nil,or_false] at h;rcases h with rfl|rfl|rfl|rfl<;>rfl,by decide⟩
theorem ldItem {w:World} {a:Addr} {x:Item} {f:Int->Int->Int->Int->Prop} (g:∀c v,(itemE.enc x)[c]?=some v->w.cell? (a.add c)=some v) (hf:f x.kind x.core x.a x.b):
  LdL w a 0 [.o, .o, .o, .o] f:=⟨_,g 0 _ rfl,_,g 1 _ rfl,_,g 2 _ rfl,_,g 3 _ rfl,hf⟩
def callGood (c:Call):Prop:=(Lit.int .i64 c.with_).wf=true
def itemGood (_:Item):Prop:=True
theorem wf64 {x:Int} (h:(Lit.int .i64 x).wf=true): -9223372036854775808≤x/\x<9223372036854775808:=by
 have h1:(decide (IntKind.i64.min≤x)&&decide (x≤IntKind.i64.max))=true:=h;rw[show IntKind.i64.min= -9223372036854775808 from rfl,show IntKind.i64.max=9223372036854775807 from rfl] at h1;simp only[Bool.and_eq_true,decide_eq_true_eq] at h1;omega
theorem prOk_of {calls:List Call} (h:∀c∈calls,callGood c):PrOk (calls.take 40):=fun c hc=>wf64 (h c (List.mem_of_mem_take hc))
section
variable {nc N g:Nat} {m:Mch}
theorem step_prog (n:Int):(m.step n).2.prog=m.prog:=by
 unfold Mch.step;split
 ·rfl
 split
 ·rfl
 split
 ·split
  ·show (Mch.tells n _ _).prog=m.prog
   have:∀(l:List Lne) (m:Mch),(Mch.tells n l m).prog=m.prog:=fun l=>by
    induction l with
    |nil=>exact fun _=>rfl
    |cons x l ih=>exact fun m=>ih _
   exact this _ _
  ·rfl
 split
 ·rfl
 ·rfl
theorem user_prog (x:Item):(m.user x).2.prog=m.prog:=by
 unfold Mch.user;split
 ·rfl
 split
 ·rfl
 split<;>rfl
theorem item_prog (x:Item):(m.item x).2.prog=m.prog:=by
 unfold Mch.item;split
 ·rfl
 split
 ·exact user_prog x
 split
 ·exact step_prog _
 split
 ·rfl
 split<;>rfl
end
structure LOk (nc:Nat) (m:Mch):Prop where
 ds:∀c:Int,0≤c->c<(nc:Int)->((m.corAt c).does=0∨(m.corAt c).does=1)/\c∉m.line∨((m.corAt c).does=2∨(m.corAt c).does=3)/\c∈m.line
 hd:∀c:Int,0≤c->c<(nc:Int)->(m.corAt c).does=3->m.line.head?=some c
 bx:∀l∈m.bx,∀y∈l,(0≤y.frm/\y.frm<(nc:Int))/\(m.corAt y.frm).does=3
section
variable {nc N g:Nat} {m:Mch}
theorem toNat_ne {a c:Int} (ha:0≤a) (hc:0≤c) (h:a≠c):a.toNat≠c.toNat:=fun e=>h (by omega)
theorem corAt_if {n c:Int} {x:Cor} (h0:0≤n) (hc:0≤c) (hl:n.toNat<m.cs.length):(m.setC n x).corAt c=if c=n then x else m.corAt c:=by
 by_cases e:c=n
 ·rw[if_pos e,e];exact corAt_set hl
 ·rw[if_neg e];exact corAt_ne (toNat_ne hc h0 e)
theorem LOk.same {m':Mch} (h:LOk nc m) (hd:∀c:Int,0≤c->(m'.corAt c).does=(m.corAt c).does) (hl:m'.line=m.line) (hb:∀l∈m'.bx,∀y∈l,∃l'∈m.bx,y∈l'):LOk nc m':=by
 refine ⟨fun c h0 h1=>?_,fun c h0 h1 e=>?_,fun l hl' y hy=>?_⟩
 ·rw[hd c h0,hl];exact h.ds c h0 h1
 ·rw[hl];exact h.hd c h0 h1 (by rw[←hd c h0];exact e)
 ·obtain ⟨l',hl2,hy2⟩:=hb l hl' y hy
  obtain ⟨h1,h2⟩:=h.bx l' hl2 y hy2;exact ⟨h1,by rw[hd _ h1.1];exact h2⟩
theorem mem_allB {f a:Int} {bx:List (List Mail)} {l:List Mail} {y:Mail} (hl:l∈allB f a bx) (hy:y∈l):(∃l'∈bx,y∈l')∨y=⟨f,0,a⟩:=by
 unfold allB at hl;split at hl
 ·exact .inl ⟨l,hl,hy⟩
 ·obtain ⟨i,hi,e⟩:=List.mem_mapIdx.1 hl
  split at e
  ·exact .inl ⟨_,List.getElem_mem hi,by rw[e];exact hy⟩
  ·rw[←e] at hy
   rcases List.mem_append.1 hy with hy|hy
   ·exact .inl ⟨_,List.getElem_mem hi,hy⟩
   ·exact .inr (List.mem_singleton.1 hy)
theorem mem_sendAll {n:Int}:∀(F:List Lne) {bx:List (List Mail)} {l:List Mail} {y:Mail},l∈sendAll n F bx->y∈l->(∃l'∈bx,y∈l')∨y.frm=n
 | [],bx,l,y,hl,hy=> .inl ⟨l,hl,hy⟩
 |x::F,bx,l,y,hl,hy=>by
  rcases mem_sendAll F (show l∈sendAll n F (allB n (aboutOf x) bx) from hl) hy with ⟨l',h1,h2⟩|h
  ·rcases mem_allB h1 h2 with h|h
   ·exact .inl h
   ·exact .inr (by rw[h])
  ·exact .inr h
theorem owed_none {bx:List (List Mail)} {c:Int} (h:owedB bx c=0):∀l∈bx,∀y∈l,y.frm≠c:=fun l hl y hy e=>by
 have h1:(l.filter fun m=>decide (m.frm=c)).length≠0:=fun h0=>by
  have:=List.eq_nil_of_length_eq_zero h0;rw[List.filter_eq_nil_iff] at this;exact this y hy (decide_eq_true e)
 have h2:∀(bx:List (List Mail)),l∈bx->(l.filter fun m=>decide (m.frm=c)).length≤(bx.map fun l=>(l.filter fun m=>decide (m.frm=c)).length).sum:=fun bx hb=>by
  induction bx with
  |nil=>cases hb
  |cons r bx ih=>
   simp only[List.map_cons,List.sum_cons];rcases List.mem_cons.1 hb with e|hb
   ·rw[e];omega
   ·have:=ih hb;omega
 have:=h2 bx hl;unfold owedB at h;omega
theorem LOk.new (k:Ker) (prog:List Call) (room:Int):LOk nc (newM k nc prog room):=by
 have hc:∀c:Int,((newM k nc prog room).corAt c).does=0:=fun c=>by
  unfold Mch.corAt newM;dsimp only;rw[List.getElem?_replicate];split<;>rfl
 refine ⟨fun c h0 h1=> .inl ⟨.inl (hc c),fun hh=>by cases hh⟩,fun c h0 h1 e=>?_,fun l hl y hy=>?_⟩
 ·rw[hc c] at e;cases e
 ·have:=List.eq_of_mem_replicate hl
  rw[this] at hy;cases hy
theorem LOk.step (h:LOk nc m) (hm:MOk nc N g m) {n:Int} (h0:0≤n) (h1:n<(nc:Int)):LOk nc (m.step n).2:=by
 have hcs:=hm.cs;have hlt:n.toNat<m.cs.length:=by omega
 unfold Mch.step;split
 ·rename_i x r hb
  refine h.same (fun c hc=>?_) rfl (fun l hl y hy=>?_)
  ·show ((Mch.setC { m with bx:=m.bx.set n.toNat (m.box n).tail} n { m.corAt n with tl:=_}).corAt c).does=_
   rw[corAt_if (m:={ m with bx:=m.bx.set n.toNat (m.box n).tail}) h0 hc hlt];split
   ·rename_i e;rw[e]
   ·rfl
  ·rcases mem_set_or hl with hl|hl
   ·exact ⟨l,hl,hy⟩
   ·rw[hl] at hy
    have hm2:m.box n∈m.bx:=by
     unfold Mch.box at hb⊢;cases e:m.bx[n.toNat]? with
     |none=>rw[e] at hb;cases hb
     |some l=>exact List.mem_of_getElem? e
    exact ⟨m.box n,hm2,List.mem_of_mem_tail hy⟩
 split
 ·rename_i e1
  have hn:n∉m.line:=by
   rcases h.ds n h0 h1 with ⟨_,h⟩|⟨h,_⟩
   ·exact h
   ·rw[e1] at h;omega
  have he:enterL m.line n=m.line++ [n]:=by unfold enterL;rw[if_neg hn]
  have hca:∀c:Int,0≤c->((Mch.setC { m with line:=enterL m.line n} n { m.corAt n with does:=2}).corAt c)=if c=n then { m.corAt n with does:=2} else m.corAt c:=fun c hc=>corAt_if (m:={ m with line:=enterL m.line n}) h0 hc hlt
  refine ⟨fun c hc hc1=>?_,fun c hc hc1 e=>?_,fun l hl y hy=>?_⟩
  ·show (_∨_)/\c∉enterL m.line n∨(_∨_)/\c∈enterL m.line n
   rw[hca c hc,he];by_cases e:c=n
   ·rw[if_pos e];exact .inr ⟨.inl rfl,by rw[e];exact List.mem_append_right _ (List.mem_singleton.2 rfl)⟩
   ·rw[if_neg e]
    rcases h.ds c hc hc1 with ⟨a,b⟩|⟨a,b⟩
    ·exact .inl ⟨a,fun hh=>(List.mem_append.1 hh).elim b fun hh=>e (List.mem_singleton.1 hh)⟩
    ·exact .inr ⟨a,List.mem_append_left _ b⟩
  ·rw[hca c hc] at e
   by_cases e2:c=n
   ·rw[if_pos e2] at e;cases e
   ·rw[if_neg e2] at e
    have:=h.hd c hc hc1 e;show (enterL m.line n).head?=_;rw[he];cases hl:m.line with
    |nil=>rw[hl] at this;cases this
    |cons d ds=>rw[hl] at this;exact this
  ·obtain ⟨a,b⟩:=h.bx l hl y hy
   refine ⟨a,?_⟩;rw[hca _ a.1];split
   ·rename_i e2;rw[e2,e1] at b;cases b
   ·exact b
 split
 ·split
  ·rename_i e2 hp
   have hhd:m.line.head?=some n:=of_decide_eq_true hp;rw[did_eq hlt];have hca:∀c:Int,0≤c->((Mch.setC { m with k:=(m.k.do n (m.callOf n)).2,bx:=sendAll n (m.k.do n (m.callOf n)).1.forget m.bx} n ⟨dropAll (m.k.do n (m.callOf n)).1.forget (m.corAt n).tl,3,(m.corAt n).n,(m.k.do n (m.callOf n)).1⟩).corAt c)=if c=n then ⟨dropAll (m.k.do n (m.callOf n)).1.forget (m.corAt n).tl,3,(m.corAt n).n,(m.k.do n (m.callOf n)).1⟩ else m.corAt c:=fun c hc=>corAt_if (m:={ m with k:=(m.k.do n (m.callOf n)).2,bx:=sendAll n (m.k.do n (m.callOf n)).1.forget m.bx}) h0 hc hlt
   show LOk nc (Mch.setC { m with k:=(m.k.do n (m.callOf n)).2,bx:=sendAll n (m.k.do n (m.callOf n)).1.forget m.bx} n ⟨dropAll (m.k.do n (m.callOf n)).1.forget (m.corAt n).tl,3,(m.corAt n).n,(m.k.do n (m.callOf n)).1⟩);refine ⟨fun c hc hc1=>?_,fun c hc hc1 e=>?_,fun l hl y hy=>?_⟩
   ·rw[hca c hc]
    by_cases e:c=n
    ·rw[if_pos e];exact .inr ⟨.inr rfl,by rw[e];exact List.mem_of_mem_head? hhd⟩
    ·rw[if_neg e];exact h.ds c hc hc1
   ·rw[hca c hc] at e
    by_cases e3:c=n
    ·rw[e3];exact hhd
    ·rw[if_neg e3] at e;exact h.hd c hc hc1 e
   ·rcases mem_sendAll _ (show l∈sendAll n _ m.bx from hl) hy with ⟨l',h2,h3⟩|hf
    ·obtain ⟨a,b⟩:=h.bx l' h2 y h3
     refine ⟨a,?_⟩;rw[hca _ a.1];split
     ·rfl
     ·exact b
    ·rw[hf,hca _ h0,if_pos rfl]
     exact ⟨⟨h0,h1⟩,rfl⟩
  ·exact h
 split
 ·rename_i e1 e2 e3
  obtain ⟨e3,e4⟩:=e3;have hhd:=h.hd n h0 h1 e3;have hnone:=owed_none e4;have hlv:leaveL m.line n=m.line.tail:=by unfold leaveL;rw[if_pos hhd]
  obtain ⟨cs,hline⟩:∃cs,m.line=n::cs:=by
   cases hl:m.line with
   |nil=>rw[hl] at hhd;cases hhd
   |cons d ds=>rw[hl] at hhd;cases hhd;exact ⟨ds,rfl⟩
  have hnd:=hm.lnd;rw[hline] at hnd hlv;have hnn:=(List.nodup_cons.1 hnd).1;have hca:∀c:Int,0≤c->((Mch.setC { m with line:=leaveL m.line n} n { m.corAt n with does:=0}).corAt c)=if c=n then { m.corAt n with does:=0} else m.corAt c:=fun c hc=>corAt_if (m:={ m with line:=leaveL m.line n}) h0 hc hlt
  have hlv2:(Mch.setC { m with line:=leaveL m.line n} n { m.corAt n with does:=0}).line=cs:=by show leaveL m.line n=cs;rw[hline,hlv];rfl
  refine ⟨fun c hc hc1=>?_,fun c hc hc1 e=>?_,fun l hl y hy=>?_⟩
  ·rw[hca c hc,hlv2]
   by_cases e:c=n
   ·rw[if_pos e];exact .inl ⟨.inl rfl,by rw[e];exact hnn⟩
   ·rw[if_neg e]
    have:=h.ds c hc hc1;rw[hline] at this;rcases this with ⟨a,b⟩|⟨a,b⟩
    ·exact .inl ⟨a,fun hh=>b (List.mem_cons_of_mem _ hh)⟩
    ·exact .inr ⟨a,(List.mem_cons.1 b).resolve_left e⟩
  ·rw[hca c hc] at e
   by_cases e5:c=n
   ·rw[if_pos e5] at e;cases e
   ·rw[if_neg e5] at e
    have:=h.hd c hc hc1 e;rw[hhd] at this;exact absurd (Option.some.inj this).symm e5
  ·obtain ⟨a,b⟩:=h.bx l hl y hy
   have:=h.hd _ a.1 a.2 b;rw[hhd] at this;exact absurd (Option.some.inj this).symm (hnone l hl y hy)
 ·exact h
theorem LOk.user (h:LOk nc m) (hm:MOk nc N g m) {x:Item} (h0:0≤x.core) (h1:x.core<(nc:Int)):LOk nc (m.user x).2:=by
 have hcs:=hm.cs;have hlt:x.core.toNat<m.cs.length:=by omega
 unfold Mch.user;split
 ·exact h
 rename_i e0;have e0:(m.corAt x.core).does=0:=Decidable.byContradiction e0
 have hn:x.core∉m.line:=by
  rcases h.ds x.core h0 h1 with ⟨_,h⟩|⟨h,_⟩
  ·exact h
  ·rw[e0] at h;omega
 split
 ·refine h.same (fun c hc=>?_) rfl fun l hl y hy=>⟨l,hl,hy⟩
  show ((Mch.setC m x.core _).corAt c).does=_;rw[corAt_if h0 hc hlt];split
  ·rename_i e;rw[e]
  ·rfl
 split
 ·have hca:∀c:Int,0≤c->((Mch.setC m x.core { m.corAt x.core with does:=1,n:=x.a}).corAt c)=if c=x.core then { m.corAt x.core with does:=1,n:=x.a} else m.corAt c:=fun c hc=>corAt_if h0 hc hlt
  refine ⟨fun c hc hc1=>?_,fun c hc hc1 e=>?_,fun l hl y hy=>?_⟩
  ·rw[hca c hc]
   by_cases e:c=x.core
   ·rw[if_pos e];exact .inl ⟨.inr rfl,by rw[e];exact hn⟩
   ·rw[if_neg e];exact h.ds c hc hc1
  ·rw[hca c hc] at e
   by_cases e2:c=x.core
   ·rw[if_pos e2] at e;cases e
   ·rw[if_neg e2] at e;exact h.hd c hc hc1 e
  ·obtain ⟨a,b⟩:=h.bx l hl y hy
   refine ⟨a,?_⟩;rw[hca _ a.1];split
   ·rename_i e2;rw[e2,e0] at b;cases b
   ·exact b
 ·exact h
theorem LOk.item (h:LOk nc m) (hm:MOk nc N g m) (x:Item):LOk nc (m.item x).2:=by
 have hcs:=hm.cs;unfold Mch.item;split
 ·exact h
 rename_i hr;have hr:rightI x m.cs.length=true:=by cases e:rightI x m.cs.length with|true=>rfl|false=>exact absurd e hr
 obtain ⟨k0,k1,c0,c1,_,_⟩:=right_iff.1 hr;have c2:x.core<(nc:Int):=by omega
 split
 ·exact h.user hm c0 c2
 split
 ·exact h.step hm c0 c2
 split
 ·exact h
 split
 ·exact h.same (fun _ _=>rfl) rfl fun l hl y hy=>⟨l,hl,hy⟩
 ·exact h.same (fun _ _=>rfl) rfl fun l hl y hy=>⟨l,hl,hy⟩
end
def mails (bx:List (List Mail)):Nat:=(bx.map List.length).sum
def wt (d:Int):Nat:=if d=1 then 5 else if d=2 then 4 else if d=3 then 1 else 0
def bnd (m:Mch):Nat:=mails m.bx+2*pgN m.k.spaces
def pot (m:Mch):Nat:=(m.cs.map fun c=>wt c.does).sum+bnd m
theorem sum_set {α:Type} (f:α->Nat):∀{l:List α} {i:Nat} {x y:α},l[i]?=some y->((l.set i x).map f).sum+f y=(l.map f).sum+f x
 | [],_,_,_,h=>by simp at h
 |a::l,0,x,y,h=>by
  cases h;simp only[List.set_cons_zero,List.map_cons,List.sum_cons];omega
 |a::l,i+1,x,y,h=>by
  have:=sum_set f (l:=l) (i:=i) (x:=x) (y:=y) h;simp only[List.set_cons_succ,List.map_cons,List.sum_cons];omega
theorem wt_le (d:Int):wt d≤5:=by
 unfold wt;split
 ·omega
 split
 ·omega
 split<;>omega
theorem mails_all (f a:Int) {bx:List (List Mail)} (h0:0≤f) (h1:f<(bx.length:Int)) (h3:bx.length≤3):mails (allB f a bx)≤mails bx+2:=by
 unfold allB;split
 ·omega
 ·match bx,h1,h3 with
  | [x],h1,_=>
   have:f=0:=by simp at h1;omega
   subst this;simp[mails]
  | [x,y],h1,_=>
   have:f=0∨f=1:=by simp at h1;omega
   rcases this with rfl|rfl<;>simp[mails]<;>omega
  | [x,y,z],h1,_=>
   have:f=0∨f=1∨f=2:=by simp at h1;omega
   rcases this with rfl|rfl|rfl<;>simp[mails]<;>omega
  | [],h1,_=>simp at h1;omega
  |_::_::_::_::_,_,h3=>simp at h3
theorem mails_send (n:Int):∀(F:List Lne) {bx:List (List Mail)},0≤n->n<(bx.length:Int)->bx.length≤3->mails (sendAll n F bx)≤mails bx+2*F.length
 | [],bx,_,_,_=>by show mails bx≤_;simp
 |x::F,bx,h0,h1,h3=>by
  have a:=mails_all n (aboutOf x) h0 h1 h3;have b:=mails_send n F (bx:=allB n (aboutOf x) bx) h0 (by rw[allB_len];exact h1) (by rw[allB_len];exact h3);show mails (sendAll n F (allB n (aboutOf x) bx))≤_;simp only[List.length_cons];omega
section
variable {nc N g:Nat} {m:Mch}
theorem box_at (hm:MOk nc N g m) {n:Int} (h0:0≤n) (h1:n<(nc:Int)):m.bx[n.toNat]?=some (m.box n):=by
 have:=hm.bx;have e:m.bx[n.toNat]?=some (m.bx[n.toNat]'(by omega)):=gE (by omega);unfold Mch.box;rw[e];rfl
theorem pot_step (hm:MOk nc N g m) (h3:nc≤3) {n:Int} (h0:0≤n) (h1:n<(nc:Int)):
  ((m.step n).2=m/\m.box n= []/\(m.corAt n).does≠1/\((m.corAt n).does=2->probeL m.line n=false)/\((m.corAt n).does=3->owedB m.bx n≠0))∨pot (m.step n).2+1≤pot m:=by
 obtain ⟨hc1,hc2⟩:=hm.cor h0 h1;have hb:=box_at hm h0 h1;have hbx:=hm.bx;have hlt:n.toNat<m.cs.length:=(List.getElem?_eq_some_iff.1 hc1).1;have hset:∀c:Cor,((m.cs.set n.toNat c).map fun c=>wt c.does).sum+wt (m.corAt n).does=(m.cs.map fun c=>wt c.does).sum+wt c.does:=fun c=>sum_set (fun c=>wt c.does) hc1
 unfold Mch.step;split
 ·rename_i x r hx
  refine .inr ?_;rw[hx] at hb;have h1:=sum_set List.length (x:=r) hb;have h2:=hset { m.corAt n with tl:=drop (IntKind.i64.wrap (x.about.tdiv 4096)) (x.about.tmod 4096) (m.corAt n).tl};unfold pot bnd mails Mch.heard;rw[hx];simp only[List.length_cons] at h1;dsimp only[List.tail_cons] at h1 h2⊢;omega
 ·rename_i hx
  by_cases e1:(m.corAt n).does=1
  ·rw[if_pos e1]
   refine .inr ?_;have h2:=hset { m.corAt n with does:=2};rw[e1] at h2;have w1:wt 1=5:=rfl;have w2:wt 2=4:=rfl;unfold pot bnd Mch.setC;dsimp only at h2⊢;omega
  rw[if_neg e1];by_cases e2:(m.corAt n).does=2
  ·rw[if_pos e2]
   cases hp:probeL m.line n with
   |false=>
    rw[if_neg (by decide)];exact .inl ⟨rfl,hx,e1,fun _=>rfl,fun h=>by omega⟩
   |true=>
    rw[if_pos rfl];refine .inr ?_;dsimp only;rw[did_eq hlt];obtain ⟨p1,_⟩:=do_pp hm.k n (m.callOf n);have h2:=hset ⟨dropAll (m.k.do n (m.callOf n)).1.forget (m.corAt n).tl,3,(m.corAt n).n,(m.k.do n (m.callOf n)).1⟩;have h4:=mails_send n (m.k.do n (m.callOf n)).1.forget (bx:=m.bx) h0 (by omega) (by omega);rw[e2] at h2;have w1:wt 3=1:=rfl;have w2:wt 2=4:=rfl;unfold pot bnd;dsimp only at h2⊢;omega
  rw[if_neg e2];by_cases e3:(m.corAt n).does=3/\owedB m.bx n=0
  ·rw[if_pos e3]
   refine .inr ?_;have h2:=hset { m.corAt n with does:=0};rw[e3.1] at h2;have w1:wt 3=1:=rfl;have w2:wt 0=0:=rfl;unfold pot bnd Mch.setC;dsimp only at h2⊢;omega
  ·rw[if_neg e3]
   exact .inl ⟨rfl,hx,e1,fun h=>absurd h e2,fun h hh=>e3 ⟨h,hh⟩⟩
def Rest (nc:Nat) (m:Mch):Prop:=∀c:Int,0≤c->c<(nc:Int)->(m.corAt c).does=0
theorem rest_of (hm:MOk nc N g m) (h:LOk nc m) (hall:∀n:Int,0≤n->n<(nc:Int)->m.box n= []/\(m.corAt n).does≠1/\((m.corAt n).does=2->probeL m.line n=false)/\((m.corAt n).does=3->owedB m.bx n≠0)):Rest nc m:=by
 have hbx:=hm.bx
 have hz:∀l∈m.bx,l= []:=fun l hl=>by
  obtain ⟨i,hi⟩:=List.mem_iff_getElem?.1 hl;have hlt:=(List.getElem?_eq_some_iff.1 hi).1;have:=(hall (i:Int) (by omega) (by omega)).1;unfold Mch.box at this;rw[Int.toNat_natCast,hi] at this;exact this
 have ho:∀c,owedB m.bx c=0:=fun c=>by
  unfold owedB
  have:(m.bx.map fun l=>(l.filter fun m=>decide (m.frm=c)).length).sum=0:=by
   have hh:∀(b:List (List Mail)),(∀l∈b,l= [])->(b.map fun l=>(l.filter fun m=>decide (m.frm=c)).length).sum=0:=fun b hb=>by
    induction b with
    |nil=>rfl
    |cons r b ih=>
     rw[List.map_cons,List.sum_cons,ih fun l hl=>hb l (List.mem_cons_of_mem _ hl),hb r List.mem_cons_self];rfl
   exact hh m.bx hz
  rw[this];rfl
 have hl:m.line= []:=by
  cases hl:m.line with
  |nil=>rfl
  |cons d ds=>
   have hd:d∈m.line:=by rw[hl];exact List.mem_cons_self
   obtain ⟨d0,d1⟩:=hm.lr d hd;obtain ⟨_,_,a2,a3⟩:=hall d d0 d1;rcases h.ds d d0 d1 with ⟨_,hn⟩|⟨h23,_⟩
   ·exact absurd hd hn
   ·rcases h23 with e|e
    ·have:=a2 e
     unfold probeL at this;rw[hl] at this;simp at this
    ·exact absurd (ho d) (a3 e)
 intro c c0 c1;rcases h.ds c c0 c1 with ⟨h01,_⟩|⟨_,hin⟩
 ·rcases h01 with e|e
  ·exact e
  ·exact absurd e (hall c c0 c1).2.1
 ·rw[hl] at hin;cases hin
theorem bnd_item (hm:MOk nc N g m) (h3:nc≤3) (x:Item):bnd (m.item x).2≤bnd m+2:=by
 have hcs:=hm.cs;have hbx:=hm.bx;unfold Mch.item;split
 ·exact Nat.le_add_right _ _
 rename_i hr;have hr:rightI x m.cs.length=true:=by cases e:rightI x m.cs.length with|true=>rfl|false=>exact absurd e hr
 obtain ⟨k0,k1,c0,c1,_,_⟩:=right_iff.1 hr;have c2:x.core<(nc:Int):=by omega
 split
 ·unfold Mch.user
  split
  ·exact Nat.le_add_right _ _
  split
  ·exact Nat.le_add_right _ _
  split
  ·exact Nat.le_add_right _ _
  ·exact Nat.le_add_right _ _
 split
 ·unfold Mch.step
  split
  ·rename_i y r hx
   have hb:=box_at hm c0 c2;rw[hx] at hb;have h1:=sum_set List.length (x:=r) hb;unfold bnd mails Mch.heard;rw[hx];simp only[List.length_cons] at h1;dsimp only[List.tail_cons] at h1⊢;omega
  split
  ·exact Nat.le_add_right _ _
  split
  ·split
   ·dsimp only
    rw[did_eq (show x.core.toNat<m.cs.length by omega)];obtain ⟨p1,_⟩:=do_pp hm.k x.core (m.callOf x.core);have h4:=mails_send x.core (m.k.do x.core (m.callOf x.core)).1.forget (bx:=m.bx) c0 (by omega) (by omega);unfold bnd;dsimp only;omega
   ·exact Nat.le_add_right _ _
  split
  ·exact Nat.le_add_right _ _
  ·exact Nat.le_add_right _ _
 split
 ·exact Nat.le_add_right _ _
 split
 ·unfold bnd
  dsimp only;rw[irq_sp];omega
 ·exact Nat.le_add_right _ _
theorem pot_le (hm:MOk nc N g m) (h3:nc≤3):pot m≤bnd m+15:=by
 have h1:∀l:List Cor,(l.map fun c=>wt c.does).sum≤5*l.length:=fun l=>by
  induction l with
  |nil=>simp
  |cons c l ih=>
   have:=wt_le c.does;simp only[List.map_cons,List.sum_cons,List.length_cons];omega
 have:=h1 m.cs;have:=hm.cs;unfold pot;omega
end
def endsI (items:List Item) (nc:Nat) (i:Nat):Item:=if i<80/\i<items.length then (items[i]?).getD ⟨0,0,0,0⟩ else ⟨0,((i%3%nc:Nat):Int),0,0⟩
def runE (items:List Item) (nc:Nat) (m0:Mch):Nat->Mch
 |0=>m0
 |i+1=>((runE items nc m0 i).item (endsI items nc i)).2
section
variable {nc N g:Nat} {m m0:Mch} {items:List Item}
theorem item_step (hm:MOk nc N g m) {c:Int} (h0:0≤c) (h1:c<(nc:Int)):m.item ⟨0,c,0,0⟩=m.step c:=by
 have hcs:=hm.cs;have hn8:=hm.n8;have hr:rightI ⟨0,c,0,0⟩ m.cs.length=true:=decide_eq_true (by dsimp only;omega);unfold Mch.item;rw[if_neg (by rw[hr];decide),if_neg (show ¬(0:Int)=1 by decide),if_pos rfl]
theorem rest_step (hm:MOk nc N g m) (h:LOk nc m) (hr:Rest nc m) {c:Int} (h0:0≤c) (h1:c<(nc:Int)):(m.step c).2=m:=by
 have hb:m.box c= []:=by
  have:=box_at hm h0 h1;cases hx:m.box c with
  |nil=>rfl
  |cons y r=>
   rw[hx] at this;obtain ⟨a,b⟩:=h.bx _ (List.mem_of_getElem? this) y List.mem_cons_self;rw[hr _ a.1 a.2] at b;cases b
 have hd:=hr c h0 h1;unfold Mch.step;rw[hb];dsimp only;rw[hd,if_neg (by decide),if_neg (by decide),if_neg (fun hh=>by have:=hh.1;omega)]
theorem run_ok (hm:MOk nc 1 0 m0) (hl:LOk nc m0) (h3:nc≤3):∀i,i≤680->MOk nc (1+64*i) i (runE items nc m0 i)/\LOk nc (runE items nc m0 i)/\bnd (runE items nc m0 i)≤bnd m0+2*i
 |0,_=>⟨hm,hl,Nat.le_refl _⟩
 |i+1,hi=>by
  obtain ⟨a,b,c⟩:=run_ok hm hl h3 i (by omega);refine ⟨((a.item (by omega) _).1).mono (by omega) (Nat.le_refl _),b.item a _,?_⟩;have:=bnd_item a h3 (endsI items nc i);show bnd ((runE items nc m0 i).item (endsI items nc i)).2≤_;omega
theorem run_succ (hm:MOk nc 1 0 m0) (hl:LOk nc m0) (h3:nc≤3) {i:Nat} (hi:i≤680) (h80:80≤i):runE items nc m0 (i+1)=((runE items nc m0 i).step ((i%3%nc:Nat):Int)).2:=by
 obtain ⟨a,_,_⟩:=run_ok (items:=items) hm hl h3 i hi;have h1:=hm.n1;have hlt:=Nat.mod_lt (i%3) (show 0<nc by omega);show ((runE items nc m0 i).item (endsI items nc i)).2=_;unfold endsI;rw[if_neg (by omega),item_step a (by omega) (by omega)]
theorem round (hm:MOk nc 1 0 m0) (hl:LOk nc m0) (h3:nc≤3) {i:Nat} (hi:i+3≤680) (h80:80≤i) (hmod:i%3=0):Rest nc (runE items nc m0 i)∨pot (runE items nc m0 (i+3))+1≤pot (runE items nc m0 i):=by
 have h1:=hm.n1;have hlt:∀j,j%nc<nc:=fun j=>Nat.mod_lt j (show 0<nc by omega)
 obtain ⟨a0,b0,_⟩:=run_ok (items:=items) hm hl h3 i (by omega);obtain ⟨a1,b1,_⟩:=run_ok (items:=items) hm hl h3 (i+1) (by omega);obtain ⟨a2,b2,_⟩:=run_ok (items:=items) hm hl h3 (i+2) (by omega);have e0:=run_succ (items:=items) hm hl h3 (i:=i) (by omega) h80;have e1:=run_succ (items:=items) hm hl h3 (i:=i+1) (by omega) (by omega);have e2:=run_succ (items:=items) hm hl h3 (i:=i+2) (by omega) (by omega);rw[hmod] at e0;rw[show (i+1)%3=1 from by omega] at e1;rw[show (i+2)%3=2 from by omega] at e2;have q0:=hlt 0;have q1:=hlt 1;have q2:=hlt 2;have s0:=pot_step a0 h3 (n:=((0%nc:Nat):Int)) (by omega) (by omega);have s1:=pot_step a1 h3 (n:=((1%nc:Nat):Int)) (by omega) (by omega);have s2:=pot_step a2 h3 (n:=((2%nc:Nat):Int)) (by omega) (by omega);rw[←e0] at s0;rw[←e1] at s1;rw[←e2] at s2;have w0:pot (runE items nc m0 (i+1))≤pot (runE items nc m0 i):=s0.elim (fun s=>by rw[s.1];exact Nat.le_refl _) fun s=>by omega
 have w1:pot (runE items nc m0 (i+1+1))≤pot (runE items nc m0 (i+1)):=s1.elim (fun s=>by rw[s.1];exact Nat.le_refl _) fun s=>by omega
 have w2:pot (runE items nc m0 (i+2+1))≤pot (runE items nc m0 (i+2)):=s2.elim (fun s=>by rw[s.1];exact Nat.le_refl _) fun s=>by omega
 have z1:i+1+1=i+2:=rfl;have z2:i+2+1=i+3:=rfl;rw[z1] at w1 s1;rw[z2] at w2 s2;rcases s0 with ⟨t0,f0⟩|s0
 ·rcases s1 with ⟨t1,f1⟩|s1
  ·rcases s2 with ⟨t2,f2⟩|s2
   ·refine .inl (rest_of a0 b0 fun n n0 n1=>?_)
    rw[t1,t0] at f2;rw[t0] at f1;have hn:n=0∨n=1∨n=2:=by omega
    rcases hn with rfl|rfl|rfl
    ·rw[show ((0%nc:Nat):Int)=0 from by rw[Nat.zero_mod];rfl] at f0
     exact f0
    ·rw[show ((1%nc:Nat):Int)=1 from by rw[Nat.mod_eq_of_lt (by omega)];rfl] at f1
     exact f1
    ·rw[show ((2%nc:Nat):Int)=2 from by rw[Nat.mod_eq_of_lt (by omega)];rfl] at f2
     exact f2
   ·exact .inr (by omega)
  ·exact .inr (by omega)
 ·exact .inr (by omega)
theorem rest_run (hm:MOk nc 1 0 m0) (hl:LOk nc m0) (h3:nc≤3) {i:Nat} (h80:80≤i) (hr:Rest nc (runE items nc m0 i)):∀d,i+d≤680->Rest nc (runE items nc m0 (i+d))
 |0,_=>hr
 |d+1,hd=>by
  have ih:=rest_run hm hl h3 h80 hr d (by omega);obtain ⟨a,b,_⟩:=run_ok (items:=items) hm hl h3 (i+d) (by omega);have h1:=hm.n1;have hlt:=Nat.mod_lt ((i+d)%3) (show 0<nc by omega);rw[show i+(d+1)=i+d+1 from rfl,run_succ (items:=items) hm hl h3 (by omega) (by omega),rest_step a b ih (by omega) (by omega)];exact ih
theorem ends (hm:MOk nc 1 0 m0) (hl:LOk nc m0) (h3:nc≤3) (hb:bnd m0=0):Rest nc (runE items nc m0 680):=by
 have key:∀r,r≤199->Rest nc (runE items nc m0 (81+3*r))∨pot (runE items nc m0 (81+3*r))+r≤pot (runE items nc m0 81):=fun r=>by
  induction r with
  |zero=>exact fun _=> .inr (Nat.le_refl _)
  |succ r ih=>
   intro hr;rw[show 81+3*(r+1)=81+3*r+3 from by omega];rcases ih (by omega) with h|h
   ·exact .inl (rest_run hm hl h3 (by omega) h 3 (by omega))
   ·rcases round (items:=items) hm hl h3 (i:=81+3*r) (by omega) (by omega) (by omega) with h2|h2
    ·exact .inl (rest_run hm hl h3 (by omega) h2 3 (by omega))
    ·exact .inr (by omega)
 obtain ⟨a,_,c⟩:=run_ok (items:=items) hm hl h3 81 (by omega);have hp:=pot_le a h3;rcases key 199 (by omega) with h|h
 ·exact rest_run hm hl h3 (by omega) h 2 (by omega)
 ·omega
theorem bnd_new (k:Ker) (prog:List Call) (room:Int) (hk:pgN k.spaces=0):bnd (newM k nc prog room)=0:=by
 unfold bnd mails newM;dsimp only;rw[hk]
 have:∀n:Nat,((List.replicate n ([]:List Mail)).map List.length).sum=0:=fun n=>by
  induction n with
  |zero=>rfl
  |succ n ih=>rw[List.replicate_succ,List.map_cons,List.sum_cons,ih];rfl
 rw[this]
end
section
variable {nc N g:Nat} {m:Mch}
def LineB (l:List Int) (o:Option Seen) (l':List Int):Prop:=match o with
 |none=>l'=l
 |some s=>if s.kind=0 then l'=l++ [s.core] else if s.kind=2 then l=s.core::l' else l'=l
theorem LineB.same {l:List Int} {s:Seen} (h0:s.kind≠0) (h2:s.kind≠2):LineB l (some s) l:=by
 show if s.kind=0 then _ else if s.kind=2 then _ else _
 rw[if_neg h0,if_neg h2]
theorem LineB.user (n:Int) (x:Item):LineB m.line (m.user x).1 (m.user x).2.line:=by
 unfold Mch.user;split
 ·exact rfl
 split
 ·exact LineB.same (by show (3:Int)≠0;decide) (by show (3:Int)≠2;decide)
 split<;>exact rfl
theorem LineB.step {n:Int} (hm:MOk nc N g m) (h:LOk nc m) (c0:0≤n) (c2:n<(nc:Int)):LineB m.line (m.step n).1 (m.step n).2.line:=by
 have hcs:=hm.cs;unfold Mch.step;split
 ·exact rfl
 split
 ·rename_i e1
  have hn:n∉m.line:=by
   rcases h.ds n c0 c2 with ⟨_,h⟩|⟨h,_⟩
   ·exact h
   ·rw[e1] at h;omega
  show enterL m.line n=m.line++ [n]
  unfold enterL;rw[if_neg hn]
 split
 ·split
  ·show LineB m.line (some (m.did n).1) (m.did n).2.line
   rw[did_eq (show n.toNat<m.cs.length by omega)];exact LineB.same (by show (1:Int)≠0;decide) (by show (1:Int)≠2;decide)
  ·exact rfl
 split
 ·rename_i e3
  have hhd:=h.hd n c0 c2 e3.1;show m.line=n::leaveL m.line n;unfold leaveL;rw[if_pos hhd];cases hl:m.line with
  |nil=>rw[hl] at hhd;cases hhd
  |cons d ds=>rw[hl] at hhd;cases hhd;rfl
 ·exact rfl
theorem item_line (hm:MOk nc N g m) (h:LOk nc m) (x:Item):LineB m.line (m.item x).1 (m.item x).2.line:=by
 have hcs:=hm.cs;unfold Mch.item;split
 ·exact rfl
 rename_i hr;have hr:rightI x m.cs.length=true:=by cases e:rightI x m.cs.length with|true=>rfl|false=>exact absurd e hr
 obtain ⟨k0,k1,c0,c1,_,_⟩:=right_iff.1 hr;have c2:x.core<(nc:Int):=by omega
 split
 ·exact LineB.user 0 x
 split
 ·exact LineB.step hm h c0 c2
 split
 ·exact rfl
 split
 ·exact LineB.same (by show (4:Int)≠0;decide) (by show (4:Int)≠2;decide)
 ·exact LineB.same (by show (5:Int)≠0;decide) (by show (5:Int)≠2;decide)
theorem rest_free (h:LOk nc m) (hr:Rest nc m):m.line= []∨∃c∈m.line,¬(0≤c/\c<(nc:Int)):=by
 cases hl:m.line with
 |nil=>exact .inl rfl
 |cons d ds=>
  refine .inr ⟨d,List.mem_cons_self,fun hd=>?_⟩;rcases h.ds d hd.1 hd.2 with ⟨_,hn⟩|⟨h23,_⟩
  ·exact hn (by rw[hl];exact List.mem_cons_self)
  ·rw[hr d hd.1 hd.2] at h23;omega
theorem rest_owed (h:LOk nc m) (hr:Rest nc m) (c:Int):owedB m.bx c=0:=by
 have hz:∀l∈m.bx,l= []:=fun l hl=>by
  cases l with
  |nil=>rfl
  |cons y r=>
   obtain ⟨a,b⟩:=h.bx _ hl y List.mem_cons_self;rw[hr _ a.1 a.2] at b;cases b
 have hh:∀(b:List (List Mail)),(∀l∈b,l= [])->(b.map fun l=>(l.filter fun m=>decide (m.frm=c)).length).sum=0:=fun b hb=>by
  induction b with
  |nil=>rfl
  |cons r b ih=>
   rw[List.map_cons,List.sum_cons,ih fun l hl=>hb l (List.mem_cons_of_mem _ hl),hb r List.mem_cons_self];rfl
 unfold owedB;rw[hh m.bx hz];rfl
end
section
variable {B:Nat} {w0 w:World} {R L:List Asn} {b nc N g:Nat} {m:Mch}
theorem nums_eq {s t:Sl} {xs:List Int} {K:Bool->Pw} [I:SlIn s L Int intE xs] [J:SlIn t L Int intE xs] (h:Vc.Own B w0 w L) (hbig:xs.length≤1000000) (hK:∀w',Vc.Own B w0 w' L->K true w'):C.qdn s t K w:=by
 apply S.qdn0;have h1:s.len=xs.length:=h.lenc s;have h2:t.len=xs.length:=h.lenc t;refine cneF (by omega) ?_;intro l hl
 have loop:∀(d i:Nat) (w:World),i+d=xs.length->Vc.Own B w0 w L->l (i:Int) w:=by
  intro d
  induction d with
  |zero=>
   intro i w hi h;apply hl;refine cdecF (by omega) ?_;exact hK w h
  |succ d ih=>
   intro i w hi h;have hx:xs[i]?=some xs[i]:=gE (by omega);apply hl;refine cdecT (by omega) ?_;refine h.dr fun w h=>?_
   refine h.ixc (s:=s) rfl hx fun a ha hc0 hc=>⟨_,hc0 _ rfl,?_⟩
   refine h.ixc (s:=t) rfl hx fun a ha hc0 hc=>⟨_,hc0 _ rfl,?_⟩
   refine cneF rfl ?_;rw[show IntKind.i64.wrap ((i:Int)+1)=((i+1:Nat):Int) from by rw[wr (by omega) (by omega)];omega];exact ih (i+1) w (by omega) h
 exact loop xs.length 0 w (by omega) h
set_option maxHeartbeats 2000000 in
theorem law19_MachineEnds_spec {o1 o2 o3 o6:Int} {prios:List Int} {calls:List Call} {items:List Item} {s4 s5 s7:Sl} {K:Bool->Pw}
  (_:(Lit.int .i64 o1).wf=true) (_:(Lit.int .i64 o2).wf=true) (_:(Lit.int .i64 o3).wf=true) (hi4:Inp intE w0 s4 prios) (_:∀x∈prios,(Lit.int .i64 x).wf=true) (hi5:Inp callE w0 s5 calls) (hg5:∀c∈calls,callGood c) (_:(Lit.int .i64 o6).wf=true)
  (hi7:Inp itemE w0 s7 items) (_:∀x∈items,itemGood x)
  (h:Vc.Own w0.heap.size w0 w []) (hK:∀w',Vc.Own w0.heap.size w0 w' []->K true w'):C.qce o1 o2 o3 s4 s5 o6 s7 K w:=by
 apply S.qce0;have hl7:=hi7.len;refine h.al fun w1 h=>?_
 generalize w.heap.size=ab at h⊢;refine h.lc_6 (x3:=s4) (x4:=s5) rfl ?_;refine R19_spec hi4 hi5 h fun n bi li ps room s' s5' w n1 n3 b6 b12 l3 hpn hps r1 r8 h=>?_
 refine h.al fun w3 h=>?_
 generalize w.heap.size=pb at h⊢;refine h.stLc rfl rfl fun w h=>?_
 (try dsimp only[putAt,List.set_cons_zero,List.set_cons_succ] at h)
 refine h.lc_4 (x3:=s') rfl ?_;refine ⟨s5',h.ldd rfl,_,h.ldd rfl,?_⟩;have hct:(calls.take 40).length≤40:=by rw[List.length_take];omega
 have hpr:=prOk_of hg5;refine New_spec (prios:=ps) (prog:=calls.take 40) (s:=s') (s5:=s5') n1 (by omega) (by omega) (by omega) hpn hps r1 r8 (by omega) h fun mb w h=>?_
 have k0:MOk n 1 0 (newM (Ker.bootK n bi li ps) n (calls.take 40) room):=newM_ok n1 (by omega) (by omega) (by omega) hpn hps r1 r8;have b0:bnd (newM (Ker.bootK n bi li ps) n (calls.take 40) room)=0:=bnd_new _ _ _ (Nat.le_zero.1 k0.pg);have q0:LOk n (newM (Ker.bootK n bi li ps) n (calls.take 40) room):=LOk.new _ _ _;have p0:(newM (Ker.bootK n bi li ps) n (calls.take 40) room).prog=calls.take 40:=rfl;have e0:(newM (Ker.bootK n bi li ps) n (calls.take 40) room).line= []:=rfl;generalize newM (Ker.bootK n bi li ps) n (calls.take 40) room=m0 at h k0 b0 q0 p0 e0;have hrest:=ends (items:=items) k0 q0 n3 b0;have hrun:=run_ok (items:=items) k0 q0 n3
 have hprog:∀i,(runE items n m0 i).prog=calls.take 40:=fun i=>by
  induction i with
  |zero=>exact p0
  |succ i ih=>show ((runE items n m0 i).item _).2.prog=_;rw[item_prog];exact ih
 intro k33 hk33;refine cbF rfl ?_;apply hk33;refine cneF rfl ?_;refine h.al fun w4 h=>?_
 generalize w.heap.size=ib at h⊢;have h:Vc.Own w0.heap.size w0 w4 (SlT intE ⟨some ⟨ib,0,none⟩,0,0⟩ []::_):=Vc.Own.empty h;refine h.al fun w5 h=>?_
 generalize w4.heap.size=ob at h⊢;have h:Vc.Own w0.heap.size w0 w5 (SlT intE ⟨some ⟨ob,0,none⟩,0,0⟩ []::SlT intE ⟨some ⟨ib,0,none⟩,0,0⟩ []::_):=Vc.Own.empty h;intro l38 hl38
 have loop:∀(d i:Nat) (sin sout:Sl) (outs:List Int) (w:World),i+d=680->outs.length+(runE items n m0 i).line.length≤i->
   Vc.Own w0.heap.size w0 w [SlT intE sin (outs++(runE items n m0 i).line),SlT intE sout outs,MchA mb (runE items n m0 i),BlkA pb [.z (n:Int), .z (bi:Int), .z (li:Int), .slice s'.a s'.len s'.cap, .slice s5'.a s5'.len s5'.cap, .z room]]->l38 sin sout (i:Int) w:=by
  intro d
  induction d with
  |zero=>
   intro i sin sout outs w hid hlen h;have ei:i=680:=by omega
   subst ei;obtain ⟨hm,hq,_⟩:=hrun 680 (by omega)
   have hline:(runE items n m0 680).line= []:=by
    rcases rest_free hq hrest with e|⟨c,hc,hn⟩
    ·exact e
    ·exact absurd (hm.lr c hc) hn
   apply hl38;refine cdecF (by decide) ?_;intro l94 hl94
   have inner:∀(d j:Nat) (w:World),j+d=n->Vc.Own w0.heap.size w0 w [SlT intE sin (outs++(runE items n m0 680).line),SlT intE sout outs,MchA mb (runE items n m0 680),BlkA pb [.z (n:Int), .z (bi:Int), .z (li:Int), .slice s'.a s'.len s'.cap, .slice s5'.a s5'.len s5'.cap, .z room]]->l94 (j:Int) w:=by
    intro d
    induction d with
    |zero=>
     intro j w hj h;apply hl94;refine ⟨_,h.ldc rfl,?_⟩;refine cdecF (by omega) ?_;rw[hline,List.append_nil] at h;refine nums_eq (s:=sin) (t:=sout) (xs:=outs) h (by omega) fun w h=>?_
     refine cbT rfl ?_;refine Line_spec hm (h.pick (A:=MchA mb (runE items n m0 680))) fun sl w h=>?_
     have hsl:=h.lenc sl;rw[hline] at hsl;refine ceqT (by rw[hsl];rfl) ?_;exact fixed19_spec (h.sub:Vc.Own w0.heap.size w0 w []) hK
    |succ d ih=>
     intro j w hj h;apply hl94;refine ⟨_,h.ldc rfl,?_⟩;refine cdecT (by omega) ?_;have hjn:(0:Int)≤(j:Int)/\(j:Int)<(n:Int):=by omega
     refine Core_spec (n:=(j:Int)) hm (h.pick (A:=MchA mb (runE items n m0 680))) ?_;rw[if_pos hjn,decide_eq_true hjn,hrest (j:Int) hjn.1 hjn.2];intro k101 hk101;refine cbF rfl (cneF rfl ?_);refine Owed_spec (n:=(j:Int)) hm (h.pick (A:=MchA mb (runE items n m0 680))) fun w h=>?_
     rw[rest_owed hq hrest];apply hk101;refine cneF rfl ?_;rw[show IntKind.i64.wrap ((j:Int)+1)=((j+1:Nat):Int) from by rw[wr (by omega) (by omega)];omega];exact ih (j+1) w (by omega) h.sub
   exact inner n 0 w (by omega) h
  |succ d ih=>
   intro i sin sout outs w hid hlen h;obtain ⟨hm,hq,_⟩:=hrun i (by omega);have hprm:PrOk (runE items n m0 i).prog:=by rw[hprog];exact hpr
   have hil:=item_line hm hq (endsI items n i);have hsucc:((runE items n m0 i).item (endsI items n i)).2=runE items n m0 (i+1):=rfl;rw[hsucc] at hil;have ew:IntKind.i64.wrap ((i:Int)+1)=((i+1:Nat):Int):=by rw[wr (by omega) (by omega)];omega
   apply hl38;refine cdecT (by omega) ?_;refine ⟨by decide,_,h.ldc rfl,by omega,?_⟩;refine h.al fun w2 h=>?_
   generalize w.heap.size=xb at h⊢;refine h.stLc rfl rfl fun w h=>?_
   (try dsimp only[putAt,List.set_cons_zero,List.set_cons_succ] at h)
   rw[show ((i:Int).tmod 3).tmod (n:Int)=((i%3%n:Nat):Int) from by
    rw[show (i:Int).tmod 3=((i%3:Nat):Int) from (Int.ofNat_tmod i 3).symm];exact (Int.ofNat_tmod (i%3) n).symm] at h
   intro k46 hk46
   have J:∀q:Bool,(q=true↔i<80/\i<items.length)->k46 q w:=fun q hq2=>by
    apply hk46;intro k49 hk49
    have go:∀w,Vc.Own w0.heap.size w0 w [BlkA xb [.z (endsI items n i).kind, .z (endsI items n i).core, .z (endsI items n i).a, .z (endsI items n i).b],SlT intE sin (outs++(runE items n m0 i).line),SlT intE sout outs,MchA mb (runE items n m0 i),BlkA pb [.z (n:Int), .z (bi:Int), .z (li:Int), .slice s'.a s'.len s'.cap, .slice s5'.a s5'.len s5'.cap, .z room]]->k49 w:=fun w h=>by
     apply hk49;refine h.lc_4 rfl ?_;refine Step_spec (it:=endsI items n i) hm (by omega) (by omega) hprm (h.pick (A:=MchA mb (runE items n m0 i))) fun fs w h=>?_
     rw[hsucc] at h;generalize ((runE items n m0 i).item (endsI items n i)).1=r at h hil⊢;refine h.al fun w2 h=>?_
     generalize w.heap.size=sb at h⊢;refine h.stLc rfl rfl fun w h=>?_
     (try dsimp only[putAt,List.set_cons_zero,List.set_cons_succ] at h)
     intro k69 hk69;cases r with
     |none=>
      have hil:_=_:=hil;refine cbF rfl ?_;apply hk69;intro k72 hk72;refine cbF rfl ?_;apply hk72;intro k75 hk75;refine cbF rfl ?_;apply hk75;refine cbF rfl ?_;rw[ew];refine ih (i+1) sin sout outs w (by omega) (by rw[hil];omega) ?_;rw[hil];exact h.sub
     |some s=>
      have hil:if s.kind=0 then _ else if s.kind=2 then _ else _:=hil
      refine cbT rfl ⟨_,h.ldc rfl,?_⟩;by_cases e1:s.kind=0
      ·rw[if_pos e1] at hil
       rw[show (((some s).getD noSeen).kind==0)=true from beq_iff_eq.2 e1];apply hk69;intro k72 hk72;refine cbT rfl ⟨_,h.ldd rfl,?_⟩;refine h.al fun w3 h=>?_
       generalize w.heap.size=cb at h⊢;refine app1_int (s:=sin) (y:=s.core) h (by rw[List.length_append];omega) fun s' w hs' h=>?_
       apply hk72;intro k75 hk75;refine cbT rfl ⟨_,h.ldc rfl,?_⟩;rw[show (((some s).getD noSeen).kind==2)=false from beq_eq_false_iff_ne.2 (by show s.kind≠2;omega)];apply hk75;refine cbF rfl ?_;rw[ew];refine ih (i+1) s' sout outs w (by omega) (by rw[hil,List.length_append];simp only[List.length_cons,List.length_nil];omega) ?_;rw[hil,←List.append_assoc];exact h.sub
      rw[if_neg e1] at hil;rw[show (((some s).getD noSeen).kind==0)=false from beq_eq_false_iff_ne.2 e1];apply hk69;intro k72 hk72;refine cbF rfl ?_;apply hk72;intro k75 hk75;refine cbT rfl ⟨_,h.ldc rfl,?_⟩;by_cases e2:s.kind=2
      ·rw[if_pos e2] at hil
       rw[show (((some s).getD noSeen).kind==2)=true from beq_iff_eq.2 e2];apply hk75;refine cbT rfl ⟨_,h.ldd rfl,?_⟩;refine h.al fun w3 h=>?_
       generalize w.heap.size=cb at h⊢;refine app1_int (s:=sout) (y:=s.core) h (by omega) fun s' w hs' h=>?_
       rw[ew];rw[hil] at hlen h;simp only[List.length_cons] at hlen;refine ih (i+1) sin s' (outs++ [s.core]) w (by omega) (by rw[List.length_append];simp only[List.length_cons,List.length_nil];omega) ?_;rw[List.append_assoc,List.singleton_append];exact h.sub
      ·rw[if_neg e2] at hil
       rw[show (((some s).getD noSeen).kind==2)=false from beq_eq_false_iff_ne.2 e2];apply hk75;refine cbF rfl ?_;rw[ew];refine ih (i+1) sin sout outs w (by omega) (by rw[hil];omega) ?_;rw[hil];exact h.sub
    cases q with
    |false=>
     refine cbF rfl (go w ?_);rw[show endsI items n i=⟨0,((i%3%n:Nat):Int),0,0⟩ by unfold endsI;rw[if_neg fun e=>Bool.noConfusion (hq2.2 e)]];exact h
    |true=>
     obtain ⟨i80,hlt⟩:=hq2.1 rfl;have hxx:items[i]?=some (endsI items n i):=by unfold endsI;rw[if_pos ⟨i80,hlt⟩,gE hlt];rfl
     refine cbT rfl ?_;rw[show (i:Int).toNat=i from Int.toNat_natCast i];obtain ⟨a,ha,hc⟩:=hi7.get h hxx;refine ⟨a,ha,by omega,by omega,?_⟩;refine ldItem hc ?_;refine h.stLc rfl rfl fun w h=>?_
     (try dsimp only[putAt,List.set_cons_zero,List.set_cons_succ] at h)
     exact go w h
   refine cdec (fun e80=>J _ ?_) (fun e80=>J _ ?_)
   ·rw[decide_eq_true_iff];omega
   ·exact ⟨fun e=>Bool.noConfusion e,fun e=>by omega⟩
 have hs:Vc.Own w0.heap.size w0 w5 [SlT intE ⟨some ⟨ib,0,none⟩,0,0⟩ ([]++(runE items n m0 0).line),SlT intE ⟨some ⟨ob,0,none⟩,0,0⟩ [],MchA mb (runE items n m0 0),BlkA pb [.z (n:Int), .z (bi:Int), .z (li:Int), .slice s'.a s'.len s'.cap, .slice s5'.a s5'.len s5'.cap, .z room]]:=by
  rw[show (runE items n m0 0).line= [] from e0];show Vc.Own w0.heap.size w0 w5 [SlT intE ⟨some ⟨ib,0,none⟩,0,0⟩ [],SlT intE ⟨some ⟨ob,0,none⟩,0,0⟩ [],MchA mb m0,BlkA pb [.z (n:Int), .z (bi:Int), .z (li:Int), .slice s'.a s'.len s'.cap, .slice s5'.a s5'.len s5'.cap, .z room]];exact h.sub
 exact loop 680 0 _ _ [] w5 rfl (by rw[show (runE items n m0 0).line= [] from e0];exact Nat.le_refl _) hs
end
end Go.Proofs.YtghikphgplamkaaGreat.Mc
end
section
namespace Go.Proofs.YtghikphgplamkaaGreat
open Go Go.Vc Go.ChangeShapes Go.WideShapes
theorem Mc.callDec:∀cs,Fits [.int .i64, .int .i64, .int .i64, .int .i64, .int .i64, .int .i64] cs->∃x,cs=Mc.callE.enc x/\Mc.callGood x:=fun cs h0=>by
 obtain ⟨_,_,rfl,⟨a,rfl,_⟩,h1⟩:=h0.cons_out;obtain ⟨_,_,rfl,⟨b,rfl,_⟩,h2⟩:=h1.cons_out;obtain ⟨_,_,rfl,⟨c,rfl,hc⟩,h3⟩:=h2.cons_out;obtain ⟨_,_,rfl,⟨d,rfl,_⟩,h4⟩:=h3.cons_out;obtain ⟨_,_,rfl,⟨e,rfl,_⟩,h5⟩:=h4.cons_out;obtain ⟨_,_,rfl,⟨f,rfl,_⟩,h6⟩:=h5.cons_out;obtain rfl:=h6.nil_out;exact ⟨⟨a,b,c,d,e,f⟩,rfl,hc⟩
theorem Mc.itemDec:∀cs,Fits [.int .i64, .int .i64, .int .i64, .int .i64] cs->∃x,cs=Mc.itemE.enc x/\Mc.itemGood x:=fun cs h0=>by
 obtain ⟨_,_,rfl,⟨a,rfl,_⟩,h1⟩:=h0.cons_out;obtain ⟨_,_,rfl,⟨b,rfl,_⟩,h2⟩:=h1.cons_out;obtain ⟨_,_,rfl,⟨c,rfl,_⟩,h3⟩:=h2.cons_out;obtain ⟨_,_,rfl,⟨d,rfl,_⟩,h4⟩:=h3.cons_out;obtain rfl:=h4.nil_out;exact ⟨⟨a,b,c,d⟩,rfl,trivial⟩
section
variable {H:Type} {enc:TypeId × Value->H} {P:Program} {held:Bool}
theorem aggP_of {t e e1:TypeId} {f0 f1 f2 g0 g1 g2 g3:Field} {W:World} {sp:Nat->Bool} {v:Value} {dd:DataW H} {ps:List MemPlace} {r:Reach} {b0:Nat} (ht:P.underlying t=some (.struct #[f0,f1,f2])) (hb:P.underlying f0.type=some (.struct #[g0,g1,g2,g3]))
  (h0:P.underlying g0.type=some (.int .i64)) (h1:P.underlying g1.type=some (.int .i64)) (h2:P.underlying g2.type=some (.int .i64)) (h3:P.underlying g3.type=some (.slice e)) (h4:P.underlying f1.type=some (.slice e1)) (h5:P.underlying f2.type=some (.int .i64))
  (ho:(f0.offset,f1.offset,f2.offset,g0.offset,g1.offset,g2.offset,g3.offset)=(0,4,5,0,1,2,3)) (hcc:(P.cellsOf f0.type,P.cellsOf f1.type,P.cellsOf f2.type,P.cellsOf g0.type,P.cellsOf g1.type,P.cellsOf g2.type,P.cellsOf g3.type)=(4,1,1,1,1,1,1)) (hc:P.cellsOf t=6)
  (hval:Value.okWide P W r b0 t v) (h:DataW.Trod enc P W 0 sp held t v dd ps):
  ∃(x0 x1 x2 x5:Int) (s s':Sl) (d d':DataW H) (p p':List MemPlace),v= .agg #[.z x0, .z x1, .z x2, .slice s.a s.len s.cap, .slice s'.a s'.len s'.cap, .z x5]/\(Lit.int .i64 x0).wf=true/\(Lit.int .i64 x1).wf=true/\(Lit.int .i64 x2).wf=true/\(Lit.int .i64 x5).wf=true/\
   DataW.Trod enc P W 0 sp held g3.type (.slice s.a s.len s.cap) d p/\DataW.Trod enc P W 0 sp held f1.type (.slice s'.a s'.len s'.cap) d' p':=by
 simp only[Prod.mk.injEq] at ho hcc;obtain ⟨o0,o1,o2,q0,q1,q2,q3⟩:=ho;obtain ⟨c0,c1,c2,r0,r1,r2,r3⟩:=hcc;obtain ⟨cs,rfl,hsz⟩:=okWide_struct ht hval
 obtain ⟨x0,x1,x2,x3,x4,x5,rfl⟩:∃x0 x1 x2 x3 x4 x5,cs= #[x0,x1,x2,x3,x4,x5]:=by
  obtain ⟨l⟩:=cs
  match l,(hsz.trans hc) with
  | [c0,c1,c2,c3,c4,c5],_=>exact ⟨c0,c1,c2,c3,c4,c5,rfl⟩
 obtain ⟨fuel,hf⟩:=h;obtain ⟨xs,n,_,_,hl,hlen,hfs⟩:=DataW.trod_struct ht hf
 match xs,hlen with
 | [y0,y1,y2],_=>
  have k0:=hfs 0 f0 rfl;have k1:=hfs 1 f1 rfl;have k2:=hfs 2 f2 rfl;simp only[o0,o1,o2,c0,c1,c2,Value.cells] at k0 k1 k2;simp at k0 k1 k2;obtain ⟨zs,n',_,_,_,hlen',hgs⟩:=DataW.trod_struct hb k0
  match zs,hlen' with
  | [z0,z1,z2,z3],_=>
   have j0:=hgs 0 g0 rfl;have j1:=hgs 1 g1 rfl;have j2:=hgs 2 g2 rfl;have j3:=hgs 3 g3 rfl;simp only[q0,q1,q2,q3,r0,r1,r2,r3] at j0 j1 j2 j3;simp at j0 j1 j2 j3;obtain ⟨n0,e0,_,w0⟩:=DataW.trod_int h0 j0;obtain ⟨n1,e1,_,w1⟩:=DataW.trod_int h1 j1;obtain ⟨n2,e2,_,w2⟩:=DataW.trod_int h2 j2;obtain ⟨a3,l3,k3,e3⟩:=Go.Joins.slice_form h3 j3;obtain ⟨a4,l4,k4,e4⟩:=Go.Joins.slice_form h4 k1;obtain ⟨n5,e5,_,w5⟩:=DataW.trod_int h5 k2;simp only[List.cons.injEq,and_true] at e0 e1 e2 e3 e4 e5;subst e0;subst e1;subst e2;subst e3;subst e4;subst e5;exact ⟨n0,n1,n2,n5,⟨a3,l3,k3⟩,⟨a4,l4,k4⟩,z3.1,y1.1,z3.2,y1.2,rfl,w0,w1,w2,w5,⟨n',by simpa [Value.cells] using j3⟩,⟨n,by simpa [Value.cells] using k1⟩⟩
end
end Go.Proofs.YtghikphgplamkaaGreat
end
