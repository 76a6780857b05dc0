/- What the row rests on: the law, at the model and walked. -/
import Derived.Test.YtghikphgplamkaaGreatZu10
set_option linter.unusedVariables false
set_option linter.unusedSimpArgs false
set_option linter.unusedSectionVars false
section
namespace Go.Proofs.YtghikphgplamkaaGreat
open Go Go.Vc Go.ChangeShapes Go.WideShapes
theorem intDec18:∀cs,Fits [.int .i64] cs->∃x,cs=intE.enc x/\(Lit.int .i64 x).wf=true:=fun cs h=>by
 obtain ⟨_,_,rfl,⟨a,rfl,ha⟩,h1⟩:=h.cons_out;obtain rfl:=h1.nil_out;exact ⟨a,rfl,ha⟩
end Go.Proofs.YtghikphgplamkaaGreat
end
section
set_option maxRecDepth 8000
namespace Go.Proofs.YtghikphgplamkaaGreat.Mc
open Go Go.Vc Go.Proofs
def itemE:EncT Item:=⟨4,fun o=>[.z o.kind, .z o.core, .z o.a, .z o.b],fun _=>rfl,fun x v h=>by
 simp only[List.mem_cons,List.not_mem_nil,or_false] at h;rcases h with rfl|rfl|rfl|rfl<;>rfl,by decide⟩
theorem ldItem {w:World} {a:Addr} {x:Item} {f:Int->Int->Int->Int->Prop} (g:∀c v,(itemE.enc x)[c]?=some v->w.cell? (a.add c)=some v) (hf:f x.kind x.core x.a x.b):
  LdL w a 0 [.o, .o, .o, .o] f:=⟨_,g 0 _ rfl,_,g 1 _ rfl,_,g 2 _ rfl,_,g 3 _ rfl,hf⟩
def callGood (c:Call):Prop:=(Lit.int .i64 c.with_).wf=true
def itemGood (_:Item):Prop:=True
theorem wf64 {x:Int} (h:(Lit.int .i64 x).wf=true): -9223372036854775808≤x/\x<9223372036854775808:=by
 have h1:(decide (IntKind.i64.min≤x)&&decide (x≤IntKind.i64.max))=true:=h;rw[show IntKind.i64.min= -9223372036854775808 from rfl,show IntKind.i64.max=9223372036854775807 from rfl] at h1;simp only[Bool.and_eq_true,decide_eq_true_eq] at h1;omega
theorem prOk_of {calls:List Call} (h:∀c∈calls,callGood c):PrOk (calls.take 40):=fun c hc=>wf64 (h c (List.mem_of_mem_take hc))
section
variable {nc N g:Nat} {m:Mch}
theorem step_prog (n:Int):(m.step n).2.prog=m.prog:=by
 unfold Mch.step;split
 ·rfl
 split
 ·rfl
 split
 ·split
  ·show (Mch.tells n _ _).prog=m.prog
   have:∀(l:List Lne) (m:Mch),(Mch.tells n l m).prog=m.prog:=fun l=>by
    induction l with
    |nil=>exact fun _=>rfl
    |cons x l ih=>exact fun m=>ih _
   exact this _ _
  ·rfl
 split
 ·rfl
 ·rfl
theorem user_prog (x:Item):(m.user x).2.prog=m.prog:=by
 unfold Mch.user;split
 ·rfl
 split
 ·rfl
 split<;>rfl
theorem item_prog (x:Item):(m.item x).2.prog=m.prog:=by
 unfold Mch.item;split
 ·rfl
 split
 ·exact user_prog x
 split
 ·exact step_prog _
 split
 ·rfl
 split<;>rfl
theorem step_room (n:Int):(m.step n).2.room=m.room:=by
 unfold Mch.step;split
 ·rfl
 split
 ·rfl
 split
 ·split
  ·show (Mch.tells n _ _).room=m.room
   have:∀(l:List Lne) (m:Mch),(Mch.tells n l m).room=m.room:=fun l=>by
    induction l with
    |nil=>exact fun _=>rfl
    |cons x l ih=>exact fun m=>ih _
   exact this _ _
  ·rfl
 split
 ·rfl
 ·rfl
theorem user_room (x:Item):(m.user x).2.room=m.room:=by
 unfold Mch.user;split
 ·rfl
 split
 ·rfl
 split<;>rfl
theorem item_room (x:Item):(m.item x).2.room=m.room:=by
 unfold Mch.item;split
 ·rfl
 split
 ·exact user_room x
 split
 ·exact step_room _
 split
 ·rfl
 split<;>rfl
end
end Go.Proofs.YtghikphgplamkaaGreat.Mc
end
section
namespace Go.Proofs.YtghikphgplamkaaGreat
open Go Go.Vc Go.ChangeShapes Go.WideShapes
theorem Mc.callDec:∀cs,Fits [.int .i64, .int .i64, .int .i64, .int .i64, .int .i64, .int .i64] cs->∃x,cs=Mc.callE.enc x/\Mc.callGood x:=fun cs h0=>by
 obtain ⟨_,_,rfl,⟨a,rfl,_⟩,h1⟩:=h0.cons_out;obtain ⟨_,_,rfl,⟨b,rfl,_⟩,h2⟩:=h1.cons_out;obtain ⟨_,_,rfl,⟨c,rfl,hc⟩,h3⟩:=h2.cons_out;obtain ⟨_,_,rfl,⟨d,rfl,_⟩,h4⟩:=h3.cons_out;obtain ⟨_,_,rfl,⟨e,rfl,_⟩,h5⟩:=h4.cons_out;obtain ⟨_,_,rfl,⟨f,rfl,_⟩,h6⟩:=h5.cons_out;obtain rfl:=h6.nil_out;exact ⟨⟨a,b,c,d,e,f⟩,rfl,hc⟩
theorem Mc.itemDec:∀cs,Fits [.int .i64, .int .i64, .int .i64, .int .i64] cs->∃x,cs=Mc.itemE.enc x/\Mc.itemGood x:=fun cs h0=>by
 obtain ⟨_,_,rfl,⟨a,rfl,_⟩,h1⟩:=h0.cons_out;obtain ⟨_,_,rfl,⟨b,rfl,_⟩,h2⟩:=h1.cons_out;obtain ⟨_,_,rfl,⟨c,rfl,_⟩,h3⟩:=h2.cons_out;obtain ⟨_,_,rfl,⟨d,rfl,_⟩,h4⟩:=h3.cons_out;obtain rfl:=h4.nil_out;exact ⟨⟨a,b,c,d⟩,rfl,trivial⟩
section
variable {H:Type} {enc:TypeId × Value->H} {P:Program} {held:Bool}
theorem aggP_of {t e e1:TypeId} {f0 f1 f2 g0 g1 g2 g3:Field} {W:World} {sp:Nat->Bool} {v:Value} {dd:DataW H} {ps:List MemPlace} {r:Reach} {b0:Nat} (ht:P.underlying t=some (.struct #[f0,f1,f2])) (hb:P.underlying f0.type=some (.struct #[g0,g1,g2,g3]))
  (h0:P.underlying g0.type=some (.int .i64)) (h1:P.underlying g1.type=some (.int .i64)) (h2:P.underlying g2.type=some (.int .i64)) (h3:P.underlying g3.type=some (.slice e)) (h4:P.underlying f1.type=some (.slice e1)) (h5:P.underlying f2.type=some (.int .i64))
  (ho:(f0.offset,f1.offset,f2.offset,g0.offset,g1.offset,g2.offset,g3.offset)=(0,4,5,0,1,2,3)) (hcc:(P.cellsOf f0.type,P.cellsOf f1.type,P.cellsOf f2.type,P.cellsOf g0.type,P.cellsOf g1.type,P.cellsOf g2.type,P.cellsOf g3.type)=(4,1,1,1,1,1,1)) (hc:P.cellsOf t=6)
  (hval:Value.okWide P W r b0 t v) (h:DataW.Trod enc P W 0 sp held t v dd ps):
  ∃(x0 x1 x2 x5:Int) (s s':Sl) (d d':DataW H) (p p':List MemPlace),v= .agg #[.z x0, .z x1, .z x2, .slice s.a s.len s.cap, .slice s'.a s'.len s'.cap, .z x5]/\(Lit.int .i64 x0).wf=true/\(Lit.int .i64 x1).wf=true/\(Lit.int .i64 x2).wf=true/\(Lit.int .i64 x5).wf=true/\
   DataW.Trod enc P W 0 sp held g3.type (.slice s.a s.len s.cap) d p/\DataW.Trod enc P W 0 sp held f1.type (.slice s'.a s'.len s'.cap) d' p':=by
 simp only[Prod.mk.injEq] at ho hcc;obtain ⟨o0,o1,o2,q0,q1,q2,q3⟩:=ho;obtain ⟨c0,c1,c2,r0,r1,r2,r3⟩:=hcc;obtain ⟨cs,rfl,hsz⟩:=okWide_struct ht hval
 obtain ⟨x0,x1,x2,x3,x4,x5,rfl⟩:∃x0 x1 x2 x3 x4 x5,cs= #[x0,x1,x2,x3,x4,x5]:=by
  obtain ⟨l⟩:=cs
  match l,(hsz.trans hc) with
  | [c0,c1,c2,c3,c4,c5],_=>exact ⟨c0,c1,c2,c3,c4,c5,rfl⟩
 obtain ⟨fuel,hf⟩:=h;obtain ⟨xs,n,_,_,hl,hlen,hfs⟩:=DataW.trod_struct ht hf
 match xs,hlen with
 | [y0,y1,y2],_=>
  have k0:=hfs 0 f0 rfl;have k1:=hfs 1 f1 rfl;have k2:=hfs 2 f2 rfl;simp only[o0,o1,o2,c0,c1,c2,Value.cells] at k0 k1 k2;simp at k0 k1 k2;obtain ⟨zs,n',_,_,_,hlen',hgs⟩:=DataW.trod_struct hb k0
  match zs,hlen' with
  | [z0,z1,z2,z3],_=>
   have j0:=hgs 0 g0 rfl;have j1:=hgs 1 g1 rfl;have j2:=hgs 2 g2 rfl;have j3:=hgs 3 g3 rfl;simp only[q0,q1,q2,q3,r0,r1,r2,r3] at j0 j1 j2 j3;simp at j0 j1 j2 j3;obtain ⟨n0,e0,_,w0⟩:=DataW.trod_int h0 j0;obtain ⟨n1,e1,_,w1⟩:=DataW.trod_int h1 j1;obtain ⟨n2,e2,_,w2⟩:=DataW.trod_int h2 j2;obtain ⟨a3,l3,k3,e3⟩:=Go.Joins.slice_form h3 j3;obtain ⟨a4,l4,k4,e4⟩:=Go.Joins.slice_form h4 k1;obtain ⟨n5,e5,_,w5⟩:=DataW.trod_int h5 k2;simp only[List.cons.injEq,and_true] at e0 e1 e2 e3 e4 e5;subst e0;subst e1;subst e2;subst e3;subst e4;subst e5;exact ⟨n0,n1,n2,n5,⟨a3,l3,k3⟩,⟨a4,l4,k4⟩,z3.1,y1.1,z3.2,y1.2,rfl,w0,w1,w2,w5,⟨n',by simpa [Value.cells] using j3⟩,⟨n,by simpa [Value.cells] using k1⟩⟩
end
end Go.Proofs.YtghikphgplamkaaGreat
end
section
set_option maxRecDepth 8000
namespace Go.Proofs.YtghikphgplamkaaGreat.Mc
open Go Go.Vc Go.Proofs
section
variable {nc N g:Nat} {m:Mch}
theorem loadT_two (page:Int) (t:List Lne) (m':Mch) (hk:m'.k=m.k) (hr:m'.room=m.room):(m'.loadT page (m.loadT page t).2.2).1=(m.loadT page t).1/\(m'.loadT page (m.loadT page t).2.2).2.1=(m.loadT page t).2.1:=by
 have hw:m'.walk page=m.walk page:=by unfold Mch.walk;rw[hk]
 unfold Mch.loadT;cases h1:look 0 page t with
 |some p=>dsimp only;rw[h1];exact ⟨rfl,rfl⟩
 |none=>
  cases h2:m.walk page with
  |some p=>
   dsimp only;rw[show look 0 page (fill m.room ⟨0,page,p.1,p.2⟩ t)=some (p.1,p.2) from look_fill (x:=⟨0,page,p.1,p.2⟩)];exact ⟨rfl,rfl⟩
  |none=>
   dsimp only;rw[h1,hw,h2];exact ⟨rfl,rfl⟩
theorem item_load {page:Int} {j:Int} (hm:MOk nc N g m) (hp:0≤page/\page≤255) (hj:0<j/\j≤255) (hd:(m.corAt 0).does=0):m.item ⟨1,0,page,j⟩=(some (m.load 0 page).1,(m.load 0 page).2):=by
 have h1:=hm.n1;have h2:=hm.cs;have hr:rightI ⟨1,0,page,j⟩ m.cs.length=true:=decide_eq_true (by dsimp only;omega);unfold Mch.item;rw[if_neg (by rw[hr];decide),if_pos rfl];unfold Mch.user;rw[if_neg (fun h=>h hd),if_pos hj.1]
theorem item_not {page:Int} {j:Int} (hd:(m.corAt 0).does≠0):m.item ⟨1,0,page,j⟩=(none,m):=by
 unfold Mch.item;split
 ·rfl
 rw[if_pos rfl];unfold Mch.user;rw[if_pos hd]
theorem pgEq {x y:Operand} (p q:Int × Int):EqB Tryz.prog .eql 38 x y (.agg #[.z p.1, .z p.2]) (.agg #[.z q.1, .z q.2]) (decide (p=q)):=by
 have h:eqX Tryz.prog 9 38 [.z p.1, .z p.2] [.z q.1, .z q.2]=some (p.1==q.1&&(p.2==q.2&&true)):=by kernel_rfl
 refine eqB_x (xs:=[.z p.1, .z p.2]) (ys:=[.z q.1, .z q.2]) (by kernel_rfl) (by kernel_rfl) (by kernel_rfl) ?_;rw[h];congr 1;rw[Bool.eq_iff_iff];simp only[Bool.and_true,Bool.and_eq_true,beq_iff_eq,decide_eq_true_eq];cases p;cases q;simp only[Prod.mk.injEq]
end
section
variable {B:Nat} {w0 w:World} {R L:List Asn} {b nc N g:Nat} {m:Mch}
set_option maxHeartbeats 2000000 in
theorem law19_MachineLoads_spec {o1 o2 o3 o6 page:Int} {prios:List Int} {calls:List Call} {items:List Item} {s4 s5 s7:Sl} {K:Bool->Pw}
  (_:(Lit.int .i64 o1).wf=true) (_:(Lit.int .i64 o2).wf=true) (_:(Lit.int .i64 o3).wf=true) (hi4:Inp intE w0 s4 prios) (_:∀x∈prios,(Lit.int .i64 x).wf=true) (hi5:Inp callE w0 s5 calls) (hg5:∀c∈calls,callGood c) (_:(Lit.int .i64 o6).wf=true)
  (hi7:Inp itemE w0 s7 items) (_:∀x∈items,itemGood x) (_:(Lit.int .i64 page).wf=true)
  (h:Vc.Own w0.heap.size w0 w []) (hK:∀w',Vc.Own w0.heap.size w0 w' []->K true w'):C.qbT o1 o2 o3 s4 s5 o6 s7 page K w:=by
 apply S.qbT0;obtain ⟨pg,hpg,epg⟩:=Sl.andle page 255 (by decide);have epg:andI .i64 page 255=(pg:Int):=epg;have hl7:=hi7.len;refine h.al fun w1 h=>?_
 generalize w.heap.size=ab at h⊢;refine h.lc_6 (x3:=s4) (x4:=s5) rfl ?_;refine R19_spec hi4 hi5 h fun n bi li ps room s' s5' w n1 n3 b6 b12 l3 hpn hps r1 r8 h=>?_
 refine h.al fun w3 h=>?_
 generalize w.heap.size=pb at h⊢;refine h.stLc rfl rfl fun w h=>?_
 (try dsimp only[putAt,List.set_cons_zero,List.set_cons_succ] at h)
 refine h.lc_4 (x3:=s') rfl ?_;refine ⟨s5',h.ldd rfl,_,h.ldd rfl, ?_⟩;have hct:(calls.take 40).length≤40:=by rw[List.length_take];omega
 have hpr:=prOk_of hg5;refine New_spec (prios:=ps) (prog:=calls.take 40) (s:=s') (s5:=s5') n1 (by omega) (by omega) (by omega) hpn hps r1 r8 (by omega) h fun mb w h=>?_
 have k0:MOk n 1 0 (newM (Ker.bootK n bi li ps) n (calls.take 40) room):=newM_ok n1 (by omega) (by omega) (by omega) hpn hps r1 r8;intro k34 hk34;refine cbF rfl ?_;apply hk34;refine cneF rfl ?_;intro l37 hl37
 have body:∀(i:Nat) (m:Mch) (w:World),i≤60->MOk n (1+64*i) i m->m.prog=calls.take 40/\m.room=room->
   Vc.Own w0.heap.size w0 w [MchA mb m,BlkA pb [.z (n:Int), .z (bi:Int), .z (li:Int), .slice s'.a s'.len s'.cap, .slice s5'.a s5'.len s5'.cap, .z room]]->
   (∀(m':Mch) (w':World),i<60->MOk n (1+64*(i+1)) (i+1) m'->m'.prog=calls.take 40/\m'.room=room->Vc.Own w0.heap.size w0 w' [MchA mb m',BlkA pb [.z (n:Int), .z (bi:Int), .z (li:Int), .slice s'.a s'.len s'.cap, .slice s5'.a s5'.len s5'.cap, .z room]]->l37 ((i+1:Nat):Int) w')->l37 (i:Int) w:=by
  intro i m w hi60 hm hmp h next
  have hcs:=hm.cs;have hprm:PrOk m.prog:=by rw[hmp.1];exact hpr
  apply hl37;intro k40 hk40
  have fin:k40 false w:=by
   apply hk40;refine cbF rfl ?_;refine Core_spec (n:=0) hm h ?_;have hin:(0:Int)≤0/\(0:Int)<(n:Int):=by omega
   rw[if_pos hin,decide_eq_true hin,epg];by_cases hd:(m.corAt 0).does=0
   ·have i1:=item_load (page:=(pg:Int)) (j:=1) hm (by omega) (by omega) hd
    have hm2:=(hm.item (by omega) ⟨1,0,(pg:Int),1⟩).1;have hmp2:=item_prog (m:=m) ⟨1,0,(pg:Int),1⟩;refine Step_spec (it:=⟨1,0,(pg:Int),1⟩) hm (by omega) (by omega) hprm h fun fs w h=>?_
    rw[i1] at h hm2 hmp2;rw[i1];have hlt:(0:Int).toNat<m.cs.length:=by rw[hcs];exact n1
    have hd2:((m.load 0 (pg:Int)).2.corAt 0).does=0:=by unfold Mch.load;rw[corAt_set hlt];exact hd
    have e2:((m.load 0 (pg:Int)).2.corAt 0).tl=(m.loadT (pg:Int) (m.corAt 0).tl).2.2:=by unfold Mch.load;rw[corAt_set hlt]
    have i2:=item_load (page:=(pg:Int)) (j:=2) hm2 (by omega) (by omega) hd2;have h:Vc.Own w0.heap.size w0 w (SlT lneE fs []::MchA mb (m.load 0 (pg:Int)).2::_):=h;refine h.al fun w2 h=>?_
    generalize w.heap.size=c1 at h⊢;refine h.stLc rfl rfl fun w h=>?_
    (try dsimp only[putAt,List.set_cons_zero,List.set_cons_succ] at h)
    refine Step_spec (it:=⟨1,0,(pg:Int),2⟩) hm2 (by omega) (by omega) (by rw[hmp2];exact hprm) (h.pick (A:=MchA mb (m.load 0 (pg:Int)).2)) fun fs2 w h=>?_
    rw[i2] at h⊢;refine h.al fun w2 h=>?_
    generalize w.heap.size=c2 at h⊢;refine h.stLc rfl rfl fun w h=>?_
    (try dsimp only[putAt,List.set_cons_zero,List.set_cons_succ] at h)
    obtain ⟨t1,t2⟩:=loadT_two (m:=m) (pg:Int) (m.corAt 0).tl (m.load 0 (pg:Int)).2 rfl rfl;refine cneF hd ?_;refine cbT rfl (cbT rfl (cbT rfl ?_));refine ⟨_,h.ldc rfl,ceqT rfl ?_⟩;refine ⟨_,h.ldd rfl,_,h.ldd rfl, ?_⟩
    refine cbT (by
     show ((m.loadT (pg:Int) (m.corAt 0).tl).2.1==((m.load 0 (pg:Int)).2.loadT (pg:Int) ((m.load 0 (pg:Int)).2.corAt 0).tl).2.1)=true;rw[e2,t2];simp) ?_
    refine LdL_add (h.lc_2 rfl ?_);refine LdL_add (h.lc_2 rfl ?_);refine ⟨_,pgEq (m.loadT (pg:Int) (m.corAt 0).tl).1 ((m.load 0 (pg:Int)).2.loadT (pg:Int) ((m.load 0 (pg:Int)).2.corAt 0).tl).1, ?_⟩;refine cbT (decide_eq_true (by rw[e2,t1])) ?_;refine ⟨_,h.ldd rfl,ceqT rfl ?_⟩;exact fixed19_spec (h.sub:Vc.Own w0.heap.size w0 w []) hK
   ·have i1:=item_not (m:=m) (page:=(pg:Int)) (j:=1) hd
    have i2:=item_not (m:=m) (page:=(pg:Int)) (j:=2) hd;refine Step_spec (it:=⟨1,0,(pg:Int),1⟩) hm (by omega) (by omega) hprm h fun fs w h=>?_
    rw[i1] at h⊢;refine h.al fun w2 h=>?_
    generalize w.heap.size=c1 at h⊢;refine h.stLc rfl rfl fun w h=>?_
    (try dsimp only[putAt,List.set_cons_zero,List.set_cons_succ] at h)
    refine Step_spec (it:=⟨1,0,(pg:Int),2⟩) hm (by omega) (by omega) hprm (h.pick (A:=MchA mb m)) fun fs2 w h=>?_
    rw[i2] at h⊢;refine h.al fun w2 h=>?_
    generalize w.heap.size=c2 at h⊢;refine h.stLc rfl rfl fun w h=>?_
    (try dsimp only[putAt,List.set_cons_zero,List.set_cons_succ] at h)
    refine cneT hd (cbT rfl (cbT rfl (cbT rfl ?_)));exact fixed19_spec (h.sub:Vc.Own w0.heap.size w0 w []) hK
  refine cdec (fun e=>?_) (fun e=>fin);by_cases e60:i<60
  ·rw[decide_eq_true (show (i:Int)<60 by omega)]
   apply hk40;refine cbT rfl ?_;have hlt:i<items.length:=by omega
   obtain ⟨x,hxx⟩:∃x,items[i]?=some x:=⟨_,gE hlt⟩
   rw[show (i:Int).toNat=i from Int.toNat_natCast i];obtain ⟨a,ha,hc⟩:=hi7.get h hxx;refine ⟨a,ha,by omega,e, ?_⟩;refine ldItem hc ?_;refine Step_spec (it:=x) hm (by omega) (by omega) hprm h fun fs w h=>?_
   have hm2:=(hm.item (by omega) x).1.mono (show 1+64*i+64≤1+64*(i+1) by omega) (Nat.le_refl (i+1));have hmp2:(m.item x).2.prog=calls.take 40/\(m.item x).2.room=room:=⟨by rw[item_prog];exact hmp.1,by rw[item_room];exact hmp.2⟩
   generalize (m.item x).2=m2 at hm2 hmp2 h;have h:Vc.Own w0.heap.size w0 w [MchA mb m2,BlkA pb [.z (n:Int), .z (bi:Int), .z (li:Int), .slice s'.a s'.len s'.cap, .slice s5'.a s5'.len s5'.cap, .z room]]:=h.drop;intro l60 hl60
   have inner:∀(d j:Nat) (w:World),j+d=n->Vc.Own w0.heap.size w0 w [MchA mb m2,BlkA pb [.z (n:Int), .z (bi:Int), .z (li:Int), .slice s'.a s'.len s'.cap, .slice s5'.a s5'.len s5'.cap, .z room]]->l60 (j:Int) w:=by
    intro d
    induction d with
    |zero=>
     intro j w hj h;apply hl60;refine ⟨_,h.ldc rfl, ?_⟩;refine cdecF (by omega) ?_;rw[show IntKind.i64.wrap ((i:Int)+1)=((i+1:Nat):Int) from by rw[wr (by omega) (by omega)];omega];exact next m2 w e60 hm2 hmp2 h
    |succ d ih=>
     intro j w hj h;apply hl60;refine ⟨_,h.ldc rfl, ?_⟩;refine cdecT (by omega) ?_;refine h.dr fun w h=>?_
     refine ⟨_,h.ldd rfl,Go.Vc.a2 ?_⟩;refine Lines_spec (n:=(j:Int)) hm2 h fun sl w h=>⟨h.ldd rfl, ?_⟩
     have hjn:(0:Int)≤(j:Int)/\(j:Int)<(n:Int):=by omega
     have htl:=hm2.tl _ (hm2.cor hjn.1 hjn.2).2;have hls:=h.lenc sl;rw[if_pos hjn] at hls;rw[hmp2.2] at htl;refine cdecF (by omega) ?_;rw[show IntKind.i64.wrap ((j:Int)+1)=((j+1:Nat):Int) from by rw[wr (by omega) (by omega)];omega];exact ih (j+1) w (by omega) h.drop
   exact inner n 0 w (by omega) h
  ·rw[decide_eq_false (show ¬(i:Int)<60 by omega)]
   exact fin
 have loop:∀(d i:Nat) (m:Mch) (w:World),i+d=60->MOk n (1+64*i) i m->m.prog=calls.take 40/\m.room=room->
   Vc.Own w0.heap.size w0 w [MchA mb m,BlkA pb [.z (n:Int), .z (bi:Int), .z (li:Int), .slice s'.a s'.len s'.cap, .slice s5'.a s5'.len s5'.cap, .z room]]->l37 (i:Int) w:=by
  intro d
  induction d with
  |zero=>exact fun i m w hid hm hmp h=>body i m w (by omega) hm hmp h fun m' w' hlt=>by omega
  |succ d ih=>exact fun i m w hid hm hmp h=>body i m w (by omega) hm hmp h fun m' w' hlt hm hmp h=>ih (i+1) m' w' (by omega) hm hmp h
 exact loop 60 0 _ w rfl k0 ⟨rfl,rfl⟩ h.sub
end
end Go.Proofs.YtghikphgplamkaaGreat.Mc
end
