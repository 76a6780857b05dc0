/- What the row rests on: the law, at the model and walked. -/
import Derived.Test.YtghikphgplamkaaGreatZu10
set_option linter.unusedVariables false
set_option linter.unusedSimpArgs false
set_option linter.unusedSectionVars false
section
namespace Go.Proofs.YtghikphgplamkaaGreat
open Go Go.Vc Go.ChangeShapes Go.WideShapes
theorem intDec18:∀cs,Fits [.int .i64] cs->∃x,cs=intE.enc x/\(Lit.int .i64 x).wf=true:=fun cs h=>by
 obtain ⟨_,_,rfl,⟨a,rfl,ha⟩,h1⟩:=h.cons_out;obtain rfl:=h1.nil_out;exact ⟨a,rfl,ha⟩
end Go.Proofs.YtghikphgplamkaaGreat
end
section
set_option maxRecDepth 8000
namespace Go.Proofs.YtghikphgplamkaaGreat
open Go Go.Vc Go.Proofs
theorem heldX (a b:Slot × Cap):eqX Tryz.prog 9 113 (Sl.heldE.enc a) (Sl.heldE.enc b)=some (decide (a=b)):=by
 have h:eqX Tryz.prog 9 113 (Sl.heldE.enc a) (Sl.heldE.enc b)=some ((a.1.1==b.1.1&&(a.1.2==b.1.2&&true))&&((a.2.kind==b.2.kind&&(a.2.obj==b.2.obj&&(a.2.rights==b.2.rights&&(a.2.badge==b.2.badge&&(a.2.guard==b.2.guard&&(a.2.bits==b.2.bits&&true))))))&&true)):=by kernel_rfl
 rw[h];congr 1;rw[Bool.eq_iff_iff];simp only[Bool.and_true,Bool.and_eq_true,beq_iff_eq,decide_eq_true_eq];obtain ⟨⟨a1,a2⟩,a3⟩:=a;obtain ⟨⟨b1,b2⟩,b3⟩:=b;cases a3;cases b3;simp only[Prod.mk.injEq,Sl.Cap.mk.injEq]
theorem heldNe {x y:Operand} (a b:Slot × Cap):EqB Tryz.prog .neq 113 x y (.agg ⟨Sl.heldE.enc a⟩) (.agg ⟨Sl.heldE.enc b⟩) (!decide (a=b)):=neB_x (by kernel_rfl) (by kernel_rfl) (by kernel_rfl) (heldX a b)
theorem eq_of_get {α:Type} {xs ys:List α} (hl:xs.length=ys.length) (h:∀i,i<xs.length->xs[i]?=ys[i]?):xs=ys:=List.ext_getElem? fun i=>by
 by_cases e:i<xs.length
 ·exact h i e
 ·rw[List.getElem?_eq_none (by omega),List.getElem?_eq_none (by omega)]
section
variable {B:Nat} {w0 w:World} {R L:List Asn}
theorem ref05_Same_spec {s t:Sl} {xs ys:List (Slot × Cap)} {K:Bool->Pw} (h:Vc.Own B w0 w L) (hr1:Rd Sl.heldE B w0 L s xs) (hr2:Rd Sl.heldE B w0 L t ys) (hs:xs.length≤1000000) (hK:∀w',Vc.Own B w0 w' L->K (decide (xs=ys)) w'):C.qdq s t K w:=by
 apply S.qdq0;have l1:=hr1.len;have l2:=hr2.len;by_cases e:xs.length=ys.length
 ·refine cbF (by simp;omega) ?_
  intro l3 hl3
  have loop:∀(j i:Nat) (w:World),i+j=xs.length->(∀k,k<i->xs[k]?=ys[k]?)->Vc.Own B w0 w L->l3 (i:Int) w:=by
   intro j
   induction j with
   |zero=>
    intro i w hi hb h;apply hl3;refine cdecF (by omega) ?_;have:xs=ys:=eq_of_get e fun k hk=>hb k (by omega)
    have hk:=hK w h
    rwa [decide_eq_true this] at hk
   |succ j ih=>
    intro i w hi hb h;apply hl3;refine cdecT (by omega) ?_;refine h.dr fun w h=>?_
    have hx:xs[i]?=some xs[i]:=gE (by omega);have hy:ys[i]?=some (ys[i]'(by omega)):=gE (by omega);refine hr1.ix h rfl hx fun a ha h0 hc=>⟨_,hc 0 _ rfl,_,hc 1 _ rfl,_,hc 2 _ rfl,_,hc 3 _ rfl,_,hc 4 _ rfl,_,hc 5 _ rfl,_,hc 6 _ rfl,_,hc 7 _ rfl, ?_⟩
    refine hr2.ix h rfl hy fun a ha h0 hc=>⟨_,hc 0 _ rfl,_,hc 1 _ rfl,_,hc 2 _ rfl,_,hc 3 _ rfl,_,hc 4 _ rfl,_,hc 5 _ rfl,_,hc 6 _ rfl,_,hc 7 _ rfl, ?_⟩
    refine ⟨_,heldNe xs[i] (ys[i]'(by omega)), ?_⟩;by_cases e2:xs[i]=ys[i]'(by omega)
    ·refine cbF (by simpa using e2) ?_
     rw[show IntKind.i64.wrap ((i:Int)+1)=((i+1:Nat):Int) from by rw[wr (by omega) (by omega)];omega];refine ih (i+1) w (by omega) (fun k hk=>?_) h;by_cases e3:k=i
     ·subst e3;rw[hx,hy,e2]
     ·exact hb k (by omega)
    ·refine cbT (by simpa using e2) ?_
     have:xs≠ys:=fun e3=>by
      have:xs[i]?=ys[i]?:=by rw[e3]
      rw[hx,hy] at this;exact e2 (by simpa using this)
     have hk:=hK w h
     rwa [decide_eq_false this] at hk
  exact loop xs.length 0 w (by omega) (fun k hk=>by omega) h
 ·refine cbT (by simp;omega) ?_
  have:xs≠ys:=fun e2=>e (by rw[e2])
  have hk:=hK w h
  rwa [decide_eq_false this] at hk
end
end Go.Proofs.YtghikphgplamkaaGreat
end
section
set_option maxRecDepth 8000
namespace Go.Proofs.YtghikphgplamkaaGreat.Mc
open Go Go.Vc Go.Proofs
def itemE:EncT Item:=⟨4,fun o=>[.z o.kind, .z o.core, .z o.a, .z o.b],fun _=>rfl,fun x v h=>by
 simp only[List.mem_cons,List.not_mem_nil,or_false] at h;rcases h with rfl|rfl|rfl|rfl<;>rfl,by decide⟩
theorem ldItem {w:World} {a:Addr} {x:Item} {f:Int->Int->Int->Int->Prop} (g:∀c v,(itemE.enc x)[c]?=some v->w.cell? (a.add c)=some v) (hf:f x.kind x.core x.a x.b):
  LdL w a 0 [.o, .o, .o, .o] f:=⟨_,g 0 _ rfl,_,g 1 _ rfl,_,g 2 _ rfl,_,g 3 _ rfl,hf⟩
def callGood (c:Call):Prop:=(Lit.int .i64 c.with_).wf=true
def itemGood (_:Item):Prop:=True
theorem wf64 {x:Int} (h:(Lit.int .i64 x).wf=true): -9223372036854775808≤x/\x<9223372036854775808:=by
 have h1:(decide (IntKind.i64.min≤x)&&decide (x≤IntKind.i64.max))=true:=h;rw[show IntKind.i64.min= -9223372036854775808 from rfl,show IntKind.i64.max=9223372036854775807 from rfl] at h1;simp only[Bool.and_eq_true,decide_eq_true_eq] at h1;omega
theorem prOk_of {calls:List Call} (h:∀c∈calls,callGood c):PrOk (calls.take 40):=fun c hc=>wf64 (h c (List.mem_of_mem_take hc))
section
variable {nc N g:Nat} {m:Mch}
theorem step_prog (n:Int):(m.step n).2.prog=m.prog:=by
 unfold Mch.step;split
 ·rfl
 split
 ·rfl
 split
 ·split
  ·show (Mch.tells n _ _).prog=m.prog
   have:∀(l:List Lne) (m:Mch),(Mch.tells n l m).prog=m.prog:=fun l=>by
    induction l with
    |nil=>exact fun _=>rfl
    |cons x l ih=>exact fun m=>ih _
   exact this _ _
  ·rfl
 split
 ·rfl
 ·rfl
theorem user_prog (x:Item):(m.user x).2.prog=m.prog:=by
 unfold Mch.user;split
 ·rfl
 split
 ·rfl
 split<;>rfl
theorem item_prog (x:Item):(m.item x).2.prog=m.prog:=by
 unfold Mch.item;split
 ·rfl
 split
 ·exact user_prog x
 split
 ·exact step_prog _
 split
 ·rfl
 split<;>rfl
theorem item_out {x:Item} (h:rightI x m.cs.length=false):m.item x=(none,m):=by unfold Mch.item;rw[if_pos h]
end
section
variable {B:Nat} {w0 w:World} {R L:List Asn} {b nc N g:Nat} {m:Mch}
theorem Step_out {it:Item} {K:Int->Int->Int->Int->Int->Int->Sl->Int->Int->Bool->Bool->Pw} (hm:MOk nc N g m) (hN:N+64≤100000) (hg:g≤900000) (hpr:PrOk m.prog) (e:rightI it m.cs.length=false) (h:Vc.Own B w0 w (MchA b m::R))
  (hK:∀fs w',Vc.Own B w0 w' (MchA b m::R)->K 0 0 0 0 0 0 fs 0 0 false false w'):C.qa (some ⟨b,0,none⟩) it.kind it.core it.a it.b K w:=by
 refine Step_spec hm hN hg hpr h fun fs w h=>?_
 rw[item_out e] at h⊢;exact hK fs w h.drop
set_option maxHeartbeats 1000000 in
theorem law19_MachineIdle_spec {o1 o2 o3 o6 x1 x2 x3 x4:Int} {prios:List Int} {calls:List Call} {items:List Item} {s4 s5 s7:Sl} {K:Bool->Pw}
  (_:(Lit.int .i64 o1).wf=true) (_:(Lit.int .i64 o2).wf=true) (_:(Lit.int .i64 o3).wf=true) (hi4:Inp intE w0 s4 prios) (_:∀x∈prios,(Lit.int .i64 x).wf=true) (hi5:Inp callE w0 s5 calls) (hg5:∀c∈calls,callGood c) (_:(Lit.int .i64 o6).wf=true)
  (hi7:Inp itemE w0 s7 items) (_:∀x∈items,itemGood x) (_:(Lit.int .i64 x1).wf=true) (_:(Lit.int .i64 x2).wf=true) (_:(Lit.int .i64 x3).wf=true) (_:(Lit.int .i64 x4).wf=true)
  (h:Vc.Own w0.heap.size w0 w []) (hK:∀w',Vc.Own w0.heap.size w0 w' []->K true w'):C.qch o1 o2 o3 s4 s5 o6 s7 x1 x2 x3 x4 K w:=by
 apply S.qch0;obtain ⟨p2,hp2,ep2⟩:=Sl.andle x2 7 (by decide);have ep2:andI .i64 x2 7=(p2:Int):=ep2;obtain ⟨p1,hp1,ep1⟩:=Sl.andle x1 7 (by decide);have ep1:andI .i64 x1 7=(p1:Int):=ep1;obtain ⟨p3,hp3,ep3⟩:=Sl.andle x3 65535 (by decide);have ep3:andI .i64 x3 65535=(p3:Int):=ep3;have hl7:=hi7.len;refine h.al fun w1 h=>?_
 generalize w.heap.size=ab at h⊢;refine h.al fun w2 h=>?_
 generalize w1.heap.size=xb at h⊢;refine h.lc_6 (x3:=s4) (x4:=s5) rfl ?_;refine R19_spec hi4 hi5 h fun n bi li ps room s' s5' w n1 n3 b6 b12 l3 hpn hps r1 r8 h=>?_
 refine h.al fun w3 h=>?_
 generalize w.heap.size=pb at h⊢;refine h.stLc rfl rfl fun w h=>?_
 (try dsimp only[putAt,List.set_cons_zero,List.set_cons_succ] at h)
 refine h.lc_4 (x3:=s') rfl ?_;refine ⟨s5',h.ldd rfl,_,h.ldd rfl, ?_⟩;have hct:(calls.take 40).length≤40:=by rw[List.length_take];omega
 have hpr:=prOk_of hg5;refine New_spec (prios:=ps) (prog:=calls.take 40) (s:=s') (s5:=s5') n1 (by omega) (by omega) (by omega) hpn hps r1 r8 (by omega) h fun mb w h=>?_
 have k0:MOk n 1 0 (newM (Ker.bootK n bi li ps) n (calls.take 40) room):=newM_ok n1 (by omega) (by omega) (by omega) hpn hps r1 r8;intro k38 hk38;refine cbF rfl ?_;apply hk38;refine cneF rfl ?_;intro l41 hl41
 have body:∀(i:Nat) (m:Mch) (w:World),i≤60->MOk n (1+64*i) i m->m.prog=calls.take 40->
   Vc.Own w0.heap.size w0 w [MchA mb m,BlkA pb [.z (n:Int), .z (bi:Int), .z (li:Int), .slice s'.a s'.len s'.cap, .slice s5'.a s5'.len s5'.cap, .z room],BlkA xb [.z x1, .z x2, .z x3, .z x4]]->
   (∀(m':Mch) (w':World),i<60->MOk n (1+64*(i+1)) (i+1) m'->m'.prog=calls.take 40->Vc.Own w0.heap.size w0 w' [MchA mb m',BlkA pb [.z (n:Int), .z (bi:Int), .z (li:Int), .slice s'.a s'.len s'.cap, .slice s5'.a s5'.len s5'.cap, .z room],BlkA xb [.z x1, .z x2, .z x3, .z x4]]->l41 ((i+1:Nat):Int) w')->l41 (i:Int) w:=by
  intro i m w hi60 hm hmp h next
  have hcs:=hm.cs;have hprm:PrOk m.prog:=by rw[hmp];exact hpr
  apply hl41;intro k44 hk44
  have fin:k44 false w:=by
   apply hk44;refine cbF rfl ?_;refine MHeld_spec hm h fun sh w h=>?_
   refine Line_spec hm (h.pick (A:=MchA mb m)) fun sl w h=>?_
   refine ⟨_,h.ldc rfl,_,h.ldc rfl,_,h.ldd rfl,_,h.ldd rfl,_,h.ldd rfl, ?_⟩;rw[ep2,show IntKind.i64.wrap ((n:Int)+(p2:Int))=(n:Int)+(p2:Int) from wr (by omega) (by omega)];refine Step_out (it:=⟨x1,(n:Int)+(p2:Int),x3,x4⟩) hm (by omega) (by omega) hprm (decide_eq_false fun hh=>by have:=hh.2.2.2.1;dsimp only at this;omega) (h.pick (A:=MchA mb m)) fun fs w h=>?_
   refine h.al fun w2 h=>?_
   generalize w.heap.size=c1 at h⊢;refine h.stLc rfl rfl fun w h=>?_
   (try dsimp only[putAt,List.set_cons_zero,List.set_cons_succ] at h)
   refine ⟨_,h.ldc rfl, ?_⟩;rw[ep1,show IntKind.i64.wrap (4+(p1:Int))=4+(p1:Int) from wr (by omega) (by omega)];refine Step_out (it:=⟨4+(p1:Int),0,0,0⟩) hm (by omega) (by omega) hprm (decide_eq_false fun hh=>by have:=hh.2.1;dsimp only at this;omega) (h.pick (A:=MchA mb m)) fun fs w h=>?_
   refine h.al fun w2 h=>?_
   generalize w.heap.size=c2 at h⊢;refine h.stLc rfl rfl fun w h=>?_
   (try dsimp only[putAt,List.set_cons_zero,List.set_cons_succ] at h)
   refine ⟨_,h.ldd rfl, ?_⟩;rw[ep3,show IntKind.i64.wrap (256+(p3:Int))=256+(p3:Int) from wr (by omega) (by omega)];refine Step_out (it:=⟨0,0,256+(p3:Int),0⟩) hm (by omega) (by omega) hprm (decide_eq_false fun hh=>by have:=hh.2.2.2.2.1.2;dsimp only at this;omega) (h.pick (A:=MchA mb m)) fun fs w h=>?_
   refine h.al fun w2 h=>?_
   generalize w.heap.size=c3 at h⊢;refine h.stLc rfl rfl fun w h=>?_
   (try dsimp only[putAt,List.set_cons_zero,List.set_cons_succ] at h)
   refine cbT rfl (cbT rfl (cbT rfl ?_));refine MHeld_spec hm (h.pick (A:=MchA mb m)) fun sh2 w h=>?_
   refine ref05_Same_spec h (Rd.own (h.lenc sh2)) (Rd.own (h.lenc sh)) (by have:=heldL_len m.k.H;omega) fun w h=>?_
   refine cbT (decide_eq_true rfl) ?_;refine Line_spec hm (h.pick (A:=MchA mb m)) fun sl2 w h=>?_
   refine ceqT (by rw[h.lenc sl2,h.lenc sl]) ?_;exact fixed19_spec (h.sub:Vc.Own w0.heap.size w0 w []) hK
  refine cdec (fun e=>?_) (fun e=>fin);by_cases e60:i<60
  ·rw[decide_eq_true (show (i:Int)<60 by omega)]
   apply hk44;refine cbT rfl ?_;have hlt:i<items.length:=by omega
   obtain ⟨x,hxx⟩:∃x,items[i]?=some x:=⟨_,gE hlt⟩
   rw[show (i:Int).toNat=i from Int.toNat_natCast i];obtain ⟨a,ha,hc⟩:=hi7.get h hxx;refine ⟨a,ha,by omega,e, ?_⟩;refine ldItem hc ?_;refine Step_spec (it:=x) hm (by omega) (by omega) hprm h fun fs w h=>?_
   rw[show IntKind.i64.wrap ((i:Int)+1)=((i+1:Nat):Int) from by rw[wr (by omega) (by omega)];omega];exact next _ w e60 ((hm.item (by omega) x).1.mono (by omega) (Nat.le_refl _)) (by rw[item_prog];exact hmp) h.drop
  ·rw[decide_eq_false (show ¬(i:Int)<60 by omega)]
   exact fin
 have loop:∀(d i:Nat) (m:Mch) (w:World),i+d=60->MOk n (1+64*i) i m->m.prog=calls.take 40->
   Vc.Own w0.heap.size w0 w [MchA mb m,BlkA pb [.z (n:Int), .z (bi:Int), .z (li:Int), .slice s'.a s'.len s'.cap, .slice s5'.a s5'.len s5'.cap, .z room],BlkA xb [.z x1, .z x2, .z x3, .z x4]]->l41 (i:Int) w:=by
  intro d
  induction d with
  |zero=>exact fun i m w hid hm hmp h=>body i m w (by omega) hm hmp h fun m' w' hlt=>by omega
  |succ d ih=>exact fun i m w hid hm hmp h=>body i m w (by omega) hm hmp h fun m' w' hlt hm hmp h=>ih (i+1) m' w' (by omega) hm hmp h
 exact loop 60 0 _ w rfl k0 rfl h.sub
end
end Go.Proofs.YtghikphgplamkaaGreat.Mc
end
section
namespace Go.Proofs.YtghikphgplamkaaGreat
open Go Go.Vc Go.ChangeShapes Go.WideShapes
theorem Mc.callDec:∀cs,Fits [.int .i64, .int .i64, .int .i64, .int .i64, .int .i64, .int .i64] cs->∃x,cs=Mc.callE.enc x/\Mc.callGood x:=fun cs h0=>by
 obtain ⟨_,_,rfl,⟨a,rfl,_⟩,h1⟩:=h0.cons_out;obtain ⟨_,_,rfl,⟨b,rfl,_⟩,h2⟩:=h1.cons_out;obtain ⟨_,_,rfl,⟨c,rfl,hc⟩,h3⟩:=h2.cons_out;obtain ⟨_,_,rfl,⟨d,rfl,_⟩,h4⟩:=h3.cons_out;obtain ⟨_,_,rfl,⟨e,rfl,_⟩,h5⟩:=h4.cons_out;obtain ⟨_,_,rfl,⟨f,rfl,_⟩,h6⟩:=h5.cons_out;obtain rfl:=h6.nil_out;exact ⟨⟨a,b,c,d,e,f⟩,rfl,hc⟩
theorem Mc.itemDec:∀cs,Fits [.int .i64, .int .i64, .int .i64, .int .i64] cs->∃x,cs=Mc.itemE.enc x/\Mc.itemGood x:=fun cs h0=>by
 obtain ⟨_,_,rfl,⟨a,rfl,_⟩,h1⟩:=h0.cons_out;obtain ⟨_,_,rfl,⟨b,rfl,_⟩,h2⟩:=h1.cons_out;obtain ⟨_,_,rfl,⟨c,rfl,_⟩,h3⟩:=h2.cons_out;obtain ⟨_,_,rfl,⟨d,rfl,_⟩,h4⟩:=h3.cons_out;obtain rfl:=h4.nil_out;exact ⟨⟨a,b,c,d⟩,rfl,trivial⟩
section
variable {H:Type} {enc:TypeId × Value->H} {P:Program} {held:Bool}
theorem aggP_of {t e e1:TypeId} {f0 f1 f2 g0 g1 g2 g3:Field} {W:World} {sp:Nat->Bool} {v:Value} {dd:DataW H} {ps:List MemPlace} {r:Reach} {b0:Nat} (ht:P.underlying t=some (.struct #[f0,f1,f2])) (hb:P.underlying f0.type=some (.struct #[g0,g1,g2,g3]))
  (h0:P.underlying g0.type=some (.int .i64)) (h1:P.underlying g1.type=some (.int .i64)) (h2:P.underlying g2.type=some (.int .i64)) (h3:P.underlying g3.type=some (.slice e)) (h4:P.underlying f1.type=some (.slice e1)) (h5:P.underlying f2.type=some (.int .i64))
  (ho:(f0.offset,f1.offset,f2.offset,g0.offset,g1.offset,g2.offset,g3.offset)=(0,4,5,0,1,2,3)) (hcc:(P.cellsOf f0.type,P.cellsOf f1.type,P.cellsOf f2.type,P.cellsOf g0.type,P.cellsOf g1.type,P.cellsOf g2.type,P.cellsOf g3.type)=(4,1,1,1,1,1,1)) (hc:P.cellsOf t=6)
  (hval:Value.okWide P W r b0 t v) (h:DataW.Trod enc P W 0 sp held t v dd ps):
  ∃(x0 x1 x2 x5:Int) (s s':Sl) (d d':DataW H) (p p':List MemPlace),v= .agg #[.z x0, .z x1, .z x2, .slice s.a s.len s.cap, .slice s'.a s'.len s'.cap, .z x5]/\(Lit.int .i64 x0).wf=true/\(Lit.int .i64 x1).wf=true/\(Lit.int .i64 x2).wf=true/\(Lit.int .i64 x5).wf=true/\
   DataW.Trod enc P W 0 sp held g3.type (.slice s.a s.len s.cap) d p/\DataW.Trod enc P W 0 sp held f1.type (.slice s'.a s'.len s'.cap) d' p':=by
 simp only[Prod.mk.injEq] at ho hcc;obtain ⟨o0,o1,o2,q0,q1,q2,q3⟩:=ho;obtain ⟨c0,c1,c2,r0,r1,r2,r3⟩:=hcc;obtain ⟨cs,rfl,hsz⟩:=okWide_struct ht hval
 obtain ⟨x0,x1,x2,x3,x4,x5,rfl⟩:∃x0 x1 x2 x3 x4 x5,cs= #[x0,x1,x2,x3,x4,x5]:=by
  obtain ⟨l⟩:=cs
  match l,(hsz.trans hc) with
  | [c0,c1,c2,c3,c4,c5],_=>exact ⟨c0,c1,c2,c3,c4,c5,rfl⟩
 obtain ⟨fuel,hf⟩:=h;obtain ⟨xs,n,_,_,hl,hlen,hfs⟩:=DataW.trod_struct ht hf
 match xs,hlen with
 | [y0,y1,y2],_=>
  have k0:=hfs 0 f0 rfl;have k1:=hfs 1 f1 rfl;have k2:=hfs 2 f2 rfl;simp only[o0,o1,o2,c0,c1,c2,Value.cells] at k0 k1 k2;simp at k0 k1 k2;obtain ⟨zs,n',_,_,_,hlen',hgs⟩:=DataW.trod_struct hb k0
  match zs,hlen' with
  | [z0,z1,z2,z3],_=>
   have j0:=hgs 0 g0 rfl;have j1:=hgs 1 g1 rfl;have j2:=hgs 2 g2 rfl;have j3:=hgs 3 g3 rfl;simp only[q0,q1,q2,q3,r0,r1,r2,r3] at j0 j1 j2 j3;simp at j0 j1 j2 j3;obtain ⟨n0,e0,_,w0⟩:=DataW.trod_int h0 j0;obtain ⟨n1,e1,_,w1⟩:=DataW.trod_int h1 j1;obtain ⟨n2,e2,_,w2⟩:=DataW.trod_int h2 j2;obtain ⟨a3,l3,k3,e3⟩:=Go.Joins.slice_form h3 j3;obtain ⟨a4,l4,k4,e4⟩:=Go.Joins.slice_form h4 k1;obtain ⟨n5,e5,_,w5⟩:=DataW.trod_int h5 k2;simp only[List.cons.injEq,and_true] at e0 e1 e2 e3 e4 e5;subst e0;subst e1;subst e2;subst e3;subst e4;subst e5;exact ⟨n0,n1,n2,n5,⟨a3,l3,k3⟩,⟨a4,l4,k4⟩,z3.1,y1.1,z3.2,y1.2,rfl,w0,w1,w2,w5,⟨n',by simpa [Value.cells] using j3⟩,⟨n,by simpa [Value.cells] using k1⟩⟩
end
end Go.Proofs.YtghikphgplamkaaGreat
end
