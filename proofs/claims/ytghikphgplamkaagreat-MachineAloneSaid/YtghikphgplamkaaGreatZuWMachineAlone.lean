/- What the row rests on: the law, at the model and walked. -/
import Derived.Test.YtghikphgplamkaaGreatZu10
set_option linter.unusedVariables false
set_option linter.unusedSimpArgs false
set_option linter.unusedSectionVars false
section
namespace Go.Proofs.YtghikphgplamkaaGreat
open Go Go.Vc Go.ChangeShapes Go.WideShapes
theorem intDec18:∀cs,Fits [.int .i64] cs->∃x,cs=intE.enc x/\(Lit.int .i64 x).wf=true:=fun cs h=>by
 obtain ⟨_,_,rfl,⟨a,rfl,ha⟩,h1⟩:=h.cons_out;obtain rfl:=h1.nil_out;exact ⟨a,rfl,ha⟩
end Go.Proofs.YtghikphgplamkaaGreat
end
section
set_option maxRecDepth 8000
namespace Go.Proofs.YtghikphgplamkaaGreat.Mc
open Go Go.Vc Go.Proofs
def callGood (c:Call):Prop:=(Lit.int .i64 c.with_).wf=true
theorem wf64 {x:Int} (h:(Lit.int .i64 x).wf=true): -9223372036854775808≤x/\x<9223372036854775808:=by
 have h1:(decide (IntKind.i64.min≤x)&&decide (x≤IntKind.i64.max))=true:=h;rw[show IntKind.i64.min= -9223372036854775808 from rfl,show IntKind.i64.max=9223372036854775807 from rfl] at h1;simp only[Bool.and_eq_true,decide_eq_true_eq] at h1;omega
theorem prOk_of {calls:List Call} (h:∀c∈calls,callGood c):PrOk (calls.take 40):=fun c hc=>wf64 (h c (List.mem_of_mem_take hc))
end Go.Proofs.YtghikphgplamkaaGreat.Mc
end
section
namespace Go.Proofs.YtghikphgplamkaaGreat
open Go Go.Vc Go.ChangeShapes Go.WideShapes
theorem Mc.callDec:∀cs,Fits [.int .i64, .int .i64, .int .i64, .int .i64, .int .i64, .int .i64] cs->∃x,cs=Mc.callE.enc x/\Mc.callGood x:=fun cs h0=>by
 obtain ⟨_,_,rfl,⟨a,rfl,_⟩,h1⟩:=h0.cons_out;obtain ⟨_,_,rfl,⟨b,rfl,_⟩,h2⟩:=h1.cons_out;obtain ⟨_,_,rfl,⟨c,rfl,hc⟩,h3⟩:=h2.cons_out;obtain ⟨_,_,rfl,⟨d,rfl,_⟩,h4⟩:=h3.cons_out;obtain ⟨_,_,rfl,⟨e,rfl,_⟩,h5⟩:=h4.cons_out;obtain ⟨_,_,rfl,⟨f,rfl,_⟩,h6⟩:=h5.cons_out;obtain rfl:=h6.nil_out;exact ⟨⟨a,b,c,d,e,f⟩,rfl,hc⟩
section
variable {H:Type} {enc:TypeId × Value->H} {P:Program} {held:Bool}
theorem aggP_of {t e e1:TypeId} {f0 f1 f2 g0 g1 g2 g3:Field} {W:World} {sp:Nat->Bool} {v:Value} {dd:DataW H} {ps:List MemPlace} {r:Reach} {b0:Nat} (ht:P.underlying t=some (.struct #[f0,f1,f2])) (hb:P.underlying f0.type=some (.struct #[g0,g1,g2,g3]))
  (h0:P.underlying g0.type=some (.int .i64)) (h1:P.underlying g1.type=some (.int .i64)) (h2:P.underlying g2.type=some (.int .i64)) (h3:P.underlying g3.type=some (.slice e)) (h4:P.underlying f1.type=some (.slice e1)) (h5:P.underlying f2.type=some (.int .i64))
  (ho:(f0.offset,f1.offset,f2.offset,g0.offset,g1.offset,g2.offset,g3.offset)=(0,4,5,0,1,2,3)) (hcc:(P.cellsOf f0.type,P.cellsOf f1.type,P.cellsOf f2.type,P.cellsOf g0.type,P.cellsOf g1.type,P.cellsOf g2.type,P.cellsOf g3.type)=(4,1,1,1,1,1,1)) (hc:P.cellsOf t=6)
  (hval:Value.okWide P W r b0 t v) (h:DataW.Trod enc P W 0 sp held t v dd ps):
  ∃(x0 x1 x2 x5:Int) (s s':Sl) (d d':DataW H) (p p':List MemPlace),v= .agg #[.z x0, .z x1, .z x2, .slice s.a s.len s.cap, .slice s'.a s'.len s'.cap, .z x5]/\(Lit.int .i64 x0).wf=true/\(Lit.int .i64 x1).wf=true/\(Lit.int .i64 x2).wf=true/\(Lit.int .i64 x5).wf=true/\
   DataW.Trod enc P W 0 sp held g3.type (.slice s.a s.len s.cap) d p/\DataW.Trod enc P W 0 sp held f1.type (.slice s'.a s'.len s'.cap) d' p':=by
 simp only[Prod.mk.injEq] at ho hcc;obtain ⟨o0,o1,o2,q0,q1,q2,q3⟩:=ho;obtain ⟨c0,c1,c2,r0,r1,r2,r3⟩:=hcc;obtain ⟨cs,rfl,hsz⟩:=okWide_struct ht hval
 obtain ⟨x0,x1,x2,x3,x4,x5,rfl⟩:∃x0 x1 x2 x3 x4 x5,cs= #[x0,x1,x2,x3,x4,x5]:=by
  obtain ⟨l⟩:=cs
  match l,(hsz.trans hc) with
  | [c0,c1,c2,c3,c4,c5],_=>exact ⟨c0,c1,c2,c3,c4,c5,rfl⟩
 obtain ⟨fuel,hf⟩:=h;obtain ⟨xs,n,_,_,hl,hlen,hfs⟩:=DataW.trod_struct ht hf
 match xs,hlen with
 | [y0,y1,y2],_=>
  have k0:=hfs 0 f0 rfl;have k1:=hfs 1 f1 rfl;have k2:=hfs 2 f2 rfl;simp only[o0,o1,o2,c0,c1,c2,Value.cells] at k0 k1 k2;simp at k0 k1 k2;obtain ⟨zs,n',_,_,_,hlen',hgs⟩:=DataW.trod_struct hb k0
  match zs,hlen' with
  | [z0,z1,z2,z3],_=>
   have j0:=hgs 0 g0 rfl;have j1:=hgs 1 g1 rfl;have j2:=hgs 2 g2 rfl;have j3:=hgs 3 g3 rfl;simp only[q0,q1,q2,q3,r0,r1,r2,r3] at j0 j1 j2 j3;simp at j0 j1 j2 j3;obtain ⟨n0,e0,_,w0⟩:=DataW.trod_int h0 j0;obtain ⟨n1,e1,_,w1⟩:=DataW.trod_int h1 j1;obtain ⟨n2,e2,_,w2⟩:=DataW.trod_int h2 j2;obtain ⟨a3,l3,k3,e3⟩:=Go.Joins.slice_form h3 j3;obtain ⟨a4,l4,k4,e4⟩:=Go.Joins.slice_form h4 k1;obtain ⟨n5,e5,_,w5⟩:=DataW.trod_int h5 k2;simp only[List.cons.injEq,and_true] at e0 e1 e2 e3 e4 e5;subst e0;subst e1;subst e2;subst e3;subst e4;subst e5;exact ⟨n0,n1,n2,n5,⟨a3,l3,k3⟩,⟨a4,l4,k4⟩,z3.1,y1.1,z3.2,y1.2,rfl,w0,w1,w2,w5,⟨n',by simpa [Value.cells] using j3⟩,⟨n,by simpa [Value.cells] using k1⟩⟩
end
end Go.Proofs.YtghikphgplamkaaGreat
end
section
set_option maxRecDepth 8000
namespace Go.Proofs.YtghikphgplamkaaGreat.Mc
open Go Go.Vc Go.Proofs
section
variable {k:Ker} {q room:Int} {prog:List Call}
abbrev al1 (k:Ker) (q room:Int) (prog:List Call):Mch:=⟨k,[],[[]],[⟨[],1,q,tZ⟩],room,prog⟩
abbrev al2 (k:Ker) (q room:Int) (prog:List Call):Mch:=⟨k,[0],[[]],[⟨[],2,q,tZ⟩],room,prog⟩
abbrev al3 (k:Ker) (q room:Int) (prog:List Call) (t:Told) (l:List Lne):Mch:=⟨k,[0],[[]],[⟨l,3,q,t⟩],room,prog⟩
abbrev al4 (k:Ker) (q room:Int) (prog:List Call) (t:Told) (l:List Lne):Mch:=⟨k,[],[[]],[⟨l,0,q,t⟩],room,prog⟩
theorem al_e0 (h:prog.length=0):(newM k 1 prog room).item ⟨1,0,0,0⟩=(none,newM k 1 prog room):=by
 have e:(newM k 1 prog room).item ⟨1,0,0,0⟩=if (0:Int)<(prog.length:Int) then (none,al1 k 0 room prog) else (none,newM k 1 prog room):=by rfl
 rw[e,h];rfl
theorem al_e1 (h0:0≤q) (h1:q<(prog.length:Int)) (h2:q≤255):(newM k 1 prog room).item ⟨1,0,q,0⟩=(none,al1 k q room prog):=by
 have hr:rightI ⟨1,0,q,0⟩ (newM k 1 prog room).cs.length=true:=decide_eq_true (by dsimp only;have:(newM k 1 prog room).cs.length=1:=rfl;omega);unfold Mch.item;rw[if_neg (by rw[hr];decide),if_pos rfl];unfold Mch.user;rw[if_neg (fun h=>h rfl),if_neg (show ¬(0:Int)<0 by decide)];exact (if_pos h1).trans rfl
theorem al_e2:(al1 k q room prog).item ⟨0,0,0,0⟩=(some ⟨0,0,q,tZ,(0,0),false⟩,al2 k q room prog):=by rfl
theorem send_one:∀l:List Lne,sendAll 0 l [[]]= [[]]
 | []=>rfl
 |x::l=>by
  show sendAll 0 l (allB 0 (aboutOf x) [[]])=_;rw[show allB 0 (aboutOf x) [[]]= [[]] from rfl];exact send_one l
theorem al_e3:(al2 k q room prog).item ⟨0,0,0,0⟩=(some ⟨1,0,q,(k.do 0 ((al2 k q room prog).callOf 0)).1,(0,0),false⟩,al3 (k.do 0 ((al2 k q room prog).callOf 0)).2 q room prog (k.do 0 ((al2 k q room prog).callOf 0)).1 (dropAll (k.do 0 ((al2 k q room prog).callOf 0)).1.forget [])):=by
 have e:(al2 k q room prog).item ⟨0,0,0,0⟩=(some ((al2 k q room prog).did 0).1,((al2 k q room prog).did 0).2):=by rfl
 rw[e,did_eq (m:=al2 k q room prog) (n:=0) (show 0<1 by decide),send_one];rfl
theorem al_e4 {t:Told} {l:List Lne}:(al3 k q room prog t l).item ⟨0,0,0,0⟩=(some ⟨2,0,q,t,(0,0),false⟩,al4 k q room prog t l):=by rfl
theorem al_e5 {t:Told} {l:List Lne}:(al4 k q room prog t l).item ⟨0,0,0,0⟩=(none,al4 k q room prog t l):=by rfl
end
section
variable {B:Nat} {w0 w:World} {R L:List Asn} {b nc N g:Nat} {m:Mch}
set_option maxHeartbeats 2000000 in
theorem law19_MachineAlone_spec {o1 o2 o3 o6 kk:Int} {prios:List Int} {calls:List Call} {s4 s5:Sl} {K:Bool->Pw}
  (_:(Lit.int .i64 o1).wf=true) (_:(Lit.int .i64 o2).wf=true) (_:(Lit.int .i64 o3).wf=true) (hi4:Inp intE w0 s4 prios) (_:∀x∈prios,(Lit.int .i64 x).wf=true) (hi5:Inp callE w0 s5 calls) (hg5:∀c∈calls,callGood c) (_:(Lit.int .i64 o6).wf=true)
  (_:(Lit.int .i64 kk).wf=true)
  (h:Vc.Own w0.heap.size w0 w []) (hK:∀w',Vc.Own w0.heap.size w0 w' []->K true w'):C.qbS o1 o2 o3 s4 s5 o6 kk K w:=by
 apply S.qbS0;obtain ⟨pk,hpk,epk⟩:=Sl.andle kk 65535 (by decide);have epk:andI .i64 kk 65535=(pk:Int):=epk;refine h.al fun w1 h=>?_
 generalize w.heap.size=ab at h⊢;refine h.lc_6 (x3:=s4) (x4:=s5) rfl ?_;refine R19_spec hi4 hi5 h fun n bi li ps room s' s5' w n1 n3 b6 b12 l3 hpn hps r1 r8 h=>?_
 refine h.al fun w3 h=>?_
 generalize w.heap.size=pb at h⊢;refine h.stLc rfl rfl fun w h=>?_
 (try dsimp only[putAt,List.set_cons_zero,List.set_cons_succ] at h)
 refine h.stc rfl rfl fun w h=>?_
 (try dsimp only[putAt,List.set_cons_zero,List.set_cons_succ] at h)
 have hls:=h.lenc s';have hcap:=(h.pick (A:=SlT intE s' ps)).slRaw.le_cap;refine ⟨s',h.ldd rfl,by decide,by omega, ?_⟩;rw[slA_zero];refine h.std rfl rfl fun w h=>?_
 (try dsimp only[putAt,List.set_cons_zero,List.set_cons_succ] at h)
 have h:=(h.pick (A:=SlT intE s' ps)).pre 0 rfl (n:=1) (by omega);have h:Vc.Own w0.heap.size w0 w [SlT intE ⟨s'.a,1,s'.cap⟩ (ps.take 1),BlkA pb [.z 1, .z (bi:Int), .z (li:Int), .slice s'.a 1 s'.cap, .slice s5'.a s5'.len s5'.cap, .z room],SlT callE s5' (calls.take 40),BlkA ab [.z o1, .z o2, .z o3, .slice s4.a s4.len s4.cap, .slice s5.a s5.len s5.cap, .z o6]]:=h;refine h.lc_4 (x3:=(⟨s'.a,1,s'.cap⟩:Sl)) rfl ?_;refine ⟨s5',h.ldd rfl,_,h.ldd rfl, ?_⟩;have hct:(calls.take 40).length≤40:=by rw[List.length_take];omega
 have hpr:=prOk_of hg5;have hl5:=h.lenc s5';have hp1:(ps.take 1).length=1:=by rw[List.length_take];omega
 have hps1:∀p∈ps.take 1,0≤p/\p<256:=fun p hp=>hps p (List.mem_of_mem_take hp)
 refine New_spec (c:=1) (prios:=ps.take 1) (prog:=calls.take 40) (s:=⟨s'.a,1,s'.cap⟩) (s5:=s5') (by decide) (by decide) (by omega) (by omega) hp1 hps1 r1 r8 (by omega) h fun mb w h=>?_
 have k0:MOk 1 1 0 (newM (Ker.bootK 1 bi li (ps.take 1)) 1 (calls.take 40) room):=newM_ok (by decide) (by decide) (by omega) (by omega) hp1 hps1 r1 r8;generalize Ker.bootK 1 bi li (ps.take 1)=k at h k0;generalize calls.take 40=prog at h k0 hct hpr hl5;have h:Vc.Own w0.heap.size w0 w [MchA mb (newM k 1 prog room),BlkA pb [.z 1, .z (bi:Int), .z (li:Int), .slice s'.a 1 s'.cap, .slice s5'.a s5'.len s5'.cap, .z room]]:=h.sub;intro k36 hk36;refine cbF rfl ?_;apply hk36;refine cneF rfl ?_;refine ⟨s5',h.ldd rfl, ?_⟩;refine ceq (fun e=>?_) (fun e=>?_)
 ·refine Step_spec (it:=⟨1,0,0,0⟩) k0 (by omega) (by omega) hpr h fun fs w h=>?_
  rw[al_e0 (by omega)] at h⊢;refine h.al fun w2 h=>?_
  generalize w.heap.size=c1 at h⊢;refine h.stLc rfl rfl fun w h=>?_
  (try dsimp only[putAt,List.set_cons_zero,List.set_cons_succ] at h)
  refine cbT rfl ?_;exact fixed19_spec (h.sub:Vc.Own w0.heap.size w0 w []) hK
 ·refine ⟨s5',h.ldd rfl,e, ?_⟩
  obtain ⟨q,hq⟩:∃q:Nat,q=pk%s5'.len:=⟨_,rfl⟩
  have hl0:0<s5'.len:=by omega
  have hql:q<s5'.len:=by rw[hq];exact Nat.mod_lt _ hl0
  rw[epk,show (pk:Int).tmod (s5'.len:Int)=(q:Int) from by rw[hq];exact (Int.ofNat_tmod pk s5'.len).symm];have e1:=al_e1 (k:=k) (room:=room) (prog:=prog) (q:=(q:Int)) (by omega) (by omega) (by omega);have k1:=(k0.item (by decide) ⟨1,0,(q:Int),0⟩).1;rw[e1] at k1;have k2:=(k1.item (by decide) ⟨0,0,0,0⟩).1;rw[al_e2] at k2;have k3:=(k2.item (by decide) ⟨0,0,0,0⟩).1;have e3:=al_e3 (k:=k) (room:=room) (prog:=prog) (q:=(q:Int));generalize (k.do 0 ((al2 k (q:Int) room prog).callOf 0)).1=t at e3;generalize (k.do 0 ((al2 k (q:Int) room prog).callOf 0)).2=k' at e3;rw[e3] at k3;have k4:=(k3.item (by decide) ⟨0,0,0,0⟩).1;rw[al_e4] at k4;refine Step_spec (it:=⟨1,0,(q:Int),0⟩) k0 (by omega) (by omega) hpr h fun fs w h=>?_
  rw[e1] at h⊢;refine h.al fun w2 h=>?_
  generalize w.heap.size=c1 at h⊢;refine h.stLc rfl rfl fun w h=>?_
  (try dsimp only[putAt,List.set_cons_zero,List.set_cons_succ] at h)
  refine Step_spec (it:=⟨0,0,0,0⟩) k1 (by omega) (by omega) hpr (h.pick (A:=MchA mb (al1 k (q:Int) room prog))) fun fs w h=>?_
  rw[al_e2] at h⊢;refine h.al fun w2 h=>?_
  generalize w.heap.size=c2 at h⊢;refine h.stLc rfl rfl fun w h=>?_
  (try dsimp only[putAt,List.set_cons_zero,List.set_cons_succ] at h)
  refine Step_spec (it:=⟨0,0,0,0⟩) k2 (by omega) (by omega) hpr (h.pick (A:=MchA mb (al2 k (q:Int) room prog))) fun fs w h=>?_
  rw[e3] at h⊢;refine h.al fun w2 h=>?_
  generalize w.heap.size=c3 at h⊢;refine h.stLc rfl rfl fun w h=>?_
  (try dsimp only[putAt,List.set_cons_zero,List.set_cons_succ] at h)
  refine Step_spec (it:=⟨0,0,0,0⟩) k3 (by omega) (by omega) hpr (h.pick (A:=MchA mb (al3 k' (q:Int) room prog t (dropAll t.forget [])))) fun fs w h=>?_
  rw[al_e4] at h⊢;refine h.al fun w2 h=>?_
  generalize w.heap.size=c4 at h⊢;refine h.stLc rfl rfl fun w h=>?_
  (try dsimp only[putAt,List.set_cons_zero,List.set_cons_succ] at h)
  refine Core_spec (n:=0) k4 (h.pick (A:=MchA mb (al4 k' (q:Int) room prog t (dropAll t.forget [])))) ?_;refine Step_spec (it:=⟨0,0,0,0⟩) k4 (by omega) (by omega) hpr (h.pick (A:=MchA mb (al4 k' (q:Int) room prog t (dropAll t.forget [])))) fun fs w h=>?_
  rw[al_e5] at h⊢;refine h.al fun w2 h=>?_
  generalize w.heap.size=c5 at h⊢;refine h.stLc rfl rfl fun w h=>?_
  (try dsimp only[putAt,List.set_cons_zero,List.set_cons_succ] at h)
  refine cbT rfl (cbT rfl ?_);refine ⟨_,h.ldc rfl,ceqT rfl ?_⟩;refine ⟨_,h.ldd rfl,ceqT rfl (cbT rfl ?_)⟩;refine ⟨_,h.ldc rfl,ceqT rfl ?_⟩;refine ⟨_,h.ldd rfl,ceqT rfl (cbT rfl ?_)⟩;refine ⟨_,h.ldc rfl,ceqT rfl ?_⟩;refine ⟨_,h.ldd rfl,ceqT rfl ?_⟩;refine ⟨_,h.ldd rfl,_,h.ldd rfl,ceqT rfl ?_⟩;refine ⟨_,ld_add (h.ldd rfl),_,ld_add (h.ldd rfl),ceqT rfl ?_⟩;refine ceqT rfl (cbT rfl ?_);exact fixed19_spec (h.sub:Vc.Own w0.heap.size w0 w []) hK
end
end Go.Proofs.YtghikphgplamkaaGreat.Mc
end
